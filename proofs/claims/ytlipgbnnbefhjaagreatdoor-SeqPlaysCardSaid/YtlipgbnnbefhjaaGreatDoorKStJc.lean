/- Facts on rows of numbers on pages. -/
import Derived.Test.YtlipgbnnbefhjaaGreatDoorKStBc
set_option maxRecDepth 100000
set_option maxHeartbeats 8000000
set_option linter.unusedSimpArgs false
namespace Go.Proofs.YtlipgbnnbefhjaaGreatDoor
open Go.RowKit
open UK (str aO nth Only Row aI)
section
variable{E:Nat->Prop}{W W':World}{P D k:Nat}{A:AP}
def yH:Sn:=⟨true,0,[],[],[]⟩
theorem U5:bA yH:=⟨by show(0:Nat)<4294967296;omega,λ _=>⟨by show(0:Nat)<=48;omega,rfl,rfl⟩,λ h=>by cases h⟩
def M6(aC:Nat):List UInt8:=UK.wr (encS (UK.bW 504) yH) 496 (b32 aC)
def kJ(A:AP):AP:=(((A.take.az A.next (kQ (UK.bW 504) [] [])).take).az (A.take.az A.next (kQ (UK.bW 504) [] [])).next (encS (UK.bW 504) yH)).az (A.take.az A.next (kQ (UK.bW 504) [] [])).next (M6 A.next)
theorem Co{N M fb db cap pg m:Nat}{wd:Bool}{w:World}{rt T:Nat}(p9:PF (λ j=>E j\/(N<=j/\j<M)) w P D A m fb db cap pg wd) :
  PF (λ j=>(E j\/(N<=j/\j<M))\/(w.heap.size<=j/\j<w.heap.size+1)) (w.alloc (.cells #[.pointer P,.int .i64 (rt:Int),.pointer T] 70)) P D A m fb db cap pg wd:=
 p9.wide ((aP _ _).alloc (aZ _) _) (λ j hj=>by
  rw[show(w.alloc (.cells #[.pointer P,.int .i64 (rt:Int),.pointer T] 70)).heap.size=w.heap.size+1 by simp];exact hj)
theorem Cq{N M T rt aC:Nat}{w1 w9:World}(th:∀j,(E j\/(N<=j/\j<M))->j<w9.heap.size)(k9:Kept (λ j=>E j\/(N<=j/\j<M)) w1 w9)(hT:aI w1 T #[.pointer P,.int .i64 (aC:Int)]/\W.heap.size<=N/\N<=T/\T<M/\Kept E W w1)(wb:World)(kk:Nat)(hk:kk<=k+10)
  (pb:PZ (λ j=>(E j\/(N<=j/\j<M))\/(w9.heap.size<=j/\j<w9.heap.size+1)) wb P D A kk) (kb:Kept (λ j=>(E j\/(N<=j/\j<M))\/(w9.heap.size<=j/\j<w9.heap.size+1)) (w9.alloc (.cells #[.pointer P,.int .i64 (rt:Int),.pointer T] 70)) wb) :
  GM E W wb P D rt aC (k+10) A (.returned (.tuple #[.pointer w9,.int .i64 0])):=by
 obtain⟨bT,hN,hT1,Bd,k1⟩:=hT;have ba:Below w9 w9 (w9.alloc (.cells #[.pointer P,.int .i64 (rt:Int),.pointer T] 70)):=(aP _ _).alloc (aZ _) _;have bx:=aI.new w9 #[.pointer P,.int .i64 (rt:Int),.pointer T] 70;have k10:=k1.trans ((k9.trans (Kept.of_below ba th)).mono (λ j hj=>.inl hj));have Zg:=bT.af (k9.block T (.inr ⟨hT1,Bd⟩));have U6:=Zg.next ba;have hTl:=Zg.lt;have hM:M<=w9.heap.size:=by have:=th (M-1) (.inr ⟨by omega,by omega⟩);omega
 have hs:aD (λ j=>(E j\/(N<=j/\j<M))\/(w9.heap.size<=j/\j<w9.heap.size+1)) wb P D w9 T rt aC A (k+10):=⟨pb.up hk,bx.af (kb.block _ (.inr ⟨by omega,by omega⟩)),U6.af (kb.block _ (.inl (.inr ⟨hT1,Bd⟩))),.inr ⟨by omega,by omega⟩,.inl (.inr ⟨hT1,Bd⟩)⟩;refine⟨w9.heap.size,T,rfl,by omega,by omega,by omega,hs.less (.inr (.inl rfl)) (.inr (.inr rfl)) (λ j hj=>?_),k10.trans (kb.mono (λ j hj=>.inl (.inl hj)))⟩;rcases hj with hj|rfl|rfl
 ·exact .inl (.inl hj)
 ·exact .inr ⟨by omega,by omega⟩
 exact .inl (.inr ⟨hT1,Bd⟩)
theorem xz9(h:PZ E W P D A k)(hk:k+100<900000000)(hf:¬A.Full)(hf2:¬(A.take.az A.next (kQ (UK.bW 504) [] [])).Full)(hn:A.next<4294967296) :
  Calls Tryz.prog 22 #[.pointer P] W λ e w'=>GM E W w' P D (A.take.az A.next (kQ (UK.bW 504) [] [])).next A.next (k+10) (kJ A) e:=by
 have HT:=zH (xye h (by omega) hf);have HU:=zH (show((UInt32.ofNat A.next).toNat:Int)=(A.next:Int) by rw[sP];omega);have HW:=zH (show IntKind.u32.wrap (A.next:Int)=(A.next:Int) by rw[IntKind.wrap_u32];omega);have HN:=zH (show kJ A=(((A.take.az A.next (kQ (UK.bW 504) [] [])).take).az (A.take.az A.next (kQ (UK.bW 504) [] [])).next (encS (UK.bW 504) yH)).az (A.take.az A.next (kQ (UK.bW 504) [] [])).next (UK.wr (encS (UK.bW 504) yH) 496 (b32 A.next))from rfl);generalize kJ A=AN at HN ⊢;generalize A.take.az A.next (kQ (UK.bW 504) [] [])=A1 at *;have U7:=zH (show b32 A.next=aW (UInt32.ofNat A.next)from rfl);generalize A.next=aC at *;clear h hf
 go_enter_defers Tryz.func22,Tryz.ntmps22
 go_wp2_with fail
 refine HT.out.mono ?_;rintro e w1 ⟨T,N,M,rfl,bT,hN,hT1,Bd,p1,k1⟩;have HP:=zH (Og p1 (by omega) hf2);have H1:=zH (zA bT (zA hN (zA hT1 (zA Bd k1))));clear HT bT hN hT1 Bd p1 k1 hf2
 go_wp2_with fail
 refine HP.out.mono ?_;rintro e w2 ⟨fb,db,cap,rfl,p2,k2⟩;have HE:=zH (BN p2 (by omega));have H2:=zH k2;clear HP p2 k2
 go_wp2_with fail
 refine HE.out.mono ?_;rintro e w3 ⟨rfl,p3,k3⟩;have b4:Below w3 w3 (w3.alloc (.cells #[.bool true,.int .i64 0,.slice none 0 0,.slice none 0 0,.slice none 0 0] 75)):=(aP _ _).alloc (aZ _) _;have p4:=p3.next b4
 have U8:db<w3.heap.size:=by
  obtain⟨y',q1,_⟩:=p3.bytes;exact q1.lt
 obtain⟨y,y1,y2,y3,y4,y5⟩:=p4.bytes
 have hnr:gK (λ j=>j=w3.heap.size) (w3.alloc (.cells #[.bool true,.int .i64 0,.slice none 0 0,.slice none 0 0,.slice none 0 0] 75)) w3 yH:=
  ⟨.slice none 0 0,.slice none 0 0,.slice none 0 0,aI.new w3 _ _,rfl,Db,Db,Db⟩
 have HX:=zH (RQ hnr U5 y1 y2 y4 (by show ¬db=w3.heap.size;omega));have hy3:y.take 504=UK.bW 504:=y3.trans (by show dI A1.c A1.next (UK.bW 504) A1.next=_;unfold dI;rw[if_pos rfl]);have htk:=RL y yH (by omega) U5;rw[hy3]at htk;have hle:=Ah y yH (by omega) U5;have H4:=zH (zA p4 (zA (H2.out.trans (k3.trans (p3.kept b4))) (zA htk (hle.trans y2))));clear HE H2 p3 k3 b4 p4 U8 y1 y2 y3 y4 y5 hnr hy3 htk hle
 go_wp2_with fail
 refine HX.out.mono ?_;rintro e w5 ⟨rfl,b5,o5⟩;obtain⟨p4,k4,htk,hle⟩:=H4.out;obtain⟨p5,k5⟩:=p4.write o5 b5 hle;rw[htk]at p5;have hd5:Below w5 w5 w5.drew:=(aP _ _).drew;have HE:=zH (BN (p5.next hd5) (by omega));have GX:=(k4.trans k5).trans (p5.kept hd5);obtain⟨bT,hN,hT1,Bd,k1⟩:=H1.out;have HR:=zH (λ (w:World) (kw:Kept (λ j=>E j\/(N<=j/\j<M)) w5.drew w)=>xls (bT.af ((GX.trans kw).block T (.inr ⟨hT1,Bd⟩))))
 have hcap:504<=cap:=by
  obtain⟨y',_,q2,_,q4,_⟩:=p5.bytes;exact q4
 have i3:¬(cap=496):=by omega
 have i4:496<=cap:=by omega
 have i5:(496:Int)<=(cap:Int):=by omega
 have hw:=HW.out;have H5:=zH GX;clear HX H4 p4 k4 htk hle p5 k5 b5 o5 hd5 GX bT hN hT1 Bd k1
 have rV:=zH (λ (w6 w8:World) (p6:PF (λ j=>E j\/(N<=j/\j<M)) w6 P D (((A1.take.az A1.next (encS (UK.bW 504) yH))).keep A1.next) (k+3+2+1+1) fb db cap A1.next true) (k6:Kept (λ j=>E j\/(N<=j/\j<M)) w5.drew w6) (b8:aO w8 db (UK.wr p6.bytes.choose 496 (aW (UInt32.ofNat aC)))) (o8:Only db w6 w8)=>(show Hid (PF (λ j=>E j\/(N<=j/\j<M)) w8 P D AN (k+7) fb db cap A1.next true/\Kept (λ j=>E j\/(N<=j/\j<M)) w1 w8)from by
  have hbs:=p6.bytes.choose_spec;generalize p6.bytes.choose=y at hbs b8;obtain⟨y1,y2,y3,y4,y5⟩:=hbs;have hy3:y.take 504=encS (UK.bW 504) yH:=y3.trans (by show dI _ A1.next (encS (UK.bW 504) yH) A1.next=_;unfold dI;rw[if_pos rfl]);have U9:(UK.wr y 496 (aW (UInt32.ofNat aC))).length=cap:=by rw[UK.lm _ _ _ (by show 496+4<=_;omega)];exact y2
  obtain⟨p7,k7⟩:=p6.write o8 b8 U9;rw[BJ _ _ _ _ (by show 496+4<=504;omega) (by omega),hy3,<-U7.out]at p7;rw[HN.out];exact zH ⟨p7,H5.out.trans (k6.trans k7)⟩))
 go_wp2_with fail
 refine wp_region_any (by kernel_rfl) ?_;refine NU (S:=λ w'=>True) (late:=λ j=>decide (99<=j)) _ _ _ _ ?_;change qR _ _ _ _ _ _ _ _ _ (w5.drew);refine ru (i:=0) (j:=3) (by kernel_rfl) rfl rfl (λ K hK=>?_) (λ K hK=>?_)
 ·go_simp;refine zK hK ?_;refine ru (i:=1) (j:=3) (by kernel_rfl) rfl rfl (λ K hK=>?_) (λ K hK=>?_)
  ·go_simp;refine HE.out.mono ?_;rintro e w6 ⟨rfl,p6,k6⟩
   (try dsimp only)
   replace p6:=zH p6;replace k6:=zH k6;refine zK hK ?_;refine ru (i:=2) (j:=3) (by kernel_rfl) rfl rfl (λ K hK=>?_) (λ K hK=>?_)
   ·go_simp;refine zK hK ?_;refine zM 3 ?_;refine zL 4 λ K hK=>?_;go_simp;refine(HR.out _ k6.out).mono ?_;rintro e w7 ⟨rfl,rfl⟩
    (try dsimp only)
    refine zK hK ?_;refine zM 5 ?_;refine zL 6 λ K hK=>?_;go_simp;rw[<-HU.out];refine(sD p6.out.bytes.choose_spec.1 496 8 (cap-496) (by omega) (by have:=p6.out.bytes.choose_spec.2.1;omega) (by omega) (UInt32.ofNat aC)).mono ?_;rintro e w8 ⟨rfl,b8,o8⟩
    (try dsimp only)
    replace b8:=zH b8;replace o8:=zH o8;refine zK hK ?_;refine iR (by kernel_rfl) ?_ _;have hcut:=rV.out _ w8 p6.out k6.out b8.out o8.out;clear rV HE HR;obtain⟨w9,rM⟩:∃w9,w9=w8:=⟨_,rfl⟩;subst rM;clear p6 k6 b8 o8;obtain⟨p9,k9⟩:=hcut.out;have HG:=zH (yf p9);clear p9 k9
    go_wp2_with fail
    refine HG.out.mono ?_;rintro e wa ⟨rfl,jh⟩;rw[jh];clear jh wa;obtain⟨p9,k9⟩:=hcut.out;have tu:=zH (sK .returning (Co (rt:=A1.next) (T:=T) p9));have HF:=zH (Cq (A:=AN) (D:=D) (k:=k) (rt:=A1.next) p9.there k9 H1.out);clear HG hcut p9 k9 H1 H5;go_wp2;refine leaves_cons (f:=51) (args:= #[.pointer fb]) (by simp) (by simp[go_sem]) ?_;refine tu.out.mono ?_;rintro e u' wb ⟨rfl,rfl,pb,kb⟩;refine⟨_,results_tmp2 rfl _ _ _,?_⟩;exact HF.out wb _ (by omega) pb kb
   go_simp;refine zK hK ?_;refine ru (i:=2) (j:=4) (by kernel_rfl) rfl rfl (λ K hK=>?_) (λ K hK=>?_)
   ·go_simp;refine zK hK ?_;refine zL 4 λ K hK=>?_;go_simp;refine(HR.out _ k6.out).mono ?_;rintro e w7 ⟨rfl,rfl⟩
    (try dsimp only)
    refine zK hK ?_;refine zM 5 ?_;refine zL 6 λ K hK=>?_;go_simp;rw[<-HU.out];refine(sD p6.out.bytes.choose_spec.1 496 8 (cap-496) (by omega) (by have:=p6.out.bytes.choose_spec.2.1;omega) (by omega) (UInt32.ofNat aC)).mono ?_;rintro e w8 ⟨rfl,b8,o8⟩
    (try dsimp only)
    replace b8:=zH b8;replace o8:=zH o8;refine zK hK ?_;refine iR (by kernel_rfl) ?_ _;have hcut:=rV.out _ w8 p6.out k6.out b8.out o8.out;clear rV HE HR;obtain⟨w9,rM⟩:∃w9,w9=w8:=⟨_,rfl⟩;subst rM;clear p6 k6 b8 o8;obtain⟨p9,k9⟩:=hcut.out;have HG:=zH (yf p9);clear p9 k9
    go_wp2_with fail
    refine HG.out.mono ?_;rintro e wa ⟨rfl,jh⟩;rw[jh];clear jh wa;obtain⟨p9,k9⟩:=hcut.out;have tu:=zH (sK .returning (Co (rt:=A1.next) (T:=T) p9));have HF:=zH (Cq (A:=AN) (D:=D) (k:=k) (rt:=A1.next) p9.there k9 H1.out);clear HG hcut p9 k9 H1 H5;go_wp2;refine leaves_cons (f:=51) (args:= #[.pointer fb]) (by simp) (by simp[go_sem]) ?_;refine tu.out.mono ?_;rintro e u' wb ⟨rfl,rfl,pb,kb⟩;refine⟨_,results_tmp2 rfl _ _ _,?_⟩;exact HF.out wb _ (by omega) pb kb
   go_simp;refine(HR.out _ k6.out).mono ?_;rintro e w7 ⟨rfl,rfl⟩
   (try dsimp only)
   refine zK hK ?_;refine ru (i:=2) (j:=5) (by kernel_rfl) rfl rfl (λ K hK=>?_) (λ K hK=>?_)
   ·go_simp;refine zK hK ?_;refine zM 5 ?_;refine zL 6 λ K hK=>?_;go_simp;rw[<-HU.out];refine(sD p6.out.bytes.choose_spec.1 496 8 (cap-496) (by omega) (by have:=p6.out.bytes.choose_spec.2.1;omega) (by omega) (UInt32.ofNat aC)).mono ?_;rintro e w8 ⟨rfl,b8,o8⟩
    (try dsimp only)
    replace b8:=zH b8;replace o8:=zH o8;refine zK hK ?_;refine iR (by kernel_rfl) ?_ _;have hcut:=rV.out _ w8 p6.out k6.out b8.out o8.out;clear rV HE HR;obtain⟨w9,rM⟩:∃w9,w9=w8:=⟨_,rfl⟩;subst rM;clear p6 k6 b8 o8;obtain⟨p9,k9⟩:=hcut.out;have HG:=zH (yf p9);clear p9 k9
    go_wp2_with fail
    refine HG.out.mono ?_;rintro e wa ⟨rfl,jh⟩;rw[jh];clear jh wa;obtain⟨p9,k9⟩:=hcut.out;have tu:=zH (sK .returning (Co (rt:=A1.next) (T:=T) p9));have HF:=zH (Cq (A:=AN) (D:=D) (k:=k) (rt:=A1.next) p9.there k9 H1.out);clear HG hcut p9 k9 H1 H5;go_wp2;refine leaves_cons (f:=51) (args:= #[.pointer fb]) (by simp) (by simp[go_sem]) ?_;refine tu.out.mono ?_;rintro e u' wb ⟨rfl,rfl,pb,kb⟩;refine⟨_,results_tmp2 rfl _ _ _,?_⟩;exact HF.out wb _ (by omega) pb kb
   go_simp;refine zK hK ?_;refine zM 2 ?_;refine zL 6 λ K hK=>?_;go_simp;rw[<-HU.out];refine(sD p6.out.bytes.choose_spec.1 496 8 (cap-496) (by omega) (by have:=p6.out.bytes.choose_spec.2.1;omega) (by omega) (UInt32.ofNat aC)).mono ?_;rintro e w8 ⟨rfl,b8,o8⟩
   (try dsimp only)
   replace b8:=zH b8;replace o8:=zH o8;refine zK hK ?_;refine iR (by kernel_rfl) ?_ _;have hcut:=rV.out _ w8 p6.out k6.out b8.out o8.out;clear rV HE HR;obtain⟨w9,rM⟩:∃w9,w9=w8:=⟨_,rfl⟩;subst rM;clear p6 k6 b8 o8;obtain⟨p9,k9⟩:=hcut.out;have HG:=zH (yf p9);clear p9 k9
   go_wp2_with fail
   refine HG.out.mono ?_;rintro e wa ⟨rfl,jh⟩;rw[jh];clear jh wa;obtain⟨p9,k9⟩:=hcut.out;have tu:=zH (sK .returning (Co (rt:=A1.next) (T:=T) p9));have HF:=zH (Cq (A:=AN) (D:=D) (k:=k) (rt:=A1.next) p9.there k9 H1.out);clear HG hcut p9 k9 H1 H5;go_wp2;refine leaves_cons (f:=51) (args:= #[.pointer fb]) (by simp) (by simp[go_sem]) ?_;refine tu.out.mono ?_;rintro e u' wb ⟨rfl,rfl,pb,kb⟩;refine⟨_,results_tmp2 rfl _ _ _,?_⟩;exact HF.out wb _ (by omega) pb kb
  go_simp;refine zK hK ?_;refine zL 1 λ K hK=>?_;go_simp;refine HE.out.mono ?_;rintro e w6 ⟨rfl,p6,k6⟩
  (try dsimp only)
  replace p6:=zH p6;replace k6:=zH k6;refine zK hK ?_;refine ru (i:=2) (j:=4) (by kernel_rfl) rfl rfl (λ K hK=>?_) (λ K hK=>?_)
  ·go_simp;refine zK hK ?_;refine zL 4 λ K hK=>?_;go_simp;refine(HR.out _ k6.out).mono ?_;rintro e w7 ⟨rfl,rfl⟩
   (try dsimp only)
   refine zK hK ?_;refine zM 5 ?_;refine zL 6 λ K hK=>?_;go_simp;rw[<-HU.out];refine(sD p6.out.bytes.choose_spec.1 496 8 (cap-496) (by omega) (by have:=p6.out.bytes.choose_spec.2.1;omega) (by omega) (UInt32.ofNat aC)).mono ?_;rintro e w8 ⟨rfl,b8,o8⟩
   (try dsimp only)
   replace b8:=zH b8;replace o8:=zH o8;refine zK hK ?_;refine iR (by kernel_rfl) ?_ _;have hcut:=rV.out _ w8 p6.out k6.out b8.out o8.out;clear rV HE HR;obtain⟨w9,rM⟩:∃w9,w9=w8:=⟨_,rfl⟩;subst rM;clear p6 k6 b8 o8;obtain⟨p9,k9⟩:=hcut.out;have HG:=zH (yf p9);clear p9 k9
   go_wp2_with fail
   refine HG.out.mono ?_;rintro e wa ⟨rfl,jh⟩;rw[jh];clear jh wa;obtain⟨p9,k9⟩:=hcut.out;have tu:=zH (sK .returning (Co (rt:=A1.next) (T:=T) p9));have HF:=zH (Cq (A:=AN) (D:=D) (k:=k) (rt:=A1.next) p9.there k9 H1.out);clear HG hcut p9 k9 H1 H5;go_wp2;refine leaves_cons (f:=51) (args:= #[.pointer fb]) (by simp) (by simp[go_sem]) ?_;refine tu.out.mono ?_;rintro e u' wb ⟨rfl,rfl,pb,kb⟩;refine⟨_,results_tmp2 rfl _ _ _,?_⟩;exact HF.out wb _ (by omega) pb kb
  go_simp;refine(HR.out _ k6.out).mono ?_;rintro e w7 ⟨rfl,rfl⟩
  (try dsimp only)
  refine zK hK ?_;refine ru (i:=2) (j:=5) (by kernel_rfl) rfl rfl (λ K hK=>?_) (λ K hK=>?_)
  ·go_simp;refine zK hK ?_;refine zM 5 ?_;refine zL 6 λ K hK=>?_;go_simp;rw[<-HU.out];refine(sD p6.out.bytes.choose_spec.1 496 8 (cap-496) (by omega) (by have:=p6.out.bytes.choose_spec.2.1;omega) (by omega) (UInt32.ofNat aC)).mono ?_;rintro e w8 ⟨rfl,b8,o8⟩
   (try dsimp only)
   replace b8:=zH b8;replace o8:=zH o8;refine zK hK ?_;refine iR (by kernel_rfl) ?_ _;have hcut:=rV.out _ w8 p6.out k6.out b8.out o8.out;clear rV HE HR;obtain⟨w9,rM⟩:∃w9,w9=w8:=⟨_,rfl⟩;subst rM;clear p6 k6 b8 o8;obtain⟨p9,k9⟩:=hcut.out;have HG:=zH (yf p9);clear p9 k9
   go_wp2_with fail
   refine HG.out.mono ?_;rintro e wa ⟨rfl,jh⟩;rw[jh];clear jh wa;obtain⟨p9,k9⟩:=hcut.out;have tu:=zH (sK .returning (Co (rt:=A1.next) (T:=T) p9));have HF:=zH (Cq (A:=AN) (D:=D) (k:=k) (rt:=A1.next) p9.there k9 H1.out);clear HG hcut p9 k9 H1 H5;go_wp2;refine leaves_cons (f:=51) (args:= #[.pointer fb]) (by simp) (by simp[go_sem]) ?_;refine tu.out.mono ?_;rintro e u' wb ⟨rfl,rfl,pb,kb⟩;refine⟨_,results_tmp2 rfl _ _ _,?_⟩;exact HF.out wb _ (by omega) pb kb
  go_simp;refine zK hK ?_;refine zM 2 ?_;refine zL 6 λ K hK=>?_;go_simp;rw[<-HU.out];refine(sD p6.out.bytes.choose_spec.1 496 8 (cap-496) (by omega) (by have:=p6.out.bytes.choose_spec.2.1;omega) (by omega) (UInt32.ofNat aC)).mono ?_;rintro e w8 ⟨rfl,b8,o8⟩
  (try dsimp only)
  replace b8:=zH b8;replace o8:=zH o8;refine zK hK ?_;refine iR (by kernel_rfl) ?_ _;have hcut:=rV.out _ w8 p6.out k6.out b8.out o8.out;clear rV HE HR;obtain⟨w9,rM⟩:∃w9,w9=w8:=⟨_,rfl⟩;subst rM;clear p6 k6 b8 o8;obtain⟨p9,k9⟩:=hcut.out;have HG:=zH (yf p9);clear p9 k9
  go_wp2_with fail
  refine HG.out.mono ?_;rintro e wa ⟨rfl,jh⟩;rw[jh];clear jh wa;obtain⟨p9,k9⟩:=hcut.out;have tu:=zH (sK .returning (Co (rt:=A1.next) (T:=T) p9));have HF:=zH (Cq (A:=AN) (D:=D) (k:=k) (rt:=A1.next) p9.there k9 H1.out);clear HG hcut p9 k9 H1 H5;go_wp2;refine leaves_cons (f:=51) (args:= #[.pointer fb]) (by simp) (by simp[go_sem]) ?_;refine tu.out.mono ?_;rintro e u' wb ⟨rfl,rfl,pb,kb⟩;refine⟨_,results_tmp2 rfl _ _ _,?_⟩;exact HF.out wb _ (by omega) pb kb
 go_simp;refine zK hK ?_;refine zM 0 ?_;refine zL 1 λ K hK=>?_;go_simp;refine HE.out.mono ?_;rintro e w6 ⟨rfl,p6,k6⟩
 (try dsimp only)
 replace p6:=zH p6;replace k6:=zH k6;refine zK hK ?_;refine ru (i:=2) (j:=4) (by kernel_rfl) rfl rfl (λ K hK=>?_) (λ K hK=>?_)
 ·go_simp;refine zK hK ?_;refine zL 4 λ K hK=>?_;go_simp;refine(HR.out _ k6.out).mono ?_;rintro e w7 ⟨rfl,rfl⟩
  (try dsimp only)
  refine zK hK ?_;refine zM 5 ?_;refine zL 6 λ K hK=>?_;go_simp;rw[<-HU.out];refine(sD p6.out.bytes.choose_spec.1 496 8 (cap-496) (by omega) (by have:=p6.out.bytes.choose_spec.2.1;omega) (by omega) (UInt32.ofNat aC)).mono ?_;rintro e w8 ⟨rfl,b8,o8⟩
  (try dsimp only)
  replace b8:=zH b8;replace o8:=zH o8;refine zK hK ?_;refine iR (by kernel_rfl) ?_ _;have hcut:=rV.out _ w8 p6.out k6.out b8.out o8.out;clear rV HE HR;obtain⟨w9,rM⟩:∃w9,w9=w8:=⟨_,rfl⟩;subst rM;clear p6 k6 b8 o8;obtain⟨p9,k9⟩:=hcut.out;have HG:=zH (yf p9);clear p9 k9
  go_wp2_with fail
  refine HG.out.mono ?_;rintro e wa ⟨rfl,jh⟩;rw[jh];clear jh wa;obtain⟨p9,k9⟩:=hcut.out;have tu:=zH (sK .returning (Co (rt:=A1.next) (T:=T) p9));have HF:=zH (Cq (A:=AN) (D:=D) (k:=k) (rt:=A1.next) p9.there k9 H1.out);clear HG hcut p9 k9 H1 H5;go_wp2;refine leaves_cons (f:=51) (args:= #[.pointer fb]) (by simp) (by simp[go_sem]) ?_;refine tu.out.mono ?_;rintro e u' wb ⟨rfl,rfl,pb,kb⟩;refine⟨_,results_tmp2 rfl _ _ _,?_⟩;exact HF.out wb _ (by omega) pb kb
 go_simp;refine(HR.out _ k6.out).mono ?_;rintro e w7 ⟨rfl,rfl⟩
 (try dsimp only)
 refine zK hK ?_;refine ru (i:=2) (j:=5) (by kernel_rfl) rfl rfl (λ K hK=>?_) (λ K hK=>?_)
 ·go_simp;refine zK hK ?_;refine zM 5 ?_;refine zL 6 λ K hK=>?_;go_simp;rw[<-HU.out];refine(sD p6.out.bytes.choose_spec.1 496 8 (cap-496) (by omega) (by have:=p6.out.bytes.choose_spec.2.1;omega) (by omega) (UInt32.ofNat aC)).mono ?_;rintro e w8 ⟨rfl,b8,o8⟩
  (try dsimp only)
  replace b8:=zH b8;replace o8:=zH o8;refine zK hK ?_;refine iR (by kernel_rfl) ?_ _;have hcut:=rV.out _ w8 p6.out k6.out b8.out o8.out;clear rV HE HR;obtain⟨w9,rM⟩:∃w9,w9=w8:=⟨_,rfl⟩;subst rM;clear p6 k6 b8 o8;obtain⟨p9,k9⟩:=hcut.out;have HG:=zH (yf p9);clear p9 k9
  go_wp2_with fail
  refine HG.out.mono ?_;rintro e wa ⟨rfl,jh⟩;rw[jh];clear jh wa;obtain⟨p9,k9⟩:=hcut.out;have tu:=zH (sK .returning (Co (rt:=A1.next) (T:=T) p9));have HF:=zH (Cq (A:=AN) (D:=D) (k:=k) (rt:=A1.next) p9.there k9 H1.out);clear HG hcut p9 k9 H1 H5;go_wp2;refine leaves_cons (f:=51) (args:= #[.pointer fb]) (by simp) (by simp[go_sem]) ?_;refine tu.out.mono ?_;rintro e u' wb ⟨rfl,rfl,pb,kb⟩;refine⟨_,results_tmp2 rfl _ _ _,?_⟩;exact HF.out wb _ (by omega) pb kb
 go_simp;refine zK hK ?_;refine zM 2 ?_;refine zL 6 λ K hK=>?_;go_simp;rw[<-HU.out];refine(sD p6.out.bytes.choose_spec.1 496 8 (cap-496) (by omega) (by have:=p6.out.bytes.choose_spec.2.1;omega) (by omega) (UInt32.ofNat aC)).mono ?_;rintro e w8 ⟨rfl,b8,o8⟩
 (try dsimp only)
 replace b8:=zH b8;replace o8:=zH o8;refine zK hK ?_;refine iR (by kernel_rfl) ?_ _;have hcut:=rV.out _ w8 p6.out k6.out b8.out o8.out;clear rV HE HR;obtain⟨w9,rM⟩:∃w9,w9=w8:=⟨_,rfl⟩;subst rM;clear p6 k6 b8 o8;obtain⟨p9,k9⟩:=hcut.out;have HG:=zH (yf p9);clear p9 k9
 go_wp2_with fail
 refine HG.out.mono ?_;rintro e wa ⟨rfl,jh⟩;rw[jh];clear jh wa;obtain⟨p9,k9⟩:=hcut.out;have tu:=zH (sK .returning (Co (rt:=A1.next) (T:=T) p9));have HF:=zH (Cq (A:=AN) (D:=D) (k:=k) (rt:=A1.next) p9.there k9 H1.out);clear HG hcut p9 k9 H1 H5;go_wp2;refine leaves_cons (f:=51) (args:= #[.pointer fb]) (by simp) (by simp[go_sem]) ?_;refine tu.out.mono ?_;rintro e u' wb ⟨rfl,rfl,pb,kb⟩;refine⟨_,results_tmp2 rfl _ _ _,?_⟩;exact HF.out wb _ (by omega) pb kb
end
end Go.Proofs.YtlipgbnnbefhjaaGreatDoor
