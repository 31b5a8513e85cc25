/- Facts on rows of numbers on pages. -/
import Derived.Test.YtlipgbnnbefhjaaGreatDoorKStLc
import Derived.Deep.CutBlock
set_option maxRecDepth 100000
set_option maxHeartbeats 8000000
set_option linter.unusedSimpArgs false
namespace Go.Proofs.YtlipgbnnbefhjaaGreatDoor
open Go.RowKit
open UK (str aO nth Only Row aI)
section
variable{S:Nat->Prop}{W W':World}{P D Q T k c d:Nat}{A:AP}{X Y:List UInt64}{ao bo:Option Addr}{op:Bool}
theorem xuu{ii nn tt:Int}{id:UInt64}(h:jg S W P D Q T ao c X bo d Y A k)(hS:∀j,S j->j<W.heap.size)(J:Nat->AP->List UInt64->Prop)(h0:J 0 A X)(N0:Nat)(hN0:X.length<=N0)(_hN1:N0<=2000)
  (hJ:∀i A X,J i A X->i<uW nn->∃p,SI A X p/\∀B p' X',SI B X' p'->A.Reach B->A.ay<=B.ay->X'.length<=X.length->J (i+1) B X')
  (hk:k+150000*N0+1000000<880000000) (hii:ii<9223372036854775808) :
  Calls Tryz.prog 7 #[.agg (dV P Q ao X.length c bo Y.length d op),.agg (kK 2 ii nn tt id)] W λ e w'=>tT S W w' P D (k+150000*N0+10000) (λ A' X' Y' op'=>J (uW nn) A' X'/\Y'=Y/\op'=op) e:=by
 have GY:=zH (zA h0 (zA hN0 hJ));clear h0 hN0 hJ;obtain⟨hb,hbel⟩:=h.boxed (op:=op) 2 ii nn tt id;have a0:=hb.act.c0;have a1:=hb.act.c2;obtain⟨n,hn⟩:∃n,n=uW nn:=⟨_,rfl⟩;obtain⟨lM,hne⟩:=Cn nn;rw[<-hn]at lM hne;have HE:=zH hne;have Be:=zH hn;have HB:=zH (zA hb hbel);have HJ:=zH hS;generalize hW3:((W.alloc (.cells (dV P Q ao X.length c bo Y.length d op) 29)).alloc (.cells (kK 2 ii nn tt id) 34)).alloc (.cells pQ 29)=w3 at HB a0 a1;have HW3:=zH hW3;rw[<-hW3]at a0 a1;clear h hb hbel hS hn hW3 hne
 go_enter Tryz.func7,Tryz.ntmps7
 go_upto_region 1 with(fail)
 go_cut [6] (λ nv wx=>nv= .int .i64 (n:Int)/\wx=w3)
 case first=>
  go_wp2_with fail
  go_meet
  case rel=>exact⟨by rw[HE.out],HW3.out⟩
 case rest=>
 obtain⟨rfl,rfl⟩:=hcut;clear a0 a1;have a0:=HB.out.1.act.c0;have HKK:=zH (Kept.of_below HB.out.2 HJ.out);have Gm:=zH (show W.heap.size+3<=wc.heap.size by have:=HB.out.1.res.lt;omega);clear HW3 HE
 go_wp2_with fail
 go_loopw [11] (λ iv wr=>∃(i:Nat) (A:AP) (X:List UInt64) (ao:Option Addr) (c k':Nat),iv= .int .i64 i/\i<=n/\J i A X/\nk S wr W (kK 2 ii nn tt id) P D Q T ao c X bo d Y op A k'/\(k'+150000*X.length<=k+150000*N0+100*i/\X.length<=N0)/\Kept S W wr/\wc.heap.size<=wr.heap.size) (λ iv _=>61-(intOf iv).toNat)
 case atStart=>exact⟨0,A,X,ao,c,k,rfl,bY _,GY.out.1,HB.out.1,⟨by have:=GY.out.2.1;omega,GY.out.2.1⟩,HKK.out,aZ _⟩
 clear a0;obtain⟨i,A,X,ao,c,k',rfl,hin,D9,hrb,⟨hkk,MB⟩,hkp,hsz⟩:=hrel;by_cases hlt:i<n
 ·obtain⟨p,hsi,hnext⟩:=GY.out.2.2 i A X D9 (by rw[<-Be.out];exact hlt);have M8:(i:Int)<(n:Int):=Int.ofNat_lt.2 hlt;have b1:=hrb.act.c1;have d1:=hrb.box.c1;have M9:i<=60:=by omega
  have HP:=zH (SI.drop hrb.rm.sq hsi (by omega) ii hii);have H2:=zH (zA hrb (zA hkp (zA hsz (zA hkk MB))));have E9:=zH hnext;clear hrb hkp hsz hkk hsi hnext D9 hin MB
  go_wp2_with fail
  refine HP.out.mono ?_;rintro e w4 ⟨rfl,B,p',t4,qU,hsi,hre,hro⟩;obtain⟨hrb,hkp,hsz,hkk,MB⟩:=H2.out;have hr4:=hrb.next t4 qU;have e2:=hr4.box.c2;have b1:=hr4.act.c1;have hwl:=Gm.out;have hs4:=qU.size;have HT:=zH (xxp hr4 (by omega) (by omega) HJ.out ii);have hxl:=xxn X ii;have xX:=zH (E9.out B p' _ hsi hre hro hxl);have H4:=zH (zA (hkp.trans (qU.mono (λ j hj=>.inl (.inl hj)))) (zA (show wc.heap.size<=w4.heap.size by omega) (show k'+100+150000*(X.length-(je X ii).2.2.length)+150000*(je X ii).2.2.length<=k+150000*N0+100*(i+1)/\(je X ii).2.2.length<=N0 by omega)));generalize je X ii=rr at *;obtain⟨er,vv,X2⟩:=rr;dsimp only at *;clear HP H2 E9 hrb hkp hsz hkk hr4 t4 qU hsi hre hro hxl hwl hs4 d1 MB
  go_wp2_with fail
  refine HT.out.mono ?_;rintro e w5 ⟨cZ,c',rfl,e5,f5,Bf,hk5,hs5⟩;obtain⟨hk4,hs4,hkk⟩:=H4.out;have HF:=zH (zA Bf (zA (hk4.trans hk5) (zA (bf hs4 hs5) hkk)));clear HT H4 hk4 hs4 hkk Bf hk5 hs5 e2;have Zh:IntKind.i64.wrap ((i:Int)+1)=(i:Int)+1:=IntWalk.i64_in _ ⟨by omega,by omega⟩;generalize hX2:X2.length=n2 at *;generalize hX1:X.length=n1 at *;have hbb:(er != er)=false:=by simp
  have hbv:(vv != vv)=false:=by simp
  go_wp2_with fail
  go_roundw
  case rel=>
   obtain⟨m1,m2,m3,m4⟩:=HF.out;rw[<-hX2]at m4;exact⟨i+1,B,X2,cZ,c',k'+100+150000*(n1-X2.length),by go_num,by omega,xX.out,by rw[hX2];exact m1,m4,m2,m3⟩
  case measure=>simp[intOf];omega
 obtain rfl:i=n:=by omega
 have M8:¬(i:Int)<(i:Int):=by omega
 have y1:=hrb.box;have y3:=hrb.res;have n0:=y1.c0;have n1:=y1.c1;have n2:=y1.c2;have n3:=y1.c3;have n4:=y1.c4;have m0:=y3.c0;have m1:=y3.c1;have m2:=y3.c2;have m3:=y3.c3;have m4:=y3.c4;have mf:∀j,wr.frozen? ⟨W.heap.size+2,j,none⟩=false:=y3.free;have HD:=zH (hrb.done (R:=λ A' X' Y' op'=>J (uW nn) A' X'/\Y'=Y/\op'=op) (show k'<=k+150000*N0+10000 by omega) hkp HJ.out ⟨by rw[<-Be.out];exact D9,rfl,rfl⟩);have HY:=zH y3;clear hrb hkp hsz D9 y1 y3 hkk hlt MB
 go_wp2_with fail
 refine bodyPost_ret (UK.zk rfl _ (HY.out.dJ _ _ _ _ _) rfl zg rfl zh) rfl ?_;exact HD.out
theorem xuv{ii nn tt:Int}{id:UInt64}{p:Nat}(h:jg S W P D Q T ao c X bo d Y A k)(hS:∀j,S j->j<W.heap.size)(hsi:SI A X p)(hX:X.length<=1000)(aY:36*X.length+24760<=308*A.ay)(hk:k+220000*X.length+1000000<790000000) :
  Calls Tryz.prog 7 #[.agg (dV P Q ao X.length c bo Y.length d op),.agg (kK 3 ii nn tt id)] W λ e w'=>tT S W w' P D (k+100+220000*X.length) (λ A' X' Y' op'=>(∃p',SI A' X' p'/\A.Reach A'/\A.ay+2<=A'.ay+p'/\X'.length<=X.length)/\Y'=Y/\op'=op) e:=by
 have Jy:=zH (zA hsi aY);clear hsi aY;obtain⟨hb,hbel⟩:=h.boxed (op:=op) 3 ii nn tt id;have a0:=hb.act.c0;have a1:=hb.act.c2;obtain⟨n,hn⟩:∃n,n=uW nn:=⟨_,rfl⟩;obtain⟨lM,hne⟩:=Cn nn;rw[<-hn]at lM hne;have HE:=zH hne;have Be:=zH hn;have HB:=zH (zA hb hbel);have HJ:=zH hS;generalize hW3:((W.alloc (.cells (dV P Q ao X.length c bo Y.length d op) 29)).alloc (.cells (kK 3 ii nn tt id) 34)).alloc (.cells pQ 29)=w3 at HB a0 a1;have HW3:=zH hW3;rw[<-hW3]at a0 a1;clear h hb hbel hS hn hW3 hne
 go_enter Tryz.func7,Tryz.ntmps7
 go_upto_region 1 with(fail)
 go_cut [6] (λ nv wx=>nv= .int .i64 (n:Int)/\wx=w3)
 case first=>
  go_wp2_with fail
  go_meet
  case rel=>exact⟨by rw[HE.out],HW3.out⟩
 case rest=>
 obtain⟨rfl,rfl⟩:=hcut;clear a0 a1;have a0:=HB.out.1.act.c0;have HKK:=zH (Kept.of_below HB.out.2 HJ.out);have Gm:=zH (show W.heap.size+3<=wc.heap.size by have:=HB.out.1.res.lt;omega);have hrb:=HB.out.1;have b1:=hrb.act.c1;have b2:=hrb.act.c2;have b3:=hrb.act.c3;have d1:=hrb.box.c1;have HP:=zH (SI.move hrb.rm.sq Jy.out.1 hX hk (.inl Jy.out.2) ii nn tt);clear HW3 HE hrb
 go_wp2_with fail
 refine HP.out.mono ?_;rintro e w4 ⟨rfl,B,p',t4,qU,hsi,hre,hro⟩;have hr4:=HB.out.1.next t4 qU;have e2:=hr4.box.c2;have b1:=hr4.act.c1;have b2:=hr4.act.c2;have b3:=hr4.act.c3;have hwl:=Gm.out;have hs4:=qU.size;have HT:=zH (xxq hr4 (by omega) (by omega) HJ.out ii nn tt);have HQ:=zH (show ∃p',SI B (lh X ii nn tt).2 p'/\A.Reach B/\A.ay+2<=B.ay+p'/\(lh X ii nn tt).2.length<=X.length from⟨p',hsi,hre,hro,Zf X ii nn tt⟩);have H4:=zH (HKK.out.trans (qU.mono (λ j hj=>.inl (.inl hj))));generalize lh X ii nn tt=rr at *;obtain⟨er,X2⟩:=rr;dsimp only at *;clear HP hr4 t4 qU hsi hre hro hwl hs4 d1 HB Jy HKK
 go_wp2_with fail
 refine HT.out.mono ?_;rintro e w5 ⟨cZ,c',rfl,e5,f5,Bf,hk5,hs5⟩;have hbb:(er != er)=false:=by simp
 obtain⟨w6,Jb⟩:∃w6,w6=w5.setCell (W.heap.size,2) (.slice cZ X2.length c'):=⟨_,rfl⟩;rw[<-Jb]at Bf hk5;have y1:=Bf.box;have y3:=Bf.res;have n0:=y1.c0;have n1:=y1.c1;have n2:=y1.c2;have n3:=y1.c3;have n4:=y1.c4;have m0:=y3.c0;have m1:=y3.c1;have m2:=y3.c2;have m3:=y3.c3;have m4:=y3.c4;have mf:∀j,w6.frozen? ⟨W.heap.size+2,j,none⟩=false:=y3.free;have HD:=zH (Bf.done (R:=λ A' X' Y' op'=>(∃p',SI A' X' p'/\A.Reach A'/\A.ay+2<=A'.ay+p'/\X'.length<=X.length)/\Y'=Y/\op'=op) (aZ (k+100+220000*X.length)) (H4.out.trans hk5) HJ.out ⟨HQ.out,rfl,rfl⟩);have HY:=zH y3;clear HT H4 HQ Bf hk5 hs5 e2 y1 y3 HJ;rw[Jb]at n0 n1 n2 n3 n4 m0 m1 m2 m3 m4 mf HD HY;clear Jb w6
 go_wp2_with fail
 refine bodyPost_ret (UK.zk rfl _ (HY.out.dJ _ _ _ _ _) rfl zg rfl zh) rfl ?_;exact HD.out
end
section
variable{S:Nat->Prop}{W W':World}{P D Q T k c d:Nat}{A:AP}{X Y:List UInt64}{ao bo:Option Addr}{op:Bool}
theorem nk.anew{w w2:World}{rb Q2 T2 k2:Nat}{av:Array Value}(h:nk S w rb av P D Q T ao c X bo d Y op A k)(hs:aD (λ j=>uT (λ b=>S b\/(rb<=b/\b<rb+3)) Q T ao bo j\/j=Q2\/j=T2) w2 P D Q2 T2 2 1 A k2)(kp:Kept (uT (λ b=>S b\/(rb<=b/\b<rb+3)) Q T ao bo) w w2)(hQ2:w.heap.size<=Q2)(Bd:w.heap.size<=T2)(hr:rb+3<=w.heap.size) :
  nk S (w2.setCell (rb,1) (.pointer Q2)) rb av P D Q2 T2 ao c X bo d Y op A k2/\Only rb w2 (w2.setCell (rb,1) (.pointer Q2)):=by
 have o:Only rb w2 (w2.setCell (rb,1) (.pointer Q2)):=(Only.refl rb w2).set 1 _;have hbx:=h.box.af (kp.block rb (.inl (.inr ⟨aZ _,by omega⟩)));have ha:=h.act.af (kp.block (rb+1) (.inl (.inr ⟨by omega,by omega⟩)));have hres:=h.res.af (kp.block (rb+2) (.inl (.inr ⟨by omega,by omega⟩)));have hx:=h.rm.px.af kp.size (λ b hb=>kp.block b (.inr (.inr (.inr (.inl hb)))));have hy:=h.rm.py.af kp.size (λ b hb=>kp.block b (.inr (.inr (.inr (.inr hb)))))
 have bx:aI (w2.setCell (rb,1) (.pointer Q2)) rb (dV P Q2 ao X.length c bo Y.length d op):=by
  have:=hbx.set 1 (.pointer Q2)
  simpa[dV]using this
 generalize w2.setCell (rb,1) (.pointer Q2)=w3 at o bx ⊢;have hne:rb≠0 :=eU (Nat.ne_of_lt h.tab)
 have p2:PZ (uT (λ b=>S b\/(rb<=b/\b<rb+3)) Q2 T2 ao bo) w3 P D A k2:=hs.pz.over (R:=λ j=>j=rb) (λ j hj=>by rw[hj];exact .inl (.inl (.inr ⟨aZ _,by omega⟩))) (λ he=>hne he.symm) o.size (λ j hj hr=>o.block j hj hr) (λ j hj=>by
  rcases hj with hj|hj|hj|hj
  ·exact .inl (.inl (.inl hj))
  ·exact .inl (.inr (.inl hj))
  ·exact .inl (.inr (.inr hj))
  exact .inl (.inl (.inr (.inr (.inr hj)))))
 have hfa:∀b,aK ao b->b≠rb:=λ b hb2=>by have:=h.GU b hb2;omega
 have CP:∀b,aK bo b->b≠rb:=λ b hb2=>by have:=h.D8 b hb2;omega
 exact⟨⟨⟨hs.rU p2 o (by omega) (by omega) (.inr (.inl rfl)) (.inr (.inr (.inl rfl))),hx.af o.size (λ b hb2=>o.block b (hx.lt hb2) (hfa b hb2)),hy.af o.size (λ b hb2=>o.block b (hy.lt hb2) (CP b hb2))⟩,bx,ha.only o (by omega),hres.only o (by omega),.inr (by omega),.inr (by omega),h.GU,h.D8,h.tab⟩,o⟩
end
section
variable{E:Nat->Prop}{W W' w:World}{P D Q T k c d m:Nat}{A:AP}{X:List UInt64}{p:Nat}{ao bo:Option Addr}{op:Bool}
def jU(X:List UInt64)(φ ν:Int):Int×List UInt64:=if φ<0\/ν<0 then(1,[]) else(0,(X.drop φ.toNat).take ν.toNat)
theorem Zl(h:aD E W P D Q T 2 1 A k)(hs:SI A X p)(hX:X.length<=50000)(hk:k+3000000<900000000)(φ ν:Int)(hφ:φ<9223372036854775808)(uz:ν<9223372036854775808) :
  Calls Tryz.prog 38 #[.pointer Q,.int .i64 φ,.int .i64 ν] W λ e w'=>∃dN c2,e= .returned (.tuple #[.slice dN (jU X φ ν).2.length c2,.int .i64 (jU X φ ν).1])/\NR w' dN c2 (aF (jU X φ ν).2)/\(∀g,aK dN g->W.heap.size<=g)/\aD (λ j=>E j\/aK dN j) w' P D Q T 2 1 A (k+40*X.length+40)/\Kept E W w':=by
 obtain⟨m,qs,d,s,n,hr,rfl,rfl⟩:=hs;by_cases hneg:φ<0\/ν<0
 ·have hZ:jU s.l φ ν=(1,[]):=by unfold jU;rw[if_pos hneg]
  rw[hZ];have HF:Hid (aD (λ j=>E j\/aK none j) W P D Q T 2 1 A (k+40*s.l.length+40)/\Kept E W W):=zH ⟨(h.less (E':=λ j=>E j\/aK none j) (.inl h.mem) (.inl h.fH) (λ _ hj=>hj.elim (λ h=>h) (λ e=>by cases e))).up (by omega),Kept.of_below (aP _ _) h.pz.there⟩;clear h hr hZ hk hX;by_cases q1:φ<0
  ·go_enter Tryz.func38,Tryz.ntmps38
   go_wp2;go_ret2
   exact⟨none,0,rfl,NR.nil,(λ g hg=>by cases hg),HF.out.1,HF.out.2⟩
  have q2:ν<0:=hneg.resolve_left q1;clear hneg
  go_enter Tryz.func38,Tryz.ntmps38
  go_wp2;go_ret2
  exact⟨none,0,rfl,NR.nil,(λ g hg=>by cases hg),HF.out.1,HF.out.2⟩
 have hZ:jU s.l φ ν=(0,(s.l.drop φ.toNat).take ν.toNat):=by unfold jU;rw[if_neg hneg]
 rw[hZ];have:=xug h hr hX hk φ.toNat ν.toNat (by omega) (by omega);rw[show((φ.toNat:Nat):Int)=φ by omega,show((ν.toNat:Nat):Int)=ν by omega]at this;refine this.mono ?_;rintro e w' ⟨dN,c2,rfl,h1,h2,h3,h4⟩;exact⟨dN,c2,rfl,h1,h2,h3,h4⟩
theorem xxt(h:NR W ao c (aF X))(hX:X.length<=90000)(φ ν:Int) :
  Calls Tryz.prog 40 #[.slice ao X.length c,.int .i64 φ,.int .i64 ν] W λ e w'=>∃dN c2,e= .returned (.tuple #[.slice dN (jU X φ ν).2.length c2,.int .i64 (jU X φ ν).1])/\NR w' dN c2 (aF (jU X φ ν).2)/\Below W W w':=by
 refine(xz7 φ ν h hX).mono ?_;rintro e w' (⟨hneg,rfl,rfl⟩|⟨h1,h2,cZ,c',rfl,hm⟩)
 ·have hZ:jU X φ ν=(1,[]):=by unfold jU;rw[if_pos hneg]
  rw[hZ];exact⟨none,0,rfl,NR.nil,aP _ _⟩
 have hZ:jU X φ ν=(0,(X.drop φ.toNat).take ν.toNat):=by unfold jU;rw[if_neg (by omega)]
 rw[hZ];exact⟨cZ,c',rfl,hm.1,hm.2.2⟩
structure xH(E:Nat->Prop)(W w:World)(P D Q T:Nat)(ao:Option Addr)(c:Nat)(X:List UInt64)(bo:Option Addr)(m d:Nat)(op:Bool)(A:AP)(k:Nat):Prop where
 sq:aD (λ j=>E j\/j=W.heap.size) w P D Q T 2 1 A k
 box:aI w W (dV P Q ao X.length c bo m d op)
 px:NR w ao c (aF X)
 kp:Kept E W w
theorem xH.next{w2:World}{k2:Nat}(h:xH E W w P D Q T ao c X bo m d op A k)(hao:∀b,aK ao b->E b)(hs:aD (λ j=>E j\/j=W.heap.size) w2 P D Q T 2 1 A k2)(kp:Kept (λ j=>E j\/j=W.heap.size) w w2):xH E W w2 P D Q T ao c X bo m d op A k2:=
 ⟨hs,h.box.af (kp.block _ (.inr rfl)),h.px.af kp.size (λ b hb=>kp.block b (.inl (hao b hb))),h.kp.trans (kp.mono (λ _ hj=>.inl hj))⟩
theorem xH.below{w2:World}(h:xH E W w P D Q T ao c X bo m d op A k)(hao:∀b,aK ao b->E b)(hb:Below w w w2):xH E W w2 P D Q T ao c X bo m d op A k:=
 h.next hao (h.sq.next hb) (Kept.of_below hb h.sq.pz.there)
theorem xH.start(h:aD E W P D Q T 2 1 A k)(hp:NR W ao c (aF X)):xH E W (W.alloc (.cells (dV P Q ao X.length c bo m d op) 29)) P D Q T ao c X bo m d op A k:=by
 have b1:Below W W (W.alloc (.cells (dV P Q ao X.length c bo m d op) 29)):=(aP _ _).alloc (aZ _) _;have z1:(W.alloc (.cells (dV P Q ao X.length c bo m d op) 29)).heap.size=W.heap.size+1:=by simp
 refine⟨h.wide b1 (λ _ hj=>hj.imp id (λ e=>by omega)) (λ _ hj=>.inl hj),aI.new W _ _,hp.af b1.size (λ g hg=>b1.block g (hp.lt hg)),Kept.of_below b1 h.pz.there⟩
end
section
variable{E:Nat->Prop}{W W' w:World}{P D Q T k c d m:Nat}{A:AP}{X:List UInt64}{p:Nat}{ao bo:Option Addr}{op:Bool}
theorem NR.at9{i:Nat}{t:UInt64}(h:NR W ao c (aF X))(ht:X[i]?=some t):∃g,ao=some ⟨g,0,none⟩/\∀q,(W.drewN q).cell? ⟨g,i,none⟩=some (.int .u64 (t.toNat:Int)):=by
 rcases h with⟨_,h2,_⟩|⟨g,h1,r⟩
 ·have:=congrArg List.length h2;rw[cz]at this;have hl:=(dn.1 ht).1;simp only[List.length_nil]at this;omega
 exact⟨g,h1,λ q=>r.at' i _ (qx _ _ _ ht)⟩
theorem WS(h:aD E W P D Q T 2 1 A k)(hs:SI A X p)(hp:NR W ao c (aF X))(hao:∀b,aK ao b->E b)(hX:X.length<=40000)(hk:k+7000000<890000000)(φ ν:Int)(id:UInt64)(hφ:φ<9223372036854775808)(uz:ν<9223372036854775808) :
  Calls Tryz.prog 12 #[.agg (dV P Q ao X.length c bo m d op),.int .i64 φ,.int .i64 ν,.int .u64 id.toNat] W λ e w'=>e= .returned (.int .i64 0)/\aD E w' P D Q T 2 1 A (k+100*X.length+1000)/\Kept E W w':=by
 have hst:=xH.start (bo:=bo) (m:=m) (d:=d) (op:=op) h hp;have uy:=zH (zA hst (zA hs (zA hao (zA h.mem (zA h.fH h.pz.there)))))
 have Zm:=zH (show Calls Tryz.prog 8 #[.pointer Q] (W.alloc (.cells (dV P Q ao X.length c bo m d op) 29)) λ e w'=>e= .returned (.tuple #[.int .i64 (X.length:Int),.int .i64 0])/\aD (λ j=>E j\/j=W.heap.size) w' P D Q T 2 1 A (k+40)/\Kept (λ j=>E j\/j=W.heap.size) (W.alloc (.cells (dV P Q ao X.length c bo m d op) 29)) w' from by
  obtain⟨mm,qs,dd,s,n,hr,rfl,_⟩:=hs;exact Ob hst.sq hr (by omega))
 have d1:=hst.box.c1;clear h hs hp hao hst
 go_enter Tryz.func12,Tryz.ntmps12
 go_wp2_with fail
 refine Zm.out.mono ?_;rintro e w2 ⟨rfl,s2,k2⟩;obtain⟨hst,hs,hao,hQ,hT,hth⟩:=uy.out;have pR:=hst.next hao s2 k2;have hr:=Zl pR.sq hs (by omega) (by omega) 0 1073741824 (by omega) (by omega);have Zn:jU X 0 1073741824=(0,X):=by unfold jU;rw[if_neg (by omega),show(0:Int).toNat=0 from rfl,lL,eZ (by show X.length<=1073741824;omega)]
 rw[Zn]at hr;dsimp only at hr;have HR:=zH hr;have d2:=pR.box.c1;have H2:=zH pR;clear Zm d1 s2 k2 hst hs hao hQ hT hth pR hr Zn
 go_wp2_with fail
 refine HR.out.mono ?_;rintro e w3 ⟨dN,c2,rfl,xI,_,s3,k3⟩;obtain⟨hst,hs,hao,hQ,hT,hth⟩:=uy.out;have qG:=H2.out.next hao (s3.less (.inl hQ) (.inl hT) (λ j hj=>.inl hj)) k3;have Zo:=zH (xtc qG.sq.pz);have d0:=qG.box.c0;have d2:=qG.box.c2;have H3:=zH (zA qG xI);clear HR H2 s3 k3 xI hst hs hao hQ hT hth qG
 go_wp2_with fail
 refine Zo.out.mono ?_;rintro e w4 ⟨rfl,rfl⟩;clear Zo d0 d2
 go_upto_block 0 with(fail)
 go_cut [] (λ wx=>Hid (xH E W wx P D Q T ao c X bo m d op A (k+100+40*X.length)))
 case first=>
  go_wp2_with fail
  go_loopw [63] (λ iv wr=>∃i q:Nat,iv= .int .i64 i/\i<=X.length/\wr=w4.drewN q) (λ iv _=>X.length-(intOf iv).toNat)
  case atStart=>exact⟨0,0,rfl,bY _,rfl⟩
  obtain⟨i,q,rfl,hi,rfl⟩:=hrel;obtain⟨qG,xI⟩:=H3.out;by_cases hlt:i<X.length
  ·obtain⟨t,ht⟩:∃t,X[i]?=some t:=⟨_,di hlt⟩;obtain⟨g1,rfl,c1⟩:=qG.px.at9 ht;obtain⟨g2,rfl,c2'⟩:=xI.at9 ht;have d2:=qG.box.d2;have hil:(i:Int)<(X.length:Int):=by omega
   have hbb:((t.toNat:Int) !=(t.toNat:Int))=false:=by simp
   clear qG xI ht
   go_wp2_with fail
   go_quiet (fail)
   go_wp2_with fail
   go_roundw
   case rel=>exact⟨i+1,_,by go_num,by omega,rfl⟩
   case measure=>simp[intOf];omega
  obtain rfl:i=X.length:=by omega
  have hil:¬((X.length:Nat):Int)<(X.length:Int):=by omega
  have HF:Hid (xH E W (w4.drewN q) P D Q T ao c X bo m d op A (k+100+40*X.length)):=zH (by
   have h5:=qG.below uy.out.2.2.1 (UK.aG (aP w4 w4) q);exact⟨h5.sq.up (by omega),h5.box,h5.px,h5.kp⟩)
  clear qG xI
  go_wp2_with fail
  go_meet
  case rel=>exact HF
 case rest=>
 clear H3;obtain⟨w5,xD⟩:∃w5,w5=wc:=⟨_,rfl⟩;subst xD;obtain⟨hst,hs,hao,hQ,hT,hth⟩:=uy.out;have HR:=zH (Zl hcut.out.sq hs (by omega) (by omega) φ ν hφ uz);have d1:=hcut.out.box.c1;have H5:=hcut
 have hzl:(jU X φ ν).2.length<=X.length:=by
  unfold jU
  split
  ·exact bY _
  simp only[zt,zd];omega
 have HRR:=zH (λ (w:World) (hn:NR w ao c (aF X))=>xxt hn (by omega) φ ν);generalize jU X φ ν=rz at HR HRR hzl;obtain⟨zr,Z⟩:=rz;dsimp only at HR HRR hzl;clear hcut hst hs hao hQ hT hth
 go_wp2_with fail
 refine HR.out.mono ?_;rintro e w6 ⟨dN,c2,rfl,xI,hnew,s6,k6⟩;obtain⟨hst,hs,hao,hQ,hT,hth⟩:=uy.out;have uX:=H5.out.next hao (s6.less (.inl hQ) (.inl hT) (λ j hj=>.inl hj)) k6;have HR2:=zH (HRR.out w6 uX.px);have d2:=uX.box.c2;have H6:=zH (zA uX xI);clear HR H5 s6 k6 xI hnew hst hs hao hQ hT hth uX d1 HRR
 go_wp2_with fail
 refine HR2.out.mono ?_;rintro e w7 ⟨nM,c3,rfl,Jz,b7⟩;have H7:=zH (zA Jz b7);have hbb:(zr != zr)=false:=by simp
 clear HR2 d2 Jz b7
 go_upto_block 2 with(fail)
 go_cut [] (λ wx=>Hid (xH E W wx P D Q T ao c X bo m d op A (k+300+90*X.length)))
 case first=>
  go_wp2_with fail
  go_loopw [105] (λ iv wr=>∃i q:Nat,iv= .int .i64 i/\i<=Z.length/\wr=w7.drewN q) (λ iv _=>Z.length-(intOf iv).toNat)
  case atStart=>exact⟨0,0,rfl,bY _,rfl⟩
  obtain⟨i,q,rfl,hi,rfl⟩:=hrel;obtain⟨uX,xI⟩:=H6.out;obtain⟨Jz,b7⟩:=H7.out;by_cases hlt:i<Z.length
  ·obtain⟨t,ht⟩:∃t,Z[i]?=some t:=⟨_,di hlt⟩;obtain⟨g1,rfl,c1⟩:=Jz.at9 ht;obtain⟨g2,rfl,c2'⟩:=(xI.af b7.size (λ g hg=>b7.block g (xI.lt hg))).at9 ht;have hil:(i:Int)<(Z.length:Int):=by omega
   have hbt:((t.toNat:Int) !=(t.toNat:Int))=false:=by simp
   clear uX xI ht Jz b7
   go_wp2_with fail
   go_quiet (fail)
   go_wp2_with fail
   go_roundw
   case rel=>exact⟨i+1,_,by go_num,by omega,rfl⟩
   case measure=>simp[intOf];omega
  obtain rfl:i=Z.length:=by omega
  have hil:¬((Z.length:Nat):Int)<(Z.length:Int):=by omega
  have HF:Hid (xH E W (w7.drewN q) P D Q T ao c X bo m d op A (k+300+90*X.length)):=zH (by
   have h5:=(uX.below uy.out.2.2.1 b7).below uy.out.2.2.1 (UK.aG (aP w7 w7) q);exact⟨h5.sq.up (by omega),h5.box,h5.px,h5.kp⟩)
  clear uX xI Jz b7
  go_wp2_with fail
  go_meet
  case rel=>exact HF
 case rest=>
 clear H6 H7 hzl;obtain⟨w8,hw8⟩:∃w8,w8=wc:=⟨_,rfl⟩;subst hw8;obtain⟨hst,hs,hao,hQ,hT,hth⟩:=uy.out;have DC:=hcut.out
 have Zp:=zH (show Calls Tryz.prog 10 #[.pointer Q,.int .u64 id.toNat] w8 λ e w'=>((id∉X/\e= .returned (.tuple #[.int .i64 0,.int .i64 4]))\/∃ι:Nat,X[ι]?=some id/\e= .returned (.tuple #[.int .i64 ι,.int .i64 0]))/\aD (λ j=>E j\/j=W.heap.size) w' P D Q T 2 1 A (k+300+90*X.length+100)/\Kept (λ j=>E j\/j=W.heap.size) w8 w' from by
  obtain⟨mm,qs,dd,s,n,hr,rfl,_⟩:=hs;exact Rl DC.sq hr (by omega) id)
 have MC:=zH (λ (w:World) (vH:aD (λ j=>E j\/j=W.heap.size) w P D Q T 2 1 A (k+300+90*X.length+100))=>(show Calls Tryz.prog 9 #[.pointer Q,.int .i64 φ] w λ e w'=>e= .returned (ql X φ)/\aD (λ j=>E j\/j=W.heap.size) w' P D Q T 2 1 A (k+300+90*X.length+100+40)/\Kept (λ j=>E j\/j=W.heap.size) w w' from by
  obtain⟨mm,qs,dd,s,n,hr,rfl,_⟩:=hs;exact Xh vH hr (by omega) φ hφ))
 have d1:=DC.box.c1;have Zq:=zH hs.pages.2.2;have nK:=zH (λ (w:World) (hst:xH E W w P D Q T ao c X bo m d op A (k+300+90*X.length+100+40))=>(show aD E w P D Q T 2 1 A (k+100*X.length+1000)/\Kept E W w from⟨(hst.sq.less hQ hT (λ _ hj=>.inl hj)).up (by omega),hst.kp⟩));have H8:=zH (zA DC hao);clear hst hs hao hQ hT hth DC hcut uy
 go_wp2_with fail
 refine Zp.out.mono ?_;rintro e w9 ⟨ME,s9,k9⟩;have Bh:=H8.out.1.next H8.out.2 s9 k9;have UB:=zH (Zd id Bh.px (by omega));have xZ:=zH (MC.out w9 s9);have d1:=Bh.box.c1;have d2:=Bh.box.c2;have H9:=zH Bh
 obtain⟨at9,J2,i9,he9,hor,hrf⟩:∃(at9 J2 i9:Int),e= .returned (.tuple #[.int .i64 at9,.int .i64 J2])/\((i9= -1/\at9=0/\J2=4)\/(0<=i9/\at9=i9/\J2=0))/\Calls Tryz.prog 41 #[.slice ao X.length c,.int .u64 id.toNat] w9 λ e w'=>e= .returned (.int .i64 i9)/\w'=w9:=by
  rcases ME with⟨hno,rfl⟩|⟨ι,xG,rfl⟩
  ·refine⟨0,4,-1,rfl,.inl ⟨rfl,rfl,rfl⟩,UB.out.mono ?_⟩;rintro e w' ⟨⟨κ,dK,rfl⟩|⟨_,rfl⟩,rfl⟩
   ·exact absurd (fe dK) hno
   exact⟨rfl,rfl⟩
  refine⟨ι,0,ι,rfl,.inr ⟨by omega,rfl,rfl⟩,UB.out.mono ?_⟩;rintro e w' ⟨⟨κ,dK,rfl⟩|⟨hno,rfl⟩,rfl⟩
  ·have h1:=dn.1 dK;have h2:=dn.1 xG;have h3:=(List.getElem_inj Zq.out).1 (h1.2.trans h2.2.symm);rw[h3];exact⟨rfl,rfl⟩
  exact absurd (fe xG) hno
 subst he9;have Zr:=zH hrf;clear Zp UB MC ME s9 k9 Bh hrf Zq;have hc:(i9<0/\¬0<=i9/\at9=0/\J2=4)\/(¬i9<0/\0<=i9/\at9=i9/\J2=0):=by omega
 clear hor;rcases hc with⟨g1,g2,rfl,rfl⟩|⟨g1,g2,rfl,rfl⟩
 all_goals
  go_wp2_with fail
  refine Zr.out.mono ?_;rintro e wa ⟨rfl,jh⟩;rw[jh];clear jh wa Zr
  go_wp2_with fail
  refine xZ.out.mono ?_;rintro e wb ⟨rfl,sb,kb⟩;have yI:=H9.out.next H8.out.2 sb kb;have HF:=zH (nK.out wb yI);have d2:=yI.box.c2;clear xZ sb kb;by_cases f1:φ<0
  ·have hgv:ql X φ= .tuple #[.int .u64 0,.int .i64 1]:=by unfold ql;rw[if_neg (by omega)]
   rw[hgv];clear yI hgv
   go_wp2_with fail
   go_ret;exact⟨rfl,HF.out⟩
  by_cases f2:(X.length:Int)<=φ
  ·have hgv:ql X φ= .tuple #[.int .u64 0,.int .i64 1]:=by unfold ql;rw[if_pos (by omega),ny (by omega)]
   rw[hgv];clear yI hgv
   go_wp2_with fail
   go_ret;exact⟨rfl,HF.out⟩
  obtain⟨f,rfl⟩:∃f:Nat,φ=f:=⟨φ.toNat,by omega⟩;obtain⟨t,ht⟩:∃t,X[f]?=some t:=⟨_,di (by omega)⟩;have hgv:ql X (f:Int)= .tuple #[.int .u64 (t.toNat:Int),.int .i64 0]:=by unfold ql;rw[if_pos (by omega),show((f:Nat):Int).toNat=f by omega,ht]
  rw[hgv];obtain⟨g,rfl,ck⟩:=yI.px.at9 ht;have ck0:wb.cell? (g,f)=some (.int .u64 (t.toNat:Int)):=ck 0;have hfn:f<X.length:=by omega
  have hbt:((t.toNat:Int) !=(t.toNat:Int))=false:=by simp
  clear yI hgv ht hφ uz hX hk
  go_wp2_with fail
  go_ret;exact⟨rfl,HF.out⟩
end
end Go.Proofs.YtlipgbnnbefhjaaGreatDoor
