/- Facts on texts and trees on pages. -/
import Derived.Test.YtgpmiliahonaoaaGreatDoorKHfKc
set_option maxRecDepth 100000
set_option maxHeartbeats 8000000
set_option linter.unusedSimpArgs false
namespace Go.Proofs.YtgpmiliahonaoaaGreatDoor
open Go.RowKit
open UK (str aF nth Only Row ay w32)
open Go.BigFrame
theorem VC(s:List UInt8)(ch:List Nat)(o:Nat)(v:UInt32)(rest:List UInt8)(e:(bY s ch).drop o=aI v++rest)(r:List UInt8):dG (bY s ch++r) o=v/\o+4<=(bY s ch).length:=by
 have hl:o+4<=(bY s ch).length:=by
  have h1:=congrArg List.length e;rw[zd,zl,show(aI v).length=4 from rfl]at h1;omega
 refine⟨?_,hl⟩;unfold dG;rw[List.drop_append_of_le_length (by omega),e,cO,List.take_left' (show(aI v).length=4 from rfl),CK]
theorem MS(s:List UInt8)(ch:List Nat)(h:300<s.length):bY s ch=1::(aI (w32 s.length)++aI (w32 (ch.headD 0))):=by
 unfold bY;rw[if_neg (by omega)]
theorem VD(s:List UInt8)(ch:List Nat)(h:300<s.length)(r:List UInt8):dG (bY s ch++r) 1=w32 s.length/\dG (bY s ch++r) 5=w32 (ch.headD 0)/\(bY s ch).length=9:=by
 have e:=MS s ch h;refine⟨(VC s ch 1 _ (aI (w32 (ch.headD 0))) (by rw[e];rfl) r).1,(VC s ch 5 _ [] (by rw[e];rfl) r).1,by rw[e];rfl⟩
theorem ybv{W:World}{B:Nat}{x:List UInt8}(h:aF W B x)(o n c:Nat)(hn:4<=n)(ho:o+n<=x.length) :
  Calls Tryz.prog 115 #[.slice (B,o) n c] W λ e w'=>e= .returned (.int .u32 (dI ((x.drop o).take 4)).toNat)/\∃m,w'=W.drewN m:=by
 have c0:=h.cell (i:=o) (by omega);have c1:=h.cell (i:=o+1) (by omega);have c2:=h.cell (i:=o+2) (by omega);have c3:=h.cell (i:=o+3) (by omega)
 have hg:Hid (dI ((x.drop o).take 4)=UK.jl (UK.jl (UK.jl (UK.wide (nth x o)) (UK.shl (UK.wide (nth x (o+1))) 1)) (UK.shl (UK.wide (nth x (o+2))) 2)) (UK.shl (UK.wide (nth x (o+3))) 3)):=by
  show _=_;unfold dI
  have e:∀j,j<4->nth ((x.drop o).take 4) j=nth x (o+j):=λ j hj=>by
   simp only[nth,fE];rw[eX hj,eY]
  rw[e 0 (by omega),e 1 (by omega),e 2 (by omega),e 3 (by omega),jN]
 go_enter Tryz.func115,Tryz.ntmps115
 go_wp2
 go_quiet (fail)
 go_wp2;go_ret
 exact⟨by rw[hg.out]<;>rfl,_,rfl⟩
theorem VE{W:World}{B:Nat}{x:List UInt8}(h:aF W B x)(o n c:Nat)(hn:4<=n)(ho:o+n<=x.length) :
  Calls Tryz.prog 212 #[.slice (B,o) n c] W λ e w'=>e= .returned (.int .i64 (dG x o).toNat)/\∃m,w'=W.drewN m:=by
 have HG:=zH (ybv h o n c hn ho);have hl:=UK.Vq (dI ((x.drop o).take 4));have hw:IntKind.i64.wrap ((dI ((x.drop o).take 4)).toNat:Int)=((dI ((x.drop o).take 4)).toNat:Int):=by rw[dJ];omega
 unfold dG;generalize dI ((x.drop o).take 4)=u at HG hl hw ⊢
 go_enter Tryz.func212,Tryz.ntmps212
 go_wp2_with fail
 refine HG.out.mono ?_;rintro e w1 ⟨rfl,m,rfl⟩;clear HG;go_wp2;go_ret;exact⟨by first|rfl|rw[hw]<;>rfl,m,rfl⟩
theorem Qn{n:Nat}{a w:World}(h:Below n a w):Below n a w.drew:=h.drew
theorem Qo{n:Nat}{a w:World}(h:Below n a w)(m:Nat):Below n a (w.drewN m):=UK.dK h m
theorem Qp{n:Nat}{a w:World}(h:Below n a w)(hn:n<=w.heap.size)(o:Obj):Below n a (w.alloc o):=h.alloc hn o
theorem Qq{n:Nat}{a w:World}(h:Below n a w){g:Nat}(hg:n<=g)(v:Value):Below n a (w.setCell g v):=h.setCell (p:=⟨g,0,none⟩) hg v
theorem UK.ay.set1{W:World}{g:Nat}{a:Value}(h:ay W g #[a])(v:Value):ay (W.setCell g v) g #[v]:=h.set 0 v
section
variable{Fo:Nat->Prop}{Co:Nat->List UInt8}{E F:Nat->Prop}{W W':World}{P D k fb db cap pg root H:Nat}{A:AP}{s:List UInt8}{ch:List Nat}
theorem PZ.oJ(h:PZ E W P D A k):A.au<=60000:=by
 obtain⟨FB,M,n,q,d,h1,r⟩:=h;exact h1.l6.fit.few
theorem oF.Dy{c:Nat->List UInt8}:∀(j:Nat) {s:List UInt8} {ch:List Nat},oF c s ch->j<=ch.length->oF c (s.drop (500*j)) (ch.drop j)
 | 0,s,ch,h,_=>by rw[Nat.mul_zero,List.drop_zero,List.drop_zero];exact h
 | j+1,s,[],_,hj=>absurd hj (Nat.not_succ_le_zero _)
 | j+1,s,p::ps,⟨_,_,_,h4⟩,hj=>by
  have:=oF.Dy j h4 (by simpa using hj);rw[jV]at this;rw[List.drop_succ_cons,show 500*(j+1)=500+500*j by omega];exact this
theorem PZ.turn{c2:Nat}{v2:Value}(h:PZ E W P D A k)(h2:E c2)(t2:0 ≠c2)(b2:ay W c2 #[v2])(b:Value) :
  PZ E (W.setCell c2 b) P D A k/\Kept (λ j=>E j/\j≠c2) W (W.setCell c2 b)/\ay (W.setCell c2 b) c2 #[b]:=by
 have o2:Only c2 W (W.setCell c2 b):=(Only.refl c2 _).set 0 b;refine⟨h.over (R:=λ j=>j=c2) (λ j hj=>by rw[hj];exact h2) t2 o2.size (λ j hj hn=>o2.block j hj hn) (λ _ hj=>.inl hj),⟨o2.os,o2.tape,o2.output,o2.size,λ j hj=>o2.block j (h.there j hj.1) hj.2⟩,b2.set 0 b⟩
structure EY(N:Nat)(kV:Array Value)(J:Nat->(Nat->Prop)->AP->World->Prop)(F:Nat->Prop)(P D:Nat)(s:List UInt8)(ch:List Nat):Prop where
 enter:∀args w,(callFunc N args).run Tryz.prog w= .ok (.enter N args) w
 still:∀j S B w w',J j S B w->Kept S w w'->J j S B w'
 less:∀j S B w,J j S B w->∀b,F b->S b
 does:∀(T:Nat->Prop) (j:Nat) (S:Nat->Prop) (B:AP) (kk:Nat) (w:World) (p:Nat),ch[j]?=some p->500*j<s.length->J j S B w->PZ (λ b=>S b\/T b) w P D B kk->(∀b,T b->¬S b)->kk+1<900000000->(∀q,q∈ch.drop j->B.Has q) ->
  Calls Tryz.prog N (#[.int .i64 p,.string (str ((s.drop (500*j)).take 500))]++kV) w λ e w'=>e= .returned (.int .i64 0)/\∃S' B',J (j+1) S' B' w'/\PZ (λ b=>S' b\/T b) w' P D B' (kk+1)/\(∀b,T b->¬S' b)/\(∀q,q∈ch.drop (j+1)->B'.Has q)/\B'.c=B.c/\Kept (λ b=>F b\/T b) w w'
theorem VF{N:Nat}{kV:Array Value}{J:Nat->(Nat->Prop)->AP->World->Prop}(hd:EY N kV J F P D s ch)(h:PZ E W P D A k)(hk:k+(s.length+10)<900000000)(hb:ay W H (qm P root))(hH:F H)(hch:oF A.c s ch)(hhas:∀p,p∈ch->A.Has p)(hs1:300<s.length)(hs2:s.length<=400000)(hJ:J 0 E A W) :
  Calls Tryz.prog 160 #[.pointer H,.string (str (bY s ch)),.func (.func N) #[] kV] W λ e w'=>e= .returned (.int .i64 0)/\∃S B,J ch.length S B w'/\PZ S w' P D B (k+(s.length+10))/\Kept F W w':=by
 obtain⟨_,_,EZ⟩:=VD s ch hs1 [];have hi9:((bY s ch).length:Int)=9:=by omega
 obtain⟨cap,o,hcap,hrun,hby⟩:=UK.VG (P:=Tryz.prog) (src:=9) (dst:=94) Tryz.underlying9 Tryz.underlying94 Tryz.underlying5 W (bY s ch);rw[EZ]at hcap hrun hby
 obtain⟨hw1,Dz,_⟩:=VD s ch hs1 (List.replicate (cap-9) 0);have bo:Below W W (W.drew.alloc o):=(aV _ _).drew.alloc (aO _) o;have hso:(W.drew.alloc o).heap.size=W.heap.size+1:=by simp
 have HB:=zH hb;have HJ:=zH hJ;have HP:=zH (h.next bo);have HK:=zH (h.kept bo);generalize hwo:W.drew.alloc o=wo at hrun hby bo hso HP HK;clear h hb hJ hwo
 go_enter Tryz.func160,Tryz.ntmps160
 go_upto_region 4 with(fail)
 generalize hhd:ch.headD 0=hd0 at Dz;have GK:=zH hhd
 have Ak:hd0<=4294967295:=by
  rw[<-hhd]
  cases ch with
  | nil=>exact aY _
  | cons a l=>
   have h1:=(hhas a (aT ..)).2.1;have h2:=HP.out.oJ;show a<=_;omega
 have e1:=J4 (n:=s.length) (by omega);have e5:=J4 (n:=hd0) (by omega);rw[<-hw1]at e1;rw[<-Dz]at e5
 go_cut [8,9] (λ nv pv wx=>∃nb:Nat,nv= .pointer nb/\pv= .int .i64 hd0/\wo.heap.size<=nb/\ay wx nb #[.int .i64 s.length]/\Below wo wo wx)
 case first=>
  have HW1:=zH (λ (w:World) (hb:Below wo wo w)=>VE (hby.below hb hby.lt) 1 8 (cap-1) (by omega) (by rw[zl,gY,EZ];omega));have VH:=zH (λ (w:World) (hb:Below wo wo w)=>VE (hby.below hb hby.lt) 5 4 (cap-5) (by omega) (by rw[zl,gY,EZ];omega));rw[e1]at HW1;rw[e5]at VH;have j1:(1:Int)<=cap:=by omega
  have j2:(5:Int)<=cap:=by omega
  have j3:¬(cap=1):=by omega
  have j4:¬(cap=5):=by omega
  clear hhd hch hhas hw1 Dz e1 e5 hrun hd
  go_region_with (first
   | (go_at_call 212;refine(HW1.out _ (by (repeat (first|with_reducible exact aV _ _|with_reducible apply Qn|with_reducible apply Qo|with_reducible apply Qq|with_reducible apply Qp|simp)))).mono ?_;rintro e w3 ⟨rfl,m1,rfl⟩)
   | (go_at_call 212;refine(VH.out _ (by (repeat (first|with_reducible exact aV _ _|with_reducible apply Qn|with_reducible apply Qo|with_reducible apply Qq|with_reducible apply Qp|simp)))).mono ?_;rintro e w3 ⟨rfl,m5,rfl⟩))
  all_goals
   go_wp2_with fail
   go_meet;refine⟨W.heap.size+1,rfl,rfl,by omega,?_,?_⟩
   ·rw[<-hso]
    first
     | exact ay.new _ _ _
     | exact((ay.new wo _ _).drewN _).set1 _
     | exact((ay.new (wo.drewN _) _ _).drewN _).set1 _
   (try rw[<-hso])
   (repeat (first|with_reducible exact aV _ _|with_reducible apply Qn|with_reducible apply Qo|with_reducible apply Qq|with_reducible apply Qp|simp))
 obtain⟨nb,rfl,rfl,hnb,Qr,bl⟩:=hcut;have VI:=HP.out.there;have htab:=HP.out.tab.lt
 have hst:∃(S:Nat->Prop) (B:AP),J 0 S B wc/\¬S nb/\PZ (λ b=>S b\/b=nb) wc P D B k/\B.c=A.c/\(∀q,q∈ch->B.Has q)/\Kept F W wc:=by
  have kk:=HK.out.trans (HP.out.kept bl)
  exact⟨E,A,hd.still _ _ _ _ _ HJ.out kk,λ hE=>by have:=VI nb hE;omega,HP.out.wide bl (λ j hj=>by
   rcases hj with hj|rfl
   ·exact .inl hj
   exact .inr ⟨hnb,Qr.lt⟩),rfl,hhas,kk.mono (hd.less _ _ _ _ HJ.out)⟩
 have HST:=zH hst;have HCH:=zH (λ j (hj:j<=ch.length)=>hch.Dy j hj);have Fa:=zH hch.few;have Qs:=zH Qr;clear hst hch hhas hby hrun hw1 Dz e1 e5 bo bl HP HK HJ Ak Qr VI hhd;have cn:=Qs.out.c0;have i9:¬(400000:Int)<(s.length:Int):=by omega
 go_wp2_with fail
 go_loopw [9] (λ pv wr=>∃(j:Nat) (S:Nat->Prop) (B:AP),pv= .int .i64 ((ch.drop j).headD 0:Nat)/\j<=ch.length/\J j S B wr/\¬S nb/\PZ (λ b=>S b\/b=nb) wr P D B (k+4*j)/\B.c=A.c/\(∀q,q∈ch.drop j->B.Has q)/\ay wr nb #[.int .i64 (s.length-500*j:Nat)]/\Kept F W wr) (λ _ wr=>(intOf ((wr.cell? nb).getD undef)).toNat)
 case atStart=>
  obtain⟨S,B,q1,q2,q3,q4,q5,q6⟩:=HST.out;exact⟨0,S,B,by rw[List.drop_zero,GK.out],aY _,q1,q2,q3,q4,q5,Qs.out,q6⟩
 clear HST Qs cn i9 GK;obtain⟨j,S,B,rfl,hj,q1,q2,q3,q4,q5,q6,q7⟩:=hrel;have c0:=(HB.out.ae (q7.block H hH)).c0;have hcj:=HCH.out j hj;have hsl:(s.drop (500*j)).length=s.length-500*j:=zd;by_cases hm:0<s.length-500*j
 ·obtain⟨p,ps,hdr⟩:∃p ps,ch.drop j=p::ps:=by
   cases hdr:ch.drop j with
   | nil=>
    rw[hdr]at hcj;have h0:s.drop (500*j)=[]:=hcj;rw[h0,List.length_nil]at hsl;omega
   | cons p ps=>exact⟨p,ps,rfl⟩
  have VJ:(ch.drop j).headD 0=p:=by rw[hdr];rfl
  rw[VJ];clear VJ;rw[hdr]at hcj q5;obtain⟨_,hc1,hc2,_⟩:=hcj;rw[hsl]at hc2
  have hjl:j<ch.length:=by
   by_cases hc:j<ch.length
   ·exact hc
   rw[List.drop_eq_nil_of_le (by omega)]at hdr;cases hdr
  have hget:ch[j]?=some p:=by
   have h0:(ch.drop j)[0]?=some p:=by rw[hdr];rfl
   rw[eY,jN]at h0;exact h0
  have Qt:ch.drop (j+1)=ps:=by
   rw[<-jV,hdr];rfl
  have jU:B.Has p:=q5 p (aT ..)
  have hnx:(dG (B.c p) 0).toNat=ps.headD 0:=by
   rw[q4,hc1];refine J4 ?_
   cases ps with
   | nil=>show 0<_;omega
   | cons a l=>
    have h1:=(q5 a (cu _ (aT ..))).2.1;have h2:=q3.oJ;show a<_;omega
  rw[<-q4]at hc2;have hpl:((s.drop (500*j)).take 500).length=min 500 (s.length-500*j):=by rw[zt,hsl]
  generalize yS:(s.drop (500*j)).take 500=part at hc2 hpl;have hm':s.length-500*(j+1)=s.length-500*j-part.length:=by omega
  have sG:part.length<=s.length-500*j/\0<part.length/\s.length-500*j<=400000:=by omega
  generalize hmm:s.length-500*j=m at q6 hm hc2 hpl hm' sG;have cm:=q6.c0;have hlt:=q3.there;have Fb:=q6.lt;have ht:=q3.tab.lt;have a1:Below wr wr (wr.alloc (.cells #[.string (str [])] 9)):=(aV _ _).alloc (aO _) _;have JC:(wr.alloc (.cells #[.string (str [])] 9)).heap.size=wr.heap.size+1:=by simp
  have x1:=ay.new wr #[.string (str [])] 9;have a2:=a1.alloc (by omega) (.cells #[.int .i64 0] 3);have JE:((wr.alloc (.cells #[.string (str [])] 9)).alloc (.cells #[.int .i64 0] 3)).heap.size=wr.heap.size+2:=by simp
  have x2:=ay.new (wr.alloc (.cells #[.string (str [])] 9)) #[.int .i64 0] 3;rw[JC]at x2;have lY:=x1.alloc (.cells #[.int .i64 0] 3);have c0x:((wr.alloc (.cells #[.string (str [])] 9)).alloc (.cells #[.int .i64 0] 3)).cell? H=some (.pointer P):=((HB.out.ae (q7.block H hH)).next a2).cell 0 _ rfl;generalize hw2:(wr.alloc (.cells #[.string (str [])] 9)).alloc (.cells #[.int .i64 0] 3)=w2 at a2 JE x2 lY;have HWW:=zH hw2
  have p2:=q3.wide a2 (T:=λ b=>S b\/(b=nb\/b=wr.heap.size\/b=wr.heap.size+1)) (λ b hb=>by
   rcases hb with hb|hb|hb|hb
   ·exact .inl (.inl hb)
   ·exact .inl (.inr hb)
   ·exact .inr (by omega)
   exact .inr (by omega))
  have k2:Kept (λ b=>S b\/b=nb) wr w2:=q3.kept a2
  have HW:=zH (BK (N:=213) (kV:= #[.pointer (some ⟨wr.heap.size+1,0,none⟩),.pointer nb,.pointer wr]) (F:=λ b=>S b\/b=nb)
   (R:=λ A' k' r w'=>A'=B/\k'=k+4*j+2/\r=0/\ay w' (wr.heap.size+1) #[.int .i64 (ps.headD 0:Nat)]/\ay w' wr #[.string (str part)])
   (yJ Tryz.func213 (by kernel_rfl) (by kernel_rfl)) p2 (by have:=Fa.out;omega) jU (λ b hb=>by
    rcases hb with hb|hb
    ·exact .inl hb
    ·exact .inr (.inl hb)) (λ fb db cap w lq hkk=>by
    refine(xt1 lq (x2.ae (hkk.block _ (.inr (.inr (.inr rfl))))) ((q6.next a2).ae (hkk.block _ (.inr (.inl rfl)))) (lY.ae (hkk.block _ (.inr (.inr (.inl rfl))))) (.inr (.inr (.inr rfl))) (.inr (.inr (.inl rfl))) (by omega) (by omega) (by omega) (by omega) (by omega)).mono ?_;rintro e w' ⟨he,r1,r2,r3,r4⟩;rw[hnx]at r2;rw[hc2]at r3;refine⟨0,B,k+4*j+2,false,he,r1,r4.mono (λ b hb=>⟨?_,?_,?_⟩),rfl,rfl,rfl,r2,r3⟩
    ·rcases hb with hb|hb
     ·exact .inl hb
     exact .inr (.inl hb)
    ·have:=hlt b hb;omega
    have:=hlt b hb;omega))
  have eN:=hd.enter;have HQ:=zH (zA q1 (zA q2 (zA q4 (zA q5 (zA q6 (zA q7 k2))))));have HT:=zH (zA hlt Fb);have HDR:=zH hdr;clear q1 q2 q3 q4 q5 q6 q7 p2 k2 a1 a2 x1 lY x2 JC JE hc1 hc2 hnx jU hdr hw2 hlt
  go_wp2_with fail
  rw[HWW.out];refine HW.out.mono ?_;rintro e w3 ⟨r,A',k',w1',rfl,⟨rfl,rfl,rfl,b1,b2⟩,p3,k3,k4⟩;obtain⟨q1,q2,q4,q5,q6,q7,k2⟩:=HQ.out;obtain⟨hlt,Fb⟩:=HT.out;have b13:=b1.ae (k3.block _ (.inr (.inr (.inr rfl))));have qZ:=b2.ae (k3.block _ (.inr (.inr (.inl rfl))));have k24:=k2.trans k4;have JF:=q6.ae (k24.block _ (.inr rfl));have VK:=hd.still _ _ _ _ _ q1 (k24.mono (λ b hb=>.inl hb))
  have hdo:=hd.does (λ b=>b=nb\/b=wr.heap.size\/b=wr.heap.size+1) j S A' (k+4*j+2) w3 p hget (by omega) VK p3 (λ b hb hS=>by
   rcases hb with rfl|rfl|rfl
   ·exact q2 hS
   ·have:=hlt _ (.inl hS);omega
   ·have:=hlt _ (.inl hS);omega) (by have:=Fa.out;omega) (λ q hq=>by
   refine q5 q ?_;have hh:ch.drop j=p::ps:=HDR.out;rw[<-hh];exact hq)
  rw[yS]at hdo;have VL:=zH hdo;have d10:=qZ.c0;have HB3:=zH (zA b13 (zA qZ (zA JF (zA q7 (zA k24 (zA q4 (hd.less _ _ _ _ q1)))))));clear HQ HT HW p3 k3 k4 b1 b2 b13 qZ k24 JF VK hdo q1 q2 q4 q5 q6 q7 k2 hlt Fb
  go_wp2_with fail
  refine VL.out.mono ?_;rintro e w4 ⟨rfl,S',B',r1,r2,r3,r4,r5,r6⟩;obtain⟨b13,qZ,JF,q7,k24,q4,VM⟩:=HB3.out;have b14:=b13.ae (r6.block _ (.inr (.inr (.inr rfl))));have qw:=qZ.ae (r6.block _ (.inr (.inr (.inl rfl))));have MU:=JF.ae (r6.block _ (.inr (.inl rfl)));have n1:nb≠wr.heap.size:=by omega
  have n2:nb≠wr.heap.size+1:=by omega
  obtain⟨z1,z2,z3⟩:=r2.turn (.inr (.inl rfl)) (by omega) MU (.int .i64 ((s.length-500*(j+1):Nat):Int));have Qu:Kept (λ b=>S' b) w4 (w4.setCell nb (.int .i64 ((s.length-500*(j+1):Nat):Int))):=z2.mono (λ b hb=>⟨.inl hb,λ e=>r3 nb (.inl rfl) (e▸hb)⟩)
  have hFn:∀b,F b->b≠nb:=λ b hb e=>r3 nb (.inl rfl) (by
   have:=hd.less _ _ _ _ r1 b hb;rw[<-e];exact this)
  have kF:Kept F W (w4.setCell nb (.int .i64 ((s.length-500*(j+1):Nat):Int))):=
   ((q7.trans (k24.mono (λ b hb=>.inl (VM b hb)))).trans (r6.mono (λ b hb=>.inl hb))).trans (Qu.mono (λ b hb=>hd.less _ _ _ _ r1 b hb))
  have H5:Hid (∃(S:Nat->Prop) (B:AP),J (j+1) S B (w4.setCell nb (.int .i64 ((s.length-500*(j+1):Nat):Int)))/\¬S nb/\PZ (λ b=>S b\/b=nb) (w4.setCell nb (.int .i64 ((s.length-500*(j+1):Nat):Int))) P D B (k+4*(j+1))/\B.c=A.c/\(∀q,q∈ch.drop (j+1)->B.Has q)/\ay (w4.setCell nb (.int .i64 ((s.length-500*(j+1):Nat):Int))) nb #[.int .i64 ((s.length-500*(j+1):Nat):Int)]/\Kept F W (w4.setCell nb (.int .i64 ((s.length-500*(j+1):Nat):Int)))):=
   ⟨S',B',hd.still _ _ _ _ _ r1 Qu,r3 nb (.inl rfl),(z1.less (λ b hb=>by
    rcases hb with hb|hb
    ·exact .inl hb
    exact .inr (.inl hb))).up (by omega),r5.trans q4,r4,z3,kF⟩
  have e4:=MU.c0;have e5':=qw.c0;have e6:=b14.c0;have f4:w4.frozen? ⟨nb,0,none⟩=false:=MU.free 0;have hsub:(m:Int)-(part.length:Int)=((s.length-500*(j+1):Nat):Int):=by omega
  have hcell:=z3.c0;have VN:=zH hcell;have hb1:((s.length-500*(j+1):Nat):Int)<400000:=by omega
  have hb2:(part.length:Int)<=m:=by omega
  have hb3:(m:Int)<=400000:=by omega
  have hb4:s.length-500*(j+1)<m:=by omega
  generalize hm2:s.length-500*(j+1)=m2 at H5 hsub VN hb1 hb4;have Qv:=zH hm2;clear hm2;generalize VO:ps.headD 0=ph at e6;have HPH:=zH VO;clear VL HB3 r1 r2 r3 r4 r5 r6 b13 qZ JF q7 k24 q4 VM b14 qw MU z1 z2 z3 Qu hFn kF hcell hm' VO d10 c0x eN hpl sG hm;go_wp2;go_roundw
  case rel=>
   obtain⟨S5,B5,t1,t2,t3,t4,t5,t6,t7⟩:=H5.out;exact⟨j+1,S5,B5,by rw[Qt,HPH.out],hjl,t1,t2,t3,t4,t5,by rw[Qv.out];exact t6,t7⟩
  rw[VN.out,cm];simp[intOf];omega
 have hnil:ch.drop j=[]:=by
  cases hdr:ch.drop j with
  | nil=>rfl
  | cons p ps=>
   rw[hdr]at hcj;exact absurd (List.length_eq_zero_iff.1 (by omega)) hcj.1
 have hje:j=ch.length:=by
  have:=congrArg List.length hnil;rw[zd,List.length_nil]at this;omega
 have h0:s.length-500*j=0:=by omega
 rw[h0]at q6;have cm:=q6.c0;have HQ:=zH (zA q1 (zA (q3.less (T:=S) (λ _ hb=>.inl hb)) (zA q7 hje)));clear q1 q2 q3 q4 q5 q6 q7 hcj hnil;go_wp2;go_ret;obtain⟨q1,q3,q7,rfl⟩:=HQ.out;exact⟨rfl,S,B,q1,q3.up (by have:=Fa.out;omega),q7⟩
end
open SR (aM aW total)
open SL (hole add trim room live)
theorem VP(l m:List UInt8):UK.cellsOf (l++m)=UK.cellsOf l++UK.cellsOf m:=dO
theorem xt4(s:List UInt8)(j:Nat):s.take (500*j)++(s.drop (500*j)).take 500=s.take (500*(j+1)):=by
 rw[show 500*(j+1)=500*j+500 by omega,List.take_add]
section
variable{Fo:Nat->Prop}{Co:Nat->List UInt8}{E F:Nat->Prop}{W W':World}{P D k fb db cap pg root H cb:Nat}{A:AP}{s:List UInt8}{ch:List Nat}
def BR(W:World)(cb:Nat)(ao:Option Addr)(c:Nat)(l:List UInt8):Prop:=((ao=none/\UK.cellsOf l=[]/\c=0)\/∃g,ao=some ⟨g,0,none⟩/\Row W g c (UK.cellsOf l)/\cb<g)
def JG(A:AP)(E:Nat->Prop)(cb:Nat)(s:List UInt8)(j:Nat)(S:Nat->Prop)(B:AP)(w:World):Prop:=
 B=A/\∃ao c,(∀b,S b↔E b\/b=cb\/aK ao b)/\ay w cb #[.slice ao (s.take (500*j)).length c]/\BR w cb ao c (s.take (500*j))
theorem BR.ae{w w':World}{ao:Option Addr}{c:Nat}{l:List UInt8}(h:BR w cb ao c l)(hs:w.heap.size<=w'.heap.size)(hb:∀b,aK ao b->w'.heap[b]?=w.heap[b]?):BR w' cb ao c l:=by
 rcases h with h|⟨g,e,r,n⟩
 ·exact .inl h
 exact .inr ⟨g,e,r.ae hs (hb g e),n⟩
theorem xt5(hE:∀b,E b->b<cb)(hcb:0 <cb)(hs:s.length<=400000):EY 161 #[.pointer cb] (JG A E cb s) E P D s ch:=by
 refine⟨yJ Tryz.func161 (by kernel_rfl) (by kernel_rfl),?_,?_,?_⟩
 ·rintro j S B w w' ⟨rfl,ao,c,h1,h2,h3⟩ hk;exact⟨rfl,ao,c,h1,h2.ae (hk.block _ ((h1 _).2 (.inr (.inl rfl)))),h3.ae hk.size (λ b hb=>hk.block _ ((h1 _).2 (.inr (.inr hb))))⟩
 ·rintro j S B w ⟨rfl,ao,c,h1,h2,h3⟩ b hb;exact(h1 b).2 (.inl hb)
 rintro T j S B kk w p hget hjs ⟨rfl,ao,c,h1,h2,h3⟩ hpz hT hkk hhas;have hpl:0<((s.drop (500*j)).take 500).length:=by rw[zt,zd];omega
 have htk:=xt4 s j;generalize yS:(s.drop (500*j)).take 500=part at hpl htk ⊢;have hln:(s.take (500*j)).length+part.length=(s.take (500*(j+1))).length:=by rw[<-htk,zl]
 have hle:(s.take (500*(j+1))).length<=400000:=by rw[zt];omega
 have hbc:byteCells (str part)=UK.cellsOf part:=by unfold byteCells;rw[UK.mi];rfl
 have hsrc:=Src.ofString (P:=Tryz.prog) (w:=w) Tryz.underlying9 (str part);rw[UK.dY,hbc]at hsrc;have yT:(UK.cellsOf part).length=part.length:=UK.bg part;rw[<-yT]at hsrc
 obtain⟨g',c',w1,e1,r1,o1⟩:=UK.GQ (P:=Tryz.prog) (t:=94) (tx:=9) (ty:=94) Tryz.underlying94 (i:=Tryz.t5) rfl rfl rfl (show(1:Nat)<=16 by omega) rfl (vs:=UK.cellsOf (s.take (500*j))) (ao:=ao) (c:=c) (by
  rcases h3 with⟨a,b,d⟩|⟨g,a,b,d⟩
  ·exact .inl ⟨a,b,d⟩
  exact .inr ⟨g,a,b⟩) (by omega) hsrc (by rw[UK.bg,yT];omega)
 rw[UK.bg,<-VP,UK.bg,htk]at e1;rw[<-VP,htk]at r1;have JH:S cb:=(h1 cb).2 (.inr (.inl rfl));have Qw:cb<w.heap.size:=h2.lt
 have hg':cb<g':=by
  rcases o1 with⟨a,_⟩|⟨a,_⟩
  ·rcases h3 with⟨b,_⟩|⟨g,b,_,d⟩
   ·rw[b]at a;cases a
   rw[b]at a;cases a;exact d
  omega
 have Bt:S g'\/w.heap.size<=g':=by
  rcases o1 with⟨a,_⟩|⟨a,_⟩
  ·exact .inl ((h1 g').2 (.inr (.inr a)))
  exact .inr (by omega)
 have hk1:∀b,b<w.heap.size->b≠g'->w1.heap[b]?=w.heap[b]?:=λ b hb hn=>by
  rcases o1 with⟨_,o⟩|⟨_,o⟩
  ·exact o.block b hb hn
  exact o.block b hb
 have hsz:w.heap.size<=w1.heap.size/\g'<w1.heap.size:=⟨by
  rcases o1 with⟨_,o⟩|⟨_,o⟩
  ·exact o.size
  exact o.size,r1.lt⟩
 have hlt:=hpz.there;have bc1:ay w1 cb #[.slice ao (s.take (500*j)).length c]:=h2.ae (hk1 cb Qw (by omega))
 have VQ:PZ (λ b=>(E b\/b=cb\/b=g')\/T b) w1 P D B kk:=by
  have hsub:∀b,(E b\/b=cb\/b=g')\/T b->(S b\/T b)\/(w.heap.size<=b/\b<w1.heap.size):=λ b hb=>by
   rcases hb with(hb|rfl|rfl)|hb
   ·exact .inl (.inl ((h1 b).2 (.inl hb)))
   ·exact .inl (.inl JH)
   ·rcases Bt with h|h
    ·exact .inl (.inl h)
    exact .inr ⟨h,hsz.2⟩
   exact .inl (.inr hb)
  rcases o1 with⟨a,o⟩|⟨a,o⟩
  ·exact hpz.over (R:=λ b=>b=g') (λ b hb=>.inl ((h1 b).2 (.inr (.inr (by rw[hb];exact a))))) (by omega) o.size (λ b hb hn=>o.block b hb hn) hsub
  exact hpz.wide o hsub
 obtain⟨z1,z2,z3⟩:=VQ.turn (.inl (.inr (.inl rfl))) (by omega) bc1 (.slice g' (s.take (500*(j+1))).length c');have r2:Row (w1.setCell cb (.slice g' (s.take (500*(j+1))).length c')) g' c' (UK.cellsOf (s.take (500*(j+1)))):=r1.only ((Only.refl cb w1).set 0 _) (by omega)
 have xq:∀b,T b->¬(E b\/b=cb\/b=g'):=λ b hb hh=>by
  rcases hh with hh|rfl|rfl
  ·exact hT b hb ((h1 b).2 (.inl hh))
  ·exact hT b hb JH
  rcases Bt with h|h
  ·exact hT b hb h
  have:=hlt b (.inr hb);omega
 have o2:Only cb w1 (w1.setCell cb (.slice g' (s.take (500*(j+1))).length c')):=(Only.refl cb w1).set 0 _
 have hos:w1.os=w.os/\w1.tape=w.tape/\w1.output=w.output:=by
  rcases o1 with⟨_,o⟩|⟨_,o⟩
  ·exact⟨o.os,o.tape,o.output⟩
  exact⟨o.os,o.tape,o.output⟩
 have kF:Kept (λ b=>E b\/T b) w (w1.setCell cb (.slice g' (s.take (500*(j+1))).length c')):=by
  refine⟨o2.os.trans hos.1,o2.tape.trans hos.2.1,o2.output.trans hos.2.2,aP hsz.1 o2.size,λ b hb=>?_⟩
  have hbl:b<w.heap.size:=by
   rcases hb with hb|hb
   ·exact hlt b (.inl ((h1 b).2 (.inl hb)))
   exact hlt b (.inr hb)
  have hbn:b≠cb/\b≠g':=by
   rcases hb with hb|hb
   ·have:=hE b hb;exact⟨by omega,by omega⟩
   exact⟨λ e=>xq b hb (.inr (.inl e)),λ e=>xq b hb (.inr (.inr e))⟩
  exact(o2.block b (by omega) hbn.1).trans (hk1 b hbl hbn.2)
 have H5:Hid (∃(S':Nat->Prop) (B':AP),JG B E cb s (j+1) S' B' (w1.setCell cb (.slice g' (s.take (500*(j+1))).length c'))/\PZ (λ b=>S' b\/T b) (w1.setCell cb (.slice g' (s.take (500*(j+1))).length c')) P D B' (kk+1)/\(∀b,T b->¬S' b)/\(∀q,q∈ch.drop (j+1)->B'.Has q)/\B'.c=B.c/\Kept (λ b=>E b\/T b) w (w1.setCell cb (.slice g' (s.take (500*(j+1))).length c'))):=
  ⟨λ b=>E b\/b=cb\/b=g',B,⟨rfl,_,c',λ b=>by rw[show aK g' b↔b=g' from⟨λ e=>by cases e;rfl,λ e=>by rw[e];rfl⟩],z3,.inr ⟨g',rfl,r2,hg'⟩⟩,z1.up (by omega),xq,λ q hq=>hhas q (by
   rw[<-jV]at hq;exact jf hq),rfl,kF⟩
 have c0:=h2.c0;have c1:=bc1.c0;have f1:w1.frozen? ⟨cb,0,none⟩=false:=bc1.free 0;generalize (s.take (500*j)).length=n0 at e1 c0 c1;generalize (s.take (500*(j+1))).length=n1 at e1 H5;clear h1 h2 h3 hpz hT hhas hget yS hsrc r1 o1 hk1 bc1 VQ z1 z2 z3 r2 xq o2 kF Bt hlt htk hln hle hbc yT hpl;show Calls Tryz.prog 161 #[.int .i64 p,.string (str part),.pointer cb] w _
 go_enter Tryz.func161,Tryz.ntmps161
 go_wp2_with (at_builtin;refine UK.lH e1 rfl rfl rfl rfl rfl ?_)
 go_ret;exact⟨rfl,H5.out⟩
end
theorem xq8{src dst e:TypeId}(hs:Tryz.prog.underlying src=some (.slice e))(he:Tryz.prog.underlying e=some (.int .u8))(hd:Tryz.prog.underlying dst=some .string){W:World}{g c:Nat}{l:List UInt8}(h:Row W g c (UK.cellsOf l)) :
  (convert src dst (.slice g l.length c)).run Tryz.prog W= .ok (.string (str l)) W:=
 run_convert_bytes_back (P:=Tryz.prog) W src dst e ⟨g,0,none⟩ c l hs he hd (λ j hj=>by
  rw[UK.lQ,eG,h.holds j (by rw[UK.bg];exact hj)];simp[UK.cellsOf,hj])
theorem oF.covers{c:Nat->List UInt8}:∀{ch:List Nat} {s:List UInt8},oF c s ch->s.length<=500*ch.length
 | [],s,h=>by rw[show s=[]from h];exact aY _
 | p::ps,s,⟨_,_,_,h4⟩=>by
  have:=h4.covers;rw[zd]at this;rw[dn];omega
section
variable{Fo:Nat->Prop}{Co:Nat->List UInt8}{E F:Nat->Prop}{W W':World}{P D k fb db cap pg root H cb:Nat}{A:AP}{rp:List Nat}{L:Nat->List (List UInt8)}{X:List HT}{t:HT}
theorem HZ.find(h:HZ Fo Co E W P D H k A root pg rp L X)(ht:t∈X)(hk:k+2<900000000) :
  Calls Tryz.prog 159 #[.pointer H,.int .u64 (bK t:Nat)] W λ e w'=>e= .returned (.tuple #[.string (str (bY t.s t.ch)),.int .i64 0])/\PZ E w' P D A (k+2)/\Kept E W w':=by
 obtain⟨h1,h2,h3⟩:=h.hi.each t ht;obtain⟨h4,h5⟩:=h.hi.slot ht;obtain⟨r1,r2⟩:=h.hi.recs t.pg h1;have cZ:A.Has t.pg:=(h.hi.nS h1).1
 have wy:t.pg<=60000:=by
  have:=cZ.2.1;have:=h.pz.oJ;omega
 refine(xxa h.pz hk h.box r1 r2 cZ wy (show t.i<256 by omega)).mono ?_;have hrc:aW (L t.pg) t.i=bY t.s t.ch:=h2;rintro e w' (⟨a,he,q⟩|⟨a,_⟩)
 ·rw[hrc]at he;exact⟨he,q⟩
 rw[hrc]at a;exact absurd a (ML _ _)
theorem Qx(s:List UInt8)(ch:List Nat)(h:s.length<=300):bY s ch=0::s:=by unfold bY;rw[if_pos h]
theorem xz8(h:HZ Fo Co E W P D H k A root pg rp L X)(ht:t∈X)(hk:k+(t.s.length+20)<900000000) :
  Calls Tryz.prog 93 #[.pointer H,.int .u64 (bK t:Nat)] W λ e w'=>e= .returned (.tuple #[.string (str t.s),.int .i64 0])/\PZ E w' P D A (k+(t.s.length+20))/\Kept E W w':=by
 have HF:=zH (h.find ht (by omega));have HH:=zH h;have HT:=zH ht;have hl4:=(h.hi.each t ht).2.2;generalize hid:(bK t:Nat)=id_ at HF ⊢;clear h ht hid;by_cases hs:t.s.length<=300
 ·have hrec:=Qx t.s t.ch hs;rw[hrec]at HF;generalize hr:(0:UInt8)::t.s=rec at HF;have hn0:nth rec 0=0:=by rw[<-hr];rfl
  have sH:((nth rec 0).toNat:Int)=0:=by rw[hn0];rfl
  have hl0:(0:Int)<rec.length:=by rw[<-hr,dn];omega
  have hl1:(1:Int)<=rec.length:=by omega
  have hdr:(rec.take rec.length).drop 1=t.s:=by rw[fH,<-hr];rfl
  clear hrec hr
  go_enter Tryz.func93,Tryz.ntmps93
  go_wp2_with fail
  refine HF.out.mono ?_;rintro e w1 ⟨rfl,p1,k1⟩;have H1:=zH (zA p1 k1);clear HF p1 k1;go_wp2;go_ret2;refine⟨?_,H1.out.1.up (by omega),H1.out.2⟩;simp only[Ending.returned.injEq,Value.tuple.injEq];simp;rw[<-hdr,fH,List.drop_one]
 have hrec:=MS t.s t.ch (by omega);have hn0:nth (bY t.s t.ch) 0=1:=by rw[hrec];rfl
 have sH:((nth (bY t.s t.ch) 0).toNat:Int)=1:=by rw[hn0];rfl
 have EZ:(bY t.s t.ch).length=9:=by rw[hrec];rfl
 have hl0:(0:Int)<(bY t.s t.ch).length:=by omega
 have HS:=zH hs;clear hrec hs EZ
 go_enter Tryz.func93,Tryz.ntmps93
 go_wp2_with fail
 refine HF.out.mono ?_;rintro e w1 ⟨rfl,p1,k1⟩;have h:=HH.out;have ht:=HT.out
 have hch:oF A.c t.s t.ch:=by
  have h1:qc A.c t:=h.hi.long t ht;unfold qc at h1;rw[if_neg HS.out]at h1;exact h1
 have a1:Below w1 w1 (w1.alloc (.cells #[.slice none 0 0] 94)):=(aV _ _).alloc (aO _) _;have hs1:(w1.alloc (.cells #[.slice none 0 0] 94)).heap.size=w1.heap.size+1:=by simp
 have x1:=ay.new w1 #[.slice none 0 0] 94
 have p2:=p1.wide a1 (T:=λ b=>E b\/b=w1.heap.size) (λ b hb=>by
  rcases hb with hb|hb
  ·exact .inl hb
  exact .inr (by omega))
 have k2:=k1.trans (p1.kept a1)
 have hJ:JG A E w1 t.s 0 (λ b=>E b\/b=w1.heap.size) A (w1.alloc (.cells #[.slice none 0 0] 94)):=
  ⟨rfl,none,0,λ b=>⟨λ hb=>by
   rcases hb with hb|hb
   ·exact .inl hb
   ·exact .inr (.inl hb),λ hb=>by
   rcases hb with hb|hb|hb
   ·exact .inl hb
   ·exact .inr hb
   cases hb⟩,by rw[Nat.mul_zero,jW];exact x1,.inl ⟨rfl,by rw[Nat.mul_zero,jW];rfl,rfl⟩⟩
 have HW:=zH (VF (xt5 (A:=A) (E:=E) (P:=P) (D:=D) (s:=t.s) (ch:=t.ch) (λ b hb=>p1.there b hb) p1.tab.lt hl4) p2 (by omega) (h.box.ae (k2.block H h.mem)) h.mem hch (λ p hp=>(h.hi.sw ht hp).1) (by have:=HS.out;omega) hl4 hJ);have K2:=zH k2;clear HF p1 k1 h ht hch a1 hs1 x1 p2 k2 hJ
 go_wp2_with fail
 refine HW.out.mono ?_;rintro e w3 ⟨rfl,S,B,⟨rfl,ao,c,hS,bx,br⟩,p3,k3⟩
 have il:(t.s.take (500*t.ch.length))=t.s:=by
  have h1:qc B.c t:=HH.out.hi.long t HT.out;unfold qc at h1;rw[if_neg HS.out]at h1;have:=h1.covers;exact fO this
 rw[il]at bx br
 obtain⟨g,rfl,r,_⟩:∃g,ao=some ⟨g,0,none⟩/\Row w3 g c (UK.cellsOf t.s)/\w1.heap.size<g:=by
  rcases br with⟨_,a,_⟩|⟨g,a,b,d⟩
  ·have h0:=congrArg List.length a;rw[UK.bg,List.length_nil]at h0;have:=HS.out;omega
  exact⟨g,a,b,d⟩
 have c3:=bx.c0;have hcv:=xq8 (src:=94) (dst:=9) Tryz.underlying94 Tryz.underlying5 Tryz.underlying9 r;have H3:=zH (zA ((p3.less (T:=E) (λ b hb=>(hS b).2 (.inl hb))).up (show k+2+(t.s.length+10)<=k+(t.s.length+20) by omega)) (K2.out.trans k3));clear HW K2 hS bx br p3 k3 r il;go_wp2;go_ret2;exact⟨rfl,H3.out⟩
end
section
variable{Fo:Nat->Prop}{Co:Nat->List UInt8}{E F:Nat->Prop}{W W':World}{P D k fb db cap pg root H hb c1 c2 i:Nat}{A:AP}{s:List UInt8}{ch:List Nat}{L:List (List UInt8)}{v2:Value}
def JD(A:AP)(E:Nat->Prop)(P root H hb:Nat)(ch:List Nat)(j:Nat)(S:Nat->Prop)(B:AP)(w:World):Prop:=
 (∀b,S b↔E b)/\A.Reach B/\B.c=A.c/\(∀p,B.Has p↔A.Has p/\p∉ch.take j)/\ay w hb #[.pointer H]/\ay w H (qm P root)
theorem xq9(hg:A.Good)(hnd:ch.Nodup)(h1:E hb)(h2:E H):EY 167 #[.pointer hb] (JD A E P root H hb ch) E P D s ch:=by
 refine⟨yJ Tryz.func167 (by kernel_rfl) (by kernel_rfl),?_,?_,?_⟩
 ·rintro j S B w w' ⟨a,b,c,d,e,f⟩ hk;exact⟨a,b,c,d,e.ae (hk.block _ ((a _).2 h1)),f.ae (hk.block _ ((a _).2 h2))⟩
 ·rintro j S B w ⟨a,b,c,d,e,f⟩ q hq;exact(a q).2 hq
 rintro T j S B kk w p hget hjs ⟨a,b,c,d,e,f⟩ hpz hT hkk hhas
 have hdr:ch.drop j=p::ch.drop (j+1):=by
  obtain⟨hl,he⟩:=dE.1 hget;rw[lm hl,he]
 have jU:B.Has p:=hhas p (by rw[hdr];exact aT ..);have hgv:=(b.good hg).give jU
 have Qy:p∉ch.drop (j+1):=by
  have h0:(ch.drop j).Nodup:=hnd.sublist (List.drop_sublist j ch);rw[hdr]at h0;exact(dW.1 h0).1
 have htk:ch.take (j+1)=ch.take j++[p]:=by rw[List.take_add_one,hget];rfl
 have HG:=zH (JI hpz hkk p jU);have c0:=e.c0;have c1:=f.c0;have HX:=zH (zA a (zA b (zA c (zA d (zA e (zA f hgv))))));clear hpz a b c d e f hgv;show Calls Tryz.prog 167 #[.int .i64 p,.string (str ((s.drop (500*j)).take 500)),.pointer hb] w _
 go_enter Tryz.func167,Tryz.ntmps167
 go_wp2_with fail
 refine HG.out.mono ?_;rintro e w1 ⟨rfl,p1,k1⟩;have H1:=zH (zA p1 k1);clear HG p1 k1;go_wp2;go_ret;obtain⟨a,b,c,d,e,f,g1,g2,g3,g4⟩:=HX.out;obtain⟨p1,k1⟩:=H1.out
 refine⟨rfl,S,B.give p,⟨a,b.give jU,(AP.ky p).trans c,λ q=>?_,e.ae (k1.block _ (.inl ((a _).2 h1))),f.ae (k1.block _ (.inl ((a _).2 h2)))⟩,p1,hT,λ q hq=>(g2 q).2 ⟨hhas q (by rw[hdr];exact cu _ hq),λ e=>Qy (e▸hq)⟩,AP.ky p,k1.mono (λ q hq=>by
  rcases hq with hq|hq
  ·exact .inl ((a q).2 hq)
  exact .inr hq)⟩
 rw[g2,d,htk,dD,bz]
 constructor
 ·rintro⟨⟨x,y⟩,z⟩;exact⟨x,λ hh=>hh.elim y z⟩
 rintro⟨x,y⟩;exact⟨⟨x,λ hh=>y (.inl hh)⟩,λ hh=>y (.inr hh)⟩
theorem VR{l:List (List UInt8)}(h:Dt l)(hn:l≠[]):0<live l:=by
 rcases h with h|h
 ·exact absurd h hn
 have e:=(List.dropLast_concat_getLast hn).symm;have hl:0<l.length:=List.length_pos_iff.2 hn;rw[e,SL.nD]
 have h2:l.getLast hn≠[]:=by
  rw[List.getLast_eq_getElem];unfold aW at h;rw[fE,bL (by omega)]at h;exact h
 have:live [l.getLast hn]=1:=by simp[SL.live,h2]
 omega
theorem xra(h:PF E W P D (A.keep pg) k fb db cap pg true)(hr:aM (A.c pg) L)(hi:i<L.length)(hrc:aW L i≠[]) :
  Calls Tryz.prog 171 #[.slice db 504 cap,.int .i64 i] W λ e w'=>e= .returned (.bool true)/\(∃z,aM z (trim (L.set i []))/\z.length=504/\PF E w' P D (A.ak pg z) k fb db cap pg true)/\Kept E W w':=by
 obtain⟨y,y1,y2,y3,y4,y5⟩:=h.bytes;have y3:y.take 504=A.c pg:=y3;refine(SL.yU db y L cap i W y1 (hr.nz (by omega) y3) hi hrc).mono ?_;rintro e w' ⟨he,⟨z,z1,z2,z3⟩,o⟩;obtain⟨p,kk⟩:=h.write o z1 (z3.trans y2);exact⟨he,⟨z.take 504,z2.cut,by rw[zt];omega,p⟩,kk⟩
theorem VS(h:PF E W P D A k fb db cap pg false)(hk:k<900000000)(hr:aM (A.c pg) L)(hp:pg<=60000)(hi2:i<256)(hi:i<L.length)(hrc:aW L i≠[])(b1:ay W c1 #[.int .u64 ((pg*256+i:Nat):Int)])(b2:ay W c2 #[v2])(h1:E c1)(h2:E c2)(t2:0 ≠c2) :
  Calls Tryz.prog 170 #[.pointer fb,.pointer c1,.pointer c2] W λ e w'=>e= .returned (.int .i64 0)/\(∃z,aM z (trim (L.set i []))/\z.length=504/\PF E w' P D (A.ak pg z) (k+1) fb db cap pg true)/\ay w' c2 #[.int .i64 (live (trim (L.set i [])):Nat)]/\Kept (λ j=>E j/\j≠c2) W w':=by
 have bd:Below W W W.drew:=(aV _ _).drew;have hand:=MR pg i hp hi2;have GN:Hid (IntKind.i64.wrap (i:Int)=(i:Int)):=by show _=_;rw[dJ];omega
 generalize hn:pg*256+i=n at hand b1;have p0:=h.next bd;have k0:=h.kept bd;have d1:=b1.drew.c0;have HE:=zH ((yI p0 hk).mono (R':=λ e w'=>e= .returned (.slice db 504 cap)/\w'.cell? c1=some (.int .u64 (n:Int))/\PF E w' P D (A.keep pg) (k+1) fb db cap pg true/\Kept E W.drew w') (λ _ _ ⟨a,b,c⟩=>⟨a,(b1.drew.ae (c.block _ h1)).cell 0 _ rfl,b,c⟩));have HB:=zH (zA b2.drew k0);have HR:=zH (zA hr (zA hi hrc));clear h p0 k0 b1 b2 bd hr hrc
 go_enter Tryz.func170,Tryz.ntmps170
 go_wp2_with fail
 go_region_with (first
  | (go_at_call 64;refine HE.out.mono ?_;rintro e w3 ⟨rfl,d3,p3,k3⟩;replace p3:=zH p3;replace k3:=zH k3)
  | (go_at_call 171;rw[GN.out];refine(xra p3.out HR.out.1 HR.out.2.1 HR.out.2.2).mono ?_;rintro e w4 ⟨rfl,z4,k4⟩;replace z4:=zH z4;replace k4:=zH k4))
 all_goals
  obtain⟨z,z1,z2,p4⟩:=z4.out;have VT:=zH (yK p4);have HZ1:=zH (zA z1 (zA z2 p4));obtain⟨b2,k0⟩:=HB.out;have qw:=(b2.ae (k3.out.block _ h2)).ae (k4.out.block _ h2);have JB:=zH (zA qw ((k0.trans k3.out).trans k4.out));clear HE HB p3 k3 z4 k4 z1 z2 p4 b2 k0 qw d1 d3
  go_wp2_with fail
  refine VT.out.mono ?_;rintro e w5 ⟨rfl,rfl⟩;obtain⟨z1,z2,p4⟩:=HZ1.out;obtain⟨y,y1,y2,y3,y4,y5⟩:=p4.bytes;have VU:y.take 504=z:=y3.trans (by rw[AP.aL,if_pos rfl]);have VV:=zH (SL.yV db y _ cap w5 y1 (z1.nz (by omega) VU));clear VT y1 y2 y3 VU y5
  go_wp2_with fail
  refine VV.out.mono ?_;rintro e w6 ⟨rfl,bl⟩;obtain⟨qw,k4⟩:=JB.out;have BN:=qw.next bl;obtain⟨q1,q2,q3⟩:=(p4.next bl).sF h2 t2 BN (.int .i64 (live (trim (L.set i [])):Nat));have c6:=BN.c0;have f6:w6.frozen? ⟨c2,0,none⟩=false:=BN.free 0;have H6:=zH (zA q1 (zA q3 (((k4.trans (p4.kept bl)).mono (T:=λ j=>E j/\j≠c2) (λ _ (hj:E _/\_)=>hj.1)).trans q2)));clear VV JB p4 qw k4 BN q1 q2 q3 bl;go_wp2;go_ret;obtain⟨z1,z2,_⟩:=HZ1.out;exact⟨rfl,⟨z,z1,z2,H6.out.1⟩,H6.out.2.1,H6.out.2.2⟩
end
theorem Dt.trim(l:List (List UInt8)):Dt (SL.trim l):=SL.qy l
section
variable{Fo:Nat->Prop}{Co:Nat->List UInt8}{E F:Nat->Prop}{W W':World}{P D k fb db cap pg root H:Nat}{A B C:AP}{rp:List Nat}{L:Nat->List (List UInt8)}{X:List HT}{t:HT}
def ybw(Fo:Nat->Prop)(Co:Nat->List UInt8)(E:Nat->Prop)(W W':World)(P D H k:Nat)(A:AP)(root pg:Nat)(t:HT)(X:List HT)(e:Ending):Prop:=
 ∃B rp' L',e= .returned (.int .i64 0)/\HZ Fo Co E W' P D H (k+(t.s.length+40)) B root pg rp' L' X/\A.Reach B/\Kept E W W'
theorem MV(h:HI (A.fe Fo) root pg rp L (t::X))(hc:B.c=A.c)(hh:∀p,B.Has p↔A.Has p/\p∉t.ch){z:List UInt8}(hz:aM z (trim ((L t.pg).set t.i [])))(hs:t.pg≠pg->trim ((L t.pg).set t.i [])≠[]) :
  HI (((B.ak t.pg z).ak root (jQ ((B.ak t.pg z).c root) pg X.length)).fe Fo) root pg rp (λ p=>if p=t.pg then trim ((L t.pg).set t.i []) else L p) X:=by
 obtain⟨ht1,_,_⟩:=h.each t (aT ..);have hpr:t.pg≠root:=(h.dX ht1).2;refine h.drop (B:=(((B.ak t.pg z).ak root (jQ ((B.ak t.pg z).c root) pg X.length)).fe Fo)) (y:=z) (λ p=>?_) hz hs ?_ ?_ (λ p _ h1 h2=>?_)
 ·show((B.ak t.pg z).ak root _).Has p/\¬Fo p↔(A.Has p/\¬Fo p)/\p∉t.ch;rw[AP.aA,AP.aA,hh p,and_right_comm]
 ·show((B.ak t.pg z).ak root _).c t.pg=z;rw[AP.aL,if_neg (dz hpr),AP.aL,if_pos rfl]
 ·show((B.ak t.pg z).ak root _).c root=_;rw[AP.aL,if_pos rfl,AP.aL,if_neg hpr,hc];rfl
 show((B.ak t.pg z).ak root _).c p=A.c p;rw[AP.aL,if_neg (dz h2),AP.aL,if_neg (dz h1),hc]
theorem VW(h:HI (A.fe Fo) root pg rp L (t::X))(hc:B.c=A.c)(hh:∀p,B.Has p↔A.Has p/\p∉t.ch)(hg:B.Good){z:List UInt8}(hn:t.pg≠pg)(he:trim ((L t.pg).set t.i [])=[]) :
  HI ((((B.ak t.pg z).give t.pg).ak root (jQ (((B.ak t.pg z).give t.pg).c root) pg X.length)).fe Fo) root pg (rp.erase t.pg) L X:=by
 obtain⟨ht1,_,_⟩:=h.each t (aT ..);have hpr:t.pg≠root:=(h.dX ht1).2;have hBt:B.Has t.pg:=(hh _).2 ⟨(h.nS ht1).1,λ hm=>(h.sw (aT ..) hm).2.2 ht1⟩;obtain⟨_,g2,_,_⟩:=(hg.ak t.pg z).give (AP.aA.2 hBt);refine h.yP (B:=((((B.ak t.pg z).give t.pg).ak root (jQ (((B.ak t.pg z).give t.pg).c root) pg X.length)).fe Fo)) (λ p=>?_) hn he ?_ (λ p hp h2=>?_)
 ·show(((B.ak t.pg z).give t.pg).ak root _).Has p/\¬Fo p↔(A.Has p/\¬Fo p)/\p∉t.ch/\p≠t.pg;rw[AP.aA,g2,AP.aA,hh];exact⟨λ ⟨⟨⟨a,d⟩,b⟩,c⟩=>⟨⟨a,c⟩,d,b⟩,λ ⟨⟨a,c⟩,d,b⟩=>⟨⟨⟨a,d⟩,b⟩,c⟩⟩
 ·show(((B.ak t.pg z).give t.pg).ak root _).c root=_;rw[AP.aL,if_pos rfl,AP.ky,AP.aL,if_neg hpr,hc];rfl
 have hp':(((B.ak t.pg z).give t.pg).ak root (jQ (((B.ak t.pg z).give t.pg).c root) pg X.length)).Has p:=hp.1;rw[AP.aA,g2]at hp';show(((B.ak t.pg z).give t.pg).ak root _).c p=A.c p;rw[AP.aL,if_neg (dz h2),AP.ky,AP.aL,if_neg (dz hp'.2),hc]
theorem Mo(h:HZ Fo Co E W P D H k A root pg rp L (t::X))(hk:k+(t.s.length+40)<900000000) :
  Calls Tryz.prog 103 #[.pointer H,.int .u64 (bK t:Nat)] W λ e w'=>ybw Fo Co E W w' P D H k A root pg t X e:=by
 have ht:=h.pz.tab.lt;have hE0:=h.pz.there;obtain⟨hr1,hr2,hr3⟩:=h.hi.each t (aT ..);have iG:A.Has t.pg:=(h.hi.nS hr1).1
 have wy:t.pg<=60000:=by
  have:=iG.2.1;have:=h.pz.oJ;omega
 have hi:=h.hi.slot (aT (a:=t) (l:=X));have a1:Below W W (W.alloc (.cells #[.pointer H] 82)):=(aV _ _).alloc (aO _) _;have hs1:(W.alloc (.cells #[.pointer H] 82)).heap.size=W.heap.size+1:=by simp
 have x1:=ay.new W #[.pointer H] 82;generalize uZ:W.alloc (.cells #[.pointer H] 82)=wa at a1 hs1 x1;have a2:=a1.alloc (by omega) (.cells #[.int .u64 ((bK t:Nat):Int)] 77);have hs2:(wa.alloc (.cells #[.int .u64 ((bK t:Nat):Int)] 77)).heap.size=W.heap.size+2:=by simp[hs1]
 have x2:=ay.new wa #[.int .u64 ((bK t:Nat):Int)] 77;rw[hs1]at x2;have lY:=x1.alloc (.cells #[.int .u64 ((bK t:Nat):Int)] 77);generalize hwc:wa.alloc (.cells #[.int .u64 ((bK t:Nat):Int)] 77)=wc at a2 hs2 x2 lY
 have oC:Hid ((W.alloc (.cells #[.pointer H] 82)).alloc (.cells #[.int .u64 ((bK t:Nat):Int)] 77)=wc):=by
  show _=_;rw[uZ,hwc]
 have hz2:HZ Fo Co (λ j=>E j\/j=W.heap.size\/j=W.heap.size+1) wc P D H k A root pg rp L (t::X):=⟨h.pz.wide a2 (λ j hj=>by
  rcases hj with hj|hj|hj
  ·exact .inl hj
  ·exact .inr (by omega)
  exact .inr (by omega)),h.good,h.box.below a2 h.box.lt,.inl h.mem,h.hi,h.few,h.far⟩
 have k2:Kept E W wc:=h.pz.kept a2;have HF:=zH (hz2.find (aT ..) (by omega));have HZ2:=zH (zA hz2 (zA k2 (zA lY x2)));have HN:=zH (zA wy (zA hi (zA hE0 ht)));have Dx:Hid (((bK t:Nat):Int)/256=(t.pg:Int)):=by show _=_;unfold bK;omega
 have GR:Hid ((bK t:Nat)=t.pg*256+t.i):=rfl;have HH:=zH h;clear h x1 lY x2 a1 a2 hs1 hs2 uZ hwc hE0 ht hz2 k2 hr1 hr2 iG wy hi;generalize (bK t:Nat)=n at oC HF HZ2 Dx GR ⊢
 have aD:300<t.s.length->oF A.c t.s t.ch:=λ hs=>by
  have h1:qc A.c t:=HH.out.hi.long t (aT ..);unfold qc at h1;rw[if_neg (by omega)]at h1;exact h1
 have hshort:t.s.length<=300->t.ch=[]:=λ hs=>by
  have h1:qc A.c t:=HH.out.hi.long t (aT ..);unfold qc at h1;rw[if_pos hs]at h1;exact h1
 have hXl:X.length<=1000000:=by have:=HH.out.few;rw[dn]at this;omega
 have MW:=zH (zA aD hshort);clear aD hshort;by_cases hs:t.s.length<=300
 ·have hrec:=Qx t.s t.ch hs;have hn0:nth (bY t.s t.ch) 0=0:=by rw[hrec];rfl
  have sH:((nth (bY t.s t.ch) 0).toNat:Int)=0:=by rw[hn0];rfl
  have hl0:(0:Int)<(bY t.s t.ch).length:=by rw[hrec,dn];omega
  have HS:=zH hs;clear hrec hs;generalize bY t.s t.ch=rec at HF hn0 sH hl0
  go_enter Tryz.func103,Tryz.ntmps103
  go_wp2_with fail
  rw[oC.out];refine HF.out.mono ?_;rintro e w4 ⟨rfl,p3,k3⟩
  obtain⟨B,hb1,hb2,hb3,hb4⟩:∃B:AP,PZ (λ j=>E j\/j=W.heap.size\/j=W.heap.size+1) w4 P D B (k+2+(t.s.length+10))/\A.Reach B/\B.c=A.c/\(∀p,B.Has p↔A.Has p/\p∉t.ch):=
   ⟨A,p3.up (by omega),AP.Reach.refl A,rfl,λ p=>by rw[MW.out.2 HS.out];simp⟩
  have HM:=zH (zA hb1 (zA hb2 (zA hb3 (zA hb4 k3))));clear hb1 hb2 hb3 hb4;clear HF p3 k3 HS MW;obtain⟨pb,rb,cb,hb,kb⟩:=HM.out;obtain⟨hz2,k2,x1,x2⟩:=HZ2.out;have kI:=x1.ae (kb.block _ (.inr (.inl rfl)));have bH:=hz2.box.ae (kb.block _ hz2.mem);have e1:=kI.c0;have hrb:=(hb root).2 ⟨hz2.hi.fM,λ hm=>(hz2.hi.sw (aT ..) hm).2.1 rfl⟩;obtain⟨Dw,wd2⟩:=hz2.hi.words hz2.good hz2.few;have hst:=Qd pb (by omega) bH hrb;rw[cb,Dw,wd2,show((t::X).length:Int)=(X.length:Int)+1 from by rw[dn];omega]at hst;have HST:=zH hst;clear pb rb cb hb kb hz2 k2 x1 x2 kI bH hrb Dw wd2 hst
  go_wp2_with fail
  refine HST.out.mono ?_;rintro e w5 ⟨rfl,p5,k5⟩;obtain⟨pb,rb,cb,hb,kb⟩:=HM.out;obtain⟨hz2,k2,x1,x2⟩:=HZ2.out;have nN:=kb.trans k5;have kI:=x1.ae (nN.block _ (.inr (.inl rfl)));have yX:=x2.ae (nN.block _ (.inr (.inr rfl)));have bH:=hz2.box.ae (nN.block _ hz2.mem);have a5:Below w5 w5 (w5.alloc (.cells #[.int .i64 0] 3)):=(aV _ _).alloc (aO _) _;have hs5:(w5.alloc (.cells #[.int .i64 0] 3)).heap.size=w5.heap.size+1:=by simp
  have x5:=ay.new w5 #[.int .i64 0] 3;have e5:=(kI.next a5).c0;have e6:=(bH.next a5).c0;have e7:=yX.c0
  have p6:=p5.wide a5 (T:=λ j=>(E j\/j=W.heap.size\/j=W.heap.size+1)\/j=w5.heap.size) (λ j hj=>by
   rcases hj with hj|hj
   ·exact .inl hj
   exact .inr (by omega))
  have hdv:=Dx.out;obtain⟨wy,⟨hi1,hi2⟩,hE0,ht0⟩:=HN.out;have htr:=hz2.hi.each t (aT ..);have iG:A.Has t.pg:=(hz2.hi.nS htr.1).1;have jU:=(hb t.pg).2 ⟨iG,λ hm=>(hz2.hi.sw (aT ..) hm).2.2 htr.1⟩;have jS:aM (B.c t.pg) (L t.pg):=by rw[cb];exact(hz2.hi.recs t.pg htr.1).1
  have hrc:aW (L t.pg) t.i≠[]:=by rw[htr.2.1];exact BP t
  have yY:=GR.out
  have HW:=zH (BK (N:=170) (kV:= #[.pointer (some ⟨W.heap.size+1,0,none⟩),.pointer w5]) (F:=λ j=>E j\/j=W.heap.size\/j=W.heap.size+1)
   (R:=λ A' k' r w'=>∃z,aM z (trim ((L t.pg).set t.i []))/\z.length=504/\A'=B.ak t.pg z/\k'=k+2+(t.s.length+10)+2+3/\r=0/\ay w' w5 #[.int .i64 (live (trim ((L t.pg).set t.i [])):Nat)])
   (yJ Tryz.func170 (by kernel_rfl) (by kernel_rfl)) p6 (by omega) jU (λ j hj=>.inl hj) (λ fb db cap w lq hkk=>by
    have y2:=(yX.next a5).ae (hkk.block _ (.inl (.inr (.inr rfl))));rw[yY]at y2;refine(VS lq (by omega) jS wy (by omega) hi1 hrc y2 (x5.ae (hkk.block _ (.inr rfl))) (.inl (.inr (.inr rfl))) (.inr rfl) (by have:=nN.size;have:=k2.size;omega)).mono ?_;rintro e w' ⟨he,⟨z,z1,z2,q1⟩,q2,q3⟩
    exact⟨0,_,_,true,he,q1,q3.mono (λ j hj=>⟨.inl hj,by
     have:=p5.there j hj;omega⟩),z,z1,z2,rfl,rfl,rfl,q2⟩))
  have H5:=zH (zA (k2.trans ((nN.trans (p5.kept a5)).mono (λ j hj=>.inl hj))) (zA (kI.next a5) (zA (bH.next a5) jU)));clear HST p5 k5 pb rb cb hb kb hz2 k2 x1 x2 nN kI yX bH a5 hs5 x5 p6 hE0 htr iG jU jS hrc yY
  go_wp2_with fail
  refine HW.out.mono ?_;rintro e w7 ⟨r,A',k',w6,rfl,⟨z,z1,z2,rfl,rfl,rfl,bl⟩,p7,k7,k8⟩;have d7:w7.cell? w5.heap.size=some (.int .i64 (live (trim ((L t.pg).set t.i [])):Nat)):=(bl.ae (k7.block _ (.inr rfl))).cell 0 _ rfl;obtain⟨kA,kI,bH,jU⟩:=H5.out;have rq:=kA.trans (k8.mono (λ j hj=>.inl hj));have e7h:w7.cell? W.heap.size=some (.pointer H):=(kI.ae (k8.block _ (.inr (.inl rfl)))).cell 0 _ rfl;have qd:=bH.ae (k8.block _ (.inl HH.out.mem));have e7p:=qd.c0;have jS:=(HM.out.2.2.2.1 root).2 ⟨HH.out.hi.fM,λ hm=>(HH.out.hi.sw (aT ..) hm).2.1 rfl⟩;by_cases he:trim ((L t.pg).set t.i [])=[]
  ·have hl0:live (trim ((L t.pg).set t.i []))=0:=by rw[he];rfl
   rw[hl0]at d7;replace d7:w7.cell? w5.heap.size=some (.int .i64 0):=d7;by_cases hq:t.pg=pg
   ·have hbq:((t.pg:Int) !=(pg:Int))=false:=by rw[hq];simp
    have hqi:(t.pg:Int)=(pg:Int):=by rw[hq]
    have HS:=zH (Dq p7 (by omega) qd (AP.aA.2 jS) pg X.length);have K7:=zH rq;clear HW H5 p7 k7 k8 bl kA kI bH qd jS rq
    go_wp2_with fail
    refine HS.out.mono ?_;rintro e w9 ⟨rfl,p9,k9⟩;have H9:=zH (zA p9 k9);clear HS p9 k9;go_wp2;go_ret;obtain⟨pb,rb,cb,hb,kb⟩:=HM.out;obtain⟨p9,k9⟩:=H9.out;have jS:=(hb root).2 ⟨HH.out.hi.fM,λ hm=>(HH.out.hi.sw (aT ..) hm).2.1 rfl⟩;have jh:=(rb.ak jU z).ak (AP.aA.2 jS) (jQ ((B.ak t.pg z).c root) pg X.length);have sI:=K7.out.trans (k9.mono (λ j hj=>.inl (.inl hj)));exact⟨_,rp,_,rfl,⟨(p9.less (λ j hj=>.inl (.inl hj))).up (by omega),jh.good HH.out.good,HH.out.box.ae (sI.block H HH.out.mem),HH.out.mem,MV HH.out.hi cb hb z1 (λ hn=>absurd hq hn),by have:=HH.out.few;rw[dn]at this;omega,((HH.out.far.like cb (λ p hp=>(hb p).2 ⟨(HH.out.far p hp).1,λ hm=>HH.out.hi.GL (aT ..) hm hp⟩)).ak (HH.out.hi.Aj (HH.out.hi.each t (aT ..)).1) _).ak HH.out.hi.nC _⟩,jh,sI⟩
   have hbq:((t.pg:Int) !=(pg:Int))=true:=by simp;omega
   have hqi:¬(t.pg:Int)=(pg:Int):=by omega
   have HG:=zH (JI p7 (by omega) t.pg (AP.aA.2 jU));have K7:=zH (zA rq (zA qd (zA (kI.ae (k8.block _ (.inr (.inl rfl)))) jS)));clear HW H5 p7 k7 k8 bl kA kI bH qd jS rq
   go_wp2_with fail
   refine HG.out.mono ?_;rintro e w8 ⟨rfl,p8,k8⟩;obtain⟨rq,qd,JJ,jS⟩:=K7.out;obtain⟨pb,rb,cb,hb,kb⟩:=HM.out;obtain⟨g1,g2,_,_⟩:=((rb.good HH.out.good).ak t.pg z).give (AP.aA.2 jU);have hpr:root≠t.pg:=λ e=>(HH.out.hi.nS (HH.out.hi.each t (aT ..)).1).2 e.symm;have BU:=(g2 root).2 ⟨AP.aA.2 jS,hpr⟩;have JK:=qd.ae (k8.block _ (.inl (.inl HH.out.mem)));have e8h:w8.cell? W.heap.size=some (.pointer H):=(JJ.ae (k8.block _ (.inl (.inr (.inl rfl))))).cell 0 _ rfl;have HS:=zH (Dq p8 (by omega) JK BU pg X.length);have K8:=zH (rq.trans (k8.mono (λ j hj=>.inl (.inl hj))));clear HG K7 p8 k8 rq qd JJ jS pb rb cb hb kb g1 g2 hpr BU JK
   go_wp2_with fail
   refine HS.out.mono ?_;rintro e w9 ⟨rfl,p9,k9⟩;have H9:=zH (zA p9 k9);clear HS p9 k9;go_wp2;go_ret;obtain⟨pb,rb,cb,hb,kb⟩:=HM.out;obtain⟨p9,k9⟩:=H9.out;have jS:=(hb root).2 ⟨HH.out.hi.fM,λ hm=>(HH.out.hi.sw (aT ..) hm).2.1 rfl⟩;obtain⟨g1,g2,_,_⟩:=((rb.good HH.out.good).ak t.pg z).give (AP.aA.2 jU);have hpr:root≠t.pg:=λ e=>(HH.out.hi.nS (HH.out.hi.each t (aT ..)).1).2 e.symm;have BU:=(g2 root).2 ⟨AP.aA.2 jS,hpr⟩;have jh:=((rb.ak jU z).give (AP.aA.2 jU)).ak BU (jQ (((B.ak t.pg z).give t.pg).c root) pg X.length);have sI:=K8.out.trans (k9.mono (λ j hj=>.inl (.inl hj)));exact⟨_,rp.erase t.pg,_,rfl,⟨(p9.less (λ j hj=>.inl (.inl hj))).up (by omega),jh.good HH.out.good,HH.out.box.ae (sI.block H HH.out.mem),HH.out.mem,VW HH.out.hi cb hb (rb.good HH.out.good) hq he,by have:=HH.out.few;rw[dn]at this;omega,(((HH.out.far.like cb (λ p hp=>(hb p).2 ⟨(HH.out.far p hp).1,λ hm=>HH.out.hi.GL (aT ..) hm hp⟩)).ak (HH.out.hi.Aj (HH.out.hi.each t (aT ..)).1) _).give ((rb.good HH.out.good).ak _ _) (AP.aA.2 ((hb _).2 ⟨(HH.out.hi.nS (HH.out.hi.each t (aT ..)).1).1,λ hm=>(HH.out.hi.sw (aT ..) hm).2.2 (HH.out.hi.each t (aT ..)).1⟩)) (HH.out.hi.Aj (HH.out.hi.each t (aT ..)).1)).ak HH.out.hi.nC _⟩,jh,sI⟩
  have hl1:0<live (trim ((L t.pg).set t.i [])):=VR (Dt.trim _) he;generalize live (trim ((L t.pg).set t.i []))=lv at d7 hl1 bl;have hbl:((lv:Int)==0)=false:=by simp;omega
  have hli:¬(lv:Int)=0:=by omega
  have HS:=zH (Dq p7 (by omega) qd (AP.aA.2 jS) pg X.length);have K7:=zH rq;clear HW H5 p7 k7 k8 bl kA kI bH qd jS rq
  go_wp2_with fail
  refine HS.out.mono ?_;rintro e w9 ⟨rfl,p9,k9⟩;have H9:=zH (zA p9 k9);clear HS p9 k9;go_wp2;go_ret;obtain⟨pb,rb,cb,hb,kb⟩:=HM.out;obtain⟨p9,k9⟩:=H9.out;have jS:=(hb root).2 ⟨HH.out.hi.fM,λ hm=>(HH.out.hi.sw (aT ..) hm).2.1 rfl⟩;have jh:=(rb.ak jU z).ak (AP.aA.2 jS) (jQ ((B.ak t.pg z).c root) pg X.length);have sI:=K7.out.trans (k9.mono (λ j hj=>.inl (.inl hj)));exact⟨_,rp,_,rfl,⟨(p9.less (λ j hj=>.inl (.inl hj))).up (by omega),jh.good HH.out.good,HH.out.box.ae (sI.block H HH.out.mem),HH.out.mem,MV HH.out.hi cb hb z1 (λ _=>he),by have:=HH.out.few;rw[dn]at this;omega,((HH.out.far.like cb (λ p hp=>(hb p).2 ⟨(HH.out.far p hp).1,λ hm=>HH.out.hi.GL (aT ..) hm hp⟩)).ak (HH.out.hi.Aj (HH.out.hi.each t (aT ..)).1) _).ak HH.out.hi.nC _⟩,jh,sI⟩
 have hrec:=MS t.s t.ch (by omega);have hn0:nth (bY t.s t.ch) 0=1:=by rw[hrec];rfl
 have sH:((nth (bY t.s t.ch) 0).toNat:Int)=1:=by rw[hn0];rfl
 have hl0:(0:Int)<(bY t.s t.ch).length:=by rw[hrec];show(0:Int)<((9:Nat):Int);decide
 have HS:=zH (show 300<t.s.length by omega);clear hrec hs
 go_enter Tryz.func103,Tryz.ntmps103
 go_wp2_with fail
 rw[oC.out];refine HF.out.mono ?_;rintro e w3 ⟨rfl,p3,k3⟩;obtain⟨hz2,k2,x1,x2⟩:=HZ2.out;have kI:=x1.ae (k3.block _ (.inr (.inl rfl)));have bH:=hz2.box.ae (k3.block _ hz2.mem);have e1:=kI.c0
 have hnd:t.ch.Nodup:=by
  have h0:=(bN.1 (dW.1 hz2.hi.pages).2).2.1;rw[Ae]at h0;exact(bN.1 h0).1
 have HW:=zH (VF (xq9 (E:=λ j=>E j\/j=W.heap.size\/j=W.heap.size+1) (H:=H) (hb:=W.heap.size) (P:=P) (root:=root) (D:=D) (s:=t.s) hz2.good hnd (.inr (.inl rfl)) hz2.mem) p3 (by omega) bH hz2.mem (MW.out.1 HS.out) (λ p hp=>(hz2.hi.sw (aT ..) hp).1) HS.out hr3
  (show JD A (λ j=>E j\/j=W.heap.size\/j=W.heap.size+1) P root H W t.ch 0 _ A w3 from⟨λ b=>Iff.rfl,AP.Reach.refl A,rfl,λ p=>by simp,kI,bH⟩))
 have K3:=zH k3;clear HF p3 k3 hz2 k2 x1 x2 kI bH hnd MW
 go_wp2_with fail
 refine HW.out.mono ?_;rintro e w4 ⟨rfl,S,B,⟨hS,r1,r2,r3,r4,r5⟩,p4,k4⟩;rw[fH]at r3;have HM:=zH (zA (p4.less (T:=λ j=>E j\/j=W.heap.size\/j=W.heap.size+1) (λ b hb=>(hS b).2 hb)) (zA r1 (zA r2 (zA r3 (K3.out.trans k4)))));clear HW K3 hS r1 r2 r3 r4 r5 p4 k4 HS e1;obtain⟨pb,rb,cb,hb,kb⟩:=HM.out;obtain⟨hz2,k2,x1,x2⟩:=HZ2.out;have kI:=x1.ae (kb.block _ (.inr (.inl rfl)));have bH:=hz2.box.ae (kb.block _ hz2.mem);have e1:=kI.c0;have hrb:=(hb root).2 ⟨hz2.hi.fM,λ hm=>(hz2.hi.sw (aT ..) hm).2.1 rfl⟩;obtain⟨Dw,wd2⟩:=hz2.hi.words hz2.good hz2.few;have hst:=Qd pb (by omega) bH hrb;rw[cb,Dw,wd2,show((t::X).length:Int)=(X.length:Int)+1 from by rw[dn];omega]at hst;have HST:=zH hst;clear pb rb cb hb kb hz2 k2 x1 x2 kI bH hrb Dw wd2 hst
 go_wp2_with fail
 refine HST.out.mono ?_;rintro e w5 ⟨rfl,p5,k5⟩;obtain⟨pb,rb,cb,hb,kb⟩:=HM.out;obtain⟨hz2,k2,x1,x2⟩:=HZ2.out;have nN:=kb.trans k5;have kI:=x1.ae (nN.block _ (.inr (.inl rfl)));have yX:=x2.ae (nN.block _ (.inr (.inr rfl)));have bH:=hz2.box.ae (nN.block _ hz2.mem);have a5:Below w5 w5 (w5.alloc (.cells #[.int .i64 0] 3)):=(aV _ _).alloc (aO _) _;have hs5:(w5.alloc (.cells #[.int .i64 0] 3)).heap.size=w5.heap.size+1:=by simp
 have x5:=ay.new w5 #[.int .i64 0] 3;have e5:=(kI.next a5).c0;have e6:=(bH.next a5).c0;have e7:=yX.c0
 have p6:=p5.wide a5 (T:=λ j=>(E j\/j=W.heap.size\/j=W.heap.size+1)\/j=w5.heap.size) (λ j hj=>by
  rcases hj with hj|hj
  ·exact .inl hj
  exact .inr (by omega))
 have hdv:=Dx.out;obtain⟨wy,⟨hi1,hi2⟩,hE0,ht0⟩:=HN.out;have htr:=hz2.hi.each t (aT ..);have iG:A.Has t.pg:=(hz2.hi.nS htr.1).1;have jU:=(hb t.pg).2 ⟨iG,λ hm=>(hz2.hi.sw (aT ..) hm).2.2 htr.1⟩;have jS:aM (B.c t.pg) (L t.pg):=by rw[cb];exact(hz2.hi.recs t.pg htr.1).1
 have hrc:aW (L t.pg) t.i≠[]:=by rw[htr.2.1];exact BP t
 have yY:=GR.out
 have HW:=zH (BK (N:=170) (kV:= #[.pointer (some ⟨W.heap.size+1,0,none⟩),.pointer w5]) (F:=λ j=>E j\/j=W.heap.size\/j=W.heap.size+1)
  (R:=λ A' k' r w'=>∃z,aM z (trim ((L t.pg).set t.i []))/\z.length=504/\A'=B.ak t.pg z/\k'=k+2+(t.s.length+10)+2+3/\r=0/\ay w' w5 #[.int .i64 (live (trim ((L t.pg).set t.i [])):Nat)])
  (yJ Tryz.func170 (by kernel_rfl) (by kernel_rfl)) p6 (by omega) jU (λ j hj=>.inl hj) (λ fb db cap w lq hkk=>by
   have y2:=(yX.next a5).ae (hkk.block _ (.inl (.inr (.inr rfl))));rw[yY]at y2;refine(VS lq (by omega) jS wy (by omega) hi1 hrc y2 (x5.ae (hkk.block _ (.inr rfl))) (.inl (.inr (.inr rfl))) (.inr rfl) (by have:=nN.size;have:=k2.size;omega)).mono ?_;rintro e w' ⟨he,⟨z,z1,z2,q1⟩,q2,q3⟩
   exact⟨0,_,_,true,he,q1,q3.mono (λ j hj=>⟨.inl hj,by
    have:=p5.there j hj;omega⟩),z,z1,z2,rfl,rfl,rfl,q2⟩))
 have H5:=zH (zA (k2.trans ((nN.trans (p5.kept a5)).mono (λ j hj=>.inl hj))) (zA (kI.next a5) (zA (bH.next a5) jU)));clear HST p5 k5 pb rb cb hb kb hz2 k2 x1 x2 nN kI yX bH a5 hs5 x5 p6 hE0 htr iG jU jS hrc yY
 go_wp2_with fail
 refine HW.out.mono ?_;rintro e w7 ⟨r,A',k',w6,rfl,⟨z,z1,z2,rfl,rfl,rfl,bl⟩,p7,k7,k8⟩;have d7:w7.cell? w5.heap.size=some (.int .i64 (live (trim ((L t.pg).set t.i [])):Nat)):=(bl.ae (k7.block _ (.inr rfl))).cell 0 _ rfl;obtain⟨kA,kI,bH,jU⟩:=H5.out;have rq:=kA.trans (k8.mono (λ j hj=>.inl hj));have e7h:w7.cell? W.heap.size=some (.pointer H):=(kI.ae (k8.block _ (.inr (.inl rfl)))).cell 0 _ rfl;have qd:=bH.ae (k8.block _ (.inl HH.out.mem));have e7p:=qd.c0;have jS:=(HM.out.2.2.2.1 root).2 ⟨HH.out.hi.fM,λ hm=>(HH.out.hi.sw (aT ..) hm).2.1 rfl⟩;by_cases he:trim ((L t.pg).set t.i [])=[]
 ·have hl0:live (trim ((L t.pg).set t.i []))=0:=by rw[he];rfl
  rw[hl0]at d7;replace d7:w7.cell? w5.heap.size=some (.int .i64 0):=d7;by_cases hq:t.pg=pg
  ·have hbq:((t.pg:Int) !=(pg:Int))=false:=by rw[hq];simp
   have hqi:(t.pg:Int)=(pg:Int):=by rw[hq]
   have HS:=zH (Dq p7 (by omega) qd (AP.aA.2 jS) pg X.length);have K7:=zH rq;clear HW H5 p7 k7 k8 bl kA kI bH qd jS rq
   go_wp2_with fail
   refine HS.out.mono ?_;rintro e w9 ⟨rfl,p9,k9⟩;have H9:=zH (zA p9 k9);clear HS p9 k9;go_wp2;go_ret;obtain⟨pb,rb,cb,hb,kb⟩:=HM.out;obtain⟨p9,k9⟩:=H9.out;have jS:=(hb root).2 ⟨HH.out.hi.fM,λ hm=>(HH.out.hi.sw (aT ..) hm).2.1 rfl⟩;have jh:=(rb.ak jU z).ak (AP.aA.2 jS) (jQ ((B.ak t.pg z).c root) pg X.length);have sI:=K7.out.trans (k9.mono (λ j hj=>.inl (.inl hj)));exact⟨_,rp,_,rfl,⟨(p9.less (λ j hj=>.inl (.inl hj))).up (by omega),jh.good HH.out.good,HH.out.box.ae (sI.block H HH.out.mem),HH.out.mem,MV HH.out.hi cb hb z1 (λ hn=>absurd hq hn),by have:=HH.out.few;rw[dn]at this;omega,((HH.out.far.like cb (λ p hp=>(hb p).2 ⟨(HH.out.far p hp).1,λ hm=>HH.out.hi.GL (aT ..) hm hp⟩)).ak (HH.out.hi.Aj (HH.out.hi.each t (aT ..)).1) _).ak HH.out.hi.nC _⟩,jh,sI⟩
  have hbq:((t.pg:Int) !=(pg:Int))=true:=by simp;omega
  have hqi:¬(t.pg:Int)=(pg:Int):=by omega
  have HG:=zH (JI p7 (by omega) t.pg (AP.aA.2 jU));have K7:=zH (zA rq (zA qd (zA (kI.ae (k8.block _ (.inr (.inl rfl)))) jS)));clear HW H5 p7 k7 k8 bl kA kI bH qd jS rq
  go_wp2_with fail
  refine HG.out.mono ?_;rintro e w8 ⟨rfl,p8,k8⟩;obtain⟨rq,qd,JJ,jS⟩:=K7.out;obtain⟨pb,rb,cb,hb,kb⟩:=HM.out;obtain⟨g1,g2,_,_⟩:=((rb.good HH.out.good).ak t.pg z).give (AP.aA.2 jU);have hpr:root≠t.pg:=λ e=>(HH.out.hi.nS (HH.out.hi.each t (aT ..)).1).2 e.symm;have BU:=(g2 root).2 ⟨AP.aA.2 jS,hpr⟩;have JK:=qd.ae (k8.block _ (.inl (.inl HH.out.mem)));have e8h:w8.cell? W.heap.size=some (.pointer H):=(JJ.ae (k8.block _ (.inl (.inr (.inl rfl))))).cell 0 _ rfl;have HS:=zH (Dq p8 (by omega) JK BU pg X.length);have K8:=zH (rq.trans (k8.mono (λ j hj=>.inl (.inl hj))));clear HG K7 p8 k8 rq qd JJ jS pb rb cb hb kb g1 g2 hpr BU JK
  go_wp2_with fail
  refine HS.out.mono ?_;rintro e w9 ⟨rfl,p9,k9⟩;have H9:=zH (zA p9 k9);clear HS p9 k9;go_wp2;go_ret;obtain⟨pb,rb,cb,hb,kb⟩:=HM.out;obtain⟨p9,k9⟩:=H9.out;have jS:=(hb root).2 ⟨HH.out.hi.fM,λ hm=>(HH.out.hi.sw (aT ..) hm).2.1 rfl⟩;obtain⟨g1,g2,_,_⟩:=((rb.good HH.out.good).ak t.pg z).give (AP.aA.2 jU);have hpr:root≠t.pg:=λ e=>(HH.out.hi.nS (HH.out.hi.each t (aT ..)).1).2 e.symm;have BU:=(g2 root).2 ⟨AP.aA.2 jS,hpr⟩;have jh:=((rb.ak jU z).give (AP.aA.2 jU)).ak BU (jQ (((B.ak t.pg z).give t.pg).c root) pg X.length);have sI:=K8.out.trans (k9.mono (λ j hj=>.inl (.inl hj)));exact⟨_,rp.erase t.pg,_,rfl,⟨(p9.less (λ j hj=>.inl (.inl hj))).up (by omega),jh.good HH.out.good,HH.out.box.ae (sI.block H HH.out.mem),HH.out.mem,VW HH.out.hi cb hb (rb.good HH.out.good) hq he,by have:=HH.out.few;rw[dn]at this;omega,(((HH.out.far.like cb (λ p hp=>(hb p).2 ⟨(HH.out.far p hp).1,λ hm=>HH.out.hi.GL (aT ..) hm hp⟩)).ak (HH.out.hi.Aj (HH.out.hi.each t (aT ..)).1) _).give ((rb.good HH.out.good).ak _ _) (AP.aA.2 ((hb _).2 ⟨(HH.out.hi.nS (HH.out.hi.each t (aT ..)).1).1,λ hm=>(HH.out.hi.sw (aT ..) hm).2.2 (HH.out.hi.each t (aT ..)).1⟩)) (HH.out.hi.Aj (HH.out.hi.each t (aT ..)).1)).ak HH.out.hi.nC _⟩,jh,sI⟩
 have hl1:0<live (trim ((L t.pg).set t.i [])):=VR (Dt.trim _) he;generalize live (trim ((L t.pg).set t.i []))=lv at d7 hl1 bl;have hbl:((lv:Int)==0)=false:=by simp;omega
 have hli:¬(lv:Int)=0:=by omega
 have HS:=zH (Dq p7 (by omega) qd (AP.aA.2 jS) pg X.length);have K7:=zH rq;clear HW H5 p7 k7 k8 bl kA kI bH qd jS rq
 go_wp2_with fail
 refine HS.out.mono ?_;rintro e w9 ⟨rfl,p9,k9⟩;have H9:=zH (zA p9 k9);clear HS p9 k9;go_wp2;go_ret;obtain⟨pb,rb,cb,hb,kb⟩:=HM.out;obtain⟨p9,k9⟩:=H9.out;have jS:=(hb root).2 ⟨HH.out.hi.fM,λ hm=>(HH.out.hi.sw (aT ..) hm).2.1 rfl⟩;have jh:=(rb.ak jU z).ak (AP.aA.2 jS) (jQ ((B.ak t.pg z).c root) pg X.length);have sI:=K7.out.trans (k9.mono (λ j hj=>.inl (.inl hj)));exact⟨_,rp,_,rfl,⟨(p9.less (λ j hj=>.inl (.inl hj))).up (by omega),jh.good HH.out.good,HH.out.box.ae (sI.block H HH.out.mem),HH.out.mem,MV HH.out.hi cb hb z1 (λ _=>he),by have:=HH.out.few;rw[dn]at this;omega,((HH.out.far.like cb (λ p hp=>(hb p).2 ⟨(HH.out.far p hp).1,λ hm=>HH.out.hi.GL (aT ..) hm hp⟩)).ak (HH.out.hi.Aj (HH.out.hi.each t (aT ..)).1) _).ak HH.out.hi.nC _⟩,jh,sI⟩
end
end Go.Proofs.YtgpmiliahonaoaaGreatDoor
