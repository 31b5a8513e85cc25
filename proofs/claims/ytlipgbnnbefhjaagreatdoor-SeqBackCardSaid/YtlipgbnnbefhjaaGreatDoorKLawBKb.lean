/- Facts on rows of numbers on pages. -/
import Derived.Test.YtlipgbnnbefhjaaGreatDoorKWrapKitc
import Derived.Test.YtlipgbnnbefhjaaGreatDoorKPoolFb
set_option maxRecDepth 100000
set_option maxHeartbeats 8000000
set_option linter.unusedSimpArgs false
namespace Go.Proofs.YtlipgbnnbefhjaaGreatDoor
open Go.RowKit
open UK (str aO nth Only Row aI)
open Go.BigFrame
open A9 (lY)
def Ey(M n:Nat)(x:Nat×Nat)(A:AP)(X Y:List UInt64)(op:Bool):Prop:=RX M n x A X Y op/\op=false
theorem ya4:∀a,a<16->∀b,b<16->a+b<=11->V9 a b+4320*(a+1)+26000<=308*500:=by decide
section
variable{W w w2:World}{P D Q T M:Nat}
theorem xzn{A:AP}{k c d:Nat}{X Y:List UInt64}{ao bo:Option Addr}{op:Bool}{n:Nat}{x:Nat×Nat}{kd:Int}(hkd:kd=1\/kd=2\/kd=3)(hl:Ey M n x A X Y op)(hn:n<=14)(hV:∀a,a<16->∀b,b<16->a+b<=n->V9 a b+4320*(a+1)+26000<=308*M)(hk:k<=KX x+100000)(ii nn tt:Int)(id:UInt64)(hi: -9223372036854775808<=ii/\ii<9223372036854775808)(S:Nat->Prop)(w1:World)(h1:jg S w1 P D Q T ao c X bo d Y A k)(h2:∀j,S j->j<w1.heap.size) :
  Calls Tryz.prog 7 #[.agg (dV P Q ao X.length c bo Y.length d op),.agg (kK kd ii nn tt id)] w1 λ e w'=>∃x,tT S w1 w' P D (KX x) (Ey M (n+1) x) e:=by
 obtain⟨⟨hx,A0,hl⟩,ho⟩:=hl;obtain⟨a,b⟩:=x;dsimp only at hx hl;unfold KX at hk;dsimp only at hk;refine(WR h1 h2 kd ii nn tt id hi.1 hi.2 hl (by omega) (hV a (by omega) b (by omega) hx) hk hkd).mono ?_;rintro e w' ⟨a',b',hab,he⟩;exact⟨(a',b'),he.imp (Nat.le_of_eq (iP _)) (λ A' X' Y' op' hq=>⟨⟨by dsimp only;omega,hq.2⟩,hq.1.trans ho⟩)⟩
theorem Ey.op{n:Nat}{x:Nat×Nat}{A:AP}{X Y:List UInt64}{op:Bool}(h:Ey M n x A X Y op):A.op=none/\A.ax=(M:Int):=by
 obtain⟨⟨_,A0,h0⟩,e⟩:=h;refine⟨?_,h0.now.ax⟩;rcases Decidable.em (A.op=none)with h|h
 ·exact h
 have:=h0.shut.2 h;rw[e]at this
 cases this
theorem SI.anew{A B:AP}{X:List UInt64}{p:Nat}(h:SI A X p)(ho:A.op=none)(hn:uu A B):SI B X p:=h.same (hn.good h.good.1) (hn.has ho) (λ _ hp=>hn.same hp)
theorem xmu{p t:Value}{rt:Nat}(hb:aI w Q #[p,.int .i64 (rt:Int),t]) :
  Calls Tryz.prog 20 #[.pointer Q] w λ e w'=>e= .returned (.int .i64 rt)/\w'=w:=by
 have c1:=hb.c1;clear hb
 go_enter Tryz.func20,Tryz.ntmps20
 go_wp2;go_ret
 exact⟨rfl,rfl⟩
theorem xzo{w6 w7:World}{P2 Xd Q2 T2 c p:Nat}{B:AP}{X:List UInt64}{ao:Option Addr}(hX:X.length<=40000)(hp:NR w2 ao c (aF X))(hs:SI B X p)(kk:Kept (λ b=>b<W.heap.size) W w2)(kw:Kept (λ j=>j<w2.heap.size) w2 w7)
  (h6:aD (λ j=>j<w2.heap.size\/j=Q2\/j=T2) w6 P2 Xd Q2 T2 2 1 B (0+2)) (b67:Below w6 w6 w7) (φ:Int) (hφ:φ<9223372036854775808) :
  Calls Tryz.prog 12 #[.agg (dV P2 Q2 ao X.length c none 0 0 false),.int .i64 φ,.int .i64 9,.int .u64 5] w7 (λ e w'=>e= .returned (.int .i64 0)/\Kept (λ b=>b<W.heap.size) W w'):=by
 have h7:=h6.next b67;have p7:NR w7 ao c (aF X):=hp.af kw.size (λ g hg=>kw.block g (hp.lt hg));have h5:=WS (op:=false) (m:=0) (d:=0) (bo:=none) h7 hs p7 (λ b h=>.inl (hp.lt h)) hX (by omega) φ 9 5 hφ (by omega);rw[show((5:UInt64).toNat:Int)=5 from rfl]at h5;refine h5.mono ?_;rintro e w' ⟨he,_,k'⟩;exact⟨he,(kk.trans (kw.mono (λ b hb=>bS hb kk.size))).trans (k'.mono (λ b hb=>.inl (bS hb kk.size)))⟩
end
theorem WT(φ:Int)(hφ:φ<9223372036854775808)(ao:Option Addr)(len cap:Nat)(W:World)(ht:jG W)
  (hv:Hid (len=0\/∃b off kd ii nn tt id,ao=some ⟨b,off,none⟩/\lY W b off len kd ii nn tt id/\b<W.heap.size)) :
  Calls Tryz.prog 5 #[.slice ao len cap,.int .i64 φ] W λ e w'=>e= .returned (.bool true)/\Kept (λ j=>j<W.heap.size) W w':=by
 have HM:=zH (NW W ht (λ j=>j<W.heap.size) (λ _ h=>h) 500 4 rfl (by omega) (by omega));have htl:=ht.lt;have HB:=zH hφ;clear hφ
 go_enter Tryz.func5,Tryz.ntmps5
 go_wp2_with fail
 refine HM.out.mono ?_;rintro e w2 ⟨P,D,Q0,T0,rfl,t1,_,_,_,k1⟩;have NY:Q0<w2.heap.size:=t1.box.lt
 have uy:∀j,(j<W.heap.size\/j=Q0)->j<w2.heap.size:=λ j hj=>by
  have:=k1.size;rcases hj with hj|hj<;>omega
 have Kh:0 <w2.heap.size:=bS htl k1.size;have G0:=QD (S0:=λ b=>b<W.heap.size\/b=Q0) (B:=w2) (R:=Ey 500 0 (0,0)) ⟨⟨aZ _,iT 500,QE rfl (by omega) (by omega) _ _⟩,rfl⟩ (λ j hj=>hj.imp id (λ h=>.inl h)) uy t1 (Kept.of_below (aP _ _) uy) (aP _ _);have hrb:w2.heap.size<=w2.heap.size:=aZ _;have WU:=zH (zA t1.box (zA k1 (Nat.ne_of_lt NY)));replace uy:=zH uy;generalize jh:w2.alloc (.cells (dV P Q0 none 0 0 none 0 0 false) 29)=wa at G0;have BM:=zH jh;have vE:=zH G0;clear HM t1 k1 G0 jh NY
 go_wp2_with fail
 go_loopw [8] (λ iv wr=>∃(j:Nat) (x:Nat×Nat),iv= .int .i64 j/\j<=12/\xZ (Ey 500 j x) (λ b=>b<W.heap.size\/b=Q0) w2 wr P D w2 (KX x+10)) (λ iv _=>13-(intOf iv).toNat)
 case atStart=>exact⟨0,(0,0),rfl,by omega,by rw[BM.out];exact vE.out⟩
 clear vE BM;obtain⟨j,x,rfl,hj,Q,T,cZ,c,X,bo,d,Y,op,A,k,hx,hr,hk,hq,hkp,_⟩:=hrel;have hkW:Kept (λ b=>b<W.heap.size) W wr:=WU.out.2.1.trans (hkp.mono (λ b hb=>.inl hb));by_cases hgo:j<len/\j<12
 ·obtain⟨hlt,QF⟩:=hgo;rcases hv.out with h0|⟨b,off,kd,ii,nn,tt,id',rfl,ha,hbW⟩
  ·omega
  by_cases hk3:kd j=1\/kd j=2\/kd j=3
  ·have HC:Hid (∀w',Kept (λ j=>j<W.heap.size) W w'->∀i v,W.cell? ⟨b,i,none⟩=some v->w'.cell? ⟨b,i,none⟩=some v):=zH (λ w' k i v hc=>(mh (a:=⟨b,i,none⟩) (k.block b hbW)).trans hc);have a0:=ha.c0 j hlt;have a1:=ha.c1 j hlt;have a2:=ha.c2 j hlt;have a3:=ha.c3 j hlt;have a4:=ha.c4 j hlt;have hw:=ha.w1 j hlt;have i1:(j:Int)<(len:Int):=by omega
   have i2:(j:Int)<12:=by omega
   generalize kd j=kj at a0 hk3;generalize ii j=ij at a1 hw;generalize nn j=nj at a2;generalize tt j=tj at a3;generalize id' j=dj at a4;have c0:=HC.out _ hkW _ _ a0;have c1:=HC.out _ hkW _ _ a1;have c2:=HC.out _ hkW _ _ a2;have c3:=HC.out _ hkW _ _ a3;have c4:=HC.out _ hkW _ _ a4;have hD:=λ (S:Nat->Prop) (w1:World) (h1:jg S w1 P D Q T cZ c X bo d Y A k) (h2:∀j,S j->j<w1.heap.size)=>xzn (op:=op) hk3 hq (by omega) (λ a h1 b h2 h3=>ya4 a h1 b h2 (by omega)) (by omega) ij nj tj dj hw S w1 h1 h2;have Ez:=zH (QG uy.out hx hr hkp hrb Kh hD);have E5:=zH (QH uy.out hx hr hkp hrb hD);have r0:=hx.c0;have r1:=hx.c1;have r2:=hx.c2;have r3:=hx.c3;have r4:=hx.c4;have hrw:w2.heap.size<wr.heap.size:=hx.lt;have hbr:b<wr.heap.size:=bS hbW hkW.size;have HA:=zH a4;have g1:(1:Int)<=kj:=by omega
   have g2:kj<=3:=by omega
   clear hkW hk3 hx hr hkp hq hk ha a0 a1 a2 a3 a4 hD hw
   go_upto_region 9 with(fail)
   go_cut [9,10] (λ qv ov wx=>∃q:Nat,qv= .pointer q/\ov= .bool true/\wr.heap.size<=q/\∃x2 Q2 T2 dN n2 c2 iL m2 d2 iM,aI wx q (dV P Q2 dN n2 c2 iL m2 d2 iM)/\FT (Ey 500 (j+1) x2) (λ b=>b<W.heap.size\/b=Q0) w2 wx P D w2 q (KX x2) Q2 T2 dN n2 c2 iL m2 d2 iM)
   case first=>
    go_region_with (first
     | (go_at_call 7;refine Ez.out.mono ?_;rintro e w3 ⟨x2,Q2,T2,dN,n2,c2',iL,m2,d2,iM,rfl,zb,gx⟩;have zf:=zb.free;have z0:=zb.c0;have z1:=zb.c1;have z2:=zb.c2;have z3:=zb.c3;have z4:=zb.c4;replace zb:=zH zb;replace gx:=zH gx)
     | (go_at_call 7;refine E5.out.mono ?_;rintro e w3 ⟨x2,Q2,T2,dN,n2,c2',iL,m2,d2,iM,rfl,hs3,gx⟩;replace gx:=zH gx))
    all_goals
     go_wp2_with fail
     go_meet
     first
      | exact⟨_,rfl,rfl,aZ _,x2,Q2,T2,dN,n2,c2',iL,m2,d2,iM,zb.out.dJ _ _ _ _ _,gx.out⟩
      | exact⟨_,rfl,rfl,hs3,x2,Q2,T2,dN,n2,c2',iL,m2,d2,iM,aI.new _ _ _,gx.out _ _⟩
   obtain⟨q,rfl,rfl,hq,x2,Q2,T2,dN,n2,c2',iL,m2,d2,iM,xb,gx⟩:=hcut;have zf:=xb.free;have q0:=xb.c0;have q1:=xb.c1;have q2:=xb.c2;have q3:=xb.c3;have q4:=xb.c4;obtain⟨_,_,_,_,_,_,_,_,_,_,_,_,Q0,Ki,n0,c0',Kj,m0,d0,Kk,qj⟩:=id gx;have rf:=qj.free;have s0:=qj.c0;have s1:=qj.c1;have s2:=qj.c2;have s3:=qj.c3;have s4:=qj.c4;have HT:=zH (gx.turn uy.out Kh);clear gx xb qj Ez E5 c0 c1 c2 c3 c4 r0 r1 r2 r3 r4 hbr hrw hq HA g1 g2
   go_wp2_with fail
   go_roundw
   case rel=>
    obtain⟨X2,Y2,A2,k2,rfl,rfl,xF,rF,CQ,yR,kF⟩:=HT.out;exact⟨j+1,x2,by go_num,by omega,Q2,T2,dN,c2',X2,iL,d2,Y2,iM,A2,k2,xF,rF,by omega,yR,kF,hrb⟩
   case measure=>simp[intOf];omega
  have hcell:∀i v,W.cell? ⟨b,i,none⟩=some v->wr.cell? ⟨b,i,none⟩=some v:=λ i v hc=>(mh (a:=⟨b,i,none⟩) (hkW.block b hbW)).trans hc;have c0:=hcell _ _ (ha.c0 j hlt);have i1:(j:Int)<(len:Int):=by omega
  have i2:(j:Int)<12:=by omega
  generalize kd j=kj at c0 hk3;have HQ:Hid (xZ (Ey 500 (j+1) x) (λ b=>b<W.heap.size\/b=Q0) w2 wr P D w2 (KX x+10)):=zH ⟨Q,T,cZ,c,X,bo,d,Y,op,A,k,hx,hr,hk,⟨⟨Nat.le_succ_of_le hq.1.1,hq.1.2⟩,hq.2⟩,hkp,hrb⟩;have hn:¬(1:Int)<=kj\/((1:Int)<=kj/\¬kj<=3):=by omega
  have hbr:b<wr.heap.size:=bS hbW hkW.size;clear hx hr hkp hq hk ha hcell hk3 hkW;rcases hn with n1|⟨n1,n2⟩
  all_goals
   go_wp2;go_roundw
   case rel=>exact⟨j+1,x,by go_num,by omega,HQ.out⟩
   case measure=>simp[intOf];omega
 have CJ:¬(j:Int)<(len:Int)\/((j:Int)<(len:Int)/\¬(j:Int)<12):=by omega
 obtain⟨p,hsi⟩:=hq.1.si;obtain⟨hop,hmo⟩:=hq.op;have fD:=hq.1.few;have htop:=QI hq.1 (by omega);have HF:=zH (xwr hr.sq.pz (by omega));have WV:=zH (zA hx (zA hr.px (zA hkW (zA hkp (zA hsi (zA hop (zA hmo (show X.length<=40000 by omega))))))));clear hx hr hkp hq hk hkW hsi hop hmo fD htop hgo;rcases CJ with i1|⟨i1,i2⟩
 all_goals
  go_wp2_with fail
  refine HF.out.mono ?_;rintro e w3 ⟨rfl,zf,k3⟩;obtain⟨hx,hp,hkW,hkp,hsi,hop,hmo,hX⟩:=WV.out;obtain⟨x,hB,hO⟩:=xws zf 500 (by rw[hmo];rfl);have WW:=zH (WX zf.pz);have WY:=zH hB;have HO:=zH (hO w3 zf.pz.tab);have x3:=hx.af (k3.block _ (.inl (.inr rfl)));have q3:=(WU.out.1.af (hkp.block Q0 (.inr rfl))).af (k3.block Q0 (.inl (.inl (.inr rfl))));have p3:=hp.af k3.size (λ b hb=>k3.block b (.inr (.inr (.inr (.inl hb)))));have E8:=hkW.trans (k3.mono (λ b hb=>.inl (.inl (.inl hb))));have H3:=zH (zA x3 (zA q3 (zA p3 (zA E8 (zA hsi (zA hop hX))))));clear hB hO zf k3 hx hp hkW hkp hsi hop hmo hX HF WV x3 q3 p3 E8
  go_wp2_with fail
  refine WW.out.mono ?_;rintro e w4 ⟨rfl,hw4⟩;subst hw4
  go_wp2_with fail
  refine WY.out.mono ?_;rintro e w4 ⟨rfl,hw4⟩;subst hw4
  go_wp2_with fail
  refine HO.out.mono ?_;rintro e w5 ⟨Xd,rfl,dz,b4⟩;have HN:=zH (ya6 dz 3 (by omega) 1);have B4:=zH b4;clear WW WY HO dz b4
  go_wp2_with fail
  refine HN.out.mono ?_;rintro e w6 ⟨P2,B,rfl,p6,hn,k6⟩;obtain⟨x3,q3,p3,E8,hsi,hop,hX⟩:=H3.out;have FU:=B4.out.trans ⟨k6.os,k6.tape,k6.output,k6.size,k6.block⟩;have HR:=zH (xmu (rt:=2) (q3.next FU));have hsB:=hsi.anew hop hn;have HA:=zH (WZ p6 (by omega) hsB.root.1 hsB.root.2);have H6:=zH (zA FU (zA hsB (zA x3 (zA p3 (zA E8 hX)))));clear HN p6 hn k6 x3 q3 p3 E8 hsi hop hX FU hsB B4 H3
  go_wp2_with fail
  refine HR.out.mono ?_;rintro e w7 ⟨rfl,hw7⟩;subst hw7
  go_wp2_with fail
  refine HA.out.mono ?_;rintro e w8 ⟨Q2,T2,rfl,_,_,_,IK,k8⟩;have Xa:=zH (NZ w8 IK.pz.tab (λ b=>b<w8.heap.size) (λ _ h=>h));have H8:=zH (zA IK k8);clear HR HA IK k8
  go_wp2_with fail
  refine Xa.out.mono ?_;rintro e w9 ⟨rfl,k9⟩;obtain⟨IK,k8⟩:=H8.out;obtain⟨FU,hsB,x3,p3,E8,hX⟩:=H6.out;have kw:=(Kept.of_below FU (λ j hj=>hj)).trans (k8.trans (k9.mono (λ j hj=>bS hj (bf FU.size k8.size))));have t2:=(x3.af (kw.block _ x3.lt)).cell 2 _ rfl;have hrw:=(x3.af (kw.block _ x3.lt)).lt;have Xb:=zH (xzo hX p3 hsB E8 kw IK ⟨k9.os,k9.tape,k9.output,k9.size,k9.block⟩ φ HB.out);clear Xa k9 IK k8 FU hsB x3 p3 E8 hX kw H6 H8
  go_wp2_with fail
  refine Xb.out.mono ?_;rintro e yc ⟨rfl,k10⟩;replace k10:=zH k10;clear Xb;go_wp2;go_ret;exact⟨rfl,k10.out⟩
theorem sb_walk(W:World)(ht:jG W){H:Type}{enc:TypeId×Value->H}{base:Nat}{d:DataW H}{p:List MemPlace}(v:Value)(hok:Value.okWide Tryz.prog W .any base 22 v)(h:DataW.Trod enc Tryz.prog W 0 (λ _=>true) true 22 v d p)(φ:Int)(hφ:(Lit.int .i64 φ).wf=true) :
  Calls Tryz.prog 5 #[v,.int .i64 φ] W λ e w'=>e= .returned (.bool true)/\Below W W w':=by
 have h1:=(A9.sw hφ).2;rcases A9.nZ W v hok h with⟨ao,cap,rfl⟩|⟨b,off,len,cap,kd,ii,nn,tt,id,rfl,ha,hb,_⟩
 ·exact(WT φ h1 ao 0 cap W ht (zH (.inl rfl))).mono λ e w' ⟨x,k⟩=>⟨x,k.os,k.tape,k.output,k.size,k.block⟩
 exact(WT φ h1 (b,off) len cap W ht (zH (.inr ⟨b,off,kd,ii,nn,tt,id,rfl,ha,hb⟩))).mono λ e w' ⟨x,k⟩=>⟨x,k.os,k.tape,k.output,k.size,k.block⟩
end Go.Proofs.YtlipgbnnbefhjaaGreatDoor
