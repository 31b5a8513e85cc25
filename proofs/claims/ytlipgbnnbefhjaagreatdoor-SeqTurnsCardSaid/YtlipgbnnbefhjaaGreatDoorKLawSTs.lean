/- Facts on rows of numbers on pages. -/
import Derived.Test.YtlipgbnnbefhjaaGreatDoorKLawSSs
set_option maxRecDepth 100000
set_option maxHeartbeats 8000000
set_option linter.unusedSimpArgs false
namespace Go.Proofs.YtlipgbnnbefhjaaGreatDoor
open Go.RowKit
open UK (str aO nth Only Row aI)
open Go.BigFrame
open A9 (lY)
theorem Xi(ao:Option Addr)(len cap:Nat)(W:World)(ht:jG W)
  (hv:Hid (len=0\/∃b off kd ii nn tt id,ao=some ⟨b,off,none⟩/\lY W b off len kd ii nn tt id/\b<W.heap.size)) :
  Calls Tryz.prog 3 #[.slice ao len cap] W λ e w'=>e= .returned (.bool true)/\Kept (λ j=>j<W.heap.size) W w':=by
 have HM:=zH (NW W ht (λ j=>j<W.heap.size) (λ _ h=>h) 600 4 rfl (by omega) (by omega));have htl:=ht.lt
 go_enter Tryz.func3,Tryz.ntmps3
 go_wp2_with fail
 refine HM.out.mono ?_;rintro e w2 ⟨P,D,Q,T,rfl,t1,_,_,_,k1⟩;have G0:=QD (S0:=λ b=>b<W.heap.size) (R:=RX 600 0 (0,0)) ⟨aZ _,iT 600,QE rfl (by omega) (by omega) _ _⟩ (λ _ h=>.inl h) (λ _ h=>h) t1 k1 (aP _ _);have hrb:W.heap.size<=w2.heap.size:=k1.size;generalize jh:w2.alloc (.cells (dV P Q none 0 0 none 0 0 false) 29)=wa at G0;have BM:=zH jh;have vE:=zH G0;clear HM t1 k1 G0 jh
 go_wp2_with fail
 go_loopw [6] (λ iv wr=>∃(j:Nat) (x:Nat×Nat),iv= .int .i64 j/\j<=12/\xZ (RX 600 j x) (λ b=>b<W.heap.size) W wr P D w2 (KX x+10)) (λ iv _=>13-(intOf iv).toNat)
 case atStart=>exact⟨0,(0,0),rfl,by omega,by rw[BM.out];exact vE.out⟩
 clear vE BM;obtain⟨j,x,rfl,hj,Q,T,cZ,c,X,bo,d,Y,op,A,k,hx,hr,hk,hq,hkp,_⟩:=hrel;by_cases hgo:j<len/\j<12
 ·obtain⟨hlt,QF⟩:=hgo;rcases hv.out with h0|⟨b,off,kd,ii,nn,tt,id',rfl,ha,hbW⟩
  ·omega
  have HC:Hid (∀w',Kept (λ j=>j<W.heap.size) W w'->∀i v,W.cell? ⟨b,i,none⟩=some v->w'.cell? ⟨b,i,none⟩=some v):=zH (λ w' k i v hc=>(mh (a:=⟨b,i,none⟩) (k.block b hbW)).trans hc);have a0:=ha.c0 j hlt;have a1:=ha.c1 j hlt;have a2:=ha.c2 j hlt;have a3:=ha.c3 j hlt;have a4:=ha.c4 j hlt;have hw:=ha.w1 j hlt;have i1:(j:Int)<(len:Int):=by omega
  have i2:(j:Int)<12:=by omega
  generalize kd j=kj at a0;generalize ii j=ij at a1 hw;generalize nn j=nj at a2;generalize tt j=tj at a3;generalize id' j=dj at a4;have c0:=HC.out _ hkp _ _ a0;have c1:=HC.out _ hkp _ _ a1;have c2:=HC.out _ hkp _ _ a2;have c3:=HC.out _ hkp _ _ a3;have c4:=HC.out _ hkp _ _ a4;have hD:=λ (S:Nat->Prop) (w1:World) (h1:jg S w1 P D Q T cZ c X bo d Y A k) (h2:∀j,S j->j<w1.heap.size)=>Xe (op:=op) hq (by omega) (λ a h1 b h2 h3=>Xf a h1 b h2 (by omega)) (by omega) kj ij nj tj dj hw S w1 h1 h2;have Ez:=zH (QG (λ _ h=>h) hx hr hkp hrb htl hD);have E5:=zH (QH (λ _ h=>h) hx hr hkp hrb hD);have r0:=hx.c0;have r1:=hx.c1;have r2:=hx.c2;have r3:=hx.c3;have r4:=hx.c4;have hrw:w2.heap.size<wr.heap.size:=hx.lt;have hbr:b<wr.heap.size:=bS hbW hkp.size;have HA:=zH a4;clear hx hr hkp hq hk ha a0 a1 a2 a3 a4 hD hw
  go_upto_region 8 with(fail)
  go_cut [7,8] (λ qv ov wx=>∃q:Nat,qv= .pointer q/\ov= .bool true/\wr.heap.size<=q/\∃x2 Q2 T2 dN n2 c2 iL m2 d2 iM,aI wx q (dV P Q2 dN n2 c2 iL m2 d2 iM)/\FT (RX 600 (j+1) x2) (λ b=>b<W.heap.size) W wx P D w2 q (KX x2) Q2 T2 dN n2 c2 iL m2 d2 iM)
  case first=>
   go_region_with (first
    | (go_at_call 7;refine Ez.out.mono ?_;rintro e w3 ⟨x2,Q2,T2,dN,n2,c2',iL,m2,d2,iM,rfl,zb,gx⟩;have zf:=zb.free;have z0:=zb.c0;have z1:=zb.c1;have z2:=zb.c2;have z3:=zb.c3;have z4:=zb.c4;replace zb:=zH zb;replace gx:=zH gx)
    | (go_at_call 7;refine E5.out.mono ?_;rintro e w3 ⟨x2,Q2,T2,dN,n2,c2',iL,m2,d2,iM,rfl,hs3,gx⟩;replace gx:=zH gx))
   all_goals
    go_wp2_with fail
    go_meet
    first
     | exact⟨_,rfl,rfl,aZ _,x2,Q2,T2,dN,n2,c2',iL,m2,d2,iM,zb.out.dJ _ _ _ _ _,gx.out⟩
     | exact⟨_,rfl,rfl,hs3,x2,Q2,T2,dN,n2,c2',iL,m2,d2,iM,aI.new _ _ _,gx.out _ _⟩
  obtain⟨q,rfl,rfl,hq,x2,Q2,T2,dN,n2,c2',iL,m2,d2,iM,xb,gx⟩:=hcut;have zf:=xb.free;have q0:=xb.c0;have q1:=xb.c1;have q2:=xb.c2;have q3:=xb.c3;have q4:=xb.c4;obtain⟨_,_,_,_,_,_,_,_,_,_,_,_,Q0,Ki,n0,c0',Kj,m0,d0,Kk,qj⟩:=id gx;have rf:=qj.free;have s0:=qj.c0;have s1:=qj.c1;have s2:=qj.c2;have s3:=qj.c3;have s4:=qj.c4;have HT:=zH (gx.turn (λ _ h=>h) htl);clear gx xb qj Ez E5 c0 c1 c2 c3 c4 r0 r1 r2 r3 r4 hbr hrw hq HA
  go_wp2_with fail
  go_roundw
  case rel=>
   obtain⟨X2,Y2,A2,k2,rfl,rfl,xF,rF,CQ,yR,kF⟩:=HT.out;exact⟨j+1,x2,by go_num,by omega,Q2,T2,dN,c2',X2,iL,d2,Y2,iM,A2,k2,xF,rF,by omega,yR,kF,hrb⟩
  case measure=>simp[intOf];omega
 have CJ:¬(j:Int)<(len:Int)\/((j:Int)<(len:Int)/\¬(j:Int)<12):=by omega
 obtain⟨p,hsi⟩:=hq.si;have fD:=hq.few;have htop:=QI hq (by omega);have r1:=hx.c1;have HL:=zH (Rm hr.sq hsi (by omega));have HB:=zH (zA hx (zA hr hkp));have HS:=zH hsi;have HK:=zH (show k<=787000000 by omega);have hX:X.length<=720:=by omega
 clear hx hr hkp hq hk hsi htop fD hgo;rcases CJ with i1|⟨i1,i2⟩
 all_goals
  go_wp2_with fail
  refine HL.out.mono ?_;rintro e w3 ⟨rfl,t3,k3⟩
  have HST:Hid (∃k',aI w3 w2 (dV P Q cZ X.length c bo Y.length d op)/\jg (λ b=>b<W.heap.size\/b=w2.heap.size) w3 P D Q T cZ c X bo d Y A k'/\k'<=k+40+200*0/\Kept (λ b=>b<W.heap.size) W w3):=by
   obtain⟨hx,hr,hkp⟩:=HB.out;obtain⟨x3,r3,vP⟩:=xZ.shown hx hr hkp t3 k3;exact zH ⟨_,x3,r3,aZ _,vP⟩
  clear HL HB t3 k3 r1
  go_wp2_with fail
  go_loopw [11] (λ iv wx=>∃i:Nat,iv= .int .i64 i/\i<=X.length/\Hid (∃k',aI wx w2 (dV P Q cZ X.length c bo Y.length d op)/\jg (λ b=>b<W.heap.size\/b=w2.heap.size) wx P D Q T cZ c X bo d Y A k'/\k'<=k+40+200*i/\Kept (λ b=>b<W.heap.size) W wx)) (λ iv _=>X.length+1-(intOf iv).toNat)
  case atStart=>exact⟨0,rfl,bY _,HST⟩
  clear HST;obtain⟨i,rfl,hi,hI⟩:=hrel;obtain⟨k',hx,hr,hk',hkp⟩:=hI.out;by_cases hlt:i<X.length
  ·obtain⟨id,hid⟩:∃id,X[i]?=some id:=⟨_,di hlt⟩;have q1:=hx.c1;have hil:(i:Int)<(X.length:Int):=by omega
   have Xj:=zH (Rk hr.sq HS.out (by have:=HK.out;omega) hid (by omega));have HB:=zH (zA hx (zA hr (zA hk' (zA hkp hid))));clear hI hx hr hk' hkp hid hlt
   go_wp2_with fail
   refine Xj.out.mono ?_;rintro e w4 ⟨rfl,t4,k4⟩;obtain⟨hx,hr,hk',hkp,hid⟩:=HB.out;obtain⟨x4,r4,qU⟩:=xZ.shown hx hr hkp t4 k4;have q1:=x4.c1;have Xk:=zH (yby r4.sq HS.out (by have:=HK.out;omega) hid);have Xl:=zH (zA x4 (zA r4 qU));clear Xj hx hr hkp hid t4 k4 x4 r4 qU HB;replace hk':=zH hk'
   go_wp2_with fail
   refine Xk.out.mono ?_;rintro e w5 ⟨rfl,t5,k5⟩
   have HN:Hid (∃k',aI w5 w2 (dV P Q cZ X.length c bo Y.length d op)/\jg (λ b=>b<W.heap.size\/b=w2.heap.size) w5 P D Q T cZ c X bo d Y A k'/\k'<=k+40+200*(i+1)/\Kept (λ b=>b<W.heap.size) W w5):=by
    obtain⟨x4,r4,qU⟩:=Xl.out;obtain⟨x5,r5,Rh⟩:=xZ.shown x4 r4 qU t5 k5;exact zH ⟨_,x5,r5,by have:=hk'.out;omega,Rh⟩
   clear Xk Xl t5 k5 q1;go_wp2;go_roundw
   case rel=>exact⟨i+1,by go_num,by omega,HN⟩
   case measure=>simp[intOf];omega
  have hil:¬(i:Int)<(X.length:Int):=by omega
  have HA:=zH (NZ wr hr.sq.pz.tab (λ b=>b<wr.heap.size) (λ _ h=>h));have HF:=zH hkp;clear hI hx hr hk' hkp HK HS
  go_wp2_with fail
  refine HA.out.mono ?_;rintro e w6 ⟨rfl,k6⟩;have HE:=zH (HF.out.trans (k6.mono (λ b hb=>bS hb HF.out.size)));clear HA HF k6;go_wp2;go_ret;exact⟨rfl,HE.out⟩
theorem st_walk(W:World)(ht:jG W){H:Type}{enc:TypeId×Value->H}{base:Nat}{d:DataW H}{p:List MemPlace}(v:Value)(hok:Value.okWide Tryz.prog W .any base 22 v)(h:DataW.Trod enc Tryz.prog W 0 (λ _=>true) true 22 v d p) :
  Calls Tryz.prog 3 #[v] W λ e w'=>e= .returned (.bool true)/\Below W W w':=by
 rcases A9.nZ W v hok h with⟨ao,cap,rfl⟩|⟨b,off,len,cap,kd,ii,nn,tt,id,rfl,ha,hb,_⟩
 ·exact(Xi ao 0 cap W ht (zH (.inl rfl))).mono λ e w' ⟨x,k⟩=>⟨x,k.os,k.tape,k.output,k.size,k.block⟩
 exact(Xi (b,off) len cap W ht (zH (.inr ⟨b,off,kd,ii,nn,tt,id,rfl,ha,hb⟩))).mono λ e w' ⟨x,k⟩=>⟨x,k.os,k.tape,k.output,k.size,k.block⟩
end Go.Proofs.YtlipgbnnbefhjaaGreatDoor
