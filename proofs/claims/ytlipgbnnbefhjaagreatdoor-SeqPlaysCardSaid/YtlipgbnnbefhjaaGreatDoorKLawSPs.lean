/- Facts on rows of numbers on pages. -/
import Derived.Test.YtlipgbnnbefhjaaGreatDoorKLawSSs
set_option maxRecDepth 100000
set_option maxHeartbeats 8000000
set_option linter.unusedSimpArgs false
namespace Go.Proofs.YtlipgbnnbefhjaaGreatDoor
open Go.RowKit
open UK (str aO nth Only Row aI)
open Go.BigFrame
open A9 (lY)
theorem Xc(fr:Nat)(hfr:1<=fr/\fr<=6)(φ ν:Int)(hφ:φ<9223372036854775808)(uz:ν<9223372036854775808)(ao:Option Addr)(len cap:Nat)(W:World)(ht:jG W)
  (hv:Hid (len=0\/∃b off kd ii nn tt id,ao=some ⟨b,off,none⟩/\lY W b off len kd ii nn tt id/\b<W.heap.size)) :
  Calls Tryz.prog 4 #[.int .i64 fr,.slice ao len cap,.int .i64 φ,.int .i64 ν] W λ e w'=>e= .returned (.bool true)/\Kept (λ j=>j<W.heap.size) W w':=by
 have HM:=zH (NW W ht (λ j=>j<W.heap.size) (λ _ h=>h) 600 fr rfl (by omega) (by omega));have htl:=ht.lt;have hf1:¬(fr:Int)<1:=by omega
 have hf2:¬6<(fr:Int):=by omega
 have HB:=zH (zA hφ uz);clear hφ uz
 go_enter Tryz.func4,Tryz.ntmps4
 go_wp2_with fail
 refine HM.out.mono ?_;rintro e w1 ⟨P,D,Q,T,rfl,t1,_,_,_,k1⟩;have HA:=zH (NZ w1 t1.pz.tab (λ j=>j<w1.heap.size) (λ _ h=>h));have H1:=zH (zA t1 k1);clear HM t1 k1
 go_wp2_with fail
 refine HA.out.mono ?_;rintro e w2 ⟨rfl,k2⟩;obtain⟨t1,k1⟩:=H1.out;have b12:Below w1 w1 w2:=⟨k2.os,k2.tape,k2.output,k2.size,k2.block⟩;have G0:=QD (S0:=λ b=>b<W.heap.size) (R:=RX 600 0 (0,0)) ⟨aZ _,iT 600,QE rfl (by omega) (by omega) _ _⟩ (λ _ h=>.inl h) (λ _ h=>h) t1 k1 b12;have hrb:W.heap.size<=w2.heap.size:=bf k1.size b12.size;generalize jh:w2.alloc (.cells (dV P Q none 0 0 none 0 0 false) 29)=wa at G0;have BM:=zH jh;have vE:=zH G0;clear HA H1 k2 t1 k1 b12 G0 jh
 go_wp2_with fail
 go_loopw [12] (λ iv wr=>∃(j:Nat) (x:Nat×Nat),iv= .int .i64 j/\j<=15/\xZ (RX 600 j x) (λ b=>b<W.heap.size) W wr P D w2 (KX x+92000)) (λ iv _=>16-(intOf iv).toNat)
 case atStart=>
  obtain⟨g1,g2,g3,g4,g5,g6,g7,g8,g9,g10,g11,g12,g13,g14⟩:=vE.out;exact⟨0,(0,0),rfl,by omega,by rw[BM.out];exact⟨g1,g2,g3,g4,g5,g6,g7,g8,g9,g10,g11,g12,g13,by have:=g14.1;omega,g14.2⟩⟩
 clear vE BM;obtain⟨j,x,rfl,hj,Q,T,cZ,c,X,bo,d,Y,op,A,k,hx,hr,hk,hq,hkp,_⟩:=hrel;by_cases hgo:j<len/\j<15
 ·obtain⟨hlt,aad⟩:=hgo;rcases hv.out with h0|⟨b,off,kd,ii,nn,tt,id',rfl,ha,hbW⟩
  ·omega
  have HC:Hid (∀w',Kept (λ j=>j<W.heap.size) W w'->∀i v,W.cell? ⟨b,i,none⟩=some v->w'.cell? ⟨b,i,none⟩=some v):=zH (λ w' k i v hc=>(mh (a:=⟨b,i,none⟩) (k.block b hbW)).trans hc);have a0:=ha.c0 j hlt;have a1:=ha.c1 j hlt;have a2:=ha.c2 j hlt;have a3:=ha.c3 j hlt;have a4:=ha.c4 j hlt;have hw:=ha.w1 j hlt;have i1:(j:Int)<(len:Int):=by omega
  have i2:(j:Int)<15:=by omega
  generalize kd j=kj at a0;generalize ii j=ij at a1 hw;generalize nn j=nj at a2;generalize tt j=tj at a3;generalize id' j=dj at a4;have c0:=HC.out _ hkp _ _ a0;have c1:=HC.out _ hkp _ _ a1;have c2:=HC.out _ hkp _ _ a2;have c3:=HC.out _ hkp _ _ a3;have c4:=HC.out _ hkp _ _ a4;have hD:=λ (S:Nat->Prop) (w1:World) (h1:jg S w1 P D Q T cZ c X bo d Y A k) (h2:∀j,S j->j<w1.heap.size)=>Xe (op:=op) hq (by omega) (λ a h1 b h2 h3=>Xf a h1 b h2 (by omega)) (by omega) kj ij nj tj dj hw S w1 h1 h2;have Ez:=zH (QG (λ _ h=>h) hx hr hkp hrb htl hD);have E5:=zH (QH (λ _ h=>h) hx hr hkp hrb hD);have r0:=hx.c0;have r1:=hx.c1;have r2:=hx.c2;have r3:=hx.c3;have r4:=hx.c4;have hrw:w2.heap.size<wr.heap.size:=hx.lt;have hbr:b<wr.heap.size:=bS hbW hkp.size;have HA:=zH a4;clear hx hr hkp hq hk ha a0 a1 a2 a3 a4 hD hw
  go_upto_region 10 with(fail)
  go_cut [13,14] (λ qv ov wx=>∃q:Nat,qv= .pointer q/\ov= .bool true/\wr.heap.size<=q/\∃x2 Q2 T2 dN n2 c2 iL m2 d2 iM,aI wx q (dV P Q2 dN n2 c2 iL m2 d2 iM)/\FT (RX 600 (j+1) x2) (λ b=>b<W.heap.size) W wx P D w2 q (KX x2) Q2 T2 dN n2 c2 iL m2 d2 iM)
  case first=>
   go_region_with (first
    | (go_at_call 7;refine Ez.out.mono ?_;rintro e w3 ⟨x2,Q2,T2,dN,n2,c2',iL,m2,d2,iM,rfl,zb,gx⟩;have zf:=zb.free;have z0:=zb.c0;have z1:=zb.c1;have z2:=zb.c2;have z3:=zb.c3;have z4:=zb.c4;replace zb:=zH zb;replace gx:=zH gx)
    | (go_at_call 7;refine E5.out.mono ?_;rintro e w3 ⟨x2,Q2,T2,dN,n2,c2',iL,m2,d2,iM,rfl,hs3,gx⟩;replace gx:=zH gx))
   all_goals
    go_wp2_with fail
    go_meet
    first
     | exact⟨_,rfl,rfl,aZ _,x2,Q2,T2,dN,n2,c2',iL,m2,d2,iM,zb.out.dJ _ _ _ _ _,gx.out⟩
     | exact⟨_,rfl,rfl,hs3,x2,Q2,T2,dN,n2,c2',iL,m2,d2,iM,aI.new _ _ _,gx.out _ _⟩
  obtain⟨q,rfl,rfl,hq,x2,Q2,T2,dN,n2,c2',iL,m2,d2,iM,xb,gx⟩:=hcut;have zf:=xb.free;have q0:=xb.c0;have q1:=xb.c1;have q2:=xb.c2;have q3:=xb.c3;have q4:=xb.c4;obtain⟨_,_,_,_,_,_,_,_,_,_,_,_,Q0,Ki,n0,c0',Kj,m0,d0,Kk,qj⟩:=id gx;have rf:=qj.free;have s0:=qj.c0;have s1:=qj.c1;have s2:=qj.c2;have s3:=qj.c3;have s4:=qj.c4;have HT:=zH (gx.turn (λ _ h=>h) htl);clear gx xb qj Ez E5 c0 c1 c2 c3 c4 r0 r1 r2 r3 r4 hbr hrw hq
  have QJ:Hid (KX x2<=786000000):=by
   obtain⟨X2,Y2,A2,k2,rfl,rfl,xF,rF,CQ,yR,kF⟩:=HT.out;exact zH (QI yR (by omega))
  go_upto_region 11 with(fail)
  go_cut [] (λ wx=>Hid (∃(X2 Y2:List UInt64) (A2:AP) (k2:Nat),X2.length=n2/\Y2.length=m2/\aI wx w2 (dV P Q2 dN n2 c2' iL m2 d2 iM)/\jg (λ b=>b<W.heap.size\/b=w2.heap.size) wx P D Q2 T2 dN c2' X2 iL d2 Y2 A2 k2/\k2<=KX x2/\RX 600 (j+1) x2 A2 X2 Y2 iM/\Kept (λ b=>b<W.heap.size) W wx))
  case first=>
   go_wp2;go_meet
   case rel=>exact HT
  clear q0 q1 q2 q3 q4 s0 s1 s2 s3 s4 zf rf HT;obtain⟨X2,Y2,A2,k2,rfl,rfl,xF,rF,CQ,yR,kF⟩:=hcut.out;obtain⟨p,hsi⟩:=yR.si;have fD:=yR.few;have htop:=QJ.out;have xF1:=xF.next ((aP _ _).drew);have IL:=rF.wide ((aP _ _).drew) (λ j hj=>.inl hj);have Kl:=kF.trans (Kept.of_below ((aP _ _).drew) (λ j hj=>bS hj kF.size));have HS:=zH (WS (op:=iM) (m:=Y2.length) (d:=d2) (bo:=iL) IL.sq hsi IL.px (λ b hb=>.inr (.inr (.inr (.inl hb)))) (show X2.length<=40000 by omega) (by omega) φ ν dj HB.out.1 HB.out.2);have HF:=zH (zA xF1 (zA IL (zA Kl (zA CQ (zA yR fD)))));have e0:=xF1.c0;have e1:=xF1.c1;have e2:=xF1.c2;have e3:=xF1.c3;have e4:=xF1.c4;have e5:wc.drew.cell? ⟨b,off+j*5+4,none⟩=some (.int .u64 (dj.toNat:Int)):=HC.out _ Kl _ _ HA.out;have u0:=xF.c0;have u1:=xF.c1;have u2:=xF.c2;have u3:=xF.c3;have u4:=xF.c4;have u5:wc.cell? ⟨b,off+j*5+4,none⟩=some (.int .u64 (dj.toNat:Int)):=HC.out _ kF _ _ HA.out;have hrw:=xF.lt;have hbr:b<wc.heap.size:=block_lt_of_cell u5;clear xF rF kF IL xF1 Kl yR CQ fD hsi hcut htop
  go_wp2_with fail
  refine wp_region_any (by kernel_rfl) ?_;change wpAny _ _ _ _ _ _ _ (wc.drew);refine wpAny_take (i:=0) (v:=?va0) rfl (by kernel_rfl) (by kernel_rfl) (by kernel_rfl) (λ _ _ _ h=>h) (Or.inl ⟨by rfl,?QK⟩) ?QL
  case QK=>(intro w;go_simp;try with_reducible rfl)
  try simp only[Act.put,List.getElem_toArray,List.getElem_cons_zero,zS,z0,z1]
  refine wpAny_take (i:=1) (v:=?nC) rfl (by kernel_rfl) (by kernel_rfl) (by kernel_rfl) (λ _ _ _ h=>h) (Or.inl ⟨by rfl,?QM⟩) ?QN
  case QM=>(intro w;go_simp;try with_reducible rfl)
  try simp only[Act.put,List.getElem_toArray,List.getElem_cons_zero,List.getElem_cons_succ,zS,z0,z1]
  refine wpAny_take (i:=2) (v:=?lT) rfl (by kernel_rfl) (by kernel_rfl) (by kernel_rfl) (λ _ _ _ h=>h) (Or.inl ⟨by rfl,?QO⟩) ?QP
  case QO=>(intro w;go_simp;try with_reducible rfl)
  try simp only[Act.put,List.getElem_toArray,List.getElem_cons_zero,List.getElem_cons_succ,zS,z0,z1]
  refine wpAny_take (i:=4) (v:=?va4) rfl (by kernel_rfl) (by kernel_rfl) (by kernel_rfl) (λ _ _ _ h=>h) (Or.inl ⟨by rfl,?QQ⟩) ?QR
  case QQ=>(intro w;go_simp;try with_reducible rfl)
  try simp only[Act.put,List.getElem_toArray,List.getElem_cons_zero,List.getElem_cons_succ,zS,z0,z1]
  refine wpAny_take (i:=5) (v:=?FV) rfl (by kernel_rfl) (by kernel_rfl) (by kernel_rfl) (λ _ _ _ h=>h) (Or.inl ⟨by rfl,?QS⟩) ?QT
  case QS=>(intro w;go_simp;try with_reducible rfl)
  try simp only[Act.put,List.getElem_toArray,List.getElem_cons_zero,List.getElem_cons_succ,zS,z0,z1]
  refine wpAny_take (i:=6) (v:=?va6) rfl (by kernel_rfl) (by kernel_rfl) (by kernel_rfl) (λ _ _ _ h=>h) (Or.inl ⟨by rfl,?QU⟩) ?QV
  case QU=>(intro w;go_simp;try with_reducible rfl)
  try simp only[Act.put,List.getElem_toArray,List.getElem_cons_zero,List.getElem_cons_succ,zS,z0,z1]
  refine wpAny_take (i:=7) (v:=?va7) rfl (by kernel_rfl) (by kernel_rfl) (by kernel_rfl) (λ _ _ _ h=>h) (Or.inl ⟨by rfl,?QW⟩) ?QX
  case QW=>(intro w;go_simp;try with_reducible rfl)
  try simp only[Act.put,List.getElem_toArray,List.getElem_cons_zero,List.getElem_cons_succ,zS,z0,z1]
  refine wpAny_take (i:=8) (v:=?Oa) rfl (by kernel_rfl) (by kernel_rfl) (by kernel_rfl) (λ _ _ _ h=>h) (Or.inl ⟨by rfl,?QY⟩) ?QZ
  case QY=>(intro w;go_simp;try with_reducible rfl)
  try simp only[Act.put,List.getElem_toArray,List.getElem_cons_zero,List.getElem_cons_succ,zS,z0,z1]
  refine wpAny_take (i:=9) (v:=?va9) rfl (by kernel_rfl) (by kernel_rfl) (by kernel_rfl) (λ _ _ _ h=>h) (Or.inl ⟨by rfl,?Rb⟩) ?Rc
  case Rb=>(intro w;go_simp;try with_reducible rfl)
  try simp only[Act.put,List.getElem_toArray,List.getElem_cons_zero,List.getElem_cons_succ,zS,z0,z1]
  have hS0:(λ w:World=>w.cell? w2.heap.size=some (.pointer P)/\w.cell? (w2.heap.size,1)=some (.pointer Q2)/\w.cell? (w2.heap.size,2)=some (.slice dN X2.length c2')/\w.cell? (w2.heap.size,3)=some (.slice iL Y2.length d2)/\w.cell? (w2.heap.size,4)=some (.bool iM)/\w.cell? ⟨b,off+j*5+4,none⟩=some (.int .u64 (dj.toNat:Int))) wc.drew:=⟨e0,e1,e2,e3,e4,e5⟩;refine NU (S:=λ w:World=>w.cell? w2.heap.size=some (.pointer P)/\w.cell? (w2.heap.size,1)=some (.pointer Q2)/\w.cell? (w2.heap.size,2)=some (.slice dN X2.length c2')/\w.cell? (w2.heap.size,3)=some (.slice iL Y2.length d2)/\w.cell? (w2.heap.size,4)=some (.bool iM)/\w.cell? ⟨b,off+j*5+4,none⟩=some (.int .u64 (dj.toNat:Int))) (late:=λ j=>decide (j=11)) _ _ _ _ ?_;refine QC (i:=3) (v:=?Km) rfl (by kernel_rfl) (by kernel_rfl) (by kernel_rfl) (by kernel_rfl) (λ _ _ _ h=>h) hS0 (by rfl) ?Re ?Rf
  case Re=>(intro w hSw;(try dsimp only at hSw);go_simp;try with_reducible rfl)
  try simp only[Act.put,List.getElem_toArray,List.getElem_cons_zero,List.getElem_cons_succ,zS,z0,z1]
  refine QC (i:=10) (v:=?aae) rfl (by kernel_rfl) (by kernel_rfl) (by kernel_rfl) (by kernel_rfl) (λ _ _ _ h=>h) hS0 (by rfl) ?zR ?CR
  case zR=>(intro w hSw;(try dsimp only at hSw);go_simp;try with_reducible rfl)
  try simp only[Act.put,List.getElem_toArray,List.getElem_cons_zero,List.getElem_cons_succ,zS,z0,z1]
  clear hS0;refine zL 11 λ K hK=>?_;go_simp
  go_at_call 12
  refine HS.out.mono ?_;rintro e w5 ⟨rfl,t5,k5⟩
  have HE:Hid (∃k',aI w5 w2 (dV P Q2 dN X2.length c2' iL Y2.length d2 iM)/\jg (λ b=>b<W.heap.size\/b=w2.heap.size) w5 P D Q2 T2 dN c2' X2 iL d2 Y2 A2 k'/\k'<=KX x2+92000/\RX 600 (j+1) x2 A2 X2 Y2 iM/\Kept (λ b=>b<W.heap.size) W w5):=by
   obtain⟨xF1,IL,Kl,CQ,yR,fD⟩:=HF.out;obtain⟨x5,r5,Rh⟩:=xZ.shown xF1 IL Kl t5 k5;exact zH ⟨_,x5,r5,by omega,yR,Rh⟩
  have Xg:Hid ((λ w:World=>w.cell? w2.heap.size=some (.pointer P)/\w.cell? (w2.heap.size,1)=some (.pointer Q2)/\w.cell? (w2.heap.size,2)=some (.slice dN X2.length c2')/\w.cell? (w2.heap.size,3)=some (.slice iL Y2.length d2)/\w.cell? (w2.heap.size,4)=some (.bool iM)/\w.cell? (b,off+j*5+4)=some (.int .u64 (dj.toNat:Int))) w5):=by
   obtain⟨k',x5,r5,g1,g2,g3⟩:=HE.out;exact zH ⟨x5.cell 0 _ rfl,x5.cell 1 _ rfl,x5.cell 2 _ rfl,x5.cell 3 _ rfl,x5.cell 4 _ rfl,HC.out _ g3 _ _ HA.out⟩
  clear HF HS t5 k5 e0 e1 e2 e3 e4 e5 u0 u1 u2 u3 u4 u5 HA HC;refine zK hK ?_
  try simp only[Act.put,List.getElem_toArray,List.getElem_cons_zero,List.getElem_cons_succ,zS,z0,z1]
  refine zM 12 ?_ (λ _=>Xg.out)
  try simp only[Act.put,List.getElem_toArray,List.getElem_cons_zero,List.getElem_cons_succ,zS,z0,z1]
  refine zM 13 ?_ (λ _=>Xg.out)
  try simp only[Act.put,List.getElem_toArray,List.getElem_cons_zero,List.getElem_cons_succ,zS,z0,z1]
  refine iR (by kernel_rfl) ?_ _;go_wp2;go_roundw
  case rel=>
   obtain⟨k',x5,r5,g1,g2,g3⟩:=HE.out;exact⟨j+1,x2,by go_num,by omega,Q2,T2,dN,c2',X2,iL,d2,Y2,iM,A2,k',x5,r5,g1,g2,g3,hrb⟩
  case measure=>simp[intOf];omega
 have CJ:¬(j:Int)<(len:Int)\/((j:Int)<(len:Int)/\¬(j:Int)<15):=by omega
 obtain⟨p,hsi⟩:=hq.si;have fD:=hq.few;have hgd:=hsi.good.1
 have hE:op=false->600-(A.ay:Int)<=6+(X.length:Int)/5:=λ e=>by
  obtain⟨_,A0,h0⟩:=hq
  have hs:A.op=none:=by
   rcases Decidable.em (A.op=none)with h|h
   ·exact h
   have:=h0.shut.2 h;rw[e]at this
   cases this
  have h1:=hsi.count hs h0.now.ax;have h2:=hsi.pages.1;omega
 have hpm:=λ m=>hr.sq.pz.next (W':=wr.drewN m) (UK.aG (aP _ _) m);have gD:=λ m=>WX (hpm m);have gR:=λ m=>xxz (hpm m) hgd;have u2:∀m,(wr.drewN m).cell? (w2.heap.size,2)=some (.slice cZ X.length c):=λ m=>hx.cell 2 _ rfl;have u4:∀m,(wr.drewN m).cell? (w2.heap.size,4)=some (.bool op):=λ m=>hx.cell 4 _ rfl;have HX:=zH (λ m=>hkp.trans (Kept.of_below (UK.aG (aP wr wr) m) (λ j hj=>bS hj hkp.size)));have HE:=zH hE
 have hrl:(A.ay:Int)<=60000:=by
  have:=hgd.ax;have:=hgd.few;have h4:=IM A.free (List.range' 1 (A.aj-1)) hgd.eY (λ x hx=>by rw[List.mem_range'_1];have:=hgd.free x hx;omega);rw[List.length_range']at h4;unfold AP.ay;omega
 have hr0:(0:Int)<=(A.ay:Int):=by omega
 generalize (A.ay:Int)=rr at gR HE hrl hr0;have Ri:IntKind.i64.wrap (600-rr)=600-rr:=by rw[bN];omega
 clear hx hr hk hq hkp hpm hE hsi hgd hgo
 cases op with
 | true=>
  rcases CJ with i1|⟨i1,i2⟩
  all_goals
   go_wp2_with fail
   go_quiet (fail)
   go_wp2;go_ret
   exact⟨by simp,HX.out _⟩
 | false=>
  rcases CJ with i1|⟨i1,i2⟩
  all_goals
   go_wp2_with fail
   go_quiet (first|(go_at_call 13;with_reducible exact Calls.quiet_of_same (gD _))|(go_at_call 14;with_reducible exact Calls.quiet_of (gR _)))
   go_wp2;go_ret
   refine⟨?_,HX.out _⟩;have h1:=HE.out (by trivial);simp;omega
theorem ya5(n:Int)(hn:n<1\/6<n)(v u t:Value)(W:World)(ht:jG W) :
  Calls Tryz.prog 4 #[.int .i64 n,v,u,t] W λ e w'=>e= .returned (.bool true)/\Kept (λ j=>j<W.heap.size) W w':=by
 have HA:=zH (NZ W ht (λ j=>j<W.heap.size) (λ _ h=>h))
 go_enter Tryz.func4,Tryz.ntmps4
 have hc:n<1\/(¬n<1/\6<n):=by omega
 rcases hc with h1|⟨h1,h2⟩
 all_goals
  go_wp2_with fail
  refine HA.out.mono ?_;rintro e w' ⟨rfl,hb⟩;go_wp2;go_ret;exact⟨rfl,hb⟩
theorem sp_walk(W:World)(ht:jG W){H:Type}{enc:TypeId×Value->H}{base:Nat}{d:DataW H}{p:List MemPlace}(n:Int)(_hn:(Lit.int .i64 n).wf=true)(v:Value)(hok:Value.okWide Tryz.prog W .any base 22 v)(h:DataW.Trod enc Tryz.prog W 0 (λ _=>true) true 22 v d p)(φ:Int)(hφ:(Lit.int .i64 φ).wf=true)(ν:Int)(uz:(Lit.int .i64 ν).wf=true) :
  Calls Tryz.prog 4 #[.int .i64 n,v,.int .i64 φ,.int .i64 ν] W λ e w'=>e= .returned (.bool true)/\Below W W w':=by
 by_cases hn:n<1\/6<n
 ·exact(ya5 n hn v _ _ W ht).mono λ e w' ⟨a,k⟩=>⟨a,k.os,k.tape,k.output,k.size,k.block⟩
 obtain⟨m,rfl⟩:∃m:Nat,n=(m:Int):=⟨n.toNat,by omega⟩;have h1:=(A9.sw hφ).2;have h2:=(A9.sw uz).2;rcases A9.nZ W v hok h with⟨ao,cap,rfl⟩|⟨b,off,len,cap,kd,ii,nn,tt,id,rfl,ha,hb,_⟩
 ·exact(Xc m (by omega) φ ν h1 h2 ao 0 cap W ht (zH (.inl rfl))).mono λ e w' ⟨x,k⟩=>⟨x,k.os,k.tape,k.output,k.size,k.block⟩
 exact(Xc m (by omega) φ ν h1 h2 (b,off) len cap W ht (zH (.inr ⟨b,off,kd,ii,nn,tt,id,rfl,ha,hb⟩))).mono λ e w' ⟨x,k⟩=>⟨x,k.os,k.tape,k.output,k.size,k.block⟩
end Go.Proofs.YtlipgbnnbefhjaaGreatDoor
