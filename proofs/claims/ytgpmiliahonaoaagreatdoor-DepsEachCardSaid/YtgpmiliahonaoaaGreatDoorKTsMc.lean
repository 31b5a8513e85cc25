/- Facts on texts and trees on pages. -/
import Derived.Test.YtgpmiliahonaoaaGreatDoorKTsKc
set_option maxRecDepth 100000
set_option maxHeartbeats 8000000
set_option linter.unusedSimpArgs false
namespace Go.Proofs.YtgpmiliahonaoaaGreatDoor
open Go.RowKit
open UK (str aF nth Only Row ay)
section
variable{E:Nat->Prop}{W W':World}{P D T rt k pg N nb kc vc ac:Nat}{A:AP}{ka va aa:Option Addr}
theorem xyl{c:Nat}{x:Nd}(h:PZ E W P D A k)(hk:k+6<900000000)(hb:ay W T #[.pointer P,.int .i64 rt])(hT:E T)(hc:A.Has c)(hx:aB A c=some x)(hp:A.Has pg) :
  Calls Tryz.prog 218 #[.pointer T,.int .i64 pg,.int .i64 c] W λ e w'=>e= .returned (.int .i64 0)/\PZ E w' P D ((A.ak pg (aS (A.c pg) x)).give c) (k+6)/\Kept E W w':=by
 have HL:=zH (Az h (by omega) hb hc hx);have HX:=zH (zA hb (zA hT (zA hc (zA (lJ hx) hp))));clear h hb hT hc hx hp
 go_enter Tryz.func218,Tryz.ntmps218
 go_wp2_with fail
 refine HL.out.mono ?_;rintro e w1 ⟨N,M,nb,ka,va,aa,kc,vc,ac,rfl,hN,hM,bi,p1,k1⟩;obtain⟨hb,hT,hc,hf,hp⟩:=HX.out;have hr:jD (λ j=>E j\/(N<=j/\j<M)) w1 nb x:=bi.wins.reads (λ g hg=>.inr ⟨hg.1,hg.2.1⟩) (.inr ⟨bi.1.ge,bi.2.1⟩);have HS:=zH (cB p1 (by omega) (hb.ae (k1.block T hT)) hp hr hf);have HK:=zH k1;clear HL hN hM bi p1 k1 hb hT hc hf hp hr
 go_wp2_with fail
 refine HS.out.mono ?_;rintro e w2 ⟨rfl,p2,k2⟩;obtain⟨hb,hT,hc,hf,hp⟩:=HX.out;have k12:=HK.out.trans (k2.mono (λ _ hj=>.inl hj));have c0:=(hb.ae (k12.block T hT)).c0;have HG:=zH (JI (p2.less (T:=E) (λ _ hj=>.inl hj)) (by omega) c (AP.aA.2 hc));have BG:=zH k12;clear HS HK p2 k2 k12 hb hT hc hf hp HX
 go_wp2_with fail
 refine HG.out.mono ?_;rintro e w3 ⟨rfl,p3,k3⟩;have HF:=zH (zA p3 (BG.out.trans k3));clear HG p3 k3 BG;go_wp2;go_ret;exact⟨rfl,HF.out⟩
def Ed(E:Nat->Prop)(W w':World)(P D T rt:Nat)(A:AP)(K pg d:Nat)(key:UInt64)(e:Ending):Prop:=
 ∃(B:AP) (was gJ:Bool) (kk:Nat),e= .returned (.tuple #[.bool was,.bool gJ,.int .i64 0])/\dZ key d A pg B was gJ/\bJ E w' P D T rt B kk/\kk<=K/\Kept E W w'
theorem jD.uM{S:Nat->Prop}{w:World}{x:Nd}(h:jD S w nb x):∃ao c,w.cell? (nb,3)=some (.slice ao x.ax.length c)/\x.ax.length<=c/\∀j q:Nat,x.ax[j]?=some q->∃g o,ao=some ⟨g,o,none⟩/\w.cell? ⟨g,o+j,none⟩=some (.int .i64 (q:Int)):=by
 obtain⟨kv,vv,av,b,_,_,_,⟨ao,c,rfl,hc,hv⟩⟩:=h;rw[gQ]at b hc;refine⟨ao,c,b.cell 3 _ rfl,hc,λ j q hj=>?_⟩;obtain⟨g,o,e,_,hcell⟩:=hv j _ (KM _ _ _ hj);exact⟨g,o,e,hcell⟩
section
variable{w3 w4:World}{M d K0 i c kk m ca cb:Nat}{B:AP}{ag:List UInt64}{ax:List Nat}{key κ:UInt64}{was:Bool}{xa xb:Nd}{R:Nat->Prop}
theorem xvu{C:AP}{x:Nd}(h:bJ E W P D T rt A k)(hk:k+K0+60<900000000)(hN:W.heap.size<=N)(hR:∀j,R j->N<=j/\j<M)(kE:Kept E W w3)(hkk:kk<=k+2+K0)
  (hM:Ik (λ j=>E j\/N<=j/\j<M) w3 w4 P D T rt nb R C (kk+20) x) (uN:C.Has pg) (hx:Fits x) (hD:dZ key (d+1) A pg (C.ak pg (aS (C.c pg) x)) was (Ck x)) :
  Calls Tryz.prog 216 #[.pointer nb] w4 (λ e w'=>e= .returned (.bool (Ck x))/\w'=w4) /\
  Calls Tryz.prog 150 #[.pointer T,.int .i64 pg,.pointer nb] w4 (λ e w'=>e= .returned (.int .i64 0)/\Ed E W w' P D T rt A (k+K0+60) pg (d+1) key (.returned (.tuple #[.bool was,.bool (Ck x),.int .i64 0]))):=by
 obtain⟨L,H,k4,hL,p4,hk4,hr,hb,kM⟩:=hM;refine⟨xx1 hr,(cB p4 (by omega) hb uN hr hx).mono ?_⟩;rintro e w5 ⟨rfl,p5,k5⟩;have hE:∀j,E j->(λ j=>(E j\/N<=j/\j<M)/\¬R j) j:=λ j hj=>⟨.inl hj,λ hr=>by have:=(hR j hr).1;have:=h.pz.there j hj;omega⟩;exact⟨rfl,_,was,_,k4+3,rfl,hD,⟨p5.less (λ _ hj=>.inl (.inl hj)),hb.ae (k5.block T (.inl (.inl h.mem))),h.mem⟩,by omega,(kE.trans (kM.mono hE)).trans (k5.mono (λ _ hj=>.inl (.inl hj)))⟩
theorem xvv{C:AP}{x y:Nd}(h:bJ E W P D T rt A k)(hk:k+K0+60<900000000)(hN:W.heap.size<=N)(hR:∀j,R j->N<=j/\j<M)(kE:Kept E W w3)(hkk:kk<=k+2+K0)
  (hM:Ik (λ j=>E j\/N<=j/\j<M) w3 w4 P D T rt nb R C (kk+20) x) (uN:C.Has pg) (hcC:C.Has ca) (hy:aB C ca=some y) (hD:dZ key (d+1) A pg ((C.ak pg (aS (C.c pg) y)).give ca) was true) :
  Calls Tryz.prog 218 #[.pointer T,.int .i64 pg,.int .i64 ca] w4 (λ e w'=>e= .returned (.int .i64 0)/\Ed E W w' P D T rt A (k+K0+60) pg (d+1) key (.returned (.tuple #[.bool was,.bool true,.int .i64 0]))):=by
 obtain⟨L,H,k4,hL,p4,hk4,hr,hb,kM⟩:=hM;refine(xyl p4 (by omega) hb (.inl (.inl h.mem)) hcC hy uN).mono ?_;rintro e w5 ⟨rfl,p5,k5⟩;have hE:∀j,E j->(λ j=>(E j\/N<=j/\j<M)/\¬R j) j:=λ j hj=>⟨.inl hj,λ hr=>by have:=(hR j hr).1;have:=h.pz.there j hj;omega⟩;exact⟨rfl,_,was,_,k4+6,rfl,hD,⟨p5.less (λ _ hj=>.inl (.inl hj)),hb.ae (k5.block T (.inl (.inl h.mem))),h.mem⟩,by omega,(kE.trans (kM.mono hE)).trans (k5.mono (λ _ hj=>.inl (.inl hj)))⟩
theorem xvw{x' y':Nd}{dM:UInt64}{one:Bool}(hy:aB A pg=some ⟨false,ag,[],ax⟩)(hki:dN ag key i)(hc:ax[i]?=some c)(hps:dZ key d A c B was true)(hm:m=wQ ax.length i)(ok:pu B pg ag ax m ca cb κ xa xb)(hev:gN xa xb κ=(x',y',dM,one)) :
  (one=false->((B.ak ca (aS (B.c ca) x')).ak cb (aS ((B.ak ca (aS (B.c ca) x')).c cb) y')).Has pg/\Fits ⟨false,ag.set m dM,[],ax⟩ /\
   dZ key (d+1) A pg (((B.ak ca (aS (B.c ca) x')).ak cb (aS ((B.ak ca (aS (B.c ca) x')).c cb) y')).ak pg (aS (((B.ak ca (aS (B.c ca) x')).ak cb (aS ((B.ak ca (aS (B.c ca) x')).c cb) y')).c pg) ⟨false,ag.set m dM,[],ax⟩)) was (Ck ⟨false,ag.set m dM,[],ax⟩)) /\
  (one=true->((B.ak ca (aS (B.c ca) x')).give cb).Has pg /\
   (ax.length≠2->Fits ⟨false,ag.take m++ag.drop (m+1),[],ax.take (m+1)++ax.drop (m+2)⟩ /\
    dZ key (d+1) A pg (((B.ak ca (aS (B.c ca) x')).give cb).ak pg (aS (((B.ak ca (aS (B.c ca) x')).give cb).c pg) ⟨false,ag.take m++ag.drop (m+1),[],ax.take (m+1)++ax.drop (m+2)⟩)) was (Ck ⟨false,ag.take m++ag.drop (m+1),[],ax.take (m+1)++ax.drop (m+2)⟩)) /\
   (ax.length=2->((B.ak ca (aS (B.c ca) x')).give cb).Has ca/\aB ((B.ak ca (aS (B.c ca) x')).give cb) ca=some x'/\ax.take (m+1)++ax.drop (m+2)=[ca] /\
    dZ key (d+1) A pg ((((B.ak ca (aS (B.c ca) x')).give cb).ak pg (aS (((B.ak ca (aS (B.c ca) x')).give cb).c pg) x')).give ca) was true)):=by
 have hf0:=(lJ hy).inner rfl;dsimp only at hf0;obtain⟨z1,z2,z3,_,z5⟩:=hf0;have hm1:=(dE.1 ok.k).1;have f1:=ok.f1;rw[hev]at f1;have hB1:∀q,(B.ak ca (aS (B.c ca) x')).Has q↔B.Has q:=λ q=>AP.aA;have hgv:=((ok.good.ak ca (aS (B.c ca) x')).give ((hB1 cb).2 ok.hb)).2.1;refine⟨λ h1=>?_,λ h1=>⟨(hgv pg).2 ⟨(hB1 pg).2 ok.hp,ok.pb⟩,λ h2=>?_,λ h2=>?_⟩⟩
 ·subst h1;refine⟨AP.aA.2 ((hB1 pg).2 ok.hp),⟨(λ h=>by cases h),λ _=>⟨by rw[aQ];exact z1,z2,z3,rfl,z5⟩⟩,?_⟩;exact .even hy hki hc hps hm ok.ka ok.kb ok.k ok.na ok.nb hev rfl
 ·subst h1;have e1:(ax.take (m+1)++ax.drop (m+2)).length=ax.length-1:=by rw[zl,zt,zd];omega
  have e2:(ag.take m++ag.drop (m+1)).length=ag.length-1:=by rw[zl,zt,zd];omega
  refine⟨⟨(λ h=>by cases h),λ _=>⟨by dsimp only;omega,by dsimp only;omega,by dsimp only;omega,rfl,λ q hq=>?_⟩⟩,?_⟩
  ·rcases dD.1 hq with h|h
   ·exact z5 q (iM h)
   exact z5 q (jf h)
  have:=dZ.join hy hki hc hps hm ok.ka ok.kb ok.k ok.na ok.nb hev rfl h2;rw[<-e1]at this;exact this
 subst h1;have hm0:m=0:=by omega
 subst hm0;refine⟨(hgv ca).2 ⟨(hB1 ca).2 ok.ha,ok.ne⟩,?_,?_,dZ.lift hy hki hc hps hm ok.ka ok.kb ok.k ok.na ok.nb hev rfl h2⟩
 ·rw[Og,AJ (ok.dR _ ok.ha) f1,if_pos rfl]
 have:=ok.ka
 match ax,h2,this with
 | [p,q],_,h=>simpa using h
end
end
section
variable{E:Nat->Prop}{W W':World}{P D T k pg:Nat}{A:AP}
theorem xr1{rt:Nat}{ks vs:List UInt64}(h:bJ E W P D T rt A k)(hk:k+5<900000000)(hp:A.Has pg)(hy:aB A pg=some ⟨true,ks,vs,[]⟩)(hs:jK ks)(hl:ks.length<=30)(key:UInt64)(hin:key∈ks)(deep:Nat)(hd:deep<=20) :
  Calls Tryz.prog 166 #[.pointer T,.int .i64 pg,.int .u64 key.toNat,.int .i64 deep] W λ e w'=>Ed E W w' P D T rt A (k+5) pg 0 key e:=by
 have hL:=XJ hp hy hs;refine(xvo h hk hL hl key hin deep hd).mono ?_;rintro e w' ⟨i,rfl,hi,hst,ht,kp⟩;have hf:=hst.found hs hin;refine⟨_,true,_,k+5,rfl,.leaf hy hf,?_,aO _,kp⟩;have e1:aS (A.c pg) ⟨true,ks.take i++ks.drop (i+1),vs.take i++vs.drop (i+1),[]⟩=pM (A.c pg) (ks.take i++ks.drop (i+1)) (vs.take i++vs.drop (i+1)):=by unfold aS;rw[if_pos rfl]
 rw[e1];exact ht
theorem xvx{rt:Nat}{ks vs:List UInt64}(h:bJ E W P D T rt A k)(hk:k+5<900000000)(hp:A.Has pg)(hy:aB A pg=some ⟨true,ks,vs,[]⟩)(hs:jK ks)(hl:ks.length<=30)(key:UInt64)(hno:key∉ks)(deep:Nat)(hd:deep<=20) :
  Calls Tryz.prog 166 #[.pointer T,.int .i64 pg,.int .u64 key.toNat,.int .i64 deep] W λ e w'=>Ed E W w' P D T rt A (k+5) pg 0 key e:=by
 have HL:=zH (Az h.pz (by omega) h.box hp hy);have HH:=zH (zA h hy);have hdn:¬(20:Int)<(deep:Int):=by omega
 clear h hp hy
 go_enter Tryz.func166,Tryz.ntmps166
 go_wp2_with fail
 refine HL.out.mono ?_;rintro e w1 ⟨N,M,nb,ka,va,aa,kc,vc,ac,rfl,hN,hM,⟨bi,gG,dV⟩,p1,k1⟩;have b0:=bi.box.c0;have b1:=bi.box.c1;have hS:=Hq (bi.k.win (S:=λ _=>True) (λ _ _=>trivial)) hs (show ks.length<=1000 by omega) key;rw[dA,decide_eq_false hno]at hS;have HS:=zH hS;have H1:=zH (zA p1 k1);clear HL bi gG dV p1 k1 hS hN hM
 go_wp2_with fail
 refine HS.out.mono ?_;rintro e w2 ⟨i,rfl,hst,rfl⟩;clear hst HS;go_wp2
 go_ret3
 obtain⟨h,hy⟩:=HH.out;obtain⟨p1,k1⟩:=H1.out;exact⟨A,false,false,k+2,rfl,.none hy hno,⟨p1.less (λ _ hj=>.inl hj),h.box.ae (k1.block T h.mem),h.mem⟩,by omega,k1⟩
theorem xr2{rt d K0 i c:Nat}{ag:List UInt64}{ax:List Nat}(h:bJ E W P D T rt A k)(hk:k+K0+60<900000000)(hp:A.Has pg)(hy:aB A pg=some ⟨false,ag,[],ax⟩)(hs:jK ag)(hl:ag.length<=100)(hl1:1<=ag.length)(hlk:ax.length=ag.length+1)(key:UInt64)(deep:Nat)(hd:deep<=20)
  (hki:dN ag key i) (hc:ax[i]?=some c)
  (hrec:∀(E1:Nat->Prop) (w1:World),bJ E1 w1 P D T rt A (k+2)->Calls Tryz.prog 166 #[.pointer T,.int .i64 c,.int .u64 key.toNat,.int .i64 ((deep:Int)+1)] w1 λ e w'=>Ed E1 w1 w' P D T rt A (k+2+K0) c d key e)
  (hok:∀(B:AP) (was:Bool),dZ key d A c B was true->∃ca cb κ xa xb,pu B pg ag ax (wQ ax.length i) ca cb κ xa xb) :
  Calls Tryz.prog 166 #[.pointer T,.int .i64 pg,.int .u64 key.toNat,.int .i64 deep] W λ e w'=>Ed E W w' P D T rt A (k+K0+60) pg (d+1) key e:=by
 have HL:=zH (Az h.pz (by omega) h.box hp hy);have HH:=zH (zA h (zA hp (zA hy hlk)));have HO:=zH hok;have HR:=zH hrec;have hic:i<ax.length:=(dE.1 hc).1;have hii:(i:Int)<(ax.length:Int):=Int.ofNat_lt.2 hic;have hdw:IntKind.i64.wrap ((deep:Int)+1)=(deep:Int)+1:=by rw[dJ];omega
 have KT:wrap64 ((deep:Int)+1)=(deep:Int)+1:=by unfold wrap64;omega
 have hdn:¬(20:Int)<(deep:Int):=by omega
 clear h hp hy hlk hok hrec
 go_enter Tryz.func166,Tryz.ntmps166
 go_wp2_with fail
 refine HL.out.mono ?_;rintro e w1 ⟨N,M,nb,ka,va,aa,kc,vc,ac,rfl,hN,hM,⟨bi,gG,dV⟩,p1,k1⟩;obtain⟨h,hp,hy,hlk⟩:=HH.out;have hnr:jD (λ _=>True) w1 nb ⟨false,ag,[],ax⟩:=bi.wins.1.reads (λ _ _=>trivial) trivial;have HK:=zH (R7 hnr hs (show ag.length<=1000 by omega) key);have b0:=bi.box.c0;have b3:=bi.box.c3
 obtain⟨ga,rfl,ra⟩:∃ga,aa=some ⟨ga,0,none⟩/\Row w1 ga ac (ints ax):=by
  rcases bi.a with⟨_,h2,_⟩|⟨g,h1,h2⟩
  ·have:=congrArg List.length h2;rw[gQ]at this;exact absurd this (by show ax.length≠0;omega)
  exact⟨g,h1,h2⟩
 have hcc:w1.cell? (ga,i)=some (.int .i64 (c:Int)):=ra.at' i _ (by unfold ints;rw[dL,hc];rfl);have H1:=zH (zA hN (zA hM (zA bi (zA gG (zA dV (zA p1 k1))))));have HT:=zH (HR.out _ w1 ⟨p1,h.box.ae (k1.block T h.mem),.inl h.mem⟩);clear HL bi gG dV p1 k1 hN hM h hp hy hlk hnr HR ra
 go_wp2_with fail
 refine HK.out.mono ?_;rintro e w2 ⟨i2,rfl,uF,rfl⟩;obtain rfl:i=i2:=(uF.inj hki).symm
 go_wp2_with fail
 refine HT.out.mono ?_;rintro e w3 ⟨B,was,gJ,kk,rfl,hps,ht3,hkk,k3⟩;obtain⟨hN,hM,bi,gG,dV,p1,k1⟩:=H1.out;obtain⟨h,hp,hy,hlk⟩:=HH.out;have kE:Kept E W w3:=k1.trans (k3.mono (λ _ hj=>.inl hj))
 cases gJ with
 | false=>
  have hG:Ed E W w3 P D T rt A (k+K0+60) pg (d+1) key (.returned (.tuple #[.bool was,.bool false,.int .i64 0])):=
   ⟨B,was,false,kk,rfl,.Lf hy hki hc hps,⟨ht3.pz.less (λ _ hj=>.inl hj),ht3.box,h.mem⟩,by omega,kE⟩
  have HG:=zH hG;clear H1 HH HO hN hM bi gG dV p1 k1 h hp hy hlk kE hG ht3 k3 hps hkk HT HK hki uF hs hl hl1 hc hcc b0 b3 hic hii;go_wp2
  go_ret3
  exact HG.out
 | true=>
  obtain⟨ca,cb,κ,xa,xb,ok⟩:=HO.out B was hps;have nY:aU N w3 nb ⟨false,ag,[],ax⟩ ka va ga kc vc ac:=bi.move gG dV k3.size (λ g h1 h2=>k3.block g (.inr ⟨h1,h2⟩))
  have hR:∀j,qj ka va ga nb j->N<=j/\j<M:=λ j hj=>by
   rcases hj with hj|hj|hj|rfl
   ·exact⟨(bi.new j (.inl hj)).1,dV j (.inl hj)⟩
   ·exact⟨(bi.new j (.inr (.inl hj))).1,dV j (.inr (.inl hj))⟩
   ·exact⟨(bi.new j (.inr (.inr hj))).1,dV j (.inr (.inr hj))⟩
   exact⟨bi.ge,gG⟩
  have pK:∀j,E j->j<N:=λ j hj=>bZ (h.pz.there j hj) hN;obtain⟨⟨x',y',dM,one⟩,hev⟩:∃x,gN xa xb κ=x:=⟨_,rfl⟩;obtain⟨m,hm⟩:∃m,m=wQ ax.length i:=⟨_,rfl⟩;rw[<-hm]at ok;have vL:=xyk (E:=λ j=>E j\/N<=j/\j<M) (k:=kk) (i:=i) (m:=m) ht3.pz (by omega) ht3.box (.inl h.mem) nY (λ g hg=>.inr (hR g hg)) (λ hT=>by have:=(hR _ hT).1;have:=pK T h.mem;omega) (λ hT=>by have:=(hR _ hT).1;have:=h.pz.tab.lt;omega) ok rfl hlk hl1 hl (by omega) (by rw[<-hlk];exact hm);rw[hev]at vL;dsimp only at vL;have oH:=xvw (d:=d) (was:=was) hy hki hc hps hm ok hev;have Ol:=zH vL;have hlf:Fits x':=by have:=ok.f1;rw[hev]at this;exact this
  have tq:=zH (λ (w4:World) (C:AP) (x:Nd) hM uN hx hD=>xvu (nb:=nb) (pg:=pg) (w3:=w3) (w4:=w4) (N:=N) (M:=M) (d:=d) (K0:=K0) (kk:=kk) (key:=key) (was:=was) (R:=qj ka va ga nb) (C:=C) (x:=x) h hk hN hR kE hkk hM uN hx hD);have vM:=zH (λ (w4:World) (C:AP) (x y:Nd) hM uN hcC hy hD=>xvv (nb:=nb) (pg:=pg) (w3:=w3) (w4:=w4) (N:=N) (M:=M) (d:=d) (K0:=K0) (kk:=kk) (key:=key) (was:=was) (R:=qj ka va ga nb) (C:=C) (x:=x) (y:=y) (ca:=ca) h hk hN hR kE hkk hM uN hcC hy hD);have HW:=zH oH;have YF:2<=ax.length:=by omega
  have hmk:m+1<ax.length:=by have:=(dE.1 ok.kb).1;exact this
  have Il:=zH (zA YF hmk);clear H1 HH HO hN hM bi gG dV p1 k1 h hp hy hlk kE ht3 k3 hps hkk HT HK hki uF hs hl hl1 hc hcc b0 b3 hic hii vL oH nY hR pK hev ok hm hlf hk YF hmk hdw KT hdn hd
  go_wp2_with fail
  refine Ol.out.mono ?_;rintro e w4 ⟨rfl,hfl,htr⟩
  cases one with
  | false=>
   have hM:=hfl rfl;obtain⟨uN,hx,hD⟩:=HW.out.1 rfl;obtain⟨hP,hS⟩:=tq.out w4 _ _ hM uN hx hD;obtain⟨L,H,k4,_,_,_,hr,_,_⟩:=hM;obtain⟨ao,cp,ck,_,_⟩:=hr.uM;dsimp only at ck;have hk1:((ax.length:Int)==1)=false:=beq_eq_false_iff_ne.2 (by have:=Il.out.1;omega);have HP:=zH hP;have HS:=zH hS;clear hP hS uN hx hD hfl htr hr tq vM HW Ol Il
   go_wp2_with fail
   refine HP.out.mono ?_;rintro e w5 ⟨rfl,rfl⟩
   go_wp2_with fail
   refine HS.out.mono ?_;rintro e w6 ⟨rfl,hG⟩;have HG:=zH hG;clear hG HS HP ck hk1;go_wp2
   go_ret3
   exact HG.out
  | true=>
   have hM:=htr rfl;obtain⟨uN,hne,heq⟩:=HW.out.2 rfl;by_cases h2:ax.length=2
   ·obtain⟨hcC,YG,hka,hD⟩:=heq h2;have Ab:=vM.out w4 _ _ _ hM uN hcC YG hD;obtain⟨L,H,k4,_,_,_,hr,_,_⟩:=hM;rw[hka]at hr;obtain⟨ao,cp,ck,_,hat⟩:=hr.uM;obtain⟨g,o,rfl,c0⟩:=hat 0 ca rfl;rw[jN]at c0;replace ck:w4.cell? (nb,3)=some (.slice (g,o) 1 cp):=ck;have YH:=zH Ab;clear Ab hcC YG hka hD uN hne heq hfl htr hr hat tq vM HW Ol Il h2
    go_wp2_with fail
    refine YH.out.mono ?_;rintro e w6 ⟨rfl,hG⟩;have HG:=zH hG;clear hG YH ck c0;go_wp2
    go_ret3
    exact HG.out
   obtain⟨hx,hD⟩:=hne h2;obtain⟨hP,hS⟩:=tq.out w4 _ _ hM uN hx hD;obtain⟨L,H,k4,_,_,_,hr,_,_⟩:=hM;obtain⟨ao,cp,ck,_,_⟩:=hr.uM;dsimp only at ck;have hkl:(ax.take (m+1)++ax.drop (m+2)).length≠1:=by rw[zl,zt,zd];have:=Il.out.1;have:=Il.out.2;omega
   generalize (ax.take (m+1)++ax.drop (m+2)).length=kl at ck hkl;have hk1:((kl:Int)==1)=false:=beq_eq_false_iff_ne.2 (by omega);have HP:=zH hP;have HS:=zH hS;clear hP hS uN hx hD hfl htr hr tq vM HW Ol Il hne heq h2 hkl
   go_wp2_with fail
   refine HP.out.mono ?_;rintro e w5 ⟨rfl,rfl⟩
   go_wp2_with fail
   refine HS.out.mono ?_;rintro e w6 ⟨rfl,hG⟩;have HG:=zH hG;clear hG HS HP ck hk1;go_wp2
   go_ret3
   exact HG.out
end
end Go.Proofs.YtgpmiliahonaoaaGreatDoor
