/- Facts on rows of numbers on pages. -/
import Derived.Test.YtlipgbnnbefhjaaGreatDoorKSsCc
set_option maxRecDepth 100000
set_option maxHeartbeats 8000000
set_option linter.unusedSimpArgs false
namespace Go.Proofs.YtlipgbnnbefhjaaGreatDoor
open Go.RowKit
open UK (str aO nth Only Row aI)
def EU(A B:AP)(P ws l:List Nat)(q:Nat):Prop:=∀p∈P,p∉ws->B.c p=if p∈l then fM (A.c p) q else A.c p
section
variable{A B:AP}{P ws l:List Nat}{q e up:Nat}{t:SS}
theorem EU.stay(h:EU A B P ws l q){p:Nat}(hp:p∈P)(hw:p∉ws)(hl:p∉l):aU B p=aU A p:=by
 unfold aU;rw[h p hp hw,if_neg hl]
theorem eT.EW(k:eT (aU A) e up t)(h:EU A B P ws l q)(hP:∀p∈t.ps,p∈P/\p∉ws/\p∉l):eT (aU B) e up t:=k.same (λ p hp=>h.stay (hP p hp).1 (hP p hp).2.1 (hP p hp).2.2)
theorem eT.LA(k:eT (aU A) e up t)(h:EU A B P ws l q)(hP:∀p∈t.ps,p∈P/\p∉ws)(cK:t.pg∈l)(hl:∀p∈t.ps.tail,p∉l)(aJ:∀p∈P,504<=(A.c p).length)(hq:q<4294967296):eT (aU B) e q t:=by
 obtain⟨x,hx,hn,hf⟩:=id k;refine k.qo q ?_ (λ p hp=>h.stay (hP p (List.mem_of_mem_tail hp)).1 (hP p (List.mem_of_mem_tail hp)).2 (hl p hp));have hm:=hP _ hn.mem;unfold aU at hx ⊢;rw[h t.pg hm.1 hm.2,if_pos cK,XP _ _ (aJ _ hm.1) hq hx,hx];rfl
end
structure mI(A:AP)(rt aC:Nat)(m:List KV)(qs:List Nat)(C:List bV)(e dh:Nat)(X Y:List SS)(t1 t2:SS)(n1 n2:Sn)(S1 S2:List SS):Prop where
 rp:bZ A rt aC (dh::bI (X++t1::t2::Y)++aT C) m qs
 rv:df (dE C (cu (X++t1::t2::Y))) m
 kO:∀t∈X++Y,eT (aU A) e dh t
 a1:aU A t1.pg=some n1
 a2:aU A t2.pg=some n2
 b1:Body e dh n1 S1
 b2:Body e dh n2 S2
 p1:t1=aM t1.pg n1 S1
 p2:t2=aM t2.pg n2 S2
 k1:∀t∈S1,eT (aU A) (e-1) t1.pg t
 k2:∀t∈S2,eT (aU A) (e-1) t2.pg t
 cx:Ctx (aU A) C (e+1) dh
 root:EE dh C=rt
 sum:n1.ax<=n1.size+n2.size+1
theorem df.LB{C:List bV}{X Y:List LV}{m:List KV}{p q:Nat}{a b c:List UInt64}(h:df (dE C (X++(p,a)::(q,b++c)::Y)) m):df (dE C (X++(p,a++b)::(q,c)::Y)) (iW m b (UInt64.ofNat p)):=by
 have h1:df (dE C ((X++[(p,a)])++(q,b++c)::Y)) m:=by simpa using h
 have h2:=h1.split;have h3:=h2.move (q:=p);have h4:df (dE C (X++(p,a)::(p,b)::((q,c)::Y))) (iW m b (UInt64.ofNat p)):=by simpa using h3
 exact h4.merge
theorem df.LC{C:List bV}{X Y:List LV}{m:List KV}{p q:Nat}{a b c:List UInt64}(h:df (dE C (X++(p,a++b)::(q,c)::Y)) m):df (dE C (X++(p,a)::(q,b++c)::Y)) (iW m b (UInt64.ofNat q)):=by
 have h2:=h.split;have h1:df (dE C ((X++[(p,a)])++(p,b)::((q,c)::Y))) m:=by simpa using h2
 have h3:=h1.move (q:=q);have h4:=h3.merge
 simpa using h4
theorem df.Dn{C:List bV}{X Y:List LV}{m:List KV}{p q:Nat}{a b:List UInt64}(h:df (dE C (X++(p,a)::(q,b)::Y)) m):df (dE C (X++(p,a++b)::Y)) (iW m b (UInt64.ofNat p)):=by
 have h1:df (dE C ((X++[(p,a)])++(q,b)::Y)) m:=by simpa using h
 have h3:=h1.move (q:=p);have h4:df (dE C (X++(p,a)::(p,b)::Y)) (iW m b (UInt64.ofNat p)):=by simpa using h3
 exact h4.merge
section
variable{A B:AP}{rt aC e dh:Nat}{m m':List KV}{qs bK:List Nat}{C:List bV}{X Y S1 S2:List SS}{t1 t2:SS}{n1 n2:Sn}
theorem TU(X Y:List SS)(t1 t2:SS):cu (X++t1::t2::Y)=cu X++(t1.lv++(t2.lv++cu Y)):=by rw[BS,Cb,Cb]
theorem LD(X Y:List SS)(t1 t2:SS):bI (X++t1::t2::Y)=bI X++(t1.ps++(t2.ps++bI Y)):=by rw[vS,Ao,Ao]
structure EvP(P:List Nat)(dh:Nat)(C:List bV)(X Y S1 S2:List SS)(p1 p2:Nat):Prop where
 mP:dh∈P/\p1∈P/\p2∈P
 ne:p1≠p2/\dh≠p1/\dh≠p2
 o:∀t∈X++Y,∀p∈t.ps,p∈P/\p≠p1/\p≠p2/\p∉bI (S1++S2)
 c:∀p∈aT C,p∈P/\p≠p1/\p≠p2/\p∉bI (S1++S2)
 s:∀p∈bI (S1++S2),p∈P/\p≠p1/\p≠p2/\p≠dh
 nd:(bI (S1++S2)).Nodup
theorem mI.pages(z:mI A rt aC m qs C e dh X Y t1 t2 n1 n2 S1 S2):EvP (dh::bI (X++t1::t2::Y)++aT C) dh C X Y S1 S2 t1.pg t2.pg:=by
 have h1:t1.ps=t1.pg::bI S1:=congrArg SS.ps z.p1;have h2:t2.ps=t2.pg::bI S2:=congrArg SS.ps z.p2;have hn:=z.rp.rD;rw[LD,h1,h2]at hn;rw[LD,h1,h2]
 have hperm:(dh::(bI X++(t1.pg::bI S1++(t2.pg::bI S2++bI Y)))++aT C).Perm ([dh,t1.pg,t2.pg]++(bI (S1++S2)++(bI (X++Y)++aT C))):=by
  rw[vS,vS,List.perm_iff_count];intro a;simp only[List.count_append,List.count_cons,List.count_nil];omega
 have hn2:=hperm.nodup_iff.1 hn;obtain⟨d1,d2,d3⟩:=bF.1 hn2;obtain⟨d4,d5,d6⟩:=bF.1 d2;obtain⟨d7,d8,d9⟩:=bF.1 d5;have hmem:∀p,p∈dh::(bI X++(t1.pg::bI S1++(t2.pg::bI S2++bI Y)))++aT C↔p∈[dh,t1.pg,t2.pg]++(bI (S1++S2)++(bI (X++Y)++aT C)):=λ p=>hperm.mem_iff;have a0:dh∈[dh,t1.pg,t2.pg]:=by simp
 have a1:t1.pg∈[dh,t1.pg,t2.pg]:=by simp
 have a2:t2.pg∈[dh,t1.pg,t2.pg]:=by simp
 simp only[dL,aX,List.not_mem_nil,or_false,not_or]at d1;refine⟨⟨(hmem _).2 (bR _ a0),(hmem _).2 (bR _ a1),(hmem _).2 (bR _ a2)⟩,⟨d1.2.1,d1.1.1,d1.1.2⟩,λ t ht p hp=>?_,λ p hp=>?_,λ p hp=>?_,d4⟩
 ·have hq:p∈bI (X++Y)++aT C:=bR _ (kP.2 ⟨t,ht,hp⟩);exact⟨(hmem _).2 (fE _ (fE _ hq)),λ e=>d3 t1.pg a1 p (fE _ hq) e.symm,λ e=>d3 t2.pg a2 p (fE _ hq) e.symm,λ hs=>d6 p hs p hq rfl⟩
 ·have hq:p∈bI (X++Y)++aT C:=fE _ hp;exact⟨(hmem _).2 (fE _ (fE _ hq)),λ e=>d3 t1.pg a1 p (fE _ hq) e.symm,λ e=>d3 t2.pg a2 p (fE _ hq) e.symm,λ hs=>d6 p hs p hq rfl⟩
 exact⟨(hmem _).2 (fE _ (bR _ hp)),λ e=>d3 t1.pg a1 p (bR _ hp) e.symm,λ e=>d3 t2.pg a2 p (bR _ hp) e.symm,λ e=>d3 dh a0 p (bR _ hp) e.symm⟩
theorem mI.rest(z:mI A rt aC m qs C e dh X Y t1 t2 n1 n2 S1 S2){l ws:List Nat}{q:Nat}(hl:∀p∈l,p∈bI (S1++S2))(hws:∀p∈ws,p=t1.pg\/p=t2.pg)(hw:EU A B (dh::bI (X++t1::t2::Y)++aT C) ws l q):(∀t∈X++Y,eT (aU B) e dh t)/\Ctx (aU B) C (e+1) dh:=by
 have hp:=z.pages;refine⟨λ t ht=>(z.kO t ht).EW hw (λ p gM=>?_),z.cx.same _ _ _ (λ p gM=>?_)⟩
 ·obtain⟨a,b,c,d⟩:=hp.o t ht p gM;exact⟨a,λ h=>(hws p h).elim b c,λ h=>d (hl p h)⟩
 obtain⟨a,b,c,d⟩:=hp.c p gM;exact hw.stay a (λ h=>(hws p h).elim b c) (λ h=>d (hl p h))
theorem mI.ah(z:mI A rt aC m qs C e dh X Y t1 t2 n1 n2 S1 S2){M:List SS}{ws:List Nat}{q:Nat}(hM:∀t∈M,t∈S1++S2)(hws:∀p∈ws,p=t1.pg\/p=t2.pg)(hq:q<4294967296)(hw:EU A B (dh::bI (X++t1::t2::Y)++aT C) ws (bJ M) q) :
  (∀t∈M,eT (aU B) (e-1) q t)/\∀(u:Nat) (t:SS),t∈S1++S2->(∀p∈t.ps,p∉bJ M)->eT (aU A) (e-1) u t->eT (aU B) (e-1) u t:=by
 have hp:=z.pages
 have hkk:∀t∈S1++S2,∃u,eT (aU A) (e-1) u t:=λ t ht=>by
  rcases cB.1 ht with h|h
  ·exact⟨_,z.k1 t h⟩
  exact⟨_,z.k2 t h⟩
 have hps:∀t∈S1++S2,∀p∈t.ps,p∈dh::bI (X++t1::t2::Y)++aT C/\p∉ws:=λ t ht p gM=>by
  obtain⟨a,b,c,_⟩:=hp.s p (kP.2 ⟨t,ht,gM⟩);exact⟨a,λ h=>(hws p h).elim b c⟩
 have hpt:∀t∈S1++S2,t.ps=t.pg::t.ps.tail:=λ t ht=>by
  obtain⟨u,x,_,hx,_⟩:=hkk t ht;exact hx.ps
 have hnd:=Lp hpt hp.nd;refine⟨λ t ht=>?_,λ u t ht hn hk=>hk.EW hw (λ p gM=>⟨(hps t ht p gM).1,(hps t ht p gM).2,hn p gM⟩)⟩;obtain⟨u,hk⟩:=hkk t (hM t ht);refine hk.LA hw (hps t (hM t ht)) (gT.2 ⟨t,ht,rfl⟩) (λ p gM hm=>?_) (λ p gM=>Nat.le_of_eq (z.rp.len p (z.rp.dO gM)).symm) hq;obtain⟨v,hv,rfl⟩:=tZ hm;exact hnd.2 t (hM t ht) v.pg gM (gT.2 ⟨v,hM v hv,rfl⟩)
theorem mI.final{ae:List SS}{B:AP}{m':List KV}{bK:List Nat}(hk:∀t∈ae,eT (aU B) e dh t)(hr:bZ B rt aC (dh::bI ae++aT C) m' bK)(hv:df (dE C (cu ae)) m')(hc:Ctx (aU B) C (e+1) dh)(hrt:EE dh C=rt):ZI B rt aC m' bK C (e+1) (jC dh ae) (bO (aL C) ae):=
 ⟨hr,hv,O9 hk,hc,hrt⟩
theorem xuk{S1 S2 a b:List SS}{f:Nat->Option Sn}{e:Nat}(hS:S1++S2=a++b\/S1++S2=b++a)(hk:∀t∈S1++S2,∃u,eT f e u t)(hn:(bI (S1++S2)).Nodup):∀t∈a,∀p∈t.ps,p∉bJ b:=λ t ht p hp hm=>by
 obtain⟨v,hv,rfl⟩:=tZ hm
 have hvm:v∈S1++S2:=by
  rcases hS with h|h<;>rw[h]<;>simp[hv]
 obtain⟨u,x,_,hx,_⟩:=hk v hvm;have h1:v.pg∈bI b:=kP.2 ⟨v,hv,hx.mem⟩;have h2:v.pg∈bI a:=kP.2 ⟨t,ht,hp⟩;rcases hS with h|h
 ·rw[h,vS]at hn;exact(bF.1 hn).2.2 _ h2 _ h1 rfl
 rw[h,vS]at hn;exact(bF.1 hn).2.2 _ h1 _ h2 rfl
end
def aQ(n1 n2:Sn):Sn:={n1 with aA:=n1.aA++n2.aA,ah:=n1.ah++n2.ah,au:=n1.au++n2.au}
section
variable{A B:AP}{rt aC e dh:Nat}{m m':List KV}{qs bK:List Nat}{C:List bV}{X Y S1 S2:List SS}{t1 t2:SS}{n1 n2:Sn}
theorem Body.cat{up:Nat}(h1:Body e up n1 S1)(h2:Body e up n2 S2):Body e up (aQ n1 n2) (S1++S2)/\(aQ n1 n2).size=n1.size+n2.size/\(aQ n1 n2).ax=n1.ax/\n2.ax=n1.ax/\n1.leaf=n2.leaf:=by
 rcases h1 with⟨rfl,rfl,a,rfl⟩|⟨h0,rfl⟩
 ·rcases h2 with⟨_,rfl,b,rfl⟩|⟨h0,_⟩
  ·exact⟨.inl ⟨rfl,rfl,a++b,rfl⟩,by simp[aQ,Sn.size],rfl,rfl,rfl⟩
  exact absurd h0 (jc _)
 rcases h2 with⟨rfl,_,_⟩|⟨_,rfl⟩
 ·exact absurd h0 (jc _)
 refine⟨.inr ⟨h0,?_⟩,by simp[aQ,Sn.size,bO],rfl,rfl,rfl⟩;simp[aQ,bO,bJ,dm]
theorem mI.qa(z:mI A rt aC m qs C e dh X Y t1 t2 n1 n2 S1 S2):t1.pg≠rt/\t2.pg≠rt:=by
 have hp:=z.pages;rw[<-z.root]
 cases C with
 | nil=>exact⟨λ e=>hp.ne.2.1 e.symm,λ e=>hp.ne.2.2 e.symm⟩
 | cons fr C=>
  have hm:=TE dh (fr::C) (by simp);obtain⟨_,b,c,_⟩:=hp.c _ hm;exact⟨λ e=>b e.symm,λ e=>c e.symm⟩
theorem mI.merge(z:mI A rt aC m qs C e dh X Y t1 t2 n1 n2 S1 S2)(hx:bA (aQ n1 n2))(jB:bZ B rt aC (dh::bI (X++t1::t2::Y)++aT C) (iW m n2.aA (UInt64.ofNat t1.pg)) bK)
  (hw:vG (A.az t1.pg (encS (A.c t1.pg) (aQ n1 n2))) B (dh::bI (X++t1::t2::Y)++aT C) (bJ S2) t1.pg) :
  ZI (B.give t2.pg) rt aC (iW m n2.aA (UInt64.ofNat t1.pg)) bK C (e+1) (jC dh (X++aM t1.pg (aQ n1 n2) (S1++S2)::Y)) (bO (aL C) (X++aM t1.pg (aQ n1 n2) (S1++S2)::Y))/\B.Reach (B.give t2.pg)/\B.ay<=(B.give t2.pg).ay/\bP (cu (X++aM t1.pg (aQ n1 n2) (S1++S2)::Y))=bP (cu (X++t1::t2::Y)):=by
 have hp:=z.pages;obtain⟨hb,hsz,hmo,oq,hlf⟩:=z.b1.cat z.b2
 have hkk:∀t∈S1++S2,∃u,eT (aU A) (e-1) u t:=λ t ht=>by
  rcases cB.1 ht with h|h
  ·exact⟨_,z.k1 t h⟩
  exact⟨_,z.k2 t h⟩
 have Jp:∀p∈bJ S2,p∈bI (S1++S2):=λ p gM=>by
  obtain⟨t,ht,rfl⟩:=tZ gM;obtain⟨x,_,hx2,_⟩:=z.k2 t ht;exact kP.2 ⟨t,fE _ ht,hx2.mem⟩
 have h1l:t1.pg∉bJ S2:=λ h=>(hp.s _ (Jp _ h)).2.1 rfl;have aJ:=z.rp.len _ (z.rp.dO hp.mP.2.1)
 have hW:EU A B (dh::bI (X++t1::t2::Y)++aT C) [t1.pg] (bJ S2) t1.pg:=λ p gM hpn=>by
  rw[hw p gM,AP.bG,if_neg (show ¬(t1.pg=p)from λ e=>hpn (by rw[e];simp))]
 have hat:aU B t1.pg=some (aQ n1 n2):=by
  unfold aU;rw[hw _ hp.mP.2.1,if_neg h1l,AP.bG,if_pos rfl,ED _ _ (by omega) hx]
 have hws:∀p∈[t1.pg],p=t1.pg\/p=t2.pg:=λ p h=>.inl (by simpa using h);obtain⟨hO,hC⟩:=z.rest Jp hws hW
 have TV:t1.pg<4294967296:=by
  have h1:=z.rp.dO hp.mP.2.1;have h2:=z.rp.good.ax;have h3:=z.rp.good.few;have h4:=h1.2.1;omega
 obtain⟨hK1,hK2⟩:=z.ah (M:=S2) (λ t ht=>fE _ ht) hws TV hW
 have dR:dD (aQ n1 n2):=by
  have hs:=z.sum;have:n1.ax=48\/n1.ax=40:=by unfold Sn.ax;split<;>simp
  unfold dD;omega
 have y9:eT (aU B) e dh (aM t1.pg (aQ n1 n2) (S1++S2)):=by
  refine⟨_,hat,hb.is (λ t ht=>?_),dR⟩;rcases cB.1 ht with h|h
  ·exact hK2 _ t ht (xuk (.inl rfl) hkk hp.nd t h) (z.k1 t h)
  exact hK1 t h
 have hG:∀q,(B.give t2.pg).c q=B.c q:=λ q=>congrFun (AP.mr t2.pg) q;have e1:t1.ps=t1.pg::bI S1:=congrArg SS.ps z.p1;have e2:t2.ps=t2.pg::bI S2:=congrArg SS.ps z.p2
 have hperm:(dh::bI (X++t1::t2::Y)++aT C).Perm (t2.pg::(dh::bI (X++aM t1.pg (aQ n1 n2) (S1++S2)::Y)++aT C)):=by
  rw[LD,vS,Ao,e1,e2];show(dh::(bI X++(t1.pg::bI S1++(t2.pg::bI S2++bI Y)))++aT C).Perm (t2.pg::(dh::(bI X++(t1.pg::bI (S1++S2)++bI Y))++aT C));rw[vS,List.perm_iff_count];intro a;simp only[List.count_append,List.count_cons];omega
 obtain⟨g1,g2,g3,g4⟩:=(jB.perm hperm).give z.qa.2
 have hlv:df (dE C (cu (X++aM t1.pg (aQ n1 n2) (S1++S2)::Y))) (iW m n2.aA (UInt64.ofNat t1.pg))/\bP (cu (X++aM t1.pg (aQ n1 n2) (S1++S2)::Y))=bP (cu (X++t1::t2::Y)):=by
  have hv:=z.rv;have q1:=congrArg SS.lv z.p1;have q2:=congrArg SS.lv z.p2;rw[TU]at hv ⊢;rw[BS,Cb];rcases z.b1 with⟨h0,rfl,a,rfl⟩|⟨h0,rfl⟩
  ·rcases z.b2 with⟨_,rfl,b,rfl⟩|⟨h0',_⟩
   ·have q1':t1.lv=[(t1.pg,a)]:=by rw[q1];simp[aM,cu]
    have q2':t2.lv=[(t2.pg,b)]:=by rw[q2];simp[aM,cu]
    have q3:(aM t1.pg (aQ ⟨true,dh,a,[],[]⟩ ⟨true,dh,b,[],[]⟩) ([]++[])).lv=[(t1.pg,a++b)]:=by simp[aM,aQ,cu]
    rw[q1',q2']at hv;rw[q1',q2',q3];exact⟨hv.Dn,by simp[bP]⟩
   omega
  rcases z.b2 with⟨h0',_,_⟩|⟨_,rfl⟩
  ·omega
  have q1':t1.lv=cu S1:=by rw[q1];simp[aM,bO]
  have q2':t2.lv=cu S2:=by rw[q2];simp[aM,bO]
  have q3:(aM t1.pg (aQ (bO dh S1) (bO dh S2)) (S1++S2)).lv=cu S1++cu S2:=by simp[aM,aQ,bO,BS]
  rw[q1',q2']at hv;rw[q1',q2',q3,dH];exact⟨hv,rfl⟩
 refine⟨mI.final (λ t ht=>?_) g1 hlv.1 (hC.same _ _ _ (λ p _=>yj (hG p))) z.root,g2,g3,hlv.2⟩
 have hkB:eT (aU B) e dh t:=by
  rcases cB.1 ht with h|h
  ·exact hO t (bR _ h)
  rcases aX.1 h with rfl|h
  ·exact y9
  exact hO t (fE _ h)
 exact hkB.same (λ p _=>yj (hG p))
theorem mI.balance{h:Nat}(z:mI A rt aC m qs C e dh X Y t1 t2 n1 n2 S1 S2){x1 x2:Sn}(hx1:x1=aS (aQ n1 n2) h)(hx2:x2=aV (aQ n1 n2) h)(hh:n1.ax/2<=h/\h+n1.ax/2<=n1.size+n2.size)(f1:bA x1)(f2:bA x2)
  {M:List SS} {yA:List UInt64} {q:Nat} (hq:q<4294967296)
  (hM:(q=t1.pg/\n1.size<=h/\M=S2.take (h-n1.size)/\yA=n2.aA.take (h-n1.size))\/(q=t2.pg/\h<=n1.size/\M=S1.drop h/\yA=n1.aA.drop h))
  (jB:bZ B rt aC (dh::bI (X++t1::t2::Y)++aT C) (iW m yA (UInt64.ofNat q)) bK)
  (hw:vG ((A.az t1.pg (encS (A.c t1.pg) x1)).az t2.pg (encS ((A.az t1.pg (encS (A.c t1.pg) x1)).c t2.pg) x2)) B (dh::bI (X++t1::t2::Y)++aT C) (bJ M) q) :
  ZI B rt aC (iW m yA (UInt64.ofNat q)) bK C (e+1) (jC dh (X++aM t1.pg x1 ((S1++S2).take h)::aM t2.pg x2 ((S1++S2).drop h)::Y)) (bO (aL C) (X++aM t1.pg x1 ((S1++S2).take h)::aM t2.pg x2 ((S1++S2).drop h)::Y))/\bP (cu (X++aM t1.pg x1 ((S1++S2).take h)::aM t2.pg x2 ((S1++S2).drop h)::Y))=bP (cu (X++t1::t2::Y)):=by
 have hp:=z.pages;obtain⟨hb,hsz,hmo,oq,hlf⟩:=z.b1.cat z.b2;obtain⟨OT,hlA,OU⟩:=hb.aS h;obtain⟨OV,hlB,OW⟩:=hb.aV h;rw[<-hx1]at OT hlA OU;rw[<-hx2]at OV hlB OW;obtain⟨_,sA,sB⟩:=hb.size;obtain⟨c1,c2,c3,c4⟩:=(aQ n1 n2).kX (λ hl=>(sA hl).2.2.2.1) (λ hl=>(sB hl).2.2.1) h;rw[<-hx1]at c1 c3;rw[<-hx2]at c2 c4
 have hkk:∀t∈S1++S2,∃u,eT (aU A) (e-1) u t:=λ t ht=>by
  rcases cB.1 ht with h|h
  ·exact⟨_,z.k1 t h⟩
  exact⟨_,z.k2 t h⟩
 have TW:∀t∈M,t∈S1++S2:=λ t ht=>by
  rcases hM with⟨_,_,rfl,_⟩|⟨_,_,rfl,_⟩
  ·exact fE _ (fI ht)
  exact bR _ (fA ht)
 have Jp:∀p∈bJ M,p∈bI (S1++S2):=λ p gM=>by
  obtain⟨t,ht,rfl⟩:=tZ gM;obtain⟨u,x,_,hx2,_⟩:=hkk t (TW t ht);exact kP.2 ⟨t,TW t ht,hx2.mem⟩
 have hlen1:=z.rp.len _ (z.rp.dO hp.mP.2.1);have A7:=z.rp.len _ (z.rp.dO hp.mP.2.2)
 have hW:EU A B (dh::bI (X++t1::t2::Y)++aT C) [t1.pg,t2.pg] (bJ M) q:=λ p gM hpn=>by
  rw[hw p gM,AP.bG,if_neg (show ¬(t2.pg=p)from λ e=>hpn (by rw[e];simp)),AP.bG,if_neg (show ¬(t1.pg=p)from λ e=>hpn (by rw[e];simp))]
 have TY:aU B t1.pg=some x1:=by
  unfold aU;rw[hw _ hp.mP.2.1,if_neg (λ h=>(hp.s _ (Jp _ h)).2.1 rfl),AP.bG,if_neg (λ e=>hp.ne.1 e.symm),AP.bG,if_pos rfl,ED _ _ (by omega) f1]
 have yw:aU B t2.pg=some x2:=by
  unfold aU;rw[hw _ hp.mP.2.2,if_neg (λ h=>(hp.s _ (Jp _ h)).2.2.1 rfl),AP.bG,if_pos rfl,ED _ _ (by rw[AP.bG,if_neg hp.ne.1];omega) f2]
 have hws:∀p∈[t1.pg,t2.pg],p=t1.pg\/p=t2.pg:=λ p h=>by simpa using h
 obtain⟨hO,hC⟩:=z.rest Jp hws hW;obtain⟨hK1,hK2⟩:=z.ah TW hws hq hW
 have LF:dD x1:=by
  unfold dD;rw[c1,c3,hmo,hsz];omega
 have LG:dD x2:=by
  unfold dD;rw[c2,c4,hmo,hsz];omega
 have hS1:S1.length=n1.size\/(S1=[]/\S2=[]):=by
  rcases z.b1 with⟨h0,rfl,a,rfl⟩|⟨h0,rfl⟩
  ·rcases z.b2 with⟨_,rfl,b,rfl⟩|⟨h0',_⟩
   ·exact .inr ⟨rfl,rfl⟩
   omega
  exact .inl (by rw[(EP dh S1).1])
 -- where the parts come to lie
 have hparts:(∀t∈(S1++S2).take h,eT (aU B) (e-1) t1.pg t)/\∀t∈(S1++S2).drop h,eT (aU B) (e-1) t2.pg t:=by
  rcases hS1 with hS1|⟨rfl,rfl⟩
  ·rcases hM with⟨rfl,hge,rfl,_⟩|⟨rfl,hle,rfl,_⟩
   ·have et:(S1++S2).take h=S1++S2.take (h-n1.size):=by rw[kU,eZ (by omega),hS1]
    have ed:(S1++S2).drop h=S2.drop (h-n1.size):=by rw[List.drop_append,kz (by omega),hS1,gH]
    rw[et,ed];have hnd:=hp.nd
    have hsp:∀t∈S1++S2.drop (h-n1.size),∀p∈t.ps,p∉bJ (S2.take (h-n1.size)):=λ t ht p gM hm=>by
     obtain⟨v,hv,rfl⟩:=tZ hm;obtain⟨u,x,_,OP,_⟩:=hkk v (fE _ (fI hv));have h1:v.pg∈bI (S2.take (h-n1.size)):=kP.2 ⟨v,hv,OP.mem⟩;rw[vS,uF S2 (h-n1.size)]at hnd;obtain⟨d1,d2,d3⟩:=bF.1 hnd;rcases cB.1 ht with ht|ht
     ·exact d3 v.pg (kP.2 ⟨t,ht,gM⟩) v.pg (bR _ h1) rfl
     exact(bF.1 d2).2.2 v.pg h1 v.pg (kP.2 ⟨t,ht,gM⟩) rfl
    refine⟨λ t ht=>?_,λ t ht=>hK2 _ t (fE _ (fA ht)) (hsp t (fE _ ht)) (z.k2 t (fA ht))⟩;rcases cB.1 ht with ht|ht
    ·exact hK2 _ t (bR _ ht) (hsp t (bR _ ht)) (z.k1 t ht)
    exact hK1 t ht
   have et:(S1++S2).take h=S1.take h:=by rw[lZ (by omega)]
   have ed:(S1++S2).drop h=S1.drop h++S2:=by rw[kR (by omega)]
   rw[et,ed];have hnd:=hp.nd
   have hsp:∀t∈S1.take h++S2,∀p∈t.ps,p∉bJ (S1.drop h):=λ t ht p gM hm=>by
    obtain⟨v,hv,rfl⟩:=tZ hm;obtain⟨u,x,_,OP,_⟩:=hkk v (bR _ (fA hv));have h1:v.pg∈bI (S1.drop h):=kP.2 ⟨v,hv,OP.mem⟩;rw[vS,uF S1 h]at hnd;obtain⟨d1,d2,d3⟩:=bF.1 hnd;rcases cB.1 ht with ht|ht
    ·exact(bF.1 d1).2.2 v.pg (kP.2 ⟨t,ht,gM⟩) v.pg h1 rfl
    exact d3 v.pg (fE _ h1) v.pg (kP.2 ⟨t,ht,gM⟩) rfl
   refine⟨λ t ht=>hK2 _ t (bR _ (fI ht)) (hsp t (bR _ ht)) (z.k1 t (fI ht)),λ t ht=>?_⟩;rcases cB.1 ht with ht|ht
   ·exact hK1 t ht
   exact hK2 _ t (fE _ ht) (hsp t (fE _ ht)) (z.k2 t ht)
  exact⟨λ t ht=>by simp at ht,λ t ht=>by simp at ht⟩
 have hk1:eT (aU B) e dh (aM t1.pg x1 ((S1++S2).take h)):=⟨_,TY,OT.is hparts.1,LF⟩;have hk2:eT (aU B) e dh (aM t2.pg x2 ((S1++S2).drop h)):=⟨_,yw,OV.is hparts.2,LG⟩;have e1:t1.ps=t1.pg::bI S1:=congrArg SS.ps z.p1;have e2:t2.ps=t2.pg::bI S2:=congrArg SS.ps z.p2
 have hperm:(dh::bI (X++t1::t2::Y)++aT C).Perm (dh::bI (X++aM t1.pg x1 ((S1++S2).take h)::aM t2.pg x2 ((S1++S2).drop h)::Y)++aT C):=by
  rw[LD,LD,e1,e2];show(dh::(bI X++(t1.pg::bI S1++(t2.pg::bI S2++bI Y)))++aT C).Perm (dh::(bI X++(t1.pg::bI ((S1++S2).take h)++(t2.pg::bI ((S1++S2).drop h)++bI Y)))++aT C);have gM:=uF (S1++S2) h;rw[vS]at gM;rw[List.perm_iff_count];intro a;have hc:=congrArg (List.count a) gM;simp only[List.count_append,List.count_cons]at hc ⊢;omega
 have hlv:df (dE C (cu (X++aM t1.pg x1 ((S1++S2).take h)::aM t2.pg x2 ((S1++S2).drop h)::Y))) (iW m yA (UInt64.ofNat q))/\bP (cu (X++aM t1.pg x1 ((S1++S2).take h)::aM t2.pg x2 ((S1++S2).drop h)::Y))=bP (cu (X++t1::t2::Y)):=by
  have hv:=z.rv;have q1:=congrArg SS.lv z.p1;have q2:=congrArg SS.lv z.p2;rw[TU]at hv ⊢;rw[TU];rcases z.b1 with⟨h0,rfl,a,rfl⟩|⟨h0,rfl⟩
  ·rcases z.b2 with⟨_,rfl,b,rfl⟩|⟨h0',_⟩
   ·have q1':t1.lv=[(t1.pg,a)]:=by rw[q1];simp[aM,cu]
    have q2':t2.lv=[(t2.pg,b)]:=by rw[q2];simp[aM,cu]
    have q3:(aM t1.pg x1 ((([]:List SS)++[]).take h)).lv=[(t1.pg,(a++b).take h)]:=by rw[hx1];simp[aM,aS,aQ,cu]
    have q4:(aM t2.pg x2 ((([]:List SS)++[]).drop h)).lv=[(t2.pg,(a++b).drop h)]:=by rw[hx2];simp[aM,aV,aQ,cu]
    rw[q1',q2']at hv;rw[q1',q2',q3,q4];have hal:(⟨true,dh,a,[],[]⟩:Sn).size=a.length:=by simp[Sn.size]
    rw[hal]at hM;refine⟨?_,?_⟩
    ·rcases hM with⟨rfl,hge,_,rfl⟩|⟨rfl,hle,_,rfl⟩
     ·have et:(a++b).take h=a++b.take (h-a.length):=by rw[kU,eZ (by omega)]
      have ed:(a++b).drop h=b.drop (h-a.length):=by rw[List.drop_append,kz (by omega),gH]
      rw[et,ed];refine df.LB (X:=cu X) (Y:=cu Y) (a:=a) (b:=b.take (h-a.length)) (c:=b.drop (h-a.length)) (p:=t1.pg) (q:=t2.pg) ?_;rw[gm];exact hv
     have et:(a++b).take h=a.take h:=by rw[lZ (by omega)]
     have ed:(a++b).drop h=a.drop h++b:=by rw[kR (by omega)]
     rw[et,ed];refine df.LC (X:=cu X) (Y:=cu Y) (a:=a.take h) (b:=a.drop h) (c:=b) (p:=t1.pg) (q:=t2.pg) ?_;rw[gm];exact hv
    simp only[Gq]
    congr 1
    rw[<-dH,<-dH]
    congr 1
    simp only[bP,List.flatMap_cons,List.flatMap_nil,jw];exact gm h (a++b)
   omega
  rcases z.b2 with⟨h0',_,_⟩|⟨_,rfl⟩
  ·omega
  have q1':t1.lv=cu S1:=by rw[q1];simp[aM,bO]
  have q2':t2.lv=cu S2:=by rw[q2];simp[aM,bO]
  have q3:(aM t1.pg x1 ((S1++S2).take h)).lv=cu ((S1++S2).take h):=by rw[hx1];simp[aM,aS,aQ,bO]
  have q4:(aM t2.pg x2 ((S1++S2).drop h)).lv=cu ((S1++S2).drop h):=by rw[hx2];simp[aM,aV,aQ,bO]
  have q5:cu ((S1++S2).take h)++(cu ((S1++S2).drop h)++cu Y)=cu S1++(cu S2++cu Y):=by
   rw[<-dH,<-OC,BS,dH]
  have q6:yA=[]:=by
   rcases hM with⟨_,_,_,rfl⟩|⟨_,_,_,rfl⟩<;>simp[bO]
  rw[q1',q2']at hv;rw[q1',q2',q3,q4,q5,q6];exact⟨hv,rfl⟩
 refine⟨mI.final (λ t ht=>?_) (jB.perm hperm) hlv.1 hC z.root,hlv.2⟩;rcases cB.1 ht with h|h
 ·exact hO t (bR _ h)
 rcases aX.1 h with rfl|h
 ·exact hk1
 rcases aX.1 h with rfl|h
 ·exact hk2
 exact hO t (fE _ h)
end
section
variable{E F:Nat->Prop}{W W' w:World}{P D Q T rt aC k nb dB eX page fr tt e up dh:Nat}{A:AP}{x:Sn}{Pg qs:List Nat}{m:List KV}{S X Y S1 S2:List SS}{C:List bV}{t1 t2:SS}{n1 n2:Sn}
theorem OX(h:aD E W P D Q T rt aC A k)(hp:bZ A rt aC Pg m qs)(hn:gK E W nb x)(hx:bA x)(hb:Body e up x S)(hft:fr<=tt)(hto:tt<=x.size)(hsub:∀c∈bJ S,c∈Pg)(hnd:(bJ S).Nodup)(uE:page<4294967296)(hk:k+60000<900000000)(hkeys:∀i∈(x.aA.take tt).drop fr,∃y∈m,y.1=i) :
  Calls Tryz.prog 127 #[.pointer Q,.int .i64 page,.pointer nb,.int .i64 fr,.int .i64 tt] W λ e' w'=>e'= .returned (.int .i64 0)/\∃B bK k',aD E w' P D Q T rt aC B k'/\k'<=k+200+1100*x.aA.length/\Kept E W w'/\bZ B rt aC Pg (iW m ((x.aA.take tt).drop fr) (UInt64.ofNat page)) bK/\A.Reach B/\vG A B Pg (bJ ((S.take tt).drop fr)) page/\B.ay=A.ay/\bK.length=qs.length:=by
 cases hl:x.leaf with
 | true=>
  obtain⟨_,hsz,rfl,_⟩:=hb.size.2.1 hl;have h48:=(hx.leaf hl).1;refine(xof h hp hn hl hft (by omega) (by omega) uE (by omega) hkeys).mono ?_;rintro e' w' ⟨rfl,B,bK,k',a1,a2,a3,a4,a5,a6,a7,a8⟩;refine⟨rfl,B,bK,k',a1,by omega,a3,a4,a5,λ p gM=>by rw[if_neg (by simp[bJ])];exact a6 p gM,a7,a8⟩
 | false=>
  obtain⟨_,hsz,hid,eP,_⟩:=hb.size.2.2 hl;have kD:=(hx.inner hl).1;have hkl:x.ah.length=S.length:=by rw[eP];simp[bJ]
  refine(Yg h hp hn hl hft (by omega) (by omega) (by rw[eP];exact hsub) (by rw[eP];exact hnd) uE (by omega)).mono ?_;rintro e' w' ⟨rfl,B,k',a1,a2,a3,a4,a5⟩;have hki:(x.ah.take tt).drop fr=bJ ((S.take tt).drop fr):=by rw[eP];unfold bJ;rw[List.map_drop,List.map_take]
  rw[hki]at a5;rw[hid,List.take_nil,List.drop_nil];exact⟨rfl,B,qs,k',a1,by omega,a3,a4,a5.reach,a5.toP _,a5.ay,rfl⟩
def EX(F:Nat->Prop)(W w':World)(P D Q T rt aC k:Nat)(A:AP)(C:List bV)(e dh:Nat)(ae gz:List SS):Prop:=
 ∃B' m' bK,aD F w' P D Q T rt aC B' k/\Kept F W w'/\ZI B' rt aC m' bK C (e+1) (jC dh gz) (bO (aL C) gz)/\bP (cu gz)=bP (cu ae)/\A.Reach B'/\A.ay<=B'.ay
theorem mI.ai(z:mI A rt aC m qs C e dh X Y t1 t2 n1 n2 S1 S2):∀i∈n1.aA++n2.aA,∃y∈m,y.1=i:=λ i hi=>by
 have hlv1:∀(t:SS) (n:Sn) (S:List SS),t=aM t.pg n S->Body e dh n S->∀j∈n.aA,(t.pg,n.aA)∈t.lv:=λ t n S ht hb j hj=>by
  rw[ht];rcases hb with⟨_,rfl,a,rfl⟩|⟨_,rfl⟩
  ·simp[aM]
  cases hj
 have gen:∀(t:SS) (n:Sn) (S:List SS),t∈X++t1::t2::Y->t=aM t.pg n S->Body e dh n S->i∈n.aA->∃y∈m,y.1=i:=λ t n S hm ht hb hj=>by
  have h1:=hlv1 t n S ht hb i hj;have h2:(t.pg,n.aA)∈dE C (cu (X++t1::t2::Y)):=(yV C _).2 (.inl (List.mem_flatMap.2 ⟨t,hm,h1⟩));exact⟨_,z.rv.pl _ h2 i hj,rfl⟩
 rcases cB.1 hi with h|h
 ·exact gen t1 n1 S1 (by simp) z.p1 z.b1 h
 exact gen t2 n2 S2 (by simp) z.p2 z.b2 h
theorem mI.A8(z:mI A rt aC m qs C e dh X Y t1 t2 n1 n2 S1 S2):(∀c∈bJ (S1++S2),c∈dh::bI (X++t1::t2::Y)++aT C)/\(bJ (S1++S2)).Nodup/\t1.pg<60000/\t2.pg<60000:=by
 have hp:=z.pages
 have hpt:∀t∈S1++S2,t.ps=t.pg::t.ps.tail:=λ t ht=>by
  rcases cB.1 ht with h|h
  ·obtain⟨x,_,hx,_⟩:=z.k1 t h;exact hx.ps
  obtain⟨x,_,hx,_⟩:=z.k2 t h;exact hx.ps
 have hsm:∀p∈dh::bI (X++t1::t2::Y)++aT C,p<60000:=λ p gM=>by
  have h1:=z.rp.dO gM;have h2:=z.rp.good.ax;have h3:=z.rp.good.few;have h4:=h1.2.1;omega
 refine⟨λ c hc=>?_,(Lp hpt hp.nd).1,hsm _ hp.mP.2.1,hsm _ hp.mP.2.2⟩;obtain⟨t,ht,rfl⟩:=tZ hc;exact(hp.s t.pg (kP.2 ⟨t,ht,by rw[hpt t ht];exact gZ ..⟩)).1
theorem mI.sW(z:mI A rt aC m qs C e dh X Y t1 t2 n1 n2 S1 S2){A1:AP}{p:Nat}(hr:bZ A1 rt aC (dh::bI (X++t1::t2::Y)++aT C) m qs)(hp:p=t1.pg\/p=t2.pg){y:Sn}(hy:bA y):bZ (A1.az p (encS (A1.c p) y)) rt aC (dh::bI (X++t1::t2::Y)++aT C) m qs/\A1.Reach (A1.az p (encS (A1.c p) y))/\(A1.az p (encS (A1.c p) y)).ay=A1.ay:=by
 have gM:=z.pages
 have hm:p∈dh::bI (X++t1::t2::Y)++aT C:=by
  rcases hp with rfl|rfl
  ·exact gM.mP.2.1
  exact gM.mP.2.2
 have hl:=hr.len _ (hr.dO hm);obtain⟨a,b,c,_⟩:=hr.az hm (s:=encS (A1.c p) y) (by rw[Ah _ _ (by omega) hy,hl]) (λ _=>by rw[Jd _ _ (by omega) hy];rename_i h;rw[h]);exact⟨a,b,c⟩
theorem xju(h:aD F W P D Q T rt aC A k)(hk:k+130000<900000000)(z:mI A rt aC m qs C e dh X Y t1 t2 n1 n2 S1 S2)(hn:gK F W dB (aQ n1 n2))(hx:bA (aQ n1 n2)) :
  Calls Tryz.prog 99 #[.pointer Q,.int .i64 t1.pg,.pointer dB] W λ e' w1=>e'= .returned (.int .i64 0) /\
   Calls Tryz.prog 90 #[.pointer dB] w1 λ e' w2=>e'= .returned (.int .i64 ((aQ n1 n2).size:Int)) /\
    Calls Tryz.prog 127 #[.pointer Q,.int .i64 t1.pg,.pointer dB,.int .i64 n1.size,.int .i64 (aQ n1 n2).size] w2 λ e' w3=>e'= .returned (.int .i64 0)/\w3.cell? Q=some (.pointer P) /\
     Calls Tryz.prog 68 #[.pointer P,.int .i64 t2.pg] w3 λ e' w4=>e'= .returned (.int .i64 0)/\EX F W w4 P D Q T rt aC (k+220+1100*(aQ n1 n2).aA.length) A C e dh (X++t1::t2::Y) (X++aM t1.pg (aQ n1 n2) (S1++S2)::Y):=by
 have hp:=z.pages;obtain⟨hb,hsz,hmo,oq,hlf⟩:=z.b1.cat z.b2;obtain⟨hks,hkn,hp1,hp2⟩:=z.A8
 have yx:(aQ n1 n2).aA.length<=48:=by
  cases hl:(aQ n1 n2).leaf with
  | true=>exact(hx.leaf hl).1
  | false=>rw[(hx.inner hl).2.2.1];simp
 refine(Dc h (by omega) (z.rp.dO hp.mP.2.1) hn hx).mono ?_;rintro e' w1 ⟨rfl,hs1,k1⟩;refine⟨rfl,(tX (hn.kept k1) hx.ok).mono ?_⟩;rintro e' w2 ⟨rfl,q,rfl⟩;have bq:=UK.aG (aP w1 w1) q;have hs2:=hs1.next bq;have k2:=Kept.of_below bq hs1.pz.there;obtain⟨r1,r2,r3⟩:=z.sW z.rp (.inl rfl) hx
 have jd:((aQ n1 n2).aA.take (aQ n1 n2).size).drop n1.size=n2.aA/\((S1++S2).take (aQ n1 n2).size).drop n1.size=S2:=by
  rw[hsz];rcases z.b1 with⟨h0,rfl,a,rfl⟩|⟨h0,rfl⟩
  ·rcases z.b2 with⟨_,rfl,b,rfl⟩|⟨h0',_⟩
   ·refine⟨?_,by simp⟩;simp only[aQ,Sn.size,List.length_nil,iP];rw[eZ (by rw[zl];exact aZ _),List.drop_left'];rfl
   omega
  rcases z.b2 with⟨h0',_,_⟩|⟨_,rfl⟩
  ·omega
  rw[(EP dh S1).1,(EP dh S2).1];refine⟨by simp[aQ,bO],?_⟩;rw[eZ (by rw[zl];omega),kR (aZ _),List.drop_length,gH]
 refine⟨rfl,(OX hs2 r1 ((hn.kept k1).kept k2) hx hb (by omega) (aZ _) hks hkn (by omega) (by omega) (λ i hi=>?_)).mono ?_⟩
 ·rw[jd.1]at hi;exact z.ai i (fE _ hi)
 rintro e' w3 ⟨rfl,B,bK,k',hs3,hk3,k3,rp,re,ad,ro,_⟩;rw[jd.1]at rp;rw[jd.2]at ad;obtain⟨z1,z2,z3,z4⟩:=z.merge hx rp ad;refine⟨rfl,hs3.box.cell 0 _ rfl,(IW hs3.pz (by omega) t2.pg (rp.dO hp.mP.2.2)).mono ?_⟩;rintro e' w4 ⟨rfl,p4,k4⟩;exact⟨rfl,_,_,_,(hs3.step p4 k4).up (by omega),((k1.trans k2).trans k3).trans k4,z1,z4,(r2.trans re).trans z2,by omega⟩
theorem xh1{h0:Nat}(h:aD F W P D Q T rt aC A k)(hk:k+130000<900000000)(z:mI A rt aC m qs C e dh X Y t1 t2 n1 n2 S1 S2)(hh:n1.ax/2<=h0/\h0+n1.ax/2<=n1.size+n2.size)(bi:gK F W dB (aS (aQ n1 n2) h0))(hn2:gK F W eX (aV (aQ n1 n2) h0))(f1:bA (aS (aQ n1 n2) h0))(f2:bA (aV (aQ n1 n2) h0)) :
  Calls Tryz.prog 99 #[.pointer Q,.int .i64 t1.pg,.pointer dB] W λ e' w1=>e'= .returned (.int .i64 0) /\
   Calls Tryz.prog 99 #[.pointer Q,.int .i64 t2.pg,.pointer eX] w1 λ e' w2=>e'= .returned (.int .i64 0) /\
    (n1.size<h0->Calls Tryz.prog 127 #[.pointer Q,.int .i64 t1.pg,.pointer dB,.int .i64 n1.size,.int .i64 h0] w2 λ e' w3=>e'= .returned (.int .i64 0)/\EX F W w3 P D Q T rt aC (k+220+1100*(aQ n1 n2).aA.length) A C e dh (X++t1::t2::Y) (X++aM t1.pg (aS (aQ n1 n2) h0) ((S1++S2).take h0)::aM t2.pg (aV (aQ n1 n2) h0) ((S1++S2).drop h0)::Y)) /\
    (¬n1.size<h0->Calls Tryz.prog 127 #[.pointer Q,.int .i64 t2.pg,.pointer eX,.int .i64 0,.int .i64 ((n1.size-h0:Nat):Int)] w2 λ e' w3=>e'= .returned (.int .i64 0)/\EX F W w3 P D Q T rt aC (k+220+1100*(aQ n1 n2).aA.length) A C e dh (X++t1::t2::Y) (X++aM t1.pg (aS (aQ n1 n2) h0) ((S1++S2).take h0)::aM t2.pg (aV (aQ n1 n2) h0) ((S1++S2).drop h0)::Y)):=by
 have hp:=z.pages;obtain⟨hb,hsz,hmo,oq,hlf⟩:=z.b1.cat z.b2;obtain⟨OT,hlA,OU⟩:=hb.aS h0;obtain⟨OV,hlB,OW⟩:=hb.aV h0;obtain⟨_,sA,sB⟩:=hb.size;obtain⟨c1,c2,c3,c4⟩:=(aQ n1 n2).kX (λ hl=>(sA hl).2.2.2.1) (λ hl=>(sB hl).2.2.1) h0;obtain⟨hks,hkn,hp1,hp2⟩:=z.A8;have htd:∀(l:List SS) (i:Nat),bJ l=bJ (l.take i)++bJ (l.drop i):=λ l i=>by rw[<-Je,gm]
 have Y7:(∀c∈bJ ((S1++S2).take h0),c∈dh::bI (X++t1::t2::Y)++aT C)/\(bJ ((S1++S2).take h0)).Nodup:=by
  rw[htd _ h0]at hks hkn;exact⟨λ c hc=>hks c (bR _ hc),(bF.1 hkn).1⟩
 have hkB:(∀c∈bJ ((S1++S2).drop h0),c∈dh::bI (X++t1::t2::Y)++aT C)/\(bJ ((S1++S2).drop h0)).Nodup:=by
  rw[htd _ h0]at hks hkn;exact⟨λ c hc=>hks c (fE _ hc),(bF.1 hkn).2.1⟩
 have aa6:(aS (aQ n1 n2) h0).aA.length<=(aQ n1 n2).aA.length/\(aS (aQ n1 n2) h0).aA.length<=48:=by
  refine⟨by rw[OU,zt];omega,?_⟩
  cases hl:(aS (aQ n1 n2) h0).leaf with
  | true=>exact(f1.leaf hl).1
  | false=>rw[(f1.inner hl).2.2.1];simp
 have aa7:(aV (aQ n1 n2) h0).aA.length<=(aQ n1 n2).aA.length/\(aV (aQ n1 n2) h0).aA.length<=48:=by
  refine⟨by rw[OW,zd];omega,?_⟩
  cases hl:(aV (aQ n1 n2) h0).leaf with
  | true=>exact(f2.leaf hl).1
  | false=>rw[(f2.inner hl).2.2.1];simp
 have LH:(aQ n1 n2).aA=n1.aA++n2.aA:=rfl;obtain⟨r1,r2,r3⟩:=z.sW z.rp (.inl rfl) f1;obtain⟨r4,r5,r6⟩:=z.sW r1 (.inr rfl) f2
 have hdat:(n1.leaf=true/\S1=[]/\S2=[]/\n1.aA.length=n1.size)\/(n1.aA=[]/\n2.aA=[]/\S1.length=n1.size):=by
  rcases z.b1 with⟨h0,rfl,a,rfl⟩|⟨h0,rfl⟩
  ·rcases z.b2 with⟨_,rfl,b,rfl⟩|⟨h0',_⟩
   ·exact .inl ⟨rfl,rfl,rfl,by simp[Sn.size]⟩
   omega
  rcases z.b2 with⟨h0',_,_⟩|⟨_,rfl⟩
  ·omega
  exact .inr ⟨rfl,rfl,by rw[(EP dh S1).1]⟩
 refine(Dc h (by omega) (z.rp.dO hp.mP.2.1) bi f1).mono ?_;rintro e' w1 ⟨rfl,hs1,k1⟩;refine⟨rfl,(Dc hs1 (by omega) (r1.dO hp.mP.2.2) (hn2.kept k1) f2).mono ?_⟩;rintro e' w2 ⟨rfl,hs2,k2⟩;refine⟨rfl,λ hlt=>?_,λ hlt=>?_⟩
 ·have jd:((aS (aQ n1 n2) h0).aA.take h0).drop n1.size=n2.aA.take (h0-n1.size)/\(((S1++S2).take h0).take h0).drop n1.size=S2.take (h0-n1.size):=by
   rw[OU,LH];rcases hdat with⟨_,rfl,rfl,hl⟩|⟨e1,e2,hl⟩
   ·refine⟨?_,by simp⟩;rw[List.take_take,Nat.min_self,kU,eZ (by omega),<-hl,kR (aZ _),List.drop_length,gH]
   rw[e1,e2];refine⟨by simp,?_⟩;rw[List.take_take,Nat.min_self,kU,eZ (by omega),<-hl,kR (aZ _),List.drop_length,gH]
  refine(OX hs2 r4 ((bi.kept k1).kept k2) f1 OT (by omega) (by omega) Y7.1 Y7.2 (by omega) (by omega) (λ i hi=>?_)).mono ?_
  ·rw[jd.1]at hi;exact z.ai i (fE _ (fI hi))
  rintro e' w3 ⟨rfl,B,bK,k',hs3,hk3,k3,rp,re,ad,ro,_⟩;rw[jd.1]at rp;rw[jd.2]at ad;obtain⟨z1,z2⟩:=z.balance rfl rfl hh f1 f2 (by omega:t1.pg<4294967296) (.inl ⟨rfl,by omega,rfl,rfl⟩) rp ad;exact⟨rfl,_,_,_,hs3.up (by omega),(k1.trans k2).trans k3,z1,z2,(r2.trans r5).trans re,by omega⟩
 have jd:((aV (aQ n1 n2) h0).aA.take (n1.size-h0)).drop 0=n1.aA.drop h0/\(((S1++S2).drop h0).take (n1.size-h0)).drop 0=S1.drop h0:=by
  rw[OW,LH];rcases hdat with⟨_,rfl,rfl,hl⟩|⟨e1,e2,hl⟩
  ·refine⟨?_,by simp⟩;rw[lL,kR (by omega),lZ (by rw[zd];omega),eZ (by rw[zd];omega)]
  rw[e1,e2];refine⟨by simp,?_⟩;rw[lL,kR (by omega),lZ (by rw[zd];omega),eZ (by rw[zd];omega)]
 have:=OX (page:=t2.pg) (fr:=0) (tt:=n1.size-h0) hs2 r4 ((hn2.kept k1).kept k2) f2 OV (by omega) (by omega) hkB.1 hkB.2 (by omega) (by omega) (λ i hi=>by
  rw[jd.1]at hi;exact z.ai i (bR _ (fA hi)))
 refine this.mono ?_;rintro e' w3 ⟨rfl,B,bK,k',hs3,hk3,k3,rp,re,ad,ro,_⟩;rw[jd.1]at rp;rw[jd.2]at ad;obtain⟨z1,z2⟩:=z.balance rfl rfl hh f1 f2 (by omega:t2.pg<4294967296) (.inr ⟨rfl,by omega,rfl,rfl⟩) rp ad;exact⟨rfl,_,_,_,hs3.up (by omega),(k1.trans k2).trans k3,z1,z2,(r2.trans r5).trans re,by omega⟩
end
section
variable{B E F:Nat->Prop}{W W' w:World}{nb kc vc ac:Nat}{x:Sn}{ka va aa:Option Addr}
theorem xul{N κ v0 g0:Nat}(hb:eD B w nb x ka v0 g0 kc vc ac)(hk:x.ah.length=N)(hc:x.au.length=N)(hN:N<=100)(dK:κ+1<N) :
  ∀wa,Below w w wa->Calls Tryz.prog 133 #[.slice v0 N vc,.int .i64 ((κ:Int)+1),.int .i64 ((κ:Int)+2)] wa λ e1 w1=>e1= .returned (.slice v0 (N-1) vc)/\w1.cell? (nb,3)=some (.slice v0 N vc)/\w1.cell? (nb,4)=some (.slice g0 N ac) /\
   ∀wb,Below w1 w1 wb->Calls Tryz.prog 133 #[.slice g0 N ac,.int .i64 ((κ:Int)+1),.int .i64 ((κ:Int)+2)] wb λ e2 w2=>e2= .returned (.slice g0 (N-1) ac)/\w2.cell? (nb,3)=some (.slice v0 N vc)/\w2.cell? (nb,4)=some (.slice g0 N ac)/\w2.frozen? ⟨nb,3,none⟩=false/\w2.frozen? ⟨nb,4,none⟩=false /\
    Hid (eD B ((w2.setCell (nb,3) (.slice v0 (N-1) vc)).setCell (nb,4) (.slice g0 (N-1) ac)) nb {x with ah:=x.ah.take (κ+1)++x.ah.drop (κ+2),au:=x.au.take (κ+1)++x.au.drop (κ+2)} ka v0 g0 kc vc ac/\Kept (λ j=>j<w.heap.size/\¬B j) w ((w2.setCell (nb,3) (.slice v0 (N-1) vc)).setCell (nb,4) (.slice g0 (N-1) ac))):=by
 have Y8:v0≠nb:=(hb.1.new v0 (.inr (.inl rfl))).2;have hgn:g0≠nb:=(hb.1.new g0 (.inr (.inr rfl))).2;have Y9:v0≠g0:=λ e=>hb.1.va v0 rfl (by rw[e];rfl);have ek:(((κ+1:Nat):Int)+1)=(κ:Int)+2:=by omega
 have YA:((κ+1:Nat):Int)=(κ:Int)+1:=by omega
 intro wa ba;have qA:=hb.kept ba.size (λ g _ hg=>ba.block g hg)
 have rv:Row wa v0 vc (ints x.ah):=by
  rcases qA.1.v with⟨h,_⟩|⟨g,h,r⟩
  ·cases h
  injection h with h
  injection h with h
  subst h;exact r
 have d1:=TZ (i:=κ+1) rv (by omega) (by omega);rw[hk,ek,YA]at d1;refine d1.mono ?_;rintro e1 w1 ⟨rfl,r1,o1⟩;have b1:=qA.1.box.only o1 Y8.symm;rw[hk,hc]at b1;refine⟨rfl,b1.cell 3 _ rfl,b1.cell 4 _ rfl,λ wb bb=>?_⟩
 have YB:Row w1 g0 ac (ints x.au):=by
  rcases qA.1.a with⟨h,_⟩|⟨g,h,r⟩
  ·cases h
  injection h with h
  injection h with h
  subst h;exact r.only o1 Y9.symm
 have ra:=YB.af bb.size (bb.block _ YB.lt);have d2:=TZ (i:=κ+1) ra (by omega) (by omega);rw[hc,ek,YA]at d2;refine d2.mono ?_;rintro e2 w2 ⟨rfl,r2,o2⟩;have b2:=(b1.next bb).only o2 hgn.symm;have yZ:=(r1.af bb.size (bb.block _ r1.lt)).only o2 Y9;have hk1:=(qA.1.k.only o1 (λ e=>hb.1.kv v0 e rfl));have hk2:=(hk1.af bb.size (λ g hg=>bb.block g (hk1.lt hg))).only o2 (λ e=>hb.1.ka g0 e rfl);refine⟨rfl,b2.cell 3 _ rfl,b2.cell 4 _ rfl,b2.free 3,b2.free 4,zH ?_⟩;have o3:Only nb w2 ((w2.setCell (nb,3) (.slice v0 (N-1) vc)).setCell (nb,4) (.slice g0 (N-1) ac)):=((Only.refl nb w2).set 3 _).set 4 _;have b3:=(b2.set 3 (.slice v0 (N-1) vc)).set 4 (.slice g0 (N-1) ac);generalize (w2.setCell (nb,3) (.slice v0 (N-1) vc)).setCell (nb,4) (.slice g0 (N-1) ac)=w3 at o3 b3 ⊢;have hl1:(x.ah.take (κ+1)++x.ah.drop (κ+2)).length=N-1:=by rw[zl,zt,zd];omega
 have hl2:(x.au.take (κ+1)++x.au.drop (κ+2)).length=N-1:=by rw[zl,zt,zd];omega
 refine⟨⟨⟨by rw[hl1,hl2];simpa using b3,hk2.only o3 (λ e=>(hb.1.new nb (.inl e)).2 rfl),.inr ⟨v0,rfl,yZ.only o3 Y8⟩,.inr ⟨g0,rfl,r2.only o3 hgn⟩,bY _,hb.1.new,hb.1.kv,hb.1.ka,hb.1.va⟩,hb.2⟩,?_⟩;have hBn:=hb.2 nb (.inl rfl);have hBv:=hb.2 v0 (.inr (.inr (.inl rfl)));have hBg:=hb.2 g0 (.inr (.inr (.inr rfl)));have s1:=ba.size;have s2:=o1.size;have s3:=bb.size;have s4:=o2.size;refine⟨o3.os.trans (o2.os.trans (bb.os.trans (o1.os.trans ba.os))),o3.tape.trans (o2.tape.trans (bb.tape.trans (o1.tape.trans ba.tape))),o3.output.trans (o2.output.trans (bb.output.trans (o1.output.trans ba.output))),by have:=o3.size;omega,λ j hj=>?_⟩;rw[o3.block j (by omega) (λ e=>hj.2 (e▸hBn)),o2.block j (by omega) (λ e=>hj.2 (e▸hBg)),bb.block j (by omega),o1.block j (by omega) (λ e=>hj.2 (e▸hBv)),ba.block j hj.1]
structure sZ(W w:World)(n1 n2:Sn)(nW dN nM:Option Addr)(c1 c2 c3:Nat):Prop where
 r1:NR w nW c1 (aF (n1.aA++n2.aA))
 r2:NR w dN c2 (ints (n1.ah++n2.ah))
 r3:NR w nM c3 (ints (n1.au++n2.au))
 new:∀g,aK nW g\/aK dN g\/aK nM g->W.heap.size<=g
 pq:Below W W w
theorem NR.keep{ao bo:Option Addr}{c n:Nat}{w w':World}{vs:List Value}(h:NR w ao c vs)(hk:Kept (λ j=>j<w.heap.size/\¬aK bo j) w w')(hn:∀g,aK ao g->¬aK bo g)(_:n=n):NR w' ao c vs:=h.af hk.size (λ g hg=>hk.block g ⟨h.lt hg,hn g hg⟩)
theorem Ua{W:World}{ao bo:Option Addr}{c d:Nat}{us vs:List UInt64}(h:NR W ao c (aF us))(h2:NR W bo d (aF vs))(hl:us.length+vs.length<=1000) :
  ∀wa,Below W W wa->Calls Tryz.prog 125 #[.slice ao us.length c] wa λ e w1=>∃a1 d1,e= .returned (.slice a1 us.length d1)/\Below W W w1/\wa.heap.size<=w1.heap.size/\(∀j,j<wa.heap.size->w1.heap[j]?=wa.heap[j]?) /\
   ∃a2 d2 w2,(Builtin.append_ #[27,27] 27 #[.slice a1 us.length d1,.slice bo vs.length d]).run Tryz.prog w1= .ok (.slice a2 (us.length+vs.length) d2) w2/\NR w2 a2 d2 (aF (us++vs))/\(∀g,aK a2 g->wa.heap.size<=g)/\Below W W w2/\wa.heap.size<=w2.heap.size/\∀j,j<wa.heap.size->w2.heap[j]?=wa.heap[j]?:=by
 intro wa ba;have ha:=h.af ba.size (λ g hg=>ba.block g (h.lt hg));refine(xui ha (by omega)).mono ?_;rintro e w1 ⟨a1,d1,rfl,r1,n1,b1⟩;have GA:=ba.trans (b1.mono ba.size);have hb1:=h2.af GA.size (λ g hg=>GA.block g (h2.lt hg));obtain⟨a2,d2,w2,e2,r2,n2,k2⟩:=xz5 r1 hb1 hl;have hs:=ba.size;have hs1:=b1.size;have hb2:Below wa wa w2:=⟨k2.os.trans b1.os,k2.tape.trans b1.tape,k2.output.trans b1.output,bf hs1 k2.size,λ j hj=>(k2.block j ⟨by omega,λ e=>by have:=n1 j e;omega⟩).trans (b1.block j hj)⟩;refine⟨a1,d1,rfl,GA,hs1,λ j hj=>b1.block j hj,a2,d2,w2,e2,r2,λ g hg=>?_,ba.trans (hb2.mono hs),hb2.size,λ j hj=>hb2.block j hj⟩;rcases n2 g hg with h3|h3
 ·exact n1 g h3
 omega
theorem Jq{W:World}{ao bo:Option Addr}{c d:Nat}{us vs:List Nat}(h:NR W ao c (ints us))(h2:NR W bo d (ints vs))(hl:us.length+vs.length<=1000) :
  ∀wa,Below W W wa->Calls Tryz.prog 126 #[.slice ao us.length c] wa λ e w1=>∃a1 d1,e= .returned (.slice a1 us.length d1)/\Below W W w1/\wa.heap.size<=w1.heap.size/\(∀j,j<wa.heap.size->w1.heap[j]?=wa.heap[j]?) /\
   ∃a2 d2 w2,(Builtin.append_ #[73,73] 73 #[.slice a1 us.length d1,.slice bo vs.length d]).run Tryz.prog w1= .ok (.slice a2 (us.length+vs.length) d2) w2/\NR w2 a2 d2 (ints (us++vs))/\(∀g,aK a2 g->wa.heap.size<=g)/\Below W W w2/\wa.heap.size<=w2.heap.size/\∀j,j<wa.heap.size->w2.heap[j]?=wa.heap[j]?:=by
 intro wa ba;have ha:=h.af ba.size (λ g hg=>ba.block g (h.lt hg));refine(xuh ha (by omega)).mono ?_;rintro e w1 ⟨a1,d1,rfl,r1,n1,b1⟩;have GA:=ba.trans (b1.mono ba.size);have hb1:=h2.af GA.size (λ g hg=>GA.block g (h2.lt hg));obtain⟨a2,d2,w2,e2,r2,n2,k2⟩:=xz4 r1 hb1 hl;have hs:=ba.size;have hs1:=b1.size;have hb2:Below wa wa w2:=⟨k2.os.trans b1.os,k2.tape.trans b1.tape,k2.output.trans b1.output,bf hs1 k2.size,λ j hj=>(k2.block j ⟨by omega,λ e=>by have:=n1 j e;omega⟩).trans (b1.block j hj)⟩;refine⟨a1,d1,rfl,GA,hs1,λ j hj=>b1.block j hj,a2,d2,w2,e2,r2,λ g hg=>?_,ba.trans (hb2.mono hs),hb2.size,λ j hj=>hb2.block j hj⟩;rcases n2 g hg with h3|h3
 ·exact n1 g h3
 omega
end
section
variable{B B0 E F:Nat->Prop}{W W' w:World}{P D Q T rt aC k fU EY e dh:Nat}{A:AP}{qs:List Nat}{m:List KV}{C:List bV}{X Y S1 S2:List SS}{t1 t2:SS}{n1 n2:Sn}{ka va aa:Option Addr}{kc vc ac:Nat}
def AA(E:Nat->Prop)(W w':World)(P D Q T rt aC k:Nat)(A:AP)(C:List bV)(e dh fU:Nat)(ae:List SS):Prop:=
 ∃B0 ka va aa kc vc ac gz B' m' bK,(∀j,B0 j->¬E j)/\¬B0 0 /\eD B0 w' fU (bO (aL C) gz) ka va aa kc vc ac/\aD (λ j=>E j\/B0 j) w' P D Q T rt aC B' k/\Kept E W w'/\ZI B' rt aC m' bK C (e+1) (jC dh gz) (bO (aL C) gz)/\bP (cu gz)=bP (cu ae)/\A.Reach B'/\A.ay<=B'.ay/\gz.length<=ae.length/\ae.length<=gz.length+1
theorem EX.row{K:Nat}{nb:Nat}{ae gz:List SS}{w0 w1:World}(hQ:E Q)(hT:E T)(dG:∀j,B0 j->¬E j)(eF:¬B0 0)(hF:∀j,E j\/B0 j->F j)(kp:Kept E W w0)(hb:eD B0 w0 nb (bO (aL C) gz) ka va aa kc vc ac)(hl:gz.length<=ae.length/\ae.length<=gz.length+1)(h:EX F w0 w1 P D Q T rt aC k A C e dh ae gz)(hk:k<=K):AA E W w1 P D Q T rt aC K A C e dh nb ae:=by
 obtain⟨B',m',bK,hs,kk,hz,hn,hre,hro⟩:=h;exact⟨B0,ka,va,aa,kc,vc,ac,gz,B',m',bK,dG,eF,hb.by kk (λ g hg=>hF g (.inr hg)),(hs.less (.inl hQ) (.inl hT) hF).up hk,kp.trans (kk.mono (λ j hj=>hF j (.inl hj))),hz,hn,hre,hro,hl.1,hl.2⟩
theorem xxf{up κ c:Nat}{X Y:List SS}{t1 t2 tm:SS}(dK:X.length=κ)(hp:tm.pg=t1.pg)(hc:c=tm.l.length) :
  ({{bO up (X++t1::t2::Y)with ah:=(bO up (X++t1::t2::Y)).ah.take (κ+1)++(bO up (X++t1::t2::Y)).ah.drop (κ+2),au:=(bO up (X++t1::t2::Y)).au.take (κ+1)++(bO up (X++t1::t2::Y)).au.drop (κ+2)}with au:=((bO up (X++t1::t2::Y)).au.take (κ+1)++(bO up (X++t1::t2::Y)).au.drop (κ+2)).set κ c}:Sn)=bO up (X++tm::Y):=by
 subst dK hc
 have gen:∀(a b:List Nat) (x y:Nat),(a++x::y::b).take (a.length+1)++(a++x::y::b).drop (a.length+2)=a++x::b:=λ a b x y=>by
  rw[show a++x::y::b=(a++[x])++(y::b) by simp,List.take_left' (by simp),show(a++[x])++(y::b)=(a++[x,y])++b by simp,List.drop_left' (by simp)];simp
 have e1:=gen (bJ X) (bJ Y) t1.pg t2.pg;have e2:=gen (dm X) (dm Y) t1.l.length t2.l.length;have l1:(bJ X).length=X.length:=by simp[bJ]
 have l2:(dm X).length=X.length:=by simp[dm]
 rw[l1]at e1;rw[l2]at e2;have hk:bJ (X++t1::t2::Y)=bJ X++t1.pg::t2.pg::bJ Y:=by simp[bJ]
 have hc:dm (X++t1::t2::Y)=dm X++t1.l.length::t2.l.length::dm Y:=by simp[dm]
 show(⟨false,up,[],(bJ (X++t1::t2::Y)).take (X.length+1)++(bJ (X++t1::t2::Y)).drop (X.length+2),((dm (X++t1::t2::Y)).take (X.length+1)++(dm (X++t1::t2::Y)).drop (X.length+2)).set X.length tm.l.length⟩:Sn)=⟨false,up,[],bJ (X++tm::Y),dm (X++tm::Y)⟩;rw[hk,hc,e1,e2,Je,Ox]
 congr 1
 ·show bJ X++t1.pg::bJ Y=bJ X++tm.pg::bJ Y;rw[hp]
 rw[List.set_append_right _ _ (by omega),l2,iF];rfl
structure wo(E B0 Ba Bb:Nat->Prop)(W w2:World)(P D Q T rt aC k:Nat)(A:AP)(x0 n1 n2:Sn)(fU dB eX:Nat)(ka va aa pM nC pO lU lT lV:Option Addr)(kc vc ac qc qd qf mH lW kH:Nat):Prop where
 hBa:∀j,Ba j->W.heap.size<=j
 hBb:∀j,Bb j->W.heap.size<=j
 hab:∀j,Ba j->¬Bb j
 ha:eD Ba w2 dB n1 pM nC pO qc qd qf
 hb:eD Bb w2 eX n2 lU lT lV mH lW kH
 hb0:eD B0 w2 fU x0 ka va aa kc vc ac
 hs:aD (λ j=>((E j\/B0 j)\/Ba j)\/Bb j) w2 P D Q T rt aC A k
 kp:Kept (λ j=>E j\/B0 j) W w2
 f1:bA n1
 f2:bA n2
 hE:∀j,E j\/B0 j->j<W.heap.size
 tab:0 <W.heap.size
 hQ:E Q
 hT:E T
 dG:∀j,B0 j->¬E j
section
variable{Ba Bb:Nat->Prop}{w2 wx wq w3 wM wN wc:World}{x0:Sn}{dB eX N κ:Nat}{pM nC pO lU lT lV nW dN nM:Option Addr}{qc qd qf mH lW kH c1 c2 c3:Nat}
theorem YK{up:Nat}(h1:Body e up n1 S1)(h2:Body e up n2 S2)(f1:bA n1)(f2:bA n2)(hle:n1.size+n2.size<=n1.ax):bA (aQ n1 n2):=by
 obtain⟨hbc,hsz,hmo,oq,hlf⟩:=h1.cat h2;refine⟨f1.up,λ hl=>?_,λ hl=>?_⟩
 ·have hl1:n1.leaf=true:=hl;have hl2:n2.leaf=true:=by rw[<-hlf];exact hl1
  obtain⟨a1,a2,a3⟩:=f1.leaf hl1;obtain⟨b1,b2,b3⟩:=f2.leaf hl2;refine⟨?_,by show n1.ah++n2.ah=[];rw[a2,b2];rfl,by show n1.au++n2.au=[];rw[a3,b3];rfl⟩;show(n1.aA++n2.aA).length<=48;unfold Sn.size Sn.ax at hle;rw[hl1,a2,b2]at hle;simp at hle;rw[zl];exact hle
 have hl1:n1.leaf=false:=hl;have hl2:n2.leaf=false:=by rw[<-hlf];exact hl1
 obtain⟨a1,a2,a3,a4,a5⟩:=f1.inner hl1;obtain⟨b1,b2,b3,b4,b5⟩:=f2.inner hl2
 have e1:(n1.ah++n2.ah).length<=40:=by
  unfold Sn.size Sn.ax at hle;rw[hl1,a3,b3]at hle;simp at hle;rw[zl];exact hle
 refine⟨e1,?_,by show n1.aA++n2.aA=[];rw[a3,b3];rfl,λ q hq=>?_,λ q hq=>?_⟩
 ·show(n1.au++n2.au).length=(n1.ah++n2.ah).length;rw[zl,zl,a2,b2]
 ·rcases cB.1 hq with h|h
  ·exact a4 q h
  exact b4 q h
 rcases cB.1 hq with h|h
 ·exact a5 q h
 exact b5 q h
theorem wo.Mc(v:wo E B0 Ba Bb W w2 P D Q T rt aC k A x0 n1 n2 fU dB eX ka va aa pM nC pO lU lT lV kc vc ac qc qd qf mH lW kH)(bx:Below w2 w2 wx)(cO:sZ wx wq n1 n2 nW dN nM c1 c2 c3)(wu:Below wq wq w3)(oM:Only dB w3 wM)(bM:aI wM dB #[.bool n1.leaf,.int .i64 (n1.up:Int),.slice nW (n1.aA.length+n2.aA.length) c1,.slice dN (n1.ah.length+n2.ah.length) c2,.slice nM (n1.au.length+n2.au.length) c3]) :
  ∃F:Nat->Prop,(∀j,E j\/B0 j->F j)/\aD F wM P D Q T rt aC A k/\eD B0 wM fU x0 ka va aa kc vc ac/\gK (λ j=>F j/\¬B0 j) wM dB (aQ n1 n2)/\Kept E W wM:=by
 have hwx:=bx.size;have hcs:=cO.pq.size;have hds:=wu.size;have Ck:Below w2 w2 w3:=(bx.trans (cO.pq.mono hwx)).trans (wu.mono (bf hwx hcs));have uP:Ba dB:=v.ha.2 dB (.inl rfl);have GD:dB<w2.heap.size:=v.ha.1.box.lt;have hW2:=v.kp.size;have oG:∀j,Ba j->¬(E j\/B0 j):=λ j h1 h2=>jc _ (bS (v.hE j h2) (v.hBa j h1));have Cm:Kept (λ j=>j<w2.heap.size/\¬Ba j) w2 wM:=(Kept.of_below Ck (λ j (hj:j<w2.heap.size/\¬Ba j)=>hj.1)).trans ⟨oM.os,oM.tape,oM.output,oM.size,λ j hj=>oM.block j (bS hj.1 Ck.size) (λ e=>hj.2 (e▸uP))⟩;have xC:=v.hs.own (B:=Ba) (λ j hj=>.inl (.inr hj)) (λ hb=>oG Q hb (.inl v.hQ)) (λ hb=>oG T hb (.inl v.hT)) (λ hb=>jc _ (bS v.tab (v.hBa _ hb))) Cm;have kI:=v.hb0.kept Cm.size (λ g hg _=>Cm.block g ⟨bS (v.hE g (.inr hg)) hW2,λ hx=>oG g hx (.inr hg)⟩)
 have hrow:∀(ao:Option Addr) (c:Nat) (vs:List Value),NR wq ao c vs->(∀g,aK ao g->wx.heap.size<=g)->NR wM ao c vs/\∀g,aK ao g->(λ j=>((((E j\/B0 j)\/Ba j)\/Bb j)\/(w2.heap.size<=j/\j<wM.heap.size))/\¬B0 j) g:=λ ao c vs hr hnw=>by
  have r1:=hr.af hds (λ g hg=>wu.block g (hr.lt hg));have r2:=r1.only oM (λ hx=>jc _ (bS GD (bf hwx (hnw _ hx))));exact⟨r2,λ g hg=>⟨.inr ⟨bf hwx (hnw g hg),r2.lt hg⟩,λ hx=>jc _ (bS (v.hE g (.inr hx)) (bf hW2 (bf hwx (hnw g hg))))⟩⟩
 obtain⟨q1,q1'⟩:=hrow _ _ _ cO.r1 (λ g hg=>cO.new g (.inl hg));obtain⟨q2,q2'⟩:=hrow _ _ _ cO.r2 (λ g hg=>cO.new g (.inr (.inl hg)));obtain⟨q3,q3'⟩:=hrow _ _ _ cO.r3 (λ g hg=>cO.new g (.inr (.inr hg)));have w1:=q1.win q1';have w2':=q2.win q2';have w3':=q3.win q3';rw[cz,zl]at w1;rw[dx,zl]at w2' w3';exact⟨_,λ j hj=>.inl (.inl (.inl hj)),xC,kI,⟨_,_,_,bM,⟨.inl (.inl (.inr uP)),λ hx=>oG dB uP (.inr hx)⟩,w1,w2',w3'⟩,(v.kp.mono (λ j hj=>.inl hj)).trans (Cm.mono (λ j hj=>⟨bS (v.hE j (.inl hj)) hW2,λ hx=>oG j hx (.inl hj)⟩))⟩
theorem gK.aside{x:Sn}(h:gK (λ j=>F j/\¬B0 j) wM dB x)(hF:∀j,F j->j<wM.heap.size)(k14:Kept (λ j=>j<wM.heap.size/\¬B0 j) wM wN)(bq:Below wN wN wq):gK (λ j=>F j/\¬B0 j) wq dB x:=
 h.kept ((k14.mono (λ j (hj:F j/\¬B0 j)=>⟨hF j hj.1,hj.2⟩)).trans (Kept.of_below bq (λ j hj=>bS (hF j hj.1) k14.size)))
theorem AA.up{K K' nb:Nat}{ae:List SS}(h:AA E W w P D Q T rt aC K A C e dh nb ae)(hk:K<=K'):AA E W w P D Q T rt aC K' A C e dh nb ae:=by
 obtain⟨B0,ka,va,aa,kc,vc,ac,gz,B',m',bK,a1,a2,a3,a4,a5⟩:=h;exact⟨B0,ka,va,aa,kc,vc,ac,gz,B',m',bK,a1,a2,a3,a4.up hk,a5⟩
theorem Mf{y:Sn}{g:Nat}(h:eD B0 wN fU y ka va g kc vc ac)(hl:y.au.length=N)(dK:κ<N):∃v,wN.cell? (fU,4)=some (.slice g N ac)/\wN.cell? (g,κ)=some v/\wN.frozen? ⟨g,κ,none⟩=false:=by
 have h4:=h.1.box.cell 4 _ rfl;rw[hl]at h4
 have ra:Row wN g ac (ints y.au):=by
  rcases h.1.a with⟨h1,_⟩|⟨g',h1,h2⟩
  ·cases h1
  injection h1 with h1
  injection h1 with h1
  subst h1;exact h2
 have hra:=ra.le;rw[dx,hl]at hra;exact⟨_,h4,ra.at' κ _ (di (by rw[dx,hl];exact dK)),ra.free κ (bS dK hra)⟩
theorem xxg{g v0:Nat}(h:eD B0 wN fU {bO (aL C) (X++t1::t2::Y)with ah:=(bO (aL C) (X++t1::t2::Y)).ah.take (κ+1)++(bO (aL C) (X++t1::t2::Y)).ah.drop (κ+2),au:=(bO (aL C) (X++t1::t2::Y)).au.take (κ+1)++(bO (aL C) (X++t1::t2::Y)).au.drop (κ+2)} ka v0 g kc vc ac)(k14:Kept (λ j=>j<wM.heap.size/\¬B0 j) wM wN)(hl:((bO (aL C) (X++t1::t2::Y)).au.take (κ+1)++(bO (aL C) (X++t1::t2::Y)).au.drop (κ+2)).length=N)(aa9:κ<N)(dK:X.length=κ)(z:mI A rt aC m qs C e dh X Y t1 t2 n1 n2 S1 S2) :
  eD B0 (wN.setCell (g,κ) (.int .i64 (((aQ n1 n2).count:Nat):Int))).drew fU (bO (aL C) (X++aM t1.pg (aQ n1 n2) (S1++S2)::Y)) ka v0 g kc vc ac/\Kept (λ j=>j<wM.heap.size/\¬B0 j) wM (wN.setCell (g,κ) (.int .i64 (((aQ n1 n2).count:Nat):Int))).drew:=by
 have hbd:=h.kept (aZ _) (W':=wN.drew) (λ _ _ _=>rfl);obtain⟨OZ,k15⟩:=hbd.dI (c:=(aQ n1 n2).count) κ (by dsimp only;omega);have hbt:=(z.b1.cat z.b2).1.count (pg:=t1.pg);have hq:=xxf (up:=aL C) (c:=(aQ n1 n2).count) (X:=X) (Y:=Y) (t1:=t1) (t2:=t2) (tm:=aM t1.pg (aQ n1 n2) (S1++S2)) dK rfl hbt;dsimp only at hq OZ;rw[hq]at OZ;exact⟨OZ,k14.trans ((Kept.of_below (hBd wN) (λ j (hj:j<wN.heap.size/\¬B0 j)=>hj.1) |>.trans k15).mono (λ j hj=>⟨bS hj.1 k14.size,hj.2⟩))⟩
theorem xm4(z:mI A rt aC m qs C e dh X Y t1 t2 n1 n2 S1 S2)(hF:∀j,E j\/B0 j->F j)(hs:aD F wM P D Q T rt aC A k)(hn:gK (λ j=>F j/\¬B0 j) wM dB (aQ n1 n2))(fx:bA (aQ n1 n2))(kE:Kept E W wM)(hQ:E Q)(hT:E T)(dG:∀j,B0 j->¬E j)(eF:¬B0 0)(k15:Kept (λ j=>j<wM.heap.size/\¬B0 j) wM wc)(GG:eD B0 wc fU (bO (aL C) (X++aM t1.pg (aQ n1 n2) (S1++S2)::Y)) ka va aa kc vc ac)(hk:k+130000<900000000) :
  Calls Tryz.prog 99 #[.pointer Q,.int .i64 t1.pg,.pointer dB] wc λ e' w1=>e'= .returned (.int .i64 0) /\
   Hid (Calls Tryz.prog 90 #[.pointer dB] w1 λ e' w2=>e'= .returned (.int .i64 ((aQ n1 n2).size:Int)) /\
    Hid (Calls Tryz.prog 127 #[.pointer Q,.int .i64 t1.pg,.pointer dB,.int .i64 n1.size,.int .i64 (aQ n1 n2).size] w2 λ e' w3=>e'= .returned (.int .i64 0)/\w3.cell? Q=some (.pointer P) /\
     Hid (Calls Tryz.prog 68 #[.pointer P,.int .i64 t2.pg] w3 λ e' w4=>e'= .returned (.int .i64 0)/\Hid (AA E W w4 P D Q T rt aC (k+220+1100*(aQ n1 n2).aA.length) A C e dh fU (X++t1::t2::Y))))):=by
 have kN:=hs.pz.there;have GH:=hs.own (B:=B0) (λ j hj=>hF j (.inr hj)) (λ hb=>dG Q hb hQ) (λ hb=>dG T hb hT) eF k15;have Du:gK (λ j=>F j\/(wM.heap.size<=j/\j<wc.heap.size)) wc dB (aQ n1 n2):=(hn.kept (k15.mono (λ j (hj:F j/\¬B0 j)=>⟨kN j hj.1,hj.2⟩))).mono (λ g hg=>.inl hg.1);have Fg:Kept E W wc:=kE.trans (k15.mono (λ j hj=>⟨kN j (hF j (.inl hj)),λ hx=>dG j hx hj⟩));refine(xju GH hk z Du fx).mono ?_;rintro e' w1 ⟨rfl,h1⟩;refine⟨rfl,zH (h1.mono ?_)⟩;rintro e' w2 ⟨rfl,h2⟩;refine⟨rfl,zH (h2.mono ?_)⟩;rintro e' w3 ⟨rfl,q3,h3⟩;refine⟨rfl,q3,zH (h3.mono ?_)⟩;rintro e' w4 ⟨rfl,h4⟩;exact⟨rfl,zH (EX.row hQ hT dG eF (λ j hj=>.inl (hF j hj)) Fg GG ⟨by simp only[zl,dw];omega,by simp only[zl,dw];omega⟩ h4 (aZ _))⟩
end
end
end Go.Proofs.YtlipgbnnbefhjaaGreatDoor
