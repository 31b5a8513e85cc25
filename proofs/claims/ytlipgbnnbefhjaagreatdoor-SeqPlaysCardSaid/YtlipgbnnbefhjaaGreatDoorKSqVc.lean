/- Facts on rows of numbers on pages. -/
import Derived.Test.YtlipgbnnbefhjaaGreatDoorKSqUc
set_option maxRecDepth 100000
set_option maxHeartbeats 8000000
set_option linter.unusedSimpArgs false
namespace Go.Proofs.YtlipgbnnbefhjaaGreatDoor
open Go.RowKit
open UK (str aO nth Only Row aI)
theorem Body.qo{e up:Nat}{n:Sn}{ae:List SS}(h:Body e up n ae)(up':Nat):Body e up' {n with up:=up'} ae:=by
 rcases h with⟨rfl,rfl,aA,rfl⟩|⟨h0,rfl⟩
 ·exact .inl ⟨rfl,rfl,aA,rfl⟩
 exact .inr ⟨h0,rfl⟩
section
variable{A B:AP}{rt aC e up:Nat}{m:List KV}{qs bK:List Nat}{C:List bV}{s:SS}{n:Sn}{ae:List SS}
theorem xrg{pg:Nat}(hv:df (dE C (aM pg n ae).lv) m)(hb:Body e up n ae)(i p q:Nat):df (dE C ((aM p (aS n i) (ae.take i)).lv++(aM q (aV n i) (ae.drop i)).lv)) (iW (iW m (aS n i).aA (UInt64.ofNat p)) (aV n i).aA (UInt64.ofNat q)):=by
 obtain⟨_,a2,a3⟩:=hb.size
 cases hl:n.leaf with
 | true=>
  obtain⟨_,_,rfl,_⟩:=a2 hl;have e1:(aM pg n []).lv=[]++(pg,n.aA.take i++n.aA.drop i)::[]:=by simp[aM,hl,cu]
  rw[e1]at hv;have h2:=hv.split;have h3:=h2.move (q:=p);have h4:df (dE C ([(p,n.aA.take i)]++(pg,n.aA.drop i)::[])) (iW m (n.aA.take i) (UInt64.ofNat p)):=h3;have h5:=h4.move (q:=q);have e2:(aM p (aS n i) (([]:List SS).take i)).lv++(aM q (aV n i) (([]:List SS).drop i)).lv=[(p,n.aA.take i)]++(q,n.aA.drop i)::[]:=by simp[aM,aS,aV,hl,cu]
  rw[e2,show(aV n i).aA=n.aA.drop i by simp[aV,hl],show(aS n i).aA=n.aA.take i by simp[aS,hl]];exact h5
 | false=>
  have hid:n.aA=[]:=(a3 hl).2.2.1
  have e2:(aM p (aS n i) (ae.take i)).lv++(aM q (aV n i) (ae.drop i)).lv=(aM pg n ae).lv:=by
   simp only[aM,aS,aV,hl];simp only[vR,if_false,gH];exact(OC ae i).symm
  rw[e2,show(aV n i).aA=[] by simp[aV,hl,hid],show(aS n i).aA=[] by simp[aS,hl,hid]];exact hv
structure q9(A B:AP)(rt aC:Nat)(m:List KV)(qs bK:List Nat)(e:Nat)(s s1 s2:SS)(n1 n2:Sn)(m':List KV):Prop where
 k1:eT (aU B) e rt s1
 k2:eT (aU B) e rt s2
 rp:bZ B rt aC (rt::(s1.ps++s2.ps)) m' bK
 rv:df (s1.lv++s2.lv) m'
 c1:n1.count=s1.l.length
 c2:n2.count=s2.l.length
 o1:qp n1
 o2:qp n2
 reach:A.Reach B
 ay:B.ay+2+bK.length=A.ay+qs.length
 num:bP (s1.lv++s2.lv)=bP s.lv
 len:s1.ps.length+s2.ps.length+1=s.ps.length+2
theorem ZI.raised(h:ZI A rt aC m qs [] e s n)(hb:Body e 0 n ae)(hs:s=aM s.pg n ae)(hk:∀t∈ae,eT (aU A) (e-1) s.pg t){A1:AP}{a b:Nat}{n0:Sn}(hn0:n0={n with up:=rt}){rE:List Nat}
  (ha:a∉s.ps) (Sw:A.Reach A1) (OD:vG A A1 (s.ps++aT []) (bJ (ae.take (n.size/2))) a) (Sy:eT (aU A1) e rt (aM a (aS n0 (n.size/2)) (ae.take (n.size/2)))) (Yr:A1.ay+1+rE.length=A.ay+qs.length)
  (hR:bZ B rt aC (b::a::(s.ps++aT [])) (iW (iW m (aS n0 (n.size/2)).aA (UInt64.ofNat a)) (aV n0 (n.size/2)).aA (UInt64.ofNat b)) bK) (CZ:A1.Reach B) (OE:vG A1 B (a::(s.ps++aT [])) (bJ (ae.drop (n.size/2))) b)
  (Sz:eT (aU B) e rt (aM b (aV n0 (n.size/2)) (ae.drop (n.size/2)))) (Ld:B.ay+1+bK.length=A1.ay+rE.length) (f1:bA (aS n0 (n.size/2))) (f2:bA (aV n0 (n.size/2))) :
  q9 A B rt aC m qs bK e s (aM a (aS n0 (n.size/2)) (ae.take (n.size/2))) (aM b (aV n0 (n.size/2)) (ae.drop (n.size/2))) (aS n0 (n.size/2)) (aV n0 (n.size/2)) (iW (iW m (aS n0 (n.size/2)).aA (UInt64.ofNat a)) (aV n0 (n.size/2)).aA (UInt64.ofNat b)):=by
 have hb0:Body e rt n0 ae:=by rw[hn0];exact hb.qo rt
 generalize n.size/2=i at *;have hrt:s.pg=rt:=h.root;simp only[aT,jw]at hR OD OE;have hps:s.ps=s.pg::bI ae:=congrArg SS.ps hs
 have hnd:(bI ae).Nodup:=by
  have:=(bF.1 h.rp.rD).1;rw[hps]at this;exact(dL.1 this).2
 have hsub:∀p∈bI ae,p∈s.ps:=λ p hp=>by rw[hps];exact eu _ hp
 have hkd:∀p∈bJ (ae.drop i),p∈bI (ae.drop i):=λ p hp=>by
  obtain⟨t,ht,rfl⟩:=tZ hp;obtain⟨x,_,hx,_⟩:=hk t (fA ht);exact kP.2 ⟨t,ht,hx.mem⟩
 have nJ:=hnd;rw[uF ae i]at nJ;have wh:=(bF.1 nJ).2.2
 have k1:eT (aU B) e rt (aM a (aS n0 i) (ae.take i)):=by
  refine Sy.stay OE (λ p hp=>?_) (λ p hp hq=>?_)
  ·rcases aX.1 hp with rfl|hp
   ·exact gZ ..
   exact eu _ (hsub p (by rw[uF ae i];exact bR _ hp))
  rcases aX.1 hp with rfl|hp
  ·exact ha (hsub _ (by rw[uF ae i];exact fE _ (hkd _ hq)))
  exact wh p hp p (hkd _ hq) rfl
 refine⟨k1,Sz,hR.perm ?_,?_,(hb0.aS i).1.count,(hb0.aV i).1.count,f1.ok,f2.ok,Sw.trans CZ,by omega,?_,?_⟩
 ·rw[hps,hrt,uF ae i];show(b::a::rt::(bI (ae.take i)++bI (ae.drop i))).Perm (rt::(a::bI (ae.take i)++b::bI (ae.drop i)));rw[List.perm_iff_count];intro x;simp only[List.count_append,List.count_cons];omega
 ·have hv:df (dE [] (aM s.pg n0 ae).lv) m:=by
   have:=h.rv;rw[hs]at this;rw[hn0];exact this
  exact xrg hv hb0 i a b
 ·rw[Yq a b i n0 ae hb0]
  have e1:bP (aM a n0 ae).lv=bP (aM s.pg n ae).lv:=by
   rw[hn0];unfold aM
   cases n.leaf<;>simp[bP]
  rw[e1,<-hs]
 rw[hps,uF ae i];show(a::bI (ae.take i)).length+(b::bI (ae.drop i)).length+1=_;simp only[dw,zl];omega
theorem q9.store{s1 s2:SS}{n1 n2:Sn}{m':List KV}(h:q9 A B rt aC m qs bK e s s1 s2 n1 n2 m')(hm:m'.length<=1800000)(hp1:s1.pg<60001)(hp2:s2.pg<60001) :
  bA (bO 0 [s1,s2])/\bO 0 [s1,s2]=⟨false,0,[],[s1.pg,s2.pg],[n1.count,n2.count]⟩/\RI (B.az rt (encS (B.c rt) (bO 0 [s1,s2]))) rt aC m' bK (e+1) (jC rt [s1,s2]) (bO 0 [s1,s2])/\A.Reach (B.az rt (encS (B.c rt) (bO 0 [s1,s2])))/\(B.az rt (encS (B.c rt) (bO 0 [s1,s2]))).ay=B.ay/\bP (jC rt [s1,s2]).lv=bP s.lv:=by
 have hlv:cu [s1,s2]=s1.lv++s2.lv:=by simp[cu]
 have hpl:bI [s1,s2]=s1.ps++s2.ps:=by simp[bI]
 have hct:=h.rv.count h.rp.tree.rise;rw[Gq,zl]at hct
 have hx:bA (bO 0 [s1,s2]):=by
  refine⟨by show 0<_;omega,(λ h=>by cases h),λ _=>⟨by simp[bO,bJ],by simp[bO,bJ,dm],rfl,λ k hk=>?_,λ k hk=>?_⟩⟩
  ·simp only[bO,bJ,List.map_cons,List.map_nil,aX,List.not_mem_nil,or_false]at hk;omega
  simp only[bO,dm,List.map_cons,List.map_nil,aX,List.not_mem_nil,or_false]at hk;have e1:s1.l.length=(bP s1.lv).length:=rfl;have e2:s2.l.length=(bP s2.lv).length:=rfl;omega
 have hk:∀t∈[s1,s2],eT (aU B) e rt t:=λ t ht=>by
  simp only[aX,List.not_mem_nil,or_false]at ht;rcases ht with rfl|rfl
  ·exact h.k1
  exact h.k2
 have hz:ZI B rt aC m' bK [] (e+1) (jC rt [s1,s2]) (bO 0 [s1,s2]):=by
  refine⟨?_,?_,O9 hk,trivial,rfl⟩
  ·show bZ B rt aC (rt::bI [s1,s2]++[]) m' bK;rw[hpl,jw];exact h.rp
  show df (cu [s1,s2]) m';rw[hlv];exact h.rv
 obtain⟨z1,z2,z3,z4,z5⟩:=hz.store hx;refine⟨hx,by rw[h.c1,h.c2];rfl,⟨z1,z2,λ _=>by simp[bO,bJ]⟩,h.reach.trans z3,z4,?_⟩;show bP (cu [s1,s2])=_;rw[hlv,h.num]
end
section
variable{B E F:Nat->Prop}{W W':World}{P D Q T rt aC k nb e:Nat}{A:AP}{n:Sn}{qs:List Nat}{m:List KV}{s:SS}{ka va aa:Option Addr}{kc vc ac:Nat}
def ybc(F B:Nat->Prop)(W w7:World)(P D Q T rt aC k:Nat)(A:AP)(m:List KV)(qs:List Nat)(e:Nat)(s:SS)(n:Sn)(nb mb a b:Nat):Prop:=
 ∃A' m' bK F' n1 n2 s1 s2,(∀j,F j->F' j)/\aD F' w7 P D Q T rt aC A' (k+400+1100*n.aA.length)/\gK F' w7 nb n1/\gK F' w7 mb n2/\s1.pg=a/\s2.pg=b/\a<60001/\b<60001/\m'.length<=1800000/\q9 A A' rt aC m qs bK e s s1 s2 n1 n2 m'/\Kept (λ j=>F j/\¬B j) W w7
theorem xt9{n0:Sn}(hn0:n0={n with up:=rt})(h:aD F W P D Q T rt aC A k)(hk:k+130000<900000000)(hz:ZI A rt aC m qs [] e s n)(hlt:n.ax<n.size)(hle:n.size<=n.ax+1)(hn:eD B W nb n0 ka va aa kc vc ac)(hB:∀j,B j->F j)(hQ:¬B Q)(hT:¬B T)(ht:¬B 0)(aY:m.length+700<=14*(A.ay+qs.length)) :
  Calls Tryz.prog 102 #[.pointer nb] W λ e' w5=>∃mb:Nat,e'= .returned (.pointer mb) /\
   Calls Tryz.prog 103 #[.pointer Q,.pointer nb] w5 λ e' w6=>∃a:Nat,e'= .returned (.tuple #[.int .i64 a,.int .i64 0]) /\
    Calls Tryz.prog 103 #[.pointer Q,.pointer mb] w6 λ e' w7=>∃b:Nat,e'= .returned (.tuple #[.int .i64 b,.int .i64 0])/\ybc F B W w7 P D Q T rt aC k A m qs e s n nb mb a b:=by
 obtain⟨ae,hb,hkk,hs⟩:=hz.ni.body;have hb':Body e 0 n ae:=hb;have hb0:Body e rt n0 ae:=by rw[hn0];exact hb.qo rt
 have hrt:s.pg=rt:=hz.root;have S9:rt<4294967296:=by have:=hz.Ap.2;omega
 have hsz:n0.size=n.size/\n0.ax=n.ax:=by rw[hn0];exact⟨rfl,rfl⟩
 have jd:n0.aA=n.aA:=by rw[hn0]
 obtain⟨Yt,f2',t1',t2',g2,Gz⟩:=hz.halves hlt hle hb hz.pY hs hkk;have Yu:∀x:Sn,bA x->bA {x with up:=rt}:=λ x hx=>⟨S9,hx.leaf,hx.inner⟩;have eA:aS n0 (n.size/2)={aS n (n.size/2)with up:=rt}:=by rw[hn0];unfold aS;cases n.leaf<;>rfl
 have eB:aV n0 (n.size/2)={aV n (n.size/2)with up:=rt}:=by rw[hn0];unfold aV;cases n.leaf<;>rfl
 have f1:bA (aS n0 (n.size/2)):=by rw[eA];exact Yu _ Yt
 have f2:bA (aV n0 (n.size/2)):=by rw[eB];exact Yu _ f2'
 have t1:dD (aS n0 (n.size/2)):=by rw[eA];exact t1'
 have t2:dD (aV n0 (n.size/2)):=by rw[eB];exact t2'
 obtain⟨hw,hwn⟩:=hn.wins;have hsm:∀k∈n0.au,k<4294967296:=by rw[hn0];exact hz.small hb hs
 refine(Yp hw hwn hb0 (by omega) (by omega) hsm).mono ?_;rintro e' w5 ⟨mb,rfl,n1,n2,hmb,o7,o⟩;rw[hsz.1]at n1 n2;refine⟨mb,rfl,?_⟩;have rG:B nb:=hn.2 nb (.inl rfl);have k5:Kept (λ j=>j<W.heap.size/\¬B j) W w5:=⟨o.os,o.tape,o.output,o.size,λ j hj=>o.block j hj.1 (λ e=>hj.2 (e▸rG))⟩;have hs5:=h.own hB hQ hT ht k5
 have r1:gK (λ j=>F j\/(W.heap.size<=j/\j<w5.heap.size)) w5 nb (aS n0 (n.size/2)):=n1.node.mono (λ g hg=>.inl (hB g (by
  rcases hg with hg|hg
  ·exact hn.2 g (.inr hg)
  exact hg▸rG)))
 have r2:gK (λ j=>F j\/(W.heap.size<=j/\j<w5.heap.size)) w5 mb (aV n0 (n.size/2)):=n2.node.mono (λ g hg=>.inr (by
  rcases hg with hg|hg
  ·exact⟨hg.1,hg.2.1⟩
  exact hg▸⟨hmb,o7⟩))
 have hps:s.ps=s.pg::bI ae:=congrArg SS.ps hs;have hsub:∀p∈bI ae,p∈s.ps++aT []:=λ p hp=>by rw[hps];exact bR _ (eu _ hp)
 have hnd:(bI ae).Nodup:=by
  have:=(bF.1 hz.rp.rD).1;rw[hps]at this;exact(dL.1 this).2
 have Ls:=hnd;rw[uF ae (n.size/2)]at Ls;obtain⟨SA,SB,wh⟩:=bF.1 Ls;have rP:=hz.rp.tree.many;have hF:¬A.Full:=by rw[hz.rp.good.full];omega
 have hcA:=(n.kX (λ hl=>(hb.size.2.1 hl).2.2.2.1) (λ hl=>(hb.size.2.2 hl).2.2.1) (n.size/2))
 have aal:(aS n0 (n.size/2)).aA.length<=50:=by
  have:=(hb0.aS (n.size/2)).2.2;rw[this,zt,jd];have:=Yt.leaf;omega
 refine(Su (ae:=ae.take (n.size/2)) hs5 hz.rp hF r1 f1 (hb0.aS _).1 t1 (λ t ht=>⟨s.pg,hkk t (fI ht)⟩) (λ p hp=>hsub p (by rw[uF ae (n.size/2)];exact bR _ hp)) SA (by omega) (by omega)).mono ?_;rintro e' w6 ⟨rfl,A1,rE,k1,hs6,hk6,k6,OG,Sw,OD,Sy,ha,Yr⟩;refine⟨A.next,rfl,?_⟩;have hlA:=Sd (UInt64.ofNat A.next) (aS n0 (n.size/2)).aA m;have SC:=OG.tree.many;have hF1:¬A1.Full:=by rw[OG.good.full];omega
 refine(Su (ae:=ae.drop (n.size/2)) hs6 OG hF1 (r2.kept k6) f2 (hb0.aV _).1 t2 (λ t ht=>⟨s.pg,?_⟩) (λ p hp=>eu _ (hsub p (by rw[uF ae (n.size/2)];exact fE _ hp))) SB (by omega) (by omega)).mono ?_
 ·have hmt:=fA ht;refine(hkk t hmt).stay OD (λ p hp=>hsub p (kP.2 ⟨t,hmt,hp⟩)) (λ p hp hq=>?_);obtain⟨u,hu,rfl⟩:=tZ hq;obtain⟨x,_,hx,_⟩:=hkk u (fI hu);exact wh u.pg (kP.2 ⟨u,hu,hx.mem⟩) u.pg (kP.2 ⟨t,ht,hp⟩) rfl
 rintro e' w7 ⟨rfl,A2,EJ,k2,hs7,Ql,k7,Cc,CZ,OE,Sz,hbn,Ld⟩;have hRZ:=hz.raised (n0:=n0) hb' hs hkk hn0 (λ hm=>ha (bR _ hm)) Sw OD Sy Yr Cc CZ OE Sz Ld f1 f2
 have hl2:(aS n0 (n.size/2)).aA.length+(aV n0 (n.size/2)).aA.length=n.aA.length:=by
  rw[<-zl,xlm n0 (λ hl=>(hb0.size.2.2 hl).2.2.1),jd]
 refine⟨A1.next,rfl,A2,_,EJ,_,_,_,aM A.next (aS n0 (n.size/2)) (ae.take (n.size/2)),aM A1.next (aV n0 (n.size/2)) (ae.drop (n.size/2)),λ j hj=>.inl hj,hs7.up (by omega),(r1.kept k6).kept k7,(r2.kept k6).kept k7,rfl,rfl,AP.iX hz.rp.good hF,AP.iX OG.good hF1,?_,hRZ,?_⟩
 ·have h1:=Cc.tree.few;have h2:=OA Cc.tree.eY Cc.tree.has Cc.good;omega
 exact(k5.mono (λ j hj=>⟨h.pz.there j hj.1,hj.2⟩)).trans ((k6.trans k7).mono (λ j hj=>.inl hj.1))
end
end Go.Proofs.YtlipgbnnbefhjaaGreatDoor
