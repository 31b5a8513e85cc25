/- Facts on texts and trees on pages. -/
import Derived.Test.YtgpmiliahonaoaaGreatDoorKTrVc
set_option maxRecDepth 100000
set_option maxHeartbeats 8000000
set_option linter.unusedSimpArgs false
namespace Go.Proofs.YtgpmiliahonaoaaGreatDoor
open Go.RowKit
open UK (str aF nth Only)
theorem Lc{a b c c' new:List Nat}(h:(a++(c++b)).Nodup)(hc:c'.Nodup)(hm:∀p∈c',p∈c\/p∈new)(hn:∀p∈new,p∉a/\p∉b):(a++(c'++b)).Nodup:=by
 rw[bN,bN]at h ⊢;obtain⟨h1,⟨h2,h3,h4⟩,h5⟩:=h;refine⟨h1,⟨hc,h3,λ p hp q hq e=>?_⟩,λ p hp q hq e=>?_⟩
 ·rcases hm p hp with h6|h6
  ·exact h4 p h6 q hq e
  exact(hn p h6).2 (e▸hq)
 rcases dD.1 hq with hq|hq
 ·rcases hm q hq with h6|h6
  ·exact h5 p hp q (eF _ h6) e
  exact(hn q h6).1 (e▸hp)
 exact h5 p hp q (lI _ hq) e
theorem Tr.fD{A B:AP}{ps new:List Nat}{d:Nat}{s:Sb}(hT:Tr (aB A) d s)(hc:mr A B ps new)(hh:∀p∈s.ps,A.Has p)(hd:∀p∈s.ps,p∉ps):Tr (aB B) d s/\(iK (aB A) s.pg->iK (aB B) s.pg):=by
 have hsame:∀p∈s.ps,aB B p=aB A p:=λ p hp=>by unfold aB;rw[hc.same p (hh p hp) (hd p hp)]
 refine⟨Tr.same d s hT hsame,λ ⟨x,h1,h2⟩=>⟨x,(hsame _ hT.mem).trans h1,h2⟩⟩
theorem NQ{aj:List Sb}{i c:Nat}(h:(aj.map Sb.pg)[i]?=some c):∃t,aj[i]?=some t/\t.pg=c:=by
 rw[dL]at h;obtain⟨t,ht,e⟩:=Option.map_eq_some_iff.1 h;exact⟨t,ht,e⟩
structure eu(A:AP)(d:Nat)(s:Sb)(ag:List UInt64)(aj:List Sb)(i:Nat)(t:Sb):Prop where
 nd:aB A s.pg=some ⟨false,ag,[],aj.map Sb.pg⟩
 lL:iV (λ t=>Tr (aB A) d t/\iK (aB A) t.pg) ag aj
 l:s.l=gM aj
 ps:s.ps=s.pg::dP aj
 at_:aj[i]?=some t
section
variable{A B:AP}{d i:Nat}{s t:Sb}{ag:List UInt64}{aj:List Sb}{k:UInt64}
theorem eu.mem(h:eu A d s ag aj i t):t∈aj:=eZ h.at_
theorem eu.sub(h:eu A d s ag aj i t):∀p∈t.ps,p∈s.ps:=λ p hp=>by rw[h.ps];exact cu _ (wP h.mem hp)
theorem eu.nodup(h:eu A d s ag aj i t)(hn:s.ps.Nodup):((s.pg::dP (aj.take i))++(t.ps++dP (aj.drop (i+1)))).Nodup:=by
 rw[h.ps,Ie h.at_]at hn;exact hn
theorem eu.tn(h:eu A d s ag aj i t)(hn:s.ps.Nodup):t.ps.Nodup:=(bN.1 (bN.1 (h.nodup hn)).2.1).1
theorem eu.mZ(h:eu A d s ag aj i t)(hn:s.ps.Nodup):s.pg∉t.ps:=λ hm=>(bN.1 (h.nodup hn)).2.2 s.pg (by simp) s.pg (by simp[hm]) rfl
theorem eu.lo(h:eu A d s ag aj i t){p:Nat}(hp:p∈s.pg::dP (aj.take i)):p∈s.ps:=by
 rw[h.ps,Ie h.at_];rcases aN.1 hp with e|e
 ·simp[e]
 simp[e]
theorem eu.hi(h:eu A d s ag aj i t){p:Nat}(hp:p∈dP (aj.drop (i+1))):p∈s.ps:=by
 rw[h.ps,Ie h.at_];simp[hp]
theorem eu.other(h:eu A d s ag aj i t)(hn:s.ps.Nodup):∀u∈aj.take i++aj.drop (i+1),∀p∈u.ps,p∉t.ps/\p≠s.pg/\p∈s.ps:=by
 have hd:=h.nodup hn;rw[bN,bN]at hd;obtain⟨h1,⟨h2,h3,h4⟩,h5⟩:=hd;intro u hu p hp;rcases dD.1 hu with hu|hu
 ·have hm:=wP hu hp;exact⟨λ ht=>h5 p (by simp[hm]) p (by simp[ht]) rfl,λ e=>(dW.1 h1).1 (e▸hm),by rw[h.ps];exact cu _ (wP (iM hu) hp)⟩
 have hm:=wP hu hp;exact⟨λ ht=>h4 p ht p hm rfl,λ e=>h5 s.pg (by simp) p (by simp[hm]) e.symm,by rw[h.ps];exact cu _ (wP (jf hu) hp)⟩
end
theorem Tr.kid{A:AP}{d i c:Nat}{s:Sb}{ag:List UInt64}{ax:List Nat}(hT:Tr (aB A) (d+1) s)(hn:aB A s.pg=some ⟨false,ag,[],ax⟩)(hk:ax[i]?=some c):∃aj t,eu A d s ag aj i t/\t.pg=c/\ax=aj.map Sb.pg/\Tr (aB A) d t/\iK (aB A) t.pg:=by
 obtain⟨keys',aj,h1,h2,h3,h4⟩:=hT;rw[hn]at h1
 injection aZ h1 with _ e1 _ e2
 subst e1 e2;obtain⟨t,ht,e⟩:=NQ hk;obtain⟨a,b⟩:=h2.all t (eZ ht);exact⟨aj,t,⟨hn,h2,h3,h4,ht⟩,e,rfl,a,b⟩
theorem XO{aj:List Sb}{i:Nat}{t t' u:Sb}(h:aj[i]?=some t)(e:t'.pg=t.pg):(aj.take i++t'::u::aj.drop (i+1)).map Sb.pg=(aj.map Sb.pg).take (i+1)++u.pg::(aj.map Sb.pg).drop (i+1):=by
 have hi:=(dE.1 h).1
 have e1:(aj.map Sb.pg).take (i+1)=(aj.map Sb.pg).take i++[t.pg]:=by
  rw[List.take_add_one,dL,h];rfl
 rw[e1,dO,je,je,e,List.map_take,List.map_drop,cO];rfl
theorem DV{aj:List Sb}{i:Nat}{t t':Sb}(h:aj[i]?=some t)(e:t'.pg=t.pg):(aj.take i++t'::aj.drop (i+1)).map Sb.pg=aj.map Sb.pg:=by
 conv=>rhs;rw[F6 h]
 rw[dO,dO,je,je,e]
theorem Ye{a b c new:List Nat}{p:Nat}:(p∈a++(c++b)\/p∈new)↔(p∈a\/p∈b)\/(p∈c\/p∈new):=by
 simp only[dD]
 constructor
 ·rintro((h|h|h)|h)
  ·exact .inl (.inl h)
  ·exact .inr (.inl h)
  ·exact .inl (.inr h)
  exact .inr (.inr h)
 rintro((h|h)|h|h)
 ·exact .inl (.inl h)
 ·exact .inl (.inr (.inr h))
 ·exact .inl (.inr (.inl h))
 exact .inr h
theorem NS{a b c:List Nat}{p:Nat}:p∈a++(c++b)↔(p∈a\/p∈b)\/p∈c:=by
 simp only[dD]
 constructor
 ·rintro(h|h|h)
  ·exact .inl (.inl h)
  ·exact .inr h
  exact .inl (.inr h)
 rintro((h|h)|h)
 ·exact .inl h
 ·exact .inr (.inr h)
 exact .inr (.inl h)
theorem Ib{k v:UInt64}{d:Nat}{A B:AP}{pg more:Nat}{κ:UInt64}{e:Int}(h:kZ k v d A pg B more κ e):e=0->∀s,Tr (aB A) d s->s.pg=pg->s.ps.Nodup->(∀p∈s.ps,A.Has p)->A.Good->(∀p,A.Has p->(A.c p).length=504)->∃new,F7 A B d s (jd s.l k v) more κ new:=by
 induction h with
 | @found A pg i ks vs hn hk=>
  intro _ s hT cZ hnd hh hg hc;subst cZ;obtain⟨ks',vs',h1,h2,h3,h4,h5⟩:=hT;rw[hn]at h1
  injection aZ h1 with _ e1 e2 _
  subst e1 e2;have hp:=hh s.pg (by rw[h5];simp);have hf0:=lJ hn;have hfit:Fits ⟨true,ks,vs.set i v,[]⟩:=⟨λ _=>⟨(hf0.leaf rfl).1,by simpa using h2,rfl⟩,(λ h=>by cases h)⟩
  have kX:aB (A.ak s.pg (aS (A.c s.pg) ⟨true,ks,vs.set i v,[]⟩)) s.pg=some ⟨true,ks,vs.set i v,[]⟩:=by
   unfold aB;rw[AP.aL,if_pos rfl];exact EO _ _ (by rw[hc _ hp];omega) hfit
  refine⟨[],⟨by rw[h5];exact mr.ak hp hc (by rw[tO _ _ (by rw[hc _ hp];omega) hfit,hc _ hp]),by simp,λ _=>⟨⟨s.pg,ks.zip (vs.set i v),[s.pg]⟩,⟨ks,vs.set i v,kX,by simpa using h2,h3,rfl,rfl⟩,rfl,?_,by simp,λ p=>by rw[h5];simp,?_,λ x hx hl=>?_⟩,λ h=>absurd rfl h⟩⟩
  ·rw[h4];exact(xya h3 hk h2).symm
  ·rintro⟨x,hx,hf⟩;rw[hn]at hx;obtain rfl:=aZ hx;exact⟨_,kX,hf⟩
  rw[hn]at hx;obtain rfl:=aZ hx
  cases hl
 | @leaf A B pg i more ks vs κ e hn hst hno hset=>
  intro he s hT cZ hnd hh hg hc;subst cZ he;obtain⟨ks',vs',h1,h2,h3,h4,h5⟩:=hT;rw[hn]at h1
  injection aZ h1 with _ e1 e2 _
  subst e1 e2;have hp:=hh s.pg (by rw[h5];simp);have hf0:=(lJ hn).leaf rfl;dsimp only at hf0;have hle:=hst.le;have hlk:(ks.take i++k::ks.drop i).length=ks.length+1:=by simp;omega
  have hlv:(vs.take i++v::vs.drop i).length=ks.length+1:=by simp;omega
  have hsort:jK (ks.take i++k::ks.drop i):=eB.sorted hst h3 hno;have hok:mX ⟨true,ks.take i++k::ks.drop i,vs.take i++v::vs.drop i,[]⟩:=⟨λ _=>⟨by dsimp only;omega,rfl,by dsimp only;omega⟩,(λ h=>by cases h)⟩;have hins:=xx9 (v:=v) hst h2 hno;obtain⟨new,iT,hcase⟩:=hset.out hok hp hg hc;rcases hcase with⟨rfl,rfl,hfl,hB⟩|⟨hm0,NJ,rfl,hfl,rfl,hB1,hB2⟩
  ·refine⟨[],⟨by rw[h5];exact iT,by simp,λ _=>⟨⟨s.pg,_,[s.pg]⟩,⟨_,_,hB,by omega,hsort,rfl,rfl⟩,rfl,?_,by simp,λ p=>by rw[h5];simp,?_,λ x hx hl=>?_⟩,λ h=>absurd rfl h⟩⟩
   ·rw[h4];exact hins.symm
   ·rintro⟨x,hx,hf⟩;rw[hn]at hx;obtain rfl:=aZ hx;exact⟨_,hB,hf.grow rfl (by dsimp only;omega) (aO _)⟩
   rw[hn]at hx;obtain rfl:=aZ hx
   cases hl
  obtain⟨f1,f2,AQ,F8,_,_⟩:=hok.split hfl;have hmp:more≠s.pg:=λ e=>iT.fresh more (by simp) (e▸hp)
  have h31:ks.length+1=31:=by
   unfold oP at hfl;simp only[Bool.or_eq_true,decide_eq_true_eq,hlk,List.length_nil]at hfl;omega
  refine⟨[more],⟨by rw[h5];exact iT,by simp,λ h=>absurd h hm0,λ _=>⟨NJ,⟨s.pg,((ks.take i++k::ks.drop i).take 15).zip ((vs.take i++v::vs.drop i).take 15),[s.pg]⟩,⟨more,((ks.take i++k::ks.drop i).drop 15).zip ((vs.take i++v::vs.drop i).drop 15),[more]⟩,?_,?_,rfl,rfl,?_,?_,?_,⟨_,hB1,AQ⟩,⟨_,hB2,F8⟩,?_,λ p=>by rw[h5];simp⟩⟩⟩
  ·refine⟨_,_,by rw[hB1,Hw (n:=15) (by omega)],?_,hsort.take 15,rfl,rfl⟩;rw[zt,zt];omega
  ·refine⟨_,_,by rw[hB2,Hw (n:=15) (by omega)],?_,hsort.drop 15,rfl,rfl⟩;rw[zd,zd];omega
  ·rw[<-List.zip_append (by rw[zt,zt];omega),iq,iq,h4];exact hins.symm
  ·have:=(RP (vs:=vs.take i++v::vs.drop i) hsort (h:=15) (by omega)).1;rw[Hw (n:=15) (by omega)];exact this
  ·have:=(RP (vs:=vs.take i++v::vs.drop i) hsort (h:=15) (by omega)).2;rw[Hw (n:=15) (by omega)];exact this
  simp[dz hmp]
 | @stop d A B pg i c more ag ax κ e hn hix gD hrec hor ih=>
  intro he s hT cZ hnd hh hg hc;subst cZ he;obtain rfl:more=0:=by rcases hor with h|h;exact absurd rfl h;exact h
  obtain⟨aj,t,hK,hpt,rfl,nH,pU⟩:=hT.kid hn gD;obtain⟨new,hO⟩:=ih rfl t nH hpt (hK.tn hnd) (λ p hp=>hh p (hK.sub p hp)) hg hc;obtain⟨t',hT',fZ,hl',hn',hm',Ld,_⟩:=hO.one rfl;have iT:=hO.fD.wider hK.sub
  have jF:=(hK.lL.imp (Q:=λ _=>True) (λ _ _ _=>trivial)).set hK.at_ hix (t:=t') (λ x hx=>by
   rw[hl']at hx;rcases XW hx with h|h
   ·exact .inl h
   exact .inr (by rw[h])) trivial
  have hother:∀u∈aj.take i++aj.drop (i+1),Tr (aB B) d u/\iK (aB B) u.pg:=λ u hu=>by
   have qb:u∈aj:=by
    rcases dD.1 hu with h|h
    ·exact iM h
    exact jf h
   obtain⟨a,b⟩:=hK.lL.all u qb;have ho:=hK.other hnd u hu;obtain⟨a',b'⟩:=Tr.fD a hO.fD (λ p hp=>hh p (ho p hp).2.2) (λ p hp=>(ho p hp).1);exact⟨a',b' b⟩
  have F9:aB B s.pg=aB A s.pg:=by unfold aB;rw[hO.fD.same s.pg (hh _ hT.mem) (hK.mZ hnd)]
  refine⟨new,⟨iT,aP hO.few (by omega),λ _=>⟨⟨s.pg,gM (aj.take i++t'::aj.drop (i+1)),s.pg::dP (aj.take i++t'::aj.drop (i+1))⟩,⟨ag,aj.take i++t'::aj.drop (i+1),?_,⟨jF.len,jF.ord,λ u hu=>?_⟩,rfl,rfl⟩,rfl,?_,?_,λ p=>?_,λ ⟨x,hx,hf⟩=>⟨x,F9.trans hx,hf⟩,λ x hx hl=>⟨x,F9.trans hx,hl⟩⟩,λ h=>absurd rfl h⟩⟩
  ·dsimp only;rw[F9,hn,DV hK.at_ (fZ.trans rfl)]
  ·rcases dD.1 hu with h|h
   ·exact hother u (by simp[h])
   rcases aN.1 h with rfl|h
   ·rw[fZ];exact⟨hT',Ld pU⟩
   exact hother u (by simp[h])
  ·dsimp only;rw[hK.l,Lb hK.at_,AL,uG,hl',NM (NN (hK.lL.left hK.at_ hix.below)) (NP (hK.lL.right hK.at_ hix.above))]
  ·have:=Lc (hK.nodup hnd) hn' (λ p hp=>(hm' p).1 hp) (λ p hp=>⟨λ hx=>hO.fD.fresh p hp (hh p (hK.lo hx)),λ hx=>hO.fD.fresh p hp (hh p (hK.hi hx))⟩);rw[tV,uH];exact this
  dsimp only;rw[hK.ps,Ie hK.at_,tV,uH,<-lV,<-lV,NS,Ye,hm' p]
 | @up d A B1 B pg i c iJ more ag ax mF κ e hn hix gD hrec hm1 hset ih=>
  intro he s hT cZ hnd hh hg hc;subst cZ he;obtain⟨aj,t,hK,hpt,rfl,nH,pU⟩:=hT.kid hn gD;obtain⟨oG,hO⟩:=ih rfl t nH hpt (hK.tn hnd) (λ p hp=>hh p (hK.sub p hp)) hg hc;obtain⟨NJ,t',u',hT',RH,fZ,zC,hl',hlt,hge,hF1,hF2,hn',hm'⟩:=hO.two hm1;have Le:=hO.fD.wider hK.sub
  have hin:∀x∈t'.l++u'.l,x∈t.l\/x.1=k:=λ x hx=>by
   rw[hl']at hx;rcases XW hx with h|h
   ·exact .inl h
   exact .inr (by rw[h])
  have ht0:t'.l≠[]:=λ h0=>by have:=hT'.many _ _ (by rw[fZ];exact hF1);rw[h0]at this;simp at this
  have hu0:u'.l≠[]:=λ h0=>by have:=RH.many _ _ (by rw[zC];exact hF2);rw[h0]at this;simp at this
  have jF:=(hK.lL.imp (Q:=λ _=>True) (λ _ _ _=>trivial)).ins hK.at_ hix (t:=t') (u:=u') (κ:=mF) (λ x hx=>hin x (by simp[hx])) (λ x hx=>hin x (by simp[hx])) hlt hge ht0 hu0 trivial trivial;have hf0:=(lJ hn).inner rfl;dsimp only at hf0;obtain⟨z1,z2,z3,_,z5⟩:=hf0;have hi:=(dE.1 hK.at_).1;have rU:=XO (t':=t') (u:=u') hK.at_ fZ;rw[zC]at rU
  have hkl:((aj.map Sb.pg).take (i+1)++iJ::(aj.map Sb.pg).drop (i+1)).length=(aj.map Sb.pg).length+1:=by
   rw[<-rU];simp;omega
  have aat:aB B1 s.pg=aB A s.pg:=by unfold aB;rw[hO.fD.same s.pg (hh _ hT.mem) (hK.mZ hnd)]
  have hok:mX ⟨false,ag.take i++mF::ag.drop i,[],(aj.map Sb.pg).take (i+1)++iJ::(aj.map Sb.pg).drop (i+1)⟩:=by
   refine⟨(λ h=>by cases h),λ _=>⟨?_,rfl,?_,?_,λ q hq=>?_⟩⟩
   ·dsimp only;rw[hkl];simp;simp at z1;omega
   ·dsimp only;rw[hkl];omega
   ·dsimp only;rw[hkl];omega
   rcases dD.1 hq with h|h
   ·exact z5 q (iM h)
   rcases aN.1 h with rfl|h
   ·omega
   exact z5 q (jf h)
  have RQ:B1.Has s.pg:=(hO.fD.has _).2 (.inl (hh _ hT.mem));obtain⟨Cu,zD,hcase⟩:=hset.out hok RQ (hO.fD.good hg) hO.fD.dR;have iT:mr A B s.ps (oG++Cu):=Le.trans zD (λ p hp=>.inl (by rw[bz.1 hp];exact hT.mem))
  -- the ax stand behind the write
  have vG:∀p,(p∈s.ps\/p∈oG)->B1.Has p:=λ p hp=>(hO.fD.has p).2 (by rcases hp with h|h;exact .inl (hh p h);exact .inr h)
  have hall:∀w∈aj.take i++t'::u'::aj.drop (i+1),Tr (aB B) d w/\iK (aB B) w.pg:=λ w hw=>by
   have hB1:(Tr (aB B1) d w/\iK (aB B1) w.pg)/\∀p∈w.ps,B1.Has p/\p≠s.pg:=by
    have hoth:∀u∈aj.take i++aj.drop (i+1),(Tr (aB B1) d u/\iK (aB B1) u.pg)/\∀p∈u.ps,B1.Has p/\p≠s.pg:=λ u hu=>by
     have qb:u∈aj:=by
      rcases dD.1 hu with h|h
      ·exact iM h
      exact jf h
     obtain⟨a,b⟩:=hK.lL.all u qb;have ho:=hK.other hnd u hu;obtain⟨a',b'⟩:=Tr.fD a hO.fD (λ p hp=>hh p (ho p hp).2.2) (λ p hp=>(ho p hp).1);exact⟨⟨a',b' b⟩,λ p hp=>⟨vG p (.inl (ho p hp).2.2),(ho p hp).2.1⟩⟩
    have hnew:∀p∈t'.ps++u'.ps,B1.Has p/\p≠s.pg:=λ p hp=>by
     rcases(hm' p).1 hp with h|h
     ·exact⟨vG p (.inl (hK.sub p h)),λ e=>hK.mZ hnd (e▸h)⟩
     exact⟨vG p (.inr h),λ e=>hO.fD.fresh p h (e▸hh _ hT.mem)⟩
    rcases dD.1 hw with h|h
    ·exact hoth w (by simp[h])
    rcases aN.1 h with rfl|h
    ·exact⟨⟨hT',by rw[fZ];exact hF1⟩,λ p hp=>hnew p (by simp[hp])⟩
    rcases aN.1 h with rfl|h
    ·exact⟨⟨RH,by rw[zC];exact hF2⟩,λ p hp=>hnew p (by simp[hp])⟩
    exact hoth w (by simp[h])
   obtain⟨⟨a,b⟩,c⟩:=hB1;obtain⟨a',b'⟩:=Tr.fD a zD (λ p hp=>(c p hp).1) (λ p hp=>by simpa using(c p hp).2);exact⟨a',b' b⟩
  have hl2:gM (aj.take i++t'::u'::aj.drop (i+1))=jd s.l k v:=by
   rw[hK.l,Lb hK.at_,AL,uG,uG,NM (NN (hK.lL.left hK.at_ hix.below)) (NP (hK.lL.right hK.at_ hix.above)),<-hl',cO]
  have uI:(s.pg::dP (aj.take i++t'::u'::aj.drop (i+1))).Nodup/\∀p,p∈s.pg::dP (aj.take i++t'::u'::aj.drop (i+1))↔p∈s.ps\/p∈oG:=by
   have e1:s.pg::dP (aj.take i++t'::u'::aj.drop (i+1))=(s.pg::dP (aj.take i))++((t'.ps++u'.ps)++dP (aj.drop (i+1))):=by
    rw[tV,uH,uH,cO];rfl
   rw[e1];refine⟨Lc (hK.nodup hnd) hn' (λ p hp=>(hm' p).1 hp) (λ p hp=>⟨λ hx=>hO.fD.fresh p hp (hh p (hK.lo hx)),λ hx=>hO.fD.fresh p hp (hh p (hK.hi hx))⟩),λ p=>?_⟩;rw[hK.ps,Ie hK.at_,<-lV,NS,Ye,hm' p]
  rcases hcase with⟨rfl,rfl,hfl,hB⟩|⟨hm0,RS,rfl,hfl,rfl,Cv,hB2'⟩
  ·rw[jL]at iT;refine⟨oG,⟨iT,aP hO.few (by omega),λ _=>⟨⟨s.pg,gM (aj.take i++t'::u'::aj.drop (i+1)),s.pg::dP (aj.take i++t'::u'::aj.drop (i+1))⟩,⟨_,_,by rw[hB,rU],⟨jF.len,jF.ord,hall⟩,rfl,rfl⟩,rfl,hl2,uI.1,uI.2,?_,λ x hx hl=>⟨_,hB,rfl⟩⟩,λ h=>absurd rfl h⟩⟩;rintro⟨x,hx,hf⟩;rw[hn]at hx;obtain rfl:=aZ hx;exact⟨_,hB,hf.grow rfl (by dsimp only;simp;omega) (by dsimp only;rw[hkl];omega)⟩
  obtain⟨f1,f2,AQ,F8,_,_⟩:=hok.split hfl
  have h41:32<=(aj.map Sb.pg).length+1/\(aj.map Sb.pg).length+1<=41:=by
   unfold oP at hfl;simp only[Bool.or_eq_true,decide_eq_true_eq,hkl]at hfl;rw[zl,dn,zt,zd]at hfl;simp at z1 z3 hfl ⊢;omega
  have hS:(aj.take i++t'::u'::aj.drop (i+1)).length=(aj.map Sb.pg).length+1:=by rw[<-hkl,<-rU,df]
  have hKl:(ag.take i++mF::ag.drop i).length=(aj.map Sb.pg).length:=by have:=jF.len;omega
  generalize hss:aj.take i++t'::u'::aj.drop (i+1)=ss at jF hall hl2 uI rU hS;generalize hkk:ag.take i++mF::ag.drop i=kk at jF hKl Cv hB2' AQ F8;rw[<-rU]at Cv hB2' AQ F8;obtain⟨n,hnn⟩:∃n,(ss.map Sb.pg).length/2=n:=⟨_,rfl⟩;have Yf:(ss.map Sb.pg).length=(aj.map Sb.pg).length+1:=by rw[df];exact hS
  have ek:kk=kk.take (n-1)++kk.getD (n-1) 0::kk.drop n:=by
   have:=iq (n-1) kk;rw[lm (by omega),show n-1+1=n by omega]at this;rw[fE,bL (by omega)];exact this.symm
  have es:ss=ss.take n++ss.drop n:=(iq n ss).symm
  have hin2:iV (λ w=>Tr (aB B) d w/\iK (aB B) w.pg) (kk.take (n-1)++kk.getD (n-1) 0::kk.drop n) (ss.take n++ss.drop n):=by
   rw[<-ek,<-es];exact⟨jF.len,jF.ord,hall⟩
  obtain⟨i1,i2,i3,i4⟩:=hin2.DU (by rw[zt,zt];omega);have il:=hO.few;refine⟨oG++[more],⟨iT,by rw[zl];simp;omega,λ h=>absurd h hm0,λ _=>⟨RS,⟨s.pg,gM (ss.take n),s.pg::dP (ss.take n)⟩,⟨more,gM (ss.drop n),more::dP (ss.drop n)⟩,⟨kk.take (n-1),ss.take n,?_,i1,rfl,rfl⟩,⟨kk.drop n,ss.drop n,?_,i2,rfl,rfl⟩,rfl,rfl,?_,?_,?_,⟨_,Cv,AQ⟩,⟨_,hB2',F8⟩,?_,λ p=>?_⟩⟩⟩
  ·dsimp only;rw[Cv,Hy hnn,List.map_take]
  ·dsimp only;rw[hB2',Hy hnn,List.map_drop]
  ·dsimp only;rw[<-AL,<-es,hl2]
  ·dsimp only;rw[<-rU,Hy hnn];exact i3
  ·dsimp only;rw[<-rU,Hy hnn];exact i4
  ·dsimp only
   have hm:more∉s.pg::dP ss:=λ hx=>by
    have:=(uI.2 more).1 hx;exact zD.fresh more (by simp) (vG more this)
   rw[es,tV]at uI hm;rw[bN];have h0:=uI.1;rw[<-lV,bN]at h0;refine⟨h0.1,dW.2 ⟨λ hx=>hm (by simp[hx]),h0.2.1⟩,λ a ha b hb e=>?_⟩;rcases aN.1 hb with rfl|hb
   ·exact hm (by rw[<-e,<-lV];exact eF _ ha)
   exact h0.2.2 a ha b hb e
  dsimp only;have h0:=uI.2 p;rw[es,tV]at h0;simp only[dD,aN,List.not_mem_nil,or_false]at h0 ⊢
  constructor
  ·rintro((h|h)|h|h)
   ·rcases h0.1 (.inl h)with h|h
    ·exact .inl h
    exact .inr (.inl h)
   ·rcases h0.1 (.inr (.inl h))with h|h
    ·exact .inl h
    exact .inr (.inl h)
   ·exact .inr (.inr h)
   rcases h0.1 (.inr (.inr h))with h|h
   ·exact .inl h
   exact .inr (.inl h)
  rintro(h|h|h)
  ·rcases h0.2 (.inl h)with h|h|h
   ·exact .inl (.inl h)
   ·exact .inl (.inr h)
   exact .inr (.inr h)
  ·rcases h0.2 (.inr h)with h|h|h
   ·exact .inl (.inl h)
   ·exact .inl (.inr h)
   exact .inr (.inr h)
  exact .inr (.inl h)
def gN(a b:Nd)(κ:UInt64):Nd×Nd×UInt64×Bool:=
 if a.leaf then
  if a.ag.length+b.ag.length<=30 then(⟨true,a.ag++b.ag,a.vals++b.vals,[]⟩,b,0,true)
  else(⟨true,(a.ag++b.ag).take ((a.ag++b.ag).length/2),(a.vals++b.vals).take ((a.ag++b.ag).length/2),[]⟩,⟨true,(a.ag++b.ag).drop ((a.ag++b.ag).length/2),(a.vals++b.vals).drop ((a.ag++b.ag).length/2),[]⟩,(a.ag++b.ag).getD ((a.ag++b.ag).length/2) 0,false)
 else
  if (a.ax++b.ax).length<=40 then(⟨false,a.ag++κ::b.ag,[],a.ax++b.ax⟩,b,0,true)
  else(⟨false,(a.ag++κ::b.ag).take ((a.ax++b.ax).length/2-1),[],(a.ax++b.ax).take ((a.ax++b.ax).length/2)⟩,⟨false,(a.ag++κ::b.ag).drop ((a.ax++b.ax).length/2),[],(a.ax++b.ax).drop ((a.ax++b.ax).length/2)⟩,(a.ag++κ::b.ag).getD ((a.ax++b.ax).length/2-1) 0,false)
def wQ(n i:Nat):Nat:=if i=n-1 then i-1 else i
inductive dZ(k:UInt64):Nat->AP->Nat->AP->Bool->Bool->Prop
 | none {A:AP} {pg:Nat} {ks vs:List UInt64}:aB A pg=some ⟨true,ks,vs,[]⟩->k∉ks->dZ k 0 A pg A false false
 | leaf {A:AP} {pg i:Nat} {ks vs:List UInt64}:aB A pg=some ⟨true,ks,vs,[]⟩->ks[i]?=some k->dZ k 0 A pg (A.ak pg (aS (A.c pg) ⟨true,ks.take i++ks.drop (i+1),vs.take i++vs.drop (i+1),[]⟩)) true (decide (ks.length-1<15))
 | Lf {d:Nat} {A B:AP} {pg i c:Nat} {ag:List UInt64} {ax:List Nat} {was:Bool}:aB A pg=some ⟨false,ag,[],ax⟩->dN ag k i->ax[i]?=some c->dZ k d A c B was false->dZ k (d+1) A pg B was false
 | even {d:Nat} {A B1 B2:AP} {pg i c m ca cb:Nat} {ag:List UInt64} {ax:List Nat} {was:Bool} {a b a' b':Nd} {κ dM:UInt64}:aB A pg=some ⟨false,ag,[],ax⟩->dN ag k i->ax[i]?=some c->dZ k d A c B1 was true ->
   m=wQ ax.length i->ax[m]?=some ca->ax[m+1]?=some cb->ag[m]?=some κ->aB B1 ca=some a->aB B1 cb=some b->gN a b κ=(a',b',dM,false)->B2=(B1.ak ca (aS (B1.c ca) a')).ak cb (aS ((B1.ak ca (aS (B1.c ca) a')).c cb) b') ->
   dZ k (d+1) A pg (B2.ak pg (aS (B2.c pg) ⟨false,ag.set m dM,[],ax⟩)) was (decide (ax.length<20))
 | join {d:Nat} {A B1 B2:AP} {pg i c m ca cb:Nat} {ag:List UInt64} {ax:List Nat} {was:Bool} {a b a' b':Nd} {κ dM:UInt64}:aB A pg=some ⟨false,ag,[],ax⟩->dN ag k i->ax[i]?=some c->dZ k d A c B1 was true ->
   m=wQ ax.length i->ax[m]?=some ca->ax[m+1]?=some cb->ag[m]?=some κ->aB B1 ca=some a->aB B1 cb=some b->gN a b κ=(a',b',dM,true)->B2=(B1.ak ca (aS (B1.c ca) a')).give cb->ax.length≠2 ->
   dZ k (d+1) A pg (B2.ak pg (aS (B2.c pg) ⟨false,ag.take m++ag.drop (m+1),[],ax.take (m+1)++ax.drop (m+2)⟩)) was (decide (ax.length-1<20))
 | lift {d:Nat} {A B1 B2:AP} {pg i c m ca cb:Nat} {ag:List UInt64} {ax:List Nat} {was:Bool} {a b a' b':Nd} {κ dM:UInt64}:aB A pg=some ⟨false,ag,[],ax⟩->dN ag k i->ax[i]?=some c->dZ k d A c B1 was true ->
   m=wQ ax.length i->ax[m]?=some ca->ax[m+1]?=some cb->ag[m]?=some κ->aB B1 ca=some a->aB B1 cb=some b->gN a b κ=(a',b',dM,true)->B2=(B1.ak ca (aS (B1.c ca) a')).give cb->ax.length=2 ->
   dZ k (d+1) A pg ((B2.ak pg (aS (B2.c pg) a')).give ca) was true
structure dH(A B:AP)(ps gone:List Nat):Prop where
 reach:A.Reach B
 has:∀p,B.Has p↔A.Has p/\p∉gone
 same:∀p,B.Has p->p∉ps->B.c p=A.c p
 bu:A.bu<=B.bu/\(A.op=none->B.bu=A.bu+gone.length)
 dR:∀p,B.Has p->(B.c p).length=504
 shut:B.op=none↔A.op=none
theorem xyc(A:AP)(p:Nat)(s:List UInt8):(A.ak p s).op=none↔A.op=none:=by
 show(A.keep p).op=none↔_;unfold AP.keep
 cases h:A.op<;>simp
theorem yaz(A:AP)(p:Nat):(A.give p).op=none↔A.op=none:=by
 unfold AP.give
 cases A.op<;>simp
theorem dH.trans{A B C:AP}{ps ps2 gone DW:List Nat}(h:dH A B ps gone)(g:dH B C ps2 DW)(hs:∀p∈ps2,p∈ps):dH A C ps (gone++DW):=by
 refine⟨h.reach.trans g.reach,λ p=>?_,λ p hp hn=>?_,⟨aP h.bu.1 g.bu.1,λ ho=>?_⟩,g.dR,g.shut.trans h.shut⟩
 ·rw[g.has,h.has,dD]
  constructor
  ·rintro⟨⟨a,b⟩,c⟩;exact⟨a,λ d=>by rcases d with d|d;exact b d;exact c d⟩
  rintro⟨a,b⟩;exact⟨⟨a,λ d=>b (.inl d)⟩,λ d=>b (.inr d)⟩
 ·rw[g.same p hp (λ hm=>hn (hs p hm)),h.same p ((g.has p).1 hp).1 hn]
 have:=h.bu.2 ho;have:=g.bu.2 (h.shut.2 ho);rw[zl];omega
theorem dH.wider{A B:AP}{ps ps2 gone:List Nat}(h:dH A B ps gone)(hs:∀p∈ps,p∈ps2):dH A B ps2 gone:=⟨h.reach,h.has,λ p hp hn=>h.same p hp (λ hm=>hn (hs p hm)),h.bu,h.dR,h.shut⟩
theorem dH.good{A B:AP}{ps gone:List Nat}(h:dH A B ps gone)(g:A.Good):B.Good:=h.reach.good g
theorem dH.refl{A:AP}(hc:∀p,A.Has p->(A.c p).length=504)(ps:List Nat):dH A A ps []:=⟨AP.Reach.refl A,λ p=>by simp,λ _ _ _=>rfl,⟨aO _,λ _=>rfl⟩,hc,Iff.rfl⟩
theorem dH.ak{A:AP}{pg:Nat}{s:List UInt8}(hp:A.Has pg)(hc:∀p,A.Has p->(A.c p).length=504)(hs:s.length=504):dH A (A.ak pg s) [pg] []:=by
 refine⟨(AP.Reach.refl A).ak hp s,λ p=>by rw[AP.aA];simp,λ p _ hn=>?_,⟨aO _,λ _=>rfl⟩,λ p hp'=>?_,xyc A pg s⟩
 ·rw[AP.aL,if_neg];simp at hn;exact λ e=>hn e.symm
 rw[AP.aL]
 split
 ·exact hs
 exact hc p (AP.aA.1 hp')
theorem dH.give{A:AP}{pg:Nat}(hg:A.Good)(hp:A.Has pg)(hc:∀p,A.Has p->(A.c p).length=504):dH A (A.give pg) [] [pg]:=by
 obtain⟨_,h2,h3,h4⟩:=hg.give hp;refine⟨(AP.Reach.refl A).give hp,λ p=>by rw[h2];simp,λ p _ _=>by rw[AP.ky],⟨h3,h4⟩,λ p hp'=>?_,yaz A pg⟩;rw[AP.ky];exact hc p ((h2 p).1 hp').1
theorem Tr.RU{A B:AP}{ps gone:List Nat}{d:Nat}{s:Sb}(hT:Tr (aB A) d s)(hc:dH A B ps gone)(hh:∀p∈s.ps,B.Has p)(hd:∀p∈s.ps,p∉ps):Tr (aB B) d s/\(iK (aB A) s.pg->iK (aB B) s.pg):=by
 have hsame:∀p∈s.ps,aB B p=aB A p:=λ p hp=>by unfold aB;rw[hc.same p (hh p hp) (hd p hp)]
 refine⟨Tr.same d s hT hsame,λ ⟨x,h1,h2⟩=>⟨x,(hsame _ hT.mem).trans h1,h2⟩⟩
/-! ## two ax side by side -/
theorem NT{α:Type}{l:List α}{m:Nat}{a b:α}(h:l[m]?=some a)(h2:l[m+1]?=some b):l=l.take m++a::b::l.drop (m+2):=by
 have h1:=F6 h;have h3:(l.drop (m+1))[0]?=some b:=by rw[eY];exact h2
 have h4:=F6 h3;rw[jW,jM,jV]at h4
 conv=>lhs;rw[h1,h4]
theorem iV.FC{P:Sb->Prop}{ag:List UInt64}{aj:List Sb}{m:Nat}{a b:Sb}{κ:UInt64}(h:iV P ag aj)(ha:aj[m]?=some a)(hb:aj[m+1]?=some b)(hk:ag[m]?=some κ) :
  oW ag aj=mD (ag.take m) (aj.take m)++ .s a:: .k κ:: .s b::l9 (ag.drop (m+1)) (aj.drop (m+2)):=by
 have hl:=h.len;have h1:=(dE.1 hb).1
 conv=>lhs;rw[NT ha hb,F6 hk]
 exact DT _ _ (κ::ag.drop (m+1)) a (b::aj.drop (m+2)) (by rw[zt,zt];omega) (by rw[dn,dn,zd,zd];omega)
theorem It.zF{it:It}{a b c:Sb}(h1:It.R it (.s a))(h2:It.R it (.s b))(hc:∀x∈c.l,x∈a.l\/x∈b.l):It.R it (.s c):=by
 cases it with
 | s u=>
  intro x hx y hy;rcases hc y hy with h|h
  ·exact h1 x hx y h
  exact h2 x hx y h
 | k κ=>
  intro y hy;rcases hc y hy with h|h
  ·exact h1 y h
  exact h2 y h
theorem It.uJ{it:It}{a b c:Sb}(h1:It.R (.s a) it)(h2:It.R (.s b) it)(hc:∀x∈c.l,x∈a.l\/x∈b.l):It.R (.s c) it:=by
 cases it with
 | s u=>
  intro x hx y hy;rcases hc x hx with h|h
  ·exact h1 x h y hy
  exact h2 x h y hy
 | k κ=>
  intro y hy;rcases hc y hy with h|h
  ·exact h1 y h
  exact h2 y h
section
variable{P:Sb->Prop}{ag:List UInt64}{aj:List Sb}{m:Nat}{a b:Sb}{κ:UInt64}
theorem iV.one(h:iV P ag aj)(ha:aj[m]?=some a)(hb:aj[m+1]?=some b)(hk:ag[m]?=some κ){c:Sb}(hc:c.l=a.l++b.l)(hp:P c):iV P (ag.take m++ag.drop (m+1)) (aj.take m++c::aj.drop (m+2)):=by
 have hl:=h.len;have h1:=(dE.1 hb).1;have ho:=h.ord;rw[h.FC ha hb hk]at ho;simp only[List.pairwise_append,bR]at ho;obtain⟨o1,⟨oa,ok,ob,o2⟩,o3⟩:=ho;have hcm:∀x∈c.l,x∈a.l\/x∈b.l:=λ x hx=>by rw[hc]at hx;exact dD.1 hx
 refine⟨by rw[zl,zl,dn,zt,zd,zt,zd];omega,?_,λ u hu=>?_⟩
 ·rw[DT _ _ _ _ _ (by rw[zt,zt];omega) (by rw[zd,zd];omega),List.pairwise_append,bR];refine⟨o1,⟨λ it hit=>It.uJ (oa it (by simp[hit])) (ob it hit) hcm,o2⟩,λ it hit it' oZ=>?_⟩;rcases aN.1 oZ with rfl|oZ
  ·exact It.zF (o3 it hit _ (by simp)) (o3 it hit _ (by simp)) hcm
  exact o3 it hit it' (by simp[oZ])
 rcases dD.1 hu with hu|hu
 ·exact h.all u (iM hu)
 rcases aN.1 hu with rfl|hu
 ·exact hp
 exact h.all u (jf hu)
theorem iV.share(h:iV P ag aj)(ha:aj[m]?=some a)(hb:aj[m+1]?=some b)(hk:ag[m]?=some κ){c e:Sb}{dM:UInt64}(hce:c.l++e.l=a.l++b.l)(hc0:c.l≠[])(he0:e.l≠[])(Cw:∀x∈c.l,x.1.toNat<dM.toNat)(Cx:∀x∈e.l,dM.toNat<=x.1.toNat)(hpc:P c)(hpe:P e) :
  iV P (ag.set m dM) (aj.take m++c::e::aj.drop (m+2)):=by
 have hl:=h.len;have h1:=(dE.1 hb).1;have hkl:=(dE.1 hk).1;have ho:=h.ord;rw[h.FC ha hb hk]at ho;simp only[List.pairwise_append,bR]at ho;obtain⟨o1,⟨oa,ok,ob,o2⟩,o3⟩:=ho;have hcm:∀x∈c.l,x∈a.l\/x∈b.l:=λ x hx=>dD.1 (by rw[<-hce];simp[hx]);have hem:∀x∈e.l,x∈a.l\/x∈b.l:=λ x hx=>dD.1 (by rw[<-hce];simp[hx]);obtain⟨xc,NU⟩:=qW _ hc0;obtain⟨xe,hxe⟩:=qW _ he0;have ek:ag.set m dM=ag.take m++dM::ag.drop (m+1):=by rw[List.set_eq_take_append_cons_drop,if_pos hkl]
 have La:∀it∈mD (ag.take m) (aj.take m),It.R it (.s c)/\It.R it (.k dM)/\It.R it (.s e):=λ it hit=>by
  have q1:=It.zF (o3 it hit _ (by simp)) (o3 it hit (.s b) (by simp)) hcm;have q2:=It.zF (o3 it hit (.s a) (by simp)) (o3 it hit (.s b) (by simp)) hem;refine⟨q1,?_,q2⟩
  cases it with
  | s u=>exact λ x hx=>by have:=q1 x hx xc NU;have:=Cw xc NU;omega
  | k mF=>
   have:=q1 xc NU;have:=Cw xc NU;show mF.toNat<dM.toNat;omega
 have Ra:∀it∈l9 (ag.drop (m+1)) (aj.drop (m+2)),It.R (.s c) it/\It.R (.k dM) it/\It.R (.s e) it:=λ it hit=>by
  have q1:=It.uJ (oa it (by simp[hit])) (ob it hit) hcm;have q2:=It.uJ (oa it (by simp[hit])) (ob it hit) hem;refine⟨q1,?_,q2⟩
  cases it with
  | s u=>exact λ x hx=>by have:=q2 xe hxe x hx;have:=Cx xe hxe;omega
  | k mF=>
   have:=q2 xe hxe;have:=Cx xe hxe;show dM.toNat<mF.toNat;omega
 rw[ek];refine⟨by rw[zl,zl,dn,dn,dn,zt,zd,zt,zd];omega,?_,λ u hu=>?_⟩
 ·rw[DT _ _ (dM::ag.drop (m+1)) c (e::aj.drop (m+2)) (by rw[zt,zt];omega) (by rw[dn,dn,zd,zd];omega)];show(mD (ag.take m) (aj.take m)++ .s c:: .k dM:: .s e::l9 (ag.drop (m+1)) (aj.drop (m+2))).Pairwise It.R;simp only[List.pairwise_append,bR];refine⟨o1,⟨λ it hit=>?_,λ it hit=>?_,λ it hit=>(Ra it hit).2.2,o2⟩,λ it hit it' oZ=>?_⟩
  ·rcases aN.1 hit with rfl|hit
   ·exact Cw
   rcases aN.1 hit with rfl|hit
   ·exact λ x hx y hy=>by have:=Cw x hx;have:=Cx y hy;omega
   exact(Ra it hit).1
  ·rcases aN.1 hit with rfl|hit
   ·exact Cx
   exact(Ra it hit).2.1
  rcases aN.1 oZ with rfl|oZ
  ·exact(La it hit).1
  rcases aN.1 oZ with rfl|oZ
  ·exact(La it hit).2.1
  rcases aN.1 oZ with rfl|oZ
  ·exact(La it hit).2.2
  exact o3 it hit it' (by simp[oZ])
 rcases dD.1 hu with hu|hu
 ·exact h.all u (iM hu)
 rcases aN.1 hu with rfl|hu
 ·exact hpc
 rcases aN.1 hu with rfl|hu
 ·exact hpe
 exact h.all u (jf hu)
end
theorem jK.app{a b:List UInt64}(ha:jK a)(hb:jK b)(h:∀x∈a,∀y∈b,x.toNat<y.toNat):jK (a++b):=by
 intro i j x y hij hx hy;by_cases h1:j<a.length
 ·rw[bI (by omega)]at hx;rw[bI h1]at hy;exact ha i j x y hij hx hy
 rw[bP (by omega)]at hy;by_cases h2:i<a.length
 ·rw[bI h2]at hx;exact h x (eZ hx) y (eZ hy)
 rw[bP (by omega)]at hx;exact hb (i-a.length) (j-a.length) x y (by omega) hx hy
theorem RV{ks vs:List UInt64}(hv:vs.length=ks.length){x:UInt64}(hx:x∈ks):∃v,(x,v)∈ks.zip vs:=by
 obtain⟨i,hi,e⟩:=gB hx;refine⟨vs[i]'(by omega),?_⟩;rw[<-e];exact List.mem_of_getElem (i:=i) (h:=by rw[List.length_zip];omega) (by rw[List.getElem_zip])
theorem Yg:∀(ks vs:List UInt64) (n:Nat),(ks.take n).zip (vs.take n)++(ks.drop n).zip (vs.drop n)=ks.zip vs
 | ks,vs,0=>by simp
 | [],vs,n+1=>by simp
 | k::ks,[],n+1=>by simp
 | k::ks,v::vs,n+1=>by
  have:=Yg ks vs n;simp only[List.take_succ_cons,List.drop_succ_cons,List.zip_cons_cons,lV,this]
theorem Yh{ks vs:List UInt64}(hv:vs.length=ks.length)(h:0<ks.length):ks.zip vs≠[]:=λ e=>by
 have:=congrArg List.length e;rw[List.length_zip,List.length_nil]at this;omega
def RY(xa xb:Nd):Prop:=(xa.leaf=true->29<=xa.ag.length+xb.ag.length)/\(xa.leaf=false->31<=xa.ax.length+xb.ax.length)
theorem NV{f:Nat->Option Nd}{d:Nat}{a b:Sb}{κ dM:UInt64}{xa xb x y:Nd}{one:Bool}(ha:Tr f d a)(hb:Tr f d b)(hab:(a.ps++b.ps).Nodup)(hxa:f a.pg=some xa)(hxb:f b.pg=some xb)(fa:Fits xa)(fb:Fits xb)
  (hl:∀x∈a.l,x.1.toNat<κ.toNat) (hr:∀x∈b.l,κ.toNat<=x.1.toNat) (hn:RY xa xb) (he:gN xa xb κ=(x,y,dM,one)) :
  (one=true->Fits x/\rE x/\∀g:Nat->Option Nd,g a.pg=some x->(∀p∈a.ps++b.ps,p≠a.pg->p≠b.pg->g p=f p)->∃c,Tr g d c/\c.pg=a.pg/\c.l=a.l++b.l/\c.ps.Nodup/\∀p,p∈c.ps↔p∈a.ps++b.ps/\p≠b.pg) /\
  (one=false->Fits x/\Fits y/\rE x/\rE y/\∀g:Nat->Option Nd,g a.pg=some x->g b.pg=some y->(∀p∈a.ps++b.ps,p≠a.pg->p≠b.pg->g p=f p)->∃c e,Tr g d c/\Tr g d e/\c.pg=a.pg/\e.pg=b.pg/\c.l++e.l=a.l++b.l/\c.l≠[]/\e.l≠[] /\
   (∀x∈c.l,x.1.toNat<dM.toNat)/\(∀x∈e.l,dM.toNat<=x.1.toNat)/\(c.ps++e.ps).Nodup/\∀p,p∈c.ps++e.ps↔p∈a.ps++b.ps):=by
 cases d with
 | zero=>
  obtain⟨ka,va,a1,a2,a3,a4,a5⟩:=ha;obtain⟨kb,vb,b1,b2,b3,b4,b5⟩:=hb;rw[a1]at hxa;rw[b1]at hxb;obtain rfl:=aZ hxa;obtain rfl:=aZ hxb;obtain⟨fa1,_,_⟩:=fa.leaf rfl;obtain⟨NW,_,_⟩:=fb.leaf rfl;have h29:=hn.1 rfl;dsimp only at fa1 NW h29;have cZ:a.pg≠b.pg:=λ e=>by rw[a5,b5,e]at hab;simp at hab
  have hsort:jK (ka++kb):=a3.app b3 (λ u hu w hw=>by
   obtain⟨v1,h1⟩:=RV a2 hu;obtain⟨v2,h2⟩:=RV b2 hw;have:=hl _ (a4▸h1);have:=hr _ (b4▸h2);dsimp only at *;omega)
  have hz:(ka++kb).zip (va++vb)=a.l++b.l:=by rw[List.zip_append a2.symm,a4,b4]
  unfold gN at he;rw[if_pos rfl]at he;dsimp only at he;have hvl:(va++vb).length=(ka++kb).length:=by rw[zl,zl];omega
  have hkl:(ka++kb).length=ka.length+kb.length:=zl;by_cases hc:ka.length+kb.length<=30
  ·rw[if_pos hc]at he;obtain⟨rfl,rfl,rfl,rfl⟩:_/\_/\_/\_:=by simpa using he
   refine⟨λ _=>⟨⟨λ _=>⟨by dsimp only;omega,hvl,rfl⟩,(λ h=>by cases h)⟩,⟨λ _=>by dsimp only;omega,(λ h=>by cases h)⟩,λ g hg _=>⟨⟨a.pg,(ka++kb).zip (va++vb),[a.pg]⟩,⟨_,_,hg,hvl,hsort,rfl,rfl⟩,rfl,hz,by simp,λ p=>?_⟩⟩,(λ h=>by cases h)⟩;rw[a5,b5];simp
   constructor
   ·rintro rfl;exact⟨.inl rfl,cZ⟩
   rintro⟨rfl|rfl,h⟩
   ·rfl
   exact absurd rfl h
  rw[if_neg hc]at he;obtain⟨rfl,rfl,rfl,rfl⟩:_/\_/\_/\_:=by simpa only[Prod.mk.injEq]using he
  obtain⟨n,hnn⟩:∃n,(ka++kb).length/2=n:=⟨_,rfl⟩;rw[hnn];have hh:=RP (vs:=va++vb) hsort (h:=n) (by omega);have e1:((va++vb).take n).length=((ka++kb).take n).length:=by rw[zt,zt];omega
  have e2:((va++vb).drop n).length=((ka++kb).drop n).length:=by rw[zd,zd];omega
  have l1:((ka++kb).take n).length=n:=by rw[zt];omega
  have l2:((ka++kb).drop n).length=ka.length+kb.length-n:=by rw[zd];omega
  refine⟨(λ h=>by cases h),λ _=>⟨⟨λ _=>⟨by dsimp only;omega,e1,rfl⟩,(λ h=>by cases h)⟩,⟨λ _=>⟨by dsimp only;omega,e2,rfl⟩,(λ h=>by cases h)⟩,⟨λ _=>by dsimp only;omega,(λ h=>by cases h)⟩,⟨λ _=>by dsimp only;omega,(λ h=>by cases h)⟩,λ g hg hg2 _=>
   ⟨⟨a.pg,((ka++kb).take n).zip ((va++vb).take n),[a.pg]⟩,⟨b.pg,((ka++kb).drop n).zip ((va++vb).drop n),[b.pg]⟩,⟨_,_,hg,e1,hsort.take n,rfl,rfl⟩,⟨_,_,hg2,e2,hsort.drop n,rfl,rfl⟩,rfl,rfl,(Yg _ _ _).trans hz,Yh e1 (by omega),Yh e2 (by omega),hh.1,hh.2,by simp[cZ],λ p=>by rw[a5,b5]⟩⟩⟩
 | succ d=>
  obtain⟨ka,sa,a1,a2,a3,a4⟩:=ha;obtain⟨kb,sb,b1,b2,b3,b4⟩:=hb;rw[a1]at hxa;rw[b1]at hxb;obtain rfl:=aZ hxa;obtain rfl:=aZ hxb;obtain⟨fa1,fa2,fa3,_,fa5⟩:=fa.inner rfl;obtain⟨NW,Yi,Yj,_,Yk⟩:=fb.inner rfl;have h31:=hn.2 rfl;dsimp only at fa1 fa2 fa3 fa5 NW Yi Yj Yk h31;rw[df]at fa1 fa2 fa3 NW Yi Yj;rw[df,df]at h31;rw[a4,b4]at hab;have cZ:a.pg≠b.pg:=λ e=>(bN.1 hab).2.2 a.pg (by simp) b.pg (by simp) e;have hap:a.pg∉dP sa:=(dW.1 (bN.1 hab).1).1;have hbp:b.pg∉dP sb:=(dW.1 (bN.1 hab).2.1).1;have Lg:a.pg∉dP sb:=λ h=>(bN.1 hab).2.2 a.pg (by simp) a.pg (by simp[h]) rfl;have FD:b.pg∉dP sa:=λ h=>(bN.1 hab).2.2 b.pg (by simp[h]) b.pg (by simp) rfl;have ne1:∀s∈sa,s.l≠[]:=λ s hs h0=>by have:=(a2.all s hs).1.many _ _ (a2.all s hs).2;rw[h0]at this;simp at this
  have Yl:∀s∈sb,s.l≠[]:=λ s hs h0=>by have:=(b2.all s hs).1.many _ _ (b2.all s hs).2;rw[h0]at this;simp at this
  have hj:=a2.join b2 (κ:=κ) ne1 Yl (by rw[<-a3];exact hl) (by rw[<-b3];exact hr);have hfl:gM (sa++sb)=a.l++b.l:=by rw[AL,a3,b3]
  have hfp:dP (sa++sb)=dP sa++dP sb:=tV _ _;have hsl:(sa++sb).length=sa.length+sb.length:=zl;have qI:(sa.map Sb.pg++sb.map Sb.pg).length=sa.length+sb.length:=by rw[zl,df,df]
  have hkl:(ka++κ::kb).length=ka.length+kb.length+1:=by rw[zl,dn];omega
  have hmp:sa.map Sb.pg++sb.map Sb.pg=(sa++sb).map Sb.pg:=dO.symm
  have FE:∀k∈sa.map Sb.pg++sb.map Sb.pg,k<4294967296:=λ k hk=>by
   rcases dD.1 hk with h|h
   ·exact fa5 k h
   exact Yk k h
  have hkeep:∀g:Nat->Option Nd,(∀p∈a.ps++b.ps,p≠a.pg->p≠b.pg->g p=f p)->iV (λ t=>Tr g d t/\iK g t.pg) (ka++κ::kb) (sa++sb):=λ g hg=>hj.imp (λ s hs ⟨hT,x,hx,hF⟩=>by
   have hps:∀p∈s.ps,g p=f p:=λ p hp=>by
    have hm:p∈dP sa++dP sb:=by rw[<-hfp];exact wP hs hp
    refine hg p ?_ ?_ ?_
    ·rw[a4,b4];rcases dD.1 hm with h|h
     ·simp[h]
     simp[h]
    ·rintro rfl;rcases dD.1 hm with h|h
     ·exact hap h
     exact Lg h
    rintro rfl;rcases dD.1 hm with h|h
    ·exact FD h
    exact hbp h
   exact⟨Tr.same d s hT hps,x,(hps _ hT.mem).trans hx,hF⟩)
  have hnd:(a.pg::b.pg::dP (sa++sb)).Nodup:=by
   rw[hfp];refine dW.2 ⟨?_,dW.2 ⟨?_,?_⟩⟩
   ·simp[cZ,hap,Lg]
   ·simp[hbp,FD]
   have:=hab;rw[bN]at this ⊢;obtain⟨q1,q2,q3⟩:=this;exact⟨(dW.1 q1).2,(dW.1 q2).2,λ u hu w hw=>q3 u (by simp[hu]) w (by simp[hw])⟩
  unfold gN at he;rw[if_neg (by simp)]at he;dsimp only at he;by_cases hc:(sa.map Sb.pg++sb.map Sb.pg).length<=40
  ·rw[if_pos hc]at he;obtain⟨rfl,rfl,rfl,rfl⟩:_/\_/\_/\_:=by simpa only[Prod.mk.injEq]using he
   refine⟨λ _=>⟨⟨(λ h=>by cases h),λ _=>⟨by dsimp only;omega,by dsimp only;omega,hc,rfl,FE⟩⟩,⟨(λ h=>by cases h),λ _=>by dsimp only;omega⟩,λ g hg hs=>⟨⟨a.pg,gM (sa++sb),a.pg::dP (sa++sb)⟩,⟨_,_,by rw[<-hmp];exact hg,hkeep g hs,rfl,rfl⟩,rfl,hfl,?_,λ p=>?_⟩⟩,(λ h=>by cases h)⟩
   ·have:=dW.1 hnd;exact dW.2 ⟨λ h=>this.1 (by simp[h]),(dW.1 this.2).2⟩
   rw[a4,b4];dsimp only;rw[hfp];simp only[aN,dD]
   constructor
   ·rintro(rfl|h|h)
    ·exact⟨.inl (.inl rfl),cZ⟩
    ·exact⟨.inl (.inr h),λ e=>FD (e▸h)⟩
    exact⟨.inr (.inr h),λ e=>hbp (e▸h)⟩
   rintro⟨(h|h)|h|h,hn⟩
   ·exact .inl h
   ·exact .inr (.inl h)
   ·exact absurd h hn
   exact .inr (.inr h)
  rw[if_neg hc]at he;obtain⟨rfl,rfl,rfl,rfl⟩:_/\_/\_/\_:=by simpa only[Prod.mk.injEq]using he
  obtain⟨n,hnn⟩:∃n,(sa.map Sb.pg++sb.map Sb.pg).length/2=n:=⟨_,rfl⟩;rw[hnn]
  have ek:ka++κ::kb=(ka++κ::kb).take (n-1)++(ka++κ::kb).getD (n-1) 0::(ka++κ::kb).drop n:=by
   have:=iq (n-1) (ka++κ::kb);rw[lm (by omega),show n-1+1=n by omega]at this;rw[fE,bL (by omega)];exact this.symm
  have es:sa++sb=(sa++sb).take n++(sa++sb).drop n:=(iq n _).symm;have l1:((sa++sb).take n).length=n:=by rw[zt];omega
  have l2:((sa++sb).drop n).length=sa.length+sb.length-n:=by rw[zd];omega
  have m1:((sa.map Sb.pg++sb.map Sb.pg).take n).length=n:=by rw[zt];omega
  have m2:((sa.map Sb.pg++sb.map Sb.pg).drop n).length=sa.length+sb.length-n:=by rw[zd];omega
  have k1:((ka++κ::kb).take (n-1)).length=n-1:=by rw[zt];omega
  have k2:((ka++κ::kb).drop n).length=ka.length+kb.length+1-n:=by rw[zd];omega
  refine⟨(λ h=>by cases h),λ _=>⟨⟨(λ h=>by cases h),λ _=>⟨by dsimp only;omega,by dsimp only;omega,by dsimp only;omega,rfl,λ k hk=>FE k (iM hk)⟩⟩,⟨(λ h=>by cases h),λ _=>⟨by dsimp only;omega,by dsimp only;omega,by dsimp only;omega,rfl,λ k hk=>FE k (jf hk)⟩⟩,
   ⟨(λ h=>by cases h),λ _=>by dsimp only;omega⟩,⟨(λ h=>by cases h),λ _=>by dsimp only;omega⟩,λ g hg hg2 hs=>?_⟩⟩
  have hin:=hkeep g hs;rw[ek,es]at hin;obtain⟨i1,i2,i3,i4⟩:=hin.DU (by rw[l1,k1];omega)
  have Ym:∀(l:List Sb),(∀s∈l,s∈sa++sb)->0<l.length->gM l≠[]:=λ l hl h0 e=>by
   obtain⟨s,hs⟩:=List.exists_mem_of_length_pos h0;have hs2:=hl s hs
   have:s.l≠[]:=by
    rcases dD.1 hs2 with h|h
    ·exact ne1 s h
    exact Yl s h
   obtain⟨z,hz⟩:=qW _ this;have:z∈gM l:=List.mem_flatMap.2 ⟨s,hs,hz⟩;rw[e]at this
   cases this
  refine⟨⟨a.pg,gM ((sa++sb).take n),a.pg::dP ((sa++sb).take n)⟩,⟨b.pg,gM ((sa++sb).drop n),b.pg::dP ((sa++sb).drop n)⟩,⟨_,_,by rw[List.map_take,<-hmp];exact hg,i1,rfl,rfl⟩,⟨_,_,by rw[List.map_drop,<-hmp];exact hg2,i2,rfl,rfl⟩,rfl,rfl,?_,Ym _ (λ s hs=>iM hs) (by omega),Ym _ (λ s hs=>jf hs) (by omega),i3,i4,?_,λ p=>?_⟩
  ·dsimp only;rw[<-AL,<-es,hfl]
  ·dsimp only;rw[es,tV]at hnd;have q:=dW.1 hnd;have q2:=dW.1 q.2;have q3:=bN.1 q2.2;rw[bN];refine⟨dW.2 ⟨λ h=>q.1 (by simp[h]),q3.1⟩,dW.2 ⟨λ h=>q2.1 (by simp[h]),q3.2.1⟩,λ u hu w hw e=>?_⟩;rcases aN.1 hu with rfl|hu
   ·rcases aN.1 hw with rfl|hw
    ·exact cZ e
    exact q.1 (by rw[e];simp[hw])
   rcases aN.1 hw with rfl|hw
   ·exact q2.1 (by rw[<-e];simp[hu])
   exact q3.2.2 u hu w hw e
  dsimp only;rw[a4,b4]
  have hm:p∈dP sa\/p∈dP sb↔p∈dP ((sa++sb).take n)\/p∈dP ((sa++sb).drop n):=by
   rw[<-dD,<-dD,<-hfp,<-tV,<-es]
  simp only[aN,dD]
  constructor
  ·rintro((h|h)|h|h)
   ·exact .inl (.inl h)
   ·rcases hm.2 (.inl h)with h|h
    ·exact .inl (.inr h)
    exact .inr (.inr h)
   ·exact .inr (.inl h)
   rcases hm.2 (.inr h)with h|h
   ·exact .inl (.inr h)
   exact .inr (.inr h)
  rintro((h|h)|h|h)
  ·exact .inl (.inl h)
  ·rcases hm.1 (.inl h)with h|h
   ·exact .inl (.inr h)
   exact .inr (.inr h)
  ·exact .inr (.inl h)
  rcases hm.1 (.inr h)with h|h
  ·exact .inl (.inr h)
  exact .inr (.inr h)
def uK(f:Nat->Option Nd)(p:Nat):Prop:=∃x,f p=some x/\(x.leaf=true->x.ag.length=14)/\(x.leaf=false->15<=x.ax.length/\x.ax.length<20)
structure vH(A B:AP)(d:Nat)(s:Sb)(k:UInt64)(was gJ:Bool)(gone:List Nat):Prop where
 fD:dH A B s.ps gone
 sub:∀p∈gone,p∈s.ps/\p≠s.pg
 ib:gone.Nodup
 tree:∃d' t,Tr (aB B) d' t/\t.pg=s.pg/\t.l=kg s.l k/\t.ps.Nodup/\(∀p,p∈t.ps↔p∈s.ps/\p∉gone)/\(d'=d\/(d'+1=d/\¬iK (aB A) s.pg))
 size:iK (aB A) s.pg->(gJ=false->iK (aB B) s.pg)/\(gJ=true->uK (aB B) s.pg)
 was:was=true↔∃x∈s.l,x.1=k
structure Mid(A B:AP)(d:Nat)(s:Sb)(ag:List UInt64)(aj:List Sb)(k:UInt64)(gone:List Nat):Prop where
 nd:aB B s.pg=some ⟨false,ag,[],aj.map Sb.pg⟩
 lL:iV (λ u=>Tr (aB B) d u) ag aj
 l:gM aj=kg s.l k
 ib:(s.pg::dP aj).Nodup
 ps:∀p,p∈s.pg::dP aj↔p∈s.ps/\p∉gone
 fD:dH A B s.ps gone
 Cy:∀p∈gone,p∈s.ps/\p≠s.pg
 qg:gone.Nodup
theorem Mid.has{A B:AP}{d:Nat}{s:Sb}{ag:List UInt64}{aj:List Sb}{k:UInt64}{gone:List Nat}(h:Mid A B d s ag aj k gone)(hh:∀p∈s.ps,A.Has p):∀p∈s.pg::dP aj,B.Has p:=λ p hp=>by
 obtain⟨a,b⟩:=(h.ps p).1 hp;exact(h.fD.has p).2 ⟨hh p a,b⟩
theorem xyd{aj:List Sb}{i:Nat}{t:Sb}{k:UInt64}(h:aj[i]?=some t)(hl:∀x∈gM (aj.take i),x.1.toNat<k.toNat)(hr:∀x∈gM (aj.drop (i+1)),k.toNat<x.1.toNat):(∃x∈gM aj,x.1=k)↔∃x∈t.l,x.1=k:=by
 rw[Lb h]
 constructor
 ·rintro⟨x,hx,e⟩;rcases dD.1 hx with h1|h1
  ·have:=hl x h1;rw[e]at this;omega
  rcases dD.1 h1 with h1|h1
  ·exact⟨x,h1,e⟩
  have:=hr x h1;rw[e]at this;omega
 rintro⟨x,hx,e⟩;exact⟨x,by simp[hx],e⟩
theorem Lh{A B:AP}{d i:Nat}{s t:Sb}{ag:List UInt64}{aj:List Sb}{k:UInt64}{gone:List Nat}{was gJ:Bool}(hK:eu A d s ag aj i t)(hix:dN ag k i)(RZ:s.pg∈s.ps)(hnd:s.ps.Nodup)(hh:∀p∈s.ps,A.Has p)(pU:iK (aB A) t.pg)(hO:vH A B d t k was gJ gone) :
  ∃t',Mid A B d s ag (aj.take i++t'::aj.drop (i+1)) k gone/\t'.pg=t.pg/\(∀u∈aj.take i++aj.drop (i+1),iK (aB B) u.pg)/\(gJ=false->iK (aB B) t.pg)/\(gJ=true->uK (aB B) t.pg)/\(was=true↔∃x∈s.l,x.1=k):=by
 obtain⟨d',t',hT',fZ,hl',hn',hm',hd'⟩:=hO.tree
 obtain rfl:d'=d:=by
  rcases hd' with h|h
  ·exact h
  exact absurd pU h.2
 obtain⟨z1,z2⟩:=hO.size pU
 have jF:=(hK.lL.imp (Q:=λ _=>True) (λ _ _ _=>trivial)).set hK.at_ hix (t:=t') (λ x hx=>by
  rw[hl']at hx;exact .inl (xx8 hx)) trivial
 have hgs:∀p∈gone,p∈t.ps:=λ p hp=>(hO.sub p hp).1
 have hother:∀u∈aj.take i++aj.drop (i+1),Tr (aB B) d' u/\iK (aB B) u.pg:=λ u hu=>by
  have qb:u∈aj:=by
   rcases dD.1 hu with h|h
   ·exact iM h
   exact jf h
  obtain⟨a,b⟩:=hK.lL.all u qb;have ho:=hK.other hnd u hu;obtain⟨a',b'⟩:=Tr.RU a hO.fD (λ p hp=>(hO.fD.has p).2 ⟨hh p (ho p hp).2.2,λ hg=>(ho p hp).1 (hgs p hg)⟩) (λ p hp=>(ho p hp).1);exact⟨a',b' b⟩
 have Sa:B.Has s.pg:=(hO.fD.has _).2 ⟨hh _ RZ,λ hg=>hK.mZ hnd (hgs _ hg)⟩;have F9:aB B s.pg=aB A s.pg:=by unfold aB;rw[hO.fD.same s.pg Sa (hK.mZ hnd)]
 have hlow:=NN (hK.lL.left hK.at_ hix.below);have hhigh:=NP (hK.lL.right hK.at_ hix.above);refine⟨t',⟨?_,⟨jF.len,jF.ord,λ u hu=>?_⟩,?_,?_,λ p=>?_,hO.fD.wider hK.sub,λ p hp=>⟨hK.sub p (hgs p hp),λ e=>hK.mZ hnd (e▸hgs p hp)⟩,hO.ib⟩,fZ,λ u hu=>(hother u hu).2,z1,z2,?_⟩
 ·rw[F9,hK.nd,DV hK.at_ fZ]
 ·rcases dD.1 hu with h|h
  ·exact(hother u (by simp[h])).1
  rcases aN.1 h with rfl|h
  ·exact hT'
  exact(hother u (by simp[h])).1
 ·rw[hK.l,Lb hK.at_,AL,uG,hl',XV hlow hhigh]
 ·have:=Lc (new:=[]) (hK.nodup hnd) hn' (λ p hp=>.inl ((hm' p).1 hp).1) (λ p hp=>by cases hp);rw[tV,uH];exact this
 ·have kX:=hK.nodup hnd;rw[bN,bN]at kX;obtain⟨q1,⟨q2,q3,q4⟩,q5⟩:=kX;rw[hK.ps,Ie hK.at_,tV,uH,<-lV,<-lV,NS,NS,hm' p]
  constructor
  ·rintro((h|h)|⟨h,h2⟩)
   ·exact⟨.inl (.inl h),λ hg=>q5 p h p (by simp[hgs p hg]) rfl⟩
   ·exact⟨.inl (.inr h),λ hg=>q4 p (hgs p hg) p h rfl⟩
   exact⟨.inr h,h2⟩
  rintro⟨(h|h)|h,h2⟩
  ·exact .inl (.inl h)
  ·exact .inl (.inr h)
  exact .inr ⟨h,h2⟩
 rw[hO.was,hK.l];exact(xyd hK.at_ hlow hhigh).symm
structure Li(B:AP)(d m:Nat)(ag:List UInt64)(aj:List Sb)(a b:Sb)(κ:UInt64)(xa xb:Nd):Prop where
 sa:aj[m]?=some a
 sb:aj[m+1]?=some b
 k:ag[m]?=some κ
 na:aB B a.pg=some xa
 nb:aB B b.pg=some xb
 many:RY xa xb
 rest:∀u∈aj.take m++aj.drop (m+2),iK (aB B) u.pg
theorem xye{f:Nat->Option Nd}{p q:Nat}{xa xb:Nd}(ha:f p=some xa)(hb:f q=some xb)(hl:xa.leaf=xb.leaf)(h:(uK f p/\iK f q)\/(iK f p/\uK f q)):RY xa xb:=by
 rcases h with⟨⟨x,h1,h2,h3⟩,⟨y,h4,h5,h6⟩⟩|⟨⟨x,h1,h5,h6⟩,⟨y,h4,h2,h3⟩⟩
 ·rw[ha]at h1;rw[hb]at h4;obtain rfl:=aZ h1;obtain rfl:=aZ h4;refine⟨λ e=>?_,λ e=>?_⟩
  ·have:=h2 e;have:=h5 (hl▸e);omega
  have:=h3 e;have:=h6 (hl▸e);omega
 rw[ha]at h1;rw[hb]at h4;obtain rfl:=aZ h1;obtain rfl:=aZ h4;refine⟨λ e=>?_,λ e=>?_⟩
 ·have:=h5 e;have:=h2 (hl▸e);omega
 have:=h6 e;have:=h3 (hl▸e);omega
theorem Yn{f:Nat->Option Nd}{d:Nat}{a b:Sb}{xa xb:Nd}(ha:Tr f d a)(hb:Tr f d b)(h1:f a.pg=some xa)(h2:f b.pg=some xb):xa.leaf=xb.leaf:=by
 cases d with
 | zero=>
  obtain⟨_,_,a1,_⟩:=ha;obtain⟨_,_,b1,_⟩:=hb;rw[h1]at a1;rw[h2]at b1;rw[aZ a1,aZ b1]
 | succ d=>
  obtain⟨_,_,a1,_⟩:=ha;obtain⟨_,_,b1,_⟩:=hb;rw[h1]at a1;rw[h2]at b1;rw[aZ a1,aZ b1]
theorem NY{A B:AP}{d i m ca cb:Nat}{s t t':Sb}{ag:List UInt64}{aj:List Sb}{k κ:UInt64}{gone:List Nat}{xa xb:Nd}(hi:aj[i]?=some t)(hM:Mid A B d s ag (aj.take i++t'::aj.drop (i+1)) k gone)(cZ:t'.pg=t.pg)(hF:∀u∈aj.take i++aj.drop (i+1),iK (aB B) u.pg)(hS:uK (aB B) t.pg)
  (hm:m=wQ (aj.map Sb.pg).length i) (ha:(aj.map Sb.pg)[m]?=some ca) (hb:(aj.map Sb.pg)[m+1]?=some cb) (hk:ag[m]?=some κ) (hxa:aB B ca=some xa) (hxb:aB B cb=some xb) :
  ∃a b,a.pg=ca/\b.pg=cb/\Li B d m ag (aj.take i++t'::aj.drop (i+1)) a b κ xa xb:=by
 have hil:=(dE.1 hi).1;rw[<-DV hi cZ]at ha hb;obtain⟨a,ha1,ha2⟩:=NQ ha;obtain⟨b,hb1,hb2⟩:=NQ hb
 have Dl:m=i\/m+1=i:=by
  rw[hm,df];unfold wQ
  split<;>omega
 have hti:(aj.take i++t'::aj.drop (i+1))[i]?=some t':=by
  rw[bP (by rw[zt];omega),zt,gH (by omega),kN];rfl
 have hoth:∀(j:Nat) (u:Sb),j≠i->(aj.take i++t'::aj.drop (i+1))[j]?=some u->u∈aj.take i++aj.drop (i+1):=λ j u hj hu=>by
  rcases xii j i with h|h
  ·rw[bI (by rw[zt];omega)]at hu;exact eF _ (eZ hu)
  rw[bP (by rw[zt];omega),zt,gH (by omega),show j-i=(j-i-1)+1 by omega,nI]at hu;exact lI _ (eZ hu)
 have hTa:=hM.lL.all a (eZ ha1);have hTb:=hM.lL.all b (eZ hb1);subst ha2 hb2;refine⟨a,b,rfl,rfl,ha1,hb1,hk,hxa,hxb,xye hxa hxb (Yn hTa hTb hxa hxb) ?_,λ u hu=>?_⟩
 rotate_left
 ·rcases dD.1 hu with h|h
  ·obtain⟨j,hj,e⟩:=gB h;rw[zt]at hj;rw[List.getElem_take]at e;exact hF u (hoth j u (by omega) (by rw[bL (by omega),e]))
  obtain⟨j,hj,e⟩:=gB h;rw[zd]at hj;rw[List.getElem_drop]at e;exact hF u (hoth (m+2+j) u (by omega) (by rw[bL (by omega),e]))
 rcases Dl with rfl|h
 ·rw[hti]at ha1;obtain rfl:=aZ ha1;exact .inl ⟨by rw[cZ];exact hS,hF b (hoth (m+1) b (by omega) hb1)⟩
 subst h;rw[hti]at hb1;obtain rfl:=aZ hb1;exact .inr ⟨hF a (hoth m a (by omega) ha1),by rw[cZ];exact hS⟩
theorem NZ{aj:List Sb}{m:Nat}{a b:Sb}(ha:aj[m]?=some a)(hb:aj[m+1]?=some b):dP aj=dP (aj.take m)++((a.ps++b.ps)++dP (aj.drop (m+2))):=by
 conv=>lhs;rw[NT ha hb]
 rw[tV,uH,uH,cO]
theorem Sc{aj:List Sb}{m:Nat}{a b:Sb}(ha:aj[m]?=some a)(hb:aj[m+1]?=some b):gM aj=gM (aj.take m)++((a.l++b.l)++gM (aj.drop (m+2))):=by
 conv=>lhs;rw[NT ha hb]
 rw[AL,uG,uG,cO]
structure zG(A B:AP)(d m:Nat)(s:Sb)(ag:List UInt64)(aj:List Sb)(a b:Sb)(κ:UInt64):Prop where
 ta:Tr (aB B) d a
 tb:Tr (aB B) d b
 ib:(a.ps++b.ps).Nodup
 lo:∀x∈a.l,x.1.toNat<κ.toNat
 hi:∀x∈b.l,κ.toNat<=x.1.toNat
 ne:a.pg≠b.pg
 na:a.pg≠s.pg
 nb:b.pg≠s.pg
 ha:a.pg∈s.pg::dP aj
 hb:b.pg∈s.pg::dP aj
 big:((s.pg::dP (aj.take m))++((a.ps++b.ps)++dP (aj.drop (m+2)))).Nodup
theorem Mid.vI{A B:AP}{d m:Nat}{s:Sb}{ag:List UInt64}{aj:List Sb}{k κ:UInt64}{gone:List Nat}{a b:Sb}{xa xb:Nd}(hM:Mid A B d s ag aj k gone)(hP:Li B d m ag aj a b κ xa xb):zG A B d m s ag aj a b κ:=by
 have kK:=hM.lL.all a (eZ hP.sa);have htb:=hM.lL.all b (eZ hP.sb);have hn:=hM.ib;rw[NZ hP.sa hP.sb,<-lV]at hn;have hn0:=hn;rw[bN,bN]at hn;obtain⟨q1,⟨q2,q3,q4⟩,q5⟩:=hn;have ho:=hM.lL.ord;rw[hM.lL.FC hP.sa hP.sb hP.k]at ho;simp only[List.pairwise_append,bR]at ho;obtain⟨o1,⟨oa,ok,ob,o2⟩,o3⟩:=ho;have ma:a.pg∈dP aj:=wP (eZ hP.sa) kK.mem;have mb:b.pg∈dP aj:=wP (eZ hP.sb) htb.mem;refine⟨kK,htb,q2,oa (.k κ) (by simp),ok (.s b) (by simp),λ e=>?_,λ e=>?_,λ e=>?_,cu _ ma,cu _ mb,hn0⟩
 ·exact(bN.1 q2).2.2 a.pg kK.mem b.pg htb.mem e
 ·exact(dW.1 hM.ib).1 (e▸ma)
 exact(dW.1 hM.ib).1 (e▸mb)
theorem zG.other{A B:AP}{d m:Nat}{s:Sb}{ag:List UInt64}{aj:List Sb}{a b:Sb}{κ:UInt64}(h:zG A B d m s ag aj a b κ):∀u∈aj.take m++aj.drop (m+2),∀p∈u.ps,p∉a.ps++b.ps/\p≠s.pg:=by
 have hn:=h.big;rw[bN,bN]at hn;obtain⟨q1,⟨q2,q3,q4⟩,q5⟩:=hn;intro u hu p hp;rcases dD.1 hu with hu|hu
 ·have hm:=wP hu hp;exact⟨λ ht=>q5 p (by simp[hm]) p (eF _ ht) rfl,λ e=>(dW.1 q1).1 (e▸hm)⟩
 have hm:=wP hu hp;exact⟨λ ht=>q4 p ht p hm rfl,λ e=>q5 s.pg (by simp) p (by simp[hm]) e.symm⟩
theorem Tr.moved{f g:Nat->Option Nd}{d:Nat}{c:Sb}{x:Nd}{pg:Nat}(h:Tr f d c)(hx:f c.pg=some x)(hg:g pg=some x)(hs:∀p∈c.ps,p≠c.pg->g p=f p)(hnd:c.ps.Nodup):∃ps,Tr g d ⟨pg,c.l,pg::ps⟩/\c.ps=c.pg::ps:=by
 cases d with
 | zero=>
  obtain⟨ks,vs,h1,h2,h3,h4,h5⟩:=h;rw[hx]at h1;obtain rfl:=aZ h1;exact⟨[],⟨ks,vs,hg,h2,h3,h4,rfl⟩,h5⟩
 | succ d=>
  obtain⟨ag,aj,h1,h2,h3,h4⟩:=h;rw[hx]at h1;obtain rfl:=aZ h1;rw[h4]at hnd;refine⟨dP aj,⟨ag,aj,hg,h2.imp (λ t ht ⟨a,b⟩=>?_),h3,rfl⟩,h4⟩;have hsub:∀p∈t.ps,g p=f p:=λ p hp=>hs p (by rw[h4];exact cu _ (wP ht hp)) (λ e=>(dW.1 hnd).1 (e▸wP ht hp));refine⟨Tr.same d t a hsub,?_⟩;obtain⟨y,e,hy⟩:=b;exact⟨y,(hsub _ a.mem).trans e,hy⟩
end Go.Proofs.YtgpmiliahonaoaaGreatDoor
