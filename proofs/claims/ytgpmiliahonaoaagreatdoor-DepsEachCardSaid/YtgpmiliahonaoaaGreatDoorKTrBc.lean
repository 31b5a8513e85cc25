/- Facts on texts and trees on pages. -/
import Derived.Test.YtgpmiliahonaoaaGreatDoorKTrZc
set_option maxRecDepth 100000
set_option maxHeartbeats 8000000
set_option linter.unusedSimpArgs false
namespace Go.Proofs.YtgpmiliahonaoaaGreatDoor
open Go.RowKit
open UK (str aF nth Only)
theorem xyg{s:Sb}{p:Nat}:p∈s.ps↔p∈s.ps/\p∉([]:List Nat):=by simp
theorem Y0{ks vs:List UInt64}{k:UInt64}(hv:vs.length=ks.length):(∃x∈ks.zip vs,x.1=k)↔k∈ks:=by
 constructor
 ·rintro⟨x,hx,rfl⟩;exact(List.of_mem_zip hx).1
 intro h;obtain⟨v,hv⟩:=RV hv h;exact⟨_,hv,rfl⟩
theorem ya3{aj:List Sb}{m:Nat}{a b c e:Sb}(ha:aj[m]?=some a)(hb:aj[m+1]?=some b)(hc:c.pg=a.pg)(he:e.pg=b.pg):(aj.take m++c::e::aj.drop (m+2)).map Sb.pg=aj.map Sb.pg:=by
 conv=>rhs;rw[NT ha hb]
 simp only[dO,je,hc,he]
theorem ya4{aj:List Sb}{m:Nat}{a c:Sb}(ha:aj[m]?=some a)(hc:c.pg=a.pg):(aj.take m++c::aj.drop (m+2)).map Sb.pg=(aj.map Sb.pg).take (m+1)++(aj.map Sb.pg).drop (m+2):=by
 have e1:(aj.map Sb.pg).take (m+1)=(aj.map Sb.pg).take m++[a.pg]:=by
  rw[List.take_add_one,dL,ha];rfl
 rw[e1];simp only[dO,je,hc,List.map_take,List.map_drop,cO,lV,jM]
theorem AJ{A:AP}{p q:Nat}{x:Nd}(hl:(A.c p).length=504)(hx:Fits x):aB (A.ak p (aS (A.c p) x)) q=if p=q then some x else aB A q:=by
 unfold aB;rw[AP.aL]
 split
 ·exact EO _ _ (by omega) hx
 rfl
theorem Og{A:AP}{p q:Nat}:aB (A.give p) q=aB A q:=by unfold aB;rw[AP.ky]
theorem Y1{k:UInt64}{d:Nat}{A B:AP}{pg:Nat}{was gJ:Bool}(h:dZ k d A pg B was gJ):∀s,Tr (aB A) d s->s.pg=pg->s.ps.Nodup->(∀p∈s.ps,A.Has p)->A.Good->(∀p,A.Has p->(A.c p).length=504)->∃gone,vH A B d s k was gJ gone:=by
 induction h with
 | @none A pg ks vs hn hno=>
  intro s hT cZ hnd hh hg hc;subst cZ;obtain⟨ks',vs',h1,h2,h3,h4,h5⟩:=id hT;rw[hn]at h1
  injection aZ h1 with _ e1 e2 _
  subst e1 e2;refine⟨[],⟨dH.refl hc _,(λ p hp=>by cases hp),List.nodup_nil,⟨0,s,hT,rfl,?_,hnd,λ p=>xyg,.inl rfl⟩,λ hf=>⟨λ _=>hf,(λ h=>by cases h)⟩,?_⟩⟩
  ·rw[h4];exact(xvh hno).symm
  rw[h4,Y0 h2];simp[hno]
 | @leaf A pg i ks vs hn hk=>
  intro s hT cZ hnd hh hg hc;subst cZ;obtain⟨ks',vs',h1,h2,h3,h4,h5⟩:=hT;rw[hn]at h1
  injection aZ h1 with _ e1 e2 _
  subst e1 e2;have hp:=hh s.pg (by rw[h5];simp);have hi:=(dE.1 hk).1;have hf0:=(lJ hn).leaf rfl;dsimp only at hf0;have lk:(ks.take i++ks.drop (i+1)).length=ks.length-1:=by simp;omega
  have lv:(vs.take i++vs.drop (i+1)).length=ks.length-1:=by simp;omega
  have hfit:Fits ⟨true,ks.take i++ks.drop (i+1),vs.take i++vs.drop (i+1),[]⟩:=⟨λ _=>⟨by dsimp only;omega,by dsimp only;omega,rfl⟩,(λ h=>by cases h)⟩;have hpl:=hc _ hp;have hB:aB (A.ak s.pg (aS (A.c s.pg) ⟨true,ks.take i++ks.drop (i+1),vs.take i++vs.drop (i+1),[]⟩)) s.pg=some ⟨true,ks.take i++ks.drop (i+1),vs.take i++vs.drop (i+1),[]⟩:=by rw[AJ hpl hfit,if_pos rfl]
  refine⟨[],⟨by rw[h5];exact dH.ak hp hc (by rw[tO _ _ (by omega) hfit,hpl]),(λ p hp=>by cases hp),List.nodup_nil,⟨0,⟨s.pg,(ks.take i++ks.drop (i+1)).zip (vs.take i++vs.drop (i+1)),[s.pg]⟩,⟨_,_,hB,by omega,h3.drop_one i hi,rfl,rfl⟩,rfl,?_,by simp,λ p=>by rw[h5];simp,.inl rfl⟩,λ hf=>⟨λ hpo=>⟨_,hB,λ _=>?_,(λ h=>by cases h)⟩,λ hpo=>⟨_,hB,λ _=>?_,(λ h=>by cases h)⟩⟩,?_⟩⟩
  ·rw[h4];exact(xyb h3 hk h2).symm
  ·dsimp only;have:¬(ks.length-1<15):=by simpa using hpo
   omega
  ·dsimp only;have h15:ks.length-1<15:=by simpa using hpo
   obtain⟨x,hx,hx2,_⟩:=hf;rw[hn]at hx;obtain rfl:=aZ hx;have:=hx2 rfl;dsimp only at this;omega
  rw[h4,Y0 h2];simp only[true_iff];exact eZ hk
 | @Lf d A B pg i c ag ax was hn hix gD hrec ih=>
  intro s hT cZ hnd hh hg hc;subst cZ;obtain⟨aj,t,hK,hpt,rfl,nH,pU⟩:=hT.kid hn gD;obtain⟨gone,hO⟩:=ih t nH hpt (hK.tn hnd) (λ p hp=>hh p (hK.sub p hp)) hg hc;obtain⟨t',hM,fZ,hF,z1,_,hw⟩:=Lh hK hix hT.mem hnd hh pU hO
  have hall:∀u∈aj.take i++t'::aj.drop (i+1),Tr (aB B) d u/\iK (aB B) u.pg:=λ u hu=>⟨hM.lL.all u hu,by
   rcases dD.1 hu with h|h
   ·exact hF u (by simp[h])
   rcases aN.1 h with rfl|h
   ·rw[fZ];exact z1 rfl
   exact hF u (by simp[h])⟩
  have F9:aB B s.pg=aB A s.pg:=by rw[hM.nd,hn,DV hK.at_ fZ]
  exact⟨gone,⟨hM.fD,hM.Cy,hM.qg,⟨d+1,⟨s.pg,gM (aj.take i++t'::aj.drop (i+1)),s.pg::dP (aj.take i++t'::aj.drop (i+1))⟩,⟨ag,_,hM.nd,⟨hM.lL.len,hM.lL.ord,hall⟩,rfl,rfl⟩,rfl,hM.l,hM.ib,hM.ps,.inl rfl⟩,λ ⟨x,hx,hf⟩=>⟨λ _=>⟨x,F9.trans hx,hf⟩,(λ h=>by cases h)⟩,hw⟩⟩
 | @even d A B1 B2 pg i c m ca cb ag ax was a b a' b' κ dM hn hix gD hrec hm tX hcb pR hna hnb hev hB2 ih=>
  intro s hT cZ hnd hh hg hc;subst cZ;obtain⟨aj,t,hK,hpt,rfl,nH,pU⟩:=hT.kid hn gD;obtain⟨gone,hO⟩:=ih t nH hpt (hK.tn hnd) (λ p hp=>hh p (hK.sub p hp)) hg hc;obtain⟨t',hM,fZ,hF,_,z2,hw⟩:=Lh hK hix hT.mem hnd hh pU hO;obtain⟨sa,sb,rfl,rfl,hP⟩:=NY hK.at_ hM fZ hF (z2 rfl) hm tX hcb pR hna hnb;have ed:=hM.vI hP;have lD:=hM.has hh;have vJ:=hM.fD.dR;obtain⟨_,hE⟩:=NV ed.ta ed.tb ed.ib hP.na hP.nb (lJ hna) (lJ hnb) ed.lo ed.hi hP.many hev;obtain⟨f1,f2,AQ,F8,hG⟩:=hE rfl;have lF:=lD _ ed.ha;have zJ:=lD _ ed.hb;have zN:=lD s.pg (by simp);have c1:dH B1 (B1.ak sa.pg (aS (B1.c sa.pg) a')) [sa.pg] []:=dH.ak lF vJ (by rw[tO _ _ (by rw[vJ _ lF];omega) f1,vJ _ lF]);have sU:(B1.ak sa.pg (aS (B1.c sa.pg) a')).Has sb.pg:=AP.aA.2 zJ
  have c2:dH (B1.ak sa.pg (aS (B1.c sa.pg) a')) B2 [sb.pg] []:=by
   rw[hB2];exact dH.ak sU c1.dR (by rw[tO _ _ (by rw[c1.dR _ sU];omega) f2,c1.dR _ sU])
  have sV:B2.Has s.pg:=by rw[hB2];exact AP.aA.2 (AP.aA.2 zN)
  have hfx:=(lJ hn).inner rfl;have hkl:=(dE.1 pR).1;have sW:Fits ⟨false,ag.set m dM,[],aj.map Sb.pg⟩:=⟨(λ h=>by cases h),λ _=>⟨by dsimp only at hfx ⊢;rw[aQ];exact hfx.1,hfx.2.1,hfx.2.2.1,rfl,hfx.2.2.2.2⟩⟩;have hl3:=c2.dR _ sV;have c3:dH B2 (B2.ak s.pg (aS (B2.c s.pg) ⟨false,ag.set m dM,[],aj.map Sb.pg⟩)) [s.pg] []:=dH.ak sV c2.dR (by rw[tO _ _ (by omega) sW,hl3]);generalize Ll:B2.ak s.pg (aS (B2.c s.pg) ⟨false,ag.set m dM,[],aj.map Sb.pg⟩)=B at c3 ⊢
  have jR:∀q,aB B q=if s.pg=q then some ⟨false,ag.set m dM,[],aj.map Sb.pg⟩ else if sb.pg=q then some b' else if sa.pg=q then some a' else aB B1 q:=λ q=>by
   rw[<-Ll,AJ hl3 sW,hB2,AJ (c1.dR _ sU) f2,AJ (vJ _ lF) f1]
  have hga:aB B sa.pg=some a':=by rw[jR,if_neg (dz ed.na),if_neg (dz ed.ne),if_pos rfl]
  have hgb:aB B sb.pg=some b':=by rw[jR,if_neg (dz ed.nb),if_pos rfl]
  have hgo:∀q,q≠s.pg->q≠sa.pg->q≠sb.pg->aB B q=aB B1 q:=λ q q1 q2 q3=>by rw[jR,if_neg (dz q1),if_neg (dz q3),if_neg (dz q2)]
  have wR:∀p∈sa.ps++sb.ps,p≠s.pg:=λ p hp e=>(bN.1 ed.big).2.2 s.pg (by simp) p (eF _ hp) e.symm;obtain⟨cc,ee,Lm,hTe,hcp,Y2,Lp,hc0,he0,Sr,Su,Sv,Lr⟩:=hG (aB B) hga hgb (λ p hp q1 q2=>hgo p (wR p hp) q1 q2)
  have hoth:∀u∈(aj.take i++t'::aj.drop (i+1)).take m++(aj.take i++t'::aj.drop (i+1)).drop (m+2),Tr (aB B) d u/\(iK (aB B1) u.pg->iK (aB B) u.pg):=λ u hu=>by
   have qb:u∈aj.take i++t'::aj.drop (i+1):=by
    rcases dD.1 hu with h|h
    ·exact iM h
    exact jf h
   have wO:=hM.lL.all u qb;have ho:=ed.other u hu;have hsame:∀p∈u.ps,aB B p=aB B1 p:=λ p hp=>hgo p (ho p hp).2 (λ e=>(ho p hp).1 (by rw[e];exact eF _ ed.ta.mem)) (λ e=>(ho p hp).1 (by rw[e];exact lI _ ed.tb.mem));exact⟨Tr.same d u wO hsame,λ ⟨x,h1,h2⟩=>⟨x,(hsame _ wO.mem).trans h1,h2⟩⟩
  have Y3:∀u∈(aj.take i++t'::aj.drop (i+1)).take m++(aj.take i++t'::aj.drop (i+1)).drop (m+2),Tr (aB B) d u/\iK (aB B) u.pg:=λ u hu=>⟨(hoth u hu).1,(hoth u hu).2 (hP.rest u hu)⟩;have jF:=(hM.lL.imp (Q:=λ _=>True) (λ _ _ _=>trivial)).share hP.sa hP.sb hP.k Lp hc0 he0 Sr Su trivial trivial
  have hall:∀u∈(aj.take i++t'::aj.drop (i+1)).take m++cc::ee::(aj.take i++t'::aj.drop (i+1)).drop (m+2),Tr (aB B) d u/\iK (aB B) u.pg:=λ u hu=>by
   rcases dD.1 hu with h|h
   ·exact Y3 u (eF _ h)
   rcases aN.1 h with rfl|h
   ·exact⟨Lm,by rw[hcp];exact⟨_,hga,AQ⟩⟩
   rcases aN.1 h with rfl|h
   ·exact⟨hTe,by rw[Y2];exact⟨_,hgb,F8⟩⟩
   exact Y3 u (lI _ h)
  have hps:∀p,p∈s.pg::dP ((aj.take i++t'::aj.drop (i+1)).take m++cc::ee::(aj.take i++t'::aj.drop (i+1)).drop (m+2))↔p∈s.pg::dP (aj.take i++t'::aj.drop (i+1)):=λ p=>by
   rw[NZ hP.sa hP.sb,tV,uH,uH];have:=Lr p;simp only[aN,dD]at this ⊢
   constructor
   ·rintro(h|h|h|h|h)
    ·exact .inl h
    ·exact .inr (.inl h)
    ·exact .inr (.inr (.inl (this.1 (.inl h))))
    ·exact .inr (.inr (.inl (this.1 (.inr h))))
    exact .inr (.inr (.inr h))
   rintro(h|h|h|h)
   ·exact .inl h
   ·exact .inr (.inl h)
   ·rcases this.2 h with h|h
    ·exact .inr (.inr (.inl h))
    exact .inr (.inr (.inr (.inl h)))
   exact .inr (.inr (.inr (.inr h)))
  have oV:(s.pg::dP ((aj.take i++t'::aj.drop (i+1)).take m++cc::ee::(aj.take i++t'::aj.drop (i+1)).drop (m+2))).Nodup:=by
   have:=Lc (new:=[]) ed.big Sv (λ p hp=>.inl ((Lr p).1 hp)) (λ p hp=>by cases hp);rw[tV,uH,uH,<-cO cc.ps];exact this
  have iT:dH A B s.ps (gone++[]):=hM.fD.trans (((c1.wider (ps2:=s.ps) (λ p hp=>by rw[bz.1 hp];exact((hM.ps _).1 ed.ha).1)).trans c2 (λ p hp=>by rw[bz.1 hp];exact((hM.ps _).1 ed.hb).1)).trans c3 (λ p hp=>by rw[bz.1 hp];exact hT.mem)) (λ _ h=>h);rw[jL]at iT;refine⟨gone,⟨iT,hM.Cy,hM.qg,⟨d+1,⟨s.pg,gM ((aj.take i++t'::aj.drop (i+1)).take m++cc::ee::(aj.take i++t'::aj.drop (i+1)).drop (m+2)),s.pg::dP ((aj.take i++t'::aj.drop (i+1)).take m++cc::ee::(aj.take i++t'::aj.drop (i+1)).drop (m+2))⟩,⟨_,_,by rw[jR,if_pos rfl,ya3 hP.sa hP.sb hcp Y2,DV hK.at_ fZ],⟨jF.len,jF.ord,hall⟩,rfl,rfl⟩,rfl,?_,oV,λ p=>(hps p).trans (hM.ps p),.inl rfl⟩,λ Ls=>?_,hw⟩⟩
  ·dsimp only;rw[<-hM.l,Sc hP.sa hP.sb,AL,uG,uG,<-Lp,cO]
  obtain⟨x,hx,hx1,hx2⟩:=Ls;rw[hn]at hx;obtain rfl:=aZ hx;have h16:=hx2 rfl;refine⟨λ hpo=>⟨⟨false,ag.set m dM,[],aj.map Sb.pg⟩,by rw[jR,if_pos rfl],(λ h=>by cases h),λ _=>h16⟩,λ hpo=>⟨⟨false,ag.set m dM,[],aj.map Sb.pg⟩,by rw[jR,if_pos rfl],(λ h=>by cases h),λ _=>?_⟩⟩;have:(aj.map Sb.pg).length<20:=by simpa using hpo
  dsimp only at h16 ⊢;omega
 | @join d A B1 B2 pg i c m ca cb ag ax was a b a' b' κ dM hn hix gD hrec hm tX hcb pR hna hnb hev hB2 hk2 ih=>
  intro s hT cZ hnd hh hg hc;subst cZ;obtain⟨aj,t,hK,hpt,rfl,nH,pU⟩:=hT.kid hn gD;obtain⟨gone,hO⟩:=ih t nH hpt (hK.tn hnd) (λ p hp=>hh p (hK.sub p hp)) hg hc;obtain⟨t',hM,fZ,hF,_,z2,hw⟩:=Lh hK hix hT.mem hnd hh pU hO;obtain⟨sa,sb,rfl,rfl,hP⟩:=NY hK.at_ hM fZ hF (z2 rfl) hm tX hcb pR hna hnb;have ed:=hM.vI hP;have lD:=hM.has hh;have vJ:=hM.fD.dR;obtain⟨hE,_⟩:=NV ed.ta ed.tb ed.ib hP.na hP.nb (lJ hna) (lJ hnb) ed.lo ed.hi hP.many hev;obtain⟨f1,AQ,hG⟩:=hE rfl;have lF:=lD _ ed.ha;have zJ:=lD _ ed.hb;have zN:=lD s.pg (by simp);have c1:dH B1 (B1.ak sa.pg (aS (B1.c sa.pg) a')) [sa.pg] []:=dH.ak lF vJ (by rw[tO _ _ (by rw[vJ _ lF];omega) f1,vJ _ lF]);have sU:(B1.ak sa.pg (aS (B1.c sa.pg) a')).Has sb.pg:=AP.aA.2 zJ
  have c2:dH (B1.ak sa.pg (aS (B1.c sa.pg) a')) B2 [] [sb.pg]:=by
   rw[hB2];exact dH.give (c1.good (hM.fD.good hg)) sU c1.dR
  have sV:B2.Has s.pg:=(c2.has _).2 ⟨AP.aA.2 zN,by simp;exact dz ed.nb⟩;have hfx:=(lJ hn).inner rfl;have hkl:=(dE.1 pR).1;dsimp only at hfx;have lk:(ag.take m++ag.drop (m+1)).length=ag.length-1:=by simp;omega
  have lc:((aj.map Sb.pg).take (m+1)++(aj.map Sb.pg).drop (m+2)).length=(aj.map Sb.pg).length-1:=by rw[zl,zt,zd];omega
  have sW:Fits ⟨false,ag.take m++ag.drop (m+1),[],(aj.map Sb.pg).take (m+1)++(aj.map Sb.pg).drop (m+2)⟩:=⟨(λ h=>by cases h),λ _=>⟨by dsimp only;omega,by dsimp only;omega,by dsimp only;omega,rfl,λ q hq=>by
   rcases dD.1 hq with h|h
   ·exact hfx.2.2.2.2 q (iM h)
   exact hfx.2.2.2.2 q (jf h)⟩⟩
  have hl3:=c2.dR _ sV;have c3:dH B2 (B2.ak s.pg (aS (B2.c s.pg) ⟨false,ag.take m++ag.drop (m+1),[],(aj.map Sb.pg).take (m+1)++(aj.map Sb.pg).drop (m+2)⟩)) [s.pg] []:=dH.ak sV c2.dR (by rw[tO _ _ (by omega) sW,hl3]);generalize Ll:B2.ak s.pg (aS (B2.c s.pg) ⟨false,ag.take m++ag.drop (m+1),[],(aj.map Sb.pg).take (m+1)++(aj.map Sb.pg).drop (m+2)⟩)=B at c3 ⊢
  have jR:∀q,aB B q=if s.pg=q then some ⟨false,ag.take m++ag.drop (m+1),[],(aj.map Sb.pg).take (m+1)++(aj.map Sb.pg).drop (m+2)⟩ else if sa.pg=q then some a' else aB B1 q:=λ q=>by
   rw[<-Ll,AJ hl3 sW,hB2,Og,AJ (vJ _ lF) f1]
  have hga:aB B sa.pg=some a':=by rw[jR,if_neg (dz ed.na),if_pos rfl]
  have hgo:∀q,q≠s.pg->q≠sa.pg->aB B q=aB B1 q:=λ q q1 q2=>by rw[jR,if_neg (dz q1),if_neg (dz q2)]
  have wR:∀p∈sa.ps++sb.ps,p≠s.pg:=λ p hp e=>(bN.1 ed.big).2.2 s.pg (by simp) p (eF _ hp) e.symm;obtain⟨cc,Lm,hcp,hcl,hcn,hcm⟩:=hG (aB B) hga (λ p hp q1 _=>hgo p (wR p hp) q1)
  have hoth:∀u∈(aj.take i++t'::aj.drop (i+1)).take m++(aj.take i++t'::aj.drop (i+1)).drop (m+2),Tr (aB B) d u/\iK (aB B) u.pg:=λ u hu=>by
   have qb:u∈aj.take i++t'::aj.drop (i+1):=by
    rcases dD.1 hu with h|h
    ·exact iM h
    exact jf h
   have wO:=hM.lL.all u qb;have ho:=ed.other u hu;have hsame:∀p∈u.ps,aB B p=aB B1 p:=λ p hp=>hgo p (ho p hp).2 (λ e=>(ho p hp).1 (by rw[e];exact eF _ ed.ta.mem));obtain⟨x,h1,h2⟩:=hP.rest u hu;exact⟨Tr.same d u wO hsame,x,(hsame _ wO.mem).trans h1,h2⟩
  have jF:=(hM.lL.imp (Q:=λ _=>True) (λ _ _ _=>trivial)).one hP.sa hP.sb hP.k hcl trivial
  have hall:∀u∈(aj.take i++t'::aj.drop (i+1)).take m++cc::(aj.take i++t'::aj.drop (i+1)).drop (m+2),Tr (aB B) d u/\iK (aB B) u.pg:=λ u hu=>by
   rcases dD.1 hu with h|h
   ·exact hoth u (eF _ h)
   rcases aN.1 h with rfl|h
   ·exact⟨Lm,by rw[hcp];exact⟨_,hga,AQ⟩⟩
   exact hoth u (lI _ h)
  have hbig:=ed.big;rw[bN,bN]at hbig;obtain⟨g1,⟨g2,g3,g4⟩,g5⟩:=hbig
  have hps:∀p,p∈s.pg::dP ((aj.take i++t'::aj.drop (i+1)).take m++cc::(aj.take i++t'::aj.drop (i+1)).drop (m+2))↔p∈s.pg::dP (aj.take i++t'::aj.drop (i+1))/\p≠sb.pg:=λ p=>by
   have Y4:sb.pg∈sa.ps++sb.ps:=lI _ ed.tb.mem;rw[NZ hP.sa hP.sb,tV,uH];have:=hcm p;simp only[aN,dD]at this ⊢
   constructor
   ·rintro(h|h|h|h)
    ·exact⟨.inl h,λ e=>ed.nb (e▸h)⟩
    ·exact⟨.inr (.inl h),λ e=>g5 p (by simp[h]) sb.pg (eF _ Y4) e⟩
    ·exact⟨.inr (.inr (.inl (this.1 h).1)),(this.1 h).2⟩
    exact⟨.inr (.inr (.inr h)),λ e=>g4 sb.pg Y4 p h e.symm⟩
   rintro⟨h|h|h|h,h2⟩
   ·exact .inl h
   ·exact .inr (.inl h)
   ·exact .inr (.inr (.inl (this.2 ⟨h,h2⟩)))
   exact .inr (.inr (.inr h))
  have oV:(s.pg::dP ((aj.take i++t'::aj.drop (i+1)).take m++cc::(aj.take i++t'::aj.drop (i+1)).drop (m+2))).Nodup:=by
   have:=Lc (new:=[]) ed.big hcn (λ p hp=>.inl ((hcm p).1 hp).1) (λ p hp=>by cases hp);rw[tV,uH];exact this
  have iT:dH A B s.ps (gone++[sb.pg]):=hM.fD.trans (((c1.wider (ps2:=s.ps) (λ p hp=>by rw[bz.1 hp];exact((hM.ps _).1 ed.ha).1)).trans c2 (λ p hp=>by cases hp)).trans c3 (λ p hp=>by rw[bz.1 hp];exact hT.mem)) (λ _ h=>h);have hbs:=(hM.ps _).1 ed.hb;refine⟨gone++[sb.pg],⟨iT,λ p hp=>?_,?_,⟨d+1,⟨s.pg,gM ((aj.take i++t'::aj.drop (i+1)).take m++cc::(aj.take i++t'::aj.drop (i+1)).drop (m+2)),s.pg::dP ((aj.take i++t'::aj.drop (i+1)).take m++cc::(aj.take i++t'::aj.drop (i+1)).drop (m+2))⟩,⟨_,_,by rw[jR,if_pos rfl,ya4 hP.sa hcp,DV hK.at_ fZ],⟨jF.len,jF.ord,hall⟩,rfl,rfl⟩,rfl,?_,oV,λ p=>?_,.inl rfl⟩,λ Ls=>?_,hw⟩⟩
  ·rcases dD.1 hp with h|h
   ·exact hM.Cy p h
   rw[bz.1 h];exact⟨hbs.1,ed.nb⟩
  ·rw[bN];exact⟨hM.qg,by simp,λ p hp q hq e=>hbs.2 (by rw[<-bz.1 hq,<-e];exact hp)⟩
  ·dsimp only;rw[<-hM.l,Sc hP.sa hP.sb,AL,uG,hcl]
  ·dsimp only;rw[hps p,hM.ps p,dD,bz]
   constructor
   ·rintro⟨⟨h1,h2⟩,h3⟩;exact⟨h1,λ h=>by rcases h with h|h;exact h2 h;exact h3 h⟩
   rintro⟨h1,h2⟩;exact⟨⟨h1,λ h=>h2 (.inl h)⟩,λ h=>h2 (.inr h)⟩
  obtain⟨x,hx,hx1,hx2⟩:=Ls;rw[hn]at hx;obtain rfl:=aZ hx;have h16:=hx2 rfl;dsimp only at h16;refine⟨λ hpo=>⟨⟨false,ag.take m++ag.drop (m+1),[],(aj.map Sb.pg).take (m+1)++(aj.map Sb.pg).drop (m+2)⟩,by rw[jR,if_pos rfl],(λ h=>by cases h),λ _=>?_⟩,λ hpo=>⟨⟨false,ag.take m++ag.drop (m+1),[],(aj.map Sb.pg).take (m+1)++(aj.map Sb.pg).drop (m+2)⟩,by rw[jR,if_pos rfl],(λ h=>by cases h),λ _=>?_⟩⟩
  ·have:¬((aj.map Sb.pg).length-1<20):=by simpa using hpo
   dsimp only;omega
  have:(aj.map Sb.pg).length-1<20:=by simpa using hpo
  dsimp only;omega
 | @lift d A B1 B2 pg i c m ca cb ag ax was a b a' b' κ dM hn hix gD hrec hm tX hcb pR hna hnb hev hB2 hk2 ih=>
  intro s hT cZ hnd hh hg hc;subst cZ;obtain⟨aj,t,hK,hpt,rfl,nH,pU⟩:=hT.kid hn gD;obtain⟨gone,hO⟩:=ih t nH hpt (hK.tn hnd) (λ p hp=>hh p (hK.sub p hp)) hg hc;obtain⟨t',hM,fZ,hF,_,z2,hw⟩:=Lh hK hix hT.mem hnd hh pU hO;obtain⟨sa,sb,rfl,rfl,hP⟩:=NY hK.at_ hM fZ hF (z2 rfl) hm tX hcb pR hna hnb;have ed:=hM.vI hP;have lD:=hM.has hh;have vJ:=hM.fD.dR;obtain⟨hE,_⟩:=NV ed.ta ed.tb ed.ib hP.na hP.nb (lJ hna) (lJ hnb) ed.lo ed.hi hP.many hev;obtain⟨f1,AQ,hG⟩:=hE rfl;have lF:=lD _ ed.ha;have zJ:=lD _ ed.hb;have zN:=lD s.pg (by simp);have c1:dH B1 (B1.ak sa.pg (aS (B1.c sa.pg) a')) [sa.pg] []:=dH.ak lF vJ (by rw[tO _ _ (by rw[vJ _ lF];omega) f1,vJ _ lF]);have sU:(B1.ak sa.pg (aS (B1.c sa.pg) a')).Has sb.pg:=AP.aA.2 zJ
  have c2:dH (B1.ak sa.pg (aS (B1.c sa.pg) a')) B2 [] [sb.pg]:=by
   rw[hB2];exact dH.give (c1.good (hM.fD.good hg)) sU c1.dR
  have sV:B2.Has s.pg:=(c2.has _).2 ⟨AP.aA.2 zN,by simp;exact dz ed.nb⟩;have Sw:B2.Has sa.pg:=(c2.has _).2 ⟨AP.aA.2 lF,by simp;exact ed.ne⟩;have hl3:=c2.dR _ sV;have c3:dH B2 (B2.ak s.pg (aS (B2.c s.pg) a')) [s.pg] []:=dH.ak sV c2.dR (by rw[tO _ _ (by omega) f1,hl3]);have Sy:(B2.ak s.pg (aS (B2.c s.pg) a')).Has sa.pg:=AP.aA.2 Sw;have c4:dH (B2.ak s.pg (aS (B2.c s.pg) a')) ((B2.ak s.pg (aS (B2.c s.pg) a')).give sa.pg) [] [sa.pg]:=dH.give (c3.good (c2.good (c1.good (hM.fD.good hg)))) Sy c3.dR;generalize Ll:(B2.ak s.pg (aS (B2.c s.pg) a')).give sa.pg=B at c4 ⊢;have kX:∀q,aB B2 q=if sa.pg=q then some a' else aB B1 q:=λ q=>by rw[hB2,Og,AJ (vJ _ lF) f1]
  have jR:∀q,aB B q=if s.pg=q then some a' else aB B2 q:=λ q=>by rw[<-Ll,Og,AJ hl3 f1]
  have hga:aB B2 sa.pg=some a':=by rw[kX,if_pos rfl]
  obtain⟨cc,Lm,hcp,hcl,hcn,hcm⟩:=hG (aB B2) hga (λ p hp q1 _=>by rw[kX,if_neg (dz q1)]);have wR:∀p∈sa.ps++sb.ps,p≠s.pg:=λ p hp e=>(bN.1 ed.big).2.2 s.pg (by simp) p (eF _ hp) e.symm;obtain⟨ps',hT',Sz⟩:=Tr.moved (g:=aB B) (x:=a') (pg:=s.pg) Lm (by rw[hcp];exact hga) (by rw[jR,if_pos rfl]) (λ p hp _=>by rw[jR,if_neg (dz (wR p ((hcm p).1 hp).1))]) hcn
  have aD:(aj.take i++t'::aj.drop (i+1)).length=2:=by
   rw[<-hk2,<-DV hK.at_ fZ,df]
  have hm1:=(dE.1 hP.sb).1;obtain rfl:m=0:=by omega
  have hfl:=Sc hP.sa hP.sb;have hfp:=NZ hP.sa hP.sb;have hdn:(aj.take i++t'::aj.drop (i+1)).drop (0+2)=[]:=List.drop_of_length_le (by rw[aD];exact aO 2);rw[jW,hdn]at hfl hfp;have el:gM (aj.take i++t'::aj.drop (i+1))=sa.l++sb.l:=by rw[hfl];simp[gM]
  have ep:dP (aj.take i++t'::aj.drop (i+1))=sa.ps++sb.ps:=by rw[hfp];simp[dP]
  have iT:dH A B s.ps (gone++[sb.pg,sa.pg]):=hM.fD.trans ((((c1.wider (ps2:=s.ps) (λ p hp=>by rw[bz.1 hp];exact((hM.ps _).1 ed.ha).1)).trans c2 (λ p hp=>by cases hp)).trans c3 (λ p hp=>by rw[bz.1 hp];exact hT.mem)).trans c4 (λ p hp=>by cases hp)) (λ _ h=>h);have hbs:=(hM.ps _).1 ed.hb;have has:=(hM.ps _).1 ed.ha;rw[Sz,hcp]at hcn hcm
  have hnf:¬iK (aB A) s.pg:=by
   rintro⟨x,hx,hx1,hx2⟩;rw[hn]at hx;obtain rfl:=aZ hx;have:=hx2 rfl;dsimp only at this;omega
  refine⟨gone++[sb.pg,sa.pg],⟨iT,λ p hp=>?_,?_,⟨d,⟨s.pg,cc.l,s.pg::ps'⟩,hT',rfl,?_,?_,λ p=>?_,.inr ⟨rfl,hnf⟩⟩,λ Ls=>absurd Ls hnf,hw⟩⟩
  ·rcases dD.1 hp with h|h
   ·exact hM.Cy p h
   rcases aN.1 h with rfl|h
   ·exact⟨hbs.1,ed.nb⟩
   rw[bz.1 h];exact⟨has.1,ed.na⟩
  ·rw[bN];refine⟨hM.qg,by simp[dz ed.ne],λ p hp q hq e=>?_⟩;rcases aN.1 hq with rfl|hq
   ·exact hbs.2 (e▸hp)
   rw[bz.1 hq]at e;exact has.2 (e▸hp)
  ·dsimp only;rw[<-hM.l,el,hcl]
  ·refine dW.2 ⟨λ h=>?_,(dW.1 hcn).2⟩;exact wR s.pg ((hcm s.pg).1 (cu _ h)).1 rfl
  dsimp only;have h1:=hM.ps p;rw[ep]at h1;have h2:=hcm p;simp only[aN,dD,List.not_mem_nil,or_false]at h1 h2 ⊢;have hsa:sa.pg∉ps':=(dW.1 hcn).1
  constructor
  ·rintro(h|h)
   ·obtain⟨q1,q2⟩:=h1.1 (.inl h);exact⟨q1,λ hh=>by rcases hh with hh|hh|hh;exact q2 hh;exact ed.nb (hh▸h);exact ed.na (hh▸h)⟩
   obtain⟨q0,q3⟩:=h2.1 (.inr h);obtain⟨q1,q2⟩:=h1.1 (.inr q0);exact⟨q1,λ hh=>by rcases hh with hh|hh|hh;exact q2 hh;exact q3 hh;exact hsa (hh▸h)⟩
  rintro⟨q1,q2⟩;rcases h1.2 ⟨q1,λ hh=>q2 (.inl hh)⟩with h|h
  ·exact .inl h
  rcases h2.2 ⟨h,λ hh=>q2 (.inr (.inl hh))⟩with h|h
  ·exact absurd (.inr (.inr h)) q2
  exact .inr h
theorem NI:∀(ag:List UInt64),jK ag->∀k:UInt64,∃i,dN ag k i
 | [],_,_=>⟨0,aO _,λ κ h=>(by simp at h),λ κ h=>(by simp at h)⟩
 | κ::ks,hs,k=>by
  by_cases h:κ.toNat<=k.toNat
  ·obtain⟨i,hi⟩:=NI ks (hs.drop 1) k;refine⟨i+1,Nat.succ_le_succ hi.le,λ dM h'=>?_,hi.above⟩;rcases aN.1 h' with rfl|h'
   ·exact h
   exact hi.below dM h'
  refine⟨0,aY _,λ dM h'=>(by simp at h'),λ dM h'=>?_⟩;rcases aN.1 h' with rfl|h'
  ·omega
  obtain⟨j,hj,e⟩:=gB h';have:=hs 0 (j+1) κ dM (by omega) rfl (by rw[nI,bL hj,e]);omega
theorem yaw{k v:UInt64}{d:Nat}{A B1:AP}{i c iJ:Nat}{ag:List UInt64}{ax:List Nat}{mF:UInt64}{er:Int}{s:Sb}(hT:Tr (aB A) (d+1) s)(hnd:s.ps.Nodup)(hh:∀p∈s.ps,A.Has p)(hg:A.Good)(hc:∀p,A.Has p->(A.c p).length=504)
  (hn:aB A s.pg=some ⟨false,ag,[],ax⟩) (gD:ax[i]?=some c) (hix:dN ag k i) (hrec:kZ k v d A c B1 iJ mF er) :
  (er≠0\/iJ=0)\/(er=0/\iJ≠0/\B1.Has s.pg/\mX ⟨false,ag.take i++mF::ag.drop i,[],ax.take (i+1)++iJ::ax.drop (i+1)⟩):=by
 by_cases he:er=0
 ·by_cases hm:iJ=0
  ·exact .inl (.inr hm)
  subst he;refine .inr ⟨rfl,hm,?_⟩;obtain⟨aj,t,hK,hpt,rfl,nH,pU⟩:=hT.kid hn gD;obtain⟨oG,hO⟩:=Ib hrec rfl t nH hpt (hK.tn hnd) (λ p hp=>hh p (hK.sub p hp)) hg hc;obtain⟨NJ,t',u',hT',RH,fZ,zC,_⟩:=hO.two hm;have hf0:=(lJ hn).inner rfl;dsimp only at hf0;obtain⟨z1,z2,z3,_,z5⟩:=hf0;have hi:=(dE.1 hK.at_).1;have hle:=hix.le;have rU:=XO (t':=t') (u:=u') hK.at_ fZ;rw[zC]at rU
  have hkl:((aj.map Sb.pg).take (i+1)++iJ::(aj.map Sb.pg).drop (i+1)).length=(aj.map Sb.pg).length+1:=by
   rw[<-rU];simp;omega
  refine⟨(hO.fD.has _).2 (.inl (hh _ hT.mem)),(λ h=>by cases h),λ _=>⟨?_,rfl,?_,?_,λ q hq=>?_⟩⟩
  ·dsimp only;rw[hkl];simp;simp at z1;omega
  ·dsimp only;rw[hkl];omega
  ·dsimp only;rw[hkl];omega
  rcases dD.1 hq with h|h
  ·exact z5 q (iM h)
  rcases aN.1 h with rfl|h
  ·omega
  exact z5 q (jf h)
 exact .inl (.inl he)
theorem yax{k v:UInt64}{d:Nat}{A B:AP}{pg more:Nat}{κ:UInt64}{e:Int}(h:kZ k v d A pg B more κ e):e≠0->∀s,Tr (aB A) d s->s.pg=pg->s.ps.Nodup->(∀p∈s.ps,A.Has p)->A.Good->(∀p,A.Has p->(A.c p).length=504)->e=6/\A.Reach B/\A.bu<=d:=by
 induction h with
 | found hn hk=>exact λ h=>absurd rfl h
 | @leaf A B pg i more ks vs κ e hn hst hno hset=>
  intro he s hT cZ hnd hh hg hc;subst cZ;have hp:=hh s.pg hT.mem
  cases hset with
  | one hf=>exact absurd rfl he
  | none hf hfull=>exact⟨rfl,(AP.Reach.refl A).ak hp _,by rw[hg.full.1 hfull];exact aY _⟩
  | two hf hfull=>exact absurd rfl he
 | @stop d A B pg i c more ag ax κ e hn hix gD hrec hor ih=>
  intro he s hT cZ hnd hh hg hc;subst cZ;obtain⟨aj,t,hK,hpt,rfl,nH,pU⟩:=hT.kid hn gD;obtain⟨h1,h2,h3⟩:=ih he t nH hpt (hK.tn hnd) (λ p hp=>hh p (hK.sub p hp)) hg hc;exact⟨h1,h2,Nat.le_succ_of_le h3⟩
 | @up d A B1 B pg i c iJ more ag ax mF κ e hn hix gD hrec hm1 hset ih=>
  intro he s hT cZ hnd hh hg hc;subst cZ;obtain⟨aj,t,hK,hpt,rfl,nH,pU⟩:=hT.kid hn gD;obtain⟨oG,hO⟩:=Ib hrec rfl t nH hpt (hK.tn hnd) (λ p hp=>hh p (hK.sub p hp)) hg hc;have hp:=(hO.fD.has _).2 (.inl (hh _ hT.mem))
  cases hset with
  | one hf=>exact absurd rfl he
  | none hf hfull=>
   refine⟨rfl,hO.fD.reach.ak hp _,?_⟩;have h1:=hO.fD.bu;have h2:=(hO.fD.good hg).full.1 hfull;have h3:=hO.few;omega
  | two hf hfull=>exact absurd rfl he
inductive wL(k v:UInt64)(rt d:Nat)(A:AP):AP->Int->Prop
 | same {B:AP} {κ:UInt64}:kZ k v d A rt B 0 κ 0->wL k v rt d A B 0
 | bad {more:Nat} {B:AP} {κ:UInt64} {e:Int}:kZ k v d A rt B more κ e->e≠0->wL k v rt d A B e
 | full {more:Nat} {B:AP} {κ:UInt64}:kZ k v d A rt B more κ 0->more≠0->B.Full->wL k v rt d A B 6
 | grow {more:Nat} {B B2:AP} {κ:UInt64} {x:Nd}:kZ k v d A rt B more κ 0->more≠0->¬B.Full->aB B rt=some x->B2=B.take.ak B.next (aS (UK.bF 504) x)->wL k v rt d A (B2.ak rt (aS (B2.c rt) ⟨false,[κ],[],[B.next,more]⟩)) 0
structure TI(A:AP)(rt:Nat)(l:List KV)(ps:List Nat):Prop where
 ex:∃d s,Tr (aB A) d s/\s.pg=rt/\s.l=l/\s.ps=ps
 ib:ps.Nodup
 has:∀p∈ps,A.Has p
theorem TI.rise{A:AP}{rt:Nat}{l:List KV}{ps:List Nat}(h:TI A rt l ps):kQ l:=by
 obtain⟨d,s,h1,_,rfl,_⟩:=h.ex;exact h1.rise
theorem TI.many{A:AP}{rt:Nat}{l:List KV}{ps:List Nat}(h:TI A rt l ps):14*ps.length<=l.length+14:=by
 obtain⟨d,s,h1,_,rfl,rfl⟩:=h.ex;exact h1.wM
theorem xx6{A:AP}{ps:List Nat}(hn:ps.Nodup)(hh:∀p∈ps,A.Has p)(hg:A.Good):ps.length<=60000:=by
 have h1:ps.length<=(List.range A.au).length:=hn.length_le_of_subset (λ p hp=>jY.2 (hh p hp).2.1);rw[List.length_range]at h1;have:=hg.aC;have:=hg.few;omega
theorem NK{A:AP}{d:Nat}{s:Sb}(h:Tr (aB A) d s)(hn:s.ps.Nodup)(hh:∀p∈s.ps,A.Has p)(hg:A.Good):d<=16:=by
 cases d with
 | zero=>omega
 | succ d=>
  have hl:=xx6 hn hh hg;obtain⟨ag,aj,h1,h2,h3,h4⟩:=h;have h5:=h2.len
  obtain⟨t,ht⟩:∃t,t∈aj:=by
   cases aj with
   | nil=>simp at h5
   | cons t r=>exact⟨t,by simp⟩
  have h6:=Tr.deep d t (h2.all t ht).1 (h2.all t ht).2
  have h7:t.ps.length<=s.ps.length:=by
   have hsub:t.ps.Sublist s.ps:=by
    rw[h4];exact((List.sublist_flatten_of_mem (bQ.2 ⟨t,ht,rfl⟩)).trans (by rw[<-List.flatMap_def];exact List.Sublist.refl _)).cons _
   exact hsub.length_le
  refine Nat.le_of_not_lt (λ hlt=>?_);have h8:2^16<=2^d:=Nat.pow_le_pow_right (by omega) (by omega);have:(2:Nat)^16=65536:=by decide
  omega
structure yj(A B:AP)(rt:Nat)(l:List KV)(ps:List Nat):Prop where
 ex:∃new ps',mr A B ps new/\TI B rt l ps'/\(∀p,p∈ps'↔p∈ps\/p∈new)/\new.length<=20
theorem yay{k v:UInt64}{rt d:Nat}{A B:AP}{e:Int}{s:Sb}(h:wL k v rt d A B e)(hT:Tr (aB A) d s)(cZ:s.pg=rt)(ht:TI A rt s.l s.ps)(hg:A.Good)(hc:∀p,A.Has p->(A.c p).length=504) :
  (e=0/\yj A B rt (jd s.l k v) s.ps)\/(e=6/\A.Reach B/\A.bu<=20):=by
 have wN:=NK hT ht.ib ht.has hg
 cases h with
 | @same B κ hp=>
  obtain⟨new,hO⟩:=Ib hp rfl s hT cZ ht.ib ht.has hg hc;obtain⟨t,h1,h2,h3,h4,h5,_⟩:=hO.one rfl;refine .inl ⟨rfl,new,t.ps,hO.fD,⟨⟨d,t,h1,h2.trans cZ,h3,rfl⟩,h4,λ p hp=>(hO.fD.has p).2 ?_⟩,h5,by have:=hO.few;omega⟩;rcases(h5 p).1 hp with h|h
  ·exact .inl (ht.has p h)
  exact .inr h
 | @bad more B κ e hp he=>
  obtain⟨h1,h2,h3⟩:=yax hp he s hT cZ ht.ib ht.has hg hc;exact .inr ⟨h1,h2,by omega⟩
 | @full more B κ hp hm hf=>
  obtain⟨new,hO⟩:=Ib hp rfl s hT cZ ht.ib ht.has hg hc;have h1:=hO.fD.bu;have h2:=(hO.fD.good hg).full.1 hf;have h3:=hO.few;exact .inr ⟨rfl,hO.fD.reach,by omega⟩
 | @grow more B B2 κ x hp hm hf hx hB2=>
  obtain⟨new,hO⟩:=Ib hp rfl s hT cZ ht.ib ht.has hg hc;obtain⟨NJ,t,u,nH,wO,KU,RI,hl,hlt,hge,hF1,hF2,oV,hmem⟩:=hO.two hm;rw[cZ]at KU hF1;have hgB:=hO.fD.good hg;have hnx:=hgB.next hf;have hfx:=lJ hx
  have NL:∀p∈t.ps++u.ps,B.Has p:=λ p hp=>(hO.fD.has p).2 (by
   rcases(hmem p).1 hp with h|h
   ·exact .inl (ht.has p h)
   exact .inr h)
  have hrt:B.Has rt:=NL rt (by rw[<-KU];exact eF _ nH.mem);have hmo:B.Has more:=NL more (by rw[<-RI];exact lI _ wO.mem);have hnr:B.next≠rt:=λ e=>hnx.1 (e▸hrt)
  have c2:mr B B2 [] [B.next]:=by
   rw[hB2];exact mr.take hgB hf hO.fD.dR (by rw[tO _ _ (by rw[Ic];omega) hfx,Ic])
  have hn2:aB B2 B.next=some x:=by
   unfold aB;rw[hB2,AP.aL,if_pos rfl];exact EO _ _ (by rw[Ic];omega) hfx
  have hs2:∀p,B.Has p->aB B2 p=aB B p:=λ p hp=>by unfold aB;rw[c2.same p hp (by simp)]
  have KW:B2.Has rt:=(c2.has rt).2 (.inl hrt)
  have hfit:Fits ⟨false,[κ],[],[B.next,more]⟩:=⟨(λ h=>by cases h),λ _=>⟨rfl,by simp,by simp,rfl,λ q hq=>by
   rcases aN.1 hq with rfl|hq
   ·omega
   rw[bz.1 hq];omega⟩⟩
  have hlr:=c2.dR rt KW;have c3:mr B2 (B2.ak rt (aS (B2.c rt) ⟨false,[κ],[],[B.next,more]⟩)) [rt] []:=mr.ak KW c2.dR (by rw[tO _ _ (by omega) hfit,hlr]);have nY:∀q,aB (B2.ak rt (aS (B2.c rt) ⟨false,[κ],[],[B.next,more]⟩)) q=if rt=q then some ⟨false,[κ],[],[B.next,more]⟩ else aB B2 q:=λ q=>AJ hlr hfit
  generalize B2.ak rt (aS (B2.c rt) ⟨false,[κ],[],[B.next,more]⟩)=C at c3 nY;have hsame:∀p∈t.ps++u.ps,p≠rt->aB C p=aB B p:=λ p hp hne=>by rw[nY,if_neg (dz hne),hs2 p (NL p hp)]
  have hxt:aB B t.pg=some x:=by rw[KU];exact hx
  have XP:aB C B.next=some x:=by rw[nY,if_neg (dz hnr),hn2]
  have RJ:=(bN.1 oV).1;have aas:=(bN.1 oV).2.1;have RL:=(bN.1 oV).2.2;obtain⟨dw,hT1,Cr⟩:=Tr.moved nH hxt XP (λ p hp hne=>hsame p (eF _ hp) (by rw[KU]at hne;exact hne)) RJ;rw[KU]at Cr;have XQ:rt∉u.ps:=λ h=>RL rt (by rw[Cr];simp) rt h rfl;have hU1:Tr (aB C) d u:=Tr.same d u wO (λ p hp=>hsame p (lI _ hp) (λ e=>XQ (e▸hp)))
  have pU:iK (aB C) B.next:=by
   obtain⟨y,hy,hf⟩:=hF1;rw[hx]at hy;obtain rfl:=aZ hy;exact⟨x,XP,hf⟩
  have hFu:iK (aB C) u.pg:=by
   obtain⟨y,hy,hf⟩:=hF2;refine⟨y,?_,hf⟩;rw[hsame u.pg (lI _ wO.mem) (λ e=>XQ (e▸wO.mem)),RI];exact hy
  have hIn:iV (λ w=>Tr (aB C) d w/\iK (aB C) w.pg) [κ] [⟨B.next,t.l,B.next::dw⟩,u]:=by
   refine⟨rfl,?_,λ w hw=>?_⟩
   ·show [It.s ⟨B.next,t.l,B.next::dw⟩,.k κ,.s u].Pairwise It.R;simp only[bR,aN,List.not_mem_nil,or_false,forall_eq_or_imp,forall_eq,false_imp_iff,implies_true,List.Pairwise.nil,and_true];exact⟨⟨hlt,λ a ha b hb=>by have:=hlt a ha;have:=hge b hb;omega⟩,hge⟩
   rcases aN.1 hw with rfl|hw
   ·exact⟨hT1,pU⟩
   rw[bz.1 hw];exact⟨hU1,hFu⟩
  have iT:mr A C s.ps (new++[B.next]++[]):=(hO.fD.trans c2 (λ p hp=>by cases hp)).trans c3 (λ p hp=>.inl (by rw[bz.1 hp,<-cZ];exact hT.mem));rw[jL]at iT;have hfl:dP [⟨B.next,t.l,B.next::dw⟩,u]=B.next::dw++u.ps:=by simp[dP]
  have DR:∀p,p∈rt::(B.next::dw++u.ps)↔p∈s.ps\/p∈new++[B.next]:=λ p=>by
   have h1:=hmem p;rw[Cr]at h1;simp only[dD,aN,List.not_mem_nil,or_false]at h1 ⊢
   constructor
   ·rintro(h|((h|h)|h))
    ·rcases h1.1 (.inl (.inl h))with h|h
     ·exact .inl h
     exact .inr (.inl h)
    ·exact .inr (.inr h)
    ·rcases h1.1 (.inl (.inr h))with h|h
     ·exact .inl h
     exact .inr (.inl h)
    rcases h1.1 (.inr h)with h|h
    ·exact .inl h
    exact .inr (.inl h)
   rintro(h|(h|h))
   ·rcases h1.2 (.inl h)with(h|h)|h
    ·exact .inl h
    ·exact .inr (.inl (.inr h))
    exact .inr (.inr h)
   ·rcases h1.2 (.inr h)with(h|h)|h
    ·exact .inl h
    ·exact .inr (.inl (.inr h))
    exact .inr (.inr h)
   exact .inr (.inl (.inl h))
  refine .inl ⟨rfl,new++[B.next],rt::(B.next::dw++u.ps),iT,⟨⟨d+1,⟨rt,gM [⟨B.next,t.l,B.next::dw⟩,u],rt::dP [⟨B.next,t.l,B.next::dw⟩,u]⟩,⟨[κ],[⟨B.next,t.l,B.next::dw⟩,u],?_,hIn,rfl,rfl⟩,rfl,?_,?_⟩,?_,λ p hp=>?_⟩,DR,?_⟩
  ·dsimp only;rw[nY,if_pos rfl,je,je,List.map_nil,RI]
  ·rw[<-hl];simp[gM]
  ·dsimp only;rw[hfl]
  ·have hnt:B.next∉t.ps++u.ps:=λ h=>hnx.1 (NL _ h);rw[Cr]at hnt oV;simp only[lV,dW,aN,dD,not_or]at hnt oV ⊢;exact⟨⟨dz hnr,oV.1⟩,hnt.2,oV.2⟩
  ·rcases(DR p).1 hp with h|h
   ·exact(iT.has p).2 (.inl (ht.has p h))
   exact(iT.has p).2 (.inr h)
  have:=hO.few;rw[zl,iE];omega
def iF(l:List KV)(k:UInt64):Option KV:=l.find? λ x=>x.1==k
theorem xyp{a b c:List KV}{k:UInt64}(ha:∀x∈a,x.1.toNat<k.toNat)(hc:∀x∈c,k.toNat<x.1.toNat):iF (a++(b++c)) k=iF b k:=by
 unfold iF;have h1:a.find? (λ x=>x.1==k)=none:=List.find?_eq_none.2 (λ x hx=>by have:=ha x hx;simp;intro e;rw[e]at this;omega);have h2:c.find? (λ x=>x.1==k)=none:=List.find?_eq_none.2 (λ x hx=>by have:=hc x hx;simp;intro e;rw[e]at this;omega);rw[List.find?_append,List.find?_append,h1,h2];simp
theorem YN:∀{ks vs:List UInt64} {k:UInt64} {i:Nat},jK ks->vs.length=ks.length->ks[i]?=some k->∃v,vs[i]?=some v/\iF (ks.zip vs) k=some (k,v)
 | [],_,_,_,_,_,h=>by simp at h
 | a::ks,[],_,_,_,hv,_=>by simp at hv
 | a::ks,b::vs,k,0,hs,hv,h=>by
  obtain rfl:a=k:=by simpa using h
  exact⟨b,rfl,by unfold iF;rw[List.zip_cons_cons,List.find?_cons_of_pos (by simp)]⟩
 | a::ks,b::vs,k,i+1,hs,hv,h=>by
  obtain⟨v,h1,h2⟩:=YN (ks:=ks) (vs:=vs) (hs.drop 1) (by simpa using hv) (by simpa using h);refine⟨v,by simpa using h1,?_⟩
  have hne:(a==k)=false:=by
   have:=hs 0 (i+1) a k (by omega) rfl h;simp only[beq_eq_false_iff_ne,ne_eq];intro e;rw[e]at this;omega
  unfold iF at h2 ⊢;rw[List.zip_cons_cons,List.find?_cons_of_neg (by simpa using hne)];exact h2
theorem ya5{ks vs:List UInt64}{k:UInt64}(h:k∉ks):iF (ks.zip vs) k=none:=by
 unfold iF;refine List.find?_eq_none.2 (λ x hx=>?_);have:=(List.of_mem_zip hx).1;simp;intro e;exact h (e▸this)
section
variable{A:AP}{d i:Nat}{s t:Sb}{ag:List UInt64}{aj:List Sb}{k:UInt64}
theorem eu.val(h:eu A d s ag aj i t)(hix:dN ag k i):iF s.l k=iF t.l k:=by
 rw[h.l,Lb h.at_,xyp (NN (h.lL.left h.at_ hix.below)) (NP (h.lL.right h.at_ hix.above))]
end
structure At(A:AP)(d:Nat)(t:Sb):Prop where
 tr:Tr (aB A) d t
 has:∀p∈t.ps,A.Has p
theorem At.kid{A:AP}{d:Nat}{s t:Sb}{ag:List UInt64}{aj:List Sb}{i:Nat}(h:At A (d+1) s)(hK:eu A d s ag aj i t):At A d t/\iK (aB A) t.pg:=by
 have hx:=hK.lL.all t hK.mem;exact⟨⟨hx.1,λ p hp=>h.has p (hK.sub p hp)⟩,hx.2⟩
theorem xrp{l:List Nat}{j k:Nat}(h:l[j]?=some k):qA (l.take (j+1))=qA (l.take j)++aI (UInt32.ofNat k):=by
 unfold qA;rw[List.take_add_one,h];simp
theorem xu5{l:List UInt64}{j:Nat}{k:UInt64}(h:l[j]?=some k):oN (l.take (j+1))=oN (l.take j)++b64 k:=by
 unfold oN;rw[List.take_add_one,h];simp
theorem KM(l:List Nat)(i k:Nat)(h:l[i]?=some k):(ints l)[i]?=some (.int .i64 (k:Int)):=by unfold ints;rw[dL,h];rfl
theorem xmh{S:Nat->Prop}{W:World}{nb db cap:Nat}{y:List UInt8}{x:Nd}(h:jD S W nb x)(hl:x.leaf=false)(hk:x.ax.length<=40)(hn:x.ag.length<=42)(hkb:∀k∈x.ax,k<4294967296)(hy:aF W db y)(hyl:y.length=cap)(hc:504<=cap)(hS:¬S db) :
  Calls Tryz.prog 134 #[.slice db 504 cap,.pointer nb] W λ e w'=>e= .returned (.tuple #[])/\aF w' db (tN y x.ag x.ax)/\Only db W w':=by
 obtain⟨kv,vv,av,hb,hnb,⟨ka,kc,rfl,hkc,hkk⟩,_,⟨aa,ac,rfl,hac,Ru⟩⟩:=h;rw[dA,gQ,hl]at hb;rw[dA]at hkc;rw[gQ]at hac;have c0:=hb.c0;have c3:=hb.c3;have hne:nb≠db:=λ e=>hS (e▸hnb);have d0:=hy.cell (i:=0) (by omega);have d1:=hy.cell (i:=1) (by omega);have f0:=hy.free (i:=0) (by omega);have f1:=hy.free (i:=1) (by omega);have he:((UInt8.ofNat x.ax.length).toNat:Int)=x.ax.length:=by rw[UInt8.toNat_ofNat'];omega
 have h2:=(hy.set 0 2).set 1 (UInt8.ofNat x.ax.length);have o2:=((Only.refl db W).set 0 (.int .u8 ((2:UInt8).toNat:Int))).set 1 (.int .u8 ((UInt8.ofNat x.ax.length).toNat:Int));rw[he,show((2:UInt8).toNat:Int)=2 from rfl]at h2 o2;have H2:=zH (zA h2 o2);have HB:=zH hb;have HKB:=zH hkb;clear he h2 o2 hb hkb
 go_enter Tryz.func134,Tryz.ntmps134
 go_wp2_with fail
 obtain⟨hb2,ho2⟩:=H2.out;have hy2:((y.set 0 2).set 1 (UInt8.ofNat x.ax.length)).length=cap:=by rw[aQ,aQ];exact hyl
 generalize KN:(y.set 0 2).set 1 (UInt8.ofNat x.ax.length)=y2 at hb2 hy2;have Rv:=zH KN;clear KN H2
 go_loopw [70] (λ ix wr=>∃j:Nat,ix= .int .i64 j/\j<=x.ax.length/\aF wr db (UK.wr y2 4 (qA (x.ax.take j)))/\Only db W wr) (λ ix _=>50-(intOf ix).toNat)
 case atStart=>exact⟨0,rfl,aY _,by rw[jW];show aF _ _ (UK.wr y2 4 []);rw[UK.LG];exact hb2,ho2⟩
 clear hb2 ho2 hy c0 c3 d0 d1 f0 f1;obtain⟨j,rfl,hj,hb,ho⟩:=hrel;by_cases hlt:j<x.ax.length
 ·obtain⟨kx,hkx⟩:∃k,x.ax[j]?=some k:=⟨_,bL hlt⟩;obtain⟨g,o,rfl,hg,ck⟩:=Ru j _ (KM _ _ _ hkx);have hgd:g≠db:=λ e=>hS (e▸hg);replace ck:=ho.cell ck hgd;have hlb:(qA (x.ax.take j)).length=4*j:=by rw[Cj,zt];omega
  have hw1:(UK.wr y2 4 (qA (x.ax.take j))).length=cap:=by rw[UK.iW _ _ _ (by omega)];exact hy2
  have ha1:=UK.zW y2 4 (qA (x.ax.take j)) (aI (UInt32.ofNat kx)) (by omega);rw[hlb,<-xrp hkx]at ha1;have aan:kx<4294967296:=HKB.out kx (eZ hkx);have Xz:((UInt32.ofNat kx).toNat:Int)=(kx:Int):=by rw[UInt32.toNat_ofNat'];omega
  have P1:=Eh hb (4+4*j) (504-(4+4*j)) (cap-(4+4*j)) (by omega) (by omega) (by omega) (UInt32.ofNat kx);rw[ha1,Xz]at P1;have DF:=zH P1;have HO:=zH ho;have hk0:(0:Int)<=(kx:Int):=by omega
  have hk1:(kx:Int)<4294967296:=by omega
  clear P1 ha1 hw1 hlb hkk Ru hkx hb ho Xz
  go_wp2_with fail
  refine DF.out.mono ?_;rintro e w1 ⟨rfl,b1,o1⟩;have HF:=zH (zA b1 (HO.out.trans o1));clear DF HO b1 o1 ck;go_wp2;go_roundw
  case rel=>exact⟨j+1,by go_num,by omega,HF.out.1,HF.out.2⟩
  case measure=>simp[intOf];omega
 obtain rfl:j=x.ax.length:=by omega
 rw[fH]at hb;have hkl:(qA x.ax).length=4*x.ax.length:=Cj _;have hy3:(UK.wr y2 4 (qA x.ax)).length=cap:=by rw[UK.iW _ _ _ (by omega)];exact hy2
 have c1:wr.cell? (nb,1)=some (.slice ka x.ag.length kc):=ho.cell (HB.out.cell 1 _ rfl) hne;generalize hz:UK.wr y2 4 (qA x.ax)=y3 at hb hy3;have HZ:=zH hz;clear hz hkl
 go_wp2_with fail
 go_loopw [89] (λ ix wr'=>∃j:Nat,ix= .int .i64 j/\j<=x.ag.length/\aF wr' db (UK.wr y3 164 (oN (x.ag.take j)))/\Only db W wr') (λ ix _=>50-(intOf ix).toNat)
 case atStart=>exact⟨0,rfl,aY _,by rw[jW];show aF _ _ (UK.wr y3 164 []);rw[UK.LG];exact hb,ho⟩
 clear hb ho c1;obtain⟨j,rfl,hj2,hb,ho⟩:=hrel;by_cases hlt2:j<x.ag.length
 ·obtain⟨kx,hkx⟩:∃k,x.ag[j]?=some k:=⟨_,bL hlt2⟩;obtain⟨g,o,rfl,hg,ck⟩:=hkk j _ (tH _ _ _ hkx);have hgd:g≠db:=λ e=>hS (e▸hg);replace ck:=ho.cell ck hgd;have hlb:(oN (x.ag.take j)).length=8*j:=by rw[NC,zt];omega
  have hw1:(UK.wr y3 164 (oN (x.ag.take j))).length=cap:=by rw[UK.iW _ _ _ (by omega)];exact hy3
  have ha1:=UK.zW y3 164 (oN (x.ag.take j)) (b64 kx) (by omega);rw[hlb,<-xu5 hkx]at ha1;have P1:=Rw hb (164+8*j) (504-(164+8*j)) (cap-(164+8*j)) (by omega) (by omega) (by omega) (by omega) kx;rw[show aI (UK.kY kx)++aI (UK.l8 kx)=b64 kx from rfl,ha1]at P1;have DF:=zH P1;have HO:=zH ho;clear P1 ha1 hw1 hlb hkk Ru hkx hb ho
  go_wp2_with fail
  refine DF.out.mono ?_;rintro e w1 ⟨rfl,b1,o1⟩;have HF:=zH (zA b1 (HO.out.trans o1));clear DF HO b1 o1 ck;go_wp2;go_roundw
  case rel=>exact⟨j+1,by go_num,by omega,HF.out.1,HF.out.2⟩
  case measure=>simp[intOf];omega
 obtain rfl:j=x.ag.length:=by omega
 rw[fH]at hb;go_wp2;refine bodyPost_end (results_none rfl _ _ _) rfl ?_;refine⟨rfl,?_,ho⟩;unfold tN;rw[Rv.out,HZ.out];exact hb
theorem X0{S:Nat->Prop}{W:World}{nb db cap:Nat}{y:List UInt8}{x:Nd}(h:jD S W nb x)(hx:Fits x)(hy:aF W db y)(hyl:y.length=cap)(hc:504<=cap)(hS:¬S db) :
  Calls Tryz.prog 134 #[.slice db 504 cap,.pointer nb] W λ e w'=>e= .returned (.tuple #[])/\aF w' db (aS y x)/\Only db W w':=by
 unfold aS
 cases hl:x.leaf with
 | true=>
  obtain⟨h1,h2,_⟩:=hx.leaf hl;rw[if_pos rfl];exact Rx h hl h1 h2 hy hyl hc hS
 | false=>
  obtain⟨h1,h2,h3,_,h5⟩:=hx.inner hl;rw[if_neg (by decide)];exact xmh h hl h3 (by omega) h5 hy hyl hc hS
end Go.Proofs.YtgpmiliahonaoaaGreatDoor
