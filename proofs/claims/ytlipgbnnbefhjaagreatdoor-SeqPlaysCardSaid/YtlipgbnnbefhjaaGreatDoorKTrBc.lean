/- Facts on rows of numbers on pages. -/
import Derived.Test.YtlipgbnnbefhjaaGreatDoorKTrYc
set_option maxRecDepth 100000
set_option maxHeartbeats 8000000
set_option linter.unusedSimpArgs false
namespace Go.Proofs.YtlipgbnnbefhjaaGreatDoor
open Go.RowKit
open UK (str aO nth Only)
def wL(f:Nat->Option Nd)(p:Nat):Prop:=∃x,f p=some x/\(x.leaf=true->x.ai.length=14)/\(x.leaf=false->15<=x.ah.length/\x.ah.length<20)
structure xL(A B:AP)(d:Nat)(s:Sb)(k:UInt64)(was iw:Bool)(gone:List Nat):Prop where
 gG:dP A B s.ps gone
 sub:∀p∈gone,p∈s.ps/\p≠s.pg
 eY:gone.Nodup
 tree:∃d' t,Tr (aH B) d' t/\t.pg=s.pg/\t.l=kC s.l k/\t.ps.Nodup/\(∀p,p∈t.ps↔p∈s.ps/\p∉gone)/\(d'=d\/(d'+1=d/\¬jk (aH A) s.pg))
 size:jk (aH A) s.pg->(iw=false->jk (aH B) s.pg)/\(iw=true->wL (aH B) s.pg)
 was:was=true↔∃x∈s.l,x.1=k
structure Mid(A B:AP)(d:Nat)(s:Sb)(ai:List UInt64)(ae:List Sb)(k:UInt64)(gone:List Nat):Prop where
 nd:aH B s.pg=some ⟨false,ai,[],ae.map Sb.pg⟩
 jZ:jF (λ u=>Tr (aH B) d u) ai ae
 l:il ae=kC s.l k
 eY:(s.pg::dZ ae).Nodup
 ps:∀p,p∈s.pg::dZ ae↔p∈s.ps/\p∉gone
 gG:dP A B s.ps gone
 Ec:∀p∈gone,p∈s.ps/\p≠s.pg
 pu:gone.Nodup
theorem Mid.has{A B:AP}{d:Nat}{s:Sb}{ai:List UInt64}{ae:List Sb}{k:UInt64}{gone:List Nat}(h:Mid A B d s ai ae k gone)(hh:∀p∈s.ps,A.Has p):∀p∈s.pg::dZ ae,B.Has p:=λ p hp=>by
 obtain⟨a,b⟩:=(h.ps p).1 hp;exact(h.gG.has p).2 ⟨hh p a,b⟩
theorem xyc{ae:List Sb}{i:Nat}{t:Sb}{k:UInt64}(h:ae[i]?=some t)(hl:∀x∈il (ae.take i),x.1.toNat<k.toNat)(hr:∀x∈il (ae.drop (i+1)),k.toNat<x.1.toNat):(∃x∈il ae,x.1=k)↔∃x∈t.l,x.1=k:=by
 rw[Dm h]
 constructor
 ·rintro⟨x,hx,e⟩;rcases cB.1 hx with h1|h1
  ·have:=hl x h1;rw[e]at this;omega
  rcases cB.1 h1 with h1|h1
  ·exact⟨x,h1,e⟩
  have:=hr x h1;rw[e]at this;omega
 rintro⟨x,hx,e⟩;exact⟨x,by simp[hx],e⟩
theorem MX{A B:AP}{d i:Nat}{s t:Sb}{ai:List UInt64}{ae:List Sb}{k:UInt64}{gone:List Nat}{was iw:Bool}(hK:eH A d s ai ae i t)(hix:dU ai k i)(Vn:s.pg∈s.ps)(hnd:s.ps.Nodup)(hh:∀p∈s.ps,A.Has p)(qb:jk (aH A) t.pg)(hO:xL A B d t k was iw gone) :
  ∃t',Mid A B d s ai (ae.take i++t'::ae.drop (i+1)) k gone/\t'.pg=t.pg/\(∀u∈ae.take i++ae.drop (i+1),jk (aH B) u.pg)/\(iw=false->jk (aH B) t.pg)/\(iw=true->wL (aH B) t.pg)/\(was=true↔∃x∈s.l,x.1=k):=by
 obtain⟨d',t',hT',gU,hl',hn',hm',hd'⟩:=hO.tree
 obtain rfl:d'=d:=by
  rcases hd' with h|h
  ·exact h
  exact absurd qb h.2
 obtain⟨z1,z2⟩:=hO.size qb
 have jX:=(hK.jZ.imp (Q:=λ _=>True) (λ _ _ _=>trivial)).set hK.at_ hix (t:=t') (λ x hx=>by
  rw[hl']at hx;exact .inl (xx7 hx)) trivial
 have hgs:∀p∈gone,p∈t.ps:=λ p hp=>(hO.sub p hp).1
 have hother:∀u∈ae.take i++ae.drop (i+1),Tr (aH B) d' u/\jk (aH B) u.pg:=λ u hu=>by
  have DY:u∈ae:=by
   rcases cB.1 hu with h|h
   ·exact fI h
   exact fA h
  obtain⟨a,b⟩:=hK.jZ.all u DY;have ho:=hK.other hnd u hu;obtain⟨a',b'⟩:=Tr.Vk a hO.gG (λ p hp=>(hO.gG.has p).2 ⟨hh p (ho p hp).2.2,λ hg=>(ho p hp).1 (hgs p hg)⟩) (λ p hp=>(ho p hp).1);exact⟨a',b' b⟩
 have Vo:B.Has s.pg:=(hO.gG.has _).2 ⟨hh _ Vn,λ hg=>hK.oO hnd (hgs _ hg)⟩;have rG:aH B s.pg=aH A s.pg:=by unfold aH;rw[hO.gG.same s.pg Vo (hK.oO hnd)]
 have hlow:=ET (hK.jZ.left hK.at_ hix.below);have hhigh:=Jo (hK.jZ.right hK.at_ hix.above);refine⟨t',⟨?_,⟨jX.len,jX.ord,λ u hu=>?_⟩,?_,?_,λ p=>?_,hO.gG.wider hK.sub,λ p hp=>⟨hK.sub p (hgs p hp),λ e=>hK.oO hnd (e▸hgs p hp)⟩,hO.eY⟩,gU,λ u hu=>(hother u hu).2,z1,z2,?_⟩
 ·rw[rG,hK.nd,F6 hK.at_ gU]
 ·rcases cB.1 hu with h|h
  ·exact(hother u (by simp[h])).1
  rcases aX.1 h with rfl|h
  ·exact hT'
  exact(hother u (by simp[h])).1
 ·rw[hK.l,Dm hK.at_,Cw,vM,hl',ZT hlow hhigh]
 ·have:=MR (new:=[]) (hK.nodup hnd) hn' (λ p hp=>.inl ((hm' p).1 hp).1) (λ p hp=>by cases hp);rw[vL,wH];exact this
 ·have nJ:=hK.nodup hnd;rw[bF,bF]at nJ;obtain⟨q1,⟨q2,q3,q4⟩,q5⟩:=nJ;rw[hK.ps,J9 hK.at_,vL,wH,<-jA,<-jA,P5,P5,hm' p]
  constructor
  ·rintro((h|h)|⟨h,h2⟩)
   ·exact⟨.inl (.inl h),λ hg=>q5 p h p (by simp[hgs p hg]) rfl⟩
   ·exact⟨.inl (.inr h),λ hg=>q4 p (hgs p hg) p h rfl⟩
   exact⟨.inr h,h2⟩
  rintro⟨(h|h)|h,h2⟩
  ·exact .inl (.inl h)
  ·exact .inl (.inr h)
  exact .inr ⟨h,h2⟩
 rw[hO.was,hK.l];exact(xyc hK.at_ hlow hhigh).symm
structure MZ(B:AP)(d m:Nat)(ai:List UInt64)(ae:List Sb)(a b:Sb)(κ:UInt64)(xa xb:Nd):Prop where
 sa:ae[m]?=some a
 sb:ae[m+1]?=some b
 k:ai[m]?=some κ
 na:aH B a.pg=some xa
 nb:aH B b.pg=some xb
 many:Vm xa xb
 rest:∀u∈ae.take m++ae.drop (m+2),jk (aH B) u.pg
theorem xyd{f:Nat->Option Nd}{p q:Nat}{xa xb:Nd}(ha:f p=some xa)(hb:f q=some xb)(hl:xa.leaf=xb.leaf)(h:(wL f p/\jk f q)\/(jk f p/\wL f q)):Vm xa xb:=by
 rcases h with⟨⟨x,h1,h2,h3⟩,⟨y,h4,h5,h6⟩⟩|⟨⟨x,h1,h5,h6⟩,⟨y,h4,h2,h3⟩⟩
 ·rw[ha]at h1;rw[hb]at h4;obtain rfl:=bC h1;obtain rfl:=bC h4;refine⟨λ e=>?_,λ e=>?_⟩
  ·have:=h2 e;have:=h5 (hl▸e);omega
  have:=h3 e;have:=h6 (hl▸e);omega
 rw[ha]at h1;rw[hb]at h4;obtain rfl:=bC h1;obtain rfl:=bC h4;refine⟨λ e=>?_,λ e=>?_⟩
 ·have:=h5 e;have:=h2 (hl▸e);omega
 have:=h6 e;have:=h3 (hl▸e);omega
theorem xng{f:Nat->Option Nd}{d:Nat}{a b:Sb}{xa xb:Nd}(ha:Tr f d a)(hb:Tr f d b)(h1:f a.pg=some xa)(h2:f b.pg=some xb):xa.leaf=xb.leaf:=by
 cases d with
 | zero=>
  obtain⟨_,_,a1,_⟩:=ha;obtain⟨_,_,b1,_⟩:=hb;rw[h1]at a1;rw[h2]at b1;rw[bC a1,bC b1]
 | succ d=>
  obtain⟨_,_,a1,_⟩:=ha;obtain⟨_,_,b1,_⟩:=hb;rw[h1]at a1;rw[h2]at b1;rw[bC a1,bC b1]
theorem PE{A B:AP}{d i m ca cb:Nat}{s t t':Sb}{ai:List UInt64}{ae:List Sb}{k κ:UInt64}{gone:List Nat}{xa xb:Nd}(hi:ae[i]?=some t)(hM:Mid A B d s ai (ae.take i++t'::ae.drop (i+1)) k gone)(cK:t'.pg=t.pg)(hF:∀u∈ae.take i++ae.drop (i+1),jk (aH B) u.pg)(hS:wL (aH B) t.pg)
  (hm:m=yP (ae.map Sb.pg).length i) (ha:(ae.map Sb.pg)[m]?=some ca) (hb:(ae.map Sb.pg)[m+1]?=some cb) (hk:ai[m]?=some κ) (hxa:aH B ca=some xa) (hxb:aH B cb=some xb) :
  ∃a b,a.pg=ca/\b.pg=cb/\MZ B d m ai (ae.take i++t'::ae.drop (i+1)) a b κ xa xb:=by
 have hil:=(dn.1 hi).1;rw[<-F6 hi cK]at ha hb;obtain⟨a,ha1,ha2⟩:=Pz ha;obtain⟨b,hb1,hb2⟩:=Pz hb
 have ES:m=i\/m+1=i:=by
  rw[hm,kg];unfold yP
  split<;>omega
 have hti:(ae.take i++t'::ae.drop (i+1))[i]?=some t':=by
  rw[dF (by rw[zt];omega),zt,lH (by omega),iF];rfl
 have hoth:∀(j:Nat) (u:Sb),j≠i->(ae.take i++t'::ae.drop (i+1))[j]?=some u->u∈ae.take i++ae.drop (i+1):=λ j u hj hu=>by
  rcases Nat.lt_or_ge j i with h|h
  ·rw[dM (by rw[zt];omega)]at hu;exact bR _ (fe hu)
  rw[dF (by rw[zt];omega),zt,lH (by omega),show j-i=(j-i-1)+1 by omega,qJ]at hu;exact fE _ (fe hu)
 have hTa:=hM.jZ.all a (fe ha1);have hTb:=hM.jZ.all b (fe hb1);subst ha2 hb2;refine⟨a,b,rfl,rfl,ha1,hb1,hk,hxa,hxb,xyd hxa hxb (xng hTa hTb hxa hxb) ?_,λ u hu=>?_⟩
 rotate_left
 ·rcases cB.1 hu with h|h
  ·obtain⟨j,hj,e⟩:=jb h;rw[zt]at hj;rw[List.getElem_take]at e;exact hF u (hoth j u (by omega) (by rw[di (by omega),e]))
  obtain⟨j,hj,e⟩:=jb h;rw[zd]at hj;rw[List.getElem_drop]at e;exact hF u (hoth (m+2+j) u (by omega) (by rw[di (by omega),e]))
 rcases ES with rfl|h
 ·rw[hti]at ha1;obtain rfl:=bC ha1;exact .inl ⟨by rw[cK];exact hS,hF b (hoth (m+1) b (by omega) hb1)⟩
 subst h;rw[hti]at hb1;obtain rfl:=bC hb1;exact .inr ⟨hF a (hoth m a (by omega) ha1),by rw[cK];exact hS⟩
theorem PG{ae:List Sb}{m:Nat}{a b:Sb}(ha:ae[m]?=some a)(hb:ae[m+1]?=some b):dZ ae=dZ (ae.take m)++((a.ps++b.ps)++dZ (ae.drop (m+2))):=by
 conv=>lhs;rw[P6 ha hb]
 rw[vL,wH,wH,dH]
theorem Vp{ae:List Sb}{m:Nat}{a b:Sb}(ha:ae[m]?=some a)(hb:ae[m+1]?=some b):il ae=il (ae.take m)++((a.l++b.l)++il (ae.drop (m+2))):=by
 conv=>lhs;rw[P6 ha hb]
 rw[Cw,vM,vM,dH]
structure Bt(A B:AP)(d m:Nat)(s:Sb)(ai:List UInt64)(ae:List Sb)(a b:Sb)(κ:UInt64):Prop where
 ta:Tr (aH B) d a
 tb:Tr (aH B) d b
 eY:(a.ps++b.ps).Nodup
 lo:∀x∈a.l,x.1.toNat<κ.toNat
 hi:∀x∈b.l,κ.toNat<=x.1.toNat
 ne:a.pg≠b.pg
 na:a.pg≠s.pg
 nb:b.pg≠s.pg
 ha:a.pg∈s.pg::dZ ae
 hb:b.pg∈s.pg::dZ ae
 big:((s.pg::dZ (ae.take m))++((a.ps++b.ps)++dZ (ae.drop (m+2)))).Nodup
theorem Mid.xM{A B:AP}{d m:Nat}{s:Sb}{ai:List UInt64}{ae:List Sb}{k κ:UInt64}{gone:List Nat}{a b:Sb}{xa xb:Nd}(hM:Mid A B d s ai ae k gone)(hP:MZ B d m ai ae a b κ xa xb):Bt A B d m s ai ae a b κ:=by
 have lu:=hM.jZ.all a (fe hP.sa);have htb:=hM.jZ.all b (fe hP.sb);have hn:=hM.eY;rw[PG hP.sa hP.sb,<-jA]at hn;have hn0:=hn;rw[bF,bF]at hn;obtain⟨q1,⟨q2,q3,q4⟩,q5⟩:=hn;have ho:=hM.jZ.ord;rw[hM.jZ.Ie hP.sa hP.sb hP.k]at ho;simp only[List.pairwise_append,gN]at ho;obtain⟨o1,⟨oa,ok,ob,o2⟩,o3⟩:=ho;have ma:a.pg∈dZ ae:=yO (fe hP.sa) lu.mem;have mb:b.pg∈dZ ae:=yO (fe hP.sb) htb.mem;refine⟨lu,htb,q2,oa (.k κ) (by simp),ok (.s b) (by simp),λ e=>?_,λ e=>?_,λ e=>?_,eu _ ma,eu _ mb,hn0⟩
 ·exact(bF.1 q2).2.2 a.pg lu.mem b.pg htb.mem e
 ·exact(dL.1 hM.eY).1 (e▸ma)
 exact(dL.1 hM.eY).1 (e▸mb)
theorem Bt.other{A B:AP}{d m:Nat}{s:Sb}{ai:List UInt64}{ae:List Sb}{a b:Sb}{κ:UInt64}(h:Bt A B d m s ai ae a b κ):∀u∈ae.take m++ae.drop (m+2),∀p∈u.ps,p∉a.ps++b.ps/\p≠s.pg:=by
 have hn:=h.big;rw[bF,bF]at hn;obtain⟨q1,⟨q2,q3,q4⟩,q5⟩:=hn;intro u hu p hp;rcases cB.1 hu with hu|hu
 ·have hm:=yO hu hp;exact⟨λ ht=>q5 p (by simp[hm]) p (bR _ ht) rfl,λ e=>(dL.1 q1).1 (e▸hm)⟩
 have hm:=yO hu hp;exact⟨λ ht=>q4 p ht p hm rfl,λ e=>q5 s.pg (by simp) p (by simp[hm]) e.symm⟩
theorem Tr.moved{f g:Nat->Option Nd}{d:Nat}{c:Sb}{x:Nd}{pg:Nat}(h:Tr f d c)(hx:f c.pg=some x)(hg:g pg=some x)(hs:∀p∈c.ps,p≠c.pg->g p=f p)(hnd:c.ps.Nodup):∃ps,Tr g d ⟨pg,c.l,pg::ps⟩/\c.ps=c.pg::ps:=by
 cases d with
 | zero=>
  obtain⟨ks,vs,h1,h2,h3,h4,h5⟩:=h;rw[hx]at h1;obtain rfl:=bC h1;exact⟨[],⟨ks,vs,hg,h2,h3,h4,rfl⟩,h5⟩
 | succ d=>
  obtain⟨ai,ae,h1,h2,h3,h4⟩:=h;rw[hx]at h1;obtain rfl:=bC h1;rw[h4]at hnd;refine⟨dZ ae,⟨ai,ae,hg,h2.imp (λ t ht ⟨a,b⟩=>?_),h3,rfl⟩,h4⟩;have hsub:∀p∈t.ps,g p=f p:=λ p hp=>hs p (by rw[h4];exact eu _ (yO ht hp)) (λ e=>(dL.1 hnd).1 (e▸yO ht hp));refine⟨Tr.same d t a hsub,?_⟩;obtain⟨y,e,hy⟩:=b;exact⟨y,(hsub _ a.mem).trans e,hy⟩
theorem xyg{s:Sb}{p:Nat}:p∈s.ps↔p∈s.ps/\p∉([]:List Nat):=by simp
theorem xvp{ks vs:List UInt64}{k:UInt64}(hv:vs.length=ks.length):(∃x∈ks.zip vs,x.1=k)↔k∈ks:=by
 constructor
 ·rintro⟨x,hx,rfl⟩;exact(List.of_mem_zip hx).1
 intro h;obtain⟨v,hv⟩:=Vl hv h;exact⟨_,hv,rfl⟩
theorem yan{ae:List Sb}{m:Nat}{a b c e:Sb}(ha:ae[m]?=some a)(hb:ae[m+1]?=some b)(hc:c.pg=a.pg)(he:e.pg=b.pg):(ae.take m++c::e::ae.drop (m+2)).map Sb.pg=ae.map Sb.pg:=by
 conv=>rhs;rw[P6 ha hb]
 simp only[jr,List.map_cons,hc,he]
theorem yao{ae:List Sb}{m:Nat}{a c:Sb}(ha:ae[m]?=some a)(hc:c.pg=a.pg):(ae.take m++c::ae.drop (m+2)).map Sb.pg=(ae.map Sb.pg).take (m+1)++(ae.map Sb.pg).drop (m+2):=by
 have e1:(ae.map Sb.pg).take (m+1)=(ae.map Sb.pg).take m++[a.pg]:=by
  rw[ow,dW,ha];rfl
 rw[e1];simp only[jr,List.map_cons,hc,List.map_take,List.map_drop,dH,jA,gH]
theorem Cv{A:AP}{p q:Nat}{x:Nd}(hl:(A.c p).length=504)(hx:Fits x):aH (A.az p (bg (A.c p) x)) q=if p=q then some x else aH A q:=by
 unfold aH;rw[AP.bG]
 split
 ·exact GZ _ _ (by omega) hx
 rfl
theorem PN{A:AP}{p q:Nat}:aH (A.give p) q=aH A q:=by unfold aH;rw[AP.mr]
theorem xvq{k:UInt64}{d:Nat}{A B:AP}{pg:Nat}{was iw:Bool}(h:fB k d A pg B was iw):∀s,Tr (aH A) d s->s.pg=pg->s.ps.Nodup->(∀p∈s.ps,A.Has p)->A.Good->(∀p,A.Has p->(A.c p).length=504)->∃gone,xL A B d s k was iw gone:=by
 induction h with
 | @none A pg ks vs hn hno=>
  intro s hT cK hnd hh hg hc;subst cK;obtain⟨ks',vs',h1,h2,h3,h4,h5⟩:=id hT;rw[hn]at h1
  injection bC h1 with _ e1 e2 _
  subst e1 e2;refine⟨[],⟨dP.refl hc _,(λ p hp=>by cases hp),List.nodup_nil,⟨0,s,hT,rfl,?_,hnd,λ p=>xyg,.inl rfl⟩,λ hf=>⟨λ _=>hf,(λ h=>by cases h)⟩,?_⟩⟩
  ·rw[h4];exact(xvj hno).symm
  rw[h4,xvp h2];simp[hno]
 | @leaf A pg i ks vs hn hk=>
  intro s hT cK hnd hh hg hc;subst cK;obtain⟨ks',vs',h1,h2,h3,h4,h5⟩:=hT;rw[hn]at h1
  injection bC h1 with _ e1 e2 _
  subst e1 e2;have hp:=hh s.pg (by rw[h5];simp);have hi:=(dn.1 hk).1;have hf0:=(mE hn).leaf rfl;dsimp only at hf0;have lk:(ks.take i++ks.drop (i+1)).length=ks.length-1:=by simp;omega
  have lv:(vs.take i++vs.drop (i+1)).length=ks.length-1:=by simp;omega
  have hfit:Fits ⟨true,ks.take i++ks.drop (i+1),vs.take i++vs.drop (i+1),[]⟩:=⟨λ _=>⟨by dsimp only;omega,by dsimp only;omega,rfl⟩,(λ h=>by cases h)⟩;have hpl:=hc _ hp;have hB:aH (A.az s.pg (bg (A.c s.pg) ⟨true,ks.take i++ks.drop (i+1),vs.take i++vs.drop (i+1),[]⟩)) s.pg=some ⟨true,ks.take i++ks.drop (i+1),vs.take i++vs.drop (i+1),[]⟩:=by rw[Cv hpl hfit,if_pos rfl]
  refine⟨[],⟨by rw[h5];exact dP.az hp hc (by rw[uY _ _ (by omega) hfit,hpl]),(λ p hp=>by cases hp),List.nodup_nil,⟨0,⟨s.pg,(ks.take i++ks.drop (i+1)).zip (vs.take i++vs.drop (i+1)),[s.pg]⟩,⟨_,_,hB,by omega,h3.drop_one i hi,rfl,rfl⟩,rfl,?_,by simp,λ p=>by rw[h5];simp,.inl rfl⟩,λ hf=>⟨λ hpo=>⟨_,hB,λ _=>?_,(λ h=>by cases h)⟩,λ hpo=>⟨_,hB,λ _=>?_,(λ h=>by cases h)⟩⟩,?_⟩⟩
  ·rw[h4];exact(xya h3 hk h2).symm
  ·dsimp only;have:¬(ks.length-1<15):=by simpa using hpo
   omega
  ·dsimp only;have OZ:ks.length-1<15:=by simpa using hpo
   obtain⟨x,hx,hx2,_⟩:=hf;rw[hn]at hx;obtain rfl:=bC hx;have:=hx2 rfl;dsimp only at this;omega
  rw[h4,xvp h2];simp only[true_iff];exact fe hk
 | @MV d A B pg i c ai ah was hn hix eP hrec ih=>
  intro s hT cK hnd hh hg hc;subst cK;obtain⟨ae,t,hK,hpt,rfl,ng,qb⟩:=hT.kid hn eP;obtain⟨gone,hO⟩:=ih t ng hpt (hK.tn hnd) (λ p hp=>hh p (hK.sub p hp)) hg hc;obtain⟨t',hM,gU,hF,z1,_,hw⟩:=MX hK hix hT.mem hnd hh qb hO
  have hall:∀u∈ae.take i++t'::ae.drop (i+1),Tr (aH B) d u/\jk (aH B) u.pg:=λ u hu=>⟨hM.jZ.all u hu,by
   rcases cB.1 hu with h|h
   ·exact hF u (by simp[h])
   rcases aX.1 h with rfl|h
   ·rw[gU];exact z1 rfl
   exact hF u (by simp[h])⟩
  have rG:aH B s.pg=aH A s.pg:=by rw[hM.nd,hn,F6 hK.at_ gU]
  exact⟨gone,⟨hM.gG,hM.Ec,hM.pu,⟨d+1,⟨s.pg,il (ae.take i++t'::ae.drop (i+1)),s.pg::dZ (ae.take i++t'::ae.drop (i+1))⟩,⟨ai,_,hM.nd,⟨hM.jZ.len,hM.jZ.ord,hall⟩,rfl,rfl⟩,rfl,hM.l,hM.eY,hM.ps,.inl rfl⟩,λ ⟨x,hx,hf⟩=>⟨λ _=>⟨x,rG.trans hx,hf⟩,(λ h=>by cases h)⟩,hw⟩⟩
 | @even d A B1 B2 pg i c m ca cb ai ah was a b a' b' κ eG hn hix eP hrec hm vN hcb dK hna hnb hev hB2 ih=>
  intro s hT cK hnd hh hg hc;subst cK;obtain⟨ae,t,hK,hpt,rfl,ng,qb⟩:=hT.kid hn eP;obtain⟨gone,hO⟩:=ih t ng hpt (hK.tn hnd) (λ p hp=>hh p (hK.sub p hp)) hg hc;obtain⟨t',hM,gU,hF,_,z2,hw⟩:=MX hK hix hT.mem hnd hh qb hO;obtain⟨sa,sb,rfl,rfl,hP⟩:=PE hK.at_ hM gU hF (z2 rfl) hm vN hcb dK hna hnb;have fJ:=hM.xM hP;have mV:=hM.has hh;have xN:=hM.gG.fq;obtain⟨_,hE⟩:=P8 fJ.ta fJ.tb fJ.eY hP.na hP.nb (mE hna) (mE hnb) fJ.lo fJ.hi hP.many hev;obtain⟨f1,f2,Cx,Ic,hG⟩:=hE rfl;have mW:=mV _ fJ.ha;have Bv:=mV _ fJ.hb;have Bw:=mV s.pg (by simp);have c1:dP B1 (B1.az sa.pg (bg (B1.c sa.pg) a')) [sa.pg] []:=dP.az mW xN (by rw[uY _ _ (by rw[xN _ mW];omega) f1,xN _ mW]);have vk:(B1.az sa.pg (bg (B1.c sa.pg) a')).Has sb.pg:=AP.bu.2 Bv
  have c2:dP (B1.az sa.pg (bg (B1.c sa.pg) a')) B2 [sb.pg] []:=by
   rw[hB2];exact dP.az vk c1.fq (by rw[uY _ _ (by rw[c1.fq _ vk];omega) f2,c1.fq _ vk])
  have vw:B2.Has s.pg:=by rw[hB2];exact AP.bu.2 (AP.bu.2 Bw)
  have hfx:=(mE hn).inner rfl;have hkl:=(dn.1 dK).1;have vz:Fits ⟨false,ai.set m eG,[],ae.map Sb.pg⟩:=⟨(λ h=>by cases h),λ _=>⟨by dsimp only at hfx ⊢;rw[bB];exact hfx.1,hfx.2.1,hfx.2.2.1,rfl,hfx.2.2.2.2⟩⟩;have hl3:=c2.fq _ vw;have c3:dP B2 (B2.az s.pg (bg (B2.c s.pg) ⟨false,ai.set m eG,[],ae.map Sb.pg⟩)) [s.pg] []:=dP.az vw c2.fq (by rw[uY _ _ (by omega) vz,hl3]);generalize Ng:B2.az s.pg (bg (B2.c s.pg) ⟨false,ai.set m eG,[],ae.map Sb.pg⟩)=B at c3 ⊢
  have kG:∀q,aH B q=if s.pg=q then some ⟨false,ai.set m eG,[],ae.map Sb.pg⟩ else if sb.pg=q then some b' else if sa.pg=q then some a' else aH B1 q:=λ q=>by
   rw[<-Ng,Cv hl3 vz,hB2,Cv (c1.fq _ vk) f2,Cv (xN _ mW) f1]
  have hga:aH B sa.pg=some a':=by rw[kG,if_neg (eU fJ.na),if_neg (eU fJ.ne),if_pos rfl]
  have hgb:aH B sb.pg=some b':=by rw[kG,if_neg (eU fJ.nb),if_pos rfl]
  have hgo:∀q,q≠s.pg->q≠sa.pg->q≠sb.pg->aH B q=aH B1 q:=λ q q1 q2 q3=>by rw[kG,if_neg (eU q1),if_neg (eU q3),if_neg (eU q2)]
  have qH:∀p∈sa.ps++sb.ps,p≠s.pg:=λ p hp e=>(bF.1 fJ.big).2.2 s.pg (by simp) p (bR _ hp) e.symm;obtain⟨cc,ee,Nh,hTe,hcp,hep,Ni,hc0,he0,Vu,Vv,Vw,Nj⟩:=hG (aH B) hga hgb (λ p hp q1 q2=>hgo p (qH p hp) q1 q2)
  have hoth:∀u∈(ae.take i++t'::ae.drop (i+1)).take m++(ae.take i++t'::ae.drop (i+1)).drop (m+2),Tr (aH B) d u/\(jk (aH B1) u.pg->jk (aH B) u.pg):=λ u hu=>by
   have DY:u∈ae.take i++t'::ae.drop (i+1):=by
    rcases cB.1 hu with h|h
    ·exact fI h
    exact fA h
   have yN:=hM.jZ.all u DY;have ho:=fJ.other u hu;have hsame:∀p∈u.ps,aH B p=aH B1 p:=λ p hp=>hgo p (ho p hp).2 (λ e=>(ho p hp).1 (by rw[e];exact bR _ fJ.ta.mem)) (λ e=>(ho p hp).1 (by rw[e];exact fE _ fJ.tb.mem));exact⟨Tr.same d u yN hsame,λ ⟨x,h1,h2⟩=>⟨x,(hsame _ yN.mem).trans h1,h2⟩⟩
  have hhT:∀u∈(ae.take i++t'::ae.drop (i+1)).take m++(ae.take i++t'::ae.drop (i+1)).drop (m+2),Tr (aH B) d u/\jk (aH B) u.pg:=λ u hu=>⟨(hoth u hu).1,(hoth u hu).2 (hP.rest u hu)⟩;have jX:=(hM.jZ.imp (Q:=λ _=>True) (λ _ _ _=>trivial)).share hP.sa hP.sb hP.k Ni hc0 he0 Vu Vv trivial trivial
  have hall:∀u∈(ae.take i++t'::ae.drop (i+1)).take m++cc::ee::(ae.take i++t'::ae.drop (i+1)).drop (m+2),Tr (aH B) d u/\jk (aH B) u.pg:=λ u hu=>by
   rcases cB.1 hu with h|h
   ·exact hhT u (bR _ h)
   rcases aX.1 h with rfl|h
   ·exact⟨Nh,by rw[hcp];exact⟨_,hga,Cx⟩⟩
   rcases aX.1 h with rfl|h
   ·exact⟨hTe,by rw[hep];exact⟨_,hgb,Ic⟩⟩
   exact hhT u (fE _ h)
  have hps:∀p,p∈s.pg::dZ ((ae.take i++t'::ae.drop (i+1)).take m++cc::ee::(ae.take i++t'::ae.drop (i+1)).drop (m+2))↔p∈s.pg::dZ (ae.take i++t'::ae.drop (i+1)):=λ p=>by
   rw[PG hP.sa hP.sb,vL,wH,wH];have:=Nj p;simp only[aX,cB]at this ⊢
   constructor
   ·rintro(h|h|h|h|h)
    ·exact .inl h
    ·exact .inr (.inl h)
    ·exact .inr (.inr (.inl (this.1 (.inl h))))
    ·exact .inr (.inr (.inl (this.1 (.inr h))))
    exact .inr (.inr (.inr h))
   rintro(h|h|h|h)
   ·exact .inl h
   ·exact .inr (.inl h)
   ·rcases this.2 h with h|h
    ·exact .inr (.inr (.inl h))
    exact .inr (.inr (.inr (.inl h)))
   exact .inr (.inr (.inr (.inr h)))
  have iA:(s.pg::dZ ((ae.take i++t'::ae.drop (i+1)).take m++cc::ee::(ae.take i++t'::ae.drop (i+1)).drop (m+2))).Nodup:=by
   have:=MR (new:=[]) fJ.big Vw (λ p hp=>.inl ((Nj p).1 hp)) (λ p hp=>by cases hp);rw[vL,wH,wH,<-dH cc.ps];exact this
  have jE:dP A B s.ps (gone++[]):=hM.gG.trans (((c1.wider (ps2:=s.ps) (λ p hp=>by rw[bQ.1 hp];exact((hM.ps _).1 fJ.ha).1)).trans c2 (λ p hp=>by rw[bQ.1 hp];exact((hM.ps _).1 fJ.hb).1)).trans c3 (λ p hp=>by rw[bQ.1 hp];exact hT.mem)) (λ _ h=>h);rw[jw]at jE;refine⟨gone,⟨jE,hM.Ec,hM.pu,⟨d+1,⟨s.pg,il ((ae.take i++t'::ae.drop (i+1)).take m++cc::ee::(ae.take i++t'::ae.drop (i+1)).drop (m+2)),s.pg::dZ ((ae.take i++t'::ae.drop (i+1)).take m++cc::ee::(ae.take i++t'::ae.drop (i+1)).drop (m+2))⟩,⟨_,_,by rw[kG,if_pos rfl,yan hP.sa hP.sb hcp hep,F6 hK.at_ gU],⟨jX.len,jX.ord,hall⟩,rfl,rfl⟩,rfl,?_,iA,λ p=>(hps p).trans (hM.ps p),.inl rfl⟩,λ Nk=>?_,hw⟩⟩
  ·dsimp only;rw[<-hM.l,Vp hP.sa hP.sb,Cw,vM,vM,<-Ni,dH]
  obtain⟨x,hx,hx1,hx2⟩:=Nk;rw[hn]at hx;obtain rfl:=bC hx;have h16:=hx2 rfl;refine⟨λ hpo=>⟨⟨false,ai.set m eG,[],ae.map Sb.pg⟩,by rw[kG,if_pos rfl],(λ h=>by cases h),λ _=>h16⟩,λ hpo=>⟨⟨false,ai.set m eG,[],ae.map Sb.pg⟩,by rw[kG,if_pos rfl],(λ h=>by cases h),λ _=>?_⟩⟩;have:(ae.map Sb.pg).length<20:=by simpa using hpo
  dsimp only at h16 ⊢;omega
 | @join d A B1 B2 pg i c m ca cb ai ah was a b a' b' κ eG hn hix eP hrec hm vN hcb dK hna hnb hev hB2 hk2 ih=>
  intro s hT cK hnd hh hg hc;subst cK;obtain⟨ae,t,hK,hpt,rfl,ng,qb⟩:=hT.kid hn eP;obtain⟨gone,hO⟩:=ih t ng hpt (hK.tn hnd) (λ p hp=>hh p (hK.sub p hp)) hg hc;obtain⟨t',hM,gU,hF,_,z2,hw⟩:=MX hK hix hT.mem hnd hh qb hO;obtain⟨sa,sb,rfl,rfl,hP⟩:=PE hK.at_ hM gU hF (z2 rfl) hm vN hcb dK hna hnb;have fJ:=hM.xM hP;have mV:=hM.has hh;have xN:=hM.gG.fq;obtain⟨hE,_⟩:=P8 fJ.ta fJ.tb fJ.eY hP.na hP.nb (mE hna) (mE hnb) fJ.lo fJ.hi hP.many hev;obtain⟨f1,Cx,hG⟩:=hE rfl;have mW:=mV _ fJ.ha;have Bv:=mV _ fJ.hb;have Bw:=mV s.pg (by simp);have c1:dP B1 (B1.az sa.pg (bg (B1.c sa.pg) a')) [sa.pg] []:=dP.az mW xN (by rw[uY _ _ (by rw[xN _ mW];omega) f1,xN _ mW]);have vk:(B1.az sa.pg (bg (B1.c sa.pg) a')).Has sb.pg:=AP.bu.2 Bv
  have c2:dP (B1.az sa.pg (bg (B1.c sa.pg) a')) B2 [] [sb.pg]:=by
   rw[hB2];exact dP.give (c1.good (hM.gG.good hg)) vk c1.fq
  have vw:B2.Has s.pg:=(c2.has _).2 ⟨AP.bu.2 Bw,by simp;exact eU fJ.nb⟩;have hfx:=(mE hn).inner rfl;have hkl:=(dn.1 dK).1;dsimp only at hfx;have lk:(ai.take m++ai.drop (m+1)).length=ai.length-1:=by simp;omega
  have lc:((ae.map Sb.pg).take (m+1)++(ae.map Sb.pg).drop (m+2)).length=(ae.map Sb.pg).length-1:=by rw[zl,zt,zd];omega
  have vz:Fits ⟨false,ai.take m++ai.drop (m+1),[],(ae.map Sb.pg).take (m+1)++(ae.map Sb.pg).drop (m+2)⟩:=⟨(λ h=>by cases h),λ _=>⟨by dsimp only;omega,by dsimp only;omega,by dsimp only;omega,rfl,λ q hq=>by
   rcases cB.1 hq with h|h
   ·exact hfx.2.2.2.2 q (fI h)
   exact hfx.2.2.2.2 q (fA h)⟩⟩
  have hl3:=c2.fq _ vw;have c3:dP B2 (B2.az s.pg (bg (B2.c s.pg) ⟨false,ai.take m++ai.drop (m+1),[],(ae.map Sb.pg).take (m+1)++(ae.map Sb.pg).drop (m+2)⟩)) [s.pg] []:=dP.az vw c2.fq (by rw[uY _ _ (by omega) vz,hl3]);generalize Ng:B2.az s.pg (bg (B2.c s.pg) ⟨false,ai.take m++ai.drop (m+1),[],(ae.map Sb.pg).take (m+1)++(ae.map Sb.pg).drop (m+2)⟩)=B at c3 ⊢
  have kG:∀q,aH B q=if s.pg=q then some ⟨false,ai.take m++ai.drop (m+1),[],(ae.map Sb.pg).take (m+1)++(ae.map Sb.pg).drop (m+2)⟩ else if sa.pg=q then some a' else aH B1 q:=λ q=>by
   rw[<-Ng,Cv hl3 vz,hB2,PN,Cv (xN _ mW) f1]
  have hga:aH B sa.pg=some a':=by rw[kG,if_neg (eU fJ.na),if_pos rfl]
  have hgo:∀q,q≠s.pg->q≠sa.pg->aH B q=aH B1 q:=λ q q1 q2=>by rw[kG,if_neg (eU q1),if_neg (eU q2)]
  have qH:∀p∈sa.ps++sb.ps,p≠s.pg:=λ p hp e=>(bF.1 fJ.big).2.2 s.pg (by simp) p (bR _ hp) e.symm;obtain⟨cc,Nh,hcp,hcl,hcn,hcm⟩:=hG (aH B) hga (λ p hp q1 _=>hgo p (qH p hp) q1)
  have hoth:∀u∈(ae.take i++t'::ae.drop (i+1)).take m++(ae.take i++t'::ae.drop (i+1)).drop (m+2),Tr (aH B) d u/\jk (aH B) u.pg:=λ u hu=>by
   have DY:u∈ae.take i++t'::ae.drop (i+1):=by
    rcases cB.1 hu with h|h
    ·exact fI h
    exact fA h
   have yN:=hM.jZ.all u DY;have ho:=fJ.other u hu;have hsame:∀p∈u.ps,aH B p=aH B1 p:=λ p hp=>hgo p (ho p hp).2 (λ e=>(ho p hp).1 (by rw[e];exact bR _ fJ.ta.mem));obtain⟨x,h1,h2⟩:=hP.rest u hu;exact⟨Tr.same d u yN hsame,x,(hsame _ yN.mem).trans h1,h2⟩
  have jX:=(hM.jZ.imp (Q:=λ _=>True) (λ _ _ _=>trivial)).one hP.sa hP.sb hP.k hcl trivial
  have hall:∀u∈(ae.take i++t'::ae.drop (i+1)).take m++cc::(ae.take i++t'::ae.drop (i+1)).drop (m+2),Tr (aH B) d u/\jk (aH B) u.pg:=λ u hu=>by
   rcases cB.1 hu with h|h
   ·exact hoth u (bR _ h)
   rcases aX.1 h with rfl|h
   ·exact⟨Nh,by rw[hcp];exact⟨_,hga,Cx⟩⟩
   exact hoth u (fE _ h)
  have hbig:=fJ.big;rw[bF,bF]at hbig;obtain⟨g1,⟨g2,g3,g4⟩,g5⟩:=hbig
  have hps:∀p,p∈s.pg::dZ ((ae.take i++t'::ae.drop (i+1)).take m++cc::(ae.take i++t'::ae.drop (i+1)).drop (m+2))↔p∈s.pg::dZ (ae.take i++t'::ae.drop (i+1))/\p≠sb.pg:=λ p=>by
   have hbm:sb.pg∈sa.ps++sb.ps:=fE _ fJ.tb.mem;rw[PG hP.sa hP.sb,vL,wH];have:=hcm p;simp only[aX,cB]at this ⊢
   constructor
   ·rintro(h|h|h|h)
    ·exact⟨.inl h,λ e=>fJ.nb (e▸h)⟩
    ·exact⟨.inr (.inl h),λ e=>g5 p (by simp[h]) sb.pg (bR _ hbm) e⟩
    ·exact⟨.inr (.inr (.inl (this.1 h).1)),(this.1 h).2⟩
    exact⟨.inr (.inr (.inr h)),λ e=>g4 sb.pg hbm p h e.symm⟩
   rintro⟨h|h|h|h,h2⟩
   ·exact .inl h
   ·exact .inr (.inl h)
   ·exact .inr (.inr (.inl (this.2 ⟨h,h2⟩)))
   exact .inr (.inr (.inr h))
  have iA:(s.pg::dZ ((ae.take i++t'::ae.drop (i+1)).take m++cc::(ae.take i++t'::ae.drop (i+1)).drop (m+2))).Nodup:=by
   have:=MR (new:=[]) fJ.big hcn (λ p hp=>.inl ((hcm p).1 hp).1) (λ p hp=>by cases hp);rw[vL,wH];exact this
  have jE:dP A B s.ps (gone++[sb.pg]):=hM.gG.trans (((c1.wider (ps2:=s.ps) (λ p hp=>by rw[bQ.1 hp];exact((hM.ps _).1 fJ.ha).1)).trans c2 (λ p hp=>by cases hp)).trans c3 (λ p hp=>by rw[bQ.1 hp];exact hT.mem)) (λ _ h=>h);have hbs:=(hM.ps _).1 fJ.hb;refine⟨gone++[sb.pg],⟨jE,λ p hp=>?_,?_,⟨d+1,⟨s.pg,il ((ae.take i++t'::ae.drop (i+1)).take m++cc::(ae.take i++t'::ae.drop (i+1)).drop (m+2)),s.pg::dZ ((ae.take i++t'::ae.drop (i+1)).take m++cc::(ae.take i++t'::ae.drop (i+1)).drop (m+2))⟩,⟨_,_,by rw[kG,if_pos rfl,yao hP.sa hcp,F6 hK.at_ gU],⟨jX.len,jX.ord,hall⟩,rfl,rfl⟩,rfl,?_,iA,λ p=>?_,.inl rfl⟩,λ Nk=>?_,hw⟩⟩
  ·rcases cB.1 hp with h|h
   ·exact hM.Ec p h
   rw[bQ.1 h];exact⟨hbs.1,fJ.nb⟩
  ·rw[bF];exact⟨hM.pu,by simp,λ p hp q hq e=>hbs.2 (by rw[<-bQ.1 hq,<-e];exact hp)⟩
  ·dsimp only;rw[<-hM.l,Vp hP.sa hP.sb,Cw,vM,hcl]
  ·dsimp only;rw[hps p,hM.ps p,cB,bQ]
   constructor
   ·rintro⟨⟨h1,h2⟩,h3⟩;exact⟨h1,λ h=>by rcases h with h|h;exact h2 h;exact h3 h⟩
   rintro⟨h1,h2⟩;exact⟨⟨h1,λ h=>h2 (.inl h)⟩,λ h=>h2 (.inr h)⟩
  obtain⟨x,hx,hx1,hx2⟩:=Nk;rw[hn]at hx;obtain rfl:=bC hx;have h16:=hx2 rfl;dsimp only at h16;refine⟨λ hpo=>⟨⟨false,ai.take m++ai.drop (m+1),[],(ae.map Sb.pg).take (m+1)++(ae.map Sb.pg).drop (m+2)⟩,by rw[kG,if_pos rfl],(λ h=>by cases h),λ _=>?_⟩,λ hpo=>⟨⟨false,ai.take m++ai.drop (m+1),[],(ae.map Sb.pg).take (m+1)++(ae.map Sb.pg).drop (m+2)⟩,by rw[kG,if_pos rfl],(λ h=>by cases h),λ _=>?_⟩⟩
  ·have:¬((ae.map Sb.pg).length-1<20):=by simpa using hpo
   dsimp only;omega
  have:(ae.map Sb.pg).length-1<20:=by simpa using hpo
  dsimp only;omega
 | @lift d A B1 B2 pg i c m ca cb ai ah was a b a' b' κ eG hn hix eP hrec hm vN hcb dK hna hnb hev hB2 hk2 ih=>
  intro s hT cK hnd hh hg hc;subst cK;obtain⟨ae,t,hK,hpt,rfl,ng,qb⟩:=hT.kid hn eP;obtain⟨gone,hO⟩:=ih t ng hpt (hK.tn hnd) (λ p hp=>hh p (hK.sub p hp)) hg hc;obtain⟨t',hM,gU,hF,_,z2,hw⟩:=MX hK hix hT.mem hnd hh qb hO;obtain⟨sa,sb,rfl,rfl,hP⟩:=PE hK.at_ hM gU hF (z2 rfl) hm vN hcb dK hna hnb;have fJ:=hM.xM hP;have mV:=hM.has hh;have xN:=hM.gG.fq;obtain⟨hE,_⟩:=P8 fJ.ta fJ.tb fJ.eY hP.na hP.nb (mE hna) (mE hnb) fJ.lo fJ.hi hP.many hev;obtain⟨f1,Cx,hG⟩:=hE rfl;have mW:=mV _ fJ.ha;have Bv:=mV _ fJ.hb;have Bw:=mV s.pg (by simp);have c1:dP B1 (B1.az sa.pg (bg (B1.c sa.pg) a')) [sa.pg] []:=dP.az mW xN (by rw[uY _ _ (by rw[xN _ mW];omega) f1,xN _ mW]);have vk:(B1.az sa.pg (bg (B1.c sa.pg) a')).Has sb.pg:=AP.bu.2 Bv
  have c2:dP (B1.az sa.pg (bg (B1.c sa.pg) a')) B2 [] [sb.pg]:=by
   rw[hB2];exact dP.give (c1.good (hM.gG.good hg)) vk c1.fq
  have vw:B2.Has s.pg:=(c2.has _).2 ⟨AP.bu.2 Bw,by simp;exact eU fJ.nb⟩;have Vx:B2.Has sa.pg:=(c2.has _).2 ⟨AP.bu.2 mW,by simp;exact fJ.ne⟩;have hl3:=c2.fq _ vw;have c3:dP B2 (B2.az s.pg (bg (B2.c s.pg) a')) [s.pg] []:=dP.az vw c2.fq (by rw[uY _ _ (by omega) f1,hl3]);have Vy:(B2.az s.pg (bg (B2.c s.pg) a')).Has sa.pg:=AP.bu.2 Vx;have c4:dP (B2.az s.pg (bg (B2.c s.pg) a')) ((B2.az s.pg (bg (B2.c s.pg) a')).give sa.pg) [] [sa.pg]:=dP.give (c3.good (c2.good (c1.good (hM.gG.good hg)))) Vy c3.fq;generalize Ng:(B2.az s.pg (bg (B2.c s.pg) a')).give sa.pg=B at c4 ⊢;have nJ:∀q,aH B2 q=if sa.pg=q then some a' else aH B1 q:=λ q=>by rw[hB2,PN,Cv (xN _ mW) f1]
  have kG:∀q,aH B q=if s.pg=q then some a' else aH B2 q:=λ q=>by rw[<-Ng,PN,Cv hl3 f1]
  have hga:aH B2 sa.pg=some a':=by rw[nJ,if_pos rfl]
  obtain⟨cc,Nh,hcp,hcl,hcn,hcm⟩:=hG (aH B2) hga (λ p hp q1 _=>by rw[nJ,if_neg (eU q1)]);have qH:∀p∈sa.ps++sb.ps,p≠s.pg:=λ p hp e=>(bF.1 fJ.big).2.2 s.pg (by simp) p (bR _ hp) e.symm;obtain⟨ps',hT',Vz⟩:=Tr.moved (g:=aH B) (x:=a') (pg:=s.pg) Nh (by rw[hcp];exact hga) (by rw[kG,if_pos rfl]) (λ p hp _=>by rw[kG,if_neg (eU (qH p ((hcm p).1 hp).1))]) hcn
  have aJ:(ae.take i++t'::ae.drop (i+1)).length=2:=by
   rw[<-hk2,<-F6 hK.at_ gU,kg]
  have hm1:=(dn.1 hP.sb).1;obtain rfl:m=0:=by omega
  have hfl:=Vp hP.sa hP.sb;have hfp:=PG hP.sa hP.sb;have hdn:(ae.take i++t'::ae.drop (i+1)).drop (0+2)=[]:=kz (by rw[aJ];exact aZ 2);rw[jH,hdn]at hfl hfp;have el:il (ae.take i++t'::ae.drop (i+1))=sa.l++sb.l:=by rw[hfl];simp[il]
  have ep:dZ (ae.take i++t'::ae.drop (i+1))=sa.ps++sb.ps:=by rw[hfp];simp[dZ]
  have jE:dP A B s.ps (gone++[sb.pg,sa.pg]):=hM.gG.trans ((((c1.wider (ps2:=s.ps) (λ p hp=>by rw[bQ.1 hp];exact((hM.ps _).1 fJ.ha).1)).trans c2 (λ p hp=>by cases hp)).trans c3 (λ p hp=>by rw[bQ.1 hp];exact hT.mem)).trans c4 (λ p hp=>by cases hp)) (λ _ h=>h);have hbs:=(hM.ps _).1 fJ.hb;have has:=(hM.ps _).1 fJ.ha;rw[Vz,hcp]at hcn hcm
  have hnf:¬jk (aH A) s.pg:=by
   rintro⟨x,hx,hx1,hx2⟩;rw[hn]at hx;obtain rfl:=bC hx;have:=hx2 rfl;dsimp only at this;omega
  refine⟨gone++[sb.pg,sa.pg],⟨jE,λ p hp=>?_,?_,⟨d,⟨s.pg,cc.l,s.pg::ps'⟩,hT',rfl,?_,?_,λ p=>?_,.inr ⟨rfl,hnf⟩⟩,λ Nk=>absurd Nk hnf,hw⟩⟩
  ·rcases cB.1 hp with h|h
   ·exact hM.Ec p h
   rcases aX.1 h with rfl|h
   ·exact⟨hbs.1,fJ.nb⟩
   rw[bQ.1 h];exact⟨has.1,fJ.na⟩
  ·rw[bF];refine⟨hM.pu,by simp[eU fJ.ne],λ p hp q hq e=>?_⟩;rcases aX.1 hq with rfl|hq
   ·exact hbs.2 (e▸hp)
   rw[bQ.1 hq]at e;exact has.2 (e▸hp)
  ·dsimp only;rw[<-hM.l,el,hcl]
  ·refine dL.2 ⟨λ h=>?_,(dL.1 hcn).2⟩;exact qH s.pg ((hcm s.pg).1 (eu _ h)).1 rfl
  dsimp only;have h1:=hM.ps p;rw[ep]at h1;have h2:=hcm p;simp only[aX,cB,List.not_mem_nil,or_false]at h1 h2 ⊢;have hsa:sa.pg∉ps':=(dL.1 hcn).1
  constructor
  ·rintro(h|h)
   ·obtain⟨q1,q2⟩:=h1.1 (.inl h);exact⟨q1,λ hh=>by rcases hh with hh|hh|hh;exact q2 hh;exact fJ.nb (hh▸h);exact fJ.na (hh▸h)⟩
   obtain⟨q0,q3⟩:=h2.1 (.inr h);obtain⟨q1,q2⟩:=h1.1 (.inr q0);exact⟨q1,λ hh=>by rcases hh with hh|hh|hh;exact q2 hh;exact q3 hh;exact hsa (hh▸h)⟩
  rintro⟨q1,q2⟩;rcases h1.2 ⟨q1,λ hh=>q2 (.inl hh)⟩with h|h
  ·exact .inl h
  rcases h2.2 ⟨h,λ hh=>q2 (.inr (.inl hh))⟩with h|h
  ·exact absurd (.inr (.inr h)) q2
  exact .inr h
theorem Pv:∀(ai:List UInt64),jV ai->∀k:UInt64,∃i,dU ai k i
 | [],_,_=>⟨0,aZ _,λ κ h=>(by simp at h),λ κ h=>(by simp at h)⟩
 | κ::ks,hs,k=>by
  by_cases h:κ.toNat<=k.toNat
  ·obtain⟨i,hi⟩:=Pv ks (hs.drop 1) k;refine⟨i+1,Nat.succ_le_succ hi.le,λ eG h'=>?_,hi.above⟩;rcases aX.1 h' with rfl|h'
   ·exact h
   exact hi.below eG h'
  refine⟨0,bY _,λ eG h'=>(by simp at h'),λ eG h'=>?_⟩;rcases aX.1 h' with rfl|h'
  ·omega
  obtain⟨j,hj,e⟩:=jb h';have:=hs 0 (j+1) κ eG (by omega) rfl (by rw[qJ,di hj,e]);omega
theorem yai{k v:UInt64}{d:Nat}{A B1:AP}{i c iY:Nat}{ai:List UInt64}{ah:List Nat}{nL:UInt64}{er:Int}{s:Sb}(hT:Tr (aH A) (d+1) s)(hnd:s.ps.Nodup)(hh:∀p∈s.ps,A.Has p)(hg:A.Good)(hc:∀p,A.Has p->(A.c p).length=504)
  (hn:aH A s.pg=some ⟨false,ai,[],ah⟩) (eP:ah[i]?=some c) (hix:dU ai k i) (hrec:kY k v d A c B1 iY nL er) :
  (er≠0\/iY=0)\/(er=0/\iY≠0/\B1.Has s.pg/\oL ⟨false,ai.take i++nL::ai.drop i,[],ah.take (i+1)++iY::ah.drop (i+1)⟩):=by
 by_cases he:er=0
 ·by_cases hm:iY=0
  ·exact .inl (.inr hm)
  subst he;refine .inr ⟨rfl,hm,?_⟩;obtain⟨ae,t,hK,hpt,rfl,ng,qb⟩:=hT.kid hn eP;obtain⟨wG,hO⟩:=Gs hrec rfl t ng hpt (hK.tn hnd) (λ p hp=>hh p (hK.sub p hp)) hg hc;obtain⟨Pw,t',u',hT',Vb,gU,Bp,_⟩:=hO.two hm;have hf0:=(mE hn).inner rfl;dsimp only at hf0;obtain⟨z1,z2,z3,_,z5⟩:=hf0;have hi:=(dn.1 hK.at_).1;have hle:=hix.le;have y9:=ZN (t':=t') (u:=u') hK.at_ gU;rw[Bp]at y9
  have hkl:((ae.map Sb.pg).take (i+1)++iY::(ae.map Sb.pg).drop (i+1)).length=(ae.map Sb.pg).length+1:=by
   rw[<-y9];simp;omega
  refine⟨(hO.gG.has _).2 (.inl (hh _ hT.mem)),(λ h=>by cases h),λ _=>⟨?_,rfl,?_,?_,λ q hq=>?_⟩⟩
  ·dsimp only;rw[hkl];simp;simp at z1;omega
  ·dsimp only;rw[hkl];omega
  ·dsimp only;rw[hkl];omega
  rcases cB.1 hq with h|h
  ·exact z5 q (fI h)
  rcases aX.1 h with rfl|h
  ·omega
  exact z5 q (fA h)
 exact .inl (.inl he)
theorem Zu{k v:UInt64}{d:Nat}{A B:AP}{pg more:Nat}{κ:UInt64}{e:Int}(h:kY k v d A pg B more κ e):e≠0->∀s,Tr (aH A) d s->s.pg=pg->s.ps.Nodup->(∀p∈s.ps,A.Has p)->A.Good->(∀p,A.Has p->(A.c p).length=504)->e=6/\A.Reach B/\A.ay<=d:=by
 induction h with
 | found hn hk=>exact λ h=>absurd rfl h
 | @leaf A B pg i more ks vs κ e hn hst hno hset=>
  intro he s hT cK hnd hh hg hc;subst cK;have hp:=hh s.pg hT.mem
  cases hset with
  | one hf=>exact absurd rfl he
  | none hf hfull=>exact⟨rfl,(AP.Reach.refl A).az hp _,by rw[hg.full.1 hfull];exact bY _⟩
  | two hf hfull=>exact absurd rfl he
 | @stop d A B pg i c more ai ah κ e hn hix eP hrec hor ih=>
  intro he s hT cK hnd hh hg hc;subst cK;obtain⟨ae,t,hK,hpt,rfl,ng,qb⟩:=hT.kid hn eP;obtain⟨h1,h2,h3⟩:=ih he t ng hpt (hK.tn hnd) (λ p hp=>hh p (hK.sub p hp)) hg hc;exact⟨h1,h2,Nat.le_succ_of_le h3⟩
 | @up d A B1 B pg i c iY more ai ah nL κ e hn hix eP hrec hm1 hset ih=>
  intro he s hT cK hnd hh hg hc;subst cK;obtain⟨ae,t,hK,hpt,rfl,ng,qb⟩:=hT.kid hn eP;obtain⟨wG,hO⟩:=Gs hrec rfl t ng hpt (hK.tn hnd) (λ p hp=>hh p (hK.sub p hp)) hg hc;have hp:=(hO.gG.has _).2 (.inl (hh _ hT.mem))
  cases hset with
  | one hf=>exact absurd rfl he
  | none hf hfull=>
   refine⟨rfl,hO.gG.reach.az hp _,?_⟩;have h1:=hO.gG.ay;have h2:=(hO.gG.good hg).full.1 hfull;have h3:=hO.few;omega
  | two hf hfull=>exact absurd rfl he
inductive sS(k v:UInt64)(rt d:Nat)(A:AP):AP->Int->Prop
 | same {B:AP} {κ:UInt64}:kY k v d A rt B 0 κ 0->sS k v rt d A B 0
 | bad {more:Nat} {B:AP} {κ:UInt64} {e:Int}:kY k v d A rt B more κ e->e≠0->sS k v rt d A B e
 | full {more:Nat} {B:AP} {κ:UInt64}:kY k v d A rt B more κ 0->more≠0->B.Full->sS k v rt d A B 6
 | grow {more:Nat} {B B2:AP} {κ:UInt64} {x:Nd}:kY k v d A rt B more κ 0->more≠0->¬B.Full->aH B rt=some x->B2=B.take.az B.next (bg (UK.bW 504) x)->sS k v rt d A (B2.az rt (bg (B2.c rt) ⟨false,[κ],[],[B.next,more]⟩)) 0
structure TI(A:AP)(rt:Nat)(l:List KV)(ps:List Nat):Prop where
 ex:∃d s,Tr (aH A) d s/\s.pg=rt/\s.l=l/\s.ps=ps
 eY:ps.Nodup
 has:∀p∈ps,A.Has p
theorem TI.rise{A:AP}{rt:Nat}{l:List KV}{ps:List Nat}(h:TI A rt l ps):rC l:=by
 obtain⟨d,s,h1,_,rfl,_⟩:=h.ex;exact h1.rise
theorem TI.many{A:AP}{rt:Nat}{l:List KV}{ps:List Nat}(h:TI A rt l ps):14*ps.length<=l.length+14:=by
 obtain⟨d,s,h1,_,rfl,rfl⟩:=h.ex;exact h1.yM
theorem TI.root{A:AP}{rt:Nat}{l:List KV}{ps:List Nat}(h:TI A rt l ps):rt∈ps:=by
 obtain⟨d,s,h1,rfl,rfl,rfl⟩:=h.ex;exact h1.mem
theorem OA{A:AP}{ps:List Nat}(hn:ps.Nodup)(hh:∀p∈ps,A.Has p)(hg:A.Good):ps.length<=60000:=by
 have h1:ps.length<=(List.range A.aj).length:=hn.length_le_of_subset (λ p hp=>rq.2 (hh p hp).2.1);rw[List.length_range]at h1;have:=hg.ax;have:=hg.few;omega
theorem O6{A:AP}{d:Nat}{s:Sb}(h:Tr (aH A) d s)(hn:s.ps.Nodup)(hh:∀p∈s.ps,A.Has p)(hg:A.Good):d<=16:=by
 cases d with
 | zero=>omega
 | succ d=>
  have hl:=OA hn hh hg;obtain⟨ai,ae,h1,h2,h3,h4⟩:=h;have h5:=h2.len
  obtain⟨t,ht⟩:∃t,t∈ae:=by
   cases ae with
   | nil=>simp at h5
   | cons t r=>exact⟨t,by simp⟩
  have h6:=Tr.deep d t (h2.all t ht).1 (h2.all t ht).2
  have h7:t.ps.length<=s.ps.length:=by
   have hsub:t.ps.Sublist s.ps:=by
    rw[h4];exact((List.sublist_flatten_of_mem (gT.2 ⟨t,ht,rfl⟩)).trans (by rw[<-List.flatMap_def];exact List.Sublist.refl _)).cons _
   exact hsub.length_le
  refine Nat.le_of_not_lt (λ hlt=>?_);have h8:2^16<=2^d:=Nat.pow_le_pow_right (by omega) (by omega);have:(2:Nat)^16=65536:=by decide
  omega
structure nE(A B:AP)(rt:Nat)(l:List KV)(ps:List Nat):Prop where
 ex:∃new ps',mD A B ps new/\TI B rt l ps'/\(∀p,p∈ps'↔p∈ps\/p∈new)/\new.length<=20
theorem Sc{k v:UInt64}{rt d:Nat}{A B:AP}{e:Int}{s:Sb}(h:sS k v rt d A B e)(hT:Tr (aH A) d s)(cK:s.pg=rt)(ht:TI A rt s.l s.ps)(hg:A.Good)(hc:∀p,A.Has p->(A.c p).length=504) :
  (e=0/\nE A B rt (fZ s.l k v) s.ps)\/(e=6/\A.Reach B/\A.ay<=20):=by
 have yt:=O6 hT ht.eY ht.has hg
 cases h with
 | @same B κ hp=>
  obtain⟨new,hO⟩:=Gs hp rfl s hT cK ht.eY ht.has hg hc;obtain⟨t,h1,h2,h3,h4,h5,_⟩:=hO.one rfl;refine .inl ⟨rfl,new,t.ps,hO.gG,⟨⟨d,t,h1,h2.trans cK,h3,rfl⟩,h4,λ p hp=>(hO.gG.has p).2 ?_⟩,h5,by have:=hO.few;omega⟩;rcases(h5 p).1 hp with h|h
  ·exact .inl (ht.has p h)
  exact .inr h
 | @bad more B κ e hp he=>
  obtain⟨h1,h2,h3⟩:=Zu hp he s hT cK ht.eY ht.has hg hc;exact .inr ⟨h1,h2,by omega⟩
 | @full more B κ hp hm hf=>
  obtain⟨new,hO⟩:=Gs hp rfl s hT cK ht.eY ht.has hg hc;have h1:=hO.gG.ay;have h2:=(hO.gG.good hg).full.1 hf;have h3:=hO.few;exact .inr ⟨rfl,hO.gG.reach,by omega⟩
 | @grow more B B2 κ x hp hm hf hx hB2=>
  obtain⟨new,hO⟩:=Gs hp rfl s hT cK ht.eY ht.has hg hc;obtain⟨Pw,t,u,ng,yN,MO,Vd,hl,hlt,hge,hF1,hF2,iA,hmem⟩:=hO.two hm;rw[cK]at MO hF1;have hgB:=hO.gG.good hg;have hnx:=hgB.next hf;have hfx:=mE hx
  have Px:∀p∈t.ps++u.ps,B.Has p:=λ p hp=>(hO.gG.has p).2 (by
   rcases(hmem p).1 hp with h|h
   ·exact .inl (ht.has p h)
   exact .inr h)
  have hrt:B.Has rt:=Px rt (by rw[<-MO];exact bR _ ng.mem);have hmo:B.Has more:=Px more (by rw[<-Vd];exact fE _ yN.mem);have hnr:B.next≠rt:=λ e=>hnx.1 (e▸hrt)
  have c2:mD B B2 [] [B.next]:=by
   rw[hB2];exact mD.take hgB hf hO.gG.fq (by rw[uY _ _ (by rw[J8];omega) hfx,J8])
  have hn2:aH B2 B.next=some x:=by
   unfold aH;rw[hB2,AP.bG,if_pos rfl];exact GZ _ _ (by rw[J8];omega) hfx
  have hs2:∀p,B.Has p->aH B2 p=aH B p:=λ p hp=>by unfold aH;rw[c2.same p hp (by simp)]
  have MP:B2.Has rt:=(c2.has rt).2 (.inl hrt)
  have hfit:Fits ⟨false,[κ],[],[B.next,more]⟩:=⟨(λ h=>by cases h),λ _=>⟨rfl,by simp,by simp,rfl,λ q hq=>by
   rcases aX.1 hq with rfl|hq
   ·omega
   rw[bQ.1 hq];omega⟩⟩
  have hlr:=c2.fq rt MP;have c3:mD B2 (B2.az rt (bg (B2.c rt) ⟨false,[κ],[],[B.next,more]⟩)) [rt] []:=mD.az MP c2.fq (by rw[uY _ _ (by omega) hfit,hlr]);have oH:∀q,aH (B2.az rt (bg (B2.c rt) ⟨false,[κ],[],[B.next,more]⟩)) q=if rt=q then some ⟨false,[κ],[],[B.next,more]⟩ else aH B2 q:=λ q=>Cv hlr hfit
  generalize B2.az rt (bg (B2.c rt) ⟨false,[κ],[],[B.next,more]⟩)=C at c3 oH;have hsame:∀p∈t.ps++u.ps,p≠rt->aH C p=aH B p:=λ p hp hne=>by rw[oH,if_neg (eU hne),hs2 p (Px p hp)]
  have hxt:aH B t.pg=some x:=by rw[MO];exact hx
  have ZO:aH C B.next=some x:=by rw[oH,if_neg (eU hnr),hn2]
  have Ve:=(bF.1 iA).1;have abk:=(bF.1 iA).2.1;have wh:=(bF.1 iA).2.2;obtain⟨DT,hT1,DU⟩:=Tr.moved ng hxt ZO (λ p hp hne=>hsame p (bR _ hp) (by rw[MO]at hne;exact hne)) Ve;rw[MO]at DU;have ZP:rt∉u.ps:=λ h=>wh rt (by rw[DU];simp) rt h rfl;have hU1:Tr (aH C) d u:=Tr.same d u yN (λ p hp=>hsame p (fE _ hp) (λ e=>ZP (e▸hp)))
  have qb:jk (aH C) B.next:=by
   obtain⟨y,hy,hf⟩:=hF1;rw[hx]at hy;obtain rfl:=bC hy;exact⟨x,ZO,hf⟩
  have hFu:jk (aH C) u.pg:=by
   obtain⟨y,hy,hf⟩:=hF2;refine⟨y,?_,hf⟩;rw[hsame u.pg (fE _ yN.mem) (λ e=>ZP (e▸yN.mem)),Vd];exact hy
  have hIn:jF (λ w=>Tr (aH C) d w/\jk (aH C) w.pg) [κ] [⟨B.next,t.l,B.next::DT⟩,u]:=by
   refine⟨rfl,?_,λ w hw=>?_⟩
   ·show [It.s ⟨B.next,t.l,B.next::DT⟩,.k κ,.s u].Pairwise It.R;simp only[gN,aX,List.not_mem_nil,or_false,forall_eq_or_imp,forall_eq,false_imp_iff,implies_true,List.Pairwise.nil,and_true];exact⟨⟨hlt,λ a ha b hb=>by have:=hlt a ha;have:=hge b hb;omega⟩,hge⟩
   rcases aX.1 hw with rfl|hw
   ·exact⟨hT1,qb⟩
   rw[bQ.1 hw];exact⟨hU1,hFu⟩
  have jE:mD A C s.ps (new++[B.next]++[]):=(hO.gG.trans c2 (λ p hp=>by cases hp)).trans c3 (λ p hp=>.inl (by rw[bQ.1 hp,<-cK];exact hT.mem));rw[jw]at jE;have hfl:dZ [⟨B.next,t.l,B.next::DT⟩,u]=B.next::DT++u.ps:=by simp[dZ]
  have F3:∀p,p∈rt::(B.next::DT++u.ps)↔p∈s.ps\/p∈new++[B.next]:=λ p=>by
   have h1:=hmem p;rw[DU]at h1;simp only[cB,aX,List.not_mem_nil,or_false]at h1 ⊢
   constructor
   ·rintro(h|((h|h)|h))
    ·rcases h1.1 (.inl (.inl h))with h|h
     ·exact .inl h
     exact .inr (.inl h)
    ·exact .inr (.inr h)
    ·rcases h1.1 (.inl (.inr h))with h|h
     ·exact .inl h
     exact .inr (.inl h)
    rcases h1.1 (.inr h)with h|h
    ·exact .inl h
    exact .inr (.inl h)
   rintro(h|(h|h))
   ·rcases h1.2 (.inl h)with(h|h)|h
    ·exact .inl h
    ·exact .inr (.inl (.inr h))
    exact .inr (.inr h)
   ·rcases h1.2 (.inr h)with(h|h)|h
    ·exact .inl h
    ·exact .inr (.inl (.inr h))
    exact .inr (.inr h)
   exact .inr (.inl (.inl h))
  refine .inl ⟨rfl,new++[B.next],rt::(B.next::DT++u.ps),jE,⟨⟨d+1,⟨rt,il [⟨B.next,t.l,B.next::DT⟩,u],rt::dZ [⟨B.next,t.l,B.next::DT⟩,u]⟩,⟨[κ],[⟨B.next,t.l,B.next::DT⟩,u],?_,hIn,rfl,rfl⟩,rfl,?_,?_⟩,?_,λ p hp=>?_⟩,F3,?_⟩
  ·dsimp only;rw[oH,if_pos rfl,List.map_cons,List.map_cons,List.map_nil,Vd]
  ·rw[<-hl];simp[il]
  ·dsimp only;rw[hfl]
  ·have hnt:B.next∉t.ps++u.ps:=λ h=>hnx.1 (Px _ h);rw[DU]at hnt iA;simp only[jA,dL,aX,cB,not_or]at hnt iA ⊢;exact⟨⟨eU hnr,iA.1⟩,hnt.2,iA.2⟩
  ·rcases(F3 p).1 hp with h|h
   ·exact(jE.has p).2 (.inl (ht.has p h))
   exact(jE.has p).2 (.inr h)
  have:=hO.few;rw[zl,gI];omega
def iV(l:List KV)(k:UInt64):Option KV:=l.find? λ x=>x.1==k
def mY(l:List KV)(k:UInt64):Option KV:=l.find? λ x=>decide (k.toNat<=x.1.toNat)
theorem xyp{a b c:List KV}{k:UInt64}(ha:∀x∈a,x.1.toNat<k.toNat)(hc:∀x∈c,k.toNat<x.1.toNat):iV (a++(b++c)) k=iV b k:=by
 unfold iV;have h1:a.find? (λ x=>x.1==k)=none:=List.find?_eq_none.2 (λ x hx=>by have:=ha x hx;simp;intro e;rw[e]at this;omega);have h2:c.find? (λ x=>x.1==k)=none:=List.find?_eq_none.2 (λ x hx=>by have:=hc x hx;simp;intro e;rw[e]at this;omega);rw[List.find?_append,List.find?_append,h1,h2];simp
theorem xk2{a b:List KV}{k:UInt64}(ha:∀x∈a,x.1.toNat<k.toNat):mY (a++b) k=mY b k:=by
 unfold mY;have h1:a.find? (λ x=>decide (k.toNat<=x.1.toNat))=none:=List.find?_eq_none.2 (λ x hx=>by have:=ha x hx;simp;omega);rw[List.find?_append,h1];rfl
theorem xqe{a b:List KV}{k:UInt64}:mY (a++b) k=(mY a k).or (mY b k):=List.find?_append
theorem xvx{l:List KV}{k:UInt64}(h0:l≠[])(h:∀x∈l,k.toNat<=x.1.toNat):∃x,mY l k=some x:=by
 cases l with
 | nil=>exact absurd rfl h0
 | cons a r=>exact⟨a,by unfold mY;rw[List.find?_cons_of_pos];simpa using h a (by simp)⟩
theorem xqf:∀{ks vs:List UInt64} {k:UInt64} {i:Nat},jV ks->vs.length=ks.length->ks[i]?=some k->∃v,vs[i]?=some v/\iV (ks.zip vs) k=some (k,v)
 | [],_,_,_,_,_,h=>by simp at h
 | a::ks,[],_,_,_,hv,_=>by simp at hv
 | a::ks,b::vs,k,0,hs,hv,h=>by
  obtain rfl:a=k:=by simpa using h
  exact⟨b,rfl,by unfold iV;rw[List.zip_cons_cons,List.find?_cons_of_pos (by simp)]⟩
 | a::ks,b::vs,k,i+1,hs,hv,h=>by
  obtain⟨v,h1,h2⟩:=xqf (ks:=ks) (vs:=vs) (hs.drop 1) (by simpa using hv) (by simpa using h);refine⟨v,by simpa using h1,?_⟩
  have hne:(a==k)=false:=by
   have:=hs 0 (i+1) a k (by omega) rfl h;simp only[beq_eq_false_iff_ne,ne_eq];intro e;rw[e]at this;omega
  unfold iV at h2 ⊢;rw[List.zip_cons_cons,List.find?_cons_of_neg (by simpa using hne)];exact h2
theorem yap{ks vs:List UInt64}{k:UInt64}(h:k∉ks):iV (ks.zip vs) k=none:=by
 unfold iV;refine List.find?_eq_none.2 (λ x hx=>?_);have:=(List.of_mem_zip hx).1;simp;intro e;exact h (e▸this)
section
variable{A:AP}{d i:Nat}{s t:Sb}{ai:List UInt64}{ae:List Sb}{k:UInt64}
theorem eH.val(h:eH A d s ai ae i t)(hix:dU ai k i):iV s.l k=iV t.l k:=by
 rw[h.l,Dm h.at_,xyp (ET (h.jZ.left h.at_ hix.below)) (Jo (h.jZ.right h.at_ hix.above))]
theorem eH.last(h:eH A d s ai ae i t)(hix:dU ai k i)(hl:i+1=ae.length):mY s.l k=mY t.l k:=by
 rw[h.l,Dm h.at_,xk2 (ET (h.jZ.left h.at_ hix.below)),List.drop_eq_nil_of_le (by omega)];show mY (t.l++[]) k=_;rw[jw]
theorem eH.right(h:eH A d s ai ae i t)(hix:dU ai k i){u:Sb}(hu:ae[i+1]?=some u):mY s.l k=(mY t.l k).or (mY u.l k)/\(∃x,mY u.l k=some x)/\u.l≠[]/\(∀x∈u.l,k.toNat<=x.1.toNat):=by
 have hm:u∈ae.drop (i+1):=List.mem_iff_getElem?.2 ⟨0,by rw[iC];exact hu⟩;have hab:∀x∈u.l,k.toNat<=x.1.toNat:=λ x hx=>Nat.le_of_lt (h.jZ.right h.at_ hix.above u hm x hx)
 have hu0:u.l≠[]:=λ h0=>by
  have hT:=h.jZ.all u (fe hu);have:=hT.1.many _ _ hT.2;rw[h0]at this;simp at this
 obtain⟨x,hx⟩:=xvx hu0 hab;refine⟨?_,⟨x,hx⟩,hu0,hab⟩
 have hd:ae.drop (i+1)=u::ae.drop (i+2):=by
  have hi:=(dn.1 hu).1;rw[nY hi,(dn.1 hu).2]
 rw[h.l,Dm h.at_,xk2 (ET (h.jZ.left h.at_ hix.below)),xqe,hd,vM,xqe,hx];rfl
end
structure At(A:AP)(d:Nat)(t:Sb):Prop where
 tr:Tr (aH A) d t
 has:∀p∈t.ps,A.Has p
theorem At.kid{A:AP}{d:Nat}{s t:Sb}{ai:List UInt64}{ae:List Sb}{i:Nat}(h:At A (d+1) s)(hK:eH A d s ai ae i t):At A d t/\jk (aH A) t.pg:=by
 have hx:=hK.jZ.all t hK.mem;exact⟨⟨hx.1,λ p hp=>h.has p (hK.sub p hp)⟩,hx.2⟩
abbrev LV:=Nat×List UInt64
structure SS where
 pg:Nat
 lv:List LV
 ps:List Nat
def bP(lv:List LV):List UInt64:=lv.flatMap (·.2)
def SS.l(s:SS):List UInt64:=bP s.lv
def cu(ae:List SS):List LV:=ae.flatMap SS.lv
def bI(ae:List SS):List Nat:=ae.flatMap SS.ps
def bJ(ae:List SS):List Nat:=ae.map SS.pg
def dm(ae:List SS):List Nat:=ae.map (λ t=>t.l.length)
def Sn.size(x:Sn):Nat:=x.aA.length+x.ah.length
def Sn.ax(x:Sn):Nat:=if x.leaf then 48 else 40
def Sn.count(x:Sn):Nat:=if x.leaf then x.aA.length else x.au.sum
def dD(x:Sn):Prop:=x.ax/2<=x.size
def aU(A:AP)(p:Nat):Option Sn:=jT (A.c p)
def nU(f:Nat->Option Sn):Nat->Nat->SS->Sn->Prop
 | 0,up,s,n=>∃aA,n=⟨true,up,aA,[],[]⟩/\s.lv=[(s.pg,aA)]/\s.ps=[s.pg]
 | d+1,up,s,n=>∃ae:List SS,n=⟨false,up,[],bJ ae,dm ae⟩/\(∀t∈ae,∃m,f t.pg=some m/\nU f d s.pg t m/\dD m)/\s.lv=cu ae/\s.ps=s.pg::bI ae
def eT(f:Nat->Option Sn)(d up:Nat)(t:SS):Prop:=∃m,f t.pg=some m/\nU f d up t m/\dD m
structure bV where
 pg:Nat
 L:List SS
 R:List SS
 c:Nat
def aL:List bV->Nat
 | []=>0
 | fr::_=>fr.pg
def bV.node(fr:bV)(up pg c:Nat):Sn:=⟨false,up,[],bJ fr.L++pg::bJ fr.R,dm fr.L++c::dm fr.R⟩
def Ctx(f:Nat->Option Sn):List bV->Nat->Nat->Prop
 | [],_,_=>True
 | fr::C,e,pg=>f fr.pg=some (fr.node (aL C) pg fr.c)/\(∀t∈fr.L++fr.R,eT f e fr.pg t)/\1<=fr.L.length+fr.R.length/\(C≠[]->19<=fr.L.length+fr.R.length)/\Ctx f C (e+1) fr.pg
def dE:List bV->List LV->List LV
 | [],lv=>lv
 | fr::C,lv=>dE C (cu fr.L++lv++cu fr.R)
def aT:List bV->List Nat
 | []=>[]
 | fr::C=>fr.pg::(bI fr.L++bI fr.R++aT C)
def EE:Nat->List bV->Nat
 | pg,[]=>pg
 | _,fr::C=>EE fr.pg C
theorem Gq(a b:List LV):bP (a++b)=bP a++bP b:=by simp[bP]
theorem BS(a b:List SS):cu (a++b)=cu a++cu b:=by simp[cu]
theorem vS(a b:List SS):bI (a++b)=bI a++bI b:=by simp[bI]
theorem Je(a b:List SS):bJ (a++b)=bJ a++bJ b:=by simp[bJ]
theorem Ox(a b:List SS):dm (a++b)=dm a++dm b:=by simp[dm]
theorem Jf:∀ae:List SS,(dm ae).sum=(bP (cu ae)).length
 | []=>rfl
 | t::r=>by
  have h:=Jf r;simp only[dm,List.map_cons,List.sum_cons]at h ⊢;rw[h,show cu (t::r)=t.lv++cu r by simp[cu],Gq,zl];rfl
theorem kP{p:Nat}{ae:List SS}:p∈bI ae↔∃t∈ae,p∈t.ps:=by simp[bI]
theorem nU.ps{f:Nat->Option Sn}{d up:Nat}{s:SS}{n:Sn}(h:nU f d up s n):s.ps=s.pg::s.ps.tail:=by
 cases d with
 | zero=>obtain⟨aA,_,_,h3⟩:=h;rw[h3];rfl
 | succ d=>obtain⟨ae,_,_,_,h4⟩:=h;rw[h4];rfl
theorem nU.mem{f:Nat->Option Sn}{d up:Nat}{s:SS}{n:Sn}(h:nU f d up s n):s.pg∈s.ps:=by rw[h.ps];simp
theorem nU.EF{f:Nat->Option Sn}{d up:Nat}{s:SS}{n:Sn}(h:nU f d up s n):n.up=up:=by
 cases d with
 | zero=>obtain⟨aA,rfl,_,_⟩:=h;rfl
 | succ d=>obtain⟨ae,rfl,_,_,_⟩:=h;rfl
theorem nU.leaf{f:Nat->Option Sn}{d up:Nat}{s:SS}{n:Sn}(h:nU f d up s n):n.leaf=true↔d=0:=by
 cases d with
 | zero=>obtain⟨aA,rfl,_,_⟩:=h;simp
 | succ d=>obtain⟨ae,rfl,_,_,_⟩:=h;simp
theorem nU.count{f:Nat->Option Sn}{d up:Nat}{s:SS}{n:Sn}(h:nU f d up s n):n.count=s.l.length:=by
 cases d with
 | zero=>obtain⟨aA,rfl,h2,_⟩:=h;simp[Sn.count,SS.l,bP,h2]
 | succ d=>obtain⟨ae,rfl,_,h2,_⟩:=h;simp[Sn.count,SS.l,h2,Jf]
theorem nU.same{f g:Nat->Option Sn}:∀(d up:Nat) (s:SS) (n:Sn),nU f d up s n->(∀p∈s.ps.tail,g p=f p)->nU g d up s n
 | 0,_,_,_,h,_=>h
 | d+1,up,s,n,⟨ae,h1,h2,h3,h4⟩,hs=>by
  rw[h4]at hs;refine⟨ae,h1,λ t ht=>?_,h3,h4⟩;obtain⟨m,a,b,c⟩:=h2 t ht;have hm:∀p∈t.ps,g p=f p:=λ p hp=>hs p (kP.2 ⟨t,ht,hp⟩);exact⟨m,(hm _ b.mem).trans a,nU.same d s.pg t m b (λ p hp=>hm p (List.mem_of_mem_tail hp)),c⟩
theorem eT.same{f g:Nat->Option Sn}{d up:Nat}{t:SS}(h:eT f d up t)(hs:∀p∈t.ps,g p=f p):eT g d up t:=by
 obtain⟨m,a,b,c⟩:=h;exact⟨m,(hs _ b.mem).trans a,nU.same d up t m b (λ p hp=>hs p (List.mem_of_mem_tail hp)),c⟩
theorem nU.qo{f:Nat->Option Sn}{d up:Nat}{s:SS}{n:Sn}(up':Nat)(h:nU f d up s n):nU f d up' s {n with up:=up'}:=by
 cases d with
 | zero=>obtain⟨aA,rfl,h2,h3⟩:=h;exact⟨aA,rfl,h2,h3⟩
 | succ d=>obtain⟨ae,rfl,h2,h3,h4⟩:=h;exact⟨ae,rfl,h2,h3,h4⟩
theorem dD.qo{n:Sn}(up:Nat)(h:dD n):dD {n with up:=up}:=h
theorem eT.qo{f g:Nat->Option Sn}{d up:Nat}{t:SS}(up':Nat)(h:eT f d up t)(hp:g t.pg=(f t.pg).map λ x=>{x with up:=up'})(hs:∀p∈t.ps.tail,g p=f p):eT g d up' t:=by
 obtain⟨m,a,b,c⟩:=h;rw[a]at hp;exact⟨_,hp,(nU.same d up t m b hs).qo up',c.qo up'⟩
theorem Ctx.same{f g:Nat->Option Sn}:∀(C:List bV) (e pg:Nat),Ctx f C e pg->(∀p∈aT C,g p=f p)->Ctx g C e pg
 | [],_,_,_,_=>trivial
 | fr::C,e,pg,⟨h1,h2,h3,h4,h5⟩,hs=>by
  refine⟨(hs _ (by simp[aT])).trans h1,λ t ht=>(h2 t ht).same (λ p hp=>hs p ?_),h3,h4,Ctx.same C (e+1) fr.pg h5 (λ p hp=>hs p (by simp[aT,hp]))⟩;rcases cB.1 ht with ht|ht
  ·simp[aT,kP.2 ⟨t,ht,hp⟩]
  simp[aT,kP.2 ⟨t,ht,hp⟩]
def bV.part(fr:bV)(s:SS):SS:=⟨fr.pg,cu fr.L++s.lv++cu fr.R,fr.pg::(bI fr.L++s.ps++bI fr.R)⟩
theorem bV.CX{f:Nat->Option Sn}{fr:bV}{C:List bV}{e:Nat}{s:SS}(hc:∀t∈fr.L++fr.R,eT f e fr.pg t)(hs:eT f e fr.pg s):nU f (e+1) (aL C) (fr.part s) (fr.node (aL C) s.pg s.l.length):=by
 refine⟨fr.L++s::fr.R,?_,λ t ht=>?_,?_,?_⟩
 ·unfold bV.node;rw[Je,Ox];rfl
 ·rcases cB.1 ht with h|h
  ·exact hc t (bR _ h)
  rcases aX.1 h with rfl|h
  ·exact hs
  exact hc t (fE _ h)
 ·show cu fr.L++s.lv++cu fr.R=_;rw[BS,show cu (s::fr.R)=s.lv++cu fr.R by simp[cu],dH]
 show fr.pg::(bI fr.L++s.ps++bI fr.R)=_;rw[vS,show bI (s::fr.R)=s.ps++bI fr.R by simp[bI],dH];rfl
theorem RN(fr:bV)(C:List bV)(s:SS):dE C (fr.part s).lv=dE (fr::C) s.lv:=rfl
theorem KU(fr:bV)(C:List bV)(s:SS):((fr.part s).ps++aT C).Perm (s.ps++aT (fr::C)):=by
 show(fr.pg::(bI fr.L++s.ps++bI fr.R)++aT C).Perm (s.ps++fr.pg::(bI fr.L++bI fr.R++aT C));rw[jA,List.perm_iff_count];intro a;simp only[List.count_append,List.count_cons];omega
theorem yV{x:LV}:∀(C:List bV) (lv:List LV),x∈dE C lv↔x∈lv\/x∈dE C []
 | [],lv=>by simp[dE]
 | fr::C,lv=>by
  show x∈dE C (cu fr.L++lv++cu fr.R)↔x∈lv\/x∈dE C (cu fr.L++[]++cu fr.R);rw[yV C,yV C (cu fr.L++[]++cu fr.R)];simp only[cB,List.not_mem_nil,or_false]
  constructor
  ·rintro((h|h)|h)
   ·rcases h with h|h
    ·exact .inr (.inl (.inl h))
    exact .inl h
   ·exact .inr (.inl (.inr h))
   exact .inr (.inr h)
  rintro(h|(h|h)|h)
  ·exact .inl (.inl (.inr h))
  ·exact .inl (.inl (.inl h))
  ·exact .inl (.inr h)
  exact .inr h
def ig:List bV->List UInt64
 | []=>[]
 | fr::C=>ig C++bP (cu fr.L)
def kV:List bV->List UInt64
 | []=>[]
 | fr::C=>bP (cu fr.R)++kV C
theorem sQ:∀(C:List bV) (lv:List LV),bP (dE C lv)=ig C++bP lv++kV C
 | [],lv=>by simp[dE,ig,kV]
 | fr::C,lv=>by
  show bP (dE C (cu fr.L++lv++cu fr.R))=_;rw[sQ C];simp only[Gq,ig,kV,dH]
theorem RO{l:List KV}{k v:UInt64}{x:KV}:x∈fZ l k v↔(x∈l/\x.1≠k)\/x=(k,v):=by
 unfold fZ;simp only[cB,List.mem_filter,aX,decide_eq_true_eq]
 constructor
 ·rintro(⟨h,h2⟩|rfl|⟨h,h2⟩)
  ·exact .inl ⟨h,λ e=>by rw[e]at h2;omega⟩
  ·exact .inr rfl
  exact .inl ⟨h,λ e=>by rw[e]at h2;omega⟩
 rintro(⟨h,h2⟩|h)
 ·have hne:x.1.toNat≠k.toNat:=λ e=>h2 (UInt64.toNat.inj e);rcases Nat.lt_or_gt_of_ne hne with h3|h3
  ·exact .inl ⟨h,h3⟩
  exact .inr (.inr ⟨h,h3⟩)
 exact .inr (.inl h)
theorem XR{l:List KV}{k:UInt64}{x:KV}:x∈kC l k↔x∈l/\x.1≠k:=by
 unfold kC;simp only[List.mem_filter,decide_eq_true_eq]
theorem xw5{l:List KV}(hr:rC l){x:KV}(h:x∈l):iV l x.1=some x:=by
 induction l with
 | nil=>cases h
 | cons a r ih=>
  obtain⟨h1,h2⟩:=gN.1 hr;unfold iV;rcases aX.1 h with rfl|h
  ·rw[List.find?_cons_of_pos (by simp)]
  have:=h1 x h;rw[List.find?_cons_of_neg (by simp;intro e;rw[e]at this;omega)];exact ih h2 h
theorem xty{l:List KV}{k:UInt64}(h:∀x∈l,x.1≠k):iV l k=none:=List.find?_eq_none.2 (λ x hx=>by simpa using h x hx)
def iW(m:List KV)(aA:List UInt64)(v:UInt64):List KV:=aA.foldl (λ m i=>fZ m i v) m
theorem Gr{v:UInt64}{x:KV}:∀(aA:List UInt64) (m:List KV),x∈iW m aA v↔(x.1∈aA/\x.2=v)\/(x.1∉aA/\x∈m)
 | [],m=>by simp[iW]
 | i::aA,m=>by
  show x∈iW (fZ m i v) aA v↔_;rw[Gr aA,RO];by_cases h1:x.1∈aA
  ·constructor
   ·rintro(⟨_,h⟩|⟨h,_⟩)
    ·exact .inl ⟨eu _ h1,h⟩
    exact absurd h1 h
   rintro(⟨_,h⟩|⟨h,_⟩)
   ·exact .inl ⟨h1,h⟩
   exact absurd (eu _ h1) h
  by_cases h2:x.1=i
  ·constructor
   ·rintro(⟨h,_⟩|⟨_,⟨_,h⟩|h⟩)
    ·exact absurd h h1
    ·exact absurd h2 h
    exact .inl ⟨by rw[h2];exact gZ ..,by rw[h]⟩
   rintro(⟨_,h⟩|⟨h,_⟩)
   ·exact .inr ⟨h1,.inr (Prod.ext h2 h)⟩
   exact absurd (by rw[h2];exact gZ ..) h
  constructor
  ·rintro(⟨h,_⟩|⟨_,⟨h,_⟩|h⟩)
   ·exact absurd h h1
   ·exact .inr ⟨λ e=>(aX.1 e).elim h2 h1,h⟩
   exact absurd (by rw[h]) h2
  rintro(⟨h,_⟩|⟨_,h⟩)
  ·exact absurd h (λ e=>(aX.1 e).elim h2 h1)
  exact .inr ⟨h1,.inl ⟨h,h2⟩⟩
theorem xrw{l:List Nat}{j k:Nat}(h:l[j]?=some k):rX (l.take (j+1))=rX (l.take j)++aW (UInt32.ofNat k):=by
 unfold rX;rw[ow,h];simp
theorem XT{l:List UInt64}{j:Nat}{k:UInt64}(h:l[j]?=some k):iJ (l.take (j+1))=iJ (l.take j)++b64 k:=by
 unfold iJ;rw[ow,h];simp
theorem qw(l:List Nat)(i k:Nat)(h:l[i]?=some k):(ints l)[i]?=some (.int .i64 (k:Int)):=by unfold ints;rw[dW,h];rfl
theorem xm8{S:Nat->Prop}{W:World}{nb db cap:Nat}{y:List UInt8}{x:Nd}(h:jN S W nb x)(hl:x.leaf=false)(hk:x.ah.length<=40)(hn:x.ai.length<=42)(hkb:∀k∈x.ah,k<4294967296)(hy:aO W db y)(hyl:y.length=cap)(hc:504<=cap)(hS:¬S db) :
  Calls Tryz.prog 88 #[.slice db 504 cap,.pointer nb] W λ e w'=>e= .returned (.tuple #[])/\aO w' db (vI y x.ai x.ah)/\Only db W w':=by
 obtain⟨kv,vv,av,hb,hnb,⟨ka,kc,rfl,hkc,hkk⟩,_,⟨aa,ac,rfl,hac,UI⟩⟩:=h;rw[cz,dx,hl]at hb;rw[cz]at hkc;rw[dx]at hac;have c0:=hb.c0;have c3:=hb.c3;have hne:nb≠db:=λ e=>hS (e▸hnb);have d0:=hy.cell (i:=0) (by omega);have d1:=hy.cell (i:=1) (by omega);have f0:=hy.free (i:=0) (by omega);have f1:=hy.free (i:=1) (by omega);have he:((UInt8.ofNat x.ah.length).toNat:Int)=x.ah.length:=by rw[UInt8.toNat_ofNat'];omega
 have h2:=(hy.set 0 2).set 1 (UInt8.ofNat x.ah.length);have o2:=((Only.refl db W).set 0 (.int .u8 ((2:UInt8).toNat:Int))).set 1 (.int .u8 ((UInt8.ofNat x.ah.length).toNat:Int));rw[he,show((2:UInt8).toNat:Int)=2 from rfl]at h2 o2;have H2:=zH (zA h2 o2);have HB:=zH hb;have HKB:=zH hkb;clear he h2 o2 hb hkb
 go_enter Tryz.func88,Tryz.ntmps88
 go_wp2_with fail
 obtain⟨hb2,ho2⟩:=H2.out;have hy2:((y.set 0 2).set 1 (UInt8.ofNat x.ah.length)).length=cap:=by rw[bB,bB];exact hyl
 generalize MH:(y.set 0 2).set 1 (UInt8.ofNat x.ah.length)=y2 at hb2 hy2;have UJ:=zH MH;clear MH H2
 go_loopw [70] (λ ix wr=>∃j:Nat,ix= .int .i64 j/\j<=x.ah.length/\aO wr db (UK.wr y2 4 (rX (x.ah.take j)))/\Only db W wr) (λ ix _=>50-(intOf ix).toNat)
 case atStart=>exact⟨0,rfl,bY _,by rw[jH];show aO _ _ (UK.wr y2 4 []);rw[UK.I5];exact hb2,ho2⟩
 clear hb2 ho2 hy c0 c3 d0 d1 f0 f1;obtain⟨j,rfl,hj,hb,ho⟩:=hrel;by_cases hlt:j<x.ah.length
 ·obtain⟨kx,hkx⟩:∃k,x.ah[j]?=some k:=⟨_,di hlt⟩;obtain⟨g,o,rfl,hg,ck⟩:=UI j _ (qw _ _ _ hkx);have hgd:g≠db:=λ e=>hS (e▸hg);replace ck:=ho.cell ck hgd;have hlb:(rX (x.ah.take j)).length=4*j:=by rw[DF,zt];omega
  have hw1:(UK.wr y2 4 (rX (x.ah.take j))).length=cap:=by rw[UK.lm _ _ _ (by omega)];exact hy2
  have ha1:=UK.BG y2 4 (rX (x.ah.take j)) (aW (UInt32.ofNat kx)) (by omega);rw[hlb,<-xrw hkx]at ha1;have FQ:kx<4294967296:=HKB.out kx (fe hkx);have EH:((UInt32.ofNat kx).toNat:Int)=(kx:Int):=by rw[sP];omega
  have P1:=sD hb (4+4*j) (504-(4+4*j)) (cap-(4+4*j)) (by omega) (by omega) (by omega) (UInt32.ofNat kx);rw[ha1,EH]at P1;have sI:=zH P1;have HO:=zH ho;have hk0:(0:Int)<=(kx:Int):=by omega
  have hk1:(kx:Int)<4294967296:=by omega
  clear P1 ha1 hw1 hlb hkk UI hkx hb ho EH
  go_wp2_with fail
  refine sI.out.mono ?_;rintro e w1 ⟨rfl,b1,o1⟩;have HF:=zH (zA b1 (HO.out.trans o1));clear sI HO b1 o1 ck;go_wp2;go_roundw
  case rel=>exact⟨j+1,by go_num,by omega,HF.out.1,HF.out.2⟩
  case measure=>simp[intOf];omega
 obtain rfl:j=x.ah.length:=by omega
 rw[mi]at hb;have hkl:(rX x.ah).length=4*x.ah.length:=DF _;have hy3:(UK.wr y2 4 (rX x.ah)).length=cap:=by rw[UK.lm _ _ _ (by omega)];exact hy2
 have c1:wr.cell? (nb,1)=some (.slice ka x.ai.length kc):=ho.cell (HB.out.cell 1 _ rfl) hne;generalize hz:UK.wr y2 4 (rX x.ah)=y3 at hb hy3;have HZ:=zH hz;clear hz hkl
 go_wp2_with fail
 go_loopw [89] (λ ix wr'=>∃j:Nat,ix= .int .i64 j/\j<=x.ai.length/\aO wr' db (UK.wr y3 164 (iJ (x.ai.take j)))/\Only db W wr') (λ ix _=>50-(intOf ix).toNat)
 case atStart=>exact⟨0,rfl,bY _,by rw[jH];show aO _ _ (UK.wr y3 164 []);rw[UK.I5];exact hb,ho⟩
 clear hb ho c1;obtain⟨j,rfl,hj2,hb,ho⟩:=hrel;by_cases hlt2:j<x.ai.length
 ·obtain⟨kx,hkx⟩:∃k,x.ai[j]?=some k:=⟨_,di hlt2⟩;obtain⟨g,o,rfl,hg,ck⟩:=hkk j _ (qx _ _ _ hkx);have hgd:g≠db:=λ e=>hS (e▸hg);replace ck:=ho.cell ck hgd;have hlb:(iJ (x.ai.take j)).length=8*j:=by rw[Gp,zt];omega
  have hw1:(UK.wr y3 164 (iJ (x.ai.take j))).length=cap:=by rw[UK.lm _ _ _ (by omega)];exact hy3
  have ha1:=UK.BG y3 164 (iJ (x.ai.take j)) (b64 kx) (by omega);rw[hlb,<-XT hkx]at ha1;have P1:=Oy hb (164+8*j) (504-(164+8*j)) (cap-(164+8*j)) (by omega) (by omega) (by omega) (by omega) kx;rw[show aW (UK.kW kx)++aW (UK.lQ kx)=b64 kx from rfl,ha1]at P1;have sI:=zH P1;have HO:=zH ho;clear P1 ha1 hw1 hlb hkk UI hkx hb ho
  go_wp2_with fail
  refine sI.out.mono ?_;rintro e w1 ⟨rfl,b1,o1⟩;have HF:=zH (zA b1 (HO.out.trans o1));clear sI HO b1 o1 ck;go_wp2;go_roundw
  case rel=>exact⟨j+1,by go_num,by omega,HF.out.1,HF.out.2⟩
  case measure=>simp[intOf];omega
 obtain rfl:j=x.ai.length:=by omega
 rw[mi]at hb;go_wp2;refine bodyPost_end (results_none rfl _ _ _) rfl ?_;refine⟨rfl,?_,ho⟩;unfold vI;rw[UJ.out,HZ.out];exact hb
theorem Z8{S:Nat->Prop}{W:World}{nb db cap:Nat}{y:List UInt8}{x:Nd}(h:jN S W nb x)(hx:Fits x)(hy:aO W db y)(hyl:y.length=cap)(hc:504<=cap)(hS:¬S db) :
  Calls Tryz.prog 88 #[.slice db 504 cap,.pointer nb] W λ e w'=>e= .returned (.tuple #[])/\aO w' db (bg y x)/\Only db W w':=by
 unfold bg
 cases hl:x.leaf with
 | true=>
  obtain⟨h1,h2,_⟩:=hx.leaf hl;rw[if_pos rfl];exact UL h hl h1 h2 hy hyl hc hS
 | false=>
  obtain⟨h1,h2,h3,_,h5⟩:=hx.inner hl;rw[if_neg (by decide)];exact xm8 h hl h3 (by omega) h5 hy hyl hc hS
end Go.Proofs.YtlipgbnnbefhjaaGreatDoor
