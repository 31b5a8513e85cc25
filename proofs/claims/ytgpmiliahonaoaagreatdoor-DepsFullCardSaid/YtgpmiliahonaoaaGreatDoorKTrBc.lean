/- Facts on texts on pages. -/
import Derived.Test.YtgpmiliahonaoaaGreatDoorKTreeNc
set_option maxRecDepth 100000
set_option maxHeartbeats 8000000
set_option linter.unusedSimpArgs false
open List renaming length->Y
open Or renaming inl->O,inr->al
open Go.Value renaming int->V,pointer->aq,slice->ad,tuple->a9
open Go.IntKind renaming i64->U
open Go.Ending renaming returned->aw
open Go.Proofs.Tryz
namespace Go.Proofs.YtgpmiliahonaoaaGreatDoor
open Go.RowKit
open UK (str aF nth Only)
variable{A B C:AP}{ps ps2 r gone:List Nat}{pg n more h d i p m q rt j nb z cap:Nat}{s a b c t t' u:Sb}{x xa xb:Nd}{ag vals ks vs:List UInt64}{κ k v dZ D:UInt64}{ah:List Sb}{e E:Int}{P:Sb->Prop}{w:It}{f g:Nat->Option Nd}{y:List UInt8}{was iB:Bool}{l:List KV}{S:Nat->Prop}{W:World}
def aB(A:AP)(p:Nat):Option Nd:=mI (A.c p)
def qw(x:Nd):Bool:=decide (30<Y x.ag)||decide (40<Y x.ak)
def mU(x:Nd):Nd×Nd×UInt64:=
 if x.leaf then(⟨true,x.ag.take (Y x.ag/2),x.vals.take (Y x.ag/2),[]⟩,⟨true,x.ag.drop (Y x.ag/2),x.vals.drop (Y x.ag/2),[]⟩,x.ag.getD (Y x.ag/2) 0)
 else(⟨false,x.ag.take (Y x.ak/2-1),[],x.ak.take (Y x.ak/2)⟩,⟨false,x.ag.drop (Y x.ak/2),[],x.ak.drop (Y x.ak/2)⟩,x.ag.getD (Y x.ak/2-1) 0)
inductive kL(A:AP)(pg:Nat)(x:Nd):AP->Nat->UInt64->Int->Prop
 | one:qw x=false->kL A pg x (A.ax pg (aX (A.c pg) x)) 0 0 0
 | none:qw x=true->A.Full->kL A pg x (A.ax pg (aX (A.c pg) (mU x).1)) 0 (mU x).2.2 6
 | two:qw x=true->¬A.Full->kL A pg x ((A.ax pg (aX (A.c pg) (mU x).1)).take.ax A.next (aX (UK.bM 504) (mU x).2.1)) A.next (mU x).2.2 0
inductive lW(k v:UInt64):Nat->AP->Nat->AP->Nat->UInt64->Int->Prop
 | found {A:AP} {pg i:Nat} {ks vs:List UInt64}:aB A pg=some ⟨true,ks,vs,[]⟩->ks[i]?=some k->lW k v 0 A pg (A.ax pg (aX (A.c pg) ⟨true,ks,vs.set i v,[]⟩)) 0 0 0
 | leaf {A B:AP} {pg i more:Nat} {ks vs:List UInt64} {κ:UInt64} {e:Int}:aB A pg=some ⟨true,ks,vs,[]⟩->eu ks k i->k∉ks->kL A pg ⟨true,ks.take i++k::ks.drop i,vs.take i++v::vs.drop i,[]⟩ B more κ e->lW k v 0 A pg B more κ e
 | stop {d:Nat} {A B:AP} {pg i c more:Nat} {ag:List UInt64} {r:List Nat} {κ:UInt64} {e:Int}:aB A pg=some ⟨false,ag,[],r⟩->dQ ag k i->r[i]?=some c->lW k v d A c B more κ e->(e≠0\/more=0)->lW k v (d+1) A pg B 0 0 e
 | up {d:Nat} {A b B:AP} {pg i c a more:Nat} {ag:List UInt64} {r:List Nat} {D κ:UInt64} {e:Int}:aB A pg=some ⟨false,ag,[],r⟩->dQ ag k i->r[i]?=some c->lW k v d A c b a D 0->a≠0 ->
   kL b pg ⟨false,ag.take i++D::ag.drop i,[],r.take (i+1)++a::r.drop (i+1)⟩ B more κ e->lW k v (d+1) A pg B more κ e
structure nE(A B:AP)(ps new:List Nat):Prop where
 reach:A.Reach B
 fA:new.Nodup
 fresh:∀p∈new,¬A.Has p
 has:∀p,B.Has p↔A.Has p\/p∈new
 same:∀p,A.Has p->p∉ps->B.c p=A.c p
 aQ:B.aQ+Y new=A.aQ
 dV:∀p,B.Has p->(B.c p).length=504
theorem nE.trans{new j:List Nat}(h:nE A B ps new)(g:nE B C ps2 j)(k:∀p∈ps2,p∈ps\/p∈new):nE A C ps (new++j):=by
 refine⟨h.reach.trans g.reach,?_,?_,λ p=>?_,λ p c i=>?_,?_,g.dV⟩
 ·rw[bN];exact⟨h.fA,g.fA,λ a f b l e=>g.fresh b l ((h.has b).2 (al (e▸f)))⟩
 ·intro p c;rcases dm.1 c with c|c
  ·exact h.fresh p c
  exact λ f=>g.fresh p c ((h.has p).2 (O f))
 ·rw[g.has,h.has,dm,or_assoc]
 ·rw[g.same p ((h.has p).2 (O c)) (λ m=>?_),h.same p c i];rcases k p m with d|d
  ·exact i d
  exact h.fresh p d c
 have:=h.aQ;have:=g.aQ;rw[zl];omega
theorem nE.wider{new:List Nat}(h:nE A B ps new)(c:∀p∈ps,p∈ps2):nE A B ps2 new:=⟨h.reach,h.fA,h.fresh,h.has,λ p d a=>h.same p d (λ b=>a (c p b)),h.aQ,h.dV⟩
theorem nE.ax{s:List UInt8}(d:A.Has pg)(f:∀p,A.Has p->(A.c p).length=504)(c:Y s=504):nE A (A.ax pg s) [pg] []:=by
 refine⟨(AP.Reach.refl A).ax d s,List.nodup_nil,λ _ h=>(by cases h),λ p=>by rw[AP.aC];simp,λ p _ a=>?_,?_,λ p b=>?_⟩
 ·rw[AP.aL,aE];simp at a;exact λ e=>a e.symm
 ·rw[AP.oF];rfl
 rw[AP.aL]
 split
 ·exact c
 exact f p (AP.aC.1 b)
theorem nE.take{s:List UInt8}(e:A.Good)(hf:¬A.Full)(f:∀p,A.Has p->(A.c p).length=504)(d:Y s=504):nE A (A.take.ax A.next s) [] [A.next]:=by
 have a:=(AP.Grown.nil A).cons e hf s;refine⟨a.reach,by simp,a.new,a.has,λ p c _=>a.same p c,a.aQ,λ p c=>?_⟩;rcases(a.has p).1 c with b|b
 ·rw[a.same p b];exact f p b
 rw[bu.1 b,AP.aL,be rfl];exact d
theorem nE.good{new:List Nat}(h:nE A B ps new)(g:A.Good):B.Good:=h.reach.good g
def og(x:Nd):Prop:=(x.leaf=true->Y x.vals=Y x.ag/\x.ak=[]/\Y x.ag<=31)/\(x.leaf=false->Y x.ak=Y x.ag+1/\x.vals=[]/\2<=Y x.ak/\Y x.ak<=41/\∀k∈x.ak,k<4294967296)
theorem og.fits(h:og x)(hf:qw x=false):Fits x:=by
 unfold qw at hf;simp only[Bool.or_eq_false_iff,decide_eq_false_iff_not]at hf;refine⟨λ b=>?_,λ b=>?_⟩
 ·obtain⟨a,c,_⟩:=h.1 b;exact⟨Z,a,c⟩
 obtain⟨a,c,e,f,d⟩:=h.2 b;exact⟨a,e,Z,c,d⟩
theorem KE(h:Y ag/2=n):mU ⟨true,ag,vals,r⟩=(⟨true,ag.take n,vals.take n,[]⟩,⟨true,ag.drop n,vals.drop n,[]⟩,ag.getD n 0):=by
 unfold mU;rw[be rfl];dsimp only;rw[h]
theorem KG(h:Y r/2=n):mU ⟨false,ag,vals,r⟩=(⟨false,ag.take (n-1),[],r.take n⟩,⟨false,ag.drop n,[],r.drop n⟩,ag.getD (n-1) 0):=by
 unfold mU;rw[aE (by simp)];dsimp only;rw[h]
theorem og.split(h:og x)(hf:qw x=true):Fits (mU x).1/\Fits (mU x).2.1/\tH (mU x).1/\tH (mU x).2.1/\(mU x).1.leaf=x.leaf/\(mU x).2.1.leaf=x.leaf:=by
 unfold qw at hf;simp only[Bool.or_eq_true,decide_eq_true_eq]at hf;obtain⟨f,ag,vals,r⟩:=x
 cases f with
 | true=>
  obtain⟨b,a,d⟩:=h.1 rfl;dsimp only at b a d hf;subst a;have p:Y ag=31:=by simp at hf;omega
  rw[KE (n:=15) Z];have l:(ag.take 15).length=15:=by rw[zt];omega
  have m:(ag.drop 15).length=16:=by rw[zd];omega
  have g:(vals.take 15).length=15:=by rw[zt];omega
  have i:(vals.drop 15).length=16:=by rw[zd];omega
  exact⟨⟨λ _=>⟨by dsimp only;omega,by dsimp only;omega,rfl⟩,(λ h=>by cases h)⟩,⟨λ _=>⟨by dsimp only;omega,by dsimp only;omega,rfl⟩,(λ h=>by cases h)⟩,⟨λ _=>by dsimp only;omega,(λ h=>by cases h)⟩,⟨λ _=>by dsimp only;omega,(λ h=>by cases h)⟩,rfl,rfl⟩
 | false=>
  obtain⟨b,a,d,o,c⟩:=h.2 rfl;dsimp only at b a d o c hf;obtain⟨n,j⟩:∃n,Y r/2=n:=⟨_,rfl⟩;rw[KG j];have l:(ag.take (n-1)).length=n-1:=by rw[zt];omega
  have m:(ag.drop n).length=Y ag-n:=by rw[zd]
  have g:(r.take n).length=n:=by rw[zt];omega
  have i:(r.drop n).length=Y r-n:=by rw[zd]
  exact⟨⟨(λ h=>by cases h),λ _=>⟨by dsimp only;omega,by dsimp only;omega,by dsimp only;omega,rfl,λ k e=>c k (jw e)⟩⟩,⟨(λ h=>by cases h),λ _=>⟨by dsimp only;omega,by dsimp only;omega,by dsimp only;omega,rfl,λ k e=>c k (jQ e)⟩⟩,
   ⟨(λ h=>by cases h),λ _=>by dsimp only;omega⟩,⟨(λ h=>by cases h),λ _=>by dsimp only;omega⟩,rfl,rfl⟩
theorem KO:(UK.bM 504).length=504:=iM
theorem kL.out(h:kL A pg x B more κ 0)(i:og x)(a:A.Has pg)(k:A.Good)(b:∀p,A.Has p->(A.c p).length=504) :
  ∃new,nE A B [pg] new/\((more=0/\new=[]/\qw x=false/\aB B pg=some x)\/(more≠0/\more<=60000/\new=[more]/\qw x=true/\κ=(mU x).2.2/\aB B pg=some (mU x).1/\aB B more=some (mU x).2.1)):=by
 have n:=b pg a
 cases h with
 | one hf=>
  have d:=i.fits hf;refine⟨[],nE.ax a b (by rw[uL _ _ Z d,n]),O ⟨rfl,rfl,hf,?_⟩⟩;unfold aB;rw[AP.aL,be rfl];exact Ib _ _ Z d
 | two hf l=>
  obtain⟨g,j,_⟩:=i.split hf;have c:nE A (A.ax pg (aX (A.c pg) (mU x).1)) [pg] []:=nE.ax a b (by rw[uL _ _ Z g,n]);have o:=c.good k;have f:nE (A.ax pg (aX (A.c pg) (mU x).1)) ((A.ax pg (aX (A.c pg) (mU x).1)).take.ax A.next (aX (UK.bM 504) (mU x).2.1)) [] [A.next]:=nE.take o l c.dV (by rw[uL _ _ (by rw[KO];omega) j,KO]);have m:=k.next l;have q:A.next≠pg:=λ e=>m.1 (e▸a);refine⟨[A.next],by simpa using c.trans f (λ p a=>by cases a),al ⟨Z,m.2.2,rfl,hf,rfl,?_,?_⟩⟩
  ·unfold aB;rw[f.same pg (AP.aC.2 a) (by simp),AP.aL,be rfl];exact Ib _ _ Z g
  unfold aB;rw[AP.aL,be rfl];exact Ib _ _ (by rw[KO];omega) j
theorem tH.grow{x y:Nd}(h:tH x)(a:y.leaf=x.leaf)(b:Y x.ag<=Y y.ag)(c:Y x.ak<=Y y.ak):tH y:=
 ⟨λ e=>aT (h.1 (a.symm.trans e)) b,λ e=>aT (h.2 (a.symm.trans e)) c⟩
theorem VQ(d:jV ks)(g:h<Y ks):(∀x∈(ks.take h).zip (vs.take h),x.1.toNat<(ks.getD h 0).toNat)/\(∀x∈(ks.drop h).zip (vs.drop h),(ks.getD h 0).toNat<=x.1.toNat):=by
 have f:ks[h]?=some (ks.getD h 0):=by rw[fV,bK g];rfl
 refine⟨λ x b=>?_,λ x b=>?_⟩
 ·obtain⟨j,c,a⟩:=fU (List.of_mem_zip b).1;rw[zt]at c;rw[List.getElem_take]at a;exact d j h _ _ Z (by rw[bK Z,a]) f
 obtain⟨j,c,a⟩:=fU (List.of_mem_zip b).1;rw[zd]at c;rw[List.getElem_drop]at a;rcases Nat.eq_zero_or_pos j with e|e
 ·subst e;rw[<-a,fV,bK g];exact aH _
 have:=d h (h+j) _ x.1 Z f (by rw[bK Z,a]);omega
theorem jV.take(h:jV ks)(n:Nat):jV (ks.take n):=λ a b x y g d c=>by
 have e:=(dz.1 d).1;have f:=(dz.1 c).1;rw[zt]at e f;rw[fT Z]at d c;exact h a b x y g d c
theorem jV.drop(h:jV ks)(n:Nat):jV (ks.drop n):=λ a b x y e c d=>by
 rw[eP]at c d;exact h (n+a) (n+b) x y Z c d
structure Jh(A B:AP)(d:Nat)(s:Sb)(l:List KV)(more:Nat)(κ:UInt64)(new:List Nat):Prop where
 gz:nE A B s.ps new
 few:Y new<=d+1
 one:more=0->∃t,Tr (aB B) d t/\t.pg=s.pg/\t.l=l/\t.ps.Nodup/\(∀p,p∈t.ps↔p∈s.ps\/p∈new)/\(ji (aB A) s.pg->ji (aB B) s.pg)/\(∀x,aB A s.pg=some x->x.leaf=false->∃y,aB B s.pg=some y/\y.leaf=false)
 two:more≠0->more<=60000/\∃t u,Tr (aB B) d t/\Tr (aB B) d u/\t.pg=s.pg/\u.pg=more/\t.l++u.l=l/\(∀x∈t.l,x.1.toNat<κ.toNat)/\(∀x∈u.l,κ.toNat<=x.1.toNat)/\ji (aB B) s.pg/\ji (aB B) more/\(t.ps++u.ps).Nodup/\(∀p,p∈t.ps++u.ps↔p∈s.ps\/p∈new)
theorem O1{a b c i new:List Nat}(h:(a++(c++b)).Nodup)(o:i.Nodup)(l:∀p∈i,p∈c\/p∈new)(k:∀p∈new,p∉a/\p∉b):(a++(i++b)).Nodup:=by
 rw[bN,bN]at h ⊢;obtain⟨m,⟨s,r,n⟩,j⟩:=h;refine⟨m,⟨o,r,λ p g q d e=>?_⟩,λ p g q d e=>?_⟩
 ·rcases l p g with f|f
  ·exact n p f q d e
  exact(k p f).2 (e▸d)
 rcases dm.1 d with d|d
 ·rcases l q d with f|f
  ·exact j p g q (fw _ f) e
  exact(k q f).1 (e▸g)
 exact j p g q (lL _ d) e
theorem Tr.gz{new:List Nat}(c:Tr (aB A) d s)(g:nE A B ps new)(h:∀p∈s.ps,A.Has p)(hd:∀p∈s.ps,p∉ps):Tr (aB B) d s/\(ji (aB A) s.pg->ji (aB B) s.pg):=by
 have a:∀p∈s.ps,aB B p=aB A p:=λ p b=>by unfold aB;rw[g.same p (h p b) (hd p b)]
 refine⟨Tr.same d s c a,λ ⟨x,e,f⟩=>⟨x,(a _ c.mem).trans e,f⟩⟩
theorem KQ{c:Nat}(h:(ah.map Sb.pg)[i]?=some c):∃t,ah[i]?=some t/\t.pg=c:=by
 rw[dL]at h;obtain⟨t,a,e⟩:=Option.map_eq_some_iff.1 h;exact⟨t,a,e⟩
structure dR(A:AP)(d:Nat)(s:Sb)(ag:List UInt64)(ah:List Sb)(i:Nat)(t:Sb):Prop where
 nd:aB A s.pg=some ⟨false,ag,[],ah.map Sb.pg⟩
 lJ:jH (λ t=>Tr (aB A) d t/\ji (aB A) t.pg) ag ah
 l:s.l=ik ah
 ps:s.ps=s.pg::dP ah
 at_:ah[i]?=some t
theorem dR.mem(h:dR A d s ag ah i t):t∈ah:=dU h.at_
theorem dR.sub(h:dR A d s ag ah i t):∀p∈t.ps,p∈s.ps:=λ p a=>by rw[h.ps];exact cK _ (xH h.mem a)
theorem dR.nodup(h:dR A d s ag ah i t)(a:s.ps.Nodup):((s.pg::dP (ah.take i))++(t.ps++dP (ah.drop (i+1)))).Nodup:=by
 rw[h.ps,Jg h.at_]at a;exact a
theorem dR.tn(h:dR A d s ag ah i t)(a:s.ps.Nodup):t.ps.Nodup:=(bN.1 (bN.1 (h.nodup a)).2.1).1
theorem dR.ol(h:dR A d s ag ah i t)(a:s.ps.Nodup):s.pg∉t.ps:=λ b=>(bN.1 (h.nodup a)).2.2 s.pg (by simp) s.pg (by simp[b]) rfl
theorem dR.lo(h:dR A d s ag ah i t)(a:p∈s.pg::dP (ah.take i)):p∈s.ps:=by
 rw[h.ps,Jg h.at_];rcases aN.1 a with e|e
 ·simp[e]
 simp[e]
theorem dR.hi(h:dR A d s ag ah i t)(a:p∈dP (ah.drop (i+1))):p∈s.ps:=by
 rw[h.ps,Jg h.at_];simp[a]
theorem dR.other(h:dR A d s ag ah i t)(k:s.ps.Nodup):∀u∈ah.take i++ah.drop (i+1),∀p∈u.ps,p∉t.ps/\p≠s.pg/\p∈s.ps:=by
 have hd:=h.nodup k;rw[bN,bN]at hd;obtain⟨j,⟨m,n,l⟩,g⟩:=hd;intro u a p c;rcases dm.1 a with a|a
 ·have b:=xH a c;exact⟨λ f=>g p (by simp[b]) p (by simp[f]) rfl,λ e=>(eD.1 j).1 (e▸b),by rw[h.ps];exact cK _ (xH (jw a) c)⟩
 have b:=xH a c;exact⟨λ f=>l p f p b rfl,λ e=>g s.pg (by simp) p (by simp[b]) e.symm,by rw[h.ps];exact cK _ (xH (jQ a) c)⟩
theorem Tr.kid{c:Nat}(n:Tr (aB A) (d+1) s)(g:aB A s.pg=some ⟨false,ag,[],r⟩)(o:r[i]?=some c):∃ah t,dR A d s ag ah i t/\t.pg=c/\r=ah.map Sb.pg/\Tr (aB A) d t/\ji (aB A) t.pg:=by
 obtain⟨keys',ah,f,j,p,m⟩:=n;rw[g]at f
 injection bf f with _ k _ l
 subst k l;obtain⟨t,h,e⟩:=KQ o;obtain⟨a,b⟩:=j.all t (dU h);exact⟨ah,t,⟨g,j,p,m,h⟩,e,rfl,a,b⟩
theorem cr(h:ah[i]?=some t)(e:t'.pg=t.pg):(ah.take i++t'::u::ah.drop (i+1)).map Sb.pg=(ah.map Sb.pg).take (i+1)++u.pg::(ah.map Sb.pg).drop (i+1):=by
 have b:=(dz.1 h).1
 have a:(ah.map Sb.pg).take (i+1)=(ah.map Sb.pg).take i++[t.pg]:=by
  rw[List.take_add_one,dL,h];rfl
 rw[a,dI,jr,jr,e,List.map_take,List.map_drop,cO];rfl
theorem Gu(h:ah[i]?=some t)(e:t'.pg=t.pg):(ah.take i++t'::ah.drop (i+1)).map Sb.pg=ah.map Sb.pg:=by
 conv=>rhs;rw[Jf h]
 rw[dI,dI,jr,jr,e]
theorem cR{a b c new:List Nat}:(p∈a++(c++b)\/p∈new)↔(p∈a\/p∈b)\/(p∈c\/p∈new):=by
 simp only[dm]
 constructor
 ·rintro((h|h|h)|h)
  ·exact O (O h)
  ·exact al (O h)
  ·exact O (al h)
  exact al (al h)
 rintro((h|h)|h|h)
 ·exact O (O h)
 ·exact O (al (al h))
 ·exact O (al (O h))
 exact al h
theorem Rl{a b c:List Nat}:p∈a++(c++b)↔(p∈a\/p∈b)\/p∈c:=by
 simp only[dm]
 constructor
 ·rintro(h|h|h)
  ·exact O (O h)
  ·exact al h
  exact O (al h)
 rintro((h|h)|h)
 ·exact O h
 ·exact al (al h)
 exact al (O h)
theorem KM(h:lW k v d A pg B more κ e):e=0->∀s,Tr (aB A) d s->s.pg=pg->s.ps.Nodup->(∀p∈s.ps,A.Has p)->A.Good->(∀p,A.Has p->(A.c p).length=504)->∃new,Jh A B d s (jO s.l k v) more κ new:=by
 induction h with
 | @found A pg i ks vs o hk=>
  intro _ s F S E m P K;subst S;obtain⟨ks',vs',h1,h2,h3,h4,M⟩:=F;rw[o]at h1
  injection bf h1 with _ e1 e2 _
  subst e1 e2;have f:=m s.pg (by rw[M];simp);have W:=lI o;have hu:Fits ⟨true,ks,vs.set i v,[]⟩:=⟨λ _=>⟨(W.leaf rfl).1,by simpa using h2,rfl⟩,(λ h=>by cases h)⟩
  have lU:aB (A.ax s.pg (aX (A.c s.pg) ⟨true,ks,vs.set i v,[]⟩)) s.pg=some ⟨true,ks,vs.set i v,[]⟩:=by
   unfold aB;rw[AP.aL,be rfl];exact Ib _ _ (by rw[K _ f];omega) hu
  refine⟨[],⟨by rw[M];exact nE.ax f K (by rw[uL _ _ (by rw[K _ f];omega) hu,K _ f]),by simp,λ _=>⟨⟨s.pg,ks.zip (vs.set i v),[s.pg]⟩,⟨ks,vs.set i v,lU,by simpa using h2,h3,rfl,rfl⟩,rfl,?_,by simp,λ p=>by rw[M];simp,?_,λ x j V=>?_⟩,λ h=>absurd rfl h⟩⟩
  ·rw[h4];exact(km h3 hk h2).symm
  ·rintro⟨x,j,hf⟩;rw[o]at j;obtain rfl:=bf j;exact⟨_,lU,hf⟩
  rw[o]at j;obtain rfl:=bf j
  cases V
 | @leaf A B pg i more ks vs κ e o ho x0 hs=>
  intro he s F S E m P K;subst S he;obtain⟨ks',vs',h1,h2,h3,h4,M⟩:=F;rw[o]at h1
  injection bf h1 with _ e1 e2 _
  subst e1 e2;have f:=m s.pg (by rw[M];simp);have W:=(lI o).leaf rfl;dsimp only at W;have xm:=ho.le;have xb:(ks.take i++k::ks.drop i).length=Y ks+1:=by simp;omega
  have xj:(vs.take i++v::vs.drop i).length=Y ks+1:=by simp;omega
  have h6:jV (ks.take i++k::ks.drop i):=eu.sorted ho h3 x0;have h8:og ⟨true,ks.take i++k::ks.drop i,vs.take i++v::vs.drop i,[]⟩:=⟨λ _=>⟨by dsimp only;omega,rfl,by dsimp only;omega⟩,(λ h=>by cases h)⟩;have hz:=A6 (v:=v) ho h2 x0;obtain⟨new,L,hr⟩:=hs.out h8 f P K;rcases hr with⟨rfl,rfl,G,hB⟩|⟨ht,Rh,rfl,G,rfl,h9,hx⟩
  ·refine⟨[],⟨by rw[M];exact L,by simp,λ _=>⟨⟨s.pg,_,[s.pg]⟩,⟨_,_,hB,Z,h6,rfl,rfl⟩,rfl,?_,by simp,λ p=>by rw[M];simp,?_,λ x j V=>?_⟩,λ h=>absurd rfl h⟩⟩
   ·rw[h4];exact hz.symm
   ·rintro⟨x,j,hf⟩;rw[o]at j;obtain rfl:=bf j;exact⟨_,hB,hf.grow rfl (by dsimp only;omega) (aH _)⟩
   rw[o]at j;obtain rfl:=bf j
   cases V
  obtain⟨f1,f2,CW,Ji,_,_⟩:=h8.split G;have xc:more≠s.pg:=λ e=>L.fresh more (by simp) (e▸f)
  have xk:Y ks+1=31:=by
   unfold qw at G;simp only[Bool.or_eq_true,decide_eq_true_eq,xb,List.length_nil]at G;omega
  refine⟨[more],⟨by rw[M];exact L,by simp,λ h=>absurd h ht,λ _=>⟨Rh,⟨s.pg,((ks.take i++k::ks.drop i).take 15).zip ((vs.take i++v::vs.drop i).take 15),[s.pg]⟩,⟨more,((ks.take i++k::ks.drop i).drop 15).zip ((vs.take i++v::vs.drop i).drop 15),[more]⟩,?_,?_,rfl,rfl,?_,?_,?_,⟨_,h9,CW⟩,⟨_,hx,Ji⟩,?_,λ p=>by rw[M];simp⟩⟩⟩
  ·refine⟨_,_,by rw[h9,KE (n:=15) Z],?_,h6.take 15,rfl,rfl⟩;rw[zt,zt];omega
  ·refine⟨_,_,by rw[hx,KE (n:=15) Z],?_,h6.drop 15,rfl,rfl⟩;rw[zd,zd];omega
  ·rw[<-List.zip_append (by rw[zt,zt];omega),gZ,gZ,h4];exact hz.symm
  ·have:=(VQ (vs:=vs.take i++v::vs.drop i) h6 (h:=15) Z).1;rw[KE (n:=15) Z];exact this
  ·have:=(VQ (vs:=vs.take i++v::vs.drop i) h6 (h:=15) Z).2;rw[KE (n:=15) Z];exact this
  simp[dJ xc]
 | @stop d A B pg i c more ag r κ e o R ig xd xe ih=>
  intro he s F S E m P K;subst S he;obtain rfl:more=0:=by rcases xe with h|h;exact absurd rfl h;exact h
  obtain⟨ah,t,g,hn,rfl,oG,qL⟩:=F.kid o ig;obtain⟨new,l⟩:=ih rfl t oG hn (g.tn E) (λ p f=>m p (g.sub p f)) P K;obtain⟨t',hc,X,h7,hp,h5,O3,_⟩:=l.one rfl;have L:=l.gz.wider g.sub
  have I:=(g.lJ.imp (Q:=λ _=>True) (λ _ _ _=>trivial)).set g.at_ R (t:=t') (λ x j=>by
   rw[h7]at j;rcases dk j with h|h
   ·exact O h
   exact al (by rw[h])) trivial
  have hy:∀u∈ah.take i++ah.drop (i+1),Tr (aB B) d u/\ji (aB B) u.pg:=λ u U=>by
   have qV:u∈ah:=by
    rcases dm.1 U with h|h
    ·exact jw h
    exact jQ h
   obtain⟨a,b⟩:=g.lJ.all u qV;have T:=g.other E u U;obtain⟨a',b'⟩:=Tr.gz a l.gz (λ p f=>m p (T p f).2.2) (λ p f=>(T p f).1);exact⟨a',b' b⟩
  have Jj:aB B s.pg=aB A s.pg:=by unfold aB;rw[l.gz.same s.pg (m _ F.mem) (g.ol E)]
  refine⟨new,⟨L,aT l.few Z,λ _=>⟨⟨s.pg,ik (ah.take i++t'::ah.drop (i+1)),s.pg::dP (ah.take i++t'::ah.drop (i+1))⟩,⟨ag,ah.take i++t'::ah.drop (i+1),?_,⟨I.len,I.ord,λ u U=>?_⟩,rfl,rfl⟩,rfl,?_,?_,λ p=>?_,λ ⟨x,j,hf⟩=>⟨x,Jj.trans j,hf⟩,λ x j V=>⟨x,Jj.trans j,V⟩⟩,λ h=>absurd rfl h⟩⟩
  ·dsimp only;rw[Jj,o,Gu g.at_ (X.trans rfl)]
  ·rcases dm.1 U with h|h
   ·exact hy u (by simp[h])
   rcases aN.1 h with rfl|h
   ·rw[X];exact⟨hc,O3 qL⟩
   exact hy u (by simp[h])
  ·dsimp only;rw[g.l,Gs g.at_,CV,vw,h7,Rj (KP (g.lJ.left g.at_ R.below)) (Rk (g.lJ.right g.at_ R.above))]
  ·have:=O1 (g.nodup E) hp (λ p f=>(h5 p).1 f) (λ p f=>⟨λ j=>l.gz.fresh p f (m p (g.lo j)),λ j=>l.gz.fresh p f (m p (g.hi j))⟩);rw[uO,vZ];exact this
  dsimp only;rw[g.ps,Jg g.at_,uO,vZ,<-lS,<-lS,Rl,cR,h5 p]
 | @up d A H B pg i c jh more ag r D κ e o R ig xd x9 hs ih=>
  intro he s F S E m P K;subst S he;obtain⟨ah,t,g,hn,rfl,oG,qL⟩:=F.kid o ig;obtain⟨qf,l⟩:=ih rfl t oG hn (g.tn E) (λ p f=>m p (g.sub p f)) P K;obtain⟨Rh,t',C,hc,VK,X,BC,h7,x6,xa,x2,x1,hp,h5⟩:=l.two x9;have O5:=l.gz.wider g.sub
  have x3:∀x∈t'.l++C.l,x∈t.l\/x.1=k:=λ x j=>by
   rw[h7]at j;rcases dk j with h|h
   ·exact O h
   exact al (by rw[h])
  have x5:t'.l≠[]:=λ y=>by have:=hc.many _ _ (by rw[X];exact x2);rw[y]at this;simp at this
  have xf:C.l≠[]:=λ y=>by have:=VK.many _ _ (by rw[BC];exact x1);rw[y]at this;simp at this
  have I:=(g.lJ.imp (Q:=λ _=>True) (λ _ _ _=>trivial)).ins g.at_ R (t:=t') (u:=C) (κ:=D) (λ x j=>x3 x (by simp[j])) (λ x j=>x3 x (by simp[j])) x6 xa x5 xf trivial trivial;have W:=(lI o).inner rfl;dsimp only at W;obtain⟨z1,z2,z3,_,z5⟩:=W;have hi:=(dz.1 g.at_).1;have N:=cr (t':=t') (u:=C) g.at_ X;rw[BC]at N
  have h0:((ah.map Sb.pg).take (i+1)++jh::(ah.map Sb.pg).drop (i+1)).length=(ah.map Sb.pg).length+1:=by
   rw[<-N];simp;omega
  have xg:aB H s.pg=aB A s.pg:=by unfold aB;rw[l.gz.same s.pg (m _ F.mem) (g.ol E)]
  have h8:og ⟨false,ag.take i++D::ag.drop i,[],(ah.map Sb.pg).take (i+1)++jh::(ah.map Sb.pg).drop (i+1)⟩:=by
   refine⟨(λ h=>by cases h),λ _=>⟨?_,rfl,?_,?_,λ q hq=>?_⟩⟩
   ·dsimp only;rw[h0];simp;simp at z1;omega
   ·dsimp only;rw[h0];omega
   ·dsimp only;rw[h0];omega
   rcases dm.1 hq with h|h
   ·exact z5 q (jw h)
   rcases aN.1 h with rfl|h
   ·omega
   exact z5 q (jQ h)
  have VR:H.Has s.pg:=(l.gz.has _).2 (O (m _ F.mem));obtain⟨EH,BF,hr⟩:=hs.out h8 VR (l.gz.good P) l.gz.dV;have L:nE A B s.ps (qf++EH):=O5.trans BF (λ p f=>O (by rw[bu.1 f];exact F.mem))
  -- the r stand behind the write
  have xI:∀p,(p∈s.ps\/p∈qf)->H.Has p:=λ p f=>(l.gz.has p).2 (by rcases f with h|h;exact O (m p h);exact al h)
  have hl:∀w∈ah.take i++t'::C::ah.drop (i+1),Tr (aB B) d w/\ji (aB B) w.pg:=λ w hw=>by
   have h9:(Tr (aB H) d w/\ji (aB H) w.pg)/\∀p∈w.ps,H.Has p/\p≠s.pg:=by
    have hv:∀u∈ah.take i++ah.drop (i+1),(Tr (aB H) d u/\ji (aB H) u.pg)/\∀p∈u.ps,H.Has p/\p≠s.pg:=λ u U=>by
     have qV:u∈ah:=by
      rcases dm.1 U with h|h
      ·exact jw h
      exact jQ h
     obtain⟨a,b⟩:=g.lJ.all u qV;have T:=g.other E u U;obtain⟨a',b'⟩:=Tr.gz a l.gz (λ p f=>m p (T p f).2.2) (λ p f=>(T p f).1);exact⟨⟨a',b' b⟩,λ p f=>⟨xI p (O (T p f).2.2),(T p f).2.1⟩⟩
    have x4:∀p∈t'.ps++C.ps,H.Has p/\p≠s.pg:=λ p f=>by
     rcases(h5 p).1 f with h|h
     ·exact⟨xI p (O (g.sub p h)),λ e=>g.ol E (e▸h)⟩
     exact⟨xI p (al h),λ e=>l.gz.fresh p h (e▸m _ F.mem)⟩
    rcases dm.1 hw with h|h
    ·exact hv w (by simp[h])
    rcases aN.1 h with rfl|h
    ·exact⟨⟨hc,by rw[X];exact x2⟩,λ p f=>x4 p (by simp[f])⟩
    rcases aN.1 h with rfl|h
    ·exact⟨⟨VK,by rw[BC];exact x1⟩,λ p f=>x4 p (by simp[f])⟩
    exact hv w (by simp[h])
   obtain⟨⟨a,b⟩,c⟩:=h9;obtain⟨a',b'⟩:=Tr.gz a BF (λ p f=>(c p f).1) (λ p f=>by simpa using(c p f).2);exact⟨a',b' b⟩
  have hj:ik (ah.take i++t'::C::ah.drop (i+1))=jO s.l k v:=by
   rw[g.l,Gs g.at_,CV,vw,vw,Rj (KP (g.lJ.left g.at_ R.below)) (Rk (g.lJ.right g.at_ R.above)),<-h7,cO]
  have Q:(s.pg::dP (ah.take i++t'::C::ah.drop (i+1))).Nodup/\∀p,p∈s.pg::dP (ah.take i++t'::C::ah.drop (i+1))↔p∈s.ps\/p∈qf:=by
   have e1:s.pg::dP (ah.take i++t'::C::ah.drop (i+1))=(s.pg::dP (ah.take i))++((t'.ps++C.ps)++dP (ah.drop (i+1))):=by
    rw[uO,vZ,vZ,cO];rfl
   rw[e1];refine⟨O1 (g.nodup E) hp (λ p f=>(h5 p).1 f) (λ p f=>⟨λ j=>l.gz.fresh p f (m p (g.lo j)),λ j=>l.gz.fresh p f (m p (g.hi j))⟩),λ p=>?_⟩;rw[g.ps,Jg g.at_,<-lS,Rl,cR,h5 p]
  rcases hr with⟨rfl,rfl,G,hB⟩|⟨ht,VS,rfl,G,rfl,EI,hg⟩
  ·rw[jl]at L;refine⟨qf,⟨L,aT l.few Z,λ _=>⟨⟨s.pg,ik (ah.take i++t'::C::ah.drop (i+1)),s.pg::dP (ah.take i++t'::C::ah.drop (i+1))⟩,⟨_,_,by rw[hB,N],⟨I.len,I.ord,hl⟩,rfl,rfl⟩,rfl,hj,Q.1,Q.2,?_,λ x j V=>⟨_,hB,rfl⟩⟩,λ h=>absurd rfl h⟩⟩;rintro⟨x,j,hf⟩;rw[o]at j;obtain rfl:=bf j;exact⟨_,hB,hf.grow rfl (by dsimp only;simp;omega) (by dsimp only;rw[h0];omega)⟩
  obtain⟨f1,f2,CW,Ji,_,_⟩:=h8.split G
  have xh:32<=(ah.map Sb.pg).length+1/\(ah.map Sb.pg).length+1<=41:=by
   unfold qw at G;simp only[Bool.or_eq_true,decide_eq_true_eq,h0]at G;rw[zl,dF,zt,zd]at G;simp at z1 z3 G ⊢;omega
  have hS:(ah.take i++t'::C::ah.drop (i+1)).length=(ah.map Sb.pg).length+1:=by rw[<-h0,<-N,bS]
  have x7:(ag.take i++D::ag.drop i).length=(ah.map Sb.pg).length:=by have:=I.len;omega
  generalize xl:ah.take i++t'::C::ah.drop (i+1)=z at I hl hj Q N hS;generalize xi:ag.take i++D::ag.drop i=J at I x7 EI hg CW Ji;rw[<-N]at EI hg CW Ji;obtain⟨n,hh⟩:∃n,(z.map Sb.pg).length/2=n:=⟨_,rfl⟩;have xn:(z.map Sb.pg).length=(ah.map Sb.pg).length+1:=by rw[bS];exact hS
  have ek:J=J.take (n-1)++J.getD (n-1) 0::J.drop n:=by
   have:=gZ (n-1) J;rw[jY Z,show n-1+1=n from Z]at this;rw[fV,bK Z];exact this.symm
  have es:z=z.take n++z.drop n:=(gZ n z).symm
  have x8:jH (λ w=>Tr (aB B) d w/\ji (aB B) w.pg) (J.take (n-1)++J.getD (n-1) 0::J.drop n) (z.take n++z.drop n):=by
   rw[<-ek,<-es];exact⟨I.len,I.ord,hl⟩
  obtain⟨i1,i2,i3,i4⟩:=x8.Gt (by rw[zt,zt];omega);have iH:=l.few;refine⟨qf++[more],⟨L,by rw[zl];simp;omega,λ h=>absurd h ht,λ _=>⟨VS,⟨s.pg,ik (z.take n),s.pg::dP (z.take n)⟩,⟨more,ik (z.drop n),more::dP (z.drop n)⟩,⟨J.take (n-1),z.take n,?_,i1,rfl,rfl⟩,⟨J.drop n,z.drop n,?_,i2,rfl,rfl⟩,rfl,rfl,?_,?_,?_,⟨_,EI,CW⟩,⟨_,hg,Ji⟩,?_,λ p=>?_⟩⟩⟩
  ·dsimp only;rw[EI,KG hh,List.map_take]
  ·dsimp only;rw[hg,KG hh,List.map_drop]
  ·dsimp only;rw[<-CV,<-es,hj]
  ·dsimp only;rw[<-N,KG hh];exact i3
  ·dsimp only;rw[<-N,KG hh];exact i4
  ·dsimp only
   have hm:more∉s.pg::dP z:=λ j=>by
    have:=(Q.2 more).1 j;exact BF.fresh more (by simp) (xI more this)
   rw[es,uO]at Q hm;rw[bN];have y:=Q.1;rw[<-lS,bN]at y;refine⟨y.1,eD.2 ⟨λ j=>hm (by simp[j]),y.2.1⟩,λ a ha b hb e=>?_⟩;rcases aN.1 hb with rfl|hb
   ·exact hm (by rw[<-e,<-lS];exact fw _ ha)
   exact y.2.2 a ha b hb e
  dsimp only;have y:=Q.2 p;rw[es,uO]at y;simp only[dm,aN,List.not_mem_nil,or_false]at y ⊢
  constructor
  ·rintro((h|h)|h|h)
   ·rcases y.1 (O h)with h|h
    ·exact O h
    exact al (O h)
   ·rcases y.1 (al (O h))with h|h
    ·exact O h
    exact al (O h)
   ·exact al (al h)
   rcases y.1 (al (al h))with h|h
   ·exact O h
   exact al (O h)
  rintro(h|h|h)
  ·rcases y.2 (O h)with h|h|h
   ·exact O (O h)
   ·exact O (al h)
   exact al (al h)
  ·rcases y.2 (al h)with h|h|h
   ·exact O (O h)
   ·exact O (al h)
   exact al (al h)
  exact al (O h)
def iF(a b:Nd)(κ:UInt64):Nd×Nd×UInt64×Bool:=
 if a.leaf then
  if Y a.ag+Y b.ag<=30 then(⟨true,a.ag++b.ag,a.vals++b.vals,[]⟩,b,0,true)
  else(⟨true,(a.ag++b.ag).take ((a.ag++b.ag).length/2),(a.vals++b.vals).take ((a.ag++b.ag).length/2),[]⟩,⟨true,(a.ag++b.ag).drop ((a.ag++b.ag).length/2),(a.vals++b.vals).drop ((a.ag++b.ag).length/2),[]⟩,(a.ag++b.ag).getD ((a.ag++b.ag).length/2) 0,false)
 else
  if (a.ak++b.ak).length<=40 then(⟨false,a.ag++κ::b.ag,[],a.ak++b.ak⟩,b,0,true)
  else(⟨false,(a.ag++κ::b.ag).take ((a.ak++b.ak).length/2-1),[],(a.ak++b.ak).take ((a.ak++b.ak).length/2)⟩,⟨false,(a.ag++κ::b.ag).drop ((a.ak++b.ak).length/2),[],(a.ak++b.ak).drop ((a.ak++b.ak).length/2)⟩,(a.ag++κ::b.ag).getD ((a.ak++b.ak).length/2-1) 0,false)
def yQ(n i:Nat):Nat:=if i=n-1 then i-1 else i
inductive eU(k:UInt64):Nat->AP->Nat->AP->Bool->Bool->Prop
 | none {A:AP} {pg:Nat} {ks vs:List UInt64}:aB A pg=some ⟨true,ks,vs,[]⟩->k∉ks->eU k 0 A pg A false false
 | leaf {A:AP} {pg i:Nat} {ks vs:List UInt64}:aB A pg=some ⟨true,ks,vs,[]⟩->ks[i]?=some k->eU k 0 A pg (A.ax pg (aX (A.c pg) ⟨true,ks.take i++ks.drop (i+1),vs.take i++vs.drop (i+1),[]⟩)) true (decide (Y ks-1<15))
 | O6 {d:Nat} {A B:AP} {pg i c:Nat} {ag:List UInt64} {r:List Nat} {was:Bool}:aB A pg=some ⟨false,ag,[],r⟩->dQ ag k i->r[i]?=some c->eU k d A c B was false->eU k (d+1) A pg B was false
 | even {d:Nat} {A e h:AP} {pg i c m f g:Nat} {ag:List UInt64} {r:List Nat} {was:Bool} {a b j l:Nd} {κ dZ:UInt64}:aB A pg=some ⟨false,ag,[],r⟩->dQ ag k i->r[i]?=some c->eU k d A c e was true ->
   m=yQ (Y r) i->r[m]?=some f->r[m+1]?=some g->ag[m]?=some κ->aB e f=some a->aB e g=some b->iF a b κ=(j,l,dZ,false)->h=(e.ax f (aX (e.c f) j)).ax g (aX ((e.ax f (aX (e.c f) j)).c g) l) ->
   eU k (d+1) A pg (h.ax pg (aX (h.c pg) ⟨false,ag.set m dZ,[],r⟩)) was (decide (Y r<20))
 | join {d:Nat} {A e h:AP} {pg i c m f g:Nat} {ag:List UInt64} {r:List Nat} {was:Bool} {a b j l:Nd} {κ dZ:UInt64}:aB A pg=some ⟨false,ag,[],r⟩->dQ ag k i->r[i]?=some c->eU k d A c e was true ->
   m=yQ (Y r) i->r[m]?=some f->r[m+1]?=some g->ag[m]?=some κ->aB e f=some a->aB e g=some b->iF a b κ=(j,l,dZ,true)->h=(e.ax f (aX (e.c f) j)).give g->Y r≠2 ->
   eU k (d+1) A pg (h.ax pg (aX (h.c pg) ⟨false,ag.take m++ag.drop (m+1),[],r.take (m+1)++r.drop (m+2)⟩)) was (decide (Y r-1<20))
 | lift {d:Nat} {A e h:AP} {pg i c m f g:Nat} {ag:List UInt64} {r:List Nat} {was:Bool} {a b j l:Nd} {κ dZ:UInt64}:aB A pg=some ⟨false,ag,[],r⟩->dQ ag k i->r[i]?=some c->eU k d A c e was true ->
   m=yQ (Y r) i->r[m]?=some f->r[m+1]?=some g->ag[m]?=some κ->aB e f=some a->aB e g=some b->iF a b κ=(j,l,dZ,true)->h=(e.ax f (aX (e.c f) j)).give g->Y r=2 ->
   eU k (d+1) A pg ((h.ax pg (aX (h.c pg) j)).give f) was true
structure dA(A B:AP)(ps gone:List Nat):Prop where
 reach:A.Reach B
 has:∀p,B.Has p↔A.Has p/\p∉gone
 same:∀p,B.Has p->p∉ps->B.c p=A.c p
 aQ:A.aQ<=B.aQ/\(A.op=none->B.aQ=A.aQ+Y gone)
 dV:∀p,B.Has p->(B.c p).length=504
 shut:B.op=none↔A.op=none
theorem GF(A:AP)(p:Nat)(s:List UInt8):(A.ax p s).op=none↔A.op=none:=by
 show(A.keep p).op=none↔_;unfold AP.keep
 cases h:A.op<;>simp
theorem rK(A:AP)(p:Nat):(A.give p).op=none↔A.op=none:=by
 unfold AP.give
 cases A.op<;>simp
theorem dA.trans{j:List Nat}(h:dA A B ps gone)(g:dA B C ps2 j)(k:∀p∈ps2,p∈ps):dA A C ps (gone++j):=by
 refine⟨h.reach.trans g.reach,λ p=>?_,λ p f e=>?_,⟨aT h.aQ.1 g.aQ.1,λ i=>?_⟩,g.dV,g.shut.trans h.shut⟩
 ·rw[g.has,h.has,dm]
  constructor
  ·rintro⟨⟨a,b⟩,c⟩;exact⟨a,λ d=>by rcases d with d|d;exact b d;exact c d⟩
  rintro⟨a,b⟩;exact⟨⟨a,λ d=>b (O d)⟩,λ d=>b (al d)⟩
 ·rw[g.same p f (λ l=>e (k p l)),h.same p ((g.has p).1 f).1 e]
 have:=h.aQ.2 i;have:=g.aQ.2 (h.shut.2 i);rw[zl];omega
theorem dA.wider(h:dA A B ps gone)(c:∀p∈ps,p∈ps2):dA A B ps2 gone:=⟨h.reach,h.has,λ p d a=>h.same p d (λ b=>a (c p b)),h.aQ,h.dV,h.shut⟩
theorem dA.good(h:dA A B ps gone)(g:A.Good):B.Good:=h.reach.good g
theorem dA.refl(a:∀p,A.Has p->(A.c p).length=504)(ps:List Nat):dA A A ps []:=⟨AP.Reach.refl A,λ p=>by simp,λ _ _ _=>rfl,⟨aH _,λ _=>rfl⟩,a,Iff.rfl⟩
theorem dA.ax{s:List UInt8}(d:A.Has pg)(f:∀p,A.Has p->(A.c p).length=504)(c:Y s=504):dA A (A.ax pg s) [pg] []:=by
 refine⟨(AP.Reach.refl A).ax d s,λ p=>by rw[AP.aC];simp,λ p _ a=>?_,⟨aH _,λ _=>rfl⟩,λ p b=>?_,GF A pg s⟩
 ·rw[AP.aL,aE];simp at a;exact λ e=>a e.symm
 rw[AP.aL]
 split
 ·exact c
 exact f p (AP.aC.1 b)
theorem dA.give(f:A.Good)(a:A.Has pg)(g:∀p,A.Has p->(A.c p).length=504):dA A (A.give pg) [] [pg]:=by
 obtain⟨_,b,e,d⟩:=f.give a;refine⟨(AP.Reach.refl A).give a,λ p=>by rw[b];simp,λ p _ _=>by rw[AP.kH],⟨e,d⟩,λ p c=>?_,rK A pg⟩;rw[AP.kH];exact g p ((b p).1 c).1
theorem Tr.O7(c:Tr (aB A) d s)(g:dA A B ps gone)(h:∀p∈s.ps,B.Has p)(hd:∀p∈s.ps,p∉ps):Tr (aB B) d s/\(ji (aB A) s.pg->ji (aB B) s.pg):=by
 have a:∀p∈s.ps,aB B p=aB A p:=λ p b=>by unfold aB;rw[g.same p (h p b) (hd p b)]
 refine⟨Tr.same d s c a,λ ⟨x,e,f⟩=>⟨x,(a _ c.mem).trans e,f⟩⟩
theorem Rm{c:Type}{l:List c}{a b:c}(h:l[m]?=some a)(g:l[m+1]?=some b):l=l.take m++a::b::l.drop (m+2):=by
 have e:=Jf h;have f:(l.drop (m+1))[0]?=some b:=by rw[eP];exact g
 have d:=Jf f;rw[kU,iQ,lq]at d
 conv=>lhs;rw[e,d]
theorem jH.Jk(h:jH P ag ah)(e:ah[m]?=some a)(c:ah[m+1]?=some b)(d:ag[m]?=some κ) :
  qA ag ah=nG (ag.take m) (ah.take m)++ .s a:: .k κ:: .s b::mM (ag.drop (m+1)) (ah.drop (m+2)):=by
 have g:=h.len;have f:=(dz.1 c).1
 conv=>lhs;rw[Rm e c,Jf d]
 exact Gr _ _ (κ::ag.drop (m+1)) a (b::ah.drop (m+2)) (by rw[zt,zt];omega) (by rw[dF,dF,zd,zd];omega)
theorem It.BG(e:It.R w (.s a))(g:It.R w (.s b))(i:∀x∈c.l,x∈a.l\/x∈b.l):It.R w (.s c):=by
 cases w with
 | s u=>
  intro x f y d;rcases i y d with h|h
  ·exact e x f y h
  exact g x f y h
 | k κ=>
  intro y d;rcases i y d with h|h
  ·exact e y h
  exact g y h
theorem It.wu(e:It.R (.s a) w)(f:It.R (.s b) w)(g:∀x∈c.l,x∈a.l\/x∈b.l):It.R (.s c) w:=by
 cases w with
 | s u=>
  intro x i y d;rcases g x i with h|h
  ·exact e x h y d
  exact f x h y d
 | k κ=>
  intro y d;rcases g y d with h|h
  ·exact e y h
  exact f y h
theorem jH.one(h:jH P ag ah)(p:ah[m]?=some a)(k:ah[m+1]?=some b)(o:ag[m]?=some κ)(s:c.l=a.l++b.l)(r:P c):jH P (ag.take m++ag.drop (m+1)) (ah.take m++c::ah.drop (m+2)):=by
 have y:=h.len;have A:=(dz.1 k).1;have i:=h.ord;rw[h.Jk p k o]at i;simp only[List.pairwise_append,cu]at i;obtain⟨t,⟨n,z,v,q⟩,f⟩:=i;have j:∀x∈c.l,x∈a.l\/x∈b.l:=λ x l=>by rw[s]at l;exact dm.1 l
 refine⟨by rw[zl,zl,dF,zt,zd,zt,zd];omega,?_,λ u d=>?_⟩
 ·rw[Gr _ _ _ _ _ (by rw[zt,zt];omega) (by rw[zd,zd];omega),List.pairwise_append,cu];refine⟨t,⟨λ w e=>It.wu (n w (by simp[e])) (v w e) j,q⟩,λ w e it' g=>?_⟩;rcases aN.1 g with rfl|g
  ·exact It.BG (f w e _ (by simp)) (f w e _ (by simp)) j
  exact f w e it' (by simp[g])
 rcases dm.1 d with d|d
 ·exact h.all u (jw d)
 rcases aN.1 d with rfl|d
 ·exact r
 exact h.all u (jQ d)
theorem jH.share(h:jH P ag ah)(O:ah[m]?=some a)(F:ah[m+1]?=some b)(G:ag[m]?=some κ){e:Sb}(H:c.l++e.l=a.l++b.l)(M:c.l≠[])(Q:e.l≠[])(p:∀x∈c.l,x.1.toNat<dZ.toNat)(v:∀x∈e.l,dZ.toNat<=x.1.toNat)(K:P c)(S:P e) :
  jH P (ag.set m dZ) (ah.take m++c::e::ah.drop (m+2)):=by
 have V:=h.len;have X:=(dz.1 F).1;have N:=(dz.1 G).1;have B:=h.ord;rw[h.Jk O F G]at B;simp only[List.pairwise_append,cu]at B;obtain⟨U,⟨C,W,J,R⟩,l⟩:=B;have E:∀x∈c.l,x∈a.l\/x∈b.l:=λ x f=>dm.1 (by rw[<-H];simp[f]);have I:∀x∈e.l,x∈a.l\/x∈b.l:=λ x f=>dm.1 (by rw[<-H];simp[f]);obtain⟨q,t⟩:=sN _ M;obtain⟨o,r⟩:=sN _ Q;have T:ag.set m dZ=ag.take m++dZ::ag.drop (m+1):=by rw[List.set_eq_take_append_cons_drop,be N]
 have A:∀w∈nG (ag.take m) (ah.take m),It.R w (.s c)/\It.R w (.k dZ)/\It.R w (.s e):=λ w d=>by
  have n:=It.BG (l w d _ (by simp)) (l w d (.s b) (by simp)) E;have j:=It.BG (l w d (.s a) (by simp)) (l w d (.s b) (by simp)) I;refine⟨n,?_,j⟩
  cases w with
  | s u=>exact λ x f=>by have:=n x f q t;have:=p q t;omega
  | k D=>
   have:=n q t;have:=p q t;show D.toNat<dZ.toNat;omega
 have z:∀w∈mM (ag.drop (m+1)) (ah.drop (m+2)),It.R (.s c) w/\It.R (.k dZ) w/\It.R (.s e) w:=λ w d=>by
  have n:=It.wu (C w (by simp[d])) (J w d) E;have j:=It.wu (C w (by simp[d])) (J w d) I;refine⟨n,?_,j⟩
  cases w with
  | s u=>exact λ x f=>by have:=j o r x f;have:=v o r;omega
  | k D=>
   have:=j o r;have:=v o r;show dZ.toNat<D.toNat;omega
 rw[T];refine⟨by rw[zl,zl,dF,dF,dF,zt,zd,zt,zd];omega,?_,λ u g=>?_⟩
 ·rw[Gr _ _ (dZ::ag.drop (m+1)) c (e::ah.drop (m+2)) (by rw[zt,zt];omega) (by rw[dF,dF,zd,zd];omega)];show(nG (ag.take m) (ah.take m)++ .s c:: .k dZ:: .s e::mM (ag.drop (m+1)) (ah.drop (m+2))).Pairwise It.R;simp only[List.pairwise_append,cu];refine⟨U,⟨λ w d=>?_,λ w d=>?_,λ w d=>(z w d).2.2,R⟩,λ w d it' i=>?_⟩
  ·rcases aN.1 d with rfl|d
   ·exact p
   rcases aN.1 d with rfl|d
   ·exact λ x f y L=>by have:=p x f;have:=v y L;omega
   exact(z w d).1
  ·rcases aN.1 d with rfl|d
   ·exact v
   exact(z w d).2.1
  rcases aN.1 i with rfl|i
  ·exact(A w d).1
  rcases aN.1 i with rfl|i
  ·exact(A w d).2.1
  rcases aN.1 i with rfl|i
  ·exact(A w d).2.2
  exact l w d it' (by simp[i])
 rcases dm.1 g with g|g
 ·exact h.all u (jw g)
 rcases aN.1 g with rfl|g
 ·exact K
 rcases aN.1 g with rfl|g
 ·exact S
 exact h.all u (jQ g)
theorem jV.app{a b:List UInt64}(l:jV a)(g:jV b)(h:∀x∈a,∀y∈b,x.toNat<y.toNat):jV (a++b):=by
 intro i j x y f c d;by_cases e:j<Y a
 ·rw[bR Z]at c;rw[bR e]at d;exact l i j x y f c d
 rw[bZ Z]at d;by_cases k:i<Y a
 ·rw[bR k]at c;exact h x (dU c) y (dU d)
 rw[bZ Z]at c;exact g (i-Y a) (j-Y a) x y Z c d
theorem VT(c:Y vs=Y ks){x:UInt64}(a:x∈ks):∃v,(x,v)∈ks.zip vs:=by
 obtain⟨i,b,e⟩:=fU a;refine⟨vs[i]'Z,?_⟩;rw[<-e];exact List.mem_of_getElem (i:=i) (h:=by rw[List.length_zip];omega) (by rw[List.getElem_zip])
theorem VU:∀(ks vs:List UInt64) (n:Nat),(ks.take n).zip (vs.take n)++(ks.drop n).zip (vs.drop n)=ks.zip vs
 | ks,vs,0=>by simp
 | [],vs,n+1=>by simp
 | k::ks,[],n+1=>by simp
 | k::ks,v::vs,n+1=>by
  have:=VU ks vs n;simp only[List.take_succ_cons,List.drop_succ_cons,List.zip_cons_cons,lS,this]
theorem cJ(a:Y vs=Y ks)(h:0<Y ks):ks.zip vs≠[]:=λ e=>by
 have:=congrArg List.length e;rw[List.length_zip,List.length_nil]at this;omega
def VV(xa xb:Nd):Prop:=(xa.leaf=true->29<=Y xa.ag+Y xb.ag)/\(xa.leaf=false->31<=Y xa.ak+Y xb.ak)
theorem Ro{y:Nd}{one:Bool}(ha:Tr f d a)(hb:Tr f d b)(B:(a.ps++b.ps).Nodup)(h3:f a.pg=some xa)(U:f b.pg=some xb)(fa:Fits xa)(fb:Fits xb)(V:∀x∈a.l,x.1.toNat<κ.toNat)(hr:∀x∈b.l,κ.toNat<=x.1.toNat)(hn:VV xa xb)(v:iF xa xb κ=(x,y,dZ,one)) :
  (one=true->Fits x/\tH x/\∀g:Nat->Option Nd,g a.pg=some x->(∀p∈a.ps++b.ps,p≠a.pg->p≠b.pg->g p=f p)->∃c,Tr g d c/\c.pg=a.pg/\c.l=a.l++b.l/\c.ps.Nodup/\∀p,p∈c.ps↔p∈a.ps++b.ps/\p≠b.pg) /\
  (one=false->Fits x/\Fits y/\tH x/\tH y/\∀g:Nat->Option Nd,g a.pg=some x->g b.pg=some y->(∀p∈a.ps++b.ps,p≠a.pg->p≠b.pg->g p=f p)->∃c e,Tr g d c/\Tr g d e/\c.pg=a.pg/\e.pg=b.pg/\c.l++e.l=a.l++b.l/\c.l≠[]/\e.l≠[] /\
   (∀x∈c.l,x.1.toNat<dZ.toNat)/\(∀x∈e.l,dZ.toNat<=x.1.toNat)/\(c.ps++e.ps).Nodup/\∀p,p∈c.ps++e.ps↔p∈a.ps++b.ps):=by
 cases d with
 | zero=>
  obtain⟨m,E,a1,J,S,H,a5⟩:=ha;obtain⟨o,C,b1,L,T,G,b5⟩:=hb;rw[a1]at h3;rw[b1]at U;obtain rfl:=bf h3;obtain rfl:=bf U;obtain⟨fa1,_,_⟩:=fa.leaf rfl;obtain⟨R,_,_⟩:=fb.leaf rfl;have hv:=hn.1 rfl;dsimp only at fa1 R hv;have I:a.pg≠b.pg:=λ e=>by rw[a5,b5,e]at B;simp at B
  have X:jV (m++o):=S.app T (λ u F w z=>by
   obtain⟨v1,h1⟩:=VT J F;obtain⟨v2,h2⟩:=VT L z;have:=V _ (H▸h1);have:=hr _ (G▸h2);dsimp only at *;omega)
  have W:(m++o).zip (E++C)=a.l++b.l:=by rw[List.zip_append J.symm,H,G]
  unfold iF at v;rw[be rfl]at v;dsimp only at v;have hm:(E++C).length=(m++o).length:=by rw[zl,zl];omega
  have hy:(m++o).length=Y m+Y o:=zl;by_cases K:Y m+Y o<=30
  ·rw[be K]at v;obtain⟨rfl,rfl,rfl,rfl⟩:_/\_/\_/\_:=by simpa using v
   refine⟨λ _=>⟨⟨λ _=>⟨by dsimp only;omega,hm,rfl⟩,(λ h=>by cases h)⟩,⟨λ _=>by dsimp only;omega,(λ h=>by cases h)⟩,λ g A _=>⟨⟨a.pg,(m++o).zip (E++C),[a.pg]⟩,⟨_,_,A,hm,X,rfl,rfl⟩,rfl,W,by simp,λ p=>?_⟩⟩,(λ h=>by cases h)⟩;rw[a5,b5];simp
   constructor
   ·rintro rfl;exact⟨O rfl,I⟩
   rintro⟨rfl|rfl,h⟩
   ·rfl
   exact absurd rfl h
  rw[aE K]at v;obtain⟨rfl,rfl,rfl,rfl⟩:_/\_/\_/\_:=by simpa only[Prod.mk.injEq]using v
  obtain⟨n,h8⟩:∃n,(m++o).length/2=n:=⟨_,rfl⟩;rw[h8];have hh:=VQ (vs:=E++C) X (h:=n) Z;have e1:((E++C).take n).length=((m++o).take n).length:=by rw[zt,zt];omega
  have e2:((E++C).drop n).length=((m++o).drop n).length:=by rw[zd,zd];omega
  have l1:((m++o).take n).length=n:=by rw[zt];omega
  have l2:((m++o).drop n).length=Y m+Y o-n:=by rw[zd];omega
  refine⟨(λ h=>by cases h),λ _=>⟨⟨λ _=>⟨by dsimp only;omega,e1,rfl⟩,(λ h=>by cases h)⟩,⟨λ _=>⟨by dsimp only;omega,e2,rfl⟩,(λ h=>by cases h)⟩,⟨λ _=>by dsimp only;omega,(λ h=>by cases h)⟩,⟨λ _=>by dsimp only;omega,(λ h=>by cases h)⟩,λ g A h4 _=>
   ⟨⟨a.pg,((m++o).take n).zip ((E++C).take n),[a.pg]⟩,⟨b.pg,((m++o).drop n).zip ((E++C).drop n),[b.pg]⟩,⟨_,_,A,e1,X.take n,rfl,rfl⟩,⟨_,_,h4,e2,X.drop n,rfl,rfl⟩,rfl,rfl,(VU _ _ _).trans W,cJ e1 Z,cJ e2 Z,hh.1,hh.2,by simp[I],λ p=>by rw[a5,b5]⟩⟩⟩
 | succ d=>
  obtain⟨m,i,a1,J,S,H⟩:=ha;obtain⟨o,j,b1,L,T,G⟩:=hb;rw[a1]at h3;rw[b1]at U;obtain rfl:=bf h3;obtain rfl:=bf U;obtain⟨fa1,fa2,fa3,_,fa5⟩:=fa.inner rfl;obtain⟨R,hi,hg,_,hl⟩:=fb.inner rfl;have he:=hn.2 rfl;dsimp only at fa1 fa2 fa3 fa5 R hi hg hl he;rw[bS]at fa1 fa2 fa3 R hi hg;rw[bS,bS]at he;rw[H,G]at B;have I:a.pg≠b.pg:=λ e=>(bN.1 B).2.2 a.pg (by simp) b.pg (by simp) e;have h9:a.pg∉dP i:=(eD.1 (bN.1 B).1).1;have h7:b.pg∉dP j:=(eD.1 (bN.1 B).2.1).1;have O8:a.pg∉dP j:=λ h=>(bN.1 B).2.2 a.pg (by simp) a.pg (by simp[h]) rfl;have Jl:b.pg∉dP i:=λ h=>(bN.1 B).2.2 b.pg (by simp[h]) b.pg (by simp) rfl;have ne1:∀s∈i,s.l≠[]:=λ s r Q=>by have:=(J.all s r).1.many _ _ (J.all s r).2;rw[Q]at this;simp at this
  have hs:∀s∈j,s.l≠[]:=λ s r Q=>by have:=(L.all s r).1.many _ _ (L.all s r).2;rw[Q]at this;simp at this
  have hj:=J.join L (κ:=κ) ne1 hs (by rw[<-S];exact V) (by rw[<-T];exact hr);have hk:ik (i++j)=a.l++b.l:=by rw[CV,S,T]
  have h0:dP (i++j)=dP i++dP j:=uO _ _;have hz:(i++j).length=Y i+Y j:=zl;have qQ:(i.map Sb.pg++j.map Sb.pg).length=Y i+Y j:=by rw[zl,bS,bS]
  have hy:(m++κ::o).length=Y m+Y o+1:=by rw[zl,dF];omega
  have h6:i.map Sb.pg++j.map Sb.pg=(i++j).map Sb.pg:=dI.symm
  have Jm:∀k∈i.map Sb.pg++j.map Sb.pg,k<4294967296:=λ k N=>by
   rcases dm.1 N with h|h
   ·exact fa5 k h
   exact hl k h
  have ht:∀g:Nat->Option Nd,(∀p∈a.ps++b.ps,p≠a.pg->p≠b.pg->g p=f p)->jH (λ t=>Tr g d t/\ji g t.pg) (m++κ::o) (i++j):=λ g A=>hj.imp (λ s r ⟨hT,x,hx,hF⟩=>by
   have ho:∀p∈s.ps,g p=f p:=λ p hp=>by
    have D:p∈dP i++dP j:=by rw[<-h0];exact xH r hp
    refine A p ?_ ?_ ?_
    ·rw[H,G];rcases dm.1 D with h|h
     ·simp[h]
     simp[h]
    ·rintro rfl;rcases dm.1 D with h|h
     ·exact h9 h
     exact O8 h
    rintro rfl;rcases dm.1 D with h|h
    ·exact Jl h
    exact h7 h
   exact⟨Tr.same d s hT ho,x,(ho _ hT.mem).trans hx,hF⟩)
  have h5:(a.pg::b.pg::dP (i++j)).Nodup:=by
   rw[h0];refine eD.2 ⟨?_,eD.2 ⟨?_,?_⟩⟩
   ·simp[I,h9,O8]
   ·simp[h7,Jl]
   have:=B;rw[bN]at this ⊢;obtain⟨q1,P,M⟩:=this;exact⟨(eD.1 q1).2,(eD.1 P).2,λ u F w z=>M u (by simp[F]) w (by simp[z])⟩
  unfold iF at v;rw[aE (by simp)]at v;dsimp only at v;by_cases K:(i.map Sb.pg++j.map Sb.pg).length<=40
  ·rw[be K]at v;obtain⟨rfl,rfl,rfl,rfl⟩:_/\_/\_/\_:=by simpa only[Prod.mk.injEq]using v
   refine⟨λ _=>⟨⟨(λ h=>by cases h),λ _=>⟨by dsimp only;omega,by dsimp only;omega,K,rfl,Jm⟩⟩,⟨(λ h=>by cases h),λ _=>by dsimp only;omega⟩,λ g A r=>⟨⟨a.pg,ik (i++j),a.pg::dP (i++j)⟩,⟨_,_,by rw[<-h6];exact A,ht g r,rfl,rfl⟩,rfl,hk,?_,λ p=>?_⟩⟩,(λ h=>by cases h)⟩
   ·have:=eD.1 h5;exact eD.2 ⟨λ h=>this.1 (by simp[h]),(eD.1 this.2).2⟩
   rw[H,G];dsimp only;rw[h0];simp only[aN,dm]
   constructor
   ·rintro(rfl|h|h)
    ·exact⟨O (O rfl),I⟩
    ·exact⟨O (al h),λ e=>Jl (e▸h)⟩
    exact⟨al (al h),λ e=>h7 (e▸h)⟩
   rintro⟨(h|h)|h|h,hn⟩
   ·exact O h
   ·exact al (O h)
   ·exact absurd h hn
   exact al (al h)
  rw[aE K]at v;obtain⟨rfl,rfl,rfl,rfl⟩:_/\_/\_/\_:=by simpa only[Prod.mk.injEq]using v
  obtain⟨n,h8⟩:∃n,(i.map Sb.pg++j.map Sb.pg).length/2=n:=⟨_,rfl⟩;rw[h8]
  have ek:m++κ::o=(m++κ::o).take (n-1)++(m++κ::o).getD (n-1) 0::(m++κ::o).drop n:=by
   have:=gZ (n-1) (m++κ::o);rw[jY Z,show n-1+1=n from Z]at this;rw[fV,bK Z];exact this.symm
  have es:i++j=(i++j).take n++(i++j).drop n:=(gZ n _).symm;have l1:((i++j).take n).length=n:=by rw[zt];omega
  have l2:((i++j).drop n).length=Y i+Y j-n:=by rw[zd];omega
  have m1:((i.map Sb.pg++j.map Sb.pg).take n).length=n:=by rw[zt];omega
  have m2:((i.map Sb.pg++j.map Sb.pg).drop n).length=Y i+Y j-n:=by rw[zd];omega
  have k1:((m++κ::o).take (n-1)).length=n-1:=by rw[zt];omega
  have k2:((m++κ::o).drop n).length=Y m+Y o+1-n:=by rw[zd];omega
  refine⟨(λ h=>by cases h),λ _=>⟨⟨(λ h=>by cases h),λ _=>⟨by dsimp only;omega,by dsimp only;omega,by dsimp only;omega,rfl,λ k N=>Jm k (jw N)⟩⟩,⟨(λ h=>by cases h),λ _=>⟨by dsimp only;omega,by dsimp only;omega,by dsimp only;omega,rfl,λ k N=>Jm k (jQ N)⟩⟩,
   ⟨(λ h=>by cases h),λ _=>by dsimp only;omega⟩,⟨(λ h=>by cases h),λ _=>by dsimp only;omega⟩,λ g A h4 r=>?_⟩⟩
  have hq:=ht g r;rw[ek,es]at hq;obtain⟨i1,i2,i3,i4⟩:=hq.Gt (by rw[l1,k1];omega)
  have hc:∀(l:List Sb),(∀s∈l,s∈i++j)->0<Y l->ik l≠[]:=λ l V Q e=>by
   obtain⟨s,r⟩:=List.exists_mem_of_length_pos Q;have hw:=V s r
   have:s.l≠[]:=by
    rcases dm.1 hw with h|h
    ·exact ne1 s h
    exact hs s h
   obtain⟨hu,W⟩:=sN _ this;have:hu∈ik l:=List.mem_flatMap.2 ⟨s,r,W⟩;rw[e]at this
   cases this
  refine⟨⟨a.pg,ik ((i++j).take n),a.pg::dP ((i++j).take n)⟩,⟨b.pg,ik ((i++j).drop n),b.pg::dP ((i++j).drop n)⟩,⟨_,_,by rw[List.map_take,<-h6];exact A,i1,rfl,rfl⟩,⟨_,_,by rw[List.map_drop,<-h6];exact h4,i2,rfl,rfl⟩,rfl,rfl,?_,hc _ (λ s r=>jw r) Z,hc _ (λ s r=>jQ r) Z,i3,i4,?_,λ p=>?_⟩
  ·dsimp only;rw[<-CV,<-es,hk]
  ·dsimp only;rw[es,uO]at h5;have q:=eD.1 h5;have P:=eD.1 q.2;have M:=bN.1 P.2;rw[bN];refine⟨eD.2 ⟨λ h=>q.1 (by simp[h]),M.1⟩,eD.2 ⟨λ h=>P.1 (by simp[h]),M.2.1⟩,λ u F w z e=>?_⟩;rcases aN.1 F with rfl|F
   ·rcases aN.1 z with rfl|z
    ·exact I e
    exact q.1 (by rw[e];simp[z])
   rcases aN.1 z with rfl|z
   ·exact P.1 (by rw[<-e];simp[F])
   exact M.2.2 u F w z e
  dsimp only;rw[H,G]
  have D:p∈dP i\/p∈dP j↔p∈dP ((i++j).take n)\/p∈dP ((i++j).drop n):=by
   rw[<-dm,<-dm,<-h0,<-uO,<-es]
  simp only[aN,dm]
  constructor
  ·rintro((h|h)|h|h)
   ·exact O (O h)
   ·rcases D.2 (O h)with h|h
    ·exact O (al h)
    exact al (al h)
   ·exact al (O h)
   rcases D.2 (al h)with h|h
   ·exact O (al h)
   exact al (al h)
  rintro((h|h)|h|h)
  ·exact O (O h)
  ·rcases D.1 (O h)with h|h
   ·exact O (al h)
   exact al (al h)
  ·exact al (O h)
  rcases D.1 (al h)with h|h
  ·exact O (al h)
  exact al (al h)
def wy(f:Nat->Option Nd)(p:Nat):Prop:=∃x,f p=some x/\(x.leaf=true->Y x.ag=14)/\(x.leaf=false->15<=Y x.ak/\Y x.ak<20)
structure xK(A B:AP)(d:Nat)(s:Sb)(k:UInt64)(was iB:Bool)(gone:List Nat):Prop where
 gz:dA A B s.ps gone
 sub:∀p∈gone,p∈s.ps/\p≠s.pg
 fA:gone.Nodup
 tree:∃a t,Tr (aB B) a t/\t.pg=s.pg/\t.l=l9 s.l k/\t.ps.Nodup/\(∀p,p∈t.ps↔p∈s.ps/\p∉gone)/\(a=d\/(a+1=d/\¬ji (aB A) s.pg))
 size:ji (aB A) s.pg->(iB=false->ji (aB B) s.pg)/\(iB=true->wy (aB B) s.pg)
 was:was=true↔∃x∈s.l,x.1=k
structure Mid(A B:AP)(d:Nat)(s:Sb)(ag:List UInt64)(ah:List Sb)(k:UInt64)(gone:List Nat):Prop where
 nd:aB B s.pg=some ⟨false,ag,[],ah.map Sb.pg⟩
 lJ:jH (λ u=>Tr (aB B) d u) ag ah
 l:ik ah=l9 s.l k
 fA:(s.pg::dP ah).Nodup
 ps:∀p,p∈s.pg::dP ah↔p∈s.ps/\p∉gone
 gz:dA A B s.ps gone
 EL:∀p∈gone,p∈s.ps/\p≠s.pg
 oM:gone.Nodup
theorem Mid.has(h:Mid A B d s ag ah k gone)(e:∀p∈s.ps,A.Has p):∀p∈s.pg::dP ah,B.Has p:=λ p c=>by
 obtain⟨a,b⟩:=(h.ps p).1 c;exact(h.gz.has p).2 ⟨e p a,b⟩
theorem mn(h:ah[i]?=some t)(d:∀x∈ik (ah.take i),x.1.toNat<k.toNat)(c:∀x∈ik (ah.drop (i+1)),k.toNat<x.1.toNat):(∃x∈ik ah,x.1=k)↔∃x∈t.l,x.1=k:=by
 rw[Gs h]
 constructor
 ·rintro⟨x,b,e⟩;rcases dm.1 b with a|a
  ·have:=d x a;rw[e]at this;omega
  rcases dm.1 a with a|a
  ·exact⟨x,a,e⟩
  have:=c x a;rw[e]at this;omega
 rintro⟨x,b,e⟩;exact⟨x,by simp[b],e⟩
theorem O9(c:dR A d s ag ah i t)(v:dQ ag k i)(W:s.pg∈s.ps)(l:s.ps.Nodup)(y:∀p∈s.ps,A.Has p)(w:ji (aB A) t.pg)(g:xK A B d t k was iB gone) :
  ∃t',Mid A B d s ag (ah.take i++t'::ah.drop (i+1)) k gone/\t'.pg=t.pg/\(∀u∈ah.take i++ah.drop (i+1),ji (aB B) u.pg)/\(iB=false->ji (aB B) t.pg)/\(iB=true->wy (aB B) t.pg)/\(was=true↔∃x∈s.l,x.1=k):=by
 obtain⟨J,t',V,I,H,T,C,K⟩:=g.tree
 obtain rfl:J=d:=by
  rcases K with h|h
  ·exact h
  exact absurd w h.2
 obtain⟨z1,R⟩:=g.size w
 have F:=(c.lJ.imp (Q:=λ _=>True) (λ _ _ _=>trivial)).set c.at_ v (t:=t') (λ x G=>by
  rw[H]at G;exact O (GZ G)) trivial
 have n:∀p∈gone,p∈t.ps:=λ p f=>(g.sub p f).1
 have o:∀u∈ah.take i++ah.drop (i+1),Tr (aB B) J u/\ji (aB B) u.pg:=λ u m=>by
  have Q:u∈ah:=by
   rcases dm.1 m with h|h
   ·exact jw h
   exact jQ h
  obtain⟨a,b⟩:=c.lJ.all u Q;have r:=c.other l u m;obtain⟨P,U⟩:=Tr.O7 a g.gz (λ p f=>(g.gz.has p).2 ⟨y p (r p f).2.2,λ j=>(r p f).1 (n p j)⟩) (λ p f=>(r p f).1);exact⟨P,U b⟩
 have L:B.Has s.pg:=(g.gz.has _).2 ⟨y _ W,λ j=>c.ol l (n _ j)⟩;have N:aB B s.pg=aB A s.pg:=by unfold aB;rw[g.gz.same s.pg L (c.ol l)]
 have D:=KP (c.lJ.left c.at_ v.below);have E:=Rk (c.lJ.right c.at_ v.above);refine⟨t',⟨?_,⟨F.len,F.ord,λ u m=>?_⟩,?_,?_,λ p=>?_,g.gz.wider c.sub,λ p f=>⟨c.sub p (n p f),λ e=>c.ol l (e▸n p f)⟩,g.fA⟩,I,λ u m=>(o u m).2,z1,R,?_⟩
 ·rw[N,c.nd,Gu c.at_ I]
 ·rcases dm.1 m with h|h
  ·exact(o u (by simp[h])).1
  rcases aN.1 h with rfl|h
  ·exact V
  exact(o u (by simp[h])).1
 ·rw[c.l,Gs c.at_,CV,vw,H,gA D E]
 ·have:=O1 (new:=[]) (c.nodup l) T (λ p f=>O ((C p).1 f).1) (λ p f=>by cases f);rw[uO,vZ];exact this
 ·have z:=c.nodup l;rw[bN,bN]at z;obtain⟨Z,⟨X,Y,S⟩,M⟩:=z;rw[c.ps,Jg c.at_,uO,vZ,<-lS,<-lS,Rl,Rl,C p]
  constructor
  ·rintro((h|h)|⟨h,q⟩)
   ·exact⟨O (O h),λ j=>M p h p (by simp[n p j]) rfl⟩
   ·exact⟨O (al h),λ j=>S p (n p j) p h rfl⟩
   exact⟨al h,q⟩
  rintro⟨(h|h)|h,q⟩
  ·exact O (O h)
  ·exact O (al h)
  exact al ⟨h,q⟩
 rw[g.was,c.l];exact(mn c.at_ D E).symm
structure OA(B:AP)(d m:Nat)(ag:List UInt64)(ah:List Sb)(a b:Sb)(κ:UInt64)(xa xb:Nd):Prop where
 sa:ah[m]?=some a
 sb:ah[m+1]?=some b
 k:ag[m]?=some κ
 na:aB B a.pg=some xa
 nb:aB B b.pg=some xb
 many:VV xa xb
 rest:∀u∈ah.take m++ah.drop (m+2),ji (aB B) u.pg
theorem GR(l:f p=some xa)(k:f q=some xb)(c:xa.leaf=xb.leaf)(h:(wy f p/\ji f q)\/(ji f p/\wy f q)):VV xa xb:=by
 rcases h with⟨⟨x,a,i,j⟩,⟨y,b,d,g⟩⟩|⟨⟨x,a,d,g⟩,⟨y,b,i,j⟩⟩
 ·rw[l]at a;rw[k]at b;obtain rfl:=bf a;obtain rfl:=bf b;refine⟨λ e=>?_,λ e=>?_⟩
  ·have:=i e;have:=d (c▸e);omega
  have:=j e;have:=g (c▸e);omega
 rw[l]at a;rw[k]at b;obtain rfl:=bf a;obtain rfl:=bf b;refine⟨λ e=>?_,λ e=>?_⟩
 ·have:=d e;have:=i (c▸e);omega
 have:=g e;have:=j (c▸e);omega
theorem eR(i:Tr f d a)(g:Tr f d b)(e:f a.pg=some xa)(h:f b.pg=some xb):xa.leaf=xb.leaf:=by
 cases d with
 | zero=>
  obtain⟨_,_,c,_⟩:=i;obtain⟨_,_,b1,_⟩:=g;rw[e]at c;rw[h]at b1;rw[bf c,bf b1]
 | succ d=>
  obtain⟨_,_,c,_⟩:=i;obtain⟨_,_,b1,_⟩:=g;rw[e]at c;rw[h]at b1;rw[bf c,bf b1]
theorem Rq{v p:Nat}(y:ah[i]?=some t)(x:Mid A B d s ag (ah.take i++t'::ah.drop (i+1)) k gone)(r:t'.pg=t.pg)(n:∀u∈ah.take i++ah.drop (i+1),ji (aB B) u.pg)(E:wy (aB B) t.pg)(F:m=yQ (ah.map Sb.pg).length i)(C:(ah.map Sb.pg)[m]?=some v)(z:(ah.map Sb.pg)[m+1]?=some p)(H:ag[m]?=some κ)(q:aB B v=some xa)(w:aB B p=some xb) :
  ∃a b,a.pg=v/\b.pg=p/\OA B d m ag (ah.take i++t'::ah.drop (i+1)) a b κ xa xb:=by
 have M:=(dz.1 y).1;rw[<-Gu y r]at C z;obtain⟨a,g,K⟩:=KQ C;obtain⟨b,f,L⟩:=KQ z
 have G:m=i\/m+1=i:=by
  rw[F,bS];unfold yQ
  split<;>omega
 have D:(ah.take i++t'::ah.drop (i+1))[i]?=some t':=by
  rw[bZ (by rw[zt];omega),zt,gV Z,l7];rfl
 have l:∀(j:Nat) (u:Sb),j≠i->(ah.take i++t'::ah.drop (i+1))[j]?=some u->u∈ah.take i++ah.drop (i+1):=λ j u o c=>by
  rcases yu j i with h|h
  ·rw[bR (by rw[zt];omega)]at c;exact fw _ (dU c)
  rw[bZ (by rw[zt];omega),zt,gV Z,show j-i=(j-i-1)+1 from Z,oH]at c;exact lL _ (dU c)
 have J:=x.lJ.all a (dU g);have I:=x.lJ.all b (dU f);subst K L;refine⟨a,b,rfl,rfl,g,f,H,q,w,GR q w (eR J I q w) ?_,λ u c=>?_⟩
 rotate_left
 ·rcases dm.1 c with h|h
  ·obtain⟨j,o,e⟩:=fU h;rw[zt]at o;rw[List.getElem_take]at e;exact n u (l j u Z (by rw[bK Z,e]))
  obtain⟨j,o,e⟩:=fU h;rw[zd]at o;rw[List.getElem_drop]at e;exact n u (l (m+2+j) u Z (by rw[bK Z,e]))
 rcases G with rfl|h
 ·rw[D]at g;obtain rfl:=bf g;exact O ⟨by rw[r];exact E,n b (l (m+1) b Z f)⟩
 subst h;rw[D]at f;obtain rfl:=bf f;exact al ⟨n a (l m a Z g),by rw[r];exact E⟩
theorem Rs(c:ah[m]?=some a)(d:ah[m+1]?=some b):dP ah=dP (ah.take m)++((a.ps++b.ps)++dP (ah.drop (m+2))):=by
 conv=>lhs;rw[Rm c d]
 rw[uO,vZ,vZ,cO]
theorem VY(c:ah[m]?=some a)(d:ah[m+1]?=some b):ik ah=ik (ah.take m)++((a.l++b.l)++ik (ah.drop (m+2))):=by
 conv=>lhs;rw[Rm c d]
 rw[CV,vw,vw,cO]
structure BH(A B:AP)(d m:Nat)(s:Sb)(ag:List UInt64)(ah:List Sb)(a b:Sb)(κ:UInt64):Prop where
 ta:Tr (aB B) d a
 tb:Tr (aB B) d b
 fA:(a.ps++b.ps).Nodup
 lo:∀x∈a.l,x.1.toNat<κ.toNat
 hi:∀x∈b.l,κ.toNat<=x.1.toNat
 ne:a.pg≠b.pg
 na:a.pg≠s.pg
 nb:b.pg≠s.pg
 ha:a.pg∈s.pg::dP ah
 hb:b.pg∈s.pg::dP ah
 big:((s.pg::dP (ah.take m))++((a.ps++b.ps)++dP (ah.drop (m+2)))).Nodup
theorem Mid.xL(f:Mid A B d s ag ah k gone)(c:OA B d m ag ah a b κ xa xb):BH A B d m s ag ah a b κ:=by
 have h:=f.lJ.all a (dU c.sa);have j:=f.lJ.all b (dU c.sb);have g:=f.fA;rw[Rs c.sa c.sb,<-lS]at g;have r:=g;rw[bN,bN]at g;obtain⟨x,⟨o,u,v⟩,t⟩:=g;have i:=f.lJ.ord;rw[f.lJ.Jk c.sa c.sb c.k]at i;simp only[List.pairwise_append,cu]at i;obtain⟨z,⟨p,q,C,y⟩,w⟩:=i;have n:a.pg∈dP ah:=xH (dU c.sa) h.mem;have l:b.pg∈dP ah:=xH (dU c.sb) j.mem;refine⟨h,j,o,p (.k κ) (by simp),q (.s b) (by simp),λ e=>?_,λ e=>?_,λ e=>?_,cK _ n,cK _ l,r⟩
 ·exact(bN.1 o).2.2 a.pg h.mem b.pg j.mem e
 ·exact(eD.1 f.fA).1 (e▸n)
 exact(eD.1 f.fA).1 (e▸l)
theorem BH.other(h:BH A B d m s ag ah a b κ):∀u∈ah.take m++ah.drop (m+2),∀p∈u.ps,p∉a.ps++b.ps/\p≠s.pg:=by
 have i:=h.big;rw[bN,bN]at i;obtain⟨n,⟨o,q,l⟩,k⟩:=i;intro u c p j;rcases dm.1 c with c|c
 ·have f:=xH c j;exact⟨λ g=>k p (by simp[f]) p (fw _ g) rfl,λ e=>(eD.1 n).1 (e▸f)⟩
 have f:=xH c j;exact⟨λ g=>l p g p f rfl,λ e=>k s.pg (by simp) p (by simp[f]) e.symm⟩
theorem Tr.moved(h:Tr f d c)(o:f c.pg=some x)(r:g pg=some x)(w:∀p∈c.ps,p≠c.pg->g p=f p)(m:c.ps.Nodup):∃ps,Tr g d ⟨pg,c.l,pg::ps⟩/\c.ps=c.pg::ps:=by
 cases d with
 | zero=>
  obtain⟨ks,vs,i,k,l,j,u⟩:=h;rw[o]at i;obtain rfl:=bf i;exact⟨[],⟨ks,vs,r,k,l,j,rfl⟩,u⟩
 | succ d=>
  obtain⟨ag,ah,i,k,l,j⟩:=h;rw[o]at i;obtain rfl:=bf i;rw[j]at m;refine⟨dP ah,⟨ag,ah,r,k.imp (λ t n ⟨a,b⟩=>?_),l,rfl⟩,j⟩;have s:∀p∈t.ps,g p=f p:=λ p q=>w p (by rw[j];exact cK _ (xH n q)) (λ e=>(eD.1 m).1 (e▸xH n q));refine⟨Tr.same d t a s,?_⟩;obtain⟨y,e,v⟩:=b;exact⟨y,(s _ a.mem).trans e,v⟩
theorem px:p∈s.ps↔p∈s.ps/\p∉([]:List Nat):=by simp
theorem fm(a:Y vs=Y ks):(∃x∈ks.zip vs,x.1=k)↔k∈ks:=by
 constructor
 ·rintro⟨x,b,rfl⟩;exact(List.of_mem_zip b).1
 intro h;obtain⟨v,a⟩:=VT a h;exact⟨_,a,rfl⟩
theorem EW{e:Sb}(d:ah[m]?=some a)(g:ah[m+1]?=some b)(h:c.pg=a.pg)(f:e.pg=b.pg):(ah.take m++c::e::ah.drop (m+2)).map Sb.pg=ah.map Sb.pg:=by
 conv=>rhs;rw[Rm d g]
 simp only[dI,jr,h,f]
theorem ly(b:ah[m]?=some a)(e:c.pg=a.pg):(ah.take m++c::ah.drop (m+2)).map Sb.pg=(ah.map Sb.pg).take (m+1)++(ah.map Sb.pg).drop (m+2):=by
 have d:(ah.map Sb.pg).take (m+1)=(ah.map Sb.pg).take m++[a.pg]:=by
  rw[List.take_add_one,dL,b];rfl
 rw[d];simp only[dI,jr,e,List.map_take,List.map_drop,cO,lS,iQ]
theorem BD(b:(A.c p).length=504)(a:Fits x):aB (A.ax p (aX (A.c p) x)) q=if p=q then some x else aB A q:=by
 unfold aB;rw[AP.aL]
 split
 ·exact Ib _ _ Z a
 rfl
theorem Ry:aB (A.give p) q=aB A q:=by unfold aB;rw[AP.kH]
theorem gC(h:eU k d A pg B was iB):∀s,Tr (aB A) d s->s.pg=pg->s.ps.Nodup->(∀p∈s.ps,A.Has p)->A.Good->(∀p,A.Has p->(A.c p).length=504)->∃gone,xK A B d s k was iB gone:=by
 induction h with
 | @none A pg ks vs E x8=>
  intro s G X Q o T U;subst X;obtain⟨ks',vs',D,F,h3,h4,h5⟩:=id G;rw[E]at D
  injection bf D with _ e1 e2 _
  subst e1 e2;refine⟨[],⟨dA.refl U _,(λ p f=>by cases f),List.nodup_nil,⟨0,s,G,rfl,?_,Q,λ p=>px,O rfl⟩,λ hf=>⟨λ _=>hf,(λ h=>by cases h)⟩,?_⟩⟩
  ·rw[h4];exact(EY x8).symm
  rw[h4,fm F];simp[x8]
 | @leaf A pg i ks vs E hk=>
  intro s G X Q o T U;subst X;obtain⟨ks',vs',D,F,h3,h4,h5⟩:=G;rw[E]at D
  injection bf D with _ e1 e2 _
  subst e1 e2;have f:=o s.pg (by rw[h5];simp);have hi:=(dz.1 hk).1;have xf:=(lI E).leaf rfl;dsimp only at xf;have lk:(ks.take i++ks.drop (i+1)).length=Y ks-1:=by simp;omega
  have lv:(vs.take i++vs.drop (i+1)).length=Y ks-1:=by simp;omega
  have hz:Fits ⟨true,ks.take i++ks.drop (i+1),vs.take i++vs.drop (i+1),[]⟩:=⟨λ _=>⟨by dsimp only;omega,by dsimp only;omega,rfl⟩,(λ h=>by cases h)⟩;have x9:=U _ f;have hB:aB (A.ax s.pg (aX (A.c s.pg) ⟨true,ks.take i++ks.drop (i+1),vs.take i++vs.drop (i+1),[]⟩)) s.pg=some ⟨true,ks.take i++ks.drop (i+1),vs.take i++vs.drop (i+1),[]⟩:=by rw[BD x9 hz,be rfl]
  refine⟨[],⟨by rw[h5];exact dA.ax f U (by rw[uL _ _ Z hz,x9]),(λ p f=>by cases f),List.nodup_nil,⟨0,⟨s.pg,(ks.take i++ks.drop (i+1)).zip (vs.take i++vs.drop (i+1)),[s.pg]⟩,⟨_,_,hB,Z,h3.drop_one i hi,rfl,rfl⟩,rfl,?_,by simp,λ p=>by rw[h5];simp,O rfl⟩,λ hf=>⟨λ h0=>⟨_,hB,λ _=>?_,(λ h=>by cases h)⟩,λ h0=>⟨_,hB,λ _=>?_,(λ h=>by cases h)⟩⟩,?_⟩⟩
  ·rw[h4];exact(nS h3 hk F).symm
  ·dsimp only;have:¬(Y ks-1<15):=by simpa using h0
   omega
  ·dsimp only;have xk:Y ks-1<15:=by simpa using h0
   obtain⟨x,R,hg,_⟩:=hf;rw[E]at R;obtain rfl:=bf R;have:=hg rfl;dsimp only at this;omega
  rw[h4,fm F];simp only[true_iff];exact dU hk
 | @O6 d A B pg i c ag r was E he ig hx ih=>
  intro s G X Q o T U;subst X;obtain⟨ah,t,C,hc,rfl,oG,qL⟩:=G.kid E ig;obtain⟨gone,hO⟩:=ih t oG hc (C.tn Q) (λ p f=>o p (C.sub p f)) T U;obtain⟨t',j,W,hF,z1,_,hw⟩:=O9 C he G.mem Q o qL hO
  have hl:∀u∈ah.take i++t'::ah.drop (i+1),Tr (aB B) d u/\ji (aB B) u.pg:=λ u H=>⟨j.lJ.all u H,by
   rcases dm.1 H with h|h
   ·exact hF u (by simp[h])
   rcases aN.1 h with rfl|h
   ·rw[W];exact z1 rfl
   exact hF u (by simp[h])⟩
  have Jj:aB B s.pg=aB A s.pg:=by rw[j.nd,E,Gu C.at_ W]
  exact⟨gone,⟨j.gz,j.EL,j.oM,⟨d+1,⟨s.pg,ik (ah.take i++t'::ah.drop (i+1)),s.pg::dP (ah.take i++t'::ah.drop (i+1))⟩,⟨ag,_,j.nd,⟨j.lJ.len,j.lJ.ord,hl⟩,rfl,rfl⟩,rfl,j.l,j.fA,j.ps,O rfl⟩,λ ⟨x,R,hf⟩=>⟨λ _=>⟨x,Jj.trans R,hf⟩,(λ h=>by cases h)⟩,hw⟩⟩
 | @even d A w v pg i c m ca cb ag r was a b z b' κ dZ E he ig hx hm vz hs qK h8 ha hn h1 ih=>
  intro s G X Q o T U;subst X;obtain⟨ah,t,C,hc,rfl,oG,qL⟩:=G.kid E ig;obtain⟨gone,hO⟩:=ih t oG hc (C.tn Q) (λ p f=>o p (C.sub p f)) T U;obtain⟨t',j,W,hF,_,z2,hw⟩:=O9 C he G.mem Q o qL hO;obtain⟨l,y,rfl,rfl,n⟩:=Rq C.at_ j W hF (z2 rfl) hm vz hs qK h8 ha;have g:=j.xL n;have V:=j.has o;have M:=j.gz.dV;obtain⟨_,hE⟩:=Ro g.ta g.tb g.fA n.na n.nb (lI h8) (lI ha) g.lo g.hi n.many hn;obtain⟨f1,f2,CW,Ji,hG⟩:=hE rfl;have K:=V _ g.ha;have BK:=V _ g.hb;have BL:=V s.pg (by simp);have N:dA w (w.ax l.pg (aX (w.c l.pg) z)) [l.pg] []:=dA.ax K M (by rw[uL _ _ (by rw[M _ K];omega) f1,M _ K]);have uR:(w.ax l.pg (aX (w.c l.pg) z)).Has y.pg:=AP.aC.2 BK
  have L:dA (w.ax l.pg (aX (w.c l.pg) z)) v [y.pg] []:=by
   rw[h1];exact dA.ax uR N.dV (by rw[uL _ _ (by rw[N.dV _ uR];omega) f2,N.dV _ uR])
  have uS:v.Has s.pg:=by rw[h1];exact AP.aC.2 (AP.aC.2 BL)
  have h2:=(lI E).inner rfl;have xi:=(dz.1 qK).1;have uT:Fits ⟨false,ag.set m dZ,[],ah.map Sb.pg⟩:=⟨(λ h=>by cases h),λ _=>⟨by dsimp only at h2 ⊢;rw[aV];exact h2.1,h2.2.1,h2.2.2.1,rfl,h2.2.2.2.2⟩⟩;have h9:=L.dV _ uS;have c3:dA v (v.ax s.pg (aX (v.c s.pg) ⟨false,ag.set m dZ,[],ah.map Sb.pg⟩)) [s.pg] []:=dA.ax uS L.dV (by rw[uL _ _ Z uT,h9]);generalize OC:v.ax s.pg (aX (v.c s.pg) ⟨false,ag.set m dZ,[],ah.map Sb.pg⟩)=B at c3 ⊢
  have J:∀q,aB B q=if s.pg=q then some ⟨false,ag.set m dZ,[],ah.map Sb.pg⟩ else if y.pg=q then some b' else if l.pg=q then some z else aB w q:=λ q=>by
   rw[<-OC,BD h9 uT,h1,BD (N.dV _ uR) f2,BD (M _ K) f1]
  have h6:aB B l.pg=some z:=by rw[J,aE (dJ g.na),aE (dJ g.ne),be rfl]
  have x1:aB B y.pg=some b':=by rw[J,aE (dJ g.nb),be rfl]
  have hr:∀q,q≠s.pg->q≠l.pg->q≠y.pg->aB B q=aB w q:=λ q I S q3=>by rw[J,aE (dJ I),aE (dJ q3),aE (dJ S)]
  have yR:∀p∈l.ps++y.ps,p≠s.pg:=λ p f e=>(bN.1 g.big).2.2 s.pg (by simp) p (fw _ f) e.symm;obtain⟨P,ee,OD,xh,h7,xb,OE,xc,xd,Wn,Wo,Wp,OG⟩:=hG (aB B) h6 x1 (λ p f I S=>hr p (yR p f) I S)
  have hj:∀u∈(ah.take i++t'::ah.drop (i+1)).take m++(ah.take i++t'::ah.drop (i+1)).drop (m+2),Tr (aB B) d u/\(ji (aB w) u.pg->ji (aB B) u.pg):=λ u H=>by
   have qV:u∈ah.take i++t'::ah.drop (i+1):=by
    rcases dm.1 H with h|h
    ·exact jw h
    exact jQ h
   have yP:=j.lJ.all u qV;have ho:=g.other u H;have hp:∀p∈u.ps,aB B p=aB w p:=λ p f=>hr p (ho p f).2 (λ e=>(ho p f).1 (by rw[e];exact fw _ g.ta.mem)) (λ e=>(ho p f).1 (by rw[e];exact lL _ g.tb.mem));exact⟨Tr.same d u yP hp,λ ⟨x,D,F⟩=>⟨x,(hp _ yP.mem).trans D,F⟩⟩
  have x5:∀u∈(ah.take i++t'::ah.drop (i+1)).take m++(ah.take i++t'::ah.drop (i+1)).drop (m+2),Tr (aB B) d u/\ji (aB B) u.pg:=λ u H=>⟨(hj u H).1,(hj u H).2 (n.rest u H)⟩;have kN:=(j.lJ.imp (Q:=λ _=>True) (λ _ _ _=>trivial)).share n.sa n.sb n.k OE xc xd Wn Wo trivial trivial
  have hl:∀u∈(ah.take i++t'::ah.drop (i+1)).take m++P::ee::(ah.take i++t'::ah.drop (i+1)).drop (m+2),Tr (aB B) d u/\ji (aB B) u.pg:=λ u H=>by
   rcases dm.1 H with h|h
   ·exact x5 u (fw _ h)
   rcases aN.1 h with rfl|h
   ·exact⟨OD,by rw[h7];exact⟨_,h6,CW⟩⟩
   rcases aN.1 h with rfl|h
   ·exact⟨xh,by rw[xb];exact⟨_,x1,Ji⟩⟩
   exact x5 u (lL _ h)
  have hy:∀p,p∈s.pg::dP ((ah.take i++t'::ah.drop (i+1)).take m++P::ee::(ah.take i++t'::ah.drop (i+1)).drop (m+2))↔p∈s.pg::dP (ah.take i++t'::ah.drop (i+1)):=λ p=>by
   rw[Rs n.sa n.sb,uO,vZ,vZ];have:=OG p;simp only[aN,dm]at this ⊢
   constructor
   ·rintro(h|h|h|h|h)
    ·exact O h
    ·exact al (O h)
    ·exact al (al (O (this.1 (O h))))
    ·exact al (al (O (this.1 (al h))))
    exact al (al (al h))
   rintro(h|h|h|h)
   ·exact O h
   ·exact al (O h)
   ·rcases this.2 h with h|h
    ·exact al (al (O h))
    exact al (al (al (O h)))
   exact al (al (al (al h)))
  have qz:(s.pg::dP ((ah.take i++t'::ah.drop (i+1)).take m++P::ee::(ah.take i++t'::ah.drop (i+1)).drop (m+2))).Nodup:=by
   have:=O1 (new:=[]) g.big Wp (λ p f=>O ((OG p).1 f)) (λ p f=>by cases f);rw[uO,vZ,vZ,<-cO P.ps];exact this
  have jE:dA A B s.ps (gone++[]):=j.gz.trans (((N.wider (ps2:=s.ps) (λ p f=>by rw[bu.1 f];exact((j.ps _).1 g.ha).1)).trans L (λ p f=>by rw[bu.1 f];exact((j.ps _).1 g.hb).1)).trans c3 (λ p f=>by rw[bu.1 f];exact G.mem)) (λ _ h=>h);rw[jl]at jE;refine⟨gone,⟨jE,j.EL,j.oM,⟨d+1,⟨s.pg,ik ((ah.take i++t'::ah.drop (i+1)).take m++P::ee::(ah.take i++t'::ah.drop (i+1)).drop (m+2)),s.pg::dP ((ah.take i++t'::ah.drop (i+1)).take m++P::ee::(ah.take i++t'::ah.drop (i+1)).drop (m+2))⟩,⟨_,_,by rw[J,be rfl,EW n.sa n.sb h7 xb,Gu C.at_ W],⟨kN.len,kN.ord,hl⟩,rfl,rfl⟩,rfl,?_,qz,λ p=>(hy p).trans (j.ps p),O rfl⟩,λ OH=>?_,hw⟩⟩
  ·dsimp only;rw[<-j.l,VY n.sa n.sb,CV,vw,vw,<-OE,cO]
  obtain⟨x,R,x4,hg⟩:=OH;rw[E]at R;obtain rfl:=bf R;have hv:=hg rfl;refine⟨λ h0=>⟨⟨false,ag.set m dZ,[],ah.map Sb.pg⟩,by rw[J,be rfl],(λ h=>by cases h),λ _=>hv⟩,λ h0=>⟨⟨false,ag.set m dZ,[],ah.map Sb.pg⟩,by rw[J,be rfl],(λ h=>by cases h),λ _=>?_⟩⟩;have:(ah.map Sb.pg).length<20:=by simpa using h0
  dsimp only at hv ⊢;omega
 | @join d A w v pg i c m ca cb ag r was a b z b' κ dZ E he ig hx hm vz hs qK h8 ha hn h1 x0 ih=>
  intro s G X Q o T U;subst X;obtain⟨ah,t,C,hc,rfl,oG,qL⟩:=G.kid E ig;obtain⟨gone,hO⟩:=ih t oG hc (C.tn Q) (λ p f=>o p (C.sub p f)) T U;obtain⟨t',j,W,hF,_,z2,hw⟩:=O9 C he G.mem Q o qL hO;obtain⟨l,y,rfl,rfl,n⟩:=Rq C.at_ j W hF (z2 rfl) hm vz hs qK h8 ha;have g:=j.xL n;have V:=j.has o;have M:=j.gz.dV;obtain⟨hE,_⟩:=Ro g.ta g.tb g.fA n.na n.nb (lI h8) (lI ha) g.lo g.hi n.many hn;obtain⟨f1,CW,hG⟩:=hE rfl;have K:=V _ g.ha;have BK:=V _ g.hb;have BL:=V s.pg (by simp);have N:dA w (w.ax l.pg (aX (w.c l.pg) z)) [l.pg] []:=dA.ax K M (by rw[uL _ _ (by rw[M _ K];omega) f1,M _ K]);have uR:(w.ax l.pg (aX (w.c l.pg) z)).Has y.pg:=AP.aC.2 BK
  have L:dA (w.ax l.pg (aX (w.c l.pg) z)) v [] [y.pg]:=by
   rw[h1];exact dA.give (N.good (j.gz.good T)) uR N.dV
  have uS:v.Has s.pg:=(L.has _).2 ⟨AP.aC.2 BL,by simp;exact dJ g.nb⟩;have h2:=(lI E).inner rfl;have xi:=(dz.1 qK).1;dsimp only at h2;have lk:(ag.take m++ag.drop (m+1)).length=Y ag-1:=by simp;omega
  have lc:((ah.map Sb.pg).take (m+1)++(ah.map Sb.pg).drop (m+2)).length=(ah.map Sb.pg).length-1:=by rw[zl,zt,zd];omega
  have uT:Fits ⟨false,ag.take m++ag.drop (m+1),[],(ah.map Sb.pg).take (m+1)++(ah.map Sb.pg).drop (m+2)⟩:=⟨(λ h=>by cases h),λ _=>⟨by dsimp only;omega,by dsimp only;omega,by dsimp only;omega,rfl,λ q hq=>by
   rcases dm.1 hq with h|h
   ·exact h2.2.2.2.2 q (jw h)
   exact h2.2.2.2.2 q (jQ h)⟩⟩
  have h9:=L.dV _ uS;have c3:dA v (v.ax s.pg (aX (v.c s.pg) ⟨false,ag.take m++ag.drop (m+1),[],(ah.map Sb.pg).take (m+1)++(ah.map Sb.pg).drop (m+2)⟩)) [s.pg] []:=dA.ax uS L.dV (by rw[uL _ _ Z uT,h9]);generalize OC:v.ax s.pg (aX (v.c s.pg) ⟨false,ag.take m++ag.drop (m+1),[],(ah.map Sb.pg).take (m+1)++(ah.map Sb.pg).drop (m+2)⟩)=B at c3 ⊢
  have J:∀q,aB B q=if s.pg=q then some ⟨false,ag.take m++ag.drop (m+1),[],(ah.map Sb.pg).take (m+1)++(ah.map Sb.pg).drop (m+2)⟩ else if l.pg=q then some z else aB w q:=λ q=>by
   rw[<-OC,BD h9 uT,h1,Ry,BD (M _ K) f1]
  have h6:aB B l.pg=some z:=by rw[J,aE (dJ g.na),be rfl]
  have hr:∀q,q≠s.pg->q≠l.pg->aB B q=aB w q:=λ q I S=>by rw[J,aE (dJ I),aE (dJ S)]
  have yR:∀p∈l.ps++y.ps,p≠s.pg:=λ p f e=>(bN.1 g.big).2.2 s.pg (by simp) p (fw _ f) e.symm;obtain⟨P,OD,h7,hu,hh,hb⟩:=hG (aB B) h6 (λ p f I _=>hr p (yR p f) I)
  have hj:∀u∈(ah.take i++t'::ah.drop (i+1)).take m++(ah.take i++t'::ah.drop (i+1)).drop (m+2),Tr (aB B) d u/\ji (aB B) u.pg:=λ u H=>by
   have qV:u∈ah.take i++t'::ah.drop (i+1):=by
    rcases dm.1 H with h|h
    ·exact jw h
    exact jQ h
   have yP:=j.lJ.all u qV;have ho:=g.other u H;have hp:∀p∈u.ps,aB B p=aB w p:=λ p f=>hr p (ho p f).2 (λ e=>(ho p f).1 (by rw[e];exact fw _ g.ta.mem));obtain⟨x,D,F⟩:=n.rest u H;exact⟨Tr.same d u yP hp,x,(hp _ yP.mem).trans D,F⟩
  have kN:=(j.lJ.imp (Q:=λ _=>True) (λ _ _ _=>trivial)).one n.sa n.sb n.k hu trivial
  have hl:∀u∈(ah.take i++t'::ah.drop (i+1)).take m++P::(ah.take i++t'::ah.drop (i+1)).drop (m+2),Tr (aB B) d u/\ji (aB B) u.pg:=λ u H=>by
   rcases dm.1 H with h|h
   ·exact hj u (fw _ h)
   rcases aN.1 h with rfl|h
   ·exact⟨OD,by rw[h7];exact⟨_,h6,CW⟩⟩
   exact hj u (lL _ h)
  have x2:=g.big;rw[bN,bN]at x2;obtain⟨g1,⟨g2,g3,g4⟩,g5⟩:=x2
  have hy:∀p,p∈s.pg::dP ((ah.take i++t'::ah.drop (i+1)).take m++P::(ah.take i++t'::ah.drop (i+1)).drop (m+2))↔p∈s.pg::dP (ah.take i++t'::ah.drop (i+1))/\p≠y.pg:=λ p=>by
   have x6:y.pg∈l.ps++y.ps:=lL _ g.tb.mem;rw[Rs n.sa n.sb,uO,vZ];have:=hb p;simp only[aN,dm]at this ⊢
   constructor
   ·rintro(h|h|h|h)
    ·exact⟨O h,λ e=>g.nb (e▸h)⟩
    ·exact⟨al (O h),λ e=>g5 p (by simp[h]) y.pg (fw _ x6) e⟩
    ·exact⟨al (al (O (this.1 h).1)),(this.1 h).2⟩
    exact⟨al (al (al h)),λ e=>g4 y.pg x6 p h e.symm⟩
   rintro⟨h|h|h|h,F⟩
   ·exact O h
   ·exact al (O h)
   ·exact al (al (O (this.2 ⟨h,F⟩)))
   exact al (al (al h))
  have qz:(s.pg::dP ((ah.take i++t'::ah.drop (i+1)).take m++P::(ah.take i++t'::ah.drop (i+1)).drop (m+2))).Nodup:=by
   have:=O1 (new:=[]) g.big hh (λ p f=>O ((hb p).1 f).1) (λ p f=>by cases f);rw[uO,vZ];exact this
  have jE:dA A B s.ps (gone++[y.pg]):=j.gz.trans (((N.wider (ps2:=s.ps) (λ p f=>by rw[bu.1 f];exact((j.ps _).1 g.ha).1)).trans L (λ p f=>by cases f)).trans c3 (λ p f=>by rw[bu.1 f];exact G.mem)) (λ _ h=>h);have ht:=(j.ps _).1 g.hb;refine⟨gone++[y.pg],⟨jE,λ p f=>?_,?_,⟨d+1,⟨s.pg,ik ((ah.take i++t'::ah.drop (i+1)).take m++P::(ah.take i++t'::ah.drop (i+1)).drop (m+2)),s.pg::dP ((ah.take i++t'::ah.drop (i+1)).take m++P::(ah.take i++t'::ah.drop (i+1)).drop (m+2))⟩,⟨_,_,by rw[J,be rfl,ly n.sa h7,Gu C.at_ W],⟨kN.len,kN.ord,hl⟩,rfl,rfl⟩,rfl,?_,qz,λ p=>?_,O rfl⟩,λ OH=>?_,hw⟩⟩
  ·rcases dm.1 f with h|h
   ·exact j.EL p h
   rw[bu.1 h];exact⟨ht.1,g.nb⟩
  ·rw[bN];exact⟨j.oM,by simp,λ p f q hq e=>ht.2 (by rw[<-bu.1 hq,<-e];exact f)⟩
  ·dsimp only;rw[<-j.l,VY n.sa n.sb,CV,vw,hu]
  ·dsimp only;rw[hy p,j.ps p,dm,bu]
   constructor
   ·rintro⟨⟨D,F⟩,h3⟩;exact⟨D,λ h=>by rcases h with h|h;exact F h;exact h3 h⟩
   rintro⟨D,F⟩;exact⟨⟨D,λ h=>F (O h)⟩,λ h=>F (al h)⟩
  obtain⟨x,R,x4,hg⟩:=OH;rw[E]at R;obtain rfl:=bf R;have hv:=hg rfl;dsimp only at hv;refine⟨λ h0=>⟨⟨false,ag.take m++ag.drop (m+1),[],(ah.map Sb.pg).take (m+1)++(ah.map Sb.pg).drop (m+2)⟩,by rw[J,be rfl],(λ h=>by cases h),λ _=>?_⟩,λ h0=>⟨⟨false,ag.take m++ag.drop (m+1),[],(ah.map Sb.pg).take (m+1)++(ah.map Sb.pg).drop (m+2)⟩,by rw[J,be rfl],(λ h=>by cases h),λ _=>?_⟩⟩
  ·have:¬((ah.map Sb.pg).length-1<20):=by simpa using h0
   dsimp only;omega
  have:(ah.map Sb.pg).length-1<20:=by simpa using h0
  dsimp only;omega
 | @lift d A w v pg i c m ca cb ag r was a b z b' κ dZ E he ig hx hm vz hs qK h8 ha hn h1 x0 ih=>
  intro s G X Q o T U;subst X;obtain⟨ah,t,C,hc,rfl,oG,qL⟩:=G.kid E ig;obtain⟨gone,hO⟩:=ih t oG hc (C.tn Q) (λ p f=>o p (C.sub p f)) T U;obtain⟨t',j,W,hF,_,z2,hw⟩:=O9 C he G.mem Q o qL hO;obtain⟨l,y,rfl,rfl,n⟩:=Rq C.at_ j W hF (z2 rfl) hm vz hs qK h8 ha;have g:=j.xL n;have V:=j.has o;have M:=j.gz.dV;obtain⟨hE,_⟩:=Ro g.ta g.tb g.fA n.na n.nb (lI h8) (lI ha) g.lo g.hi n.many hn;obtain⟨f1,CW,hG⟩:=hE rfl;have K:=V _ g.ha;have BK:=V _ g.hb;have BL:=V s.pg (by simp);have N:dA w (w.ax l.pg (aX (w.c l.pg) z)) [l.pg] []:=dA.ax K M (by rw[uL _ _ (by rw[M _ K];omega) f1,M _ K]);have uR:(w.ax l.pg (aX (w.c l.pg) z)).Has y.pg:=AP.aC.2 BK
  have L:dA (w.ax l.pg (aX (w.c l.pg) z)) v [] [y.pg]:=by
   rw[h1];exact dA.give (N.good (j.gz.good T)) uR N.dV
  have uS:v.Has s.pg:=(L.has _).2 ⟨AP.aC.2 BL,by simp;exact dJ g.nb⟩;have Wq:v.Has l.pg:=(L.has _).2 ⟨AP.aC.2 K,by simp;exact g.ne⟩;have h9:=L.dV _ uS;have c3:dA v (v.ax s.pg (aX (v.c s.pg) z)) [s.pg] []:=dA.ax uS L.dV (by rw[uL _ _ Z f1,h9]);have Ws:(v.ax s.pg (aX (v.c s.pg) z)).Has l.pg:=AP.aC.2 Wq;have c4:dA (v.ax s.pg (aX (v.c s.pg) z)) ((v.ax s.pg (aX (v.c s.pg) z)).give l.pg) [] [l.pg]:=dA.give (c3.good (L.good (N.good (j.gz.good T)))) Ws c3.dV;generalize OC:(v.ax s.pg (aX (v.c s.pg) z)).give l.pg=B at c4 ⊢;have lU:∀q,aB v q=if l.pg=q then some z else aB w q:=λ q=>by rw[h1,Ry,BD (M _ K) f1]
  have J:∀q,aB B q=if s.pg=q then some z else aB v q:=λ q=>by rw[<-OC,Ry,BD h9 f1]
  have h6:aB v l.pg=some z:=by rw[lU,be rfl]
  obtain⟨P,OD,h7,hu,hh,hb⟩:=hG (aB v) h6 (λ p f I _=>by rw[lU,aE (dJ I)]);have yR:∀p∈l.ps++y.ps,p≠s.pg:=λ p f e=>(bN.1 g.big).2.2 s.pg (by simp) p (fw _ f) e.symm;obtain⟨ps',xe,Wt⟩:=Tr.moved (g:=aB B) (x:=z) (pg:=s.pg) OD (by rw[h7];exact h6) (by rw[J,be rfl]) (λ p f _=>by rw[J,aE (dJ (yR p ((hb p).1 f).1))]) hh
  have aD:(ah.take i++t'::ah.drop (i+1)).length=2:=by
   rw[<-x0,<-Gu C.at_ W,bS]
  have xl:=(dz.1 n.sb).1;obtain rfl:m=0:=Z
  have x7:=VY n.sa n.sb;have xa:=Rs n.sa n.sb;have xj:(ah.take i++t'::ah.drop (i+1)).drop (0+2)=[]:=List.drop_of_length_le (by rw[aD];exact aH 2);rw[kU,xj]at x7 xa;have el:ik (ah.take i++t'::ah.drop (i+1))=l.l++y.l:=by rw[x7];simp[ik]
  have ep:dP (ah.take i++t'::ah.drop (i+1))=l.ps++y.ps:=by rw[xa];simp[dP]
  have jE:dA A B s.ps (gone++[y.pg,l.pg]):=j.gz.trans ((((N.wider (ps2:=s.ps) (λ p f=>by rw[bu.1 f];exact((j.ps _).1 g.ha).1)).trans L (λ p f=>by cases f)).trans c3 (λ p f=>by rw[bu.1 f];exact G.mem)).trans c4 (λ p f=>by cases f)) (λ _ h=>h);have ht:=(j.ps _).1 g.hb;have has:=(j.ps _).1 g.ha;rw[Wt,h7]at hh hb
  have x3:¬ji (aB A) s.pg:=by
   rintro⟨x,R,x4,hg⟩;rw[E]at R;obtain rfl:=bf R;have:=hg rfl;dsimp only at this;omega
  refine⟨gone++[y.pg,l.pg],⟨jE,λ p f=>?_,?_,⟨d,⟨s.pg,P.l,s.pg::ps'⟩,xe,rfl,?_,?_,λ p=>?_,al ⟨rfl,x3⟩⟩,λ OH=>absurd OH x3,hw⟩⟩
  ·rcases dm.1 f with h|h
   ·exact j.EL p h
   rcases aN.1 h with rfl|h
   ·exact⟨ht.1,g.nb⟩
   rw[bu.1 h];exact⟨has.1,g.na⟩
  ·rw[bN];refine⟨j.oM,by simp[dJ g.ne],λ p f q hq e=>?_⟩;rcases aN.1 hq with rfl|hq
   ·exact ht.2 (e▸f)
   rw[bu.1 hq]at e;exact has.2 (e▸f)
  ·dsimp only;rw[<-j.l,el,hu]
  ·refine eD.2 ⟨λ h=>?_,(eD.1 hh).2⟩;exact yR s.pg ((hb s.pg).1 (cK _ h)).1 rfl
  dsimp only;have D:=j.ps p;rw[ep]at D;have F:=hb p;simp only[aN,dm,List.not_mem_nil,or_false]at D F ⊢;have xg:l.pg∉ps':=(eD.1 hh).1
  constructor
  ·rintro(h|h)
   ·obtain⟨I,S⟩:=D.1 (O h);exact⟨I,λ o=>by rcases o with o|o|o;exact S o;exact g.nb (o▸h);exact g.na (o▸h)⟩
   obtain⟨q0,q3⟩:=F.1 (al h);obtain⟨I,S⟩:=D.1 (al q0);exact⟨I,λ o=>by rcases o with o|o|o;exact S o;exact q3 o;exact xg (o▸h)⟩
  rintro⟨I,S⟩;rcases D.2 ⟨I,λ o=>S (O o)⟩with h|h
  ·exact O h
  rcases F.2 ⟨h,λ o=>S (al (O o))⟩with h|h
  ·exact absurd (al (al h)) S
  exact al h
theorem Ow:∀(ag:List UInt64),jV ag->∀k:UInt64,∃i,dQ ag k i
 | [],_,_=>⟨0,aH _,λ κ h=>(by simp at h),λ κ h=>(by simp at h)⟩
 | κ::ks,c,k=>by
  by_cases h:κ.toNat<=k.toNat
  ·obtain⟨i,b⟩:=Ow ks (c.drop 1) k;refine⟨i+1,Nat.succ_le_succ b.le,λ dZ a=>?_,b.above⟩;rcases aN.1 a with rfl|a
   ·exact h
   exact b.below dZ a
  refine⟨0,aR _,λ dZ a=>(by simp at a),λ dZ a=>?_⟩;rcases aN.1 a with rfl|a
  ·omega
  obtain⟨j,d,e⟩:=fU a;have:=c 0 (j+1) κ dZ Z rfl (by rw[oH,bK d,e]);omega
theorem jx{o:AP}{c a:Nat}(w:Tr (aB A) (d+1) s)(y:s.ps.Nodup)(j:∀p∈s.ps,A.Has p)(F:A.Good)(M:∀p,A.Has p->(A.c p).length=504)(u:aB A s.pg=some ⟨false,ag,[],r⟩)(G:r[i]?=some c)(K:dQ ag k i)(H:lW k v d A c o a D E) :
  (E≠0\/a=0)\/(E=0/\a≠0/\o.Has s.pg/\og ⟨false,ag.take i++D::ag.drop i,[],r.take (i+1)++a::r.drop (i+1)⟩):=by
 by_cases l:E=0
 ·by_cases e:a=0
  ·exact O (al e)
  subst l;refine al ⟨rfl,e,?_⟩;obtain⟨ah,t,b,I,rfl,z,P⟩:=w.kid u G;obtain⟨qf,x⟩:=KM H rfl t z I (b.tn y) (λ p L=>j p (b.sub p L)) F M;obtain⟨U,t',J,W,Q,N,C,_⟩:=x.two e;have m:=(lI u).inner rfl;dsimp only at m;obtain⟨z1,T,V,_,n⟩:=m;have R:=(dz.1 b.at_).1;have S:=K.le;have g:=cr (t':=t') (u:=J) b.at_ N;rw[C]at g
  have f:((ah.map Sb.pg).take (i+1)++a::(ah.map Sb.pg).drop (i+1)).length=(ah.map Sb.pg).length+1:=by
   rw[<-g];simp;omega
  refine⟨(x.gz.has _).2 (O (j _ w.mem)),(λ h=>by cases h),λ _=>⟨?_,rfl,?_,?_,λ q B=>?_⟩⟩
  ·dsimp only;rw[f];simp;simp at z1;omega
  ·dsimp only;rw[f];omega
  ·dsimp only;rw[f];omega
  rcases dm.1 B with h|h
  ·exact n q (jw h)
  rcases aN.1 h with rfl|h
  ·omega
  exact n q (jQ h)
 exact O (O l)
theorem oy(h:lW k v d A pg B more κ e):e≠0->∀s,Tr (aB A) d s->s.pg=pg->s.ps.Nodup->(∀p∈s.ps,A.Has p)->A.Good->(∀p,A.Has p->(A.c p).length=504)->e=6/\A.Reach B/\A.aQ<=d:=by
 induction h with
 | found o L=>exact λ h=>absurd rfl h
 | @leaf A B pg i more ks vs κ e o M N x=>
  intro a s j n u f g w;subst n;have b:=f s.pg j.mem
  cases x with
  | one hf=>exact absurd rfl a
  | none hf m=>exact⟨rfl,(AP.Reach.refl A).ax b _,by rw[g.full.1 m];exact aR _⟩
  | two hf m=>exact absurd rfl a
 | @stop d A B pg i c more ag r κ e o K z I R E=>
  intro a s j n u f g w;subst n;obtain⟨ah,t,l,C,rfl,y,J⟩:=j.kid o z;obtain⟨G,H,F⟩:=E a t y C (l.tn u) (λ p b=>f p (l.sub p b)) g w;exact⟨G,H,Nat.le_succ_of_le F⟩
 | @up d A Q B pg i c S more ag r D κ e o K z I P x E=>
  intro a s j n u f g w;subst n;obtain⟨ah,t,l,C,rfl,y,J⟩:=j.kid o z;obtain⟨qf,q⟩:=KM I rfl t y C (l.tn u) (λ p b=>f p (l.sub p b)) g w;have b:=(q.gz.has _).2 (O (f _ j.mem))
  cases x with
  | one hf=>exact absurd rfl a
  | none hf m=>
   refine⟨rfl,q.gz.reach.ax b _,?_⟩;have G:=q.gz.aQ;have H:=(q.gz.good g).full.1 m;have F:=q.few;omega
  | two hf m=>exact absurd rfl a
inductive yN(k v:UInt64)(rt d:Nat)(A:AP):AP->Int->Prop
 | same {B:AP} {κ:UInt64}:lW k v d A rt B 0 κ 0->yN k v rt d A B 0
 | bad {more:Nat} {B:AP} {κ:UInt64} {e:Int}:lW k v d A rt B more κ e->e≠0->yN k v rt d A B e
 | full {more:Nat} {B:AP} {κ:UInt64}:lW k v d A rt B more κ 0->more≠0->B.Full->yN k v rt d A B 6
 | grow {more:Nat} {B a:AP} {κ:UInt64} {x:Nd}:lW k v d A rt B more κ 0->more≠0->¬B.Full->aB B rt=some x->a=B.take.ax B.next (aX (UK.bM 504) x)->yN k v rt d A (a.ax rt (aX (a.c rt) ⟨false,[κ],[],[B.next,more]⟩)) 0
structure TI(A:AP)(rt:Nat)(l:List KV)(ps:List Nat):Prop where
 ex:∃d s,Tr (aB A) d s/\s.pg=rt/\s.l=l/\s.ps=ps
 fA:ps.Nodup
 has:∀p∈ps,A.Has p
theorem TI.rise(h:TI A rt l ps):jN l:=by
 obtain⟨d,s,a,_,rfl,_⟩:=h.ex;exact a.rise
theorem TI.many(h:TI A rt l ps):14*Y ps<=Y l+14:=by
 obtain⟨d,s,a,_,rfl,rfl⟩:=h.ex;exact a.yO
theorem hU(c:ps.Nodup)(e:∀p∈ps,A.Has p)(a:A.Good):Y ps<=60000:=by
 have b:Y ps<=(List.range A.au).length:=c.length_le_of_subset (λ p d=>ky.2 (e p d).2.1);rw[List.length_range]at b;have:=a.aA;have:=a.few;omega
theorem KN(h:Tr (aB A) d s)(e:s.ps.Nodup)(i:∀p∈s.ps,A.Has p)(g:A.Good):d<=16:=by
 cases d with
 | zero=>omega
 | succ d=>
  have m:=hU e i g;obtain⟨ag,ah,k,b,q,f⟩:=h;have c:=b.len
  obtain⟨t,a⟩:∃t,t∈ah:=by
   cases ah with
   | nil=>simp at c
   | cons t r=>exact⟨t,by simp⟩
  have n:=Tr.deep d t (b.all t a).1 (b.all t a).2
  have u:Y t.ps<=Y s.ps:=by
   have j:t.ps.Sublist s.ps:=by
    rw[f];exact((List.sublist_flatten_of_mem (bL.2 ⟨t,a,rfl⟩)).trans (by rw[<-List.flatMap_def];exact List.Sublist.refl _)).cons _
   exact j.length_le
  refine Nat.le_of_not_lt (λ l=>?_);have o:2^16<=2^d:=Nat.pow_le_pow_right Z Z;have:(2:Nat)^16=65536:=by decide
  omega
structure Ab(A B:AP)(rt:Nat)(l:List KV)(ps:List Nat):Prop where
 ex:∃new ps',nE A B ps new/\TI B rt l ps'/\(∀p,p∈ps'↔p∈ps\/p∈new)/\Y new<=20
theorem Ip(h:yN k v rt d A B e)(r:Tr (aB A) d s)(o:s.pg=rt)(g:TI A rt s.l s.ps)(n:A.Good)(L:∀p,A.Has p->(A.c p).length=504) :
  (e=0/\Ab A B rt (jO s.l k v) s.ps)\/(e=6/\A.Reach B/\A.aQ<=20):=by
 have mK:=KN r g.fA g.has n
 cases h with
 | @same B κ c=>
  obtain⟨new,f⟩:=KM c rfl s r o g.fA g.has n L;obtain⟨t,i,H,N,h4,h5,_⟩:=f.one rfl;refine O ⟨rfl,new,t.ps,f.gz,⟨⟨d,t,i,H.trans o,N,rfl⟩,h4,λ p c=>(f.gz.has p).2 ?_⟩,h5,by have:=f.few;omega⟩;rcases(h5 p).1 c with h|h
  ·exact O (g.has p h)
  exact al h
 | @bad more B κ e c he=>
  obtain⟨i,H,N⟩:=oy c he s r o g.fA g.has n L;exact al ⟨i,H,Z⟩
 | @full more B κ c hm hf=>
  obtain⟨new,f⟩:=KM c rfl s r o g.fA g.has n L;have i:=f.gz.aQ;have H:=(f.gz.good n).full.1 hf;have N:=f.few;exact al ⟨rfl,f.gz.reach,Z⟩
 | @grow more B j κ x c hm hf U h3=>
  obtain⟨new,f⟩:=KM c rfl s r o g.fA g.has n L;obtain⟨Rh,t,u,X,K,z,S,hl,V,W,Y,hr,m,hc⟩:=f.two hm;rw[o]at z Y;have h1:=f.gz.good n;have h8:=h1.next hf;have h7:=lI U
  have J:∀p∈t.ps++u.ps,B.Has p:=λ p c=>(f.gz.has p).2 (by
   rcases(hc p).1 c with h|h
   ·exact O (g.has p h)
   exact al h)
  have hh:B.Has rt:=J rt (by rw[<-z];exact fw _ X.mem);have ht:B.Has more:=J more (by rw[<-S];exact lL _ K.mem);have h6:B.next≠rt:=λ e=>h8.1 (e▸hh)
  have D:nE B j [] [B.next]:=by
   rw[h3];exact nE.take h1 hf f.gz.dV (by rw[uL _ _ (by rw[KO];omega) h7,KO])
  have hj:aB j B.next=some x:=by
   unfold aB;rw[h3,AP.aL,be rfl];exact Ib _ _ (by rw[KO];omega) h7
  have hi:∀p,B.Has p->aB j p=aB B p:=λ p c=>by unfold aB;rw[D.same p c (by simp)]
  have Oy:j.Has rt:=(D.has rt).2 (O hh)
  have h2:Fits ⟨false,[κ],[],[B.next,more]⟩:=⟨(λ h=>by cases h),λ _=>⟨rfl,by simp,by simp,rfl,λ q P=>by
   rcases aN.1 P with rfl|P
   ·omega
   rw[bu.1 P];omega⟩⟩
  have hg:=D.dV rt Oy;have c3:nE j (j.ax rt (aX (j.c rt) ⟨false,[κ],[],[B.next,more]⟩)) [rt] []:=nE.ax Oy D.dV (by rw[uL _ _ Z h2,hg]);have M:∀q,aB (j.ax rt (aX (j.c rt) ⟨false,[κ],[],[B.next,more]⟩)) q=if rt=q then some ⟨false,[κ],[],[B.next,more]⟩ else aB j q:=λ q=>BD hg h2
  generalize j.ax rt (aX (j.c rt) ⟨false,[κ],[],[B.next,more]⟩)=C at c3 M;have R:∀p∈t.ps++u.ps,p≠rt->aB C p=aB B p:=λ p c E=>by rw[M,aE (dJ E),hi p (J p c)]
  have hk:aB B t.pg=some x:=by rw[z];exact U
  have h9:aB C B.next=some x:=by rw[M,aE (dJ h6),hj]
  have VM:=(bN.1 m).1;have hs:=(bN.1 m).2.1;have Je:=(bN.1 m).2.2;obtain⟨l,ho,G⟩:=Tr.moved X hk h9 (λ p c E=>R p (fw _ c) (by rw[z]at E;exact E)) VM;rw[z]at G;have h0:rt∉u.ps:=λ h=>Je rt (by rw[G];simp) rt h rfl;have hp:Tr (aB C) d u:=Tr.same d u K (λ p c=>R p (lL _ c) (λ e=>h0 (e▸c)))
  have qL:ji (aB C) B.next:=by
   obtain⟨y,F,hf⟩:=Y;rw[U]at F;obtain rfl:=bf F;exact⟨x,h9,hf⟩
  have VN:ji (aB C) u.pg:=by
   obtain⟨y,F,hf⟩:=hr;refine⟨y,?_,hf⟩;rw[R u.pg (lL _ K.mem) (λ e=>h0 (e▸K.mem)),S];exact F
  have hq:jH (λ w=>Tr (aB C) d w/\ji (aB C) w.pg) [κ] [⟨B.next,t.l,B.next::l⟩,u]:=by
   refine⟨rfl,?_,λ w Q=>?_⟩
   ·show [It.s ⟨B.next,t.l,B.next::l⟩,.k κ,.s u].Pairwise It.R;simp only[cu,aN,List.not_mem_nil,or_false,forall_eq_or_imp,forall_eq,false_imp_iff,implies_true,List.Pairwise.nil,and_true];exact⟨⟨V,λ a ha b hb=>by have:=V a ha;have:=W b hb;omega⟩,W⟩
   rcases aN.1 Q with rfl|Q
   ·exact⟨ho,qL⟩
   rw[bu.1 Q];exact⟨hp,VN⟩
  have I:nE A C s.ps (new++[B.next]++[]):=(f.gz.trans D (λ p c=>by cases c)).trans c3 (λ p c=>O (by rw[bu.1 c,<-o];exact r.mem));rw[jl]at I;have hn:dP [⟨B.next,t.l,B.next::l⟩,u]=B.next::l++u.ps:=by simp[dP]
  have Gq:∀p,p∈rt::(B.next::l++u.ps)↔p∈s.ps\/p∈new++[B.next]:=λ p=>by
   have i:=hc p;rw[G]at i;simp only[dm,aN,List.not_mem_nil,or_false]at i ⊢
   constructor
   ·rintro(h|((h|h)|h))
    ·rcases i.1 (O (O h))with h|h
     ·exact O h
     exact al (O h)
    ·exact al (al h)
    ·rcases i.1 (O (al h))with h|h
     ·exact O h
     exact al (O h)
    rcases i.1 (al h)with h|h
    ·exact O h
    exact al (O h)
   rintro(h|(h|h))
   ·rcases i.2 (O h)with(h|h)|h
    ·exact O h
    ·exact al (O (al h))
    exact al (al h)
   ·rcases i.2 (al h)with(h|h)|h
    ·exact O h
    ·exact al (O (al h))
    exact al (al h)
   exact al (O (O h))
  refine O ⟨rfl,new++[B.next],rt::(B.next::l++u.ps),I,⟨⟨d+1,⟨rt,ik [⟨B.next,t.l,B.next::l⟩,u],rt::dP [⟨B.next,t.l,B.next::l⟩,u]⟩,⟨[κ],[⟨B.next,t.l,B.next::l⟩,u],?_,hq,rfl,rfl⟩,rfl,?_,?_⟩,?_,λ p c=>?_⟩,Gq,?_⟩
  ·dsimp only;rw[M,be rfl,jr,jr,List.map_nil,S]
  ·rw[<-hl];simp[ik]
  ·dsimp only;rw[hn]
  ·have T:B.next∉t.ps++u.ps:=λ h=>h8.1 (J _ h);rw[G]at T m;simp only[lS,eD,aN,dm,not_or]at T m ⊢;exact⟨⟨dJ h6,m.1⟩,T.2,m.2⟩
  ·rcases(Gq p).1 c with h|h
   ·exact(I.has p).2 (O (g.has p h))
   exact(I.has p).2 (al h)
  have:=f.few;rw[zl,gI];omega
def jd(l:List KV)(k:UInt64):Option KV:=l.find? λ x=>x.1==k
def fe(l:List KV)(k:UInt64):Option KV:=l.find? λ x=>decide (k.toNat<=x.1.toNat)
theorem KB{a b c:List KV}(i:∀x∈a,x.1.toNat<k.toNat)(h:∀x∈c,k.toNat<x.1.toNat):jd (a++(b++c)) k=jd b k:=by
 unfold jd;have f:a.find? (λ x=>x.1==k)=none:=List.find?_eq_none.2 (λ x d=>by have:=i x d;simp;intro e;rw[e]at this;omega);have g:c.find? (λ x=>x.1==k)=none:=List.find?_eq_none.2 (λ x d=>by have:=h x d;simp;intro e;rw[e]at this;omega);rw[List.find?_append,List.find?_append,f,g];simp
theorem Qn{a b:List KV}(c:∀x∈a,x.1.toNat<k.toNat):fe (a++b) k=fe b k:=by
 unfold fe;have d:a.find? (λ x=>decide (k.toNat<=x.1.toNat))=none:=List.find?_eq_none.2 (λ x e=>by have:=c x e;simp;omega);rw[List.find?_append,d];rfl
theorem cQ{a b:List KV}:fe (a++b) k=(fe a k).or (fe b k):=List.find?_append
theorem R6(b:l≠[])(h:∀x∈l,k.toNat<=x.1.toNat):∃x,fe l k=some x:=by
 cases l with
 | nil=>exact absurd rfl b
 | cons a r=>exact⟨a,by unfold fe;rw[List.find?_cons_of_pos];simpa using h a (by simp)⟩
theorem im:∀{ks vs:List UInt64} {k:UInt64} {i:Nat},jV ks->Y vs=Y ks->ks[i]?=some k->∃v,vs[i]?=some v/\jd (ks.zip vs) k=some (k,v)
 | [],_,_,_,_,_,h=>by simp at h
 | a::ks,[],_,_,_,c,_=>by simp at c
 | a::ks,b::vs,k,0,d,c,h=>by
  obtain rfl:a=k:=by simpa using h
  exact⟨b,rfl,by unfold jd;rw[List.zip_cons_cons,List.find?_cons_of_pos (by simp)]⟩
 | a::ks,b::vs,k,i+1,d,c,h=>by
  obtain⟨v,g,f⟩:=im (ks:=ks) (vs:=vs) (d.drop 1) (by simpa using c) (by simpa using h);refine⟨v,by simpa using g,?_⟩
  have j:(a==k)=false:=by
   have:=d 0 (i+1) a k Z rfl h;simp only[beq_eq_false_iff_ne,ne_eq];intro e;rw[e]at this;omega
  unfold jd at f ⊢;rw[List.zip_cons_cons,List.find?_cons_of_neg (by simpa using j)];exact f
theorem sr(h:k∉ks):jd (ks.zip vs) k=none:=by
 unfold jd;refine List.find?_eq_none.2 (λ x a=>?_);have:=(List.of_mem_zip a).1;simp;intro e;exact h (e▸this)
theorem IK(d:eu ks k i)(n:Y vs=Y ks):fe (ks.zip vs) k=(match ks[i]?,vs[i]? with|some a,some b=>some (a,b)|_,_=>none):=by
 have o:=d.le;have e:ks.zip vs=(ks.take i).zip (vs.take i)++(ks.drop i).zip (vs.drop i):=(VU ks vs i).symm;rw[e,Qn (λ x h=>?_)]
 ·rcases yu i (Y ks) with c|c
  ·have g:ks.drop i=ks[i]::ks.drop (i+1):=(jY c);have l:vs.drop i=vs[i]::vs.drop (i+1):=(jY Z);have:=d.above i ks[i] (aH _) (bK c);rw[g,l,List.zip_cons_cons,bK c,bK (show i<Y vs from Z)];unfold fe;rw[List.find?_cons_of_pos (by simpa using this)]
  rw[List.drop_eq_nil_of_le c,ja c];rfl
 obtain⟨j,m,f⟩:=fU (List.of_mem_zip h).1;rw[zt]at m;rw[List.getElem_take]at f;exact d.below j x.1 Z (by rw[bK Z,f])
theorem dR.val(h:dR A d s ag ah i t)(a:dQ ag k i):jd s.l k=jd t.l k:=by
 rw[h.l,Gs h.at_,KB (KP (h.lJ.left h.at_ a.below)) (Rk (h.lJ.right h.at_ a.above))]
theorem dR.last(h:dR A d s ag ah i t)(a:dQ ag k i)(b:i+1=Y ah):fe s.l k=fe t.l k:=by
 rw[h.l,Gs h.at_,Qn (KP (h.lJ.left h.at_ a.below)),List.drop_eq_nil_of_le Z];show fe (t.l++[]) k=_;rw[jl]
theorem dR.right(h:dR A d s ag ah i t)(c:dQ ag k i)(b:ah[i+1]?=some u):fe s.l k=(fe t.l k).or (fe u.l k)/\(∃x,fe u.l k=some x)/\u.l≠[]/\(∀x∈u.l,k.toNat<=x.1.toNat):=by
 have l:u∈ah.drop (i+1):=List.mem_iff_getElem?.2 ⟨0,by rw[eP];exact b⟩;have g:∀x∈u.l,k.toNat<=x.1.toNat:=λ x a=>Nat.le_of_lt (h.lJ.right h.at_ c.above u l x a)
 have f:u.l≠[]:=λ j=>by
  have e:=h.lJ.all u (dU b);have:=e.1.many _ _ e.2;rw[j]at this;simp at this
 obtain⟨x,a⟩:=R6 f g;refine⟨?_,⟨x,a⟩,f,g⟩
 have hd:ah.drop (i+1)=u::ah.drop (i+2):=by
  have hi:=(dz.1 b).1;rw[jY hi,(dz.1 b).2]
 rw[h.l,Gs h.at_,Qn (KP (h.lJ.left h.at_ c.below)),cQ,hd,vw,cQ,a];rfl
structure At(A:AP)(d:Nat)(t:Sb):Prop where
 tr:Tr (aB A) d t
 has:∀p∈t.ps,A.Has p
theorem At.kid(h:At A (d+1) s)(a:dR A d s ag ah i t):At A d t/\ji (aB A) t.pg:=by
 have b:=a.lJ.all t a.mem;exact⟨⟨b.1,λ p c=>h.has p (a.sub p c)⟩,b.2⟩
theorem EV{l:List Nat}{k:Nat}(h:l[j]?=some k):rT (l.take (j+1))=rT (l.take j)++aJ (UInt32.ofNat k):=by
 unfold rT;rw[List.take_add_one,h];simp
theorem FV{l:List UInt64}(h:l[j]?=some k):qo (l.take (j+1))=qo (l.take j)++b64 k:=by
 unfold qo;rw[List.take_add_one,h];simp
theorem Gi(l:List Nat)(i k:Nat)(h:l[i]?=some k):(ints l)[i]?=some (V U (k:Int)):=by unfold ints;rw[dL,h];rfl
theorem A5(h:jU S W nb x)(X:x.leaf=false)(hk:Y x.ak<=40)(hn:Y x.ag<=42)(J:∀k∈x.ak,k<4294967296)(n:aF W z y)(h6:Y y=cap)(hc:504<=cap)(G:¬S z) :
  Calls prog 134 #[ad z 504 cap,aq nb] W λ e M=>e=aw (a9 #[])/\aF M z (vk y x.ag x.ak)/\Only z W M:=by
 obtain⟨kv,vv,av,a,R,⟨ka,kc,rfl,h3,A⟩,_,⟨aa,ac,rfl,h5,D⟩⟩:=h;rw[dH,iC,X]at a;rw[dH]at h3;rw[iC]at h5;have c0:=a.c0;have c3:=a.c3;have h0:nb≠z:=λ e=>G (e▸R);have T:=n.cell (i:=0) Z;have d1:=n.cell (i:=1) Z;have f0:=n.free (i:=0) Z;have f1:=n.free (i:=1) Z;have O:((UInt8.ofNat (Y x.ak)).toNat:Int)=Y x.ak:=by rw[UInt8.toNat_ofNat'];omega
 have B:=(n.set 0 2).set 1 (UInt8.ofNat (Y x.ak));have F:=((Only.refl z W).set 0 (V .u8 ((2:UInt8).toNat:Int))).set 1 (V .u8 ((UInt8.ofNat (Y x.ak)).toNat:Int));rw[O,show((2:UInt8).toNat:Int)=2 from rfl]at B F;have P:=bg B F;have HB:=zH a;have h7:=zH J;clear O B F a J
 go_enter func134,ntmps134
 go_wp2_with fail
 obtain⟨H,I⟩:=P.out;have E:((y.set 0 2).set 1 (UInt8.ofNat (Y x.ak))).length=cap:=by rw[aV,aV];exact h6
 generalize Q:(y.set 0 2).set 1 (UInt8.ofNat (Y x.ak))=o at H E;have V4:=zH Q;clear Q P
 go_loopw [70] (λ l wr=>∃j:Nat,l=V U j/\j<=Y x.ak/\aF wr z (UK.wr o 4 (rT (x.ak.take j)))/\Only z W wr) (λ l _=>50-(intOf l).toNat)
 case atStart=>exact⟨0,rfl,aR _,by rw[kU];show aF _ _ (UK.wr o 4 []);rw[UK.Po];exact H,I⟩
 clear H I n c0 c3 T d1 f0 f1;obtain⟨j,rfl,hj,a,c⟩:=hrel;by_cases h1:j<Y x.ak
 ·obtain⟨b,d⟩:∃k,x.ak[j]?=some k:=⟨_,bK h1⟩;obtain⟨g,h2,rfl,C,f⟩:=D j _ (Gi _ _ _ d);have v:g≠z:=λ e=>G (e▸C);replace f:=c.cell f v;have p:(rT (x.ak.take j)).length=4*j:=by rw[E8,zt];omega
  have w:(UK.wr o 4 (rT (x.ak.take j))).length=cap:=by rw[UK.jF _ _ _ Z];exact E
  have m:=UK.BV o 4 (rT (x.ak.take j)) (aJ (UInt32.ofNat b)) Z;rw[p,<-EV d]at m;have he:b<4294967296:=h7.out b (dU d);have N:((UInt32.ofNat b).toNat:Int)=(b:Int):=by rw[UInt32.toNat_ofNat'];omega
  have i:=GD a (4+4*j) (504-(4+4*j)) (cap-(4+4*j)) Z Z Z (UInt32.ofNat b);rw[m,N]at i;have s:=zH i;have t:=zH c;have ha:(0:Int)<=(b:Int):=Z
  have hb:(b:Int)<4294967296:=Z
  clear i m w p A D d a c N
  go_wp2_with fail
  refine s.out.mono ?_;rintro e w1 ⟨rfl,b1,r⟩;have q:=bg b1 (t.out.trans r);clear s t b1 r f;go_wp2;go_roundw
  case rel=>exact⟨j+1,by go_num,Z,q.out.1,q.out.2⟩
  case measure=>simp[intOf];omega
 obtain rfl:j=Y x.ak:=Z
 rw[dY]at a;have h4:(rT x.ak).length=4*Y x.ak:=E8 _;have K:(UK.wr o 4 (rT x.ak)).length=cap:=by rw[UK.jF _ _ _ Z];exact E
 have c1:wr.cell? (nb,1)=some (ad ka (Y x.ag) kc):=c.cell (HB.out.cell 1 _ rfl) h0;generalize L:UK.wr o 4 (rT x.ak)=u at a K;have HZ:=zH L;clear L h4
 go_wp2_with fail
 go_loopw [89] (λ l wr'=>∃j:Nat,l=V U j/\j<=Y x.ag/\aF wr' z (UK.wr u 164 (qo (x.ag.take j)))/\Only z W wr') (λ l _=>50-(intOf l).toNat)
 case atStart=>exact⟨0,rfl,aR _,by rw[kU];show aF _ _ (UK.wr u 164 []);rw[UK.Po];exact a,c⟩
 clear a c c1;obtain⟨j,rfl,h9,a,c⟩:=hrel;by_cases h8:j<Y x.ag
 ·obtain⟨b,d⟩:∃k,x.ag[j]?=some k:=⟨_,bK h8⟩;obtain⟨g,h2,rfl,C,f⟩:=A j _ (tO _ _ _ d);have v:g≠z:=λ e=>G (e▸C);replace f:=c.cell f v;have p:(qo (x.ag.take j)).length=8*j:=by rw[QW,zt];omega
  have w:(UK.wr u 164 (qo (x.ag.take j))).length=cap:=by rw[UK.jF _ _ _ Z];exact K
  have m:=UK.BV u 164 (qo (x.ag.take j)) (b64 b) Z;rw[p,<-FV d]at m;have i:=V5 a (164+8*j) (504-(164+8*j)) (cap-(164+8*j)) Z Z Z Z b;rw[show aJ (UK.lV b)++aJ (UK.mJ b)=b64 b from rfl,m]at i;have s:=zH i;have t:=zH c;clear i m w p A D d a c
  go_wp2_with fail
  refine s.out.mono ?_;rintro e w1 ⟨rfl,b1,r⟩;have q:=bg b1 (t.out.trans r);clear s t b1 r f;go_wp2;go_roundw
  case rel=>exact⟨j+1,by go_num,Z,q.out.1,q.out.2⟩
  case measure=>simp[intOf];omega
 obtain rfl:j=Y x.ag:=Z
 rw[dY]at a;go_wp2;refine bodyPost_end (results_none rfl _ _ _) rfl ?_;refine⟨rfl,?_,c⟩;unfold vk;rw[V4.out,HZ.out];exact a
theorem ix(h:jU S W nb x)(f:Fits x)(c:aF W z y)(g:Y y=cap)(k:504<=cap)(i:¬S z) :
  Calls prog 134 #[ad z 504 cap,aq nb] W λ e d=>e=aw (a9 #[])/\aF d z (aX y x)/\Only z W d:=by
 unfold aX
 cases a:x.leaf with
 | true=>
  obtain⟨b,j,_⟩:=f.leaf a;rw[be rfl];exact V6 h a b j c g k i
 | false=>
  obtain⟨b,j,m,_,l⟩:=f.inner a;rw[aE (by decide)];exact A5 h a m Z l c g k i
