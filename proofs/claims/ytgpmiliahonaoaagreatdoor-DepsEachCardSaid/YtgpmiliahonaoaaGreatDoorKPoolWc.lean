/- Facts on texts and trees on pages. -/
import Derived.Test.YtgpmiliahonaoaaGreatDoorKDiskRc
import Derived.Defers
set_option maxRecDepth 100000
set_option maxHeartbeats 8000000
set_option linter.unusedSimpArgs false
namespace Go.Proofs.YtgpmiliahonaoaaGreatDoor
open Go.RowKit
def Q5(o:Option Fr):Prop:=∀f,o=some f->¬0<f.ah/\f.used=false
def Q6(o:Option Fr):Prop:=∀f,o=some f->¬0<f.ah
theorem Wo(n:Nat){l:List (Option Fr)}{h:Nat}(hh:h<l.length) :
  (jB (n+1) l h).1≠none\/∃(f:Fr) (l':List (Option Fr)),l[h]?=some (some f)/\jB (n+1) l h=jB n l' ((h+1)%l.length)/\((0<f.ah/\l'=l)\/(¬0<f.ah/\f.used=true/\l'=l.set h (some {f with used:=false}))):=by
 cases ho:l[h]? with
 | none=>exact absurd ho (by rw[bL hh];exact λ h=>by cases h)
 | some o=>
  cases o with
  | none=>left;rw[GX n ho];exact λ h=>by cases h
  | some f=>
   rw[GY n ho];by_cases hp:0<f.ah
   ·right
    exact⟨f,l,rfl,by rw[if_pos hp],.inl ⟨hp,rfl⟩⟩
   by_cases hu:f.used=true
   ·right
    exact⟨f,_,rfl,by rw[if_neg hp,if_pos hu],.inr ⟨hp,hu,rfl⟩⟩
   left
   rw[if_neg hp,if_neg hu];exact λ h=>by cases h
theorem Wp:∀(j n:Nat) (l:List (Option Fr)) (h i:Nat),h<l.length->(h+j)%l.length=i->j<l.length->(∀o,l[i]?=some o->Q5 o)->j+1<=n->(jB n l h).1≠none
 | j,0,_,_,_,_,_,_,_,hn=>absurd hn (by omega)
 | j,n+1,l,h,i,hh,hi,hj,hr,hn=>by
  rcases Wo n hh with h1|⟨f,l',hf,he,hc⟩
  ·exact h1
  have hil:i<l.length:=by rw[<-hi];exact jr _ (by omega)
  by_cases e:h=i
  ·subst e;obtain⟨r1,r2⟩:=hr _ hf f rfl;rcases hc with⟨hp,_⟩|⟨_,hu,_⟩
   ·exact absurd hp r1
   rw[r2]at hu;cases hu
  have hj0:j≠0:=λ e0=>by
   subst e0;rw[jN,wV hh]at hi;exact e hi
  have hl':l'.length=l.length:=by
   rcases hc with⟨_,rfl⟩|⟨_,_,rfl⟩
   ·rfl
   exact aQ
  rw[he];rw[<-hl'];refine Wp (j-1) n l' ((h+1)%l'.length) i (jr _ (by omega)) ?_ (by omega) (λ o ho=>?_) (by omega)
  ·rw[hl',<-hi,Nat.mod_add_mod]
   congr 1
   omega
  rcases hc with⟨_,rfl⟩|⟨_,_,rfl⟩
  ·exact hr o ho
  rw[fJ _ _ _ _ hh,if_neg e]at ho;exact hr o ho
theorem Wq:∀(j n:Nat) (l:List (Option Fr)) (h i:Nat),h<l.length->(h+j)%l.length=i->j<l.length->(∀o,l[i]?=some o->Q6 o)->j+1+l.length<=n->(jB n l h).1≠none
 | j,0,_,_,_,_,_,_,_,hn=>absurd hn (by omega)
 | j,n+1,l,h,i,hh,hi,hj,hr,hn=>by
  rcases Wo n hh with h1|⟨f,l',hf,he,hc⟩
  ·exact h1
  have hil:i<l.length:=by rw[<-hi];exact jr _ (by omega)
  have hl':l'.length=l.length:=by
   rcases hc with⟨_,rfl⟩|⟨_,_,rfl⟩
   ·rfl
   exact aQ
  by_cases e:h=i
  ·subst e;have r1:=hr _ hf f rfl;rcases hc with⟨hp,_⟩|⟨_,hu,rfl⟩
   ·exact absurd hp r1
   rw[he,<-hl'];refine Wp (l.length-1) n _ _ h (jr _ (by omega)) ?_ (by omega) (λ o ho=>?_) (by omega)
   ·rw[hl',Nat.mod_add_mod,show h+1+(l.length-1)=h+l.length by omega,Nat.add_mod_right,wV hh]
   rw[fJ _ _ _ _ hh,if_pos rfl]at ho;intro g hg;rw[<-aZ ho]at hg;rw[<-aZ hg];exact⟨r1,rfl⟩
  have hj0:j≠0:=λ e0=>by
   subst e0;rw[jN,wV hh]at hi;exact e hi
  rw[he,<-hl'];refine Wq (j-1) n l' ((h+1)%l'.length) i (jr _ (by omega)) ?_ (by omega) (λ o ho=>?_) (by omega)
  ·rw[hl',<-hi,Nat.mod_add_mod]
   congr 1
   omega
  rcases hc with⟨_,rfl⟩|⟨_,_,rfl⟩
  ·exact hr o ho
  rw[fJ _ _ _ _ hh,if_neg e]at ho;exact hr o ho
theorem xn6(l:List (Option Fr))(h i:Nat)(hh:h<l.length)(hi:i<l.length)(hr:∀o,l[i]?=some o->Q6 o):(jB (2*l.length) l h).1≠none:=by
 refine Wq ((i+l.length-h)%l.length) (2*l.length) l h i hh ?_ (jr _ (by omega)) hr ?_
 ·rw[Nat.add_mod_mod,show h+(i+l.length-h)=i+l.length by omega,Nat.add_mod_right,wV hi]
 have:=jr (i+l.length-h) (show 0<l.length by omega);omega
theorem Ng:∀(n:Nat) (l:List (Option Fr)) (h:Nat),h<l.length->∀(i:Nat) (g:Fr),(jB n l h).2.1[i]?=some (some g)->∃f:Fr,l[i]?=some (some f)/\(g=f\/g={f with used:=false})
 | 0,_,_,_,_,g,hg=>⟨g,hg,.inl rfl⟩
 | n+1,l,h,hh,i,g,hg=>by
  have ho:∃o,l[h]?=some o:=⟨_,bL hh⟩;obtain⟨o,ho⟩:=ho
  cases o with
  | none=>rw[GX n ho]at hg;exact⟨g,hg,.inl rfl⟩
  | some f=>
   rw[GY n ho]at hg;by_cases hp:0<f.ah
   ·rw[if_pos hp]at hg;exact Ng n l _ (jr _ (by omega)) i g hg
   rw[if_neg hp]at hg;by_cases hu:f.used=true
   ·rw[if_pos hu]at hg;obtain⟨f2,h2,h3⟩:=Ng n (l.set h (some {f with used:=false})) _ (by rw[aQ];exact jr _ (by omega)) i g hg;rw[fJ _ _ _ _ hh]at h2;by_cases e:h=i
    ·subst e;rw[if_pos rfl]at h2;have e2:=aZ (aZ h2);subst e2;exact⟨f,ho,.inr (by rcases h3 with rfl|rfl<;>rfl)⟩
    rw[if_neg e]at h2;exact⟨f2,h2,h3⟩
   rw[if_neg hu]at hg;exact⟨g,hg,.inl rfl⟩
theorem Nh:∀(n:Nat) (l:List (Option Fr)) (h:Nat),h<l.length->∀(i:Nat) (f:Fr),l[i]?=some (some f)->∃g:Fr,(jB n l h).2.1[i]?=some (some g)/\(g=f\/g={f with used:=false})
 | 0,_,_,_,_,f,hf=>⟨f,hf,.inl rfl⟩
 | n+1,l,h,hh,i,f,hf=>by
  have ho:∃o,l[h]?=some o:=⟨_,bL hh⟩;obtain⟨o,ho⟩:=ho
  cases o with
  | none=>rw[GX n ho];exact⟨f,hf,.inl rfl⟩
  | some u=>
   rw[GY n ho];by_cases hp:0<u.ah
   ·rw[if_pos hp];exact Nh n l _ (jr _ (by omega)) i f hf
   rw[if_neg hp];by_cases hu:u.used=true
   ·rw[if_pos hu];by_cases e:h=i
    ·subst e;rw[ho]at hf;have e2:=aZ (aZ hf);subst e2;obtain⟨g,h2,h3⟩:=Nh n (l.set h (some {u with used:=false})) ((h+1)%l.length) (by rw[aQ];exact jr _ (by omega)) h {u with used:=false} (by rw[fJ _ _ _ _ hh,if_pos rfl]);exact⟨g,h2,.inr (by rcases h3 with rfl|rfl<;>rfl)⟩
    exact Nh n (l.set h (some {u with used:=false})) ((h+1)%l.length) (by rw[aQ];exact jr _ (by omega)) i f (by rw[fJ _ _ _ _ hh,if_neg e];exact hf)
   rw[if_neg hu];exact⟨f,hf,.inl rfl⟩
structure Calm(q:Pl)(d:Dk)(au:Nat)(c:Nat->List UInt8):Prop where
 clean:Clean d au
 at_:∀(i:Nat) (f:Fr),q.af[i]?=some (some f)->f.data=c f.page.toNat
 off:∀p,1<=p->p<au->p∉d.free->(∀(i:Nat) (f:Fr),q.af[i]?=some (some f)->f.page=(p:Nat)->f.bM=false)->jX d.x p=c p
section
variable{q:Pl}{d:Dk}{au:Nat}{c:Nat->List UInt8}
theorem Calm.forget(h:Calm q d au c){i:Nat}{f:Fr}(hi:q.af[i]?=some (some f))(hd:f.bM=false)(hand:Nat)(ah:Int)(op:Option kz):Calm {af:=q.af.set i none,hand:=hand,ah:=ah,op:=op} d au c:=by
 have hl:=(dE.1 hi).1;refine⟨h.clean,λ j g hj=>?_,λ p h1 h2 h3 h4=>h.off p h1 h2 h3 (λ j g hj hg=>?_)⟩
 ·replace hj:(q.af.set i none)[j]?=some (some g):=hj;rw[fJ _ _ _ _ hl]at hj;by_cases e:i=j
  ·rw[if_pos e]at hj;cases hj
  rw[if_neg e]at hj;exact h.at_ j g hj
 by_cases e:i=j
 ·subst e;rw[hi]at hj;rw[<-aZ (aZ hj)];exact hd
 exact h4 j g (by show(q.af.set i none)[j]?=_;rw[fJ _ _ _ _ hl,if_neg e];exact hj) hg
theorem Calm.vg(h:Calm q d au c)(hh:q.hand<q.af.length)(n:Nat)(hand:Nat)(ah:Int)(op:Option kz):Calm {af:=(jB n q.af q.hand).2.1,hand:=hand,ah:=ah,op:=op} d au c:=by
 refine⟨h.clean,λ i g hg=>?_,λ p h1 h2 h3 h4=>h.off p h1 h2 h3 (λ i f hf hp=>?_)⟩
 ·obtain⟨f,hf,e⟩:=Ng n q.af q.hand hh i g hg;have:=h.at_ i f hf;rcases e with rfl|rfl<;>exact this
 obtain⟨g,hg,e⟩:=Nh n q.af q.hand hh i f hf;have:=h4 i g hg (by rcases e with rfl|rfl<;>exact hp);rcases e with rfl|rfl<;>exact this
theorem Ws(hc:Clean d au)(p r:Nat)(hp:p<au)(hr:r<au)(s:List UInt8)(hs:s.length=504):jX (CQ d p s).x r=if p=r then s else jX d.x r:=by
 have hx:=hc.fit.len;have h6:=hc.fit.few;by_cases e:p=r
 ·subst e;rw[if_pos rfl];exact(Ty d.x p (by omega) s hs (by omega)).1
 rw[if_neg e];have e2:gU (UK.wr d.x (512*p) (iX p s)) r=gU d.x r:=by rw[El d.x p r _ (zY p s (by omega)) (by omega) (by omega),if_neg e]
 show jX (UK.wr d.x (512*p) (iX p s)) r=_;unfold jX;rw[xR,xR,Be,Be,e2]
theorem Calm.write(h:Calm q d au c)(h3:d.puts+1<1000000000){i:Nat}{f:Fr}(hi:q.af[i]?=some (some f)){p:Nat}(hp:f.page=(p:Nat))(hlt:p<au)(hfr:p∉d.free)(aD:f.data.length=504)(hand:Nat)(ah:Int)(op:Option kz):Calm {af:=q.af.set i none,hand:=hand,ah:=ah,op:=op} (CQ d p f.data) au c:=by
 have hl:=(dE.1 hi).1;refine⟨h.clean.write h3 p hlt hfr f.data (by omega),λ j g hj=>?_,λ r h1 h2 hr h4=>?_⟩
 ·replace hj:(q.af.set i none)[j]?=some (some g):=hj;rw[fJ _ _ _ _ hl]at hj;by_cases e:i=j
  ·rw[if_pos e]at hj;cases hj
  rw[if_neg e]at hj;exact h.at_ j g hj
 rw[Ws h.clean p r hlt h2 f.data aD];by_cases e:p=r
 ·subst e;rw[if_pos rfl];have:=h.at_ i f hi;rw[hp,Int.toNat_natCast]at this;exact this
 rw[if_neg e];refine h.off r h1 h2 hr (λ j g hj hg=>?_)
 have hji:i≠j:=λ e2=>by
  subst e2;rw[hi]at hj;have e3:=aZ (aZ hj);subst e3;rw[hp]at hg;exact e (by omega)
 exact h4 j g (by show(q.af.set i none)[j]?=_;rw[fJ _ _ _ _ hl,if_neg hji];exact hj) hg
theorem Calm.lay(h:Calm q d au c){i:Nat}(hi:q.af[i]?=some none){f:Fr}(hf:f.data=c f.page.toNat)(hand:Nat)(ah:Int)(op:Option kz):Calm {af:=q.af.set i (some f),hand:=hand,ah:=ah,op:=op} d au c:=by
 have hl:=(dE.1 hi).1;refine⟨h.clean,λ j g hj=>?_,λ p h1 h2 h3 h4=>h.off p h1 h2 h3 (λ j g hj hg=>?_)⟩
 ·replace hj:(q.af.set i (some f))[j]?=some (some g):=hj;rw[fJ _ _ _ _ hl]at hj;by_cases e:i=j
  ·rw[if_pos e]at hj;rw[<-aZ (aZ hj)];exact hf
  rw[if_neg e]at hj;exact h.at_ j g hj
 have e:i≠j:=λ e=>by subst e;rw[hi]at hj;cases hj
 exact h4 j g (by show(q.af.set i (some f))[j]?=_;rw[fJ _ _ _ _ hl,if_neg e];exact hj) hg
theorem Wt(p:Nat):iX p []=iX p (UK.bF 504):=by
 have e:pX p []=pX p (UK.bF 504):=by
  have h1:([]:List UInt8)++UK.bF (504-([]:List UInt8).length)=UK.bF 504++UK.bF (504-(UK.bF 504).length):=by
   rw[UK.jm,kN,jM,List.length_nil,Nat.sub_zero];exact(jL _).symm
  unfold pX;rw[h1]
 unfold iX;rw[e]
theorem xrb(hc:Clean d au){l:List Nat}{p:Nat}(hl:d.free=l++[p])(r:Nat)(hr:r<au):jX (gL d l p).x r=if p=r then UK.bF 504 else jX d.x r:=by
 have hp:=hc.fit.free p (by rw[hl];exact lI _ (bz.2 rfl));have e:=Ws hc p r hp.2 hr (UK.bF 504) (UK.jm 504);show jX (UK.wr d.x (512*p) (iX p [])) r=_;rw[Wt];exact e
def bS(c:Nat->List UInt8)(p:Nat)(s:List UInt8):Nat->List UInt8:=λ r=>if p=r then s else c r
theorem Calm.nat(h:Calm q d au c){f:Fr}(hh:aX d au f.page=true):∃p:Nat,f.page=p/\1<=p/\p<au/\p∉d.free:=by
 rw[h.clean.so.kP,decide_eq_true_eq]at hh;exact⟨f.page.toNat,by omega,by omega,by omega,hh.2.2⟩
theorem Calm.gL(h:Calm q d au c)(h3:d.puts+1<1000000000){l:List Nat}{p:Nat}(hl:d.free=l++[p])(hh:∀(i:Nat) (f:Fr),q.af[i]?=some (some f)->aX d au f.page=true):Calm q (gL d l p) au (bS c p (UK.bF 504)):=by
 have hpm:p∈d.free:=by rw[hl];exact lI _ (bz.2 rfl)
 refine⟨h.clean.gL h3 l p hl,λ i f hi=>?_,λ r h1 h2 hr h4=>?_⟩
 ·obtain⟨a,ha,_,_,hf⟩:=h.nat (hh i f hi);have:=h.at_ i f hi;unfold bS;rw[ha,Int.toNat_natCast]at this ⊢;have hne:¬p=a:=λ e=>by subst e;exact hf hpm
  rw[if_neg hne];exact this
 rw[xrb h.clean hl r h2];unfold bS;by_cases e:p=r
 ·rw[if_pos e,if_pos e]
 rw[if_neg e,if_neg e];refine h.off r h1 h2 (λ hm=>?_) h4;rw[hl]at hm;rcases dD.1 hm with hm|hm
 ·exact hr hm
 exact e (bz.1 hm).symm
theorem xrc(hc:Clean d au)(p r:Nat)(hp:p<au)(hr:r<au)(s:List UInt8)(hs:s.length<=504)(e:p≠r):jX (UK.wr d.x (512*p) (iX p s)) r=jX d.x r:=by
 have hx:=hc.fit.len;have e2:gU (UK.wr d.x (512*p) (iX p s)) r=gU d.x r:=by rw[El d.x p r _ (zY p s hs) (by omega) (by omega),if_neg e]
 unfold jX;rw[xR,xR,Be,Be,e2]
theorem xrd(hc:Clean d au)(hm:au<60000)(r:Nat)(hr:r<au+1):jX (takeN d au).x r=if au=r then UK.bF 504 else jX d.x r:=by
 have hx:=hc.fit.len;have hx2:(d.x++UK.bF 512).length=512*(au+1):=by rw[zl,UK.jm];omega
 show jX (UK.wr (d.x++UK.bF 512) (512*au) (iX au [])) r=_;by_cases e:au=r
 ·subst e;rw[if_pos rfl,Wt];exact(Ty _ au (by omega) (UK.bF 504) (UK.jm 504) (by omega)).1
 rw[if_neg e];have e2:gU (UK.wr (d.x++UK.bF 512) (512*au) (iX au [])) r=gU (d.x++UK.bF 512) r:=by rw[El _ au r _ (zY au [] (by decide)) (by omega) (by omega),if_neg e]
 have e3:gU (d.x++UK.bF 512) r=gU d.x r:=by
  unfold gU;rw[List.drop_append_of_le_length (by omega),qE (by rw[zd];omega)]
 unfold jX;rw[xR,xR,Be,Be,e2,e3]
theorem Calm.takeN(h:Calm q d au c)(h3:d.puts+1<1000000000)(hl:d.free=[])(hm:(au:Int)<d.aC)(hh:∀(i:Nat) (f:Fr),q.af[i]?=some (some f)->aX d au f.page=true):Calm q (takeN d au) (au+1) (bS c au (UK.bF 504)):=by
 have hmo:=h.clean.fit.aC;refine⟨h.clean.takeN h3 hl hm,λ i f hi=>?_,λ r h1 h2 hr h4=>?_⟩
 ·obtain⟨a,ha,_,hlt,hf⟩:=h.nat (hh i f hi);have:=h.at_ i f hi;unfold bS;rw[ha,Int.toNat_natCast]at this ⊢;rw[if_neg (by omega)];exact this
 rw[xrd h.clean (by omega) r h2];unfold bS;by_cases e:au=r
 ·rw[if_pos e,if_pos e]
 rw[if_neg e,if_neg e];exact h.off r h1 (by omega) (by rw[hl];exact List.not_mem_nil) h4
theorem Calm.turn(h:Calm q d au c){i:Nat}{f g:Fr}(hi:q.af[i]?=some (some f))(hp:g.page=f.page)(JW:g.data=f.data)(hd:f.bM=true->g.bM=true)(hand:Nat)(ah:Int)(op:Option kz):Calm {af:=q.af.set i (some g),hand:=hand,ah:=ah,op:=op} d au c:=by
 have hl:=(dE.1 hi).1;refine⟨h.clean,λ j u hj=>?_,λ p h1 h2 h3 h4=>h.off p h1 h2 h3 (λ j u hj hu=>?_)⟩
 ·replace hj:(q.af.set i (some g))[j]?=some (some u):=hj;rw[fJ _ _ _ _ hl]at hj;by_cases e:i=j
  ·rw[if_pos e]at hj;rw[<-aZ (aZ hj),JW,hp];exact h.at_ i f hi
  rw[if_neg e]at hj;exact h.at_ j u hj
 by_cases e:i=j
 ·subst e;rw[hi]at hj;have e2:=aZ (aZ hj);subst e2;have:=h4 i g (by show(q.af.set i (some g))[i]?=_;rw[fJ _ _ _ _ hl,if_pos rfl]) (hp.trans hu)
  cases GZ:f.bM
  ·rfl
  rw[hd GZ]at this;cases this
 exact h4 j u (by show(q.af.set i (some g))[j]?=_;rw[fJ _ _ _ _ hl,if_neg e];exact hj) hu
theorem Calm.same(h:Calm q d au c)(hand:Nat)(ah:Int)(op:Option kz):Calm {af:=q.af,hand:=hand,ah:=ah,op:=op} d au c:=⟨h.clean,h.at_,h.off⟩
theorem Calm.Q7(h:Calm q d au c){i:Nat}{f:Fr}(hi:q.af[i]?=some (some f))(hd:f.bM=true)(hhas:∀(j:Nat) (g:Fr),q.af[j]?=some (some g)->aX d au g.page=true)(hinj:∀(j:Nat) (g:Fr),q.af[j]?=some (some g)->g.page=f.page->i=j)(s:List UInt8)(hand:Nat)(ah:Int)(op:Option kz) :
  Calm {af:=q.af.set i (some {f with data:=s}),hand:=hand,ah:=ah,op:=op} d au (bS c f.page.toNat s):=by
 have hl:=(dE.1 hi).1;obtain⟨p,hp,hp1,_,_⟩:=h.nat (hhas i f hi);refine⟨h.clean,λ j u hj=>?_,λ r h1 h2 h3 h4=>?_⟩
 ·replace hj:(q.af.set i (some {f with data:=s}))[j]?=some (some u):=hj;rw[fJ _ _ _ _ hl]at hj;unfold bS;by_cases e:i=j
  ·rw[if_pos e]at hj;rw[<-aZ (aZ hj)];show s=if f.page.toNat=f.page.toNat then s else _
   rw[if_pos rfl]
  rw[if_neg e]at hj;obtain⟨a,ha,_,_,_⟩:=h.nat (hhas j u hj);rw[if_neg (λ e2=>e (hinj j u hj (by omega)))];exact h.at_ j u hj
 unfold bS;by_cases e:f.page.toNat=r
 ·have:=h4 i {f with data:=s} (by show(q.af.set i _)[i]?=_;rw[fJ _ _ _ _ hl,if_pos rfl]) (by show f.page=_;omega);rw[show({f with data:=s}:Fr).bM=f.bM from rfl,hd]at this
  cases this
 rw[if_neg e];refine h.off r h1 h2 h3 (λ j u hj hu=>?_);by_cases e2:i=j
 ·subst e2;rw[hi]at hj;have e3:=aZ (aZ hj);subst e3;omega
 exact h4 j u (by show(q.af.set i _)[j]?=_;rw[fJ _ _ _ _ hl,if_neg e2];exact hj) hu
theorem Calm.give(h:Calm q d au c)(h3:d.puts+1<1000000000)(p:Nat)(h1:1<=p)(hp:p<au)(hf:p∉d.free){l:List (Option Fr)}(hsub:∀(j:Nat) (g:Fr),l[j]?=some (some g)->q.af[j]?=some (some g))(hkeep:∀(j:Nat) (g:Fr),q.af[j]?=some (some g)->g.page≠(p:Nat)->l[j]?=some (some g))(hand:Nat)(ah:Int)(op:Option kz) :
  Calm {af:=l,hand:=hand,ah:=ah,op:=op} (tu d p) au c:=by
 refine⟨h.clean.give h3 p h1 hp hf,λ j g hj=>h.at_ j g (hsub j g hj),λ r hr1 hr2 hr3 h4=>?_⟩;have hr3:r∉d.free++[p]:=hr3;have hne:p≠r:=λ e=>hr3 (by rw[e];exact lI _ (bz.2 rfl));refine(xrc h.clean p r hp hr2 _ (by rw[gT];decide) hne).trans (h.off r hr1 hr2 (λ hm=>hr3 (eF _ hm)) (λ j g hj hg=>h4 j g (hkeep j g hj (by omega)) hg))
theorem Calm.read(h:Calm q d au c)(h3:d.reads+1<1000000000):Calm q (CS d) au c:=
 ⟨h.clean.same (OD h.clean.fit h3) rfl rfl rfl (by show iC d.rl= -1;rw[h.clean.rl];rfl) h.clean.wl,h.at_,h.off⟩
theorem Wu:∀(l:List (Option Fr)),(∀(i:Nat) (f:Fr),l[i]?=some (some f)->0<=f.ah)->sJ l<l.length->∃i,i<l.length/\∀o,l[i]?=some o->Q6 o
 | [],_,h=>absurd h (by decide)
 | none::l,_,_=>⟨0,by simp,λ o ho f hf=>by
   rw[<-aZ ho]at hf;cases hf⟩
 | some f::l,hpos,h=>by
  by_cases hp:0<f.ah
  ·obtain⟨i,hi,hs⟩:=Wu l (λ j g hj=>hpos (j+1) g hj) (by
    have:sJ (some f::l)=f.ah+sJ l:=rfl;rw[this,dn]at h;omega)
   exact⟨i+1,by rw[dn];omega,λ o ho=>hs o ho⟩
  exact⟨0,by simp,λ o ho g hg=>by
   rw[<-aZ ho]at hg;rw[<-aZ hg];exact hp⟩
end
open UK (str aF nth Only Row ay kG sK)
open Go.BigFrame
section
variable{E:Nat->Prop}{W W':World}{P D FB M au k n:Nat}{kp:Int}{q:Pl}{d d':Dk}{c:Nat->List UInt8}
structure PS(E:Nat->Prop)(W:World)(P D FB M n:Nat)(kp:Int)(q:Pl)(d:Dk)(au k:Nat)(c:Nat->List UInt8):Prop where
 pd:PD E W P D FB M q d au
 ok:nO q
 l6:Ok d au k
 held:∀(j:Nat) (g:Fr),q.af[j]?=some (some g)->aX d au g.page=true
 ah:q.ah=kp
 len:q.af.length=n
 calm:Calm q d au c
 lim:∀o,q.op=some o->o.wn<=k/\o.made.length<=k/\o.gone.length<=k
theorem PS.next(h:PS E W P D FB M n kp q d au k c)(hb:Below W W W'):PS E W' P D FB M n kp q d au k c:=⟨h.pd.next hb,h.ok,h.l6,h.held,h.ah,h.len,h.calm,h.lim⟩
theorem PS.zg(h:PS E W P D FB M n kp q d au k c)(hb:Below W W W'):Kept E W W':=Kept.of_below hb (λ j hj=>h.pd.dd.there j (.inl hj))
theorem PS.up{m:Nat}(h:PS E W P D FB M n kp q d au k c)(hm:k<=m):PS E W P D FB M n kp q d au m c:=
 ⟨h.pd,h.ok,⟨h.l6.fit,h.l6.so,by have:=h.l6.puts;omega,by have:=h.l6.reads;omega⟩,h.held,h.ah,h.len,h.calm,λ o ho=>by have:=h.lim o ho;omega⟩
theorem PS.looks(h:PS E W P D FB M n kp q d au k c)(x:Nat):PS E (W.drewN x) P D FB M n kp q d au k c/\Kept E W (W.drewN x):=
 have hb:Below W W (W.drewN x):=UK.dK (aV _ _) x
 ⟨h.next hb,h.zg hb⟩
theorem PS.inj(h:PS E W P D FB M n kp q d au k c){i j:Nat}{f g:Fr}(hi:q.af[i]?=some (some f))(hj:q.af[j]?=some (some g))(e:f.page=g.page):i=j:=by
 obtain⟨mf,ha,_⟩:=h.pd.pool.map;exact ha.inj hi hj e
theorem PS.flag{i:Nat}{f g:Fr}{w1:World}(h:PS E W P D FB M n kp q d au k c)(hi:q.af[i]?=some (some f))(hs:Same f g)(hd:f.bM=true->g.bM=true)(hg:0<=g.ah/\g.ah<=1000000)(h1:PD E w1 P D FB M {af:=q.af.set i (some g),hand:=q.hand,ah:=q.ah-f.ah+g.ah,op:=q.op} d au) :
  PS E w1 P D FB M n (kp-f.ah+g.ah) {af:=q.af.set i (some g),hand:=q.hand,ah:=q.ah-f.ah+g.ah,op:=q.op} d au k c:=by
 have hl:=(dE.1 hi).1;refine⟨h1,h.ok.set hi (u:=some g) (λ x hx=>by rw[<-aZ hx];exact hg),h.l6,λ j u hj=>?_,by rw[<-h.ah],by show(q.af.set i _).length=n;rw[aQ];exact h.len,h.calm.turn hi hs.page hs.data hd _ _ _,h.lim⟩;replace hj:(q.af.set i (some g))[j]?=some (some u):=hj;rw[fJ _ _ _ _ hl]at hj;by_cases e:i=j
 ·rw[if_pos e]at hj;rw[<-aZ (aZ hj),hs.page];exact h.held i f hi
 rw[if_neg e]at hj;exact h.held j u hj
theorem xuf(h:PS E W P D FB M n kp q d au k c){i:Nat}{f:Fr}(hi:q.af[i]?=some (some f))(hp:0<f.ah)(hkp:0<kp/\kp<=1000000) :
  Calls Tryz.prog 65 #[.pointer f.blk] W λ e w'=>e= .returned (.tuple #[])/\PS E w' P D FB M n (kp-1) {af:=q.af.set i (some {f with ah:=f.ah-1}),hand:=q.hand,ah:=q.ah-1,op:=q.op} d au k c/\Kept E W w':=by
 have hfr:=h.pd.pool.each i f hi;have hpos:=h.ok.pos i f hi;have c0:=hfr.box.c0;have c3:=hfr.box.c3;have f3:=hfr.box.free 3;have h1:=h.pd.flag (g:={f with ah:=f.ah-1}) hi ⟨rfl,rfl,rfl,rfl,rfl⟩ ((Only.refl f.blk W).set 3 (.int .i64 (f.ah-1))) (hfr.box.set 3 (.int .i64 (f.ah-1)));have hb1:=h1.1.pool.box;have aD:(q.af.set i (some {f with ah:=f.ah-1})).length=q.af.length:=aQ;simp only at hb1;have c4:=hb1.c4;have f4:=hb1.free 4;have h2:=h1.1.own ((Only.refl P _).set 4 (.int .i64 (q.ah-1))) (hand:=q.hand) (ah:=q.ah-1) (hb1.set 4 (.int .i64 (q.ah-1)))
 have h3:=h.flag (g:={f with ah:=f.ah-1}) hi ⟨rfl,rfl,rfl,rfl,rfl⟩ (λ hh=>hh) (by show 0<=f.ah-1/\f.ah-1<=1000000;omega) (w1:=(W.setCell (f.blk,3) (.int .i64 (f.ah-1))).setCell (P,4) (.int .i64 (q.ah-1))) (by
  rw[show q.ah-f.ah+({f with ah:=f.ah-1}:Fr).ah=q.ah-1 by show q.ah-f.ah+(f.ah-1)=_;omega];exact h2.1)
 rw[show kp-f.ah+({f with ah:=f.ah-1}:Fr).ah=kp-1 by show kp-f.ah+(f.ah-1)=_;omega,show q.ah-f.ah+({f with ah:=f.ah-1}:Fr).ah=q.ah-1 by show q.ah-f.ah+(f.ah-1)=_;omega]at h3;have HF:=zH (zA h3 (h1.2.trans h2.2));have QI:0<q.ah:=by rw[h.ah];exact hkp.1
 have Kl:q.ah<=1000000:=by rw[h.ah];exact hkp.2
 have hne:f.blk≠P:=(h.pd.pool.off i (some f) f.blk hi (.inl rfl)).1;clear h1 h2 h3 hb1 hfr aD
 go_enter Tryz.func65,Tryz.ntmps65
 go_wp2
 go_end0
 exact⟨rfl,HF.out.1,HF.out.2⟩
theorem xn9(u:FrameMode)(h:PS E W P D FB M n kp q d au k c){i:Nat}{f:Fr}(hi:q.af[i]?=some (some f))(hp:0<f.ah)(hkp:0<kp/\kp<=1000000) :
  CallsD Tryz.prog 65 #[.pointer f.blk] u W λ e u' w'=>u'=u/\(e= .returned (.tuple #[])/\PS E w' P D FB M n (kp-1) {af:=q.af.set i (some {f with ah:=f.ah-1}),hand:=q.hand,ah:=q.ah-1,op:=q.op} d au k c/\Kept E W w'):=by
 have hfr:=h.pd.pool.each i f hi;have hpos:=h.ok.pos i f hi;have c0:=hfr.box.c0;have c3:=hfr.box.c3;have f3:=hfr.box.free 3;have h1:=h.pd.flag (g:={f with ah:=f.ah-1}) hi ⟨rfl,rfl,rfl,rfl,rfl⟩ ((Only.refl f.blk W).set 3 (.int .i64 (f.ah-1))) (hfr.box.set 3 (.int .i64 (f.ah-1)));have hb1:=h1.1.pool.box;have aD:(q.af.set i (some {f with ah:=f.ah-1})).length=q.af.length:=aQ;simp only at hb1;have c4:=hb1.c4;have f4:=hb1.free 4;have h2:=h1.1.own ((Only.refl P _).set 4 (.int .i64 (q.ah-1))) (hand:=q.hand) (ah:=q.ah-1) (hb1.set 4 (.int .i64 (q.ah-1)))
 have h3:=h.flag (g:={f with ah:=f.ah-1}) hi ⟨rfl,rfl,rfl,rfl,rfl⟩ (λ hh=>hh) (by show 0<=f.ah-1/\f.ah-1<=1000000;omega) (w1:=(W.setCell (f.blk,3) (.int .i64 (f.ah-1))).setCell (P,4) (.int .i64 (q.ah-1))) (by
  rw[show q.ah-f.ah+({f with ah:=f.ah-1}:Fr).ah=q.ah-1 by show q.ah-f.ah+(f.ah-1)=_;omega];exact h2.1)
 rw[show kp-f.ah+({f with ah:=f.ah-1}:Fr).ah=kp-1 by show kp-f.ah+(f.ah-1)=_;omega,show q.ah-f.ah+({f with ah:=f.ah-1}:Fr).ah=q.ah-1 by show q.ah-f.ah+(f.ah-1)=_;omega]at h3;have HF:=zH (zA h3 (h1.2.trans h2.2));have QI:0<q.ah:=by rw[h.ah];exact hkp.1
 have Kl:q.ah<=1000000:=by rw[h.ah];exact hkp.2
 have hne:f.blk≠P:=(h.pd.pool.off i (some f) f.blk hi (.inl rfl)).1;clear h1 h2 h3 hb1 hfr aD
 go_enter_d Tryz.func65,Tryz.ntmps65
 go_wp2
 go_end0
 exact⟨rfl,HF.out.1,HF.out.2⟩
theorem PD.zh(h:PD E W P D FB M q d au){op':Option kz}(hos:W'.os=W.os)(Km:W'.tape=W.tape)(hout:W'.output=W.output)(hsz:W.heap.size<=W'.heap.size)(hb:ay W' P (nW D FB q.af.length M q.hand q.ah op'))(hop:uB W' op')(hown:∀j,sN op' j->sN q.op j\/W.heap.size<=j)
  (hk:∀j,j<W.heap.size->j≠P->¬sN q.op j->W'.heap[j]?=W.heap[j]?):PD E W' P D FB M {af:=q.af,hand:=q.hand,ah:=q.ah,op:=op'} d au/\Kept E W W':=by
 have hp:=h.pool;obtain⟨f,hf,hm⟩:=hp.map;have Ka:=hp.box.lt;have Nk:=hp.sO.lt;have QE:M<W.heap.size:=hp.lt (.inr (.inr (.inl rfl)));have hno:∀j,sN q.op j->j≠P/\j≠FB/\j≠M:=hp.jk;have WC:∀(i:Nat) (o:Option Fr) (j:Nat),q.af[i]?=some o->mV o j->W'.heap[j]?=W.heap[j]?:=λ i o j hi ho=>hk j (hp.xz hi ho) (hp.off i o j hi ho).1 (hp.nG i o j hi ho);refine h.moves (q':={af:=q.af,hand:=q.hand,ah:=q.ah,op:=op'}) ⟨hos,Km,hout,hsz,λ j hj hn=>hk j hj (λ e=>hn (.inl e)) (λ e=>hn (.inr (.inr (.inr (.inl e))))),λ j hj=>?_⟩ ⟨hb,hp.sO.ae hsz (hk FB Nk hp.PF.symm (λ e=>(hno FB e).2.1 rfl)),⟨f,hf,hm.ae (hk M QE hp.PM.symm (λ e=>(hno M e).2.2 rfl))⟩,λ i g hi=>(hp.each i g hi).ae (WC i _ _ hi (.inl rfl)) (WC i _ _ hi (.inr rfl)),hp.PF,hp.PM,hp.FM,hp.off,hp.two,hop,λ j hj=>?_,λ i o j hi ho hj=>?_,λ j hj=>?_⟩
 ·rcases hj with hj|hj|hj|hj|hj
  ·exact .inl (.inl hj)
  ·exact .inl (.inr (.inl hj))
  ·exact .inl (.inr (.inr (.inl hj)))
  ·rcases hown j hj with h1|h1
   ·exact .inl (.inr (.inr (.inr (.inl h1))))
   exact .inr h1
  exact .inl (.inr (.inr (.inr (.inr hj))))
 ·rcases hown j hj with h1|h1
  ·exact hno j h1
  exact⟨by omega,by omega,by omega⟩
 ·rcases hown j hj with h1|h1
  ·exact hp.nG i o j hi ho h1
  have:=hp.xz hi ho;omega
 rcases hj with hj|hj|hj|hj|hj
 ·exact hp.tab j (.inl hj)
 ·exact hp.tab j (.inr (.inl hj))
 ·exact hp.tab j (.inr (.inr (.inl hj)))
 ·rcases hown j hj with h1|h1
  ·exact hp.tab j (.inr (.inr (.inr (.inl h1))))
  have:=h.dd.tab.lt;omega
 exact hp.tab j (.inr (.inr (.inr (.inr hj))))
theorem PS.op{op':Option kz}(h:PS E W P D FB M n kp q d au k c)(hl:∀o,op'=some o->o.wn<=k/\o.made.length<=k/\o.gone.length<=k)(hp:PD E W' P D FB M {af:=q.af,hand:=q.hand,ah:=q.ah,op:=op'} d au):PS E W' P D FB M n kp {af:=q.af,hand:=q.hand,ah:=q.ah,op:=op'} d au k c:=
 ⟨hp,⟨h.ok.ah,h.ok.pos,h.ok.hand,h.ok.few⟩,h.l6,h.held,h.ah,h.len,h.calm.same _ _ _,hl⟩
def xw(o:Option kz)(p:Int)(s:List UInt8):Option kz:=match o with
 | none=>none
 | some o=>if p∈o.made\/(o.was p).isSome=true then some o else some {o with was:=λ j=>if j=p then some s else o.was j,wn:=o.wn+1}
def yae(o:Option kz):Prop:=∀x,o=some x->x.wn<1000000000
theorem xug{o:Option kz}{p:Int}{s:List UInt8}(h:∀x,o=some x->x.wn<=k/\x.made.length<=k/\x.gone.length<=k):∀x,xw o p s=some x->x.wn<=k+1/\x.made.length<=k+1/\x.gone.length<=k+1:=λ x hx=>by
 unfold xw at hx
 cases o with
 | none=>cases hx
 | some o=>
  have h1:=h o rfl;replace hx:(if p∈o.made\/(o.was p).isSome=true then some o else some {o with was:=λ j=>if j=p then some s else o.was j,wn:=o.wn+1})=some x:=hx
  split at hx
  ·rw[<-aZ hx];omega
  rw[<-aZ hx];show o.wn+1<=_/\o.made.length<=_/\o.gone.length<=_;omega
theorem xxj(h:PD E W P D FB M q d au){i:Nat}{f:Fr}(hi:q.af[i]?=some (some f))(hw:yae q.op) :
  Calls Tryz.prog 131 #[.pointer P,.pointer f.blk] W λ e w'=>e= .returned (.tuple #[])/\PD E w' P D FB M {af:=q.af,hand:=q.hand,ah:=q.ah,op:=xw q.op f.page f.data} d au/\Kept E W w':=by
 have vw:∀x,PD E (W.drewN x) P D FB M q d au/\Kept E W (W.drewN x):=λ x=>
  have hb:Below W W (W.drewN x):=UK.dK (aV _ _) x
  ⟨h.next hb,Kept.of_below hb (λ j hj=>h.dd.there j (.inl hj))⟩
 have c5:=h.pool.box.c5;have c6:=h.pool.box.c6;have c7:=h.pool.box.c7;have hfr:=h.pool.each i f hi;have b1:=hfr.box.c1;have b2:=hfr.box.c2
 cases hq:q.op with
 | none=>
  rw[hq]at c5;simp only[xy,Option.isSome_none]at c5
  go_enter Tryz.func131,Tryz.ntmps131
  go_wp2
  go_quiet (fail)
  go_wp2;refine bodyPost_ret (results_none rfl _ _ _) rfl ?_
  refine⟨rfl,?_,(vw _).2⟩;have h2:=(vw nq).1;rw[show q={af:=q.af,hand:=q.hand,ah:=q.ah,op:=none} by rw[<-hq]]at h2;exact h2
 | some o=>
  have ho:=h.pool.op o hq;have hwn:=hw o hq;rw[hq]at c5 c6 c7;simp only[xy,uA,He,Option.isSome_some]at c5 c6 c7;have HD:=zH vw;have hcn:=λ x=>QG (ho.made.ae (W':=W.drewN x) (aO _) (λ _ _=>rfl)) ho.few.2.1 f.page;clear vw;by_cases hm:f.page∈o.made
  ·have HK:Hid (xw (some o) f.page f.data=some o):=by show _=_;unfold xw;show(if _ then _ else _)=_;rw[if_pos (.inl hm)]
   rw[decide_eq_true hm]at hcn;clear hm
   go_enter Tryz.func131,Tryz.ntmps131
   go_wp2
   go_quiet (first|(go_at_call 122;exact Calls.quiet_of_same (hcn _)))
   go_wp2;refine bodyPost_ret (results_none rfl _ _ _) rfl ?_
   refine⟨rfl,?_,(HD.out _).2⟩;have h2:=(HD.out nq).1;rw[HK.out];rw[show q={af:=q.af,hand:=q.hand,ah:=q.ah,op:=some o} by rw[<-hq]]at h2;exact h2
  rw[decide_eq_false hm]at hcn
  go_enter Tryz.func131,Tryz.ntmps131
  go_wp2
  go_quiet (first|(go_at_call 122;exact Calls.quiet_of_same (hcn _)))
  obtain⟨p1,k1⟩:=HD.out nq;generalize W.drewN nq=w1 at p1 k1 ⊢;have ho:=p1.pool.op o hq;have c6:=p1.pool.box.c6;rw[hq]at c6;simp only[uA]at c6;have hfr:=p1.pool.each i f hi;have b1:=hfr.box.c1;have b2:=hfr.box.c2;have hlk:=λ x=>(ho.was.ae (W':=w1.drewN x) rfl).get (t:=112) Tryz.underlying3 Tryz.underlying9 Tryz.underlying112 (λ w=>by kernel_rfl) f.page hfr.page
  have hd1:∀x,PD E (w1.drewN x) P D FB M q d au/\Kept E W (w1.drewN x):=λ x=>
   have hb:Below w1 w1 (w1.drewN x):=UK.dK (aV _ _) x
   ⟨p1.next hb,k1.trans (Kept.of_below hb (λ j hj=>p1.dd.there j (.inl hj)))⟩
  have KH:=zH (zA hd1 (zA hq hm));clear hcn HD h hm c7 c5 hd1
  cases hw0:o.was f.page with
  | some s=>
   rw[hw0]at hlk;have hlk2:∀x,(Instr.lookup 112 (.map (some o.wb)) (.int .i64 f.page) true).run Tryz.prog (w1.drewN x)= .ok (.tuple #[.string (UK.str s),.bool true]) (w1.drewN x):=hlk;have HW0:=zH hw0;clear hlk hw0 ho hfr p1 hq;go_wp2
   go_quiet (fail)
   go_wp2
   go_end0
   obtain⟨hd,hq,hm⟩:=KH.out;refine⟨rfl,?_,(hd _).2⟩
   have e:xw (some o) f.page f.data=some o:=by
    show(if _ then _ else _)=_;rw[if_pos (.inr (by rw[HW0.out];rfl))]
   rw[e];have p1:=(hd nq).1;rw[show q={af:=q.af,hand:=q.hand,ah:=q.ah,op:=some o} by rw[<-hq]]at p1;exact p1
  | none=>
   rw[hw0]at hlk;have hlk2:∀x,(Instr.lookup 112 (.map (some o.wb)) (.int .i64 f.page) true).run Tryz.prog (w1.drewN x)= .ok (.tuple #[.string (UK.str []),.bool false]) (w1.drewN x):=hlk;have HW0:=zH hw0;clear hlk hw0 ho hfr p1 hq;go_wp2
   go_quiet (fail)
   obtain⟨hd,hq,hm⟩:=KH.out;obtain⟨p1,k1⟩:=hd nq;generalize w1.drewN nq=w2 at p1 k1 ⊢;clear hd hlk2 b1 b2 c6 KH;have c6:=p1.pool.box.c6;rw[hq]at c6;simp only[uA]at c6;have hfr:=p1.pool.each i f hi;have b1:=hfr.box.c1;have b2:=hfr.box.c2;have ho:=p1.pool.op o hq;obtain⟨y,hy,hyl,BL⟩:=hfr.bytes;have hcap:=hfr.cap;have hcv:=UK.tY (P:=Tryz.prog) (src:=94) (dst:=9) Tryz.underlying94 Tryz.underlying5 Tryz.underlying9 hy.drew 0 504 f.cap (by omega);rw[List.drop_zero,BL]at hcv;obtain⟨w3,hput,CL,o3⟩:=(ho.was.ae (W':=w2.drew) rfl).put (t:=112) Tryz.underlying3 Tryz.underlying9 Tryz.underlying112 (by unfold maxLen;omega) f.page f.data hfr.page (by rw[hfr.len];decide);rw[HW0.out]at CL
   have KF:Hid (PD E w3 P D FB M {af:=q.af,hand:=q.hand,ah:=q.ah,op:=xw (some o) f.page f.data} d au/\Kept E W w3):=by
    show _/\_;have o4:Only o.wb w2 w3:=(Only.refl o.wb w2).drew.trans o3
    have e:xw (some o) f.page f.data=some {o with was:=λ j=>if j=f.page then some f.data else o.was j,wn:=o.wn+1}:=by
     show(if _ then _ else _)=_;rw[if_neg (by rw[HW0.out];rintro(a|a);exact hm a;cases a)]
    have hwb:sN q.op o.wb:=by rw[hq];exact .inl rfl
    have hPw:P≠o.wb:=((p1.pool.jk _ hwb).1).symm;rw[e]
    have h2:=p1.zh (W':=w3) (op':=some {o with was:=λ j=>if j=f.page then some f.data else o.was j,wn:=o.wn+1}) o4.os o4.tape o4.output o4.size (by
     have hb:=p1.pool.box.only o4 hPw;rw[hq]at hb;exact hb) (λ x hx=>by
     obtain rfl:=aZ hx;refine⟨?_,ho.made.ae o4.size (λ j hj=>o4.block j (ho.made.lt hj) (λ e=>ho.wm (e▸hj))),ho.gone.ae o4.size (λ j hj=>o4.block j (ho.gone.lt hj) (λ e=>ho.wg (e▸hj))),ho.wm,ho.wg,ho.mg,ho.vk,ho.vo,⟨by show o.wn+1<=_;omega,ho.few.2⟩⟩;exact CL.tight) (λ j hj=>.inl (by rw[hq];exact hj)) (λ j hj _ hjo=>o4.block j hj (λ e=>hjo (e▸hwb)))
    exact⟨h2.1,k1.trans h2.2⟩
   clear CL o3 ho hy hyl BL hcap hm p1 hfr k1;go_wp2
   go_region
   go_end0
   exact⟨rfl,KF.out.1,KF.out.2⟩
theorem xxk(h:PS E W P D FB M n kp q d au k c){i:Nat}{f:Fr}(hi:q.af[i]?=some (some f))(hk:k<900000000) :
  Calls Tryz.prog 64 #[.pointer f.blk] W λ e w'=>e= .returned (.slice f.db 504 f.cap)/\PS E w' P D FB M n kp {af:=q.af.set i (some {f with bM:=true}),hand:=q.hand,ah:=q.ah,op:=xw q.op f.page f.data} d au (k+1) c/\Kept E W w':=by
 have hfr:=h.pd.pool.each i f hi;have hpos:=h.ok.pos i f hi;have c0:=hfr.box.c0;have hkeep:=xxj h.pd hi (λ x hx=>by have:=h.lim x hx;omega);have hlim:=xug (p:=f.page) (s:=f.data) h.lim;generalize xw q.op f.page f.data=op' at hkeep hlim ⊢
 have hst:∀w1,PD E w1 P D FB M {af:=q.af,hand:=q.hand,ah:=q.ah,op:=op'} d au->PS E (w1.setCell (f.blk,5) (.bool true)) P D FB M n kp {af:=q.af.set i (some {f with bM:=true}),hand:=q.hand,ah:=q.ah,op:=op'} d au (k+1) c/\Kept E w1 (w1.setCell (f.blk,5) (.bool true))/\w1.cell? (f.blk,5)=some (.bool f.bM)/\w1.frozen? ⟨f.blk,5,none⟩=false/\(w1.setCell (f.blk,5) (.bool true)).cell? (f.blk,2)=some (.slice f.db 504 f.cap):=λ w1 p1=>by
  have hx:=(h.up (Nat.le_succ k)).op hlim p1;have hbx:=(hx.pd.pool.each i f hi).box;have h1:=hx.pd.flag (g:={f with bM:=true}) hi ⟨rfl,rfl,rfl,rfl,rfl⟩ ((Only.refl f.blk _).set 5 (.bool true)) (hbx.set 5 (.bool true))
  have h3:=hx.flag (g:={f with bM:=true}) hi ⟨rfl,rfl,rfl,rfl,rfl⟩ (λ _=>rfl) hpos (by
   show PD E _ P D FB M {af:=q.af.set i (some {f with bM:=true}),hand:=q.hand,ah:=q.ah-f.ah+f.ah,op:=op'} d au;rw[show q.ah-f.ah+f.ah=q.ah by omega];exact h1.1)
  replace h3:PS E (w1.setCell (f.blk,5) (.bool true)) P D FB M n (kp-f.ah+f.ah) {af:=q.af.set i (some {f with bM:=true}),hand:=q.hand,ah:=q.ah-f.ah+f.ah,op:=op'} d au (k+1) c:=h3;rw[show q.ah-f.ah+f.ah=q.ah by omega,show kp-f.ah+f.ah=kp by omega]at h3;exact⟨h3,h1.2,hbx.cell 5 _ rfl,hbx.free 5,(hbx.set 5 (.bool true)).cell 2 _ rfl⟩
 have HST:=zH hst;clear hst hfr hpos
 go_enter Tryz.func64,Tryz.ntmps64
 go_wp2_with fail
 refine hkeep.mono ?_;rintro e w1 ⟨rfl,p1,k1⟩;obtain⟨s1,k2,c5,f5,c2⟩:=HST.out w1 p1;have HS:=zH s1;have HK:=zH (k1.trans k2);clear HST hkeep p1 s1 k1 k2 c0;go_wp2;go_ret;exact⟨rfl,HS.out,HK.out⟩
theorem PS.bytes(h:PS E W P D FB M n kp q d au k c){i:Nat}{f:Fr}(hi:q.af[i]?=some (some f))(hd:f.bM=true)(ho:Only f.db W W'){y:List UInt8}(hy:aF W' f.db y)(hyl:y.length=f.cap) :
  PS E W' P D FB M n kp {af:=q.af.set i (some {f with data:=y.take 504}),hand:=q.hand,ah:=q.ah,op:=q.op} d au k (bS c f.page.toNat (y.take 504))/\Kept E W W':=by
 have hp:=h.pd.pool;have hl:=(dE.1 hi).1;have hfr:=hp.each i f hi;have hcap:=hfr.cap;obtain⟨mf,hf,hm⟩:=hp.map;have hoff:=hp.off i (some f) f.db hi (.inr rfl)
 have hc:cntF (q.af.set i (some {f with data:=y.take 504}))=cntF q.af:=by
  have:=JY q.af i (some f) (some {f with data:=y.take 504}) hi
  simpa using this
 have hown:∀b',mV (some {f with data:=y.take 504}) b'->mV (some f) b'\/W.heap.size<=b':=λ b' hb=>.inl hb
 have hmv:=h.pd.moves (q':={af:=q.af.set i (some {f with data:=y.take 504}),hand:=q.hand,ah:=q.ah,op:=q.op}) (W':=W') ⟨ho.os,ho.tape,ho.output,ho.size,λ c hc hn=>ho.block c hc (λ e=>hn (e▸ .inr (.inr (.inr (.inr ⟨i,some f,hi,.inr rfl⟩))))),λ c hc=>ji.bO hi hown hc⟩ (by
  refine hp.bO hi h.pd.dd.tab.lt (hp.box.ae (ho.block _ hp.box.lt hoff.1.symm)) ho.size (λ b hb=>ho.block b (hp.op.lt hb) (λ e=>hp.nG i (some f) _ hi (.inr rfl) (e▸hb))) ?_ ⟨mf,hf.turn hi rfl,by rw[hc];exact hm.only ho hoff.2.2.symm⟩ (λ a u c ha hu hc2=>?_) (λ g' hg'=>?_) hown
  ·rw[Wv q.af i (some f) (some {f with data:=y.take 504}) hi rfl];exact hp.sO.only ho hoff.2.1.symm
  ·have hlt2:=hp.xz hu hc2;refine ho.block c hlt2 (λ e=>?_);subst e;exact hp.two i a (some f) u _ (dz ha) hi hu (.inr rfl) hc2
  obtain rfl:=aZ hg';exact⟨hfr.box.ae (ho.block _ (hp.xz hi (.inl rfl)) hfr.ne),⟨y,hy,hyl,rfl⟩,by show(y.take 504).length=_;rw[zt];omega,hfr.cap,hfr.page,hfr.ne⟩)
 refine⟨⟨hmv.1,?_,h.l6,λ a u ha=>?_,h.ah,by show(q.af.set i _).length=n;rw[aQ];exact h.len,h.calm.Q7 hi hd h.held (λ j g hj e=>h.inj hi hj e.symm) (y.take 504) _ _ _,h.lim⟩,hmv.2⟩
 ·have:=h.ok.set hi (u:=some {f with data:=y.take 504}) (λ x hx=>by rw[<-aZ hx];exact h.ok.pos i f hi);rw[show q.ah-iH (some f)+iH (some {f with data:=y.take 504})=q.ah by show q.ah-f.ah+f.ah=q.ah;omega]at this;exact this
 replace ha:(q.af.set i (some {f with data:=y.take 504}))[a]?=some (some u):=ha;rw[fJ _ _ _ _ hl]at ha;by_cases e:i=a
 ·rw[if_pos e]at ha;rw[<-aZ (aZ ha)];exact h.held i f hi
 rw[if_neg e]at ha;exact h.held a u ha
end
open UK (str aF nth Only Row ay kG)
section
variable{E:Nat->Prop}{W W':World}{P D FB M au k n:Nat}{kp:Int}{q:Pl}{d d':Dk}{c:Nat->List UInt8}
theorem xxl{p:Int}(f:Fit d au)(hh:aX d au p=true)(he:Gi d au p=0):(Gj d au p).length=504:=by
 obtain⟨m,rfl,hm⟩:=En (by rw[hh];decide);have h3:=zZ hm;unfold Gi at he;unfold Gj;rw[hh]at he ⊢;rw[if_neg (by decide)]at he ⊢;by_cases hz:d.rl=0
 ·rw[if_pos hz]at he;exact absurd he (by decide)
 rw[if_neg hz]at he ⊢;rw[Int.toNat_natCast]at he ⊢
 have hok:okB d.x m=true:=by
  cases hb:okB d.x m with
  | true=>rfl
  | false=>unfold xP at he;rw[hb]at he;exact absurd he (by decide)
 rw[O3 hok];unfold AX;rw[zt,zd,f.len];omega
theorem xxm(d:Dk)(au:Nat)(p a:Int):aX (CU d au p) au a=aX d au a:=by
 unfold CU
 split
 ·rfl
 split<;>rfl
theorem Np(h:PD E W P D FB M q d au)(page:Int)(cZ:(Lit.int .i64 page).wf=true) :
  (∃(i:Nat) (f:Fr),q.af[i]?=some (some f)/\f.page=page/\(Instr.lookup 111 (.map (some M)) (.int .i64 page) true).run Tryz.prog W= .ok (.tuple #[.int .i64 (i:Int),.bool true]) W) \/
  ((∀(i:Nat) (f:Fr),q.af[i]?=some (some f)->f.page≠page)/\(Instr.lookup 111 (.map (some M)) (.int .i64 page) true).run Tryz.prog W= .ok (.tuple #[.int .i64 0,.bool false]) W):=by
 obtain⟨g,hg,hm⟩:=h.pool.map;have hlk:=hm.get (t:=111) Tryz.underlying3 Tryz.underlying3 Tryz.underlying111 (λ w=>by kernel_rfl) page cZ
 cases u6:g page with
 | none=>
  rw[u6]at hlk;exact .inr ⟨λ i f hi=>hg.no u6 hi,hlk⟩
 | some v=>
  rw[u6]at hlk;obtain⟨j,rfl,fr,hj,hf⟩:=(hg page v).1 u6;exact .inl ⟨j,fr,hj,hf,hlk⟩
theorem xrj(h:Clean d au){p:Nat}(hh:aX d au (p:Int)=true)(s:List UInt8)(hs:s.length=504):Bf d au (p:Int) s=0/\wU d au (p:Int) s=CQ d p s:=by
 have hwl:d.wl≠0:=by rw[h.wl];decide
 unfold Bf wU;have ha:¬aX d au (p:Int)=false:=by rw[hh];decide
 have hb:¬s.length≠504:=by omega
 rw[if_neg ha,if_neg ha,if_neg hb,if_neg hb,if_neg hwl,Int.toNat_natCast];exact⟨by unfold iU;rw[if_neg hwl],rfl⟩
def ycu(E:Nat->Prop)(W w':World)(P D FB M n:Nat)(kp:Int)(q:Pl)(d:Dk)(au k:Nat)(c:Nat->List UInt8)(e:Ending):Prop:=
 ∃(i:Nat) (q':Pl) (d':Dk),e= .returned (.tuple #[.int .i64 i,.int .i64 0])/\q'.af[i]?=some none/\PS E w' P D FB M n kp q' d' au (k+1) c/\Kept E W w'/\q'.op=q.op/\d'.free=d.free/\d'.aC=d.aC/\tL q' q/\∀p,aX d' au p=aX d au p
theorem QJ(h:PS E W P D FB M n kp q d au k c)(hk:k<900000000)(hkp:0<=kp/\kp<n) :
  Calls Tryz.prog 128 #[.pointer P] W λ e w'=>ycu E W w' P D FB M n kp q d au k c e:=by
 refine(xud h.pd h.ok h.l6 hk).mono ?_;rintro e w' ⟨i,e0,q',d',rfl,p1,k1,o1,ok1,Cc,aD,hfw,Ao,hz,hx1,hx2,hx3⟩;have hpl:=h.ok.ah;have hpn:=h.ah;have hl:=h.len;obtain⟨b,hb,hst⟩:=Wu q.af (λ i f hi=>(h.ok.pos i f hi).1) (by omega);have hne:=xn6 q.af q.hand b h.ok.hand hb hst;have hcs:=h.calm.vg h.ok.hand (2*q.af.length) q.hand q.ah q.op;obtain⟨so1,vz,WE⟩:=Nl (2*q.af.length) q h.ok;have hmk:=Ng (2*q.af.length) q.af q.hand h.ok.hand;generalize jB (2*q.af.length) q.af q.hand=r at hx1 hx2 hx3 hne hcs so1 vz WE hmk
 cases hr:r.1 with
 | none=>exact absurd hr hne
 | some j=>
  obtain⟨o,ho,_⟩:=WE j hr
  have D6:∀(j:Nat) (g:Fr),q'.af[j]?=some (some g)->aX d' au g.page=true:=λ j g hj=>by
   obtain⟨g0,h0,he⟩:=hfw j g hj;rw[Ao,<-he];exact h.held j g0 h0
  by_cases hcl:∀f:Fr,r.2.1[j]?=some (some f)->f.bM=false
  ·obtain⟨rfl,rfl,rfl,rfl⟩:=hx2 j hr hcl;refine⟨i,_,d',rfl,hz rfl,⟨p1,o1,ok1,D6,Cc.trans hpn,aD.trans hl,?_,(h.up (Nat.le_succ k)).lim⟩,k1,rfl,rfl,rfl,hfw,Ao⟩
   cases o with
   | none=>
    have e:r.2.1.set i none=r.2.1:=Wy ho;rw[e];exact hcs.same _ _ _
   | some f=>exact hcs.forget ho (hcl f ho) _ _ _
  obtain⟨f,hf,GZ⟩:∃f:Fr,r.2.1[j]?=some (some f)/\f.bM=true:=by
   cases o with
   | none=>exact absurd (λ f hf=>by rw[ho]at hf;cases hf) hcl
   | some f=>
    refine⟨f,ho,?_⟩
    cases GZ:f.bM
    ·exact absurd (λ g hg=>by rw[ho]at hg;rw[<-aZ (aZ hg)];exact GZ) hcl
    rfl
  obtain⟨f0,hf0,hfe⟩:=hmk j f hf;have cZ:f.page=f0.page:=by rcases hfe with rfl|rfl<;>rfl
  have JW:f.data=f0.data:=by rcases hfe with rfl|rfl<;>rfl
  have QK:aX d au f.page=true:=by rw[cZ];exact h.held j f0 hf0
  obtain⟨p,hp,hp1,hp2,hp3⟩:=h.calm.nat QK;have hdl:f.data.length=504:=by rw[JW];exact(h.pd.pool.each j f0 hf0).len
  rw[hp]at QK;obtain⟨w1,w2⟩:=xrj h.calm.clean QK f.data hdl;rw[<-hp]at w1 w2;obtain⟨rfl,rfl,rfl,rfl⟩:=hx3 j f hr hf GZ w1;have Nq:=h.l6.puts;refine⟨i,_,_,rfl,hz rfl,⟨p1,o1,ok1,D6,Cc.trans hpn,aD.trans hl,?_,(h.up (Nat.le_succ k)).lim⟩,k1,rfl,?_,?_,hfw,Ao⟩
  ·rw[w2];exact hcs.write (by omega) hf hp hp2 hp3 hdl _ _ _
  ·rw[w2];rfl
  rw[w2];rfl
def Ff(E:Nat->Prop)(W w':World)(P D FB M n:Nat)(kp:Int)(q:Pl)(d:Dk)(au k:Nat)(c:Nat->List UInt8)(page:Int)(e:Ending):Prop:=
 ∃(i:Nat) (f:Fr) (q':Pl) (d':Dk),e= .returned (.tuple #[.pointer f.blk,.int .i64 0])/\q'.af[i]?=some (some f)/\f.page=page/\0<f.ah/\PS E w' P D FB M n (kp+1) q' d' au (k+2) c/\Kept E W w'/\q'.op=q.op/\d'.free=d.free/\d'.aC=d.aC
theorem xuh(h:PS E W P D FB M n kp q d au k c)(hkp:0<=kp/\kp<1000000)(page:Int)(cZ:(Lit.int .i64 page).wf=true)(hh:aX d au page=true)(hg:page∉bV q.op){i:Nat}{f:Fr}(hi:q.af[i]?=some (some f))(hf:f.page=page)(hfp:f.ah<1000000) :
  Calls Tryz.prog 63 #[.pointer P,.int .i64 page] W λ e w'=>Ff E W w' P D FB M n kp q d au k c page e:=by
 have c0:=h.pd.pool.box.c0;have hhas:=LP h.pd.dd page;rw[hh]at hhas;have hl:=(dE.1 hi).1;have il:=h.ok.few
 go_enter Tryz.func63,Tryz.ntmps63
 go_wp2_with fail
 refine hhas.mono ?_;rintro e w1 ⟨rfl,x,rfl⟩;obtain⟨h1,k1⟩:=h.looks x;generalize W.drewN x=w1 at h1 k1 ⊢;clear h hhas c0;have hb:=h1.pd.pool.box;have c1:=hb.c1;have c2:=hb.c2;obtain⟨ao,nn,cc,hv,hcn⟩:=Hf h1.pd.pool page;have c8:=hb.c8;rw[hv]at c8;rw[decide_eq_false hg]at hcn;clear hv;have c4:=hb.c4;have f4:=hb.free 4;have cF:w1.cell? (FB,i)=some (.pointer f.blk):=h1.pd.frame hi;have hfr:=h1.pd.pool.each i f hi;have d3:=hfr.box.c3;have d4:=hfr.box.c4;have e3:=hfr.box.free 3;have e4:=hfr.box.free 4;have hpos:=h1.ok.pos i f hi
 have hlk:(Instr.lookup 111 (.map (some M)) (.int .i64 page) true).run Tryz.prog w1= .ok (.tuple #[.int .i64 (i:Int),.bool true]) w1:=by
  rcases Np h1.pd page cZ with⟨j,g,hj,hg,hr⟩|⟨hno,_⟩
  ·obtain⟨mf,ha,_⟩:=h1.pd.pool.map;rw[ha.inj hi hj (hf.trans hg.symm)];exact hr
  exact absurd hf (hno i f hi)
 have hne:f.blk≠P:=(h1.pd.pool.off i (some f) f.blk hi (.inl rfl)).1;have p2:=h1.pd.flag (g:={f with ah:=f.ah+1,used:=true}) hi ⟨rfl,rfl,rfl,rfl,rfl⟩ (((Only.refl f.blk w1).set 3 (.int .i64 (f.ah+1))).set 4 (.bool true)) ((hfr.box.set 3 (.int .i64 (f.ah+1))).set 4 (.bool true));have hb2:=p2.1.pool.box;have p3:=p2.1.own ((Only.refl P _).set 4 (.int .i64 (q.ah+1))) (hand:=q.hand) (ah:=q.ah+1) (hb2.set 4 (.int .i64 (q.ah+1)))
 have s3:=h1.flag (g:={f with ah:=f.ah+1,used:=true}) hi ⟨rfl,rfl,rfl,rfl,rfl⟩ (λ hh=>hh) (by show 0<=f.ah+1/\f.ah+1<=1000000;omega) (by
  rw[show q.ah-f.ah+({f with ah:=f.ah+1,used:=true}:Fr).ah=q.ah+1 by show q.ah-f.ah+(f.ah+1)=_;omega];exact p3.1)
 rw[show kp-f.ah+({f with ah:=f.ah+1,used:=true}:Fr).ah=kp+1 by show kp-f.ah+(f.ah+1)=_;omega,show q.ah-f.ah+({f with ah:=f.ah+1,used:=true}:Fr).ah=q.ah+1 by show q.ah-f.ah+(f.ah+1)=_;omega]at s3;have HF:=zH (zA s3 ((k1.trans p2.2).trans p3.2));have QI:0<=q.ah/\q.ah<1000000:=by rw[h1.ah];exact hkp
 obtain⟨aal,Kl⟩:=QI;have HP:=zH hf;clear p2 p3 s3 hb2 hfr hb h1 k1 hf
 go_wp2_with fail
 refine hcn.mono ?_;rintro e w2 ⟨rfl,rfl⟩;go_wp2;go_ret2;exact⟨i,{f with ah:=f.ah+1,used:=true},_,d,rfl,by show(q.af.set i _)[i]?=_;rw[fJ _ _ _ _ hl,if_pos rfl],HP.out,by show 0<f.ah+1;omega,HF.out.1.up (by omega),HF.out.2,rfl,rfl,rfl⟩
theorem xui(h:Clean d au){p:Nat}(hp1:1<=p)(hp:p<au)(hh:aX d au (p:Int)=true):Gi d au (p:Int)=0/\Gj d au (p:Int)=jX d.x p/\CU d au (p:Int)=CS d:=by
 have hrl:d.rl≠0:=by rw[h.rl];decide
 unfold Gi Gj CU;have ha:¬aX d au (p:Int)=false:=by rw[hh];decide
 rw[if_neg ha,if_neg ha,if_neg ha,if_neg hrl,if_neg hrl,if_neg hrl,Int.toNat_natCast];exact⟨by unfold xP;rw[h.ok p hp1 hp];rfl,rfl,rfl⟩
theorem xuj(h:PS E W P D FB M n kp q d au k c)(hk:k+2<900000000)(hkp:0<=kp/\kp<n)(page:Int)(cZ:(Lit.int .i64 page).wf=true)(hh:aX d au page=true)(hg:page∉bV q.op)(hno:∀(i:Nat) (f:Fr),q.af[i]?=some (some f)->f.page≠page) :
  Calls Tryz.prog 63 #[.pointer P,.int .i64 page] W λ e w'=>Ff E W w' P D FB M n kp q d au k c page e:=by
 have c0:=h.pd.pool.box.c0;have hhas:=LP h.pd.dd page;rw[hh]at hhas;have yR:=zH hno;have HH:=zH hh;have il:=h.ok.few;have hln:=h.len;clear hno hh
 go_enter Tryz.func63,Tryz.ntmps63
 go_wp2_with fail
 refine hhas.mono ?_;rintro e w1 ⟨rfl,x,rfl⟩;obtain⟨h1,k1⟩:=h.looks x;generalize W.drewN x=w1 at h1 k1 ⊢;clear h hhas c0;have hb:=h1.pd.pool.box;have c2:=hb.c2;obtain⟨ao,nn,cc,hv,hcn⟩:=Hf h1.pd.pool page;have c8:=hb.c8;rw[hv]at c8;rw[decide_eq_false hg]at hcn
 have hlk:(Instr.lookup 111 (.map (some M)) (.int .i64 page) true).run Tryz.prog w1= .ok (.tuple #[.int .i64 0,.bool false]) w1:=by
  rcases Np h1.pd page cZ with⟨j,g,hj,hg,_⟩|⟨_,hr⟩
  ·exact absurd hg (yR.out j g hj)
  exact hr
 have HR:=zH (QJ h1 (by omega) hkp);clear hb hv
 go_wp2_with fail
 refine hcn.mono ?_;rintro e w2 ⟨rfl,rfl⟩
 go_wp2_with fail
 refine HR.out.mono ?_;rintro e w3 ⟨i,q',d',rfl,hi3,s3,k3,hop,hfr,hmo,hfw,Ao⟩
 have Fp:∀(j:Nat) (g:Fr),q'.af[j]?=some (some g)->g.page≠page:=λ j g hj=>by
  obtain⟨g0,h0,he⟩:=hfw j g hj;rw[<-he];exact yR.out j g0 h0
 have hh3:aX d' au page=true:=by rw[Ao];exact HH.out
 obtain⟨p,rfl,hp1,hp2,hp3⟩:∃p:Nat,page=p/\1<=p/\p<au/\p∉d'.free:=by
  rw[s3.calm.clean.so.kP,decide_eq_true_eq]at hh3;exact⟨page.toNat,by omega,by omega,by omega,hh3.2.2⟩
 obtain⟨re,rs,rd⟩:=xui s3.calm.clean hp1 hp2 hh3;have Nr:=zH (xsu s3.pd.dd s3.l6 (by omega) (p:Int));rw[re,rs,rd]at Nr;have hc:jX d'.x p=c p:=s3.calm.off p hp1 hp2 hp3 (λ j g hj hg=>absurd hg (Fp j g hj))
 have hcl:(c p).length=504:=by
  have:=xxl s3.pd.dd.fit hh3 re;rw[rs,hc]at this;exact this
 rw[hc]at Nr;have hre:=s3.l6.reads;have hokr:Ok (CS d') au (k+2):=by have:=s3.l6.read (by omega) (p:Int);rw[rd]at this;exact this
 have HR3:=zH (zA hop (zA hfr hmo));have HC3:=zH (s3.calm.read (by omega));have QL:=zH Fp;have HI:=zH hi3;have c0:=s3.pd.pool.box.c0;have QM:=zH (λ a=>xxm d' au (p:Int) a);rw[rd]at QM;have qY:=zH (zA s3 (k1.trans k3));clear HR hcn c2 c8 hlk k1 k3 hfw Ao s3 Fp hh3 hop hfr hmo hi3 re rs rd hc hre
 go_wp2_with fail
 refine Nr.out.mono ?_;rintro e w4 ⟨rfl,d4,k4⟩;have p4:=qY.out.1.pd.disk d4 k4;have s4:PS E w4 P D FB M n kp q' (CS d') au (k+2) c:=⟨p4,qY.out.1.ok,hokr,λ j g hj=>by rw[QM.out];exact qY.out.1.held j g hj,qY.out.1.ah,qY.out.1.len,HC3.out,(qY.out.1.up (Nat.le_succ _)).lim⟩;have wZ:=zH (zA s4 (qY.out.2.trans (k4.mono (λ j hj=>.inl hj))));have HL:=zH (WB p4 wZ.out.1.ok (by rw[wZ.out.1.ah];omega) HI.out (p:Int) cZ QL.out (c p) hcl);clear Nr c0 d4 k4 p4 s4 hokr;generalize hcc:c p=cp at HL hcl;have Kn:=zH hcc;clear hcc
 go_wp2_with fail
 refine HL.out.mono ?_;rintro e w5 ⟨f,rfl,jT,Ce,zi,_,_,p5,k5⟩;have hil:=(dE.1 HI.out).1;have hpo:=wZ.out.1.ok.set HI.out (u:=some f) (λ y hy=>by rw[<-aZ hy,zi];omega);rw[show q'.ah-iH none+iH (some f)=q'.ah+1 by show q'.ah-0+f.ah=_;omega]at hpo
 have s5:PS E w5 P D FB M n (kp+1) {af:=q'.af.set i (some f),hand:=q'.hand,ah:=q'.ah+1,op:=q'.op} (CS d') au (k+2) c:=⟨p5,hpo,wZ.out.1.l6,λ j g hj=>by
  replace hj:(q'.af.set i (some f))[j]?=some (some g):=hj;rw[fJ _ _ _ _ hil]at hj;by_cases e:i=j
  ·rw[if_pos e]at hj;rw[<-aZ (aZ hj),jT,QM.out,qY.out.1.calm.clean.so.kP,decide_eq_true_eq];exact⟨by omega,by omega,by rw[Int.toNat_natCast];exact hp3⟩
  rw[if_neg e]at hj;exact wZ.out.1.held j g hj,by show q'.ah+1=_;rw[wZ.out.1.ah],by show(q'.af.set i _).length=n;rw[aQ];exact wZ.out.1.len,wZ.out.1.calm.lay HI.out (by rw[Ce,jT,Int.toNat_natCast];exact Kn.out.symm) _ _ _,wZ.out.1.lim⟩
 have WG:=zH (zA s5 (wZ.out.2.trans k5));have Ki:=zH (zA zi jT);clear s5 k5 p5 hpo HL jT zi Ce;go_wp2;go_ret2;exact⟨i,f,_,CS d',rfl,by show(q'.af.set i _)[i]?=_;rw[fJ _ _ _ _ hil,if_pos rfl],Ki.out.2,by rw[Ki.out.1];decide,WG.out.1,WG.out.2,HR3.out.1,HR3.out.2.1,HR3.out.2.2⟩
end
end Go.Proofs.YtgpmiliahonaoaaGreatDoor
