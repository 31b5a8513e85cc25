/- Facts on rows of numbers on pages. -/
import Derived.Test.YtlipgbnnbefhjaaGreatDoorKSqEc
set_option maxRecDepth 100000
set_option maxHeartbeats 8000000
set_option linter.unusedSimpArgs false
namespace Go.Proofs.YtlipgbnnbefhjaaGreatDoor
open Go.RowKit
open UK (str aO nth Only Row aI)
structure lS(N:Nat)(W:World)(nb:Nat)(x:Sn)(ka va aa:Option Addr)(kc vc ac:Nat):Prop where
 box:aI W nb #[.bool x.leaf,.int .i64 (x.up:Int),.slice ka x.aA.length kc,.slice va x.ah.length vc,.slice aa x.au.length ac]
 k:NR W ka kc (aF x.aA)
 v:NR W va vc (ints x.ah)
 a:NR W aa ac (ints x.au)
 ge:N<=nb
 new:∀g,aK ka g\/aK va g\/aK aa g->N<=g/\g≠nb
 kv:∀g,aK ka g->¬aK va g
 ka:∀g,aK ka g->¬aK aa g
 va:∀g,aK va g->¬aK aa g
section
variable{W W':World}{N nb kc vc ac:Nat}{ka va aa:Option Addr}{x:Sn}
theorem lS.af(h:lS N W nb x ka va aa kc vc ac)(hs:W.heap.size<=W'.heap.size)(hb:∀g,N<=g->g<W.heap.size->W'.heap[g]?=W.heap[g]?):lS N W' nb x ka va aa kc vc ac:=
 ⟨h.box.af (hb nb h.ge h.box.lt),h.k.af hs (λ g hg=>hb g (h.new g (.inl hg)).1 (h.k.lt hg)),h.v.af hs (λ g hg=>hb g (h.new g (.inr (.inl hg))).1 (h.v.lt hg)),h.a.af hs (λ g hg=>hb g (h.new g (.inr (.inr hg))).1 (h.a.lt hg)),h.ge,h.new,h.kv,h.ka,h.va⟩
theorem lS.next(h:lS N W nb x ka va aa kc vc ac)(hb:Below W W W'):lS N W' nb x ka va aa kc vc ac:=h.af hb.size (λ g _ hg=>hb.block g hg)
theorem lS.uD(h:lS N W nb x ka va aa kc vc ac){g' c':Nat}{w1:World}{l:List UInt64}(r:Row w1 g' c' (aF l))(o:Only g' W w1)(hg:aK ka g'\/W.heap.size<=g')(hN:N<=W.heap.size) :
  lS N (w1.setCell (nb,2) (.slice g' l.length c')) nb {x with aA:=l} g' va aa c' vc ac/\Below N W (w1.setCell (nb,2) (.slice g' l.length c'))/\aI w1 nb #[.bool x.leaf,.int .i64 (x.up:Int),.slice ka x.aA.length kc,.slice va x.ah.length vc,.slice aa x.au.length ac]:=by
 have hgn:N<=g'/\g'≠nb:=by
  rcases hg with h1|h1
  ·exact h.new g' (.inl h1)
  have:=h.box.lt;omega
 have hx1:¬aK va g':=by
  rcases hg with h1|h1
  ·exact h.kv g' h1
  exact λ e=>by have:=h.v.lt e;omega
 have hx2:¬aK aa g':=by
  rcases hg with h1|h1
  ·exact h.ka g' h1
  exact λ e=>by have:=h.a.lt e;omega
 have hb1:=h.box.only o hgn.2.symm;have o2:=(Only.refl nb w1).set 2 (.slice g' l.length c');have hb2:=hb1.set 2 (.slice g' l.length c');have ob:Below N W (w1.setCell (nb,2) (.slice g' l.length c')):=(o.below hN hgn.1).trans (o2.below (bf hN o.size) h.ge);generalize w1.setCell (nb,2) (.slice g' l.length c')=w2 at o2 hb2 ob ⊢;refine⟨⟨?_,.inr ⟨g',rfl,r.only o2 hgn.2⟩,(h.v.only o hx1).only o2 (λ e=>(h.new nb (.inr (.inl e))).2 rfl),(h.a.only o hx2).only o2 (λ e=>(h.new nb (.inr (.inr e))).2 rfl),h.ge,λ j hj=>?_,λ j hj e=>hx1 (gF hj▸e),λ j hj e=>hx2 (gF hj▸e),h.va⟩,ob,hb1⟩
 ·simpa using hb2
 rcases hj with hj|hj|hj
 ·rw[gF hj];exact hgn
 ·exact h.new j (.inr (.inl hj))
 exact h.new j (.inr (.inr hj))
theorem lS.yl(h:lS N W nb x ka va aa kc vc ac){g' c':Nat}{w1:World}{l:List Nat}(r:Row w1 g' c' (ints l))(o:Only g' W w1)(hg:aK va g'\/W.heap.size<=g')(hN:N<=W.heap.size) :
  lS N (w1.setCell (nb,3) (.slice g' l.length c')) nb {x with ah:=l} ka g' aa kc c' ac/\Below N W (w1.setCell (nb,3) (.slice g' l.length c'))/\aI w1 nb #[.bool x.leaf,.int .i64 (x.up:Int),.slice ka x.aA.length kc,.slice va x.ah.length vc,.slice aa x.au.length ac]:=by
 have hgn:N<=g'/\g'≠nb:=by
  rcases hg with h1|h1
  ·exact h.new g' (.inr (.inl h1))
  have:=h.box.lt;omega
 have hx1:¬aK ka g':=by
  rcases hg with h1|h1
  ·exact λ e=>h.kv g' e h1
  exact λ e=>by have:=h.k.lt e;omega
 have hx2:¬aK aa g':=by
  rcases hg with h1|h1
  ·exact h.va g' h1
  exact λ e=>by have:=h.a.lt e;omega
 have hb1:=h.box.only o hgn.2.symm;have o2:=(Only.refl nb w1).set 3 (.slice g' l.length c');have hb2:=hb1.set 3 (.slice g' l.length c');have ob:Below N W (w1.setCell (nb,3) (.slice g' l.length c')):=(o.below hN hgn.1).trans (o2.below (bf hN o.size) h.ge);generalize w1.setCell (nb,3) (.slice g' l.length c')=w2 at o2 hb2 ob ⊢;refine⟨⟨?_,(h.k.only o hx1).only o2 (λ e=>(h.new nb (.inl e)).2 rfl),.inr ⟨g',rfl,r.only o2 hgn.2⟩,(h.a.only o hx2).only o2 (λ e=>(h.new nb (.inr (.inr e))).2 rfl),h.ge,λ j hj=>?_,λ j hj e=>hx1 (gF e▸hj),h.ka,λ j hj e=>hx2 (gF hj▸e)⟩,ob,hb1⟩
 ·simpa using hb2
 rcases hj with hj|hj|hj
 ·exact h.new j (.inl hj)
 ·rw[gF hj];exact hgn
 exact h.new j (.inr (.inr hj))
theorem lS.yn(h:lS N W nb x ka va aa kc vc ac){g' c':Nat}{w1:World}{l:List Nat}(r:Row w1 g' c' (ints l))(o:Only g' W w1)(hg:aK aa g'\/W.heap.size<=g')(hN:N<=W.heap.size) :
  lS N (w1.setCell (nb,4) (.slice g' l.length c')) nb {x with au:=l} ka va g' kc vc c'/\Below N W (w1.setCell (nb,4) (.slice g' l.length c'))/\aI w1 nb #[.bool x.leaf,.int .i64 (x.up:Int),.slice ka x.aA.length kc,.slice va x.ah.length vc,.slice aa x.au.length ac]:=by
 have hgn:N<=g'/\g'≠nb:=by
  rcases hg with h1|h1
  ·exact h.new g' (.inr (.inr h1))
  have:=h.box.lt;omega
 have hx1:¬aK ka g':=by
  rcases hg with h1|h1
  ·exact λ e=>h.ka g' e h1
  exact λ e=>by have:=h.k.lt e;omega
 have hx2:¬aK va g':=by
  rcases hg with h1|h1
  ·exact λ e=>h.va g' e h1
  exact λ e=>by have:=h.v.lt e;omega
 have hb1:=h.box.only o hgn.2.symm;have o2:=(Only.refl nb w1).set 4 (.slice g' l.length c');have hb2:=hb1.set 4 (.slice g' l.length c');have ob:Below N W (w1.setCell (nb,4) (.slice g' l.length c')):=(o.below hN hgn.1).trans (o2.below (bf hN o.size) h.ge);generalize w1.setCell (nb,4) (.slice g' l.length c')=w2 at o2 hb2 ob ⊢;refine⟨⟨?_,(h.k.only o hx1).only o2 (λ e=>(h.new nb (.inl e)).2 rfl),(h.v.only o hx2).only o2 (λ e=>(h.new nb (.inr (.inl e))).2 rfl),.inr ⟨g',rfl,r.only o2 hgn.2⟩,h.ge,λ j hj=>?_,h.kv,λ j hj e=>hx1 (gF e▸hj),λ j hj e=>hx2 (gF e▸hj)⟩,ob,hb1⟩
 ·simpa using hb2
 rcases hj with hj|hj|hj
 ·exact h.new j (.inl hj)
 ·exact h.new j (.inr (.inl hj))
 rw[gF hj];exact hgn
end
theorem O0(y:List UInt8)(n:Nat):(jL y n).length=n:=by simp[jL]
theorem O1(y:List UInt8)(n:Nat):(pJ y n).length=n:=by simp[pJ]
theorem O3(y:List UInt8)(n:Nat):(iI y n).length=n:=by simp[iI]
theorem xt1(y:List UInt8)(n:Nat):jL y (n+1)=jL y n++[oQ y (8+8*n)]:=by simp[jL,List.range_succ]
theorem xrc(y:List UInt8)(n:Nat):pJ y (n+1)=pJ y n++[n32 y (8+8*n)]:=by simp[pJ,List.range_succ]
theorem xt2(y:List UInt8)(n:Nat):iI y (n+1)=iI y n++[n32 y (12+8*n)]:=by simp[iI,List.range_succ]
theorem lS.node{W:World}{N nb kc vc ac:Nat}{ka va aa:Option Addr}{x:Sn}(h:lS N W nb x ka va aa kc vc ac):gK (λ g=>g=nb\/aK ka g\/aK va g\/aK aa g) W nb x:=by
 refine⟨_,_,_,h.box,.inl rfl,?_,?_,?_⟩
 ·have:=h.k.win (S:=λ g=>g=nb\/aK ka g\/aK va g\/aK aa g) (λ g hg=>.inr (.inl hg))
  rwa [cz]at this
 ·have:=h.v.win (S:=λ g=>g=nb\/aK ka g\/aK va g\/aK aa g) (λ g hg=>.inr (.inr (.inl hg)))
  rwa [dx]at this
 have:=h.a.win (S:=λ g=>g=nb\/aK ka g\/aK va g\/aK aa g) (λ g hg=>.inr (.inr (.inr hg)))
 rwa [dx]at this
end Go.Proofs.YtlipgbnnbefhjaaGreatDoor
