/-
  A tree that is one leaf: put.
-/
import Derived.Test.YthjnfclebeggaaaDoorTreeH
namespace Go.Proofs.YthjnfclebeggaaaDoor
open Go.RowKit
open UK (str BytesAt nth Only Row Box w32)
open Go.BigFrame
section
variable {E : Nat → Prop} {W W' : World} {P D T k pg N M nb kc vc ac : Nat} {root : Int} {A : AP} {x : Nd} {ka va aa : Option Addr}
theorem NR.win {S : Nat → Prop} {ao : Option Addr} {c : Nat} {vs : List Value} (h : NR W ao c vs) (hS : ∀ g, slB ao g → S g) : Win S W (.slice ao vs.length c) vs := by
  rcases h with ⟨rfl, rfl, rfl⟩ | ⟨g, rfl, r⟩
  · exact ⟨none, 0, rfl, Nat.le_refl _, fun j u hj => by cases hj⟩
  · exact ⟨_, c, rfl, r.le, fun j u hj => ⟨g, 0, rfl, hS g rfl, by rw [Nat.zero_add]; exact r.at' j u hj⟩⟩
theorem NodeO.reads {S : Nat → Prop} (h : NodeO N W nb x ka va aa kc vc ac) (hnb : S nb) (hS : ∀ g, slB ka g ∨ slB va g ∨ slB aa g → S g) : NodeR S W nb x :=
  ⟨_, _, _, h.box, hnb, by have := h.k.win (fun g hg => hS g (.inl hg)); rw [u64s_length] at this; exact this, by have := h.v.win (fun g hg => hS g (.inr (.inl hg))); rw [u64s_length] at this; exact this, by have := h.a.win (fun g hg => hS g (.inr (.inr hg))); rw [ints_length] at this; exact this⟩
theorem bel_alloc {a w : World} (h : Below a.heap.size a w) (o : Obj) : Below a.heap.size a (w.alloc o) := h.alloc h.size o
theorem bel_drew {a w : World} (h : Below a.heap.size a w) : Below a.heap.size a w.drew := h.drew
theorem bel_drewN {a w : World} (h : Below a.heap.size a w) (n : Nat) : Below a.heap.size a (w.drewN n) := UK.belowN h n
theorem boxd {w : World} {cs : Array Value} {vb : Nat} (h : Box w vb cs) : Box w.drew vb cs := h
theorem boxa {w : World} {cs : Array Value} {vb : Nat} (h : Box w vb cs) (o : Obj) : Box (w.alloc o) vb cs := h.alloc o
theorem box_at {w : World} {cs : Array Value} {t : TypeId} {vb : Nat} (h : vb = w.heap.size) : Box (w.alloc (.cells cs t)) vb cs := by rw [h]; exact Box.new w cs t
/-- the keys have been laid anew, the node not yet -/
structure Mid1 (N : Nat) (W w : World) (nb : Nat) (x : Nd) (ka va aa : Option Addr) (kc vc ac : Nat) (l : List UInt64) (g c : Nat) : Prop where
  row : Row w g c (u64s l)
  v : NR w va vc (u64s x.vals)
  a : NR w aa ac (ints x.kids)
  box : Box w nb #[.bool x.leaf, .slice ka x.keys.length kc, .slice va x.vals.length vc, .slice aa x.kids.length ac]
  ge : N ≤ g
  ne : g ≠ nb
  gv : ¬ slB va g
  ga : ¬ slB aa g
  kept : Kept (fun j => j < W.heap.size ∧ ¬ (slB ka j ∨ slB va j ∨ j = nb)) W w
  own : slB ka g ∨ W.heap.size ≤ g
theorem Mid1.next {l : List UInt64} {g c : Nat} {w w' : World} (h : Mid1 N W w nb x ka va aa kc vc ac l g c) (hb : Below w.heap.size w w') : Mid1 N W w' nb x ka va aa kc vc ac l g c :=
  ⟨h.row.below hb h.row.lt, h.v.of_block hb.size (fun j hj => hb.block j (h.v.lt hj)), h.a.of_block hb.size (fun j hj => hb.block j (h.a.lt hj)), h.box.next hb, h.ge, h.ne, h.gv, h.ga, h.kept.trans (Kept.of_below hb (fun _ hj => Nat.lt_of_lt_of_le hj.1 h.kept.size)), h.own⟩
theorem NodeO.mid1 {l : List UInt64} {g c : Nat} {wa w : World} (h : NodeO N W nb x ka va aa kc vc ac) (hN : N ≤ W.heap.size) (ba : Below W.heap.size W wa) (r : Row w g c (u64s l)) (o : Only g wa w) (hg : slB ka g ∨ wa.heap.size ≤ g) : Mid1 N W w nb x ka va aa kc vc ac l g c := by
  have hA := h.next ba
  have hs := ba.size
  have hnb := h.box.lt
  have hne : N ≤ g ∧ g ≠ nb := by
    rcases hg with h1 | h1
    · exact h.new g (.inl h1)
    · exact ⟨by omega, by omega⟩
  have gv : ¬ slB va g := by
    rcases hg with h1 | h1
    · exact h.kv g h1
    · exact fun e => by have := h.v.lt e; omega
  have ga : ¬ slB aa g := by
    rcases hg with h1 | h1
    · exact h.ka g h1
    · exact fun e => by have := h.a.lt e; omega
  refine ⟨r, hA.v.only o gv, hA.a.only o ga, hA.box.only o hne.2.symm, hne.1, hne.2, gv, ga, ⟨o.os.trans ba.os, o.tape.trans ba.tape, o.output.trans ba.output, Nat.le_trans hs o.size, fun j hj => ?_⟩, ?_⟩
  · refine (o.block j (Nat.lt_of_lt_of_le hj.1 hs) (fun e => ?_)).trans (ba.block j hj.1)
    subst e
    rcases hg with h1 | h1
    · exact hj.2 (.inl h1)
    · have := hj.1; omega
  · rcases hg with h1 | h1
    · exact .inl h1
    · exact .inr (by omega)
/-- both have been laid anew: the node -/
theorem Mid1.done {l m : List UInt64} {g c g2 c2 : Nat} {wb w : World} (h : Mid1 N W wb nb x ka va aa kc vc ac l g c) (hv0 : NodeO N W nb x ka va aa kc vc ac) (r : Row w g2 c2 (u64s m)) (o : Only g2 wb w) (hg : slB va g2 ∨ wb.heap.size ≤ g2) :
    NodeO N ((w.setCell ⟨nb, 1, none⟩ (.slice (some ⟨g, 0, none⟩) l.length c)).setCell ⟨nb, 2, none⟩ (.slice (some ⟨g2, 0, none⟩) m.length c2)) nb { x with keys := l, vals := m } (some ⟨g, 0, none⟩) (some ⟨g2, 0, none⟩) aa c c2 ac ∧
    Kept (fun j => j < W.heap.size ∧ ¬ (slB ka j ∨ slB va j ∨ j = nb)) W ((w.setCell ⟨nb, 1, none⟩ (.slice (some ⟨g, 0, none⟩) l.length c)).setCell ⟨nb, 2, none⟩ (.slice (some ⟨g2, 0, none⟩) m.length c2)) ∧
    Box w nb #[.bool x.leaf, .slice ka x.keys.length kc, .slice va x.vals.length vc, .slice aa x.kids.length ac] ∧ g2 ≠ nb := by
  have hgl := h.row.lt
  have hnl := h.box.lt
  have hks := h.kept.size
  have hWn := hv0.box.lt
  have hNg := hv0.ge
  have hne : N ≤ g2 ∧ g2 ≠ nb := by
    rcases hg with h1 | h1
    · exact hv0.new g2 (.inr (.inl h1))
    · exact ⟨by omega, by omega⟩
  have g12 : g2 ≠ g := by
    rcases hg with h1 | h1
    · exact fun e => h.gv (e ▸ h1)
    · omega
  have ga : ¬ slB aa g2 := by
    rcases hg with h1 | h1
    · exact hv0.va g2 h1
    · exact fun e => by have := h.a.lt e; omega
  have r1 := h.row.only o g12.symm
  have a1 := h.a.only o ga
  have b1 := h.box.only o hne.2.symm
  have o2 : Only nb w ((w.setCell ⟨nb, 1, none⟩ (.slice (some ⟨g, 0, none⟩) l.length c)).setCell ⟨nb, 2, none⟩ (.slice (some ⟨g2, 0, none⟩) m.length c2)) := ((Only.refl nb w).set 1 _).set 2 _
  have b2 := (b1.set 1 (.slice (some ⟨g, 0, none⟩) l.length c)).set 2 (.slice (some ⟨g2, 0, none⟩) m.length c2)
  generalize (w.setCell ⟨nb, 1, none⟩ (.slice (some ⟨g, 0, none⟩) l.length c)).setCell ⟨nb, 2, none⟩ (.slice (some ⟨g2, 0, none⟩) m.length c2) = w3 at o2 b2 ⊢
  refine ⟨⟨by simpa using b2, .inr ⟨g, rfl, r1.only o2 h.ne⟩, .inr ⟨g2, rfl, r.only o2 hne.2⟩, a1.only o2 (fun e => (hv0.new nb (.inr (.inr e))).2 rfl), hv0.ge, fun j hj => ?_, fun _ hj e => ?_, fun _ hj e => ?_, fun _ hj e => ?_⟩, ⟨(o2.os.trans o.os).trans h.kept.os, (o2.tape.trans o.tape).trans h.kept.tape, (o2.output.trans o.output).trans h.kept.output, Nat.le_trans (Nat.le_trans hks o.size) o2.size, fun j hj => ?_⟩, b1, hne.2⟩
  · rcases hj with hj | hj | hj
    · rw [slB_inj hj]; exact ⟨h.ge, h.ne⟩
    · rw [slB_inj hj]; exact hne
    · exact hv0.new j (.inr (.inr hj))
  · have e1 := slB_inj hj
    have e2 := slB_inj e
    exact g12 (by omega)
  · rw [slB_inj hj] at e; exact h.ga e
  · rw [slB_inj hj] at e; exact ga e
  · have hjb : j < wb.heap.size := Nat.lt_of_lt_of_le hj.1 hks
    refine ((o2.block j (Nat.lt_of_lt_of_le hjb o.size) (fun e => hj.2 (.inr (.inr e)))).trans (o.block j hjb (fun e => ?_))).trans (h.kept.block j hj)
    subst e
    rcases hg with h1 | h1
    · exact hj.2 (.inr (.inl h1))
    · omega
/-- what a tree's own struct says -/
structure TreeAt (E : Nat → Prop) (W : World) (P D T root : Nat) (A : AP) (k : Nat) : Prop where
  pz : PZ E W P D A k
  box : Box W T #[.pointer (some ⟨P, 0, none⟩), .int .i64 root]
  mem : E T
/-- behind put -/
def PutL (E : Nat → Prop) (W w' : World) (P D T root : Nat) (A : AP) (k pg : Nat) (ks vs : List UInt64) (key v : UInt64) (e : Ending) : Prop :=
  ∃ i : Nat, e = .returned (.tuple #[.int .i64 0, .int .u64 0, .int .i64 0]) ∧ Stands ks key i ∧ TreeAt E w' P D T root (A.wrote pg (encLeaf (A.c pg) (ks.take i ++ key :: ks.drop i) (vs.take i ++ v :: vs.drop i))) k ∧ Kept E W w'
/-- a node's keys and values are new -/
def PutM (N : Nat) (W w : World) (nb : Nat) (ka va : Option Addr) (l m : List UInt64) : Prop :=
  ∃ ka' va' c c2, NodeO N w nb { leaf := true, keys := l, vals := m, kids := [] } ka' va' none c c2 0 ∧ Kept (fun j => j < W.heap.size ∧ ¬ (slB ka j ∨ slB va j ∨ j = nb)) W w ∧ (∀ j, slB ka' j → slB ka j ∨ W.heap.size ≤ j) ∧ (∀ j, slB va' j → slB va j ∨ W.heap.size ≤ j)
theorem putM_of {wb w : World} {ks vs : List UInt64} {i g c g2 c2 : Nat} {key v : UInt64} (h : NodeO N W nb { leaf := true, keys := ks, vals := vs, kids := [] } ka va none kc vc 0) (hi : i ≤ ks.length) (hlv : vs.length = ks.length)
    (m : Mid1 N W wb nb { leaf := true, keys := ks, vals := vs, kids := [] } ka va none kc vc 0 (ks.take i ++ key :: ks.drop i) g c) (r : Row w g2 c2 (u64s (vs.take i ++ v :: vs.drop i))) (o : Only g2 wb w) (hg : slB va g2 ∨ wb.heap.size ≤ g2) :
    PutM N W ((w.setCell ⟨nb, 1, none⟩ (.slice (some ⟨g, 0, none⟩) (ks.length + 1) c)).setCell ⟨nb, 2, none⟩ (.slice (some ⟨g2, 0, none⟩) (ks.length + 1) c2)) nb ka va (ks.take i ++ key :: ks.drop i) (vs.take i ++ v :: vs.drop i) := by
  obtain ⟨d1, d2, _, _⟩ := m.done h r o hg
  have e1 : (ks.take i ++ key :: ks.drop i).length = ks.length + 1 := by simp; omega
  have e2 : (vs.take i ++ v :: vs.drop i).length = ks.length + 1 := by simp; omega
  rw [e1, e2] at d1 d2
  refine ⟨_, _, _, _, d1, d2, fun j hj => ?_, fun j hj => ?_⟩
  · rw [slB_inj hj]; exact m.own
  · rw [slB_inj hj]
    rcases hg with h1 | h1
    · exact .inl h1
    · exact .inr (Nat.le_trans m.kept.size h1)
end
end Go.Proofs.YthjnfclebeggaaaDoor
