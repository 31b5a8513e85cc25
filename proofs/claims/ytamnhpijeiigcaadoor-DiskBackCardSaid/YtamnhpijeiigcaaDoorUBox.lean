/-
  A struct in a block of its own.
-/
import Derived.Test.YtamnhpijeiigcaaDoorURow
import Derived.Laws.Rows
import Derived.Laws.Tables
namespace Go.Proofs.YtamnhpijeiigcaaDoor
open Go.RowKit
namespace UK
/-- block g holds just these cells, none of them frozen -/
def Box (W : World) (g : Nat) (cs : Array Value) : Prop := ∃ t, W.heap[g]? = some (.cells cs t (0, 0))
namespace Box
variable {W W' : World} {g : Nat} {cs : Array Value}
theorem new (W : World) (cs : Array Value) (t : TypeId) : Box (W.alloc (.cells cs t)) W.heap.size cs := ⟨t, by
  show (W.heap.push _)[W.heap.size]? = _
  rw [Array.getElem?_push_size]⟩
theorem lt (h : Box W g cs) : g < W.heap.size := by
  obtain ⟨t, hb⟩ := h
  exact (Array.getElem?_eq_some_iff.1 hb).1
theorem of_block (h : Box W g cs) (hb : W'.heap[g]? = W.heap[g]?) : Box W' g cs := by
  obtain ⟨t, hc⟩ := h
  exact ⟨t, hb.trans hc⟩
theorem below {n : Nat} (h : Box W g cs) (hb : Below n W W') (hn : g < n) : Box W' g cs := h.of_block (hb.block g hn)
theorem next (h : Box W g cs) (hb : Below W.heap.size W W') : Box W' g cs := h.below hb h.lt
theorem only {B : Nat} (h : Box W g cs) (ho : Only B W W') (hn : g ≠ B) : Box W' g cs := h.of_block (ho.block g h.lt hn)
theorem alloc (h : Box W g cs) (o : Obj) : Box (W.alloc o) g cs := h.of_block (Below.heap_alloc W o g h.lt)
theorem far (h : Box W g cs) {b j : Nat} (v : Value) (hn : g ≠ b) : Box (W.setCell ⟨b, j, none⟩ v) g cs := h.of_block (Below.heap_setCell W _ v g hn)
theorem set (h : Box W g cs) (j : Nat) (v : Value) : Box (W.setCell ⟨g, j, none⟩ v) g (cs.set! j v) := by
  obtain ⟨t, hb⟩ := h
  refine ⟨t, ?_⟩
  simp only [World.setCell, Array.getElem?_modify, if_true, hb, Option.map_some]
  congr 2
theorem cell (h : Box W g cs) (j : Nat) (v : Value) (hv : cs[j]? = some v) : W.cell? ⟨g, j, none⟩ = some v := by
  obtain ⟨t, hb⟩ := h
  unfold World.cell?
  simp only [hb]
  exact hv
theorem free (h : Box W g cs) (j : Nat) : W.frozen? ⟨g, j, none⟩ = false := by
  obtain ⟨t, hb⟩ := h
  unfold World.frozen?
  simp only [hb]
  simp
theorem row (h : Box W g cs) : Row W g cs.size cs.toList := by
  refine ⟨h.lt, by simp, fun j hj => ?_, fun j hj => ⟨?_, h.free j⟩⟩
  · have hj' : j < cs.size := by simpa using hj
    rw [h.cell j cs[j] (Array.getElem?_eq_getElem hj'), Array.getElem?_toList, Array.getElem?_eq_getElem hj']
  · rw [h.cell j cs[j] (Array.getElem?_eq_getElem hj)]; rfl
theorem load {P : Program} {ty : TypeId} {d : TypeDesc} (h : Box W g cs) (hu : P.underlying ty = some d) (hd : (match d with | .struct _ | .array _ _ => true | _ => false) = true) (hi : (P.info? ty).map (·.size) = some cs.size) :
    (loadVar ty ⟨g, 0, none⟩).run P W = .ok (.agg cs) W := by
  obtain ⟨t, hb⟩ := h
  exact run_loadVar_row W g t ty cs (0, 0) d hb hu hd hi
end Box
theorem box_ret {P : Program} {fn : Func} {p : Tmp} {ty : TypeId} (h : fn.results = #[.cell p ty]) (tmps : Array Value) {w : World} {g : Nat} {cs : Array Value} {d : TypeDesc} (hb : Box w g cs)
    (hp : tmps.getD p undef = .pointer (some ⟨g, 0, none⟩)) (hu : P.underlying ty = some d) (hd : (match d with | .struct _ | .array _ _ => true | _ => false) = true) (hi : (P.info? ty).map (·.size) = some cs.size) :
    (results fn tmps).run P w = .ok (.agg cs) w := by
  obtain ⟨t, hb⟩ := hb
  exact results_cell_row h tmps w g t cs (0, 0) d hp hb hu hd hi
theorem box_ret2 {P : Program} {fn : Func} {p u : Tmp} {ty : TypeId} (h : fn.results = #[.cell p ty, .tmp u]) (tmps : Array Value) {w : World} {g : Nat} {cs : Array Value} {d : TypeDesc} (hb : Box w g cs)
    (hp : tmps.getD p undef = .pointer (some ⟨g, 0, none⟩)) (hu : P.underlying ty = some d) (hd : (match d with | .struct _ | .array _ _ => true | _ => false) = true) (hi : (P.info? ty).map (·.size) = some cs.size) :
    (results fn tmps).run P w = .ok (.tuple #[.agg cs, tmps.getD u undef]) w := by
  have hp' : tmps[p]?.getD undef = .pointer (some ⟨g, 0, none⟩) := by simpa using hp
  simp [results, h, hp', asAddr, hb.load hu hd hi]
theorem box_ret3 {P : Program} {fn : Func} {p u v : Tmp} {ty : TypeId} (h : fn.results = #[.cell p ty, .tmp u, .tmp v]) (tmps : Array Value) {w : World} {g : Nat} {cs : Array Value} {d : TypeDesc} (hb : Box w g cs)
    (hp : tmps.getD p undef = .pointer (some ⟨g, 0, none⟩)) (hu : P.underlying ty = some d) (hd : (match d with | .struct _ | .array _ _ => true | _ => false) = true) (hi : (P.info? ty).map (·.size) = some cs.size) :
    (results fn tmps).run P w = .ok (.tuple #[.agg cs, tmps.getD u undef, tmps.getD v undef]) w := by
  have hp' : tmps[p]?.getD undef = .pointer (some ⟨g, 0, none⟩) := by simpa using hp
  simp [results, h, hp', asAddr, hb.load hu hd hi]
theorem Box.setRow {W : World} {g : Nat} {old : Array Value} (h : Box W g old) (cs : Array Value) : Box (W.setRow g cs) g cs := by
  obtain ⟨t, hb⟩ := h
  refine ⟨t, ?_⟩
  simp [World.setRow, Array.getElem?_modify, hb]
theorem Only.setRow {a W : World} {g : Nat} (h : Only g a W) (cs : Array Value) : Only g a (W.setRow g cs) :=
  ⟨h.os, h.tape, h.output, by simpa [World.setRow] using h.size, fun k hk hn => by
    refine Eq.trans ?_ (h.block k hk hn)
    simp [World.setRow, Array.getElem?_modify, Ne.symm hn]⟩
/-- a struct of seven cells, stored cell by cell -/
abbrev fill7 (w : World) (g : Nat) (a0 a1 a2 a3 a4 a5 a6 : Value) : World :=
  (((((((w.setCell ⟨g, 0, none⟩ a0).setCell ⟨g, 1, none⟩ a1).setCell ⟨g, 2, none⟩ a2).setCell ⟨g, 3, none⟩ a3).setCell ⟨g, 4, none⟩ a4).setCell ⟨g, 5, none⟩ a5).setCell ⟨g, 6, none⟩ a6)
theorem Box.fill7 {w : World} {g : Nat} {b0 b1 b2 b3 b4 b5 b6 : Value} (h : Box w g #[b0, b1, b2, b3, b4, b5, b6]) (a0 a1 a2 a3 a4 a5 a6 : Value) : Box (fill7 w g a0 a1 a2 a3 a4 a5 a6) g #[a0, a1, a2, a3, a4, a5, a6] := by
  have h7 := ((((((h.set 0 a0).set 1 a1).set 2 a2).set 3 a3).set 4 a4).set 5 a5).set 6 a6
  have e : (((((((#[b0, b1, b2, b3, b4, b5, b6] : Array Value).set! 0 a0).set! 1 a1).set! 2 a2).set! 3 a3).set! 4 a4).set! 5 a5).set! 6 a6 = #[a0, a1, a2, a3, a4, a5, a6] := by simp
  rw [e] at h7
  unfold UK.fill7
  exact h7
theorem Only.fill7 (w : World) (g : Nat) (a0 a1 a2 a3 a4 a5 a6 : Value) : Only g w (fill7 w g a0 a1 a2 a3 a4 a5 a6) :=
  (((((((Only.refl g w).set 0 a0).set 1 a1).set 2 a2).set 3 a3).set 4 a4).set 5 a5).set 6 a6
theorem fill7_far {w : World} {g k : Nat} (h : k ≠ g) (a0 a1 a2 a3 a4 a5 a6 : Value) : (fill7 w g a0 a1 a2 a3 a4 a5 a6).heap[k]? = w.heap[k]? := by
  unfold fill7
  rw [Below.heap_setCell _ _ _ _ h, Below.heap_setCell _ _ _ _ h, Below.heap_setCell _ _ _ _ h, Below.heap_setCell _ _ _ _ h, Below.heap_setCell _ _ _ _ h, Below.heap_setCell _ _ _ _ h, Below.heap_setCell _ _ _ _ h]
theorem fill7_size (w : World) (g : Nat) (a0 a1 a2 a3 a4 a5 a6 : Value) : (fill7 w g a0 a1 a2 a3 a4 a5 a6).heap.size = w.heap.size := by simp [World.setCell]
theorem Box.fill7_far {w : World} {g k : Nat} {cs : Array Value} (hb : Box w k cs) (h : k ≠ g) (a0 a1 a2 a3 a4 a5 a6 : Value) : Box (UK.fill7 w g a0 a1 a2 a3 a4 a5 a6) k cs := hb.of_block (UK.fill7_far h _ _ _ _ _ _ _)
theorem Below.fill7 {B : Nat} {a w : World} (h : Below B a w) {g : Nat} (hg : B ≤ g) (a0 a1 a2 a3 a4 a5 a6 : Value) : Below B a (fill7 w g a0 a1 a2 a3 a4 a5 a6) :=
  ((((((h.setCell (p := ⟨g, 0, none⟩) hg a0).setCell (p := ⟨g, 1, none⟩) hg a1).setCell (p := ⟨g, 2, none⟩) hg a2).setCell (p := ⟨g, 3, none⟩) hg a3).setCell (p := ⟨g, 4, none⟩) hg a4).setCell (p := ⟨g, 5, none⟩) hg a5).setCell (p := ⟨g, 6, none⟩) hg a6
theorem Box.cells7 {w : World} {g : Nat} {b0 b1 b2 b3 b4 b5 b6 : Value} (h : Box w g #[b0, b1, b2, b3, b4, b5, b6]) :
    w.cell? ⟨g, 0, none⟩ = some b0 ∧ w.cell? ⟨g, 1, none⟩ = some b1 ∧ w.cell? ⟨g, 2, none⟩ = some b2 ∧ w.cell? ⟨g, 3, none⟩ = some b3 ∧ w.cell? ⟨g, 4, none⟩ = some b4 ∧ w.cell? ⟨g, 5, none⟩ = some b5 ∧ w.cell? ⟨g, 6, none⟩ = some b6 ∧ ∀ j, w.frozen? ⟨g, j, none⟩ = false :=
  ⟨h.cell 0 _ rfl, h.cell 1 _ rfl, h.cell 2 _ rfl, h.cell 3 _ rfl, h.cell 4 _ rfl, h.cell 5 _ rfl, h.cell 6 _ rfl, h.free⟩
/-- a whole struct stored, in a walk -/
theorem wpList_store_box {P : Program} {w : World} {g : Nat} {old cells : Array Value} (hb : Box w g old) {ty : TypeId} (hi : (P.info? ty).map (·.size) = some cells.size) (hold : old.size = cells.size) (h1 : cells.all (·.oneCell') = true)
    {ops : Array Oper} {rest : List Oper} {o : Oper} {a : Act} {Q : Exit → Act → World → Prop} {x y : Operand} (hgd : o.guard = none) (ho : o.op = .store ty x y) (hx : a.eval x = .pointer (some ⟨g, 0, none⟩)) (hy : a.eval y = .agg cells)
    (h : wpList P ops Q rest (a.put o.dst undef) (w.setRow g cells)) : wpList P ops Q (o :: rest) a w := by
  obtain ⟨t, hb⟩ := hb
  exact wpList_store_row hgd ty x y ho g cells hx hy t old hb hi hold h1 h
end UK
end Go.Proofs.YtamnhpijeiigcaaDoor
