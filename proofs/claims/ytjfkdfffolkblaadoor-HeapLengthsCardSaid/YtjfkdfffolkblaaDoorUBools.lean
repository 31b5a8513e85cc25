/-
  Blocks of truths.
-/
import Derived.Test.YtjfkdfffolkblaaDoorUMem
namespace Go.Proofs.YtjfkdfffolkblaaDoor.UK
open Go.RowKit
def bl (x : List Bool) : Array Value := (x.map Value.bool).toArray
/-- block B holds just these truths, none of them frozen -/
def BoolsAt (W : World) (B : Nat) (x : List Bool) : Prop := ∃ e, W.heap[B]? = some (.cells (bl x) e (0, 0))
def tr (x : List Bool) (i : Nat) : Bool := x.getD i false
namespace BoolsAt
variable {W W' : World} {B : Nat} {x : List Bool}
theorem lt (h : BoolsAt W B x) : B < W.heap.size := by
  obtain ⟨e, hb⟩ := h
  exact (Array.getElem?_eq_some_iff.1 hb).1
theorem cell (h : BoolsAt W B x) {i : Nat} (hi : i < x.length) : W.cell? ⟨B, i, none⟩ = some (.bool (tr x i)) := by
  obtain ⟨e, hb⟩ := h
  unfold World.cell?
  simp only [hb]
  simp [bl, tr, List.getD, hi]
theorem free (h : BoolsAt W B x) (i : Nat) : W.frozen? ⟨B, i, none⟩ = false := by
  obtain ⟨e, hb⟩ := h
  unfold World.frozen?
  simp only [hb]
  simp
theorem of_block (h : BoolsAt W B x) (hb : W'.heap[B]? = W.heap[B]?) : BoolsAt W' B x := by
  obtain ⟨e, hc⟩ := h
  exact ⟨e, hb.trans hc⟩
theorem set (h : BoolsAt W B x) (i : Nat) (v : Bool) : BoolsAt (W.setCell ⟨B, i, none⟩ (.bool v)) B (x.set i v) := by
  obtain ⟨e, hb⟩ := h
  refine ⟨e, ?_⟩
  simp only [World.setCell, Array.getElem?_modify, if_true, hb, Option.map_some]
  congr 2
  simp [bl, List.map_set]
theorem drewN (h : BoolsAt W B x) (n : Nat) : BoolsAt (W.drewN n) B x := h
theorem below {n : Nat} (h : BoolsAt W B x) (hb : Below n W W') (hn : B < n) : BoolsAt W' B x := h.of_block (hb.block B hn)
end BoolsAt
theorem tr_set (x : List Bool) (a i : Nat) (v : Bool) : tr (x.set a v) i = if a = i ∧ a < x.length then v else tr x i := by
  unfold tr List.getD
  rw [List.getElem?_set]
  by_cases h : a = i
  · subst h
    by_cases h2 : a < x.length
    · simp [h2]
    · simp [h2]
  · simp [h]
theorem bools_new (W : World) (n : Nat) (e : TypeId) (c : Array Value) (hc : c = bl (List.replicate n false)) : BoolsAt (W.alloc (.cells c e)) W.heap.size (List.replicate n false) := by
  refine ⟨e, ?_⟩
  show (W.heap.push _)[W.heap.size]? = _
  rw [Array.getElem?_push_size, hc]
theorem tr_replicate (n i : Nat) : tr (List.replicate n false) i = false := by
  unfold tr List.getD
  rw [List.getElem?_replicate]
  split <;> rfl
end Go.Proofs.YtjfkdfffolkblaaDoor.UK
