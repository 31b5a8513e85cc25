/-
  make([]byte, slot.Size), and Init of it.
-/
import Derived.Test.YtdbnlcmnnoajoaaSlotP
namespace Go.Proofs.Ytdbnlcmnnoajoaa
open Go.RowKit
open UK (str BytesAt nth Only)
open Go.BigFrame
open SR (Recs rcd total)
/-- make([]byte, slot.Size) -/
theorem make_page (w : World) : (Instr.makeSlice 23 (.int .i64 504) (.int .i64 504)).run Try.prog w = .ok (.slice (some ⟨w.heap.size, 0, none⟩) 504 504) (w.alloc (.cells (UK.bcells (UK.zeros 504)) 5)) := by kernel_rfl
theorem page_new (w : World) : BytesAt (w.alloc (.cells (UK.bcells (UK.zeros 504)) 5)) w.heap.size (UK.zeros 504) := by
  refine ⟨5, (0, 0), ?_, fun i _ h => absurd h.2 (Nat.not_lt_zero _)⟩
  show (w.heap.push _)[w.heap.size]? = _
  rw [Array.getElem?_push_size]
theorem page_init (W0 w : World) (hb : Below W0.heap.size W0 w) :
    Calls Try.prog 8 #[.slice (some ⟨w.heap.size, 0, none⟩) 504 504] (w.alloc (.cells (UK.bcells (UK.zeros 504)) 5)) fun e w' => e = .returned (.tuple #[]) ∧ Page W0 w' w.heap.size [] := by
  refine (init_any w.heap.size (UK.zeros 504) 504 _ (page_new w) (by rw [UK.zeros_length]; exact Nat.le_refl _)).mono fun e w' ⟨he, ⟨x, h1, h2, _⟩, ho⟩ => ⟨he, hb.size, ?_, x, h1, h2⟩
  exact (hb.alloc hb.size _).trans (ho.below (by simp; have := hb.size; omega) hb.size)
end Go.Proofs.Ytdbnlcmnnoajoaa
