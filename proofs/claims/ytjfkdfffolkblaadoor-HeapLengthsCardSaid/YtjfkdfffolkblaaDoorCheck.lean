/-
  check.Sum, Zeros, Seal, Open; the document's Turn, Add, Put; the laws' Cut: what they compute.
-/
import Derived.Test.YtjfkdfffolkblaaDoorStep
namespace Go.Proofs.YtjfkdfffolkblaaDoor
open Go.RowKit
open UK (str)
theorem TabAt.lt {w : World} (h : TabAt w) : 0 < w.heap.size := by
  have h0 := h 0
  unfold World.cell? at h0
  by_cases hl : 0 < w.heap.size
  · exact hl
  · rw [Array.getElem?_eq_none (by omega)] at h0; cases h0
theorem TabAt.below {w w' : World} (h : TabAt w) (hb : Below w.heap.size w w') : TabAt w' := fun c => by
  rw [hb.cell (p := ⟨_, _, none⟩) h.lt]; exact h c
theorem TabAt.drewN {w : World} (h : TabAt w) (n : Nat) : TabAt (w.drewN n) := fun c => h c
theorem belowN {B : Nat} {a w : World} (h : Below B a w) (n : Nat) : Below B a (w.drewN n) := ⟨h.os, h.tape, h.output, h.size, h.block⟩
theorem add_zero (l : List UInt8) (w : World) (ht : TabAt w) (hs : l.length ≤ maxLen) :
    Calls Tryd.prog 135 #[.int .u32 0, .string (str l)] w fun e w' => e = .returned (.int .u32 (addU 0 l).toNat) ∧ w = w' :=
  add_any 0 l w ht hs
theorem sum_any (l : List UInt8) (w : World) (ht : TabAt w) (hs : l.length ≤ maxLen) :
    Calls Tryd.prog 116 #[.string (str l)] w fun e w' => e = .returned (.int .u32 (addU 0 l).toNat) ∧ w = w' := by
  go_enter Tryd.func116, Tryd.ntmps116
  go_wp2_with (go_at_call 135; refine (add_zero _ _ ht hs).mono ?_; rintro e w' ⟨rfl, rfl⟩)
  go_ret
  exact ⟨rfl, rfl⟩
def openB (l : List UInt8) : Bool := decide (4 ≤ l.length ∧ getL (l.drop (l.length - 4)) = addU 0 (l.take (l.length - 4)))
def opened (l : List UInt8) : List UInt8 := if openB l then l.take (l.length - 4) else []
/-- one bit of ref.Turn -/
def turn1 (p : UInt32 × UInt8) : UInt32 × UInt8 := (if UK.odds p.1 (UK.wide p.2) then UK.xr (UK.hf p.1) UK.poly else UK.hf p.1, UK.hf8 p.2)
def turnN : Nat → UInt32 × UInt8 → UInt32 × UInt8
  | 0, p => p
  | n + 1, p => turn1 (turnN n p)
theorem turn1_yes (d : UInt32) (a : UInt8) (h : UK.odds d (UK.wide a) = true) : turn1 (d, a) = (UK.xr (UK.hf d) UK.poly, UK.hf8 a) := by unfold turn1; simp [h]
theorem turn1_no (d : UInt32) (a : UInt8) (h : UK.odds d (UK.wide a) = false) : turn1 (d, a) = (UK.hf d, UK.hf8 a) := by unfold turn1; simp [h]
/-- the document's sum, before it is turned -/
def rrunU (c : UInt32) (l : List UInt8) : UInt32 := l.foldl (fun c b => (turnN 8 (c, b)).1) c
def raddU (c : UInt32) (l : List UInt8) : UInt32 := UK.nt (rrunU (UK.nt c) l)
theorem rrunU_snoc (c : UInt32) (l : List UInt8) (k : Nat) (h : k < l.length) : rrunU c (l.take (k + 1)) = (turnN 8 (rrunU c (l.take k), UK.nth l k)).1 := by
  rw [List.take_succ_eq_append_getElem h]; unfold rrunU; rw [List.foldl_append]; simp [UK.nth, List.getD, h]
end Go.Proofs.YtjfkdfffolkblaaDoor
