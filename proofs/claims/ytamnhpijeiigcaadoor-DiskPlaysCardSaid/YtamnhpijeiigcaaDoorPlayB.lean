/-
  A disk, and the document's beside it.
-/
import Derived.Test.YtamnhpijeiigcaaDoorPlayA
import Derived.Test.YtamnhpijeiigcaaDoorActs4
namespace Go.Proofs.YtamnhpijeiigcaaDoor
open Go.RowKit
open UK (str BytesAt nth Only w32 Row Box)
open Go.BigFrame
/-- what a disk's calls leave as it is -/
def keep (E : Nat → Prop) (gp : Nat) (fo : Option Addr) (k : Nat) : Prop := E k ∨ k = gp ∨ fo = some ⟨k, 0, none⟩
structure Pair (E : Nat → Prop) (N : Nat) (W : World) (gp cp : Nat) (fo : Option Addr) (fc : Nat) (d : Dk) (cnt : Nat) : Prop where
  dd : DD (keep E gp fo) W N d cnt
  ref : RefAt N W gp cp fo fc d cnt
section
variable {E S T : Nat → Prop} {N k : Nat} {W W' w w1 w2 : World} {D cnt gp cp fc gp' cp' fc' cnt' : Nat} {fo fo' : Option Addr} {d d' : Dk}
theorem DD.grow (h : DD S W D d cnt) (hb : Below W.heap.size W W') (hT : ∀ k, T k → S k ∨ (W.heap.size ≤ k ∧ k < W'.heap.size)) : DD T W' D d cnt := by
  obtain ⟨⟨own, ho, B, bc, fo, fc, I, ic, y, hd⟩, ft, hS⟩ := h
  refine ⟨⟨fun k => own k ∧ k < W.heap.size, fun k hk ht => ?_, B, bc, fo, fc, I, ic, y, hd.tight.below hb⟩, ft, fun k hk => ?_⟩
  · rcases hT k ht with h1 | h1
    · exact ho k hk.1 h1
    · exact absurd hk.2 (by omega)
  · rcases hT k hk with h1 | h1
    · exact Nat.lt_of_lt_of_le (hS k h1) hb.size
    · exact h1.2
theorem RefAt.keptS (h : RefAt N W gp cp fo fc d cnt) (hk : Kept S W W') (h1 : S gp) (h2 : ∀ F, fo = some ⟨F, 0, none⟩ → S F) : RefAt N W' gp cp fo fc d cnt :=
  h.kept hk.size (hk.block _ h1) (fun F e => hk.block _ (h2 F e))
theorem RefAt.lower (h : RefAt N W gp cp fo fc d cnt) {M : Nat} (hM : M ≤ N) : RefAt M W gp cp fo fc d cnt :=
  ⟨h.pages, h.free, Nat.le_trans hM h.lowP, fun F e => ⟨Nat.le_trans hM (h.lowF F e).1, (h.lowF F e).2⟩⟩
/-- the disk has been called, and then the document's -/
theorem Pair.join (hd : DD S w1 N d' cnt') (hS : ∀ k, keep E gp fo k → S k) (hw : RefAt N w2 gp' cp' fo' fc' d' cnt') (hb : Below w1.heap.size w1 w2)
    (hx : (gp' = gp ∨ w1.heap.size ≤ gp') ∧ ∀ F, fo' = some ⟨F, 0, none⟩ → fo = some ⟨F, 0, none⟩ ∨ w1.heap.size ≤ F) : Pair E N w2 gp' cp' fo' fc' d' cnt' := by
  refine ⟨hd.grow hb (fun k hk => ?_), hw⟩
  rcases hk with hk | rfl | hk
  · exact .inl (hS k (.inl hk))
  · rcases hx.1 with e | e
    · exact .inl (hS _ (.inr (.inl e)))
    · exact .inr ⟨e, hw.pages.lt⟩
  · rcases hx.2 k hk with e | e
    · exact .inl (hS k (.inr (.inr e)))
    · exact .inr ⟨e, (hw.lowF k hk).2⟩
theorem Pair.below (h : Pair E N W gp cp fo fc d cnt) (hb : Below W.heap.size W W') : Pair E N W' gp cp fo fc d cnt := ⟨h.dd.below hb, h.ref.below hb⟩
end
end Go.Proofs.YtamnhpijeiigcaaDoor
