/-
  A slice of whole numbers that is handed on, laid open to its cells.
-/
import Derived.Test.YtamnhpijeiigcaaDoorUKit
import Derived.Deep.Slices
import Derived.Deep.Fields
import Derived.ChangeSame
import Derived.ProofKit
namespace Go.Proofs.YtamnhpijeiigcaaDoor
open Go.RowKit Go.ChangeShapes Go.WideShapes Go.Deep
theorem spot_none {w : World} {a : Addr} {v : Value} (h : w.cell? a = some v) : a.spot = none := by
  unfold World.cell? at h
  split at h
  · split at h
    · cases h
    · rename_i hs; simpa using hs
  · cases h
theorem add_mk (b off n : Nat) : (⟨b, off, none⟩ : Addr).add n = ⟨b, off + n, none⟩ := by
  unfold Addr.add
  by_cases hn : n = 0 <;> simp [hn]
theorem int_cells : Tryd.prog.cellsOf 3 = 1 := by kernel_rfl
theorem ints_open {H : Type} {enc : TypeId × Value → H} {base : Nat} {d : DataW H} {p : List MemPlace} (W : World) (v : Value) (hok : Value.okWide Tryd.prog W .any base 22 v) (h : DataW.Trod enc Tryd.prog W 0 (fun _ => true) true 22 v d p) :
    ∃ ao len cap, v = .slice ao len cap ∧ len ≤ maxLen ∧ (len = 0 ∨ ∃ b off, ao = some ⟨b, off, none⟩ ∧ b < W.heap.size ∧ ∀ i, i < len → ∃ k : Int, W.cell? ⟨b, off + i, none⟩ = some (.int .i64 k) ∧ -9223372036854775808 ≤ k ∧ k ≤ 9223372036854775807) := by
  obtain ⟨a0, len0, cap0, rfl⟩ := okWide_slice Tryd.underlying22 hok
  obtain ⟨fuel, hf⟩ := h
  rcases open_slice Tryd.underlying22 hf with ⟨hcs, _⟩ | ⟨a, len, cap, m, n, D, Pl, hcs, hb, hl, hm, hmm, hx, hi⟩
  · simp only [Value.cells, List.cons.injEq, and_true] at hcs
    obtain ⟨rfl, rfl, rfl⟩ := Value.slice.inj hcs
    exact ⟨none, 0, 0, rfl, by decide, .inl rfl⟩
  · simp only [Value.cells, List.cons.injEq, and_true] at hcs
    obtain ⟨rfl, rfl, rfl⟩ := Value.slice.inj hcs
    refine ⟨_, _, _, rfl, by omega, ?_⟩
    by_cases hl0 : len0 = 0
    · exact .inl hl0
    · have hmc : m = cap0 := by rw [hmm]; rfl
      have hcell : ∀ i, i < len0 → ∃ k : Int, W.cell? (a.add i) = some (.int .i64 k) ∧ -9223372036854775808 ≤ k ∧ k ≤ 9223372036854775807 := fun i hil => by
        obtain ⟨cs', hc, ht'⟩ := hi i (by omega)
        rw [int_cells, Nat.mul_one] at hc
        obtain ⟨_, hcl, hat⟩ := World.cells?_some hc
        obtain ⟨k0, e0, _, w0⟩ := DataW.trod_int Tryd.underlying3 ht'
        subst e0
        have h0 := hat 0 (by omega)
        rw [Deep.add_add, Nat.add_zero] at h0
        refine ⟨k0, h0, ?_⟩
        simp [Lit.wf, IntKind.min, IntKind.max, IntKind.signed, IntKind.bits] at w0
        omega
      have hsp : a.spot = none := by
        obtain ⟨k0, h0, _⟩ := hcell 0 (by omega)
        have e : a.add 0 = a := by simp [Addr.add]
        rw [e] at h0
        exact spot_none h0
      obtain ⟨b, off, sp⟩ := a
      simp only at hsp
      subst hsp
      simp only [add_mk] at hcell
      obtain ⟨k0, h0, _⟩ := hcell 0 (by omega)
      exact .inr ⟨b, off, rfl, block_lt_of_cell h0, hcell⟩
end Go.Proofs.YtamnhpijeiigcaaDoor
