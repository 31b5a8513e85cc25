/-
  copy of a string into a block of bytes; clear of a part of it.
-/
import Derived.Test.YtamnhpijeiigcaaDoorUOnly
import Derived.Laws.IdiomCopy
import Derived.Lib.LazyBuf
namespace Go.Proofs.YtamnhpijeiigcaaDoor.UK
open Go.RowKit
/-- bytes laid over a list from a place on -/
def wr (x : List UInt8) (a : Nat) (s : List UInt8) : List UInt8 := x.take a ++ (s ++ x.drop (a + s.length))
theorem wr_length (x : List UInt8) (a : Nat) (s : List UInt8) (h : a + s.length ≤ x.length) : (wr x a s).length = x.length := by
  simp [wr]; omega
def cellsOf (s : List UInt8) : List Value := s.map fun b => Value.int .u8 (b.toNat : Int)
theorem wr_cons (x : List UInt8) (a : Nat) (v : UInt8) (s : List UInt8) (h : a < x.length) : wr (x.set a v) (a + 1) s = wr x a (v :: s) := by
  unfold wr
  have e1 : (x.set a v).take (a + 1) = x.take a ++ [v] := by
    rw [List.take_succ_eq_append_getElem (by simpa using h), List.take_set_of_le (Nat.le_refl _)]
    simp
  have e2 : (x.set a v).drop (a + 1 + s.length) = x.drop (a + (s.length + 1)) := by
    rw [List.drop_set_of_lt (by omega), show a + 1 + s.length = a + (s.length + 1) by omega]
  rw [e1, e2]
  simp
theorem BytesAt.setCells {B : Nat} : ∀ (s : List UInt8) (o : Nat) {W : World} {x : List UInt8}, BytesAt W B x → o + s.length ≤ x.length → BytesAt (W.setCells B o (cellsOf s)) B (wr x o s)
  | [], o, W, x, h, _ => by
    have : wr x o [] = x := by simp [wr]
    rw [this]; exact h
  | v :: s, o, W, x, h, hl => by
    simp only [List.length_cons] at hl
    have h1 := BytesAt.setCells s (o + 1) (h.set o v) (by rw [List.length_set]; omega)
    rw [wr_cons x o v s (by omega)] at h1
    exact h1
theorem Only.setCells {B : Nat} {a : World} : ∀ (s : List Value) (o : Nat) {w : World}, Only B a w → Only B a (w.setCells B o s)
  | [], _, _, h => h
  | v :: s, o, _, h => Only.setCells s (o + 1) (h.set o v)
theorem run_copy {P : Program} {dT sT ty elem : TypeId} (hu : P.underlying dT = some (.slice elem)) (hz : ∀ w, (Go.sizeOf elem).run P w = .ok 1 w) {W : World} {B : Nat} {x : List UInt8} (h : BytesAt W B x) (o dLen dCap : Nat) (s : List UInt8) (hd : s.length ≤ dLen) (ho : o + s.length ≤ x.length) :
    (Builtin.copy_ #[dT, sT] ty #[.slice (some ⟨B, o, none⟩) dLen dCap, .string (str s)]).run P W = .ok (goInt (s.length : Nat)) (W.setCells B o (cellsOf s)) := by
  have h1 := run_copy_string (P := P) W dT sT ty elem B o dLen dCap (str s) hu hz (by rw [str_size]; exact hd) (fun j hj => by
    rw [str_size] at hj
    rw [h.cell (by omega)]; rfl) (fun j hj => by
    rw [str_size] at hj
    exact h.free (by omega))
  rw [str_size, str_data] at h1
  exact h1
/-- so many noughts -/
def zeros (n : Nat) : List UInt8 := List.replicate n 0
theorem zeros_length (n : Nat) : (zeros n).length = n := List.length_replicate
theorem nth_zeros (n i : Nat) : nth (zeros n) i = 0 := by
  unfold nth zeros List.getD
  rw [List.getElem?_replicate]
  split <;> rfl
theorem cells_replicate (n : Nat) : (Builtin.zeroCells (Value.int .u8 0).cells n).toList = cellsOf (List.replicate n 0) := by
  apply List.ext_getElem?
  intro i
  by_cases h : i < n
  · simp [Builtin.zeroCells, Value.cells, cellsOf, h, Nat.mod_one]
  · simp [Builtin.zeroCells, Value.cells, cellsOf, h]
theorem run_clear {P : Program} {t ty elem : TypeId} (hu : P.underlying t = some (.slice elem)) (hz : ∀ w, (zeroValue elem).run P w = .ok (.int .u8 0) w) {W : World} {B : Nat} {x : List UInt8} (h : BytesAt W B x) (o n c : Nat) (ho : o + n ≤ x.length) :
    (Builtin.clear_ #[t] ty #[.slice (some ⟨B, o, none⟩) n c]).run P W = .ok (.tuple #[]) (W.setCells B o (cellsOf (zeros n))) := by
  unfold zeros
  have hl : (cellsOf (List.replicate n 0)).length = n := by simp [cellsOf]
  have hst := run_storeCells_cells (P := P) B o (cellsOf (List.replicate n 0)) 0 W (by
    intro j hj
    rw [hl] at hj
    rw [Nat.add_zero, h.cell (by omega)]; rfl) (by
    intro j hj
    rw [hl] at hj
    rw [Nat.add_zero]; exact h.free (by omega)) (by
    intro v hv
    simp only [cellsOf, List.mem_map] at hv
    obtain ⟨b, _, rfl⟩ := hv
    rfl)
  rw [← cells_replicate] at hst ⊢
  cases n with
  | zero => simp [Builtin.clear_, run_underlying hu, Builtin.zeroCells, World.setCells]
  | succ n => 
    simp only [Builtin.clear_]
    simp [run_underlying hu, hz]
    rw [hst]
    simp
end Go.Proofs.YtamnhpijeiigcaaDoor.UK
