/-
  append(b, make([]byte, n)...): bytes in a block, noughts behind them, whether there is room or not.
-/
import Derived.Test.YtamnhpijeiigcaaDoorURow
namespace Go.Proofs.YtamnhpijeiigcaaDoor
open Go.RowKit
namespace UK
theorem wr_end (y : List UInt8) (n m : Nat) (s : List UInt8) (hs : s.length = m) (h : n + m ≤ y.length) : (wr y n s).take (n + m) = y.take n ++ s := by
  unfold wr
  have h1 : (y.take n).length = n := by rw [List.length_take]; omega
  rw [List.take_append, h1, List.take_of_length_le (l := y.take n) (by omega), show n + m - n = m by omega, List.take_append, List.take_of_length_le (l := s) (by omega), hs, Nat.sub_self, List.take_zero, List.append_nil]
theorem cellsOf_length (s : List UInt8) : (cellsOf s).length = s.length := by simp [cellsOf]
theorem push_zeros {P : Program} {t tn ty e : TypeId} {i : TypeInfo} {k kn : IntKind} (ht : P.underlying t = some (.slice e)) (htn : P.underlying tn = some (.int kn)) (hi : P.info? e = some i) (hz : i.zero = some (.int .u8 0)) (hs1 : i.size = 1) (hb1 : i.bytes = 1)
    {W : World} {B bc : Nat} {x y : List UInt8} (h : BytesAt W B y) (hyl : y.length = bc) (hle : x.length ≤ bc) (hpre : y.take x.length = x) (n : Nat) (h0 : 0 < n) (hlen : x.length + n ≤ 100000000) :
    ∃ B' bc' y' W', (Builtin.append_ #[t, tn] ty #[.slice (some ⟨B, 0, none⟩) x.length bc, .int k n]).run P W = .ok (.slice (some ⟨B', 0, none⟩) (x.length + n) bc') W' ∧ BytesAt W' B' y' ∧ y'.length = bc' ∧ x.length + n ≤ bc' ∧ y'.take (x.length + n) = x ++ zeros n ∧ ((B' = B ∧ Only B W W') ∨ (B' = W.heap.size ∧ Below W.heap.size W W')) := by
  have hn : n ≠ 0 := by omega
  have hw : IntKind.i64.wrap (n : Int) = n := by rw [IntKind.wrap_i64]; omega
  have h63' : ¬ (9223372036854775807 < ((x.length : Int) + (n : Int))) := by omega
  have h48i : ¬ (281474976710656 < (n : Int)) := by omega
  have hneg : ¬ ((n : Int) < 0) := by omega
  have hzl : (cellsOf (zeros n)).length = n := by rw [cellsOf_length, zeros_length]
  by_cases hf : x.length + n ≤ bc
  · have hst := run_storeCells_cells (P := P) B x.length (cellsOf (zeros n)) 0 W (by
      intro j hj
      rw [hzl] at hj
      rw [Nat.add_zero, h.cell (by omega)]; rfl) (by
      intro j hj
      rw [hzl] at hj
      rw [Nat.add_zero]; exact h.free (by omega)) (by
      intro v hv
      simp only [cellsOf, List.mem_map] at hv
      obtain ⟨b, _, rfl⟩ := hv
      rfl)
    rw [show cellsOf (zeros n) = (Builtin.zeroCells (Value.int .u8 0).cells n).toList from (cells_replicate n).symm] at hst
    refine ⟨B, bc, wr y x.length (zeros n), W.setCells B x.length (cellsOf (zeros n)), ?_, h.setCells _ _ (by rw [zeros_length]; omega), by rw [wr_length _ _ _ (by rw [zeros_length]; omega)]; exact hyl, hf, ?_, .inl ⟨rfl, Only.setCells _ _ (Only.refl _ _)⟩⟩
    · rw [show cellsOf (zeros n) = (Builtin.zeroCells (Value.int .u8 0).cells n).toList from (cells_replicate n).symm]
      simp only [Nat.add_zero] at hst
      simp [Builtin.append_, run_underlying ht, run_underlying htn, sizeOf, typeInfo, zeroValue, hi, hz, hs1, hb1, asInt, asIntOf, hw, hn, hneg, h48i, hf, add_mk0, hst]
    · rw [wr_end y x.length n (zeros n) (zeros_length n) (by omega), hpre]
  · have h48' : ¬ (281474976710656 < Builtin.nextslicecap (x.length + n) bc) := by
      have := growslice_fits (show bc < x.length + n by omega) (show (x.length + n) * 1 ≤ 140737488355328 by omega)
      omega
    have hold : (Builtin.firstCells 1 x.length (.slice (some ⟨B, 0, none⟩) x.length bc)).run P W.drew = .ok (cellsOf x).toArray W.drew :=
      run_firstCells_some W.drew 1 x.length ⟨B, 0, none⟩ x.length bc (cellsOf x) (by rw [cellsOf_length, Nat.mul_one]) (fun j v hj => by
        have hjl : j < x.length := by have := (List.getElem?_eq_some_iff.1 hj).1; rwa [cellsOf_length] at this
        rw [add_mk0, Nat.zero_add, h.drew.cell (by omega)]
        have e1 : nth y j = nth x j := by
          unfold nth
          rw [List.getD_eq_getElem?_getD, List.getD_eq_getElem?_getD]
          conv => rhs; rw [← hpre]
          rw [List.getElem?_take_of_lt hjl]
        rw [e1, ← bcells_get x j hjl]
        unfold bcells
        rw [List.getElem?_toArray]
        exact hj)
    have hge := grownCap_ge W (x.length + n) bc e
    refine ⟨W.heap.size, grownCap W (x.length + n) bc e, x ++ zeros (grownCap W (x.length + n) bc e - x.length), W.drew.alloc (.cells (bcells (x ++ zeros (grownCap W (x.length + n) bc e - x.length))) e), ?_, ?_, ?_, hge, ?_, .inr ⟨rfl, (Below.refl W.heap.size W).drew.alloc (Nat.le_refl _) _⟩⟩
    · have hcells : (cellsOf x).toArray ++ (Builtin.zeroCells (Value.int .u8 0).cells n ++ Builtin.zeroCells (Value.int .u8 0).cells (grownCap W (x.length + n) bc e - (x.length + n))) = bcells (x ++ zeros (grownCap W (x.length + n) bc e - x.length)) := by
        apply Array.ext'
        rw [Array.toList_append, Array.toList_append, cells_replicate, cells_replicate]
        unfold bcells cellsOf zeros
        simp only [List.map_append, List.map_replicate, List.replicate_append_replicate]
        rw [show n + (grownCap W (x.length + n) bc e - (x.length + n)) = grownCap W (x.length + n) bc e - x.length by omega]
      rw [← hcells]
      unfold grownCap at *
      simp [Builtin.append_, run_underlying ht, run_underlying htn, sizeOf, typeInfo, zeroValue, hi, hz, hs1, hb1, asInt, asIntOf, hw, hn, hneg, h48i, hf, h63', h48', Question.forced, hold, newRow]
    · refine ⟨e, (0, 0), ?_, fun i _ hh => absurd hh.2 (Nat.not_lt_zero _)⟩
      show (W.drew.heap.push _)[W.heap.size]? = _
      rw [show W.heap.size = W.drew.heap.size from rfl, Array.getElem?_push_size]
    · rw [List.length_append, zeros_length]; omega
    · rw [List.take_append, List.take_of_length_le (by omega), show x.length + n - x.length = n by omega]
      unfold zeros
      rw [List.take_replicate, Nat.min_eq_left (by omega)]
/-- one value appended -/
theorem push_one {P : Program} {t ty e : TypeId} {i : TypeInfo} {z : Value} (ht : P.underlying t = some (.slice e)) (hi : P.info? e = some i) (hz : i.zero = some z) (h1 : i.size = 1) (h16 : i.bytes ≤ 16) (hzs : z.cells.size = 1)
    {W : World} {ao : Option Addr} {c : Nat} {vs : List Value} (h : (ao = none ∧ vs = [] ∧ c = 0) ∨ ∃ g, ao = some ⟨g, 0, none⟩ ∧ Row W g c vs) (v : Value) (hv : v.oneCell' = true) (hlen : vs.length + 1 ≤ 1000000) :
    ∃ g' c' W', (Builtin.append_ #[t, t] ty #[.slice ao vs.length c, .slice (some ⟨W.heap.size, 0, none⟩) 1 1]).run P (W.alloc (.cells #[v] e)) = .ok (.slice (some ⟨g', 0, none⟩) (vs.length + 1) c') W' ∧ Row W' g' c' (vs ++ [v]) ∧ Only g' W W' ∧ (ao = some ⟨g', 0, none⟩ ∨ W.heap.size ≤ g') := by
  have ha : (ao = none ∧ vs = [] ∧ c = 0) ∨ ∃ g, ao = some ⟨g, 0, none⟩ ∧ Row (W.alloc (.cells #[v] e)) g c vs := by
    rcases h with h | ⟨g, e1, h⟩
    · exact .inl h
    · exact .inr ⟨g, e1, h.alloc _⟩
  obtain ⟨g', c', W', e1, r, o⟩ := push_row (P := P) (t := t) (tx := t) (ty := ty) ht hi hz h1 h16 hzs ha (x := .slice (some ⟨W.heap.size, 0, none⟩) 1 1) (m := [v]) (by simp) (Src.ofSlice _ ht ⟨W.heap.size, 0, none⟩ 1 1 [v] rfl (fun j u hj => by
      have hj0 : j = 0 := by
        by_cases hc : j < 1
        · omega
        · rw [List.getElem?_eq_none (by simp; omega)] at hj; cases hj
      subst hj0
      rw [add_mk0, Nat.zero_add]
      refine (World.cell?_alloc_new W #[v] e 0).trans ?_
      exact hj) (fun u hu => by
        obtain rfl := List.mem_singleton.1 hu
        exact hv)) (by simpa using hlen)
  rw [List.length_append] at e1
  refine ⟨g', c', W', e1, r, ?_⟩
  rcases o with ⟨a, o⟩ | ⟨a, b⟩
  · exact ⟨((Only.refl g' W).alloc _).trans o, .inl a⟩
  · have hs : (W.alloc (.cells #[v] e)).heap.size = W.heap.size + 1 := by simp
    exact ⟨((Only.refl g' W).alloc _).trans (Only.of_below b), .inr (by rw [a, hs]; omega)⟩
end UK
end Go.Proofs.YtamnhpijeiigcaaDoor
