/-
  The statements' arguments, laid open to their cells: an area; plain data.
-/
import Derived.Test.YteelmbpmmobpjaaGreatDoorValE
import Derived.Test.YteelmbpmmobpjaaGreatDoorValJ
import Derived.Deep.Slices
import Derived.Deep.Fields
import Derived.ChangeSame
import Derived.ProofKit
namespace Go.Proofs.YteelmbpmmobpjaaGreatDoor.A18
open Go.RowKit Go.ChangeShapes Go.WideShapes Go.Deep
open UK (str)
section
variable {H : Type} {enc : TypeId × Value → H} {P : Program} {w : World} {base : Nat} {spare : Nat → Bool} {held : Bool}
theorem open_slice_fields {t e : TypeId} {fs : Array Field} {fuel : Nat} {cs : List Value} {x : DataW H × List MemPlace} (ht : P.underlying t = some (.slice e)) (he : P.underlying e = some (.struct fs))
    (hone : oneCellFields P fs = true) (hC : P.cellsOf e = fs.size) (h : DataW.trod enc P w base spare held fuel t cs = some x) :
    (cs = [.slice none 0 0] ∧ x = (.nil, [])) ∨
    ∃ (a : Addr) (len cap m : Nat) (D : Nat → DataW H) (Pl : Nat → List MemPlace), cs = [.slice (some a) len cap] ∧ base ≤ a.block ∧ len ≤ cap ∧ cap ≤ maxLen ∧ m = (if spare a.block then cap else len) ∧
      x = (.slice ((List.range len).map D) ((List.range (m - len)).map fun j => D (len + j)), MemPlace.row a (m * fs.size) ++ (List.range m).flatMap Pl) ∧
      ∀ i, i < m → ∃ (ys : List (DataW H × List MemPlace)) (n : Nat), D i = .agg (ys.map (·.1)) ∧ Pl i = ys.flatMap (·.2) ∧ ys.length = fs.size ∧
        ∀ (j : Nat) (f : Field), fs[j]? = some f → ∃ (v : Value) (y : DataW H × List MemPlace), w.cell? (a.add (i * fs.size + j)) = some v ∧ ys[j]? = some y ∧ DataW.trod enc P w base spare held n f.type [v] = some y := by
  rcases open_slice ht h with h0 | ⟨a, len, cap, m, n, D, Pl, hcs, hb, hl, hm, hmm, hx, hi⟩
  · exact .inl h0
  · refine .inr ⟨a, len, cap, m, D, Pl, hcs, hb, hl, hm, hmm, by rw [hC] at hx; exact hx, fun i him => ?_⟩
    obtain ⟨cs', hc, ht'⟩ := hi i him
    rw [hC] at hc
    obtain ⟨ys, n', hn', hy, hlen, hyl, hf⟩ := DataW.trod_struct he ht'
    obtain ⟨_, hcl, hat⟩ := World.cells?_some hc
    simp only [Prod.mk.injEq] at hy
    refine ⟨ys, n', hy.1, hy.2, hyl, fun j f hj => ?_⟩
    obtain ⟨ho, hk⟩ := hone_of hone j f hj
    have hjl : j < fs.size := (Array.getElem?_eq_some_iff.1 hj).1
    have hcell := hat j hjl
    have hv : cs'[j]? = some (cs'[j]'(by omega)) := List.getElem?_eq_getElem (by omega)
    have h1 := hf j f hj
    rw [ho, hk] at h1
    have hone' : (cs'.drop j).take 1 = [cs'[j]'(by omega)] := by
      rw [List.drop_eq_getElem_cons (by omega)]
      rfl
    rw [hone'] at h1
    have hys : ys[j]? = some (ys[j]'(by omega)) := List.getElem?_eq_getElem (by omega)
    refine ⟨_, _, ?_, hys, h1.trans hys⟩
    rw [← Go.Deep.add_add, hcell, hv]
end
def plainFs : Array Field := #[{ name := "Kind", type := 3, offset := 0, embedded := false, tag := "", pkgPath := "", byteOffset := 0 }, { name := "N", type := 39, offset := 1, embedded := false, tag := "", pkgPath := "", byteOffset := 8 }, { name := "S", type := 9, offset := 2, embedded := false, tag := "", pkgPath := "", byteOffset := 16 }]
def areaFs : Array Field := #[{ name := "One", type := 4, offset := 0, embedded := false, tag := "", pkgPath := "", byteOffset := 0 }, { name := "Cols", type := 3, offset := 1, embedded := false, tag := "", pkgPath := "", byteOffset := 8 }, { name := "L", type := 22, offset := 2, embedded := false, tag := "", pkgPath := "", byteOffset := 16 }]
set_option maxRecDepth 100000 in
theorem plain_under : Tryz.prog.underlying 46 = some (.struct plainFs) := by kernel_rfl
set_option maxRecDepth 100000 in
theorem plain_one : oneCellFields Tryz.prog plainFs = true := by kernel_rfl
theorem plain_cells : Tryz.prog.cellsOf 46 = 3 := by kernel_rfl
set_option maxRecDepth 100000 in
theorem area_under : Tryz.prog.underlying 24 = some (.struct areaFs) := by kernel_rfl
set_option maxRecDepth 100000 in
theorem area_one : oneCellFields Tryz.prog areaFs = true := by kernel_rfl
theorem area_cells : Tryz.prog.cellsOf 24 = 3 := by kernel_rfl
theorem spot_none {w : World} {a : Addr} {v : Value} (h : w.cell? a = some v) : a.spot = none := by
  unfold World.cell? at h
  split at h
  · split at h
    · cases h
    · rename_i hs; simpa using hs
  · cases h
theorem add_mk (b off n : Nat) : (⟨b, off, none⟩ : Addr).add n = ⟨b, off + n, none⟩ := by
  unfold Addr.add
  by_cases hn : n = 0 <;> simp [hn]
section
variable {H : Type} {enc : TypeId × Value → H} {W : World} {base : Nat} {spare : Nat → Bool} {held : Bool}
set_option maxRecDepth 100000 in
theorem plains_open {fuel : Nat} {v : Value} {x : DataW H × List MemPlace} (h : DataW.trod enc Tryz.prog W base spare held fuel 22 [v] = some x) : ∃ ps, PlSl W v ps ∧ ps.length ≤ maxLen := by
  rcases open_slice_fields Tryz.underlying22 plain_under plain_one plain_cells h with ⟨hcs, _⟩ | ⟨a, len, cap, m, D, Pl, hcs, hb, hl, hm, hmm, hx, hi⟩
  · simp only [List.cons.injEq, and_true] at hcs
    subst hcs
    exact ⟨[], ⟨none, 0, rfl, fun i p hp => by simp at hp⟩, Nat.zero_le _⟩
  · simp only [List.cons.injEq, and_true] at hcs
    subst hcs
    have hlm : len ≤ m := by rw [hmm]; split <;> omega
    have hcell : ∀ i, i < len → ∃ p : Int × Int × List UInt8, W.cell? (a.add (i * 3)) = some (.int .i64 p.1) ∧ W.cell? (a.add (i * 3 + 1)) = some (.int .i64 p.2.1) ∧ W.cell? (a.add (i * 3 + 2)) = some (.string (str p.2.2)) := fun i hil => by
      obtain ⟨ys, n, _, _, _, hj⟩ := hi i (by omega)
      obtain ⟨v0, y0, h0, _, t0⟩ := hj 0 _ rfl
      obtain ⟨v1, y1, h1, _, t1⟩ := hj 1 _ rfl
      obtain ⟨v2, y2, h2, _, t2⟩ := hj 2 _ rfl
      obtain ⟨k0, e0, _, _⟩ := DataW.trod_int Tryz.underlying3 t0
      obtain ⟨k1, e1, _, _⟩ := DataW.trod_int Tryz.underlying39 t1
      obtain ⟨s2, e2, _, _⟩ := DataW.trod_string Tryz.underlying9 t2
      simp only [List.cons.injEq, and_true] at e0 e1 e2
      subst e0 e1 e2
      exact ⟨(k0, k1, s2.data.toList), h0, h1, by rw [← UK.str_self]; exact h2⟩
    by_cases hl0 : len = 0
    · subst hl0
      exact ⟨[], ⟨some a, cap, rfl, fun i p hp => by simp at hp⟩, Nat.zero_le _⟩
    · have hsp : a.spot = none := by
        obtain ⟨p, h0, _⟩ := hcell 0 (by omega)
        have e : a.add (0 * 3) = a := by simp [Addr.add]
        rw [e] at h0
        exact spot_none h0
      obtain ⟨b, off, sp⟩ := a
      simp only at hsp
      subst hsp
      simp only [add_mk, ← Nat.add_assoc] at hcell
      obtain ⟨f, hf⟩ := choose_lt (α := Int × Int × List UInt8) hcell
      refine ⟨(List.range len).map f, ⟨some ⟨b, off, none⟩, cap, by simp, fun i p hp => ?_⟩, by simp; omega⟩
      rw [List.getElem?_map] at hp
      by_cases hil : i < len
      · rw [List.getElem?_range hil] at hp
        obtain rfl := Option.some.inj hp
        obtain ⟨h0, h1, h2⟩ := hf i hil
        exact ⟨b, off, rfl, block_lt_of_cell h0, h0, h1, h2⟩
      · rw [List.getElem?_eq_none (by simpa using hil)] at hp
        cases hp
theorem three_of {cs : List Value} (h : cs.length = 3) : ∃ a b c, cs = [a, b, c] := by
  match cs, h with
  | [a, b, c], _ => exact ⟨a, b, c, rfl⟩
set_option maxRecDepth 100000 in
theorem area_open {r : Reach} {b0 : Nat} {v : Value} {d : DataW H} {p : List MemPlace} (hok : Value.okWide Tryz.prog W r b0 24 v) (h : DataW.Trod enc Tryz.prog W base spare held 24 v d p) :
    ∃ (one : Bool) (cols : Int) (sl : Value) (ps : List (Int × Int × List UInt8)), v = .agg #[.bool one, .int .i64 cols, sl] ∧ PlSl W sl ps ∧ ps.length ≤ maxLen := by
  obtain ⟨cs, rfl, hsz⟩ := okWide_struct area_under hok
  rw [area_cells] at hsz
  obtain ⟨fuel, hf⟩ := h
  obtain ⟨a, b, c, he⟩ := three_of (cs := cs.toList) (by simpa using hsz)
  obtain rfl : cs = #[a, b, c] := by
    have := congrArg List.toArray he
    simpa using this
  obtain ⟨ys, n', hn', hy, hlen, hyl, hfs⟩ := DataW.trod_struct area_under hf
  have hy3 : ys.length = 3 := hyl
  have g0 : DataW.trod enc Tryz.prog W base spare held n' 4 (List.take (Tryz.prog.cellsOf 4) [a, b, c]) = ys[0]? := hfs 0 _ rfl
  have g1 : DataW.trod enc Tryz.prog W base spare held n' 3 (List.take (Tryz.prog.cellsOf 3) [b, c]) = ys[1]? := hfs 1 _ rfl
  have g2 : DataW.trod enc Tryz.prog W base spare held n' 22 (List.take (Tryz.prog.cellsOf 22) [c]) = ys[2]? := hfs 2 _ rfl
  rw [show Tryz.prog.cellsOf 4 = 1 by kernel_rfl, List.getElem?_eq_getElem (by omega)] at g0
  rw [show Tryz.prog.cellsOf 3 = 1 by kernel_rfl, List.getElem?_eq_getElem (by omega)] at g1
  rw [show Tryz.prog.cellsOf 22 = 1 by kernel_rfl, List.getElem?_eq_getElem (by omega)] at g2
  obtain ⟨o, ho, _⟩ := DataW.trod_bool Tryz.underlying4 g0
  obtain ⟨k, hk, _, _⟩ := DataW.trod_int Tryz.underlying3 g1
  obtain ⟨ps, hp, hpl⟩ := plains_open g2
  obtain rfl : a = .bool o := by simpa using ho
  obtain rfl : b = .int .i64 k := by simpa using hk
  exact ⟨o, k, c, ps, rfl, hp, hpl⟩
set_option maxRecDepth 100000 in
theorem plain_open {r : Reach} {b0 : Nat} {v : Value} {d : DataW H} {p : List MemPlace} (hok : Value.okWide Tryz.prog W r b0 46 v) (h : DataW.Trod enc Tryz.prog W base spare held 46 v d p) :
    ∃ (k n : Int) (s : List UInt8), v = .agg #[.int .i64 k, .int .i64 n, .string (str s)] ∧ s.length ≤ maxLen := by
  obtain ⟨cs, rfl, hsz⟩ := okWide_struct plain_under hok
  rw [plain_cells] at hsz
  obtain ⟨fuel, hf⟩ := h
  obtain ⟨a, b, c, he⟩ := three_of (cs := cs.toList) (by simpa using hsz)
  obtain rfl : cs = #[a, b, c] := by
    have := congrArg List.toArray he
    simpa using this
  obtain ⟨ys, n', hn', hy, hlen, hyl, hfs⟩ := DataW.trod_struct plain_under hf
  have hy3 : ys.length = 3 := hyl
  have g0 : DataW.trod enc Tryz.prog W base spare held n' 3 (List.take (Tryz.prog.cellsOf 3) [a, b, c]) = ys[0]? := hfs 0 _ rfl
  have g1 : DataW.trod enc Tryz.prog W base spare held n' 39 (List.take (Tryz.prog.cellsOf 39) [b, c]) = ys[1]? := hfs 1 _ rfl
  have g2 : DataW.trod enc Tryz.prog W base spare held n' 9 (List.take (Tryz.prog.cellsOf 9) [c]) = ys[2]? := hfs 2 _ rfl
  rw [show Tryz.prog.cellsOf 3 = 1 by kernel_rfl, List.getElem?_eq_getElem (by omega)] at g0
  rw [show Tryz.prog.cellsOf 39 = 1 by kernel_rfl, List.getElem?_eq_getElem (by omega)] at g1
  rw [show Tryz.prog.cellsOf 9 = 1 by kernel_rfl, List.getElem?_eq_getElem (by omega)] at g2
  obtain ⟨k, hk, _, _⟩ := DataW.trod_int Tryz.underlying3 g0
  obtain ⟨n, hn, _, _⟩ := DataW.trod_int Tryz.underlying39 g1
  obtain ⟨s, hs, _, hsl⟩ := DataW.trod_string Tryz.underlying9 g2
  obtain rfl : a = .int .i64 k := by simpa using hk
  obtain rfl : b = .int .i64 n := by simpa using hn
  obtain rfl : c = .string s := by simpa using hs
  refine ⟨k, n, s.data.toList, ?_, ?_⟩
  · rw [← UK.str_self]
  · have := UK.str_size s.data.toList
    rw [← UK.str_self] at this
    omega
end
end Go.Proofs.YteelmbpmmobpjaaGreatDoor.A18
