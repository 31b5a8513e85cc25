/-
  A slice of acts (a struct of four fields of one cell), laid open to its cells.
-/
import Derived.Test.YtjfkdfffolkblaaDoorInts
import Derived.Test.YtjfkdfffolkblaaDoorCrc
namespace Go.Proofs.YtjfkdfffolkblaaDoor
open Go.RowKit Go.ChangeShapes Go.WideShapes Go.Deep
open UK (str)
section
variable {H : Type} {enc : TypeId × Value → H} {P : Program} {w : World} {base : Nat} {spare : Nat → Bool} {held : Bool}
theorem open_slice_fields {t e : TypeId} {fs : Array Field} {fuel : Nat} {cs : List Value} {x : DataW H × List MemPlace} (ht : P.underlying t = some (.slice e)) (he : P.underlying e = some (.struct fs))
    (hone : oneCellFields P fs = true) (hC : P.cellsOf e = fs.size) (h : DataW.trod enc P w base spare held fuel t cs = some x) :
    (cs = [.slice none 0 0] ∧ x = (.nil, [])) ∨
    ∃ (a : Addr) (len cap m : Nat) (D : Nat → DataW H) (Pl : Nat → List MemPlace), cs = [.slice (some a) len cap] ∧ base ≤ a.block ∧ len ≤ cap ∧ cap ≤ maxLen ∧ m = (if spare a.block then cap else len) ∧
      x = (.slice ((List.range len).map D) ((List.range (m - len)).map fun j => D (len + j)), MemPlace.row a (m * fs.size) ++ (List.range m).flatMap Pl) ∧
      ∀ i, i < m → ∃ (ys : List (DataW H × List MemPlace)) (n : Nat), D i = .agg (ys.map (·.1)) ∧ Pl i = ys.flatMap (·.2) ∧ ys.length = fs.size ∧
        ∀ (j : Nat) (f : Field), fs[j]? = some f → ∃ (v : Value) (y : DataW H × List MemPlace), w.cell? (a.add (i * fs.size + j)) = some v ∧ ys[j]? = some y ∧ DataW.trod enc P w base spare held n f.type [v] = some y := by
  rcases open_slice ht h with h0 | ⟨a, len, cap, m, n, D, Pl, hcs, hb, hl, hm, hmm, hx, hi⟩
  · exact .inl h0
  · refine .inr ⟨a, len, cap, m, D, Pl, hcs, hb, hl, hm, hmm, by rw [hC] at hx; exact hx, fun i him => ?_⟩
    obtain ⟨cs', hc, ht'⟩ := hi i him
    rw [hC] at hc
    obtain ⟨ys, n', hn', hy, hlen, hyl, hf⟩ := DataW.trod_struct he ht'
    obtain ⟨_, hcl, hat⟩ := World.cells?_some hc
    simp only [Prod.mk.injEq] at hy
    refine ⟨ys, n', hy.1, hy.2, hyl, fun j f hj => ?_⟩
    obtain ⟨ho, hk⟩ := hone_of hone j f hj
    have hjl : j < fs.size := (Array.getElem?_eq_some_iff.1 hj).1
    have hcell := hat j hjl
    have hv : cs'[j]? = some (cs'[j]'(by omega)) := List.getElem?_eq_getElem (by omega)
    have h1 := hf j f hj
    rw [ho, hk] at h1
    have hone' : (cs'.drop j).take 1 = [cs'[j]'(by omega)] := by
      rw [List.drop_eq_getElem_cons (by omega)]
      rfl
    rw [hone'] at h1
    have hys : ys[j]? = some (ys[j]'(by omega)) := List.getElem?_eq_getElem (by omega)
    refine ⟨_, _, ?_, hys, h1.trans hys⟩
    rw [← Go.Deep.add_add, hcell, hv]
end
/-- one act -/
structure Act1 where
  kd : Int
  pp : Int
  nn : Int
  by_ : UInt8
/-- a slice of acts, laid open -/
structure ActsAt (W : World) (b off len : Nat) (f : Nat → Act1) : Prop where
  c0 : ∀ i, i < len → W.cell? ⟨b, off + i * 4, none⟩ = some (.int .i64 (f i).kd)
  c1 : ∀ i, i < len → W.cell? ⟨b, off + i * 4 + 1, none⟩ = some (.int .i64 (f i).pp)
  c2 : ∀ i, i < len → W.cell? ⟨b, off + i * 4 + 2, none⟩ = some (.int .i64 (f i).nn)
  c3 : ∀ i, i < len → W.cell? ⟨b, off + i * 4 + 3, none⟩ = some (.int .u8 ((f i).by_.toNat : Int))
  p : ∀ i, i < len → (Lit.int .i64 (f i).pp).wf = true
  n : ∀ i, i < len → (Lit.int .i64 (f i).nn).wf = true
def actFields : Array Field := #[{ name := "Kind", type := 3, offset := 0, embedded := false, tag := "", pkgPath := "", byteOffset := 0 }, { name := "P", type := 3, offset := 1, embedded := false, tag := "", pkgPath := "", byteOffset := 8 }, { name := "N", type := 3, offset := 2, embedded := false, tag := "", pkgPath := "", byteOffset := 16 }, { name := "By", type := 5, offset := 3, embedded := false, tag := "", pkgPath := "", byteOffset := 24 }]
theorem act_fields : Tryd.prog.underlying 45 = some (.struct actFields) := by kernel_rfl
theorem act_one : oneCellFields Tryd.prog actFields = true := by kernel_rfl
theorem act_cells : Tryd.prog.cellsOf 45 = 4 := by kernel_rfl
theorem u8_of_wf {a : Int} (h : (Lit.int .u8 a).wf = true) : ∃ u : UInt8, a = (u.toNat : Int) := by
  simp [Lit.wf, IntKind.min, IntKind.max, IntKind.signed, IntKind.bits] at h
  exact ⟨UInt8.ofNat a.toNat, by simp; omega⟩
set_option maxRecDepth 100000 in
theorem acts_open {H : Type} {enc : TypeId × Value → H} {base : Nat} {d : DataW H} {p : List MemPlace} (W : World) (v : Value) (hok : Value.okWide Tryd.prog W .any base 40 v) (h : DataW.Trod enc Tryd.prog W 0 (fun _ => true) true 40 v d p) :
    ∃ ao len cap, v = .slice ao len cap ∧ (len = 0 ∨ ∃ b off f, ao = some ⟨b, off, none⟩ ∧ ActsAt W b off len f ∧ b < W.heap.size) := by
  obtain ⟨a0, len0, cap0, rfl⟩ := okWide_slice Tryd.underlying40 hok
  obtain ⟨fuel, hf⟩ := h
  rcases open_slice_fields Tryd.underlying40 act_fields act_one act_cells hf with ⟨hcs, _⟩ | ⟨a, len, cap, m, D, Pl, hcs, hb, hl, hm, hmm, hx, hi⟩
  · simp only [Value.cells, List.cons.injEq, and_true] at hcs
    obtain ⟨rfl, rfl, rfl⟩ := Value.slice.inj hcs
    exact ⟨none, 0, 0, rfl, .inl rfl⟩
  · simp only [Value.cells, List.cons.injEq, and_true] at hcs
    obtain ⟨rfl, rfl, rfl⟩ := Value.slice.inj hcs
    refine ⟨_, _, _, rfl, ?_⟩
    by_cases hl0 : len0 = 0
    · exact .inl hl0
    · have hmc : m = cap0 := by rw [hmm]; rfl
      have hcell : ∀ i, i < len0 → ∃ q : Act1, W.cell? (a.add (i * 4)) = some (.int .i64 q.kd) ∧ W.cell? (a.add (i * 4 + 1)) = some (.int .i64 q.pp) ∧ W.cell? (a.add (i * 4 + 2)) = some (.int .i64 q.nn) ∧ W.cell? (a.add (i * 4 + 3)) = some (.int .u8 (q.by_.toNat : Int)) ∧ (Lit.int .i64 q.pp).wf = true ∧ (Lit.int .i64 q.nn).wf = true := fun i hil => by
        obtain ⟨ys, n, _, _, _, hj⟩ := hi i (by omega)
        obtain ⟨v0, y0, h0, _, t0⟩ := hj 0 _ rfl
        obtain ⟨v1, y1, h1, _, t1⟩ := hj 1 _ rfl
        obtain ⟨v2, y2, h2, _, t2⟩ := hj 2 _ rfl
        obtain ⟨v5, y5, h5, _, t5⟩ := hj 3 _ rfl
        obtain ⟨k0, e0, _, _⟩ := DataW.trod_int Tryd.underlying3 t0
        obtain ⟨k1, e1, _, w1⟩ := DataW.trod_int Tryd.underlying3 t1
        obtain ⟨k2, e2, _, w2⟩ := DataW.trod_int Tryd.underlying3 t2
        obtain ⟨k5, e5, _, w5⟩ := DataW.trod_int Tryd.underlying5 t5
        simp only [List.cons.injEq, and_true] at e0 e1 e2 e5
        obtain ⟨u5, rfl⟩ := u8_of_wf w5
        subst e0 e1 e2 e5
        exact ⟨⟨k0, k1, k2, u5⟩, h0, h1, h2, h5, w1, w2⟩
      have hsp : a.spot = none := by
        obtain ⟨q, h0, _⟩ := hcell 0 (by omega)
        have e : a.add (0 * 4) = a := by simp [Addr.add]
        rw [e] at h0
        exact spot_none h0
      obtain ⟨b, off, sp⟩ := a
      simp only at hsp
      subst hsp
      simp only [add_mk, ← Nat.add_assoc] at hcell
      have hch : ∀ i, ∃ q : Act1, i < len0 → W.cell? ⟨b, off + i * 4, none⟩ = some (.int .i64 q.kd) ∧ W.cell? ⟨b, off + i * 4 + 1, none⟩ = some (.int .i64 q.pp) ∧ W.cell? ⟨b, off + i * 4 + 2, none⟩ = some (.int .i64 q.nn) ∧ W.cell? ⟨b, off + i * 4 + 3, none⟩ = some (.int .u8 (q.by_.toNat : Int)) ∧ (Lit.int .i64 q.pp).wf = true ∧ (Lit.int .i64 q.nn).wf = true := fun i => by
        by_cases h : i < len0
        · obtain ⟨q, h'⟩ := hcell i h
          exact ⟨q, fun _ => h'⟩
        · exact ⟨⟨0, 0, 0, 0⟩, fun h' => absurd h' h⟩
      obtain ⟨f, hf'⟩ := Classical.axiomOfChoice hch
      exact .inr ⟨b, off, f, rfl, ⟨fun i h => (hf' i h).1, fun i h => (hf' i h).2.1, fun i h => (hf' i h).2.2.1, fun i h => (hf' i h).2.2.2.1, fun i h => (hf' i h).2.2.2.2.1, fun i h => (hf' i h).2.2.2.2.2⟩, block_lt_of_cell (hf' 0 (by omega)).1⟩
end Go.Proofs.YtjfkdfffolkblaaDoor
