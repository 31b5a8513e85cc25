/-
  A row of one-cell values in the world, in a block: its values, its capacity.
-/
import Derived.Test.YtamnhpijeiigcaaDoorUOnly
import Derived.Test.YtamnhpijeiigcaaDoorUCopy
import Derived.Deep.AppendSrc
import Derived.OwnWalk
namespace Go.Proofs.YtamnhpijeiigcaaDoor
open Go.RowKit
namespace UK
/-- block g holds the values vs, with room for c; none of its cells is frozen -/
structure Row (W : World) (g c : Nat) (vs : List Value) : Prop where
  lt : g < W.heap.size
  le : vs.length ≤ c
  holds : ∀ j, j < vs.length → W.cell? ⟨g, j, none⟩ = vs[j]?
  there : ∀ j, j < c → (W.cell? ⟨g, j, none⟩).isSome = true ∧ W.frozen? ⟨g, j, none⟩ = false
theorem add_mk0 (b off n : Nat) : (⟨b, off, none⟩ : Addr).add n = ⟨b, off + n, none⟩ := by
  unfold Addr.add; split <;> simp_all
namespace Row
variable {W W' : World} {g c : Nat} {vs : List Value}
theorem of_block (h : Row W g c vs) (hs : W.heap.size ≤ W'.heap.size) (hb : W'.heap[g]? = W.heap[g]?) : Row W' g c vs :=
  ⟨Nat.lt_of_lt_of_le h.lt hs, h.le, fun j hj => (World.cell?_of_block (a := ⟨g, j, none⟩) hb).trans (h.holds j hj),
    fun j hj => ⟨by rw [World.cell?_of_block (a := ⟨g, j, none⟩) hb]; exact (h.there j hj).1, (World.frozen?_of_block (a := ⟨g, j, none⟩) hb).trans (h.there j hj).2⟩⟩
theorem drewN (h : Row W g c vs) (n : Nat) : Row (W.drewN n) g c vs := h.of_block (Nat.le_refl _) rfl
theorem below {n : Nat} (h : Row W g c vs) (hb : Below n W W') (hn : g < n) : Row W' g c vs := h.of_block hb.size (hb.block g hn)
theorem only {B : Nat} (h : Row W g c vs) (ho : Only B W W') (hn : g ≠ B) : Row W' g c vs := h.of_block ho.size (ho.block g h.lt hn)
theorem alloc (h : Row W g c vs) (o : Obj) : Row (W.alloc o) g c vs := h.of_block (by simp) (Below.heap_alloc W o g h.lt)
theorem at' (h : Row W g c vs) (j : Nat) (v : Value) (hv : vs[j]? = some v) : W.cell? ⟨g, j, none⟩ = some v := by
  have hj : j < vs.length := (List.getElem?_eq_some_iff.1 hv).1
  rw [h.holds j hj, hv]
theorem free (h : Row W g c vs) (j : Nat) (hj : j < c) : W.frozen? ⟨g, j, none⟩ = false := (h.there j hj).2
theorem take (h : Row W g c vs) (n : Nat) : Row W g c (vs.take n) := by
  refine ⟨h.lt, by rw [List.length_take]; have := h.le; omega, fun j hj => ?_, h.there⟩
  rw [List.length_take] at hj
  rw [h.holds j (by omega), List.getElem?_take_of_lt (by omega)]
theorem setCells (h : Row W g c vs) (o : Nat) (m : List Value) (hm : o + m.length ≤ c) (k : List Value) (hk : k.length ≤ c)
    (hin : ∀ j, j < m.length → k[o + j]? = m[j]?) (hout : ∀ j, j < k.length → j < o ∨ o + m.length ≤ j → j < vs.length ∧ k[j]? = vs[j]?) :
    Row (W.setCells g o m) g c k := by
  have hs : ∀ j, j < m.length → (W.cell? ⟨g, o + j, none⟩).isSome = true := fun j hj => (h.there _ (by omega)).1
  have ci := World.cell?_setCells_in g m o W hs
  have co : ∀ j, j < o ∨ o + m.length ≤ j → (W.setCells g o m).cell? ⟨g, j, none⟩ = W.cell? ⟨g, j, none⟩ := fun j hj => World.cell?_setCells_out g m o W ⟨g, j, none⟩ (fun _ _ => hj)
  refine ⟨Nat.lt_of_lt_of_le h.lt (Only.setCells m o (Only.refl g W)).size, hk, fun j hj => ?_, fun j hj => ⟨?_, by rw [World.frozen?_setCells]; exact (h.there j hj).2⟩⟩
  · by_cases hc : j < o ∨ o + m.length ≤ j
    · rw [co j hc, h.holds j (hout j hj hc).1, (hout j hj hc).2]
    · have := ci (j - o) (by omega)
      rw [show o + (j - o) = j by omega] at this
      rw [this, ← List.getElem?_eq_getElem, ← hin (j - o) (by omega), show o + (j - o) = j by omega]
  · by_cases hc : j < o ∨ o + m.length ≤ j
    · rw [co j hc]; exact (h.there j hj).1
    · have := ci (j - o) (by omega)
      rw [show o + (j - o) = j by omega] at this
      rw [this]; rfl
theorem set (h : Row W g c vs) (i : Nat) (v : Value) (hi : i < vs.length) : Row (W.setCell ⟨g, i, none⟩ v) g c (vs.set i v) := by
  have hle := h.le
  refine h.setCells i [v] (by simp; omega) (vs.set i v) (by simpa using hle) (fun j hj => ?_) (fun j hj hc => ?_)
  · obtain rfl : j = 0 := by simpa using hj
    simp [hi]
  · simp only [List.length_set] at hj
    simp only [List.length_singleton] at hc
    refine ⟨hj, ?_⟩
    rw [List.getElem?_set_ne (by omega)]
end Row
/-- values appended, whether there is room or not; the row may be nil -/
theorem push_row {P : Program} {t tx ty e : TypeId} {i : TypeInfo} {z : Value} (ht : P.underlying t = some (.slice e)) (hi : P.info? e = some i) (hz : i.zero = some z) (h1 : i.size = 1) (h16 : i.bytes ≤ 16) (hzs : z.cells.size = 1)
    {W : World} {ao : Option Addr} {c : Nat} {vs : List Value} (h : (ao = none ∧ vs = [] ∧ c = 0) ∨ ∃ g, ao = some ⟨g, 0, none⟩ ∧ Row W g c vs) {x : Value} {m : List Value} (hm0 : 0 < m.length) (hs : Src P 1 tx x m.length m W) (hlen : vs.length + m.length ≤ 1000000) :
    ∃ g' c' W', (Builtin.append_ #[t, tx] ty #[.slice ao vs.length c, x]).run P W = .ok (.slice (some ⟨g', 0, none⟩) (vs ++ m).length c') W' ∧ Row W' g' c' (vs ++ m) ∧ ((ao = some ⟨g', 0, none⟩ ∧ Only g' W W') ∨ (g' = W.heap.size ∧ Below W.heap.size W W')) := by
  rw [List.length_append]
  have hgrow : c < vs.length + m.length → (Builtin.firstCells i.size vs.length (.slice ao vs.length c)).run P W.drew = .ok vs.toArray W.drew →
      ∃ g' c' W', (Builtin.append_ #[t, tx] ty #[.slice ao vs.length c, x]).run P W = .ok (.slice (some ⟨g', 0, none⟩) (vs.length + m.length) c') W' ∧ Row W' g' c' (vs ++ m) ∧ ((ao = some ⟨g', 0, none⟩ ∧ Only g' W W') ∨ (g' = W.heap.size ∧ Below W.heap.size W W')) := by
    intro hg hold
    have hfit : (vs.length + m.length) * i.bytes ≤ 140737488355328 := Nat.le_trans (Nat.mul_le_mul hlen h16) (by decide)
    have hrun := run_append_grow_src (P := P) W t tx ty e i z ht hi hz ao vs.length c vs hold x m.length m (by rw [h1]; exact hs) hg (by omega) (growslice_fits hg hfit)
    have hge := grownCap_ge W (vs.length + m.length) c e
    have e1 := World.cell?_alloc_new W.drew ((vs ++ m).toArray ++ Builtin.zeroCells z.cells (grownCap W (vs.length + m.length) c e - (vs.length + m.length))) e
    refine ⟨W.heap.size, _, _, hrun, ⟨by simp, by rw [List.length_append]; exact hge, fun j hj => ?_, fun j hj => ⟨?_, World.frozen?_alloc_new W.drew _ _ j⟩⟩, .inr ⟨rfl, (Below.refl W.heap.size W).drew.alloc (Nat.le_refl _) _⟩⟩
    · refine Eq.trans (e1 j) ?_
      rw [Array.getElem?_append_left (by simp only [List.size_toArray]; exact hj), List.getElem?_toArray]
    · have hsz : ((vs ++ m).toArray ++ Builtin.zeroCells z.cells (grownCap W (vs.length + m.length) c e - (vs.length + m.length))).size = grownCap W (vs.length + m.length) c e := by
        rw [Array.size_append, List.size_toArray, List.length_append, size_zeroCells, hzs, Nat.mul_one]
        omega
      have e2 : (W.drew.alloc (.cells ((vs ++ m).toArray ++ Builtin.zeroCells z.cells (grownCap W (vs.length + m.length) c e - (vs.length + m.length))) e)).cell? ⟨W.heap.size, j, none⟩ = _ := e1 j
      rw [e2, Array.getElem?_eq_getElem (by rw [hsz]; exact hj)]
      rfl
  rcases h with ⟨rfl, rfl, rfl⟩ | ⟨g, rfl, h⟩
  · exact hgrow (by simpa using hm0) (run_firstCells_none W.drew i.size 0 0 0)
  · have hle := h.le
    by_cases hf : vs.length + m.length ≤ c
    · have hr := run_append_room_src (P := P) W t tx ty e i ht hi g 0 vs.length c x m.length m (by rw [h1]; exact hs) hf
        (fun j hj => by rw [h1]; exact (h.there _ (by omega)).1) (fun j hj => by rw [h1]; exact (h.there _ (by omega)).2)
      rw [h1, Nat.zero_add, Nat.mul_one] at hr
      refine ⟨g, c, _, hr, h.setCells vs.length m hf (vs ++ m) (by rw [List.length_append]; exact hf) (fun j hj => ?_) (fun j hj hc => ?_), .inl ⟨rfl, Only.setCells _ _ (Only.refl _ _)⟩⟩
      · rw [List.getElem?_append_right (by omega), Nat.add_sub_cancel_left]
      · rw [List.length_append] at hj
        exact ⟨by omega, by rw [List.getElem?_append_left (by omega)]⟩
    · exact hgrow (by omega) (run_firstCells_some W.drew i.size vs.length ⟨g, 0, none⟩ vs.length c vs (by rw [h1, Nat.mul_one]) (fun j v hj => by
        have hjl : j < vs.length := (List.getElem?_eq_some_iff.1 hj).1
        rw [add_mk0, Nat.zero_add]
        exact (h.holds j hjl).trans hj))
/-- an append in a walk, by its run -/
theorem wpList_append_run {P : Program} {t tx ty : TypeId} {sv xv v' : Value} {w w' : World} (hr : (Builtin.append_ #[t, tx] ty #[sv, xv]).run P w = .ok v' w') {ops : Array Oper} {rest : List Oper} {o : Oper} {a : Act} {Q : Exit → Act → World → Prop} {s x : Operand}
    (hg : o.guard = none) (hop : o.op = Op.call { callee := Callee.builtin Builtin.append, args := #[s, x], argTypes := #[t, tx] }) (hty : o.type = ty) (hs : a.eval s = sv) (hx : a.eval x = xv) (hK : wpList P ops Q rest (a.put o.dst v') w') :
    wpList P ops Q (o :: rest) a w := by
  refine wpList_plain hg fun K hK' => ?_
  subst hty
  unfold Oper.wp
  simp [execOp, hop, resolve, invoke, builtin, hs, hx, hr, Result.andThen]
  exact hK' _ _ hK
end UK
end Go.Proofs.YtamnhpijeiigcaaDoor
