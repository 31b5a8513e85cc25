/-
  A slice of texts in the world, in a block of its own.
-/
import Derived.Test.YtdbnlcmnnoajoaaUOnly
import Derived.Test.YtdbnlcmnnoajoaaUCopy
import Derived.Deep.AppendSrc
import Derived.OwnWalk
namespace Go.Proofs.Ytdbnlcmnnoajoaa
open Go.RowKit
namespace UK
def tcells (l : List (List UInt8)) : List Value := l.map fun s => Value.string (str s)
theorem tcells_length (l : List (List UInt8)) : (tcells l).length = l.length := by simp [tcells]
theorem tcells_get (l : List (List UInt8)) (i : Nat) (h : i < l.length) : (tcells l)[i]? = some (.string (str (l.getD i []))) := by
  simp [tcells, List.getElem?_map, List.getElem?_eq_getElem h, List.getD_eq_getElem?_getD]
/-- The slice value v holds the texts l, in block g behind the first N blocks, with room for c. -/
structure Texts (W : World) (N g c : Nat) (l : List (List UInt8)) : Prop where
  low : N ≤ g
  lt : g < W.heap.size
  le : l.length ≤ c
  holds : ∀ j, j < l.length → W.cell? ⟨g, j, none⟩ = some (.string (str (l.getD j [])))
  there : ∀ j, j < c → (W.cell? ⟨g, j, none⟩).isSome = true ∧ W.frozen? ⟨g, j, none⟩ = false
theorem add_mk (b off n : Nat) : (⟨b, off, none⟩ : Addr).add n = ⟨b, off + n, none⟩ := by
  unfold Addr.add; split <;> simp_all
namespace Texts
variable {W W' : World} {N g c : Nat} {l : List (List UInt8)}
theorem of_block (h : Texts W N g c l) (hs : W.heap.size ≤ W'.heap.size) (hb : W'.heap[g]? = W.heap[g]?) : Texts W' N g c l :=
  ⟨h.low, Nat.lt_of_lt_of_le h.lt hs, h.le, fun j hj => (World.cell?_of_block (a := ⟨g, j, none⟩) hb).trans (h.holds j hj),
    fun j hj => ⟨by rw [World.cell?_of_block (a := ⟨g, j, none⟩) hb]; exact (h.there j hj).1, (World.frozen?_of_block (a := ⟨g, j, none⟩) hb).trans (h.there j hj).2⟩⟩
theorem drewN (h : Texts W N g c l) (n : Nat) : Texts (W.drewN n) N g c l := h.of_block (Nat.le_refl _) rfl
theorem drew (h : Texts W N g c l) : Texts W.drew N g c l := h.of_block (Nat.le_refl _) rfl
theorem below {n : Nat} (h : Texts W N g c l) (hb : Below n W W') (hn : g < n) : Texts W' N g c l := h.of_block hb.size (hb.block g hn)
theorem alloc (h : Texts W N g c l) (o : Obj) : Texts (W.alloc o) N g c l := h.of_block (by simp) (Below.heap_alloc W o g h.lt)
theorem lower (h : Texts W N g c l) {M : Nat} (hm : M ≤ N) : Texts W M g c l := ⟨Nat.le_trans hm h.low, h.lt, h.le, h.holds, h.there⟩
theorem take (h : Texts W N g c l) (n : Nat) : Texts W N g c (l.take n) := by
  refine ⟨h.low, h.lt, by rw [List.length_take]; have := h.le; omega, fun j hj => ?_, h.there⟩
  rw [List.length_take] at hj
  rw [h.holds j (by omega)]
  simp only [List.getD_eq_getElem?_getD]
  rw [List.getElem?_take_of_lt (by omega)]
theorem setCells (h : Texts W N g c l) (o : Nat) (m : List (List UInt8)) (hm : o + m.length ≤ c) (k : List (List UInt8)) (hk : k.length ≤ c)
    (hin : ∀ j, j < m.length → k.getD (o + j) [] = m.getD j []) (hout : ∀ j, j < k.length → j < o ∨ o + m.length ≤ j → j < l.length ∧ k.getD j [] = l.getD j []) :
    Texts (W.setCells g o (tcells m)) N g c k := by
  have hs : ∀ j, j < (tcells m).length → (W.cell? ⟨g, o + j, none⟩).isSome = true := fun j hj => (h.there _ (by rw [tcells_length] at hj; omega)).1
  have ci := World.cell?_setCells_in g (tcells m) o W hs
  have co : ∀ j, j < o ∨ o + m.length ≤ j → (W.setCells g o (tcells m)).cell? ⟨g, j, none⟩ = W.cell? ⟨g, j, none⟩ := fun j hj => World.cell?_setCells_out g (tcells m) o W ⟨g, j, none⟩ (fun _ _ => by rw [tcells_length]; exact hj)
  refine ⟨h.low, Nat.lt_of_lt_of_le h.lt (Only.setCells (tcells m) o (Only.refl g W)).size, hk, fun j hj => ?_, fun j hj => ⟨?_, by rw [World.frozen?_setCells]; exact (h.there j hj).2⟩⟩
  · by_cases hc : j < o ∨ o + m.length ≤ j
    · rw [co j hc, h.holds j (hout j hj hc).1, (hout j hj hc).2]
    · have := ci (j - o) (by rw [tcells_length]; omega)
      rw [show o + (j - o) = j by omega] at this
      rw [this, ← List.getElem?_eq_getElem, tcells_get m (j - o) (by omega), ← hin (j - o) (by omega), show o + (j - o) = j by omega]
  · by_cases hc : j < o ∨ o + m.length ≤ j
    · rw [co j hc]; exact (h.there j hj).1
    · have := ci (j - o) (by rw [tcells_length]; omega)
      rw [show o + (j - o) = j by omega] at this
      rw [this]; rfl
theorem set (h : Texts W N g c l) (i : Nat) (s : List UInt8) (hi : i < l.length) : Texts (W.setCell ⟨g, i, none⟩ (.string (str s))) N g c (l.set i s) := by
  have hle := h.le
  refine h.setCells i [s] (by simp; omega) (l.set i s) (by simpa using hle) (fun j hj => ?_) (fun j hj hc => ?_)
  · obtain rfl : j = 0 := by simpa using hj
    simp [List.getD_eq_getElem?_getD, hi]
  · simp only [List.length_set] at hj
    simp only [List.length_singleton] at hc
    refine ⟨hj, ?_⟩
    simp only [List.getD_eq_getElem?_getD]
    rw [List.getElem?_set_ne (by omega)]
end Texts
theorem only_alloc {g : Nat} {a w : World} (h : Only g a w) (o : Obj) : Only g a (w.alloc o) := h.alloc o
/-- texts appended, whether there is room or not -/
theorem push {P : Program} {t tx ty e : TypeId} {i : TypeInfo} {z : Value} (ht : P.underlying t = some (.slice e)) (hi : P.info? e = some i) (hz : i.zero = some z) (h1 : i.size = 1) (h16 : i.bytes = 16) (hzs : z.cells.size = 1)
    {W : World} {N g c : Nat} {l : List (List UInt8)} (h : Texts W N g c l) (hN : N ≤ W.heap.size) {x : Value} {m : List (List UInt8)} (hs : Src P 1 tx x m.length (tcells m) W) (hlen : l.length + m.length ≤ 100000) :
    ∃ g' c' W', (Builtin.append_ #[t, tx] ty #[.slice (some ⟨g, 0, none⟩) l.length c, x]).run P W = .ok (.slice (some ⟨g', 0, none⟩) (l ++ m).length c') W' ∧ Texts W' N g' c' (l ++ m) ∧ Only g W W' ∧ (g' = g ∨ g' = W.heap.size) := by
  have hle := h.le
  have gd1 : ∀ j, j < l.length → (l ++ m).getD j [] = l.getD j [] := fun j hj => by simp only [List.getD_eq_getElem?_getD]; rw [List.getElem?_append_left hj]
  have gd2 : ∀ j, (l ++ m).getD (l.length + j) [] = m.getD j [] := fun j => by simp only [List.getD_eq_getElem?_getD]; rw [List.getElem?_append_right (by omega), Nat.add_sub_cancel_left]
  rw [List.length_append]
  by_cases hf : l.length + m.length ≤ c
  · have hr := run_append_room_src (P := P) W t tx ty e i ht hi g 0 l.length c x m.length (tcells m) (by rw [h1]; exact hs) hf
      (fun j hj => by rw [tcells_length] at hj; rw [h1]; exact (h.there _ (by omega)).1) (fun j hj => by rw [tcells_length] at hj; rw [h1]; exact (h.there _ (by omega)).2)
    rw [h1, Nat.zero_add, Nat.mul_one] at hr
    refine ⟨g, c, _, hr, h.setCells l.length m hf (l ++ m) (by rw [List.length_append]; exact hf) (fun j _ => gd2 j) (fun j hj hc => ?_), Only.setCells _ _ (Only.refl _ _), .inl rfl⟩
    rw [List.length_append] at hj
    exact ⟨by omega, gd1 j (by omega)⟩
  · have hold : (Builtin.firstCells i.size l.length (.slice (some ⟨g, 0, none⟩) l.length c)).run P W.drew = .ok (tcells l).toArray W.drew :=
      run_firstCells_some W.drew i.size l.length ⟨g, 0, none⟩ l.length c (tcells l) (by rw [tcells_length, h1, Nat.mul_one]) (fun j v hj => by
        have hjl : j < l.length := by
          by_cases hc : j < l.length
          · exact hc
          · rw [List.getElem?_eq_none (by rw [tcells_length]; omega)] at hj; cases hj
        rw [tcells_get l j hjl] at hj
        rw [add_mk, Nat.zero_add]
        exact (h.holds j hjl).trans hj)
    have hg : c < l.length + m.length := by omega
    have hrun := run_append_grow_src (P := P) W t tx ty e i z ht hi hz (some ⟨g, 0, none⟩) l.length c (tcells l) hold x m.length (tcells m) (by rw [h1]; exact hs) hg (by omega) (growslice_fits hg (by rw [h16]; omega))
    have hge := grownCap_ge W (l.length + m.length) c e
    refine ⟨W.heap.size, _, _, hrun, ⟨hN, by simp, by rw [List.length_append]; exact hge, fun j hj => ?_, fun j hj => ⟨?_, World.frozen?_alloc_new W.drew _ _ j⟩⟩, ((Only.refl g W).drew.alloc _), .inr rfl⟩
    · have e1 := World.cell?_alloc_new W.drew ((tcells l ++ tcells m).toArray ++ Builtin.zeroCells z.cells (grownCap W (l.length + m.length) c e - (l.length + m.length))) e j
      refine Eq.trans e1 ?_
      rw [Array.getElem?_append_left (by simp only [List.size_toArray, List.length_append, tcells_length]; rwa [List.length_append] at hj), List.getElem?_toArray]
      have : tcells l ++ tcells m = tcells (l ++ m) := by simp [tcells]
      rw [this, tcells_get (l ++ m) j hj]
    · have e1 := World.cell?_alloc_new W.drew ((tcells l ++ tcells m).toArray ++ Builtin.zeroCells z.cells (grownCap W (l.length + m.length) c e - (l.length + m.length))) e j
      have hsz : ((tcells l ++ tcells m).toArray ++ Builtin.zeroCells z.cells (grownCap W (l.length + m.length) c e - (l.length + m.length))).size = grownCap W (l.length + m.length) c e := by
        rw [Array.size_append, List.size_toArray, List.length_append, tcells_length, tcells_length, size_zeroCells, hzs, Nat.mul_one]
        omega
      have e2 : (W.drew.alloc (.cells ((tcells l ++ tcells m).toArray ++ Builtin.zeroCells z.cells (grownCap W (l.length + m.length) c e - (l.length + m.length))) e)).cell? ⟨W.heap.size, j, none⟩ = _ := e1
      rw [e2, Array.getElem?_eq_getElem (by rw [hsz]; exact hj)]
      rfl
/-- an append in a walk, by its run -/
theorem wpList_append_run {P : Program} {t tx ty : TypeId} {sv xv v' : Value} {w w' : World} (hr : (Builtin.append_ #[t, tx] ty #[sv, xv]).run P w = .ok v' w') {ops : Array Oper} {rest : List Oper} {o : Oper} {a : Act} {Q : Exit → Act → World → Prop} {s x : Operand}
    (hg : o.guard = none) (hop : o.op = Op.call { callee := Callee.builtin Builtin.append, args := #[s, x], argTypes := #[t, tx] }) (hty : o.type = ty) (hs : a.eval s = sv) (hx : a.eval x = xv) (hK : wpList P ops Q rest (a.put o.dst v') w') :
    wpList P ops Q (o :: rest) a w := by
  refine wpList_plain hg fun K hK' => ?_
  subst hty
  unfold Oper.wp
  simp [execOp, hop, resolve, invoke, builtin, hs, hx, hr, Result.andThen]
  exact hK' _ _ hK
end UK
end Go.Proofs.Ytdbnlcmnnoajoaa
