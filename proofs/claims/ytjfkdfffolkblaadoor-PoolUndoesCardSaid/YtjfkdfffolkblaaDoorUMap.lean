/-
  A block that is a map from ints to ints, or to strings: what it reads as, entry by entry.
-/
import Derived.Test.YtjfkdfffolkblaaDoorUMem
import Derived.Maps.OwnSet
import Derived.Maps.StringElems
namespace Go.Proofs.YtjfkdfffolkblaaDoor
open Go.RowKit Go.ChangeMaps
namespace UK
/-- block M is a map from ints to ints that reads as f, with c entries -/
def IntMap (P : Program) (K E : TypeId) (W : World) (M n : Nat) (f : Int → Option Int) (c : Nat) : Prop :=
  ∃ D : DataW Unit, W.ownsMap P K (plainElem P E) M n D ∧ (∀ k, Maps.has D (.int .i64 k) = (f k).isSome) ∧ (∀ k v, f k = some v → D.atKey (.int .i64 k) (.lit (.int .i64 0)) = .lit (.int .i64 v)) ∧ Maps.size D = c
namespace IntMap
variable {P : Program} {K E t : TypeId} {W W' : World} {M n c : Nat} {f : Int → Option Int}
theorem new (W : World) : IntMap P K E (W.alloc (.map #[] 0)) W.heap.size 0 (fun _ => none) 0 :=
  ⟨.map [], World.ownsMap_made _ _ _ _, fun _ => rfl, (fun _ _ h => by cases h), rfl⟩
theorem lt (h : IntMap P K E W M n f c) : M < W.heap.size := by
  obtain ⟨D, h, _⟩ := h
  exact h.lt
theorem of_block (h : IntMap P K E W M n f c) (hb : W'.heap[M]? = W.heap[M]?) : IntMap P K E W' M n f c := by
  obtain ⟨D, ⟨es, cl, h1, h2, h3, h4⟩, r⟩ := h
  exact ⟨D, ⟨es, cl, hb.trans h1, h2, h3, h4⟩, r⟩
theorem below {m : Nat} (h : IntMap P K E W M n f c) (hb : Below m W W') (hm : M < m) : IntMap P K E W' M n f c := h.of_block (hb.block M hm)
theorem only {B : Nat} (h : IntMap P K E W M n f c) (ho : Only B W W') (hm : M ≠ B) : IntMap P K E W' M n f c := h.of_block (ho.block M h.lt hm)
theorem get (h : IntMap P K E W M n f c) (hK : P.underlying K = some (.int .i64)) (hE : P.underlying E = some (.int .i64)) (ht : P.underlying t = some (.map K E)) (hz : ∀ w, (zeroValue E).run P w = .ok (.int .i64 0) w) (k : Int) (hk : (Lit.int .i64 k).wf = true) :
    (Instr.lookup t (.map (some M)) (.int .i64 k) true).run P W = .ok (.tuple #[.int .i64 ((f k).getD 0), .bool (f k).isSome]) W := by
  obtain ⟨D, h, hh, ha, _⟩ := h
  obtain ⟨v, ps, hrun, hv⟩ := h.look_ok (Maps.int_keyed hK) ht (hz W) (plainElem_int hE (by decide)) (Maps.keyOf_int_mk hK hk)
  obtain ⟨a, rfl, hc, _⟩ := plainElem_int_inv hE hv
  simp only [Prod.mk.injEq] at hc
  rw [hrun, hh k]
  cases hf : f k with
  | none =>
    have h1 : Maps.has D (.int .i64 k) = false := by rw [hh k, hf]; rfl
    rw [Maps.atKey_of_not_has h1] at hc
    have := hc.1
    simp only [DataW.lit.injEq, Lit.int.injEq, true_and] at this
    rw [← this]; rfl
  | some b =>
    rw [ha k b hf] at hc
    have := hc.1
    simp only [DataW.lit.injEq, Lit.int.injEq, true_and] at this
    rw [← this]; rfl
theorem len (h : IntMap P K E W M n f c) (ht : P.underlying t = some (.map K E)) (ty : TypeId) : (Builtin.len_ #[t] ty #[.map (some M)]).run P W = .ok (.int .i64 c) W := by
  obtain ⟨D, h, _, _, hs⟩ := h
  rw [h.len ht ty, hs]
theorem only_of_turned (h : W.mapTurned W' M) : Only M W W' := by
  have g := h
  obtain ⟨es, cl, es', cl', hb, rfl⟩ := h
  exact ⟨rfl, rfl, rfl, Nat.le_of_eq (by simp [setBlock]), fun i _ hi => heap_setBlock_other hb _ hi⟩
theorem put (h : IntMap P K E W M n f c) (hK : P.underlying K = some (.int .i64)) (hE : P.underlying E = some (.int .i64)) (ht : P.underlying t = some (.map K E)) (hn : n < maxLen) (k v : Int) (hk : (Lit.int .i64 k).wf = true) (hv : (Lit.int .i64 v).wf = true) :
    ∃ W', (Instr.mapUpdate t (.map (some M)) (.int .i64 k) (.int .i64 v)).run P W = .ok () W' ∧ IntMap P K E W' M (n + 1) (fun j => if j = k then some v else f j) (if (f k).isSome then c else c + 1) ∧ Only M W W' := by
  obtain ⟨D, h, hh, ha, hs⟩ := h
  obtain ⟨W', hrun, h', ht'⟩ := h.store (Maps.int_keyed hK) ht hn (Maps.keyOf_int_mk hK hk) (plainElem_int hE hv)
  have hkl : WideAt.IsKeyLit (.int .i64 k) := trivial
  refine ⟨W', hrun, ⟨_, h', fun j => ?_, fun j b hj => ?_, ?_⟩, only_of_turned ht'⟩
  · by_cases e : j = k
    · subst e; rw [Maps.has_put_same h.isMap hkl]; simp
    · rw [Maps.has_put_other (by simpa using e), hh j]
      show _ = (if j = k then some v else f j).isSome
      rw [if_neg e]
  · replace hj : (if j = k then some v else f j) = some b := hj
    by_cases e : j = k
    · subst e
      rw [if_pos rfl] at hj
      rw [Maps.atKey_put_same h.isMap hkl, ← Option.some.inj hj]
    · rw [if_neg e] at hj
      rw [Maps.atKey_put_other (by simpa using e), ha j b hj]
  · rw [Maps.size_put (h.tidy (Maps.int_keyed hK)), hh k, hs]
theorem del (h : IntMap P K E W M n f c) (hK : P.underlying K = some (.int .i64)) (ht : P.underlying t = some (.map K E)) (k : Int) (hk : (Lit.int .i64 k).wf = true) (ty : TypeId) :
    ∃ W', (Builtin.delete_ #[t, K] ty #[.map (some M), .int .i64 k]).run P W = .ok (.tuple #[]) W' ∧ IntMap P K E W' M n (fun j => if j = k then none else f j) (if (f k).isSome then c - 1 else c) ∧ Only M W W' := by
  obtain ⟨D, h, hh, ha, hs⟩ := h
  obtain ⟨W', hrun, h', ht'⟩ := h.drop (Maps.int_keyed hK) ht (Maps.keyOf_int_mk hK hk) ty
  refine ⟨W', hrun, ⟨_, h', fun j => ?_, fun j b hj => ?_, ?_⟩, only_of_turned ht'⟩
  · by_cases e : j = k
    · subst e; rw [Maps.has_del_same]; simp
    · rw [Maps.has_del_other (by simpa using e), hh j]
      show _ = (if j = k then none else f j).isSome
      rw [if_neg e]
  · replace hj : (if j = k then none else f j) = some b := hj
    by_cases e : j = k
    · rw [if_pos e] at hj; cases hj
    · rw [if_neg e] at hj
      rw [Maps.atKey_del_other (by simpa using e), ha j b hj]
  · have := Maps.size_del (h.tidy (Maps.int_keyed hK)) (k := .int .i64 k)
    rw [hh k, hs] at this
    by_cases e : (f k).isSome = true
    · rw [if_pos e] at this ⊢; omega
    · rw [if_neg e] at this ⊢; omega
theorem tight (h : IntMap P K E W M n f c) : IntMap P K E W M c f c := by
  obtain ⟨D, ⟨es, cl, h1, h2, h3, h4⟩, a, b, hs⟩ := h
  refine ⟨D, ⟨es, cl, h1, h2, ?_, h4⟩, a, b, hs⟩
  rw [← hs, h4]
  simp [Maps.size, length_sorted]
end IntMap
/-- block M is a map from ints to strings that reads as f, with c entries -/
def StrMap (P : Program) (K E : TypeId) (W : World) (M n : Nat) (f : Int → Option (List UInt8)) (c : Nat) : Prop :=
  ∃ D : DataW Unit, W.ownsMap P K (plainElem P E) M n D ∧ (∀ k, Maps.has D (.int .i64 k) = (f k).isSome) ∧ (∀ k v, f k = some v → D.atKey (.int .i64 k) (.lit (.string [])) = .lit (.string v)) ∧ Maps.size D = c
namespace StrMap
variable {P : Program} {K E t : TypeId} {W W' : World} {M n c : Nat} {f : Int → Option (List UInt8)}
theorem new (W : World) : StrMap P K E (W.alloc (.map #[] 0)) W.heap.size 0 (fun _ => none) 0 :=
  ⟨.map [], World.ownsMap_made _ _ _ _, fun _ => rfl, (fun _ _ h => by cases h), rfl⟩
theorem lt (h : StrMap P K E W M n f c) : M < W.heap.size := by
  obtain ⟨D, h, _⟩ := h
  exact h.lt
theorem of_block (h : StrMap P K E W M n f c) (hb : W'.heap[M]? = W.heap[M]?) : StrMap P K E W' M n f c := by
  obtain ⟨D, ⟨es, cl, h1, h2, h3, h4⟩, r⟩ := h
  exact ⟨D, ⟨es, cl, hb.trans h1, h2, h3, h4⟩, r⟩
theorem get (h : StrMap P K E W M n f c) (hK : P.underlying K = some (.int .i64)) (hE : P.underlying E = some .string) (ht : P.underlying t = some (.map K E)) (hz : ∀ w, (zeroValue E).run P w = .ok (.string (str [])) w) (k : Int) (hk : (Lit.int .i64 k).wf = true) :
    (Instr.lookup t (.map (some M)) (.int .i64 k) true).run P W = .ok (.tuple #[.string (str ((f k).getD [])), .bool (f k).isSome]) W := by
  obtain ⟨D, h, hh, ha, _⟩ := h
  obtain ⟨v, ps, hrun, hv⟩ := h.look_ok (Maps.int_keyed hK) ht (hz W) (plainElem_string hE (by simp [str_size])) (Maps.keyOf_int_mk hK hk)
  obtain ⟨s, rfl, hc, _⟩ := plainElem_string_inv hE hv
  simp only [Prod.mk.injEq] at hc
  rw [hrun, hh k, str_self s]
  have hc1 := hc.1
  cases hf : f k with
  | none =>
    have h1 : Maps.has D (.int .i64 k) = false := by rw [hh k, hf]; rfl
    rw [Maps.atKey_of_not_has h1] at hc1
    simp only [DataW.lit.injEq, Lit.string.injEq] at hc1
    rw [← hc1]; rfl
  | some b =>
    rw [str_data] at hc1
    rw [ha k b hf] at hc1
    simp only [DataW.lit.injEq, Lit.string.injEq] at hc1
    rw [← hc1]; rfl
theorem put (h : StrMap P K E W M n f c) (hK : P.underlying K = some (.int .i64)) (hE : P.underlying E = some .string) (ht : P.underlying t = some (.map K E)) (hn : n < maxLen) (k : Int) (v : List UInt8) (hk : (Lit.int .i64 k).wf = true) (hv : v.length ≤ maxLen) :
    ∃ W', (Instr.mapUpdate t (.map (some M)) (.int .i64 k) (.string (str v))).run P W = .ok () W' ∧ StrMap P K E W' M (n + 1) (fun j => if j = k then some v else f j) (if (f k).isSome then c else c + 1) ∧ Only M W W' := by
  obtain ⟨D, h, hh, ha, hs⟩ := h
  obtain ⟨W', hrun, h', ht'⟩ := h.store (Maps.int_keyed hK) ht hn (Maps.keyOf_int_mk hK hk) (plainElem_string hE (s := str v) (by rw [str_size]; exact hv))
  rw [str_data] at h'
  have hkl : WideAt.IsKeyLit (.int .i64 k) := trivial
  refine ⟨W', hrun, ⟨_, h', fun j => ?_, fun j b hj => ?_, ?_⟩, IntMap.only_of_turned ht'⟩
  · by_cases e : j = k
    · subst e; rw [Maps.has_put_same h.isMap hkl]; simp
    · rw [Maps.has_put_other (by simpa using e), hh j]
      show _ = (if j = k then some v else f j).isSome
      rw [if_neg e]
  · replace hj : (if j = k then some v else f j) = some b := hj
    by_cases e : j = k
    · subst e
      rw [if_pos rfl] at hj
      rw [Maps.atKey_put_same h.isMap hkl, ← Option.some.inj hj]
    · rw [if_neg e] at hj
      rw [Maps.atKey_put_other (by simpa using e), ha j b hj]
  · rw [Maps.size_put (h.tidy (Maps.int_keyed hK)), hh k, hs]
theorem tight (h : StrMap P K E W M n f c) : StrMap P K E W M c f c := by
  obtain ⟨D, ⟨es, cl, h1, h2, h3, h4⟩, a, b, hs⟩ := h
  refine ⟨D, ⟨es, cl, h1, h2, ?_, h4⟩, a, b, hs⟩
  rw [← hs, h4]
  simp [Maps.size, length_sorted]
end StrMap
end UK
end Go.Proofs.YtjfkdfffolkblaaDoor
