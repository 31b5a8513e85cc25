/-
  The pool's small functions.
-/
import Derived.Test.YthlomlkalbpdgaaDoorPoolQ
import Derived.Test.YthlomlkalbpdgaaDoorDiskX
namespace Go.Proofs.YthlomlkalbpdgaaDoor
open Go.RowKit
open UK (str BytesAt nth Only Row Box IntMap)
open Go.BigFrame
namespace UK
/-- 'len(m)' in a walk, by its run -/
theorem wpList_len_run {P : Program} {t ty : TypeId} {mv v' : Value} {w w' : World} (hr : (Builtin.len_ #[t] ty #[mv]).run P w = .ok v' w') {ops : Array Oper} {rest : List Oper} {o : Oper} {a : Act} {Q : Exit → Act → World → Prop} {m : Operand}
    (hg : o.guard = none) (hop : o.op = Op.call { callee := Callee.builtin Builtin.len, args := #[m], argTypes := #[t] }) (hty : o.type = ty) (hm : a.eval m = mv) (hK : wpList P ops Q rest (a.put o.dst v') w') :
    wpList P ops Q (o :: rest) a w := by
  refine wpList_plain hg fun K hK' => ?_
  subst hty
  unfold Oper.wp
  simp [execOp, hop, resolve, invoke, builtin, hm, hr, Result.andThen]
  exact hK' _ _ hK
/-- 'delete(m, k)' in a walk, by its run -/
theorem wpList_delete_run {P : Program} {t k ty : TypeId} {mv kv v' : Value} {w w' : World} (hr : (Builtin.delete_ #[t, k] ty #[mv, kv]).run P w = .ok v' w') {ops : Array Oper} {rest : List Oper} {o : Oper} {a : Act} {Q : Exit → Act → World → Prop} {m x : Operand}
    (hg : o.guard = none) (hop : o.op = Op.call { callee := Callee.builtin Builtin.delete, args := #[m, x], argTypes := #[t, k] }) (hty : o.type = ty) (hm : a.eval m = mv) (hx : a.eval x = kv) (hK : wpList P ops Q rest (a.put o.dst v') w') :
    wpList P ops Q (o :: rest) a w := by
  refine wpList_plain hg fun K hK' => ?_
  subst hty
  unfold Oper.wp
  simp [execOp, hop, resolve, invoke, builtin, hm, hx, hr, Result.andThen]
  exact hK' _ _ hK
end UK
section
variable {E : Nat → Prop} {W W' : World} {P D FB M cnt : Nat} {q : Pl} {d d' : Dk}
theorem pinned_any (h : PoolAt W P D FB M q) :
    Calls Tryd.prog 12 #[.pointer (some ⟨P, 0, none⟩)] W fun e w' => e = .returned (.int .i64 q.pins) ∧ w' = W := by
  have c4 := h.box.cell 4 _ rfl
  go_enter Tryd.func12, Tryd.ntmps12
  go_wp2
  go_ret
  exact ⟨rfl, rfl⟩
theorem resident_any (h : PoolAt W P D FB M q) :
    Calls Tryd.prog 13 #[.pointer (some ⟨P, 0, none⟩)] W fun e w' => e = .returned (.int .i64 (cntF q.frames)) ∧ w' = W := by
  have c2 := h.box.cell 2 _ rfl
  obtain ⟨f, _, hm⟩ := h.map
  have hl := hm.len Tryd.underlying50 3
  clear hm
  go_enter Tryd.func13, Tryd.ntmps13
  go_wp2_with (at_len; refine UK.wpList_len_run hl rfl rfl rfl rfl ?_)
  go_ret
  exact ⟨rfl, rfl⟩
theorem page_any {f : Fr} (h : FrAt W P f) :
    Calls Tryd.prog 23 #[.pointer (some ⟨f.blk, 0, none⟩)] W fun e w' => e = .returned (.int .i64 f.page) ∧ w' = W := by
  have c1 := h.box.cell 1 _ rfl
  go_enter Tryd.func23, Tryd.ntmps23
  go_wp2
  go_ret
  exact ⟨rfl, rfl⟩
/-- nil holds nothing -/
theorem index_nil (v : Int) (w : World) :
    Calls Tryd.prog 60 #[.slice none 0 0, .int .i64 v] w fun e w' => e = .returned (.int .i64 (-1)) ∧ w' = w := by
  go_enter Tryd.func60, Tryd.ntmps60
  go_wp2_with fail
  go_loopw [8] (fun ix wr => ix = .int .i64 0 ∧ wr = w) (fun _ _ => 0)
  case atStart => exact ⟨rfl, rfl⟩
  case round =>
    obtain ⟨rfl, rfl⟩ := hrel
    go_wp2
    go_ret
    exact ⟨rfl, rfl⟩
theorem contains_nil (v : Int) (w : World) :
    Calls Tryd.prog 45 #[.slice none 0 0, .int .i64 v] w fun e w' => e = .returned (.bool false) ∧ w' = w := by
  have hi := fun w => index_nil v w
  go_enter Tryd.func45, Tryd.ntmps45
  go_wp2_with fail
  refine (hi _).mono ?_
  rintro e w' ⟨rfl, rfl⟩
  go_wp2
  go_ret
  exact ⟨rfl, rfl⟩
/-- the pool's own numbers turn -/
theorem PD.own (h : PD E W P D FB M q d cnt) {hand : Nat} {pins : Int} (ho : Only P W W') (hb : Box W' P (pcells D FB q.frames.length M hand pins)) : PD E W' P D FB M { frames := q.frames, hand := hand, pins := pins } d cnt ∧ Kept E W W' := by
  have hp := h.pool
  obtain ⟨f, hf, hm⟩ := hp.map
  refine h.moves (q' := { frames := q.frames, hand := hand, pins := pins }) (Moves.of_only ho (.inl rfl)) ⟨hb, hp.frs.only ho hp.PF.symm, ⟨f, hf, hm.only ho hp.PM.symm⟩, fun i g hi => ?_, hp.PF, hp.PM, hp.FM, hp.off, hp.two, hp.tab⟩
  have h1 := hp.off i (some g) g.blk hi (.inl rfl)
  have h2 := hp.off i (some g) g.db hi (.inr rfl)
  exact (hp.each i g hi).of_block (ho.block _ (hp.ltF hi (.inl rfl)) h1.1) (ho.block _ (hp.ltF hi (.inr rfl)) h2.1)
/-- where the hand stands -/
def handN (n : Int) (k : Nat) : Nat := (n % (k : Int)).toNat
theorem handN_is (n : Int) (k : Nat) (hk : 0 < k) : n.tmod k % (k : Int) = (handN n k : Int) ∧ handN n k < k ∧ -(k : Int) < n.tmod k ∧ n.tmod k < k := by
  have h1 := Int.emod_nonneg n (show (k : Int) ≠ 0 by omega)
  have h2 := Int.emod_lt_of_pos n (show (0 : Int) < k by omega)
  have h3 : n.tmod k = if 0 ≤ n ∨ n % k = 0 then n % k else n % k - k := by
    rw [Int.tmod_eq_emod]
    by_cases hh : 0 ≤ n ∨ (k : Int) ∣ n
    · rw [if_pos hh, if_pos (by rcases hh with a | a; exact .inl a; exact .inr (Int.emod_eq_zero_of_dvd a))]; omega
    · rw [if_neg hh, if_neg (by rintro (a | a); exact hh (.inl a); exact hh (.inr (Int.dvd_of_emod_eq_zero a)))]; omega
  refine ⟨?_, by unfold handN; omega, ?_, ?_⟩
  · have h4 : n.tmod k % (k : Int) = n % k := by
      rw [h3]
      split
      · exact Int.emod_emod_of_dvd n (Int.dvd_refl _)
      · rw [Int.sub_emod_right]; exact Int.emod_emod_of_dvd n (Int.dvd_refl _)
    rw [h4]; unfold handN; omega
  · rw [h3]; split <;> omega
  · rw [h3]; split <;> omega
theorem hand_any (h : PD E W P D FB M q d cnt) (o : PlOk q) (n : Int) :
    Calls Tryd.prog 26 #[.pointer (some ⟨P, 0, none⟩), .int .i64 n] W fun e w' => e = .returned (.tuple #[]) ∧ PD E w' P D FB M { q with hand := handN n q.frames.length } d cnt ∧ Kept E W w' := by
  have hb := h.pool.box
  have c1 := hb.cell 1 _ rfl
  have c3 := hb.cell 3 _ rfl
  have f3 := hb.free 3
  have hb2 := hb.set 3 (.int .i64 (handN n q.frames.length : Nat))
  have hpd := h.own ((Only.refl P W).set 3 (.int .i64 (handN n q.frames.length : Nat))) (hand := handN n q.frames.length) (pins := q.pins) hb2
  have hk := o.few
  have hh := o.hand
  obtain ⟨h1, h2, h3, h4⟩ := handN_is n q.frames.length (by omega)
  have hk0 : 1 ≤ q.frames.length := by omega
  generalize q.frames.length = k at *
  have H1 := Lib.hid h1
  clear h1
  generalize handN n k = hn at *
  have h5 : 0 ≤ n.tmod k + k := by omega
  clear hb hb2
  go_enter Tryd.func26, Tryd.ntmps26
  go_wp2
  rw [H1.out]
  go_end0
  exact ⟨rfl, hpd.1, hpd.2⟩
end
end Go.Proofs.YthlomlkalbpdgaaDoor
