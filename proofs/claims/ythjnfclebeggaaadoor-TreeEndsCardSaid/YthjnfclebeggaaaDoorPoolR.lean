/-
  The pool's small functions.
-/
import Derived.Test.YthjnfclebeggaaaDoorPoolQ
import Derived.Test.YthjnfclebeggaaaDoorDiskX
namespace Go.Proofs.YthjnfclebeggaaaDoor
open Go.RowKit
open UK (str BytesAt nth Only Row Box IntMap)
open Go.BigFrame
namespace UK
/-- 'len(m)' in a walk, by its run -/
theorem wpList_len_run {P : Program} {t ty : TypeId} {mv v' : Value} {w w' : World} (hr : (Builtin.len_ #[t] ty #[mv]).run P w = .ok v' w') {ops : Array Oper} {rest : List Oper} {o : Oper} {a : Act} {Q : Exit → Act → World → Prop} {m : Operand}
    (hg : o.guard = none) (hop : o.op = Op.call { callee := Callee.builtin Builtin.len, args := #[m], argTypes := #[t] }) (hty : o.type = ty) (hm : a.eval m = mv) (hK : wpList P ops Q rest (a.put o.dst v') w') :
    wpList P ops Q (o :: rest) a w := by
  refine wpList_plain hg fun K hK' => ?_
  subst hty
  unfold Oper.wp
  simp [execOp, hop, resolve, invoke, builtin, hm, hr, Result.andThen]
  exact hK' _ _ hK
/-- 'delete(m, k)' in a walk, by its run -/
theorem wpList_delete_run {P : Program} {t k ty : TypeId} {mv kv v' : Value} {w w' : World} (hr : (Builtin.delete_ #[t, k] ty #[mv, kv]).run P w = .ok v' w') {ops : Array Oper} {rest : List Oper} {o : Oper} {a : Act} {Q : Exit → Act → World → Prop} {m x : Operand}
    (hg : o.guard = none) (hop : o.op = Op.call { callee := Callee.builtin Builtin.delete, args := #[m, x], argTypes := #[t, k] }) (hty : o.type = ty) (hm : a.eval m = mv) (hx : a.eval x = kv) (hK : wpList P ops Q rest (a.put o.dst v') w') :
    wpList P ops Q (o :: rest) a w := by
  refine wpList_plain hg fun K hK' => ?_
  subst hty
  unfold Oper.wp
  simp [execOp, hop, resolve, invoke, builtin, hm, hx, hr, Result.andThen]
  exact hK' _ _ hK
end UK
section
variable {E : Nat → Prop} {W W' : World} {P D FB M cnt : Nat} {q : Pl} {d d' : Dk}
theorem pinned_any (h : PoolAt W P D FB M q) :
    Calls Tryd.prog 34 #[.pointer (some ⟨P, 0, none⟩)] W fun e w' => e = .returned (.int .i64 q.pins) ∧ w' = W := by
  have c4 := h.box.cell 4 _ rfl
  go_enter Tryd.func34, Tryd.ntmps34
  go_wp2
  go_ret
  exact ⟨rfl, rfl⟩
theorem resident_any (h : PoolAt W P D FB M q) :
    Calls Tryd.prog 35 #[.pointer (some ⟨P, 0, none⟩)] W fun e w' => e = .returned (.int .i64 (cntF q.frames)) ∧ w' = W := by
  have c2 := h.box.cell 2 _ rfl
  obtain ⟨f, _, hm⟩ := h.map
  have hl := hm.len Tryd.underlying69 3
  clear hm
  go_enter Tryd.func35, Tryd.ntmps35
  go_wp2_with (at_len; refine UK.wpList_len_run hl rfl rfl rfl rfl ?_)
  go_ret
  exact ⟨rfl, rfl⟩
theorem page_any {f : Fr} (h : FrAt W P f) :
    Calls Tryd.prog 32 #[.pointer (some ⟨f.blk, 0, none⟩)] W fun e w' => e = .returned (.int .i64 f.page) ∧ w' = W := by
  have c1 := h.box.cell 1 _ rfl
  go_enter Tryd.func32, Tryd.ntmps32
  go_wp2
  go_ret
  exact ⟨rfl, rfl⟩
set_option maxRecDepth 100000 in
/-- does a list hold a number? -/
theorem index_any {ao : Option Addr} {c : Nat} {l : List Int} (h : SlAt W ao c l) (hl : l.length ≤ 1000000000) (v : Int) :
    Calls Tryd.prog 130 #[.slice ao l.length c, .int .i64 v] W fun e w' => ∃ i : Int, e = .returned (.int .i64 i) ∧ (0 ≤ i ↔ v ∈ l) ∧ w' = W := by
  go_enter Tryd.func130, Tryd.ntmps130
  go_wp2_with fail
  go_loopw [8] (fun ix wr => ∃ j : Nat, ix = .int .i64 j ∧ j ≤ l.length ∧ (∀ (i : Nat) (x : Int), i < j → l[i]? = some x → x ≠ v) ∧ wr = W) (fun ix _ => 1000000001 - (intOf ix).toNat)
  case atStart => exact ⟨0, rfl, Nat.zero_le _, fun i x hi => absurd hi (Nat.not_lt_zero _), rfl⟩
  case round =>
    obtain ⟨j, rfl, hj, hno, rfl⟩ := hrel
    by_cases hlt : j < l.length
    · obtain ⟨x, hx⟩ : ∃ x, l[j]? = some x := ⟨_, List.getElem?_eq_getElem hlt⟩
      rcases h with ⟨_, rfl, _⟩ | ⟨g, rfl, r⟩
      · exact absurd hlt (Nat.not_lt_zero _)
      · have cx := r.at' j (.int .i64 x) (by unfold intVs; rw [List.getElem?_map, hx]; rfl)
        clear r
        by_cases e : v = x
        · subst e
          have HM := Lib.hid (List.mem_of_getElem? hx)
          clear hno hx
          go_wp2
          go_ret
          exact ⟨j, rfl, ⟨fun _ => HM.out, fun _ => by omega⟩, rfl⟩
        · have hb : (v == x) = false := beq_eq_false_iff_ne.2 e
          have HN := Lib.hid (fun (i : Nat) (y : Int) (hi : i < j + 1) (hy : l[i]? = some y) => (show y ≠ v by
            by_cases e2 : i = j
            · subst e2
              rw [hx] at hy
              rw [← Option.some.inj hy]; exact fun e3 => e e3.symm
            · exact hno i y (by omega) hy))
          clear hno hx e
          go_wp2
          go_roundw
          case rel => exact ⟨j + 1, by go_num, by omega, HN.out, trivial⟩
          case measure => simp [intOf]; omega
    · have HN := Lib.hid (fun (hm : v ∈ l) => (show False by
        obtain ⟨i, hi, he⟩ := List.getElem_of_mem hm
        exact hno i v (by omega) (by rw [List.getElem?_eq_getElem hi, he]) rfl))
      clear hno h
      go_wp2
      go_ret
      exact ⟨-1, rfl, ⟨fun h => absurd h (by decide), fun h => (HN.out h).elim⟩, rfl⟩
theorem contains_any {ao : Option Addr} {c : Nat} {l : List Int} (h : SlAt W ao c l) (hl : l.length ≤ 1000000000) (v : Int) :
    Calls Tryd.prog 81 #[.slice ao l.length c, .int .i64 v] W fun e w' => e = .returned (.bool (decide (v ∈ l))) ∧ w' = W := by
  have hi := index_any h hl v
  generalize hn : l.length = n at hi ⊢
  clear hn
  go_enter Tryd.func81, Tryd.ntmps81
  go_wp2_with fail
  refine hi.mono ?_
  rintro e w' ⟨i, rfl, hm, rfl⟩
  have e : decide (0 ≤ i) = decide (v ∈ l) := decide_eq_decide.2 hm
  have HE := Lib.hid e
  clear e hm
  go_wp2
  go_ret
  exact ⟨by rw [← HE.out]; rfl, rfl⟩
theorem SlAt.nil : SlAt W none 0 [] := .inl ⟨rfl, rfl, rfl⟩
/-- what is to go -/
def goneL (o : Option Opn) : List Int := match o with
  | none => []
  | some x => x.gone
def madeL (o : Option Opn) : List Int := match o with
  | none => []
  | some x => x.made
/-- is a page to go? -/
theorem gone_any (h : PoolAt W P D FB M q) (v : Int) : ∃ (ao : Option Addr) (n c : Nat), vGone q.op = .slice ao n c ∧ Calls Tryd.prog 81 #[.slice ao n c, .int .i64 v] W fun e w' => e = .returned (.bool (decide (v ∈ goneL q.op))) ∧ w' = W := by
  have ho := h.op
  cases hq : q.op with
  | none => exact ⟨none, 0, 0, rfl, contains_any (SlAt.nil (W := W)) (by decide) v⟩
  | some x => exact ⟨x.go, _, x.gc, rfl, contains_any (ho x hq).gone (ho x hq).few.2.2 v⟩
/-- the pool's own numbers turn -/
theorem PD.own (h : PD E W P D FB M q d cnt) {hand : Nat} {pins : Int} (ho : Only P W W') (hb : Box W' P (pcells D FB q.frames.length M hand pins q.op)) : PD E W' P D FB M { frames := q.frames, hand := hand, pins := pins, op := q.op } d cnt ∧ Kept E W W' := by
  have hp := h.pool
  obtain ⟨f, hf, hm⟩ := hp.map
  refine h.moves (q' := { frames := q.frames, hand := hand, pins := pins, op := q.op }) (Moves.of_only ho (.inl rfl)) ⟨hb, hp.frs.only ho hp.PF.symm, ⟨f, hf, hm.only ho hp.PM.symm⟩, fun i g hi => ?_, hp.PF, hp.PM, hp.FM, hp.off, hp.two, hp.op.of_block ho.size (fun k hk => ho.block k (hp.op.lt hk) (hp.opOff k hk).1), hp.opOff, hp.opTwo, hp.tab⟩
  have h1 := hp.off i (some g) g.blk hi (.inl rfl)
  have h2 := hp.off i (some g) g.db hi (.inr rfl)
  exact (hp.each i g hi).of_block (ho.block _ (hp.ltF hi (.inl rfl)) h1.1) (ho.block _ (hp.ltF hi (.inr rfl)) h2.1)
/-- where the hand stands -/
def handN (n : Int) (k : Nat) : Nat := (n % (k : Int)).toNat
theorem handN_is (n : Int) (k : Nat) (hk : 0 < k) : n.tmod k % (k : Int) = (handN n k : Int) ∧ handN n k < k ∧ -(k : Int) < n.tmod k ∧ n.tmod k < k := by
  have h1 := Int.emod_nonneg n (show (k : Int) ≠ 0 by omega)
  have h2 := Int.emod_lt_of_pos n (show (0 : Int) < k by omega)
  have h3 : n.tmod k = if 0 ≤ n ∨ n % k = 0 then n % k else n % k - k := by
    rw [Int.tmod_eq_emod]
    by_cases hh : 0 ≤ n ∨ (k : Int) ∣ n
    · rw [if_pos hh, if_pos (by rcases hh with a | a; exact .inl a; exact .inr (Int.emod_eq_zero_of_dvd a))]; omega
    · rw [if_neg hh, if_neg (by rintro (a | a); exact hh (.inl a); exact hh (.inr (Int.dvd_of_emod_eq_zero a)))]; omega
  refine ⟨?_, by unfold handN; omega, ?_, ?_⟩
  · have h4 : n.tmod k % (k : Int) = n % k := by
      rw [h3]
      split
      · exact Int.emod_emod_of_dvd n (Int.dvd_refl _)
      · rw [Int.sub_emod_right]; exact Int.emod_emod_of_dvd n (Int.dvd_refl _)
    rw [h4]; unfold handN; omega
  · rw [h3]; split <;> omega
  · rw [h3]; split <;> omega
theorem hand_any (h : PD E W P D FB M q d cnt) (o : PlOk q) (n : Int) :
    Calls Tryd.prog 37 #[.pointer (some ⟨P, 0, none⟩), .int .i64 n] W fun e w' => e = .returned (.tuple #[]) ∧ PD E w' P D FB M { q with hand := handN n q.frames.length } d cnt ∧ Kept E W w' := by
  have hb := h.pool.box
  have c1 := hb.cell 1 _ rfl
  have c3 := hb.cell 3 _ rfl
  have f3 := hb.free 3
  have hb2 := hb.set 3 (.int .i64 (handN n q.frames.length : Nat))
  have hpd := h.own ((Only.refl P W).set 3 (.int .i64 (handN n q.frames.length : Nat))) (hand := handN n q.frames.length) (pins := q.pins) hb2
  have hk := o.few
  have hh := o.hand
  obtain ⟨h1, h2, h3, h4⟩ := handN_is n q.frames.length (by omega)
  have hk0 : 1 ≤ q.frames.length := by omega
  generalize q.frames.length = k at *
  have H1 := Lib.hid h1
  clear h1
  generalize handN n k = hn at *
  have h5 : 0 ≤ n.tmod k + k := by omega
  clear hb hb2
  go_enter Tryd.func37, Tryd.ntmps37
  go_wp2
  rw [H1.out]
  go_end0
  exact ⟨rfl, hpd.1, hpd.2⟩
end
end Go.Proofs.YthjnfclebeggaaaDoor
