/-
  Layer value: Hold; layer areas: what keeps a rule.
-/
import Derived.Test.YteelmbpmmobpjaaGreatDoorValF
namespace Go.Proofs.YteelmbpmmobpjaaGreatDoor
open Go.RowKit
open UK (str BytesAt nth Only Row Box)
def opB (op c : Int) : Bool :=
  if op = 0 then c == 0 else if op = 1 then c != 0 else if op = 2 then decide (c < 0) else if op = 3 then decide (c ≤ 0) else if op = 4 then decide (0 < c) else decide (0 ≤ c)
theorem failed_no {w : World} {v : V} (h : isFail v = false) : Calls Tryz.prog 52 #[v.val] w fun e w' => e = .returned (.tuple #[.int .i64 0, .bool false]) ∧ w = w' := by
  have := failed_any (w := w) v
  rw [h] at this
  have e : failN v = 0 := by cases v <;> first | rfl | cases h
  rwa [e] at this
set_option maxRecDepth 100000 in
theorem hold_any {w : World} (op : Int) (ho : op = 0 ∨ op = 1 ∨ op = 2 ∨ op = 3 ∨ op = 4 ∨ op = 5) (a b : V) (ha : isFail a = false) (hb : isFail b = false) (hnt : bothText (asV a b) (asV b a) = false) :
    Calls Tryz.prog 91 #[.int .i64 op, a.val, b.val] w fun e w' => e = .returned (.iface 67 (.bool (opB op (cmpV a b)))) ∧ Below w.heap.size w w' := by
  have HA := Lib.hid (failed_no (w := w) ha)
  have HB := Lib.hid (failed_no (w := w) hb)
  have HC := Lib.hid (compare_any (w := w) a b hnt)
  clear ha hb hnt
  generalize a.val = av at *
  generalize b.val = bv at *
  generalize cmpV a b = c at *
  rcases ho with rfl | rfl | rfl | rfl | rfl | rfl
  all_goals
    go_enter Tryz.func91, Tryz.ntmps91
    go_wp2_with fail
    refine HA.out.mono ?_
    rintro e w1 ⟨rfl, rfl⟩
    go_wp2_with fail
    refine HB.out.mono ?_
    rintro e w1 ⟨rfl, rfl⟩
    go_wp2_with fail
    refine HC.out.mono ?_
    rintro e w1 ⟨rfl, b1⟩
    go_wp2
    go_ret
    exact ⟨rfl, b1⟩
@[go_sem] theorem plain_field0 (W : World) (k n : Int) (s : ByteArray) : (Instr.field 46 (.agg #[.int .i64 k, .int .i64 n, .string s]) 0).run Tryz.prog W = .ok (.int .i64 k) W := by kernel_rfl
set_option maxRecDepth 100000 in
theorem alike_any {w : World} (a b : V) : Calls Tryz.prog 90 #[a.val, b.val] w fun e w' => e = .returned (.bool (tellK a == tellK b)) ∧ Below w.heap.size w w' := by
  have HA := Lib.hid (tell_any (w := w) a)
  have HB := Lib.hid (fun w => tell_any (w := w) b)
  unfold tellC at *
  generalize a.val = av at *
  generalize b.val = bv at *
  go_enter Tryz.func90, Tryz.ntmps90
  go_wp2_with fail
  refine HA.out.mono ?_
  rintro e w1 ⟨rfl, b1⟩
  go_wp2_with fail
  refine (HB.out _).mono ?_
  rintro e w2 ⟨rfl, b2⟩
  go_wp2
  go_ret
  exact ⟨rfl, b1.trans (b2.mono b1.size)⟩
@[go_sem] theorem eql_bool_true (W : World) (b : Bool) : (binOp .eql 35 (.iface 67 (.bool b)) (.iface 67 (.bool true))).run Tryz.prog W = .ok (.bool b) W := by
  cases b <;> kernel_rfl
theorem plain_fields : Tryz.prog.underlying 46 = some (.struct (Tryz.prog.fieldsOf 46)) := by kernel_rfl
theorem v15_fields : Tryz.prog.underlying 32 = some (.struct (Tryz.prog.fieldsOf 32)) := by kernel_rfl
theorem run_eq_plain (W : World) (k n k' n' : Int) (s s' : ByteArray) : (binOp .eql 46 (.agg #[.int .i64 k, .int .i64 n, .string s]) (.agg #[.int .i64 k', .int .i64 n', .string s'])).run Tryz.prog W = .ok (.bool (k == k' && n == n' && s.toList == s'.toList)) W := by
  have hp : Tryz.prog.stoodInHeld 46 = false := by kernel_rfl
  have hS := plain_fields
  rw [run_eql_struct, show (10000 : Nat) = 9999 + 1 from rfl, run_equalIn_agg W 9999 46 _ _ hS hp]
  simp only [Program.fieldsOf, Tryz.underlying46]
  go_simp
  by_cases h1 : k = k' <;> by_cases h2 : n = n' <;> by_cases h3 : s.toList = s'.toList <;> simp [h1, h2, h3]
def fits0 (op : Int) (rv v : V) : Bool := if tellK v = tellK rv then (if isFail v then (op == 0 && tellN v == tellN rv) else opB op (cmpV v rv)) else false
/-- does a value keep a rule? -/
def fitsV (op : Int) (rv v : V) : Bool := if op = 1 then !fits0 0 rv v else fits0 op rv v
theorem same_fail {v u : V} (h : tellK v = tellK u) : isFail u = isFail v := by cases v <;> cases u <;> simp_all [tellK, isFail]
theorem same_text {v u : V} (h : tellK v = tellK u) : bothText (asV v u) (asV u v) = bothText v u := by cases v <;> cases u <;> simp_all [tellK, asV, bothText]
/-- a rule's box, behind calls that make memory -/
structure RuleBox (w : World) (op : Int) (rv : Value) (W : World) : Prop where
  box : Box W w.heap.size #[.int .i64 op, rv]
  bel : Below w.heap.size w W
theorem RuleBox.next {w W W' : World} {op : Int} {rv : Value} (h : RuleBox w op rv W) (hb : Below W.heap.size W W') : W'.cell? ⟨w.heap.size, 0, none⟩ = some (.int .i64 op) ∧ W'.cell? ⟨w.heap.size, 1, none⟩ = some rv ∧ Hid (RuleBox w op rv W') :=
  ⟨(h.box.next hb).cell 0 _ rfl, (h.box.next hb).cell 1 _ rfl, h.box.next hb, h.bel.trans (hb.mono h.bel.size)⟩
theorem RuleBox.drew {w W : World} {op : Int} {rv : Value} (h : RuleBox w op rv W) : RuleBox w op rv W.drew := ⟨h.box, UK.belowN h.bel 1⟩
theorem tellF_any (k : Int) (w : World) : Calls Tryz.prog 20 #[.iface 61 (.int .i64 k)] w fun e w' => e = .returned (.agg #[.int .i64 4, .int .i64 k, .string (str [])]) ∧ Below w.heap.size w w' := tell_any (.fail k)
set_option maxHeartbeats 2000000 in
set_option maxRecDepth 100000 in
theorem fits0_any {w : World} (op : Int) (ho : op = 0 ∨ op = 2 ∨ op = 3 ∨ op = 4 ∨ op = 5) (rv v : V) (hnt : bothText v rv = false) :
    Calls Tryz.prog 64 #[.agg #[.int .i64 op, rv.val], v.val] w fun e w' => e = .returned (.bool (fits0 op rv v)) ∧ Below w.heap.size w w' := by
  have HAL := Lib.hid (fun w => alike_any (w := w) v rv)
  have ho1 : (op == 1) = false := by rcases ho with rfl | rfl | rfl | rfl | rfl <;> rfl
  by_cases hk : tellK v = tellK rv
  · have hkb : (tellK v == tellK rv) = true := by simpa using hk
    rw [hkb] at HAL
    cases hf : isFail v with
    | true =>
      obtain ⟨k, rfl⟩ : ∃ k, v = .fail k := by cases v <;> first | exact ⟨_, rfl⟩ | cases hf
      obtain ⟨m, rfl⟩ : ∃ m, rv = .fail m := by cases rv <;> first | exact ⟨_, rfl⟩ | (simp [tellK] at hk)
      have e : fits0 op (.fail m) (.fail k) = (op == 0 && k == m) := by unfold fits0; rfl
      have HF := Lib.hid (fun w => failed_any (w := w) (.fail k))
      have hq := fun W => run_eq_plain W 4 k 4 m (str []) (str [])
      rw [e]
      have hb0 : RuleBox w op (V.val (.fail m)) (w.alloc (.cells #[.int .i64 op, V.val (.fail m)] 114)) := ⟨Box.new _ _ _, (Below.refl _ _).alloc (Nat.le_refl _) _⟩
      have HB0 := Lib.hid hb0
      clear hb0
      clear e hf hnt hk hkb
      dsimp only [V.val, failN, isFail] at *
      go_enter Tryz.func64, Tryz.ntmps64
      go_wp2_with fail
      refine (HAL.out _).mono ?_
      rintro e w1 ⟨rfl, b1⟩
      obtain ⟨c0, c1, H1⟩ := HB0.out.next b1
      clear b1
      by_cases hop : op = 0
      · subst hop
        have c0d : w1.drew.cell? ⟨w.heap.size, 0, none⟩ = some (.int .i64 0) := c0
        have c1d : w1.drew.cell? ⟨w.heap.size, 1, none⟩ = some (.iface 61 (.int .i64 m)) := c1
        go_wp2_with fail
        refine (HF.out _).mono ?_
        rintro e w2 ⟨rfl, rfl⟩
        have H1d := Lib.hid H1.out.drew
        go_wp2
        go_region_with (first
          | (go_at_call 20; ((with_reducible refine (tellF_any k _).mono ?_); rintro e w3 ⟨rfl, b3⟩; obtain ⟨d0, d1, H3⟩ := H1d.out.next b3; clear b3))
          | (go_at_call 20; ((with_reducible refine (tellF_any m _).mono ?_); rintro e w4 ⟨rfl, b4⟩; obtain ⟨e0, e1, H4⟩ := H3.out.next b4; clear b4)))
        all_goals
          go_wp2
          go_ret
          exact ⟨rfl, H4.out.bel⟩
      · have hop2 : (op == 0) = false := by simpa using hop
        go_wp2_with fail
        refine (HF.out _).mono ?_
        rintro e w2 ⟨rfl, rfl⟩
        go_wp2
        go_quiet (fail)
        go_wp2
        go_ret
        exact ⟨by rw [hop2]; rfl, UK.belowN H1.out.bel _⟩
    | false =>
      have hf2 : isFail rv = false := (same_fail hk).trans hf
      have hnt2 : bothText (asV v rv) (asV rv v) = false := (same_text hk).trans hnt
      have HF := Lib.hid (fun w => failed_no (w := w) hf)
      have HH := Lib.hid (fun w => hold_any (w := w) op (by omega) v rv hf hf2 hnt2)
      have e : fits0 op rv v = opB op (cmpV v rv) := by unfold fits0; rw [if_pos hk, if_neg (by rw [hf]; decide)]
      rw [e]
      obtain ⟨T, p, hrv⟩ := val_iface rv
      rw [hrv] at HAL HH ⊢
      clear e hf hf2 hnt2 hnt hk hkb hrv
      generalize opB op (cmpV v rv) = r at *
      generalize v.val = vv at *
      have hbx : Hid (∀ w1, Below (w.alloc (.cells #[.int .i64 op, .iface T p] 114)).heap.size (w.alloc (.cells #[.int .i64 op, .iface T p] 114)) w1 → w1.cell? ⟨w.heap.size, 0, none⟩ = some (.int .i64 op) ∧ w1.cell? ⟨w.heap.size, 1, none⟩ = some (.iface T p) ∧ Hid (Below w.heap.size w w1)) := fun w1 h => by
        have hx := (Box.new w #[.int .i64 op, .iface T p] 114).next h
        exact ⟨hx.cell 0 _ rfl, hx.cell 1 _ rfl, ((Below.refl _ _).alloc (Nat.le_refl _) _).trans (h.mono (by simp))⟩
      go_enter Tryz.func64, Tryz.ntmps64
      go_wp2_with fail
      refine (HAL.out _).mono ?_
      rintro e w1 ⟨rfl, b1⟩
      obtain ⟨c0, c1, H1⟩ := hbx.out w1 b1
      clear b1
      go_wp2_with fail
      refine (HF.out _).mono ?_
      rintro e w2 ⟨rfl, rfl⟩
      go_wp2_with fail
      refine (HH.out _).mono ?_
      rintro e w3 ⟨rfl, b3⟩
      go_wp2
      go_ret
      exact ⟨rfl, H1.out.trans (b3.mono H1.out.size)⟩
  · have hkb : (tellK v == tellK rv) = false := by simpa using hk
    rw [hkb] at HAL
    have e : fits0 op rv v = false := by unfold fits0; rw [if_neg hk]
    rw [e]
    obtain ⟨T, p, hrv⟩ := val_iface rv
    rw [hrv] at HAL ⊢
    clear e hk hkb hrv hnt
    generalize v.val = vv at *
    go_enter Tryz.func64, Tryz.ntmps64
    go_wp2_with fail
    refine (HAL.out _).mono ?_
    rintro e w1 ⟨rfl, b1⟩
    go_wp2
    go_ret
    exact ⟨rfl, ((Below.refl _ _).alloc (Nat.le_refl _) _).trans (b1.mono (by simp))⟩
set_option maxHeartbeats 2000000 in
set_option maxRecDepth 100000 in
theorem fits_any {w : World} (op : Int) (ho : op = 0 ∨ op = 1 ∨ op = 2 ∨ op = 3 ∨ op = 4 ∨ op = 5) (rv v : V) (hnt : bothText v rv = false) :
    Calls Tryz.prog 64 #[.agg #[.int .i64 op, rv.val], v.val] w fun e w' => e = .returned (.bool (fitsV op rv v)) ∧ Below w.heap.size w w' := by
  by_cases h1 : op = 1
  · subst h1
    have HF := Lib.hid (fun w => fits0_any (w := w) 0 (.inl rfl) rv v hnt)
    have e : fitsV 1 rv v = !fits0 0 rv v := rfl
    rw [e]
    obtain ⟨T, p, hrv⟩ := val_iface rv
    rw [hrv] at HF ⊢
    clear e hnt hrv
    generalize fits0 0 rv v = r at *
    generalize v.val = vv at *
    go_enter Tryz.func64, Tryz.ntmps64
    go_wp2_with fail
    refine (HF.out _).mono ?_
    rintro e w1 ⟨rfl, b1⟩
    go_wp2
    go_ret
    exact ⟨rfl, ((Below.refl _ _).alloc (Nat.le_refl _) _).trans (b1.mono (by simp))⟩
  · have e : fitsV op rv v = fits0 op rv v := by unfold fitsV; rw [if_neg h1]
    rw [e]
    exact fits0_any op (by omega) rv v hnt
end Go.Proofs.YteelmbpmmobpjaaGreatDoor
