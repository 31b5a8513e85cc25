/-
  Layer value: values held against one another; layer areas: rules, and what keeps them.
-/
import Derived.Test.YteelmbpmmobpjaaGreatDoorValE
import Derived.Laws.StructEq
namespace Go.Proofs.YteelmbpmmobpjaaGreatDoor
open Go.RowKit
open UK (str BytesAt nth Only Row Box)
/-- nothing, as what it is held against -/
def asV : V → V → V
  | .blank, .text _ => .text []
  | .blank, .bool _ => .bool false
  | .blank, _ => .num 0
  | v, _ => v
def rankV : V → Int
  | .text _ => 1
  | .bool _ => 2
  | _ => 0
def boolOf : V → Bool
  | .bool b => b
  | _ => false
def cmpB (x y : Bool) : Int := if x = y then 0 else if y then -1 else 1
def cmpI (x y : Int) : Int := if x < y then -1 else if y < x then 1 else 0
/-- two values, not both texts, held against one another -/
def cmpV (a b : V) : Int :=
  if rankV (asV a b) - rankV (asV b a) ≠ 0 then max (min (rankV (asV a b) - rankV (asV b a)) 1) (-1)
  else match asV a b with
    | .bool x => cmpB x (boolOf (asV b a))
    | u => cmpI (GivenN u) (GivenN (asV b a))
set_option maxRecDepth 100000 in
theorem as_blank {w : World} (u : V) : Calls Tryz.prog 131 #[V.val .blank, u.val] w fun e w' => e = .returned (asV .blank u).val ∧ Below w.heap.size w w' := by
  have HB : Hid (Calls Tryz.prog 50 #[.iface 90 (.agg #[])] w fun e w' => e = .returned (.bool true) ∧ Below w.heap.size w w') := Lib.hid (isblank_any (w := w) .blank)
  rcases u with _ | n | l | b | k
  · show Calls _ _ #[V.val .blank, V.val (.blank)] _ fun e w' => e = .returned (V.val (.num 0)) ∧ _
    dsimp only [V.val]
    go_enter Tryz.func131, Tryz.ntmps131
    go_wp2_with fail
    refine HB.out.mono ?_
    rintro e w1 ⟨rfl, b1⟩
    go_wp2
    go_ret
    exact ⟨rfl, b1⟩
  · show Calls _ _ #[V.val .blank, V.val (.num n)] _ fun e w' => e = .returned (V.val (.num 0)) ∧ _
    dsimp only [V.val]
    go_enter Tryz.func131, Tryz.ntmps131
    go_wp2_with fail
    refine HB.out.mono ?_
    rintro e w1 ⟨rfl, b1⟩
    go_wp2
    go_ret
    exact ⟨rfl, b1⟩
  · show Calls _ _ #[V.val .blank, V.val (.text l)] _ fun e w' => e = .returned (V.val (.text [])) ∧ _
    dsimp only [V.val]
    go_enter Tryz.func131, Tryz.ntmps131
    go_wp2_with fail
    refine HB.out.mono ?_
    rintro e w1 ⟨rfl, b1⟩
    go_wp2
    go_ret
    exact ⟨rfl, b1⟩
  · show Calls _ _ #[V.val .blank, V.val (.bool b)] _ fun e w' => e = .returned (V.val (.bool false)) ∧ _
    dsimp only [V.val]
    go_enter Tryz.func131, Tryz.ntmps131
    go_wp2_with fail
    refine HB.out.mono ?_
    rintro e w1 ⟨rfl, b1⟩
    go_wp2
    go_ret
    exact ⟨rfl, b1⟩
  · show Calls _ _ #[V.val .blank, V.val (.fail k)] _ fun e w' => e = .returned (V.val (.num 0)) ∧ _
    dsimp only [V.val]
    go_enter Tryz.func131, Tryz.ntmps131
    go_wp2_with fail
    refine HB.out.mono ?_
    rintro e w1 ⟨rfl, b1⟩
    go_wp2
    go_ret
    exact ⟨rfl, b1⟩
set_option maxRecDepth 100000 in
theorem as_other {w : World} {v u : V} (hv : isBlank v = false) : Calls Tryz.prog 131 #[v.val, u.val] w fun e w' => e = .returned v.val ∧ Below w.heap.size w w' := by
  have hb := isblank_any (w := w) v
  rw [hv] at hb
  have HB := Lib.hid hb
  clear hb hv
  generalize u.val = uv at *
  generalize v.val = vv at *
  go_enter Tryz.func131, Tryz.ntmps131
  go_wp2_with fail
  refine HB.out.mono ?_
  rintro e w1 ⟨rfl, b1⟩
  go_wp2
  go_ret
  exact ⟨rfl, b1⟩
theorem as_any {w : World} (v u : V) : Calls Tryz.prog 131 #[v.val, u.val] w fun e w' => e = .returned (asV v u).val ∧ Below w.heap.size w w' := by
  cases hv : isBlank v with
  | true =>
    obtain rfl : v = .blank := by cases v <;> first | rfl | cases hv
    exact as_blank u
  | false =>
    have e : asV v u = v := by cases v <;> cases u <;> first | rfl | cases hv
    rw [e]
    exact as_other hv
theorem rank_any {w : World} (v : V) : Calls Tryz.prog 132 #[v.val] w fun e w' => e = .returned (.int .i64 (rankV v)) ∧ w = w' := by
  cases v
  all_goals
    unfold V.val
    go_enter Tryz.func132, Tryz.ntmps132
    go_wp2
    go_ret
    exact ⟨rfl, rfl⟩
@[go_sem] theorem asx_bool (W : World) (b : Bool) : (Instr.typeAssert (.iface 67 (.bool b)) 35 67 false).run Tryz.prog W = .ok (.bool b) W := by kernel_rfl
def bothText : V → V → Bool
  | .text _, .text _ => true
  | _, _ => false
/-- the rest of Compare, behind both made alike -/
def CmpR (w : World) (A B : V) (e : Ending) (w' : World) : Prop :=
  e = .returned (.int .i64 (if rankV A - rankV B ≠ 0 then max (min (rankV A - rankV B) 1) (-1) else match A with
    | .bool x => cmpB x (boolOf B)
    | u => cmpI (GivenN u) (GivenN B))) ∧ Below w.heap.size w w'
set_option maxHeartbeats 4000000 in
set_option maxRecDepth 100000 in
theorem compare_core {w : World} {av bv : Value} (A B : V) (hnt : bothText A B = false)
    (HA : Hid (∀ w, Calls Tryz.prog 131 #[av, bv] w fun e w' => e = .returned A.val ∧ Below w.heap.size w w'))
    (HB : Hid (∀ w, Calls Tryz.prog 131 #[bv, av] w fun e w' => e = .returned B.val ∧ Below w.heap.size w w')) :
    Calls Tryz.prog 110 #[av, bv] w (CmpR w A B) := by
  have HRA := Lib.hid (fun w => rank_any (w := w) A)
  have HRB := Lib.hid (fun w => rank_any (w := w) B)
  have HGA := Lib.hid (fun w => given_any (w := w) A)
  have HGB := Lib.hid (fun w => given_any (w := w) B)
  by_cases hr : rankV A - rankV B = 0
  · have hrr : rankV A = rankV B := by omega
    cases A with
    | text l =>
      exfalso
      cases B <;> simp [rankV, bothText] at hrr hnt
    | bool x =>
      obtain ⟨y, rfl⟩ : ∃ y, B = .bool y := by cases B <;> first | exact ⟨_, rfl⟩ | (exfalso; simp [rankV] at hrr)
      clear hrr hr hnt HGA HGB
      have HP : Hid (∀ w', Below w.heap.size w w' → CmpR w (.bool x) (.bool y) (.returned (.int .i64 (cmpB x y))) w') := fun w' h => ⟨rfl, h⟩
      dsimp only [V.val, rankV] at *
      cases x
      all_goals cases y
      all_goals
        go_enter Tryz.func110, Tryz.ntmps110
        go_wp2_with fail
        refine (HA.out _).mono ?_
        rintro e w1 ⟨rfl, b1⟩
        go_wp2_with fail
        refine (HB.out _).mono ?_
        rintro e w2 ⟨rfl, b2⟩
        go_wp2_with fail
        refine (HRA.out _).mono ?_
        rintro e w3 ⟨rfl, rfl⟩
        go_wp2_with fail
        refine (HRB.out _).mono ?_
        rintro e w4 ⟨rfl, rfl⟩
        go_wp2
        go_ret
        exact HP.out _ (b1.trans (b2.mono b1.size))
    | blank =>
      have hrb : rankV B = 0 := hrr.symm
      have HP : Hid (∀ w', Below w.heap.size w w' → CmpR w (.blank) B (.returned (.int .i64 (cmpI (GivenN (.blank)) (GivenN B)))) w') := fun w' h => ⟨by rw [if_neg (fun hh => hh (by rw [hrb]; rfl))], h⟩
      rw [hrb] at HRB
      clear hrr hr hrb hnt
      generalize B.val = Bv at *
      generalize GivenN B = y at *
      generalize isNum B = yb at *
      dsimp only [V.val, rankV, GivenN, isNum] at *
      rcases Int.lt_trichotomy 0 y with hxy | hxy | hxy
      · rw [show cmpI 0 y = -1 by unfold cmpI; rw [if_pos hxy]] at HP
        go_enter Tryz.func110, Tryz.ntmps110
        go_wp2_with fail
        refine (HA.out _).mono ?_
        rintro e w1 ⟨rfl, b1⟩
        go_wp2_with fail
        refine (HB.out _).mono ?_
        rintro e w2 ⟨rfl, b2⟩
        go_wp2_with fail
        refine (HRA.out _).mono ?_
        rintro e w3 ⟨rfl, rfl⟩
        go_wp2_with fail
        refine (HRB.out _).mono ?_
        rintro e w4 ⟨rfl, rfl⟩
        go_wp2_with fail
        refine (HGA.out _).mono ?_
        rintro e w5 ⟨rfl, rfl⟩
        go_wp2_with fail
        refine (HGB.out _).mono ?_
        rintro e w6 ⟨rfl, rfl⟩
        go_wp2
        go_ret
        exact HP.out _ (b1.trans (b2.mono b1.size))
      · rw [show cmpI 0 y = 0 by unfold cmpI; rw [if_neg (by omega), if_neg (by omega)]] at HP
        subst hxy
        go_enter Tryz.func110, Tryz.ntmps110
        go_wp2_with fail
        refine (HA.out _).mono ?_
        rintro e w1 ⟨rfl, b1⟩
        go_wp2_with fail
        refine (HB.out _).mono ?_
        rintro e w2 ⟨rfl, b2⟩
        go_wp2_with fail
        refine (HRA.out _).mono ?_
        rintro e w3 ⟨rfl, rfl⟩
        go_wp2_with fail
        refine (HRB.out _).mono ?_
        rintro e w4 ⟨rfl, rfl⟩
        go_wp2_with fail
        refine (HGA.out _).mono ?_
        rintro e w5 ⟨rfl, rfl⟩
        go_wp2_with fail
        refine (HGB.out _).mono ?_
        rintro e w6 ⟨rfl, rfl⟩
        go_wp2
        go_ret
        exact HP.out _ (b1.trans (b2.mono b1.size))
      · rw [show cmpI 0 y = 1 by unfold cmpI; rw [if_neg (by omega), if_pos hxy]] at HP
        go_enter Tryz.func110, Tryz.ntmps110
        go_wp2_with fail
        refine (HA.out _).mono ?_
        rintro e w1 ⟨rfl, b1⟩
        go_wp2_with fail
        refine (HB.out _).mono ?_
        rintro e w2 ⟨rfl, b2⟩
        go_wp2_with fail
        refine (HRA.out _).mono ?_
        rintro e w3 ⟨rfl, rfl⟩
        go_wp2_with fail
        refine (HRB.out _).mono ?_
        rintro e w4 ⟨rfl, rfl⟩
        go_wp2_with fail
        refine (HGA.out _).mono ?_
        rintro e w5 ⟨rfl, rfl⟩
        go_wp2_with fail
        refine (HGB.out _).mono ?_
        rintro e w6 ⟨rfl, rfl⟩
        go_wp2
        go_ret
        exact HP.out _ (b1.trans (b2.mono b1.size))
    | num x =>
      have hrb : rankV B = 0 := hrr.symm
      have HP : Hid (∀ w', Below w.heap.size w w' → CmpR w (.num x) B (.returned (.int .i64 (cmpI (GivenN (.num x)) (GivenN B)))) w') := fun w' h => ⟨by rw [if_neg (fun hh => hh (by rw [hrb]; rfl))], h⟩
      rw [hrb] at HRB
      clear hrr hr hrb hnt
      generalize B.val = Bv at *
      generalize GivenN B = y at *
      generalize isNum B = yb at *
      dsimp only [V.val, rankV, GivenN, isNum] at *
      rcases Int.lt_trichotomy x y with hxy | hxy | hxy
      · rw [show cmpI x y = -1 by unfold cmpI; rw [if_pos hxy]] at HP
        go_enter Tryz.func110, Tryz.ntmps110
        go_wp2_with fail
        refine (HA.out _).mono ?_
        rintro e w1 ⟨rfl, b1⟩
        go_wp2_with fail
        refine (HB.out _).mono ?_
        rintro e w2 ⟨rfl, b2⟩
        go_wp2_with fail
        refine (HRA.out _).mono ?_
        rintro e w3 ⟨rfl, rfl⟩
        go_wp2_with fail
        refine (HRB.out _).mono ?_
        rintro e w4 ⟨rfl, rfl⟩
        go_wp2_with fail
        refine (HGA.out _).mono ?_
        rintro e w5 ⟨rfl, rfl⟩
        go_wp2_with fail
        refine (HGB.out _).mono ?_
        rintro e w6 ⟨rfl, rfl⟩
        go_wp2
        go_ret
        exact HP.out _ (b1.trans (b2.mono b1.size))
      · rw [show cmpI x y = 0 by unfold cmpI; rw [if_neg (by omega), if_neg (by omega)]] at HP
        subst hxy
        go_enter Tryz.func110, Tryz.ntmps110
        go_wp2_with fail
        refine (HA.out _).mono ?_
        rintro e w1 ⟨rfl, b1⟩
        go_wp2_with fail
        refine (HB.out _).mono ?_
        rintro e w2 ⟨rfl, b2⟩
        go_wp2_with fail
        refine (HRA.out _).mono ?_
        rintro e w3 ⟨rfl, rfl⟩
        go_wp2_with fail
        refine (HRB.out _).mono ?_
        rintro e w4 ⟨rfl, rfl⟩
        go_wp2_with fail
        refine (HGA.out _).mono ?_
        rintro e w5 ⟨rfl, rfl⟩
        go_wp2_with fail
        refine (HGB.out _).mono ?_
        rintro e w6 ⟨rfl, rfl⟩
        go_wp2
        go_ret
        exact HP.out _ (b1.trans (b2.mono b1.size))
      · rw [show cmpI x y = 1 by unfold cmpI; rw [if_neg (by omega), if_pos hxy]] at HP
        go_enter Tryz.func110, Tryz.ntmps110
        go_wp2_with fail
        refine (HA.out _).mono ?_
        rintro e w1 ⟨rfl, b1⟩
        go_wp2_with fail
        refine (HB.out _).mono ?_
        rintro e w2 ⟨rfl, b2⟩
        go_wp2_with fail
        refine (HRA.out _).mono ?_
        rintro e w3 ⟨rfl, rfl⟩
        go_wp2_with fail
        refine (HRB.out _).mono ?_
        rintro e w4 ⟨rfl, rfl⟩
        go_wp2_with fail
        refine (HGA.out _).mono ?_
        rintro e w5 ⟨rfl, rfl⟩
        go_wp2_with fail
        refine (HGB.out _).mono ?_
        rintro e w6 ⟨rfl, rfl⟩
        go_wp2
        go_ret
        exact HP.out _ (b1.trans (b2.mono b1.size))
    | fail k =>
      have hrb : rankV B = 0 := hrr.symm
      have HP : Hid (∀ w', Below w.heap.size w w' → CmpR w (.fail k) B (.returned (.int .i64 (cmpI (GivenN (.fail k)) (GivenN B)))) w') := fun w' h => ⟨by rw [if_neg (fun hh => hh (by rw [hrb]; rfl))], h⟩
      rw [hrb] at HRB
      clear hrr hr hrb hnt
      generalize B.val = Bv at *
      generalize GivenN B = y at *
      generalize isNum B = yb at *
      dsimp only [V.val, rankV, GivenN, isNum] at *
      rcases Int.lt_trichotomy 0 y with hxy | hxy | hxy
      · rw [show cmpI 0 y = -1 by unfold cmpI; rw [if_pos hxy]] at HP
        go_enter Tryz.func110, Tryz.ntmps110
        go_wp2_with fail
        refine (HA.out _).mono ?_
        rintro e w1 ⟨rfl, b1⟩
        go_wp2_with fail
        refine (HB.out _).mono ?_
        rintro e w2 ⟨rfl, b2⟩
        go_wp2_with fail
        refine (HRA.out _).mono ?_
        rintro e w3 ⟨rfl, rfl⟩
        go_wp2_with fail
        refine (HRB.out _).mono ?_
        rintro e w4 ⟨rfl, rfl⟩
        go_wp2_with fail
        refine (HGA.out _).mono ?_
        rintro e w5 ⟨rfl, rfl⟩
        go_wp2_with fail
        refine (HGB.out _).mono ?_
        rintro e w6 ⟨rfl, rfl⟩
        go_wp2
        go_ret
        exact HP.out _ (b1.trans (b2.mono b1.size))
      · rw [show cmpI 0 y = 0 by unfold cmpI; rw [if_neg (by omega), if_neg (by omega)]] at HP
        subst hxy
        go_enter Tryz.func110, Tryz.ntmps110
        go_wp2_with fail
        refine (HA.out _).mono ?_
        rintro e w1 ⟨rfl, b1⟩
        go_wp2_with fail
        refine (HB.out _).mono ?_
        rintro e w2 ⟨rfl, b2⟩
        go_wp2_with fail
        refine (HRA.out _).mono ?_
        rintro e w3 ⟨rfl, rfl⟩
        go_wp2_with fail
        refine (HRB.out _).mono ?_
        rintro e w4 ⟨rfl, rfl⟩
        go_wp2_with fail
        refine (HGA.out _).mono ?_
        rintro e w5 ⟨rfl, rfl⟩
        go_wp2_with fail
        refine (HGB.out _).mono ?_
        rintro e w6 ⟨rfl, rfl⟩
        go_wp2
        go_ret
        exact HP.out _ (b1.trans (b2.mono b1.size))
      · rw [show cmpI 0 y = 1 by unfold cmpI; rw [if_neg (by omega), if_pos hxy]] at HP
        go_enter Tryz.func110, Tryz.ntmps110
        go_wp2_with fail
        refine (HA.out _).mono ?_
        rintro e w1 ⟨rfl, b1⟩
        go_wp2_with fail
        refine (HB.out _).mono ?_
        rintro e w2 ⟨rfl, b2⟩
        go_wp2_with fail
        refine (HRA.out _).mono ?_
        rintro e w3 ⟨rfl, rfl⟩
        go_wp2_with fail
        refine (HRB.out _).mono ?_
        rintro e w4 ⟨rfl, rfl⟩
        go_wp2_with fail
        refine (HGA.out _).mono ?_
        rintro e w5 ⟨rfl, rfl⟩
        go_wp2_with fail
        refine (HGB.out _).mono ?_
        rintro e w6 ⟨rfl, rfl⟩
        go_wp2
        go_ret
        exact HP.out _ (b1.trans (b2.mono b1.size))
  · have hra : rankV A = 0 ∨ rankV A = 1 ∨ rankV A = 2 := by cases A <;> simp [rankV]
    have hrb : rankV B = 0 ∨ rankV B = 1 ∨ rankV B = 2 := by cases B <;> simp [rankV]
    have HP : Hid (∀ w', Below w.heap.size w w' → CmpR w A B (.returned (.int .i64 (max (min (rankV A - rankV B) 1) (-1)))) w') := fun w' h => ⟨by rw [if_pos hr], h⟩
    clear HGA HGB hnt
    generalize A.val = Av at *
    generalize B.val = Bv at *
    generalize rankV A = r1 at *
    generalize rankV B = r2 at *
    rcases hra with rfl | rfl | rfl <;> rcases hrb with rfl | rfl | rfl
    all_goals first
      | (exfalso; exact hr rfl)
      | (clear hr
         go_enter Tryz.func110, Tryz.ntmps110
         go_wp2_with fail
         refine (HA.out _).mono ?_
         rintro e w1 ⟨rfl, b1⟩
         go_wp2_with fail
         refine (HB.out _).mono ?_
         rintro e w2 ⟨rfl, b2⟩
         go_wp2_with fail
         refine (HRA.out _).mono ?_
         rintro e w3 ⟨rfl, rfl⟩
         go_wp2_with fail
         refine (HRB.out _).mono ?_
         rintro e w4 ⟨rfl, rfl⟩
         go_wp2
         go_ret
         exact HP.out _ (b1.trans (b2.mono b1.size)))
theorem compare_any {w : World} (a b : V) (hnt : bothText (asV a b) (asV b a) = false) :
    Calls Tryz.prog 110 #[a.val, b.val] w fun e w' => e = .returned (.int .i64 (cmpV a b)) ∧ Below w.heap.size w w' :=
  compare_core (asV a b) (asV b a) hnt (Lib.hid (fun _ => as_any a b)) (Lib.hid (fun _ => as_any b a))
end Go.Proofs.YteelmbpmmobpjaaGreatDoor
