/-
  Layer deci: quotients, products.
-/
import Derived.Test.YteelmbpmmobpjaaGreatDoorDivA
namespace Go.Proofs.YteelmbpmmobpjaaGreatDoor
open Go.RowKit
open DE (mostN goodB madeN fitsN)
namespace DE
/-- a quotient, halves away from nought, as the machine has it -/
def rnd (n y : Nat) : Nat := (n / y + if y ≤ n % y + n % y then 1 else 0) % 18446744073709551616
def quotB (n y : Nat) : Bool := decide (n / 18446744073709551616 < y) && decide (rnd n y ≤ mostN)
def quotN (n y : Nat) : Nat := if n / 18446744073709551616 < y then rnd n y else 0
def sgn (m : Bool) (n : Nat) : Int := if m then -(n : Int) else n
def mulO (a b : Int) : Option Int := if quotB (a.natAbs * b.natAbs) 10000 then some (sgn (!(decide (a < 0) == decide (b < 0))) (rnd (a.natAbs * b.natAbs) 10000)) else none
def divO (a b : Int) : Option Int := if quotB (a.natAbs * 10000) b.natAbs then some (sgn (!(decide (a < 0) == decide (b < 0))) (rnd (a.natAbs * 10000) b.natAbs)) else none
end DE
set_option maxRecDepth 100000 in
theorem quot_no {w : World} (n y : Nat) (h : ¬ n / 18446744073709551616 < y) (lo : Int) :
    Calls Tryz.prog 80 #[.int .u64 ((n / 18446744073709551616 : Nat) : Int), .int .u64 lo, .int .u64 (y : Int)] w fun e w' => e = .returned (.tuple #[.int .u64 0, .bool false]) ∧ Below w.heap.size w w' := by
  generalize n / 18446744073709551616 = hi at *
  have h2 : (y : Int) ≤ (hi : Int) := by omega
  go_enter Tryz.func80, Tryz.ntmps80
  go_wp2
  go_ret2
  exact ⟨rfl, Below.refl _ _⟩
set_option maxRecDepth 100000 in
theorem quot_yes {w : World} (n y : Nat) (h : n / 18446744073709551616 < y) (hy : y < 4294967296) :
    Calls Tryz.prog 80 #[.int .u64 ((n / 18446744073709551616 : Nat) : Int), .int .u64 ((n % 18446744073709551616 : Nat) : Int), .int .u64 (y : Int)] w fun e w' => e = .returned (.tuple #[.int .u64 ((DE.rnd n y : Nat) : Int), .bool (decide (DE.rnd n y ≤ mostN))]) ∧ Below w.heap.size w w' := by
  have HD := Lib.hid (div64_any (w := w) n y h hy)
  have hr : n % y < y := Nat.mod_lt _ (by omega)
  have hR := Lib.hid (show DE.rnd n y = (n / y + if y ≤ n % y + n % y then 1 else 0) % 18446744073709551616 from rfl)
  have h2 : ¬ (y : Int) ≤ ((n / 18446744073709551616 : Nat) : Int) := by omega
  have hq : n / y < 18446744073709551616 := by
    rw [Nat.div_lt_iff_lt_mul (by omega), Nat.mul_comm]
    have := Nat.div_add_mod n 18446744073709551616
    have h3 := Nat.mod_lt n (show 0 < 18446744073709551616 by decide)
    have h4 : (n / 18446744073709551616 + 1) * 18446744073709551616 ≤ y * 18446744073709551616 := Nat.mul_le_mul_right _ h
    omega
  generalize n / 18446744073709551616 = hi at *
  generalize n % 18446744073709551616 = lo at *
  generalize n / y = q at *
  generalize n % y = r at *
  generalize DE.rnd n y = R at *
  have hw : IntKind.u64.wrap ((y : Int) - (r : Int)) = ((y - r : Nat) : Int) := by rw [IntKind.wrap_u64]; omega
  clear h hy
  by_cases hc : y ≤ r + r
  · have hRq : R = (q + 1) % 18446744073709551616 := by rw [hR.out, if_pos hc]
    have hwq : IntKind.u64.wrap ((q : Int) + 1) = (R : Int) := by rw [IntKind.wrap_u64, hRq]; omega
    have hc2 : IntKind.u64.wrap ((y : Int) - (r : Int)) ≤ (r : Int) := by rw [hw]; omega
    have hm : decide ((R : Int) ≤ 999999999999999999) = decide (R ≤ mostN) := by unfold mostN; by_cases hx : R ≤ 999999999999999999 <;> simp [hx] <;> omega
    have HQ := Lib.hid (And.intro hwq hm)
    clear hwq hm hRq hR hc hq hr hw
    go_enter Tryz.func80, Tryz.ntmps80
    go_wp2_with fail
    refine HD.out.mono ?_
    rintro e w1 ⟨rfl, b1⟩
    go_wp2_with fail
    go_ret2
    refine ⟨?_, b1⟩
    rw [← HQ.out.2, ← HQ.out.1]
    rfl
  · have hRq : R = q := by rw [hR.out, if_neg hc]; omega
    subst hRq
    have hc2 : ¬ IntKind.u64.wrap ((y : Int) - (r : Int)) ≤ (r : Int) := by rw [hw]; omega
    have hm : decide ((R : Int) ≤ 999999999999999999) = decide (R ≤ mostN) := by unfold mostN; by_cases hx : R ≤ 999999999999999999 <;> simp [hx] <;> omega
    have HQ := Lib.hid hm
    clear hm hR hc hq hr hw
    go_enter Tryz.func80, Tryz.ntmps80
    go_wp2_with fail
    refine HD.out.mono ?_
    rintro e w1 ⟨rfl, b1⟩
    go_wp2_with fail
    go_ret2
    refine ⟨?_, b1⟩
    rw [← HQ.out]
    rfl
theorem quot_any {w : World} (n y : Nat) (hy : y < 4294967296) :
    Calls Tryz.prog 80 #[.int .u64 ((n / 18446744073709551616 : Nat) : Int), .int .u64 ((n % 18446744073709551616 : Nat) : Int), .int .u64 (y : Int)] w fun e w' => e = .returned (.tuple #[.int .u64 ((DE.quotN n y : Nat) : Int), .bool (DE.quotB n y)]) ∧ Below w.heap.size w w' := by
  by_cases h : n / 18446744073709551616 < y
  · refine (quot_yes n y h hy).mono ?_
    rintro e w' ⟨rfl, b⟩
    refine ⟨?_, b⟩
    unfold DE.quotN DE.quotB
    rw [if_pos h]
    simp [h]
  · refine (quot_no n y h _).mono ?_
    rintro e w' ⟨rfl, b⟩
    refine ⟨?_, b⟩
    unfold DE.quotN DE.quotB
    rw [if_neg h]
    simp [h]
theorem made_sgn {w : World} (m : Bool) (n : Nat) (h : n ≤ mostN) :
    Calls Tryz.prog 47 #[.bool m, .int .u64 0, .int .u64 (n : Int)] w fun e w' => e = .returned (.tuple #[.int .i64 (DE.sgn m n), .bool true]) ∧ w = w' := made_yes m n h
set_option maxHeartbeats 1000000 in
set_option maxRecDepth 100000 in
theorem mul_any {w : World} (a b : Int) (ha : DE.Good a) (hb : DE.Good b) :
    Calls Tryz.prog 53 #[.int .i64 a, .int .i64 b] w fun e w' => e = .returned (.tuple #[.int .i64 ((DE.mulO a b).getD 0), .bool (DE.mulO a b).isSome]) ∧ Below w.heap.size w w' := by
  obtain ⟨a1, a2⟩ := ha
  obtain ⟨b1, b2⟩ := hb
  have HA := Lib.hid (fun w => size_any (w := w) a (by omega) (by omega))
  have HB := Lib.hid (fun w => size_any (w := w) b (by omega) (by omega))
  have HM := Lib.hid (fun w => mul64_any (w := w) a.natAbs b.natAbs (by omega) (by omega))
  have HQ := Lib.hid (fun w => quot_any (w := w) (a.natAbs * b.natAbs) 10000 (by omega))
  have HG := Lib.hid (fun w (h : DE.quotN (a.natAbs * b.natAbs) 10000 ≤ mostN) => made_sgn (w := w) (!(decide (a < 0) == decide (b < 0))) _ h)
  have hQ : DE.quotB (a.natAbs * b.natAbs) 10000 = true → DE.quotN (a.natAbs * b.natAbs) 10000 = DE.rnd (a.natAbs * b.natAbs) 10000 ∧ DE.rnd (a.natAbs * b.natAbs) 10000 ≤ mostN := by
    intro h
    unfold DE.quotB at h
    simp only [Bool.and_eq_true, decide_eq_true_eq] at h
    unfold DE.quotN
    rw [if_pos h.1]
    exact ⟨rfl, h.2⟩
  have hO : DE.mulO a b = if DE.quotB (a.natAbs * b.natAbs) 10000 then some (DE.sgn (!(decide (a < 0) == decide (b < 0))) (DE.rnd (a.natAbs * b.natAbs) 10000)) else none := rfl
  generalize DE.mulO a b = O at *
  generalize DE.rnd (a.natAbs * b.natAbs) 10000 = R at *
  generalize DE.quotN (a.natAbs * b.natAbs) 10000 = q at *
  generalize DE.quotB (a.natAbs * b.natAbs) 10000 = qb at *
  generalize a.natAbs * b.natAbs / 18446744073709551616 = hi at *
  generalize a.natAbs * b.natAbs % 18446744073709551616 = lo at *
  generalize hna : (a.natAbs : Int) = na at *
  generalize hnb : (b.natAbs : Int) = nb at *
  generalize hs : (!(decide (a < 0) == decide (b < 0))) = s at *
  have HS := Lib.hid hs
  clear hs hna hnb a1 a2 b1 b2
  cases qb with
  | false =>
    rw [if_neg (by simp)] at hO
    subst hO
    clear hQ HG
    go_enter Tryz.func53, Tryz.ntmps53
    go_wp2_with fail
    refine (HA.out _).mono ?_
    rintro e w1 ⟨rfl, rfl⟩
    go_wp2_with fail
    refine (HB.out _).mono ?_
    rintro e w1 ⟨rfl, rfl⟩
    go_wp2_with fail
    refine (HM.out _).mono ?_
    rintro e w1 ⟨rfl, rfl⟩
    go_wp2_with fail
    refine (HQ.out _).mono ?_
    rintro e w2 ⟨rfl, b2⟩
    go_wp2
    go_ret2
    exact ⟨rfl, b2⟩
  | true =>
    rw [if_pos rfl] at hO
    subst hO
    obtain ⟨rfl, hq⟩ := hQ rfl
    have HGG := Lib.hid (fun w => HG w hq)
    clear hQ HG hq
    go_enter Tryz.func53, Tryz.ntmps53
    go_wp2_with fail
    refine (HA.out _).mono ?_
    rintro e w1 ⟨rfl, rfl⟩
    go_wp2_with fail
    refine (HB.out _).mono ?_
    rintro e w1 ⟨rfl, rfl⟩
    go_wp2_with fail
    refine (HM.out _).mono ?_
    rintro e w1 ⟨rfl, rfl⟩
    go_wp2_with fail
    refine (HQ.out _).mono ?_
    rintro e w2 ⟨rfl, b2⟩
    go_wp2_with fail
    simp only [HS.out]
    refine (HGG.out _).mono ?_
    rintro e w3 ⟨rfl, rfl⟩
    go_wp2
    go_ret2
    exact ⟨rfl, b2⟩
set_option maxHeartbeats 1000000 in
set_option maxRecDepth 100000 in
theorem div_any {w : World} (a b : Int) (ha : DE.Good a) (hb : DE.Good b) (h0 : b ≠ 0) (hb3 : b.natAbs < 4294967296) :
    Calls Tryz.prog 92 #[.int .i64 a, .int .i64 b] w fun e w' => e = .returned (.tuple #[.int .i64 ((DE.divO a b).getD 0), .bool (DE.divO a b).isSome]) ∧ Below w.heap.size w w' := by
  obtain ⟨a1, a2⟩ := ha
  obtain ⟨b1, b2⟩ := hb
  have HA := Lib.hid (fun w => size_any (w := w) a (by omega) (by omega))
  have HB := Lib.hid (fun w => size_any (w := w) b (by omega) (by omega))
  have HM := Lib.hid (fun w => mul64_any (w := w) a.natAbs 10000 (by omega) (by omega))
  have HQ := Lib.hid (fun w => quot_any (w := w) (a.natAbs * 10000) b.natAbs hb3)
  have HG := Lib.hid (fun w (h : DE.quotN (a.natAbs * 10000) b.natAbs ≤ mostN) => made_sgn (w := w) (!(decide (a < 0) == decide (b < 0))) _ h)
  have hQ : DE.quotB (a.natAbs * 10000) b.natAbs = true → DE.quotN (a.natAbs * 10000) b.natAbs = DE.rnd (a.natAbs * 10000) b.natAbs ∧ DE.rnd (a.natAbs * 10000) b.natAbs ≤ mostN := by
    intro h
    unfold DE.quotB at h
    simp only [Bool.and_eq_true, decide_eq_true_eq] at h
    unfold DE.quotN
    rw [if_pos h.1]
    exact ⟨rfl, h.2⟩
  have hO : DE.divO a b = if DE.quotB (a.natAbs * 10000) b.natAbs then some (DE.sgn (!(decide (a < 0) == decide (b < 0))) (DE.rnd (a.natAbs * 10000) b.natAbs)) else none := rfl
  generalize DE.divO a b = O at *
  generalize DE.rnd (a.natAbs * 10000) b.natAbs = R at *
  generalize DE.quotN (a.natAbs * 10000) b.natAbs = q at *
  generalize DE.quotB (a.natAbs * 10000) b.natAbs = qb at *
  generalize a.natAbs * 10000 / 18446744073709551616 = hi at *
  generalize a.natAbs * 10000 % 18446744073709551616 = lo at *
  generalize hna : (a.natAbs : Int) = na at *
  generalize hnb : (b.natAbs : Int) = nb at *
  generalize hs : (!(decide (a < 0) == decide (b < 0))) = s at *
  have HS := Lib.hid hs
  have hb0 : (b == 0) = false := by simpa using h0
  clear hs hna hnb a1 a2 b1 b2 hb3
  cases qb with
  | false =>
    rw [if_neg (by simp)] at hO
    subst hO
    clear hQ HG
    go_enter Tryz.func92, Tryz.ntmps92
    go_wp2_with fail
    refine (HA.out _).mono ?_
    rintro e w1 ⟨rfl, rfl⟩
    go_wp2_with fail
    refine (HM.out _).mono ?_
    rintro e w1 ⟨rfl, rfl⟩
    go_wp2_with fail
    refine (HB.out _).mono ?_
    rintro e w1 ⟨rfl, rfl⟩
    go_wp2_with fail
    refine (HQ.out _).mono ?_
    rintro e w2 ⟨rfl, b2⟩
    go_wp2
    go_ret2
    exact ⟨rfl, b2⟩
  | true =>
    rw [if_pos rfl] at hO
    subst hO
    obtain ⟨rfl, hq⟩ := hQ rfl
    have HGG := Lib.hid (fun w => HG w hq)
    clear hQ HG hq
    go_enter Tryz.func92, Tryz.ntmps92
    go_wp2_with fail
    refine (HA.out _).mono ?_
    rintro e w1 ⟨rfl, rfl⟩
    go_wp2_with fail
    refine (HM.out _).mono ?_
    rintro e w1 ⟨rfl, rfl⟩
    go_wp2_with fail
    refine (HB.out _).mono ?_
    rintro e w1 ⟨rfl, rfl⟩
    go_wp2_with fail
    refine (HQ.out _).mono ?_
    rintro e w2 ⟨rfl, b2⟩
    go_wp2_with fail
    simp only [HS.out]
    refine (HGG.out _).mono ?_
    rintro e w3 ⟨rfl, rfl⟩
    go_wp2
    go_ret2
    exact ⟨rfl, b2⟩
end Go.Proofs.YteelmbpmmobpjaaGreatDoor
