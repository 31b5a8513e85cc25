/-
  Layer deci: sizes, signs, sums, whole numbers, products.
-/
import Derived.Test.YteelmbpmmobpjaaGreatDoorUKit
import Derived.Test.YteelmbpmmobpjaaGreatDoorChecked
namespace Go.Proofs.YteelmbpmmobpjaaGreatDoor
open Go.RowKit
namespace DE
def mostN : Nat := 999999999999999999
/-- a number that there may be -/
def Good (a : Int) : Prop := -999999999999999999 ≤ a ∧ a ≤ 999999999999999999
def goodB (a : Int) : Bool := decide (-999999999999999999 ≤ a) && decide (a ≤ 999999999999999999)
theorem goodB_iff {a : Int} : goodB a = true ↔ Good a := by simp [goodB, Good]
/-- a number of a sign and a size -/
def madeN (m : Bool) (n : Nat) : Int := if n ≤ mostN then (if m then -(n : Int) else n) else 0
def fitsN (n : Nat) : Bool := decide (n ≤ mostN)
theorem madeN_good (m : Bool) (n : Nat) : Good (madeN m n) := by
  unfold madeN Good mostN
  by_cases h : n ≤ 999999999999999999 <;> cases m <;> simp [h] <;> omega
/-- a sum -/
def addN (a b : Int) : Int := if (a + b).natAbs ≤ mostN then a + b else 0
def addB (a b : Int) : Bool := fitsN (a + b).natAbs
theorem addN_good (a b : Int) : Good (addN a b) := by
  unfold addN Good mostN
  by_cases h : (a + b).natAbs ≤ 999999999999999999 <;> simp [h] <;> omega
end DE
open DE (mostN goodB madeN fitsN)
theorem size_neg {w : World} (a : Int) (h : a < 0) (h2 : -4000000000000000000 ≤ a) :
    Calls Tryz.prog 43 #[.int .i64 a] w fun e w' => e = .returned (.int .u64 (a.natAbs : Int)) ∧ w = w' := by
  go_enter Tryz.func43, Tryz.ntmps43
  go_wp2
  go_ret
  refine ⟨?_, rfl⟩
  show Ending.returned (Value.int .u64 _) = _
  congr 2
  omega
theorem size_pos {w : World} (a : Int) (h : 0 ≤ a) (h2 : a ≤ 4000000000000000000) :
    Calls Tryz.prog 43 #[.int .i64 a] w fun e w' => e = .returned (.int .u64 (a.natAbs : Int)) ∧ w = w' := by
  go_enter Tryz.func43, Tryz.ntmps43
  go_wp2
  go_ret
  refine ⟨?_, rfl⟩
  show Ending.returned (Value.int .u64 _) = _
  congr 2
  omega
theorem size_any {w : World} (a : Int) (h : -4000000000000000000 ≤ a) (h2 : a ≤ 4000000000000000000) :
    Calls Tryz.prog 43 #[.int .i64 a] w fun e w' => e = .returned (.int .u64 (a.natAbs : Int)) ∧ w = w' := by
  by_cases h0 : a < 0
  · exact size_neg a h0 h
  · exact size_pos a (by omega) h2
theorem made_no {w : World} (m : Bool) (n : Nat) (h : mostN < n) (h2 : n < 18446744073709551616) :
    Calls Tryz.prog 47 #[.bool m, .int .u64 0, .int .u64 (n : Int)] w fun e w' => e = .returned (.tuple #[.int .i64 0, .bool false]) ∧ w = w' := by
  unfold mostN at h
  have h' : (999999999999999999 : Int) < (n : Int) := by omega
  go_enter Tryz.func47, Tryz.ntmps47
  go_wp2
  go_ret2
  exact ⟨rfl, rfl⟩
theorem made_yes {w : World} (m : Bool) (n : Nat) (h : n ≤ mostN) :
    Calls Tryz.prog 47 #[.bool m, .int .u64 0, .int .u64 (n : Int)] w fun e w' => e = .returned (.tuple #[.int .i64 (if m then -(n : Int) else n), .bool true]) ∧ w = w' := by
  unfold mostN at h
  have h' : (n : Int) ≤ (999999999999999999 : Int) := by omega
  have h0 : 0 ≤ (n : Int) := by omega
  cases m
  · go_enter Tryz.func47, Tryz.ntmps47
    go_wp2
    go_ret2
    exact ⟨rfl, rfl⟩
  · go_enter Tryz.func47, Tryz.ntmps47
    go_wp2
    go_ret2
    exact ⟨rfl, rfl⟩
theorem made_any {w : World} (m : Bool) (n : Nat) (h2 : n < 18446744073709551616) :
    Calls Tryz.prog 47 #[.bool m, .int .u64 0, .int .u64 (n : Int)] w fun e w' => e = .returned (.tuple #[.int .i64 (madeN m n), .bool (fitsN n)]) ∧ w = w' := by
  by_cases h : n ≤ mostN
  · refine (made_yes m n h).mono ?_
    rintro e w' ⟨rfl, rfl⟩
    refine ⟨?_, rfl⟩
    simp [madeN, fitsN, h]
  · refine (made_no m n (by omega) h2).mono ?_
    rintro e w' ⟨rfl, rfl⟩
    refine ⟨?_, rfl⟩
    simp [madeN, fitsN, h]
theorem add_any {w : World} (a b : Int) (ha : DE.Good a) (hb : DE.Good b) :
    Calls Tryz.prog 54 #[.int .i64 a, .int .i64 b] w fun e w' => e = .returned (.tuple #[.int .i64 (DE.addN a b), .bool (DE.addB a b)]) ∧ w = w' := by
  obtain ⟨a1, a2⟩ := ha
  obtain ⟨b1, b2⟩ := hb
  have hs1 : -4000000000000000000 ≤ a + b := by omega
  have hs2 : a + b ≤ 4000000000000000000 := by omega
  have hn : (a + b).natAbs < 18446744073709551616 := by omega
  have he : madeN (decide (a + b < 0)) (a + b).natAbs = DE.addN a b := by
    unfold madeN DE.addN
    by_cases hm : (a + b).natAbs ≤ mostN
    · rw [if_pos hm, if_pos hm]
      by_cases hz : a + b < 0 <;> simp [hz] <;> omega
    · rw [if_neg hm, if_neg hm]
  have HE := Lib.hid he
  clear he
  go_enter Tryz.func54, Tryz.ntmps54
  go_wp2_with (first
    | (go_at_call 43; ((with_reducible refine (size_any _ hs1 hs2).mono ?_); rintro e w' ⟨rfl, rfl⟩))
    | (go_at_call 47; ((with_reducible refine (made_any _ _ hn).mono ?_); rintro e w' ⟨rfl, rfl⟩)))
  go_ret2
  refine ⟨?_, rfl⟩
  rw [HE.out]
  rfl
end Go.Proofs.YteelmbpmmobpjaaGreatDoor
