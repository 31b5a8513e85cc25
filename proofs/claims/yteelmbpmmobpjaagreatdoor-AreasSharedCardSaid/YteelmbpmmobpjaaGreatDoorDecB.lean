/-
  Layer deci: products of 64 bits (the shelf's contract, laid), whole numbers.
-/
import Derived.Test.YteelmbpmmobpjaaGreatDoorDecA
import Derived.Test.YteelmbpmmobpjaaGreatDoorShelf
namespace Go.Proofs.YteelmbpmmobpjaaGreatDoor
open Go.RowKit
open DE (mostN goodB madeN fitsN)
theorem mul64_any {w : World} (x y : Nat) (hx : x < 18446744073709551616) (hy : y < 18446744073709551616) :
    Calls Tryz.prog 46 #[.int .u64 (x : Int), .int .u64 (y : Int)] w fun e w' => e = .returned (.tuple #[.int .u64 ((x * y / 18446744073709551616 : Nat) : Int), .int .u64 ((x * y % 18446744073709551616 : Nat) : Int)]) ∧ w = w' := by
  refine (Calls.mono (Tryz.bits_Mul64 x y hx hy w) ?_)
  rintro e w' ⟨rfl, rfl⟩
  exact ⟨rfl, rfl⟩
theorem mul64_small {w : World} (x : Nat) (hx : x ≤ 1000000000) :
    Calls Tryz.prog 46 #[.int .u64 (x : Int), .int .u64 10000] w fun e w' => e = .returned (.tuple #[.int .u64 0, .int .u64 ((x : Int) * 10000)]) ∧ w = w' := by
  rw [show (x : Int) * 10000 = ((x * 10000 : Nat) : Int) by omega]
  have H := mul64_any (w := w) x 10000 (by omega) (by omega)
  rw [show x * 10000 / 18446744073709551616 = 0 by omega, show x * 10000 % 18446744073709551616 = x * 10000 by omega] at H
  exact H
/-- a whole number -/
theorem int_pos {w : World} (n : Nat) (h2 : n ≤ 1000000000) :
    Calls Tryz.prog 17 #[.int .i64 (n : Int)] w fun e w' => e = .returned (.tuple #[.int .i64 ((n : Int) * 10000), .bool true]) ∧ w = w' := by
  have HH1 := Lib.hid (mul64_small (w := w) n h2)
  have hm := made_yes (w := w) false (n * 10000) (by unfold mostN; omega)
  rw [show ((n * 10000 : Nat) : Int) = (n : Int) * 10000 by omega, if_neg (by decide)] at hm
  have HH2 := Lib.hid hm
  clear hm
  have h0 : 0 ≤ (n : Int) := by omega
  go_enter Tryz.func17, Tryz.ntmps17
  go_wp2_with fail
  refine HH1.out.mono ?_
  rintro e w' ⟨rfl, rfl⟩
  go_wp2_with fail
  refine HH2.out.mono ?_
  rintro e w' ⟨rfl, rfl⟩
  go_wp2
  go_ret2
  exact ⟨rfl, rfl⟩
theorem int_neg {w : World} (n : Nat) (h1 : 0 < n) (h2 : n ≤ 1000000000) :
    Calls Tryz.prog 17 #[.int .i64 (-(n : Int))] w fun e w' => e = .returned (.tuple #[.int .i64 (-(n : Int) * 10000), .bool true]) ∧ w = w' := by
  have HH1 := Lib.hid (mul64_small (w := w) n h2)
  have hm := made_yes (w := w) true (n * 10000) (by unfold mostN; omega)
  rw [show ((n * 10000 : Nat) : Int) = (n : Int) * 10000 by omega, if_pos rfl] at hm
  have HH2 := Lib.hid hm
  clear hm
  have h0 : 0 < (n : Int) := by omega
  have hw : IntKind.u64.wrap (-IntKind.u64.wrap (-(n : Int))) = (n : Int) := by rw [IntKind.wrap_u64, IntKind.wrap_u64]; omega
  have h0' : -(n : Int) < 0 := by omega
  have h3 : (n : Int) ≤ 1000000000 := by omega
  go_enter Tryz.func17, Tryz.ntmps17
  go_wp2_with fail
  refine HH1.out.mono ?_
  rintro e w' ⟨rfl, rfl⟩
  go_wp2_with fail
  refine HH2.out.mono ?_
  rintro e w' ⟨rfl, rfl⟩
  go_wp2
  go_ret2
  exact ⟨by rw [Int.neg_mul]; rfl, rfl⟩
theorem int_any {w : World} (n : Int) (h1 : -1000000000 ≤ n) (h2 : n ≤ 1000000000) :
    Calls Tryz.prog 17 #[.int .i64 n] w fun e w' => e = .returned (.tuple #[.int .i64 (n * 10000), .bool true]) ∧ w = w' := by
  by_cases h : n < 0
  · have := int_neg (w := w) n.natAbs (by omega) (by omega)
    rwa [show -((n.natAbs : Nat) : Int) = n by omega] at this
  · have := int_pos (w := w) n.natAbs (by omega)
    rwa [show ((n.natAbs : Nat) : Int) = n by omega] at this
end Go.Proofs.YteelmbpmmobpjaaGreatDoor
