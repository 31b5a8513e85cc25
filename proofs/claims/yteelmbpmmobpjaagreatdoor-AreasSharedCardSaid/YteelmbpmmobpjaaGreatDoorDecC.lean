/-
  Layer deci: a text as a number.
-/
import Derived.Test.YteelmbpmmobpjaaGreatDoorDecB
import Derived.Test.YteelmbpmmobpjaaGreatDoorUMem
import Derived.IntWalk
import Derived.OwnWalk
namespace Go.Proofs.YteelmbpmmobpjaaGreatDoor
open Go.RowKit
open UK (str BytesAt nth Only)
open DE (mostN goodB madeN fitsN)
namespace DE
/-- ahead of the first full stop, behind it, is there one? -/
def headS (l : List UInt8) : List UInt8 := l.takeWhile (fun b => !(b == 46))
def tailS (l : List UInt8) : List UInt8 := (l.dropWhile (fun b => !(b == 46))).drop 1
def dotS (l : List UInt8) : Bool := l.contains 46
theorem index_no : ∀ l : List UInt8, dotS l = false → Lib.indexByte l 46 = -1 ∧ headS l = l ∧ tailS l = [] := by
  intro l
  induction l with
  | nil => intro _; exact ⟨rfl, rfl, rfl⟩
  | cons b l ih =>
    intro h
    have h1 : (b == (46 : UInt8)) = false := by
      cases hb : (b == (46 : UInt8)) with
      | false => rfl
      | true =>
        rw [beq_iff_eq.1 hb] at h
        simp [dotS] at h
    have h2 : dotS l = false := by
      simp only [dotS, List.contains_cons, Bool.or_eq_false_iff] at h ⊢
      exact h.2
    obtain ⟨i1, i2, i3⟩ := ih h2
    refine ⟨?_, ?_, ?_⟩
    · simp only [Lib.indexByte, h1, i1]; rfl
    · show List.takeWhile _ (b :: l) = _
      rw [List.takeWhile_cons, h1]
      show b :: headS l = _
      rw [i2]
    · show (List.dropWhile _ (b :: l)).drop 1 = _
      rw [List.dropWhile_cons, h1]
      exact i3
theorem index_yes : ∀ l : List UInt8, dotS l = true → ∃ k : Nat, Lib.indexByte l 46 = (k : Int) ∧ k < l.length ∧ headS l = l.take k ∧ tailS l = l.drop (k + 1) := by
  intro l
  induction l with
  | nil => intro h; simp [dotS] at h
  | cons b l ih =>
    intro h
    cases h1 : (b == (46 : UInt8)) with
    | true =>
      refine ⟨0, ?_, by simp, ?_, ?_⟩
      · simp only [Lib.indexByte, h1]; rfl
      · show List.takeWhile _ (b :: l) = _
        rw [List.takeWhile_cons, h1]; rfl
      · show (List.dropWhile _ (b :: l)).drop 1 = _
        rw [List.dropWhile_cons, h1]; rfl
    | false =>
      have h2 : dotS l = true := by
        simp only [dotS, List.contains_cons, Bool.or_eq_true] at h ⊢
        rcases h with h | h
        · rw [← beq_iff_eq.1 h] at h1; simp at h1
        · exact h
      obtain ⟨k, i1, i2, i3, i4⟩ := ih h2
      refine ⟨k + 1, ?_, by simp; omega, ?_, ?_⟩
      · simp only [Lib.indexByte, h1, i1]
        have : (((k : Int)) == -1) = false := by simp
        rw [this]
        simp
      · show List.takeWhile _ (b :: l) = _
        rw [List.takeWhile_cons, h1]
        show b :: headS l = _
        rw [i3]; rfl
      · show (List.dropWhile _ (b :: l)).drop 1 = _
        rw [List.dropWhile_cons, h1]
        exact i4
/-- the number of digits, out of n ahead of them -/
def digs (n : Nat) : List UInt8 → Option Nat
  | [] => some n
  | c :: r => if 48 ≤ c.toNat ∧ c.toNat ≤ 57 ∧ n ≤ 99999999999999999 then digs (10 * n + (c.toNat - 48)) r else none
theorem digs_le : ∀ (l : List UInt8) (n m : Nat), n ≤ mostN → digs n l = some m → m ≤ mostN := by
  intro l
  induction l with
  | nil => intro n m hn h; simp [digs] at h; omega
  | cons c r ih =>
    intro n m hn h
    unfold digs at h
    split at h
    · rename_i hc
      exact ih _ _ (by unfold mostN; omega) h
    · cases h
theorem digs_app : ∀ (a b : List UInt8) (n : Nat), digs n (a ++ b) = (digs n a).bind fun m => digs m b := by
  intro a
  induction a with
  | nil => intro b n; rfl
  | cons c r ih =>
    intro b n
    simp only [List.cons_append, digs]
    split
    · exact ih b _
    · rfl
def padS (l : List UInt8) : List UInt8 := List.replicate (4 - l.length) 48
def numS (l : List UInt8) : List UInt8 := headS l ++ tailS l ++ padS (tailS l)
def badS (l : List UInt8) : Bool := (headS l).isEmpty || (dotS l && ((tailS l).isEmpty || decide (4 < (tailS l).length)))
/-- a body of digits as a number -/
def bodyN (l : List UInt8) : Option Nat := if badS l then none else digs 0 (numS l)
def parseO (s : List UInt8) : Option Int := (bodyN (Lib.trimPrefix s [45])).map fun n => if Lib.hasPrefix s [45] then -(n : Int) else n
def parseN (s : List UInt8) : Int := (parseO s).getD 0
def parseB (s : List UInt8) : Bool := (parseO s).isSome
theorem bodyN_le {l : List UInt8} {n : Nat} (h : bodyN l = some n) : n ≤ mostN := by
  unfold bodyN at h
  split at h
  · cases h
  · exact digs_le _ _ _ (by unfold mostN; omega) h
theorem parseN_good (s : List UInt8) : Good (parseN s) := by
  unfold parseN parseO
  cases h : bodyN (Lib.trimPrefix s [45]) with
  | none => show Good 0; unfold Good; omega
  | some n =>
    have := bodyN_le h
    unfold mostN at this
    show Good (if Lib.hasPrefix s [45] = true then -(n : Int) else n)
    unfold Good
    split <;> omega
end DE
theorem prefix_any {w : World} (s p : List UInt8) :
    Calls Tryz.prog 86 #[.string (str s), .string (str p)] w fun e w' => e = .returned (.tuple #[.string (str (Lib.trimPrefix s p)), .bool (Lib.hasPrefix s p)]) ∧ w = w' := by
  refine (Tryz.strings_CutPrefix (str s) (str p) w).mono ?_
  rintro e w' ⟨rfl, rfl⟩
  exact ⟨by simp only [UK.str_data]; rfl, rfl⟩
theorem index_any {w : World} (s : List UInt8) :
    Calls Tryz.prog 130 #[.string (str s), .string (str [46])] w fun e w' => e = .returned (.int .i64 (Lib.indexByte s 46)) ∧ w = w' := by
  refine (Tryz.stringslite_Index_one (str s) 46 w).mono ?_
  rintro e w' ⟨rfl, rfl⟩
  exact ⟨by simp only [UK.str_data], rfl⟩
theorem cut0_any {w : World} (s : List UInt8) (hs : s.length ≤ 100000) :
    Calls Tryz.prog 109 #[.string (str s), .string (str [46])] w fun e w' => e = .returned (.tuple #[.string (str (DE.headS s)), .string (str (DE.tailS s)), .bool (DE.dotS s)]) ∧ Below w.heap.size w w' := by
  have HI := Lib.hid (index_any (w := w) s)
  cases hd : DE.dotS s with
  | false =>
    obtain ⟨i1, i2, i3⟩ := DE.index_no s hd
    rw [i1] at HI
    rw [i2, i3]
    clear i1 i2 i3 hd
    go_enter Tryz.func109, Tryz.ntmps109
    go_wp2_with fail
    refine HI.out.mono ?_
    rintro e w' ⟨rfl, rfl⟩
    go_wp2
    go_ret3
    exact ⟨rfl, Below.refl _ _⟩
  | true =>
    obtain ⟨k, i1, i2, i3, i4⟩ := DE.index_yes s hd
    rw [i1] at HI
    have hk : (k : Int) + 1 ≤ 100001 := by omega
    have hk2 : k < s.length := i2
    have HR := Lib.hid (And.intro i3 i4)
    clear i1 i3 i4 hd
    go_enter Tryz.func109, Tryz.ntmps109
    go_wp2_with fail
    refine HI.out.mono ?_
    rintro e w' ⟨rfl, rfl⟩
    have hw1 : IntKind.i64.wrap ((k : Int) + 1) = (k : Int) + 1 := IntWalk.i64_in _ (by omega)
    have hw2 : 0 ≤ (k : Int) + 1 := by omega
    have hw3 : ((k : Int) + 1).toNat = k + 1 := by omega
    have hl0 : k ≤ s.length := by omega
    have hl1 : k + 1 ≤ s.length := by omega
    have hl2 : (k : Int) ≤ s.length := by omega
    have hl3 : (k : Int) + 1 ≤ s.length := by omega
    go_wp2
    go_region
    go_wp2
    go_ret3
    exact ⟨by rw [HR.out.1, HR.out.2]; rfl, UK.belowN (Below.refl _ _) 1⟩
theorem cut_any {w : World} (s : List UInt8) (hs : s.length ≤ 100000) :
    Calls Tryz.prog 87 #[.string (str s), .string (str [46])] w fun e w' => e = .returned (.tuple #[.string (str (DE.headS s)), .string (str (DE.tailS s)), .bool (DE.dotS s)]) ∧ Below w.heap.size w w' := by
  have HI := Lib.hid (cut0_any (w := w) s hs)
  go_enter Tryz.func87, Tryz.ntmps87
  go_wp2_with fail
  refine HI.out.mono ?_
  rintro e w' ⟨rfl, hb⟩
  go_wp2
  go_ret3
  exact ⟨rfl, hb⟩
/-- without blanks at both ends -/
def DE.trimN (s : List UInt8) : List UInt8 := Lib.trimB s 32
theorem DE.trimN_le (s : List UInt8) : (DE.trimN s).length ≤ s.length := by
  unfold DE.trimN Lib.trimB Lib.trimLeftB Lib.trimRightB
  refine Nat.le_trans (List.IsSuffix.length_le (List.dropWhile_suffix _)) ?_
  rw [List.length_reverse]
  refine Nat.le_trans (List.IsSuffix.length_le (List.dropWhile_suffix _)) ?_
  rw [List.length_reverse]
  exact Nat.le_refl _
theorem trim_any {w : World} (s : List UInt8) (hs : s.length ≤ 100000) :
    Calls Tryz.prog 56 #[.string (str s)] w fun e w' => e = .returned (.string (str (DE.trimN s))) ∧ Below w.heap.size w w' := by
  have h1 := Tryz.strings_Trim_one (str s) 32 (by decide) w (by rw [UK.str_size]; omega)
  rw [UK.str_data] at h1
  have HI := Lib.hid h1
  clear h1
  go_enter Tryz.func56, Tryz.ntmps56
  go_wp2_with fail
  refine HI.out.mono ?_
  rintro e w' ⟨rfl, hb⟩
  have hb' : Below w.heap.size w w' := by
    rcases hb with rfl | rfl
    · exact Below.refl _ _
    · exact UK.belowN (Below.refl _ _) 1
  clear hb
  go_wp2
  go_ret
  exact ⟨rfl, hb'⟩
end Go.Proofs.YteelmbpmmobpjaaGreatDoor
