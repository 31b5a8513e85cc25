/-
  Layer deci: a number's text, and what is read of it (plain).
-/
import Derived.Test.YteelmbpmmobpjaaGreatDoorTxtA
namespace Go.Proofs.YteelmbpmmobpjaaGreatDoor
open Go.RowKit
open UK (str BytesAt nth Only Row Box)
namespace DE
/-- a digit -/
def Dig (b : UInt8) : Prop := 48 ≤ b.toNat ∧ b.toNat ≤ 57
theorem dig_of (k : Nat) (h : k < 10) : (UInt8.ofNat (48 + k)).toNat = 48 + k := by
  rw [UInt8.toNat_ofNat']
  omega
theorem decDigits_dig : ∀ (u : Nat), ∀ b ∈ Lib.decDigits u, Dig b := by
  intro u
  induction u using Nat.strongRecOn with
  | _ u ih =>
    intro b hb
    rw [Lib.decDigits] at hb
    split at hb
    · rename_i h
      rw [List.mem_singleton.1 hb]
      unfold Dig
      rw [dig_of u h]
      omega
    · rename_i h
      rcases List.mem_append.1 hb with hb | hb
      · exact ih (u / 10) (by omega) b hb
      · rw [List.mem_singleton.1 hb]
        unfold Dig
        rw [dig_of (u % 10) (by omega)]
        omega
theorem decDigits_ne (u : Nat) : Lib.decDigits u ≠ [] := by
  rw [Lib.decDigits]
  split <;> simp
theorem digs_one (n : Nat) (k : Nat) (h : k < 10) (hn : n ≤ 99999999999999999) (r : List UInt8) : digs n (UInt8.ofNat (48 + k) :: r) = digs (10 * n + k) r := by
  rw [digs, dig_of k h, if_pos ⟨by omega, by omega, hn⟩]
  congr 1
  omega
theorem digs_dec : ∀ (u : Nat), u ≤ 999999999999999999 → digs 0 (Lib.decDigits u) = some u := by
  intro u
  induction u using Nat.strongRecOn with
  | _ u ih =>
    intro hu
    rw [Lib.decDigits]
    split
    · rename_i h
      rw [digs_one 0 u h (by omega)]
      simp [digs]
    · rename_i h
      rw [digs_app, ih (u / 10) (by omega) (by omega)]
      show digs (u / 10) [_] = _
      rw [digs_one (u / 10) (u % 10) (by omega) (by omega)]
      simp only [digs]
      congr 1
      omega
/-- the four places -/
def four (p : Nat) : List UInt8 := [UInt8.ofNat (48 + p / 1000), UInt8.ofNat (48 + p / 100 % 10), UInt8.ofNat (48 + p / 10 % 10), UInt8.ofNat (48 + p % 10)]
theorem dec_four (p : Nat) (h : p < 10000) : Lib.decDigits (10000 + p) = 49 :: four p := by
  rw [Lib.decDigits, dif_neg (by omega), Lib.decDigits, dif_neg (by omega), Lib.decDigits, dif_neg (by omega), Lib.decDigits, dif_neg (by omega), Lib.decDigits, dif_pos (by omega)]
  have e1 : (10000 + p) / 10 / 10 / 10 / 10 = 1 := by omega
  have e2 : (10000 + p) / 10 / 10 / 10 % 10 = p / 1000 := by omega
  have e3 : (10000 + p) / 10 / 10 % 10 = p / 100 % 10 := by omega
  have e4 : (10000 + p) / 10 % 10 = p / 10 % 10 := by omega
  have e5 : (10000 + p) % 10 = p % 10 := by omega
  rw [e1, e2, e3, e4, e5]
  rfl
theorem digs_four (n p : Nat) (hp : p < 10000) (hn : n ≤ 99999999999999) : digs n (four p) = some (n * 10000 + p) := by
  unfold four
  rw [digs_one _ _ (by omega) (by omega), digs_one _ _ (by omega) (by omega), digs_one _ _ (by omega) (by omega), digs_one _ _ (by omega) (by omega)]
  simp only [digs]
  congr 1
  omega
theorem trimR_pad (l : List UInt8) (c : UInt8) : Lib.trimRightB l c ++ List.replicate (l.length - (Lib.trimRightB l c).length) c = l := by
  have h : ∀ m : List UInt8, List.replicate (m.length - (m.dropWhile (· == c)).length) c ++ m.dropWhile (· == c) = m := by
    intro m
    induction m with
    | nil => rfl
    | cons x r ih =>
      rw [List.dropWhile_cons]
      by_cases hx : (x == c) = true
      · rw [if_pos hx]
        have hle : (r.dropWhile (· == c)).length ≤ r.length := (List.dropWhile_suffix _).length_le
        rw [List.length_cons, show r.length + 1 - (r.dropWhile (· == c)).length = (r.length - (r.dropWhile (· == c)).length) + 1 by omega, List.replicate_succ, List.cons_append, ih]
        rw [show x = c by simpa using hx]
      · rw [if_neg hx, Nat.sub_self]
        rfl
  have := congrArg List.reverse (h l.reverse)
  rw [List.reverse_append, List.reverse_reverse, List.reverse_replicate] at this
  unfold Lib.trimRightB
  rw [List.length_reverse]
  rwa [List.length_reverse] at this
/-- the places behind the point -/
def part (p : Nat) : List UInt8 := Lib.trimRightB (four p) 48
def bodyT (n : Nat) : List UInt8 := Lib.decDigits (n / 10000) ++ if n % 10000 = 0 then [] else 46 :: part (n % 10000)
def textL (a : Int) : List UInt8 := if a < 0 then 45 :: bodyT a.natAbs else bodyT a.natAbs
theorem part_pad (p : Nat) : part p ++ padS (part p) = four p := by
  unfold part padS
  have := trimR_pad (four p) 48
  rwa [show (four p).length = 4 from rfl] at this
theorem part_len (p : Nat) : (part p).length ≤ 4 := by
  have := congrArg List.length (part_pad p)
  rw [List.length_append, show (four p).length = 4 from rfl] at this
  omega
theorem part_ne (p : Nat) (hp : p < 10000) (h0 : p ≠ 0) : part p ≠ [] := by
  intro h
  have h1 := part_pad p
  rw [h] at h1
  have h2 := digs_four 0 p hp (by omega)
  rw [← h1] at h2
  have h3 : digs 0 ([] ++ padS []) = some 0 := by decide
  rw [h3] at h2
  simp at h2
  omega
theorem part_dig (p : Nat) (hp : p < 10000) : ∀ b ∈ part p, Dig b := by
  intro b hb
  have h1 : b ∈ four p := by rw [← part_pad p]; exact List.mem_append_left _ hb
  have h2 : b ∈ Lib.decDigits (10000 + p) := by rw [dec_four p hp]; exact List.mem_cons_of_mem _ h1
  exact decDigits_dig _ b h2
theorem head_dot (l t : List UInt8) (hl : ∀ b ∈ l, Dig b) : headS (l ++ 46 :: t) = l ∧ tailS (l ++ 46 :: t) = t ∧ dotS (l ++ 46 :: t) = true := by
  refine ⟨?_, ?_, ?_⟩
  · unfold headS
    rw [List.takeWhile_append_of_pos (fun b hb => by have := hl b hb; unfold Dig at this; simp; intro e; rw [e] at this; simp at this)]
    simp
  · unfold tailS
    rw [List.dropWhile_append_of_pos (fun b hb => by have := hl b hb; unfold Dig at this; simp; intro e; rw [e] at this; simp at this)]
    simp
  · unfold dotS; simp
theorem head_plain (l : List UInt8) (hl : ∀ b ∈ l, Dig b) : headS l = l ∧ tailS l = [] ∧ dotS l = false := by
  have h : dotS l = false := by
    unfold dotS
    rw [← Bool.not_eq_true, List.contains_iff_mem]
    intro hm
    have := hl _ hm
    unfold Dig at this
    simp at this
  obtain ⟨_, h2, h3⟩ := index_no l h
  exact ⟨h2, h3, h⟩
theorem bodyN_text (n : Nat) (hn : n ≤ 999999999999999999) : bodyN (bodyT n) = some n := by
  have hd := decDigits_dig (n / 10000)
  have hne := decDigits_ne (n / 10000)
  have hw := digs_dec (n / 10000) (by omega)
  unfold bodyN bodyT
  by_cases h0 : n % 10000 = 0
  · rw [if_pos h0, List.append_nil]
    obtain ⟨h1, h2, h3⟩ := head_plain _ hd
    unfold badS numS
    rw [h1, h2, h3]
    have he : (Lib.decDigits (n / 10000)).isEmpty = false := by simpa using hne
    rw [he]
    simp only [Bool.false_or, Bool.false_and, Bool.false_eq_true, if_false, List.append_nil]
    rw [digs_app, hw]
    show digs (n / 10000) (padS []) = some n
    rw [show padS [] = four 0 by decide, digs_four _ 0 (by omega) (by omega)]
    congr 1
    omega
  · rw [if_neg h0]
    obtain ⟨h1, h2, h3⟩ := head_dot _ (part (n % 10000)) hd
    unfold badS numS
    rw [h1, h2, h3]
    have he : (Lib.decDigits (n / 10000)).isEmpty = false := by simpa using hne
    have hp : (part (n % 10000)).isEmpty = false := by simpa using part_ne _ (Nat.mod_lt _ (by decide)) h0
    have hl : decide (4 < (part (n % 10000)).length) = false := by have := part_len (n % 10000); simp; omega
    rw [he, hp, hl]
    simp only [Bool.false_or, Bool.and_false, Bool.false_eq_true, if_false]
    rw [List.append_assoc, part_pad, digs_app, hw]
    show digs (n / 10000) (four (n % 10000)) = some n
    rw [digs_four _ _ (Nat.mod_lt _ (by decide)) (by omega)]
    congr 1
    omega
theorem bodyT_first (n : Nat) : ∃ b r, bodyT n = b :: r ∧ Dig b := by
  unfold bodyT
  cases h : Lib.decDigits (n / 10000) with
  | nil => exact absurd h (decDigits_ne _)
  | cons b r => exact ⟨b, _, rfl, decDigits_dig (n / 10000) b (by rw [h]; simp)⟩
theorem parse_text (a : Int) (ha : Good a) : parseO (textL a) = some a := by
  obtain ⟨a1, a2⟩ := ha
  obtain ⟨b, r, hb, hd⟩ := bodyT_first a.natAbs
  have hB := bodyN_text a.natAbs (by omega)
  unfold parseO textL
  by_cases h : a < 0
  · rw [if_pos h]
    have h1 : Lib.hasPrefix (45 :: bodyT a.natAbs) [45] = true := by simp [Lib.hasPrefix]
    have h2 : Lib.trimPrefix (45 :: bodyT a.natAbs) [45] = bodyT a.natAbs := by simp [Lib.trimPrefix, Lib.hasPrefix]
    rw [h1, h2, hB]
    simp
    omega
  · rw [if_neg h]
    have h1 : Lib.hasPrefix (bodyT a.natAbs) [45] = false := by
      rw [hb]
      have h45 : ((45 : UInt8) == b) = false := by
        unfold Dig at hd
        simp
        intro e
        rw [← e] at hd
        simp at hd
      simp [Lib.hasPrefix, List.isPrefixOf, h45]
    have h2 : Lib.trimPrefix (bodyT a.natAbs) [45] = bodyT a.natAbs := by simp [Lib.trimPrefix, h1]
    rw [h1, h2, hB]
    simp
    omega
end DE
end Go.Proofs.YteelmbpmmobpjaaGreatDoor
