/-
  A disk's bytes opened, in plain words.
-/
import Derived.Test.YtamnhpijeiigcaaDoorDiskQ
namespace Go.Proofs.YtamnhpijeiigcaaDoor
open Go.RowKit
open UK (str BytesAt nth Only w32 Row)
/-- how the first page's owner bytes begin -/
def magicL : List UInt8 := [84, 65, 66, 85, 76, 65, 82, 49]
/-- the word that a free page has first -/
def linkL (x : List UInt8) (q : Nat) : List UInt8 := (loadL x q).take 4
def wordN (s : List UInt8) : Nat := (getL s).toNat
/-- the free pages from one on: an error's number, or those that came ahead and all that follow -/
def chain (x : List UInt8) (n : Nat) : Nat → List Nat → List UInt8 → Int × List Nat
  | 0, l, _ => (0, l)
  | k + 1, l, p => if p = putL (w32 4294967295) then (0, l) else if wordN p < 1 ∨ n ≤ wordN p ∨ wordN p ∈ l then (3, []) else if okB x (wordN p) = false then (8, []) else chain x n k (l ++ [wordN p]) (linkL x (wordN p))
def flagsL (n : Nat) (l : List Nat) : List Bool := (List.range n).map fun p => decide (p ∈ l)
theorem flagsL_length (n : Nat) (l : List Nat) : (flagsL n l).length = n := by simp [flagsL]
theorem flagsL_get (n : Nat) (l : List Nat) (p : Nat) (h : p < n) : (flagsL n l).getD p false = decide (p ∈ l) := by
  rw [List.getD_eq_getElem?_getD, List.getElem?_eq_getElem (by rw [flagsL_length]; exact h)]
  simp [flagsL]
theorem flagsL_nil (n : Nat) : flagsL n [] = List.replicate n false := by
  refine List.ext_getElem (by simp [flagsL]) (fun i h1 h2 => ?_)
  simp [flagsL]
theorem flagsL_set (n : Nat) (l : List Nat) (p : Nat) : (flagsL n l).set p true = flagsL n (l ++ [p]) := by
  refine List.ext_getElem (by simp [flagsL]) (fun i h1 h2 => ?_)
  rw [List.getElem_set]
  by_cases e : p = i
  · subst e; simp [flagsL]
  · rw [if_neg e]
    simp only [flagsL, List.getElem_map, List.getElem_range]
    refine decide_eq_decide.2 ⟨fun h => List.mem_append_left _ h, fun h => ?_⟩
    rcases List.mem_append.1 h with h | h
    · exact h
    · exact absurd (List.mem_singleton.1 h).symm e
/-- what bytes come to: an error's number, the free pages (the last one goes first, turned round) -/
def openR (s : List UInt8) (pages : Int) : Int × List Nat :=
  if s.length / 512 < 1 ∨ s.length % 512 ≠ 0 ∨ clampD pages < (s.length / 512 : Nat) then (3, [])
  else if okB s 0 = false then (8, [])
  else if (loadL s 0).take 8 ≠ magicL ∨ ((loadL s 0).drop 8).take 4 ≠ putL (w32 (s.length / 512)) then (3, [])
  else chain s (s.length / 512) (s.length / 512 + 1) [] (((loadL s 0).drop 12).take 4)
def openD (s : List UInt8) (pages : Int) : Dk :=
  { x := s, most := clampD pages, free := (openR s pages).2.reverse, isf := flagsL (s.length / 512) (openR s pages).2, rl := -1, wl := -1, reads := 0, puts := 0 }
/-- pages on the way -/
structure OnWay (n : Nat) (l : List Nat) : Prop where
  nodup : l.Nodup
  lt : ∀ p, p ∈ l → 1 ≤ p ∧ p < n
theorem OnWay.nil (n : Nat) : OnWay n [] := ⟨List.nodup_nil, fun p h => by cases h⟩
theorem OnWay.snoc {n : Nat} {l : List Nat} (h : OnWay n l) {p : Nat} (h1 : 1 ≤ p) (h2 : p < n) (h3 : p ∉ l) : OnWay n (l ++ [p]) :=
  ⟨List.nodup_append.2 ⟨h.nodup, List.pairwise_singleton _ _, fun a ha b hb => by rw [List.mem_singleton.1 hb]; exact fun e => h3 (e ▸ ha)⟩, fun q hq => by
    rcases List.mem_append.1 hq with hq | hq
    · exact h.lt q hq
    · rw [List.mem_singleton.1 hq]; exact ⟨h1, h2⟩⟩
theorem OnWay.few {n : Nat} {l : List Nat} (h : OnWay n l) (hn : 1 ≤ n) : l.length + 1 ≤ n := by
  have := nodup_le n (0 :: l) (List.nodup_cons.2 ⟨fun h0 => by have := (h.lt 0 h0).1; omega, h.nodup⟩) (fun x hx => by
    rcases List.mem_cons.1 hx with rfl | hx
    · omega
    · exact (h.lt x hx).2)
  simpa using this
theorem chain_onway (x : List UInt8) (n : Nat) : ∀ (k : Nat) (l : List Nat) (p : List UInt8), OnWay n l → OnWay n (chain x n k l p).2
  | 0, l, p, h => h
  | k + 1, l, p, h => by
    unfold chain
    split
    · exact h
    · split
      · exact OnWay.nil n
      · rename_i hh
        split
        · exact OnWay.nil n
        · exact chain_onway x n k _ _ (h.snoc (by omega) (by omega) (fun hm => hh (.inr (.inr hm))))
theorem openR_onway (s : List UInt8) (pages : Int) : OnWay (s.length / 512) (openR s pages).2 := by
  unfold openR
  split
  · exact OnWay.nil _
  · split
    · exact OnWay.nil _
    · split
      · exact OnWay.nil _
      · exact chain_onway _ _ _ _ _ (OnWay.nil _)
/-- one page more on the way -/
theorem chain_step (x : List UInt8) (n k : Nat) (l : List Nat) (p : List UInt8) (hk : l.length < k) (h0 : p ≠ putL (w32 4294967295)) (h1 : 1 ≤ wordN p) (h2 : wordN p < n) (h3 : wordN p ∉ l) (h4 : okB x (wordN p) = true) :
    chain x n (k - l.length) l p = chain x n (k - (l ++ [wordN p]).length) (l ++ [wordN p]) (linkL x (wordN p)) := by
  obtain ⟨m, hm⟩ : ∃ m, k - l.length = m + 1 := ⟨k - l.length - 1, by omega⟩
  rw [hm]
  conv => lhs; unfold chain
  rw [if_neg h0, if_neg (by rintro (a | a | a); omega; omega; exact h3 a), h4, if_neg (by simp)]
  rw [show k - (l ++ [wordN p]).length = m by rw [List.length_append, List.length_singleton]; omega]
theorem chain_end (x : List UInt8) (n k : Nat) (l : List Nat) (p : List UInt8) (hk : l.length < k) (h0 : p = putL (w32 4294967295)) : chain x n (k - l.length) l p = (0, l) := by
  obtain ⟨m, hm⟩ : ∃ m, k - l.length = m + 1 := ⟨k - l.length - 1, by omega⟩
  rw [hm]
  unfold chain
  rw [if_pos h0]
theorem chain_form (x : List UInt8) (n k : Nat) (l : List Nat) (p : List UInt8) (hk : l.length < k) (h0 : p ≠ putL (w32 4294967295)) (h1 : wordN p < 1 ∨ n ≤ wordN p ∨ wordN p ∈ l) : chain x n (k - l.length) l p = (3, []) := by
  obtain ⟨m, hm⟩ : ∃ m, k - l.length = m + 1 := ⟨k - l.length - 1, by omega⟩
  rw [hm]
  unfold chain
  rw [if_neg h0, if_pos h1]
theorem chain_spoil (x : List UInt8) (n k : Nat) (l : List Nat) (p : List UInt8) (hk : l.length < k) (h0 : p ≠ putL (w32 4294967295)) (h1 : 1 ≤ wordN p) (h2 : wordN p < n) (h3 : wordN p ∉ l) (h4 : okB x (wordN p) = false) : chain x n (k - l.length) l p = (8, []) := by
  obtain ⟨m, hm⟩ : ∃ m, k - l.length = m + 1 := ⟨k - l.length - 1, by omega⟩
  rw [hm]
  unfold chain
  rw [if_neg h0, if_neg (by rintro (a | a | a); omega; omega; exact h3 a), if_pos h4]
theorem fit_open (s : List UInt8) (pages : Int) (l : List Nat) (h1 : 1 ≤ s.length / 512) (h2 : s.length % 512 = 0) (h3 : ((s.length / 512 : Nat) : Int) ≤ clampD pages) (ho : OnWay (s.length / 512) l) (fl : List Nat) (hf : fl.length ≤ l.length) (hm : ∀ p, p ∈ fl → p ∈ l) :
    Fit { x := s, most := clampD pages, free := fl, isf := flagsL (s.length / 512) l, rl := -1, wl := -1, reads := 0, puts := 0 } (s.length / 512) := by
  have hc : 2 ≤ clampD pages ∧ clampD pages ≤ 60000 := by unfold clampD; omega
  have hfew := ho.few h1
  exact ⟨by show s.length = _; omega, flagsL_length _ _, h1, by omega, ⟨hc.1, hc.2, h3⟩, fun p hp => ho.lt p (hm p hp), by show fl.length ≤ _; omega, by show (-1 : Int) ≤ -1 ∧ (-1 : Int) ≤ _; omega, by show (-1 : Int) ≤ -1 ∧ (-1 : Int) ≤ _; omega, by show (0 : Int) ≤ 0 ∧ (0 : Int) < _; omega, by show (0 : Int) ≤ 0 ∧ (0 : Int) < _; omega⟩
end Go.Proofs.YtamnhpijeiigcaaDoor
