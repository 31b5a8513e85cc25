/-
  Pages of a disk's bytes, plain: what is laid is read; what is laid elsewhere doesn't show; what is spoilt isn't read.
  A disk's bytes opened, in plain words.
  A disk without faults, and its bytes behind Flush, in plain words.
-/
import Derived.Test.YtjfkdfffolkblaaDoorDiskX
namespace Go.Proofs.YtjfkdfffolkblaaDoor
open UK (nth w32)
/-- the bytes of a page -/
def pgOf (x : List UInt8) (p : Nat) : List UInt8 := (x.drop (512 * p)).take 512
def okP (g : List UInt8) (p : Nat) : Bool := decide (getL (g.take 4) = addU 0 (g.drop 4)) && decide (((getL ((g.drop 4).take 4)).toNat : Int) = p)
theorem pgOf_length {x : List UInt8} {p : Nat} (h : 512 * (p + 1) ≤ x.length) : (pgOf x p).length = 512 := by
  unfold pgOf
  rw [List.length_take, List.length_drop]; omega
theorem okB_pg (x : List UInt8) (p : Nat) : okB x p = okP (pgOf x p) p := by
  unfold okB okP pgOf
  rw [List.take_take, List.drop_take, List.take_take, List.drop_drop]
  rfl
theorem loadL_pg (x : List UInt8) (p : Nat) : loadL x p = (pgOf x p).drop 8 := by
  unfold loadL pgOf
  rw [List.drop_take, List.drop_drop]
theorem nth_take (l : List UInt8) (n i : Nat) (h : i < n) : nth (l.take n) i = nth l i := by
  unfold nth
  rw [List.getD_eq_getElem?_getD, List.getD_eq_getElem?_getD, List.getElem?_take_of_lt h]
theorem nth_drop (l : List UInt8) (n i : Nat) : nth (l.drop n) i = nth l (n + i) := by
  unfold nth
  rw [List.getD_eq_getElem?_getD, List.getD_eq_getElem?_getD, List.getElem?_drop]
theorem ext_nth {l m : List UInt8} (hl : l.length = m.length) (h : ∀ i, i < l.length → nth l i = nth m i) : l = m := by
  refine List.ext_getElem? (fun i => ?_)
  by_cases hi : i < l.length
  · have := h i hi
    unfold nth at this
    rw [List.getD_eq_getElem?_getD, List.getD_eq_getElem?_getD, List.getElem?_eq_getElem hi, List.getElem?_eq_getElem (by omega)] at this
    rw [List.getElem?_eq_getElem hi, List.getElem?_eq_getElem (by omega)]
    exact congrArg some this
  · rw [List.getElem?_eq_none (by omega), List.getElem?_eq_none (by omega)]
theorem nth_set (l : List UInt8) (k i : Nat) (v : UInt8) (hk : k < l.length) : nth (l.set k v) i = if k = i then v else nth l i := by
  unfold nth
  rw [List.getD_eq_getElem?_getD, List.getD_eq_getElem?_getD, List.getElem?_set]
  by_cases h : k = i
  · subst h; rw [if_pos rfl, if_pos rfl, if_pos hk]; rfl
  · rw [if_neg h, if_neg h]
theorem nth_wr (x : List UInt8) (a : Nat) (s : List UInt8) (i : Nat) (h : a + s.length ≤ x.length) : nth (UK.wr x a s) i = if a ≤ i ∧ i < a + s.length then nth s (i - a) else nth x i := by
  unfold UK.wr nth
  have h1 : (x.take a).length = a := by rw [List.length_take]; omega
  rw [List.getD_eq_getElem?_getD, List.getD_eq_getElem?_getD, List.getD_eq_getElem?_getD, List.getElem?_append, List.getElem?_append, h1, List.getElem?_drop]
  by_cases h2 : i < a
  · rw [if_pos h2, if_neg (by omega), List.getElem?_take_of_lt h2]
  · rw [if_neg h2]
    by_cases h3 : i - a < s.length
    · rw [if_pos h3, if_pos (by omega)]
    · rw [if_neg h3, if_neg (by omega), show a + s.length + (i - a - s.length) = i by omega]
theorem nth_pg (x : List UInt8) (p i : Nat) (h : i < 512) : nth (pgOf x p) i = nth x (512 * p + i) := by
  unfold pgOf
  rw [nth_take _ _ _ h, nth_drop]
theorem pgOf_wr (x : List UInt8) (p q : Nat) (s : List UInt8) (hs : s.length = 512) (h : 512 * (p + 1) ≤ x.length) (hq : 512 * (q + 1) ≤ x.length) : pgOf (UK.wr x (512 * p) s) q = if p = q then s else pgOf x q := by
  have hw := UK.wr_length x (512 * p) s (by omega)
  refine ext_nth ?_ (fun i hi => ?_)
  · rw [pgOf_length (by omega)]
    split
    · exact hs.symm
    · exact (pgOf_length hq).symm
  · rw [pgOf_length (by omega)] at hi
    rw [nth_pg _ _ _ hi, nth_wr _ _ _ _ (by omega)]
    by_cases e : p = q
    · subst e
      rw [if_pos (by omega), if_pos rfl, show 512 * p + i - 512 * p = i by omega]
    · rw [if_neg (by omega), if_neg e, nth_pg _ _ _ hi]
theorem pgOf_set (x : List UInt8) (q k : Nat) (v : UInt8) (hk : k < x.length) (hq : 512 * (q + 1) ≤ x.length) : pgOf (x.set k v) q = if k / 512 = q then (pgOf x q).set (k % 512) v else pgOf x q := by
  refine ext_nth ?_ (fun i hi => ?_)
  · rw [pgOf_length (by rw [List.length_set]; exact hq)]
    split
    · rw [List.length_set, pgOf_length hq]
    · exact (pgOf_length hq).symm
  · rw [pgOf_length (by rw [List.length_set]; exact hq)] at hi
    rw [nth_pg _ _ _ hi, nth_set _ _ _ _ hk]
    by_cases e : k / 512 = q
    · rw [if_pos e, nth_set _ _ _ _ (by rw [pgOf_length hq]; omega), nth_pg _ _ _ hi]
      by_cases e2 : k = 512 * q + i
      · rw [if_pos e2, if_pos (by omega)]
      · rw [if_neg e2, if_neg (by omega)]
    · rw [if_neg e, if_neg (by omega), nth_pg _ _ _ hi]
theorem pageL_is (p : Nat) (s : List UInt8) (hs : s.length = 504) : pageL p s = putL (addU 0 (putL (w32 p) ++ s)) ++ (putL (w32 p) ++ s) := by
  unfold pageL restL
  rw [show 504 - s.length = 0 by omega]
  show putL (addU 0 (putL (w32 p) ++ (s ++ []))) ++ (putL (w32 p) ++ (s ++ [])) = _
  rw [List.append_nil]
theorem putL_take4 (c : UInt32) (l : List UInt8) : (putL c ++ l).take 4 = putL c := rfl
theorem putL_drop4 (c : UInt32) (l : List UInt8) : (putL c ++ l).drop 4 = l := rfl
theorem okP_page (p : Nat) (hp : p ≤ 60000) (s : List UInt8) : okP (pageL p s) p = true := by
  unfold okP pageL
  rw [putL_take4, putL_drop4, get_put]
  unfold restL
  rw [putL_take4, get_put]
  rw [decide_eq_true rfl, Bool.true_and, decide_eq_true_eq, ← UK.w32_is p]
  omega
theorem load_page (p : Nat) (s : List UInt8) (hs : s.length = 504) : (pageL p s).drop 8 = s := by
  rw [pageL_is p s hs]; rfl
/-- what is laid is read -/
theorem look_wr (x : List UInt8) (p : Nat) (hp : p ≤ 60000) (s : List UInt8) (hs : s.length = 504) (h : 512 * (p + 1) ≤ x.length) : lookL (UK.wr x (512 * p) (pageL p s)) p = s ∧ readE (UK.wr x (512 * p) (pageL p s)) p = 0 := by
  have e : pgOf (UK.wr x (512 * p) (pageL p s)) p = pageL p s := by rw [pgOf_wr x p p _ (pageL_length p s (by omega)) h h, if_pos rfl]
  have ok : okB (UK.wr x (512 * p) (pageL p s)) p = true := by rw [okB_pg, e]; exact okP_page p hp s
  unfold readE
  rw [lookL_yes ok, ok, loadL_pg, e, load_page p s hs]
  exact ⟨rfl, rfl⟩
/-- two texts that are others just in up to four bytes, one behind the other, have other sums -/
theorem crc_window (c : UInt32) (a m m' q : List UInt8) (hm : m.length = m'.length) (h4 : m.length ≤ 4) (h : addU c (a ++ (m ++ q)) = addU c (a ++ (m' ++ q))) : m = m' := by
  unfold addU at h
  have h0 := congrArg UK.nt h
  rw [nt_nt, nt_nt, runU_append, runU_append, runU_append, runU_append] at h0
  have h3 := run_inj_c q _ _ h0
  rw [run_word m _ h4, run_word m' _ (by omega), ← hm] at h3
  have h5 := bN_inj _ _ _ h3
  have h6 : wordOf m = wordOf m' := by
    have := congrArg (runU (UK.nt c) a ^^^ ·) h5
    simpa [← UInt32.xor_assoc] using this
  exact wordOf_inj _ _ hm h4 h6
/-- which of four bytes, from r on, are spoilt -/
def hitB (r i : Nat) : Bool := decide (r + i < 512) && (decide (r < 4) == decide (r + i < 4))
/-- a page's bytes, behind i of the four -/
def spo (g : List UInt8) (r : Nat) (turn : UInt32) : Nat → List UInt8
  | 0 => g
  | i + 1 => if hitB r i then (spo g r turn i).set (r + i) (UK.xr8 (nth (spo g r turn i) (r + i)) (UK.byteOf turn i)) else spo g r turn i
/-- is one of them another? -/
def chB (r : Nat) (turn : UInt32) : Nat → Bool
  | 0 => false
  | i + 1 => chB r turn i || (hitB r i && UK.byteOf turn i != 0)
theorem spo_length (g : List UInt8) (r : Nat) (turn : UInt32) : ∀ i, (spo g r turn i).length = g.length
  | 0 => rfl
  | i + 1 => by
    unfold spo
    split
    · rw [List.length_set]; exact spo_length g r turn i
    · exact spo_length g r turn i
theorem hit_lt {r i : Nat} (h : hitB r i = true) : r + i < 512 := by
  unfold hitB at h
  rw [Bool.and_eq_true, decide_eq_true_eq] at h
  exact h.1
theorem spo_nth (g : List UInt8) (hg : g.length = 512) (r : Nat) (turn : UInt32) : ∀ i k, nth (spo g r turn i) k = if r ≤ k ∧ k < r + i ∧ hitB r (k - r) = true then UK.xr8 (nth g k) (UK.byteOf turn (k - r)) else nth g k
  | 0, k => by rw [if_neg (by omega)]; rfl
  | i + 1, k => by
    have ih := spo_nth g hg r turn i
    unfold spo
    by_cases h : hitB r i = true
    · have hl := hit_lt h
      rw [if_pos h, nth_set _ _ _ _ (by rw [spo_length, hg]; exact hl)]
      by_cases e : r + i = k
      · subst e
        rw [if_pos rfl, ih, if_neg (by omega), show r + i - r = i by omega, if_pos ⟨by omega, by omega, h⟩]
      · rw [if_neg e, ih]
        by_cases h2 : r ≤ k ∧ k < r + i ∧ hitB r (k - r) = true
        · rw [if_pos h2, if_pos ⟨h2.1, by omega, h2.2.2⟩]
        · rw [if_neg h2, if_neg (fun h3 => h2 ⟨h3.1, by omega, h3.2.2⟩)]
    · rw [if_neg h, ih]
      by_cases h2 : r ≤ k ∧ k < r + i ∧ hitB r (k - r) = true
      · rw [if_pos h2, if_pos ⟨h2.1, by omega, h2.2.2⟩]
      · rw [if_neg h2, if_neg (fun h3 => h2 ⟨h3.1, by
          by_cases e : k = r + i
          · subst e
            rw [show r + i - r = i by omega] at h3
            exact absurd h3.2.2 h
          · omega, h3.2.2⟩)]
theorem xr8_same {a b : UInt8} (h : UK.xr8 a b = a) : b = 0 := by
  unfold UK.xr8 at h
  have := congrArg (a ^^^ ·) h
  simpa [← UInt8.xor_assoc] using this
theorem ch_no {r : Nat} {turn : UInt32} : ∀ {n}, chB r turn n = false → ∀ i, i < n → hitB r i = true → UK.byteOf turn i = 0
  | 0, _, i, hi, _ => absurd hi (Nat.not_lt_zero _)
  | n + 1, h, i, hi, hh => by
    unfold chB at h
    rw [Bool.or_eq_false_iff] at h
    by_cases e : i = n
    · subst e
      rw [hh, Bool.true_and] at h
      simpa using h.2
    · exact ch_no h.1 i (by omega) hh
theorem ch_yes {r : Nat} {turn : UInt32} : ∀ {n}, chB r turn n = true → ∃ i, i < n ∧ hitB r i = true ∧ UK.byteOf turn i ≠ 0
  | n + 1, h => by
    unfold chB at h
    rw [Bool.or_eq_true, Bool.and_eq_true] at h
    rcases h with h | h
    · obtain ⟨i, h1, h2⟩ := ch_yes h
      exact ⟨i, by omega, h2⟩
    · exact ⟨n, by omega, h.1, by simpa using h.2⟩
/-- where none is another, all is as it was -/
theorem spo_same (g : List UInt8) (hg : g.length = 512) (r : Nat) (turn : UInt32) (n : Nat) (h : chB r turn n = false) : spo g r turn n = g := by
  refine ext_nth (spo_length g r turn n) (fun k _ => ?_)
  rw [spo_nth g hg r turn n k]
  split
  · rename_i hk
    rw [ch_no h (k - r) (by omega) hk.2.2]
    unfold UK.xr8
    exact UInt8.xor_zero
  · rfl
/-- where one is another, the page isn't read -/
theorem spo_bad (p : Nat) (s : List UInt8) (hs : s.length = 504) (r : Nat) (hr : r < 512) (turn : UInt32) (h : chB r turn 4 = true) : okP (spo (pageL p s) r turn 4) p = false := by
  have hg : (pageL p s).length = 512 := pageL_length p s (by omega)
  have hl := spo_length (pageL p s) r turn 4
  have hn := spo_nth (pageL p s) hg r turn 4
  obtain ⟨i, hi, hh, hb⟩ := ch_yes h
  have hlt := hit_lt hh
  have hne : nth (spo (pageL p s) r turn 4) (r + i) ≠ nth (pageL p s) (r + i) := by
    rw [hn, if_pos ⟨by omega, by omega, by rw [show r + i - r = i by omega]; exact hh⟩, show r + i - r = i by omega]
    exact fun e => hb (xr8_same e)
  have hsum : getL ((pageL p s).take 4) = addU 0 ((pageL p s).drop 4) := by
    unfold pageL
    rw [putL_take4, putL_drop4, get_put]
  cases hok : okP (spo (pageL p s) r turn 4) p
  · rfl
  · exfalso
    unfold okP at hok
    rw [Bool.and_eq_true, decide_eq_true_eq] at hok
    have hs2 := hok.1
    generalize hgg : pageL p s = g at hg hl hn hne hsum hs2
    generalize spo g r turn 4 = g' at hl hn hne hs2
    by_cases h4 : r < 4
    · have hd : g'.drop 4 = g.drop 4 := ext_nth (by rw [List.length_drop, List.length_drop, hl]) (fun k _ => by
        rw [nth_drop, nth_drop, hn, if_neg]
        intro hk
        have := hk.2.2
        unfold hitB at this
        rw [Bool.and_eq_true, decide_eq_true h4, decide_eq_false (show ¬ (r + (4 + k - r) < 4) by omega)] at this
        exact absurd this.2 (by decide))
      rw [hd, ← hsum] at hs2
      have ht : g'.take 4 = g.take 4 := by
        rw [← put_get (g'.take 4) (by rw [List.length_take]; omega), hs2, put_get (g.take 4) (by rw [List.length_take]; omega)]
      have hi4 : r + i < 4 := by
        unfold hitB at hh
        rw [Bool.and_eq_true, decide_eq_true h4] at hh
        have := hh.2
        simpa using this
      apply hne
      rw [← nth_take g' 4 _ hi4, ht, nth_take g 4 _ hi4]
    · have ht : g'.take 4 = g.take 4 := ext_nth (by rw [List.length_take, List.length_take, hl]) (fun k hk => by
        rw [List.length_take] at hk
        rw [nth_take _ _ _ (by omega), nth_take _ _ _ (by omega), hn, if_neg (by omega)])
      rw [ht, hsum] at hs2
      have hsplit : ∀ l : List UInt8, l.drop 4 = (l.drop 4).take (r - 4) ++ ((l.drop r).take 4 ++ l.drop (r + 4)) := fun l => by
        have e1 := (List.take_append_drop (r - 4) (l.drop 4)).symm
        have e2 := (List.take_append_drop 4 (l.drop r)).symm
        rw [List.drop_drop] at e1 e2
        rw [show 4 + (r - 4) = r by omega] at e1
        exact e1.trans (congrArg _ e2)
      have hA : (g'.drop 4).take (r - 4) = (g.drop 4).take (r - 4) := ext_nth (by simp [hl]) (fun k hk => by
        rw [List.length_take] at hk
        rw [nth_take _ _ _ (by omega), nth_take _ _ _ (by omega), nth_drop, nth_drop, hn, if_neg (by omega)])
      have hQ : g'.drop (r + 4) = g.drop (r + 4) := ext_nth (by simp [hl]) (fun k hk => by
        rw [nth_drop, nth_drop, hn, if_neg (by omega)])
      rw [hsplit g', hsplit g, hA, hQ] at hs2
      have hM := crc_window 0 _ _ _ _ (by simp [hl]) (by rw [List.length_take]; omega) hs2
      apply hne
      have := congrArg (fun l => nth l i) hM
      rw [nth_take _ _ _ hi, nth_take _ _ _ hi, nth_drop, nth_drop] at this
      exact this.symm
end Go.Proofs.YtjfkdfffolkblaaDoor
namespace Go.Proofs.YtjfkdfffolkblaaDoor
open Go.RowKit
open UK (str BytesAt nth Only w32 Row)
/-- how the first page's owner bytes begin -/
def magicL : List UInt8 := [84, 65, 66, 85, 76, 65, 82, 49]
/-- the word that a free page has first -/
def linkL (x : List UInt8) (q : Nat) : List UInt8 := (loadL x q).take 4
def wordN (s : List UInt8) : Nat := (getL s).toNat
/-- the free pages from one on: an error's number, or those that came ahead and all that follow -/
def chain (x : List UInt8) (n : Nat) : Nat → List Nat → List UInt8 → Int × List Nat
  | 0, l, _ => (0, l)
  | k + 1, l, p => if p = putL (w32 4294967295) then (0, l) else if wordN p < 1 ∨ n ≤ wordN p ∨ wordN p ∈ l then (3, []) else if okB x (wordN p) = false then (8, []) else chain x n k (l ++ [wordN p]) (linkL x (wordN p))
def flagsL (n : Nat) (l : List Nat) : List Bool := (List.range n).map fun p => decide (p ∈ l)
theorem flagsL_length (n : Nat) (l : List Nat) : (flagsL n l).length = n := by simp [flagsL]
theorem flagsL_get (n : Nat) (l : List Nat) (p : Nat) (h : p < n) : (flagsL n l).getD p false = decide (p ∈ l) := by
  rw [List.getD_eq_getElem?_getD, List.getElem?_eq_getElem (by rw [flagsL_length]; exact h)]
  simp [flagsL]
theorem flagsL_nil (n : Nat) : flagsL n [] = List.replicate n false := by
  refine List.ext_getElem (by simp [flagsL]) (fun i h1 h2 => ?_)
  simp [flagsL]
theorem flagsL_set (n : Nat) (l : List Nat) (p : Nat) : (flagsL n l).set p true = flagsL n (l ++ [p]) := by
  refine List.ext_getElem (by simp [flagsL]) (fun i h1 h2 => ?_)
  rw [List.getElem_set]
  by_cases e : p = i
  · subst e; simp [flagsL]
  · rw [if_neg e]
    simp only [flagsL, List.getElem_map, List.getElem_range]
    refine decide_eq_decide.2 ⟨fun h => List.mem_append_left _ h, fun h => ?_⟩
    rcases List.mem_append.1 h with h | h
    · exact h
    · exact absurd (List.mem_singleton.1 h).symm e
/-- what bytes come to: an error's number, the free pages (the last one goes first, turned round) -/
def openR (s : List UInt8) (pages : Int) : Int × List Nat :=
  if s.length / 512 < 1 ∨ s.length % 512 ≠ 0 ∨ clampD pages < (s.length / 512 : Nat) then (3, [])
  else if okB s 0 = false then (8, [])
  else if (loadL s 0).take 8 ≠ magicL ∨ ((loadL s 0).drop 8).take 4 ≠ putL (w32 (s.length / 512)) then (3, [])
  else chain s (s.length / 512) (s.length / 512 + 1) [] (((loadL s 0).drop 12).take 4)
def openD (s : List UInt8) (pages : Int) : Dk :=
  { x := s, most := clampD pages, free := (openR s pages).2.reverse, isf := flagsL (s.length / 512) (openR s pages).2, rl := -1, wl := -1, reads := 0, puts := 0 }
/-- pages on the way -/
structure OnWay (n : Nat) (l : List Nat) : Prop where
  nodup : l.Nodup
  lt : ∀ p, p ∈ l → 1 ≤ p ∧ p < n
theorem OnWay.nil (n : Nat) : OnWay n [] := ⟨List.nodup_nil, fun p h => by cases h⟩
theorem OnWay.snoc {n : Nat} {l : List Nat} (h : OnWay n l) {p : Nat} (h1 : 1 ≤ p) (h2 : p < n) (h3 : p ∉ l) : OnWay n (l ++ [p]) :=
  ⟨List.nodup_append.2 ⟨h.nodup, List.pairwise_singleton _ _, fun a ha b hb => by rw [List.mem_singleton.1 hb]; exact fun e => h3 (e ▸ ha)⟩, fun q hq => by
    rcases List.mem_append.1 hq with hq | hq
    · exact h.lt q hq
    · rw [List.mem_singleton.1 hq]; exact ⟨h1, h2⟩⟩
theorem OnWay.few {n : Nat} {l : List Nat} (h : OnWay n l) (hn : 1 ≤ n) : l.length + 1 ≤ n := by
  have := nodup_le n (0 :: l) (List.nodup_cons.2 ⟨fun h0 => by have := (h.lt 0 h0).1; omega, h.nodup⟩) (fun x hx => by
    rcases List.mem_cons.1 hx with rfl | hx
    · omega
    · exact (h.lt x hx).2)
  simpa using this
theorem chain_onway (x : List UInt8) (n : Nat) : ∀ (k : Nat) (l : List Nat) (p : List UInt8), OnWay n l → OnWay n (chain x n k l p).2
  | 0, l, p, h => h
  | k + 1, l, p, h => by
    unfold chain
    split
    · exact h
    · split
      · exact OnWay.nil n
      · rename_i hh
        split
        · exact OnWay.nil n
        · exact chain_onway x n k _ _ (h.snoc (by omega) (by omega) (fun hm => hh (.inr (.inr hm))))
theorem openR_onway (s : List UInt8) (pages : Int) : OnWay (s.length / 512) (openR s pages).2 := by
  unfold openR
  split
  · exact OnWay.nil _
  · split
    · exact OnWay.nil _
    · split
      · exact OnWay.nil _
      · exact chain_onway _ _ _ _ _ (OnWay.nil _)
/-- one page more on the way -/
theorem chain_step (x : List UInt8) (n k : Nat) (l : List Nat) (p : List UInt8) (hk : l.length < k) (h0 : p ≠ putL (w32 4294967295)) (h1 : 1 ≤ wordN p) (h2 : wordN p < n) (h3 : wordN p ∉ l) (h4 : okB x (wordN p) = true) :
    chain x n (k - l.length) l p = chain x n (k - (l ++ [wordN p]).length) (l ++ [wordN p]) (linkL x (wordN p)) := by
  obtain ⟨m, hm⟩ : ∃ m, k - l.length = m + 1 := ⟨k - l.length - 1, by omega⟩
  rw [hm]
  conv => lhs; unfold chain
  rw [if_neg h0, if_neg (by rintro (a | a | a); omega; omega; exact h3 a), h4, if_neg (by simp)]
  rw [show k - (l ++ [wordN p]).length = m by rw [List.length_append, List.length_singleton]; omega]
theorem chain_end (x : List UInt8) (n k : Nat) (l : List Nat) (p : List UInt8) (hk : l.length < k) (h0 : p = putL (w32 4294967295)) : chain x n (k - l.length) l p = (0, l) := by
  obtain ⟨m, hm⟩ : ∃ m, k - l.length = m + 1 := ⟨k - l.length - 1, by omega⟩
  rw [hm]
  unfold chain
  rw [if_pos h0]
theorem chain_form (x : List UInt8) (n k : Nat) (l : List Nat) (p : List UInt8) (hk : l.length < k) (h0 : p ≠ putL (w32 4294967295)) (h1 : wordN p < 1 ∨ n ≤ wordN p ∨ wordN p ∈ l) : chain x n (k - l.length) l p = (3, []) := by
  obtain ⟨m, hm⟩ : ∃ m, k - l.length = m + 1 := ⟨k - l.length - 1, by omega⟩
  rw [hm]
  unfold chain
  rw [if_neg h0, if_pos h1]
theorem chain_spoil (x : List UInt8) (n k : Nat) (l : List Nat) (p : List UInt8) (hk : l.length < k) (h0 : p ≠ putL (w32 4294967295)) (h1 : 1 ≤ wordN p) (h2 : wordN p < n) (h3 : wordN p ∉ l) (h4 : okB x (wordN p) = false) : chain x n (k - l.length) l p = (8, []) := by
  obtain ⟨m, hm⟩ : ∃ m, k - l.length = m + 1 := ⟨k - l.length - 1, by omega⟩
  rw [hm]
  unfold chain
  rw [if_neg h0, if_neg (by rintro (a | a | a); omega; omega; exact h3 a), if_pos h4]
theorem fit_open (s : List UInt8) (pages : Int) (l : List Nat) (h1 : 1 ≤ s.length / 512) (h2 : s.length % 512 = 0) (h3 : ((s.length / 512 : Nat) : Int) ≤ clampD pages) (ho : OnWay (s.length / 512) l) (fl : List Nat) (hf : fl.length ≤ l.length) (hm : ∀ p, p ∈ fl → p ∈ l) :
    Fit { x := s, most := clampD pages, free := fl, isf := flagsL (s.length / 512) l, rl := -1, wl := -1, reads := 0, puts := 0 } (s.length / 512) := by
  have hc : 2 ≤ clampD pages ∧ clampD pages ≤ 60000 := by unfold clampD; omega
  have hfew := ho.few h1
  exact ⟨by show s.length = _; omega, flagsL_length _ _, h1, by omega, ⟨hc.1, hc.2, h3⟩, fun p hp => ho.lt p (hm p hp), by show fl.length ≤ _; omega, by show (-1 : Int) ≤ -1 ∧ (-1 : Int) ≤ _; omega, by show (-1 : Int) ≤ -1 ∧ (-1 : Int) ≤ _; omega, by show (0 : Int) ≤ 0 ∧ (0 : Int) < _; omega, by show (0 : Int) ≤ 0 ∧ (0 : Int) < _; omega⟩
end Go.Proofs.YtjfkdfffolkblaaDoor
namespace Go.Proofs.YtjfkdfffolkblaaDoor
open Go.RowKit
open UK (str BytesAt nth Only w32 Row)
/-- a disk without faults: each page is as it was laid, the free ones are chained -/
structure Clean (d : Dk) (cnt : Nat) : Prop where
  fit : Fit d cnt
  so : Sound d cnt
  rl : d.rl = -1
  wl : d.wl = -1
  ok : ∀ p, 1 ≤ p → p < cnt → okB d.x p = true
  link : ∀ i, i < d.free.length → linkL d.x (d.free.getD i 0) = nextL d i
theorem link_pg (x : List UInt8) (p : Nat) : linkL x p = ((pgOf x p).drop 8).take 4 := by unfold linkL; rw [loadL_pg]
theorem link_page (p : Nat) (s : List UInt8) (hs : 4 ≤ s.length) : ((pageL p s).drop 8).take 4 = s.take 4 := by
  unfold pageL restL
  show List.take 4 (List.drop 4 ((putL (w32 p)) ++ (s ++ UK.zeros (504 - s.length)))) = _
  show List.take 4 (s ++ UK.zeros (504 - s.length)) = _
  rw [List.take_append_of_le_length hs]
/-- a page laid, and all others -/
theorem ok_wr (x : List UInt8) (cnt p q : Nat) (s : List UInt8) (hx : x.length = 512 * cnt) (h6 : cnt ≤ 60000) (hp : p < cnt) (hq : q < cnt) (hs : s.length ≤ 504) (h : q ≠ p → okB x q = true) : okB (UK.wr x (512 * p) (pageL p s)) q = true := by
  rw [okB_pg, pgOf_wr x p q _ (pageL_length p s hs) (by omega) (by omega)]
  by_cases e : p = q
  · rw [if_pos e, ← e]; exact okP_page p (by omega) s
  · rw [if_neg e, ← okB_pg]; exact h (fun e2 => e e2.symm)
theorem link_wr (x : List UInt8) (cnt p q : Nat) (s : List UInt8) (hx : x.length = 512 * cnt) (hp : p < cnt) (hq : q < cnt) (hs : s.length ≤ 504) (e : p ≠ q) : linkL (UK.wr x (512 * p) (pageL p s)) q = linkL x q := by
  rw [link_pg, link_pg, pgOf_wr x p q _ (pageL_length p s hs) (by omega) (by omega), if_neg e]
theorem link_wr_self (x : List UInt8) (cnt p : Nat) (s : List UInt8) (hx : x.length = 512 * cnt) (hp : p < cnt) (h4 : 4 ≤ s.length) (hs : s.length ≤ 504) : linkL (UK.wr x (512 * p) (pageL p s)) p = s.take 4 := by
  rw [link_pg, pgOf_wr x p p _ (pageL_length p s hs) (by omega) (by omega), if_pos rfl, link_page p s h4]
theorem nextL_of {d d' : Dk} (h : d'.free = d.free) (i : Nat) : nextL d' i = nextL d i := by unfold nextL; rw [h]
theorem getD_mem {l : List Nat} {i : Nat} (h : i < l.length) : l.getD i 0 ∈ l := by
  rw [List.getD_eq_getElem?_getD, List.getElem?_eq_getElem h]; exact List.getElem_mem _
theorem getD_inj {l : List Nat} (hn : l.Nodup) {i j : Nat} (hi : i < l.length) (hj : j < l.length) (e : l.getD i 0 = l.getD j 0) : i = j := by
  rw [List.getD_eq_getElem?_getD, List.getElem?_eq_getElem hi, List.getD_eq_getElem?_getD, List.getElem?_eq_getElem hj] at e
  exact (List.getElem_inj hn).1 e
theorem failN_m1 {d : Dk} (h : d.wl = -1) : failN d.wl = -1 := by rw [h]; rfl
theorem Clean.write {d : Dk} {cnt : Nat} (h : Clean d cnt) (h3 : d.puts + 1 < 1000000000) (p : Nat) (hp : p < cnt) (hf : p ∉ d.free) (s : List UInt8) (hs : s.length ≤ 504) : Clean (writeD d p s) cnt := by
  refine ⟨fit_write h.fit h3 p hp s hs, h.so.of_same rfl rfl, h.rl, failN_m1 h.wl, fun q h1 h2 => ok_wr d.x cnt p q s h.fit.len h.fit.few hp h2 hs (fun _ => h.ok q h1 h2), fun i hi => ?_⟩
  have hm := getD_mem (show i < d.free.length from hi)
  refine (link_wr d.x cnt p _ s h.fit.len hp (h.fit.free _ hm).2 hs (fun e => hf (e ▸ hm))).trans ?_
  exact (h.link i hi).trans (nextL_of rfl i).symm
theorem Clean.give {d : Dk} {cnt : Nat} (h : Clean d cnt) (h3 : d.puts + 1 < 1000000000) (p : Nat) (h1 : 1 ≤ p) (hp : p < cnt) (hf : p ∉ d.free) : Clean (giveD d p) cnt := by
  have hl := h.so.less h.fit hp hf
  have hnl : (nextL d d.free.length).length = 4 := nextL_length _ _
  refine ⟨fit_give h.fit h3 p h1 hp hl, h.so.give h.fit hp hf, h.rl, failN_m1 h.wl, fun q a b => ok_wr d.x cnt p q _ h.fit.len h.fit.few hp b (by omega) (fun _ => h.ok q a b), fun i hi => ?_⟩
  have hi2 : i < d.free.length + 1 := by
    have : i < (d.free ++ [p]).length := hi
    rwa [List.length_append] at this
  by_cases e : i = d.free.length
  · subst e
    have e1 : (giveD d p).free.getD d.free.length 0 = p := by
      show (d.free ++ [p]).getD d.free.length 0 = p
      rw [List.getD_eq_getElem?_getD, List.getElem?_append_right (Nat.le_refl _), Nat.sub_self]; rfl
    rw [e1]
    refine (link_wr_self d.x cnt p _ h.fit.len hp (by omega) (by omega)).trans ?_
    rw [List.take_of_length_le (by omega)]
    unfold nextL
    by_cases e0 : d.free.length = 0
    · rw [if_pos e0, if_pos e0]
    · rw [if_neg e0, if_neg e0]
      show _ = putL (w32 ((d.free ++ [p]).getD _ 0))
      rw [List.getD_eq_getElem?_getD, List.getD_eq_getElem?_getD, List.getElem?_append_left (by omega)]
  · have hil : i < d.free.length := by omega
    have e1 : (giveD d p).free.getD i 0 = d.free.getD i 0 := by
      show (d.free ++ [p]).getD i 0 = _
      rw [List.getD_eq_getElem?_getD, List.getD_eq_getElem?_getD, List.getElem?_append_left hil]
    have hm := getD_mem hil
    rw [e1]
    refine (link_wr d.x cnt p _ _ h.fit.len hp (h.fit.free _ hm).2 (by omega) (fun e => hf (e ▸ hm))).trans ((h.link i hil).trans ?_)
    unfold nextL
    by_cases e0 : i = 0
    · rw [if_pos e0, if_pos e0]
    · rw [if_neg e0, if_neg e0]
      show _ = putL (w32 ((d.free ++ [p]).getD _ 0))
      rw [List.getD_eq_getElem?_getD, List.getD_eq_getElem?_getD, List.getElem?_append_left (by omega)]
theorem Clean.takeF {d : Dk} {cnt : Nat} (h : Clean d cnt) (h3 : d.puts + 1 < 1000000000) (l : List Nat) (p : Nat) (hl : d.free = l ++ [p]) : Clean (takeF d l p) cnt := by
  have hpm : p ∈ d.free := by rw [hl]; exact List.mem_append_right _ (List.mem_singleton.2 rfl)
  have hp := h.fit.free p hpm
  have hnd := h.so.nodup
  rw [hl] at hnd
  have hpl : p ∉ l := fun hm => (List.nodup_append.1 hnd).2.2 p hm p (List.mem_singleton.2 rfl) rfl
  refine ⟨fit_takeF h.fit h3 l p hl, h.so.takeF h.fit hl, h.rl, failN_m1 h.wl, fun q a b => ok_wr d.x cnt p q _ h.fit.len h.fit.few hp.2 b (by decide) (fun _ => h.ok q a b), fun i hi => ?_⟩
  have hil : i < l.length := hi
  have hdl : d.free.length = l.length + 1 := by rw [hl, List.length_append]; rfl
  have e1 : l.getD i 0 = d.free.getD i 0 := by
    rw [hl, List.getD_eq_getElem?_getD, List.getD_eq_getElem?_getD, List.getElem?_append_left hil]
  have hm := getD_mem (show i < d.free.length by omega)
  show linkL _ (l.getD i 0) = _
  have hne : p ≠ l.getD i 0 := fun e => hpl (e ▸ getD_mem hil)
  refine (link_wr d.x cnt p _ _ h.fit.len hp.2 (by rw [e1]; exact (h.fit.free _ hm).2) (by decide) hne).trans ?_
  rw [e1]
  refine (h.link i (by omega)).trans ?_
  unfold nextL
  by_cases e0 : i = 0
  · rw [if_pos e0, if_pos e0]
  · rw [if_neg e0, if_neg e0]
    show _ = putL (w32 (l.getD _ 0))
    rw [hl, List.getD_eq_getElem?_getD, List.getD_eq_getElem?_getD, List.getElem?_append_left (by omega)]
theorem okB_more (x z : List UInt8) (p : Nat) (h : 512 * (p + 1) ≤ x.length) : okB (x ++ z) p = okB x p := by
  have e : pgOf (x ++ z) p = pgOf x p := by
    unfold pgOf
    rw [List.drop_append_of_le_length (by omega), List.take_append_of_le_length (by rw [List.length_drop]; omega)]
  rw [okB_pg, okB_pg, e]
theorem Clean.takeN {d : Dk} {cnt : Nat} (h : Clean d cnt) (h3 : d.puts + 1 < 1000000000) (hl : d.free = []) (hm : (cnt : Int) < d.most) : Clean (takeN d cnt) (cnt + 1) := by
  have hx : (d.x ++ UK.zeros 512).length = 512 * (cnt + 1) := by rw [List.length_append, UK.zeros_length, h.fit.len]; omega
  refine ⟨fit_takeN h.fit h3 hl hm, h.so.takeN h.fit hl, h.rl, failN_m1 h.wl, fun q a b => ?_, fun i hi => ?_⟩
  · refine ok_wr _ (cnt + 1) cnt q _ hx (by have := h.fit.most.2.1; omega) (by omega) b (by decide) (fun e => ?_)
    rw [okB_more _ _ _ (by rw [h.fit.len]; omega)]
    exact h.ok q a (by omega)
  · have hi' : i < d.free.length := hi
    rw [hl] at hi'
    exact absurd hi' (Nat.not_lt_zero _)
theorem Clean.same {d d' : Dk} {cnt : Nat} (h : Clean d cnt) (f : Fit d' cnt) (hx : d'.x = d.x) (hf : d'.free = d.free) (hi : d'.isf = d.isf) (hr : d'.rl = -1) (hw : d'.wl = -1) : Clean d' cnt :=
  ⟨f, h.so.of_same hf hi, hr, hw, by rw [hx]; exact h.ok, fun i hil => by rw [hx, hf, nextL_of hf]; rw [hf] at hil; exact h.link i hil⟩
theorem Clean.flush {d : Dk} {cnt : Nat} (h : Clean d cnt) (h3 : d.puts + 1 < 1000000000) : Clean (flushD d cnt) cnt ∧ okB (flushD d cnt).x 0 = true ∧ loadL (flushD d cnt).x 0 = headL d cnt ++ UK.zeros 488 ∧ (flushD d cnt).free = d.free ∧ (flushD d cnt).isf = d.isf ∧ (flushD d cnt).most = d.most := by
  have hf := fit_flush h.fit h3
  have hone := h.fit.one
  have hwl : d.wl ≠ 0 := by rw [h.wl]; decide
  unfold flushD at hf ⊢
  rw [if_neg hwl] at hf ⊢
  have hhl : (headL d cnt).length ≤ 504 := by rw [headL_length]; decide
  refine ⟨⟨hf, h.so.of_same rfl rfl, h.rl, failN_m1 h.wl, fun q a b => ?_, fun i hi => ?_⟩, ?_, ?_, rfl, rfl, rfl⟩
  · exact ok_wr d.x cnt 0 q _ h.fit.len h.fit.few (by omega) b hhl (fun _ => h.ok q a b)
  · have hm := getD_mem (show i < d.free.length from hi)
    have h1 := (h.fit.free _ hm).1
    refine (link_wr d.x cnt 0 _ _ h.fit.len (by omega) (h.fit.free _ hm).2 hhl (fun e => ?_)).trans ?_
    · have e2 : 0 = d.free.getD i 0 := e
      omega
    · exact (h.link i hi).trans (nextL_of rfl i).symm
  · exact ok_wr d.x cnt 0 0 _ h.fit.len h.fit.few (by omega) (by omega) hhl (fun e => absurd rfl e)
  · show loadL (UK.wr d.x (512 * 0) (pageL 0 (headL d cnt))) 0 = _
    rw [loadL_pg, pgOf_wr d.x 0 0 _ (pageL_length 0 _ hhl) (by rw [h.fit.len]; omega) (by rw [h.fit.len]; omega), if_pos rfl]
    rfl
/-- the chain of a clean disk -/
theorem chain_clean {d : Dk} {cnt : Nat} (h : Clean d cnt) (x : List UInt8) (hok : ∀ p, 1 ≤ p → p < cnt → okB x p = true) (hlk : ∀ i, i < d.free.length → linkL x (d.free.getD i 0) = nextL d i) :
    ∀ (i : Nat), i ≤ d.free.length → chain x cnt (cnt + 1 - (d.free.drop i).reverse.length) (d.free.drop i).reverse (nextL d i) = (0, d.free.reverse)
  | 0, _ => by
    have hfew := h.fit.freeLe
    exact (chain_end x cnt (cnt + 1) _ (nextL d 0) (by rw [List.length_reverse, List.drop_zero]; omega) rfl).trans (by rw [List.drop_zero])
  | i + 1, hi => by
    have hil : i < d.free.length := by omega
    have hm := getD_mem hil
    have hfr := h.fit.free _ hm
    have hfew := h.fit.freeLe
    have h6 := h.fit.few
    have e1 : nextL d (i + 1) = putL (w32 (d.free.getD i 0)) := by unfold nextL; rw [if_neg (by omega), Nat.add_sub_cancel]
    have h32 : ((w32 (d.free.getD i 0)).toNat : Int) = (d.free.getD i 0 : Nat) := by rw [← UK.w32_is]; omega
    have e2 : wordN (putL (w32 (d.free.getD i 0))) = d.free.getD i 0 := by unfold wordN; rw [get_put]; omega
    have hnm : d.free.getD i 0 ∉ (d.free.drop (i + 1)).reverse := fun hh => by
      rw [List.mem_reverse] at hh
      obtain ⟨j, hj, he⟩ := List.getElem_of_mem hh
      rw [List.length_drop] at hj
      rw [List.getElem_drop] at he
      have := getD_inj h.so.nodup hil (show i + 1 + j < d.free.length by omega) (by rw [← he, List.getD_eq_getElem?_getD, List.getElem?_eq_getElem (by omega)]; rfl)
      omega
    have hst := chain_step x cnt (cnt + 1) (d.free.drop (i + 1)).reverse (nextL d (i + 1)) (by rw [List.length_reverse, List.length_drop]; omega) (fun e => by
      rw [e1] at e
      have := congrArg wordN e
      rw [e2] at this
      have e3 : wordN (putL (w32 4294967295)) = 4294967295 := by unfold wordN; rw [get_put]; rfl
      omega) (by rw [e1, e2]; exact hfr.1) (by rw [e1, e2]; exact hfr.2) (by rw [e1, e2]; exact hnm) (by rw [e1, e2]; exact hok _ hfr.1 hfr.2)
    rw [hst, e1, e2, hlk i hil]
    have e4 : (d.free.drop (i + 1)).reverse ++ [d.free.getD i 0] = (d.free.drop i).reverse := by
      rw [List.drop_eq_getElem_cons hil, List.reverse_cons, List.getD_eq_getElem?_getD, List.getElem?_eq_getElem hil]
      rfl
    rw [e4]
    exact chain_clean h x hok hlk i (by omega)
/-- a flushed disk's bytes, opened -/
theorem open_clean {d : Dk} {cnt : Nat} (h : Clean d cnt) (h3 : d.puts + 1 < 1000000000) (pages : Int) (hm : d.most = clampD pages) : openR (flushD d cnt).x pages = (0, d.free.reverse) := by
  obtain ⟨hc, h0, hh, hf, hi, hmo⟩ := h.flush h3
  have hlen := hc.fit.len
  have hone := h.fit.one
  have hmost := h.fit.most
  unfold openR
  have hdiv : (flushD d cnt).x.length / 512 = cnt := by omega
  rw [hdiv, if_neg (by rintro (a | a | a); omega; omega; omega), if_neg (by rw [h0]; decide), hh]
  rw [if_neg (by rintro (a | a); exact a rfl; exact a rfl)]
  have e1 : ((headL d cnt ++ UK.zeros 488).drop 12).take 4 = nextL d d.free.length := rfl
  rw [e1]
  have := chain_clean h (flushD d cnt).x hc.ok (fun i hil => by
    have h1 := hc.link i (by rw [hf]; exact hil)
    rw [hf] at h1
    exact h1.trans (nextL_of hf i)) d.free.length (Nat.le_refl _)
  rw [List.drop_length] at this
  exact this
end Go.Proofs.YtjfkdfffolkblaaDoor
