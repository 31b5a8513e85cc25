/-
  Pages of a disk's bytes, plain: what is laid is read; what is laid elsewhere doesn't show; what is spoilt isn't read.
-/
import Derived.Test.YtjfkdfffolkblaaDoorDiskP
namespace Go.Proofs.YtjfkdfffolkblaaDoor
open UK (nth w32)
/-- the bytes of a page -/
def pgOf (x : List UInt8) (p : Nat) : List UInt8 := (x.drop (512 * p)).take 512
def okP (g : List UInt8) (p : Nat) : Bool := decide (getL (g.take 4) = addU 0 (g.drop 4)) && decide (((getL ((g.drop 4).take 4)).toNat : Int) = p)
theorem pgOf_length {x : List UInt8} {p : Nat} (h : 512 * (p + 1) ≤ x.length) : (pgOf x p).length = 512 := by
  unfold pgOf
  rw [List.length_take, List.length_drop]; omega
theorem okB_pg (x : List UInt8) (p : Nat) : okB x p = okP (pgOf x p) p := by
  unfold okB okP pgOf
  rw [List.take_take, List.drop_take, List.take_take, List.drop_drop]
  rfl
theorem loadL_pg (x : List UInt8) (p : Nat) : loadL x p = (pgOf x p).drop 8 := by
  unfold loadL pgOf
  rw [List.drop_take, List.drop_drop]
theorem nth_take (l : List UInt8) (n i : Nat) (h : i < n) : nth (l.take n) i = nth l i := by
  unfold nth
  rw [List.getD_eq_getElem?_getD, List.getD_eq_getElem?_getD, List.getElem?_take_of_lt h]
theorem nth_drop (l : List UInt8) (n i : Nat) : nth (l.drop n) i = nth l (n + i) := by
  unfold nth
  rw [List.getD_eq_getElem?_getD, List.getD_eq_getElem?_getD, List.getElem?_drop]
theorem ext_nth {l m : List UInt8} (hl : l.length = m.length) (h : ∀ i, i < l.length → nth l i = nth m i) : l = m := by
  refine List.ext_getElem? (fun i => ?_)
  by_cases hi : i < l.length
  · have := h i hi
    unfold nth at this
    rw [List.getD_eq_getElem?_getD, List.getD_eq_getElem?_getD, List.getElem?_eq_getElem hi, List.getElem?_eq_getElem (by omega)] at this
    rw [List.getElem?_eq_getElem hi, List.getElem?_eq_getElem (by omega)]
    exact congrArg some this
  · rw [List.getElem?_eq_none (by omega), List.getElem?_eq_none (by omega)]
theorem nth_set (l : List UInt8) (k i : Nat) (v : UInt8) (hk : k < l.length) : nth (l.set k v) i = if k = i then v else nth l i := by
  unfold nth
  rw [List.getD_eq_getElem?_getD, List.getD_eq_getElem?_getD, List.getElem?_set]
  by_cases h : k = i
  · subst h; rw [if_pos rfl, if_pos rfl, if_pos hk]; rfl
  · rw [if_neg h, if_neg h]
theorem nth_wr (x : List UInt8) (a : Nat) (s : List UInt8) (i : Nat) (h : a + s.length ≤ x.length) : nth (UK.wr x a s) i = if a ≤ i ∧ i < a + s.length then nth s (i - a) else nth x i := by
  unfold UK.wr nth
  have h1 : (x.take a).length = a := by rw [List.length_take]; omega
  rw [List.getD_eq_getElem?_getD, List.getD_eq_getElem?_getD, List.getD_eq_getElem?_getD, List.getElem?_append, List.getElem?_append, h1, List.getElem?_drop]
  by_cases h2 : i < a
  · rw [if_pos h2, if_neg (by omega), List.getElem?_take_of_lt h2]
  · rw [if_neg h2]
    by_cases h3 : i - a < s.length
    · rw [if_pos h3, if_pos (by omega)]
    · rw [if_neg h3, if_neg (by omega), show a + s.length + (i - a - s.length) = i by omega]
theorem nth_pg (x : List UInt8) (p i : Nat) (h : i < 512) : nth (pgOf x p) i = nth x (512 * p + i) := by
  unfold pgOf
  rw [nth_take _ _ _ h, nth_drop]
theorem pgOf_wr (x : List UInt8) (p q : Nat) (s : List UInt8) (hs : s.length = 512) (h : 512 * (p + 1) ≤ x.length) (hq : 512 * (q + 1) ≤ x.length) : pgOf (UK.wr x (512 * p) s) q = if p = q then s else pgOf x q := by
  have hw := UK.wr_length x (512 * p) s (by omega)
  refine ext_nth ?_ (fun i hi => ?_)
  · rw [pgOf_length (by omega)]
    split
    · exact hs.symm
    · exact (pgOf_length hq).symm
  · rw [pgOf_length (by omega)] at hi
    rw [nth_pg _ _ _ hi, nth_wr _ _ _ _ (by omega)]
    by_cases e : p = q
    · subst e
      rw [if_pos (by omega), if_pos rfl, show 512 * p + i - 512 * p = i by omega]
    · rw [if_neg (by omega), if_neg e, nth_pg _ _ _ hi]
theorem pgOf_set (x : List UInt8) (q k : Nat) (v : UInt8) (hk : k < x.length) (hq : 512 * (q + 1) ≤ x.length) : pgOf (x.set k v) q = if k / 512 = q then (pgOf x q).set (k % 512) v else pgOf x q := by
  refine ext_nth ?_ (fun i hi => ?_)
  · rw [pgOf_length (by rw [List.length_set]; exact hq)]
    split
    · rw [List.length_set, pgOf_length hq]
    · exact (pgOf_length hq).symm
  · rw [pgOf_length (by rw [List.length_set]; exact hq)] at hi
    rw [nth_pg _ _ _ hi, nth_set _ _ _ _ hk]
    by_cases e : k / 512 = q
    · rw [if_pos e, nth_set _ _ _ _ (by rw [pgOf_length hq]; omega), nth_pg _ _ _ hi]
      by_cases e2 : k = 512 * q + i
      · rw [if_pos e2, if_pos (by omega)]
      · rw [if_neg e2, if_neg (by omega)]
    · rw [if_neg e, if_neg (by omega), nth_pg _ _ _ hi]
theorem pageL_is (p : Nat) (s : List UInt8) (hs : s.length = 504) : pageL p s = putL (addU 0 (putL (w32 p) ++ s)) ++ (putL (w32 p) ++ s) := by
  unfold pageL restL
  rw [show 504 - s.length = 0 by omega]
  show putL (addU 0 (putL (w32 p) ++ (s ++ []))) ++ (putL (w32 p) ++ (s ++ [])) = _
  rw [List.append_nil]
theorem putL_take4 (c : UInt32) (l : List UInt8) : (putL c ++ l).take 4 = putL c := rfl
theorem putL_drop4 (c : UInt32) (l : List UInt8) : (putL c ++ l).drop 4 = l := rfl
theorem okP_page (p : Nat) (hp : p ≤ 60000) (s : List UInt8) : okP (pageL p s) p = true := by
  unfold okP pageL
  rw [putL_take4, putL_drop4, get_put]
  unfold restL
  rw [putL_take4, get_put]
  rw [decide_eq_true rfl, Bool.true_and, decide_eq_true_eq, ← UK.w32_is p]
  omega
theorem load_page (p : Nat) (s : List UInt8) (hs : s.length = 504) : (pageL p s).drop 8 = s := by
  rw [pageL_is p s hs]; rfl
/-- what is laid is read -/
theorem look_wr (x : List UInt8) (p : Nat) (hp : p ≤ 60000) (s : List UInt8) (hs : s.length = 504) (h : 512 * (p + 1) ≤ x.length) : lookL (UK.wr x (512 * p) (pageL p s)) p = s ∧ readE (UK.wr x (512 * p) (pageL p s)) p = 0 := by
  have e : pgOf (UK.wr x (512 * p) (pageL p s)) p = pageL p s := by rw [pgOf_wr x p p _ (pageL_length p s (by omega)) h h, if_pos rfl]
  have ok : okB (UK.wr x (512 * p) (pageL p s)) p = true := by rw [okB_pg, e]; exact okP_page p hp s
  unfold readE
  rw [lookL_yes ok, ok, loadL_pg, e, load_page p s hs]
  exact ⟨rfl, rfl⟩
/-- two texts that are others just in up to four bytes, one behind the other, have other sums -/
theorem crc_window (c : UInt32) (a m m' q : List UInt8) (hm : m.length = m'.length) (h4 : m.length ≤ 4) (h : addU c (a ++ (m ++ q)) = addU c (a ++ (m' ++ q))) : m = m' := by
  unfold addU at h
  have h0 := congrArg UK.nt h
  rw [nt_nt, nt_nt, runU_append, runU_append, runU_append, runU_append] at h0
  have h3 := run_inj_c q _ _ h0
  rw [run_word m _ h4, run_word m' _ (by omega), ← hm] at h3
  have h5 := bN_inj _ _ _ h3
  have h6 : wordOf m = wordOf m' := by
    have := congrArg (runU (UK.nt c) a ^^^ ·) h5
    simpa [← UInt32.xor_assoc] using this
  exact wordOf_inj _ _ hm h4 h6
/-- which of four bytes, from r on, are spoilt -/
def hitB (r i : Nat) : Bool := decide (r + i < 512) && (decide (r < 4) == decide (r + i < 4))
/-- a page's bytes, behind i of the four -/
def spo (g : List UInt8) (r : Nat) (turn : UInt32) : Nat → List UInt8
  | 0 => g
  | i + 1 => if hitB r i then (spo g r turn i).set (r + i) (UK.xr8 (nth (spo g r turn i) (r + i)) (UK.byteOf turn i)) else spo g r turn i
/-- is one of them another? -/
def chB (r : Nat) (turn : UInt32) : Nat → Bool
  | 0 => false
  | i + 1 => chB r turn i || (hitB r i && UK.byteOf turn i != 0)
theorem spo_length (g : List UInt8) (r : Nat) (turn : UInt32) : ∀ i, (spo g r turn i).length = g.length
  | 0 => rfl
  | i + 1 => by
    unfold spo
    split
    · rw [List.length_set]; exact spo_length g r turn i
    · exact spo_length g r turn i
theorem hit_lt {r i : Nat} (h : hitB r i = true) : r + i < 512 := by
  unfold hitB at h
  rw [Bool.and_eq_true, decide_eq_true_eq] at h
  exact h.1
theorem spo_nth (g : List UInt8) (hg : g.length = 512) (r : Nat) (turn : UInt32) : ∀ i k, nth (spo g r turn i) k = if r ≤ k ∧ k < r + i ∧ hitB r (k - r) = true then UK.xr8 (nth g k) (UK.byteOf turn (k - r)) else nth g k
  | 0, k => by rw [if_neg (by omega)]; rfl
  | i + 1, k => by
    have ih := spo_nth g hg r turn i
    unfold spo
    by_cases h : hitB r i = true
    · have hl := hit_lt h
      rw [if_pos h, nth_set _ _ _ _ (by rw [spo_length, hg]; exact hl)]
      by_cases e : r + i = k
      · subst e
        rw [if_pos rfl, ih, if_neg (by omega), show r + i - r = i by omega, if_pos ⟨by omega, by omega, h⟩]
      · rw [if_neg e, ih]
        by_cases h2 : r ≤ k ∧ k < r + i ∧ hitB r (k - r) = true
        · rw [if_pos h2, if_pos ⟨h2.1, by omega, h2.2.2⟩]
        · rw [if_neg h2, if_neg (fun h3 => h2 ⟨h3.1, by omega, h3.2.2⟩)]
    · rw [if_neg h, ih]
      by_cases h2 : r ≤ k ∧ k < r + i ∧ hitB r (k - r) = true
      · rw [if_pos h2, if_pos ⟨h2.1, by omega, h2.2.2⟩]
      · rw [if_neg h2, if_neg (fun h3 => h2 ⟨h3.1, by
          by_cases e : k = r + i
          · subst e
            rw [show r + i - r = i by omega] at h3
            exact absurd h3.2.2 h
          · omega, h3.2.2⟩)]
theorem xr8_same {a b : UInt8} (h : UK.xr8 a b = a) : b = 0 := by
  unfold UK.xr8 at h
  have := congrArg (a ^^^ ·) h
  simpa [← UInt8.xor_assoc] using this
theorem ch_no {r : Nat} {turn : UInt32} : ∀ {n}, chB r turn n = false → ∀ i, i < n → hitB r i = true → UK.byteOf turn i = 0
  | 0, _, i, hi, _ => absurd hi (Nat.not_lt_zero _)
  | n + 1, h, i, hi, hh => by
    unfold chB at h
    rw [Bool.or_eq_false_iff] at h
    by_cases e : i = n
    · subst e
      rw [hh, Bool.true_and] at h
      simpa using h.2
    · exact ch_no h.1 i (by omega) hh
theorem ch_yes {r : Nat} {turn : UInt32} : ∀ {n}, chB r turn n = true → ∃ i, i < n ∧ hitB r i = true ∧ UK.byteOf turn i ≠ 0
  | n + 1, h => by
    unfold chB at h
    rw [Bool.or_eq_true, Bool.and_eq_true] at h
    rcases h with h | h
    · obtain ⟨i, h1, h2⟩ := ch_yes h
      exact ⟨i, by omega, h2⟩
    · exact ⟨n, by omega, h.1, by simpa using h.2⟩
/-- where none is another, all is as it was -/
theorem spo_same (g : List UInt8) (hg : g.length = 512) (r : Nat) (turn : UInt32) (n : Nat) (h : chB r turn n = false) : spo g r turn n = g := by
  refine ext_nth (spo_length g r turn n) (fun k _ => ?_)
  rw [spo_nth g hg r turn n k]
  split
  · rename_i hk
    rw [ch_no h (k - r) (by omega) hk.2.2]
    unfold UK.xr8
    exact UInt8.xor_zero
  · rfl
/-- where one is another, the page isn't read -/
theorem spo_bad (p : Nat) (s : List UInt8) (hs : s.length = 504) (r : Nat) (hr : r < 512) (turn : UInt32) (h : chB r turn 4 = true) : okP (spo (pageL p s) r turn 4) p = false := by
  have hg : (pageL p s).length = 512 := pageL_length p s (by omega)
  have hl := spo_length (pageL p s) r turn 4
  have hn := spo_nth (pageL p s) hg r turn 4
  obtain ⟨i, hi, hh, hb⟩ := ch_yes h
  have hlt := hit_lt hh
  have hne : nth (spo (pageL p s) r turn 4) (r + i) ≠ nth (pageL p s) (r + i) := by
    rw [hn, if_pos ⟨by omega, by omega, by rw [show r + i - r = i by omega]; exact hh⟩, show r + i - r = i by omega]
    exact fun e => hb (xr8_same e)
  have hsum : getL ((pageL p s).take 4) = addU 0 ((pageL p s).drop 4) := by
    unfold pageL
    rw [putL_take4, putL_drop4, get_put]
  cases hok : okP (spo (pageL p s) r turn 4) p
  · rfl
  · exfalso
    unfold okP at hok
    rw [Bool.and_eq_true, decide_eq_true_eq] at hok
    have hs2 := hok.1
    generalize hgg : pageL p s = g at hg hl hn hne hsum hs2
    generalize spo g r turn 4 = g' at hl hn hne hs2
    by_cases h4 : r < 4
    · have hd : g'.drop 4 = g.drop 4 := ext_nth (by rw [List.length_drop, List.length_drop, hl]) (fun k _ => by
        rw [nth_drop, nth_drop, hn, if_neg]
        intro hk
        have := hk.2.2
        unfold hitB at this
        rw [Bool.and_eq_true, decide_eq_true h4, decide_eq_false (show ¬ (r + (4 + k - r) < 4) by omega)] at this
        exact absurd this.2 (by decide))
      rw [hd, ← hsum] at hs2
      have ht : g'.take 4 = g.take 4 := by
        rw [← put_get (g'.take 4) (by rw [List.length_take]; omega), hs2, put_get (g.take 4) (by rw [List.length_take]; omega)]
      have hi4 : r + i < 4 := by
        unfold hitB at hh
        rw [Bool.and_eq_true, decide_eq_true h4] at hh
        have := hh.2
        simpa using this
      apply hne
      rw [← nth_take g' 4 _ hi4, ht, nth_take g 4 _ hi4]
    · have ht : g'.take 4 = g.take 4 := ext_nth (by rw [List.length_take, List.length_take, hl]) (fun k hk => by
        rw [List.length_take] at hk
        rw [nth_take _ _ _ (by omega), nth_take _ _ _ (by omega), hn, if_neg (by omega)])
      rw [ht, hsum] at hs2
      have hsplit : ∀ l : List UInt8, l.drop 4 = (l.drop 4).take (r - 4) ++ ((l.drop r).take 4 ++ l.drop (r + 4)) := fun l => by
        have e1 := (List.take_append_drop (r - 4) (l.drop 4)).symm
        have e2 := (List.take_append_drop 4 (l.drop r)).symm
        rw [List.drop_drop] at e1 e2
        rw [show 4 + (r - 4) = r by omega] at e1
        exact e1.trans (congrArg _ e2)
      have hA : (g'.drop 4).take (r - 4) = (g.drop 4).take (r - 4) := ext_nth (by simp [hl]) (fun k hk => by
        rw [List.length_take] at hk
        rw [nth_take _ _ _ (by omega), nth_take _ _ _ (by omega), nth_drop, nth_drop, hn, if_neg (by omega)])
      have hQ : g'.drop (r + 4) = g.drop (r + 4) := ext_nth (by simp [hl]) (fun k hk => by
        rw [nth_drop, nth_drop, hn, if_neg (by omega)])
      rw [hsplit g', hsplit g, hA, hQ] at hs2
      have hM := crc_window 0 _ _ _ _ (by simp [hl]) (by rw [List.length_take]; omega) hs2
      apply hne
      have := congrArg (fun l => nth l i) hM
      rw [nth_take _ _ _ hi, nth_take _ _ _ hi, nth_drop, nth_drop] at this
      exact this.symm
end Go.Proofs.YtjfkdfffolkblaaDoor
