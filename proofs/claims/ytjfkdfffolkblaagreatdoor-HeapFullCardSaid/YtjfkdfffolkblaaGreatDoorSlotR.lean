/-
  A page's bytes and its records, in plain Lean: what the slots and the records' bytes say ('Recs x l': the bytes x have the records l, an empty one standing for none), and what the page's small changes do to that.
-/
import Derived.Test.YtjfkdfffolkblaaGreatDoorUMem
namespace Go.Proofs.YtjfkdfffolkblaaGreatDoor.SR
open UK (nth wr wr_length)
theorem nth_set (x : List UInt8) (a i : Nat) (v : UInt8) : nth (x.set a v) i = if a = i ∧ a < x.length then v else nth x i := by
  unfold nth List.getD
  rw [List.getElem?_set]
  by_cases h : a = i
  · subst h
    by_cases h2 : a < x.length
    · simp [h2]
    · simp [h2]
  · simp [h]
/-- a number of two bytes -/
def two (x : List UInt8) (a : Nat) : Nat := (nth x a).toNat + 256 * (nth x (a + 1)).toNat
def put (x : List UInt8) (a n : Nat) : List UInt8 := (x.set a (UInt8.ofNat n)).set (a + 1) (UInt8.ofNat (n / 256))
def lay (x : List UInt8) (i a n : Nat) : List UInt8 := put (put x (4 + 4 * i) a) (4 + 4 * i + 2) n
theorem put_length (x : List UInt8) (a n : Nat) : (put x a n).length = x.length := by simp [put]
theorem lay_length (x : List UInt8) (i a n : Nat) : (lay x i a n).length = x.length := by simp [lay, put_length]
theorem nth_put (x : List UInt8) (a n i : Nat) (h : a + 1 < x.length) : nth (put x a n) i = if i = a then UInt8.ofNat n else if i = a + 1 then UInt8.ofNat (n / 256) else nth x i := by
  unfold put
  rw [nth_set, nth_set]
  simp only [List.length_set]
  by_cases h1 : i = a
  · rw [if_neg (by omega), if_pos ⟨h1.symm, by omega⟩, if_pos h1]
  · by_cases h2 : i = a + 1
    · rw [if_pos ⟨h2.symm, h⟩, if_neg h1, if_pos h2]
    · rw [if_neg (by omega), if_neg (by omega), if_neg h1, if_neg h2]
theorem two_put_same (x : List UInt8) (a n : Nat) (h : a + 1 < x.length) (hn : n < 65536) : two (put x a n) a = n := by
  unfold two
  rw [nth_put x a n a h, nth_put x a n (a + 1) h, if_pos rfl, if_neg (by omega), if_pos rfl]
  simp
  omega
theorem two_put_other (x : List UInt8) (a n b : Nat) (h : a + 1 < x.length) (hb : b + 1 < a ∨ a + 1 < b) : two (put x a n) b = two x b := by
  unfold two
  rw [nth_put x a n b h, nth_put x a n (b + 1) h, if_neg (by omega), if_neg (by omega), if_neg (by omega), if_neg (by omega)]
theorem nth_put_far (x : List UInt8) (a n i : Nat) (h : a + 1 < x.length) (hi : i < a ∨ a + 1 < i) : nth (put x a n) i = nth x i := by
  rw [nth_put x a n i h, if_neg (by omega), if_neg (by omega)]
theorem nth_wr (x : List UInt8) (a : Nat) (s : List UInt8) (h : a + s.length ≤ x.length) (i : Nat) : nth (wr x a s) i = if a ≤ i ∧ i < a + s.length then nth s (i - a) else nth x i := by
  have hl : (x.take a).length = a := by rw [List.length_take]; omega
  unfold nth List.getD wr
  by_cases h1 : i < a
  · rw [List.getElem?_append_left (by omega), List.getElem?_take, if_pos h1, if_neg (by omega)]
  · rw [List.getElem?_append_right (by omega), hl]
    by_cases h2 : i < a + s.length
    · rw [List.getElem?_append_left (by omega), if_pos (by omega)]
    · rw [List.getElem?_append_right (by omega), List.getElem?_drop, if_neg (by omega)]
      congr 2
      omega
theorem two_wr_far (x : List UInt8) (a : Nat) (s : List UInt8) (h : a + s.length ≤ x.length) (b : Nat) (hb : b + 1 < a ∨ a + s.length ≤ b) : two (wr x a s) b = two x b := by
  unfold two
  rw [nth_wr x a s h, nth_wr x a s h, if_neg (by omega), if_neg (by omega)]
/-- where a record lies, and how long it is -/
def pos (x : List UInt8) (i : Nat) : Nat := two x (4 + 4 * i)
def ext (x : List UInt8) (i : Nat) : Nat := two x (4 + 4 * i + 2)
def low (x : List UInt8) : Nat := two x 2
theorem pos_lay_same (x : List UInt8) (i a n : Nat) (h : 4 + 4 * i + 3 < x.length) (ha : a < 65536) : pos (lay x i a n) i = a := by
  unfold pos lay
  rw [two_put_other _ _ _ _ (by rw [put_length]; omega) (by omega), two_put_same _ _ _ (by omega) ha]
theorem ext_lay_same (x : List UInt8) (i a n : Nat) (h : 4 + 4 * i + 3 < x.length) (hn : n < 65536) : ext (lay x i a n) i = n := by
  unfold ext lay
  rw [two_put_same _ _ _ (by rw [put_length]; omega) hn]
theorem two_lay_other (x : List UInt8) (i a n b : Nat) (h : 4 + 4 * i + 3 < x.length) (hb : b + 1 < 4 + 4 * i ∨ 4 + 4 * i + 3 < b) : two (lay x i a n) b = two x b := by
  unfold lay
  rw [two_put_other _ _ _ _ (by rw [put_length]; omega) (by omega), two_put_other _ _ _ _ (by omega) (by omega)]
theorem pos_lay_other (x : List UInt8) (i a n j : Nat) (h : 4 + 4 * i + 3 < x.length) (hj : j ≠ i) : pos (lay x i a n) j = pos x j := two_lay_other _ _ _ _ _ h (by omega)
theorem ext_lay_other (x : List UInt8) (i a n j : Nat) (h : 4 + 4 * i + 3 < x.length) (hj : j ≠ i) : ext (lay x i a n) j = ext x j := two_lay_other _ _ _ _ _ h (by omega)
theorem low_lay (x : List UInt8) (i a n : Nat) (h : 4 + 4 * i + 3 < x.length) : low (lay x i a n) = low x := two_lay_other _ _ _ _ _ h (by omega)
theorem nth_lay_far (x : List UInt8) (i a n k : Nat) (h : 4 + 4 * i + 3 < x.length) (hk : k < 4 + 4 * i ∨ 4 + 4 * i + 3 < k) : nth (lay x i a n) k = nth x k := by
  unfold lay
  rw [nth_put_far _ _ _ _ (by rw [put_length]; omega) (by omega), nth_put_far _ _ _ _ (by omega) (by omega)]
/-- all records' bytes -/
def total : List (List UInt8) → Nat
  | [] => 0
  | s :: l => s.length + total l
theorem total_append (l m : List (List UInt8)) : total (l ++ m) = total l + total m := by
  induction l with
  | nil => simp [total]
  | cons s l ih => simp [total, ih]; omega
/-- the record at a place; none behind the end -/
def rcd (l : List (List UInt8)) (i : Nat) : List UInt8 := l.getD i []
theorem total_set (l : List (List UInt8)) (i : Nat) (s : List UInt8) (h : i < l.length) : total (l.set i s) + (rcd l i).length = total l + s.length := by
  induction l generalizing i with
  | nil => simp at h
  | cons t l ih =>
    cases i with
    | zero => simp [total, rcd]; omega
    | succ i =>
      simp only [List.set_cons_succ, total]
      have := ih i (by simpa using h)
      simp only [rcd, List.getD_cons_succ] at this ⊢
      omega
theorem total_take_le (l : List (List UInt8)) (k : Nat) : total (l.take k) ≤ total l := by
  conv => rhs; rw [← List.take_append_drop k l, total_append]
  omega
theorem total_take_succ (l : List (List UInt8)) (k : Nat) (h : k < l.length) : total (l.take (k + 1)) = total (l.take k) + (rcd l k).length := by
  rw [List.take_succ_eq_append_getElem h, total_append]
  simp [total, rcd, h]
theorem rcd_set (l : List (List UInt8)) (i j : Nat) (s : List UInt8) : rcd (l.set i s) j = if i = j ∧ i < l.length then s else rcd l j := by
  unfold rcd List.getD
  rw [List.getElem?_set]
  by_cases h : i = j
  · subst h
    by_cases h2 : i < l.length <;> simp [h2]
  · simp [h]
theorem rcd_out (l : List (List UInt8)) (i : Nat) (h : l.length ≤ i) : rcd l i = [] := by
  unfold rcd List.getD; rw [List.getElem?_eq_none h]; rfl
theorem rcd_length_le (l : List (List UInt8)) (i : Nat) : (rcd l i).length ≤ total l := by
  by_cases h : i < l.length
  · have h1 := total_take_succ l i h
    have h2 := total_take_le l (i + 1)
    omega
  · rw [rcd_out l i (by omega)]; simp
/-- THE BYTES x HAVE THE RECORDS l -/
structure Recs (x : List UInt8) (l : List (List UInt8)) : Prop where
  size : 504 ≤ x.length
  len : two x 0 = l.length
  low1 : 4 + 4 * l.length ≤ low x
  low2 : low x ≤ 504
  none : l = [] → low x = 504
  hole : ∀ i, i < l.length → rcd l i = [] → pos x i = 0 ∧ ext x i = 0
  there : ∀ i, i < l.length → rcd l i ≠ [] → low x ≤ pos x i ∧ pos x i + (rcd l i).length ≤ 504 ∧ ext x i = (rcd l i).length
  bytes : ∀ i, i < l.length → ∀ k, k < (rcd l i).length → nth x (pos x i + k) = nth (rcd l i) k
  apart : ∀ i j, i < l.length → j < l.length → i ≠ j → rcd l i ≠ [] → rcd l j ≠ [] → pos x i + (rcd l i).length ≤ pos x j ∨ pos x j + (rcd l j).length ≤ pos x i
  sum : 4 + 4 * l.length + total l ≤ 504
namespace Recs
variable {x : List UInt8} {l : List (List UInt8)}
theorem pos0 (h : Recs x l) {i : Nat} (hi : i < l.length) : pos x i = 0 ↔ rcd l i = [] := by
  constructor
  · intro h0
    cases hr : rcd l i with
    | nil => rfl
    | cons a s =>
      have := h.there i hi (by rw [hr]; simp)
      have := h.low1
      omega
  · intro h0
    exact (h.hole i hi h0).1
theorem ext_is (h : Recs x l) {i : Nat} (hi : i < l.length) : ext x i = (rcd l i).length := by
  by_cases h0 : rcd l i = []
  · rw [(h.hole i hi h0).2, h0]; rfl
  · exact (h.there i hi h0).2.2
theorem few (h : Recs x l) : l.length ≤ 125 := by have := h.low1; have := h.low2; omega
theorem inside (h : Recs x l) {i : Nat} (hi : i < l.length) : pos x i + (rcd l i).length ≤ 504 := by
  by_cases h0 : rcd l i = []
  · rw [(h.hole i hi h0).1, h0]; simp
  · exact (h.there i hi h0).2.1
theorem init (y : List UInt8) (hy : 504 ≤ y.length) (hz : ∀ i, i < 504 → nth y i = 0) : Recs (put y 2 504) [] := by
  have e0 : two (put y 2 504) 0 = 0 := by
    rw [two_put_other _ _ _ _ (by omega) (by omega)]
    simp [two, hz]
  have e2 : low (put y 2 504) = 504 := two_put_same _ _ _ (by omega) (by decide)
  refine ⟨by rw [put_length]; exact hy, e0, by rw [e2]; decide, by rw [e2]; decide, fun _ => e2, ?_, ?_, ?_, ?_, by simp [total]⟩
  · intro i hi; simp at hi
  · intro i hi; simp at hi
  · intro i hi; simp at hi
  · intro i j hi; simp at hi
/-- a slot is emptied -/
theorem drop (h : Recs x l) {i : Nat} (hi : i < l.length) : Recs (lay x i 0 0) (l.set i []) := by
  have hf := h.few
  have hs := h.size
  have hb : 4 + 4 * i + 3 < x.length := by omega
  have hne : ∀ j, rcd (l.set i []) j ≠ [] → j ≠ i ∧ rcd (l.set i []) j = rcd l j := fun j hj => by
    rw [rcd_set] at hj ⊢
    by_cases h1 : i = j ∧ i < l.length
    · rw [if_pos h1] at hj; exact absurd rfl hj
    · rw [if_neg h1]
      exact ⟨fun e => h1 ⟨e.symm, hi⟩, rfl⟩
  have hts := total_set l i [] hi
  refine ⟨by rw [lay_length]; exact hs, ?_, ?_, ?_, ?_, ?_, ?_, ?_, ?_, ?_⟩
  · rw [two_lay_other _ _ _ _ _ hb (by omega), List.length_set]; exact h.len
  · rw [low_lay _ _ _ _ hb, List.length_set]; exact h.low1
  · rw [low_lay _ _ _ _ hb]; exact h.low2
  · intro h0
    have : (l.set i []).length = 0 := by rw [h0]; rfl
    rw [List.length_set] at this
    omega
  · intro j hj h0
    rw [List.length_set] at hj
    by_cases hji : j = i
    · subst hji
      exact ⟨pos_lay_same _ _ _ _ hb (by decide), ext_lay_same _ _ _ _ hb (by decide)⟩
    · rw [pos_lay_other _ _ _ _ _ hb hji, ext_lay_other _ _ _ _ _ hb hji]
      rw [rcd_set, if_neg (by omega)] at h0
      exact h.hole j hj h0
  · intro j hj hjne
    rw [List.length_set] at hj
    obtain ⟨hji, he⟩ := hne j hjne
    rw [he] at hjne ⊢
    rw [low_lay _ _ _ _ hb, pos_lay_other _ _ _ _ _ hb hji, ext_lay_other _ _ _ _ _ hb hji]
    exact h.there j hj hjne
  · intro j hj k hk
    rw [List.length_set] at hj
    have hjne : rcd (l.set i []) j ≠ [] := by
      intro h0; rw [h0] at hk; simp at hk
    obtain ⟨hji, he⟩ := hne j hjne
    rw [he] at hk ⊢
    have ht := h.there j hj (by rw [← he]; exact hjne)
    have hl1 := h.low1
    rw [pos_lay_other _ _ _ _ _ hb hji, nth_lay_far _ _ _ _ _ hb (by omega)]
    exact h.bytes j hj k hk
  · intro j k hj hk hjk hjne hkne
    rw [List.length_set] at hj hk
    obtain ⟨hji, he⟩ := hne j hjne
    obtain ⟨hki, he2⟩ := hne k hkne
    rw [he] at hjne ⊢
    rw [he2] at hkne ⊢
    rw [pos_lay_other _ _ _ _ _ hb hji, pos_lay_other _ _ _ _ _ hb hki]
    exact h.apart j k hj hk hjk hjne hkne
  · rw [List.length_set]
    have := h.sum
    simp at hts
    omega
/-- an empty slot comes behind the last -/
theorem grow (h : Recs x l) (hl : 4 + 4 * (l.length + 1) ≤ low x) (hs : 4 + 4 * (l.length + 1) + total l ≤ 504) : Recs (lay (put x 0 (l.length + 1)) l.length 0 0) (l ++ [[]]) := by
  have hf := h.few
  have hsz := h.size
  have hl2 := h.low2
  have hb : 4 + 4 * l.length + 3 < (put x 0 (l.length + 1)).length := by rw [put_length]; omega
  have hlow : low (lay (put x 0 (l.length + 1)) l.length 0 0) = low x := by
    rw [low_lay _ _ _ _ hb]; exact two_put_other _ _ _ _ (by omega) (by omega)
  have hrec : ∀ j, rcd (l ++ [[]]) j = rcd l j := fun j => by
    unfold rcd List.getD
    by_cases hj : j < l.length
    · rw [List.getElem?_append_left hj]
    · rw [List.getElem?_append_right (by omega), List.getElem?_eq_none (l := l) (by omega)]
      by_cases hj2 : j - l.length = 0
      · rw [hj2]; rfl
      · rw [List.getElem?_eq_none (by simp; omega)]
  have hpos : ∀ j, j < l.length → pos (lay (put x 0 (l.length + 1)) l.length 0 0) j = pos x j := fun j hj => by
    rw [pos_lay_other _ _ _ _ _ hb (by omega)]; exact two_put_other _ _ _ _ (by omega) (by omega)
  have hext : ∀ j, j < l.length → ext (lay (put x 0 (l.length + 1)) l.length 0 0) j = ext x j := fun j hj => by
    rw [ext_lay_other _ _ _ _ _ hb (by omega)]; exact two_put_other _ _ _ _ (by omega) (by omega)
  have hin : ∀ j, rcd (l ++ [[]]) j ≠ [] → j < l.length := fun j hj => by
    rw [hrec] at hj
    by_cases h1 : j < l.length
    · exact h1
    · rw [rcd_out l j (by omega)] at hj; exact absurd rfl hj
  refine ⟨by rw [lay_length, put_length]; exact hsz, ?_, ?_, ?_, ?_, ?_, ?_, ?_, ?_, ?_⟩
  · rw [two_lay_other _ _ _ _ _ hb (by omega), two_put_same _ _ _ (by omega) (by omega)]; simp
  · rw [hlow]; simpa using hl
  · rw [hlow]; exact hl2
  · intro h0; simp at h0
  · intro j hj h0
    simp only [List.length_append, List.length_cons, List.length_nil] at hj
    by_cases hjl : j < l.length
    · rw [hpos j hjl, hext j hjl]; rw [hrec] at h0; exact h.hole j hjl h0
    · obtain rfl : j = l.length := by omega
      exact ⟨pos_lay_same _ _ _ _ hb (by decide), ext_lay_same _ _ _ _ hb (by decide)⟩
  · intro j _ hjne
    have hjl := hin j hjne
    rw [hrec] at hjne ⊢
    rw [hlow, hpos j hjl, hext j hjl]
    exact h.there j hjl hjne
  · intro j _ k hk
    have hjl := hin j (by intro h0; rw [h0] at hk; simp at hk)
    rw [hrec] at hk ⊢
    have ht := h.there j hjl (by intro h0; rw [h0] at hk; simp at hk)
    rw [hpos j hjl, nth_lay_far _ _ _ _ _ hb (by omega), nth_put_far _ _ _ _ (by omega) (by omega)]
    exact h.bytes j hjl k hk
  · intro j k _ _ hjk hjne hkne
    have hjl := hin j hjne
    have hkl := hin k hkne
    rw [hrec] at hjne hkne ⊢
    rw [hrec, hpos j hjl, hpos k hkl]
    exact h.apart j k hjl hkl hjk hjne hkne
  · rw [total_append]
    simp [total]
    omega
/-- a record's bytes are laid below all others, in an empty slot -/
theorem store (h : Recs x l) {i : Nat} (hi : i < l.length) (h0 : rcd l i = []) (s : List UInt8) (hs : s ≠ []) (hl : 4 + 4 * l.length + s.length ≤ low x) (hsum : 4 + 4 * l.length + total l + s.length ≤ 504) :
    Recs (put (lay (wr x (low x - s.length) s) i (low x - s.length) s.length) 2 (low x - s.length)) (l.set i s) := by
  have hf := h.few
  have hsz := h.size
  have hl2 := h.low2
  have hs0 : 0 < s.length := List.length_pos_iff.2 hs
  generalize ha : low x - s.length = a
  have hax : a + s.length ≤ x.length := by omega
  have hw : (wr x a s).length = x.length := wr_length _ _ _ hax
  have hb : 4 + 4 * i + 3 < (wr x a s).length := by omega
  have hb2 : 2 + 1 < (lay (wr x a s) i a s.length).length := by rw [lay_length]; omega
  have hlow : low (put (lay (wr x a s) i a s.length) 2 a) = a := two_put_same _ _ _ hb2 (by omega)
  have hposi : pos (put (lay (wr x a s) i a s.length) 2 a) i = a := by
    show two _ _ = _
    rw [two_put_other _ _ _ _ hb2 (by omega)]; exact pos_lay_same _ _ _ _ hb (by omega)
  have hexti : ext (put (lay (wr x a s) i a s.length) 2 a) i = s.length := by
    show two _ _ = _
    rw [two_put_other _ _ _ _ hb2 (by omega)]; exact ext_lay_same _ _ _ _ hb (by omega)
  have hpos : ∀ j, j ≠ i → j < l.length → pos (put (lay (wr x a s) i a s.length) 2 a) j = pos x j := fun j hj hjl => by
    show two _ _ = _
    rw [two_put_other _ _ _ _ hb2 (by omega)]
    show pos _ _ = _
    rw [pos_lay_other _ _ _ _ _ hb hj]; exact two_wr_far _ _ _ hax _ (by omega)
  have hext : ∀ j, j ≠ i → j < l.length → ext (put (lay (wr x a s) i a s.length) 2 a) j = ext x j := fun j hj hjl => by
    show two _ _ = _
    rw [two_put_other _ _ _ _ hb2 (by omega)]
    show ext _ _ = _
    rw [ext_lay_other _ _ _ _ _ hb hj]; exact two_wr_far _ _ _ hax _ (by omega)
  have hrec : ∀ j, rcd (l.set i s) j = if j = i then s else rcd l j := fun j => by
    rw [rcd_set]
    by_cases hj : j = i
    · rw [if_pos ⟨hj.symm, hi⟩, if_pos hj]
    · rw [if_neg (by omega), if_neg hj]
  have hnth : ∀ k, 4 + 4 * l.length ≤ k → nth (put (lay (wr x a s) i a s.length) 2 a) k = nth (wr x a s) k := fun k hk => by
    rw [nth_put_far _ _ _ _ hb2 (by omega), nth_lay_far _ _ _ _ _ hb (by omega)]
  have hts := total_set l i s hi
  refine ⟨by rw [put_length, lay_length, hw]; exact hsz, ?_, ?_, ?_, ?_, ?_, ?_, ?_, ?_, ?_⟩
  · rw [two_put_other _ _ _ _ hb2 (by omega), two_lay_other _ _ _ _ _ hb (by omega), two_wr_far _ _ _ hax _ (by omega), List.length_set]; exact h.len
  · rw [hlow, List.length_set]; omega
  · rw [hlow]; omega
  · intro hn
    have : (l.set i s).length = 0 := by rw [hn]; rfl
    rw [List.length_set] at this
    omega
  · intro j hj hj0
    rw [List.length_set] at hj
    rw [hrec] at hj0
    by_cases hji : j = i
    · rw [if_pos hji] at hj0; exact absurd hj0 hs
    · rw [if_neg hji] at hj0
      rw [hpos j hji hj, hext j hji hj]; exact h.hole j hj hj0
  · intro j hj hjne
    rw [List.length_set] at hj
    rw [hrec] at hjne ⊢
    rw [hlow]
    by_cases hji : j = i
    · subst hji
      rw [if_pos rfl, hposi, hexti]; exact ⟨Nat.le_refl _, by omega, rfl⟩
    · rw [if_neg hji] at hjne ⊢
      rw [hpos j hji hj, hext j hji hj]
      have := h.there j hj hjne
      exact ⟨by omega, this.2⟩
  · intro j hj k hk
    rw [List.length_set] at hj
    rw [hrec] at hk ⊢
    by_cases hji : j = i
    · subst hji
      rw [if_pos rfl] at hk ⊢
      rw [hposi, hnth _ (by omega), nth_wr _ _ _ hax, if_pos (by omega), Nat.add_sub_cancel_left]
    · rw [if_neg hji] at hk ⊢
      have ht := h.there j hj (by intro hz; rw [hz] at hk; simp at hk)
      rw [hpos j hji hj, hnth _ (by omega), nth_wr _ _ _ hax, if_neg (by omega)]
      exact h.bytes j hj k hk
  · intro j k hj hk hjk hjne hkne
    rw [List.length_set] at hj hk
    rw [hrec] at hjne hkne ⊢
    rw [hrec k]
    by_cases hji : j = i
    · have hki : k ≠ i := by omega
      rw [if_neg hki] at hkne ⊢
      subst hji
      rw [if_pos rfl, hposi, hpos k hki hk]
      have := h.there k hk hkne
      omega
    · rw [if_neg hji] at hjne ⊢
      rw [hpos j hji hj]
      have := h.there j hj hjne
      by_cases hki : k = i
      · subst hki
        rw [if_pos rfl, hposi]; omega
      · rw [if_neg hki] at hkne ⊢
        rw [hpos k hki hk]
        exact h.apart j k hj hk hjk hjne hkne
  · rw [List.length_set]
    rw [h0] at hts
    simp at hts
    omega
end Recs
/-- all records at the end, one against the other: done for the first k of them -/
structure Packed (x : List UInt8) (l : List (List UInt8)) (k : Nat) (z : List UInt8) : Prop where
  length : z.length = x.length
  len : two z 0 = l.length
  later : ∀ i, k ≤ i → i < l.length → pos z i = pos x i ∧ ext z i = ext x i
  hole : ∀ i, i < k → i < l.length → rcd l i = [] → pos z i = 0 ∧ ext z i = 0
  there : ∀ i, i < k → i < l.length → rcd l i ≠ [] → pos z i = 504 - total (l.take (i + 1)) ∧ ext z i = (rcd l i).length
  bytes : ∀ i, i < k → i < l.length → ∀ j, j < (rcd l i).length → nth z (504 - total (l.take (i + 1)) + j) = nth (rcd l i) j
namespace Packed
variable {x : List UInt8} {l : List (List UInt8)} {k : Nat} {z : List UInt8}
theorem start (h : Recs x l) : Packed x l 0 x :=
  ⟨rfl, h.len, fun _ _ _ => ⟨rfl, rfl⟩, fun _ hi => absurd hi (Nat.not_lt_zero _), fun _ hi => absurd hi (Nat.not_lt_zero _), fun _ hi => absurd hi (Nat.not_lt_zero _)⟩
theorem skip (p : Packed x l k z) (h : Recs x l) (hk : k < l.length) (h0 : rcd l k = []) : Packed x l (k + 1) z := by
  refine ⟨p.length, p.len, fun i hi hl => p.later i (by omega) hl, fun i hi hl hz => ?_, fun i hi hl hz => ?_, fun i hi hl j hj => ?_⟩
  · by_cases hik : i < k
    · exact p.hole i hik hl hz
    · obtain rfl : i = k := by omega
      have := p.later i (Nat.le_refl _) hl
      rw [this.1, this.2]
      exact h.hole i hl h0
  · have hik : i ≠ k := fun e => hz (by rw [e]; exact h0)
    exact p.there i (by omega) hl hz
  · refine p.bytes i ?_ hl j hj
    by_cases hik : i = k
    · subst hik; rw [h0] at hj; simp at hj
    · omega
theorem step (p : Packed x l k z) (h : Recs x l) (hk : k < l.length) (h0 : rcd l k ≠ []) :
    Packed x l (k + 1) (lay (wr z (504 - total (l.take (k + 1))) (rcd l k)) k (504 - total (l.take (k + 1))) (rcd l k).length) := by
  have hf := h.few
  have hsz := h.size
  have hsum := h.sum
  have htk := total_take_succ l k hk
  have htl := total_take_le l (k + 1)
  have hs0 : 0 < (rcd l k).length := List.length_pos_iff.2 h0
  generalize ha : 504 - total (l.take (k + 1)) = a
  generalize hs : rcd l k = s at *
  have hax : a + s.length ≤ z.length := by rw [p.length]; omega
  have hw : (wr z a s).length = x.length := by rw [wr_length _ _ _ hax, p.length]
  have hb : 4 + 4 * k + 3 < (wr z a s).length := by omega
  have hpos : ∀ j, j ≠ k → j < l.length → pos (lay (wr z a s) k a s.length) j = pos z j := fun j hj hjl => by
    rw [pos_lay_other _ _ _ _ _ hb hj]; exact two_wr_far _ _ _ hax _ (by omega)
  have hext : ∀ j, j ≠ k → j < l.length → ext (lay (wr z a s) k a s.length) j = ext z j := fun j hj hjl => by
    rw [ext_lay_other _ _ _ _ _ hb hj]; exact two_wr_far _ _ _ hax _ (by omega)
  refine ⟨by rw [lay_length, hw], ?_, fun i hi hl => ?_, fun i hi hl hz => ?_, fun i hi hl hz => ?_, fun i hi hl j hj => ?_⟩
  · rw [two_lay_other _ _ _ _ _ hb (by omega), two_wr_far _ _ _ hax _ (by omega)]; exact p.len
  · rw [hpos i (by omega) hl, hext i (by omega) hl]; exact p.later i (by omega) hl
  · have hik : i ≠ k := fun e => h0 (by rw [← hs, ← e]; exact hz)
    rw [hpos i hik hl, hext i hik hl]; exact p.hole i (by omega) hl hz
  · by_cases hik : i = k
    · subst hik
      rw [pos_lay_same _ _ _ _ hb (by omega), ext_lay_same _ _ _ _ hb (by omega), hs]; exact ⟨ha.symm, rfl⟩
    · rw [hpos i hik hl, hext i hik hl]; exact p.there i (by omega) hl hz
  · have htl2 := total_take_le l (i + 1)
    have hil := total_take_succ l i hl
    rw [nth_lay_far _ _ _ _ _ hb (by omega), nth_wr _ _ _ hax]
    by_cases hik : i = k
    · subst hik
      rw [ha, if_pos (by rw [hs] at hj; omega), Nat.add_sub_cancel_left, hs]
    · have hmono : total (l.take (i + 1)) + s.length ≤ total (l.take (k + 1)) := by
        have e1 : l.take (i + 1) = (l.take k).take (i + 1) := by rw [List.take_take, Nat.min_eq_left (by omega)]
        have := total_take_le (l.take k) (i + 1)
        rw [← e1] at this
        omega
      rw [if_neg (by omega)]
      exact p.bytes i (by omega) hl j hj
/-- .. and the place ahead of which no record begins is told -/
theorem done (p : Packed x l l.length z) (h : Recs x l) : Recs (wr (put z 2 (504 - total l)) (4 + 4 * l.length) (List.replicate (504 - total l - (4 + 4 * l.length)) 0)) l ∧ low (wr (put z 2 (504 - total l)) (4 + 4 * l.length) (List.replicate (504 - total l - (4 + 4 * l.length)) 0)) = 504 - total l := by
  have hf := h.few
  have hsz := h.size
  have hsum := h.sum
  have hp2 : 2 + 1 < z.length := by rw [p.length]; omega
  generalize hn : 504 - total l - (4 + 4 * l.length) = n
  have hax : 4 + 4 * l.length + (List.replicate n (0 : UInt8)).length ≤ (put z 2 (504 - total l)).length := by rw [put_length, p.length, List.length_replicate]; omega
  have hrl : (List.replicate n (0 : UInt8)).length = n := List.length_replicate
  have hlow : low (wr (put z 2 (504 - total l)) (4 + 4 * l.length) (List.replicate n 0)) = 504 - total l := by
    show two _ _ = _
    rw [two_wr_far _ _ _ hax _ (by omega), two_put_same _ _ _ hp2 (by omega)]
  have hpos : ∀ j, j < l.length → pos (wr (put z 2 (504 - total l)) (4 + 4 * l.length) (List.replicate n 0)) j = pos z j := fun j hj => by
    show two _ _ = _
    rw [two_wr_far _ _ _ hax _ (by omega), two_put_other _ _ _ _ hp2 (by omega)]; rfl
  have hext : ∀ j, j < l.length → ext (wr (put z 2 (504 - total l)) (4 + 4 * l.length) (List.replicate n 0)) j = ext z j := fun j hj => by
    show two _ _ = _
    rw [two_wr_far _ _ _ hax _ (by omega), two_put_other _ _ _ _ hp2 (by omega)]; rfl
  have hpl : ∀ i, i < l.length → rcd l i ≠ [] → pos z i + (rcd l i).length ≤ 504 ∧ 504 - total l ≤ pos z i ∧ pos z i + total (l.take (i + 1)) = 504 := fun i hi hne => by
    have h1 := (p.there i hi hi hne).1
    have h2 := total_take_succ l i hi
    have h3 := total_take_le l (i + 1)
    omega
  refine ⟨⟨?_, ?_, ?_, ?_, ?_, ?_, ?_, ?_, ?_, hsum⟩, hlow⟩
  · rw [wr_length _ _ _ hax, put_length, p.length]; exact hsz
  · rw [two_wr_far _ _ _ hax _ (by omega), two_put_other _ _ _ _ hp2 (by omega)]; exact p.len
  · rw [hlow]; omega
  · rw [hlow]; omega
  · intro hnil; rw [hlow, hnil]; simp [total]
  · intro i hi hz; rw [hpos i hi, hext i hi]; exact p.hole i hi hi hz
  · intro i hi hne
    have h1 := hpl i hi hne
    rw [hlow, hpos i hi, hext i hi]
    exact ⟨h1.2.1, h1.1, (p.there i hi hi hne).2⟩
  · intro i hi j hj
    have hne : rcd l i ≠ [] := by intro hz; rw [hz] at hj; simp at hj
    have h1 := hpl i hi hne
    rw [hpos i hi, nth_wr _ _ _ hax, if_neg (by omega), nth_put_far _ _ _ _ hp2 (by omega), (p.there i hi hi hne).1]
    exact p.bytes i hi hi j hj
  · intro i j hi hj hij hine hjne
    have h1 := hpl i hi hine
    have h2 := hpl j hj hjne
    rw [hpos i hi, hpos j hj]
    have hmono : ∀ a b, a < b → b < l.length → total (l.take (a + 1)) + (rcd l b).length ≤ total (l.take (b + 1)) := fun a b hab hb => by
      have e1 : l.take (a + 1) = (l.take b).take (a + 1) := by rw [List.take_take, Nat.min_eq_left (by omega)]
      have h3 := total_take_le (l.take b) (a + 1)
      rw [← e1] at h3
      have := total_take_succ l b hb
      omega
    rcases Nat.lt_or_ge i j with hlt | hge
    · have := hmono i j hlt hj; omega
    · have := hmono j i (by omega) hi; omega
end Packed
end Go.Proofs.YtjfkdfffolkblaaGreatDoor.SR
