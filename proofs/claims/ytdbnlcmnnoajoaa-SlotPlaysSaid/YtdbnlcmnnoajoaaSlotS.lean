/-
  What Add, Set and Drop make of a page's records, in plain Lean.
-/
import Derived.Test.YtdbnlcmnnoajoaaSlotL
namespace Go.Proofs.Ytdbnlcmnnoajoaa
open UK (nth)
open SR (Recs rcd total)
/-- the list with a record more: in the first hole, or behind the last -/
def add (l : List (List UInt8)) (s : List UInt8) : List (List UInt8) := if hole l < l.length then l.set (hole l) s else l ++ [s]
theorem add_hole (l : List (List UInt8)) (s : List UInt8) (h : hole l < l.length) : add l s = l.set (hole l) s := by unfold add; rw [if_pos h]
theorem add_end (l : List (List UInt8)) (s : List UInt8) (h : hole l = l.length) : add l s = (l ++ [[]]).set l.length s := by
  unfold add; rw [if_neg (by omega), List.set_append_right _ _ (Nat.le_refl _)]; simp
theorem rcd_end (l : List (List UInt8)) : rcd (l ++ [[]]) l.length = [] := by simp [rcd]
/-- how many slots are left, when the last ones without a record go -/
def kept (l : List (List UInt8)) : Nat → Nat
  | 0 => 0
  | n + 1 => if rcd l n = [] then kept l n else n + 1
theorem kept_le (l : List (List UInt8)) (n : Nat) : kept l n ≤ n := by
  induction n with
  | zero => simp [kept]
  | succ n ih => simp only [kept]; split <;> omega
theorem kept_at (l : List (List UInt8)) (m n : Nat) (hm : m ≤ n) (h : ∀ j, m ≤ j → j < n → rcd l j = []) (h0 : 0 < m → rcd l (m - 1) ≠ []) : kept l n = m := by
  induction n with
  | zero => simp [kept]; omega
  | succ n ih =>
    by_cases hmn : m = n + 1
    · subst hmn
      have := h0 (by omega)
      simp only [Nat.add_sub_cancel] at this
      simp [kept, this]
    · simp only [kept]
      rw [if_pos (h n (by omega) (by omega)), ih (by omega) (fun j h1 h2 => h j h1 (by omega))]
theorem kept_spec (l : List (List UInt8)) (n : Nat) : (∀ j, kept l n ≤ j → j < n → rcd l j = []) ∧ (0 < kept l n → rcd l (kept l n - 1) ≠ []) := by
  induction n with
  | zero => simp [kept]
  | succ n ih =>
    by_cases h : rcd l n = []
    · simp only [kept, if_pos h]
      refine ⟨fun j h1 h2 => ?_, ih.2⟩
      by_cases hj : j = n
      · rw [hj]; exact h
      · exact ih.1 j h1 (by omega)
    · simp only [kept, if_neg h]
      exact ⟨fun j h1 h2 => by omega, fun _ => by simpa using h⟩
/-- the list without its last empty ones -/
def trim (l : List (List UInt8)) : List (List UInt8) := l.take (kept l l.length)
theorem rcd_take (l : List (List UInt8)) (n j : Nat) (h : j < n) : rcd (l.take n) j = rcd l j := by
  unfold rcd List.getD; rw [List.getElem?_take, if_pos h]
theorem total_zero (l : List (List UInt8)) (n : Nat) (h : ∀ j, n ≤ j → rcd l j = []) : total (l.take n) = total l := by
  induction l generalizing n with
  | nil => simp
  | cons s l ih =>
    cases n with
    | zero =>
      have hs : s = [] := h 0 (Nat.le_refl _)
      have := ih 0 (fun j _ => h (j + 1) (by omega))
      simp [total] at this ⊢
      rw [hs, ← this]; rfl
    | succ n =>
      have := ih n (fun j hj => h (j + 1) (by omega))
      simp [total, this]
/-- the last slots, all without a record, go -/
theorem shrink {x : List UInt8} {l : List (List UInt8)} (h : Recs x l) (n : Nat) (hn : n ≤ l.length) (hn0 : 0 < n) (hz : ∀ j, n ≤ j → j < l.length → rcd l j = []) : Recs (SR.put x 0 n) (l.take n) := by
  have hf := h.few
  have hsz := h.size
  have hz' : ∀ j, n ≤ j → rcd l j = [] := fun j hj => by
    by_cases hl : j < l.length
    · exact hz j hj hl
    · exact SR.rcd_out l j (by omega)
  have hlen : (l.take n).length = n := by rw [List.length_take]; omega
  have h2 : ∀ b, 2 ≤ b → SR.two (SR.put x 0 n) b = SR.two x b := fun b hb => SR.two_put_other _ _ _ _ (by omega) (by omega)
  have hp : ∀ i, SR.pos (SR.put x 0 n) i = SR.pos x i := fun i => h2 _ (by omega)
  have he : ∀ i, SR.ext (SR.put x 0 n) i = SR.ext x i := fun i => h2 _ (by omega)
  have hlow : SR.low (SR.put x 0 n) = SR.low x := h2 _ (by omega)
  refine ⟨by rw [SR.put_length]; exact hsz, ?_, ?_, ?_, ?_, ?_, ?_, ?_, ?_, ?_⟩
  · rw [hlen]; exact SR.two_put_same _ _ _ (by omega) (by omega)
  · rw [hlow, hlen]; have := h.low1; omega
  · rw [hlow]; exact h.low2
  · intro h0
    have : (l.take n).length = 0 := by rw [h0]; rfl
    omega
  · intro i hi h0
    rw [hlen] at hi
    rw [rcd_take l n i hi] at h0
    rw [hp, he]; exact h.hole i (by omega) h0
  · intro i hi hne
    rw [hlen] at hi
    rw [rcd_take l n i hi] at hne ⊢
    rw [hp, he, hlow]; exact h.there i (by omega) hne
  · intro i hi k hk
    rw [hlen] at hi
    rw [rcd_take l n i hi] at hk ⊢
    have ht := h.there i (by omega) (by intro e; rw [e] at hk; simp at hk)
    have := h.low1
    rw [hp, SR.nth_put_far _ _ _ _ (by omega) (by omega)]
    exact h.bytes i (by omega) k hk
  · intro i j hi hj hij hine hjne
    rw [hlen] at hi hj
    rw [rcd_take l n i hi] at hine ⊢
    rw [rcd_take l n j hj] at hjne ⊢
    rw [hp, hp]
    exact h.apart i j (by omega) (by omega) hij hine hjne
  · rw [hlen, total_zero l n hz']
    have := h.sum
    omega
theorem shrink0 {x : List UInt8} {l : List (List UInt8)} (h : Recs x l) : Recs (SR.put (SR.put x 0 0) 2 504) [] := by
  have hsz := h.size
  have e0 : SR.two (SR.put (SR.put x 0 0) 2 504) 0 = 0 := by
    rw [SR.two_put_other _ _ _ _ (by rw [SR.put_length]; omega) (by omega)]
    exact SR.two_put_same _ _ _ (by omega) (by decide)
  have e2 : SR.low (SR.put (SR.put x 0 0) 2 504) = 504 := SR.two_put_same _ _ _ (by rw [SR.put_length]; omega) (by decide)
  refine ⟨by rw [SR.put_length, SR.put_length]; exact hsz, e0, by rw [e2]; decide, by rw [e2]; decide, fun _ => e2, ?_, ?_, ?_, ?_, by simp [total]⟩
  · intro i hi; simp at hi
  · intro i hi; simp at hi
  · intro i hi; simp at hi
  · intro i j hi; simp at hi
theorem room_hole (l : List (List UInt8)) (h : hole l < l.length) : room l = 500 - 4 * l.length - total l := by unfold room; rw [if_neg (by omega)]; omega
theorem room_end (l : List (List UInt8)) (h : hole l = l.length) : room l = 496 - 4 * l.length - total l := by unfold room; rw [if_pos h]; omega
end Go.Proofs.Ytdbnlcmnnoajoaa
