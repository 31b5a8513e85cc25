/-
  Records of one length, in plain Lean: as they come, go, and come again.
-/
import Derived.Test.YtdbnlcmnnoajoaaSlotP
namespace Go.Proofs.Ytdbnlcmnnoajoaa
open SR (rcd total)
/-- k records, all of them s -/
structure Full (s : List UInt8) (k : Nat) (l : List (List UInt8)) : Prop where
  len : l.length = k
  all : ∀ j, j < k → rcd l j = s
namespace Full
variable {s : List UInt8} {k : Nat} {l : List (List UInt8)}
theorem start (s : List UInt8) : Full s 0 [] := ⟨rfl, fun _ h => absurd h (Nat.not_lt_zero _)⟩
theorem hole (h : Full s k l) (hs : s ≠ []) : hole l = k := by
  rw [hole_all l (fun j hj => by rw [h.all j (by rw [← h.len]; exact hj)]; exact hs), h.len]
theorem live (h : Full s k l) (hs : s ≠ []) : live l = k := by
  rw [live_of_all l (by rw [h.hole hs, h.len]), h.len]
theorem total (h : Full s k l) (hs : s ≠ []) : total l = s.length * k := by
  rw [total_same l s.length (fun j => by
    by_cases hj : j < k
    · right; rw [h.all j hj]
    · left; exact SR.rcd_out l j (by rw [h.len]; omega)), h.live hs]
theorem room (h : Full s k l) (hs : s ≠ []) : room l = 496 - 4 * (k : Int) - (s.length * k : Nat) := by
  rw [room_end l (by rw [h.hole hs, h.len]), h.total hs, h.len]
theorem add (h : Full s k l) (hs : s ≠ []) : Full s (k + 1) (add l s) := by
  refine ⟨?_, fun j hj => ?_⟩
  · unfold Go.Proofs.Ytdbnlcmnnoajoaa.add; rw [if_neg (by rw [h.hole hs, h.len]; omega)]; simp [h.len]
  · rw [rcd_add, h.hole hs]
    by_cases hjk : j = k
    · rw [if_pos hjk]
    · rw [if_neg hjk]; exact h.all j (by omega)
end Full
/-- at most k slots, each of them empty or s; the last one has a record -/
structure Some (s : List UInt8) (k m : Nat) (l : List (List UInt8)) : Prop where
  len : l.length ≤ k
  each : ∀ j, rcd l j = [] ∨ rcd l j = s
  many : live l = m
  last : l = [] ∨ rcd l (l.length - 1) ≠ []
namespace Some
variable {s : List UInt8} {k m : Nat} {l : List (List UInt8)}
theorem of_full (h : Full s k l) (hs : s ≠ []) : Some s k k l := by
  refine ⟨by rw [h.len]; exact Nat.le_refl _, fun j => ?_, h.live hs, ?_⟩
  · by_cases hj : j < k
    · right; exact h.all j hj
    · left; exact SR.rcd_out l j (by rw [h.len]; omega)
  · by_cases hk : k = 0
    · left; exact List.length_eq_zero_iff.1 (by rw [h.len, hk])
    · right; rw [h.len, h.all (k - 1) (by omega)]; exact hs
theorem total (h : Some s k m l) : total l = s.length * m := by
  rw [total_same l s.length (fun j => (h.each j).imp id (fun e => by rw [e])), h.many]
theorem le (h : Some s k m l) : m ≤ l.length := by rw [← h.many]; exact live_le l
theorem drop (h : Some s k (m + 1) l) {i : Nat} (hi : i < l.length) (hr : rcd l i = s) (hs : s ≠ []) : Some s k m (trim (l.set i [])) := by
  refine ⟨?_, fun j => ?_, ?_, trim_last _⟩
  · rw [trim_length]
    have := kept_le (l.set i []) (l.set i []).length
    have hl := h.len
    rw [List.length_set] at this ⊢
    omega
  · rw [rcd_trim, SR.rcd_set]
    by_cases hij : i = j ∧ i < l.length
    · rw [if_pos hij]; left; rfl
    · rw [if_neg hij]; exact h.each j
  · rw [live_trim]
    have h1 := live_set l i [] hi
    rw [hr, if_neg hs, if_pos rfl, h.many] at h1
    omega
theorem room_lo (h : Some s k m l) (hm : m < k) (hfit : (s.length + 4) * k ≤ 500) : (s.length : Int) ≤ room l := by
  have ht := h.total
  have hl := h.len
  have hle := h.le
  have e1 : s.length * (m + 1) ≤ s.length * k := Nat.mul_le_mul_left _ (by omega)
  have e2 : (s.length + 4) * k = s.length * k + 4 * k := Nat.add_mul _ _ _
  have e3 : s.length * (m + 1) = s.length * m + s.length := Nat.mul_succ _ _
  have hh := hole_le l
  by_cases hc : Go.Proofs.Ytdbnlcmnnoajoaa.hole l = l.length
  · have h2 := live_of_all l hc
    rw [h.many] at h2
    rw [room_end l hc, ht]
    omega
  · rw [room_hole l (by omega), ht]
    omega
theorem add (h : Some s k m l) (hm : m < k) (hs : s ≠ []) : Some s k (m + 1) (add l s) := by
  refine ⟨?_, fun j => ?_, by rw [live_add l s hs, h.many], add_last l s hs h.last⟩
  · have hl := h.len
    have hh := hole_le l
    unfold Go.Proofs.Ytdbnlcmnnoajoaa.add
    by_cases hc : Go.Proofs.Ytdbnlcmnnoajoaa.hole l < l.length
    · rw [if_pos hc]; simpa using hl
    · have h2 := live_of_all l (by omega)
      rw [h.many] at h2
      rw [if_neg hc]; simp; omega
  · rw [rcd_add]
    by_cases hj : j = Go.Proofs.Ytdbnlcmnnoajoaa.hole l
    · rw [if_pos hj]; right; rfl
    · rw [if_neg hj]; exact h.each j
theorem room_hi (h : Some s k k l) (hs : (500 : Int) < ((s.length + 4) * (k + 1) : Nat)) : room l < s.length := by
  have ht := h.total
  have hl := h.len
  have hle := h.le
  have h2 := live_all l (by rw [h.many]; omega)
  have hc := hole_all l h2
  have e2 : (s.length + 4) * (k + 1) = s.length * k + s.length + 4 * k + 4 := by
    rw [Nat.add_mul, Nat.mul_succ]; omega
  rw [room_end l hc, ht]
  omega
end Some
end Go.Proofs.Ytdbnlcmnnoajoaa
