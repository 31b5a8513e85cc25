/-
  The laws' Full and awake; disks whose flags tell the free pages.
-/
import Derived.Test.YtjfkdfffolkblaaDoorDiskO
namespace Go.Proofs.YtjfkdfffolkblaaDoor
open Go.RowKit
open UK (str BytesAt nth Only w32 Row)
open Go.BigFrame
/-- the flags tell the free pages, each of which is there once -/
structure Sound (d : Dk) (cnt : Nat) : Prop where
  mark : ∀ p, p < cnt → d.isf.getD p false = decide (p ∈ d.free)
  nodup : d.free.Nodup
theorem nodup_le : ∀ (n : Nat) (l : List Nat), l.Nodup → (∀ x, x ∈ l → x < n) → l.length ≤ n
  | 0, [], _, _ => Nat.le_refl _
  | 0, x :: _, _, h => absurd (h x (List.mem_cons_self ..)) (Nat.not_lt_zero _)
  | n + 1, l, hn, h => by
    by_cases hm : n ∈ l
    · have h1 := nodup_le n (l.erase n) (hn.erase n) (fun x hx => by
        have h2 := h x (List.mem_of_mem_erase hx)
        have h3 : x ≠ n := fun e => by subst e; exact hn.not_mem_erase hx
        omega)
      rw [List.length_erase_of_mem hm] at h1
      omega
    · have h1 := nodup_le n l hn (fun x hx => by
        have h2 := h x hx
        have h3 : x ≠ n := fun e => by subst e; exact hm hx
        omega)
      omega
section
variable {d : Dk} {cnt : Nat}
theorem Sound.has (s : Sound d cnt) (p : Nat) : hasD d cnt p = decide (1 ≤ p ∧ p < cnt ∧ p ∉ d.free) := by
  unfold hasD
  rw [Int.toNat_natCast]
  by_cases h : 1 ≤ p ∧ p < cnt
  · rw [decide_eq_true (show (1 : Int) ≤ (p : Int) ∧ (p : Int) < cnt by omega), Bool.true_and, s.mark p h.2]
    by_cases hm : p ∈ d.free <;> simp [hm, h.1, h.2]
  · rw [decide_eq_false (show ¬ ((1 : Int) ≤ (p : Int) ∧ (p : Int) < cnt) by omega), Bool.false_and]
    exact (decide_eq_false (fun h' => h ⟨h'.1, h'.2.1⟩)).symm
theorem Sound.hasI (s : Sound d cnt) (p : Int) : hasD d cnt p = decide (1 ≤ p ∧ p < cnt ∧ p.toNat ∉ d.free) := by
  by_cases h : 1 ≤ p
  · obtain ⟨k, rfl⟩ : ∃ k : Nat, p = k := ⟨p.toNat, by omega⟩
    rw [s.has k, Int.toNat_natCast]
    exact decide_eq_decide.2 ⟨fun ⟨a, b, c⟩ => ⟨by omega, by omega, c⟩, fun ⟨a, b, c⟩ => ⟨by omega, by omega, c⟩⟩
  · unfold hasD
    rw [decide_eq_false (fun h' => h h'.1), Bool.false_and]
    exact (decide_eq_false (fun h' => h h'.1)).symm
theorem Sound.less (s : Sound d cnt) (f : Fit d cnt) {p : Nat} (hp : p < cnt) (hm : p ∉ d.free) : d.free.length < cnt := by
  have := nodup_le cnt (d.free ++ [p]) (List.nodup_append.2 ⟨s.nodup, List.pairwise_singleton _ _, fun a ha b hb => by
    rw [List.mem_singleton.1 hb]
    intro e; subst e; exact hm ha⟩) (fun x hx => by
      rcases List.mem_append.1 hx with hx | hx
      · exact (f.free x hx).2
      · rw [List.mem_singleton.1 hx]; exact hp)
  rw [List.length_append] at this
  exact this
theorem Sound.of_same {d' : Dk} (s : Sound d cnt) (h1 : d'.free = d.free) (h2 : d'.isf = d.isf) : Sound d' cnt := ⟨by rw [h1, h2]; exact s.mark, by rw [h1]; exact s.nodup⟩
theorem getD_set (l : List Bool) (i j : Nat) (b : Bool) (hi : i < l.length) : (l.set i b).getD j false = if i = j then b else l.getD j false := by
  rw [List.getD_eq_getElem?_getD, List.getD_eq_getElem?_getD, List.getElem?_set]
  by_cases h : i = j
  · subst h; rw [if_pos rfl, if_pos rfl, if_pos hi]; rfl
  · rw [if_neg h, if_neg h]
theorem Sound.give (s : Sound d cnt) (f : Fit d cnt) {p : Nat} (hp : p < cnt) (hm : p ∉ d.free) : Sound (giveD d p) cnt := by
  refine ⟨fun q hq => ?_, List.nodup_append.2 ⟨s.nodup, List.pairwise_singleton _ _, fun a ha b hb => by
    rw [List.mem_singleton.1 hb]
    intro e; subst e; exact hm ha⟩⟩
  show (d.isf.set p true).getD q false = decide (q ∈ d.free ++ [p])
  rw [getD_set _ _ _ _ (by rw [f.flags]; exact hp)]
  by_cases h : p = q
  · subst h; simp
  · rw [if_neg h, s.mark q hq]
    simp [Ne.symm h]
theorem Sound.takeF (s : Sound d cnt) (f : Fit d cnt) {l : List Nat} {p : Nat} (hl : d.free = l ++ [p]) : Sound (takeF d l p) cnt := by
  have hn := s.nodup
  rw [hl] at hn
  have hn2 := List.nodup_append.1 hn
  have hp := f.free p (by rw [hl]; exact List.mem_append_right _ (List.mem_singleton.2 rfl))
  refine ⟨fun q hq => ?_, hn2.1⟩
  show (d.isf.set p false).getD q false = decide (q ∈ l)
  rw [getD_set _ _ _ _ (by rw [f.flags]; exact hp.2)]
  by_cases h : p = q
  · subst h
    rw [if_pos rfl]
    exact (decide_eq_false (fun hm => hn2.2.2 p hm p (List.mem_singleton.2 rfl) rfl)).symm
  · rw [if_neg h, s.mark q hq, hl]
    simp [Ne.symm h]
theorem Sound.takeN (s : Sound d cnt) (f : Fit d cnt) (hl : d.free = []) : Sound (takeN d cnt) (cnt + 1) := by
  refine ⟨fun q hq => ?_, s.nodup⟩
  show (d.isf ++ [false]).getD q false = decide (q ∈ d.free)
  rw [hl, List.getD_eq_getElem?_getD]
  by_cases h : q < cnt
  · rw [List.getElem?_append_left (by rw [f.flags]; exact h), ← List.getD_eq_getElem?_getD, s.mark q h, hl]
  · have e : q = d.isf.length := by rw [f.flags]; omega
    rw [e, List.getElem?_append_right (Nat.le_refl _), Nat.sub_self]
    simp
end
/-- a disk where nothing is armed -/
structure Still (d : Dk) (most : Int) (free : List Nat) (puts : Int) : Prop where
  most : d.most = most
  free : d.free = free
  wl : d.wl = -1
  puts : d.puts = puts
theorem failN_off : failN (-1) = -1 := rfl
theorem failN_still {n : Int} (h : n = -1) : failN n = -1 := by rw [h]; rfl
theorem newD_is (pages : Int) : newD pages = { bareD pages with wl := -1, puts := 1, x := UK.wr (bareD pages).x 0 (pageL 0 (headL (bareD pages) 1)) } := by
  unfold newD flushD
  rw [if_neg (show ¬ (bareD pages).wl = 0 by show ¬ (-1 : Int) = 0; omega)]
  rfl
theorem newD_rl (pages : Int) : (newD pages).rl = -1 := by rw [newD_is]; rfl
theorem newD_reads (pages : Int) : (newD pages).reads = 0 := by rw [newD_is]; rfl
theorem newD_still (pages : Int) : Still (newD pages) (clampD pages) [] 1 := by rw [newD_is]; exact ⟨rfl, rfl, rfl, rfl⟩
theorem newD_sound (pages : Int) : Sound (newD pages) 1 := by
  rw [newD_is]
  refine ⟨fun p hp => ?_, List.Pairwise.nil⟩
  obtain rfl : p = 0 := by omega
  rfl
section
variable {d : Dk} {most : Int} {free : List Nat} {puts : Int}
theorem Still.takeN (s : Still d most free puts) (cnt : Nat) : Still (takeN d cnt) most free (puts + 1) := ⟨s.most, s.free, failN_still s.wl, congrArg (· + 1) s.puts⟩
theorem Still.takeF (s : Still d most free puts) (l : List Nat) (p : Nat) : Still (takeF d l p) most l (puts + 1) := ⟨s.most, rfl, failN_still s.wl, congrArg (· + 1) s.puts⟩
theorem Still.give (s : Still d most free puts) (p : Nat) : Still (giveD d p) most (free ++ [p]) (puts + 1) := ⟨s.most, congrArg (· ++ [p]) s.free, failN_still s.wl, congrArg (· + 1) s.puts⟩
theorem Still.write (s : Still d most free puts) (p : Nat) (t : List UInt8) : Still (writeD d p t) most free (puts + 1) := ⟨s.most, s.free, failN_still s.wl, congrArg (· + 1) s.puts⟩
theorem Still.ne (s : Still d most free puts) : d.wl ≠ 0 := by rw [s.wl]; omega
end
/-- a text as long as a page's bytes are -/
def fullL (s : List UInt8) : List UInt8 := s.take 504 ++ UK.zeros (504 - (s.take 504).length)
theorem fullL_length (s : List UInt8) : (fullL s).length = 504 := by
  unfold fullL
  rw [List.length_append, UK.zeros_length, List.length_take]
  omega
end Go.Proofs.YtjfkdfffolkblaaDoor
