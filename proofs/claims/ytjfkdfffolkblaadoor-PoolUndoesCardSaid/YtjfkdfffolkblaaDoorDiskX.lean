/-
  The laws' Full and awake; disks whose flags tell the free pages.
  The disk's calls, each in one word for all its ways.
-/
import Derived.Test.YtjfkdfffolkblaaDoorDiskO
namespace Go.Proofs.YtjfkdfffolkblaaDoor
open Go.RowKit
open UK (str BytesAt nth Only w32 Row)
open Go.BigFrame
/-- the flags tell the free pages, each of which is there once -/
structure Sound (d : Dk) (cnt : Nat) : Prop where
  mark : ∀ p, p < cnt → d.isf.getD p false = decide (p ∈ d.free)
  nodup : d.free.Nodup
theorem nodup_le : ∀ (n : Nat) (l : List Nat), l.Nodup → (∀ x, x ∈ l → x < n) → l.length ≤ n
  | 0, [], _, _ => Nat.le_refl _
  | 0, x :: _, _, h => absurd (h x (List.mem_cons_self ..)) (Nat.not_lt_zero _)
  | n + 1, l, hn, h => by
    by_cases hm : n ∈ l
    · have h1 := nodup_le n (l.erase n) (hn.erase n) (fun x hx => by
        have h2 := h x (List.mem_of_mem_erase hx)
        have h3 : x ≠ n := fun e => by subst e; exact hn.not_mem_erase hx
        omega)
      rw [List.length_erase_of_mem hm] at h1
      omega
    · have h1 := nodup_le n l hn (fun x hx => by
        have h2 := h x hx
        have h3 : x ≠ n := fun e => by subst e; exact hm hx
        omega)
      omega
section
variable {d : Dk} {cnt : Nat}
theorem Sound.has (s : Sound d cnt) (p : Nat) : hasD d cnt p = decide (1 ≤ p ∧ p < cnt ∧ p ∉ d.free) := by
  unfold hasD
  rw [Int.toNat_natCast]
  by_cases h : 1 ≤ p ∧ p < cnt
  · rw [decide_eq_true (show (1 : Int) ≤ (p : Int) ∧ (p : Int) < cnt by omega), Bool.true_and, s.mark p h.2]
    by_cases hm : p ∈ d.free <;> simp [hm, h.1, h.2]
  · rw [decide_eq_false (show ¬ ((1 : Int) ≤ (p : Int) ∧ (p : Int) < cnt) by omega), Bool.false_and]
    exact (decide_eq_false (fun h' => h ⟨h'.1, h'.2.1⟩)).symm
theorem Sound.hasI (s : Sound d cnt) (p : Int) : hasD d cnt p = decide (1 ≤ p ∧ p < cnt ∧ p.toNat ∉ d.free) := by
  by_cases h : 1 ≤ p
  · obtain ⟨k, rfl⟩ : ∃ k : Nat, p = k := ⟨p.toNat, by omega⟩
    rw [s.has k, Int.toNat_natCast]
    exact decide_eq_decide.2 ⟨fun ⟨a, b, c⟩ => ⟨by omega, by omega, c⟩, fun ⟨a, b, c⟩ => ⟨by omega, by omega, c⟩⟩
  · unfold hasD
    rw [decide_eq_false (fun h' => h h'.1), Bool.false_and]
    exact (decide_eq_false (fun h' => h h'.1)).symm
theorem Sound.less (s : Sound d cnt) (f : Fit d cnt) {p : Nat} (hp : p < cnt) (hm : p ∉ d.free) : d.free.length < cnt := by
  have := nodup_le cnt (d.free ++ [p]) (List.nodup_append.2 ⟨s.nodup, List.pairwise_singleton _ _, fun a ha b hb => by
    rw [List.mem_singleton.1 hb]
    intro e; subst e; exact hm ha⟩) (fun x hx => by
      rcases List.mem_append.1 hx with hx | hx
      · exact (f.free x hx).2
      · rw [List.mem_singleton.1 hx]; exact hp)
  rw [List.length_append] at this
  exact this
theorem Sound.of_same {d' : Dk} (s : Sound d cnt) (h1 : d'.free = d.free) (h2 : d'.isf = d.isf) : Sound d' cnt := ⟨by rw [h1, h2]; exact s.mark, by rw [h1]; exact s.nodup⟩
theorem getD_set (l : List Bool) (i j : Nat) (b : Bool) (hi : i < l.length) : (l.set i b).getD j false = if i = j then b else l.getD j false := by
  rw [List.getD_eq_getElem?_getD, List.getD_eq_getElem?_getD, List.getElem?_set]
  by_cases h : i = j
  · subst h; rw [if_pos rfl, if_pos rfl, if_pos hi]; rfl
  · rw [if_neg h, if_neg h]
theorem Sound.give (s : Sound d cnt) (f : Fit d cnt) {p : Nat} (hp : p < cnt) (hm : p ∉ d.free) : Sound (giveD d p) cnt := by
  refine ⟨fun q hq => ?_, List.nodup_append.2 ⟨s.nodup, List.pairwise_singleton _ _, fun a ha b hb => by
    rw [List.mem_singleton.1 hb]
    intro e; subst e; exact hm ha⟩⟩
  show (d.isf.set p true).getD q false = decide (q ∈ d.free ++ [p])
  rw [getD_set _ _ _ _ (by rw [f.flags]; exact hp)]
  by_cases h : p = q
  · subst h; simp
  · rw [if_neg h, s.mark q hq]
    simp [Ne.symm h]
theorem Sound.takeF (s : Sound d cnt) (f : Fit d cnt) {l : List Nat} {p : Nat} (hl : d.free = l ++ [p]) : Sound (takeF d l p) cnt := by
  have hn := s.nodup
  rw [hl] at hn
  have hn2 := List.nodup_append.1 hn
  have hp := f.free p (by rw [hl]; exact List.mem_append_right _ (List.mem_singleton.2 rfl))
  refine ⟨fun q hq => ?_, hn2.1⟩
  show (d.isf.set p false).getD q false = decide (q ∈ l)
  rw [getD_set _ _ _ _ (by rw [f.flags]; exact hp.2)]
  by_cases h : p = q
  · subst h
    rw [if_pos rfl]
    exact (decide_eq_false (fun hm => hn2.2.2 p hm p (List.mem_singleton.2 rfl) rfl)).symm
  · rw [if_neg h, s.mark q hq, hl]
    simp [Ne.symm h]
theorem Sound.takeN (s : Sound d cnt) (f : Fit d cnt) (hl : d.free = []) : Sound (takeN d cnt) (cnt + 1) := by
  refine ⟨fun q hq => ?_, s.nodup⟩
  show (d.isf ++ [false]).getD q false = decide (q ∈ d.free)
  rw [hl, List.getD_eq_getElem?_getD]
  by_cases h : q < cnt
  · rw [List.getElem?_append_left (by rw [f.flags]; exact h), ← List.getD_eq_getElem?_getD, s.mark q h, hl]
  · have e : q = d.isf.length := by rw [f.flags]; omega
    rw [e, List.getElem?_append_right (Nat.le_refl _), Nat.sub_self]
    simp
end
/-- a disk where nothing is armed -/
structure Still (d : Dk) (most : Int) (free : List Nat) (puts : Int) : Prop where
  most : d.most = most
  free : d.free = free
  wl : d.wl = -1
  puts : d.puts = puts
theorem failN_off : failN (-1) = -1 := rfl
theorem failN_still {n : Int} (h : n = -1) : failN n = -1 := by rw [h]; rfl
theorem newD_is (pages : Int) : newD pages = { bareD pages with wl := -1, puts := 1, x := UK.wr (bareD pages).x 0 (pageL 0 (headL (bareD pages) 1)) } := by
  unfold newD flushD
  rw [if_neg (show ¬ (bareD pages).wl = 0 by show ¬ (-1 : Int) = 0; omega)]
  rfl
theorem newD_rl (pages : Int) : (newD pages).rl = -1 := by rw [newD_is]; rfl
theorem newD_reads (pages : Int) : (newD pages).reads = 0 := by rw [newD_is]; rfl
theorem newD_still (pages : Int) : Still (newD pages) (clampD pages) [] 1 := by rw [newD_is]; exact ⟨rfl, rfl, rfl, rfl⟩
theorem newD_sound (pages : Int) : Sound (newD pages) 1 := by
  rw [newD_is]
  refine ⟨fun p hp => ?_, List.Pairwise.nil⟩
  obtain rfl : p = 0 := by omega
  rfl
section
variable {d : Dk} {most : Int} {free : List Nat} {puts : Int}
theorem Still.takeN (s : Still d most free puts) (cnt : Nat) : Still (takeN d cnt) most free (puts + 1) := ⟨s.most, s.free, failN_still s.wl, congrArg (· + 1) s.puts⟩
theorem Still.takeF (s : Still d most free puts) (l : List Nat) (p : Nat) : Still (takeF d l p) most l (puts + 1) := ⟨s.most, rfl, failN_still s.wl, congrArg (· + 1) s.puts⟩
theorem Still.give (s : Still d most free puts) (p : Nat) : Still (giveD d p) most (free ++ [p]) (puts + 1) := ⟨s.most, congrArg (· ++ [p]) s.free, failN_still s.wl, congrArg (· + 1) s.puts⟩
theorem Still.write (s : Still d most free puts) (p : Nat) (t : List UInt8) : Still (writeD d p t) most free (puts + 1) := ⟨s.most, s.free, failN_still s.wl, congrArg (· + 1) s.puts⟩
theorem Still.ne (s : Still d most free puts) : d.wl ≠ 0 := by rw [s.wl]; omega
end
/-- a text as long as a page's bytes are -/
def fullL (s : List UInt8) : List UInt8 := s.take 504 ++ UK.zeros (504 - (s.take 504).length)
theorem fullL_length (s : List UInt8) : (fullL s).length = 504 := by
  unfold fullL
  rw [List.length_append, UK.zeros_length, List.length_take]
  omega
end Go.Proofs.YtjfkdfffolkblaaDoor
namespace Go.Proofs.YtjfkdfffolkblaaDoor
open Go.RowKit
open UK (str BytesAt nth Only w32 Row)
open Go.BigFrame
def rwriteE (d : Dk) (cnt : Nat) (p : Int) (s : List UInt8) : Int := if hasD d cnt p = false then 4 else if s.length ≠ 504 then 1 else failE d.wl
def rwriteD (d : Dk) (cnt : Nat) (p : Int) (s : List UInt8) : Dk := if hasD d cnt p = false then d else if s.length ≠ 504 then d else if d.wl = 0 then { d with wl := -1 } else writeD d p.toNat s
def rreadE (d : Dk) (cnt : Nat) (p : Int) : Int := if hasD d cnt p = false then 4 else if d.rl = 0 then 7 else readE d.x p.toNat
def rreadS (d : Dk) (cnt : Nat) (p : Int) : List UInt8 := if hasD d cnt p = false then [] else if d.rl = 0 then [] else lookL d.x p.toNat
def rreadD (d : Dk) (cnt : Nat) (p : Int) : Dk := if hasD d cnt p = false then d else if d.rl = 0 then { d with rl := -1 } else readD d
def rgiveE (d : Dk) (cnt : Nat) (p : Int) : Int := if hasD d cnt p = false then 4 else failE d.wl
def rgiveD (d : Dk) (cnt : Nat) (p : Int) : Dk := if hasD d cnt p = false then d else if d.wl = 0 then { d with wl := -1 } else giveD d p.toNat
/-- a disk behind at most k calls -/
structure Ok (d : Dk) (cnt : Nat) (k : Nat) : Prop where
  fit : Fit d cnt
  so : Sound d cnt
  puts : d.puts ≤ k + 1
  reads : d.reads ≤ k
def tE (d : Dk) (cnt : Nat) : Int := if d.most ≤ cnt ∧ d.free = [] then 6 else if d.wl = 0 then 7 else 0
def tP (d : Dk) (cnt : Nat) : Nat := if d.most ≤ cnt ∧ d.free = [] then 0 else if d.wl = 0 then 0 else if d.free = [] then cnt else d.free.getLastD 0
def tD (d : Dk) (cnt : Nat) : Dk := if d.most ≤ cnt ∧ d.free = [] then d else if d.wl = 0 then { d with wl := -1 } else if d.free = [] then takeN d cnt else takeF d d.free.dropLast (d.free.getLastD 0)
def tC (d : Dk) (cnt : Nat) : Nat := if d.most ≤ cnt ∧ d.free = [] then cnt else if d.wl = 0 then cnt else if d.free = [] then cnt + 1 else cnt
theorem take_split (d : Dk) (cnt : Nat) :
    (d.most ≤ cnt ∧ d.free = [] ∧ tE d cnt = 6 ∧ tP d cnt = 0 ∧ tD d cnt = d ∧ tC d cnt = cnt) ∨
    (((cnt : Int) < d.most ∨ 0 < d.free.length) ∧ d.wl = 0 ∧ tE d cnt = 7 ∧ tP d cnt = 0 ∧ tD d cnt = { d with wl := -1 } ∧ tC d cnt = cnt) ∨
    ((cnt : Int) < d.most ∧ d.wl ≠ 0 ∧ d.free = [] ∧ tE d cnt = 0 ∧ tP d cnt = cnt ∧ tD d cnt = takeN d cnt ∧ tC d cnt = cnt + 1) ∨
    (d.wl ≠ 0 ∧ ∃ l p, d.free = l ++ [p] ∧ tE d cnt = 0 ∧ tP d cnt = p ∧ tD d cnt = takeF d l p ∧ tC d cnt = cnt) := by
  by_cases h1 : d.most ≤ cnt ∧ d.free = []
  · exact .inl ⟨h1.1, h1.2, by unfold tE; rw [if_pos h1], by unfold tP; rw [if_pos h1], by unfold tD; rw [if_pos h1], by unfold tC; rw [if_pos h1]⟩
  · have hor : (cnt : Int) < d.most ∨ 0 < d.free.length := by
      by_cases hm : d.most ≤ cnt
      · exact .inr (List.length_pos_iff.2 (fun e => h1 ⟨hm, e⟩))
      · exact .inl (by omega)
    by_cases h2 : d.wl = 0
    · exact .inr (.inl ⟨hor, h2, by unfold tE; rw [if_neg h1, if_pos h2], by unfold tP; rw [if_neg h1, if_pos h2], by unfold tD; rw [if_neg h1, if_pos h2], by unfold tC; rw [if_neg h1, if_pos h2]⟩)
    · by_cases h3 : d.free = []
      · refine .inr (.inr (.inl ⟨?_, h2, h3, by unfold tE; rw [if_neg h1, if_neg h2], by unfold tP; rw [if_neg h1, if_neg h2, if_pos h3], by unfold tD; rw [if_neg h1, if_neg h2, if_pos h3], by unfold tC; rw [if_neg h1, if_neg h2, if_pos h3]⟩))
        rcases hor with h | h
        · exact h
        · rw [h3] at h; simp at h
      · refine .inr (.inr (.inr ⟨h2, d.free.dropLast, d.free.getLastD 0, ?_, by unfold tE; rw [if_neg h1, if_neg h2], by unfold tP; rw [if_neg h1, if_neg h2, if_neg h3], by unfold tD; rw [if_neg h1, if_neg h2, if_neg h3], by unfold tC; rw [if_neg h1, if_neg h2, if_neg h3]⟩))
        have := List.dropLast_concat_getLast h3
        rw [List.getLastD_eq_getLast?, List.getLast?_eq_some_getLast h3]
        exact this.symm
section
variable {S : Nat → Prop} {N k : Nat} {W w : World} {D cnt gp cp fc : Nat} {fo : Option Addr} {d : Dk}
theorem Ok.take (h : Ok d cnt k) (hk : k < 900000000) : Ok (tD d cnt) (tC d cnt) (k + 1) := by
  have hp := h.puts
  have hr := h.reads
  have h3 : d.puts + 1 < 1000000000 := by omega
  rcases take_split d cnt with ⟨_, _, _, _, e, c⟩ | ⟨_, _, _, _, e, c⟩ | ⟨hm, _, hf, _, _, e, c⟩ | ⟨_, l, p, hl, _, _, e, c⟩
  · rw [e, c]; exact ⟨h.fit, h.so, by omega, by omega⟩
  · rw [e, c]; exact ⟨fit_wl h.fit (-1) (by omega), h.so.of_same rfl rfl, by show d.puts ≤ _; omega, by show d.reads ≤ _; omega⟩
  · rw [e, c]; exact ⟨fit_takeN h.fit h3 hf hm, h.so.takeN h.fit hf, by show d.puts + 1 ≤ _; omega, by show d.reads ≤ _; omega⟩
  · rw [e, c]; exact ⟨fit_takeF h.fit h3 l p hl, h.so.takeF h.fit hl, by show d.puts + 1 ≤ _; omega, by show d.reads ≤ _; omega⟩
theorem dd_take_u (h : DD S W D d cnt) (o : Ok d cnt k) (hk : k < 900000000) :
    Calls Tryd.prog 86 #[.pointer (some ⟨D, 0, none⟩)] W fun e w' => e = .returned (.tuple #[.int .i64 (tP d cnt), .int .i64 (tE d cnt)]) ∧ DD S w' D (tD d cnt) (tC d cnt) ∧ Kept S W w' := by
  have hp := o.puts
  have h3 : d.puts + 1 < 1000000000 := by omega
  have hm3 := o.fit.most.2.2
  rcases take_split d cnt with ⟨hm, hf, a, b, e, c⟩ | ⟨hor, hz, a, b, e, c⟩ | ⟨hm, hz, hf, a, b, e, c⟩ | ⟨hz, l, p, hl, a, b, e, c⟩
  · rw [a, b, e, c]; exact dd_take_full h (by rw [hf, List.length_nil]; omega)
  · rw [a, b, e, c]; exact dd_take_fail h (by omega) hz
  · rw [a, b, e, c]; exact dd_take_new h h3 hf hm hz
  · rw [a, b, e, c]; exact dd_take_free h h3 l p hl hz
theorem has_nat {p : Int} (hh : ¬ hasD d cnt p = false) : ∃ q : Nat, p = q ∧ hasD d cnt (q : Int) = true := by
  have h1 : hasD d cnt p = true := by simpa using hh
  have h2 : 1 ≤ p := by unfold hasD at h1; rw [Bool.and_eq_true, decide_eq_true_eq] at h1; omega
  exact ⟨p.toNat, by omega, by rw [show ((p.toNat : Nat) : Int) = p by omega]; exact h1⟩
theorem Ok.free (h : Ok d cnt k) {q : Nat} (hh : hasD d cnt (q : Int) = true) : q < cnt ∧ q ∉ d.free ∧ d.free.length < cnt := by
  rw [h.so.has q, decide_eq_true_eq] at hh
  exact ⟨hh.2.1, hh.2.2, h.so.less h.fit hh.2.1 hh.2.2⟩
theorem dd_give_u (h : DD S W D d cnt) (o : Ok d cnt k) (hk : k < 900000000) (p : Int) :
    Calls Tryd.prog 108 #[.pointer (some ⟨D, 0, none⟩), .int .i64 p] W fun e w' => e = .returned (.int .i64 (rgiveE d cnt p)) ∧ DD S w' D (rgiveD d cnt p) cnt ∧ Kept S W w' := by
  have hp := o.puts
  unfold rgiveE rgiveD
  by_cases hh : hasD d cnt p = false
  · rw [if_pos hh, if_pos hh]; exact dd_give_no h p hh
  · rw [if_neg hh, if_neg hh]
    obtain ⟨q, rfl, hq⟩ := has_nat hh
    by_cases hz : d.wl = 0
    · rw [if_pos hz, show failE d.wl = 7 by unfold failE; rw [if_pos hz]]; exact dd_give_fail h q hq hz
    · rw [if_neg hz, show failE d.wl = 0 by unfold failE; rw [if_neg hz]]
      exact dd_give_yes h (by omega) q hq (o.free hq).2.2 hz
theorem Ok.give (h : Ok d cnt k) (hk : k < 900000000) (p : Int) : Ok (rgiveD d cnt p) cnt (k + 1) := by
  have hp := h.puts
  have hr := h.reads
  unfold rgiveD
  by_cases hh : hasD d cnt p = false
  · rw [if_pos hh]; exact ⟨h.fit, h.so, by omega, by omega⟩
  · rw [if_neg hh]
    obtain ⟨q, rfl, hq⟩ := has_nat hh
    by_cases hz : d.wl = 0
    · rw [if_pos hz]; exact ⟨fit_wl h.fit (-1) (by omega), h.so.of_same rfl rfl, by show d.puts ≤ _; omega, by show d.reads ≤ _; omega⟩
    · rw [if_neg hz]
      exact ⟨fit_give h.fit (by omega) q (has_lt hq).1 (has_lt hq).2.1 (h.free hq).2.2, h.so.give h.fit (h.free hq).1 (h.free hq).2.1, by show d.puts + 1 ≤ _; omega, by show d.reads ≤ _; omega⟩
theorem dd_read_u (h : DD S W D d cnt) (o : Ok d cnt k) (hk : k < 900000000) (p : Int) :
    Calls Tryd.prog 24 #[.pointer (some ⟨D, 0, none⟩), .int .i64 p] W fun e w' => e = .returned (.tuple #[.string (str (rreadS d cnt p)), .int .i64 (rreadE d cnt p)]) ∧ DD S w' D (rreadD d cnt p) cnt ∧ Kept S W w' := by
  have hr := o.reads
  unfold rreadS rreadE rreadD
  by_cases hh : hasD d cnt p = false
  · rw [if_pos hh, if_pos hh, if_pos hh]; exact dd_read_no h p hh
  · rw [if_neg hh, if_neg hh, if_neg hh]
    obtain ⟨q, rfl, hq⟩ := has_nat hh
    by_cases hz : d.rl = 0
    · rw [if_pos hz, if_pos hz, if_pos hz]; exact dd_read_fail h q hq hz
    · rw [if_neg hz, if_neg hz, if_neg hz]; exact dd_read_yes h (by omega) q hq hz
theorem Ok.read (h : Ok d cnt k) (hk : k < 900000000) (p : Int) : Ok (rreadD d cnt p) cnt (k + 1) := by
  have hp := h.puts
  have hr := h.reads
  unfold rreadD
  by_cases hh : hasD d cnt p = false
  · rw [if_pos hh]; exact ⟨h.fit, h.so, by omega, by omega⟩
  · rw [if_neg hh]
    by_cases hz : d.rl = 0
    · rw [if_pos hz]; exact ⟨fit_rl h.fit (-1) (by omega), h.so.of_same rfl rfl, by show d.puts ≤ _; omega, by show d.reads ≤ _; omega⟩
    · rw [if_neg hz]; exact ⟨fit_read h.fit (by omega), h.so.of_same rfl rfl, by show d.puts ≤ _; omega, by show d.reads + 1 ≤ _; omega⟩
theorem dd_write_u (h : DD S W D d cnt) (o : Ok d cnt k) (hk : k < 900000000) (p : Int) (s : List UInt8) :
    Calls Tryd.prog 114 #[.pointer (some ⟨D, 0, none⟩), .int .i64 p, .string (str s)] W fun e w' => e = .returned (.int .i64 (rwriteE d cnt p s)) ∧ DD S w' D (rwriteD d cnt p s) cnt ∧ Kept S W w' := by
  have hp := o.puts
  unfold rwriteE rwriteD
  by_cases hh : hasD d cnt p = false
  · rw [if_pos hh, if_pos hh]; exact dd_write_no h p hh s
  · rw [if_neg hh, if_neg hh]
    obtain ⟨q, rfl, hq⟩ := has_nat hh
    by_cases hs : s.length ≠ 504
    · rw [if_pos hs, if_pos hs]; exact dd_write_arg h q hq s hs
    · rw [if_neg hs, if_neg hs]
      by_cases hz : d.wl = 0
      · rw [if_pos hz, show failE d.wl = 7 by unfold failE; rw [if_pos hz]]; exact dd_write_fail h q hq hz s (by omega)
      · rw [if_neg hz, show failE d.wl = 0 by unfold failE; rw [if_neg hz]]
        exact dd_write_yes h (by omega) q hq hz s (by omega)
theorem Ok.write (h : Ok d cnt k) (hk : k < 900000000) (p : Int) (s : List UInt8) : Ok (rwriteD d cnt p s) cnt (k + 1) := by
  have hp := h.puts
  have hr := h.reads
  unfold rwriteD
  by_cases hh : hasD d cnt p = false
  · rw [if_pos hh]; exact ⟨h.fit, h.so, by omega, by omega⟩
  · rw [if_neg hh]
    obtain ⟨q, rfl, hq⟩ := has_nat hh
    by_cases hs : s.length ≠ 504
    · rw [if_pos hs]; exact ⟨h.fit, h.so, by omega, by omega⟩
    · rw [if_neg hs]
      by_cases hz : d.wl = 0
      · rw [if_pos hz]; exact ⟨fit_wl h.fit (-1) (by omega), h.so.of_same rfl rfl, by show d.puts ≤ _; omega, by show d.reads ≤ _; omega⟩
      · rw [if_neg hz]
        exact ⟨fit_write h.fit (by omega) q (has_lt hq).2.1 s (by omega), h.so.of_same rfl rfl, by show d.puts + 1 ≤ _; omega, by show d.reads ≤ _; omega⟩
theorem Ok.flush (h : Ok d cnt k) (hk : k < 900000000) : Ok (flushD d cnt) cnt (k + 1) := by
  have hp := h.puts
  have hr := h.reads
  have hf := fit_flush h.fit (by omega)
  unfold flushD at hf ⊢
  by_cases hz : d.wl = 0
  · rw [if_pos hz] at hf ⊢; exact ⟨hf, h.so.of_same rfl rfl, by show d.puts ≤ _; omega, by show d.reads ≤ _; omega⟩
  · rw [if_neg hz] at hf ⊢; exact ⟨hf, h.so.of_same rfl rfl, by show d.puts + 1 ≤ _; omega, by show d.reads ≤ _; omega⟩
theorem Ok.rl (h : Ok d cnt k) (n : Int) (hn : n ≤ 9223372036854775807) : Ok { d with rl := armN n } cnt (k + 1) := by
  have hp := h.puts
  have hr := h.reads
  exact ⟨fit_rl h.fit _ (armN_wf n hn), h.so.of_same rfl rfl, by show d.puts ≤ _; omega, by show d.reads ≤ _; omega⟩
theorem Ok.wl (h : Ok d cnt k) (n : Int) (hn : n ≤ 9223372036854775807) : Ok { d with wl := armN n } cnt (k + 1) := by
  have hp := h.puts
  have hr := h.reads
  exact ⟨fit_wl h.fit _ (armN_wf n hn), h.so.of_same rfl rfl, by show d.puts ≤ _; omega, by show d.reads ≤ _; omega⟩
theorem Ok.spoil (h : Ok d cnt k) (i : Nat) (b : UInt8) : Ok (spoilD d i b) cnt (k + 1) := by
  have hp := h.puts
  have hr := h.reads
  exact ⟨fit_spoil h.fit i b, h.so.of_same rfl rfl, by show d.puts ≤ _; omega, by show d.reads ≤ _; omega⟩
theorem Ok.more (h : Ok d cnt k) : Ok d cnt (k + 1) := ⟨h.fit, h.so, by have := h.puts; omega, by have := h.reads; omega⟩
theorem Ok.new (n : Int) : Ok (newD n) 1 0 :=
  ⟨fit_flush (fit_bare n) (by show (0 : Int) + 1 < _; omega), newD_sound n, by rw [(newD_still n).puts]; omega, by rw [newD_reads]; omega⟩
def sB (cnt : Nat) (n : Int) : Bool := decide (0 ≤ n ∧ n < 512 * (cnt : Int))
def sD (d : Dk) (cnt : Nat) (n : Int) (b : UInt8) : Dk := if 0 ≤ n ∧ n < 512 * (cnt : Int) then spoilD d n.toNat b else d
theorem Ok.spoilU (h : Ok d cnt k) (n : Int) (b : UInt8) : Ok (sD d cnt n b) cnt (k + 1) := by
  unfold sD
  split
  · exact h.spoil _ b
  · exact h.more
end
end Go.Proofs.YtjfkdfffolkblaaDoor
