/-
  Pages of a disk's bytes, plain: what is laid is read; what is laid elsewhere doesn't show; what is spoilt isn't read. A disk's bytes opened, in plain words. A disk without faults, and its bytes behind Flush, in plain words.
  The hand finds a page that may go, where there is one. A calm pool, in plain words: no fault, and what each page has.
-/
import Derived.Test.YtfljlcfmdcepnaaGreatDoorJDiskX
import Derived.Test.YtfljlcfmdcepnaaGreatDoorJDiskG
namespace Go.Proofs.YtfljlcfmdcepnaaGreatDoor
open UK (nth w32)
def pgOf (x : List UInt8) (p : Nat) : List UInt8 := (x.drop (512 * p)).take 512
def okP (g : List UInt8) (p : Nat) : Bool := decide (getL (g.take 4) = addU 0 (g.drop 4)) && decide (((getL ((g.drop 4).take 4)).toNat : Int) = p)
theorem pgOf_length {x : List UInt8} {p : Nat} (h : 512 * (p + 1) ≤ x.length) : (pgOf x p).length = 512 := by
  unfold pgOf
  rw [List.length_take, List.length_drop]; omega
theorem okB_pg (x : List UInt8) (p : Nat) : okB x p = okP (pgOf x p) p := by
  unfold okB okP pgOf
  rw [List.take_take, List.drop_take, List.take_take, List.drop_drop]
  rfl
theorem loadL_pg (x : List UInt8) (p : Nat) : loadL x p = (pgOf x p).drop 8 := by
  unfold loadL pgOf
  rw [List.drop_take, List.drop_drop]
theorem nth_take (l : List UInt8) (n i : Nat) (h : i < n) : nth (l.take n) i = nth l i := by
  unfold nth
  rw [List.getD_eq_getElem?_getD, List.getD_eq_getElem?_getD, List.getElem?_take_of_lt h]
theorem nth_drop (l : List UInt8) (n i : Nat) : nth (l.drop n) i = nth l (n + i) := by
  unfold nth
  rw [List.getD_eq_getElem?_getD, List.getD_eq_getElem?_getD, List.getElem?_drop]
theorem ext_nth {l m : List UInt8} (hl : l.length = m.length) (h : ∀ i, i < l.length → nth l i = nth m i) : l = m := by
  refine List.ext_getElem? (fun i => ?_)
  by_cases hi : i < l.length
  · have := h i hi
    unfold nth at this
    rw [List.getD_eq_getElem?_getD, List.getD_eq_getElem?_getD, List.getElem?_eq_getElem hi, List.getElem?_eq_getElem (by omega)] at this
    rw [List.getElem?_eq_getElem hi, List.getElem?_eq_getElem (by omega)]
    exact congrArg some this
  · rw [List.getElem?_eq_none (by omega), List.getElem?_eq_none (by omega)]
theorem nth_wr (x : List UInt8) (a : Nat) (s : List UInt8) (i : Nat) (h : a + s.length ≤ x.length) : nth (UK.wr x a s) i = if a ≤ i ∧ i < a + s.length then nth s (i - a) else nth x i := by
  unfold UK.wr nth
  have h1 : (x.take a).length = a := by rw [List.length_take]; omega
  rw [List.getD_eq_getElem?_getD, List.getD_eq_getElem?_getD, List.getD_eq_getElem?_getD, List.getElem?_append, List.getElem?_append, h1, List.getElem?_drop]
  by_cases h2 : i < a
  · rw [if_pos h2, if_neg (by omega), List.getElem?_take_of_lt h2]
  · rw [if_neg h2]
    by_cases h3 : i - a < s.length
    · rw [if_pos h3, if_pos (by omega)]
    · rw [if_neg h3, if_neg (by omega), show a + s.length + (i - a - s.length) = i by omega]
theorem nth_pg (x : List UInt8) (p i : Nat) (h : i < 512) : nth (pgOf x p) i = nth x (512 * p + i) := by
  unfold pgOf
  rw [nth_take _ _ _ h, nth_drop]
theorem pgOf_wr (x : List UInt8) (p q : Nat) (s : List UInt8) (hs : s.length = 512) (h : 512 * (p + 1) ≤ x.length) (hq : 512 * (q + 1) ≤ x.length) : pgOf (UK.wr x (512 * p) s) q = if p = q then s else pgOf x q := by
  have hw := UK.wr_length x (512 * p) s (by omega)
  refine ext_nth ?_ (fun i hi => ?_)
  · rw [pgOf_length (by omega)]
    split
    · exact hs.symm
    · exact (pgOf_length hq).symm
  · rw [pgOf_length (by omega)] at hi
    rw [nth_pg _ _ _ hi, nth_wr _ _ _ _ (by omega)]
    by_cases e : p = q
    · subst e
      rw [if_pos (by omega), if_pos rfl, show 512 * p + i - 512 * p = i by omega]
    · rw [if_neg (by omega), if_neg e, nth_pg _ _ _ hi]
theorem pageL_is (p : Nat) (s : List UInt8) (hs : s.length = 504) : pageL p s = putL (addU 0 (putL (w32 p) ++ s)) ++ (putL (w32 p) ++ s) := by
  unfold pageL restL
  rw [show 504 - s.length = 0 by omega]
  show putL (addU 0 (putL (w32 p) ++ (s ++ []))) ++ (putL (w32 p) ++ (s ++ [])) = _
  rw [List.append_nil]
theorem putL_take4 (c : UInt32) (l : List UInt8) : (putL c ++ l).take 4 = putL c := rfl
theorem putL_drop4 (c : UInt32) (l : List UInt8) : (putL c ++ l).drop 4 = l := rfl
theorem okP_page (p : Nat) (hp : p ≤ 60000) (s : List UInt8) : okP (pageL p s) p = true := by
  unfold okP pageL
  rw [putL_take4, putL_drop4, get_put]
  unfold restL
  rw [putL_take4, get_put]
  rw [decide_eq_true rfl, Bool.true_and, decide_eq_true_eq, ← UK.w32_is p]
  omega
theorem load_page (p : Nat) (s : List UInt8) (hs : s.length = 504) : (pageL p s).drop 8 = s := by
  rw [pageL_is p s hs]; rfl
theorem look_wr (x : List UInt8) (p : Nat) (hp : p ≤ 60000) (s : List UInt8) (hs : s.length = 504) (h : 512 * (p + 1) ≤ x.length) : lookL (UK.wr x (512 * p) (pageL p s)) p = s ∧ readE (UK.wr x (512 * p) (pageL p s)) p = 0 := by
  have e : pgOf (UK.wr x (512 * p) (pageL p s)) p = pageL p s := by rw [pgOf_wr x p p _ (pageL_length p s (by omega)) h h, if_pos rfl]
  have ok : okB (UK.wr x (512 * p) (pageL p s)) p = true := by rw [okB_pg, e]; exact okP_page p hp s
  unfold readE
  rw [lookL_yes ok, ok, loadL_pg, e, load_page p s hs]
  exact ⟨rfl, rfl⟩
end Go.Proofs.YtfljlcfmdcepnaaGreatDoor
namespace Go.Proofs.YtfljlcfmdcepnaaGreatDoor
open Go.RowKit
open UK (str BytesAt nth Only w32 Row)
def magicL : List UInt8 := [84, 65, 66, 85, 76, 65, 82, 49]
def linkL (x : List UInt8) (q : Nat) : List UInt8 := (loadL x q).take 4
def wordN (s : List UInt8) : Nat := (getL s).toNat
def chain (x : List UInt8) (n : Nat) : Nat → List Nat → List UInt8 → Int × List Nat
  | 0, l, _ => (0, l)
  | k + 1, l, p => if p = putL (w32 4294967295) then (0, l) else if wordN p < 1 ∨ n ≤ wordN p ∨ wordN p ∈ l then (3, []) else if okB x (wordN p) = false then (8, []) else chain x n k (l ++ [wordN p]) (linkL x (wordN p))
def flagsL (n : Nat) (l : List Nat) : List Bool := (List.range n).map fun p => decide (p ∈ l)
theorem flagsL_length (n : Nat) (l : List Nat) : (flagsL n l).length = n := by simp [flagsL]
theorem flagsL_get (n : Nat) (l : List Nat) (p : Nat) (h : p < n) : (flagsL n l).getD p false = decide (p ∈ l) := by
  rw [List.getD_eq_getElem?_getD, List.getElem?_eq_getElem (by rw [flagsL_length]; exact h)]
  simp [flagsL]
theorem flagsL_nil (n : Nat) : flagsL n [] = List.replicate n false := by
  refine List.ext_getElem (by simp [flagsL]) (fun i h1 h2 => ?_)
  simp [flagsL]
theorem flagsL_set (n : Nat) (l : List Nat) (p : Nat) : (flagsL n l).set p true = flagsL n (l ++ [p]) := by
  refine List.ext_getElem (by simp [flagsL]) (fun i h1 h2 => ?_)
  rw [List.getElem_set]
  by_cases e : p = i
  · subst e; simp [flagsL]
  · rw [if_neg e]
    simp only [flagsL, List.getElem_map, List.getElem_range]
    refine decide_eq_decide.2 ⟨fun h => List.mem_append_left _ h, fun h => ?_⟩
    rcases List.mem_append.1 h with h | h
    · exact h
    · exact absurd (List.mem_singleton.1 h).symm e
def openR (s : List UInt8) (pages : Int) : Int × List Nat :=
  if s.length / 512 < 1 ∨ s.length % 512 ≠ 0 ∨ clampD pages < (s.length / 512 : Nat) then (3, [])
  else if okB s 0 = false then (8, [])
  else if (loadL s 0).take 8 ≠ magicL ∨ ((loadL s 0).drop 8).take 4 ≠ putL (w32 (s.length / 512)) then (3, [])
  else chain s (s.length / 512) (s.length / 512 + 1) [] (((loadL s 0).drop 12).take 4)
def openD (s : List UInt8) (pages : Int) : Dk :=
  { x := s, most := clampD pages, free := (openR s pages).2.reverse, isf := flagsL (s.length / 512) (openR s pages).2, rl := -1, wl := -1, reads := 0, puts := 0 }
structure OnWay (n : Nat) (l : List Nat) : Prop where
  nodup : l.Nodup
  lt : ∀ p, p ∈ l → 1 ≤ p ∧ p < n
theorem OnWay.nil (n : Nat) : OnWay n [] := ⟨List.nodup_nil, fun p h => by cases h⟩
theorem OnWay.snoc {n : Nat} {l : List Nat} (h : OnWay n l) {p : Nat} (h1 : 1 ≤ p) (h2 : p < n) (h3 : p ∉ l) : OnWay n (l ++ [p]) :=
  ⟨List.nodup_append.2 ⟨h.nodup, List.pairwise_singleton _ _, fun a ha b hb => by rw [List.mem_singleton.1 hb]; exact fun e => h3 (e ▸ ha)⟩, fun q hq => by
    rcases List.mem_append.1 hq with hq | hq
    · exact h.lt q hq
    · rw [List.mem_singleton.1 hq]; exact ⟨h1, h2⟩⟩
theorem OnWay.few {n : Nat} {l : List Nat} (h : OnWay n l) (hn : 1 ≤ n) : l.length + 1 ≤ n := by
  have := nodup_le n (0 :: l) (List.nodup_cons.2 ⟨fun h0 => by have := (h.lt 0 h0).1; omega, h.nodup⟩) (fun x hx => by
    rcases List.mem_cons.1 hx with rfl | hx
    · omega
    · exact (h.lt x hx).2)
  simpa using this
theorem chain_onway (x : List UInt8) (n : Nat) : ∀ (k : Nat) (l : List Nat) (p : List UInt8), OnWay n l → OnWay n (chain x n k l p).2
  | 0, l, p, h => h
  | k + 1, l, p, h => by
    unfold chain
    split
    · exact h
    · split
      · exact OnWay.nil n
      · rename_i hh
        split
        · exact OnWay.nil n
        · exact chain_onway x n k _ _ (h.snoc (by omega) (by omega) (fun hm => hh (.inr (.inr hm))))
theorem openR_onway (s : List UInt8) (pages : Int) : OnWay (s.length / 512) (openR s pages).2 := by
  unfold openR
  split
  · exact OnWay.nil _
  · split
    · exact OnWay.nil _
    · split
      · exact OnWay.nil _
      · exact chain_onway _ _ _ _ _ (OnWay.nil _)
theorem chain_step (x : List UInt8) (n k : Nat) (l : List Nat) (p : List UInt8) (hk : l.length < k) (h0 : p ≠ putL (w32 4294967295)) (h1 : 1 ≤ wordN p) (h2 : wordN p < n) (h3 : wordN p ∉ l) (h4 : okB x (wordN p) = true) :
    chain x n (k - l.length) l p = chain x n (k - (l ++ [wordN p]).length) (l ++ [wordN p]) (linkL x (wordN p)) := by
  obtain ⟨m, hm⟩ : ∃ m, k - l.length = m + 1 := ⟨k - l.length - 1, by omega⟩
  rw [hm]
  conv => lhs; unfold chain
  rw [if_neg h0, if_neg (by rintro (a | a | a); omega; omega; exact h3 a), h4, if_neg (by simp)]
  rw [show k - (l ++ [wordN p]).length = m by rw [List.length_append, List.length_singleton]; omega]
theorem chain_end (x : List UInt8) (n k : Nat) (l : List Nat) (p : List UInt8) (hk : l.length < k) (h0 : p = putL (w32 4294967295)) : chain x n (k - l.length) l p = (0, l) := by
  obtain ⟨m, hm⟩ : ∃ m, k - l.length = m + 1 := ⟨k - l.length - 1, by omega⟩
  rw [hm]
  unfold chain
  rw [if_pos h0]
theorem chain_form (x : List UInt8) (n k : Nat) (l : List Nat) (p : List UInt8) (hk : l.length < k) (h0 : p ≠ putL (w32 4294967295)) (h1 : wordN p < 1 ∨ n ≤ wordN p ∨ wordN p ∈ l) : chain x n (k - l.length) l p = (3, []) := by
  obtain ⟨m, hm⟩ : ∃ m, k - l.length = m + 1 := ⟨k - l.length - 1, by omega⟩
  rw [hm]
  unfold chain
  rw [if_neg h0, if_pos h1]
theorem chain_spoil (x : List UInt8) (n k : Nat) (l : List Nat) (p : List UInt8) (hk : l.length < k) (h0 : p ≠ putL (w32 4294967295)) (h1 : 1 ≤ wordN p) (h2 : wordN p < n) (h3 : wordN p ∉ l) (h4 : okB x (wordN p) = false) : chain x n (k - l.length) l p = (8, []) := by
  obtain ⟨m, hm⟩ : ∃ m, k - l.length = m + 1 := ⟨k - l.length - 1, by omega⟩
  rw [hm]
  unfold chain
  rw [if_neg h0, if_neg (by rintro (a | a | a); omega; omega; exact h3 a), if_pos h4]
theorem fit_open (s : List UInt8) (pages : Int) (l : List Nat) (h1 : 1 ≤ s.length / 512) (h2 : s.length % 512 = 0) (h3 : ((s.length / 512 : Nat) : Int) ≤ clampD pages) (ho : OnWay (s.length / 512) l) (fl : List Nat) (hf : fl.length ≤ l.length) (hm : ∀ p, p ∈ fl → p ∈ l) :
    Fit { x := s, most := clampD pages, free := fl, isf := flagsL (s.length / 512) l, rl := -1, wl := -1, reads := 0, puts := 0 } (s.length / 512) := by
  have hc : 2 ≤ clampD pages ∧ clampD pages ≤ 60000 := by unfold clampD; omega
  have hfew := ho.few h1
  exact ⟨by show s.length = _; omega, flagsL_length _ _, h1, by omega, ⟨hc.1, hc.2, h3⟩, fun p hp => ho.lt p (hm p hp), by show fl.length ≤ _; omega, by show (-1 : Int) ≤ -1 ∧ (-1 : Int) ≤ _; omega, by show (-1 : Int) ≤ -1 ∧ (-1 : Int) ≤ _; omega, by show (0 : Int) ≤ 0 ∧ (0 : Int) < _; omega, by show (0 : Int) ≤ 0 ∧ (0 : Int) < _; omega⟩
end Go.Proofs.YtfljlcfmdcepnaaGreatDoor
namespace Go.Proofs.YtfljlcfmdcepnaaGreatDoor
open Go.RowKit
open UK (str BytesAt nth Only w32 Row)
structure Clean (d : Dk) (cnt : Nat) : Prop where
  fit : Fit d cnt
  so : Sound d cnt
  rl : d.rl = -1
  wl : d.wl = -1
  ok : ∀ p, 1 ≤ p → p < cnt → okB d.x p = true
  link : ∀ i, i < d.free.length → linkL d.x (d.free.getD i 0) = nextL d i
theorem link_pg (x : List UInt8) (p : Nat) : linkL x p = ((pgOf x p).drop 8).take 4 := by unfold linkL; rw [loadL_pg]
theorem link_page (p : Nat) (s : List UInt8) (hs : 4 ≤ s.length) : ((pageL p s).drop 8).take 4 = s.take 4 := by
  unfold pageL restL
  show List.take 4 (List.drop 4 ((putL (w32 p)) ++ (s ++ UK.zeros (504 - s.length)))) = _
  show List.take 4 (s ++ UK.zeros (504 - s.length)) = _
  rw [List.take_append_of_le_length hs]
theorem ok_wr (x : List UInt8) (cnt p q : Nat) (s : List UInt8) (hx : x.length = 512 * cnt) (h6 : cnt ≤ 60000) (hp : p < cnt) (hq : q < cnt) (hs : s.length ≤ 504) (h : q ≠ p → okB x q = true) : okB (UK.wr x (512 * p) (pageL p s)) q = true := by
  rw [okB_pg, pgOf_wr x p q _ (pageL_length p s hs) (by omega) (by omega)]
  by_cases e : p = q
  · rw [if_pos e, ← e]; exact okP_page p (by omega) s
  · rw [if_neg e, ← okB_pg]; exact h (fun e2 => e e2.symm)
theorem link_wr (x : List UInt8) (cnt p q : Nat) (s : List UInt8) (hx : x.length = 512 * cnt) (hp : p < cnt) (hq : q < cnt) (hs : s.length ≤ 504) (e : p ≠ q) : linkL (UK.wr x (512 * p) (pageL p s)) q = linkL x q := by
  rw [link_pg, link_pg, pgOf_wr x p q _ (pageL_length p s hs) (by omega) (by omega), if_neg e]
theorem link_wr_self (x : List UInt8) (cnt p : Nat) (s : List UInt8) (hx : x.length = 512 * cnt) (hp : p < cnt) (h4 : 4 ≤ s.length) (hs : s.length ≤ 504) : linkL (UK.wr x (512 * p) (pageL p s)) p = s.take 4 := by
  rw [link_pg, pgOf_wr x p p _ (pageL_length p s hs) (by omega) (by omega), if_pos rfl, link_page p s h4]
theorem nextL_of {d d' : Dk} (h : d'.free = d.free) (i : Nat) : nextL d' i = nextL d i := by unfold nextL; rw [h]
theorem getD_mem {l : List Nat} {i : Nat} (h : i < l.length) : l.getD i 0 ∈ l := by
  rw [List.getD_eq_getElem?_getD, List.getElem?_eq_getElem h]; exact List.getElem_mem _
theorem getD_inj {l : List Nat} (hn : l.Nodup) {i j : Nat} (hi : i < l.length) (hj : j < l.length) (e : l.getD i 0 = l.getD j 0) : i = j := by
  rw [List.getD_eq_getElem?_getD, List.getElem?_eq_getElem hi, List.getD_eq_getElem?_getD, List.getElem?_eq_getElem hj] at e
  exact (List.getElem_inj hn).1 e
theorem failN_m1 {d : Dk} (h : d.wl = -1) : failN d.wl = -1 := by rw [h]; rfl
theorem Clean.write {d : Dk} {cnt : Nat} (h : Clean d cnt) (h3 : d.puts + 1 < 1000000000) (p : Nat) (hp : p < cnt) (hf : p ∉ d.free) (s : List UInt8) (hs : s.length ≤ 504) : Clean (writeD d p s) cnt := by
  refine ⟨fit_write h.fit h3 p hp s hs, h.so.of_same rfl rfl, h.rl, failN_m1 h.wl, fun q h1 h2 => ok_wr d.x cnt p q s h.fit.len h.fit.few hp h2 hs (fun _ => h.ok q h1 h2), fun i hi => ?_⟩
  have hm := getD_mem (show i < d.free.length from hi)
  refine (link_wr d.x cnt p _ s h.fit.len hp (h.fit.free _ hm).2 hs (fun e => hf (e ▸ hm))).trans ?_
  exact (h.link i hi).trans (nextL_of rfl i).symm
theorem Clean.give {d : Dk} {cnt : Nat} (h : Clean d cnt) (h3 : d.puts + 1 < 1000000000) (p : Nat) (h1 : 1 ≤ p) (hp : p < cnt) (hf : p ∉ d.free) : Clean (giveD d p) cnt := by
  have hl := h.so.less h.fit hp hf
  have hnl : (nextL d d.free.length).length = 4 := nextL_length _ _
  refine ⟨fit_give h.fit h3 p h1 hp hl, h.so.give h.fit hp hf, h.rl, failN_m1 h.wl, fun q a b => ok_wr d.x cnt p q _ h.fit.len h.fit.few hp b (by omega) (fun _ => h.ok q a b), fun i hi => ?_⟩
  have hi2 : i < d.free.length + 1 := by
    have : i < (d.free ++ [p]).length := hi
    rwa [List.length_append] at this
  by_cases e : i = d.free.length
  · subst e
    have e1 : (giveD d p).free.getD d.free.length 0 = p := by
      show (d.free ++ [p]).getD d.free.length 0 = p
      rw [List.getD_eq_getElem?_getD, List.getElem?_append_right (Nat.le_refl _), Nat.sub_self]; rfl
    rw [e1]
    refine (link_wr_self d.x cnt p _ h.fit.len hp (by omega) (by omega)).trans ?_
    rw [List.take_of_length_le (by omega)]
    unfold nextL
    by_cases e0 : d.free.length = 0
    · rw [if_pos e0, if_pos e0]
    · rw [if_neg e0, if_neg e0]
      show _ = putL (w32 ((d.free ++ [p]).getD _ 0))
      rw [List.getD_eq_getElem?_getD, List.getD_eq_getElem?_getD, List.getElem?_append_left (by omega)]
  · have hil : i < d.free.length := by omega
    have e1 : (giveD d p).free.getD i 0 = d.free.getD i 0 := by
      show (d.free ++ [p]).getD i 0 = _
      rw [List.getD_eq_getElem?_getD, List.getD_eq_getElem?_getD, List.getElem?_append_left hil]
    have hm := getD_mem hil
    rw [e1]
    refine (link_wr d.x cnt p _ _ h.fit.len hp (h.fit.free _ hm).2 (by omega) (fun e => hf (e ▸ hm))).trans ((h.link i hil).trans ?_)
    unfold nextL
    by_cases e0 : i = 0
    · rw [if_pos e0, if_pos e0]
    · rw [if_neg e0, if_neg e0]
      show _ = putL (w32 ((d.free ++ [p]).getD _ 0))
      rw [List.getD_eq_getElem?_getD, List.getD_eq_getElem?_getD, List.getElem?_append_left (by omega)]
theorem Clean.takeF {d : Dk} {cnt : Nat} (h : Clean d cnt) (h3 : d.puts + 1 < 1000000000) (l : List Nat) (p : Nat) (hl : d.free = l ++ [p]) : Clean (takeF d l p) cnt := by
  have hpm : p ∈ d.free := by rw [hl]; exact List.mem_append_right _ (List.mem_singleton.2 rfl)
  have hp := h.fit.free p hpm
  have hnd := h.so.nodup
  rw [hl] at hnd
  have hpl : p ∉ l := fun hm => (List.nodup_append.1 hnd).2.2 p hm p (List.mem_singleton.2 rfl) rfl
  refine ⟨fit_takeF h.fit h3 l p hl, h.so.takeF h.fit hl, h.rl, failN_m1 h.wl, fun q a b => ok_wr d.x cnt p q _ h.fit.len h.fit.few hp.2 b (by decide) (fun _ => h.ok q a b), fun i hi => ?_⟩
  have hil : i < l.length := hi
  have hdl : d.free.length = l.length + 1 := by rw [hl, List.length_append]; rfl
  have e1 : l.getD i 0 = d.free.getD i 0 := by
    rw [hl, List.getD_eq_getElem?_getD, List.getD_eq_getElem?_getD, List.getElem?_append_left hil]
  have hm := getD_mem (show i < d.free.length by omega)
  show linkL _ (l.getD i 0) = _
  have hne : p ≠ l.getD i 0 := fun e => hpl (e ▸ getD_mem hil)
  refine (link_wr d.x cnt p _ _ h.fit.len hp.2 (by rw [e1]; exact (h.fit.free _ hm).2) (by decide) hne).trans ?_
  rw [e1]
  refine (h.link i (by omega)).trans ?_
  unfold nextL
  by_cases e0 : i = 0
  · rw [if_pos e0, if_pos e0]
  · rw [if_neg e0, if_neg e0]
    show _ = putL (w32 (l.getD _ 0))
    rw [hl, List.getD_eq_getElem?_getD, List.getD_eq_getElem?_getD, List.getElem?_append_left (by omega)]
theorem okB_more (x z : List UInt8) (p : Nat) (h : 512 * (p + 1) ≤ x.length) : okB (x ++ z) p = okB x p := by
  have e : pgOf (x ++ z) p = pgOf x p := by
    unfold pgOf
    rw [List.drop_append_of_le_length (by omega), List.take_append_of_le_length (by rw [List.length_drop]; omega)]
  rw [okB_pg, okB_pg, e]
theorem Clean.takeN {d : Dk} {cnt : Nat} (h : Clean d cnt) (h3 : d.puts + 1 < 1000000000) (hl : d.free = []) (hm : (cnt : Int) < d.most) : Clean (takeN d cnt) (cnt + 1) := by
  have hx : (d.x ++ UK.zeros 512).length = 512 * (cnt + 1) := by rw [List.length_append, UK.zeros_length, h.fit.len]; omega
  refine ⟨fit_takeN h.fit h3 hl hm, h.so.takeN h.fit hl, h.rl, failN_m1 h.wl, fun q a b => ?_, fun i hi => ?_⟩
  · refine ok_wr _ (cnt + 1) cnt q _ hx (by have := h.fit.most.2.1; omega) (by omega) b (by decide) (fun e => ?_)
    rw [okB_more _ _ _ (by rw [h.fit.len]; omega)]
    exact h.ok q a (by omega)
  · have hi' : i < d.free.length := hi
    rw [hl] at hi'
    exact absurd hi' (Nat.not_lt_zero _)
theorem Clean.same {d d' : Dk} {cnt : Nat} (h : Clean d cnt) (f : Fit d' cnt) (hx : d'.x = d.x) (hf : d'.free = d.free) (hi : d'.isf = d.isf) (hr : d'.rl = -1) (hw : d'.wl = -1) : Clean d' cnt :=
  ⟨f, h.so.of_same hf hi, hr, hw, by rw [hx]; exact h.ok, fun i hil => by rw [hx, hf, nextL_of hf]; rw [hf] at hil; exact h.link i hil⟩
theorem Clean.flush {d : Dk} {cnt : Nat} (h : Clean d cnt) (h3 : d.puts + 1 < 1000000000) : Clean (flushD d cnt) cnt ∧ okB (flushD d cnt).x 0 = true ∧ loadL (flushD d cnt).x 0 = headL d cnt ++ UK.zeros 488 ∧ (flushD d cnt).free = d.free ∧ (flushD d cnt).isf = d.isf ∧ (flushD d cnt).most = d.most := by
  have hf := fit_flush h.fit h3
  have hone := h.fit.one
  have hwl : d.wl ≠ 0 := by rw [h.wl]; decide
  unfold flushD at hf ⊢
  rw [if_neg hwl] at hf ⊢
  have hhl : (headL d cnt).length ≤ 504 := by rw [headL_length]; decide
  refine ⟨⟨hf, h.so.of_same rfl rfl, h.rl, failN_m1 h.wl, fun q a b => ?_, fun i hi => ?_⟩, ?_, ?_, rfl, rfl, rfl⟩
  · exact ok_wr d.x cnt 0 q _ h.fit.len h.fit.few (by omega) b hhl (fun _ => h.ok q a b)
  · have hm := getD_mem (show i < d.free.length from hi)
    have h1 := (h.fit.free _ hm).1
    refine (link_wr d.x cnt 0 _ _ h.fit.len (by omega) (h.fit.free _ hm).2 hhl (fun e => ?_)).trans ?_
    · have e2 : 0 = d.free.getD i 0 := e
      omega
    · exact (h.link i hi).trans (nextL_of rfl i).symm
  · exact ok_wr d.x cnt 0 0 _ h.fit.len h.fit.few (by omega) (by omega) hhl (fun e => absurd rfl e)
  · show loadL (UK.wr d.x (512 * 0) (pageL 0 (headL d cnt))) 0 = _
    rw [loadL_pg, pgOf_wr d.x 0 0 _ (pageL_length 0 _ hhl) (by rw [h.fit.len]; omega) (by rw [h.fit.len]; omega), if_pos rfl]
    rfl
theorem chain_clean {d : Dk} {cnt : Nat} (h : Clean d cnt) (x : List UInt8) (hok : ∀ p, 1 ≤ p → p < cnt → okB x p = true) (hlk : ∀ i, i < d.free.length → linkL x (d.free.getD i 0) = nextL d i) :
    ∀ (i : Nat), i ≤ d.free.length → chain x cnt (cnt + 1 - (d.free.drop i).reverse.length) (d.free.drop i).reverse (nextL d i) = (0, d.free.reverse)
  | 0, _ => by
    have hfew := h.fit.freeLe
    exact (chain_end x cnt (cnt + 1) _ (nextL d 0) (by rw [List.length_reverse, List.drop_zero]; omega) rfl).trans (by rw [List.drop_zero])
  | i + 1, hi => by
    have hil : i < d.free.length := by omega
    have hm := getD_mem hil
    have hfr := h.fit.free _ hm
    have hfew := h.fit.freeLe
    have h6 := h.fit.few
    have e1 : nextL d (i + 1) = putL (w32 (d.free.getD i 0)) := by unfold nextL; rw [if_neg (by omega), Nat.add_sub_cancel]
    have h32 : ((w32 (d.free.getD i 0)).toNat : Int) = (d.free.getD i 0 : Nat) := by rw [← UK.w32_is]; omega
    have e2 : wordN (putL (w32 (d.free.getD i 0))) = d.free.getD i 0 := by unfold wordN; rw [get_put]; omega
    have hnm : d.free.getD i 0 ∉ (d.free.drop (i + 1)).reverse := fun hh => by
      rw [List.mem_reverse] at hh
      obtain ⟨j, hj, he⟩ := List.getElem_of_mem hh
      rw [List.length_drop] at hj
      rw [List.getElem_drop] at he
      have := getD_inj h.so.nodup hil (show i + 1 + j < d.free.length by omega) (by rw [← he, List.getD_eq_getElem?_getD, List.getElem?_eq_getElem (by omega)]; rfl)
      omega
    have hst := chain_step x cnt (cnt + 1) (d.free.drop (i + 1)).reverse (nextL d (i + 1)) (by rw [List.length_reverse, List.length_drop]; omega) (fun e => by
      rw [e1] at e
      have := congrArg wordN e
      rw [e2] at this
      have e3 : wordN (putL (w32 4294967295)) = 4294967295 := by unfold wordN; rw [get_put]; rfl
      omega) (by rw [e1, e2]; exact hfr.1) (by rw [e1, e2]; exact hfr.2) (by rw [e1, e2]; exact hnm) (by rw [e1, e2]; exact hok _ hfr.1 hfr.2)
    rw [hst, e1, e2, hlk i hil]
    have e4 : (d.free.drop (i + 1)).reverse ++ [d.free.getD i 0] = (d.free.drop i).reverse := by
      rw [List.drop_eq_getElem_cons hil, List.reverse_cons, List.getD_eq_getElem?_getD, List.getElem?_eq_getElem hil]
      rfl
    rw [e4]
    exact chain_clean h x hok hlk i (by omega)
theorem open_clean {d : Dk} {cnt : Nat} (h : Clean d cnt) (h3 : d.puts + 1 < 1000000000) (pages : Int) (hm : d.most = clampD pages) : openR (flushD d cnt).x pages = (0, d.free.reverse) := by
  obtain ⟨hc, h0, hh, hf, hi, hmo⟩ := h.flush h3
  have hlen := hc.fit.len
  have hone := h.fit.one
  have hmost := h.fit.most
  unfold openR
  have hdiv : (flushD d cnt).x.length / 512 = cnt := by omega
  rw [hdiv, if_neg (by rintro (a | a | a); omega; omega; omega), if_neg (by rw [h0]; decide), hh]
  rw [if_neg (by rintro (a | a); exact a rfl; exact a rfl)]
  have e1 : ((headL d cnt ++ UK.zeros 488).drop 12).take 4 = nextL d d.free.length := rfl
  rw [e1]
  have := chain_clean h (flushD d cnt).x hc.ok (fun i hil => by
    have h1 := hc.link i (by rw [hf]; exact hil)
    rw [hf] at h1
    exact h1.trans (nextL_of hf i)) d.free.length (Nat.le_refl _)
  rw [List.drop_length] at this
  exact this
end Go.Proofs.YtfljlcfmdcepnaaGreatDoor
namespace Go.Proofs.YtfljlcfmdcepnaaGreatDoor
open Go.RowKit
def ripe (o : Option Fr) : Prop := ∀ f, o = some f → ¬ 0 < f.pins ∧ f.used = false
def still_ (o : Option Fr) : Prop := ∀ f, o = some f → ¬ 0 < f.pins
theorem sweep_step (n : Nat) {l : List (Option Fr)} {h : Nat} (hh : h < l.length) :
    (sweep (n + 1) l h).1 ≠ none ∨ ∃ (f : Fr) (l' : List (Option Fr)), l[h]? = some (some f) ∧ sweep (n + 1) l h = sweep n l' ((h + 1) % l.length) ∧ ((0 < f.pins ∧ l' = l) ∨ (¬ 0 < f.pins ∧ f.used = true ∧ l' = l.set h (some { f with used := false }))) := by
  cases ho : l[h]? with
  | none => exact absurd ho (by rw [List.getElem?_eq_getElem hh]; exact fun h => by cases h)
  | some o =>
    cases o with
    | none => left; rw [sweep_none n ho]; exact fun h => by cases h
    | some f =>
      rw [sweep_some n ho]
      by_cases hp : 0 < f.pins
      · right
        exact ⟨f, l, rfl, by rw [if_pos hp], .inl ⟨hp, rfl⟩⟩
      · by_cases hu : f.used = true
        · right
          exact ⟨f, _, rfl, by rw [if_neg hp, if_pos hu], .inr ⟨hp, hu, rfl⟩⟩
        · left
          rw [if_neg hp, if_neg hu]; exact fun h => by cases h
theorem sweep_ripe : ∀ (j n : Nat) (l : List (Option Fr)) (h i : Nat), h < l.length → (h + j) % l.length = i → j < l.length → (∀ o, l[i]? = some o → ripe o) → j + 1 ≤ n → (sweep n l h).1 ≠ none
  | j, 0, _, _, _, _, _, _, _, hn => absurd hn (by omega)
  | j, n + 1, l, h, i, hh, hi, hj, hr, hn => by
    rcases sweep_step n hh with h1 | ⟨f, l', hf, he, hc⟩
    · exact h1
    · have hil : i < l.length := by rw [← hi]; exact Nat.mod_lt _ (by omega)
      by_cases e : h = i
      · subst e
        obtain ⟨r1, r2⟩ := hr _ hf f rfl
        rcases hc with ⟨hp, _⟩ | ⟨_, hu, _⟩
        · exact absurd hp r1
        · rw [r2] at hu; cases hu
      · have hj0 : j ≠ 0 := fun e0 => by
          subst e0
          rw [Nat.add_zero, Nat.mod_eq_of_lt hh] at hi
          exact e hi
        have hl' : l'.length = l.length := by
          rcases hc with ⟨_, rfl⟩ | ⟨_, _, rfl⟩
          · rfl
          · exact List.length_set
        rw [he]
        rw [← hl']
        refine sweep_ripe (j - 1) n l' ((h + 1) % l'.length) i (Nat.mod_lt _ (by omega)) ?_ (by omega) (fun o ho => ?_) (by omega)
        · rw [hl', ← hi, Nat.mod_add_mod]
          congr 1
          omega
        · rcases hc with ⟨_, rfl⟩ | ⟨_, _, rfl⟩
          · exact hr o ho
          · rw [get_set _ _ _ _ hh, if_neg e] at ho
            exact hr o ho
theorem sweep_still : ∀ (j n : Nat) (l : List (Option Fr)) (h i : Nat), h < l.length → (h + j) % l.length = i → j < l.length → (∀ o, l[i]? = some o → still_ o) → j + 1 + l.length ≤ n → (sweep n l h).1 ≠ none
  | j, 0, _, _, _, _, _, _, _, hn => absurd hn (by omega)
  | j, n + 1, l, h, i, hh, hi, hj, hr, hn => by
    rcases sweep_step n hh with h1 | ⟨f, l', hf, he, hc⟩
    · exact h1
    · have hil : i < l.length := by rw [← hi]; exact Nat.mod_lt _ (by omega)
      have hl' : l'.length = l.length := by
        rcases hc with ⟨_, rfl⟩ | ⟨_, _, rfl⟩
        · rfl
        · exact List.length_set
      by_cases e : h = i
      · subst e
        have r1 := hr _ hf f rfl
        rcases hc with ⟨hp, _⟩ | ⟨_, hu, rfl⟩
        · exact absurd hp r1
        · rw [he, ← hl']
          refine sweep_ripe (l.length - 1) n _ _ h (Nat.mod_lt _ (by omega)) ?_ (by omega) (fun o ho => ?_) (by omega)
          · rw [hl', Nat.mod_add_mod, show h + 1 + (l.length - 1) = h + l.length by omega, Nat.add_mod_right, Nat.mod_eq_of_lt hh]
          · rw [get_set _ _ _ _ hh, if_pos rfl] at ho
            intro g hg
            rw [← Option.some.inj ho] at hg
            rw [← Option.some.inj hg]
            exact ⟨r1, rfl⟩
      · have hj0 : j ≠ 0 := fun e0 => by
          subst e0
          rw [Nat.add_zero, Nat.mod_eq_of_lt hh] at hi
          exact e hi
        rw [he, ← hl']
        refine sweep_still (j - 1) n l' ((h + 1) % l'.length) i (Nat.mod_lt _ (by omega)) ?_ (by omega) (fun o ho => ?_) (by omega)
        · rw [hl', ← hi, Nat.mod_add_mod]
          congr 1
          omega
        · rcases hc with ⟨_, rfl⟩ | ⟨_, _, rfl⟩
          · exact hr o ho
          · rw [get_set _ _ _ _ hh, if_neg e] at ho
            exact hr o ho
theorem sweep_finds (l : List (Option Fr)) (h i : Nat) (hh : h < l.length) (hi : i < l.length) (hr : ∀ o, l[i]? = some o → still_ o) : (sweep (2 * l.length) l h).1 ≠ none := by
  refine sweep_still ((i + l.length - h) % l.length) (2 * l.length) l h i hh ?_ (Nat.mod_lt _ (by omega)) hr ?_
  · rw [Nat.add_mod_mod, show h + (i + l.length - h) = i + l.length by omega, Nat.add_mod_right, Nat.mod_eq_of_lt hi]
  · have := Nat.mod_lt (i + l.length - h) (show 0 < l.length by omega)
    omega
theorem sweep_marks : ∀ (n : Nat) (l : List (Option Fr)) (h : Nat), h < l.length → ∀ (i : Nat) (g : Fr), (sweep n l h).2.1[i]? = some (some g) → ∃ f : Fr, l[i]? = some (some f) ∧ (g = f ∨ g = { f with used := false })
  | 0, _, _, _, _, g, hg => ⟨g, hg, .inl rfl⟩
  | n + 1, l, h, hh, i, g, hg => by
    have ho : ∃ o, l[h]? = some o := ⟨_, List.getElem?_eq_getElem hh⟩
    obtain ⟨o, ho⟩ := ho
    cases o with
    | none => rw [sweep_none n ho] at hg; exact ⟨g, hg, .inl rfl⟩
    | some f =>
      rw [sweep_some n ho] at hg
      by_cases hp : 0 < f.pins
      · rw [if_pos hp] at hg
        exact sweep_marks n l _ (Nat.mod_lt _ (by omega)) i g hg
      · rw [if_neg hp] at hg
        by_cases hu : f.used = true
        · rw [if_pos hu] at hg
          obtain ⟨f2, h2, h3⟩ := sweep_marks n (l.set h (some { f with used := false })) _ (by rw [List.length_set]; exact Nat.mod_lt _ (by omega)) i g hg
          rw [get_set _ _ _ _ hh] at h2
          by_cases e : h = i
          · subst e
            rw [if_pos rfl] at h2
            have e2 := Option.some.inj (Option.some.inj h2)
            subst e2
            exact ⟨f, ho, .inr (by rcases h3 with rfl | rfl <;> rfl)⟩
          · rw [if_neg e] at h2; exact ⟨f2, h2, h3⟩
        · rw [if_neg hu] at hg; exact ⟨g, hg, .inl rfl⟩
theorem sweep_stays : ∀ (n : Nat) (l : List (Option Fr)) (h : Nat), h < l.length → ∀ (i : Nat) (f : Fr), l[i]? = some (some f) → ∃ g : Fr, (sweep n l h).2.1[i]? = some (some g) ∧ (g = f ∨ g = { f with used := false })
  | 0, _, _, _, _, f, hf => ⟨f, hf, .inl rfl⟩
  | n + 1, l, h, hh, i, f, hf => by
    have ho : ∃ o, l[h]? = some o := ⟨_, List.getElem?_eq_getElem hh⟩
    obtain ⟨o, ho⟩ := ho
    cases o with
    | none => rw [sweep_none n ho]; exact ⟨f, hf, .inl rfl⟩
    | some u =>
      rw [sweep_some n ho]
      by_cases hp : 0 < u.pins
      · rw [if_pos hp]
        exact sweep_stays n l _ (Nat.mod_lt _ (by omega)) i f hf
      · rw [if_neg hp]
        by_cases hu : u.used = true
        · rw [if_pos hu]
          by_cases e : h = i
          · subst e
            rw [ho] at hf
            have e2 := Option.some.inj (Option.some.inj hf)
            subst e2
            obtain ⟨g, h2, h3⟩ := sweep_stays n (l.set h (some { u with used := false })) ((h + 1) % l.length) (by rw [List.length_set]; exact Nat.mod_lt _ (by omega)) h { u with used := false } (by rw [get_set _ _ _ _ hh, if_pos rfl])
            exact ⟨g, h2, .inr (by rcases h3 with rfl | rfl <;> rfl)⟩
          · exact sweep_stays n (l.set h (some { u with used := false })) ((h + 1) % l.length) (by rw [List.length_set]; exact Nat.mod_lt _ (by omega)) i f (by rw [get_set _ _ _ _ hh, if_neg e]; exact hf)
        · rw [if_neg hu]; exact ⟨f, hf, .inl rfl⟩
end Go.Proofs.YtfljlcfmdcepnaaGreatDoor
namespace Go.Proofs.YtfljlcfmdcepnaaGreatDoor
open Go.RowKit
structure Calm (q : Pl) (d : Dk) (cnt : Nat) (c : Nat → List UInt8) : Prop where
  clean : Clean d cnt
  at_ : ∀ (i : Nat) (f : Fr), q.frames[i]? = some (some f) → f.data = c f.page.toNat
  off : ∀ p, 1 ≤ p → p < cnt → p ∉ d.free → (∀ (i : Nat) (f : Fr), q.frames[i]? = some (some f) → f.page = (p : Nat) → f.dirty = false) → lookL d.x p = c p
section
variable {q : Pl} {d : Dk} {cnt : Nat} {c : Nat → List UInt8}
theorem Calm.forget (h : Calm q d cnt c) {i : Nat} {f : Fr} (hi : q.frames[i]? = some (some f)) (hd : f.dirty = false) (hand : Nat) (pins : Int) (op : Option Opn) : Calm { frames := q.frames.set i none, hand := hand, pins := pins, op := op } d cnt c := by
  have hl := (List.getElem?_eq_some_iff.1 hi).1
  refine ⟨h.clean, fun j g hj => ?_, fun p h1 h2 h3 h4 => h.off p h1 h2 h3 (fun j g hj hg => ?_)⟩
  · replace hj : (q.frames.set i none)[j]? = some (some g) := hj
    rw [get_set _ _ _ _ hl] at hj
    by_cases e : i = j
    · rw [if_pos e] at hj; cases hj
    · rw [if_neg e] at hj; exact h.at_ j g hj
  · by_cases e : i = j
    · subst e
      rw [hi] at hj
      rw [← Option.some.inj (Option.some.inj hj)]; exact hd
    · exact h4 j g (by show (q.frames.set i none)[j]? = _; rw [get_set _ _ _ _ hl, if_neg e]; exact hj) hg
theorem Calm.swept (h : Calm q d cnt c) (hh : q.hand < q.frames.length) (n : Nat) (hand : Nat) (pins : Int) (op : Option Opn) : Calm { frames := (sweep n q.frames q.hand).2.1, hand := hand, pins := pins, op := op } d cnt c := by
  refine ⟨h.clean, fun i g hg => ?_, fun p h1 h2 h3 h4 => h.off p h1 h2 h3 (fun i f hf hp => ?_)⟩
  · obtain ⟨f, hf, e⟩ := sweep_marks n q.frames q.hand hh i g hg
    have := h.at_ i f hf
    rcases e with rfl | rfl <;> exact this
  · obtain ⟨g, hg, e⟩ := sweep_stays n q.frames q.hand hh i f hf
    have := h4 i g hg (by rcases e with rfl | rfl <;> exact hp)
    rcases e with rfl | rfl <;> exact this
theorem look_write (hc : Clean d cnt) (p r : Nat) (hp : p < cnt) (hr : r < cnt) (s : List UInt8) (hs : s.length = 504) : lookL (writeD d p s).x r = if p = r then s else lookL d.x r := by
  have hx := hc.fit.len
  have h6 := hc.fit.few
  by_cases e : p = r
  · subst e
    rw [if_pos rfl]
    exact (look_wr d.x p (by omega) s hs (by omega)).1
  · rw [if_neg e]
    have e2 : pgOf (UK.wr d.x (512 * p) (pageL p s)) r = pgOf d.x r := by rw [pgOf_wr d.x p r _ (pageL_length p s (by omega)) (by omega) (by omega), if_neg e]
    show lookL (UK.wr d.x (512 * p) (pageL p s)) r = _
    unfold lookL
    rw [okB_pg, okB_pg, loadL_pg, loadL_pg, e2]
theorem Calm.write (h : Calm q d cnt c) (h3 : d.puts + 1 < 1000000000) {i : Nat} {f : Fr} (hi : q.frames[i]? = some (some f)) {p : Nat} (hp : f.page = (p : Nat)) (hlt : p < cnt) (hfr : p ∉ d.free) (hlen : f.data.length = 504) (hand : Nat) (pins : Int) (op : Option Opn) : Calm { frames := q.frames.set i none, hand := hand, pins := pins, op := op } (writeD d p f.data) cnt c := by
  have hl := (List.getElem?_eq_some_iff.1 hi).1
  refine ⟨h.clean.write h3 p hlt hfr f.data (by omega), fun j g hj => ?_, fun r h1 h2 hr h4 => ?_⟩
  · replace hj : (q.frames.set i none)[j]? = some (some g) := hj
    rw [get_set _ _ _ _ hl] at hj
    by_cases e : i = j
    · rw [if_pos e] at hj; cases hj
    · rw [if_neg e] at hj; exact h.at_ j g hj
  · rw [look_write h.clean p r hlt h2 f.data hlen]
    by_cases e : p = r
    · subst e
      rw [if_pos rfl]
      have := h.at_ i f hi
      rw [hp, Int.toNat_natCast] at this
      exact this
    · rw [if_neg e]
      refine h.off r h1 h2 hr (fun j g hj hg => ?_)
      have hji : i ≠ j := fun e2 => by
        subst e2
        rw [hi] at hj
        have e3 := Option.some.inj (Option.some.inj hj)
        subst e3
        rw [hp] at hg
        exact e (by omega)
      exact h4 j g (by show (q.frames.set i none)[j]? = _; rw [get_set _ _ _ _ hl, if_neg hji]; exact hj) hg
theorem Calm.lay (h : Calm q d cnt c) {i : Nat} (hi : q.frames[i]? = some none) {f : Fr} (hf : f.data = c f.page.toNat) (hand : Nat) (pins : Int) (op : Option Opn) : Calm { frames := q.frames.set i (some f), hand := hand, pins := pins, op := op } d cnt c := by
  have hl := (List.getElem?_eq_some_iff.1 hi).1
  refine ⟨h.clean, fun j g hj => ?_, fun p h1 h2 h3 h4 => h.off p h1 h2 h3 (fun j g hj hg => ?_)⟩
  · replace hj : (q.frames.set i (some f))[j]? = some (some g) := hj
    rw [get_set _ _ _ _ hl] at hj
    by_cases e : i = j
    · rw [if_pos e] at hj
      rw [← Option.some.inj (Option.some.inj hj)]; exact hf
    · rw [if_neg e] at hj; exact h.at_ j g hj
  · have e : i ≠ j := fun e => by subst e; rw [hi] at hj; cases hj
    exact h4 j g (by show (q.frames.set i (some f))[j]? = _; rw [get_set _ _ _ _ hl, if_neg e]; exact hj) hg
theorem page_nil (p : Nat) : pageL p [] = pageL p (UK.zeros 504) := by
  have e : restL p [] = restL p (UK.zeros 504) := by
    have h1 : ([] : List UInt8) ++ UK.zeros (504 - ([] : List UInt8).length) = UK.zeros 504 ++ UK.zeros (504 - (UK.zeros 504).length) := by
      rw [UK.zeros_length, Nat.sub_self, List.nil_append, List.length_nil, Nat.sub_zero]
      exact (List.append_nil _).symm
    unfold restL
    rw [h1]
  unfold pageL
  rw [e]
theorem look_takeF (hc : Clean d cnt) {l : List Nat} {p : Nat} (hl : d.free = l ++ [p]) (r : Nat) (hr : r < cnt) : lookL (takeF d l p).x r = if p = r then UK.zeros 504 else lookL d.x r := by
  have hp := hc.fit.free p (by rw [hl]; exact List.mem_append_right _ (List.mem_singleton.2 rfl))
  have e := look_write hc p r hp.2 hr (UK.zeros 504) (UK.zeros_length 504)
  show lookL (UK.wr d.x (512 * p) (pageL p [])) r = _
  rw [page_nil]
  exact e
def setC (c : Nat → List UInt8) (p : Nat) (s : List UInt8) : Nat → List UInt8 := fun r => if p = r then s else c r
theorem Calm.nat (h : Calm q d cnt c) {f : Fr} (hh : hasD d cnt f.page = true) : ∃ p : Nat, f.page = p ∧ 1 ≤ p ∧ p < cnt ∧ p ∉ d.free := by
  rw [h.clean.so.hasI, decide_eq_true_eq] at hh
  exact ⟨f.page.toNat, by omega, by omega, by omega, hh.2.2⟩
theorem Calm.takeF (h : Calm q d cnt c) (h3 : d.puts + 1 < 1000000000) {l : List Nat} {p : Nat} (hl : d.free = l ++ [p]) (hh : ∀ (i : Nat) (f : Fr), q.frames[i]? = some (some f) → hasD d cnt f.page = true) : Calm q (takeF d l p) cnt (setC c p (UK.zeros 504)) := by
  have hpm : p ∈ d.free := by rw [hl]; exact List.mem_append_right _ (List.mem_singleton.2 rfl)
  refine ⟨h.clean.takeF h3 l p hl, fun i f hi => ?_, fun r h1 h2 hr h4 => ?_⟩
  · obtain ⟨a, ha, _, _, hf⟩ := h.nat (hh i f hi)
    have := h.at_ i f hi
    unfold setC
    rw [ha, Int.toNat_natCast] at this ⊢
    have hne : ¬ p = a := fun e => by subst e; exact hf hpm
    rw [if_neg hne]
    exact this
  · rw [look_takeF h.clean hl r h2]
    unfold setC
    by_cases e : p = r
    · rw [if_pos e, if_pos e]
    · rw [if_neg e, if_neg e]
      refine h.off r h1 h2 (fun hm => ?_) h4
      rw [hl] at hm
      rcases List.mem_append.1 hm with hm | hm
      · exact hr hm
      · exact e (List.mem_singleton.1 hm).symm
theorem look_other (hc : Clean d cnt) (p r : Nat) (hp : p < cnt) (hr : r < cnt) (s : List UInt8) (hs : s.length ≤ 504) (e : p ≠ r) : lookL (UK.wr d.x (512 * p) (pageL p s)) r = lookL d.x r := by
  have hx := hc.fit.len
  have e2 : pgOf (UK.wr d.x (512 * p) (pageL p s)) r = pgOf d.x r := by rw [pgOf_wr d.x p r _ (pageL_length p s hs) (by omega) (by omega), if_neg e]
  unfold lookL
  rw [okB_pg, okB_pg, loadL_pg, loadL_pg, e2]
theorem look_takeN (hc : Clean d cnt) (hm : cnt < 60000) (r : Nat) (hr : r < cnt + 1) : lookL (takeN d cnt).x r = if cnt = r then UK.zeros 504 else lookL d.x r := by
  have hx := hc.fit.len
  have hx2 : (d.x ++ UK.zeros 512).length = 512 * (cnt + 1) := by rw [List.length_append, UK.zeros_length]; omega
  show lookL (UK.wr (d.x ++ UK.zeros 512) (512 * cnt) (pageL cnt [])) r = _
  by_cases e : cnt = r
  · subst e
    rw [if_pos rfl, page_nil]
    exact (look_wr _ cnt (by omega) (UK.zeros 504) (UK.zeros_length 504) (by omega)).1
  · rw [if_neg e]
    have e2 : pgOf (UK.wr (d.x ++ UK.zeros 512) (512 * cnt) (pageL cnt [])) r = pgOf (d.x ++ UK.zeros 512) r := by rw [pgOf_wr _ cnt r _ (pageL_length cnt [] (by decide)) (by omega) (by omega), if_neg e]
    have e3 : pgOf (d.x ++ UK.zeros 512) r = pgOf d.x r := by
      unfold pgOf
      rw [List.drop_append_of_le_length (by omega), List.take_append_of_le_length (by rw [List.length_drop]; omega)]
    unfold lookL
    rw [okB_pg, okB_pg, loadL_pg, loadL_pg, e2, e3]
theorem Calm.takeN (h : Calm q d cnt c) (h3 : d.puts + 1 < 1000000000) (hl : d.free = []) (hm : (cnt : Int) < d.most) (hh : ∀ (i : Nat) (f : Fr), q.frames[i]? = some (some f) → hasD d cnt f.page = true) : Calm q (takeN d cnt) (cnt + 1) (setC c cnt (UK.zeros 504)) := by
  have hmo := h.clean.fit.most
  refine ⟨h.clean.takeN h3 hl hm, fun i f hi => ?_, fun r h1 h2 hr h4 => ?_⟩
  · obtain ⟨a, ha, _, hlt, hf⟩ := h.nat (hh i f hi)
    have := h.at_ i f hi
    unfold setC
    rw [ha, Int.toNat_natCast] at this ⊢
    rw [if_neg (by omega)]
    exact this
  · rw [look_takeN h.clean (by omega) r h2]
    unfold setC
    by_cases e : cnt = r
    · rw [if_pos e, if_pos e]
    · rw [if_neg e, if_neg e]
      exact h.off r h1 (by omega) (by rw [hl]; exact List.not_mem_nil) h4
theorem Calm.turn (h : Calm q d cnt c) {i : Nat} {f g : Fr} (hi : q.frames[i]? = some (some f)) (hp : g.page = f.page) (hda : g.data = f.data) (hd : f.dirty = true → g.dirty = true) (hand : Nat) (pins : Int) (op : Option Opn) : Calm { frames := q.frames.set i (some g), hand := hand, pins := pins, op := op } d cnt c := by
  have hl := (List.getElem?_eq_some_iff.1 hi).1
  refine ⟨h.clean, fun j u hj => ?_, fun p h1 h2 h3 h4 => h.off p h1 h2 h3 (fun j u hj hu => ?_)⟩
  · replace hj : (q.frames.set i (some g))[j]? = some (some u) := hj
    rw [get_set _ _ _ _ hl] at hj
    by_cases e : i = j
    · rw [if_pos e] at hj
      rw [← Option.some.inj (Option.some.inj hj), hda, hp]; exact h.at_ i f hi
    · rw [if_neg e] at hj; exact h.at_ j u hj
  · by_cases e : i = j
    · subst e
      rw [hi] at hj
      have e2 := Option.some.inj (Option.some.inj hj)
      subst e2
      have := h4 i g (by show (q.frames.set i (some g))[i]? = _; rw [get_set _ _ _ _ hl, if_pos rfl]) (hp.trans hu)
      cases hfd : f.dirty
      · rfl
      · rw [hd hfd] at this; cases this
    · exact h4 j u (by show (q.frames.set i (some g))[j]? = _; rw [get_set _ _ _ _ hl, if_neg e]; exact hj) hu
theorem Calm.same (h : Calm q d cnt c) (hand : Nat) (pins : Int) (op : Option Opn) : Calm { frames := q.frames, hand := hand, pins := pins, op := op } d cnt c := ⟨h.clean, h.at_, h.off⟩
theorem Calm.edit (h : Calm q d cnt c) {i : Nat} {f : Fr} (hi : q.frames[i]? = some (some f)) (hd : f.dirty = true) (hhas : ∀ (j : Nat) (g : Fr), q.frames[j]? = some (some g) → hasD d cnt g.page = true) (hinj : ∀ (j : Nat) (g : Fr), q.frames[j]? = some (some g) → g.page = f.page → i = j) (s : List UInt8) (hand : Nat) (pins : Int) (op : Option Opn) :
    Calm { frames := q.frames.set i (some { f with data := s }), hand := hand, pins := pins, op := op } d cnt (setC c f.page.toNat s) := by
  have hl := (List.getElem?_eq_some_iff.1 hi).1
  obtain ⟨p, hp, hp1, _, _⟩ := h.nat (hhas i f hi)
  refine ⟨h.clean, fun j u hj => ?_, fun r h1 h2 h3 h4 => ?_⟩
  · replace hj : (q.frames.set i (some { f with data := s }))[j]? = some (some u) := hj
    rw [get_set _ _ _ _ hl] at hj
    unfold setC
    by_cases e : i = j
    · rw [if_pos e] at hj
      rw [← Option.some.inj (Option.some.inj hj)]
      show s = if f.page.toNat = f.page.toNat then s else _
      rw [if_pos rfl]
    · rw [if_neg e] at hj
      obtain ⟨a, ha, _, _, _⟩ := h.nat (hhas j u hj)
      rw [if_neg (fun e2 => e (hinj j u hj (by omega)))]
      exact h.at_ j u hj
  · unfold setC
    by_cases e : f.page.toNat = r
    · have := h4 i { f with data := s } (by show (q.frames.set i _)[i]? = _; rw [get_set _ _ _ _ hl, if_pos rfl]) (by show f.page = _; omega)
      rw [show ({ f with data := s } : Fr).dirty = f.dirty from rfl, hd] at this
      cases this
    · rw [if_neg e]
      refine h.off r h1 h2 h3 (fun j u hj hu => ?_)
      by_cases e2 : i = j
      · subst e2
        rw [hi] at hj
        have e3 := Option.some.inj (Option.some.inj hj)
        subst e3
        omega
      · exact h4 j u (by show (q.frames.set i _)[j]? = _; rw [get_set _ _ _ _ hl, if_neg e2]; exact hj) hu
theorem Calm.give (h : Calm q d cnt c) (h3 : d.puts + 1 < 1000000000) (p : Nat) (h1 : 1 ≤ p) (hp : p < cnt) (hf : p ∉ d.free) {l : List (Option Fr)} (hsub : ∀ (j : Nat) (g : Fr), l[j]? = some (some g) → q.frames[j]? = some (some g)) (hkeep : ∀ (j : Nat) (g : Fr), q.frames[j]? = some (some g) → g.page ≠ (p : Nat) → l[j]? = some (some g)) (hand : Nat) (pins : Int) (op : Option Opn) :
    Calm { frames := l, hand := hand, pins := pins, op := op } (giveD d p) cnt c := by
  refine ⟨h.clean.give h3 p h1 hp hf, fun j g hj => h.at_ j g (hsub j g hj), fun r hr1 hr2 hr3 h4 => ?_⟩
  have hr3 : r ∉ d.free ++ [p] := hr3
  have hne : p ≠ r := fun e => hr3 (by rw [e]; exact List.mem_append_right _ (List.mem_singleton.2 rfl))
  refine (look_other h.clean p r hp hr2 _ (by rw [nextL_length]; decide) hne).trans (h.off r hr1 hr2 (fun hm => hr3 (List.mem_append_left _ hm)) (fun j g hj hg => h4 j g (hkeep j g hj (by omega)) hg))
theorem Calm.wrote (h : Calm q d cnt c) (h3 : d.puts + 1 < 1000000000) {i : Nat} {f : Fr} (hi : q.frames[i]? = some (some f)) {p : Nat} (hp : f.page = (p : Nat)) (hlt : p < cnt) (hfr : p ∉ d.free) (hlen : f.data.length = 504) (hand : Nat) (pins : Int) (op : Option Opn) : Calm { frames := q.frames.set i (some { f with dirty := false }), hand := hand, pins := pins, op := op } (writeD d p f.data) cnt c := by
  have hl := (List.getElem?_eq_some_iff.1 hi).1
  refine ⟨h.clean.write h3 p hlt hfr f.data (by omega), fun j g hj => ?_, fun r h1 h2 hr h4 => ?_⟩
  · replace hj : (q.frames.set i (some { f with dirty := false }))[j]? = some (some g) := hj
    rw [get_set _ _ _ _ hl] at hj
    by_cases e : i = j
    · rw [if_pos e] at hj
      rw [← Option.some.inj (Option.some.inj hj)]; exact h.at_ i f hi
    · rw [if_neg e] at hj; exact h.at_ j g hj
  · rw [look_write h.clean p r hlt h2 f.data hlen]
    by_cases e : p = r
    · subst e
      rw [if_pos rfl]
      have := h.at_ i f hi
      rw [hp, Int.toNat_natCast] at this
      exact this
    · rw [if_neg e]
      refine h.off r h1 h2 hr (fun j g hj hg => ?_)
      have hji : i ≠ j := fun e2 => by
        subst e2
        rw [hi] at hj
        have e3 := Option.some.inj (Option.some.inj hj)
        subst e3
        rw [hp] at hg
        exact e (by omega)
      exact h4 j g (by show (q.frames.set i _)[j]? = _; rw [get_set _ _ _ _ hl, if_neg hji]; exact hj) hg
theorem Calm.flush (h : Calm q d cnt c) (h3 : d.puts + 1 < 1000000000) : Calm q (flushD d cnt) cnt c := by
  obtain ⟨a, _, _, hf, _, _⟩ := h.clean.flush h3
  refine ⟨a, h.at_, fun r h1 h2 hr h4 => ?_⟩
  rw [hf] at hr
  have hwl : d.wl ≠ 0 := by rw [h.clean.wl]; decide
  have e : (flushD d cnt).x = UK.wr d.x (512 * 0) (pageL 0 (headL d cnt)) := by unfold flushD; rw [if_neg hwl]
  rw [e]
  exact (look_other h.clean 0 r (by omega) h2 _ (by rw [headL_length]; decide) (by omega)).trans (h.off r h1 h2 hr h4)
theorem Calm.read (h : Calm q d cnt c) (h3 : d.reads + 1 < 1000000000) : Calm q (readD d) cnt c :=
  ⟨h.clean.same (fit_read h.clean.fit h3) rfl rfl rfl (by show failN d.rl = -1; rw [h.clean.rl]; rfl) h.clean.wl, h.at_, h.off⟩
theorem pins_idle : ∀ (l : List (Option Fr)), (∀ (i : Nat) (f : Fr), l[i]? = some (some f) → 0 ≤ f.pins) → pinsF l < l.length → ∃ i, i < l.length ∧ ∀ o, l[i]? = some o → still_ o
  | [], _, h => absurd h (by decide)
  | none :: l, _, _ => ⟨0, by simp, fun o ho f hf => by
      rw [← Option.some.inj ho] at hf; cases hf⟩
  | some f :: l, hpos, h => by
    by_cases hp : 0 < f.pins
    · obtain ⟨i, hi, hs⟩ := pins_idle l (fun j g hj => hpos (j + 1) g hj) (by
        have : pinsF (some f :: l) = f.pins + pinsF l := rfl
        rw [this, List.length_cons] at h
        omega)
      exact ⟨i + 1, by rw [List.length_cons]; omega, fun o ho => hs o ho⟩
    · exact ⟨0, by simp, fun o ho g hg => by
        rw [← Option.some.inj ho] at hg
        rw [← Option.some.inj hg]; exact hp⟩
end
end Go.Proofs.YtfljlcfmdcepnaaGreatDoor
