/-
  A pool's frames, in plain words.
-/
import Derived.Test.YthjnfclebeggaaaDoorUMem
namespace Go.Proofs.YthjnfclebeggaaaDoor
open Go.RowKit
open UK (str BytesAt nth Only Row Box)
/-- a frame: where it lies, its page, what it has, how often it is used -/
structure Fr where
  blk : Nat
  db : Nat
  cap : Nat
  page : Int
  data : List UInt8
  pins : Int
  used : Bool
  dirty : Bool
/-- a frame's page may go: nobody uses it -/
def idle (o : Option Fr) : Bool := match o with
  | none => true
  | some f => decide (f.pins ≤ 0)
/-- the hand goes on until there is a frame that may be used for another page -/
def sweep : Nat → List (Option Fr) → Nat → Option Nat × List (Option Fr) × Nat
  | 0, l, h => (none, l, h)
  | n + 1, l, h => match l.getD h none with
    | none => (some h, l, (h + 1) % l.length)
    | some f => if 0 < f.pins then sweep n l ((h + 1) % l.length) else if f.used = true then sweep n (l.set h (some { f with used := false })) ((h + 1) % l.length) else (some h, l, (h + 1) % l.length)
theorem sweep_none (n : Nat) {l : List (Option Fr)} {h : Nat} (hh : l[h]? = some none) : sweep (n + 1) l h = (some h, l, (h + 1) % l.length) := by
  have e : l.getD h none = none := by rw [List.getD_eq_getElem?_getD, hh]; rfl
  simp only [sweep, e]
theorem sweep_some (n : Nat) {l : List (Option Fr)} {h : Nat} {f : Fr} (hh : l[h]? = some (some f)) : sweep (n + 1) l h = if 0 < f.pins then sweep n l ((h + 1) % l.length) else if f.used = true then sweep n (l.set h (some { f with used := false })) ((h + 1) % l.length) else (some h, l, (h + 1) % l.length) := by
  have e : l.getD h none = some f := by rw [List.getD_eq_getElem?_getD, hh]; rfl
  simp only [sweep, e]
/-- the map from pages to frames -/
def AtIs (l : List (Option Fr)) (f : Int → Option Int) : Prop := ∀ p i, f p = some i ↔ ∃ j : Nat, i = j ∧ ∃ fr, l[j]? = some (some fr) ∧ fr.page = p
/-- how many frames are there -/
def cntF (l : List (Option Fr)) : Nat := (l.filter Option.isSome).length
/-- how often all are used -/
def pinsF : List (Option Fr) → Int
  | [] => 0
  | none :: l => pinsF l
  | some f :: l => f.pins + pinsF l
theorem AtIs.at_ {l : List (Option Fr)} {f : Int → Option Int} (h : AtIs l f) {j : Nat} {fr : Fr} (hj : l[j]? = some (some fr)) : f fr.page = some (j : Int) := (h _ _).2 ⟨j, rfl, fr, hj, rfl⟩
theorem AtIs.inj {l : List (Option Fr)} {f : Int → Option Int} (h : AtIs l f) {i j : Nat} {a b : Fr} (hi : l[i]? = some (some a)) (hj : l[j]? = some (some b)) (e : a.page = b.page) : i = j := by
  have h1 := h.at_ hi
  have h2 := h.at_ hj
  rw [e, h2] at h1
  have := Option.some.inj h1
  omega
theorem AtIs.no {l : List (Option Fr)} {f : Int → Option Int} (h : AtIs l f) {p : Int} (hp : f p = none) {j : Nat} {fr : Fr} (hj : l[j]? = some (some fr)) : fr.page ≠ p := fun e => by
  have := h.at_ hj
  rw [e, hp] at this; cases this
theorem get_set (l : List (Option Fr)) (i j : Nat) (o : Option Fr) (hi : i < l.length) : (l.set i o)[j]? = if i = j then some o else l[j]? := by
  rw [List.getElem?_set]
  by_cases e : i = j
  · rw [if_pos e, if_pos e, if_pos hi]
  · rw [if_neg e, if_neg e]
/-- a frame is emptied -/
theorem AtIs.forget {l : List (Option Fr)} {f : Int → Option Int} (h : AtIs l f) {i : Nat} {fr : Fr} (hi : l[i]? = some (some fr)) : AtIs (l.set i none) (fun p => if p = fr.page then none else f p) := by
  have hl := (List.getElem?_eq_some_iff.1 hi).1
  intro p q
  show (if p = fr.page then none else f p) = some q ↔ _
  by_cases e : p = fr.page
  · rw [if_pos e]
    constructor
    · intro h0; cases h0
    · rintro ⟨j, _, g, hj, hg⟩
      rw [get_set l i j _ hl] at hj
      by_cases e2 : i = j
      · rw [if_pos e2] at hj; cases hj
      · rw [if_neg e2] at hj
        exact absurd (h.inj hi hj (by rw [hg, e])) e2
  · rw [if_neg e, h p q]
    constructor
    · rintro ⟨j, hq, g, hj, hg⟩
      refine ⟨j, hq, g, ?_, hg⟩
      rw [get_set l i j _ hl, if_neg (fun e2 => ?_)]
      · exact hj
      · subst e2
        rw [hi] at hj
        have := Option.some.inj (Option.some.inj hj)
        exact e (by rw [← hg, this])
    · rintro ⟨j, hq, g, hj, hg⟩
      rw [get_set l i j _ hl] at hj
      by_cases e2 : i = j
      · rw [if_pos e2] at hj; cases hj
      · rw [if_neg e2] at hj; exact ⟨j, hq, g, hj, hg⟩
/-- a page comes into an empty frame -/
theorem AtIs.lay {l : List (Option Fr)} {f : Int → Option Int} (h : AtIs l f) {i : Nat} (hi : l[i]? = some none) {fr : Fr} (hp : f fr.page = none) : AtIs (l.set i (some fr)) (fun p => if p = fr.page then some (i : Int) else f p) := by
  have hl := (List.getElem?_eq_some_iff.1 hi).1
  intro p q
  show (if p = fr.page then some (i : Int) else f p) = some q ↔ _
  by_cases e : p = fr.page
  · rw [if_pos e]
    constructor
    · intro h0
      exact ⟨i, (Option.some.inj h0).symm, fr, by rw [get_set l i i _ hl, if_pos rfl], e.symm⟩
    · rintro ⟨j, hq, g, hj, hg⟩
      rw [get_set l i j _ hl] at hj
      by_cases e2 : i = j
      · rw [hq, e2]
      · rw [if_neg e2] at hj
        exact absurd (hg.trans e) (h.no hp hj)
  · rw [if_neg e, h p q]
    constructor
    · rintro ⟨j, hq, g, hj, hg⟩
      refine ⟨j, hq, g, ?_, hg⟩
      rw [get_set l i j _ hl, if_neg (fun e2 => ?_)]
      · exact hj
      · subst e2
        rw [hi] at hj; cases hj
    · rintro ⟨j, hq, g, hj, hg⟩
      rw [get_set l i j _ hl] at hj
      by_cases e2 : i = j
      · rw [if_pos e2] at hj
        have := Option.some.inj (Option.some.inj hj)
        exact absurd (by rw [← hg, ← this]) e
      · rw [if_neg e2] at hj; exact ⟨j, hq, g, hj, hg⟩
/-- a frame turns, its page stays -/
theorem AtIs.turn {l : List (Option Fr)} {f : Int → Option Int} (h : AtIs l f) {i : Nat} {a b : Fr} (hi : l[i]? = some (some a)) (hp : b.page = a.page) : AtIs (l.set i (some b)) f := by
  have hl := (List.getElem?_eq_some_iff.1 hi).1
  intro p q
  rw [h p q]
  constructor
  · rintro ⟨j, hq, g, hj, hg⟩
    by_cases e2 : i = j
    · subst e2
      rw [hi] at hj
      have := Option.some.inj (Option.some.inj hj)
      exact ⟨i, hq, b, by rw [get_set l i i _ hl, if_pos rfl], by rw [hp, this, hg]⟩
    · exact ⟨j, hq, g, by rw [get_set l i j _ hl, if_neg e2]; exact hj, hg⟩
  · rintro ⟨j, hq, g, hj, hg⟩
    rw [get_set l i j _ hl] at hj
    by_cases e2 : i = j
    · rw [if_pos e2] at hj
      have := Option.some.inj (Option.some.inj hj)
      subst e2
      exact ⟨i, hq, a, hi, by rw [← hp, this, hg]⟩
    · rw [if_neg e2] at hj; exact ⟨j, hq, g, hj, hg⟩
theorem cntF_cons (o : Option Fr) (l : List (Option Fr)) : cntF (o :: l) = (if o.isSome then 1 else 0) + cntF l := by
  unfold cntF
  cases o with
  | none => simp
  | some f => simp; omega
theorem cntF_set : ∀ (l : List (Option Fr)) (i : Nat) (a b : Option Fr), l[i]? = some a → cntF (l.set i b) + (if a.isSome then 1 else 0) = cntF l + (if b.isSome then 1 else 0)
  | [], i, a, b, h => by cases h
  | o :: l, 0, a, b, h => by
    obtain rfl : o = a := by simpa using h
    rw [List.set_cons_zero, cntF_cons, cntF_cons]; omega
  | o :: l, i + 1, a, b, h => by
    rw [List.set_cons_succ, cntF_cons, cntF_cons]
    have := cntF_set l i a b (by simpa using h)
    omega
theorem cntF_le (l : List (Option Fr)) : cntF l ≤ l.length := List.length_filter_le _ _
def pinO (o : Option Fr) : Int := match o with
  | none => 0
  | some f => f.pins
theorem pinsF_cons (o : Option Fr) (l : List (Option Fr)) : pinsF (o :: l) = pinO o + pinsF l := by
  cases o <;> simp [pinsF, pinO]
theorem pinsF_set : ∀ (l : List (Option Fr)) (i : Nat) (a b : Option Fr), l[i]? = some a → pinsF (l.set i b) = pinsF l - pinO a + pinO b
  | [], i, a, b, h => by cases h
  | o :: l, 0, a, b, h => by
    obtain rfl : o = a := by simpa using h
    rw [List.set_cons_zero, pinsF_cons, pinsF_cons]; omega
  | o :: l, i + 1, a, b, h => by
    rw [List.set_cons_succ, pinsF_cons, pinsF_cons]
    have := pinsF_set l i a b (by simpa using h)
    omega
end Go.Proofs.YthjnfclebeggaaaDoor
