/-
  A pool's frames, in plain words. A pool in the world: its struct, its frames, its map, its disk; what turns, and what stays.
  The laws' Full and awake; disks whose flags tell the free pages. The disk's calls, each in one word for all its ways.
-/
import Derived.Test.YtfljlcfmdcepnaaGreatDoorJUMap
import Derived.Test.YtfljlcfmdcepnaaGreatDoorJDiskO
namespace Go.Proofs.YtfljlcfmdcepnaaGreatDoor
open Go.RowKit
open UK (str BytesAt nth Only Row Box)
structure Fr where
  blk : Nat
  db : Nat
  cap : Nat
  page : Int
  data : List UInt8
  pins : Int
  used : Bool
  dirty : Bool
def sweep : Nat → List (Option Fr) → Nat → Option Nat × List (Option Fr) × Nat
  | 0, l, h => (none, l, h)
  | n + 1, l, h => match l.getD h none with
    | none => (some h, l, (h + 1) % l.length)
    | some f => if 0 < f.pins then sweep n l ((h + 1) % l.length) else if f.used = true then sweep n (l.set h (some { f with used := false })) ((h + 1) % l.length) else (some h, l, (h + 1) % l.length)
theorem sweep_none (n : Nat) {l : List (Option Fr)} {h : Nat} (hh : l[h]? = some none) : sweep (n + 1) l h = (some h, l, (h + 1) % l.length) := by
  have e : l.getD h none = none := by rw [List.getD_eq_getElem?_getD, hh]; rfl
  simp only [sweep, e]
theorem sweep_some (n : Nat) {l : List (Option Fr)} {h : Nat} {f : Fr} (hh : l[h]? = some (some f)) : sweep (n + 1) l h = if 0 < f.pins then sweep n l ((h + 1) % l.length) else if f.used = true then sweep n (l.set h (some { f with used := false })) ((h + 1) % l.length) else (some h, l, (h + 1) % l.length) := by
  have e : l.getD h none = some f := by rw [List.getD_eq_getElem?_getD, hh]; rfl
  simp only [sweep, e]
def AtIs (l : List (Option Fr)) (f : Int → Option Int) : Prop := ∀ p i, f p = some i ↔ ∃ j : Nat, i = j ∧ ∃ fr, l[j]? = some (some fr) ∧ fr.page = p
def cntF (l : List (Option Fr)) : Nat := (l.filter Option.isSome).length
def pinsF : List (Option Fr) → Int
  | [] => 0
  | none :: l => pinsF l
  | some f :: l => f.pins + pinsF l
theorem AtIs.at_ {l : List (Option Fr)} {f : Int → Option Int} (h : AtIs l f) {j : Nat} {fr : Fr} (hj : l[j]? = some (some fr)) : f fr.page = some (j : Int) := (h _ _).2 ⟨j, rfl, fr, hj, rfl⟩
theorem AtIs.inj {l : List (Option Fr)} {f : Int → Option Int} (h : AtIs l f) {i j : Nat} {a b : Fr} (hi : l[i]? = some (some a)) (hj : l[j]? = some (some b)) (e : a.page = b.page) : i = j := by
  have h1 := h.at_ hi
  have h2 := h.at_ hj
  rw [e, h2] at h1
  have := Option.some.inj h1
  omega
theorem AtIs.no {l : List (Option Fr)} {f : Int → Option Int} (h : AtIs l f) {p : Int} (hp : f p = none) {j : Nat} {fr : Fr} (hj : l[j]? = some (some fr)) : fr.page ≠ p := fun e => by
  have := h.at_ hj
  rw [e, hp] at this; cases this
theorem get_set (l : List (Option Fr)) (i j : Nat) (o : Option Fr) (hi : i < l.length) : (l.set i o)[j]? = if i = j then some o else l[j]? := by
  rw [List.getElem?_set]
  by_cases e : i = j
  · rw [if_pos e, if_pos e, if_pos hi]
  · rw [if_neg e, if_neg e]
theorem AtIs.forget {l : List (Option Fr)} {f : Int → Option Int} (h : AtIs l f) {i : Nat} {fr : Fr} (hi : l[i]? = some (some fr)) : AtIs (l.set i none) (fun p => if p = fr.page then none else f p) := by
  have hl := (List.getElem?_eq_some_iff.1 hi).1
  intro p q
  show (if p = fr.page then none else f p) = some q ↔ _
  by_cases e : p = fr.page
  · rw [if_pos e]
    constructor
    · intro h0; cases h0
    · rintro ⟨j, _, g, hj, hg⟩
      rw [get_set l i j _ hl] at hj
      by_cases e2 : i = j
      · rw [if_pos e2] at hj; cases hj
      · rw [if_neg e2] at hj
        exact absurd (h.inj hi hj (by rw [hg, e])) e2
  · rw [if_neg e, h p q]
    constructor
    · rintro ⟨j, hq, g, hj, hg⟩
      refine ⟨j, hq, g, ?_, hg⟩
      rw [get_set l i j _ hl, if_neg (fun e2 => ?_)]
      · exact hj
      · subst e2
        rw [hi] at hj
        have := Option.some.inj (Option.some.inj hj)
        exact e (by rw [← hg, this])
    · rintro ⟨j, hq, g, hj, hg⟩
      rw [get_set l i j _ hl] at hj
      by_cases e2 : i = j
      · rw [if_pos e2] at hj; cases hj
      · rw [if_neg e2] at hj; exact ⟨j, hq, g, hj, hg⟩
theorem AtIs.lay {l : List (Option Fr)} {f : Int → Option Int} (h : AtIs l f) {i : Nat} (hi : l[i]? = some none) {fr : Fr} (hp : f fr.page = none) : AtIs (l.set i (some fr)) (fun p => if p = fr.page then some (i : Int) else f p) := by
  have hl := (List.getElem?_eq_some_iff.1 hi).1
  intro p q
  show (if p = fr.page then some (i : Int) else f p) = some q ↔ _
  by_cases e : p = fr.page
  · rw [if_pos e]
    constructor
    · intro h0
      exact ⟨i, (Option.some.inj h0).symm, fr, by rw [get_set l i i _ hl, if_pos rfl], e.symm⟩
    · rintro ⟨j, hq, g, hj, hg⟩
      rw [get_set l i j _ hl] at hj
      by_cases e2 : i = j
      · rw [hq, e2]
      · rw [if_neg e2] at hj
        exact absurd (hg.trans e) (h.no hp hj)
  · rw [if_neg e, h p q]
    constructor
    · rintro ⟨j, hq, g, hj, hg⟩
      refine ⟨j, hq, g, ?_, hg⟩
      rw [get_set l i j _ hl, if_neg (fun e2 => ?_)]
      · exact hj
      · subst e2
        rw [hi] at hj; cases hj
    · rintro ⟨j, hq, g, hj, hg⟩
      rw [get_set l i j _ hl] at hj
      by_cases e2 : i = j
      · rw [if_pos e2] at hj
        have := Option.some.inj (Option.some.inj hj)
        exact absurd (by rw [← hg, ← this]) e
      · rw [if_neg e2] at hj; exact ⟨j, hq, g, hj, hg⟩
theorem AtIs.turn {l : List (Option Fr)} {f : Int → Option Int} (h : AtIs l f) {i : Nat} {a b : Fr} (hi : l[i]? = some (some a)) (hp : b.page = a.page) : AtIs (l.set i (some b)) f := by
  have hl := (List.getElem?_eq_some_iff.1 hi).1
  intro p q
  rw [h p q]
  constructor
  · rintro ⟨j, hq, g, hj, hg⟩
    by_cases e2 : i = j
    · subst e2
      rw [hi] at hj
      have := Option.some.inj (Option.some.inj hj)
      exact ⟨i, hq, b, by rw [get_set l i i _ hl, if_pos rfl], by rw [hp, this, hg]⟩
    · exact ⟨j, hq, g, by rw [get_set l i j _ hl, if_neg e2]; exact hj, hg⟩
  · rintro ⟨j, hq, g, hj, hg⟩
    rw [get_set l i j _ hl] at hj
    by_cases e2 : i = j
    · rw [if_pos e2] at hj
      have := Option.some.inj (Option.some.inj hj)
      subst e2
      exact ⟨i, hq, a, hi, by rw [← hp, this, hg]⟩
    · rw [if_neg e2] at hj; exact ⟨j, hq, g, hj, hg⟩
theorem cntF_cons (o : Option Fr) (l : List (Option Fr)) : cntF (o :: l) = (if o.isSome then 1 else 0) + cntF l := by
  unfold cntF
  cases o with
  | none => simp
  | some f => simp; omega
theorem cntF_set : ∀ (l : List (Option Fr)) (i : Nat) (a b : Option Fr), l[i]? = some a → cntF (l.set i b) + (if a.isSome then 1 else 0) = cntF l + (if b.isSome then 1 else 0)
  | [], i, a, b, h => by cases h
  | o :: l, 0, a, b, h => by
    obtain rfl : o = a := by simpa using h
    rw [List.set_cons_zero, cntF_cons, cntF_cons]; omega
  | o :: l, i + 1, a, b, h => by
    rw [List.set_cons_succ, cntF_cons, cntF_cons]
    have := cntF_set l i a b (by simpa using h)
    omega
theorem cntF_le (l : List (Option Fr)) : cntF l ≤ l.length := List.length_filter_le _ _
def pinO (o : Option Fr) : Int := match o with
  | none => 0
  | some f => f.pins
theorem pinsF_cons (o : Option Fr) (l : List (Option Fr)) : pinsF (o :: l) = pinO o + pinsF l := by
  cases o <;> simp [pinsF, pinO]
theorem pinsF_set : ∀ (l : List (Option Fr)) (i : Nat) (a b : Option Fr), l[i]? = some a → pinsF (l.set i b) = pinsF l - pinO a + pinO b
  | [], i, a, b, h => by cases h
  | o :: l, 0, a, b, h => by
    obtain rfl : o = a := by simpa using h
    rw [List.set_cons_zero, pinsF_cons, pinsF_cons]; omega
  | o :: l, i + 1, a, b, h => by
    rw [List.set_cons_succ, pinsF_cons, pinsF_cons]
    have := pinsF_set l i a b (by simpa using h)
    omega
end Go.Proofs.YtfljlcfmdcepnaaGreatDoor
namespace Go.Proofs.YtfljlcfmdcepnaaGreatDoor
open Go.RowKit
open UK (str BytesAt nth Only Row Box IntMap StrMap)
structure Opn where
  wb : Nat
  was : Int → Option (List UInt8)
  wn : Nat
  mo : Option Addr
  mc : Nat
  made : List Int
  go : Option Addr
  gc : Nat
  gone : List Int
structure Pl where
  frames : List (Option Fr)
  hand : Nat
  pins : Int
  op : Option Opn
def vOpen (o : Option Opn) : Value := .bool o.isSome
def vWas : Option Opn → Value
  | none => .map none
  | some o => .map (some o.wb)
def vMade : Option Opn → Value
  | none => .slice none 0 0
  | some o => .slice o.mo o.made.length o.mc
def vGone : Option Opn → Value
  | none => .slice none 0 0
  | some o => .slice o.go o.gone.length o.gc
def intVs (l : List Int) : List Value := l.map fun i => .int .i64 i
def SlAt (W : World) (ao : Option Addr) (c : Nat) (l : List Int) : Prop := (ao = none ∧ l = [] ∧ c = 0) ∨ ∃ g, ao = some ⟨g, 0, none⟩ ∧ Row W g c (intVs l)
def slB (ao : Option Addr) (k : Nat) : Prop := ao = some ⟨k, 0, none⟩
def opB (o : Option Opn) (k : Nat) : Prop := match o with
  | none => False
  | some o => k = o.wb ∨ slB o.mo k ∨ slB o.go k
structure OpIs (W : World) (o : Opn) : Prop where
  was : StrMap Tryz.prog 3 9 W o.wb o.wn o.was o.wn
  made : SlAt W o.mo o.mc o.made
  gone : SlAt W o.go o.gc o.gone
  wm : ¬ slB o.mo o.wb
  wg : ¬ slB o.go o.wb
  mg : ∀ k, slB o.mo k → ¬ slB o.go k
  madeW : ∀ p ∈ o.made, (Lit.int .i64 p).wf = true
  goneW : ∀ p ∈ o.gone, (Lit.int .i64 p).wf = true
  few : o.wn ≤ 1000000000 ∧ o.made.length ≤ 1000000000 ∧ o.gone.length ≤ 1000000000
def OpAt (W : World) (o : Option Opn) : Prop := ∀ x, o = some x → OpIs W x
def ptrOf (o : Option Fr) : Value := match o with
  | none => .pointer none
  | some f => .pointer (some ⟨f.blk, 0, none⟩)
abbrev fcells (P : Nat) (f : Fr) : Array Value := #[.pointer (some ⟨P, 0, none⟩), .int .i64 f.page, .slice (some ⟨f.db, 0, none⟩) 504 f.cap, .int .i64 f.pins, .bool f.used, .bool f.dirty]
abbrev pcells (D FB k M : Nat) (hand : Nat) (pins : Int) (o : Option Opn) : Array Value := #[.pointer (some ⟨D, 0, none⟩), .slice (some ⟨FB, 0, none⟩) k k, .map (some M), .int .i64 hand, .int .i64 pins, vOpen o, vWas o, vMade o, vGone o]
structure FrAt (W : World) (P : Nat) (f : Fr) : Prop where
  box : Box W f.blk (fcells P f)
  bytes : ∃ y, BytesAt W f.db y ∧ y.length = f.cap ∧ y.take 504 = f.data
  len : f.data.length = 504
  cap : 504 ≤ f.cap
  page : (Lit.int .i64 f.page).wf = true
  ne : f.blk ≠ f.db
def frB (o : Option Fr) (k : Nat) : Prop := match o with
  | none => False
  | some f => k = f.blk ∨ k = f.db
def PBlk (P FB M : Nat) (l : List (Option Fr)) (op : Option Opn) (k : Nat) : Prop := k = P ∨ k = FB ∨ k = M ∨ opB op k ∨ ∃ (i : Nat) (o : Option Fr), l[i]? = some o ∧ frB o k
structure PoolAt (W : World) (P D FB M : Nat) (q : Pl) : Prop where
  box : Box W P (pcells D FB q.frames.length M q.hand q.pins q.op)
  frs : Row W FB q.frames.length (q.frames.map ptrOf)
  map : ∃ f, AtIs q.frames f ∧ IntMap Tryz.prog 3 3 W M (cntF q.frames) f (cntF q.frames)
  each : ∀ (i : Nat) (f : Fr), q.frames[i]? = some (some f) → FrAt W P f
  PF : P ≠ FB
  PM : P ≠ M
  FM : FB ≠ M
  off : ∀ (i : Nat) (o : Option Fr) (k : Nat), q.frames[i]? = some o → frB o k → k ≠ P ∧ k ≠ FB ∧ k ≠ M
  two : ∀ (i j : Nat) (o u : Option Fr) (k : Nat), i ≠ j → q.frames[i]? = some o → q.frames[j]? = some u → frB o k → ¬ frB u k
  op : OpAt W q.op
  opOff : ∀ k, opB q.op k → k ≠ P ∧ k ≠ FB ∧ k ≠ M
  opTwo : ∀ (i : Nat) (o : Option Fr) (k : Nat), q.frames[i]? = some o → frB o k → ¬ opB q.op k
  tab : ∀ (k : Nat), PBlk P FB M q.frames q.op k → 0 ≠ k
structure PD (E : Nat → Prop) (W : World) (P D FB M : Nat) (q : Pl) (d : Dk) (cnt : Nat) : Prop where
  pool : PoolAt W P D FB M q
  dd : DD (fun k => E k ∨ PBlk P FB M q.frames q.op k) W D d cnt
  far : ∀ k, E k → ¬ PBlk P FB M q.frames q.op k
section
variable {E : Nat → Prop} {W W' : World} {P D FB M cnt : Nat} {q : Pl} {d d' : Dk}
theorem FrAt.of_block {f : Fr} (h : FrAt W P f) (h1 : W'.heap[f.blk]? = W.heap[f.blk]?) (h2 : W'.heap[f.db]? = W.heap[f.db]?) : FrAt W' P f := by
  obtain ⟨y, a, b, c⟩ := h.bytes
  exact ⟨h.box.of_block h1, ⟨y, a.of_block h2, b, c⟩, h.len, h.cap, h.page, h.ne⟩
theorem FrAt.lt {f : Fr} (h : FrAt W P f) {k : Nat} (hk : frB (some f) k) : k < W.heap.size := by
  obtain ⟨y, a, _⟩ := h.bytes
  rcases hk with rfl | rfl
  · exact h.box.lt
  · exact a.lt
theorem SlAt.lt {ao : Option Addr} {c : Nat} {l : List Int} (h : SlAt W ao c l) {k : Nat} (hk : slB ao k) : k < W.heap.size := by
  rcases h with ⟨h, _⟩ | ⟨g, h, r⟩
  · rw [slB, h] at hk; cases hk
  · rw [slB, h] at hk
    have := Addr.mk.inj (Option.some.inj hk)
    rw [← this.1]; exact r.lt
theorem SlAt.of_block {ao : Option Addr} {c : Nat} {l : List Int} (h : SlAt W ao c l) (hs : W.heap.size ≤ W'.heap.size) (hb : ∀ k, slB ao k → W'.heap[k]? = W.heap[k]?) : SlAt W' ao c l := by
  rcases h with h | ⟨g, h, r⟩
  · exact .inl h
  · exact .inr ⟨g, h, r.of_block hs (hb g h)⟩
theorem OpAt.lt {o : Option Opn} (h : OpAt W o) {k : Nat} (hk : opB o k) : k < W.heap.size := by
  cases o with
  | none => exact absurd hk id
  | some x =>
    have hx := h x rfl
    rcases hk with rfl | hk | hk
    · exact hx.was.lt
    · exact hx.made.lt hk
    · exact hx.gone.lt hk
theorem OpAt.of_block {o : Option Opn} (h : OpAt W o) (hs : W.heap.size ≤ W'.heap.size) (hb : ∀ k, opB o k → W'.heap[k]? = W.heap[k]?) : OpAt W' o := fun x hx => by
  subst hx
  have h1 := h x rfl
  exact ⟨h1.was.of_block (hb _ (.inl rfl)), h1.made.of_block hs (fun k hk => hb k (.inr (.inl hk))), h1.gone.of_block hs (fun k hk => hb k (.inr (.inr hk))), h1.wm, h1.wg, h1.mg, h1.madeW, h1.goneW, h1.few⟩
theorem PoolAt.ltF (h : PoolAt W P D FB M q) {i : Nat} {o : Option Fr} (hi : q.frames[i]? = some o) {k : Nat} (hk : frB o k) : k < W.heap.size := by
  cases o with
  | none => exact absurd hk id
  | some f => exact (h.each i f hi).lt hk
theorem PoolAt.lt (h : PoolAt W P D FB M q) {k : Nat} (hk : PBlk P FB M q.frames q.op k) : k < W.heap.size := by
  rcases hk with rfl | rfl | rfl | ho | ⟨i, o, hi, ho⟩
  · exact h.box.lt
  · exact h.frs.lt
  · obtain ⟨f, _, hm⟩ := h.map
    exact hm.lt
  · exact h.op.lt ho
  · exact h.ltF hi ho
theorem PoolAt.kept (h : PoolAt W P D FB M q) (hs : W.heap.size ≤ W'.heap.size) (hb : ∀ k, PBlk P FB M q.frames q.op k → W'.heap[k]? = W.heap[k]?) : PoolAt W' P D FB M q := by
  obtain ⟨f, hf, hm⟩ := h.map
  exact ⟨h.box.of_block (hb _ (.inl rfl)), h.frs.of_block hs (hb _ (.inr (.inl rfl))), ⟨f, hf, hm.of_block (hb _ (.inr (.inr (.inl rfl))))⟩,
    fun i g hi => (h.each i g hi).of_block (hb _ (.inr (.inr (.inr (.inr ⟨i, _, hi, .inl rfl⟩))))) (hb _ (.inr (.inr (.inr (.inr ⟨i, _, hi, .inr rfl⟩))))), h.PF, h.PM, h.FM, h.off, h.two, h.op.of_block hs (fun k hk => hb k (.inr (.inr (.inr (.inl hk))))), h.opOff, h.opTwo, h.tab⟩
theorem PD.next (h : PD E W P D FB M q d cnt) (hb : Below W.heap.size W W') : PD E W' P D FB M q d cnt :=
  ⟨h.pool.kept hb.size (fun k hk => hb.block k (h.pool.lt hk)), h.dd.below hb, h.far⟩
theorem PD.disk (h : PD E W P D FB M q d cnt) {cnt' : Nat} (hd : DD (fun k => E k ∨ PBlk P FB M q.frames q.op k) W' D d' cnt') (hk : Kept (fun k => E k ∨ PBlk P FB M q.frames q.op k) W W') : PD E W' P D FB M q d' cnt' :=
  ⟨h.pool.kept hk.size (fun k hp => hk.block k (.inr hp)), hd, h.far⟩
theorem ptrOf_at (l : List (Option Fr)) (i : Nat) (o : Option Fr) (h : l[i]? = some o) : (l.map ptrOf)[i]? = some (ptrOf o) := by
  rw [List.getElem?_map, h]; rfl
theorem map_set_same (l : List (Option Fr)) (i : Nat) (o u : Option Fr) (h : l[i]? = some o) (e : ptrOf u = ptrOf o) : (l.set i u).map ptrOf = l.map ptrOf := by
  refine List.ext_getElem? (fun j => ?_)
  have hl := (List.getElem?_eq_some_iff.1 h).1
  rw [List.getElem?_map, List.getElem?_map, get_set l i j _ hl]
  by_cases e2 : i = j
  · subst e2; rw [if_pos rfl, h]; simp [e]
  · rw [if_neg e2]
theorem map_set (l : List (Option Fr)) (i : Nat) (u : Option Fr) : (l.set i u).map ptrOf = (l.map ptrOf).set i (ptrOf u) := List.map_set
theorem PoolAt.setF {i : Nat} {o o' : Option Fr} {hand : Nat} {pins : Int} (h : PoolAt W P D FB M q) (hi : q.frames[i]? = some o) (_ht : 0 < W.heap.size) (hP : Box W' P (pcells D FB q.frames.length M hand pins q.op)) (hs : W.heap.size ≤ W'.heap.size) (hopk : ∀ k, opB q.op k → W'.heap[k]? = W.heap[k]?)
    (hFB : Row W' FB q.frames.length ((q.frames.set i o').map ptrOf)) (hM : ∃ f, AtIs (q.frames.set i o') f ∧ IntMap Tryz.prog 3 3 W' M (cntF (q.frames.set i o')) f (cntF (q.frames.set i o')))
    (hkeep : ∀ (j : Nat) (u : Option Fr) (k : Nat), j ≠ i → q.frames[j]? = some u → frB u k → W'.heap[k]? = W.heap[k]?) (hnew : ∀ f, o' = some f → FrAt W' P f) (hown : ∀ k, frB o' k → frB o k ∨ W.heap.size ≤ k) :
    PoolAt W' P D FB M { frames := q.frames.set i o', hand := hand, pins := pins, op := q.op } := by
  have hl := (List.getElem?_eq_some_iff.1 hi).1
  have hPl := h.box.lt
  have hFl := h.frs.lt
  have hMl : M < W.heap.size := h.lt (.inr (.inr (.inl rfl)))
  have hoff : ∀ k, frB o' k → k ≠ P ∧ k ≠ FB ∧ k ≠ M := fun k hk => by
    rcases hown k hk with h1 | h1
    · exact h.off i o k hi h1
    · exact ⟨by omega, by omega, by omega⟩
  have htwo : ∀ j u k, j ≠ i → q.frames[j]? = some u → frB o' k → ¬ frB u k := fun j u k hj hu hk hh => by
    rcases hown k hk with h1 | h1
    · exact h.two i j o u k (Ne.symm hj) hi hu h1 hh
    · have := h.ltF hu hh; omega
  refine ⟨by show Box _ _ (pcells _ _ (q.frames.set i o').length _ _ _ _); rw [List.length_set]; exact hP, by show Row _ _ (q.frames.set i o').length _; rw [List.length_set]; exact hFB, hM, fun j f hj => ?_, h.PF, h.PM, h.FM, fun j u k hj hk => ?_, fun a b u v k hab ha hb hk hh => ?_, h.op.of_block hs hopk, h.opOff, fun j u k hj hk hh => ?_, fun k hk => ?_⟩
  · have hj : (q.frames.set i o')[j]? = some (some f) := hj
    rw [get_set _ _ _ _ hl] at hj
    by_cases e : i = j
    · rw [if_pos e] at hj; exact hnew f (Option.some.inj hj)
    · rw [if_neg e] at hj
      exact (h.each j f hj).of_block (hkeep j _ _ (Ne.symm e) hj (.inl rfl)) (hkeep j _ _ (Ne.symm e) hj (.inr rfl))
  · have hj : (q.frames.set i o')[j]? = some u := hj
    rw [get_set _ _ _ _ hl] at hj
    by_cases e : i = j
    · rw [if_pos e] at hj; rw [← Option.some.inj hj] at hk; exact hoff k hk
    · rw [if_neg e] at hj; exact h.off j u k hj hk
  · have ha : (q.frames.set i o')[a]? = some u := ha
    have hb : (q.frames.set i o')[b]? = some v := hb
    rw [get_set _ _ _ _ hl] at ha hb
    by_cases e : i = a
    · rw [if_pos e] at ha
      rw [if_neg (fun e2 => hab (e.symm.trans e2))] at hb
      rw [← Option.some.inj ha] at hk
      exact htwo b v k (fun e2 => hab (e.symm.trans e2.symm)) hb hk hh
    · rw [if_neg e] at ha
      by_cases e2 : i = b
      · rw [if_pos e2] at hb
        rw [← Option.some.inj hb] at hh
        exact htwo a u k (Ne.symm e) ha hh hk
      · rw [if_neg e2] at hb
        exact h.two a b u v k hab ha hb hk hh
  · have hj : (q.frames.set i o')[j]? = some u := hj
    rw [get_set _ _ _ _ hl] at hj
    by_cases e : i = j
    · rw [if_pos e] at hj
      rw [← Option.some.inj hj] at hk
      rcases hown k hk with h1 | h1
      · exact h.opTwo i o k hi h1 hh
      · have := h.op.lt hh; omega
    · rw [if_neg e] at hj; exact h.opTwo j u k hj hk hh
  · rcases hk with hk | hk | hk | hk | ⟨j, u, hj, hk⟩
    · exact h.tab k (.inl hk)
    · exact h.tab k (.inr (.inl hk))
    · exact h.tab k (.inr (.inr (.inl hk)))
    · exact h.tab k (.inr (.inr (.inr (.inl hk))))
    · have hj : (q.frames.set i o')[j]? = some u := hj
      rw [get_set _ _ _ _ hl] at hj
      by_cases e : i = j
      · rw [if_pos e] at hj
        rw [← Option.some.inj hj] at hk
        rcases hown k hk with h1 | h1
        · exact h.tab k (.inr (.inr (.inr (.inr ⟨i, o, hi, h1⟩))))
        · omega
      · rw [if_neg e] at hj
        exact h.tab k (.inr (.inr (.inr (.inr ⟨j, u, hj, hk⟩))))
theorem PBlk.setF {i : Nat} {o o' : Option Fr} {l : List (Option Fr)} {op : Option Opn} {n k : Nat} (hi : l[i]? = some o) (hown : ∀ k, frB o' k → frB o k ∨ n ≤ k) (h : PBlk P FB M (l.set i o') op k) : PBlk P FB M l op k ∨ n ≤ k := by
  have hl := (List.getElem?_eq_some_iff.1 hi).1
  rcases h with h | h | h | h | ⟨j, u, hj, hk⟩
  · exact .inl (.inl h)
  · exact .inl (.inr (.inl h))
  · exact .inl (.inr (.inr (.inl h)))
  · exact .inl (.inr (.inr (.inr (.inl h))))
  · rw [get_set _ _ _ _ hl] at hj
    by_cases e : i = j
    · rw [if_pos e] at hj
      rw [← Option.some.inj hj] at hk
      rcases hown k hk with h1 | h1
      · exact .inl (.inr (.inr (.inr (.inr ⟨i, o, hi, h1⟩))))
      · exact .inr h1
    · rw [if_neg e] at hj
      exact .inl (.inr (.inr (.inr (.inr ⟨j, u, hj, hk⟩))))
theorem PD.moves {q' : Pl} (h : PD E W P D FB M q d cnt) (m : Moves (PBlk P FB M q.frames q.op) (PBlk P FB M q'.frames q'.op) W W') (hp : PoolAt W' P D FB M q') : PD E W' P D FB M q' d cnt ∧ Kept E W W' := by
  obtain ⟨⟨own, hown, B, bc, fo, fc, I, ic, y, hd⟩, hf, hS⟩ := h.dd
  have hE : ∀ k, E k → W'.heap[k]? = W.heap[k]? := fun k hk => m.block k (hS k (.inl hk)) (h.far k hk)
  have hd2 := hd.tight
  have hown2 : ∀ k, (own k ∧ k < W.heap.size) → W'.heap[k]? = W.heap[k]? := fun k hk => m.block k hk.2 (fun hh => hown k hk.1 (.inr hh))
  have htlt := hd.tab.lt
  have htab : TabAt W' := by
    have hb := m.block _ htlt (fun hh => h.pool.tab _ hh rfl)
    intro c
    exact (World.cell?_of_block (a := ⟨_, _, none⟩) hb).trans (hd.tab c)
  refine ⟨⟨hp, ⟨⟨fun k => own k ∧ k < W.heap.size, fun k hk hh => ?_, B, bc, fo, fc, I, ic, y, ?_⟩, hf, fun k hk => ?_⟩, fun k hk hh => ?_⟩, ⟨m.os, m.tape, m.output, m.size, hE⟩⟩
  · rcases hh with hh | hh
    · exact hown k hk.1 (.inl hh)
    · rcases m.owns k hh with h1 | h1
      · exact hown k hk.1 (.inr h1)
      · have := hk.2; omega
  · refine ⟨hd2.cells.of_block m.size (hown2 _ hd2.oD), hd2.bytes.of_block (hown2 _ hd2.oB), hd2.ylen, hd2.le, hd2.pre, ?_, hd2.flags.of_block m.size (hown2 _ hd2.oI), hd2.DB, hd2.DI, hd2.BI, hd2.oD, hd2.oB, hd2.oI, htab, hd2.notab⟩
    rcases hd2.freeAt with h0 | ⟨F, e1, r, n1, n2, n3, n4⟩
    · exact .inl h0
    · exact .inr ⟨F, e1, r.of_block m.size (hown2 _ n4), n1, n2, n3, n4⟩
  · rcases hk with hk | hk
    · exact Nat.lt_of_lt_of_le (hS k (.inl hk)) m.size
    · exact hp.lt hk
  · rcases m.owns k hh with h1 | h1
    · exact h.far k hk h1
    · have := hS k (.inl hk); omega
structure PlOk (q : Pl) : Prop where
  pins : q.pins = pinsF q.frames
  pos : ∀ (i : Nat) (f : Fr), q.frames[i]? = some (some f) → 0 ≤ f.pins ∧ f.pins ≤ 1000000
  hand : q.hand < q.frames.length
  few : q.frames.length ≤ 1000
theorem sweep_ok : ∀ (n : Nat) (q : Pl), PlOk q → PlOk { frames := (sweep n q.frames q.hand).2.1, hand := (sweep n q.frames q.hand).2.2, pins := q.pins, op := q.op } ∧ (sweep n q.frames q.hand).2.1.length = q.frames.length ∧
    ∀ i, (sweep n q.frames q.hand).1 = some i → ∃ o, (sweep n q.frames q.hand).2.1[i]? = some o ∧ ∀ f, o = some f → f.pins = 0
  | 0, q, h => ⟨h, rfl, fun i hi => by cases hi⟩
  | n + 1, q, h => by
    have hh := h.hand
    have hmod : (q.hand + 1) % q.frames.length < q.frames.length := Nat.mod_lt _ (by omega)
    obtain ⟨o, ho⟩ : ∃ o, q.frames[q.hand]? = some o := ⟨_, List.getElem?_eq_getElem hh⟩
    cases o with
    | none =>
      rw [sweep_none n ho]
      exact ⟨⟨h.pins, h.pos, hmod, h.few⟩, rfl, fun i hi => ⟨none, by rw [← Option.some.inj hi]; exact ho, fun f hf => by cases hf⟩⟩
    | some f =>
      rw [sweep_some n ho]
      by_cases hp : 0 < f.pins
      · rw [if_pos hp]
        exact sweep_ok n { q with hand := (q.hand + 1) % q.frames.length } ⟨h.pins, h.pos, hmod, h.few⟩
      · rw [if_neg hp]
        by_cases hu : f.used = true
        · rw [if_pos hu]
          have hl := (List.getElem?_eq_some_iff.1 ho).1
          have h2 := sweep_ok n { q with frames := q.frames.set q.hand (some { f with used := false }), hand := (q.hand + 1) % q.frames.length } ⟨?_, fun i g hi => ?_, ?_, ?_⟩
          · simp only [List.length_set] at h2
            exact h2
          · show q.pins = pinsF (q.frames.set q.hand _)
            rw [pinsF_set _ _ _ _ ho]
            have := h.pins
            simp only [pinO]
            omega
          · have hi : (q.frames.set q.hand (some { f with used := false }))[i]? = some (some g) := hi
            rw [get_set _ _ _ _ hl] at hi
            by_cases e : q.hand = i
            · rw [if_pos e] at hi
              rw [← Option.some.inj (Option.some.inj hi)]
              exact h.pos _ f ho
            · rw [if_neg e] at hi; exact h.pos i g hi
          · show _ < (q.frames.set q.hand _).length
            rw [List.length_set]; exact hmod
          · show (q.frames.set q.hand _).length ≤ _
            rw [List.length_set]; exact h.few
        · rw [if_neg hu]
          refine ⟨⟨h.pins, h.pos, hmod, h.few⟩, rfl, fun i hi => ⟨some f, by rw [← Option.some.inj hi]; exact ho, fun g hg => ?_⟩⟩
          have := h.pos _ f ho
          rw [← Option.some.inj hg]; omega
theorem PlOk.set {q : Pl} (h : PlOk q) {i : Nat} {o u : Option Fr} (hi : q.frames[i]? = some o) (hu : ∀ f, u = some f → 0 ≤ f.pins ∧ f.pins ≤ 1000000) : PlOk { frames := q.frames.set i u, hand := q.hand, pins := q.pins - pinO o + pinO u, op := q.op } := by
  have hl := (List.getElem?_eq_some_iff.1 hi).1
  refine ⟨?_, fun j g hj => ?_, ?_, ?_⟩
  · show _ = pinsF (q.frames.set i u)
    rw [pinsF_set _ _ _ _ hi, ← h.pins]
  · have hj : (q.frames.set i u)[j]? = some (some g) := hj
    rw [get_set _ _ _ _ hl] at hj
    by_cases e : i = j
    · rw [if_pos e] at hj; exact hu g (Option.some.inj hj)
    · rw [if_neg e] at hj; exact h.pos j g hj
  · show _ < (q.frames.set i u).length
    rw [List.length_set]; exact h.hand
  · show (q.frames.set i u).length ≤ _
    rw [List.length_set]; exact h.few
def Fewer (q' q : Pl) : Prop := ∀ (j : Nat) (g : Fr), q'.frames[j]? = some (some g) → ∃ g0 : Fr, q.frames[j]? = some (some g0) ∧ g0.page = g.page
theorem Fewer.trans {a b c : Pl} (h : Fewer a b) (k : Fewer b c) : Fewer a c := fun j g hg => by
  obtain ⟨g1, h1, e1⟩ := h j g hg
  obtain ⟨g2, h2, e2⟩ := k j g1 h1
  exact ⟨g2, h2, e2.trans e1⟩
theorem Fewer.set {q : Pl} {i : Nat} {f g : Fr} (hi : q.frames[i]? = some (some f)) (hp : g.page = f.page) (hand : Nat) (pins : Int) : Fewer { frames := q.frames.set i (some g), hand := hand, pins := pins, op := q.op } q := fun j u hj => by
  have hl := (List.getElem?_eq_some_iff.1 hi).1
  replace hj : (q.frames.set i (some g))[j]? = some (some u) := hj
  rw [get_set _ _ _ _ hl] at hj
  by_cases e : i = j
  · rw [if_pos e] at hj
    subst e
    exact ⟨f, hi, by rw [← Option.some.inj (Option.some.inj hj), hp]⟩
  · rw [if_neg e] at hj; exact ⟨u, hj, rfl⟩
theorem Fewer.empty {q : Pl} {i : Nat} {o : Option Fr} (hi : q.frames[i]? = some o) (hand : Nat) (pins : Int) : Fewer { frames := q.frames.set i none, hand := hand, pins := pins, op := q.op } q := fun j u hj => by
  have hl := (List.getElem?_eq_some_iff.1 hi).1
  replace hj : (q.frames.set i none)[j]? = some (some u) := hj
  rw [get_set _ _ _ _ hl] at hj
  by_cases e : i = j
  · rw [if_pos e] at hj; cases hj
  · rw [if_neg e] at hj; exact ⟨u, hj, rfl⟩
theorem sweep_fewer (op : Option Opn) : ∀ (n : Nat) (l : List (Option Fr)) (h : Nat) (hand : Nat) (pins : Int) (hand' : Nat) (pins' : Int), h < l.length → Fewer { frames := (sweep n l h).2.1, hand := hand, pins := pins, op := op } { frames := l, hand := hand', pins := pins', op := op }
  | 0, l, h, _, _, _, _, _ => fun j g hg => ⟨g, hg, rfl⟩
  | n + 1, l, h, a, b, a', b', hh => by
    have hmod : (h + 1) % l.length < l.length := Nat.mod_lt _ (by omega)
    obtain ⟨o, ho⟩ : ∃ o, l[h]? = some o := ⟨_, List.getElem?_eq_getElem hh⟩
    cases o with
    | none => rw [sweep_none n ho]; exact fun j g hg => ⟨g, hg, rfl⟩
    | some f =>
      rw [sweep_some n ho]
      by_cases hp : 0 < f.pins
      · rw [if_pos hp]; exact sweep_fewer op n l _ a b a' b' hmod
      · rw [if_neg hp]
        by_cases hu : f.used = true
        · rw [if_pos hu]
          exact (sweep_fewer op n _ _ a b a' b' (by rw [List.length_set]; exact hmod)).trans (Fewer.set (q := { frames := l, hand := a', pins := b', op := op }) (g := { f with used := false }) ho rfl a' b')
        · rw [if_neg hu]; exact fun j g hg => ⟨g, hg, rfl⟩
end
end Go.Proofs.YtfljlcfmdcepnaaGreatDoor
namespace Go.Proofs.YtfljlcfmdcepnaaGreatDoor
open Go.RowKit
open UK (str BytesAt nth Only w32 Row)
open Go.BigFrame
structure Sound (d : Dk) (cnt : Nat) : Prop where
  mark : ∀ p, p < cnt → d.isf.getD p false = decide (p ∈ d.free)
  nodup : d.free.Nodup
theorem nodup_le : ∀ (n : Nat) (l : List Nat), l.Nodup → (∀ x, x ∈ l → x < n) → l.length ≤ n
  | 0, [], _, _ => Nat.le_refl _
  | 0, x :: _, _, h => absurd (h x (List.mem_cons_self ..)) (Nat.not_lt_zero _)
  | n + 1, l, hn, h => by
    by_cases hm : n ∈ l
    · have h1 := nodup_le n (l.erase n) (hn.erase n) (fun x hx => by
        have h2 := h x (List.mem_of_mem_erase hx)
        have h3 : x ≠ n := fun e => by subst e; exact hn.not_mem_erase hx
        omega)
      rw [List.length_erase_of_mem hm] at h1
      omega
    · have h1 := nodup_le n l hn (fun x hx => by
        have h2 := h x hx
        have h3 : x ≠ n := fun e => by subst e; exact hm hx
        omega)
      omega
section
variable {d : Dk} {cnt : Nat}
theorem Sound.has (s : Sound d cnt) (p : Nat) : hasD d cnt p = decide (1 ≤ p ∧ p < cnt ∧ p ∉ d.free) := by
  unfold hasD
  rw [Int.toNat_natCast]
  by_cases h : 1 ≤ p ∧ p < cnt
  · rw [decide_eq_true (show (1 : Int) ≤ (p : Int) ∧ (p : Int) < cnt by omega), Bool.true_and, s.mark p h.2]
    by_cases hm : p ∈ d.free <;> simp [hm, h.1, h.2]
  · rw [decide_eq_false (show ¬ ((1 : Int) ≤ (p : Int) ∧ (p : Int) < cnt) by omega), Bool.false_and]
    exact (decide_eq_false (fun h' => h ⟨h'.1, h'.2.1⟩)).symm
theorem Sound.hasI (s : Sound d cnt) (p : Int) : hasD d cnt p = decide (1 ≤ p ∧ p < cnt ∧ p.toNat ∉ d.free) := by
  by_cases h : 1 ≤ p
  · obtain ⟨k, rfl⟩ : ∃ k : Nat, p = k := ⟨p.toNat, by omega⟩
    rw [s.has k, Int.toNat_natCast]
    exact decide_eq_decide.2 ⟨fun ⟨a, b, c⟩ => ⟨by omega, by omega, c⟩, fun ⟨a, b, c⟩ => ⟨by omega, by omega, c⟩⟩
  · unfold hasD
    rw [decide_eq_false (fun h' => h h'.1), Bool.false_and]
    exact (decide_eq_false (fun h' => h h'.1)).symm
theorem Sound.less (s : Sound d cnt) (f : Fit d cnt) {p : Nat} (hp : p < cnt) (hm : p ∉ d.free) : d.free.length < cnt := by
  have := nodup_le cnt (d.free ++ [p]) (List.nodup_append.2 ⟨s.nodup, List.pairwise_singleton _ _, fun a ha b hb => by
    rw [List.mem_singleton.1 hb]
    intro e; subst e; exact hm ha⟩) (fun x hx => by
      rcases List.mem_append.1 hx with hx | hx
      · exact (f.free x hx).2
      · rw [List.mem_singleton.1 hx]; exact hp)
  rw [List.length_append] at this
  exact this
theorem Sound.of_same {d' : Dk} (s : Sound d cnt) (h1 : d'.free = d.free) (h2 : d'.isf = d.isf) : Sound d' cnt := ⟨by rw [h1, h2]; exact s.mark, by rw [h1]; exact s.nodup⟩
theorem getD_set (l : List Bool) (i j : Nat) (b : Bool) (hi : i < l.length) : (l.set i b).getD j false = if i = j then b else l.getD j false := by
  rw [List.getD_eq_getElem?_getD, List.getD_eq_getElem?_getD, List.getElem?_set]
  by_cases h : i = j
  · subst h; rw [if_pos rfl, if_pos rfl, if_pos hi]; rfl
  · rw [if_neg h, if_neg h]
theorem Sound.give (s : Sound d cnt) (f : Fit d cnt) {p : Nat} (hp : p < cnt) (hm : p ∉ d.free) : Sound (giveD d p) cnt := by
  refine ⟨fun q hq => ?_, List.nodup_append.2 ⟨s.nodup, List.pairwise_singleton _ _, fun a ha b hb => by
    rw [List.mem_singleton.1 hb]
    intro e; subst e; exact hm ha⟩⟩
  show (d.isf.set p true).getD q false = decide (q ∈ d.free ++ [p])
  rw [getD_set _ _ _ _ (by rw [f.flags]; exact hp)]
  by_cases h : p = q
  · subst h; simp
  · rw [if_neg h, s.mark q hq]
    simp [Ne.symm h]
theorem Sound.takeF (s : Sound d cnt) (f : Fit d cnt) {l : List Nat} {p : Nat} (hl : d.free = l ++ [p]) : Sound (takeF d l p) cnt := by
  have hn := s.nodup
  rw [hl] at hn
  have hn2 := List.nodup_append.1 hn
  have hp := f.free p (by rw [hl]; exact List.mem_append_right _ (List.mem_singleton.2 rfl))
  refine ⟨fun q hq => ?_, hn2.1⟩
  show (d.isf.set p false).getD q false = decide (q ∈ l)
  rw [getD_set _ _ _ _ (by rw [f.flags]; exact hp.2)]
  by_cases h : p = q
  · subst h
    rw [if_pos rfl]
    exact (decide_eq_false (fun hm => hn2.2.2 p hm p (List.mem_singleton.2 rfl) rfl)).symm
  · rw [if_neg h, s.mark q hq, hl]
    simp [Ne.symm h]
theorem Sound.takeN (s : Sound d cnt) (f : Fit d cnt) (hl : d.free = []) : Sound (takeN d cnt) (cnt + 1) := by
  refine ⟨fun q hq => ?_, s.nodup⟩
  show (d.isf ++ [false]).getD q false = decide (q ∈ d.free)
  rw [hl, List.getD_eq_getElem?_getD]
  by_cases h : q < cnt
  · rw [List.getElem?_append_left (by rw [f.flags]; exact h), ← List.getD_eq_getElem?_getD, s.mark q h, hl]
  · have e : q = d.isf.length := by rw [f.flags]; omega
    rw [e, List.getElem?_append_right (Nat.le_refl _), Nat.sub_self]
    simp
end
structure Still (d : Dk) (most : Int) (free : List Nat) (puts : Int) : Prop where
  most : d.most = most
  free : d.free = free
  wl : d.wl = -1
  puts : d.puts = puts
theorem newD_is (pages : Int) : newD pages = { bareD pages with wl := -1, puts := 1, x := UK.wr (bareD pages).x 0 (pageL 0 (headL (bareD pages) 1)) } := by
  unfold newD flushD
  rw [if_neg (show ¬ (bareD pages).wl = 0 by show ¬ (-1 : Int) = 0; omega)]
  rfl
theorem newD_rl (pages : Int) : (newD pages).rl = -1 := by rw [newD_is]; rfl
theorem newD_reads (pages : Int) : (newD pages).reads = 0 := by rw [newD_is]; rfl
theorem newD_still (pages : Int) : Still (newD pages) (clampD pages) [] 1 := by rw [newD_is]; exact ⟨rfl, rfl, rfl, rfl⟩
theorem newD_sound (pages : Int) : Sound (newD pages) 1 := by
  rw [newD_is]
  refine ⟨fun p hp => ?_, List.Pairwise.nil⟩
  obtain rfl : p = 0 := by omega
  rfl
section
variable {d : Dk} {most : Int} {free : List Nat} {puts : Int}
end
end Go.Proofs.YtfljlcfmdcepnaaGreatDoor
namespace Go.Proofs.YtfljlcfmdcepnaaGreatDoor
open Go.RowKit
open UK (str BytesAt nth Only w32 Row)
open Go.BigFrame
def rwriteE (d : Dk) (cnt : Nat) (p : Int) (s : List UInt8) : Int := if hasD d cnt p = false then 4 else if s.length ≠ 504 then 1 else failE d.wl
def rwriteD (d : Dk) (cnt : Nat) (p : Int) (s : List UInt8) : Dk := if hasD d cnt p = false then d else if s.length ≠ 504 then d else if d.wl = 0 then { d with wl := -1 } else writeD d p.toNat s
def rreadE (d : Dk) (cnt : Nat) (p : Int) : Int := if hasD d cnt p = false then 4 else if d.rl = 0 then 7 else readE d.x p.toNat
def rreadS (d : Dk) (cnt : Nat) (p : Int) : List UInt8 := if hasD d cnt p = false then [] else if d.rl = 0 then [] else lookL d.x p.toNat
def rreadD (d : Dk) (cnt : Nat) (p : Int) : Dk := if hasD d cnt p = false then d else if d.rl = 0 then { d with rl := -1 } else readD d
def rgiveE (d : Dk) (cnt : Nat) (p : Int) : Int := if hasD d cnt p = false then 4 else failE d.wl
def rgiveD (d : Dk) (cnt : Nat) (p : Int) : Dk := if hasD d cnt p = false then d else if d.wl = 0 then { d with wl := -1 } else giveD d p.toNat
structure Ok (d : Dk) (cnt : Nat) (k : Nat) : Prop where
  fit : Fit d cnt
  so : Sound d cnt
  puts : d.puts ≤ k + 1
  reads : d.reads ≤ k
def tE (d : Dk) (cnt : Nat) : Int := if d.most ≤ cnt ∧ d.free = [] then 6 else if d.wl = 0 then 7 else 0
def tP (d : Dk) (cnt : Nat) : Nat := if d.most ≤ cnt ∧ d.free = [] then 0 else if d.wl = 0 then 0 else if d.free = [] then cnt else d.free.getLastD 0
def tD (d : Dk) (cnt : Nat) : Dk := if d.most ≤ cnt ∧ d.free = [] then d else if d.wl = 0 then { d with wl := -1 } else if d.free = [] then takeN d cnt else takeF d d.free.dropLast (d.free.getLastD 0)
def tC (d : Dk) (cnt : Nat) : Nat := if d.most ≤ cnt ∧ d.free = [] then cnt else if d.wl = 0 then cnt else if d.free = [] then cnt + 1 else cnt
theorem take_split (d : Dk) (cnt : Nat) :
    (d.most ≤ cnt ∧ d.free = [] ∧ tE d cnt = 6 ∧ tP d cnt = 0 ∧ tD d cnt = d ∧ tC d cnt = cnt) ∨
    (((cnt : Int) < d.most ∨ 0 < d.free.length) ∧ d.wl = 0 ∧ tE d cnt = 7 ∧ tP d cnt = 0 ∧ tD d cnt = { d with wl := -1 } ∧ tC d cnt = cnt) ∨
    ((cnt : Int) < d.most ∧ d.wl ≠ 0 ∧ d.free = [] ∧ tE d cnt = 0 ∧ tP d cnt = cnt ∧ tD d cnt = takeN d cnt ∧ tC d cnt = cnt + 1) ∨
    (d.wl ≠ 0 ∧ ∃ l p, d.free = l ++ [p] ∧ tE d cnt = 0 ∧ tP d cnt = p ∧ tD d cnt = takeF d l p ∧ tC d cnt = cnt) := by
  by_cases h1 : d.most ≤ cnt ∧ d.free = []
  · exact .inl ⟨h1.1, h1.2, by unfold tE; rw [if_pos h1], by unfold tP; rw [if_pos h1], by unfold tD; rw [if_pos h1], by unfold tC; rw [if_pos h1]⟩
  · have hor : (cnt : Int) < d.most ∨ 0 < d.free.length := by
      by_cases hm : d.most ≤ cnt
      · exact .inr (List.length_pos_iff.2 (fun e => h1 ⟨hm, e⟩))
      · exact .inl (by omega)
    by_cases h2 : d.wl = 0
    · exact .inr (.inl ⟨hor, h2, by unfold tE; rw [if_neg h1, if_pos h2], by unfold tP; rw [if_neg h1, if_pos h2], by unfold tD; rw [if_neg h1, if_pos h2], by unfold tC; rw [if_neg h1, if_pos h2]⟩)
    · by_cases h3 : d.free = []
      · refine .inr (.inr (.inl ⟨?_, h2, h3, by unfold tE; rw [if_neg h1, if_neg h2], by unfold tP; rw [if_neg h1, if_neg h2, if_pos h3], by unfold tD; rw [if_neg h1, if_neg h2, if_pos h3], by unfold tC; rw [if_neg h1, if_neg h2, if_pos h3]⟩))
        rcases hor with h | h
        · exact h
        · rw [h3] at h; simp at h
      · refine .inr (.inr (.inr ⟨h2, d.free.dropLast, d.free.getLastD 0, ?_, by unfold tE; rw [if_neg h1, if_neg h2], by unfold tP; rw [if_neg h1, if_neg h2, if_neg h3], by unfold tD; rw [if_neg h1, if_neg h2, if_neg h3], by unfold tC; rw [if_neg h1, if_neg h2, if_neg h3]⟩))
        have := List.dropLast_concat_getLast h3
        rw [List.getLastD_eq_getLast?, List.getLast?_eq_some_getLast h3]
        exact this.symm
section
variable {S : Nat → Prop} {N k : Nat} {W w : World} {D cnt gp cp fc : Nat} {fo : Option Addr} {d : Dk}
theorem Ok.take (h : Ok d cnt k) (hk : k < 900000000) : Ok (tD d cnt) (tC d cnt) (k + 1) := by
  have hp := h.puts
  have hr := h.reads
  have h3 : d.puts + 1 < 1000000000 := by omega
  rcases take_split d cnt with ⟨_, _, _, _, e, c⟩ | ⟨_, _, _, _, e, c⟩ | ⟨hm, _, hf, _, _, e, c⟩ | ⟨_, l, p, hl, _, _, e, c⟩
  · rw [e, c]; exact ⟨h.fit, h.so, by omega, by omega⟩
  · rw [e, c]; exact ⟨fit_wl h.fit (-1) (by omega), h.so.of_same rfl rfl, by show d.puts ≤ _; omega, by show d.reads ≤ _; omega⟩
  · rw [e, c]; exact ⟨fit_takeN h.fit h3 hf hm, h.so.takeN h.fit hf, by show d.puts + 1 ≤ _; omega, by show d.reads ≤ _; omega⟩
  · rw [e, c]; exact ⟨fit_takeF h.fit h3 l p hl, h.so.takeF h.fit hl, by show d.puts + 1 ≤ _; omega, by show d.reads ≤ _; omega⟩
theorem dd_take_u (h : DD S W D d cnt) (o : Ok d cnt k) (hk : k < 900000000) :
    Calls Tryz.prog 107 #[.pointer (some ⟨D, 0, none⟩)] W fun e w' => e = .returned (.tuple #[.int .i64 (tP d cnt), .int .i64 (tE d cnt)]) ∧ DD S w' D (tD d cnt) (tC d cnt) ∧ Kept S W w' := by
  have hp := o.puts
  have h3 : d.puts + 1 < 1000000000 := by omega
  have hm3 := o.fit.most.2.2
  rcases take_split d cnt with ⟨hm, hf, a, b, e, c⟩ | ⟨hor, hz, a, b, e, c⟩ | ⟨hm, hz, hf, a, b, e, c⟩ | ⟨hz, l, p, hl, a, b, e, c⟩
  · rw [a, b, e, c]; exact dd_take_full h (by rw [hf, List.length_nil]; omega)
  · rw [a, b, e, c]; exact dd_take_fail h (by omega) hz
  · rw [a, b, e, c]; exact dd_take_new h h3 hf hm hz
  · rw [a, b, e, c]; exact dd_take_free h h3 l p hl hz
theorem has_nat {p : Int} (hh : ¬ hasD d cnt p = false) : ∃ q : Nat, p = q ∧ hasD d cnt (q : Int) = true := by
  have h1 : hasD d cnt p = true := by simpa using hh
  have h2 : 1 ≤ p := by unfold hasD at h1; rw [Bool.and_eq_true, decide_eq_true_eq] at h1; omega
  exact ⟨p.toNat, by omega, by rw [show ((p.toNat : Nat) : Int) = p by omega]; exact h1⟩
theorem Ok.free (h : Ok d cnt k) {q : Nat} (hh : hasD d cnt (q : Int) = true) : q < cnt ∧ q ∉ d.free ∧ d.free.length < cnt := by
  rw [h.so.has q, decide_eq_true_eq] at hh
  exact ⟨hh.2.1, hh.2.2, h.so.less h.fit hh.2.1 hh.2.2⟩
theorem dd_give_u (h : DD S W D d cnt) (o : Ok d cnt k) (hk : k < 900000000) (p : Int) :
    Calls Tryz.prog 117 #[.pointer (some ⟨D, 0, none⟩), .int .i64 p] W fun e w' => e = .returned (.int .i64 (rgiveE d cnt p)) ∧ DD S w' D (rgiveD d cnt p) cnt ∧ Kept S W w' := by
  have hp := o.puts
  unfold rgiveE rgiveD
  by_cases hh : hasD d cnt p = false
  · rw [if_pos hh, if_pos hh]; exact dd_give_no h p hh
  · rw [if_neg hh, if_neg hh]
    obtain ⟨q, rfl, hq⟩ := has_nat hh
    by_cases hz : d.wl = 0
    · rw [if_pos hz, show failE d.wl = 7 by unfold failE; rw [if_pos hz]]; exact dd_give_fail h q hq hz
    · rw [if_neg hz, show failE d.wl = 0 by unfold failE; rw [if_neg hz]]
      exact dd_give_yes h (by omega) q hq (o.free hq).2.2 hz
theorem Ok.give (h : Ok d cnt k) (hk : k < 900000000) (p : Int) : Ok (rgiveD d cnt p) cnt (k + 1) := by
  have hp := h.puts
  have hr := h.reads
  unfold rgiveD
  by_cases hh : hasD d cnt p = false
  · rw [if_pos hh]; exact ⟨h.fit, h.so, by omega, by omega⟩
  · rw [if_neg hh]
    obtain ⟨q, rfl, hq⟩ := has_nat hh
    by_cases hz : d.wl = 0
    · rw [if_pos hz]; exact ⟨fit_wl h.fit (-1) (by omega), h.so.of_same rfl rfl, by show d.puts ≤ _; omega, by show d.reads ≤ _; omega⟩
    · rw [if_neg hz]
      exact ⟨fit_give h.fit (by omega) q (has_lt hq).1 (has_lt hq).2.1 (h.free hq).2.2, h.so.give h.fit (h.free hq).1 (h.free hq).2.1, by show d.puts + 1 ≤ _; omega, by show d.reads ≤ _; omega⟩
theorem dd_read_u (h : DD S W D d cnt) (o : Ok d cnt k) (hk : k < 900000000) (p : Int) :
    Calls Tryz.prog 105 #[.pointer (some ⟨D, 0, none⟩), .int .i64 p] W fun e w' => e = .returned (.tuple #[.string (str (rreadS d cnt p)), .int .i64 (rreadE d cnt p)]) ∧ DD S w' D (rreadD d cnt p) cnt ∧ Kept S W w' := by
  have hr := o.reads
  unfold rreadS rreadE rreadD
  by_cases hh : hasD d cnt p = false
  · rw [if_pos hh, if_pos hh, if_pos hh]; exact dd_read_no h p hh
  · rw [if_neg hh, if_neg hh, if_neg hh]
    obtain ⟨q, rfl, hq⟩ := has_nat hh
    by_cases hz : d.rl = 0
    · rw [if_pos hz, if_pos hz, if_pos hz]; exact dd_read_fail h q hq hz
    · rw [if_neg hz, if_neg hz, if_neg hz]; exact dd_read_yes h (by omega) q hq hz
theorem Ok.read (h : Ok d cnt k) (hk : k < 900000000) (p : Int) : Ok (rreadD d cnt p) cnt (k + 1) := by
  have hp := h.puts
  have hr := h.reads
  unfold rreadD
  by_cases hh : hasD d cnt p = false
  · rw [if_pos hh]; exact ⟨h.fit, h.so, by omega, by omega⟩
  · rw [if_neg hh]
    by_cases hz : d.rl = 0
    · rw [if_pos hz]; exact ⟨fit_rl h.fit (-1) (by omega), h.so.of_same rfl rfl, by show d.puts ≤ _; omega, by show d.reads ≤ _; omega⟩
    · rw [if_neg hz]; exact ⟨fit_read h.fit (by omega), h.so.of_same rfl rfl, by show d.puts ≤ _; omega, by show d.reads + 1 ≤ _; omega⟩
theorem dd_write_u (h : DD S W D d cnt) (o : Ok d cnt k) (hk : k < 900000000) (p : Int) (s : List UInt8) :
    Calls Tryz.prog 86 #[.pointer (some ⟨D, 0, none⟩), .int .i64 p, .string (str s)] W fun e w' => e = .returned (.int .i64 (rwriteE d cnt p s)) ∧ DD S w' D (rwriteD d cnt p s) cnt ∧ Kept S W w' := by
  have hp := o.puts
  unfold rwriteE rwriteD
  by_cases hh : hasD d cnt p = false
  · rw [if_pos hh, if_pos hh]; exact dd_write_no h p hh s
  · rw [if_neg hh, if_neg hh]
    obtain ⟨q, rfl, hq⟩ := has_nat hh
    by_cases hs : s.length ≠ 504
    · rw [if_pos hs, if_pos hs]; exact dd_write_arg h q hq s hs
    · rw [if_neg hs, if_neg hs]
      by_cases hz : d.wl = 0
      · rw [if_pos hz, show failE d.wl = 7 by unfold failE; rw [if_pos hz]]; exact dd_write_fail h q hq hz s (by omega)
      · rw [if_neg hz, show failE d.wl = 0 by unfold failE; rw [if_neg hz]]
        exact dd_write_yes h (by omega) q hq hz s (by omega)
theorem Ok.write (h : Ok d cnt k) (hk : k < 900000000) (p : Int) (s : List UInt8) : Ok (rwriteD d cnt p s) cnt (k + 1) := by
  have hp := h.puts
  have hr := h.reads
  unfold rwriteD
  by_cases hh : hasD d cnt p = false
  · rw [if_pos hh]; exact ⟨h.fit, h.so, by omega, by omega⟩
  · rw [if_neg hh]
    obtain ⟨q, rfl, hq⟩ := has_nat hh
    by_cases hs : s.length ≠ 504
    · rw [if_pos hs]; exact ⟨h.fit, h.so, by omega, by omega⟩
    · rw [if_neg hs]
      by_cases hz : d.wl = 0
      · rw [if_pos hz]; exact ⟨fit_wl h.fit (-1) (by omega), h.so.of_same rfl rfl, by show d.puts ≤ _; omega, by show d.reads ≤ _; omega⟩
      · rw [if_neg hz]
        exact ⟨fit_write h.fit (by omega) q (has_lt hq).2.1 s (by omega), h.so.of_same rfl rfl, by show d.puts + 1 ≤ _; omega, by show d.reads ≤ _; omega⟩
theorem Ok.flush (h : Ok d cnt k) (hk : k < 900000000) : Ok (flushD d cnt) cnt (k + 1) := by
  have hp := h.puts
  have hr := h.reads
  have hf := fit_flush h.fit (by omega)
  unfold flushD at hf ⊢
  by_cases hz : d.wl = 0
  · rw [if_pos hz] at hf ⊢; exact ⟨hf, h.so.of_same rfl rfl, by show d.puts ≤ _; omega, by show d.reads ≤ _; omega⟩
  · rw [if_neg hz] at hf ⊢; exact ⟨hf, h.so.of_same rfl rfl, by show d.puts + 1 ≤ _; omega, by show d.reads ≤ _; omega⟩
theorem Ok.more (h : Ok d cnt k) : Ok d cnt (k + 1) := ⟨h.fit, h.so, by have := h.puts; omega, by have := h.reads; omega⟩
theorem Ok.new (n : Int) : Ok (newD n) 1 0 :=
  ⟨fit_flush (fit_bare n) (by show (0 : Int) + 1 < _; omega), newD_sound n, by rw [(newD_still n).puts]; omega, by rw [newD_reads]; omega⟩
end
end Go.Proofs.YtfljlcfmdcepnaaGreatDoor
