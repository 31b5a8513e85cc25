/-
  The document's list of pairs in memory: Get, Drop.
  The document's list of pairs in memory: Put.
-/
import Derived.Test.YtfljlcfmdcepnaaGreatDoorJTsS
import Derived.Test.YtfljlcfmdcepnaaGreatDoorJTsN
namespace Go.Proofs.YtfljlcfmdcepnaaGreatDoor
open Go.RowKit
open UK (str BytesAt nth Only Row Box w32)
open Go.BigFrame
section
variable {W W' : World} {ao : Option Addr} {c : Nat} {X : List KV}
theorem valL_nxt {l : List KV} (hr : Rise l) (k : UInt64) : valL l k = match nxtL l k with | some x => if (x.1 == k) = true then some x else none | none => none := by
  induction l with
  | nil => rfl
  | cons a r ih =>
    have hr' := List.pairwise_cons.1 hr
    have ih' := ih hr'.2
    unfold valL nxtL at ih' ⊢
    by_cases h1 : k.toNat ≤ a.1.toNat
    · rw [List.find?_cons_of_pos (p := fun x : KV => decide (k.toNat ≤ x.1.toNat)) (by simpa using h1)]
      dsimp only
      by_cases h2 : (a.1 == k) = true
      · rw [if_pos h2, List.find?_cons_of_pos (by simpa using h2)]
      · rw [if_neg h2, List.find?_cons_of_neg (by simpa using h2)]
        refine List.find?_eq_none.2 (fun x hx => ?_)
        have := hr'.1 x hx
        simp only [beq_iff_eq]
        intro e
        rw [e] at this
        omega
    · rw [List.find?_cons_of_neg (p := fun x : KV => decide (k.toNat ≤ x.1.toNat)) (by simpa using h1)]
      have hne : ¬ ((a.1 == k) = true) := fun e => by
        have := (beq_iff_eq.1 e)
        rw [this] at h1
        omega
      rw [List.find?_cons_of_neg (by simpa using hne)]
      exact ih'
def PGet : Option KV → Value
  | some x => .tuple #[.int .u64 (x.2.toNat : Int), .bool true]
  | none => .tuple #[.int .u64 0, .bool false]
set_option maxRecDepth 100000 in
theorem rget_any (k : UInt64) (h : PrX W ao c X) (hr : Rise X) (hX : X.length ≤ 1000000) :
    Calls Tryz.prog 50 #[.slice ao X.length c, .int .u64 k.toNat] W fun e w' => e = .returned (PGet (valL X k)) ∧ Below W.heap.size W w' := by
  have hN := rnext_any k h hX
  have hv := valL_nxt hr k
  cases hn : nxtL X k with
  | none =>
    rw [hn] at hv hN
    have HN := Lib.hid hN
    have HV := Lib.hid hv
    clear hv hn hN h hr hX
    go_enter Tryz.func50, Tryz.ntmps50
    go_wp2_with fail
    refine HN.out.mono ?_
    rintro e w1 ⟨rfl, hb⟩
    have HB := Lib.hid hb
    clear hb HN
    unfold PairAns
    go_wp2_with fail
    go_ret2
    rw [HV.out]
    exact ⟨rfl, HB.out.alloc HB.out.size _⟩
  | some x =>
    rw [hn] at hv hN
    dsimp only at hv
    have HN := Lib.hid hN
    by_cases he : x.1 = k
    · rw [if_pos (by simpa using he)] at hv
      have HV := Lib.hid hv
      have e1 : ((x.1.toNat : Int) != (k.toNat : Int)) = false := by rw [he]; simp
      have e2 : (x.1.toNat : Int) = (k.toNat : Int) := by rw [he]
      clear hv hn he hN h hr hX
      go_enter Tryz.func50, Tryz.ntmps50
      go_wp2_with fail
      refine HN.out.mono ?_
      rintro e w1 ⟨rfl, hb⟩
      have HB := Lib.hid hb
      clear hb HN
      unfold PairAns
      go_wp2_with fail
      go_ret2
      rw [HV.out]
      exact ⟨rfl, HB.out.alloc HB.out.size _⟩
    · rw [if_neg (by simpa using he)] at hv
      have HV := Lib.hid hv
      have hne : x.1.toNat ≠ k.toNat := fun e => he (UInt64.toNat_inj.1 e)
      have e1 : ((x.1.toNat : Int) != (k.toNat : Int)) = true := by simp; omega
      have e2 : ¬ (x.1.toNat : Int) = (k.toNat : Int) := by omega
      clear hv hn he hne hN h hr hX
      go_enter Tryz.func50, Tryz.ntmps50
      go_wp2_with fail
      refine HN.out.mono ?_
      rintro e w1 ⟨rfl, hb⟩
      have HB := Lib.hid hb
      clear hb HN
      unfold PairAns
      go_wp2_with fail
      go_ret2
      rw [HV.out]
      exact ⟨rfl, HB.out.alloc HB.out.size _⟩
theorem delL_take {X : List KV} {k : UInt64} {j : Nat} {t : KV} (h : X[j]? = some t) : delL (X.take (j + 1)) k = delL (X.take j) k ++ if t.1 = k then [] else [t] := by
  unfold delL
  rw [List.take_add_one, h, List.filter_append]
  congr 1
  by_cases e : t.1 = k
  · rw [if_pos e]; simp [e]
  · rw [if_neg e]; simp [e]
theorem delL_lt {X : List KV} {k : UInt64} : decide ((delL X k).length < X.length) = hasL X k := by
  rw [Bool.eq_iff_iff, decide_eq_true_iff, hasL_iff]
  unfold delL
  constructor
  · intro h
    refine Classical.byContradiction (fun hn => ?_)
    rw [List.filter_eq_self.2 (fun x hx => by simp; exact fun e => hn ⟨x, hx, e⟩)] at h
    omega
  · rintro ⟨x, hx, e⟩
    refine Nat.lt_of_le_of_ne (List.length_filter_le _ _) (fun hl => ?_)
    have := List.length_filter_eq_length_iff.1 hl x hx
    simp [e] at this
theorem pair_push {W wr : World} {ao' : Option Addr} {c' : Nat} {Y : List KV} (a b : UInt64) (q1 : PrX wr ao' c' Y) (q2 : ∀ b, slB ao' b → W.heap.size ≤ b) (q3 : Below W.heap.size W wr) (hY : Y.length + 1 ≤ 1000000) :
    ∃ g' c2 W', (Builtin.append_ #[28, 28] 28 #[.slice ao' Y.length c', .slice (some ⟨wr.heap.size, 0, none⟩) 1 1]).run Tryz.prog (wr.alloc (.cells #[.int .u64 (a.toNat : Int), .int .u64 (b.toNat : Int)] 102)) = .ok (.slice (some ⟨g', 0, none⟩) (Y.length + 1) c2) W' ∧ PrX W' (some ⟨g', 0, none⟩) c2 (Y ++ [(a, b)]) ∧ W.heap.size ≤ g' ∧ Below W.heap.size W W' ∧ wr.heap.size ≤ W'.heap.size ∧ (∀ q, q < wr.heap.size → ¬ slB ao' q → W'.heap[q]? = wr.heap[q]?) := by
  have a1 : Below wr.heap.size wr (wr.alloc (.cells #[.int .u64 (a.toNat : Int), .int .u64 (b.toNat : Int)] 102)) := (Below.refl _ _).alloc (Nat.le_refl _) _
  have hs1 : (wr.alloc (.cells #[.int .u64 (a.toNat : Int), .int .u64 (b.toNat : Int)] 102)).heap.size = wr.heap.size + 1 := by simp
  have x2 := Box.new wr #[.int .u64 (a.toNat : Int), .int .u64 (b.toNat : Int)] 102
  obtain ⟨g', c2, W', e1, r1, o1⟩ := (q1.next a1).push (t := (a, b)) hY (b := wr.heap.size) ⟨x2.cell 0 _ rfl, x2.cell 1 _ rfl⟩
  have hg' : W.heap.size ≤ g' := by
    rcases o1 with ⟨a, _⟩ | ⟨a, _⟩
    · exact q2 g' a
    · rw [a, hs1]; have := q3.size; omega
  have b2 := q3.trans (a1.mono q3.size)
  refine ⟨g', c2, W', e1, r1, hg', ?_⟩
  rcases o1 with ⟨h1, o⟩ | ⟨h1, o⟩
  · exact ⟨b2.trans (o.below b2.size hg'), by have := o.size; omega, fun q hq hn => (o.block q (by omega) (fun e => hn (by rw [e]; exact h1))).trans (a1.block q hq)⟩
  · exact ⟨b2.trans (o.mono b2.size), by have := o.size; omega, fun q hq hn => (o.block q (by omega)).trans (a1.block q hq)⟩
def Made8 (W w' : World) (ao' : Option Addr) (c' : Nat) (Y : List KV) : Prop := PrX w' ao' c' Y ∧ (∀ b, slB ao' b → W.heap.size ≤ b) ∧ Below W.heap.size W w'
set_option maxHeartbeats 2000000 in
set_option maxRecDepth 100000 in
theorem rdrop_any (k : UInt64) (h : PrX W ao c X) (hX : X.length ≤ 100000) :
    Calls Tryz.prog 33 #[.slice ao X.length c, .int .u64 k.toNat] W fun e w' => ∃ ao' c', e = .returned (.tuple #[.slice ao' (delL X k).length c', .bool (hasL X k)]) ∧ Made8 W w' ao' c' (delL X k) := by
  have HT0 := Lib.hid h
  have hle := h.le
  have hfl : ∀ j, (delL (X.take j) k).length ≤ X.length := fun j => Nat.le_trans (List.length_filter_le _ _) (by rw [List.length_take]; omega)
  have HFL := Lib.hid hfl
  have a0 : Below W.heap.size W (W.alloc (.cells #[] 102)) := (Below.refl _ _).alloc (Nat.le_refl _) _
  have HST : Hid (∃ (ao' : Option Addr) (c' : Nat), (some ⟨W.heap.size, 0, none⟩ : Option Addr) = ao' ∧ c' = 0 ∧ Made8 W (W.alloc (.cells #[] 102)) ao' c' []) :=
    ⟨_, 0, rfl, rfl, .inr ⟨W.heap.size, rfl, ⟨by simp, Nat.le_refl _, fun j hj => absurd hj (Nat.not_lt_zero _), fun j hj => absurd hj (Nat.not_lt_zero _)⟩⟩, (fun b hb => by cases hb; exact Nat.le_refl _), a0⟩
  clear h hfl a0
  go_enter Tryz.func33, Tryz.ntmps33
  go_wp2_with fail
  go_loopw [6, 12] (fun ov iv wr => ∃ (j : Nat) (ao' : Option Addr) (c' : Nat), iv = .int .i64 j ∧ j ≤ X.length ∧ ov = .slice ao' (delL (X.take j) k).length c' ∧ Made8 W wr ao' c' (delL (X.take j) k)) (fun _ iv _ => X.length - (intOf iv).toNat)
  case atStart =>
    obtain ⟨ao', c', rfl, rfl, q1⟩ := HST.out
    exact ⟨0, _, 0, rfl, Nat.zero_le _, rfl, q1⟩
  case round =>
    clear HST
    obtain ⟨j, ao', c', rfl, hj, rfl, q1, q2, q3⟩ := hrel
    by_cases hlt : j < X.length
    · obtain ⟨t, htj⟩ : ∃ t, X[j]? = some t := ⟨_, List.getElem?_eq_getElem hlt⟩
      obtain ⟨g, rfl, d0, d1⟩ := (HT0.out.next q3).at_ htj
      have hwt := delL_take (k := k) htj
      have hfl := HFL.out j
      have hil : (j : Int) < (X.length : Int) := by omega
      have a1 : Below wr.heap.size wr (wr.alloc (.cells #[.int .u64 (t.1.toNat : Int), .int .u64 (t.2.toNat : Int)] 102)) := (Below.refl _ _).alloc (Nat.le_refl _) _
      by_cases hne : t.1 = k
      · rw [if_pos hne, List.append_nil] at hwt
        obtain ⟨ta, tb⟩ := t
        dsimp only at hne
        obtain rfl : k = ta := hne.symm
        dsimp only at d0 d1 a1
        have hnb : ((k.toNat : Int) != (k.toNat : Int)) = false := by simp
        have HQ := Lib.hid (And.intro (q1.next a1) (And.intro q2 (And.intro (q3.trans (a1.mono q3.size)) hwt)))
        clear q1 q2 q3 hwt htj a1
        go_wp2
        go_roundw
        case rel =>
          obtain ⟨q1, q2, q3, hwt⟩ := HQ.out
          rw [← hwt] at q1
          exact ⟨j + 1, ao', c', by go_num, hlt, by rw [hwt], q1, q2, q3⟩
        case measure => simp [intOf]; omega
      · rw [if_neg hne] at hwt
        have hn2 : t.1.toNat ≠ k.toNat := fun e => hne (UInt64.toNat_inj.1 e)
        have hnb : ((t.1.toNat : Int) != (k.toNat : Int)) = true := by simp; omega
        have hni : ¬ (t.1.toNat : Int) = (k.toNat : Int) := by omega
        have hs1 : (wr.alloc (.cells #[.int .u64 (t.1.toNat : Int), .int .u64 (t.2.toNat : Int)] 102)).heap.size = wr.heap.size + 1 := by simp
        obtain ⟨g', c2, W', e1, r1, hg', hbl, _, _⟩ := pair_push (W := W) t.1 t.2 (q1.next a1) q2 (q3.trans (a1.mono q3.size)) (by omega)
        rw [hs1] at e1
        have hln : (delL (X.take j) k).length + 1 = (delL (X.take (j + 1)) k).length := by rw [hwt, List.length_append]; rfl
        rw [← hwt] at r1
        have HQ := Lib.hid (And.intro r1 (And.intro hg' (And.intro hbl hln)))
        generalize hm0 : (delL (X.take j) k).length = m0 at e1
        have HM0 := Lib.hid hm0
        clear hm0 q1 q2 q3 hwt htj hne hn2 a1 hs1 r1 hg' hbl hln hfl
        generalize t.1.toNat = t1 at *
        generalize t.2.toNat = t2 at *
        go_wp2_with (at_builtin; refine UK.wpList_append_run e1 rfl rfl rfl rfl rfl ?_)
        go_roundw
        case rel =>
          obtain ⟨r1, hg', hbl, hln⟩ := HQ.out
          exact ⟨j + 1, some ⟨g', 0, none⟩, c2, by go_num, hlt, by rw [← hln, HM0.out], r1, (fun b hb => by cases hb; exact hg'), hbl⟩
        case measure => simp [intOf]; omega
    · obtain rfl : j = X.length := by omega
      have hil : ¬ ((X.length : Nat) : Int) < (X.length : Int) := by omega
      rw [List.take_length] at q1
      have HQ := Lib.hid (And.intro q1 (And.intro q2 q3))
      have hln : (delL (X.take X.length) k) = delL X k := by rw [List.take_length]
      rw [hln]
      have HLN := Lib.hid hln
      clear q1 q2 q3 hln
      go_wp2
      go_ret2
      refine ⟨ao', c', ?_, HQ.out⟩
      rw [← delL_lt]
      rfl
end
end Go.Proofs.YtfljlcfmdcepnaaGreatDoor
namespace Go.Proofs.YtfljlcfmdcepnaaGreatDoor
open Go.RowKit
open UK (str BytesAt nth Only Row Box w32)
open Go.BigFrame
def doneP (k : UInt64) (Y : List KV) : Bool := Y.any fun x => decide (k.toNat ≤ x.1.toNat)
def outP (k v : UInt64) (Y : List KV) : List KV := if doneP k Y then insL Y k v else Y
theorem doneP_no {k : UInt64} {Y : List KV} (h : doneP k Y = false) : ∀ x ∈ Y, x.1.toNat < k.toNat := fun x hx => by
  unfold doneP at h
  rw [List.any_eq_false] at h
  have := h x hx
  simp at this
  exact this
theorem doneP_snoc {k : UInt64} {Y : List KV} {t : KV} : doneP k (Y ++ [t]) = (doneP k Y || decide (k.toNat ≤ t.1.toNat)) := by unfold doneP; simp
theorem outP_ge {k v : UInt64} {Y : List KV} {t : KV} (h : doneP k Y = false) (ht : k.toNat < t.1.toNat) : outP k v (Y ++ [t]) = (outP k v Y ++ [(k, v)]) ++ [t] ∧ doneP k (Y ++ [t]) = true := by
  have hd : doneP k (Y ++ [t]) = true := by rw [doneP_snoc, h]; simp; omega
  unfold outP
  rw [hd, if_pos rfl, h, if_neg (by simp)]
  have := insL_mid (a := Y) (b := []) (c := [t]) (k := k) (v := v) (doneP_no h) (fun x hx => by rw [List.mem_singleton.1 hx]; exact ht)
  rw [List.nil_append] at this
  rw [this]
  exact ⟨by simp [insL], rfl⟩
theorem outP_eq {k v : UInt64} {Y : List KV} {t : KV} (h : doneP k Y = false) (ht : t.1 = k) : outP k v (Y ++ [t]) = outP k v Y ++ [(k, v)] ∧ doneP k (Y ++ [t]) = true := by
  have hd : doneP k (Y ++ [t]) = true := by rw [doneP_snoc, h, ht]; simp
  unfold outP
  rw [hd, if_pos rfl, h, if_neg (by simp)]
  have := insL_mid (a := Y) (b := [t]) (c := []) (k := k) (v := v) (doneP_no h) (fun x hx => by simp at hx)
  rw [List.append_nil] at this
  rw [this]
  exact ⟨by simp [insL, ht], rfl⟩
theorem outP_lt {k v : UInt64} {Y : List KV} {t : KV} (h : doneP k Y = false) (ht : t.1.toNat < k.toNat) : outP k v (Y ++ [t]) = outP k v Y ++ [t] ∧ doneP k (Y ++ [t]) = false := by
  have hd : doneP k (Y ++ [t]) = false := by rw [doneP_snoc, h]; simp; omega
  unfold outP
  rw [hd, h, if_neg (by simp), if_neg (by simp)]
  exact ⟨rfl, rfl⟩
theorem outP_done {k v : UInt64} {Y : List KV} {t : KV} (h : doneP k Y = true) (ht : k.toNat < t.1.toNat) : outP k v (Y ++ [t]) = outP k v Y ++ [t] ∧ doneP k (Y ++ [t]) = true := by
  have hd : doneP k (Y ++ [t]) = true := by rw [doneP_snoc, h]; rfl
  unfold outP
  rw [hd, if_pos rfl, h, if_pos rfl]
  have := insL_mid (a := []) (b := Y) (c := [t]) (k := k) (v := v) (fun x hx => by simp at hx) (fun x hx => by rw [List.mem_singleton.1 hx]; exact ht)
  rw [List.nil_append, List.nil_append] at this
  exact ⟨this, rfl⟩
theorem outP_end {k v : UInt64} {X : List KV} (h : doneP k X = false) : outP k v X ++ [(k, v)] = insL X k v := by
  unfold outP
  rw [h, if_neg (by simp)]
  have := insL_mid (a := X) (b := []) (c := []) (k := k) (v := v) (doneP_no h) (fun x hx => by simp at hx)
  rw [List.append_nil, List.append_nil] at this
  rw [this]
  simp [insL]
theorem rise_done {X : List KV} (hr : Rise X) {j : Nat} {t : KV} (h : X[j]? = some t) {k : UInt64} (hd : doneP k (X.take j) = true) : k.toNat < t.1.toNat := by
  unfold doneP at hd
  rw [List.any_eq_true] at hd
  obtain ⟨x, hx, hk⟩ := hd
  simp only [decide_eq_true_eq] at hk
  obtain ⟨i, hi, e⟩ := List.getElem_of_mem hx
  rw [List.length_take] at hi
  rw [List.getElem_take] at e
  have hj := (List.getElem?_eq_some_iff.1 h)
  have := List.pairwise_iff_getElem.1 hr i j (by omega) hj.1 (by omega)
  rw [e, hj.2] at this
  omega
theorem outP_len {k v : UInt64} {Y : List KV} : (outP k v Y).length ≤ Y.length + 1 := by
  unfold outP
  split
  · unfold insL
    rw [List.length_append, List.length_cons]
    have h : ∀ l : List KV, (l.filter (fun x => decide (x.1.toNat < k.toNat))).length + (l.filter (fun x => decide (k.toNat < x.1.toNat))).length ≤ l.length := fun l => by
      induction l with
      | nil => simp
      | cons a r ih =>
        rw [List.filter_cons, List.filter_cons]
        by_cases h1 : a.1.toNat < k.toNat
        · have h2 : ¬ k.toNat < a.1.toNat := by omega
          simp only [h1, h2, decide_true, decide_false, if_true, List.length_cons, Bool.false_eq_true, if_false]
          omega
        · by_cases h2 : k.toNat < a.1.toNat
          · simp only [h1, h2, decide_true, decide_false, if_true, List.length_cons, Bool.false_eq_true, if_false]
            omega
          · simp only [h1, h2, decide_false, List.length_cons, Bool.false_eq_true, if_false]
            omega
    exact Nat.succ_le_succ (h Y)
  · omega
theorem take_succX {X : List KV} {j : Nat} {t : KV} (h : X[j]? = some t) : X.take (j + 1) = X.take j ++ [t] := by rw [List.take_add_one, h]; rfl
section
variable {W W' : World} {ao : Option Addr} {c : Nat} {X : List KV}
set_option maxHeartbeats 4000000 in
set_option maxRecDepth 100000 in
theorem rput_any (k v : UInt64) (h : PrX W ao c X) (hr : Rise X) (hX : X.length ≤ 100000) :
    Calls Tryz.prog 31 #[.slice ao X.length c, .int .u64 k.toNat, .int .u64 v.toNat] W fun e w' => ∃ ao' c', e = .returned (.slice ao' (insL X k v).length c') ∧ Made8 W w' ao' c' (insL X k v) := by
  have HT0 := Lib.hid (And.intro h hr)
  have hle := h.le
  have hfl : ∀ j, (outP k v (X.take j)).length ≤ X.length + 1 := fun j => Nat.le_trans outP_len (by rw [List.length_take]; omega)
  have HFL := Lib.hid hfl
  have a0 : Below W.heap.size W (W.alloc (.cells #[] 102)) := (Below.refl _ _).alloc (Nat.le_refl _) _
  have HST : Hid (∃ (ao' : Option Addr) (c' : Nat), (some ⟨W.heap.size, 0, none⟩ : Option Addr) = ao' ∧ c' = 0 ∧ Made8 W (W.alloc (.cells #[] 102)) ao' c' []) :=
    ⟨_, 0, rfl, rfl, .inr ⟨W.heap.size, rfl, ⟨by simp, Nat.le_refl _, fun j hj => absurd hj (Nat.not_lt_zero _), fun j hj => absurd hj (Nat.not_lt_zero _)⟩⟩, (fun b hb => by cases hb; exact Nat.le_refl _), a0⟩
  clear h hr hfl a0
  go_enter Tryz.func31, Tryz.ntmps31
  go_wp2_with fail
  go_loopw [7, 8, 14] (fun ov dv iv wr => ∃ (j : Nat) (ao' : Option Addr) (c' : Nat), iv = .int .i64 j ∧ j ≤ X.length ∧ ov = .slice ao' (outP k v (X.take j)).length c' ∧ dv = .bool (doneP k (X.take j)) ∧ Made8 W wr ao' c' (outP k v (X.take j))) (fun _ _ iv _ => X.length - (intOf iv).toNat)
  case atStart =>
    obtain ⟨ao', c', rfl, rfl, q1⟩ := HST.out
    exact ⟨0, _, 0, rfl, Nat.zero_le _, rfl, rfl, q1⟩
  case round =>
    clear HST
    obtain ⟨j, ao', c', rfl, hj, rfl, rfl, q1, q2, q3⟩ := hrel
    by_cases hlt : j < X.length
    · obtain ⟨t, htj⟩ : ∃ t, X[j]? = some t := ⟨_, List.getElem?_eq_getElem hlt⟩
      obtain ⟨g, rfl, d0, d1⟩ := (HT0.out.1.next q3).at_ htj
      have hwt := take_succX htj
      have hfl := HFL.out j
      have hil : (j : Int) < (X.length : Int) := by omega
      have a1 : Below wr.heap.size wr (wr.alloc (.cells #[.int .u64 (t.1.toNat : Int), .int .u64 (t.2.toNat : Int)] 102)) := (Below.refl _ _).alloc (Nat.le_refl _) _
      have hs1 : (wr.alloc (.cells #[.int .u64 (t.1.toNat : Int), .int .u64 (t.2.toNat : Int)] 102)).heap.size = wr.heap.size + 1 := by simp
      have xp := Box.new wr #[.int .u64 (t.1.toNat : Int), .int .u64 (t.2.toNat : Int)] 102
      have q3' := q3.trans (a1.mono q3.size)
      have q1' := q1.next a1
      have hns : ¬ slB ao' wr.heap.size := fun hs => by have := q1.lt hs; omega
      cases hd : doneP k (X.take j) with
      | true =>
        have ht := rise_done HT0.out.2 htj hd
        obtain ⟨o1, o2⟩ := outP_done (v := v) hd ht
        rw [← hwt] at o1 o2
        obtain ⟨g', c2, W', e1, r1, hg', hbl, _, _⟩ := pair_push (W := W) t.1 t.2 q1' q2 q3' (by omega)
        rw [hs1] at e1
        have hln : (outP k v (X.take j)).length + 1 = (outP k v (X.take (j + 1))).length := by rw [o1, List.length_append]; rfl
        rw [← o1] at r1
        have hnb : ((t.1.toNat : Int) != (k.toNat : Int)) = true := by simp; omega
        have hni : ¬ (t.1.toNat : Int) = (k.toNat : Int) := by omega
        have HQ := Lib.hid (And.intro r1 (And.intro hg' (And.intro hbl (And.intro hln o2))))
        generalize hm0 : (outP k v (X.take j)).length = m0 at e1
        have HM0 := Lib.hid hm0
        clear hm0 q1 q2 q3 q1' q3' hwt htj a1 hs1 xp hns r1 hg' hbl hln hfl hd ht o1 o2
        generalize t.1.toNat = t1 at *
        generalize t.2.toNat = t2 at *
        go_wp2_with (at_builtin; refine UK.wpList_append_run e1 rfl rfl rfl rfl rfl ?_)
        go_roundw
        case rel =>
          obtain ⟨r1, hg', hbl, hln, o2⟩ := HQ.out
          exact ⟨j + 1, some ⟨g', 0, none⟩, c2, by go_num, hlt, by rw [← hln, HM0.out], by rw [o2], r1, (fun b hb => by cases hb; exact hg'), hbl⟩
        case measure => simp [intOf]; omega
      | false =>
        rcases Nat.lt_trichotomy t.1.toNat k.toNat with ht | ht | ht
        · obtain ⟨o1, o2⟩ := outP_lt (v := v) hd ht
          rw [← hwt] at o1 o2
          obtain ⟨g', c2, W', e1, r1, hg', hbl, _, _⟩ := pair_push (W := W) t.1 t.2 q1' q2 q3' (by omega)
          rw [hs1] at e1
          have hln : (outP k v (X.take j)).length + 1 = (outP k v (X.take (j + 1))).length := by rw [o1, List.length_append]; rfl
          rw [← o1] at r1
          have hnb : ((t.1.toNat : Int) != (k.toNat : Int)) = true := by simp; omega
          have hni : ¬ (t.1.toNat : Int) = (k.toNat : Int) := by omega
          have hge : ¬ (k.toNat : Int) ≤ (t.1.toNat : Int) := by omega
          have HQ := Lib.hid (And.intro r1 (And.intro hg' (And.intro hbl (And.intro hln o2))))
          generalize hm0 : (outP k v (X.take j)).length = m0 at e1
          have HM0 := Lib.hid hm0
          clear hm0 q1 q2 q3 q1' q3' hwt htj a1 hs1 xp hns r1 hg' hbl hln hfl hd ht o1 o2
          generalize t.1.toNat = t1 at *
          generalize t.2.toNat = t2 at *
          go_wp2_with (at_builtin; refine UK.wpList_append_run e1 rfl rfl rfl rfl rfl ?_)
          go_roundw
          case rel =>
            obtain ⟨r1, hg', hbl, hln, o2⟩ := HQ.out
            exact ⟨j + 1, some ⟨g', 0, none⟩, c2, by go_num, hlt, by rw [← hln, HM0.out], by rw [o2], r1, (fun b hb => by cases hb; exact hg'), hbl⟩
          case measure => simp [intOf]; omega
        · have hte : t.1 = k := UInt64.toNat_inj.1 ht
          obtain ⟨o1, o2⟩ := outP_eq (v := v) hd hte
          rw [← hwt] at o1 o2
          obtain ⟨g', c2, W', e1, r1, hg', hbl, hsz, hkeep⟩ := pair_push (W := W) k v q1' q2 q3' (by omega)
          rw [hs1] at e1
          have xp1 := xp.of_block (hkeep wr.heap.size (by omega) hns)
          have y0 := xp1.cell 0 _ rfl
          have hln : (outP k v (X.take j)).length + 1 = (outP k v (X.take (j + 1))).length := by rw [o1, List.length_append]; rfl
          rw [← o1] at r1
          obtain ⟨ta, tb⟩ := t
          dsimp only at hte
          obtain rfl : k = ta := hte.symm
          dsimp only at d0 d1 e1 y0
          replace y0 : W'.cell? ⟨wr.heap.size, 0, none⟩ = some (.int .u64 (k.toNat : Int)) := y0
          have hnb : ((k.toNat : Int) != (k.toNat : Int)) = false := by simp
          have hge : (k.toNat : Int) ≤ (k.toNat : Int) := Int.le_refl _
          have HQ := Lib.hid (And.intro r1 (And.intro hg' (And.intro hbl (And.intro hln o2))))
          generalize hm0 : (outP k v (X.take j)).length = m0 at e1
          have HM0 := Lib.hid hm0
          clear hm0 q1 q2 q3 q1' q3' hwt htj a1 hs1 xp hns r1 hg' hbl hln hfl hd ht o1 o2 hsz hkeep xp1
          go_wp2_with (at_builtin; refine UK.wpList_append_run e1 rfl rfl rfl rfl rfl ?_)
          go_roundw
          case rel =>
            obtain ⟨r1, hg', hbl, hln, o2⟩ := HQ.out
            exact ⟨j + 1, some ⟨g', 0, none⟩, c2, by go_num, hlt, by rw [← hln, HM0.out], by rw [o2], r1, (fun b hb => by cases hb; exact hg'), hbl⟩
          case measure => simp [intOf]; omega
        · obtain ⟨o1, o2⟩ := outP_ge (v := v) hd ht
          rw [← hwt] at o1 o2
          obtain ⟨g1, c1, W1, e1, r1, hg1, hbl1, hsz, hkeep⟩ := pair_push (W := W) k v q1' q2 q3' (by omega)
          rw [hs1] at e1
          have xp1 := xp.of_block (hkeep wr.heap.size (by omega) hns)
          have y0 := xp1.cell 0 _ rfl
          have y1 := xp1.cell 1 _ rfl
          obtain ⟨g', c2, W', e2, r2, hg', hbl, _, _⟩ := pair_push (W := W) t.1 t.2 r1 (fun b hb => by cases hb; exact hg1) hbl1 (by rw [List.length_append, List.length_singleton]; omega)
          rw [List.length_append, List.length_singleton] at e2
          have hln : (outP k v (X.take j)).length + 1 + 1 = (outP k v (X.take (j + 1))).length := by rw [o1, List.length_append, List.length_append]; rfl
          rw [← o1] at r2
          have hnb : ((t.1.toNat : Int) != (k.toNat : Int)) = true := by simp; omega
          have hni : ¬ (t.1.toNat : Int) = (k.toNat : Int) := by omega
          have hge : (k.toNat : Int) ≤ (t.1.toNat : Int) := by omega
          replace y0 : W1.cell? ⟨wr.heap.size, 0, none⟩ = some (.int .u64 (t.1.toNat : Int)) := y0
          replace y1 : W1.cell? ⟨wr.heap.size, 1, none⟩ = some (.int .u64 (t.2.toNat : Int)) := y1
          have HQ := Lib.hid (And.intro r2 (And.intro hg' (And.intro hbl (And.intro hln o2))))
          generalize hm0 : (outP k v (X.take j)).length = m0 at e1 e2
          have HM0 := Lib.hid hm0
          clear hm0 q1 q2 q3 q1' q3' hwt htj a1 hs1 xp hns r1 hg1 hbl1 r2 hg' hbl hln hfl hd ht o1 o2 hsz hkeep xp1
          generalize t.1.toNat = t1 at *
          generalize t.2.toNat = t2 at *
          go_wp2_with (at_builtin; first | refine UK.wpList_append_run e1 rfl rfl rfl rfl rfl ?_ | refine UK.wpList_append_run e2 rfl rfl rfl rfl rfl ?_)
          go_roundw
          case rel =>
            obtain ⟨r1, hg', hbl, hln, o2⟩ := HQ.out
            exact ⟨j + 1, some ⟨g', 0, none⟩, c2, by go_num, hlt, by rw [← hln, HM0.out], by rw [o2], r1, (fun b hb => by cases hb; exact hg'), hbl⟩
          case measure => simp [intOf]; omega
    · obtain rfl : j = X.length := by omega
      have hil : ¬ ((X.length : Nat) : Int) < (X.length : Int) := by omega
      rw [List.take_length] at q1
      rw [List.take_length]
      cases hd : doneP k X with
      | true =>
        have ho : outP k v X = insL X k v := by unfold outP; rw [hd, if_pos rfl]
        rw [ho] at q1 ⊢
        have HQ := Lib.hid (And.intro q1 (And.intro q2 q3))
        clear q1 q2 q3 ho hd
        go_wp2
        go_ret
        exact ⟨ao', c', rfl, HQ.out⟩
      | false =>
        have ho := outP_end (v := v) hd
        have hfl := HFL.out X.length
        rw [List.take_length] at hfl
        obtain ⟨g', c2, W', e1, r1, hg', hbl, _, _⟩ := pair_push (W := W) k v q1 q2 q3 (by omega)
        rw [ho] at r1
        have hln : (outP k v X).length + 1 = (insL X k v).length := by rw [← ho, List.length_append]; rfl
        have HQ := Lib.hid (And.intro r1 (And.intro hg' (And.intro hbl hln)))
        generalize hm0 : (outP k v X).length = m0 at e1
        have HM0 := Lib.hid hm0
        clear hm0 q1 q2 q3 ho hd r1 hg' hbl hln hfl
        go_wp2_with (at_builtin; refine UK.wpList_append_run e1 rfl rfl rfl rfl rfl ?_)
        go_ret
        obtain ⟨r1, hg', hbl, hln⟩ := HQ.out
        exact ⟨some ⟨g', 0, none⟩, c2, by rw [← hln, HM0.out]; rfl, r1, (fun b hb => by cases hb; exact hg'), hbl⟩
end
end Go.Proofs.YtfljlcfmdcepnaaGreatDoor
