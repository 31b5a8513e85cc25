/-
  Layer areas: truths (AND) of areas.
-/
import Derived.Test.YteelmbpmmobpjaaGreatDoorManD
namespace Go.Proofs.YteelmbpmmobpjaaGreatDoor
open Go.RowKit
open UK (str BytesAt nth Only Row Box)
def boolV : V → Bool
  | .num n => n != 0
  | .bool b => b
  | _ => false
def skipV (v : V) : Bool := isBlank v || isText v
theorem asbool_any {w : World} (v : V) (hv : skipV v = false) : Calls Tryz.prog 26 #[v.val] w fun e w' => e = .returned (.tuple #[.bool (boolV v), .int .i64 (failN v)]) ∧ w = w' := by
  cases v with
  | text l => cases hv
  | blank => cases hv
  | _ =>
    unfold V.val
    go_enter Tryz.func26, Tryz.ntmps26
    go_wp2
    go_ret2
    exact ⟨rfl, rfl⟩
set_option maxRecDepth 100000 in
theorem tru_skip {W : World} {B0 B1 : Nat} (v : V) (h : skipV v = true) :
    Calls Tryz.prog 51 #[v.val, .bool true, .pointer (some ⟨B0, 0, none⟩), .pointer (some ⟨B1, 0, none⟩)] W fun e w' => e = .returned (.int .i64 (failN v)) ∧ Below W.heap.size W w' := by
  have hb : isBlank v = true ∨ (isBlank v = false ∧ isText v = true) := by cases v <;> simp_all [skipV, isBlank, isText]
  have hf : failN v = 0 := by cases v <;> first | rfl | cases h
  rw [hf]
  rcases hb with hb | ⟨hb, ht⟩
  · have HB := Lib.hid (fun w => isblank_at (w := w) hb)
    clear h hf hb
    generalize v.val = vv at *
    go_enter Tryz.func51, Tryz.ntmps51
    go_wp2_with fail
    refine (HB.out _).mono ?_
    rintro e w1 ⟨rfl, b1⟩
    go_wp2
    go_ret
    exact ⟨rfl, b1⟩
  · have HB := Lib.hid (fun w => isblank_at (w := w) hb)
    have hT := fun w => istext_any (w := w) v
    rw [ht] at hT
    have HT := Lib.hid hT
    clear h hf hb hT ht
    generalize v.val = vv at *
    go_enter Tryz.func51, Tryz.ntmps51
    go_wp2_with fail
    refine (HB.out _).mono ?_
    rintro e w1 ⟨rfl, b1⟩
    go_wp2_with fail
    refine (HT.out _).mono ?_
    rintro e w2 ⟨rfl, rfl⟩
    go_wp2
    go_ret
    exact ⟨rfl, b1⟩
theorem Two.setB {B g : Nat} {a w : World} (h : Two B g a w) (v : Value) : Two B g a (w.setCell ⟨B, 0, none⟩ v) :=
  ⟨h.os, h.tape, h.output, by simpa using h.size, fun k hk h1 h2 => (Below.heap_setCell w ⟨B, 0, none⟩ v k h1).trans (h.block k hk h1 h2)⟩
theorem Two.setG {B g : Nat} {a w : World} (h : Two B g a w) (v : Value) : Two B g a (w.setCell ⟨g, 0, none⟩ v) :=
  ⟨h.os, h.tape, h.output, by simpa using h.size, fun k hk h1 h2 => (Below.heap_setCell w ⟨g, 0, none⟩ v k h2).trans (h.block k hk h1 h2)⟩
def TruP (B0 B1 : Nat) (k m : Int) (b : Bool) (w' : World) : Prop :=
  ∃ k' m' : Int, Box w' B0 #[.int .i64 k'] ∧ Box w' B1 #[.int .i64 m'] ∧ (0 ≤ k → k ≤ 1000000 → 0 ≤ m → m ≤ 1000000 → k' = k + 1 ∧ m' = m + if b then 1 else 0)
theorem wrap_one {k : Int} (h0 : 0 ≤ k) (h1 : k ≤ 1000000) : wrap64 (k + 1) = k + 1 := by unfold wrap64; omega
set_option maxHeartbeats 1000000 in
set_option maxRecDepth 100000 in
theorem tru_count {W : World} {B0 B1 : Nat} (v : V) (h : skipV v = false) (k m : Int) (hB0 : Box W B0 #[.int .i64 k]) (hB1 : Box W B1 #[.int .i64 m]) (hne : B0 ≠ B1) :
    Calls Tryz.prog 51 #[v.val, .bool true, .pointer (some ⟨B0, 0, none⟩), .pointer (some ⟨B1, 0, none⟩)] W fun e w' => e = .returned (.int .i64 (failN v)) ∧
      TruP B0 B1 k m (boolV v) w' ∧ Two B0 B1 W w' := by
  have hbt : isBlank v = false ∧ isText v = false := by cases v <;> simp_all [skipV, isBlank, isText]
  have HB := Lib.hid (fun w => isblank_at (w := w) hbt.1)
  have hT := fun w => istext_any (w := w) v
  rw [hbt.2] at hT
  have HT := Lib.hid hT
  have HA := Lib.hid (fun w => asbool_any (w := w) v h)
  have HB0 := Lib.hid (And.intro hB0 hB1)
  clear hbt hT h hB0 hB1
  generalize v.val = vv at *
  generalize failN v = ff at *
  cases hbv : boolV v with
  | true =>
    rw [hbv] at HA
    clear hbv
    go_enter Tryz.func51, Tryz.ntmps51
    go_wp2_with fail
    refine (HB.out _).mono ?_
    rintro e w1 ⟨rfl, b1⟩
    have c0 := (HB0.out.1.next b1).cell 0 _ rfl
    have f0 := (HB0.out.1.next b1).free 0
    have c1 := (HB0.out.2.next b1).cell 0 _ rfl
    have f1 := (HB0.out.2.next b1).free 0
    have HB1 := Lib.hid b1
    clear b1
    go_wp2_with fail
    refine (HT.out _).mono ?_
    rintro e w2 ⟨rfl, rfl⟩
    go_wp2_with fail
    refine (HA.out _).mono ?_
    rintro e w2 ⟨rfl, rfl⟩
    go_wp2_with fail
    go_ret
    have q0 : Box (w1.setCell ⟨B0, 0, none⟩ (.int .i64 (wrap64 (k + 1)))) B0 #[.int .i64 (wrap64 (k + 1))] := (HB0.out.1.next HB1.out).set 0 _
    have q1 : Box (w1.setCell ⟨B0, 0, none⟩ (.int .i64 (wrap64 (k + 1)))) B1 #[.int .i64 m] := (HB0.out.2.next HB1.out).far _ (Ne.symm hne)
    have q2 := q0.far (b := B1) (j := 0) (.int .i64 (wrap64 (m + 1))) hne
    have q3 : Box ((w1.setCell ⟨B0, 0, none⟩ (.int .i64 (wrap64 (k + 1)))).setCell ⟨B1, 0, none⟩ (.int .i64 (wrap64 (m + 1)))) B1 #[.int .i64 (wrap64 (m + 1))] := q1.set 0 _
    have q4 := (Two.setB (g := B1) (Two.of_below HB1.out : Two B0 B1 W w1) (.int .i64 (wrap64 (k + 1)))).setG (.int .i64 (wrap64 (m + 1)))
    exact ⟨rfl, ⟨wrap64 (k + 1), wrap64 (m + 1), q2, q3, fun h1 h2 h3 h4 => ⟨wrap_one h1 h2, wrap_one h3 h4⟩⟩, q4⟩
  | false =>
    rw [hbv] at HA
    clear hbv
    go_enter Tryz.func51, Tryz.ntmps51
    go_wp2_with fail
    refine (HB.out _).mono ?_
    rintro e w1 ⟨rfl, b1⟩
    have c0 := (HB0.out.1.next b1).cell 0 _ rfl
    have f0 := (HB0.out.1.next b1).free 0
    have c1 := (HB0.out.2.next b1).cell 0 _ rfl
    have f1 := (HB0.out.2.next b1).free 0
    have HB1 := Lib.hid b1
    clear b1
    go_wp2_with fail
    refine (HT.out _).mono ?_
    rintro e w2 ⟨rfl, rfl⟩
    go_wp2_with fail
    refine (HA.out _).mono ?_
    rintro e w2 ⟨rfl, rfl⟩
    go_wp2_with fail
    go_ret
    have q0 : Box (w1.setCell ⟨B0, 0, none⟩ (.int .i64 (wrap64 (k + 1)))) B0 #[.int .i64 (wrap64 (k + 1))] := (HB0.out.1.next HB1.out).set 0 _
    have q1 : Box (w1.setCell ⟨B0, 0, none⟩ (.int .i64 (wrap64 (k + 1)))) B1 #[.int .i64 m] := (HB0.out.2.next HB1.out).far _ (Ne.symm hne)
    have q4 := (Two.setB (g := B1) (Two.of_below HB1.out : Two B0 B1 W w1) (.int .i64 (wrap64 (k + 1))))
    exact ⟨rfl, ⟨wrap64 (k + 1), m, q0, q1, fun h1 h2 h3 h4 => ⟨wrap_one h1 h2, by simp⟩⟩, q4⟩
def truF : V × Bool → Int := fun x => failN x.1
structure TruI (B0 B1 : Nat) (F0 : Prop) (g : Nat) (pre : List (V × Bool)) (W : World) : Prop where
  ex : ∃ k m : Int, Box W B0 #[.int .i64 k] ∧ Box W B1 #[.int .i64 m] ∧ (F0 → k = (cntF (fun v => !skipV v) pre : Int) ∧ m = (cntF (fun v => !skipV v && boolV v) pre : Int))
  g : g = B1
theorem firstF_mem (F : V × Bool → Int) (l : List (V × Bool)) (x : V × Bool) (h : x ∈ l) (hx : F x ≠ 0) : firstF F l ≠ 0 := by
  induction l with
  | nil => cases h
  | cons y r ih =>
    unfold firstF
    split
    · rename_i hy
      rcases List.mem_cons.1 h with rfl | h
      · exact absurd hy hx
      · exact ih h
    · assumption
theorem tru_step {B0 B1 : Nat} (l : List (V × Bool)) (hl : l.length ≤ 1000000) (ha : ∀ x ∈ l, x.2 = true) (hne : B0 ≠ B1) :
    StepAt 51 #[.pointer (some ⟨B0, 0, none⟩), .pointer (some ⟨B1, 0, none⟩)] B0 truF (TruI B0 B1 (firstF truF l = 0)) l := by
  rintro g pre ⟨v, area⟩ W1 ⟨r, hr⟩ hi
  obtain rfl : area = true := ha (v, area) (by rw [hr]; simp)
  obtain ⟨⟨k, m, h0, h1, hkm⟩, rfl⟩ := hi
  cases hs : skipV v with
  | true =>
    refine (tru_skip v hs).mono ?_
    rintro e w' ⟨rfl, b⟩
    have hf : failN v = 0 := by cases v <;> first | rfl | cases hs
    refine ⟨rfl, g, .inl rfl, Two.of_below b, fun _ => ⟨⟨k, m, h0.next b, h1.next b, fun h => ?_⟩, rfl⟩, fun h => absurd hf h⟩
    rw [cntF_snoc, cntF_snoc]
    simp only [hs]
    obtain ⟨e1, e2⟩ := hkm h
    simp [e1, e2]
  | false =>
    refine (tru_count v hs k m h0 h1 hne).mono ?_
    rintro e w' ⟨rfl, ⟨k', m', h0', h1', hk⟩, ht⟩
    refine ⟨rfl, g, .inl rfl, ht, fun _ => ⟨⟨k', m', h0', h1', fun h => ?_⟩, rfl⟩, fun hx => ⟨⟨k', m', h0', h1', fun h => absurd h (firstF_mem truF l (v, true) (by rw [hr]; simp) hx)⟩, rfl⟩⟩
    obtain ⟨rfl, rfl⟩ := hkm h
    have hlen : pre.length + 1 ≤ 1000000 := by
      have : l.length = pre.length + (r.length + 1) := by rw [hr]; simp
      omega
    have q1 := cntF_le (fun v => !skipV v) pre
    have q2 := cntF_le (fun v => !skipV v && boolV v) pre
    obtain ⟨rfl, rfl⟩ := hk (by omega) (by omega) (by omega) (by omega)
    rw [cntF_snoc, cntF_snoc]
    simp only [hs]
    cases boolV v <;> simp
/-- what AND comes to -/
def truV (l : List (V × Bool)) : V :=
  if firstF truF l = 0 then (if cntF (fun v => !skipV v) l = 0 then .fail 3 else .bool (cntF (fun v => !skipV v && boolV v) l == cntF (fun v => !skipV v) l)) else .fail (firstF truF l)
set_option maxHeartbeats 1000000 in
set_option maxRecDepth 100000 in
theorem truths_and {n : Nat} {W : World} {s : Value} {ars : List Ar} (hs : ASl n W s ars) (hl : ars.length ≤ 100) (hvl : ∀ a ∈ ars, a.vs.length ≤ 1000) (ha : ∀ a ∈ ars, a.area = true) (hn : n ≤ W.heap.size) :
    Calls Tryz.prog 23 #[.string (str [65, 78, 68]), s] W fun e W' => e = .returned (truV (flat ars)).val ∧ Below W.heap.size W W' := by
  have hfl : (flat ars).length ≤ 1000000 := by have := flat_len ars hvl; omega
  have hb0 : Below W.heap.size W ((W.alloc (.cells #[.int .i64 0] 3)).alloc (.cells #[.int .i64 0] 3)) := ((Below.refl _ _).alloc (Nat.le_refl _) _).alloc (by simp) _
  have hx0 := Box.new W #[.int .i64 0] 3
  have hx1 := Box.new (W.alloc (.cells #[.int .i64 0] 3)) #[.int .i64 0] 3
  simp only [World.size_alloc] at hx1
  have hA := all_any (n := n) (B := W.heap.size) (g0 := W.heap.size + 1) (N := 51) (caps := #[.pointer (some ⟨W.heap.size, 0, none⟩), .pointer (some ⟨W.heap.size + 1, 0, none⟩)]) (W := (W.alloc (.cells #[.int .i64 0] 3)).alloc (.cells #[.int .i64 0] 3)) truF (TruI W.heap.size (W.heap.size + 1) (firstF truF (flat ars) = 0))
    (enters_of Tryz.func51 (by kernel_rfl) rfl) (hs.below (hb0.mono hn)) (by omega) (fun a ha => by have := hvl a ha; omega) (by omega) (by omega)
    (fun g pre W1 W2 h hb => ⟨by obtain ⟨k, m, h0, h1, hk⟩ := h.ex; exact ⟨k, m, h0.next hb, h1.next hb, hk⟩, h.g⟩) (fun g pre W1 h => by obtain ⟨k, m, h0, h1, hk⟩ := h.ex; rw [h.g]; exact ⟨h1.lt, h0.lt, by omega⟩) (tru_step (flat ars) hfl (fun x hx => by
      simp only [flat, flat1, List.mem_flatMap, List.mem_map] at hx
      obtain ⟨a, h1, v, h2, rfl⟩ := hx
      exact ha a h1) (by omega))
    ⟨⟨0, 0, hx0.of_block (Below.heap_alloc _ _ _ (by simp)), hx1, fun _ => ⟨rfl, rfl⟩⟩, rfl⟩
  have HA := Lib.hid hA
  have HB := Lib.hid hb0
  have hc := cntF_le (fun v => !skipV v) (flat ars)
  have hc2 := cntF_le (fun v => !skipV v && boolV v) (flat ars)
  have hcv : truV (flat ars) = if firstF truF (flat ars) = 0 then (if cntF (fun v => !skipV v) (flat ars) = 0 then .fail 3 else .bool (cntF (fun v => !skipV v && boolV v) (flat ars) == cntF (fun v => !skipV v) (flat ars))) else .fail (firstF truF (flat ars)) := rfl
  clear hA hb0 hs hvl hl ha hx0 hx1
  by_cases hf : firstF truF (flat ars) = 0
  · rw [if_pos hf] at hcv
    obtain ⟨k, hk⟩ : ∃ k, cntF (fun v => !skipV v) (flat ars) = k := ⟨_, rfl⟩
    obtain ⟨m, hm⟩ : ∃ m, cntF (fun v => !skipV v && boolV v) (flat ars) = m := ⟨_, rfl⟩
    have HF := Lib.hid (And.intro hf (And.intro hk hm))
    rw [hk] at hc
    rw [hm] at hc2
    rw [hk, hm] at hcv
    rw [hf] at HA
    rw [hcv]
    clear hf hk hm hcv
    by_cases hk0 : k = 0
    · subst hk0
      rw [if_pos rfl]
      go_enter Tryz.func23, Tryz.ntmps23
      go_wp2_with fail
      refine HA.out.mono ?_
      rintro e w1 ⟨rfl, ht, g, pre, hg, hi, hp⟩
      have hb1 : Below W.heap.size ((W.alloc (.cells #[.int .i64 0] 3)).alloc (.cells #[.int .i64 0] 3)) w1 := ht.below (by simp; omega) (by omega) (by omega)
      obtain ⟨k', m', h0, h1, hkm⟩ := hi.ex
      obtain rfl := hp trivial
      obtain ⟨e1, e2⟩ := hkm (by first | trivial | rfl)
      rw [HF.out.2.1] at e1
      rw [HF.out.2.2] at e2
      subst e1 e2
      have c0 := h0.cell 0 _ rfl
      have c1 := h1.cell 0 _ rfl
      have HR := Lib.hid (HB.out.trans hb1)
      clear ht hg hi hp h0 h1 hkm hb1 HA HB HF
      go_wp2_with fail
      go_ret
      exact ⟨rfl, HR.out⟩
    · have hk1 : ((k : Int) == 0) = false := by simp; omega
      have e : (m == k) = ((m : Int) == (k : Int)) := by
        rw [Bool.eq_iff_iff, beq_iff_eq, beq_iff_eq]; omega
      rw [if_neg hk0, e]
      clear e hk0
      go_enter Tryz.func23, Tryz.ntmps23
      go_wp2_with fail
      refine HA.out.mono ?_
      rintro e w1 ⟨rfl, ht, g, pre, hg, hi, hp⟩
      have hb1 : Below W.heap.size ((W.alloc (.cells #[.int .i64 0] 3)).alloc (.cells #[.int .i64 0] 3)) w1 := ht.below (by simp; omega) (by omega) (by omega)
      obtain ⟨k', m', h0, h1, hkm⟩ := hi.ex
      obtain rfl := hp trivial
      obtain ⟨e1, e2⟩ := hkm (by first | trivial | rfl)
      rw [HF.out.2.1] at e1
      rw [HF.out.2.2] at e2
      subst e1 e2
      have c0 := h0.cell 0 _ rfl
      have c1 := h1.cell 0 _ rfl
      have HR := Lib.hid (HB.out.trans hb1)
      clear ht hg hi hp h0 h1 hkm hb1 HA HB HF
      go_wp2_with fail
      go_ret
      exact ⟨rfl, HR.out⟩
  · rw [if_neg hf] at hcv
    rw [hcv]
    generalize firstF truF (flat ars) = fl at *
    have hf2 : (fl != 0) = true := by simpa using hf
    clear hcv hf
    go_enter Tryz.func23, Tryz.ntmps23
    go_wp2_with fail
    refine HA.out.mono ?_
    rintro e w1 ⟨rfl, ht, g, pre, hg, hi, hp⟩
    have hb1 : Below W.heap.size ((W.alloc (.cells #[.int .i64 0] 3)).alloc (.cells #[.int .i64 0] 3)) w1 := ht.below (by simp; omega) (by omega) (by omega)
    have HR := Lib.hid (HB.out.trans hb1)
    clear ht hg hi hp hb1 HA HB
    go_wp2_with fail
    go_ret
    exact ⟨rfl, HR.out⟩
set_option maxHeartbeats 4000000 in
set_option maxRecDepth 100000 in
theorem calls_and {n : Nat} {w : World} {s : Value} {ars : List Ar} (h : ASl n w s ars) (h1 : 1 ≤ ars.length) (hl : ars.length ≤ 30) (hvl : ∀ a ∈ ars, a.vs.length ≤ 1000) (har : ∀ a ∈ ars, a.area = true) (hn : n ≤ w.heap.size) :
    Calls Tryz.prog 10 #[.string (str [65, 78, 68]), s] w fun e w' => e = .returned (truV (flat ars)).val ∧ Below w.heap.size w w' := by
  have HN := Lib.hid (fun W (hb : Below w.heap.size w W) => truths_and (h.below (hb.mono hn)) (by omega) hvl har (Nat.le_trans hn hb.size))
  obtain ⟨⟨gb, gc, rfl, hgb, hc⟩, hle⟩ := h
  obtain ⟨a, ha⟩ : ∃ a, ars[0]? = some a := ⟨ars[0], List.getElem?_eq_getElem h1⟩
  obtain ⟨ta, hta, c0, c1, c2, c3⟩ := hc 0 a ha
  obtain ⟨⟨vg, vc, rfl, hvg, _⟩, _⟩ := hta
  have HLE := Lib.hid (show gb < w.heap.size by omega)
  simp only [Nat.zero_mul, Nat.zero_add] at c0 c1 c2 c3
  have hb0 : Below w.heap.size w (w.alloc (.cells #[.int .i64 a.rows, .int .i64 a.cols, .bool a.area, .slice (some ⟨vg, 0, none⟩) a.vs.length vc] 27)) := (Below.refl _ _).alloc (Nat.le_refl _) _
  have HN1 := Lib.hid (HN.out _ hb0)
  have HB0 := Lib.hid hb0
  have i1 : ¬ (ars.length : Int) < 1 := by omega
  have i2 : ¬ 30 < (ars.length : Int) := by omega
  have i3 : 0 < (ars.length : Int) := by omega
  clear hc hvg hvl hb0 HN ha h1 hl har
  generalize (truV (flat ars)).val = rv at *
  go_enter Tryz.func10, Tryz.ntmps10
  go_wp2_with (first | (go_at_call 21; go_in))
  refine HN1.out.mono ?_
  rintro e w1 ⟨rfl, b1⟩
  go_wp2
  go_ret
  exact ⟨rfl, HB0.out.trans (b1.mono HB0.out.size)⟩
end Go.Proofs.YteelmbpmmobpjaaGreatDoor
