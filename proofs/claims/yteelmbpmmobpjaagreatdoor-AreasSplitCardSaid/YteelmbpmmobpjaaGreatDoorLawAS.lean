/-
  The statement's law: AreasSplit.
-/
import Derived.Test.YteelmbpmmobpjaaGreatDoorTxtC
import Derived.Test.YteelmbpmmobpjaaGreatDoorLawAB
namespace Go.Proofs.YteelmbpmmobpjaaGreatDoor
open Go.RowKit
open UK (str BytesAt nth Only Row Box)
namespace DE
theorem textL_byte (a : Int) : ∀ b ∈ textL a, b = 45 ∨ b = 46 ∨ Dig b := by
  have hb : ∀ b ∈ bodyT a.natAbs, b = 45 ∨ b = 46 ∨ Dig b := by
    intro b hb
    unfold bodyT at hb
    rcases List.mem_append.1 hb with h | h
    · exact .inr (.inr (decDigits_dig _ b h))
    · split at h
      · cases h
      · rcases List.mem_cons.1 h with h | h
        · exact .inr (.inl h)
        · exact .inr (.inr (part_dig _ (Nat.mod_lt _ (by decide)) b h))
  intro b h
  unfold textL at h
  split at h
  · rcases List.mem_cons.1 h with h | h
    · exact .inl h
    · exact hb b h
  · exact hb b h
theorem textL_ne {a : Int} {b c : UInt8} (h : b ∈ textL a) (hc : c ≠ 45 ∧ c ≠ 46 ∧ (c.toNat < 48 ∨ 57 < c.toNat)) : b ≠ c := by
  rintro rfl
  rcases textL_byte a b h with h | h | h
  · exact hc.1 h
  · exact hc.2.1 h
  · unfold Dig at h; omega
theorem textL_first (a : Int) : ∃ b r, textL a = b :: r := by
  unfold textL
  split
  · exact ⟨_, _, rfl⟩
  · obtain ⟨b, r, h, _⟩ := bodyT_first a.natAbs
    exact ⟨b, r, h⟩
theorem trim_none (l : List UInt8) (h : ∀ b ∈ l, b ≠ 32) : trimN l = l := by
  have hd : ∀ m : List UInt8, (∀ b ∈ m, b ≠ 32) → m.dropWhile (· == 32) = m := by
    intro m hm
    cases m with
    | nil => rfl
    | cons x r =>
      rw [List.dropWhile_cons, if_neg]
      have := hm x (by simp)
      simpa using this
  unfold trimN Lib.trimB Lib.trimLeftB Lib.trimRightB
  rw [hd l.reverse (fun b hb => h b (by simpa using hb)), List.reverse_reverse, hd l h]
theorem textL_len (a : Int) (h : Good a) : (textL a).length ≤ 30 := by
  obtain ⟨a1, a2⟩ := h
  have hlD : (Lib.decDigits (a.natAbs / 10000)).length ≤ 20 := by
    rw [Lib.decDigits_length]
    rcases Nat.eq_zero_or_pos (a.natAbs / 10000) with h | h
    · rw [h, Lib.nDigits_small (by decide)]; omega
    · have := Lib.numDigits_eq (a.natAbs / 10000) h (by omega); split at this <;> omega
  have hlP := part_len (a.natAbs % 10000)
  have hb : (bodyT a.natAbs).length ≤ 25 := by
    unfold bodyT
    rw [List.length_append]
    split
    · simp; omega
    · simp; omega
  unfold textL
  split
  · simp; omega
  · omega
end DE
theorem text_input {w : World} (n : Int) (hn : DE.Good n) : Calls Tryz.prog 89 #[.string (str (DE.textL n))] w fun e w' => e = .returned (V.num n).val ∧ Below w.heap.size w w' := by
  have hl := DE.textL_len n hn
  obtain ⟨b, r, hb⟩ := DE.textL_first n
  refine input_num (DE.textL n) n (by omega) ?_ ?_
  · have h39 : b ≠ 39 := DE.textL_ne (a := n) (by rw [hb]; simp) (by decide)
    rw [hb]
    simp [Lib.hasPrefix, List.isPrefixOf, Ne.symm h39]
  · rw [DE.trim_none _ (fun b hb => DE.textL_ne hb (by decide))]
    exact DE.parse_text n hn
/-- the rule of a sign and a number's text -/
theorem split_made {w : World} (k : Nat) (hk : k = 0 ∨ k = 2 ∨ k = 3 ∨ k = 4) (n : Int) (hn : DE.Good n) (hE : EnvS w) :
    Calls Tryz.prog 63 #[(V.text (signL k ++ DE.textL n)).val] w fun e w' => e = .returned (.agg #[.int .i64 (signO k), (V.num n).val]) ∧ Below w.heap.size w w' := by
  obtain ⟨b, r, hb⟩ := DE.textL_first n
  have h61 : (61 : UInt8) ≠ b := Ne.symm (DE.textL_ne (a := n) (by rw [hb]; simp) (by decide))
  have h62 : (62 : UInt8) ≠ b := Ne.symm (DE.textL_ne (a := n) (by rw [hb]; simp) (by decide))
  refine made_text (signL k ++ DE.textL n) (DE.textL n) n k (by omega) hE ?_ ?_ ?_ (fun w => text_input n hn)
  · intro j hj
    rw [hb]
    rcases hk with rfl | rfl | rfl | rfl
    · omega
    · rcases (show j = 0 ∨ j = 1 by omega) with rfl | rfl <;> rfl
    · rcases (show j = 0 ∨ j = 1 ∨ j = 2 by omega) with rfl | rfl | rfl <;> rfl
    · rcases (show j = 0 ∨ j = 1 ∨ j = 2 ∨ j = 3 by omega) with rfl | rfl | rfl | rfl
      · simp [Lib.hasPrefix, List.isPrefixOf, signL, h62]
      · simp [Lib.hasPrefix, List.isPrefixOf, signL, h61]
      · rfl
      · rfl
  · rcases hk with rfl | rfl | rfl | rfl <;> simp [Lib.hasPrefix, List.isPrefixOf, signL]
  · rcases hk with rfl | rfl | rfl | rfl <;> simp [Lib.trimPrefix, Lib.hasPrefix, List.isPrefixOf, signL]
theorem fits_all (rv : V) (l : List V) : (l.filter (fitsV 0 rv)).length + (l.filter (fitsV 1 rv)).length = l.length := by
  induction l with
  | nil => rfl
  | cons x r ih =>
    rw [List.filter_cons, List.filter_cons]
    have e : fitsV 1 rv x = !fitsV 0 rv x := rfl
    rw [e]
    cases fitsV 0 rv x
    · simp; omega
    · simp; omega
theorem fits_less (n : Int) (v : V) : fitsV 2 (.num n) v = (isNum v && decide (GivenN v < n)) ∧ fitsV 5 (.num n) v = (isNum v && !decide (GivenN v < n)) := by
  cases v with
  | num m =>
    have e2 : fitsV 2 (.num n) (.num m) = opB 2 (cmpI m n) := rfl
    have e5 : fitsV 5 (.num n) (.num m) = opB 5 (cmpI m n) := rfl
    rw [e2, e5]
    unfold cmpI
    by_cases h : m < n
    · rw [if_pos h]; simp [isNum, GivenN, h, opB]
    · rw [if_neg h]
      split
      · simp [isNum, GivenN, h, opB]
      · simp [isNum, GivenN, h, opB]
  | _ => exact ⟨rfl, rfl⟩
theorem fits_nums (n : Int) (a : Ar) : (a.vs.filter (fitsV 2 (.num n))).length + (a.vs.filter (fitsV 5 (.num n))).length = cntF isNum (flat [a]) := by
  have e : cntF isNum (flat [a]) = (a.vs.filter isNum).length := by
    unfold cntF flat flat1
    simp only [List.flatMap_cons, List.flatMap_nil, List.append_nil]
    induction a.vs with
    | nil => rfl
    | cons x r ih =>
      rw [List.map_cons, List.filter_cons, List.filter_cons]
      cases isNum x
      · simpa using ih
      · simpa using ih
  rw [e]
  induction a.vs with
  | nil => rfl
  | cons x r ih =>
    obtain ⟨h2, h5⟩ := fits_less n x
    rw [List.filter_cons, List.filter_cons, List.filter_cons, h2, h5]
    cases isNum x
    · simpa using ih
    · cases decide (GivenN x < n)
      · simp; omega
      · simp; omega
def cntL (op : Int) (rv : V) (a : Ar) : Nat := (a.vs.filter (fitsV op rv)).length
/-- behind calls: the law's area, and the table of powers -/
structure FSP (w : World) (T : Nat) (a : Ar) (ta : Value) (wr : World) : Prop where
  f : FSt w T a ta wr
  p : Pow wr
theorem FSP.next {w wr W : World} {T : Nat} {a : Ar} {ta : Value} (h : FSP w T a ta wr) (hb : Below wr.heap.size wr W) : FSP w T a ta W := ⟨h.f.next hb, h.p.next hb⟩
theorem FSP.drew {w wr : World} {T : Nat} {a : Ar} {ta : Value} (h : FSP w T a ta wr) : FSP w T a ta wr.drew := h.next (UK.belowN (Below.refl _ _) 1)
theorem as_count {w : World} {T tb tn tk : Nat} {a : Ar} (k : Nat) (hk : k = 0 ∨ k = 2 ∨ k = 3 ∨ k = 4) (n : Int) (hn : DE.Good n) (hl : a.vs.length ≤ 30) {W : World} (hF : FSP w T (asArea a) (.slice (some ⟨tb, 0, none⟩) tn tk) W) {og oc : Nat} (hO : VSl W.heap.size W (.slice (some ⟨og, 0, none⟩) 1 oc) [.text (signL k ++ DE.textL n)]) :
    Calls Tryz.prog 11 #[.string (str [67, 79, 85, 78, 84, 73, 70]), .slice (some ⟨W.heap.size, 0, none⟩) 2 2] (W.alloc (.cells #[.int .i64 a.rows, .int .i64 a.cols, .bool true, .slice (some ⟨tb, 0, none⟩) tn tk, .int .i64 1, .int .i64 1, .bool false, .slice (some ⟨og, 0, none⟩) 1 oc] 27))
      fun e w' => e = .returned (.tuple #[.int .i64 ((cntL (signO k) (.num n) a : Int) * 10000), .bool true]) ∧ FSP w T (asArea a) (.slice (some ⟨tb, 0, none⟩) tn tk) w' := by
  have hb : Below W.heap.size W (W.alloc (.cells #[.int .i64 a.rows, .int .i64 a.cols, .bool true, .slice (some ⟨tb, 0, none⟩) tn tk, .int .i64 1, .int .i64 1, .bool false, .slice (some ⟨og, 0, none⟩) 1 oc] 27)) := (Below.refl _ _).alloc (Nat.le_refl _) _
  have hx := Box.new W #[.int .i64 a.rows, .int .i64 a.cols, .bool true, .slice (some ⟨tb, 0, none⟩) tn tk, .int .i64 1, .int .i64 1, .bool false, .slice (some ⟨og, 0, none⟩) 1 oc] 27
  have h2 : ASl _ _ (.slice (some ⟨W.heap.size, 0, none⟩) 2 2) [asArea a, ⟨1, 1, false, [.text (signL k ++ DE.textL n)]⟩] := asl_two (c := 2) (a := asArea a) (b := ⟨1, 1, false, [.text (signL k ++ DE.textL n)]⟩) hx ((hF.f.va.below hb).up hb.size (Nat.le_refl _)) ((hO.below hb).up hb.size (Nat.le_refl _))
  refine (number_of (call_countif h2 (by show a.vs.length ≤ 1000; omega) (.num n) (signO k) (by rcases hk with rfl | rfl | rfl | rfl <;> simp [signO]) (fun W2 hb2 => split_made k hk n hn ((hF.f.env.next hb).next hb2)) (fun x _ => not_text_num x n))).mono ?_
  rintro e w' ⟨rfl, b⟩
  exact ⟨rfl, (hF.next hb).next b⟩
theorem as_nums {w : World} {T : Nat} {a : Ar} {ta : Value} (hl : a.vs.length ≤ 30) {W : World} (hF : FSP w T (asArea a) ta W) :
    Calls Tryz.prog 11 #[.string (str [67, 79, 85, 78, 84]), .slice (some ⟨W.heap.size, 0, none⟩) 1 1] (W.alloc (.cells #[.int .i64 a.rows, .int .i64 a.cols, .bool true, ta] 27))
      fun e w' => e = .returned (.tuple #[.int .i64 ((cntF isNum (flat [asArea a]) : Int) * 10000), .bool true]) ∧ FSP w T (asArea a) ta w' := by
  have hb : Below W.heap.size W (W.alloc (.cells #[.int .i64 a.rows, .int .i64 a.cols, .bool true, ta] 27)) := (Below.refl _ _).alloc (Nat.le_refl _) _
  have hx := Box.new W #[.int .i64 a.rows, .int .i64 a.cols, .bool true, ta] 27
  have h2 : ASl _ _ (.slice (some ⟨W.heap.size, 0, none⟩) 1 1) [asArea a] := asl_one (c := 1) (a := asArea a) hx ((hF.f.va.below hb).up hb.size (Nat.le_refl _))
  refine (number_of (calls_count h2 (by simp) (by simp) (fun b hb => by rw [List.mem_singleton.1 hb]; show a.vs.length ≤ 1000; omega) (fun b hb => by rw [List.mem_singleton.1 hb]; rfl) (Nat.le_refl _))).mono ?_
  rintro e w' ⟨rfl, b⟩
  exact ⟨rfl, (hF.next hb).next b⟩
set_option maxHeartbeats 4000000 in
set_option maxRecDepth 100000 in
theorem split_any {w : World} (hE : EnvS w) (hP : Pow w) (one : Bool) (cols : Int) {sl : Value} {ps : List (Int × Int × List UInt8)} (hp : PlSl w sl ps) (hps : ps.length ≤ 9223372036854775807) (n : Int) :
    Calls Tryz.prog 6 #[.agg #[.bool one, .int .i64 cols, sl], .int .i64 n] w fun e w' => e = .returned (.bool true) ∧ Below w.heap.size w w' := by
  obtain ⟨ao, sc, hsl, _⟩ := hp.is
  have hb0 : Below w.heap.size w (w.alloc (.cells #[.bool one, .int .i64 cols, sl] 24)) := (Below.refl _ _).alloc (Nat.le_refl _) _
  have HA := Lib.hid (arg_any (w := w.alloc (.cells #[.bool one, .int .i64 cols, sl] 24)) one cols (hE.env.next hb0) (hp.next hb0) hps)
  have HE := Lib.hid (And.intro hE (And.intro hP hb0))
  have hlen := argOf_len one cols ps
  subst hsl
  clear hE hP hb0 hp
  unfold ArV at HA
  obtain ⟨a, ha⟩ : ∃ a, argOf one cols ps = a := ⟨_, rfl⟩
  rw [ha] at HA hlen
  clear ha
  have HG := Lib.hid (fun w => good_any (w := w) n)
  have HAW := Lib.hid (fun (W : World) (he : EnvS W) => awake_any (w := W) he)
  go_enter Tryz.func6, Tryz.ntmps6
  go_wp2_with fail
  refine HA.out.mono ?_
  rintro e w1 ⟨t, rfl, hv, bw1, tb, tn, tk, rfl, hnew⟩
  have hf2 : FSP w w1.heap.size (asArea a) (.slice (some ⟨tb, 0, none⟩) tn tk) (w1.alloc (.cells #[.int .i64 a.rows, .int .i64 a.cols, .bool true, .slice (some ⟨tb, 0, none⟩) tn tk] 27)) := by
    have hb := HE.out.2.2.trans (bw1.mono HE.out.2.2.size)
    have hb2 : Below w1.heap.size w1 (w1.alloc (.cells #[.int .i64 a.rows, .int .i64 a.cols, .bool true, .slice (some ⟨tb, 0, none⟩) tn tk] 27)) := (Below.refl _ _).alloc (Nat.le_refl _) _
    exact ⟨⟨hb.trans (hb2.mono hb.size), Box.new _ _ _, (hv.below hb2).up hb2.size (Nat.le_refl _), (HE.out.1.next hb).next hb2⟩, (HE.out.2.1.next hb).next hb2⟩
  have HF2 := Lib.hid hf2
  have hvl : tn = a.vs.length := by obtain ⟨⟨_, _, hh, _⟩, _⟩ := hv; cases hh; rfl
  have hlen2 : tn ≤ 30 := by omega
  have HVL := Lib.hid hvl
  clear hf2 HA hv bw1 hnew hvl
  cases hg : DE.goodB n with
  | false =>
    rw [hg] at HG
    have HA2 := Lib.hid (HAW.out _ HF2.out.f.env)
    clear hg
    go_wp2_with fail
    refine (HG.out _).mono ?_
    rintro e w2 ⟨rfl, rfl⟩
    go_wp2_with fail
    refine HA2.out.mono ?_
    rintro e w3 ⟨rfl, b3⟩
    go_wp2
    go_ret
    exact ⟨rfl, HF2.out.f.bel.trans (b3.mono HF2.out.f.bel.size)⟩
  | true =>
    rw [hg] at HG
    have hn := DE.goodB_iff.1 hg
    have HT := Lib.hid (fun (W : World) (hp : Pow W) => text_any (w := W) n hn hp)
    have hC := fun (k : Nat) (hk : k = 0 ∨ k = 2 ∨ k = 3 ∨ k = 4) (W : World) (hF : FSP w w1.heap.size (asArea a) (.slice (some ⟨tb, 0, none⟩) tn tk) W) (og oc : Nat) (hO : VSl W.heap.size W (.slice (some ⟨og, 0, none⟩) 1 oc) [.text (signL k ++ DE.textL n)]) => as_count k hk n hn hlen hF hO
    have HC0 := Lib.hid (hC 3 (by omega))
    have HC1 := Lib.hid (hC 0 (by omega))
    have HC2 := Lib.hid (hC 4 (by omega))
    have HC3 := Lib.hid (hC 2 (by omega))
    have HO0 : Hid (∀ w, Calls Tryz.prog 12 #[.iface 52 (.string (str (61 :: DE.textL n)))] w fun e w' => ∃ g c, e = .returned (ArV ⟨1, 1, false, [.text (61 :: DE.textL n)]⟩ (.slice (some ⟨g, 0, none⟩) 1 c)) ∧ w.heap.size ≤ g ∧ VSl w'.heap.size w' (.slice (some ⟨g, 0, none⟩) 1 c) [.text (61 :: DE.textL n)] ∧ Below w.heap.size w w') := fun w => one_any (w := w) (.text (61 :: DE.textL n))
    have HO1 : Hid (∀ w, Calls Tryz.prog 12 #[.iface 52 (.string (str (60 :: 62 :: DE.textL n)))] w fun e w' => ∃ g c, e = .returned (ArV ⟨1, 1, false, [.text (60 :: 62 :: DE.textL n)]⟩ (.slice (some ⟨g, 0, none⟩) 1 c)) ∧ w.heap.size ≤ g ∧ VSl w'.heap.size w' (.slice (some ⟨g, 0, none⟩) 1 c) [.text (60 :: 62 :: DE.textL n)] ∧ Below w.heap.size w w') := fun w => one_any (w := w) (.text (60 :: 62 :: DE.textL n))
    have HO2 : Hid (∀ w, Calls Tryz.prog 12 #[.iface 52 (.string (str (60 :: DE.textL n)))] w fun e w' => ∃ g c, e = .returned (ArV ⟨1, 1, false, [.text (60 :: DE.textL n)]⟩ (.slice (some ⟨g, 0, none⟩) 1 c)) ∧ w.heap.size ≤ g ∧ VSl w'.heap.size w' (.slice (some ⟨g, 0, none⟩) 1 c) [.text (60 :: DE.textL n)] ∧ Below w.heap.size w w') := fun w => one_any (w := w) (.text (60 :: DE.textL n))
    have HO3 : Hid (∀ w, Calls Tryz.prog 12 #[.iface 52 (.string (str (62 :: 61 :: DE.textL n)))] w fun e w' => ∃ g c, e = .returned (ArV ⟨1, 1, false, [.text (62 :: 61 :: DE.textL n)]⟩ (.slice (some ⟨g, 0, none⟩) 1 c)) ∧ w.heap.size ≤ g ∧ VSl w'.heap.size w' (.slice (some ⟨g, 0, none⟩) 1 c) [.text (62 :: 61 :: DE.textL n)] ∧ Below w.heap.size w w') := fun w => one_any (w := w) (.text (62 :: 61 :: DE.textL n))
    have HNM := Lib.hid (fun (W : World) (hF : FSP w w1.heap.size (asArea a) (.slice (some ⟨tb, 0, none⟩) tn tk) W) => as_nums hlen hF)
    have HIN := Lib.hid (fun w => int_pos (w := w) tn (by omega))
    have hs1 := fits_all (.num n) a.vs
    have hs2 := fits_nums n (asArea a)
    have q0 : cntL (signO 3) (.num n) a + cntL (signO 0) (.num n) a = tn := hs1.trans HVL.out.symm
    have q1 : cntL (signO 4) (.num n) a + cntL (signO 2) (.num n) a = cntF isNum (flat [asArea a]) := hs2
    have q2 : cntL (signO 4) (.num n) a ≤ 30 := Nat.le_trans (List.length_filter_le _ _) hlen
    have q3 : cntL (signO 2) (.num n) a ≤ 30 := Nat.le_trans (List.length_filter_le _ _) hlen
    have HGOOD := Lib.hid hn
    clear hs1 hs2 hC hg hn HVL
    dsimp only [signL, List.cons_append, List.nil_append] at HC0 HC1 HC2 HC3
    generalize cntL (signO 3) (.num n) a = c0 at *
    generalize cntL (signO 0) (.num n) a = c1 at *
    generalize cntL (signO 4) (.num n) a = c2 at *
    generalize cntL (signO 2) (.num n) a = c3 at *
    generalize cntF isNum (flat [asArea a]) = c4 at *
    have htl := DE.textL_len n HGOOD.out
    generalize DE.textL n = tl at *
    clear HGOOD
    have hc0 : c0 ≤ 30 := by omega
    have hc1 : c1 ≤ 30 := by omega
    have hc4 : c4 ≤ 60 := by omega
    have HQ := Lib.hid (And.intro q0 q1)
    clear q0 q1
    go_wp2_with fail
    refine (HG.out _).mono ?_
    rintro e w2 ⟨rfl, rfl⟩
    go_wp2_with fail
    refine (HT.out _ HF2.out.p).mono ?_
    rintro e w2 ⟨rfl, b2⟩
    have HF3 := Lib.hid (HF2.out.next b2)
    clear b2
    go_wp2_with fail
    refine (HT.out _ HF3.out.p).mono ?_
    rintro e w3 ⟨rfl, b3⟩
    have HF4 := Lib.hid (HF3.out.next b3)
    have HF4d := Lib.hid (HF4.out.drew)
    obtain ⟨f0, f1, f2, f3, fl⟩ := HF4.out.f.drew.facts
    dsimp only [asArea] at f0 f1 f2 f3
    clear b3 HF2 HF3
    go_upto_region 6 with (fail)
    go_cut [8, 9] (fun av bv wx => av = .int .i64 ((c0 : Int) * 10000) ∧ bv = .bool true ∧ FSP w w1.heap.size (asArea a) (.slice (some ⟨tb, 0, none⟩) tn tk) wx)
    case first =>
      go_region_with (first
        | (go_at_call 12; refine (HO0.out _).mono ?_; rintro e w9 ⟨og, oc, rfl, hog, hov, b9⟩; have HF9 := Lib.hid (HF4d.out.next b9); have HOV := Lib.hid hov; obtain ⟨k0, k1, k2, k3, kl⟩ := HF9.out.f.facts; dsimp only [asArea] at k0 k1 k2 k3; unfold ArV; clear b9 hov)
        | (go_at_call 11; refine (HC0.out _ HF9.out og oc HOV.out).mono ?_; rintro e w10 ⟨rfl, hF10⟩; have HF10 := Lib.hid hF10; clear hF10))
      all_goals
        go_wp2_with fail
        go_meet
        case rel => exact ⟨rfl, rfl, HF10.out⟩
    case rest =>
      obtain ⟨rfl, rfl, hF⟩ := hcut
      clear f0 f1 f2 f3 fl HF4 HF4d HC0 HO0
      have HF5 := Lib.hid hF
      have HF5d := Lib.hid hF.drew
      obtain ⟨f0, f1, f2, f3, fl⟩ := hF.f.drew.facts
      dsimp only [asArea] at f0 f1 f2 f3
      clear hF
      go_upto_region 7 with (fail)
      go_cut [10, 11] (fun av bv wx => av = .int .i64 ((c1 : Int) * 10000) ∧ bv = .bool true ∧ FSP w w1.heap.size (asArea a) (.slice (some ⟨tb, 0, none⟩) tn tk) wx)
      case first =>
        go_region_with (first
          | (go_at_call 12; refine (HO1.out _).mono ?_; rintro e w9 ⟨og, oc, rfl, hog, hov, b9⟩; have HF9 := Lib.hid (HF5d.out.next b9); have HOV := Lib.hid hov; obtain ⟨k0, k1, k2, k3, kl⟩ := HF9.out.f.facts; dsimp only [asArea] at k0 k1 k2 k3; unfold ArV; clear b9 hov)
          | (go_at_call 11; refine (HC1.out _ HF9.out og oc HOV.out).mono ?_; rintro e w10 ⟨rfl, hF10⟩; have HF10 := Lib.hid hF10; clear hF10))
        all_goals
          go_wp2_with fail
          go_meet
          case rel => exact ⟨rfl, rfl, HF10.out⟩
      case rest =>
        obtain ⟨rfl, rfl, hF⟩ := hcut
        clear f0 f1 f2 f3 fl HF5 HF5d HC1 HO1
        have HF6 := Lib.hid hF
        have HF6d := Lib.hid hF.drew
        obtain ⟨f0, f1, f2, f3, fl⟩ := hF.f.drew.facts
        dsimp only [asArea] at f0 f1 f2 f3
        clear hF
        go_upto_region 8 with (fail)
        go_cut [12, 13] (fun av bv wx => av = .int .i64 ((c2 : Int) * 10000) ∧ bv = .bool true ∧ FSP w w1.heap.size (asArea a) (.slice (some ⟨tb, 0, none⟩) tn tk) wx)
        case first =>
          go_region_with (first
            | (go_at_call 16; refine (HT.out _ HF6d.out.p).mono ?_; rintro e wt ⟨rfl, bt⟩; have HFT := Lib.hid (HF6d.out.next bt); obtain ⟨j0, j1, j2, j3, jl⟩ := HFT.out.f.facts; dsimp only [asArea] at j0 j1 j2 j3; clear bt)
            | (go_at_call 12; refine (HO2.out _).mono ?_; rintro e w9 ⟨og, oc, rfl, hog, hov, b9⟩; have HF9 := Lib.hid (HFT.out.next b9); have HOV := Lib.hid hov; obtain ⟨k0, k1, k2, k3, kl⟩ := HF9.out.f.facts; dsimp only [asArea] at k0 k1 k2 k3; unfold ArV; clear b9 hov)
            | (go_at_call 11; refine (HC2.out _ HF9.out og oc HOV.out).mono ?_; rintro e w10 ⟨rfl, hF10⟩; have HF10 := Lib.hid hF10; clear hF10))
          all_goals
            go_wp2_with fail
            go_meet
            case rel => exact ⟨rfl, rfl, HF10.out⟩
        case rest =>
          obtain ⟨rfl, rfl, hF⟩ := hcut
          clear f0 f1 f2 f3 fl HF6 HF6d HC2 HO2
          have HF7 := Lib.hid hF
          have HF7d := Lib.hid hF.drew
          obtain ⟨f0, f1, f2, f3, fl⟩ := hF.f.drew.facts
          dsimp only [asArea] at f0 f1 f2 f3
          clear hF
          go_upto_region 9 with (fail)
          go_cut [14, 15] (fun av bv wx => av = .int .i64 ((c3 : Int) * 10000) ∧ bv = .bool true ∧ FSP w w1.heap.size (asArea a) (.slice (some ⟨tb, 0, none⟩) tn tk) wx)
          case first =>
            go_region_with (first
              | (go_at_call 16; refine (HT.out _ HF7d.out.p).mono ?_; rintro e wt ⟨rfl, bt⟩; have HFT := Lib.hid (HF7d.out.next bt); obtain ⟨j0, j1, j2, j3, jl⟩ := HFT.out.f.facts; dsimp only [asArea] at j0 j1 j2 j3; clear bt)
              | (go_at_call 12; refine (HO3.out _).mono ?_; rintro e w9 ⟨og, oc, rfl, hog, hov, b9⟩; have HF9 := Lib.hid (HFT.out.next b9); have HOV := Lib.hid hov; obtain ⟨k0, k1, k2, k3, kl⟩ := HF9.out.f.facts; dsimp only [asArea] at k0 k1 k2 k3; unfold ArV; clear b9 hov)
              | (go_at_call 11; refine (HC3.out _ HF9.out og oc HOV.out).mono ?_; rintro e w10 ⟨rfl, hF10⟩; have HF10 := Lib.hid hF10; clear hF10))
            all_goals
              go_wp2_with fail
              go_meet
              case rel => exact ⟨rfl, rfl, HF10.out⟩
          case rest =>
            obtain ⟨rfl, rfl, hF⟩ := hcut
            clear f0 f1 f2 f3 fl HF7 HF7d HC3 HO3
            have HF8 := Lib.hid hF
            obtain ⟨f0, f1, f2, f3, fl⟩ := hF.f.facts
            dsimp only [asArea] at f0 f1 f2 f3
            clear hF
            go_wp2_with fail
            refine (HNM.out _ HF8.out).mono ?_
            rintro e w20 ⟨rfl, hF⟩
            clear f0 f1 f2 f3 fl HF8
            have HF9 := Lib.hid hF
            obtain ⟨f0, f1, f2, f3, fl⟩ := hF.f.facts
            dsimp only [asArea] at f0 f1 f2 f3
            clear hF
            go_wp2_with fail
            refine (HIN.out _).mono ?_
            rintro e w21 ⟨rfl, rfl⟩
            have HA2 := Lib.hid (HAW.out _ HF9.out.f.env)
            go_wp2_with fail
            refine HA2.out.mono ?_
            rintro e w22 ⟨rfl, b22⟩
            obtain ⟨q0, q1⟩ := HQ.out
            have e1 : (c0 : Int) * 10000 + (c1 : Int) * 10000 = (tn : Int) * 10000 := by omega
            have e2 : (c2 : Int) * 10000 + (c3 : Int) * 10000 = (c4 : Int) * 10000 := by omega
            clear q0 q1
            go_wp2
            go_ret
            exact ⟨rfl, HF9.out.f.bel.trans (b22.mono HF9.out.f.bel.size)⟩
end Go.Proofs.YteelmbpmmobpjaaGreatDoor
