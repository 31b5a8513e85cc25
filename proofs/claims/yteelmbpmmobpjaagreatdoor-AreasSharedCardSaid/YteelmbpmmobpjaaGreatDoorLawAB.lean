/-
  The statement's law: AreasBetween.
-/
import Derived.Test.YteelmbpmmobpjaaGreatDoorLawAF
import Derived.Test.YteelmbpmmobpjaaGreatDoorManF
namespace Go.Proofs.YteelmbpmmobpjaaGreatDoor
open Go.RowKit
open UK (str BytesAt nth Only Row Box)
theorem asl_one {W : World} {g c : Nat} {a : Ar} {ta : Value} (h : Box W g #[.int .i64 a.rows, .int .i64 a.cols, .bool a.area, ta]) (ha : VSl W.heap.size W ta a.vs) : ASl W.heap.size W (.slice (some ⟨g, 0, none⟩) 1 c) [a] := by
  refine ⟨⟨g, c, rfl, h.lt, fun j x hx => ?_⟩, Nat.le_refl _⟩
  rcases j with _ | j
  · obtain rfl := Option.some.inj hx
    exact ⟨ta, ha, h.cell 0 _ rfl, h.cell 1 _ rfl, h.cell 2 _ rfl, h.cell 3 _ rfl⟩
  · simp at hx
theorem ab_num {w : World} {T : Nat} {a : Ar} {ta : Value} (nm : ByteArray) (v : V) (hc : ∀ (W2 : World) (s : Value), ASl W2.heap.size W2 s [asArea a] → Calls Tryz.prog 10 #[.string nm, s] W2 fun e w' => e = .returned v.val ∧ Below W2.heap.size W2 w')
    {W : World} (hF : FSt w T (asArea a) ta W) :
    Calls Tryz.prog 11 #[.string nm, .slice (some ⟨W.heap.size, 0, none⟩) 1 1] (W.alloc (.cells #[.int .i64 a.rows, .int .i64 a.cols, .bool true, ta] 27))
      fun e w' => e = .returned (.tuple #[.int .i64 (GivenN v), .bool (isNum v)]) ∧ FSt w T (asArea a) ta w' := by
  have hb : Below W.heap.size W (W.alloc (.cells #[.int .i64 a.rows, .int .i64 a.cols, .bool true, ta] 27)) := (Below.refl _ _).alloc (Nat.le_refl _) _
  have hx := Box.new W #[.int .i64 a.rows, .int .i64 a.cols, .bool true, ta] 27
  have h2 : ASl _ _ (.slice (some ⟨W.heap.size, 0, none⟩) 1 1) [asArea a] := asl_one (c := 1) (a := asArea a) hx ((hF.va.below hb).up hb.size (Nat.le_refl _))
  refine (number_of (hc _ _ h2)).mono ?_
  rintro e w' ⟨rfl, b⟩
  exact ⟨rfl, (hF.next hb).next b⟩
theorem ab_two {w : World} {T : Nat} {a : Ar} {ta : Value} (nm : ByteArray) (v : V) (k : Nat) (hc : ∀ (W2 : World) (g : Nat), ASl W2.heap.size W2 (.slice (some ⟨g, 0, none⟩) 2 2) [asArea a, ⟨1, 1, false, [.num ((k : Int) * 10000)]⟩] → Calls Tryz.prog 10 #[.string nm, .slice (some ⟨g, 0, none⟩) 2 2] W2 fun e w' => e = .returned v.val ∧ Below W2.heap.size W2 w')
    {W : World} (hF : FSt w T (asArea a) ta W) {og oc : Nat} (hO : VSl W.heap.size W (.slice (some ⟨og, 0, none⟩) 1 oc) [.num ((k : Int) * 10000)]) :
    Calls Tryz.prog 11 #[.string nm, .slice (some ⟨W.heap.size, 0, none⟩) 2 2] (W.alloc (.cells #[.int .i64 a.rows, .int .i64 a.cols, .bool true, ta, .int .i64 1, .int .i64 1, .bool false, .slice (some ⟨og, 0, none⟩) 1 oc] 27))
      fun e w' => e = .returned (.tuple #[.int .i64 (GivenN v), .bool (isNum v)]) ∧ FSt w T (asArea a) ta w' := by
  have hb : Below W.heap.size W (W.alloc (.cells #[.int .i64 a.rows, .int .i64 a.cols, .bool true, ta, .int .i64 1, .int .i64 1, .bool false, .slice (some ⟨og, 0, none⟩) 1 oc] 27)) := (Below.refl _ _).alloc (Nat.le_refl _) _
  have hx := Box.new W #[.int .i64 a.rows, .int .i64 a.cols, .bool true, ta, .int .i64 1, .int .i64 1, .bool false, .slice (some ⟨og, 0, none⟩) 1 oc] 27
  have h2 : ASl _ _ (.slice (some ⟨W.heap.size, 0, none⟩) 2 2) [asArea a, ⟨1, 1, false, [.num ((k : Int) * 10000)]⟩] := asl_two (c := 2) (a := asArea a) (b := ⟨1, 1, false, [.num ((k : Int) * 10000)]⟩) hx ((hF.va.below hb).up hb.size (Nat.le_refl _)) ((hO.below hb).up hb.size (Nat.le_refl _))
  refine (number_of (hc _ _ h2)).mono ?_
  rintro e w' ⟨rfl, b⟩
  exact ⟨rfl, (hF.next hb).next b⟩
theorem argOf_ok (one : Bool) (cols : Int) (ps : List (Int × Int × List UInt8)) : ∀ v ∈ (argOf one cols ps).vs, v.Ok := by
  have h1 : ∀ v ∈ firstL ps, v.Ok := fun v hv => by
    unfold firstL at hv
    obtain ⟨p, _, rfl⟩ := List.mem_map.1 hv
    exact V.of_ok _ _ _
  intro v hv
  unfold argOf at hv
  cases one with
  | true =>
    rw [if_pos rfl] at hv
    rw [List.mem_singleton.1 hv]
    cases hf : firstL ps with
    | nil => exact trivial
    | cons x r => exact h1 x (by rw [hf]; simp)
  | false =>
    rw [if_neg (by decide)] at hv
    unfold padL at hv
    rcases List.mem_append.1 hv with h | h
    · exact h1 v h
    · rw [List.eq_of_mem_replicate h]; exact trivial
/-- what the law finds -/
structure Btw (a : Ar) (kk : Nat) (v1 v2 v3 v4 : V) : Prop where
  c0 : ∀ (W2 : World) (s : Value), ASl W2.heap.size W2 s [asArea a] → Calls Tryz.prog 10 #[.string (str [67, 79, 85, 78, 84]), s] W2 fun e w' => e = .returned (V.val (.num ((kk : Int) * 10000))) ∧ Below W2.heap.size W2 w'
  c1 : ∀ (W2 : World) (s : Value), ASl W2.heap.size W2 s [asArea a] → Calls Tryz.prog 10 #[.string (str [77, 73, 78]), s] W2 fun e w' => e = .returned v1.val ∧ Below W2.heap.size W2 w'
  c2 : ∀ (W2 : World) (s : Value), ASl W2.heap.size W2 s [asArea a] → Calls Tryz.prog 10 #[.string (str [77, 65, 88]), s] W2 fun e w' => e = .returned v2.val ∧ Below W2.heap.size W2 w'
  c3 : ∀ (W2 : World) (s : Value), ASl W2.heap.size W2 s [asArea a] → Calls Tryz.prog 10 #[.string (str [65, 86, 69, 82, 65, 71, 69]), s] W2 fun e w' => e = .returned v3.val ∧ Below W2.heap.size W2 w'
  c4 : ∀ (W2 : World) (s : Value), ASl W2.heap.size W2 s [asArea a] → Calls Tryz.prog 10 #[.string (str [77, 69, 68, 73, 65, 78]), s] W2 fun e w' => e = .returned v4.val ∧ Below W2.heap.size W2 w'
  kle : kk ≤ 1000
  fine : isNum v1 = true → isNum v2 = true → isNum v3 = true → isNum v4 = true → kk ≠ 0 → ∃ lo hi q m : Int, v1 = .num lo ∧ v2 = .num hi ∧ v3 = .num q ∧ v4 = .num m ∧ lo ≤ q ∧ q ≤ hi ∧ lo ≤ m ∧ m ≤ hi ∧
    (∀ (W2 : World) (g : Nat), ASl W2.heap.size W2 (.slice (some ⟨g, 0, none⟩) 2 2) [asArea a, ⟨1, 1, false, [.num (((1 : Nat) : Int) * 10000)]⟩] → Calls Tryz.prog 10 #[.string (str [83, 77, 65, 76, 76]), .slice (some ⟨g, 0, none⟩) 2 2] W2 fun e w' => e = .returned (V.val (.num lo)) ∧ Below W2.heap.size W2 w') ∧
    (∀ (W2 : World) (g : Nat), ASl W2.heap.size W2 (.slice (some ⟨g, 0, none⟩) 2 2) [asArea a, ⟨1, 1, false, [.num (((1 : Nat) : Int) * 10000)]⟩] → Calls Tryz.prog 10 #[.string (str [76, 65, 82, 71, 69]), .slice (some ⟨g, 0, none⟩) 2 2] W2 fun e w' => e = .returned (V.val (.num hi)) ∧ Below W2.heap.size W2 w') ∧
    (∀ (W2 : World) (g : Nat), ASl W2.heap.size W2 (.slice (some ⟨g, 0, none⟩) 2 2) [asArea a, ⟨1, 1, false, [.num ((kk : Int) * 10000)]⟩] → Calls Tryz.prog 10 #[.string (str [83, 77, 65, 76, 76]), .slice (some ⟨g, 0, none⟩) 2 2] W2 fun e w' => e = .returned (V.val (.num hi)) ∧ Below W2.heap.size W2 w')
theorem btw_of (a : Ar) (hl : a.vs.length ≤ 30) (hok : ∀ v ∈ a.vs, v.Ok) : ∃ kk v1 v2 v3 v4, Btw a kk v1 v2 v3 v4 := by
  have hk : (numsOf (flat [asArea a])).length ≤ 30 := by
    refine Nat.le_trans (numsOf_le _) ?_
    simp [flat, flat1, asArea]
    exact hl
  have hvl : ∀ b ∈ [asArea a], b.vs.length ≤ 1000 ∧ ∀ v ∈ b.vs, v.Ok := fun b hb => by
    rw [List.mem_singleton.1 hb]
    exact ⟨by show a.vs.length ≤ 1000; omega, hok⟩
  have hvl1 : ∀ b ∈ [asArea a], b.vs.length ≤ 1000 := fun b hb => (hvl b hb).1
  have hkk := numsOf_area (asArea a) rfl
  refine ⟨cntF isNum (flat [asArea a]), callV minV (flat [asArea a]), callV maxV (flat [asArea a]), callV meanV (flat [asArea a]), callV medV (flat [asArea a]), ?_, ?_, ?_, ?_, ?_, ?_, ?_⟩
  · exact fun W2 s h => calls_count h (by simp) (by simp) hvl1 (fun b hb => by rw [List.mem_singleton.1 hb]; rfl) (Nat.le_refl _)
  · exact fun W2 s h => calls_min h (by simp) (by simp) hvl (Nat.le_refl _) (by omega)
  · exact fun W2 s h => calls_max h (by simp) (by simp) hvl (Nat.le_refl _) (by omega)
  · exact fun W2 s h => calls_average h (by simp) (by simp) hvl (Nat.le_refl _) (by omega)
  · exact fun W2 s h => calls_median h (by simp) (by simp) hvl (Nat.le_refl _) (by omega)
  · omega
  · intro h1 h2 h3 h4 h5
    have hf : firstF numFail (flat [asArea a]) = 0 := by
      unfold callV at h1
      split at h1
      · assumption
      · cases h1
    have e1 : callV minV (flat [asArea a]) = minV (numsOf (flat [asArea a])) := by unfold callV; rw [if_pos hf]
    have e2 : callV maxV (flat [asArea a]) = maxV (numsOf (flat [asArea a])) := by unfold callV; rw [if_pos hf]
    have e3 : callV meanV (flat [asArea a]) = meanV (numsOf (flat [asArea a])) := by unfold callV; rw [if_pos hf]
    have e4 : callV medV (flat [asArea a]) = medV (numsOf (flat [asArea a])) := by unfold callV; rw [if_pos hf]
    rw [e3] at h3
    rw [e4] at h4
    have q3 := isnum_num h3
    have q4 := isnum_num h4
    have hne : numsOf (flat [asArea a]) ≠ [] := fun h => by rw [h] at hkk; exact h5 hkk.symm
    obtain ⟨m1, m2⟩ := mean_between (by omega) q3
    obtain ⟨m3, m4⟩ := med_between q4
    have hp : 0 < (numsOf (flat [asArea a])).length := List.length_pos_iff.2 hne
    refine ⟨mnL (numsOf (flat [asArea a])), mxL (numsOf (flat [asArea a])), _, _, e1, e2, e3.trans q3, e4.trans q4, m1, m2, m3, m4, ?_, ?_, ?_⟩
    · intro W2 g h
      have := calls_small 1 h (hvl _ (by simp)) hf (Nat.le_refl _) hp (by omega)
      rwa [srt_first hne] at this
    · intro W2 g h
      have := calls_large 1 h (hvl _ (by simp)) hf (Nat.le_refl _) hp (by omega)
      rwa [srt_last hne] at this
    · intro W2 g h
      rw [← hkk] at h
      have := calls_small (numsOf (flat [asArea a])).length h (hvl _ (by simp)) hf hp (Nat.le_refl _) (by omega)
      rwa [srt_last hne] at this
set_option maxHeartbeats 4000000 in
set_option maxRecDepth 100000 in
theorem ab_any {w : World} (hE : EnvS w) (one : Bool) (cols : Int) {sl : Value} {ps : List (Int × Int × List UInt8)} (hp : PlSl w sl ps) (hps : ps.length ≤ 9223372036854775807) :
    Calls Tryz.prog 4 #[.agg #[.bool one, .int .i64 cols, sl]] w fun e w' => e = .returned (.bool true) ∧ Below w.heap.size w w' := by
  obtain ⟨ao, sc, hsl, _⟩ := hp.is
  have hb0 : Below w.heap.size w (w.alloc (.cells #[.bool one, .int .i64 cols, sl] 24)) := (Below.refl _ _).alloc (Nat.le_refl _) _
  have HA := Lib.hid (arg_any (w := w.alloc (.cells #[.bool one, .int .i64 cols, sl] 24)) one cols (hE.env.next hb0) (hp.next hb0) hps)
  have HE := Lib.hid (And.intro hE hb0)
  have hlen := argOf_len one cols ps
  have hok := argOf_ok one cols ps
  subst hsl
  clear hE hb0 hp
  unfold ArV at HA
  obtain ⟨a, ha⟩ : ∃ a, argOf one cols ps = a := ⟨_, rfl⟩
  rw [ha] at HA hlen hok
  clear ha
  obtain ⟨kk, v1, v2, v3, v4, hB⟩ := btw_of a hlen hok
  have HB := Lib.hid hB
  have hkk := hB.kle
  clear hB hok hlen
  go_enter Tryz.func4, Tryz.ntmps4
  go_wp2_with fail
  refine HA.out.mono ?_
  rintro e w1 ⟨t, rfl, hv, bw1, tb, tn, tk, rfl, hnew⟩
  have hf2 : FSt w w1.heap.size (asArea a) (.slice (some ⟨tb, 0, none⟩) tn tk) (w1.alloc (.cells #[.int .i64 a.rows, .int .i64 a.cols, .bool true, .slice (some ⟨tb, 0, none⟩) tn tk] 27)) := by
    have hb := HE.out.2.trans (bw1.mono HE.out.2.size)
    have hb2 : Below w1.heap.size w1 (w1.alloc (.cells #[.int .i64 a.rows, .int .i64 a.cols, .bool true, .slice (some ⟨tb, 0, none⟩) tn tk] 27)) := (Below.refl _ _).alloc (Nat.le_refl _) _
    exact ⟨hb.trans (hb2.mono hb.size), Box.new _ _ _, (hv.below hb2).up hb2.size (Nat.le_refl _), (HE.out.1.next hb).next hb2⟩
  have HF2 := Lib.hid hf2
  have H0 := Lib.hid (fun (W : World) (hF : FSt w w1.heap.size (asArea a) (.slice (some ⟨tb, 0, none⟩) tn tk) W) => ab_num (str [67, 79, 85, 78, 84]) (.num ((kk : Int) * 10000)) HB.out.c0 hF)
  have H1 := Lib.hid (fun (W : World) (hF : FSt w w1.heap.size (asArea a) (.slice (some ⟨tb, 0, none⟩) tn tk) W) => ab_num (str [77, 73, 78]) v1 HB.out.c1 hF)
  have H2 := Lib.hid (fun (W : World) (hF : FSt w w1.heap.size (asArea a) (.slice (some ⟨tb, 0, none⟩) tn tk) W) => ab_num (str [77, 65, 88]) v2 HB.out.c2 hF)
  have H3 := Lib.hid (fun (W : World) (hF : FSt w w1.heap.size (asArea a) (.slice (some ⟨tb, 0, none⟩) tn tk) W) => ab_num (str [65, 86, 69, 82, 65, 71, 69]) v3 HB.out.c3 hF)
  have H4 := Lib.hid (fun (W : World) (hF : FSt w w1.heap.size (asArea a) (.slice (some ⟨tb, 0, none⟩) tn tk) W) => ab_num (str [77, 69, 68, 73, 65, 78]) v4 HB.out.c4 hF)
  clear hf2 HA hv bw1 hnew
  generalize hn1 : GivenN v1 = n1 at *
  generalize hn2 : GivenN v2 = n2 at *
  generalize hn3 : GivenN v3 = n3 at *
  generalize hn4 : GivenN v4 = n4 at *
  generalize hb1 : isNum v1 = b1 at *
  generalize hb2 : isNum v2 = b2 at *
  generalize hb3 : isNum v3 = b3 at *
  generalize hb4 : isNum v4 = b4 at *
  have HNN := Lib.hid (And.intro hn1 (And.intro hn2 (And.intro hn3 hn4)))
  have HBB := Lib.hid (And.intro hb1 (And.intro hb2 (And.intro hb3 hb4)))
  clear hn1 hn2 hn3 hn4 hb1 hb2 hb3 hb4
  have h00 := H0.out _ HF2.out
  simp only [World.size_alloc] at h00
  dsimp only [GivenN, isNum] at h00
  have H00 := Lib.hid h00
  clear h00
  go_wp2_with fail
  refine H00.out.mono ?_
  rintro e w2 ⟨rfl, hF3⟩
  obtain ⟨f0, f1, f2, f3, fl⟩ := hF3.facts
  have HF3 := Lib.hid hF3
  clear hF3 HF2 H0 H00
  dsimp only [asArea] at f0 f1 f2 f3
  go_wp2_with fail
  refine (H1.out _ HF3.out).mono ?_
  rintro e w3 ⟨rfl, hF4⟩
  obtain ⟨g0, g1, g2, g3, gl⟩ := hF4.facts
  have HF4 := Lib.hid hF4
  clear hF4 HF3 H1 f0 f1 f2 f3 fl
  dsimp only [asArea] at g0 g1 g2 g3
  go_wp2_with fail
  refine (H2.out _ HF4.out).mono ?_
  rintro e w4 ⟨rfl, hF5⟩
  obtain ⟨f0, f1, f2, f3, fl⟩ := hF5.facts
  have HF5 := Lib.hid hF5
  clear hF5 HF4 H2 g0 g1 g2 g3 gl
  dsimp only [asArea] at f0 f1 f2 f3
  go_wp2_with fail
  refine (H3.out _ HF5.out).mono ?_
  rintro e w5 ⟨rfl, hF6⟩
  obtain ⟨g0, g1, g2, g3, gl⟩ := hF6.facts
  have HF6 := Lib.hid hF6
  clear hF6 HF5 H3 f0 f1 f2 f3 fl
  dsimp only [asArea] at g0 g1 g2 g3
  go_wp2_with fail
  refine (H4.out _ HF6.out).mono ?_
  rintro e w6 ⟨rfl, hF7⟩
  obtain ⟨f0, f1, f2, f3, fl⟩ := hF7.drew.facts
  have HF7 := Lib.hid hF7
  clear hF7 HF6 H4 g0 g1 g2 g3 gl
  dsimp only [asArea] at f0 f1 f2 f3
  have HAW := Lib.hid (fun (W : World) (he : EnvS W) => awake_any (w := W) he)
  by_cases hall : b1 = true ∧ b2 = true ∧ b3 = true ∧ b4 = true ∧ kk ≠ 0
  · obtain ⟨rfl, rfl, rfl, rfl, hk0⟩ := hall
    have hk2 : ((kk : Int) * 10000 == 0) = false := by simp; omega
    obtain ⟨lo, hi, q, m, rfl, rfl, rfl, rfl, m1, m2, m3, m4, hs1, hs2, hs3⟩ := HB.out.fine HBB.out.1 HBB.out.2.1 HBB.out.2.2.1 HBB.out.2.2.2 hk0
    obtain ⟨e1, e2, e3, e4⟩ := HNN.out
    dsimp only [GivenN] at e1 e2 e3 e4
    subst e1 e2 e3 e4
    have HON1 : Hid (∀ w, Calls Tryz.prog 12 #[.iface 43 (.int .i64 10000)] w fun e w' => ∃ g c, e = .returned (ArV ⟨1, 1, false, [.num (((1 : Nat) : Int) * 10000)]⟩ (.slice (some ⟨g, 0, none⟩) 1 c)) ∧ w.heap.size ≤ g ∧ VSl w'.heap.size w' (.slice (some ⟨g, 0, none⟩) 1 c) [.num (((1 : Nat) : Int) * 10000)] ∧ Below w.heap.size w w') := fun w => one_any (w := w) (.num (((1 : Nat) : Int) * 10000))
    have HONK : Hid (∀ w, Calls Tryz.prog 12 #[.iface 43 (.int .i64 ((kk : Int) * 10000))] w fun e w' => ∃ g c, e = .returned (ArV ⟨1, 1, false, [.num ((kk : Int) * 10000)]⟩ (.slice (some ⟨g, 0, none⟩) 1 c)) ∧ w.heap.size ≤ g ∧ VSl w'.heap.size w' (.slice (some ⟨g, 0, none⟩) 1 c) [.num ((kk : Int) * 10000)] ∧ Below w.heap.size w w') := fun w => one_any (w := w) (.num ((kk : Int) * 10000))
    have HS1 := Lib.hid (fun (W : World) (hF : FSt w w1.heap.size (asArea a) (.slice (some ⟨tb, 0, none⟩) tn tk) W) (og oc : Nat) (hO : VSl W.heap.size W (.slice (some ⟨og, 0, none⟩) 1 oc) [.num (((1 : Nat) : Int) * 10000)]) => ab_two (str [83, 77, 65, 76, 76]) (.num lo) 1 hs1 hF hO)
    have HS2 := Lib.hid (fun (W : World) (hF : FSt w w1.heap.size (asArea a) (.slice (some ⟨tb, 0, none⟩) tn tk) W) (og oc : Nat) (hO : VSl W.heap.size W (.slice (some ⟨og, 0, none⟩) 1 oc) [.num (((1 : Nat) : Int) * 10000)]) => ab_two (str [76, 65, 82, 71, 69]) (.num hi) 1 hs2 hF hO)
    have HS3 := Lib.hid (fun (W : World) (hF : FSt w w1.heap.size (asArea a) (.slice (some ⟨tb, 0, none⟩) tn tk) W) (og oc : Nat) (hO : VSl W.heap.size W (.slice (some ⟨og, 0, none⟩) 1 oc) [.num ((kk : Int) * 10000)]) => ab_two (str [83, 77, 65, 76, 76]) (.num hi) kk hs3 hF hO)
    clear hs1 hs2 hs3
    go_upto_region 12 with (fail)
    go_cut [14, 15] (fun av bv wx => av = .int .i64 lo ∧ bv = .bool true ∧ FSt w w1.heap.size (asArea a) (.slice (some ⟨tb, 0, none⟩) tn tk) wx)
    case first =>
      go_region_with (first
        | (go_at_call 12; refine (HON1.out _).mono ?_; rintro e w9 ⟨og, oc, rfl, hog, hov, b9⟩; have HF9 := Lib.hid (HF7.out.drew.next b9); have HOV := Lib.hid hov; obtain ⟨k0, k1, k2, k3, kl⟩ := HF9.out.facts; dsimp only [asArea] at k0 k1 k2 k3; unfold ArV; clear b9 hov)
        | (go_at_call 11; refine (HS1.out _ HF9.out og oc HOV.out).mono ?_; rintro e w10 ⟨rfl, hF10⟩; have HF10 := Lib.hid hF10; clear hF10))
      all_goals
        go_wp2_with fail
        go_meet
        case rel => exact ⟨rfl, rfl, HF10.out⟩
    case rest =>
      clear f0 f1 f2 f3 fl
      obtain ⟨rfl, rfl, hF⟩ := hcut
      obtain ⟨f0, f1, f2, f3, fl⟩ := hF.drew.facts
      have HF11 := Lib.hid hF
      dsimp only [asArea] at f0 f1 f2 f3
      clear hF
      go_upto_region 13 with (fail)
      go_cut [16, 17] (fun av bv wx => av = .int .i64 hi ∧ bv = .bool true ∧ FSt w w1.heap.size (asArea a) (.slice (some ⟨tb, 0, none⟩) tn tk) wx)
      case first =>
        go_region_with (first
          | (go_at_call 12; refine (HON1.out _).mono ?_; rintro e w9 ⟨og, oc, rfl, hog, hov, b9⟩; have HF9 := Lib.hid (HF11.out.drew.next b9); have HOV := Lib.hid hov; obtain ⟨k0, k1, k2, k3, kl⟩ := HF9.out.facts; dsimp only [asArea] at k0 k1 k2 k3; unfold ArV; clear b9 hov)
          | (go_at_call 11; refine (HS2.out _ HF9.out og oc HOV.out).mono ?_; rintro e w10 ⟨rfl, hF10⟩; have HF10 := Lib.hid hF10; clear hF10))
        all_goals
          go_wp2_with fail
          go_meet
          case rel => exact ⟨rfl, rfl, HF10.out⟩
      case rest =>
        clear f0 f1 f2 f3 fl
        obtain ⟨rfl, rfl, hF⟩ := hcut
        obtain ⟨f0, f1, f2, f3, fl⟩ := hF.drew.facts
        have HF12 := Lib.hid hF
        dsimp only [asArea] at f0 f1 f2 f3
        clear hF
        go_upto_region 14 with (fail)
        go_cut [18, 19] (fun av bv wx => av = .int .i64 hi ∧ bv = .bool true ∧ FSt w w1.heap.size (asArea a) (.slice (some ⟨tb, 0, none⟩) tn tk) wx)
        case first =>
          go_region_with (first
            | (go_at_call 12; refine (HONK.out _).mono ?_; rintro e w9 ⟨og, oc, rfl, hog, hov, b9⟩; have HF9 := Lib.hid (HF12.out.drew.next b9); have HOV := Lib.hid hov; obtain ⟨k0, k1, k2, k3, kl⟩ := HF9.out.facts; dsimp only [asArea] at k0 k1 k2 k3; unfold ArV; clear b9 hov)
            | (go_at_call 11; refine (HS3.out _ HF9.out og oc HOV.out).mono ?_; rintro e w10 ⟨rfl, hF10⟩; have HF10 := Lib.hid hF10; clear hF10))
          all_goals
            go_wp2_with fail
            go_meet
            case rel => exact ⟨rfl, rfl, HF10.out⟩
        case rest =>
          clear f0 f1 f2 f3 fl
          obtain ⟨rfl, rfl, hF⟩ := hcut
          have HF13 := Lib.hid hF
          have HA2 := Lib.hid (HAW.out _ hF.env)
          clear hF
          go_wp2_with fail
          refine HA2.out.mono ?_
          rintro e w20 ⟨rfl, b20⟩
          go_wp2
          go_ret
          exact ⟨rfl, HF13.out.bel.trans (b20.mono HF13.out.bel.size)⟩
  · have hc : (!b1 || !b2 || !b3 || !b4 || ((kk : Int) * 10000 == 0)) = true := by
      cases b1 <;> cases b2 <;> cases b3 <;> cases b4 <;> simp_all
    have HA2 := Lib.hid (HAW.out _ HF7.out.env)
    clear hall
    go_wp2_with fail
    all_goals first | (guard_target =~ Calls _ _ _ _ _; skip) | (exfalso; simp only [‹b1 = true›, ‹b2 = true›, ‹b3 = true›, ‹b4 = true›, ‹((kk : Int) * 10000 == 0) = false›] at hc; exact absurd hc (by decide))
    all_goals
      refine HA2.out.mono ?_
      rintro e w9 ⟨rfl, b9⟩
      go_wp2
      go_ret
      exact ⟨rfl, HF7.out.bel.trans (b9.mono HF7.out.bel.size)⟩
end Go.Proofs.YteelmbpmmobpjaaGreatDoor
