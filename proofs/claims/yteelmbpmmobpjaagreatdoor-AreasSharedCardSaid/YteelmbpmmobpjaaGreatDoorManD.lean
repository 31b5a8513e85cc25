/-
  Layer areas: functions of the numbers; their calls.
-/
import Derived.Test.YteelmbpmmobpjaaGreatDoorManC
namespace Go.Proofs.YteelmbpmmobpjaaGreatDoor
open Go.RowKit
open UK (str BytesAt nth Only Row Box)
def sumV (ds : List Int) : V := optV (sumO ds 0)
def sqV (ds : List Int) : V := optV (sqO ds 0)
def minV (ds : List Int) : V := .num (mnL ds)
def maxV (ds : List Int) : V := .num (mxL ds)
set_option maxHeartbeats 1000000 in
set_option maxRecDepth 100000 in
theorem many_sum {w : World} {t : Value} {ds : List Int} (h : DSl w t ds) (hl : ds.length ≤ 1000) (hg : ∀ d ∈ ds, DE.Good d) :
    Calls Tryz.prog 39 #[.string (str [83, 85, 77]), t] w fun e w' => e = .returned (sumV ds).val ∧ Below w.heap.size w w' := by
  have h1 := sum_any h (by omega) hg
  unfold SumR at h1
  have HS := Lib.hid h1
  have HC := Lib.hid (fun w => counted_opt (w := w) (sumO ds 0))
  unfold sumV
  obtain ⟨ao, c, rfl, _⟩ := h
  clear h1 hg
  generalize sumO ds 0 = ov at *
  generalize (optV ov).val = rv at *
  generalize ov.getD 0 = on at *
  generalize ov.isSome = ob at *
  go_enter Tryz.func39, Tryz.ntmps39
  go_wp2_with fail
  refine HS.out.mono ?_
  rintro e w1 ⟨rfl, rfl⟩
  go_wp2_with fail
  refine (HC.out _).mono ?_
  rintro e w1 ⟨rfl, rfl⟩
  go_wp2
  go_ret
  exact ⟨rfl, Below.refl _ _⟩
set_option maxHeartbeats 1000000 in
set_option maxRecDepth 100000 in
theorem many_sumsq {w : World} {t : Value} {ds : List Int} (h : DSl w t ds) (hl : ds.length ≤ 1000) (hg : ∀ d ∈ ds, DE.Good d) :
    Calls Tryz.prog 39 #[.string (str [83, 85, 77, 83, 81]), t] w fun e w' => e = .returned (sqV ds).val ∧ Below w.heap.size w w' := by
  have HS := Lib.hid (squares_any h (by omega) hg)
  have HC := Lib.hid (fun w => counted_opt (w := w) (sqO ds 0))
  unfold sqV
  obtain ⟨ao, c, rfl, _⟩ := h
  clear hg
  generalize sqO ds 0 = ov at *
  generalize (optV ov).val = rv at *
  generalize ov.getD 0 = on at *
  generalize ov.isSome = ob at *
  go_enter Tryz.func39, Tryz.ntmps39
  go_wp2_with fail
  refine HS.out.mono ?_
  rintro e w1 ⟨rfl, b1⟩
  have B1 := Lib.hid b1
  clear b1
  go_wp2_with fail
  refine (HC.out _).mono ?_
  rintro e w1 ⟨rfl, rfl⟩
  go_wp2
  go_ret
  exact ⟨rfl, B1.out⟩
set_option maxHeartbeats 1000000 in
set_option maxRecDepth 100000 in
theorem many_average {w : World} {t : Value} {ds : List Int} (h : DSl w t ds) (hl : ds.length ≤ 1000) (hg : ∀ d ∈ ds, DE.Good d) :
    Calls Tryz.prog 39 #[.string (str [65, 86, 69, 82, 65, 71, 69]), t] w fun e w' => e = .returned (meanV ds).val ∧ Below w.heap.size w w' := by
  have HS := Lib.hid (mean_any h hl hg)
  obtain ⟨ao, c, rfl, _⟩ := h
  clear hg
  generalize (meanV ds).val = rv at *
  go_enter Tryz.func39, Tryz.ntmps39
  go_wp2_with fail
  refine HS.out.mono ?_
  rintro e w1 ⟨rfl, b1⟩
  have B1 := Lib.hid b1
  clear b1
  go_wp2
  go_ret
  exact ⟨rfl, B1.out⟩
set_option maxHeartbeats 1000000 in
set_option maxRecDepth 100000 in
theorem many_median {w : World} {t : Value} {ds : List Int} (h : DSl w t ds) (hl : ds.length ≤ 1000) (hg : ∀ d ∈ ds, DE.Good d) :
    Calls Tryz.prog 39 #[.string (str [77, 69, 68, 73, 65, 78]), t] w fun e w' => e = .returned (medV ds).val ∧ Below w.heap.size w w' := by
  have HS := Lib.hid (median_any h hl hg)
  obtain ⟨ao, c, rfl, _⟩ := h
  clear hg
  generalize (medV ds).val = rv at *
  go_enter Tryz.func39, Tryz.ntmps39
  go_wp2_with fail
  refine HS.out.mono ?_
  rintro e w1 ⟨rfl, b1⟩
  have B1 := Lib.hid b1
  clear b1
  go_wp2
  go_ret
  exact ⟨rfl, B1.out⟩
set_option maxHeartbeats 1000000 in
set_option maxRecDepth 100000 in
theorem many_min {w : World} {t : Value} {ds : List Int} (h : DSl w t ds) (hl : ds.length ≤ 1000) (_hg : ∀ d ∈ ds, DE.Good d) :
    Calls Tryz.prog 39 #[.string (str [77, 73, 78]), t] w fun e w' => e = .returned (minV ds).val ∧ Below w.heap.size w w' := by
  have hd := h
  obtain ⟨ao, c, rfl, _⟩ := h
  unfold minV
  by_cases h0 : ds.length = 0
  · have hm : mnL ds = 0 := by rw [List.length_eq_zero_iff.1 h0]; rfl
    rw [hm, h0]
    clear hd hm
    unfold V.val
    go_enter Tryz.func39, Tryz.ntmps39
    go_wp2
    go_ret
    exact ⟨rfl, Below.refl _ _⟩
  · have HS := Lib.hid (min_any hd (by omega) (by omega))
    have hne : ((ds.length : Int) == 0) = false := by simpa using h0
    have hne2 : ¬ (ds.length : Int) = 0 := by omega
    clear hd
    generalize mnL ds = m at *
    unfold V.val
    go_enter Tryz.func39, Tryz.ntmps39
    go_wp2_with fail
    refine HS.out.mono ?_
    rintro e w1 ⟨rfl, rfl⟩
    go_wp2
    go_ret
    exact ⟨rfl, Below.refl _ _⟩
set_option maxHeartbeats 1000000 in
set_option maxRecDepth 100000 in
theorem many_max {w : World} {t : Value} {ds : List Int} (h : DSl w t ds) (hl : ds.length ≤ 1000) (_hg : ∀ d ∈ ds, DE.Good d) :
    Calls Tryz.prog 39 #[.string (str [77, 65, 88]), t] w fun e w' => e = .returned (maxV ds).val ∧ Below w.heap.size w w' := by
  have hd := h
  obtain ⟨ao, c, rfl, _⟩ := h
  unfold maxV
  by_cases h0 : ds.length = 0
  · have hm : mxL ds = 0 := by rw [List.length_eq_zero_iff.1 h0]; rfl
    rw [hm, h0]
    clear hd hm
    unfold V.val
    go_enter Tryz.func39, Tryz.ntmps39
    go_wp2
    go_ret
    exact ⟨rfl, Below.refl _ _⟩
  · have HS := Lib.hid (max_any hd (by omega) (by omega))
    have hne : ((ds.length : Int) == 0) = false := by simpa using h0
    have hne2 : ¬ (ds.length : Int) = 0 := by omega
    clear hd
    generalize mxL ds = m at *
    unfold V.val
    go_enter Tryz.func39, Tryz.ntmps39
    go_wp2_with fail
    refine HS.out.mono ?_
    rintro e w1 ⟨rfl, rfl⟩
    go_wp2
    go_ret
    exact ⟨rfl, Below.refl _ _⟩
theorem numsOf_good {l : List (V × Bool)} (h : ∀ x ∈ l, x.1.Ok) : ∀ d ∈ numsOf l, DE.Good d := by
  intro d hd
  unfold numsOf at hd
  obtain ⟨⟨v, area⟩, hx, he⟩ := List.mem_filterMap.1 hd
  have hv := h _ hx
  cases v with
  | num n => obtain rfl := Option.some.inj he; exact hv
  | _ => cases area <;> first | (obtain rfl := Option.some.inj he; exact numN_good _ hv) | cases he
theorem flat_ok {ars : List Ar} (h : ∀ a ∈ ars, a.vs.length ≤ 1000 ∧ ∀ v ∈ a.vs, v.Ok) : ∀ x ∈ flat ars, x.1.Ok := by
  intro x hx
  simp only [flat, flat1, List.mem_flatMap, List.mem_map] at hx
  obtain ⟨a, ha, v, hv, rfl⟩ := hx
  exact (h a ha).2 v hv
/-- what a function of the numbers comes to -/
def callV (f : List Int → V) (l : List (V × Bool)) : V := if firstF numFail l = 0 then f (numsOf l) else .fail (firstF numFail l)
set_option maxHeartbeats 4000000 in
set_option maxRecDepth 100000 in
theorem calls_sum {n : Nat} {w : World} {s : Value} {ars : List Ar} (h : ASl n w s ars) (h1 : 1 ≤ ars.length) (hl : ars.length ≤ 30) (hvl : ∀ a ∈ ars, a.vs.length ≤ 1000 ∧ ∀ v ∈ a.vs, v.Ok) (hn : n ≤ w.heap.size) (hk : (numsOf (flat ars)).length ≤ 1000) :
    Calls Tryz.prog 10 #[.string (str [83, 85, 77]), s] w fun e w' => e = .returned (callV sumV (flat ars)).val ∧ Below w.heap.size w w' := by
  have hgood := numsOf_good (flat_ok hvl)
  have HN := Lib.hid (fun W (hb : Below w.heap.size w W) => numbers_any (h.below (hb.mono hn)) (by omega) hvl (Nat.le_trans hn hb.size))
  have HM := Lib.hid (fun (W : World) (t : Value) (ht : DSl W t (numsOf (flat ars))) => many_sum ht hk hgood)
  obtain ⟨⟨gb, gc, rfl, hgb, hc⟩, hle⟩ := h
  obtain ⟨a, ha⟩ : ∃ a, ars[0]? = some a := ⟨ars[0], List.getElem?_eq_getElem h1⟩
  obtain ⟨ta, hta, c0, c1, c2, c3⟩ := hc 0 a ha
  obtain ⟨⟨vg, vc, rfl, hvg, _⟩, _⟩ := hta
  have HLE := Lib.hid (show gb < w.heap.size by omega)
  simp only [Nat.zero_mul, Nat.zero_add] at c0 c1 c2 c3
  have hb0 : Below w.heap.size w (w.alloc (.cells #[.int .i64 a.rows, .int .i64 a.cols, .bool a.area, .slice (some ⟨vg, 0, none⟩) a.vs.length vc] 27)) := (Below.refl _ _).alloc (Nat.le_refl _) _
  have HN1 := Lib.hid (HN.out _ hb0)
  have HB0 := Lib.hid hb0
  have hcv : callV sumV (flat ars) = if firstF numFail (flat ars) = 0 then sumV (numsOf (flat ars)) else .fail (firstF numFail (flat ars)) := rfl
  have i1 : ¬ (ars.length : Int) < 1 := by omega
  have i2 : ¬ 30 < (ars.length : Int) := by omega
  have i3 : 0 < (ars.length : Int) := by omega
  clear hc hgood hvg hvl hb0 HN ha h1 hl hk
  by_cases hf : firstF numFail (flat ars) = 0
  · rw [if_pos hf] at hcv
    rw [hcv]
    rw [hf] at HN1
    clear hcv hf
    generalize (sumV (numsOf (flat ars))).val = rv at *
    go_enter Tryz.func10, Tryz.ntmps10
    go_wp2_with (first | (go_at_call 21; go_in))
    refine HN1.out.mono ?_
    rintro e w1 ⟨⟨t, ds, rfl, hd, he⟩, b1⟩
    obtain rfl := he trivial
    have HD := Lib.hid (HM.out w1 t hd)
    have HB1 := Lib.hid (HB0.out.trans (b1.mono HB0.out.size))
    clear hd he b1 HM
    go_wp2_with fail
    refine HD.out.mono ?_
    rintro e w2 ⟨rfl, b2⟩
    go_wp2
    go_ret
    exact ⟨rfl, HB1.out.trans (b2.mono HB1.out.size)⟩
  · rw [if_neg hf] at hcv
    rw [hcv]
    clear hcv HM
    generalize firstF numFail (flat ars) = fl at *
    have hf2 : (fl == 0) = false := by simpa using hf
    unfold V.val
    go_enter Tryz.func10, Tryz.ntmps10
    go_wp2_with (first | (go_at_call 21; go_in))
    refine HN1.out.mono ?_
    rintro e w1 ⟨⟨t, ds, rfl, hd, he⟩, b1⟩
    have HB1 := Lib.hid (HB0.out.trans (b1.mono HB0.out.size))
    clear hd he b1
    go_wp2
    go_ret
    exact ⟨rfl, HB1.out⟩
set_option maxHeartbeats 4000000 in
set_option maxRecDepth 100000 in
theorem calls_average {n : Nat} {w : World} {s : Value} {ars : List Ar} (h : ASl n w s ars) (h1 : 1 ≤ ars.length) (hl : ars.length ≤ 30) (hvl : ∀ a ∈ ars, a.vs.length ≤ 1000 ∧ ∀ v ∈ a.vs, v.Ok) (hn : n ≤ w.heap.size) (hk : (numsOf (flat ars)).length ≤ 1000) :
    Calls Tryz.prog 10 #[.string (str [65, 86, 69, 82, 65, 71, 69]), s] w fun e w' => e = .returned (callV meanV (flat ars)).val ∧ Below w.heap.size w w' := by
  have hgood := numsOf_good (flat_ok hvl)
  have HN := Lib.hid (fun W (hb : Below w.heap.size w W) => numbers_any (h.below (hb.mono hn)) (by omega) hvl (Nat.le_trans hn hb.size))
  have HM := Lib.hid (fun (W : World) (t : Value) (ht : DSl W t (numsOf (flat ars))) => many_average ht hk hgood)
  obtain ⟨⟨gb, gc, rfl, hgb, hc⟩, hle⟩ := h
  obtain ⟨a, ha⟩ : ∃ a, ars[0]? = some a := ⟨ars[0], List.getElem?_eq_getElem h1⟩
  obtain ⟨ta, hta, c0, c1, c2, c3⟩ := hc 0 a ha
  obtain ⟨⟨vg, vc, rfl, hvg, _⟩, _⟩ := hta
  have HLE := Lib.hid (show gb < w.heap.size by omega)
  simp only [Nat.zero_mul, Nat.zero_add] at c0 c1 c2 c3
  have hb0 : Below w.heap.size w (w.alloc (.cells #[.int .i64 a.rows, .int .i64 a.cols, .bool a.area, .slice (some ⟨vg, 0, none⟩) a.vs.length vc] 27)) := (Below.refl _ _).alloc (Nat.le_refl _) _
  have HN1 := Lib.hid (HN.out _ hb0)
  have HB0 := Lib.hid hb0
  have hcv : callV meanV (flat ars) = if firstF numFail (flat ars) = 0 then meanV (numsOf (flat ars)) else .fail (firstF numFail (flat ars)) := rfl
  have i1 : ¬ (ars.length : Int) < 1 := by omega
  have i2 : ¬ 30 < (ars.length : Int) := by omega
  have i3 : 0 < (ars.length : Int) := by omega
  clear hc hgood hvg hvl hb0 HN ha h1 hl hk
  by_cases hf : firstF numFail (flat ars) = 0
  · rw [if_pos hf] at hcv
    rw [hcv]
    rw [hf] at HN1
    clear hcv hf
    generalize (meanV (numsOf (flat ars))).val = rv at *
    go_enter Tryz.func10, Tryz.ntmps10
    go_wp2_with (first | (go_at_call 21; go_in))
    refine HN1.out.mono ?_
    rintro e w1 ⟨⟨t, ds, rfl, hd, he⟩, b1⟩
    obtain rfl := he trivial
    have HD := Lib.hid (HM.out w1 t hd)
    have HB1 := Lib.hid (HB0.out.trans (b1.mono HB0.out.size))
    clear hd he b1 HM
    go_wp2_with fail
    refine HD.out.mono ?_
    rintro e w2 ⟨rfl, b2⟩
    go_wp2
    go_ret
    exact ⟨rfl, HB1.out.trans (b2.mono HB1.out.size)⟩
  · rw [if_neg hf] at hcv
    rw [hcv]
    clear hcv HM
    generalize firstF numFail (flat ars) = fl at *
    have hf2 : (fl == 0) = false := by simpa using hf
    unfold V.val
    go_enter Tryz.func10, Tryz.ntmps10
    go_wp2_with (first | (go_at_call 21; go_in))
    refine HN1.out.mono ?_
    rintro e w1 ⟨⟨t, ds, rfl, hd, he⟩, b1⟩
    have HB1 := Lib.hid (HB0.out.trans (b1.mono HB0.out.size))
    clear hd he b1
    go_wp2
    go_ret
    exact ⟨rfl, HB1.out⟩
set_option maxHeartbeats 4000000 in
set_option maxRecDepth 100000 in
theorem calls_sumsq {n : Nat} {w : World} {s : Value} {ars : List Ar} (h : ASl n w s ars) (h1 : 1 ≤ ars.length) (hl : ars.length ≤ 30) (hvl : ∀ a ∈ ars, a.vs.length ≤ 1000 ∧ ∀ v ∈ a.vs, v.Ok) (hn : n ≤ w.heap.size) (hk : (numsOf (flat ars)).length ≤ 1000) :
    Calls Tryz.prog 10 #[.string (str [83, 85, 77, 83, 81]), s] w fun e w' => e = .returned (callV sqV (flat ars)).val ∧ Below w.heap.size w w' := by
  have hgood := numsOf_good (flat_ok hvl)
  have HN := Lib.hid (fun W (hb : Below w.heap.size w W) => numbers_any (h.below (hb.mono hn)) (by omega) hvl (Nat.le_trans hn hb.size))
  have HM := Lib.hid (fun (W : World) (t : Value) (ht : DSl W t (numsOf (flat ars))) => many_sumsq ht hk hgood)
  obtain ⟨⟨gb, gc, rfl, hgb, hc⟩, hle⟩ := h
  obtain ⟨a, ha⟩ : ∃ a, ars[0]? = some a := ⟨ars[0], List.getElem?_eq_getElem h1⟩
  obtain ⟨ta, hta, c0, c1, c2, c3⟩ := hc 0 a ha
  obtain ⟨⟨vg, vc, rfl, hvg, _⟩, _⟩ := hta
  have HLE := Lib.hid (show gb < w.heap.size by omega)
  simp only [Nat.zero_mul, Nat.zero_add] at c0 c1 c2 c3
  have hb0 : Below w.heap.size w (w.alloc (.cells #[.int .i64 a.rows, .int .i64 a.cols, .bool a.area, .slice (some ⟨vg, 0, none⟩) a.vs.length vc] 27)) := (Below.refl _ _).alloc (Nat.le_refl _) _
  have HN1 := Lib.hid (HN.out _ hb0)
  have HB0 := Lib.hid hb0
  have hcv : callV sqV (flat ars) = if firstF numFail (flat ars) = 0 then sqV (numsOf (flat ars)) else .fail (firstF numFail (flat ars)) := rfl
  have i1 : ¬ (ars.length : Int) < 1 := by omega
  have i2 : ¬ 30 < (ars.length : Int) := by omega
  have i3 : 0 < (ars.length : Int) := by omega
  clear hc hgood hvg hvl hb0 HN ha h1 hl hk
  by_cases hf : firstF numFail (flat ars) = 0
  · rw [if_pos hf] at hcv
    rw [hcv]
    rw [hf] at HN1
    clear hcv hf
    generalize (sqV (numsOf (flat ars))).val = rv at *
    go_enter Tryz.func10, Tryz.ntmps10
    go_wp2_with (first | (go_at_call 21; go_in))
    refine HN1.out.mono ?_
    rintro e w1 ⟨⟨t, ds, rfl, hd, he⟩, b1⟩
    obtain rfl := he trivial
    have HD := Lib.hid (HM.out w1 t hd)
    have HB1 := Lib.hid (HB0.out.trans (b1.mono HB0.out.size))
    clear hd he b1 HM
    go_wp2_with fail
    refine HD.out.mono ?_
    rintro e w2 ⟨rfl, b2⟩
    go_wp2
    go_ret
    exact ⟨rfl, HB1.out.trans (b2.mono HB1.out.size)⟩
  · rw [if_neg hf] at hcv
    rw [hcv]
    clear hcv HM
    generalize firstF numFail (flat ars) = fl at *
    have hf2 : (fl == 0) = false := by simpa using hf
    unfold V.val
    go_enter Tryz.func10, Tryz.ntmps10
    go_wp2_with (first | (go_at_call 21; go_in))
    refine HN1.out.mono ?_
    rintro e w1 ⟨⟨t, ds, rfl, hd, he⟩, b1⟩
    have HB1 := Lib.hid (HB0.out.trans (b1.mono HB0.out.size))
    clear hd he b1
    go_wp2
    go_ret
    exact ⟨rfl, HB1.out⟩
set_option maxHeartbeats 4000000 in
set_option maxRecDepth 100000 in
theorem calls_median {n : Nat} {w : World} {s : Value} {ars : List Ar} (h : ASl n w s ars) (h1 : 1 ≤ ars.length) (hl : ars.length ≤ 30) (hvl : ∀ a ∈ ars, a.vs.length ≤ 1000 ∧ ∀ v ∈ a.vs, v.Ok) (hn : n ≤ w.heap.size) (hk : (numsOf (flat ars)).length ≤ 1000) :
    Calls Tryz.prog 10 #[.string (str [77, 69, 68, 73, 65, 78]), s] w fun e w' => e = .returned (callV medV (flat ars)).val ∧ Below w.heap.size w w' := by
  have hgood := numsOf_good (flat_ok hvl)
  have HN := Lib.hid (fun W (hb : Below w.heap.size w W) => numbers_any (h.below (hb.mono hn)) (by omega) hvl (Nat.le_trans hn hb.size))
  have HM := Lib.hid (fun (W : World) (t : Value) (ht : DSl W t (numsOf (flat ars))) => many_median ht hk hgood)
  obtain ⟨⟨gb, gc, rfl, hgb, hc⟩, hle⟩ := h
  obtain ⟨a, ha⟩ : ∃ a, ars[0]? = some a := ⟨ars[0], List.getElem?_eq_getElem h1⟩
  obtain ⟨ta, hta, c0, c1, c2, c3⟩ := hc 0 a ha
  obtain ⟨⟨vg, vc, rfl, hvg, _⟩, _⟩ := hta
  have HLE := Lib.hid (show gb < w.heap.size by omega)
  simp only [Nat.zero_mul, Nat.zero_add] at c0 c1 c2 c3
  have hb0 : Below w.heap.size w (w.alloc (.cells #[.int .i64 a.rows, .int .i64 a.cols, .bool a.area, .slice (some ⟨vg, 0, none⟩) a.vs.length vc] 27)) := (Below.refl _ _).alloc (Nat.le_refl _) _
  have HN1 := Lib.hid (HN.out _ hb0)
  have HB0 := Lib.hid hb0
  have hcv : callV medV (flat ars) = if firstF numFail (flat ars) = 0 then medV (numsOf (flat ars)) else .fail (firstF numFail (flat ars)) := rfl
  have i1 : ¬ (ars.length : Int) < 1 := by omega
  have i2 : ¬ 30 < (ars.length : Int) := by omega
  have i3 : 0 < (ars.length : Int) := by omega
  clear hc hgood hvg hvl hb0 HN ha h1 hl hk
  by_cases hf : firstF numFail (flat ars) = 0
  · rw [if_pos hf] at hcv
    rw [hcv]
    rw [hf] at HN1
    clear hcv hf
    generalize (medV (numsOf (flat ars))).val = rv at *
    go_enter Tryz.func10, Tryz.ntmps10
    go_wp2_with (first | (go_at_call 21; go_in))
    refine HN1.out.mono ?_
    rintro e w1 ⟨⟨t, ds, rfl, hd, he⟩, b1⟩
    obtain rfl := he trivial
    have HD := Lib.hid (HM.out w1 t hd)
    have HB1 := Lib.hid (HB0.out.trans (b1.mono HB0.out.size))
    clear hd he b1 HM
    go_wp2_with fail
    refine HD.out.mono ?_
    rintro e w2 ⟨rfl, b2⟩
    go_wp2
    go_ret
    exact ⟨rfl, HB1.out.trans (b2.mono HB1.out.size)⟩
  · rw [if_neg hf] at hcv
    rw [hcv]
    clear hcv HM
    generalize firstF numFail (flat ars) = fl at *
    have hf2 : (fl == 0) = false := by simpa using hf
    unfold V.val
    go_enter Tryz.func10, Tryz.ntmps10
    go_wp2_with (first | (go_at_call 21; go_in))
    refine HN1.out.mono ?_
    rintro e w1 ⟨⟨t, ds, rfl, hd, he⟩, b1⟩
    have HB1 := Lib.hid (HB0.out.trans (b1.mono HB0.out.size))
    clear hd he b1
    go_wp2
    go_ret
    exact ⟨rfl, HB1.out⟩
set_option maxHeartbeats 4000000 in
set_option maxRecDepth 100000 in
theorem calls_min {n : Nat} {w : World} {s : Value} {ars : List Ar} (h : ASl n w s ars) (h1 : 1 ≤ ars.length) (hl : ars.length ≤ 30) (hvl : ∀ a ∈ ars, a.vs.length ≤ 1000 ∧ ∀ v ∈ a.vs, v.Ok) (hn : n ≤ w.heap.size) (hk : (numsOf (flat ars)).length ≤ 1000) :
    Calls Tryz.prog 10 #[.string (str [77, 73, 78]), s] w fun e w' => e = .returned (callV minV (flat ars)).val ∧ Below w.heap.size w w' := by
  have hgood := numsOf_good (flat_ok hvl)
  have HN := Lib.hid (fun W (hb : Below w.heap.size w W) => numbers_any (h.below (hb.mono hn)) (by omega) hvl (Nat.le_trans hn hb.size))
  have HM := Lib.hid (fun (W : World) (t : Value) (ht : DSl W t (numsOf (flat ars))) => many_min ht hk hgood)
  obtain ⟨⟨gb, gc, rfl, hgb, hc⟩, hle⟩ := h
  obtain ⟨a, ha⟩ : ∃ a, ars[0]? = some a := ⟨ars[0], List.getElem?_eq_getElem h1⟩
  obtain ⟨ta, hta, c0, c1, c2, c3⟩ := hc 0 a ha
  obtain ⟨⟨vg, vc, rfl, hvg, _⟩, _⟩ := hta
  have HLE := Lib.hid (show gb < w.heap.size by omega)
  simp only [Nat.zero_mul, Nat.zero_add] at c0 c1 c2 c3
  have hb0 : Below w.heap.size w (w.alloc (.cells #[.int .i64 a.rows, .int .i64 a.cols, .bool a.area, .slice (some ⟨vg, 0, none⟩) a.vs.length vc] 27)) := (Below.refl _ _).alloc (Nat.le_refl _) _
  have HN1 := Lib.hid (HN.out _ hb0)
  have HB0 := Lib.hid hb0
  have hcv : callV minV (flat ars) = if firstF numFail (flat ars) = 0 then minV (numsOf (flat ars)) else .fail (firstF numFail (flat ars)) := rfl
  have i1 : ¬ (ars.length : Int) < 1 := by omega
  have i2 : ¬ 30 < (ars.length : Int) := by omega
  have i3 : 0 < (ars.length : Int) := by omega
  clear hc hgood hvg hvl hb0 HN ha h1 hl hk
  by_cases hf : firstF numFail (flat ars) = 0
  · rw [if_pos hf] at hcv
    rw [hcv]
    rw [hf] at HN1
    clear hcv hf
    generalize (minV (numsOf (flat ars))).val = rv at *
    go_enter Tryz.func10, Tryz.ntmps10
    go_wp2_with (first | (go_at_call 21; go_in))
    refine HN1.out.mono ?_
    rintro e w1 ⟨⟨t, ds, rfl, hd, he⟩, b1⟩
    obtain rfl := he trivial
    have HD := Lib.hid (HM.out w1 t hd)
    have HB1 := Lib.hid (HB0.out.trans (b1.mono HB0.out.size))
    clear hd he b1 HM
    go_wp2_with fail
    refine HD.out.mono ?_
    rintro e w2 ⟨rfl, b2⟩
    go_wp2
    go_ret
    exact ⟨rfl, HB1.out.trans (b2.mono HB1.out.size)⟩
  · rw [if_neg hf] at hcv
    rw [hcv]
    clear hcv HM
    generalize firstF numFail (flat ars) = fl at *
    have hf2 : (fl == 0) = false := by simpa using hf
    unfold V.val
    go_enter Tryz.func10, Tryz.ntmps10
    go_wp2_with (first | (go_at_call 21; go_in))
    refine HN1.out.mono ?_
    rintro e w1 ⟨⟨t, ds, rfl, hd, he⟩, b1⟩
    have HB1 := Lib.hid (HB0.out.trans (b1.mono HB0.out.size))
    clear hd he b1
    go_wp2
    go_ret
    exact ⟨rfl, HB1.out⟩
set_option maxHeartbeats 4000000 in
set_option maxRecDepth 100000 in
theorem calls_max {n : Nat} {w : World} {s : Value} {ars : List Ar} (h : ASl n w s ars) (h1 : 1 ≤ ars.length) (hl : ars.length ≤ 30) (hvl : ∀ a ∈ ars, a.vs.length ≤ 1000 ∧ ∀ v ∈ a.vs, v.Ok) (hn : n ≤ w.heap.size) (hk : (numsOf (flat ars)).length ≤ 1000) :
    Calls Tryz.prog 10 #[.string (str [77, 65, 88]), s] w fun e w' => e = .returned (callV maxV (flat ars)).val ∧ Below w.heap.size w w' := by
  have hgood := numsOf_good (flat_ok hvl)
  have HN := Lib.hid (fun W (hb : Below w.heap.size w W) => numbers_any (h.below (hb.mono hn)) (by omega) hvl (Nat.le_trans hn hb.size))
  have HM := Lib.hid (fun (W : World) (t : Value) (ht : DSl W t (numsOf (flat ars))) => many_max ht hk hgood)
  obtain ⟨⟨gb, gc, rfl, hgb, hc⟩, hle⟩ := h
  obtain ⟨a, ha⟩ : ∃ a, ars[0]? = some a := ⟨ars[0], List.getElem?_eq_getElem h1⟩
  obtain ⟨ta, hta, c0, c1, c2, c3⟩ := hc 0 a ha
  obtain ⟨⟨vg, vc, rfl, hvg, _⟩, _⟩ := hta
  have HLE := Lib.hid (show gb < w.heap.size by omega)
  simp only [Nat.zero_mul, Nat.zero_add] at c0 c1 c2 c3
  have hb0 : Below w.heap.size w (w.alloc (.cells #[.int .i64 a.rows, .int .i64 a.cols, .bool a.area, .slice (some ⟨vg, 0, none⟩) a.vs.length vc] 27)) := (Below.refl _ _).alloc (Nat.le_refl _) _
  have HN1 := Lib.hid (HN.out _ hb0)
  have HB0 := Lib.hid hb0
  have hcv : callV maxV (flat ars) = if firstF numFail (flat ars) = 0 then maxV (numsOf (flat ars)) else .fail (firstF numFail (flat ars)) := rfl
  have i1 : ¬ (ars.length : Int) < 1 := by omega
  have i2 : ¬ 30 < (ars.length : Int) := by omega
  have i3 : 0 < (ars.length : Int) := by omega
  clear hc hgood hvg hvl hb0 HN ha h1 hl hk
  by_cases hf : firstF numFail (flat ars) = 0
  · rw [if_pos hf] at hcv
    rw [hcv]
    rw [hf] at HN1
    clear hcv hf
    generalize (maxV (numsOf (flat ars))).val = rv at *
    go_enter Tryz.func10, Tryz.ntmps10
    go_wp2_with (first | (go_at_call 21; go_in))
    refine HN1.out.mono ?_
    rintro e w1 ⟨⟨t, ds, rfl, hd, he⟩, b1⟩
    obtain rfl := he trivial
    have HD := Lib.hid (HM.out w1 t hd)
    have HB1 := Lib.hid (HB0.out.trans (b1.mono HB0.out.size))
    clear hd he b1 HM
    go_wp2_with fail
    refine HD.out.mono ?_
    rintro e w2 ⟨rfl, b2⟩
    go_wp2
    go_ret
    exact ⟨rfl, HB1.out.trans (b2.mono HB1.out.size)⟩
  · rw [if_neg hf] at hcv
    rw [hcv]
    clear hcv HM
    generalize firstF numFail (flat ars) = fl at *
    have hf2 : (fl == 0) = false := by simpa using hf
    unfold V.val
    go_enter Tryz.func10, Tryz.ntmps10
    go_wp2_with (first | (go_at_call 21; go_in))
    refine HN1.out.mono ?_
    rintro e w1 ⟨⟨t, ds, rfl, hd, he⟩, b1⟩
    have HB1 := Lib.hid (HB0.out.trans (b1.mono HB0.out.size))
    clear hd he b1
    go_wp2
    go_ret
    exact ⟨rfl, HB1.out⟩
set_option maxHeartbeats 4000000 in
set_option maxRecDepth 100000 in
theorem calls_count {n : Nat} {w : World} {s : Value} {ars : List Ar} (h : ASl n w s ars) (h1 : 1 ≤ ars.length) (hl : ars.length ≤ 30) (hvl : ∀ a ∈ ars, a.vs.length ≤ 1000) (har : ∀ a ∈ ars, a.area = true) (hn : n ≤ w.heap.size) :
    Calls Tryz.prog 10 #[.string (str [67, 79, 85, 78, 84]), s] w fun e w' => e = .returned (V.val (.num ((cntF isNum (flat ars) : Int) * 10000))) ∧ Below w.heap.size w w' := by
  have HN := Lib.hid (fun W (hb : Below w.heap.size w W) => counts_count (h.below (hb.mono hn)) (by omega) hvl har (Nat.le_trans hn hb.size))
  obtain ⟨⟨gb, gc, rfl, hgb, hc⟩, hle⟩ := h
  obtain ⟨a, ha⟩ : ∃ a, ars[0]? = some a := ⟨ars[0], List.getElem?_eq_getElem h1⟩
  obtain ⟨ta, hta, c0, c1, c2, c3⟩ := hc 0 a ha
  obtain ⟨⟨vg, vc, rfl, hvg, _⟩, _⟩ := hta
  have HLE := Lib.hid (show gb < w.heap.size by omega)
  simp only [Nat.zero_mul, Nat.zero_add] at c0 c1 c2 c3
  have hb0 : Below w.heap.size w (w.alloc (.cells #[.int .i64 a.rows, .int .i64 a.cols, .bool a.area, .slice (some ⟨vg, 0, none⟩) a.vs.length vc] 27)) := (Below.refl _ _).alloc (Nat.le_refl _) _
  have HN1 := Lib.hid (HN.out _ hb0)
  have HB0 := Lib.hid hb0
  have i1 : ¬ (ars.length : Int) < 1 := by omega
  have i2 : ¬ 30 < (ars.length : Int) := by omega
  have i3 : 0 < (ars.length : Int) := by omega
  clear hc hvg hvl hb0 HN ha h1 hl har
  generalize V.val (.num ((cntF isNum (flat ars) : Int) * 10000)) = rv at *
  go_enter Tryz.func10, Tryz.ntmps10
  go_wp2_with (first | (go_at_call 21; go_in))
  refine HN1.out.mono ?_
  rintro e w1 ⟨rfl, b1⟩
  go_wp2
  go_ret
  exact ⟨rfl, HB0.out.trans (b1.mono HB0.out.size)⟩
set_option maxHeartbeats 4000000 in
set_option maxRecDepth 100000 in
theorem calls_counta {n : Nat} {w : World} {s : Value} {ars : List Ar} (h : ASl n w s ars) (h1 : 1 ≤ ars.length) (hl : ars.length ≤ 30) (hvl : ∀ a ∈ ars, a.vs.length ≤ 1000) (har : ∀ a ∈ ars, a.area = true) (hn : n ≤ w.heap.size) :
    Calls Tryz.prog 10 #[.string (str [67, 79, 85, 78, 84, 65]), s] w fun e w' => e = .returned (V.val (.num ((cntF (fun v => !isBlank v) (flat ars) : Int) * 10000))) ∧ Below w.heap.size w w' := by
  have HN := Lib.hid (fun W (hb : Below w.heap.size w W) => counts_counta (h.below (hb.mono hn)) (by omega) hvl har (Nat.le_trans hn hb.size))
  obtain ⟨⟨gb, gc, rfl, hgb, hc⟩, hle⟩ := h
  obtain ⟨a, ha⟩ : ∃ a, ars[0]? = some a := ⟨ars[0], List.getElem?_eq_getElem h1⟩
  obtain ⟨ta, hta, c0, c1, c2, c3⟩ := hc 0 a ha
  obtain ⟨⟨vg, vc, rfl, hvg, _⟩, _⟩ := hta
  have HLE := Lib.hid (show gb < w.heap.size by omega)
  simp only [Nat.zero_mul, Nat.zero_add] at c0 c1 c2 c3
  have hb0 : Below w.heap.size w (w.alloc (.cells #[.int .i64 a.rows, .int .i64 a.cols, .bool a.area, .slice (some ⟨vg, 0, none⟩) a.vs.length vc] 27)) := (Below.refl _ _).alloc (Nat.le_refl _) _
  have HN1 := Lib.hid (HN.out _ hb0)
  have HB0 := Lib.hid hb0
  have i1 : ¬ (ars.length : Int) < 1 := by omega
  have i2 : ¬ 30 < (ars.length : Int) := by omega
  have i3 : 0 < (ars.length : Int) := by omega
  clear hc hvg hvl hb0 HN ha h1 hl har
  generalize V.val (.num ((cntF (fun v => !isBlank v) (flat ars) : Int) * 10000)) = rv at *
  go_enter Tryz.func10, Tryz.ntmps10
  go_wp2_with (first | (go_at_call 21; go_in))
  refine HN1.out.mono ?_
  rintro e w1 ⟨rfl, b1⟩
  go_wp2
  go_ret
  exact ⟨rfl, HB0.out.trans (b1.mono HB0.out.size)⟩
end Go.Proofs.YteelmbpmmobpjaaGreatDoor
