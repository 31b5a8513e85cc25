/-
  CheckSums, walked: it returns true, in every world in which the table's cells hold what the program's text lays there.
-/
import Derived.Test.YtpbnghkjbkjllaaDoorLawCheck
namespace Go.Proofs.YtpbnghkjbkjllaaDoor
open Go.RowKit
open UK (str)
open Go.BigFrame
theorem put_zero_u32 (W : World) (m : List UInt8) (h : m.length = 4) :
    Calls Tryd.prog 10 #[.int .u32 (getL m).toNat] W fun e w' => e = .returned (.string (str m)) ∧ Below W.heap.size W w' := by
  have := rput_any (getL m) W
  rwa [put_get m h] at this
set_option maxRecDepth 100000 in
set_option maxHeartbeats 800000 in
theorem sums_big_four (u : UInt32) (l m : List UInt8) (c : Int) (w : World) (ht : TabAt w) (hm : l.take 600 = m) (hl : m.length ≤ 600) (hcl : c ≤ 9223372036854775807) (hcs : -9223372036854775808 ≤ c) (hc : 300 < c) (h4 : m.length = 4) :
    Calls Tryd.prog 6 #[.int .u32 u.toNat, .string (str l), .int .i64 c] w fun e w' => e = .returned (.bool true) ∧ Below w.heap.size w w' := by
  have HM := Lib.hid hm
  clear hm
  have HG : Hid (∀ W, Calls Tryd.prog 16 #[.string (str m)] W fun e w' => e = .returned (.tuple #[.int .u32 (getL m).toNat, .bool true]) ∧ ∃ n, w' = W.drewN n) := fun W => get_four m W h4
  have H4 := Lib.hid h4
  clear h4
  go_enter Tryd.func6, Tryd.ntmps6
  go_wp2_with fail
  refine (cut_any _ _ _ (by decide)).mono ?_
  rintro e w' ⟨rfl, rfl⟩
  rw [show (600 : Int).toNat = 600 from rfl, HM.out]
  go_wp2_with fail
  go_loop [7, 8] (fun z i => ∃ k : Nat, (k : Int) ≤ max 0 (min c 300) ∧ i = .int .i64 k ∧ z = .string (str (List.replicate k 0))) (fun _ i => 300 - (intOf i).toNat)
  case atStart => exact ⟨0, by omega, rfl, rfl⟩
  case round =>
    obtain ⟨k, hk, rfl, rfl⟩ := hrel
    by_cases h1 : (k : Int) < c
    · by_cases h2 : (k : Int) < 300
      · have hn : ¬ (List.replicate k (0 : UInt8)).length + 1 > 9223372036854775807 := by rw [List.length_replicate]; omega
        have hr := List.replicate_succ' (n := k) (a := (0 : UInt8))
        have HR := Lib.hid hr
        generalize List.replicate k (0 : UInt8) = z at hn HR ⊢
        clear hr
        go_wp2
        go_round
        case rel => exact ⟨k + 1, by omega, by go_num, by rw [HR.out]⟩
        case measure => simp [intOf]; omega
      · have hk3 : k = 300 := by omega
        have HC : Hid (List.replicate k (0 : UInt8) = List.replicate (300 : Int).toNat 0) := by show _ = _; rw [hk3]; rfl
        have hz : (List.replicate k (0 : UInt8)).length ≤ 300 := by rw [List.length_replicate]; omega
        generalize List.replicate k (0 : UInt8) = z at HC hz ⊢
        clear hk3 hk
        have ht0 := ht
        go_wp2_with fail
        refine (HG.out _).mono ?_
        rintro e w' ⟨rfl, n1, rfl⟩
        go_wp2_with fail
        refine (put_any u _).mono ?_
        rintro e w1 ⟨rfl, hb1⟩
        go_wp2_with fail
        refine (get_four (putL u) _ rfl).mono ?_
        rintro e w' ⟨rfl, n2, rfl⟩
        rw [get_put]
        have hb2 : Below w.heap.size w (w1.drewN n2) := belowN ((belowN (Below.refl _ _) n1).trans hb1) n2
        generalize w1.drewN n2 = wb at hb2 ⊢
        have ht3 := ht.below hb2
        go_wp2_with fail
        have HX1 := Lib.hid (fun W (h : Below wb.heap.size wb W) => awake3_any W (ht3.below h))
        have HX2 := Lib.hid (fun W (h : Below wb.heap.size wb W) => add_any u m W (ht3.below h) (by unfold maxLen; omega))
        have HX3 : Hid (∀ W, Calls Tryd.prog 11 #[.int .u32 u.toNat, .string (str m)] W fun e w' => e = .returned (.int .u32 (addU u m).toNat) ∧ W = w') := fun W => by
          have := radd_any u m W (by unfold maxLen; omega)
          rwa [radd_add] at this
        have HX4 := Lib.hid (fun W (h : Below wb.heap.size wb W) => sum_any m W (ht3.below h) (by unfold maxLen; omega))
        have HX5 := Lib.hid (fun W => radd_zero m W (by unfold maxLen; omega))
        have HX6 : Hid (∀ W (_ : Below wb.heap.size wb W), Calls Tryd.prog 18 #[.int .u32 u.toNat, .int .i64 300] W fun e w' => e = .returned (.int .u32 (addU u z).toNat) ∧ W = w') := fun W h => by
          have := zeros_any u 300 W (ht3.below h) (by omega) (by omega)
          rwa [← HC.out] at this
        have HX7 : Hid (∀ W, Calls Tryd.prog 11 #[.int .u32 u.toNat, .string (str z)] W fun e w' => e = .returned (.int .u32 (addU u z).toNat) ∧ W = w') := fun W => by
          have := radd_any u z W (by unfold maxLen; omega)
          rwa [radd_add] at this
        refine (HX1.out _ (Below.refl _ _)).mono ?_
        rintro e w4 ⟨rfl, hb4⟩
        go_wp2_with fail
        refine (HX2.out _ hb4).mono ?_
        rintro e w' ⟨rfl, rfl⟩
        go_wp2_with fail
        refine (HX3.out _).mono ?_
        rintro e w' ⟨rfl, rfl⟩
        go_wp2_with fail
        refine (HX4.out _ hb4).mono ?_
        rintro e w' ⟨rfl, rfl⟩
        go_wp2_with fail
        refine (HX5.out _).mono ?_
        rintro e w' ⟨rfl, rfl⟩
        go_wp2_with fail
        refine (HX6.out _ hb4).mono ?_
        rintro e w' ⟨rfl, rfl⟩
        go_wp2_with fail
        refine (HX7.out _).mono ?_
        rintro e w' ⟨rfl, rfl⟩
        go_wp2_with fail
        refine (put_any u _).mono ?_
        rintro e w5 ⟨rfl, hb5⟩
        go_wp2_with fail
        refine (rput_any u _).mono ?_
        rintro e w3 ⟨rfl, hb6⟩
        have hb3 : Below wb.heap.size wb w3 := hb4.trans ((hb5.mono hb4.size).trans (hb6.mono (Nat.le_trans hb4.size hb5.size)))
        have h5 : ((m.length : Int) == 4) = true := by rw [beq_iff_eq]; have := H4.out; omega
        go_wp2_with fail
        refine (put_zero_u32 _ m H4.out).mono ?_
        rintro e w7 ⟨rfl, hb7⟩
        go_wp2
        go_ret
        exact ⟨by simp, hb2.trans ((hb3.mono hb2.size).trans (hb7.mono (Nat.le_trans hb2.size hb3.size)))⟩
    · exfalso; omega
set_option maxRecDepth 100000 in
set_option maxHeartbeats 800000 in
theorem sums_big_other (u : UInt32) (l m : List UInt8) (c : Int) (w : World) (ht : TabAt w) (hm : l.take 600 = m) (hl : m.length ≤ 600) (hcl : c ≤ 9223372036854775807) (hcs : -9223372036854775808 ≤ c) (hc : 300 < c) (h4 : m.length ≠ 4) :
    Calls Tryd.prog 6 #[.int .u32 u.toNat, .string (str l), .int .i64 c] w fun e w' => e = .returned (.bool true) ∧ Below w.heap.size w w' := by
  have HM := Lib.hid hm
  clear hm
  have HG : Hid (∀ W, Calls Tryd.prog 16 #[.string (str m)] W fun e w' => e = .returned (.tuple #[.int .u32 0, .bool false]) ∧ ∃ n, w' = W.drewN n) := fun W => (get_other m W h4).mono fun e w' ⟨he, hw⟩ => ⟨he, 0, by rw [← hw]; rfl⟩
  have H4 := Lib.hid h4
  clear h4
  go_enter Tryd.func6, Tryd.ntmps6
  go_wp2_with fail
  refine (cut_any _ _ _ (by decide)).mono ?_
  rintro e w' ⟨rfl, rfl⟩
  rw [show (600 : Int).toNat = 600 from rfl, HM.out]
  go_wp2_with fail
  go_loop [7, 8] (fun z i => ∃ k : Nat, (k : Int) ≤ max 0 (min c 300) ∧ i = .int .i64 k ∧ z = .string (str (List.replicate k 0))) (fun _ i => 300 - (intOf i).toNat)
  case atStart => exact ⟨0, by omega, rfl, rfl⟩
  case round =>
    obtain ⟨k, hk, rfl, rfl⟩ := hrel
    by_cases h1 : (k : Int) < c
    · by_cases h2 : (k : Int) < 300
      · have hn : ¬ (List.replicate k (0 : UInt8)).length + 1 > 9223372036854775807 := by rw [List.length_replicate]; omega
        have hr := List.replicate_succ' (n := k) (a := (0 : UInt8))
        have HR := Lib.hid hr
        generalize List.replicate k (0 : UInt8) = z at hn HR ⊢
        clear hr
        go_wp2
        go_round
        case rel => exact ⟨k + 1, by omega, by go_num, by rw [HR.out]⟩
        case measure => simp [intOf]; omega
      · have hk3 : k = 300 := by omega
        have HC : Hid (List.replicate k (0 : UInt8) = List.replicate (300 : Int).toNat 0) := by show _ = _; rw [hk3]; rfl
        have hz : (List.replicate k (0 : UInt8)).length ≤ 300 := by rw [List.length_replicate]; omega
        generalize List.replicate k (0 : UInt8) = z at HC hz ⊢
        clear hk3 hk
        have ht0 := ht
        go_wp2_with fail
        refine (HG.out _).mono ?_
        rintro e w' ⟨rfl, n1, rfl⟩
        go_wp2_with fail
        refine (put_any u _).mono ?_
        rintro e w1 ⟨rfl, hb1⟩
        go_wp2_with fail
        refine (get_four (putL u) _ rfl).mono ?_
        rintro e w' ⟨rfl, n2, rfl⟩
        rw [get_put]
        have hb2 : Below w.heap.size w (w1.drewN n2) := belowN ((belowN (Below.refl _ _) n1).trans hb1) n2
        generalize w1.drewN n2 = wb at hb2 ⊢
        have ht3 := ht.below hb2
        go_wp2_with fail
        have HX1 := Lib.hid (fun W (h : Below wb.heap.size wb W) => awake3_any W (ht3.below h))
        have HX2 := Lib.hid (fun W (h : Below wb.heap.size wb W) => add_any u m W (ht3.below h) (by unfold maxLen; omega))
        have HX3 : Hid (∀ W, Calls Tryd.prog 11 #[.int .u32 u.toNat, .string (str m)] W fun e w' => e = .returned (.int .u32 (addU u m).toNat) ∧ W = w') := fun W => by
          have := radd_any u m W (by unfold maxLen; omega)
          rwa [radd_add] at this
        have HX4 := Lib.hid (fun W (h : Below wb.heap.size wb W) => sum_any m W (ht3.below h) (by unfold maxLen; omega))
        have HX5 := Lib.hid (fun W => radd_zero m W (by unfold maxLen; omega))
        have HX6 : Hid (∀ W (_ : Below wb.heap.size wb W), Calls Tryd.prog 18 #[.int .u32 u.toNat, .int .i64 300] W fun e w' => e = .returned (.int .u32 (addU u z).toNat) ∧ W = w') := fun W h => by
          have := zeros_any u 300 W (ht3.below h) (by omega) (by omega)
          rwa [← HC.out] at this
        have HX7 : Hid (∀ W, Calls Tryd.prog 11 #[.int .u32 u.toNat, .string (str z)] W fun e w' => e = .returned (.int .u32 (addU u z).toNat) ∧ W = w') := fun W => by
          have := radd_any u z W (by unfold maxLen; omega)
          rwa [radd_add] at this
        refine (HX1.out _ (Below.refl _ _)).mono ?_
        rintro e w4 ⟨rfl, hb4⟩
        go_wp2_with fail
        refine (HX2.out _ hb4).mono ?_
        rintro e w' ⟨rfl, rfl⟩
        go_wp2_with fail
        refine (HX3.out _).mono ?_
        rintro e w' ⟨rfl, rfl⟩
        go_wp2_with fail
        refine (HX4.out _ hb4).mono ?_
        rintro e w' ⟨rfl, rfl⟩
        go_wp2_with fail
        refine (HX5.out _).mono ?_
        rintro e w' ⟨rfl, rfl⟩
        go_wp2_with fail
        refine (HX6.out _ hb4).mono ?_
        rintro e w' ⟨rfl, rfl⟩
        go_wp2_with fail
        refine (HX7.out _).mono ?_
        rintro e w' ⟨rfl, rfl⟩
        go_wp2_with fail
        refine (put_any u _).mono ?_
        rintro e w5 ⟨rfl, hb5⟩
        go_wp2_with fail
        refine (rput_any u _).mono ?_
        rintro e w3 ⟨rfl, hb6⟩
        have hb3 : Below wb.heap.size wb w3 := hb4.trans ((hb5.mono hb4.size).trans (hb6.mono (Nat.le_trans hb4.size hb5.size)))
        have h5 : ((m.length : Int) == 4) = false := by rw [beq_eq_false_iff_ne]; have := H4.out; omega
        go_wp2
        go_ret
        exact ⟨by simp, hb2.trans (hb3.mono hb2.size)⟩
    · exfalso; omega
set_option maxRecDepth 100000 in
set_option maxHeartbeats 800000 in
theorem sums_small_four (u : UInt32) (l m : List UInt8) (c : Int) (w : World) (ht : TabAt w) (hm : l.take 600 = m) (hl : m.length ≤ 600) (hcl : c ≤ 9223372036854775807) (hcs : -9223372036854775808 ≤ c) (hc : ¬ 300 < c) (h4 : m.length = 4) :
    Calls Tryd.prog 6 #[.int .u32 u.toNat, .string (str l), .int .i64 c] w fun e w' => e = .returned (.bool true) ∧ Below w.heap.size w w' := by
  have HM := Lib.hid hm
  clear hm
  have HG : Hid (∀ W, Calls Tryd.prog 16 #[.string (str m)] W fun e w' => e = .returned (.tuple #[.int .u32 (getL m).toNat, .bool true]) ∧ ∃ n, w' = W.drewN n) := fun W => get_four m W h4
  have H4 := Lib.hid h4
  clear h4
  go_enter Tryd.func6, Tryd.ntmps6
  go_wp2_with fail
  refine (cut_any _ _ _ (by decide)).mono ?_
  rintro e w' ⟨rfl, rfl⟩
  rw [show (600 : Int).toNat = 600 from rfl, HM.out]
  go_wp2_with fail
  go_loop [7, 8] (fun z i => ∃ k : Nat, (k : Int) ≤ max 0 (min c 300) ∧ i = .int .i64 k ∧ z = .string (str (List.replicate k 0))) (fun _ i => 300 - (intOf i).toNat)
  case atStart => exact ⟨0, by omega, rfl, rfl⟩
  case round =>
    obtain ⟨k, hk, rfl, rfl⟩ := hrel
    by_cases h1 : (k : Int) < c
    · by_cases h2 : (k : Int) < 300
      · have hn : ¬ (List.replicate k (0 : UInt8)).length + 1 > 9223372036854775807 := by rw [List.length_replicate]; omega
        have hr := List.replicate_succ' (n := k) (a := (0 : UInt8))
        have HR := Lib.hid hr
        generalize List.replicate k (0 : UInt8) = z at hn HR ⊢
        clear hr
        go_wp2
        go_round
        case rel => exact ⟨k + 1, by omega, by go_num, by rw [HR.out]⟩
        case measure => simp [intOf]; omega
      · exfalso; omega
    · have hk3 : k = c.toNat := by omega
      have HC : Hid (List.replicate k (0 : UInt8) = List.replicate c.toNat 0) := by show _ = _; rw [hk3]
      have hz : (List.replicate k (0 : UInt8)).length ≤ 300 := by rw [List.length_replicate]; omega
      generalize List.replicate k (0 : UInt8) = z at HC hz ⊢
      clear hk3 hk
      have ht0 := ht
      go_wp2_with fail
      refine (HG.out _).mono ?_
      rintro e w' ⟨rfl, n1, rfl⟩
      go_wp2_with fail
      refine (put_any u _).mono ?_
      rintro e w1 ⟨rfl, hb1⟩
      go_wp2_with fail
      refine (get_four (putL u) _ rfl).mono ?_
      rintro e w' ⟨rfl, n2, rfl⟩
      rw [get_put]
      have hb2 : Below w.heap.size w (w1.drewN n2) := belowN ((belowN (Below.refl _ _) n1).trans hb1) n2
      generalize w1.drewN n2 = wb at hb2 ⊢
      have ht3 := ht.below hb2
      go_wp2_with fail
      have HX1 := Lib.hid (fun W (h : Below wb.heap.size wb W) => awake3_any W (ht3.below h))
      have HX2 := Lib.hid (fun W (h : Below wb.heap.size wb W) => add_any u m W (ht3.below h) (by unfold maxLen; omega))
      have HX3 : Hid (∀ W, Calls Tryd.prog 11 #[.int .u32 u.toNat, .string (str m)] W fun e w' => e = .returned (.int .u32 (addU u m).toNat) ∧ W = w') := fun W => by
        have := radd_any u m W (by unfold maxLen; omega)
        rwa [radd_add] at this
      have HX4 := Lib.hid (fun W (h : Below wb.heap.size wb W) => sum_any m W (ht3.below h) (by unfold maxLen; omega))
      have HX5 := Lib.hid (fun W => radd_zero m W (by unfold maxLen; omega))
      have HX6 : Hid (∀ W (_ : Below wb.heap.size wb W), Calls Tryd.prog 18 #[.int .u32 u.toNat, .int .i64 c] W fun e w' => e = .returned (.int .u32 (addU u z).toNat) ∧ W = w') := fun W h => by
        have := zeros_any u c W (ht3.below h) (by omega) (by omega)
        rwa [← HC.out] at this
      have HX7 : Hid (∀ W, Calls Tryd.prog 11 #[.int .u32 u.toNat, .string (str z)] W fun e w' => e = .returned (.int .u32 (addU u z).toNat) ∧ W = w') := fun W => by
        have := radd_any u z W (by unfold maxLen; omega)
        rwa [radd_add] at this
      refine (HX1.out _ (Below.refl _ _)).mono ?_
      rintro e w4 ⟨rfl, hb4⟩
      go_wp2_with fail
      refine (HX2.out _ hb4).mono ?_
      rintro e w' ⟨rfl, rfl⟩
      go_wp2_with fail
      refine (HX3.out _).mono ?_
      rintro e w' ⟨rfl, rfl⟩
      go_wp2_with fail
      refine (HX4.out _ hb4).mono ?_
      rintro e w' ⟨rfl, rfl⟩
      go_wp2_with fail
      refine (HX5.out _).mono ?_
      rintro e w' ⟨rfl, rfl⟩
      go_wp2_with fail
      refine (HX6.out _ hb4).mono ?_
      rintro e w' ⟨rfl, rfl⟩
      go_wp2_with fail
      refine (HX7.out _).mono ?_
      rintro e w' ⟨rfl, rfl⟩
      go_wp2_with fail
      refine (put_any u _).mono ?_
      rintro e w5 ⟨rfl, hb5⟩
      go_wp2_with fail
      refine (rput_any u _).mono ?_
      rintro e w3 ⟨rfl, hb6⟩
      have hb3 : Below wb.heap.size wb w3 := hb4.trans ((hb5.mono hb4.size).trans (hb6.mono (Nat.le_trans hb4.size hb5.size)))
      have h5 : ((m.length : Int) == 4) = true := by rw [beq_iff_eq]; have := H4.out; omega
      go_wp2_with fail
      refine (put_zero_u32 _ m H4.out).mono ?_
      rintro e w7 ⟨rfl, hb7⟩
      go_wp2
      go_ret
      exact ⟨by simp, hb2.trans ((hb3.mono hb2.size).trans (hb7.mono (Nat.le_trans hb2.size hb3.size)))⟩
set_option maxRecDepth 100000 in
set_option maxHeartbeats 800000 in
theorem sums_small_other (u : UInt32) (l m : List UInt8) (c : Int) (w : World) (ht : TabAt w) (hm : l.take 600 = m) (hl : m.length ≤ 600) (hcl : c ≤ 9223372036854775807) (hcs : -9223372036854775808 ≤ c) (hc : ¬ 300 < c) (h4 : m.length ≠ 4) :
    Calls Tryd.prog 6 #[.int .u32 u.toNat, .string (str l), .int .i64 c] w fun e w' => e = .returned (.bool true) ∧ Below w.heap.size w w' := by
  have HM := Lib.hid hm
  clear hm
  have HG : Hid (∀ W, Calls Tryd.prog 16 #[.string (str m)] W fun e w' => e = .returned (.tuple #[.int .u32 0, .bool false]) ∧ ∃ n, w' = W.drewN n) := fun W => (get_other m W h4).mono fun e w' ⟨he, hw⟩ => ⟨he, 0, by rw [← hw]; rfl⟩
  have H4 := Lib.hid h4
  clear h4
  go_enter Tryd.func6, Tryd.ntmps6
  go_wp2_with fail
  refine (cut_any _ _ _ (by decide)).mono ?_
  rintro e w' ⟨rfl, rfl⟩
  rw [show (600 : Int).toNat = 600 from rfl, HM.out]
  go_wp2_with fail
  go_loop [7, 8] (fun z i => ∃ k : Nat, (k : Int) ≤ max 0 (min c 300) ∧ i = .int .i64 k ∧ z = .string (str (List.replicate k 0))) (fun _ i => 300 - (intOf i).toNat)
  case atStart => exact ⟨0, by omega, rfl, rfl⟩
  case round =>
    obtain ⟨k, hk, rfl, rfl⟩ := hrel
    by_cases h1 : (k : Int) < c
    · by_cases h2 : (k : Int) < 300
      · have hn : ¬ (List.replicate k (0 : UInt8)).length + 1 > 9223372036854775807 := by rw [List.length_replicate]; omega
        have hr := List.replicate_succ' (n := k) (a := (0 : UInt8))
        have HR := Lib.hid hr
        generalize List.replicate k (0 : UInt8) = z at hn HR ⊢
        clear hr
        go_wp2
        go_round
        case rel => exact ⟨k + 1, by omega, by go_num, by rw [HR.out]⟩
        case measure => simp [intOf]; omega
      · exfalso; omega
    · have hk3 : k = c.toNat := by omega
      have HC : Hid (List.replicate k (0 : UInt8) = List.replicate c.toNat 0) := by show _ = _; rw [hk3]
      have hz : (List.replicate k (0 : UInt8)).length ≤ 300 := by rw [List.length_replicate]; omega
      generalize List.replicate k (0 : UInt8) = z at HC hz ⊢
      clear hk3 hk
      have ht0 := ht
      go_wp2_with fail
      refine (HG.out _).mono ?_
      rintro e w' ⟨rfl, n1, rfl⟩
      go_wp2_with fail
      refine (put_any u _).mono ?_
      rintro e w1 ⟨rfl, hb1⟩
      go_wp2_with fail
      refine (get_four (putL u) _ rfl).mono ?_
      rintro e w' ⟨rfl, n2, rfl⟩
      rw [get_put]
      have hb2 : Below w.heap.size w (w1.drewN n2) := belowN ((belowN (Below.refl _ _) n1).trans hb1) n2
      generalize w1.drewN n2 = wb at hb2 ⊢
      have ht3 := ht.below hb2
      go_wp2_with fail
      have HX1 := Lib.hid (fun W (h : Below wb.heap.size wb W) => awake3_any W (ht3.below h))
      have HX2 := Lib.hid (fun W (h : Below wb.heap.size wb W) => add_any u m W (ht3.below h) (by unfold maxLen; omega))
      have HX3 : Hid (∀ W, Calls Tryd.prog 11 #[.int .u32 u.toNat, .string (str m)] W fun e w' => e = .returned (.int .u32 (addU u m).toNat) ∧ W = w') := fun W => by
        have := radd_any u m W (by unfold maxLen; omega)
        rwa [radd_add] at this
      have HX4 := Lib.hid (fun W (h : Below wb.heap.size wb W) => sum_any m W (ht3.below h) (by unfold maxLen; omega))
      have HX5 := Lib.hid (fun W => radd_zero m W (by unfold maxLen; omega))
      have HX6 : Hid (∀ W (_ : Below wb.heap.size wb W), Calls Tryd.prog 18 #[.int .u32 u.toNat, .int .i64 c] W fun e w' => e = .returned (.int .u32 (addU u z).toNat) ∧ W = w') := fun W h => by
        have := zeros_any u c W (ht3.below h) (by omega) (by omega)
        rwa [← HC.out] at this
      have HX7 : Hid (∀ W, Calls Tryd.prog 11 #[.int .u32 u.toNat, .string (str z)] W fun e w' => e = .returned (.int .u32 (addU u z).toNat) ∧ W = w') := fun W => by
        have := radd_any u z W (by unfold maxLen; omega)
        rwa [radd_add] at this
      refine (HX1.out _ (Below.refl _ _)).mono ?_
      rintro e w4 ⟨rfl, hb4⟩
      go_wp2_with fail
      refine (HX2.out _ hb4).mono ?_
      rintro e w' ⟨rfl, rfl⟩
      go_wp2_with fail
      refine (HX3.out _).mono ?_
      rintro e w' ⟨rfl, rfl⟩
      go_wp2_with fail
      refine (HX4.out _ hb4).mono ?_
      rintro e w' ⟨rfl, rfl⟩
      go_wp2_with fail
      refine (HX5.out _).mono ?_
      rintro e w' ⟨rfl, rfl⟩
      go_wp2_with fail
      refine (HX6.out _ hb4).mono ?_
      rintro e w' ⟨rfl, rfl⟩
      go_wp2_with fail
      refine (HX7.out _).mono ?_
      rintro e w' ⟨rfl, rfl⟩
      go_wp2_with fail
      refine (put_any u _).mono ?_
      rintro e w5 ⟨rfl, hb5⟩
      go_wp2_with fail
      refine (rput_any u _).mono ?_
      rintro e w3 ⟨rfl, hb6⟩
      have hb3 : Below wb.heap.size wb w3 := hb4.trans ((hb5.mono hb4.size).trans (hb6.mono (Nat.le_trans hb4.size hb5.size)))
      have h5 : ((m.length : Int) == 4) = false := by rw [beq_eq_false_iff_ne]; have := H4.out; omega
      go_wp2
      go_ret
      exact ⟨by simp, hb2.trans (hb3.mono hb2.size)⟩
theorem sums_walk (W : World) (ht : TabAt W) (a : Int) (ha : (Lit.int .u32 a).wf = true) (s : ByteArray) (n : Int) (hn : (Lit.int .i64 n).wf = true) :
    Calls Tryd.prog 6 #[.int .u32 a, .string s, .int .i64 n] W fun e w' => e = .returned (.bool true) ∧ Below W.heap.size W w' := by
  rw [UK.str_self s]
  obtain ⟨u, rfl⟩ := u32_of_wf ha
  obtain ⟨h1, h2⟩ := i64_of_wf hn
  have hl : (s.data.toList.take 600).length ≤ 600 := by rw [List.length_take]; exact Nat.min_le_left _ _
  by_cases hc : 300 < n
  · by_cases h4 : (s.data.toList.take 600).length = 4
    · exact sums_big_four u _ _ n W ht rfl hl h2 h1 hc h4
    · exact sums_big_other u _ _ n W ht rfl hl h2 h1 hc h4
  · by_cases h4 : (s.data.toList.take 600).length = 4
    · exact sums_small_four u _ _ n W ht rfl hl h2 h1 hc h4
    · exact sums_small_other u _ _ n W ht rfl hl h2 h1 hc h4
end Go.Proofs.YtpbnghkjbkjllaaDoor
