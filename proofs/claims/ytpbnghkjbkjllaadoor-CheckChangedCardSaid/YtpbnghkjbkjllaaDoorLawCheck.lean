/-
  The laws of layer 3 (check), walked: awake, CheckOpens: each returns true, in every world in which the table's cells hold what the program's text lays there.
-/
import Derived.Test.YtpbnghkjbkjllaaDoorCrc
import Derived.Deep.RegionWith
import Derived.Deep.DeepCutAuto
namespace Go.Proofs.YtpbnghkjbkjllaaDoor
open Go.RowKit
open UK (str)
open Go.BigFrame
theorem open_any (l : List UInt8) (w : World) (ht : TabAt w) (hs : l.length ≤ maxLen) :
    Calls Tryd.prog 9 #[.string (str l)] w fun e w' => e = .returned (.tuple #[.string (str (opened l)), .bool (openB l)]) ∧ ∃ n, w' = w.drewN n := by
  by_cases h : l.length < 4
  · exact open_short l w h
  · exact open_long l w ht hs (by omega)
theorem open_yes (l m : List UInt8) (w : World) (ht : TabAt w) (hs : l.length ≤ maxLen) (h : openB l = true) (hm : opened l = m) :
    Calls Tryd.prog 9 #[.string (str l)] w fun e w' => e = .returned (.tuple #[.string (str m), .bool true]) ∧ ∃ n, w' = w.drewN n := by
  have := open_any l w ht hs
  rwa [h, hm] at this
theorem open_no (l : List UInt8) (w : World) (ht : TabAt w) (hs : l.length ≤ maxLen) (h : openB l = false) :
    Calls Tryd.prog 9 #[.string (str l)] w fun e w' => e = .returned (.tuple #[.string (str []), .bool false]) ∧ ∃ n, w' = w.drewN n := by
  have := open_any l w ht hs
  have hm : opened l = [] := by unfold opened; rw [h]; rfl
  rwa [h, hm] at this
theorem sum_nine (w : World) (ht : TabAt w) :
    Calls Tryd.prog 15 #[.string (str [49, 50, 51, 52, 53, 54, 55, 56, 57])] w fun e w' => e = .returned (.int .u32 3808858755) ∧ w = w' := by
  have h := sum_any [49, 50, 51, 52, 53, 54, 55, 56, 57] w ht (by decide)
  have e : (addU 0 [49, 50, 51, 52, 53, 54, 55, 56, 57]).toNat = 3808858755 := by decide +kernel
  rwa [e] at h
theorem sum_none (w : World) (ht : TabAt w) :
    Calls Tryd.prog 15 #[.string (str [])] w fun e w' => e = .returned (.int .u32 0) ∧ w = w' := by
  have h := sum_any [] w ht (by decide)
  have e : (addU 0 []).toNat = 0 := by decide +kernel
  rwa [e] at h
theorem awake3_any (w : World) (ht : TabAt w) :
    Calls Tryd.prog 12 #[] w fun e w' => e = .returned (.bool true) ∧ Below w.heap.size w w' := by
  go_enter Tryd.func12, Tryd.ntmps12
  go_wp2_with fail
  refine (seal_any [97, 98] _ ht (by decide)).mono ?_
  rintro e w' ⟨rfl, hb⟩
  have hb2 := ht.below hb
  go_wp2_with fail
  refine (open_yes _ [97, 98] _ hb2 (by decide) (open_seal [97, 98]).1 (open_seal [97, 98]).2).mono ?_
  rintro e w' ⟨rfl, n, rfl⟩
  go_wp2_with fail
  refine (sum_nine _ (hb2.drewN n)).mono ?_
  rintro e w' ⟨rfl, rfl⟩
  go_wp2_with fail
  refine (sum_none _ (hb2.drewN n)).mono ?_
  rintro e w' ⟨rfl, rfl⟩
  go_wp2
  go_ret
  exact ⟨rfl, belowN hb n⟩
/-- is a text one that was sealed? as the document's words have it -/
def wantB (l : List UInt8) : Bool := decide (4 ≤ l.length) && (l.drop (l.length - 4) == putL (addU 0 (l.take (l.length - 4))))
theorem want_open (l : List UInt8) : wantB l = openB l := by
  unfold wantB openB
  rw [Bool.eq_iff_iff]
  simp only [Bool.and_eq_true, decide_eq_true_eq, beq_iff_eq]
  constructor
  · rintro ⟨h, e⟩
    exact ⟨h, by rw [e, get_put]⟩
  · rintro ⟨h, e⟩
    exact ⟨h, by rw [← e, put_get _ (by rw [List.length_drop]; omega)]⟩
theorem radd_zero (l : List UInt8) (w : World) (hs : l.length ≤ maxLen) :
    Calls Tryd.prog 11 #[.int .u32 0, .string (str l)] w fun e w' => e = .returned (.int .u32 (addU 0 l).toNat) ∧ w = w' := by
  have := radd_any 0 l w hs
  rwa [radd_add] at this
theorem opens_yes (l m : List UInt8) (w : World) (ht : TabAt w) (hm : l.take 600 = m) (hl : m.length ≤ 600) (h4 : 4 ≤ m.length) (ho : openB m = true) :
    Calls Tryd.prog 3 #[.string (str l)] w fun e w' => e = .returned (.bool true) ∧ Below w.heap.size w w' := by
  have hw : m.drop (m.length - 4) = putL (addU 0 (m.take (m.length - 4))) := by
    have h := ho
    rw [← want_open] at h
    unfold wantB at h
    simpa [h4] using h
  have HW := Lib.hid hw
  have HO := Lib.hid ho
  have HM := Lib.hid hm
  clear hw ho hm
  have h4' : (4 : Int) ≤ m.length := by omega
  go_enter Tryd.func3, Tryd.ntmps3
  go_wp2_with fail
  refine (cut_any _ _ _ (by decide)).mono ?_
  rintro e w' ⟨rfl, rfl⟩
  rw [show (600 : Int).toNat = 600 from rfl, HM.out]
  go_wp2_with fail
  refine (open_yes m (m.take (m.length - 4)) _ ht (by unfold maxLen; omega) HO.out (by unfold opened; rw [HO.out]; rfl)).mono ?_
  rintro e w' ⟨rfl, n, rfl⟩
  go_wp2_with fail
  refine UK.wp_region_kept (fun w' => Below w.heap.size w w') (by kernel_rfl) (by kernel_rfl) ((belowN (Below.refl _ _) n).drew) ?_
  haveI := UK.kept_some w
  have HX1 := Lib.hid (fun W => radd_zero (m.take (m.length - 4)) W (by unfold maxLen; rw [List.length_take]; omega))
  have HX2 := Lib.hid (fun W => rput_any (addU 0 (m.take (m.length - 4))) W)
  have hq : (m.drop (m.length - 4) == putL (addU 0 (m.take (m.length - 4)))) = true := by rw [HW.out]; exact beq_self_eq_true _
  repeat (go_big_quiet_step (first | exact UK.kept_same (HX1.out _) (UK.Kept.h _) | exact UK.kept_below (HX2.out _) (UK.Kept.h _)))
  refine wpQuiet_nil ?_
  rintro ⟨w1, hb1⟩
  have ht1 := ht.below hb1
  have HS : Hid (m.take (m.length - 4) ++ putL (addU 0 (m.take (m.length - 4))) = m) := by
    show _ = _
    rw [← HW.out, List.take_append_drop]
  go_wp2_with fail
  refine (awake3_any _ ht1).mono ?_
  rintro e w2 ⟨rfl, hb2⟩
  have ht2 := ht1.below hb2
  go_wp2_with fail
  refine (seal_any (m.take (m.length - 4)) _ ht2 (by rw [List.length_take]; omega)).mono ?_
  rintro e w3 ⟨rfl, hb3⟩
  rw [HS.out]
  go_wp2
  go_ret
  exact ⟨by simp, hb1.trans ((hb2.mono hb1.size).trans (hb3.mono (Nat.le_trans hb1.size hb2.size)))⟩
theorem opens_no (l m : List UInt8) (w : World) (ht : TabAt w) (hm : l.take 600 = m) (hl : m.length ≤ 600) (ho : openB m = false) :
    Calls Tryd.prog 3 #[.string (str l)] w fun e w' => e = .returned (.bool true) ∧ Below w.heap.size w w' := by
  have hw : wantB m = false := by rw [want_open]; exact ho
  have HW := Lib.hid hw
  have HO := Lib.hid ho
  have HM := Lib.hid hm
  clear hw ho hm
  haveI := UK.kept_some w
  have HX1 := Lib.hid (fun W => radd_zero (m.take (m.length - 4)) W (by unfold maxLen; rw [List.length_take]; omega))
  have HX2 := Lib.hid (fun W => rput_any (addU 0 (m.take (m.length - 4))) W)
  have HX3 := Lib.hid (fun W => radd_zero m W (by unfold maxLen; omega))
  have HX4 := Lib.hid (fun W => rput_any (addU 0 m) W)
  by_cases h4 : 4 ≤ m.length
  · have hq : (m.drop (m.length - 4) == putL (addU 0 (m.take (m.length - 4)))) = false := by
      have h := HW.out
      unfold wantB at h
      simpa only [h4, decide_true, Bool.true_and] using h
    have h4' : (4 : Int) ≤ m.length := by omega
    go_enter Tryd.func3, Tryd.ntmps3
    go_wp2_with fail
    refine (cut_any _ _ _ (by decide)).mono ?_
    rintro e w' ⟨rfl, rfl⟩
    rw [show (600 : Int).toNat = 600 from rfl, HM.out]
    go_wp2_with fail
    refine (open_no m _ ht (by unfold maxLen; omega) HO.out).mono ?_
    rintro e w' ⟨rfl, n, rfl⟩
    go_wp2_with fail
    refine UK.wp_region_kept (fun w' => Below w.heap.size w w') (by kernel_rfl) (by kernel_rfl) ((belowN (Below.refl _ _) n).drew) ?_
    repeat (go_big_quiet_step (first | exact UK.kept_same (HX1.out _) (UK.Kept.h _) | exact UK.kept_below (HX2.out _) (UK.Kept.h _)))
    refine wpQuiet_nil ?_
    rintro ⟨w1, hb1⟩
    have ht1 := ht.below hb1
    go_wp2_with fail
    refine (awake3_any _ ht1).mono ?_
    rintro e w2 ⟨rfl, hb2⟩
    have ht2 := ht1.below hb2
    go_wp2_with fail
    refine (seal_any m _ ht2 (by omega)).mono ?_
    rintro e w3 ⟨rfl, hb3⟩
    go_wp2_with fail
    refine (HX3.out _).mono ?_
    rintro e w' ⟨rfl, rfl⟩
    go_wp2_with fail
    refine (HX4.out _).mono ?_
    rintro e w4 ⟨rfl, hb4⟩
    have hln : ¬ m.length + (putL (addU 0 m)).length > 9223372036854775807 := by rw [show (putL (addU 0 m)).length = 4 from rfl]; omega
    go_wp2
    go_ret
    exact ⟨by simp, hb1.trans ((hb2.mono hb1.size).trans ((hb3.mono (Nat.le_trans hb1.size hb2.size)).trans (hb4.mono (Nat.le_trans (Nat.le_trans hb1.size hb2.size) hb3.size))))⟩
  · have h4' : (m.length : Int) < 4 := by omega
    have h5 : decide ((4 : Int) ≤ m.length) = false := by rw [decide_eq_false_iff_not]; omega
    go_enter Tryd.func3, Tryd.ntmps3
    go_wp2_with fail
    refine (cut_any _ _ _ (by decide)).mono ?_
    rintro e w' ⟨rfl, rfl⟩
    rw [show (600 : Int).toNat = 600 from rfl, HM.out]
    go_wp2_with fail
    refine (open_no m _ ht (by unfold maxLen; omega) HO.out).mono ?_
    rintro e w' ⟨rfl, n, rfl⟩
    go_wp2_with fail
    refine UK.wp_region_kept (fun w' => Below w.heap.size w w') (by kernel_rfl) (by kernel_rfl) ((belowN (Below.refl _ _) n).drew) ?_
    repeat (go_big_quiet_step (first | exact UK.kept_same (HX1.out _) (UK.Kept.h _) | exact UK.kept_below (HX2.out _) (UK.Kept.h _)))
    refine wpQuiet_nil ?_
    rintro ⟨w1, hb1⟩
    have ht1 := ht.below hb1
    go_wp2_with fail
    refine (awake3_any _ ht1).mono ?_
    rintro e w2 ⟨rfl, hb2⟩
    have ht2 := ht1.below hb2
    go_wp2_with fail
    refine (seal_any m _ ht2 (by omega)).mono ?_
    rintro e w3 ⟨rfl, hb3⟩
    go_wp2_with fail
    refine (HX3.out _).mono ?_
    rintro e w' ⟨rfl, rfl⟩
    go_wp2_with fail
    refine (HX4.out _).mono ?_
    rintro e w4 ⟨rfl, hb4⟩
    have hln : ¬ m.length + (putL (addU 0 m)).length > 9223372036854775807 := by rw [show (putL (addU 0 m)).length = 4 from rfl]; omega
    go_wp2
    go_ret
    exact ⟨by simp, hb1.trans ((hb2.mono hb1.size).trans ((hb3.mono (Nat.le_trans hb1.size hb2.size)).trans (hb4.mono (Nat.le_trans (Nat.le_trans hb1.size hb2.size) hb3.size))))⟩
theorem opens_walk (W : World) (ht : TabAt W) (s : ByteArray) :
    Calls Tryd.prog 3 #[.string s] W fun e w' => e = .returned (.bool true) ∧ Below W.heap.size W w' := by
  rw [UK.str_self s]
  generalize s.data.toList = l
  have hl : (l.take 600).length ≤ 600 := by rw [List.length_take]; exact Nat.min_le_left _ _
  cases ho : openB (l.take 600)
  · exact opens_no l _ W ht rfl hl ho
  · exact opens_yes l _ W ht rfl hl (open_word _ ho).1 ho
end Go.Proofs.YtpbnghkjbkjllaaDoor
