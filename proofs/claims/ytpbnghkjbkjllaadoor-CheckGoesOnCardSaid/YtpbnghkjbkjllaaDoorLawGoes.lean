/-
  CheckGoesOn, walked: it returns true, in every world in which the table's cells hold what the program's text lays there.
-/
import Derived.Test.YtpbnghkjbkjllaaDoorLawCheck
namespace Go.Proofs.YtpbnghkjbkjllaaDoor
open Go.RowKit
open UK (str)
open Go.BigFrame
set_option maxHeartbeats 400000 in
theorem goes_any (l m l' m' : List UInt8) (c : Int) (w : World) (ht : TabAt w) (hm : l.take 300 = m) (hl : m.length ≤ 300) (hm' : l'.take 300 = m') (hl' : m'.length ≤ 300) (hc0 : 0 ≤ c) (hc : c ≤ m.length) :
    Calls Tryd.prog 7 #[.string (str l), .string (str l'), .int .i64 c] w fun e w' => e = .returned (.bool true) ∧ Below w.heap.size w w' := by
  have HM := Lib.hid hm
  have HM' := Lib.hid hm'
  clear hm hm'
  go_enter Tryd.func7, Tryd.ntmps7
  go_wp2_with fail
  refine (cut_any _ _ _ (by decide)).mono ?_
  rintro e w' ⟨rfl, rfl⟩
  rw [show (300 : Int).toNat = 300 from rfl, HM.out]
  go_wp2_with fail
  refine (cut_any _ _ _ (by decide)).mono ?_
  rintro e w' ⟨rfl, rfl⟩
  rw [show (300 : Int).toNat = 300 from rfl, HM'.out]
  go_wp2_with fail
  refine (sum_any m _ ht (by unfold maxLen; omega)).mono ?_
  rintro e w' ⟨rfl, rfl⟩
  go_wp2_with fail
  refine (add_any _ m' _ ht (by unfold maxLen; omega)).mono ?_
  rintro e w' ⟨rfl, rfl⟩
  rw [addU_append]
  have hln : ¬ m.length + m'.length > 9223372036854775807 := by omega
  go_wp2_with fail
  refine (sum_any (m ++ m') _ ht (by unfold maxLen; rw [List.length_append]; omega)).mono ?_
  rintro e w' ⟨rfl, rfl⟩
  go_wp2_with fail
  refine UK.wp_region_kept (fun w' => Below w.heap.size w w') (by kernel_rfl) (by kernel_rfl) ((Below.refl _ _).drew) ?_
  haveI := UK.kept_some w
  have HX1 := Lib.hid (fun W (h : Below w.heap.size w W) => awake3_any W (ht.below h))
  have hl1 : (m.take c.toNat).length ≤ 601 := by rw [List.length_take]; omega
  have hl2 : (m.drop c.toNat).length ≤ 601 := by rw [List.length_drop]; omega
  have hl3 : (m ++ m').length ≤ 601 := by rw [List.length_append]; omega
  have hl4 : (m ++ [0]).length ≤ 601 := by rw [List.length_append]; simp; omega
  have HS1 := Lib.hid (fun W (h : Below w.heap.size w W) => sum_any (m.take c.toNat) W (ht.below h) (by unfold maxLen; omega))
  have HS2 := Lib.hid (fun W (h : Below w.heap.size w W) => sum_any (m ++ m') W (ht.below h) (by unfold maxLen; omega))
  have HS3 := Lib.hid (fun W (h : Below w.heap.size w W) => sum_any m W (ht.below h) (by unfold maxLen; omega))
  have HS4 := Lib.hid (fun W (h : Below w.heap.size w W) => sum_any (m ++ [0]) W (ht.below h) (by unfold maxLen; omega))
  have HA1 : Hid (∀ W (_ : Below w.heap.size w W), Calls Tryd.prog 17 #[.int .u32 (addU 0 (m.take c.toNat)).toNat, .string (str (m.drop c.toNat))] W fun e w' => e = .returned (.int .u32 (addU 0 m).toNat) ∧ W = w') := fun W h => by
    have := add_any (addU 0 (m.take c.toNat)) (m.drop c.toNat) W (ht.below h) (by unfold maxLen; omega)
    rwa [addU_append, List.take_append_drop] at this
  have HA2 : Hid (∀ W (_ : Below w.heap.size w W), Calls Tryd.prog 17 #[.int .u32 (addU 0 m).toNat, .string (str m')] W fun e w' => e = .returned (.int .u32 (addU 0 (m ++ m')).toNat) ∧ W = w') := fun W h => by
    have := add_any (addU 0 m) m' W (ht.below h) (by unfold maxLen; omega)
    rwa [addU_append] at this
  have HZ : Hid (∀ W (_ : Below w.heap.size w W), Calls Tryd.prog 18 #[.int .u32 (addU 0 m).toNat, .int .i64 1] W fun e w' => e = .returned (.int .u32 (addU 0 (m ++ [0])).toNat) ∧ W = w') := fun W h => by
    have := zeros_one (addU 0 m) W (ht.below h)
    rwa [addU_append] at this
  have hln2 : ¬ m.length + 1 > 9223372036854775807 := by omega
  clear hl1 hl2 hl3 hl4
  repeat (go_big_quiet_step (first | with_reducible exact UK.kept_below (HX1.out _ (UK.Kept.h _)) (UK.Kept.h _) | with_reducible exact UK.kept_same (HS1.out _ (UK.Kept.h _)) (UK.Kept.h _) | with_reducible exact UK.kept_same (HA1.out _ (UK.Kept.h _)) (UK.Kept.h _) | with_reducible exact UK.kept_same (HA2.out _ (UK.Kept.h _)) (UK.Kept.h _) | with_reducible exact UK.kept_same (HS2.out _ (UK.Kept.h _)) (UK.Kept.h _) | with_reducible exact UK.kept_same (HS3.out _ (UK.Kept.h _)) (UK.Kept.h _) | with_reducible exact UK.kept_same (HZ.out _ (UK.Kept.h _)) (UK.Kept.h _) | with_reducible exact UK.kept_same (HS4.out _ (UK.Kept.h _)) (UK.Kept.h _)))
  refine wpQuiet_nil ?_
  rintro ⟨w3, hb3⟩
  go_wp2
  go_ret
  exact ⟨by simp, hb3⟩
set_option maxHeartbeats 400000 in
theorem goes_out (l m l' m' : List UInt8) (c : Int) (w : World) (ht : TabAt w) (hm : l.take 300 = m) (hl : m.length ≤ 300) (hm' : l'.take 300 = m') (hl' : m'.length ≤ 300) (hc : c < 0 ∨ (¬ c < 0 ∧ (m.length : Int) < c)) :
    Calls Tryd.prog 7 #[.string (str l), .string (str l'), .int .i64 c] w fun e w' => e = .returned (.bool true) ∧ Below w.heap.size w w' := by
  have HM := Lib.hid hm
  have HM' := Lib.hid hm'
  clear hm hm'
  rcases hc with hc | ⟨hc0, hc⟩
  all_goals
    go_enter Tryd.func7, Tryd.ntmps7
    go_wp2_with fail
    refine (cut_any _ _ _ (by decide)).mono ?_
    rintro e w' ⟨rfl, rfl⟩
    rw [show (300 : Int).toNat = 300 from rfl, HM.out]
    go_wp2_with fail
    refine (cut_any _ _ _ (by decide)).mono ?_
    rintro e w' ⟨rfl, rfl⟩
    rw [show (300 : Int).toNat = 300 from rfl, HM'.out]
    go_wp2_with fail
    refine (sum_any m _ ht (by unfold maxLen; omega)).mono ?_
    rintro e w' ⟨rfl, rfl⟩
    go_wp2_with fail
    refine (add_any _ m' _ ht (by unfold maxLen; omega)).mono ?_
    rintro e w' ⟨rfl, rfl⟩
    rw [addU_append]
    have hln : ¬ m.length + m'.length > 9223372036854775807 := by omega
    go_wp2_with fail
    refine (sum_any (m ++ m') _ ht (by unfold maxLen; rw [List.length_append]; omega)).mono ?_
    rintro e w' ⟨rfl, rfl⟩
    go_wp2_with fail
    refine (awake3_any _ ht).mono ?_
    rintro e w3 ⟨rfl, hb3⟩
    go_wp2
    go_ret
    exact ⟨by simp, hb3⟩
theorem goes_walk (W : World) (ht : TabAt W) (s s' : ByteArray) (n : Int) (_ : (Lit.int .i64 n).wf = true) :
    Calls Tryd.prog 7 #[.string s, .string s', .int .i64 n] W fun e w' => e = .returned (.bool true) ∧ Below W.heap.size W w' := by
  rw [UK.str_self s, UK.str_self s']
  have h1 : (s.data.toList.take 300).length ≤ 300 := by rw [List.length_take]; exact Nat.min_le_left _ _
  have h2 : (s'.data.toList.take 300).length ≤ 300 := by rw [List.length_take]; exact Nat.min_le_left _ _
  by_cases h : 0 ≤ n ∧ n ≤ ((s.data.toList.take 300).length : Int)
  · exact goes_any _ _ _ _ n W ht rfl h1 rfl h2 h.1 h.2
  · exact goes_out _ _ _ _ n W ht rfl h1 rfl h2 (by omega)
end Go.Proofs.YtpbnghkjbkjllaaDoor
