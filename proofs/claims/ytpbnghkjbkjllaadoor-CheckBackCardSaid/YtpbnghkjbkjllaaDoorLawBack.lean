/-
  CheckBack, walked: it returns true, in every world in which the table's cells hold what the program's text lays there.
-/
import Derived.Test.YtpbnghkjbkjllaaDoorLawCheck
namespace Go.Proofs.YtpbnghkjbkjllaaDoor
open Go.RowKit
open UK (str)
open Go.BigFrame
theorem back_any (l m : List UInt8) (c : Int) (w : World) (ht : TabAt w) (hm : l.take 300 = m) (hl : m.length ≤ 300) :
    Calls Tryd.prog 5 #[.string (str l), .int .u8 c] w fun e w' => e = .returned (.bool true) ∧ Below w.heap.size w w' := by
  have HM := Lib.hid hm
  clear hm
  go_enter Tryd.func5, Tryd.ntmps5
  go_wp2_with fail
  refine (cut_any _ _ _ (by decide)).mono ?_
  rintro e w' ⟨rfl, rfl⟩
  rw [show (300 : Int).toNat = 300 from rfl, HM.out]
  go_wp2_with fail
  refine (seal_any m _ ht (by omega)).mono ?_
  rintro e w1 ⟨rfl, hb1⟩
  have ht1 := ht.below hb1
  obtain ⟨t, HT, htl⟩ : ∃ t, Hid (m ++ putL (addU 0 m) = t) ∧ t.length = m.length + 4 := ⟨_, rfl, by simp [putL]⟩
  have HO := Lib.hid (HT.out ▸ open_seal m)
  have HTL := Lib.hid htl
  have htl2 : t.length ≤ 304 := by omega
  clear htl
  rw [HT.out]
  go_wp2_with fail
  refine (open_yes t m _ ht1 (by unfold maxLen; omega) HO.out.1 HO.out.2).mono ?_
  rintro e w' ⟨rfl, n, rfl⟩
  go_wp2_with fail
  refine (seal_any t _ (ht1.drewN n) (by omega)).mono ?_
  rintro e w2 ⟨rfl, hb2⟩
  have ht2 := (ht1.drewN n).below hb2
  have hl4 : (t ++ putL (addU 0 t)).length ≤ maxLen := by unfold maxLen; simp [putL]; omega
  have HL4 := Lib.hid hl4
  clear hl4
  go_wp2_with fail
  refine (open_yes _ t _ ht2 HL4.out (open_seal t).1 (open_seal t).2).mono ?_
  rintro e w' ⟨rfl, n2, rfl⟩
  go_wp2_with fail
  have ht3 := ht2.drewN n2
  have hbw : Below w.heap.size w (w2.drewN n2) := belowN ((belowN hb1 n).trans (hb2.mono hb1.size)) n2
  generalize w2.drewN n2 = wb at ht3 hbw ⊢
  refine UK.wp_region_kept (fun w' => Below wb.heap.size wb w') (by kernel_rfl) (by kernel_rfl) ((Below.refl _ _).drew) ?_
  haveI := UK.kept_some wb
  have HX1 := Lib.hid (fun W (h : Below wb.heap.size wb W) => awake3_any W (ht3.below h))
  have HX2 := Lib.hid (fun W (h : Below wb.heap.size wb W) => sum_any m W (ht3.below h) (by unfold maxLen; omega))
  have HX3 := Lib.hid (fun W => put_any (addU 0 m) W)
  have h1 : ((t.length : Int) == (m.length : Int) + 4) = true := by rw [beq_iff_eq, HTL.out]; omega
  have h2 : (putL (addU 0 m) == t.drop m.length) = true := by rw [← HT.out, List.drop_left]; exact beq_self_eq_true _
  have h3 : (m.length : Int) ≤ t.length := by rw [HTL.out]; omega
  repeat (go_big_quiet_step (first | exact UK.kept_below (HX1.out _ (UK.Kept.h _)) (UK.Kept.h _) | exact UK.kept_same (HX2.out _ (UK.Kept.h _)) (UK.Kept.h _) | exact UK.kept_below (HX3.out _) (UK.Kept.h _)))
  refine wpQuiet_nil ?_
  rintro ⟨w3, hb3⟩
  go_wp2
  go_ret
  exact ⟨by simp, hbw.trans (hb3.mono hbw.size)⟩
theorem back_walk (W : World) (ht : TabAt W) (s : ByteArray) (n : Int) (_ : (Lit.int .u8 n).wf = true) :
    Calls Tryd.prog 5 #[.string s, .int .u8 n] W fun e w' => e = .returned (.bool true) ∧ Below W.heap.size W w' := by
  rw [UK.str_self s]
  exact back_any _ _ n W ht rfl (by rw [List.length_take]; exact Nat.min_le_left _ _)
end Go.Proofs.YtpbnghkjbkjllaaDoor
