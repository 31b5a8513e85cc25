/-
  Layer deci: the text of a number; layer areas: the rules that a sign and a number's text say.
-/
import Derived.Test.YteelmbpmmobpjaaGreatDoorTxtB
namespace Go.Proofs.YteelmbpmmobpjaaGreatDoor
open Go.RowKit
open UK (str BytesAt nth Only Row Box)
theorem trimR_any {w : World} (l : List UInt8) (hl : l.length ≤ 100) :
    Calls Tryz.prog 45 #[.string (str l), .string (str [48])] w fun e w' => e = .returned (.string (str (Lib.trimRightB l 48))) ∧ Below w.heap.size w w' := by
  refine (Tryz.strings_TrimRight_one (str l) 48 (by decide) w (by rw [UK.str_size]; omega)).mono ?_
  rintro e w' ⟨rfl, rfl⟩
  refine ⟨?_, Below.refl _ _⟩
  rw [UK.str_data]
  rfl
set_option maxHeartbeats 2000000 in
set_option maxRecDepth 100000 in
theorem text_any {w : World} (a : Int) (ha : DE.Good a) (hP : Pow w) :
    Calls Tryz.prog 16 #[.int .i64 a] w fun e w' => e = .returned (.string (str (DE.textL a))) ∧ Below w.heap.size w w' := by
  obtain ⟨a1, a2⟩ := ha
  have HS := Lib.hid (size_any (w := w) a (by omega) (by omega))
  have hT : DE.textL a = if a < 0 then 45 :: DE.bodyT a.natAbs else DE.bodyT a.natAbs := rfl
  have hF1 := fmt_any (w := w) (a.natAbs / 10000) (by omega) hP
  have hF2 := fun (W : World) (hb : Below w.heap.size w W) => fmt_any (w := W) (10000 + a.natAbs % 10000) (by omega) (hP.next hb)
  rw [DE.dec_four _ (Nat.mod_lt _ (by decide))] at hF2
  rw [show ((a.natAbs / 10000 : Nat) : Int) = (a.natAbs : Int) / 10000 by omega] at hF1
  rw [show ((10000 + a.natAbs % 10000 : Nat) : Int) = 10000 + (a.natAbs : Int) % 10000 by omega] at hF2
  have HF1 := Lib.hid hF1
  have HF2 := Lib.hid hF2
  have HTR := Lib.hid (fun w => trimR_any (w := w) (DE.four (a.natAbs % 10000)) (by show 4 ≤ 100; omega))
  have hB : DE.bodyT a.natAbs = Lib.decDigits (a.natAbs / 10000) ++ if a.natAbs % 10000 = 0 then [] else 46 :: DE.part (a.natAbs % 10000) := rfl
  have hpp : DE.part (a.natAbs % 10000) = Lib.trimRightB (DE.four (a.natAbs % 10000)) 48 := rfl
  have hlD : (Lib.decDigits (a.natAbs / 10000)).length ≤ 20 := by
    rw [Lib.decDigits_length]
    rcases Nat.eq_zero_or_pos (a.natAbs / 10000) with h | h
    · rw [h, Lib.nDigits_small (by decide)]; omega
    · have := Lib.numDigits_eq (a.natAbs / 10000) h (by omega); split at this <;> omega
  have hlP : (Lib.trimRightB (DE.four (a.natAbs % 10000)) 48).length ≤ 4 := DE.part_len _
  clear hF1 hF2
  by_cases h0 : a.natAbs % 10000 = 0
  · rw [if_pos h0, List.append_nil] at hB
    have hp0 : (a.natAbs : Int) % 10000 = 0 := by omega
    have HH := Lib.hid (And.intro hT (And.intro hB h0))
    clear hT hB h0 hP hpp
    go_enter Tryz.func16, Tryz.ntmps16
    go_wp2_with fail
    refine HS.out.mono ?_
    rintro e w1 ⟨rfl, rfl⟩
    go_wp2_with fail
    refine HF1.out.mono ?_
    rintro e w2 ⟨rfl, b2⟩
    go_wp2_with fail
    all_goals go_ret
    all_goals
      refine ⟨?_, b2⟩
      rw [HH.out.1, HH.out.2.1]
    · rw [if_pos (by assumption)]; rfl
    · rw [if_neg (by omega)]; rfl
  · rw [if_neg h0] at hB
    have hp0 : ¬ (a.natAbs : Int) % 10000 = 0 := by omega
    have HH := Lib.hid (And.intro hT (And.intro hB hpp))
    clear hT hB h0 hP hpp
    go_enter Tryz.func16, Tryz.ntmps16
    go_wp2_with fail
    refine HS.out.mono ?_
    rintro e w1 ⟨rfl, rfl⟩
    go_wp2_with fail
    refine HF1.out.mono ?_
    rintro e w2 ⟨rfl, b2⟩
    go_wp2_with fail
    refine (HF2.out _ b2).mono ?_
    rintro e w3 ⟨rfl, b3⟩
    have HB3 := Lib.hid (b2.trans (b3.mono b2.size))
    clear b2 b3 HF1 HF2
    generalize DE.four (a.natAbs % 10000) = ff at *
    go_wp2_with fail
    refine (HTR.out _).mono ?_
    rintro e w4 ⟨rfl, b4⟩
    go_wp2_with fail
    all_goals go_ret
    all_goals
      refine ⟨?_, HB3.out.trans (b4.mono HB3.out.size)⟩
      rw [HH.out.1, HH.out.2.1, HH.out.2.2]
    · rw [if_pos (by assumption)]; rfl
    · rw [if_neg (by omega)]; rfl
end Go.Proofs.YteelmbpmmobpjaaGreatDoor
