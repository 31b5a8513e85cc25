/-
  awake, of the laws of layer 6 (slot), walked.
-/
import Derived.Test.YtdbnlcmnnoajoaaLawSlot
import Derived.Test.YtdbnlcmnnoajoaaMakePage
namespace Go.Proofs.Ytdbnlcmnnoajoaa
open Go.RowKit
open UK (str BytesAt nth Only)
open Go.BigFrame
open SR (Recs rcd total)
theorem awake6_any (w : World) :
    Calls Try.prog 7 #[] w fun e w' => e = .returned (.bool true) ∧ Below w.heap.size w w' := by
  have hmk := make_page
  have ha1 : add [] [97, 98] = [[97, 98]] := by decide
  have ha2 : add [[97, 98]] [99] = [[97, 98], [99]] := by decide
  have ha3 : trim ([[97, 98], [99]].set 0 []) = [[], [99]] := by decide
  have ha4 : add [[], [99]] [100] = [[100], [99]] := by decide
  have HA1 := Lib.hid ha1
  have HA2 := Lib.hid ha2
  have HA3 := Lib.hid ha3
  have HA4 := Lib.hid ha4
  clear ha1 ha2 ha3 ha4
  go_enter Try.func7, Try.ntmps7
  go_wp2_with fail
  refine (page_init w w (Below.refl _ _)).mono ?_
  rintro e w1 ⟨rfl, p1⟩
  obtain ⟨B, HB⟩ : ∃ B, Hid (w.heap.size = B) := ⟨_, rfl⟩
  rw [HB.out] at p1 ⊢
  clear hmk
  go_wp2_with fail
  refine (page_room p1 504).mono ?_
  rintro e w2 ⟨rfl, p2⟩
  rw [show room [] = 496 by decide]
  go_wp2_with fail
  refine (page_add_yes p2 504 (by decide) [97, 98] (by decide) (by decide)).mono ?_
  rintro e w3 ⟨rfl, p3⟩
  rw [HA1.out] at p3
  rw [show hole [] = 0 from rfl]
  go_wp2_with fail
  refine (page_add_yes p3 504 (by decide) [99] (by decide) (by decide)).mono ?_
  rintro e w4 ⟨rfl, p4⟩
  rw [HA2.out] at p4
  rw [show hole [[97, 98]] = 1 from rfl]
  go_wp2_with fail
  refine (page_drop_yes p4 504 0 (by decide) (by decide)).mono ?_
  rintro e w5 ⟨rfl, p5⟩
  rw [HA3.out] at p5
  go_wp2_with fail
  refine (page_add_yes p5 504 (by decide) [100] (by decide) (by decide)).mono ?_
  rintro e w6 ⟨rfl, p6⟩
  rw [HA4.out] at p6
  rw [show hole [[], [99]] = 0 from rfl]
  go_wp2_with fail
  refine (page_get_yes p6 504 (by decide) 0 (by decide) (by decide)).mono ?_
  rintro e w7 ⟨rfl, p7⟩
  rw [show rcd [[100], [99]] 0 = [100] from rfl]
  go_wp2_with fail
  refine (page_live p7 504).mono ?_
  rintro e w8 ⟨rfl, p8⟩
  rw [show live [[100], [99]] = 2 from rfl]
  go_wp2_with fail
  refine (page_good p8 504 (by decide)).mono ?_
  rintro e w9 ⟨rfl, p9⟩
  go_wp2
  go_ret
  exact ⟨rfl, p9.below⟩
end Go.Proofs.Ytdbnlcmnnoajoaa
