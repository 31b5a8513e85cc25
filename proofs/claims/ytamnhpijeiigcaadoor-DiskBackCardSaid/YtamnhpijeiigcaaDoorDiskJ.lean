/-
  disk.Give: its short ways.
-/
import Derived.Test.YtamnhpijeiigcaaDoorDiskI
namespace Go.Proofs.YtamnhpijeiigcaaDoor
open Go.RowKit
open UK (str BytesAt nth Only w32 Row)
open Go.BigFrame
section
variable {W : World} {own : Nat → Prop} {D B bc fc I ic cnt : Nat} {fo : Option Addr} {y : List UInt8} {d : Dk}
theorem give_no (h : DiskAt W own D B bc fo fc I ic y d) (f : Fit d cnt) (p : Int) (hh : hasD d cnt p = false) :
    Calls Tryd.prog 12 #[.pointer (some ⟨D, 0, none⟩), .int .i64 p] W fun e w' => e = .returned (.int .i64 4) ∧ Disk w' own D d ∧ Moves own own W w' := by
  have hc := hasd_any h f p
  rw [hh] at hc
  go_enter Tryd.func12, Tryd.ntmps12
  go_wp2_with fail
  refine hc.mono ?_
  rintro e w' ⟨rfl, q, rfl⟩
  go_wp2
  go_ret
  exact ⟨rfl, ⟨B, bc, fo, fc, I, ic, y, h.drewN q⟩, Moves.of_below (UK.belowN (Below.refl _ _) q)⟩
theorem give_fail (h : DiskAt W own D B bc fo fc I ic y d) (f : Fit d cnt) (p : Int) (hh : hasD d cnt p = true) (h0 : d.wl = 0) :
    Calls Tryd.prog 12 #[.pointer (some ⟨D, 0, none⟩), .int .i64 p] W fun e w' => e = .returned (.int .i64 7) ∧ Disk w' own D { d with wl := -1 } ∧ Moves own own W w' := by
  have hc := hasd_any h f p
  rw [hh] at hc
  have HE : Hid (failE d.wl = 7) := by show _ = _; unfold failE; rw [if_pos h0]
  have HN : Hid (failN d.wl = -1) := by show _ = _; unfold failN; rw [if_pos h0]
  clear h0
  go_enter Tryd.func12, Tryd.ntmps12
  go_wp2_with fail
  refine hc.mono ?_
  rintro e w' ⟨rfl, q, rfl⟩
  have h1 := h.drewN q
  have m1 := Moves.of_below (o := own) (UK.belowN (Below.refl W.heap.size W) q)
  generalize W.drewN q = w1 at h1 m1 ⊢
  have hfail := fail_any h1.cells 5 d.wl rfl f.wl
  rw [HE.out, HN.out] at hfail
  go_wp2_with fail
  refine hfail.mono ?_
  rintro e w2 ⟨rfl, r1, o1⟩
  go_wp2
  go_ret
  exact ⟨rfl, ⟨B, bc, fo, fc, I, ic, y, h1.turnD (d' := { d with wl := -1 }) r1 o1 rfl rfl rfl⟩, m1.trans (Moves.of_only o1 h.oD)⟩
end
end Go.Proofs.YtamnhpijeiigcaaDoor
