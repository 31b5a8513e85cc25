/-
  disk.Write.
-/
import Derived.Test.YtamnhpijeiigcaaDoorDiskH
namespace Go.Proofs.YtamnhpijeiigcaaDoor
open Go.RowKit
open UK (str BytesAt nth Only w32 Row)
open Go.BigFrame
section
variable {W : World} {own : Nat → Prop} {D B bc fc I ic cnt : Nat} {fo : Option Addr} {y : List UInt8} {d : Dk}
/-- behind a write of s to page p -/
def writeD (d : Dk) (p : Nat) (s : List UInt8) : Dk := { d with wl := failN d.wl, puts := d.puts + 1, x := UK.wr d.x (512 * p) (pageL p s) }
theorem write_yes (h : DiskAt W own D B bc fo fc I ic y d) (f : Fit d cnt) (hq3 : d.puts + 1 < 1000000000) (p : Nat) (hp : p < cnt) (hh : hasD d cnt p = true) (h0 : d.wl ≠ 0) (s : List UInt8) (hs : s.length = 504) :
    Calls Tryd.prog 15 #[.pointer (some ⟨D, 0, none⟩), .int .i64 p, .string (str s)] W fun e w' => e = .returned (.int .i64 0) ∧ Disk w' own D (writeD d p s) ∧ Moves own own W w' := by
  have hc := hasd_any h f p
  rw [hh] at hc
  have HE : Hid (failE d.wl = 0) := by show _ = _; unfold failE; rw [if_neg h0]
  have HQ3 := Lib.hid hq3
  have hq1 := f.puts.1
  have hq2 := f.puts.2
  have HS := Lib.hid (show s.length ≤ 504 by omega)
  have hwl' := failN_wf d.wl f.wl
  clear h0 hq3
  go_enter Tryd.func15, Tryd.ntmps15
  go_wp2_with fail
  refine hc.mono ?_
  rintro e w' ⟨rfl, q, rfl⟩
  have h1 := h.drewN q
  have m1 := Moves.of_below (o := own) (UK.belowN (Below.refl W.heap.size W) q)
  generalize W.drewN q = w1 at h1 m1 ⊢
  have hfail := fail_any h1.cells 5 d.wl rfl f.wl
  rw [HE.out] at hfail
  go_wp2_with fail
  refine hfail.mono ?_
  rintro e w2 ⟨rfl, r1, o1⟩
  have h2 := h1.turnD (d' := { d with wl := failN d.wl }) r1 o1 rfl rfl rfl
  have c7 := h2.cells.at' 7 _ rfl
  have f7 := h2.cells.free 7 (by omega)
  have r3 := h2.cells.set 7 (.int .i64 (d.puts + 1)) (by show 7 < 8; omega)
  have o3 := (Only.refl D w2).set 7 (.int .i64 (d.puts + 1))
  have h3 := h2.turnD (d' := { d with wl := failN d.wl, puts := d.puts + 1 }) r3 o3 rfl rfl rfl
  have m3 := (m1.trans (Moves.of_only o1 h.oD)).trans (Moves.of_only o3 h.oD)
  have d3 : Dat W (w2.setCell ⟨D, 7, none⟩ (.int .i64 (d.puts + 1))) own D B bc fo fc I ic y { d with wl := failN d.wl, puts := d.puts + 1 } cnt :=
    ⟨h3, ⟨f.len, f.flags, f.one, f.few, f.most, f.free, f.freeLe, f.rl, hwl', f.reads, by show 0 ≤ d.puts + 1 ∧ _; exact ⟨by omega, HQ3.out⟩⟩, m3⟩
  go_wp2_with fail
  refine (lay_dat d3 p s hp HS.out).mono ?_
  rintro e w4 ⟨rfl, y4, d4⟩
  go_wp2
  go_ret
  exact ⟨rfl, ⟨B, bc, fo, fc, I, ic, y4, d4.at_⟩, d4.moves⟩
theorem write_no (h : DiskAt W own D B bc fo fc I ic y d) (f : Fit d cnt) (p : Int) (hh : hasD d cnt p = false) (s : List UInt8) :
    Calls Tryd.prog 15 #[.pointer (some ⟨D, 0, none⟩), .int .i64 p, .string (str s)] W fun e w' => e = .returned (.int .i64 4) ∧ Disk w' own D d ∧ Moves own own W w' := by
  have hc := hasd_any h f p
  rw [hh] at hc
  go_enter Tryd.func15, Tryd.ntmps15
  go_wp2_with fail
  refine hc.mono ?_
  rintro e w' ⟨rfl, q, rfl⟩
  go_wp2
  go_ret
  exact ⟨rfl, ⟨B, bc, fo, fc, I, ic, y, h.drewN q⟩, Moves.of_below (UK.belowN (Below.refl _ _) q)⟩
theorem write_fail (h : DiskAt W own D B bc fo fc I ic y d) (f : Fit d cnt) (p : Int) (hh : hasD d cnt p = true) (h0 : d.wl = 0) (s : List UInt8) (hs : s.length = 504) :
    Calls Tryd.prog 15 #[.pointer (some ⟨D, 0, none⟩), .int .i64 p, .string (str s)] W fun e w' => e = .returned (.int .i64 7) ∧ Disk w' own D { d with wl := -1 } ∧ Moves own own W w' := by
  have hc := hasd_any h f p
  rw [hh] at hc
  have HE : Hid (failE d.wl = 7) := by show _ = _; unfold failE; rw [if_pos h0]
  have HN : Hid (failN d.wl = -1) := by show _ = _; unfold failN; rw [if_pos h0]
  clear h0
  go_enter Tryd.func15, Tryd.ntmps15
  go_wp2_with fail
  refine hc.mono ?_
  rintro e w' ⟨rfl, q, rfl⟩
  have h1 := h.drewN q
  have m1 := Moves.of_below (o := own) (UK.belowN (Below.refl W.heap.size W) q)
  generalize W.drewN q = w1 at h1 m1 ⊢
  have hfail := fail_any h1.cells 5 d.wl rfl f.wl
  rw [HE.out, HN.out] at hfail
  go_wp2_with fail
  refine hfail.mono ?_
  rintro e w2 ⟨rfl, r1, o1⟩
  go_wp2
  go_ret
  exact ⟨rfl, ⟨B, bc, fo, fc, I, ic, y, h1.turnD (d' := { d with wl := -1 }) r1 o1 rfl rfl rfl⟩, m1.trans (Moves.of_only o1 h.oD)⟩
end
end Go.Proofs.YtamnhpijeiigcaaDoor
