/-
  disk: FailRead, FailWrite, Bytes, Reads, Writes.
  disk.Read.
  disk.Write.
  disk.Give: its short ways.
-/
import Derived.Test.YtjfkdfffolkblaaDoorDiskF
namespace Go.Proofs.YtjfkdfffolkblaaDoor
open Go.RowKit
open UK (str BytesAt nth Only w32 Row)
open Go.BigFrame
section
variable {W : World} {own : Nat → Prop} {D B bc fc I ic cnt : Nat} {fo : Option Addr} {y : List UInt8} {d : Dk}
/-- what arms -/
def armN (n : Int) : Int := max n (-1)
end
end Go.Proofs.YtjfkdfffolkblaaDoor
namespace Go.Proofs.YtjfkdfffolkblaaDoor
open Go.RowKit
open UK (str BytesAt nth Only w32 Row)
open Go.BigFrame
section
variable {W : World} {own : Nat → Prop} {D B bc fc I ic cnt : Nat} {fo : Option Addr} {y : List UInt8} {d : Dk}
theorem loadL_pre (h : DiskAt W own D B bc fo fc I ic y d) (p : Nat) (hp : 512 * (p + 1) ≤ d.x.length) : okB y p = okB d.x p ∧ lookL y p = lookL d.x p := by
  have e : ∀ a b, a + b ≤ d.x.length → (y.drop a).take b = (d.x.drop a).take b := fun a b hab => by
    rw [← h.pre, List.drop_take, List.take_take, Nat.min_eq_left (by omega)]
  have h1 : okB y p = okB d.x p := by
    unfold okB
    rw [e (512 * p) 4 (by omega), e (512 * p + 4) 508 (by omega), e (512 * p + 4) 4 (by omega)]
  refine ⟨h1, ?_⟩
  unfold lookL loadL
  rw [h1, e (512 * p + 8) 504 (by omega)]
theorem read_no (h : DiskAt W own D B bc fo fc I ic y d) (f : Fit d cnt) (p : Int) (hh : hasD d cnt p = false) :
    Calls Tryd.prog 24 #[.pointer (some ⟨D, 0, none⟩), .int .i64 p] W fun e w' => e = .returned (.tuple #[.string (str []), .int .i64 4]) ∧ Disk w' own D d ∧ Moves own own W w' := by
  have hc := hasd_any h f p
  rw [hh] at hc
  go_enter Tryd.func24, Tryd.ntmps24
  go_wp2_with fail
  refine hc.mono ?_
  rintro e w' ⟨rfl, q, rfl⟩
  go_wp2
  go_ret2
  exact ⟨rfl, ⟨B, bc, fo, fc, I, ic, y, h.drewN q⟩, Moves.of_below (UK.belowN (Below.refl _ _) q)⟩
theorem read_fail (h : DiskAt W own D B bc fo fc I ic y d) (f : Fit d cnt) (p : Int) (hh : hasD d cnt p = true) (h0 : d.rl = 0) :
    Calls Tryd.prog 24 #[.pointer (some ⟨D, 0, none⟩), .int .i64 p] W fun e w' => e = .returned (.tuple #[.string (str []), .int .i64 7]) ∧ Disk w' own D { d with rl := -1 } ∧ Moves own own W w' := by
  have hc := hasd_any h f p
  rw [hh] at hc
  have HE : Hid (failE d.rl = 7) := by show _ = _; unfold failE; rw [if_pos h0]
  have HN : Hid (failN d.rl = -1) := by show _ = _; unfold failN; rw [if_pos h0]
  clear h0
  go_enter Tryd.func24, Tryd.ntmps24
  go_wp2_with fail
  refine hc.mono ?_
  rintro e w' ⟨rfl, q, rfl⟩
  have h1 := h.drewN q
  have m1 := Moves.of_below (o := own) (UK.belowN (Below.refl W.heap.size W) q)
  generalize W.drewN q = w1 at h1 m1 ⊢
  have hfail := fail_any h1.cells 4 d.rl rfl f.rl
  rw [HE.out, HN.out] at hfail
  go_wp2_with fail
  refine hfail.mono ?_
  rintro e w2 ⟨rfl, r1, o1⟩
  go_wp2
  go_ret2
  exact ⟨rfl, ⟨B, bc, fo, fc, I, ic, y, h1.turnD (d' := { d with rl := -1 }) r1 o1 rfl rfl rfl⟩, m1.trans (Moves.of_only o1 h.oD)⟩
/-- what a page read tells -/
def readE (x : List UInt8) (p : Nat) : Int := if okB x p then 0 else 8
theorem read_yes (h : DiskAt W own D B bc fo fc I ic y d) (f : Fit d cnt) (p : Nat) (hp : p < cnt) (hh : hasD d cnt p = true) (h0 : d.rl ≠ 0) :
    Calls Tryd.prog 24 #[.pointer (some ⟨D, 0, none⟩), .int .i64 p] W fun e w' => e = .returned (.tuple #[.string (str (lookL d.x p)), .int .i64 (readE d.x p)]) ∧ Disk w' own D { d with rl := failN d.rl, reads := d.reads + 1 } ∧ Moves own own W w' := by
  have hc := hasd_any h f p
  rw [hh] at hc
  have HE : Hid (failE d.rl = 0) := by show _ = _; unfold failE; rw [if_neg h0]
  have hq1 := f.reads.1
  have hq2 := f.reads.2
  have hxl := f.len
  have hfew := f.few
  have hP := loadL_pre h p (by rw [hxl]; omega)
  clear h0
  go_enter Tryd.func24, Tryd.ntmps24
  go_wp2_with fail
  refine hc.mono ?_
  rintro e w' ⟨rfl, q, rfl⟩
  have h1 := h.drewN q
  have m1 := Moves.of_below (o := own) (UK.belowN (Below.refl W.heap.size W) q)
  generalize W.drewN q = w1 at h1 m1 ⊢
  have hfail := fail_any h1.cells 4 d.rl rfl f.rl
  rw [HE.out] at hfail
  go_wp2_with fail
  refine hfail.mono ?_
  rintro e w2 ⟨rfl, r1, o1⟩
  have h2 := h1.turnD (d' := { d with rl := failN d.rl }) r1 o1 rfl rfl rfl
  have c6 := h2.cells.at' 6 _ rfl
  have f6 := h2.cells.free 6 (by omega)
  have r3 := h2.cells.set 6 (.int .i64 (d.reads + 1)) (by show 6 < 8; omega)
  have o3 := (Only.refl D w2).set 6 (.int .i64 (d.reads + 1))
  have h3 := h2.turnD (d' := { d with rl := failN d.rl, reads := d.reads + 1 }) r3 o3 rfl rfl rfl
  have m3 := (m1.trans (Moves.of_only o1 h.oD)).trans (Moves.of_only o3 h.oD)
  go_wp2_with fail
  generalize w2.setCell ⟨D, 6, none⟩ (.int .i64 (d.reads + 1)) = w3 at h3 m3 ⊢
  have hlk := look_any h3.bytes d.x.length bc p (h3.cells.at' 0 _ rfl) (by rw [h3.ylen]; exact h.le) h.le (by omega) (by omega) h3.tab
  rw [hP.1, hP.2] at hlk
  have hlk2 := Lib.hid hlk
  clear hlk hP
  refine hlk2.out.mono ?_
  rintro e w4 ⟨rfl, b4⟩
  have h4 := h3.below b4
  have m4 := m3.trans (Moves.of_below b4)
  cases hok : okB d.x p
  · have HR : Hid (readE d.x p = 8) := by show _ = _; unfold readE; rw [hok]; rfl
    have HL : Hid (lookL d.x p = []) := lookL_no hok
    go_wp2
    go_ret2
    exact ⟨by rw [HR.out, HL.out] <;> rfl, ⟨B, bc, fo, fc, I, ic, y, h4⟩, m4⟩
  · have HR : Hid (readE d.x p = 0) := by show _ = _; unfold readE; rw [hok]; rfl
    go_wp2
    go_ret2
    exact ⟨by rw [HR.out] <;> rfl, ⟨B, bc, fo, fc, I, ic, y, h4⟩, m4⟩
end
end Go.Proofs.YtjfkdfffolkblaaDoor
namespace Go.Proofs.YtjfkdfffolkblaaDoor
open Go.RowKit
open UK (str BytesAt nth Only w32 Row)
open Go.BigFrame
section
variable {W : World} {own : Nat → Prop} {D B bc fc I ic cnt : Nat} {fo : Option Addr} {y : List UInt8} {d : Dk}
/-- behind a write of s to page p -/
def writeD (d : Dk) (p : Nat) (s : List UInt8) : Dk := { d with wl := failN d.wl, puts := d.puts + 1, x := UK.wr d.x (512 * p) (pageL p s) }
theorem write_yes (h : DiskAt W own D B bc fo fc I ic y d) (f : Fit d cnt) (hq3 : d.puts + 1 < 1000000000) (p : Nat) (hp : p < cnt) (hh : hasD d cnt p = true) (h0 : d.wl ≠ 0) (s : List UInt8) (hs : s.length = 504) :
    Calls Tryd.prog 114 #[.pointer (some ⟨D, 0, none⟩), .int .i64 p, .string (str s)] W fun e w' => e = .returned (.int .i64 0) ∧ Disk w' own D (writeD d p s) ∧ Moves own own W w' := by
  have hc := hasd_any h f p
  rw [hh] at hc
  have HE : Hid (failE d.wl = 0) := by show _ = _; unfold failE; rw [if_neg h0]
  have HQ3 := Lib.hid hq3
  have hq1 := f.puts.1
  have hq2 := f.puts.2
  have HS := Lib.hid (show s.length ≤ 504 by omega)
  have hwl' := failN_wf d.wl f.wl
  clear h0 hq3
  go_enter Tryd.func114, Tryd.ntmps114
  go_wp2_with fail
  refine hc.mono ?_
  rintro e w' ⟨rfl, q, rfl⟩
  have h1 := h.drewN q
  have m1 := Moves.of_below (o := own) (UK.belowN (Below.refl W.heap.size W) q)
  generalize W.drewN q = w1 at h1 m1 ⊢
  have hfail := fail_any h1.cells 5 d.wl rfl f.wl
  rw [HE.out] at hfail
  go_wp2_with fail
  refine hfail.mono ?_
  rintro e w2 ⟨rfl, r1, o1⟩
  have h2 := h1.turnD (d' := { d with wl := failN d.wl }) r1 o1 rfl rfl rfl
  have c7 := h2.cells.at' 7 _ rfl
  have f7 := h2.cells.free 7 (by omega)
  have r3 := h2.cells.set 7 (.int .i64 (d.puts + 1)) (by show 7 < 8; omega)
  have o3 := (Only.refl D w2).set 7 (.int .i64 (d.puts + 1))
  have h3 := h2.turnD (d' := { d with wl := failN d.wl, puts := d.puts + 1 }) r3 o3 rfl rfl rfl
  have m3 := (m1.trans (Moves.of_only o1 h.oD)).trans (Moves.of_only o3 h.oD)
  have d3 : Dat W (w2.setCell ⟨D, 7, none⟩ (.int .i64 (d.puts + 1))) own D B bc fo fc I ic y { d with wl := failN d.wl, puts := d.puts + 1 } cnt :=
    ⟨h3, ⟨f.len, f.flags, f.one, f.few, f.most, f.free, f.freeLe, f.rl, hwl', f.reads, by show 0 ≤ d.puts + 1 ∧ _; exact ⟨by omega, HQ3.out⟩⟩, m3⟩
  go_wp2_with fail
  refine (lay_dat d3 p s hp HS.out).mono ?_
  rintro e w4 ⟨rfl, y4, d4⟩
  go_wp2
  go_ret
  exact ⟨rfl, ⟨B, bc, fo, fc, I, ic, y4, d4.at_⟩, d4.moves⟩
theorem write_no (h : DiskAt W own D B bc fo fc I ic y d) (f : Fit d cnt) (p : Int) (hh : hasD d cnt p = false) (s : List UInt8) :
    Calls Tryd.prog 114 #[.pointer (some ⟨D, 0, none⟩), .int .i64 p, .string (str s)] W fun e w' => e = .returned (.int .i64 4) ∧ Disk w' own D d ∧ Moves own own W w' := by
  have hc := hasd_any h f p
  rw [hh] at hc
  go_enter Tryd.func114, Tryd.ntmps114
  go_wp2_with fail
  refine hc.mono ?_
  rintro e w' ⟨rfl, q, rfl⟩
  go_wp2
  go_ret
  exact ⟨rfl, ⟨B, bc, fo, fc, I, ic, y, h.drewN q⟩, Moves.of_below (UK.belowN (Below.refl _ _) q)⟩
theorem write_fail (h : DiskAt W own D B bc fo fc I ic y d) (f : Fit d cnt) (p : Int) (hh : hasD d cnt p = true) (h0 : d.wl = 0) (s : List UInt8) (hs : s.length = 504) :
    Calls Tryd.prog 114 #[.pointer (some ⟨D, 0, none⟩), .int .i64 p, .string (str s)] W fun e w' => e = .returned (.int .i64 7) ∧ Disk w' own D { d with wl := -1 } ∧ Moves own own W w' := by
  have hc := hasd_any h f p
  rw [hh] at hc
  have HE : Hid (failE d.wl = 7) := by show _ = _; unfold failE; rw [if_pos h0]
  have HN : Hid (failN d.wl = -1) := by show _ = _; unfold failN; rw [if_pos h0]
  clear h0
  go_enter Tryd.func114, Tryd.ntmps114
  go_wp2_with fail
  refine hc.mono ?_
  rintro e w' ⟨rfl, q, rfl⟩
  have h1 := h.drewN q
  have m1 := Moves.of_below (o := own) (UK.belowN (Below.refl W.heap.size W) q)
  generalize W.drewN q = w1 at h1 m1 ⊢
  have hfail := fail_any h1.cells 5 d.wl rfl f.wl
  rw [HE.out, HN.out] at hfail
  go_wp2_with fail
  refine hfail.mono ?_
  rintro e w2 ⟨rfl, r1, o1⟩
  go_wp2
  go_ret
  exact ⟨rfl, ⟨B, bc, fo, fc, I, ic, y, h1.turnD (d' := { d with wl := -1 }) r1 o1 rfl rfl rfl⟩, m1.trans (Moves.of_only o1 h.oD)⟩
end
end Go.Proofs.YtjfkdfffolkblaaDoor
namespace Go.Proofs.YtjfkdfffolkblaaDoor
open Go.RowKit
open UK (str BytesAt nth Only w32 Row)
open Go.BigFrame
section
variable {W : World} {own : Nat → Prop} {D B bc fc I ic cnt : Nat} {fo : Option Addr} {y : List UInt8} {d : Dk}
theorem give_no (h : DiskAt W own D B bc fo fc I ic y d) (f : Fit d cnt) (p : Int) (hh : hasD d cnt p = false) :
    Calls Tryd.prog 108 #[.pointer (some ⟨D, 0, none⟩), .int .i64 p] W fun e w' => e = .returned (.int .i64 4) ∧ Disk w' own D d ∧ Moves own own W w' := by
  have hc := hasd_any h f p
  rw [hh] at hc
  go_enter Tryd.func108, Tryd.ntmps108
  go_wp2_with fail
  refine hc.mono ?_
  rintro e w' ⟨rfl, q, rfl⟩
  go_wp2
  go_ret
  exact ⟨rfl, ⟨B, bc, fo, fc, I, ic, y, h.drewN q⟩, Moves.of_below (UK.belowN (Below.refl _ _) q)⟩
theorem give_fail (h : DiskAt W own D B bc fo fc I ic y d) (f : Fit d cnt) (p : Int) (hh : hasD d cnt p = true) (h0 : d.wl = 0) :
    Calls Tryd.prog 108 #[.pointer (some ⟨D, 0, none⟩), .int .i64 p] W fun e w' => e = .returned (.int .i64 7) ∧ Disk w' own D { d with wl := -1 } ∧ Moves own own W w' := by
  have hc := hasd_any h f p
  rw [hh] at hc
  have HE : Hid (failE d.wl = 7) := by show _ = _; unfold failE; rw [if_pos h0]
  have HN : Hid (failN d.wl = -1) := by show _ = _; unfold failN; rw [if_pos h0]
  clear h0
  go_enter Tryd.func108, Tryd.ntmps108
  go_wp2_with fail
  refine hc.mono ?_
  rintro e w' ⟨rfl, q, rfl⟩
  have h1 := h.drewN q
  have m1 := Moves.of_below (o := own) (UK.belowN (Below.refl W.heap.size W) q)
  generalize W.drewN q = w1 at h1 m1 ⊢
  have hfail := fail_any h1.cells 5 d.wl rfl f.wl
  rw [HE.out, HN.out] at hfail
  go_wp2_with fail
  refine hfail.mono ?_
  rintro e w2 ⟨rfl, r1, o1⟩
  go_wp2
  go_ret
  exact ⟨rfl, ⟨B, bc, fo, fc, I, ic, y, h1.turnD (d' := { d with wl := -1 }) r1 o1 rfl rfl rfl⟩, m1.trans (Moves.of_only o1 h.oD)⟩
end
end Go.Proofs.YtjfkdfffolkblaaDoor
