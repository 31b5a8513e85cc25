/-
  disk: FailRead, FailWrite, Bytes, Reads, Writes.
-/
import Derived.Test.YtamnhpijeiigcaaDoorDiskF
namespace Go.Proofs.YtamnhpijeiigcaaDoor
open Go.RowKit
open UK (str BytesAt nth Only w32 Row)
open Go.BigFrame
section
variable {W : World} {own : Nat → Prop} {D B bc fc I ic cnt : Nat} {fo : Option Addr} {y : List UInt8} {d : Dk}
/-- what arms -/
def armN (n : Int) : Int := max n (-1)
theorem failRead_any (h : DiskAt W own D B bc fo fc I ic y d) (n : Int) :
    Calls Tryd.prog 17 #[.pointer (some ⟨D, 0, none⟩), .int .i64 n] W fun e w' => e = .returned (.tuple #[]) ∧ Disk w' own D { d with rl := armN n } ∧ Moves own own W w' := by
  have c4 := h.cells.at' 4 _ rfl
  have f4 := h.cells.free 4 (by omega)
  have r := h.cells.set 4 (.int .i64 (armN n)) (by show 4 < 8; omega)
  have o := (Only.refl D W).set 4 (.int .i64 (armN n))
  have h2 := h.turnD (d' := { d with rl := armN n }) r o rfl rfl rfl
  have m2 := Moves.of_only o h.oD
  by_cases hn : n < -1
  · have HA : Hid (armN n = -1) := by show _ = _; unfold armN; omega
    rw [HA.out] at r o h2 m2
    rw [HA.out]
    go_enter Tryd.func17, Tryd.ntmps17
    go_wp2
    go_end0
    exact ⟨rfl, ⟨B, bc, fo, fc, I, ic, y, h2⟩, m2⟩
  · have HA : Hid (armN n = n) := by show _ = _; unfold armN; omega
    rw [HA.out] at r o h2 m2
    rw [HA.out]
    go_enter Tryd.func17, Tryd.ntmps17
    go_wp2
    go_end0
    exact ⟨rfl, ⟨B, bc, fo, fc, I, ic, y, h2⟩, m2⟩
theorem failWrite_any (h : DiskAt W own D B bc fo fc I ic y d) (n : Int) :
    Calls Tryd.prog 18 #[.pointer (some ⟨D, 0, none⟩), .int .i64 n] W fun e w' => e = .returned (.tuple #[]) ∧ Disk w' own D { d with wl := armN n } ∧ Moves own own W w' := by
  have c5 := h.cells.at' 5 _ rfl
  have f5 := h.cells.free 5 (by omega)
  have r := h.cells.set 5 (.int .i64 (armN n)) (by show 5 < 8; omega)
  have o := (Only.refl D W).set 5 (.int .i64 (armN n))
  have h2 := h.turnD (d' := { d with wl := armN n }) r o rfl rfl rfl
  have m2 := Moves.of_only o h.oD
  by_cases hn : n < -1
  · have HA : Hid (armN n = -1) := by show _ = _; unfold armN; omega
    rw [HA.out] at r o h2 m2
    rw [HA.out]
    go_enter Tryd.func18, Tryd.ntmps18
    go_wp2
    go_end0
    exact ⟨rfl, ⟨B, bc, fo, fc, I, ic, y, h2⟩, m2⟩
  · have HA : Hid (armN n = n) := by show _ = _; unfold armN; omega
    rw [HA.out] at r o h2 m2
    rw [HA.out]
    go_enter Tryd.func18, Tryd.ntmps18
    go_wp2
    go_end0
    exact ⟨rfl, ⟨B, bc, fo, fc, I, ic, y, h2⟩, m2⟩
theorem bytes_any (h : DiskAt W own D B bc fo fc I ic y d) :
    Calls Tryd.prog 25 #[.pointer (some ⟨D, 0, none⟩)] W fun e w' => e = .returned (.string (str d.x)) ∧ w' = W := by
  have c0 := h.cells.at' 0 _ rfl
  have hcv := UK.run_window (P := Tryd.prog) (src := 36) (dst := 9) Tryd.underlying36 Tryd.underlying5 Tryd.underlying9 h.bytes 0 d.x.length bc (by have := h.le; have := h.ylen; omega)
  rw [List.drop_zero, h.pre] at hcv
  go_enter Tryd.func25, Tryd.ntmps25
  go_wp2
  go_ret
  exact ⟨rfl, rfl⟩
end
end Go.Proofs.YtamnhpijeiigcaaDoor
