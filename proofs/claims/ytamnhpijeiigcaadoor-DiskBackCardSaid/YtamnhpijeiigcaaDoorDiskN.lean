/-
  disk.Spoil, Reads, Writes; Write of a text of another length.
-/
import Derived.Test.YtamnhpijeiigcaaDoorDiskM
namespace Go.Proofs.YtamnhpijeiigcaaDoor
open Go.RowKit
open UK (str BytesAt nth Only w32 Row)
open Go.BigFrame
section
variable {W W' : World} {own : Nat → Prop} {D B bc fc I ic cnt : Nat} {fo : Option Addr} {y : List UInt8} {d : Dk}
theorem reads_any (h : DiskAt W own D B bc fo fc I ic y d) :
    Calls Tryd.prog 45 #[.pointer (some ⟨D, 0, none⟩)] W fun e w' => e = .returned (.int .i64 d.reads) ∧ w' = W := by
  have c := h.cells.at' 6 _ rfl
  go_enter Tryd.func45, Tryd.ntmps45
  go_wp2
  go_ret
  exact ⟨rfl, rfl⟩
theorem writes_any (h : DiskAt W own D B bc fo fc I ic y d) :
    Calls Tryd.prog 46 #[.pointer (some ⟨D, 0, none⟩)] W fun e w' => e = .returned (.int .i64 d.puts) ∧ w' = W := by
  have c := h.cells.at' 7 _ rfl
  go_enter Tryd.func46, Tryd.ntmps46
  go_wp2
  go_ret
  exact ⟨rfl, rfl⟩
theorem write_arg (h : DiskAt W own D B bc fo fc I ic y d) (f : Fit d cnt) (p : Int) (hh : hasD d cnt p = true) (s : List UInt8) (hs : s.length ≠ 504) :
    Calls Tryd.prog 15 #[.pointer (some ⟨D, 0, none⟩), .int .i64 p, .string (str s)] W fun e w' => e = .returned (.int .i64 1) ∧ Disk w' own D d ∧ Moves own own W w' := by
  have hc := hasd_any h f p
  rw [hh] at hc
  have hs2 : (((s.length : Nat) : Int) == 504) = false := beq_eq_false_iff_ne.2 (by omega)
  go_enter Tryd.func15, Tryd.ntmps15
  go_wp2_with fail
  refine hc.mono ?_
  rintro e w' ⟨rfl, q, rfl⟩
  go_wp2
  go_ret
  exact ⟨rfl, ⟨B, bc, fo, fc, I, ic, y, h.drewN q⟩, Moves.of_below (UK.belowN (Below.refl _ _) q)⟩
/-- behind a byte spoilt -/
def spoilD (d : Dk) (k : Nat) (b : UInt8) : Dk := { d with x := d.x.set k (UK.xr8 (nth d.x k) b) }
theorem DiskAt.spoil (h : DiskAt W own D B bc fo fc I ic y d) (k : Nat) (b : UInt8) :
    DiskAt (W.setCell ⟨B, k, none⟩ (.int .u8 ((UK.xr8 (nth d.x k) b).toNat : Int))) own D B bc fo fc I ic (y.set k (UK.xr8 (nth d.x k) b)) (spoilD d k b) := by
  have o := (Only.refl B W).set k (.int .u8 ((UK.xr8 (nth d.x k) b).toNat : Int))
  have hb := h.bytes.set k (UK.xr8 (nth d.x k) b)
  refine ⟨?_, hb, by rw [List.length_set]; exact h.ylen, by show (d.x.set _ _).length ≤ _; rw [List.length_set]; exact h.le, ?_, ?_, h.flags.only o (fun e => h.BI e.symm), h.DB, h.DI, h.BI, h.oD, h.oB, h.oI, UK.TabAt_only h.tab o h.noB, h.notab⟩
  · have hc := h.cells.only o h.DB
    unfold Dk.vals at hc ⊢
    show Row _ D 8 [.slice (some ⟨B, 0, none⟩) (d.x.set _ _).length bc, _, _, _, _, _, _, _]
    rw [List.length_set]
    exact hc
  · show (y.set k _).take (d.x.set k _).length = d.x.set k _
    rw [List.length_set, List.take_set, h.pre]
  · rcases h.freeAt with h0 | ⟨F, e, r, n1, n2, n3, n4⟩
    · exact .inl h0
    · exact .inr ⟨F, e, r.only o n2, n1, n2, n3, n4⟩
theorem spoil_yes (h : DiskAt W own D B bc fo fc I ic y d) (k : Nat) (hk : k < d.x.length) (_hl : d.x.length ≤ 40000000) (b : UInt8) :
    Calls Tryd.prog 21 #[.pointer (some ⟨D, 0, none⟩), .int .i64 k, .int .u8 (b.toNat : Int)] W fun e w' => e = .returned (.bool true) ∧ Disk w' own D (spoilD d k b) ∧ Moves own own W w' := by
  have c0 := h.cells.at' 0 _ rfl
  have hle := h.le
  have hyl := h.ylen
  have he : nth y k = nth d.x k := by
    unfold nth
    rw [List.getD_eq_getElem?_getD, List.getD_eq_getElem?_getD]
    conv => rhs; rw [← h.pre]
    rw [List.getElem?_take_of_lt hk]
  have ck := h.bytes.cell (i := k) (by omega)
  rw [he] at ck
  have fk := h.bytes.free (i := k) (by omega)
  have h2 := h.spoil k b
  have m2 := Moves.of_only (o := own) ((Only.refl B W).set k (.int .u8 ((UK.xr8 (nth d.x k) b).toNat : Int))) h.oB
  generalize hL : d.x.length = L at c0 hk _hl hle
  clear he hyl
  go_enter Tryd.func21, Tryd.ntmps21
  go_wp2
  go_ret
  exact ⟨rfl, ⟨B, bc, fo, fc, I, ic, _, h2⟩, m2⟩
theorem spoil_no (h : DiskAt W own D B bc fo fc I ic y d) (k : Int) (hk : k < 0 ∨ (d.x.length : Int) ≤ k) (hl : d.x.length ≤ 40000000) (b : UInt8) :
    Calls Tryd.prog 21 #[.pointer (some ⟨D, 0, none⟩), .int .i64 k, .int .u8 (b.toNat : Int)] W fun e w' => e = .returned (.bool false) ∧ w' = W := by
  have c0 := h.cells.at' 0 _ rfl
  generalize d.x.length = L at c0 hk hl
  rcases hk with hk | hk
  · go_enter Tryd.func21, Tryd.ntmps21
    go_wp2
    go_ret
    exact ⟨rfl, rfl⟩
  · go_enter Tryd.func21, Tryd.ntmps21
    go_wp2
    go_ret
    exact ⟨rfl, rfl⟩
end
end Go.Proofs.YtamnhpijeiigcaaDoor
