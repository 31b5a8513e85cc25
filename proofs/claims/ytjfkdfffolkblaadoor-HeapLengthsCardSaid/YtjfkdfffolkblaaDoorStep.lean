/-
  check.step, Add, Zeros, Sum, Put, Get: what they compute, by the table.
-/
import Derived.Test.YtjfkdfffolkblaaDoorUKit
import Derived.Deep.QuietTactic
import Derived.BigQuiet
namespace Go.Proofs.YtjfkdfffolkblaaDoor
open Go.RowKit
open UK (str)
def tab (i : UInt32) : UInt32 := #[0x00000000, 0x105ec76f, 0x20bd8ede, 0x30e349b1, 0x417b1dbc, 0x5125dad3, 0x61c69362, 0x7198540d, 0x82f63b78, 0x92a8fc17, 0xa24bb5a6, 0xb21572c9, 0xc38d26c4, 0xd3d3e1ab, 0xe330a81a, 0xf36e6f75].getD i.toNat 0
def half (c : UInt32) : UInt32 := UK.xr (UK.dv16 c) (tab (UK.an15 c))
def stepU (c : UInt32) (b : UInt8) : UInt32 := half (half (UK.xr c (UK.wide b)))
def runU (c : UInt32) (l : List UInt8) : UInt32 := l.foldl stepU c
def addU (c : UInt32) (l : List UInt8) : UInt32 := UK.nt (runU (UK.nt c) l)
def putL (c : UInt32) : List UInt8 := [UK.byteOf c 0, UK.byteOf c 1, UK.byteOf c 2, UK.byteOf c 3]
theorem runU_snoc (c : UInt32) (l : List UInt8) (k : Nat) (h : k < l.length) : runU c (l.take (k + 1)) = stepU (runU c (l.take k)) (UK.nth l k) := by
  rw [List.take_succ_eq_append_getElem h]; unfold runU; rw [List.foldl_append]; simp [UK.nth, List.getD, h]
def TabAt (w : World) : Prop := ∀ c : UInt32, w.cell? ⟨0, (UK.an15 c).toNat, none⟩ = some (.int .u32 ((tab (UK.an15 c)).toNat : Int))
theorem step_any (c : UInt32) (b : UInt8) (w : World) (ht : TabAt w) :
    Calls Tryd.prog 160 #[.int .u32 c.toNat, .int .u8 b.toNat] w fun e w' => e = .returned (.int .u32 (stepU c b).toNat) ∧ w = w' := by
  unfold TabAt at ht
  have h5 := UK.and15_lt
  go_enter Tryd.func160, Tryd.ntmps160
  go_wp2
  go_ret
  exact ⟨rfl, rfl⟩
theorem add_any (c : UInt32) (l : List UInt8) (w : World) (ht : TabAt w) (hs : l.length ≤ maxLen) :
    Calls Tryd.prog 135 #[.int .u32 c.toNat, .string (str l)] w fun e w' => e = .returned (.int .u32 (addU c l).toNat) ∧ w = w' := by
  unfold maxLen at hs
  go_enter Tryd.func135, Tryd.ntmps135
  go_wp2
  go_loop [5, 11] (fun x i => ∃ k : Nat, k ≤ l.length ∧ i = .int .i64 k ∧ x = .int .u32 (runU (UK.nt c) (l.take k)).toNat) (fun _ i => l.length - (intOf i).toNat)
  case atStart => exact ⟨0, Nat.zero_le _, rfl, rfl⟩
  case round =>
    obtain ⟨k, hk, rfl, rfl⟩ := hrel
    by_cases hlt : k < l.length
    · have HS := Lib.hid (runU_snoc (UK.nt c) l k hlt)
      go_wp2_with (go_at_call 160; refine (step_any _ _ _ ht).mono ?_; rintro e w' ⟨rfl, rfl⟩)
      go_round
      case rel => exact ⟨k + 1, by omega, by go_num, by rw [HS.out]⟩
      case measure => simp [intOf]; omega
    · go_wp2
      go_ret
      exact ⟨by rw [List.take_of_length_le (by omega)]; rfl, rfl⟩
theorem run_four (W : World) (a b c d : UInt8) :
    (convert 77 9 (.slice (some ⟨W.heap.size, 0, none⟩) 4 4)).run Tryd.prog (W.alloc (.cells #[.int .u8 a.toNat, .int .u8 b.toNat, .int .u8 c.toNat, .int .u8 d.toNat] 5)) =
      .ok (.string (str [a, b, c, d])) (W.alloc (.cells #[.int .u8 a.toNat, .int .u8 b.toNat, .int .u8 c.toNat, .int .u8 d.toNat] 5)) := by
  have h := run_convert_bytes_back (P := Tryd.prog) (W.alloc (.cells #[.int .u8 a.toNat, .int .u8 b.toNat, .int .u8 c.toNat, .int .u8 d.toNat] 5)) 77 9 5 ⟨W.heap.size, 0, none⟩ 4 [a, b, c, d] Tryd.underlying77 Tryd.underlying5 Tryd.underlying9
  refine h (fun j hj => ?_)
  have hj' : j < 4 := by simpa using hj
  match j, hj' with
  | 0, _ | 1, _ | 2, _ | 3, _ => simp [Addr.add, World.cell?, World.alloc, -World.alloc_eq]
theorem step_zero (c : UInt32) (w : World) (ht : TabAt w) :
    Calls Tryd.prog 160 #[.int .u32 c.toNat, .int .u8 0] w fun e w' => e = .returned (.int .u32 (stepU c 0).toNat) ∧ w = w' := step_any c 0 w ht
theorem run_one (W : World) (a : UInt8) :
    (convert 77 9 (.slice (some ⟨W.heap.size, 0, none⟩) 1 1)).run Tryd.prog (W.alloc (.cells #[.int .u8 a.toNat] 5)) =
      .ok (.string (str [a])) (W.alloc (.cells #[.int .u8 a.toNat] 5)) := by
  have h := run_convert_bytes_back (P := Tryd.prog) (W.alloc (.cells #[.int .u8 a.toNat] 5)) 77 9 5 ⟨W.heap.size, 0, none⟩ 1 [a] Tryd.underlying77 Tryd.underlying5 Tryd.underlying9
  refine h (fun j hj => ?_)
  have hj' : j < 1 := by simpa using hj
  obtain rfl : j = 0 := by omega
  simp [Addr.add, World.cell?, World.alloc, -World.alloc_eq]
theorem put_any (c : UInt32) (w : World) :
    Calls Tryd.prog 130 #[.int .u32 c.toNat] w fun e w' => e = .returned (.string (str (putL c))) ∧ Below w.heap.size w w' := by
  have hcv := run_four
  go_enter Tryd.func130, Tryd.ntmps130
  go_wp2
  go_ret
  exact ⟨rfl, (Below.refl _ _).alloc (Nat.le_refl _) _⟩
/-- the number of four bytes -/
def getL (l : List UInt8) : UInt32 :=
  UK.or32 (UK.or32 (UK.or32 (UK.wide (UK.nth l 0)) (UK.shl (UK.wide (UK.nth l 1)) 1)) (UK.shl (UK.wide (UK.nth l 2)) 2)) (UK.shl (UK.wide (UK.nth l 3)) 3)
theorem get_four (l : List UInt8) (w : World) (h : l.length = 4) :
    Calls Tryd.prog 115 #[.string (str l)] w fun e w' => e = .returned (.tuple #[.int .u32 (getL l).toNat, .bool true]) ∧ ∃ n, w' = w.drewN n := by
  have h1 : (0 : Int) < l.length := by omega
  have h1 : (1 : Int) < l.length := by omega
  have h1 : (2 : Int) < l.length := by omega
  have h1 : (3 : Int) < l.length := by omega
  have h2 : ((l.length : Int) == 4) = true := by rw [h]; rfl
  clear h
  go_enter Tryd.func115, Tryd.ntmps115
  go_wp2
  go_quiet (fail)
  go_wp2
  go_ret2
  exact ⟨rfl, _, rfl⟩
theorem get_other (l : List UInt8) (w : World) (h : l.length ≠ 4) :
    Calls Tryd.prog 115 #[.string (str l)] w fun e w' => e = .returned (.tuple #[.int .u32 0, .bool false]) ∧ w = w' := by
  have h2 : ((l.length : Int) == 4) = false := by rw [beq_eq_false_iff_ne]; omega
  clear h
  go_enter Tryd.func115, Tryd.ntmps115
  go_wp2
  go_ret2
  exact ⟨rfl, rfl⟩
end Go.Proofs.YtjfkdfffolkblaaDoor
