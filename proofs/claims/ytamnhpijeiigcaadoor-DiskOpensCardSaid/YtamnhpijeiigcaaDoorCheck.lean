/-
  check.Sum, Zeros, Seal, Open; the document's Turn, Add, Put; the laws' Cut: what they compute.
-/
import Derived.Test.YtamnhpijeiigcaaDoorStep
namespace Go.Proofs.YtamnhpijeiigcaaDoor
open Go.RowKit
open UK (str)
theorem TabAt.lt {w : World} (h : TabAt w) : 0 < w.heap.size := by
  have h0 := h 0
  unfold World.cell? at h0
  by_cases hl : 0 < w.heap.size
  · exact hl
  · rw [Array.getElem?_eq_none (by omega)] at h0; cases h0
theorem TabAt.below {w w' : World} (h : TabAt w) (hb : Below w.heap.size w w') : TabAt w' := fun c => by
  rw [hb.cell (p := ⟨_, _, none⟩) h.lt]; exact h c
theorem TabAt.drewN {w : World} (h : TabAt w) (n : Nat) : TabAt (w.drewN n) := fun c => h c
theorem belowN {B : Nat} {a w : World} (h : Below B a w) (n : Nat) : Below B a (w.drewN n) := ⟨h.os, h.tape, h.output, h.size, h.block⟩
theorem add_zero (l : List UInt8) (w : World) (ht : TabAt w) (hs : l.length ≤ maxLen) :
    Calls Tryd.prog 63 #[.int .u32 0, .string (str l)] w fun e w' => e = .returned (.int .u32 (addU 0 l).toNat) ∧ w = w' :=
  add_any 0 l w ht hs
theorem sum_any (l : List UInt8) (w : World) (ht : TabAt w) (hs : l.length ≤ maxLen) :
    Calls Tryd.prog 53 #[.string (str l)] w fun e w' => e = .returned (.int .u32 (addU 0 l).toNat) ∧ w = w' := by
  go_enter Tryd.func53, Tryd.ntmps53
  go_wp2_with (go_at_call 63; refine (add_zero _ _ ht hs).mono ?_; rintro e w' ⟨rfl, rfl⟩)
  go_ret
  exact ⟨rfl, rfl⟩
def openB (l : List UInt8) : Bool := decide (4 ≤ l.length ∧ getL (l.drop (l.length - 4)) = addU 0 (l.take (l.length - 4)))
def opened (l : List UInt8) : List UInt8 := if openB l then l.take (l.length - 4) else []
/-- one bit of ref.Turn -/
def turn1 (p : UInt32 × UInt8) : UInt32 × UInt8 := (if UK.odds p.1 (UK.wide p.2) then UK.xr (UK.hf p.1) UK.poly else UK.hf p.1, UK.hf8 p.2)
def turnN : Nat → UInt32 × UInt8 → UInt32 × UInt8
  | 0, p => p
  | n + 1, p => turn1 (turnN n p)
theorem turn1_yes (d : UInt32) (a : UInt8) (h : UK.odds d (UK.wide a) = true) : turn1 (d, a) = (UK.xr (UK.hf d) UK.poly, UK.hf8 a) := by unfold turn1; simp [h]
theorem turn1_no (d : UInt32) (a : UInt8) (h : UK.odds d (UK.wide a) = false) : turn1 (d, a) = (UK.hf d, UK.hf8 a) := by unfold turn1; simp [h]
theorem turn_any (c : UInt32) (b : UInt8) (w : World) :
    Calls Tryd.prog 68 #[.int .u32 c.toNat, .int .u8 b.toNat] w fun e w' => e = .returned (.int .u32 (turnN 8 (c, b)).1.toNat) ∧ w = w' := by
  go_enter Tryd.func68, Tryd.ntmps68
  go_wp2
  go_loop [0, 1, 5] (fun x y i => ∃ (k : Nat) (d : UInt32) (a : UInt8), k ≤ 8 ∧ turnN k (c, b) = (d, a) ∧ i = .int .i64 k ∧ x = .int .u32 d.toNat ∧ y = .int .u8 a.toNat) (fun _ _ i => 8 - (intOf i).toNat)
  case atStart => exact ⟨0, _, _, Nat.zero_le _, rfl, rfl, rfl, rfl⟩
  case round =>
    obtain ⟨k, d, a, hk, ht, rfl, rfl, rfl⟩ := hrel
    have HT := Lib.hid ht
    clear ht
    by_cases hlt : (k : Int) < 8
    · cases hb : UK.odds d (UK.wide a)
      · have HS : Hid (turnN (k + 1) (c, b) = (UK.hf d, UK.hf8 a)) := by
          show turn1 _ = _
          rw [HT.out, turn1_no _ _ hb]
        go_wp2
        go_round
        case rel => exact ⟨k + 1, _, _, by omega, HS.out, by go_num, by first | rfl | rw [UK.u32_mod32], by rw [UK.u8_mod8]⟩
        case measure => simp [intOf]; omega
      · have HS : Hid (turnN (k + 1) (c, b) = (UK.xr (UK.hf d) UK.poly, UK.hf8 a)) := by
          show turn1 _ = _
          rw [HT.out, turn1_yes _ _ hb]
        go_wp2
        go_round
        case rel => exact ⟨k + 1, _, _, by omega, HS.out, by go_num, by first | rfl | rw [UK.u32_mod32], by rw [UK.u8_mod8]⟩
        case measure => simp [intOf]; omega
    · have hk' : k = 8 := by omega
      have HF : Hid ((turnN 8 (c, b)).1 = d) := by
        show _ = _
        rw [← hk', HT.out]
      clear hk'
      go_wp2
      go_ret
      exact ⟨by rw [HF.out] <;> rfl, rfl⟩
/-- the document's sum, before it is turned -/
def rrunU (c : UInt32) (l : List UInt8) : UInt32 := l.foldl (fun c b => (turnN 8 (c, b)).1) c
def raddU (c : UInt32) (l : List UInt8) : UInt32 := UK.nt (rrunU (UK.nt c) l)
theorem rrunU_snoc (c : UInt32) (l : List UInt8) (k : Nat) (h : k < l.length) : rrunU c (l.take (k + 1)) = (turnN 8 (rrunU c (l.take k), UK.nth l k)).1 := by
  rw [List.take_succ_eq_append_getElem h]; unfold rrunU; rw [List.foldl_append]; simp [UK.nth, List.getD, h]
theorem radd_any (c : UInt32) (l : List UInt8) (w : World) (hs : l.length ≤ maxLen) :
    Calls Tryd.prog 65 #[.int .u32 c.toNat, .string (str l)] w fun e w' => e = .returned (.int .u32 (raddU c l).toNat) ∧ w = w' := by
  unfold maxLen at hs
  go_enter Tryd.func65, Tryd.ntmps65
  go_wp2
  simp only [UK.not_sub]
  go_loop [5, 6] (fun x i => ∃ k : Nat, k ≤ l.length ∧ i = .int .i64 k ∧ x = .int .u32 (rrunU (UK.nt c) (l.take k)).toNat) (fun _ i => l.length - (intOf i).toNat)
  case atStart => exact ⟨0, Nat.zero_le _, rfl, rfl⟩
  case round =>
    obtain ⟨k, hk, rfl, rfl⟩ := hrel
    by_cases hlt : k < l.length
    · have HS := Lib.hid (rrunU_snoc (UK.nt c) l k hlt)
      go_wp2_with (go_at_call 68; refine (turn_any _ _ _).mono ?_; rintro e w' ⟨rfl, rfl⟩)
      go_round
      case rel => exact ⟨k + 1, by omega, by go_num, by rw [HS.out]⟩
      case measure => simp [intOf]; omega
    · go_wp2
      go_ret
      exact ⟨by rw [List.take_of_length_le (by omega)]; rfl, rfl⟩
theorem rput_any (c : UInt32) (w : World) :
    Calls Tryd.prog 64 #[.int .u32 c.toNat] w fun e w' => e = .returned (.string (str (putL c))) ∧ Below w.heap.size w w' := by
  go_enter Tryd.func64, Tryd.ntmps64
  go_wp2
  have hcv := run_one
  go_loopw [0, 3, 4] (fun x s i wr => ∃ (k : Nat) (d : UInt32) , k ≤ 4 ∧ d.toNat = c.toNat / 256 ^ k ∧ i = .int .i64 k ∧ x = .int .u32 d.toNat ∧ s = .string (str ((putL c).take k)) ∧ Below w.heap.size w wr) (fun _ _ i _ => 4 - (intOf i).toNat)
  case atStart => exact ⟨0, c, Nat.zero_le _, by simp, rfl, rfl, rfl, Below.refl _ _⟩
  case round =>
    obtain ⟨k, d, hk, hd, rfl, rfl, rfl, hb⟩ := hrel
    have HDD := Lib.hid hd
    clear hd
    by_cases hlt : (k : Int) < 4
    · have hlen : ((putL c).take k).length ≤ 4 := by rw [List.length_take]; exact Nat.le_trans (Nat.min_le_right _ _) (Nat.le_refl 4)
      have HX : Hid ((putL c).take k ++ [UK.byteOf d 0] = (putL c).take (k + 1)) := by
        show _ = _
        have e : UK.byteOf d 0 = UK.byteOf c k := by simp [UK.byteOf, HDD.out]
        rw [e]
        match k, hlt with
        | 0, _ | 1, _ | 2, _ | 3, _ => rfl
      have HE : Hid ((UK.dv256 d).toNat = c.toNat / 256 ^ (k + 1)) := by
        show _ = _
        simp [UK.dv256, HDD.out, Nat.pow_succ, Nat.div_div_eq_div_mul]
      go_wp2
      go_roundw
      case rel => exact ⟨k + 1, UK.dv256 d, by omega, HE.out, by go_num, by first | rfl | rw [UK.u32_mod32], by rw [HX.out], hb.alloc hb.size _⟩
      case measure => simp [intOf]; omega
    · have hk' : k = 4 := by omega
      have HF : Hid ((putL c).take k = putL c) := by
        show _ = _
        rw [hk']; rfl
      clear hk'
      go_wp2
      go_ret
      exact ⟨by rw [HF.out] <;> rfl, hb⟩
theorem cut_any (l : List UInt8) (n : Int) (w : World) (hn : 0 ≤ n) :
    Calls Tryd.prog 19 #[.string (str l), .int .i64 n] w fun e w' => e = .returned (.string (str (l.take n.toNat))) ∧ w = w' := by
  by_cases h : n < (l.length : Int)
  · go_enter Tryd.func19, Tryd.ntmps19
    go_wp2
    go_ret
    exact ⟨rfl, rfl⟩
  · have e : l.take n.toNat = l := List.take_of_length_le (by omega)
    rw [e]
    clear e
    go_enter Tryd.func19, Tryd.ntmps19
    go_wp2
    go_ret
    exact ⟨rfl, rfl⟩
end Go.Proofs.YtamnhpijeiigcaaDoor
