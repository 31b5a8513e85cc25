/-
  slot's small functions, walked: what they read and write of a page's bytes.
  slot's functions that read, walked at the page's records.
-/
import Derived.Test.YtjfkdfffolkblaaGreatDoorUMem
import Derived.Test.YtjfkdfffolkblaaGreatDoorSlotR
namespace Go.Proofs.YtjfkdfffolkblaaGreatDoor.SL
open Go.RowKit
open UK (str BytesAt nth Only)
open Go.BigFrame
theorem or_two (p q : UInt8) : bits .or .i64 (p.toNat : Int) ((q.toNat : Int) * 256) = ((p.toNat + 256 * q.toNat : Nat) : Int) := by
  have hp := p.toNat_lt
  have hq := q.toNat_lt
  show IntKind.i64.wrap ((BitVec.ofInt 64 (p.toNat : Int) ||| BitVec.ofInt 64 ((q.toNat : Int) * 256)).toNat : Int) = _
  rw [show ((q.toNat : Int) * 256) = ((q.toNat * 256 : Nat) : Int) by omega, BitVec.ofInt_natCast, BitVec.ofInt_natCast, BitVec.toNat_or, BitVec.toNat_ofNat, BitVec.toNat_ofNat, Nat.mod_eq_of_lt (by omega), Nat.mod_eq_of_lt (by omega), IntKind.wrap_i64, Nat.or_comm, nat_join 8 _ _ (by omega) (by omega)]
  omega
def b8 (n : Nat) : UInt8 := UInt8.ofNat n
theorem ret_int {k : IntKind} {a b : Int} (h : a = b) : Ending.returned (.int k a) = .returned (.int k b) := by rw [h]
theorem wrap64_u8 (p : UInt8) : wrap64 (p.toNat : Int) = (p.toNat : Int) := by
  have hp := p.toNat_lt
  unfold wrap64; omega
theorem or_two' (p q : UInt8) : bits .or .i64 (wrap64 (p.toNat : Int)) (wrap64 (wrap64 (q.toNat : Int) * 256)) = ((p.toNat + 256 * q.toNat : Nat) : Int) := by
  have hq := q.toNat_lt
  have e : wrap64 ((q.toNat : Int) * 256) = (q.toNat : Int) * 256 := by unfold wrap64; omega
  rw [wrap64_u8, wrap64_u8, e, or_two]
theorem two_any (B : Nat) (x : List UInt8) (c : Nat) (a : Int) (W : World) (h : BytesAt W B x) (hn : 504 ≤ x.length) (ha0 : 0 ≤ a) (ha : a + 1 < 504) :
    Calls Tryz.prog 141 #[.slice (some ⟨B, 0, none⟩) 504 c, .int .i64 a] W fun e w' => e = .returned (.int .i64 (SR.two x a.toNat : Nat)) ∧ ∃ k, w' = W.drewN k := by
  obtain ⟨a, rfl⟩ := Int.eq_ofNat_of_zero_le ha0
  rw [Int.toNat_natCast]
  have h0 := h.cell (i := a) (by omega)
  have h1 := h.cell (i := a + 1) (by omega)
  have h2 : (a : Int) < 504 := by omega
  have h3 : (a : Int) + 1 < 504 := by omega
  have h4 : IntKind.i64.wrap ((a : Int) + 1) = (a : Int) + 1 := IntWalk.i64_in _ (by omega)
  have h5 : (0 : Int) ≤ (a : Int) + 1 := by omega
  have h6 : ((a : Int) + 1).toNat = a + 1 := by omega
  go_enter Tryz.func141, Tryz.ntmps141
  go_wp2
  go_quiet (fail)
  go_wp2
  go_ret
  exact ⟨ret_int (or_two' _ _), _, rfl⟩
theorem put_any (B : Nat) (x : List UInt8) (c : Nat) (a m : Int) (W : World) (h : BytesAt W B x) (hn : 504 ≤ x.length) (ha0 : 0 ≤ a) (ha : a + 1 < 504) (hm0 : 0 ≤ m) (hm : m < 65536) :
    Calls Tryz.prog 102 #[.slice (some ⟨B, 0, none⟩) 504 c, .int .i64 a, .int .i64 m] W fun e w' => e = .returned (.tuple #[]) ∧ BytesAt w' B (SR.put x a.toNat m.toNat) ∧ Only B W w' := by
  obtain ⟨a, rfl⟩ := Int.eq_ofNat_of_zero_le ha0
  obtain ⟨m, rfl⟩ := Int.eq_ofNat_of_zero_le hm0
  rw [Int.toNat_natCast, Int.toNat_natCast]
  have h0 := h.cell (i := a) (by omega)
  have h1 := h.cell (i := a + 1) (by omega)
  have f0 := h.free (i := a) (by omega)
  have f1 := h.free (i := a + 1) (by omega)
  have h2 : (a : Int) < 504 := by omega
  have h3 : (a : Int) + 1 < 504 := by omega
  have h4 : ((m : Int) % 256) = ((b8 m).toNat : Int) := by simp [b8]
  have h5 : ((m : Int) / 256) = ((b8 (m / 256)).toNat : Int) := by simp [b8]; omega
  have HS := Lib.hid ((h.set a (b8 m)).set (a + 1) (b8 (m / 256)))
  have HO := Lib.hid (((Only.refl B W).set a (.int .u8 ((b8 m).toNat : Int))).set (a + 1) (.int .u8 ((b8 (m / 256)).toNat : Int)))
  go_enter Tryz.func102, Tryz.ntmps102
  go_wp2
  go_end0
  exact ⟨rfl, HS.out, HO.out⟩
theorem len_any (B : Nat) (x : List UInt8) (c : Nat) (W : World) (h : BytesAt W B x) (hn : 504 ≤ x.length) :
    Calls Tryz.prog 100 #[.slice (some ⟨B, 0, none⟩) 504 c] W fun e w' => e = .returned (.int .i64 (SR.two x 0 : Nat)) ∧ ∃ k, w' = W.drewN k := by
  go_enter Tryz.func100, Tryz.ntmps100
  go_wp2_with fail
  refine (two_any B x c _ W h hn (by omega) (by omega)).mono ?_
  rintro e w' ⟨rfl, k, rfl⟩
  go_wp2
  go_ret
  exact ⟨rfl, _, rfl⟩
theorem low_any (B : Nat) (x : List UInt8) (c : Nat) (W : World) (h : BytesAt W B x) (hn : 504 ≤ x.length) :
    Calls Tryz.prog 136 #[.slice (some ⟨B, 0, none⟩) 504 c] W fun e w' => e = .returned (.int .i64 (SR.low x : Nat)) ∧ ∃ k, w' = W.drewN k := by
  go_enter Tryz.func136, Tryz.ntmps136
  go_wp2_with fail
  refine (two_any B x c _ W h hn (by omega) (by omega)).mono ?_
  rintro e w' ⟨rfl, k, rfl⟩
  go_wp2
  go_ret
  exact ⟨rfl, _, rfl⟩
theorem slot_any (B : Nat) (x : List UInt8) (c : Nat) (i : Int) (W : World) (h : BytesAt W B x) (hn : 504 ≤ x.length) (hi0 : 0 ≤ i) (hi : 4 + 4 * i + 3 < 504) :
    Calls Tryz.prog 101 #[.slice (some ⟨B, 0, none⟩) 504 c, .int .i64 i] W fun e w' => e = .returned (.tuple #[.int .i64 (SR.pos x i.toNat : Nat), .int .i64 (SR.ext x i.toNat : Nat)]) ∧ ∃ k, w' = W.drewN k := by
  obtain ⟨i, rfl⟩ := Int.eq_ofNat_of_zero_le hi0
  rw [Int.toNat_natCast]
  go_enter Tryz.func101, Tryz.ntmps101
  go_wp2_with fail
  refine (two_any B x c _ W h hn (by omega) (by omega)).mono ?_
  rintro e w' ⟨rfl, k1, rfl⟩
  go_wp2_with fail
  refine (two_any B x c _ _ (h.drewN k1) hn (by omega) (by omega)).mono ?_
  rintro e w' ⟨rfl, k2, rfl⟩
  rw [show (4 + 4 * (i : Int)).toNat = 4 + 4 * i by omega, show (4 + 4 * (i : Int) + 2).toNat = 4 + 4 * i + 2 by omega]
  go_wp2
  go_ret2
  exact ⟨rfl, _, rfl⟩
theorem lay_any (B : Nat) (x : List UInt8) (c : Nat) (i a n : Int) (W : World) (h : BytesAt W B x) (hn : 504 ≤ x.length) (hi0 : 0 ≤ i) (hi : 4 + 4 * i + 3 < 504) (ha0 : 0 ≤ a) (ha : a < 65536) (hn0 : 0 ≤ n) (hn1 : n < 65536) :
    Calls Tryz.prog 99 #[.slice (some ⟨B, 0, none⟩) 504 c, .int .i64 i, .int .i64 a, .int .i64 n] W fun e w' => e = .returned (.tuple #[]) ∧ BytesAt w' B (SR.lay x i.toNat a.toNat n.toNat) ∧ Only B W w' := by
  obtain ⟨i, rfl⟩ := Int.eq_ofNat_of_zero_le hi0
  rw [Int.toNat_natCast]
  go_enter Tryz.func99, Tryz.ntmps99
  go_wp2_with fail
  refine (put_any B x c _ _ W h hn (by omega) (by omega) ha0 ha).mono ?_
  rintro e w1 ⟨rfl, h1, o1⟩
  go_wp2_with fail
  refine (put_any B _ c _ _ w1 h1 (by rw [SR.put_length]; exact hn) (by omega) (by omega) hn0 hn1).mono ?_
  rintro e w2 ⟨rfl, h2, o2⟩
  rw [show (4 + 4 * (i : Int)).toNat = 4 + 4 * i by omega, show (4 + 4 * (i : Int) + 2).toNat = 4 + 4 * i + 2 by omega] at h2
  go_wp2
  go_end0
  exact ⟨rfl, h2, o1.trans o2⟩
end Go.Proofs.YtjfkdfffolkblaaGreatDoor.SL
namespace Go.Proofs.YtjfkdfffolkblaaGreatDoor.SL
open Go.RowKit
open UK (str BytesAt nth Only)
open Go.BigFrame
open SR (Recs rcd total)
/-- how many records there are -/
def live : List (List UInt8) → Nat
  | [] => 0
  | s :: l => (if s = [] then 0 else 1) + live l
theorem live_append (l m : List (List UInt8)) : live (l ++ m) = live l + live m := by
  induction l with
  | nil => simp [live]
  | cons s l ih => simp [live, ih]; omega
theorem live_take (l : List (List UInt8)) (k : Nat) (h : k < l.length) : live (l.take (k + 1)) = live (l.take k) + if rcd l k = [] then 0 else 1 := by
  rw [List.take_succ_eq_append_getElem h, live_append]
  simp [live, rcd, h]
theorem live_le (l : List (List UInt8)) : live l ≤ l.length := by
  induction l with
  | nil => simp [live]
  | cons s l ih => simp only [live, List.length_cons]; split <;> omega
/-- the first slot without a record -/
def hole : List (List UInt8) → Nat
  | [] => 0
  | s :: l => if s = [] then 0 else hole l + 1
theorem hole_le (l : List (List UInt8)) : hole l ≤ l.length := by
  induction l with
  | nil => simp [hole]
  | cons s l ih => simp only [hole, List.length_cons]; split <;> omega
theorem hole_at (l : List (List UInt8)) (k : Nat) (hk : k ≤ l.length) (h : ∀ j, j < k → rcd l j ≠ []) (h0 : k < l.length → rcd l k = []) : hole l = k := by
  induction l generalizing k with
  | nil => simp at hk; subst hk; rfl
  | cons s l ih =>
    cases k with
    | zero =>
      have : s = [] := h0 (by simp)
      simp [hole, this]
    | succ k =>
      have hs : s ≠ [] := h 0 (by omega)
      simp only [hole, if_neg hs]
      rw [ih k (by simpa using hk) (fun j hj => h (j + 1) (by omega)) (fun hl => h0 (by simpa using hl))]
theorem hole_spec (l : List (List UInt8)) : (∀ j, j < hole l → rcd l j ≠ []) ∧ (hole l < l.length → rcd l (hole l) = []) := by
  induction l with
  | nil => simp [hole]
  | cons s l ih =>
    by_cases hs : s = []
    · simp [hole, hs, rcd]
    · simp only [hole, if_neg hs, List.length_cons]
      refine ⟨fun j hj => ?_, fun h => ih.2 (by omega)⟩
      cases j with
      | zero => exact hs
      | succ j => exact ih.1 j (by omega)
/-- room for a record that comes -/
def room (l : List (List UInt8)) : Int := 500 - 4 * l.length - total l - (if hole l = l.length then 4 else 0)
theorem slot_hole (B : Nat) (x : List UInt8) (l : List (List UInt8)) (c i : Nat) (W : World) (h : BytesAt W B x) (r : Recs x l) (hi : i < l.length) (h0 : rcd l i = []) :
    Calls Tryz.prog 101 #[.slice (some ⟨B, 0, none⟩) 504 c, .int .i64 i] W fun e w' => e = .returned (.tuple #[.int .i64 0, .int .i64 0]) ∧ ∃ k, w' = W.drewN k := by
  have hf := r.few
  have := slot_any B x c i W h r.size (by omega) (by omega)
  rw [Int.toNat_natCast, (r.hole i hi h0).1, (r.hole i hi h0).2] at this
  exact this
theorem slot_there (B : Nat) (x : List UInt8) (l : List (List UInt8)) (c i : Nat) (W : World) (h : BytesAt W B x) (r : Recs x l) (hi : i < l.length) :
    Calls Tryz.prog 101 #[.slice (some ⟨B, 0, none⟩) 504 c, .int .i64 i] W fun e w' => e = .returned (.tuple #[.int .i64 (SR.pos x i : Nat), .int .i64 ((rcd l i).length : Nat)]) ∧ ∃ k, w' = W.drewN k := by
  have hf := r.few
  have := slot_any B x c i W h r.size (by omega) (by omega)
  rw [Int.toNat_natCast, r.ext_is hi] at this
  exact this
theorem len_rec (B : Nat) (x : List UInt8) (l : List (List UInt8)) (c : Nat) (W : World) (h : BytesAt W B x) (r : Recs x l) :
    Calls Tryz.prog 100 #[.slice (some ⟨B, 0, none⟩) 504 c] W fun e w' => e = .returned (.int .i64 l.length) ∧ ∃ k, w' = W.drewN k := by
  have := len_any B x c W h r.size
  rwa [r.len] at this
theorem live_any (B : Nat) (x : List UInt8) (l : List (List UInt8)) (c : Nat) (W : World) (h : BytesAt W B x) (r : Recs x l) :
    Calls Tryz.prog 48 #[.slice (some ⟨B, 0, none⟩) 504 c] W fun e w' => e = .returned (.int .i64 (live l : Nat)) ∧ Below W.heap.size W w' := by
  have hf := r.few
  go_enter Tryz.func48, Tryz.ntmps48
  go_wp2_with fail
  refine (len_rec B x l c W h r).mono ?_
  rintro e w' ⟨rfl, k0, rfl⟩
  go_wp2_with fail
  go_loopw [3, 9] (fun n i wr => ∃ k : Nat, k ≤ l.length ∧ i = .int .i64 k ∧ n = .int .i64 (live (l.take k) : Nat) ∧ Below W.heap.size W wr) (fun _ i _ => l.length - (intOf i).toNat)
  case atStart => exact ⟨0, Nat.zero_le _, rfl, rfl, UK.belowN (Below.refl _ _) _⟩
  case round =>
    obtain ⟨k, hk, rfl, rfl, hb⟩ := hrel
    have hba := h.below hb h.lt
    by_cases hlt : k < l.length
    · have hle := live_le (l.take k)
      rw [List.length_take] at hle
      have HT := Lib.hid (live_take l k hlt)
      by_cases h0 : rcd l k = []
      · have HT2 : Hid (live (l.take (k + 1)) = live (l.take k)) := by show _ = _; rw [HT.out, if_pos h0]; rfl
        go_wp2_with fail
        refine (slot_hole B x l c k _ hba r hlt h0).mono ?_
        rintro e w' ⟨rfl, k1, rfl⟩
        clear h0
        go_wp2
        go_roundw
        case rel => exact ⟨k + 1, by omega, by go_num, by rw [HT2.out], UK.belowN hb _⟩
        case measure => simp [intOf]; omega
      · have HT2 : Hid (live (l.take (k + 1)) = live (l.take k) + 1) := by show _ = _; rw [HT.out, if_neg h0]
        have hp := (r.there k hlt h0).1
        have hl1 := r.low1
        have hp0 : 0 < SR.pos x k := by omega
        clear hp
        go_wp2_with fail
        refine (slot_there B x l c k _ hba r hlt).mono ?_
        rintro e w' ⟨rfl, k1, rfl⟩
        clear h0
        go_wp2
        go_roundw
        case rel => exact ⟨k + 1, by omega, by go_num, by rw [HT2.out]; go_num, UK.belowN hb _⟩
        case measure => simp [intOf]; omega
    · go_wp2
      go_ret
      exact ⟨by rw [List.take_of_length_le (by omega)] <;> rfl, hb⟩
theorem used_any (B : Nat) (x : List UInt8) (l : List (List UInt8)) (c : Nat) (W : World) (h : BytesAt W B x) (r : Recs x l) :
    Calls Tryz.prog 139 #[.slice (some ⟨B, 0, none⟩) 504 c] W fun e w' => e = .returned (.int .i64 (total l : Nat)) ∧ Below W.heap.size W w' := by
  have hf := r.few
  have hsum := r.sum
  go_enter Tryz.func139, Tryz.ntmps139
  go_wp2_with fail
  refine (len_rec B x l c W h r).mono ?_
  rintro e w' ⟨rfl, k0, rfl⟩
  go_wp2_with fail
  go_loopw [3, 9] (fun n i wr => ∃ k : Nat, k ≤ l.length ∧ i = .int .i64 k ∧ n = .int .i64 (total (l.take k) : Nat) ∧ Below W.heap.size W wr) (fun _ i _ => l.length - (intOf i).toNat)
  case atStart => exact ⟨0, Nat.zero_le _, rfl, rfl, UK.belowN (Below.refl _ _) _⟩
  case round =>
    obtain ⟨k, hk, rfl, rfl, hb⟩ := hrel
    have hba := h.below hb h.lt
    by_cases hlt : k < l.length
    · have hle := SR.total_take_le l k
      have hle2 := SR.rcd_length_le l k
      have HT := Lib.hid (SR.total_take_succ l k hlt)
      by_cases h0 : rcd l k = []
      · have HT2 : Hid (total (l.take (k + 1)) = total (l.take k)) := by show _ = _; rw [HT.out, h0]; rfl
        go_wp2_with fail
        refine (slot_hole B x l c k _ hba r hlt h0).mono ?_
        rintro e w' ⟨rfl, k1, rfl⟩
        clear h0
        go_wp2
        go_roundw
        case rel => exact ⟨k + 1, by omega, by go_num, by rw [HT2.out], UK.belowN hb _⟩
        case measure => simp [intOf]; omega
      · have hp := (r.there k hlt h0).1
        have hl1 := r.low1
        have hp0 : 0 < SR.pos x k := by omega
        clear hp
        go_wp2_with fail
        refine (slot_there B x l c k _ hba r hlt).mono ?_
        rintro e w' ⟨rfl, k1, rfl⟩
        clear h0
        go_wp2
        go_roundw
        case rel => exact ⟨k + 1, by omega, by go_num, by rw [HT.out]; go_num, UK.belowN hb _⟩
        case measure => simp [intOf]; omega
    · go_wp2
      go_ret
      exact ⟨by rw [List.take_of_length_le (by omega)] <;> rfl, hb⟩
theorem empty_any (B : Nat) (x : List UInt8) (l : List (List UInt8)) (c : Nat) (W : World) (h : BytesAt W B x) (r : Recs x l) :
    Calls Tryz.prog 135 #[.slice (some ⟨B, 0, none⟩) 504 c] W fun e w' => e = .returned (.int .i64 (hole l : Nat)) ∧ Below W.heap.size W w' := by
  have hf := r.few
  go_enter Tryz.func135, Tryz.ntmps135
  go_wp2_with fail
  refine (len_rec B x l c W h r).mono ?_
  rintro e w' ⟨rfl, k0, rfl⟩
  go_wp2_with fail
  go_loopw [8] (fun i wr => ∃ k : Nat, k ≤ l.length ∧ i = .int .i64 k ∧ Hid (∀ j, j < k → rcd l j ≠ []) ∧ Below W.heap.size W wr) (fun i _ => l.length - (intOf i).toNat)
  case atStart => exact ⟨0, Nat.zero_le _, rfl, fun j hj => absurd hj (Nat.not_lt_zero _), UK.belowN (Below.refl _ _) _⟩
  case round =>
    obtain ⟨k, hk, rfl, HJ, hb⟩ := hrel
    have hba := h.below hb h.lt
    by_cases hlt : k < l.length
    · by_cases h0 : rcd l k = []
      · have HH := Lib.hid (hole_at l k hk HJ.out (fun _ => h0))
        go_wp2_with fail
        refine (slot_hole B x l c k _ hba r hlt h0).mono ?_
        rintro e w' ⟨rfl, k1, rfl⟩
        clear h0
        go_wp2
        go_ret
        exact ⟨by rw [HH.out] <;> rfl, UK.belowN hb _⟩
      · have HJ2 : Hid (∀ j, j < k + 1 → rcd l j ≠ []) := fun j hj => by
          by_cases hjk : j = k
          · rw [hjk]; exact h0
          · exact HJ.out j (by omega)
        have hp := (r.there k hlt h0).1
        have hl1 := r.low1
        have hp0 : 0 < SR.pos x k := by omega
        have hp1 : ((SR.pos x k : Int) == 0) = false := by rw [beq_eq_false_iff_ne]; omega
        clear hp
        go_wp2_with fail
        refine (slot_there B x l c k _ hba r hlt).mono ?_
        rintro e w' ⟨rfl, k1, rfl⟩
        clear h0
        go_wp2
        go_roundw
        case rel => exact ⟨k + 1, by omega, by go_num, HJ2, UK.belowN hb _⟩
        case measure => simp [intOf]; omega
    · have HH := Lib.hid (hole_at l k hk HJ.out (fun h => absurd h hlt))
      have hkl : k = l.length := by omega
      have HK := Lib.hid hkl
      clear hkl
      go_wp2_with fail
      refine (len_rec B x l c _ hba r).mono ?_
      rintro e w' ⟨rfl, k1, rfl⟩
      go_wp2
      go_ret
      exact ⟨by rw [HH.out, HK.out] <;> rfl, UK.belowN hb _⟩
theorem room_any (B : Nat) (x : List UInt8) (l : List (List UInt8)) (c : Nat) (W : World) (h : BytesAt W B x) (r : Recs x l) :
    Calls Tryz.prog 134 #[.slice (some ⟨B, 0, none⟩) 504 c] W fun e w' => e = .returned (.int .i64 (room l)) ∧ Below W.heap.size W w' := by
  have hf := r.few
  have hsum := r.sum
  go_enter Tryz.func134, Tryz.ntmps134
  go_wp2_with fail
  refine (len_rec B x l c W h r).mono ?_
  rintro e w' ⟨rfl, k0, rfl⟩
  have b1 : Below W.heap.size W (W.drewN k0) := UK.belowN (Below.refl _ _) k0
  generalize W.drewN k0 = w1 at b1 ⊢
  have hba := h.below b1 h.lt
  go_wp2_with fail
  refine (used_any B x l c w1 hba r).mono ?_
  rintro e w2 ⟨rfl, b2⟩
  have b12 := b1.trans (b2.mono b1.size)
  have hba2 := h.below b12 h.lt
  go_wp2_with fail
  refine (empty_any B x l c w2 hba2 r).mono ?_
  rintro e w3 ⟨rfl, b3⟩
  have b13 := b12.trans (b3.mono b12.size)
  have hba3 := h.below b13 h.lt
  go_wp2_with fail
  refine (len_rec B x l c w3 hba3 r).mono ?_
  rintro e w' ⟨rfl, k4, rfl⟩
  by_cases hh : hole l = l.length
  · have HR : Hid (room l = 500 - 4 * l.length - total l - 4) := by show _ = _; unfold room; rw [if_pos hh]
    rw [hh]
    clear hh
    go_wp2
    go_ret
    exact ⟨by rw [HR.out] <;> rfl, UK.belowN b13 _⟩
  · have HR : Hid (room l = 500 - 4 * l.length - total l) := by show _ = _; unfold room; rw [if_neg hh]; omega
    have hb : ((hole l : Int) == (l.length : Int)) = false := by rw [beq_eq_false_iff_ne]; omega
    clear hh
    go_wp2
    go_ret
    exact ⟨by rw [HR.out] <;> rfl, UK.belowN b13 _⟩
/-- is there such a record? -/
def hasB (l : List (List UInt8)) (i : Int) : Bool := decide (0 ≤ i ∧ i < l.length ∧ rcd l i.toNat ≠ [])
theorem has_any (B : Nat) (x : List UInt8) (l : List (List UInt8)) (c : Nat) (i : Int) (W : World) (h : BytesAt W B x) (r : Recs x l) :
    Calls Tryz.prog 98 #[.slice (some ⟨B, 0, none⟩) 504 c, .int .i64 i] W fun e w' => e = .returned (.bool (hasB l i)) ∧ Below W.heap.size W w' := by
  have hf := r.few
  by_cases h1 : i < 0
  · have HB : Hid (hasB l i = false) := by show _ = _; unfold hasB; simp; omega
    go_enter Tryz.func98, Tryz.ntmps98
    go_wp2
    go_ret
    exact ⟨by rw [HB.out] <;> rfl, Below.refl _ _⟩
  · obtain ⟨i, rfl⟩ := Int.eq_ofNat_of_zero_le (by omega : 0 ≤ i)
    by_cases h2 : i < l.length
    · by_cases h0 : rcd l i = []
      · have HB : Hid (hasB l i = false) := by show _ = _; unfold hasB; simp [h0]
        go_enter Tryz.func98, Tryz.ntmps98
        go_wp2_with fail
        refine (len_rec B x l c W h r).mono ?_
        rintro e w' ⟨rfl, k0, rfl⟩
        go_wp2_with fail
        refine (slot_hole B x l c i _ (h.drewN k0) r h2 h0).mono ?_
        rintro e w' ⟨rfl, k1, rfl⟩
        clear h0
        go_wp2
        go_ret
        exact ⟨by rw [HB.out] <;> rfl, UK.belowN (Below.refl _ _) _⟩
      · have HB : Hid (hasB l i = true) := by show _ = _; unfold hasB; simp [h0, h2]
        have hp := (r.there i h2 h0).1
        have hl1 := r.low1
        have hp0 : 0 < SR.pos x i := by omega
        clear hp
        go_enter Tryz.func98, Tryz.ntmps98
        go_wp2_with fail
        refine (len_rec B x l c W h r).mono ?_
        rintro e w' ⟨rfl, k0, rfl⟩
        go_wp2_with fail
        refine (slot_there B x l c i _ (h.drewN k0) r h2).mono ?_
        rintro e w' ⟨rfl, k1, rfl⟩
        clear h0
        go_wp2
        go_ret
        exact ⟨by rw [HB.out] <;> rfl, UK.belowN (Below.refl _ _) _⟩
    · have HB : Hid (hasB l i = false) := by show _ = _; unfold hasB; simp; omega
      go_enter Tryz.func98, Tryz.ntmps98
      go_wp2_with fail
      refine (len_rec B x l c W h r).mono ?_
      rintro e w' ⟨rfl, k0, rfl⟩
      go_wp2
      go_ret
      exact ⟨by rw [HB.out] <;> rfl, UK.belowN (Below.refl _ _) _⟩
theorem get_no (B : Nat) (x : List UInt8) (l : List (List UInt8)) (c : Nat) (i : Int) (W : World) (h : BytesAt W B x) (r : Recs x l) (hn : hasB l i = false) :
    Calls Tryz.prog 90 #[.slice (some ⟨B, 0, none⟩) 504 c, .int .i64 i] W fun e w' => e = .returned (.tuple #[.string (str []), .bool false]) ∧ Below W.heap.size W w' := by
  have h1 := fun W h => has_any B x l c i W h r
  rw [hn] at h1
  have H1 := Lib.hid h1
  clear h1 hn
  go_enter Tryz.func90, Tryz.ntmps90
  go_wp2_with fail
  refine (H1.out W h).mono ?_
  rintro e w' ⟨rfl, hb⟩
  go_wp2
  go_ret2
  exact ⟨rfl, hb⟩
theorem rec_window {x : List UInt8} {l : List (List UInt8)} (r : Recs x l) {i : Nat} (hi : i < l.length) (h0 : rcd l i ≠ []) : (x.drop (SR.pos x i)).take (rcd l i).length = rcd l i := by
  have hsz := r.size
  have ht := r.there i hi h0
  apply List.ext_getElem?
  intro k
  rw [List.getElem?_take]
  by_cases hk : k < (rcd l i).length
  · rw [if_pos hk, List.getElem?_drop]
    have hb := r.bytes i hi k hk
    unfold nth List.getD at hb
    rw [List.getElem?_eq_getElem (by omega : SR.pos x i + k < x.length), List.getElem?_eq_getElem hk] at hb
    rw [List.getElem?_eq_getElem (by omega : SR.pos x i + k < x.length), List.getElem?_eq_getElem hk]
    simpa using hb
  · rw [if_neg hk, List.getElem?_eq_none (by omega)]
theorem get_yes (B : Nat) (x : List UInt8) (l : List (List UInt8)) (c : Nat) (hc : 504 ≤ c) (i : Nat) (W : World) (h : BytesAt W B x) (r : Recs x l) (hi : i < l.length) (h0 : rcd l i ≠ []) :
    Calls Tryz.prog 90 #[.slice (some ⟨B, 0, none⟩) 504 c, .int .i64 i] W fun e w' => e = .returned (.tuple #[.string (str (rcd l i)), .bool true]) ∧ Below W.heap.size W w' := by
  have hsz := r.size
  have h1 := fun W h => has_any B x l c i W h r
  have hn : hasB l i = true := by unfold hasB; simp [hi, h0]
  rw [hn] at h1
  have H1 := Lib.hid h1
  clear h1 hn
  have ht := r.there i hi h0
  have hw := rec_window r hi h0
  have HW := Lib.hid hw
  clear hw
  have hpc : SR.pos x i + (rcd l i).length ≤ c := by omega
  have hp5 : SR.pos x i + (rcd l i).length ≤ 504 := ht.2.1
  have hp0 : 0 < (rcd l i).length := List.length_pos_iff.2 h0
  have hne : ¬ c = SR.pos x i := by omega
  have hpx : SR.pos x i + (rcd l i).length ≤ x.length := by omega
  have H0 := Lib.hid h0
  clear ht h0
  go_enter Tryz.func90, Tryz.ntmps90
  go_wp2_with fail
  refine (H1.out W h).mono ?_
  rintro e w1 ⟨rfl, hb⟩
  have hba := h.below hb h.lt
  go_wp2_with fail
  refine (slot_there B x l c i _ hba r hi).mono ?_
  rintro e w' ⟨rfl, k1, rfl⟩
  have hcv := UK.run_window (P := Tryz.prog) (src := 92) (dst := 9) Tryz.underlying92 Tryz.underlying5 Tryz.underlying9 (hba.drewN k1) (SR.pos x i) (rcd l i).length (c - SR.pos x i) hpx
  rw [HW.out] at hcv
  go_wp2
  go_ret2
  exact ⟨rfl, UK.belowN hb _⟩
end Go.Proofs.YtjfkdfffolkblaaGreatDoor.SL
