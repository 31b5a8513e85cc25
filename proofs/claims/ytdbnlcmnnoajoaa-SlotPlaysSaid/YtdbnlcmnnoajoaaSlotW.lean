/-
  slot's small functions, walked: what they read and write of a page's bytes.
-/
import Derived.Test.YtdbnlcmnnoajoaaUOnly
import Derived.Test.YtdbnlcmnnoajoaaSlotR
namespace Go.Proofs.Ytdbnlcmnnoajoaa
open Go.RowKit
open UK (str BytesAt nth Only)
open Go.BigFrame
theorem or_two (p q : UInt8) : bits .or .i64 (p.toNat : Int) ((q.toNat : Int) * 256) = ((p.toNat + 256 * q.toNat : Nat) : Int) := by
  have hp := p.toNat_lt
  have hq := q.toNat_lt
  show IntKind.i64.wrap ((BitVec.ofInt 64 (p.toNat : Int) ||| BitVec.ofInt 64 ((q.toNat : Int) * 256)).toNat : Int) = _
  rw [show ((q.toNat : Int) * 256) = ((q.toNat * 256 : Nat) : Int) by omega, BitVec.ofInt_natCast, BitVec.ofInt_natCast, BitVec.toNat_or, BitVec.toNat_ofNat, BitVec.toNat_ofNat, Nat.mod_eq_of_lt (by omega), Nat.mod_eq_of_lt (by omega), IntKind.wrap_i64, Nat.or_comm, nat_join 8 _ _ (by omega) (by omega)]
  omega
def b8 (n : Nat) : UInt8 := UInt8.ofNat n
theorem ret_int {k : IntKind} {a b : Int} (h : a = b) : Ending.returned (.int k a) = .returned (.int k b) := by rw [h]
theorem wrap64_u8 (p : UInt8) : wrap64 (p.toNat : Int) = (p.toNat : Int) := by
  have hp := p.toNat_lt
  unfold wrap64; omega
theorem or_two' (p q : UInt8) : bits .or .i64 (wrap64 (p.toNat : Int)) (wrap64 (wrap64 (q.toNat : Int) * 256)) = ((p.toNat + 256 * q.toNat : Nat) : Int) := by
  have hq := q.toNat_lt
  have e : wrap64 ((q.toNat : Int) * 256) = (q.toNat : Int) * 256 := by unfold wrap64; omega
  rw [wrap64_u8, wrap64_u8, e, or_two]
theorem two_any (B : Nat) (x : List UInt8) (c : Nat) (a : Int) (W : World) (h : BytesAt W B x) (hn : 504 ≤ x.length) (ha0 : 0 ≤ a) (ha : a + 1 < 504) :
    Calls Try.prog 35 #[.slice (some ⟨B, 0, none⟩) 504 c, .int .i64 a] W fun e w' => e = .returned (.int .i64 (SR.two x a.toNat : Nat)) ∧ ∃ k, w' = W.drewN k := by
  obtain ⟨a, rfl⟩ := Int.eq_ofNat_of_zero_le ha0
  rw [Int.toNat_natCast]
  have h0 := h.cell (i := a) (by omega)
  have h1 := h.cell (i := a + 1) (by omega)
  have h2 : (a : Int) < 504 := by omega
  have h3 : (a : Int) + 1 < 504 := by omega
  have h4 : IntKind.i64.wrap ((a : Int) + 1) = (a : Int) + 1 := IntWalk.i64_in _ (by omega)
  have h5 : (0 : Int) ≤ (a : Int) + 1 := by omega
  have h6 : ((a : Int) + 1).toNat = a + 1 := by omega
  go_enter Try.func35, Try.ntmps35
  go_wp2
  go_quiet (fail)
  go_wp2
  go_ret
  exact ⟨ret_int (or_two' _ _), _, rfl⟩
theorem put_any (B : Nat) (x : List UInt8) (c : Nat) (a m : Int) (W : World) (h : BytesAt W B x) (hn : 504 ≤ x.length) (ha0 : 0 ≤ a) (ha : a + 1 < 504) (hm0 : 0 ≤ m) (hm : m < 65536) :
    Calls Try.prog 19 #[.slice (some ⟨B, 0, none⟩) 504 c, .int .i64 a, .int .i64 m] W fun e w' => e = .returned (.tuple #[]) ∧ BytesAt w' B (SR.put x a.toNat m.toNat) ∧ Only B W w' := by
  obtain ⟨a, rfl⟩ := Int.eq_ofNat_of_zero_le ha0
  obtain ⟨m, rfl⟩ := Int.eq_ofNat_of_zero_le hm0
  rw [Int.toNat_natCast, Int.toNat_natCast]
  have h0 := h.cell (i := a) (by omega)
  have h1 := h.cell (i := a + 1) (by omega)
  have f0 := h.free (i := a) (by omega)
  have f1 := h.free (i := a + 1) (by omega)
  have h2 : (a : Int) < 504 := by omega
  have h3 : (a : Int) + 1 < 504 := by omega
  have h4 : ((m : Int) % 256) = ((b8 m).toNat : Int) := by simp [b8]
  have h5 : ((m : Int) / 256) = ((b8 (m / 256)).toNat : Int) := by simp [b8]; omega
  have HS := Lib.hid ((h.set a (b8 m)).set (a + 1) (b8 (m / 256)))
  have HO := Lib.hid (((Only.refl B W).set a (.int .u8 ((b8 m).toNat : Int))).set (a + 1) (.int .u8 ((b8 (m / 256)).toNat : Int)))
  go_enter Try.func19, Try.ntmps19
  go_wp2
  go_end0
  exact ⟨rfl, HS.out, HO.out⟩
theorem len_any (B : Nat) (x : List UInt8) (c : Nat) (W : World) (h : BytesAt W B x) (hn : 504 ≤ x.length) :
    Calls Try.prog 21 #[.slice (some ⟨B, 0, none⟩) 504 c] W fun e w' => e = .returned (.int .i64 (SR.two x 0 : Nat)) ∧ ∃ k, w' = W.drewN k := by
  go_enter Try.func21, Try.ntmps21
  go_wp2_with fail
  refine (two_any B x c _ W h hn (by omega) (by omega)).mono ?_
  rintro e w' ⟨rfl, k, rfl⟩
  go_wp2
  go_ret
  exact ⟨rfl, _, rfl⟩
theorem low_any (B : Nat) (x : List UInt8) (c : Nat) (W : World) (h : BytesAt W B x) (hn : 504 ≤ x.length) :
    Calls Try.prog 24 #[.slice (some ⟨B, 0, none⟩) 504 c] W fun e w' => e = .returned (.int .i64 (SR.low x : Nat)) ∧ ∃ k, w' = W.drewN k := by
  go_enter Try.func24, Try.ntmps24
  go_wp2_with fail
  refine (two_any B x c _ W h hn (by omega) (by omega)).mono ?_
  rintro e w' ⟨rfl, k, rfl⟩
  go_wp2
  go_ret
  exact ⟨rfl, _, rfl⟩
theorem slot_any (B : Nat) (x : List UInt8) (c : Nat) (i : Int) (W : World) (h : BytesAt W B x) (hn : 504 ≤ x.length) (hi0 : 0 ≤ i) (hi : 4 + 4 * i + 3 < 504) :
    Calls Try.prog 28 #[.slice (some ⟨B, 0, none⟩) 504 c, .int .i64 i] W fun e w' => e = .returned (.tuple #[.int .i64 (SR.pos x i.toNat : Nat), .int .i64 (SR.ext x i.toNat : Nat)]) ∧ ∃ k, w' = W.drewN k := by
  obtain ⟨i, rfl⟩ := Int.eq_ofNat_of_zero_le hi0
  rw [Int.toNat_natCast]
  go_enter Try.func28, Try.ntmps28
  go_wp2_with fail
  refine (two_any B x c _ W h hn (by omega) (by omega)).mono ?_
  rintro e w' ⟨rfl, k1, rfl⟩
  go_wp2_with fail
  refine (two_any B x c _ _ (h.drewN k1) hn (by omega) (by omega)).mono ?_
  rintro e w' ⟨rfl, k2, rfl⟩
  rw [show (4 + 4 * (i : Int)).toNat = 4 + 4 * i by omega, show (4 + 4 * (i : Int) + 2).toNat = 4 + 4 * i + 2 by omega]
  go_wp2
  go_ret2
  exact ⟨rfl, _, rfl⟩
theorem lay_any (B : Nat) (x : List UInt8) (c : Nat) (i a n : Int) (W : World) (h : BytesAt W B x) (hn : 504 ≤ x.length) (hi0 : 0 ≤ i) (hi : 4 + 4 * i + 3 < 504) (ha0 : 0 ≤ a) (ha : a < 65536) (hn0 : 0 ≤ n) (hn1 : n < 65536) :
    Calls Try.prog 26 #[.slice (some ⟨B, 0, none⟩) 504 c, .int .i64 i, .int .i64 a, .int .i64 n] W fun e w' => e = .returned (.tuple #[]) ∧ BytesAt w' B (SR.lay x i.toNat a.toNat n.toNat) ∧ Only B W w' := by
  obtain ⟨i, rfl⟩ := Int.eq_ofNat_of_zero_le hi0
  rw [Int.toNat_natCast]
  go_enter Try.func26, Try.ntmps26
  go_wp2_with fail
  refine (put_any B x c _ _ W h hn (by omega) (by omega) ha0 ha).mono ?_
  rintro e w1 ⟨rfl, h1, o1⟩
  go_wp2_with fail
  refine (put_any B _ c _ _ w1 h1 (by rw [SR.put_length]; exact hn) (by omega) (by omega) hn0 hn1).mono ?_
  rintro e w2 ⟨rfl, h2, o2⟩
  rw [show (4 + 4 * (i : Int)).toNat = 4 + 4 * i by omega, show (4 + 4 * (i : Int) + 2).toNat = 4 + 4 * i + 2 by omega] at h2
  go_wp2
  go_end0
  exact ⟨rfl, h2, o1.trans o2⟩
end Go.Proofs.Ytdbnlcmnnoajoaa
