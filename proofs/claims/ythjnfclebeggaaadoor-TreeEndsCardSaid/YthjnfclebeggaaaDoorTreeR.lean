/-
  tabularlaw08: awake.
  Walk over a tree of two keys; a literal that counts.
-/
import Derived.Test.YthjnfclebeggaaaDoorTreeN
namespace Go.Proofs.YthjnfclebeggaaaDoor
open Go.RowKit
open UK (str BytesAt nth Only Row Box w32)
open Go.BigFrame
theorem st0 {k : UInt64} {i : Nat} (h : Stands [] k i) : i = 0 := Nat.le_zero.1 h.le
theorem st1 {a k : UInt64} {i : Nat} (h : Stands [a] k i) : (a.toNat < k.toNat → i = 1) ∧ (k.toNat ≤ a.toNat → i = 0) := by
  have hle : i ≤ 1 := h.le
  refine ⟨fun hk => ?_, fun hk => ?_⟩
  · rcases Nat.eq_zero_or_pos i with h0 | h0
    · have := h.above 0 a (by omega) rfl; omega
    · omega
  · rcases Nat.eq_zero_or_pos i with h0 | h0
    · exact h0
    · have := h.below 0 a h0 rfl; omega
theorem st2 {a b k : UInt64} {i : Nat} (h : Stands [a, b] k i) : (a.toNat < k.toNat → k.toNat ≤ b.toNat → i = 1) ∧ (k.toNat ≤ a.toNat → i = 0) := by
  have hle : i ≤ 2 := h.le
  refine ⟨fun h1 h2 => ?_, fun hk => ?_⟩
  · rcases Nat.lt_trichotomy i 1 with h0 | h0 | h0
    · have := h.above 0 a (by omega) rfl; omega
    · exact h0
    · have := h.below 1 b h0 rfl; omega
  · rcases Nat.eq_zero_or_pos i with h0 | h0
    · exact h0
    · have := h.below 0 a h0 rfl; omega
set_option maxHeartbeats 1000000 in
set_option maxRecDepth 100000 in
theorem awake_any (W : World) (ht : TabAt W) (S : Nat → Prop) (hS : ∀ j, S j → j < W.heap.size) :
    Calls Tryd.prog 30 #[] W fun e w' => e = .returned (.bool true) ∧ Kept S W w' := by
  have HM := Lib.hid (made_new W ht S hS)
  go_enter Tryd.func30, Tryd.ntmps30
  go_wp2_with fail
  refine HM.out.mono ?_
  rintro e w1 ⟨P, D, T, A, N, M, rfl, l1, hN, k1⟩
  have h1 := lt_put l1 (by omega) (by simp) 5 50 (by simp)
  rw [show ((5 : UInt64).toNat : Int) = 5 from rfl, show ((50 : UInt64).toNat : Int) = 50 from rfl] at h1
  have H1 := Lib.hid h1
  have K1 := Lib.hid k1
  clear HM l1 hN k1 h1
  go_wp2_with fail
  refine H1.out.mono ?_
  rintro e w2 ⟨rfl, i, A2, hst, l2, k2⟩
  obtain rfl := st0 hst
  replace l2 : LT (fun j => S j ∨ (N ≤ j ∧ j < M)) w2 P D T 1 A2 8 [5] [50] := l2
  have h2 := lt_put l2 (by omega) (by simp) 2 20 (by simp)
  rw [show ((2 : UInt64).toNat : Int) = 2 from rfl, show ((20 : UInt64).toNat : Int) = 20 from rfl] at h2
  have H2 := Lib.hid h2
  have K2 := Lib.hid (K1.out.trans (k2.mono (fun _ hj => .inl hj)))
  clear H1 K1 l2 k2 h2 hst
  go_wp2_with fail
  refine H2.out.mono ?_
  rintro e w3 ⟨rfl, i, A3, hst, l3, k3⟩
  obtain rfl := (st1 hst).2 (by decide)
  replace l3 : LT (fun j => S j ∨ (N ≤ j ∧ j < M)) w3 P D T 1 A3 13 [2, 5] [20, 50] := l3
  have h3 := lt_next l3 (by omega) (by simp) 3
  rw [show ((3 : UInt64).toNat : Int) = 3 from rfl] at h3
  have H3 := Lib.hid h3
  have K3 := Lib.hid (K2.out.trans (k3.mono (fun _ hj => .inl hj)))
  clear H2 K2 l3 k3 h3 hst
  go_wp2_with fail
  refine H3.out.mono ?_
  rintro e w4 ⟨i, hst, he, l4, k4⟩
  obtain rfl := (st2 hst).1 (by decide) (by decide)
  obtain rfl : e = .returned (.tuple #[.int .u64 5, .int .u64 50, .bool true, .int .i64 0]) := he
  have h4 := lt_drop l4 (by omega) (by simp) 5 (by simp)
  rw [show ((5 : UInt64).toNat : Int) = 5 from rfl] at h4
  have H4 := Lib.hid h4
  have K4 := Lib.hid (K3.out.trans (k4.mono (fun _ hj => .inl hj)))
  clear H3 K3 l4 k4 h4 hst
  go_wp2_with fail
  refine H4.out.mono ?_
  rintro e w5 ⟨rfl, i, A5, hi, hst, l5, k5⟩
  obtain rfl := (st2 hst).1 (by decide) (by decide)
  replace l5 : LT (fun j => S j ∨ (N ≤ j ∧ j < M)) w5 P D T 1 A5 20 [2] [20] := l5
  have h5 := lt_next l5 (by omega) (by simp) 3
  rw [show ((3 : UInt64).toNat : Int) = 3 from rfl] at h5
  have H5 := Lib.hid h5
  have K5 := Lib.hid (K4.out.trans (k5.mono (fun _ hj => .inl hj)))
  clear H4 K4 l5 k5 h5 hst hi
  go_wp2_with fail
  refine H5.out.mono ?_
  rintro e w6 ⟨i, hst, he, l6, k6⟩
  obtain rfl := (st1 hst).1 (by decide)
  obtain rfl : e = .returned (.tuple #[.int .u64 0, .int .u64 0, .bool false, .int .i64 0]) := he
  have K6 := Lib.hid (K5.out.trans (k6.mono (fun _ hj => .inl hj)))
  clear H5 K5 l6 k6 hst
  go_wp2
  go_ret
  exact ⟨rfl, K6.out⟩
end Go.Proofs.YthjnfclebeggaaaDoor
namespace Go.Proofs.YthjnfclebeggaaaDoor
open Go.RowKit
open UK (str BytesAt nth Only Row Box w32)
open Go.BigFrame
section
variable {E : Nat → Prop} {W W' : World} {P D T k rt cb : Nat} {A : AP} {ks vs : List UInt64}
/-- a foreign block has turned -/
theorem LT.over (h : LT E W P D T rt A k ks vs) (o : Only cb W W') (hE : E cb) (hT : T ≠ cb) (ht : cb ≠ 0) : LT E W' P D T rt A k ks vs :=
  ⟨⟨h.at'.pz.over (R := fun j => j = cb) (fun j hj => by rw [hj]; exact hE) (fun e => ht e.symm) o.size (fun j hj hr => o.block j hj hr) (fun _ hj => .inl hj), h.at'.box.only o hT, h.at'.mem⟩, h.leaf, h.len⟩
theorem LT.up {m : Nat} (h : LT E W P D T rt A k ks vs) (hm : k ≤ m) : LT E W P D T rt A m ks vs := ⟨⟨h.at'.pz.up hm, h.at'.box, h.at'.mem⟩, h.leaf, h.len⟩
set_option maxRecDepth 100000 in
theorem count_one (a b : Int) (W : World) (cb : Nat) (n : Nat) (hn : n < 5) (h : Box W cb #[.int .i64 n]) :
    Calls Tryd.prog 29 #[.int .u64 a, .int .u64 b, .pointer (some ⟨cb, 0, none⟩)] W fun e w' => e = .returned (.bool true) ∧ w' = W.setCell ⟨cb, 0, none⟩ (.int .i64 ((n : Int) + 1)) := by
  have c0 : W.cell? ⟨cb, 0, none⟩ = some (.int .i64 n) := h.cell 0 _ rfl
  have f0 : W.frozen? ⟨cb, 0, none⟩ = false := h.free 0
  clear h
  go_enter Tryd.func29, Tryd.ntmps29
  go_wp2
  go_ret
  exact ⟨rfl, rfl⟩
set_option maxHeartbeats 1000000 in
set_option maxRecDepth 100000 in
theorem walk_two {v w : UInt64} (h : LT E W P D T rt A k [0, 18446744073709551615] [v, w]) (hk : k + 4 < 900000000) (hc : Box W cb #[.int .i64 0]) (hE : E cb) (hT : T ≠ cb) (ht : cb ≠ 0) :
    Calls Tryd.prog 28 #[.pointer (some ⟨T, 0, none⟩), .int .u64 0, .func (.func 29) #[] #[.pointer (some ⟨cb, 0, none⟩)]] W fun e w' => e = .returned (.int .i64 0) ∧ Box w' cb #[.int .i64 2] ∧ Kept (fun j => E j ∧ j ≠ cb) W w' := by
  have hst : ∃ m : Nat, m ≤ 1 ∧ LT E W P D T rt A (k + 2 * m) [0, 18446744073709551615] [v, w] ∧ Box W cb #[.int .i64 m] ∧ Kept (fun j => E j ∧ j ≠ cb) W W ∧ (m = 0) := ⟨0, by omega, h, hc, Kept.of_below (Below.refl _ _) (fun j hj => h.at'.pz.there j hj.1), rfl⟩
  clear h hc
  go_enter Tryd.func28, Tryd.ntmps28
  go_wp2_with fail
  go_loopw [7] (fun kv wr => ∃ m : Nat, kv = .int .u64 m ∧ m ≤ 1 ∧ LT E wr P D T rt A (k + 2 * m) [0, 18446744073709551615] [v, w] ∧ Box wr cb #[.int .i64 m] ∧ Kept (fun j => E j ∧ j ≠ cb) W wr) (fun kv _ => 2 - (intOf kv).toNat)
  case atStart =>
    obtain ⟨m, h1, h2, h3, h4, rfl⟩ := hst
    exact ⟨0, rfl, h1, h2, h3, h4⟩
  case round =>
    clear hst
    obtain ⟨m, rfl, hm, hl, hb, hkp⟩ := hrel
    rcases (show m = 0 ∨ m = 1 by omega) with rfl | rfl
    · have h3 := lt_next hl (by omega) (by simp) 0
      rw [show ((0 : UInt64).toNat : Int) = 0 from rfl] at h3
      have H3 := Lib.hid h3
      have HB := Lib.hid (And.intro hb hkp)
      clear hl h3 hb hkp
      go_wp2_with fail
      refine H3.out.mono ?_
      rintro e w4 ⟨i, hst, he, l4, k4⟩
      obtain rfl := (st2 hst).2 (by decide)
      obtain rfl : e = .returned (.tuple #[.int .u64 0, .int .u64 v.toNat, .bool true, .int .i64 0]) := he
      obtain ⟨hb, hkp⟩ := HB.out
      have hb4 := hb.of_block (k4.block cb hE)
      have HC := Lib.hid (count_one 0 v.toNat w4 cb 0 (by omega) hb4)
      have o4 : Only cb w4 (w4.setCell ⟨cb, 0, none⟩ (.int .i64 1)) := (Only.refl cb w4).set 0 _
      have l5 := (l4.over o4 hE hT ht).up (show k + 2 * 0 + 2 ≤ k + 2 * 1 by omega)
      have b5 : Box (w4.setCell ⟨cb, 0, none⟩ (.int .i64 1)) cb #[.int .i64 1] := hb4.set 0 _
      have k5 : Kept (fun j => E j ∧ j ≠ cb) W (w4.setCell ⟨cb, 0, none⟩ (.int .i64 1)) := (hkp.trans (k4.mono (fun _ hj => hj.1))).trans ⟨o4.os, o4.tape, o4.output, o4.size, fun j hj => o4.block j (l4.at'.pz.there j hj.1) hj.2⟩
      have H5 := Lib.hid (And.intro l5 (And.intro b5 k5))
      clear H3 HB hst l4 k4 hb hkp hb4 o4 l5 b5 k5
      go_wp2_with fail
      refine HC.out.mono ?_
      rintro e w5 ⟨rfl, rfl⟩
      go_wp2
      go_roundw
      case rel => exact ⟨1, rfl, by omega, H5.out.1, H5.out.2.1, H5.out.2.2⟩
      case measure => simp [intOf]
    · have h3 := lt_next hl (by omega) (by simp) 1
      rw [show ((1 : UInt64).toNat : Int) = 1 from rfl] at h3
      have H3 := Lib.hid h3
      have HB := Lib.hid (And.intro hb hkp)
      clear hl h3 hb hkp
      go_wp2_with fail
      refine H3.out.mono ?_
      rintro e w4 ⟨i, hst, he, l4, k4⟩
      obtain rfl := (st2 hst).1 (by decide) (by decide)
      obtain rfl : e = .returned (.tuple #[.int .u64 18446744073709551615, .int .u64 w.toNat, .bool true, .int .i64 0]) := he
      obtain ⟨hb, hkp⟩ := HB.out
      have hb4 := hb.of_block (k4.block cb hE)
      have HC := Lib.hid (count_one 18446744073709551615 w.toNat w4 cb 1 (by omega) hb4)
      have o4 : Only cb w4 (w4.setCell ⟨cb, 0, none⟩ (.int .i64 2)) := (Only.refl cb w4).set 0 _
      have b5 : Box (w4.setCell ⟨cb, 0, none⟩ (.int .i64 2)) cb #[.int .i64 2] := hb4.set 0 _
      have k5 : Kept (fun j => E j ∧ j ≠ cb) W (w4.setCell ⟨cb, 0, none⟩ (.int .i64 2)) := (hkp.trans (k4.mono (fun _ hj => hj.1))).trans ⟨o4.os, o4.tape, o4.output, o4.size, fun j hj => o4.block j (l4.at'.pz.there j hj.1) hj.2⟩
      have H5 := Lib.hid (And.intro b5 k5)
      clear H3 HB hst l4 k4 hb hkp hb4 o4 b5 k5
      go_wp2_with fail
      refine HC.out.mono ?_
      rintro e w5 ⟨rfl, rfl⟩
      go_wp2
      go_ret
      exact ⟨rfl, H5.out⟩
end
end Go.Proofs.YthjnfclebeggaaaDoor
