/-
  The statement's law: TreeEnds.
-/
import Derived.Test.YthjnfclebeggaaaDoorTreeR
namespace Go.Proofs.YthjnfclebeggaaaDoor
open Go.RowKit
open UK (str BytesAt nth Only Row Box w32)
open Go.BigFrame
theorem tab_kept {W W' : World} (ht : TabAt W) (hk : Kept (fun j => j < W.heap.size) W W') : TabAt W' := fun c => (World.cell?_of_block (a := ⟨_, _, none⟩) (hk.block _ ht.lt)).trans (ht c)
set_option maxHeartbeats 2000000 in
set_option maxRecDepth 100000 in
theorem te_any (v w : UInt64) (W : World) (ht : TabAt W) :
    Calls Tryd.prog 5 #[.int .u64 v.toNat, .int .u64 w.toNat] W fun e w' => e = .returned (.bool true) ∧ Kept (fun j => j < W.heap.size) W w' := by
  have HM := Lib.hid (made_new W ht (fun j => j < W.heap.size) (fun _ h => h))
  go_enter Tryd.func5, Tryd.ntmps5
  go_wp2_with fail
  refine HM.out.mono ?_
  rintro e w1 ⟨P, D, T, A, N, M, rfl, l1, hN, k1⟩
  have h1 := lt_put l1 (by omega) (by simp) 0 v (by simp)
  rw [show ((0 : UInt64).toNat : Int) = 0 from rfl] at h1
  have H1 := Lib.hid h1
  have K1 := Lib.hid k1
  clear HM l1 hN k1 h1
  go_wp2_with fail
  refine H1.out.mono ?_
  rintro e w2 ⟨rfl, i, A2, hst, l2, k2⟩
  obtain rfl := st0 hst
  replace l2 : LT (fun j => j < W.heap.size ∨ (N ≤ j ∧ j < M)) w2 P D T 1 A2 8 [0] [v] := l2
  have h2 := lt_put l2 (by omega) (by simp) 18446744073709551615 w (by simp)
  rw [show ((18446744073709551615 : UInt64).toNat : Int) = 18446744073709551615 from rfl] at h2
  have H2 := Lib.hid h2
  have K2 := Lib.hid (K1.out.trans (k2.mono (fun _ hj => .inl hj)))
  clear H1 K1 l2 k2 h2 hst
  go_wp2_with fail
  refine H2.out.mono ?_
  rintro e w3 ⟨rfl, i, A3, hst, l3, k3⟩
  obtain rfl := (st1 hst).1 (by decide)
  replace l3 : LT (fun j => j < W.heap.size ∨ (N ≤ j ∧ j < M)) w3 P D T 1 A3 13 [0, 18446744073709551615] [v, w] := l3
  have h3 := lt_next l3 (by omega) (by simp) 0
  rw [show ((0 : UInt64).toNat : Int) = 0 from rfl] at h3
  have H3 := Lib.hid h3
  have K3 := Lib.hid (K2.out.trans (k3.mono (fun _ hj => .inl hj)))
  clear H2 K2 l3 k3 h3 hst
  go_wp2_with fail
  refine H3.out.mono ?_
  rintro e w4 ⟨i, hst, he, l4, k4⟩
  obtain rfl := (st2 hst).2 (by decide)
  obtain rfl : e = .returned (.tuple #[.int .u64 0, .int .u64 v.toNat, .bool true, .int .i64 0]) := he
  have h4 := lt_next l4 (by omega) (by simp) 1
  rw [show ((1 : UInt64).toNat : Int) = 1 from rfl] at h4
  have H4 := Lib.hid h4
  have K4 := Lib.hid (K3.out.trans (k4.mono (fun _ hj => .inl hj)))
  clear H3 K3 l4 k4 h4 hst
  go_wp2_with fail
  refine H4.out.mono ?_
  rintro e w5 ⟨i, hst, he, l5, k5⟩
  obtain rfl := (st2 hst).1 (by decide) (by decide)
  obtain rfl : e = .returned (.tuple #[.int .u64 18446744073709551615, .int .u64 w.toNat, .bool true, .int .i64 0]) := he
  have h5 := lt_next l5 (by omega) (by simp) 18446744073709551615
  rw [show ((18446744073709551615 : UInt64).toNat : Int) = 18446744073709551615 from rfl] at h5
  have H5 := Lib.hid h5
  have K5 := Lib.hid (K4.out.trans (k5.mono (fun _ hj => .inl hj)))
  clear H4 K4 l5 k5 h5 hst
  go_wp2_with fail
  refine H5.out.mono ?_
  rintro e w6 ⟨i, hst, he, l6, k6⟩
  obtain rfl := (st2 hst).1 (by decide) (by decide)
  obtain rfl : e = .returned (.tuple #[.int .u64 18446744073709551615, .int .u64 w.toNat, .bool true, .int .i64 0]) := he
  have k6' := K5.out.trans (k6.mono (fun _ hj => .inl hj))
  have hTl := l6.at'.box.lt
  have htl := ht.lt
  have hsz := k6'.size
  have bel : Below w6.heap.size w6 (w6.alloc (.cells #[.int .i64 0] 3)) := (Below.refl _ _).alloc (Nat.le_refl _) _
  have b7 : Box (w6.alloc (.cells #[.int .i64 0] 3)) w6.heap.size #[.int .i64 0] := Box.new w6 #[.int .i64 0] 3
  have l6' : LT (fun j => (j < W.heap.size ∨ (N ≤ j ∧ j < M)) ∨ j = w6.heap.size) (w6.alloc (.cells #[.int .i64 0] 3)) P D T 1 A3 19 [0, 18446744073709551615] [v, w] :=
    ⟨⟨l6.at'.pz.wide bel (fun j hj => by
      rcases hj with hj | hj
      · exact .inl hj
      · exact .inr ⟨by omega, by rw [hj]; simp⟩), l6.at'.box.next bel, .inl l6.at'.mem⟩, l6.leaf, l6.len⟩
  have hTn : T ≠ w6.heap.size := by omega
  have hcn : w6.heap.size ≠ 0 := by omega
  have k7 : Kept (fun j => j < W.heap.size) W (w6.alloc (.cells #[.int .i64 0] 3)) := k6'.trans (Kept.of_below bel (fun j hj => by omega))
  have HW := Lib.hid (walk_two l6' (by omega) b7 (.inr rfl) hTn hcn)
  have K7 := Lib.hid (And.intro k7 hsz)
  clear H5 K5 hst l6 k6 k6' hTl bel b7 l6' k7 hTn hcn htl
  go_wp2_with fail
  refine HW.out.mono ?_
  rintro e w8 ⟨rfl, b8, k8⟩
  obtain ⟨k7, hsz⟩ := K7.out
  have k8' := k7.trans (k8.mono (fun j hj => ⟨.inl (.inl hj), by omega⟩))
  have HA := Lib.hid (awake_any w8 (tab_kept ht k8') (fun j => j < W.heap.size ∨ j = w6.heap.size) (fun j hj => by
    rcases hj with hj | hj
    · exact Nat.lt_of_lt_of_le hj k8'.size
    · rw [hj]; exact b8.lt))
  have HB := Lib.hid (And.intro b8 k8')
  clear HW K7 b8 k8 k7 k8'
  go_wp2_with fail
  refine HA.out.mono ?_
  rintro e w9 ⟨rfl, k9⟩
  obtain ⟨b8, k8⟩ := HB.out
  have b9 := b8.of_block (k9.block _ (.inr rfl))
  have c9 : w9.cell? ⟨w6.heap.size, 0, none⟩ = some (.int .i64 2) := b9.cell 0 _ rfl
  have K9 := Lib.hid (k8.trans (k9.mono (fun _ hj => .inl hj)))
  clear HA HB b8 k8 k9 b9
  go_wp2
  go_ret
  exact ⟨rfl, K9.out⟩
theorem u64_of_wf {a : Int} (h : (Lit.int .u64 a).wf = true) : ∃ u : UInt64, a = (u.toNat : Int) := by
  simp [Lit.wf, IntKind.min, IntKind.max, IntKind.signed, IntKind.bits] at h
  exact ⟨UInt64.ofNat a.toNat, by simp; omega⟩
theorem te_walk (W : World) (ht : TabAt W) (v : Int) (hv : (Lit.int .u64 v).wf = true) (w : Int) (hw : (Lit.int .u64 w).wf = true) :
    Calls Tryd.prog 5 #[.int .u64 v, .int .u64 w] W fun e w' => e = .returned (.bool true) ∧ Below W.heap.size W w' := by
  obtain ⟨a, rfl⟩ := u64_of_wf hv
  obtain ⟨b, rfl⟩ := u64_of_wf hw
  exact (te_any a b W ht).mono fun _ _ ⟨he, hk⟩ => ⟨he, hk.below (fun _ h => h)⟩
end Go.Proofs.YthjnfclebeggaaaDoor
