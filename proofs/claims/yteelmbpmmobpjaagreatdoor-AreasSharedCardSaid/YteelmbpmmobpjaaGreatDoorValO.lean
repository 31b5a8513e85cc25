/-
  Layer areas: the call of INDEX.
-/
import Derived.Test.YteelmbpmmobpjaaGreatDoorValM
namespace Go.Proofs.YteelmbpmmobpjaaGreatDoor
open Go.RowKit
open UK (str BytesAt nth Only Row Box)
/-- a whole number out of ten-thousandths -/
theorem asint_num {w : World} (k : Nat) (hk : k ≤ 100000) :
    Calls Tryz.prog 58 #[V.val (.num ((k : Int) * 10000))] w fun e w' => e = .returned (.tuple #[.int .i64 (k : Int), .int .i64 0]) ∧ Below w.heap.size w w' := by
  have HA : Hid (Calls Tryz.prog 33 #[V.val (.num ((k : Int) * 10000))] w fun e w' => e = .returned (.tuple #[.int .i64 ((k : Int) * 10000), .int .i64 0]) ∧ Below w.heap.size w w') := asnum_any (.num ((k : Int) * 10000)) (by show DE.Good _; unfold DE.Good; omega)
  have hd : (k : Int) * 10000 / 10000 = (k : Int) := by omega
  have h0 : 0 ≤ (k : Int) * 10000 := by omega
  have h1 : (k : Int) * 10000 ≤ 1000000000 := by omega
  generalize V.val (.num ((k : Int) * 10000)) = vv at *
  go_enter Tryz.func58, Tryz.ntmps58
  go_wp2_with fail
  refine HA.out.mono ?_
  rintro e w1 ⟨rfl, b1⟩
  go_wp2_with go_in
  go_ret2
  exact ⟨rfl, b1⟩
theorem whole_num {n : Nat} {w : World} {t : Value} {r c : Int} {ar : Bool} (k : Nat) (hk : k ≤ 100000) (h : VSl n w t [.num ((k : Int) * 10000)]) :
    Calls Tryz.prog 30 #[.agg #[.int .i64 r, .int .i64 c, .bool ar, t]] w fun e w' => e = .returned (.tuple #[.int .i64 (k : Int), .int .i64 0]) ∧ Below w.heap.size w w' := by
  have hb0 : Below w.heap.size w (w.alloc (.cells #[.int .i64 r, .int .i64 c, .bool ar, t] 27)) := (Below.refl _ _).alloc (Nat.le_refl _) _
  have HV := Lib.hid (value_any (r := r) (c := c) (ar := ar) ((h.up h.le (Nat.le_refl _)).below hb0))
  have HA := Lib.hid (fun w => asint_num (w := w) k hk)
  obtain ⟨⟨vg, vc, rfl, _, _⟩, _⟩ := h
  have h1 : (k : Int) ≤ 100000 := by omega
  have h0 : 0 ≤ (k : Int) := by omega
  generalize V.val (.num ((k : Int) * 10000)) = vv at *
  have HB0 := Lib.hid hb0
  clear hb0
  go_enter Tryz.func30, Tryz.ntmps30
  go_wp2_with fail
  refine HV.out.mono ?_
  rintro e w1 ⟨rfl, b1⟩
  go_wp2_with fail
  refine (HA.out _).mono ?_
  rintro e w2 ⟨rfl, b2⟩
  go_wp2
  go_ret2
  refine ⟨?_, HB0.out.trans ((b1.trans (b2.mono b1.size)).mono HB0.out.size)⟩
  show Ending.returned (.tuple #[.int .i64 (max (min (k : Int) 100000) (-100000)), .int .i64 0]) = _
  rw [show max (min (k : Int) 100000) (-100000) = (k : Int) by omega]
set_option maxHeartbeats 4000000 in
set_option maxRecDepth 100000 in
theorem call_index {n : Nat} {w : World} {s : Value} {a : Ar} {k : Nat} {r c : Int} {ar : Bool} (h : ASl n w s [a, ⟨r, c, ar, [.num ((k : Int) * 10000)]⟩]) (hl : a.vs.length ≤ 1000) (hk1 : 1 ≤ k) (hk2 : k ≤ a.vs.length) (v : V) (hv : a.vs[k - 1]? = some v) :
    Calls Tryz.prog 10 #[.string (str [73, 78, 68, 69, 88]), s] w fun e w' => e = .returned v.val ∧ Below w.heap.size w w' := by
  obtain ⟨gb, gc, ta, tb, rfl, c0, c1, c2, c3, ⟨vg, vc, rfl⟩, ⟨ug, uc, rfl⟩, ht⟩ := two_open h
  have hgl := ht.lt.1
  obtain ⟨q4, q5, q6, q7, q0, q1, q2, q3, ql, ql2⟩ := ht.facts
  have HT := Lib.hid ht
  have HW := Lib.hid (whole_num (r := r) (c := c) (ar := ar) k (by omega) ht.vb)
  have hva := ht.va
  obtain ⟨⟨vg', vc', he, hvg, hvc⟩, _⟩ := hva
  obtain ⟨rfl, rfl⟩ : vg = vg' ∧ vc = vc' := by
    simp only [Value.slice.injEq, Option.some.injEq, Addr.mk.injEq] at he
    exact ⟨he.1.1, he.2.2⟩
  have HCV := Lib.hid (hvc _ v hv)
  have h1 : 1 ≤ (k : Int) := by omega
  have h2 : (k : Int) ≤ (a.vs.length : Int) := by omega
  have h3 : (a.vs.length : Int) ≤ 1000 := by omega
  have hsub : ((k : Int) - 1).toNat = k - 1 := by omega
  clear ht h he hvc hv
  simp only [List.length_cons, List.length_nil, Nat.zero_add] at *
  generalize v.val = vv at *
  go_enter Tryz.func10, Tryz.ntmps10
  go_wp2_with (first | (go_at_call 21; go_in))
  refine HW.out.mono ?_
  rintro e w1 ⟨rfl, b1⟩
  have HT1 := Lib.hid (HT.out.next b1)
  obtain ⟨p4, p5, p6, p7, p0, p1, p2, p3, pl, pl2⟩ := HT1.out.facts
  have hvgl : vg < (w.alloc (.cells #[.int .i64 a.rows, .int .i64 a.cols, .bool a.area, .slice (some ⟨vg, 0, none⟩) a.vs.length vc] 27)).heap.size := by have := HT.out.bel.size; omega
  have hcv1 := (cell_below (o := k - 1) b1 hvgl).trans HCV.out
  have hvw : vg < w1.heap.size := by have := b1.size; omega
  clear b1
  go_wp2_with (first | (go_at_call 37; go_in))
  go_ret
  exact ⟨rfl, HT1.out.bel.alloc HT1.out.bel.size _⟩
end Go.Proofs.YteelmbpmmobpjaaGreatDoor
