/-
  Layer areas: calls of COUNTIF.
-/
import Derived.Test.YteelmbpmmobpjaaGreatDoorValM
import Derived.Deep.RegionHeld
namespace Go.Proofs.YteelmbpmmobpjaaGreatDoor
open Go.RowKit
open UK (str BytesAt nth Only Row Box)
@[go_sem] theorem arg_field3 (W : World) (a b : Int) (c : Bool) (x : Option Addr) (k y : Nat) : (Instr.field 27 (.agg #[.int .i64 a, .int .i64 b, .bool c, .slice x k y]) 3).run Tryz.prog W = .ok (.slice x k y) W := by kernel_rfl
set_option maxHeartbeats 4000000 in
set_option maxRecDepth 100000 in
theorem call_countif {n : Nat} {w : World} {s : Value} {a : Ar} {v : V} {r c : Int} {ar : Bool} (h : ASl n w s [a, ⟨r, c, ar, [v]⟩]) (hl : a.vs.length ≤ 1000) (rv : V) (op : Int) (ho : op = 0 ∨ op = 1 ∨ op = 2 ∨ op = 3 ∨ op = 4 ∨ op = 5)
    (hm : ∀ W, Below w.heap.size w W → Calls Tryz.prog 63 #[v.val] W fun e w' => e = .returned (.agg #[.int .i64 op, rv.val]) ∧ Below W.heap.size W w') (hnt : ∀ x ∈ a.vs, bothText x rv = false) :
    Calls Tryz.prog 10 #[.string (str [67, 79, 85, 78, 84, 73, 70]), s] w fun e w' => e = .returned (V.val (.num (((a.vs.filter (fitsV op rv)).length : Int) * 10000))) ∧ Below w.heap.size w w' := by
  obtain ⟨gb, gc, ta, tb, rfl, c0, c1, c2, c3, ⟨vg, vc, rfl⟩, ⟨ug, uc, rfl⟩, ht⟩ := two_open h
  have hgl := ht.lt.1
  obtain ⟨q4, q5, q6, q7, q0, q1, q2, q3, ql, ql2⟩ := ht.drew.facts
  have HT := Lib.hid ht.drew
  have HV := Lib.hid (fun (W : World) (hW : VSl w.heap.size W (.slice (some ⟨ug, 0, none⟩) 1 uc) [v]) => value_any (w := W) (r := r) (c := c) (ar := ar) hW)
  have HX := Lib.hid (fun (W : World) (hb : Below w.heap.size w W) (hW : VSl w.heap.size W (.slice (some ⟨vg, 0, none⟩) a.vs.length vc) a.vs) => chosen_any (r := a.rows) (c := a.cols) (ar := a.area) hW (by omega) v rv op ho (fun W2 hb2 => hm W2 (hb.trans (hb2.mono hb.size))) hnt)
  have hfl : (a.vs.filter (fitsV op rv)).length ≤ 1000 := Nat.le_trans (List.length_filter_le _ _) hl
  clear ht h hnt hm
  generalize (a.vs.filter (fitsV op rv)).length = k at *
  have k1 : -1000000000 ≤ (k : Int) := by omega
  have k2 : (k : Int) ≤ 1000000000 := by omega
  have HI := Lib.hid (fun w => int_any (w := w) (k : Int) k1 k2)
  have HC := Lib.hid (fun w => counted_any (w := w) ((k : Int) * 10000) true)
  generalize v.val = vv at *
  simp only [List.length_cons, List.length_nil, Nat.zero_add] at *
  go_enter Tryz.func10, Tryz.ntmps10
  go_wp2_with (first | (go_at_call 21; go_in))
  go_region_held (fun W : World => W.cell? ⟨gb, 4, none⟩ = some (.int .i64 r) ∧ W.cell? ⟨gb, 5, none⟩ = some (.int .i64 c) ∧ W.cell? ⟨gb, 6, none⟩ = some (.bool ar) ∧ W.cell? ⟨gb, 7, none⟩ = some (.slice (some ⟨ug, 0, none⟩) 1 uc) ∧ W.cell? ⟨w.heap.size, 0, none⟩ = some (.int .i64 a.rows) ∧ W.cell? ⟨w.heap.size, 1, none⟩ = some (.int .i64 a.cols) ∧ W.cell? ⟨w.heap.size, 2, none⟩ = some (.bool a.area) ∧ W.cell? ⟨w.heap.size, 3, none⟩ = some (.slice (some ⟨vg, 0, none⟩) a.vs.length vc)) (first | exact ⟨q4, q5, q6, q7, q0, q1, q2, q3⟩ | exact ⟨p4, p5, p6, p7, p0, p1, p2, p3⟩ | exact ⟨m4, m5, m6, m7, m0, m1, m2, m3⟩) (first
    | (go_at_call 27; refine (HV.out _ HT.out.vb).mono ?_; rintro e w2 ⟨rfl, b2⟩; have HT2 := Lib.hid (HT.out.next b2); obtain ⟨p4, p5, p6, p7, p0, p1, p2, p3, pl, pl2⟩ := HT2.out.facts; clear b2)
    | (go_at_call 35; refine (HX.out _ HT2.out.bel HT2.out.va).mono ?_; rintro e w3 ⟨xo, xc, rfl, b3⟩; have HT3 := Lib.hid (HT2.out.next b3); obtain ⟨m4, m5, m6, m7, m0, m1, m2, m3, ml, ml2⟩ := HT3.out.facts; clear b3)
    | (go_at_call 17; refine (HI.out _).mono ?_; rintro e w4 ⟨rfl, rfl⟩)
    | (go_at_call 25; refine (HC.out _).mono ?_; rintro e w5 ⟨rfl, rfl⟩))
  all_goals
    go_wp2
    go_ret
    exact ⟨rfl, HT3.out.bel⟩
end Go.Proofs.YteelmbpmmobpjaaGreatDoor
