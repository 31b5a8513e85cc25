/-
  Layer areas: calls of AVERAGE, COUNTIF, MATCH, INDEX.
-/
import Derived.Test.YteelmbpmmobpjaaGreatDoorValK
import Derived.Test.YteelmbpmmobpjaaGreatDoorValL
namespace Go.Proofs.YteelmbpmmobpjaaGreatDoor
open Go.RowKit
open UK (str BytesAt nth Only Row Box)
set_option maxHeartbeats 4000000 in
set_option maxRecDepth 100000 in
theorem call_average {n : Nat} {w : World} {s : Value} {a : Ar} (h : ASl n w s [a]) (hvl : a.vs.length ≤ 1000 ∧ ∀ v ∈ a.vs, v.Ok) (hn : n ≤ w.heap.size) (hf : firstF numFail (flat [a]) = 0) (h0 : 0 < (numsOf (flat [a])).length) (hl : (numsOf (flat [a])).length ≤ 1000) (hg : ∀ d ∈ numsOf (flat [a]), DE.Good d) (u q : Int) (qb : Bool) (hs : sumO (numsOf (flat [a])) 0 = some u)
    (hd : ∀ w, Calls Tryz.prog 92 #[.int .i64 u, .int .i64 (((numsOf (flat [a])).length : Int) * 10000)] w fun e w' => e = .returned (.tuple #[.int .i64 q, .bool qb]) ∧ Below w.heap.size w w') :
    Calls Tryz.prog 10 #[.string (str [65, 86, 69, 82, 65, 71, 69]), s] w fun e w' => e = .returned (V.val (if qb then .num q else .fail 2)) ∧ Below w.heap.size w w' := by
  have HN := Lib.hid (fun W (hb : Below w.heap.size w W) => numbers_any (h.below (hb.mono hn)) (by simp) (fun b hb => by rw [List.mem_singleton.1 hb]; exact hvl) (Nat.le_trans hn hb.size))
  have HM := Lib.hid (fun (W : World) (t : Value) (ht : DSl W t (numsOf (flat [a]))) => mean_of ht h0 (by omega) hg u q qb hs hd)
  obtain ⟨⟨gb, gc, rfl, hgb, hc⟩, hle⟩ := h
  obtain ⟨ta, hta, c0, c1, c2, c3⟩ := hc 0 a rfl
  obtain ⟨⟨vg, vc, rfl, hvg, _⟩, _⟩ := hta
  have HFF := Lib.hid hf
  have HLE := Lib.hid (show gb < w.heap.size by omega)
  simp only [Nat.zero_mul, Nat.zero_add] at c0 c1 c2 c3
  clear hc hf h0 hl hg hs hd hvg hvl
  generalize V.val (if qb = true then .num q else .fail 2) = rv at *
  go_enter Tryz.func10, Tryz.ntmps10
  have hb0 : Below w.heap.size w (w.alloc (.cells #[.int .i64 a.rows, .int .i64 a.cols, .bool a.area, .slice (some ⟨vg, 0, none⟩) a.vs.length vc] 27)) := (Below.refl _ _).alloc (Nat.le_refl _) _
  have hn1 := HN.out _ hb0
  rw [HFF.out] at hn1
  have HN1 := Lib.hid hn1
  have HB0 := Lib.hid hb0
  clear hn1 hb0 HN
  go_wp2_with (first | (go_at_call 21; go_in))
  refine HN1.out.mono ?_
  rintro e w1 ⟨⟨t, ds, rfl, hd, he⟩, b1⟩
  obtain rfl := he trivial
  have HD := Lib.hid (HM.out w1 t hd)
  have HB1 := Lib.hid (HB0.out.trans (b1.mono HB0.out.size))
  clear hd he b1 HM
  go_wp2_with (first | (go_at_call 39; go_in))
  refine HD.out.mono ?_
  rintro e w2 ⟨rfl, b2⟩
  go_wp2
  go_ret
  exact ⟨rfl, HB1.out.trans (b2.mono HB1.out.size)⟩
theorem whereF_bd (p : V → Bool) (l : List V) (k : Nat) : -1 ≤ whereF p l k ∧ whereF p l k ≤ (k : Int) + l.length := by
  induction l generalizing k with
  | nil => exact ⟨by simp [whereF], by simp [whereF]⟩
  | cons x r ih =>
    unfold whereF
    split
    · exact ⟨by omega, by omega⟩
    · have := ih (k + 1)
      simp only [List.length_cons]
      omega
/-- two arguments, the first one's box, behind calls that make memory -/
structure TwoArgs (w : World) (gb T7 : Nat) (a b : Ar) (ta tb : Value) (wr : World) : Prop where
  bel : Below w.heap.size w wr
  va : VSl w.heap.size wr ta a.vs
  vb : VSl w.heap.size wr tb b.vs
  lt : gb < w.heap.size ∧ w.heap.size ≤ T7 ∧ T7 < wr.heap.size
  c4 : wr.cell? ⟨gb, 4, none⟩ = some (.int .i64 b.rows) ∧ wr.cell? ⟨gb, 5, none⟩ = some (.int .i64 b.cols) ∧ wr.cell? ⟨gb, 6, none⟩ = some (.bool b.area) ∧ wr.cell? ⟨gb, 7, none⟩ = some tb
  y0 : Box wr T7 #[.int .i64 a.rows, .int .i64 a.cols, .bool a.area, ta]
theorem TwoArgs.next {w wr W : World} {gb T7 : Nat} {a b : Ar} {ta tb : Value} (h : TwoArgs w gb T7 a b ta tb wr) (hb : Below wr.heap.size wr W) : TwoArgs w gb T7 a b ta tb W := by
  obtain ⟨l1, l2, l3⟩ := h.lt
  have hs := h.bel.size
  have hbw := hb.mono hs
  obtain ⟨c4, c5, c6, c7⟩ := h.c4
  exact ⟨h.bel.trans hbw, h.va.below hbw, h.vb.below hbw, ⟨l1, l2, Nat.lt_of_lt_of_le l3 hb.size⟩, ⟨(cell_below hbw l1).trans c4, (cell_below hbw l1).trans c5, (cell_below hbw l1).trans c6, (cell_below hbw l1).trans c7⟩, h.y0.next hb⟩
theorem TwoArgs.facts {w wr : World} {gb T7 : Nat} {a b : Ar} {ta tb : Value} (h : TwoArgs w gb T7 a b ta tb wr) :
    wr.cell? ⟨gb, 4, none⟩ = some (.int .i64 b.rows) ∧ wr.cell? ⟨gb, 5, none⟩ = some (.int .i64 b.cols) ∧ wr.cell? ⟨gb, 6, none⟩ = some (.bool b.area) ∧ wr.cell? ⟨gb, 7, none⟩ = some tb ∧
    wr.cell? ⟨T7, 0, none⟩ = some (.int .i64 a.rows) ∧ wr.cell? ⟨T7, 1, none⟩ = some (.int .i64 a.cols) ∧ wr.cell? ⟨T7, 2, none⟩ = some (.bool a.area) ∧ wr.cell? ⟨T7, 3, none⟩ = some ta ∧ gb < wr.heap.size ∧ T7 < wr.heap.size := by
  obtain ⟨c4, c5, c6, c7⟩ := h.c4
  exact ⟨c4, c5, c6, c7, h.y0.cell 0 _ rfl, h.y0.cell 1 _ rfl, h.y0.cell 2 _ rfl, h.y0.cell 3 _ rfl, by have := h.lt; omega, by have := h.lt; omega⟩
theorem TwoArgs.drew {w wr : World} {gb T7 : Nat} {a b : Ar} {ta tb : Value} (h : TwoArgs w gb T7 a b ta tb wr) : TwoArgs w gb T7 a b ta tb wr.drew := h.next (UK.belowN (Below.refl _ _) 1)
theorem two_open {n : Nat} {w : World} {s : Value} {a b : Ar} (h : ASl n w s [a, b]) : ∃ gb gc ta tb, s = .slice (some ⟨gb, 0, none⟩) 2 gc ∧
    w.cell? ⟨gb, 0, none⟩ = some (.int .i64 a.rows) ∧ w.cell? ⟨gb, 1, none⟩ = some (.int .i64 a.cols) ∧ w.cell? ⟨gb, 2, none⟩ = some (.bool a.area) ∧ w.cell? ⟨gb, 3, none⟩ = some ta ∧
    (∃ vg vc, ta = .slice (some ⟨vg, 0, none⟩) a.vs.length vc) ∧ (∃ ug uc, tb = .slice (some ⟨ug, 0, none⟩) b.vs.length uc) ∧
    TwoArgs w gb w.heap.size a b ta tb (w.alloc (.cells #[.int .i64 a.rows, .int .i64 a.cols, .bool a.area, ta] 27)) := by
  obtain ⟨⟨gb, gc, rfl, hgb, hc⟩, hle⟩ := h
  obtain ⟨ta, hta, c0, c1, c2, c3⟩ := hc 0 a rfl
  obtain ⟨tb, htb, d0, d1, d2, d3⟩ := hc 1 b rfl
  have hta' := hta.up hle (Nat.le_refl _)
  have htb' := htb.up hle (Nat.le_refl _)
  have hb0 : Below w.heap.size w (w.alloc (.cells #[.int .i64 a.rows, .int .i64 a.cols, .bool a.area, ta] 27)) := (Below.refl _ _).alloc (Nat.le_refl _) _
  have hg : gb < w.heap.size := by omega
  simp only [Nat.zero_mul, Nat.zero_add, Nat.one_mul] at c0 c1 c2 c3 d0 d1 d2 d3
  refine ⟨gb, gc, ta, tb, rfl, c0, c1, c2, c3, ?_, ?_, hb0, hta'.below hb0, htb'.below hb0, ⟨hg, Nat.le_refl _, by simp⟩, ⟨(cell_below hb0 hg).trans d0, (cell_below hb0 hg).trans d1, (cell_below hb0 hg).trans d2, (cell_below hb0 hg).trans d3⟩, Box.new _ _ _⟩
  · obtain ⟨⟨vg, vc, e, _⟩, _⟩ := hta
    exact ⟨vg, vc, e⟩
  · obtain ⟨⟨vg, vc, e, _⟩, _⟩ := htb
    exact ⟨vg, vc, e⟩
set_option maxHeartbeats 4000000 in
set_option maxRecDepth 100000 in
theorem call_match {n : Nat} {w : World} {s : Value} {v : V} {b : Ar} {r c : Int} {ar : Bool} (h : ASl n w s [⟨r, c, ar, [v]⟩, b]) (hl : b.vs.length ≤ 1000) (hnt : ∀ x ∈ b.vs, bothText x v = false) :
    Calls Tryz.prog 10 #[.string (str [77, 65, 84, 67, 72]), s] w fun e w' => e = .returned (V.val (if 0 ≤ whereF (fitsV 0 v) b.vs 0 then .num ((whereF (fitsV 0 v) b.vs 0 + 1) * 10000) else .fail 5)) ∧ Below w.heap.size w w' := by
  obtain ⟨gb, gc, ta, tb, rfl, c0, c1, c2, c3, ⟨vg, vc, rfl⟩, ⟨ug, uc, rfl⟩, ht⟩ := two_open h
  have hgl := ht.lt.1
  obtain ⟨q4, q5, q6, q7, q0, q1, q2, q3, ql, ql2⟩ := ht.drew.facts
  have HT := Lib.hid ht.drew
  have HV := Lib.hid (fun (W : World) (hW : VSl w.heap.size W (.slice (some ⟨vg, 0, none⟩) 1 vc) [v]) => value_any (w := W) (r := r) (c := c) (ar := ar) hW)
  have HW := Lib.hid (fun (W : World) (hW : VSl w.heap.size W (.slice (some ⟨ug, 0, none⟩) b.vs.length uc) b.vs) => where_any hW (by omega) v hnt)
  have hwl : -1 ≤ whereF (fitsV 0 v) b.vs 0 ∧ whereF (fitsV 0 v) b.vs 0 ≤ 1000 := by
    have := whereF_bd (fitsV 0 v) b.vs 0
    omega
  clear ht h hnt
  generalize whereF (fitsV 0 v) b.vs 0 = k at *
  have HI := Lib.hid (fun w => int_any (w := w) (k + 1) (by omega) (by omega))
  have HC := Lib.hid (fun w => counted_any (w := w) ((k + 1) * 10000) true)
  generalize v.val = vv at *
  simp only [List.length_cons, List.length_nil, Nat.zero_add] at *
  by_cases hk : 0 ≤ k
  · rw [if_pos hk]
    go_enter Tryz.func10, Tryz.ntmps10
    go_wp2_with (first | (go_at_call 21; go_in))
    go_region_with (first
      | (go_at_call 27; refine (HV.out _ HT.out.va).mono ?_; rintro e w2 ⟨rfl, b2⟩; have HT2 := Lib.hid (HT.out.next b2); obtain ⟨p4, p5, p6, p7, p0, p1, p2, p3, pl, pl2⟩ := HT2.out.facts; clear b2)
      | (go_at_call 36; refine (HW.out _ HT2.out.vb).mono ?_; rintro e w3 ⟨rfl, b3⟩; have HT3 := Lib.hid (HT2.out.next b3); clear b3))
    all_goals
      go_wp2_with fail
      refine (HI.out _).mono ?_
      rintro e w4 ⟨rfl, rfl⟩
      go_wp2_with fail
      refine (HC.out _).mono ?_
      rintro e w4 ⟨rfl, rfl⟩
      go_wp2
      go_ret
      exact ⟨rfl, HT3.out.bel⟩
  · rw [if_neg hk]
    have hk2 : k < 0 := by omega
    go_enter Tryz.func10, Tryz.ntmps10
    go_wp2_with (first | (go_at_call 21; go_in))
    go_region_with (first
      | (go_at_call 27; refine (HV.out _ HT.out.va).mono ?_; rintro e w2 ⟨rfl, b2⟩; have HT2 := Lib.hid (HT.out.next b2); obtain ⟨p4, p5, p6, p7, p0, p1, p2, p3, pl, pl2⟩ := HT2.out.facts; clear b2)
      | (go_at_call 36; refine (HW.out _ HT2.out.vb).mono ?_; rintro e w3 ⟨rfl, b3⟩; have HT3 := Lib.hid (HT2.out.next b3); clear b3))
    all_goals
      go_wp2
      go_ret
      exact ⟨rfl, HT3.out.bel⟩
end Go.Proofs.YteelmbpmmobpjaaGreatDoor
