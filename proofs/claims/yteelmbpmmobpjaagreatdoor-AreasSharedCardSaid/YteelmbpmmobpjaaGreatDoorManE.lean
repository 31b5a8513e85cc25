/-
  Layer areas: the calls of SMALL, LARGE.
-/
import Derived.Test.YteelmbpmmobpjaaGreatDoorManD
import Derived.Test.YteelmbpmmobpjaaGreatDoorValO
namespace Go.Proofs.YteelmbpmmobpjaaGreatDoor
open Go.RowKit
open UK (str BytesAt nth Only Row Box)
theorem ASl.first {n : Nat} {w : World} {gb gc : Nat} {a b : Ar} (h : ASl n w (.slice (some ⟨gb, 0, none⟩) 2 gc) [a, b]) : ASl n w (.slice (some ⟨gb, 0, none⟩) 1 gc) [a] := by
  obtain ⟨⟨g, c, e, hg, hc⟩, hle⟩ := h
  simp only [Value.slice.injEq, Option.some.injEq, Addr.mk.injEq] at e
  obtain ⟨⟨rfl, _⟩, _, rfl⟩ := e
  refine ⟨⟨gb, gc, rfl, hg, fun k x hx => hc k x ?_⟩, hle⟩
  rcases k with _ | k
  · exact hx
  · simp at hx
set_option maxHeartbeats 4000000 in
set_option maxRecDepth 100000 in
theorem calls_small {n g0 : Nat} {w : World} {a : Ar} {r c : Int} {ar : Bool} (k : Nat) (h : ASl n w (.slice (some ⟨g0, 0, none⟩) 2 2) [a, ⟨r, c, ar, [.num ((k : Int) * 10000)]⟩]) (hvl : a.vs.length ≤ 1000 ∧ ∀ v ∈ a.vs, v.Ok) (hf : firstF numFail (flat [a]) = 0) (hk1 : 1 ≤ k) (hk2 : k ≤ (numsOf (flat [a])).length) (hk3 : (numsOf (flat [a])).length ≤ 1000) :
    Calls Tryz.prog 10 #[.string (str [83, 77, 65, 76, 76]), .slice (some ⟨g0, 0, none⟩) 2 2] w fun e w' => e = .returned (V.val (.num ((srt (numsOf (flat [a]))).getD (k - 1) 0))) ∧ Below w.heap.size w w' := by
  obtain ⟨gb, gc, ta, tb, he0, c0, c1, c2, c3, ⟨vg, vc, rfl⟩, ⟨ug, uc, rfl⟩, ht⟩ := two_open h
  simp only [Value.slice.injEq, Option.some.injEq, Addr.mk.injEq] at he0
  obtain ⟨⟨rfl, _⟩, _, rfl⟩ := he0
  have hle := h.le
  have h1 := ((h.up hle (Nat.le_refl _)).below ht.bel).first
  have hgl := ht.lt.1
  have hN := numbers_any h1 (by simp) (fun b hb => by rw [List.mem_singleton.1 hb]; exact hvl) (by simp)
  rw [hf] at hN
  have HN := Lib.hid hN
  obtain ⟨q4, q5, q6, q7, q0, q1, q2, q3, ql, ql2⟩ := ht.facts
  have HT := Lib.hid ht
  have HW := Lib.hid (fun (W : World) (hW : VSl w.heap.size W (.slice (some ⟨ug, 0, none⟩) 1 uc) [.num ((k : Int) * 10000)]) => whole_num (r := r) (c := c) (ar := ar) k (by omega) hW)
  have HR := Lib.hid (fun (W : World) (t : Value) (hd : DSl W t (numsOf (flat [a]))) => ranked_small hd hk3 k hk1 hk2)
  clear hN h1 ht h hvl hf hle
  simp only [List.length_cons, List.length_nil, Nat.zero_add] at *
  generalize V.val (.num ((srt (numsOf (flat [a]))).getD (k - 1) 0)) = rv at *
  go_enter Tryz.func10, Tryz.ntmps10
  go_wp2_with (first | (go_at_call 21; go_in))
  refine HN.out.mono ?_
  rintro e w1 ⟨⟨t, ds, rfl, hd, he⟩, b1⟩
  obtain rfl := he trivial
  have HT1 := Lib.hid (HT.out.next b1)
  obtain ⟨p4, p5, p6, p7, p0, p1, p2, p3, pl, pl2⟩ := HT1.out.facts
  have HD := Lib.hid hd
  have HW1 := Lib.hid (HW.out w1 HT1.out.vb)
  clear hd he b1 q4 q5 q6 q7 q0 q1 q2 q3 HN HW
  go_wp2_with fail
  refine HW1.out.mono ?_
  rintro e w2 ⟨rfl, b2⟩
  have HT2 := Lib.hid (HT1.out.next b2)
  have HR2 := Lib.hid (HR.out w2 t (HD.out.next b2))
  clear b2 HR HW1
  go_wp2_with fail
  refine HR2.out.mono ?_
  rintro e w3 ⟨rfl, b3⟩
  go_wp2
  go_ret
  exact ⟨rfl, HT2.out.bel.trans (b3.mono HT2.out.bel.size)⟩
set_option maxHeartbeats 4000000 in
set_option maxRecDepth 100000 in
theorem calls_large {n g0 : Nat} {w : World} {a : Ar} {r c : Int} {ar : Bool} (k : Nat) (h : ASl n w (.slice (some ⟨g0, 0, none⟩) 2 2) [a, ⟨r, c, ar, [.num ((k : Int) * 10000)]⟩]) (hvl : a.vs.length ≤ 1000 ∧ ∀ v ∈ a.vs, v.Ok) (hf : firstF numFail (flat [a]) = 0) (hk1 : 1 ≤ k) (hk2 : k ≤ (numsOf (flat [a])).length) (hk3 : (numsOf (flat [a])).length ≤ 1000) :
    Calls Tryz.prog 10 #[.string (str [76, 65, 82, 71, 69]), .slice (some ⟨g0, 0, none⟩) 2 2] w fun e w' => e = .returned (V.val (.num ((srt (numsOf (flat [a]))).getD ((numsOf (flat [a])).length - k) 0))) ∧ Below w.heap.size w w' := by
  obtain ⟨gb, gc, ta, tb, he0, c0, c1, c2, c3, ⟨vg, vc, rfl⟩, ⟨ug, uc, rfl⟩, ht⟩ := two_open h
  simp only [Value.slice.injEq, Option.some.injEq, Addr.mk.injEq] at he0
  obtain ⟨⟨rfl, _⟩, _, rfl⟩ := he0
  have hle := h.le
  have h1 := ((h.up hle (Nat.le_refl _)).below ht.bel).first
  have hgl := ht.lt.1
  have hN := numbers_any h1 (by simp) (fun b hb => by rw [List.mem_singleton.1 hb]; exact hvl) (by simp)
  rw [hf] at hN
  have HN := Lib.hid hN
  obtain ⟨q4, q5, q6, q7, q0, q1, q2, q3, ql, ql2⟩ := ht.facts
  have HT := Lib.hid ht
  have HW := Lib.hid (fun (W : World) (hW : VSl w.heap.size W (.slice (some ⟨ug, 0, none⟩) 1 uc) [.num ((k : Int) * 10000)]) => whole_num (r := r) (c := c) (ar := ar) k (by omega) hW)
  have HR := Lib.hid (fun (W : World) (t : Value) (hd : DSl W t (numsOf (flat [a]))) => ranked_large hd hk3 k hk1 hk2)
  clear hN h1 ht h hvl hf hle
  simp only [List.length_cons, List.length_nil, Nat.zero_add] at *
  generalize V.val (.num ((srt (numsOf (flat [a]))).getD ((numsOf (flat [a])).length - k) 0)) = rv at *
  go_enter Tryz.func10, Tryz.ntmps10
  go_wp2_with (first | (go_at_call 21; go_in))
  refine HN.out.mono ?_
  rintro e w1 ⟨⟨t, ds, rfl, hd, he⟩, b1⟩
  obtain rfl := he trivial
  have HT1 := Lib.hid (HT.out.next b1)
  obtain ⟨p4, p5, p6, p7, p0, p1, p2, p3, pl, pl2⟩ := HT1.out.facts
  have HD := Lib.hid hd
  have HW1 := Lib.hid (HW.out w1 HT1.out.vb)
  clear hd he b1 q4 q5 q6 q7 q0 q1 q2 q3 HN HW
  go_wp2_with fail
  refine HW1.out.mono ?_
  rintro e w2 ⟨rfl, b2⟩
  have HT2 := Lib.hid (HT1.out.next b2)
  have HR2 := Lib.hid (HR.out w2 t (HD.out.next b2))
  clear b2 HR HW1
  go_wp2_with fail
  refine HR2.out.mono ?_
  rintro e w3 ⟨rfl, b3⟩
  go_wp2
  go_ret
  exact ⟨rfl, HT2.out.bel.trans (b3.mono HT2.out.bel.size)⟩
end Go.Proofs.YteelmbpmmobpjaaGreatDoor
