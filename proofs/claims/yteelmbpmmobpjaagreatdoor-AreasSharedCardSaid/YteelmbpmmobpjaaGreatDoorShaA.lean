/-
  AreasShared: the region in which both arguments are made, whatever order is drawn.
-/
import Derived.Test.YteelmbpmmobpjaaGreatDoorRegI
import Derived.Test.YteelmbpmmobpjaaGreatDoorTruA
import Derived.Test.YteelmbpmmobpjaaGreatDoorLawAB
namespace Go.Proofs.YteelmbpmmobpjaaGreatDoor
open Go.RowKit
open UK (str BytesAt nth Only Row Box)
def arCs (a : Ar) (g c : Nat) : Array Value := #[.int .i64 a.rows, .int .i64 a.cols, .bool a.area, .slice (some ⟨g, 0, none⟩) a.vs.length c]
def arZ : Array Value := #[.int .i64 0, .int .i64 0, .bool false, .slice none 0 0]
/-- what stands behind some operations of the region -/
structure ShR (w0 : World) (A B : Ar) (va vb : Value) (D : Nat → Bool) (x5 x6 x10 x11 x12 x13 : Value) (X Y ga ca gb cb : Nat) (w : World) : Prop where
  bel : Below w0.heap.size w0 w
  d0 : D 0 = true → x10 = va
  d2 : D 2 = true → x12 = vb
  d1 : D 1 = true → x11 = .agg (arCs A ga ca) ∧ VSl w.heap.size w (.slice (some ⟨ga, 0, none⟩) A.vs.length ca) A.vs ∧ w0.heap.size ≤ ga ∧ ga < w.heap.size
  d3 : D 3 = true → x13 = .agg (arCs B gb cb) ∧ VSl w.heap.size w (.slice (some ⟨gb, 0, none⟩) B.vs.length cb) B.vs ∧ w0.heap.size ≤ gb ∧ gb < w.heap.size
  d4 : D 4 = true → x5 = .pointer (some ⟨X, 0, none⟩) ∧ w0.heap.size ≤ X ∧ Box w X (if D 6 then arCs A ga ca else arZ)
  d5 : D 5 = true → x6 = .pointer (some ⟨Y, 0, none⟩) ∧ w0.heap.size ≤ Y ∧ Box w Y (if D 7 then arCs B gb cb else arZ)
  n14 : D 1 = true → D 4 = true → ga ≠ X
  n15 : D 1 = true → D 5 = true → ga ≠ Y
  n34 : D 3 = true → D 4 = true → gb ≠ X
  n35 : D 3 = true → D 5 = true → gb ≠ Y
  n45 : D 4 = true → D 5 = true → X ≠ Y
theorem ShR.move {w0 : World} {A B : Ar} {va vb : Value} {D : Nat → Bool} {x5 x6 x10 x11 x12 x13 : Value} {X Y ga ca gb cb : Nat} {w w' : World} (h : ShR w0 A B va vb D x5 x6 x10 x11 x12 x13 X Y ga ca gb cb w) (hb : Below w.heap.size w w') :
    ShR w0 A B va vb D x5 x6 x10 x11 x12 x13 X Y ga ca gb cb w' := by
  have hs := hb.size
  refine ⟨h.bel.trans (hb.mono h.bel.size), h.d0, h.d2, fun k => ?_, fun k => ?_, fun k => ?_, fun k => ?_, h.n14, h.n15, h.n34, h.n35, h.n45⟩
  · obtain ⟨e, v, l1, l2⟩ := h.d1 k
    exact ⟨e, (v.below hb).up hb.size (Nat.le_refl _), l1, by omega⟩
  · obtain ⟨e, v, l1, l2⟩ := h.d3 k
    exact ⟨e, (v.below hb).up hb.size (Nat.le_refl _), l1, by omega⟩
  · obtain ⟨e, l, b⟩ := h.d4 k
    exact ⟨e, l, b.next hb⟩
  · obtain ⟨e, l, b⟩ := h.d5 k
    exact ⟨e, l, b.next hb⟩
theorem ShR.lt4 {w0 : World} {A B : Ar} {va vb : Value} {D : Nat → Bool} {x5 x6 x10 x11 x12 x13 : Value} {X Y ga ca gb cb : Nat} {w : World} (h : ShR w0 A B va vb D x5 x6 x10 x11 x12 x13 X Y ga ca gb cb w) (k : D 4 = true) : X < w.heap.size := (h.d4 k).2.2.lt
theorem ShR.lt5 {w0 : World} {A B : Ar} {va vb : Value} {D : Nat → Bool} {x5 x6 x10 x11 x12 x13 : Value} {X Y ga ca gb cb : Nat} {w : World} (h : ShR w0 A B va vb D x5 x6 x10 x11 x12 x13 X Y ga ca gb cb w) (k : D 5 = true) : Y < w.heap.size := (h.d5 k).2.2.lt
theorem ShR.step0 {w0 : World} {A B : Ar} {va vb : Value} {D : Nat → Bool} {x5 x6 x10 x11 x12 x13 : Value} {X Y ga ca gb cb : Nat} {w : World} (h : ShR w0 A B va vb D x5 x6 x10 x11 x12 x13 X Y ga ca gb cb w) :
    ShR w0 A B va vb (fun j => j == 0 || D j) x5 x6 va x11 x12 x13 X Y ga ca gb cb w := by
  refine ⟨h.bel, fun _ => rfl, fun k => h.d2 (by simpa using k), fun k => h.d1 (by simpa using k), fun k => h.d3 (by simpa using k), fun k => ?_, fun k => ?_, fun k l => h.n14 (by simpa using k) (by simpa using l), fun k l => h.n15 (by simpa using k) (by simpa using l), fun k l => h.n34 (by simpa using k) (by simpa using l), fun k l => h.n35 (by simpa using k) (by simpa using l), fun k l => h.n45 (by simpa using k) (by simpa using l)⟩
  · simpa using h.d4 (by simpa using k)
  · simpa using h.d5 (by simpa using k)
theorem ShR.step2 {w0 : World} {A B : Ar} {va vb : Value} {D : Nat → Bool} {x5 x6 x10 x11 x12 x13 : Value} {X Y ga ca gb cb : Nat} {w : World} (h : ShR w0 A B va vb D x5 x6 x10 x11 x12 x13 X Y ga ca gb cb w) :
    ShR w0 A B va vb (fun j => j == 2 || D j) x5 x6 x10 x11 vb x13 X Y ga ca gb cb w := by
  refine ⟨h.bel, fun k => h.d0 (by simpa using k), fun _ => rfl, fun k => h.d1 (by simpa using k), fun k => h.d3 (by simpa using k), fun k => ?_, fun k => ?_, fun k l => h.n14 (by simpa using k) (by simpa using l), fun k l => h.n15 (by simpa using k) (by simpa using l), fun k l => h.n34 (by simpa using k) (by simpa using l), fun k l => h.n35 (by simpa using k) (by simpa using l), fun k l => h.n45 (by simpa using k) (by simpa using l)⟩
  · simpa using h.d4 (by simpa using k)
  · simpa using h.d5 (by simpa using k)
theorem ShR.step1 {w0 : World} {A B : Ar} {va vb : Value} {D : Nat → Bool} {x5 x6 x10 x11 x12 x13 : Value} {X Y ga ca gb cb : Nat} {w w' : World} (h : ShR w0 A B va vb D x5 x6 x10 x11 x12 x13 X Y ga ca gb cb w) (hD : D 6 = false) (hb : Below w.heap.size w w')
    (g c : Nat) (hg : w.heap.size ≤ g) (hv : VSl w'.heap.size w' (.slice (some ⟨g, 0, none⟩) A.vs.length c) A.vs) (hgl : g < w'.heap.size) :
    ShR w0 A B va vb (fun j => j == 1 || D j) x5 x6 x10 (.agg (arCs A g c)) x12 x13 X Y g c gb cb w' := by
  have h' := h.move hb
  have hz := h.bel.size
  refine ⟨h'.bel, fun k => h.d0 (by simpa using k), fun k => h.d2 (by simpa using k), fun _ => ⟨rfl, hv, by omega, hgl⟩, fun k => h'.d3 (by simpa using k), fun k => ?_, fun k => ?_, fun _ l => ?_, fun _ l => ?_, fun k l => h.n34 (by simpa using k) (by simpa using l), fun k l => h.n35 (by simpa using k) (by simpa using l), fun k l => h.n45 (by simpa using k) (by simpa using l)⟩
  · have := h'.d4 (by simpa using k)
    simpa [hD] using this
  · simpa using h'.d5 (by simpa using k)
  · have := h.lt4 (by simpa using l); omega
  · have := h.lt5 (by simpa using l); omega
theorem ShR.step3 {w0 : World} {A B : Ar} {va vb : Value} {D : Nat → Bool} {x5 x6 x10 x11 x12 x13 : Value} {X Y ga ca gb cb : Nat} {w w' : World} (h : ShR w0 A B va vb D x5 x6 x10 x11 x12 x13 X Y ga ca gb cb w) (hD : D 7 = false) (hb : Below w.heap.size w w')
    (g c : Nat) (hg : w.heap.size ≤ g) (hv : VSl w'.heap.size w' (.slice (some ⟨g, 0, none⟩) B.vs.length c) B.vs) (hgl : g < w'.heap.size) :
    ShR w0 A B va vb (fun j => j == 3 || D j) x5 x6 x10 x11 x12 (.agg (arCs B g c)) X Y ga ca g c w' := by
  have h' := h.move hb
  have hz := h.bel.size
  refine ⟨h'.bel, fun k => h.d0 (by simpa using k), fun k => h.d2 (by simpa using k), fun k => h'.d1 (by simpa using k), fun _ => ⟨rfl, hv, by omega, hgl⟩, fun k => ?_, fun k => ?_, fun k l => h.n14 (by simpa using k) (by simpa using l), fun k l => h.n15 (by simpa using k) (by simpa using l), fun _ l => ?_, fun _ l => ?_, fun k l => h.n45 (by simpa using k) (by simpa using l)⟩
  · simpa using h'.d4 (by simpa using k)
  · have := h'.d5 (by simpa using k)
    simpa [hD] using this
  · have := h.lt4 (by simpa using l); omega
  · have := h.lt5 (by simpa using l); omega
theorem ShR.step4 {w0 : World} {A B : Ar} {va vb : Value} {D : Nat → Bool} {x5 x6 x10 x11 x12 x13 : Value} {X Y ga ca gb cb : Nat} {w : World} {T : TypeId} (h : ShR w0 A B va vb D x5 x6 x10 x11 x12 x13 X Y ga ca gb cb w) (hD : D 6 = false) :
    ShR w0 A B va vb (fun j => j == 4 || D j) (.pointer (some ⟨w.heap.size, 0, none⟩)) x6 x10 x11 x12 x13 w.heap.size Y ga ca gb cb (w.alloc (.cells arZ T)) := by
  have hb : Below w.heap.size w (w.alloc (.cells arZ T)) := (Below.refl _ _).alloc (Nat.le_refl _) _
  have h' := h.move hb
  have hz := h.bel.size
  refine ⟨h'.bel, fun k => h.d0 (by simpa using k), fun k => h.d2 (by simpa using k), fun k => h'.d1 (by simpa using k), fun k => h'.d3 (by simpa using k), fun _ => ⟨rfl, hz, ?_⟩, fun k => ?_, fun k _ => ?_, fun k l => h.n15 (by simpa using k) (by simpa using l), fun k _ => ?_, fun k l => h.n35 (by simpa using k) (by simpa using l), fun _ l => ?_⟩
  · simpa [hD] using Box.new w arZ T
  · simpa using h'.d5 (by simpa using k)
  · have := (h.d1 (by simpa using k)).2.2.2; omega
  · have := (h.d3 (by simpa using k)).2.2.2; omega
  · have := h.lt5 (by simpa using l); omega
theorem ShR.step5 {w0 : World} {A B : Ar} {va vb : Value} {D : Nat → Bool} {x5 x6 x10 x11 x12 x13 : Value} {X Y ga ca gb cb : Nat} {w : World} {T : TypeId} (h : ShR w0 A B va vb D x5 x6 x10 x11 x12 x13 X Y ga ca gb cb w) (hD : D 7 = false) :
    ShR w0 A B va vb (fun j => j == 5 || D j) x5 (.pointer (some ⟨w.heap.size, 0, none⟩)) x10 x11 x12 x13 X w.heap.size ga ca gb cb (w.alloc (.cells arZ T)) := by
  have hb : Below w.heap.size w (w.alloc (.cells arZ T)) := (Below.refl _ _).alloc (Nat.le_refl _) _
  have h' := h.move hb
  have hz := h.bel.size
  refine ⟨h'.bel, fun k => h.d0 (by simpa using k), fun k => h.d2 (by simpa using k), fun k => h'.d1 (by simpa using k), fun k => h'.d3 (by simpa using k), fun k => ?_, fun _ => ⟨rfl, hz, ?_⟩, fun k l => h.n14 (by simpa using k) (by simpa using l), fun k _ => ?_, fun k l => h.n34 (by simpa using k) (by simpa using l), fun k _ => ?_, fun k _ => ?_⟩
  · simpa using h'.d4 (by simpa using k)
  · simpa [hD] using Box.new w arZ T
  · have := (h.d1 (by simpa using k)).2.2.2; omega
  · have := (h.d3 (by simpa using k)).2.2.2; omega
  · have := h.lt4 (by simpa using k); omega
theorem set4_block {w : World} {g j : Nat} (a0 a1 a2 a3 : Value) (h : j ≠ g) : ((((w.setCell ⟨g, 0, none⟩ a0).setCell ⟨g, 1, none⟩ a1).setCell ⟨g, 2, none⟩ a2).setCell ⟨g, 3, none⟩ a3).heap[j]? = w.heap[j]? := by
  rw [Below.heap_setCell _ _ _ _ h, Below.heap_setCell _ _ _ _ h, Below.heap_setCell _ _ _ _ h, Below.heap_setCell _ _ _ _ h]
theorem vsl_set4 {w : World} {X g c : Nat} {vs : List V} (h : VSl w.heap.size w (.slice (some ⟨g, 0, none⟩) vs.length c) vs) (hg : g ≠ X) (a0 a1 a2 a3 : Value) :
    VSl ((((w.setCell ⟨X, 0, none⟩ a0).setCell ⟨X, 1, none⟩ a1).setCell ⟨X, 2, none⟩ a2).setCell ⟨X, 3, none⟩ a3).heap.size ((((w.setCell ⟨X, 0, none⟩ a0).setCell ⟨X, 1, none⟩ a1).setCell ⟨X, 2, none⟩ a2).setCell ⟨X, 3, none⟩ a3) (.slice (some ⟨g, 0, none⟩) vs.length c) vs := vsl_far4 h hg a0 a1 a2 a3
theorem ShR.step6 {w0 : World} {A B : Ar} {va vb : Value} {D : Nat → Bool} {x5 x6 x10 x11 x12 x13 : Value} {X Y ga ca gb cb : Nat} {w : World} (h : ShR w0 A B va vb D x5 x6 x10 x11 x12 x13 X Y ga ca gb cb w) (h1 : D 1 = true) (h4 : D 4 = true) (h5 : D 5 = true) (hD : D 6 = false) :
    ShR w0 A B va vb (fun j => j == 6 || D j) x5 x6 x10 x11 x12 x13 X Y ga ca gb cb ((((w.setCell ⟨X, 0, none⟩ (.int .i64 A.rows)).setCell ⟨X, 1, none⟩ (.int .i64 A.cols)).setCell ⟨X, 2, none⟩ (.bool A.area)).setCell ⟨X, 3, none⟩ (.slice (some ⟨ga, 0, none⟩) A.vs.length ca)) := by
  obtain ⟨e4, l4, b4⟩ := h.d4 h4
  obtain ⟨e5, l5, b5⟩ := h.d5 h5
  rw [hD, if_neg (by decide)] at b4
  refine ⟨(((h.bel.setCell l4 _).setCell l4 _).setCell l4 _).setCell l4 _, fun k => h.d0 (by simpa using k), fun k => h.d2 (by simpa using k), fun _ => ?_, fun k => ?_, fun _ => ⟨e4, l4, ?_⟩, fun _ => ⟨e5, l5, ?_⟩, fun k l => h.n14 (by simpa using k) (by simpa using l), fun k l => h.n15 (by simpa using k) (by simpa using l), fun k l => h.n34 (by simpa using k) (by simpa using l), fun k l => h.n35 (by simpa using k) (by simpa using l), fun k l => h.n45 (by simpa using k) (by simpa using l)⟩
  · obtain ⟨e, v, l1, l2⟩ := h.d1 h1
    exact ⟨e, vsl_far4 v (h.n14 h1 h4) _ _ _ _, l1, by simpa using l2⟩
  · have k' : D 3 = true := by simpa using k
    obtain ⟨e, v, l1, l2⟩ := h.d3 k'
    exact ⟨e, vsl_far4 v (h.n34 k' h4) _ _ _ _, l1, by simpa using l2⟩
  · have := Box.fill4 b4 (.int .i64 A.rows) (.int .i64 A.cols) (.bool A.area) (.slice (some ⟨ga, 0, none⟩) A.vs.length ca)
    simpa [arCs] using this
  · have := b5.of_block (set4_block (w := w) (.int .i64 A.rows) (.int .i64 A.cols) (.bool A.area) (.slice (some ⟨ga, 0, none⟩) A.vs.length ca) (Ne.symm (h.n45 h4 h5)))
    simpa using this
theorem ShR.step7 {w0 : World} {A B : Ar} {va vb : Value} {D : Nat → Bool} {x5 x6 x10 x11 x12 x13 : Value} {X Y ga ca gb cb : Nat} {w : World} (h : ShR w0 A B va vb D x5 x6 x10 x11 x12 x13 X Y ga ca gb cb w) (h3 : D 3 = true) (h4 : D 4 = true) (h5 : D 5 = true) (hD : D 7 = false) :
    ShR w0 A B va vb (fun j => j == 7 || D j) x5 x6 x10 x11 x12 x13 X Y ga ca gb cb ((((w.setCell ⟨Y, 0, none⟩ (.int .i64 B.rows)).setCell ⟨Y, 1, none⟩ (.int .i64 B.cols)).setCell ⟨Y, 2, none⟩ (.bool B.area)).setCell ⟨Y, 3, none⟩ (.slice (some ⟨gb, 0, none⟩) B.vs.length cb)) := by
  obtain ⟨e4, l4, b4⟩ := h.d4 h4
  obtain ⟨e5, l5, b5⟩ := h.d5 h5
  rw [hD, if_neg (by decide)] at b5
  refine ⟨(((h.bel.setCell l5 _).setCell l5 _).setCell l5 _).setCell l5 _, fun k => h.d0 (by simpa using k), fun k => h.d2 (by simpa using k), fun k => ?_, fun _ => ?_, fun _ => ⟨e4, l4, ?_⟩, fun _ => ⟨e5, l5, ?_⟩, fun k l => h.n14 (by simpa using k) (by simpa using l), fun k l => h.n15 (by simpa using k) (by simpa using l), fun k l => h.n34 (by simpa using k) (by simpa using l), fun k l => h.n35 (by simpa using k) (by simpa using l), fun k l => h.n45 (by simpa using k) (by simpa using l)⟩
  · have k' : D 1 = true := by simpa using k
    obtain ⟨e, v, l1, l2⟩ := h.d1 k'
    exact ⟨e, vsl_far4 v (h.n15 k' h5) _ _ _ _, l1, by simpa using l2⟩
  · obtain ⟨e, v, l1, l2⟩ := h.d3 h3
    exact ⟨e, vsl_far4 v (h.n35 h3 h5) _ _ _ _, l1, by simpa using l2⟩
  · have := b4.of_block (set4_block (w := w) (.int .i64 B.rows) (.int .i64 B.cols) (.bool B.area) (.slice (some ⟨gb, 0, none⟩) B.vs.length cb) (h.n45 h4 h5))
    simpa using this
  · have := Box.fill4 b5 (.int .i64 B.rows) (.int .i64 B.cols) (.bool B.area) (.slice (some ⟨gb, 0, none⟩) B.vs.length cb)
    simpa [arCs] using this
end Go.Proofs.YteelmbpmmobpjaaGreatDoor
