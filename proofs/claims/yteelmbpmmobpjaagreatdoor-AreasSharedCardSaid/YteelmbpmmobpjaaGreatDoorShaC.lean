/-
  AreasShared: the answers by name, and the region in which both answers are told (printed by genshc.py).
-/
import Derived.Test.YteelmbpmmobpjaaGreatDoorShaB
namespace Go.Proofs.YteelmbpmmobpjaaGreatDoor
open Go.RowKit
open UK (str BytesAt nth Only Row Box)
def shNames : List (List UInt8) := [[83, 85, 77], [67, 79, 85, 78, 84], [67, 79, 85, 78, 84, 65], [77, 73, 78], [77, 65, 88], [83, 85, 77, 83, 81], [65, 86, 69, 82, 65, 71, 69], [77, 69, 68, 73, 65, 78], [65, 78, 68]]
def bothA (A B : Ar) : Ar := ⟨(A.vs.length : Int) + (B.vs.length : Int), 1, true, A.vs ++ B.vs⟩
theorem flat_both {A B : Ar} (hA : A.area = true) (hB : B.area = true) : flat [A, B] = flat [bothA A B] := by
  simp [flat, flat1, bothA, hA, hB]
/-- a function's answer, of both areas and of the one that holds both -/
def ShAns (A B : Ar) (nm : List UInt8) (v : V) : Prop := ∀ (W : World) (s : Value) (ars : List Ar), ars = [A, B] ∨ ars = [bothA A B] → ASl W.heap.size W s ars → Calls Tryz.prog 10 #[.string (str nm), s] W fun e w' => e = .returned v.val ∧ Below W.heap.size W w'
theorem sh_ans {A B : Ar} (hA : A.area = true) (hB : B.area = true) (lA : A.vs.length ≤ 30) (lB : B.vs.length ≤ 30) (okA : ∀ v ∈ A.vs, v.Ok) (okB : ∀ v ∈ B.vs, v.Ok) : ∀ nm ∈ shNames, ∃ v, ShAns A B nm v := by
  have hfl : ∀ ars, ars = [A, B] ∨ ars = [bothA A B] → flat ars = flat [A, B] ∧ 1 ≤ ars.length ∧ ars.length ≤ 30 ∧ (∀ a ∈ ars, a.vs.length ≤ 1000 ∧ ∀ v ∈ a.vs, v.Ok) ∧ (∀ a ∈ ars, a.area = true) := by
    rintro ars (rfl | rfl)
    · refine ⟨rfl, by simp, by simp, fun a ha => ?_, fun a ha => ?_⟩
      · rcases List.mem_cons.1 ha with rfl | ha
        · exact ⟨by omega, okA⟩
        · rw [List.mem_singleton.1 ha]; exact ⟨by omega, okB⟩
      · rcases List.mem_cons.1 ha with rfl | ha
        · exact hA
        · rw [List.mem_singleton.1 ha]; exact hB
    · refine ⟨(flat_both hA hB).symm, by simp, by simp, fun a ha => ?_, fun a ha => ?_⟩
      · rw [List.mem_singleton.1 ha]
        refine ⟨by show (A.vs ++ B.vs).length ≤ 1000; rw [List.length_append]; omega, fun v hv => ?_⟩
        rcases List.mem_append.1 hv with h | h
        · exact okA v h
        · exact okB v h
      · rw [List.mem_singleton.1 ha]; rfl
  have hk : (numsOf (flat [A, B])).length ≤ 1000 := by
    refine Nat.le_trans (numsOf_le _) ?_
    simp [flat, flat1]
    omega
  intro nm hnm
  simp only [shNames, List.mem_cons, List.not_mem_nil, or_false] at hnm
  rcases hnm with rfl | rfl | rfl | rfl | rfl | rfl | rfl | rfl | rfl
  · refine ⟨callV sumV (flat [A, B]), fun W s ars ha h => ?_⟩
    obtain ⟨he, h1, h2, h3, h4⟩ := hfl ars ha
    rw [← he]
    exact calls_sum h h1 h2 h3 (Nat.le_refl _) (by rw [he]; exact hk)
  · refine ⟨.num ((cntF isNum (flat [A, B]) : Int) * 10000), fun W s ars ha h => ?_⟩
    obtain ⟨he, h1, h2, h3, h4⟩ := hfl ars ha
    rw [← he]
    exact calls_count h h1 h2 (fun a ha => (h3 a ha).1) h4 (Nat.le_refl _)
  · refine ⟨.num ((cntF (fun v => !isBlank v) (flat [A, B]) : Int) * 10000), fun W s ars ha h => ?_⟩
    obtain ⟨he, h1, h2, h3, h4⟩ := hfl ars ha
    rw [← he]
    exact calls_counta h h1 h2 (fun a ha => (h3 a ha).1) h4 (Nat.le_refl _)
  · refine ⟨callV minV (flat [A, B]), fun W s ars ha h => ?_⟩
    obtain ⟨he, h1, h2, h3, h4⟩ := hfl ars ha
    rw [← he]
    exact calls_min h h1 h2 h3 (Nat.le_refl _) (by rw [he]; exact hk)
  · refine ⟨callV maxV (flat [A, B]), fun W s ars ha h => ?_⟩
    obtain ⟨he, h1, h2, h3, h4⟩ := hfl ars ha
    rw [← he]
    exact calls_max h h1 h2 h3 (Nat.le_refl _) (by rw [he]; exact hk)
  · refine ⟨callV sqV (flat [A, B]), fun W s ars ha h => ?_⟩
    obtain ⟨he, h1, h2, h3, h4⟩ := hfl ars ha
    rw [← he]
    exact calls_sumsq h h1 h2 h3 (Nat.le_refl _) (by rw [he]; exact hk)
  · refine ⟨callV meanV (flat [A, B]), fun W s ars ha h => ?_⟩
    obtain ⟨he, h1, h2, h3, h4⟩ := hfl ars ha
    rw [← he]
    exact calls_average h h1 h2 h3 (Nat.le_refl _) (by rw [he]; exact hk)
  · refine ⟨callV medV (flat [A, B]), fun W s ars ha h => ?_⟩
    obtain ⟨he, h1, h2, h3, h4⟩ := hfl ars ha
    rw [← he]
    exact calls_median h h1 h2 h3 (Nat.le_refl _) (by rw [he]; exact hk)
  · refine ⟨truV (flat [A, B]), fun W s ars ha h => ?_⟩
    obtain ⟨he, h1, h2, h3, h4⟩ := hfl ars ha
    rw [← he]
    exact calls_and h h1 h2 (fun a ha => (h3 a ha).1) h4 (Nat.le_refl _)
theorem run_neq_v15 (W : World) (k n k' n' : Int) (s s' : ByteArray) : (binOp .neq 32 (.agg #[.int .i64 k, .int .i64 n, .string s]) (.agg #[.int .i64 k', .int .i64 n', .string s'])).run Tryz.prog W = .ok (.bool (!(k == k' && n == n' && s.toList == s'.toList))) W := by
  have hp : Tryz.prog.stoodInHeld 32 = false := by kernel_rfl
  have hS := v15_fields
  rw [run_neq_struct, show (10000 : Nat) = 9999 + 1 from rfl, run_equalIn_agg W 9999 32 _ _ hS hp]
  simp only [Program.fieldsOf, Tryz.underlying32]
  go_simp
  by_cases h1 : k = k' <;> by_cases h2 : n = n' <;> by_cases h3 : s.toList = s'.toList <;> simp [h1, h2, h3]
theorem neq_told (W : World) (v : V) : (binOp .neq 32 (.agg (tellC v)) (.agg (tellC v))).run Tryz.prog W = .ok (.bool false) W := (run_neq_v15 W _ _ _ _ _ _).trans (by simp)
/-- the law's three areas, behind calls that make memory -/
structure ShL (w : World) (A B : Ar) (X Y Z ga ca gb cb G2 c2 : Nat) (wr : World) : Prop where
  bel : Below w.heap.size w wr
  bx : Box wr X (arCs A ga ca)
  bY : Box wr Y (arCs B gb cb)
  bz : Box wr Z (bothCs A B G2 c2)
  va : VSl wr.heap.size wr (.slice (some ⟨ga, 0, none⟩) A.vs.length ca) A.vs
  vb : VSl wr.heap.size wr (.slice (some ⟨gb, 0, none⟩) B.vs.length cb) B.vs
  vz : VSl wr.heap.size wr (.slice (some ⟨G2, 0, none⟩) (A.vs.length + B.vs.length) c2) (A.vs ++ B.vs)
  env : EnvS wr
theorem ShL.next {w : World} {A B : Ar} {X Y Z ga ca gb cb G2 c2 : Nat} {wr W : World} (h : ShL w A B X Y Z ga ca gb cb G2 c2 wr) (hb : Below wr.heap.size wr W) : ShL w A B X Y Z ga ca gb cb G2 c2 W :=
  ⟨h.bel.trans (hb.mono h.bel.size), h.bx.next hb, h.bY.next hb, h.bz.next hb, (h.va.below hb).up hb.size (Nat.le_refl _), (h.vb.below hb).up hb.size (Nat.le_refl _), (h.vz.below hb).up hb.size (Nat.le_refl _), h.env.next hb⟩
structure ShP (w0 : World) (A B : Ar) (nm : List UInt8) (v : V) (ga ca gb cb G2 c2 : Nat) (D : Nat → Bool) (x44 x45 x46 x47 x48 x49 x50 x51 x52 x53 x54 x55 : Value) (P Q : Nat) (w : World) : Prop where
  bel : Below w0.heap.size w0 w
  e0 : D 0 = true → x44 = .string (str nm)
  e1 : D 1 = true → x45 = .agg (arCs A ga ca)
  e2 : D 2 = true → x46 = .agg (arCs B gb cb)
  e3 : D 3 = true → x47 = .slice (some ⟨P, 0, none⟩) 2 2 ∧ Box w P #[.int .i64 A.rows, .int .i64 A.cols, .bool A.area, .slice (some ⟨ga, 0, none⟩) A.vs.length ca, .int .i64 B.rows, .int .i64 B.cols, .bool B.area, .slice (some ⟨gb, 0, none⟩) B.vs.length cb]
  e4 : D 4 = true → x48 = v.val
  e5 : D 5 = true → x49 = .agg (tellC v)
  e6 : D 6 = true → x50 = .string (str nm)
  e7 : D 7 = true → x51 = .agg (bothCs A B G2 c2)
  e8 : D 8 = true → x52 = .slice (some ⟨Q, 0, none⟩) 1 1 ∧ Box w Q (bothCs A B G2 c2)
  e9 : D 9 = true → x53 = v.val
  e10 : D 10 = true → x54 = .agg (tellC v)
  e11 : D 11 = true → x55 = .bool false
theorem ShP.move {w0 : World} {A B : Ar} {nm : List UInt8} {v : V} {ga ca gb cb G2 c2 : Nat} {D : Nat → Bool} {x44 x45 x46 x47 x48 x49 x50 x51 x52 x53 x54 x55 : Value} {P Q : Nat} {w : World} {w2 : World} (h : ShP w0 A B nm v ga ca gb cb G2 c2 D x44 x45 x46 x47 x48 x49 x50 x51 x52 x53 x54 x55 P Q w) (hb : Below w.heap.size w w2) : ShP w0 A B nm v ga ca gb cb G2 c2 D x44 x45 x46 x47 x48 x49 x50 x51 x52 x53 x54 x55 P Q w2 :=
  ⟨h.bel.trans (hb.mono h.bel.size), h.e0, h.e1, h.e2, fun k => ⟨(h.e3 k).1, (h.e3 k).2.next hb⟩, h.e4, h.e5, h.e6, h.e7, fun k => ⟨(h.e8 k).1, (h.e8 k).2.next hb⟩, h.e9, h.e10, h.e11⟩
theorem ShP.step0 {w0 : World} {A B : Ar} {nm : List UInt8} {v : V} {ga ca gb cb G2 c2 : Nat} {D : Nat → Bool} {x44 x45 x46 x47 x48 x49 x50 x51 x52 x53 x54 x55 : Value} {P Q : Nat} {w : World} (h : ShP w0 A B nm v ga ca gb cb G2 c2 D x44 x45 x46 x47 x48 x49 x50 x51 x52 x53 x54 x55 P Q w) : ShP w0 A B nm v ga ca gb cb G2 c2 (fun j => j == 0 || D j) (.string (str nm)) x45 x46 x47 x48 x49 x50 x51 x52 x53 x54 x55 P Q w :=
  ⟨h.bel, fun _ => rfl, fun k => h.e1 (by simpa using k), fun k => h.e2 (by simpa using k), fun k => h.e3 (by simpa using k), fun k => h.e4 (by simpa using k), fun k => h.e5 (by simpa using k), fun k => h.e6 (by simpa using k), fun k => h.e7 (by simpa using k), fun k => h.e8 (by simpa using k), fun k => h.e9 (by simpa using k), fun k => h.e10 (by simpa using k), fun k => h.e11 (by simpa using k)⟩
theorem ShP.step1 {w0 : World} {A B : Ar} {nm : List UInt8} {v : V} {ga ca gb cb G2 c2 : Nat} {D : Nat → Bool} {x44 x45 x46 x47 x48 x49 x50 x51 x52 x53 x54 x55 : Value} {P Q : Nat} {w : World} (h : ShP w0 A B nm v ga ca gb cb G2 c2 D x44 x45 x46 x47 x48 x49 x50 x51 x52 x53 x54 x55 P Q w) : ShP w0 A B nm v ga ca gb cb G2 c2 (fun j => j == 1 || D j) x44 (.agg (arCs A ga ca)) x46 x47 x48 x49 x50 x51 x52 x53 x54 x55 P Q w :=
  ⟨h.bel, fun k => h.e0 (by simpa using k), fun _ => rfl, fun k => h.e2 (by simpa using k), fun k => h.e3 (by simpa using k), fun k => h.e4 (by simpa using k), fun k => h.e5 (by simpa using k), fun k => h.e6 (by simpa using k), fun k => h.e7 (by simpa using k), fun k => h.e8 (by simpa using k), fun k => h.e9 (by simpa using k), fun k => h.e10 (by simpa using k), fun k => h.e11 (by simpa using k)⟩
theorem ShP.step2 {w0 : World} {A B : Ar} {nm : List UInt8} {v : V} {ga ca gb cb G2 c2 : Nat} {D : Nat → Bool} {x44 x45 x46 x47 x48 x49 x50 x51 x52 x53 x54 x55 : Value} {P Q : Nat} {w : World} (h : ShP w0 A B nm v ga ca gb cb G2 c2 D x44 x45 x46 x47 x48 x49 x50 x51 x52 x53 x54 x55 P Q w) : ShP w0 A B nm v ga ca gb cb G2 c2 (fun j => j == 2 || D j) x44 x45 (.agg (arCs B gb cb)) x47 x48 x49 x50 x51 x52 x53 x54 x55 P Q w :=
  ⟨h.bel, fun k => h.e0 (by simpa using k), fun k => h.e1 (by simpa using k), fun _ => rfl, fun k => h.e3 (by simpa using k), fun k => h.e4 (by simpa using k), fun k => h.e5 (by simpa using k), fun k => h.e6 (by simpa using k), fun k => h.e7 (by simpa using k), fun k => h.e8 (by simpa using k), fun k => h.e9 (by simpa using k), fun k => h.e10 (by simpa using k), fun k => h.e11 (by simpa using k)⟩
theorem ShP.step3 {w0 : World} {A B : Ar} {nm : List UInt8} {v : V} {ga ca gb cb G2 c2 : Nat} {D : Nat → Bool} {x44 x45 x46 x47 x48 x49 x50 x51 x52 x53 x54 x55 : Value} {P Q : Nat} {w : World} {T : TypeId} (h : ShP w0 A B nm v ga ca gb cb G2 c2 D x44 x45 x46 x47 x48 x49 x50 x51 x52 x53 x54 x55 P Q w) : ShP w0 A B nm v ga ca gb cb G2 c2 (fun j => j == 3 || D j) x44 x45 x46 (.slice (some ⟨w.heap.size, 0, none⟩) 2 2) x48 x49 x50 x51 x52 x53 x54 x55 w.heap.size Q (w.alloc (.cells #[.int .i64 A.rows, .int .i64 A.cols, .bool A.area, .slice (some ⟨ga, 0, none⟩) A.vs.length ca, .int .i64 B.rows, .int .i64 B.cols, .bool B.area, .slice (some ⟨gb, 0, none⟩) B.vs.length cb] T)) := by
  have h2 := h.move (show Below w.heap.size w (w.alloc (.cells #[.int .i64 A.rows, .int .i64 A.cols, .bool A.area, .slice (some ⟨ga, 0, none⟩) A.vs.length ca, .int .i64 B.rows, .int .i64 B.cols, .bool B.area, .slice (some ⟨gb, 0, none⟩) B.vs.length cb] T)) from (Below.refl _ _).alloc (Nat.le_refl _) _)
  exact ⟨h2.bel, fun k => h2.e0 (by simpa using k), fun k => h2.e1 (by simpa using k), fun k => h2.e2 (by simpa using k), fun _ => ⟨rfl, Box.new w _ T⟩, fun k => h2.e4 (by simpa using k), fun k => h2.e5 (by simpa using k), fun k => h2.e6 (by simpa using k), fun k => h2.e7 (by simpa using k), fun k => h2.e8 (by simpa using k), fun k => h2.e9 (by simpa using k), fun k => h2.e10 (by simpa using k), fun k => h2.e11 (by simpa using k)⟩
theorem ShP.step4 {w0 : World} {A B : Ar} {nm : List UInt8} {v : V} {ga ca gb cb G2 c2 : Nat} {D : Nat → Bool} {x44 x45 x46 x47 x48 x49 x50 x51 x52 x53 x54 x55 : Value} {P Q : Nat} {w : World} {w2 : World} (h : ShP w0 A B nm v ga ca gb cb G2 c2 D x44 x45 x46 x47 x48 x49 x50 x51 x52 x53 x54 x55 P Q w) (hb : Below w.heap.size w w2) : ShP w0 A B nm v ga ca gb cb G2 c2 (fun j => j == 4 || D j) x44 x45 x46 x47 v.val x49 x50 x51 x52 x53 x54 x55 P Q w2 := by
  have h2 := h.move hb
  exact ⟨h2.bel, fun k => h2.e0 (by simpa using k), fun k => h2.e1 (by simpa using k), fun k => h2.e2 (by simpa using k), fun k => h2.e3 (by simpa using k), fun _ => rfl, fun k => h2.e5 (by simpa using k), fun k => h2.e6 (by simpa using k), fun k => h2.e7 (by simpa using k), fun k => h2.e8 (by simpa using k), fun k => h2.e9 (by simpa using k), fun k => h2.e10 (by simpa using k), fun k => h2.e11 (by simpa using k)⟩
theorem ShP.step5 {w0 : World} {A B : Ar} {nm : List UInt8} {v : V} {ga ca gb cb G2 c2 : Nat} {D : Nat → Bool} {x44 x45 x46 x47 x48 x49 x50 x51 x52 x53 x54 x55 : Value} {P Q : Nat} {w : World} {w2 : World} (h : ShP w0 A B nm v ga ca gb cb G2 c2 D x44 x45 x46 x47 x48 x49 x50 x51 x52 x53 x54 x55 P Q w) (hb : Below w.heap.size w w2) : ShP w0 A B nm v ga ca gb cb G2 c2 (fun j => j == 5 || D j) x44 x45 x46 x47 x48 (.agg (tellC v)) x50 x51 x52 x53 x54 x55 P Q w2 := by
  have h2 := h.move hb
  exact ⟨h2.bel, fun k => h2.e0 (by simpa using k), fun k => h2.e1 (by simpa using k), fun k => h2.e2 (by simpa using k), fun k => h2.e3 (by simpa using k), fun k => h2.e4 (by simpa using k), fun _ => rfl, fun k => h2.e6 (by simpa using k), fun k => h2.e7 (by simpa using k), fun k => h2.e8 (by simpa using k), fun k => h2.e9 (by simpa using k), fun k => h2.e10 (by simpa using k), fun k => h2.e11 (by simpa using k)⟩
theorem ShP.step6 {w0 : World} {A B : Ar} {nm : List UInt8} {v : V} {ga ca gb cb G2 c2 : Nat} {D : Nat → Bool} {x44 x45 x46 x47 x48 x49 x50 x51 x52 x53 x54 x55 : Value} {P Q : Nat} {w : World} (h : ShP w0 A B nm v ga ca gb cb G2 c2 D x44 x45 x46 x47 x48 x49 x50 x51 x52 x53 x54 x55 P Q w) : ShP w0 A B nm v ga ca gb cb G2 c2 (fun j => j == 6 || D j) x44 x45 x46 x47 x48 x49 (.string (str nm)) x51 x52 x53 x54 x55 P Q w :=
  ⟨h.bel, fun k => h.e0 (by simpa using k), fun k => h.e1 (by simpa using k), fun k => h.e2 (by simpa using k), fun k => h.e3 (by simpa using k), fun k => h.e4 (by simpa using k), fun k => h.e5 (by simpa using k), fun _ => rfl, fun k => h.e7 (by simpa using k), fun k => h.e8 (by simpa using k), fun k => h.e9 (by simpa using k), fun k => h.e10 (by simpa using k), fun k => h.e11 (by simpa using k)⟩
theorem ShP.step7 {w0 : World} {A B : Ar} {nm : List UInt8} {v : V} {ga ca gb cb G2 c2 : Nat} {D : Nat → Bool} {x44 x45 x46 x47 x48 x49 x50 x51 x52 x53 x54 x55 : Value} {P Q : Nat} {w : World} (h : ShP w0 A B nm v ga ca gb cb G2 c2 D x44 x45 x46 x47 x48 x49 x50 x51 x52 x53 x54 x55 P Q w) : ShP w0 A B nm v ga ca gb cb G2 c2 (fun j => j == 7 || D j) x44 x45 x46 x47 x48 x49 x50 (.agg (bothCs A B G2 c2)) x52 x53 x54 x55 P Q w :=
  ⟨h.bel, fun k => h.e0 (by simpa using k), fun k => h.e1 (by simpa using k), fun k => h.e2 (by simpa using k), fun k => h.e3 (by simpa using k), fun k => h.e4 (by simpa using k), fun k => h.e5 (by simpa using k), fun k => h.e6 (by simpa using k), fun _ => rfl, fun k => h.e8 (by simpa using k), fun k => h.e9 (by simpa using k), fun k => h.e10 (by simpa using k), fun k => h.e11 (by simpa using k)⟩
theorem ShP.step8 {w0 : World} {A B : Ar} {nm : List UInt8} {v : V} {ga ca gb cb G2 c2 : Nat} {D : Nat → Bool} {x44 x45 x46 x47 x48 x49 x50 x51 x52 x53 x54 x55 : Value} {P Q : Nat} {w : World} {T : TypeId} (h : ShP w0 A B nm v ga ca gb cb G2 c2 D x44 x45 x46 x47 x48 x49 x50 x51 x52 x53 x54 x55 P Q w) : ShP w0 A B nm v ga ca gb cb G2 c2 (fun j => j == 8 || D j) x44 x45 x46 x47 x48 x49 x50 x51 (.slice (some ⟨w.heap.size, 0, none⟩) 1 1) x53 x54 x55 P w.heap.size (w.alloc (.cells (bothCs A B G2 c2) T)) := by
  have h2 := h.move (show Below w.heap.size w (w.alloc (.cells (bothCs A B G2 c2) T)) from (Below.refl _ _).alloc (Nat.le_refl _) _)
  exact ⟨h2.bel, fun k => h2.e0 (by simpa using k), fun k => h2.e1 (by simpa using k), fun k => h2.e2 (by simpa using k), fun k => h2.e3 (by simpa using k), fun k => h2.e4 (by simpa using k), fun k => h2.e5 (by simpa using k), fun k => h2.e6 (by simpa using k), fun k => h2.e7 (by simpa using k), fun _ => ⟨rfl, Box.new w _ T⟩, fun k => h2.e9 (by simpa using k), fun k => h2.e10 (by simpa using k), fun k => h2.e11 (by simpa using k)⟩
theorem ShP.step9 {w0 : World} {A B : Ar} {nm : List UInt8} {v : V} {ga ca gb cb G2 c2 : Nat} {D : Nat → Bool} {x44 x45 x46 x47 x48 x49 x50 x51 x52 x53 x54 x55 : Value} {P Q : Nat} {w : World} {w2 : World} (h : ShP w0 A B nm v ga ca gb cb G2 c2 D x44 x45 x46 x47 x48 x49 x50 x51 x52 x53 x54 x55 P Q w) (hb : Below w.heap.size w w2) : ShP w0 A B nm v ga ca gb cb G2 c2 (fun j => j == 9 || D j) x44 x45 x46 x47 x48 x49 x50 x51 x52 v.val x54 x55 P Q w2 := by
  have h2 := h.move hb
  exact ⟨h2.bel, fun k => h2.e0 (by simpa using k), fun k => h2.e1 (by simpa using k), fun k => h2.e2 (by simpa using k), fun k => h2.e3 (by simpa using k), fun k => h2.e4 (by simpa using k), fun k => h2.e5 (by simpa using k), fun k => h2.e6 (by simpa using k), fun k => h2.e7 (by simpa using k), fun k => h2.e8 (by simpa using k), fun _ => rfl, fun k => h2.e10 (by simpa using k), fun k => h2.e11 (by simpa using k)⟩
theorem ShP.step10 {w0 : World} {A B : Ar} {nm : List UInt8} {v : V} {ga ca gb cb G2 c2 : Nat} {D : Nat → Bool} {x44 x45 x46 x47 x48 x49 x50 x51 x52 x53 x54 x55 : Value} {P Q : Nat} {w : World} {w2 : World} (h : ShP w0 A B nm v ga ca gb cb G2 c2 D x44 x45 x46 x47 x48 x49 x50 x51 x52 x53 x54 x55 P Q w) (hb : Below w.heap.size w w2) : ShP w0 A B nm v ga ca gb cb G2 c2 (fun j => j == 10 || D j) x44 x45 x46 x47 x48 x49 x50 x51 x52 x53 (.agg (tellC v)) x55 P Q w2 := by
  have h2 := h.move hb
  exact ⟨h2.bel, fun k => h2.e0 (by simpa using k), fun k => h2.e1 (by simpa using k), fun k => h2.e2 (by simpa using k), fun k => h2.e3 (by simpa using k), fun k => h2.e4 (by simpa using k), fun k => h2.e5 (by simpa using k), fun k => h2.e6 (by simpa using k), fun k => h2.e7 (by simpa using k), fun k => h2.e8 (by simpa using k), fun k => h2.e9 (by simpa using k), fun _ => rfl, fun k => h2.e11 (by simpa using k)⟩
theorem ShP.step11 {w0 : World} {A B : Ar} {nm : List UInt8} {v : V} {ga ca gb cb G2 c2 : Nat} {D : Nat → Bool} {x44 x45 x46 x47 x48 x49 x50 x51 x52 x53 x54 x55 : Value} {P Q : Nat} {w : World} (h : ShP w0 A B nm v ga ca gb cb G2 c2 D x44 x45 x46 x47 x48 x49 x50 x51 x52 x53 x54 x55 P Q w) : ShP w0 A B nm v ga ca gb cb G2 c2 (fun j => j == 11 || D j) x44 x45 x46 x47 x48 x49 x50 x51 x52 x53 x54 (.bool false) P Q w :=
  ⟨h.bel, fun k => h.e0 (by simpa using k), fun k => h.e1 (by simpa using k), fun k => h.e2 (by simpa using k), fun k => h.e3 (by simpa using k), fun k => h.e4 (by simpa using k), fun k => h.e5 (by simpa using k), fun k => h.e6 (by simpa using k), fun k => h.e7 (by simpa using k), fun k => h.e8 (by simpa using k), fun k => h.e9 (by simpa using k), fun k => h.e10 (by simpa using k), fun _ => rfl⟩
theorem ShP.start {w0 w : World} {A B : Ar} {nm : List UInt8} {v : V} {ga ca gb cb G2 c2 : Nat} {x44 x45 x46 x47 x48 x49 x50 x51 x52 x53 x54 x55 : Value} (hb : Below w0.heap.size w0 w) : ShP w0 A B nm v ga ca gb cb G2 c2 (fun _ => false) x44 x45 x46 x47 x48 x49 x50 x51 x52 x53 x54 x55 0 0 w :=
  ⟨hb, nofun, nofun, nofun, nofun, nofun, nofun, nofun, nofun, nofun, nofun, nofun, nofun⟩
def shPv (w0 : World) (A B : Ar) (nm : List UInt8) (v : V) (ga ca gb cb G2 c2 : Nat) (a0 : Act) (D : Nat → Bool) (a : Act) (w : World) : Prop :=
  ∃ x44 x45 x46 x47 x48 x49 x50 x51 x52 x53 x54 x55 P Q, a = ((((((((((((a0.put (some 44) x44).put (some 45) x45).put (some 46) x46).put (some 47) x47).put (some 48) x48).put (some 49) x49).put (some 50) x50).put (some 51) x51).put (some 52) x52).put (some 53) x53).put (some 54) x54).put (some 55) x55) ∧ ShP w0 A B nm v ga ca gb cb G2 c2 D x44 x45 x46 x47 x48 x49 x50 x51 x52 x53 x54 x55 P Q w
end Go.Proofs.YteelmbpmmobpjaaGreatDoor
