/-
  Layer value: arguments of one value, values told; the statements' areas.
-/
import Derived.Test.YteelmbpmmobpjaaGreatDoorValD
namespace Go.Proofs.YteelmbpmmobpjaaGreatDoor
open Go.RowKit
open UK (str BytesAt nth Only Row Box)
theorem Box.fill3 {w : World} {g : Nat} {b0 b1 b2 : Value} (h : Box w g #[b0, b1, b2]) (a0 a1 a2 : Value) : Box (((w.setCell ⟨g, 0, none⟩ a0).setCell ⟨g, 1, none⟩ a1).setCell ⟨g, 2, none⟩ a2) g #[a0, a1, a2] := by
  have := (((h.set 0 a0).set 1 a1).set 2 a2)
  exact this
theorem Box.fill4 {w : World} {g : Nat} {b0 b1 b2 b3 : Value} (h : Box w g #[b0, b1, b2, b3]) (a0 a1 a2 a3 : Value) : Box ((((w.setCell ⟨g, 0, none⟩ a0).setCell ⟨g, 1, none⟩ a1).setCell ⟨g, 2, none⟩ a2).setCell ⟨g, 3, none⟩ a3) g #[a0, a1, a2, a3] := by
  have := ((((h.set 0 a0).set 1 a1).set 2 a2).set 3 a3)
  exact this
theorem plain_size : (Tryz.prog.info? 46).map (·.size) = some 3 := by kernel_rfl
theorem v15_size : (Tryz.prog.info? 32).map (·.size) = some 3 := by kernel_rfl
theorem arg_size : (Tryz.prog.info? 27).map (·.size) = some 4 := by kernel_rfl
/-- a value as plain data -/
def tellK : V → Int
  | .blank => 0
  | .num _ => 1
  | .text _ => 2
  | .bool _ => 3
  | .fail _ => 4
def tellN : V → Int
  | .num n => n
  | .bool b => if b then 1 else 0
  | .fail k => k
  | _ => 0
def tellS : V → List UInt8
  | .text l => l
  | _ => []
def tellC (v : V) : Array Value := #[.int .i64 (tellK v), .int .i64 (tellN v), .string (str (tellS v))]
theorem tell_eq {v u : V} : tellK v = tellK u → tellN v = tellN u → tellS v = tellS u → v = u := by
  cases v <;> cases u <;> simp [tellK, tellN, tellS]
  rename_i a b
  cases a <;> cases b <;> simp
theorem val_iface (v : V) : ∃ T p, v.val = .iface T p := by cases v <;> exact ⟨_, _, rfl⟩
set_option maxRecDepth 100000 in
theorem tell_any {w : World} (v : V) : Calls Tryz.prog 20 #[v.val] w fun e w' => e = .returned (.agg (tellC v)) ∧ Below w.heap.size w w' := by
  cases v with
  | bool b =>
    cases b
    all_goals
      unfold V.val
      go_enter Tryz.func20, Tryz.ntmps20
      go_wp2
      refine bodyPost_ret (UK.box_ret rfl _ (Box.new w _ 46) rfl Tryz.underlying46 rfl plain_size) rfl ?_
      exact ⟨rfl, (Below.refl _ _).alloc (Nat.le_refl _) _⟩
  | _ =>
    unfold V.val
    go_enter Tryz.func20, Tryz.ntmps20
    go_wp2
    refine bodyPost_ret (UK.box_ret rfl _ (Box.new w _ 46) rfl Tryz.underlying46 rfl plain_size) rfl ?_
    exact ⟨rfl, (Below.refl _ _).alloc (Nat.le_refl _) _⟩
set_option maxRecDepth 100000 in
theorem one_any {w : World} (v : V) : Calls Tryz.prog 12 #[v.val] w fun e w' => ∃ g c, e = .returned (ArV ⟨1, 1, false, [v]⟩ (.slice (some ⟨g, 0, none⟩) 1 c)) ∧ w.heap.size ≤ g ∧ VSl w'.heap.size w' (.slice (some ⟨g, 0, none⟩) 1 c) [v] ∧ Below w.heap.size w w' := by
  obtain ⟨T, p, hv⟩ := val_iface v
  rw [hv]
  have HV := Lib.hid hv
  clear hv
  go_enter Tryz.func12, Tryz.ntmps12
  go_wp2
  refine bodyPost_ret (UK.box_ret rfl _ ((Box.new w _ 27).alloc _) rfl Tryz.underlying27 rfl arg_size) rfl ?_
  refine ⟨w.heap.size + 1, 1, rfl, by omega, ⟨⟨w.heap.size + 1, 1, rfl, by simp, fun j u hj => ?_⟩, Nat.le_refl _⟩, ((Below.refl _ _).alloc (Nat.le_refl _) _).alloc (by simp) _⟩
  have hj0 : j = 0 := by
    rcases Nat.lt_or_ge j 1 with h | h
    · omega
    · rw [List.getElem?_eq_none (by simpa using h)] at hj; cases hj
  subst hj0
  obtain rfl : v = u := by simpa using hj
  rw [HV.out]
  have := World.cell?_alloc_new (w.alloc (.cells #[.int .i64 1, .int .i64 1, .bool false, .slice (some ⟨w.heap.size + 1, 0, none⟩) 1 1] 27)) #[.iface T p] 35 0
  rw [World.size_alloc] at this
  exact this
set_option maxRecDepth 100000 in
theorem told_any {w : World} (v : V) : Calls Tryz.prog 9 #[v.val] w fun e w' => e = .returned (.agg (tellC v)) ∧ Below w.heap.size w w' := by
  have HT := Lib.hid (fun w => tell_any (w := w) v)
  unfold tellC at *
  generalize v.val = vv at *
  generalize tellK v = k at *
  generalize tellN v = n at *
  generalize str (tellS v) = s at *
  go_enter Tryz.func9, Tryz.ntmps9
  go_wp2_with fail
  refine (HT.out _).mono ?_
  rintro e w1 ⟨rfl, b1⟩
  have hsz := b1.size
  simp only [World.size_alloc] at hsz
  have hx := (Box.new w #[.int .i64 0, .int .i64 0, .string (str [])] 32).next b1
  have HX := Lib.hid (And.intro hx b1)
  have hlt : w.heap.size < w1.heap.size := by omega
  have c0 := hx.cell 0 _ rfl
  have c1 := hx.cell 1 _ rfl
  have c2 := hx.cell 2 _ rfl
  have f0 := hx.free 0
  have f1 := hx.free 1
  have f2 := hx.free 2
  clear hx b1 hsz HT
  go_wp2
  refine bodyPost_ret (UK.box_ret rfl _ ((Box.fill3 HX.out.1 _ _ _).alloc _) rfl Tryz.underlying32 rfl v15_size) rfl ?_
  have hb : Below w.heap.size w w1 := ((Below.refl _ _).alloc (Nat.le_refl _) _).trans (HX.out.2.mono (by simp))
  exact ⟨rfl, (((hb.setCell (Nat.le_refl _) _).setCell (Nat.le_refl _) _).setCell (Nat.le_refl _) _).alloc (by have := hb.size; simpa using this) _⟩
/-- the only value of an argument -/
theorem value_any {n : Nat} {w : World} {t : Value} {v : V} {r c : Int} {ar : Bool} (h : VSl n w t [v]) :
    Calls Tryz.prog 27 #[.agg #[.int .i64 r, .int .i64 c, .bool ar, t]] w fun e w' => e = .returned v.val ∧ Below w.heap.size w w' := by
  obtain ⟨⟨g, cc, rfl, hg, hc⟩, hl⟩ := h
  have c0 := hc 0 v rfl
  have hne : g ≠ w.heap.size := by omega
  have c0' := (cell_below (o := 0) ((Below.refl w.heap.size w).alloc (Nat.le_refl _) (.cells #[.int .i64 r, .int .i64 c, .bool ar, .slice (some ⟨g, 0, none⟩) 1 cc] 27)) (by omega : g < w.heap.size)).trans c0
  generalize v.val = vv at *
  clear hc c0
  go_enter Tryz.func27, Tryz.ntmps27
  go_wp2
  go_ret
  exact ⟨rfl, (Below.refl _ _).alloc (Nat.le_refl _) _⟩
end Go.Proofs.YteelmbpmmobpjaaGreatDoor
