/-
  Slices of values, arguments and slices of arguments in memory; areas.all against any function.
-/
import Derived.Test.YteelmbpmmobpjaaGreatDoorValA
namespace Go.Proofs.YteelmbpmmobpjaaGreatDoor
open Go.RowKit
open UK (str BytesAt nth Only Row Box)
/-- an argument: rows, columns, is it an area, its values -/
structure Ar where
  rows : Int
  cols : Int
  area : Bool
  vs : List V
/-- a slice of values, below n -/
structure VSl (n : Nat) (W : World) (s : Value) (vs : List V) : Prop where
  is : ∃ g c, s = .slice (some ⟨g, 0, none⟩) vs.length c ∧ g < n ∧ ∀ j v, vs[j]? = some v → W.cell? ⟨g, j, none⟩ = some v.val
  le : n ≤ W.heap.size
theorem cell_below {n : Nat} {W W' : World} (hb : Below n W W') {g o : Nat} (hg : g < n) : W'.cell? ⟨g, o, none⟩ = W.cell? ⟨g, o, none⟩ := hb.cell (p := ⟨g, o, none⟩) hg
theorem VSl.below {n : Nat} {W W' : World} {s : Value} {vs : List V} (h : VSl n W s vs) (hb : Below n W W') : VSl n W' s vs := by
  obtain ⟨⟨g, c, rfl, hg, hc⟩, hl⟩ := h
  exact ⟨⟨g, c, rfl, hg, fun j v hj => (cell_below hb hg).trans (hc j v hj)⟩, Nat.le_trans hl hb.size⟩
theorem VSl.up {n m : Nat} {W : World} {s : Value} {vs : List V} (h : VSl n W s vs) (hm : n ≤ m) (hw : m ≤ W.heap.size) : VSl m W s vs := by
  obtain ⟨⟨g, c, rfl, hg, hc⟩, hl⟩ := h
  exact ⟨⟨g, c, rfl, by omega, hc⟩, hw⟩
/-- an argument ars a value -/
def ArV (a : Ar) (s : Value) : Value := .agg #[.int .i64 a.rows, .int .i64 a.cols, .bool a.area, s]
/-- a slice of arguments, below n -/
structure ASl (n : Nat) (W : World) (s : Value) (ars : List Ar) : Prop where
  is : ∃ g c, s = .slice (some ⟨g, 0, none⟩) ars.length c ∧ g < n ∧ ∀ j a, ars[j]? = some a → ∃ t, VSl n W t a.vs ∧ W.cell? ⟨g, j * 4, none⟩ = some (.int .i64 a.rows) ∧ W.cell? ⟨g, j * 4 + 1, none⟩ = some (.int .i64 a.cols) ∧ W.cell? ⟨g, j * 4 + 2, none⟩ = some (.bool a.area) ∧ W.cell? ⟨g, j * 4 + 3, none⟩ = some t
  le : n ≤ W.heap.size
theorem ASl.below {n : Nat} {W W' : World} {s : Value} {ars : List Ar} (h : ASl n W s ars) (hb : Below n W W') : ASl n W' s ars := by
  obtain ⟨⟨g, c, rfl, hg, hc⟩, hl⟩ := h
  refine ⟨⟨g, c, rfl, hg, fun j a hj => ?_⟩, Nat.le_trans hl hb.size⟩
  obtain ⟨t, h1, h2, h3, h4, h5⟩ := hc j a hj
  exact ⟨t, h1.below hb, (cell_below hb hg).trans h2, (cell_below hb hg).trans h3, (cell_below hb hg).trans h4, (cell_below hb hg).trans h5⟩
theorem ASl.up {n m : Nat} {W : World} {s : Value} {ars : List Ar} (h : ASl n W s ars) (hm : n ≤ m) (hw : m ≤ W.heap.size) : ASl m W s ars := by
  obtain ⟨⟨g, c, rfl, hg, hc⟩, hl⟩ := h
  refine ⟨⟨g, c, rfl, by omega, fun j a hj => ?_⟩, hw⟩
  obtain ⟨t, h1, h2⟩ := hc j a hj
  exact ⟨t, h1.up hm hw, h2⟩
/-- two blocks at most have turned, of those that there were -/
structure Two (B g : Nat) (w w' : World) : Prop where
  os : w'.os = w.os
  tape : w'.tape = w.tape
  output : w'.output = w.output
  size : w.heap.size ≤ w'.heap.size
  block : ∀ k, k < w.heap.size → k ≠ B → k ≠ g → w'.heap[k]? = w.heap[k]?
namespace Two
variable {B g : Nat} {a b c w : World}
theorem refl (B g : Nat) (w : World) : Two B g w w := ⟨rfl, rfl, rfl, Nat.le_refl _, fun _ _ _ _ => rfl⟩
theorem of_below (h : Below a.heap.size a w) : Two B g a w := ⟨h.os, h.tape, h.output, h.size, fun k hk _ _ => h.block k hk⟩
theorem of_only (h : Only B a w) : Two B g a w := ⟨h.os, h.tape, h.output, h.size, fun k hk h1 _ => h.block k hk h1⟩
/-- the second block is the same, or a new one -/
theorem trans {g2 : Nat} (h : Two B g a b) (k : Two B g2 b c) (hg : g2 = g ∨ a.heap.size ≤ g2) : Two B g a c :=
  ⟨k.os.trans h.os, k.tape.trans h.tape, k.output.trans h.output, Nat.le_trans h.size k.size, fun j hj h1 h2 => by
    refine (k.block j (Nat.lt_of_lt_of_le hj h.size) h1 ?_).trans (h.block j hj h1 h2)
    rcases hg with rfl | hg
    · exact h2
    · omega⟩
theorem below {n : Nat} (h : Two B g a w) (hn : n ≤ a.heap.size) (hB : n ≤ B) (hg : n ≤ g) : Below n a w := ⟨h.os, h.tape, h.output, h.size, fun k hk => h.block k (by omega) (by omega) (by omega)⟩
theorem only (h : Two B B a w) : Only B a w := ⟨h.os, h.tape, h.output, h.size, fun k hk h1 => h.block k hk h1 h1⟩
end Two
/-- the first failure -/
def firstF (F : V × Bool → Int) : List (V × Bool) → Int
  | [] => 0
  | x :: r => if F x = 0 then firstF F r else F x
theorem firstF_app (F : V × Bool → Int) (l m : List (V × Bool)) (h : firstF F l = 0) : firstF F (l ++ m) = firstF F m := by
  induction l with
  | nil => rfl
  | cons x r ih =>
    unfold firstF at h
    split at h
    · rename_i hx
      have e : firstF F (x :: (r ++ m)) = firstF F (r ++ m) := by simp [firstF, hx]
      exact e.trans (ih h)
    · rename_i hx
      exact absurd h hx
theorem firstF_hit (F : V × Bool → Int) (l : List (V × Bool)) (x : V × Bool) (m : List (V × Bool)) (h : firstF F l = 0) (hx : F x ≠ 0) : firstF F (l ++ x :: m) = F x := by
  rw [firstF_app F l _ h]
  unfold firstF
  rw [if_neg hx]
def flat1 (a : Ar) : List (V × Bool) := a.vs.map fun v => (v, a.area)
def flat (ars : List Ar) : List (V × Bool) := ars.flatMap flat1
theorem flat_take (ars : List Ar) (k : Nat) (a : Ar) (h : ars[k]? = some a) : flat (ars.take (k + 1)) = flat (ars.take k) ++ flat1 a := by
  rw [List.take_add_one, h]
  simp [flat]
theorem flat1_take (a : Ar) (k : Nat) (v : V) (h : a.vs[k]? = some v) : (flat1 a).take (k + 1) = (flat1 a).take k ++ [(v, a.area)] := by
  unfold flat1
  rw [List.take_add_one, List.getElem?_map, h]
  rfl
theorem flat_split (ars : List Ar) (k : Nat) (a : Ar) (h : ars[k]? = some a) (j : Nat) (v : V) (hv : a.vs[j]? = some v) : ∃ m, flat ars = flat (ars.take k) ++ (flat1 a).take j ++ (v, a.area) :: m := by
  have h1 : ars = ars.take k ++ a :: ars.drop (k + 1) := by
    have h0 := (List.take_append_drop k ars).symm
    obtain ⟨hk, he⟩ := List.getElem?_eq_some_iff.1 h
    rw [List.drop_eq_getElem_cons hk, he] at h0
    exact h0
  have h2 : flat1 a = (flat1 a).take j ++ (v, a.area) :: (flat1 a).drop (j + 1) := by
    have h0 := (List.take_append_drop j (flat1 a)).symm
    have hx : (flat1 a)[j]? = some (v, a.area) := by unfold flat1; rw [List.getElem?_map, hv]; rfl
    obtain ⟨hk, he⟩ := List.getElem?_eq_some_iff.1 hx
    rw [List.drop_eq_getElem_cons hk, he] at h0
    exact h0
  refine ⟨(flat1 a).drop (j + 1) ++ flat (ars.drop (k + 1)), ?_⟩
  have h3 : flat ars = flat (ars.take k) ++ (flat1 a ++ flat (ars.drop (k + 1))) := by
    conv => lhs; rw [h1]
    simp [flat]
  rw [h3]
  conv => lhs; rw [h2]
  simp only [List.append_assoc, List.cons_append]
theorem mem_flat (ars : List Ar) (k : Nat) (a : Ar) (h : ars[k]? = some a) (j : Nat) (v : V) (hv : a.vs[j]? = some v) : (v, a.area) ∈ flat ars := by
  obtain ⟨m, hm⟩ := flat_split ars k a h j v hv
  rw [hm]; simp
/-- a function's word at each value, ars areas.all hands them on -/
def StepAt (N : Nat) (caps : Array Value) (B : Nat) (F : V × Bool → Int) (I : Nat → List (V × Bool) → World → Prop) (l : List (V × Bool)) : Prop :=
  ∀ g pre x W1, (∃ m, l = pre ++ x :: m) → I g pre W1 → Calls Tryz.prog N (#[x.1.val, .bool x.2] ++ caps) W1 fun e W2 => e = .returned (.int .i64 (F x)) ∧ ∃ g', (g' = g ∨ W1.heap.size ≤ g') ∧ Two B g W1 W2 ∧ (F x = 0 → I g' (pre ++ [x]) W2) ∧ (F x ≠ 0 → I g' pre W2)
structure AllSt (n B g0 : Nat) (F : V × Bool → Int) (I : Nat → List (V × Bool) → World → Prop) (W : World) (pre : List (V × Bool)) (g : Nat) (wr : World) : Prop where
  two : Two B g0 W wr
  fit : firstF F pre = 0
  new : g = g0 ∨ W.heap.size ≤ g
  inv : I g pre wr
/-- the argument's own box -/
structure InBox (B g : Nat) (wr wr2 : World) (cs : Array Value) : Prop where
  box : Box wr2 wr.heap.size cs
  ne : wr.heap.size ≠ B
  off : wr.heap.size ≠ g
theorem lt_i64 {a b : Nat} (h : a < b) : decide ((a : Int) < (b : Int)) = true := by simp; exact h
set_option maxHeartbeats 2000000 in
set_option maxRecDepth 100000 in
theorem all_any {n B g0 N : Nat} {caps : Array Value} {W : World} {s : Value} {ars : List Ar} (F : V × Bool → Int) (I : Nat → List (V × Bool) → World → Prop)
    (eN : ∀ args w, (callFunc N args).run Tryz.prog w = .ok (.enter N args) w)
    (hs : ASl n W s ars) (hl : ars.length ≤ 1000000) (hvl : ∀ a ∈ ars, a.vs.length ≤ 1000000) (hB : n ≤ B) (hg0 : n ≤ g0)
    (hI : ∀ g pre W1 W2, I g pre W1 → Below W1.heap.size W1 W2 → I g pre W2) (hIl : ∀ g pre W1, I g pre W1 → g < W1.heap.size ∧ B < W1.heap.size ∧ n ≤ g)
    (step : StepAt N caps B F I (flat ars)) (h0 : I g0 [] W) :
    Calls Tryz.prog 48 #[s, .func (.func N) #[] caps] W fun e W' => e = .returned (.int .i64 (firstF F (flat ars))) ∧ Two B g0 W W' ∧ ∃ g pre, (g = g0 ∨ W.heap.size ≤ g) ∧ I g pre W' ∧ (firstF F (flat ars) = 0 → pre = flat ars) := by
  obtain ⟨⟨gb, c, rfl, hgb, hc⟩, hle⟩ := hs
  have HC := Lib.hid hc
  have H0 := Lib.hid h0
  have HS := Lib.hid step
  have HI := Lib.hid hI
  have HIl := Lib.hid hIl
  have HV := Lib.hid hvl
  have HE := Lib.hid eN
  clear hc h0 step hI hIl hvl eN
  go_enter Tryz.func48, Tryz.ntmps48
  go_wp2_with fail
  go_loopw [12] (fun iv wr => ∃ k : Nat, k ≤ ars.length ∧ iv = .int .i64 k ∧ ∃ g, AllSt n B g0 F I W (flat (ars.take k)) g wr) (fun iv _ => ars.length - (intOf iv).toNat)
  case atStart => exact ⟨0, Nat.zero_le _, rfl, g0, ⟨Two.refl _ _ _, rfl, .inl rfl, H0.out⟩⟩
  case round =>
    obtain ⟨k, hk, rfl, g, hst⟩ := hrel
    obtain ⟨wa, rfl⟩ : ∃ wa, wa = wr := ⟨_, rfl⟩
    have HST := Lib.hid hst
    clear hst
    by_cases hlt : k < ars.length
    · obtain ⟨a, ha⟩ : ∃ a, ars[k]? = some a := ⟨ars[k], List.getElem?_eq_getElem hlt⟩
      have hbel : Below n W wa := HST.out.two.below hle hB hg0
      obtain ⟨t, hv, c0, c1, c2, c3⟩ := HC.out k a ha
      have d0 := (cell_below (o := k * 4) hbel hgb).trans c0
      have d1 := (cell_below (o := k * 4 + 1) hbel hgb).trans c1
      have d2 := (cell_below (o := k * 4 + 2) hbel hgb).trans c2
      have d3 := (cell_below (o := k * 4 + 3) hbel hgb).trans c3
      clear c0 c1 c2 c3
      have hlti : (k : Int) < (ars.length : Int) := by omega
      have HB2 := Lib.hid hbel
      have HA := Lib.hid ha
      clear hbel ha
      obtain ⟨⟨vg, vc, rfl, hvg, hvc⟩, _⟩ := hv
      have HVC := Lib.hid hvc
      clear hvc
      have hal : a.vs.length ≤ 1000000 := HV.out a (List.mem_of_getElem? HA.out)
      go_wp2_with fail
      go_loopw [19] (fun iv wr2 => ∃ (j g2 : Nat), j ≤ a.vs.length ∧ iv = .int .i64 j ∧ AllSt n B g0 F I W (flat (ars.take k) ++ (flat1 a).take j) g2 wr2 ∧ InBox B g2 wa wr2 #[.int .i64 a.rows, .int .i64 a.cols, .bool a.area, .slice (some ⟨vg, 0, none⟩) a.vs.length vc]) (fun iv _ => a.vs.length - (intOf iv).toNat)
      case atStart =>
        have e0 : flat (ars.take k) ++ (flat1 a).take 0 = flat (ars.take k) := by simp
        have hb0 : Below wa.heap.size wa (wa.alloc (.cells #[.int .i64 a.rows, .int .i64 a.cols, .bool a.area, .slice (some ⟨vg, 0, none⟩) a.vs.length vc] 27)) := (Below.refl _ _).alloc (Nat.le_refl _) _
        have hi := HIl.out _ _ _ HST.out.inv
        refine ⟨0, g, Nat.zero_le _, rfl, ?_, Box.new _ _ _, by omega, by omega⟩
        rw [e0]
        exact ⟨HST.out.two.trans (Two.of_below hb0) (.inl rfl), HST.out.fit, HST.out.new, HI.out _ _ _ _ HST.out.inv hb0⟩
      case round =>
        obtain ⟨j, g2, hj, rfl, hst, hbx⟩ := hrel
        have HST2 := Lib.hid hst
        have HBX := Lib.hid hbx
        clear hst hbx
        by_cases hlj : j < a.vs.length
        · obtain ⟨v, hv⟩ : ∃ v, a.vs[j]? = some v := ⟨a.vs[j], List.getElem?_eq_getElem hlj⟩
          have hbel : Below n W wr := HST2.out.two.below hle hB hg0
          have hcv := (cell_below (o := j) hbel hvg).trans (HVC.out j v hv)
          have hb2 : wr.cell? ⟨wa.heap.size, 2, none⟩ = some (.bool a.area) := HBX.out.box.cell 2 _ rfl
          have hlji : (j : Int) < (a.vs.length : Int) := by omega
          have HSTEP := Lib.hid (HS.out g2 _ (v, a.area) wr (flat_split ars k a HA.out j v hv) HST2.out.inv)
          have hee := HE.out
          have HVJ := Lib.hid hv
          clear hv hbel
          by_cases hF : F (v, a.area) = 0
          · rw [hF] at HSTEP
            have HF := Lib.hid hF
            clear hF
            go_wp2_with fail
            refine HSTEP.out.mono ?_
            rintro e wn ⟨rfl, g3, hg3, htwo, hcont, _⟩
            have HN := Lib.hid (And.intro hg3 (And.intro htwo (hcont trivial)))
            clear hg3 htwo hcont
            go_wp2_with fail
            go_roundw
            case rel =>
              obtain ⟨hg3, htwo, hi⟩ := HN.out
              have hlw := HST2.out.two.size
              have hlb := HBX.out.box.lt
              have hgn : g3 = g0 ∨ W.heap.size ≤ g3 := by
                rcases hg3 with rfl | hg3
                · exact HST2.out.new
                · exact .inr (by omega)
              refine ⟨j + 1, g3, by omega, by go_num, ⟨HST2.out.two.trans htwo HST2.out.new, ?_, hgn, ?_⟩, HBX.out.box.of_block (htwo.block _ hlb HBX.out.ne HBX.out.off), HBX.out.ne, ?_⟩
              · rw [flat1_take a j v HVJ.out, ← List.append_assoc, firstF_app F _ _ HST2.out.fit]
                simp [firstF, HF.out]
              · rw [flat1_take a j v HVJ.out, ← List.append_assoc]
                exact hi
              · rcases hg3 with rfl | hg3
                · exact HBX.out.off
                · omega
            case measure => simp [intOf]; omega
          · obtain ⟨q, hq⟩ : ∃ q, F (v, a.area) = q := ⟨_, rfl⟩
            obtain ⟨m, hm⟩ := flat_split ars k a HA.out j v HVJ.out
            have hh := firstF_hit F (flat (ars.take k) ++ (flat1 a).take j) (v, a.area) m HST2.out.fit hF
            rw [← hm, hq] at hh
            rw [hq] at HSTEP hF
            have HQ := Lib.hid hh
            clear hq hh hm
            have hF2 : (q != 0) = true := by simpa using hF
            have hF3 : (q == 0) = false := by simpa using hF
            go_wp2_with fail
            refine HSTEP.out.mono ?_
            rintro e wn ⟨rfl, g3, hg3, htwo, _, hcont⟩
            have HN := Lib.hid (And.intro hg3 (And.intro htwo hcont))
            clear hg3 htwo hcont
            go_wp2_with fail
            go_ret
            obtain ⟨hg3, htwo, hcont⟩ := HN.out
            have hlw := HST2.out.two.size
            refine ⟨by rw [HQ.out]; rfl, HST2.out.two.trans htwo HST2.out.new, g3, _, ?_, hcont hF, ?_⟩
            · rcases hg3 with rfl | hg3
              · exact HST2.out.new
              · exact .inr (by omega)
            · rw [HQ.out]
              intro h
              exact absurd h hF
        · have hje : j = a.vs.length := by omega
          have hji : (a.vs.length : Int) ≤ (j : Int) := by omega
          have HJE := Lib.hid hje
          clear hje
          go_wp2_with fail
          go_roundw
          case rel =>
            have e1 : (flat1 a).take j = flat1 a := by
              rw [HJE.out]
              apply List.take_of_length_le
              simp [flat1]
            have hst := HST2.out
            rw [e1, ← flat_take ars k a HA.out] at hst
            exact ⟨k + 1, by omega, by go_num, g2, hst⟩
          case measure => simp [intOf]; omega
    · have hge : (ars.length : Int) ≤ (k : Int) := by omega
      have hke : k = ars.length := by omega
      have HKE := Lib.hid hke
      clear hke
      go_wp2
      go_ret
      rw [HKE.out, List.take_length] at HST
      exact ⟨by rw [HST.out.fit]; rfl, HST.out.two, g, _, HST.out.new, HST.out.inv, fun _ => rfl⟩
end Go.Proofs.YteelmbpmmobpjaaGreatDoor
