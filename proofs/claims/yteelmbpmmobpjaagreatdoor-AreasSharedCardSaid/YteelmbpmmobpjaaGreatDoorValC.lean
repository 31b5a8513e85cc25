/-
  areas.numbers: the numbers of arguments.
-/
import Derived.Test.YteelmbpmmobpjaaGreatDoorValB
namespace Go.Proofs.YteelmbpmmobpjaaGreatDoor
open Go.RowKit
open UK (str BytesAt nth Only Row Box)
def decs (l : List Int) : List Value := l.map fun x => Value.int .i64 x
theorem decs_length (l : List Int) : (decs l).length = l.length := by simp [decs]
/-- a variable in block B that holds a slice of numbers, whose block is g (B: there is none yet) -/
structure NumsAt (n B g : Nat) (W : World) (ds : List Int) : Prop where
  le : n ≤ B
  leg : n ≤ g
  lt : B < W.heap.size
  is : (ds = [] ∧ Box W B #[.slice none 0 0] ∧ g = B) ∨ ∃ c, Box W B #[.slice (some ⟨g, 0, none⟩) ds.length c] ∧ Row W g c (decs ds) ∧ g ≠ B
  len : ds.length ≤ 100000000
theorem NumsAt.glt {n B g : Nat} {W : World} {ds : List Int} (h : NumsAt n B g W ds) : g < W.heap.size := by
  rcases h.is with ⟨_, _, rfl⟩ | ⟨c, _, r, _⟩
  · exact h.lt
  · exact r.lt
theorem NumsAt.next {n B g : Nat} {W W' : World} {ds : List Int} (h : NumsAt n B g W ds) (hb : Below W.heap.size W W') : NumsAt n B g W' ds := by
  refine ⟨h.le, h.leg, Nat.lt_of_lt_of_le h.lt hb.size, ?_, h.len⟩
  rcases h.is with ⟨h1, h2, h3⟩ | ⟨c, h1, h2, h3⟩
  · exact .inl ⟨h1, h2.next hb, h3⟩
  · exact .inr ⟨c, h1.next hb, h2.below hb h2.lt, h3⟩
set_option maxRecDepth 100000 in
/-- a number more -/
theorem NumsAt.push {n B g : Nat} {W : World} {ds : List Int} (h : NumsAt n B g W ds) (hl : ds.length + 1 ≤ 100000000) (x : Int) :
    ∃ (ao : Option Addr) (c : Nat), W.cell? ⟨B, 0, none⟩ = some (.slice ao ds.length c) ∧ W.frozen? ⟨B, 0, none⟩ = false ∧ ∃ g' c' W', (Builtin.append_ #[69, 69] 69 #[.slice ao ds.length c, .slice (some ⟨W.heap.size, 0, none⟩) 1 1]).run Tryz.prog (W.alloc (.cells #[.int .i64 x] 39)) = .ok (.slice (some ⟨g', 0, none⟩) (ds.length + 1) c') W' ∧
      W'.cell? ⟨B, 0, none⟩ = some (.slice ao ds.length c) ∧ W'.frozen? ⟨B, 0, none⟩ = false ∧
      NumsAt n B g' (W'.setCell ⟨B, 0, none⟩ (.slice (some ⟨g', 0, none⟩) (ds.length + 1) c')) (ds ++ [x]) ∧ (g' = g ∨ W.heap.size ≤ g') ∧ Two B g W (W'.setCell ⟨B, 0, none⟩ (.slice (some ⟨g', 0, none⟩) (ds.length + 1) c')) := by
  have hx : ∃ (ao : Option Addr) (c : Nat), Box W B #[.slice ao ds.length c] ∧ ((ao = none ∧ decs ds = [] ∧ c = 0 ∧ g = B) ∨ ∃ gg, ao = some ⟨gg, 0, none⟩ ∧ Row W gg c (decs ds) ∧ gg = g ∧ g ≠ B) := by
    rcases h.is with ⟨h1, h2, h3⟩ | ⟨c, h1, h2, h3⟩
    · subst h1
      exact ⟨none, 0, h2, .inl ⟨rfl, rfl, rfl, h3⟩⟩
    · exact ⟨_, c, h1, .inr ⟨g, rfl, h2, rfl, h3⟩⟩
  obtain ⟨ao, c, hb, hc⟩ := hx
  have ha : (ao = none ∧ decs ds = [] ∧ c = 0) ∨ ∃ gg, ao = some ⟨gg, 0, none⟩ ∧ Row W gg c (decs ds) := by
    rcases hc with ⟨a1, a2, a3, _⟩ | ⟨gg, a1, a2, _⟩
    · exact .inl ⟨a1, a2, a3⟩
    · exact .inr ⟨gg, a1, a2⟩
  obtain ⟨g', c', W', e, r, o, hg⟩ := UK.push_one (P := Tryz.prog) (t := 69) (ty := 69) Tryz.underlying69 (i := Tryz.t39) rfl rfl rfl (show (8 : Nat) ≤ 16 by omega) rfl ha (.int .i64 x) rfl (by have := decs_length ds; omega)
  rw [decs_length] at e
  have hgB : g' ≠ B ∧ (g' = g ∨ W.heap.size ≤ g') := by
    rcases hg with hg | hg
    · rcases hc with ⟨a1, _⟩ | ⟨gg, a1, a2, a3, a4⟩
      · rw [a1] at hg; cases hg
      · rw [a1] at hg
        obtain rfl : gg = g' := congrArg Addr.block (Option.some.inj hg)
        exact ⟨by rw [a3]; exact a4, .inl a3⟩
    · have := h.lt
      exact ⟨by omega, .inr hg⟩
  have hb' : Box W' B #[.slice ao ds.length c] := hb.only o hgB.1.symm
  refine ⟨ao, c, hb.cell 0 _ rfl, hb.free 0, g', c', W', e, hb'.cell 0 _ rfl, hb'.free 0, ⟨h.le, ?_, ?_, .inr ⟨c', ?_, ?_, hgB.1⟩, ?_⟩, hgB.2, ?_⟩
  · have := h.leg; have := h.le; have := h.lt
    rcases hgB.2 with h1 | h1 <;> omega
  · have := o.size; have := h.lt; simp; omega
  · have := hb'.set 0 (.slice (some ⟨g', 0, none⟩) (ds.length + 1) c')
    rw [List.length_append]
    exact this
  · have : decs (ds ++ [x]) = decs ds ++ [.int .i64 x] := by simp [decs]
    rw [this]
    exact r.of_block (by simp) (Below.heap_setCell W' _ _ _ hgB.1)
  · rw [List.length_append]; exact hl
  · refine ⟨o.os, o.tape, o.output, by simpa using o.size, fun k hk h1 h2 => ?_⟩
    have e1 : (W'.setCell ⟨B, 0, none⟩ (.slice (some ⟨g', 0, none⟩) (ds.length + 1) c')).heap[k]? = W'.heap[k]? := Below.heap_setCell W' _ _ _ h1
    refine e1.trans (o.block k hk ?_)
    rcases hgB.2 with h3 | h3
    · rw [h3]; exact h2
    · omega
def numOf : V × Bool → Option Int
  | (.num n, _) => some n
  | (v, area) => if area then none else some (numN v)
def numFail : V × Bool → Int
  | (.num _, _) => 0
  | (v, area) => if area then failN v else numF v
def numsOf (l : List (V × Bool)) : List Int := l.filterMap numOf
theorem numsOf_snoc (l : List (V × Bool)) (x : V × Bool) : numsOf (l ++ [x]) = numsOf l ++ (match numOf x with | some n => [n] | none => []) := by
  unfold numsOf
  rw [List.filterMap_append]
  cases h : numOf x <;> simp [h]
theorem numsOf_le (l : List (V × Bool)) : (numsOf l).length ≤ l.length := List.length_filterMap_le _ _
structure NumsI (n B : Nat) (g : Nat) (pre : List (V × Bool)) (W : World) : Prop where
  at_ : NumsAt n B g W (numsOf pre)
set_option maxHeartbeats 2000000 in
set_option maxRecDepth 100000 in
theorem nums1_num {n B g : Nat} {W : World} {ds : List Int} (h : NumsAt n B g W ds) (hl : ds.length + 1 ≤ 100000000) (x : Int) (area : Bool) :
    Calls Tryz.prog 57 #[V.val (.num x), .bool area, .pointer (some ⟨B, 0, none⟩)] W fun e W2 => e = .returned (.int .i64 0) ∧ ∃ g', (g' = g ∨ W.heap.size ≤ g') ∧ Two B g W W2 ∧ NumsAt n B g' W2 (ds ++ [x]) := by
  obtain ⟨ao, c, hc0, hf0, g', c', W', hrun, hc1, hf1, hn, hg, ht⟩ := h.push hl x
  have HG := Lib.hid (given_any (w := W) (.num x))
  have HN := Lib.hid (And.intro hn (And.intro hg ht))
  have hlt := h.lt
  clear hn hg ht h
  unfold V.val at *
  go_enter Tryz.func57, Tryz.ntmps57
  go_wp2_with fail
  refine HG.out.mono ?_
  rintro e w1 ⟨rfl, rfl⟩
  go_wp2_with (at_builtin; refine UK.wpList_append_run hrun rfl rfl rfl rfl rfl ?_)
  go_ret
  exact ⟨rfl, g', HN.out.2.1, HN.out.2.2, HN.out.1⟩
theorem given_no {w : World} {v : V} (h : isNum v = false) : Calls Tryz.prog 40 #[v.val] w fun e w' => e = .returned (.tuple #[.int .i64 0, .bool false]) ∧ w = w' := by
  have := given_any (w := w) v
  rw [h] at this
  have e : GivenN v = 0 := by cases v <;> first | rfl | cases h
  rwa [e] at this
set_option maxHeartbeats 2000000 in
set_option maxRecDepth 100000 in
theorem nums1_area {n B g : Nat} {W : World} {ds : List Int} (h : NumsAt n B g W ds) {v : V} (hv : v.Ok) (hn : isNum v = false) :
    Calls Tryz.prog 57 #[v.val, .bool true, .pointer (some ⟨B, 0, none⟩)] W fun e W2 => e = .returned (.int .i64 (failN v)) ∧ ∃ g', (g' = g ∨ W.heap.size ≤ g') ∧ Two B g W W2 ∧ NumsAt n B g' W2 ds := by
  have HG := Lib.hid (given_no (w := W) hn)
  have HA := Lib.hid (asnum_any (w := W) v hv)
  have HF := Lib.hid (fun w => failed_any (w := w) v)
  have HH := Lib.hid h
  clear h hn hv
  generalize failN v = fv at *
  generalize numN v = nv at *
  generalize numF v = nf at *
  generalize isFail v = bf at *
  generalize v.val = vv at *
  go_enter Tryz.func57, Tryz.ntmps57
  go_wp2_with fail
  refine HG.out.mono ?_
  rintro e w1 ⟨rfl, rfl⟩
  go_wp2_with fail
  refine HA.out.mono ?_
  rintro e w1 ⟨rfl, b1⟩
  go_wp2_with fail
  refine (HF.out _).mono ?_
  rintro e w2 ⟨rfl, rfl⟩
  go_wp2
  go_ret
  exact ⟨rfl, g, .inl rfl, Two.of_below b1, HH.out.next b1⟩
set_option maxHeartbeats 2000000 in
set_option maxRecDepth 100000 in
theorem nums1_bad {n B g : Nat} {W : World} {ds : List Int} (h : NumsAt n B g W ds) {v : V} (hv : v.Ok) (hn : isNum v = false) (hf : numF v ≠ 0) :
    Calls Tryz.prog 57 #[v.val, .bool false, .pointer (some ⟨B, 0, none⟩)] W fun e W2 => e = .returned (.int .i64 (numF v)) ∧ ∃ g', (g' = g ∨ W.heap.size ≤ g') ∧ Two B g W W2 ∧ NumsAt n B g' W2 ds := by
  have HG := Lib.hid (given_no (w := W) hn)
  have HA := Lib.hid (asnum_any (w := W) v hv)
  have HH := Lib.hid h
  clear h hn hv
  generalize numN v = nv at *
  generalize numF v = nf at *
  generalize v.val = vv at *
  have hf2 : (nf == 0) = false := by simpa using hf
  go_enter Tryz.func57, Tryz.ntmps57
  go_wp2_with fail
  refine HG.out.mono ?_
  rintro e w1 ⟨rfl, rfl⟩
  go_wp2_with fail
  refine HA.out.mono ?_
  rintro e w1 ⟨rfl, b1⟩
  go_wp2
  go_ret
  exact ⟨rfl, g, .inl rfl, Two.of_below b1, HH.out.next b1⟩
set_option maxHeartbeats 2000000 in
set_option maxRecDepth 100000 in
theorem nums1_good {n B g : Nat} {W : World} {ds : List Int} (h : NumsAt n B g W ds) (hl : ds.length + 1 ≤ 100000000) {v : V} (hv : v.Ok) (hn : isNum v = false) (hf : numF v = 0) :
    Calls Tryz.prog 57 #[v.val, .bool false, .pointer (some ⟨B, 0, none⟩)] W fun e W2 => e = .returned (.int .i64 0) ∧ ∃ g', (g' = g ∨ W.heap.size ≤ g') ∧ Two B g W W2 ∧ NumsAt n B g' W2 (ds ++ [numN v]) := by
  have HG := Lib.hid (given_no (w := W) hn)
  have ha := asnum_any (w := W) v hv
  rw [hf] at ha
  have HA := Lib.hid ha
  have HH := Lib.hid h
  clear h hn hv ha hf
  generalize numN v = nv at *
  generalize v.val = vv at *
  go_enter Tryz.func57, Tryz.ntmps57
  go_wp2_with fail
  refine HG.out.mono ?_
  rintro e w1 ⟨rfl, rfl⟩
  go_wp2_with fail
  refine HA.out.mono ?_
  rintro e w1 ⟨rfl, b1⟩
  have h1 := HH.out.next b1
  obtain ⟨ao, c, hc0, hf0, g', c', W', hrun, hc1, hf1, hnn, hg, ht⟩ := h1.push hl nv
  have HN := Lib.hid (And.intro hnn (And.intro hg (And.intro ht (And.intro b1 HH.out.glt))))
  have hlt := h1.lt
  clear hnn hg ht h1 HG HA b1
  go_wp2_with (at_builtin; refine UK.wpList_append_run hrun rfl rfl rfl rfl rfl ?_)
  go_ret
  obtain ⟨h1, h2, h3, b1, hgl⟩ := HN.out
  have := b1.size
  refine ⟨rfl, g', ?_, (Two.of_below b1).trans h3 (.inl rfl), h1⟩
  rcases h2 with h2 | h2
  · exact .inl h2
  · exact .inr (by omega)
theorem nums_step (n B : Nat) (l : List (V × Bool)) (hl : l.length ≤ 100000000) (hok : ∀ x ∈ l, x.1.Ok) :
    StepAt 57 #[.pointer (some ⟨B, 0, none⟩)] B numFail (fun g pre W => NumsAt n B g W (numsOf pre)) l := by
  rintro g pre ⟨v, area⟩ W1 ⟨m, hm⟩ hi
  have hv : v.Ok := hok (v, area) (by rw [hm]; simp)
  have hp : (numsOf pre).length + 1 ≤ 100000000 := by
    have h1 := numsOf_le pre
    have h2 : l.length = pre.length + (m.length + 1) := by rw [hm]; simp
    omega
  show Calls _ _ #[v.val, .bool area, .pointer (some ⟨B, 0, none⟩)] _ _
  cases hn : isNum v with
  | true =>
    obtain ⟨x, rfl⟩ : ∃ x, v = .num x := by cases v <;> first | exact ⟨_, rfl⟩ | cases hn
    refine (nums1_num hi hp x area).mono ?_
    rintro e w' ⟨rfl, g', h1, h2, h3⟩
    refine ⟨rfl, g', h1, h2, fun _ => ?_, fun h => absurd rfl h⟩
    show NumsAt n B g' w' (numsOf (pre ++ [_]))
    rw [numsOf_snoc]
    exact h3
  | false =>
    have hnf : ∀ a, numFail (v, a) = if a then failN v else numF v := fun a => by cases v <;> first | rfl | cases hn
    have hno : ∀ a, numOf (v, a) = if a then none else some (numN v) := fun a => by cases v <;> first | rfl | cases hn
    cases area with
    | true =>
      refine (nums1_area hi hv hn).mono ?_
      rintro e w' ⟨rfl, g', h1, h2, h3⟩
      refine ⟨by rw [hnf]; rfl, g', h1, h2, fun _ => ?_, fun _ => h3⟩
      show NumsAt n B g' w' (numsOf (pre ++ [_]))
      rw [numsOf_snoc, hno]
      simpa using h3
    | false =>
      by_cases hf : numF v = 0
      · refine (nums1_good hi hp hv hn hf).mono ?_
        rintro e w' ⟨rfl, g', h1, h2, h3⟩
        refine ⟨by rw [hnf]; simp [hf], g', h1, h2, fun _ => ?_, fun h => absurd (by rw [hnf]; simpa using hf) h⟩
        show NumsAt n B g' w' (numsOf (pre ++ [_]))
        rw [numsOf_snoc, hno]
        exact h3
      · refine (nums1_bad hi hv hn hf).mono ?_
        rintro e w' ⟨rfl, g', h1, h2, h3⟩
        refine ⟨by rw [hnf]; rfl, g', h1, h2, fun h => absurd (by rw [hnf] at h; simpa using h) hf, fun _ => h3⟩
/-- a slice of numbers -/
def DSl (W : World) (s : Value) (ds : List Int) : Prop := ∃ ao c, s = .slice ao ds.length c ∧ ∀ (j : Nat) d, ds[j]? = some d → ∃ g o, ao = some ⟨g, o, none⟩ ∧ g < W.heap.size ∧ W.cell? ⟨g, o + j, none⟩ = some (.int .i64 d)
theorem DSl.next {W W' : World} {s : Value} {ds : List Int} (h : DSl W s ds) (hb : Below W.heap.size W W') : DSl W' s ds := by
  obtain ⟨ao, c, h1, h2⟩ := h
  refine ⟨ao, c, h1, fun j d hj => ?_⟩
  obtain ⟨g, o, h3, h4, h5⟩ := h2 j d hj
  exact ⟨g, o, h3, Nat.lt_of_lt_of_le h4 hb.size, (cell_below hb h4).trans h5⟩
theorem NumsAt.dsl {n B g : Nat} {W : World} {ds : List Int} (h : NumsAt n B g W ds) : ∃ s, W.cell? ⟨B, 0, none⟩ = some s ∧ DSl W s ds := by
  rcases h.is with ⟨h1, h2, _⟩ | ⟨c, h1, h2, _⟩
  · subst h1
    exact ⟨_, h2.cell 0 _ rfl, none, 0, rfl, fun j d hj => by simp at hj⟩
  · refine ⟨_, h1.cell 0 _ rfl, _, c, rfl, fun j d hj => ⟨g, 0, rfl, h2.lt, ?_⟩⟩
    rw [Nat.zero_add]
    exact h2.at' j _ (by unfold decs; rw [List.getElem?_map, hj]; rfl)
set_option maxHeartbeats 2000000 in
set_option maxRecDepth 100000 in
theorem numbers_any {n : Nat} {W : World} {s : Value} {ars : List Ar} (hs : ASl n W s ars) (hl : ars.length ≤ 1000) (hvl : ∀ a ∈ ars, a.vs.length ≤ 1000 ∧ ∀ v ∈ a.vs, v.Ok) (hn : n ≤ W.heap.size) :
    Calls Tryz.prog 29 #[s] W fun e W' => (∃ t ds, e = .returned (.tuple #[t, .int .i64 (firstF numFail (flat ars))]) ∧ DSl W' t ds ∧ (firstF numFail (flat ars) = 0 → ds = numsOf (flat ars))) ∧ Below W.heap.size W W' := by
  have hfl : (flat ars).length ≤ 100000000 := by
    have : ∀ l : List Ar, (∀ a ∈ l, a.vs.length ≤ 1000) → (flat l).length ≤ 1000 * l.length := by
      intro l
      induction l with
      | nil => intro _; simp [flat]
      | cons a l ih =>
        intro h
        have h1 := ih (fun b hb => h b (by simp [hb]))
        have h2 := h a (by simp)
        have e : flat (a :: l) = flat1 a ++ flat l := by simp [flat]
        rw [e, List.length_append]
        have e2 : (flat1 a).length = a.vs.length := by simp [flat1]
        simp only [List.length_cons]
        omega
    have := this ars (fun a ha => (hvl a ha).1)
    omega
  have hok : ∀ x ∈ flat ars, x.1.Ok := by
    intro x hx
    simp only [flat, flat1, List.mem_flatMap, List.mem_map] at hx
    obtain ⟨a, ha, v, hv, rfl⟩ := hx
    exact (hvl a ha).2 v hv
  have hb0 : Below W.heap.size W (W.alloc (.cells #[.slice none 0 0] 69)) := (Below.refl _ _).alloc (Nat.le_refl _) _
  have hA := all_any (n := n) (B := W.heap.size) (g0 := W.heap.size) (N := 57) (caps := #[.pointer (some ⟨W.heap.size, 0, none⟩)]) (W := W.alloc (.cells #[.slice none 0 0] 69)) numFail (fun g pre W1 => NumsAt n W.heap.size g W1 (numsOf pre))
    (enters_of Tryz.func57 (by kernel_rfl) rfl) (hs.below (hb0.mono hn)) (by omega) (fun a ha => by have := (hvl a ha).1; omega) hn hn
    (fun g pre W1 W2 h hb => h.next hb) (fun g pre W1 h => ⟨h.glt, h.lt, h.leg⟩) (nums_step n W.heap.size (flat ars) hfl hok)
    ⟨hn, hn, by simp, .inl ⟨rfl, Box.new _ _ _, rfl⟩, by simp [numsOf]⟩
  have HA := Lib.hid hA
  have HB := Lib.hid hb0
  clear hA hb0 hs hvl hok hfl hl
  go_enter Tryz.func29, Tryz.ntmps29
  go_wp2_with fail
  refine HA.out.mono ?_
  rintro e w1 ⟨rfl, ht, g, pre, hg, hi, hp⟩
  obtain ⟨sv, hc, hd⟩ := hi.dsl
  have HR := Lib.hid (And.intro ht (And.intro hd hp))
  clear ht hd hp hi hg HA
  go_wp2
  go_ret2
  obtain ⟨ht, hd, hp⟩ := HR.out
  have hbl : Below W.heap.size (W.alloc (.cells #[.slice none 0 0] 69)) w1 := ht.below (by simp) (Nat.le_refl _) (Nat.le_refl _)
  exact ⟨⟨sv, numsOf pre, rfl, hd, fun h => by rw [hp h]⟩, HB.out.trans hbl⟩
end Go.Proofs.YteelmbpmmobpjaaGreatDoor
