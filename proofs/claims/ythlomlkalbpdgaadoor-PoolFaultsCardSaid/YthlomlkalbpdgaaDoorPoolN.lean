/-
  The law's one: a call on a pool, behind which no page is used.
-/
import Derived.Test.YthlomlkalbpdgaaDoorPoolZ
import Derived.Test.YthlomlkalbpdgaaDoorActs5
namespace Go.Proofs.YthlomlkalbpdgaaDoor
open Go.RowKit
open UK (str BytesAt nth Only Row Box IntMap)
open Go.BigFrame
section
variable {E : Nat → Prop} {W W' : World} {P D FB M cnt k n : Nat} {kp : Int} {q : Pl} {d d' : Dk}
theorem pins_nil : ∀ (l : List (Option Fr)), (∀ (i : Nat) (f : Fr), l[i]? = some (some f) → 0 ≤ f.pins) → 0 ≤ pinsF l ∧ (pinsF l = 0 → ∀ (i : Nat) (f : Fr), l[i]? = some (some f) → f.pins = 0)
  | [], _ => ⟨Int.le_refl _, fun _ i f h => by cases h⟩
  | o :: l, h => by
    obtain ⟨h1, h2⟩ := pins_nil l (fun i f hi => h (i + 1) f hi)
    have ho : 0 ≤ pinO o := by
      cases o with
      | none => exact Int.le_refl _
      | some f => exact h 0 f rfl
    rw [pinsF_cons]
    refine ⟨by omega, fun hz i f hi => ?_⟩
    cases i with
    | zero =>
      have e : o = some f := Option.some.inj hi
      subst e
      have : pinO (some f) = f.pins := rfl
      omega
    | succ j => exact h2 (by omega) j f hi
theorem PS.rest (h : PS E W P D FB M n 0 q d cnt k) {i : Nat} {f : Fr} (hi : q.frames[i]? = some (some f)) : f.pins = 0 :=
  (pins_nil q.frames (fun i f hi => (h.ok.pos i f hi).1)).2 (by rw [← h.ok.pins]; exact h.pins) i f hi
theorem pin_any (h : PS E W P D FB M n 0 q d cnt k) (hk : k + 2 < 1000) (page : Int) (hpg : (Lit.int .i64 page).wf = true) :
    Calls Tryd.prog 27 #[.pointer (some ⟨P, 0, none⟩), .int .i64 page] W fun e w' => Pinned E W w' P D FB M n 0 (k + 2) e := by
  cases hh : hasD d cnt page
  · exact pin_no h page hh
  · by_cases hx : ∃ (i : Nat) (f : Fr), q.frames[i]? = some (some f) ∧ f.page = page
    · obtain ⟨i, f, hi, hf⟩ := hx
      exact pin_there h ⟨by omega, by omega⟩ page hpg hh hi hf (by rw [h.rest hi]; omega)
    · exact pin_comes h hk ⟨by omega, by omega⟩ page hpg hh (fun i f hi hf => hx ⟨i, f, hi, hf⟩)
/-- an act, as it is handed over -/
abbrev actV (a : Act1) : Value := .agg #[.int .i64 a.kd, .int .i64 a.pp, .int .i64 a.nn, .int .u8 (a.by_.toNat : Int)]
/-- behind one -/
def OneR (E : Nat → Prop) (W w' : World) (P D FB M n k : Nat) (e : Ending) : Prop := e = .returned (.tuple #[]) ∧ ∃ (q' : Pl) (d' : Dk) (cnt' : Nat), PS E w' P D FB M n 0 q' d' cnt' k ∧ Kept E W w'
/-- the act's copy is laid -/
theorem actB (W : World) (o : Obj) : Below W.heap.size W (W.alloc o) := (Below.refl _ _).alloc (Nat.le_refl _) _
theorem one_flush (h : PS E W P D FB M n 0 q d cnt k) (hk : k + n + 4 < 1000) (a : Act1) (ha : a.kd = 9) :
    Calls Tryd.prog 11 #[.pointer (some ⟨P, 0, none⟩), actV a] W fun e w' => OneR E W w' P D FB M n (k + n + 4) e := by
  obtain ⟨kd, pp, nn, by_⟩ := a
  obtain rfl : kd = 9 := ha
  have HF := fun w (hw : Below W.heap.size W w) => Lib.hid (pflush_any (h.next hw) (by omega))
  have HB := fun w (hw : Below W.heap.size W w) => Lib.hid (h.keptB hw)
  clear h
  go_enter Tryd.func11, Tryd.ntmps11
  go_wp2_with fail
  refine (HF _ (actB W _)).out.mono ?_
  rintro e w2 ⟨e0, q', d', rfl, _, p2, k2⟩
  have HS := Lib.hid (p2.up (show k + n + 1 ≤ k + n + 4 by omega))
  have HK := Lib.hid ((HB _ (actB W _)).out.trans k2)
  clear HF HB p2 k2
  go_wp2
  go_end0
  exact ⟨rfl, _, _, _, HS.out, HK.out⟩
theorem one_hand (h : PS E W P D FB M n 0 q d cnt k) (a : Act1) (ha : a.kd = 10) :
    Calls Tryd.prog 11 #[.pointer (some ⟨P, 0, none⟩), actV a] W fun e w' => OneR E W w' P D FB M n (k + n + 4) e := by
  obtain ⟨kd, pp, nn, by_⟩ := a
  obtain rfl : kd = 10 := ha
  have HF := fun w (hw : Below W.heap.size W w) => Lib.hid (hand_any (h.pd.next hw) h.ok nn)
  have HB := fun w (hw : Below W.heap.size W w) => Lib.hid (h.keptB hw)
  have HH := Lib.hid h
  clear h
  go_enter Tryd.func11, Tryd.ntmps11
  go_wp2_with fail
  refine (HF _ (actB W _)).out.mono ?_
  rintro e w2 ⟨rfl, p2, k2⟩
  have HS := Lib.hid (show PS E w2 P D FB M n 0 { q with hand := handN nn q.frames.length } d cnt (k + n + 4) from PS.up ⟨p2, ⟨HH.out.ok.pins, HH.out.ok.pos, (handN_is nn q.frames.length (by have := HH.out.ok.hand; omega)).2.1, HH.out.ok.few⟩, HH.out.dok, HH.out.held, HH.out.pins, HH.out.len⟩ (by omega))
  have HK := Lib.hid ((HB _ (actB W _)).out.trans k2)
  clear HF HB HH p2 k2
  go_wp2
  go_end0
  exact ⟨rfl, _, _, _, HS.out, HK.out⟩
theorem one_give (h : PS E W P D FB M n 0 q d cnt k) (hk : k + n + 4 < 1000) (a : Act1) (hpw : (Lit.int .i64 a.pp).wf = true) (ha : a.kd = 5) :
    Calls Tryd.prog 11 #[.pointer (some ⟨P, 0, none⟩), actV a] W fun e w' => OneR E W w' P D FB M n (k + n + 4) e := by
  obtain ⟨kd, pp, nn, by_⟩ := a
  obtain rfl : kd = 5 := ha
  have HF := fun w (hw : Below W.heap.size W w) => Lib.hid (pgive_any (h.next hw).more.more (by omega) (fun i f hi => Int.le_of_eq (h.rest hi)) pp hpw)
  have HB := fun w (hw : Below W.heap.size W w) => Lib.hid (h.keptB hw)
  clear h
  go_enter Tryd.func11, Tryd.ntmps11
  go_wp2_with fail
  refine (HF _ (actB W _)).out.mono ?_
  rintro e w2 ⟨e0, q', d', cnt', rfl, p2, k2⟩
  have HS := Lib.hid (p2.up (show k + 1 + 1 + 2 ≤ k + n + 4 by omega))
  have HK := Lib.hid ((HB _ (actB W _)).out.trans k2)
  clear HF HB p2 k2
  go_wp2
  go_end0
  exact ⟨rfl, _, _, _, HS.out, HK.out⟩
set_option maxRecDepth 100000 in
theorem one_take (h : PS E W P D FB M n 0 q d cnt k) (hk : k + n + 4 < 1000) (a : Act1) (ha : a.kd = 4) :
    Calls Tryd.prog 11 #[.pointer (some ⟨P, 0, none⟩), actV a] W fun e w' => OneR E W w' P D FB M n (k + n + 4) e := by
  obtain ⟨kd, pp, nn, by_⟩ := a
  obtain rfl : kd = 4 := ha
  have HF := fun w (hw : Below W.heap.size W w) => Lib.hid (ptake_any (h.next hw) (by omega) ⟨by omega, by omega⟩)
  have HB := fun w (hw : Below W.heap.size W w) => Lib.hid (h.keptB hw)
  clear h
  go_enter Tryd.func11, Tryd.ntmps11
  go_wp2_with fail
  refine (HF _ (actB W _)).out.mono ?_
  rintro e w2 (⟨e0, q', d', cnt', rfl, p2, k2, _, _⟩ | ⟨i, f, q', d', cnt', rfl, hi, hfp, p2, k2, _, _⟩)
  · have HS := Lib.hid (p2.up (show k + 2 ≤ k + n + 4 by omega))
    have HK := Lib.hid ((HB _ (actB W _)).out.trans k2)
    clear HF HB p2 k2
    go_wp2
    go_end0
    exact ⟨rfl, _, _, _, HS.out, HK.out⟩
  · have HU := Lib.hid (unpin_any p2 hi hfp ⟨by omega, by omega⟩)
    have HK := Lib.hid ((HB _ (actB W _)).out.trans k2)
    clear HF HB p2 k2
    go_wp2_with fail
    refine HU.out.mono ?_
    rintro e w3 ⟨rfl, p3, k3⟩
    have HS := Lib.hid (p3.up (show k + 2 ≤ k + n + 4 by omega))
    have K3 := Lib.hid (HK.out.trans k3)
    clear HU HK p3 k3
    go_wp2
    go_end0
    exact ⟨rfl, _, _, _, HS.out, K3.out⟩
theorem PS.wide (h : PS E W P D FB M n kp q d cnt k) (hb : Below W.heap.size W W') {T : Nat → Prop} (hT : ∀ j, T j → E j ∨ (W.heap.size ≤ j ∧ j < W'.heap.size)) : PS T W' P D FB M n kp q d cnt k := by
  refine ⟨⟨h.pd.pool.kept hb.size (fun j hj => hb.block j (h.pd.pool.lt hj)), h.pd.dd.grow hb (fun j hj => ?_), fun j hj hp => ?_⟩, h.ok, h.dok, h.held, h.pins, h.len⟩
  · rcases hj with hj | hj
    · rcases hT j hj with h1 | h1
      · exact .inl (.inl h1)
      · exact .inr h1
    · exact .inl (.inr hj)
  · rcases hT j hj with h1 | h1
    · exact h.pd.far j h1 hp
    · have := h.pd.pool.lt hp; omega
theorem PS.less (h : PS E W P D FB M n kp q d cnt k) {T : Nat → Prop} (hT : ∀ j, T j → E j) : PS T W P D FB M n kp q d cnt k := h.wide (Below.refl _ _) (fun j hj => .inl (hT j hj))
/-- a frame's byte may be set -/
theorem PS.cell (h : PS E W P D FB M n kp q d cnt k) {i : Nat} {f : Fr} (hi : q.frames[i]? = some (some f)) (m : Nat) (hm : m < 504) : ∃ u : UInt8, W.cell? ⟨f.db, m, none⟩ = some (.int .u8 (u.toNat : Int)) ∧ W.frozen? ⟨f.db, m, none⟩ = false := by
  have hf := h.pd.pool.each i f hi
  obtain ⟨y, hy, hl, _⟩ := hf.bytes
  have := hf.cap
  exact ⟨_, hy.cell (by omega), hy.free (by omega)⟩
/-- Edit's answer, and the act's cells behind it -/
theorem edit_act (h : PS E W P D FB M n kp q d cnt k) {i : Nat} {f : Fr} (hi : q.frames[i]? = some (some f)) {m A : Nat} (hm : m < 504) (hA : E A) {x y z t : Value} (hb : Box W A #[x, y, z, t]) :
    Calls Tryd.prog 28 #[.pointer (some ⟨f.blk, 0, none⟩)] W fun e w' => ∃ u : UInt8, e = .returned (.slice (some ⟨f.db, 0, none⟩) 504 f.cap) ∧ w'.cell? ⟨A, 3, none⟩ = some t ∧ w'.cell? ⟨A, 2, none⟩ = some z ∧ w'.cell? ⟨f.db, m, none⟩ = some (.int .u8 (u.toNat : Int)) ∧ w'.frozen? ⟨f.db, m, none⟩ = false ∧
      PS E w' P D FB M n kp { frames := q.frames.set i (some { f with dirty := true }), hand := q.hand, pins := q.pins } d cnt k ∧ Kept E W w' := by
  refine (edit_any h hi).mono (fun e w' ⟨he, hp, hk⟩ => ?_)
  have hl := (List.getElem?_eq_some_iff.1 hi).1
  obtain ⟨u, h1, h2⟩ := hp.cell (f := { f with dirty := true }) (by show (q.frames.set i _)[i]? = _; rw [get_set _ _ _ _ hl, if_pos rfl]) m hm
  have b2 := hb.of_block (hk.block A hA)
  exact ⟨u, he, b2.cell 3 _ rfl, b2.cell 2 _ rfl, h1, h2, hp, hk⟩
set_option maxHeartbeats 1000000 in
set_option maxRecDepth 100000 in
theorem one_pin (h : PS E W P D FB M n 0 q d cnt k) (hk : k + n + 4 < 1000) (a : Act1) (hpw : (Lit.int .i64 a.pp).wf = true) (hnw : (Lit.int .i64 a.nn).wf = true) (ha : a.kd = 1 ∨ a.kd = 3) :
    Calls Tryd.prog 11 #[.pointer (some ⟨P, 0, none⟩), actV a] W fun e w' => OneR E W w' P D FB M n (k + n + 4) e := by
  obtain ⟨kd, pp, nn, by_⟩ := a
  have hw := actB W (.cells #[.int .i64 kd, .int .i64 pp, .int .i64 nn, .int .u8 (by_.toNat : Int)] 32)
  have hbox := Box.new W #[.int .i64 kd, .int .i64 pp, .int .i64 nn, .int .u8 (by_.toNat : Int)] 32
  have HF := Lib.hid (pin_any (h.wide hw (T := fun j => E j ∨ j = W.heap.size) (fun j hj => hj.elim .inl (fun e => .inr ⟨by omega, by rw [World.size_alloc]; omega⟩))) (by omega) pp hpw)
  have HB := Lib.hid (h.keptB hw)
  have HX := Lib.hid hbox
  clear h hw hbox
  replace ha : kd = 1 ∨ kd = 3 := ha
  replace hnw : (Lit.int .i64 nn).wf = true := hnw
  rcases ha with rfl | rfl <;>
  · go_enter Tryd.func11, Tryd.ntmps11
    go_wp2_with fail
    refine HF.out.mono ?_
    rintro e w2 (⟨e0, q', d', cnt', rfl, p2, k2⟩ | ⟨i, f, q', d', cnt', rfl, hi, hfp, p2, k2⟩)
    · have HS := Lib.hid ((p2.up (show k + 2 ≤ k + n + 4 by omega)).less (T := E) (fun j hj => .inl hj))
      have HK := Lib.hid (HB.out.trans (k2.mono (fun j hj => .inl hj)))
      clear HF HB p2 k2
      go_wp2
      go_end0
      exact ⟨rfl, _, _, _, HS.out, HK.out⟩
    · have b2 := HX.out.of_block (k2.block _ (.inr rfl))
      have c2 : w2.cell? ⟨W.heap.size, 2, none⟩ = some (.int .i64 nn) := b2.cell 2 _ rfl
      by_cases hin : 0 ≤ nn ∧ nn < 504
      · obtain ⟨m, rfl⟩ : ∃ m : Nat, nn = m := ⟨nn.toNat, by omega⟩
        obtain ⟨hin0, hin1⟩ := hin
        have bd : Below w2.heap.size w2 w2.drew := UK.belowN (Below.refl _ _) 1
        have p3 := p2.next bd
        have b3 := b2.of_block (W' := w2.drew) rfl
        have c3 : w2.drew.cell? ⟨W.heap.size, 3, none⟩ = some (.int .u8 (by_.toNat : Int)) := b3.cell 3 _ rfl
        have c2' : w2.drew.cell? ⟨W.heap.size, 2, none⟩ = some (.int .i64 (m : Int)) := b3.cell 2 _ rfl
        have HE := Lib.hid (edit_act p3 hi (m := m) (by omega) (.inr rfl) b3)
        have HT := Lib.hid (And.intro p3 (And.intro b3 ((HB.out.trans (k2.mono (T := E) (fun j hj => .inl hj))).trans ((p2.keptB bd).mono (fun j hj => .inl hj)))))
        clear HF HB HX p2 k2 b2 p3 b3 bd
        go_wp2_with fail
        go_region_with (first
          | (go_at_call 28; refine HE.out.mono ?_; rintro e w3 ⟨u, rfl, g3, g2, gm, gf, p3, k3⟩; replace p3 := Lib.hid p3; replace k3 := Lib.hid k3))
        all_goals
          have hl := (List.getElem?_eq_some_iff.1 hi).1
          have hgi : (q'.frames.set i (some { f with dirty := true }))[i]? = some (some { f with dirty := true }) := by rw [get_set _ _ _ _ hl, if_pos rfl]
          obtain ⟨p4, k4⟩ := p3.out.byte (f := { f with dirty := true }) hgi m by_
          have hgj : ((q'.frames.set i (some { f with dirty := true })).set i (some { f with dirty := true, data := f.data.set m by_ }))[i]? = some (some { f with dirty := true, data := f.data.set m by_ }) := by rw [get_set _ _ _ _ (by rw [List.length_set]; exact hl), if_pos rfl]
          have HU := Lib.hid (unpin_any (f := { f with dirty := true, data := f.data.set m by_ }) p4 hgj hfp ⟨by omega, by omega⟩)
          have HK := Lib.hid (HT.out.2.2.trans ((k3.out.trans k4).mono (fun j hj => .inl hj)))
          clear HE HT p3 p4 k4 k3 gm gf g2 g3 c3 c2' c2 hgi hgj
          go_wp2_with fail
          refine HU.out.mono ?_
          rintro e w4 ⟨rfl, p5, k5⟩
          have HS := Lib.hid ((p5.up (show k + 2 ≤ k + n + 4 by omega)).less (T := E) (fun j hj => .inl hj))
          have K3 := Lib.hid (HK.out.trans (k5.mono (fun j hj => .inl hj)))
          clear HU HK p5 k5
          go_wp2
          go_end0
          exact ⟨rfl, _, _, _, HS.out, K3.out⟩
      · have HU := Lib.hid (unpin_any p2 hi hfp ⟨by omega, by omega⟩)
        have HK := Lib.hid (HB.out.trans (k2.mono (fun j hj => .inl hj)))
        clear HF HB HX p2 k2 b2
        go_wp2_with fail
        all_goals
          refine HU.out.mono ?_
          rintro e w3 ⟨rfl, p3, k3⟩
          have HS := Lib.hid ((p3.up (show k + 2 ≤ k + n + 4 by omega)).less (T := E) (fun j hj => .inl hj))
          have K3 := Lib.hid (HK.out.trans (k3.mono (fun j hj => .inl hj)))
          clear HU HK p3 k3
          go_wp2
          go_end0
          exact ⟨rfl, _, _, _, HS.out, K3.out⟩
theorem one_else (h : PS E W P D FB M n 0 q d cnt k) (a : Act1) (ha : a.kd ≠ 1 ∧ a.kd ≠ 3 ∧ a.kd ≠ 4 ∧ a.kd ≠ 5 ∧ a.kd ≠ 9 ∧ a.kd ≠ 10) :
    Calls Tryd.prog 11 #[.pointer (some ⟨P, 0, none⟩), actV a] W fun e w' => OneR E W w' P D FB M n (k + n + 4) e := by
  obtain ⟨kd, pp, nn, by_⟩ := a
  have hw := actB W (.cells #[.int .i64 kd, .int .i64 pp, .int .i64 nn, .int .u8 (by_.toNat : Int)] 32)
  have HS := Lib.hid ((h.next hw).up (show k ≤ k + n + 4 by omega))
  have HB := Lib.hid (h.keptB hw)
  clear h hw
  obtain ⟨h1, h3, h4, h5, h9, h10⟩ := ha
  replace h1 : (kd == 1) = false := beq_eq_false_iff_ne.2 h1
  replace h3 : (kd == 3) = false := beq_eq_false_iff_ne.2 h3
  replace h4 : (kd == 4) = false := beq_eq_false_iff_ne.2 h4
  replace h5 : (kd == 5) = false := beq_eq_false_iff_ne.2 h5
  replace h9 : (kd == 9) = false := beq_eq_false_iff_ne.2 h9
  replace h10 : (kd == 10) = false := beq_eq_false_iff_ne.2 h10
  go_enter Tryd.func11, Tryd.ntmps11
  go_wp2_with fail
  go_end0
  exact ⟨rfl, _, _, _, HS.out, HB.out⟩
theorem one_any (h : PS E W P D FB M n 0 q d cnt k) (hk : k + n + 4 < 1000) (a : Act1) (hpw : (Lit.int .i64 a.pp).wf = true) (hnw : (Lit.int .i64 a.nn).wf = true) :
    Calls Tryd.prog 11 #[.pointer (some ⟨P, 0, none⟩), actV a] W fun e w' => OneR E W w' P D FB M n (k + n + 4) e := by
  by_cases h13 : a.kd = 1 ∨ a.kd = 3
  · exact one_pin h hk a hpw hnw h13
  by_cases h4 : a.kd = 4
  · exact one_take h hk a h4
  by_cases h5 : a.kd = 5
  · exact one_give h hk a hpw h5
  by_cases h9 : a.kd = 9
  · exact one_flush h hk a h9
  by_cases h10 : a.kd = 10
  · exact one_hand h a h10
  exact one_else h a ⟨fun e => h13 (.inl e), fun e => h13 (.inr e), h4, h5, h9, h10⟩
end
end Go.Proofs.YthlomlkalbpdgaaDoor
