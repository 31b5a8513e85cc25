/-
  The law's one: a call on a pool; no page is used behind it.
-/
import Derived.Test.YtjfkdfffolkblaaDoorTwoB
namespace Go.Proofs.YtjfkdfffolkblaaDoor
open Go.RowKit
open UK (str BytesAt nth Only Row Box)
open Go.BigFrame
section
variable {E : Nat → Prop} {W W' : World} {P D k : Nat} {A B : AP}
theorem pz_hand (h : PZ E W P D A k) (x : Int) :
    Calls Tryd.prog 55 #[.pointer (some ⟨P, 0, none⟩), .int .i64 x] W fun e w' => e = .returned (.tuple #[]) ∧ PZ E w' P D A k ∧ Kept E W w' := by
  obtain ⟨FB, M, n, q, d, h1, hn, his⟩ := h
  refine (hand_any h1.pd h1.ok x).mono ?_
  rintro e w2 ⟨rfl, p2, k2⟩
  exact ⟨rfl, ⟨FB, M, n, _, d, ⟨p2, ⟨h1.ok.pins, h1.ok.pos, (handN_is x q.frames.length (by have := h1.ok.hand; omega)).2.1, h1.ok.few⟩, h1.dok, h1.held, h1.pins, h1.len, h1.calm.same _ _ _, h1.lim⟩, hn, ⟨his.free, his.most, his.op⟩⟩, k2⟩
theorem PZ.boxed (h : PZ E W P D A k) (a : Act1) : PZ (fun j => E j ∨ j = W.heap.size) (W.alloc (.cells #[.int .i64 a.kd, .int .i64 a.pp, .int .i64 a.nn, .int .u8 (a.by_.toNat : Int)] 45)) P D A k ∧ Kept E W (W.alloc (.cells #[.int .i64 a.kd, .int .i64 a.pp, .int .i64 a.nn, .int .u8 (a.by_.toNat : Int)] 45)) ∧
    Box (W.alloc (.cells #[.int .i64 a.kd, .int .i64 a.pp, .int .i64 a.nn, .int .u8 (a.by_.toNat : Int)] 45)) W.heap.size #[.int .i64 a.kd, .int .i64 a.pp, .int .i64 a.nn, .int .u8 (a.by_.toNat : Int)] :=
  ⟨h.wide (actB W _) (fun j hj => hj.elim .inl (fun e => .inr ⟨by omega, by rw [World.size_alloc]; omega⟩)), h.kept (actB W _), Box.new W _ _⟩
/-- behind one -/
def OneR (E : Nat → Prop) (W w' : World) (P D : Nat) (A : AP) (k : Nat) (e : Ending) : Prop :=
  e = .returned (.tuple #[]) ∧ ∃ A', A.Reach A' ∧ PZ E w' P D A' (k + 1001) ∧ Kept E W w'
theorem one_flush (h : PZ E W P D A k) (hk : k + 1001 < 900000000) (a : Act1) (ha : a.kd = 9) :
    Calls Tryd.prog 18 #[.pointer (some ⟨P, 0, none⟩), actV a] W fun e w' => OneR E W w' P D A k e := by
  obtain ⟨kd, pp, nn, by_⟩ := a
  obtain rfl : kd = 9 := ha
  have HF := fun w (hw : Below W.heap.size W w) => Lib.hid (pz_flush (h.next hw) hk)
  have HB := fun w (hw : Below W.heap.size W w) => Lib.hid (h.kept hw)
  clear h
  go_enter Tryd.func18, Tryd.ntmps18
  go_wp2_with fail
  refine (HF _ (actB W _)).out.mono ?_
  rintro e w2 ⟨rfl, p2, k2⟩
  have HS := Lib.hid p2.pz
  have HK := Lib.hid ((HB _ (actB W _)).out.trans k2)
  clear HF HB p2 k2
  go_wp2
  go_end0
  exact ⟨rfl, _, AP.Reach.refl A, HS.out, HK.out⟩
theorem one_hand (h : PZ E W P D A k) (a : Act1) (ha : a.kd = 10) :
    Calls Tryd.prog 18 #[.pointer (some ⟨P, 0, none⟩), actV a] W fun e w' => OneR E W w' P D A k e := by
  obtain ⟨kd, pp, nn, by_⟩ := a
  obtain rfl : kd = 10 := ha
  have HF := fun w (hw : Below W.heap.size W w) => Lib.hid (pz_hand (h.next hw) nn)
  have HB := fun w (hw : Below W.heap.size W w) => Lib.hid (h.kept hw)
  clear h
  go_enter Tryd.func18, Tryd.ntmps18
  go_wp2_with fail
  refine (HF _ (actB W _)).out.mono ?_
  rintro e w2 ⟨rfl, p2, k2⟩
  have HS := Lib.hid (p2.up (show k ≤ k + 1001 by omega))
  have HK := Lib.hid ((HB _ (actB W _)).out.trans k2)
  clear HF HB p2 k2
  go_wp2
  go_end0
  exact ⟨rfl, _, AP.Reach.refl A, HS.out, HK.out⟩
theorem one_give (h : PZ E W P D A k) (hk : k + 1001 < 900000000) (a : Act1) (hpw : (Lit.int .i64 a.pp).wf = true) (ha : a.kd = 5) :
    Calls Tryd.prog 18 #[.pointer (some ⟨P, 0, none⟩), actV a] W fun e w' => OneR E W w' P D A k e := by
  obtain ⟨kd, pp, nn, by_⟩ := a
  obtain rfl : kd = 5 := ha
  replace hpw : (Lit.int .i64 pp).wf = true := hpw
  have hf : ∃ B x, A.Reach B ∧ ∀ w, Below W.heap.size W w → Hid (Calls Tryd.prog 58 #[.pointer (some ⟨P, 0, none⟩), .int .i64 pp] w fun e w' => e = .returned (.int .i64 x) ∧ PZ E w' P D B (k + 1) ∧ Kept E w w') := by
    by_cases hp : ∃ m : Nat, pp = m ∧ A.Has m
    · obtain ⟨m, rfl, hm⟩ := hp
      exact ⟨A.give m, 0, (AP.Reach.refl A).give hm, fun w hw => Lib.hid (pz_give (h.next hw) (by omega) m hm)⟩
    · exact ⟨A, 4, AP.Reach.refl A, fun w hw => Lib.hid ((pz_give_no (h.next hw) pp hpw (fun m e hm => hp ⟨m, e, hm⟩)).mono fun e w' ⟨a, b, c⟩ => ⟨a, b.up (by omega), c⟩)⟩
  obtain ⟨B, x, hr, HF⟩ := hf
  have HA := Lib.hid hr
  have HB := fun w (hw : Below W.heap.size W w) => Lib.hid (h.kept hw)
  clear h hr
  go_enter Tryd.func18, Tryd.ntmps18
  go_wp2_with fail
  refine (HF _ (actB W _)).out.mono ?_
  rintro e w2 ⟨rfl, p2, k2⟩
  have HS := Lib.hid (p2.up (show k + 1 ≤ k + 1001 by omega))
  have HK := Lib.hid ((HB _ (actB W _)).out.trans k2)
  clear HF HB p2 k2
  go_wp2
  go_end0
  exact ⟨rfl, _, HA.out, HS.out, HK.out⟩
set_option maxRecDepth 100000 in
theorem one_take (h : PZ E W P D A k) (hk : k + 1001 < 900000000) (a : Act1) (ha : a.kd = 4) :
    Calls Tryd.prog 18 #[.pointer (some ⟨P, 0, none⟩), actV a] W fun e w' => OneR E W w' P D A k e := by
  obtain ⟨kd, pp, nn, by_⟩ := a
  obtain rfl : kd = 4 := ha
  by_cases hf : A.Full
  · have HF := fun w (hw : Below W.heap.size W w) => Lib.hid (pz_take_no (h.next hw) (by omega) hf)
    have HB := fun w (hw : Below W.heap.size W w) => Lib.hid (h.kept hw)
    clear h
    go_enter Tryd.func18, Tryd.ntmps18
    go_wp2_with fail
    refine (HF _ (actB W _)).out.mono ?_
    rintro e w2 ⟨rfl, p2, k2⟩
    have HS := Lib.hid (p2.up (show k + 2 ≤ k + 1001 by omega))
    have HK := Lib.hid ((HB _ (actB W _)).out.trans k2)
    clear HF HB p2 k2
    go_wp2
    go_end0
    exact ⟨rfl, _, AP.Reach.refl A, HS.out, HK.out⟩
  · have HF := fun w (hw : Below W.heap.size W w) => Lib.hid (pz_take (h.next hw) (by omega) hf)
    have HB := fun w (hw : Below W.heap.size W w) => Lib.hid (h.kept hw)
    have HA := Lib.hid ((AP.Reach.refl A).take hf)
    clear h
    go_enter Tryd.func18, Tryd.ntmps18
    go_wp2_with fail
    refine (HF _ (actB W _)).out.mono ?_
    rintro e w2 ⟨fb, db, cap, rfl, p2, k2⟩
    have HU := Lib.hid (pf_unpin p2)
    have HK := Lib.hid ((HB _ (actB W _)).out.trans k2)
    clear HF HB p2 k2
    go_wp2_with fail
    refine HU.out.mono ?_
    rintro e w3 ⟨rfl, p3, k3⟩
    have HS := Lib.hid (p3.up (show k + 2 ≤ k + 1001 by omega))
    replace HK := Lib.hid (HK.out.trans k3)
    clear HU p3 k3
    go_wp2
    go_end0
    exact ⟨rfl, _, HA.out, HS.out, HK.out⟩
/-- Edit's answer, and the act's cells behind it -/
theorem edit_act {fb db cap pg : Nat} {dy : Bool} (h : PF E W P D A k fb db cap pg dy) (hk : k < 900000000) {i X : Nat} (hi : i < 504) (hX : E X) {x y z t : Value} (hb : Box W X #[x, y, z, t]) :
    Calls Tryd.prog 41 #[.pointer (some ⟨fb, 0, none⟩)] W fun e w' => ∃ u : UInt8, e = .returned (.slice (some ⟨db, 0, none⟩) 504 cap) ∧ w'.cell? ⟨X, 3, none⟩ = some t ∧ w'.cell? ⟨X, 2, none⟩ = some z ∧ w'.cell? ⟨db, i, none⟩ = some (.int .u8 (u.toNat : Int)) ∧ w'.frozen? ⟨db, i, none⟩ = false ∧
      PF E w' P D (A.keep pg) (k + 1) fb db cap pg true ∧ Kept E W w' := by
  refine (pf_edit h hk).mono ?_
  rintro e w' ⟨he, h2, kk⟩
  have b2 := hb.of_block (kk.block X hX)
  obtain ⟨u, a, b, c, d, _⟩ := h2.bytes
  exact ⟨_, he, b2.cell 3 _ rfl, b2.cell 2 _ rfl, a.cell (by omega), a.free (by omega), h2, kk⟩
theorem pf_byte {fb db cap pg : Nat} (h : PF E W P D A k fb db cap pg true) (i : Nat) (v : UInt8) :
    PF E (W.setCell ⟨db, i, none⟩ (.int .u8 (v.toNat : Int))) P D (A.put pg ((A.c pg).set i v)) k fb db cap pg true ∧ Kept E W (W.setCell ⟨db, i, none⟩ (.int .u8 (v.toNat : Int))) := by
  obtain ⟨y, a, b, c, d, _⟩ := h.bytes
  have := h.write (y := y.set i v) (W' := W.setCell ⟨db, i, none⟩ (.int .u8 (v.toNat : Int))) ((Only.refl db W).set i _) (a.set i v) (by rw [List.length_set]; exact b)
  rw [List.take_set, c] at this
  exact this
set_option maxHeartbeats 1000000 in
set_option maxRecDepth 100000 in
theorem one_pin (h : PZ E W P D A k) (hk : k + 1001 < 900000000) (a : Act1) (hnw : (Lit.int .i64 a.nn).wf = true) (ha : a.kd = 1 ∨ a.kd = 3) :
    Calls Tryd.prog 18 #[.pointer (some ⟨P, 0, none⟩), actV a] W fun e w' => OneR E W w' P D A k e := by
  obtain ⟨h1, hb, hx⟩ := h.boxed a
  obtain ⟨kd, pp, nn, by_⟩ := a
  replace ha : kd = 1 ∨ kd = 3 := ha
  replace hnw : (Lit.int .i64 nn).wf = true := hnw
  simp only [] at h1 hb hx
  have HN := Lib.hid h.there
  by_cases hp : ∃ m : Nat, pp = m ∧ A.Has m
  · obtain ⟨p, rfl, hm⟩ := hp
    have HF := Lib.hid (pz_pin h1 (by omega) p hm)
    have HB := Lib.hid hb
    have HX := Lib.hid hx
    clear h h1 hb hx
    rcases ha with rfl | rfl <;>
    · go_enter Tryd.func18, Tryd.ntmps18
      go_wp2_with fail
      refine HF.out.mono ?_
      rintro e w2 ⟨fb, db, cap, rfl, p2, k2⟩
      have b2 := HX.out.of_block (k2.block _ (.inr rfl))
      have c2 : w2.cell? ⟨W.heap.size, 2, none⟩ = some (.int .i64 nn) := b2.cell 2 _ rfl
      have HK := Lib.hid (HB.out.trans (k2.mono (T := E) (fun j hj => .inl hj)))
      by_cases hin : 0 ≤ nn ∧ nn < 504
      · obtain ⟨m, rfl⟩ : ∃ m : Nat, nn = m := ⟨nn.toNat, by omega⟩
        obtain ⟨hin0, hin1⟩ := hin
        have bd : Below w2.heap.size w2 w2.drew := UK.belowN (Below.refl _ _) 1
        have p3 := p2.next bd
        have b3 := b2.of_block (W' := w2.drew) rfl
        have c3 : w2.drew.cell? ⟨W.heap.size, 3, none⟩ = some (.int .u8 (by_.toNat : Int)) := b3.cell 3 _ rfl
        have c2' : w2.drew.cell? ⟨W.heap.size, 2, none⟩ = some (.int .i64 (m : Int)) := b3.cell 2 _ rfl
        have HE := Lib.hid (edit_act p3 (by omega) (i := m) (by omega) (.inr rfl) b3)
        replace HK := Lib.hid (HK.out.trans (Kept.of_below bd (fun j hj => Nat.lt_of_lt_of_le (HN.out j hj) HK.out.size)))
        clear HF HB HX p2 k2 b2 p3 b3 bd
        go_wp2_with fail
        go_region_with (first
          | (go_at_call 41; refine HE.out.mono ?_; rintro e w3 ⟨u, rfl, g3, g2, gm, gf, p3, k3⟩; replace p3 := Lib.hid p3; replace k3 := Lib.hid k3))
        all_goals
          obtain ⟨p4, k4⟩ := pf_byte p3.out m by_
          have HU := Lib.hid (pf_unpin p4)
          replace HK := Lib.hid (HK.out.trans ((k3.out.trans k4).mono (fun j hj => .inl hj)))
          have HA := Lib.hid ((AP.Reach.refl A).wrote hm ((A.c p).set m by_))
          clear HE p3 p4 k4 k3 gm gf g2 g3 c3 c2' c2
          go_wp2_with fail
          refine HU.out.mono ?_
          rintro e w4 ⟨rfl, p5, k5⟩
          have HS := Lib.hid ((p5.up (show k + 2 + 1 ≤ k + 1001 by omega)).less (T := E) (fun j hj => .inl hj))
          replace HK := Lib.hid (HK.out.trans (k5.mono (fun j hj => .inl hj)))
          clear HU p5 k5
          go_wp2
          go_end0
          exact ⟨rfl, _, HA.out, HS.out, HK.out⟩
      · have HU := Lib.hid (pf_unpin p2)
        clear HF HB HX p2 k2 b2
        go_wp2_with fail
        all_goals
          refine HU.out.mono ?_
          rintro e w3 ⟨rfl, p3, k3⟩
          have HS := Lib.hid ((p3.up (show k + 2 ≤ k + 1001 by omega)).less (T := E) (fun j hj => .inl hj))
          have K3 := Lib.hid (HK.out.trans (k3.mono (fun j hj => .inl hj)))
          clear HU HK p3 k3
          go_wp2
          go_end0
          exact ⟨rfl, _, AP.Reach.refl A, HS.out, K3.out⟩
  · have HF := Lib.hid (pz_pin_no h1 pp (fun m e hm => hp ⟨m, e, hm⟩))
    have HB := Lib.hid hb
    clear h h1 hb hx hp
    rcases ha with rfl | rfl <;>
    · go_enter Tryd.func18, Tryd.ntmps18
      go_wp2_with fail
      refine HF.out.mono ?_
      rintro e w2 ⟨rfl, p2, k2⟩
      have HS := Lib.hid ((p2.up (show k ≤ k + 1001 by omega)).less (T := E) (fun j hj => .inl hj))
      have HK := Lib.hid (HB.out.trans (k2.mono (fun j hj => .inl hj)))
      clear HF HB p2 k2
      go_wp2
      go_end0
      exact ⟨rfl, _, AP.Reach.refl A, HS.out, HK.out⟩
theorem one_else (h : PZ E W P D A k) (a : Act1) (ha : a.kd ≠ 1 ∧ a.kd ≠ 3 ∧ a.kd ≠ 4 ∧ a.kd ≠ 5 ∧ a.kd ≠ 9 ∧ a.kd ≠ 10) :
    Calls Tryd.prog 18 #[.pointer (some ⟨P, 0, none⟩), actV a] W fun e w' => OneR E W w' P D A k e := by
  obtain ⟨kd, pp, nn, by_⟩ := a
  have hw := actB W (.cells #[.int .i64 kd, .int .i64 pp, .int .i64 nn, .int .u8 (by_.toNat : Int)] 45)
  have HS := Lib.hid ((h.next hw).up (show k ≤ k + 1001 by omega))
  have HB := Lib.hid (h.kept hw)
  clear h hw
  obtain ⟨h1, h3, h4, h5, h9, h10⟩ := ha
  replace h1 : (kd == 1) = false := beq_eq_false_iff_ne.2 h1
  replace h3 : (kd == 3) = false := beq_eq_false_iff_ne.2 h3
  replace h4 : (kd == 4) = false := beq_eq_false_iff_ne.2 h4
  replace h5 : (kd == 5) = false := beq_eq_false_iff_ne.2 h5
  replace h9 : (kd == 9) = false := beq_eq_false_iff_ne.2 h9
  replace h10 : (kd == 10) = false := beq_eq_false_iff_ne.2 h10
  go_enter Tryd.func18, Tryd.ntmps18
  go_wp2_with fail
  go_end0
  exact ⟨rfl, _, AP.Reach.refl A, HS.out, HB.out⟩
theorem one_any (h : PZ E W P D A k) (hk : k + 1001 < 900000000) (a : Act1) (hpw : (Lit.int .i64 a.pp).wf = true) (hnw : (Lit.int .i64 a.nn).wf = true) :
    Calls Tryd.prog 18 #[.pointer (some ⟨P, 0, none⟩), actV a] W fun e w' => OneR E W w' P D A k e := by
  by_cases h13 : a.kd = 1 ∨ a.kd = 3
  · exact one_pin h hk a hnw h13
  by_cases h4 : a.kd = 4
  · exact one_take h hk a h4
  by_cases h5 : a.kd = 5
  · exact one_give h hk a hpw h5
  by_cases h9 : a.kd = 9
  · exact one_flush h hk a h9
  by_cases h10 : a.kd = 10
  · exact one_hand h a h10
  exact one_else h a ⟨fun e => h13 (.inl e), fun e => h13 (.inr e), h4, h5, h9, h10⟩
end
end Go.Proofs.YtjfkdfffolkblaaDoor
