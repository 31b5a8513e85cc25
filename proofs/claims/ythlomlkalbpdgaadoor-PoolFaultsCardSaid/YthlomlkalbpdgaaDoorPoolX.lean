/-
  The pool: Take.
-/
import Derived.Test.YthlomlkalbpdgaaDoorPoolW
namespace Go.Proofs.YthlomlkalbpdgaaDoor
open Go.RowKit
open UK (str BytesAt nth Only Row Box IntMap)
open Go.BigFrame
section
variable {E : Nat → Prop} {W W' : World} {P D FB M cnt k n : Nat} {kp : Int} {q : Pl} {d d' : Dk}
theorem take_has (o : Ok d cnt k) (hk : k < 1000) : (∀ a, hasD d cnt a = true → hasD (tD d cnt) (tC d cnt) a = true) ∧ (tE d cnt = 0 → hasD d cnt (tP d cnt : Nat) = false ∧ hasD (tD d cnt) (tC d cnt) (tP d cnt : Nat) = true) := by
  have so2 := (o.take hk).so
  have so := o.so
  have hone := o.fit.one
  rcases take_split d cnt with ⟨_, _, a, b, e, c⟩ | ⟨_, _, a, b, e, c⟩ | ⟨_, _, hf, a, b, e, c⟩ | ⟨_, l, p, hl, a, b, e, c⟩
  · rw [e, c, a]; exact ⟨fun _ h => h, fun h => absurd h (by decide)⟩
  · rw [e, c, a]; exact ⟨fun _ h => h, fun h => absurd h (by decide)⟩
  · rw [e, c] at so2 ⊢
    rw [b]
    refine ⟨fun x hx => ?_, fun _ => ⟨?_, ?_⟩⟩
    · rw [so.hasI, decide_eq_true_eq] at hx
      rw [so2.hasI, decide_eq_true_eq]
      exact ⟨hx.1, by omega, hx.2.2⟩
    · rw [so.hasI, decide_eq_false_iff_not]; omega
    · rw [so2.hasI, decide_eq_true_eq]
      refine ⟨by omega, by omega, ?_⟩
      show _ ∉ d.free
      rw [hf]; intro hh; cases hh
  · rw [e, c] at so2 ⊢
    rw [b]
    have hpm : p ∈ d.free := by rw [hl]; exact List.mem_append_right _ (List.mem_singleton.2 rfl)
    have hp := o.fit.free p hpm
    have hnd := so.nodup
    rw [hl] at hnd
    have hpl : p ∉ l := fun hm => (List.nodup_append.1 hnd).2.2 p hm p (List.mem_singleton.2 rfl) rfl
    refine ⟨fun x hx => ?_, fun _ => ⟨?_, ?_⟩⟩
    · rw [so.hasI, decide_eq_true_eq] at hx
      rw [so2.hasI, decide_eq_true_eq]
      refine ⟨hx.1, hx.2.1, fun hm => hx.2.2 ?_⟩
      rw [hl]; exact List.mem_append_left _ hm
    · rw [so.hasI, decide_eq_false_iff_not, Int.toNat_natCast]
      exact fun hh => hh.2.2 hpm
    · rw [so2.hasI, decide_eq_true_eq, Int.toNat_natCast]
      exact ⟨by omega, by omega, hpl⟩
theorem make504 (w : World) : (Instr.makeSlice 44 (.int .i64 504) (.int .i64 504)).run Tryd.prog w = .ok (.slice (some ⟨w.heap.size, 0, none⟩) 504 504) (w.alloc (.cells (UK.bcells (UK.zeros 504)) 5)) := by kernel_rfl
/-- may the victim go without being written? -/
def clean (r : Option Nat × List (Option Fr) × Nat) : Prop := ∀ (j : Nat) (f : Fr), r.1 = some j → r.2.1[j]? = some (some f) → f.dirty = false
/-- behind Take -/
def TakeR (E : Nat → Prop) (W w' : World) (P D FB M n : Nat) (kp : Int) (k : Nat) (q : Pl) (d : Dk) (cnt : Nat) (r : Option Nat × List (Option Fr) × Nat) (e : Ending) : Prop :=
  (∃ (e0 : Int) (q' : Pl) (d' : Dk) (cnt' : Nat), e = .returned (.tuple #[.pointer none, .int .i64 e0]) ∧ PS E w' P D FB M n kp q' d' cnt' k ∧ Kept E W w' ∧ (r.1 = none → e0 = 9 ∧ q' = { frames := r.2.1, hand := r.2.2, pins := q.pins } ∧ d' = d ∧ cnt' = cnt) ∧ (clean r → tE d cnt = 0 → r.1 = none)) ∨
  (∃ (i : Nat) (f : Fr) (q' : Pl) (d' : Dk) (cnt' : Nat), e = .returned (.tuple #[.pointer (some ⟨f.blk, 0, none⟩), .int .i64 0]) ∧ q'.frames[i]? = some (some f) ∧ 0 < f.pins ∧ PS E w' P D FB M n (kp + 1) q' d' cnt' k ∧ Kept E W w' ∧ r.1 ≠ none ∧
    (clean r → r.1 = some i ∧ q' = { frames := r.2.1.set i (some f), hand := r.2.2, pins := q.pins + 1 } ∧ f.page = (tP d cnt : Nat) ∧ f.pins = 1 ∧ f.dirty = false ∧ f.used = true ∧ d' = tD d cnt ∧ cnt' = tC d cnt))
set_option maxHeartbeats 1000000 in
set_option maxRecDepth 100000 in
theorem ptake_any (h : PS E W P D FB M n kp q d cnt k) (hk : k + 2 < 1000) (hkp : 0 ≤ kp ∧ kp < 1000000) :
    Calls Tryd.prog 22 #[.pointer (some ⟨P, 0, none⟩)] W fun e w' => TakeR E W w' P D FB M n kp (k + 2) q d cnt (sweep (2 * q.frames.length) q.frames q.hand) e := by
  have hR := proom_any h.pd h.ok h.dok (by omega)
  unfold Roomed at hR
  generalize sweep (2 * q.frames.length) q.frames q.hand = r at hR ⊢
  have HR := Lib.hid hR
  have hmk := make504
  clear hR
  go_enter Tryd.func22, Tryd.ntmps22
  go_wp2_with fail
  refine HR.out.mono ?_
  rintro e w3 ⟨i, e0, q', d', rfl, p3, k3, o3, ok3, hpin, hlen, hfw, hhs, hz, hex⟩
  have hheld : ∀ (j : Nat) (g : Fr), q'.frames[j]? = some (some g) → hasD d' cnt g.page = true := fun j g hj => by
    obtain ⟨g0, h0, he⟩ := hfw j g hj
    rw [hhs, ← he]; exact h.held j g0 h0
  have s3 : PS E w3 P D FB M n kp q' d' cnt (k + 1) := ⟨p3, o3, ok3, hheld, hpin.trans h.pins, hlen.trans h.len⟩
  have HZ := Lib.hid hz
  have HX := Lib.hid hex
  have HS3 := Lib.hid (And.intro s3 k3)
  have HH := Lib.hid h
  clear HR k3 hpin hlen hfw hhs hz hheld s3 o3 ok3 hex h
  by_cases he : e0 = 0
  · have HI := Lib.hid (HZ.out he)
    subst he
    have hrn : r.1 ≠ none := fun h0 => by have := (HX.out.1 h0).1; omega
    have HRN := Lib.hid hrn
    have c0 : w3.cell? ⟨P, 0, none⟩ = some (.pointer (some ⟨D, 0, none⟩)) := p3.pool.box.cell 0 _ rfl
    have HT := Lib.hid (dd_take_u p3.dd HS3.out.1.dok (by omega))
    have hth := take_has HS3.out.1.dok (by omega)
    have hokt := HS3.out.1.dok.take (by omega)
    have htE : clean r → tE d' cnt = tE d cnt ∧ tP d' cnt = tP d cnt ∧ tD d' cnt = tD d cnt ∧ tC d' cnt = tC d cnt := fun hc => by
      cases hr1 : r.1 with
      | none => exact absurd hr1 hrn
      | some j =>
        have := (HX.out.2 j hr1 (fun f hf => hc j f hr1 hf)).2.2.1
        rw [this]; exact ⟨rfl, rfl, rfl, rfl⟩
    have HTE := Lib.hid htE
    have hpw : tE d' cnt = 0 → tP d' cnt < 60000 := fun h0 => by
      have := (hth.2 h0).2
      rw [hokt.so.hasI, decide_eq_true_eq] at this
      have := hokt.fit.few
      omega
    clear hrn htE
    generalize hte : tE d' cnt = te at HT hth hpw HTE
    generalize htp : tP d' cnt = tp at HT hth hpw HTE
    generalize htd : tD d' cnt = td at HT hth hokt HTE
    generalize htc : tC d' cnt = tc at HT hth hokt HTE
    have HTH := Lib.hid hth
    have HPW := Lib.hid hpw
    clear hth hpw hte htp htd htc
    go_wp2_with fail
    refine HT.out.mono ?_
    rintro e w4 ⟨rfl, d4, k4⟩
    have p4 := p3.disk d4 k4
    have s4 : PS E w4 P D FB M n kp q' td tc (k + 2) := ⟨p4, HS3.out.1.ok, hokt, fun j g hj => HTH.out.1 _ (HS3.out.1.held j g hj), HS3.out.1.pins, HS3.out.1.len⟩
    have HS4 := Lib.hid (And.intro s4 (HS3.out.2.trans (k4.mono (fun j hj => .inl hj))))
    clear HT c0 d4 k4 p3 s4 hokt
    by_cases hr0 : te = 0
    · have HP2 := Lib.hid (HTH.out.2 hr0)
      have HPW2 := Lib.hid (HPW.out hr0)
      subst hr0
      have c5 : w4.cell? ⟨P, 5, none⟩ = some (.bool false) := p4.pool.box.cell 5 _ rfl
      have hno4 : ∀ (j : Nat) (g : Fr), q'.frames[j]? = some (some g) → g.page ≠ (tp : Int) := fun j g hj hg => by
        have := HS3.out.1.held j g hj
        rw [hg, HP2.out.1] at this; cases this
      have hb4 : Below w4.heap.size w4 (w4.alloc (.cells (UK.bcells (UK.zeros 504)) 5)) := (Below.refl _ _).alloc (Nat.le_refl _) _
      have hbz : BytesAt (w4.alloc (.cells (UK.bcells (UK.zeros 504)) 5)) w4.heap.size (UK.zeros 504) := bytes_new w4 (UK.zeros 504)
      have hcv := UK.run_window (P := Tryd.prog) (src := 44) (dst := 9) Tryd.underlying44 Tryd.underlying5 Tryd.underlying9 hbz 0 504 504 (by rw [UK.zeros_length]; omega)
      have hz2 : ((UK.zeros 504).drop 0).take 504 = UK.zeros 504 := by rw [List.drop_zero, List.take_of_length_le (by rw [UK.zeros_length]; omega)]
      rw [hz2] at hcv
      have HL := Lib.hid (play_any (p4.next hb4) HS4.out.1.ok (by rw [HS4.out.1.pins]; omega) HI.out (tp : Int) (WalkArith.wf_i64 (by have := HPW2.out; omega)) hno4 (UK.zeros 504) (UK.zeros_length 504))
      have kb := Lib.hid (HS4.out.1.keptB hb4)
      clear p4 hbz hno4 hb4 hz2
      generalize UK.zeros 504 = zz at hcv HL hmk kb
      go_wp2_with fail
      refine HL.out.mono ?_
      rintro e w5 ⟨f, rfl, hfpg, _, hfp1, hfd, hfu, p5, k5⟩
      have hil := (List.getElem?_eq_some_iff.1 HI.out).1
      have hpo := HS4.out.1.ok.set HI.out (u := some f) (fun y hy => by rw [← Option.some.inj hy, hfp1]; omega)
      rw [show q'.pins - pinO none + pinO (some f) = q'.pins + 1 by show q'.pins - 0 + f.pins = _; omega] at hpo
      have s5 : PS E w5 P D FB M n (kp + 1) { frames := q'.frames.set i (some f), hand := q'.hand, pins := q'.pins + 1 } td tc (k + 2) := ⟨p5, hpo, HS4.out.1.dok, fun j g hj => by
        replace hj : (q'.frames.set i (some f))[j]? = some (some g) := hj
        rw [get_set _ _ _ _ hil] at hj
        by_cases e : i = j
        · rw [if_pos e] at hj
          rw [← Option.some.inj (Option.some.inj hj), hfpg]; exact HP2.out.2
        · rw [if_neg e] at hj; exact HS4.out.1.held j g hj, by show q'.pins + 1 = _; rw [HS4.out.1.pins], by show (q'.frames.set i _).length = n; rw [List.length_set]; exact HS4.out.1.len⟩
      have hex2 : clean r → r.1 = some i ∧ ({ frames := q'.frames.set i (some f), hand := q'.hand, pins := q'.pins + 1 } : Pl) = { frames := r.2.1.set i (some f), hand := r.2.2, pins := q.pins + 1 } ∧ f.page = (tP d cnt : Nat) ∧ f.pins = 1 ∧ f.dirty = false ∧ f.used = true ∧ td = tD d cnt ∧ tc = tC d cnt := fun hc => by
        cases hr1 : r.1 with
        | none => exact absurd hr1 HRN.out
        | some j =>
          obtain ⟨a, _, _, b⟩ := HX.out.2 j hr1 (fun f hf => hc j f hr1 hf)
          obtain ⟨_, t2, t3, t4⟩ := HTE.out hc
          subst a
          refine ⟨rfl, ?_, by rw [hfpg, t2], hfp1, hfd, hfu, t3, t4⟩
          rw [b, List.set_set]
      have HS5 := Lib.hid (And.intro s5 (And.intro ((HS4.out.2.trans kb.out).trans k5) hex2))
      have HFP := Lib.hid hfp1
      clear s5 k5 p5 hpo HL hfpg hfp1 hfd hfu hex2 hcv
      go_wp2
      go_ret2
      exact .inr ⟨i, f, _, td, tc, rfl, by show (q'.frames.set i _)[i]? = _; rw [get_set _ _ _ _ hil, if_pos rfl], by rw [HFP.out]; decide, HS5.out.1, HS5.out.2.1, HRN.out, HS5.out.2.2⟩
    · have hb1 : (te == 0) = false := beq_eq_false_iff_ne.2 hr0
      have HT0 := Lib.hid hr0
      clear hr0 p4
      go_wp2
      go_ret2
      exact .inl ⟨te, q', td, tc, rfl, HS4.out.1, HS4.out.2, fun h0 => absurd h0 HRN.out, fun hc h0 => absurd ((HTE.out hc).1.trans h0) HT0.out⟩
  · have hb1 : (e0 == 0) = false := beq_eq_false_iff_ne.2 he
    have HE0 := Lib.hid he
    clear he p3
    go_wp2
    go_ret2
    refine .inl ⟨e0, q', d', cnt, rfl, HS3.out.1.more, HS3.out.2, fun h0 => ?_, fun hc _ => ?_⟩
    · obtain ⟨a, b, c⟩ := HX.out.1 h0
      exact ⟨a, c, b, rfl⟩
    · cases hr1 : r.1 with
      | none => rfl
      | some j => exact absurd (HX.out.2 j hr1 (fun f hf => hc j f hr1 hf)).2.1 HE0.out
end
end Go.Proofs.YthlomlkalbpdgaaDoor
