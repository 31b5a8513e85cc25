/-
  The pool: Unpin, Edit, Pin.
-/
import Derived.Test.YthlomlkalbpdgaaDoorPoolU
namespace Go.Proofs.YthlomlkalbpdgaaDoor
open Go.RowKit
open UK (str BytesAt nth Only Row Box IntMap)
open Go.BigFrame
section
variable {E : Nat → Prop} {W W' : World} {P D FB M cnt k n : Nat} {kp : Int} {q : Pl} {d d' : Dk}
/-- a pool between two calls -/
structure PS (E : Nat → Prop) (W : World) (P D FB M n : Nat) (kp : Int) (q : Pl) (d : Dk) (cnt k : Nat) : Prop where
  pd : PD E W P D FB M q d cnt
  ok : PlOk q
  dok : Ok d cnt k
  held : ∀ (j : Nat) (g : Fr), q.frames[j]? = some (some g) → hasD d cnt g.page = true
  pins : q.pins = kp
  len : q.frames.length = n
theorem PS.next (h : PS E W P D FB M n kp q d cnt k) (hb : Below W.heap.size W W') : PS E W' P D FB M n kp q d cnt k := ⟨h.pd.next hb, h.ok, h.dok, h.held, h.pins, h.len⟩
theorem PS.keptB (h : PS E W P D FB M n kp q d cnt k) (hb : Below W.heap.size W W') : Kept E W W' := Kept.of_below hb (fun j hj => h.pd.dd.there j (.inl hj))
theorem PS.more (h : PS E W P D FB M n kp q d cnt k) : PS E W P D FB M n kp q d cnt (k + 1) := ⟨h.pd, h.ok, h.dok.more, h.held, h.pins, h.len⟩
/-- a frame's marks turn -/
theorem PS.flag {i : Nat} {f g : Fr} {w1 : World} (h : PS E W P D FB M n kp q d cnt k) (hi : q.frames[i]? = some (some f)) (hs : Same f g) (hg : 0 ≤ g.pins ∧ g.pins ≤ 1000000) (h1 : PD E w1 P D FB M { frames := q.frames.set i (some g), hand := q.hand, pins := q.pins - f.pins + g.pins } d cnt) :
    PS E w1 P D FB M n (kp - f.pins + g.pins) { frames := q.frames.set i (some g), hand := q.hand, pins := q.pins - f.pins + g.pins } d cnt k := by
  have hl := (List.getElem?_eq_some_iff.1 hi).1
  refine ⟨h1, h.ok.set hi (u := some g) (fun x hx => by rw [← Option.some.inj hx]; exact hg), h.dok, fun j u hj => ?_, by rw [← h.pins], by show (q.frames.set i _).length = n; rw [List.length_set]; exact h.len⟩
  replace hj : (q.frames.set i (some g))[j]? = some (some u) := hj
  rw [get_set _ _ _ _ hl] at hj
  by_cases e : i = j
  · rw [if_pos e] at hj
    rw [← Option.some.inj (Option.some.inj hj), hs.page]
    exact h.held i f hi
  · rw [if_neg e] at hj; exact h.held j u hj
theorem unpin_any (h : PS E W P D FB M n kp q d cnt k) {i : Nat} {f : Fr} (hi : q.frames[i]? = some (some f)) (hp : 0 < f.pins) (hkp : 0 < kp ∧ kp ≤ 1000000) :
    Calls Tryd.prog 24 #[.pointer (some ⟨f.blk, 0, none⟩)] W fun e w' => e = .returned (.tuple #[]) ∧ PS E w' P D FB M n (kp - 1) { frames := q.frames.set i (some { f with pins := f.pins - 1 }), hand := q.hand, pins := q.pins - 1 } d cnt k ∧ Kept E W w' := by
  have hfr := h.pd.pool.each i f hi
  have hpos := h.ok.pos i f hi
  have c0 : W.cell? ⟨f.blk, 0, none⟩ = some (.pointer (some ⟨P, 0, none⟩)) := hfr.box.cell 0 _ rfl
  have c3 : W.cell? ⟨f.blk, 3, none⟩ = some (.int .i64 f.pins) := hfr.box.cell 3 _ rfl
  have f3 := hfr.box.free 3
  have h1 := h.pd.flag (g := { f with pins := f.pins - 1 }) hi ⟨rfl, rfl, rfl, rfl, rfl⟩ ((Only.refl f.blk W).set 3 (.int .i64 (f.pins - 1))) (hfr.box.set 3 (.int .i64 (f.pins - 1)))
  have hb1 := h1.1.pool.box
  have hlen : (q.frames.set i (some { f with pins := f.pins - 1 })).length = q.frames.length := List.length_set
  simp only at hb1
  have c4 : (W.setCell ⟨f.blk, 3, none⟩ (.int .i64 (f.pins - 1))).cell? ⟨P, 4, none⟩ = some (.int .i64 q.pins) := hb1.cell 4 _ rfl
  have f4 := hb1.free 4
  have h2 := h1.1.own ((Only.refl P _).set 4 (.int .i64 (q.pins - 1))) (hand := q.hand) (pins := q.pins - 1) (hb1.set 4 (.int .i64 (q.pins - 1)))
  have h3 := h.flag (g := { f with pins := f.pins - 1 }) hi ⟨rfl, rfl, rfl, rfl, rfl⟩ (by show 0 ≤ f.pins - 1 ∧ f.pins - 1 ≤ 1000000; omega) (w1 := (W.setCell ⟨f.blk, 3, none⟩ (.int .i64 (f.pins - 1))).setCell ⟨P, 4, none⟩ (.int .i64 (q.pins - 1))) (by
    rw [show q.pins - f.pins + ({ f with pins := f.pins - 1 } : Fr).pins = q.pins - 1 by show q.pins - f.pins + (f.pins - 1) = _; omega]
    exact h2.1)
  rw [show kp - f.pins + ({ f with pins := f.pins - 1 } : Fr).pins = kp - 1 by show kp - f.pins + (f.pins - 1) = _; omega, show q.pins - f.pins + ({ f with pins := f.pins - 1 } : Fr).pins = q.pins - 1 by show q.pins - f.pins + (f.pins - 1) = _; omega] at h3
  have HF := Lib.hid (And.intro h3 (h1.2.trans h2.2))
  have hqp : 0 < q.pins := by rw [h.pins]; exact hkp.1
  have hqp2 : q.pins ≤ 1000000 := by rw [h.pins]; exact hkp.2
  have hne : f.blk ≠ P := (h.pd.pool.off i (some f) f.blk hi (.inl rfl)).1
  clear h1 h2 h3 hb1 hfr hlen
  go_enter Tryd.func24, Tryd.ntmps24
  go_wp2
  go_end0
  exact ⟨rfl, HF.out.1, HF.out.2⟩
set_option maxRecDepth 100000 in
theorem keep_any (h : PD E W P D FB M q d cnt) (b : Nat) :
    Calls Tryd.prog 46 #[.pointer (some ⟨P, 0, none⟩), .pointer (some ⟨b, 0, none⟩)] W fun e w' => e = .returned (.tuple #[]) ∧ ∃ x, w' = W.drewN x := by
  have c5 : W.cell? ⟨P, 5, none⟩ = some (.bool false) := h.pool.box.cell 5 _ rfl
  go_enter Tryd.func46, Tryd.ntmps46
  go_wp2
  go_quiet (fail)
  go_wp2
  refine bodyPost_ret (results_none rfl _ _ _) rfl ?_
  exact ⟨rfl, _, rfl⟩
/-- a frame's own bytes, to be changed -/
theorem edit_any (h : PS E W P D FB M n kp q d cnt k) {i : Nat} {f : Fr} (hi : q.frames[i]? = some (some f)) :
    Calls Tryd.prog 28 #[.pointer (some ⟨f.blk, 0, none⟩)] W fun e w' => e = .returned (.slice (some ⟨f.db, 0, none⟩) 504 f.cap) ∧ PS E w' P D FB M n kp { frames := q.frames.set i (some { f with dirty := true }), hand := q.hand, pins := q.pins } d cnt k ∧ Kept E W w' := by
  have hfr := h.pd.pool.each i f hi
  have hpos := h.ok.pos i f hi
  have c0 : W.cell? ⟨f.blk, 0, none⟩ = some (.pointer (some ⟨P, 0, none⟩)) := hfr.box.cell 0 _ rfl
  have c2 : W.cell? ⟨f.blk, 2, none⟩ = some (.slice (some ⟨f.db, 0, none⟩) 504 f.cap) := hfr.box.cell 2 _ rfl
  have c5 : W.cell? ⟨f.blk, 5, none⟩ = some (.bool f.dirty) := hfr.box.cell 5 _ rfl
  have f5 := hfr.box.free 5
  have hkeep := keep_any h.pd f.blk
  have hst : ∀ x, PS E ((W.drewN x).setCell ⟨f.blk, 5, none⟩ (.bool true)) P D FB M n kp { frames := q.frames.set i (some { f with dirty := true }), hand := q.hand, pins := q.pins } d cnt k ∧ Kept E W ((W.drewN x).setCell ⟨f.blk, 5, none⟩ (.bool true)) := fun x => by
    have hb : Below W.heap.size W (W.drewN x) := UK.belowN (Below.refl _ _) x
    have hx := h.next hb
    have h1 := hx.pd.flag (g := { f with dirty := true }) hi ⟨rfl, rfl, rfl, rfl, rfl⟩ ((Only.refl f.blk _).set 5 (.bool true)) ((hx.pd.pool.each i f hi).box.set 5 (.bool true))
    have h3 := hx.flag (g := { f with dirty := true }) hi ⟨rfl, rfl, rfl, rfl, rfl⟩ hpos (by
      rw [show q.pins - f.pins + ({ f with dirty := true } : Fr).pins = q.pins by show q.pins - f.pins + f.pins = _; omega]
      exact h1.1)
    rw [show q.pins - f.pins + ({ f with dirty := true } : Fr).pins = q.pins by show q.pins - f.pins + f.pins = _; omega, show kp - f.pins + ({ f with dirty := true } : Fr).pins = kp by show kp - f.pins + f.pins = _; omega] at h3
    exact ⟨h3, (h.keptB hb).trans h1.2⟩
  have HST := Lib.hid hst
  clear hst hfr hpos
  go_enter Tryd.func28, Tryd.ntmps28
  go_wp2_with fail
  refine hkeep.mono ?_
  rintro e w1 ⟨rfl, x, rfl⟩
  go_wp2
  go_ret
  exact ⟨rfl, (HST.out x).1, (HST.out x).2⟩
/-- a byte of a page at hand turns -/
theorem PS.byte (h : PS E W P D FB M n kp q d cnt k) {i : Nat} {f : Fr} (hi : q.frames[i]? = some (some f)) (j : Nat) (b : UInt8) :
    PS E (W.setCell ⟨f.db, j, none⟩ (.int .u8 (b.toNat : Int))) P D FB M n kp { frames := q.frames.set i (some { f with data := f.data.set j b }), hand := q.hand, pins := q.pins } d cnt k ∧ Kept E W (W.setCell ⟨f.db, j, none⟩ (.int .u8 (b.toNat : Int))) := by
  have hp := h.pd.pool
  have hl := (List.getElem?_eq_some_iff.1 hi).1
  have ho := (Only.refl f.db W).set j (.int .u8 (b.toNat : Int))
  have hfr := hp.each i f hi
  obtain ⟨y, hy, hyl, hyt⟩ := hfr.bytes
  have hcap := hfr.cap
  have hy2 := hy.set j b
  obtain ⟨mf, hf, hm⟩ := hp.map
  have hoff := hp.off i (some f) f.db hi (.inr rfl)
  have hc : cntF (q.frames.set i (some { f with data := f.data.set j b })) = cntF q.frames := by
    have := cntF_set q.frames i (some f) (some { f with data := f.data.set j b }) hi
    simpa using this
  have hown : ∀ b', frB (some { f with data := f.data.set j b }) b' → frB (some f) b' ∨ W.heap.size ≤ b' := fun b' hb => .inl hb
  generalize hw1 : W.setCell ⟨f.db, j, none⟩ (.int .u8 (b.toNat : Int)) = w1 at ho hy2 ⊢
  have hmv := h.pd.moves (q' := { frames := q.frames.set i (some { f with data := f.data.set j b }), hand := q.hand, pins := q.pins }) (W' := w1) ⟨ho.os, ho.tape, ho.output, ho.size, fun c hc hn => ho.block c hc (fun e => hn (e ▸ .inr (.inr (.inr ⟨i, some f, hi, .inr rfl⟩)))), fun c hc => PBlk.setF hi hown hc⟩ (by
    refine hp.setF hi h.pd.dd.tab.lt (hp.box.of_block (ho.block _ hp.box.lt hoff.1.symm)) ?_ ⟨mf, hf.turn hi rfl, by rw [hc]; exact hm.only ho hoff.2.2.symm⟩ (fun a u c ha hu hc2 => ?_) (fun g' hg' => ?_) hown
    · rw [map_set_same q.frames i (some f) (some { f with data := f.data.set j b }) hi rfl]
      exact hp.frs.only ho hoff.2.1.symm
    · have hlt2 := hp.ltF hu hc2
      refine ho.block c hlt2 (fun e => ?_)
      subst e
      exact hp.two i a (some f) u _ (Ne.symm ha) hi hu (.inr rfl) hc2
    · obtain rfl := Option.some.inj hg'
      exact ⟨hfr.box.of_block (ho.block _ (hp.ltF hi (.inl rfl)) hfr.ne), ⟨y.set j b, hy2, by rw [List.length_set]; exact hyl, by rw [← hyt, List.take_set]⟩, by show (f.data.set j b).length = _; rw [List.length_set]; exact hfr.len, hfr.cap, hfr.page, hfr.ne⟩)
  refine ⟨⟨hmv.1, ?_, h.dok, fun a u ha => ?_, h.pins, by show (q.frames.set i _).length = n; rw [List.length_set]; exact h.len⟩, hmv.2⟩
  · have := h.ok.set hi (u := some { f with data := f.data.set j b }) (fun x hx => by rw [← Option.some.inj hx]; exact h.ok.pos i f hi)
    rw [show q.pins - pinO (some f) + pinO (some { f with data := f.data.set j b }) = q.pins by show q.pins - f.pins + f.pins = q.pins; omega] at this
    exact this
  · replace ha : (q.frames.set i (some { f with data := f.data.set j b }))[a]? = some (some u) := ha
    rw [get_set _ _ _ _ hl] at ha
    by_cases e : i = a
    · rw [if_pos e] at ha
      rw [← Option.some.inj (Option.some.inj ha)]
      exact h.held i f hi
    · rw [if_neg e] at ha; exact h.held a u ha
/-- behind Pin, and Take: an error, or a page at hand -/
def Pinned (E : Nat → Prop) (W w' : World) (P D FB M n : Nat) (kp : Int) (k : Nat) (e : Ending) : Prop :=
  (∃ (e0 : Int) (q' : Pl) (d' : Dk) (cnt' : Nat), e = .returned (.tuple #[.pointer none, .int .i64 e0]) ∧ PS E w' P D FB M n kp q' d' cnt' k ∧ Kept E W w') ∨
  (∃ (i : Nat) (f : Fr) (q' : Pl) (d' : Dk) (cnt' : Nat), e = .returned (.tuple #[.pointer (some ⟨f.blk, 0, none⟩), .int .i64 0]) ∧ q'.frames[i]? = some (some f) ∧ 0 < f.pins ∧ PS E w' P D FB M n (kp + 1) q' d' cnt' k ∧ Kept E W w')
end
end Go.Proofs.YthlomlkalbpdgaaDoor
