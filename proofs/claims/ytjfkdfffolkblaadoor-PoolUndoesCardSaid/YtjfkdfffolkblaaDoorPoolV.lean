/-
  The pool: what holds between two calls; Unpin, keep, Edit; a page's bytes turn.
-/
import Derived.Test.YtjfkdfffolkblaaDoorPoolU
import Derived.Test.YtjfkdfffolkblaaDoorPoolC
import Derived.Defers
namespace Go.Proofs.YtjfkdfffolkblaaDoor
open Go.RowKit
open UK (str BytesAt nth Only Row Box IntMap StrMap)
open Go.BigFrame
section
variable {E : Nat → Prop} {W W' : World} {P D FB M cnt k n : Nat} {kp : Int} {q : Pl} {d d' : Dk} {c : Nat → List UInt8}
/-- a pool between two calls, over a disk without faults -/
structure PS (E : Nat → Prop) (W : World) (P D FB M n : Nat) (kp : Int) (q : Pl) (d : Dk) (cnt k : Nat) (c : Nat → List UInt8) : Prop where
  pd : PD E W P D FB M q d cnt
  ok : PlOk q
  dok : Ok d cnt k
  held : ∀ (j : Nat) (g : Fr), q.frames[j]? = some (some g) → hasD d cnt g.page = true
  pins : q.pins = kp
  len : q.frames.length = n
  calm : Calm q d cnt c
  lim : ∀ o, q.op = some o → o.wn ≤ k ∧ o.made.length ≤ k ∧ o.gone.length ≤ k
theorem PS.next (h : PS E W P D FB M n kp q d cnt k c) (hb : Below W.heap.size W W') : PS E W' P D FB M n kp q d cnt k c := ⟨h.pd.next hb, h.ok, h.dok, h.held, h.pins, h.len, h.calm, h.lim⟩
theorem PS.keptB (h : PS E W P D FB M n kp q d cnt k c) (hb : Below W.heap.size W W') : Kept E W W' := Kept.of_below hb (fun j hj => h.pd.dd.there j (.inl hj))
theorem PS.up {m : Nat} (h : PS E W P D FB M n kp q d cnt k c) (hm : k ≤ m) : PS E W P D FB M n kp q d cnt m c :=
  ⟨h.pd, h.ok, ⟨h.dok.fit, h.dok.so, by have := h.dok.puts; omega, by have := h.dok.reads; omega⟩, h.held, h.pins, h.len, h.calm, fun o ho => by have := h.lim o ho; omega⟩
theorem PS.looks (h : PS E W P D FB M n kp q d cnt k c) (x : Nat) : PS E (W.drewN x) P D FB M n kp q d cnt k c ∧ Kept E W (W.drewN x) :=
  have hb : Below W.heap.size W (W.drewN x) := UK.belowN (Below.refl _ _) x
  ⟨h.next hb, h.keptB hb⟩
/-- one frame a page -/
theorem PS.inj (h : PS E W P D FB M n kp q d cnt k c) {i j : Nat} {f g : Fr} (hi : q.frames[i]? = some (some f)) (hj : q.frames[j]? = some (some g)) (e : f.page = g.page) : i = j := by
  obtain ⟨mf, ha, _⟩ := h.pd.pool.map
  exact ha.inj hi hj e
/-- a frame's marks turn -/
theorem PS.flag {i : Nat} {f g : Fr} {w1 : World} (h : PS E W P D FB M n kp q d cnt k c) (hi : q.frames[i]? = some (some f)) (hs : Same f g) (hd : f.dirty = true → g.dirty = true) (hg : 0 ≤ g.pins ∧ g.pins ≤ 1000000) (h1 : PD E w1 P D FB M { frames := q.frames.set i (some g), hand := q.hand, pins := q.pins - f.pins + g.pins, op := q.op } d cnt) :
    PS E w1 P D FB M n (kp - f.pins + g.pins) { frames := q.frames.set i (some g), hand := q.hand, pins := q.pins - f.pins + g.pins, op := q.op } d cnt k c := by
  have hl := (List.getElem?_eq_some_iff.1 hi).1
  refine ⟨h1, h.ok.set hi (u := some g) (fun x hx => by rw [← Option.some.inj hx]; exact hg), h.dok, fun j u hj => ?_, by rw [← h.pins], by show (q.frames.set i _).length = n; rw [List.length_set]; exact h.len, h.calm.turn hi hs.page hs.data hd _ _ _, h.lim⟩
  replace hj : (q.frames.set i (some g))[j]? = some (some u) := hj
  rw [get_set _ _ _ _ hl] at hj
  by_cases e : i = j
  · rw [if_pos e] at hj
    rw [← Option.some.inj (Option.some.inj hj), hs.page]
    exact h.held i f hi
  · rw [if_neg e] at hj; exact h.held j u hj
theorem unpin_any (h : PS E W P D FB M n kp q d cnt k c) {i : Nat} {f : Fr} (hi : q.frames[i]? = some (some f)) (hp : 0 < f.pins) (hkp : 0 < kp ∧ kp ≤ 1000000) :
    Calls Tryd.prog 44 #[.pointer (some ⟨f.blk, 0, none⟩)] W fun e w' => e = .returned (.tuple #[]) ∧ PS E w' P D FB M n (kp - 1) { frames := q.frames.set i (some { f with pins := f.pins - 1 }), hand := q.hand, pins := q.pins - 1, op := q.op } d cnt k c ∧ Kept E W w' := by
  have hfr := h.pd.pool.each i f hi
  have hpos := h.ok.pos i f hi
  have c0 : W.cell? ⟨f.blk, 0, none⟩ = some (.pointer (some ⟨P, 0, none⟩)) := hfr.box.cell 0 _ rfl
  have c3 : W.cell? ⟨f.blk, 3, none⟩ = some (.int .i64 f.pins) := hfr.box.cell 3 _ rfl
  have f3 := hfr.box.free 3
  have h1 := h.pd.flag (g := { f with pins := f.pins - 1 }) hi ⟨rfl, rfl, rfl, rfl, rfl⟩ ((Only.refl f.blk W).set 3 (.int .i64 (f.pins - 1))) (hfr.box.set 3 (.int .i64 (f.pins - 1)))
  have hb1 := h1.1.pool.box
  have hlen : (q.frames.set i (some { f with pins := f.pins - 1 })).length = q.frames.length := List.length_set
  simp only at hb1
  have c4 : (W.setCell ⟨f.blk, 3, none⟩ (.int .i64 (f.pins - 1))).cell? ⟨P, 4, none⟩ = some (.int .i64 q.pins) := hb1.cell 4 _ rfl
  have f4 := hb1.free 4
  have h2 := h1.1.own ((Only.refl P _).set 4 (.int .i64 (q.pins - 1))) (hand := q.hand) (pins := q.pins - 1) (hb1.set 4 (.int .i64 (q.pins - 1)))
  have h3 := h.flag (g := { f with pins := f.pins - 1 }) hi ⟨rfl, rfl, rfl, rfl, rfl⟩ (fun hh => hh) (by show 0 ≤ f.pins - 1 ∧ f.pins - 1 ≤ 1000000; omega) (w1 := (W.setCell ⟨f.blk, 3, none⟩ (.int .i64 (f.pins - 1))).setCell ⟨P, 4, none⟩ (.int .i64 (q.pins - 1))) (by
    rw [show q.pins - f.pins + ({ f with pins := f.pins - 1 } : Fr).pins = q.pins - 1 by show q.pins - f.pins + (f.pins - 1) = _; omega]
    exact h2.1)
  rw [show kp - f.pins + ({ f with pins := f.pins - 1 } : Fr).pins = kp - 1 by show kp - f.pins + (f.pins - 1) = _; omega, show q.pins - f.pins + ({ f with pins := f.pins - 1 } : Fr).pins = q.pins - 1 by show q.pins - f.pins + (f.pins - 1) = _; omega] at h3
  have HF := Lib.hid (And.intro h3 (h1.2.trans h2.2))
  have hqp : 0 < q.pins := by rw [h.pins]; exact hkp.1
  have hqp2 : q.pins ≤ 1000000 := by rw [h.pins]; exact hkp.2
  have hne : f.blk ≠ P := (h.pd.pool.off i (some f) f.blk hi (.inl rfl)).1
  clear h1 h2 h3 hb1 hfr hlen
  go_enter Tryd.func44, Tryd.ntmps44
  go_wp2
  go_end0
  exact ⟨rfl, HF.out.1, HF.out.2⟩
/-- likewise, where the call is deferred -/
theorem unpin_any_d (u : FrameMode) (h : PS E W P D FB M n kp q d cnt k c) {i : Nat} {f : Fr} (hi : q.frames[i]? = some (some f)) (hp : 0 < f.pins) (hkp : 0 < kp ∧ kp ≤ 1000000) :
    CallsD Tryd.prog 44 #[.pointer (some ⟨f.blk, 0, none⟩)] u W fun e u' w' => u' = u ∧ (e = .returned (.tuple #[]) ∧ PS E w' P D FB M n (kp - 1) { frames := q.frames.set i (some { f with pins := f.pins - 1 }), hand := q.hand, pins := q.pins - 1, op := q.op } d cnt k c ∧ Kept E W w') := by
  have hfr := h.pd.pool.each i f hi
  have hpos := h.ok.pos i f hi
  have c0 : W.cell? ⟨f.blk, 0, none⟩ = some (.pointer (some ⟨P, 0, none⟩)) := hfr.box.cell 0 _ rfl
  have c3 : W.cell? ⟨f.blk, 3, none⟩ = some (.int .i64 f.pins) := hfr.box.cell 3 _ rfl
  have f3 := hfr.box.free 3
  have h1 := h.pd.flag (g := { f with pins := f.pins - 1 }) hi ⟨rfl, rfl, rfl, rfl, rfl⟩ ((Only.refl f.blk W).set 3 (.int .i64 (f.pins - 1))) (hfr.box.set 3 (.int .i64 (f.pins - 1)))
  have hb1 := h1.1.pool.box
  have hlen : (q.frames.set i (some { f with pins := f.pins - 1 })).length = q.frames.length := List.length_set
  simp only at hb1
  have c4 : (W.setCell ⟨f.blk, 3, none⟩ (.int .i64 (f.pins - 1))).cell? ⟨P, 4, none⟩ = some (.int .i64 q.pins) := hb1.cell 4 _ rfl
  have f4 := hb1.free 4
  have h2 := h1.1.own ((Only.refl P _).set 4 (.int .i64 (q.pins - 1))) (hand := q.hand) (pins := q.pins - 1) (hb1.set 4 (.int .i64 (q.pins - 1)))
  have h3 := h.flag (g := { f with pins := f.pins - 1 }) hi ⟨rfl, rfl, rfl, rfl, rfl⟩ (fun hh => hh) (by show 0 ≤ f.pins - 1 ∧ f.pins - 1 ≤ 1000000; omega) (w1 := (W.setCell ⟨f.blk, 3, none⟩ (.int .i64 (f.pins - 1))).setCell ⟨P, 4, none⟩ (.int .i64 (q.pins - 1))) (by
    rw [show q.pins - f.pins + ({ f with pins := f.pins - 1 } : Fr).pins = q.pins - 1 by show q.pins - f.pins + (f.pins - 1) = _; omega]
    exact h2.1)
  rw [show kp - f.pins + ({ f with pins := f.pins - 1 } : Fr).pins = kp - 1 by show kp - f.pins + (f.pins - 1) = _; omega, show q.pins - f.pins + ({ f with pins := f.pins - 1 } : Fr).pins = q.pins - 1 by show q.pins - f.pins + (f.pins - 1) = _; omega] at h3
  have HF := Lib.hid (And.intro h3 (h1.2.trans h2.2))
  have hqp : 0 < q.pins := by rw [h.pins]; exact hkp.1
  have hqp2 : q.pins ≤ 1000000 := by rw [h.pins]; exact hkp.2
  have hne : f.blk ≠ P := (h.pd.pool.off i (some f) f.blk hi (.inl rfl)).1
  clear h1 h2 h3 hb1 hfr hlen
  go_enter_d Tryd.func44, Tryd.ntmps44
  go_wp2
  go_end0
  exact ⟨rfl, HF.out.1, HF.out.2⟩
/-- what is under way turns -/
theorem PD.setOp (h : PD E W P D FB M q d cnt) {op' : Option Opn} (hos : W'.os = W.os) (htape : W'.tape = W.tape) (hout : W'.output = W.output) (hsz : W.heap.size ≤ W'.heap.size) (hb : Box W' P (pcells D FB q.frames.length M q.hand q.pins op')) (hop : OpAt W' op') (hown : ∀ j, opB op' j → opB q.op j ∨ W.heap.size ≤ j)
    (hk : ∀ j, j < W.heap.size → j ≠ P → ¬ opB q.op j → W'.heap[j]? = W.heap[j]?) : PD E W' P D FB M { frames := q.frames, hand := q.hand, pins := q.pins, op := op' } d cnt ∧ Kept E W W' := by
  have hp := h.pool
  obtain ⟨f, hf, hm⟩ := hp.map
  have hPl := hp.box.lt
  have hFl := hp.frs.lt
  have hMl : M < W.heap.size := hp.lt (.inr (.inr (.inl rfl)))
  have hno : ∀ j, opB q.op j → j ≠ P ∧ j ≠ FB ∧ j ≠ M := hp.opOff
  have hkF : ∀ (i : Nat) (o : Option Fr) (j : Nat), q.frames[i]? = some o → frB o j → W'.heap[j]? = W.heap[j]? := fun i o j hi ho => hk j (hp.ltF hi ho) (hp.off i o j hi ho).1 (hp.opTwo i o j hi ho)
  refine h.moves (q' := { frames := q.frames, hand := q.hand, pins := q.pins, op := op' }) ⟨hos, htape, hout, hsz, fun j hj hn => hk j hj (fun e => hn (.inl e)) (fun e => hn (.inr (.inr (.inr (.inl e))))), fun j hj => ?_⟩ ⟨hb, hp.frs.of_block hsz (hk FB hFl hp.PF.symm (fun e => (hno FB e).2.1 rfl)), ⟨f, hf, hm.of_block (hk M hMl hp.PM.symm (fun e => (hno M e).2.2 rfl))⟩, fun i g hi => (hp.each i g hi).of_block (hkF i _ _ hi (.inl rfl)) (hkF i _ _ hi (.inr rfl)), hp.PF, hp.PM, hp.FM, hp.off, hp.two, hop, fun j hj => ?_, fun i o j hi ho hj => ?_, fun j hj => ?_⟩
  · rcases hj with hj | hj | hj | hj | hj
    · exact .inl (.inl hj)
    · exact .inl (.inr (.inl hj))
    · exact .inl (.inr (.inr (.inl hj)))
    · rcases hown j hj with h1 | h1
      · exact .inl (.inr (.inr (.inr (.inl h1))))
      · exact .inr h1
    · exact .inl (.inr (.inr (.inr (.inr hj))))
  · rcases hown j hj with h1 | h1
    · exact hno j h1
    · exact ⟨by omega, by omega, by omega⟩
  · rcases hown j hj with h1 | h1
    · exact hp.opTwo i o j hi ho h1
    · have := hp.ltF hi ho; omega
  · rcases hj with hj | hj | hj | hj | hj
    · exact hp.tab j (.inl hj)
    · exact hp.tab j (.inr (.inl hj))
    · exact hp.tab j (.inr (.inr (.inl hj)))
    · rcases hown j hj with h1 | h1
      · exact hp.tab j (.inr (.inr (.inr (.inl h1))))
      · have := h.dd.tab.lt; omega
    · exact hp.tab j (.inr (.inr (.inr (.inr hj))))
/-- likewise, between two calls -/
theorem PS.op {op' : Option Opn} (h : PS E W P D FB M n kp q d cnt k c) (hl : ∀ o, op' = some o → o.wn ≤ k ∧ o.made.length ≤ k ∧ o.gone.length ≤ k) (hp : PD E W' P D FB M { frames := q.frames, hand := q.hand, pins := q.pins, op := op' } d cnt) : PS E W' P D FB M n kp { frames := q.frames, hand := q.hand, pins := q.pins, op := op' } d cnt k c :=
  ⟨hp, ⟨h.ok.pins, h.ok.pos, h.ok.hand, h.ok.few⟩, h.dok, h.held, h.pins, h.len, h.calm.same _ _ _, hl⟩
/-- what is kept of a page that is to be changed -/
def keepO (o : Option Opn) (p : Int) (s : List UInt8) : Option Opn := match o with
  | none => none
  | some o => if p ∈ o.made ∨ (o.was p).isSome = true then some o else some { o with was := fun j => if j = p then some s else o.was j, wn := o.wn + 1 }
theorem keepO_blk (o : Option Opn) (p : Int) (s : List UInt8) (j : Nat) : opB (keepO o p s) j ↔ opB o j := by
  unfold keepO
  cases o with
  | none => exact Iff.rfl
  | some o =>
    show opB (if _ then _ else _) j ↔ _
    split <;> exact Iff.rfl
/-- is there yet room for what pages were? -/
def KeepFew (o : Option Opn) : Prop := ∀ x, o = some x → x.wn < 1000000000
theorem keepO_lim {o : Option Opn} {p : Int} {s : List UInt8} (h : ∀ x, o = some x → x.wn ≤ k ∧ x.made.length ≤ k ∧ x.gone.length ≤ k) : ∀ x, keepO o p s = some x → x.wn ≤ k + 1 ∧ x.made.length ≤ k + 1 ∧ x.gone.length ≤ k + 1 := fun x hx => by
  unfold keepO at hx
  cases o with
  | none => cases hx
  | some o =>
    have h1 := h o rfl
    replace hx : (if p ∈ o.made ∨ (o.was p).isSome = true then some o else some { o with was := fun j => if j = p then some s else o.was j, wn := o.wn + 1 }) = some x := hx
    split at hx
    · rw [← Option.some.inj hx]; omega
    · rw [← Option.some.inj hx]
      show o.wn + 1 ≤ _ ∧ o.made.length ≤ _ ∧ o.gone.length ≤ _
      omega
set_option maxRecDepth 100000 in
theorem keep_any (h : PD E W P D FB M q d cnt) {i : Nat} {f : Fr} (hi : q.frames[i]? = some (some f)) (hw : KeepFew q.op) :
    Calls Tryd.prog 89 #[.pointer (some ⟨P, 0, none⟩), .pointer (some ⟨f.blk, 0, none⟩)] W fun e w' => e = .returned (.tuple #[]) ∧ PD E w' P D FB M { frames := q.frames, hand := q.hand, pins := q.pins, op := keepO q.op f.page f.data } d cnt ∧ Kept E W w' := by
  have hdraw : ∀ x, PD E (W.drewN x) P D FB M q d cnt ∧ Kept E W (W.drewN x) := fun x =>
    have hb : Below W.heap.size W (W.drewN x) := UK.belowN (Below.refl _ _) x
    ⟨h.next hb, Kept.of_below hb (fun j hj => h.dd.there j (.inl hj))⟩
  have c5 : W.cell? ⟨P, 5, none⟩ = some (vOpen q.op) := h.pool.box.cell 5 _ rfl
  have c6 : W.cell? ⟨P, 6, none⟩ = some (vWas q.op) := h.pool.box.cell 6 _ rfl
  have c7 : W.cell? ⟨P, 7, none⟩ = some (vMade q.op) := h.pool.box.cell 7 _ rfl
  have hfr := h.pool.each i f hi
  have b1 : W.cell? ⟨f.blk, 1, none⟩ = some (.int .i64 f.page) := hfr.box.cell 1 _ rfl
  have b2 : W.cell? ⟨f.blk, 2, none⟩ = some (.slice (some ⟨f.db, 0, none⟩) 504 f.cap) := hfr.box.cell 2 _ rfl
  cases hq : q.op with
  | none =>
    rw [hq] at c5
    simp only [vOpen, Option.isSome_none] at c5
    go_enter Tryd.func89, Tryd.ntmps89
    go_wp2
    go_quiet (fail)
    go_wp2
    refine bodyPost_ret (results_none rfl _ _ _) rfl ?_
    refine ⟨rfl, ?_, (hdraw _).2⟩
    have h2 := (hdraw nq).1
    rw [show q = { frames := q.frames, hand := q.hand, pins := q.pins, op := none } by rw [← hq]] at h2
    exact h2
  | some o =>
    have ho := h.pool.op o hq
    have hwn := hw o hq
    rw [hq] at c5 c6 c7
    simp only [vOpen, vWas, vMade, Option.isSome_some] at c5 c6 c7
    have HD := Lib.hid hdraw
    have hcn := fun x => contains_any (ho.made.of_block (W' := W.drewN x) (Nat.le_refl _) (fun _ _ => rfl)) ho.few.2.1 f.page
    clear hdraw
    by_cases hm : f.page ∈ o.made
    · have HK : Hid (keepO (some o) f.page f.data = some o) := by show _ = _; unfold keepO; show (if _ then _ else _) = _; rw [if_pos (.inl hm)]
      rw [decide_eq_true hm] at hcn
      clear hm
      go_enter Tryd.func89, Tryd.ntmps89
      go_wp2
      go_quiet (first | (go_at_call 107; exact Calls.quiet_of_same (hcn _)))
      go_wp2
      refine bodyPost_ret (results_none rfl _ _ _) rfl ?_
      refine ⟨rfl, ?_, (HD.out _).2⟩
      have h2 := (HD.out nq).1
      rw [HK.out]
      rw [show q = { frames := q.frames, hand := q.hand, pins := q.pins, op := some o } by rw [← hq]] at h2
      exact h2
    · rw [decide_eq_false hm] at hcn
      go_enter Tryd.func89, Tryd.ntmps89
      go_wp2
      go_quiet (first | (go_at_call 107; exact Calls.quiet_of_same (hcn _)))
      obtain ⟨p1, k1⟩ := HD.out nq
      generalize W.drewN nq = w1 at p1 k1 ⊢
      have ho := p1.pool.op o hq
      have c6 : w1.cell? ⟨P, 6, none⟩ = some (vWas q.op) := p1.pool.box.cell 6 _ rfl
      rw [hq] at c6
      simp only [vWas] at c6
      have hfr := p1.pool.each i f hi
      have b1 : w1.cell? ⟨f.blk, 1, none⟩ = some (.int .i64 f.page) := hfr.box.cell 1 _ rfl
      have b2 : w1.cell? ⟨f.blk, 2, none⟩ = some (.slice (some ⟨f.db, 0, none⟩) 504 f.cap) := hfr.box.cell 2 _ rfl
      have hlk := fun x => (ho.was.of_block (W' := w1.drewN x) rfl).get (t := 94) Tryd.underlying3 Tryd.underlying9 Tryd.underlying94 (fun w => by kernel_rfl) f.page hfr.page
      have hd1 : ∀ x, PD E (w1.drewN x) P D FB M q d cnt ∧ Kept E W (w1.drewN x) := fun x =>
        have hb : Below w1.heap.size w1 (w1.drewN x) := UK.belowN (Below.refl _ _) x
        ⟨p1.next hb, k1.trans (Kept.of_below hb (fun j hj => p1.dd.there j (.inl hj)))⟩
      have KH := Lib.hid (And.intro hd1 (And.intro hq hm))
      clear hcn HD h hm c7 c5 hd1
      cases hw0 : o.was f.page with
      | some s =>
        rw [hw0] at hlk
        have hlk2 : ∀ x, (Instr.lookup 94 (.map (some o.wb)) (.int .i64 f.page) true).run Tryd.prog (w1.drewN x) = .ok (.tuple #[.string (UK.str s), .bool true]) (w1.drewN x) := hlk
        have HW0 := Lib.hid hw0
        clear hlk hw0 ho hfr p1 hq
        go_wp2
        go_quiet (fail)
        go_wp2
        go_end0
        obtain ⟨hd, hq, hm⟩ := KH.out
        refine ⟨rfl, ?_, (hd _).2⟩
        have e : keepO (some o) f.page f.data = some o := by
          show (if _ then _ else _) = _
          rw [if_pos (.inr (by rw [HW0.out]; rfl))]
        rw [e]
        have p1 := (hd nq).1
        rw [show q = { frames := q.frames, hand := q.hand, pins := q.pins, op := some o } by rw [← hq]] at p1
        exact p1
      | none =>
        rw [hw0] at hlk
        have hlk2 : ∀ x, (Instr.lookup 94 (.map (some o.wb)) (.int .i64 f.page) true).run Tryd.prog (w1.drewN x) = .ok (.tuple #[.string (UK.str []), .bool false]) (w1.drewN x) := hlk
        have HW0 := Lib.hid hw0
        clear hlk hw0 ho hfr p1 hq
        go_wp2
        go_quiet (fail)
        obtain ⟨hd, hq, hm⟩ := KH.out
        obtain ⟨p1, k1⟩ := hd nq
        generalize w1.drewN nq = w2 at p1 k1 ⊢
        clear hd hlk2 b1 b2 c6 KH
        have c6 : w2.cell? ⟨P, 6, none⟩ = some (vWas q.op) := p1.pool.box.cell 6 _ rfl
        rw [hq] at c6
        simp only [vWas] at c6
        have hfr := p1.pool.each i f hi
        have b1 : w2.cell? ⟨f.blk, 1, none⟩ = some (.int .i64 f.page) := hfr.box.cell 1 _ rfl
        have b2 : w2.cell? ⟨f.blk, 2, none⟩ = some (.slice (some ⟨f.db, 0, none⟩) 504 f.cap) := hfr.box.cell 2 _ rfl
        have ho := p1.pool.op o hq
        obtain ⟨y, hy, hyl, hyt⟩ := hfr.bytes
        have hcap := hfr.cap
        have hcv := UK.run_window (P := Tryd.prog) (src := 77) (dst := 9) Tryd.underlying77 Tryd.underlying5 Tryd.underlying9 hy.drew 0 504 f.cap (by omega)
        rw [List.drop_zero, hyt] at hcv
        obtain ⟨w3, hput, hm3, o3⟩ := (ho.was.of_block (W' := w2.drew) rfl).put (t := 94) Tryd.underlying3 Tryd.underlying9 Tryd.underlying94 (by unfold maxLen; omega) f.page f.data hfr.page (by rw [hfr.len]; decide)
        rw [HW0.out] at hm3
        have KF : Hid (PD E w3 P D FB M { frames := q.frames, hand := q.hand, pins := q.pins, op := keepO (some o) f.page f.data } d cnt ∧ Kept E W w3) := by
          show _ ∧ _
          have o4 : Only o.wb w2 w3 := (Only.refl o.wb w2).drew.trans o3
          have e : keepO (some o) f.page f.data = some { o with was := fun j => if j = f.page then some f.data else o.was j, wn := o.wn + 1 } := by
            show (if _ then _ else _) = _
            rw [if_neg (by rw [HW0.out]; rintro (a | a); exact hm a; cases a)]
          have hwb : opB q.op o.wb := by rw [hq]; exact .inl rfl
          have hPw : P ≠ o.wb := ((p1.pool.opOff _ hwb).1).symm
          rw [e]
          have h2 := p1.setOp (W' := w3) (op' := some { o with was := fun j => if j = f.page then some f.data else o.was j, wn := o.wn + 1 }) o4.os o4.tape o4.output o4.size (by
            have hb := p1.pool.box.only o4 hPw
            rw [hq] at hb; exact hb) (fun x hx => by
            obtain rfl := Option.some.inj hx
            refine ⟨?_, ho.made.of_block o4.size (fun j hj => o4.block j (ho.made.lt hj) (fun e => ho.wm (e ▸ hj))), ho.gone.of_block o4.size (fun j hj => o4.block j (ho.gone.lt hj) (fun e => ho.wg (e ▸ hj))), ho.wm, ho.wg, ho.mg, ho.madeW, ho.goneW, ⟨by show o.wn + 1 ≤ _; omega, ho.few.2⟩⟩
            exact hm3.tight) (fun j hj => .inl (by rw [hq]; exact hj)) (fun j hj _ hjo => o4.block j hj (fun e => hjo (e ▸ hwb)))
          exact ⟨h2.1, k1.trans h2.2⟩
        clear hm3 o3 ho hy hyl hyt hcap hm p1 hfr k1
        go_wp2
        go_region
        go_end0
        exact ⟨rfl, KF.out.1, KF.out.2⟩
/-- a frame's own bytes, to be changed -/
theorem edit_any (h : PS E W P D FB M n kp q d cnt k c) {i : Nat} {f : Fr} (hi : q.frames[i]? = some (some f)) (hk : k < 900000000) :
    Calls Tryd.prog 41 #[.pointer (some ⟨f.blk, 0, none⟩)] W fun e w' => e = .returned (.slice (some ⟨f.db, 0, none⟩) 504 f.cap) ∧ PS E w' P D FB M n kp { frames := q.frames.set i (some { f with dirty := true }), hand := q.hand, pins := q.pins, op := keepO q.op f.page f.data } d cnt (k + 1) c ∧ Kept E W w' := by
  have hfr := h.pd.pool.each i f hi
  have hpos := h.ok.pos i f hi
  have c0 : W.cell? ⟨f.blk, 0, none⟩ = some (.pointer (some ⟨P, 0, none⟩)) := hfr.box.cell 0 _ rfl
  have hkeep := keep_any h.pd hi (fun x hx => by have := h.lim x hx; omega)
  have hlim := keepO_lim (p := f.page) (s := f.data) h.lim
  generalize keepO q.op f.page f.data = op' at hkeep hlim ⊢
  have hst : ∀ w1, PD E w1 P D FB M { frames := q.frames, hand := q.hand, pins := q.pins, op := op' } d cnt → PS E (w1.setCell ⟨f.blk, 5, none⟩ (.bool true)) P D FB M n kp { frames := q.frames.set i (some { f with dirty := true }), hand := q.hand, pins := q.pins, op := op' } d cnt (k + 1) c ∧ Kept E w1 (w1.setCell ⟨f.blk, 5, none⟩ (.bool true)) ∧ w1.cell? ⟨f.blk, 5, none⟩ = some (.bool f.dirty) ∧ w1.frozen? ⟨f.blk, 5, none⟩ = false ∧ (w1.setCell ⟨f.blk, 5, none⟩ (.bool true)).cell? ⟨f.blk, 2, none⟩ = some (.slice (some ⟨f.db, 0, none⟩) 504 f.cap) := fun w1 p1 => by
    have hx := (h.up (Nat.le_succ k)).op hlim p1
    have hbx := (hx.pd.pool.each i f hi).box
    have h1 := hx.pd.flag (g := { f with dirty := true }) hi ⟨rfl, rfl, rfl, rfl, rfl⟩ ((Only.refl f.blk _).set 5 (.bool true)) (hbx.set 5 (.bool true))
    have h3 := hx.flag (g := { f with dirty := true }) hi ⟨rfl, rfl, rfl, rfl, rfl⟩ (fun _ => rfl) hpos (by
      show PD E _ P D FB M { frames := q.frames.set i (some { f with dirty := true }), hand := q.hand, pins := q.pins - f.pins + f.pins, op := op' } d cnt
      rw [show q.pins - f.pins + f.pins = q.pins by omega]
      exact h1.1)
    replace h3 : PS E (w1.setCell ⟨f.blk, 5, none⟩ (.bool true)) P D FB M n (kp - f.pins + f.pins) { frames := q.frames.set i (some { f with dirty := true }), hand := q.hand, pins := q.pins - f.pins + f.pins, op := op' } d cnt (k + 1) c := h3
    rw [show q.pins - f.pins + f.pins = q.pins by omega, show kp - f.pins + f.pins = kp by omega] at h3
    exact ⟨h3, h1.2, hbx.cell 5 _ rfl, hbx.free 5, (hbx.set 5 (.bool true)).cell 2 _ rfl⟩
  have HST := Lib.hid hst
  clear hst hfr hpos
  go_enter Tryd.func41, Tryd.ntmps41
  go_wp2_with fail
  refine hkeep.mono ?_
  rintro e w1 ⟨rfl, p1, k1⟩
  obtain ⟨s1, k2, c5, f5, c2⟩ := HST.out w1 p1
  have HS := Lib.hid s1
  have HK := Lib.hid (k1.trans k2)
  clear HST hkeep p1 s1 k1 k2 c0
  go_wp2
  go_ret
  exact ⟨rfl, HS.out, HK.out⟩
/-- a changed page's bytes turn -/
theorem PS.bytes (h : PS E W P D FB M n kp q d cnt k c) {i : Nat} {f : Fr} (hi : q.frames[i]? = some (some f)) (hd : f.dirty = true) (ho : Only f.db W W') {y : List UInt8} (hy : BytesAt W' f.db y) (hyl : y.length = f.cap) :
    PS E W' P D FB M n kp { frames := q.frames.set i (some { f with data := y.take 504 }), hand := q.hand, pins := q.pins, op := q.op } d cnt k (setC c f.page.toNat (y.take 504)) ∧ Kept E W W' := by
  have hp := h.pd.pool
  have hl := (List.getElem?_eq_some_iff.1 hi).1
  have hfr := hp.each i f hi
  have hcap := hfr.cap
  obtain ⟨mf, hf, hm⟩ := hp.map
  have hoff := hp.off i (some f) f.db hi (.inr rfl)
  have hc : cntF (q.frames.set i (some { f with data := y.take 504 })) = cntF q.frames := by
    have := cntF_set q.frames i (some f) (some { f with data := y.take 504 }) hi
    simpa using this
  have hown : ∀ b', frB (some { f with data := y.take 504 }) b' → frB (some f) b' ∨ W.heap.size ≤ b' := fun b' hb => .inl hb
  have hmv := h.pd.moves (q' := { frames := q.frames.set i (some { f with data := y.take 504 }), hand := q.hand, pins := q.pins, op := q.op }) (W' := W') ⟨ho.os, ho.tape, ho.output, ho.size, fun c hc hn => ho.block c hc (fun e => hn (e ▸ .inr (.inr (.inr (.inr ⟨i, some f, hi, .inr rfl⟩))))), fun c hc => PBlk.setF hi hown hc⟩ (by
    refine hp.setF hi h.pd.dd.tab.lt (hp.box.of_block (ho.block _ hp.box.lt hoff.1.symm)) ho.size (fun b hb => ho.block b (hp.op.lt hb) (fun e => hp.opTwo i (some f) _ hi (.inr rfl) (e ▸ hb))) ?_ ⟨mf, hf.turn hi rfl, by rw [hc]; exact hm.only ho hoff.2.2.symm⟩ (fun a u c ha hu hc2 => ?_) (fun g' hg' => ?_) hown
    · rw [map_set_same q.frames i (some f) (some { f with data := y.take 504 }) hi rfl]
      exact hp.frs.only ho hoff.2.1.symm
    · have hlt2 := hp.ltF hu hc2
      refine ho.block c hlt2 (fun e => ?_)
      subst e
      exact hp.two i a (some f) u _ (Ne.symm ha) hi hu (.inr rfl) hc2
    · obtain rfl := Option.some.inj hg'
      exact ⟨hfr.box.of_block (ho.block _ (hp.ltF hi (.inl rfl)) hfr.ne), ⟨y, hy, hyl, rfl⟩, by show (y.take 504).length = _; rw [List.length_take]; omega, hfr.cap, hfr.page, hfr.ne⟩)
  refine ⟨⟨hmv.1, ?_, h.dok, fun a u ha => ?_, h.pins, by show (q.frames.set i _).length = n; rw [List.length_set]; exact h.len, h.calm.edit hi hd h.held (fun j g hj e => h.inj hi hj e.symm) (y.take 504) _ _ _, h.lim⟩, hmv.2⟩
  · have := h.ok.set hi (u := some { f with data := y.take 504 }) (fun x hx => by rw [← Option.some.inj hx]; exact h.ok.pos i f hi)
    rw [show q.pins - pinO (some f) + pinO (some { f with data := y.take 504 }) = q.pins by show q.pins - f.pins + f.pins = q.pins; omega] at this
    exact this
  · replace ha : (q.frames.set i (some { f with data := y.take 504 }))[a]? = some (some u) := ha
    rw [get_set _ _ _ _ hl] at ha
    by_cases e : i = a
    · rw [if_pos e] at ha
      rw [← Option.some.inj (Option.some.inj ha)]
      exact h.held i f hi
    · rw [if_neg e] at ha; exact h.held a u ha
end
end Go.Proofs.YtjfkdfffolkblaaDoor
