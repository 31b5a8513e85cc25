/-
  The pool: what holds between two calls; Unpin, keep, Edit; a page's bytes turn.
  The pool: an empty frame is found; Pin.
-/
import Derived.Test.YtfljlcfmdcepnaaGreatDoorJPoolU
import Derived.Test.YtfljlcfmdcepnaaGreatDoorJPoolC
import Derived.Defers
namespace Go.Proofs.YtfljlcfmdcepnaaGreatDoor
open Go.RowKit
open UK (str BytesAt nth Only Row Box IntMap StrMap)
open Go.BigFrame
section
variable {E : Nat → Prop} {W W' : World} {P D FB M cnt k n : Nat} {kp : Int} {q : Pl} {d d' : Dk} {c : Nat → List UInt8}
structure PS (E : Nat → Prop) (W : World) (P D FB M n : Nat) (kp : Int) (q : Pl) (d : Dk) (cnt k : Nat) (c : Nat → List UInt8) : Prop where
  pd : PD E W P D FB M q d cnt
  ok : PlOk q
  dok : Ok d cnt k
  held : ∀ (j : Nat) (g : Fr), q.frames[j]? = some (some g) → hasD d cnt g.page = true
  pins : q.pins = kp
  len : q.frames.length = n
  calm : Calm q d cnt c
  lim : ∀ o, q.op = some o → o.wn ≤ k ∧ o.made.length ≤ k ∧ o.gone.length ≤ k
theorem PS.next (h : PS E W P D FB M n kp q d cnt k c) (hb : Below W.heap.size W W') : PS E W' P D FB M n kp q d cnt k c := ⟨h.pd.next hb, h.ok, h.dok, h.held, h.pins, h.len, h.calm, h.lim⟩
theorem PS.keptB (h : PS E W P D FB M n kp q d cnt k c) (hb : Below W.heap.size W W') : Kept E W W' := Kept.of_below hb (fun j hj => h.pd.dd.there j (.inl hj))
theorem PS.up {m : Nat} (h : PS E W P D FB M n kp q d cnt k c) (hm : k ≤ m) : PS E W P D FB M n kp q d cnt m c :=
  ⟨h.pd, h.ok, ⟨h.dok.fit, h.dok.so, by have := h.dok.puts; omega, by have := h.dok.reads; omega⟩, h.held, h.pins, h.len, h.calm, fun o ho => by have := h.lim o ho; omega⟩
theorem PS.looks (h : PS E W P D FB M n kp q d cnt k c) (x : Nat) : PS E (W.drewN x) P D FB M n kp q d cnt k c ∧ Kept E W (W.drewN x) :=
  have hb : Below W.heap.size W (W.drewN x) := UK.belowN (Below.refl _ _) x
  ⟨h.next hb, h.keptB hb⟩
theorem PS.inj (h : PS E W P D FB M n kp q d cnt k c) {i j : Nat} {f g : Fr} (hi : q.frames[i]? = some (some f)) (hj : q.frames[j]? = some (some g)) (e : f.page = g.page) : i = j := by
  obtain ⟨mf, ha, _⟩ := h.pd.pool.map
  exact ha.inj hi hj e
theorem PS.flag {i : Nat} {f g : Fr} {w1 : World} (h : PS E W P D FB M n kp q d cnt k c) (hi : q.frames[i]? = some (some f)) (hs : Same f g) (hd : f.dirty = true → g.dirty = true) (hg : 0 ≤ g.pins ∧ g.pins ≤ 1000000) (h1 : PD E w1 P D FB M { frames := q.frames.set i (some g), hand := q.hand, pins := q.pins - f.pins + g.pins, op := q.op } d cnt) :
    PS E w1 P D FB M n (kp - f.pins + g.pins) { frames := q.frames.set i (some g), hand := q.hand, pins := q.pins - f.pins + g.pins, op := q.op } d cnt k c := by
  have hl := (List.getElem?_eq_some_iff.1 hi).1
  refine ⟨h1, h.ok.set hi (u := some g) (fun x hx => by rw [← Option.some.inj hx]; exact hg), h.dok, fun j u hj => ?_, by rw [← h.pins], by show (q.frames.set i _).length = n; rw [List.length_set]; exact h.len, h.calm.turn hi hs.page hs.data hd _ _ _, h.lim⟩
  replace hj : (q.frames.set i (some g))[j]? = some (some u) := hj
  rw [get_set _ _ _ _ hl] at hj
  by_cases e : i = j
  · rw [if_pos e] at hj
    rw [← Option.some.inj (Option.some.inj hj), hs.page]
    exact h.held i f hi
  · rw [if_neg e] at hj; exact h.held j u hj
theorem unpin_any_d (u : FrameMode) (h : PS E W P D FB M n kp q d cnt k c) {i : Nat} {f : Fr} (hi : q.frames[i]? = some (some f)) (hp : 0 < f.pins) (hkp : 0 < kp ∧ kp ≤ 1000000) :
    CallsD Tryz.prog 69 #[.pointer (some ⟨f.blk, 0, none⟩)] u W fun e u' w' => u' = u ∧ (e = .returned (.tuple #[]) ∧ PS E w' P D FB M n (kp - 1) { frames := q.frames.set i (some { f with pins := f.pins - 1 }), hand := q.hand, pins := q.pins - 1, op := q.op } d cnt k c ∧ Kept E W w') := by
  have hfr := h.pd.pool.each i f hi
  have hpos := h.ok.pos i f hi
  have c0 : W.cell? ⟨f.blk, 0, none⟩ = some (.pointer (some ⟨P, 0, none⟩)) := hfr.box.cell 0 _ rfl
  have c3 : W.cell? ⟨f.blk, 3, none⟩ = some (.int .i64 f.pins) := hfr.box.cell 3 _ rfl
  have f3 := hfr.box.free 3
  have h1 := h.pd.flag (g := { f with pins := f.pins - 1 }) hi ⟨rfl, rfl, rfl, rfl, rfl⟩ ((Only.refl f.blk W).set 3 (.int .i64 (f.pins - 1))) (hfr.box.set 3 (.int .i64 (f.pins - 1)))
  have hb1 := h1.1.pool.box
  have hlen : (q.frames.set i (some { f with pins := f.pins - 1 })).length = q.frames.length := List.length_set
  simp only at hb1
  have c4 : (W.setCell ⟨f.blk, 3, none⟩ (.int .i64 (f.pins - 1))).cell? ⟨P, 4, none⟩ = some (.int .i64 q.pins) := hb1.cell 4 _ rfl
  have f4 := hb1.free 4
  have h2 := h1.1.own ((Only.refl P _).set 4 (.int .i64 (q.pins - 1))) (hand := q.hand) (pins := q.pins - 1) (hb1.set 4 (.int .i64 (q.pins - 1)))
  have h3 := h.flag (g := { f with pins := f.pins - 1 }) hi ⟨rfl, rfl, rfl, rfl, rfl⟩ (fun hh => hh) (by show 0 ≤ f.pins - 1 ∧ f.pins - 1 ≤ 1000000; omega) (w1 := (W.setCell ⟨f.blk, 3, none⟩ (.int .i64 (f.pins - 1))).setCell ⟨P, 4, none⟩ (.int .i64 (q.pins - 1))) (by
    rw [show q.pins - f.pins + ({ f with pins := f.pins - 1 } : Fr).pins = q.pins - 1 by show q.pins - f.pins + (f.pins - 1) = _; omega]
    exact h2.1)
  rw [show kp - f.pins + ({ f with pins := f.pins - 1 } : Fr).pins = kp - 1 by show kp - f.pins + (f.pins - 1) = _; omega, show q.pins - f.pins + ({ f with pins := f.pins - 1 } : Fr).pins = q.pins - 1 by show q.pins - f.pins + (f.pins - 1) = _; omega] at h3
  have HF := Lib.hid (And.intro h3 (h1.2.trans h2.2))
  have hqp : 0 < q.pins := by rw [h.pins]; exact hkp.1
  have hqp2 : q.pins ≤ 1000000 := by rw [h.pins]; exact hkp.2
  have hne : f.blk ≠ P := (h.pd.pool.off i (some f) f.blk hi (.inl rfl)).1
  clear h1 h2 h3 hb1 hfr hlen
  go_enter_d Tryz.func69, Tryz.ntmps69
  go_wp2
  go_end0
  exact ⟨rfl, HF.out.1, HF.out.2⟩
theorem PD.setOp (h : PD E W P D FB M q d cnt) {op' : Option Opn} (hos : W'.os = W.os) (htape : W'.tape = W.tape) (hout : W'.output = W.output) (hsz : W.heap.size ≤ W'.heap.size) (hb : Box W' P (pcells D FB q.frames.length M q.hand q.pins op')) (hop : OpAt W' op') (hown : ∀ j, opB op' j → opB q.op j ∨ W.heap.size ≤ j)
    (hk : ∀ j, j < W.heap.size → j ≠ P → ¬ opB q.op j → W'.heap[j]? = W.heap[j]?) : PD E W' P D FB M { frames := q.frames, hand := q.hand, pins := q.pins, op := op' } d cnt ∧ Kept E W W' := by
  have hp := h.pool
  obtain ⟨f, hf, hm⟩ := hp.map
  have hPl := hp.box.lt
  have hFl := hp.frs.lt
  have hMl : M < W.heap.size := hp.lt (.inr (.inr (.inl rfl)))
  have hno : ∀ j, opB q.op j → j ≠ P ∧ j ≠ FB ∧ j ≠ M := hp.opOff
  have hkF : ∀ (i : Nat) (o : Option Fr) (j : Nat), q.frames[i]? = some o → frB o j → W'.heap[j]? = W.heap[j]? := fun i o j hi ho => hk j (hp.ltF hi ho) (hp.off i o j hi ho).1 (hp.opTwo i o j hi ho)
  refine h.moves (q' := { frames := q.frames, hand := q.hand, pins := q.pins, op := op' }) ⟨hos, htape, hout, hsz, fun j hj hn => hk j hj (fun e => hn (.inl e)) (fun e => hn (.inr (.inr (.inr (.inl e))))), fun j hj => ?_⟩ ⟨hb, hp.frs.of_block hsz (hk FB hFl hp.PF.symm (fun e => (hno FB e).2.1 rfl)), ⟨f, hf, hm.of_block (hk M hMl hp.PM.symm (fun e => (hno M e).2.2 rfl))⟩, fun i g hi => (hp.each i g hi).of_block (hkF i _ _ hi (.inl rfl)) (hkF i _ _ hi (.inr rfl)), hp.PF, hp.PM, hp.FM, hp.off, hp.two, hop, fun j hj => ?_, fun i o j hi ho hj => ?_, fun j hj => ?_⟩
  · rcases hj with hj | hj | hj | hj | hj
    · exact .inl (.inl hj)
    · exact .inl (.inr (.inl hj))
    · exact .inl (.inr (.inr (.inl hj)))
    · rcases hown j hj with h1 | h1
      · exact .inl (.inr (.inr (.inr (.inl h1))))
      · exact .inr h1
    · exact .inl (.inr (.inr (.inr (.inr hj))))
  · rcases hown j hj with h1 | h1
    · exact hno j h1
    · exact ⟨by omega, by omega, by omega⟩
  · rcases hown j hj with h1 | h1
    · exact hp.opTwo i o j hi ho h1
    · have := hp.ltF hi ho; omega
  · rcases hj with hj | hj | hj | hj | hj
    · exact hp.tab j (.inl hj)
    · exact hp.tab j (.inr (.inl hj))
    · exact hp.tab j (.inr (.inr (.inl hj)))
    · rcases hown j hj with h1 | h1
      · exact hp.tab j (.inr (.inr (.inr (.inl h1))))
      · have := h.dd.tab.lt; omega
    · exact hp.tab j (.inr (.inr (.inr (.inr hj))))
theorem PS.op {op' : Option Opn} (h : PS E W P D FB M n kp q d cnt k c) (hl : ∀ o, op' = some o → o.wn ≤ k ∧ o.made.length ≤ k ∧ o.gone.length ≤ k) (hp : PD E W' P D FB M { frames := q.frames, hand := q.hand, pins := q.pins, op := op' } d cnt) : PS E W' P D FB M n kp { frames := q.frames, hand := q.hand, pins := q.pins, op := op' } d cnt k c :=
  ⟨hp, ⟨h.ok.pins, h.ok.pos, h.ok.hand, h.ok.few⟩, h.dok, h.held, h.pins, h.len, h.calm.same _ _ _, hl⟩
def keepO (o : Option Opn) (p : Int) (s : List UInt8) : Option Opn := match o with
  | none => none
  | some o => if p ∈ o.made ∨ (o.was p).isSome = true then some o else some { o with was := fun j => if j = p then some s else o.was j, wn := o.wn + 1 }
def KeepFew (o : Option Opn) : Prop := ∀ x, o = some x → x.wn < 1000000000
theorem keepO_lim {o : Option Opn} {p : Int} {s : List UInt8} (h : ∀ x, o = some x → x.wn ≤ k ∧ x.made.length ≤ k ∧ x.gone.length ≤ k) : ∀ x, keepO o p s = some x → x.wn ≤ k + 1 ∧ x.made.length ≤ k + 1 ∧ x.gone.length ≤ k + 1 := fun x hx => by
  unfold keepO at hx
  cases o with
  | none => cases hx
  | some o =>
    have h1 := h o rfl
    replace hx : (if p ∈ o.made ∨ (o.was p).isSome = true then some o else some { o with was := fun j => if j = p then some s else o.was j, wn := o.wn + 1 }) = some x := hx
    split at hx
    · rw [← Option.some.inj hx]; omega
    · rw [← Option.some.inj hx]
      show o.wn + 1 ≤ _ ∧ o.made.length ≤ _ ∧ o.gone.length ≤ _
      omega
set_option maxRecDepth 100000 in
theorem keep_any (h : PD E W P D FB M q d cnt) {i : Nat} {f : Fr} (hi : q.frames[i]? = some (some f)) (hw : KeepFew q.op) :
    Calls Tryz.prog 109 #[.pointer (some ⟨P, 0, none⟩), .pointer (some ⟨f.blk, 0, none⟩)] W fun e w' => e = .returned (.tuple #[]) ∧ PD E w' P D FB M { frames := q.frames, hand := q.hand, pins := q.pins, op := keepO q.op f.page f.data } d cnt ∧ Kept E W w' := by
  have hdraw : ∀ x, PD E (W.drewN x) P D FB M q d cnt ∧ Kept E W (W.drewN x) := fun x =>
    have hb : Below W.heap.size W (W.drewN x) := UK.belowN (Below.refl _ _) x
    ⟨h.next hb, Kept.of_below hb (fun j hj => h.dd.there j (.inl hj))⟩
  have c5 : W.cell? ⟨P, 5, none⟩ = some (vOpen q.op) := h.pool.box.cell 5 _ rfl
  have c6 : W.cell? ⟨P, 6, none⟩ = some (vWas q.op) := h.pool.box.cell 6 _ rfl
  have c7 : W.cell? ⟨P, 7, none⟩ = some (vMade q.op) := h.pool.box.cell 7 _ rfl
  have hfr := h.pool.each i f hi
  have b1 : W.cell? ⟨f.blk, 1, none⟩ = some (.int .i64 f.page) := hfr.box.cell 1 _ rfl
  have b2 : W.cell? ⟨f.blk, 2, none⟩ = some (.slice (some ⟨f.db, 0, none⟩) 504 f.cap) := hfr.box.cell 2 _ rfl
  cases hq : q.op with
  | none =>
    rw [hq] at c5
    simp only [vOpen, Option.isSome_none] at c5
    go_enter Tryz.func109, Tryz.ntmps109
    go_wp2
    go_quiet (fail)
    go_wp2
    refine bodyPost_ret (results_none rfl _ _ _) rfl ?_
    refine ⟨rfl, ?_, (hdraw _).2⟩
    have h2 := (hdraw nq).1
    rw [show q = { frames := q.frames, hand := q.hand, pins := q.pins, op := none } by rw [← hq]] at h2
    exact h2
  | some o =>
    have ho := h.pool.op o hq
    have hwn := hw o hq
    rw [hq] at c5 c6 c7
    simp only [vOpen, vWas, vMade, Option.isSome_some] at c5 c6 c7
    have HD := Lib.hid hdraw
    have hcn := fun x => contains_any (ho.made.of_block (W' := W.drewN x) (Nat.le_refl _) (fun _ _ => rfl)) ho.few.2.1 f.page
    clear hdraw
    by_cases hm : f.page ∈ o.made
    · have HK : Hid (keepO (some o) f.page f.data = some o) := by show _ = _; unfold keepO; show (if _ then _ else _) = _; rw [if_pos (.inl hm)]
      rw [decide_eq_true hm] at hcn
      clear hm
      go_enter Tryz.func109, Tryz.ntmps109
      go_wp2
      go_quiet (first | (go_at_call 103; exact Calls.quiet_of_same (hcn _)))
      go_wp2
      refine bodyPost_ret (results_none rfl _ _ _) rfl ?_
      refine ⟨rfl, ?_, (HD.out _).2⟩
      have h2 := (HD.out nq).1
      rw [HK.out]
      rw [show q = { frames := q.frames, hand := q.hand, pins := q.pins, op := some o } by rw [← hq]] at h2
      exact h2
    · rw [decide_eq_false hm] at hcn
      go_enter Tryz.func109, Tryz.ntmps109
      go_wp2
      go_quiet (first | (go_at_call 103; exact Calls.quiet_of_same (hcn _)))
      obtain ⟨p1, k1⟩ := HD.out nq
      generalize W.drewN nq = w1 at p1 k1 ⊢
      have ho := p1.pool.op o hq
      have c6 : w1.cell? ⟨P, 6, none⟩ = some (vWas q.op) := p1.pool.box.cell 6 _ rfl
      rw [hq] at c6
      simp only [vWas] at c6
      have hfr := p1.pool.each i f hi
      have b1 : w1.cell? ⟨f.blk, 1, none⟩ = some (.int .i64 f.page) := hfr.box.cell 1 _ rfl
      have b2 : w1.cell? ⟨f.blk, 2, none⟩ = some (.slice (some ⟨f.db, 0, none⟩) 504 f.cap) := hfr.box.cell 2 _ rfl
      have hlk := fun x => (ho.was.of_block (W' := w1.drewN x) rfl).get (t := 81) Tryz.underlying3 Tryz.underlying9 Tryz.underlying81 (fun w => by kernel_rfl) f.page hfr.page
      have hd1 : ∀ x, PD E (w1.drewN x) P D FB M q d cnt ∧ Kept E W (w1.drewN x) := fun x =>
        have hb : Below w1.heap.size w1 (w1.drewN x) := UK.belowN (Below.refl _ _) x
        ⟨p1.next hb, k1.trans (Kept.of_below hb (fun j hj => p1.dd.there j (.inl hj)))⟩
      have KH := Lib.hid (And.intro hd1 (And.intro hq hm))
      clear hcn HD h hm c7 c5 hd1
      cases hw0 : o.was f.page with
      | some s =>
        rw [hw0] at hlk
        have hlk2 : ∀ x, (Instr.lookup 81 (.map (some o.wb)) (.int .i64 f.page) true).run Tryz.prog (w1.drewN x) = .ok (.tuple #[.string (UK.str s), .bool true]) (w1.drewN x) := hlk
        have HW0 := Lib.hid hw0
        clear hlk hw0 ho hfr p1 hq
        go_wp2
        go_quiet (fail)
        go_wp2
        go_end0
        obtain ⟨hd, hq, hm⟩ := KH.out
        refine ⟨rfl, ?_, (hd _).2⟩
        have e : keepO (some o) f.page f.data = some o := by
          show (if _ then _ else _) = _
          rw [if_pos (.inr (by rw [HW0.out]; rfl))]
        rw [e]
        have p1 := (hd nq).1
        rw [show q = { frames := q.frames, hand := q.hand, pins := q.pins, op := some o } by rw [← hq]] at p1
        exact p1
      | none =>
        rw [hw0] at hlk
        have hlk2 : ∀ x, (Instr.lookup 81 (.map (some o.wb)) (.int .i64 f.page) true).run Tryz.prog (w1.drewN x) = .ok (.tuple #[.string (UK.str []), .bool false]) (w1.drewN x) := hlk
        have HW0 := Lib.hid hw0
        clear hlk hw0 ho hfr p1 hq
        go_wp2
        go_quiet (fail)
        obtain ⟨hd, hq, hm⟩ := KH.out
        obtain ⟨p1, k1⟩ := hd nq
        generalize w1.drewN nq = w2 at p1 k1 ⊢
        clear hd hlk2 b1 b2 c6 KH
        have c6 : w2.cell? ⟨P, 6, none⟩ = some (vWas q.op) := p1.pool.box.cell 6 _ rfl
        rw [hq] at c6
        simp only [vWas] at c6
        have hfr := p1.pool.each i f hi
        have b1 : w2.cell? ⟨f.blk, 1, none⟩ = some (.int .i64 f.page) := hfr.box.cell 1 _ rfl
        have b2 : w2.cell? ⟨f.blk, 2, none⟩ = some (.slice (some ⟨f.db, 0, none⟩) 504 f.cap) := hfr.box.cell 2 _ rfl
        have ho := p1.pool.op o hq
        obtain ⟨y, hy, hyl, hyt⟩ := hfr.bytes
        have hcap := hfr.cap
        have hcv := UK.run_window (P := Tryz.prog) (src := 87) (dst := 9) Tryz.underlying87 Tryz.underlying5 Tryz.underlying9 hy.drew 0 504 f.cap (by omega)
        rw [List.drop_zero, hyt] at hcv
        obtain ⟨w3, hput, hm3, o3⟩ := (ho.was.of_block (W' := w2.drew) rfl).put (t := 81) Tryz.underlying3 Tryz.underlying9 Tryz.underlying81 (by unfold maxLen; omega) f.page f.data hfr.page (by rw [hfr.len]; decide)
        rw [HW0.out] at hm3
        have KF : Hid (PD E w3 P D FB M { frames := q.frames, hand := q.hand, pins := q.pins, op := keepO (some o) f.page f.data } d cnt ∧ Kept E W w3) := by
          show _ ∧ _
          have o4 : Only o.wb w2 w3 := (Only.refl o.wb w2).drew.trans o3
          have e : keepO (some o) f.page f.data = some { o with was := fun j => if j = f.page then some f.data else o.was j, wn := o.wn + 1 } := by
            show (if _ then _ else _) = _
            rw [if_neg (by rw [HW0.out]; rintro (a | a); exact hm a; cases a)]
          have hwb : opB q.op o.wb := by rw [hq]; exact .inl rfl
          have hPw : P ≠ o.wb := ((p1.pool.opOff _ hwb).1).symm
          rw [e]
          have h2 := p1.setOp (W' := w3) (op' := some { o with was := fun j => if j = f.page then some f.data else o.was j, wn := o.wn + 1 }) o4.os o4.tape o4.output o4.size (by
            have hb := p1.pool.box.only o4 hPw
            rw [hq] at hb; exact hb) (fun x hx => by
            obtain rfl := Option.some.inj hx
            refine ⟨?_, ho.made.of_block o4.size (fun j hj => o4.block j (ho.made.lt hj) (fun e => ho.wm (e ▸ hj))), ho.gone.of_block o4.size (fun j hj => o4.block j (ho.gone.lt hj) (fun e => ho.wg (e ▸ hj))), ho.wm, ho.wg, ho.mg, ho.madeW, ho.goneW, ⟨by show o.wn + 1 ≤ _; omega, ho.few.2⟩⟩
            exact hm3.tight) (fun j hj => .inl (by rw [hq]; exact hj)) (fun j hj _ hjo => o4.block j hj (fun e => hjo (e ▸ hwb)))
          exact ⟨h2.1, k1.trans h2.2⟩
        clear hm3 o3 ho hy hyl hyt hcap hm p1 hfr k1
        go_wp2
        go_region
        go_end0
        exact ⟨rfl, KF.out.1, KF.out.2⟩
theorem edit_any (h : PS E W P D FB M n kp q d cnt k c) {i : Nat} {f : Fr} (hi : q.frames[i]? = some (some f)) (hk : k < 900000000) :
    Calls Tryz.prog 74 #[.pointer (some ⟨f.blk, 0, none⟩)] W fun e w' => e = .returned (.slice (some ⟨f.db, 0, none⟩) 504 f.cap) ∧ PS E w' P D FB M n kp { frames := q.frames.set i (some { f with dirty := true }), hand := q.hand, pins := q.pins, op := keepO q.op f.page f.data } d cnt (k + 1) c ∧ Kept E W w' := by
  have hfr := h.pd.pool.each i f hi
  have hpos := h.ok.pos i f hi
  have c0 : W.cell? ⟨f.blk, 0, none⟩ = some (.pointer (some ⟨P, 0, none⟩)) := hfr.box.cell 0 _ rfl
  have hkeep := keep_any h.pd hi (fun x hx => by have := h.lim x hx; omega)
  have hlim := keepO_lim (p := f.page) (s := f.data) h.lim
  generalize keepO q.op f.page f.data = op' at hkeep hlim ⊢
  have hst : ∀ w1, PD E w1 P D FB M { frames := q.frames, hand := q.hand, pins := q.pins, op := op' } d cnt → PS E (w1.setCell ⟨f.blk, 5, none⟩ (.bool true)) P D FB M n kp { frames := q.frames.set i (some { f with dirty := true }), hand := q.hand, pins := q.pins, op := op' } d cnt (k + 1) c ∧ Kept E w1 (w1.setCell ⟨f.blk, 5, none⟩ (.bool true)) ∧ w1.cell? ⟨f.blk, 5, none⟩ = some (.bool f.dirty) ∧ w1.frozen? ⟨f.blk, 5, none⟩ = false ∧ (w1.setCell ⟨f.blk, 5, none⟩ (.bool true)).cell? ⟨f.blk, 2, none⟩ = some (.slice (some ⟨f.db, 0, none⟩) 504 f.cap) := fun w1 p1 => by
    have hx := (h.up (Nat.le_succ k)).op hlim p1
    have hbx := (hx.pd.pool.each i f hi).box
    have h1 := hx.pd.flag (g := { f with dirty := true }) hi ⟨rfl, rfl, rfl, rfl, rfl⟩ ((Only.refl f.blk _).set 5 (.bool true)) (hbx.set 5 (.bool true))
    have h3 := hx.flag (g := { f with dirty := true }) hi ⟨rfl, rfl, rfl, rfl, rfl⟩ (fun _ => rfl) hpos (by
      show PD E _ P D FB M { frames := q.frames.set i (some { f with dirty := true }), hand := q.hand, pins := q.pins - f.pins + f.pins, op := op' } d cnt
      rw [show q.pins - f.pins + f.pins = q.pins by omega]
      exact h1.1)
    replace h3 : PS E (w1.setCell ⟨f.blk, 5, none⟩ (.bool true)) P D FB M n (kp - f.pins + f.pins) { frames := q.frames.set i (some { f with dirty := true }), hand := q.hand, pins := q.pins - f.pins + f.pins, op := op' } d cnt (k + 1) c := h3
    rw [show q.pins - f.pins + f.pins = q.pins by omega, show kp - f.pins + f.pins = kp by omega] at h3
    exact ⟨h3, h1.2, hbx.cell 5 _ rfl, hbx.free 5, (hbx.set 5 (.bool true)).cell 2 _ rfl⟩
  have HST := Lib.hid hst
  clear hst hfr hpos
  go_enter Tryz.func74, Tryz.ntmps74
  go_wp2_with fail
  refine hkeep.mono ?_
  rintro e w1 ⟨rfl, p1, k1⟩
  obtain ⟨s1, k2, c5, f5, c2⟩ := HST.out w1 p1
  have HS := Lib.hid s1
  have HK := Lib.hid (k1.trans k2)
  clear HST hkeep p1 s1 k1 k2 c0
  go_wp2
  go_ret
  exact ⟨rfl, HS.out, HK.out⟩
theorem PS.bytes (h : PS E W P D FB M n kp q d cnt k c) {i : Nat} {f : Fr} (hi : q.frames[i]? = some (some f)) (hd : f.dirty = true) (ho : Only f.db W W') {y : List UInt8} (hy : BytesAt W' f.db y) (hyl : y.length = f.cap) :
    PS E W' P D FB M n kp { frames := q.frames.set i (some { f with data := y.take 504 }), hand := q.hand, pins := q.pins, op := q.op } d cnt k (setC c f.page.toNat (y.take 504)) ∧ Kept E W W' := by
  have hp := h.pd.pool
  have hl := (List.getElem?_eq_some_iff.1 hi).1
  have hfr := hp.each i f hi
  have hcap := hfr.cap
  obtain ⟨mf, hf, hm⟩ := hp.map
  have hoff := hp.off i (some f) f.db hi (.inr rfl)
  have hc : cntF (q.frames.set i (some { f with data := y.take 504 })) = cntF q.frames := by
    have := cntF_set q.frames i (some f) (some { f with data := y.take 504 }) hi
    simpa using this
  have hown : ∀ b', frB (some { f with data := y.take 504 }) b' → frB (some f) b' ∨ W.heap.size ≤ b' := fun b' hb => .inl hb
  have hmv := h.pd.moves (q' := { frames := q.frames.set i (some { f with data := y.take 504 }), hand := q.hand, pins := q.pins, op := q.op }) (W' := W') ⟨ho.os, ho.tape, ho.output, ho.size, fun c hc hn => ho.block c hc (fun e => hn (e ▸ .inr (.inr (.inr (.inr ⟨i, some f, hi, .inr rfl⟩))))), fun c hc => PBlk.setF hi hown hc⟩ (by
    refine hp.setF hi h.pd.dd.tab.lt (hp.box.of_block (ho.block _ hp.box.lt hoff.1.symm)) ho.size (fun b hb => ho.block b (hp.op.lt hb) (fun e => hp.opTwo i (some f) _ hi (.inr rfl) (e ▸ hb))) ?_ ⟨mf, hf.turn hi rfl, by rw [hc]; exact hm.only ho hoff.2.2.symm⟩ (fun a u c ha hu hc2 => ?_) (fun g' hg' => ?_) hown
    · rw [map_set_same q.frames i (some f) (some { f with data := y.take 504 }) hi rfl]
      exact hp.frs.only ho hoff.2.1.symm
    · have hlt2 := hp.ltF hu hc2
      refine ho.block c hlt2 (fun e => ?_)
      subst e
      exact hp.two i a (some f) u _ (Ne.symm ha) hi hu (.inr rfl) hc2
    · obtain rfl := Option.some.inj hg'
      exact ⟨hfr.box.of_block (ho.block _ (hp.ltF hi (.inl rfl)) hfr.ne), ⟨y, hy, hyl, rfl⟩, by show (y.take 504).length = _; rw [List.length_take]; omega, hfr.cap, hfr.page, hfr.ne⟩)
  refine ⟨⟨hmv.1, ?_, h.dok, fun a u ha => ?_, h.pins, by show (q.frames.set i _).length = n; rw [List.length_set]; exact h.len, h.calm.edit hi hd h.held (fun j g hj e => h.inj hi hj e.symm) (y.take 504) _ _ _, h.lim⟩, hmv.2⟩
  · have := h.ok.set hi (u := some { f with data := y.take 504 }) (fun x hx => by rw [← Option.some.inj hx]; exact h.ok.pos i f hi)
    rw [show q.pins - pinO (some f) + pinO (some { f with data := y.take 504 }) = q.pins by show q.pins - f.pins + f.pins = q.pins; omega] at this
    exact this
  · replace ha : (q.frames.set i (some { f with data := y.take 504 }))[a]? = some (some u) := ha
    rw [get_set _ _ _ _ hl] at ha
    by_cases e : i = a
    · rw [if_pos e] at ha
      rw [← Option.some.inj (Option.some.inj ha)]
      exact h.held i f hi
    · rw [if_neg e] at ha; exact h.held a u ha
end
end Go.Proofs.YtfljlcfmdcepnaaGreatDoor
namespace Go.Proofs.YtfljlcfmdcepnaaGreatDoor
open Go.RowKit
open UK (str BytesAt nth Only Row Box IntMap)
open Go.BigFrame
section
variable {E : Nat → Prop} {W W' : World} {P D FB M cnt k n : Nat} {kp : Int} {q : Pl} {d d' : Dk} {c : Nat → List UInt8}
theorem read_len {p : Int} (f : Fit d cnt) (hh : hasD d cnt p = true) (he : rreadE d cnt p = 0) : (rreadS d cnt p).length = 504 := by
  obtain ⟨m, rfl, hm⟩ := has_nat (by rw [hh]; decide)
  have h3 := has_lt hm
  unfold rreadE at he
  unfold rreadS
  rw [hh] at he ⊢
  rw [if_neg (by decide)] at he ⊢
  by_cases hz : d.rl = 0
  · rw [if_pos hz] at he; exact absurd he (by decide)
  · rw [if_neg hz] at he ⊢
    rw [Int.toNat_natCast] at he ⊢
    have hok : okB d.x m = true := by
      cases hb : okB d.x m with
      | true => rfl
      | false => unfold readE at he; rw [hb] at he; exact absurd he (by decide)
    rw [lookL_yes hok]
    unfold loadL
    rw [List.length_take, List.length_drop, f.len]
    omega
theorem has_read (d : Dk) (cnt : Nat) (p a : Int) : hasD (rreadD d cnt p) cnt a = hasD d cnt a := by
  unfold rreadD
  split
  · rfl
  · split <;> rfl
theorem at_none (h : PD E W P D FB M q d cnt) (page : Int) (hpg : (Lit.int .i64 page).wf = true) :
    (∃ (i : Nat) (f : Fr), q.frames[i]? = some (some f) ∧ f.page = page ∧ (Instr.lookup 80 (.map (some M)) (.int .i64 page) true).run Tryz.prog W = .ok (.tuple #[.int .i64 (i : Int), .bool true]) W) ∨
    ((∀ (i : Nat) (f : Fr), q.frames[i]? = some (some f) → f.page ≠ page) ∧ (Instr.lookup 80 (.map (some M)) (.int .i64 page) true).run Tryz.prog W = .ok (.tuple #[.int .i64 0, .bool false]) W) := by
  obtain ⟨g, hg, hm⟩ := h.pool.map
  have hlk := hm.get (t := 80) Tryz.underlying3 Tryz.underlying3 Tryz.underlying80 (fun w => by kernel_rfl) page hpg
  cases hgp : g page with
  | none =>
    rw [hgp] at hlk
    exact .inr ⟨fun i f hi => hg.no hgp hi, hlk⟩
  | some v =>
    rw [hgp] at hlk
    obtain ⟨j, rfl, fr, hj, hf⟩ := (hg page v).1 hgp
    exact .inl ⟨j, fr, hj, hf, hlk⟩
theorem rwrite_yes (h : Clean d cnt) {p : Nat} (hh : hasD d cnt (p : Int) = true) (s : List UInt8) (hs : s.length = 504) : rwriteE d cnt (p : Int) s = 0 ∧ rwriteD d cnt (p : Int) s = writeD d p s := by
  have hwl : d.wl ≠ 0 := by rw [h.wl]; decide
  unfold rwriteE rwriteD
  have ha : ¬ hasD d cnt (p : Int) = false := by rw [hh]; decide
  have hb : ¬ s.length ≠ 504 := by omega
  rw [if_neg ha, if_neg ha, if_neg hb, if_neg hb, if_neg hwl, Int.toNat_natCast]
  exact ⟨by unfold failE; rw [if_neg hwl], rfl⟩
def RoomC (E : Nat → Prop) (W w' : World) (P D FB M n : Nat) (kp : Int) (q : Pl) (d : Dk) (cnt k : Nat) (c : Nat → List UInt8) (e : Ending) : Prop :=
  ∃ (i : Nat) (q' : Pl) (d' : Dk), e = .returned (.tuple #[.int .i64 i, .int .i64 0]) ∧ q'.frames[i]? = some none ∧ PS E w' P D FB M n kp q' d' cnt (k + 1) c ∧ Kept E W w' ∧ q'.op = q.op ∧ d'.free = d.free ∧ d'.most = d.most ∧ Fewer q' q ∧ ∀ p, hasD d' cnt p = hasD d cnt p
theorem croom_any (h : PS E W P D FB M n kp q d cnt k c) (hk : k < 900000000) (hkp : 0 ≤ kp ∧ kp < n) :
    Calls Tryz.prog 104 #[.pointer (some ⟨P, 0, none⟩)] W fun e w' => RoomC E W w' P D FB M n kp q d cnt k c e := by
  refine (proom_any h.pd h.ok h.dok hk).mono ?_
  rintro e w' ⟨i, e0, q', d', rfl, p1, k1, o1, ok1, hpin, hlen, hfw, hhs, hz, hx1, hx2, hx3⟩
  have hpl := h.ok.pins
  have hpn := h.pins
  have hl := h.len
  obtain ⟨b, hb, hst⟩ := pins_idle q.frames (fun i f hi => (h.ok.pos i f hi).1) (by omega)
  have hne := sweep_finds q.frames q.hand b h.ok.hand hb hst
  have hcs := h.calm.swept h.ok.hand (2 * q.frames.length) q.hand q.pins q.op
  obtain ⟨so1, so2, so3⟩ := sweep_ok (2 * q.frames.length) q h.ok
  have hmk := sweep_marks (2 * q.frames.length) q.frames q.hand h.ok.hand
  generalize sweep (2 * q.frames.length) q.frames q.hand = r at hx1 hx2 hx3 hne hcs so1 so2 so3 hmk
  cases hr : r.1 with
  | none => exact absurd hr hne
  | some j =>
    obtain ⟨o, ho, _⟩ := so3 j hr
    have hheld : ∀ (j : Nat) (g : Fr), q'.frames[j]? = some (some g) → hasD d' cnt g.page = true := fun j g hj => by
      obtain ⟨g0, h0, he⟩ := hfw j g hj
      rw [hhs, ← he]; exact h.held j g0 h0
    by_cases hcl : ∀ f : Fr, r.2.1[j]? = some (some f) → f.dirty = false
    · obtain ⟨rfl, rfl, rfl, rfl⟩ := hx2 j hr hcl
      refine ⟨i, _, d', rfl, hz rfl, ⟨p1, o1, ok1, hheld, hpin.trans hpn, hlen.trans hl, ?_, (h.up (Nat.le_succ k)).lim⟩, k1, rfl, rfl, rfl, hfw, hhs⟩
      cases o with
      | none =>
        have e : r.2.1.set i none = r.2.1 := set_same ho
        rw [e]
        exact hcs.same _ _ _
      | some f => exact hcs.forget ho (hcl f ho) _ _ _
    · obtain ⟨f, hf, hfd⟩ : ∃ f : Fr, r.2.1[j]? = some (some f) ∧ f.dirty = true := by
        cases o with
        | none => exact absurd (fun f hf => by rw [ho] at hf; cases hf) hcl
        | some f =>
          refine ⟨f, ho, ?_⟩
          cases hfd : f.dirty
          · exact absurd (fun g hg => by rw [ho] at hg; rw [← Option.some.inj (Option.some.inj hg)]; exact hfd) hcl
          · rfl
      obtain ⟨f0, hf0, hfe⟩ := hmk j f hf
      have hpg : f.page = f0.page := by rcases hfe with rfl | rfl <;> rfl
      have hda : f.data = f0.data := by rcases hfe with rfl | rfl <;> rfl
      have hhf : hasD d cnt f.page = true := by rw [hpg]; exact h.held j f0 hf0
      obtain ⟨p, hp, hp1, hp2, hp3⟩ := h.calm.nat hhf
      have hdl : f.data.length = 504 := by rw [hda]; exact (h.pd.pool.each j f0 hf0).len
      rw [hp] at hhf
      obtain ⟨w1, w2⟩ := rwrite_yes h.calm.clean hhf f.data hdl
      rw [← hp] at w1 w2
      obtain ⟨rfl, rfl, rfl, rfl⟩ := hx3 j f hr hf hfd w1
      have hpu := h.dok.puts
      refine ⟨i, _, _, rfl, hz rfl, ⟨p1, o1, ok1, hheld, hpin.trans hpn, hlen.trans hl, ?_, (h.up (Nat.le_succ k)).lim⟩, k1, rfl, ?_, ?_, hfw, hhs⟩
      · rw [w2]; exact hcs.write (by omega) hf hp hp2 hp3 hdl _ _ _
      · rw [w2]; rfl
      · rw [w2]; rfl
def PinC (E : Nat → Prop) (W w' : World) (P D FB M n : Nat) (kp : Int) (q : Pl) (d : Dk) (cnt k : Nat) (c : Nat → List UInt8) (page : Int) (e : Ending) : Prop :=
  ∃ (i : Nat) (f : Fr) (q' : Pl) (d' : Dk), e = .returned (.tuple #[.pointer (some ⟨f.blk, 0, none⟩), .int .i64 0]) ∧ q'.frames[i]? = some (some f) ∧ f.page = page ∧ 0 < f.pins ∧ PS E w' P D FB M n (kp + 1) q' d' cnt (k + 2) c ∧ Kept E W w' ∧ q'.op = q.op ∧ d'.free = d.free ∧ d'.most = d.most
set_option maxHeartbeats 1000000 in
set_option maxRecDepth 100000 in
theorem pin_there (h : PS E W P D FB M n kp q d cnt k c) (hkp : 0 ≤ kp ∧ kp < 1000000) (page : Int) (hpg : (Lit.int .i64 page).wf = true) (hh : hasD d cnt page = true) (hg : page ∉ goneL q.op) {i : Nat} {f : Fr} (hi : q.frames[i]? = some (some f)) (hf : f.page = page) (hfp : f.pins < 1000000) :
    Calls Tryz.prog 68 #[.pointer (some ⟨P, 0, none⟩), .int .i64 page] W fun e w' => PinC E W w' P D FB M n kp q d cnt k c page e := by
  have c0 : W.cell? ⟨P, 0, none⟩ = some (.pointer (some ⟨D, 0, none⟩)) := h.pd.pool.box.cell 0 _ rfl
  have hhas := dd_has h.pd.dd page
  rw [hh] at hhas
  have hl := (List.getElem?_eq_some_iff.1 hi).1
  have hfew := h.ok.few
  go_enter Tryz.func68, Tryz.ntmps68
  go_wp2_with fail
  refine hhas.mono ?_
  rintro e w1 ⟨rfl, x, rfl⟩
  obtain ⟨h1, k1⟩ := h.looks x
  generalize W.drewN x = w1 at h1 k1 ⊢
  clear h hhas c0
  have hb := h1.pd.pool.box
  have c1 : w1.cell? ⟨P, 1, none⟩ = some (.slice (some ⟨FB, 0, none⟩) q.frames.length q.frames.length) := hb.cell 1 _ rfl
  have c2 : w1.cell? ⟨P, 2, none⟩ = some (.map (some M)) := hb.cell 2 _ rfl
  obtain ⟨ao, nn, cc, hv, hcn⟩ := gone_any h1.pd.pool page
  have c8 : w1.cell? ⟨P, 8, none⟩ = some (vGone q.op) := hb.cell 8 _ rfl
  rw [hv] at c8
  rw [decide_eq_false hg] at hcn
  clear hv
  have c4 : w1.cell? ⟨P, 4, none⟩ = some (.int .i64 q.pins) := hb.cell 4 _ rfl
  have f4 := hb.free 4
  have cF : w1.cell? ⟨FB, i, none⟩ = some (.pointer (some ⟨f.blk, 0, none⟩)) := h1.pd.frame hi
  have hfr := h1.pd.pool.each i f hi
  have d3 : w1.cell? ⟨f.blk, 3, none⟩ = some (.int .i64 f.pins) := hfr.box.cell 3 _ rfl
  have d4 : w1.cell? ⟨f.blk, 4, none⟩ = some (.bool f.used) := hfr.box.cell 4 _ rfl
  have e3 := hfr.box.free 3
  have e4 := hfr.box.free 4
  have hpos := h1.ok.pos i f hi
  have hlk : (Instr.lookup 80 (.map (some M)) (.int .i64 page) true).run Tryz.prog w1 = .ok (.tuple #[.int .i64 (i : Int), .bool true]) w1 := by
    rcases at_none h1.pd page hpg with ⟨j, g, hj, hg, hr⟩ | ⟨hno, _⟩
    · obtain ⟨mf, ha, _⟩ := h1.pd.pool.map
      rw [ha.inj hi hj (hf.trans hg.symm)]
      exact hr
    · exact absurd hf (hno i f hi)
  have hne : f.blk ≠ P := (h1.pd.pool.off i (some f) f.blk hi (.inl rfl)).1
  have p2 := h1.pd.flag (g := { f with pins := f.pins + 1, used := true }) hi ⟨rfl, rfl, rfl, rfl, rfl⟩ (((Only.refl f.blk w1).set 3 (.int .i64 (f.pins + 1))).set 4 (.bool true)) ((hfr.box.set 3 (.int .i64 (f.pins + 1))).set 4 (.bool true))
  have hb2 := p2.1.pool.box
  have p3 := p2.1.own ((Only.refl P _).set 4 (.int .i64 (q.pins + 1))) (hand := q.hand) (pins := q.pins + 1) (hb2.set 4 (.int .i64 (q.pins + 1)))
  have s3 := h1.flag (g := { f with pins := f.pins + 1, used := true }) hi ⟨rfl, rfl, rfl, rfl, rfl⟩ (fun hh => hh) (by show 0 ≤ f.pins + 1 ∧ f.pins + 1 ≤ 1000000; omega) (by
    rw [show q.pins - f.pins + ({ f with pins := f.pins + 1, used := true } : Fr).pins = q.pins + 1 by show q.pins - f.pins + (f.pins + 1) = _; omega]
    exact p3.1)
  rw [show kp - f.pins + ({ f with pins := f.pins + 1, used := true } : Fr).pins = kp + 1 by show kp - f.pins + (f.pins + 1) = _; omega, show q.pins - f.pins + ({ f with pins := f.pins + 1, used := true } : Fr).pins = q.pins + 1 by show q.pins - f.pins + (f.pins + 1) = _; omega] at s3
  have HF := Lib.hid (And.intro s3 ((k1.trans p2.2).trans p3.2))
  have hqp : 0 ≤ q.pins ∧ q.pins < 1000000 := by rw [h1.pins]; exact hkp
  obtain ⟨hqp1, hqp2⟩ := hqp
  have HP := Lib.hid hf
  clear p2 p3 s3 hb2 hfr hb h1 k1 hf
  go_wp2_with fail
  refine hcn.mono ?_
  rintro e w2 ⟨rfl, rfl⟩
  go_wp2
  go_ret2
  exact ⟨i, { f with pins := f.pins + 1, used := true }, _, d, rfl, by show (q.frames.set i _)[i]? = _; rw [get_set _ _ _ _ hl, if_pos rfl], HP.out, by show 0 < f.pins + 1; omega, HF.out.1.up (by omega), HF.out.2, rfl, rfl, rfl⟩
theorem rread_yes (h : Clean d cnt) {p : Nat} (hp1 : 1 ≤ p) (hp : p < cnt) (hh : hasD d cnt (p : Int) = true) : rreadE d cnt (p : Int) = 0 ∧ rreadS d cnt (p : Int) = lookL d.x p ∧ rreadD d cnt (p : Int) = readD d := by
  have hrl : d.rl ≠ 0 := by rw [h.rl]; decide
  unfold rreadE rreadS rreadD
  have ha : ¬ hasD d cnt (p : Int) = false := by rw [hh]; decide
  rw [if_neg ha, if_neg ha, if_neg ha, if_neg hrl, if_neg hrl, if_neg hrl, Int.toNat_natCast]
  exact ⟨by unfold readE; rw [h.ok p hp1 hp]; rfl, rfl, rfl⟩
set_option maxHeartbeats 1000000 in
set_option maxRecDepth 100000 in
theorem pin_comes (h : PS E W P D FB M n kp q d cnt k c) (hk : k + 2 < 900000000) (hkp : 0 ≤ kp ∧ kp < n) (page : Int) (hpg : (Lit.int .i64 page).wf = true) (hh : hasD d cnt page = true) (hg : page ∉ goneL q.op) (hno : ∀ (i : Nat) (f : Fr), q.frames[i]? = some (some f) → f.page ≠ page) :
    Calls Tryz.prog 68 #[.pointer (some ⟨P, 0, none⟩), .int .i64 page] W fun e w' => PinC E W w' P D FB M n kp q d cnt k c page e := by
  have c0 : W.cell? ⟨P, 0, none⟩ = some (.pointer (some ⟨D, 0, none⟩)) := h.pd.pool.box.cell 0 _ rfl
  have hhas := dd_has h.pd.dd page
  rw [hh] at hhas
  have HNO := Lib.hid hno
  have HH := Lib.hid hh
  have hfew := h.ok.few
  have hln := h.len
  clear hno hh
  go_enter Tryz.func68, Tryz.ntmps68
  go_wp2_with fail
  refine hhas.mono ?_
  rintro e w1 ⟨rfl, x, rfl⟩
  obtain ⟨h1, k1⟩ := h.looks x
  generalize W.drewN x = w1 at h1 k1 ⊢
  clear h hhas c0
  have hb := h1.pd.pool.box
  have c2 : w1.cell? ⟨P, 2, none⟩ = some (.map (some M)) := hb.cell 2 _ rfl
  obtain ⟨ao, nn, cc, hv, hcn⟩ := gone_any h1.pd.pool page
  have c8 : w1.cell? ⟨P, 8, none⟩ = some (vGone q.op) := hb.cell 8 _ rfl
  rw [hv] at c8
  rw [decide_eq_false hg] at hcn
  have hlk : (Instr.lookup 80 (.map (some M)) (.int .i64 page) true).run Tryz.prog w1 = .ok (.tuple #[.int .i64 0, .bool false]) w1 := by
    rcases at_none h1.pd page hpg with ⟨j, g, hj, hg, _⟩ | ⟨_, hr⟩
    · exact absurd hg (HNO.out j g hj)
    · exact hr
  have HR := Lib.hid (croom_any h1 (by omega) hkp)
  clear hb hv
  go_wp2_with fail
  refine hcn.mono ?_
  rintro e w2 ⟨rfl, rfl⟩
  go_wp2_with fail
  refine HR.out.mono ?_
  rintro e w3 ⟨i, q', d', rfl, hi3, s3, k3, hop, hfr, hmo, hfw, hhs⟩
  have hno3 : ∀ (j : Nat) (g : Fr), q'.frames[j]? = some (some g) → g.page ≠ page := fun j g hj => by
    obtain ⟨g0, h0, he⟩ := hfw j g hj
    rw [← he]; exact HNO.out j g0 h0
  have hh3 : hasD d' cnt page = true := by rw [hhs]; exact HH.out
  obtain ⟨p, rfl, hp1, hp2, hp3⟩ : ∃ p : Nat, page = p ∧ 1 ≤ p ∧ p < cnt ∧ p ∉ d'.free := by
    rw [s3.calm.clean.so.hasI, decide_eq_true_eq] at hh3
    exact ⟨page.toNat, by omega, by omega, by omega, hh3.2.2⟩
  obtain ⟨re, rs, rd⟩ := rread_yes s3.calm.clean hp1 hp2 hh3
  have HRd := Lib.hid (dd_read_u s3.pd.dd s3.dok (by omega) (p : Int))
  rw [re, rs, rd] at HRd
  have hc : lookL d'.x p = c p := s3.calm.off p hp1 hp2 hp3 (fun j g hj hg => absurd hg (hno3 j g hj))
  have hcl : (c p).length = 504 := by
    have := read_len s3.pd.dd.fit hh3 re
    rw [rs, hc] at this; exact this
  rw [hc] at HRd
  have hre := s3.dok.reads
  have hokr : Ok (readD d') cnt (k + 2) := by have := s3.dok.read (by omega) (p : Int); rw [rd] at this; exact this
  have HR3 := Lib.hid (And.intro hop (And.intro hfr hmo))
  have HC3 := Lib.hid (s3.calm.read (by omega))
  have HNO3 := Lib.hid hno3
  have HI := Lib.hid hi3
  have c0 : w3.cell? ⟨P, 0, none⟩ = some (.pointer (some ⟨D, 0, none⟩)) := s3.pd.pool.box.cell 0 _ rfl
  have HHR := Lib.hid (fun a => has_read d' cnt (p : Int) a)
  rw [rd] at HHR
  have HS3 := Lib.hid (And.intro s3 (k1.trans k3))
  clear HR hcn c2 c8 hlk k1 k3 hfw hhs s3 hno3 hh3 hop hfr hmo hi3 re rs rd hc hre
  go_wp2_with fail
  refine HRd.out.mono ?_
  rintro e w4 ⟨rfl, d4, k4⟩
  have p4 := HS3.out.1.pd.disk d4 k4
  have s4 : PS E w4 P D FB M n kp q' (readD d') cnt (k + 2) c := ⟨p4, HS3.out.1.ok, hokr, fun j g hj => by rw [HHR.out]; exact HS3.out.1.held j g hj, HS3.out.1.pins, HS3.out.1.len, HC3.out, (HS3.out.1.up (Nat.le_succ _)).lim⟩
  have HS4 := Lib.hid (And.intro s4 (HS3.out.2.trans (k4.mono (fun j hj => .inl hj))))
  have HL := Lib.hid (play_any p4 HS4.out.1.ok (by rw [HS4.out.1.pins]; omega) HI.out (p : Int) hpg HNO3.out (c p) hcl)
  clear HRd c0 d4 k4 p4 s4 hokr
  generalize hcc : c p = cp at HL hcl
  have HCC := Lib.hid hcc
  clear hcc
  go_wp2_with fail
  refine HL.out.mono ?_
  rintro e w5 ⟨f, rfl, hfpg, hfda, hfp1, _, _, p5, k5⟩
  have hil := (List.getElem?_eq_some_iff.1 HI.out).1
  have hpo := HS4.out.1.ok.set HI.out (u := some f) (fun y hy => by rw [← Option.some.inj hy, hfp1]; omega)
  rw [show q'.pins - pinO none + pinO (some f) = q'.pins + 1 by show q'.pins - 0 + f.pins = _; omega] at hpo
  have s5 : PS E w5 P D FB M n (kp + 1) { frames := q'.frames.set i (some f), hand := q'.hand, pins := q'.pins + 1, op := q'.op } (readD d') cnt (k + 2) c := ⟨p5, hpo, HS4.out.1.dok, fun j g hj => by
    replace hj : (q'.frames.set i (some f))[j]? = some (some g) := hj
    rw [get_set _ _ _ _ hil] at hj
    by_cases e : i = j
    · rw [if_pos e] at hj
      rw [← Option.some.inj (Option.some.inj hj), hfpg, HHR.out, HS3.out.1.calm.clean.so.hasI, decide_eq_true_eq]
      exact ⟨by omega, by omega, by rw [Int.toNat_natCast]; exact hp3⟩
    · rw [if_neg e] at hj; exact HS4.out.1.held j g hj, by show q'.pins + 1 = _; rw [HS4.out.1.pins], by show (q'.frames.set i _).length = n; rw [List.length_set]; exact HS4.out.1.len, HS4.out.1.calm.lay HI.out (by rw [hfda, hfpg, Int.toNat_natCast]; exact HCC.out.symm) _ _ _, HS4.out.1.lim⟩
  have HS5 := Lib.hid (And.intro s5 (HS4.out.2.trans k5))
  have HFP := Lib.hid (And.intro hfp1 hfpg)
  clear s5 k5 p5 hpo HL hfpg hfp1 hfda
  go_wp2
  go_ret2
  exact ⟨i, f, _, readD d', rfl, by show (q'.frames.set i _)[i]? = _; rw [get_set _ _ _ _ hil, if_pos rfl], HFP.out.2, by rw [HFP.out.1]; decide, HS5.out.1, HS5.out.2, HR3.out.1, HR3.out.2.1, HR3.out.2.2⟩
end
end Go.Proofs.YtfljlcfmdcepnaaGreatDoor
