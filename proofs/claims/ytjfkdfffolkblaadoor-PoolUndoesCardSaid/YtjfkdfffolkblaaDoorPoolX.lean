/-
  The pool: pages that came, and that are to go; Take.
-/
import Derived.Test.YtjfkdfffolkblaaDoorPoolW
namespace Go.Proofs.YtjfkdfffolkblaaDoor
open Go.RowKit
open UK (str BytesAt nth Only Row Box IntMap StrMap)
open Go.BigFrame
section
variable {E : Nat → Prop} {W W' : World} {P D FB M cnt k n : Nat} {kp : Int} {q : Pl} {d d' : Dk} {c : Nat → List UInt8}
theorem take_has (o : Ok d cnt k) (hk : k < 900000000) : (∀ a, hasD d cnt a = true → hasD (tD d cnt) (tC d cnt) a = true) ∧ (tE d cnt = 0 → hasD d cnt (tP d cnt : Nat) = false ∧ hasD (tD d cnt) (tC d cnt) (tP d cnt : Nat) = true) := by
  have so2 := (o.take hk).so
  have so := o.so
  have hone := o.fit.one
  rcases take_split d cnt with ⟨_, _, a, b, e, c⟩ | ⟨_, _, a, b, e, c⟩ | ⟨_, _, hf, a, b, e, c⟩ | ⟨_, l, p, hl, a, b, e, c⟩
  · rw [e, c, a]; exact ⟨fun _ h => h, fun h => absurd h (by decide)⟩
  · rw [e, c, a]; exact ⟨fun _ h => h, fun h => absurd h (by decide)⟩
  · rw [e, c] at so2 ⊢
    rw [b]
    refine ⟨fun x hx => ?_, fun _ => ⟨?_, ?_⟩⟩
    · rw [so.hasI, decide_eq_true_eq] at hx
      rw [so2.hasI, decide_eq_true_eq]
      exact ⟨hx.1, by omega, hx.2.2⟩
    · rw [so.hasI, decide_eq_false_iff_not]; omega
    · rw [so2.hasI, decide_eq_true_eq]
      refine ⟨by omega, by omega, ?_⟩
      show _ ∉ d.free
      rw [hf]; intro hh; cases hh
  · rw [e, c] at so2 ⊢
    rw [b]
    have hpm : p ∈ d.free := by rw [hl]; exact List.mem_append_right _ (List.mem_singleton.2 rfl)
    have hp := o.fit.free p hpm
    have hnd := so.nodup
    rw [hl] at hnd
    have hpl : p ∉ l := fun hm => (List.nodup_append.1 hnd).2.2 p hm p (List.mem_singleton.2 rfl) rfl
    refine ⟨fun x hx => ?_, fun _ => ⟨?_, ?_⟩⟩
    · rw [so.hasI, decide_eq_true_eq] at hx
      rw [so2.hasI, decide_eq_true_eq]
      refine ⟨hx.1, hx.2.1, fun hm => hx.2.2 ?_⟩
      rw [hl]; exact List.mem_append_left _ hm
    · rw [so.hasI, decide_eq_false_iff_not, Int.toNat_natCast]
      exact fun hh => hh.2.2 hpm
    · rw [so2.hasI, decide_eq_true_eq, Int.toNat_natCast]
      exact ⟨by omega, by omega, hpl⟩
theorem make504 (w : World) : (Instr.makeSlice 77 (.int .i64 504) (.int .i64 504)).run Tryd.prog w = .ok (.slice (some ⟨w.heap.size, 0, none⟩) 504 504) (w.alloc (.cells (UK.bcells (UK.zeros 504)) 5)) := by kernel_rfl
theorem SlAt.only {g : Nat} {ao : Option Addr} {n : Nat} {l : List Int} (h : SlAt W ao n l) (ho : Only g W W') (hn : ¬ slB ao g) : SlAt W' ao n l :=
  h.of_block ho.size (fun j hj => ho.block j (h.lt hj) (fun e => hn (e ▸ hj)))
theorem slB_inj {a b : Nat} (h : slB (some ⟨a, 0, none⟩) b) : b = a := (congrArg Addr.block (Option.some.inj h)).symm
set_option maxRecDepth 100000 in
/-- one page more -/
theorem SlAt.push {ao : Option Addr} {m : Nat} {l : List Int} (h : SlAt W ao m l) (hl : l.length < 1000000000) (v : Int) :
    ∃ g' c' W', (Builtin.append_ #[88, 88] 88 #[.slice ao l.length m, .slice (some ⟨W.heap.size, 0, none⟩) 1 1]).run Tryd.prog (W.alloc (.cells #[.int .i64 v] 3)) = .ok (.slice (some ⟨g', 0, none⟩) (l.length + 1) c') W' ∧ Row W' g' c' (intVs (l ++ [v])) ∧ Only g' W W' ∧ (slB ao g' ∨ W.heap.size ≤ g') := by
  have ha : (ao = none ∧ intVs l = [] ∧ m = 0) ∨ ∃ g, ao = some ⟨g, 0, none⟩ ∧ Row W g m (intVs l) := by
    rcases h with ⟨a, b, e⟩ | h
    · exact .inl ⟨a, by rw [b]; rfl, e⟩
    · exact .inr h
  have hlen : (intVs l).length = l.length := List.length_map _
  obtain ⟨g', c', W', e, r, o, hg⟩ := UK.push_one (P := Tryd.prog) (t := 88) (ty := 88) Tryd.underlying88 (i := Tryd.t3) rfl rfl rfl (show (8 : Nat) ≤ 16 by omega) rfl ha (.int .i64 v) rfl (by rw [hlen]; omega)
  rw [hlen] at e
  exact ⟨g', c', W', e, by unfold intVs at *; rw [List.map_append]; exact r, o, hg⟩
/-- a page that came is noted -/
theorem PD.made (h : PD E W P D FB M q d cnt) {o : Opn} (hq : q.op = some o) {g' c' : Nat} {w1 : World} (v : Int) (hv : (Lit.int .i64 v).wf = true) (r : Row w1 g' c' (intVs (o.made ++ [v]))) (ho : Only g' W w1) (hg : slB o.mo g' ∨ W.heap.size ≤ g') (hl : o.made.length < 1000000000) :
    PD E (w1.setCell ⟨P, 7, none⟩ (.slice (some ⟨g', 0, none⟩) (o.made.length + 1) c')) P D FB M { frames := q.frames, hand := q.hand, pins := q.pins, op := some { o with mo := some ⟨g', 0, none⟩, mc := c', made := o.made ++ [v] } } d cnt ∧ Kept E W (w1.setCell ⟨P, 7, none⟩ (.slice (some ⟨g', 0, none⟩) (o.made.length + 1) c')) ∧ Box w1 P (pcells D FB q.frames.length M q.hand q.pins q.op) := by
  have hp := h.pool
  have hi := hp.op o hq
  have hPl := hp.box.lt
  have hoB : ∀ j, opB (some o) j → opB q.op j := fun j hj => by rw [hq]; exact hj
  have hoff : ∀ j, opB (some o) j → j ≠ P := fun j hj => (hp.opOff j (hoB j hj)).1
  have hgP : P ≠ g' := by
    rcases hg with h1 | h1
    · exact (hoff g' (.inr (.inl h1))).symm
    · omega
  have hwl := hi.was.lt
  have hwg : o.wb ≠ g' := by
    rcases hg with h1 | h1
    · exact fun e => hi.wm (e ▸ h1)
    · omega
  have hgg : ¬ slB o.go g' := by
    rcases hg with h1 | h1
    · exact hi.mg g' h1
    · exact fun e => by have := hi.gone.lt e; omega
  have o2 : Only P w1 (w1.setCell ⟨P, 7, none⟩ (.slice (some ⟨g', 0, none⟩) (o.made.length + 1) c')) := (Only.refl P w1).set 7 _
  have hbx := hp.box.only ho hgP
  have hb := hbx.set 7 (.slice (some ⟨g', 0, none⟩) (o.made.length + 1) c')
  generalize w1.setCell ⟨P, 7, none⟩ (.slice (some ⟨g', 0, none⟩) (o.made.length + 1) c') = w2 at o2 hb ⊢
  refine (fun hfin : PD E w2 P D FB M { frames := q.frames, hand := q.hand, pins := q.pins, op := some { o with mo := some ⟨g', 0, none⟩, mc := c', made := o.made ++ [v] } } d cnt ∧ Kept E W w2 => ⟨hfin.1, hfin.2, hbx⟩) ?_
  refine h.setOp (o2.os.trans ho.os) (o2.tape.trans ho.tape) (o2.output.trans ho.output) (Nat.le_trans ho.size o2.size) ?_ (fun x hx => ?_) (fun j hj => ?_) (fun j hj hjP hjo => ?_)
  · rw [hq] at hb
    have e : (pcells D FB q.frames.length M q.hand q.pins (some o)).set! 7 (.slice (some ⟨g', 0, none⟩) (o.made.length + 1) c') = pcells D FB q.frames.length M q.hand q.pins (some { o with mo := some ⟨g', 0, none⟩, mc := c', made := o.made ++ [v] }) := by
      have el : (o.made ++ [v]).length = o.made.length + 1 := by simp
      simp [vOpen, vWas, vMade, vGone, el]
    rw [e] at hb; exact hb
  · obtain rfl := Option.some.inj hx
    refine ⟨(hi.was.of_block (ho.block _ hwl hwg)).of_block (o2.block _ (Nat.lt_of_lt_of_le hwl ho.size) (hoff _ (.inl rfl))), .inr ⟨g', rfl, r.only o2 hgP.symm⟩, (hi.gone.only ho hgg).only o2 (fun e => hoff P (.inr (.inr e)) rfl), fun e => hwg (slB_inj e), hi.wg, fun j hj => by rw [slB_inj hj]; exact hgg, fun p hp => ?_, hi.goneW, ⟨hi.few.1, by show (o.made ++ [v]).length ≤ _; rw [List.length_append, List.length_singleton]; omega, hi.few.2.2⟩⟩
    rcases List.mem_append.1 hp with hp | hp
    · exact hi.madeW p hp
    · rw [List.mem_singleton.1 hp]; exact hv
  · rcases hj with hj | hj | hj
    · exact .inl (hoB j (.inl hj))
    · rw [slB_inj hj]
      rcases hg with h1 | h1
      · exact .inl (hoB _ (.inr (.inl h1)))
      · exact .inr h1
    · exact .inl (hoB j (.inr (.inr hj)))
  · refine (o2.block j (Nat.lt_of_lt_of_le hj ho.size) hjP).trans (ho.block j hj (fun e => ?_))
    rcases hg with h1 | h1
    · exact hjo (e ▸ hoB g' (.inr (.inl h1)))
    · omega
/-- a page that is to go is noted -/
theorem PD.gone (h : PD E W P D FB M q d cnt) {o : Opn} (hq : q.op = some o) {g' c' : Nat} {w1 : World} (v : Int) (hv : (Lit.int .i64 v).wf = true) (r : Row w1 g' c' (intVs (o.gone ++ [v]))) (ho : Only g' W w1) (hg : slB o.go g' ∨ W.heap.size ≤ g') (hl : o.gone.length < 1000000000) :
    PD E (w1.setCell ⟨P, 8, none⟩ (.slice (some ⟨g', 0, none⟩) (o.gone.length + 1) c')) P D FB M { frames := q.frames, hand := q.hand, pins := q.pins, op := some { o with go := some ⟨g', 0, none⟩, gc := c', gone := o.gone ++ [v] } } d cnt ∧ Kept E W (w1.setCell ⟨P, 8, none⟩ (.slice (some ⟨g', 0, none⟩) (o.gone.length + 1) c')) ∧ Box w1 P (pcells D FB q.frames.length M q.hand q.pins q.op) := by
  have hp := h.pool
  have hi := hp.op o hq
  have hPl := hp.box.lt
  have hoB : ∀ j, opB (some o) j → opB q.op j := fun j hj => by rw [hq]; exact hj
  have hoff : ∀ j, opB (some o) j → j ≠ P := fun j hj => (hp.opOff j (hoB j hj)).1
  have hgP : P ≠ g' := by
    rcases hg with h1 | h1
    · exact (hoff g' (.inr (.inr h1))).symm
    · omega
  have hwl := hi.was.lt
  have hwg : o.wb ≠ g' := by
    rcases hg with h1 | h1
    · exact fun e => hi.wg (e ▸ h1)
    · omega
  have hgg : ¬ slB o.mo g' := by
    rcases hg with h1 | h1
    · exact fun e => hi.mg g' e h1
    · exact fun e => by have := hi.made.lt e; omega
  have o2 : Only P w1 (w1.setCell ⟨P, 8, none⟩ (.slice (some ⟨g', 0, none⟩) (o.gone.length + 1) c')) := (Only.refl P w1).set 8 _
  have hbx := hp.box.only ho hgP
  have hb := hbx.set 8 (.slice (some ⟨g', 0, none⟩) (o.gone.length + 1) c')
  generalize w1.setCell ⟨P, 8, none⟩ (.slice (some ⟨g', 0, none⟩) (o.gone.length + 1) c') = w2 at o2 hb ⊢
  refine (fun hfin : PD E w2 P D FB M { frames := q.frames, hand := q.hand, pins := q.pins, op := some { o with go := some ⟨g', 0, none⟩, gc := c', gone := o.gone ++ [v] } } d cnt ∧ Kept E W w2 => ⟨hfin.1, hfin.2, hbx⟩) ?_
  refine h.setOp (o2.os.trans ho.os) (o2.tape.trans ho.tape) (o2.output.trans ho.output) (Nat.le_trans ho.size o2.size) ?_ (fun x hx => ?_) (fun j hj => ?_) (fun j hj hjP hjo => ?_)
  · rw [hq] at hb
    have e : (pcells D FB q.frames.length M q.hand q.pins (some o)).set! 8 (.slice (some ⟨g', 0, none⟩) (o.gone.length + 1) c') = pcells D FB q.frames.length M q.hand q.pins (some { o with go := some ⟨g', 0, none⟩, gc := c', gone := o.gone ++ [v] }) := by
      have el : (o.gone ++ [v]).length = o.gone.length + 1 := by simp
      simp [vOpen, vWas, vMade, vGone, el]
    rw [e] at hb; exact hb
  · obtain rfl := Option.some.inj hx
    refine ⟨(hi.was.of_block (ho.block _ hwl hwg)).of_block (o2.block _ (Nat.lt_of_lt_of_le hwl ho.size) (hoff _ (.inl rfl))), (hi.made.only ho hgg).only o2 (fun e => hoff P (.inr (.inl e)) rfl), .inr ⟨g', rfl, r.only o2 hgP.symm⟩, hi.wm, fun e => hwg (slB_inj e), fun j hj e => hgg (slB_inj e ▸ hj), hi.madeW, fun p hp => ?_, ⟨hi.few.1, hi.few.2.1, by show (o.gone ++ [v]).length ≤ _; rw [List.length_append, List.length_singleton]; omega⟩⟩
    rcases List.mem_append.1 hp with hp | hp
    · exact hi.goneW p hp
    · rw [List.mem_singleton.1 hp]; exact hv
  · rcases hj with hj | hj | hj
    · exact .inl (hoB j (.inl hj))
    · exact .inl (hoB j (.inr (.inl hj)))
    · rw [slB_inj hj]
      rcases hg with h1 | h1
      · exact .inl (hoB _ (.inr (.inr h1)))
      · exact .inr h1
  · refine (o2.block j (Nat.lt_of_lt_of_le hj ho.size) hjP).trans (ho.block j hj (fun e => ?_))
    rcases hg with h1 | h1
    · exact hjo (e ▸ hoB g' (.inr (.inr h1)))
    · omega
/-- may no page come? -/
def fullD (d : Dk) (cnt : Nat) : Prop := d.most ≤ cnt ∧ d.free = []
theorem take_calm (h : Calm q d cnt c) (h3 : d.puts + 1 < 1000000000) (hf : ¬ fullD d cnt) (hh : ∀ (i : Nat) (f : Fr), q.frames[i]? = some (some f) → hasD d cnt f.page = true) : tE d cnt = 0 ∧ Calm q (tD d cnt) (tC d cnt) (setC c (tP d cnt) (UK.zeros 504)) := by
  have hwl : d.wl ≠ 0 := by rw [h.clean.wl]; decide
  rcases take_split d cnt with ⟨a, b, _⟩ | ⟨_, a, _⟩ | ⟨hm, _, hfr, a, b, e, c⟩ | ⟨_, l, p, hl, a, b, e, c⟩
  · exact absurd ⟨a, b⟩ hf
  · exact absurd a hwl
  · rw [a, b, e, c]; exact ⟨rfl, h.takeN h3 hfr hm hh⟩
  · rw [a, b, e, c]; exact ⟨rfl, h.takeF h3 hl hh⟩
/-- the note of a page that came -/
def MadeO (o o' : Option Opn) (p : Int) : Prop := (o = none ∧ o' = none) ∨ ∃ x y, o = some x ∧ o' = some y ∧ y.was = x.was ∧ y.wn = x.wn ∧ y.made = x.made ++ [p] ∧ y.gone = x.gone
def GoneO (o o' : Option Opn) (p : Int) : Prop := ∃ x y, o = some x ∧ o' = some y ∧ y.was = x.was ∧ y.wn = x.wn ∧ y.made = x.made ∧ y.gone = x.gone ++ [p]
/-- behind Take: no room -/
def TakeN (E : Nat → Prop) (W w' : World) (P D FB M n : Nat) (kp : Int) (q : Pl) (d : Dk) (cnt k : Nat) (c : Nat → List UInt8) (e : Ending) : Prop :=
  ∃ (q' : Pl) (d' : Dk), e = .returned (.tuple #[.pointer none, .int .i64 6]) ∧ PS E w' P D FB M n kp q' d' cnt (k + 2) c ∧ Kept E W w' ∧ q'.op = q.op ∧ d'.free = d.free ∧ d'.most = d.most
/-- behind Take: a page -/
def TakeY (E : Nat → Prop) (W w' : World) (P D FB M n : Nat) (kp : Int) (q : Pl) (d : Dk) (cnt k : Nat) (c : Nat → List UInt8) (e : Ending) : Prop :=
  ∃ (i : Nat) (f : Fr) (q' : Pl) (d' : Dk), e = .returned (.tuple #[.pointer (some ⟨f.blk, 0, none⟩), .int .i64 0]) ∧ q'.frames[i]? = some (some f) ∧ f.page = (tP d cnt : Nat) ∧ 0 < f.pins ∧ PS E w' P D FB M n (kp + 1) q' d' (tC d cnt) (k + 2) (setC c (tP d cnt) (UK.zeros 504)) ∧ Kept E W w' ∧ MadeO q.op q'.op (tP d cnt : Nat) ∧ d'.free = (tD d cnt).free ∧ d'.most = d.most
theorem t_same {d d' : Dk} (hf : d'.free = d.free) (hm : d'.most = d.most) (hw : d'.wl = d.wl) (cnt : Nat) : tE d' cnt = tE d cnt ∧ tP d' cnt = tP d cnt ∧ tC d' cnt = tC d cnt ∧ (tD d' cnt).free = (tD d cnt).free ∧ (tD d' cnt).most = (tD d cnt).most := by
  unfold tE tP tC tD
  rw [hf, hm, hw]
  refine ⟨rfl, rfl, rfl, ?_, ?_⟩
  all_goals
    split
    · first | rfl | exact hf | exact hm
    · split
      · first | rfl | exact hf | exact hm
      · split
        · first | rfl | exact hf | exact hm
        · first | rfl | exact hm
set_option maxHeartbeats 1000000 in
set_option maxRecDepth 100000 in
theorem take_none (h : PS E W P D FB M n kp q d cnt k c) (hk : k + 2 < 900000000) (hkp : 0 ≤ kp ∧ kp < n) (hf : fullD d cnt) :
    Calls Tryd.prog 39 #[.pointer (some ⟨P, 0, none⟩)] W fun e w' => TakeN E W w' P D FB M n kp q d cnt k c e := by
  have HR := Lib.hid (croom_any h (by omega) hkp)
  clear h
  go_enter Tryd.func39, Tryd.ntmps39
  go_wp2_with fail
  refine HR.out.mono ?_
  rintro e w3 ⟨i, q', d', rfl, hi3, s3, k3, hop, hfr, hmo, hfw, hhs⟩
  have hf2 : d'.most ≤ cnt ∧ d'.free = [] := by rw [hfr, hmo]; exact hf
  have hT := dd_take_u s3.pd.dd s3.dok (by omega)
  have e1 : tE d' cnt = 6 := by unfold tE; rw [if_pos hf2]
  have e2 : tP d' cnt = 0 := by unfold tP; rw [if_pos hf2]
  have e3 : tD d' cnt = d' := by unfold tD; rw [if_pos hf2]
  have e4 : tC d' cnt = cnt := by unfold tC; rw [if_pos hf2]
  rw [e1, e2, e3, e4] at hT
  have HT := Lib.hid hT
  have c0 : w3.cell? ⟨P, 0, none⟩ = some (.pointer (some ⟨D, 0, none⟩)) := s3.pd.pool.box.cell 0 _ rfl
  have HS3 := Lib.hid (And.intro s3 (And.intro k3 (And.intro hop (And.intro hfr hmo))))
  clear HR hT s3 k3 hop hfr hmo hfw hhs hi3 hf2 e1 e2 e3 e4
  go_wp2_with fail
  refine HT.out.mono ?_
  rintro e w4 ⟨rfl, d4, k4⟩
  obtain ⟨s3, k3, hop, hfr, hmo⟩ := HS3.out
  have s4 : PS E w4 P D FB M n kp q' d' cnt (k + 2) c := (show PS E w4 P D FB M n kp q' d' cnt (k + 1) c from ⟨s3.pd.disk d4 k4, s3.ok, s3.dok, s3.held, s3.pins, s3.len, s3.calm, s3.lim⟩).up (by omega)
  have HF := Lib.hid (And.intro s4 (And.intro (k3.trans (k4.mono (fun j hj => .inl hj))) (And.intro hop (And.intro hfr hmo))))
  clear HT HS3 s3 s4 d4 k4 k3 hop hfr hmo c0
  go_wp2
  go_ret2
  exact ⟨q', d', rfl, HF.out.1, HF.out.2.1, HF.out.2.2.1, HF.out.2.2.2.1, HF.out.2.2.2.2⟩
theorem MadeO.lim {o o' : Option Opn} {p : Int} (h : MadeO o o' p) (hl : ∀ x, o = some x → x.wn ≤ k ∧ x.made.length ≤ k ∧ x.gone.length ≤ k) : ∀ x, o' = some x → x.wn ≤ k + 1 ∧ x.made.length ≤ k + 1 ∧ x.gone.length ≤ k + 1 := fun x hx => by
  rcases h with ⟨_, h⟩ | ⟨a, b, ha, hb, h1, h2, h3, h4⟩
  · rw [h] at hx; cases hx
  · rw [hb] at hx
    have := hl a ha
    rw [← Option.some.inj hx, h2, h3, h4, List.length_append, List.length_singleton]
    omega
theorem GoneO.lim {o o' : Option Opn} {p : Int} (h : GoneO o o' p) (hl : ∀ x, o = some x → x.wn ≤ k ∧ x.made.length ≤ k ∧ x.gone.length ≤ k) : ∀ x, o' = some x → x.wn ≤ k + 1 ∧ x.made.length ≤ k + 1 ∧ x.gone.length ≤ k + 1 := fun x hx => by
  obtain ⟨a, b, ha, hb, h1, h2, h3, h4⟩ := h
  rw [hb] at hx
  have := hl a ha
  rw [← Option.some.inj hx, h2, h3, h4, List.length_append, List.length_singleton]
  omega
set_option maxHeartbeats 1000000 in
set_option maxRecDepth 100000 in
/-- what follows where the page is there, and noted -/
theorem take_lay (h : PS E W P D FB M n kp q d cnt k c) (hkp : 0 ≤ kp ∧ kp < 1000000) {i : Nat} (hi : q.frames[i]? = some none) (p : Nat) (hp : hasD d cnt (p : Int) = true) (hno : ∀ (j : Nat) (g : Fr), q.frames[j]? = some (some g) → g.page ≠ (p : Int)) (hcp : c p = UK.zeros 504) (hpw : p < 60000) :
    Calls Tryd.prog 87 #[.pointer (some ⟨P, 0, none⟩), .int .i64 i, .int .i64 p, .string (str (UK.zeros 504))] W fun e w' => ∃ f : Fr, e = .returned (.pointer (some ⟨f.blk, 0, none⟩)) ∧ f.page = p ∧ 0 < f.pins ∧ PS E w' P D FB M n (kp + 1) { frames := q.frames.set i (some f), hand := q.hand, pins := q.pins + 1, op := q.op } d cnt k c ∧ Kept E W w' := by
  refine (play_any h.pd h.ok (by rw [h.pins]; omega) hi (p : Int) (WalkArith.wf_i64 (by omega)) hno (UK.zeros 504) (UK.zeros_length 504)).mono ?_
  rintro e w5 ⟨f, rfl, hfpg, hfda, hfp1, hfd, hfu, p5, k5⟩
  have hil := (List.getElem?_eq_some_iff.1 hi).1
  have hpo := h.ok.set hi (u := some f) (fun y hy => by rw [← Option.some.inj hy, hfp1]; omega)
  rw [show q.pins - pinO none + pinO (some f) = q.pins + 1 by show q.pins - 0 + f.pins = _; omega] at hpo
  refine ⟨f, rfl, hfpg, by omega, ⟨p5, hpo, h.dok, fun j g hj => ?_, by show q.pins + 1 = _; rw [h.pins], by show (q.frames.set i _).length = n; rw [List.length_set]; exact h.len, h.calm.lay hi (by rw [hfda, hfpg, Int.toNat_natCast, hcp]) _ _ _, h.lim⟩, k5⟩
  replace hj : (q.frames.set i (some f))[j]? = some (some g) := hj
  rw [get_set _ _ _ _ hil] at hj
  by_cases e : i = j
  · rw [if_pos e] at hj
    rw [← Option.some.inj (Option.some.inj hj), hfpg]; exact hp
  · rw [if_neg e] at hj; exact h.held j g hj
set_option maxHeartbeats 2000000 in
set_option maxRecDepth 100000 in
theorem take_some (h : PS E W P D FB M n kp q d cnt k c) (hk : k + 2 < 900000000) (hkp : 0 ≤ kp ∧ kp < n) (hf : ¬ fullD d cnt) :
    Calls Tryd.prog 39 #[.pointer (some ⟨P, 0, none⟩)] W fun e w' => TakeY E W w' P D FB M n kp q d cnt k c e := by
  have HR := Lib.hid (croom_any h (by omega) hkp)
  have hmk := make504
  have hfew := h.ok.few
  have hln := h.len
  have HWL := Lib.hid h.calm.clean.wl
  have hz2 : ((UK.zeros 504).drop 0).take 504 = UK.zeros 504 := by rw [List.drop_zero, List.take_of_length_le (by rw [UK.zeros_length]; omega)]
  have hcv := fun w : World => UK.run_window (P := Tryd.prog) (src := 77) (dst := 9) Tryd.underlying77 Tryd.underlying5 Tryd.underlying9 (bytes_new w (UK.zeros 504)) 0 504 504 (by rw [UK.zeros_length]; omega)
  rw [hz2] at hcv
  clear h hz2
  go_enter Tryd.func39, Tryd.ntmps39
  go_wp2_with fail
  refine HR.out.mono ?_
  rintro e w3 ⟨i, q', d', rfl, hi3, s3, k3, hop, hfr, hmo, hfw, hhs⟩
  have hf2 : ¬ fullD d' cnt := by unfold fullD; rw [hfr, hmo]; exact hf
  have hpu := s3.dok.puts
  obtain ⟨t0, t1⟩ := take_calm s3.calm (by omega) hf2 s3.held
  obtain ⟨e1, e2, e3, e4, e5⟩ := t_same hfr hmo (by rw [s3.calm.clean.wl, HWL.out]) cnt
  have hth := take_has s3.dok (by omega)
  have hT := dd_take_u s3.pd.dd s3.dok (by omega)
  have hokt := s3.dok.take (by omega)
  have hth2 := hth.2 t0
  have htf := hokt.fit.few
  have hth3 := hth2.2
  rw [hokt.so.hasI, decide_eq_true_eq] at hth3
  rw [t0] at hT
  have hmo2 : (tD d' cnt).most = d.most := by rw [e5, ← hmo]; exact (show (tD d cnt).most = d.most by unfold tD; split; rfl; split; rfl; split <;> rfl).trans hmo.symm
  have HE := Lib.hid (And.intro e2 (And.intro e3 (And.intro e4 (And.intro hmo2 hop))))
  have HI := Lib.hid hi3
  clear HR hop hfr hmo hfw hhs hi3 e1 e2 e3 e4 e5 hmo2 t0
  generalize htp : tP d' cnt = tp at hT hth2 hth3 t1 HE
  generalize htd : tD d' cnt = td at hT hth hth2 hth3 hokt t1 HE
  generalize htc : tC d' cnt = tc at hT hth hth2 hth3 hokt t1 HE htf
  have HT := Lib.hid hT
  have hpw : tp < 60000 := by omega
  have hno : ∀ (j : Nat) (g : Fr), q'.frames[j]? = some (some g) → g.page ≠ (tp : Int) := fun j g hj hg => by
    have := s3.held j g hj
    rw [hg, hth2.1] at this; cases this
  have c0 : w3.cell? ⟨P, 0, none⟩ = some (.pointer (some ⟨D, 0, none⟩)) := s3.pd.pool.box.cell 0 _ rfl
  have HLIM := Lib.hid s3.lim
  have HS3 := Lib.hid (And.intro s3 (And.intro k3 (And.intro hokt (And.intro t1 (And.intro hth hth2)))))
  have HNO := Lib.hid hno
  clear hT s3 k3 hokt t1 hth hth2 hth3 hf2 htp htd htc hno htf
  go_wp2_with fail
  refine HT.out.mono ?_
  rintro e w4 ⟨rfl, d4, k4⟩
  obtain ⟨s3, k3, hokt, t1, hth, hth2⟩ := HS3.out
  have s4 : PS E w4 P D FB M n kp q' td tc (k + 2) (setC c tp (UK.zeros 504)) := ⟨s3.pd.disk d4 k4, s3.ok, hokt, fun j g hj => hth.1 _ (s3.held j g hj), s3.pins, s3.len, t1, (s3.up (Nat.le_succ _)).lim⟩
  have K4 := Lib.hid (k3.trans (k4.mono (fun j hj => .inl hj)))
  have HH2 := Lib.hid hth2.2
  have c5 : w4.cell? ⟨P, 5, none⟩ = some (vOpen q'.op) := s4.pd.pool.box.cell 5 _ rfl
  have c7 : w4.cell? ⟨P, 7, none⟩ = some (vMade q'.op) := s4.pd.pool.box.cell 7 _ rfl
  have hc7 : setC c tp (UK.zeros 504) tp = UK.zeros 504 := by unfold setC; rw [if_pos rfl]
  have HC7 := Lib.hid hc7
  clear HS3 HT s3 k3 hokt t1 hth hth2 d4 k4 c0 hc7
  cases hq : q'.op with
  | none =>
    rw [hq] at c5
    simp only [vOpen, Option.isSome_none] at c5
    have hb4 : Below w4.heap.size w4 (w4.alloc (.cells (UK.bcells (UK.zeros 504)) 5)) := (Below.refl _ _).alloc (Nat.le_refl _) _
    have HL := Lib.hid (take_lay (s4.next hb4) ⟨hkp.1, by omega⟩ HI.out tp HH2.out HNO.out HC7.out hpw)
    have K5 := Lib.hid (K4.out.trans (s4.keptB hb4))
    have HQ := Lib.hid hq
    have hmk4 := hmk w4
    have hcv4 := hcv w4
    clear c7 s4 hb4 hq hmk hcv
    have HC := Lib.hid (rfl : setC c tp (UK.zeros 504) = setC c tp (UK.zeros 504))
    generalize hcc : setC c tp (UK.zeros 504) = cc at HL HC7
    have HCC := Lib.hid hcc
    clear hcc HC HC7
    generalize UK.zeros 504 = zz at hcv4 HL hmk4 K5
    go_wp2_with fail
    refine HL.out.mono ?_
    rintro e w5 ⟨f, rfl, hfpg, hfp, s5, k5⟩
    have HF := Lib.hid (And.intro hfpg (And.intro hfp (And.intro s5 (K5.out.trans k5))))
    clear HL K5 hcv4 hmk4 hfpg hfp s5 k5
    go_wp2
    go_ret2
    obtain ⟨hfpg, hfp, s5, k5⟩ := HF.out
    obtain ⟨e2, e3, e4, hmo2, hop⟩ := HE.out
    rw [← HCC.out] at s5
    rw [e2, e3] at s5
    exact ⟨i, f, _, td, rfl, by show (q'.frames.set i _)[i]? = _; rw [get_set _ _ _ _ (List.getElem?_eq_some_iff.1 HI.out).1, if_pos rfl], by rw [hfpg, e2], hfp, s5, k5, .inl ⟨by rw [← hop]; exact HQ.out, HQ.out⟩, e4, hmo2⟩
  | some o =>
    rw [hq] at c5 c7
    simp only [vOpen, vMade, Option.isSome_some] at c5 c7
    have ho := s4.pd.pool.op o hq
    have hlim := s4.lim o hq
    obtain ⟨g', c', w5, happ, r5, o5, hg5⟩ := ho.made.push (by omega) (tp : Int)
    obtain ⟨p6, k6, b5⟩ := s4.pd.made hq (tp : Int) (WalkArith.wf_i64 (by omega)) r5 o5 hg5 (by omega)
    have f7 := b5.free 7
    have c7' : w5.cell? ⟨P, 7, none⟩ = some (vMade q'.op) := b5.cell 7 _ rfl
    have hl3 := HLIM.out o hq
    have s6 := s4.op (op' := some { o with mo := some ⟨g', 0, none⟩, mc := c', made := o.made ++ [(tp : Int)] }) (fun x hx => by
      rw [← Option.some.inj hx]
      show o.wn ≤ _ ∧ (o.made ++ [(tp : Int)]).length ≤ _ ∧ o.gone.length ≤ _
      rw [List.length_append, List.length_singleton]
      omega) p6
    have HM : Hid (MadeO q'.op (some { o with mo := some ⟨g', 0, none⟩, mc := c', made := o.made ++ [(tp : Int)] }) (tp : Int)) := .inr ⟨o, _, hq, rfl, rfl, rfl, rfl, rfl⟩
    generalize hw6 : w5.setCell ⟨P, 7, none⟩ (.slice (some ⟨g', 0, none⟩) (o.made.length + 1) c') = w6 at s6 k6
    have hb4 : Below w6.heap.size w6 (w6.alloc (.cells (UK.bcells (UK.zeros 504)) 5)) := (Below.refl _ _).alloc (Nat.le_refl _) _
    have HL := Lib.hid (take_lay (s6.next hb4) ⟨hkp.1, by omega⟩ HI.out tp HH2.out HNO.out HC7.out hpw)
    have K5 := Lib.hid ((K4.out.trans k6).trans (s6.keptB hb4))
    have hmk4 := hmk w6
    have hcv4 := hcv w6
    clear s4 hb4 hq hmk hcv p6 b5 r5 o5 hg5 hlim hl3 ho k6 s6
    generalize hcc : setC c tp (UK.zeros 504) = cc at HL HC7
    have HCC := Lib.hid hcc
    clear hcc HC7
    generalize UK.zeros 504 = zz at hcv4 HL hmk4 K5
    have hsz6 : w6.heap.size = w5.heap.size := by rw [← hw6]; simp [World.setCell]
    rw [hsz6] at hcv4
    subst hw6
    clear hsz6
    go_wp2_with (at_builtin; refine UK.wpList_append_run happ rfl rfl rfl rfl rfl ?_)
    refine HL.out.mono ?_
    rintro e w7 ⟨f, rfl, hfpg, hfp, s7, k7⟩
    have HF := Lib.hid (And.intro hfpg (And.intro hfp (And.intro s7 (K5.out.trans k7))))
    clear HL K5 hcv4 hmk4 hfpg hfp s7 k7 happ c7' f7 c5 c7
    go_wp2
    go_ret2
    obtain ⟨hfpg, hfp, s5, k5⟩ := HF.out
    obtain ⟨e2, e3, e4, hmo2, hop⟩ := HE.out
    rw [← HCC.out] at s5
    rw [e2, e3] at s5
    refine ⟨i, f, _, td, rfl, by show (q'.frames.set i _)[i]? = _; rw [get_set _ _ _ _ (List.getElem?_eq_some_iff.1 HI.out).1, if_pos rfl], by rw [hfpg, e2], hfp, s5, k5, ?_, e4, hmo2⟩
    have hm := HM.out
    rw [hop, e2] at hm
    exact hm
end
end Go.Proofs.YtjfkdfffolkblaaDoor
