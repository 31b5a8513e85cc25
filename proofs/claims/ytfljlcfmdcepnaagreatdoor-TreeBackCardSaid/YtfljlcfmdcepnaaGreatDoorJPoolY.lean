/-
  The pool: pages that came, and that are to go; Take.
  The pool: Give.
-/
import Derived.Test.YtfljlcfmdcepnaaGreatDoorJPoolW
namespace Go.Proofs.YtfljlcfmdcepnaaGreatDoor
open Go.RowKit
open UK (str BytesAt nth Only Row Box IntMap StrMap)
open Go.BigFrame
section
variable {E : Nat → Prop} {W W' : World} {P D FB M cnt k n : Nat} {kp : Int} {q : Pl} {d d' : Dk} {c : Nat → List UInt8}
theorem take_has (o : Ok d cnt k) (hk : k < 900000000) : (∀ a, hasD d cnt a = true → hasD (tD d cnt) (tC d cnt) a = true) ∧ (tE d cnt = 0 → hasD d cnt (tP d cnt : Nat) = false ∧ hasD (tD d cnt) (tC d cnt) (tP d cnt : Nat) = true) := by
  have so2 := (o.take hk).so
  have so := o.so
  have hone := o.fit.one
  rcases take_split d cnt with ⟨_, _, a, b, e, c⟩ | ⟨_, _, a, b, e, c⟩ | ⟨_, _, hf, a, b, e, c⟩ | ⟨_, l, p, hl, a, b, e, c⟩
  · rw [e, c, a]; exact ⟨fun _ h => h, fun h => absurd h (by decide)⟩
  · rw [e, c, a]; exact ⟨fun _ h => h, fun h => absurd h (by decide)⟩
  · rw [e, c] at so2 ⊢
    rw [b]
    refine ⟨fun x hx => ?_, fun _ => ⟨?_, ?_⟩⟩
    · rw [so.hasI, decide_eq_true_eq] at hx
      rw [so2.hasI, decide_eq_true_eq]
      exact ⟨hx.1, by omega, hx.2.2⟩
    · rw [so.hasI, decide_eq_false_iff_not]; omega
    · rw [so2.hasI, decide_eq_true_eq]
      refine ⟨by omega, by omega, ?_⟩
      show _ ∉ d.free
      rw [hf]; intro hh; cases hh
  · rw [e, c] at so2 ⊢
    rw [b]
    have hpm : p ∈ d.free := by rw [hl]; exact List.mem_append_right _ (List.mem_singleton.2 rfl)
    have hp := o.fit.free p hpm
    have hnd := so.nodup
    rw [hl] at hnd
    have hpl : p ∉ l := fun hm => (List.nodup_append.1 hnd).2.2 p hm p (List.mem_singleton.2 rfl) rfl
    refine ⟨fun x hx => ?_, fun _ => ⟨?_, ?_⟩⟩
    · rw [so.hasI, decide_eq_true_eq] at hx
      rw [so2.hasI, decide_eq_true_eq]
      refine ⟨hx.1, hx.2.1, fun hm => hx.2.2 ?_⟩
      rw [hl]; exact List.mem_append_left _ hm
    · rw [so.hasI, decide_eq_false_iff_not, Int.toNat_natCast]
      exact fun hh => hh.2.2 hpm
    · rw [so2.hasI, decide_eq_true_eq, Int.toNat_natCast]
      exact ⟨by omega, by omega, hpl⟩
theorem make504 (w : World) : (Instr.makeSlice 87 (.int .i64 504) (.int .i64 504)).run Tryz.prog w = .ok (.slice (some ⟨w.heap.size, 0, none⟩) 504 504) (w.alloc (.cells (UK.bcells (UK.zeros 504)) 5)) := by kernel_rfl
theorem SlAt.only {g : Nat} {ao : Option Addr} {n : Nat} {l : List Int} (h : SlAt W ao n l) (ho : Only g W W') (hn : ¬ slB ao g) : SlAt W' ao n l :=
  h.of_block ho.size (fun j hj => ho.block j (h.lt hj) (fun e => hn (e ▸ hj)))
theorem slB_inj {a b : Nat} (h : slB (some ⟨a, 0, none⟩) b) : b = a := (congrArg Addr.block (Option.some.inj h)).symm
set_option maxRecDepth 100000 in
theorem SlAt.push {ao : Option Addr} {m : Nat} {l : List Int} (h : SlAt W ao m l) (hl : l.length < 1000000000) (v : Int) :
    ∃ g' c' W', (Builtin.append_ #[82, 82] 82 #[.slice ao l.length m, .slice (some ⟨W.heap.size, 0, none⟩) 1 1]).run Tryz.prog (W.alloc (.cells #[.int .i64 v] 3)) = .ok (.slice (some ⟨g', 0, none⟩) (l.length + 1) c') W' ∧ Row W' g' c' (intVs (l ++ [v])) ∧ Only g' W W' ∧ (slB ao g' ∨ W.heap.size ≤ g') := by
  have ha : (ao = none ∧ intVs l = [] ∧ m = 0) ∨ ∃ g, ao = some ⟨g, 0, none⟩ ∧ Row W g m (intVs l) := by
    rcases h with ⟨a, b, e⟩ | h
    · exact .inl ⟨a, by rw [b]; rfl, e⟩
    · exact .inr h
  have hlen : (intVs l).length = l.length := List.length_map _
  obtain ⟨g', c', W', e, r, o, hg⟩ := UK.push_one (P := Tryz.prog) (t := 82) (ty := 82) Tryz.underlying82 (i := Tryz.t3) rfl rfl rfl (show (8 : Nat) ≤ 16 by omega) rfl ha (.int .i64 v) rfl (by rw [hlen]; omega)
  rw [hlen] at e
  exact ⟨g', c', W', e, by unfold intVs at *; rw [List.map_append]; exact r, o, hg⟩
theorem PD.made (h : PD E W P D FB M q d cnt) {o : Opn} (hq : q.op = some o) {g' c' : Nat} {w1 : World} (v : Int) (hv : (Lit.int .i64 v).wf = true) (r : Row w1 g' c' (intVs (o.made ++ [v]))) (ho : Only g' W w1) (hg : slB o.mo g' ∨ W.heap.size ≤ g') (hl : o.made.length < 1000000000) :
    PD E (w1.setCell ⟨P, 7, none⟩ (.slice (some ⟨g', 0, none⟩) (o.made.length + 1) c')) P D FB M { frames := q.frames, hand := q.hand, pins := q.pins, op := some { o with mo := some ⟨g', 0, none⟩, mc := c', made := o.made ++ [v] } } d cnt ∧ Kept E W (w1.setCell ⟨P, 7, none⟩ (.slice (some ⟨g', 0, none⟩) (o.made.length + 1) c')) ∧ Box w1 P (pcells D FB q.frames.length M q.hand q.pins q.op) := by
  have hp := h.pool
  have hi := hp.op o hq
  have hPl := hp.box.lt
  have hoB : ∀ j, opB (some o) j → opB q.op j := fun j hj => by rw [hq]; exact hj
  have hoff : ∀ j, opB (some o) j → j ≠ P := fun j hj => (hp.opOff j (hoB j hj)).1
  have hgP : P ≠ g' := by
    rcases hg with h1 | h1
    · exact (hoff g' (.inr (.inl h1))).symm
    · omega
  have hwl := hi.was.lt
  have hwg : o.wb ≠ g' := by
    rcases hg with h1 | h1
    · exact fun e => hi.wm (e ▸ h1)
    · omega
  have hgg : ¬ slB o.go g' := by
    rcases hg with h1 | h1
    · exact hi.mg g' h1
    · exact fun e => by have := hi.gone.lt e; omega
  have o2 : Only P w1 (w1.setCell ⟨P, 7, none⟩ (.slice (some ⟨g', 0, none⟩) (o.made.length + 1) c')) := (Only.refl P w1).set 7 _
  have hbx := hp.box.only ho hgP
  have hb := hbx.set 7 (.slice (some ⟨g', 0, none⟩) (o.made.length + 1) c')
  generalize w1.setCell ⟨P, 7, none⟩ (.slice (some ⟨g', 0, none⟩) (o.made.length + 1) c') = w2 at o2 hb ⊢
  refine (fun hfin : PD E w2 P D FB M { frames := q.frames, hand := q.hand, pins := q.pins, op := some { o with mo := some ⟨g', 0, none⟩, mc := c', made := o.made ++ [v] } } d cnt ∧ Kept E W w2 => ⟨hfin.1, hfin.2, hbx⟩) ?_
  refine h.setOp (o2.os.trans ho.os) (o2.tape.trans ho.tape) (o2.output.trans ho.output) (Nat.le_trans ho.size o2.size) ?_ (fun x hx => ?_) (fun j hj => ?_) (fun j hj hjP hjo => ?_)
  · rw [hq] at hb
    have e : (pcells D FB q.frames.length M q.hand q.pins (some o)).set! 7 (.slice (some ⟨g', 0, none⟩) (o.made.length + 1) c') = pcells D FB q.frames.length M q.hand q.pins (some { o with mo := some ⟨g', 0, none⟩, mc := c', made := o.made ++ [v] }) := by
      have el : (o.made ++ [v]).length = o.made.length + 1 := by simp
      simp [vOpen, vWas, vMade, vGone, el]
    rw [e] at hb; exact hb
  · obtain rfl := Option.some.inj hx
    refine ⟨(hi.was.of_block (ho.block _ hwl hwg)).of_block (o2.block _ (Nat.lt_of_lt_of_le hwl ho.size) (hoff _ (.inl rfl))), .inr ⟨g', rfl, r.only o2 hgP.symm⟩, (hi.gone.only ho hgg).only o2 (fun e => hoff P (.inr (.inr e)) rfl), fun e => hwg (slB_inj e), hi.wg, fun j hj => by rw [slB_inj hj]; exact hgg, fun p hp => ?_, hi.goneW, ⟨hi.few.1, by show (o.made ++ [v]).length ≤ _; rw [List.length_append, List.length_singleton]; omega, hi.few.2.2⟩⟩
    rcases List.mem_append.1 hp with hp | hp
    · exact hi.madeW p hp
    · rw [List.mem_singleton.1 hp]; exact hv
  · rcases hj with hj | hj | hj
    · exact .inl (hoB j (.inl hj))
    · rw [slB_inj hj]
      rcases hg with h1 | h1
      · exact .inl (hoB _ (.inr (.inl h1)))
      · exact .inr h1
    · exact .inl (hoB j (.inr (.inr hj)))
  · refine (o2.block j (Nat.lt_of_lt_of_le hj ho.size) hjP).trans (ho.block j hj (fun e => ?_))
    rcases hg with h1 | h1
    · exact hjo (e ▸ hoB g' (.inr (.inl h1)))
    · omega
theorem PD.gone (h : PD E W P D FB M q d cnt) {o : Opn} (hq : q.op = some o) {g' c' : Nat} {w1 : World} (v : Int) (hv : (Lit.int .i64 v).wf = true) (r : Row w1 g' c' (intVs (o.gone ++ [v]))) (ho : Only g' W w1) (hg : slB o.go g' ∨ W.heap.size ≤ g') (hl : o.gone.length < 1000000000) :
    PD E (w1.setCell ⟨P, 8, none⟩ (.slice (some ⟨g', 0, none⟩) (o.gone.length + 1) c')) P D FB M { frames := q.frames, hand := q.hand, pins := q.pins, op := some { o with go := some ⟨g', 0, none⟩, gc := c', gone := o.gone ++ [v] } } d cnt ∧ Kept E W (w1.setCell ⟨P, 8, none⟩ (.slice (some ⟨g', 0, none⟩) (o.gone.length + 1) c')) ∧ Box w1 P (pcells D FB q.frames.length M q.hand q.pins q.op) := by
  have hp := h.pool
  have hi := hp.op o hq
  have hPl := hp.box.lt
  have hoB : ∀ j, opB (some o) j → opB q.op j := fun j hj => by rw [hq]; exact hj
  have hoff : ∀ j, opB (some o) j → j ≠ P := fun j hj => (hp.opOff j (hoB j hj)).1
  have hgP : P ≠ g' := by
    rcases hg with h1 | h1
    · exact (hoff g' (.inr (.inr h1))).symm
    · omega
  have hwl := hi.was.lt
  have hwg : o.wb ≠ g' := by
    rcases hg with h1 | h1
    · exact fun e => hi.wg (e ▸ h1)
    · omega
  have hgg : ¬ slB o.mo g' := by
    rcases hg with h1 | h1
    · exact fun e => hi.mg g' e h1
    · exact fun e => by have := hi.made.lt e; omega
  have o2 : Only P w1 (w1.setCell ⟨P, 8, none⟩ (.slice (some ⟨g', 0, none⟩) (o.gone.length + 1) c')) := (Only.refl P w1).set 8 _
  have hbx := hp.box.only ho hgP
  have hb := hbx.set 8 (.slice (some ⟨g', 0, none⟩) (o.gone.length + 1) c')
  generalize w1.setCell ⟨P, 8, none⟩ (.slice (some ⟨g', 0, none⟩) (o.gone.length + 1) c') = w2 at o2 hb ⊢
  refine (fun hfin : PD E w2 P D FB M { frames := q.frames, hand := q.hand, pins := q.pins, op := some { o with go := some ⟨g', 0, none⟩, gc := c', gone := o.gone ++ [v] } } d cnt ∧ Kept E W w2 => ⟨hfin.1, hfin.2, hbx⟩) ?_
  refine h.setOp (o2.os.trans ho.os) (o2.tape.trans ho.tape) (o2.output.trans ho.output) (Nat.le_trans ho.size o2.size) ?_ (fun x hx => ?_) (fun j hj => ?_) (fun j hj hjP hjo => ?_)
  · rw [hq] at hb
    have e : (pcells D FB q.frames.length M q.hand q.pins (some o)).set! 8 (.slice (some ⟨g', 0, none⟩) (o.gone.length + 1) c') = pcells D FB q.frames.length M q.hand q.pins (some { o with go := some ⟨g', 0, none⟩, gc := c', gone := o.gone ++ [v] }) := by
      have el : (o.gone ++ [v]).length = o.gone.length + 1 := by simp
      simp [vOpen, vWas, vMade, vGone, el]
    rw [e] at hb; exact hb
  · obtain rfl := Option.some.inj hx
    refine ⟨(hi.was.of_block (ho.block _ hwl hwg)).of_block (o2.block _ (Nat.lt_of_lt_of_le hwl ho.size) (hoff _ (.inl rfl))), (hi.made.only ho hgg).only o2 (fun e => hoff P (.inr (.inl e)) rfl), .inr ⟨g', rfl, r.only o2 hgP.symm⟩, hi.wm, fun e => hwg (slB_inj e), fun j hj e => hgg (slB_inj e ▸ hj), hi.madeW, fun p hp => ?_, ⟨hi.few.1, hi.few.2.1, by show (o.gone ++ [v]).length ≤ _; rw [List.length_append, List.length_singleton]; omega⟩⟩
    rcases List.mem_append.1 hp with hp | hp
    · exact hi.goneW p hp
    · rw [List.mem_singleton.1 hp]; exact hv
  · rcases hj with hj | hj | hj
    · exact .inl (hoB j (.inl hj))
    · exact .inl (hoB j (.inr (.inl hj)))
    · rw [slB_inj hj]
      rcases hg with h1 | h1
      · exact .inl (hoB _ (.inr (.inr h1)))
      · exact .inr h1
  · refine (o2.block j (Nat.lt_of_lt_of_le hj ho.size) hjP).trans (ho.block j hj (fun e => ?_))
    rcases hg with h1 | h1
    · exact hjo (e ▸ hoB g' (.inr (.inr h1)))
    · omega
def fullD (d : Dk) (cnt : Nat) : Prop := d.most ≤ cnt ∧ d.free = []
theorem take_calm (h : Calm q d cnt c) (h3 : d.puts + 1 < 1000000000) (hf : ¬ fullD d cnt) (hh : ∀ (i : Nat) (f : Fr), q.frames[i]? = some (some f) → hasD d cnt f.page = true) : tE d cnt = 0 ∧ Calm q (tD d cnt) (tC d cnt) (setC c (tP d cnt) (UK.zeros 504)) := by
  have hwl : d.wl ≠ 0 := by rw [h.clean.wl]; decide
  rcases take_split d cnt with ⟨a, b, _⟩ | ⟨_, a, _⟩ | ⟨hm, _, hfr, a, b, e, c⟩ | ⟨_, l, p, hl, a, b, e, c⟩
  · exact absurd ⟨a, b⟩ hf
  · exact absurd a hwl
  · rw [a, b, e, c]; exact ⟨rfl, h.takeN h3 hfr hm hh⟩
  · rw [a, b, e, c]; exact ⟨rfl, h.takeF h3 hl hh⟩
def MadeO (o o' : Option Opn) (p : Int) : Prop := (o = none ∧ o' = none) ∨ ∃ x y, o = some x ∧ o' = some y ∧ y.was = x.was ∧ y.wn = x.wn ∧ y.made = x.made ++ [p] ∧ y.gone = x.gone
def GoneO (o o' : Option Opn) (p : Int) : Prop := ∃ x y, o = some x ∧ o' = some y ∧ y.was = x.was ∧ y.wn = x.wn ∧ y.made = x.made ∧ y.gone = x.gone ++ [p]
def TakeN (E : Nat → Prop) (W w' : World) (P D FB M n : Nat) (kp : Int) (q : Pl) (d : Dk) (cnt k : Nat) (c : Nat → List UInt8) (e : Ending) : Prop :=
  ∃ (q' : Pl) (d' : Dk), e = .returned (.tuple #[.pointer none, .int .i64 6]) ∧ PS E w' P D FB M n kp q' d' cnt (k + 2) c ∧ Kept E W w' ∧ q'.op = q.op ∧ d'.free = d.free ∧ d'.most = d.most
def TakeY (E : Nat → Prop) (W w' : World) (P D FB M n : Nat) (kp : Int) (q : Pl) (d : Dk) (cnt k : Nat) (c : Nat → List UInt8) (e : Ending) : Prop :=
  ∃ (i : Nat) (f : Fr) (q' : Pl) (d' : Dk), e = .returned (.tuple #[.pointer (some ⟨f.blk, 0, none⟩), .int .i64 0]) ∧ q'.frames[i]? = some (some f) ∧ f.page = (tP d cnt : Nat) ∧ 0 < f.pins ∧ PS E w' P D FB M n (kp + 1) q' d' (tC d cnt) (k + 2) (setC c (tP d cnt) (UK.zeros 504)) ∧ Kept E W w' ∧ MadeO q.op q'.op (tP d cnt : Nat) ∧ d'.free = (tD d cnt).free ∧ d'.most = d.most
theorem t_same {d d' : Dk} (hf : d'.free = d.free) (hm : d'.most = d.most) (hw : d'.wl = d.wl) (cnt : Nat) : tE d' cnt = tE d cnt ∧ tP d' cnt = tP d cnt ∧ tC d' cnt = tC d cnt ∧ (tD d' cnt).free = (tD d cnt).free ∧ (tD d' cnt).most = (tD d cnt).most := by
  unfold tE tP tC tD
  rw [hf, hm, hw]
  refine ⟨rfl, rfl, rfl, ?_, ?_⟩
  all_goals
    split
    · first | rfl | exact hf | exact hm
    · split
      · first | rfl | exact hf | exact hm
      · split
        · first | rfl | exact hf | exact hm
        · first | rfl | exact hm
set_option maxHeartbeats 1000000 in
set_option maxRecDepth 100000 in
theorem take_none (h : PS E W P D FB M n kp q d cnt k c) (hk : k + 2 < 900000000) (hkp : 0 ≤ kp ∧ kp < n) (hf : fullD d cnt) :
    Calls Tryz.prog 71 #[.pointer (some ⟨P, 0, none⟩)] W fun e w' => TakeN E W w' P D FB M n kp q d cnt k c e := by
  have HR := Lib.hid (croom_any h (by omega) hkp)
  clear h
  go_enter Tryz.func71, Tryz.ntmps71
  go_wp2_with fail
  refine HR.out.mono ?_
  rintro e w3 ⟨i, q', d', rfl, hi3, s3, k3, hop, hfr, hmo, hfw, hhs⟩
  have hf2 : d'.most ≤ cnt ∧ d'.free = [] := by rw [hfr, hmo]; exact hf
  have hT := dd_take_u s3.pd.dd s3.dok (by omega)
  have e1 : tE d' cnt = 6 := by unfold tE; rw [if_pos hf2]
  have e2 : tP d' cnt = 0 := by unfold tP; rw [if_pos hf2]
  have e3 : tD d' cnt = d' := by unfold tD; rw [if_pos hf2]
  have e4 : tC d' cnt = cnt := by unfold tC; rw [if_pos hf2]
  rw [e1, e2, e3, e4] at hT
  have HT := Lib.hid hT
  have c0 : w3.cell? ⟨P, 0, none⟩ = some (.pointer (some ⟨D, 0, none⟩)) := s3.pd.pool.box.cell 0 _ rfl
  have HS3 := Lib.hid (And.intro s3 (And.intro k3 (And.intro hop (And.intro hfr hmo))))
  clear HR hT s3 k3 hop hfr hmo hfw hhs hi3 hf2 e1 e2 e3 e4
  go_wp2_with fail
  refine HT.out.mono ?_
  rintro e w4 ⟨rfl, d4, k4⟩
  obtain ⟨s3, k3, hop, hfr, hmo⟩ := HS3.out
  have s4 : PS E w4 P D FB M n kp q' d' cnt (k + 2) c := (show PS E w4 P D FB M n kp q' d' cnt (k + 1) c from ⟨s3.pd.disk d4 k4, s3.ok, s3.dok, s3.held, s3.pins, s3.len, s3.calm, s3.lim⟩).up (by omega)
  have HF := Lib.hid (And.intro s4 (And.intro (k3.trans (k4.mono (fun j hj => .inl hj))) (And.intro hop (And.intro hfr hmo))))
  clear HT HS3 s3 s4 d4 k4 k3 hop hfr hmo c0
  go_wp2
  go_ret2
  exact ⟨q', d', rfl, HF.out.1, HF.out.2.1, HF.out.2.2.1, HF.out.2.2.2.1, HF.out.2.2.2.2⟩
set_option maxHeartbeats 1000000 in
set_option maxRecDepth 100000 in
theorem take_lay (h : PS E W P D FB M n kp q d cnt k c) (hkp : 0 ≤ kp ∧ kp < 1000000) {i : Nat} (hi : q.frames[i]? = some none) (p : Nat) (hp : hasD d cnt (p : Int) = true) (hno : ∀ (j : Nat) (g : Fr), q.frames[j]? = some (some g) → g.page ≠ (p : Int)) (hcp : c p = UK.zeros 504) (hpw : p < 60000) :
    Calls Tryz.prog 106 #[.pointer (some ⟨P, 0, none⟩), .int .i64 i, .int .i64 p, .string (str (UK.zeros 504))] W fun e w' => ∃ f : Fr, e = .returned (.pointer (some ⟨f.blk, 0, none⟩)) ∧ f.page = p ∧ 0 < f.pins ∧ PS E w' P D FB M n (kp + 1) { frames := q.frames.set i (some f), hand := q.hand, pins := q.pins + 1, op := q.op } d cnt k c ∧ Kept E W w' := by
  refine (play_any h.pd h.ok (by rw [h.pins]; omega) hi (p : Int) (WalkArith.wf_i64 (by omega)) hno (UK.zeros 504) (UK.zeros_length 504)).mono ?_
  rintro e w5 ⟨f, rfl, hfpg, hfda, hfp1, hfd, hfu, p5, k5⟩
  have hil := (List.getElem?_eq_some_iff.1 hi).1
  have hpo := h.ok.set hi (u := some f) (fun y hy => by rw [← Option.some.inj hy, hfp1]; omega)
  rw [show q.pins - pinO none + pinO (some f) = q.pins + 1 by show q.pins - 0 + f.pins = _; omega] at hpo
  refine ⟨f, rfl, hfpg, by omega, ⟨p5, hpo, h.dok, fun j g hj => ?_, by show q.pins + 1 = _; rw [h.pins], by show (q.frames.set i _).length = n; rw [List.length_set]; exact h.len, h.calm.lay hi (by rw [hfda, hfpg, Int.toNat_natCast, hcp]) _ _ _, h.lim⟩, k5⟩
  replace hj : (q.frames.set i (some f))[j]? = some (some g) := hj
  rw [get_set _ _ _ _ hil] at hj
  by_cases e : i = j
  · rw [if_pos e] at hj
    rw [← Option.some.inj (Option.some.inj hj), hfpg]; exact hp
  · rw [if_neg e] at hj; exact h.held j g hj
set_option maxHeartbeats 2000000 in
set_option maxRecDepth 100000 in
theorem take_some (h : PS E W P D FB M n kp q d cnt k c) (hk : k + 2 < 900000000) (hkp : 0 ≤ kp ∧ kp < n) (hf : ¬ fullD d cnt) :
    Calls Tryz.prog 71 #[.pointer (some ⟨P, 0, none⟩)] W fun e w' => TakeY E W w' P D FB M n kp q d cnt k c e := by
  have HR := Lib.hid (croom_any h (by omega) hkp)
  have hmk := make504
  have hfew := h.ok.few
  have hln := h.len
  have HWL := Lib.hid h.calm.clean.wl
  have hz2 : ((UK.zeros 504).drop 0).take 504 = UK.zeros 504 := by rw [List.drop_zero, List.take_of_length_le (by rw [UK.zeros_length]; omega)]
  have hcv := fun w : World => UK.run_window (P := Tryz.prog) (src := 87) (dst := 9) Tryz.underlying87 Tryz.underlying5 Tryz.underlying9 (bytes_new w (UK.zeros 504)) 0 504 504 (by rw [UK.zeros_length]; omega)
  rw [hz2] at hcv
  clear h hz2
  go_enter Tryz.func71, Tryz.ntmps71
  go_wp2_with fail
  refine HR.out.mono ?_
  rintro e w3 ⟨i, q', d', rfl, hi3, s3, k3, hop, hfr, hmo, hfw, hhs⟩
  have hf2 : ¬ fullD d' cnt := by unfold fullD; rw [hfr, hmo]; exact hf
  have hpu := s3.dok.puts
  obtain ⟨t0, t1⟩ := take_calm s3.calm (by omega) hf2 s3.held
  obtain ⟨e1, e2, e3, e4, e5⟩ := t_same hfr hmo (by rw [s3.calm.clean.wl, HWL.out]) cnt
  have hth := take_has s3.dok (by omega)
  have hT := dd_take_u s3.pd.dd s3.dok (by omega)
  have hokt := s3.dok.take (by omega)
  have hth2 := hth.2 t0
  have htf := hokt.fit.few
  have hth3 := hth2.2
  rw [hokt.so.hasI, decide_eq_true_eq] at hth3
  rw [t0] at hT
  have hmo2 : (tD d' cnt).most = d.most := by rw [e5, ← hmo]; exact (show (tD d cnt).most = d.most by unfold tD; split; rfl; split; rfl; split <;> rfl).trans hmo.symm
  have HE := Lib.hid (And.intro e2 (And.intro e3 (And.intro e4 (And.intro hmo2 hop))))
  have HI := Lib.hid hi3
  clear HR hop hfr hmo hfw hhs hi3 e1 e2 e3 e4 e5 hmo2 t0
  generalize htp : tP d' cnt = tp at hT hth2 hth3 t1 HE
  generalize htd : tD d' cnt = td at hT hth hth2 hth3 hokt t1 HE
  generalize htc : tC d' cnt = tc at hT hth hth2 hth3 hokt t1 HE htf
  have HT := Lib.hid hT
  have hpw : tp < 60000 := by omega
  have hno : ∀ (j : Nat) (g : Fr), q'.frames[j]? = some (some g) → g.page ≠ (tp : Int) := fun j g hj hg => by
    have := s3.held j g hj
    rw [hg, hth2.1] at this; cases this
  have c0 : w3.cell? ⟨P, 0, none⟩ = some (.pointer (some ⟨D, 0, none⟩)) := s3.pd.pool.box.cell 0 _ rfl
  have HLIM := Lib.hid s3.lim
  have HS3 := Lib.hid (And.intro s3 (And.intro k3 (And.intro hokt (And.intro t1 (And.intro hth hth2)))))
  have HNO := Lib.hid hno
  clear hT s3 k3 hokt t1 hth hth2 hth3 hf2 htp htd htc hno htf
  go_wp2_with fail
  refine HT.out.mono ?_
  rintro e w4 ⟨rfl, d4, k4⟩
  obtain ⟨s3, k3, hokt, t1, hth, hth2⟩ := HS3.out
  have s4 : PS E w4 P D FB M n kp q' td tc (k + 2) (setC c tp (UK.zeros 504)) := ⟨s3.pd.disk d4 k4, s3.ok, hokt, fun j g hj => hth.1 _ (s3.held j g hj), s3.pins, s3.len, t1, (s3.up (Nat.le_succ _)).lim⟩
  have K4 := Lib.hid (k3.trans (k4.mono (fun j hj => .inl hj)))
  have HH2 := Lib.hid hth2.2
  have c5 : w4.cell? ⟨P, 5, none⟩ = some (vOpen q'.op) := s4.pd.pool.box.cell 5 _ rfl
  have c7 : w4.cell? ⟨P, 7, none⟩ = some (vMade q'.op) := s4.pd.pool.box.cell 7 _ rfl
  have hc7 : setC c tp (UK.zeros 504) tp = UK.zeros 504 := by unfold setC; rw [if_pos rfl]
  have HC7 := Lib.hid hc7
  clear HS3 HT s3 k3 hokt t1 hth hth2 d4 k4 c0 hc7
  cases hq : q'.op with
  | none =>
    rw [hq] at c5
    simp only [vOpen, Option.isSome_none] at c5
    have hb4 : Below w4.heap.size w4 (w4.alloc (.cells (UK.bcells (UK.zeros 504)) 5)) := (Below.refl _ _).alloc (Nat.le_refl _) _
    have HL := Lib.hid (take_lay (s4.next hb4) ⟨hkp.1, by omega⟩ HI.out tp HH2.out HNO.out HC7.out hpw)
    have K5 := Lib.hid (K4.out.trans (s4.keptB hb4))
    have HQ := Lib.hid hq
    have hmk4 := hmk w4
    have hcv4 := hcv w4
    clear c7 s4 hb4 hq hmk hcv
    have HC := Lib.hid (rfl : setC c tp (UK.zeros 504) = setC c tp (UK.zeros 504))
    generalize hcc : setC c tp (UK.zeros 504) = cc at HL HC7
    have HCC := Lib.hid hcc
    clear hcc HC HC7
    generalize UK.zeros 504 = zz at hcv4 HL hmk4 K5
    go_wp2_with fail
    refine HL.out.mono ?_
    rintro e w5 ⟨f, rfl, hfpg, hfp, s5, k5⟩
    have HF := Lib.hid (And.intro hfpg (And.intro hfp (And.intro s5 (K5.out.trans k5))))
    clear HL K5 hcv4 hmk4 hfpg hfp s5 k5
    go_wp2
    go_ret2
    obtain ⟨hfpg, hfp, s5, k5⟩ := HF.out
    obtain ⟨e2, e3, e4, hmo2, hop⟩ := HE.out
    rw [← HCC.out] at s5
    rw [e2, e3] at s5
    exact ⟨i, f, _, td, rfl, by show (q'.frames.set i _)[i]? = _; rw [get_set _ _ _ _ (List.getElem?_eq_some_iff.1 HI.out).1, if_pos rfl], by rw [hfpg, e2], hfp, s5, k5, .inl ⟨by rw [← hop]; exact HQ.out, HQ.out⟩, e4, hmo2⟩
  | some o =>
    rw [hq] at c5 c7
    simp only [vOpen, vMade, Option.isSome_some] at c5 c7
    have ho := s4.pd.pool.op o hq
    have hlim := s4.lim o hq
    obtain ⟨g', c', w5, happ, r5, o5, hg5⟩ := ho.made.push (by omega) (tp : Int)
    obtain ⟨p6, k6, b5⟩ := s4.pd.made hq (tp : Int) (WalkArith.wf_i64 (by omega)) r5 o5 hg5 (by omega)
    have f7 := b5.free 7
    have c7' : w5.cell? ⟨P, 7, none⟩ = some (vMade q'.op) := b5.cell 7 _ rfl
    have hl3 := HLIM.out o hq
    have s6 := s4.op (op' := some { o with mo := some ⟨g', 0, none⟩, mc := c', made := o.made ++ [(tp : Int)] }) (fun x hx => by
      rw [← Option.some.inj hx]
      show o.wn ≤ _ ∧ (o.made ++ [(tp : Int)]).length ≤ _ ∧ o.gone.length ≤ _
      rw [List.length_append, List.length_singleton]
      omega) p6
    have HM : Hid (MadeO q'.op (some { o with mo := some ⟨g', 0, none⟩, mc := c', made := o.made ++ [(tp : Int)] }) (tp : Int)) := .inr ⟨o, _, hq, rfl, rfl, rfl, rfl, rfl⟩
    generalize hw6 : w5.setCell ⟨P, 7, none⟩ (.slice (some ⟨g', 0, none⟩) (o.made.length + 1) c') = w6 at s6 k6
    have hb4 : Below w6.heap.size w6 (w6.alloc (.cells (UK.bcells (UK.zeros 504)) 5)) := (Below.refl _ _).alloc (Nat.le_refl _) _
    have HL := Lib.hid (take_lay (s6.next hb4) ⟨hkp.1, by omega⟩ HI.out tp HH2.out HNO.out HC7.out hpw)
    have K5 := Lib.hid ((K4.out.trans k6).trans (s6.keptB hb4))
    have hmk4 := hmk w6
    have hcv4 := hcv w6
    clear s4 hb4 hq hmk hcv p6 b5 r5 o5 hg5 hlim hl3 ho k6 s6
    generalize hcc : setC c tp (UK.zeros 504) = cc at HL HC7
    have HCC := Lib.hid hcc
    clear hcc HC7
    generalize UK.zeros 504 = zz at hcv4 HL hmk4 K5
    have hsz6 : w6.heap.size = w5.heap.size := by rw [← hw6]; simp [World.setCell]
    rw [hsz6] at hcv4
    subst hw6
    clear hsz6
    go_wp2_with (at_builtin; refine UK.wpList_append_run happ rfl rfl rfl rfl rfl ?_)
    refine HL.out.mono ?_
    rintro e w7 ⟨f, rfl, hfpg, hfp, s7, k7⟩
    have HF := Lib.hid (And.intro hfpg (And.intro hfp (And.intro s7 (K5.out.trans k7))))
    clear HL K5 hcv4 hmk4 hfpg hfp s7 k7 happ c7' f7 c5 c7
    go_wp2
    go_ret2
    obtain ⟨hfpg, hfp, s5, k5⟩ := HF.out
    obtain ⟨e2, e3, e4, hmo2, hop⟩ := HE.out
    rw [← HCC.out] at s5
    rw [e2, e3] at s5
    refine ⟨i, f, _, td, rfl, by show (q'.frames.set i _)[i]? = _; rw [get_set _ _ _ _ (List.getElem?_eq_some_iff.1 HI.out).1, if_pos rfl], by rw [hfpg, e2], hfp, s5, k5, ?_, e4, hmo2⟩
    have hm := HM.out
    rw [hop, e2] at hm
    exact hm
end
end Go.Proofs.YtfljlcfmdcepnaaGreatDoor
namespace Go.Proofs.YtfljlcfmdcepnaaGreatDoor
open Go.RowKit
open UK (str BytesAt nth Only Row Box IntMap StrMap)
open Go.BigFrame
section
variable {E : Nat → Prop} {W W' : World} {P D FB M cnt k n : Nat} {kp : Int} {q : Pl} {d d' : Dk} {c : Nat → List UInt8}
theorem rgive_yes (h : Clean d cnt) {p : Nat} (hh : hasD d cnt (p : Int) = true) : rgiveE d cnt (p : Int) = 0 ∧ rgiveD d cnt (p : Int) = giveD d p := by
  have hwl : d.wl ≠ 0 := by rw [h.wl]; decide
  unfold rgiveE rgiveD
  have ha : ¬ hasD d cnt (p : Int) = false := by rw [hh]; decide
  rw [if_neg ha, if_neg ha, if_neg hwl, Int.toNat_natCast]
  exact ⟨by unfold failE; rw [if_neg hwl], rfl⟩
theorem give_has (o : Ok d cnt k) (hk : k < 900000000) (p : Int) (a : Int) (ha : hasD d cnt a = true) (hne : rgiveE d cnt p = 0 → a ≠ p) : hasD (rgiveD d cnt p) cnt a = true := by
  have so2 := (o.give hk p).so
  have so := o.so
  unfold rgiveE at hne
  unfold rgiveD at so2 ⊢
  by_cases hh : hasD d cnt p = false
  · rw [if_pos hh] at so2 ⊢; exact ha
  · rw [if_neg hh] at so2 hne ⊢
    by_cases hz : d.wl = 0
    · rw [if_pos hz]; exact ha
    · rw [if_neg hz] at so2 ⊢
      have h0 : failE d.wl = 0 := by unfold failE; rw [if_neg hz]
      obtain ⟨m, rfl, hm⟩ := has_nat hh
      rw [so.hasI, decide_eq_true_eq] at ha
      rw [so2.hasI, decide_eq_true_eq]
      refine ⟨ha.1, ha.2.1, fun hmem => ?_⟩
      have hmem : a.toNat ∈ d.free ++ [(m : Int).toNat] := hmem
      rcases List.mem_append.1 hmem with hx | hx
      · exact ha.2.2 hx
      · have := List.mem_singleton.1 hx
        rw [Int.toNat_natCast] at this
        exact hne h0 (by omega)
set_option maxHeartbeats 1000000 in
set_option maxRecDepth 100000 in
theorem give_open (h : PS E W P D FB M n kp q d cnt k c) {page : Int} (hk : k + 1 < 900000000) {o : Opn} (hq : q.op = some o) (hq0 : ∀ (i : Nat) (f : Fr), q.frames[i]? = some (some f) → f.page = page → f.pins ≤ 0) (hpg : (Lit.int .i64 page).wf = true) (hh : hasD d cnt page = true) (hg : page ∉ goneL q.op) :
    Calls Tryz.prog 81 #[.pointer (some ⟨P, 0, none⟩), .int .i64 page] W fun e w' => e = .returned (.int .i64 0) ∧ ∃ op', GoneO q.op op' page ∧ PS E w' P D FB M n kp { frames := q.frames, hand := q.hand, pins := q.pins, op := op' } d cnt (k + 1) c ∧ Kept E W w' := by
  have hb := h.pd.pool.box
  have c2 : W.cell? ⟨P, 2, none⟩ = some (.map (some M)) := hb.cell 2 _ rfl
  have c0 : W.cell? ⟨P, 0, none⟩ = some (.pointer (some ⟨D, 0, none⟩)) := hb.cell 0 _ rfl
  have c1 : W.cell? ⟨P, 1, none⟩ = some (.slice (some ⟨FB, 0, none⟩) q.frames.length q.frames.length) := hb.cell 1 _ rfl
  have hhas := dd_has h.pd.dd page
  have hfew := h.ok.few
  rw [hh] at hhas
  rcases at_none h.pd page hpg with ⟨i, f, hi, hf, hlk⟩ | ⟨hno, hlk⟩
  · have hfr := h.pd.pool.each i f hi
    have hil := (List.getElem?_eq_some_iff.1 hi).1
    have cF : W.cell? ⟨FB, i, none⟩ = some (.pointer (some ⟨f.blk, 0, none⟩)) := h.pd.frame hi
    have d3 : W.cell? ⟨f.blk, 3, none⟩ = some (.int .i64 f.pins) := hfr.box.cell 3 _ rfl
    have hfp := hq0 i f hi hf
    have HF := Lib.hid hf
    clear hf
    generalize hfpp : f.pins = fp at d3 hfp
    have HFPP := Lib.hid hfpp
    clear hfpp hfr hb
    go_enter Tryz.func81, Tryz.ntmps81
    go_wp2_with fail
    refine hhas.mono ?_
    rintro e w1 ⟨rfl, x, rfl⟩
    obtain ⟨h1, k1⟩ := h.looks x
    generalize W.drewN x = w1 at h1 k1 ⊢
    obtain ⟨ao, nn, cc, hv, hcn⟩ := gone_any h1.pd.pool page
    have c8 : w1.cell? ⟨P, 8, none⟩ = some (vGone q.op) := h1.pd.pool.box.cell 8 _ rfl
    have c5 : w1.cell? ⟨P, 5, none⟩ = some (vOpen q.op) := h1.pd.pool.box.cell 5 _ rfl
    have c0 : w1.cell? ⟨P, 0, none⟩ = some (.pointer (some ⟨D, 0, none⟩)) := h1.pd.pool.box.cell 0 _ rfl
    rw [hv] at c8
    rw [decide_eq_false hg] at hcn
    clear hhas
    go_wp2_with fail
    refine hcn.mono ?_
    rintro e w2 ⟨rfl, rfl⟩
    rw [hq] at c5 hv
    simp only [vOpen, Option.isSome_some] at c5
    obtain ⟨e1, e2, e3⟩ := Value.slice.inj hv
    subst e1 e2 e3
    clear hv
    have ho := h1.pd.pool.op o hq
    have hlim := h1.lim o hq
    obtain ⟨g', c', w5, happ, r5, o5, hg5⟩ := ho.gone.push (by omega) page
    obtain ⟨p6, k6, b5⟩ := h1.pd.gone hq page hpg r5 o5 hg5 (by omega)
    have f8 := b5.free 8
    have c8' : w5.cell? ⟨P, 8, none⟩ = some (vGone q.op) := b5.cell 8 _ rfl
    have s6 := (h1.up (Nat.le_succ k)).op (op' := some { o with go := some ⟨g', 0, none⟩, gc := c', gone := o.gone ++ [page] }) (fun x hx => by
      rw [← Option.some.inj hx]
      show o.wn ≤ _ ∧ o.made.length ≤ _ ∧ (o.gone ++ [page]).length ≤ _
      rw [List.length_append, List.length_singleton]
      omega) p6
    have HM : Hid (GoneO q.op (some { o with go := some ⟨g', 0, none⟩, gc := c', gone := o.gone ++ [page] }) page) := ⟨o, _, hq, rfl, rfl, rfl, rfl, rfl⟩
    have HS := Lib.hid (And.intro s6 (k1.trans k6))
    clear ho hlim r5 o5 hg5 p6 k6 b5 s6 h1 k1 hq h
    go_wp2_with (at_builtin; refine UK.wpList_append_run happ rfl rfl rfl rfl rfl ?_)
    go_ret
    exact ⟨rfl, _, HM.out, HS.out.1, HS.out.2⟩
  · clear hb hno
    go_enter Tryz.func81, Tryz.ntmps81
    go_wp2_with fail
    refine hhas.mono ?_
    rintro e w1 ⟨rfl, x, rfl⟩
    obtain ⟨h1, k1⟩ := h.looks x
    generalize W.drewN x = w1 at h1 k1 ⊢
    obtain ⟨ao, nn, cc, hv, hcn⟩ := gone_any h1.pd.pool page
    have c8 : w1.cell? ⟨P, 8, none⟩ = some (vGone q.op) := h1.pd.pool.box.cell 8 _ rfl
    have c5 : w1.cell? ⟨P, 5, none⟩ = some (vOpen q.op) := h1.pd.pool.box.cell 5 _ rfl
    have c0 : w1.cell? ⟨P, 0, none⟩ = some (.pointer (some ⟨D, 0, none⟩)) := h1.pd.pool.box.cell 0 _ rfl
    rw [hv] at c8
    rw [decide_eq_false hg] at hcn
    clear hhas
    go_wp2_with fail
    refine hcn.mono ?_
    rintro e w2 ⟨rfl, rfl⟩
    rw [hq] at c5 hv
    simp only [vOpen, Option.isSome_some] at c5
    obtain ⟨e1, e2, e3⟩ := Value.slice.inj hv
    subst e1 e2 e3
    clear hv
    have ho := h1.pd.pool.op o hq
    have hlim := h1.lim o hq
    obtain ⟨g', c', w5, happ, r5, o5, hg5⟩ := ho.gone.push (by omega) page
    obtain ⟨p6, k6, b5⟩ := h1.pd.gone hq page hpg r5 o5 hg5 (by omega)
    have f8 := b5.free 8
    have c8' : w5.cell? ⟨P, 8, none⟩ = some (vGone q.op) := b5.cell 8 _ rfl
    have s6 := (h1.up (Nat.le_succ k)).op (op' := some { o with go := some ⟨g', 0, none⟩, gc := c', gone := o.gone ++ [page] }) (fun x hx => by
      rw [← Option.some.inj hx]
      show o.wn ≤ _ ∧ o.made.length ≤ _ ∧ (o.gone ++ [page]).length ≤ _
      rw [List.length_append, List.length_singleton]
      omega) p6
    have HM : Hid (GoneO q.op (some { o with go := some ⟨g', 0, none⟩, gc := c', gone := o.gone ++ [page] }) page) := ⟨o, _, hq, rfl, rfl, rfl, rfl, rfl⟩
    have HS := Lib.hid (And.intro s6 (k1.trans k6))
    clear ho hlim r5 o5 hg5 p6 k6 b5 s6 h1 k1 hq h
    go_wp2_with (at_builtin; refine UK.wpList_append_run happ rfl rfl rfl rfl rfl ?_)
    go_ret
    exact ⟨rfl, _, HM.out, HS.out.1, HS.out.2⟩
def GiveS (E : Nat → Prop) (W w' : World) (P D FB M n : Nat) (kp : Int) (d : Dk) (cnt k : Nat) (c : Nat → List UInt8) (page : Int) (e : Ending) : Prop :=
  ∃ (q' : Pl) (d' : Dk), e = .returned (.int .i64 0) ∧ PS E w' P D FB M n kp q' d' cnt (k + 1) c ∧ Kept E W w' ∧ q'.op = none ∧ d'.free = d.free ++ [page.toNat] ∧ d'.most = d.most
set_option maxHeartbeats 1000000 in
set_option maxRecDepth 100000 in
theorem give_shut (h : PS E W P D FB M n kp q d cnt k c) {page : Int} (hk : k + 1 < 900000000) (hq : q.op = none) (hq0 : ∀ (i : Nat) (f : Fr), q.frames[i]? = some (some f) → f.page = page → f.pins ≤ 0) (hpg : (Lit.int .i64 page).wf = true) (hh : hasD d cnt page = true) :
    Calls Tryz.prog 81 #[.pointer (some ⟨P, 0, none⟩), .int .i64 page] W fun e w' => GiveS E W w' P D FB M n kp d cnt k c page e := by
  have hg : page ∉ goneL q.op := by rw [hq]; exact List.not_mem_nil
  obtain ⟨p, rfl, hp1, hp2, hp3⟩ : ∃ p : Nat, page = p ∧ 1 ≤ p ∧ p < cnt ∧ p ∉ d.free := by
    have hh := hh
    rw [h.calm.clean.so.hasI, decide_eq_true_eq] at hh
    exact ⟨page.toNat, by omega, by omega, by omega, hh.2.2⟩
  obtain ⟨re, rd⟩ := rgive_yes h.calm.clean hh
  have hpu := h.dok.puts
  have hgh := fun a ha hne => give_has h.dok (by omega) (p : Int) a ha hne
  have hokg := h.dok.give (by omega) (p : Int)
  rw [rd] at hgh hokg
  have HGH := Lib.hid hgh
  have HOK := Lib.hid hokg
  have HG := Lib.hid (fun (w : World) (hw : PS E w P D FB M n kp q d cnt k c) => (show Calls Tryz.prog 117 #[.pointer (some ⟨D, 0, none⟩), .int .i64 (p : Int)] w fun e w' => e = .returned (.int .i64 0) ∧ DD (fun k => E k ∨ PBlk P FB M q.frames q.op k) w' D (giveD d p) cnt ∧ Kept (fun k => E k ∨ PBlk P FB M q.frames q.op k) w w' by
    have := dd_give_u hw.pd.dd hw.dok (by omega) (p : Int)
    rw [re, rd] at this; exact this))
  clear re rd hgh hokg
  have hb := h.pd.pool.box
  have c2 : W.cell? ⟨P, 2, none⟩ = some (.map (some M)) := hb.cell 2 _ rfl
  have c0 : W.cell? ⟨P, 0, none⟩ = some (.pointer (some ⟨D, 0, none⟩)) := hb.cell 0 _ rfl
  have c1 : W.cell? ⟨P, 1, none⟩ = some (.slice (some ⟨FB, 0, none⟩) q.frames.length q.frames.length) := hb.cell 1 _ rfl
  have hhas := dd_has h.pd.dd (p : Int)
  have hfew := h.ok.few
  rw [hh] at hhas
  rcases at_none h.pd (p : Int) hpg with ⟨i, f, hi, hf, hlk⟩ | ⟨hno, hlk⟩
  · have hfr := h.pd.pool.each i f hi
    have hil := (List.getElem?_eq_some_iff.1 hi).1
    have cF : W.cell? ⟨FB, i, none⟩ = some (.pointer (some ⟨f.blk, 0, none⟩)) := h.pd.frame hi
    have d3 : W.cell? ⟨f.blk, 3, none⟩ = some (.int .i64 f.pins) := hfr.box.cell 3 _ rfl
    have hfp := hq0 i f hi hf
    have HF := Lib.hid hf
    clear hf
    generalize hfpp : f.pins = fp at d3 hfp
    have HFPP := Lib.hid hfpp
    clear hfpp hfr hb
    go_enter Tryz.func81, Tryz.ntmps81
    go_wp2_with fail
    refine hhas.mono ?_
    rintro e w1 ⟨rfl, x, rfl⟩
    obtain ⟨h1, k1⟩ := h.looks x
    generalize W.drewN x = w1 at h1 k1 ⊢
    obtain ⟨ao, nn, cc, hv, hcn⟩ := gone_any h1.pd.pool (p : Int)
    have c8 : w1.cell? ⟨P, 8, none⟩ = some (vGone q.op) := h1.pd.pool.box.cell 8 _ rfl
    have c5 : w1.cell? ⟨P, 5, none⟩ = some (vOpen q.op) := h1.pd.pool.box.cell 5 _ rfl
    have c0 : w1.cell? ⟨P, 0, none⟩ = some (.pointer (some ⟨D, 0, none⟩)) := h1.pd.pool.box.cell 0 _ rfl
    rw [hv] at c8
    rw [decide_eq_false hg] at hcn
    clear hhas
    go_wp2_with fail
    refine hcn.mono ?_
    rintro e w2 ⟨rfl, rfl⟩
    rw [hq] at c5
    simp only [vOpen, Option.isSome_none] at c5
    have HG1 := Lib.hid (HG.out _ h1)
    have HH1 := Lib.hid (And.intro h1 (And.intro k1 hq))
    clear HG hv hcn h h1 k1 hq
    go_wp2_with fail
    refine HG1.out.mono ?_
    rintro e w3 ⟨rfl, d3', k3⟩
    obtain ⟨h1, k1, hq⟩ := HH1.out
    have p3 := h1.pd.disk d3' k3
    have K3 := Lib.hid (k1.trans (k3.mono (fun j hj => .inl hj)))
    have HR := Lib.hid (forget_yes p3 h1.ok hi)
    have hpo := h1.ok.set hi (u := none) (fun g hg => by cases hg)
    rw [show q.pins - pinO (some f) + pinO none = q.pins by show q.pins - f.pins + 0 = _; have := HFPP.out; have := (h1.ok.pos i f hi).1; omega] at hpo
    have s4 : ∀ w4, PD E w4 P D FB M { q with frames := q.frames.set i none } (giveD d p) cnt → PS E w4 P D FB M n kp { q with frames := q.frames.set i none } (giveD d p) cnt (k + 1) c := fun w4 p4 => by
      refine ⟨p4, hpo, HOK.out, fun j g hj => ?_, h1.pins, by show (q.frames.set i none).length = n; rw [List.length_set]; exact h1.len, h1.calm.give (by omega) p hp1 hp2 hp3 (fun j g hj => ?_) (fun j g hj hne => ?_) _ _ _, (h1.up (Nat.le_succ k)).lim⟩
      · replace hj : (q.frames.set i none)[j]? = some (some g) := hj
        rw [get_set _ _ _ _ hil] at hj
        by_cases e : i = j
        · rw [if_pos e] at hj; cases hj
        · rw [if_neg e] at hj
          exact HGH.out _ (h1.held j g hj) (fun _ hpp => e (h1.inj hi hj (by rw [HF.out, hpp])))
      · rw [get_set _ _ _ _ hil] at hj
        by_cases e : i = j
        · rw [if_pos e] at hj; cases hj
        · rw [if_neg e] at hj; exact hj
      · rw [get_set _ _ _ _ hil, if_neg (fun e => ?_)]
        · exact hj
        · subst e
          rw [hi] at hj
          rw [← Option.some.inj (Option.some.inj hj)] at hne
          exact hne HF.out
    have HS := Lib.hid s4
    have HQ := Lib.hid hq
    rw [HF.out] at HR
    clear HG1 HH1 h1 k1 hq p3 hpo s4 d3' k3
    go_wp2_with fail
    refine HR.out.mono ?_
    rintro e w4 ⟨rfl, p4, k4⟩
    have S4 := Lib.hid (HS.out w4 p4)
    have K4 := Lib.hid (K3.out.trans k4)
    clear HR HS K3 p4 k4
    go_wp2
    go_ret
    exact ⟨_, giveD d p, rfl, S4.out, K4.out, HQ.out, rfl, rfl⟩
  · have HNO := Lib.hid hno
    clear hb hno
    go_enter Tryz.func81, Tryz.ntmps81
    go_wp2_with fail
    refine hhas.mono ?_
    rintro e w1 ⟨rfl, x, rfl⟩
    obtain ⟨h1, k1⟩ := h.looks x
    generalize W.drewN x = w1 at h1 k1 ⊢
    obtain ⟨ao, nn, cc, hv, hcn⟩ := gone_any h1.pd.pool (p : Int)
    have c8 : w1.cell? ⟨P, 8, none⟩ = some (vGone q.op) := h1.pd.pool.box.cell 8 _ rfl
    have c5 : w1.cell? ⟨P, 5, none⟩ = some (vOpen q.op) := h1.pd.pool.box.cell 5 _ rfl
    have c0 : w1.cell? ⟨P, 0, none⟩ = some (.pointer (some ⟨D, 0, none⟩)) := h1.pd.pool.box.cell 0 _ rfl
    rw [hv] at c8
    rw [decide_eq_false hg] at hcn
    clear hhas
    go_wp2_with fail
    refine hcn.mono ?_
    rintro e w2 ⟨rfl, rfl⟩
    rw [hq] at c5
    simp only [vOpen, Option.isSome_none] at c5
    have HG1 := Lib.hid (HG.out _ h1)
    have HH1 := Lib.hid (And.intro h1 (And.intro k1 hq))
    clear HG hv hcn h h1 k1 hq
    go_wp2_with fail
    refine HG1.out.mono ?_
    rintro e w3 ⟨rfl, d3', k3⟩
    obtain ⟨h1, k1, hq⟩ := HH1.out
    have p3 := h1.pd.disk d3' k3
    have K3 := Lib.hid (k1.trans (k3.mono (fun j hj => .inl hj)))
    have HR := Lib.hid (forget_no p3 (p : Int) hpg HNO.out)
    have s4 : PS E w3 P D FB M n kp q (giveD d p) cnt (k + 1) c := ⟨p3, h1.ok, HOK.out, fun j g hj => HGH.out _ (h1.held j g hj) (fun _ => HNO.out j g hj), h1.pins, h1.len, h1.calm.give (by omega) p hp1 hp2 hp3 (fun j g hj => hj) (fun j g hj _ => hj) _ _ _, (h1.up (Nat.le_succ k)).lim⟩
    have HS := Lib.hid s4
    have HQ := Lib.hid hq
    clear HG1 HH1 h1 k1 hq p3 s4 d3' k3
    go_wp2_with fail
    refine HR.out.mono ?_
    rintro e w4 ⟨rfl, rfl⟩
    clear HR
    go_wp2
    go_ret
    exact ⟨_, giveD d p, rfl, HS.out, K3.out, HQ.out, rfl, rfl⟩
end
end Go.Proofs.YtfljlcfmdcepnaaGreatDoor
