/-
  The pool: Give.
-/
import Derived.Test.YtjfkdfffolkblaaDoorPoolX
namespace Go.Proofs.YtjfkdfffolkblaaDoor
open Go.RowKit
open UK (str BytesAt nth Only Row Box IntMap StrMap)
open Go.BigFrame
section
variable {E : Nat → Prop} {W W' : World} {P D FB M cnt k n : Nat} {kp : Int} {q : Pl} {d d' : Dk} {c : Nat → List UInt8}
theorem rgive_yes (h : Clean d cnt) {p : Nat} (hh : hasD d cnt (p : Int) = true) : rgiveE d cnt (p : Int) = 0 ∧ rgiveD d cnt (p : Int) = giveD d p := by
  have hwl : d.wl ≠ 0 := by rw [h.wl]; decide
  unfold rgiveE rgiveD
  have ha : ¬ hasD d cnt (p : Int) = false := by rw [hh]; decide
  rw [if_neg ha, if_neg ha, if_neg hwl, Int.toNat_natCast]
  exact ⟨by unfold failE; rw [if_neg hwl], rfl⟩
theorem give_has (o : Ok d cnt k) (hk : k < 900000000) (p : Int) (a : Int) (ha : hasD d cnt a = true) (hne : rgiveE d cnt p = 0 → a ≠ p) : hasD (rgiveD d cnt p) cnt a = true := by
  have so2 := (o.give hk p).so
  have so := o.so
  unfold rgiveE at hne
  unfold rgiveD at so2 ⊢
  by_cases hh : hasD d cnt p = false
  · rw [if_pos hh] at so2 ⊢; exact ha
  · rw [if_neg hh] at so2 hne ⊢
    by_cases hz : d.wl = 0
    · rw [if_pos hz]; exact ha
    · rw [if_neg hz] at so2 ⊢
      have h0 : failE d.wl = 0 := by unfold failE; rw [if_neg hz]
      obtain ⟨m, rfl, hm⟩ := has_nat hh
      rw [so.hasI, decide_eq_true_eq] at ha
      rw [so2.hasI, decide_eq_true_eq]
      refine ⟨ha.1, ha.2.1, fun hmem => ?_⟩
      have hmem : a.toNat ∈ d.free ++ [(m : Int).toNat] := hmem
      rcases List.mem_append.1 hmem with hx | hx
      · exact ha.2.2 hx
      · have := List.mem_singleton.1 hx
        rw [Int.toNat_natCast] at this
        exact hne h0 (by omega)
set_option maxHeartbeats 1000000 in
set_option maxRecDepth 100000 in
theorem give_none (h : PS E W P D FB M n kp q d cnt k c) {page : Int} (hpg : (Lit.int .i64 page).wf = true) (hh : hasD d cnt page = false) :
    Calls Tryd.prog 58 #[.pointer (some ⟨P, 0, none⟩), .int .i64 page] W fun e w' => e = .returned (.int .i64 4) ∧ PS E w' P D FB M n kp q d cnt k c ∧ Kept E W w' := by
  have hb := h.pd.pool.box
  have c2 : W.cell? ⟨P, 2, none⟩ = some (.map (some M)) := hb.cell 2 _ rfl
  have c0 : W.cell? ⟨P, 0, none⟩ = some (.pointer (some ⟨D, 0, none⟩)) := hb.cell 0 _ rfl
  have c1 : W.cell? ⟨P, 1, none⟩ = some (.slice (some ⟨FB, 0, none⟩) q.frames.length q.frames.length) := hb.cell 1 _ rfl
  have hhas := dd_has h.pd.dd page
  have hfew := h.ok.few
  rw [hh] at hhas
  rcases at_none h.pd page hpg with ⟨i, f, hi, hf, hlk⟩ | ⟨hno, hlk⟩
  · have := h.held i f hi
    rw [hf, hh] at this; cases this
  · clear hb hno
    go_enter Tryd.func58, Tryd.ntmps58
    go_wp2_with fail
    refine hhas.mono ?_
    rintro e w1 ⟨rfl, x, rfl⟩
    obtain ⟨h1, k1⟩ := h.looks x
    go_wp2
    go_ret
    exact ⟨rfl, h1, k1⟩
set_option maxHeartbeats 1000000 in
set_option maxRecDepth 100000 in
theorem give_gone (h : PS E W P D FB M n kp q d cnt k c) {page : Int} (hq0 : ∀ (i : Nat) (f : Fr), q.frames[i]? = some (some f) → f.page = page → f.pins ≤ 0) (hpg : (Lit.int .i64 page).wf = true) (hh : hasD d cnt page = true) (hg : page ∈ goneL q.op) :
    Calls Tryd.prog 58 #[.pointer (some ⟨P, 0, none⟩), .int .i64 page] W fun e w' => e = .returned (.int .i64 4) ∧ PS E w' P D FB M n kp q d cnt k c ∧ Kept E W w' := by
  have hb := h.pd.pool.box
  have c2 : W.cell? ⟨P, 2, none⟩ = some (.map (some M)) := hb.cell 2 _ rfl
  have c0 : W.cell? ⟨P, 0, none⟩ = some (.pointer (some ⟨D, 0, none⟩)) := hb.cell 0 _ rfl
  have c1 : W.cell? ⟨P, 1, none⟩ = some (.slice (some ⟨FB, 0, none⟩) q.frames.length q.frames.length) := hb.cell 1 _ rfl
  have hhas := dd_has h.pd.dd page
  have hfew := h.ok.few
  rw [hh] at hhas
  rcases at_none h.pd page hpg with ⟨i, f, hi, hf, hlk⟩ | ⟨hno, hlk⟩
  · have hfr := h.pd.pool.each i f hi
    have hil := (List.getElem?_eq_some_iff.1 hi).1
    have cF : W.cell? ⟨FB, i, none⟩ = some (.pointer (some ⟨f.blk, 0, none⟩)) := h.pd.frame hi
    have d3 : W.cell? ⟨f.blk, 3, none⟩ = some (.int .i64 f.pins) := hfr.box.cell 3 _ rfl
    have hfp := hq0 i f hi hf
    have HF := Lib.hid hf
    clear hf
    generalize hfpp : f.pins = fp at d3 hfp
    have HFPP := Lib.hid hfpp
    clear hfpp hfr hb
    go_enter Tryd.func58, Tryd.ntmps58
    go_wp2_with fail
    refine hhas.mono ?_
    rintro e w1 ⟨rfl, x, rfl⟩
    obtain ⟨h1, k1⟩ := h.looks x
    generalize W.drewN x = w1 at h1 k1 ⊢
    obtain ⟨ao, nn, cc, hv, hcn⟩ := gone_any h1.pd.pool page
    have c8 : w1.cell? ⟨P, 8, none⟩ = some (vGone q.op) := h1.pd.pool.box.cell 8 _ rfl
    have c5 : w1.cell? ⟨P, 5, none⟩ = some (vOpen q.op) := h1.pd.pool.box.cell 5 _ rfl
    have c0 : w1.cell? ⟨P, 0, none⟩ = some (.pointer (some ⟨D, 0, none⟩)) := h1.pd.pool.box.cell 0 _ rfl
    rw [hv] at c8
    rw [decide_eq_true hg] at hcn
    clear hhas
    go_wp2_with fail
    refine hcn.mono ?_
    rintro e w2 ⟨rfl, rfl⟩
    go_wp2
    go_ret
    exact ⟨rfl, h1, k1⟩
  · clear hb hno
    go_enter Tryd.func58, Tryd.ntmps58
    go_wp2_with fail
    refine hhas.mono ?_
    rintro e w1 ⟨rfl, x, rfl⟩
    obtain ⟨h1, k1⟩ := h.looks x
    generalize W.drewN x = w1 at h1 k1 ⊢
    obtain ⟨ao, nn, cc, hv, hcn⟩ := gone_any h1.pd.pool page
    have c8 : w1.cell? ⟨P, 8, none⟩ = some (vGone q.op) := h1.pd.pool.box.cell 8 _ rfl
    have c5 : w1.cell? ⟨P, 5, none⟩ = some (vOpen q.op) := h1.pd.pool.box.cell 5 _ rfl
    have c0 : w1.cell? ⟨P, 0, none⟩ = some (.pointer (some ⟨D, 0, none⟩)) := h1.pd.pool.box.cell 0 _ rfl
    rw [hv] at c8
    rw [decide_eq_true hg] at hcn
    clear hhas
    go_wp2_with fail
    refine hcn.mono ?_
    rintro e w2 ⟨rfl, rfl⟩
    go_wp2
    go_ret
    exact ⟨rfl, h1, k1⟩
set_option maxHeartbeats 1000000 in
set_option maxRecDepth 100000 in
theorem give_open (h : PS E W P D FB M n kp q d cnt k c) {page : Int} (hk : k + 1 < 900000000) {o : Opn} (hq : q.op = some o) (hq0 : ∀ (i : Nat) (f : Fr), q.frames[i]? = some (some f) → f.page = page → f.pins ≤ 0) (hpg : (Lit.int .i64 page).wf = true) (hh : hasD d cnt page = true) (hg : page ∉ goneL q.op) :
    Calls Tryd.prog 58 #[.pointer (some ⟨P, 0, none⟩), .int .i64 page] W fun e w' => e = .returned (.int .i64 0) ∧ ∃ op', GoneO q.op op' page ∧ PS E w' P D FB M n kp { frames := q.frames, hand := q.hand, pins := q.pins, op := op' } d cnt (k + 1) c ∧ Kept E W w' := by
  have hb := h.pd.pool.box
  have c2 : W.cell? ⟨P, 2, none⟩ = some (.map (some M)) := hb.cell 2 _ rfl
  have c0 : W.cell? ⟨P, 0, none⟩ = some (.pointer (some ⟨D, 0, none⟩)) := hb.cell 0 _ rfl
  have c1 : W.cell? ⟨P, 1, none⟩ = some (.slice (some ⟨FB, 0, none⟩) q.frames.length q.frames.length) := hb.cell 1 _ rfl
  have hhas := dd_has h.pd.dd page
  have hfew := h.ok.few
  rw [hh] at hhas
  rcases at_none h.pd page hpg with ⟨i, f, hi, hf, hlk⟩ | ⟨hno, hlk⟩
  · have hfr := h.pd.pool.each i f hi
    have hil := (List.getElem?_eq_some_iff.1 hi).1
    have cF : W.cell? ⟨FB, i, none⟩ = some (.pointer (some ⟨f.blk, 0, none⟩)) := h.pd.frame hi
    have d3 : W.cell? ⟨f.blk, 3, none⟩ = some (.int .i64 f.pins) := hfr.box.cell 3 _ rfl
    have hfp := hq0 i f hi hf
    have HF := Lib.hid hf
    clear hf
    generalize hfpp : f.pins = fp at d3 hfp
    have HFPP := Lib.hid hfpp
    clear hfpp hfr hb
    go_enter Tryd.func58, Tryd.ntmps58
    go_wp2_with fail
    refine hhas.mono ?_
    rintro e w1 ⟨rfl, x, rfl⟩
    obtain ⟨h1, k1⟩ := h.looks x
    generalize W.drewN x = w1 at h1 k1 ⊢
    obtain ⟨ao, nn, cc, hv, hcn⟩ := gone_any h1.pd.pool page
    have c8 : w1.cell? ⟨P, 8, none⟩ = some (vGone q.op) := h1.pd.pool.box.cell 8 _ rfl
    have c5 : w1.cell? ⟨P, 5, none⟩ = some (vOpen q.op) := h1.pd.pool.box.cell 5 _ rfl
    have c0 : w1.cell? ⟨P, 0, none⟩ = some (.pointer (some ⟨D, 0, none⟩)) := h1.pd.pool.box.cell 0 _ rfl
    rw [hv] at c8
    rw [decide_eq_false hg] at hcn
    clear hhas
    go_wp2_with fail
    refine hcn.mono ?_
    rintro e w2 ⟨rfl, rfl⟩
    rw [hq] at c5 hv
    simp only [vOpen, Option.isSome_some] at c5
    obtain ⟨e1, e2, e3⟩ := Value.slice.inj hv
    subst e1 e2 e3
    clear hv
    have ho := h1.pd.pool.op o hq
    have hlim := h1.lim o hq
    obtain ⟨g', c', w5, happ, r5, o5, hg5⟩ := ho.gone.push (by omega) page
    obtain ⟨p6, k6, b5⟩ := h1.pd.gone hq page hpg r5 o5 hg5 (by omega)
    have f8 := b5.free 8
    have c8' : w5.cell? ⟨P, 8, none⟩ = some (vGone q.op) := b5.cell 8 _ rfl
    have s6 := (h1.up (Nat.le_succ k)).op (op' := some { o with go := some ⟨g', 0, none⟩, gc := c', gone := o.gone ++ [page] }) (fun x hx => by
      rw [← Option.some.inj hx]
      show o.wn ≤ _ ∧ o.made.length ≤ _ ∧ (o.gone ++ [page]).length ≤ _
      rw [List.length_append, List.length_singleton]
      omega) p6
    have HM : Hid (GoneO q.op (some { o with go := some ⟨g', 0, none⟩, gc := c', gone := o.gone ++ [page] }) page) := ⟨o, _, hq, rfl, rfl, rfl, rfl, rfl⟩
    have HS := Lib.hid (And.intro s6 (k1.trans k6))
    clear ho hlim r5 o5 hg5 p6 k6 b5 s6 h1 k1 hq h
    go_wp2_with (at_builtin; refine UK.wpList_append_run happ rfl rfl rfl rfl rfl ?_)
    go_ret
    exact ⟨rfl, _, HM.out, HS.out.1, HS.out.2⟩
  · clear hb hno
    go_enter Tryd.func58, Tryd.ntmps58
    go_wp2_with fail
    refine hhas.mono ?_
    rintro e w1 ⟨rfl, x, rfl⟩
    obtain ⟨h1, k1⟩ := h.looks x
    generalize W.drewN x = w1 at h1 k1 ⊢
    obtain ⟨ao, nn, cc, hv, hcn⟩ := gone_any h1.pd.pool page
    have c8 : w1.cell? ⟨P, 8, none⟩ = some (vGone q.op) := h1.pd.pool.box.cell 8 _ rfl
    have c5 : w1.cell? ⟨P, 5, none⟩ = some (vOpen q.op) := h1.pd.pool.box.cell 5 _ rfl
    have c0 : w1.cell? ⟨P, 0, none⟩ = some (.pointer (some ⟨D, 0, none⟩)) := h1.pd.pool.box.cell 0 _ rfl
    rw [hv] at c8
    rw [decide_eq_false hg] at hcn
    clear hhas
    go_wp2_with fail
    refine hcn.mono ?_
    rintro e w2 ⟨rfl, rfl⟩
    rw [hq] at c5 hv
    simp only [vOpen, Option.isSome_some] at c5
    obtain ⟨e1, e2, e3⟩ := Value.slice.inj hv
    subst e1 e2 e3
    clear hv
    have ho := h1.pd.pool.op o hq
    have hlim := h1.lim o hq
    obtain ⟨g', c', w5, happ, r5, o5, hg5⟩ := ho.gone.push (by omega) page
    obtain ⟨p6, k6, b5⟩ := h1.pd.gone hq page hpg r5 o5 hg5 (by omega)
    have f8 := b5.free 8
    have c8' : w5.cell? ⟨P, 8, none⟩ = some (vGone q.op) := b5.cell 8 _ rfl
    have s6 := (h1.up (Nat.le_succ k)).op (op' := some { o with go := some ⟨g', 0, none⟩, gc := c', gone := o.gone ++ [page] }) (fun x hx => by
      rw [← Option.some.inj hx]
      show o.wn ≤ _ ∧ o.made.length ≤ _ ∧ (o.gone ++ [page]).length ≤ _
      rw [List.length_append, List.length_singleton]
      omega) p6
    have HM : Hid (GoneO q.op (some { o with go := some ⟨g', 0, none⟩, gc := c', gone := o.gone ++ [page] }) page) := ⟨o, _, hq, rfl, rfl, rfl, rfl, rfl⟩
    have HS := Lib.hid (And.intro s6 (k1.trans k6))
    clear ho hlim r5 o5 hg5 p6 k6 b5 s6 h1 k1 hq h
    go_wp2_with (at_builtin; refine UK.wpList_append_run happ rfl rfl rfl rfl rfl ?_)
    go_ret
    exact ⟨rfl, _, HM.out, HS.out.1, HS.out.2⟩
/-- behind Give, where nothing is under way -/
def GiveS (E : Nat → Prop) (W w' : World) (P D FB M n : Nat) (kp : Int) (d : Dk) (cnt k : Nat) (c : Nat → List UInt8) (page : Int) (e : Ending) : Prop :=
  ∃ (q' : Pl) (d' : Dk), e = .returned (.int .i64 0) ∧ PS E w' P D FB M n kp q' d' cnt (k + 1) c ∧ Kept E W w' ∧ q'.op = none ∧ d'.free = d.free ++ [page.toNat] ∧ d'.most = d.most
set_option maxHeartbeats 1000000 in
set_option maxRecDepth 100000 in
theorem give_shut (h : PS E W P D FB M n kp q d cnt k c) {page : Int} (hk : k + 1 < 900000000) (hq : q.op = none) (hq0 : ∀ (i : Nat) (f : Fr), q.frames[i]? = some (some f) → f.page = page → f.pins ≤ 0) (hpg : (Lit.int .i64 page).wf = true) (hh : hasD d cnt page = true) :
    Calls Tryd.prog 58 #[.pointer (some ⟨P, 0, none⟩), .int .i64 page] W fun e w' => GiveS E W w' P D FB M n kp d cnt k c page e := by
  have hg : page ∉ goneL q.op := by rw [hq]; exact List.not_mem_nil
  obtain ⟨p, rfl, hp1, hp2, hp3⟩ : ∃ p : Nat, page = p ∧ 1 ≤ p ∧ p < cnt ∧ p ∉ d.free := by
    have hh := hh
    rw [h.calm.clean.so.hasI, decide_eq_true_eq] at hh
    exact ⟨page.toNat, by omega, by omega, by omega, hh.2.2⟩
  obtain ⟨re, rd⟩ := rgive_yes h.calm.clean hh
  have hpu := h.dok.puts
  have hgh := fun a ha hne => give_has h.dok (by omega) (p : Int) a ha hne
  have hokg := h.dok.give (by omega) (p : Int)
  rw [rd] at hgh hokg
  have HGH := Lib.hid hgh
  have HOK := Lib.hid hokg
  have HG := Lib.hid (fun (w : World) (hw : PS E w P D FB M n kp q d cnt k c) => (show Calls Tryd.prog 108 #[.pointer (some ⟨D, 0, none⟩), .int .i64 (p : Int)] w fun e w' => e = .returned (.int .i64 0) ∧ DD (fun k => E k ∨ PBlk P FB M q.frames q.op k) w' D (giveD d p) cnt ∧ Kept (fun k => E k ∨ PBlk P FB M q.frames q.op k) w w' by
    have := dd_give_u hw.pd.dd hw.dok (by omega) (p : Int)
    rw [re, rd] at this; exact this))
  clear re rd hgh hokg
  have hb := h.pd.pool.box
  have c2 : W.cell? ⟨P, 2, none⟩ = some (.map (some M)) := hb.cell 2 _ rfl
  have c0 : W.cell? ⟨P, 0, none⟩ = some (.pointer (some ⟨D, 0, none⟩)) := hb.cell 0 _ rfl
  have c1 : W.cell? ⟨P, 1, none⟩ = some (.slice (some ⟨FB, 0, none⟩) q.frames.length q.frames.length) := hb.cell 1 _ rfl
  have hhas := dd_has h.pd.dd (p : Int)
  have hfew := h.ok.few
  rw [hh] at hhas
  rcases at_none h.pd (p : Int) hpg with ⟨i, f, hi, hf, hlk⟩ | ⟨hno, hlk⟩
  · have hfr := h.pd.pool.each i f hi
    have hil := (List.getElem?_eq_some_iff.1 hi).1
    have cF : W.cell? ⟨FB, i, none⟩ = some (.pointer (some ⟨f.blk, 0, none⟩)) := h.pd.frame hi
    have d3 : W.cell? ⟨f.blk, 3, none⟩ = some (.int .i64 f.pins) := hfr.box.cell 3 _ rfl
    have hfp := hq0 i f hi hf
    have HF := Lib.hid hf
    clear hf
    generalize hfpp : f.pins = fp at d3 hfp
    have HFPP := Lib.hid hfpp
    clear hfpp hfr hb
    go_enter Tryd.func58, Tryd.ntmps58
    go_wp2_with fail
    refine hhas.mono ?_
    rintro e w1 ⟨rfl, x, rfl⟩
    obtain ⟨h1, k1⟩ := h.looks x
    generalize W.drewN x = w1 at h1 k1 ⊢
    obtain ⟨ao, nn, cc, hv, hcn⟩ := gone_any h1.pd.pool (p : Int)
    have c8 : w1.cell? ⟨P, 8, none⟩ = some (vGone q.op) := h1.pd.pool.box.cell 8 _ rfl
    have c5 : w1.cell? ⟨P, 5, none⟩ = some (vOpen q.op) := h1.pd.pool.box.cell 5 _ rfl
    have c0 : w1.cell? ⟨P, 0, none⟩ = some (.pointer (some ⟨D, 0, none⟩)) := h1.pd.pool.box.cell 0 _ rfl
    rw [hv] at c8
    rw [decide_eq_false hg] at hcn
    clear hhas
    go_wp2_with fail
    refine hcn.mono ?_
    rintro e w2 ⟨rfl, rfl⟩
    rw [hq] at c5
    simp only [vOpen, Option.isSome_none] at c5
    have HG1 := Lib.hid (HG.out _ h1)
    have HH1 := Lib.hid (And.intro h1 (And.intro k1 hq))
    clear HG hv hcn h h1 k1 hq
    go_wp2_with fail
    refine HG1.out.mono ?_
    rintro e w3 ⟨rfl, d3', k3⟩
    obtain ⟨h1, k1, hq⟩ := HH1.out
    have p3 := h1.pd.disk d3' k3
    have K3 := Lib.hid (k1.trans (k3.mono (fun j hj => .inl hj)))
    have HR := Lib.hid (forget_yes p3 h1.ok hi)
    have hpo := h1.ok.set hi (u := none) (fun g hg => by cases hg)
    rw [show q.pins - pinO (some f) + pinO none = q.pins by show q.pins - f.pins + 0 = _; have := HFPP.out; have := (h1.ok.pos i f hi).1; omega] at hpo
    have s4 : ∀ w4, PD E w4 P D FB M { q with frames := q.frames.set i none } (giveD d p) cnt → PS E w4 P D FB M n kp { q with frames := q.frames.set i none } (giveD d p) cnt (k + 1) c := fun w4 p4 => by
      refine ⟨p4, hpo, HOK.out, fun j g hj => ?_, h1.pins, by show (q.frames.set i none).length = n; rw [List.length_set]; exact h1.len, h1.calm.give (by omega) p hp1 hp2 hp3 (fun j g hj => ?_) (fun j g hj hne => ?_) _ _ _, (h1.up (Nat.le_succ k)).lim⟩
      · replace hj : (q.frames.set i none)[j]? = some (some g) := hj
        rw [get_set _ _ _ _ hil] at hj
        by_cases e : i = j
        · rw [if_pos e] at hj; cases hj
        · rw [if_neg e] at hj
          exact HGH.out _ (h1.held j g hj) (fun _ hpp => e (h1.inj hi hj (by rw [HF.out, hpp])))
      · rw [get_set _ _ _ _ hil] at hj
        by_cases e : i = j
        · rw [if_pos e] at hj; cases hj
        · rw [if_neg e] at hj; exact hj
      · rw [get_set _ _ _ _ hil, if_neg (fun e => ?_)]
        · exact hj
        · subst e
          rw [hi] at hj
          rw [← Option.some.inj (Option.some.inj hj)] at hne
          exact hne HF.out
    have HS := Lib.hid s4
    have HQ := Lib.hid hq
    rw [HF.out] at HR
    clear HG1 HH1 h1 k1 hq p3 hpo s4 d3' k3
    go_wp2_with fail
    refine HR.out.mono ?_
    rintro e w4 ⟨rfl, p4, k4⟩
    have S4 := Lib.hid (HS.out w4 p4)
    have K4 := Lib.hid (K3.out.trans k4)
    clear HR HS K3 p4 k4
    go_wp2
    go_ret
    exact ⟨_, giveD d p, rfl, S4.out, K4.out, HQ.out, rfl, rfl⟩
  · have HNO := Lib.hid hno
    clear hb hno
    go_enter Tryd.func58, Tryd.ntmps58
    go_wp2_with fail
    refine hhas.mono ?_
    rintro e w1 ⟨rfl, x, rfl⟩
    obtain ⟨h1, k1⟩ := h.looks x
    generalize W.drewN x = w1 at h1 k1 ⊢
    obtain ⟨ao, nn, cc, hv, hcn⟩ := gone_any h1.pd.pool (p : Int)
    have c8 : w1.cell? ⟨P, 8, none⟩ = some (vGone q.op) := h1.pd.pool.box.cell 8 _ rfl
    have c5 : w1.cell? ⟨P, 5, none⟩ = some (vOpen q.op) := h1.pd.pool.box.cell 5 _ rfl
    have c0 : w1.cell? ⟨P, 0, none⟩ = some (.pointer (some ⟨D, 0, none⟩)) := h1.pd.pool.box.cell 0 _ rfl
    rw [hv] at c8
    rw [decide_eq_false hg] at hcn
    clear hhas
    go_wp2_with fail
    refine hcn.mono ?_
    rintro e w2 ⟨rfl, rfl⟩
    rw [hq] at c5
    simp only [vOpen, Option.isSome_none] at c5
    have HG1 := Lib.hid (HG.out _ h1)
    have HH1 := Lib.hid (And.intro h1 (And.intro k1 hq))
    clear HG hv hcn h h1 k1 hq
    go_wp2_with fail
    refine HG1.out.mono ?_
    rintro e w3 ⟨rfl, d3', k3⟩
    obtain ⟨h1, k1, hq⟩ := HH1.out
    have p3 := h1.pd.disk d3' k3
    have K3 := Lib.hid (k1.trans (k3.mono (fun j hj => .inl hj)))
    have HR := Lib.hid (forget_no p3 (p : Int) hpg HNO.out)
    have s4 : PS E w3 P D FB M n kp q (giveD d p) cnt (k + 1) c := ⟨p3, h1.ok, HOK.out, fun j g hj => HGH.out _ (h1.held j g hj) (fun _ => HNO.out j g hj), h1.pins, h1.len, h1.calm.give (by omega) p hp1 hp2 hp3 (fun j g hj => hj) (fun j g hj _ => hj) _ _ _, (h1.up (Nat.le_succ k)).lim⟩
    have HS := Lib.hid s4
    have HQ := Lib.hid hq
    clear HG1 HH1 h1 k1 hq p3 s4 d3' k3
    go_wp2_with fail
    refine HR.out.mono ?_
    rintro e w4 ⟨rfl, rfl⟩
    clear HR
    go_wp2
    go_ret
    exact ⟨_, giveD d p, rfl, HS.out, K3.out, HQ.out, rfl, rfl⟩
end
end Go.Proofs.YtjfkdfffolkblaaDoor
