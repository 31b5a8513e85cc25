/-
  The pool: Give, Flush, New.
-/
import Derived.Test.YthlomlkalbpdgaaDoorPoolX
namespace Go.Proofs.YthlomlkalbpdgaaDoor
open Go.RowKit
open UK (str BytesAt nth Only Row Box IntMap)
open Go.BigFrame
section
variable {E : Nat → Prop} {W W' : World} {P D FB M cnt k n : Nat} {kp : Int} {q : Pl} {d d' : Dk}
theorem give_has (o : Ok d cnt k) (hk : k < 1000) (p : Int) (a : Int) (ha : hasD d cnt a = true) (hne : rgiveE d cnt p = 0 → a ≠ p) : hasD (rgiveD d cnt p) cnt a = true := by
  have so2 := (o.give hk p).so
  have so := o.so
  unfold rgiveE at hne
  unfold rgiveD at so2 ⊢
  by_cases hh : hasD d cnt p = false
  · rw [if_pos hh] at so2 ⊢; exact ha
  · rw [if_neg hh] at so2 hne ⊢
    by_cases hz : d.wl = 0
    · rw [if_pos hz]; exact ha
    · rw [if_neg hz] at so2 ⊢
      have h0 : failE d.wl = 0 := by unfold failE; rw [if_neg hz]
      obtain ⟨m, rfl, hm⟩ := has_nat hh
      rw [so.hasI, decide_eq_true_eq] at ha
      rw [so2.hasI, decide_eq_true_eq]
      refine ⟨ha.1, ha.2.1, fun hmem => ?_⟩
      have hmem : a.toNat ∈ d.free ++ [(m : Int).toNat] := hmem
      rcases List.mem_append.1 hmem with hx | hx
      · exact ha.2.2 hx
      · have := List.mem_singleton.1 hx
        rw [Int.toNat_natCast] at this
        exact hne h0 (by omega)
/-- behind Give -/
def GiveR (E : Nat → Prop) (W w' : World) (P D FB M n : Nat) (kp : Int) (k : Nat) (e : Ending) : Prop := ∃ (e0 : Int) (q' : Pl) (d' : Dk) (cnt' : Nat), e = .returned (.int .i64 e0) ∧ PS E w' P D FB M n kp q' d' cnt' k ∧ Kept E W w'
set_option maxHeartbeats 1000000 in
set_option maxRecDepth 100000 in
theorem pgive_any (h : PS E W P D FB M n kp q d cnt k) (hk : k + 2 < 1000) (hq0 : ∀ (i : Nat) (f : Fr), q.frames[i]? = some (some f) → f.pins ≤ 0) (page : Int) (hpg : (Lit.int .i64 page).wf = true) :
    Calls Tryd.prog 29 #[.pointer (some ⟨P, 0, none⟩), .int .i64 page] W fun e w' => GiveR E W w' P D FB M n kp (k + 2) e := by
  have hb := h.pd.pool.box
  have c2 : W.cell? ⟨P, 2, none⟩ = some (.map (some M)) := hb.cell 2 _ rfl
  have c0 : W.cell? ⟨P, 0, none⟩ = some (.pointer (some ⟨D, 0, none⟩)) := hb.cell 0 _ rfl
  have c1 : W.cell? ⟨P, 1, none⟩ = some (.slice (some ⟨FB, 0, none⟩) q.frames.length q.frames.length) := hb.cell 1 _ rfl
  have hhas := dd_has h.pd.dd page
  have hcn := fun w => contains_nil page w
  have hfew := h.ok.few
  have HG := Lib.hid (fun (w : World) (hw : PS E w P D FB M n kp q d cnt k) => dd_give_u hw.pd.dd hw.dok (by omega) page)
  have hgh := fun a ha hne => give_has h.dok (by omega) page a ha hne
  have hokg := h.dok.give (by omega) page
  rcases at_none h.pd page hpg with ⟨i, f, hi, hf, hlk⟩ | ⟨hno, hlk⟩
  · have hfr := h.pd.pool.each i f hi
    have hil := (List.getElem?_eq_some_iff.1 hi).1
    have cF : W.cell? ⟨FB, i, none⟩ = some (.pointer (some ⟨f.blk, 0, none⟩)) := h.pd.frame hi
    have d3 : W.cell? ⟨f.blk, 3, none⟩ = some (.int .i64 f.pins) := hfr.box.cell 3 _ rfl
    have hfp := hq0 i f hi
    have hh : hasD d cnt page = true := by rw [← hf]; exact h.held i f hi
    rw [hh] at hhas
    generalize hre : rgiveE d cnt page = re at HG hgh
    generalize hrd : rgiveD d cnt page = rd at HG hgh hokg
    have HGH := Lib.hid hgh
    have HF := Lib.hid hf
    clear hb hfr hgh hre hrd hf
    generalize hfpp : f.pins = fp at d3 hfp
    have HFPP := Lib.hid hfpp
    clear hfpp
    go_enter Tryd.func29, Tryd.ntmps29
    go_wp2_with fail
    refine hhas.mono ?_
    rintro e w1 ⟨rfl, x, rfl⟩
    obtain ⟨h1, k1⟩ := h.looks x
    generalize W.drewN x = w1 at h1 k1 ⊢
    have c8 : w1.cell? ⟨P, 8, none⟩ = some (.slice none 0 0) := h1.pd.pool.box.cell 8 _ rfl
    have c5 : w1.cell? ⟨P, 5, none⟩ = some (.bool false) := h1.pd.pool.box.cell 5 _ rfl
    have c0 : w1.cell? ⟨P, 0, none⟩ = some (.pointer (some ⟨D, 0, none⟩)) := h1.pd.pool.box.cell 0 _ rfl
    have HG1 := Lib.hid (HG.out w1 h1)
    go_wp2_with fail
    refine (hcn _).mono ?_
    rintro e w2 ⟨rfl, rfl⟩
    go_wp2_with fail
    refine HG1.out.mono ?_
    rintro e w3 ⟨rfl, d3', k3⟩
    have p3 := h1.pd.disk d3' k3
    have K3 := Lib.hid (k1.trans (k3.mono (fun j hj => .inl hj)))
    have H1 := Lib.hid h1
    clear HG HG1 hhas c0 c1 c2 c5 c8 cF d3 hlk h k1 h1 k3 d3'
    by_cases hr0 : re = 0
    · have HR := Lib.hid (forget_yes p3 H1.out.ok hi)
      have hpo := H1.out.ok.set hi (u := none) (fun g hg => by cases hg)
      have hf0 := (H1.out.ok.pos i f hi).1
      rw [show q.pins - pinO (some f) + pinO none = q.pins by show q.pins - f.pins + 0 = _; have := HFPP.out; omega] at hpo
      have HHe := Lib.hid (fun (j : Nat) (g : Fr) (hj : (q.frames.set i none)[j]? = some (some g)) => (show hasD rd cnt g.page = true by
        rw [get_set _ _ _ _ hil] at hj
        by_cases e : i = j
        · rw [if_pos e] at hj; cases hj
        · rw [if_neg e] at hj
          refine HGH.out _ (H1.out.held j g hj) (fun _ hpp => ?_)
          obtain ⟨mf, ha, _⟩ := H1.out.pd.pool.map
          exact e (ha.inj hi hj (by rw [HF.out, hpp]))))
      have HPO := Lib.hid hpo
      subst hr0
      clear hpo hf0 p3
      go_wp2_with fail
      rw [← HF.out]
      refine HR.out.mono ?_
      rintro e w4 ⟨rfl, p4, k4⟩
      have s4 : PS E w4 P D FB M n kp { q with frames := q.frames.set i none } rd cnt (k + 1) := ⟨p4, HPO.out, hokg, HHe.out, H1.out.pins, by show (q.frames.set i none).length = n; rw [List.length_set]; exact H1.out.len⟩
      have HS := Lib.hid s4
      have K4 := Lib.hid (K3.out.trans k4)
      clear s4 p4 k4 HR
      go_wp2
      go_ret
      exact ⟨0, _, rd, cnt, rfl, HS.out.more, K4.out⟩
    · have hb1 : (re == 0) = false := beq_eq_false_iff_ne.2 hr0
      have s4 : PS E w3 P D FB M n kp q rd cnt (k + 1) := ⟨p3, H1.out.ok, hokg, fun j g hj => HGH.out _ (H1.out.held j g hj) (fun h0 => absurd h0 hr0), H1.out.pins, H1.out.len⟩
      have HS := Lib.hid s4
      clear s4 p3 hr0
      go_wp2
      go_ret
      exact ⟨re, q, rd, cnt, rfl, HS.out.more, K3.out⟩
  · by_cases hh : hasD d cnt page = true
    · rw [hh] at hhas
      generalize hre : rgiveE d cnt page = re at HG hgh
      generalize hrd : rgiveD d cnt page = rd at HG hgh hokg
      have HGH := Lib.hid hgh
      have HNO := Lib.hid hno
      clear hb hgh hre hrd hno
      go_enter Tryd.func29, Tryd.ntmps29
      go_wp2_with fail
      refine hhas.mono ?_
      rintro e w1 ⟨rfl, x, rfl⟩
      obtain ⟨h1, k1⟩ := h.looks x
      generalize W.drewN x = w1 at h1 k1 ⊢
      have c8 : w1.cell? ⟨P, 8, none⟩ = some (.slice none 0 0) := h1.pd.pool.box.cell 8 _ rfl
      have c5 : w1.cell? ⟨P, 5, none⟩ = some (.bool false) := h1.pd.pool.box.cell 5 _ rfl
      have c0 : w1.cell? ⟨P, 0, none⟩ = some (.pointer (some ⟨D, 0, none⟩)) := h1.pd.pool.box.cell 0 _ rfl
      have HG1 := Lib.hid (HG.out w1 h1)
      go_wp2_with fail
      refine (hcn _).mono ?_
      rintro e w2 ⟨rfl, rfl⟩
      go_wp2_with fail
      refine HG1.out.mono ?_
      rintro e w3 ⟨rfl, d3', k3⟩
      have p3 := h1.pd.disk d3' k3
      have s4 : PS E w3 P D FB M n kp q rd cnt (k + 1) := ⟨p3, h1.ok, hokg, fun j g hj => HGH.out _ (h1.held j g hj) (fun _ => HNO.out j g hj), h1.pins, h1.len⟩
      have K3 := Lib.hid (k1.trans (k3.mono (fun j hj => .inl hj)))
      have HS := Lib.hid s4
      have HR := Lib.hid (forget_no p3 page hpg HNO.out)
      clear HG HG1 hhas c0 c1 c2 c5 c8 hlk h k1 h1 k3 d3' s4 p3
      by_cases hr0 : re = 0
      · subst hr0
        go_wp2_with fail
        refine HR.out.mono ?_
        rintro e w4 ⟨rfl, rfl⟩
        go_wp2
        go_ret
        exact ⟨0, _, rd, cnt, rfl, HS.out.more, K3.out⟩
      · have hb1 : (re == 0) = false := beq_eq_false_iff_ne.2 hr0
        clear hr0
        go_wp2
        go_ret
        exact ⟨re, q, rd, cnt, rfl, HS.out.more, K3.out⟩
    · have hh2 : hasD d cnt page = false := by simpa using hh
      rw [hh2] at hhas
      clear hb hno hgh hokg HG hh hh2
      go_enter Tryd.func29, Tryd.ntmps29
      go_wp2_with fail
      refine hhas.mono ?_
      rintro e w1 ⟨rfl, x, rfl⟩
      obtain ⟨h1, k1⟩ := h.looks x
      go_wp2
      go_ret
      exact ⟨4, q, d, cnt, rfl, h1.more.more, k1⟩
end
end Go.Proofs.YthlomlkalbpdgaaDoor
