/-
  The pool: Pin.
-/
import Derived.Test.YthlomlkalbpdgaaDoorPoolV
namespace Go.Proofs.YthlomlkalbpdgaaDoor
open Go.RowKit
open UK (str BytesAt nth Only Row Box IntMap)
open Go.BigFrame
section
variable {E : Nat → Prop} {W W' : World} {P D FB M cnt k n : Nat} {kp : Int} {q : Pl} {d d' : Dk}
theorem read_len {p : Int} (f : Fit d cnt) (hh : hasD d cnt p = true) (he : rreadE d cnt p = 0) : (rreadS d cnt p).length = 504 := by
  obtain ⟨m, rfl, hm⟩ := has_nat (by rw [hh]; decide)
  have h3 := has_lt hm
  unfold rreadE at he
  unfold rreadS
  rw [hh] at he ⊢
  rw [if_neg (by decide)] at he ⊢
  by_cases hz : d.rl = 0
  · rw [if_pos hz] at he; exact absurd he (by decide)
  · rw [if_neg hz] at he ⊢
    rw [Int.toNat_natCast] at he ⊢
    have hok : okB d.x m = true := by
      cases hb : okB d.x m with
      | true => rfl
      | false => unfold readE at he; rw [hb] at he; exact absurd he (by decide)
    rw [lookL_yes hok]
    unfold loadL
    rw [List.length_take, List.length_drop, f.len]
    omega
theorem has_read (d : Dk) (cnt : Nat) (p a : Int) : hasD (rreadD d cnt p) cnt a = hasD d cnt a := by
  unfold rreadD
  split
  · rfl
  · split <;> rfl
theorem at_none (h : PD E W P D FB M q d cnt) (page : Int) (hpg : (Lit.int .i64 page).wf = true) :
    (∃ (i : Nat) (f : Fr), q.frames[i]? = some (some f) ∧ f.page = page ∧ (Instr.lookup 50 (.map (some M)) (.int .i64 page) true).run Tryd.prog W = .ok (.tuple #[.int .i64 (i : Int), .bool true]) W) ∨
    ((∀ (i : Nat) (f : Fr), q.frames[i]? = some (some f) → f.page ≠ page) ∧ (Instr.lookup 50 (.map (some M)) (.int .i64 page) true).run Tryd.prog W = .ok (.tuple #[.int .i64 0, .bool false]) W) := by
  obtain ⟨g, hg, hm⟩ := h.pool.map
  have hlk := hm.get (t := 50) Tryd.underlying3 Tryd.underlying3 Tryd.underlying50 (fun w => by kernel_rfl) page hpg
  cases hgp : g page with
  | none =>
    rw [hgp] at hlk
    exact .inr ⟨fun i f hi => hg.no hgp hi, hlk⟩
  | some v =>
    rw [hgp] at hlk
    obtain ⟨j, rfl, fr, hj, hf⟩ := (hg page v).1 hgp
    exact .inl ⟨j, fr, hj, hf, hlk⟩
theorem PS.looks (h : PS E W P D FB M n kp q d cnt k) (m : Nat) : PS E (W.drewN m) P D FB M n kp q d cnt k ∧ Kept E W (W.drewN m) := ⟨h.next (UK.belowN (Below.refl _ _) m), h.keptB (UK.belowN (Below.refl _ _) m)⟩
set_option maxHeartbeats 1000000 in
set_option maxRecDepth 100000 in
theorem pin_no (h : PS E W P D FB M n kp q d cnt k) (page : Int) (hh : hasD d cnt page = false) :
    Calls Tryd.prog 27 #[.pointer (some ⟨P, 0, none⟩), .int .i64 page] W fun e w' => Pinned E W w' P D FB M n kp (k + 2) e := by
  have c0 : W.cell? ⟨P, 0, none⟩ = some (.pointer (some ⟨D, 0, none⟩)) := h.pd.pool.box.cell 0 _ rfl
  have hhas := dd_has h.pd.dd page
  rw [hh] at hhas
  go_enter Tryd.func27, Tryd.ntmps27
  go_wp2_with fail
  refine hhas.mono ?_
  rintro e w1 ⟨rfl, x, rfl⟩
  go_wp2
  go_ret2
  exact .inl ⟨4, q, d, cnt, rfl, (h.looks x).1.more.more, (h.looks x).2⟩
set_option maxHeartbeats 1000000 in
set_option maxRecDepth 100000 in
theorem pin_there (h : PS E W P D FB M n kp q d cnt k) (hkp : 0 ≤ kp ∧ kp < 1000000) (page : Int) (hpg : (Lit.int .i64 page).wf = true) (hh : hasD d cnt page = true) {i : Nat} {f : Fr} (hi : q.frames[i]? = some (some f)) (hf : f.page = page) (hfp : f.pins < 1000000) :
    Calls Tryd.prog 27 #[.pointer (some ⟨P, 0, none⟩), .int .i64 page] W fun e w' => Pinned E W w' P D FB M n kp (k + 2) e := by
  have c0 : W.cell? ⟨P, 0, none⟩ = some (.pointer (some ⟨D, 0, none⟩)) := h.pd.pool.box.cell 0 _ rfl
  have hhas := dd_has h.pd.dd page
  rw [hh] at hhas
  have hcn := fun w => contains_nil page w
  have hl := (List.getElem?_eq_some_iff.1 hi).1
  have hfew := h.ok.few
  go_enter Tryd.func27, Tryd.ntmps27
  go_wp2_with fail
  refine hhas.mono ?_
  rintro e w1 ⟨rfl, x, rfl⟩
  obtain ⟨h1, k1⟩ := h.looks x
  generalize W.drewN x = w1 at h1 k1 ⊢
  clear h hhas c0
  have hb := h1.pd.pool.box
  have c1 : w1.cell? ⟨P, 1, none⟩ = some (.slice (some ⟨FB, 0, none⟩) q.frames.length q.frames.length) := hb.cell 1 _ rfl
  have c2 : w1.cell? ⟨P, 2, none⟩ = some (.map (some M)) := hb.cell 2 _ rfl
  have c8 : w1.cell? ⟨P, 8, none⟩ = some (.slice none 0 0) := hb.cell 8 _ rfl
  have c4 : w1.cell? ⟨P, 4, none⟩ = some (.int .i64 q.pins) := hb.cell 4 _ rfl
  have f4 := hb.free 4
  have cF : w1.cell? ⟨FB, i, none⟩ = some (.pointer (some ⟨f.blk, 0, none⟩)) := h1.pd.frame hi
  have hfr := h1.pd.pool.each i f hi
  have d3 : w1.cell? ⟨f.blk, 3, none⟩ = some (.int .i64 f.pins) := hfr.box.cell 3 _ rfl
  have d4 : w1.cell? ⟨f.blk, 4, none⟩ = some (.bool f.used) := hfr.box.cell 4 _ rfl
  have e3 := hfr.box.free 3
  have e4 := hfr.box.free 4
  have hpos := h1.ok.pos i f hi
  have hlk : (Instr.lookup 50 (.map (some M)) (.int .i64 page) true).run Tryd.prog w1 = .ok (.tuple #[.int .i64 (i : Int), .bool true]) w1 := by
    rcases at_none h1.pd page hpg with ⟨j, g, hj, hg, hr⟩ | ⟨hno, _⟩
    · obtain ⟨mf, ha, _⟩ := h1.pd.pool.map
      rw [ha.inj hi hj (hf.trans hg.symm)]
      exact hr
    · exact absurd hf (hno i f hi)
  have hne : f.blk ≠ P := (h1.pd.pool.off i (some f) f.blk hi (.inl rfl)).1
  have p2 := h1.pd.flag (g := { f with pins := f.pins + 1, used := true }) hi ⟨rfl, rfl, rfl, rfl, rfl⟩ (((Only.refl f.blk w1).set 3 (.int .i64 (f.pins + 1))).set 4 (.bool true)) ((hfr.box.set 3 (.int .i64 (f.pins + 1))).set 4 (.bool true))
  have hb2 := p2.1.pool.box
  have p3 := p2.1.own ((Only.refl P _).set 4 (.int .i64 (q.pins + 1))) (hand := q.hand) (pins := q.pins + 1) (hb2.set 4 (.int .i64 (q.pins + 1)))
  have s3 := h1.flag (g := { f with pins := f.pins + 1, used := true }) hi ⟨rfl, rfl, rfl, rfl, rfl⟩ (by show 0 ≤ f.pins + 1 ∧ f.pins + 1 ≤ 1000000; omega) (by
    rw [show q.pins - f.pins + ({ f with pins := f.pins + 1, used := true } : Fr).pins = q.pins + 1 by show q.pins - f.pins + (f.pins + 1) = _; omega]
    exact p3.1)
  rw [show kp - f.pins + ({ f with pins := f.pins + 1, used := true } : Fr).pins = kp + 1 by show kp - f.pins + (f.pins + 1) = _; omega, show q.pins - f.pins + ({ f with pins := f.pins + 1, used := true } : Fr).pins = q.pins + 1 by show q.pins - f.pins + (f.pins + 1) = _; omega] at s3
  have HF := Lib.hid (And.intro s3 ((k1.trans p2.2).trans p3.2))
  have hqp : 0 ≤ q.pins ∧ q.pins < 1000000 := by rw [h1.pins]; exact hkp
  obtain ⟨hqp1, hqp2⟩ := hqp
  have HP := Lib.hid hf
  clear p2 p3 s3 hb2 hfr hb h1 k1 hf
  go_wp2_with fail
  refine (hcn _).mono ?_
  rintro e w2 ⟨rfl, rfl⟩
  go_wp2
  go_ret2
  exact .inr ⟨i, { f with pins := f.pins + 1, used := true }, _, d, cnt, rfl, by show (q.frames.set i _)[i]? = _; rw [get_set _ _ _ _ hl, if_pos rfl], by show 0 < f.pins + 1; omega, HF.out.1.more.more, HF.out.2⟩
set_option maxHeartbeats 1000000 in
set_option maxRecDepth 100000 in
theorem pin_comes (h : PS E W P D FB M n kp q d cnt k) (hk : k + 2 < 1000) (hkp : 0 ≤ kp ∧ kp < 1000000) (page : Int) (hpg : (Lit.int .i64 page).wf = true) (hh : hasD d cnt page = true) (hno : ∀ (i : Nat) (f : Fr), q.frames[i]? = some (some f) → f.page ≠ page) :
    Calls Tryd.prog 27 #[.pointer (some ⟨P, 0, none⟩), .int .i64 page] W fun e w' => Pinned E W w' P D FB M n kp (k + 2) e := by
  have c0 : W.cell? ⟨P, 0, none⟩ = some (.pointer (some ⟨D, 0, none⟩)) := h.pd.pool.box.cell 0 _ rfl
  have hhas := dd_has h.pd.dd page
  rw [hh] at hhas
  have hcn := fun w => contains_nil page w
  have HNO := Lib.hid hno
  have HH := Lib.hid hh
  clear hno hh
  go_enter Tryd.func27, Tryd.ntmps27
  go_wp2_with fail
  refine hhas.mono ?_
  rintro e w1 ⟨rfl, x, rfl⟩
  obtain ⟨h1, k1⟩ := h.looks x
  generalize W.drewN x = w1 at h1 k1 ⊢
  clear h hhas c0
  have hb := h1.pd.pool.box
  have c2 : w1.cell? ⟨P, 2, none⟩ = some (.map (some M)) := hb.cell 2 _ rfl
  have c8 : w1.cell? ⟨P, 8, none⟩ = some (.slice none 0 0) := hb.cell 8 _ rfl
  have hlk : (Instr.lookup 50 (.map (some M)) (.int .i64 page) true).run Tryd.prog w1 = .ok (.tuple #[.int .i64 0, .bool false]) w1 := by
    rcases at_none h1.pd page hpg with ⟨j, g, hj, hg, _⟩ | ⟨_, hr⟩
    · exact absurd hg (HNO.out j g hj)
    · exact hr
  have HR := Lib.hid (proom_any h1.pd h1.ok h1.dok (by omega))
  clear hb
  go_wp2_with fail
  refine (hcn _).mono ?_
  rintro e w2 ⟨rfl, rfl⟩
  go_wp2_with fail
  refine HR.out.mono ?_
  rintro e w3 ⟨i, e0, q', d', rfl, p3, k3, o3, ok3, hpin, hlen, hfw, hhs, hz, _⟩
  have hheld : ∀ (j : Nat) (g : Fr), q'.frames[j]? = some (some g) → hasD d' cnt g.page = true := fun j g hj => by
    obtain ⟨g0, h0, he⟩ := hfw j g hj
    rw [hhs, ← he]; exact h1.held j g0 h0
  have s3 : PS E w3 P D FB M n kp q' d' cnt (k + 1) := ⟨p3, o3, ok3, hheld, hpin.trans h1.pins, hlen.trans h1.len⟩
  have hno3 : ∀ (j : Nat) (g : Fr), q'.frames[j]? = some (some g) → g.page ≠ page := fun j g hj => by
    obtain ⟨g0, h0, he⟩ := hfw j g hj
    rw [← he]; exact HNO.out j g0 h0
  have hh3 : hasD d' cnt page = true := by rw [hhs]; exact HH.out
  have HZ := Lib.hid hz
  have HS3 := Lib.hid (And.intro s3 (k1.trans k3))
  have HNO3 := Lib.hid hno3
  have HH3 := Lib.hid hh3
  clear HR hcn c2 c8 hlk k1 k3 hpin hlen hfw hhs hz hheld s3 hno3 hh3 o3 ok3
  by_cases he : e0 = 0
  · have HI := Lib.hid (HZ.out he)
    subst he
    have c0 : w3.cell? ⟨P, 0, none⟩ = some (.pointer (some ⟨D, 0, none⟩)) := p3.pool.box.cell 0 _ rfl
    have HRd := Lib.hid (dd_read_u p3.dd HS3.out.1.dok (by omega) page)
    have hrl := read_len (p := page) p3.dd.fit HH3.out
    have HHr := Lib.hid (fun a => has_read d' cnt page a)
    have hokr := HS3.out.1.dok.read (by omega) page
    generalize rreadS d' cnt page = rs at HRd hrl
    generalize rreadE d' cnt page = re at HRd hrl
    generalize rreadD d' cnt page = rd at HRd HHr hokr
    have HRL := Lib.hid hrl
    clear hrl
    go_wp2_with fail
    refine HRd.out.mono ?_
    rintro e w4 ⟨rfl, d4, k4⟩
    have p4 := p3.disk d4 k4
    have s4 : PS E w4 P D FB M n kp q' rd cnt (k + 2) := ⟨p4, HS3.out.1.ok, hokr, fun j g hj => by rw [HHr.out]; exact HS3.out.1.held j g hj, HS3.out.1.pins, HS3.out.1.len⟩
    have HS4 := Lib.hid (And.intro s4 (HS3.out.2.trans (k4.mono (fun j hj => .inl hj))))
    clear HRd c0 d4 k4 p3 s4 hokr
    by_cases hr0 : re = 0
    · have hsl := HRL.out hr0
      subst hr0
      have HL := Lib.hid (play_any p4 HS4.out.1.ok (by rw [HS4.out.1.pins]; omega) HI.out page hpg HNO3.out rs hsl)
      clear p4 hsl
      go_wp2_with fail
      refine HL.out.mono ?_
      rintro e w5 ⟨f, rfl, hfpg, _, hfp1, _, _, p5, k5⟩
      have hil := (List.getElem?_eq_some_iff.1 HI.out).1
      have hpo := HS4.out.1.ok.set HI.out (u := some f) (fun y hy => by rw [← Option.some.inj hy, hfp1]; omega)
      rw [show q'.pins - pinO none + pinO (some f) = q'.pins + 1 by show q'.pins - 0 + f.pins = _; omega] at hpo
      have s5 : PS E w5 P D FB M n (kp + 1) { frames := q'.frames.set i (some f), hand := q'.hand, pins := q'.pins + 1 } rd cnt (k + 2) := ⟨p5, hpo, HS4.out.1.dok, fun j g hj => by
        replace hj : (q'.frames.set i (some f))[j]? = some (some g) := hj
        rw [get_set _ _ _ _ hil] at hj
        by_cases e : i = j
        · rw [if_pos e] at hj
          rw [← Option.some.inj (Option.some.inj hj), hfpg, HHr.out]; exact HH3.out
        · rw [if_neg e] at hj; exact HS4.out.1.held j g hj, by show q'.pins + 1 = _; rw [HS4.out.1.pins], by show (q'.frames.set i _).length = n; rw [List.length_set]; exact HS4.out.1.len⟩
      have HS5 := Lib.hid (And.intro s5 (HS4.out.2.trans k5))
      have HFP := Lib.hid hfp1
      clear s5 k5 p5 hpo HL hfpg hfp1
      go_wp2
      go_ret2
      exact .inr ⟨i, f, _, rd, cnt, rfl, by show (q'.frames.set i _)[i]? = _; rw [get_set _ _ _ _ hil, if_pos rfl], by rw [HFP.out]; decide, HS5.out.1, HS5.out.2⟩
    · have hb1 : (re == 0) = false := beq_eq_false_iff_ne.2 hr0
      clear hr0 p4
      go_wp2
      go_ret2
      exact .inl ⟨re, q', rd, cnt, rfl, HS4.out.1, HS4.out.2⟩
  · have hb1 : (e0 == 0) = false := beq_eq_false_iff_ne.2 he
    clear he p3
    go_wp2
    go_ret2
    exact .inl ⟨e0, q', d', cnt, rfl, HS3.out.1.more, HS3.out.2⟩
end
end Go.Proofs.YthlomlkalbpdgaaDoor
