/-
  The pool: an empty frame is found; Pin.
-/
import Derived.Test.YtjfkdfffolkblaaDoorPoolV
namespace Go.Proofs.YtjfkdfffolkblaaDoor
open Go.RowKit
open UK (str BytesAt nth Only Row Box IntMap)
open Go.BigFrame
section
variable {E : Nat → Prop} {W W' : World} {P D FB M cnt k n : Nat} {kp : Int} {q : Pl} {d d' : Dk} {c : Nat → List UInt8}
theorem read_len {p : Int} (f : Fit d cnt) (hh : hasD d cnt p = true) (he : rreadE d cnt p = 0) : (rreadS d cnt p).length = 504 := by
  obtain ⟨m, rfl, hm⟩ := has_nat (by rw [hh]; decide)
  have h3 := has_lt hm
  unfold rreadE at he
  unfold rreadS
  rw [hh] at he ⊢
  rw [if_neg (by decide)] at he ⊢
  by_cases hz : d.rl = 0
  · rw [if_pos hz] at he; exact absurd he (by decide)
  · rw [if_neg hz] at he ⊢
    rw [Int.toNat_natCast] at he ⊢
    have hok : okB d.x m = true := by
      cases hb : okB d.x m with
      | true => rfl
      | false => unfold readE at he; rw [hb] at he; exact absurd he (by decide)
    rw [lookL_yes hok]
    unfold loadL
    rw [List.length_take, List.length_drop, f.len]
    omega
theorem has_read (d : Dk) (cnt : Nat) (p a : Int) : hasD (rreadD d cnt p) cnt a = hasD d cnt a := by
  unfold rreadD
  split
  · rfl
  · split <;> rfl
theorem at_none (h : PD E W P D FB M q d cnt) (page : Int) (hpg : (Lit.int .i64 page).wf = true) :
    (∃ (i : Nat) (f : Fr), q.frames[i]? = some (some f) ∧ f.page = page ∧ (Instr.lookup 93 (.map (some M)) (.int .i64 page) true).run Tryd.prog W = .ok (.tuple #[.int .i64 (i : Int), .bool true]) W) ∨
    ((∀ (i : Nat) (f : Fr), q.frames[i]? = some (some f) → f.page ≠ page) ∧ (Instr.lookup 93 (.map (some M)) (.int .i64 page) true).run Tryd.prog W = .ok (.tuple #[.int .i64 0, .bool false]) W) := by
  obtain ⟨g, hg, hm⟩ := h.pool.map
  have hlk := hm.get (t := 93) Tryd.underlying3 Tryd.underlying3 Tryd.underlying93 (fun w => by kernel_rfl) page hpg
  cases hgp : g page with
  | none =>
    rw [hgp] at hlk
    exact .inr ⟨fun i f hi => hg.no hgp hi, hlk⟩
  | some v =>
    rw [hgp] at hlk
    obtain ⟨j, rfl, fr, hj, hf⟩ := (hg page v).1 hgp
    exact .inl ⟨j, fr, hj, hf, hlk⟩
theorem rwrite_yes (h : Clean d cnt) {p : Nat} (hh : hasD d cnt (p : Int) = true) (s : List UInt8) (hs : s.length = 504) : rwriteE d cnt (p : Int) s = 0 ∧ rwriteD d cnt (p : Int) s = writeD d p s := by
  have hwl : d.wl ≠ 0 := by rw [h.wl]; decide
  unfold rwriteE rwriteD
  have ha : ¬ hasD d cnt (p : Int) = false := by rw [hh]; decide
  have hb : ¬ s.length ≠ 504 := by omega
  rw [if_neg ha, if_neg ha, if_neg hb, if_neg hb, if_neg hwl, Int.toNat_natCast]
  exact ⟨by unfold failE; rw [if_neg hwl], rfl⟩
/-- an empty frame -/
def RoomC (E : Nat → Prop) (W w' : World) (P D FB M n : Nat) (kp : Int) (q : Pl) (d : Dk) (cnt k : Nat) (c : Nat → List UInt8) (e : Ending) : Prop :=
  ∃ (i : Nat) (q' : Pl) (d' : Dk), e = .returned (.tuple #[.int .i64 i, .int .i64 0]) ∧ q'.frames[i]? = some none ∧ PS E w' P D FB M n kp q' d' cnt (k + 1) c ∧ Kept E W w' ∧ q'.op = q.op ∧ d'.free = d.free ∧ d'.most = d.most ∧ Fewer q' q ∧ ∀ p, hasD d' cnt p = hasD d cnt p
theorem croom_any (h : PS E W P D FB M n kp q d cnt k c) (hk : k < 900000000) (hkp : 0 ≤ kp ∧ kp < n) :
    Calls Tryd.prog 85 #[.pointer (some ⟨P, 0, none⟩)] W fun e w' => RoomC E W w' P D FB M n kp q d cnt k c e := by
  refine (proom_any h.pd h.ok h.dok hk).mono ?_
  rintro e w' ⟨i, e0, q', d', rfl, p1, k1, o1, ok1, hpin, hlen, hfw, hhs, hz, hx1, hx2, hx3⟩
  have hpl := h.ok.pins
  have hpn := h.pins
  have hl := h.len
  obtain ⟨b, hb, hst⟩ := pins_idle q.frames (fun i f hi => (h.ok.pos i f hi).1) (by omega)
  have hne := sweep_finds q.frames q.hand b h.ok.hand hb hst
  have hcs := h.calm.swept h.ok.hand (2 * q.frames.length) q.hand q.pins q.op
  obtain ⟨so1, so2, so3⟩ := sweep_ok (2 * q.frames.length) q h.ok
  have hmk := sweep_marks (2 * q.frames.length) q.frames q.hand h.ok.hand
  generalize sweep (2 * q.frames.length) q.frames q.hand = r at hx1 hx2 hx3 hne hcs so1 so2 so3 hmk
  cases hr : r.1 with
  | none => exact absurd hr hne
  | some j =>
    obtain ⟨o, ho, _⟩ := so3 j hr
    have hheld : ∀ (j : Nat) (g : Fr), q'.frames[j]? = some (some g) → hasD d' cnt g.page = true := fun j g hj => by
      obtain ⟨g0, h0, he⟩ := hfw j g hj
      rw [hhs, ← he]; exact h.held j g0 h0
    by_cases hcl : ∀ f : Fr, r.2.1[j]? = some (some f) → f.dirty = false
    · obtain ⟨rfl, rfl, rfl, rfl⟩ := hx2 j hr hcl
      refine ⟨i, _, d', rfl, hz rfl, ⟨p1, o1, ok1, hheld, hpin.trans hpn, hlen.trans hl, ?_, (h.up (Nat.le_succ k)).lim⟩, k1, rfl, rfl, rfl, hfw, hhs⟩
      cases o with
      | none =>
        have e : r.2.1.set i none = r.2.1 := set_same ho
        rw [e]
        exact hcs.same _ _ _
      | some f => exact hcs.forget ho (hcl f ho) _ _ _
    · obtain ⟨f, hf, hfd⟩ : ∃ f : Fr, r.2.1[j]? = some (some f) ∧ f.dirty = true := by
        cases o with
        | none => exact absurd (fun f hf => by rw [ho] at hf; cases hf) hcl
        | some f =>
          refine ⟨f, ho, ?_⟩
          cases hfd : f.dirty
          · exact absurd (fun g hg => by rw [ho] at hg; rw [← Option.some.inj (Option.some.inj hg)]; exact hfd) hcl
          · rfl
      obtain ⟨f0, hf0, hfe⟩ := hmk j f hf
      have hpg : f.page = f0.page := by rcases hfe with rfl | rfl <;> rfl
      have hda : f.data = f0.data := by rcases hfe with rfl | rfl <;> rfl
      have hhf : hasD d cnt f.page = true := by rw [hpg]; exact h.held j f0 hf0
      obtain ⟨p, hp, hp1, hp2, hp3⟩ := h.calm.nat hhf
      have hdl : f.data.length = 504 := by rw [hda]; exact (h.pd.pool.each j f0 hf0).len
      rw [hp] at hhf
      obtain ⟨w1, w2⟩ := rwrite_yes h.calm.clean hhf f.data hdl
      rw [← hp] at w1 w2
      obtain ⟨rfl, rfl, rfl, rfl⟩ := hx3 j f hr hf hfd w1
      have hpu := h.dok.puts
      refine ⟨i, _, _, rfl, hz rfl, ⟨p1, o1, ok1, hheld, hpin.trans hpn, hlen.trans hl, ?_, (h.up (Nat.le_succ k)).lim⟩, k1, rfl, ?_, ?_, hfw, hhs⟩
      · rw [w2]; exact hcs.write (by omega) hf hp hp2 hp3 hdl _ _ _
      · rw [w2]; rfl
      · rw [w2]; rfl
set_option maxHeartbeats 1000000 in
set_option maxRecDepth 100000 in
theorem pin_none (h : PS E W P D FB M n kp q d cnt k c) (page : Int) (hh : hasD d cnt page = false) :
    Calls Tryd.prog 56 #[.pointer (some ⟨P, 0, none⟩), .int .i64 page] W fun e w' => e = .returned (.tuple #[.pointer none, .int .i64 4]) ∧ PS E w' P D FB M n kp q d cnt k c ∧ Kept E W w' := by
  have c0 : W.cell? ⟨P, 0, none⟩ = some (.pointer (some ⟨D, 0, none⟩)) := h.pd.pool.box.cell 0 _ rfl
  have hhas := dd_has h.pd.dd page
  rw [hh] at hhas
  go_enter Tryd.func56, Tryd.ntmps56
  go_wp2_with fail
  refine hhas.mono ?_
  rintro e w1 ⟨rfl, x, rfl⟩
  go_wp2
  go_ret2
  exact ⟨rfl, (h.looks x).1, (h.looks x).2⟩
set_option maxHeartbeats 1000000 in
set_option maxRecDepth 100000 in
theorem pin_gone (h : PS E W P D FB M n kp q d cnt k c) (page : Int) (hh : hasD d cnt page = true) (hg : page ∈ goneL q.op) :
    Calls Tryd.prog 56 #[.pointer (some ⟨P, 0, none⟩), .int .i64 page] W fun e w' => e = .returned (.tuple #[.pointer none, .int .i64 4]) ∧ PS E w' P D FB M n kp q d cnt k c ∧ Kept E W w' := by
  have c0 : W.cell? ⟨P, 0, none⟩ = some (.pointer (some ⟨D, 0, none⟩)) := h.pd.pool.box.cell 0 _ rfl
  have hhas := dd_has h.pd.dd page
  rw [hh] at hhas
  go_enter Tryd.func56, Tryd.ntmps56
  go_wp2_with fail
  refine hhas.mono ?_
  rintro e w1 ⟨rfl, x, rfl⟩
  obtain ⟨h1, k1⟩ := h.looks x
  generalize W.drewN x = w1 at h1 k1 ⊢
  obtain ⟨ao, nn, cc, hv, hcn⟩ := gone_any h1.pd.pool page
  have c8 : w1.cell? ⟨P, 8, none⟩ = some (vGone q.op) := h1.pd.pool.box.cell 8 _ rfl
  rw [hv] at c8
  rw [decide_eq_true hg] at hcn
  clear hv hhas c0
  go_wp2_with fail
  refine hcn.mono ?_
  rintro e w2 ⟨rfl, rfl⟩
  go_wp2
  go_ret2
  exact ⟨rfl, h1, k1⟩
/-- behind Pin: a page at hand -/
def PinC (E : Nat → Prop) (W w' : World) (P D FB M n : Nat) (kp : Int) (q : Pl) (d : Dk) (cnt k : Nat) (c : Nat → List UInt8) (page : Int) (e : Ending) : Prop :=
  ∃ (i : Nat) (f : Fr) (q' : Pl) (d' : Dk), e = .returned (.tuple #[.pointer (some ⟨f.blk, 0, none⟩), .int .i64 0]) ∧ q'.frames[i]? = some (some f) ∧ f.page = page ∧ 0 < f.pins ∧ PS E w' P D FB M n (kp + 1) q' d' cnt (k + 2) c ∧ Kept E W w' ∧ q'.op = q.op ∧ d'.free = d.free ∧ d'.most = d.most
set_option maxHeartbeats 1000000 in
set_option maxRecDepth 100000 in
theorem pin_there (h : PS E W P D FB M n kp q d cnt k c) (hkp : 0 ≤ kp ∧ kp < 1000000) (page : Int) (hpg : (Lit.int .i64 page).wf = true) (hh : hasD d cnt page = true) (hg : page ∉ goneL q.op) {i : Nat} {f : Fr} (hi : q.frames[i]? = some (some f)) (hf : f.page = page) (hfp : f.pins < 1000000) :
    Calls Tryd.prog 56 #[.pointer (some ⟨P, 0, none⟩), .int .i64 page] W fun e w' => PinC E W w' P D FB M n kp q d cnt k c page e := by
  have c0 : W.cell? ⟨P, 0, none⟩ = some (.pointer (some ⟨D, 0, none⟩)) := h.pd.pool.box.cell 0 _ rfl
  have hhas := dd_has h.pd.dd page
  rw [hh] at hhas
  have hl := (List.getElem?_eq_some_iff.1 hi).1
  have hfew := h.ok.few
  go_enter Tryd.func56, Tryd.ntmps56
  go_wp2_with fail
  refine hhas.mono ?_
  rintro e w1 ⟨rfl, x, rfl⟩
  obtain ⟨h1, k1⟩ := h.looks x
  generalize W.drewN x = w1 at h1 k1 ⊢
  clear h hhas c0
  have hb := h1.pd.pool.box
  have c1 : w1.cell? ⟨P, 1, none⟩ = some (.slice (some ⟨FB, 0, none⟩) q.frames.length q.frames.length) := hb.cell 1 _ rfl
  have c2 : w1.cell? ⟨P, 2, none⟩ = some (.map (some M)) := hb.cell 2 _ rfl
  obtain ⟨ao, nn, cc, hv, hcn⟩ := gone_any h1.pd.pool page
  have c8 : w1.cell? ⟨P, 8, none⟩ = some (vGone q.op) := hb.cell 8 _ rfl
  rw [hv] at c8
  rw [decide_eq_false hg] at hcn
  clear hv
  have c4 : w1.cell? ⟨P, 4, none⟩ = some (.int .i64 q.pins) := hb.cell 4 _ rfl
  have f4 := hb.free 4
  have cF : w1.cell? ⟨FB, i, none⟩ = some (.pointer (some ⟨f.blk, 0, none⟩)) := h1.pd.frame hi
  have hfr := h1.pd.pool.each i f hi
  have d3 : w1.cell? ⟨f.blk, 3, none⟩ = some (.int .i64 f.pins) := hfr.box.cell 3 _ rfl
  have d4 : w1.cell? ⟨f.blk, 4, none⟩ = some (.bool f.used) := hfr.box.cell 4 _ rfl
  have e3 := hfr.box.free 3
  have e4 := hfr.box.free 4
  have hpos := h1.ok.pos i f hi
  have hlk : (Instr.lookup 93 (.map (some M)) (.int .i64 page) true).run Tryd.prog w1 = .ok (.tuple #[.int .i64 (i : Int), .bool true]) w1 := by
    rcases at_none h1.pd page hpg with ⟨j, g, hj, hg, hr⟩ | ⟨hno, _⟩
    · obtain ⟨mf, ha, _⟩ := h1.pd.pool.map
      rw [ha.inj hi hj (hf.trans hg.symm)]
      exact hr
    · exact absurd hf (hno i f hi)
  have hne : f.blk ≠ P := (h1.pd.pool.off i (some f) f.blk hi (.inl rfl)).1
  have p2 := h1.pd.flag (g := { f with pins := f.pins + 1, used := true }) hi ⟨rfl, rfl, rfl, rfl, rfl⟩ (((Only.refl f.blk w1).set 3 (.int .i64 (f.pins + 1))).set 4 (.bool true)) ((hfr.box.set 3 (.int .i64 (f.pins + 1))).set 4 (.bool true))
  have hb2 := p2.1.pool.box
  have p3 := p2.1.own ((Only.refl P _).set 4 (.int .i64 (q.pins + 1))) (hand := q.hand) (pins := q.pins + 1) (hb2.set 4 (.int .i64 (q.pins + 1)))
  have s3 := h1.flag (g := { f with pins := f.pins + 1, used := true }) hi ⟨rfl, rfl, rfl, rfl, rfl⟩ (fun hh => hh) (by show 0 ≤ f.pins + 1 ∧ f.pins + 1 ≤ 1000000; omega) (by
    rw [show q.pins - f.pins + ({ f with pins := f.pins + 1, used := true } : Fr).pins = q.pins + 1 by show q.pins - f.pins + (f.pins + 1) = _; omega]
    exact p3.1)
  rw [show kp - f.pins + ({ f with pins := f.pins + 1, used := true } : Fr).pins = kp + 1 by show kp - f.pins + (f.pins + 1) = _; omega, show q.pins - f.pins + ({ f with pins := f.pins + 1, used := true } : Fr).pins = q.pins + 1 by show q.pins - f.pins + (f.pins + 1) = _; omega] at s3
  have HF := Lib.hid (And.intro s3 ((k1.trans p2.2).trans p3.2))
  have hqp : 0 ≤ q.pins ∧ q.pins < 1000000 := by rw [h1.pins]; exact hkp
  obtain ⟨hqp1, hqp2⟩ := hqp
  have HP := Lib.hid hf
  clear p2 p3 s3 hb2 hfr hb h1 k1 hf
  go_wp2_with fail
  refine hcn.mono ?_
  rintro e w2 ⟨rfl, rfl⟩
  go_wp2
  go_ret2
  exact ⟨i, { f with pins := f.pins + 1, used := true }, _, d, rfl, by show (q.frames.set i _)[i]? = _; rw [get_set _ _ _ _ hl, if_pos rfl], HP.out, by show 0 < f.pins + 1; omega, HF.out.1.up (by omega), HF.out.2, rfl, rfl, rfl⟩
theorem rread_yes (h : Clean d cnt) {p : Nat} (hp1 : 1 ≤ p) (hp : p < cnt) (hh : hasD d cnt (p : Int) = true) : rreadE d cnt (p : Int) = 0 ∧ rreadS d cnt (p : Int) = lookL d.x p ∧ rreadD d cnt (p : Int) = readD d := by
  have hrl : d.rl ≠ 0 := by rw [h.rl]; decide
  unfold rreadE rreadS rreadD
  have ha : ¬ hasD d cnt (p : Int) = false := by rw [hh]; decide
  rw [if_neg ha, if_neg ha, if_neg ha, if_neg hrl, if_neg hrl, if_neg hrl, Int.toNat_natCast]
  exact ⟨by unfold readE; rw [h.ok p hp1 hp]; rfl, rfl, rfl⟩
set_option maxHeartbeats 1000000 in
set_option maxRecDepth 100000 in
theorem pin_comes (h : PS E W P D FB M n kp q d cnt k c) (hk : k + 2 < 900000000) (hkp : 0 ≤ kp ∧ kp < n) (page : Int) (hpg : (Lit.int .i64 page).wf = true) (hh : hasD d cnt page = true) (hg : page ∉ goneL q.op) (hno : ∀ (i : Nat) (f : Fr), q.frames[i]? = some (some f) → f.page ≠ page) :
    Calls Tryd.prog 56 #[.pointer (some ⟨P, 0, none⟩), .int .i64 page] W fun e w' => PinC E W w' P D FB M n kp q d cnt k c page e := by
  have c0 : W.cell? ⟨P, 0, none⟩ = some (.pointer (some ⟨D, 0, none⟩)) := h.pd.pool.box.cell 0 _ rfl
  have hhas := dd_has h.pd.dd page
  rw [hh] at hhas
  have HNO := Lib.hid hno
  have HH := Lib.hid hh
  have hfew := h.ok.few
  have hln := h.len
  clear hno hh
  go_enter Tryd.func56, Tryd.ntmps56
  go_wp2_with fail
  refine hhas.mono ?_
  rintro e w1 ⟨rfl, x, rfl⟩
  obtain ⟨h1, k1⟩ := h.looks x
  generalize W.drewN x = w1 at h1 k1 ⊢
  clear h hhas c0
  have hb := h1.pd.pool.box
  have c2 : w1.cell? ⟨P, 2, none⟩ = some (.map (some M)) := hb.cell 2 _ rfl
  obtain ⟨ao, nn, cc, hv, hcn⟩ := gone_any h1.pd.pool page
  have c8 : w1.cell? ⟨P, 8, none⟩ = some (vGone q.op) := hb.cell 8 _ rfl
  rw [hv] at c8
  rw [decide_eq_false hg] at hcn
  have hlk : (Instr.lookup 93 (.map (some M)) (.int .i64 page) true).run Tryd.prog w1 = .ok (.tuple #[.int .i64 0, .bool false]) w1 := by
    rcases at_none h1.pd page hpg with ⟨j, g, hj, hg, _⟩ | ⟨_, hr⟩
    · exact absurd hg (HNO.out j g hj)
    · exact hr
  have HR := Lib.hid (croom_any h1 (by omega) hkp)
  clear hb hv
  go_wp2_with fail
  refine hcn.mono ?_
  rintro e w2 ⟨rfl, rfl⟩
  go_wp2_with fail
  refine HR.out.mono ?_
  rintro e w3 ⟨i, q', d', rfl, hi3, s3, k3, hop, hfr, hmo, hfw, hhs⟩
  have hno3 : ∀ (j : Nat) (g : Fr), q'.frames[j]? = some (some g) → g.page ≠ page := fun j g hj => by
    obtain ⟨g0, h0, he⟩ := hfw j g hj
    rw [← he]; exact HNO.out j g0 h0
  have hh3 : hasD d' cnt page = true := by rw [hhs]; exact HH.out
  obtain ⟨p, rfl, hp1, hp2, hp3⟩ : ∃ p : Nat, page = p ∧ 1 ≤ p ∧ p < cnt ∧ p ∉ d'.free := by
    rw [s3.calm.clean.so.hasI, decide_eq_true_eq] at hh3
    exact ⟨page.toNat, by omega, by omega, by omega, hh3.2.2⟩
  obtain ⟨re, rs, rd⟩ := rread_yes s3.calm.clean hp1 hp2 hh3
  have HRd := Lib.hid (dd_read_u s3.pd.dd s3.dok (by omega) (p : Int))
  rw [re, rs, rd] at HRd
  have hc : lookL d'.x p = c p := s3.calm.off p hp1 hp2 hp3 (fun j g hj hg => absurd hg (hno3 j g hj))
  have hcl : (c p).length = 504 := by
    have := read_len s3.pd.dd.fit hh3 re
    rw [rs, hc] at this; exact this
  rw [hc] at HRd
  have hre := s3.dok.reads
  have hokr : Ok (readD d') cnt (k + 2) := by have := s3.dok.read (by omega) (p : Int); rw [rd] at this; exact this
  have HR3 := Lib.hid (And.intro hop (And.intro hfr hmo))
  have HC3 := Lib.hid (s3.calm.read (by omega))
  have HNO3 := Lib.hid hno3
  have HI := Lib.hid hi3
  have c0 : w3.cell? ⟨P, 0, none⟩ = some (.pointer (some ⟨D, 0, none⟩)) := s3.pd.pool.box.cell 0 _ rfl
  have HHR := Lib.hid (fun a => has_read d' cnt (p : Int) a)
  rw [rd] at HHR
  have HS3 := Lib.hid (And.intro s3 (k1.trans k3))
  clear HR hcn c2 c8 hlk k1 k3 hfw hhs s3 hno3 hh3 hop hfr hmo hi3 re rs rd hc hre
  go_wp2_with fail
  refine HRd.out.mono ?_
  rintro e w4 ⟨rfl, d4, k4⟩
  have p4 := HS3.out.1.pd.disk d4 k4
  have s4 : PS E w4 P D FB M n kp q' (readD d') cnt (k + 2) c := ⟨p4, HS3.out.1.ok, hokr, fun j g hj => by rw [HHR.out]; exact HS3.out.1.held j g hj, HS3.out.1.pins, HS3.out.1.len, HC3.out, (HS3.out.1.up (Nat.le_succ _)).lim⟩
  have HS4 := Lib.hid (And.intro s4 (HS3.out.2.trans (k4.mono (fun j hj => .inl hj))))
  have HL := Lib.hid (play_any p4 HS4.out.1.ok (by rw [HS4.out.1.pins]; omega) HI.out (p : Int) hpg HNO3.out (c p) hcl)
  clear HRd c0 d4 k4 p4 s4 hokr
  generalize hcc : c p = cp at HL hcl
  have HCC := Lib.hid hcc
  clear hcc
  go_wp2_with fail
  refine HL.out.mono ?_
  rintro e w5 ⟨f, rfl, hfpg, hfda, hfp1, _, _, p5, k5⟩
  have hil := (List.getElem?_eq_some_iff.1 HI.out).1
  have hpo := HS4.out.1.ok.set HI.out (u := some f) (fun y hy => by rw [← Option.some.inj hy, hfp1]; omega)
  rw [show q'.pins - pinO none + pinO (some f) = q'.pins + 1 by show q'.pins - 0 + f.pins = _; omega] at hpo
  have s5 : PS E w5 P D FB M n (kp + 1) { frames := q'.frames.set i (some f), hand := q'.hand, pins := q'.pins + 1, op := q'.op } (readD d') cnt (k + 2) c := ⟨p5, hpo, HS4.out.1.dok, fun j g hj => by
    replace hj : (q'.frames.set i (some f))[j]? = some (some g) := hj
    rw [get_set _ _ _ _ hil] at hj
    by_cases e : i = j
    · rw [if_pos e] at hj
      rw [← Option.some.inj (Option.some.inj hj), hfpg, HHR.out, HS3.out.1.calm.clean.so.hasI, decide_eq_true_eq]
      exact ⟨by omega, by omega, by rw [Int.toNat_natCast]; exact hp3⟩
    · rw [if_neg e] at hj; exact HS4.out.1.held j g hj, by show q'.pins + 1 = _; rw [HS4.out.1.pins], by show (q'.frames.set i _).length = n; rw [List.length_set]; exact HS4.out.1.len, HS4.out.1.calm.lay HI.out (by rw [hfda, hfpg, Int.toNat_natCast]; exact HCC.out.symm) _ _ _, HS4.out.1.lim⟩
  have HS5 := Lib.hid (And.intro s5 (HS4.out.2.trans k5))
  have HFP := Lib.hid (And.intro hfp1 hfpg)
  clear s5 k5 p5 hpo HL hfpg hfp1 hfda
  go_wp2
  go_ret2
  exact ⟨i, f, _, readD d', rfl, by show (q'.frames.set i _)[i]? = _; rw [get_set _ _ _ _ hil, if_pos rfl], HFP.out.2, by rw [HFP.out.1]; decide, HS5.out.1, HS5.out.2, HR3.out.1, HR3.out.2.1, HR3.out.2.2⟩
end
end Go.Proofs.YtjfkdfffolkblaaDoor
