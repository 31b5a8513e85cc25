/-
  The law's awake: a pool of two pages over a new disk (exact words for Take on a shut pool without changed frames).
-/
import Derived.Test.YtjfkdfffolkblaaDoorPoolJ
import Derived.Test.YtjfkdfffolkblaaDoorDiskX
namespace Go.Proofs.YtjfkdfffolkblaaDoor
open Go.RowKit
open UK (str BytesAt nth Only Row Box IntMap)
open Go.BigFrame
section
variable {E : Nat → Prop} {W W' : World} {P D FB M cnt k n : Nat} {kp puts : Int} {q : Pl} {d d' : Dk} {c : Nat → List UInt8}
set_option maxRecDepth 100000 in
theorem pnew_bare (hd : DD E W D d cnt) (ok : Ok d cnt k) (cl : Clean d cnt) (n : Nat) (hn : 1 ≤ n ∧ n ≤ 1000) (hand : Int) :
    Calls Tryd.prog 15 #[.pointer (some ⟨D, 0, none⟩), .int .i64 n, .int .i64 hand] W fun e w' => ∃ P FB M q, e = .returned (.pointer (some ⟨P, 0, none⟩)) ∧ PS E w' P D FB M n 0 q d cnt k (fun p => lookL d.x p) ∧ Kept E W w' ∧ q = { newQ n with hand := handN hand (newQ n).frames.length } := by
  have hmk := run_make_row (P := Tryd.prog) 92 71 Tryd.t71 (.pointer none) Tryd.underlying92 rfl rfl rfl rfl .i64 .i64 n (show 8 * n ≤ 281474976710656 by omega) (by omega)
  have hm := pool_made hd ok cl n hn 71 96
  have hB : Below W.heap.size W (((W.alloc (.cells (madeCells #[.pointer none] n) 71)).alloc (.map #[] 0)).alloc (.cells (pcells D W.heap.size n (W.heap.size + 1) 0 0 none) 96)) := (((Below.refl _ _).alloc (Nat.le_refl _) _).alloc (by simp) _).alloc (by simp; omega) _
  have HM := Lib.hid hm
  have HK := Lib.hid (Kept.of_below (S := E) hB (fun j hj => hd.there j hj))
  have HH := Lib.hid (hand_any hm.pd hm.ok hand)
  obtain ⟨hn1, hn2⟩ := hn
  clear hm hB
  simp only [pcells, vOpen, vWas, vMade, vGone, Option.isSome_none] at HM HK HH
  go_enter Tryd.func15, Tryd.ntmps15
  have hmm : ∀ w : World, (Instr.makeMap 93 none).run Tryd.prog w = .ok (.map (some w.heap.size)) (w.alloc (.map #[] 0)) := run_makeMap _
  go_wp2_with fail
  refine HH.out.mono ?_
  rintro e w2 ⟨rfl, p2, k2⟩
  have HS := Lib.hid (show PS E w2 (W.heap.size + 2) D W.heap.size (W.heap.size + 1) n 0 { newQ n with hand := handN hand (newQ n).frames.length } d cnt k (fun p => lookL d.x p) from ⟨p2, ⟨HM.out.ok.pins, HM.out.ok.pos, (handN_is hand (newQ n).frames.length (by have := HM.out.ok.hand; omega)).2.1, HM.out.ok.few⟩, HM.out.dok, HM.out.held, HM.out.pins, HM.out.len, HM.out.calm.same _ _ _, fun o ho => by cases ho⟩)
  have K2 := Lib.hid (HK.out.trans k2)
  clear HH HM HK p2 k2 hmk hmm
  go_wp2
  go_ret
  exact ⟨W.heap.size + 2, W.heap.size, W.heap.size + 1, _, rfl, HS.out, K2.out, rfl⟩
/-- room, told outright -/
theorem room_yes (h : PS E W P D FB M n kp q d cnt k c) (hk : k < 900000000) {i hand : Nat} {l : List (Option Fr)} (hr : sweep (2 * n) q.frames q.hand = (some i, l, hand)) (hcl : ∀ f, l[i]? = some (some f) → f.dirty = false) :
    Calls Tryd.prog 85 #[.pointer (some ⟨P, 0, none⟩)] W fun e w' => e = .returned (.tuple #[.int .i64 i, .int .i64 0]) ∧ PS E w' P D FB M n kp { frames := l.set i none, hand := hand, pins := q.pins, op := q.op } d cnt (k + 1) c ∧ Kept E W w' ∧ (l.set i none)[i]? = some none := by
  refine (proom_any h.pd h.ok h.dok hk).mono ?_
  rintro e w' ⟨i', e0, q', d', rfl, p1, k1, o1, ok1, hpin, hlen, hfw, hhs, hz, hx1, hx2, hx3⟩
  have hcs := h.calm.swept h.ok.hand (2 * q.frames.length) q.hand q.pins q.op
  obtain ⟨so1, so2, so3⟩ := sweep_ok (2 * q.frames.length) q h.ok
  rw [h.len, hr] at hx2 hcs so3
  obtain ⟨rfl, rfl, rfl, rfl⟩ := hx2 i rfl hcl
  have hheld : ∀ (j : Nat) (g : Fr), (l.set i' none)[j]? = some (some g) → hasD d' cnt g.page = true := fun j g hj => by
    obtain ⟨g0, h0, he⟩ := hfw j g hj
    rw [hhs, ← he]; exact h.held j g0 h0
  obtain ⟨o, ho, _⟩ := so3 i' rfl
  refine ⟨rfl, ⟨p1, o1, ok1, hheld, hpin.trans h.pins, hlen.trans h.len, ?_, (h.up (Nat.le_succ k)).lim⟩, k1, hz rfl⟩
  replace ho : l[i']? = some o := ho
  cases o with
  | none =>
    have e : l.set i' none = l := set_same ho
    rw [e]
    exact hcs.same _ _ _
  | some f => exact hcs.forget ho (hcl f ho) _ _ _
theorem room_no (h : PS E W P D FB M n kp q d cnt k c) (hk : k < 900000000) {hand : Nat} {l : List (Option Fr)} (hr : sweep (2 * n) q.frames q.hand = (none, l, hand)) :
    Calls Tryd.prog 85 #[.pointer (some ⟨P, 0, none⟩)] W fun e w' => ∃ i : Nat, e = .returned (.tuple #[.int .i64 i, .int .i64 9]) ∧ PS E w' P D FB M n kp { frames := l, hand := hand, pins := q.pins, op := q.op } d cnt (k + 1) c ∧ Kept E W w' := by
  refine (proom_any h.pd h.ok h.dok hk).mono ?_
  rintro e w' ⟨i', e0, q', d', rfl, p1, k1, o1, ok1, hpin, hlen, hfw, hhs, hz, hx1, hx2, hx3⟩
  have hcs := h.calm.swept h.ok.hand (2 * q.frames.length) q.hand q.pins q.op
  rw [h.len, hr] at hx1 hcs
  obtain ⟨rfl, rfl, rfl⟩ := hx1 rfl
  have hheld : ∀ (j : Nat) (g : Fr), l[j]? = some (some g) → hasD d' cnt g.page = true := fun j g hj => by
    obtain ⟨g0, h0, he⟩ := hfw j g hj
    rw [hhs, ← he]; exact h.held j g0 h0
  exact ⟨i', rfl, ⟨p1, o1, ok1, hheld, hpin.trans h.pins, hlen.trans h.len, hcs.same _ _ _, (h.up (Nat.le_succ k)).lim⟩, k1⟩
theorem pclean_new (n : Int) : Clean (newD n) 1 := by
  refine ⟨(Ok.new n).fit, (Ok.new n).so, newD_rl n, (newD_still n).wl, fun p h1 h2 => by omega, fun i hi => ?_⟩
  rw [(newD_still n).free] at hi
  exact absurd hi (Nat.not_lt_zero _)
theorem take_still (s : Still d 9 [] puts) (hc : cnt < 9) : tE d cnt = 0 ∧ tP d cnt = cnt ∧ Still (tD d cnt) 9 [] (puts + 1) ∧ tC d cnt = cnt + 1 := by
  have hn : ¬ (d.most ≤ (cnt : Int) ∧ d.free = []) := fun h => by have := h.1; rw [s.most] at this; omega
  have hw : d.wl ≠ 0 := by rw [s.wl]; decide
  refine ⟨?_, ?_, ?_, ?_⟩
  · unfold tE; rw [if_neg hn, if_neg hw]
  · unfold tP; rw [if_neg hn, if_neg hw, if_pos s.free]
  · unfold tD; rw [if_neg hn, if_neg hw, if_pos s.free]; exact s.takeN cnt
  · unfold tC; rw [if_neg hn, if_neg hw, if_pos s.free]
/-- a frame that Take has given -/
structure Fresh (f : Fr) (p : Int) : Prop where
  page : f.page = p
  pins : f.pins = 1
  dirty : f.dirty = false
  used : f.used = true
/-- a Take that comes to a page -/
def Came (E : Nat → Prop) (W w' : World) (P D FB M : Nat) (kp : Int) (l : List (Option Fr)) (i hand : Nat) (cnt k : Nat) (puts : Int) (e : Ending) : Prop :=
  ∃ (f : Fr) (d' : Dk) (c' : Nat → List UInt8), e = .returned (.tuple #[.pointer (some ⟨f.blk, 0, none⟩), .int .i64 0]) ∧ Fresh f (cnt : Nat) ∧ PS E w' P D FB M 2 (kp + 1) { frames := l.set i (some f), hand := hand, pins := kp + 1, op := none } d' (cnt + 1) (k + 2) c' ∧ Still d' 9 [] (puts + 1) ∧ Kept E W w'
theorem lay_fresh (h : PS E W P D FB M n kp q d cnt k c) (hkp : 0 ≤ kp ∧ kp < 1000000) {i : Nat} (hi : q.frames[i]? = some none) (p : Nat) (hp : hasD d cnt (p : Int) = true) (hno : ∀ (j : Nat) (g : Fr), q.frames[j]? = some (some g) → g.page ≠ (p : Int)) (hcp : c p = UK.zeros 504) (hpw : p < 60000) :
    Calls Tryd.prog 87 #[.pointer (some ⟨P, 0, none⟩), .int .i64 i, .int .i64 p, .string (str (UK.zeros 504))] W fun e w' => ∃ f : Fr, e = .returned (.pointer (some ⟨f.blk, 0, none⟩)) ∧ Fresh f p ∧ PS E w' P D FB M n (kp + 1) { frames := q.frames.set i (some f), hand := q.hand, pins := q.pins + 1, op := q.op } d cnt k c ∧ Kept E W w' := by
  refine (play_any h.pd h.ok (by rw [h.pins]; omega) hi (p : Int) (WalkArith.wf_i64 (by omega)) hno (UK.zeros 504) (UK.zeros_length 504)).mono ?_
  rintro e w5 ⟨f, rfl, hfpg, hfda, hfp1, hfd, hfu, p5, k5⟩
  have hil := (List.getElem?_eq_some_iff.1 hi).1
  have hpo := h.ok.set hi (u := some f) (fun y hy => by rw [← Option.some.inj hy, hfp1]; omega)
  rw [show q.pins - pinO none + pinO (some f) = q.pins + 1 by show q.pins - 0 + f.pins = _; omega] at hpo
  refine ⟨f, rfl, ⟨hfpg, hfp1, hfd, hfu⟩, ⟨p5, hpo, h.dok, fun j g hj => ?_, by show q.pins + 1 = _; rw [h.pins], by show (q.frames.set i _).length = n; rw [List.length_set]; exact h.len, h.calm.lay hi (by rw [hfda, hfpg, Int.toNat_natCast, hcp]) _ _ _, h.lim⟩, k5⟩
  replace hj : (q.frames.set i (some f))[j]? = some (some g) := hj
  rw [get_set _ _ _ _ hil] at hj
  by_cases e : i = j
  · rw [if_pos e] at hj
    rw [← Option.some.inj (Option.some.inj hj), hfpg]; exact hp
  · rw [if_neg e] at hj; exact h.held j g hj
set_option maxHeartbeats 2000000 in
set_option maxRecDepth 100000 in
theorem take_came (h : PS E W P D FB M 2 kp q d cnt k c) (hop : q.op = none) (s : Still d 9 [] puts) (hc : cnt < 9) (hk : k + 2 < 900000000) (hkp : 0 ≤ kp ∧ kp < 1000000) {i hand : Nat} {l : List (Option Fr)} (hr : sweep 4 q.frames q.hand = (some i, l, hand)) (hcl : ∀ f, l[i]? = some (some f) → f.dirty = false) :
    Calls Tryd.prog 39 #[.pointer (some ⟨P, 0, none⟩)] W fun e w' => Came E W w' P D FB M kp l i hand cnt k puts e := by
  have HR := Lib.hid (room_yes h (by omega) hr hcl)
  have hmk := make504
  have hz2 : ((UK.zeros 504).drop 0).take 504 = UK.zeros 504 := by rw [List.drop_zero, List.take_of_length_le (by rw [UK.zeros_length]; omega)]
  have hcv := fun w : World => UK.run_window (P := Tryd.prog) (src := 77) (dst := 9) Tryd.underlying77 Tryd.underlying5 Tryd.underlying9 (bytes_new w (UK.zeros 504)) 0 504 504 (by rw [UK.zeros_length]; omega)
  rw [hz2] at hcv
  have HQP := Lib.hid h.pins
  have hff : ¬ fullD d cnt := fun hh => by have := hh.1; rw [s.most] at this; omega
  clear h hz2
  rw [hop] at HR
  generalize hq' : ({ frames := l.set i none, hand := hand, pins := q.pins, op := none } : Pl) = q' at HR
  have HQ' := Lib.hid hq'
  have hq'f : (l.set i none) = q'.frames := by rw [← hq']
  rw [hq'f] at HR
  have hq'o : q'.op = none := by rw [← hq']
  clear hq' hq'f
  go_enter Tryd.func39, Tryd.ntmps39
  go_wp2_with fail
  refine HR.out.mono ?_
  rintro e w3 ⟨rfl, s3, k3, hi3⟩
  have hpu := s3.dok.puts
  obtain ⟨t0, t1⟩ := take_calm s3.calm (by omega) hff s3.held
  obtain ⟨_, t2, t3, t4⟩ := take_still s hc
  have hth := take_has s3.dok (by omega)
  have hT := dd_take_u s3.pd.dd s3.dok (by omega)
  have hokt := s3.dok.take (by omega)
  have hth2 := hth.2 t0
  have htf := hokt.fit.few
  rw [t0] at hT
  have HI := Lib.hid hi3
  have HS := Lib.hid t3
  clear HR hi3 t0 t3
  rw [t2] at hT hth2 t1
  rw [t4] at hT hth hth2 hokt t1 htf
  generalize htd : tD d cnt = td at hT hth hth2 hokt t1 HS
  have HT := Lib.hid hT
  have hpw : cnt < 60000 := by omega
  have hno : ∀ (j : Nat) (g : Fr), q'.frames[j]? = some (some g) → g.page ≠ (cnt : Int) := fun j g hj hg => by
    have := s3.held j g hj
    rw [hg, hth2.1] at this; cases this
  have c0 : w3.cell? ⟨P, 0, none⟩ = some (.pointer (some ⟨D, 0, none⟩)) := s3.pd.pool.box.cell 0 _ rfl
  have HS3 := Lib.hid (And.intro s3 (And.intro k3 (And.intro hokt (And.intro t1 (And.intro hth hth2)))))
  have HNO := Lib.hid hno
  clear hT s3 k3 hokt t1 hth hth2 hff htd hno htf t2 t4
  go_wp2_with fail
  refine HT.out.mono ?_
  rintro e w4 ⟨rfl, d4, k4⟩
  obtain ⟨s3, k3, hokt, t1, hth, hth2⟩ := HS3.out
  have s4 : PS E w4 P D FB M 2 kp q' td (cnt + 1) (k + 2) (setC c cnt (UK.zeros 504)) := ⟨s3.pd.disk d4 k4, s3.ok, hokt, fun j g hj => hth.1 _ (s3.held j g hj), s3.pins, s3.len, t1, (s3.up (Nat.le_succ _)).lim⟩
  have K4 := Lib.hid (k3.trans (k4.mono (fun j hj => .inl hj)))
  have HH2 := Lib.hid hth2.2
  have c5 : w4.cell? ⟨P, 5, none⟩ = some (vOpen q'.op) := s4.pd.pool.box.cell 5 _ rfl
  have hc7 : setC c cnt (UK.zeros 504) cnt = UK.zeros 504 := by unfold setC; rw [if_pos rfl]
  have HC7 := Lib.hid hc7
  clear HS3 HT s3 k3 hokt t1 hth hth2 d4 k4 c0 hc7
  rw [hq'o] at c5
  simp only [vOpen, Option.isSome_none] at c5
  have hb4 : Below w4.heap.size w4 (w4.alloc (.cells (UK.bcells (UK.zeros 504)) 5)) := (Below.refl _ _).alloc (Nat.le_refl _) _
  have HL := Lib.hid (lay_fresh (s4.next hb4) ⟨hkp.1, by omega⟩ HI.out cnt HH2.out HNO.out HC7.out hpw)
  have K5 := Lib.hid (K4.out.trans (s4.keptB hb4))
  have hmk4 := hmk w4
  have hcv4 := hcv w4
  clear s4 hb4 hmk hcv
  have HQO := Lib.hid hq'o
  clear hq'o
  generalize setC c cnt (UK.zeros 504) = cc at HL HC7
  clear HC7
  generalize UK.zeros 504 = zz at hcv4 HL hmk4 K5
  go_wp2_with fail
  refine HL.out.mono ?_
  rintro e w5 ⟨f, rfl, hfr, s5, k5⟩
  have HF := Lib.hid (And.intro hfr (And.intro s5 (K5.out.trans k5)))
  clear HL K5 hcv4 hmk4 hfr s5 k5
  go_wp2
  go_ret2
  obtain ⟨hfr, s5, k5⟩ := HF.out
  have e1 := HQ'.out
  subst e1
  have e2 : (l.set i none).set i (some f) = l.set i (some f) := by rw [List.set_set]
  replace s5 : PS E _ P D FB M 2 (kp + 1) { frames := (l.set i none).set i (some f), hand := hand, pins := q.pins + 1, op := none } td (cnt + 1) (k + 2) _ := s5
  rw [e2, HQP.out] at s5
  exact ⟨f, td, _, rfl, hfr, s5, HS.out, k5⟩
set_option maxRecDepth 100000 in
theorem take_pins (h : PS E W P D FB M 2 kp q d cnt k c) (hop : q.op = none) (hk : k + 2 < 900000000) {hand : Nat} {l : List (Option Fr)} (hr : sweep 4 q.frames q.hand = (none, l, hand)) :
    Calls Tryd.prog 39 #[.pointer (some ⟨P, 0, none⟩)] W fun e w' => e = .returned (.tuple #[.pointer none, .int .i64 9]) ∧ PS E w' P D FB M 2 kp { frames := l, hand := hand, pins := kp, op := none } d cnt (k + 2) c ∧ Kept E W w' := by
  have HR := Lib.hid (room_no h (by omega) hr)
  have hp := h.pins
  rw [hop, hp] at HR
  clear h hop hp hr
  go_enter Tryd.func39, Tryd.ntmps39
  go_wp2_with fail
  refine HR.out.mono ?_
  rintro e w3 ⟨i, rfl, s3, k3⟩
  have HS := Lib.hid (And.intro (s3.up (Nat.le_succ _)) k3)
  clear HR s3 k3
  go_wp2
  go_ret2
  exact ⟨rfl, HS.out.1, HS.out.2⟩
theorem sweep1 : sweep 4 [none, none] 0 = (some 0, [none, none], 1) := rfl
theorem sweep2 (f : Fr) : sweep 4 [some f, none] 1 = (some 1, [some f, none], 0) := by simp [sweep]
theorem sweep3 (f g : Fr) (hf : f.pins = 1) (hg : g.pins = 1) : sweep 4 [some f, some g] 0 = (none, [some f, some g], 0) := by simp [sweep, hf, hg]
theorem sweep4 (f g : Fr) (hf : f.pins = 1) (hg : g.used = true) : sweep 4 [some f, some { g with pins := 0 }] 0 = (some 1, [some f, some { g with pins := 0, used := false }], 0) := by simp [sweep, hf, hg]
set_option maxHeartbeats 1000000 in
set_option maxRecDepth 100000 in
theorem awake_any (W : World) (ht : TabAt W) :
    Calls Tryd.prog 13 #[] W fun e w' => e = .returned (.bool true) ∧ Below W.heap.size W w' := by
  have HN := Lib.hid (dd_new W 9 ht (fun k => k < W.heap.size) (fun _ h => h))
  go_enter Tryd.func13, Tryd.ntmps13
  go_wp2_with fail
  refine HN.out.mono ?_
  rintro e w1 ⟨rfl, hd, hb1⟩
  have K1 : Hid (Kept (fun k => k < W.heap.size) W w1) := Lib.hid (Kept.of_below hb1 (fun _ h => h))
  clear hb1
  have HP := Lib.hid (pnew_bare hd (Ok.new 9) (pclean_new 9) 2 ⟨by omega, by omega⟩ 0)
  have S0 := Lib.hid (newD_still 9)
  rw [show clampD 9 = 9 from rfl] at S0
  clear HN hd
  go_wp2_with fail
  refine HP.out.mono ?_
  rintro e w2 ⟨P, FB, M, q0, rfl, p2, kk, rfl⟩
  replace p2 : PS (fun k => k < W.heap.size) w2 P W.heap.size FB M 2 0 { frames := [none, none], hand := 0, pins := 0, op := none } (newD 9) 1 0 (fun p => lookL (newD 9).x p) := p2
  replace K1 := Lib.hid (K1.out.trans kk)
  clear kk
  generalize (fun p => lookL (newD 9).x p) = cc at p2
  generalize newD 9 = d0 at p2 S0
  have HT := Lib.hid (take_came p2 rfl S0.out (by omega) (by omega) ⟨by omega, by omega⟩ (i := 0) (hand := 1) (l := [none, none]) sweep1 (fun f hf => by cases hf))
  clear HP p2 S0
  go_wp2_with fail
  refine HT.out.mono ?_
  rintro e w3 ⟨f, d1, c1, rfl, hf, p3, s1, kk⟩
  replace K1 := Lib.hid (K1.out.trans kk)
  clear kk
  have HT2 := Lib.hid (take_came p3 rfl s1 (by omega) (by omega) ⟨by omega, by omega⟩ (i := 1) (hand := 0) (l := [some f, none]) (sweep2 f) (fun g hg => by cases hg))
  clear HT p3 s1
  go_wp2_with fail
  refine HT2.out.mono ?_
  rintro e w4 ⟨g, d2, c2, rfl, hg, p4, s2, kk⟩
  replace K1 := Lib.hid (K1.out.trans kk)
  clear kk
  have HA := Lib.hid (page_any (p4.pd.pool.each 0 f rfl))
  have HB := Lib.hid (page_any (p4.pd.pool.each 1 g rfl))
  rw [hf.page] at HA
  rw [hg.page] at HB
  have HT3 := Lib.hid (take_pins p4 rfl (by omega) (l := [some f, some g]) (hand := 0) (sweep3 f g hf.pins hg.pins))
  clear HT2 p4
  have S2 := Lib.hid (And.intro s2 (And.intro hf hg))
  clear s2 hf hg
  go_wp2_with fail
  refine HA.out.mono ?_
  rintro e w' ⟨rfl, rfl⟩
  go_wp2_with fail
  refine HB.out.mono ?_
  rintro e w' ⟨rfl, rfl⟩
  clear HA HB
  go_wp2_with fail
  refine HT3.out.mono ?_
  rintro e w5 ⟨rfl, p5, kk⟩
  replace K1 := Lib.hid (K1.out.trans kk)
  clear kk
  have HU := Lib.hid (unpin_any (i := 1) (f := g) p5 rfl (by rw [S2.out.2.2.pins]; omega) ⟨by omega, by omega⟩)
  clear HT3 p5
  go_wp2_with fail
  refine HU.out.mono ?_
  rintro e w6 ⟨rfl, p6, kk⟩
  replace K1 := Lib.hid (K1.out.trans kk)
  clear kk
  have hgp : g.pins - 1 = 0 := by rw [S2.out.2.2.pins]; rfl
  rw [hgp] at p6
  have HT4 := Lib.hid (take_came p6 rfl S2.out.1 (by omega) (by omega) ⟨by omega, by omega⟩ (i := 1) (hand := 0) (l := [some f, some { g with pins := 0, used := false }]) (sweep4 f g S2.out.2.1.pins S2.out.2.2.used) (fun x hx => by rw [← Option.some.inj (Option.some.inj hx)]; exact S2.out.2.2.dirty))
  clear HU p6 hgp S2
  go_wp2_with fail
  refine HT4.out.mono ?_
  rintro e w7 ⟨x, d3, c3, rfl, hx, p7, _, kk⟩
  replace K1 := Lib.hid (K1.out.trans kk)
  clear kk
  have HA := Lib.hid (page_any (p7.pd.pool.each 1 x rfl))
  rw [hx.page] at HA
  have HB := Lib.hid (pinned_any p7.pd.pool)
  have HC := Lib.hid (resident_any p7.pd.pool)
  rw [show cntF (([some f, some { g with pins := 0, used := false }] : List (Option Fr)).set 1 (some x)) = 2 from rfl] at HC
  clear HT4 p7 hx
  go_wp2_with fail
  refine HA.out.mono ?_
  rintro e w' ⟨rfl, rfl⟩
  clear HA
  go_wp2_with fail
  refine HB.out.mono ?_
  rintro e w' ⟨rfl, rfl⟩
  clear HB
  go_wp2_with fail
  refine HC.out.mono ?_
  rintro e w' ⟨rfl, rfl⟩
  clear HC
  go_wp2
  go_ret
  exact ⟨rfl, K1.out.below (fun _ h => h)⟩
end
end Go.Proofs.YtjfkdfffolkblaaDoor
