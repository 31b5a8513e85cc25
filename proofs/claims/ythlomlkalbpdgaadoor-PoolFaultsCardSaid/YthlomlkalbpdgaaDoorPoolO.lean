/-
  The law's awake: a pool of two pages over a new disk.
-/
import Derived.Test.YthlomlkalbpdgaaDoorPoolN
import Derived.Test.YthlomlkalbpdgaaDoorDiskP
namespace Go.Proofs.YthlomlkalbpdgaaDoor
open Go.RowKit
open UK (str BytesAt nth Only Row Box IntMap)
open Go.BigFrame
section
variable {E : Nat → Prop} {W W' : World} {P D FB M cnt k n : Nat} {kp puts : Int} {q : Pl} {d d' : Dk}
theorem take_still (s : Still d 9 [] puts) (hc : cnt < 9) : tE d cnt = 0 ∧ tP d cnt = cnt ∧ Still (tD d cnt) 9 [] (puts + 1) ∧ tC d cnt = cnt + 1 := by
  have hn : ¬ (d.most ≤ (cnt : Int) ∧ d.free = []) := fun h => by have := h.1; rw [s.most] at this; omega
  have hw := s.ne
  refine ⟨?_, ?_, ?_, ?_⟩
  · unfold tE; rw [if_neg hn, if_neg hw]
  · unfold tP; rw [if_neg hn, if_neg hw, if_pos s.free]
  · unfold tD; rw [if_neg hn, if_neg hw, if_pos s.free]; exact s.takeN cnt
  · unfold tC; rw [if_neg hn, if_neg hw, if_pos s.free]
/-- a frame that Take has given -/
structure Fresh (f : Fr) (p : Int) : Prop where
  page : f.page = p
  pins : f.pins = 1
  dirty : f.dirty = false
  used : f.used = true
/-- a Take that comes to a page -/
def Came (E : Nat → Prop) (W w' : World) (P D FB M : Nat) (kp : Int) (l : List (Option Fr)) (i hand : Nat) (cnt k : Nat) (puts : Int) (e : Ending) : Prop :=
  ∃ (f : Fr) (d' : Dk), e = .returned (.tuple #[.pointer (some ⟨f.blk, 0, none⟩), .int .i64 0]) ∧ Fresh f (cnt : Nat) ∧ PS E w' P D FB M 2 (kp + 1) { frames := l.set i (some f), hand := hand, pins := kp + 1 } d' (cnt + 1) (k + 2) ∧ Still d' 9 [] (puts + 1) ∧ Kept E W w'
theorem take_came (h : PS E W P D FB M 2 kp q d cnt k) (s : Still d 9 [] puts) (hc : cnt < 9) (hk : k + 2 < 1000) (hkp : 0 ≤ kp ∧ kp < 1000000) {i hand : Nat} {l : List (Option Fr)} (hr : sweep 4 q.frames q.hand = (some i, l, hand)) (hcl : ∀ f, l[i]? = some (some f) → f.dirty = false) :
    Calls Tryd.prog 22 #[.pointer (some ⟨P, 0, none⟩)] W fun e w' => Came E W w' P D FB M kp l i hand cnt k puts e := by
  refine (ptake_any h hk hkp).mono (fun e w' ht => ?_)
  rw [h.len, hr] at ht
  obtain ⟨t1, t2, t3, t4⟩ := take_still s hc
  have hcln : clean (some i, l, hand) := fun j f hj hf => by
    have e1 : i = j := Option.some.inj hj
    subst e1
    exact hcl f hf
  rcases ht with ⟨e0, q', d', cnt', rfl, p2, k2, _, hno⟩ | ⟨j, f, q', d', cnt', rfl, hi, hfp, p2, k2, _, hx⟩
  · have := hno hcln t1
    cases this
  · obtain ⟨ej, rfl, hpg, hpn, hdt, hus, rfl, rfl⟩ := hx hcln
    have e1 : i = j := Option.some.inj ej
    subst e1
    rw [t4] at p2
    have e2 : q.pins = kp := h.pins
    rw [e2] at p2
    exact ⟨f, _, rfl, ⟨by rw [hpg, t2], hpn, hdt, hus⟩, p2, t3, k2⟩
theorem take_pins (h : PS E W P D FB M 2 kp q d cnt k) (hk : k + 2 < 1000) (hkp : 0 ≤ kp ∧ kp < 1000000) {hand : Nat} {l : List (Option Fr)} (hr : sweep 4 q.frames q.hand = (none, l, hand)) :
    Calls Tryd.prog 22 #[.pointer (some ⟨P, 0, none⟩)] W fun e w' => e = .returned (.tuple #[.pointer none, .int .i64 9]) ∧ PS E w' P D FB M 2 kp { frames := l, hand := hand, pins := kp } d cnt (k + 2) ∧ Kept E W w' := by
  refine (ptake_any h hk hkp).mono (fun e w' ht => ?_)
  rw [h.len, hr] at ht
  rcases ht with ⟨e0, q', d', cnt', rfl, p2, k2, hx, _⟩ | ⟨j, f, q', d', cnt', rfl, hi, hfp, p2, k2, hx, _⟩
  · obtain ⟨rfl, rfl, rfl, rfl⟩ := hx rfl
    have e2 : q.pins = kp := h.pins
    rw [e2] at p2
    exact ⟨rfl, p2, k2⟩
  · exact absurd rfl hx
theorem sweep1 : sweep 4 [none, none] 0 = (some 0, [none, none], 1) := rfl
theorem sweep2 (f : Fr) : sweep 4 [some f, none] 1 = (some 1, [some f, none], 0) := by simp [sweep]
theorem sweep3 (f g : Fr) (hf : f.pins = 1) (hg : g.pins = 1) : sweep 4 [some f, some g] 0 = (none, [some f, some g], 0) := by simp [sweep, hf, hg]
theorem sweep4 (f g : Fr) (hf : f.pins = 1) (hg : g.used = true) : sweep 4 [some f, some { g with pins := 0 }] 0 = (some 1, [some f, some { g with pins := 0, used := false }], 0) := by simp [sweep, hf, hg]
set_option maxHeartbeats 1000000 in
set_option maxRecDepth 100000 in
theorem awake_any (W : World) (ht : TabAt W) :
    Calls Tryd.prog 5 #[] W fun e w' => e = .returned (.bool true) ∧ Below W.heap.size W w' := by
  have HN := Lib.hid (dd_new W 9 ht (fun k => k < W.heap.size) (fun _ h => h))
  go_enter Tryd.func5, Tryd.ntmps5
  go_wp2_with fail
  refine HN.out.mono ?_
  rintro e w1 ⟨rfl, hd, hb1⟩
  have K1 : Hid (Kept (fun k => k < W.heap.size) W w1) := Lib.hid (Kept.of_below hb1 (fun _ h => h))
  clear hb1
  have HP := Lib.hid (pnew_any hd (Ok.new 9) 2 ⟨by omega, by omega⟩)
  have S0 := Lib.hid (newD_still 9)
  rw [show clampD 9 = 9 from rfl] at S0
  clear HN hd
  generalize newD 9 = d0 at HP S0
  go_wp2_with fail
  refine HP.out.mono ?_
  rintro e w2 ⟨P, FB, M, rfl, p2, kk, _⟩
  replace K1 := Lib.hid (K1.out.trans kk)
  clear kk
  have HT := Lib.hid (take_came p2 S0.out (by omega) (by omega) ⟨by omega, by omega⟩ (i := 0) (hand := 1) (l := [none, none]) sweep1 (fun f hf => by cases hf))
  clear HP p2 S0
  go_wp2_with fail
  refine HT.out.mono ?_
  rintro e w3 ⟨f, d1, rfl, hf, p3, s1, kk⟩
  replace K1 := Lib.hid (K1.out.trans kk)
  clear kk
  have HT2 := Lib.hid (take_came p3 s1 (by omega) (by omega) ⟨by omega, by omega⟩ (i := 1) (hand := 0) (l := [some f, none]) (sweep2 f) (fun g hg => by cases hg))
  clear HT p3 s1
  go_wp2_with fail
  refine HT2.out.mono ?_
  rintro e w4 ⟨g, d2, rfl, hg, p4, s2, kk⟩
  replace K1 := Lib.hid (K1.out.trans kk)
  clear kk
  have HA := Lib.hid (page_any (p4.pd.pool.each 0 f rfl))
  have HB := Lib.hid (page_any (p4.pd.pool.each 1 g rfl))
  rw [hf.page] at HA
  rw [hg.page] at HB
  have HT3 := Lib.hid (take_pins p4 (by omega) ⟨by omega, by omega⟩ (l := [some f, some g]) (hand := 0) (sweep3 f g hf.pins hg.pins))
  clear HT2 p4
  have S2 := Lib.hid (And.intro s2 (And.intro hf hg))
  clear s2 hf hg
  go_wp2_with fail
  refine HA.out.mono ?_
  rintro e w' ⟨rfl, rfl⟩
  go_wp2_with fail
  refine HB.out.mono ?_
  rintro e w' ⟨rfl, rfl⟩
  clear HA HB
  go_wp2_with fail
  refine HT3.out.mono ?_
  rintro e w5 ⟨rfl, p5, kk⟩
  replace K1 := Lib.hid (K1.out.trans kk)
  clear kk
  have HU := Lib.hid (unpin_any (i := 1) (f := g) p5 rfl (by rw [S2.out.2.2.pins]; omega) ⟨by omega, by omega⟩)
  clear HT3 p5
  go_wp2_with fail
  refine HU.out.mono ?_
  rintro e w6 ⟨rfl, p6, kk⟩
  replace K1 := Lib.hid (K1.out.trans kk)
  clear kk
  have hgp : g.pins - 1 = 0 := by rw [S2.out.2.2.pins]; rfl
  rw [hgp] at p6
  have HT4 := Lib.hid (take_came p6 S2.out.1 (by omega) (by omega) ⟨by omega, by omega⟩ (i := 1) (hand := 0) (l := [some f, some { g with pins := 0, used := false }]) (sweep4 f g S2.out.2.1.pins S2.out.2.2.used) (fun x hx => by rw [← Option.some.inj (Option.some.inj hx)]; exact S2.out.2.2.dirty))
  clear HU p6 hgp S2
  go_wp2_with fail
  refine HT4.out.mono ?_
  rintro e w7 ⟨x, d3, rfl, hx, p7, _, kk⟩
  replace K1 := Lib.hid (K1.out.trans kk)
  clear kk
  have HA := Lib.hid (page_any (p7.pd.pool.each 1 x rfl))
  rw [hx.page] at HA
  have HB := Lib.hid (pinned_any p7.pd.pool)
  have HC := Lib.hid (resident_any p7.pd.pool)
  rw [show cntF (([some f, some { g with pins := 0, used := false }] : List (Option Fr)).set 1 (some x)) = 2 from rfl] at HC
  clear HT4 p7 hx
  go_wp2_with fail
  refine HA.out.mono ?_
  rintro e w' ⟨rfl, rfl⟩
  clear HA
  go_wp2_with fail
  refine HB.out.mono ?_
  rintro e w' ⟨rfl, rfl⟩
  clear HB
  go_wp2_with fail
  refine HC.out.mono ?_
  rintro e w' ⟨rfl, rfl⟩
  clear HC
  go_wp2
  go_ret
  exact ⟨rfl, K1.out.below (fun _ h => h)⟩
end
end Go.Proofs.YthlomlkalbpdgaaDoor
