/-
  heap.Put: a text comes.
  heap.Put: the walk.
-/
import Derived.Test.YtjfkdfffolkblaaGreatDoorHeapG
namespace Go.Proofs.YtjfkdfffolkblaaGreatDoor
open Go.RowKit
open UK (str BytesAt nth Only Row Box w32)
open SR (Recs rcd total)
open SL (hole add trim room live)
open Go.BigFrame
/-- a heap in the world, no page of it used -/
structure HZ (E : Nat → Prop) (W : World) (P D H k : Nat) (A : AP) (root pg : Nat) (rp : List Nat) (L : Nat → List (List UInt8)) (X : List HT) : Prop where
  pz : PZ E W P D A k
  good : A.Good
  box : Box W H (hcells P root)
  mem : E H
  hi : HI A.pgs root pg rp L X
  few : X.length ≤ 1000000
theorem room_nil : room [] = 496 := rfl
theorem add_nil (s : List UInt8) : add [] s = [s] := rfl
theorem HI.pg_le {A : AP} {root pg : Nat} {rp : List Nat} {L : Nat → List (List UInt8)} {X : List HT} (h : HI A.pgs root pg rp L X) (g : A.Good) : pg ≤ 60000 := by
  rcases h.cur with h1 | h1
  · omega
  · have h2 : A.Has pg := (h.rp_has h1).1
    have := h2.2.1
    have := g.most
    have := g.few
    omega
theorem HI.fits_empty {A : Pg} {root pg : Nat} {rp : List Nat} {L : Nat → List (List UInt8)} {X : List HT} (_ : HI A root pg rp L X) {rec : List UInt8} (hr : rec.length ≤ 301) (hn : room (L pg) < rec.length) : L pg ≠ [] := fun e => by
  rw [e, room_nil] at hn
  omega
section
variable {E F : Nat → Prop} {W W' : World} {P D k fb db cap pg root H : Nat} {A B : AP} {s : List UInt8} {rp : List Nat} {L : Nat → List (List UInt8)} {X : List HT} {ch : List Nat}
/-- a text comes where there is room -/
theorem put_fit (h : HI A.pgs root pg rp L X) (hp : pg ∈ rp) (hgr : AP.Grown A B ch) (hl : longS B.c s ch) (hs : s.length ≤ 400000) {z : List UInt8} (hz : Recs z (add (L pg) (recS s ch))) :
    HI ((B.wrote pg z).wrote root (rootB ((B.wrote pg z).c root) pg (X.length + 1))).pgs root pg rp (fun p => if p = pg then add (L pg) (recS s ch) else L p) (⟨pg, hole (L pg), s, ch⟩ :: X) := by
  obtain ⟨hpg, hpr⟩ := h.rp_has hp
  have hroot : A.Has root := h.root_has
  replace hpg : A.Has pg := hpg
  have hcr : (B.wrote pg z).c root = A.c root := by rw [AP.wrote_c, if_neg hpr]; exact hgr.same root hroot
  refine h.put (t := ⟨pg, hole (L pg), s, ch⟩) (y := z) rfl hp rfl hs ?_ hgr.nod hgr.new (fun p => ?_) hz ?_ ?_ (fun p hA h1 h2 => ?_)
  · refine LongIs.same (c := B.c) hl (fun p hpc => ?_)
    have hn := hgr.new p hpc
    show ((B.wrote pg z).wrote root _).c p = _
    rw [AP.wrote_c, if_neg (show ¬ root = p from fun e => hn (e ▸ hroot)), AP.wrote_c, if_neg (show ¬ pg = p from fun e => hn (e ▸ hpg))]
  · show ((B.wrote pg z).wrote root _).Has p ↔ _
    rw [AP.wrote_has, AP.wrote_has]
    exact hgr.has p
  · show ((B.wrote pg z).wrote root _).c pg = z
    rw [AP.wrote_c, if_neg (Ne.symm hpr), AP.wrote_c, if_pos rfl]
  · show ((B.wrote pg z).wrote root _).c root = _
    rw [AP.wrote_c, if_pos rfl, hcr]; rfl
  · show ((B.wrote pg z).wrote root _).c p = A.c p
    rw [AP.wrote_c, if_neg (Ne.symm h2), AP.wrote_c, if_neg (Ne.symm h1)]
    exact hgr.same p hA
/-- a text comes onto a page of its own -/
theorem put_page (h : HI A.pgs root pg rp L X) (hgr : AP.Grown A B ch) (hg : A.Good) (hf : ¬ B.Full) (hl : longS B.c s ch) (hs : s.length ≤ 400000) (hno : pg ∈ rp → room (L pg) < (recS s ch).length) {z1 z : List UInt8} (hz1 : Recs z1 []) (hz : Recs z [recS s ch]) :
    HI ((B.take.wrote B.next z).wrote root (rootB ((B.take.wrote B.next z).c root) B.next (X.length + 1))).pgs root B.next (rp ++ [B.next]) (fun p => if p = B.next then [recS s ch] else L p) (⟨B.next, 0, s, ch⟩ :: X) := by
  have hroot : A.Has root := h.root_has
  have hgb := hgr.reach.good hg
  obtain ⟨_, ht2, _⟩ := hgb.take hf
  have hn := (hgb.next hf).1
  have hnA : ¬ A.Has B.next := fun hh => hn ((hgr.has _).2 (.inl hh))
  have hnr : B.next ≠ root := fun e => hnA (e ▸ hroot)
  have hnc : ∀ p, p ∈ ch → p ≠ B.next := fun p hp e => hn ((hgr.has _).2 (.inr (e ▸ hp)))
  have hct : ∀ p, p ≠ B.next → (B.take.wrote B.next z).c p = B.c p := fun p hp => by
    rw [AP.wrote_c, if_neg (Ne.symm hp)]
    show setC B.c B.next (UK.zeros 504) p = _
    unfold setC
    rw [if_neg (Ne.symm hp)]
  have h1 := HI.fresh (B := ⟨fun p => A.Has p ∨ p = B.next, fun p => if p = B.next then z1 else if p = root then rootB (A.c root) B.next X.length else A.c p⟩) h (q := B.next) (y := z1) hnA (fun p => Iff.rfl) hz1 (fun hp => h.fits_empty (recS_len s ch) (hno hp)) (if_pos rfl) (by show (if root = B.next then _ else _) = _; rw [if_neg (Ne.symm hnr), if_pos rfl]; rfl) (fun p hp hpr => by
    show (if p = B.next then _ else _) = _
    rw [if_neg (show ¬ p = B.next from fun e => hnA (e ▸ hp)), if_neg hpr]; rfl)
  have h2 := HI.put (B := ((B.take.wrote B.next z).wrote root (rootB ((B.take.wrote B.next z).c root) B.next (X.length + 1))).pgs) h1 (t := ⟨B.next, 0, s, ch⟩) (y := z) rfl (List.mem_append_right _ (List.mem_singleton.2 rfl)) (by rw [if_pos rfl]; rfl) hs (by
      refine LongIs.same (c := B.c) hl (fun p hpc => ?_)
      have hnp := hgr.new p hpc
      show ((B.take.wrote B.next z).wrote root _).c p = _
      rw [AP.wrote_c, if_neg (show ¬ root = p from fun e => hnp (e ▸ hroot)), hct p (hnc p hpc)])
    hgr.nod (fun p hp hh => hh.elim (hgr.new p hp) (hnc p hp)) (fun p => by
      show ((B.take.wrote B.next z).wrote root _).Has p ↔ _
      rw [AP.wrote_has, AP.wrote_has, ht2, hgr.has]
      show _ ↔ (A.Has p ∨ p = B.next) ∨ p ∈ ch
      constructor
      · rintro ((a | a) | a)
        · exact .inl (.inl a)
        · exact .inr a
        · exact .inl (.inr a)
      · rintro ((a | a) | a)
        · exact .inl (.inl a)
        · exact .inr a
        · exact .inl (.inr a)) (by rw [if_pos rfl, add_nil]; exact hz) (by
      show ((B.take.wrote B.next z).wrote root _).c B.next = z
      rw [AP.wrote_c, if_neg (Ne.symm hnr), AP.wrote_c, if_pos rfl]) (by
      show ((B.take.wrote B.next z).wrote root _).c root = rootB (if root = B.next then _ else _) _ _
      rw [AP.wrote_c, if_pos rfl, hct root (Ne.symm hnr), hgr.same root hroot, if_neg (Ne.symm hnr), if_pos rfl]
      exact (rootB_again (A.c root) B.next X.length (X.length + 1) h.rlen).symm) (fun p hp h3 h4 => by
      show ((B.take.wrote B.next z).wrote root _).c p = if p = B.next then _ else if p = root then _ else _
      rw [AP.wrote_c, if_neg (Ne.symm h4), hct p h3, if_neg h3, if_neg h4]
      exact hgr.same p (hp.elim id (fun e => absurd e h3)))
  refine h2.likeL (fun p _ => ?_)
  by_cases e : p = B.next
  · rw [if_pos e, if_pos e, if_pos rfl, add_nil]; rfl
  · rw [if_neg e, if_neg e, if_neg e]
end
end Go.Proofs.YtjfkdfffolkblaaGreatDoor
namespace Go.Proofs.YtjfkdfffolkblaaGreatDoor
open Go.RowKit
open UK (str BytesAt nth Only Row Box w32)
open SR (Recs rcd total)
open SL (hole add trim room live)
open Go.BigFrame
def idOf (t : HT) : Nat := t.pg * 256 + t.i
theorem HI.words {A : AP} {root pg : Nat} {rp : List Nat} {L : Nat → List (List UInt8)} {X : List HT} (h : HI A.pgs root pg rp L X) (g : A.Good) (hX : X.length ≤ 1000000) : (wdAt (A.c root) 0).toNat = pg ∧ (wdAt (A.c root) 4).toNat = X.length := by
  have h1 : wdAt (A.c root) 0 = w32 pg := h.wpg
  have h2 : wdAt (A.c root) 4 = w32 X.length := h.wn
  have := h.pg_le g
  rw [h1, h2, w32_nat (by omega), w32_nat (by omega)]
  exact ⟨rfl, rfl⟩
theorem id_bits (p i : Nat) (hp : p ≤ 60000) (hi : i < 256) : bits .or .u64 (IntKind.u64.wrap (IntKind.u64.wrap (p : Int) * 256)) (IntKind.u64.wrap (i : Int)) = ((p * 256 + i : Nat) : Int) := by
  have e1 : IntKind.u64.wrap (IntKind.u64.wrap (p : Int) * 256) = ((p * 256 : Nat) : Int) := by rw [IntKind.wrap_u64, IntKind.wrap_u64]; omega
  have e2 : IntKind.u64.wrap (i : Int) = (i : Int) := by rw [IntKind.wrap_u64]; omega
  rw [e1, e2, u64_or_nat _ _ (by omega) (by omega)]
  have h := Nat.two_pow_add_eq_or_of_lt (b := i) (i := 8) hi p
  rw [show p * 256 = 2 ^ 8 * p by omega, ← h]
section
variable {E F : Nat → Prop} {W W' : World} {P D k fb db cap pg root H : Nat} {A B : AP} {s : List UInt8} {rp : List Nat} {L : Nat → List (List UInt8)} {X : List HT} {ch : List Nat}
/-- what Put leaves -/
def PutR (E : Nat → Prop) (W W' : World) (P D H k : Nat) (A : AP) (root : Nat) (s : List UInt8) (X : List HT) (e : Ending) : Prop :=
  (∃ t B pg' rp' L', e = .returned (.tuple #[.int .u64 (idOf t : Nat), .int .i64 0]) ∧ t.s = s ∧ HZ E W' P D H (k + (s.length + 30)) B root pg' rp' L' (t :: X) ∧ A.Reach B ∧ Kept E W W') ∨
  (∃ B, e = .returned (.tuple #[.int .u64 0, .int .i64 6]) ∧ A.Reach B ∧ 500 * A.rooms < s.length + 500 ∧ PZ E W' P D B (k + (s.length + 30)) ∧ Kept E W W')
theorem init_page {w : World} {q : Nat} (h : PF E w P D (B.keep q) k fb db cap q true) :
    Calls Tryz.prog 84 #[.slice (some ⟨db, 0, none⟩) 504 cap] w fun e w' => e = .returned (.tuple #[]) ∧ (∃ z, Recs z [] ∧ PF E w' P D (B.wrote q z) k fb db cap q true) ∧ Kept E w w' := by
  obtain ⟨y, y1, y2, y3, y4, y5⟩ := h.bytes
  refine (SL.init_any db y cap w y1 (by omega)).mono ?_
  rintro e w' ⟨he, ⟨z, z1, z2, z3⟩, o⟩
  obtain ⟨p, kk⟩ := h.write o z1 (z3.trans y2)
  exact ⟨he, ⟨z.take 504, z2.cut, p⟩, kk⟩
theorem add_page {w : World} {q : Nat} {l : List (List UInt8)} {rec : List UInt8} (h : PF E w P D (B.keep q) k fb db cap q true) (hr : Recs (B.c q) l) (hs : rec ≠ []) (hrm : (rec.length : Int) ≤ room l) :
    Calls Tryz.prog 85 #[.slice (some ⟨db, 0, none⟩) 504 cap, .string (str rec)] w fun e w' => e = .returned (.tuple #[.int .i64 (hole l : Nat), .bool true]) ∧ (∃ z, Recs z (add l rec) ∧ PF E w' P D (B.wrote q z) k fb db cap q true) ∧ Kept E w w' := by
  obtain ⟨y, y1, y2, y3, y4, y5⟩ := h.bytes
  have y3 : y.take 504 = B.c q := y3
  refine (SL.add_yes db y l cap (by omega) rec w y1 (hr.uncut (by omega) y3) hs hrm).mono ?_
  rintro e w' ⟨he, ⟨z, z1, z2, z3⟩, o⟩
  obtain ⟨p, kk⟩ := h.write o z1 (z3.trans y2)
  exact ⟨he, ⟨z.take 504, z2.cut, p⟩, kk⟩
set_option maxHeartbeats 2000000 in
set_option maxRecDepth 100000 in
theorem hput_any (h : HZ E W P D H k A root pg rp L X) (hk : k + (s.length + 30) < 900000000) (hs : s.length ≤ 400000) (hX : X.length < 1000000) :
    Calls Tryz.prog 35 #[.pointer (some ⟨H, 0, none⟩), .string (str s)] W fun e w' => PutR E W w' P D H k A root s X e := by
  have HREC := Lib.hid (record_any h.pz h.good (by omega) h.box h.mem hs)
  have HH := Lib.hid h
  have i1 : (s.length : Int) ≤ 400000 := by omega
  clear h
  go_enter Tryz.func35, Tryz.ntmps35
  go_wp2_with fail
  refine HREC.out.mono ?_
  rintro e w1 (⟨ch, B, rfl, q1, q2, q3, q4, q5⟩ | ⟨B, rfl, q1, q2, q3, q4, q5⟩)
  · have h := HH.out
    have hroot : A.Has root := h.hi.root_has
    have hbr : B.Has root := (q1.has _).2 (.inl hroot)
    have hbx := h.box.of_block (q5.block H h.mem)
    obtain ⟨wd1, wd2⟩ := h.hi.words h.good (by omega)
    have hst := state_any q4 (by omega) hbx hbr
    rw [q1.same root hroot, wd1, wd2] at hst
    have HST := Lib.hid hst
    have hrl := recS_len s ch
    have hways : pg = 0 ∨ (0 < pg ∧ pg ∈ rp ∧ ((recS s ch).length : Int) ≤ room (L pg)) ∨ (0 < pg ∧ pg ∈ rp ∧ room (L pg) < (recS s ch).length) := by
      rcases h.hi.cur with e | e
      · exact .inl e
      · have h0 : 0 < pg := by
          have : A.Has pg := (h.hi.rp_has e).1
          exact this.1
        by_cases hf : ((recS s ch).length : Int) ≤ room (L pg)
        · exact .inr (.inl ⟨h0, e, hf⟩)
        · exact .inr (.inr ⟨h0, e, by omega⟩)
    have HQ := Lib.hid (And.intro q1 (And.intro q2 (And.intro q3 q5)))
    have HL := Lib.hid hrl
    generalize hrec : recS s ch = rec at hways hrl ⊢
    have HRC := Lib.hid hrec
    clear HREC q1 q2 q3 q4 q5 hst hbr hroot hbx wd1 wd2 h hrec
    go_wp2_with fail
    refine HST.out.mono ?_
    rintro e w2 ⟨rfl, p2, k2⟩
    rcases hways with rfl | ⟨h0, hp, hfit⟩ | ⟨h0, hp, hno⟩
    rotate_left
    · -- there is room
      have h := HH.out
      obtain ⟨q1, q2, q3, q5⟩ := HQ.out
      have hbx := (h.box.of_block (q5.block H h.mem)).of_block (k2.block H h.mem)
      have hpgA : A.Has pg := (h.hi.rp_has hp).1
      have hrc : Recs (B.c pg) (L pg) := by rw [q1.same pg hpgA]; exact (h.hi.recs pg hp).1
      have HA := Lib.hid (hadd_any p2 (by omega) hbx ((q1.has _).2 (.inl hpgA)) hrc (HRC.out ▸ recS_ne s ch : rec ≠ []))
      have HF := Lib.hid hfit
      have HP := Lib.hid hp
      have K2 := Lib.hid k2
      clear p2 k2 q1 q2 q3 q5 h hbx hpgA hrc hfit hp HST
      go_wp2_with fail
      refine HA.out.mono ?_
      rintro e w3 (⟨_, rfl, z, z1, z2, p3, k3⟩ | ⟨hbad, _⟩)
      · have h := HH.out
        obtain ⟨q1, q2, q3, q5⟩ := HQ.out
        have hk5 := (q5.trans K2.out).trans k3
        have hbx := h.box.of_block (hk5.block H h.mem)
        have hss := setState_any p3 (by omega) hbx (AP.wrote_has.2 ((q1.has _).2 (.inl h.hi.root_has))) pg (X.length + 1)
        rw [show ((X.length + 1 : Nat) : Int) = (X.length : Int) + 1 from by omega] at hss
        have HS := Lib.hid hss
        have HZZ := Lib.hid (And.intro z1 (And.intro z2 hk5))
        clear HA K2 p3 k3 z1 z2 h q1 q2 q3 q5 hk5 hbx hss
        go_wp2_with fail
        refine HS.out.mono ?_
        rintro e w4 ⟨rfl, p4, k4⟩
        have H4 := Lib.hid (And.intro p4 k4)
        clear HS p4 k4
        go_wp2
        go_ret2
        obtain ⟨q1, q2, q3, q5⟩ := HQ.out
        refine .inl ⟨⟨pg, hole (L pg), s, ch⟩, _, pg, rp, _, ?_, rfl, ⟨H4.out.1.up (by omega), ?_, ?_, ?_, put_fit HH.out.hi HP.out q1 q2 hs (by rw [HRC.out]; exact HZZ.out.1), ?_⟩, ?_, ?_⟩
        · have hfew := HZZ.out.1.few
          have hh := SL.hole_le (L pg)
          have hrp := (HH.out.hi.recs pg HP.out).1.few
          simp only [Ending.returned.injEq, Value.tuple.injEq]
          simp
          exact id_bits pg (hole (L pg)) (HH.out.hi.pg_le HH.out.good) (by omega)
        · exact ((q1.reach.wrote ((q1.has _).2 (.inl (HH.out.hi.rp_has HP.out).1)) z).wrote (AP.wrote_has.2 ((q1.has _).2 (.inl HH.out.hi.root_has))) _).good HH.out.good
        · exact HH.out.box.of_block ((HZZ.out.2.2.trans H4.out.2).block H HH.out.mem)
        · exact HH.out.mem
        · show X.length + 1 ≤ _; omega
        · exact (q1.reach.wrote ((q1.has _).2 (.inl (HH.out.hi.rp_has HP.out).1)) z).wrote (AP.wrote_has.2 ((q1.has _).2 (.inl HH.out.hi.root_has))) _
        · exact HZZ.out.2.2.trans H4.out.2
      · exact absurd hbad (by have := HF.out; omega)
    -- there is none
    focus
      have h := HH.out
      obtain ⟨q1, q2, q3, q5⟩ := HQ.out
      have hbx := (h.box.of_block (q5.block H h.mem)).of_block (k2.block H h.mem)
      have hpgA : A.Has pg := (h.hi.rp_has hp).1
      have hrc : Recs (B.c pg) (L pg) := by rw [q1.same pg hpgA]; exact (h.hi.recs pg hp).1
      have HA := Lib.hid (hadd_any p2 (by omega) hbx ((q1.has _).2 (.inl hpgA)) hrc (HRC.out ▸ recS_ne s ch : rec ≠ []))
      have HNO := Lib.hid (show pg ∈ rp → room (L pg) < (recS s ch).length from fun _ => by rw [HRC.out]; exact hno)
      have HF := Lib.hid hno
      have K2 := Lib.hid k2
      clear p2 k2 q1 q2 q3 q5 h hbx hpgA hrc hno hp HST
      go_wp2_with fail
      refine HA.out.mono ?_
      rintro e w2 (⟨hbad, _⟩ | ⟨_, rfl, p2, k3⟩)
      · exact absurd hbad (by have := HF.out; omega)
      have k2 := K2.out.trans k3
      replace p2 := p2.up (show k + (s.length + 10) + 2 + 3 ≤ k + (s.length + 15) by omega)
      clear HA HF K2 k3
    rotate_left
    have HNO := Lib.hid (show 0 ∈ rp → room (L 0) < (recS s ch).length from fun h0 => by
      have : A.Has 0 := (HH.out.hi.rp_has h0).1
      exact absurd this.1 (by omega))
    replace p2 := p2.up (show k + (s.length + 10) + 2 ≤ k + (s.length + 15) by omega)
    clear HST
    all_goals
      have c0 : w2.cell? ⟨H, 0, none⟩ = some (.pointer (some ⟨P, 0, none⟩)) := (HH.out.box.of_block ((HQ.out.2.2.2.trans k2).block H HH.out.mem)).cell 0 _ rfl
      by_cases hf : B.Full
      · have HT := Lib.hid (pz_take_no p2 (by omega) hf)
        have hr0 := ((HQ.out.1.reach.good HH.out.good).full).1 hf
        have H0 := Lib.hid (And.intro hr0 k2)
        clear p2 k2 hf hr0
        go_wp2_with fail
        refine HT.out.mono ?_
        rintro e w4 ⟨rfl, p4, k4⟩
        have H4 := Lib.hid (And.intro p4 k4)
        clear HT p4 k4
        go_wp2
        go_ret2
        obtain ⟨q1, q2, q3, q5⟩ := HQ.out
        have := q1.rooms
        have h00 := H0.out.1
        exact .inr ⟨B, rfl, q1.reach, by omega, H4.out.1.up (by omega), (q5.trans H0.out.2).trans H4.out.2⟩
      · have HT := Lib.hid (pz_take p2 (by omega) hf)
        have HF := Lib.hid (And.intro hf k2)
        clear p2 k2 hf
        go_wp2_with fail
        refine HT.out.mono ?_
        rintro e w4 ⟨fb, db, cap, rfl, p4, k4⟩
        have HE := Lib.hid (pf_edit p4 (by omega))
        have K4 := Lib.hid (HF.out.2.trans k4)
        clear HT p4 k4
        go_wp2_with fail
        refine HE.out.mono ?_
        rintro e w5 ⟨rfl, p5, k5⟩
        have HI := Lib.hid (init_page p5)
        have K5 := Lib.hid (K4.out.trans k5)
        clear HE K4 p5 k5
        go_wp2_with fail
        refine HI.out.mono ?_
        rintro e w6 ⟨rfl, ⟨z1, hz1, p6⟩, k6⟩
        have HG := Lib.hid (pf_page p6)
        have HE2 := Lib.hid (pf_edit p6 (by omega))
        have K6 := Lib.hid (K5.out.trans k6)
        have HZ1 := Lib.hid hz1
        clear HI K5 p6 k6 hz1
        go_wp2_with fail
        refine HG.out.mono ?_
        rintro e w7 ⟨rfl, rfl⟩
        clear HG
        go_wp2_with fail
        refine HE2.out.mono ?_
        rintro e w8 ⟨rfl, p8, k8⟩
        have HA := Lib.hid (add_page (l := []) p8 (by rw [AP.wrote_c, if_pos rfl]; exact HZ1.out) (HRC.out ▸ recS_ne s ch : rec ≠ []) (by rw [room_nil]; omega))
        have K8 := Lib.hid (K6.out.trans k8)
        clear HE2 K6 p8 k8
        go_wp2_with fail
        refine HA.out.mono ?_
        rintro e w9 ⟨rfl, ⟨z, hz, p9⟩, k9⟩
        rw [AP.wrote_wrote] at p9
        have HU := Lib.hid (pf_unpin p9)
        have K9 := Lib.hid (And.intro hz (K8.out.trans k9))
        clear HA K8 p9 k9 hz
        go_wp2_with fail
        refine HU.out.mono ?_
        rintro e w10 ⟨rfl, p10, k10⟩
        obtain ⟨q1, q2, q3, q5⟩ := HQ.out
        have hgb := q1.reach.good HH.out.good
        obtain ⟨ht1, ht2, ht3⟩ := hgb.take HF.out.1
        have hn := hgb.next HF.out.1
        have hk10 := (q5.trans K9.out.2).trans k10
        have hss := setState_any p10 (by omega) (HH.out.box.of_block (hk10.block H HH.out.mem)) (AP.wrote_has.2 ((ht2 _).2 (.inl ((q1.has _).2 (.inl HH.out.hi.root_has))))) B.next (X.length + 1)
        rw [show ((X.length + 1 : Nat) : Int) = (X.length : Int) + 1 from by omega] at hss
        have HS := Lib.hid hss
        have K10 := Lib.hid hk10
        have hn6 := hn.2.2
        generalize hnx : B.next = nx at HS hn6 ⊢
        have HNX := Lib.hid hnx
        clear HU p10 k10 q1 q2 q3 q5 hgb ht1 ht2 ht3 hn hk10 hss hnx
        go_wp2_with fail
        refine HS.out.mono ?_
        rintro e w11 ⟨rfl, p11, k11⟩
        have H11 := Lib.hid (And.intro p11 k11)
        clear HS p11 k11
        go_wp2
        go_ret2
        obtain ⟨q1, q2, q3, q5⟩ := HQ.out
        have hnx := HNX.out
        subst hnx
        have hgb := q1.reach.good HH.out.good
        obtain ⟨ht1, ht2, ht3⟩ := hgb.take HF.out.1
        have hrec := ((q1.reach.take HF.out.1).wrote ((ht2 _).2 (.inr rfl)) z).wrote (AP.wrote_has.2 ((ht2 _).2 (.inl ((q1.has _).2 (.inl HH.out.hi.root_has))))) (rootB ((B.take.wrote B.next z).c root) B.next (X.length + 1))
        have hzz := K9.out.1
        rw [← HRC.out] at hzz
        refine .inl ⟨⟨B.next, 0, s, ch⟩, _, B.next, _, _, ?_, rfl, ⟨H11.out.1.up (by omega), hrec.good HH.out.good, HH.out.box.of_block ((K10.out.trans H11.out.2).block H HH.out.mem), HH.out.mem, put_page HH.out.hi q1 HH.out.good HF.out.1 q2 hs HNO.out HZ1.out hzz, ?_⟩, hrec, K10.out.trans H11.out.2⟩
        · have e0 : IntKind.u64.wrap (B.next : Int) = (B.next : Int) := by rw [IntKind.wrap_u64]; omega
          have hb := id_bits B.next 0 hn6 (by omega)
          have e1 : IntKind.u64.wrap ((B.next : Int) * 256) = (B.next : Int) * 256 := by rw [IntKind.wrap_u64]; omega
          rw [e0, e1] at hb
          simp only [Ending.returned.injEq, Value.tuple.injEq]
          simp
          exact hb
        · show X.length + 1 ≤ _; omega
  · have HQ := Lib.hid (And.intro q1 (And.intro q2 (And.intro q3 (And.intro q4 q5))))
    clear HREC q1 q2 q3 q4 q5
    go_wp2
    go_ret2
    obtain ⟨q1, q2, q3, q4, q5⟩ := HQ.out
    exact .inr ⟨B, rfl, q1, by omega, q4.up (by omega), q5⟩
end
end Go.Proofs.YtjfkdfffolkblaaGreatDoor
