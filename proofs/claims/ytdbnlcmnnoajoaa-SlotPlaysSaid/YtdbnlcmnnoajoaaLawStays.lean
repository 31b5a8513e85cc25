/-
  SlotStays, walked: it returns true.
-/
import Derived.Test.YtdbnlcmnnoajoaaLawRoom
import Derived.Deep.RegionWith
import Derived.Deep.DeepCutAuto
import Derived.Deep.CutBlock
namespace Go.Proofs.Ytdbnlcmnnoajoaa
open Go.RowKit
open UK (str BytesAt nth Only)
open Go.BigFrame
open SR (Recs rcd total)
theorem addL_other (l : List (List UInt8)) (s : List UInt8) (j : Nat) (h : rcd l j ≠ []) : rcd (addL l s) j = rcd l j := by
  unfold addL
  by_cases hn : room l < s.length ∨ s = []
  · rw [if_pos hn]
  · rw [if_neg hn, rcd_add]
    by_cases hj : j = hole l
    · exfalso
      by_cases hl : hole l < l.length
      · exact h (hj ▸ (hole_spec l).2 hl)
      · exact h (SR.rcd_out _ _ (by omega))
    · rw [if_neg hj]
theorem addL_mine (l : List (List UInt8)) (s : List UInt8) (h : addB l s = true) : rcd (addL l s) (hole l) = s ∧ addI l s = (hole l : Nat) := by
  unfold addB at h
  unfold addL addI
  by_cases hn : room l < s.length ∨ s = []
  · rw [if_pos hn] at h; cases h
  · rw [if_neg hn, if_neg hn, rcd_add, if_pos rfl]; exact ⟨rfl, rfl⟩
theorem dropL_other (l : List (List UInt8)) (i : Int) (j : Nat) (h : i ≠ j) : rcd (dropL l i) j = rcd l j := by
  unfold dropL
  cases hb : hasB l i
  · rfl
  · obtain ⟨k, rfl, hk, h0⟩ := rcd_nat l i hb
    simp only [if_true, Int.toNat_natCast]
    rw [rcd_trim, SR.rcd_set, if_neg (by omega)]
def setL (l : List (List UInt8)) (i : Int) (s : List UInt8) : List (List UInt8) := if setB l i s then l.set i.toNat s else l
theorem setL_other (l : List (List UInt8)) (i : Int) (s : List UInt8) (j : Nat) (h : i ≠ j) : rcd (setL l i s) j = rcd l j := by
  unfold setL
  cases hb : setB l i s
  · rfl
  · have hh : hasB l i = true := by
      unfold setB at hb
      simp only [Bool.and_eq_true] at hb
      exact hb.1
    obtain ⟨k, rfl, hk, h0⟩ := rcd_nat l i hh
    simp only [if_true, Int.toNat_natCast]
    rw [SR.rcd_set, if_neg (by omega)]
theorem rcd_in (l : List (List UInt8)) (j : Nat) (h : rcd l j ≠ []) : j < l.length := by
  by_cases hc : j < l.length
  · exact hc
  · exact absurd (SR.rcd_out l j (by omega)) h
set_option maxHeartbeats 3000000 in
set_option maxRecDepth 100000 in
theorem stays_some (w : World) (b off len cap : Nat) (kd ii ni : Nat → Int) (si : Nat → List UInt8) (ha : ActsAt w b off len kd ii ni si) (hb : b < w.heap.size) (mine : List UInt8) :
    Calls Try.prog 6 #[.slice (some ⟨b, off, none⟩) len cap, .string (str mine)] w fun e w' => e = .returned (.bool true) ∧ Below w.heap.size w w' := by
  have hmk := make_page
  go_enter Try.func6, Try.ntmps6
  go_wp2_with fail
  refine (page_init w w (Below.refl _ _)).mono ?_
  rintro e w1 ⟨rfl, p1⟩
  obtain ⟨B, HB⟩ : ∃ B, Hid (w.heap.size = B) := ⟨_, rfl⟩
  rw [HB.out] at p1 ⊢
  clear hmk
  go_wp2_with fail
  refine (long_any mine 1 w1 (by decide)).mono ?_
  rintro e w' ⟨⟨me, hme, rfl⟩, rfl⟩
  by_cases hm0 : me = []
  · subst hm0
    go_wp2_with fail
    refine (awake6_any w1).mono ?_
    rintro e w2 ⟨rfl, b2⟩
    go_wp2
    go_ret
    exact ⟨rfl, (p1.next b2).below⟩
  have hmee : me.isEmpty = false := by cases me; exact absurd rfl hm0; rfl
  have HM0 := Lib.hid hm0
  clear hm0
  go_wp2_with fail
  go_loopw [6] (fun i wr => ∃ (k : Nat) (l : List (List UInt8)), i = .int .i64 k ∧ k ≤ len ∧ k ≤ 10 ∧ Page w wr B l) (fun i _ => 10 - (intOf i).toNat)
  case atStart => exact ⟨0, [], rfl, Nat.zero_le _, Nat.zero_le _, p1⟩
  case round =>
    obtain ⟨k, l, rfl, hk1, hk2, hp⟩ := hrel
    by_cases hkl : k < len
    · by_cases hk20 : k < 10
      · have c3 := ha.c3 k hkl
        rw [← hp.below.cell (p := ⟨_, _, none⟩) hb] at c3
        generalize si k = vs at c3
        go_wp2_with fail
        refine (long_any vs 1 _ (by decide)).mono ?_
        rintro e w' ⟨⟨t, ht, rfl⟩, rfl⟩
        go_wp2_with fail
        refine (page_add hp 504 (by decide) t).mono ?_
        rintro e w3 ⟨rfl, p3⟩
        go_wp2
        go_roundw
        case rel => exact ⟨k + 1, _, by go_num, by omega, by omega, p3⟩
        case measure => simp [intOf]; omega
      · have hp9 := hp
        have HADD := page_add hp 504 (by decide) me
        cases hok : addB l me
        · have HA2 := HADD
          rw [hok] at HA2
          have HA3 := Lib.hid HA2
          clear HADD HA2 hok
          go_wp2_with fail
          refine HA3.out.mono ?_
          rintro e w2 ⟨rfl, p2⟩
          go_wp2_with fail
          refine (awake6_any w2).mono ?_
          rintro e w3 ⟨rfl, b3⟩
          go_wp2
          go_ret
          exact ⟨rfl, (p2.next b3).below⟩
        · have hmn := addL_mine l me hok
          have HA2 := HADD
          rw [hok, hmn.2] at HA2
          have HQ := Lib.hid hmn.1
          have HA3 := Lib.hid HA2
          clear HADD HA2 hok hmn
          generalize hole l = q at HQ HA3
          generalize addL l me = l0 at HQ HA3
          go_wp2_with fail
          refine HA3.out.mono ?_
          rintro e w2 ⟨rfl, p2⟩
          go_wp2_with fail
          go_loopw [9] (fun i wr => ∃ (k : Nat) (l : List (List UInt8)), i = .int .i64 k ∧ k ≤ len ∧ k ≤ 40 ∧ Hid (rcd l q = me) ∧ Page w wr B l) (fun i _ => 40 - (intOf i).toNat)
          case atStart => exact ⟨0, l0, rfl, Nat.zero_le _, Nat.zero_le _, HQ, p2⟩
          case round =>
            obtain ⟨k2, l2, rfl, hk1, hk2, HQ2, hp2⟩ := hrel
            by_cases hkl : k2 < len
            · by_cases hk20 : k2 < 40
              · have c0 := ha.c0 k2 hkl
                have c1 := ha.c1 k2 hkl
                have c2 := ha.c2 k2 hkl
                have c3 := ha.c3 k2 hkl
                have hni := ha.n k2 hkl
                rw [← hp2.below.cell (p := ⟨_, _, none⟩) hb] at c0 c1 c2 c3
                generalize kd k2 = vk at c0
                generalize ii k2 = vi at c1
                generalize ni k2 = vn at c2 hni
                generalize si k2 = vs at c3
                have hpn := fun o => hp2.next ((Below.refl _ _).alloc (Nat.le_refl _) o)
                have HPN := Lib.hid hpn
                clear hpn
                by_cases hiq : vi = q
                · have hb0 : (vi == (q : Int)) = true := by rw [hiq]; exact beq_self_eq_true _
                  clear hiq
                  go_wp2
                  go_roundw
                  case rel => exact ⟨k2 + 1, l2, by go_num, by omega, by omega, HQ2, HPN.out _⟩
                  case measure => simp [intOf]; omega
                · have hb0 : (vi == (q : Int)) = false := by rw [beq_eq_false_iff_ne]; exact hiq
                  have HNE := Lib.hid hiq
                  clear hiq
                  go_upto_block 4 with (fail)
                  go_cut [] (fun wx => ∃ l3, Hid (rcd l3 q = me) ∧ Page w wx B l3)
                  case first =>
                    by_cases h1 : vk = 1
                    · have hb1 : (vk == 1) = true := by rw [h1]; rfl
                      clear h1
                      go_wp2_with fail
                      refine (long_any vs vn _ hni).mono ?_
                      rintro e w' ⟨⟨t, ht, rfl⟩, rfl⟩
                      go_wp2_with fail
                      refine (page_add (HPN.out _) 504 (by decide) t).mono ?_
                      rintro e w3 ⟨rfl, p3⟩
                      have HQ3 : Hid (rcd (addL l2 t) q = me) := by show _ = _; rw [addL_other _ _ _ (by rw [HQ2.out]; exact HM0.out)]; exact HQ2.out
                      go_wp2_with fail
                      go_meet
                      case rel => exact ⟨_, HQ3, p3⟩
                    · by_cases h2 : vk = 2
                      · have hb1 : (vk == 1) = false := by rw [h2]; rfl
                        have hb2 : (vk == 2) = true := by rw [h2]; rfl
                        clear h1 h2
                        have HLD := Lib.hid (fun w => long_det vs vn w hni)
                        generalize longL vs vn = t at HLD
                        have HQ3 : Hid (rcd (if setB l2 vi t then l2.set vi.toNat t else l2) q = me) := (setL_other l2 vi t q HNE.out).trans HQ2.out
                        have HPS := Lib.hid (fun W (hW : Page w W B l2) => page_set hW 504 (by decide) vi t)
                        generalize (if setB l2 vi t then l2.set vi.toNat t else l2) = l3 at HQ3 HPS
                        generalize setB l2 vi t = sb at HPS
                        go_wp2_with fail
                        go_region_with (first | (go_at_call 9; refine (HLD.out _).mono ?_; rintro e w' ⟨rfl, rfl⟩) | (go_at_call 18; refine (HPS.out _ (HPN.out _).drew).mono ?_; rintro e w3 ⟨rfl, p3⟩))
                        all_goals
                          go_wp2_with fail
                          go_meet
                          case rel => exact ⟨_, HQ3, p3⟩
                      · by_cases h3 : vk = 3
                        · have hb1 : (vk == 1) = false := by rw [h3]; rfl
                          have hb2 : (vk == 2) = false := by rw [h3]; rfl
                          have hb3 : (vk == 3) = true := by rw [h3]; rfl
                          clear h1 h2 h3
                          go_wp2_with fail
                          refine (page_drop (HPN.out _) 504 vi).mono ?_
                          rintro e w3 ⟨rfl, p3⟩
                          have HQ3 : Hid (rcd (dropL l2 vi) q = me) := (dropL_other l2 vi q HNE.out).trans HQ2.out
                          go_wp2_with fail
                          go_meet
                          case rel => exact ⟨_, HQ3, p3⟩
                        · have hb1 : (vk == 1) = false := by rw [beq_eq_false_iff_ne]; exact h1
                          have hb2 : (vk == 2) = false := by rw [beq_eq_false_iff_ne]; exact h2
                          have hb3 : (vk == 3) = false := by rw [beq_eq_false_iff_ne]; exact h3
                          clear h1 h2 h3
                          go_wp2_with fail
                          go_meet
                          case rel => exact ⟨_, HQ2, HPN.out _⟩
                  case rest =>
                    obtain ⟨l3, HQ3, p3⟩ := hcut
                    have HG := page_get_yes p3 504 (by decide) q (rcd_in _ _ (by rw [HQ3.out]; exact HM0.out)) (by rw [HQ3.out]; exact HM0.out)
                    rw [HQ3.out] at HG
                    have HG2 := Lib.hid HG
                    clear HG
                    go_wp2_with fail
                    refine HG2.out.mono ?_
                    rintro e w4 ⟨rfl, p4⟩
                    go_wp2
                    go_roundw
                    case rel => exact ⟨k2 + 1, _, by go_num, by omega, by omega, HQ3, p4⟩
                    case measure => simp [intOf]; omega
              · have hp9 := hp2
                go_wp2_with fail
                refine (awake6_any _).mono ?_
                rintro e w4 ⟨rfl, b4⟩
                go_wp2
                go_ret
                exact ⟨rfl, (hp2.next b4).below⟩
            · have hp9 := hp2
              go_wp2_with fail
              refine (awake6_any _).mono ?_
              rintro e w4 ⟨rfl, b4⟩
              go_wp2
              go_ret
              exact ⟨rfl, (hp2.next b4).below⟩
    · have hp9 := hp
      have HADD := page_add hp 504 (by decide) me
      cases hok : addB l me
      · have HA2 := HADD
        rw [hok] at HA2
        have HA3 := Lib.hid HA2
        clear HADD HA2 hok
        go_wp2_with fail
        refine HA3.out.mono ?_
        rintro e w2 ⟨rfl, p2⟩
        go_wp2_with fail
        refine (awake6_any w2).mono ?_
        rintro e w3 ⟨rfl, b3⟩
        go_wp2
        go_ret
        exact ⟨rfl, (p2.next b3).below⟩
      · have hmn := addL_mine l me hok
        have HA2 := HADD
        rw [hok, hmn.2] at HA2
        have HQ := Lib.hid hmn.1
        have HA3 := Lib.hid HA2
        clear HADD HA2 hok hmn
        generalize hole l = q at HQ HA3
        generalize addL l me = l0 at HQ HA3
        go_wp2_with fail
        refine HA3.out.mono ?_
        rintro e w2 ⟨rfl, p2⟩
        go_wp2_with fail
        go_loopw [9] (fun i wr => ∃ (k : Nat) (l : List (List UInt8)), i = .int .i64 k ∧ k ≤ len ∧ k ≤ 40 ∧ Hid (rcd l q = me) ∧ Page w wr B l) (fun i _ => 40 - (intOf i).toNat)
        case atStart => exact ⟨0, l0, rfl, Nat.zero_le _, Nat.zero_le _, HQ, p2⟩
        case round =>
          obtain ⟨k2, l2, rfl, hk1, hk2, HQ2, hp2⟩ := hrel
          by_cases hkl : k2 < len
          · by_cases hk20 : k2 < 40
            · have c0 := ha.c0 k2 hkl
              have c1 := ha.c1 k2 hkl
              have c2 := ha.c2 k2 hkl
              have c3 := ha.c3 k2 hkl
              have hni := ha.n k2 hkl
              rw [← hp2.below.cell (p := ⟨_, _, none⟩) hb] at c0 c1 c2 c3
              generalize kd k2 = vk at c0
              generalize ii k2 = vi at c1
              generalize ni k2 = vn at c2 hni
              generalize si k2 = vs at c3
              have hpn := fun o => hp2.next ((Below.refl _ _).alloc (Nat.le_refl _) o)
              have HPN := Lib.hid hpn
              clear hpn
              by_cases hiq : vi = q
              · have hb0 : (vi == (q : Int)) = true := by rw [hiq]; exact beq_self_eq_true _
                clear hiq
                go_wp2
                go_roundw
                case rel => exact ⟨k2 + 1, l2, by go_num, by omega, by omega, HQ2, HPN.out _⟩
                case measure => simp [intOf]; omega
              · have hb0 : (vi == (q : Int)) = false := by rw [beq_eq_false_iff_ne]; exact hiq
                have HNE := Lib.hid hiq
                clear hiq
                go_upto_block 4 with (fail)
                go_cut [] (fun wx => ∃ l3, Hid (rcd l3 q = me) ∧ Page w wx B l3)
                case first =>
                  by_cases h1 : vk = 1
                  · have hb1 : (vk == 1) = true := by rw [h1]; rfl
                    clear h1
                    go_wp2_with fail
                    refine (long_any vs vn _ hni).mono ?_
                    rintro e w' ⟨⟨t, ht, rfl⟩, rfl⟩
                    go_wp2_with fail
                    refine (page_add (HPN.out _) 504 (by decide) t).mono ?_
                    rintro e w3 ⟨rfl, p3⟩
                    have HQ3 : Hid (rcd (addL l2 t) q = me) := by show _ = _; rw [addL_other _ _ _ (by rw [HQ2.out]; exact HM0.out)]; exact HQ2.out
                    go_wp2_with fail
                    go_meet
                    case rel => exact ⟨_, HQ3, p3⟩
                  · by_cases h2 : vk = 2
                    · have hb1 : (vk == 1) = false := by rw [h2]; rfl
                      have hb2 : (vk == 2) = true := by rw [h2]; rfl
                      clear h1 h2
                      have HLD := Lib.hid (fun w => long_det vs vn w hni)
                      generalize longL vs vn = t at HLD
                      have HQ3 : Hid (rcd (if setB l2 vi t then l2.set vi.toNat t else l2) q = me) := (setL_other l2 vi t q HNE.out).trans HQ2.out
                      have HPS := Lib.hid (fun W (hW : Page w W B l2) => page_set hW 504 (by decide) vi t)
                      generalize (if setB l2 vi t then l2.set vi.toNat t else l2) = l3 at HQ3 HPS
                      generalize setB l2 vi t = sb at HPS
                      go_wp2_with fail
                      go_region_with (first | (go_at_call 9; refine (HLD.out _).mono ?_; rintro e w' ⟨rfl, rfl⟩) | (go_at_call 18; refine (HPS.out _ (HPN.out _).drew).mono ?_; rintro e w3 ⟨rfl, p3⟩))
                      all_goals
                        go_wp2_with fail
                        go_meet
                        case rel => exact ⟨_, HQ3, p3⟩
                    · by_cases h3 : vk = 3
                      · have hb1 : (vk == 1) = false := by rw [h3]; rfl
                        have hb2 : (vk == 2) = false := by rw [h3]; rfl
                        have hb3 : (vk == 3) = true := by rw [h3]; rfl
                        clear h1 h2 h3
                        go_wp2_with fail
                        refine (page_drop (HPN.out _) 504 vi).mono ?_
                        rintro e w3 ⟨rfl, p3⟩
                        have HQ3 : Hid (rcd (dropL l2 vi) q = me) := (dropL_other l2 vi q HNE.out).trans HQ2.out
                        go_wp2_with fail
                        go_meet
                        case rel => exact ⟨_, HQ3, p3⟩
                      · have hb1 : (vk == 1) = false := by rw [beq_eq_false_iff_ne]; exact h1
                        have hb2 : (vk == 2) = false := by rw [beq_eq_false_iff_ne]; exact h2
                        have hb3 : (vk == 3) = false := by rw [beq_eq_false_iff_ne]; exact h3
                        clear h1 h2 h3
                        go_wp2_with fail
                        go_meet
                        case rel => exact ⟨_, HQ2, HPN.out _⟩
                case rest =>
                  obtain ⟨l3, HQ3, p3⟩ := hcut
                  have HG := page_get_yes p3 504 (by decide) q (rcd_in _ _ (by rw [HQ3.out]; exact HM0.out)) (by rw [HQ3.out]; exact HM0.out)
                  rw [HQ3.out] at HG
                  have HG2 := Lib.hid HG
                  clear HG
                  go_wp2_with fail
                  refine HG2.out.mono ?_
                  rintro e w4 ⟨rfl, p4⟩
                  go_wp2
                  go_roundw
                  case rel => exact ⟨k2 + 1, _, by go_num, by omega, by omega, HQ3, p4⟩
                  case measure => simp [intOf]; omega
            · have hp9 := hp2
              exfalso; omega
          · have hp9 := hp2
            go_wp2_with fail
            refine (awake6_any _).mono ?_
            rintro e w4 ⟨rfl, b4⟩
            go_wp2
            go_ret
            exact ⟨rfl, (hp2.next b4).below⟩
set_option maxHeartbeats 1000000 in
set_option maxRecDepth 100000 in
theorem stays_none (w : World) (ao : Option Addr) (cap : Nat) (mine : List UInt8) :
    Calls Try.prog 6 #[.slice ao 0 cap, .string (str mine)] w fun e w' => e = .returned (.bool true) ∧ Below w.heap.size w w' := by
  have hmk := make_page
  go_enter Try.func6, Try.ntmps6
  go_wp2_with fail
  refine (page_init w w (Below.refl _ _)).mono ?_
  rintro e w1 ⟨rfl, p1⟩
  obtain ⟨B, HB⟩ : ∃ B, Hid (w.heap.size = B) := ⟨_, rfl⟩
  rw [HB.out] at p1 ⊢
  clear hmk
  go_wp2_with fail
  refine (long_any mine 1 w1 (by decide)).mono ?_
  rintro e w' ⟨⟨me, hme, rfl⟩, rfl⟩
  by_cases hm0 : me = []
  · subst hm0
    go_wp2_with fail
    refine (awake6_any w1).mono ?_
    rintro e w2 ⟨rfl, b2⟩
    go_wp2
    go_ret
    exact ⟨rfl, (p1.next b2).below⟩
  have hmee : me.isEmpty = false := by cases me; exact absurd rfl hm0; rfl
  clear hm0
  go_wp2_with fail
  go_loopw [6] (fun i wr => i = .int .i64 0 ∧ ∃ (l : List (List UInt8)), Page w wr B l) (fun i _ => 10 - (intOf i).toNat)
  case atStart => exact ⟨rfl, [], p1⟩
  case round =>
    obtain ⟨rfl, l, hp⟩ := hrel
    have HADD := page_add hp 504 (by decide) me
    generalize addI l me = ai at HADD
    generalize addL l me = l2 at HADD
    cases hok : addB l me
    · rw [hok] at HADD
      have HA3 := Lib.hid HADD
      clear HADD hok
      go_wp2_with fail
      refine HA3.out.mono ?_
      rintro e w2 ⟨rfl, p2⟩
      go_wp2_with fail
      refine (awake6_any w2).mono ?_
      rintro e w3 ⟨rfl, b3⟩
      go_wp2
      go_ret
      exact ⟨rfl, (p2.next b3).below⟩
    · rw [hok] at HADD
      have HA3 := Lib.hid HADD
      clear HADD hok
      go_wp2_with fail
      refine HA3.out.mono ?_
      rintro e w2 ⟨rfl, p2⟩
      go_wp2_with fail
      go_loopw [9] (fun i wr => i = .int .i64 0 ∧ ∃ (l : List (List UInt8)), Page w wr B l) (fun i _ => 10 - (intOf i).toNat)
      case atStart => exact ⟨rfl, l2, p2⟩
      case round =>
        obtain ⟨rfl, l3, hp3⟩ := hrel
        go_wp2_with fail
        refine (awake6_any _).mono ?_
        rintro e w3 ⟨rfl, b3⟩
        go_wp2
        go_ret
        exact ⟨rfl, (hp3.next b3).below⟩
theorem stays_walk {H : Type} {enc : TypeId × Value → H} {base : Nat} {d : DataW H} {p : List MemPlace} (W : World) (v : Value) (hok : Value.okWide Try.prog W .any base 32 v) (h : DataW.Trod enc Try.prog W 0 (fun _ => true) true 32 v d p) (s : ByteArray) :
    Calls Try.prog 6 #[v, .string s] W fun e w' => e = .returned (.bool true) ∧ Below W.heap.size W w' := by
  rw [UK.str_self s]
  rcases acts_open W v hok h with ⟨ao, cap, rfl⟩ | ⟨b, off, len, cap, kd, ii, ni, si, rfl, ha, hb, hl⟩
  · exact stays_none W ao cap _
  · exact stays_some W b off len cap kd ii ni si ha hb _
end Go.Proofs.Ytdbnlcmnnoajoaa
