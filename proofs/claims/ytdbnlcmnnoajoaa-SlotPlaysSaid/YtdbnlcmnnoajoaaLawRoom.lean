/-
  SlotRoom, walked: it returns true.
-/
import Derived.Test.YtdbnlcmnnoajoaaLawAwake6
import Derived.Test.YtdbnlcmnnoajoaaActs
namespace Go.Proofs.Ytdbnlcmnnoajoaa
open Go.RowKit
open UK (str BytesAt nth Only)
open Go.BigFrame
open SR (Recs rcd total)
def Last (l : List (List UInt8)) : Prop := l = [] ∨ rcd l (l.length - 1) ≠ []
/-- what Add answers, whatever is added -/
def addI (l : List (List UInt8)) (s : List UInt8) : Int := if room l < s.length ∨ s = [] then 0 else (hole l : Nat)
def addB (l : List (List UInt8)) (s : List UInt8) : Bool := if room l < s.length ∨ s = [] then false else true
def addL (l : List (List UInt8)) (s : List UInt8) : List (List UInt8) := if room l < s.length ∨ s = [] then l else add l s
theorem page_add {W0 W : World} {B : Nat} {l : List (List UInt8)} (h : Page W0 W B l) (c : Nat) (hc : 504 ≤ c) (s : List UInt8) :
    Calls Try.prog 11 #[.slice (some ⟨B, 0, none⟩) 504 c, .string (str s)] W fun e w' => e = .returned (.tuple #[.int .i64 (addI l s), .bool (addB l s)]) ∧ Page W0 w' B (addL l s) := by
  unfold addI addB addL
  by_cases hn : room l < s.length ∨ s = []
  · simp only [if_pos hn]; exact page_add_no h c s hn
  · simp only [if_neg hn]
    exact page_add_yes h c hc s (fun e => hn (.inr e)) (Int.not_lt.1 (fun e => hn (.inl e)))
theorem addL_last (l : List (List UInt8)) (s : List UInt8) (h : Last l) : Last (addL l s) := by
  unfold addL
  by_cases hn : room l < s.length ∨ s = []
  · rw [if_pos hn]; exact h
  · rw [if_neg hn]; exact add_last l s (fun e => hn (.inr e)) h
def dropL (l : List (List UInt8)) (i : Int) : List (List UInt8) := if hasB l i then trim (l.set i.toNat []) else l
theorem page_drop {W0 W : World} {B : Nat} {l : List (List UInt8)} (h : Page W0 W B l) (c : Nat) (i : Int) :
    Calls Try.prog 13 #[.slice (some ⟨B, 0, none⟩) 504 c, .int .i64 i] W fun e w' => e = .returned (.bool (hasB l i)) ∧ Page W0 w' B (dropL l i) := by
  unfold dropL
  cases hb : hasB l i
  · simp only [Bool.false_eq_true, if_false]; exact page_drop_no h c i hb
  · obtain ⟨k, rfl, hk, h0⟩ := rcd_nat l i hb
    simp only [if_true, Int.toNat_natCast]; exact page_drop_yes h c k hk h0
theorem dropL_last (l : List (List UInt8)) (i : Int) (h : Last l) : Last (dropL l i) := by
  unfold dropL
  cases hasB l i
  · exact h
  · exact trim_last _
theorem room_le (l : List (List UInt8)) : room l ≤ 496 := by
  unfold room
  by_cases h : hole l = l.length
  · rw [if_pos h]; omega
  · rw [if_neg h]
    have hle := hole_le l
    omega
theorem room_after (l : List (List UInt8)) (s : List UInt8) (h : room l = s.length) : room (add l s) ≤ 0 := by
  have ht := total_add l s
  have hle := hole_le l
  by_cases hh : hole l < l.length
  · have hl : (add l s).length = l.length := by rw [add_hole l s hh]; simp
    rw [room_hole l hh] at h
    unfold room
    rw [hl, ht]
    split <;> omega
  · have hl : (add l s).length = l.length + 1 := by rw [add_end l s (by omega)]; simp
    rw [room_end l (by omega)] at h
    unfold room
    rw [hl, ht]
    split <;> omega
set_option maxHeartbeats 1000000 in
set_option maxRecDepth 100000 in
theorem room_some (w : World) (b off len cap : Nat) (kd ii ni : Nat → Int) (si : Nat → List UInt8) (ha : ActsAt w b off len kd ii ni si) (hb : b < w.heap.size) (_hl : len ≤ maxLen) :
    Calls Try.prog 4 #[.slice (some ⟨b, off, none⟩) len cap] w fun e w' => e = .returned (.bool true) ∧ Below w.heap.size w w' := by
  have hmk := make_page

  go_enter Try.func4, Try.ntmps4
  go_wp2_with fail
  refine (page_init w w (Below.refl _ _)).mono ?_
  rintro e w1 ⟨rfl, p1⟩
  obtain ⟨B, HB⟩ : ∃ B, Hid (w.heap.size = B) := ⟨_, rfl⟩
  rw [HB.out] at p1 ⊢
  clear hmk
  go_wp2_with fail
  go_loopw [4] (fun i wr => ∃ (k : Nat) (l : List (List UInt8)), i = .int .i64 k ∧ k ≤ len ∧ k ≤ 20 ∧ Page w wr B l) (fun i _ => 20 - (intOf i).toNat)
  case atStart => exact ⟨0, [], rfl, Nat.zero_le _, Nat.zero_le _, p1⟩
  case round =>
    obtain ⟨k, l, rfl, hk1, hk2, hp⟩ := hrel
    by_cases hkl : k < len
    · by_cases hk20 : k < 20
      · have c0 := ha.c0 k hkl
        have c1 := ha.c1 k hkl
        have c2 := ha.c2 k hkl
        have c3 := ha.c3 k hkl
        have hni := ha.n k hkl
        rw [← hp.below.cell (p := ⟨_, _, none⟩) hb] at c0 c1 c2 c3
        generalize kd k = vk at c0
        generalize ii k = vi at c1
        generalize ni k = vn at c2 hni
        generalize si k = vs at c3
        have hpn := fun o => hp.next ((Below.refl _ _).alloc (Nat.le_refl _) o)
        have HPN := Lib.hid hpn
        clear hpn
        by_cases h1 : vk = 1
        · have hb1 : (vk == 1) = true := by rw [h1]; rfl
          clear h1
          go_wp2_with fail
          refine (long_any vs vn _ hni).mono ?_
          rintro e w' ⟨⟨t, ht, rfl⟩, rfl⟩
          go_wp2_with fail
          refine (page_add (HPN.out _) 504 (by decide) t).mono ?_
          rintro e w3 ⟨rfl, p3⟩
          go_wp2
          go_roundw
          case rel => exact ⟨k + 1, _, by go_num, by omega, by omega, p3⟩
          case measure => simp [intOf]; omega
        · by_cases h3 : vk = 3
          · have hb1 : (vk == 1) = false := by rw [h3]; rfl
            have hb3 : (vk == 3) = true := by rw [h3]; rfl
            clear h1 h3
            go_wp2_with fail
            refine (page_drop (HPN.out _) 504 vi).mono ?_
            rintro e w3 ⟨rfl, p3⟩
            go_wp2
            go_roundw
            case rel => exact ⟨k + 1, _, by go_num, by omega, by omega, p3⟩
            case measure => simp [intOf]; omega
          · have hb1 : (vk == 1) = false := by rw [beq_eq_false_iff_ne]; exact h1
            have hb3 : (vk == 3) = false := by rw [beq_eq_false_iff_ne]; exact h3
            clear h1 h3
            go_wp2
            go_roundw
            case rel => exact ⟨k + 1, _, by go_num, by omega, by omega, HPN.out _⟩
            case measure => simp [intOf]; omega
      · have hp2 := hp
        have hR := room_le l
        by_cases hn1 : room l < 1
        · have HN1 := Lib.hid hn1
          go_wp2_with fail
          refine (page_room hp 504).mono ?_
          rintro e w2 ⟨rfl, p2⟩
          go_wp2_with fail
          refine (page_add_no p2 504 [120] (.inl (by simpa using HN1.out))).mono ?_
          rintro e w3 ⟨rfl, p3⟩
          go_wp2_with fail
          refine (awake6_any w3).mono ?_
          rintro e w4 ⟨rfl, b4⟩
          go_wp2
          go_ret
          exact ⟨rfl, (p3.next b4).below⟩
        · obtain ⟨m, hm⟩ := Int.eq_ofNat_of_zero_le (by omega : 0 ≤ room l)
          have hm1 : 1 ≤ m := by omega
          have hm2 : m ≤ 496 := by omega
          have HRM := Lib.hid hm
          have hpr := page_room hp 504
          rw [hm] at hpr
          clear hn1 hm hR
          go_wp2_with fail
          refine hpr.mono ?_
          rintro e w2 ⟨rfl, p2⟩
          have hlo := long_one 121 (m + 1) w2 (by omega) (by omega)
          have hyl : (List.replicate (m + 1) (121 : UInt8)).length = m + 1 := List.length_replicate
          have hzl : (List.replicate m (122 : UInt8)).length = m := List.length_replicate
          have hlz := fun w => long_one 122 m w (by omega) hm1
          generalize List.replicate (m + 1) (121 : UInt8) = y at hlo hyl
          generalize List.replicate m (122 : UInt8) = z at hzl hlz
          have HY : Hid (room l < y.length) := by show _ < _; rw [HRM.out, hyl]; omega
          have hz0 : z ≠ [] := by intro h; rw [h] at hzl; simp at hzl; omega
          have HZ : Hid ((z.length : Int) ≤ room l) := by show _ ≤ _; rw [HRM.out, hzl] <;> exact Int.le_refl _
          have HZ2 : Hid (room (add l z) ≤ 0) := room_after l z (by rw [HRM.out, hzl] <;> rfl)
          have HZ0 := Lib.hid hz0
          have HLZ := Lib.hid hlz
          have HR2 : Hid (rcd (add l z) (hole l) = z) := by show _ = _; rw [rcd_add, if_pos rfl]
          have HH : Hid (hole l < (add l z).length) := by
            show _ < _
            by_cases hc : hole l < (add l z).length
            · exact hc
            · have := HR2.out; rw [SR.rcd_out _ _ (by omega)] at this; exact absurd this.symm HZ0.out
          have hlo2 : Calls Try.prog 9 #[.string (str [121]), .int .i64 ((m : Int) + 1)] w2 fun e w' => e = .returned (.string (str y)) ∧ w2 = w' := by
            have := hlo
            rwa [show ((m + 1 : Nat) : Int) = (m : Int) + 1 by omega] at this
          have HLO := Lib.hid hlo2
          clear hz0 hzl hyl hlz hlo hlo2 hpr
          go_wp2_with fail
          refine HLO.out.mono ?_
          rintro e w' ⟨rfl, rfl⟩
          go_wp2_with fail
          refine (page_add_no p2 504 y (.inl HY.out)).mono ?_
          rintro e w3 ⟨rfl, p3⟩
          go_wp2_with fail
          refine (HLZ.out w3).mono ?_
          rintro e w' ⟨rfl, rfl⟩
          go_wp2_with fail
          refine (page_add_yes p3 504 (by decide) z HZ0.out HZ.out).mono ?_
          rintro e w4 ⟨rfl, p4⟩
          go_wp2_with fail
          refine (page_get_yes p4 504 (by decide) (hole l) HH.out (by rw [HR2.out]; exact HZ0.out)).mono ?_
          rintro e w5 ⟨rfl, p5⟩
          rw [HR2.out]
          go_wp2_with fail
          refine (awake6_any w5).mono ?_
          rintro e w6 ⟨rfl, b6⟩
          have p6 := p5.next b6
          go_wp2_with fail
          refine (HLZ.out w6).mono ?_
          rintro e w' ⟨rfl, rfl⟩
          go_wp2_with fail
          refine (page_room p6 504).mono ?_
          rintro e w7 ⟨rfl, p7⟩
          have hle0 := HZ2.out
          go_wp2
          go_ret
          exact ⟨by simp, p7.below⟩
    · have hp2 := hp
      have hR := room_le l
      by_cases hn1 : room l < 1
      · have HN1 := Lib.hid hn1
        go_wp2_with fail
        refine (page_room hp 504).mono ?_
        rintro e w2 ⟨rfl, p2⟩
        go_wp2_with fail
        refine (page_add_no p2 504 [120] (.inl (by simpa using HN1.out))).mono ?_
        rintro e w3 ⟨rfl, p3⟩
        go_wp2_with fail
        refine (awake6_any w3).mono ?_
        rintro e w4 ⟨rfl, b4⟩
        go_wp2
        go_ret
        exact ⟨rfl, (p3.next b4).below⟩
      · obtain ⟨m, hm⟩ := Int.eq_ofNat_of_zero_le (by omega : 0 ≤ room l)
        have hm1 : 1 ≤ m := by omega
        have hm2 : m ≤ 496 := by omega
        have HRM := Lib.hid hm
        have hpr := page_room hp 504
        rw [hm] at hpr
        clear hn1 hm hR
        go_wp2_with fail
        refine hpr.mono ?_
        rintro e w2 ⟨rfl, p2⟩
        have hlo := long_one 121 (m + 1) w2 (by omega) (by omega)
        have hyl : (List.replicate (m + 1) (121 : UInt8)).length = m + 1 := List.length_replicate
        have hzl : (List.replicate m (122 : UInt8)).length = m := List.length_replicate
        have hlz := fun w => long_one 122 m w (by omega) hm1
        generalize List.replicate (m + 1) (121 : UInt8) = y at hlo hyl
        generalize List.replicate m (122 : UInt8) = z at hzl hlz
        have HY : Hid (room l < y.length) := by show _ < _; rw [HRM.out, hyl]; omega
        have hz0 : z ≠ [] := by intro h; rw [h] at hzl; simp at hzl; omega
        have HZ : Hid ((z.length : Int) ≤ room l) := by show _ ≤ _; rw [HRM.out, hzl] <;> exact Int.le_refl _
        have HZ2 : Hid (room (add l z) ≤ 0) := room_after l z (by rw [HRM.out, hzl] <;> rfl)
        have HZ0 := Lib.hid hz0
        have HLZ := Lib.hid hlz
        have HR2 : Hid (rcd (add l z) (hole l) = z) := by show _ = _; rw [rcd_add, if_pos rfl]
        have HH : Hid (hole l < (add l z).length) := by
          show _ < _
          by_cases hc : hole l < (add l z).length
          · exact hc
          · have := HR2.out; rw [SR.rcd_out _ _ (by omega)] at this; exact absurd this.symm HZ0.out
        have hlo2 : Calls Try.prog 9 #[.string (str [121]), .int .i64 ((m : Int) + 1)] w2 fun e w' => e = .returned (.string (str y)) ∧ w2 = w' := by
          have := hlo
          rwa [show ((m + 1 : Nat) : Int) = (m : Int) + 1 by omega] at this
        have HLO := Lib.hid hlo2
        clear hz0 hzl hyl hlz hlo hlo2 hpr
        go_wp2_with fail
        refine HLO.out.mono ?_
        rintro e w' ⟨rfl, rfl⟩
        go_wp2_with fail
        refine (page_add_no p2 504 y (.inl HY.out)).mono ?_
        rintro e w3 ⟨rfl, p3⟩
        go_wp2_with fail
        refine (HLZ.out w3).mono ?_
        rintro e w' ⟨rfl, rfl⟩
        go_wp2_with fail
        refine (page_add_yes p3 504 (by decide) z HZ0.out HZ.out).mono ?_
        rintro e w4 ⟨rfl, p4⟩
        go_wp2_with fail
        refine (page_get_yes p4 504 (by decide) (hole l) HH.out (by rw [HR2.out]; exact HZ0.out)).mono ?_
        rintro e w5 ⟨rfl, p5⟩
        rw [HR2.out]
        go_wp2_with fail
        refine (awake6_any w5).mono ?_
        rintro e w6 ⟨rfl, b6⟩
        have p6 := p5.next b6
        go_wp2_with fail
        refine (HLZ.out w6).mono ?_
        rintro e w' ⟨rfl, rfl⟩
        go_wp2_with fail
        refine (page_room p6 504).mono ?_
        rintro e w7 ⟨rfl, p7⟩
        have hle0 := HZ2.out
        go_wp2
        go_ret
        exact ⟨by simp, p7.below⟩
set_option maxHeartbeats 1000000 in
set_option maxRecDepth 100000 in
theorem room_none (w : World) (ao : Option Addr) (cap : Nat) :
    Calls Try.prog 4 #[.slice ao 0 cap] w fun e w' => e = .returned (.bool true) ∧ Below w.heap.size w w' := by
  have hmk := make_page
  go_enter Try.func4, Try.ntmps4
  go_wp2_with fail
  refine (page_init w w (Below.refl _ _)).mono ?_
  rintro e w1 ⟨rfl, p1⟩
  obtain ⟨B, HB⟩ : ∃ B, Hid (w.heap.size = B) := ⟨_, rfl⟩
  rw [HB.out] at p1 ⊢
  clear hmk
  go_wp2_with fail
  go_loopw [4] (fun i wr => i = .int .i64 0 ∧ ∃ (l : List (List UInt8)), Page w wr B l) (fun i _ => 20 - (intOf i).toNat)
  case atStart => exact ⟨rfl, [], p1⟩
  case round =>
    obtain ⟨rfl, l, hp⟩ := hrel
    have hR := room_le l
    by_cases hn1 : room l < 1
    · have HN1 := Lib.hid hn1
      go_wp2_with fail
      refine (page_room hp 504).mono ?_
      rintro e w2 ⟨rfl, p2⟩
      go_wp2_with fail
      refine (page_add_no p2 504 [120] (.inl (by simpa using HN1.out))).mono ?_
      rintro e w3 ⟨rfl, p3⟩
      go_wp2_with fail
      refine (awake6_any w3).mono ?_
      rintro e w4 ⟨rfl, b4⟩
      go_wp2
      go_ret
      exact ⟨rfl, (p3.next b4).below⟩
    · obtain ⟨m, hm⟩ := Int.eq_ofNat_of_zero_le (by omega : 0 ≤ room l)
      have hm1 : 1 ≤ m := by omega
      have hm2 : m ≤ 496 := by omega
      have HRM := Lib.hid hm
      have hpr := page_room hp 504
      rw [hm] at hpr
      clear hn1 hm hR
      go_wp2_with fail
      refine hpr.mono ?_
      rintro e w2 ⟨rfl, p2⟩
      have hlo := long_one 121 (m + 1) w2 (by omega) (by omega)
      have hyl : (List.replicate (m + 1) (121 : UInt8)).length = m + 1 := List.length_replicate
      have hzl : (List.replicate m (122 : UInt8)).length = m := List.length_replicate
      have hlz := fun w => long_one 122 m w (by omega) hm1
      generalize List.replicate (m + 1) (121 : UInt8) = y at hlo hyl
      generalize List.replicate m (122 : UInt8) = z at hzl hlz
      have HY : Hid (room l < y.length) := by show _ < _; rw [HRM.out, hyl]; omega
      have hz0 : z ≠ [] := by intro h; rw [h] at hzl; simp at hzl; omega
      have HZ : Hid ((z.length : Int) ≤ room l) := by show _ ≤ _; rw [HRM.out, hzl] <;> exact Int.le_refl _
      have HZ2 : Hid (room (add l z) ≤ 0) := room_after l z (by rw [HRM.out, hzl] <;> rfl)
      have HZ0 := Lib.hid hz0
      have HLZ := Lib.hid hlz
      have HR2 : Hid (rcd (add l z) (hole l) = z) := by show _ = _; rw [rcd_add, if_pos rfl]
      have HH : Hid (hole l < (add l z).length) := by
        show _ < _
        by_cases hc : hole l < (add l z).length
        · exact hc
        · have := HR2.out; rw [SR.rcd_out _ _ (by omega)] at this; exact absurd this.symm HZ0.out
      have hlo2 : Calls Try.prog 9 #[.string (str [121]), .int .i64 ((m : Int) + 1)] w2 fun e w' => e = .returned (.string (str y)) ∧ w2 = w' := by
        have := hlo
        rwa [show ((m + 1 : Nat) : Int) = (m : Int) + 1 by omega] at this
      have HLO := Lib.hid hlo2
      clear hz0 hzl hyl hlz hlo hlo2 hpr
      go_wp2_with fail
      refine HLO.out.mono ?_
      rintro e w' ⟨rfl, rfl⟩
      go_wp2_with fail
      refine (page_add_no p2 504 y (.inl HY.out)).mono ?_
      rintro e w3 ⟨rfl, p3⟩
      go_wp2_with fail
      refine (HLZ.out w3).mono ?_
      rintro e w' ⟨rfl, rfl⟩
      go_wp2_with fail
      refine (page_add_yes p3 504 (by decide) z HZ0.out HZ.out).mono ?_
      rintro e w4 ⟨rfl, p4⟩
      go_wp2_with fail
      refine (page_get_yes p4 504 (by decide) (hole l) HH.out (by rw [HR2.out]; exact HZ0.out)).mono ?_
      rintro e w5 ⟨rfl, p5⟩
      rw [HR2.out]
      go_wp2_with fail
      refine (awake6_any w5).mono ?_
      rintro e w6 ⟨rfl, b6⟩
      have p6 := p5.next b6
      go_wp2_with fail
      refine (HLZ.out w6).mono ?_
      rintro e w' ⟨rfl, rfl⟩
      go_wp2_with fail
      refine (page_room p6 504).mono ?_
      rintro e w7 ⟨rfl, p7⟩
      have hle0 := HZ2.out
      go_wp2
      go_ret
      exact ⟨by simp, p7.below⟩
theorem room_walk {H : Type} {enc : TypeId × Value → H} {base : Nat} {d : DataW H} {p : List MemPlace} (W : World) (v : Value) (hok : Value.okWide Try.prog W .any base 32 v) (h : DataW.Trod enc Try.prog W 0 (fun _ => true) true 32 v d p) :
    Calls Try.prog 4 #[v] W fun e w' => e = .returned (.bool true) ∧ Below W.heap.size W w' := by
  rcases acts_open W v hok h with ⟨ao, cap, rfl⟩ | ⟨b, off, len, cap, kd, ii, ni, si, rfl, ha, hb, hl⟩
  · exact room_none W ao cap
  · exact room_some W b off len cap kd ii ni si ha hb hl
end Go.Proofs.Ytdbnlcmnnoajoaa
