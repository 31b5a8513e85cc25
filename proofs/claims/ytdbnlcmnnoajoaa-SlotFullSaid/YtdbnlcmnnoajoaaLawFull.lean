/-
  SlotFull, walked: it returns true.
-/
import Derived.Test.YtdbnlcmnnoajoaaLawAwake6
import Derived.Test.YtdbnlcmnnoajoaaSlotF
namespace Go.Proofs.Ytdbnlcmnnoajoaa
open Go.RowKit
open UK (str BytesAt nth Only)
open Go.BigFrame
open SR (Recs rcd total)
theorem full_any (n : Nat) (w : World) (h1 : 1 ≤ n) (hn : n ≤ 496) :
    Calls Try.prog 3 #[.int .i64 n] w fun e w' => e = .returned (.bool true) ∧ Below w.heap.size w w' := by
  have hmk := make_page
  go_enter Try.func3, Try.ntmps3
  go_wp2_with fail
  refine (page_init w w (Below.refl _ _)).mono ?_
  rintro e w1 ⟨rfl, p1⟩
  obtain ⟨B, HB⟩ : ∃ B, Hid (w.heap.size = B) := ⟨_, rfl⟩
  rw [HB.out] at p1 ⊢
  clear hmk
  go_wp2_with fail
  refine (long_one 120 n w1 (by omega) h1).mono ?_
  rintro e w' ⟨rfl, rfl⟩
  have hsl : (List.replicate n (120 : UInt8)).length = n := List.length_replicate
  generalize List.replicate n (120 : UInt8) = s at hsl ⊢
  have hs0 : s ≠ [] := by intro h; rw [h] at hsl; simp at hsl; omega
  have HSL := Lib.hid hsl
  have HS0 := Lib.hid hs0
  clear hsl hs0
  go_wp2_with fail
  have d1 : decide ((n : Int) < 1) = false := by rw [decide_eq_false_iff_not]; omega
  have d2 : decide ((496 : Int) < (n : Int)) = false := by rw [decide_eq_false_iff_not]; omega
  simp only [d1, d2, Bool.or_false]
  go_loopw [5] (fun i wr => ∃ (k : Nat) (l : List (List UInt8)), i = .int .i64 k ∧ Hid ((n + 4) * k ≤ 500) ∧ Full s k l ∧ Page w wr B l) (fun i _ => 500 - (intOf i).toNat)
  case atStart => exact ⟨0, [], rfl, by show _ ≤ _; omega, Full.start s, p1⟩
  case round =>
    obtain ⟨k, l, rfl, HK, hF, hp⟩ := hrel
    have hk : 4 * k ≤ 500 := by
      have h2 := HK.out
      have : 4 * k ≤ (n + 4) * k := Nat.mul_le_mul_right _ (by omega)
      omega
    have hrm := hF.room HS0.out
    rw [HSL.out] at hrm
    have hmul : (n + 4) * (k + 1) = n * k + n + 4 * k + 4 := by rw [Nat.add_mul, Nat.mul_succ]; omega
    have hmul0 : (n + 4) * k = n * k + 4 * k := Nat.add_mul _ _ _
    have HHO := Lib.hid (hF.hole HS0.out)
    by_cases hge : (n : Int) ≤ room l
    · have HK2 : Hid ((n + 4) * (k + 1) ≤ 500) := by show _ ≤ _; omega
      have hF2 := hF.add HS0.out
      clear hrm hmul hmul0
      go_wp2_with fail
      refine (page_room hp 504).mono ?_
      rintro e w2 ⟨rfl, p2⟩
      go_wp2_with fail
      refine (page_add_yes p2 504 (by decide) s HS0.out (by rw [HSL.out]; exact hge)).mono ?_
      rintro e w3 ⟨rfl, p3⟩
      rw [HHO.out]
      go_wp2
      go_roundw
      case rel => exact ⟨k + 1, _, by go_num, HK2, hF2, p3⟩
      case measure => simp [intOf]; omega
    · have hlt : room l < s.length := by rw [HSL.out]; omega
      have HLT := Lib.hid hlt
      have HLV := Lib.hid (hF.live HS0.out)
      have hq : 500 / (n + 4) = k := Nat.div_eq_of_lt_le (by rw [Nat.mul_comm]; exact HK.out) (by rw [Nat.mul_comm]; omega)
      have hqe : (500 : Int) / ((n : Int) + 4) = (k : Int) := by rw [← hq]; simp
      have hS := Some.of_full hF HS0.out
      have hHI : Hid ((500 : Int) < ((s.length + 4) * (k + 1) : Nat)) := by show _ < _; rw [HSL.out]; omega
      clear hlt hrm hmul hmul0 hq
      go_wp2_with fail
      refine (page_room hp 504).mono ?_
      rintro e w2 ⟨rfl, p2⟩
      go_wp2_with fail
      refine (page_add_no p2 504 s (.inl HLT.out)).mono ?_
      rintro e w3 ⟨rfl, p3⟩
      go_wp2_with fail
      refine (page_live p3 504).mono ?_
      rintro e w4 ⟨rfl, p4⟩
      rw [HLV.out]
      go_wp2_with fail
      have d3 : decide ((n : Int) ≤ room l) = false := by rw [decide_eq_false_iff_not]; omega
      simp only [d3]
      clear hqe
      go_loopw [10, 11] (fun go i wr => ∃ (g i' m : Nat) (l' : List (List UInt8)), go = .int .i64 g ∧ i = .int .i64 i' ∧ i' ≤ k + 1 ∧ g ≤ k ∧ Hid (i' = 2 * g) ∧ Hid (m + g = k) ∧ Some s k m l' ∧ Hid (∀ j, i' ≤ j → j < k → rcd l' j = s) ∧ Page w wr B l') (fun _ i _ => k + 1 - (intOf i).toNat)
      case atStart => exact ⟨0, 0, k, l, rfl, rfl, by omega, by omega, rfl, rfl, hS, fun j _ hj => hF.all j hj, p4⟩
      case round =>
        obtain ⟨g, i', m, l', rfl, rfl, hik, hgk, HI, HM, hS2, HA, hp5⟩ := hrel
        by_cases hlt : i' < k
        · have hrs := HA.out i' (Nat.le_refl _) hlt
          have hil : i' < l'.length := by
            by_cases hc : i' < l'.length
            · exact hc
            · rw [SR.rcd_out _ _ (by omega)] at hrs; exact absurd hrs.symm HS0.out
          have hm0 : 0 < m := by have := HM.out; have := HI.out; omega
          obtain ⟨m, rfl⟩ : ∃ q, m = q + 1 := ⟨m - 1, by omega⟩
          have hS3 := hS2.drop hil hrs HS0.out
          have hgk2 : g + 1 ≤ k := by have := HM.out; omega
          have HA2 : Hid (∀ j, i' + 2 ≤ j → j < k → rcd (trim (l'.set i' [])) j = s) := fun j h1 h2 => by
            rw [rcd_trim, SR.rcd_set, if_neg (by omega)]; exact HA.out j (by omega) h2
          have HD : Hid (rcd l' i' ≠ []) := by show _ ≠ _; rw [hrs]; exact HS0.out
          have HI2 : Hid (i' + 2 = 2 * (g + 1)) := by show _ = _; have := HI.out; omega
          have HM2 : Hid (m + (g + 1) = k) := by show _ = _; have := HM.out; omega
          clear hrs
          go_wp2_with fail
          refine (page_drop_yes hp5 504 i' hil HD.out).mono ?_
          rintro e w6 ⟨rfl, p6⟩
          go_wp2
          go_roundw
          case rel => exact ⟨g + 1, i' + 2, m, _, by go_num, by go_num, by omega, by omega, HI2, HM2, hS3, HA2, p6⟩
          case measure => simp [intOf]; omega
        · go_wp2_with fail
          go_loopw [12] (fun i wr => ∃ (q : Nat) (l2 : List (List UInt8)), i = .int .i64 q ∧ q ≤ g ∧ Some s k (m + q) l2 ∧ Page w wr B l2) (fun i _ => g - (intOf i).toNat)
          case atStart => exact ⟨0, l', rfl, Nat.zero_le _, hS2, hp5⟩
          case round =>
            obtain ⟨q, l2, rfl, hqg, hS4, hp6⟩ := hrel
            by_cases hq : q < g
            · have hmq : m + q < k := by have := HM.out; omega
              have HR := Lib.hid (hS4.room_lo hmq (by rw [HSL.out]; exact HK.out))
              have hS5 := hS4.add hmq HS0.out
              go_wp2_with fail
              refine (page_add_yes hp6 504 (by decide) s HS0.out HR.out).mono ?_
              rintro e w7 ⟨rfl, p7⟩
              go_wp2
              go_roundw
              case rel => exact ⟨q + 1, _, by go_num, by omega, hS5, p7⟩
              case measure => simp [intOf]; omega
            · have hmq : m + q = k := by have := HM.out; omega
              rw [hmq] at hS4
              have HN := Lib.hid (hS4.room_hi hHI.out)
              have HL2 := Lib.hid hS4.many
              clear hmq
              go_wp2_with fail
              refine (page_add_no hp6 504 s (.inl HN.out)).mono ?_
              rintro e w7 ⟨rfl, p7⟩
              go_wp2_with fail
              refine (awake6_any w7).mono ?_
              rintro e w8 ⟨rfl, b8⟩
              have p8 := p7.next b8
              go_wp2_with fail
              refine (page_live p8 504).mono ?_
              rintro e w9 ⟨rfl, p9⟩
              rw [HL2.out]
              go_wp2_with fail
              refine (page_good p9 504 hS4.last).mono ?_
              rintro e w10 ⟨rfl, p10⟩
              go_wp2
              go_ret
              exact ⟨rfl, p10.below⟩
theorem full_walk (w : World) (n : Int) (hn : (Lit.int .i64 n).wf = true) :
    Calls Try.prog 3 #[.int .i64 n] w fun e w' => e = .returned (.bool true) ∧ Below w.heap.size w w' := by
  by_cases h : 1 ≤ n ∧ n ≤ 496
  · obtain ⟨n, rfl⟩ := Int.eq_ofNat_of_zero_le (by omega : 0 ≤ n)
    exact full_any n w (by omega) (by omega)
  · clear hn
    by_cases h1 : n < 1
    · clear h
      go_enter Try.func3, Try.ntmps3
      go_wp2_with fail
      refine (awake6_any w).mono ?_
      rintro e w8 ⟨rfl, b8⟩
      go_wp2
      go_ret
      exact ⟨rfl, b8⟩
    · have h2 : 496 < n := by omega
      clear h
      go_enter Try.func3, Try.ntmps3
      go_wp2_with fail
      refine (awake6_any w).mono ?_
      rintro e w8 ⟨rfl, b8⟩
      go_wp2
      go_ret
      exact ⟨rfl, b8⟩
end Go.Proofs.Ytdbnlcmnnoajoaa
