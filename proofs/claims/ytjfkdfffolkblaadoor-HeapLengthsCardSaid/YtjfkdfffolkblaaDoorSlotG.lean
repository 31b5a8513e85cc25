/-
  slot.Good, walked: it answers true of bytes that have records, the last slot one.
-/
import Derived.Test.YtjfkdfffolkblaaDoorSlotA
import Derived.Test.YtjfkdfffolkblaaDoorUBools
namespace Go.Proofs.YtjfkdfffolkblaaDoor.SL
open Go.RowKit
open UK (str BytesAt nth Only)
open Go.BigFrame
open SR (Recs rcd total)
def noneSeen : List Bool := List.replicate 504 false
theorem zero_seen (w : World) : (zeroValue 166).run Tryd.prog w = .ok (.agg (UK.bl noneSeen)) w := by kernel_rfl
/-- what is seen has been met -/
def Met (x : List UInt8) (l : List (List UInt8)) (k : Nat) (v : List Bool) : Prop := ∀ j, UK.tr v j = true → ∃ i, i < k ∧ i < l.length ∧ rcd l i ≠ [] ∧ SR.pos x i ≤ j ∧ j < SR.pos x i + (rcd l i).length
set_option maxRecDepth 100000 in
theorem good_any (B : Nat) (x : List UInt8) (l : List (List UInt8)) (c : Nat) (W : World) (h : BytesAt W B x) (r : Recs x l) (hlast : l = [] ∨ rcd l (l.length - 1) ≠ []) :
    Calls Tryd.prog 98 #[.slice (some ⟨B, 0, none⟩) 504 c] W fun e w' => e = .returned (.bool true) ∧ Below W.heap.size W w' := by
  have HZ := zero_seen
  have hf := r.few
  have hl1 := r.low1
  have hl2 := r.low2
  go_enter Tryd.func98, Tryd.ntmps98
  go_wp2_with fail
  refine (len_rec B x l c W h r).mono ?_
  rintro e w' ⟨rfl, k1, rfl⟩
  have b1 : Below W.heap.size W (W.drewN k1) := UK.belowN (Below.refl _ _) k1
  generalize W.drewN k1 = w1 at b1 ⊢
  go_wp2_with fail
  refine (low_any B x c _ (h.below b1 h.lt) r.size).mono ?_
  rintro e w' ⟨rfl, k2, rfl⟩
  have b2 := UK.belowN b1 k2
  generalize w1.drewN k2 = w2 at b2 ⊢
  go_wp2_with fail
  refine (low_any B x c _ (h.below b2 h.lt) r.size).mono ?_
  rintro e w' ⟨rfl, k3, rfl⟩
  have b3 := UK.belowN b2 k3
  generalize w2.drewN k3 = w3 at b3 ⊢
  have hs3 := b3.size
  have hv := UK.bools_new w3 504 166 (UK.bl noneSeen) rfl
  have b4 := b3.alloc hs3 (.cells (UK.bl noneSeen) 166)
  have HV := Lib.hid hv
  clear hv
  go_wp2_with fail
  have hv2 := HV.out
  generalize w3.alloc (.cells (UK.bl noneSeen) 166) = w4 at b4 hv2 ⊢
  obtain ⟨S, hS, HS⟩ : ∃ S, W.heap.size ≤ S ∧ Hid (w3.heap.size = S) := ⟨_, hs3, rfl⟩
  rw [HS.out] at hv2 ⊢
  have HMet : Met x l 0 (List.replicate 504 false) := fun j hj => by rw [UK.tr_replicate] at hj; cases hj
  have hvl : (List.replicate 504 false).length = 504 := List.length_replicate
  have HVL := Lib.hid hvl
  generalize List.replicate 504 false = v0 at hv2 HMet HVL
  clear HV hs3 b3 hvl
  refine (len_rec B x l c _ (h.below b4 h.lt) r).mono ?_
  rintro e w' ⟨rfl, k4, rfl⟩
  have b5 := UK.belowN b4 k4
  have hv3 := hv2.drewN k4
  generalize w4.drewN k4 = w5 at b5 hv3 ⊢
  go_wp2_with fail
  have d1 : decide ((SR.low x : Int) < 4 + 4 * (l.length : Int)) = false := by rw [decide_eq_false_iff_not]; omega
  have d2 : decide ((504 : Int) < (SR.low x : Int)) = false := by rw [decide_eq_false_iff_not]; omega
  simp only [d1, d2, Bool.or_false]
  have hsz := r.size
  go_loopw [27] (fun i wr => ∃ (k : Nat) (v : List Bool), k ≤ l.length ∧ i = .int .i64 k ∧ Hid (v.length = 504) ∧ Met x l k v ∧ UK.BoolsAt wr S v ∧ Below W.heap.size W wr) (fun i _ => l.length - (intOf i).toNat)
  case atStart => exact ⟨0, v0, Nat.zero_le _, rfl, HVL, HMet, hv3, b5⟩
  case round =>
    obtain ⟨k, v, hk, rfl, HVL2, hmet, hbv, hb⟩ := hrel
    have hba := h.below hb h.lt
    by_cases hlt : k < l.length
    · by_cases h0 : rcd l k = []
      · have hkl : k + 1 < l.length := by
          rcases hlast with hn | hn
          · rw [hn] at hlt; simp at hlt
          · by_cases he : k + 1 = l.length
            · rw [← he, Nat.add_sub_cancel] at hn; exact absurd h0 hn
            · omega
        have hkb : ((k : Int) == (l.length : Int) - 1) = false := by rw [beq_eq_false_iff_ne]; omega
        have HM2 : Met x l (k + 1) v := fun j hj => by
          obtain ⟨i, h1, h2⟩ := hmet j hj
          exact ⟨i, by omega, h2⟩
        have HSL := Lib.hid (slot_hole B x l c k _ hba r hlt h0)
        clear h0
        go_wp2_with fail
        refine HSL.out.mono ?_
        rintro e w' ⟨rfl, k1, rfl⟩
        have hb6 := UK.belowN hb k1
        have hv6 := hbv.drewN k1
        generalize World.drewN _ k1 = w6 at hb6 hv6 ⊢
        go_wp2_with fail
        refine (len_rec B x l c _ (h.below hb6 h.lt) r).mono ?_
        rintro e w' ⟨rfl, k2, rfl⟩
        go_wp2
        go_roundw
        case rel => exact ⟨k + 1, v, by omega, by go_num, HVL2, HM2, hv6.drewN _, UK.belowN hb6 _⟩
        case measure => simp [intOf]; omega
      · have ht := r.there k hlt h0
        have hn0 : 0 < (rcd l k).length := List.length_pos_iff.2 h0
        have hp0 : 0 < SR.pos x k := by omega
        have hpl : SR.low x ≤ SR.pos x k := ht.1
        have hpe : SR.pos x k + (rcd l k).length ≤ 504 := ht.2.1
        have hb1 : ((SR.pos x k : Int) == 0) = false := by rw [beq_eq_false_iff_ne]; omega
        have hb2 : (((rcd l k).length : Int) == 0) = false := by rw [beq_eq_false_iff_ne]; omega
        have HSL := Lib.hid (slot_there B x l c k _ hba r hlt)
        have HAP : Hid (∀ j, SR.pos x k ≤ j → j < SR.pos x k + (rcd l k).length → UK.tr v j = false) := fun j h1 h2 => by
          cases hj : UK.tr v j
          · rfl
          · obtain ⟨i, hi1, hi2, hi3, hi4, hi5⟩ := hmet j hj
            have := r.apart i k hi2 hlt (by omega) hi3 h0
            omega
        have HMK : Hid (∀ v' : List Bool, (∀ j, UK.tr v' j = true → UK.tr v j = true ∨ (SR.pos x k ≤ j ∧ j < SR.pos x k + (rcd l k).length)) → Met x l (k + 1) v') := fun v' hv' j hj => by
          rcases hv' j hj with h1 | h1
          · obtain ⟨i, hi1, hi2⟩ := hmet j h1
            exact ⟨i, by omega, hi2⟩
          · exact ⟨k, by omega, hlt, h0, h1⟩
        clear h0 ht hmet
        generalize (rcd l k).length = n at *
        generalize SR.pos x k = p at *
        go_wp2_with fail
        refine HSL.out.mono ?_
        rintro e w' ⟨rfl, k1, rfl⟩
        have hb6 := UK.belowN hb k1
        have hv6 := hbv.drewN k1
        generalize World.drewN _ k1 = w6 at hb6 hv6 ⊢
        go_wp2_with fail
        refine (low_any B x c _ (h.below hb6 h.lt) r.size).mono ?_
        rintro e w' ⟨rfl, k2, rfl⟩
        have hb7 := UK.belowN hb6 k2
        have hv7 := hv6.drewN k2
        generalize w6.drewN k2 = w7 at hb7 hv7 ⊢
        go_wp2_with fail
        have d3 : decide (p < SR.low x) = false := by rw [decide_eq_false_iff_not]; omega
        have d4 : decide ((504 : Int) < (p : Int) + (n : Int)) = false := by rw [decide_eq_false_iff_not]; omega
        simp only [d3, d4, Bool.or_false]
        go_loopw [7] (fun i wr => ∃ (q : Nat) (v' : List Bool), p ≤ q ∧ q ≤ p + n ∧ i = .int .i64 q ∧ Hid (v'.length = 504) ∧ Hid (∀ j, UK.tr v' j = true → UK.tr v j = true ∨ (p ≤ j ∧ j < q)) ∧ UK.BoolsAt wr S v' ∧ Below W.heap.size W wr) (fun i _ => p + n - (intOf i).toNat)
        case atStart => exact ⟨p, v, Nat.le_refl _, by omega, rfl, HVL2, fun j hj => .inl hj, hv7, hb7⟩
        case round =>
          obtain ⟨q, v', hpq, hqn, rfl, HL3, HV3, hbv3, hb8⟩ := hrel
          by_cases hqlt : q < p + n
          · have hcell := hbv3.cell (i := q) (by rw [HL3.out]; omega)
            have hff : UK.tr v' q = false := by
              cases hq : UK.tr v' q
              · rfl
              · rcases HV3.out q hq with h1 | h1
                · rw [HAP.out q hpq hqlt] at h1; cases h1
                · omega
            rw [hff] at hcell
            have hfree := hbv3.free q
            have HS3 := Lib.hid (hbv3.set q true)
            have HL4 : Hid ((v'.set q true).length = 504) := by show _ = _; rw [List.length_set]; exact HL3.out
            have HV4 : Hid (∀ j, UK.tr (v'.set q true) j = true → UK.tr v j = true ∨ (p ≤ j ∧ j < q + 1)) := fun j hj => by
              rw [UK.tr_set] at hj
              by_cases hjq : q = j ∧ q < v'.length
              · exact .inr (by omega)
              · rw [if_neg hjq] at hj
                rcases HV3.out j hj with h1 | h1
                · exact .inl h1
                · exact .inr (by omega)
            have hq5 : (q : Int) < 504 := by omega
            have hqi : (q : Int) < (p : Int) + n := by omega
            clear hff
            go_wp2
            go_roundw
            case rel => exact ⟨q + 1, v'.set q true, by omega, by omega, by go_num, HL4, HV4, HS3.out, hb8.setCell hS _⟩
            case measure => simp [intOf]; omega
          · have hqe : q = p + n := by omega
            have HM3 := HMK.out v' (fun j hj => by
              rcases HV3.out j hj with h1 | h1
              · exact .inl h1
              · exact .inr (by omega))
            have hqi : ¬ (q : Int) < (p : Int) + n := by omega
            clear hqe
            go_wp2
            go_roundw
            case rel => exact ⟨k + 1, v', by omega, by go_num, HL3, HM3, hbv3, hb8⟩
            case measure => simp [intOf]; omega
    · have hkl : k = l.length := by omega
      go_wp2_with fail
      refine (len_rec B x l c _ hba r).mono ?_
      rintro e w' ⟨rfl, k1, rfl⟩
      by_cases hl0 : l = []
      · have hlow := r.none hl0
        have hll : l.length = 0 := by rw [hl0]; rfl
        have HLOW := Lib.hid hlow
        rw [hll]
        clear hlow hl0
        have hl5 := low_any B x c _ (hba.drewN k1) r.size
        rw [HLOW.out] at hl5
        go_wp2_with fail
        refine hl5.mono ?_
        rintro e w' ⟨rfl, k2, rfl⟩
        go_wp2
        go_ret
        exact ⟨rfl, UK.belowN hb _⟩
      · have hll : 0 < l.length := List.length_pos_iff.2 hl0
        clear hl0
        go_wp2
        go_ret
        exact ⟨rfl, UK.belowN hb _⟩
end Go.Proofs.YtjfkdfffolkblaaDoor.SL
