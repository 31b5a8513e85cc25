/-
  slot.Good, walked: it answers true of bytes that have records, the last slot one.
  A page of one's own: slot's functions walked once more, at a page that came behind the call's beginning. What add and trim do to records, to how many there are, and to the room.
-/
import Derived.Test.YtjfkdfffolkblaaGreatDoorSlotA
import Derived.Test.YtjfkdfffolkblaaGreatDoorUMem
namespace Go.Proofs.YtjfkdfffolkblaaGreatDoor.SL
open Go.RowKit
open UK (str BytesAt nth Only)
open Go.BigFrame
open SR (Recs rcd total)
def noneSeen : List Bool := List.replicate 504 false
theorem zero_seen (w : World) : (zeroValue 194).run Tryz.prog w = .ok (.agg (UK.bl noneSeen)) w := by kernel_rfl
/-- what is seen has been met -/
def Met (x : List UInt8) (l : List (List UInt8)) (k : Nat) (v : List Bool) : Prop := ∀ j, UK.tr v j = true → ∃ i, i < k ∧ i < l.length ∧ rcd l i ≠ [] ∧ SR.pos x i ≤ j ∧ j < SR.pos x i + (rcd l i).length
set_option maxRecDepth 100000 in
theorem good_any (B : Nat) (x : List UInt8) (l : List (List UInt8)) (c : Nat) (W : World) (h : BytesAt W B x) (r : Recs x l) (hlast : l = [] ∨ rcd l (l.length - 1) ≠ []) :
    Calls Tryz.prog 89 #[.slice (some ⟨B, 0, none⟩) 504 c] W fun e w' => e = .returned (.bool true) ∧ Below W.heap.size W w' := by
  have HZ := zero_seen
  have hf := r.few
  have hl1 := r.low1
  have hl2 := r.low2
  go_enter Tryz.func89, Tryz.ntmps89
  go_wp2_with fail
  refine (len_rec B x l c W h r).mono ?_
  rintro e w' ⟨rfl, k1, rfl⟩
  have b1 : Below W.heap.size W (W.drewN k1) := UK.belowN (Below.refl _ _) k1
  generalize W.drewN k1 = w1 at b1 ⊢
  go_wp2_with fail
  refine (low_any B x c _ (h.below b1 h.lt) r.size).mono ?_
  rintro e w' ⟨rfl, k2, rfl⟩
  have b2 := UK.belowN b1 k2
  generalize w1.drewN k2 = w2 at b2 ⊢
  go_wp2_with fail
  refine (low_any B x c _ (h.below b2 h.lt) r.size).mono ?_
  rintro e w' ⟨rfl, k3, rfl⟩
  have b3 := UK.belowN b2 k3
  generalize w2.drewN k3 = w3 at b3 ⊢
  have hs3 := b3.size
  have hv := UK.bools_new w3 504 194 (UK.bl noneSeen) rfl
  have b4 := b3.alloc hs3 (.cells (UK.bl noneSeen) 194)
  have HV := Lib.hid hv
  clear hv
  go_wp2_with fail
  have hv2 := HV.out
  generalize w3.alloc (.cells (UK.bl noneSeen) 194) = w4 at b4 hv2 ⊢
  obtain ⟨S, hS, HS⟩ : ∃ S, W.heap.size ≤ S ∧ Hid (w3.heap.size = S) := ⟨_, hs3, rfl⟩
  rw [HS.out] at hv2 ⊢
  have HMet : Met x l 0 (List.replicate 504 false) := fun j hj => by rw [UK.tr_replicate] at hj; cases hj
  have hvl : (List.replicate 504 false).length = 504 := List.length_replicate
  have HVL := Lib.hid hvl
  generalize List.replicate 504 false = v0 at hv2 HMet HVL
  clear HV hs3 b3 hvl
  refine (len_rec B x l c _ (h.below b4 h.lt) r).mono ?_
  rintro e w' ⟨rfl, k4, rfl⟩
  have b5 := UK.belowN b4 k4
  have hv3 := hv2.drewN k4
  generalize w4.drewN k4 = w5 at b5 hv3 ⊢
  go_wp2_with fail
  have d1 : decide ((SR.low x : Int) < 4 + 4 * (l.length : Int)) = false := by rw [decide_eq_false_iff_not]; omega
  have d2 : decide ((504 : Int) < (SR.low x : Int)) = false := by rw [decide_eq_false_iff_not]; omega
  simp only [d1, d2, Bool.or_false]
  have hsz := r.size
  go_loopw [27] (fun i wr => ∃ (k : Nat) (v : List Bool), k ≤ l.length ∧ i = .int .i64 k ∧ Hid (v.length = 504) ∧ Met x l k v ∧ UK.BoolsAt wr S v ∧ Below W.heap.size W wr) (fun i _ => l.length - (intOf i).toNat)
  case atStart => exact ⟨0, v0, Nat.zero_le _, rfl, HVL, HMet, hv3, b5⟩
  case round =>
    obtain ⟨k, v, hk, rfl, HVL2, hmet, hbv, hb⟩ := hrel
    have hba := h.below hb h.lt
    by_cases hlt : k < l.length
    · by_cases h0 : rcd l k = []
      · have hkl : k + 1 < l.length := by
          rcases hlast with hn | hn
          · rw [hn] at hlt; simp at hlt
          · by_cases he : k + 1 = l.length
            · rw [← he, Nat.add_sub_cancel] at hn; exact absurd h0 hn
            · omega
        have hkb : ((k : Int) == (l.length : Int) - 1) = false := by rw [beq_eq_false_iff_ne]; omega
        have HM2 : Met x l (k + 1) v := fun j hj => by
          obtain ⟨i, h1, h2⟩ := hmet j hj
          exact ⟨i, by omega, h2⟩
        have HSL := Lib.hid (slot_hole B x l c k _ hba r hlt h0)
        clear h0
        go_wp2_with fail
        refine HSL.out.mono ?_
        rintro e w' ⟨rfl, k1, rfl⟩
        have hb6 := UK.belowN hb k1
        have hv6 := hbv.drewN k1
        generalize World.drewN _ k1 = w6 at hb6 hv6 ⊢
        go_wp2_with fail
        refine (len_rec B x l c _ (h.below hb6 h.lt) r).mono ?_
        rintro e w' ⟨rfl, k2, rfl⟩
        go_wp2
        go_roundw
        case rel => exact ⟨k + 1, v, by omega, by go_num, HVL2, HM2, hv6.drewN _, UK.belowN hb6 _⟩
        case measure => simp [intOf]; omega
      · have ht := r.there k hlt h0
        have hn0 : 0 < (rcd l k).length := List.length_pos_iff.2 h0
        have hp0 : 0 < SR.pos x k := by omega
        have hpl : SR.low x ≤ SR.pos x k := ht.1
        have hpe : SR.pos x k + (rcd l k).length ≤ 504 := ht.2.1
        have hb1 : ((SR.pos x k : Int) == 0) = false := by rw [beq_eq_false_iff_ne]; omega
        have hb2 : (((rcd l k).length : Int) == 0) = false := by rw [beq_eq_false_iff_ne]; omega
        have HSL := Lib.hid (slot_there B x l c k _ hba r hlt)
        have HAP : Hid (∀ j, SR.pos x k ≤ j → j < SR.pos x k + (rcd l k).length → UK.tr v j = false) := fun j h1 h2 => by
          cases hj : UK.tr v j
          · rfl
          · obtain ⟨i, hi1, hi2, hi3, hi4, hi5⟩ := hmet j hj
            have := r.apart i k hi2 hlt (by omega) hi3 h0
            omega
        have HMK : Hid (∀ v' : List Bool, (∀ j, UK.tr v' j = true → UK.tr v j = true ∨ (SR.pos x k ≤ j ∧ j < SR.pos x k + (rcd l k).length)) → Met x l (k + 1) v') := fun v' hv' j hj => by
          rcases hv' j hj with h1 | h1
          · obtain ⟨i, hi1, hi2⟩ := hmet j h1
            exact ⟨i, by omega, hi2⟩
          · exact ⟨k, by omega, hlt, h0, h1⟩
        clear h0 ht hmet
        generalize (rcd l k).length = n at *
        generalize SR.pos x k = p at *
        go_wp2_with fail
        refine HSL.out.mono ?_
        rintro e w' ⟨rfl, k1, rfl⟩
        have hb6 := UK.belowN hb k1
        have hv6 := hbv.drewN k1
        generalize World.drewN _ k1 = w6 at hb6 hv6 ⊢
        go_wp2_with fail
        refine (low_any B x c _ (h.below hb6 h.lt) r.size).mono ?_
        rintro e w' ⟨rfl, k2, rfl⟩
        have hb7 := UK.belowN hb6 k2
        have hv7 := hv6.drewN k2
        generalize w6.drewN k2 = w7 at hb7 hv7 ⊢
        go_wp2_with fail
        have d3 : decide (p < SR.low x) = false := by rw [decide_eq_false_iff_not]; omega
        have d4 : decide ((504 : Int) < (p : Int) + (n : Int)) = false := by rw [decide_eq_false_iff_not]; omega
        simp only [d3, d4, Bool.or_false]
        go_loopw [7] (fun i wr => ∃ (q : Nat) (v' : List Bool), p ≤ q ∧ q ≤ p + n ∧ i = .int .i64 q ∧ Hid (v'.length = 504) ∧ Hid (∀ j, UK.tr v' j = true → UK.tr v j = true ∨ (p ≤ j ∧ j < q)) ∧ UK.BoolsAt wr S v' ∧ Below W.heap.size W wr) (fun i _ => p + n - (intOf i).toNat)
        case atStart => exact ⟨p, v, Nat.le_refl _, by omega, rfl, HVL2, fun j hj => .inl hj, hv7, hb7⟩
        case round =>
          obtain ⟨q, v', hpq, hqn, rfl, HL3, HV3, hbv3, hb8⟩ := hrel
          by_cases hqlt : q < p + n
          · have hcell := hbv3.cell (i := q) (by rw [HL3.out]; omega)
            have hff : UK.tr v' q = false := by
              cases hq : UK.tr v' q
              · rfl
              · rcases HV3.out q hq with h1 | h1
                · rw [HAP.out q hpq hqlt] at h1; cases h1
                · omega
            rw [hff] at hcell
            have hfree := hbv3.free q
            have HS3 := Lib.hid (hbv3.set q true)
            have HL4 : Hid ((v'.set q true).length = 504) := by show _ = _; rw [List.length_set]; exact HL3.out
            have HV4 : Hid (∀ j, UK.tr (v'.set q true) j = true → UK.tr v j = true ∨ (p ≤ j ∧ j < q + 1)) := fun j hj => by
              rw [UK.tr_set] at hj
              by_cases hjq : q = j ∧ q < v'.length
              · exact .inr (by omega)
              · rw [if_neg hjq] at hj
                rcases HV3.out j hj with h1 | h1
                · exact .inl h1
                · exact .inr (by omega)
            have hq5 : (q : Int) < 504 := by omega
            have hqi : (q : Int) < (p : Int) + n := by omega
            clear hff
            go_wp2
            go_roundw
            case rel => exact ⟨q + 1, v'.set q true, by omega, by omega, by go_num, HL4, HV4, HS3.out, hb8.setCell hS _⟩
            case measure => simp [intOf]; omega
          · have hqe : q = p + n := by omega
            have HM3 := HMK.out v' (fun j hj => by
              rcases HV3.out j hj with h1 | h1
              · exact .inl h1
              · exact .inr (by omega))
            have hqi : ¬ (q : Int) < (p : Int) + n := by omega
            clear hqe
            go_wp2
            go_roundw
            case rel => exact ⟨k + 1, v', by omega, by go_num, HL3, HM3, hbv3, hb8⟩
            case measure => simp [intOf]; omega
    · have hkl : k = l.length := by omega
      go_wp2_with fail
      refine (len_rec B x l c _ hba r).mono ?_
      rintro e w' ⟨rfl, k1, rfl⟩
      by_cases hl0 : l = []
      · have hlow := r.none hl0
        have hll : l.length = 0 := by rw [hl0]; rfl
        have HLOW := Lib.hid hlow
        rw [hll]
        clear hlow hl0
        have hl5 := low_any B x c _ (hba.drewN k1) r.size
        rw [HLOW.out] at hl5
        go_wp2_with fail
        refine hl5.mono ?_
        rintro e w' ⟨rfl, k2, rfl⟩
        go_wp2
        go_ret
        exact ⟨rfl, UK.belowN hb _⟩
      · have hll : 0 < l.length := List.length_pos_iff.2 hl0
        clear hl0
        go_wp2
        go_ret
        exact ⟨rfl, UK.belowN hb _⟩
end Go.Proofs.YtjfkdfffolkblaaGreatDoor.SL
namespace Go.Proofs.YtjfkdfffolkblaaGreatDoor.SL
open Go.RowKit
open UK (str BytesAt nth Only)
open Go.BigFrame
open SR (Recs rcd total)
/-- behind the beginning W0 block B came, and has the records l; of what was there nothing has turned -/
structure Page (W0 W : World) (B : Nat) (l : List (List UInt8)) : Prop where
  new : W0.heap.size ≤ B
  below : Below W0.heap.size W0 W
  page : ∃ x, BytesAt W B x ∧ Recs x l
namespace Page
variable {W0 W W' : World} {B : Nat} {l : List (List UInt8)}
theorem next (h : Page W0 W B l) (hb : Below W.heap.size W W') : Page W0 W' B l := by
  obtain ⟨hn, hw, x, hx, hr⟩ := h
  exact ⟨hn, hw.trans (hb.mono hw.size), x, hx.below hb hx.lt, hr⟩
theorem drewN (h : Page W0 W B l) (n : Nat) : Page W0 (W.drewN n) B l := h.next (UK.belowN (Below.refl _ _) n)
theorem drew (h : Page W0 W B l) : Page W0 W.drew B l := h.next (Below.refl _ _).drew
theorem turn (h : Page W0 W B l) {l' : List (List UInt8)} (ho : Only B W W') (hx : ∃ x, BytesAt W' B x ∧ Recs x l') : Page W0 W' B l' :=
  ⟨h.new, h.below.trans (ho.below h.below.size h.new), hx⟩
end Page
section
variable {W0 W : World} {B : Nat} {l : List (List UInt8)}
theorem page_room (h : Page W0 W B l) (c : Nat) :
    Calls Tryz.prog 134 #[.slice (some ⟨B, 0, none⟩) 504 c] W fun e w' => e = .returned (.int .i64 (room l)) ∧ Page W0 w' B l := by
  obtain ⟨x, hx, hr⟩ := h.page
  exact (room_any B x l c W hx hr).mono fun e w' ⟨he, hb⟩ => ⟨he, h.next hb⟩
theorem page_live (h : Page W0 W B l) (c : Nat) :
    Calls Tryz.prog 48 #[.slice (some ⟨B, 0, none⟩) 504 c] W fun e w' => e = .returned (.int .i64 (live l : Nat)) ∧ Page W0 w' B l := by
  obtain ⟨x, hx, hr⟩ := h.page
  exact (live_any B x l c W hx hr).mono fun e w' ⟨he, hb⟩ => ⟨he, h.next hb⟩
theorem page_len (h : Page W0 W B l) (c : Nat) :
    Calls Tryz.prog 100 #[.slice (some ⟨B, 0, none⟩) 504 c] W fun e w' => e = .returned (.int .i64 l.length) ∧ Page W0 w' B l := by
  obtain ⟨x, hx, hr⟩ := h.page
  exact (len_rec B x l c W hx hr).mono fun e w' ⟨he, k, hb⟩ => ⟨he, hb ▸ h.drewN k⟩
theorem page_good (h : Page W0 W B l) (c : Nat) (hlast : l = [] ∨ rcd l (l.length - 1) ≠ []) :
    Calls Tryz.prog 89 #[.slice (some ⟨B, 0, none⟩) 504 c] W fun e w' => e = .returned (.bool true) ∧ Page W0 w' B l := by
  obtain ⟨x, hx, hr⟩ := h.page
  exact (good_any B x l c W hx hr hlast).mono fun e w' ⟨he, hb⟩ => ⟨he, h.next hb⟩
theorem page_get_no (h : Page W0 W B l) (c : Nat) (i : Int) (hn : hasB l i = false) :
    Calls Tryz.prog 90 #[.slice (some ⟨B, 0, none⟩) 504 c, .int .i64 i] W fun e w' => e = .returned (.tuple #[.string (str []), .bool false]) ∧ Page W0 w' B l := by
  obtain ⟨x, hx, hr⟩ := h.page
  exact (get_no B x l c i W hx hr hn).mono fun e w' ⟨he, hb⟩ => ⟨he, h.next hb⟩
theorem page_get_yes (h : Page W0 W B l) (c : Nat) (hc : 504 ≤ c) (i : Nat) (hi : i < l.length) (h0 : rcd l i ≠ []) :
    Calls Tryz.prog 90 #[.slice (some ⟨B, 0, none⟩) 504 c, .int .i64 i] W fun e w' => e = .returned (.tuple #[.string (str (rcd l i)), .bool true]) ∧ Page W0 w' B l := by
  obtain ⟨x, hx, hr⟩ := h.page
  exact (get_yes B x l c hc i W hx hr hi h0).mono fun e w' ⟨he, hb⟩ => ⟨he, h.next hb⟩
theorem page_add_no (h : Page W0 W B l) (c : Nat) (s : List UInt8) (hn : room l < s.length ∨ s = []) :
    Calls Tryz.prog 85 #[.slice (some ⟨B, 0, none⟩) 504 c, .string (str s)] W fun e w' => e = .returned (.tuple #[.int .i64 0, .bool false]) ∧ Page W0 w' B l := by
  obtain ⟨x, hx, hr⟩ := h.page
  exact (add_no B x l c s W hx hr hn).mono fun e w' ⟨he, hb⟩ => ⟨he, h.next hb⟩
theorem page_add_yes (h : Page W0 W B l) (c : Nat) (hc : 504 ≤ c) (s : List UInt8) (hs : s ≠ []) (hr : (s.length : Int) ≤ room l) :
    Calls Tryz.prog 85 #[.slice (some ⟨B, 0, none⟩) 504 c, .string (str s)] W fun e w' => e = .returned (.tuple #[.int .i64 (hole l : Nat), .bool true]) ∧ Page W0 w' B (add l s) := by
  obtain ⟨x, hx, hrx⟩ := h.page
  exact (add_yes B x l c hc s W hx hrx hs hr).mono fun e w' ⟨he, ⟨x', h1, h2, _⟩, ho⟩ => ⟨he, h.turn ho ⟨x', h1, h2⟩⟩
theorem page_drop_no (h : Page W0 W B l) (c : Nat) (i : Int) (hn : hasB l i = false) :
    Calls Tryz.prog 46 #[.slice (some ⟨B, 0, none⟩) 504 c, .int .i64 i] W fun e w' => e = .returned (.bool false) ∧ Page W0 w' B l := by
  obtain ⟨x, hx, hr⟩ := h.page
  exact (drop_no B x l c i W hx hr hn).mono fun e w' ⟨he, hb⟩ => ⟨he, h.next hb⟩
theorem page_drop_yes (h : Page W0 W B l) (c k : Nat) (hk : k < l.length) (h0 : rcd l k ≠ []) :
    Calls Tryz.prog 46 #[.slice (some ⟨B, 0, none⟩) 504 c, .int .i64 k] W fun e w' => e = .returned (.bool true) ∧ Page W0 w' B (trim (l.set k [])) := by
  obtain ⟨x, hx, hr⟩ := h.page
  exact (drop_yes B x l c k W hx hr hk h0).mono fun e w' ⟨he, ⟨x', h1, h2, _⟩, ho⟩ => ⟨he, h.turn ho ⟨x', h1, h2⟩⟩
/-- may slot i be set to s? -/
def setB (l : List (List UInt8)) (i : Int) (s : List UInt8) : Bool := hasB l i && decide (s ≠ [] ∧ 4 + 4 * l.length + total l + s.length ≤ 504 + (rcd l i.toNat).length)
theorem page_set (h : Page W0 W B l) (c : Nat) (hc : 504 ≤ c) (i : Int) (s : List UInt8) :
    Calls Tryz.prog 87 #[.slice (some ⟨B, 0, none⟩) 504 c, .int .i64 i, .string (str s)] W fun e w' => e = .returned (.bool (setB l i s)) ∧ Page W0 w' B (if setB l i s then l.set i.toNat s else l) := by
  obtain ⟨x, hx, hr⟩ := h.page
  cases hb : hasB l i
  · have : setB l i s = false := by unfold setB; rw [hb]; rfl
    rw [this]
    exact (set_none B x l c i s W hx hr hb).mono fun e w' ⟨he, hb⟩ => ⟨he, h.next hb⟩
  · obtain ⟨k, rfl, hk, h0⟩ := rcd_nat l i hb
    by_cases hs : s = []
    · have : setB l k s = false := by unfold setB; simp [hs]
      rw [this]
      subst hs
      exact (set_void B x l c k W hx hr hk h0).mono fun e w' ⟨he, hb⟩ => ⟨he, h.next hb⟩
    · by_cases hf : 4 + 4 * l.length + total l + s.length ≤ 504 + (rcd l k).length
      · have : setB l k s = true := by unfold setB; rw [hb]; simp [hs, hf]
        rw [this]
        exact (set_yes B x l c hc k s W hx hr hk h0 hs hf).mono fun e w' ⟨he, ⟨x', h1, h2, _⟩, ho⟩ => ⟨he, h.turn ho ⟨x', h1, h2⟩⟩
      · have : setB l k s = false := by unfold setB; simp [hf]
        rw [this]
        exact (set_big B x l c k s W hx hr hk h0 hs (by omega)).mono fun e w' ⟨he, hb⟩ => ⟨he, h.next hb⟩
end
/-! ## what add and trim do -/
theorem rcd_trim (l : List (List UInt8)) (j : Nat) : rcd (trim l) j = rcd l j := by
  unfold trim
  by_cases h : j < kept l l.length
  · exact rcd_take l _ j h
  · have hle := kept_le l l.length
    rw [SR.rcd_out _ _ (by rw [List.length_take]; omega)]
    by_cases h2 : j < l.length
    · exact ((kept_spec l l.length).1 j (by omega) h2).symm
    · exact (SR.rcd_out _ _ (by omega)).symm
theorem trim_length (l : List (List UInt8)) : (trim l).length = kept l l.length := by
  unfold trim; rw [List.length_take]; exact Nat.min_eq_left (kept_le _ _)
theorem trim_last (l : List (List UInt8)) : trim l = [] ∨ rcd (trim l) ((trim l).length - 1) ≠ [] := by
  by_cases h : kept l l.length = 0
  · exact .inl (List.length_eq_zero_iff.1 (by rw [trim_length]; exact h))
  · refine .inr ?_
    rw [rcd_trim, trim_length]
    exact (kept_spec l l.length).2 (by omega)
theorem live_zero (l : List (List UInt8)) (n : Nat) (h : ∀ j, n ≤ j → rcd l j = []) : live (l.take n) = live l := by
  induction l generalizing n with
  | nil => simp
  | cons s l ih =>
    cases n with
    | zero =>
      have hs : s = [] := h 0 (Nat.le_refl _)
      have := ih 0 (fun j _ => h (j + 1) (by omega))
      simp only [List.take_zero, live] at this ⊢
      rw [if_pos hs, ← this]
    | succ n =>
      have := ih n (fun j hj => h (j + 1) (by omega))
      simp only [List.take_succ_cons, live]
      rw [this]
theorem trim_rest (l : List (List UInt8)) : ∀ j, kept l l.length ≤ j → rcd l j = [] := fun j hj => by
  by_cases h2 : j < l.length
  · exact (kept_spec l l.length).1 j hj h2
  · exact SR.rcd_out _ _ (by omega)
theorem live_trim (l : List (List UInt8)) : live (trim l) = live l := live_zero _ _ (trim_rest l)
theorem total_trim (l : List (List UInt8)) : total (trim l) = total l := total_zero _ _ (trim_rest l)
theorem live_set (l : List (List UInt8)) (i : Nat) (s : List UInt8) (h : i < l.length) : live (l.set i s) + (if rcd l i = [] then 0 else 1) = live l + (if s = [] then 0 else 1) := by
  induction l generalizing i with
  | nil => simp at h
  | cons t l ih =>
    cases i with
    | zero => simp only [List.set_cons_zero, live, rcd, List.getD_cons_zero]; omega
    | succ i =>
      have := ih i (by simpa using h)
      have e : rcd (t :: l) (i + 1) = rcd l i := rfl
      rw [List.set_cons_succ, e]
      simp only [live]
      omega
theorem add_length_le (l : List (List UInt8)) (s : List UInt8) : (add l s).length ≤ l.length + 1 := by
  unfold add; split <;> simp
theorem rcd_add (l : List (List UInt8)) (s : List UInt8) (j : Nat) : rcd (add l s) j = if j = hole l then s else rcd l j := by
  have hle := hole_le l
  unfold add
  by_cases h : hole l < l.length
  · rw [if_pos h, SR.rcd_set]
    by_cases hj : j = hole l
    · rw [if_pos ⟨hj.symm, h⟩, if_pos hj]
    · rw [if_neg (by omega), if_neg hj]
  · rw [if_neg h]
    unfold rcd List.getD
    by_cases hj : j < l.length
    · rw [List.getElem?_append_left hj, if_neg (by omega)]
    · rw [List.getElem?_append_right (by omega)]
      by_cases hj2 : j = l.length
      · subst hj2
        rw [if_pos (by omega)]; simp
      · rw [if_neg (by omega), List.getElem?_eq_none (by simp; omega), List.getElem?_eq_none (by omega)]
theorem live_add (l : List (List UInt8)) (s : List UInt8) (hs : s ≠ []) : live (add l s) = live l + 1 := by
  unfold add
  by_cases h : hole l < l.length
  · rw [if_pos h]
    have h1 := live_set l (hole l) s h
    rw [if_pos ((hole_spec l).2 h), if_neg hs] at h1
    exact h1
  · rw [if_neg h, live_append]; simp [live, hs]
theorem total_add (l : List (List UInt8)) (s : List UInt8) : total (add l s) = total l + s.length := by
  unfold add
  by_cases h : hole l < l.length
  · rw [if_pos h]
    have h1 := SR.total_set l (hole l) s h
    rw [(hole_spec l).2 h] at h1
    simpa using h1
  · rw [if_neg h, SR.total_append]; simp [total]
/-- the last slot has a record behind add -/
theorem add_last (l : List (List UInt8)) (s : List UInt8) (hs : s ≠ []) (h : l = [] ∨ rcd l (l.length - 1) ≠ []) : add l s = [] ∨ rcd (add l s) ((add l s).length - 1) ≠ [] := by
  refine .inr ?_
  rw [rcd_add]
  by_cases hj : (add l s).length - 1 = hole l
  · rw [if_pos hj]; exact hs
  · rw [if_neg hj]
    have hle := hole_le l
    by_cases hh : hole l < l.length
    · have hl : (add l s).length = l.length := by unfold add; rw [if_pos hh]; simp
      rw [hl]
      rcases h with h | h
      · rw [h] at hh; simp at hh
      · exact h
    · exfalso
      apply hj
      unfold add
      rw [if_neg hh]
      simp
      omega
theorem live_all (l : List (List UInt8)) (h : live l = l.length) : ∀ j, j < l.length → rcd l j ≠ [] := by
  induction l with
  | nil => intro j hj; simp at hj
  | cons s l ih =>
    have hle := live_le l
    simp only [live, List.length_cons] at h
    by_cases hs : s = []
    · rw [if_pos hs] at h; omega
    · rw [if_neg hs] at h
      intro j hj
      cases j with
      | zero => exact hs
      | succ j => exact ih (by omega) j (by simpa using hj)
theorem hole_all (l : List (List UInt8)) (h : ∀ j, j < l.length → rcd l j ≠ []) : hole l = l.length := hole_at l _ (Nat.le_refl _) h (fun h => absurd h (Nat.lt_irrefl _))
theorem live_of_all (l : List (List UInt8)) (h : hole l = l.length) : live l = l.length := by
  induction l with
  | nil => rfl
  | cons s l ih =>
    by_cases hs : s = []
    · simp [hole, hs] at h
    · simp only [hole, if_neg hs, List.length_cons] at h
      simp only [live, if_neg hs, List.length_cons]
      rw [ih (by omega)]; omega
/-- all records have one length -/
theorem total_same (l : List (List UInt8)) (n : Nat) (h : ∀ j, rcd l j = [] ∨ (rcd l j).length = n) : total l = n * live l := by
  induction l with
  | nil => simp [total, live]
  | cons s l ih =>
    have h1 := ih (fun j => h (j + 1))
    have h0 := h 0
    simp only [rcd, List.getD_cons_zero] at h0
    by_cases hs : s = []
    · simp [total, live, hs, h1]
    · rcases h0 with h0 | h0
      · exact absurd h0 hs
      · simp only [total, live, if_neg hs, h0, h1, Nat.mul_add, Nat.mul_one]
end Go.Proofs.YtjfkdfffolkblaaGreatDoor.SL
