/-
  slot's functions that write, walked at the page's records.
-/
import Derived.Test.YtdbnlcmnnoajoaaSlotL
namespace Go.Proofs.Ytdbnlcmnnoajoaa
open Go.RowKit
open UK (str BytesAt nth Only)
open Go.BigFrame
open SR (Recs rcd total)
theorem pack_any (B : Nat) (x : List UInt8) (l : List (List UInt8)) (c : Nat) (hc : 504 ≤ c) (W : World) (h : BytesAt W B x) (r : Recs x l) (hroom : 4 + 4 * l.length < 504) :
    Calls Try.prog 25 #[.slice (some ⟨B, 0, none⟩) 504 c] W fun e w' => e = .returned (.tuple #[]) ∧ (∃ x', BytesAt w' B x' ∧ Recs x' l ∧ SR.low x' = 504 - total l ∧ x'.length = x.length) ∧ Only B W w' := by
  have hsz := r.size
  have hcv := UK.run_window (P := Try.prog) (src := 23) (dst := 9) Try.underlying23 Try.underlying5 Try.underlying9 h 0 504 c (by omega)
  rw [List.drop_zero] at hcv
  go_enter Try.func25, Try.ntmps25
  go_wp2_with fail
  refine (len_rec B x l c W h r).mono ?_
  rintro e w' ⟨rfl, k0, rfl⟩
  go_wp2_with fail
  obtain ⟨y, HY⟩ : ∃ y, Hid (x.take 504 = y) := ⟨_, rfl⟩
  have hy : y.length = 504 := by rw [← HY.out, List.length_take]; omega
  rw [HY.out]
  have HYL := Lib.hid hy
  clear hy hcv
  go_loopw [3, 11] (fun n i wr => ∃ (k e : Nat) (z : List UInt8), k ≤ l.length ∧ e ≤ 504 ∧ i = .int .i64 k ∧ n = .int .i64 e ∧ Hid (e + total (l.take k) = 504) ∧ SR.Packed x l k z ∧ BytesAt wr B z ∧ Only B W wr) (fun _ i _ => l.length - (intOf i).toNat)
  case atStart => exact ⟨0, 504, x, Nat.zero_le _, by omega, rfl, rfl, rfl, SR.Packed.start r, h.drewN _, (Only.refl _ _).drewN _⟩
  case round =>
    obtain ⟨k, en, z, hk, he504, rfl, rfl, HE, pz, hba, ho⟩ := hrel
    have hz504 : 504 ≤ z.length := by rw [pz.length]; exact hsz
    have hf := r.few
    by_cases hlt : k < l.length
    · have hsl := slot_any B z c k wr hba hz504 (by omega) (by omega)
      rw [Int.toNat_natCast, (pz.later k (Nat.le_refl _) hlt).1, (pz.later k (Nat.le_refl _) hlt).2, r.ext_is hlt] at hsl
      have HSL := Lib.hid hsl
      clear hsl
      have htk := SR.total_take_succ l k hlt
      have htl := SR.total_take_le l (k + 1)
      have hsum := r.sum
      by_cases h0 : rcd l k = []
      · have hp0 := (r.hole k hlt h0).1
        have HSL2 := Lib.hid (hp0 ▸ h0 ▸ HSL.out)
        have HP := Lib.hid (pz.skip r hlt h0)
        have HT : Hid (en + total (l.take (k + 1)) = 504) := by show _ = _; rw [htk, h0]; exact HE.out
        clear h0 hp0 htk
        go_wp2_with fail
        refine HSL2.out.mono ?_
        rintro e w' ⟨rfl, k1, rfl⟩
        go_wp2
        go_roundw
        case rel => exact ⟨k + 1, en, z, by omega, by omega, by go_num, rfl, HT.out, HP.out, hba.drewN _, ho.drewN _⟩
        case measure => simp [intOf]; omega
      · have ht := r.there k hlt h0
        have hl1 := r.low1
        have hp0 : 0 < SR.pos x k := by omega
        have hp5 : SR.pos x k + (rcd l k).length ≤ 504 := ht.2.1
        have hp1 : ((SR.pos x k : Int) == 0) = false := by rw [beq_eq_false_iff_ne]; omega
        have hn0 : 0 < (rcd l k).length := List.length_pos_iff.2 h0
        have hen : (rcd l k).length ≤ en := by have := HE.out; omega
        have HT : Hid (en - (rcd l k).length + total (l.take (k + 1)) = 504) := by show _ = _; have := HE.out; omega
        have e1 : 504 - total (l.take (k + 1)) = en - (rcd l k).length := by have := HT.out; omega
        have hP := pz.step r hlt h0
        rw [e1] at hP
        have HP := Lib.hid hP
        have hsub : List.drop (SR.pos x k) (List.take (SR.pos x k + (rcd l k).length) y) = rcd l k := by
          rw [← HY.out, List.take_take, Nat.min_eq_left hp5, List.drop_take, Nat.add_sub_cancel_left]
          exact rec_window r hlt h0
        have hlow5 : 4 + 4 * l.length ≤ en - (rcd l k).length := by have := HE.out; omega
        generalize hs : rcd l k = s at *
        generalize hpp : SR.pos x k = p at *
        have hcp := fun n => UK.run_copy (P := Try.prog) (dT := 23) (sT := 9) (ty := 3) Try.underlying23 (fun w => by kernel_rfl) (hba.drewN n) (en - s.length) (504 - (en - s.length)) (c - (en - s.length)) s (by omega) (by omega)
        have hb2 := fun n => (hba.drewN n).setCells s (en - s.length) (by omega)
        have ho2 := fun n => (ho.drewN n).setCells (UK.cellsOf s) (o := en - s.length)
        have HB2 := Lib.hid hb2
        have HO2 := Lib.hid ho2
        have hzl := UK.wr_length z (en - s.length) s (by omega)
        have h10 : (en : Int) - s.length ≤ 504 := by omega
        have h11 : (0 : Int) ≤ (en : Int) - s.length := by omega
        have h12 : ¬ c = en - s.length := by omega
        have h13 : (p : Int) + s.length ≤ y.length := by have := HYL.out; omega
        have h14 : p + s.length ≤ y.length := by omega
        clear hb2 ho2 hP htk htl hsum h0 ht hs hpp e1
        go_wp2_with fail
        refine HSL.out.mono ?_
        rintro e w' ⟨rfl, k1, rfl⟩
        go_wp2_with fail
        go_region
        have b3 := HB2.out (k1 + 1)
        have o3 := HO2.out (k1 + 1)
        generalize (wr.drewN (k1 + 1)).setCells B (en - s.length) (UK.cellsOf s) = w3 at b3 o3 ⊢
        have hel : ((en : Int) - s.length).toNat = en - s.length := by omega
        have HEL := Lib.hid hel
        clear hel hcp
        go_wp2_with fail
        refine (lay_any B _ c k _ _ w3 b3 (by omega) (by omega) (by omega) h11 (by omega) (by omega) (by omega)).mono ?_
        rintro e w4 ⟨rfl, b4, o4⟩
        rw [HEL.out, Int.toNat_natCast, Int.toNat_natCast] at b4
        go_wp2
        go_roundw
        case rel => exact ⟨k + 1, en - s.length, _, by omega, by omega, by go_num, by rw [show ((en - s.length : Nat) : Int) = (en : Int) - s.length by omega], HT.out, HP.out, b4, o3.trans o4⟩
        case measure => simp [intOf]; omega
    · have hkl : k = l.length := by omega
      have het : en = 504 - total l := by have := HE.out; rw [hkl, List.take_of_length_le (Nat.le_refl _)] at this; omega
      have hD := (hkl ▸ pz : SR.Packed x l l.length z).done r
      rw [← het] at hD
      have HD := Lib.hid hD
      have HET := Lib.hid het
      have hsum := r.sum
      have hlow5 : 4 + 4 * l.length ≤ en := by omega
      have h2z : SR.two z 0 = l.length := pz.len
      have H2Z := Lib.hid h2z
      have hzx : z.length = x.length := pz.length
      have HZX := Lib.hid hzx
      clear hkl het hD h2z hzx hsum
      go_wp2_with fail
      refine (put_any B z c _ _ wr hba hz504 (by omega) (by omega) (by omega) (by omega)).mono ?_
      rintro e w3 ⟨rfl, b3, o3⟩
      rw [Int.toNat_natCast, show (2 : Int).toNat = 2 from rfl] at b3
      have hl3 := len_any B _ c w3 b3 (by rw [SR.put_length]; omega)
      rw [SR.two_put_other _ _ _ _ (by omega) (by omega), H2Z.out] at hl3
      go_wp2_with fail
      refine hl3.mono ?_
      rintro e w' ⟨rfl, k2, rfl⟩
      have hcl := UK.run_clear (P := Try.prog) (t := 23) (ty := 0) Try.underlying23 (fun w => by kernel_rfl) (b3.drewN k2) (4 + 4 * l.length) (en - (4 + 4 * l.length)) (c - (4 + 4 * l.length)) (by rw [SR.put_length]; omega)
      have b4 := (b3.drewN k2).setCells (UK.zeros (en - (4 + 4 * l.length))) (4 + 4 * l.length) (by rw [SR.put_length, UK.zeros_length]; omega)
      have o4 := ((ho.trans o3).drewN k2).setCells (UK.cellsOf (UK.zeros (en - (4 + 4 * l.length)))) (o := 4 + 4 * l.length)
      have B4 := Lib.hid b4
      have O4 := Lib.hid o4
      have hxl : (UK.wr (SR.put z 2 en) (4 + 4 * l.length) (UK.zeros (en - (4 + 4 * l.length)))).length = x.length := by
        rw [UK.wr_length _ _ _ (by rw [SR.put_length, UK.zeros_length]; omega), SR.put_length, HZX.out]
      have HXL := Lib.hid hxl
      clear b4 o4 hl3 hxl
      have h10 : (4 : Int) + 4 * l.length ≤ en := by omega
      have h11 : ¬ c = 4 + 4 * l.length := by omega
      have h12 : (en : Int) ≤ c := by omega
      go_wp2
      go_end0
      exact ⟨rfl, ⟨_, B4.out, HD.out.1, HD.out.2.trans HET.out, HXL.out⟩, O4.out⟩
theorem store_any (B : Nat) (x : List UInt8) (l : List (List UInt8)) (c : Nat) (hc : 504 ≤ c) (i : Nat) (s : List UInt8) (W : World) (h : BytesAt W B x) (r : Recs x l) (hi : i < l.length) (h0 : rcd l i = []) (hs : s ≠ []) (hsum : 4 + 4 * l.length + total l + s.length ≤ 504) :
    Calls Try.prog 27 #[.slice (some ⟨B, 0, none⟩) 504 c, .int .i64 i, .string (str s)] W fun e w' => e = .returned (.tuple #[]) ∧ (∃ x', BytesAt w' B x' ∧ Recs x' (l.set i s) ∧ x'.length = x.length) ∧ Only B W w' := by
  have hf := r.few
  have hl2 := r.low2
  have hs0 : 0 < s.length := List.length_pos_iff.2 hs
  have HS0 := Lib.hid hs
  have H00 := Lib.hid h0
  clear hs h0
  by_cases hlow : 4 + 4 * l.length + s.length ≤ SR.low x
  · obtain ⟨x1, r1, hlow1, hx1, hb1⟩ : ∃ x1, Recs x1 l ∧ 4 + 4 * l.length + s.length ≤ SR.low x1 ∧ x1.length = x.length ∧ ∀ n, BytesAt (W.drewN n) B x1 := ⟨x, r, hlow, rfl, fun n => h.drewN n⟩
    have HB1 := Lib.hid hb1
    clear hb1
    go_enter Try.func27, Try.ntmps27
    go_wp2_with fail
    refine (low_any B x c W h r.size).mono ?_
    rintro e w' ⟨rfl, k1, rfl⟩
    go_wp2_with fail
    refine (len_rec B x l c _ (h.drewN k1) r).mono ?_
    rintro e w' ⟨rfl, k2, rfl⟩
    go_wp2_with fail
    have b1 := HB1.out (k1 + k2)
    have o1 := (Only.refl B W).drewN (k1 + k2)
    generalize W.drewN (k1 + k2) = w1 at b1 o1 ⊢
    have hl2' := r1.low2
    have hsz := r1.size
    have hR := r1.store hi H00.out s HS0.out hlow1 (by omega)
    have HR := Lib.hid hR
    have hcp := fun n => UK.run_copy (P := Try.prog) (dT := 23) (sT := 9) (ty := 3) Try.underlying23 (fun w => by kernel_rfl) (b1.drewN n) (SR.low x1 - s.length) (504 - (SR.low x1 - s.length)) (c - (SR.low x1 - s.length)) s (by omega) (by omega)
    have HB2 := Lib.hid (fun n => (b1.drewN n).setCells s (SR.low x1 - s.length) (by omega))
    have HO2 := Lib.hid (fun n => (o1.drewN n).setCells (UK.cellsOf s) (o := SR.low x1 - s.length))
    have h10 : (SR.low x1 : Int) - s.length ≤ 504 := by omega
    have h11 : (0 : Int) ≤ (SR.low x1 : Int) - s.length := by omega
    have h12 : ¬ c = SR.low x1 - s.length := by omega
    have hlen3 : (UK.wr x1 (SR.low x1 - s.length) s).length = x1.length := UK.wr_length _ _ _ (by omega)
    have HEL : Hid (((SR.low x1 : Int) - s.length).toNat = SR.low x1 - s.length) := by show _ = _; omega
    clear hR
    refine (low_any B x1 c w1 b1 hsz).mono ?_
    rintro e w' ⟨rfl, k4, rfl⟩
    go_wp2_with fail
    have b3 := HB2.out k4
    have o3 := HO2.out k4
    generalize (w1.drewN k4).setCells B (SR.low x1 - s.length) (UK.cellsOf s) = w3 at b3 o3 ⊢
    clear hcp
    refine (lay_any B _ c i _ _ w3 b3 (by omega) (by omega) (by omega) h11 (by omega) (by omega) (by omega)).mono ?_
    rintro e w4 ⟨rfl, b4, o4⟩
    rw [HEL.out, Int.toNat_natCast, Int.toNat_natCast] at b4
    go_wp2_with fail
    refine (put_any B _ c _ _ w4 b4 (by rw [SR.lay_length]; omega) (by omega) (by omega) h11 (by omega)).mono ?_
    rintro e w5 ⟨rfl, b5, o5⟩
    rw [HEL.out, show (2 : Int).toNat = 2 from rfl] at b5
    go_wp2
    go_end0
    exact ⟨rfl, ⟨_, b5, HR.out, by rw [SR.put_length, SR.lay_length, hlen3]; exact hx1⟩, (o3.trans o4).trans o5⟩
  · go_enter Try.func27, Try.ntmps27
    go_wp2_with fail
    refine (low_any B x c W h r.size).mono ?_
    rintro e w' ⟨rfl, k1, rfl⟩
    go_wp2_with fail
    refine (len_rec B x l c _ (h.drewN k1) r).mono ?_
    rintro e w' ⟨rfl, k2, rfl⟩
    go_wp2_with fail
    refine (pack_any B x l c hc _ (h.drewN (k1 + k2)) r (by omega)).mono ?_
    rintro e w1 ⟨rfl, ⟨x1, b1, r1, hlowp, hx1⟩, o0⟩
    have hlow1 : 4 + 4 * l.length + s.length ≤ SR.low x1 := by omega
    have o1 : Only B W w1 := ((Only.refl B W).drewN (k1 + k2)).trans o0
    clear hlowp
    go_wp2_with fail
    have hl2' := r1.low2
    have hsz := r1.size
    have hR := r1.store hi H00.out s HS0.out hlow1 (by omega)
    have HR := Lib.hid hR
    have hcp := fun n => UK.run_copy (P := Try.prog) (dT := 23) (sT := 9) (ty := 3) Try.underlying23 (fun w => by kernel_rfl) (b1.drewN n) (SR.low x1 - s.length) (504 - (SR.low x1 - s.length)) (c - (SR.low x1 - s.length)) s (by omega) (by omega)
    have HB2 := Lib.hid (fun n => (b1.drewN n).setCells s (SR.low x1 - s.length) (by omega))
    have HO2 := Lib.hid (fun n => (o1.drewN n).setCells (UK.cellsOf s) (o := SR.low x1 - s.length))
    have h10 : (SR.low x1 : Int) - s.length ≤ 504 := by omega
    have h11 : (0 : Int) ≤ (SR.low x1 : Int) - s.length := by omega
    have h12 : ¬ c = SR.low x1 - s.length := by omega
    have hlen3 : (UK.wr x1 (SR.low x1 - s.length) s).length = x1.length := UK.wr_length _ _ _ (by omega)
    have HEL : Hid (((SR.low x1 : Int) - s.length).toNat = SR.low x1 - s.length) := by show _ = _; omega
    clear hR
    refine (low_any B x1 c w1 b1 hsz).mono ?_
    rintro e w' ⟨rfl, k4, rfl⟩
    go_wp2_with fail
    have b3 := HB2.out k4
    have o3 := HO2.out k4
    generalize (w1.drewN k4).setCells B (SR.low x1 - s.length) (UK.cellsOf s) = w3 at b3 o3 ⊢
    clear hcp
    refine (lay_any B _ c i _ _ w3 b3 (by omega) (by omega) (by omega) h11 (by omega) (by omega) (by omega)).mono ?_
    rintro e w4 ⟨rfl, b4, o4⟩
    rw [HEL.out, Int.toNat_natCast, Int.toNat_natCast] at b4
    go_wp2_with fail
    refine (put_any B _ c _ _ w4 b4 (by rw [SR.lay_length]; omega) (by omega) (by omega) h11 (by omega)).mono ?_
    rintro e w5 ⟨rfl, b5, o5⟩
    rw [HEL.out, show (2 : Int).toNat = 2 from rfl] at b5
    go_wp2
    go_end0
    exact ⟨rfl, ⟨_, b5, HR.out, by rw [SR.put_length, SR.lay_length, hlen3]; exact hx1⟩, (o3.trans o4).trans o5⟩
end Go.Proofs.Ytdbnlcmnnoajoaa
