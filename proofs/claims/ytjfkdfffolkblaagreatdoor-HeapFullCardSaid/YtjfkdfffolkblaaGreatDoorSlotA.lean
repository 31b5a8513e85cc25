/-
  slot's functions that write, walked at the page's records.
  What Add, Set and Drop make of a page's records, in plain Lean.
  slot's Init, Add, Set, Drop, walked at the page's records.
-/
import Derived.Test.YtjfkdfffolkblaaGreatDoorSlotL
namespace Go.Proofs.YtjfkdfffolkblaaGreatDoor.SL
open Go.RowKit
open UK (str BytesAt nth Only)
open Go.BigFrame
open SR (Recs rcd total)
theorem pack_any (B : Nat) (x : List UInt8) (l : List (List UInt8)) (c : Nat) (hc : 504 ≤ c) (W : World) (h : BytesAt W B x) (r : Recs x l) (hroom : 4 + 4 * l.length < 504) :
    Calls Tryz.prog 137 #[.slice (some ⟨B, 0, none⟩) 504 c] W fun e w' => e = .returned (.tuple #[]) ∧ (∃ x', BytesAt w' B x' ∧ Recs x' l ∧ SR.low x' = 504 - total l ∧ x'.length = x.length) ∧ Only B W w' := by
  have hsz := r.size
  have hcv := UK.run_window (P := Tryz.prog) (src := 92) (dst := 9) Tryz.underlying92 Tryz.underlying5 Tryz.underlying9 h 0 504 c (by omega)
  rw [List.drop_zero] at hcv
  go_enter Tryz.func137, Tryz.ntmps137
  go_wp2_with fail
  refine (len_rec B x l c W h r).mono ?_
  rintro e w' ⟨rfl, k0, rfl⟩
  go_wp2_with fail
  obtain ⟨y, HY⟩ : ∃ y, Hid (x.take 504 = y) := ⟨_, rfl⟩
  have hy : y.length = 504 := by rw [← HY.out, List.length_take]; omega
  rw [HY.out]
  have HYL := Lib.hid hy
  clear hy hcv
  go_loopw [3, 11] (fun n i wr => ∃ (k e : Nat) (z : List UInt8), k ≤ l.length ∧ e ≤ 504 ∧ i = .int .i64 k ∧ n = .int .i64 e ∧ Hid (e + total (l.take k) = 504) ∧ SR.Packed x l k z ∧ BytesAt wr B z ∧ Only B W wr) (fun _ i _ => l.length - (intOf i).toNat)
  case atStart => exact ⟨0, 504, x, Nat.zero_le _, by omega, rfl, rfl, rfl, SR.Packed.start r, h.drewN _, (Only.refl _ _).drewN _⟩
  case round =>
    obtain ⟨k, en, z, hk, he504, rfl, rfl, HE, pz, hba, ho⟩ := hrel
    have hz504 : 504 ≤ z.length := by rw [pz.length]; exact hsz
    have hf := r.few
    by_cases hlt : k < l.length
    · have hsl := slot_any B z c k wr hba hz504 (by omega) (by omega)
      rw [Int.toNat_natCast, (pz.later k (Nat.le_refl _) hlt).1, (pz.later k (Nat.le_refl _) hlt).2, r.ext_is hlt] at hsl
      have HSL := Lib.hid hsl
      clear hsl
      have htk := SR.total_take_succ l k hlt
      have htl := SR.total_take_le l (k + 1)
      have hsum := r.sum
      by_cases h0 : rcd l k = []
      · have hp0 := (r.hole k hlt h0).1
        have HSL2 := Lib.hid (hp0 ▸ h0 ▸ HSL.out)
        have HP := Lib.hid (pz.skip r hlt h0)
        have HT : Hid (en + total (l.take (k + 1)) = 504) := by show _ = _; rw [htk, h0]; exact HE.out
        clear h0 hp0 htk
        go_wp2_with fail
        refine HSL2.out.mono ?_
        rintro e w' ⟨rfl, k1, rfl⟩
        go_wp2
        go_roundw
        case rel => exact ⟨k + 1, en, z, by omega, by omega, by go_num, rfl, HT.out, HP.out, hba.drewN _, ho.drewN _⟩
        case measure => simp [intOf]; omega
      · have ht := r.there k hlt h0
        have hl1 := r.low1
        have hp0 : 0 < SR.pos x k := by omega
        have hp5 : SR.pos x k + (rcd l k).length ≤ 504 := ht.2.1
        have hp1 : ((SR.pos x k : Int) == 0) = false := by rw [beq_eq_false_iff_ne]; omega
        have hn0 : 0 < (rcd l k).length := List.length_pos_iff.2 h0
        have hen : (rcd l k).length ≤ en := by have := HE.out; omega
        have HT : Hid (en - (rcd l k).length + total (l.take (k + 1)) = 504) := by show _ = _; have := HE.out; omega
        have e1 : 504 - total (l.take (k + 1)) = en - (rcd l k).length := by have := HT.out; omega
        have hP := pz.step r hlt h0
        rw [e1] at hP
        have HP := Lib.hid hP
        have hsub : List.drop (SR.pos x k) (List.take (SR.pos x k + (rcd l k).length) y) = rcd l k := by
          rw [← HY.out, List.take_take, Nat.min_eq_left hp5, List.drop_take, Nat.add_sub_cancel_left]
          exact rec_window r hlt h0
        have hlow5 : 4 + 4 * l.length ≤ en - (rcd l k).length := by have := HE.out; omega
        generalize hs : rcd l k = s at *
        generalize hpp : SR.pos x k = p at *
        have hcp := fun n => UK.run_copy (P := Tryz.prog) (dT := 92) (sT := 9) (ty := 3) Tryz.underlying92 (fun w => by kernel_rfl) (hba.drewN n) (en - s.length) (504 - (en - s.length)) (c - (en - s.length)) s (by omega) (by omega)
        have hb2 := fun n => (hba.drewN n).setCells s (en - s.length) (by omega)
        have ho2 := fun n => (ho.drewN n).setCells (UK.cellsOf s) (o := en - s.length)
        have HB2 := Lib.hid hb2
        have HO2 := Lib.hid ho2
        have hzl := UK.wr_length z (en - s.length) s (by omega)
        have h10 : (en : Int) - s.length ≤ 504 := by omega
        have h11 : (0 : Int) ≤ (en : Int) - s.length := by omega
        have h12 : ¬ c = en - s.length := by omega
        have h13 : (p : Int) + s.length ≤ y.length := by have := HYL.out; omega
        have h14 : p + s.length ≤ y.length := by omega
        clear hb2 ho2 hP htk htl hsum h0 ht hs hpp e1
        go_wp2_with fail
        refine HSL.out.mono ?_
        rintro e w' ⟨rfl, k1, rfl⟩
        go_wp2_with fail
        go_region
        have b3 := HB2.out (k1 + 1)
        have o3 := HO2.out (k1 + 1)
        generalize (wr.drewN (k1 + 1)).setCells B (en - s.length) (UK.cellsOf s) = w3 at b3 o3 ⊢
        have hel : ((en : Int) - s.length).toNat = en - s.length := by omega
        have HEL := Lib.hid hel
        clear hel hcp
        go_wp2_with fail
        refine (lay_any B _ c k _ _ w3 b3 (by omega) (by omega) (by omega) h11 (by omega) (by omega) (by omega)).mono ?_
        rintro e w4 ⟨rfl, b4, o4⟩
        rw [HEL.out, Int.toNat_natCast, Int.toNat_natCast] at b4
        go_wp2
        go_roundw
        case rel => exact ⟨k + 1, en - s.length, _, by omega, by omega, by go_num, by rw [show ((en - s.length : Nat) : Int) = (en : Int) - s.length by omega], HT.out, HP.out, b4, o3.trans o4⟩
        case measure => simp [intOf]; omega
    · have hkl : k = l.length := by omega
      have het : en = 504 - total l := by have := HE.out; rw [hkl, List.take_of_length_le (Nat.le_refl _)] at this; omega
      have hD := (hkl ▸ pz : SR.Packed x l l.length z).done r
      rw [← het] at hD
      have HD := Lib.hid hD
      have HET := Lib.hid het
      have hsum := r.sum
      have hlow5 : 4 + 4 * l.length ≤ en := by omega
      have h2z : SR.two z 0 = l.length := pz.len
      have H2Z := Lib.hid h2z
      have hzx : z.length = x.length := pz.length
      have HZX := Lib.hid hzx
      clear hkl het hD h2z hzx hsum
      go_wp2_with fail
      refine (put_any B z c _ _ wr hba hz504 (by omega) (by omega) (by omega) (by omega)).mono ?_
      rintro e w3 ⟨rfl, b3, o3⟩
      rw [Int.toNat_natCast, show (2 : Int).toNat = 2 from rfl] at b3
      have hl3 := len_any B _ c w3 b3 (by rw [SR.put_length]; omega)
      rw [SR.two_put_other _ _ _ _ (by omega) (by omega), H2Z.out] at hl3
      go_wp2_with fail
      refine hl3.mono ?_
      rintro e w' ⟨rfl, k2, rfl⟩
      have hcl := UK.run_clear (P := Tryz.prog) (t := 92) (ty := 0) Tryz.underlying92 (fun w => by kernel_rfl) (b3.drewN k2) (4 + 4 * l.length) (en - (4 + 4 * l.length)) (c - (4 + 4 * l.length)) (by rw [SR.put_length]; omega)
      have b4 := (b3.drewN k2).setCells (UK.zeros (en - (4 + 4 * l.length))) (4 + 4 * l.length) (by rw [SR.put_length, UK.zeros_length]; omega)
      have o4 := ((ho.trans o3).drewN k2).setCells (UK.cellsOf (UK.zeros (en - (4 + 4 * l.length)))) (o := 4 + 4 * l.length)
      have B4 := Lib.hid b4
      have O4 := Lib.hid o4
      have hxl : (UK.wr (SR.put z 2 en) (4 + 4 * l.length) (UK.zeros (en - (4 + 4 * l.length)))).length = x.length := by
        rw [UK.wr_length _ _ _ (by rw [SR.put_length, UK.zeros_length]; omega), SR.put_length, HZX.out]
      have HXL := Lib.hid hxl
      clear b4 o4 hl3 hxl
      have h10 : (4 : Int) + 4 * l.length ≤ en := by omega
      have h11 : ¬ c = 4 + 4 * l.length := by omega
      have h12 : (en : Int) ≤ c := by omega
      go_wp2
      go_end0
      exact ⟨rfl, ⟨_, B4.out, HD.out.1, HD.out.2.trans HET.out, HXL.out⟩, O4.out⟩
theorem store_any (B : Nat) (x : List UInt8) (l : List (List UInt8)) (c : Nat) (hc : 504 ≤ c) (i : Nat) (s : List UInt8) (W : World) (h : BytesAt W B x) (r : Recs x l) (hi : i < l.length) (h0 : rcd l i = []) (hs : s ≠ []) (hsum : 4 + 4 * l.length + total l + s.length ≤ 504) :
    Calls Tryz.prog 138 #[.slice (some ⟨B, 0, none⟩) 504 c, .int .i64 i, .string (str s)] W fun e w' => e = .returned (.tuple #[]) ∧ (∃ x', BytesAt w' B x' ∧ Recs x' (l.set i s) ∧ x'.length = x.length) ∧ Only B W w' := by
  have hf := r.few
  have hl2 := r.low2
  have hs0 : 0 < s.length := List.length_pos_iff.2 hs
  have HS0 := Lib.hid hs
  have H00 := Lib.hid h0
  clear hs h0
  by_cases hlow : 4 + 4 * l.length + s.length ≤ SR.low x
  · obtain ⟨x1, r1, hlow1, hx1, hb1⟩ : ∃ x1, Recs x1 l ∧ 4 + 4 * l.length + s.length ≤ SR.low x1 ∧ x1.length = x.length ∧ ∀ n, BytesAt (W.drewN n) B x1 := ⟨x, r, hlow, rfl, fun n => h.drewN n⟩
    have HB1 := Lib.hid hb1
    clear hb1
    go_enter Tryz.func138, Tryz.ntmps138
    go_wp2_with fail
    refine (low_any B x c W h r.size).mono ?_
    rintro e w' ⟨rfl, k1, rfl⟩
    go_wp2_with fail
    refine (len_rec B x l c _ (h.drewN k1) r).mono ?_
    rintro e w' ⟨rfl, k2, rfl⟩
    go_wp2_with fail
    have b1 := HB1.out (k1 + k2)
    have o1 := (Only.refl B W).drewN (k1 + k2)
    generalize W.drewN (k1 + k2) = w1 at b1 o1 ⊢
    have hl2' := r1.low2
    have hsz := r1.size
    have hR := r1.store hi H00.out s HS0.out hlow1 (by omega)
    have HR := Lib.hid hR
    have hcp := fun n => UK.run_copy (P := Tryz.prog) (dT := 92) (sT := 9) (ty := 3) Tryz.underlying92 (fun w => by kernel_rfl) (b1.drewN n) (SR.low x1 - s.length) (504 - (SR.low x1 - s.length)) (c - (SR.low x1 - s.length)) s (by omega) (by omega)
    have HB2 := Lib.hid (fun n => (b1.drewN n).setCells s (SR.low x1 - s.length) (by omega))
    have HO2 := Lib.hid (fun n => (o1.drewN n).setCells (UK.cellsOf s) (o := SR.low x1 - s.length))
    have h10 : (SR.low x1 : Int) - s.length ≤ 504 := by omega
    have h11 : (0 : Int) ≤ (SR.low x1 : Int) - s.length := by omega
    have h12 : ¬ c = SR.low x1 - s.length := by omega
    have hlen3 : (UK.wr x1 (SR.low x1 - s.length) s).length = x1.length := UK.wr_length _ _ _ (by omega)
    have HEL : Hid (((SR.low x1 : Int) - s.length).toNat = SR.low x1 - s.length) := by show _ = _; omega
    clear hR
    refine (low_any B x1 c w1 b1 hsz).mono ?_
    rintro e w' ⟨rfl, k4, rfl⟩
    go_wp2_with fail
    have b3 := HB2.out k4
    have o3 := HO2.out k4
    generalize (w1.drewN k4).setCells B (SR.low x1 - s.length) (UK.cellsOf s) = w3 at b3 o3 ⊢
    clear hcp
    refine (lay_any B _ c i _ _ w3 b3 (by omega) (by omega) (by omega) h11 (by omega) (by omega) (by omega)).mono ?_
    rintro e w4 ⟨rfl, b4, o4⟩
    rw [HEL.out, Int.toNat_natCast, Int.toNat_natCast] at b4
    go_wp2_with fail
    refine (put_any B _ c _ _ w4 b4 (by rw [SR.lay_length]; omega) (by omega) (by omega) h11 (by omega)).mono ?_
    rintro e w5 ⟨rfl, b5, o5⟩
    rw [HEL.out, show (2 : Int).toNat = 2 from rfl] at b5
    go_wp2
    go_end0
    exact ⟨rfl, ⟨_, b5, HR.out, by rw [SR.put_length, SR.lay_length, hlen3]; exact hx1⟩, (o3.trans o4).trans o5⟩
  · go_enter Tryz.func138, Tryz.ntmps138
    go_wp2_with fail
    refine (low_any B x c W h r.size).mono ?_
    rintro e w' ⟨rfl, k1, rfl⟩
    go_wp2_with fail
    refine (len_rec B x l c _ (h.drewN k1) r).mono ?_
    rintro e w' ⟨rfl, k2, rfl⟩
    go_wp2_with fail
    refine (pack_any B x l c hc _ (h.drewN (k1 + k2)) r (by omega)).mono ?_
    rintro e w1 ⟨rfl, ⟨x1, b1, r1, hlowp, hx1⟩, o0⟩
    have hlow1 : 4 + 4 * l.length + s.length ≤ SR.low x1 := by omega
    have o1 : Only B W w1 := ((Only.refl B W).drewN (k1 + k2)).trans o0
    clear hlowp
    go_wp2_with fail
    have hl2' := r1.low2
    have hsz := r1.size
    have hR := r1.store hi H00.out s HS0.out hlow1 (by omega)
    have HR := Lib.hid hR
    have hcp := fun n => UK.run_copy (P := Tryz.prog) (dT := 92) (sT := 9) (ty := 3) Tryz.underlying92 (fun w => by kernel_rfl) (b1.drewN n) (SR.low x1 - s.length) (504 - (SR.low x1 - s.length)) (c - (SR.low x1 - s.length)) s (by omega) (by omega)
    have HB2 := Lib.hid (fun n => (b1.drewN n).setCells s (SR.low x1 - s.length) (by omega))
    have HO2 := Lib.hid (fun n => (o1.drewN n).setCells (UK.cellsOf s) (o := SR.low x1 - s.length))
    have h10 : (SR.low x1 : Int) - s.length ≤ 504 := by omega
    have h11 : (0 : Int) ≤ (SR.low x1 : Int) - s.length := by omega
    have h12 : ¬ c = SR.low x1 - s.length := by omega
    have hlen3 : (UK.wr x1 (SR.low x1 - s.length) s).length = x1.length := UK.wr_length _ _ _ (by omega)
    have HEL : Hid (((SR.low x1 : Int) - s.length).toNat = SR.low x1 - s.length) := by show _ = _; omega
    clear hR
    refine (low_any B x1 c w1 b1 hsz).mono ?_
    rintro e w' ⟨rfl, k4, rfl⟩
    go_wp2_with fail
    have b3 := HB2.out k4
    have o3 := HO2.out k4
    generalize (w1.drewN k4).setCells B (SR.low x1 - s.length) (UK.cellsOf s) = w3 at b3 o3 ⊢
    clear hcp
    refine (lay_any B _ c i _ _ w3 b3 (by omega) (by omega) (by omega) h11 (by omega) (by omega) (by omega)).mono ?_
    rintro e w4 ⟨rfl, b4, o4⟩
    rw [HEL.out, Int.toNat_natCast, Int.toNat_natCast] at b4
    go_wp2_with fail
    refine (put_any B _ c _ _ w4 b4 (by rw [SR.lay_length]; omega) (by omega) (by omega) h11 (by omega)).mono ?_
    rintro e w5 ⟨rfl, b5, o5⟩
    rw [HEL.out, show (2 : Int).toNat = 2 from rfl] at b5
    go_wp2
    go_end0
    exact ⟨rfl, ⟨_, b5, HR.out, by rw [SR.put_length, SR.lay_length, hlen3]; exact hx1⟩, (o3.trans o4).trans o5⟩
end Go.Proofs.YtjfkdfffolkblaaGreatDoor.SL
namespace Go.Proofs.YtjfkdfffolkblaaGreatDoor.SL
open UK (nth)
open SR (Recs rcd total)
/-- the list with a record more: in the first hole, or behind the last -/
def add (l : List (List UInt8)) (s : List UInt8) : List (List UInt8) := if hole l < l.length then l.set (hole l) s else l ++ [s]
theorem add_hole (l : List (List UInt8)) (s : List UInt8) (h : hole l < l.length) : add l s = l.set (hole l) s := by unfold add; rw [if_pos h]
theorem add_end (l : List (List UInt8)) (s : List UInt8) (h : hole l = l.length) : add l s = (l ++ [[]]).set l.length s := by
  unfold add; rw [if_neg (by omega), List.set_append_right _ _ (Nat.le_refl _)]; simp
theorem rcd_end (l : List (List UInt8)) : rcd (l ++ [[]]) l.length = [] := by simp [rcd]
/-- how many slots are left, when the last ones without a record go -/
def kept (l : List (List UInt8)) : Nat → Nat
  | 0 => 0
  | n + 1 => if rcd l n = [] then kept l n else n + 1
theorem kept_le (l : List (List UInt8)) (n : Nat) : kept l n ≤ n := by
  induction n with
  | zero => simp [kept]
  | succ n ih => simp only [kept]; split <;> omega
theorem kept_at (l : List (List UInt8)) (m n : Nat) (hm : m ≤ n) (h : ∀ j, m ≤ j → j < n → rcd l j = []) (h0 : 0 < m → rcd l (m - 1) ≠ []) : kept l n = m := by
  induction n with
  | zero => simp [kept]; omega
  | succ n ih =>
    by_cases hmn : m = n + 1
    · subst hmn
      have := h0 (by omega)
      simp only [Nat.add_sub_cancel] at this
      simp [kept, this]
    · simp only [kept]
      rw [if_pos (h n (by omega) (by omega)), ih (by omega) (fun j h1 h2 => h j h1 (by omega))]
theorem kept_spec (l : List (List UInt8)) (n : Nat) : (∀ j, kept l n ≤ j → j < n → rcd l j = []) ∧ (0 < kept l n → rcd l (kept l n - 1) ≠ []) := by
  induction n with
  | zero => simp [kept]
  | succ n ih =>
    by_cases h : rcd l n = []
    · simp only [kept, if_pos h]
      refine ⟨fun j h1 h2 => ?_, ih.2⟩
      by_cases hj : j = n
      · rw [hj]; exact h
      · exact ih.1 j h1 (by omega)
    · simp only [kept, if_neg h]
      exact ⟨fun j h1 h2 => by omega, fun _ => by simpa using h⟩
/-- the list without its last empty ones -/
def trim (l : List (List UInt8)) : List (List UInt8) := l.take (kept l l.length)
theorem rcd_take (l : List (List UInt8)) (n j : Nat) (h : j < n) : rcd (l.take n) j = rcd l j := by
  unfold rcd List.getD; rw [List.getElem?_take, if_pos h]
theorem total_zero (l : List (List UInt8)) (n : Nat) (h : ∀ j, n ≤ j → rcd l j = []) : total (l.take n) = total l := by
  induction l generalizing n with
  | nil => simp
  | cons s l ih =>
    cases n with
    | zero =>
      have hs : s = [] := h 0 (Nat.le_refl _)
      have := ih 0 (fun j _ => h (j + 1) (by omega))
      simp [total] at this ⊢
      rw [hs, ← this]; rfl
    | succ n =>
      have := ih n (fun j hj => h (j + 1) (by omega))
      simp [total, this]
/-- the last slots, all without a record, go -/
theorem shrink {x : List UInt8} {l : List (List UInt8)} (h : Recs x l) (n : Nat) (hn : n ≤ l.length) (hn0 : 0 < n) (hz : ∀ j, n ≤ j → j < l.length → rcd l j = []) : Recs (SR.put x 0 n) (l.take n) := by
  have hf := h.few
  have hsz := h.size
  have hz' : ∀ j, n ≤ j → rcd l j = [] := fun j hj => by
    by_cases hl : j < l.length
    · exact hz j hj hl
    · exact SR.rcd_out l j (by omega)
  have hlen : (l.take n).length = n := by rw [List.length_take]; omega
  have h2 : ∀ b, 2 ≤ b → SR.two (SR.put x 0 n) b = SR.two x b := fun b hb => SR.two_put_other _ _ _ _ (by omega) (by omega)
  have hp : ∀ i, SR.pos (SR.put x 0 n) i = SR.pos x i := fun i => h2 _ (by omega)
  have he : ∀ i, SR.ext (SR.put x 0 n) i = SR.ext x i := fun i => h2 _ (by omega)
  have hlow : SR.low (SR.put x 0 n) = SR.low x := h2 _ (by omega)
  refine ⟨by rw [SR.put_length]; exact hsz, ?_, ?_, ?_, ?_, ?_, ?_, ?_, ?_, ?_⟩
  · rw [hlen]; exact SR.two_put_same _ _ _ (by omega) (by omega)
  · rw [hlow, hlen]; have := h.low1; omega
  · rw [hlow]; exact h.low2
  · intro h0
    have : (l.take n).length = 0 := by rw [h0]; rfl
    omega
  · intro i hi h0
    rw [hlen] at hi
    rw [rcd_take l n i hi] at h0
    rw [hp, he]; exact h.hole i (by omega) h0
  · intro i hi hne
    rw [hlen] at hi
    rw [rcd_take l n i hi] at hne ⊢
    rw [hp, he, hlow]; exact h.there i (by omega) hne
  · intro i hi k hk
    rw [hlen] at hi
    rw [rcd_take l n i hi] at hk ⊢
    have ht := h.there i (by omega) (by intro e; rw [e] at hk; simp at hk)
    have := h.low1
    rw [hp, SR.nth_put_far _ _ _ _ (by omega) (by omega)]
    exact h.bytes i (by omega) k hk
  · intro i j hi hj hij hine hjne
    rw [hlen] at hi hj
    rw [rcd_take l n i hi] at hine ⊢
    rw [rcd_take l n j hj] at hjne ⊢
    rw [hp, hp]
    exact h.apart i j (by omega) (by omega) hij hine hjne
  · rw [hlen, total_zero l n hz']
    have := h.sum
    omega
theorem shrink0 {x : List UInt8} {l : List (List UInt8)} (h : Recs x l) : Recs (SR.put (SR.put x 0 0) 2 504) [] := by
  have hsz := h.size
  have e0 : SR.two (SR.put (SR.put x 0 0) 2 504) 0 = 0 := by
    rw [SR.two_put_other _ _ _ _ (by rw [SR.put_length]; omega) (by omega)]
    exact SR.two_put_same _ _ _ (by omega) (by decide)
  have e2 : SR.low (SR.put (SR.put x 0 0) 2 504) = 504 := SR.two_put_same _ _ _ (by rw [SR.put_length]; omega) (by decide)
  refine ⟨by rw [SR.put_length, SR.put_length]; exact hsz, e0, by rw [e2]; decide, by rw [e2]; decide, fun _ => e2, ?_, ?_, ?_, ?_, by simp [total]⟩
  · intro i hi; simp at hi
  · intro i hi; simp at hi
  · intro i hi; simp at hi
  · intro i j hi; simp at hi
theorem room_hole (l : List (List UInt8)) (h : hole l < l.length) : room l = 500 - 4 * l.length - total l := by unfold room; rw [if_neg (by omega)]; omega
theorem room_end (l : List (List UInt8)) (h : hole l = l.length) : room l = 496 - 4 * l.length - total l := by unfold room; rw [if_pos h]; omega
end Go.Proofs.YtjfkdfffolkblaaGreatDoor.SL
namespace Go.Proofs.YtjfkdfffolkblaaGreatDoor.SL
open Go.RowKit
open UK (str BytesAt nth Only)
open Go.BigFrame
open SR (Recs rcd total)
theorem init_any (B : Nat) (x : List UInt8) (c : Nat) (W : World) (h : BytesAt W B x) (hx : 504 ≤ x.length) :
    Calls Tryz.prog 84 #[.slice (some ⟨B, 0, none⟩) 504 c] W fun e w' => e = .returned (.tuple #[]) ∧ (∃ x', BytesAt w' B x' ∧ Recs x' [] ∧ x'.length = x.length) ∧ Only B W w' := by
  have hcl := UK.run_clear (P := Tryz.prog) (t := 92) (ty := 0) Tryz.underlying92 (fun w => by kernel_rfl) h 0 504 c (by omega)
  have b4 := h.setCells (UK.zeros 504) 0 (by rw [UK.zeros_length]; omega)
  have o4 := (Only.refl B W).setCells (UK.cellsOf (UK.zeros 504)) (o := 0)
  have hlen : (UK.wr x 0 (UK.zeros 504)).length = x.length := UK.wr_length _ _ _ (by rw [UK.zeros_length]; omega)
  have hi := Recs.init (UK.wr x 0 (UK.zeros 504)) (by omega) (fun i hi => by
    rw [SR.nth_wr _ _ _ (by rw [UK.zeros_length]; omega), if_pos (by rw [UK.zeros_length]; omega)]
    exact UK.nth_zeros _ _)
  have HI := Lib.hid hi
  have B4 := Lib.hid b4
  have O4 := Lib.hid o4
  have HL := Lib.hid hlen
  clear hi b4 o4 hlen
  go_enter Tryz.func84, Tryz.ntmps84
  go_wp2_with fail
  refine (put_any B _ c _ _ _ B4.out (by rw [HL.out]; exact hx) (by omega) (by omega) (by omega) (by omega)).mono ?_
  rintro e w3 ⟨rfl, b3, o3⟩
  go_wp2
  go_end0
  exact ⟨rfl, ⟨_, b3, HI.out, by rw [SR.put_length, HL.out]⟩, O4.out.trans o3⟩
theorem add_no (B : Nat) (x : List UInt8) (l : List (List UInt8)) (c : Nat) (s : List UInt8) (W : World) (h : BytesAt W B x) (r : Recs x l) (hn : room l < s.length ∨ s = []) :
    Calls Tryz.prog 85 #[.slice (some ⟨B, 0, none⟩) 504 c, .string (str s)] W fun e w' => e = .returned (.tuple #[.int .i64 0, .bool false]) ∧ Below W.heap.size W w' := by
  by_cases hr : room l < s.length
  · clear hn
    go_enter Tryz.func85, Tryz.ntmps85
    go_wp2_with fail
    refine (room_any B x l c W h r).mono ?_
    rintro e w1 ⟨rfl, hb⟩
    go_wp2
    go_ret2
    exact ⟨rfl, hb⟩
  · obtain rfl : s = [] := by rcases hn with h1 | h1; exact absurd h1 hr; exact h1
    simp only [List.length_nil] at hr
    clear hn
    go_enter Tryz.func85, Tryz.ntmps85
    go_wp2_with fail
    refine (room_any B x l c W h r).mono ?_
    rintro e w1 ⟨rfl, hb⟩
    go_wp2
    go_ret2
    exact ⟨rfl, hb⟩
theorem add_yes (B : Nat) (x : List UInt8) (l : List (List UInt8)) (c : Nat) (hc : 504 ≤ c) (s : List UInt8) (W : World) (h : BytesAt W B x) (r : Recs x l) (hs : s ≠ []) (hr : (s.length : Int) ≤ room l) :
    Calls Tryz.prog 85 #[.slice (some ⟨B, 0, none⟩) 504 c, .string (str s)] W fun e w' => e = .returned (.tuple #[.int .i64 (hole l : Nat), .bool true]) ∧ (∃ x', BytesAt w' B x' ∧ Recs x' (add l s) ∧ x'.length = x.length) ∧ Only B W w' := by
  have hf := r.few
  have hl2 := r.low2
  have hs0 : 0 < s.length := List.length_pos_iff.2 hs
  have HS0 := Lib.hid hs
  have hse : s.isEmpty = false := by cases s; exact absurd rfl hs; rfl
  have hle := hole_le l
  have hr0 : ¬ room l < s.length := by omega
  clear hs
  by_cases hh : hole l = l.length
  · have hrm := room_end l hh
    have hsum : 4 + 4 * (l.length + 1) + total l + s.length ≤ 504 := by omega
    have HR := Lib.hid hrm
    clear hrm
    replace hh := Lib.hid hh
    by_cases hlow : 4 + 4 * (l.length + 1) ≤ SR.low x
    · obtain ⟨x1, r1, hlow1, hx1, hb1⟩ : ∃ x1, Recs x1 l ∧ 4 + 4 * (l.length + 1) ≤ SR.low x1 ∧ x1.length = x.length ∧ ∀ w, Below W.heap.size W w → BytesAt w B x1 := ⟨x, r, hlow, rfl, fun w hb => h.below hb h.lt⟩
      have HB1 := Lib.hid hb1
      clear hb1
      go_enter Tryz.func85, Tryz.ntmps85
      go_wp2_with fail
      refine (room_any B x l c W h r).mono ?_
      rintro e w1 ⟨rfl, b1⟩
      go_wp2_with fail
      refine (empty_any B x l c w1 (h.below b1 h.lt) r).mono ?_
      rintro e w2 ⟨rfl, b2⟩
      have b12 := b1.trans (b2.mono b1.size)
      rw [hh.out]
      go_wp2_with fail
      refine (len_rec B x l c w2 (h.below b12 h.lt) r).mono ?_
      rintro e w' ⟨rfl, k1, rfl⟩
      have b13 := UK.belowN b12 k1
      go_wp2_with fail
      refine (low_any B x c _ (h.below b13 h.lt) r.size).mono ?_
      rintro e w' ⟨rfl, k2, rfl⟩
      go_wp2_with fail
      have b14 := UK.belowN b13 k2
      have hb1 := HB1.out _ b14
      have o1 := Only.of_below (B := B) b14
      simp only [World.drewN_drewN] at hb1 o1 ⊢
      generalize w2.drewN (k1 + k2) = w3 at hb1 o1 ⊢
      have hG := r1.grow hlow1 (by omega)
      have HG := Lib.hid hG
      have hsz1 := r1.size
      clear hG
      refine (put_any B x1 c _ _ w3 hb1 hsz1 (by omega) (by omega) (by omega) (by omega)).mono ?_
      rintro e w4 ⟨rfl, b4, o4⟩
      rw [show (0 : Int).toNat = 0 from rfl, show ((l.length : Int) + 1).toNat = l.length + 1 by omega] at b4
      go_wp2_with fail
      refine (lay_any B _ c _ _ _ w4 b4 (by rw [SR.put_length]; omega) (by omega) (by omega) (by omega) (by omega) (by omega) (by omega)).mono ?_
      rintro e w5 ⟨rfl, b5, o5⟩
      rw [Int.toNat_natCast, show (0 : Int).toNat = 0 from rfl] at b5
      go_wp2_with fail
      refine (store_any B _ (l ++ [[]]) c hc l.length s w5 b5 HG.out (by rw [List.length_append]; simp) (rcd_end l) HS0.out (by rw [List.length_append, SR.total_append]; simp [total]; omega)).mono ?_
      rintro e w6 ⟨rfl, ⟨x6, b6, r6, hx6⟩, o6⟩
      rw [← add_end l s hh.out] at r6
      rw [SR.lay_length, SR.put_length] at hx6
      go_wp2
      go_ret2
      exact ⟨by rw [hh.out] <;> rfl, ⟨x6, b6, r6, by rw [hx6]; exact hx1⟩, ((o1.trans o4).trans o5).trans o6⟩
    · go_enter Tryz.func85, Tryz.ntmps85
      go_wp2_with fail
      refine (room_any B x l c W h r).mono ?_
      rintro e w1 ⟨rfl, b1⟩
      go_wp2_with fail
      refine (empty_any B x l c w1 (h.below b1 h.lt) r).mono ?_
      rintro e w2 ⟨rfl, b2⟩
      have b12 := b1.trans (b2.mono b1.size)
      rw [hh.out]
      go_wp2_with fail
      refine (len_rec B x l c w2 (h.below b12 h.lt) r).mono ?_
      rintro e w' ⟨rfl, k1, rfl⟩
      have b13 := UK.belowN b12 k1
      go_wp2_with fail
      refine (low_any B x c _ (h.below b13 h.lt) r.size).mono ?_
      rintro e w' ⟨rfl, k2, rfl⟩
      go_wp2_with fail
      have b14 := UK.belowN b13 k2
      have hbx := h.below b14 h.lt
      have ox := Only.of_below (B := B) b14
      simp only [World.drewN_drewN] at hbx ox ⊢
      refine (pack_any B x l c hc _ hbx r (by omega)).mono ?_
      rintro e w3 ⟨rfl, ⟨x1, hb1, r1, hlowp, hx1⟩, o0⟩
      have hlow1 : 4 + 4 * (l.length + 1) ≤ SR.low x1 := by omega
      have o1 : Only B W w3 := ox.trans o0
      clear hlowp
      go_wp2_with fail
      have hG := r1.grow hlow1 (by omega)
      have HG := Lib.hid hG
      have hsz1 := r1.size
      clear hG
      refine (put_any B x1 c _ _ w3 hb1 hsz1 (by omega) (by omega) (by omega) (by omega)).mono ?_
      rintro e w4 ⟨rfl, b4, o4⟩
      rw [show (0 : Int).toNat = 0 from rfl, show ((l.length : Int) + 1).toNat = l.length + 1 by omega] at b4
      go_wp2_with fail
      refine (lay_any B _ c _ _ _ w4 b4 (by rw [SR.put_length]; omega) (by omega) (by omega) (by omega) (by omega) (by omega) (by omega)).mono ?_
      rintro e w5 ⟨rfl, b5, o5⟩
      rw [Int.toNat_natCast, show (0 : Int).toNat = 0 from rfl] at b5
      go_wp2_with fail
      refine (store_any B _ (l ++ [[]]) c hc l.length s w5 b5 HG.out (by rw [List.length_append]; simp) (rcd_end l) HS0.out (by rw [List.length_append, SR.total_append]; simp [total]; omega)).mono ?_
      rintro e w6 ⟨rfl, ⟨x6, b6, r6, hx6⟩, o6⟩
      rw [← add_end l s hh.out] at r6
      rw [SR.lay_length, SR.put_length] at hx6
      go_wp2
      go_ret2
      exact ⟨by rw [hh.out] <;> rfl, ⟨x6, b6, r6, by rw [hx6]; exact hx1⟩, ((o1.trans o4).trans o5).trans o6⟩
  · have hlt : hole l < l.length := by omega
    have hrm := room_hole l hlt
    have hsum : 4 + 4 * l.length + total l + s.length ≤ 504 := by omega
    have hb0 : ((hole l : Int) == (l.length : Int)) = false := by rw [beq_eq_false_iff_ne]; omega
    have HA := Lib.hid (add_hole l s hlt)
    have HZ := Lib.hid ((hole_spec l).2 hlt)
    clear hrm hh
    go_enter Tryz.func85, Tryz.ntmps85
    go_wp2_with fail
    refine (room_any B x l c W h r).mono ?_
    rintro e w1 ⟨rfl, b1⟩
    go_wp2_with fail
    refine (empty_any B x l c w1 (h.below b1 h.lt) r).mono ?_
    rintro e w2 ⟨rfl, b2⟩
    have b12 := b1.trans (b2.mono b1.size)
    go_wp2_with fail
    refine (len_rec B x l c w2 (h.below b12 h.lt) r).mono ?_
    rintro e w' ⟨rfl, k1, rfl⟩
    have b13 := UK.belowN b12 k1
    go_wp2_with fail
    refine (store_any B x l c hc (hole l) s _ (h.below b13 h.lt) r hlt HZ.out HS0.out hsum).mono ?_
    rintro e w5 ⟨rfl, ⟨x5, b5, r5, hx5⟩, o5⟩
    rw [← HA.out] at r5
    go_wp2
    go_ret2
    exact ⟨rfl, ⟨x5, b5, r5, hx5⟩, (Only.of_below b13).trans o5⟩
theorem rcd_nat (l : List (List UInt8)) (i : Int) (h : hasB l i = true) : ∃ k : Nat, i = k ∧ k < l.length ∧ rcd l k ≠ [] := by
  unfold hasB at h
  obtain ⟨h0, h1, h2⟩ := of_decide_eq_true h
  obtain ⟨k, rfl⟩ := Int.eq_ofNat_of_zero_le h0
  exact ⟨k, rfl, by omega, by simpa using h2⟩
theorem hasB_nat (l : List (List UInt8)) (k : Nat) (h1 : k < l.length) (h2 : rcd l k ≠ []) : hasB l k = true := by
  unfold hasB; simp [h1, h2]
theorem has_no (B : Nat) (x : List UInt8) (l : List (List UInt8)) (c : Nat) (i : Int) (W : World) (h : BytesAt W B x) (r : Recs x l) (hn : hasB l i = false) :
    Calls Tryz.prog 98 #[.slice (some ⟨B, 0, none⟩) 504 c, .int .i64 i] W fun e w' => e = .returned (.bool false) ∧ Below W.heap.size W w' := by
  have := has_any B x l c i W h r
  rwa [hn] at this
theorem has_yes (B : Nat) (x : List UInt8) (l : List (List UInt8)) (c k : Nat) (W : World) (h : BytesAt W B x) (r : Recs x l) (h1 : k < l.length) (h2 : rcd l k ≠ []) :
    Calls Tryz.prog 98 #[.slice (some ⟨B, 0, none⟩) 504 c, .int .i64 k] W fun e w' => e = .returned (.bool true) ∧ Below W.heap.size W w' := by
  have := has_any B x l c k W h r
  rwa [hasB_nat l k h1 h2] at this
theorem set_none (B : Nat) (x : List UInt8) (l : List (List UInt8)) (c : Nat) (i : Int) (s : List UInt8) (W : World) (h : BytesAt W B x) (r : Recs x l) (hn : hasB l i = false) :
    Calls Tryz.prog 87 #[.slice (some ⟨B, 0, none⟩) 504 c, .int .i64 i, .string (str s)] W fun e w' => e = .returned (.bool false) ∧ Below W.heap.size W w' := by
  have H := Lib.hid (has_no B x l c i W h r hn)
  clear hn
  go_enter Tryz.func87, Tryz.ntmps87
  go_wp2_with fail
  refine H.out.mono ?_
  rintro e w1 ⟨rfl, hb⟩
  go_wp2
  go_ret
  exact ⟨rfl, hb⟩
theorem set_void (B : Nat) (x : List UInt8) (l : List (List UInt8)) (c k : Nat) (W : World) (h : BytesAt W B x) (r : Recs x l) (h1 : k < l.length) (h2 : rcd l k ≠ []) :
    Calls Tryz.prog 87 #[.slice (some ⟨B, 0, none⟩) 504 c, .int .i64 k, .string (str [])] W fun e w' => e = .returned (.bool false) ∧ Below W.heap.size W w' := by
  have H := Lib.hid (has_yes B x l c k W h r h1 h2)
  clear h2
  go_enter Tryz.func87, Tryz.ntmps87
  go_wp2_with fail
  refine H.out.mono ?_
  rintro e w1 ⟨rfl, hb⟩
  go_wp2
  go_ret
  exact ⟨rfl, hb⟩
theorem set_big (B : Nat) (x : List UInt8) (l : List (List UInt8)) (c k : Nat) (s : List UInt8) (W : World) (h : BytesAt W B x) (r : Recs x l) (h1 : k < l.length) (h2 : rcd l k ≠ []) (hs : s ≠ []) (hbig : 504 + (rcd l k).length < 4 + 4 * l.length + total l + s.length) :
    Calls Tryz.prog 87 #[.slice (some ⟨B, 0, none⟩) 504 c, .int .i64 k, .string (str s)] W fun e w' => e = .returned (.bool false) ∧ Below W.heap.size W w' := by
  have hf := r.few
  have hsum := r.sum
  have H := Lib.hid (has_yes B x l c k W h r h1 h2)
  have hle := SR.rcd_length_le l k
  have hse : s.isEmpty = false := by cases s; exact absurd rfl hs; rfl
  have hbig2 : (500 : Int) - 4 * l.length - total l + (rcd l k).length < s.length := by omega
  clear h2 hs
  go_enter Tryz.func87, Tryz.ntmps87
  go_wp2_with fail
  refine H.out.mono ?_
  rintro e w1 ⟨rfl, b1⟩
  go_wp2_with fail
  refine (slot_there B x l c k w1 (h.below b1 h.lt) r h1).mono ?_
  rintro e w' ⟨rfl, k1, rfl⟩
  have b2 := UK.belowN b1 k1
  generalize w1.drewN k1 = w2 at b2 ⊢
  go_wp2_with fail
  refine (len_rec B x l c _ (h.below b2 h.lt) r).mono ?_
  rintro e w' ⟨rfl, k2, rfl⟩
  have b3 := UK.belowN b2 k2
  generalize w2.drewN k2 = w3 at b3 ⊢
  go_wp2_with fail
  refine (used_any B x l c _ (h.below b3 h.lt) r).mono ?_
  rintro e w4 ⟨rfl, b4⟩
  go_wp2
  go_ret
  exact ⟨rfl, b3.trans (b4.mono b3.size)⟩
theorem set_yes (B : Nat) (x : List UInt8) (l : List (List UInt8)) (c : Nat) (hc : 504 ≤ c) (k : Nat) (s : List UInt8) (W : World) (h : BytesAt W B x) (r : Recs x l) (h1 : k < l.length) (h2 : rcd l k ≠ []) (hs : s ≠ []) (hfit : 4 + 4 * l.length + total l + s.length ≤ 504 + (rcd l k).length) :
    Calls Tryz.prog 87 #[.slice (some ⟨B, 0, none⟩) 504 c, .int .i64 k, .string (str s)] W fun e w' => e = .returned (.bool true) ∧ (∃ x', BytesAt w' B x' ∧ Recs x' (l.set k s) ∧ x'.length = x.length) ∧ Only B W w' := by
  have hf := r.few
  have hsum := r.sum
  have H := Lib.hid (has_yes B x l c k W h r h1 h2)
  have hle := SR.rcd_length_le l k
  have hse : s.isEmpty = false := by cases s; exact absurd rfl hs; rfl
  have hfit2 : ¬ (500 : Int) - 4 * l.length - total l + (rcd l k).length < s.length := by omega
  have HS0 := Lib.hid hs
  have HD := Lib.hid (r.drop h1)
  have hts := SR.total_set l k [] h1
  rw [List.length_nil] at hts
  have hsz := r.size
  clear h2 hs
  go_enter Tryz.func87, Tryz.ntmps87
  go_wp2_with fail
  refine H.out.mono ?_
  rintro e w1 ⟨rfl, b1⟩
  go_wp2_with fail
  refine (slot_there B x l c k w1 (h.below b1 h.lt) r h1).mono ?_
  rintro e w' ⟨rfl, k1, rfl⟩
  have b2 := UK.belowN b1 k1
  generalize w1.drewN k1 = w2 at b2 ⊢
  go_wp2_with fail
  refine (len_rec B x l c _ (h.below b2 h.lt) r).mono ?_
  rintro e w' ⟨rfl, k2, rfl⟩
  have b3 := UK.belowN b2 k2
  generalize w2.drewN k2 = w3 at b3 ⊢
  go_wp2_with fail
  refine (used_any B x l c _ (h.below b3 h.lt) r).mono ?_
  rintro e w4 ⟨rfl, b4⟩
  have b5 := b3.trans (b4.mono b3.size)
  go_wp2_with fail
  refine (lay_any B x c _ _ _ w4 (h.below b5 h.lt) hsz (by omega) (by omega) (by omega) (by omega) (by omega) (by omega)).mono ?_
  rintro e w6 ⟨rfl, b6, o6⟩
  rw [Int.toNat_natCast, show (0 : Int).toNat = 0 from rfl] at b6
  go_wp2_with fail
  refine (store_any B _ (l.set k []) c hc k s w6 b6 HD.out (by rw [List.length_set]; exact h1) (by rw [SR.rcd_set, if_pos ⟨rfl, h1⟩]) HS0.out (by rw [List.length_set]; omega)).mono ?_
  rintro e w7 ⟨rfl, ⟨x7, b7, r7, hx7⟩, o7⟩
  rw [List.set_set] at r7
  go_wp2
  go_ret
  exact ⟨rfl, ⟨x7, b7, r7, by rw [hx7, SR.lay_length]⟩, ((Only.of_below b5).trans o6).trans o7⟩
theorem drop_no (B : Nat) (x : List UInt8) (l : List (List UInt8)) (c : Nat) (i : Int) (W : World) (h : BytesAt W B x) (r : Recs x l) (hn : hasB l i = false) :
    Calls Tryz.prog 46 #[.slice (some ⟨B, 0, none⟩) 504 c, .int .i64 i] W fun e w' => e = .returned (.bool false) ∧ Below W.heap.size W w' := by
  have H := Lib.hid (has_no B x l c i W h r hn)
  clear hn
  go_enter Tryz.func46, Tryz.ntmps46
  go_wp2_with fail
  refine H.out.mono ?_
  rintro e w1 ⟨rfl, hb⟩
  go_wp2
  go_ret
  exact ⟨rfl, hb⟩
theorem drop_yes (B : Nat) (x : List UInt8) (l : List (List UInt8)) (c k : Nat) (W : World) (h : BytesAt W B x) (r : Recs x l) (h1 : k < l.length) (h2 : rcd l k ≠ []) :
    Calls Tryz.prog 46 #[.slice (some ⟨B, 0, none⟩) 504 c, .int .i64 k] W fun e w' => e = .returned (.bool true) ∧ (∃ x', BytesAt w' B x' ∧ Recs x' (trim (l.set k [])) ∧ x'.length = x.length) ∧ Only B W w' := by
  have hf := r.few
  have H := Lib.hid (has_yes B x l c k W h r h1 h2)
  have hsz := r.size
  have hD := r.drop h1
  have hL1 : (SR.lay x k 0 0).length = x.length := SR.lay_length _ _ _ _
  generalize hm : l.set k [] = m at *
  generalize hx1 : SR.lay x k 0 0 = x1 at *
  have HX1 := Lib.hid hx1
  have HL := Lib.hid hL1
  clear h2 hx1 hm hL1
  have hf1 := hD.few
  have hl1 := hD.low1
  have hsz1 := hD.size
  go_enter Tryz.func46, Tryz.ntmps46
  go_wp2_with fail
  refine H.out.mono ?_
  rintro e w1 ⟨rfl, b1⟩
  go_wp2_with fail
  refine (lay_any B x c _ _ _ w1 (h.below b1 h.lt) hsz (by omega) (by omega) (by omega) (by omega) (by omega) (by omega)).mono ?_
  rintro e w6 ⟨rfl, b6, o6⟩
  rw [Int.toNat_natCast, show (0 : Int).toNat = 0 from rfl, HX1.out] at b6
  go_wp2_with fail
  refine (len_rec B x1 m c w6 b6 hD).mono ?_
  rintro e w' ⟨rfl, k1, rfl⟩
  go_wp2_with fail
  go_loopw [5] (fun n wr => ∃ q : Nat, q ≤ m.length ∧ n = .int .i64 q ∧ Hid (∀ j, q ≤ j → j < m.length → rcd m j = []) ∧ Below w6.heap.size w6 wr) (fun n _ => (intOf n).toNat)
  case atStart => exact ⟨m.length, Nat.le_refl _, rfl, fun j h1 h2 => absurd h1 (by omega), UK.belowN (Below.refl _ _) _⟩
  case round =>
    obtain ⟨q, hq, rfl, HJ, hb⟩ := hrel
    have hbx := b6.below hb b6.lt
    have ob : Only B W _ := ((Only.of_below (B := B) b1).trans o6).trans (Only.of_below hb)
    cases q with
    | zero =>
      have hk0 : kept m m.length = 0 := kept_at m 0 m.length (Nat.zero_le _) HJ.out (fun h => absurd h (Nat.lt_irrefl _))
      have HT : Hid (trim m = []) := by show _ = _; unfold trim; rw [hk0]; rfl
      have HR := Lib.hid (shrink0 hD)
      clear hk0
      go_wp2_with fail
      refine (put_any B x1 c _ _ _ hbx hsz1 (by omega) (by omega) (by omega) (by omega)).mono ?_
      rintro e w7 ⟨rfl, b7, o7⟩
      rw [show (0 : Int).toNat = 0 from rfl] at b7
      go_wp2_with fail
      refine (put_any B _ c _ _ w7 b7 (by rw [SR.put_length]; exact hsz1) (by omega) (by omega) (by omega) (by omega)).mono ?_
      rintro e w8 ⟨rfl, b8, o8⟩
      go_wp2
      go_ret
      exact ⟨rfl, ⟨_, b8, by rw [HT.out]; exact HR.out, by rw [SR.put_length, SR.put_length]; exact HL.out⟩, (ob.trans o7).trans o8⟩
    | succ q =>
      by_cases h0 : rcd m q = []
      · have HJ2 : Hid (∀ j, q ≤ j → j < m.length → rcd m j = []) := fun j hj1 hj2 => by
          by_cases hjq : j = q
          · rw [hjq]; exact h0
          · exact HJ.out j (by omega) hj2
        have HSL := Lib.hid (slot_hole B x1 m c q _ hbx hD (by omega) h0)
        clear h0
        go_wp2_with fail
        refine HSL.out.mono ?_
        rintro e w' ⟨rfl, k2, rfl⟩
        go_wp2
        go_roundw
        case rel => exact ⟨q, by omega, by go_num, HJ2, UK.belowN hb _⟩
        case measure => simp [intOf]
      · have hkq : kept m m.length = q + 1 := kept_at m (q + 1) m.length hq HJ.out (fun _ => by simpa using h0)
        have HT : Hid (trim m = m.take (q + 1)) := by show _ = _; unfold trim; rw [hkq]
        have HR := Lib.hid (shrink hD (q + 1) hq (by omega) HJ.out)
        have HSL := Lib.hid (slot_there B x1 m c q _ hbx hD (by omega))
        have hp := (hD.there q (by omega) h0).1
        have hp0 : 0 < SR.pos x1 q := by omega
        clear hkq h0 hp
        go_wp2_with fail
        refine HSL.out.mono ?_
        rintro e w' ⟨rfl, k2, rfl⟩
        go_wp2_with fail
        refine (put_any B x1 c _ _ _ (hbx.drewN k2) hsz1 (by omega) (by omega) (by omega) (by omega)).mono ?_
        rintro e w7 ⟨rfl, b7, o7⟩
        rw [show (0 : Int).toNat = 0 from rfl, show ((q : Int) + 1).toNat = q + 1 by omega] at b7
        have hq0 : ((q : Int) + 1 == 0) = false := by rw [beq_eq_false_iff_ne]; omega
        go_wp2
        go_ret
        exact ⟨rfl, ⟨_, b7, by rw [HT.out]; exact HR.out, by rw [SR.put_length]; exact HL.out⟩, (ob.drewN k2).trans o7⟩
end Go.Proofs.YtjfkdfffolkblaaGreatDoor.SL
