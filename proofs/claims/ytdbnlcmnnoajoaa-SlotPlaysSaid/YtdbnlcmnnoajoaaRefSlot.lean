/-
  The document's answer for slot, walked at a slice of texts.
-/
import Derived.Test.YtdbnlcmnnoajoaaLawStays
import Derived.Test.YtdbnlcmnnoajoaaUTexts
namespace Go.Proofs.Ytdbnlcmnnoajoaa
open Go.RowKit
open UK (str BytesAt nth Only Texts)
open Go.BigFrame
open SR (Recs rcd total)
def slen (v : Value) : Nat := match v with | .slice _ n _ => n | _ => 0
theorem text_at {W : World} {N g c : Nat} {l : List (List UInt8)} (h : Texts W N g c l) (k : Nat) (hk : k < l.length) : W.cell? ⟨g, k, none⟩ = some (.string (str (rcd l k))) := h.holds k hk
theorem nonempty {s : List UInt8} (h : s ≠ []) : s.isEmpty = false := by cases s; exact absurd rfl h; rfl
theorem ref_live {W : World} {N g c : Nat} {l : List (List UInt8)} (h : Texts W N g c l) (hl : l.length ≤ 1000) :
    Calls Try.prog 30 #[.slice (some ⟨g, 0, none⟩) l.length c] W fun e w' => e = .returned (.int .i64 (live l : Nat)) ∧ ∃ q, w' = W.drewN q := by
  go_enter Try.func30, Try.ntmps30
  go_wp2_with fail
  go_loopw [3, 8] (fun n i wr => ∃ k q : Nat, k ≤ l.length ∧ i = .int .i64 k ∧ n = .int .i64 (live (l.take k) : Nat) ∧ wr = W.drewN q) (fun _ i _ => l.length - (intOf i).toNat)
  case atStart => exact ⟨0, 0, Nat.zero_le _, rfl, rfl, rfl⟩
  case round =>
    obtain ⟨k, q, hk, rfl, rfl, rfl⟩ := hrel
    by_cases hlt : k < l.length
    · have hle := live_le (l.take k)
      rw [List.length_take] at hle
      have HT := Lib.hid (live_take l k hlt)
      have hc := text_at (h.drewN q) k hlt
      by_cases h0 : rcd l k = []
      · have HT2 : Hid (live (l.take (k + 1)) = live (l.take k)) := by show _ = _; rw [HT.out, if_pos h0]; rfl
        rw [h0] at hc
        clear h0
        go_wp2
        go_roundw
        case rel => exact ⟨k + 1, q, by omega, by go_num, by rw [HT2.out], rfl⟩
        case measure => simp [intOf]; omega
      · have HT2 : Hid (live (l.take (k + 1)) = live (l.take k) + 1) := by show _ = _; rw [HT.out, if_neg h0]
        have he := nonempty h0
        go_wp2
        go_roundw
        case rel => exact ⟨k + 1, q, by omega, by go_num, by rw [HT2.out]; go_num, rfl⟩
        case measure => simp [intOf]; omega
    · go_wp2
      go_ret
      exact ⟨by rw [List.take_of_length_le (by omega)] <;> rfl, _, rfl⟩
theorem hole_live (l : List (List UInt8)) : (hole l = l.length) ↔ live l = l.length :=
  ⟨live_of_all l, fun h => hole_all l (live_all l h)⟩
theorem room_live (l : List (List UInt8)) : room l = 500 - 4 * l.length - total l - (if live l = l.length then 4 else 0) := by
  unfold room
  by_cases h : hole l = l.length
  · rw [if_pos h, if_pos ((hole_live l).1 h)]
  · rw [if_neg h, if_neg (fun e => h ((hole_live l).2 e))]
theorem ref_room {W : World} {N g c : Nat} {l : List (List UInt8)} (h : Texts W N g c l) (hf : 4 * l.length + total l ≤ 500) :
    Calls Try.prog 31 #[.slice (some ⟨g, 0, none⟩) l.length c] W fun e w' => e = .returned (.int .i64 (room l)) ∧ ∃ q, w' = W.drewN q := by
  go_enter Try.func31, Try.ntmps31
  go_wp2_with fail
  go_loopw [3, 4, 9] (fun n z i wr => ∃ (k q y : Nat) (m : Int), k ≤ l.length ∧ 0 ≤ m ∧ m ≤ 500 ∧ y ≤ k ∧ i = .int .i64 k ∧ n = .int .i64 m ∧ z = .int .i64 y ∧ Hid (m + 4 * k + total (l.take k) = 500) ∧ Hid (y + live (l.take k) = k) ∧ wr = W.drewN q) (fun _ _ i _ => l.length - (intOf i).toNat)
  case atStart => exact ⟨0, 0, 0, 500, Nat.zero_le _, by omega, by omega, by omega, rfl, rfl, rfl, by show _ = _; simp [total], by show _ = _; simp [live], rfl⟩
  case round =>
    obtain ⟨k, q, y, m, hk, hm0, hm5, hy, rfl, rfl, rfl, HM, HY, rfl⟩ := hrel
    by_cases hlt : k < l.length
    · have HT := Lib.hid (live_take l k hlt)
      have HS := SR.total_take_succ l k hlt
      have hsl := SR.total_take_le l (k + 1)
      have hm := HM.out
      have hc := text_at (h.drewN q) k hlt
      have hml : (4 + (rcd l k).length : Int) ≤ m := by omega
      have HM2 : Hid ((m - (4 + (rcd l k).length : Int)) + 4 * ((k + 1 : Nat) : Int) + total (l.take (k + 1)) = 500) := by show _ = _; omega
      have HML := Lib.hid hml
      clear hsl hm hml HS
      have hl6 : (rcd l k).length ≤ 500 := by have := HML.out; omega
      by_cases h0 : rcd l k = []
      · have HY2 : Hid ((y + 1) + live (l.take (k + 1)) = k + 1) := by show _ = _; rw [HT.out, if_pos h0]; have := HY.out; omega
        rw [h0] at hc HM2 HML
        clear h0 hl6
        go_wp2
        go_roundw
        case rel => exact ⟨k + 1, q, y + 1, m - 4, by omega, by have := HML.out; simp at this; omega, by omega, by omega, by go_num, by go_num, by go_num, by have := HM2.out; show _ = _; simpa using this, HY2, rfl⟩
        case measure => simp [intOf]; omega
      · have HY2 : Hid (y + live (l.take (k + 1)) = k + 1) := by show _ = _; rw [HT.out, if_neg h0]; have := HY.out; omega
        have he := nonempty h0
        clear h0
        go_wp2
        go_roundw
        case rel => exact ⟨k + 1, q, y, m - (4 + (rcd l k).length : Int), by omega, by have := HML.out; omega, by omega, by omega, by go_num, by go_num, by go_num, HM2, HY2, rfl⟩
        case measure => simp [intOf]; omega
    · have hk2 : k = l.length := by omega
      subst hk2
      have et : l.take l.length = l := List.take_length
      have hm := HM.out
      have hy2 := HY.out
      rw [et] at hm hy2
      have hR : Hid (room l = m - (if y = 0 then 4 else 0)) := by
        show _ = _
        rw [room_live]
        by_cases hz : y = 0
        · rw [if_pos hz, if_pos (by omega)]; omega
        · rw [if_neg hz, if_neg (by omega)]; omega
      clear hm hy2
      by_cases hz : y = 0
      · subst hz
        go_wp2
        go_ret
        exact ⟨by rw [hR.out] <;> rfl, _, rfl⟩
      · have hz1 : 1 ≤ y := by omega
        have hR2 : Hid (room l = m) := by show _ = _; rw [hR.out, if_neg hz]; omega
        clear hz
        go_wp2
        go_ret
        exact ⟨by rw [hR2.out] <;> rfl, _, rfl⟩
theorem ref_has {W : World} {N g c : Nat} {l : List (List UInt8)} (h : Texts W N g c l) (i : Int) :
    Calls Try.prog 36 #[.slice (some ⟨g, 0, none⟩) l.length c, .int .i64 i] W fun e w' => e = .returned (.bool (hasB l i)) ∧ w' = W := by
  by_cases hi : 0 ≤ i ∧ i < l.length
  · obtain ⟨k, rfl⟩ : ∃ k : Nat, i = k := ⟨i.toNat, by omega⟩
    have hk : k < l.length := by omega
    have hc := text_at h k hk
    by_cases h0 : rcd l k = []
    · have HB : Hid (hasB l k = false) := by show _ = _; unfold hasB; simp [h0]
      rw [h0] at hc
      clear h0
      go_enter Try.func36, Try.ntmps36
      go_wp2
      go_ret
      exact ⟨by rw [HB.out] <;> rfl, rfl⟩
    · have HB : Hid (hasB l k = true) := by show _ = _; unfold hasB; simp [h0, hk]
      have he := nonempty h0
      clear h0
      go_enter Try.func36, Try.ntmps36
      go_wp2
      go_ret
      exact ⟨by rw [HB.out] <;> rfl, rfl⟩
  · have HB : Hid (hasB l i = false) := by
      show _ = _
      unfold hasB
      exact decide_eq_false (fun ⟨a, b, _⟩ => hi ⟨a, b⟩)
    go_enter Try.func36, Try.ntmps36
    by_cases h0 : 0 ≤ i
    · have h1 : (l.length : Int) ≤ i := by omega
      clear hi
      go_wp2
      go_ret
      exact ⟨by rw [HB.out] <;> rfl, rfl⟩
    · have h1 : i < 0 := by omega
      clear hi h0
      go_wp2
      go_ret
      exact ⟨by rw [HB.out] <;> rfl, rfl⟩
theorem run_copied {W : World} {N g c : Nat} {l : List (List UInt8)} (h : Texts W N g c l) (hN : N ≤ W.heap.size) (hl : l.length ≤ 1000) (q : Nat) :
    ∃ g' c' W', (Builtin.append_ #[38, 38] 38 #[.slice (some ⟨W.heap.size, 0, none⟩) 0 0, .slice (some ⟨g, 0, none⟩) l.length c]).run Try.prog ((W.drewN q).alloc (.cells #[] 9)) =
      .ok (.slice (some ⟨g', 0, none⟩) l.length c') W' ∧ Texts W' N g' c' l ∧ W.heap.size ≤ g' ∧ Below W.heap.size W W' := by
  have b1 : Below W.heap.size W ((W.drewN q).alloc (.cells #[] 9)) := (UK.belowN (Below.refl _ _) q).alloc (by simp) _
  have t0 : Texts ((W.drewN q).alloc (.cells #[] 9)) N W.heap.size 0 [] := ⟨hN, by simp, Nat.le_refl _, fun j hj => absurd hj (Nat.not_lt_zero _), fun j hj => absurd hj (Nat.not_lt_zero _)⟩
  have t1 := h.below b1 h.lt
  obtain ⟨g', c', W', e, t, o, hg⟩ := UK.push (P := Try.prog) (t := 38) (tx := 38) (ty := 38) Try.underlying38 (i := Try.t9) rfl rfl rfl rfl rfl t0 (Nat.le_trans hN (by simp))
    (x := .slice (some ⟨g, 0, none⟩) l.length c) (m := l) (Src.ofSlice _ Try.underlying38 ⟨g, 0, none⟩ l.length c (UK.tcells l) (by rw [UK.tcells_length, Nat.mul_one]) (fun j v hj => by
      have hjl : j < l.length := by
        by_cases hc : j < l.length
        · exact hc
        · rw [List.getElem?_eq_none (by rw [UK.tcells_length]; omega)] at hj; cases hj
      rw [UK.tcells_get l j hjl] at hj
      rw [UK.add_mk, Nat.zero_add]
      exact (t1.holds j hjl).trans hj) (fun u hu => by
        obtain ⟨_, _, rfl⟩ := List.mem_map.1 hu
        rfl)) (by simp; omega)
  rw [List.nil_append] at e t
  refine ⟨g', c', W', e, t, ?_, b1.trans (o.below (by simp) (Nat.le_refl _))⟩
  rcases hg with rfl | rfl
  · exact Nat.le_refl _
  · simp
theorem run_pushed {W : World} {N g c : Nat} {l : List (List UInt8)} (h : Texts W N g c l) (hN : N ≤ W.heap.size) (hl : l.length ≤ 1000) (s : List UInt8) :
    ∃ g' c' W', (Builtin.append_ #[38, 38] 38 #[.slice (some ⟨g, 0, none⟩) l.length c, .slice (some ⟨W.heap.size, 0, none⟩) 1 1]).run Try.prog (W.alloc (.cells #[.string (str s)] 9)) =
      .ok (.slice (some ⟨g', 0, none⟩) (l ++ [s]).length c') W' ∧ Texts W' N g' c' (l ++ [s]) ∧ Only g W W' := by
  have t1 := h.alloc (.cells #[.string (str s)] 9)
  obtain ⟨g', c', W', e, t, o, hg⟩ := UK.push (P := Try.prog) (t := 38) (tx := 38) (ty := 38) Try.underlying38 (i := Try.t9) rfl rfl rfl rfl rfl t1 (Nat.le_trans hN (by simp))
    (x := .slice (some ⟨W.heap.size, 0, none⟩) 1 1) (m := [s]) (Src.ofSlice _ Try.underlying38 ⟨W.heap.size, 0, none⟩ 1 1 (UK.tcells [s]) rfl (fun j v hj => by
      have hj0 : j = 0 := by
        by_cases hc : j < 1
        · omega
        · rw [List.getElem?_eq_none (by rw [UK.tcells_length]; simp; omega)] at hj; cases hj
      subst hj0
      rw [UK.add_mk, Nat.zero_add]
      refine (World.cell?_alloc_new W #[.string (str s)] 9 0).trans ?_
      exact hj) (fun u hu => by
        obtain ⟨_, _, rfl⟩ := List.mem_map.1 hu
        rfl)) (by simp; omega)
  exact ⟨g', c', W', e, t, ((Only.refl g W).alloc _).trans o⟩
theorem ref_add {W : World} {N g c : Nat} {l : List (List UInt8)} (h : Texts W N g c l) (hN : N ≤ W.heap.size) (hf : 4 * l.length + total l ≤ 500) (s : List UInt8) (hs : s.length ≤ 600) :
    Calls Try.prog 32 #[.slice (some ⟨g, 0, none⟩) l.length c, .string (str s)] W fun e w' =>
      ∃ g' c', e = .returned (.tuple #[.slice (some ⟨g', 0, none⟩) (addL l s).length c', .int .i64 (addI l s), .bool (addB l s)]) ∧ Texts w' N g' c' (addL l s) ∧ Below W.heap.size W w' := by
  by_cases hn : s = []
  · subst hn
    have HL : Hid (addL l [] = l) := by show _ = _; unfold addL; simp
    have HI : Hid (addI l [] = 0) := by show _ = _; unfold addI; simp
    have HB : Hid (addB l [] = false) := by show _ = _; unfold addB; simp
    go_enter Try.func32, Try.ntmps32
    go_wp2
    go_ret3
    rw [HL.out, HI.out, HB.out]
    exact ⟨g, c, rfl, h, Below.refl _ _⟩
  have hse := nonempty hn
  have hroom := ref_room h hf
  by_cases hr : room l < s.length
  · have HL : Hid (addL l s = l) := by show _ = _; unfold addL; simp [hr]
    have HI : Hid (addI l s = 0) := by show _ = _; unfold addI; simp [hr]
    have HB : Hid (addB l s = false) := by show _ = _; unfold addB; simp [hr]
    clear hn
    go_enter Try.func32, Try.ntmps32
    go_wp2_with fail
    refine (hroom).mono ?_
    rintro e w' ⟨rfl, q, rfl⟩
    go_wp2
    go_ret3
    rw [HL.out, HI.out, HB.out]
    exact ⟨g, c, rfl, h.drewN _, UK.belowN (Below.refl _ _) _⟩
  have hr2 : (s.length : Int) ≤ room l := by omega
  have HL : Hid (addL l s = add l s) := by show _ = _; unfold addL; rw [if_neg (by simp [hr, hn])]
  have HI : Hid (addI l s = (hole l : Nat)) := by show _ = _; unfold addI; rw [if_neg (by simp [hr, hn])]
  have HB : Hid (addB l s = true) := by show _ = _; unfold addB; rw [if_neg (by simp [hr, hn])]
  clear hn hr
  go_enter Try.func32, Try.ntmps32
  go_wp2_with fail
  refine (hroom).mono ?_
  rintro e w' ⟨rfl, q0, rfl⟩
  go_wp2_with fail
  go_loopw [22] (fun i wr => ∃ k q : Nat, k ≤ l.length ∧ i = .int .i64 k ∧ Hid (∀ j, j < k → rcd l j ≠ []) ∧ wr = W.drewN q) (fun i _ => l.length - (intOf i).toNat)
  case atStart => exact ⟨0, q0, Nat.zero_le _, rfl, fun j hj => absurd hj (Nat.not_lt_zero _), rfl⟩
  case round =>
    obtain ⟨k, q, hk, rfl, HJ, rfl⟩ := hrel
    by_cases hlt : k < l.length
    · have hc := text_at (h.drewN q) k hlt
      by_cases h0 : rcd l k = []
      · have HH : Hid (hole l = k) := by show _ = _; exact hole_at l k hk HJ.out (fun _ => h0)
        have HA : Hid (add l s = l.set k s) := by show _ = _; unfold add; rw [HH.out, if_pos hlt]
        rw [h0] at hc
        clear h0
        obtain ⟨g', c', W', e, t, hg, b⟩ := run_copied h hN (by omega) q
        have hset := t.set k s hlt
        have hcs := text_at t k hlt
        have hcf : W'.frozen? ⟨g', k, none⟩ = false := (t.there k (by have := t.le; omega)).2
        have hk1 : k < l.length := hlt
        go_wp2_with (at_builtin; refine UK.wpList_append_run e rfl rfl rfl rfl rfl ?_)
        go_ret3
        rw [HL.out, HI.out, HB.out, HA.out, HH.out, List.length_set]
        exact ⟨g', c', rfl, hset, b.setCell hg _⟩
      · have he := nonempty h0
        have HJ2 : Hid (∀ j, j < k + 1 → rcd l j ≠ []) := fun j hj => by
          by_cases hjk : j = k
          · subst hjk; exact h0
          · exact HJ.out j (by omega)
        clear h0
        go_wp2
        go_roundw
        case rel => exact ⟨k + 1, q, by omega, by go_num, HJ2, rfl⟩
        case measure => simp [intOf]; omega
    · have hk2 : k = l.length := by omega
      have HH : Hid (hole l = l.length) := by show _ = _; exact hole_at l _ (Nat.le_refl _) (by rw [← hk2]; exact HJ.out) (fun h => absurd h (Nat.lt_irrefl _))
      have HA : Hid (add l s = l ++ [s]) := by show _ = _; unfold add; rw [HH.out, if_neg (Nat.lt_irrefl _)]
      clear hk2
      obtain ⟨g', c', W', e, t, hg, b⟩ := run_copied h hN (by omega) q
      obtain ⟨g2, c2, W2, e2, t2, o2⟩ := run_pushed t (Nat.le_trans hN b.size) (by omega) s
      go_wp2_with (first | (at_builtin; refine UK.wpList_append_run e rfl rfl rfl rfl rfl ?_) | (at_builtin; refine UK.wpList_append_run e2 rfl rfl rfl rfl rfl ?_))
      go_ret3
      rw [HL.out, HI.out, HB.out, HA.out, HH.out]
      exact ⟨g2, c2, by rw [List.length_append] <;> rfl, t2, b.trans (o2.below b.size hg)⟩
theorem setB_no (l : List (List UInt8)) (i : Int) (s : List UInt8) (h : setB l i s = false) : setL l i s = l := by unfold setL; rw [h]; rfl
theorem ref_set {W : World} {N g c : Nat} {l : List (List UInt8)} (h : Texts W N g c l) (hN : N ≤ W.heap.size) (hf : 4 * l.length + total l ≤ 500) (i : Int) (s : List UInt8) (hs : s.length ≤ 600) :
    Calls Try.prog 33 #[.slice (some ⟨g, 0, none⟩) l.length c, .int .i64 i, .string (str s)] W fun e w' =>
      ∃ g' c', e = .returned (.tuple #[.slice (some ⟨g', 0, none⟩) (setL l i s).length c', .bool (setB l i s)]) ∧ Texts w' N g' c' (setL l i s) ∧ Below W.heap.size W w' := by
  have hhas := ref_has h i
  by_cases hb : hasB l i = false
  · have HB : Hid (setB l i s = false) := by show _ = _; unfold setB; rw [hb]; rfl
    have HL : Hid (setL l i s = l) := setB_no l i s HB.out
    rw [hb] at hhas
    clear hb
    go_enter Try.func33, Try.ntmps33
    go_wp2_with fail
    refine (hhas).mono ?_
    rintro e w' ⟨rfl, rfl⟩
    go_wp2
    go_ret2
    rw [HL.out, HB.out]
    exact ⟨g, c, rfl, h, Below.refl _ _⟩
  have hb2 : hasB l i = true := by simpa using hb
  clear hb
  obtain ⟨k, rfl, hk, h0⟩ := rcd_nat l i hb2
  rw [hb2] at hhas
  by_cases hn : s = []
  · have HB : Hid (setB l k s = false) := by show _ = _; unfold setB; rw [decide_eq_false (fun a => a.1 hn), Bool.and_false]
    have HL : Hid (setL l k s = l) := setB_no l k s HB.out
    subst hn
    go_enter Try.func33, Try.ntmps33
    go_wp2_with fail
    refine (hhas).mono ?_
    rintro e w' ⟨rfl, rfl⟩
    go_wp2
    go_ret2
    rw [HL.out, HB.out]
    exact ⟨g, c, rfl, h, Below.refl _ _⟩
  have hse := nonempty hn
  have hle := SR.rcd_length_le l k
  have HS0 := Lib.hid hn
  have H0 := Lib.hid h0
  have HB2 := Lib.hid hb2
  clear hn h0 hb2
  go_enter Try.func33, Try.ntmps33
  go_wp2_with fail
  refine (hhas).mono ?_
  rintro e w' ⟨rfl, rfl⟩
  go_wp2_with fail
  go_loopw [8, 23] (fun n i wr => ∃ (p : Nat) (m : Int), p ≤ l.length ∧ 0 ≤ m ∧ m ≤ 1000 ∧ i = .int .i64 p ∧ n = .int .i64 m ∧ Hid (m + 4 * p + total (l.take p) = 500 + (if k < p then (rcd l k).length else 0 : Nat)) ∧ wr = w') (fun _ i _ => l.length - (intOf i).toNat)
  case atStart => exact ⟨0, 500, Nat.zero_le _, by omega, by omega, rfl, rfl, by show _ = _; simp [total], rfl⟩
  case round =>
    obtain ⟨p, m, hp, hm0, hm5, rfl, rfl, HM, rfl⟩ := hrel
    by_cases hlt : p < l.length
    · have HS := SR.total_take_succ l p hlt
      have hsl := SR.total_take_le l (p + 1)
      have hm := HM.out
      have hc := text_at h p hlt
      by_cases hpk : p = k
      · subst hpk
        rw [if_neg (Nat.lt_irrefl _)] at hm
        have HM2 : Hid ((m - 4) + 4 * ((p + 1 : Nat) : Int) + total (l.take (p + 1)) = 500 + (if p < p + 1 then (rcd l p).length else 0 : Nat)) := by
          show _ = _
          rw [if_pos (by omega)]
          omega
        have hm4 : 4 ≤ m := by omega
        clear hsl hm HS
        go_wp2
        go_roundw
        case rel => exact ⟨p + 1, m - 4, by omega, by omega, by omega, by go_num, by go_num, HM2, trivial⟩
        case measure => simp [intOf]; omega
      · have HM2 : Hid ((m - 4 - (rcd l p).length) + 4 * ((p + 1 : Nat) : Int) + total (l.take (p + 1)) = 500 + (if k < p + 1 then (rcd l k).length else 0 : Nat)) := by
          show _ = _
          by_cases hkp : k < p
          · rw [if_pos hkp] at hm; rw [if_pos (by omega)]; omega
          · rw [if_neg hkp] at hm; rw [if_neg (by omega)]; omega
        have hm4 : 4 + ((rcd l p).length : Int) ≤ m := by split at hm <;> omega
        have hpl : (rcd l p).length ≤ 1000 := by omega
        have HM4 := Lib.hid hm4
        have hm40 : 4 ≤ m := by omega
        have hkk : (p : Int) ≠ k := by omega
        clear hsl hm HS hpk
        go_wp2
        go_roundw
        case rel => exact ⟨p + 1, m - 4 - (rcd l p).length, by omega, by omega, by omega, by go_num, by go_num, HM2, trivial⟩
        case measure => simp [intOf]; omega
    · have hp2 : p = l.length := by omega
      have hm := HM.out
      rw [if_pos (by omega), hp2, List.take_length] at hm
      clear hp2
      by_cases hfit : (s.length : Int) ≤ m
      · have HB : Hid (setB l k s = true) := by show _ = _; unfold setB; rw [HB2.out, Int.toNat_natCast, decide_eq_true ⟨HS0.out, by omega⟩]; rfl
        have HL : Hid (setL l k s = l.set k s) := by show _ = _; unfold setL; rw [HB.out, Int.toNat_natCast]; rfl
        have HT : Hid ((l.set k s).length = l.length) := by show _ = _; exact List.length_set
        clear hm
        obtain ⟨g', c', W', e, t, hg, b⟩ := run_copied h hN (by omega) 0
        have e1 : (Builtin.append_ #[38, 38] 38 #[.slice (some ⟨wr.heap.size, 0, none⟩) 0 0, .slice (some ⟨g, 0, none⟩) l.length c]).run Try.prog (wr.alloc (.cells #[] 9)) =
            .ok (.slice (some ⟨g', 0, none⟩) l.length c') W' := e
        clear e
        have hset := t.set k s hk
        have hcs := text_at t k hk
        have hcf : W'.frozen? ⟨g', k, none⟩ = false := (t.there k (by have := t.le; omega)).2
        go_wp2_with (at_builtin; refine UK.wpList_append_run e1 rfl rfl rfl rfl rfl ?_)
        go_ret2
        rw [HL.out, HB.out, HT.out]
        exact ⟨g', c', rfl, hset, b.setCell hg _⟩
      · have HB : Hid (setB l k s = false) := by show _ = _; unfold setB; rw [HB2.out, Int.toNat_natCast, decide_eq_false (fun a => by have := a.2; omega)]; rfl
        have HL : Hid (setL l k s = l) := setB_no l k s HB.out
        have hbig : m < (s.length : Int) := by omega
        clear hm hfit
        go_wp2
        go_ret2
        rw [HL.out, HB.out]
        exact ⟨g, c, rfl, h, Below.refl _ _⟩
theorem ref_drop {W : World} {N g c : Nat} {l : List (List UInt8)} (h : Texts W N g c l) (hN : N ≤ W.heap.size) (hl : l.length ≤ 500) (i : Int) :
    Calls Try.prog 34 #[.slice (some ⟨g, 0, none⟩) l.length c, .int .i64 i] W fun e w' =>
      ∃ g' c', e = .returned (.tuple #[.slice (some ⟨g', 0, none⟩) (dropL l i).length c', .bool (hasB l i)]) ∧ Texts w' N g' c' (dropL l i) ∧ Below W.heap.size W w' := by
  have hhas := ref_has h i
  by_cases hb : hasB l i = false
  · have HB := Lib.hid hb
    have HL : Hid (dropL l i = l) := by show _ = _; unfold dropL; rw [hb]; rfl
    rw [hb] at hhas
    clear hb
    go_enter Try.func34, Try.ntmps34
    go_wp2_with fail
    refine (hhas).mono ?_
    rintro e w' ⟨rfl, rfl⟩
    go_wp2
    go_ret2
    rw [HL.out, HB.out]
    exact ⟨g, c, rfl, h, Below.refl _ _⟩
  have hb2 : hasB l i = true := by simpa using hb
  clear hb
  obtain ⟨k, rfl, hk, h0⟩ := rcd_nat l i hb2
  rw [hb2] at hhas
  have HB2 := Lib.hid hb2
  have HL : Hid (dropL l k = trim (l.set k [])) := by show _ = _; unfold dropL; rw [hb2, Int.toNat_natCast]; rfl
  clear h0 hb2
  obtain ⟨g', c', W', e, t, hg, b⟩ := run_copied h hN (by omega) 0
  have e1 : (Builtin.append_ #[38, 38] 38 #[.slice (some ⟨W.heap.size, 0, none⟩) 0 0, .slice (some ⟨g, 0, none⟩) l.length c]).run Try.prog (W.alloc (.cells #[] 9)) =
      .ok (.slice (some ⟨g', 0, none⟩) l.length c') W' := e
  clear e
  have hset := t.set k [] hk
  have hcs := text_at t k hk
  have hcf : W'.frozen? ⟨g', k, none⟩ = false := (t.there k (by have := t.le; omega)).2
  have b2 := b.setCell hg (p := ⟨g', k, none⟩) (.string (str []))
  obtain ⟨m, HM⟩ : ∃ m, Hid (l.set k [] = m) := ⟨_, rfl⟩
  have hml : m.length = l.length := by rw [← HM.out, List.length_set]
  rw [HM.out] at hset
  have HL2 : Hid (dropL l k = trim m) := by show _ = _; rw [HL.out, HM.out]
  clear HL
  go_enter Try.func34, Try.ntmps34
  go_wp2_with fail
  refine (hhas).mono ?_
  rintro e w' ⟨rfl, rfl⟩
  go_wp2_with (at_builtin; refine UK.wpList_append_run e1 rfl rfl rfl rfl rfl ?_)
  have hc0 : 0 < c' := by have := t.le; omega
  have hcm : m.length ≤ c' := by have := t.le; omega
  clear hcs hcf e1 hg
  generalize W'.setCell ⟨g', k, none⟩ (.string (str [])) = W2 at hset b2 ⊢
  go_loopw [6] (fun v wr => ∃ n : Nat, n ≤ m.length ∧ v = .slice (some ⟨g', 0, none⟩) n c' ∧ Hid (∀ j, n ≤ j → j < m.length → rcd m j = []) ∧ wr = W2) (fun v _ => slen v)
  case atStart => exact ⟨l.length, by omega, rfl, fun j h1 h2 => by omega, rfl⟩
  case round =>
    obtain ⟨n, hn, rfl, HJ, rfl⟩ := hrel
    by_cases hn0 : 0 < n
    · obtain ⟨p, rfl⟩ : ∃ p, n = p + 1 := ⟨n - 1, by omega⟩
      have hc := text_at hset p (by omega)
      by_cases h0 : rcd m p = []
      · have HJ2 : Hid (∀ j, p ≤ j → j < m.length → rcd m j = []) := fun j h1 h2 => by
          by_cases hj : j = p
          · subst hj; exact h0
          · exact HJ.out j (by omega) h2
        rw [h0] at hc
        clear h0
        go_wp2
        go_roundw
        case rel => exact ⟨p, by omega, by go_num, HJ2, trivial⟩
        case measure => simp [slen]
      · have he := nonempty h0
        have HK : Hid (trim m = m.take (p + 1)) := by
          show _ = _
          unfold trim
          rw [kept_at m (p + 1) m.length hn HJ.out (fun _ => h0)]
        clear h0
        go_wp2
        go_ret2
        have ht := hset.take (p + 1)
        rw [HL2.out, HK.out, HB2.out]
        exact ⟨g', c', by rw [List.length_take, Nat.min_eq_left hn] <;> rfl, ht, b2⟩
    · obtain rfl : n = 0 := by omega
      have HK : Hid (trim m = m.take 0) := by
        show _ = _
        unfold trim
        rw [kept_at m 0 m.length (Nat.zero_le _) HJ.out (fun h => absurd h (Nat.lt_irrefl _))]
      go_wp2
      go_ret2
      have ht := hset.take 0
      rw [HL2.out, HK.out, HB2.out]
      exact ⟨g', c', by rw [List.take_zero] <;> rfl, ht, b2⟩
end Go.Proofs.Ytdbnlcmnnoajoaa
