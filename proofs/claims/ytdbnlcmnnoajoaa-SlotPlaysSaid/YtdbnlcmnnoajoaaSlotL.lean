/-
  slot's functions that read, walked at the page's records.
-/
import Derived.Test.YtdbnlcmnnoajoaaSlotW
namespace Go.Proofs.Ytdbnlcmnnoajoaa
open Go.RowKit
open UK (str BytesAt nth Only)
open Go.BigFrame
open SR (Recs rcd total)
/-- how many records there are -/
def live : List (List UInt8) → Nat
  | [] => 0
  | s :: l => (if s = [] then 0 else 1) + live l
theorem live_append (l m : List (List UInt8)) : live (l ++ m) = live l + live m := by
  induction l with
  | nil => simp [live]
  | cons s l ih => simp [live, ih]; omega
theorem live_take (l : List (List UInt8)) (k : Nat) (h : k < l.length) : live (l.take (k + 1)) = live (l.take k) + if rcd l k = [] then 0 else 1 := by
  rw [List.take_succ_eq_append_getElem h, live_append]
  simp [live, rcd, h]
theorem live_le (l : List (List UInt8)) : live l ≤ l.length := by
  induction l with
  | nil => simp [live]
  | cons s l ih => simp only [live, List.length_cons]; split <;> omega
/-- the first slot without a record -/
def hole : List (List UInt8) → Nat
  | [] => 0
  | s :: l => if s = [] then 0 else hole l + 1
theorem hole_le (l : List (List UInt8)) : hole l ≤ l.length := by
  induction l with
  | nil => simp [hole]
  | cons s l ih => simp only [hole, List.length_cons]; split <;> omega
theorem hole_at (l : List (List UInt8)) (k : Nat) (hk : k ≤ l.length) (h : ∀ j, j < k → rcd l j ≠ []) (h0 : k < l.length → rcd l k = []) : hole l = k := by
  induction l generalizing k with
  | nil => simp at hk; subst hk; rfl
  | cons s l ih =>
    cases k with
    | zero =>
      have : s = [] := h0 (by simp)
      simp [hole, this]
    | succ k =>
      have hs : s ≠ [] := h 0 (by omega)
      simp only [hole, if_neg hs]
      rw [ih k (by simpa using hk) (fun j hj => h (j + 1) (by omega)) (fun hl => h0 (by simpa using hl))]
theorem hole_spec (l : List (List UInt8)) : (∀ j, j < hole l → rcd l j ≠ []) ∧ (hole l < l.length → rcd l (hole l) = []) := by
  induction l with
  | nil => simp [hole]
  | cons s l ih =>
    by_cases hs : s = []
    · simp [hole, hs, rcd]
    · simp only [hole, if_neg hs, List.length_cons]
      refine ⟨fun j hj => ?_, fun h => ih.2 (by omega)⟩
      cases j with
      | zero => exact hs
      | succ j => exact ih.1 j (by omega)
/-- room for a record that comes -/
def room (l : List (List UInt8)) : Int := 500 - 4 * l.length - total l - (if hole l = l.length then 4 else 0)
theorem slot_hole (B : Nat) (x : List UInt8) (l : List (List UInt8)) (c i : Nat) (W : World) (h : BytesAt W B x) (r : Recs x l) (hi : i < l.length) (h0 : rcd l i = []) :
    Calls Try.prog 28 #[.slice (some ⟨B, 0, none⟩) 504 c, .int .i64 i] W fun e w' => e = .returned (.tuple #[.int .i64 0, .int .i64 0]) ∧ ∃ k, w' = W.drewN k := by
  have hf := r.few
  have := slot_any B x c i W h r.size (by omega) (by omega)
  rw [Int.toNat_natCast, (r.hole i hi h0).1, (r.hole i hi h0).2] at this
  exact this
theorem slot_there (B : Nat) (x : List UInt8) (l : List (List UInt8)) (c i : Nat) (W : World) (h : BytesAt W B x) (r : Recs x l) (hi : i < l.length) :
    Calls Try.prog 28 #[.slice (some ⟨B, 0, none⟩) 504 c, .int .i64 i] W fun e w' => e = .returned (.tuple #[.int .i64 (SR.pos x i : Nat), .int .i64 ((rcd l i).length : Nat)]) ∧ ∃ k, w' = W.drewN k := by
  have hf := r.few
  have := slot_any B x c i W h r.size (by omega) (by omega)
  rw [Int.toNat_natCast, r.ext_is hi] at this
  exact this
theorem len_rec (B : Nat) (x : List UInt8) (l : List (List UInt8)) (c : Nat) (W : World) (h : BytesAt W B x) (r : Recs x l) :
    Calls Try.prog 21 #[.slice (some ⟨B, 0, none⟩) 504 c] W fun e w' => e = .returned (.int .i64 l.length) ∧ ∃ k, w' = W.drewN k := by
  have := len_any B x c W h r.size
  rwa [r.len] at this
theorem live_any (B : Nat) (x : List UInt8) (l : List (List UInt8)) (c : Nat) (W : World) (h : BytesAt W B x) (r : Recs x l) :
    Calls Try.prog 12 #[.slice (some ⟨B, 0, none⟩) 504 c] W fun e w' => e = .returned (.int .i64 (live l : Nat)) ∧ Below W.heap.size W w' := by
  have hf := r.few
  go_enter Try.func12, Try.ntmps12
  go_wp2_with fail
  refine (len_rec B x l c W h r).mono ?_
  rintro e w' ⟨rfl, k0, rfl⟩
  go_wp2_with fail
  go_loopw [3, 9] (fun n i wr => ∃ k : Nat, k ≤ l.length ∧ i = .int .i64 k ∧ n = .int .i64 (live (l.take k) : Nat) ∧ Below W.heap.size W wr) (fun _ i _ => l.length - (intOf i).toNat)
  case atStart => exact ⟨0, Nat.zero_le _, rfl, rfl, UK.belowN (Below.refl _ _) _⟩
  case round =>
    obtain ⟨k, hk, rfl, rfl, hb⟩ := hrel
    have hba := h.below hb h.lt
    by_cases hlt : k < l.length
    · have hle := live_le (l.take k)
      rw [List.length_take] at hle
      have HT := Lib.hid (live_take l k hlt)
      by_cases h0 : rcd l k = []
      · have HT2 : Hid (live (l.take (k + 1)) = live (l.take k)) := by show _ = _; rw [HT.out, if_pos h0]; rfl
        go_wp2_with fail
        refine (slot_hole B x l c k _ hba r hlt h0).mono ?_
        rintro e w' ⟨rfl, k1, rfl⟩
        clear h0
        go_wp2
        go_roundw
        case rel => exact ⟨k + 1, by omega, by go_num, by rw [HT2.out], UK.belowN hb _⟩
        case measure => simp [intOf]; omega
      · have HT2 : Hid (live (l.take (k + 1)) = live (l.take k) + 1) := by show _ = _; rw [HT.out, if_neg h0]
        have hp := (r.there k hlt h0).1
        have hl1 := r.low1
        have hp0 : 0 < SR.pos x k := by omega
        clear hp
        go_wp2_with fail
        refine (slot_there B x l c k _ hba r hlt).mono ?_
        rintro e w' ⟨rfl, k1, rfl⟩
        clear h0
        go_wp2
        go_roundw
        case rel => exact ⟨k + 1, by omega, by go_num, by rw [HT2.out]; go_num, UK.belowN hb _⟩
        case measure => simp [intOf]; omega
    · go_wp2
      go_ret
      exact ⟨by rw [List.take_of_length_le (by omega)] <;> rfl, hb⟩
theorem used_any (B : Nat) (x : List UInt8) (l : List (List UInt8)) (c : Nat) (W : World) (h : BytesAt W B x) (r : Recs x l) :
    Calls Try.prog 22 #[.slice (some ⟨B, 0, none⟩) 504 c] W fun e w' => e = .returned (.int .i64 (total l : Nat)) ∧ Below W.heap.size W w' := by
  have hf := r.few
  have hsum := r.sum
  go_enter Try.func22, Try.ntmps22
  go_wp2_with fail
  refine (len_rec B x l c W h r).mono ?_
  rintro e w' ⟨rfl, k0, rfl⟩
  go_wp2_with fail
  go_loopw [3, 9] (fun n i wr => ∃ k : Nat, k ≤ l.length ∧ i = .int .i64 k ∧ n = .int .i64 (total (l.take k) : Nat) ∧ Below W.heap.size W wr) (fun _ i _ => l.length - (intOf i).toNat)
  case atStart => exact ⟨0, Nat.zero_le _, rfl, rfl, UK.belowN (Below.refl _ _) _⟩
  case round =>
    obtain ⟨k, hk, rfl, rfl, hb⟩ := hrel
    have hba := h.below hb h.lt
    by_cases hlt : k < l.length
    · have hle := SR.total_take_le l k
      have hle2 := SR.rcd_length_le l k
      have HT := Lib.hid (SR.total_take_succ l k hlt)
      by_cases h0 : rcd l k = []
      · have HT2 : Hid (total (l.take (k + 1)) = total (l.take k)) := by show _ = _; rw [HT.out, h0]; rfl
        go_wp2_with fail
        refine (slot_hole B x l c k _ hba r hlt h0).mono ?_
        rintro e w' ⟨rfl, k1, rfl⟩
        clear h0
        go_wp2
        go_roundw
        case rel => exact ⟨k + 1, by omega, by go_num, by rw [HT2.out], UK.belowN hb _⟩
        case measure => simp [intOf]; omega
      · have hp := (r.there k hlt h0).1
        have hl1 := r.low1
        have hp0 : 0 < SR.pos x k := by omega
        clear hp
        go_wp2_with fail
        refine (slot_there B x l c k _ hba r hlt).mono ?_
        rintro e w' ⟨rfl, k1, rfl⟩
        clear h0
        go_wp2
        go_roundw
        case rel => exact ⟨k + 1, by omega, by go_num, by rw [HT.out]; go_num, UK.belowN hb _⟩
        case measure => simp [intOf]; omega
    · go_wp2
      go_ret
      exact ⟨by rw [List.take_of_length_le (by omega)] <;> rfl, hb⟩
theorem empty_any (B : Nat) (x : List UInt8) (l : List (List UInt8)) (c : Nat) (W : World) (h : BytesAt W B x) (r : Recs x l) :
    Calls Try.prog 23 #[.slice (some ⟨B, 0, none⟩) 504 c] W fun e w' => e = .returned (.int .i64 (hole l : Nat)) ∧ Below W.heap.size W w' := by
  have hf := r.few
  go_enter Try.func23, Try.ntmps23
  go_wp2_with fail
  refine (len_rec B x l c W h r).mono ?_
  rintro e w' ⟨rfl, k0, rfl⟩
  go_wp2_with fail
  go_loopw [8] (fun i wr => ∃ k : Nat, k ≤ l.length ∧ i = .int .i64 k ∧ Hid (∀ j, j < k → rcd l j ≠ []) ∧ Below W.heap.size W wr) (fun i _ => l.length - (intOf i).toNat)
  case atStart => exact ⟨0, Nat.zero_le _, rfl, fun j hj => absurd hj (Nat.not_lt_zero _), UK.belowN (Below.refl _ _) _⟩
  case round =>
    obtain ⟨k, hk, rfl, HJ, hb⟩ := hrel
    have hba := h.below hb h.lt
    by_cases hlt : k < l.length
    · by_cases h0 : rcd l k = []
      · have HH := Lib.hid (hole_at l k hk HJ.out (fun _ => h0))
        go_wp2_with fail
        refine (slot_hole B x l c k _ hba r hlt h0).mono ?_
        rintro e w' ⟨rfl, k1, rfl⟩
        clear h0
        go_wp2
        go_ret
        exact ⟨by rw [HH.out] <;> rfl, UK.belowN hb _⟩
      · have HJ2 : Hid (∀ j, j < k + 1 → rcd l j ≠ []) := fun j hj => by
          by_cases hjk : j = k
          · rw [hjk]; exact h0
          · exact HJ.out j (by omega)
        have hp := (r.there k hlt h0).1
        have hl1 := r.low1
        have hp0 : 0 < SR.pos x k := by omega
        have hp1 : ((SR.pos x k : Int) == 0) = false := by rw [beq_eq_false_iff_ne]; omega
        clear hp
        go_wp2_with fail
        refine (slot_there B x l c k _ hba r hlt).mono ?_
        rintro e w' ⟨rfl, k1, rfl⟩
        clear h0
        go_wp2
        go_roundw
        case rel => exact ⟨k + 1, by omega, by go_num, HJ2, UK.belowN hb _⟩
        case measure => simp [intOf]; omega
    · have HH := Lib.hid (hole_at l k hk HJ.out (fun h => absurd h hlt))
      have hkl : k = l.length := by omega
      have HK := Lib.hid hkl
      clear hkl
      go_wp2_with fail
      refine (len_rec B x l c _ hba r).mono ?_
      rintro e w' ⟨rfl, k1, rfl⟩
      go_wp2
      go_ret
      exact ⟨by rw [HH.out, HK.out] <;> rfl, UK.belowN hb _⟩
theorem room_any (B : Nat) (x : List UInt8) (l : List (List UInt8)) (c : Nat) (W : World) (h : BytesAt W B x) (r : Recs x l) :
    Calls Try.prog 10 #[.slice (some ⟨B, 0, none⟩) 504 c] W fun e w' => e = .returned (.int .i64 (room l)) ∧ Below W.heap.size W w' := by
  have hf := r.few
  have hsum := r.sum
  go_enter Try.func10, Try.ntmps10
  go_wp2_with fail
  refine (len_rec B x l c W h r).mono ?_
  rintro e w' ⟨rfl, k0, rfl⟩
  have b1 : Below W.heap.size W (W.drewN k0) := UK.belowN (Below.refl _ _) k0
  generalize W.drewN k0 = w1 at b1 ⊢
  have hba := h.below b1 h.lt
  go_wp2_with fail
  refine (used_any B x l c w1 hba r).mono ?_
  rintro e w2 ⟨rfl, b2⟩
  have b12 := b1.trans (b2.mono b1.size)
  have hba2 := h.below b12 h.lt
  go_wp2_with fail
  refine (empty_any B x l c w2 hba2 r).mono ?_
  rintro e w3 ⟨rfl, b3⟩
  have b13 := b12.trans (b3.mono b12.size)
  have hba3 := h.below b13 h.lt
  go_wp2_with fail
  refine (len_rec B x l c w3 hba3 r).mono ?_
  rintro e w' ⟨rfl, k4, rfl⟩
  by_cases hh : hole l = l.length
  · have HR : Hid (room l = 500 - 4 * l.length - total l - 4) := by show _ = _; unfold room; rw [if_pos hh]
    rw [hh]
    clear hh
    go_wp2
    go_ret
    exact ⟨by rw [HR.out] <;> rfl, UK.belowN b13 _⟩
  · have HR : Hid (room l = 500 - 4 * l.length - total l) := by show _ = _; unfold room; rw [if_neg hh]; omega
    have hb : ((hole l : Int) == (l.length : Int)) = false := by rw [beq_eq_false_iff_ne]; omega
    clear hh
    go_wp2
    go_ret
    exact ⟨by rw [HR.out] <;> rfl, UK.belowN b13 _⟩
/-- is there such a record? -/
def hasB (l : List (List UInt8)) (i : Int) : Bool := decide (0 ≤ i ∧ i < l.length ∧ rcd l i.toNat ≠ [])
theorem has_any (B : Nat) (x : List UInt8) (l : List (List UInt8)) (c : Nat) (i : Int) (W : World) (h : BytesAt W B x) (r : Recs x l) :
    Calls Try.prog 29 #[.slice (some ⟨B, 0, none⟩) 504 c, .int .i64 i] W fun e w' => e = .returned (.bool (hasB l i)) ∧ Below W.heap.size W w' := by
  have hf := r.few
  by_cases h1 : i < 0
  · have HB : Hid (hasB l i = false) := by show _ = _; unfold hasB; simp; omega
    go_enter Try.func29, Try.ntmps29
    go_wp2
    go_ret
    exact ⟨by rw [HB.out] <;> rfl, Below.refl _ _⟩
  · obtain ⟨i, rfl⟩ := Int.eq_ofNat_of_zero_le (by omega : 0 ≤ i)
    by_cases h2 : i < l.length
    · by_cases h0 : rcd l i = []
      · have HB : Hid (hasB l i = false) := by show _ = _; unfold hasB; simp [h0]
        go_enter Try.func29, Try.ntmps29
        go_wp2_with fail
        refine (len_rec B x l c W h r).mono ?_
        rintro e w' ⟨rfl, k0, rfl⟩
        go_wp2_with fail
        refine (slot_hole B x l c i _ (h.drewN k0) r h2 h0).mono ?_
        rintro e w' ⟨rfl, k1, rfl⟩
        clear h0
        go_wp2
        go_ret
        exact ⟨by rw [HB.out] <;> rfl, UK.belowN (Below.refl _ _) _⟩
      · have HB : Hid (hasB l i = true) := by show _ = _; unfold hasB; simp [h0, h2]
        have hp := (r.there i h2 h0).1
        have hl1 := r.low1
        have hp0 : 0 < SR.pos x i := by omega
        clear hp
        go_enter Try.func29, Try.ntmps29
        go_wp2_with fail
        refine (len_rec B x l c W h r).mono ?_
        rintro e w' ⟨rfl, k0, rfl⟩
        go_wp2_with fail
        refine (slot_there B x l c i _ (h.drewN k0) r h2).mono ?_
        rintro e w' ⟨rfl, k1, rfl⟩
        clear h0
        go_wp2
        go_ret
        exact ⟨by rw [HB.out] <;> rfl, UK.belowN (Below.refl _ _) _⟩
    · have HB : Hid (hasB l i = false) := by show _ = _; unfold hasB; simp; omega
      go_enter Try.func29, Try.ntmps29
      go_wp2_with fail
      refine (len_rec B x l c W h r).mono ?_
      rintro e w' ⟨rfl, k0, rfl⟩
      go_wp2
      go_ret
      exact ⟨by rw [HB.out] <;> rfl, UK.belowN (Below.refl _ _) _⟩
theorem get_no (B : Nat) (x : List UInt8) (l : List (List UInt8)) (c : Nat) (i : Int) (W : World) (h : BytesAt W B x) (r : Recs x l) (hn : hasB l i = false) :
    Calls Try.prog 15 #[.slice (some ⟨B, 0, none⟩) 504 c, .int .i64 i] W fun e w' => e = .returned (.tuple #[.string (str []), .bool false]) ∧ Below W.heap.size W w' := by
  have h1 := fun W h => has_any B x l c i W h r
  rw [hn] at h1
  have H1 := Lib.hid h1
  clear h1 hn
  go_enter Try.func15, Try.ntmps15
  go_wp2_with fail
  refine (H1.out W h).mono ?_
  rintro e w' ⟨rfl, hb⟩
  go_wp2
  go_ret2
  exact ⟨rfl, hb⟩
theorem rec_window {x : List UInt8} {l : List (List UInt8)} (r : Recs x l) {i : Nat} (hi : i < l.length) (h0 : rcd l i ≠ []) : (x.drop (SR.pos x i)).take (rcd l i).length = rcd l i := by
  have hsz := r.size
  have ht := r.there i hi h0
  apply List.ext_getElem?
  intro k
  rw [List.getElem?_take]
  by_cases hk : k < (rcd l i).length
  · rw [if_pos hk, List.getElem?_drop]
    have hb := r.bytes i hi k hk
    unfold nth List.getD at hb
    rw [List.getElem?_eq_getElem (by omega : SR.pos x i + k < x.length), List.getElem?_eq_getElem hk] at hb
    rw [List.getElem?_eq_getElem (by omega : SR.pos x i + k < x.length), List.getElem?_eq_getElem hk]
    simpa using hb
  · rw [if_neg hk, List.getElem?_eq_none (by omega)]
theorem get_yes (B : Nat) (x : List UInt8) (l : List (List UInt8)) (c : Nat) (hc : 504 ≤ c) (i : Nat) (W : World) (h : BytesAt W B x) (r : Recs x l) (hi : i < l.length) (h0 : rcd l i ≠ []) :
    Calls Try.prog 15 #[.slice (some ⟨B, 0, none⟩) 504 c, .int .i64 i] W fun e w' => e = .returned (.tuple #[.string (str (rcd l i)), .bool true]) ∧ Below W.heap.size W w' := by
  have hsz := r.size
  have h1 := fun W h => has_any B x l c i W h r
  have hn : hasB l i = true := by unfold hasB; simp [hi, h0]
  rw [hn] at h1
  have H1 := Lib.hid h1
  clear h1 hn
  have ht := r.there i hi h0
  have hw := rec_window r hi h0
  have HW := Lib.hid hw
  clear hw
  have hpc : SR.pos x i + (rcd l i).length ≤ c := by omega
  have hp5 : SR.pos x i + (rcd l i).length ≤ 504 := ht.2.1
  have hp0 : 0 < (rcd l i).length := List.length_pos_iff.2 h0
  have hne : ¬ c = SR.pos x i := by omega
  have hpx : SR.pos x i + (rcd l i).length ≤ x.length := by omega
  have H0 := Lib.hid h0
  clear ht h0
  go_enter Try.func15, Try.ntmps15
  go_wp2_with fail
  refine (H1.out W h).mono ?_
  rintro e w1 ⟨rfl, hb⟩
  have hba := h.below hb h.lt
  go_wp2_with fail
  refine (slot_there B x l c i _ hba r hi).mono ?_
  rintro e w' ⟨rfl, k1, rfl⟩
  have hcv := UK.run_window (P := Try.prog) (src := 23) (dst := 9) Try.underlying23 Try.underlying5 Try.underlying9 (hba.drewN k1) (SR.pos x i) (rcd l i).length (c - SR.pos x i) hpx
  rw [HW.out] at hcv
  go_wp2
  go_ret2
  exact ⟨rfl, UK.belowN hb _⟩
end Go.Proofs.Ytdbnlcmnnoajoaa
