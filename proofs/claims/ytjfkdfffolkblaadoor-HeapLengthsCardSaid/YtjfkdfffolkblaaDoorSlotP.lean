/-
  A page of one's own: slot's functions walked once more, at a page that came behind the call's beginning. What add and trim do to records, to how many there are, and to the room.
-/
import Derived.Test.YtjfkdfffolkblaaDoorSlotG
namespace Go.Proofs.YtjfkdfffolkblaaDoor.SL
open Go.RowKit
open UK (str BytesAt nth Only)
open Go.BigFrame
open SR (Recs rcd total)
/-- behind the beginning W0 block B came, and has the records l; of what was there nothing has turned -/
structure Page (W0 W : World) (B : Nat) (l : List (List UInt8)) : Prop where
  new : W0.heap.size ≤ B
  below : Below W0.heap.size W0 W
  page : ∃ x, BytesAt W B x ∧ Recs x l
namespace Page
variable {W0 W W' : World} {B : Nat} {l : List (List UInt8)}
theorem next (h : Page W0 W B l) (hb : Below W.heap.size W W') : Page W0 W' B l := by
  obtain ⟨hn, hw, x, hx, hr⟩ := h
  exact ⟨hn, hw.trans (hb.mono hw.size), x, hx.below hb hx.lt, hr⟩
theorem drewN (h : Page W0 W B l) (n : Nat) : Page W0 (W.drewN n) B l := h.next (UK.belowN (Below.refl _ _) n)
theorem drew (h : Page W0 W B l) : Page W0 W.drew B l := h.next (Below.refl _ _).drew
theorem turn (h : Page W0 W B l) {l' : List (List UInt8)} (ho : Only B W W') (hx : ∃ x, BytesAt W' B x ∧ Recs x l') : Page W0 W' B l' :=
  ⟨h.new, h.below.trans (ho.below h.below.size h.new), hx⟩
end Page
section
variable {W0 W : World} {B : Nat} {l : List (List UInt8)}
theorem page_room (h : Page W0 W B l) (c : Nat) :
    Calls Tryd.prog 84 #[.slice (some ⟨B, 0, none⟩) 504 c] W fun e w' => e = .returned (.int .i64 (room l)) ∧ Page W0 w' B l := by
  obtain ⟨x, hx, hr⟩ := h.page
  exact (room_any B x l c W hx hr).mono fun e w' ⟨he, hb⟩ => ⟨he, h.next hb⟩
theorem page_live (h : Page W0 W B l) (c : Nat) :
    Calls Tryd.prog 78 #[.slice (some ⟨B, 0, none⟩) 504 c] W fun e w' => e = .returned (.int .i64 (live l : Nat)) ∧ Page W0 w' B l := by
  obtain ⟨x, hx, hr⟩ := h.page
  exact (live_any B x l c W hx hr).mono fun e w' ⟨he, hb⟩ => ⟨he, h.next hb⟩
theorem page_len (h : Page W0 W B l) (c : Nat) :
    Calls Tryd.prog 91 #[.slice (some ⟨B, 0, none⟩) 504 c] W fun e w' => e = .returned (.int .i64 l.length) ∧ Page W0 w' B l := by
  obtain ⟨x, hx, hr⟩ := h.page
  exact (len_rec B x l c W hx hr).mono fun e w' ⟨he, k, hb⟩ => ⟨he, hb ▸ h.drewN k⟩
theorem page_good (h : Page W0 W B l) (c : Nat) (hlast : l = [] ∨ rcd l (l.length - 1) ≠ []) :
    Calls Tryd.prog 98 #[.slice (some ⟨B, 0, none⟩) 504 c] W fun e w' => e = .returned (.bool true) ∧ Page W0 w' B l := by
  obtain ⟨x, hx, hr⟩ := h.page
  exact (good_any B x l c W hx hr hlast).mono fun e w' ⟨he, hb⟩ => ⟨he, h.next hb⟩
theorem page_get_no (h : Page W0 W B l) (c : Nat) (i : Int) (hn : hasB l i = false) :
    Calls Tryd.prog 99 #[.slice (some ⟨B, 0, none⟩) 504 c, .int .i64 i] W fun e w' => e = .returned (.tuple #[.string (str []), .bool false]) ∧ Page W0 w' B l := by
  obtain ⟨x, hx, hr⟩ := h.page
  exact (get_no B x l c i W hx hr hn).mono fun e w' ⟨he, hb⟩ => ⟨he, h.next hb⟩
theorem page_get_yes (h : Page W0 W B l) (c : Nat) (hc : 504 ≤ c) (i : Nat) (hi : i < l.length) (h0 : rcd l i ≠ []) :
    Calls Tryd.prog 99 #[.slice (some ⟨B, 0, none⟩) 504 c, .int .i64 i] W fun e w' => e = .returned (.tuple #[.string (str (rcd l i)), .bool true]) ∧ Page W0 w' B l := by
  obtain ⟨x, hx, hr⟩ := h.page
  exact (get_yes B x l c hc i W hx hr hi h0).mono fun e w' ⟨he, hb⟩ => ⟨he, h.next hb⟩
theorem page_add_no (h : Page W0 W B l) (c : Nat) (s : List UInt8) (hn : room l < s.length ∨ s = []) :
    Calls Tryd.prog 43 #[.slice (some ⟨B, 0, none⟩) 504 c, .string (str s)] W fun e w' => e = .returned (.tuple #[.int .i64 0, .bool false]) ∧ Page W0 w' B l := by
  obtain ⟨x, hx, hr⟩ := h.page
  exact (add_no B x l c s W hx hr hn).mono fun e w' ⟨he, hb⟩ => ⟨he, h.next hb⟩
theorem page_add_yes (h : Page W0 W B l) (c : Nat) (hc : 504 ≤ c) (s : List UInt8) (hs : s ≠ []) (hr : (s.length : Int) ≤ room l) :
    Calls Tryd.prog 43 #[.slice (some ⟨B, 0, none⟩) 504 c, .string (str s)] W fun e w' => e = .returned (.tuple #[.int .i64 (hole l : Nat), .bool true]) ∧ Page W0 w' B (add l s) := by
  obtain ⟨x, hx, hrx⟩ := h.page
  exact (add_yes B x l c hc s W hx hrx hs hr).mono fun e w' ⟨he, ⟨x', h1, h2, _⟩, ho⟩ => ⟨he, h.turn ho ⟨x', h1, h2⟩⟩
theorem page_drop_no (h : Page W0 W B l) (c : Nat) (i : Int) (hn : hasB l i = false) :
    Calls Tryd.prog 77 #[.slice (some ⟨B, 0, none⟩) 504 c, .int .i64 i] W fun e w' => e = .returned (.bool false) ∧ Page W0 w' B l := by
  obtain ⟨x, hx, hr⟩ := h.page
  exact (drop_no B x l c i W hx hr hn).mono fun e w' ⟨he, hb⟩ => ⟨he, h.next hb⟩
theorem page_drop_yes (h : Page W0 W B l) (c k : Nat) (hk : k < l.length) (h0 : rcd l k ≠ []) :
    Calls Tryd.prog 77 #[.slice (some ⟨B, 0, none⟩) 504 c, .int .i64 k] W fun e w' => e = .returned (.bool true) ∧ Page W0 w' B (trim (l.set k [])) := by
  obtain ⟨x, hx, hr⟩ := h.page
  exact (drop_yes B x l c k W hx hr hk h0).mono fun e w' ⟨he, ⟨x', h1, h2, _⟩, ho⟩ => ⟨he, h.turn ho ⟨x', h1, h2⟩⟩
/-- may slot i be set to s? -/
def setB (l : List (List UInt8)) (i : Int) (s : List UInt8) : Bool := hasB l i && decide (s ≠ [] ∧ 4 + 4 * l.length + total l + s.length ≤ 504 + (rcd l i.toNat).length)
theorem page_set (h : Page W0 W B l) (c : Nat) (hc : 504 ≤ c) (i : Int) (s : List UInt8) :
    Calls Tryd.prog 51 #[.slice (some ⟨B, 0, none⟩) 504 c, .int .i64 i, .string (str s)] W fun e w' => e = .returned (.bool (setB l i s)) ∧ Page W0 w' B (if setB l i s then l.set i.toNat s else l) := by
  obtain ⟨x, hx, hr⟩ := h.page
  cases hb : hasB l i
  · have : setB l i s = false := by unfold setB; rw [hb]; rfl
    rw [this]
    exact (set_none B x l c i s W hx hr hb).mono fun e w' ⟨he, hb⟩ => ⟨he, h.next hb⟩
  · obtain ⟨k, rfl, hk, h0⟩ := rcd_nat l i hb
    by_cases hs : s = []
    · have : setB l k s = false := by unfold setB; simp [hs]
      rw [this]
      subst hs
      exact (set_void B x l c k W hx hr hk h0).mono fun e w' ⟨he, hb⟩ => ⟨he, h.next hb⟩
    · by_cases hf : 4 + 4 * l.length + total l + s.length ≤ 504 + (rcd l k).length
      · have : setB l k s = true := by unfold setB; rw [hb]; simp [hs, hf]
        rw [this]
        exact (set_yes B x l c hc k s W hx hr hk h0 hs hf).mono fun e w' ⟨he, ⟨x', h1, h2, _⟩, ho⟩ => ⟨he, h.turn ho ⟨x', h1, h2⟩⟩
      · have : setB l k s = false := by unfold setB; simp [hf]
        rw [this]
        exact (set_big B x l c k s W hx hr hk h0 hs (by omega)).mono fun e w' ⟨he, hb⟩ => ⟨he, h.next hb⟩
end
/-! ## what add and trim do -/
theorem rcd_trim (l : List (List UInt8)) (j : Nat) : rcd (trim l) j = rcd l j := by
  unfold trim
  by_cases h : j < kept l l.length
  · exact rcd_take l _ j h
  · have hle := kept_le l l.length
    rw [SR.rcd_out _ _ (by rw [List.length_take]; omega)]
    by_cases h2 : j < l.length
    · exact ((kept_spec l l.length).1 j (by omega) h2).symm
    · exact (SR.rcd_out _ _ (by omega)).symm
theorem trim_length (l : List (List UInt8)) : (trim l).length = kept l l.length := by
  unfold trim; rw [List.length_take]; exact Nat.min_eq_left (kept_le _ _)
theorem trim_last (l : List (List UInt8)) : trim l = [] ∨ rcd (trim l) ((trim l).length - 1) ≠ [] := by
  by_cases h : kept l l.length = 0
  · exact .inl (List.length_eq_zero_iff.1 (by rw [trim_length]; exact h))
  · refine .inr ?_
    rw [rcd_trim, trim_length]
    exact (kept_spec l l.length).2 (by omega)
theorem live_zero (l : List (List UInt8)) (n : Nat) (h : ∀ j, n ≤ j → rcd l j = []) : live (l.take n) = live l := by
  induction l generalizing n with
  | nil => simp
  | cons s l ih =>
    cases n with
    | zero =>
      have hs : s = [] := h 0 (Nat.le_refl _)
      have := ih 0 (fun j _ => h (j + 1) (by omega))
      simp only [List.take_zero, live] at this ⊢
      rw [if_pos hs, ← this]
    | succ n =>
      have := ih n (fun j hj => h (j + 1) (by omega))
      simp only [List.take_succ_cons, live]
      rw [this]
theorem trim_rest (l : List (List UInt8)) : ∀ j, kept l l.length ≤ j → rcd l j = [] := fun j hj => by
  by_cases h2 : j < l.length
  · exact (kept_spec l l.length).1 j hj h2
  · exact SR.rcd_out _ _ (by omega)
theorem live_trim (l : List (List UInt8)) : live (trim l) = live l := live_zero _ _ (trim_rest l)
theorem total_trim (l : List (List UInt8)) : total (trim l) = total l := total_zero _ _ (trim_rest l)
theorem live_set (l : List (List UInt8)) (i : Nat) (s : List UInt8) (h : i < l.length) : live (l.set i s) + (if rcd l i = [] then 0 else 1) = live l + (if s = [] then 0 else 1) := by
  induction l generalizing i with
  | nil => simp at h
  | cons t l ih =>
    cases i with
    | zero => simp only [List.set_cons_zero, live, rcd, List.getD_cons_zero]; omega
    | succ i =>
      have := ih i (by simpa using h)
      have e : rcd (t :: l) (i + 1) = rcd l i := rfl
      rw [List.set_cons_succ, e]
      simp only [live]
      omega
theorem add_length_le (l : List (List UInt8)) (s : List UInt8) : (add l s).length ≤ l.length + 1 := by
  unfold add; split <;> simp
theorem rcd_add (l : List (List UInt8)) (s : List UInt8) (j : Nat) : rcd (add l s) j = if j = hole l then s else rcd l j := by
  have hle := hole_le l
  unfold add
  by_cases h : hole l < l.length
  · rw [if_pos h, SR.rcd_set]
    by_cases hj : j = hole l
    · rw [if_pos ⟨hj.symm, h⟩, if_pos hj]
    · rw [if_neg (by omega), if_neg hj]
  · rw [if_neg h]
    unfold rcd List.getD
    by_cases hj : j < l.length
    · rw [List.getElem?_append_left hj, if_neg (by omega)]
    · rw [List.getElem?_append_right (by omega)]
      by_cases hj2 : j = l.length
      · subst hj2
        rw [if_pos (by omega)]; simp
      · rw [if_neg (by omega), List.getElem?_eq_none (by simp; omega), List.getElem?_eq_none (by omega)]
theorem live_add (l : List (List UInt8)) (s : List UInt8) (hs : s ≠ []) : live (add l s) = live l + 1 := by
  unfold add
  by_cases h : hole l < l.length
  · rw [if_pos h]
    have h1 := live_set l (hole l) s h
    rw [if_pos ((hole_spec l).2 h), if_neg hs] at h1
    exact h1
  · rw [if_neg h, live_append]; simp [live, hs]
theorem total_add (l : List (List UInt8)) (s : List UInt8) : total (add l s) = total l + s.length := by
  unfold add
  by_cases h : hole l < l.length
  · rw [if_pos h]
    have h1 := SR.total_set l (hole l) s h
    rw [(hole_spec l).2 h] at h1
    simpa using h1
  · rw [if_neg h, SR.total_append]; simp [total]
/-- the last slot has a record behind add -/
theorem add_last (l : List (List UInt8)) (s : List UInt8) (hs : s ≠ []) (h : l = [] ∨ rcd l (l.length - 1) ≠ []) : add l s = [] ∨ rcd (add l s) ((add l s).length - 1) ≠ [] := by
  refine .inr ?_
  rw [rcd_add]
  by_cases hj : (add l s).length - 1 = hole l
  · rw [if_pos hj]; exact hs
  · rw [if_neg hj]
    have hle := hole_le l
    by_cases hh : hole l < l.length
    · have hl : (add l s).length = l.length := by unfold add; rw [if_pos hh]; simp
      rw [hl]
      rcases h with h | h
      · rw [h] at hh; simp at hh
      · exact h
    · exfalso
      apply hj
      unfold add
      rw [if_neg hh]
      simp
      omega
theorem live_all (l : List (List UInt8)) (h : live l = l.length) : ∀ j, j < l.length → rcd l j ≠ [] := by
  induction l with
  | nil => intro j hj; simp at hj
  | cons s l ih =>
    have hle := live_le l
    simp only [live, List.length_cons] at h
    by_cases hs : s = []
    · rw [if_pos hs] at h; omega
    · rw [if_neg hs] at h
      intro j hj
      cases j with
      | zero => exact hs
      | succ j => exact ih (by omega) j (by simpa using hj)
theorem hole_all (l : List (List UInt8)) (h : ∀ j, j < l.length → rcd l j ≠ []) : hole l = l.length := hole_at l _ (Nat.le_refl _) h (fun h => absurd h (Nat.lt_irrefl _))
theorem live_of_all (l : List (List UInt8)) (h : hole l = l.length) : live l = l.length := by
  induction l with
  | nil => rfl
  | cons s l ih =>
    by_cases hs : s = []
    · simp [hole, hs] at h
    · simp only [hole, if_neg hs, List.length_cons] at h
      simp only [live, if_neg hs, List.length_cons]
      rw [ih (by omega)]; omega
/-- all records have one length -/
theorem total_same (l : List (List UInt8)) (n : Nat) (h : ∀ j, rcd l j = [] ∨ (rcd l j).length = n) : total l = n * live l := by
  induction l with
  | nil => simp [total, live]
  | cons s l ih =>
    have h1 := ih (fun j => h (j + 1))
    have h0 := h 0
    simp only [rcd, List.getD_cons_zero] at h0
    by_cases hs : s = []
    · simp [total, live, hs, h1]
    · rcases h0 with h0 | h0
      · exact absurd h0 hs
      · simp only [total, live, if_neg hs, h0, h1, Nat.mul_add, Nat.mul_one]
end Go.Proofs.YtjfkdfffolkblaaDoor.SL
