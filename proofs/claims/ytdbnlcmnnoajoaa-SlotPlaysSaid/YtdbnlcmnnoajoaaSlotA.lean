/-
  slot's Init, Add, Set, Drop, walked at the page's records.
-/
import Derived.Test.YtdbnlcmnnoajoaaSlotM
import Derived.Test.YtdbnlcmnnoajoaaSlotS
namespace Go.Proofs.Ytdbnlcmnnoajoaa
open Go.RowKit
open UK (str BytesAt nth Only)
open Go.BigFrame
open SR (Recs rcd total)
theorem init_any (B : Nat) (x : List UInt8) (c : Nat) (W : World) (h : BytesAt W B x) (hx : 504 ≤ x.length) :
    Calls Try.prog 8 #[.slice (some ⟨B, 0, none⟩) 504 c] W fun e w' => e = .returned (.tuple #[]) ∧ (∃ x', BytesAt w' B x' ∧ Recs x' [] ∧ x'.length = x.length) ∧ Only B W w' := by
  have hcl := UK.run_clear (P := Try.prog) (t := 23) (ty := 0) Try.underlying23 (fun w => by kernel_rfl) h 0 504 c (by omega)
  have b4 := h.setCells (UK.zeros 504) 0 (by rw [UK.zeros_length]; omega)
  have o4 := (Only.refl B W).setCells (UK.cellsOf (UK.zeros 504)) (o := 0)
  have hlen : (UK.wr x 0 (UK.zeros 504)).length = x.length := UK.wr_length _ _ _ (by rw [UK.zeros_length]; omega)
  have hi := Recs.init (UK.wr x 0 (UK.zeros 504)) (by omega) (fun i hi => by
    rw [SR.nth_wr _ _ _ (by rw [UK.zeros_length]; omega), if_pos (by rw [UK.zeros_length]; omega)]
    exact UK.nth_zeros _ _)
  have HI := Lib.hid hi
  have B4 := Lib.hid b4
  have O4 := Lib.hid o4
  have HL := Lib.hid hlen
  clear hi b4 o4 hlen
  go_enter Try.func8, Try.ntmps8
  go_wp2_with fail
  refine (put_any B _ c _ _ _ B4.out (by rw [HL.out]; exact hx) (by omega) (by omega) (by omega) (by omega)).mono ?_
  rintro e w3 ⟨rfl, b3, o3⟩
  go_wp2
  go_end0
  exact ⟨rfl, ⟨_, b3, HI.out, by rw [SR.put_length, HL.out]⟩, O4.out.trans o3⟩
theorem add_no (B : Nat) (x : List UInt8) (l : List (List UInt8)) (c : Nat) (s : List UInt8) (W : World) (h : BytesAt W B x) (r : Recs x l) (hn : room l < s.length ∨ s = []) :
    Calls Try.prog 11 #[.slice (some ⟨B, 0, none⟩) 504 c, .string (str s)] W fun e w' => e = .returned (.tuple #[.int .i64 0, .bool false]) ∧ Below W.heap.size W w' := by
  by_cases hr : room l < s.length
  · clear hn
    go_enter Try.func11, Try.ntmps11
    go_wp2_with fail
    refine (room_any B x l c W h r).mono ?_
    rintro e w1 ⟨rfl, hb⟩
    go_wp2
    go_ret2
    exact ⟨rfl, hb⟩
  · obtain rfl : s = [] := by rcases hn with h1 | h1; exact absurd h1 hr; exact h1
    simp only [List.length_nil] at hr
    clear hn
    go_enter Try.func11, Try.ntmps11
    go_wp2_with fail
    refine (room_any B x l c W h r).mono ?_
    rintro e w1 ⟨rfl, hb⟩
    go_wp2
    go_ret2
    exact ⟨rfl, hb⟩
theorem add_yes (B : Nat) (x : List UInt8) (l : List (List UInt8)) (c : Nat) (hc : 504 ≤ c) (s : List UInt8) (W : World) (h : BytesAt W B x) (r : Recs x l) (hs : s ≠ []) (hr : (s.length : Int) ≤ room l) :
    Calls Try.prog 11 #[.slice (some ⟨B, 0, none⟩) 504 c, .string (str s)] W fun e w' => e = .returned (.tuple #[.int .i64 (hole l : Nat), .bool true]) ∧ (∃ x', BytesAt w' B x' ∧ Recs x' (add l s) ∧ x'.length = x.length) ∧ Only B W w' := by
  have hf := r.few
  have hl2 := r.low2
  have hs0 : 0 < s.length := List.length_pos_iff.2 hs
  have HS0 := Lib.hid hs
  have hse : s.isEmpty = false := by cases s; exact absurd rfl hs; rfl
  have hle := hole_le l
  have hr0 : ¬ room l < s.length := by omega
  clear hs
  by_cases hh : hole l = l.length
  · have hrm := room_end l hh
    have hsum : 4 + 4 * (l.length + 1) + total l + s.length ≤ 504 := by omega
    have HR := Lib.hid hrm
    clear hrm
    replace hh := Lib.hid hh
    by_cases hlow : 4 + 4 * (l.length + 1) ≤ SR.low x
    · obtain ⟨x1, r1, hlow1, hx1, hb1⟩ : ∃ x1, Recs x1 l ∧ 4 + 4 * (l.length + 1) ≤ SR.low x1 ∧ x1.length = x.length ∧ ∀ w, Below W.heap.size W w → BytesAt w B x1 := ⟨x, r, hlow, rfl, fun w hb => h.below hb h.lt⟩
      have HB1 := Lib.hid hb1
      clear hb1
      go_enter Try.func11, Try.ntmps11
      go_wp2_with fail
      refine (room_any B x l c W h r).mono ?_
      rintro e w1 ⟨rfl, b1⟩
      go_wp2_with fail
      refine (empty_any B x l c w1 (h.below b1 h.lt) r).mono ?_
      rintro e w2 ⟨rfl, b2⟩
      have b12 := b1.trans (b2.mono b1.size)
      rw [hh.out]
      go_wp2_with fail
      refine (len_rec B x l c w2 (h.below b12 h.lt) r).mono ?_
      rintro e w' ⟨rfl, k1, rfl⟩
      have b13 := UK.belowN b12 k1
      go_wp2_with fail
      refine (low_any B x c _ (h.below b13 h.lt) r.size).mono ?_
      rintro e w' ⟨rfl, k2, rfl⟩
      go_wp2_with fail
      have b14 := UK.belowN b13 k2
      have hb1 := HB1.out _ b14
      have o1 := Only.of_below (B := B) b14
      simp only [World.drewN_drewN] at hb1 o1 ⊢
      generalize w2.drewN (k1 + k2) = w3 at hb1 o1 ⊢
      have hG := r1.grow hlow1 (by omega)
      have HG := Lib.hid hG
      have hsz1 := r1.size
      clear hG
      refine (put_any B x1 c _ _ w3 hb1 hsz1 (by omega) (by omega) (by omega) (by omega)).mono ?_
      rintro e w4 ⟨rfl, b4, o4⟩
      rw [show (0 : Int).toNat = 0 from rfl, show ((l.length : Int) + 1).toNat = l.length + 1 by omega] at b4
      go_wp2_with fail
      refine (lay_any B _ c _ _ _ w4 b4 (by rw [SR.put_length]; omega) (by omega) (by omega) (by omega) (by omega) (by omega) (by omega)).mono ?_
      rintro e w5 ⟨rfl, b5, o5⟩
      rw [Int.toNat_natCast, show (0 : Int).toNat = 0 from rfl] at b5
      go_wp2_with fail
      refine (store_any B _ (l ++ [[]]) c hc l.length s w5 b5 HG.out (by rw [List.length_append]; simp) (rcd_end l) HS0.out (by rw [List.length_append, SR.total_append]; simp [total]; omega)).mono ?_
      rintro e w6 ⟨rfl, ⟨x6, b6, r6, hx6⟩, o6⟩
      rw [← add_end l s hh.out] at r6
      rw [SR.lay_length, SR.put_length] at hx6
      go_wp2
      go_ret2
      exact ⟨by rw [hh.out] <;> rfl, ⟨x6, b6, r6, by rw [hx6]; exact hx1⟩, ((o1.trans o4).trans o5).trans o6⟩
    · go_enter Try.func11, Try.ntmps11
      go_wp2_with fail
      refine (room_any B x l c W h r).mono ?_
      rintro e w1 ⟨rfl, b1⟩
      go_wp2_with fail
      refine (empty_any B x l c w1 (h.below b1 h.lt) r).mono ?_
      rintro e w2 ⟨rfl, b2⟩
      have b12 := b1.trans (b2.mono b1.size)
      rw [hh.out]
      go_wp2_with fail
      refine (len_rec B x l c w2 (h.below b12 h.lt) r).mono ?_
      rintro e w' ⟨rfl, k1, rfl⟩
      have b13 := UK.belowN b12 k1
      go_wp2_with fail
      refine (low_any B x c _ (h.below b13 h.lt) r.size).mono ?_
      rintro e w' ⟨rfl, k2, rfl⟩
      go_wp2_with fail
      have b14 := UK.belowN b13 k2
      have hbx := h.below b14 h.lt
      have ox := Only.of_below (B := B) b14
      simp only [World.drewN_drewN] at hbx ox ⊢
      refine (pack_any B x l c hc _ hbx r (by omega)).mono ?_
      rintro e w3 ⟨rfl, ⟨x1, hb1, r1, hlowp, hx1⟩, o0⟩
      have hlow1 : 4 + 4 * (l.length + 1) ≤ SR.low x1 := by omega
      have o1 : Only B W w3 := ox.trans o0
      clear hlowp
      go_wp2_with fail
      have hG := r1.grow hlow1 (by omega)
      have HG := Lib.hid hG
      have hsz1 := r1.size
      clear hG
      refine (put_any B x1 c _ _ w3 hb1 hsz1 (by omega) (by omega) (by omega) (by omega)).mono ?_
      rintro e w4 ⟨rfl, b4, o4⟩
      rw [show (0 : Int).toNat = 0 from rfl, show ((l.length : Int) + 1).toNat = l.length + 1 by omega] at b4
      go_wp2_with fail
      refine (lay_any B _ c _ _ _ w4 b4 (by rw [SR.put_length]; omega) (by omega) (by omega) (by omega) (by omega) (by omega) (by omega)).mono ?_
      rintro e w5 ⟨rfl, b5, o5⟩
      rw [Int.toNat_natCast, show (0 : Int).toNat = 0 from rfl] at b5
      go_wp2_with fail
      refine (store_any B _ (l ++ [[]]) c hc l.length s w5 b5 HG.out (by rw [List.length_append]; simp) (rcd_end l) HS0.out (by rw [List.length_append, SR.total_append]; simp [total]; omega)).mono ?_
      rintro e w6 ⟨rfl, ⟨x6, b6, r6, hx6⟩, o6⟩
      rw [← add_end l s hh.out] at r6
      rw [SR.lay_length, SR.put_length] at hx6
      go_wp2
      go_ret2
      exact ⟨by rw [hh.out] <;> rfl, ⟨x6, b6, r6, by rw [hx6]; exact hx1⟩, ((o1.trans o4).trans o5).trans o6⟩
  · have hlt : hole l < l.length := by omega
    have hrm := room_hole l hlt
    have hsum : 4 + 4 * l.length + total l + s.length ≤ 504 := by omega
    have hb0 : ((hole l : Int) == (l.length : Int)) = false := by rw [beq_eq_false_iff_ne]; omega
    have HA := Lib.hid (add_hole l s hlt)
    have HZ := Lib.hid ((hole_spec l).2 hlt)
    clear hrm hh
    go_enter Try.func11, Try.ntmps11
    go_wp2_with fail
    refine (room_any B x l c W h r).mono ?_
    rintro e w1 ⟨rfl, b1⟩
    go_wp2_with fail
    refine (empty_any B x l c w1 (h.below b1 h.lt) r).mono ?_
    rintro e w2 ⟨rfl, b2⟩
    have b12 := b1.trans (b2.mono b1.size)
    go_wp2_with fail
    refine (len_rec B x l c w2 (h.below b12 h.lt) r).mono ?_
    rintro e w' ⟨rfl, k1, rfl⟩
    have b13 := UK.belowN b12 k1
    go_wp2_with fail
    refine (store_any B x l c hc (hole l) s _ (h.below b13 h.lt) r hlt HZ.out HS0.out hsum).mono ?_
    rintro e w5 ⟨rfl, ⟨x5, b5, r5, hx5⟩, o5⟩
    rw [← HA.out] at r5
    go_wp2
    go_ret2
    exact ⟨rfl, ⟨x5, b5, r5, hx5⟩, (Only.of_below b13).trans o5⟩
theorem rcd_nat (l : List (List UInt8)) (i : Int) (h : hasB l i = true) : ∃ k : Nat, i = k ∧ k < l.length ∧ rcd l k ≠ [] := by
  unfold hasB at h
  obtain ⟨h0, h1, h2⟩ := of_decide_eq_true h
  obtain ⟨k, rfl⟩ := Int.eq_ofNat_of_zero_le h0
  exact ⟨k, rfl, by omega, by simpa using h2⟩
theorem hasB_nat (l : List (List UInt8)) (k : Nat) (h1 : k < l.length) (h2 : rcd l k ≠ []) : hasB l k = true := by
  unfold hasB; simp [h1, h2]
theorem has_no (B : Nat) (x : List UInt8) (l : List (List UInt8)) (c : Nat) (i : Int) (W : World) (h : BytesAt W B x) (r : Recs x l) (hn : hasB l i = false) :
    Calls Try.prog 29 #[.slice (some ⟨B, 0, none⟩) 504 c, .int .i64 i] W fun e w' => e = .returned (.bool false) ∧ Below W.heap.size W w' := by
  have := has_any B x l c i W h r
  rwa [hn] at this
theorem has_yes (B : Nat) (x : List UInt8) (l : List (List UInt8)) (c k : Nat) (W : World) (h : BytesAt W B x) (r : Recs x l) (h1 : k < l.length) (h2 : rcd l k ≠ []) :
    Calls Try.prog 29 #[.slice (some ⟨B, 0, none⟩) 504 c, .int .i64 k] W fun e w' => e = .returned (.bool true) ∧ Below W.heap.size W w' := by
  have := has_any B x l c k W h r
  rwa [hasB_nat l k h1 h2] at this
theorem set_none (B : Nat) (x : List UInt8) (l : List (List UInt8)) (c : Nat) (i : Int) (s : List UInt8) (W : World) (h : BytesAt W B x) (r : Recs x l) (hn : hasB l i = false) :
    Calls Try.prog 18 #[.slice (some ⟨B, 0, none⟩) 504 c, .int .i64 i, .string (str s)] W fun e w' => e = .returned (.bool false) ∧ Below W.heap.size W w' := by
  have H := Lib.hid (has_no B x l c i W h r hn)
  clear hn
  go_enter Try.func18, Try.ntmps18
  go_wp2_with fail
  refine H.out.mono ?_
  rintro e w1 ⟨rfl, hb⟩
  go_wp2
  go_ret
  exact ⟨rfl, hb⟩
theorem set_void (B : Nat) (x : List UInt8) (l : List (List UInt8)) (c k : Nat) (W : World) (h : BytesAt W B x) (r : Recs x l) (h1 : k < l.length) (h2 : rcd l k ≠ []) :
    Calls Try.prog 18 #[.slice (some ⟨B, 0, none⟩) 504 c, .int .i64 k, .string (str [])] W fun e w' => e = .returned (.bool false) ∧ Below W.heap.size W w' := by
  have H := Lib.hid (has_yes B x l c k W h r h1 h2)
  clear h2
  go_enter Try.func18, Try.ntmps18
  go_wp2_with fail
  refine H.out.mono ?_
  rintro e w1 ⟨rfl, hb⟩
  go_wp2
  go_ret
  exact ⟨rfl, hb⟩
theorem set_big (B : Nat) (x : List UInt8) (l : List (List UInt8)) (c k : Nat) (s : List UInt8) (W : World) (h : BytesAt W B x) (r : Recs x l) (h1 : k < l.length) (h2 : rcd l k ≠ []) (hs : s ≠ []) (hbig : 504 + (rcd l k).length < 4 + 4 * l.length + total l + s.length) :
    Calls Try.prog 18 #[.slice (some ⟨B, 0, none⟩) 504 c, .int .i64 k, .string (str s)] W fun e w' => e = .returned (.bool false) ∧ Below W.heap.size W w' := by
  have hf := r.few
  have hsum := r.sum
  have H := Lib.hid (has_yes B x l c k W h r h1 h2)
  have hle := SR.rcd_length_le l k
  have hse : s.isEmpty = false := by cases s; exact absurd rfl hs; rfl
  have hbig2 : (500 : Int) - 4 * l.length - total l + (rcd l k).length < s.length := by omega
  clear h2 hs
  go_enter Try.func18, Try.ntmps18
  go_wp2_with fail
  refine H.out.mono ?_
  rintro e w1 ⟨rfl, b1⟩
  go_wp2_with fail
  refine (slot_there B x l c k w1 (h.below b1 h.lt) r h1).mono ?_
  rintro e w' ⟨rfl, k1, rfl⟩
  have b2 := UK.belowN b1 k1
  generalize w1.drewN k1 = w2 at b2 ⊢
  go_wp2_with fail
  refine (len_rec B x l c _ (h.below b2 h.lt) r).mono ?_
  rintro e w' ⟨rfl, k2, rfl⟩
  have b3 := UK.belowN b2 k2
  generalize w2.drewN k2 = w3 at b3 ⊢
  go_wp2_with fail
  refine (used_any B x l c _ (h.below b3 h.lt) r).mono ?_
  rintro e w4 ⟨rfl, b4⟩
  go_wp2
  go_ret
  exact ⟨rfl, b3.trans (b4.mono b3.size)⟩
theorem set_yes (B : Nat) (x : List UInt8) (l : List (List UInt8)) (c : Nat) (hc : 504 ≤ c) (k : Nat) (s : List UInt8) (W : World) (h : BytesAt W B x) (r : Recs x l) (h1 : k < l.length) (h2 : rcd l k ≠ []) (hs : s ≠ []) (hfit : 4 + 4 * l.length + total l + s.length ≤ 504 + (rcd l k).length) :
    Calls Try.prog 18 #[.slice (some ⟨B, 0, none⟩) 504 c, .int .i64 k, .string (str s)] W fun e w' => e = .returned (.bool true) ∧ (∃ x', BytesAt w' B x' ∧ Recs x' (l.set k s) ∧ x'.length = x.length) ∧ Only B W w' := by
  have hf := r.few
  have hsum := r.sum
  have H := Lib.hid (has_yes B x l c k W h r h1 h2)
  have hle := SR.rcd_length_le l k
  have hse : s.isEmpty = false := by cases s; exact absurd rfl hs; rfl
  have hfit2 : ¬ (500 : Int) - 4 * l.length - total l + (rcd l k).length < s.length := by omega
  have HS0 := Lib.hid hs
  have HD := Lib.hid (r.drop h1)
  have hts := SR.total_set l k [] h1
  rw [List.length_nil] at hts
  have hsz := r.size
  clear h2 hs
  go_enter Try.func18, Try.ntmps18
  go_wp2_with fail
  refine H.out.mono ?_
  rintro e w1 ⟨rfl, b1⟩
  go_wp2_with fail
  refine (slot_there B x l c k w1 (h.below b1 h.lt) r h1).mono ?_
  rintro e w' ⟨rfl, k1, rfl⟩
  have b2 := UK.belowN b1 k1
  generalize w1.drewN k1 = w2 at b2 ⊢
  go_wp2_with fail
  refine (len_rec B x l c _ (h.below b2 h.lt) r).mono ?_
  rintro e w' ⟨rfl, k2, rfl⟩
  have b3 := UK.belowN b2 k2
  generalize w2.drewN k2 = w3 at b3 ⊢
  go_wp2_with fail
  refine (used_any B x l c _ (h.below b3 h.lt) r).mono ?_
  rintro e w4 ⟨rfl, b4⟩
  have b5 := b3.trans (b4.mono b3.size)
  go_wp2_with fail
  refine (lay_any B x c _ _ _ w4 (h.below b5 h.lt) hsz (by omega) (by omega) (by omega) (by omega) (by omega) (by omega)).mono ?_
  rintro e w6 ⟨rfl, b6, o6⟩
  rw [Int.toNat_natCast, show (0 : Int).toNat = 0 from rfl] at b6
  go_wp2_with fail
  refine (store_any B _ (l.set k []) c hc k s w6 b6 HD.out (by rw [List.length_set]; exact h1) (by rw [SR.rcd_set, if_pos ⟨rfl, h1⟩]) HS0.out (by rw [List.length_set]; omega)).mono ?_
  rintro e w7 ⟨rfl, ⟨x7, b7, r7, hx7⟩, o7⟩
  rw [List.set_set] at r7
  go_wp2
  go_ret
  exact ⟨rfl, ⟨x7, b7, r7, by rw [hx7, SR.lay_length]⟩, ((Only.of_below b5).trans o6).trans o7⟩
theorem drop_no (B : Nat) (x : List UInt8) (l : List (List UInt8)) (c : Nat) (i : Int) (W : World) (h : BytesAt W B x) (r : Recs x l) (hn : hasB l i = false) :
    Calls Try.prog 13 #[.slice (some ⟨B, 0, none⟩) 504 c, .int .i64 i] W fun e w' => e = .returned (.bool false) ∧ Below W.heap.size W w' := by
  have H := Lib.hid (has_no B x l c i W h r hn)
  clear hn
  go_enter Try.func13, Try.ntmps13
  go_wp2_with fail
  refine H.out.mono ?_
  rintro e w1 ⟨rfl, hb⟩
  go_wp2
  go_ret
  exact ⟨rfl, hb⟩
theorem drop_yes (B : Nat) (x : List UInt8) (l : List (List UInt8)) (c k : Nat) (W : World) (h : BytesAt W B x) (r : Recs x l) (h1 : k < l.length) (h2 : rcd l k ≠ []) :
    Calls Try.prog 13 #[.slice (some ⟨B, 0, none⟩) 504 c, .int .i64 k] W fun e w' => e = .returned (.bool true) ∧ (∃ x', BytesAt w' B x' ∧ Recs x' (trim (l.set k [])) ∧ x'.length = x.length) ∧ Only B W w' := by
  have hf := r.few
  have H := Lib.hid (has_yes B x l c k W h r h1 h2)
  have hsz := r.size
  have hD := r.drop h1
  have hL1 : (SR.lay x k 0 0).length = x.length := SR.lay_length _ _ _ _
  generalize hm : l.set k [] = m at *
  generalize hx1 : SR.lay x k 0 0 = x1 at *
  have HX1 := Lib.hid hx1
  have HL := Lib.hid hL1
  clear h2 hx1 hm hL1
  have hf1 := hD.few
  have hl1 := hD.low1
  have hsz1 := hD.size
  go_enter Try.func13, Try.ntmps13
  go_wp2_with fail
  refine H.out.mono ?_
  rintro e w1 ⟨rfl, b1⟩
  go_wp2_with fail
  refine (lay_any B x c _ _ _ w1 (h.below b1 h.lt) hsz (by omega) (by omega) (by omega) (by omega) (by omega) (by omega)).mono ?_
  rintro e w6 ⟨rfl, b6, o6⟩
  rw [Int.toNat_natCast, show (0 : Int).toNat = 0 from rfl, HX1.out] at b6
  go_wp2_with fail
  refine (len_rec B x1 m c w6 b6 hD).mono ?_
  rintro e w' ⟨rfl, k1, rfl⟩
  go_wp2_with fail
  go_loopw [5] (fun n wr => ∃ q : Nat, q ≤ m.length ∧ n = .int .i64 q ∧ Hid (∀ j, q ≤ j → j < m.length → rcd m j = []) ∧ Below w6.heap.size w6 wr) (fun n _ => (intOf n).toNat)
  case atStart => exact ⟨m.length, Nat.le_refl _, rfl, fun j h1 h2 => absurd h1 (by omega), UK.belowN (Below.refl _ _) _⟩
  case round =>
    obtain ⟨q, hq, rfl, HJ, hb⟩ := hrel
    have hbx := b6.below hb b6.lt
    have ob : Only B W _ := ((Only.of_below (B := B) b1).trans o6).trans (Only.of_below hb)
    cases q with
    | zero =>
      have hk0 : kept m m.length = 0 := kept_at m 0 m.length (Nat.zero_le _) HJ.out (fun h => absurd h (Nat.lt_irrefl _))
      have HT : Hid (trim m = []) := by show _ = _; unfold trim; rw [hk0]; rfl
      have HR := Lib.hid (shrink0 hD)
      clear hk0
      go_wp2_with fail
      refine (put_any B x1 c _ _ _ hbx hsz1 (by omega) (by omega) (by omega) (by omega)).mono ?_
      rintro e w7 ⟨rfl, b7, o7⟩
      rw [show (0 : Int).toNat = 0 from rfl] at b7
      go_wp2_with fail
      refine (put_any B _ c _ _ w7 b7 (by rw [SR.put_length]; exact hsz1) (by omega) (by omega) (by omega) (by omega)).mono ?_
      rintro e w8 ⟨rfl, b8, o8⟩
      go_wp2
      go_ret
      exact ⟨rfl, ⟨_, b8, by rw [HT.out]; exact HR.out, by rw [SR.put_length, SR.put_length]; exact HL.out⟩, (ob.trans o7).trans o8⟩
    | succ q =>
      by_cases h0 : rcd m q = []
      · have HJ2 : Hid (∀ j, q ≤ j → j < m.length → rcd m j = []) := fun j hj1 hj2 => by
          by_cases hjq : j = q
          · rw [hjq]; exact h0
          · exact HJ.out j (by omega) hj2
        have HSL := Lib.hid (slot_hole B x1 m c q _ hbx hD (by omega) h0)
        clear h0
        go_wp2_with fail
        refine HSL.out.mono ?_
        rintro e w' ⟨rfl, k2, rfl⟩
        go_wp2
        go_roundw
        case rel => exact ⟨q, by omega, by go_num, HJ2, UK.belowN hb _⟩
        case measure => simp [intOf]
      · have hkq : kept m m.length = q + 1 := kept_at m (q + 1) m.length hq HJ.out (fun _ => by simpa using h0)
        have HT : Hid (trim m = m.take (q + 1)) := by show _ = _; unfold trim; rw [hkq]
        have HR := Lib.hid (shrink hD (q + 1) hq (by omega) HJ.out)
        have HSL := Lib.hid (slot_there B x1 m c q _ hbx hD (by omega))
        have hp := (hD.there q (by omega) h0).1
        have hp0 : 0 < SR.pos x1 q := by omega
        clear hkq h0 hp
        go_wp2_with fail
        refine HSL.out.mono ?_
        rintro e w' ⟨rfl, k2, rfl⟩
        go_wp2_with fail
        refine (put_any B x1 c _ _ _ (hbx.drewN k2) hsz1 (by omega) (by omega) (by omega) (by omega)).mono ?_
        rintro e w7 ⟨rfl, b7, o7⟩
        rw [show (0 : Int).toNat = 0 from rfl, show ((q : Int) + 1).toNat = q + 1 by omega] at b7
        have hq0 : ((q : Int) + 1 == 0) = false := by rw [beq_eq_false_iff_ne]; omega
        go_wp2
        go_ret
        exact ⟨rfl, ⟨_, b7, by rw [HT.out]; exact HR.out, by rw [SR.put_length]; exact HL.out⟩, (ob.drewN k2).trans o7⟩
end Go.Proofs.Ytdbnlcmnnoajoaa
