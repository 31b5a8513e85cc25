/-
  SlotPlays, walked: it returns true.
-/
import Derived.Test.YtdbnlcmnnoajoaaRefSlot
namespace Go.Proofs.Ytdbnlcmnnoajoaa
open Go.RowKit
open UK (str BytesAt nth Only Texts)
open Go.BigFrame
open SR (Recs rcd total)
/-- a page and a slice of texts beside it -/
structure Duo (W0 W : World) (B : Nat) (l : List (List UInt8)) (g c : Nat) (x : List (List UInt8)) : Prop where
  page : Page W0 W B l
  texts : Texts W (B + 1) g c x
namespace Duo
variable {W0 W W' : World} {B g c : Nat} {l x : List (List UInt8)}
theorem lt (h : Duo W0 W B l g c x) : B + 1 ≤ W.heap.size := by
  obtain ⟨y, hy, _⟩ := h.page.page
  exact hy.lt
theorem next (h : Duo W0 W B l g c x) (hb : Below W.heap.size W W') : Duo W0 W' B l g c x := ⟨h.page.next hb, h.texts.below hb h.texts.lt⟩
theorem drewN (h : Duo W0 W B l g c x) (n : Nat) : Duo W0 (W.drewN n) B l g c x := h.next (UK.belowN (Below.refl _ _) n)
theorem turn (h : Duo W0 W B l g c x) {l' : List (List UInt8)} (ho : Only B W W') (hx : ∃ x, BytesAt W' B x ∧ Recs x l') : Duo W0 W' B l' g c x :=
  ⟨h.page.turn ho hx, h.texts.of_block ho.size (ho.block g h.texts.lt (by have := h.texts.low; omega))⟩
theorem other (h : Duo W0 W B l g c x) (hb : Below W.heap.size W W') {g' c' : Nat} {x' : List (List UInt8)} (ht : Texts W' (B + 1) g' c' x') : Duo W0 W' B l g' c' x' := ⟨h.page.next hb, ht⟩
theorem sum (h : Duo W0 W B l g c x) : 4 * l.length + total l ≤ 500 := by
  obtain ⟨y, _, hr⟩ := h.page.page
  have := hr.sum
  omega
end Duo
section
variable {W0 W : World} {B g c : Nat} {l x : List (List UInt8)}
theorem duo_room (h : Duo W0 W B l g c x) (cc : Nat) :
    Calls Try.prog 10 #[.slice (some ⟨B, 0, none⟩) 504 cc] W fun e w' => e = .returned (.int .i64 (room l)) ∧ Duo W0 w' B l g c x := by
  obtain ⟨y, hx, hr⟩ := h.page.page
  exact (room_any B y l cc W hx hr).mono fun e w' ⟨he, hb⟩ => ⟨he, h.next hb⟩
theorem duo_live (h : Duo W0 W B l g c x) (cc : Nat) :
    Calls Try.prog 12 #[.slice (some ⟨B, 0, none⟩) 504 cc] W fun e w' => e = .returned (.int .i64 (live l : Nat)) ∧ Duo W0 w' B l g c x := by
  obtain ⟨y, hx, hr⟩ := h.page.page
  exact (live_any B y l cc W hx hr).mono fun e w' ⟨he, hb⟩ => ⟨he, h.next hb⟩
theorem duo_len (h : Duo W0 W B l g c x) (cc : Nat) :
    Calls Try.prog 21 #[.slice (some ⟨B, 0, none⟩) 504 cc] W fun e w' => e = .returned (.int .i64 l.length) ∧ Duo W0 w' B l g c x := by
  obtain ⟨y, hx, hr⟩ := h.page.page
  exact (len_rec B y l cc W hx hr).mono fun e w' ⟨he, k, hb⟩ => ⟨he, hb ▸ h.drewN k⟩
theorem duo_good (h : Duo W0 W B l g c x) (cc : Nat) (hlast : Last l) :
    Calls Try.prog 14 #[.slice (some ⟨B, 0, none⟩) 504 cc] W fun e w' => e = .returned (.bool true) ∧ Duo W0 w' B l g c x := by
  obtain ⟨y, hx, hr⟩ := h.page.page
  exact (good_any B y l cc W hx hr hlast).mono fun e w' ⟨he, hb⟩ => ⟨he, h.next hb⟩
theorem duo_get_no (h : Duo W0 W B l g c x) (cc : Nat) (i : Int) (hn : hasB l i = false) :
    Calls Try.prog 15 #[.slice (some ⟨B, 0, none⟩) 504 cc, .int .i64 i] W fun e w' => e = .returned (.tuple #[.string (str []), .bool false]) ∧ Duo W0 w' B l g c x := by
  obtain ⟨y, hx, hr⟩ := h.page.page
  exact (get_no B y l cc i W hx hr hn).mono fun e w' ⟨he, hb⟩ => ⟨he, h.next hb⟩
theorem duo_get_yes (h : Duo W0 W B l g c x) (cc : Nat) (hc : 504 ≤ cc) (i : Nat) (hi : i < l.length) (h0 : rcd l i ≠ []) :
    Calls Try.prog 15 #[.slice (some ⟨B, 0, none⟩) 504 cc, .int .i64 i] W fun e w' => e = .returned (.tuple #[.string (str (rcd l i)), .bool true]) ∧ Duo W0 w' B l g c x := by
  obtain ⟨y, hx, hr⟩ := h.page.page
  exact (get_yes B y l cc hc i W hx hr hi h0).mono fun e w' ⟨he, hb⟩ => ⟨he, h.next hb⟩
theorem duo_add (h : Duo W0 W B l g c x) (cc : Nat) (hc : 504 ≤ cc) (s : List UInt8) :
    Calls Try.prog 11 #[.slice (some ⟨B, 0, none⟩) 504 cc, .string (str s)] W fun e w' => e = .returned (.tuple #[.int .i64 (addI l s), .bool (addB l s)]) ∧ Duo W0 w' B (addL l s) g c x := by
  obtain ⟨y, hx, hr⟩ := h.page.page
  by_cases hn : room l < s.length ∨ s = []
  · unfold addI addB addL
    rw [if_pos hn, if_pos hn, if_pos hn]
    exact (add_no B y l cc s W hx hr hn).mono fun e w' ⟨he, hb⟩ => ⟨he, h.next hb⟩
  · unfold addI addB addL
    rw [if_neg hn, if_neg hn, if_neg hn]
    exact (add_yes B y l cc hc s W hx hr (fun e => hn (.inr e)) (by omega)).mono fun e w' ⟨he, ⟨x', h1, h2, _⟩, ho⟩ => ⟨he, h.turn ho ⟨x', h1, h2⟩⟩
theorem duo_drop (h : Duo W0 W B l g c x) (cc : Nat) (i : Int) :
    Calls Try.prog 13 #[.slice (some ⟨B, 0, none⟩) 504 cc, .int .i64 i] W fun e w' => e = .returned (.bool (hasB l i)) ∧ Duo W0 w' B (dropL l i) g c x ∧ Only B W w' := by
  obtain ⟨y, hx, hr⟩ := h.page.page
  cases hb : hasB l i
  · have hd : dropL l i = l := by unfold dropL; rw [hb]; rfl
    rw [hd]
    exact (drop_no B y l cc i W hx hr hb).mono fun e w' ⟨he, hb⟩ => ⟨he, h.next hb, Only.of_below hb⟩
  · have hd : dropL l i = trim (l.set i.toNat []) := by unfold dropL; rw [hb]; rfl
    obtain ⟨k, rfl, hk, h0⟩ := rcd_nat l i hb
    rw [hd, Int.toNat_natCast]
    exact (drop_yes B y l cc k W hx hr hk h0).mono fun e w' ⟨he, ⟨x', h1, h2, _⟩, ho⟩ => ⟨he, h.turn ho ⟨x', h1, h2⟩, ho⟩
theorem duo_set (h : Duo W0 W B l g c x) (cc : Nat) (hc : 504 ≤ cc) (i : Int) (s : List UInt8) :
    Calls Try.prog 18 #[.slice (some ⟨B, 0, none⟩) 504 cc, .int .i64 i, .string (str s)] W fun e w' => e = .returned (.bool (setB l i s)) ∧ Duo W0 w' B (setL l i s) g c x ∧ Only B W w' := by
  obtain ⟨y, hx, hr⟩ := h.page.page
  unfold setL
  cases hb : hasB l i
  · have : setB l i s = false := by unfold setB; rw [hb]; rfl
    rw [this]
    exact (set_none B y l cc i s W hx hr hb).mono fun e w' ⟨he, hb⟩ => ⟨he, h.next hb, Only.of_below hb⟩
  · obtain ⟨k, rfl, hk, h0⟩ := rcd_nat l i hb
    by_cases hs : s = []
    · have : setB l k s = false := by unfold setB; simp [hs]
      rw [this]
      subst hs
      exact (set_void B y l cc k W hx hr hk h0).mono fun e w' ⟨he, hb⟩ => ⟨he, h.next hb, Only.of_below hb⟩
    · by_cases hf : 4 + 4 * l.length + total l + s.length ≤ 504 + (rcd l k).length
      · have : setB l k s = true := by unfold setB; rw [hb]; simp [hs, hf]
        rw [this]
        exact (set_yes B y l cc hc k s W hx hr hk h0 hs hf).mono fun e w' ⟨he, ⟨x', h1, h2, _⟩, ho⟩ => ⟨he, h.turn ho ⟨x', h1, h2⟩, ho⟩
      · have : setB l k s = false := by unfold setB; simp [hf]
        rw [this]
        exact (set_big B y l cc k s W hx hr hk h0 hs (by omega)).mono fun e w' ⟨he, hb⟩ => ⟨he, h.next hb, Only.of_below hb⟩
end
theorem setL_last (l : List (List UInt8)) (i : Int) (s : List UInt8) (h : Last l) : Last (setL l i s) := by
  unfold setL
  cases hb : setB l i s
  · exact h
  · right
    have hs : s ≠ [] := by
      intro e
      subst e
      simp [setB] at hb
    rw [if_pos rfl, List.length_set, SR.rcd_set]
    rcases h with rfl | h
    · simp [setB, hasB] at hb; omega
    · split
      · exact hs
      · exact h
section
variable {W0 W : World} {B g c : Nat} {l : List (List UInt8)}
set_option maxRecDepth 100000 in
theorem shows_any (h : Duo W0 W B l g c l) (hlast : Last l) (i : Int) :
    Calls Try.prog 16 #[.slice (some ⟨B, 0, none⟩) 504 504, .slice (some ⟨g, 0, none⟩) l.length c, .int .i64 i] W fun e w' => e = .returned (.int .i64 0) ∧ Duo W0 w' B l g c l := by
  have hsum := h.sum
  go_enter Try.func16, Try.ntmps16
  go_wp2_with fail
  refine (duo_len h 504).mono ?_
  rintro e w1 ⟨rfl, d1⟩
  go_wp2_with fail
  refine (duo_live d1 504).mono ?_
  rintro e w2 ⟨rfl, d2⟩
  go_wp2_with fail
  refine (ref_live d2.texts (by omega)).mono ?_
  rintro e w' ⟨rfl, q, rfl⟩
  have d3 := d2.drewN q
  go_wp2_with fail
  refine (duo_room d3 504).mono ?_
  rintro e w4 ⟨rfl, d4⟩
  go_wp2_with fail
  refine (ref_room d4.texts hsum).mono ?_
  rintro e w' ⟨rfl, q5, rfl⟩
  have d5 := d4.drewN q5
  go_wp2_with fail
  refine (duo_good d5 504 hlast).mono ?_
  rintro e w6 ⟨rfl, d6⟩
  go_wp2_with fail
  go_loopw [39] (fun i wr => ∃ k : Nat, k ≤ l.length ∧ i = .int .i64 k ∧ Duo W0 wr B l g c l) (fun i _ => l.length - (intOf i).toNat)
  case atStart => exact ⟨0, Nat.zero_le _, rfl, d6⟩
  case round =>
    obtain ⟨k, hk, rfl, d⟩ := hrel
    by_cases hlt : k < l.length
    · have hc := text_at d.texts k hlt
      by_cases h0 : rcd l k = []
      · have HG := Lib.hid (duo_get_no d 504 (k : Int) (by unfold hasB; simp [h0]))
        rw [h0] at hc
        clear h0
        go_wp2_with fail
        refine HG.out.mono ?_
        rintro e w7 ⟨rfl, d7⟩
        go_wp2
        go_roundw
        case rel => exact ⟨k + 1, by omega, by go_num, d7⟩
        case measure => simp [intOf]; omega
      · have he := nonempty h0
        have HG := Lib.hid (duo_get_yes d 504 (by decide) k hlt h0)
        clear h0
        go_wp2_with fail
        refine HG.out.mono ?_
        rintro e w7 ⟨rfl, d7⟩
        go_wp2
        go_roundw
        case rel => exact ⟨k + 1, by omega, by go_num, d7⟩
        case measure => simp [intOf]; omega
    · by_cases hin : 0 ≤ i ∧ i < l.length
      · have hi1 := hin.1
        have hi2 := hin.2
        clear hin
        by_cases hb : hasB l i = false
        · go_wp2_with fail
          refine (duo_get_no d 504 i hb).mono ?_
          rintro e w7 ⟨rfl, d7⟩
          go_wp2
          go_ret
          exact ⟨rfl, d7⟩
        · obtain ⟨p, rfl, hp, hp0⟩ := rcd_nat l i (by simpa using hb)
          clear hb
          have HG := Lib.hid (duo_get_yes d 504 (by decide) p hp hp0)
          clear hp0
          go_wp2_with fail
          refine HG.out.mono ?_
          rintro e w7 ⟨rfl, d7⟩
          go_wp2
          go_ret
          exact ⟨rfl, d7⟩
      · have HG := Lib.hid (duo_get_no d 504 i (by unfold hasB; exact decide_eq_false (fun ⟨a, b, _⟩ => hin ⟨a, b⟩)))
        by_cases hi1 : i < 0
        · clear hin
          go_wp2_with fail
          refine HG.out.mono ?_
          rintro e w7 ⟨rfl, d7⟩
          go_wp2
          go_ret
          exact ⟨rfl, d7⟩
        · have hi2 : (l.length : Int) ≤ i := by omega
          have hi0 : 0 ≤ i := by omega
          clear hin hi1
          go_wp2_with fail
          refine HG.out.mono ?_
          rintro e w7 ⟨rfl, d7⟩
          go_wp2
          go_ret
          exact ⟨rfl, d7⟩
set_option maxRecDepth 100000 in
theorem does_any (h : Duo W0 W B l g c l) (hlast : Last l) (kd ii ni : Int) (si : List UInt8) (hn : ni ≤ 9223372036854775807) :
    Calls Try.prog 17 #[.slice (some ⟨B, 0, none⟩) 504 504, .slice (some ⟨g, 0, none⟩) l.length c, .agg #[.int .i64 kd, .int .i64 ii, .int .i64 ni, .string (str si)]] W fun e w' =>
      ∃ g' c' l', e = .returned (.tuple #[.slice (some ⟨g', 0, none⟩) l'.length c', .bool true]) ∧ Duo W0 w' B l' g' c' l' ∧ Last l' := by
  have hsum := h.sum
  have hll := longL_le si ni
  go_enter Try.func17, Try.ntmps17
  go_wp2_with fail
  refine (long_det si ni _ hn).mono ?_
  rintro e w' ⟨rfl, rfl⟩
  generalize longL si ni = t at hll ⊢
  have d1 := h.next ((Below.refl W.heap.size W).alloc (Nat.le_refl _) (.cells #[.int .i64 kd, .int .i64 ii, .int .i64 ni, .string (str si)] 34))
  have ca : (W.alloc (.cells #[.int .i64 kd, .int .i64 ii, .int .i64 ni, .string (str si)] 34)).cell? ⟨W.heap.size, 1, none⟩ = some (.int .i64 ii) := World.cell?_alloc_new W _ _ 1
  have hAB : W.heap.size ≠ B := by have := h.lt; omega
  have hAl : W.heap.size < (W.alloc (.cells #[.int .i64 kd, .int .i64 ii, .int .i64 ni, .string (str si)] 34)).heap.size := by simp
  by_cases h1 : kd = 1
  · subst h1
    have HP := Lib.hid (duo_add d1 504 (by decide) t)
    clear ca hAB hAl d1
    go_wp2_with fail
    refine HP.out.mono ?_
    rintro e w2 ⟨rfl, d2⟩
    go_wp2_with fail
    refine (ref_add d2.texts d2.lt hsum t hll).mono ?_
    rintro e w3 ⟨g', c', rfl, t3, b3⟩
    have d3 := d2.other b3 t3
    go_wp2
    go_ret2
    exact ⟨g', c', _, rfl, d3, addL_last l t hlast⟩
  by_cases h2 : kd = 2
  · subst h2
    have HP := Lib.hid (duo_set d1 504 (by decide) ii t)
    clear d1 h1
    go_wp2_with fail
    refine HP.out.mono ?_
    rintro e w2 ⟨rfl, d2, o2⟩
    have ca2 : w2.cell? ⟨W.heap.size, 1, none⟩ = some (.int .i64 ii) := (World.cell?_of_block (a := ⟨W.heap.size, 1, none⟩) (o2.block W.heap.size hAl hAB)).trans ca
    clear o2 ca hAl hAB HP
    go_wp2_with fail
    refine (ref_set d2.texts d2.lt hsum ii t hll).mono ?_
    rintro e w3 ⟨g', c', rfl, t3, b3⟩
    have d3 := d2.other b3 t3
    go_wp2
    go_ret2
    exact ⟨g', c', _, rfl, d3, setL_last l ii t hlast⟩
  by_cases h3 : kd = 3
  · subst h3
    have HP := Lib.hid (duo_drop d1 504 ii)
    clear d1 h1 h2
    go_wp2_with fail
    refine HP.out.mono ?_
    rintro e w2 ⟨rfl, d2, o2⟩
    have ca2 : w2.cell? ⟨W.heap.size, 1, none⟩ = some (.int .i64 ii) := (World.cell?_of_block (a := ⟨W.heap.size, 1, none⟩) (o2.block W.heap.size hAl hAB)).trans ca
    clear o2 ca hAl hAB HP
    go_wp2_with fail
    refine (ref_drop d2.texts d2.lt (by omega) ii).mono ?_
    rintro e w3 ⟨g', c', rfl, t3, b3⟩
    have d3 := d2.other b3 t3
    go_wp2
    go_ret2
    exact ⟨g', c', _, rfl, d3, dropL_last l ii hlast⟩
  have hb1 : (kd == 1) = false := by rw [beq_eq_false_iff_ne]; exact h1
  have hb2 : (kd == 2) = false := by rw [beq_eq_false_iff_ne]; exact h2
  have hb3 : (kd == 3) = false := by rw [beq_eq_false_iff_ne]; exact h3
  clear h1 h2 h3 ca hAB hAl
  go_wp2
  go_ret2
  exact ⟨g, c, l, rfl, d1, hlast⟩
end
set_option maxHeartbeats 1000000 in
set_option maxRecDepth 100000 in
theorem plays_some (w : World) (b off len cap : Nat) (kd ii ni : Nat → Int) (si : Nat → List UInt8) (ha : ActsAt w b off len kd ii ni si) (hb : b < w.heap.size) (i : Int) :
    Calls Try.prog 5 #[.slice (some ⟨b, off, none⟩) len cap, .int .i64 i] w fun e w' => e = .returned (.bool true) ∧ Below w.heap.size w w' := by
  have hmk := make_page
  go_enter Try.func5, Try.ntmps5
  go_wp2_with fail
  refine (page_init w w (Below.refl _ _)).mono ?_
  rintro e w1 ⟨rfl, p1⟩
  obtain ⟨B, HB⟩ : ∃ B, Hid (w.heap.size = B) := ⟨_, rfl⟩
  rw [HB.out] at p1 ⊢
  clear hmk
  have d1 : Duo w (w1.alloc (.cells #[] 9)) B [] w1.heap.size 0 [] := by
    obtain ⟨y, hy, _⟩ := p1.page
    exact ⟨p1.next ((Below.refl _ _).alloc (Nat.le_refl _) _), hy.lt, by simp, Nat.le_refl _, fun j hj => absurd hj (Nat.not_lt_zero _), fun j hj => absurd hj (Nat.not_lt_zero _)⟩
  go_wp2_with fail
  generalize w1.heap.size = g0 at d1 ⊢
  refine (awake6_any _).mono ?_
  rintro e w2 ⟨rfl, b2⟩
  have d2 := d1.next b2
  go_wp2_with fail
  refine (shows_any d2 (.inl rfl) i).mono ?_
  rintro e w3 ⟨rfl, d3⟩
  clear d1 d2 b2 p1
  go_wp2_with fail
  go_loopw [6, 7] (fun x kk wr => ∃ (k g c : Nat) (l : List (List UInt8)), kk = .int .i64 k ∧ x = .slice (some ⟨g, 0, none⟩) l.length c ∧ k ≤ len ∧ k ≤ 60 ∧ Duo w wr B l g c l ∧ Hid (Last l)) (fun _ kk _ => 60 - (intOf kk).toNat)
  case atStart => exact ⟨0, g0, 0, [], rfl, rfl, Nat.zero_le _, Nat.zero_le _, d3, .inl rfl⟩
  case round =>
    obtain ⟨k, g, c, l, rfl, rfl, hk1, hk2, d, HL⟩ := hrel
    by_cases hkl : k < len
    · by_cases hk60 : k < 60
      · have c0 := ha.c0 k hkl
        have c1 := ha.c1 k hkl
        have c2 := ha.c2 k hkl
        have c3 := ha.c3 k hkl
        have hni := ha.n k hkl
        rw [← d.page.below.cell (p := ⟨_, _, none⟩) hb] at c0 c1 c2 c3
        generalize kd k = vk at c0
        generalize ii k = vi at c1
        generalize ni k = vn at c2 hni
        generalize si k = vs at c3
        go_wp2_with fail
        refine (does_any d HL.out vk vi vn vs hni).mono ?_
        rintro e w4 ⟨g4, c4, l4, rfl, d4, HL4⟩
        have HL5 := Lib.hid HL4
        clear c0 c1 c2 c3 HL4
        go_wp2_with fail
        refine (shows_any d4 HL5.out i).mono ?_
        rintro e w5 ⟨rfl, d5⟩
        go_wp2
        go_roundw
        case rel => exact ⟨k + 1, g4, c4, l4, by go_num, rfl, by omega, by omega, d5, HL5⟩
        case measure => simp [intOf]; omega
      · go_wp2
        go_ret
        exact ⟨rfl, d.page.below⟩
    · go_wp2
      go_ret
      exact ⟨rfl, d.page.below⟩
set_option maxHeartbeats 1000000 in
set_option maxRecDepth 100000 in
theorem plays_none (w : World) (ao : Option Addr) (cap : Nat) (i : Int) :
    Calls Try.prog 5 #[.slice ao 0 cap, .int .i64 i] w fun e w' => e = .returned (.bool true) ∧ Below w.heap.size w w' := by
  have hmk := make_page
  go_enter Try.func5, Try.ntmps5
  go_wp2_with fail
  refine (page_init w w (Below.refl _ _)).mono ?_
  rintro e w1 ⟨rfl, p1⟩
  obtain ⟨B, HB⟩ : ∃ B, Hid (w.heap.size = B) := ⟨_, rfl⟩
  rw [HB.out] at p1 ⊢
  clear hmk
  have d1 : Duo w (w1.alloc (.cells #[] 9)) B [] w1.heap.size 0 [] := by
    obtain ⟨y, hy, _⟩ := p1.page
    exact ⟨p1.next ((Below.refl _ _).alloc (Nat.le_refl _) _), hy.lt, by simp, Nat.le_refl _, fun j hj => absurd hj (Nat.not_lt_zero _), fun j hj => absurd hj (Nat.not_lt_zero _)⟩
  go_wp2_with fail
  generalize w1.heap.size = g0 at d1 ⊢
  refine (awake6_any _).mono ?_
  rintro e w2 ⟨rfl, b2⟩
  have d2 := d1.next b2
  go_wp2_with fail
  refine (shows_any d2 (.inl rfl) i).mono ?_
  rintro e w3 ⟨rfl, d3⟩
  clear d1 d2 b2 p1
  go_wp2_with fail
  go_loopw [6, 7] (fun x kk wr => kk = .int .i64 0 ∧ ∃ (g c : Nat) (l : List (List UInt8)), x = .slice (some ⟨g, 0, none⟩) l.length c ∧ Duo w wr B l g c l) (fun _ kk _ => 60 - (intOf kk).toNat)
  case atStart => exact ⟨rfl, g0, 0, [], rfl, d3⟩
  case round =>
    obtain ⟨rfl, g, c, l, rfl, d⟩ := hrel
    go_wp2
    go_ret
    exact ⟨rfl, d.page.below⟩
theorem plays_walk {H : Type} {enc : TypeId × Value → H} {base : Nat} {d : DataW H} {p : List MemPlace} (W : World) (v : Value) (hok : Value.okWide Try.prog W .any base 32 v) (h : DataW.Trod enc Try.prog W 0 (fun _ => true) true 32 v d p) (i : Int) (_wi : (Lit.int .i64 i).wf = true) :
    Calls Try.prog 5 #[v, .int .i64 i] W fun e w' => e = .returned (.bool true) ∧ Below W.heap.size W w' := by
  rcases acts_open W v hok h with ⟨ao, cap, rfl⟩ | ⟨b, off, len, cap, kd, ii, ni, si, rfl, ha, hb, hl⟩
  · exact plays_none W ao cap i
  · exact plays_some W b off len cap kd ii ni si ha hb i
end Go.Proofs.Ytdbnlcmnnoajoaa
