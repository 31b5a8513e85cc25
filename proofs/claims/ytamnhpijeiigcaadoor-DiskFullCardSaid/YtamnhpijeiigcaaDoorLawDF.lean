/-
  DiskFull, walked: it returns true.
-/
import Derived.Test.YtamnhpijeiigcaaDoorDiskP
import Derived.Test.YtamnhpijeiigcaaDoorInts
namespace Go.Proofs.YtamnhpijeiigcaaDoor
open Go.RowKit
open UK (str BytesAt nth Only w32 Row)
open Go.BigFrame
/-- is a page not to be given? -/
def agB (n : Nat) (gi : Int) (l : List Nat) : Bool := decide (gi < 1) || decide ((n : Int) ≤ gi) || l.any (fun x => ((x : Int) == gi))
theorem ag_take (n : Nat) (gi : Int) (l : List Nat) (j : Nat) (hj : j < l.length) : agB n gi (l.take (j + 1)) = (agB n gi (l.take j) || (((l.getD j 0 : Nat) : Int) == gi)) := by
  unfold agB
  rw [List.take_succ_eq_append_getElem hj, List.any_append, List.getD_eq_getElem?_getD, List.getElem?_eq_getElem hj]
  simp only [List.any_cons, List.any_nil, Bool.or_false, Option.getD_some, Bool.or_assoc]
theorem ag_no {n : Nat} {gi : Int} {l : List Nat} (h : agB n gi l = false) : ∃ p : Nat, gi = p ∧ 1 ≤ p ∧ p < n ∧ p ∉ l := by
  unfold agB at h
  rw [Bool.or_eq_false_iff, Bool.or_eq_false_iff, decide_eq_false_iff_not, decide_eq_false_iff_not] at h
  refine ⟨gi.toNat, by omega, by omega, by omega, fun hm => ?_⟩
  have h2 := List.any_eq_false.1 h.2 _ hm
  simp at h2
  omega
theorem ag_yes {n : Nat} {gi : Int} {l : List Nat} (h : agB n gi l = true) (d : Dk) (s : Sound d n) (hf : d.free = l) : hasD d n gi = false := by
  rw [s.hasI gi, decide_eq_false_iff_not]
  intro ⟨h1, h2, h3⟩
  unfold agB at h
  rw [Bool.or_eq_true, Bool.or_eq_true, decide_eq_true_eq, decide_eq_true_eq] at h
  rcases h with (h | h) | h
  · omega
  · omega
  · obtain ⟨x, hx, he⟩ := List.any_eq_true.1 h
    have he2 : (x : Int) = gi := by simpa using he
    rw [hf, ← he2, Int.toNat_natCast] at h3
    exact h3 hx
/-- what was there, and one block more -/
abbrev S2 (N g : Nat) (k : Nat) : Prop := k < N ∨ k = g
set_option maxHeartbeats 1000000 in
set_option maxRecDepth 100000 in
theorem df_any (n : Nat) (h2 : 2 ≤ n) (hn : n ≤ 30) (ao : Option Addr) (len cap : Nat) (W : World) (ht : TabAt W)
    (hv : Hid (len = 0 ∨ ∃ b off, ao = some ⟨b, off, none⟩ ∧ b < W.heap.size ∧ ∀ i, i < len → ∃ k : Int, W.cell? ⟨b, off + i, none⟩ = some (.int .i64 k) ∧ -9223372036854775808 ≤ k ∧ k ≤ 9223372036854775807)) :
    Calls Tryd.prog 3 #[.int .i64 n, .slice ao len cap] W fun e w' => e = .returned (.bool true) ∧ Below W.heap.size W w' := by
  have hnew := dd_new W n ht (fun k => k < W.heap.size) (fun _ h => h)
  have st1 := newD_still n
  have so1 := newD_sound n
  rw [show clampD n = n by unfold clampD; omega] at st1
  generalize newD n = d1 at hnew st1 so1
  obtain ⟨D, HD⟩ : ∃ D, Hid (W.heap.size = D) := ⟨_, rfl⟩
  have HT := Lib.hid (show 0 < W.heap.size from ht.lt)
  rw [HD.out] at hnew HT
  go_enter Tryd.func3, Tryd.ntmps3
  go_wp2_with fail
  refine hnew.mono ?_
  rintro e w1 ⟨rfl, h1, b1⟩
  clear hnew
  go_wp2_with fail
  go_loopw [6] (fun v wr => ∃ (k : Nat) (d : Dk), v = .int .i64 k ∧ 1 ≤ k ∧ k ≤ n ∧ DD (fun k => k < D) wr D d k ∧ Still d n [] k ∧ Sound d k ∧ Below D W wr) (fun v _ => 31 - (intOf v).toNat)
  case atStart => exact ⟨1, d1, rfl, by omega, by omega, h1, st1, so1, b1⟩
  case round =>
    obtain ⟨k, d, rfl, hk1, hkn, hd, st, so, hb⟩ := hrel
    by_cases hlt : k < n
    · have st2 := st.takeN k
      have so2 := so.takeN hd.fit st.free
      go_wp2_with fail
      refine (dd_take_new hd (by rw [st.puts]; omega) st.free (by rw [st.most]; omega) st.ne).mono ?_
      rintro e w2 ⟨rfl, d2, b2⟩
      go_wp2
      go_roundw
      case rel => exact ⟨k + 1, _, by go_num, by omega, by omega, d2, st2, so2, hb.trans (b2.below (fun _ h => h))⟩
      case measure => simp [intOf]; omega
    · obtain rfl : k = n := by omega
      have hs0 := hd.lt
      have hDs : D ≤ wr.heap.size := Nat.le_trans (Nat.le_of_eq HD.out.symm) hb.size
      have r0 := UK.row_new wr #[] 3
      have d0 : DD (S2 D wr.heap.size) (wr.alloc (.cells #[] 3)) D d k := (hd.push (g := wr.heap.size) (Only.of_below ((Below.refl _ _).alloc (Nat.le_refl _) _)) (.inr (Nat.le_refl _)) (by simp) (by have := HT.out; omega)).less (fun q hq => hq)
      have b0 : Below D W (wr.alloc (.cells #[] 3)) := hb.alloc hDs _
      have HP := Lib.hid st.puts
      clear hd hb so1 st1 h1 b1
      go_wp2_with fail
      clear hkn hlt
      go_loopw [9, 10] (fun bk iv wr => ∃ (j : Nat) (l : List Nat) (g c : Nat) (d : Dk) (q : Int), bk = .slice (some ⟨g, 0, none⟩) l.length c ∧ iv = .int .i64 j ∧ j ≤ 30 ∧ l.length ≤ j ∧ Row wr g c (ints l) ∧ D ≤ g ∧ DD (S2 D g) wr D d k ∧ Still d k l q ∧ Hid (0 ≤ q ∧ q ≤ k + j) ∧ Sound d k ∧ Below D W wr) (fun _ v _ => 31 - (intOf v).toNat)
      case atStart => exact ⟨0, [], wr.heap.size, 0, d, k, rfl, rfl, by omega, Nat.zero_le _, r0, hDs, d0, st, by show _ ∧ _; omega, so, b0⟩
      case round =>
        clear d0 st so b0 r0 HP hs0 hDs
        obtain ⟨j, l, g, c, d, q, rfl, rfl, hj, hl, hr, hg, hd, st, HQ, so, hb⟩ := hrel
        by_cases hgo : j < len ∧ j < 30
        · obtain ⟨hlt, hj30⟩ := hgo
          · rcases hv.out with h0 | ⟨b, off, rfl, hbW, hcell⟩
            · omega
            · obtain ⟨gi, hgi, hlo, hhi⟩ := hcell j hlt
              have hgi2 := (World.cell?_of_block (a := ⟨b, off + j, none⟩) (hb.block b (by rw [← HD.out]; exact hbW))).trans hgi
              clear hcell
              have hr1 := hr.free
              go_wp2_with fail
              all_goals
                go_loopw [11, 73] (fun av ix wr2 => ∃ m : Nat, m ≤ l.length ∧ av = .bool (agB k gi (l.take m)) ∧ ix = .int .i64 m ∧ wr2 = wr) (fun _ ix _ => 31 - (intOf ix).toNat)
                case atStart => exact ⟨0, Nat.zero_le _, by simp_all [agB], rfl, rfl⟩
                case round =>
                  obtain ⟨m, hm, rfl, rfl, rfl⟩ := hrel
                  by_cases hml : m < l.length
                  · have hlm := hr.at' m _ (ints_at l m hml)
                    have hag := ag_take k gi l m hml
                    generalize l.getD m 0 = x at hlm hag
                    have HAG := Lib.hid hag
                    clear hag
                    obtain ⟨a0, HA0⟩ : ∃ a0, Hid (agB k gi (l.take m) = a0) := ⟨_, rfl⟩
                    rw [HA0.out] at HAG ⊢
                    cases a0
                    · by_cases hx : (x : Int) = gi
                      · have hx2 : ((x : Int) == gi) = true := beq_iff_eq.2 hx
                        rw [hx2] at HAG
                        clear hx
                        go_wp2
                        go_roundw
                        case rel => exact ⟨m + 1, by omega, by rw [HAG.out]; rfl, by go_num, trivial⟩
                        case measure => simp [intOf]; omega
                      · have hx2 : ((x : Int) == gi) = false := beq_eq_false_iff_ne.2 hx
                        rw [hx2] at HAG
                        clear hx
                        go_wp2
                        go_roundw
                        case rel => exact ⟨m + 1, by omega, by rw [HAG.out]; rfl, by go_num, trivial⟩
                        case measure => simp [intOf]; omega
                    · go_wp2
                      go_roundw
                      case rel => exact ⟨m + 1, by omega, by rw [HAG.out]; rfl, by go_num, trivial⟩
                      case measure => simp [intOf]; omega
                  · obtain rfl : m = l.length := by omega
                    rw [List.take_length]
                    obtain ⟨a0, HA0⟩ : ∃ a0, Hid (agB k gi l = a0) := ⟨_, rfl⟩
                    rw [HA0.out]
                    cases a0
                    · obtain ⟨p, rfl, hp1, hpk, hpm⟩ := ag_no HA0.out
                      try (exfalso; omega)
                      all_goals
                        have hh : hasD d k p = true := by rw [so.has p, st.free]; exact decide_eq_true ⟨hp1, hpk, hpm⟩
                        have hq := HQ.out
                        have hless := so.less hd.fit hpk (by rw [st.free]; exact hpm)
                        have st2 := st.give p
                        have so2 := so.give hd.fit hpk (by rw [st.free]; exact hpm)
                        go_wp2_with fail
                        refine (dd_give_yes hd (by rw [st.puts]; omega) p hh hless st.ne).mono ?_
                        rintro e w2 ⟨rfl, d2, k2⟩
                        have hr2 := k2.row hr (.inr rfl)
                        have hgi3 := (World.cell?_of_block (a := ⟨b, off + j, none⟩) (k2.block b (.inl (by rw [← HD.out]; exact hbW)))).trans hgi2
                        obtain ⟨g', c', w3, e3, r3, o3, n3⟩ := UK.push_one (P := Tryd.prog) (t := 22) (ty := 22) Tryd.underlying22 (i := Tryd.t3) rfl rfl rfl (show (8 : Nat) ≤ 16 by omega) rfl (.inr ⟨g, rfl, hr2⟩) (.int .i64 (p : Int)) rfl (by rw [ints_length]; omega)
                        rw [ints_length] at e3
                        have hDw : D ≤ w2.heap.size := by rw [← HD.out]; exact Nat.le_trans hb.size k2.size
                        have n4 : S2 D g g' ∨ w2.heap.size ≤ g' := by
                          rcases n3 with n3 | n3
                          · exact .inl (.inr (congrArg Addr.block (Option.some.inj n3)).symm)
                          · exact .inr n3
                        have hgD : D ≤ g' := by
                          rcases n4 with (n4 | n4) | n4
                          · rcases n3 with n3 | n3
                            · have := congrArg Addr.block (Option.some.inj n3); have : g = g' := this; omega
                            · omega
                          · omega
                          · omega
                        have d3 := (d2.push (g := g') o3 n4 r3.lt (by have := HT.out; omega)).less (T := S2 D g') (fun q hq => by
                          rcases hq with hq | hq
                          · exact .inl (.inl hq)
                          · exact .inr hq)
                        have b3 := (hb.trans (k2.below (fun _ h => .inl h))).trans (o3.below hDw hgD)
                        have r4 : Row w3 g' c' (ints (l ++ [p])) := by unfold ints at *; rw [List.map_append]; exact r3
                        have hgi4 := Lib.hid hgi3
                        clear r3 d2
                        go_wp2_with (at_builtin; refine UK.wpList_append_run e3 rfl rfl rfl rfl rfl ?_)
                        go_roundw
                        case rel => exact ⟨j + 1, l ++ [p], g', c', giveD d p, q + 1, by rw [List.length_append] <;> rfl, by go_num, by omega, by rw [List.length_append, List.length_singleton]; omega, r4, hgD, d3, st2, by show _ ∧ _; omega, so2, b3⟩
                        case measure => simp [intOf]; omega
                    · have hh := ag_yes HA0.out d so st.free
                      go_wp2_with fail
                      refine (dd_give_no hd gi hh).mono ?_
                      rintro e w2 ⟨rfl, d2, k2⟩
                      have hr2 := k2.row hr (.inr rfl)
                      go_wp2
                      refine ⟨⟨j + 1, l, g, c, d, q, rfl, by go_num, by omega, by omega, hr2, hg, d2, st, by show _ ∧ _; have := HQ.out; omega, so, hb.trans (k2.below (fun _ h => .inl h))⟩, ?_⟩
                      simp [intOf]; omega
        · have hex : len ≤ j ∨ (j < len ∧ 30 ≤ j) := by omega
          rcases hex with hex | ⟨hex0, hex⟩
          all_goals
            clear hgo
            have hll : l.length ≤ 30 := by omega
            have HQ2 : Hid (0 ≤ q ∧ q ≤ 60) := by show _ ∧ _; have := HQ.out; omega
            clear HQ
            go_wp2_with fail
            go_loopw [14] (fun v wr2 => ∃ (m : Nat) (d : Dk) (q : Int), v = .int .i64 ((m : Int) - 1) ∧ m ≤ l.length ∧ Row wr2 g c (ints l) ∧ DD (S2 D g) wr2 D d k ∧ Still d k (l.take m) q ∧ Hid (0 ≤ q ∧ q + m ≤ 90) ∧ Sound d k ∧ Below D W wr2) (fun v _ => (intOf v + 1).toNat)
            case atStart => exact ⟨l.length, d, q, by go_num, Nat.le_refl _, hr, hd, by rw [List.take_length]; exact st, by show _ ∧ _; have := HQ2.out; omega, so, hb⟩
            case round =>
              clear hr hd st so hb HQ2
              obtain ⟨m, d, q, rfl, hm, hr, hd, st, HQ, so, hb⟩ := hrel
              rcases m with _ | m
              · rw [show (((0 : Nat) : Int) - 1) = -1 from rfl]
                have hro : d.most - k + d.free.length = 0 := by rw [st.most, st.free, List.take_zero, List.length_nil]; omega
                have hDw : D ≤ wr.heap.size := by rw [← HD.out]; exact hb.size
                go_wp2_with fail
                refine (dd_take_full hd hro).mono ?_
                rintro e w2 ⟨rfl, d2, k2⟩
                go_wp2_with fail
                refine (awake_any w2 d2.tab).mono ?_
                rintro e w3 ⟨rfl, b3⟩
                have d3 := d2.below b3
                have hrm := dd_room d3
                rw [hro] at hrm
                go_wp2_with fail
                refine hrm.mono ?_
                rintro e w' ⟨rfl, q5, rfl⟩
                go_wp2_with fail
                refine (dd_count (d3.drewN q5)).mono ?_
                rintro e w' ⟨rfl, rfl⟩
                go_wp2
                go_ret
                exact ⟨rfl, by rw [HD.out]; exact UK.belowN ((hb.trans (k2.below (fun _ h => .inl h))).trans (b3.mono (Nat.le_trans hDw k2.size))) q5⟩
              · have e1 : (((m + 1 : Nat) : Int) - 1) = (m : Int) := by omega
                rw [e1]
                have hl1 : l.take (m + 1) = l.take m ++ [l.getD m 0] := by
                  rw [List.take_succ_eq_append_getElem (by omega), List.getD_eq_getElem?_getD, List.getElem?_eq_getElem (by omega)]; rfl
                have hlm := hr.at' m _ (ints_at l m (by omega))
                have hfr : d.free = l.take m ++ [l.getD m 0] := st.free.trans hl1
                have st2 := st.takeF (l.take m) (l.getD m 0)
                have so2 := so.takeF hd.fit hfr
                have hT := dd_take_free hd (by rw [st.puts]; have := HQ.out; omega) (l.take m) (l.getD m 0) hfr st.ne
                generalize l.getD m 0 = x at hlm st2 so2 hT
                clear hfr hl1 e1
                go_wp2_with fail
                refine hT.mono ?_
                rintro e w2 ⟨rfl, d2, k2⟩
                have hr2 := k2.row hr (.inr rfl)
                have hlm2 := (World.cell?_of_block (a := ⟨g, m, none⟩) (k2.block g (.inr rfl))).trans hlm
                go_wp2
                go_roundw
                case rel => exact ⟨m, _, _, by go_num, by omega, hr2, d2, st2, by show _ ∧ _; have := HQ.out; omega, so2, hb.trans (k2.below (fun _ h => .inl h))⟩
                case measure => simp [intOf]
theorem df_out (n : Int) (hn : n < 2 ∨ 30 < n) (v : Value) (W : World) (ht : TabAt W) :
    Calls Tryd.prog 3 #[.int .i64 n, v] W fun e w' => e = .returned (.bool true) ∧ Below W.heap.size W w' := by
  rcases hn with hn | hn
  all_goals
    go_enter Tryd.func3, Tryd.ntmps3
    go_wp2_with fail
    refine (awake_any W ht).mono ?_
    rintro e w3 ⟨rfl, b3⟩
    go_wp2
    go_ret
    exact ⟨rfl, b3⟩
set_option maxRecDepth 100000 in
theorem df_walk (W : World) (ht : TabAt W) {H : Type} {enc : TypeId × Value → H} {base : Nat} {d : DataW H} {p : List MemPlace} (n : Int) (_hn : (Lit.int .i64 n).wf = true) (v : Value) (hok : Value.okWide Tryd.prog W .any base 22 v) (h : DataW.Trod enc Tryd.prog W 0 (fun _ => true) true 22 v d p) :
    Calls Tryd.prog 3 #[.int .i64 n, v] W fun e w' => e = .returned (.bool true) ∧ Below W.heap.size W w' := by
  by_cases hn : 2 ≤ n ∧ n ≤ 30
  · obtain ⟨m, rfl⟩ : ∃ m : Nat, n = m := ⟨n.toNat, by omega⟩
    obtain ⟨ao, len, cap, rfl, _, hv⟩ := ints_open W v hok h
    exact df_any m (by omega) (by omega) ao len cap W ht (Lib.hid hv)
  · exact df_out n (by omega) v W ht
end Go.Proofs.YtamnhpijeiigcaaDoor
