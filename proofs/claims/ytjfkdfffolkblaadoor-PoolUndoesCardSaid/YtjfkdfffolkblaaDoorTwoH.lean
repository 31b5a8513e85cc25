/-
  The law PoolUndoes: two pools are made; the state between two acts.
-/
import Derived.Test.YtjfkdfffolkblaaDoorTwoD
import Derived.Test.YtjfkdfffolkblaaDoorTwoC
import Derived.Test.YtjfkdfffolkblaaDoorTwoI
import Derived.Test.YtjfkdfffolkblaaDoorTwoE
import Derived.Test.YtjfkdfffolkblaaDoorTwoF
import Derived.Test.YtjfkdfffolkblaaDoorTwoG
import Derived.Test.YtjfkdfffolkblaaDoorUndoF
import Derived.Deep.CutBlock
import Derived.Deep.DeepCutAuto
namespace Go.Proofs.YtjfkdfffolkblaaDoor
open Go.RowKit
open UK (str BytesAt nth Only Row Box)
open Go.BigFrame
/-- a new pool over a new disk -/
def newA : AP := { cnt := 1, most := 12, free := [], c := fun p => lookL (newD 12).x p, op := none }
theorem newA_good : newA.Good := ⟨Nat.le_refl _, by show ((1 : Nat) : Int) ≤ 12; omega, by show (12 : Int) ≤ _; omega, List.nodup_nil, fun _ h => absurd h List.not_mem_nil, List.nodup_nil, fun _ h => absurd h List.not_mem_nil⟩
section
variable {E : Nat → Prop} {W W' : World} {P D Q F FB M k n : Nat} {A B : AP} {q : Pl}
theorem new_pz (h : PS E W P D FB M n 0 q (newD 12) 1 k (fun p => lookL (newD 12).x p)) (hn : 1 ≤ n) (ho : q.op = none) : PZ E W P D newA k :=
  ⟨FB, M, n, q, newD 12, h, hn, ⟨(newD_still 12).free, (newD_still 12).most, by rw [ho]; rfl⟩⟩
/-- what the law does with an act -/
theorem alike_any (h : Twin E W P D Q F A k) (hk : k + 1001 < 900000000) (a : Act1) (hpw : (Lit.int .i64 a.pp).wf = true) (hnw : (Lit.int .i64 a.nn).wf = true) (h68 : a.kd < 6 ∨ 8 < a.kd) :
    Calls Tryd.prog 16 #[.pointer (some ⟨P, 0, none⟩), .pointer (some ⟨Q, 0, none⟩), actV a] W fun e w' => AlikeR E W w' P D Q F A k e := by
  by_cases h13 : a.kd = 1 ∨ a.kd = 3
  · by_cases hp : ∃ m : Nat, a.pp = m ∧ A.Has m
    · obtain ⟨p, hpp, hm⟩ := hp
      by_cases hin : 0 ≤ a.nn ∧ a.nn < 504
      · rcases h13 with h1 | h3
        · exact alike_pin_in1 h hk a p hpp hm a.nn.toNat (by omega) (by omega) h1
        · exact alike_pin_in3 h hk a p hpp hm a.nn.toNat (by omega) (by omega) h3
      · exact alike_pin_out h hk a hnw p hpp hm hin h13
    · exact alike_pin_no h a hp h13
  by_cases h4 : a.kd = 4
  · exact alike_take h hk a h4
  by_cases h5 : a.kd = 5
  · exact alike_give h hk a hpw h5
  by_cases h9 : a.kd = 9
  · exact alike_flush h hk a h9
  exact alike_else h a ⟨fun e => h13 (.inl e), fun e => h13 (.inr e), h4, h5, h9, h68⟩
/-- the first disk beside the second -/
theorem two_disks {w1 w2 : World} {d : Dk} {c1 : Nat} (h1 : DD (fun j => j < W.heap.size) w1 D d c1) (hb : Below w1.heap.size w1 w2) : DD (fun j => j < W.heap.size ∨ (w1.heap.size ≤ j ∧ j < w2.heap.size)) w2 D d c1 := h1.grow hb (fun _ hj => hj)
theorem two_second {w1 w2 w3 : World} {e : Dk} {c2 : Nat} (h2 : DD (fun j => j < w1.heap.size) w2 F e c2) (kk : Kept (fun j => j < W.heap.size ∨ (w1.heap.size ≤ j ∧ j < w2.heap.size)) w2 w3) (ht : TabAt W) :
    DD (fun j => j < w1.heap.size ∨ (w2.heap.size ≤ j ∧ j < w3.heap.size)) w3 F e c2 :=
  h2.over (R := fun j => j < w1.heap.size ∧ ¬ j < W.heap.size) (fun j hj => hj.1) (fun hh => hh.2 ht.lt) kk.size (fun j hj hn => kk.block j (by
    by_cases h : j < W.heap.size
    · exact .inl h
    · by_cases h' : j < w1.heap.size
      · exact absurd ⟨h', h⟩ hn
      · exact .inr ⟨by omega, hj⟩)) (fun j hj => hj)
theorem two_made {w1 w2 w3 w4 : World} (h1 : PZ (fun j => j < W.heap.size ∨ (w1.heap.size ≤ j ∧ j < w2.heap.size)) w3 P D A k) (h2 : PZ (fun j => j < w1.heap.size ∨ (w2.heap.size ≤ j ∧ j < w3.heap.size)) w4 Q F A k) (kk : Kept (fun j => j < w1.heap.size ∨ (w2.heap.size ≤ j ∧ j < w3.heap.size)) w3 w4) (ht : TabAt W) (hs : W.heap.size ≤ w1.heap.size) : Twin (fun j => j < W.heap.size) w4 P D Q F A k :=
  pair_make h1 h2 kk (fun j hj hn => by
    by_cases h : w1.heap.size ≤ j
    · refine .inr ⟨h, ?_⟩
      by_cases h' : j < w2.heap.size
      · exact h'
      · exact absurd (Or.inr ⟨by omega, hj⟩) hn
    · exact absurd (Or.inl (by omega)) hn) (fun j hj => ⟨.inl hj, .inl (by have : j < W.heap.size := hj; omega)⟩) (.inl (by have := ht.lt; omega))
theorem AP.Reach.closed (h : A.Reach B) (ho : A.op = none) : B.op = none := by
  refine h (fun X => X.op = none) ⟨fun X p s hX _ => ?_, fun X p hX _ => ?_, fun X hX _ => ?_, fun X p hX _ => ?_⟩ ho
  · show X.op.map _ = none; rw [hX]; rfl
  · show X.op.map _ = none; rw [hX]; rfl
  · show X.op.map _ = none; rw [hX]; rfl
  · unfold AP.give; rw [hX]
/-- between two acts on the one pool -/
def OnB (W w : World) (P D Q F : Nat) (A : AP) (k j : Nat) : Prop := ∃ B m, Pair2 (fun j => j < W.heap.size) w (fun E w => PZ E w P D B m) (fun E w => PZ E w Q F A k) ∧ AP.SinceX A B ∧ m ≤ k + 1001 * j ∧ Kept (fun j => j < W.heap.size) W w
theorem onb_one {W w : World} {P D Q F m k j : Nat} {A B : AP} (h : Pair2 (fun j => j < W.heap.size) w (fun E w => PZ E w P D B m) (fun E w => PZ E w Q F A k)) (hs : AP.SinceX A B) (hm : m ≤ k + 1001 * j) (hk : m + 1001 < 900000000) (kk : Kept (fun j => j < W.heap.size) W w) (a : Act1) (hpw : (Lit.int .i64 a.pp).wf = true) (hnw : (Lit.int .i64 a.nn).wf = true) (w' : World) (hb : Below w.heap.size w w') :
    Calls Tryd.prog 18 #[.pointer (some ⟨P, 0, none⟩), actV a] w' fun e w2 => e = .returned (.tuple #[]) ∧ OnB W w2 P D Q F A k (j + 1) := by
  have h2 := h.next (stands_pz ..) (stands_pz ..) hb (T := fun j => j < W.heap.size) (fun _ hj => .inl hj)
  refine (Pair2.left (α := AP) (R := fun B' e => e = .returned (.tuple #[]) ∧ B.Reach B') (Z := fun B' E w => PZ E w P D B' (m + 1001)) h2 (stands_pz ..) (fun _ => stands_pz ..) (fun S z => (one_any z hk a hpw hnw).mono fun e w' ⟨a, A', b, c, d⟩ => ⟨A', ⟨a, b⟩, c, d⟩)).mono ?_
  rintro e w2 ⟨B', ⟨he, hr⟩, h3, k3⟩
  exact ⟨he, B', m + 1001, h3, AP.Reach.since hs hr, by omega, (kk.trans (Kept.of_below hb h.there)).trans k3⟩
/-- both flushed, and read -/
def OnR (W w : World) (P D Q F : Nat) (A C : AP) (j : Nat) : Prop := ∃ m1 m2, Pair2 (fun j => j < W.heap.size) w (fun E w => PZR E w P D C m1) (fun E w => PZR E w Q F A m2) ∧ m1 ≤ 500000 + j ∧ m2 ≤ 500000 + j ∧ Kept (fun j => j < W.heap.size) W w
open Classical in
theorem told_same {A C : AP} (h : AP.Undone A C) (p : Nat) : toldS C p = toldS A p ∧ toldE C p = toldE A p := by
  unfold toldS toldE
  by_cases hp : A.Has p
  · have hc := (h.has p).2 hp
    rw [if_pos hp, if_pos hc, if_pos hp, if_pos hc]
    exact ⟨h.c p hp, rfl⟩
  · have hc : ¬ C.Has p := fun e => hp ((h.has p).1 e)
    rw [if_neg hp, if_neg hc, if_neg hp, if_neg hc]
    exact ⟨rfl, rfl⟩
open Classical in
theorem onr_read {W w : World} {P D Q F j p : Nat} {A C : AP} (h : OnR W w P D Q F A C j) (hu : AP.Undone A C) (hj : j ≤ 60000) (w' : World) (hb : Below w.heap.size w w') :
    Calls Tryd.prog 24 #[.pointer (some ⟨D, 0, none⟩), .int .i64 p] w' fun e w2 => e = .returned (.tuple #[.string (str (toldS A p)), .int .i64 (toldE A p)]) ∧
      ∀ w3, Below w2.heap.size w2 w3 → Calls Tryd.prog 24 #[.pointer (some ⟨F, 0, none⟩), .int .i64 p] w3 fun e w4 => e = .returned (.tuple #[.string (str (toldS A p)), .int .i64 (toldE A p)]) ∧ OnR W w4 P D Q F A C (j + 1) := by
  obtain ⟨m1, m2, hp, h1, h2, hk⟩ := h
  obtain ⟨e1, e2⟩ := told_same hu p
  have hp2 := hp.next (stands_pzr ..) (stands_pzr ..) hb (T := fun j => j < W.heap.size) (fun _ hj => .inl hj)
  refine (Pair2.left (α := Unit) (R := fun _ e => e = .returned (.tuple #[.string (str (toldS C p)), .int .i64 (toldE C p)])) (Z := fun _ E w => PZR E w P D C (m1 + 1)) hp2 (stands_pzr ..) (fun _ => stands_pzr ..) (fun S z => (pzr_read z (by omega) p).mono fun e w' ⟨a, b, c⟩ => ⟨(), a, b, c⟩)).mono ?_
  rintro e w2 ⟨_, he, h3, k3⟩
  rw [e1, e2] at he
  refine ⟨he, fun w3 hb3 => ?_⟩
  have hp3 := h3.next (stands_pzr ..) (stands_pzr ..) hb3 (T := fun j => j < W.heap.size) (fun _ hj => .inl hj)
  refine (Pair2.right (α := Unit) (R := fun _ e => e = .returned (.tuple #[.string (str (toldS A p)), .int .i64 (toldE A p)])) (Z := fun _ E w => PZR E w Q F A (m2 + 1)) hp3 (stands_pzr ..) (fun _ => stands_pzr ..) (fun S z => (pzr_read z (by omega) p).mono fun e w' ⟨a, b, c⟩ => ⟨(), a, b, c⟩)).mono ?_
  rintro e4 w4 ⟨_, he4, h4, k4⟩
  exact ⟨he4, m1 + 1, m2 + 1, h4, by omega, by omega, (((hk.trans (Kept.of_below hb hp.there)).trans k3).trans (Kept.of_below hb3 h3.there)).trans k4⟩
theorem onr_count {W w : World} {P D Q F j : Nat} {A C : AP} (h : OnR W w P D Q F A C j) : Calls Tryd.prog 23 #[.pointer (some ⟨F, 0, none⟩)] w fun e w' => e = .returned (.int .i64 A.cnt) ∧ w' = w := by
  obtain ⟨m1, m2, hp, _⟩ := h
  obtain ⟨S, _, z⟩ := Pair2.snd hp
  exact disk_count z.pz
theorem onr_next {W w w' : World} {P D Q F j : Nat} {A C : AP} (h : OnR W w P D Q F A C j) (hb : Below w.heap.size w w') : OnR W w' P D Q F A C j := by
  obtain ⟨m1, m2, hp, h1, h2, hk⟩ := h
  exact ⟨m1, m2, hp.next (stands_pzr ..) (stands_pzr ..) hb (T := fun j => j < W.heap.size) (fun _ hj => .inl hj), h1, h2, hk.trans (Kept.of_below hb hp.there)⟩
theorem onr_up {W w : World} {P D Q F j i : Nat} {A C : AP} (h : OnR W w P D Q F A C j) (hi : j ≤ i) : OnR W w P D Q F A C i := by
  obtain ⟨m1, m2, hp, h1, h2, hk⟩ := h
  exact ⟨m1, m2, hp, by omega, by omega, hk⟩
/-- two pools of which all is the same, between two acts -/
def OnA (W w : World) (P D Q F j : Nat) : Prop := ∃ A k, Twin (fun j => j < W.heap.size) w P D Q F A k ∧ newA.Reach A ∧ k ≤ 1001 * j ∧ Kept (fun j => j < W.heap.size) W w
end
set_option maxHeartbeats 2000000 in
set_option maxRecDepth 100000 in
theorem pu_any (n : Nat) (h1 : 1 ≤ n) (hn : n ≤ 6) (ao bo : Option Addr) (la ca lb cb : Nat) (W : World) (ht : TabAt W)
    (hva : Hid (la = 0 ∨ ∃ b off f, ao = some ⟨b, off, none⟩ ∧ ActsAt W b off la f ∧ b < W.heap.size)) (hvb : Hid (lb = 0 ∨ ∃ b off f, bo = some ⟨b, off, none⟩ ∧ ActsAt W b off lb f ∧ b < W.heap.size)) :
    Calls Tryd.prog 4 #[.int .i64 n, .slice ao la ca, .slice bo lb cb] W fun e w' => e = .returned (.bool true) ∧ Below W.heap.size W w' := by
  have HN := Lib.hid (dd_new W 12 ht (fun k => k < W.heap.size) (fun _ h => h))
  have HT := Lib.hid ht
  go_enter Tryd.func4, Tryd.ntmps4
  go_wp2_with fail
  refine HN.out.mono ?_
  rintro e w1 ⟨rfl, hd, hb1⟩
  have HN2 := Lib.hid (dd_new w1 12 (ht.below hb1) (fun k => k < w1.heap.size) (fun _ h => h))
  have K1 := Lib.hid (Kept.of_below (S := fun k => k < W.heap.size) hb1 (fun _ h => h))
  have HD := Lib.hid (And.intro hd hb1.size)
  clear HN hd hb1 ht
  go_wp2_with fail
  refine HN2.out.mono ?_
  rintro e w2 ⟨rfl, he, hb2⟩
  have HD1 := two_disks HD.out.1 hb2
  replace K1 := Lib.hid (K1.out.trans (Kept.of_below (S := fun k => k < W.heap.size) hb2 (fun j hj => Nat.lt_of_lt_of_le hj HD.out.2)))
  have HP := Lib.hid (pnew_any HD1 (Ok.new 12) (pclean_new 12) n ⟨by omega, by omega⟩ 0)
  have HE := Lib.hid he
  clear HN2 HD1 he hb2
  go_wp2_with fail
  refine HP.out.mono ?_
  rintro e w3 ⟨P, FB, M, q, rfl, p3, k3, hq⟩
  have HZ := Lib.hid (new_pz p3 h1 hq)
  have HE3 := two_second HE.out k3 HT.out
  replace K1 := Lib.hid (K1.out.trans (k3.mono (fun j hj => .inl hj)))
  have HP2 := Lib.hid (pnew_any HE3 (Ok.new 12) (pclean_new 12) n ⟨by omega, by omega⟩ 0)
  clear HP HE HE3 p3 k3 hq
  go_wp2_with fail
  refine HP2.out.mono ?_
  rintro e w4 ⟨Q, FB2, M2, q2, rfl, p4, k4, hq2⟩
  have HTw := Lib.hid (two_made HZ.out (new_pz p4 h1 hq2) k4 HT.out HD.out.2)
  replace K1 := Lib.hid (K1.out.trans (k4.mono (fun j hj => .inl (Nat.lt_of_lt_of_le hj HD.out.2))))
  obtain ⟨D, hDe⟩ : ∃ D, W.heap.size = D := ⟨_, rfl⟩
  obtain ⟨F, hFe⟩ : ∃ F, w1.heap.size = F := ⟨_, rfl⟩
  have hS : OnA W w4 P W.heap.size Q w1.heap.size 0 := ⟨newA, 0, HTw.out, AP.Reach.refl _, by omega, K1.out⟩
  clear HP2 HZ p4 k4 hq2 HTw K1 HD hDe hFe
  generalize w1.heap.size = F at hS ⊢
  go_upto_block 0 with (fail)
  go_cut [] (fun wx => OnA W wx P W.heap.size Q F 20)
  case first =>
    go_wp2_with fail
    go_loopw [11] (fun iv wr => ∃ j : Nat, iv = .int .i64 j ∧ j ≤ 20 ∧ OnA W wr P W.heap.size Q F j) (fun iv _ => 21 - (intOf iv).toNat)
    case atStart => exact ⟨0, rfl, by omega, hS⟩
    case round =>
      clear hS
      obtain ⟨j, rfl, hj, A, k, hz, hr, hk, hkk⟩ := hrel
      by_cases hgo : j < la ∧ j < 20
      · obtain ⟨hlt, hj20⟩ := hgo
        rcases hva.out with h0 | ⟨b, off, f, rfl, ha, hbW⟩
        · omega
        · have hcell : ∀ i v, W.cell? ⟨b, i, none⟩ = some v → wr.cell? ⟨b, i, none⟩ = some v := fun i v hc => (World.cell?_of_block (a := ⟨b, i, none⟩) (hkk.block b hbW)).trans hc
          have c0 := hcell _ _ (ha.c0 j hlt)
          have c1 := hcell _ _ (ha.c1 j hlt)
          have c2 := hcell _ _ (ha.c2 j hlt)
          have c3 := hcell _ _ (ha.c3 j hlt)
          have hpw := ha.p j hlt
          have hnw := ha.n j hlt
          generalize f j = act at c0 c1 c2 c3 hpw hnw
          have HAL := fun w (hw : Below wr.heap.size wr w) (h68 : act.kd < 6 ∨ 8 < act.kd) => Lib.hid (alike_any (hz.next hw) (by omega) act hpw hnw h68)
          have HB := fun w (hw : Below wr.heap.size wr w) => Lib.hid (And.intro (hz.next hw) (hkk.trans (hz.keptB hw)))
          have HR := Lib.hid (And.intro hr hk)
          obtain ⟨kd, pp, nn, ab⟩ := act
          clear hcell ha hz hr hk hkk hva hvb HT hpw hnw
          by_cases h6 : kd < 6
          · go_wp2_with fail
            refine (HAL _ (actB wr _) (.inl h6)).out.mono ?_
            rintro e w5 ⟨A', rfl, hr', t5, k5⟩
            have HS : OnA W w5 P W.heap.size Q F (j + 1) := ⟨A', k + 1001, t5, HR.out.1.trans hr', by have := HR.out.2; omega, (HB _ (actB wr _)).out.2.trans k5⟩
            have HSS := Lib.hid HS
            clear HAL HB HR hr' t5 k5 HS c0 c1 c2 c3
            go_wp2
            go_roundw
            case rel => exact ⟨j + 1, by go_num, by omega, HSS.out⟩
            case measure => simp [intOf]; omega
          · by_cases h8 : 8 < kd
            · go_wp2_with fail
              refine (HAL _ (actB wr _) (.inr h8)).out.mono ?_
              rintro e w5 ⟨A', rfl, hr', t5, k5⟩
              have HS : OnA W w5 P W.heap.size Q F (j + 1) := ⟨A', k + 1001, t5, HR.out.1.trans hr', by have := HR.out.2; omega, (HB _ (actB wr _)).out.2.trans k5⟩
              have HSS := Lib.hid HS
              clear HAL HB HR hr' t5 k5 HS c0 c1 c2 c3
              go_wp2
              go_roundw
              case rel => exact ⟨j + 1, by go_num, by omega, HSS.out⟩
              case measure => simp [intOf]; omega
            · have HSS : Hid (∀ w, Below wr.heap.size wr w → OnA W w P W.heap.size Q F (j + 1)) := Lib.hid (fun w hw => ⟨A, k, (HB w hw).out.1, HR.out.1, by have := HR.out.2; omega, (HB w hw).out.2⟩)
              clear HAL HB HR
              go_wp2_with fail
              go_roundw
              case rel => exact ⟨j + 1, by go_num, by omega, HSS.out _ (actB wr _)⟩
              case measure => simp [intOf]; omega
      · have HSS : Hid (OnA W wr P W.heap.size Q F 20) := Lib.hid ⟨A, k, hz, hr, by omega, hkk⟩
        have hend : ¬ j < la ∨ (j < la ∧ ¬ j < 20) := by omega
        clear hgo hz hr hk hkk
        rcases hend with hlt | ⟨hlt, hj20⟩
        all_goals
          go_wp2_with fail
          go_meet
          case rel => exact HSS.out
  case rest =>
    clear hS
    obtain ⟨A, k, hz, hr, hk, hkk⟩ := hcut
    have hop : A.op = none := hr.closed rfl
    have hgd := hr.good newA_good
    obtain ⟨hzt⟩ : Nonempty (TabAt wc) := ⟨by obtain ⟨S, _, z⟩ := Pair2.fst hz; exact z.tab⟩
    have HBg := Lib.hid (Pair2.left (α := Unit) (R := fun _ e => e = .returned (.int .i64 0)) (Z := fun _ E w => PZ E w P W.heap.size A.begun k) hz (stands_pz ..) (fun _ => stands_pz ..) (fun S z => (pz_begin z hop).mono fun e w' ⟨a, b, c⟩ => ⟨(), a, b, c⟩))
    have HG := Lib.hid (And.intro hop (And.intro hgd hkk))
    clear hz hr hkk hop hgd hzt hva
    go_wp2_with fail
    refine HBg.out.mono ?_
    rintro e w5 ⟨_, rfl, t5, k5⟩
    have HNo : Hid (Calls Tryd.prog 17 #[.pointer (some ⟨P, 0, none⟩)] w5 fun e w' => e = .returned (.int .i64 14) ∧ w' = w5) := Lib.hid (by
      obtain ⟨S, _, z⟩ := Pair2.fst t5
      exact pz_begin_no z (fun h => by cases h))
    have HT5 := Lib.hid t5
    have HK := Lib.hid (HG.out.2.2.trans k5)
    clear HBg t5 k5
    go_wp2_with fail
    refine HNo.out.mono ?_
    rintro e w' ⟨rfl, rfl⟩
    clear HNo
    have hS : OnB W w' P W.heap.size Q F A k 0 := ⟨A.begun, k, HT5.out, AP.Since.start HG.out.2.1 HG.out.1, by omega, HK.out⟩
    have HA := Lib.hid (And.intro HG.out.1 (And.intro HG.out.2.1 hk))
    clear HT5 HK HG hk
    go_upto_block 2 with (fail)
    go_cut [] (fun wx => OnB W wx P W.heap.size Q F A k 20)
    case first =>
      go_wp2_with fail
      go_loopw [13] (fun iv wr => ∃ j : Nat, iv = .int .i64 j ∧ j ≤ 20 ∧ OnB W wr P W.heap.size Q F A k j) (fun iv _ => 21 - (intOf iv).toNat)
      case atStart => exact ⟨0, rfl, by omega, hS⟩
      case round =>
        clear hS
        obtain ⟨j, rfl, hj, B, m, hz, hs, hm, hkk⟩ := hrel
        by_cases hgo : j < lb ∧ j < 20
        · obtain ⟨hlt, hj20⟩ := hgo
          rcases hvb.out with h0 | ⟨b, off, f, rfl, ha, hbW⟩
          · omega
          · have hcell : ∀ i v, W.cell? ⟨b, i, none⟩ = some v → wr.cell? ⟨b, i, none⟩ = some v := fun i v hc => (World.cell?_of_block (a := ⟨b, i, none⟩) (hkk.block b hbW)).trans hc
            have c0 := hcell _ _ (ha.c0 j hlt)
            have c1 := hcell _ _ (ha.c1 j hlt)
            have c2 := hcell _ _ (ha.c2 j hlt)
            have c3 := hcell _ _ (ha.c3 j hlt)
            have hpw := ha.p j hlt
            have hnw := ha.n j hlt
            generalize f j = act at c0 c1 c2 c3 hpw hnw
            have hk0 := HA.out.2.2
            have HAL := fun w (hw : Below wr.heap.size wr w) => Lib.hid (onb_one hz hs hm (by omega) hkk act hpw hnw w hw)
            have HR : Hid (∀ w, Below wr.heap.size wr w → OnB W w P W.heap.size Q F A k (j + 1)) := Lib.hid (fun w hw => ⟨B, m, hz.next (stands_pz ..) (stands_pz ..) hw (T := fun j => j < W.heap.size) (fun _ hj => .inl hj), hs, by omega, hkk.trans (Kept.of_below hw hz.there)⟩)
            obtain ⟨kd, pp, nn, ab⟩ := act
            clear hcell ha hz hs hm hkk hvb HT hpw hnw HA hk0
            by_cases h6 : kd < 6
            · go_wp2_with fail
              refine (HAL _ (actB wr _)).out.mono ?_
              rintro e w5 ⟨rfl, hs5⟩
              have HSS := Lib.hid hs5
              clear HAL hs5 c0 c1 c2 c3 HR
              go_wp2
              go_roundw
              case rel => exact ⟨j + 1, by go_num, by omega, HSS.out⟩
              case measure => simp [intOf]; omega
            · by_cases h8 : 8 < kd
              · go_wp2_with fail
                refine (HAL _ (actB wr _)).out.mono ?_
                rintro e w5 ⟨rfl, hs5⟩
                have HSS := Lib.hid hs5
                clear HAL hs5 c0 c1 c2 c3 HR
                go_wp2
                go_roundw
                case rel => exact ⟨j + 1, by go_num, by omega, HSS.out⟩
                case measure => simp [intOf]; omega
              · clear HAL
                go_wp2_with fail
                go_roundw
                case rel => exact ⟨j + 1, by go_num, by omega, HR.out _ (actB wr _)⟩
                case measure => simp [intOf]; omega
        · have HSS : Hid (OnB W wr P W.heap.size Q F A k 20) := Lib.hid ⟨B, m, hz, hs, by omega, hkk⟩
          have hend : ¬ j < lb ∨ (j < lb ∧ ¬ j < 20) := by omega
          clear hgo hz hs hm hkk
          rcases hend with hlt | ⟨hlt, hj20⟩
          all_goals
            go_wp2_with fail
            go_meet
            case rel => exact HSS.out
    case rest =>
      clear hS hvb
      obtain ⟨B, m, hz, ⟨o, hs⟩, hm, hkk⟩ := hcut
      obtain ⟨hop, hgd, hk⟩ := HA.out
      have hlen : ∀ m, A.Has m → (A.c m).length = 504 := fun m hm => by
        obtain ⟨S, _, z⟩ := Pair2.snd hz
        exact z.len504 hm
      have HU := Lib.hid (Pair2.left (α := AP) (R := fun C e => e = .returned (.int .i64 0) ∧ AP.Undone A C) (Z := fun C E w => PZ E w P W.heap.size C (m + 300000)) hz (stands_pz ..) (fun _ => stands_pz ..) (fun S z => (pz_undo z hs hlen (by omega)).mono fun e w' ⟨a, C, b, c, d⟩ => ⟨C, ⟨a, c⟩, b, d⟩))
      have HK := Lib.hid hkk
      clear hz hs hlen hkk hop hgd
      go_wp2_with fail
      refine HU.out.mono ?_
      rintro e w5 ⟨C, ⟨rfl, hC⟩, t5, k5⟩
      replace HK := Lib.hid (HK.out.trans k5)
      have HU2 := Lib.hid (Pair2.left (α := Unit) (R := fun _ e => e = .returned (.int .i64 14)) (Z := fun _ E w => PZ E w P W.heap.size C (m + 300000)) t5 (stands_pz ..) (fun _ => stands_pz ..) (fun S z => (pz_undo_no z hC.op).mono fun e w' ⟨a, b, c⟩ => ⟨(), a, b, c⟩))
      have HC := Lib.hid hC
      clear HU t5 k5 hC
      go_wp2_with fail
      refine HU2.out.mono ?_
      rintro e w6 ⟨_, rfl, t6, k6⟩
      replace HK := Lib.hid (HK.out.trans k6)
      have HNo : Hid (Calls Tryd.prog 20 #[.pointer (some ⟨P, 0, none⟩)] w6 fun e w' => e = .returned (.int .i64 14) ∧ w' = w6) := Lib.hid (by
        obtain ⟨S, _, z⟩ := Pair2.fst t6
        exact pz_commit_no z HC.out.op)
      have HF := Lib.hid (Pair2.left (α := Unit) (R := fun _ e => e = .returned (.int .i64 0)) (Z := fun _ E w => PZF E w P W.heap.size C (m + 300000 + 1001)) t6 (stands_pz ..) (fun _ => stands_pzf ..) (fun S z => (pz_flush z (by omega)).mono fun e w' ⟨a, b, c⟩ => ⟨(), a, b, c⟩))
      clear HU2 t6 k6
      go_wp2_with fail
      refine HNo.out.mono ?_
      rintro e w' ⟨rfl, rfl⟩
      clear HNo
      go_wp2_with fail
      refine HF.out.mono ?_
      rintro e w7 ⟨_, rfl, t7, k7⟩
      replace HK := Lib.hid (HK.out.trans k7)
      have HF2 := Lib.hid (Pair2.right (α := Unit) (R := fun _ e => e = .returned (.int .i64 0)) (Z := fun _ E w => PZF E w Q F A (k + 1001)) t7 (stands_pzf ..) (fun _ => stands_pzf ..) (fun S z => (pz_flush z (by omega)).mono fun e w' ⟨a, b, c⟩ => ⟨(), a, b, c⟩))
      clear HF t7 k7
      go_wp2_with fail
      refine HF2.out.mono ?_
      rintro e w8 ⟨_, rfl, t8, k8⟩
      replace HK := Lib.hid (HK.out.trans k8)
      replace t8 : OnR W w8 P W.heap.size Q F A C 0 := ⟨m + 300000 + 1001, k + 1001, Pair2.turns t8 (fun _ _ z => z.on HC.out.op) (fun _ _ z => z.on HA.out.1), by omega, by omega, HK.out⟩
      clear HF2 k8 HK
      have HR1 : Hid (Calls Tryd.prog 22 #[.pointer (some ⟨W.heap.size, 0, none⟩)] w8 fun e w' => e = .returned (.int .i64 A.rooms) ∧ Below w8.heap.size w8 w') := Lib.hid (by
        obtain ⟨m1, m2, hp, _⟩ := t8
        obtain ⟨S, _, z⟩ := Pair2.fst hp
        have := disk_room z.pz HC.out.good
        rw [HC.out.rooms] at this
        exact this)
      have HT8 := Lib.hid t8
      clear t8
      go_wp2_with fail
      refine HR1.out.mono ?_
      rintro e w9 ⟨rfl, b9⟩
      have t9 := onr_next HT8.out b9
      clear HR1 HT8 b9
      have HR2 : Hid (Calls Tryd.prog 22 #[.pointer (some ⟨F, 0, none⟩)] w9 fun e w' => e = .returned (.int .i64 A.rooms) ∧ Below w9.heap.size w9 w') := Lib.hid (by
        obtain ⟨m1, m2, hp, _⟩ := t9
        obtain ⟨S, _, z⟩ := Pair2.snd hp
        exact disk_room z.pz HA.out.2.1)
      have HT9 := Lib.hid t9
      clear t9
      go_wp2_with fail
      refine HR2.out.mono ?_
      rintro e w10 ⟨rfl, b10⟩
      have hS : OnR W w10 P W.heap.size Q F A C 1 := onr_up (onr_next HT9.out b10) (by omega)
      have hone : 1 ≤ A.cnt := HA.out.2.1.one
      have hcnt : A.cnt ≤ 60000 := by have h1 := HA.out.2.1.most; have h2 := HA.out.2.1.few; omega
      clear HR2 HT9 b10 HA
      go_wp2_with fail
      go_loopw [15] (fun iv wr => ∃ j : Nat, iv = .int .i64 j ∧ j ≤ A.cnt ∧ OnR W wr P W.heap.size Q F A C j) (fun iv _ => A.cnt + 1 - (intOf iv).toNat)
      case atStart => exact ⟨1, rfl, by omega, hS⟩
      case round =>
        clear hS
        obtain ⟨j, rfl, hj, hr⟩ := hrel
        have HCt := Lib.hid (onr_count hr)
        have HRr := Lib.hid hr
        clear hr
        go_wp2_with fail
        refine HCt.out.mono ?_
        rintro e w' ⟨rfl, rfl⟩
        clear HCt
        by_cases hlt : j < A.cnt
        · have HRd := fun w hw => Lib.hid (onr_read (p := j) HRr.out HC.out (by omega) w hw)
          clear HRr
          go_wp2_with fail
          refine (HRd _ (Below.refl _ _)).out.mono ?_
          rintro e w11 ⟨rfl, hx⟩
          have HX := Lib.hid (hx _ (Below.refl _ _))
          clear HRd hx
          go_wp2_with fail
          refine HX.out.mono ?_
          rintro e w12 ⟨rfl, hs⟩
          have HSS := Lib.hid hs
          clear HX hs
          go_wp2
          go_roundw
          case rel => exact ⟨j + 1, by go_num, by omega, HSS.out⟩
          case measure => simp [intOf]; omega
        · obtain ⟨m1, m2, hp, _, _, hk⟩ := HRr.out
          obtain ⟨S, _, z⟩ := Pair2.fst hp
          have HAw := Lib.hid (awake_any w' z.pz.tab)
          have HB := Lib.hid (hk.below (fun _ h => h))
          have hsz := hk.size
          clear HRr hp hk z
          go_wp2_with fail
          refine HAw.out.mono ?_
          rintro e w11 ⟨rfl, b11⟩
          have HB2 := Lib.hid (HB.out.trans (b11.mono hsz))
          clear HAw HB b11
          go_wp2
          go_ret
          exact ⟨rfl, HB2.out⟩
set_option maxRecDepth 100000 in
theorem pu_out (n : Int) (hn : n < 1 ∨ 6 < n) (v x : Value) (W : World) (ht : TabAt W) :
    Calls Tryd.prog 4 #[.int .i64 n, v, x] W fun e w' => e = .returned (.bool true) ∧ Below W.heap.size W w' := by
  rcases hn with hn | hn
  all_goals
    go_enter Tryd.func4, Tryd.ntmps4
    go_wp2_with fail
    refine (awake_any W ht).mono ?_
    rintro e w3 ⟨rfl, b3⟩
    go_wp2
    go_ret
    exact ⟨rfl, b3⟩
set_option maxRecDepth 100000 in
theorem pu_walk (W : World) (ht : TabAt W) {H : Type} {enc : TypeId × Value → H} {base : Nat} {d : DataW H} {p : List MemPlace} (n : Int) (_hn : (Lit.int .i64 n).wf = true) (v : Value) (hok : Value.okWide Tryd.prog W .any base 40 v) (h : DataW.Trod enc Tryd.prog W 0 (fun _ => true) true 40 v d p)
    {H2 : Type} {enc2 : TypeId × Value → H2} {base2 : Nat} {d2 : DataW H2} {p2 : List MemPlace} (x : Value) (hok2 : Value.okWide Tryd.prog W .any base2 40 x) (h2 : DataW.Trod enc2 Tryd.prog W 0 (fun _ => true) true 40 x d2 p2) :
    Calls Tryd.prog 4 #[.int .i64 n, v, x] W fun e w' => e = .returned (.bool true) ∧ Below W.heap.size W w' := by
  by_cases hn : 1 ≤ n ∧ n ≤ 6
  · obtain ⟨m, rfl⟩ : ∃ m : Nat, n = m := ⟨n.toNat, by omega⟩
    obtain ⟨ao, la, ca, rfl, hv⟩ := acts_open W v hok h
    obtain ⟨bo, lb, cb, rfl, hv2⟩ := acts_open W x hok2 h2
    exact pu_any m (by omega) (by omega) ao bo la ca lb cb W ht (Lib.hid hv) (Lib.hid hv2)
  · exact pu_out n (by omega) v x W ht
end Go.Proofs.YtjfkdfffolkblaaDoor
