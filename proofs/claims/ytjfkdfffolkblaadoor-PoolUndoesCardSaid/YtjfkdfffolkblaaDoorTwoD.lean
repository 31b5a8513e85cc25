/-
  The law's alike: all its ways.
-/
import Derived.Test.YtjfkdfffolkblaaDoorTwoB
namespace Go.Proofs.YtjfkdfffolkblaaDoor
open Go.RowKit
open UK (str BytesAt nth Only Row Box)
open Go.BigFrame
section
variable {E : Nat → Prop} {W W' : World} {P D Q F k : Nat} {A B : AP}
set_option maxHeartbeats 2000000 in
set_option maxRecDepth 100000 in
theorem alike_pin_out (h : Twin E W P D Q F A k) (hk : k + 1001 < 900000000) (a : Act1) (hnw : (Lit.int .i64 a.nn).wf = true) (p : Nat) (hpp : a.pp = p) (hm : A.Has p) (hin : ¬ (0 ≤ a.nn ∧ a.nn < 504)) (ha : a.kd = 1 ∨ a.kd = 3) :
    Calls Tryd.prog 16 #[.pointer (some ⟨P, 0, none⟩), .pointer (some ⟨Q, 0, none⟩), actV a] W fun e w' => AlikeR E W w' P D Q F A k e := by
  obtain ⟨h1, hb, hx⟩ := h.boxed a
  obtain ⟨kd, pp, nn, by_⟩ := a
  obtain rfl : pp = p := hpp
  replace hin : ¬ (0 ≤ nn ∧ nn < 504) := hin
  replace ha : kd = 1 ∨ kd = 3 := ha
  replace hnw : (Lit.int .i64 nn).wf = true := hnw
  simp only [] at h1 hb hx
  have HF := Lib.hid (used_two (f := 56) (vs := [.int .i64 p]) h1 (fun S w P D z => pz_pin z (by omega) p hm))
  have HB := Lib.hid hb
  have HX := Lib.hid hx
  have HN := Lib.hid (Pair2.there h)
  clear h h1 hb hx
  rcases ha with rfl | rfl <;>
  · go_enter Tryd.func16, Tryd.ntmps16
    go_wp2_with fail
    refine HF.out.mono ?_
    rintro e w2 ⟨fb, db, cap, rfl, k2, HG⟩
    have b2 := HX.out.of_block (k2.block _ (.inr rfl))
    have c1 : w2.cell? ⟨W.heap.size, 1, none⟩ = some (.int .i64 p) := b2.cell 1 _ rfl
    have HK := Lib.hid (HB.out.trans (k2.mono (T := E) (fun j hj => .inl hj)))
    replace HG := Lib.hid HG
    replace HX := Lib.hid b2
    clear HF HB k2 b2
    go_wp2_with fail
    refine HG.out.mono ?_
    rintro e w3 ⟨gb, eb, dap, rfl, u3, k3⟩
    replace HK := Lib.hid (HK.out.trans (k3.mono (fun j hj => .inl hj)))
    have b3 := HX.out.of_block (k3.block _ (.inr rfl))
    have c2 : w3.cell? ⟨W.heap.size, 2, none⟩ = some (.int .i64 nn) := b3.cell 2 _ rfl
    have bd : Below w3.heap.size w3 w3.drew := UK.belowN (Below.refl _ _) 1
    have u4 := u3.wide bd (fun j hj => .inl hj)
    replace HK := Lib.hid (HK.out.trans (Kept.of_below bd (fun j hj => Nat.lt_of_lt_of_le (HN.out j hj) HK.out.size)))
    have HV := Lib.hid (And.intro u4.conv u4.swap.conv)
    have HC := Lib.hid (And.intro u4.bytes.1 u4.swap.bytes.1)
    have HU := Lib.hid u4.unpin
    have HM := Lib.hid (show k + 2 ≤ k + 1001 by omega)
    have HA := Lib.hid (AP.Reach.refl A)
    clear HG HX k3 u3 b3 c1 bd u4
    by_cases hn0 : 0 ≤ nn
    · have hn1 : ¬ nn < 504 := fun e => hin ⟨hn0, e⟩
      clear hin
      have v1 := HV.out.1
      have v2 := HV.out.2
      go_wp2_with fail
      go_region_with (first
        | (go_at_call 57; refine HC.out.1.mono ?_; rintro e w' ⟨rfl, rfl⟩)
        | (go_at_call 57; refine HC.out.2.mono ?_; rintro e w' ⟨rfl, rfl⟩))
      all_goals
        clear v1 v2 HV HC
        go_wp2_with fail
        refine HU.out.mono ?_
        rintro e w4 ⟨rfl, k4, HG⟩
        replace HK := Lib.hid (HK.out.trans (k4.mono (fun j hj => .inl hj)))
        replace HG := Lib.hid HG
        clear HU k4
        go_wp2_with fail
        refine HG.out.mono ?_
        rintro e wc ⟨rfl, t5, k5⟩
        replace HK := Lib.hid (HK.out.trans (k5.mono (fun j hj => .inl hj)))
        have HP := Lib.hid t5.pins
        have HS := Lib.hid ((t5.up HM.out).less (T := E) (fun j hj => .inl hj))
        clear HG k5 t5
        go_wp2_with fail
        refine HP.out.1.mono ?_
        rintro e w' ⟨rfl, rfl⟩
        go_wp2_with fail
        refine HP.out.2.mono ?_
        rintro e w' ⟨rfl, rfl⟩
        go_wp2
        go_ret
        exact ⟨_, rfl, HA.out, HS.out, HK.out⟩
    · clear hin
      have v1 := HV.out.1
      have v2 := HV.out.2
      go_wp2_with fail
      go_region_with (first
        | (go_at_call 57; refine HC.out.1.mono ?_; rintro e w' ⟨rfl, rfl⟩)
        | (go_at_call 57; refine HC.out.2.mono ?_; rintro e w' ⟨rfl, rfl⟩))
      all_goals
        clear v1 v2 HV HC
        go_wp2_with fail
        refine HU.out.mono ?_
        rintro e w4 ⟨rfl, k4, HG⟩
        replace HK := Lib.hid (HK.out.trans (k4.mono (fun j hj => .inl hj)))
        replace HG := Lib.hid HG
        clear HU k4
        go_wp2_with fail
        refine HG.out.mono ?_
        rintro e wc ⟨rfl, t5, k5⟩
        replace HK := Lib.hid (HK.out.trans (k5.mono (fun j hj => .inl hj)))
        have HP := Lib.hid t5.pins
        have HS := Lib.hid ((t5.up HM.out).less (T := E) (fun j hj => .inl hj))
        clear HG k5 t5
        go_wp2_with fail
        refine HP.out.1.mono ?_
        rintro e w' ⟨rfl, rfl⟩
        go_wp2_with fail
        refine HP.out.2.mono ?_
        rintro e w' ⟨rfl, rfl⟩
        go_wp2
        go_ret
        exact ⟨_, rfl, HA.out, HS.out, HK.out⟩
set_option maxHeartbeats 2000000 in
set_option maxRecDepth 100000 in
theorem alike_pin_no (h : Twin E W P D Q F A k) (a : Act1) (hp : ¬ ∃ m : Nat, a.pp = m ∧ A.Has m) (ha : a.kd = 1 ∨ a.kd = 3) :
    Calls Tryd.prog 16 #[.pointer (some ⟨P, 0, none⟩), .pointer (some ⟨Q, 0, none⟩), actV a] W fun e w' => AlikeR E W w' P D Q F A k e := by
  obtain ⟨h1, hb, hx⟩ := h.boxed a
  obtain ⟨kd, pp, nn, by_⟩ := a
  replace hp : ¬ ∃ m : Nat, pp = m ∧ A.Has m := hp
  replace ha : kd = 1 ∨ kd = 3 := ha
  simp only [] at h1 hb hx
  have HF := Lib.hid (twin_two (f := 56) (vs := [.int .i64 pp]) h1 (fun S w P D z => pz_pin_no z pp (fun m e hm => hp ⟨m, e, hm⟩)))
  have HB := Lib.hid hb
  have HX := Lib.hid hx
  clear h h1 hb hx hp
  rcases ha with rfl | rfl <;>
  · go_enter Tryd.func16, Tryd.ntmps16
    go_wp2_with fail
    refine HF.out.mono ?_
    rintro e w2 ⟨rfl, k2, HG⟩
    have c1 : w2.cell? ⟨W.heap.size, 1, none⟩ = some (.int .i64 pp) := (HX.out.of_block (k2.block _ (.inr rfl))).cell 1 _ rfl
    have HK := Lib.hid (HB.out.trans (k2.mono (T := E) (fun j hj => .inl hj)))
    replace HG := Lib.hid HG
    clear HF HB HX k2
    go_wp2_with fail
    refine HG.out.mono ?_
    rintro e w3 ⟨rfl, t3, k3⟩
    replace HK := Lib.hid (HK.out.trans (k3.mono (fun j hj => .inl hj)))
    have HP := Lib.hid t3.pins
    have HS := Lib.hid ((t3.up (show k ≤ k + 1001 by omega)).less (T := E) (fun j hj => .inl hj))
    have HA := Lib.hid (AP.Reach.refl A)
    clear HG k3 t3 c1
    go_wp2_with fail
    refine HP.out.1.mono ?_
    rintro e w' ⟨rfl, rfl⟩
    go_wp2_with fail
    refine HP.out.2.mono ?_
    rintro e w' ⟨rfl, rfl⟩
    go_wp2
    go_ret
    exact ⟨_, rfl, HA.out, HS.out, HK.out⟩
end
end Go.Proofs.YtjfkdfffolkblaaDoor
