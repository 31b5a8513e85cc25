/-
  The law's alike: a page that is pinned in both pools.
-/
import Derived.Test.YtjfkdfffolkblaaDoorTwoB
namespace Go.Proofs.YtjfkdfffolkblaaDoor
open Go.RowKit
open UK (str BytesAt nth Only Row Box)
open Go.BigFrame
section
variable {E : Nat → Prop} {W W' : World} {P D Q F k : Nat} {A B : AP}
set_option maxHeartbeats 2000000 in
set_option maxRecDepth 100000 in
theorem alike_pin_in1 (h : Twin E W P D Q F A k) (hk : k + 1001 < 900000000) (a : Act1) (p : Nat) (hpp : a.pp = p) (hm : A.Has p) (m : Nat) (hnn : a.nn = m) (hin1 : m < 504) (ha : a.kd = 1) :
    Calls Tryd.prog 16 #[.pointer (some ⟨P, 0, none⟩), .pointer (some ⟨Q, 0, none⟩), actV a] W fun e w' => AlikeR E W w' P D Q F A k e := by
  obtain ⟨h1, hb, hx⟩ := h.boxed a
  obtain ⟨kd, pp, nn, by_⟩ := a
  obtain rfl : pp = p := hpp
  obtain rfl : nn = m := hnn
  obtain rfl : kd = 1 := ha
  simp only [] at h1 hb hx
  have HF := Lib.hid (used_two (f := 56) (vs := [.int .i64 p]) h1 (fun S w P D z => pz_pin z (by omega) p hm))
  have HB := Lib.hid hb
  have HX := Lib.hid hx
  have HN := Lib.hid (Pair2.there h)
  clear h h1 hb hx
  · go_enter Tryd.func16, Tryd.ntmps16
    go_wp2_with fail
    refine HF.out.mono ?_
    rintro e w2 ⟨fb, db, cap, rfl, k2, HG⟩
    have b2 := HX.out.of_block (k2.block _ (.inr rfl))
    have c1 : w2.cell? ⟨W.heap.size, 1, none⟩ = some (.int .i64 p) := b2.cell 1 _ rfl
    have HK := Lib.hid (HB.out.trans (k2.mono (T := E) (fun j hj => .inl hj)))
    replace HG := Lib.hid HG
    replace HX := Lib.hid b2
    clear HF HB k2 b2
    go_wp2_with fail
    refine HG.out.mono ?_
    rintro e w3 ⟨gb, eb, dap, rfl, u3, k3⟩
    replace HK := Lib.hid (HK.out.trans (k3.mono (fun j hj => .inl hj)))
    have b3 := HX.out.of_block (k3.block _ (.inr rfl))
    have c2 : w3.cell? ⟨W.heap.size, 2, none⟩ = some (.int .i64 (m : Int)) := b3.cell 2 _ rfl
    have bd : Below w3.heap.size w3 w3.drew := UK.belowN (Below.refl _ _) 1
    have u4 := u3.wide bd (fun j hj => .inl hj)
    have b4 := b3.of_block (W' := w3.drew) rfl
    have c3' : w3.drew.cell? ⟨W.heap.size, 3, none⟩ = some (.int .u8 (by_.toNat : Int)) := b4.cell 3 _ rfl
    have c2' : w3.drew.cell? ⟨W.heap.size, 2, none⟩ = some (.int .i64 (m : Int)) := b4.cell 2 _ rfl
    replace HK := Lib.hid (HK.out.trans (Kept.of_below bd (fun j hj => Nat.lt_of_lt_of_le (HN.out j hj) HK.out.size)))
    have HE := Lib.hid (u4.edit (by omega) (i := m) (by omega) (.inr rfl) b4)
    have HT := Lib.hid (b4)
    clear HG HX k3 u3 b3 c1 bd u4 b4
    go_upto_region 11 with (fail)
    go_cut [] (fun wx => Used (fun j => E j ∨ j = W.heap.size) wx P D Q F (A.wrote p ((A.c p).set m by_)) A (k + 2 + 1) (k + 2) fb db cap gb eb dap p true false ∧ (∃ kv : Value, Box wx W.heap.size #[kv, .int .i64 (p : Int), .int .i64 (m : Int), .int .u8 (by_.toNat : Int)]) ∧ Kept E W wx)
    case first =>
      go_region_with (first
        | (go_at_call 41; refine HE.out.mono ?_; rintro e w4 ⟨u, rfl, g3, g2, gm, gf, p4, k4⟩; replace p4 := Lib.hid p4; replace k4 := Lib.hid k4))
      all_goals
        obtain ⟨u5, k5⟩ := p4.out.byte m by_
        have b5 := HT.out.of_block ((k4.out.trans k5).block _ (.inr rfl))
        replace HK := Lib.hid ((HK.out.trans (k4.out.mono (fun j hj => .inl hj))).trans (k5.mono (T := E) (fun j hj => .inl hj)))
        clear HE HT p4 k4 k5 c2' c3' c2 g3 g2 gm gf
        go_wp2_with fail
        go_meet
        case rel => exact ⟨u5, ⟨_, b5⟩, HK.out⟩
    case rest =>
      obtain ⟨u5, ⟨kv, b5⟩, hk5⟩ := hcut
      clear HE HT c2' c3' c2 HK
      have c2 : wc.cell? ⟨W.heap.size, 2, none⟩ = some (.int .i64 (m : Int)) := b5.cell 2 _ rfl
      have bd : Below wc.heap.size wc wc.drew := UK.belowN (Below.refl _ _) 1
      have u6 := u5.wide bd (fun j hj => .inl hj)
      have b6 := b5.of_block (W' := wc.drew) rfl
      have c3' : wc.drew.cell? ⟨W.heap.size, 3, none⟩ = some (.int .u8 (by_.toNat : Int)) := b6.cell 3 _ rfl
      have c2' : wc.drew.cell? ⟨W.heap.size, 2, none⟩ = some (.int .i64 (m : Int)) := b6.cell 2 _ rfl
      have HK := Lib.hid (hk5.trans (Kept.of_below bd (fun j hj => Nat.lt_of_lt_of_le (HN.out j hj) hk5.size)))
      have HE := Lib.hid (u6.swap.edit (by omega) (i := m) (by omega) (.inr rfl) b6)
      clear bd u5 u6 b6 b5 hk5
      go_upto_region 12 with (fail)
      go_cut [] (fun wx => Used (fun j => E j ∨ j = W.heap.size) wx P D Q F (A.wrote p ((A.c p).set m by_)) (A.wrote p ((A.c p).set m by_)) (k + 2 + 1) (k + 2 + 1) fb db cap gb eb dap p true true ∧ Kept E W wx)
      case first =>
        go_region_with (first
          | (go_at_call 41; refine HE.out.mono ?_; rintro e w6 ⟨v, rfl, g3, g2, gm, gf, p4, k4⟩; replace p4 := Lib.hid p4; replace k4 := Lib.hid k4))
        all_goals
          obtain ⟨u7, k5⟩ := p4.out.byte m by_
          replace HK := Lib.hid ((HK.out.trans (k4.out.mono (fun j hj => .inl hj))).trans (k5.mono (T := E) (fun j hj => .inl hj)))
          clear HE p4 k4 k5 c2' c3' c2 g3 g2 gm gf
          replace u7 := u7.swap
          go_wp2_with fail
          go_meet
          case rel => exact ⟨u7, HK.out⟩
      case rest =>
        obtain ⟨u7, hk7⟩ := hcut
        clear HE c2' c3' c2 HK
        have bd : Below wc.heap.size wc wc.drew := UK.belowN (Below.refl _ _) 1
        have u4 := u7.wide bd (fun j hj => .inl hj)
        have HK := Lib.hid (hk7.trans (Kept.of_below bd (fun j hj => Nat.lt_of_lt_of_le (HN.out j hj) hk7.size)))
        have HV := Lib.hid (And.intro u4.conv u4.swap.conv)
        have HC := Lib.hid (And.intro u4.bytes.1 u4.swap.bytes.1)
        have HU := Lib.hid u4.unpin
        have HM := Lib.hid (show k + 2 + 1 ≤ k + 1001 by omega)
        have HA := Lib.hid ((AP.Reach.refl A).wrote hm ((A.c p).set m by_))
        clear u7 bd u4 hk7
        have v1 := HV.out.1
        have v2 := HV.out.2
        go_wp2_with fail
        go_region_with (first
          | (go_at_call 57; refine HC.out.1.mono ?_; rintro e w' ⟨rfl, rfl⟩)
          | (go_at_call 57; refine HC.out.2.mono ?_; rintro e w' ⟨rfl, rfl⟩))
        all_goals
          clear v1 v2 HV HC
          go_wp2_with fail
          refine HU.out.mono ?_
          rintro e w4 ⟨rfl, k4, HG⟩
          replace HK := Lib.hid (HK.out.trans (k4.mono (fun j hj => .inl hj)))
          replace HG := Lib.hid HG
          clear HU k4
          go_wp2_with fail
          refine HG.out.mono ?_
          rintro e wc ⟨rfl, t5, k5⟩
          replace HK := Lib.hid (HK.out.trans (k5.mono (fun j hj => .inl hj)))
          have HP := Lib.hid t5.pins
          have HS := Lib.hid ((t5.up HM.out).less (T := E) (fun j hj => .inl hj))
          clear HG k5 t5
          go_wp2_with fail
          refine HP.out.1.mono ?_
          rintro e w' ⟨rfl, rfl⟩
          go_wp2_with fail
          refine HP.out.2.mono ?_
          rintro e w' ⟨rfl, rfl⟩
          go_wp2
          go_ret
          exact ⟨_, rfl, HA.out, HS.out, HK.out⟩
end
end Go.Proofs.YtjfkdfffolkblaaDoor
