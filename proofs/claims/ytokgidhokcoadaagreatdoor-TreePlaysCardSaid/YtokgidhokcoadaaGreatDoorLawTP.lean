/-
  TreePlays, walked: it returns true.
-/
import Derived.Test.YtokgidhokcoadaaGreatDoorActs8
import Derived.Test.YtokgidhokcoadaaGreatDoorTreeK
import Derived.Deep.RegionWith
import Derived.Deep.DeepCutAuto
namespace Go.Proofs.YtokgidhokcoadaaGreatDoor
open Go.RowKit
open UK (str BytesAt nth Only Row Box)
open Go.BigFrame
open A8 (ActsAt)
theorem wpAny_one {P : Program} {ops : Array Oper} {Q : Exit → Act → World → Prop} {md : Region.Mode} {i : Nat} {o : Oper} {fuel : Nat} {listed : Array Bool} {a : Act} {w : World} (hr : Region.ready md ops listed = [i]) (ho : ops[i]? = some o)
    (h : ∀ K' : Act → World → Prop, Shut (∀ a w, wpAny P md ops Q fuel (listed.setIfInBounds i true) a w → K' a w) → if Region.wanted o (yielded ops a.tmps) = true then Oper.wp P o a w K' Q else K' (a.put o.dst undef) w) :
    wpAny P md ops Q (fuel + 1) listed a w :=
  ⟨fun h0 => absurd (hr ▸ h0) (by simp), fun j hj => by
    rw [hr] at hj
    obtain rfl : j = i := by simpa using hj
    exact wpOp_step ho (fun K' hK => h K' hK)⟩
def Q8 (j : Nat) (A : AP) (X Y : List KV) (op : Bool) : Prop := ∃ A0, LS j A X A0 Y op
theorem Q8.room {j : Nat} {A : AP} {X Y : List KV} (h : Q8 j A X Y false) : A.Good ∧ 400 - (A.rooms : Int) ≤ 1 + 2 + (X.length : Int) / 7 := by
  obtain ⟨A0, h⟩ := h
  obtain ⟨ps, h1, h2⟩ := h.now.one
  have hs : A.op = none := by
    rcases Decidable.em (A.op = none) with e | e
    · exact e
    · exact absurd (h.shut.2 e) (by simp)
  have a := h.now.good.count8 hs h1.nod h2
  have b := h1.many
  have c := h.now.most
  exact ⟨h.now.good, by omega⟩
set_option maxHeartbeats 4000000 in
set_option maxRecDepth 100000 in
theorem tp_any (fr : Nat) (hfr : 1 ≤ fr ∧ fr ≤ 6) (ask : UInt64) (ao : Option Addr) (len cap : Nat) (W : World) (ht : TabAt W)
    (hv : Hid (len = 0 ∨ ∃ b off kd ii ni si, ao = some ⟨b, off, none⟩ ∧ ActsAt W b off len kd ii ni si ∧ b < W.heap.size)) :
    Calls Tryz.prog 3 #[.int .i64 fr, .slice ao len cap, .int .u64 ask.toNat] W fun e w' => e = .returned (.bool true) ∧ Kept (fun j => j < W.heap.size) W w' := by
  have HM := Lib.hid (made_many W ht (fun j => j < W.heap.size) (fun _ h => h) fr (by omega))
  have htl := ht.lt
  have hf1 : ¬ (fr : Int) < 1 := by omega
  have hf2 : ¬ 6 < (fr : Int) := by omega
  go_enter Tryz.func3, Tryz.ntmps3
  go_wp2_with fail
  refine HM.out.mono ?_
  rintro e w1 ⟨P, D, T, N, M, rfl, t1, hN, k1⟩
  have HA := Lib.hid (awake_any w1 t1.pz.tab (fun j => j < w1.heap.size) (fun _ h => h))
  have H1 := Lib.hid (And.intro t1 (And.intro hN k1))
  clear HM t1 hN k1
  go_wp2_with fail
  refine HA.out.mono ?_
  rintro e w2 ⟨rfl, k2⟩
  obtain ⟨t1, hN, k1⟩ := H1.out
  have hT := t1.pz.there T t1.mem
  have b12 : Below w1.heap.size w1 w2 := ⟨k2.os, k2.tape, k2.output, k2.size, k2.block⟩
  have a2 : Below w2.heap.size w2 (w2.alloc (.cells (rcells P T none 0 0 none 0 0 false) 31)) := (Below.refl _ _).alloc (Nat.le_refl _) _
  have s2 : (w2.alloc (.cells (rcells P T none 0 0 none 0 0 false) 31)).heap.size = w2.heap.size + 1 := by simp
  have x2 := Box.new w2 (rcells P T none 0 0 none 0 0 false) 31
  have b13 : Below w1.heap.size w1 (w2.alloc (.cells (rcells P T none 0 0 none 0 0 false) 31)) := b12.trans (a2.mono b12.size)
  have hs12 := b12.size
  have G0 : HG8 (Q8 0) W (w2.alloc (.cells (rcells P T none 0 0 none 0 0 false) 31)) P D w2.heap.size 3 := by
    refine ⟨T, none, 0, [], none, 0, [], false, leafA 400, 3, x2, ⟨⟨t1.pz.wide b13 (fun j hj => ?_), t1.box.next b13, .inr (.inl rfl)⟩, .inl ⟨rfl, rfl, rfl⟩, .inl ⟨rfl, rfl, rfl⟩⟩, Nat.le_refl _, ⟨leafA 400, ls_new _ _⟩, k1.trans (Kept.of_below b13 (fun j hj => Nat.lt_of_lt_of_le hj k1.size)), Nat.le_trans k1.size hs12⟩
    rcases hj with (hj | hj) | hj | hj | hj
    · exact .inl (.inl hj)
    · exact .inr (by omega)
    · subst hj; exact .inl t1.mem
    · cases hj
    · cases hj
  generalize hwa : w2.alloc (.cells (rcells P T none 0 0 none 0 0 false) 31) = wa at G0
  have HWA := Lib.hid hwa
  have HG0 := Lib.hid G0
  have hrb : W.heap.size ≤ w2.heap.size := Nat.le_trans k1.size hs12
  clear HA H1 k2 t1 hN k1 hT b12 a2 s2 x2 b13 hs12 G0 hwa
  go_wp2_with fail
  go_loopw [10] (fun iv wr => ∃ j : Nat, iv = .int .i64 j ∧ j ≤ 20 ∧ HG8 (Q8 j) W wr P D w2.heap.size (3 + 1300000 * j)) (fun iv _ => 21 - (intOf iv).toNat)
  case atStart => exact ⟨0, rfl, by omega, by rw [HWA.out]; exact HG0.out⟩
  case round =>
    clear HG0 HWA
    obtain ⟨j, rfl, hj, T, ao', c, X, bo, d, Y, op, A, k, hx, hr, hk, hq, hkp, _⟩ := hrel
    by_cases hgo : j < len ∧ j < 20
    · obtain ⟨hlt, hj20⟩ := hgo
      rcases hv.out with h0 | ⟨b, off, kd, ii, ni, si, rfl, ha, hbW⟩
      · omega
      · have HC : Hid (∀ w', Kept (fun j => j < W.heap.size) W w' → ∀ i v, W.cell? ⟨b, i, none⟩ = some v → w'.cell? ⟨b, i, none⟩ = some v) := Lib.hid (fun w' k i v hc => (World.cell?_of_block (a := ⟨b, i, none⟩) (k.block b hbW)).trans hc)
        have a0 := ha.c0 j hlt
        have a1 := ha.c1 j hlt
        have a2 := ha.c2 j hlt
        have a3 := ha.c3 j hlt
        have i1 : (j : Int) < (len : Int) := by omega
        have i2 : (j : Int) < 20 := by omega
        generalize kd j = kj at a0
        generalize ii j = ij at a1
        generalize ni j = nj at a2
        generalize si j = sj at a3
        have c0 := HC.out _ hkp _ _ a0
        have c1 := HC.out _ hkp _ _ a1
        have c2 := HC.out _ hkp _ _ a2
        have c3 := HC.out _ hkp _ _ a3
        obtain ⟨A0, hl⟩ := hq
        have hD := fun (S : Nat → Prop) (w1 : World) (h1 : RM S w1 P D T ao' c X bo d Y A k) (h2 : ∀ j, S j → j < w1.heap.size) => (does_any h1 h2 (by omega) kj ij nj sj hl (by omega)).mono fun e w' he => DoesR.imp he (show k + 400000 ≤ 3 + 1300000 * j + 400000 by omega) (fun A' X' Y' op' hq => (show Q8 (j + 1) A' X' Y' op' from hq))
        have HDO := Lib.hid (does_ahead hx hr hkp hrb htl hD)
        have HDP := Lib.hid (does_behind hx hr hkp hrb hD)
        have r0 : wr.cell? ⟨w2.heap.size, 0, none⟩ = some (.pointer (some ⟨P, 0, none⟩)) := hx.cell 0 _ rfl
        have r1 : wr.cell? ⟨w2.heap.size, 1, none⟩ = some (.pointer (some ⟨T, 0, none⟩)) := hx.cell 1 _ rfl
        have r2 : wr.cell? ⟨w2.heap.size, 2, none⟩ = some (.slice ao' X.length c) := hx.cell 2 _ rfl
        have r3 : wr.cell? ⟨w2.heap.size, 3, none⟩ = some (.slice bo Y.length d) := hx.cell 3 _ rfl
        have r4 : wr.cell? ⟨w2.heap.size, 4, none⟩ = some (.bool op) := hx.cell 4 _ rfl
        have hrw : w2.heap.size < wr.heap.size := hx.lt
        have hbr : b < wr.heap.size := Nat.lt_of_lt_of_le hbW hkp.size
        have HA := Lib.hid a2
        clear hx hr hkp hl hk ha a0 a1 a2 a3 hD
        go_upto_region 10 with (fail)
        go_cut [11, 12] (fun qv ov wx => ∃ q : Nat, qv = .pointer (some ⟨q, 0, none⟩) ∧ ov = .bool true ∧ wr.heap.size ≤ q ∧ ∃ T2 ao2 n2 c2 bo2 m2 d2 op2, Box wx q (rcells P T2 ao2 n2 c2 bo2 m2 d2 op2) ∧ GX8 (Q8 (j + 1)) W wx P D w2.heap.size q (3 + 1300000 * j + 400000) T2 ao2 n2 c2 bo2 m2 d2 op2)
        case first =>
          go_region_with (first
            | (go_at_call 15; refine HDO.out.mono ?_; rintro e w3 ⟨T2, ao2, n2, c2', bo2, m2, d2, op2, rfl, zb, gx⟩; have zf := zb.free; have z0 : w3.cell? ⟨wr.heap.size, 0, none⟩ = some (.pointer none) := zb.cell 0 _ rfl; have z1 : w3.cell? ⟨wr.heap.size, 1, none⟩ = some (.pointer none) := zb.cell 1 _ rfl; have z2 : w3.cell? ⟨wr.heap.size, 2, none⟩ = some (.slice none 0 0) := zb.cell 2 _ rfl; have z3 : w3.cell? ⟨wr.heap.size, 3, none⟩ = some (.slice none 0 0) := zb.cell 3 _ rfl; have z4 : w3.cell? ⟨wr.heap.size, 4, none⟩ = some (.bool false) := zb.cell 4 _ rfl; replace zb := Lib.hid zb; replace gx := Lib.hid gx)
            | (go_at_call 15; refine HDP.out.mono ?_; rintro e w3 ⟨T2, ao2, n2, c2', bo2, m2, d2, op2, rfl, hs3, gx⟩; replace gx := Lib.hid gx))
          all_goals
            go_wp2_with fail
            go_meet
            case rel =>
              first
                | exact ⟨_, rfl, rfl, Nat.le_refl _, T2, ao2, n2, c2', bo2, m2, d2, op2, zb.out.fill5 _ _ _ _ _, gx.out⟩
                | exact ⟨_, rfl, rfl, hs3, T2, ao2, n2, c2', bo2, m2, d2, op2, Box.new _ _ _, gx.out _ _⟩
        case rest =>
          obtain ⟨q, rfl, rfl, hq, T2, ao2, n2, c2', bo2, m2, d2, op2, xb, gx⟩ := hcut
          have zf := xb.free
          have q0 : wc.cell? ⟨q, 0, none⟩ = some (.pointer (some ⟨P, 0, none⟩)) := xb.cell 0 _ rfl
          have q1 : wc.cell? ⟨q, 1, none⟩ = some (.pointer (some ⟨T2, 0, none⟩)) := xb.cell 1 _ rfl
          have q2 : wc.cell? ⟨q, 2, none⟩ = some (.slice ao2 n2 c2') := xb.cell 2 _ rfl
          have q3 : wc.cell? ⟨q, 3, none⟩ = some (.slice bo2 m2 d2) := xb.cell 3 _ rfl
          have q4 : wc.cell? ⟨q, 4, none⟩ = some (.bool op2) := xb.cell 4 _ rfl
          obtain ⟨_, _, _, _, _, _, _, _, _, _, _, _, T0, ao0, n0, c0', bo0, m0, d0, op0, rb0⟩ := id gx
          have rf := rb0.free
          have s0 : wc.cell? ⟨w2.heap.size, 0, none⟩ = some (.pointer (some ⟨P, 0, none⟩)) := rb0.cell 0 _ rfl
          have s1 : wc.cell? ⟨w2.heap.size, 1, none⟩ = some (.pointer (some ⟨T0, 0, none⟩)) := rb0.cell 1 _ rfl
          have s2 : wc.cell? ⟨w2.heap.size, 2, none⟩ = some (.slice ao0 n0 c0') := rb0.cell 2 _ rfl
          have s3 : wc.cell? ⟨w2.heap.size, 3, none⟩ = some (.slice bo0 m0 d0) := rb0.cell 3 _ rfl
          have s4 : wc.cell? ⟨w2.heap.size, 4, none⟩ = some (.bool op0) := rb0.cell 4 _ rfl
          have HT := Lib.hid (gx.turn htl)
          clear gx xb rb0 HDO HDP c0 c1 c2 c3 r0 r1 r2 r3 r4 hbr hrw
          go_upto_region 11 with (fail)
          go_cut [] (fun wx => ∃ (X : List KV) (Y : List KV) (A : AP) (k : Nat), X.length = n2 ∧ Y.length = m2 ∧ Box wx w2.heap.size (rcells P T2 ao2 n2 c2' bo2 m2 d2 op2) ∧ RM (fun b => b < W.heap.size ∨ b = w2.heap.size) wx P D T2 ao2 c2' X bo2 d2 Y A k ∧ k ≤ 3 + 1300000 * j + 400000 ∧ Q8 (j + 1) A X Y op2 ∧ Kept (fun b => b < W.heap.size) W wx)
          case first =>
            go_wp2
            go_meet
            case rel => exact HT.out
          case rest =>
            clear HT q0 q1 q2 q3 q4 s0 s1 s2 s3 s4 zf rf hq
            obtain ⟨X2, Y2, A2, k2, rfl, rfl, xF, rF, hkF, ⟨A9, hl9⟩, kF⟩ := hcut
            obtain ⟨ps, hti, _⟩ := hl9.now.one
            have hfew := hl9.now.few
            have hgd := hl9.now.good
            have rF1 := rF.wide (S' := fun b => b < W.heap.size ∨ b = w2.heap.size) ((Below.refl _ _).drew) (fun j hj => .inl hj)
            have xF1 := xF.next ((Below.refl _ _).drew)
            have kF1 := kF.trans (Kept.of_below ((Below.refl _ _).drew) (fun j hj => Nat.lt_of_lt_of_le hj kF.size))
            have HS1 := Lib.hid (shows_any (op := op2) (m := Y2.length) (d := d2) (bo := bo2) rF1.tr (show X2.length ≤ 2000 by omega) (by omega) hti hgd rF1.px (fun b hb => .inr (.inr (.inl hb))) ask)
            have HS2 := Lib.hid (fun (w5 : World) (r5 : RM (fun b => b < W.heap.size ∨ b = w2.heap.size) w5 P D T2 ao2 c2' X2 bo2 d2 Y2 A2 (k2 + 400000)) => shows_any (op := op2) (m := Y2.length) (d := d2) (bo := bo2) r5.tr (show X2.length ≤ 2000 by omega) (by omega) hti hgd r5.px (fun b hb => .inr (.inr (.inl hb))) nj)
            have HF := Lib.hid (And.intro xF1 (And.intro rF1 kF1))
            have HL := Lib.hid hl9
            have u0 := xF.cell 0 _ rfl
            have u1 := xF.cell 1 _ rfl
            have u2 := xF.cell 2 _ rfl
            have u3 := xF.cell 3 _ rfl
            have u4 := xF.cell 4 _ rfl
            have c2 := HC.out _ kF _ _ HA.out
            have hrw := xF.lt
            have hbr : b < wc.heap.size := block_lt_of_cell c2
            clear xF rF kF rF1 xF1 kF1 hl9 hti hfew hgd
            have e0 : wc.drew.cell? ⟨w2.heap.size, 0, none⟩ = some (.pointer (some ⟨P, 0, none⟩)) := u0
            have e1 : wc.drew.cell? ⟨w2.heap.size, 1, none⟩ = some (.pointer (some ⟨T2, 0, none⟩)) := u1
            have e2 : wc.drew.cell? ⟨w2.heap.size, 2, none⟩ = some (.slice ao2 X2.length c2') := u2
            have e3 : wc.drew.cell? ⟨w2.heap.size, 3, none⟩ = some (.slice bo2 Y2.length d2) := u3
            have e4 : wc.drew.cell? ⟨w2.heap.size, 4, none⟩ = some (.bool op2) := u4
            have e5 : wc.drew.cell? ⟨b, off + j * 4 + 2, none⟩ = some (.int .u64 (nj.toNat : Int)) := c2
            go_wp2_with fail
            refine wp_region_any (by kernel_rfl) ?_
            change wpAny _ _ _ _ _ _ _ (wc.drew)
            refine wpAny_take (i := 0) (v := ?va0) rfl (by kernel_rfl) (by kernel_rfl) (by kernel_rfl) (fun _ _ _ h => h) (Or.inl ⟨by rfl, ?hya0⟩) ?resta0
            case hya0 => (intro w; go_simp; try with_reducible rfl)
            try simp only [Act.put, zA]
            refine wpAny_take (i := 1) (v := ?va1) rfl (by kernel_rfl) (by kernel_rfl) (by kernel_rfl) (fun _ _ _ h => h) (Or.inl ⟨by rfl, ?hya1⟩) ?resta1
            case hya1 => (intro w; go_simp; try with_reducible rfl)
            try simp only [Act.put]
            refine wpAny_take (i := 2) (v := ?va2) rfl (by kernel_rfl) (by kernel_rfl) (by kernel_rfl) (fun _ _ _ h => h) (Or.inl ⟨by rfl, ?hya2⟩) ?resta2
            case hya2 => (intro w; go_simp; try with_reducible rfl)
            try simp only [Act.put]
            refine wpAny_take (i := 4) (v := ?va4) rfl (by kernel_rfl) (by kernel_rfl) (by kernel_rfl) (fun _ _ _ h => h) (Or.inl ⟨by rfl, ?hya4⟩) ?resta4
            case hya4 => (intro w; go_simp; try with_reducible rfl)
            try simp only [Act.put]
            refine wpAny_one (i := 3) (by kernel_rfl) rfl (fun K hK => ?_)
            go_simp
            refine hK.out _ _ ?_
            clear hK K
            try simp only [Act.put, zA, zB, zC]
            refine wpAny_one (i := 5) (by kernel_rfl) rfl (fun K hK => ?_)
            go_simp
            go_at_call 16
            refine HS1.out.mono ?_
            rintro e w5 ⟨rfl, t5, k5⟩
            obtain ⟨xF1, rF1, kF1⟩ := HF.out
            obtain ⟨x5, r5, kp5⟩ := HG8.shown xF1 rF1 kF1 t5 k5
            have HS3 := Lib.hid (HS2.out w5 r5)
            have v0 := x5.cell 0 _ rfl
            have v1 := x5.cell 1 _ rfl
            have v2 := x5.cell 2 _ rfl
            have v3 := x5.cell 3 _ rfl
            have v4 := x5.cell 4 _ rfl
            have c5 := HC.out _ kp5 _ _ HA.out
            have H5 := Lib.hid (And.intro x5 (And.intro r5 kp5))
            clear HS1 xF1 rF1 kF1 t5 k5 x5 r5 kp5 HS2 u0 u1 u2 u3 u4 e0 e1 e2 e3 e4 e5 c2
            refine hK.out _ _ ?_
            clear hK K
            try simp only [Act.put, zA, zB, zC]
            refine wpAny_one (i := 6) (by kernel_rfl) rfl (fun K hK => ?_)
            go_simp
            refine hK.out _ _ ?_
            clear hK K
            try simp only [Act.put, zA, zB, zC]
            refine wpAny_one (i := 7) (by kernel_rfl) rfl (fun K hK => ?_)
            go_simp
            refine hK.out _ _ ?_
            clear hK K
            try simp only [Act.put, zA, zB, zC]
            refine wpAny_one (i := 8) (by kernel_rfl) rfl (fun K hK => ?_)
            go_simp
            refine hK.out _ _ ?_
            clear hK K
            try simp only [Act.put, zA, zB, zC]
            refine wpAny_take (i := 10) (v := ?va10) rfl (by kernel_rfl) (by kernel_rfl) (by kernel_rfl) (fun _ _ _ h => h) (Or.inl ⟨by rfl, ?hya10⟩) ?resta10
            case hya10 => (intro w; go_simp; try with_reducible rfl)
            try simp only [Act.put, zA]
            refine wpAny_take (i := 11) (v := ?va11) rfl (by kernel_rfl) (by kernel_rfl) (by kernel_rfl) (fun _ _ _ h => h) (Or.inl ⟨by rfl, ?hya11⟩) ?resta11
            case hya11 => (intro w; go_simp; try with_reducible rfl)
            try simp only [Act.put]
            refine wpAny_take (i := 12) (v := ?va12) rfl (by kernel_rfl) (by kernel_rfl) (by kernel_rfl) (fun _ _ _ h => h) (Or.inl ⟨by rfl, ?hya12⟩) ?resta12
            case hya12 => (intro w; go_simp; try with_reducible rfl)
            try simp only [Act.put]
            refine wpAny_take (i := 13) (v := ?va13) rfl (by kernel_rfl) (by kernel_rfl) (by kernel_rfl) (fun _ _ _ h => h) (Or.inl ⟨by rfl, ?hya13⟩) ?resta13
            case hya13 => (intro w; go_simp; try with_reducible rfl)
            try simp only [Act.put]
            have hS0 : (fun w : World => w.cell? ⟨w2.heap.size, 0, none⟩ = some (.pointer (some ⟨P, 0, none⟩)) ∧ w.cell? ⟨w2.heap.size, 1, none⟩ = some (.pointer (some ⟨T2, 0, none⟩)) ∧ w.cell? ⟨w2.heap.size, 2, none⟩ = some (.slice ao2 X2.length c2') ∧ w.cell? ⟨w2.heap.size, 3, none⟩ = some (.slice bo2 Y2.length d2) ∧ w.cell? ⟨w2.heap.size, 4, none⟩ = some (.bool op2) ∧ w.cell? ⟨b, off + j * 4 + 2, none⟩ = some (.int .u64 (nj.toNat : Int))) w5 := ⟨v0, v1, v2, v3, v4, c5⟩
            refine wpAny_of_late (S := fun w : World => w.cell? ⟨w2.heap.size, 0, none⟩ = some (.pointer (some ⟨P, 0, none⟩)) ∧ w.cell? ⟨w2.heap.size, 1, none⟩ = some (.pointer (some ⟨T2, 0, none⟩)) ∧ w.cell? ⟨w2.heap.size, 2, none⟩ = some (.slice ao2 X2.length c2') ∧ w.cell? ⟨w2.heap.size, 3, none⟩ = some (.slice bo2 Y2.length d2) ∧ w.cell? ⟨w2.heap.size, 4, none⟩ = some (.bool op2) ∧ w.cell? ⟨b, off + j * 4 + 2, none⟩ = some (.int .u64 (nj.toNat : Int))) (late := fun j => decide (j = 15)) _ _ _ _ ?_
            refine wpLate_take (i := 9) (v := ?va9) rfl (by kernel_rfl) (by kernel_rfl) (by kernel_rfl) (by kernel_rfl) (fun _ _ _ h => h) hS0 (by rfl) ?hya9 ?resta9
            case hya9 => (intro w hSw; (try dsimp only at hSw); go_simp; try with_reducible rfl)
            try simp only [Act.put]
            refine wpLate_take (i := 14) (v := ?va14) rfl (by kernel_rfl) (by kernel_rfl) (by kernel_rfl) (by kernel_rfl) (fun _ _ _ h => h) hS0 (by rfl) ?hya14 ?resta14
            case hya14 => (intro w hSw; (try dsimp only at hSw); go_simp; try with_reducible rfl)
            try simp only [Act.put]
            clear hS0
            refine wpLate_one (i := 15) (by kernel_rfl) rfl (fun K hK => ?_)
            go_simp
            go_at_call 16
            refine HS3.out.mono ?_
            rintro e w6 ⟨rfl, t6, k6⟩
            obtain ⟨x5, r5, kp5⟩ := H5.out
            obtain ⟨x6, r6, kp6⟩ := HG8.shown x5 r5 kp5 t6 k6
            have hS6 : (fun w : World => w.cell? ⟨w2.heap.size, 0, none⟩ = some (.pointer (some ⟨P, 0, none⟩)) ∧ w.cell? ⟨w2.heap.size, 1, none⟩ = some (.pointer (some ⟨T2, 0, none⟩)) ∧ w.cell? ⟨w2.heap.size, 2, none⟩ = some (.slice ao2 X2.length c2') ∧ w.cell? ⟨w2.heap.size, 3, none⟩ = some (.slice bo2 Y2.length d2) ∧ w.cell? ⟨w2.heap.size, 4, none⟩ = some (.bool op2) ∧ w.cell? ⟨b, off + j * 4 + 2, none⟩ = some (.int .u64 (nj.toNat : Int))) w6 := ⟨x6.cell 0 _ rfl, x6.cell 1 _ rfl, x6.cell 2 _ rfl, x6.cell 3 _ rfl, x6.cell 4 _ rfl, HC.out _ kp6 _ _ HA.out⟩
            have HS6 := Lib.hid hS6
            clear hS6
            have H6 := Lib.hid (And.intro x6 (And.intro r6 kp6))
            clear HS3 x5 r5 kp5 t6 k6 x6 r6 kp6 H5
            refine hK.out _ _ (fun h => absurd h (by decide)) ?_
            clear hK K
            try simp only [Act.put, zA, zB, zC]
            refine wpLate_one (i := 16) (by kernel_rfl) rfl (fun K hK => ?_)
            go_simp
            refine hK.out _ _ (fun _ => HS6.out) ?_
            clear hK K
            try simp only [Act.put, zA, zB, zC]
            refine wpLate_one (i := 17) (by kernel_rfl) rfl (fun K hK => ?_)
            go_simp
            refine hK.out _ _ (fun _ => HS6.out) ?_
            clear hK K
            try simp only [Act.put, zA, zB, zC]
            refine wpLate_done (by kernel_rfl) ?_ _
            go_wp2
            go_roundw
            case rel => exact ⟨j + 1, by go_num, by omega, T2, ao2, c2', X2, bo2, d2, Y2, op2, A2, _, H6.out.1, H6.out.2.1, by omega, ⟨_, HL.out⟩, H6.out.2.2, hrb⟩
            case measure => simp [intOf]; omega
    · have hng : ¬ (j : Int) < (len : Int) ∨ ((j : Int) < (len : Int) ∧ ¬ (j : Int) < 20) := by omega
      have hE : A.Good ∧ (op = false → 400 - (A.rooms : Int) ≤ 1 + 2 + (X.length : Int) / 7) := by
        cases op with
        | false => exact ⟨hq.room.1, fun _ => hq.room.2⟩
        | true =>
          obtain ⟨A0, h0⟩ := hq
          exact ⟨h0.now.good, (fun e => by cases e)⟩
      have hfew : X.length ≤ 2000 := by
        obtain ⟨A0, h0⟩ := hq
        have := h0.now.few
        omega
      have hpm := fun m => hr.tr.pz.next (W' := wr.drewN m) (UK.belowN (Below.refl _ _) m)
      have gD := fun m => pz_disk8 (hpm m)
      have gR := fun m => pz_room8 (hpm m) hE.1
      have u2 : ∀ m, (wr.drewN m).cell? ⟨w2.heap.size, 2, none⟩ = some (.slice ao' X.length c) := fun m => hx.cell 2 _ rfl
      have u4 : ∀ m, (wr.drewN m).cell? ⟨w2.heap.size, 4, none⟩ = some (.bool op) := fun m => hx.cell 4 _ rfl
      have HX := Lib.hid (fun m => hkp.trans (Kept.of_below (UK.belowN (Below.refl wr.heap.size wr) m) (fun j hj => Nat.lt_of_lt_of_le hj hkp.size)))
      have HE := Lib.hid hE.2
      have hrl : (A.rooms : Int) ≤ 60000 := by
        have := hE.1.most
        have := hE.1.few
        have h3 := (List.nodup_range' (s := 1) (n := A.cnt - 1) (step := 1) (h := by omega))
        have h4 := nodup_le8 A.free (List.range' 1 (A.cnt - 1)) hE.1.nod (fun x hx => by rw [List.mem_range'_1]; have := hE.1.free x hx; omega)
        rw [List.length_range'] at h4
        unfold AP.rooms
        omega
      have hr0 : (0 : Int) ≤ (A.rooms : Int) := by omega
      generalize (A.rooms : Int) = rr at gR HE hrl hr0
      have rw1 : IntKind.i64.wrap (400 - rr) = 400 - rr := by rw [IntKind.wrap_i64]; omega
      clear hx hr hk hq hkp hpm hE
      cases op with
      | true =>
        rcases hng with i1 | ⟨i1, i2⟩
        all_goals
          go_wp2_with fail
          go_quiet (fail)
          go_wp2
          go_ret
          exact ⟨by simp, HX.out _⟩
      | false =>
        rcases hng with i1 | ⟨i1, i2⟩
        all_goals
          go_wp2_with fail
          go_quiet (first | (go_at_call 17; with_reducible exact Calls.quiet_of_same (gD _)) | (go_at_call 18; with_reducible exact Calls.quiet_of (gR _)))
          go_wp2
          go_ret
          refine ⟨?_, HX.out _⟩
          have h1 := HE.out (by trivial)
          simp
          omega
set_option maxHeartbeats 400000 in
set_option maxRecDepth 100000 in
theorem tp_out (n : Int) (hn : n < 1 ∨ 6 < n) (v u : Value) (W : World) (ht : TabAt W) :
    Calls Tryz.prog 3 #[.int .i64 n, v, u] W fun e w' => e = .returned (.bool true) ∧ Kept (fun j => j < W.heap.size) W w' := by
  have HA := Lib.hid (awake_any W ht (fun j => j < W.heap.size) (fun _ h => h))
  go_enter Tryz.func3, Tryz.ntmps3
  have hc : n < 1 ∨ (¬ n < 1 ∧ 6 < n) := by omega
  rcases hc with h1 | ⟨h1, h2⟩
  all_goals
    go_wp2_with fail
    refine HA.out.mono ?_
    rintro e w' ⟨rfl, hb⟩
    go_wp2
    go_ret
    exact ⟨rfl, hb⟩
set_option maxRecDepth 100000 in
theorem tp_walk (W : World) (ht : TabAt W) {H : Type} {enc : TypeId × Value → H} {base : Nat} {d : DataW H} {p : List MemPlace} (n : Int) (_hn : (Lit.int .i64 n).wf = true) (v : Value) (hok : Value.okWide Tryz.prog W .any base 22 v) (h : DataW.Trod enc Tryz.prog W 0 (fun _ => true) true 22 v d p) (u : Int) (hu : (Lit.int .u64 u).wf = true) :
    Calls Tryz.prog 3 #[.int .i64 n, v, .int .u64 u] W fun e w' => e = .returned (.bool true) ∧ Below W.heap.size W w' := by
  by_cases hn : n < 1 ∨ 6 < n
  · exact (tp_out n hn v _ W ht).mono fun e w' ⟨a, k⟩ => ⟨a, k.os, k.tape, k.output, k.size, k.block⟩
  · obtain ⟨a, rfl⟩ := A8.u64_wf hu
    obtain ⟨m, rfl⟩ : ∃ m : Nat, n = (m : Int) := ⟨n.toNat, by omega⟩
    rcases A8.acts_open W v hok h with ⟨ao, cap, rfl⟩ | ⟨b, off, len, cap, kd, ii, ni, si, rfl, ha, hb, _⟩
    · exact (tp_any m (by omega) a ao 0 cap W ht (Lib.hid (.inl rfl))).mono fun e w' ⟨x, k⟩ => ⟨x, k.os, k.tape, k.output, k.size, k.block⟩
    · exact (tp_any m (by omega) a (some ⟨b, off, none⟩) len cap W ht (Lib.hid (.inr ⟨b, off, kd, ii, ni, si, rfl, ha, hb⟩))).mono fun e w' ⟨x, k⟩ => ⟨x, k.os, k.tape, k.output, k.size, k.block⟩
end Go.Proofs.YtokgidhokcoadaaGreatDoor
