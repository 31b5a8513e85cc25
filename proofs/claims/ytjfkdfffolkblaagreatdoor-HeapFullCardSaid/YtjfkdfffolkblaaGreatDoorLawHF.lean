/-
  The statement's law: HeapFull.
-/
import Derived.Test.YtjfkdfffolkblaaGreatDoorGiveI
namespace Go.Proofs.YtjfkdfffolkblaaGreatDoor
open Go.RowKit
open UK (str BytesAt nth Only Row Box w32)
open SR (Recs rcd total)
open SL (hole add trim room live)
open Go.BigFrame
open A7 (ActsAt)
section
variable {E E0 : Nat → Prop} {W W' : World} {P D k pg root H c : Nat} {A : AP} {rp : List Nat} {L : Nat → List (List UInt8)} {X : List HT} {ao : Option Addr}
/-- within the law -/
def HF (W w : World) (P D T rb j : Nat) : Prop := ∃ ao c X A pg rp L k, FY W w P D T rb ao c X A k j ∧ A.Good ∧ A.op = none ∧ HI A.pgs 1 pg rp L X ∧ k ≤ 2 + 500000 * j
theorem HF.up {W w : World} {P D T rb j : Nat} (h : HF W w P D T rb j) : HF W w P D T rb (j + 1) := by
  obtain ⟨ao, c, X, A, pg, rp, L, k, ⟨a1, a2, a3, a4, a5, a6, a7, a8⟩, g, o, hi, hk⟩ := h
  exact ⟨ao, c, X, A, pg, rp, L, k, ⟨a1, a2, a3, a4, by omega, a6, a7, a8⟩, g, o, hi, by omega⟩
set_option maxHeartbeats 4000000 in
set_option maxRecDepth 100000 in
theorem hf_any (pages frames : Nat) (hp : 3 ≤ pages ∧ pages ≤ 25) (hf : 1 ≤ frames ∧ frames ≤ 5) (ao : Option Addr) (len cap : Nat) (W : World) (ht : TabAt W)
    (hv : Hid (len = 0 ∨ ∃ b off kd ii ni si, ao = some ⟨b, off, none⟩ ∧ ActsAt W b off len kd ii ni si ∧ b < W.heap.size)) :
    Calls Tryz.prog 4 #[.int .i64 pages, .int .i64 frames, .slice ao len cap] W fun e w' => e = .returned (.bool true) ∧ Kept (fun j => j < W.heap.size) W w' := by
  have HM := Lib.hid (hmade_any W ht (fun j => j < W.heap.size) (fun _ h => h) pages (by omega) (by omega) frames (by omega))
  have htl := ht.lt
  have hp1 : ¬ (pages : Int) < 3 := by omega
  have hp2 : ¬ (25 : Int) < (pages : Int) := by omega
  have hf1 : ¬ (frames : Int) < 1 := by omega
  have hf2 : ¬ (5 : Int) < (frames : Int) := by omega
  go_enter Tryz.func4, Tryz.ntmps4
  go_wp2_with fail
  refine HM.out.mono ?_
  rintro e w1 ⟨P, D, T, A, rfl, z1, s1, m1, hT, k1⟩
  have a1 : Below w1.heap.size w1 (w1.alloc (.cells (rcells P T none 0 0) 29)) := (Below.refl _ _).alloc (Nat.le_refl _) _
  have hs1 : (w1.alloc (.cells (rcells P T none 0 0) 29)).heap.size = w1.heap.size + 1 := by simp
  have x1 := Box.new w1 (rcells P T none 0 0) 29
  generalize hwa : w1.alloc (.cells (rcells P T none 0 0) 29) = w2 at a1 hs1 x1
  have HWA := Lib.hid hwa
  have HTW : Hid (T < w1.heap.size) := z1.box.lt
  have hzb := z1.box
  have G0 : HF W w2 P D T w1.heap.size 0 := by
    refine ⟨none, 0, [], A, 0, [], fun _ => [], 2, ⟨x1, z1.pz.wide a1 (fun j hj => ?_), hzb.below a1 hzb.lt, .inl ⟨rfl, rfl, rfl⟩, Nat.le_refl _, fun t h => absurd h List.not_mem_nil, k1.trans ((z1.pz.kept a1).mono (fun j hj => .inl hj)), fun b hb => by cases hb⟩, z1.good, s1, z1.hi, by omega⟩
    rcases hj with (hj | hj | hj) | hj
    · exact .inl (.inl hj)
    · exact .inl (.inr hj)
    · exact .inr (by omega)
    · exact absurd hj (by intro h; cases h)
  have HG0 := Lib.hid G0
  have hrb : W.heap.size ≤ w1.heap.size := k1.size
  clear HM z1 s1 m1 k1 a1 hs1 x1 hwa hzb G0 hp1 hp2 hf1 hf2
  go_wp2_with fail
  go_loopw [10] (fun iv wr => ∃ j : Nat, iv = .int .i64 j ∧ j ≤ 25 ∧ HF W wr P D T w1.heap.size j) (fun iv _ => 26 - (intOf iv).toNat)
  case atStart => exact ⟨0, rfl, by omega, by rw [HWA.out]; exact HG0.out⟩
  case round =>
    clear HG0 HWA
    obtain ⟨j, rfl, hj, hF⟩ := hrel
    by_cases hgo : j < len ∧ j < 25
    · obtain ⟨hlt, hj20⟩ := hgo
      obtain ⟨ao', c, X, A5, pg, rp, L, k, hy, hg, hop, hi, hk⟩ := hF
      rcases hv.out with h0 | ⟨b, off, kd, ii, ni, si, rfl, ha, hbW⟩
      · omega
      · have hcell : ∀ i v, W.cell? ⟨b, i, none⟩ = some v → wr.cell? ⟨b, i, none⟩ = some v := fun i v hc => (World.cell?_of_block (a := ⟨b, i, none⟩) (hy.kept.block b hbW)).trans hc
        have c0 := hcell _ _ (ha.c0 j hlt)
        have c1 := hcell _ _ (ha.c1 j hlt)
        have c2 := hcell _ _ (ha.c2 j hlt)
        have c3 := hcell _ _ (ha.c3 j hlt)
        have i1 : (j : Int) < (len : Int) := by omega
        have i2 : (j : Int) < 25 := by omega
        have HA := Lib.hid (And.intro (ha.c0 j hlt) (And.intro (ha.c1 j hlt) (And.intro (ha.c2 j hlt) (ha.c3 j hlt))))
        generalize kd j = kj at c0 HA
        generalize ii j = ij at c1 HA
        generalize ni j = nj at c2 HA
        generalize si j = sj at c3 HA
        by_cases hkd : kj = 1 ∨ kj = 2 ∨ kj = 3
        · have HBG := Lib.hid (pz_begin hy.pz hop)
          have HY := Lib.hid (And.intro hy (And.intro hg (And.intro hop (And.intro hi hk))))
          have HDF := Lib.hid (fun (w3 : World) (hy3 : FY W w3 P D T w1.heap.size ao' c X A5.begun k j) => And.intro (does_lawF hy3 hg hop hi hj20 (by omega) kj ij nj sj hkd) (does_lateF hy3 hg hop hi hj20 (by omega) kj ij nj sj hkd))
          have hbr : b < wr.heap.size := Nat.lt_of_lt_of_le hbW hy.kept.size
          clear hy hg hop hi hk hcell ha
          rcases hkd with rfl | rfl | rfl
          all_goals
            go_wp2_with fail
            refine HBG.out.mono ?_
            rintro e w3 ⟨rfl, p3, k3⟩
            obtain ⟨hy, hg, hop, hi, hk⟩ := HY.out
            have hy3 := hy.step p3 k3
            have d0 := uk_cell hy3.kept hbW HA.out.1
            have d1 := uk_cell hy3.kept hbW HA.out.2.1
            have d2 := uk_cell hy3.kept hbW HA.out.2.2.1
            have d3 := uk_cell hy3.kept hbW HA.out.2.2.2
            have hbr3 : b < w3.heap.size := Nat.lt_of_lt_of_le hbW hy3.kept.size
            have hrw : w1.heap.size < w3.heap.size := hy3.rbx.lt
            have hTw : T < w3.heap.size := hy3.hb.lt
            have hTr : T ≠ w1.heap.size := by have := HTW.out; omega
            have HNE : Hid (T ≠ w1.heap.size ∧ T ≠ w3.heap.size ∧ w1.heap.size ≠ w3.heap.size ∧ W.heap.size ≤ w3.heap.size) := ⟨hTr, by omega, by omega, hy3.kept.size⟩
            have HDO := Lib.hid (HDF.out w3 hy3).1
            have HDP := Lib.hid (HDF.out w3 hy3).2
            have r0 : w3.cell? ⟨w1.heap.size, 0, none⟩ = some (.pointer (some ⟨P, 0, none⟩)) := hy3.rbx.cell 0 _ rfl
            have r1 : w3.cell? ⟨w1.heap.size, 1, none⟩ = some (.pointer (some ⟨T, 0, none⟩)) := hy3.rbx.cell 1 _ rfl
            have r2 : w3.cell? ⟨w1.heap.size, 2, none⟩ = some (.slice ao' X.length c) := hy3.rbx.cell 2 _ rfl
            have r3 : w3.cell? ⟨w1.heap.size, 3, none⟩ = some (.slice none 0 0) := hy3.rbx.cell 3 _ rfl
            have r4 : w3.cell? ⟨w1.heap.size, 4, none⟩ = some (.bool false) := hy3.rbx.cell 4 _ rfl
            have HG := Lib.hid (And.intro hg (And.intro hop (And.intro hi (And.intro (fun m (hm : A5.Has m) => hy.pz.clen hm) hk))))
            clear HBG HDF p3 k3 c0 c1 c2 c3 HY hy3 hg hop hi hTr hTw hbr hy
            go_wp2_with fail
            go_cut [11, 12] (fun qv ov wx => ∃ (q : Nat) (okv : Bool), qv = .pointer (some ⟨q, 0, none⟩) ∧ ov = .bool okv ∧ w3.heap.size ≤ q ∧ ∃ ao2 n2 c2, Box wx q (rcells P T ao2 n2 c2) ∧ AfterD W wx P D T w1.heap.size q ao' c X A5 k j ao2 n2 c2 okv)
            case first =>
              go_region_with (first
                | (go_at_call 9; refine HDO.out.mono ?_; rintro e w4 ⟨ao2, n2, c2, okv, rfl, zb, gx⟩; have zf := zb.free; have z0 : w4.cell? ⟨w3.heap.size, 0, none⟩ = some (.pointer none) := zb.cell 0 _ rfl; have z1 : w4.cell? ⟨w3.heap.size, 1, none⟩ = some (.pointer none) := zb.cell 1 _ rfl; have z2 : w4.cell? ⟨w3.heap.size, 2, none⟩ = some (.slice none 0 0) := zb.cell 2 _ rfl; have z3 : w4.cell? ⟨w3.heap.size, 3, none⟩ = some (.slice none 0 0) := zb.cell 3 _ rfl; have z4 : w4.cell? ⟨w3.heap.size, 4, none⟩ = some (.bool false) := zb.cell 4 _ rfl; replace zb := Lib.hid zb; replace gx := Lib.hid gx)
                | (go_at_call 9; refine HDP.out.mono ?_; rintro e w4 ⟨ao2, n2, c2, okv, rfl, hs3, gx⟩; replace gx := Lib.hid gx))
              all_goals
                go_wp2_with fail
                go_meet
                case rel =>
                  obtain ⟨n1, n2, n3, n4⟩ := HNE.out
                  first
                    | exact ⟨_, _, rfl, rfl, Nat.le_refl _, _, _, _, zb.out.fill5 _ _ _ _ _, gx.out.fill (Only.fill5 _ _ _ _ _ _ _) n3 n2 n4 htl⟩
                    | exact ⟨_, _, rfl, rfl, hs3, _, _, _, Box.new _ _ _, gx.out _ _⟩
            case rest =>
              obtain ⟨q, okv, rfl, rfl, hq, ao2, n2, e2, xb, gd⟩ := hcut
              clear r0 r1 r2 r3 r4 d0 d1 d2 d3 hbr3 HDO HDP
              obtain ⟨nn1, nn2, nn3, nn4⟩ := HNE.out
              rcases gd with ⟨rfl, X2, A2, pg2, rp2, L2, rfl, fx, ho2, hg2, hi2⟩ | ⟨rfl, rfl, rfl, rfl, B, fx, hsx, hbx⟩
              · have zf := xb.free
                have q0 : wc.cell? ⟨q, 0, none⟩ = some (.pointer (some ⟨P, 0, none⟩)) := xb.cell 0 _ rfl
                have q1 : wc.cell? ⟨q, 1, none⟩ = some (.pointer (some ⟨T, 0, none⟩)) := xb.cell 1 _ rfl
                have q2 : wc.cell? ⟨q, 2, none⟩ = some (.slice ao2 X2.length e2) := xb.cell 2 _ rfl
                have q3 : wc.cell? ⟨q, 3, none⟩ = some (.slice none 0 0) := xb.cell 3 _ rfl
                have q4 : wc.cell? ⟨q, 4, none⟩ = some (.bool false) := xb.cell 4 _ rfl
                obtain ⟨ao0, n0, d0, rb0⟩ := fx.rbx
                have rf := rb0.free
                have s0 : wc.cell? ⟨w1.heap.size, 0, none⟩ = some (.pointer (some ⟨P, 0, none⟩)) := rb0.cell 0 _ rfl
                have s1 : wc.cell? ⟨w1.heap.size, 1, none⟩ = some (.pointer (some ⟨T, 0, none⟩)) := rb0.cell 1 _ rfl
                have s2 : wc.cell? ⟨w1.heap.size, 2, none⟩ = some (.slice ao0 n0 d0) := rb0.cell 2 _ rfl
                have s3 : wc.cell? ⟨w1.heap.size, 3, none⟩ = some (.slice none 0 0) := rb0.cell 3 _ rfl
                have s4 : wc.cell? ⟨w1.heap.size, 4, none⟩ = some (.bool false) := rb0.cell 4 _ rfl
                have hb5 := rb0.fill5 (.pointer (some ⟨P, 0, none⟩)) (.pointer (some ⟨T, 0, none⟩)) (.slice ao2 X2.length e2) (.slice none 0 0) (.bool false)
                have fy := fx.done (Only.fill5 _ _ _ _ _ _ _) hb5 nn1 hrb htl
                obtain ⟨o2, ho2'⟩ := Option.ne_none_iff_exists'.1 ho2
                have HCM := Lib.hid (pz_commit fy.pz ho2' hg2 (by have := HG.out.2.2.2.2; omega))
                have HFY := Lib.hid (And.intro fy hi2)
                clear fx xb rb0 hb5 fy ho2 ho2' hg2 hi2
                go_wp2_with fail
                refine HCM.out.mono ?_
                rintro e w5 ⟨rfl, C, p5, hd, k5⟩
                have fy5 := HFY.out.1.step p5 k5
                have hi5 := HFY.out.2.same (B := C.pgs) hd.has (fun p _ => hd.c p)
                have HSH := Lib.hid (shows_any (fy5.hz hd.good hi5 (by omega)) fy5.tx (fun b hb => .inr hb) (by have := fy5.len; omega) fy5.txs (by have := HG.out.2.2.2.2; omega))
                have t0 : w5.cell? ⟨w1.heap.size, 0, none⟩ = some (.pointer (some ⟨P, 0, none⟩)) := fy5.rbx.cell 0 _ rfl
                have t1 : w5.cell? ⟨w1.heap.size, 1, none⟩ = some (.pointer (some ⟨T, 0, none⟩)) := fy5.rbx.cell 1 _ rfl
                have t2 : w5.cell? ⟨w1.heap.size, 2, none⟩ = some (.slice ao2 X2.length e2) := fy5.rbx.cell 2 _ rfl
                have t3 : w5.cell? ⟨w1.heap.size, 3, none⟩ = some (.slice none 0 0) := fy5.rbx.cell 3 _ rfl
                have t4 : w5.cell? ⟨w1.heap.size, 4, none⟩ = some (.bool false) := fy5.rbx.cell 4 _ rfl
                have H5 := Lib.hid (And.intro fy5 (And.intro hi5 hd))
                clear HCM HFY p5 hd k5 fy5 hi5 zf rf q0 q1 q2 q3 q4 s0 s1 s2 s3 s4
                go_wp2_with fail
                refine HSH.out.mono ?_
                rintro e w6 ⟨rfl, p6, k6⟩
                obtain ⟨fy5, hi5, hd⟩ := H5.out
                have HR : Hid (HF W w6 P D T w1.heap.size (j + 1)) := ⟨_, _, _, _, _, _, _, _, fy5.step p6 k6, hd.good, hd.op, hi5, by have := HG.out.2.2.2.2; omega⟩
                clear HSH H5 fy5 hi5 hd p6 k6 t0 t1 t2 t3 t4
                go_wp2_with fail
                go_roundw
                case rel => exact ⟨j + 1, by go_num, by omega, HR.out⟩
                case measure => simp [intOf]; omega
              · have fy := fx.same hbx
                obtain ⟨o2, hs2⟩ := hsx
                have HCM := Lib.hid (pz_undo fy.pz hs2 HG.out.2.2.2.1 (by have := HG.out.2.2.2.2; omega))
                have HFY := Lib.hid fy
                clear fx xb fy hs2 hbx
                go_wp2_with fail
                refine HCM.out.mono ?_
                rintro e w5 ⟨rfl, C, p5, hd, k5⟩
                have fy5 := HFY.out.step p5 k5
                have hi5 := HG.out.2.2.1.same (B := C.pgs) hd.has hd.c
                have HSH := Lib.hid (shows_any (fy5.hz hd.good hi5 (by omega)) fy5.tx (fun b hb => .inr hb) (by have := fy5.len; omega) fy5.txs (by have := HG.out.2.2.2.2; omega))
                have t0 : w5.cell? ⟨w1.heap.size, 0, none⟩ = some (.pointer (some ⟨P, 0, none⟩)) := fy5.rbx.cell 0 _ rfl
                have t1 : w5.cell? ⟨w1.heap.size, 1, none⟩ = some (.pointer (some ⟨T, 0, none⟩)) := fy5.rbx.cell 1 _ rfl
                have t2 : w5.cell? ⟨w1.heap.size, 2, none⟩ = some (.slice ao2 X.length e2) := fy5.rbx.cell 2 _ rfl
                have t3 : w5.cell? ⟨w1.heap.size, 3, none⟩ = some (.slice none 0 0) := fy5.rbx.cell 3 _ rfl
                have t4 : w5.cell? ⟨w1.heap.size, 4, none⟩ = some (.bool false) := fy5.rbx.cell 4 _ rfl
                have H5 := Lib.hid (And.intro fy5 (And.intro hi5 hd))
                clear HCM HFY p5 hd k5 fy5 hi5
                go_wp2_with fail
                refine HSH.out.mono ?_
                rintro e w6 ⟨rfl, p6, k6⟩
                obtain ⟨fy5, hi5, hd⟩ := H5.out
                have HR : Hid (HF W w6 P D T w1.heap.size (j + 1)) := ⟨_, _, _, _, _, _, _, _, fy5.step p6 k6, hd.good, hd.op, hi5, by have := HG.out.2.2.2.2; omega⟩
                clear HSH H5 fy5 hi5 hd p6 k6 t0 t1 t2 t3 t4
                go_wp2_with fail
                go_roundw
                case rel => exact ⟨j + 1, by go_num, by omega, HR.out⟩
                case measure => simp [intOf]; omega
        · have HQ : Hid (HF W wr P D T w1.heap.size (j + 1)) := HF.up ⟨ao', c, X, A5, pg, rp, L, k, hy, hg, hop, hi, hk⟩
          have n1 : kj < 1 ∨ (¬ kj < 1 ∧ 3 < kj) := by omega
          clear hy hg hop hi hkd c1 c2 c3 hcell ha HA
          rcases n1 with n1 | ⟨n1, n2⟩
          all_goals
            go_wp2
            go_roundw
            case rel => exact ⟨j + 1, by go_num, by omega, HQ.out⟩
            case measure => simp [intOf]; omega
    · obtain ⟨ao2, c2, X2, A2, pg2, rp2, L2, k2, hy, _, _, _, _⟩ := hF
      have HA := Lib.hid (hawake_any wr hy.pz.tab (fun b => b < W.heap.size) (fun b hb => Nat.lt_of_lt_of_le hb hy.kept.size))
      have HK := Lib.hid hy.kept
      clear hy
      have hng : ¬ (j : Int) < (len : Int) ∨ ((j : Int) < (len : Int) ∧ ¬ (j : Int) < 25) := by omega
      rcases hng with i1 | ⟨i1, i2⟩
      all_goals
        go_wp2_with fail
        refine HA.out.mono ?_
        rintro e w7 ⟨rfl, k7⟩
        have HK7 := Lib.hid (HK.out.trans k7)
        clear HA HK k7
        go_wp2
        go_ret
        exact ⟨rfl, HK7.out⟩
set_option maxRecDepth 100000 in
theorem hf_out (n m : Int) (hb : n < 3 ∨ (¬ n < 3 ∧ 25 < n) ∨ (¬ n < 3 ∧ ¬ 25 < n ∧ m < 1) ∨ (¬ n < 3 ∧ ¬ 25 < n ∧ ¬ m < 1 ∧ 5 < m)) (v : Value) (W : World) (ht : TabAt W) :
    Calls Tryz.prog 4 #[.int .i64 n, .int .i64 m, v] W fun e w' => e = .returned (.bool true) ∧ Kept (fun j => j < W.heap.size) W w' := by
  have HA := Lib.hid (hawake_any W ht (fun b => b < W.heap.size) (fun _ h => h))
  rcases hb with h1 | ⟨h1, h2⟩ | ⟨h1, h2, h3⟩ | ⟨h1, h2, h3, h4⟩
  all_goals
    go_enter Tryz.func4, Tryz.ntmps4
    go_wp2_with fail
    refine HA.out.mono ?_
    rintro e w1 ⟨rfl, k1⟩
    have K1 := Lib.hid k1
    clear HA k1
    go_wp2
    go_ret
    exact ⟨rfl, K1.out⟩
end
set_option maxRecDepth 100000 in
theorem hf_walk (W : World) (ht : TabAt W) {H : Type} {enc : TypeId × Value → H} {base : Nat} {d : DataW H} {p : List MemPlace} (n : Int) (_hn : (Lit.int .i64 n).wf = true) (m : Int) (_hm : (Lit.int .i64 m).wf = true) (v : Value) (hok : Value.okWide Tryz.prog W .any base 22 v) (h : DataW.Trod enc Tryz.prog W 0 (fun _ => true) true 22 v d p) :
    Calls Tryz.prog 4 #[.int .i64 n, .int .i64 m, v] W fun e w' => e = .returned (.bool true) ∧ Below W.heap.size W w' := by
  by_cases hin : 3 ≤ n ∧ n ≤ 25 ∧ 1 ≤ m ∧ m ≤ 5
  · obtain ⟨a, rfl⟩ : ∃ a : Nat, n = a := ⟨n.toNat, by omega⟩
    obtain ⟨b, rfl⟩ : ∃ b : Nat, m = b := ⟨m.toNat, by omega⟩
    rcases A7.acts_open W v hok h with ⟨ao, cap, rfl⟩ | ⟨g, off, len, cap, kd, ii, ni, si, rfl, ha, hb, _⟩
    · exact (hf_any a b (by omega) (by omega) ao 0 cap W ht (Lib.hid (.inl rfl))).mono fun e w' ⟨x, k⟩ => ⟨x, k.os, k.tape, k.output, k.size, k.block⟩
    · exact (hf_any a b (by omega) (by omega) (some ⟨g, off, none⟩) len cap W ht (Lib.hid (.inr ⟨g, off, kd, ii, ni, si, rfl, ha, hb⟩))).mono fun e w' ⟨x, k⟩ => ⟨x, k.os, k.tape, k.output, k.size, k.block⟩
  · exact (hf_out n m (by omega) v W ht).mono fun e w' ⟨x, k⟩ => ⟨x, k.os, k.tape, k.output, k.size, k.block⟩
end Go.Proofs.YtjfkdfffolkblaaGreatDoor
