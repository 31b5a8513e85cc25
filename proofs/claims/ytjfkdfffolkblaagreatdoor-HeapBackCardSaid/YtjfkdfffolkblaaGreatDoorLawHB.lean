/-
  The statement's law: HeapBack.
-/
import Derived.Test.YtjfkdfffolkblaaGreatDoorGiveG
namespace Go.Proofs.YtjfkdfffolkblaaGreatDoor
open Go.RowKit
open UK (str BytesAt nth Only Row Box w32)
open SR (Recs rcd total)
open SL (hole add trim room live)
open Go.BigFrame
open A7 (ActsAt)
section
variable {E E0 : Nat → Prop} {W W' : World} {P D k pg root H c : Nat} {A : AP} {rp : List Nat} {L : Nat → List (List UInt8)} {X : List HT} {ao : Option Addr}
theorem hb_tail {W w2 w5 w6 : World} {P P2 D Xd T rb k c pg : Nat} {A B : AP} {rp : List Nat} {L : Nat → List (List UInt8)} {X : List HT} {ao : Option Addr} (hx : Box w2 rb (rcells P T ao X.length c)) (hz : HZ (fun b => (b < W.heap.size ∨ b = T ∨ b = rb) ∨ slB ao b) w2 P D T k A 1 pg rp L X) (htx : TX w2 ao c X) (hop : A.op = none) (hlen : X.length ≤ 20) (htxs : ∀ t, t ∈ X → t.s.length ≤ 3000) (hkk : Kept (fun b => b < W.heap.size) W w2)
    (b25 : Below w2.heap.size w2 w5) (p5 : PZ (fun j => j < w2.heap.size) w5 P2 Xd B 0) (hn : Anew A B) (k6 : Kept (fun b => b < w5.heap.size) w5.drew w6) :
    w6.cell? ⟨rb, 2, none⟩ = some (.slice ao X.length c) ∧ rb < w6.heap.size ∧ Calls Tryz.prog 24 #[.pointer (some ⟨T, 0, none⟩)] w6 (fun e w' => e = .returned (.int .i64 1) ∧ w' = w6) ∧
      Calls Tryz.prog 18 #[.agg (rcells P2 w6.heap.size ao X.length c)] (w6.alloc (.cells (hcells P2 1) 83)) (fun e w' => e = .returned (.int .i64 0) ∧ Kept (fun b => b < W.heap.size) W w') := by
  have b56 : Below w5.heap.size w5 w6 := (Below.refl _ w5).drew.trans ⟨k6.os, k6.tape, k6.output, k6.size, k6.block⟩
  have b26 : Below w2.heap.size w2 w6 := b25.trans (b56.mono b25.size)
  have x6 := hx.next b26
  have t6 := htx.next b26
  have p6 := p5.next b56
  have hs26 := b26.size
  have a7 : Below w6.heap.size w6 (w6.alloc (.cells (hcells P2 1) 83)) := (Below.refl _ _).alloc (Nat.le_refl _) _
  have s7 : (w6.alloc (.cells (hcells P2 1) 83)).heap.size = w6.heap.size + 1 := by simp
  have x7 := Box.new w6 (hcells P2 1) 83
  generalize w6.alloc (.cells (hcells P2 1) 83) = w7 at a7 s7 x7 ⊢
  have p7 := p6.wide a7 (T := fun j => j < w2.heap.size ∨ j = w6.heap.size) (fun j hj => by
    rcases hj with hj | hj
    · exact .inl hj
    · exact .inr (by omega))
  have hz7 : HZ (fun j => j < w2.heap.size ∨ j = w6.heap.size) w7 P2 Xd w6.heap.size 0 B 1 pg rp L X := ⟨p7, hn.good hz.good, x7, .inr rfl, hz.hi.same (B := B.pgs) (fun p => hn.has hop p) (fun p hp => hn.same hp), hz.few⟩
  refine ⟨x6.cell 2 _ rfl, x6.lt, heapRoot_any (hz.box.next b26), ?_⟩
  refine (shows_any hz7 (t6.next a7) (fun b hb => .inl (htx.lt hb)) (by omega) htxs (by omega)).mono ?_
  rintro e w' ⟨he, _, k'⟩
  have h1 : Kept (fun b => b < W.heap.size) w2 w6 := ⟨b26.os, b26.tape, b26.output, b26.size, fun j hj => b26.block j (Nat.lt_of_lt_of_le hj hkk.size)⟩
  have h2 : Kept (fun b => b < W.heap.size) w6 w7 := ⟨a7.os, a7.tape, a7.output, a7.size, fun j hj => a7.block j (Nat.lt_of_lt_of_le hj (Nat.le_trans hkk.size hs26))⟩
  exact ⟨he, ((hkk.trans h1).trans h2).trans (k'.mono (fun b hb => .inl (Nat.lt_of_lt_of_le hb hkk.size)))⟩
set_option maxHeartbeats 4000000 in
set_option maxRecDepth 100000 in
theorem hb_any (ao : Option Addr) (len cap : Nat) (W : World) (ht : TabAt W)
    (hv : Hid (len = 0 ∨ ∃ b off kd ii ni si, ao = some ⟨b, off, none⟩ ∧ ActsAt W b off len kd ii ni si ∧ b < W.heap.size)) :
    Calls Tryz.prog 5 #[.slice ao len cap] W fun e w' => e = .returned (.bool true) ∧ Kept (fun j => j < W.heap.size) W w' := by
  have HM := Lib.hid (hmade_any W ht (fun j => j < W.heap.size) (fun _ h => h) 500 (by omega) (by omega) 4 (by omega))
  have htl := ht.lt
  go_enter Tryz.func5, Tryz.ntmps5
  go_wp2_with fail
  refine HM.out.mono ?_
  rintro e w1 ⟨P, D, T, A, rfl, z1, s1, m1, hT, k1⟩
  have a1 : Below w1.heap.size w1 (w1.alloc (.cells (rcells P T none 0 0) 29)) := (Below.refl _ _).alloc (Nat.le_refl _) _
  have hs1 : (w1.alloc (.cells (rcells P T none 0 0) 29)).heap.size = w1.heap.size + 1 := by simp
  have x1 := Box.new w1 (rcells P T none 0 0) 29
  generalize hwa : w1.alloc (.cells (rcells P T none 0 0) 29) = w2 at a1 hs1 x1
  have HWA := Lib.hid hwa
  have HTW : Hid (T < w1.heap.size) := z1.box.lt
  have hzb := z1.box
  have G0 : HG W w2 P D T w1.heap.size 0 := by
    refine ⟨none, 0, A, 0, [], fun _ => [], [], 2, x1, ⟨z1.pz.wide a1 (fun j hj => ?_), z1.good, hzb.below a1 hzb.lt, .inl (.inr (.inl rfl)), z1.hi, z1.few⟩, .inl ⟨rfl, rfl, rfl⟩, s1, m1, Nat.le_refl _, fun t h => absurd h List.not_mem_nil, by omega, k1.trans ((z1.pz.kept a1).mono (fun j hj => .inl hj)), fun b hb => by cases hb⟩
    rcases hj with (hj | hj | hj) | hj
    · exact .inl (.inl hj)
    · exact .inl (.inr hj)
    · exact .inr (by omega)
    · exact absurd hj (by intro h; cases h)
  have HG0 := Lib.hid G0
  have hrb : W.heap.size ≤ w1.heap.size := k1.size
  clear HM z1 s1 m1 k1 a1 hs1 x1 hwa hzb G0
  go_wp2_with fail
  go_loopw [6] (fun iv wr => ∃ j : Nat, iv = .int .i64 j ∧ j ≤ 20 ∧ HG W wr P D T w1.heap.size j) (fun iv _ => 21 - (intOf iv).toNat)
  case atStart => exact ⟨0, rfl, by omega, by rw [HWA.out]; exact HG0.out⟩
  case round =>
    clear HG0 HWA
    obtain ⟨j, rfl, hj, ao', c, A5, pg, rp, L, X, k, hx, hz, htx, hop, hmost, hlen, htxs, hk, hkk, hfar⟩ := hrel
    by_cases hgo : j < len ∧ j < 20
    · obtain ⟨hlt, hj20⟩ := hgo
      rcases hv.out with h0 | ⟨b, off, kd, ii, ni, si, rfl, ha, hbW⟩
      · omega
      · have hcell : ∀ i v, W.cell? ⟨b, i, none⟩ = some v → wr.cell? ⟨b, i, none⟩ = some v := fun i v hc => (World.cell?_of_block (a := ⟨b, i, none⟩) (hkk.block b hbW)).trans hc
        have c0 := hcell _ _ (ha.c0 j hlt)
        have c1 := hcell _ _ (ha.c1 j hlt)
        have c2 := hcell _ _ (ha.c2 j hlt)
        have c3 := hcell _ _ (ha.c3 j hlt)
        have i1 : (j : Int) < (len : Int) := by omega
        have i2 : (j : Int) < 20 := by omega
        generalize kd j = kj at c0
        generalize ii j = ij at c1
        generalize ni j = nj at c2
        generalize si j = sj at c3
        by_cases hkd : kj = 1 ∨ kj = 2 ∨ kj = 3
        · have HDO := Lib.hid (does_law3 hx hz htx hop hmost hlen htxs hk hkk hfar hj20 kj ij nj sj hkd)
          have HDP := Lib.hid (does_late3 hx hz htx hop hmost hlen htxs hk hkk hfar hj20 kj ij nj sj hkd)
          have hTr : T ≠ w1.heap.size := by have := hT; have := HTW.out; omega
          have hrw : w1.heap.size < wr.heap.size := hx.lt
          have hTw : T < wr.heap.size := hz.box.lt
          have HNE : Hid (T ≠ w1.heap.size ∧ T ≠ wr.heap.size ∧ w1.heap.size ≠ wr.heap.size ∧ W.heap.size ≤ wr.heap.size) := ⟨hTr, by omega, by omega, hkk.size⟩
          have r0 : wr.cell? ⟨w1.heap.size, 0, none⟩ = some (.pointer (some ⟨P, 0, none⟩)) := hx.cell 0 _ rfl
          have r1 : wr.cell? ⟨w1.heap.size, 1, none⟩ = some (.pointer (some ⟨T, 0, none⟩)) := hx.cell 1 _ rfl
          have r2 : wr.cell? ⟨w1.heap.size, 2, none⟩ = some (.slice ao' X.length c) := hx.cell 2 _ rfl
          have r3 : wr.cell? ⟨w1.heap.size, 3, none⟩ = some (.slice none 0 0) := hx.cell 3 _ rfl
          have r4 : wr.cell? ⟨w1.heap.size, 4, none⟩ = some (.bool false) := hx.cell 4 _ rfl
          have hbr : b < wr.heap.size := Nat.lt_of_lt_of_le hbW hkk.size
          clear hx hz htx htxs hkk hcell ha hop hmost hfar hTr hTw
          rcases hkd with rfl | rfl | rfl
          all_goals
            go_upto_region 9 with (fail)
            go_cut [7, 8] (fun qv ov wx => ∃ q : Nat, qv = .pointer (some ⟨q, 0, none⟩) ∧ ov = .bool true ∧ wr.heap.size ≤ q ∧ ∃ ao2 c2 X2, Box wx q (rcells P T ao2 X2.length c2) ∧ GX W wx P D T w1.heap.size q (j + 1) ao2 c2 X2)
            case first =>
              go_region_with (first
                | (go_at_call 9; refine HDO.out.mono ?_; rintro e w3 ⟨ao2, c2, X2, rfl, zb, gx⟩; have zf := zb.free; have z0 : w3.cell? ⟨wr.heap.size, 0, none⟩ = some (.pointer none) := zb.cell 0 _ rfl; have z1 : w3.cell? ⟨wr.heap.size, 1, none⟩ = some (.pointer none) := zb.cell 1 _ rfl; have z2 : w3.cell? ⟨wr.heap.size, 2, none⟩ = some (.slice none 0 0) := zb.cell 2 _ rfl; have z3 : w3.cell? ⟨wr.heap.size, 3, none⟩ = some (.slice none 0 0) := zb.cell 3 _ rfl; have z4 : w3.cell? ⟨wr.heap.size, 4, none⟩ = some (.bool false) := zb.cell 4 _ rfl; replace zb := Lib.hid zb; replace gx := Lib.hid gx)
                | (go_at_call 9; refine HDP.out.mono ?_; rintro e w3 ⟨ao2, c2, X2, rfl, hs3, gx⟩; replace gx := Lib.hid gx))
              all_goals
                go_wp2_with fail
                go_meet
                case rel =>
                  obtain ⟨n1, n2, n3, n4⟩ := HNE.out
                  first
                    | exact ⟨_, rfl, rfl, Nat.le_refl _, ao2, c2, X2, zb.out.fill5 _ _ _ _ _, gx.out.fill (Only.fill5 _ _ _ _ _ _ _) n3 n2 n4 htl⟩
                    | exact ⟨_, rfl, rfl, hs3, ao2, c2, X2, Box.new _ _ _, gx.out _ _⟩
            case rest =>
              obtain ⟨q, rfl, rfl, hq, ao2, dd, X2, xb, gx⟩ := hcut
              have zf := xb.free
              have q0 : wc.cell? ⟨q, 0, none⟩ = some (.pointer (some ⟨P, 0, none⟩)) := xb.cell 0 _ rfl
              have q1 : wc.cell? ⟨q, 1, none⟩ = some (.pointer (some ⟨T, 0, none⟩)) := xb.cell 1 _ rfl
              have q2 : wc.cell? ⟨q, 2, none⟩ = some (.slice ao2 X2.length dd) := xb.cell 2 _ rfl
              have q3 : wc.cell? ⟨q, 3, none⟩ = some (.slice none 0 0) := xb.cell 3 _ rfl
              have q4 : wc.cell? ⟨q, 4, none⟩ = some (.bool false) := xb.cell 4 _ rfl
              have GXH := Lib.hid gx
              obtain ⟨ao0, n0, d0, rb0⟩ := gx.rbx
              have rf := rb0.free
              have s0 : wc.cell? ⟨w1.heap.size, 0, none⟩ = some (.pointer (some ⟨P, 0, none⟩)) := rb0.cell 0 _ rfl
              have s1 : wc.cell? ⟨w1.heap.size, 1, none⟩ = some (.pointer (some ⟨T, 0, none⟩)) := rb0.cell 1 _ rfl
              have s2 : wc.cell? ⟨w1.heap.size, 2, none⟩ = some (.slice ao0 n0 d0) := rb0.cell 2 _ rfl
              have s3 : wc.cell? ⟨w1.heap.size, 3, none⟩ = some (.slice none 0 0) := rb0.cell 3 _ rfl
              have s4 : wc.cell? ⟨w1.heap.size, 4, none⟩ = some (.bool false) := rb0.cell 4 _ rfl
              have HF5 := Lib.hid (rb0.fill5 (.pointer (some ⟨P, 0, none⟩)) (.pointer (some ⟨T, 0, none⟩)) (.slice ao2 X2.length dd) (.slice none 0 0) (.bool false))
              clear gx xb rb0 HDO HDP c0 c1 c2 c3 r0 r1 r2 r3 r4 hbr hrw
              go_wp2_with fail
              go_roundw
              case rel =>
                obtain ⟨n1, n2, n3, n4⟩ := HNE.out
                exact ⟨j + 1, by go_num, by omega, GXH.out.done (Only.fill5 _ _ _ _ _ _ _) HF5.out n1 hrb htl⟩
              case measure => simp [intOf]; omega
        · have HQ : Hid (HG W wr P D T w1.heap.size (j + 1)) := ⟨ao', c, A5, pg, rp, L, X, k, hx, hz, htx, hop, hmost, by omega, htxs, by omega, hkk, hfar⟩
          have n1 : kj < 1 ∨ (1 ≤ kj ∧ 3 < kj) := by omega
          clear hx hz htx htxs hkk hkd c1 c2 c3 hcell ha
          rcases n1 with n1 | ⟨n1, n2⟩
          all_goals
            go_wp2
            go_roundw
            case rel => exact ⟨j + 1, by go_num, by omega, HQ.out⟩
            case measure => simp [intOf]; omega
    · have HQ : Hid (HG W wr P D T w1.heap.size 20) := ⟨ao', c, A5, pg, rp, L, X, k, hx, hz, htx, hop, hmost, by omega, htxs, by omega, hkk, hfar⟩
      clear hx hz htx htxs hkk hop hmost hlen hk hfar
      have hng : ¬ (j : Int) < (len : Int) ∨ ((j : Int) < (len : Int) ∧ ¬ (j : Int) < 20) := by omega
      obtain ⟨ao2, c2, A2, pg2, rp2, L2, X2, k2, hx, hz, htx, hop, hmost, hlen, htxs, hk, hkk, hfar⟩ := HQ.out
      have r2 : wr.cell? ⟨w1.heap.size, 2, none⟩ = some (.slice ao2 X2.length c2) := hx.cell 2 _ rfl
      have HF := Lib.hid (pz_flush hz.pz (by omega))
      have HQ2 := Lib.hid (And.intro hx (And.intro hz (And.intro htx (And.intro hop (And.intro hmost (And.intro hlen (And.intro htxs hkk)))))))
      clear hx hz htx hop hmost htxs hk hkk hfar HQ hlen
      rcases hng with i1 | ⟨i1, i2⟩
      all_goals
        go_wp2_with fail
        refine HF.out.mono ?_
        rintro e w2 ⟨rfl, zf, k2⟩
        obtain ⟨hx, hz, htx, hop, hmost, hlen, htxs, hkk⟩ := HQ2.out
        obtain ⟨x, hB, hO⟩ := fz_bytes zf 500 (by rw [hmost]; decide)
        have HDk := Lib.hid (pz_disk zf.pz)
        have HB := Lib.hid hB
        have HO := Lib.hid (hO w2 zf.pz.tab)
        have H2 := Lib.hid (And.intro (hx.of_block (k2.block _ (.inl (.inr (.inr rfl))))) (And.intro (hz.step zf.pz k2) (And.intro (htx.of_block k2.size (fun b hb => k2.block b (.inr hb))) (hkk.trans (k2.mono (fun b hb => .inl (.inl hb)))))))
        have H0 := Lib.hid (And.intro hop (And.intro hmost (And.intro hlen htxs)))
        clear hB hO zf k2 hx hz htx hop hmost hlen htxs hkk HF HQ2
        go_wp2_with fail
        refine HDk.out.mono ?_
        rintro e w3 ⟨rfl, hw3⟩
        subst hw3
        go_wp2_with fail
        refine HB.out.mono ?_
        rintro e w3 ⟨rfl, hw3⟩
        subst hw3
        go_wp2_with fail
        refine HO.out.mono ?_
        rintro e w4 ⟨Xd, rfl, dz, b4⟩
        have HN := Lib.hid (pz_new dz 2 (by omega) 1)
        have B4 := Lib.hid b4
        clear HDk HB HO dz b4
        go_wp2_with fail
        refine HN.out.mono ?_
        rintro e w5 ⟨P2, B, rfl, p5, hn, k5⟩
        obtain ⟨hx, hz, htx, hkk⟩ := H2.out
        obtain ⟨hop, hmost, hlen, htxs⟩ := H0.out
        have HA := Lib.hid (hawake_any w5.drew p5.tab (fun b => b < w5.heap.size) (fun _ h => h))
        have HT := Lib.hid (fun (w6 : World) (k6 : Kept (fun b => b < w5.heap.size) w5.drew w6) => hb_tail hx hz htx hop hlen htxs hkk (B4.out.trans ⟨k5.os, k5.tape, k5.output, k5.size, k5.block⟩) p5 hn k6)
        clear HN p5 hn k5 hx hz htx hkk hop hmost hlen htxs H2 H0 B4
        go_wp2_with fail
        go_region_with (first
          | (go_at_call 12; refine HA.out.mono ?_; rintro e w6 ⟨rfl, k6⟩; obtain ⟨t2, tb, tR, tS⟩ := HT.out w6 k6; replace tR := Lib.hid tR; replace tS := Lib.hid tS; clear k6)
          | (go_at_call 24; refine tR.out.mono ?_; rintro e w7 ⟨rfl, hw7⟩; subst hw7)
          | (go_at_call 23; refine (heapAt_any _ _ _).mono ?_; rintro e w7 ⟨rfl, hw7⟩; subst hw7)
          | (go_at_call 18; refine tS.out.mono ?_; rintro e w8 ⟨rfl, k8⟩; replace k8 := Lib.hid k8))
        all_goals
          go_wp2
          go_ret
          exact ⟨rfl, k8.out⟩
end
set_option maxRecDepth 100000 in
theorem hb_walk (W : World) (ht : TabAt W) {H : Type} {enc : TypeId × Value → H} {base : Nat} {d : DataW H} {p : List MemPlace} (v : Value) (hok : Value.okWide Tryz.prog W .any base 22 v) (h : DataW.Trod enc Tryz.prog W 0 (fun _ => true) true 22 v d p) :
    Calls Tryz.prog 5 #[v] W fun e w' => e = .returned (.bool true) ∧ Below W.heap.size W w' := by
  rcases A7.acts_open W v hok h with ⟨ao, cap, rfl⟩ | ⟨b, off, len, cap, kd, ii, ni, si, rfl, ha, hb, _⟩
  · exact (hb_any ao 0 cap W ht (Lib.hid (.inl rfl))).mono fun e w' ⟨a, k⟩ => ⟨a, k.os, k.tape, k.output, k.size, k.block⟩
  · exact (hb_any (some ⟨b, off, none⟩) len cap W ht (Lib.hid (.inr ⟨b, off, kd, ii, ni, si, rfl, ha, hb⟩))).mono fun e w' ⟨a, k⟩ => ⟨a, k.os, k.tape, k.output, k.size, k.block⟩
end Go.Proofs.YtjfkdfffolkblaaGreatDoor
