/-
  TreeBack, walked: it returns true.
-/
import Derived.Test.YtfljlcfmdcepnaaGreatDoorJTtR
import Derived.Deep.RegionWith
import Derived.Deep.DeepCutAuto
namespace Go.Proofs.YtfljlcfmdcepnaaGreatDoor
open Go.RowKit
open UK (str BytesAt nth Only Row Box)
open Go.BigFrame
open A8 (ActsAt)
def QB (j : Nat) (A : AP) (X _Y : List KV) (op : Bool) : Prop := B8 300 (40 * j) A X ∧ op = false
theorem tb_tail {W w2 w5 w6 : World} {P P2 Xd T T1 rb c m d : Nat} {A B : AP} {X : List KV} {ao bo : Option Addr} {op : Bool} (hx : Box w2 rb (rcells P T1 ao X.length c bo m d op)) (hT : Box w2 T #[.pointer (some ⟨P, 0, none⟩), .int .i64 ((1 : Nat) : Int)]) (hp : PrX w2 ao c X) (hb : B8 300 600 A X) (hkk : Kept (fun b => b < W.heap.size) W w2)
    (b25 : Below w2.heap.size w2 w5) (p5 : PZ (fun j => j < w2.heap.size) w5 P2 Xd B 0) (hn : Anew A B) (k6 : Kept (fun b => b < w5.heap.size) w5.drew w6) (ask : UInt64) :
    w6.cell? ⟨rb, 2, none⟩ = some (.slice ao X.length c) ∧ rb < w6.heap.size ∧ Calls Tryz.prog 17 #[.pointer (some ⟨T, 0, none⟩)] w6 (fun e w' => e = .returned (.int .i64 ((1 : Nat) : Int)) ∧ w' = w6) ∧
      Calls Tryz.prog 15 #[.agg (rcells P2 w6.heap.size ao X.length c none 0 0 false), .int .u64 ask.toNat] (w6.alloc (.cells #[.pointer (some ⟨P2, 0, none⟩), .int .i64 1] 111)) (fun e w' => e = .returned (.int .i64 0) ∧ Kept (fun b => b < W.heap.size) W w') := by
  have b56 : Below w5.heap.size w5 w6 := (Below.refl _ w5).drew.trans ⟨k6.os, k6.tape, k6.output, k6.size, k6.block⟩
  have b26 : Below w2.heap.size w2 w6 := b25.trans (b56.mono b25.size)
  have x6 := hx.next b26
  have t6 := hp.next b26
  have p6 := p5.next b56
  have hs26 := b26.size
  have a7 : Below w6.heap.size w6 (w6.alloc (.cells #[.pointer (some ⟨P2, 0, none⟩), .int .i64 1] 111)) := (Below.refl _ _).alloc (Nat.le_refl _) _
  have s7 : (w6.alloc (.cells #[.pointer (some ⟨P2, 0, none⟩), .int .i64 1] 111)).heap.size = w6.heap.size + 1 := by simp
  have x7 := Box.new w6 #[.pointer (some ⟨P2, 0, none⟩), .int .i64 1] 111
  generalize w6.alloc (.cells #[.pointer (some ⟨P2, 0, none⟩), .int .i64 1] 111) = w7 at a7 s7 x7 ⊢
  have p7 := p6.wide a7 (T := fun j => j < w2.heap.size ∨ j = w6.heap.size) (fun j hj => by
    rcases hj with hj | hj
    · exact .inl hj
    · exact .inr (by omega))
  obtain ⟨ps, hti, hg⟩ := hb.anew hn
  have hlen := hb.few
  refine ⟨x6.cell 2 _ rfl, x6.lt, tree_root_any (hT.next b26), ?_⟩
  refine (shows_any (op := false) (m := 0) (d := 0) (bo := none) (E := fun j => j < w2.heap.size ∨ j = w6.heap.size) ⟨p7, x7, .inr rfl⟩ (show X.length ≤ 2000 by omega) (by omega) hti hg (t6.next a7) (fun b h => .inl (hp.lt h)) ask).mono ?_
  rintro e w' ⟨he, _, k'⟩
  have h1 : Kept (fun b => b < W.heap.size) w2 w6 := ⟨b26.os, b26.tape, b26.output, b26.size, fun j hj => b26.block j (Nat.lt_of_lt_of_le hj hkk.size)⟩
  have h2 : Kept (fun b => b < W.heap.size) w6 w7 := ⟨a7.os, a7.tape, a7.output, a7.size, fun j hj => a7.block j (Nat.lt_of_lt_of_le hj (Nat.le_trans hkk.size hs26))⟩
  exact ⟨he, ((hkk.trans h1).trans h2).trans (k'.mono (fun b hb => .inl (Nat.lt_of_lt_of_le hb hkk.size)))⟩
set_option maxHeartbeats 4000000 in
set_option maxRecDepth 100000 in
theorem tb_any (ask : UInt64) (ao : Option Addr) (len cap : Nat) (W : World) (ht : TabAt W)
    (hv : Hid (len = 0 ∨ ∃ b off kd ii ni si, ao = some ⟨b, off, none⟩ ∧ ActsAt W b off len kd ii ni si ∧ b < W.heap.size)) :
    Calls Tryz.prog 3 #[.slice ao len cap, .int .u64 ask.toNat] W fun e w' => e = .returned (.bool true) ∧ Kept (fun j => j < W.heap.size) W w' := by
  have HM := Lib.hid (made_three W ht (fun j => j < W.heap.size) (fun _ h => h) 4 (by omega))
  have htl := ht.lt
  go_enter Tryz.func3, Tryz.ntmps3
  go_wp2_with fail
  refine HM.out.mono ?_
  rintro e w2 ⟨P, D, T, N, M, rfl, t1, hN, k1⟩
  have a2 : Below w2.heap.size w2 (w2.alloc (.cells (rcells P T none 0 0 none 0 0 false) 30)) := (Below.refl _ _).alloc (Nat.le_refl _) _
  have s2 : (w2.alloc (.cells (rcells P T none 0 0 none 0 0 false) 30)).heap.size = w2.heap.size + 1 := by simp
  have x2 := Box.new w2 (rcells P T none 0 0 none 0 0 false) 30
  have G0 : HZ8 (QB 0) T #[.pointer (some ⟨P, 0, none⟩), .int .i64 ((1 : Nat) : Int)] W (w2.alloc (.cells (rcells P T none 0 0 none 0 0 false) 30)) P D w2.heap.size 3 := by
    refine ⟨T, none, 0, [], none, 0, [], false, leafA 300, 3, x2, ⟨⟨t1.pz.wide a2 (fun j hj => ?_), t1.box.next a2, .inr (.inl rfl)⟩, .inl ⟨rfl, rfl, rfl⟩, .inl ⟨rfl, rfl, rfl⟩⟩, Nat.le_refl _, ⟨⟨leafB_good, leafB_len, rfl, leafB_op, ⟨[1], leafB_ti, leafB_has⟩, Nat.zero_le _⟩, rfl⟩, k1.trans (Kept.of_below a2 (fun j hj => Nat.lt_of_lt_of_le hj k1.size)), k1.size, t1.box.next a2, Nat.ne_of_lt t1.box.lt⟩
    rcases hj with ((hj | hj) | hj) | hj | hj | hj
    · exact .inl (.inl hj)
    · exact .inr (by omega)
    · subst hj; exact .inl t1.mem
    · subst hj; exact .inl t1.mem
    · cases hj
    · cases hj
  generalize hwa : w2.alloc (.cells (rcells P T none 0 0 none 0 0 false) 30) = wa at G0
  have HWA := Lib.hid hwa
  have HG0 := Lib.hid G0
  have hrb : W.heap.size ≤ w2.heap.size := k1.size
  clear HM t1 hN k1 a2 s2 x2 G0 hwa
  go_wp2_with fail
  go_loopw [8] (fun iv wr => ∃ j : Nat, iv = .int .i64 j ∧ j ≤ 15 ∧ HZ8 (QB j) T #[.pointer (some ⟨P, 0, none⟩), .int .i64 ((1 : Nat) : Int)] W wr P D w2.heap.size (3 + 1300000 * j)) (fun iv _ => 16 - (intOf iv).toNat)
  case atStart => exact ⟨0, rfl, by omega, by rw [HWA.out]; exact HG0.out⟩
  case round =>
    clear HG0 HWA
    obtain ⟨j, rfl, hj, T1, ao', c, X, bo, d, Y, op, A, k, hx, hr, hk, hq, hkp, _, hz, hzn⟩ := hrel
    by_cases hgo : j < len ∧ j < 15
    · obtain ⟨hlt, hj15⟩ := hgo
      rcases hv.out with h0 | ⟨b, off, kd, ii, ni, si, rfl, ha, hbW⟩
      · omega
      · have hcell : ∀ i v, W.cell? ⟨b, i, none⟩ = some v → wr.cell? ⟨b, i, none⟩ = some v := fun i v hc => (World.cell?_of_block (a := ⟨b, i, none⟩) (hkp.block b hbW)).trans hc
        have c0 := hcell _ _ (ha.c0 j hlt)
        have c1 := hcell _ _ (ha.c1 j hlt)
        have c2 := hcell _ _ (ha.c2 j hlt)
        have c3 := hcell _ _ (ha.c3 j hlt)
        have i1 : (j : Int) < (len : Int) := by omega
        have i2 : (j : Int) < 15 := by omega
        generalize kd j = kj at c0
        generalize ii j = ij at c1
        generalize ni j = nj at c2
        generalize si j = sj at c3
        by_cases hkd : kj = 1 ∨ kj = 2
        · have hD := fun (S : Nat → Prop) (w1 : World) (h1 : RM S w1 P D T1 ao' c X bo d Y A k) (h2 : ∀ j, S j → j < w1.heap.size) => (does_b8 (op := op) h1 h2 (by omega) kj ij nj sj hq.1 (by decide) (by omega) hkd).mono fun e w' he => DoesR.imp he (show k + 100000 ≤ 3 + 1300000 * (j + 1) by omega) (fun A' X' Y' op' hq' => (show QB (j + 1) A' X' Y' op' from ⟨hq'.1.up (by omega), hq'.2.2.trans hq.2⟩))
          have HDO := Lib.hid (does_aheadZ hx hr hkp hrb hz hzn htl hD)
          have HDP := Lib.hid (does_behindZ hx hr hkp hrb hz hzn hD)
          have r0 : wr.cell? ⟨w2.heap.size, 0, none⟩ = some (.pointer (some ⟨P, 0, none⟩)) := hx.cell 0 _ rfl
          have r1 : wr.cell? ⟨w2.heap.size, 1, none⟩ = some (.pointer (some ⟨T1, 0, none⟩)) := hx.cell 1 _ rfl
          have r2 : wr.cell? ⟨w2.heap.size, 2, none⟩ = some (.slice ao' X.length c) := hx.cell 2 _ rfl
          have r3 : wr.cell? ⟨w2.heap.size, 3, none⟩ = some (.slice bo Y.length d) := hx.cell 3 _ rfl
          have r4 : wr.cell? ⟨w2.heap.size, 4, none⟩ = some (.bool op) := hx.cell 4 _ rfl
          have hrw : w2.heap.size < wr.heap.size := hx.lt
          have hbr : b < wr.heap.size := Nat.lt_of_lt_of_le hbW hkp.size
          clear hx hr hkp hq hk ha hD hcell hz
          rcases hkd with rfl | rfl
          all_goals
            go_upto_region 9 with (fail)
            go_cut [9, 10] (fun qv ov wx => ∃ q : Nat, qv = .pointer (some ⟨q, 0, none⟩) ∧ ov = .bool true ∧ wr.heap.size ≤ q ∧ ∃ T2 ao2 n2 c2 bo2 m2 d2 op2, Box wx q (rcells P T2 ao2 n2 c2 bo2 m2 d2 op2) ∧ GZ8 (QB (j + 1)) T #[.pointer (some ⟨P, 0, none⟩), .int .i64 ((1 : Nat) : Int)] W wx P D w2.heap.size q (3 + 1300000 * (j + 1)) T2 ao2 n2 c2 bo2 m2 d2 op2)
            case first =>
              go_region_with (first
                | (go_at_call 8; refine HDO.out.mono ?_; rintro e w3 ⟨T2, ao2, n2, c2', bo2, m2, d2, op2, rfl, zb, gx⟩; have zf := zb.free; have z0 : w3.cell? ⟨wr.heap.size, 0, none⟩ = some (.pointer none) := zb.cell 0 _ rfl; have z1 : w3.cell? ⟨wr.heap.size, 1, none⟩ = some (.pointer none) := zb.cell 1 _ rfl; have z2 : w3.cell? ⟨wr.heap.size, 2, none⟩ = some (.slice none 0 0) := zb.cell 2 _ rfl; have z3 : w3.cell? ⟨wr.heap.size, 3, none⟩ = some (.slice none 0 0) := zb.cell 3 _ rfl; have z4 : w3.cell? ⟨wr.heap.size, 4, none⟩ = some (.bool false) := zb.cell 4 _ rfl; replace zb := Lib.hid zb; replace gx := Lib.hid gx)
                | (go_at_call 8; refine HDP.out.mono ?_; rintro e w3 ⟨T2, ao2, n2, c2', bo2, m2, d2, op2, rfl, hs3, gx⟩; replace gx := Lib.hid gx))
              all_goals
                go_wp2_with fail
                go_meet
                case rel =>
                  first
                    | exact ⟨_, rfl, rfl, Nat.le_refl _, T2, ao2, n2, c2', bo2, m2, d2, op2, zb.out.fill5 _ _ _ _ _, gx.out⟩
                    | exact ⟨_, rfl, rfl, hs3, T2, ao2, n2, c2', bo2, m2, d2, op2, Box.new _ _ _, gx.out _ _⟩
            case rest =>
              obtain ⟨q, rfl, rfl, hq, T2, ao2, n2, c2', bo2, m2, d2, op2, xb, gx⟩ := hcut
              have zf := xb.free
              have q0 : wc.cell? ⟨q, 0, none⟩ = some (.pointer (some ⟨P, 0, none⟩)) := xb.cell 0 _ rfl
              have q1 : wc.cell? ⟨q, 1, none⟩ = some (.pointer (some ⟨T2, 0, none⟩)) := xb.cell 1 _ rfl
              have q2 : wc.cell? ⟨q, 2, none⟩ = some (.slice ao2 n2 c2') := xb.cell 2 _ rfl
              have q3 : wc.cell? ⟨q, 3, none⟩ = some (.slice bo2 m2 d2) := xb.cell 3 _ rfl
              have q4 : wc.cell? ⟨q, 4, none⟩ = some (.bool op2) := xb.cell 4 _ rfl
              obtain ⟨_, _, _, _, _, _, _, _, _, _, _, _, _, _, T0, ao0, n0, c0', bo0, m0, d0, op0, rb0⟩ := id gx
              have rf := rb0.free
              have s0 : wc.cell? ⟨w2.heap.size, 0, none⟩ = some (.pointer (some ⟨P, 0, none⟩)) := rb0.cell 0 _ rfl
              have s1 : wc.cell? ⟨w2.heap.size, 1, none⟩ = some (.pointer (some ⟨T0, 0, none⟩)) := rb0.cell 1 _ rfl
              have s2 : wc.cell? ⟨w2.heap.size, 2, none⟩ = some (.slice ao0 n0 c0') := rb0.cell 2 _ rfl
              have s3 : wc.cell? ⟨w2.heap.size, 3, none⟩ = some (.slice bo0 m0 d0) := rb0.cell 3 _ rfl
              have s4 : wc.cell? ⟨w2.heap.size, 4, none⟩ = some (.bool op0) := rb0.cell 4 _ rfl
              have HT := Lib.hid (gx.turn htl)
              clear gx xb rb0 HDO HDP c0 c1 c2 c3 r0 r1 r2 r3 r4 hbr hrw hq
              go_wp2_with fail
              go_roundw
              case rel =>
                obtain ⟨X2, Y2, A2, k2, rfl, rfl, xF, rF, hkF, hqF, kF, zF, zn⟩ := HT.out
                exact ⟨j + 1, by go_num, by omega, T2, ao2, c2', X2, bo2, d2, Y2, op2, A2, k2, xF, rF, hkF, hqF, kF, hrb, zF, zn⟩
              case measure => simp [intOf]; omega
        · have HQ : Hid (HZ8 (QB (j + 1)) T #[.pointer (some ⟨P, 0, none⟩), .int .i64 ((1 : Nat) : Int)] W wr P D w2.heap.size (3 + 1300000 * (j + 1))) := Lib.hid ⟨T1, ao', c, X, bo, d, Y, op, A, k, hx, hr, by omega, ⟨hq.1.up (by omega), hq.2⟩, hkp, hrb, hz, hzn⟩
          have n1 : ¬ kj = 1 := fun e => hkd (.inl e)
          have n2 : ¬ kj = 2 := fun e => hkd (.inr e)
          have n3 : (kj == 1) = false := beq_eq_false_iff_ne.2 n1
          have n4 : (kj == 2) = false := beq_eq_false_iff_ne.2 n2
          have n5 : decide (kj = 1) = false := decide_eq_false n1
          have n6 : decide (kj = 2) = false := decide_eq_false n2
          clear hx hr hkp hq hk ha hcell hkd c1 c2 c3 hz
          go_wp2
          go_roundw
          case rel => exact ⟨j + 1, by go_num, by omega, HQ.out⟩
          case measure => simp [intOf]; omega
    · have hng : ¬ (j : Int) < (len : Int) ∨ ((j : Int) < (len : Int) ∧ ¬ (j : Int) < 15) := by omega
      have r2 : wr.cell? ⟨w2.heap.size, 2, none⟩ = some (.slice ao' X.length c) := hx.cell 2 _ rfl
      have HF := Lib.hid (pz_flush hr.tr.pz (by omega))
      have HQ2 := Lib.hid (And.intro hx (And.intro hr (And.intro (show B8 300 600 A X from hq.1.up (by omega)) (And.intro hkp hz))))
      clear hx hr hkp hq hk hz
      rcases hng with i1 | ⟨i1, i2⟩
      all_goals
        go_wp2_with fail
        refine HF.out.mono ?_
        rintro e w3 ⟨rfl, zf, k3⟩
        obtain ⟨hx, hr, hb, hkp, hz⟩ := HQ2.out
        obtain ⟨x, hB, hO⟩ := fz_bytes zf 300 (by rw [hb.most]; decide)
        have HDk := Lib.hid (pz_disk8 zf.pz)
        have HB := Lib.hid hB
        have HO := Lib.hid (hO w3 zf.pz.tab)
        have x3 := hx.of_block (k3.block _ (.inl (.inl (.inr rfl))))
        have t3 := hz.of_block (k3.block T (.inl (.inr rfl)))
        have p3 := hr.px.of_block k3.size (fun b hb => k3.block b (.inr (.inr (.inl hb))))
        have kk3 := hkp.trans (k3.mono (fun b hb => .inl (.inl (.inl hb))))
        have H3 := Lib.hid (And.intro x3 (And.intro t3 (And.intro p3 (And.intro hb kk3))))
        clear hB hO zf k3 hx hr hb hkp hz HF HQ2 x3 t3 p3 kk3 r2
        go_wp2_with fail
        refine HDk.out.mono ?_
        rintro e w4 ⟨rfl, hw4⟩
        subst hw4
        go_wp2_with fail
        refine HB.out.mono ?_
        rintro e w4 ⟨rfl, hw4⟩
        subst hw4
        go_wp2_with fail
        refine HO.out.mono ?_
        rintro e w5 ⟨Xd, rfl, dz, b4⟩
        have HN := Lib.hid (pz_new dz 3 (by omega) 2)
        have B4 := Lib.hid b4
        clear HDk HB HO dz b4
        go_wp2_with fail
        refine HN.out.mono ?_
        rintro e w5 ⟨P2, B, rfl, p5, hn, k5⟩
        obtain ⟨x3, t3, p3, hb, kk3⟩ := H3.out
        have HA := Lib.hid (awake_any w5.drew p5.tab (fun b => b < w5.heap.size) (fun _ h => h))
        have HT := Lib.hid (fun (w6 : World) (k6 : Kept (fun b => b < w5.heap.size) w5.drew w6) => tb_tail x3 t3 p3 hb kk3 (B4.out.trans ⟨k5.os, k5.tape, k5.output, k5.size, k5.block⟩) p5 hn k6 ask)
        clear HN p5 hn k5 x3 t3 p3 hb kk3 H3 B4
        go_wp2_with fail
        go_region_with (first
          | (go_at_call 14; refine HA.out.mono ?_; rintro e w6 ⟨rfl, k6⟩; obtain ⟨t2, tb, tR, tS⟩ := HT.out w6 k6; replace tR := Lib.hid tR; replace tS := Lib.hid tS; clear k6)
          | (go_at_call 17; refine tR.out.mono ?_; rintro e w7 ⟨rfl, hw7⟩; subst hw7)
          | (go_at_call 16; refine (tree_at_any _ _ _).mono ?_; rintro e w7 ⟨rfl, hw7⟩; subst hw7)
          | (go_at_call 15; refine tS.out.mono ?_; rintro e w8 ⟨rfl, k8⟩; replace k8 := Lib.hid k8))
        all_goals
          go_wp2
          go_ret
          exact ⟨rfl, k8.out⟩
set_option maxRecDepth 100000 in
theorem tb_walk (W : World) (ht : TabAt W) {H : Type} {enc : TypeId × Value → H} {base : Nat} {d : DataW H} {p : List MemPlace} (v : Value) (hok : Value.okWide Tryz.prog W .any base 22 v) (h : DataW.Trod enc Tryz.prog W 0 (fun _ => true) true 22 v d p) (u : Int) (hu : (Lit.int .u64 u).wf = true) :
    Calls Tryz.prog 3 #[v, .int .u64 u] W fun e w' => e = .returned (.bool true) ∧ Below W.heap.size W w' := by
  obtain ⟨a, rfl⟩ := A8.u64_wf hu
  rcases A8.acts_open W v hok h with ⟨ao, cap, rfl⟩ | ⟨b, off, len, cap, kd, ii, ni, si, rfl, ha, hb, _⟩
  · exact (tb_any a ao 0 cap W ht (Lib.hid (.inl rfl))).mono fun e w' ⟨x, k⟩ => ⟨x, k.os, k.tape, k.output, k.size, k.block⟩
  · exact (tb_any a (some ⟨b, off, none⟩) len cap W ht (Lib.hid (.inr ⟨b, off, kd, ii, ni, si, rfl, ha, hb⟩))).mono fun e w' ⟨x, k⟩ => ⟨x, k.os, k.tape, k.output, k.size, k.block⟩
end Go.Proofs.YtfljlcfmdcepnaaGreatDoor
