/-
  PoolFaults, walked: it returns true.
-/
import Derived.Test.YthlomlkalbpdgaaDoorPoolO
namespace Go.Proofs.YthlomlkalbpdgaaDoor
open Go.RowKit
open UK (str BytesAt nth Only Row Box IntMap)
open Go.BigFrame
section
variable {E : Nat → Prop} {W W' : World} {P D FB M cnt k n : Nat} {kp : Int} {q : Pl} {d d' : Dk}
theorem PS.turned (h : PS E W P D FB M n kp q d cnt k) {w' : World} (hd : DD (fun k => E k ∨ PBlk P FB M q.frames k) w' D d' cnt) (hk : Kept (fun k => E k ∨ PBlk P FB M q.frames k) W w') (ho : Ok d' cnt (k + 1)) (hh : ∀ a, hasD d' cnt a = hasD d cnt a) : PS E w' P D FB M n kp q d' cnt (k + 1) ∧ Kept E W w' :=
  ⟨⟨h.pd.disk hd hk, h.ok, ho, fun j g hj => by rw [hh]; exact h.held j g hj, h.pins, h.len⟩, hk.mono (fun a ha => .inl ha)⟩
/-- the disk is told to fail -/
def Told (E : Nat → Prop) (W w' : World) (P D FB M n : Nat) (q : Pl) (cnt k : Nat) : Prop := ∃ d', PS E w' P D FB M n 0 q d' cnt k ∧ Kept E W w'
theorem told_read (h : PS E W P D FB M n 0 q d cnt k) (a : Int) (ha : a ≤ 9223372036854775807) :
    Calls Tryd.prog 8 #[.pointer (some ⟨D, 0, none⟩), .int .i64 a] W fun e w' => e = .returned (.tuple #[]) ∧ Told E W w' P D FB M n q cnt (k + 1) :=
  (dd_failRead h.pd.dd a ha).mono fun _ _ ⟨he, hd, hk⟩ => ⟨he, _, h.turned hd hk (h.dok.rl a ha) (fun _ => rfl)⟩
theorem told_write (h : PS E W P D FB M n 0 q d cnt k) (a : Int) (ha : a ≤ 9223372036854775807) :
    Calls Tryd.prog 9 #[.pointer (some ⟨D, 0, none⟩), .int .i64 a] W fun e w' => e = .returned (.tuple #[]) ∧ Told E W w' P D FB M n q cnt (k + 1) :=
  (dd_failWrite h.pd.dd a ha).mono fun _ _ ⟨he, hd, hk⟩ => ⟨he, _, h.turned hd hk (h.dok.wl a ha) (fun _ => rfl)⟩
theorem told_spoil (h : PS E W P D FB M n 0 q d cnt k) (a : Int) (b : UInt8) :
    Calls Tryd.prog 10 #[.pointer (some ⟨D, 0, none⟩), .int .i64 a, .int .u8 (b.toNat : Int)] W fun e w' => ∃ x, e = .returned (.bool x) ∧ Told E W w' P D FB M n q cnt (k + 1) :=
  (dd_spoil_u h.pd.dd a b).mono fun e w' ⟨he, hd, hk⟩ => ⟨_, he, _, h.turned hd hk (h.dok.spoilU a b) (fun _ => by unfold sD; split <;> rfl)⟩
end
/-- between two acts -/
def OnActs (W wr : World) (P D FB M n : Nat) (k : Nat) : Prop := ∃ (q : Pl) (d : Dk) (cnt : Nat), PS (fun j => j < W.heap.size) wr P D FB M n 0 q d cnt k ∧ Kept (fun j => j < W.heap.size) W wr
set_option maxHeartbeats 4000000 in
set_option maxRecDepth 100000 in
theorem pf_any (n : Nat) (h1 : 1 ≤ n) (hn : n ≤ 6) (ao : Option Addr) (len cap : Nat) (reads writes at_ : Int) (hrd : reads ≤ 9223372036854775807) (hwr : writes ≤ 9223372036854775807) (by_ : UInt8) (W : World) (ht : TabAt W)
    (hv : Hid (len = 0 ∨ ∃ b off f, ao = some ⟨b, off, none⟩ ∧ ActsAt W b off len f ∧ b < W.heap.size)) :
    Calls Tryd.prog 3 #[.int .i64 n, .slice ao len cap, .int .i64 reads, .int .i64 writes, .int .i64 at_, .int .u8 (by_.toNat : Int)] W fun e w' => e = .returned (.bool true) ∧ Below W.heap.size W w' := by
  have HN := Lib.hid (dd_new W 12 ht (fun k => k < W.heap.size) (fun _ h => h))
  go_enter Tryd.func3, Tryd.ntmps3
  go_wp2_with fail
  refine HN.out.mono ?_
  rintro e w1 ⟨rfl, hd, hb1⟩
  have HP := Lib.hid (pnew_any hd (Ok.new 12) n ⟨by omega, by omega⟩)
  have K1 : Hid (Kept (fun k => k < W.heap.size) W w1) := Lib.hid (Kept.of_below hb1 (fun _ h => h))
  clear HN hd hb1
  generalize newD 12 = d0 at HP
  go_wp2_with fail
  refine HP.out.mono ?_
  rintro e w2 ⟨P, FB, M, rfl, p2, kk, _⟩
  obtain ⟨D, HD⟩ : ∃ D, Hid (W.heap.size = D) := ⟨_, rfl⟩
  have hS : OnActs W w2 P W.heap.size FB M n (0 * 20) := ⟨_, _, _, p2, K1.out.trans kk⟩
  clear HP K1 kk p2
  go_wp2_with fail
  go_loopw [15] (fun iv wr => ∃ j : Nat, iv = .int .i64 j ∧ j ≤ 30 ∧ OnActs W wr P W.heap.size FB M n (j * 20)) (fun iv _ => 31 - (intOf iv).toNat)
  case atStart => exact ⟨0, rfl, by omega, hS⟩
  case round =>
    clear hS
    obtain ⟨j, rfl, hj, q, d, cnt, hl, hk⟩ := hrel
    by_cases hgo : j < len ∧ j < 30
    · obtain ⟨hlt, hj30⟩ := hgo
      rcases hv.out with h0 | ⟨b, off, f, rfl, ha, hbW⟩
      · omega
      · have hcell : ∀ (V : World), Kept (fun j => j < W.heap.size) W V → ∀ i v, W.cell? ⟨b, i, none⟩ = some v → V.cell? ⟨b, i, none⟩ = some v := fun V kv i v hc => (World.cell?_of_block (a := ⟨b, i, none⟩) (kv.block b hbW)).trans hc
        have hc : ∀ (V : World), Kept (fun j => j < W.heap.size) W V → V.cell? ⟨b, off + j * 4, none⟩ = some (.int .i64 (f j).kd) ∧ V.cell? ⟨b, off + j * 4 + 1, none⟩ = some (.int .i64 (f j).pp) ∧ V.cell? ⟨b, off + j * 4 + 2, none⟩ = some (.int .i64 (f j).nn) ∧ V.cell? ⟨b, off + j * 4 + 3, none⟩ = some (.int .u8 ((f j).by_.toNat : Int)) :=
          fun V kv => ⟨hcell V kv _ _ (ha.c0 j hlt), hcell V kv _ _ (ha.c1 j hlt), hcell V kv _ _ (ha.c2 j hlt), hcell V kv _ _ (ha.c3 j hlt)⟩
        have hpw := ha.p j hlt
        have hnw := ha.n j hlt
        generalize f j = act at hc hpw hnw
        have HC := Lib.hid hc
        clear hcell ha hc
        have hone : ∀ (V : World) (m : Nat) (q : Pl) (d : Dk), m ≤ j * 20 + 3 → PS (fun j => j < W.heap.size) V P W.heap.size FB M n 0 q d cnt m → Kept (fun j => j < W.heap.size) W V →
            Calls Tryd.prog 11 #[.pointer (some ⟨P, 0, none⟩), actV act] V fun e w' => ∃ (c : Nat), e = .returned (.tuple #[]) ∧ c ≤ n ∧ OnActs W w' P W.heap.size FB M n ((j + 1) * 20) ∧ Calls Tryd.prog 12 #[.pointer (some ⟨P, 0, none⟩)] w' (fun e w'' => e = .returned (.int .i64 0) ∧ w'' = w') ∧
              Calls Tryd.prog 13 #[.pointer (some ⟨P, 0, none⟩)] w' (fun e w'' => e = .returned (.int .i64 c) ∧ w'' = w') := fun V m q d hm hp hkv =>
          (one_any hp (by omega) act hpw hnw).mono fun _ w' ⟨he, q', d', cnt', p2, k2⟩ => ⟨cntF q'.frames, he, by have := cntF_le q'.frames; rw [p2.len] at this; exact this, ⟨_, _, _, p2.up (by omega), hkv.trans k2⟩,
            (pinned_any p2.pd.pool).mono (fun _ _ hx => ⟨by rw [hx.1, p2.pins], hx.2⟩), resident_any p2.pd.pool⟩
        obtain ⟨kd, pp, nn, ab⟩ := act
        by_cases h10 : j = 10
        · subst h10
          have HR := Lib.hid (told_read hl reads hrd)
          have HO := Lib.hid (And.intro hk hone)
          clear hone hl hk
          go_wp2_with fail
          refine HR.out.mono ?_
          rintro e w3 ⟨rfl, d3, p3, k3⟩
          have HW := Lib.hid (told_write p3 writes hwr)
          clear HR p3
          go_wp2_with fail
          refine HW.out.mono ?_
          rintro e w4 ⟨rfl, d4, p4, k4⟩
          have HX := Lib.hid (told_spoil p4 at_ by_)
          clear HW p4
          go_wp2_with fail
          refine HX.out.mono ?_
          rintro e w5 ⟨x, rfl, d5, p5, k5⟩
          have kw := HO.out.1.trans (k3.trans (k4.trans k5))
          obtain ⟨c0, c1, c2, c3⟩ := HC.out w5 kw
          have HA := Lib.hid (HO.out.2 w5 _ _ _ (by omega) p5 kw)
          clear HX p5 kw k3 k4 k5 HO HC
          go_wp2_with fail
          refine HA.out.mono ?_
          rintro e w6 ⟨c, rfl, hcn, hs, hpi, hre⟩
          have HPI := Lib.hid hpi
          have HRE := Lib.hid hre
          clear HA c0 c1 c2 c3 hpi hre
          go_wp2_with fail
          refine HPI.out.mono ?_
          rintro e w' ⟨rfl, rfl⟩
          clear HPI
          go_wp2_with fail
          refine HRE.out.mono ?_
          rintro e w' ⟨rfl, rfl⟩
          clear HRE
          go_wp2
          go_roundw
          case rel => exact ⟨11, by go_num, by omega, hs⟩
          case measure => simp [intOf]
        · obtain ⟨c0, c1, c2, c3⟩ := HC.out wr hk
          have HA := Lib.hid (hone wr _ _ _ (by omega) hl hk)
          have h10b : ((j : Int) == 10) = false := beq_eq_false_iff_ne.2 (by omega)
          clear HC hone hl hk h10
          go_wp2_with fail
          refine HA.out.mono ?_
          rintro e w6 ⟨c, rfl, hcn, hs, hpi, hre⟩
          have HPI := Lib.hid hpi
          have HRE := Lib.hid hre
          clear HA c0 c1 c2 c3 hpi hre h10b
          go_wp2_with fail
          refine HPI.out.mono ?_
          rintro e w' ⟨rfl, rfl⟩
          clear HPI
          go_wp2_with fail
          refine HRE.out.mono ?_
          rintro e w' ⟨rfl, rfl⟩
          clear HRE
          go_wp2
          go_roundw
          case rel => exact ⟨j + 1, by go_num, by omega, hs⟩
          case measure => simp [intOf]; omega
    · have hend : ¬ j < len ∨ (j < len ∧ ¬ j < 30) := by omega
      have HF := Lib.hid (pflush_any hl (by omega))
      have HK := Lib.hid hk
      clear hgo hl hk
      rcases hend with hlt | ⟨hlt, hj30⟩
      all_goals
        go_wp2_with fail
        refine HF.out.mono ?_
        rintro e w3 ⟨e0, q', d', rfl, he0, p3, k3⟩
        have HA := Lib.hid (awake_any w3 p3.pd.dd.tab)
        have hsz := p3.pd.dd.lt
        have hsz2 : W.heap.size ≤ w3.heap.size := by have := p3.pd.dd.there; omega
        have HB := Lib.hid ((HK.out.trans k3).below (fun _ h => h))
        clear HF HK p3 k3
        go_wp2_with fail
        refine HA.out.mono ?_
        rintro e w4 ⟨rfl, b4⟩
        have HB2 := Lib.hid (HB.out.trans (b4.mono hsz2))
        clear HA HB b4
        rcases he0 with rfl | rfl | rfl
        all_goals
          go_wp2
          go_ret
          exact ⟨rfl, HB2.out⟩
theorem pf_out (n : Int) (hn : n < 1 ∨ 6 < n) (v x y z t : Value) (W : World) (ht : TabAt W) :
    Calls Tryd.prog 3 #[.int .i64 n, v, x, y, z, t] W fun e w' => e = .returned (.bool true) ∧ Below W.heap.size W w' := by
  rcases hn with hn | hn
  all_goals
    go_enter Tryd.func3, Tryd.ntmps3
    go_wp2_with fail
    refine (awake_any W ht).mono ?_
    rintro e w3 ⟨rfl, b3⟩
    go_wp2
    go_ret
    exact ⟨rfl, b3⟩
theorem le_of_wf {a : Int} (h : (Lit.int .i64 a).wf = true) : a ≤ 9223372036854775807 := by
  simp [Lit.wf, IntKind.min, IntKind.max, IntKind.signed, IntKind.bits] at h
  omega
set_option maxRecDepth 100000 in
theorem pf_walk (W : World) (ht : TabAt W) {H : Type} {enc : TypeId × Value → H} {base : Nat} {d : DataW H} {p : List MemPlace} (n : Int) (_hn : (Lit.int .i64 n).wf = true) (v : Value) (hok : Value.okWide Tryd.prog W .any base 22 v) (h : DataW.Trod enc Tryd.prog W 0 (fun _ => true) true 22 v d p)
    (reads : Int) (hrd : (Lit.int .i64 reads).wf = true) (writes : Int) (hwr : (Lit.int .i64 writes).wf = true) (at_ : Int) (_hat : (Lit.int .i64 at_).wf = true) (by_ : Int) (hby : (Lit.int .u8 by_).wf = true) :
    Calls Tryd.prog 3 #[.int .i64 n, v, .int .i64 reads, .int .i64 writes, .int .i64 at_, .int .u8 by_] W fun e w' => e = .returned (.bool true) ∧ Below W.heap.size W w' := by
  by_cases hn : 1 ≤ n ∧ n ≤ 6
  · obtain ⟨m, rfl⟩ : ∃ m : Nat, n = m := ⟨n.toNat, by omega⟩
    obtain ⟨ao, len, cap, rfl, hv⟩ := acts_open W v hok h
    obtain ⟨u, rfl⟩ := u8_of_wf hby
    exact pf_any m (by omega) (by omega) ao len cap reads writes at_ (le_of_wf hrd) (le_of_wf hwr) u W ht (Lib.hid hv)
  · exact pf_out n (by omega) v _ _ _ _ W ht
end Go.Proofs.YthlomlkalbpdgaaDoor
