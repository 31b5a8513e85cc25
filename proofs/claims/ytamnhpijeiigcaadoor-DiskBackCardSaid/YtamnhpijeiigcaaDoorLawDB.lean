/-
  DiskBack, walked: it returns true.
-/
import Derived.Test.YtamnhpijeiigcaaDoorDiskW
import Derived.Test.YtamnhpijeiigcaaDoorActs4
import Derived.Test.YtamnhpijeiigcaaDoorUBox
import Derived.Deep.RegionWith
import Derived.Deep.DeepCutAuto
namespace Go.Proofs.YtamnhpijeiigcaaDoor
open Go.RowKit
open UK (str BytesAt nth Only w32 Row)
open Go.BigFrame
section
variable {D k : Nat} {W w w1 : World} {d : Dk} {cnt : Nat}
/-- within the law, its first part -/
structure BK (D : Nat) (W w : World) (d : Dk) (cnt k : Nat) : Prop where
  dd : DD (fun i => i < D) w D d cnt
  bel : Below D W w
  cl : Clean d cnt
  ok : Ok d cnt k
  most : Hid (d.most = 12)
theorem BK.next (h : BK D W w d cnt k) (hb : Below w.heap.size w w1) : BK D W w1 d cnt k := ⟨h.dd.below hb, h.bel.trans (hb.mono (Nat.le_of_lt h.dd.lt)), h.cl, h.ok, h.most⟩
theorem BK.more (h : BK D W w d cnt k) : BK D W w d cnt (k + 1) := ⟨h.dd, h.bel, h.cl, h.ok.more, h.most⟩
def Acted (D : Nat) (W w : World) (k : Nat) : Prop := ∃ d cnt, BK D W w d cnt k
theorem bk_take (h : BK D W w d cnt k) (hk : k < 1000) :
    Calls Tryd.prog 11 #[.pointer (some ⟨D, 0, none⟩)] w fun e w' => e = .returned (.tuple #[.int .i64 (tP d cnt), .int .i64 (tE d cnt)]) ∧ Acted D W w' (k + 1) := by
  refine (dd_take_u h.dd h.ok hk).mono ?_
  rintro e w' ⟨rfl, d1, k1⟩
  have c := h.cl.take_u h.ok hk
  exact ⟨rfl, _, _, d1, h.bel.trans (k1.below (fun _ hi => hi)), c.1, h.ok.take hk, c.2.trans h.most.out⟩
theorem bk_give (h : BK D W w d cnt k) (hk : k < 1000) (p : Int) :
    Calls Tryd.prog 12 #[.pointer (some ⟨D, 0, none⟩), .int .i64 p] w fun e w' => e = .returned (.int .i64 (rgiveE d cnt p)) ∧ Acted D W w' (k + 1) := by
  refine (dd_give_u h.dd h.ok hk p).mono ?_
  rintro e w' ⟨rfl, d1, k1⟩
  have c := h.cl.give_u h.ok hk p
  exact ⟨rfl, _, _, d1, h.bel.trans (k1.below (fun _ hi => hi)), c.1, h.ok.give hk p, c.2.trans h.most.out⟩
theorem bk_write (h : BK D W w d cnt k) (hk : k < 1000) (p : Int) (s : List UInt8) :
    Calls Tryd.prog 15 #[.pointer (some ⟨D, 0, none⟩), .int .i64 p, .string (str s)] w fun e w' => e = .returned (.int .i64 (rwriteE d cnt p s)) ∧ Acted D W w' (k + 1) := by
  refine (dd_write_u h.dd h.ok hk p s).mono ?_
  rintro e w' ⟨rfl, d1, k1⟩
  have c := h.cl.write_u h.ok hk p s
  exact ⟨rfl, _, _, d1, h.bel.trans (k1.below (fun _ hi => hi)), c.1, h.ok.write hk p s, c.2.trans h.most.out⟩
/-- behind Flush and Open -/
structure BO (D X : Nat) (W w : World) (d x : Dk) (cnt k : Nat) : Prop where
  two : Two (fun i => i < D) w D d cnt X x cnt
  bel : Below D W w
  like : Like d x
  ok : Ok d cnt k
  ok' : Ok x cnt k
  few : cnt ≤ 12
variable {X : Nat} {x : Dk}
theorem bk_flush (h : BK D W w d cnt k) (hk : k < 1000) :
    Calls Tryd.prog 27 #[.pointer (some ⟨D, 0, none⟩)] w fun e w' => e = .returned (.int .i64 0) ∧ DD (fun i => i < D) w' D (flushD d cnt) cnt ∧ Below D W w' := by
  have hp := h.ok.puts
  have := dd_flush h.dd (by omega)
  rw [show failE d.wl = 0 by unfold failE; rw [if_neg h.cl.wlne]] at this
  exact this.mono fun _ _ ⟨a, b, c⟩ => ⟨a, b, h.bel.trans (c.below (fun _ hi => hi))⟩
theorem clamp12 : clampD 12 = 12 := by decide
theorem bk_open (h : BK D W w d cnt k) (hk : k < 998) (w2 : World) (h2 : DD (fun i => i < D) w2 D (flushD d cnt) cnt) (b2 : Below D W w2) :
    Calls Tryd.prog 28 #[.string (str (flushD d cnt).x), .int .i64 12] w2 fun e w' => ∃ X x, e = .returned (.tuple #[.pointer (some ⟨X, 0, none⟩), .int .i64 0]) ∧ BO D X W w' (flushD d cnt) x cnt (k + 1) := by
  obtain ⟨hl, ho, hz⟩ := open_like h.cl h.ok (by omega) 12 (h.most.out.trans clamp12.symm)
  have hmm := h.cl.fit.most.2.2
  rw [h.most.out] at hmm
  refine (open_any _ 12 w2 h2.tab cnt (h2.fit.len) h2.fit.one (by rw [clamp12]; exact hmm)).mono ?_
  rintro e w' (⟨_, own, X, rfl, hx, hown, hb⟩ | ⟨hne, _⟩)
  · exact ⟨X, _, rfl, Two.open_ h2 hb hx ho.fit hown, b2.trans (hb.mono (Nat.le_of_lt h2.lt)), hl, h.ok.flush (by omega), ⟨ho.fit, ho.so, by have := ho.puts; omega, by have := ho.reads; omega⟩, by omega⟩
  · exact absurd hz hne
theorem BO.next (h : BO D X W w d x cnt k) (hb : Below w.heap.size w w1) : BO D X W w1 d x cnt k := ⟨h.two.next hb, h.bel.trans (hb.mono (Nat.le_of_lt h.two.dd.lt)), h.like, h.ok, h.ok', h.few⟩
theorem BO.drewN (h : BO D X W w d x cnt k) (q : Nat) : BO D X W (w.drewN q) d x cnt k := h.next (UK.belowN (Below.refl _ _) q)
theorem bo_counts (h : BO D X W w d x cnt k) :
    (Calls Tryd.prog 14 #[.pointer (some ⟨D, 0, none⟩)] w fun e w' => e = .returned (.int .i64 cnt) ∧ w' = w) ∧ (Calls Tryd.prog 14 #[.pointer (some ⟨X, 0, none⟩)] w fun e w' => e = .returned (.int .i64 cnt) ∧ w' = w) ∧
    (Calls Tryd.prog 29 #[.pointer (some ⟨D, 0, none⟩)] w fun e w' => e = .returned (.int .i64 d.free.length) ∧ w' = w) ∧ (Calls Tryd.prog 29 #[.pointer (some ⟨X, 0, none⟩)] w fun e w' => e = .returned (.int .i64 d.free.length) ∧ w' = w) ∧
    (Calls Tryd.prog 13 #[.pointer (some ⟨D, 0, none⟩)] w fun e w' => e = .returned (.int .i64 (d.most - cnt + d.free.length)) ∧ ∃ q, w' = w.drewN q) ∧ (Calls Tryd.prog 13 #[.pointer (some ⟨X, 0, none⟩)] w fun e w' => e = .returned (.int .i64 (d.most - cnt + d.free.length)) ∧ ∃ q, w' = w.drewN q) := by
  have a := h.two.dd
  have b := h.two.swap.dd
  have hb := dd_free b
  have hr := dd_room b
  rw [h.like.free] at hb
  rw [h.like.free, h.like.most] at hr
  exact ⟨dd_count a, dd_count b, dd_free a, hb, dd_room a, hr⟩
theorem bo_read (h : BO D X W w d x cnt k) (hk : k < 1000) (p : Int) :
    ∃ s e0, (Calls Tryd.prog 20 #[.pointer (some ⟨D, 0, none⟩), .int .i64 p] w fun e w' => e = .returned (.tuple #[.string (str s), .int .i64 e0]) ∧ 
      Calls Tryd.prog 20 #[.pointer (some ⟨X, 0, none⟩), .int .i64 p] w' fun e w'' => e = .returned (.tuple #[.string (str s), .int .i64 e0]) ∧ ∃ d' x', BO D X W w'' d' x' cnt (k + 1)) := by
  obtain ⟨e1, e2, e3⟩ := h.like.read cnt p
  refine ⟨rreadS d cnt p, rreadE d cnt p, (two_read h.two h.ok hk p).mono ?_⟩
  rintro e w' ⟨rfl, t1, k1⟩
  have := two_read t1.swap h.ok' hk p
  rw [e1, e2] at this
  refine ⟨rfl, this.mono ?_⟩
  rintro e w'' ⟨rfl, t2, k2⟩
  exact ⟨rfl, _, _, t2.swap, (h.bel.trans (k1.below (fun _ hi => hi))).trans (k2.below (fun _ hi => hi)), e3, h.ok.read hk p, h.ok'.read hk p, h.few⟩
theorem two_take' {E : Nat → Prop} {cx : Nat} (h : Two E w D d cnt X x cx) (o : Ok d cnt k) (hk : k < 1000) :
    Calls Tryd.prog 11 #[.pointer (some ⟨D, 0, none⟩)] w fun e w' => e = .returned (.tuple #[.int .i64 (tP d cnt), .int .i64 (tE d cnt)]) ∧ Two E w' D (tD d cnt) (tC d cnt) X x cx ∧ Kept E w w' :=
  h.left fun _ hd => dd_take_u hd o hk
/-- behind Flush and Open, takes -/
structure BT (D X : Nat) (W w : World) (d x : Dk) (cnt k : Nat) : Prop where
  two : Two (fun i => i < D) w D d cnt X x cnt
  bel : Below D W w
  like : Like d x
  ok : Ok d cnt k
  ok' : Ok x cnt k
theorem bt_take (h : BT D X W w d x cnt k) (hk : k < 1000) :
    ∃ (s : Nat) (e0 : Int), (Calls Tryd.prog 11 #[.pointer (some ⟨D, 0, none⟩)] w fun e w' => e = .returned (.tuple #[.int .i64 s, .int .i64 e0]) ∧ 
      Calls Tryd.prog 11 #[.pointer (some ⟨X, 0, none⟩)] w' fun e w'' => e = .returned (.tuple #[.int .i64 s, .int .i64 e0]) ∧ ∃ d' x' cnt', BT D X W w'' d' x' cnt' (k + 1)) := by
  obtain ⟨e1, e2, e3, e4⟩ := h.like.take cnt
  refine ⟨tP d cnt, tE d cnt, (two_take' h.two h.ok hk).mono ?_⟩
  rintro e w' ⟨rfl, t1, k1⟩
  have := two_take' t1.swap h.ok' hk
  rw [e1, e2, e3] at this
  refine ⟨rfl, this.mono ?_⟩
  rintro e w'' ⟨rfl, t2, k2⟩
  have o2 := h.ok'.take hk
  rw [e3] at o2
  exact ⟨rfl, _, _, _, t2.swap, (h.bel.trans (k1.below (fun _ hi => hi))).trans (k2.below (fun _ hi => hi)), e4, h.ok.take hk, o2⟩
set_option maxHeartbeats 4000000 in
set_option maxRecDepth 100000 in
theorem db_any (ao : Option Addr) (len cap : Nat) (W : World) (ht : TabAt W)
    (hv : Hid (len = 0 ∨ ∃ b off f, ao = some ⟨b, off, none⟩ ∧ ActsAt W b off len f ∧ b < W.heap.size)) :
    Calls Tryd.prog 7 #[.slice ao len cap] W fun e w' => e = .returned (.bool true) ∧ Below W.heap.size W w' := by
  have hnew := dd_new W 12 ht (fun k => k < W.heap.size) (fun _ h => h)
  obtain ⟨D, HD⟩ : ∃ D, Hid (W.heap.size = D) := ⟨_, rfl⟩
  rw [HD.out] at hnew
  have o1 := Ok.new 12
  have c1 := Clean.new 12
  have m1 : Hid ((newD 12).most = 12) := (newD_still 12).most.trans clamp12
  generalize newD 12 = d1 at hnew o1 c1 m1
  go_enter Tryd.func7, Tryd.ntmps7
  go_wp2_with fail
  refine hnew.mono ?_
  rintro e w1 ⟨rfl, h1, b1⟩
  have hk1 : BK D W w1 d1 1 0 := ⟨h1, b1, c1, o1, m1⟩
  clear hnew h1 b1 o1 c1 m1
  go_wp2_with fail
  go_loopw [4] (fun iv wr => ∃ j : Nat, iv = .int .i64 j ∧ j ≤ 15 ∧ Acted D W wr j) (fun iv _ => 16 - (intOf iv).toNat)
  case atStart => exact ⟨0, rfl, by omega, _, _, hk1⟩
  case round =>
    clear hk1
    obtain ⟨j, rfl, hj, d, cnt, hl⟩ := hrel
    have hDw := hl.dd.lt
    by_cases hgo : j < len ∧ j < 15
    · obtain ⟨hlt, hj15⟩ := hgo
      rcases hv.out with h0 | ⟨b, off, f, rfl, ha, hbW⟩
      · omega
      · have hcell : ∀ i v, W.cell? ⟨b, i, none⟩ = some v → wr.cell? ⟨b, i, none⟩ = some v := fun i v hc => (World.cell?_of_block (a := ⟨b, i, none⟩) (hl.bel.block b (by rw [← HD.out]; exact hbW))).trans hc
        have c0 := hcell _ _ (ha.c0 j hlt)
        have c1 := hcell _ _ (ha.c1 j hlt)
        have c2 := hcell _ _ (ha.c2 j hlt)
        have c3 := hcell _ _ (ha.c3 j hlt)
        have c4 := hcell _ _ (ha.c4 j hlt)
        have c5 := hcell _ _ (ha.c5 j hlt)
        clear hcell
        have hl2 := hl.next ((Below.refl _ _).alloc (Nat.le_refl _) (.cells #[.int .i64 (f j).kd, .int .i64 (f j).pp, .int .i64 (f j).nn, .string (str (f j).si), .bool (f j).fu, .int .u8 ((f j).by_.toNat : Int)] 51))
        generalize (f j).kd = kd at c0 hl2
        generalize (f j).pp = pp at c1 hl2
        generalize (f j).nn = nn at c2 hl2
        generalize (f j).si = si at c3 hl2
        generalize (f j).fu = fu at c4 hl2
        generalize (f j).by_ = by_ at c5 hl2
        clear hl
        by_cases h1 : kd = 1
        · subst h1
          have HT := Lib.hid (bk_take hl2 (by omega))
          clear hl2
          go_wp2_with fail
          refine HT.out.mono ?_
          rintro e w3 ⟨rfl, h3⟩
          clear HT
          go_wp2
          go_roundw
          case rel => exact ⟨j + 1, by go_num, by omega, h3⟩
          case measure => simp [intOf]; omega
        · have hb1 : (kd == 1) = false := beq_eq_false_iff_ne.2 h1
          by_cases h2 : kd = 2
          · subst h2
            have HT := Lib.hid (bk_give hl2 (by omega) pp)
            clear hl2
            go_wp2_with fail
            refine HT.out.mono ?_
            rintro e w3 ⟨rfl, h3⟩
            clear HT
            go_wp2
            go_roundw
            case rel => exact ⟨j + 1, by go_num, by omega, h3⟩
            case measure => simp [intOf]; omega
          · have hb2 : (kd == 2) = false := beq_eq_false_iff_ne.2 h2
            by_cases h4 : kd = 4
            · subst h4
              have hbx := UK.Box.new wr #[.int .i64 4, .int .i64 pp, .int .i64 nn, .string (str si), .bool fu, .int .u8 (by_.toNat : Int)] 51
              go_wp2_with fail
              go_region_with (first
                | (go_at_call 16; refine (full_any si _).mono ?_; rintro e w3 ⟨rfl, b3⟩; have hl3 := (hl2.next (Below.refl _ _).drew).next b3; have hx3 := (hbx.next (Below.refl _ _).drew).next b3; have p1 := hx3.cell 1 _ rfl)
                | (go_at_call 15; refine (bk_write hl3 (by omega) pp (fullL si)).mono ?_; rintro e w4 ⟨rfl, h4⟩))
              all_goals
                clear hl2 hl3 hbx hx3 p1 b3
                go_wp2
                go_roundw
                case rel => exact ⟨j + 1, by go_num, by omega, h4⟩
                case measure => simp [intOf]; omega
            · have hb4 : (kd == 4) = false := beq_eq_false_iff_ne.2 h4
              have h3 : Acted D W _ (j + 1) := ⟨_, _, hl2.more⟩
              clear hl2 h1 h2 h4
              go_wp2
              go_roundw
              case rel => exact ⟨j + 1, by go_num, by omega, h3⟩
              case measure => simp [intOf]; omega
    · have HF := Lib.hid (bk_flush hl (by omega))
      have HO := Lib.hid (bk_open hl (by omega))
      have hmost := hl.cl.fit.most.2.2
      have hcnt : cnt ≤ 12 := by rw [hl.most.out] at hmost; omega
      have HHL := Lib.hid hl
      clear hl hmost
      have hend : ¬ j < len ∨ (j < len ∧ ¬ j < 15) := by omega
      clear hgo
      rcases hend with hlt | ⟨hlt, hj15⟩
      all_goals
        go_wp2_with fail
        refine HF.out.mono ?_
        rintro e w2 ⟨rfl, h2, b2⟩
        have HB := Lib.hid (dd_bytes h2)
        have HO2 := Lib.hid (HO.out w2 h2 b2)
        clear HO HF
        generalize flushD d cnt = df at h2 HB HO2
        go_wp2_with fail
        refine HB.out.mono ?_
        rintro e w3 ⟨rfl, rfl⟩
        go_wp2_with fail
        refine HO2.out.mono ?_
        rintro e w4 ⟨X, x, rfl, h4⟩
        clear HO2 HB h2 b2
        have HK := Lib.hid (bo_counts h4)
        go_wp2_with fail
        refine HK.out.2.1.mono ?_
        rintro e w5 ⟨rfl, rfl⟩
        go_wp2_with fail
        refine HK.out.1.mono ?_
        rintro e w6 ⟨rfl, rfl⟩
        go_wp2_with fail
        refine HK.out.2.2.2.1.mono ?_
        rintro e w6 ⟨rfl, rfl⟩
        go_wp2_with fail
        refine HK.out.2.2.1.mono ?_
        rintro e w6 ⟨rfl, rfl⟩
        go_wp2_with fail
        refine HK.out.2.2.2.2.2.mono ?_
        rintro e w6 ⟨rfl, q, rfl⟩
        have h5 := h4.drewN q
        have HK5 := Lib.hid (bo_counts h5)
        clear HK
        go_wp2_with fail
        refine HK5.out.2.2.2.2.1.mono ?_
        rintro e w6 ⟨rfl, q2, rfl⟩
        have h6 := h4.drewN (q + q2)
        clear HK5
        go_wp2_with fail
        go_loopw [8] (fun pv wr => ∃ (p k : Nat) (d x : Dk), pv = .int .i64 p ∧ 1 ≤ p ∧ p ≤ 12 ∧ k ≤ 16 + p ∧ BO D X W wr d x cnt k) (fun pv _ => 13 - (intOf pv).toNat)
        case atStart => exact ⟨1, j + 1, _, _, rfl, by omega, by omega, by omega, h6⟩
        case round =>
          clear h4 h5 h6
          obtain ⟨p, k, d, x, rfl, hp1, hp2, hk, hl⟩ := hrel
          have HK := Lib.hid (bo_counts hl)
          by_cases hpc : p < cnt
          · obtain ⟨s, e0, hr⟩ := bo_read hl (by omega) (p : Int)
            have HR := Lib.hid hr
            clear hr hl
            go_wp2_with fail
            refine HK.out.1.mono ?_
            rintro e w6 ⟨rfl, rfl⟩
            clear HK
            go_wp2_with fail
            refine HR.out.mono ?_
            rintro e w7 ⟨rfl, hr2⟩
            have HR2 := Lib.hid hr2
            clear hr2 HR
            go_wp2_with fail
            refine HR2.out.mono ?_
            rintro e w8 ⟨rfl, d', x', h8⟩
            clear HR2
            go_wp2
            go_roundw
            case rel => exact ⟨p + 1, k + 1, d', x', by go_num, by omega, by omega, by omega, h8⟩
            case measure => simp [intOf]; omega
          · have ht0 : BT D X W wr d x cnt k := ⟨hl.two, hl.bel, hl.like, hl.ok, hl.ok'⟩
            go_wp2_with fail
            refine HK.out.1.mono ?_
            rintro e w6 ⟨rfl, rfl⟩
            clear HK hl
            go_wp2_with fail
            go_loopw [13] (fun iv wr => ∃ (i k : Nat) (d x : Dk) (cnt : Nat), iv = .int .i64 i ∧ i ≤ 13 ∧ k ≤ 40 + i ∧ BT D X W wr d x cnt k) (fun iv _ => 14 - (intOf iv).toNat)
            case atStart => exact ⟨0, k, _, _, _, rfl, by omega, by omega, ht0⟩
            case round =>
              clear ht0
              obtain ⟨i, k, d, x, cnt, rfl, hi, hk, hl⟩ := hrel
              by_cases hi3 : i < 13
              · obtain ⟨s, e0, hr⟩ := bt_take hl (by omega)
                have HR := Lib.hid hr
                clear hr hl
                go_wp2_with fail
                refine HR.out.mono ?_
                rintro e w7 ⟨rfl, hr2⟩
                have HR2 := Lib.hid hr2
                clear hr2 HR
                go_wp2_with fail
                refine HR2.out.mono ?_
                rintro e w8 ⟨rfl, d', x', cnt', h8⟩
                clear HR2
                go_wp2
                go_roundw
                case rel => exact ⟨i + 1, k + 1, d', x', cnt', by go_num, by omega, by omega, h8⟩
                case measure => simp [intOf]; omega
              · have hlt2 := hl.two.dd.lt
                go_wp2_with fail
                refine (awake_any _ hl.two.dd.tab).mono ?_
                rintro e w9 ⟨rfl, b9⟩
                go_wp2
                go_ret
                exact ⟨rfl, by rw [HD.out]; exact hl.bel.trans (b9.mono (Nat.le_of_lt hlt2))⟩
end
set_option maxRecDepth 100000 in
theorem db_walk (W : World) (ht : TabAt W) {H : Type} {enc : TypeId × Value → H} {base : Nat} {d : DataW H} {p : List MemPlace} (v : Value) (hok : Value.okWide Tryd.prog W .any base 43 v) (h : DataW.Trod enc Tryd.prog W 0 (fun _ => true) true 43 v d p) :
    Calls Tryd.prog 7 #[v] W fun e w' => e = .returned (.bool true) ∧ Below W.heap.size W w' := by
  obtain ⟨ao, len, cap, rfl, hv⟩ := acts_open W v hok h
  exact db_any ao len cap W ht (Lib.hid hv)
end Go.Proofs.YtamnhpijeiigcaaDoor
