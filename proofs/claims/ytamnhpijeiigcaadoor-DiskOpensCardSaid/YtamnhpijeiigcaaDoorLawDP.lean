/-
  DiskOpens, walked: it returns true.
-/
import Derived.Test.YtamnhpijeiigcaaDoorLawDO
namespace Go.Proofs.YtamnhpijeiigcaaDoor
open Go.RowKit
open UK (str BytesAt nth Only w32 Row Box)
open Go.BigFrame
section
variable {E : Nat → Prop} {N k D xb : Nat} {W w w1 : World} {gp cp fc cnt : Nat} {fo : Option Addr} {d : Dk}
set_option maxHeartbeats 4000000 in
set_option maxRecDepth 100000 in
theorem do_any (si : List UInt8) (pages : Int) (ao : Option Addr) (len cap : Nat) (fl : Bool) (at_ : Int) (by_ : UInt8) (W : World) (ht : TabAt W)
    (hv : Hid (len = 0 ∨ ∃ b off f, ao = some ⟨b, off, none⟩ ∧ ActsAt W b off len f ∧ b < W.heap.size)) :
    Calls Tryd.prog 8 #[.string (str si), .int .i64 pages, .slice ao len cap, .bool fl, .int .i64 at_, .int .u8 (by_.toNat : Int)] W fun e w' => e = .returned (.bool true) ∧ Below W.heap.size W w' := by
  have hcut := cut_any si 4096 W (by omega)
  have hsc : (si.take (4096 : Int).toNat).length ≤ 4096 := by rw [List.length_take]; exact Nat.min_le_left _ _
  generalize si.take (4096 : Int).toNat = sc at hcut hsc
  have hnew := dd_new W 8 ht (fun k => k < W.heap.size) (fun _ h => h)
  have o1 := Ok.new 8
  have st := (newD_still 8).free
  have HR := Lib.hid (fun w => rnew_any 8 w)
  have HT := Lib.hid (show 0 < W.heap.size from ht.lt)
  obtain ⟨D, HD⟩ : ∃ D, Hid (W.heap.size = D) := ⟨_, rfl⟩
  rw [HD.out] at hnew HT
  have hnl : (newD 8).free.length = 0 := by rw [st]; rfl
  have HNL := Lib.hid hnl
  generalize newD 8 = d1 at hnew o1 HR HNL
  clear st hnl
  go_enter Tryd.func8, Tryd.ntmps8
  go_wp2_with fail
  refine hcut.mono ?_
  rintro e w0 ⟨rfl, rfl⟩
  go_wp2_with fail
  refine hnew.mono ?_
  rintro e w1 ⟨rfl, h1, b1⟩
  go_wp2_with fail
  refine (HR.out w1).mono ?_
  rintro e w2 ⟨gp, cp, rfl, hr, b2⟩
  unfold rval
  go_wp2_with fail
  have bA : Below w2.heap.size w2 (w2.alloc (.cells (rcells gp 1 cp none 0 0 d1) 46)) := (Below.refl _ _).alloc (Nat.le_refl _) _
  have b3 := b2.alloc b2.size (.cells (rcells gp 1 cp none 0 0 d1) 46)
  have hs1 : D ≤ w1.heap.size := by rw [← HD.out]; exact b1.size
  have hD1 : D < w1.heap.size := h1.lt
  have tab3 := (h1.below b3).tab
  refine (awake_any (w2.alloc (.cells (rcells gp 1 cp none 0 0 d1) 46)) tab3).mono ?_
  rintro e w4 ⟨rfl, b4⟩
  have hsz : (w2.alloc (.cells (rcells gp 1 cp none 0 0 d1) 46)).heap.size = w2.heap.size + 1 := by simp
  have b14 := b3.trans (b4.mono b3.size)
  have hr4 := (hr.below bA).below b4
  have hb4 := b4.size
  have hb2 := b2.size
  have hx4 : Box w4 w2.heap.size (rcells gp 1 cp none d1.free.length 0 d1) := by rw [HNL.out]; exact (Box.new _ _ _).next b4
  obtain ⟨xb, HXB⟩ : ∃ xb, Hid (w2.heap.size = xb) := ⟨_, rfl⟩
  have hgx : gp ≠ xb := by have := hr.pages.lt; have := HXB.out; omega
  have P4 : Pair (fun j => j < D ∨ j = xb) D w4 gp cp none 0 d1 1 := ⟨h1.grow b14 (fun j hj => by
    have := HXB.out
    rcases hj with (hj | rfl) | rfl | hj
    · exact .inl hj
    · exact .inr ⟨by omega, by omega⟩
    · exact .inr ⟨hr4.lowP, hr4.pages.lt⟩
    · cases hj), hr4.lower hs1⟩
  have B4 : Below D W w4 := b1.trans (b14.mono hs1)
  rw [HXB.out] at hx4
  have hD4 : D < w4.heap.size := by omega
  rw [HXB.out]
  have tab4 := P4.dd.tab
  have HOp := Lib.hid (fun w (ht : TabAt w) => opens_any sc pages w ht (by omega))
  have HOp2 := Lib.hid (fun x (hx : x.length ≤ 30720000) w (ht : TabAt w) => opens_any x pages w ht hx)
  clear hr hr4 b14 b3 b4 bA tab3 h1 b1 b2 hnew HR hcut hb4
  go_wp2_with fail
  refine (HOp.out _ tab4).mono ?_
  rintro e w40 ⟨rfl, b40⟩
  replace hx4 := hx4.next b40
  replace P4 := P4.below b40
  replace B4 := B4.trans (b40.mono (Nat.le_of_lt hD4))
  replace hD4 : D < w40.heap.size := Nat.lt_of_lt_of_le hD4 b40.size
  clear b40 tab4
  go_wp2_with fail
  go_loopw [15] (fun iv wr => ∃ (j : Nat) (d : Dk) (cnt gp cp : Nat) (fo : Option Addr) (fc : Nat), iv = .int .i64 j ∧ j ≤ 12 ∧ XM (fun j => j < D ∨ j = xb) D D xb W wr gp cp fo fc d cnt ∧ Ok d cnt j ∧ gp ≠ xb ∧ (∀ F, fo = some ⟨F, 0, none⟩ → F ≠ xb) ∧ D < wr.heap.size ∧ xb < wr.heap.size) (fun iv _ => 13 - (intOf iv).toNat)
  case atStart => exact ⟨0, d1, 1, gp, cp, none, 0, rfl, by omega, ⟨hx4, P4, B4, by omega⟩, o1, hgx, (fun F e => by cases e), hD4, hx4.lt⟩
  case round =>
    clear hx4 P4 B4 o1 hgx hD4
    obtain ⟨j, d, cnt, gp, cp, fo, fc, rfl, hj, hl, o, hgx, hfx, hDw, hxw⟩ := hrel
    obtain ⟨u0, u1, u2, u3, u4, u5, u6, uf⟩ := hl.x.cells7
    by_cases hgo : j < len ∧ j < 12
    · obtain ⟨hlt, hj12⟩ := hgo
      rcases hv.out with h0 | ⟨b, off, f, rfl, ha, hbW⟩
      · omega
      · have hcell : ∀ i v, W.cell? ⟨b, i, none⟩ = some v → wr.cell? ⟨b, i, none⟩ = some v := fun i v hc => (World.cell?_of_block (a := ⟨b, i, none⟩) (hl.bel.block b (by rw [← HD.out]; exact hbW))).trans hc
        have c0 := hcell _ _ (ha.c0 j hlt)
        have c1 := hcell _ _ (ha.c1 j hlt)
        have c2 := hcell _ _ (ha.c2 j hlt)
        have c3 := hcell _ _ (ha.c3 j hlt)
        have c4 := hcell _ _ (ha.c4 j hlt)
        have c5 := hcell _ _ (ha.c5 j hlt)
        go_upto_region 9 with (fail)
        go_cut [16, 17] (fun yv ov wx => YS D xb W wx gp cp fo fc d cnt j yv ov)
        case first =>
          have bY : Below wr.heap.size wr (wr.alloc (.cells zero7 46)).drew := ((Below.refl _ _).alloc (Nat.le_refl _) _).drew
          have hyb : Box (wr.alloc (.cells zero7 46)).drew wr.heap.size zero7 := (Box.new _ _ _).of_block rfl
          have hl' := hl.next bY
          have P' := hl.pair.growE (T := fun i => (i < D ∨ i = xb) ∨ i = wr.heap.size) bY (fun i hi => by
            rcases hi with hi | rfl
            · exact .inl hi
            · exact .inr ⟨Nat.le_refl _, hyb.lt⟩)
          have HDoes := Lib.hid (does_all P' o (by omega) (by have := hyb.lt; omega) HT.out (f j) (ha.n j hlt))
          have HDoes2 := Lib.hid (does_all (hl.pair.below (Below.refl _ _).drew) o (by omega) hDw HT.out (f j) (ha.n j hlt))
          obtain ⟨u0', u1', u2', u3', u4', u5', u6', uf'⟩ := hl'.x.cells7
          have hcA : ∀ i v, wr.cell? ⟨b, i, none⟩ = some v → (wr.alloc (.cells zero7 46)).cell? ⟨b, i, none⟩ = some v := fun i v hc => (World.cell?_of_block (a := ⟨b, i, none⟩) (Below.heap_alloc wr _ b (block_lt_of_cell (show wr.cell? ⟨b, i, none⟩ = some v from hc)))).trans hc
          have c0' := hcA _ _ c0
          have c1' := hcA _ _ c1
          have c2' := hcA _ _ c2
          have c3' := hcA _ _ c3
          have c4' := hcA _ _ c4
          have c5' := hcA _ _ c5
          clear hcA hcell
          go_region_with (first
            | (go_at_call 23; refine HDoes.out.mono ?_; rintro e w5 ⟨d', cnt', gp', cp', fo', fc', rfl, P5, o5, K5, hx5⟩; unfold rval; obtain ⟨t0, t1, t2, t3, t4, t5, t6, tf⟩ := (hyb.of_block (K5.block _ (.inr rfl))).cells7; have P6 := P5.lessE (T := fun i => i < D ∨ i = xb) (fun i hi => .inl hi); have x6 := hl'.x.of_block (K5.block _ (.inl (.inr rfl))); have B6 := hl'.bel.trans (K5.below (fun i hi => .inl (.inl hi))))
            | (go_at_call 23; refine HDoes2.out.mono ?_; rintro e w5 ⟨d', cnt', gp', cp', fo', fc', rfl, P6, o5, K5, hx5⟩; unfold rval; have x6 := hl.x.of_block (K5.block _ (.inr rfl)); have B6 := (hl.bel.drew).trans (K5.below (fun i hi => .inl hi))))
          all_goals
            have hgl := hl.pair.ref.pages.lt
            have hfl := fun F e => (hl.pair.ref.lowF F e).2
            have hD5 : D < w5.heap.size := by have := K5.size; simp at this; omega
            first
            | (have Y := ym_fill P5 x6 B6 hDw hxw HT.out (hyb.of_block (K5.block _ (.inr rfl))) hgl hfl (by simpa using hx5)
               have Z : gp' ≠ xb ∧ (∀ F, fo' = some ⟨F, 0, none⟩ → F ≠ xb) := by
                 simp at hx5
                 exact ⟨by rcases hx5.1 with e | e <;> omega, fun F e => by rcases hx5.2 F e with e | e; (exact hfx F e); omega⟩
               go_wp2_with fail
               go_meet
               case rel => exact ⟨wr.heap.size, gp', cp', fo', fc', d', cnt', rfl, rfl, Y, o5, Z.1, Z.2⟩)
            | (have Y := ym_alloc P6 x6 B6 hD5 46
               have Z : gp' ≠ xb ∧ (∀ F, fo' = some ⟨F, 0, none⟩ → F ≠ xb) := by
                 simp at hx5
                 exact ⟨by rcases hx5.1 with e | e <;> omega, fun F e => by rcases hx5.2 F e with e | e; (exact hfx F e); omega⟩
               go_wp2_with fail
               go_meet
               case rel => exact ⟨w5.heap.size, gp', cp', fo', fc', d', cnt', rfl, rfl, Y, o5, Z.1, Z.2⟩)
        case rest =>
          obtain ⟨yb, gp', cp', fo', fc', d', cnt', rfl, rfl, Y, o5, hgx', hfx'⟩ := hcut
          obtain ⟨u0, u1, u2, u3, u4, u5, u6, uf⟩ := Y.x.cells7
          obtain ⟨t0, t1, t2, t3, t4, t5, t6, tf⟩ := Y.y.cells7
          have hxD : D ≤ xb := by have := HXB.out; omega
          have hX := Y.turn hxD (by have := HT.out; omega) hgx' hfx'
          have hYlt := Y.lt
          have hYx := Y.x.lt
          go_wp2
          go_roundw
          case rel => exact ⟨j + 1, d', cnt', gp', cp', fo', fc', by go_num, by omega, hX, o5, hgx', hfx', by simp [World.setCell]; omega, by simp [World.setCell]; omega⟩
          case measure => simp [intOf]; omega
    · have hd : DD (fun i => i < D) wr D d cnt := hl.pair.dd.less (fun i hi => .inl (.inl hi))
      have hbel := hl.bel
      have hp := o.puts
      have hFW := Lib.hid (dd_failWrite hd (-1) (by omega))
      have hend : ¬ j < len ∨ (j < len ∧ ¬ j < 12) := by omega
      clear hgo hl u0 u1 u2 u3 u4 u5 u6 uf
      rcases hend with hlt | ⟨hlt, hj12⟩
      all_goals
        go_wp2_with fail
        refine hFW.out.mono ?_
        rintro e w2 ⟨rfl, h2, k2⟩
        have b2 := hbel.trans (k2.below (fun _ hi => hi))
        have hw2 : ({ d with wl := armN (-1) } : Dk).wl = -1 := rfl
        have hp2 : ({ d with wl := armN (-1) } : Dk).puts = d.puts := rfl
        generalize ({ d with wl := armN (-1) } : Dk) = d2 at h2 hw2 hp2
        clear hFW k2 hd hbel
        cases fl
        · have HS := Lib.hid (dd_spoil_u h2 at_ by_)
          clear hw2 hp2 h2
          go_wp2_with fail
          refine HS.out.mono ?_
          rintro e w3 ⟨rfl, h3, k3⟩
          have b3 := b2.trans (k3.below (fun _ hi => hi))
          clear HS k3 b2
          have HB := Lib.hid (dd_bytes h3)
          have HO := Lib.hid (HOp2.out (sD d2 cnt at_ by_).x (by rw [h3.fit.len]; have := h3.fit.few; omega) w3 h3.tab)
          have hDs := h3.lt
          clear h3
          go_wp2_with fail
          refine HB.out.mono ?_
          rintro e w4 ⟨rfl, rfl⟩
          go_wp2_with fail
          refine HO.out.mono ?_
          rintro e w5 ⟨rfl, b5⟩
          go_wp2
          go_ret
          exact ⟨rfl, HD.out ▸ b3.trans (b5.mono (Nat.le_of_lt hDs))⟩
        · have hfl := dd_flush h2 (by omega)
          rw [show failE d2.wl = 0 by unfold failE; rw [if_neg (by omega)]] at hfl
          have HF := Lib.hid hfl
          clear hfl hw2 hp2
          go_wp2_with fail
          refine HF.out.mono ?_
          rintro e w20 ⟨rfl, h20, k20⟩
          have b20 := b2.trans (k20.below (fun _ hi => hi))
          clear HF k20 h2 b2
          generalize flushD d2 cnt = d3 at h20
          have HS := Lib.hid (dd_spoil_u h20 at_ by_)
          clear h20
          go_wp2_with fail
          refine HS.out.mono ?_
          rintro e w3 ⟨rfl, h3, k3⟩
          have b3 := b20.trans (k3.below (fun _ hi => hi))
          clear HS k3 b20
          have HB := Lib.hid (dd_bytes h3)
          have HO := Lib.hid (HOp2.out (sD d3 cnt at_ by_).x (by rw [h3.fit.len]; have := h3.fit.few; omega) w3 h3.tab)
          have hDs := h3.lt
          clear h3
          go_wp2_with fail
          refine HB.out.mono ?_
          rintro e w4 ⟨rfl, rfl⟩
          go_wp2_with fail
          refine HO.out.mono ?_
          rintro e w5 ⟨rfl, b5⟩
          go_wp2
          go_ret
          exact ⟨rfl, HD.out ▸ b3.trans (b5.mono (Nat.le_of_lt hDs))⟩
end
set_option maxRecDepth 100000 in
theorem do_walk (W : World) (ht : TabAt W) (s : ByteArray) (pages : Int) (_hp : (Lit.int .i64 pages).wf = true) {H : Type} {enc : TypeId × Value → H} {base : Nat} {d : DataW H} {p : List MemPlace} (v : Value) (hok : Value.okWide Tryd.prog W .any base 43 v) (h : DataW.Trod enc Tryd.prog W 0 (fun _ => true) true 43 v d p) (fl : Bool) (at_ : Int) (_ha : (Lit.int .i64 at_).wf = true) (b : Int) (hb : (Lit.int .u8 b).wf = true) :
    Calls Tryd.prog 8 #[.string s, .int .i64 pages, v, .bool fl, .int .i64 at_, .int .u8 b] W fun e w' => e = .returned (.bool true) ∧ Below W.heap.size W w' := by
  rw [UK.str_self s]
  obtain ⟨ao, len, cap, rfl, hv⟩ := acts_open W v hok h
  obtain ⟨u, rfl⟩ := u8_of_wf hb
  exact do_any _ pages ao len cap fl at_ u W ht (Lib.hid hv)
end Go.Proofs.YtamnhpijeiigcaaDoor
