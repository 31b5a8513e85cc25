/-
  DiskPlays, walked: it returns true.
-/
import Derived.Test.YtamnhpijeiigcaaDoorPlayH
import Derived.Deep.RegionWith
import Derived.Deep.DeepCutAuto
namespace Go.Proofs.YtamnhpijeiigcaaDoor
open Go.RowKit
open UK (str BytesAt nth Only w32 Row Box)
open Go.BigFrame
section
variable {E : Nat → Prop} {N k D xb : Nat} {W w w1 : World} {gp cp fc cnt : Nat} {fo : Option Addr} {d : Dk}
theorem Pair.fillE (h : Pair E N w gp cp fo fc d cnt) (hE : E xb) (htab : 0 ≠ xb) (h1 : gp ≠ xb) (h2 : ∀ F, fo = some ⟨F, 0, none⟩ → F ≠ xb) (a0 a1 a2 a3 a4 a5 a6 : Value) : Pair E N (UK.fill7 w xb a0 a1 a2 a3 a4 a5 a6) gp cp fo fc d cnt := by
  have o := UK.Only.fill7 w xb a0 a1 a2 a3 a4 a5 a6
  have hlt := h.dd.there xb (.inl hE)
  exact ⟨(h.dd.push o (.inl (.inl hE)) (Nat.lt_of_lt_of_le hlt o.size) htab).less (fun j hj => .inl hj), h.ref.fill h1 h2 _ _ _ _ _ _ _⟩
theorem Pair.growE {T : Nat → Prop} (h : Pair E N w gp cp fo fc d cnt) (hb : Below w.heap.size w w1) (hT : ∀ j, T j → E j ∨ (w.heap.size ≤ j ∧ j < w1.heap.size)) : Pair T N w1 gp cp fo fc d cnt :=
  ⟨h.dd.grow hb (fun j hj => by
    rcases hj with hj | hj
    · rcases hT j hj with h1 | h1
      · exact .inl (.inl h1)
      · exact .inr h1
    · exact .inl (.inr hj)), h.ref.below hb⟩
theorem Pair.lessE {T : Nat → Prop} (h : Pair E N w gp cp fo fc d cnt) (hT : ∀ j, T j → E j) : Pair T N w gp cp fo fc d cnt := ⟨h.dd.less (fun j hj => by
    rcases hj with hj | hj
    · exact .inl (hT j hj)
    · exact .inr hj), h.ref⟩
/-- within the law: x in its struct at xb -/
structure XM (E : Nat → Prop) (N D xb : Nat) (W w : World) (gp cp : Nat) (fo : Option Addr) (fc : Nat) (d : Dk) (cnt : Nat) : Prop where
  x : Box w xb (rcells gp cnt cp fo d.free.length fc d)
  pair : Pair E N w gp cp fo fc d cnt
  bel : Below D W w
  lt : D ≤ w.heap.size
theorem XM.next (h : XM E N D xb W w gp cp fo fc d cnt) (hb : Below w.heap.size w w1) : XM E N D xb W w1 gp cp fo fc d cnt := ⟨h.x.next hb, h.pair.below hb, h.bel.trans (hb.mono h.lt), Nat.le_trans h.lt hb.size⟩
/-- behind Does: x as it was, y as it is to be -/
structure YM (D xb yb : Nat) (W w : World) (gp cp : Nat) (fo : Option Addr) (fc : Nat) (d : Dk) (cnt : Nat) (gp' cp' : Nat) (fo' : Option Addr) (fc' : Nat) (d' : Dk) (cnt' : Nat) : Prop where
  pair : Pair (fun i => i < D ∨ i = xb) D w gp' cp' fo' fc' d' cnt'
  x : Box w xb (rcells gp cnt cp fo d.free.length fc d)
  y : Box w yb (rcells gp' cnt' cp' fo' d'.free.length fc' d')
  bel : Below D W w
  lt : D < w.heap.size
variable {yb gp' cp' fc' cnt' : Nat} {fo' : Option Addr} {d' : Dk}
theorem ym_alloc (P6 : Pair (fun i => i < D ∨ i = xb) D w gp' cp' fo' fc' d' cnt') (x6 : Box w xb (rcells gp cnt cp fo d.free.length fc d)) (B6 : Below D W w) (hD : D < w.heap.size) (t : TypeId) :
    YM D xb w.heap.size W (w.alloc (.cells (rcells gp' cnt' cp' fo' d'.free.length fc' d') t)) gp cp fo fc d cnt gp' cp' fo' fc' d' cnt' := by
  have b : Below w.heap.size w (w.alloc (.cells (rcells gp' cnt' cp' fo' d'.free.length fc' d') t)) := (Below.refl _ _).alloc (Nat.le_refl _) _
  exact ⟨P6.below b, x6.next b, Box.new _ _ _, B6.trans (b.mono (Nat.le_of_lt hD)), Nat.lt_of_lt_of_le hD b.size⟩
theorem ym_fill {b0 b1 b2 b3 b4 b5 b6 : Value} (P5 : Pair (fun i => (i < D ∨ i = xb) ∨ i = yb) D w gp' cp' fo' fc' d' cnt') (x6 : Box w xb (rcells gp cnt cp fo d.free.length fc d)) (B6 : Below D W w) (hD : D < yb) (hx : xb < yb) (_hq : 0 < D) (hy : Box w yb #[b0, b1, b2, b3, b4, b5, b6]) (hg : gp < yb) (hf : ∀ F, fo = some ⟨F, 0, none⟩ → F < yb)
    (hh : (gp' = gp ∨ yb + 1 ≤ gp') ∧ ∀ F, fo' = some ⟨F, 0, none⟩ → fo = some ⟨F, 0, none⟩ ∨ yb + 1 ≤ F) :
    YM D xb yb W (UK.fill7 w yb (.slice (some ⟨gp', 0, none⟩) cnt' cp') (.slice fo' d'.free.length fc') (.int .i64 d'.most) (.int .i64 d'.rl) (.int .i64 d'.wl) (.int .i64 d'.reads) (.int .i64 d'.puts)) gp cp fo fc d cnt gp' cp' fo' fc' d' cnt' := by
  have hlt := hy.lt
  refine ⟨(P5.fillE (.inr rfl) (by omega) (by rcases hh.1 with e | e <;> omega) (fun F e => by rcases hh.2 F e with e | e; (have := hf F e; omega); omega) _ _ _ _ _ _ _).lessE (fun j hj => .inl hj), x6.fill7_far (by omega) _ _ _ _ _ _ _, hy.fill7 _ _ _ _ _ _ _, UK.Below.fill7 B6 (by omega) _ _ _ _ _ _ _, ?_⟩
  rw [UK.fill7_size]; omega
theorem YM.turn (Y : YM D xb yb W w gp cp fo fc d cnt gp' cp' fo' fc' d' cnt') (hx : D ≤ xb) (hq : 0 ≠ xb) (h1 : gp' ≠ xb) (h2 : ∀ F, fo' = some ⟨F, 0, none⟩ → F ≠ xb) :
    XM (fun i => i < D ∨ i = xb) D D xb W (UK.fill7 w xb (.slice (some ⟨gp', 0, none⟩) cnt' cp') (.slice fo' d'.free.length fc') (.int .i64 d'.most) (.int .i64 d'.rl) (.int .i64 d'.wl) (.int .i64 d'.reads) (.int .i64 d'.puts)) gp' cp' fo' fc' d' cnt' :=
  ⟨Y.x.fill7 _ _ _ _ _ _ _, Y.pair.fillE (.inr rfl) hq h1 h2 _ _ _ _ _ _ _, UK.Below.fill7 Y.bel hx _ _ _ _ _ _ _, by rw [UK.fill7_size]; exact Nat.le_of_lt Y.lt⟩
theorem exit_world {Q : Exit → Act → World → Prop} {a : Act} {w : World} (R : World → Prop) (hR : R w) (h : ∀ w', R w' → Q .normal a w') : Q .normal a w := h w hR
theorem xm_bytes (h : XM E N D xb W w gp cp fo fc d cnt) :
    Calls Tryd.prog 25 #[.pointer (some ⟨N, 0, none⟩)] w fun e w' => e = .returned (.string (str d.x)) ∧ XM E N D xb W w' gp cp fo fc d cnt := (dd_bytes h.pair.dd).mono fun _ _ ⟨a, e⟩ => ⟨a, e ▸ h⟩
theorem xm_rbytes (h : XM E N D xb W w gp cp fo fc d cnt) (f : Fit d cnt) :
    Calls Tryd.prog 26 #[rval gp cnt cp fo d.free.length fc d] w fun e w' => e = .returned (.string (str d.x)) ∧ XM E N D xb W w' gp cp fo fc d cnt := (rbytes_any h.pair.ref f).mono fun _ _ ⟨a, b⟩ => ⟨a, h.next b⟩
/-- behind Does, in the law -/
def YS (D xb : Nat) (W w : World) (gp cp : Nat) (fo : Option Addr) (fc : Nat) (d : Dk) (cnt j : Nat) (yv ov : Value) : Prop :=
  ∃ yb gp' cp' fo' fc' d' cnt', yv = .pointer (some ⟨yb, 0, none⟩) ∧ ov = .int .i64 0 ∧ YM D xb yb W w gp cp fo fc d cnt gp' cp' fo' fc' d' cnt' ∧ Ok d' cnt' (j + 1) ∧ gp' ≠ xb ∧ (∀ F, fo' = some ⟨F, 0, none⟩ → F ≠ xb)
set_option maxHeartbeats 4000000 in
set_option maxRecDepth 100000 in
theorem dp_any (n : Int) (hn : n ≤ 30) (ao : Option Addr) (len cap : Nat) (W : World) (ht : TabAt W)
    (hv : Hid (len = 0 ∨ ∃ b off f, ao = some ⟨b, off, none⟩ ∧ ActsAt W b off len f ∧ b < W.heap.size)) :
    Calls Tryd.prog 6 #[.int .i64 n, .slice ao len cap] W fun e w' => e = .returned (.bool true) ∧ Below W.heap.size W w' := by
  have hnew := dd_new W n ht (fun k => k < W.heap.size) (fun _ h => h)
  have o1 := Ok.new n
  have st := (newD_still n).free
  have HR := Lib.hid (fun w => rnew_any n w)
  have HT := Lib.hid (show 0 < W.heap.size from ht.lt)
  obtain ⟨D, HD⟩ : ∃ D, Hid (W.heap.size = D) := ⟨_, rfl⟩
  rw [HD.out] at hnew HT
  have hnl : (newD n).free.length = 0 := by rw [st]; rfl
  have HNL := Lib.hid hnl
  generalize newD n = d1 at hnew o1 HR HNL
  clear st hnl
  go_enter Tryd.func6, Tryd.ntmps6
  go_wp2_with fail
  refine hnew.mono ?_
  rintro e w1 ⟨rfl, h1, b1⟩
  go_wp2_with fail
  refine (HR.out w1).mono ?_
  rintro e w2 ⟨gp, cp, rfl, hr, b2⟩
  unfold rval
  go_wp2_with fail
  have bA : Below w2.heap.size w2 (w2.alloc (.cells (rcells gp 1 cp none 0 0 d1) 46)) := (Below.refl _ _).alloc (Nat.le_refl _) _
  have b3 := b2.alloc b2.size (.cells (rcells gp 1 cp none 0 0 d1) 46)
  have hs1 : D ≤ w1.heap.size := by rw [← HD.out]; exact b1.size
  have hD1 : D < w1.heap.size := h1.lt
  have tab3 := (h1.below b3).tab
  refine (awake_any (w2.alloc (.cells (rcells gp 1 cp none 0 0 d1) 46)) tab3).mono ?_
  rintro e w4 ⟨rfl, b4⟩
  have hsz : (w2.alloc (.cells (rcells gp 1 cp none 0 0 d1) 46)).heap.size = w2.heap.size + 1 := by simp
  have b14 := b3.trans (b4.mono b3.size)
  have hr4 := (hr.below bA).below b4
  have hb4 := b4.size
  have hb2 := b2.size
  have hx4 : Box w4 w2.heap.size (rcells gp 1 cp none d1.free.length 0 d1) := by rw [HNL.out]; exact (Box.new _ _ _).next b4
  obtain ⟨xb, HXB⟩ : ∃ xb, Hid (w2.heap.size = xb) := ⟨_, rfl⟩
  have hgx : gp ≠ xb := by have := hr.pages.lt; have := HXB.out; omega
  have P4 : Pair (fun j => j < D ∨ j = xb) D w4 gp cp none 0 d1 1 := ⟨h1.grow b14 (fun j hj => by
    have := HXB.out
    rcases hj with (hj | rfl) | rfl | hj
    · exact .inl hj
    · exact .inr ⟨by omega, by omega⟩
    · exact .inr ⟨hr4.lowP, hr4.pages.lt⟩
    · cases hj), hr4.lower hs1⟩
  have B4 : Below D W w4 := b1.trans (b14.mono hs1)
  rw [HXB.out] at hx4
  have hD4 : D < w4.heap.size := by omega
  rw [HXB.out]
  clear hr hr4 b14 b3 b4 bA tab3 h1 b1 b2 hnew HR
  go_wp2_with fail
  go_loopw [7] (fun iv wr => ∃ (j : Nat) (d : Dk) (cnt gp cp : Nat) (fo : Option Addr) (fc : Nat), iv = .int .i64 j ∧ j ≤ 30 ∧ XM (fun j => j < D ∨ j = xb) D D xb W wr gp cp fo fc d cnt ∧ Ok d cnt j ∧ gp ≠ xb ∧ (∀ F, fo = some ⟨F, 0, none⟩ → F ≠ xb) ∧ D < wr.heap.size ∧ xb < wr.heap.size) (fun iv _ => 31 - (intOf iv).toNat)
  case atStart => exact ⟨0, d1, 1, gp, cp, none, 0, rfl, by omega, ⟨hx4, P4, B4, by omega⟩, o1, hgx, (fun F e => by cases e), hD4, hx4.lt⟩
  case round =>
    clear hx4 P4 B4 o1 hgx hD4
    obtain ⟨j, d, cnt, gp, cp, fo, fc, rfl, hj, hl, o, hgx, hfx, hDw, hxw⟩ := hrel
    obtain ⟨u0, u1, u2, u3, u4, u5, u6, uf⟩ := hl.x.cells7
    by_cases hgo : j < len ∧ j < 30
    · obtain ⟨hlt, hj30⟩ := hgo
      rcases hv.out with h0 | ⟨b, off, f, rfl, ha, hbW⟩
      · omega
      · have hcell : ∀ i v, W.cell? ⟨b, i, none⟩ = some v → wr.cell? ⟨b, i, none⟩ = some v := fun i v hc => (World.cell?_of_block (a := ⟨b, i, none⟩) (hl.bel.block b (by rw [← HD.out]; exact hbW))).trans hc
        have c0 := hcell _ _ (ha.c0 j hlt)
        have c1 := hcell _ _ (ha.c1 j hlt)
        have c2 := hcell _ _ (ha.c2 j hlt)
        have c3 := hcell _ _ (ha.c3 j hlt)
        have c4 := hcell _ _ (ha.c4 j hlt)
        have c5 := hcell _ _ (ha.c5 j hlt)
        go_upto_region 10 with (fail)
        go_cut [8, 9] (fun yv ov wx => YS D xb W wx gp cp fo fc d cnt j yv ov)
        case first =>
          have bY : Below wr.heap.size wr (wr.alloc (.cells zero7 46)).drew := ((Below.refl _ _).alloc (Nat.le_refl _) _).drew
          have hyb : Box (wr.alloc (.cells zero7 46)).drew wr.heap.size zero7 := (Box.new _ _ _).of_block rfl
          have hl' := hl.next bY
          have P' := hl.pair.growE (T := fun i => (i < D ∨ i = xb) ∨ i = wr.heap.size) bY (fun i hi => by
            rcases hi with hi | rfl
            · exact .inl hi
            · exact .inr ⟨Nat.le_refl _, hyb.lt⟩)
          have HDoes := Lib.hid (does_all P' o (by omega) (by have := hyb.lt; omega) HT.out (f j) (ha.n j hlt))
          have HDoes2 := Lib.hid (does_all (hl.pair.below (Below.refl _ _).drew) o (by omega) hDw HT.out (f j) (ha.n j hlt))
          obtain ⟨u0', u1', u2', u3', u4', u5', u6', uf'⟩ := hl'.x.cells7
          have hcA : ∀ i v, wr.cell? ⟨b, i, none⟩ = some v → (wr.alloc (.cells zero7 46)).cell? ⟨b, i, none⟩ = some v := fun i v hc => (World.cell?_of_block (a := ⟨b, i, none⟩) (Below.heap_alloc wr _ b (block_lt_of_cell (show wr.cell? ⟨b, i, none⟩ = some v from hc)))).trans hc
          have c0' := hcA _ _ c0
          have c1' := hcA _ _ c1
          have c2' := hcA _ _ c2
          have c3' := hcA _ _ c3
          have c4' := hcA _ _ c4
          have c5' := hcA _ _ c5
          clear hcA hcell
          go_region_with (first
            | (go_at_call 23; refine HDoes.out.mono ?_; rintro e w5 ⟨d', cnt', gp', cp', fo', fc', rfl, P5, o5, K5, hx5⟩; unfold rval; obtain ⟨t0, t1, t2, t3, t4, t5, t6, tf⟩ := (hyb.of_block (K5.block _ (.inr rfl))).cells7; have P6 := P5.lessE (T := fun i => i < D ∨ i = xb) (fun i hi => .inl hi); have x6 := hl'.x.of_block (K5.block _ (.inl (.inr rfl))); have B6 := hl'.bel.trans (K5.below (fun i hi => .inl (.inl hi))))
            | (go_at_call 23; refine HDoes2.out.mono ?_; rintro e w5 ⟨d', cnt', gp', cp', fo', fc', rfl, P6, o5, K5, hx5⟩; unfold rval; have x6 := hl.x.of_block (K5.block _ (.inr rfl)); have B6 := (hl.bel.drew).trans (K5.below (fun i hi => .inl hi))))
          all_goals
            have hgl := hl.pair.ref.pages.lt
            have hfl := fun F e => (hl.pair.ref.lowF F e).2
            have hD5 : D < w5.heap.size := by have := K5.size; simp at this; omega
            first
            | (have Y := ym_fill P5 x6 B6 hDw hxw HT.out (hyb.of_block (K5.block _ (.inr rfl))) hgl hfl (by simpa using hx5)
               have Z : gp' ≠ xb ∧ (∀ F, fo' = some ⟨F, 0, none⟩ → F ≠ xb) := by
                 simp at hx5
                 exact ⟨by rcases hx5.1 with e | e <;> omega, fun F e => by rcases hx5.2 F e with e | e; (exact hfx F e); omega⟩
               go_wp2_with fail
               go_meet
               case rel => exact ⟨wr.heap.size, gp', cp', fo', fc', d', cnt', rfl, rfl, Y, o5, Z.1, Z.2⟩)
            | (have Y := ym_alloc P6 x6 B6 hD5 46
               have Z : gp' ≠ xb ∧ (∀ F, fo' = some ⟨F, 0, none⟩ → F ≠ xb) := by
                 simp at hx5
                 exact ⟨by rcases hx5.1 with e | e <;> omega, fun F e => by rcases hx5.2 F e with e | e; (exact hfx F e); omega⟩
               go_wp2_with fail
               go_meet
               case rel => exact ⟨w5.heap.size, gp', cp', fo', fc', d', cnt', rfl, rfl, Y, o5, Z.1, Z.2⟩)
        case rest =>
          obtain ⟨yb, gp', cp', fo', fc', d', cnt', rfl, rfl, Y, o5, hgx', hfx'⟩ := hcut
          obtain ⟨u0, u1, u2, u3, u4, u5, u6, uf⟩ := Y.x.cells7
          obtain ⟨t0, t1, t2, t3, t4, t5, t6, tf⟩ := Y.y.cells7
          have hxD : D ≤ xb := by have := HXB.out; omega
          have hX := Y.turn hxD (by have := HT.out; omega) hgx' hfx'
          have hSame := Lib.hid (same_any hX.pair o5.fit)
          unfold rval at hSame
          go_wp2_with fail
          refine hSame.out.mono ?_
          rintro e w7 ⟨rfl, P7, b7⟩
          have hX7 := hX.next b7
          have hs7 := b7.size
          rw [UK.fill7_size] at hs7
          have hYlt := Y.lt
          have hYx := Y.x.lt
          clear hSame hX u0 u1 u2 u3 u4 u5 u6 uf t0 t1 t2 t3 t4 t5 t6 tf b7
          go_wp2
          go_roundw
          case rel => exact ⟨j + 1, d', cnt', gp', cp', fo', fc', by go_num, by omega, hX7, o5, hgx', hfx', by omega, by omega⟩
          case measure => simp [intOf]; omega
    · have hEnd : ∀ V, XM (fun j => j < D ∨ j = xb) D D xb W V gp cp fo fc d cnt → XM (fun j => j < D ∨ j = xb) D D xb W V.drew gp cp fo fc d cnt := fun V h => h.next ((Below.refl _ _).drew)
      have HE := Lib.hid hEnd
      clear hEnd
      haveI : Nonempty (UK.Kept fun w' => XM (fun j => j < D ∨ j = xb) D D xb W w' gp cp fo fc d cnt) := ⟨⟨wr, hl⟩⟩
      have v0 : ∀ k : UK.Kept (fun w' => XM (fun j => j < D ∨ j = xb) D D xb W w' gp cp fo fc d cnt), k.w.cell? ⟨xb, 0, none⟩ = some (.slice (some ⟨gp, 0, none⟩) cnt cp) := fun k => k.h.x.cell 0 _ rfl
      have v1 : ∀ k : UK.Kept (fun w' => XM (fun j => j < D ∨ j = xb) D D xb W w' gp cp fo fc d cnt), k.w.cell? ⟨xb, 1, none⟩ = some (.slice fo d.free.length fc) := fun k => k.h.x.cell 1 _ rfl
      have v2 : ∀ k : UK.Kept (fun w' => XM (fun j => j < D ∨ j = xb) D D xb W w' gp cp fo fc d cnt), k.w.cell? ⟨xb, 2, none⟩ = some (.int .i64 d.most) := fun k => k.h.x.cell 2 _ rfl
      have v3 : ∀ k : UK.Kept (fun w' => XM (fun j => j < D ∨ j = xb) D D xb W w' gp cp fo fc d cnt), k.w.cell? ⟨xb, 3, none⟩ = some (.int .i64 d.rl) := fun k => k.h.x.cell 3 _ rfl
      have v4 : ∀ k : UK.Kept (fun w' => XM (fun j => j < D ∨ j = xb) D D xb W w' gp cp fo fc d cnt), k.w.cell? ⟨xb, 4, none⟩ = some (.int .i64 d.wl) := fun k => k.h.x.cell 4 _ rfl
      have v5 : ∀ k : UK.Kept (fun w' => XM (fun j => j < D ∨ j = xb) D D xb W w' gp cp fo fc d cnt), k.w.cell? ⟨xb, 5, none⟩ = some (.int .i64 d.reads) := fun k => k.h.x.cell 5 _ rfl
      have v6 : ∀ k : UK.Kept (fun w' => XM (fun j => j < D ∨ j = xb) D D xb W w' gp cp fo fc d cnt), k.w.cell? ⟨xb, 6, none⟩ = some (.int .i64 d.puts) := fun k => k.h.x.cell 6 _ rfl
      have HK : ∀ p : UK.Kept (fun w' => XM (fun j => j < D ∨ j = xb) D D xb W w' gp cp fo fc d cnt), XM (fun j => j < D ∨ j = xb) D D xb W p.w gp cp fo fc d cnt := fun p => p.h
      have hft := o.fit
      have hbt := fun k : UK.Kept (fun w' => XM (fun j => j < D ∨ j = xb) D D xb W w' gp cp fo fc d cnt) => xm_rbytes k.h hft
      unfold rval at hbt
      have HB := Lib.hid hbt
      clear hbt
      by_cases hlt : j < len
      · have hj30 : ¬ j < 30 := fun h => hgo ⟨hlt, h⟩
        clear hgo
        go_wp2_with fail
        refine UK.wp_region_kept (fun w' => XM (fun j => j < D ∨ j = xb) D D xb W w' gp cp fo fc d cnt) (by kernel_rfl) (by kernel_rfl) (HE.out _ hl) ?_
        repeat (go_big_quiet_step (first | exact UK.kept_of (xm_bytes (HK _)) (fun _ _ hh => hh) | exact UK.kept_of (HB.out _) (fun _ _ hh => hh)))
        refine wpQuiet_nil ?_
        rintro ⟨w8, hl8⟩
        go_wp2
        go_ret
        exact ⟨by simp, HD.out ▸ hl8.bel⟩
      · clear hgo
        go_wp2_with fail
        refine UK.wp_region_kept (fun w' => XM (fun j => j < D ∨ j = xb) D D xb W w' gp cp fo fc d cnt) (by kernel_rfl) (by kernel_rfl) (HE.out _ hl) ?_
        repeat (go_big_quiet_step (first | exact UK.kept_of (xm_bytes (HK _)) (fun _ _ hh => hh) | exact UK.kept_of (HB.out _) (fun _ _ hh => hh)))
        refine wpQuiet_nil ?_
        rintro ⟨w8, hl8⟩
        go_wp2
        go_ret
        exact ⟨by simp, HD.out ▸ hl8.bel⟩
end
end Go.Proofs.YtamnhpijeiigcaaDoor
