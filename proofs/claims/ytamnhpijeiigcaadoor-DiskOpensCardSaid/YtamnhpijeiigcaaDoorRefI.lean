/-
  The document's disk: New, Bytes, Spoil.
-/
import Derived.Test.YtamnhpijeiigcaaDoorRefD
namespace Go.Proofs.YtamnhpijeiigcaaDoor
open Go.RowKit
open UK (str BytesAt nth Only w32 Row Box)
open Go.BigFrame
section
variable {N : Nat} {W W' w : World} {gp cp fc cnt : Nat} {fo : Option Addr} {d d' : Dk}
theorem take_pages (x : List UInt8) (m : Nat) : x.take (512 * m) ++ pgOf x m = x.take (512 * (m + 1)) := by
  unfold pgOf
  rw [← List.take_add]
  congr 1
theorem page_set (x : List UInt8) (q r : Nat) (v : UInt8) (hr : r < 512) (h : 512 * (q + 1) ≤ x.length) : UK.wr x (512 * q) ((pgOf x q).set r v) = x.set (512 * q + r) v := by
  have hl := pgOf_length h
  have hsl : ((pgOf x q).set r v).length = 512 := by rw [List.length_set]; exact hl
  refine ext_nth (by rw [UK.wr_length _ _ _ (by omega), List.length_set]) (fun i hi => ?_)
  rw [UK.wr_length _ _ _ (by omega)] at hi
  have e2 := nth_set x (512 * q + r) i v (by omega)
  rw [e2, nth_wr _ _ _ _ (by omega), hsl]
  by_cases h1 : 512 * q ≤ i ∧ i < 512 * q + 512
  · rw [if_pos h1, nth_set _ _ _ _ (by omega)]
    by_cases h2 : 512 * q + r = i
    · rw [if_pos h2, if_pos (by omega)]
    · rw [if_neg h2, if_neg (by omega), nth_pg _ _ _ (by omega), show 512 * q + (i - 512 * q) = i by omega]
  · rw [if_neg h1, if_neg (by omega)]
set_option maxHeartbeats 1000000 in
set_option maxRecDepth 100000 in
theorem rbytes_any (h : RefAt N W gp cp fo fc d cnt) (f : Fit d cnt) :
    Calls Tryd.prog 26 #[rval gp cnt cp fo d.free.length fc d] W fun e w' => e = .returned (.string (str d.x)) ∧ Below W.heap.size W w' := by
  have hfew := f.few
  have hlen := f.len
  have b0 := (Below.refl W.heap.size W).alloc (Nat.le_refl _) (.cells (rcells gp cnt cp fo d.free.length fc d) 46)
  unfold rval
  go_enter Tryd.func26, Tryd.ntmps26
  go_wp2_with fail
  go_loopw [3, 9] (fun sv ix wr => ∃ m : Nat, m ≤ cnt ∧ sv = .string (str (d.x.take (512 * m))) ∧ ix = .int .i64 m ∧ Below W.heap.size W wr) (fun _ ix _ => 70000 - (intOf ix).toNat)
  case atStart => exact ⟨0, Nat.zero_le _, rfl, rfl, b0⟩
  case round =>
    obtain ⟨m, hm, rfl, rfl, hb⟩ := hrel
    by_cases hml : m < cnt
    · have hpg := (h.below hb).page m hml
      have hgl := pgOf_length (x := d.x) (p := m) (by rw [hlen]; omega)
      have htl : (d.x.take (512 * m)).length = 512 * m := by rw [List.length_take]; omega
      have HX := Lib.hid (take_pages d.x m)
      have hcm : m < cp := by have := h.pages.le; rw [texts_length, pagesOf_length] at this; omega
      clear hlen
      go_wp2
      go_roundw
      case rel => exact ⟨m + 1, by omega, by rw [HX.out], by go_num, hb.alloc hb.size _⟩
      case measure => simp [intOf]; omega
    · obtain rfl : m = cnt := by omega
      have HX : Hid (d.x.take (512 * m) = d.x) := by show _ = _; rw [← hlen, List.take_length]
      clear hlen
      go_wp2
      go_ret
      exact ⟨by rw [HX.out] <;> rfl, hb⟩
set_option maxHeartbeats 1000000 in
set_option maxRecDepth 100000 in
theorem rspoil_any (h : RefAt N W gp cp fo fc d cnt) (hN : N ≤ W.heap.size) (f : Fit d cnt) (k : Nat) (hk : k < 512 * cnt) (b : UInt8) :
    Calls Tryd.prog 44 #[rval gp cnt cp fo d.free.length fc d, .int .i64 k, .int .u8 b.toNat] W fun e w' => Was N W w' gp fo (spoilD d k b) cnt (fun v => .tuple #[v, .bool true]) e := by
  obtain ⟨V, HV, hd⟩ := RS.begin h
  have hfew := f.few
  obtain ⟨q, hq⟩ : ∃ q, k / 512 = q := ⟨_, rfl⟩
  obtain ⟨r, hr⟩ : ∃ r, k % 512 = r := ⟨_, rfl⟩
  have hq1 : (k : Int) / 512 = (q : Int) := by omega
  have hr1 : (k : Int) % 512 = (r : Int) := by omega
  have hqc : q < cnt := by omega
  have hr5 : r < 512 := by omega
  have hqp : q < cp := by have := h.pages.le; rw [texts_length, pagesOf_length] at this; omega
  have hgl := pgOf_length (x := d.x) (p := q) (by rw [f.len]; omega)
  have cV := hd.ref.page q hqc
  have hsz : V.heap.size = W.heap.size + 1 + 1 := by rw [HV.out]; simp
  obtain ⟨cap, o, hcap, e, hbt⟩ := UK.run_bytes (P := Tryd.prog) (src := 9) (dst := 36) Tryd.underlying9 Tryd.underlying36 Tryd.underlying5 V (pgOf d.x q)
  rw [hgl, hsz] at e
  rw [hsz] at hbt
  have hbt2 : BytesAt (V.alloc o) (W.heap.size + 1 + 1) (pgOf d.x q ++ List.replicate (cap - (pgOf d.x q).length) 0) := hbt.of_block rfl
  have hyl : (pgOf d.x q ++ List.replicate (cap - (pgOf d.x q).length) (0 : UInt8)).length = cap := by rw [List.length_append, List.length_replicate]; omega
  have hyn : nth (pgOf d.x q ++ List.replicate (cap - (pgOf d.x q).length) (0 : UInt8)) r = nth (pgOf d.x q) r := by
    unfold nth
    rw [List.getD_eq_getElem?_getD, List.getD_eq_getElem?_getD, List.getElem?_append_left (by omega)]
  have cb := hbt2.cell (i := r) (by omega)
  rw [hyn] at cb
  have cfr := hbt2.free (i := r) (by omega)
  have hset := hbt2.set r (UK.xr8 (nth (pgOf d.x q) r) b)
  have hxs : (pgOf d.x q ++ List.replicate (cap - (pgOf d.x q).length) (0 : UInt8)).set r (UK.xr8 (nth (pgOf d.x q) r) b) = (pgOf d.x q).set r (UK.xr8 (nth (pgOf d.x q) r) b) ++ List.replicate (cap - (pgOf d.x q).length) 0 := by
    rw [List.set_append_left _ _ (by omega)]
  rw [hxs] at hset
  have hd5 : RS N W ((V.alloc o).setCell ⟨W.heap.size + 1 + 1, r, none⟩ (.int .u8 ((UK.xr8 (nth (pgOf d.x q) r) b).toNat : Int))) gp cnt cp fo fc d := hd.next (((Below.refl _ _).alloc (Nat.le_refl _) _).setCell (p := ⟨W.heap.size + 1 + 1, r, none⟩) (by show V.heap.size ≤ W.heap.size + 1 + 1; omega) _)
  generalize hgen : (UK.xr8 (nth (pgOf d.x q) r) b) = xv at hset hd5
  have hsl : ((pgOf d.x q).set r xv).length = 512 := by rw [List.length_set]; exact hgl
  have hcv := UK.run_window (P := Tryd.prog) (src := 36) (dst := 9) Tryd.underlying36 Tryd.underlying5 Tryd.underlying9 (W := ((V.alloc o).setCell ⟨W.heap.size + 1 + 1, r, none⟩ (.int .u8 (xv.toNat : Int))).drew) (hset.of_block rfl) 0 512 cap (by rw [List.length_append, hsl]; omega)
  rw [List.drop_zero, List.take_append_of_le_length (by omega), List.take_of_length_le (by omega)] at hcv
  have HSP : Hid (spoilD d k b = { d with x := UK.wr d.x (512 * q) ((pgOf d.x q).set r xv) }) := by
    show _ = _
    have hk2 : k = 512 * q + r := by omega
    have hlen := f.len
    unfold spoilD
    rw [page_set d.x q r xv hr5 (by omega), ← hk2, ← hgen, nth_pg _ _ _ hr5, ← hk2]
  unfold rval
  go_enter Tryd.func44, Tryd.ntmps44
  rw [HV.out] at e cV cb cfr hcv
  clear hyn hxs hbt hbt2 hset
  go_wp2_with fail
  rw [← HV.out]
  refine (rs_set hd5.drew hN f q hqc ((pgOf d.x q).set r xv) hsl).mono ?_
  rintro e w4 ⟨gp', cp', rfl, h4, b4, hgp, q1, q0⟩
  unfold rval
  obtain ⟨t0, t1, t2, t3, t4, t5, t6, tf⟩ := q1.cells7
  go_wp2
  refine bodyPost_ret (UK.box_ret2 rfl _ (q1.fill7 _ _ _ _ _ _ _) rfl disk_under rfl disk_size) rfl ?_
  rw [HSP.out]
  exact ⟨gp', cp', fo, fc, ⟨.inr (by omega), fun F e => .inl e⟩, rfl, h4.fill (by omega) hd.oldF' _ _ _ _ _ _ _, UK.Below.fill7 b4 (by omega) _ _ _ _ _ _ _⟩
set_option maxHeartbeats 1000000 in
set_option maxRecDepth 100000 in
theorem rspoil_no (h : RefAt N W gp cp fo fc d cnt) (f : Fit d cnt) (k : Int) (hk : k < 0 ∨ (0 ≤ k ∧ 512 * (cnt : Int) ≤ k)) (b : UInt8) :
    Calls Tryd.prog 44 #[rval gp cnt cp fo d.free.length fc d, .int .i64 k, .int .u8 b.toNat] W fun e w' => Was N W w' gp fo d cnt (fun v => .tuple #[v, .bool false]) e := by
  have hfew := f.few
  unfold rval
  rcases hk with hk | ⟨hk0, hk⟩
  all_goals
    go_enter Tryd.func44, Tryd.ntmps44
    go_wp2
    refine bodyPost_ret (UK.box_ret2 rfl _ (Box.new _ _ _) (by simp) disk_under rfl disk_size) rfl ?_
    exact ⟨gp, cp, fo, fc, ⟨.inl rfl, fun F e => .inl e⟩, rfl, h.below (((Below.refl _ _).alloc (Nat.le_refl _) _).alloc (by simp) _), ((Below.refl _ _).alloc (Nat.le_refl _) _).alloc (by simp) _⟩
set_option maxHeartbeats 1000000 in
set_option maxRecDepth 100000 in
/-- head, of a disk without free pages -/
theorem rhead_none (h : RefAt N W gp cp fo fc d cnt) (hf : d.free = []) (hfew : cnt ≤ 60000) :
    Calls Tryd.prog 37 #[rval gp cnt cp fo d.free.length fc d] W fun e w' => e = .returned (.agg #[.string (str (pageL 0 (headL d cnt)))]) ∧ Below W.heap.size W w' := by
  have HL : Hid (headL d cnt = 84 :: 65 :: 66 :: 85 :: 76 :: 65 :: 82 :: 49 :: (putL (w32 cnt) ++ nextL d d.free.length)) := rfl
  have hhl := headL_length d cnt
  obtain ⟨V, HV, b0, x0, x1⟩ := begin7 W (rcells gp cnt cp fo d.free.length fc d) #[.string (str [])] 46 73
  have h0 := h.below b0
  have hln : d.free.length = 0 := by rw [hf]; rfl
  rw [hln, next_zero] at HL
  rw [hln] at x0
  unfold rval
  rw [hln]
  rw [hln] at HV
  clear hf hln
  go_enter Tryd.func37, Tryd.ntmps37
  go_wp2_with fail
  rw [← HV.out]
  refine (rword_any cnt hfew _).mono ?_
  rintro e w1 ⟨rfl, b1⟩
  have y1 := x1.next b1
  have b1 := b0.trans (b1.mono b0.size)
  go_wp2_with fail
  rw [← HL.out]
  refine (rlay_any 0 (by omega) (headL d cnt) (by omega) _).mono ?_
  rintro e w2 ⟨rfl, b2⟩
  have z1 := y1.next b2
  have b2 := b1.trans (b2.mono b1.size)
  have c0 := z1.cell 0 _ rfl
  have cf := z1.free 0
  have zr := z1.set 0 (.string (str (pageL 0 (headL d cnt))))
  go_wp2
  refine bodyPost_ret (UK.box_ret rfl _ zr rfl page_under rfl page_size) rfl ?_
  exact ⟨rfl, b2.setCell (p := ⟨W.heap.size + 1, 0, none⟩) (by show W.heap.size ≤ W.heap.size + 1; omega) _⟩
/-- a disk that New is making -/
def preD (n : Int) : Dk := { bareD n with x := [], puts := 1 }
theorem new_page (n : Int) : pagesOf (UK.wr (bareD n).x 0 (pageL 0 (headL (bareD n) 1))) 1 = [pageL 0 (headL (preD n) 1)] := by
  have h1 := pgOf_wr (bareD n).x 0 0 (pageL 0 (headL (bareD n) 1)) (pageL_length 0 _ (by rw [headL_length]; decide)) (by show 512 * (0 + 1) ≤ (UK.zeros 512).length; rw [UK.zeros_length]; omega) (by show 512 * (0 + 1) ≤ (UK.zeros 512).length; rw [UK.zeros_length]; omega)
  rw [if_pos rfl] at h1
  show [pgOf (UK.wr (bareD n).x (512 * 0) (pageL 0 (headL (bareD n) 1))) 0] = _
  rw [h1]
  rfl
/-- while New makes its disk -/
structure NS (W w : World) (n : Int) : Prop where
  ans : Box w W.heap.size zero7
  row : Box w (W.heap.size + 1) #[.string (str [])]
  box : Box w (W.heap.size + 1 + 1) (rcells (W.heap.size + 1) 1 1 none 0 0 (preD n))
  bel : Below W.heap.size W w
theorem NS.next {W w w' : World} {n : Int} (h : NS W w n) (hb : Below w.heap.size w w') : NS W w' n := ⟨h.ans.next hb, h.row.next hb, h.box.next hb, h.bel.trans (hb.mono h.bel.size)⟩
theorem NS.ref {W w : World} {n : Int} (h : NS W w n) : RefAt W.heap.size w (W.heap.size + 1) 1 none 0 (preD n) 1 :=
  ⟨h.row.row, .inl ⟨rfl, rfl⟩, Nat.le_succ _, fun F e => by cases e⟩
theorem ns_head {W w : World} {n : Int} (h : NS W w n) :
    Calls Tryd.prog 37 #[rval (W.heap.size + 1) 1 1 none 0 0 (preD n)] w fun e w' => e = .returned (.agg #[.string (str (pageL 0 (headL (preD n) 1)))]) ∧ NS W w' n :=
  (rhead_none h.ref rfl (by omega)).mono fun _ _ ⟨a, b⟩ => ⟨a, h.next b⟩
theorem NS.drew {W w : World} {n : Int} (h : NS W w n) : NS W w.drew n := h.next (Below.refl _ _).drew
theorem ns_begin (W : World) (n : Int) : ∃ V, Hid (V = ((W.alloc (.cells zero7 46)).alloc (.cells #[.string (str [])] 73)).alloc (.cells #[.slice (some ⟨W.heap.size + 1, 0, none⟩) 1 1, .slice none 0 0, .int .i64 (clampD n), .int .i64 (-1), .int .i64 (-1), .int .i64 0, .int .i64 1] 46)) ∧ NS W V n := by
  refine ⟨_, rfl, ((Box.new _ _ _).alloc _).alloc _, ?_, ?_, ((((Below.refl _ _).alloc (Nat.le_refl _) _).alloc (by simp) _).alloc (by simp; omega) _)⟩
  · have := Box.new (W.alloc (.cells zero7 46)) #[.string (str [])] 73
    rw [show (W.alloc (.cells zero7 46)).heap.size = W.heap.size + 1 by simp] at this
    exact this.alloc _
  · have := Box.new ((W.alloc (.cells zero7 46)).alloc (.cells #[.string (str [])] 73)) #[.slice (some ⟨W.heap.size + 1, 0, none⟩) 1 1, .slice none 0 0, .int .i64 (clampD n), .int .i64 (-1), .int .i64 (-1), .int .i64 0, .int .i64 1] 46
    rw [show ((W.alloc (.cells zero7 46)).alloc (.cells #[.string (str [])] 73)).heap.size = W.heap.size + 1 + 1 by simp] at this
    exact this
set_option maxHeartbeats 1000000 in
set_option maxRecDepth 100000 in
theorem rnew_any (n : Int) (W : World) :
    Calls Tryd.prog 22 #[.int .i64 n] W fun e w' => ∃ gp cp, e = .returned (rval gp 1 cp none 0 0 (newD n)) ∧ RefAt W.heap.size w' gp cp none 0 (newD n) 1 ∧ Below W.heap.size W w' := by
  have hM := fun w => rmost_any n w
  obtain ⟨V, HV, hd⟩ := ns_begin W n
  have HN : Hid (newD n = { bareD n with wl := -1, puts := 1, x := UK.wr (bareD n).x 0 (pageL 0 (headL (bareD n) 1)) }) := newD_is n
  go_enter Tryd.func22, Tryd.ntmps22
  go_wp2_with fail
  refine (hM _).mono ?_
  rintro e w' ⟨rfl, rfl⟩
  go_wp2_with fail
  rw [← HV.out]
  replace hd := hd.drew
  obtain ⟨u0, u1, u2, u3, u4, u5, u6, uf⟩ := hd.box.cells7
  have r0 := hd.row.cell 0 _ rfl
  have rf := hd.row.free 0
  go_region_with (first
    | (go_at_call 37; refine (ns_head hd).mono ?_; rintro e w3 ⟨rfl, hd⟩; obtain ⟨u0, u1, u2, u3, u4, u5, u6, uf⟩ := hd.box.cells7; have r0 := hd.row.cell 0 _ rfl; have rf := hd.row.free 0))
  all_goals
    obtain ⟨t0, t1, t2, t3, t4, t5, t6, tf⟩ := hd.ans.cells7
    go_wp2
    have hx1 := hd.ans.far (b := W.heap.size + 1) (j := 0) (.string (str (pageL 0 (headL (preD n) 1)))) (by omega)
    have hx2 := hd.row.set 0 (.string (str (pageL 0 (headL (preD n) 1))))
    have hb5 := hd.bel.setCell (p := ⟨W.heap.size + 1, 0, none⟩) (by show W.heap.size ≤ W.heap.size + 1; omega) (.string (str (pageL 0 (headL (preD n) 1))))
    refine bodyPost_ret (UK.box_ret rfl _ (hx1.fill7 _ _ _ _ _ _ _) rfl disk_under rfl disk_size) rfl ?_
    rw [HN.out]
    refine ⟨W.heap.size + 1, 1, rfl, ⟨?_, .inl ⟨rfl, rfl⟩, Nat.le_succ _, fun F e => by cases e⟩, UK.Below.fill7 hb5 (Nat.le_refl _) _ _ _ _ _ _ _⟩
    have hx3 := (hx2.fill7_far (g := W.heap.size) (by omega) (.slice (some ⟨W.heap.size + 1, 0, none⟩) 1 1) (.slice none 0 0) (.int .i64 (preD n).most) (.int .i64 (preD n).rl) (.int .i64 (preD n).wl) (.int .i64 (preD n).reads) (.int .i64 (preD n).puts)).row
    rw [new_page]
    exact hx3
end
end Go.Proofs.YtamnhpijeiigcaaDoor
