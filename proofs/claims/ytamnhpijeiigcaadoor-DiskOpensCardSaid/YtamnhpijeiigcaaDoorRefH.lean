/-
  The document's disk: Take, a new page.
-/
import Derived.Test.YtamnhpijeiigcaaDoorRefG
namespace Go.Proofs.YtamnhpijeiigcaaDoor
open Go.RowKit
open UK (str BytesAt nth Only w32 Row Box)
open Go.BigFrame
section
variable {N : Nat} {W W' w : World} {gp cp fc cnt : Nat} {fo : Option Addr} {d d' : Dk}
/-- ahead of a slice that is built the world is forgotten but for what is known of it -/
theorem UK.at_build2 {P : Program} {ops : Array Oper} {rest : List Oper} {o : Oper} {a : Act} {w : World} {Q : Exit → Act → World → Prop} (R : World → Prop) (hR : R w) (_ : ∃ t n parts, o.op = .buildSlice t n parts)
    (h : ∀ w', R w' → wpList P ops Q (o :: rest) a w') : wpList P ops Q (o :: rest) a w := h w hR
theorem pgOf_more (x z : List UInt8) (k : Nat) (h : 512 * (k + 1) ≤ x.length) : pgOf (x ++ z) k = pgOf x k := by
  unfold pgOf
  rw [List.drop_append_of_le_length (by omega), List.take_append_of_le_length (by rw [List.length_drop]; omega)]
theorem pagesOf_more (x : List UInt8) (cnt : Nat) (hx : x.length = 512 * cnt) (g : List UInt8) (hg : g.length = 512) : pagesOf (UK.wr (x ++ UK.zeros 512) (512 * cnt) g) (cnt + 1) = pagesOf x cnt ++ [g] := by
  have hl : (x ++ UK.zeros 512).length = 512 * (cnt + 1) := by rw [List.length_append, UK.zeros_length, hx]; omega
  unfold pagesOf
  rw [List.range_succ, List.map_append]
  congr 1
  · refine List.map_congr_left (fun k hk => ?_)
    have hk2 := List.mem_range.1 hk
    rw [pgOf_wr _ cnt k g hg (by omega) (by omega), if_neg (by omega), pgOf_more _ _ _ (by omega)]
  · show [pgOf _ cnt] = [g]
    rw [pgOf_wr _ cnt cnt g hg (by omega) (by omega), if_pos rfl]
/-- the pages copied -/
theorem copy_pages (h : RefAt N w gp cp fo fc d cnt) (hc : cnt ≤ 60000) :
    ∃ g1 c1 W1, (Builtin.append_ #[44, 44] 44 #[.slice (some ⟨w.heap.size, 0, none⟩) 0 0, .slice (some ⟨gp, 0, none⟩) cnt cp]).run Tryd.prog (w.alloc (.cells #[] 73)) = .ok (.slice (some ⟨g1, 0, none⟩) cnt c1) W1 ∧ Row W1 g1 c1 (texts (pagesOf d.x cnt)) ∧ Below w.heap.size w W1 ∧ w.heap.size ≤ g1 := by
  have r0 := UK.row_new w #[] 73
  have b0 : Below w.heap.size w (w.alloc (.cells #[] 73)) := (Below.refl _ _).alloc (Nat.le_refl _) _
  obtain ⟨g1, c1, W1, e1, r1, o1, n1⟩ := UK.copy_row (P := Tryd.prog) (t := 44) (tx := 44) (ty := 44) Tryd.underlying44 Tryd.underlying44 (i := Tryd.t73) rfl rfl rfl (show (16 : Nat) ≤ 16 by omega) rfl r0 (.inr ⟨gp, rfl, h.pages.alloc _⟩) (fun u hu => by
    obtain ⟨_, _, rfl⟩ := List.mem_map.1 hu
    rfl) (by rw [texts_length, pagesOf_length]; omega)
  rw [texts_length, pagesOf_length] at e1
  refine ⟨g1, c1, W1, e1, r1, b0.trans (o1.below b0.size (Nat.le_refl _)), ?_⟩
  rcases n1 with rfl | rfl
  · exact Nat.le_refl _
  · exact b0.size
/-- a page more -/
theorem push_text {l : List (List UInt8)} {g c : Nat} (h : Row w g c (texts l)) (hl : l.length ≤ 60000) (s : List UInt8) :
    ∃ g2 c2 W2, (Builtin.append_ #[44, 44] 44 #[.slice (some ⟨g, 0, none⟩) l.length c, .slice (some ⟨w.heap.size, 0, none⟩) 1 1]).run Tryd.prog (w.alloc (.cells #[.string (str s)] 73)) = .ok (.slice (some ⟨g2, 0, none⟩) (l.length + 1) c2) W2 ∧ Row W2 g2 c2 (texts (l ++ [s])) ∧ Only g2 w W2 ∧ (g2 = g ∨ w.heap.size ≤ g2) := by
  obtain ⟨g2, c2, W2, e2, r2, o2, n2⟩ := UK.push_one (P := Tryd.prog) (t := 44) (ty := 44) Tryd.underlying44 (i := Tryd.t73) rfl rfl rfl (show (16 : Nat) ≤ 16 by omega) rfl (.inr ⟨g, rfl, h⟩) (.string (str s)) rfl (by rw [texts_length]; omega)
  rw [texts_length] at e2
  refine ⟨g2, c2, W2, e2, by unfold texts at *; rw [List.map_append]; exact r2, o2, ?_⟩
  rcases n2 with e | e
  · exact .inl (congrArg Addr.block (Option.some.inj e)).symm
  · exact .inr e
set_option maxHeartbeats 1000000 in
set_option maxRecDepth 100000 in
theorem rtake_new (h : RefAt N W gp cp fo fc d cnt) (hN : N ≤ W.heap.size) (f : Fit d cnt) (hq : d.puts + 1 < 1000000000) (hf : d.free = []) (hm : (cnt : Int) < d.most) (hz : d.wl ≠ 0) :
    Calls Tryd.prog 38 #[rval gp cnt cp fo d.free.length fc d] W fun e w' => Was N W w' gp fo (takeN d cnt) (cnt + 1) (fun v => .tuple #[v, .int .i64 cnt, .int .i64 0]) e := by
  obtain ⟨dn, HDN⟩ : ∃ dn, Hid (takeN d cnt = dn) := ⟨_, rfl⟩
  obtain ⟨pn, HPN⟩ : ∃ pn, Hid (cnt + 1 = pn) := ⟨_, rfl⟩
  rw [HDN.out, HPN.out]
  obtain ⟨V, HV, hd⟩ := RS.begin h
  have hn0 : d.free.length ≤ 0 := by rw [hf]; exact Nat.le_refl _
  have hfew := f.few
  have HZ := Lib.hid hz
  have HF := Lib.hid hf
  have HM := Lib.hid hm
  have hc : d.most > cnt := hm
  have hq1 := f.puts.1
  have hq2 := f.puts.2
  have hm2 : cnt < 60000 := by have := f.most.2.1; omega
  have f1 := fit_paid f hq
  have HW := Lib.hid (rs_write_yes hd f HZ.out)
  unfold rval
  clear hf hm hz
  go_enter Tryd.func38, Tryd.ntmps38
  go_wp2_with fail
  rw [← HV.out]
  refine HW.out.mono ?_
  rintro e w2 ⟨rfl, hd2⟩
  unfold rval
  obtain ⟨u0, u1, u2, u3, u4, u5, u6, uf⟩ := hd2.box.cells7
  have hd3 := hd2.turn (paidD d) rfl rfl
  clear hd2
  go_wp2_with (first
    | (at_builtin; refine UK.wpList_append_run e1 rfl rfl rfl rfl rfl ?_)
    | (refine UK.at_build2 (fun w => RS N W w gp cnt cp fo fc (paidD d)) ?_ ⟨_, _, _, rfl⟩ ?_; exact hd3; clear hd3 u0 u1 u2 u3 u4 u5 u6 uf; rintro w9 hd9; obtain ⟨g1, c1, W1, e1, r1, b1, hg1⟩ := copy_pages hd9.ref hfew; have hd4 := hd9.next b1; have ca := (hd9.box.alloc (.cells #[] 73)).cell 0 _ rfl))
  refine (rlay_any cnt (by omega) [] (by decide) _).mono ?_
  rintro e w5 ⟨rfl, b5⟩
  have hd5 := hd4.next b5
  have r5 := r1.below b5 r1.lt
  have hs9 := hd9.ans.lt
  have hg1' := r5.lt
  obtain ⟨g2, c2, W2, e2, r2, o2, n2⟩ := push_text r5 (by rw [pagesOf_length]; exact hfew) (pageL cnt [])
  rw [pagesOf_length] at e2
  have hg2 : W.heap.size + 1 < g2 := by
    have := hd5.ans.lt
    omega
  have hF2 : ∀ F, fo = some ⟨F, 0, none⟩ → F < w5.heap.size ∧ F ≠ g2 := fun F e => by
    have h1 := (hd9.ref.lowF F e).2
    have h2 := (hd5.ref.lowF F e).2
    exact ⟨h2, by omega⟩
  have y0 := (hd5.box.only o2 (by omega)).set 0 (.slice (some ⟨g2, 0, none⟩) (cnt + 1) c2)
  have y0' := hd5.box.only o2 (by omega)
  have y1 := (hd5.ans.only o2 (by omega)).far (b := W.heap.size) (j := 0) (.slice (some ⟨g2, 0, none⟩) (cnt + 1) c2) (by omega)
  have hbel : Below W.heap.size W (W2.setCell ⟨W.heap.size, 0, none⟩ (.slice (some ⟨g2, 0, none⟩) (cnt + 1) c2)) :=
    (hd5.bel.trans (o2.below hd5.bel.size (by omega))).setCell (p := ⟨W.heap.size, 0, none⟩) (Nat.le_refl _) _
  have hpg := pagesOf_more d.x cnt f.len (pageL cnt []) (pageL_length cnt [] (by decide))
  have hd6 : RS N W (W2.setCell ⟨W.heap.size, 0, none⟩ (.slice (some ⟨g2, 0, none⟩) (cnt + 1) c2)) g2 (cnt + 1) c2 fo fc { paidD d with x := UK.wr (d.x ++ UK.zeros 512) (512 * cnt) (pageL cnt []) } := by
    refine ⟨y0, y1, ⟨?_, ?_, by omega, fun F e => ⟨(hd5.ref.lowF F e).1, Nat.lt_of_lt_of_le (hF2 F e).1 (by simpa [World.setCell] using o2.size)⟩⟩, hbel, ⟨by omega, by omega⟩, hd5.oldF⟩
    · show Row _ g2 c2 (texts (pagesOf (UK.wr (d.x ++ UK.zeros 512) (512 * cnt) (pageL cnt [])) (cnt + 1)))
      rw [hpg]
      exact r2.only ((Only.refl W.heap.size W2).set 0 _) (by omega)
    · exact hd5.ref.free.kept (by simpa [World.setCell] using o2.size) (fun F e => (Below.heap_setCell _ _ _ _ (by have := (hd5.oldF F e).1; exact this)).trans (o2.block F (hF2 F e).1 (hF2 F e).2))
  obtain ⟨u0, u1, u2, u3, u4, u5, u6, uf⟩ := y0'.cells7
  obtain ⟨v0, v1, v2, v3, v4, v5, v6, vf⟩ := hd6.box.cells7
  obtain ⟨t0, t1, t2, t3, t4, t5, t6, tf⟩ := hd6.ans.cells7
  go_wp2_with (at_builtin; refine UK.wpList_append_run e2 rfl rfl rfl rfl rfl ?_)
  refine bodyPost_ret (UK.box_ret3 rfl _ (hd6.ans.fill7 _ _ _ _ _ _ _) rfl disk_under rfl disk_size) rfl ?_
  have hdn := hd6.done (.slice (some ⟨g2, 0, none⟩) (cnt + 1) c2) (.slice fo d.free.length fc) (.int .i64 (paidD d).most) (.int .i64 (paidD d).rl) (.int .i64 (paidD d).wl) (.int .i64 (paidD d).reads) (.int .i64 (paidD d).puts)
  rw [← HDN.out, ← HPN.out]
  exact ⟨g2, c2, fo, fc, ⟨.inr (by omega), fun F e => .inl e⟩, rfl, hdn.1.same rfl rfl, hdn.2⟩
end
end Go.Proofs.YtamnhpijeiigcaaDoor
