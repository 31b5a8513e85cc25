/-
  The document's disk: Give.
-/
import Derived.Test.YtamnhpijeiigcaaDoorRefE
namespace Go.Proofs.YtamnhpijeiigcaaDoor
open Go.RowKit
open UK (str BytesAt nth Only w32 Row Box)
open Go.BigFrame
section
variable {N : Nat} {W W' w : World} {gp cp fc cnt : Nat} {fo : Option Addr} {d d' : Dk}
/-- free pages copied, one more behind them -/
theorem copy_push {w : World} (h : FreeAt w fo fc d.free) (hl : d.free.length ≤ 60000) (p : Nat) :
    ∃ g1 c1 W1 g2 c2 W2, (Builtin.append_ #[22, 22] 22 #[.slice (some ⟨w.heap.size, 0, none⟩) 0 0, .slice fo d.free.length fc]).run Tryd.prog (w.alloc (.cells #[] 3)) = .ok (.slice (some ⟨g1, 0, none⟩) d.free.length c1) W1 ∧
      (Builtin.append_ #[22, 22] 22 #[.slice (some ⟨g1, 0, none⟩) d.free.length c1, .slice (some ⟨W1.heap.size, 0, none⟩) 1 1]).run Tryd.prog (W1.alloc (.cells #[.int .i64 (p : Int)] 3)) = .ok (.slice (some ⟨g2, 0, none⟩) (d.free.length + 1) c2) W2 ∧
      Row W2 g2 c2 (ints (d.free ++ [p])) ∧ Below w.heap.size w W2 ∧ w.heap.size ≤ g2 ∧ Below w.heap.size w W1 := by
  have r0 := UK.row_new w #[] 3
  have b0 : Below w.heap.size w (w.alloc (.cells #[] 3)) := (Below.refl _ _).alloc (Nat.le_refl _) _
  have h' : (fo = none ∧ ints d.free = []) ∨ ∃ g, fo = some ⟨g, 0, none⟩ ∧ Row (w.alloc (.cells #[] 3)) g fc (ints d.free) := by
    rcases h with ⟨a, b⟩ | ⟨F, e, r⟩
    · exact .inl ⟨a, by rw [b]; rfl⟩
    · exact .inr ⟨F, e, r.alloc _⟩
  obtain ⟨g1, c1, W1, e1, r1, o1, n1⟩ := UK.copy_row (P := Tryd.prog) (t := 22) (tx := 22) (ty := 22) Tryd.underlying22 Tryd.underlying22 (i := Tryd.t3) rfl rfl rfl (show (8 : Nat) ≤ 16 by omega) rfl r0 h' (fun u hu => by
    obtain ⟨_, _, rfl⟩ := List.mem_map.1 hu
    rfl) (by rw [ints_length]; omega)
  rw [ints_length] at e1
  have b1 : Below w.heap.size w W1 := b0.trans (o1.below b0.size (Nat.le_refl _))
  have hg1 : w.heap.size ≤ g1 := by
    rcases n1 with rfl | rfl
    · exact Nat.le_refl _
    · exact b0.size
  obtain ⟨g2, c2, W2, e2, r2, o2, n2⟩ := UK.push_one (P := Tryd.prog) (t := 22) (ty := 22) Tryd.underlying22 (i := Tryd.t3) rfl rfl rfl (show (8 : Nat) ≤ 16 by omega) rfl (.inr ⟨g1, rfl, r1⟩) (.int .i64 (p : Int)) rfl (by rw [ints_length]; omega)
  rw [ints_length] at e2
  have hg2 : w.heap.size ≤ g2 := by
    rcases n2 with e | e
    · have e3 : g1 = g2 := congrArg Addr.block (Option.some.inj e)
      omega
    · have := b1.size; omega
  exact ⟨g1, c1, W1, g2, c2, W2, e1, e2, by unfold ints at *; rw [List.map_append]; exact r2, b1.trans (o2.below b1.size hg2), hg2, b1⟩
def rgiveE (d : Dk) (cnt : Nat) (p : Int) : Int := if hasD d cnt p = false then 4 else failE d.wl
def rgiveD (d : Dk) (cnt : Nat) (p : Int) : Dk := if hasD d cnt p = false then d else if d.wl = 0 then { d with wl := -1 } else giveD d p.toNat
theorem next_paid (d : Dk) (i : Nat) : nextL (paidD d) i = nextL d i := rfl
set_option maxHeartbeats 1000000 in
set_option maxRecDepth 100000 in
theorem rgive_any (h : RefAt N W gp cp fo fc d cnt) (hN : N ≤ W.heap.size) (so : Sound d cnt) (f : Fit d cnt) (hq : d.puts + 1 < 1000000000) (p : Int) :
    Calls Tryd.prog 39 #[rval gp cnt cp fo d.free.length fc d, .int .i64 p] W fun e w' => Was N W w' gp fo (rgiveD d cnt p) cnt (fun v => .tuple #[v, .int .i64 (rgiveE d cnt p)]) e := by
  obtain ⟨V, HV, hd⟩ := RS.begin h
  have hq1 := f.puts.1
  by_cases hh : hasD d cnt p = false
  · have HE : Hid (rgiveE d cnt p = 4) := by show _ = _; unfold rgiveE; rw [if_pos hh]
    have HD : Hid (rgiveD d cnt p = d) := by show _ = _; unfold rgiveD; rw [if_pos hh]
    rw [HE.out, HD.out]
    have HT := Lib.hid (rs_taken hd so f p)
    rw [hh] at HT
    unfold rval
    go_enter Tryd.func39, Tryd.ntmps39
    go_wp2_with fail
    rw [← HV.out]
    refine HT.out.mono ?_
    rintro e w1 ⟨rfl, hd⟩
    obtain ⟨u0, u1, u2, u3, u4, u5, u6, uf⟩ := hd.box.cells7
    obtain ⟨t0, t1, t2, t3, t4, t5, t6, tf⟩ := hd.ans.cells7
    go_wp2
    refine bodyPost_ret (UK.box_ret2 rfl _ (hd.ans.fill7 _ _ _ _ _ _ _) rfl disk_under rfl disk_size) rfl ?_
    exact ⟨gp, cp, fo, fc, ⟨.inl rfl, fun F e => .inl e⟩, rfl, hd.done _ _ _ _ _ _ _⟩
  · have hh1 : hasD d cnt p = true := by simpa using hh
    obtain ⟨k, rfl⟩ : ∃ k : Nat, p = k := ⟨p.toNat, by unfold hasD at hh1; rw [Bool.and_eq_true, decide_eq_true_eq] at hh1; omega⟩
    have hp := has_lt hh1
    have hfew := f.few
    have HT := Lib.hid (rs_taken hd so f k)
    rw [hh1] at HT
    by_cases hz : d.wl = 0
    · have HE : Hid (rgiveE d cnt k = 7) := by show _ = _; unfold rgiveE failE; rw [if_neg hh, if_pos hz]
      have HD : Hid (rgiveD d cnt k = { d with wl := -1 }) := by show _ = _; unfold rgiveD; rw [if_neg hh, if_pos hz]
      rw [HE.out, HD.out]
      have HZ := Lib.hid hz
      clear hh hh1 HE HD hz
      unfold rval
      go_enter Tryd.func39, Tryd.ntmps39
      go_wp2_with fail
      rw [← HV.out]
      refine HT.out.mono ?_
      rintro e w1 ⟨rfl, hd⟩
      obtain ⟨u0, u1, u2, u3, u4, u5, u6, uf⟩ := hd.box.cells7
      have HW := Lib.hid (rs_write_no hd f HZ.out)
      go_wp2_with fail
      refine HW.out.mono ?_
      rintro e w2 ⟨rfl, hd2⟩
      unfold rval
      obtain ⟨u0, u1, u2, u3, u4, u5, u6, uf⟩ := hd2.box.cells7
      obtain ⟨t0, t1, t2, t3, t4, t5, t6, tf⟩ := hd2.ans.cells7
      have hd3 := hd2.turn { d with wl := -1 } rfl rfl
      go_wp2
      refine bodyPost_ret (UK.box_ret2 rfl _ (hd3.ans.fill7 _ _ _ _ _ _ _) rfl disk_under rfl disk_size) rfl ?_
      exact ⟨gp, cp, fo, fc, ⟨.inl rfl, fun F e => .inl e⟩, rfl, hd3.done _ _ _ _ _ _ _⟩
    · have HE : Hid (rgiveE d cnt k = 0) := by show _ = _; unfold rgiveE failE; rw [if_neg hh, if_neg hz]
      have HD : Hid (rgiveD d cnt k = giveD d k) := by show _ = _; unfold rgiveD; rw [if_neg hh, if_neg hz]; rfl
      rw [HE.out, HD.out]
      have HZ := Lib.hid hz
      have f2 := fit_paid f hq
      have hpl := pageL_length k (nextL d d.free.length) (by rw [nextL_length]; decide)
      have hk2 := hp.2.1
      have hfl := f.freeLe
      clear hh hh1 HE HD hz
      unfold rval
      go_enter Tryd.func39, Tryd.ntmps39
      go_wp2_with fail
      rw [← HV.out]
      refine HT.out.mono ?_
      rintro e w1 ⟨rfl, hd⟩
      obtain ⟨u0, u1, u2, u3, u4, u5, u6, uf⟩ := hd.box.cells7
      have HW := Lib.hid (rs_write_yes hd f HZ.out)
      go_wp2_with fail
      refine HW.out.mono ?_
      rintro e w2 ⟨rfl, hd2⟩
      unfold rval
      obtain ⟨u0, u1, u2, u3, u4, u5, u6, uf⟩ := hd2.box.cells7
      have hd3 := hd2.turn (paidD d) rfl rfl
      clear hd
      by_cases hfz : d.free = []
      · have hln : d.free.length = 0 := by rw [hfz]; rfl
        have HG : Hid (giveD d k = { paidD d with x := UK.wr d.x (512 * k) (pageL k [255, 255, 255, 255]), free := d.free ++ [k], isf := d.isf.set k true }) := by
          show _ = _
          unfold giveD
          rw [hln, next_zero]
          rfl
        rw [hln] at hd3
        clear hfz
        go_wp2_with fail
        have hpl2 : (pageL k [255, 255, 255, 255]).length = 512 := pageL_length k _ (by decide)
        change Code.wp _ _ _ _ (UK.fill7 w2 W.heap.size (.slice (some ⟨gp, 0, none⟩) cnt cp) (.slice fo 0 fc) (.int .i64 (paidD d).most) (.int .i64 (paidD d).rl) (.int .i64 (paidD d).wl) (.int .i64 (paidD d).reads) (.int .i64 (paidD d).puts))
        generalize UK.fill7 w2 W.heap.size (.slice (some ⟨gp, 0, none⟩) cnt cp) (.slice fo 0 fc) (.int .i64 (paidD d).most) (.int .i64 (paidD d).rl) (.int .i64 (paidD d).wl) (.int .i64 (paidD d).reads) (.int .i64 (paidD d).puts) = w3 at hd3 ⊢
        clear u0 u1 u2 u3 u4 u5 u6 uf hd2
        have hd := hd3.drew
        clear hd3
        obtain ⟨u0, u1, u2, u3, u4, u5, u6, uf⟩ := hd.box.cells7
        go_region_with (first
          | (go_at_call 56; refine (rs_lay hd k (by omega) [255, 255, 255, 255] (by decide)).mono ?_; rintro e w3 ⟨rfl, hd⟩; obtain ⟨u0, u1, u2, u3, u4, u5, u6, uf⟩ := hd.box.cells7)
          | (go_at_call 58; refine (rs_set hd hN f2 k hk2 (pageL k [255, 255, 255, 255]) hpl2).mono ?_; rintro e w4 ⟨gp', cp', rfl, h4, b4, hgp, q1, q0⟩; unfold rval; obtain ⟨t0, t1, t2, t3, t4, t5, t6, tf⟩ := q0.cells7))
        all_goals
          have HLN := Lib.hid hln
          clear hln
          have hd5 := hd.moved (d' := { paidD d with x := UK.wr d.x (512 * k) (pageL k [255, 255, 255, 255]) }) rfl h4 b4 hgp q1 q0
          clear h4 b4 q1 q0 t0 t1 t2 t3 t4 t5 t6 tf u0 u1 u2 u3 u4 u5 u6 uf hd
          change Exit.then _ _ _ _ (UK.fill7 w4 W.heap.size (.slice (some ⟨gp', 0, none⟩) cnt cp') (.slice fo d.free.length fc) (.int .i64 (paidD d).most) (.int .i64 (paidD d).rl) (.int .i64 (paidD d).wl) (.int .i64 (paidD d).reads) (.int .i64 (paidD d).puts))
          replace hd5 : RS N W (UK.fill7 w4 W.heap.size (.slice (some ⟨gp', 0, none⟩) cnt cp') (.slice fo d.free.length fc) (.int .i64 (paidD d).most) (.int .i64 (paidD d).rl) (.int .i64 (paidD d).wl) (.int .i64 (paidD d).reads) (.int .i64 (paidD d).puts)) gp' cnt cp' fo fc { paidD d with x := UK.wr d.x (512 * k) (pageL k [255, 255, 255, 255]) } := hd5
          generalize UK.fill7 w4 W.heap.size (.slice (some ⟨gp', 0, none⟩) cnt cp') (.slice fo d.free.length fc) (.int .i64 (paidD d).most) (.int .i64 (paidD d).rl) (.int .i64 (paidD d).wl) (.int .i64 (paidD d).reads) (.int .i64 (paidD d).puts) = w5 at hd5 ⊢
          obtain ⟨g1, c1, W1, g2, c2, W2, e1, e2, r2, b2, hg2, bb1⟩ := copy_push (d := d) hd5.ref.free (by omega) k
          have hd6 := hd5.setFree r2 b2 hg2 hN
          have hb6 := (hd5.next b2).box
          obtain ⟨u0, u1, u2, u3, u4, u5, u6, uf⟩ := hb6.cells7
          obtain ⟨u0', u1', u2', u3', u4', u5', u6', uf'⟩ := hd6.box.cells7
          obtain ⟨t0, t1, t2, t3, t4, t5, t6, tf⟩ := hd6.ans.cells7
          rw [List.length_append, List.length_singleton] at hd6 t0 t1 t2 t3 t4 t5 t6 tf u0' u1' u2' u3' u4' u5' u6' uf'
          obtain ⟨v0, v1, v2, v3, v4, v5, v6, vf⟩ := hd5.box.cells7
          have v1a : (w5.alloc (.cells #[] 3)).cell? ⟨W.heap.size, 1, none⟩ = some (.slice fo d.free.length fc) := (hd5.box.alloc _).cell 1 _ rfl
          go_wp2_with (first | (at_builtin; refine UK.wpList_append_run e1 rfl rfl rfl rfl rfl ?_) | (at_builtin; refine UK.wpList_append_run e2 rfl rfl rfl rfl rfl ?_))
          rw [HG.out]
          have HN2 : Hid ((d.free ++ [k]).length = d.free.length + 1) := by show _ = _; rw [List.length_append]; rfl
          refine bodyPost_ret (UK.box_ret2 rfl _ (hd6.ans.fill7 _ _ _ _ _ _ _) rfl disk_under rfl disk_size) rfl ?_
          have hdn := hd6.done (.slice (some ⟨gp', 0, none⟩) cnt cp') (.slice (some ⟨g2, 0, none⟩) (d.free.length + 1) c2) (.int .i64 (paidD d).most) (.int .i64 (paidD d).rl) (.int .i64 (paidD d).wl) (.int .i64 (paidD d).reads) (.int .i64 (paidD d).puts)
          exact ⟨gp', cp', some ⟨g2, 0, none⟩, c2, ⟨.inr (by omega), fun F e => .inr (by have e2 : g2 = F := congrArg Addr.block (Option.some.inj e); have := hd5.bel.size; omega)⟩, congrArg (fun n => Ending.returned (.tuple #[rval gp' cnt cp' (some ⟨g2, 0, none⟩) n c2 (paidD d), .int .i64 0])) HN2.out.symm, hdn.1.same rfl rfl, hdn.2⟩
      · have hl1 : 0 < d.free.length := List.length_pos_iff.2 hfz
        have hp2 := f.free (d.free.getD (d.free.length - 1) 0) (by
          rw [List.getD_eq_getElem?_getD, List.getElem?_eq_getElem (by omega)]; exact List.getElem_mem _)
        obtain ⟨F, HF, hlast⟩ := hd2.ref.free.last hfz
        have HG : Hid (giveD d k = { paidD d with x := UK.wr d.x (512 * k) (pageL k (putL (w32 (d.free.getD (d.free.length - 1) 0)))), free := d.free ++ [k], isf := d.isf.set k true }) := by
          show _ = _
          unfold giveD
          rw [next_last d hfz]
          rfl
        obtain ⟨m, hln⟩ : ∃ m, d.free.length = m + 1 := ⟨d.free.length - 1, by omega⟩
        generalize d.free.getD (d.free.length - 1) 0 = q at HG hlast hp2
        subst HF
        have hne := (hd2.oldF F rfl).1
        have hne2 : W.heap.size ≠ F := fun e => hne e.symm
        have hfcl : m + 1 ≤ fc := by
          rcases hd2.ref.free with ⟨e, _⟩ | ⟨F', e, r⟩
          · cases e
          · have := r.le; rwa [ints_length, hln] at this
        rw [hln, Nat.add_sub_cancel] at hlast
        rw [hln] at hd3
        have hq2 := hp2.2
        clear hfz hl1 hp2
        go_wp2_with fail
        change Calls _ _ _ (UK.fill7 w2 W.heap.size (.slice (some ⟨gp, 0, none⟩) cnt cp) (.slice (some ⟨F, 0, none⟩) (m + 1) fc) (.int .i64 (paidD d).most) (.int .i64 (paidD d).rl) (.int .i64 (paidD d).wl) (.int .i64 (paidD d).reads) (.int .i64 (paidD d).puts)) _
        generalize UK.fill7 w2 W.heap.size (.slice (some ⟨gp, 0, none⟩) cnt cp) (.slice (some ⟨F, 0, none⟩) (m + 1) fc) (.int .i64 (paidD d).most) (.int .i64 (paidD d).rl) (.int .i64 (paidD d).wl) (.int .i64 (paidD d).reads) (.int .i64 (paidD d).puts) = w3 at hd3 ⊢
        refine (rs_word hd3 q (by omega)).mono ?_
        clear hd3
        rintro e w4 ⟨rfl, hd3⟩
        obtain ⟨u0, u1, u2, u3, u4, u5, u6, uf⟩ := hd3.box.cells7
        go_wp2_with fail
        have hpl2 : (pageL k (putL (w32 q))).length = 512 := pageL_length k _ (by rw [putL_length]; decide)
        clear u0 u1 u2 u3 u4 u5 u6 uf
        have hd := hd3.drew
        clear hd3
        obtain ⟨u0, u1, u2, u3, u4, u5, u6, uf⟩ := hd.box.cells7
        go_region_with (first
          | (go_at_call 56; refine (rs_lay hd k (by omega) (putL (w32 q)) (by rw [putL_length]; decide)).mono ?_; rintro e w3 ⟨rfl, hd⟩; obtain ⟨u0, u1, u2, u3, u4, u5, u6, uf⟩ := hd.box.cells7)
          | (go_at_call 58; refine (rs_set hd hN f2 k hk2 (pageL k (putL (w32 q))) hpl2).mono ?_; rintro e w4 ⟨gp', cp', rfl, h4, b4, hgp, q1, q0⟩; unfold rval; obtain ⟨t0, t1, t2, t3, t4, t5, t6, tf⟩ := q0.cells7))
        all_goals
          have HLN := Lib.hid hln
          clear hln
          have hd5 := hd.moved (d' := { paidD d with x := UK.wr d.x (512 * k) (pageL k (putL (w32 q))) }) rfl h4 b4 hgp q1 q0
          clear h4 b4 q1 q0 t0 t1 t2 t3 t4 t5 t6 tf u0 u1 u2 u3 u4 u5 u6 uf hd
          change Exit.then _ _ _ _ (UK.fill7 w4 W.heap.size (.slice (some ⟨gp', 0, none⟩) cnt cp') (.slice (some ⟨F, 0, none⟩) d.free.length fc) (.int .i64 (paidD d).most) (.int .i64 (paidD d).rl) (.int .i64 (paidD d).wl) (.int .i64 (paidD d).reads) (.int .i64 (paidD d).puts))
          replace hd5 : RS N W (UK.fill7 w4 W.heap.size (.slice (some ⟨gp', 0, none⟩) cnt cp') (.slice (some ⟨F, 0, none⟩) d.free.length fc) (.int .i64 (paidD d).most) (.int .i64 (paidD d).rl) (.int .i64 (paidD d).wl) (.int .i64 (paidD d).reads) (.int .i64 (paidD d).puts)) gp' cnt cp' (some ⟨F, 0, none⟩) fc { paidD d with x := UK.wr d.x (512 * k) (pageL k (putL (w32 q))) } := hd5
          generalize UK.fill7 w4 W.heap.size (.slice (some ⟨gp', 0, none⟩) cnt cp') (.slice (some ⟨F, 0, none⟩) d.free.length fc) (.int .i64 (paidD d).most) (.int .i64 (paidD d).rl) (.int .i64 (paidD d).wl) (.int .i64 (paidD d).reads) (.int .i64 (paidD d).puts) = w5 at hd5 ⊢
          obtain ⟨g1, c1, W1, g2, c2, W2, e1, e2, r2, b2, hg2, bb1⟩ := copy_push (d := d) hd5.ref.free (by omega) k
          have hd6 := hd5.setFree r2 b2 hg2 hN
          have hb6 := (hd5.next b2).box
          obtain ⟨u0, u1, u2, u3, u4, u5, u6, uf⟩ := hb6.cells7
          obtain ⟨u0', u1', u2', u3', u4', u5', u6', uf'⟩ := hd6.box.cells7
          obtain ⟨t0, t1, t2, t3, t4, t5, t6, tf⟩ := hd6.ans.cells7
          rw [List.length_append, List.length_singleton] at hd6 t0 t1 t2 t3 t4 t5 t6 tf u0' u1' u2' u3' u4' u5' u6' uf'
          obtain ⟨v0, v1, v2, v3, v4, v5, v6, vf⟩ := hd5.box.cells7
          have v1a : (w5.alloc (.cells #[] 3)).cell? ⟨W.heap.size, 1, none⟩ = some (.slice (some ⟨F, 0, none⟩) d.free.length fc) := (hd5.box.alloc _).cell 1 _ rfl
          go_wp2_with (first | (at_builtin; refine UK.wpList_append_run e1 rfl rfl rfl rfl rfl ?_) | (at_builtin; refine UK.wpList_append_run e2 rfl rfl rfl rfl rfl ?_))
          rw [HG.out]
          have HN2 : Hid ((d.free ++ [k]).length = d.free.length + 1) := by show _ = _; rw [List.length_append]; rfl
          refine bodyPost_ret (UK.box_ret2 rfl _ (hd6.ans.fill7 _ _ _ _ _ _ _) rfl disk_under rfl disk_size) rfl ?_
          have hdn := hd6.done (.slice (some ⟨gp', 0, none⟩) cnt cp') (.slice (some ⟨g2, 0, none⟩) (d.free.length + 1) c2) (.int .i64 (paidD d).most) (.int .i64 (paidD d).rl) (.int .i64 (paidD d).wl) (.int .i64 (paidD d).reads) (.int .i64 (paidD d).puts)
          exact ⟨gp', cp', some ⟨g2, 0, none⟩, c2, ⟨.inr (by omega), fun F e => .inr (by have e2 : g2 = F := congrArg Addr.block (Option.some.inj e); have := hd5.bel.size; omega)⟩, congrArg (fun n => Ending.returned (.tuple #[rval gp' cnt cp' (some ⟨g2, 0, none⟩) n c2 (paidD d), .int .i64 0])) HN2.out.symm, hdn.1.same rfl rfl, hdn.2⟩
end
end Go.Proofs.YtamnhpijeiigcaaDoor
