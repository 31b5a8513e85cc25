/-
  The law's Does: spoiling, arming, reading, and none.
-/
import Derived.Test.YtamnhpijeiigcaaDoorPlayE
namespace Go.Proofs.YtamnhpijeiigcaaDoor
open Go.RowKit
open UK (str BytesAt nth Only w32 Row Box)
open Go.BigFrame
section
variable {E : Nat → Prop} {N k : Nat} {W w : World} {gp cp fc cnt : Nat} {fo : Option Addr} {d : Dk}
set_option maxHeartbeats 2000000 in
set_option maxRecDepth 100000 in
theorem does_spoil (h : Pair E N W gp cp fo fc d cnt) (o : Ok d cnt k) (_hk : k < 1000) (hN : N < W.heap.size) (_htab : 0 < N) (q : Act1) (_hq : q.nn ≤ 9223372036854775807) (hkd : q.kd = 8) :
    Calls Tryd.prog 23 #[.pointer (some ⟨N, 0, none⟩), rval gp cnt cp fo d.free.length fc d, .agg #[.int .i64 q.kd, .int .i64 q.pp, .int .i64 q.nn, .string (str q.si), .bool q.fu, .int .u8 (q.by_.toNat : Int)]] W fun e w' => Done E N k W w' gp fo e := by
  obtain ⟨kd, pp, nn, si, fu, by_⟩ := q
  obtain rfl : kd = 8 := hkd
  obtain ⟨V, HV, hd⟩ := LS.begin h hN 8 pp nn si fu by_
  have hgp := h.ref.pages.lt
  have hfo := fun F e => (h.ref.lowF F e).2
  have hcut := fun w => cut_any si 600 w (by omega)
  generalize si.take (600 : Int).toNat = st at hcut
  cases fu
  · have HT := Lib.hid (fun w (hh : LS E N W w gp cp fo fc d cnt d cnt (acells 8 pp nn si false by_)) => dd_spoil_u hh.dd nn by_)
    have HR := Lib.hid (fun w (hh : RefAt N w gp cp fo fc d cnt) (hNw : N ≤ w.heap.size) => rspoil_u hh hNw o.fit nn by_)
    have ho := o.spoilU nn by_
    generalize sB cnt nn = tb at HT HR
    generalize sD d cnt nn by_ = td at HT HR ho
    unfold rval
    go_enter Tryd.func23, Tryd.ntmps23
    go_wp2_with fail
    rw [← HV.out]
    refine (hcut _).mono ?_
    rintro e w' ⟨rfl, rfl⟩
    have ca4 := hd.act.cell 4 _ rfl
    have ca0 := hd.act.cell 0 _ rfl
    have ca2 := hd.act.cell 2 _ rfl
    have ca5 := hd.act.cell 5 _ rfl
    go_wp2_with fail
    refine (HT.out _ hd).mono ?_
    rintro e w1 ⟨rfl, d1, k1⟩
    have hd1 := hd.disk d1 k1
    have hN1 : N ≤ w1.heap.size := by have := hd1.size; omega
    have HR1 := Lib.hid (HR.out w1 hd1.ref hN1)
    obtain ⟨u0, u1, u2, u3, u4, u5, u6, uf⟩ := hd1.x.cells7
    have cb2 := hd1.act.cell 2 _ rfl
    have cb5 := hd1.act.cell 5 _ rfl
    go_wp2_with fail
    refine HR1.out.mono ?_
    rintro e w2 ⟨gp', cp', fo', fc', hx, rfl, hw, hb⟩
    unfold rval
    have hb := hb.alloc hb.size (.cells (rcells gp' cnt cp' fo' td.free.length fc' td) 46)
    have hw := hw.below ((Below.refl _ _).alloc (Nat.le_refl _) (.cells (rcells gp' cnt cp' fo' td.free.length fc' td) 46))
    obtain ⟨u0, u1, u2, u3, u4, u5, u6, uf⟩ := (hd1.x.next hb).cells7
    obtain ⟨t0, t1, t2, t3, t4, t5, t6, tf⟩ := (hd1.ans.next hb).cells7
    have hl := hd1.mid hN _htab hgp hfo hw hb hx
    go_wp2
    refine bodyPost_ret (UK.box_ret2 rfl _ (hl.ls.ans.fill7 _ _ _ _ _ _ _) rfl disk_under rfl disk_size) rfl ?_
    have F := hl.end_ hN _htab (.slice (some ⟨gp', 0, none⟩) cnt cp') (.slice fo' td.free.length fc') (.int .i64 td.most) (.int .i64 td.rl) (.int .i64 td.wl) (.int .i64 td.reads) (.int .i64 td.puts)
    exact ⟨td, cnt, gp', cp', fo', fc', rfl, F.1, ho, F.2, farW hx hd1.size⟩
  · have HT := Lib.hid (fun w (hh : LS E N W w gp cp fo fc d cnt d cnt (acells 8 pp nn si true by_)) => dd_spoil_u hh.dd nn by_)
    have HR := Lib.hid (fun w (hh : RefAt N w gp cp fo fc d cnt) (hNw : N ≤ w.heap.size) => rspoil_u hh hNw o.fit nn by_)
    have ho := o.spoilU nn by_
    generalize sB cnt nn = tb at HT HR
    generalize sD d cnt nn by_ = td at HT HR ho
    unfold rval
    go_enter Tryd.func23, Tryd.ntmps23
    go_wp2_with fail
    rw [← HV.out]
    refine (hcut _).mono ?_
    rintro e w' ⟨rfl, rfl⟩
    have ca4 := hd.act.cell 4 _ rfl
    go_wp2_with fail
    refine (full_any st _).mono ?_
    rintro e w0 ⟨rfl, b0⟩
    replace hd := hd.next (Nat.le_of_lt hN) b0
    have ca0 := hd.act.cell 0 _ rfl
    have ca2 := hd.act.cell 2 _ rfl
    have ca5 := hd.act.cell 5 _ rfl
    go_wp2_with fail
    refine (HT.out _ hd).mono ?_
    rintro e w1 ⟨rfl, d1, k1⟩
    have hd1 := hd.disk d1 k1
    have hN1 : N ≤ w1.heap.size := by have := hd1.size; omega
    have HR1 := Lib.hid (HR.out w1 hd1.ref hN1)
    obtain ⟨u0, u1, u2, u3, u4, u5, u6, uf⟩ := hd1.x.cells7
    have cb2 := hd1.act.cell 2 _ rfl
    have cb5 := hd1.act.cell 5 _ rfl
    go_wp2_with fail
    refine HR1.out.mono ?_
    rintro e w2 ⟨gp', cp', fo', fc', hx, rfl, hw, hb⟩
    unfold rval
    have hb := hb.alloc hb.size (.cells (rcells gp' cnt cp' fo' td.free.length fc' td) 46)
    have hw := hw.below ((Below.refl _ _).alloc (Nat.le_refl _) (.cells (rcells gp' cnt cp' fo' td.free.length fc' td) 46))
    obtain ⟨u0, u1, u2, u3, u4, u5, u6, uf⟩ := (hd1.x.next hb).cells7
    obtain ⟨t0, t1, t2, t3, t4, t5, t6, tf⟩ := (hd1.ans.next hb).cells7
    have hl := hd1.mid hN _htab hgp hfo hw hb hx
    go_wp2
    refine bodyPost_ret (UK.box_ret2 rfl _ (hl.ls.ans.fill7 _ _ _ _ _ _ _) rfl disk_under rfl disk_size) rfl ?_
    have F := hl.end_ hN _htab (.slice (some ⟨gp', 0, none⟩) cnt cp') (.slice fo' td.free.length fc') (.int .i64 td.most) (.int .i64 td.rl) (.int .i64 td.wl) (.int .i64 td.reads) (.int .i64 td.puts)
    exact ⟨td, cnt, gp', cp', fo', fc', rfl, F.1, ho, F.2, farW hx hd1.size⟩
set_option maxHeartbeats 2000000 in
set_option maxRecDepth 100000 in
theorem does_failRead (h : Pair E N W gp cp fo fc d cnt) (o : Ok d cnt k) (_hk : k < 1000) (hN : N < W.heap.size) (_htab : 0 < N) (q : Act1) (_hq : q.nn ≤ 9223372036854775807) (hkd : q.kd = 6) :
    Calls Tryd.prog 23 #[.pointer (some ⟨N, 0, none⟩), rval gp cnt cp fo d.free.length fc d, .agg #[.int .i64 q.kd, .int .i64 q.pp, .int .i64 q.nn, .string (str q.si), .bool q.fu, .int .u8 (q.by_.toNat : Int)]] W fun e w' => Done E N k W w' gp fo e := by
  obtain ⟨kd, pp, nn, si, fu, by_⟩ := q
  obtain rfl : kd = 6 := hkd
  obtain ⟨V, HV, hd⟩ := LS.begin h hN 6 pp nn si fu by_
  have hgp := h.ref.pages.lt
  have hfo := fun F e => (h.ref.lowF F e).2
  have hcut := fun w => cut_any si 600 w (by omega)
  generalize si.take (600 : Int).toNat = st at hcut
  have ho := o.rl nn _hq
  obtain ⟨ar, HA⟩ : ∃ ar, Hid (armN nn = ar) := ⟨_, rfl⟩
  rw [HA.out] at ho
  have hc : (nn < -1 ∧ ar = -1) ∨ (-1 ≤ nn ∧ nn = ar) := by have := HA.out; unfold armN at this; omega
  rcases hc with ⟨hc, rfl⟩ | ⟨hc, rfl⟩
  all_goals
    cases fu
    · have HT := Lib.hid (fun w (hh : LS E N W w gp cp fo fc d cnt d cnt (acells 6 pp nn si false by_)) => dd_failRead hh.dd nn _hq)
      rw [HA.out] at HT
      unfold rval
      go_enter Tryd.func23, Tryd.ntmps23
      go_wp2_with fail
      rw [← HV.out]
      refine (hcut _).mono ?_
      rintro e w' ⟨rfl, rfl⟩
      have ca4 := hd.act.cell 4 _ rfl
      have ca0 := hd.act.cell 0 _ rfl
      have ca2 := hd.act.cell 2 _ rfl
      go_wp2_with fail
      refine (HT.out _ hd).mono ?_
      rintro e w1 ⟨rfl, d1, k1⟩
      have hd1 := hd.disk d1 k1
      obtain ⟨u0, u1, u2, u3, u4, u5, u6, uf⟩ := hd1.x.cells7
      obtain ⟨t0, t1, t2, t3, t4, t5, t6, tf⟩ := hd1.ans.cells7
      have cb2 := hd1.act.cell 2 _ rfl
      have hl := hd1.cellX hN _htab hgp hfo 3 (.int .i64 _) rfl rfl rfl
      go_wp2
      refine bodyPost_ret (UK.box_ret2 rfl _ (hl.ls.ans.fill7 _ _ _ _ _ _ _) rfl disk_under rfl disk_size) rfl ?_
      exact ⟨_, cnt, gp, cp, fo, fc, rfl, (hl.end_ hN _htab _ _ _ _ _ _ _).1, ho, (hl.end_ hN _htab _ _ _ _ _ _ _).2, ⟨.inl rfl, fun F e => .inl e⟩⟩
    · have HT := Lib.hid (fun w (hh : LS E N W w gp cp fo fc d cnt d cnt (acells 6 pp nn si true by_)) => dd_failRead hh.dd nn _hq)
      rw [HA.out] at HT
      unfold rval
      go_enter Tryd.func23, Tryd.ntmps23
      go_wp2_with fail
      rw [← HV.out]
      refine (hcut _).mono ?_
      rintro e w' ⟨rfl, rfl⟩
      have ca4 := hd.act.cell 4 _ rfl
      go_wp2_with fail
      refine (full_any st _).mono ?_
      rintro e w0 ⟨rfl, b0⟩
      replace hd := hd.next (Nat.le_of_lt hN) b0
      have ca0 := hd.act.cell 0 _ rfl
      have ca2 := hd.act.cell 2 _ rfl
      go_wp2_with fail
      refine (HT.out _ hd).mono ?_
      rintro e w1 ⟨rfl, d1, k1⟩
      have hd1 := hd.disk d1 k1
      obtain ⟨u0, u1, u2, u3, u4, u5, u6, uf⟩ := hd1.x.cells7
      obtain ⟨t0, t1, t2, t3, t4, t5, t6, tf⟩ := hd1.ans.cells7
      have cb2 := hd1.act.cell 2 _ rfl
      have hl := hd1.cellX hN _htab hgp hfo 3 (.int .i64 _) rfl rfl rfl
      go_wp2
      refine bodyPost_ret (UK.box_ret2 rfl _ (hl.ls.ans.fill7 _ _ _ _ _ _ _) rfl disk_under rfl disk_size) rfl ?_
      exact ⟨_, cnt, gp, cp, fo, fc, rfl, (hl.end_ hN _htab _ _ _ _ _ _ _).1, ho, (hl.end_ hN _htab _ _ _ _ _ _ _).2, ⟨.inl rfl, fun F e => .inl e⟩⟩
set_option maxHeartbeats 2000000 in
set_option maxRecDepth 100000 in
theorem does_failWrite (h : Pair E N W gp cp fo fc d cnt) (o : Ok d cnt k) (_hk : k < 1000) (hN : N < W.heap.size) (_htab : 0 < N) (q : Act1) (_hq : q.nn ≤ 9223372036854775807) (hkd : q.kd = 7) :
    Calls Tryd.prog 23 #[.pointer (some ⟨N, 0, none⟩), rval gp cnt cp fo d.free.length fc d, .agg #[.int .i64 q.kd, .int .i64 q.pp, .int .i64 q.nn, .string (str q.si), .bool q.fu, .int .u8 (q.by_.toNat : Int)]] W fun e w' => Done E N k W w' gp fo e := by
  obtain ⟨kd, pp, nn, si, fu, by_⟩ := q
  obtain rfl : kd = 7 := hkd
  obtain ⟨V, HV, hd⟩ := LS.begin h hN 7 pp nn si fu by_
  have hgp := h.ref.pages.lt
  have hfo := fun F e => (h.ref.lowF F e).2
  have hcut := fun w => cut_any si 600 w (by omega)
  generalize si.take (600 : Int).toNat = st at hcut
  have ho := o.wl nn _hq
  obtain ⟨ar, HA⟩ : ∃ ar, Hid (armN nn = ar) := ⟨_, rfl⟩
  rw [HA.out] at ho
  have hc : (nn < -1 ∧ ar = -1) ∨ (-1 ≤ nn ∧ nn = ar) := by have := HA.out; unfold armN at this; omega
  rcases hc with ⟨hc, rfl⟩ | ⟨hc, rfl⟩
  all_goals
    cases fu
    · have HT := Lib.hid (fun w (hh : LS E N W w gp cp fo fc d cnt d cnt (acells 7 pp nn si false by_)) => dd_failWrite hh.dd nn _hq)
      rw [HA.out] at HT
      unfold rval
      go_enter Tryd.func23, Tryd.ntmps23
      go_wp2_with fail
      rw [← HV.out]
      refine (hcut _).mono ?_
      rintro e w' ⟨rfl, rfl⟩
      have ca4 := hd.act.cell 4 _ rfl
      have ca0 := hd.act.cell 0 _ rfl
      have ca2 := hd.act.cell 2 _ rfl
      go_wp2_with fail
      refine (HT.out _ hd).mono ?_
      rintro e w1 ⟨rfl, d1, k1⟩
      have hd1 := hd.disk d1 k1
      obtain ⟨u0, u1, u2, u3, u4, u5, u6, uf⟩ := hd1.x.cells7
      obtain ⟨t0, t1, t2, t3, t4, t5, t6, tf⟩ := hd1.ans.cells7
      have cb2 := hd1.act.cell 2 _ rfl
      have hl := hd1.cellX hN _htab hgp hfo 4 (.int .i64 _) rfl rfl rfl
      go_wp2
      refine bodyPost_ret (UK.box_ret2 rfl _ (hl.ls.ans.fill7 _ _ _ _ _ _ _) rfl disk_under rfl disk_size) rfl ?_
      exact ⟨_, cnt, gp, cp, fo, fc, rfl, (hl.end_ hN _htab _ _ _ _ _ _ _).1, ho, (hl.end_ hN _htab _ _ _ _ _ _ _).2, ⟨.inl rfl, fun F e => .inl e⟩⟩
    · have HT := Lib.hid (fun w (hh : LS E N W w gp cp fo fc d cnt d cnt (acells 7 pp nn si true by_)) => dd_failWrite hh.dd nn _hq)
      rw [HA.out] at HT
      unfold rval
      go_enter Tryd.func23, Tryd.ntmps23
      go_wp2_with fail
      rw [← HV.out]
      refine (hcut _).mono ?_
      rintro e w' ⟨rfl, rfl⟩
      have ca4 := hd.act.cell 4 _ rfl
      go_wp2_with fail
      refine (full_any st _).mono ?_
      rintro e w0 ⟨rfl, b0⟩
      replace hd := hd.next (Nat.le_of_lt hN) b0
      have ca0 := hd.act.cell 0 _ rfl
      have ca2 := hd.act.cell 2 _ rfl
      go_wp2_with fail
      refine (HT.out _ hd).mono ?_
      rintro e w1 ⟨rfl, d1, k1⟩
      have hd1 := hd.disk d1 k1
      obtain ⟨u0, u1, u2, u3, u4, u5, u6, uf⟩ := hd1.x.cells7
      obtain ⟨t0, t1, t2, t3, t4, t5, t6, tf⟩ := hd1.ans.cells7
      have cb2 := hd1.act.cell 2 _ rfl
      have hl := hd1.cellX hN _htab hgp hfo 4 (.int .i64 _) rfl rfl rfl
      go_wp2
      refine bodyPost_ret (UK.box_ret2 rfl _ (hl.ls.ans.fill7 _ _ _ _ _ _ _) rfl disk_under rfl disk_size) rfl ?_
      exact ⟨_, cnt, gp, cp, fo, fc, rfl, (hl.end_ hN _htab _ _ _ _ _ _ _).1, ho, (hl.end_ hN _htab _ _ _ _ _ _ _).2, ⟨.inl rfl, fun F e => .inl e⟩⟩
set_option maxHeartbeats 2000000 in
set_option maxRecDepth 100000 in
theorem does_none (h : Pair E N W gp cp fo fc d cnt) (o : Ok d cnt k) (_hk : k < 1000) (hN : N < W.heap.size) (_htab : 0 < N) (q : Act1) (_hq : q.nn ≤ 9223372036854775807) (h1 : (q.kd == 1) = false) (h2 : (q.kd == 2) = false) (h3 : (q.kd == 3) = false) (h4 : (q.kd == 4) = false) (h5 : (q.kd == 5) = false) (h6 : (q.kd == 6) = false) (h7 : (q.kd == 7) = false) (h8 : (q.kd == 8) = false) :
    Calls Tryd.prog 23 #[.pointer (some ⟨N, 0, none⟩), rval gp cnt cp fo d.free.length fc d, .agg #[.int .i64 q.kd, .int .i64 q.pp, .int .i64 q.nn, .string (str q.si), .bool q.fu, .int .u8 (q.by_.toNat : Int)]] W fun e w' => Done E N k W w' gp fo e := by
  obtain ⟨kd, pp, nn, si, fu, by_⟩ := q
  simp only at h1 h2 h3 h4 h5 h6 h7 h8
  obtain ⟨V, HV, hd⟩ := LS.begin h hN kd pp nn si fu by_
  have hgp := h.ref.pages.lt
  have hfo := fun F e => (h.ref.lowF F e).2
  have hcut := fun w => cut_any si 600 w (by omega)
  generalize si.take (600 : Int).toNat = st at hcut
  have ho := o.more
  cases fu
  · skip
    unfold rval
    go_enter Tryd.func23, Tryd.ntmps23
    go_wp2_with fail
    rw [← HV.out]
    refine (hcut _).mono ?_
    rintro e w' ⟨rfl, rfl⟩
    have ca4 := hd.act.cell 4 _ rfl
    have ca0 := hd.act.cell 0 _ rfl
    have hl := hd.toLM hgp hfo
    obtain ⟨u0, u1, u2, u3, u4, u5, u6, uf⟩ := hd.x.cells7
    obtain ⟨t0, t1, t2, t3, t4, t5, t6, tf⟩ := hd.ans.cells7
    go_wp2
    refine bodyPost_ret (UK.box_ret2 rfl _ (hl.ls.ans.fill7 _ _ _ _ _ _ _) rfl disk_under rfl disk_size) rfl ?_
    have F := hl.end_ hN _htab (.slice (some ⟨gp, 0, none⟩) cnt cp) (.slice fo d.free.length fc) (.int .i64 d.most) (.int .i64 d.rl) (.int .i64 d.wl) (.int .i64 d.reads) (.int .i64 d.puts)
    exact ⟨d, cnt, gp, cp, fo, fc, rfl, F.1, ho, F.2, ⟨.inl rfl, fun F e => .inl e⟩⟩
  · skip
    unfold rval
    go_enter Tryd.func23, Tryd.ntmps23
    go_wp2_with fail
    rw [← HV.out]
    refine (hcut _).mono ?_
    rintro e w' ⟨rfl, rfl⟩
    have ca4 := hd.act.cell 4 _ rfl
    go_wp2_with fail
    refine (full_any st _).mono ?_
    rintro e w0 ⟨rfl, b0⟩
    replace hd := hd.next (Nat.le_of_lt hN) b0
    have ca0 := hd.act.cell 0 _ rfl
    have hl := hd.toLM hgp hfo
    obtain ⟨u0, u1, u2, u3, u4, u5, u6, uf⟩ := hd.x.cells7
    obtain ⟨t0, t1, t2, t3, t4, t5, t6, tf⟩ := hd.ans.cells7
    go_wp2
    refine bodyPost_ret (UK.box_ret2 rfl _ (hl.ls.ans.fill7 _ _ _ _ _ _ _) rfl disk_under rfl disk_size) rfl ?_
    have F := hl.end_ hN _htab (.slice (some ⟨gp, 0, none⟩) cnt cp) (.slice fo d.free.length fc) (.int .i64 d.most) (.int .i64 d.rl) (.int .i64 d.wl) (.int .i64 d.reads) (.int .i64 d.puts)
    exact ⟨d, cnt, gp, cp, fo, fc, rfl, F.1, ho, F.2, ⟨.inl rfl, fun F e => .inl e⟩⟩
end
end Go.Proofs.YtamnhpijeiigcaaDoor
