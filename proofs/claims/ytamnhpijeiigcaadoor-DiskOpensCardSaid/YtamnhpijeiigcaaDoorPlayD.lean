/-
  The law's Does: giving, writing, flushing.
-/
import Derived.Test.YtamnhpijeiigcaaDoorPlayC
namespace Go.Proofs.YtamnhpijeiigcaaDoor
open Go.RowKit
open UK (str BytesAt nth Only w32 Row Box)
open Go.BigFrame
section
variable {E : Nat → Prop} {N k : Nat} {W w : World} {gp cp fc cnt : Nat} {fo : Option Addr} {d : Dk}
set_option maxHeartbeats 2000000 in
set_option maxRecDepth 100000 in
theorem does_give (h : Pair E N W gp cp fo fc d cnt) (o : Ok d cnt k) (hk : k < 1000) (hN : N < W.heap.size) (_htab : 0 < N) (q : Act1) (hkd : q.kd = 2) :
    Calls Tryd.prog 23 #[.pointer (some ⟨N, 0, none⟩), rval gp cnt cp fo d.free.length fc d, .agg #[.int .i64 q.kd, .int .i64 q.pp, .int .i64 q.nn, .string (str q.si), .bool q.fu, .int .u8 (q.by_.toNat : Int)]] W fun e w' => Done E N k W w' gp fo e := by
  obtain ⟨kd, pp, nn, si, fu, by_⟩ := q
  obtain rfl : kd = 2 := hkd
  obtain ⟨V, HV, hd⟩ := LS.begin h hN 2 pp nn si fu by_
  have hgp := h.ref.pages.lt
  have hfo := fun F e => (h.ref.lowF F e).2
  have hcut := fun w => cut_any si 600 w (by omega)
  generalize si.take (600 : Int).toNat = st at hcut
  cases fu
  · have HT := Lib.hid (fun w (hh : LS E N W w gp cp fo fc d cnt d cnt (acells 2 pp nn si false by_)) => dd_give_u hh.dd o hk pp)
    have HR := Lib.hid (fun w (hh : RefAt N w gp cp fo fc d cnt) (hNw : N ≤ w.heap.size) => rgive_any hh hNw o.so o.fit (by have := o.puts; omega) pp)
    have ho := o.give hk pp
    generalize rgiveE d cnt pp = te at HT HR
    generalize rgiveD d cnt pp = td at HT HR ho
    unfold rval
    go_enter Tryd.func23, Tryd.ntmps23
    go_wp2_with fail
    rw [← HV.out]
    refine (hcut _).mono ?_
    rintro e w' ⟨rfl, rfl⟩
    have ca4 := hd.act.cell 4 _ rfl
    have ca0 := hd.act.cell 0 _ rfl
    have ca1 := hd.act.cell 1 _ rfl
    go_wp2_with fail
    refine (HT.out _ hd).mono ?_
    rintro e w1 ⟨rfl, d1, k1⟩
    have hd1 := hd.disk d1 k1
    have hN1 : N ≤ w1.heap.size := by have := hd1.size; omega
    have HR1 := Lib.hid (HR.out w1 hd1.ref hN1)
    obtain ⟨u0, u1, u2, u3, u4, u5, u6, uf⟩ := hd1.x.cells7
    have cb1 := hd1.act.cell 1 _ rfl
    go_wp2_with fail
    refine HR1.out.mono ?_
    rintro e w2 ⟨gp', cp', fo', fc', hx, rfl, hw, hb⟩
    unfold rval
    have hb := hb.alloc hb.size (.cells (rcells gp' cnt cp' fo' td.free.length fc' td) 46)
    have hw := hw.below ((Below.refl _ _).alloc (Nat.le_refl _) (.cells (rcells gp' cnt cp' fo' td.free.length fc' td) 46))
    have y0 := hd1.x.next hb
    have y2 := hd1.ans.next hb
    obtain ⟨u0, u1, u2, u3, u4, u5, u6, uf⟩ := y0.cells7
    obtain ⟨t0, t1, t2, t3, t4, t5, t6, tf⟩ := y2.cells7
    have F := hd1.fin hN _htab hgp hfo hw hb hx (.slice (some ⟨gp', 0, none⟩) cnt cp') (.slice fo' td.free.length fc') (.int .i64 td.most) (.int .i64 td.rl) (.int .i64 td.wl) (.int .i64 td.reads) (.int .i64 td.puts) (.slice (some ⟨gp', 0, none⟩) cnt cp') (.slice fo' td.free.length fc') (.int .i64 td.most) (.int .i64 td.rl) (.int .i64 td.wl) (.int .i64 td.reads) (.int .i64 td.puts)
    go_wp2
    refine bodyPost_ret (UK.box_ret2 rfl _ ((y2.fill7_far (g := W.heap.size) (by omega) _ _ _ _ _ _ _).fill7 _ _ _ _ _ _ _) rfl disk_under rfl disk_size) rfl ?_
    exact ⟨td, cnt, gp', cp', fo', fc', rfl, F.1, ho, F.2, farW hx hd1.size⟩
  · have HT := Lib.hid (fun w (hh : LS E N W w gp cp fo fc d cnt d cnt (acells 2 pp nn si true by_)) => dd_give_u hh.dd o hk pp)
    have HR := Lib.hid (fun w (hh : RefAt N w gp cp fo fc d cnt) (hNw : N ≤ w.heap.size) => rgive_any hh hNw o.so o.fit (by have := o.puts; omega) pp)
    have ho := o.give hk pp
    generalize rgiveE d cnt pp = te at HT HR
    generalize rgiveD d cnt pp = td at HT HR ho
    unfold rval
    go_enter Tryd.func23, Tryd.ntmps23
    go_wp2_with fail
    rw [← HV.out]
    refine (hcut _).mono ?_
    rintro e w' ⟨rfl, rfl⟩
    have ca4 := hd.act.cell 4 _ rfl
    go_wp2_with fail
    refine (full_any st _).mono ?_
    rintro e w0 ⟨rfl, b0⟩
    replace hd := hd.next (Nat.le_of_lt hN) b0
    have ca0 := hd.act.cell 0 _ rfl
    have ca1 := hd.act.cell 1 _ rfl
    go_wp2_with fail
    refine (HT.out _ hd).mono ?_
    rintro e w1 ⟨rfl, d1, k1⟩
    have hd1 := hd.disk d1 k1
    have hN1 : N ≤ w1.heap.size := by have := hd1.size; omega
    have HR1 := Lib.hid (HR.out w1 hd1.ref hN1)
    obtain ⟨u0, u1, u2, u3, u4, u5, u6, uf⟩ := hd1.x.cells7
    have cb1 := hd1.act.cell 1 _ rfl
    go_wp2_with fail
    refine HR1.out.mono ?_
    rintro e w2 ⟨gp', cp', fo', fc', hx, rfl, hw, hb⟩
    unfold rval
    have hb := hb.alloc hb.size (.cells (rcells gp' cnt cp' fo' td.free.length fc' td) 46)
    have hw := hw.below ((Below.refl _ _).alloc (Nat.le_refl _) (.cells (rcells gp' cnt cp' fo' td.free.length fc' td) 46))
    have y0 := hd1.x.next hb
    have y2 := hd1.ans.next hb
    obtain ⟨u0, u1, u2, u3, u4, u5, u6, uf⟩ := y0.cells7
    obtain ⟨t0, t1, t2, t3, t4, t5, t6, tf⟩ := y2.cells7
    have F := hd1.fin hN _htab hgp hfo hw hb hx (.slice (some ⟨gp', 0, none⟩) cnt cp') (.slice fo' td.free.length fc') (.int .i64 td.most) (.int .i64 td.rl) (.int .i64 td.wl) (.int .i64 td.reads) (.int .i64 td.puts) (.slice (some ⟨gp', 0, none⟩) cnt cp') (.slice fo' td.free.length fc') (.int .i64 td.most) (.int .i64 td.rl) (.int .i64 td.wl) (.int .i64 td.reads) (.int .i64 td.puts)
    go_wp2
    refine bodyPost_ret (UK.box_ret2 rfl _ ((y2.fill7_far (g := W.heap.size) (by omega) _ _ _ _ _ _ _).fill7 _ _ _ _ _ _ _) rfl disk_under rfl disk_size) rfl ?_
    exact ⟨td, cnt, gp', cp', fo', fc', rfl, F.1, ho, F.2, farW hx hd1.size⟩
set_option maxHeartbeats 2000000 in
set_option maxRecDepth 100000 in
theorem does_write (h : Pair E N W gp cp fo fc d cnt) (o : Ok d cnt k) (hk : k < 1000) (hN : N < W.heap.size) (_htab : 0 < N) (q : Act1) (hkd : q.kd = 4) :
    Calls Tryd.prog 23 #[.pointer (some ⟨N, 0, none⟩), rval gp cnt cp fo d.free.length fc d, .agg #[.int .i64 q.kd, .int .i64 q.pp, .int .i64 q.nn, .string (str q.si), .bool q.fu, .int .u8 (q.by_.toNat : Int)]] W fun e w' => Done E N k W w' gp fo e := by
  obtain ⟨kd, pp, nn, si, fu, by_⟩ := q
  obtain rfl : kd = 4 := hkd
  obtain ⟨V, HV, hd⟩ := LS.begin h hN 4 pp nn si fu by_
  have hgp := h.ref.pages.lt
  have hfo := fun F e => (h.ref.lowF F e).2
  have hcut := fun w => cut_any si 600 w (by omega)
  generalize si.take (600 : Int).toNat = st at hcut
  cases fu
  · have HT := Lib.hid (fun w (hh : LS E N W w gp cp fo fc d cnt d cnt (acells 4 pp nn si false by_)) => dd_write_u hh.dd o hk pp st)
    have HR := Lib.hid (fun w (hh : RefAt N w gp cp fo fc d cnt) (hNw : N ≤ w.heap.size) => rwritepage_any hh hNw o.so o.fit (by have := o.puts; omega) pp st)
    have ho := o.write hk pp st
    generalize rwriteE d cnt pp st = te at HT HR
    generalize rwriteD d cnt pp st = td at HT HR ho
    unfold rval
    go_enter Tryd.func23, Tryd.ntmps23
    go_wp2_with fail
    rw [← HV.out]
    refine (hcut _).mono ?_
    rintro e w' ⟨rfl, rfl⟩
    have ca4 := hd.act.cell 4 _ rfl
    have ca0 := hd.act.cell 0 _ rfl
    have ca1 := hd.act.cell 1 _ rfl
    go_wp2_with fail
    refine (HT.out _ hd).mono ?_
    rintro e w1 ⟨rfl, d1, k1⟩
    have hd1 := hd.disk d1 k1
    have hN1 : N ≤ w1.heap.size := by have := hd1.size; omega
    have HR1 := Lib.hid (HR.out w1 hd1.ref hN1)
    obtain ⟨u0, u1, u2, u3, u4, u5, u6, uf⟩ := hd1.x.cells7
    have cb1 := hd1.act.cell 1 _ rfl
    go_wp2_with fail
    refine HR1.out.mono ?_
    rintro e w2 ⟨gp', cp', fo', fc', hx, rfl, hw, hb⟩
    unfold rval
    have hb := hb.alloc hb.size (.cells (rcells gp' cnt cp' fo' td.free.length fc' td) 46)
    have hw := hw.below ((Below.refl _ _).alloc (Nat.le_refl _) (.cells (rcells gp' cnt cp' fo' td.free.length fc' td) 46))
    have y0 := hd1.x.next hb
    have y2 := hd1.ans.next hb
    obtain ⟨u0, u1, u2, u3, u4, u5, u6, uf⟩ := y0.cells7
    obtain ⟨t0, t1, t2, t3, t4, t5, t6, tf⟩ := y2.cells7
    have F := hd1.fin hN _htab hgp hfo hw hb hx (.slice (some ⟨gp', 0, none⟩) cnt cp') (.slice fo' td.free.length fc') (.int .i64 td.most) (.int .i64 td.rl) (.int .i64 td.wl) (.int .i64 td.reads) (.int .i64 td.puts) (.slice (some ⟨gp', 0, none⟩) cnt cp') (.slice fo' td.free.length fc') (.int .i64 td.most) (.int .i64 td.rl) (.int .i64 td.wl) (.int .i64 td.reads) (.int .i64 td.puts)
    go_wp2
    refine bodyPost_ret (UK.box_ret2 rfl _ ((y2.fill7_far (g := W.heap.size) (by omega) _ _ _ _ _ _ _).fill7 _ _ _ _ _ _ _) rfl disk_under rfl disk_size) rfl ?_
    exact ⟨td, cnt, gp', cp', fo', fc', rfl, F.1, ho, F.2, farW hx hd1.size⟩
  · have HT := Lib.hid (fun w (hh : LS E N W w gp cp fo fc d cnt d cnt (acells 4 pp nn si true by_)) => dd_write_u hh.dd o hk pp (fullL st))
    have HR := Lib.hid (fun w (hh : RefAt N w gp cp fo fc d cnt) (hNw : N ≤ w.heap.size) => rwritepage_any hh hNw o.so o.fit (by have := o.puts; omega) pp (fullL st))
    have ho := o.write hk pp (fullL st)
    generalize rwriteE d cnt pp (fullL st) = te at HT HR
    generalize rwriteD d cnt pp (fullL st) = td at HT HR ho
    unfold rval
    go_enter Tryd.func23, Tryd.ntmps23
    go_wp2_with fail
    rw [← HV.out]
    refine (hcut _).mono ?_
    rintro e w' ⟨rfl, rfl⟩
    have ca4 := hd.act.cell 4 _ rfl
    go_wp2_with fail
    refine (full_any st _).mono ?_
    rintro e w0 ⟨rfl, b0⟩
    replace hd := hd.next (Nat.le_of_lt hN) b0
    have ca0 := hd.act.cell 0 _ rfl
    have ca1 := hd.act.cell 1 _ rfl
    go_wp2_with fail
    refine (HT.out _ hd).mono ?_
    rintro e w1 ⟨rfl, d1, k1⟩
    have hd1 := hd.disk d1 k1
    have hN1 : N ≤ w1.heap.size := by have := hd1.size; omega
    have HR1 := Lib.hid (HR.out w1 hd1.ref hN1)
    obtain ⟨u0, u1, u2, u3, u4, u5, u6, uf⟩ := hd1.x.cells7
    have cb1 := hd1.act.cell 1 _ rfl
    go_wp2_with fail
    refine HR1.out.mono ?_
    rintro e w2 ⟨gp', cp', fo', fc', hx, rfl, hw, hb⟩
    unfold rval
    have hb := hb.alloc hb.size (.cells (rcells gp' cnt cp' fo' td.free.length fc' td) 46)
    have hw := hw.below ((Below.refl _ _).alloc (Nat.le_refl _) (.cells (rcells gp' cnt cp' fo' td.free.length fc' td) 46))
    have y0 := hd1.x.next hb
    have y2 := hd1.ans.next hb
    obtain ⟨u0, u1, u2, u3, u4, u5, u6, uf⟩ := y0.cells7
    obtain ⟨t0, t1, t2, t3, t4, t5, t6, tf⟩ := y2.cells7
    have F := hd1.fin hN _htab hgp hfo hw hb hx (.slice (some ⟨gp', 0, none⟩) cnt cp') (.slice fo' td.free.length fc') (.int .i64 td.most) (.int .i64 td.rl) (.int .i64 td.wl) (.int .i64 td.reads) (.int .i64 td.puts) (.slice (some ⟨gp', 0, none⟩) cnt cp') (.slice fo' td.free.length fc') (.int .i64 td.most) (.int .i64 td.rl) (.int .i64 td.wl) (.int .i64 td.reads) (.int .i64 td.puts)
    go_wp2
    refine bodyPost_ret (UK.box_ret2 rfl _ ((y2.fill7_far (g := W.heap.size) (by omega) _ _ _ _ _ _ _).fill7 _ _ _ _ _ _ _) rfl disk_under rfl disk_size) rfl ?_
    exact ⟨td, cnt, gp', cp', fo', fc', rfl, F.1, ho, F.2, farW hx hd1.size⟩
set_option maxHeartbeats 2000000 in
set_option maxRecDepth 100000 in
theorem does_flush (h : Pair E N W gp cp fo fc d cnt) (o : Ok d cnt k) (hk : k < 1000) (hN : N < W.heap.size) (_htab : 0 < N) (q : Act1) (hkd : q.kd = 5) :
    Calls Tryd.prog 23 #[.pointer (some ⟨N, 0, none⟩), rval gp cnt cp fo d.free.length fc d, .agg #[.int .i64 q.kd, .int .i64 q.pp, .int .i64 q.nn, .string (str q.si), .bool q.fu, .int .u8 (q.by_.toNat : Int)]] W fun e w' => Done E N k W w' gp fo e := by
  obtain ⟨kd, pp, nn, si, fu, by_⟩ := q
  obtain rfl : kd = 5 := hkd
  obtain ⟨V, HV, hd⟩ := LS.begin h hN 5 pp nn si fu by_
  have hgp := h.ref.pages.lt
  have hfo := fun F e => (h.ref.lowF F e).2
  have hcut := fun w => cut_any si 600 w (by omega)
  generalize si.take (600 : Int).toNat = st at hcut
  cases fu
  · have HT := Lib.hid (fun w (hh : LS E N W w gp cp fo fc d cnt d cnt (acells 5 pp nn si false by_)) => dd_flush hh.dd (by have := o.puts; omega))
    have HR := Lib.hid (fun w (hh : RefAt N w gp cp fo fc d cnt) (hNw : N ≤ w.heap.size) => rflush_any hh hNw o.fit (by have := o.puts; omega))
    have ho := o.flush hk
    generalize failE d.wl = te at HT HR
    generalize flushD d cnt = td at HT HR ho
    unfold rval
    go_enter Tryd.func23, Tryd.ntmps23
    go_wp2_with fail
    rw [← HV.out]
    refine (hcut _).mono ?_
    rintro e w' ⟨rfl, rfl⟩
    have ca4 := hd.act.cell 4 _ rfl
    have ca0 := hd.act.cell 0 _ rfl
    go_wp2_with fail
    refine (HT.out _ hd).mono ?_
    rintro e w1 ⟨rfl, d1, k1⟩
    have hd1 := hd.disk d1 k1
    have hN1 : N ≤ w1.heap.size := by have := hd1.size; omega
    have HR1 := Lib.hid (HR.out w1 hd1.ref hN1)
    obtain ⟨u0, u1, u2, u3, u4, u5, u6, uf⟩ := hd1.x.cells7
    go_wp2_with fail
    refine HR1.out.mono ?_
    rintro e w2 ⟨gp', cp', fo', fc', hx, rfl, hw, hb⟩
    unfold rval
    have hb := hb.alloc hb.size (.cells (rcells gp' cnt cp' fo' td.free.length fc' td) 46)
    have hw := hw.below ((Below.refl _ _).alloc (Nat.le_refl _) (.cells (rcells gp' cnt cp' fo' td.free.length fc' td) 46))
    have y0 := hd1.x.next hb
    have y2 := hd1.ans.next hb
    obtain ⟨u0, u1, u2, u3, u4, u5, u6, uf⟩ := y0.cells7
    obtain ⟨t0, t1, t2, t3, t4, t5, t6, tf⟩ := y2.cells7
    have F := hd1.fin hN _htab hgp hfo hw hb hx (.slice (some ⟨gp', 0, none⟩) cnt cp') (.slice fo' td.free.length fc') (.int .i64 td.most) (.int .i64 td.rl) (.int .i64 td.wl) (.int .i64 td.reads) (.int .i64 td.puts) (.slice (some ⟨gp', 0, none⟩) cnt cp') (.slice fo' td.free.length fc') (.int .i64 td.most) (.int .i64 td.rl) (.int .i64 td.wl) (.int .i64 td.reads) (.int .i64 td.puts)
    go_wp2
    refine bodyPost_ret (UK.box_ret2 rfl _ ((y2.fill7_far (g := W.heap.size) (by omega) _ _ _ _ _ _ _).fill7 _ _ _ _ _ _ _) rfl disk_under rfl disk_size) rfl ?_
    exact ⟨td, cnt, gp', cp', fo', fc', rfl, F.1, ho, F.2, farW hx hd1.size⟩
  · have HT := Lib.hid (fun w (hh : LS E N W w gp cp fo fc d cnt d cnt (acells 5 pp nn si true by_)) => dd_flush hh.dd (by have := o.puts; omega))
    have HR := Lib.hid (fun w (hh : RefAt N w gp cp fo fc d cnt) (hNw : N ≤ w.heap.size) => rflush_any hh hNw o.fit (by have := o.puts; omega))
    have ho := o.flush hk
    generalize failE d.wl = te at HT HR
    generalize flushD d cnt = td at HT HR ho
    unfold rval
    go_enter Tryd.func23, Tryd.ntmps23
    go_wp2_with fail
    rw [← HV.out]
    refine (hcut _).mono ?_
    rintro e w' ⟨rfl, rfl⟩
    have ca4 := hd.act.cell 4 _ rfl
    go_wp2_with fail
    refine (full_any st _).mono ?_
    rintro e w0 ⟨rfl, b0⟩
    replace hd := hd.next (Nat.le_of_lt hN) b0
    have ca0 := hd.act.cell 0 _ rfl
    go_wp2_with fail
    refine (HT.out _ hd).mono ?_
    rintro e w1 ⟨rfl, d1, k1⟩
    have hd1 := hd.disk d1 k1
    have hN1 : N ≤ w1.heap.size := by have := hd1.size; omega
    have HR1 := Lib.hid (HR.out w1 hd1.ref hN1)
    obtain ⟨u0, u1, u2, u3, u4, u5, u6, uf⟩ := hd1.x.cells7
    go_wp2_with fail
    refine HR1.out.mono ?_
    rintro e w2 ⟨gp', cp', fo', fc', hx, rfl, hw, hb⟩
    unfold rval
    have hb := hb.alloc hb.size (.cells (rcells gp' cnt cp' fo' td.free.length fc' td) 46)
    have hw := hw.below ((Below.refl _ _).alloc (Nat.le_refl _) (.cells (rcells gp' cnt cp' fo' td.free.length fc' td) 46))
    have y0 := hd1.x.next hb
    have y2 := hd1.ans.next hb
    obtain ⟨u0, u1, u2, u3, u4, u5, u6, uf⟩ := y0.cells7
    obtain ⟨t0, t1, t2, t3, t4, t5, t6, tf⟩ := y2.cells7
    have F := hd1.fin hN _htab hgp hfo hw hb hx (.slice (some ⟨gp', 0, none⟩) cnt cp') (.slice fo' td.free.length fc') (.int .i64 td.most) (.int .i64 td.rl) (.int .i64 td.wl) (.int .i64 td.reads) (.int .i64 td.puts) (.slice (some ⟨gp', 0, none⟩) cnt cp') (.slice fo' td.free.length fc') (.int .i64 td.most) (.int .i64 td.rl) (.int .i64 td.wl) (.int .i64 td.reads) (.int .i64 td.puts)
    go_wp2
    refine bodyPost_ret (UK.box_ret2 rfl _ ((y2.fill7_far (g := W.heap.size) (by omega) _ _ _ _ _ _ _).fill7 _ _ _ _ _ _ _) rfl disk_under rfl disk_size) rfl ?_
    exact ⟨td, cnt, gp', cp', fo', fc', rfl, F.1, ho, F.2, farW hx hd1.size⟩
end
end Go.Proofs.YtamnhpijeiigcaaDoor
