/-
  The law's Does: reading.
-/
import Derived.Test.YtamnhpijeiigcaaDoorPlayE
import Derived.BigRegion
namespace Go.Proofs.YtamnhpijeiigcaaDoor
open Go.RowKit
open UK (str BytesAt nth Only w32 Row Box)
open Go.BigFrame
section
variable {E : Nat → Prop} {N k : Nat} {W w : World} {gp cp fc cnt : Nat} {fo : Option Addr} {d : Dk} {ac : Array Value}
theorem lm_has (h : LM E N W w gp cp fo fc d cnt ac) (hN : N ≤ W.heap.size) (p : Int) :
    Calls Tryd.prog 33 #[.pointer (some ⟨N, 0, none⟩), .int .i64 p] w fun e w' => e = .returned (.bool (hasD d cnt p)) ∧ LM E N W w' gp cp fo fc d cnt ac :=
  (dd_has h.ls.dd p).mono fun _ _ ⟨a, q, e⟩ => ⟨a, e ▸ h.next hN (UK.belowN (Below.refl _ _) q)⟩
theorem lm_taken (h : LM E N W w gp cp fo fc d cnt ac) (hN : N ≤ W.heap.size) (s : Sound d cnt) (f : Fit d cnt) (p : Int) :
    Calls Tryd.prog 41 #[rval gp cnt cp fo d.free.length fc d, .int .i64 p] w fun e w' => e = .returned (.bool (hasD d cnt p)) ∧ LM E N W w' gp cp fo fc d cnt ac :=
  (rtaken_any h.ls.ref s f p).mono fun _ _ ⟨a, b⟩ => ⟨a, h.next hN b⟩
theorem LM.drew (h : LM E N W w gp cp fo fc d cnt ac) (hN : N ≤ W.heap.size) : LM E N W w.drew gp cp fo fc d cnt ac := h.next hN (Below.refl _ _).drew
set_option maxHeartbeats 4000000 in
set_option maxRecDepth 100000 in
theorem does_read (h : Pair E N W gp cp fo fc d cnt) (o : Ok d cnt k) (hk : k < 1000) (hN : N < W.heap.size) (_htab : 0 < N) (q : Act1) (hkd : q.kd = 3) :
    Calls Tryd.prog 23 #[.pointer (some ⟨N, 0, none⟩), rval gp cnt cp fo d.free.length fc d, .agg #[.int .i64 q.kd, .int .i64 q.pp, .int .i64 q.nn, .string (str q.si), .bool q.fu, .int .u8 (q.by_.toNat : Int)]] W fun e w' => Done E N k W w' gp fo e := by
  obtain ⟨kd, pp, nn, si, fu, by_⟩ := q
  obtain rfl : kd = 3 := hkd
  obtain ⟨V, HV, hd⟩ := LS.begin h hN 3 pp nn si fu by_
  have hgp := h.ref.pages.lt
  have hfo := fun F e => (h.ref.lowF F e).2
  have hN' := Nat.le_of_lt hN
  have hcut := fun w => cut_any si 600 w (by omega)
  generalize si.take (600 : Int).toNat = st at hcut
  cases fu
  · have HT := Lib.hid (fun w (hh : LS E N W w gp cp fo fc d cnt d cnt (acells 3 pp nn si false by_)) => dd_read_u hh.dd o hk pp)
    have HR := Lib.hid (fun w (hh : RefAt N w gp cp fo fc d cnt) => rreadpage_any hh o.so o.fit (by have := o.reads; omega) pp)
    have ho := o.read hk pp
    generalize rreadE d cnt pp = te at HT HR
    generalize rreadS d cnt pp = ts at HT HR
    generalize rreadD d cnt pp = td at HT HR ho
    unfold rval
    go_enter Tryd.func23, Tryd.ntmps23
    go_wp2_with fail
    rw [← HV.out]
    refine (hcut _).mono ?_
    rintro e w' ⟨rfl, rfl⟩
    have ca4 := hd.act.cell 4 _ rfl
    have ca0 := hd.act.cell 0 _ rfl
    have ca1 := hd.act.cell 1 _ rfl
    go_wp2_with fail
    refine (HT.out _ hd).mono ?_
    rintro e w1 ⟨rfl, d1, k1⟩
    have hd1 := hd.disk d1 k1
    have HR1 := Lib.hid (HR.out w1 hd1.ref)
    obtain ⟨u0, u1, u2, u3, u4, u5, u6, uf⟩ := hd1.x.cells7
    have cb1 := hd1.act.cell 1 _ rfl
    go_wp2_with fail
    refine HR1.out.mono ?_
    rintro e w2 ⟨gp', cp', fo', fc', hx, rfl, hw, hb⟩
    unfold rval
    have hb := hb.alloc hb.size (.cells (rcells gp' cnt cp' fo' td.free.length fc' td) 46)
    have hw := hw.below ((Below.refl _ _).alloc (Nat.le_refl _) (.cells (rcells gp' cnt cp' fo' td.free.length fc' td) 46))
    obtain ⟨u0, u1, u2, u3, u4, u5, u6, uf⟩ := (hd1.x.next hb).cells7
    have cc1 := (hd1.act.next hb).cell 1 _ rfl
    have hl := hd1.mid hN _htab hgp hfo hw hb hx
    have hss : (ts == ts) = true := beq_self_eq_true ts
    go_wp2_with fail
    change Code.wp _ _ _ _ (UK.fill7 (w2.alloc (.cells (rcells gp' cnt cp' fo' td.free.length fc' td) 46)) W.heap.size (.slice (some ⟨gp', 0, none⟩) cnt cp') (.slice fo' td.free.length fc') (.int .i64 td.most) (.int .i64 td.rl) (.int .i64 td.wl) (.int .i64 td.reads) (.int .i64 td.puts))
    generalize UK.fill7 (w2.alloc (.cells (rcells gp' cnt cp' fo' td.free.length fc' td) 46)) W.heap.size (.slice (some ⟨gp', 0, none⟩) cnt cp') (.slice fo' td.free.length fc') (.int .i64 td.most) (.int .i64 td.rl) (.int .i64 td.wl) (.int .i64 td.reads) (.int .i64 td.puts) = w3 at hl ⊢
    clear u0 u1 u2 u3 u4 u5 u6 uf cc1 hw hb
    refine UK.wp_region_kept (fun w' => LM E N W w' gp' cp' fo' fc' td cnt (acells 3 pp nn si false by_)) (by kernel_rfl) (by kernel_rfl) (hl.drew hN') ?_
    haveI : Nonempty (UK.Kept fun w' => LM E N W w' gp' cp' fo' fc' td cnt (acells 3 pp nn si false by_)) := ⟨⟨w3, hl⟩⟩
    have v0 : ∀ k : UK.Kept (fun w' => LM E N W w' gp' cp' fo' fc' td cnt (acells 3 pp nn si false by_)), k.w.cell? ⟨W.heap.size, 0, none⟩ = some (.slice (some ⟨gp', 0, none⟩) cnt cp') := fun k => k.h.ls.x.cell 0 _ rfl
    have v1 : ∀ k : UK.Kept (fun w' => LM E N W w' gp' cp' fo' fc' td cnt (acells 3 pp nn si false by_)), k.w.cell? ⟨W.heap.size, 1, none⟩ = some (.slice fo' td.free.length fc') := fun k => k.h.ls.x.cell 1 _ rfl
    have v2 : ∀ k : UK.Kept (fun w' => LM E N W w' gp' cp' fo' fc' td cnt (acells 3 pp nn si false by_)), k.w.cell? ⟨W.heap.size, 2, none⟩ = some (.int .i64 td.most) := fun k => k.h.ls.x.cell 2 _ rfl
    have v3 : ∀ k : UK.Kept (fun w' => LM E N W w' gp' cp' fo' fc' td cnt (acells 3 pp nn si false by_)), k.w.cell? ⟨W.heap.size, 3, none⟩ = some (.int .i64 td.rl) := fun k => k.h.ls.x.cell 3 _ rfl
    have v4 : ∀ k : UK.Kept (fun w' => LM E N W w' gp' cp' fo' fc' td cnt (acells 3 pp nn si false by_)), k.w.cell? ⟨W.heap.size, 4, none⟩ = some (.int .i64 td.wl) := fun k => k.h.ls.x.cell 4 _ rfl
    have v5 : ∀ k : UK.Kept (fun w' => LM E N W w' gp' cp' fo' fc' td cnt (acells 3 pp nn si false by_)), k.w.cell? ⟨W.heap.size, 5, none⟩ = some (.int .i64 td.reads) := fun k => k.h.ls.x.cell 5 _ rfl
    have v6 : ∀ k : UK.Kept (fun w' => LM E N W w' gp' cp' fo' fc' td cnt (acells 3 pp nn si false by_)), k.w.cell? ⟨W.heap.size, 6, none⟩ = some (.int .i64 td.puts) := fun k => k.h.ls.x.cell 6 _ rfl
    have v7 : ∀ k : UK.Kept (fun w' => LM E N W w' gp' cp' fo' fc' td cnt (acells 3 pp nn si false by_)), k.w.cell? ⟨W.heap.size + 1, 1, none⟩ = some (.int .i64 pp) := fun k => k.h.ls.act.cell 1 _ rfl
    have HX1 := Lib.hid (fun w (hh : LM E N W w gp' cp' fo' fc' td cnt (acells 3 pp nn si false by_)) => lm_has hh hN' pp)
    have HX2 := Lib.hid (fun w (hh : LM E N W w gp' cp' fo' fc' td cnt (acells 3 pp nn si false by_)) => lm_taken hh hN' ho.so ho.fit pp)
    unfold rval at HX2
    have HK : ∀ p : UK.Kept (fun w' => LM E N W w' gp' cp' fo' fc' td cnt (acells 3 pp nn si false by_)), LM E N W p.w gp' cp' fo' fc' td cnt (acells 3 pp nn si false by_) := fun p => p.h
    generalize hasD td cnt pp = bh at HX1 HX2
    repeat (go_big_quiet_step (first | exact UK.kept_of (HX1.out _ (HK _)) (fun _ _ hh => hh) | exact UK.kept_of (HX2.out _ (HK _)) (fun _ _ hh => hh)))
    refine wpQuiet_nil ?_
    rintro ⟨w4, hl⟩
    obtain ⟨u0, u1, u2, u3, u4, u5, u6, uf⟩ := hl.ls.x.cells7
    obtain ⟨t0, t1, t2, t3, t4, t5, t6, tf⟩ := hl.ls.ans.cells7
    go_wp2
    refine bodyPost_ret (UK.box_ret2 rfl _ (hl.ls.ans.fill7 _ _ _ _ _ _ _) rfl disk_under rfl disk_size) rfl ?_
    have F := hl.end_ hN _htab (.slice (some ⟨gp', 0, none⟩) cnt cp') (.slice fo' td.free.length fc') (.int .i64 td.most) (.int .i64 td.rl) (.int .i64 td.wl) (.int .i64 td.reads) (.int .i64 td.puts)
    exact ⟨td, cnt, gp', cp', fo', fc', rfl, F.1, ho, F.2, farW hx hd1.size⟩
  · have HT := Lib.hid (fun w (hh : LS E N W w gp cp fo fc d cnt d cnt (acells 3 pp nn si true by_)) => dd_read_u hh.dd o hk pp)
    have HR := Lib.hid (fun w (hh : RefAt N w gp cp fo fc d cnt) => rreadpage_any hh o.so o.fit (by have := o.reads; omega) pp)
    have ho := o.read hk pp
    generalize rreadE d cnt pp = te at HT HR
    generalize rreadS d cnt pp = ts at HT HR
    generalize rreadD d cnt pp = td at HT HR ho
    unfold rval
    go_enter Tryd.func23, Tryd.ntmps23
    go_wp2_with fail
    rw [← HV.out]
    refine (hcut _).mono ?_
    rintro e w' ⟨rfl, rfl⟩
    have ca4 := hd.act.cell 4 _ rfl
    go_wp2_with fail
    refine (full_any st _).mono ?_
    rintro e w0 ⟨rfl, b0⟩
    replace hd := hd.next (Nat.le_of_lt hN) b0
    have ca0 := hd.act.cell 0 _ rfl
    have ca1 := hd.act.cell 1 _ rfl
    go_wp2_with fail
    refine (HT.out _ hd).mono ?_
    rintro e w1 ⟨rfl, d1, k1⟩
    have hd1 := hd.disk d1 k1
    have HR1 := Lib.hid (HR.out w1 hd1.ref)
    obtain ⟨u0, u1, u2, u3, u4, u5, u6, uf⟩ := hd1.x.cells7
    have cb1 := hd1.act.cell 1 _ rfl
    go_wp2_with fail
    refine HR1.out.mono ?_
    rintro e w2 ⟨gp', cp', fo', fc', hx, rfl, hw, hb⟩
    unfold rval
    have hb := hb.alloc hb.size (.cells (rcells gp' cnt cp' fo' td.free.length fc' td) 46)
    have hw := hw.below ((Below.refl _ _).alloc (Nat.le_refl _) (.cells (rcells gp' cnt cp' fo' td.free.length fc' td) 46))
    obtain ⟨u0, u1, u2, u3, u4, u5, u6, uf⟩ := (hd1.x.next hb).cells7
    have cc1 := (hd1.act.next hb).cell 1 _ rfl
    have hl := hd1.mid hN _htab hgp hfo hw hb hx
    have hss : (ts == ts) = true := beq_self_eq_true ts
    go_wp2_with fail
    change Code.wp _ _ _ _ (UK.fill7 (w2.alloc (.cells (rcells gp' cnt cp' fo' td.free.length fc' td) 46)) W.heap.size (.slice (some ⟨gp', 0, none⟩) cnt cp') (.slice fo' td.free.length fc') (.int .i64 td.most) (.int .i64 td.rl) (.int .i64 td.wl) (.int .i64 td.reads) (.int .i64 td.puts))
    generalize UK.fill7 (w2.alloc (.cells (rcells gp' cnt cp' fo' td.free.length fc' td) 46)) W.heap.size (.slice (some ⟨gp', 0, none⟩) cnt cp') (.slice fo' td.free.length fc') (.int .i64 td.most) (.int .i64 td.rl) (.int .i64 td.wl) (.int .i64 td.reads) (.int .i64 td.puts) = w3 at hl ⊢
    clear u0 u1 u2 u3 u4 u5 u6 uf cc1 hw hb
    refine UK.wp_region_kept (fun w' => LM E N W w' gp' cp' fo' fc' td cnt (acells 3 pp nn si true by_)) (by kernel_rfl) (by kernel_rfl) (hl.drew hN') ?_
    haveI : Nonempty (UK.Kept fun w' => LM E N W w' gp' cp' fo' fc' td cnt (acells 3 pp nn si true by_)) := ⟨⟨w3, hl⟩⟩
    have v0 : ∀ k : UK.Kept (fun w' => LM E N W w' gp' cp' fo' fc' td cnt (acells 3 pp nn si true by_)), k.w.cell? ⟨W.heap.size, 0, none⟩ = some (.slice (some ⟨gp', 0, none⟩) cnt cp') := fun k => k.h.ls.x.cell 0 _ rfl
    have v1 : ∀ k : UK.Kept (fun w' => LM E N W w' gp' cp' fo' fc' td cnt (acells 3 pp nn si true by_)), k.w.cell? ⟨W.heap.size, 1, none⟩ = some (.slice fo' td.free.length fc') := fun k => k.h.ls.x.cell 1 _ rfl
    have v2 : ∀ k : UK.Kept (fun w' => LM E N W w' gp' cp' fo' fc' td cnt (acells 3 pp nn si true by_)), k.w.cell? ⟨W.heap.size, 2, none⟩ = some (.int .i64 td.most) := fun k => k.h.ls.x.cell 2 _ rfl
    have v3 : ∀ k : UK.Kept (fun w' => LM E N W w' gp' cp' fo' fc' td cnt (acells 3 pp nn si true by_)), k.w.cell? ⟨W.heap.size, 3, none⟩ = some (.int .i64 td.rl) := fun k => k.h.ls.x.cell 3 _ rfl
    have v4 : ∀ k : UK.Kept (fun w' => LM E N W w' gp' cp' fo' fc' td cnt (acells 3 pp nn si true by_)), k.w.cell? ⟨W.heap.size, 4, none⟩ = some (.int .i64 td.wl) := fun k => k.h.ls.x.cell 4 _ rfl
    have v5 : ∀ k : UK.Kept (fun w' => LM E N W w' gp' cp' fo' fc' td cnt (acells 3 pp nn si true by_)), k.w.cell? ⟨W.heap.size, 5, none⟩ = some (.int .i64 td.reads) := fun k => k.h.ls.x.cell 5 _ rfl
    have v6 : ∀ k : UK.Kept (fun w' => LM E N W w' gp' cp' fo' fc' td cnt (acells 3 pp nn si true by_)), k.w.cell? ⟨W.heap.size, 6, none⟩ = some (.int .i64 td.puts) := fun k => k.h.ls.x.cell 6 _ rfl
    have v7 : ∀ k : UK.Kept (fun w' => LM E N W w' gp' cp' fo' fc' td cnt (acells 3 pp nn si true by_)), k.w.cell? ⟨W.heap.size + 1, 1, none⟩ = some (.int .i64 pp) := fun k => k.h.ls.act.cell 1 _ rfl
    have HX1 := Lib.hid (fun w (hh : LM E N W w gp' cp' fo' fc' td cnt (acells 3 pp nn si true by_)) => lm_has hh hN' pp)
    have HX2 := Lib.hid (fun w (hh : LM E N W w gp' cp' fo' fc' td cnt (acells 3 pp nn si true by_)) => lm_taken hh hN' ho.so ho.fit pp)
    unfold rval at HX2
    have HK : ∀ p : UK.Kept (fun w' => LM E N W w' gp' cp' fo' fc' td cnt (acells 3 pp nn si true by_)), LM E N W p.w gp' cp' fo' fc' td cnt (acells 3 pp nn si true by_) := fun p => p.h
    generalize hasD td cnt pp = bh at HX1 HX2
    repeat (go_big_quiet_step (first | exact UK.kept_of (HX1.out _ (HK _)) (fun _ _ hh => hh) | exact UK.kept_of (HX2.out _ (HK _)) (fun _ _ hh => hh)))
    refine wpQuiet_nil ?_
    rintro ⟨w4, hl⟩
    obtain ⟨u0, u1, u2, u3, u4, u5, u6, uf⟩ := hl.ls.x.cells7
    obtain ⟨t0, t1, t2, t3, t4, t5, t6, tf⟩ := hl.ls.ans.cells7
    go_wp2
    refine bodyPost_ret (UK.box_ret2 rfl _ (hl.ls.ans.fill7 _ _ _ _ _ _ _) rfl disk_under rfl disk_size) rfl ?_
    have F := hl.end_ hN _htab (.slice (some ⟨gp', 0, none⟩) cnt cp') (.slice fo' td.free.length fc') (.int .i64 td.most) (.int .i64 td.rl) (.int .i64 td.wl) (.int .i64 td.reads) (.int .i64 td.puts)
    exact ⟨td, cnt, gp', cp', fo', fc', rfl, F.1, ho, F.2, farW hx hd1.size⟩
end
end Go.Proofs.YtamnhpijeiigcaaDoor
