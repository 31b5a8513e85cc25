/-
  The law's Does: a call on both.
-/
import Derived.Test.YtamnhpijeiigcaaDoorPlayB
namespace Go.Proofs.YtamnhpijeiigcaaDoor
open Go.RowKit
open UK (str BytesAt nth Only w32 Row Box)
open Go.BigFrame
section
variable {E : Nat → Prop} {N k : Nat} {W w : World} {gp cp fc cnt : Nat} {fo : Option Addr} {d : Dk}
/-- behind a call on both -/
def Done (E : Nat → Prop) (N k : Nat) (W w' : World) (gp : Nat) (fo : Option Addr) (e : Ending) : Prop :=
  ∃ d' cnt' gp' cp' fo' fc', e = .returned (.tuple #[rval gp' cnt' cp' fo' d'.free.length fc' d', .int .i64 0]) ∧ Pair E N w' gp' cp' fo' fc' d' cnt' ∧ Ok d' cnt' (k + 1) ∧ Kept E W w' ∧ ((gp' = gp ∨ W.heap.size ≤ gp') ∧ ∀ F, fo' = some ⟨F, 0, none⟩ → fo = some ⟨F, 0, none⟩ ∨ W.heap.size ≤ F)
theorem farW {gp gp' : Nat} {fo fo' : Option Addr} {W w1 : World} (hx : (gp' = gp ∨ w1.heap.size ≤ gp') ∧ ∀ F, fo' = some ⟨F, 0, none⟩ → fo = some ⟨F, 0, none⟩ ∨ w1.heap.size ≤ F) (hs : W.heap.size + 3 ≤ w1.heap.size) :
    (gp' = gp ∨ W.heap.size ≤ gp') ∧ ∀ F, fo' = some ⟨F, 0, none⟩ → fo = some ⟨F, 0, none⟩ ∨ W.heap.size ≤ F := by
  refine ⟨?_, fun F e => ?_⟩
  · rcases hx.1 with h | h
    · exact .inl h
    · exact .inr (by omega)
  · rcases hx.2 F e with h | h
    · exact .inl h
    · exact .inr (by omega)
/-- what the calls within Does leave as it is -/
def keepL (E : Nat → Prop) (gp : Nat) (fo : Option Addr) (m j : Nat) : Prop := keep E gp fo j ∨ (m ≤ j ∧ j < m + 3)
abbrev acells (kd pp nn : Int) (si : List UInt8) (fu : Bool) (by_ : UInt8) : Array Value := #[.int .i64 kd, .int .i64 pp, .int .i64 nn, .string (str si), .bool fu, .int .u8 (by_.toNat : Int)]
/-- within Does: x in its struct (and in the document's memory), the act, the answer; the disk may be ahead -/
structure LS (E : Nat → Prop) (N : Nat) (W w : World) (gp cp : Nat) (fo : Option Addr) (fc : Nat) (d : Dk) (cnt : Nat) (dn : Dk) (cn : Nat) (ac : Array Value) : Prop where
  x : Box w W.heap.size (rcells gp cnt cp fo d.free.length fc d)
  act : Box w (W.heap.size + 1) ac
  ans : Box w (W.heap.size + 1 + 1) zero7
  dd : DD (keepL E gp fo W.heap.size) w N dn cn
  ref : RefAt N w gp cp fo fc d cnt
  kept : Kept E W w
  size : W.heap.size + 3 ≤ w.heap.size
  low : ∀ j, E j → j < W.heap.size
variable {w1 w2 : World} {dn d' : Dk} {cn cnt' gp' cp' fc' : Nat} {fo' : Option Addr} {ac : Array Value}
theorem LS.next (h : LS E N W w gp cp fo fc d cnt dn cn ac) (_hN : N ≤ W.heap.size) (hb : Below w.heap.size w w1) : LS E N W w1 gp cp fo fc d cnt dn cn ac :=
  ⟨h.x.next hb, h.act.next hb, h.ans.next hb, h.dd.below hb, h.ref.below hb, h.kept.trans (Kept.of_below hb (fun j hj => by have := h.size; have := h.low j hj; omega)), Nat.le_trans h.size hb.size, h.low⟩
theorem LS.disk (h : LS E N W w gp cp fo fc d cnt dn cn ac) (hd : DD (keepL E gp fo W.heap.size) w1 N d' cnt') (hk : Kept (keepL E gp fo W.heap.size) w w1) : LS E N W w1 gp cp fo fc d cnt d' cnt' ac :=
  ⟨h.x.of_block (hk.block _ (.inr ⟨Nat.le_refl _, by omega⟩)), h.act.of_block (hk.block _ (.inr ⟨by omega, by omega⟩)), h.ans.of_block (hk.block _ (.inr ⟨by omega, by omega⟩)), hd,
    h.ref.keptS hk (.inl (.inr (.inl rfl))) (fun F e => .inl (.inr (.inr e))), h.kept.trans (hk.mono (fun j hj => .inl (.inl hj))), Nat.le_trans h.size hk.size, h.low⟩
theorem LS.begin (h : Pair E N W gp cp fo fc d cnt) (_hN : N < W.heap.size) (kd pp nn : Int) (si : List UInt8) (fu : Bool) (by_ : UInt8) :
    ∃ V, Hid (V = ((W.alloc (.cells (rcells gp cnt cp fo d.free.length fc d) 46)).alloc (.cells (acells kd pp nn si fu by_) 51)).alloc (.cells zero7 46)) ∧ LS E N W V gp cp fo fc d cnt d cnt (acells kd pp nn si fu by_) := by
  have b1 : Below W.heap.size W (((W.alloc (.cells (rcells gp cnt cp fo d.free.length fc d) 46)).alloc (.cells (acells kd pp nn si fu by_) 51)).alloc (.cells zero7 46)) := (((Below.refl _ _).alloc (Nat.le_refl _) _).alloc (by simp) _).alloc (by simp; omega) _
  refine ⟨_, rfl, ((Box.new _ _ _).alloc _).alloc _, ?_, ?_, h.dd.grow b1 (fun j hj => ?_), h.ref.below b1, Kept.of_below b1 (fun j hj => h.dd.there j (.inl hj)), by simp, fun j hj => h.dd.there j (.inl hj)⟩
  · have := Box.new (W.alloc (.cells (rcells gp cnt cp fo d.free.length fc d) 46)) (acells kd pp nn si fu by_) 51
    rw [show (W.alloc (.cells (rcells gp cnt cp fo d.free.length fc d) 46)).heap.size = W.heap.size + 1 by simp] at this
    exact this.alloc _
  · have := Box.new ((W.alloc (.cells (rcells gp cnt cp fo d.free.length fc d) 46)).alloc (.cells (acells kd pp nn si fu by_) 51)) zero7 46
    rw [show ((W.alloc (.cells (rcells gp cnt cp fo d.free.length fc d) 46)).alloc (.cells (acells kd pp nn si fu by_) 51)).heap.size = W.heap.size + 1 + 1 by simp] at this
    exact this
  · rcases hj with hj | hj
    · exact .inl hj
    · exact .inr ⟨hj.1, by simp; omega⟩
/-- the document's call is done, x and the answer are stored -/
theorem LS.fin (h : LS E N W w1 gp cp fo fc d cnt d' cnt' ac) (_hN : N < W.heap.size) (_htab : 0 < N) (hgp : gp < W.heap.size) (hfo : ∀ F, fo = some ⟨F, 0, none⟩ → F < W.heap.size)
    (hw : RefAt N w2 gp' cp' fo' fc' d' cnt') (hb : Below w1.heap.size w1 w2) (hx : (gp' = gp ∨ w1.heap.size ≤ gp') ∧ ∀ F, fo' = some ⟨F, 0, none⟩ → fo = some ⟨F, 0, none⟩ ∨ w1.heap.size ≤ F) (a0 a1 a2 a3 a4 a5 a6 c0 c1 c2 c3 c4 c5 c6 : Value) :
    Pair E N (UK.fill7 (UK.fill7 w2 W.heap.size a0 a1 a2 a3 a4 a5 a6) (W.heap.size + 1 + 1) c0 c1 c2 c3 c4 c5 c6) gp' cp' fo' fc' d' cnt' ∧ Kept E W (UK.fill7 (UK.fill7 w2 W.heap.size a0 a1 a2 a3 a4 a5 a6) (W.heap.size + 1 + 1) c0 c1 c2 c3 c4 c5 c6) := by
  have hs := h.size
  have h1 : DD (fun j => keep E gp' fo' j ∨ (W.heap.size ≤ j ∧ j < W.heap.size + 3)) w2 N d' cnt' := h.dd.grow hb (fun j hj => by
    rcases hj with (hj | rfl | hj) | hj
    · exact .inl (.inl (.inl hj))
    · rcases hx.1 with e | e
      · exact .inl (.inl (.inr (.inl e)))
      · exact .inr ⟨e, hw.pages.lt⟩
    · rcases hx.2 j hj with e | e
      · exact .inl (.inl (.inr (.inr e)))
      · exact .inr ⟨e, (hw.lowF j hj).2⟩
    · exact .inl (.inr hj))
  have o1 := UK.Only.fill7 w2 W.heap.size a0 a1 a2 a3 a4 a5 a6
  have o2 := UK.Only.fill7 (UK.fill7 w2 W.heap.size a0 a1 a2 a3 a4 a5 a6) (W.heap.size + 1 + 1) c0 c1 c2 c3 c4 c5 c6
  have hs2 := hb.size
  have h2 := h1.push o1 (.inl (.inr ⟨Nat.le_refl _, by omega⟩)) (by have := o1.size; omega) (by omega)
  have h3 := h2.push o2 (.inl (.inl (.inr ⟨by omega, by omega⟩))) (by have := o1.size; have := o2.size; omega) (by omega)
  have g1 : gp' ≠ W.heap.size ∧ gp' ≠ W.heap.size + 1 + 1 := by
    rcases hx.1 with e | e
    · exact ⟨by omega, by omega⟩
    · exact ⟨by omega, by omega⟩
  have g2 : ∀ F, fo' = some ⟨F, 0, none⟩ → F ≠ W.heap.size ∧ F ≠ W.heap.size + 1 + 1 := fun F e => by
    rcases hx.2 F e with e2 | e2
    · have := hfo F e2; exact ⟨by omega, by omega⟩
    · exact ⟨by omega, by omega⟩
  refine ⟨⟨h3.less (fun j hj => .inl (.inl (.inl hj))), (hw.fill g1.1 (fun F e => (g2 F e).1) _ _ _ _ _ _ _).fill g1.2 (fun F e => (g2 F e).2) _ _ _ _ _ _ _⟩, ?_⟩
  exact ((h.kept.trans (Kept.of_below hb (fun j hj => by have := h.low j hj; omega))).trans (Kept.of_only o1 (fun j hj => by have := h.low j hj; exact ⟨by omega, by omega⟩))).trans (Kept.of_only o2 (fun j hj => by have := h.low j hj; have := o1.size; exact ⟨by omega, by omega⟩))
set_option maxHeartbeats 2000000 in
set_option maxRecDepth 100000 in
theorem does_take (h : Pair E N W gp cp fo fc d cnt) (o : Ok d cnt k) (hk : k < 1000) (hN : N < W.heap.size) (_htab : 0 < N) (q : Act1) (hkd : q.kd = 1) :
    Calls Tryd.prog 23 #[.pointer (some ⟨N, 0, none⟩), rval gp cnt cp fo d.free.length fc d, .agg #[.int .i64 q.kd, .int .i64 q.pp, .int .i64 q.nn, .string (str q.si), .bool q.fu, .int .u8 (q.by_.toNat : Int)]] W fun e w' => Done E N k W w' gp fo e := by
  obtain ⟨kd, pp, nn, si, fu, by_⟩ := q
  obtain rfl : kd = 1 := hkd
  obtain ⟨V, HV, hd⟩ := LS.begin h hN 1 pp nn si fu by_
  have hgp := h.ref.pages.lt
  have hfo := fun F e => (h.ref.lowF F e).2
  have hcut := fun w => cut_any si 600 w (by omega)
  have hfull := fun s w => full_any s w
  have HT := Lib.hid (fun w (hh : LS E N W w gp cp fo fc d cnt d cnt (acells 1 pp nn si fu by_)) => dd_take_u hh.dd o hk)
  have HR := Lib.hid (fun w (hh : RefAt N w gp cp fo fc d cnt) (hNw : N ≤ w.heap.size) => rtake_u hh hNw o hk)
  have ho := o.take hk
  generalize tE d cnt = te at HT HR
  generalize tP d cnt = tp at HT HR
  generalize tC d cnt = tc at HT HR ho
  generalize tD d cnt = td at HT HR ho
  unfold rval
  cases fu
  · go_enter Tryd.func23, Tryd.ntmps23
    go_wp2_with fail
    rw [← HV.out]
    refine (hcut _).mono ?_
    rintro e w' ⟨rfl, rfl⟩
    have ca4 := hd.act.cell 4 _ rfl
    have ca0 := hd.act.cell 0 _ rfl
    go_wp2_with fail
    refine (HT.out _ hd).mono ?_
    rintro e w1 ⟨rfl, d1, k1⟩
    have hd1 := hd.disk d1 k1
    have hN1 : N ≤ w1.heap.size := by have := hd1.size; omega
    have HR1 := Lib.hid (HR.out w1 hd1.ref hN1)
    obtain ⟨u0, u1, u2, u3, u4, u5, u6, uf⟩ := hd1.x.cells7
    go_wp2_with fail
    refine HR1.out.mono ?_
    rintro e w2 ⟨gp', cp', fo', fc', hx, rfl, hw, hb⟩
    unfold rval
    have hb := hb.alloc hb.size (.cells (rcells gp' tc cp' fo' td.free.length fc' td) 46)
    have hw := hw.below ((Below.refl _ _).alloc (Nat.le_refl _) (.cells (rcells gp' tc cp' fo' td.free.length fc' td) 46))
    have y0 := hd1.x.next hb
    have y2 := hd1.ans.next hb
    obtain ⟨u0, u1, u2, u3, u4, u5, u6, uf⟩ := y0.cells7
    obtain ⟨t0, t1, t2, t3, t4, t5, t6, tf⟩ := y2.cells7
    have F := hd1.fin hN _htab hgp hfo hw hb hx (.slice (some ⟨gp', 0, none⟩) tc cp') (.slice fo' td.free.length fc') (.int .i64 td.most) (.int .i64 td.rl) (.int .i64 td.wl) (.int .i64 td.reads) (.int .i64 td.puts) (.slice (some ⟨gp', 0, none⟩) tc cp') (.slice fo' td.free.length fc') (.int .i64 td.most) (.int .i64 td.rl) (.int .i64 td.wl) (.int .i64 td.reads) (.int .i64 td.puts)
    go_wp2
    refine bodyPost_ret (UK.box_ret2 rfl _ ((y2.fill7_far (g := W.heap.size) (by omega) _ _ _ _ _ _ _).fill7 _ _ _ _ _ _ _) rfl disk_under rfl disk_size) rfl ?_
    exact ⟨td, tc, gp', cp', fo', fc', rfl, F.1, ho, F.2, farW hx hd1.size⟩
  · go_enter Tryd.func23, Tryd.ntmps23
    go_wp2_with fail
    rw [← HV.out]
    refine (hcut _).mono ?_
    rintro e w' ⟨rfl, rfl⟩
    have ca4 := hd.act.cell 4 _ rfl
    go_wp2_with fail
    refine (hfull _ _).mono ?_
    rintro e w0 ⟨rfl, b0⟩
    replace hd := hd.next (Nat.le_of_lt hN) b0
    have ca0 := hd.act.cell 0 _ rfl
    go_wp2_with fail
    refine (HT.out _ hd).mono ?_
    rintro e w1 ⟨rfl, d1, k1⟩
    have hd1 := hd.disk d1 k1
    have hN1 : N ≤ w1.heap.size := by have := hd1.size; omega
    have HR1 := Lib.hid (HR.out w1 hd1.ref hN1)
    obtain ⟨u0, u1, u2, u3, u4, u5, u6, uf⟩ := hd1.x.cells7
    go_wp2_with fail
    refine HR1.out.mono ?_
    rintro e w2 ⟨gp', cp', fo', fc', hx, rfl, hw, hb⟩
    unfold rval
    have hb := hb.alloc hb.size (.cells (rcells gp' tc cp' fo' td.free.length fc' td) 46)
    have hw := hw.below ((Below.refl _ _).alloc (Nat.le_refl _) (.cells (rcells gp' tc cp' fo' td.free.length fc' td) 46))
    have y0 := hd1.x.next hb
    have y2 := hd1.ans.next hb
    obtain ⟨u0, u1, u2, u3, u4, u5, u6, uf⟩ := y0.cells7
    obtain ⟨t0, t1, t2, t3, t4, t5, t6, tf⟩ := y2.cells7
    have F := hd1.fin hN _htab hgp hfo hw hb hx (.slice (some ⟨gp', 0, none⟩) tc cp') (.slice fo' td.free.length fc') (.int .i64 td.most) (.int .i64 td.rl) (.int .i64 td.wl) (.int .i64 td.reads) (.int .i64 td.puts) (.slice (some ⟨gp', 0, none⟩) tc cp') (.slice fo' td.free.length fc') (.int .i64 td.most) (.int .i64 td.rl) (.int .i64 td.wl) (.int .i64 td.reads) (.int .i64 td.puts)
    go_wp2
    refine bodyPost_ret (UK.box_ret2 rfl _ ((y2.fill7_far (g := W.heap.size) (by omega) _ _ _ _ _ _ _).fill7 _ _ _ _ _ _ _) rfl disk_under rfl disk_size) rfl ?_
    exact ⟨td, tc, gp', cp', fo', fc', rfl, F.1, ho, F.2, farW hx hd1.size⟩
end
end Go.Proofs.YtamnhpijeiigcaaDoor
