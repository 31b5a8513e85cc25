/-
  The document's disk: WritePage, ReadPage.
-/
import Derived.Test.YtamnhpijeiigcaaDoorRefC
namespace Go.Proofs.YtamnhpijeiigcaaDoor
open Go.RowKit
open UK (str BytesAt nth Only w32 Row Box)
open Go.BigFrame
section
variable {N : Nat} {W W' w : World} {gp cp fc cnt : Nat} {fo : Option Addr} {d d' : Dk}
theorem RS.begin (h : RefAt N W gp cp fo fc d cnt) : ∃ V, Hid (V = (W.alloc (.cells (rcells gp cnt cp fo d.free.length fc d) 46)).alloc (.cells zero7 46)) ∧ RS N W V gp cnt cp fo fc d := by
  obtain ⟨V, HV, b0, x0, x1⟩ := begin7 W (rcells gp cnt cp fo d.free.length fc d) zero7 46 46
  exact ⟨V, HV, x0, x1, h.below b0, b0, ⟨by have := h.pages.lt; omega, by have := h.pages.lt; omega⟩, fun F e => ⟨by have := (h.lowF F e).2; omega, by have := (h.lowF F e).2; omega⟩⟩
/-- its own struct takes other values -/
theorem RS.turn (h : RS N W w gp cnt cp fo fc d) (d' : Dk) (hx : d'.x = d.x) (hf : d'.free = d.free) :
    RS N W (UK.fill7 w W.heap.size (.slice (some ⟨gp, 0, none⟩) cnt cp) (.slice fo d.free.length fc) (.int .i64 d'.most) (.int .i64 d'.rl) (.int .i64 d'.wl) (.int .i64 d'.reads) (.int .i64 d'.puts)) gp cnt cp fo fc d' := by
  have h1 := h.oldP
  have hb := h.box.fill7 (.slice (some ⟨gp, 0, none⟩) cnt cp) (.slice fo d.free.length fc) (.int .i64 d'.most) (.int .i64 d'.rl) (.int .i64 d'.wl) (.int .i64 d'.reads) (.int .i64 d'.puts)
  refine ⟨by unfold rcells; rw [hf]; exact hb, h.ans.fill7_far (by omega) _ _ _ _ _ _ _, (h.ref.same hx hf).fill (by omega) (fun F e => by have := h.oldF F e; omega) _ _ _ _ _ _ _, UK.Below.fill7 h.bel (Nat.le_refl _) _ _ _ _ _ _ _, h.oldP, h.oldF⟩
/-- the answer's struct is written: it is done -/
theorem RS.done (h : RS N W w gp cnt cp fo fc d) (a0 a1 a2 a3 a4 a5 a6 : Value) : RefAt N (UK.fill7 w (W.heap.size + 1) a0 a1 a2 a3 a4 a5 a6) gp cp fo fc d cnt ∧ Below W.heap.size W (UK.fill7 w (W.heap.size + 1) a0 a1 a2 a3 a4 a5 a6) := by
  have h1 := h.oldP
  exact ⟨h.ref.fill (by omega) (fun F e => by have := h.oldF F e; omega) _ _ _ _ _ _ _, UK.Below.fill7 h.bel (by omega) _ _ _ _ _ _ _⟩
theorem UK.Box.drew {w : World} {g : Nat} {cs : Array Value} (h : Box w g cs) : Box w.drew g cs := h.of_block rfl
theorem RS.doneD (h : RS N W w gp cnt cp fo fc d) (a0 a1 a2 a3 a4 a5 a6 : Value) : RefAt N (UK.fill7 w (W.heap.size + 1) a0 a1 a2 a3 a4 a5 a6).drew gp cp fo fc d cnt ∧ Below W.heap.size W (UK.fill7 w (W.heap.size + 1) a0 a1 a2 a3 a4 a5 a6).drew :=
  ⟨(h.done a0 a1 a2 a3 a4 a5 a6).1.below (Below.refl _ _).drew, (h.done a0 a1 a2 a3 a4 a5 a6).2.drew⟩
/-- its own struct takes what set tells -/
theorem RS.moved (h : RS N W w gp cnt cp fo fc d) {gp' cp' : Nat} {w' : World} {d' : Dk} (hf : d'.free = d.free) (h4 : RefAt N w' gp' cp' fo fc d' cnt) (b4 : Below W.heap.size W w') (hgp : W.heap.size + 1 < gp') (q1 : Box w' (W.heap.size + 1) zero7) (q0 : Box w' W.heap.size (rcells gp cnt cp fo d.free.length fc d)) :
    RS N W (UK.fill7 w' W.heap.size (.slice (some ⟨gp', 0, none⟩) cnt cp') (.slice fo d.free.length fc) (.int .i64 d'.most) (.int .i64 d'.rl) (.int .i64 d'.wl) (.int .i64 d'.reads) (.int .i64 d'.puts)) gp' cnt cp' fo fc d' := by
  have hb := q0.fill7 (.slice (some ⟨gp', 0, none⟩) cnt cp') (.slice fo d.free.length fc) (.int .i64 d'.most) (.int .i64 d'.rl) (.int .i64 d'.wl) (.int .i64 d'.reads) (.int .i64 d'.puts)
  refine ⟨by unfold rcells; rw [hf]; exact hb, q1.fill7_far (by omega) _ _ _ _ _ _ _, h4.fill (by omega) (fun F e => (h.oldF F e).1) _ _ _ _ _ _ _, UK.Below.fill7 b4 (Nat.le_refl _) _ _ _ _ _ _ _, ⟨by omega, by omega⟩, h.oldF⟩
/-- its own free pages lie elsewhere -/
theorem RS.setFree (h : RS N W w gp cnt cp fo fc d) {w' : World} {F c : Nat} {l : List Nat} (hr : Row w' F c (ints l)) (hb : Below w.heap.size w w') (hF : w.heap.size ≤ F) (hN : N ≤ W.heap.size) :
    RS N W (w'.setCell ⟨W.heap.size, 1, none⟩ (.slice (some ⟨F, 0, none⟩) l.length c)) gp cnt cp (some ⟨F, 0, none⟩) c { d with free := l } := by
  have h1 := h.oldP
  have ha := h.ans.lt
  have h' := h.next hb
  refine ⟨h'.box.set 1 _, h'.ans.far _ (by omega), ⟨?_, .inr ⟨F, rfl, hr.only ((Only.refl W.heap.size w').set 1 _) (by omega)⟩, h'.ref.lowP, fun F' e => ?_⟩, h'.bel.setCell (p := ⟨W.heap.size, 1, none⟩) (Nat.le_refl _) _, h1, fun F' e => ?_⟩
  · exact h'.ref.pages.only ((Only.refl W.heap.size w').set 1 _) (by omega)
  · have e2 : F = F' := congrArg Addr.block (Option.some.inj e)
    subst e2
    have := h.bel.size
    exact ⟨by omega, by simpa [World.setCell] using hr.lt⟩
  · have e2 : F = F' := congrArg Addr.block (Option.some.inj e)
    subst e2
    exact ⟨by omega, by omega⟩
theorem RS.oldF' (h : RS N W w gp cnt cp fo fc d) : ∀ F, fo = some ⟨F, 0, none⟩ → F ≠ W.heap.size + 1 := fun F e => (h.oldF F e).2
theorem rs_word (h : RS N W w gp cnt cp fo fc d) (p : Nat) (hp : p ≤ 60000) :
    Calls Tryd.prog 55 #[.int .i64 p] w fun e w' => e = .returned (.string (str (putL (w32 p)))) ∧ RS N W w' gp cnt cp fo fc d :=
  (rword_any p hp w).mono fun _ _ ⟨a, b⟩ => ⟨a, h.next b⟩
theorem rs_taken (h : RS N W w gp cnt cp fo fc d) (s : Sound d cnt) (f : Fit d cnt) (p : Int) :
    Calls Tryd.prog 41 #[rval gp cnt cp fo d.free.length fc d, .int .i64 p] w fun e w' => e = .returned (.bool (hasD d cnt p)) ∧ RS N W w' gp cnt cp fo fc d :=
  (rtaken_any h.ref s f p).mono fun _ _ ⟨a, b⟩ => ⟨a, h.next b⟩
theorem rs_write_no (h : RS N W w gp cnt cp fo fc d) (f : Fit d cnt) (hz : d.wl = 0) :
    Calls Tryd.prog 57 #[rval gp cnt cp fo d.free.length fc d] w fun e w' => e = .returned (.tuple #[rval gp cnt cp fo d.free.length fc { d with wl := -1 }, .int .i64 7]) ∧ RS N W w' gp cnt cp fo fc d := by
  have hw := rwrite_any (gp := gp) (cp := cp) (fo := fo) (fc := fc) cnt d.free.length f w
  rw [if_pos hz, show failE d.wl = 7 by unfold failE; rw [if_pos hz]] at hw
  exact hw.mono fun _ _ ⟨a, b⟩ => ⟨a, h.next b⟩
theorem rs_write_yes (h : RS N W w gp cnt cp fo fc d) (f : Fit d cnt) (hz : d.wl ≠ 0) :
    Calls Tryd.prog 57 #[rval gp cnt cp fo d.free.length fc d] w fun e w' => e = .returned (.tuple #[rval gp cnt cp fo d.free.length fc (paidD d), .int .i64 0]) ∧ RS N W w' gp cnt cp fo fc d := by
  have hw := rwrite_any (gp := gp) (cp := cp) (fo := fo) (fc := fc) cnt d.free.length f w
  rw [if_neg hz, show failE d.wl = 0 by unfold failE; rw [if_neg hz]] at hw
  exact hw.mono fun _ _ ⟨a, b⟩ => ⟨a, h.next b⟩
theorem fit_paid (f : Fit d cnt) (hq : d.puts + 1 < 1000000000) : Fit (paidD d) cnt := ⟨f.len, f.flags, f.one, f.few, f.most, f.free, f.freeLe, f.rl, failN_wf _ f.wl, f.reads, puts_more f hq⟩
theorem RS.setRl (h : RS N W w gp cnt cp fo fc d) (n : Int) : RS N W (w.setCell ⟨W.heap.size, 3, none⟩ (.int .i64 n)) gp cnt cp fo fc { d with rl := n } := by
  have h1 := h.oldP
  refine ⟨h.box.set 3 _, h.ans.far _ (by omega), ?_, h.bel.setCell (p := ⟨W.heap.size, 3, none⟩) (Nat.le_refl _) _, h.oldP, h.oldF⟩
  exact (h.ref.same (d' := { d with rl := n }) rfl rfl).kept (by simp [World.setCell]) (Below.heap_setCell _ _ _ _ (by show gp ≠ W.heap.size; omega)) (fun F e => Below.heap_setCell _ _ _ _ (by have := h.oldF F e; show F ≠ W.heap.size; omega))
theorem RS.setReads (h : RS N W w gp cnt cp fo fc d) (n : Int) : RS N W (w.setCell ⟨W.heap.size, 5, none⟩ (.int .i64 n)) gp cnt cp fo fc { d with reads := n } := by
  have h1 := h.oldP
  refine ⟨h.box.set 5 _, h.ans.far _ (by omega), ?_, h.bel.setCell (p := ⟨W.heap.size, 5, none⟩) (Nat.le_refl _) _, h.oldP, h.oldF⟩
  exact (h.ref.same (d' := { d with reads := n }) rfl rfl).kept (by simp [World.setCell]) (Below.heap_setCell _ _ _ _ (by show gp ≠ W.heap.size; omega)) (fun F e => Below.heap_setCell _ _ _ _ (by have := h.oldF F e; show F ≠ W.heap.size; omega))
theorem rs_right (h : RS N W w gp cnt cp fo fc d) (g : List UInt8) (p : Nat) (hp : p ≤ 60000) (hg : g.length = 512) :
    Calls Tryd.prog 60 #[.agg #[.string (str g)], .int .i64 p] w fun e w' => e = .returned (.bool (okP g p)) ∧ RS N W w' gp cnt cp fo fc d :=
  (rright_any g p hp hg w).mono fun _ _ ⟨a, b⟩ => ⟨a, h.next b⟩
/-- WritePage -/
def rwriteE (d : Dk) (cnt : Nat) (p : Int) (s : List UInt8) : Int := if hasD d cnt p = false then 4 else if s.length ≠ 504 then 1 else failE d.wl
def rwriteD (d : Dk) (cnt : Nat) (p : Int) (s : List UInt8) : Dk := if hasD d cnt p = false then d else if s.length ≠ 504 then d else if d.wl = 0 then { d with wl := -1 } else writeD d p.toNat s
set_option maxHeartbeats 1000000 in
set_option maxRecDepth 100000 in
theorem rwritepage_any (h : RefAt N W gp cp fo fc d cnt) (hN : N ≤ W.heap.size) (so : Sound d cnt) (f : Fit d cnt) (hq : d.puts + 1 < 1000000000) (p : Int) (s : List UInt8) :
    Calls Tryd.prog 42 #[rval gp cnt cp fo d.free.length fc d, .int .i64 p, .string (str s)] W fun e w' => Was N W w' gp fo (rwriteD d cnt p s) cnt (fun v => .tuple #[v, .int .i64 (rwriteE d cnt p s)]) e := by
  obtain ⟨V, HV, hd⟩ := RS.begin h
  have hq1 := f.puts.1
  by_cases hh : hasD d cnt p = false
  · have HE : Hid (rwriteE d cnt p s = 4) := by show _ = _; unfold rwriteE; rw [if_pos hh]
    have HD : Hid (rwriteD d cnt p s = d) := by show _ = _; unfold rwriteD; rw [if_pos hh]
    rw [HE.out, HD.out]
    have HT := Lib.hid (rs_taken hd so f p)
    rw [hh] at HT
    unfold rval
    go_enter Tryd.func42, Tryd.ntmps42
    go_wp2_with fail
    rw [← HV.out]
    refine HT.out.mono ?_
    rintro e w1 ⟨rfl, hd⟩
    obtain ⟨u0, u1, u2, u3, u4, u5, u6, uf⟩ := hd.box.cells7
    obtain ⟨t0, t1, t2, t3, t4, t5, t6, tf⟩ := hd.ans.cells7
    go_wp2
    refine bodyPost_ret (UK.box_ret2 rfl _ (hd.ans.fill7 _ _ _ _ _ _ _) rfl disk_under rfl disk_size) rfl ?_
    exact ⟨gp, cp, fo, fc, ⟨.inl rfl, fun F e => .inl e⟩, rfl, hd.done _ _ _ _ _ _ _⟩
  · have hh1 : hasD d cnt p = true := by simpa using hh
    by_cases hs : s.length ≠ 504
    · have HE : Hid (rwriteE d cnt p s = 1) := by show _ = _; unfold rwriteE; rw [if_neg hh, if_pos hs]
      have HD : Hid (rwriteD d cnt p s = d) := by show _ = _; unfold rwriteD; rw [if_neg hh, if_pos hs]
      rw [HE.out, HD.out]
      have HT := Lib.hid (rs_taken hd so f p)
      rw [hh1] at HT
      have hsl : ((s.length : Int) == 504) = false := beq_eq_false_iff_ne.2 (by omega)
      clear hh hh1 hs HE HD
      unfold rval
      go_enter Tryd.func42, Tryd.ntmps42
      go_wp2_with fail
      rw [← HV.out]
      refine HT.out.mono ?_
      rintro e w1 ⟨rfl, hd⟩
      obtain ⟨u0, u1, u2, u3, u4, u5, u6, uf⟩ := hd.box.cells7
      obtain ⟨t0, t1, t2, t3, t4, t5, t6, tf⟩ := hd.ans.cells7
      go_wp2
      refine bodyPost_ret (UK.box_ret2 rfl _ (hd.ans.fill7 _ _ _ _ _ _ _) rfl disk_under rfl disk_size) rfl ?_
      exact ⟨gp, cp, fo, fc, ⟨.inl rfl, fun F e => .inl e⟩, rfl, hd.done _ _ _ _ _ _ _⟩
    · have hs2 : s.length = 504 := by omega
      have hp := has_lt (p := p.toNat) (d := d) (cnt := cnt) (by rw [show ((p.toNat : Nat) : Int) = p by unfold hasD at hh1; rw [Bool.and_eq_true, decide_eq_true_eq] at hh1; omega]; exact hh1)
      obtain ⟨k, rfl⟩ : ∃ k : Nat, p = k := ⟨p.toNat, by unfold hasD at hh1; rw [Bool.and_eq_true, decide_eq_true_eq] at hh1; omega⟩
      rw [Int.toNat_natCast] at hp
      have HS := Lib.hid (show s.length ≤ 504 by omega)
      have hfew := f.few
      have HT := Lib.hid (rs_taken hd so f k)
      rw [hh1] at HT
      by_cases hz : d.wl = 0
      · have HE : Hid (rwriteE d cnt k s = 7) := by show _ = _; unfold rwriteE failE; rw [if_neg hh, if_neg hs, if_pos hz]
        have HD : Hid (rwriteD d cnt k s = { d with wl := -1 }) := by show _ = _; unfold rwriteD; rw [if_neg hh, if_neg hs, if_pos hz]
        rw [HE.out, HD.out]
        have HZ := Lib.hid hz
        clear hh hh1 hs HE HD hz
        unfold rval
        go_enter Tryd.func42, Tryd.ntmps42
        go_wp2_with fail
        rw [← HV.out]
        refine HT.out.mono ?_
        rintro e w1 ⟨rfl, hd⟩
        obtain ⟨u0, u1, u2, u3, u4, u5, u6, uf⟩ := hd.box.cells7
        have HW := Lib.hid (rs_write_no hd f HZ.out)
        go_wp2_with fail
        refine HW.out.mono ?_
        rintro e w2 ⟨rfl, hd2⟩
        unfold rval
        obtain ⟨u0, u1, u2, u3, u4, u5, u6, uf⟩ := hd2.box.cells7
        obtain ⟨t0, t1, t2, t3, t4, t5, t6, tf⟩ := hd2.ans.cells7
        have hd3 := hd2.turn { d with wl := -1 } rfl rfl
        go_wp2
        refine bodyPost_ret (UK.box_ret2 rfl _ (hd3.ans.fill7 _ _ _ _ _ _ _) rfl disk_under rfl disk_size) rfl ?_
        exact ⟨gp, cp, fo, fc, ⟨.inl rfl, fun F e => .inl e⟩, rfl, hd3.done _ _ _ _ _ _ _⟩
      · have HE : Hid (rwriteE d cnt k s = 0) := by show _ = _; unfold rwriteE failE; rw [if_neg hh, if_neg hs, if_neg hz]
        have HD : Hid (rwriteD d cnt k s = writeD d k s) := by show _ = _; unfold rwriteD; rw [if_neg hh, if_neg hs, if_neg hz]; rfl
        rw [HE.out, HD.out]
        have HZ := Lib.hid hz
        have f2 := fit_paid f hq
        have hpl := pageL_length k s HS.out
        have hk2 := hp.2.1
        clear hh hh1 hs HE HD hz
        unfold rval
        go_enter Tryd.func42, Tryd.ntmps42
        go_wp2_with fail
        rw [← HV.out]
        refine HT.out.mono ?_
        rintro e w1 ⟨rfl, hd⟩
        obtain ⟨u0, u1, u2, u3, u4, u5, u6, uf⟩ := hd.box.cells7
        have HW := Lib.hid (rs_write_yes hd f HZ.out)
        go_wp2_with fail
        refine HW.out.mono ?_
        rintro e w2 ⟨rfl, hd2⟩
        unfold rval
        obtain ⟨u0, u1, u2, u3, u4, u5, u6, uf⟩ := hd2.box.cells7
        have hd3 := hd2.turn (paidD d) rfl rfl
        clear hd
        go_wp2_with fail
        change Code.wp _ _ _ _ (UK.fill7 w2 W.heap.size (.slice (some ⟨gp, 0, none⟩) cnt cp) (.slice fo d.free.length fc) (.int .i64 (paidD d).most) (.int .i64 (paidD d).rl) (.int .i64 (paidD d).wl) (.int .i64 (paidD d).reads) (.int .i64 (paidD d).puts))
        generalize UK.fill7 w2 W.heap.size (.slice (some ⟨gp, 0, none⟩) cnt cp) (.slice fo d.free.length fc) (.int .i64 (paidD d).most) (.int .i64 (paidD d).rl) (.int .i64 (paidD d).wl) (.int .i64 (paidD d).reads) (.int .i64 (paidD d).puts) = w3 at hd3 ⊢
        clear u0 u1 u2 u3 u4 u5 u6 uf hd2
        have hd := hd3.drew
        clear hd3
        obtain ⟨u0, u1, u2, u3, u4, u5, u6, uf⟩ := hd.box.cells7
        go_region_with (first
          | (go_at_call 56; refine (rs_lay hd k (by omega) s HS.out).mono ?_; rintro e w3 ⟨rfl, hd⟩; obtain ⟨u0, u1, u2, u3, u4, u5, u6, uf⟩ := hd.box.cells7)
          | (go_at_call 58; refine (rs_set hd hN f2 k hk2 (pageL k s) hpl).mono ?_; rintro e w4 ⟨gp', cp', rfl, h4, b4, hgp, q1, q0⟩; unfold rval; obtain ⟨t0, t1, t2, t3, t4, t5, t6, tf⟩ := q1.cells7))
        all_goals
          go_wp2
          refine bodyPost_ret (UK.box_ret2 rfl _ (q1.fill7 _ _ _ _ _ _ _) rfl disk_under rfl disk_size) rfl ?_
          exact ⟨gp', cp', fo, fc, ⟨.inr (by omega), fun F e => .inl e⟩, rfl, h4.fill (by omega) hd.oldF' _ _ _ _ _ _ _, UK.Below.fill7 b4 (by omega) _ _ _ _ _ _ _⟩
end
end Go.Proofs.YtamnhpijeiigcaaDoor
