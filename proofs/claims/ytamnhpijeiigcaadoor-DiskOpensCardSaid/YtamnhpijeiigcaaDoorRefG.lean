/-
  The document's disk: Take.
-/
import Derived.Test.YtamnhpijeiigcaaDoorRefD
namespace Go.Proofs.YtamnhpijeiigcaaDoor
open Go.RowKit
open UK (str BytesAt nth Only w32 Row Box)
open Go.BigFrame
section
variable {N : Nat} {W W' w : World} {gp cp fc cnt : Nat} {fo : Option Addr} {d d' : Dk}
/-- its own free pages are one fewer -/
theorem RS.popFree (h : RS N W w gp cnt cp fo fc d) {l : List Nat} {p : Nat} (hl : d.free = l ++ [p]) :
    RS N W (w.setCell ⟨W.heap.size, 1, none⟩ (.slice fo l.length fc)) gp cnt cp fo fc { d with free := l } := by
  have h1 := h.oldP
  refine ⟨h.box.set 1 _, h.ans.far _ (by omega), ⟨h.ref.pages.only ((Only.refl W.heap.size w).set 1 _) (by omega), ?_, h.ref.lowP, fun F e => ⟨(h.ref.lowF F e).1, by simpa [World.setCell] using (h.ref.lowF F e).2⟩⟩, h.bel.setCell (p := ⟨W.heap.size, 1, none⟩) (Nat.le_refl _) _, h1, h.oldF⟩
  rcases h.ref.free with ⟨_, e⟩ | ⟨F, e, r⟩
  · rw [hl] at e; simp at e
  · refine .inr ⟨F, e, ?_⟩
    have := (r.only ((Only.refl W.heap.size w).set 1 (.slice fo l.length fc)) (h.oldF F e).1).take l.length
    rw [hl] at this
    unfold ints at this ⊢
    rw [List.map_append, List.take_append, List.length_map, Nat.sub_self, List.take_zero, List.append_nil, List.take_of_length_le (by rw [List.length_map]; exact Nat.le_refl _)] at this
    exact this
def rtakeE (d : Dk) (cnt : Nat) : Int := if d.most ≤ cnt ∧ d.free = [] then 6 else failE d.wl
def rtakeP (d : Dk) (cnt : Nat) : Nat := if (d.most ≤ cnt ∧ d.free = []) ∨ d.wl = 0 then 0 else if d.free = [] then cnt else d.free.getD (d.free.length - 1) 0
set_option maxHeartbeats 1000000 in
set_option maxRecDepth 100000 in
theorem rtake_full (h : RefAt N W gp cp fo fc d cnt) (f : Fit d cnt) (hm : d.most ≤ cnt) (hf : d.free = []) :
    Calls Tryd.prog 38 #[rval gp cnt cp fo d.free.length fc d] W fun e w' => Was N W w' gp fo d cnt (fun v => .tuple #[v, .int .i64 0, .int .i64 6]) e := by
  have hln : d.free.length = 0 := by rw [hf]; rfl
  have hfew := f.few
  have HLN := Lib.hid hln
  unfold rval
  rw [hln]
  clear hf hln
  go_enter Tryd.func38, Tryd.ntmps38
  go_wp2
  refine bodyPost_ret (UK.box_ret3 rfl _ (Box.new _ _ _) (by simp) disk_under rfl disk_size) rfl ?_
  exact ⟨gp, cp, fo, fc, ⟨.inl rfl, fun F e => .inl e⟩, congrArg (fun n => Ending.returned (.tuple #[rval gp cnt cp fo n fc d, .int .i64 0, .int .i64 6])) HLN.out.symm, h.below (((Below.refl _ _).alloc (Nat.le_refl _) _).alloc (by simp) _), ((Below.refl _ _).alloc (Nat.le_refl _) _).alloc (by simp) _⟩
set_option maxHeartbeats 1000000 in
set_option maxRecDepth 100000 in
theorem rtake_fail (h : RefAt N W gp cp fo fc d cnt) (f : Fit d cnt) (hm : (cnt : Int) < d.most ∨ 0 < d.free.length) (hz : d.wl = 0) :
    Calls Tryd.prog 38 #[rval gp cnt cp fo d.free.length fc d] W fun e w' => Was N W w' gp fo { d with wl := -1 } cnt (fun v => .tuple #[v, .int .i64 0, .int .i64 7]) e := by
  obtain ⟨V, HV, hd⟩ := RS.begin h
  have hfew := f.few
  have hfl := f.freeLe
  have HZ := Lib.hid hz
  clear hz
  have HW := Lib.hid (rs_write_no hd f HZ.out)
  have hc : d.most > cnt ∨ (d.most ≤ cnt ∧ 0 < d.free.length) := by omega
  clear hm
  unfold rval
  rcases hc with hc | ⟨hc1, hc⟩
  all_goals
    go_enter Tryd.func38, Tryd.ntmps38
    go_wp2_with fail
    rw [← HV.out]
    refine HW.out.mono ?_
    rintro e w2 ⟨rfl, hd2⟩
    unfold rval
    obtain ⟨u0, u1, u2, u3, u4, u5, u6, uf⟩ := hd2.box.cells7
    obtain ⟨t0, t1, t2, t3, t4, t5, t6, tf⟩ := hd2.ans.cells7
    have hd3 := hd2.turn { d with wl := -1 } rfl rfl
    go_wp2
    refine bodyPost_ret (UK.box_ret3 rfl _ (hd3.ans.fill7 _ _ _ _ _ _ _) rfl disk_under rfl disk_size) rfl ?_
    exact ⟨gp, cp, fo, fc, ⟨.inl rfl, fun F e => .inl e⟩, rfl, hd3.done _ _ _ _ _ _ _⟩
set_option maxHeartbeats 1000000 in
set_option maxRecDepth 100000 in
theorem rtake_free (h : RefAt N W gp cp fo fc d cnt) (hN : N ≤ W.heap.size) (f : Fit d cnt) (hq : d.puts + 1 < 1000000000) (l : List Nat) (p : Nat) (hl : d.free = l ++ [p]) (hz : d.wl ≠ 0) :
    Calls Tryd.prog 38 #[rval gp cnt cp fo d.free.length fc d] W fun e w' => Was N W w' gp fo (takeF d l p) cnt (fun v => .tuple #[v, .int .i64 p, .int .i64 0]) e := by
  obtain ⟨V, HV, hd⟩ := RS.begin h
  have hfew := f.few
  have hln : d.free.length = l.length + 1 := by rw [hl, List.length_append]; rfl
  have hq1 := f.puts.1
  have hq2 := f.puts.2
  have hll : l.length + 1 ≤ 60000 := by have := f.freeLe; omega
  have hpf := (f.free p (by rw [hl]; exact List.mem_append_right _ (List.mem_singleton.2 rfl))).2
  have HZ := Lib.hid hz
  have HL := Lib.hid hl
  have f1 := fit_paid f hq
  have f2 : Fit { paidD d with free := l } cnt := ⟨f1.len, f1.flags, f1.one, f1.few, f1.most, fun q hq => f.free q (by rw [HL.out]; exact List.mem_append_left _ hq), by show l.length ≤ cnt; have := f.freeLe; omega, f1.rl, f1.wl, f1.reads, f1.puts⟩
  have hpl := pageL_length p [] (by decide)
  have HW := Lib.hid (rs_write_yes hd f HZ.out)
  rw [hln] at HV HW
  unfold rval
  rw [hln]
  have hlast : ∃ F, Hid (fo = some ⟨F, 0, none⟩) ∧ F ≠ W.heap.size ∧ l.length + 1 ≤ fc ∧ ∀ w, RS N W w gp cnt cp fo fc d → w.cell? ⟨F, l.length, none⟩ = some (.int .i64 (p : Int)) := by
    rcases h.free with ⟨_, e⟩ | ⟨F, e, r⟩
    · rw [hl] at e; simp at e
    · refine ⟨F, e, by have := (h.lowF F e).2; omega, by have := r.le; rwa [ints_length, hln] at this, fun w hw => ?_⟩
      rcases hw.ref.free with ⟨_, e2⟩ | ⟨F2, e2, r2⟩
      · rw [hl] at e2; simp at e2
      · rw [e] at e2
        obtain rfl : F = F2 := congrArg Addr.block (Option.some.inj e2)
        have := r2.at' l.length _ (ints_at d.free l.length (by omega))
        rwa [hl, getD_end] at this
  obtain ⟨F, HF, hne, hfcl, hlast⟩ := hlast
  have hne2 : W.heap.size ≠ F := fun e => hne e.symm
  have HLN := Lib.hid hln
  clear hl hz hln
  rcases (show d.most > cnt ∨ d.most ≤ cnt by omega) with hc | hc
  all_goals
    go_enter Tryd.func38, Tryd.ntmps38
    go_wp2_with fail
    rw [← HV.out]
    refine HW.out.mono ?_
    rintro e w2 ⟨rfl, hd2⟩
    unfold rval
    have hb2 := hd2.box
    unfold rcells at hb2
    rw [HLN.out] at hb2
    obtain ⟨u0, u1, u2, u3, u4, u5, u6, uf⟩ := hb2.cells7
    have hd3 := hd2.turn (paidD d) rfl rfl
    rw [HLN.out] at hd3
    have hla := hlast w2 hd2
    rw [HF.out] at hd3 u1
    rw [HF.out]
    have hd4 := hd3.popFree (l := l) (p := p) HL.out
    go_wp2_with fail
    change Code.wp _ _ _ _ ((UK.fill7 w2 W.heap.size (.slice (some ⟨gp, 0, none⟩) cnt cp) (.slice (some ⟨F, 0, none⟩) (l.length + 1) fc) (.int .i64 (paidD d).most) (.int .i64 (paidD d).rl) (.int .i64 (paidD d).wl) (.int .i64 (paidD d).reads) (.int .i64 (paidD d).puts)).setCell ⟨W.heap.size, 1, none⟩ (.slice (some ⟨F, 0, none⟩) l.length fc))
    generalize (UK.fill7 w2 W.heap.size (.slice (some ⟨gp, 0, none⟩) cnt cp) (.slice (some ⟨F, 0, none⟩) (l.length + 1) fc) (.int .i64 (paidD d).most) (.int .i64 (paidD d).rl) (.int .i64 (paidD d).wl) (.int .i64 (paidD d).reads) (.int .i64 (paidD d).puts)).setCell ⟨W.heap.size, 1, none⟩ (.slice (some ⟨F, 0, none⟩) l.length fc) = w3 at hd4 ⊢
    clear u0 u1 u2 u3 u4 u5 u6 uf hd2 hd3 hla hb2
    have hd := hd4.drew
    clear hd4
    obtain ⟨u0, u1, u2, u3, u4, u5, u6, uf⟩ := hd.box.cells7
    go_region_with (first
      | (go_at_call 56; refine (rs_lay hd p (by omega) [] (by decide)).mono ?_; rintro e w3 ⟨rfl, hd⟩; obtain ⟨u0, u1, u2, u3, u4, u5, u6, uf⟩ := hd.box.cells7)
      | (go_at_call 58; refine (rs_set hd hN f2 p hpf (pageL p []) hpl).mono ?_; rintro e w4 ⟨gp', cp', rfl, h4, b4, hgp, q1, q0⟩; unfold rval; obtain ⟨t0, t1, t2, t3, t4, t5, t6, tf⟩ := q1.cells7))
    all_goals
      go_wp2
      refine bodyPost_ret (UK.box_ret3 rfl _ (q1.fill7 _ _ _ _ _ _ _) rfl disk_under rfl disk_size) rfl ?_
      exact ⟨gp', cp', some ⟨F, 0, none⟩, fc, ⟨.inr (by omega), fun F' e => .inl (HF.out.trans e)⟩, rfl, (h4.fill (by omega) hd.oldF' _ _ _ _ _ _ _).same rfl rfl, UK.Below.fill7 b4 (by omega) _ _ _ _ _ _ _⟩
end
end Go.Proofs.YtamnhpijeiigcaaDoor
