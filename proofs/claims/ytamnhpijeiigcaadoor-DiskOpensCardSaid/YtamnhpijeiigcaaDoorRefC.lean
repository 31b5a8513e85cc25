/-
  The document's disk: head, Flush.
-/
import Derived.Test.YtamnhpijeiigcaaDoorRefB
import Derived.BigRegion
namespace Go.Proofs.YtamnhpijeiigcaaDoor
open Go.RowKit
open UK (str BytesAt nth Only w32 Row Box)
open Go.BigFrame
section
variable {N : Nat} {W W' : World} {gp cp fc cnt : Nat} {fo : Option Addr} {d d' : Dk}
/-- its cells -/
abbrev rcells (gp np cp : Nat) (fo : Option Addr) (nf fc : Nat) (d : Dk) : Array Value :=
  #[.slice (some ⟨gp, 0, none⟩) np cp, .slice fo nf fc, .int .i64 d.most, .int .i64 d.rl, .int .i64 d.wl, .int .i64 d.reads, .int .i64 d.puts]
abbrev zero7 : Array Value := #[.slice none 0 0, .slice none 0 0, .int .i64 0, .int .i64 0, .int .i64 0, .int .i64 0, .int .i64 0]
/-- a function's two structs, when it begins -/
theorem begin7 (W : World) (c z : Array Value) (t u : TypeId) : ∃ V, Hid (V = (W.alloc (.cells c t)).alloc (.cells z u)) ∧ Below W.heap.size W V ∧ Box V W.heap.size c ∧ Box V (W.heap.size + 1) z := by
  refine ⟨_, rfl, ((Below.refl _ _).alloc (Nat.le_refl _) _).alloc (by simp) _, (Box.new _ _ _).alloc _, ?_⟩
  have := Box.new (W.alloc (.cells c t)) z u
  rwa [show (W.alloc (.cells c t)).heap.size = W.heap.size + 1 by simp] at this
theorem next_zero (d : Dk) : nextL d 0 = [255, 255, 255, 255] := by
  unfold nextL
  rw [if_pos rfl]
  decide +kernel
theorem next_last (d : Dk) (h : d.free ≠ []) : nextL d d.free.length = putL (w32 (d.free.getD (d.free.length - 1) 0)) := by
  unfold nextL
  rw [if_neg (fun e => h (List.length_eq_zero_iff.1 e))]
/-- the last free page -/
theorem FreeAt.last {l : List Nat} (h : FreeAt W fo fc l) (hl : l ≠ []) : ∃ F, fo = some ⟨F, 0, none⟩ ∧ W.cell? ⟨F, l.length - 1, none⟩ = some (.int .i64 ((l.getD (l.length - 1) 0 : Nat) : Int)) := by
  rcases h with ⟨_, e⟩ | ⟨F, e, r⟩
  · exact absurd e hl
  · have : 0 < l.length := List.length_pos_iff.2 hl
    exact ⟨F, e, r.at' _ _ (ints_at l _ (by omega))⟩
set_option maxHeartbeats 1000000 in
set_option maxRecDepth 100000 in
theorem rhead_any (h : RefAt N W gp cp fo fc d cnt) (f : Fit d cnt) :
    Calls Tryd.prog 37 #[rval gp cnt cp fo d.free.length fc d] W fun e w' => e = .returned (.agg #[.string (str (pageL 0 (headL d cnt)))]) ∧ Below W.heap.size W w' := by
  have hfew := f.few
  have hfl := f.freeLe
  have HL : Hid (headL d cnt = 84 :: 65 :: 66 :: 85 :: 76 :: 65 :: 82 :: 49 :: (putL (w32 cnt) ++ nextL d d.free.length)) := rfl
  have hhl := headL_length d cnt
  obtain ⟨V, HV, b0, x0, x1⟩ := begin7 W (rcells gp cnt cp fo d.free.length fc d) #[.string (str [])] 46 73
  have h0 := h.below b0
  by_cases hf : d.free = []
  · have hln : d.free.length = 0 := by rw [hf]; rfl
    rw [hln, next_zero] at HL
    rw [hln] at x0
    unfold rval
    rw [hln]
    rw [hln] at HV
    clear hf hln hfl
    go_enter Tryd.func37, Tryd.ntmps37
    go_wp2_with fail
    rw [← HV.out]
    refine (rword_any cnt hfew _).mono ?_
    rintro e w1 ⟨rfl, b1⟩
    have y1 := x1.next b1
    have b1 := b0.trans (b1.mono b0.size)
    go_wp2_with fail
    rw [← HL.out]
    refine (rlay_any 0 (by omega) (headL d cnt) (by omega) _).mono ?_
    rintro e w2 ⟨rfl, b2⟩
    have z1 := y1.next b2
    have b2 := b1.trans (b2.mono b1.size)
    have c0 := z1.cell 0 _ rfl
    have cf := z1.free 0
    have zr := z1.set 0 (.string (str (pageL 0 (headL d cnt))))
    go_wp2
    refine bodyPost_ret (UK.box_ret rfl _ zr rfl page_under rfl page_size) rfl ?_
    exact ⟨rfl, b2.setCell (p := ⟨W.heap.size + 1, 0, none⟩) (by show W.heap.size ≤ W.heap.size + 1; omega) _⟩
  · have hp := f.free (d.free.getD (d.free.length - 1) 0) (by
      have : 0 < d.free.length := List.length_pos_iff.2 hf
      rw [List.getD_eq_getElem?_getD, List.getElem?_eq_getElem (by omega)]; exact List.getElem_mem _)
    obtain ⟨F, HF, hlast⟩ := h0.free.last hf
    have hl1 : 0 < d.free.length := List.length_pos_iff.2 hf
    have hl2 := h0.free
    have hfcl : d.free.length ≤ fc := by
      rcases hl2 with ⟨_, e⟩ | ⟨F', e, r⟩
      · exact absurd e hf
      · have := r.le; rwa [ints_length] at this
    rw [next_last d hf] at HL
    generalize d.free.getD (d.free.length - 1) 0 = q at HL hlast hp
    subst HF
    generalize hn : d.free.length = n at x0 HV hlast hl1 hfl hfcl ⊢
    clear hn hl2
    obtain ⟨m, rfl⟩ : ∃ m, n = m + 1 := ⟨n - 1, by omega⟩
    rw [Nat.add_sub_cancel] at hlast
    have hq := hp.2
    have hlast' := hlast
    rw [HV.out] at hlast'
    unfold rval
    go_enter Tryd.func37, Tryd.ntmps37
    go_wp2_with fail
    rw [← HV.out]
    refine (rword_any q (by omega) _).mono ?_
    rintro e w1 ⟨rfl, b1⟩
    have y0 := x0.next b1
    have y1 := x1.next b1
    have b1 := b0.trans (b1.mono b0.size)
    have c0 := y0.cell 0 _ rfl
    go_wp2_with fail
    refine (rword_any cnt hfew _).mono ?_
    rintro e w2 ⟨rfl, b2⟩
    have z1 := y1.next b2
    have b2 := b1.trans (b2.mono b1.size)
    go_wp2_with fail
    rw [← HL.out]
    refine (rlay_any 0 (by omega) (headL d cnt) (by omega) _).mono ?_
    rintro e w3 ⟨rfl, b3⟩
    have v1 := z1.next b3
    have b3 := b2.trans (b3.mono b2.size)
    have c0 := v1.cell 0 _ rfl
    have cf := v1.free 0
    have zr := v1.set 0 (.string (str (pageL 0 (headL d cnt))))
    go_wp2
    refine bodyPost_ret (UK.box_ret rfl _ zr rfl page_under rfl page_size) rfl ?_
    exact ⟨rfl, b3.setCell (p := ⟨W.heap.size + 1, 0, none⟩) (by show W.heap.size ≤ W.heap.size + 1; omega) _⟩
/-- behind a call: the document's disk, its answer -/
def Was (N : Nat) (W w' : World) (gp0 : Nat) (fo0 : Option Addr) (d : Dk) (cnt : Nat) (f : Value → Value) (e : Ending) : Prop :=
  ∃ gp cp fo fc, ((gp = gp0 ∨ W.heap.size ≤ gp) ∧ ∀ F, fo = some ⟨F, 0, none⟩ → fo0 = some ⟨F, 0, none⟩ ∨ W.heap.size ≤ F) ∧ e = .returned (f (rval gp cnt cp fo d.free.length fc d)) ∧ RefAt N w' gp cp fo fc d cnt ∧ Below W.heap.size W w'
/-- the document's disk in its own struct, and the answer's struct, in a function that has begun in W -/
structure RS (N : Nat) (W w : World) (gp cnt cp : Nat) (fo : Option Addr) (fc : Nat) (d : Dk) : Prop where
  box : Box w W.heap.size (rcells gp cnt cp fo d.free.length fc d)
  ans : Box w (W.heap.size + 1) zero7
  ref : RefAt N w gp cp fo fc d cnt
  bel : Below W.heap.size W w
  oldP : gp ≠ W.heap.size ∧ gp ≠ W.heap.size + 1
  oldF : ∀ F, fo = some ⟨F, 0, none⟩ → F ≠ W.heap.size ∧ F ≠ W.heap.size + 1
theorem RS.next {w w' : World} (h : RS N W w gp cnt cp fo fc d) (hb : Below w.heap.size w w') : RS N W w' gp cnt cp fo fc d := ⟨h.box.next hb, h.ans.next hb, h.ref.below hb, h.bel.trans (hb.mono h.bel.size), h.oldP, h.oldF⟩
theorem RS.drew {w : World} (h : RS N W w gp cnt cp fo fc d) : RS N W w.drew gp cnt cp fo fc d := h.next (Below.refl _ _).drew
theorem rs_head {w : World} (h : RS N W w gp cnt cp fo fc d) (f : Fit d cnt) :
    Calls Tryd.prog 37 #[rval gp cnt cp fo d.free.length fc d] w fun e w' => e = .returned (.agg #[.string (str (pageL 0 (headL d cnt)))]) ∧ RS N W w' gp cnt cp fo fc d :=
  (rhead_any h.ref f).mono fun _ _ ⟨a, b⟩ => ⟨a, h.next b⟩
theorem rs_lay {w : World} (h : RS N W w gp cnt cp fo fc d) (p : Nat) (hp : p ≤ 60000) (s : List UInt8) (hs : s.length ≤ 504) :
    Calls Tryd.prog 56 #[.int .i64 p, .string (str s)] w fun e w' => e = .returned (.agg #[.string (str (pageL p s))]) ∧ RS N W w' gp cnt cp fo fc d :=
  (rlay_any p hp s hs w).mono fun _ _ ⟨a, b⟩ => ⟨a, h.next b⟩
theorem rs_set {w : World} (h : RS N W w gp cnt cp fo fc d) (hN : N ≤ W.heap.size) (f : Fit d cnt) (p : Nat) (hp : p < cnt) (g : List UInt8) (hg : g.length = 512) :
    Calls Tryd.prog 58 #[rval gp cnt cp fo d.free.length fc d, .int .i64 p, .agg #[.string (str g)]] w fun e w' => ∃ gp' cp', e = .returned (rval gp' cnt cp' fo d.free.length fc d) ∧ RefAt N w' gp' cp' fo fc { d with x := UK.wr d.x (512 * p) g } cnt ∧ Below W.heap.size W w' ∧ W.heap.size + 1 < gp' ∧ Box w' (W.heap.size + 1) zero7 ∧ Box w' W.heap.size (rcells gp cnt cp fo d.free.length fc d) :=
  (rset_any h.ref (Nat.le_trans hN h.bel.size) f p hp g hg).mono fun _ _ ⟨gp', cp', a, b, c, e⟩ => ⟨gp', cp', a, b, h.bel.trans (c.mono h.bel.size), by have := h.ans.lt; omega, h.ans.next c, h.box.next c⟩
set_option maxHeartbeats 1000000 in
set_option maxRecDepth 100000 in
theorem rflush_any (h : RefAt N W gp cp fo fc d cnt) (hN : N ≤ W.heap.size) (f : Fit d cnt) (hq : d.puts + 1 < 1000000000) :
    Calls Tryd.prog 43 #[rval gp cnt cp fo d.free.length fc d] W fun e w' => Was N W w' gp fo (flushD d cnt) cnt (fun v => .tuple #[v, .int .i64 (failE d.wl)]) e := by
  obtain ⟨V, HV, b0, x0, x1⟩ := begin7 W (rcells gp cnt cp fo d.free.length fc d) zero7 46 46
  have h0 := h.below b0
  have hw := fun w => rwrite_any (gp := gp) (cp := cp) (fo := fo) (fc := fc) cnt d.free.length f w
  by_cases hz : d.wl = 0
  · rw [if_pos hz] at hw
    have HE : Hid (failE d.wl = 7) := by show _ = _; unfold failE; rw [if_pos hz]
    have HF : Hid (flushD d cnt = { d with wl := -1 }) := by show _ = _; unfold flushD; rw [if_pos hz]
    rw [HE.out] at hw
    rw [HE.out, HF.out]
    clear hz
    unfold rval at hw ⊢
    go_enter Tryd.func43, Tryd.ntmps43
    go_wp2_with fail
    rw [← HV.out]
    refine (hw _).mono ?_
    rintro e w1 ⟨rfl, b1⟩
    have y0 := x0.next b1
    have y1 := x1.next b1
    have h1 := h0.below b1
    have b1 := b0.trans (b1.mono b0.size)
    obtain ⟨u0, u1, u2, u3, u4, u5, u6, uf⟩ := y0.cells7
    obtain ⟨t0, t1, t2, t3, t4, t5, t6, tf⟩ := y1.cells7
    go_wp2
    refine bodyPost_ret (UK.box_ret2 rfl _ ((y1.fill7_far (g := W.heap.size) (by omega) _ _ _ _ _ _ _).fill7 _ _ _ _ _ _ _) rfl disk_under rfl disk_size) rfl ?_
    have hg1 := h.pages.lt
    have hg2 := fun F e => (h.lowF F e).2
    exact ⟨gp, cp, fo, fc, ⟨.inl rfl, fun F e => .inl e⟩, rfl, ((h1.same (d' := { d with wl := -1 }) rfl rfl).fill (by omega) (fun F e => by have := hg2 F e; omega) _ _ _ _ _ _ _).fill (by omega) (fun F e => by have := hg2 F e; omega) _ _ _ _ _ _ _, UK.Below.fill7 (UK.Below.fill7 b1 (Nat.le_refl _) _ _ _ _ _ _ _) (by omega) _ _ _ _ _ _ _⟩
  · rw [if_neg hz] at hw
    have HE : Hid (failE d.wl = 0) := by show _ = _; unfold failE; rw [if_neg hz]
    have HF : Hid (flushD d cnt = { paidD d with x := UK.wr d.x (512 * 0) (pageL 0 (headL d cnt)) }) := by show _ = _; unfold flushD; rw [if_neg hz]; rfl
    rw [HE.out] at hw
    rw [HE.out, HF.out]
    clear hz
    have f2 : Fit (paidD d) cnt := ⟨f.len, f.flags, f.one, f.few, f.most, f.free, f.freeLe, f.rl, failN_wf _ f.wl, f.reads, puts_more f hq⟩
    have hpl := pageL_length 0 (headL d cnt) (by rw [headL_length]; decide)
    unfold rval at hw ⊢
    go_enter Tryd.func43, Tryd.ntmps43
    go_wp2_with fail
    rw [← HV.out]
    refine (hw _).mono ?_
    rintro e w1 ⟨rfl, b1⟩
    have y0 := x0.next b1
    have y1 := x1.next b1
    have h1 := h0.below b1
    have b1 := b0.trans (b1.mono b0.size)
    obtain ⟨u0, u1, u2, u3, u4, u5, u6, uf⟩ := y0.cells7
    have hg1 := h.pages.lt
    have hg2 := fun F e => (h.lowF F e).2
    have z0 := y0.fill7 (.slice (some ⟨gp, 0, none⟩) cnt cp) (.slice fo d.free.length fc) (.int .i64 (paidD d).most) (.int .i64 (paidD d).rl) (.int .i64 (paidD d).wl) (.int .i64 (paidD d).reads) (.int .i64 (paidD d).puts)
    have z1 := y1.fill7_far (g := W.heap.size) (by omega) (.slice (some ⟨gp, 0, none⟩) cnt cp) (.slice fo d.free.length fc) (.int .i64 (paidD d).most) (.int .i64 (paidD d).rl) (.int .i64 (paidD d).wl) (.int .i64 (paidD d).reads) (.int .i64 (paidD d).puts)
    have h2 := (h1.same (d' := paidD d) rfl rfl).fill (g := W.heap.size) (by omega) (fun F e => by have := hg2 F e; omega) (.slice (some ⟨gp, 0, none⟩) cnt cp) (.slice fo d.free.length fc) (.int .i64 (paidD d).most) (.int .i64 (paidD d).rl) (.int .i64 (paidD d).wl) (.int .i64 (paidD d).reads) (.int .i64 (paidD d).puts)
    have b2 := UK.Below.fill7 b1 (Nat.le_refl W.heap.size) (.slice (some ⟨gp, 0, none⟩) cnt cp) (.slice fo d.free.length fc) (.int .i64 (paidD d).most) (.int .i64 (paidD d).rl) (.int .i64 (paidD d).wl) (.int .i64 (paidD d).reads) (.int .i64 (paidD d).puts)
    clear hw h0 h1 x0 x1 b0 y0 y1
    go_wp2_with fail
    change Code.wp _ _ _ _ (UK.fill7 w1 W.heap.size (.slice (some ⟨gp, 0, none⟩) cnt cp) (.slice fo d.free.length fc) (.int .i64 (paidD d).most) (.int .i64 (paidD d).rl) (.int .i64 (paidD d).wl) (.int .i64 (paidD d).reads) (.int .i64 (paidD d).puts))
    generalize UK.fill7 w1 W.heap.size (.slice (some ⟨gp, 0, none⟩) cnt cp) (.slice fo d.free.length fc) (.int .i64 (paidD d).most) (.int .i64 (paidD d).rl) (.int .i64 (paidD d).wl) (.int .i64 (paidD d).reads) (.int .i64 (paidD d).puts) = w2 at z0 z1 h2 b2 ⊢
    clear u0 u1 u2 u3 u4 u5 u6 uf b1
    have hd : RS N W w2 gp cnt cp fo fc (paidD d) := ⟨z0, z1, h2, b2, ⟨by omega, by omega⟩, fun F e => by have := hg2 F e; exact ⟨by omega, by omega⟩⟩
    clear z0 z1 h2 b2
    replace hd := hd.drew
    obtain ⟨u0, u1, u2, u3, u4, u5, u6, uf⟩ := hd.box.cells7
    go_region_with (first
      | (go_at_call 37; refine (rs_head hd f2).mono ?_; rintro e w3 ⟨rfl, hd⟩; obtain ⟨u0, u1, u2, u3, u4, u5, u6, uf⟩ := hd.box.cells7)
      | (go_at_call 58; refine (rs_set hd hN f2 0 f.one (pageL 0 (headL (paidD d) cnt)) hpl).mono ?_; rintro e w4 ⟨gp', cp', rfl, h4, b4, hgp, q1, q0⟩; unfold rval; obtain ⟨t0, t1, t2, t3, t4, t5, t6, tf⟩ := q1.cells7))
    all_goals
      go_wp2
      refine bodyPost_ret (UK.box_ret2 rfl _ (q1.fill7 _ _ _ _ _ _ _) rfl disk_under rfl disk_size) rfl ?_
      exact ⟨gp', cp', fo, fc, ⟨.inr (by omega), fun F e => .inl e⟩, rfl, h4.fill (by omega) (fun F e => by have := hg2 F e; omega) _ _ _ _ _ _ _, UK.Below.fill7 b4 (by omega) _ _ _ _ _ _ _⟩
end
end Go.Proofs.YtamnhpijeiigcaaDoor
