/-
  Layer areas: how many values keep a rule.
-/
import Derived.Test.YteelmbpmmobpjaaGreatDoorValI
import Derived.Test.YteelmbpmmobpjaaGreatDoorValJ
import Derived.StillTailTactics
namespace Go.Proofs.YteelmbpmmobpjaaGreatDoor
open Go.RowKit
open UK (str BytesAt nth Only Row Box)
/-- an append in a region that draws its order, by its run -/
theorem UK.step_append_run2 {P : Program} {t tx ty : TypeId} {sv xv v' : Value} {w w' : World} (hr : (Builtin.append_ #[t, tx] ty #[sv, xv]).run P w = .ok v' w') {ops : Array Oper} {o : Oper} {a : Act} {K : Act → World → Prop} {Q : Exit → Act → World → Prop} {E : Prop} {s x : Operand}
    (hg : o.guard = none) (hop : o.op = Op.call { callee := Callee.builtin Builtin.append, args := #[s, x], argTypes := #[t, tx] }) (hty : o.type = ty) (hs : a.eval s = sv) (hx : a.eval x = xv) (hK : K (a.put o.dst v') w') :
    if Region.wanted o (yielded ops a.tmps) = true then Oper.wp P o a w K Q else E := by
  have hw : Region.wanted o (yielded ops a.tmps) = true := by simp [Region.wanted, hg]
  rw [if_pos hw]
  subst hty
  unfold Oper.wp
  simp [execOp, hop, resolve, invoke, builtin, hs, hx, hr, Result.andThen]
  exact hK
/-- chosen's own boxes, and what it has chosen -/
structure ChSt (w : World) (A F R K O : Nat) (ca cf ck : Array Value) (wr : World) (sv : Value) (sel : List V) : Prop where
  ba : Box wr A ca
  bf : Box wr F cf
  br : Box wr R #[.int .i64 0, .int .i64 0, .bool false, .slice none 0 0]
  bk : Box wr K ck
  bo : Box wr O #[.int .i64 0, .int .i64 0, .bool true, sv]
  bel : Below w.heap.size w wr
  ord : w.heap.size ≤ A ∧ A < F ∧ F < R ∧ R < K ∧ K < O
  is : ∃ ao c, sv = .slice ao sel.length c ∧ ((ao = none ∧ vals sel = [] ∧ c = 0) ∨ ∃ g, ao = some ⟨g, 0, none⟩ ∧ Row wr g c (vals sel) ∧ O < g)
theorem ChSt.next {w : World} {A F R K O : Nat} {ca cf ck : Array Value} {wr W : World} {sv : Value} {sel : List V} (h : ChSt w A F R K O ca cf ck wr sv sel) (hb : Below wr.heap.size wr W) : ChSt w A F R K O ca cf ck W sv sel := by
  obtain ⟨ao, c, h1, h2⟩ := h.is
  refine ⟨h.ba.next hb, h.bf.next hb, h.br.next hb, h.bk.next hb, h.bo.next hb, h.bel.trans (hb.mono h.bel.size), h.ord, ao, c, h1, ?_⟩
  rcases h2 with h2 | ⟨g, h3, h4, h5⟩
  · exact .inl h2
  · exact .inr ⟨g, h3, h4.below hb h4.lt, h5⟩
theorem vals_nil {l : List V} (h : vals l = []) : l = [] := by cases l with
  | nil => rfl
  | cons x y => simp [vals] at h
set_option maxRecDepth 100000 in
theorem ChSt.push {w : World} {A F R K O : Nat} {ca cf ck : Array Value} {wr : World} {sv : Value} {sel : List V} (h : ChSt w A F R K O ca cf ck wr sv sel) (hl : sel.length + 1 ≤ 100000000) (v : V) :
    ∃ ao c, sv = .slice ao sel.length c ∧ ∃ g' c' W', (Builtin.append_ #[25, 25] 25 #[.slice ao sel.length c, .slice (some ⟨wr.heap.size, 0, none⟩) 1 1]).run Tryz.prog (wr.drew.alloc (.cells #[v.val] 35)) = .ok (.slice (some ⟨g', 0, none⟩) (sel.length + 1) c') W' ∧
      W'.cell? ⟨O, 3, none⟩ = some (.slice ao sel.length c) ∧ W'.frozen? ⟨O, 3, none⟩ = false ∧
      ChSt w A F R K O ca cf ck (W'.setCell ⟨O, 3, none⟩ (.slice (some ⟨g', 0, none⟩) (sel.length + 1) c')) (.slice (some ⟨g', 0, none⟩) (sel.length + 1) c') (sel ++ [v]) := by
  have hd : ChSt w A F R K O ca cf ck wr.drew sv sel := h.next (UK.belowN (Below.refl _ _) 1)
  obtain ⟨ao, c, rfl, h2⟩ := hd.is
  obtain ⟨o1, o2, o3, o4, o5⟩ := hd.ord
  have ha : (ao = none ∧ vals sel = [] ∧ c = 0) ∨ ∃ gg, ao = some ⟨gg, 0, none⟩ ∧ Row wr.drew gg c (vals sel) := by
    rcases h2 with a | ⟨gg, a1, a2, _⟩
    · exact .inl a
    · exact .inr ⟨gg, a1, a2⟩
  obtain ⟨g', c', W', e, r, o, hg⟩ := UK.push_one (P := Tryz.prog) (t := 25) (ty := 25) Tryz.underlying25 (i := Tryz.t35) rfl rfl rfl (show (16 : Nat) ≤ 16 by omega) rfl ha v.val (by cases v <;> rfl) (by have := vals_length sel; omega)
  rw [vals_length] at e
  have hOl := hd.bo.lt
  have hgO : O < g' := by
    rcases hg with hg | hg
    · rcases h2 with ⟨a1, _⟩ | ⟨gg, a1, _, a3⟩
      · rw [a1] at hg; cases hg
      · rw [a1] at hg
        obtain rfl : gg = g' := congrArg Addr.block (Option.some.inj hg)
        exact a3
    · omega
  have bo' := hd.bo.only o (by omega)
  have far : ∀ {k : Nat} {cs : Array Value}, Box wr.drew k cs → k < O → Box (W'.setCell ⟨O, 3, none⟩ (.slice (some ⟨g', 0, none⟩) (sel.length + 1) c')) k cs := fun hb hk => (hb.only o (by omega)).far _ (by omega)
  refine ⟨ao, c, rfl, g', c', W', e, bo'.cell 3 _ rfl, bo'.free 3, far hd.ba (by omega), far hd.bf (by omega), far hd.br (by omega), far hd.bk (by omega), bo'.set 3 _, ?_, hd.ord, _, c', ?_, .inr ⟨g', rfl, ?_, hgO⟩⟩
  · exact (hd.bel.trans (o.below (by have := hd.bel.size; omega) (by omega))).setCell (by show _ ≤ O; omega) _
  · rw [List.length_append]; rfl
  · have : vals (sel ++ [v]) = vals sel ++ [v.val] := by simp [vals]
    rw [this]
    exact r.of_block (by simp) (Below.heap_setCell W' _ _ _ (by show g' ≠ O; omega))
set_option maxHeartbeats 4000000 in
set_option maxRecDepth 100000 in
theorem chosen_any {n : Nat} {w : World} {t : Value} {vs : List V} {r c : Int} {ar : Bool} (h : VSl n w t vs) (hl : vs.length ≤ 100000) (v rv : V) (op : Int) (ho : op = 0 ∨ op = 1 ∨ op = 2 ∨ op = 3 ∨ op = 4 ∨ op = 5)
    (hm : ∀ W, Below w.heap.size w W → Calls Tryz.prog 63 #[v.val] W fun e w' => e = .returned (.agg #[.int .i64 op, rv.val]) ∧ Below W.heap.size W w') (hnt : ∀ x ∈ vs, bothText x rv = false) :
    Calls Tryz.prog 35 #[.agg #[.int .i64 r, .int .i64 c, .bool ar, t], .agg #[.int .i64 r, .int .i64 c, .bool ar, t], v.val] w fun e w' => ∃ ao cc, e = .returned (.agg #[.int .i64 0, .int .i64 0, .bool true, .slice ao (vs.filter (fitsV op rv)).length cc]) ∧ Below w.heap.size w w' := by
  obtain ⟨⟨g, gc, rfl, hg, hc⟩, hle⟩ := h
  have HC := Lib.hid hc
  have HM := Lib.hid hm
  have HF := Lib.hid (fun (W : World) (x : V) (hx : x ∈ vs) => fits_any (w := W) op ho rv x (hnt x hx))
  have hgl : g < w.heap.size := by omega
  obtain ⟨T, pv, hv⟩ := val_iface rv
  rw [hv] at HM HF
  have HV := Lib.hid hv
  clear hc hm hnt hv
  generalize v.val = vv at *
  go_enter Tryz.func35, Tryz.ntmps35
  obtain ⟨ca, hca⟩ : ∃ ca : Array Value, ca = #[.int .i64 r, .int .i64 c, .bool ar, .slice (some ⟨g, 0, none⟩) vs.length gc] := ⟨_, rfl⟩
  have h3 : Box (((w.alloc (.cells ca 27)).alloc (.cells ca 27)).alloc (.cells #[.int .i64 0, .int .i64 0, .bool false, .slice none 0 0] 27)) w.heap.size ca ∧ Box (((w.alloc (.cells ca 27)).alloc (.cells ca 27)).alloc (.cells #[.int .i64 0, .int .i64 0, .bool false, .slice none 0 0] 27)) (w.heap.size + 1) ca ∧ Box (((w.alloc (.cells ca 27)).alloc (.cells ca 27)).alloc (.cells #[.int .i64 0, .int .i64 0, .bool false, .slice none 0 0] 27)) (w.heap.size + 1 + 1) #[.int .i64 0, .int .i64 0, .bool false, .slice none 0 0] ∧ Below w.heap.size w (((w.alloc (.cells ca 27)).alloc (.cells ca 27)).alloc (.cells #[.int .i64 0, .int .i64 0, .bool false, .slice none 0 0] 27)) := by
    have b1 := ((Box.new w ca 27).alloc (.cells ca 27)).alloc (.cells #[.int .i64 0, .int .i64 0, .bool false, .slice none 0 0] 27)
    have b2 := (Box.new (w.alloc (.cells ca 27)) ca 27).alloc (.cells #[.int .i64 0, .int .i64 0, .bool false, .slice none 0 0] 27)
    have b3 := Box.new ((w.alloc (.cells ca 27)).alloc (.cells ca 27)) #[.int .i64 0, .int .i64 0, .bool false, .slice none 0 0] 27
    simp only [World.size_alloc] at b1 b2 b3
    exact ⟨b1, b2, b3, (((Below.refl _ _).alloc (Nat.le_refl _) _).alloc (by simp) _).alloc (by simp; omega) _⟩
  rw [hca] at h3
  have H3 := Lib.hid h3
  clear h3
  have HCA := Lib.hid hca
  clear hca
  go_wp2_with fail
  refine (HM.out _ H3.out.2.2.2).mono ?_
  rintro e w1 ⟨rfl, b1⟩
  have hst0 : ChSt w w.heap.size (w.heap.size + 1) (w.heap.size + 1 + 1) w1.heap.size (w1.heap.size + 1) ca ca #[.int .i64 op, .iface T pv] ((w1.alloc (.cells #[.int .i64 op, .iface T pv] 114)).alloc (.cells #[.int .i64 0, .int .i64 0, .bool true, .slice none 0 0] 27)) (.slice none 0 0) [] := by
    obtain ⟨x1, x2, x3, x4⟩ := H3.out
    have y1 := ((x1.next b1).alloc (.cells #[.int .i64 op, .iface T pv] 114)).alloc (.cells #[.int .i64 0, .int .i64 0, .bool true, .slice none 0 0] 27)
    have y2 := ((x2.next b1).alloc (.cells #[.int .i64 op, .iface T pv] 114)).alloc (.cells #[.int .i64 0, .int .i64 0, .bool true, .slice none 0 0] 27)
    have y3 := ((x3.next b1).alloc (.cells #[.int .i64 op, .iface T pv] 114)).alloc (.cells #[.int .i64 0, .int .i64 0, .bool true, .slice none 0 0] 27)
    have y4 := (Box.new w1 #[.int .i64 op, .iface T pv] 114).alloc (.cells #[.int .i64 0, .int .i64 0, .bool true, .slice none 0 0] 27)
    have y5 := Box.new (w1.alloc (.cells #[.int .i64 op, .iface T pv] 114)) #[.int .i64 0, .int .i64 0, .bool true, .slice none 0 0] 27
    simp only [World.size_alloc] at y5
    have hbb := x4.trans (b1.mono x4.size)
    have hl3 := (x3.next b1).lt
    rw [← HCA.out] at y1 y2
    exact ⟨y1, y2, y3, y4, y5, (hbb.alloc hbb.size _).alloc (by have := hbb.size; simp; omega) _, by omega, none, 0, rfl, .inl ⟨rfl, rfl, rfl⟩⟩
  have HST0 := Lib.hid hst0
  clear hst0 b1 H3 HM
  have hcA : ((w1.alloc (.cells #[.int .i64 op, .iface T pv] 114)).alloc (.cells #[.int .i64 0, .int .i64 0, .bool true, .slice none 0 0] 27)).cell? ⟨w.heap.size, 3, none⟩ = some (.slice (some ⟨g, 0, none⟩) vs.length gc) := HST0.out.ba.cell 3 _ (by rw [HCA.out]; rfl)
  go_wp2_with fail
  generalize ((w1.alloc (.cells #[.int .i64 op, .iface T pv] 114)).alloc (.cells #[.int .i64 0, .int .i64 0, .bool true, .slice none 0 0] 27)) = W0 at *
  clear hcA
  go_loopw [17] (fun iv wr => ∃ (i : Nat) (sv : Value) (sel : List V), i ≤ vs.length ∧ iv = .int .i64 i ∧ Hid (sel = (vs.take i).filter (fitsV op rv)) ∧ ChSt w w.heap.size (w.heap.size + 1) (w.heap.size + 1 + 1) w1.heap.size (w1.heap.size + 1) ca ca #[.int .i64 op, .iface T pv] wr sv sel) (fun iv _ => vs.length - (intOf iv).toNat)
  case atStart => exact ⟨0, _, [], Nat.zero_le _, rfl, (show _ = _ by simp), HST0.out⟩
  case round =>
    obtain ⟨i, sv, sel, hi, rfl, HS, hst⟩ := hrel
    have HST := Lib.hid hst
    clear hst
    by_cases hlt : i < vs.length
    · have hlti : (i : Int) < (vs.length : Int) := by omega
      have hvi : vs[i]? = some vs[i] := List.getElem?_eq_getElem hlt
      have hcv := (cell_below (o := i) HST.out.bel hgl).trans (HC.out i _ hvi)
      have ck0 := HST.out.bk.cell 0 _ rfl
      have ck1 := HST.out.bk.cell 1 _ rfl
      have hf := HF.out wr _ (List.getElem_mem hlt)
      have hstep : vs.take (i + 1) = vs.take i ++ [vs[i]] := by rw [List.take_add_one, hvi]; rfl
      have HV2 := Lib.hid hstep
      clear hvi hstep
      generalize vs[i] = x at *
      obtain ⟨Tx, px, hx⟩ := val_iface x
      rw [hx] at hcv hf
      have HX := Lib.hid hx
      clear hx
      have hsl : sel.length ≤ i := by
        rw [HS.out]
        exact Nat.le_trans (List.length_filter_le _ _) (by rw [List.length_take]; omega)
      cases hr : fitsV op rv x with
      | false =>
        rw [hr] at hf
        have HFX := Lib.hid hf
        have HR := Lib.hid hr
        clear hf hr
        go_wp2_with fail
        refine HFX.out.mono ?_
        rintro e w2 ⟨rfl, b2⟩
        go_wp2_with fail
        go_roundw
        case rel =>
          refine ⟨i + 1, sv, sel, by omega, by go_num, ?_, HST.out.next b2⟩
          show _ = _
          rw [HV2.out, List.filter_append, HS.out]
          simp [HR.out]
        case measure => simp [intOf]; omega
      | true =>
        rw [hr] at hf
        have HFX := Lib.hid hf
        have HR := Lib.hid hr
        clear hf hr
        go_wp2_with fail
        refine HFX.out.mono ?_
        rintro e w2 ⟨rfl, b2⟩
        have hst2 := HST.out.next b2
        obtain ⟨ao, cc, rfl, g', c', W', hrun, hc3, hf3, hst3⟩ := hst2.push (by omega) x
        rw [HX.out] at hrun
        have hfF := hst2.bf.cell 3 _ (by rw [HCA.out]; rfl)
        have hoO := hst2.bo.cell 3 _ rfl
        have hcv2 := (cell_below (o := i) hst2.bel hgl).trans ((cell_below (o := i) HST.out.bel hgl).symm.trans hcv)
        have hOl := hst2.bo.lt
        have H2 := Lib.hid hst3
        clear hst2 hst3 b2 HFX hcv
        have hrun2 : (Builtin.append_ #[25, 25] 25 #[.slice ao sel.length cc, .slice (some ⟨w2.heap.size, 0, none⟩) 1 1]).run Tryz.prog (w2.alloc (.cells #[.iface Tx px] 35)).drew = .ok (.slice (some ⟨g', 0, none⟩) (sel.length + 1) c') W' := hrun
        have hfFd : w2.drew.cell? ⟨w.heap.size + 1, 3, none⟩ = some (.slice (some ⟨g, 0, none⟩) vs.length gc) := hfF
        have hoOd : w2.drew.cell? ⟨w1.heap.size + 1, 3, none⟩ = some (.slice ao sel.length cc) := hoO
        have hcvd : w2.drew.cell? ⟨g, i, none⟩ = some (.iface Tx px) := hcv2
        clear hrun
        have hF2 : w.heap.size + 1 < w2.heap.size := by have := H2.out.ord; omega
        have hg2 : g < w2.heap.size := by have := H2.out.ord; omega
        go_wp2_with fail
        go_region_law (refine UK.step_append_run2 hrun2 rfl rfl rfl (by simp [Act.eval]) (by simp [Act.eval]) ?_)
        all_goals
          clear hrun2 hfFd hoOd hcvd
          go_wp2_with fail
          go_roundw
          case rel =>
            refine ⟨i + 1, _, sel ++ [x], by omega, by go_num, ?_, H2.out⟩
            show _ = _
            rw [HV2.out, List.filter_append, HS.out]
            simp [HR.out]
          case measure => simp [intOf]; omega
    · have hge : (vs.length : Int) ≤ (i : Int) := by omega
      have hse : sel = vs.filter (fitsV op rv) := by rw [HS.out, List.take_of_length_le (by omega)]
      obtain ⟨ao, cc, rfl, _⟩ := HST.out.is
      have o0 := HST.out.bo.cell 0 _ rfl
      have o1 := HST.out.bo.cell 1 _ rfl
      have o2 := HST.out.bo.cell 2 _ rfl
      have o3 := HST.out.bo.cell 3 _ rfl
      have y0 := HST.out.br.cell 0 _ rfl
      have y1 := HST.out.br.cell 1 _ rfl
      have y2 := HST.out.br.cell 2 _ rfl
      have y3 := HST.out.br.cell 3 _ rfl
      have z0 := HST.out.br.free 0
      have z1 := HST.out.br.free 1
      have z2 := HST.out.br.free 2
      have z3 := HST.out.br.free 3
      have HSE := Lib.hid hse
      clear hse
      go_wp2_with fail
      refine bodyPost_ret (UK.box_ret rfl _ (Box.fill4 HST.out.br _ _ _ _) rfl Tryz.underlying27 rfl arg_size) rfl ?_
      refine ⟨ao, cc, by rw [← HSE.out], ?_⟩
      have hb := HST.out.bel
      exact (((hb.setCell (by show _ ≤ w.heap.size + 1 + 1; omega) _).setCell (by show _ ≤ w.heap.size + 1 + 1; omega) _).setCell (by show _ ≤ w.heap.size + 1 + 1; omega) _).setCell (by show _ ≤ w.heap.size + 1 + 1; omega) _
end Go.Proofs.YteelmbpmmobpjaaGreatDoor
