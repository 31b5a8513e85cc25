/-
  The statements' areas as arguments.
-/
import Derived.Test.YteelmbpmmobpjaaGreatDoorValE
namespace Go.Proofs.YteelmbpmmobpjaaGreatDoor
open Go.RowKit
open UK (str BytesAt nth Only Row Box)
/-- a slice of plain data that came in -/
structure PlSl (W : World) (s : Value) (ps : List (Int × Int × List UInt8)) : Prop where
  is : ∃ ao c, s = .slice ao ps.length c ∧ ∀ (i : Nat) p, ps[i]? = some p → ∃ g o, ao = some ⟨g, o, none⟩ ∧ g < W.heap.size ∧ W.cell? ⟨g, o + i * 3, none⟩ = some (.int .i64 p.1) ∧ W.cell? ⟨g, o + i * 3 + 1, none⟩ = some (.int .i64 p.2.1) ∧ W.cell? ⟨g, o + i * 3 + 2, none⟩ = some (.string (str p.2.2))
theorem PlSl.next {W W' : World} {s : Value} {ps : List (Int × Int × List UInt8)} (h : PlSl W s ps) (hb : Below W.heap.size W W') : PlSl W' s ps := by
  obtain ⟨ao, c, h1, h2⟩ := h.is
  refine ⟨ao, c, h1, fun i p hi => ?_⟩
  obtain ⟨g, o, h3, h4, h5, h6, h7⟩ := h2 i p hi
  exact ⟨g, o, h3, Nat.lt_of_lt_of_le h4 hb.size, (cell_below hb h4).trans h5, (cell_below hb h4).trans h6, (cell_below hb h4).trans h7⟩
def ofP (p : Int × Int × List UInt8) : V := V.of p.1 p.2.1 (p.2.2.take 40)
/-- how many nothings fill up n values to whole rows of c -/
def stepsN (c n : Nat) : Nat := if n = 0 then c else (c - n % c) % c
def padL (c : Nat) (l : List V) : List V := l ++ List.replicate (stepsN c l.length) V.blank
theorem steps_more {c n k : Nat} (h1 : 1 ≤ c) (h6 : c ≤ 6) (hk : k < stepsN c n) : n + k = 0 ∨ 0 < (n + k) % c := by
  have hc : c = 1 ∨ c = 2 ∨ c = 3 ∨ c = 4 ∨ c = 5 ∨ c = 6 := by omega
  unfold stepsN at hk
  rcases hc with rfl | rfl | rfl | rfl | rfl | rfl <;> split at hk <;> omega
theorem steps_done {c n : Nat} (h1 : 1 ≤ c) (h6 : c ≤ 6) : 0 < n + stepsN c n ∧ (n + stepsN c n) % c = 0 := by
  have hc : c = 1 ∨ c = 2 ∨ c = 3 ∨ c = 4 ∨ c = 5 ∨ c = 6 := by omega
  unfold stepsN
  rcases hc with rfl | rfl | rfl | rfl | rfl | rfl <;> split <;> omega
theorem steps_le {c n : Nat} (h1 : 1 ≤ c) (h6 : c ≤ 6) : stepsN c n ≤ 6 := by
  unfold stepsN
  split
  · omega
  · have := Nat.mod_lt (c - n % c) h1
    omega
/-- how many columns -/
def colsN (c : Int) : Nat := (min (max c 1) 6).toNat
def firstL (ps : List (Int × Int × List UInt8)) : List V := (ps.take 24).map ofP
def argOf (one : Bool) (cols : Int) (ps : List (Int × Int × List UInt8)) : Ar :=
  if one then ⟨1, 1, false, [((firstL ps) ++ [V.blank]).headD V.blank]⟩
  else ⟨(((padL (colsN cols) (firstL ps)).length / colsN cols : Nat) : Int), colsN cols, true, padL (colsN cols) (firstL ps)⟩
def vals (l : List V) : List Value := l.map V.val
theorem vals_length (l : List V) : (vals l).length = l.length := by simp [vals]
set_option maxRecDepth 100000 in
/-- a value more -/
theorem vals_push {W : World} {g c : Nat} {vs : List V} (h : Row W g c (vals vs)) (hl : vs.length + 1 ≤ 100000000) (v : V) :
    ∃ g' c' W', (Builtin.append_ #[25, 25] 25 #[.slice (some ⟨g, 0, none⟩) vs.length c, .slice (some ⟨W.heap.size, 0, none⟩) 1 1]).run Tryz.prog (W.alloc (.cells #[v.val] 35)) = .ok (.slice (some ⟨g', 0, none⟩) (vs.length + 1) c') W' ∧ Row W' g' c' (vals (vs ++ [v])) ∧ (g' = g ∨ W.heap.size ≤ g') ∧ Only g' W W' := by
  obtain ⟨g', c', W', e, r, o, hg⟩ := UK.push_one (P := Tryz.prog) (t := 25) (ty := 25) Tryz.underlying25 (i := Tryz.t35) rfl rfl rfl (show (16 : Nat) ≤ 16 by omega) rfl (.inr ⟨g, rfl, h⟩) v.val (by cases v <;> rfl) (by have := vals_length vs; omega)
  rw [vals_length] at e
  refine ⟨g', c', W', e, ?_, ?_, o⟩
  · unfold vals at *
    rw [List.map_append]
    exact r
  · rcases hg with hg | hg
    · exact .inl (congrArg Addr.block (Option.some.inj hg)).symm
    · exact .inr hg
theorem firstL_len (ps : List (Int × Int × List UInt8)) : (firstL ps).length ≤ 24 := by unfold firstL; rw [List.length_map, List.length_take]; omega
theorem firstL_take (ps : List (Int × Int × List UInt8)) (i : Nat) (p : Int × Int × List UInt8) (h : ps[i]? = some p) (hi : i < 24) : (firstL ps).take (i + 1) = (firstL ps).take i ++ [ofP p] := by
  have e : (firstL ps)[i]? = some (ofP p) := by
    unfold firstL
    rw [List.getElem?_map, List.getElem?_take, if_pos hi, h]
    rfl
  rw [List.take_add_one, e]
  rfl
theorem cols_le (c : Int) : 1 ≤ colsN c ∧ colsN c ≤ 6 ∧ ((colsN c : Nat) : Int) = min (max c 1) 6 := by unfold colsN; omega
theorem row_nil {W : World} {g : Nat} {cs : Array Value} (h : Box W g cs) : Row W g 0 (vals []) := ⟨h.lt, Nat.zero_le _, fun j hj => by simp [vals] at hj, fun j hj => by omega⟩
theorem vsl_far4 {w : World} {R g c : Nat} {vs : List V} (h : VSl w.heap.size w (.slice (some ⟨g, 0, none⟩) vs.length c) vs) (hg : g ≠ R) (a0 a1 a2 a3 : Value) :
    VSl ((((w.setCell ⟨R, 0, none⟩ a0).setCell ⟨R, 1, none⟩ a1).setCell ⟨R, 2, none⟩ a2).setCell ⟨R, 3, none⟩ a3).heap.size ((((w.setCell ⟨R, 0, none⟩ a0).setCell ⟨R, 1, none⟩ a1).setCell ⟨R, 2, none⟩ a2).setCell ⟨R, 3, none⟩ a3) (.slice (some ⟨g, 0, none⟩) vs.length c) vs := by
  obtain ⟨⟨g', c', he, hg', hc⟩, _⟩ := h
  obtain ⟨rfl, rfl⟩ : g = g' ∧ c = c' := by
    simp only [Value.slice.injEq, Option.some.injEq, Addr.mk.injEq] at he
    exact ⟨he.1.1, he.2.2⟩
  refine ⟨⟨g, c, rfl, by simpa using hg', fun j v hj => ?_⟩, Nat.le_refl _⟩
  have e : ((((w.setCell ⟨R, 0, none⟩ a0).setCell ⟨R, 1, none⟩ a1).setCell ⟨R, 2, none⟩ a2).setCell ⟨R, 3, none⟩ a3).heap[g]? = w.heap[g]? := by
    rw [Below.heap_setCell _ ⟨R, 3, none⟩ _ _ hg, Below.heap_setCell _ ⟨R, 2, none⟩ _ _ hg, Below.heap_setCell _ ⟨R, 1, none⟩ _ _ hg, Below.heap_setCell _ ⟨R, 0, none⟩ _ _ hg]
  exact (World.cell?_of_block (a := ⟨g, j, none⟩) e).trans (hc j v hj)
def lenOf : Value → Nat
  | .slice _ n _ => n
  | _ => 0
/-- a slice in a block that was not there -/
def NewSl (w : World) (t : Value) : Prop := ∃ b n c, t = .slice (some ⟨b, 0, none⟩) n c ∧ w.heap.size ≤ b
structure ArgSt (W0 wr : World) (A R : Nat) (ca cr : Array Value) (lv : Value) (vs : List V) : Prop where
  ba : Box wr A ca
  br : Box wr R cr
  bel : Below W0.heap.size W0 wr
  is : ∃ g c, lv = .slice (some ⟨g, 0, none⟩) vs.length c ∧ Row wr g c (vals vs) ∧ g ≠ A ∧ g ≠ R ∧ W0.heap.size ≤ g
set_option maxHeartbeats 4000000 in
set_option maxRecDepth 100000 in
theorem arg_any {w : World} (one : Bool) (cols : Int) {sl : Value} {ps : List (Int × Int × List UInt8)} (hE : Env w) (hp : PlSl w sl ps) (hps : ps.length ≤ 9223372036854775807) :
    Calls Tryz.prog 7 #[.agg #[.bool one, .int .i64 cols, sl]] w fun e w' => ∃ t, e = .returned (ArV (argOf one cols ps) t) ∧ VSl w'.heap.size w' t (argOf one cols ps).vs ∧ Below w.heap.size w w' ∧ NewSl w t := by
  obtain ⟨q1, q2, q3⟩ := cols_le cols
  obtain ⟨ao, sc, rfl, hcell⟩ := hp.is
  have HE := Lib.hid hE
  have HC := Lib.hid hcell
  have HQ := Lib.hid q3
  clear hp hcell hE q3
  go_enter Tryz.func7, Tryz.ntmps7
  go_wp2
  rw [← HQ.out]
  have hst0 : ArgSt w (((w.alloc (.cells #[.bool one, .int .i64 cols, .slice ao ps.length sc] 24)).alloc (.cells #[.int .i64 0, .int .i64 0, .bool false, .slice none 0 0] 27)).alloc (.cells #[] 35)) w.heap.size (w.heap.size + 1) #[.bool one, .int .i64 cols, .slice ao ps.length sc] #[.int .i64 0, .int .i64 0, .bool false, .slice none 0 0] (.slice (some ⟨w.heap.size + 1 + 1, 0, none⟩) 0 0) ((firstL ps).take 0) := by
    have b1 := ((Box.new w #[.bool one, .int .i64 cols, .slice ao ps.length sc] 24).alloc (.cells #[.int .i64 0, .int .i64 0, .bool false, .slice none 0 0] 27)).alloc (.cells #[] 35)
    have b2 := (Box.new (w.alloc (.cells #[.bool one, .int .i64 cols, .slice ao ps.length sc] 24)) #[.int .i64 0, .int .i64 0, .bool false, .slice none 0 0] 27).alloc (.cells #[] 35)
    have b3 := Box.new ((w.alloc (.cells #[.bool one, .int .i64 cols, .slice ao ps.length sc] 24)).alloc (.cells #[.int .i64 0, .int .i64 0, .bool false, .slice none 0 0] 27)) #[] 35
    simp only [World.size_alloc] at b1 b2 b3
    exact ⟨b1, b2, (((Below.refl _ _).alloc (Nat.le_refl _) _).alloc (by simp) _).alloc (by simp; omega) _, _, 0, by simp, row_nil b3, by omega, by omega, by omega⟩
  have HST0 := Lib.hid hst0
  clear hst0
  generalize (((w.alloc (.cells #[.bool one, .int .i64 cols, .slice ao ps.length sc] 24)).alloc (.cells #[.int .i64 0, .int .i64 0, .bool false, .slice none 0 0] 27)).alloc (.cells #[] 35)) = W0 at *
  have HF : Hid (argOf one cols ps = if one then ⟨1, 1, false, [((firstL ps) ++ [V.blank]).headD V.blank]⟩ else ⟨(((padL (colsN cols) (firstL ps)).length / colsN cols : Nat) : Int), colsN cols, true, padL (colsN cols) (firstL ps)⟩) := rfl
  generalize colsN cols = cN at *
  go_loopw [4, 5] (fun lv iv wr => ∃ i : Nat, i ≤ ps.length ∧ i ≤ 24 ∧ iv = .int .i64 i ∧ ArgSt w wr w.heap.size (w.heap.size + 1) #[.bool one, .int .i64 cols, .slice ao ps.length sc] #[.int .i64 0, .int .i64 0, .bool false, .slice none 0 0] lv ((firstL ps).take i)) (fun _ iv _ => 24 - (intOf iv).toNat)
  case atStart => exact ⟨0, Nat.zero_le _, by omega, rfl, HST0.out⟩
  case round =>
    obtain ⟨i, hi1, hi2, rfl, hst⟩ := hrel
    obtain ⟨cur, hcur⟩ : ∃ cur, cur = (firstL ps).take i := ⟨_, rfl⟩
    rw [← hcur] at hst
    have hcl : cur.length ≤ 24 := by rw [hcur, List.length_take]; omega
    have HCUR := Lib.hid hcur
    clear hcur
    have hA := hst.ba.cell 2 _ rfl
    have hltA := hst.ba.lt
    obtain ⟨g, gc, rfl, hrow, hgA, hgR, hgw⟩ := hst.is
    by_cases hmore : i < ps.length ∧ i < 24
    · obtain ⟨hm1, hm2⟩ := hmore
      have hm1i : (i : Int) < (ps.length : Int) := by omega
      have hm2i : (i : Int) < 24 := by omega
      have hpi : ps[i]? = some ps[i] := List.getElem?_eq_getElem hm1
      obtain ⟨pg, po, rfl, hpg, c0, c1, c2⟩ := HC.out i _ hpi
      have d0 := (cell_below hst.bel hpg).trans c0
      have d1 := (cell_below hst.bel hpg).trans c1
      have d2 := (cell_below hst.bel hpg).trans c2
      have hstep := firstL_take ps i _ hpi hm2
      have HS := Lib.hid (And.intro hstep (And.intro hst hrow))
      clear c0 c1 c2 hpi hstep hst hrow
      generalize ps[i] = p at *
      obtain ⟨pk, pn, psx⟩ := p
      dsimp only at d0 d1 d2
      have HCUT := Lib.hid (fun w => cut40_any (w := w) psx 40)
      have hbx : Below wr.heap.size wr (wr.alloc (.cells #[.int .i64 pk, .int .i64 pn, .string (str (psx.take 40))] 46)) := (Below.refl _ _).alloc (Nat.le_refl _) _
      have hof := of_any (w := wr.alloc (.cells #[.int .i64 pk, .int .i64 pn, .string (str (psx.take 40))] 46)) pk pn (psx.take 40) (by rw [List.length_take]; omega) ((HE.out.next HS.out.2.1.bel).next hbx)
      obtain ⟨T, pv, hv⟩ := val_iface (V.of pk pn (psx.take 40))
      rw [hv] at hof
      have HOF := Lib.hid hof
      have HBX := Lib.hid hbx
      have HV := Lib.hid hv
      clear hof hbx hv
      go_wp2_with fail
      refine (HCUT.out _).mono ?_
      rintro e w2 ⟨rfl, rfl⟩
      go_wp2_with fail
      refine HOF.out.mono ?_
      rintro e w2 ⟨rfl, b2⟩
      have hb2 := HBX.out.trans (b2.mono HBX.out.size)
      have hrow2 := HS.out.2.2.below hb2 HS.out.2.2.lt
      obtain ⟨g', c', w3, hrun, hrow3, hg3, honly⟩ := vals_push hrow2 (by omega) (V.of pk pn (psx.take 40))
      rw [HV.out] at hrun
      have HN := Lib.hid (And.intro hrow3 (And.intro hg3 (And.intro honly hb2)))
      clear hrow2 hrow3 hg3 honly hb2 b2 HOF HCUT
      go_wp2_with (at_builtin; refine UK.wpList_append_run hrun rfl rfl rfl rfl rfl ?_)
      go_roundw
      case rel =>
        obtain ⟨hrow3, hg3, honly, hb2⟩ := HN.out
        obtain ⟨hstep, hst, _⟩ := HS.out
        have hsz := hb2.size
        have e1 : (firstL ps).take (i + 1) = cur ++ [V.of pk pn (psx.take 40)] := by rw [HCUR.out]; exact hstep
        have hgne : g' ≠ w.heap.size ∧ g' ≠ w.heap.size + 1 ∧ w.heap.size ≤ g' := by
          have := hst.br.lt
          rcases hg3 with h | h
          · exact ⟨by omega, by omega, by omega⟩
          · exact ⟨by omega, by omega, by omega⟩
        refine ⟨i + 1, by omega, by omega, by go_num, ⟨(hst.ba.next hb2).only honly hgne.1.symm, (hst.br.next hb2).only honly hgne.2.1.symm, ?_, g', c', ?_, ?_, hgne⟩⟩
        · exact (hst.bel.trans (hb2.mono hst.bel.size)).trans (honly.below (by have := hst.bel.size; omega) hgne.2.2)
        · rw [e1, List.length_append]; rfl
        · rw [e1]; exact hrow3
      case measure => simp [intOf]; omega
    · have HS := Lib.hid (And.intro hst hrow)
      clear hst hrow
      have hfin : cur = firstL ps := by
        rw [HCUR.out]
        apply List.take_of_length_le
        unfold firstL
        rw [List.length_map, List.length_take]
        omega
      subst hfin
      clear HCUR
      have hone := HS.out.1.ba.cell 0 _ rfl
      have hltR := HS.out.1.br.lt
      generalize firstL ps = fl at *
      have hex : ((ps.length : Int) ≤ (i : Int)) ∨ ((i : Int) < (ps.length : Int) ∧ 24 ≤ (i : Int)) := by omega
      have HOB : Hid (∀ w', Env w' → Calls Tryz.prog 13 #[.agg #[.int .i64 0, .int .i64 0, .string (str [])]] w' fun e w'' => e = .returned (.iface 90 (.agg #[])) ∧ Below w'.heap.size w' w'') := fun w' he => of_any 0 0 [] (by simp) he
      clear hmore
      cases one with
      | true =>
        obtain ⟨h0, tl, hht⟩ : ∃ h0 tl, fl ++ [V.blank] = h0 :: tl := by
          cases fl with
          | nil => exact ⟨_, _, rfl⟩
          | cons x y => exact ⟨_, _, rfl⟩
        have hob := HOB.out wr (HE.out.next HS.out.1.bel)
        have HOX := Lib.hid hob
        have HH := Lib.hid hht
        clear hob hht
        have HO1 := Lib.hid (fun w => one_any (w := w) h0)
        rcases hex with hex | ⟨hex1, hex2⟩
        all_goals
          go_wp2_with fail
          refine HOX.out.mono ?_
          rintro e w2 ⟨rfl, b2⟩
          have hrow2 := HS.out.2.below b2 HS.out.2.lt
          obtain ⟨g', c', w3, hrun, hrow3, hg3, honly⟩ := vals_push hrow2 (by omega) V.blank
          rw [HH.out] at hrow3
          have h00 := hrow3.at' 0 h0.val rfl
          have HN := Lib.hid (And.intro hrow3 (And.intro hg3 (And.intro honly b2)))
          clear hrow2 hrow3 hg3 honly b2
          go_wp2_with (at_builtin; refine UK.wpList_append_run hrun rfl rfl rfl rfl rfl ?_)
          refine (HO1.out _).mono ?_
          rintro e w4 ⟨vg, vc, rfl, hvn, hv4, b4⟩
          unfold ArV
          have hR4 : Box w4 (w.heap.size + 1) #[.int .i64 0, .int .i64 0, .bool false, .slice none 0 0] := by
            obtain ⟨_, hg3, honly, b2⟩ := HN.out
            have hsz := b2.size
            refine ((HS.out.1.br.next b2).only honly ?_).next b4
            rcases hg3 with h | h <;> omega
          have hB4 : Below w.heap.size w w4 := by
            obtain ⟨_, hg3, honly, b2⟩ := HN.out
            have hs0 := HS.out.1.bel
            have hsz0 := hs0.size
            have hsz := b2.size
            have h3 := (hs0.trans (b2.mono hsz0)).trans (honly.below (n := w.heap.size) (by omega) (by rcases hg3 with h | h <;> omega))
            exact h3.trans (b4.mono h3.size)
          have y0 := hR4.cell 0 _ rfl
          have y1 := hR4.cell 1 _ rfl
          have y2 := hR4.cell 2 _ rfl
          have y3 := hR4.cell 3 _ rfl
          have z0 := hR4.free 0
          have z1 := hR4.free 1
          have z2 := hR4.free 2
          have z3 := hR4.free 3
          have hgv : vg ≠ w.heap.size + 1 ∧ w.heap.size ≤ vg := by
            obtain ⟨_, hg3, honly, b2⟩ := HN.out
            have := b2.size
            have := honly.size
            have := HS.out.1.bel.size
            exact ⟨by omega, by omega⟩
          have HR4 := Lib.hid (And.intro hR4 (And.intro hB4 (And.intro hv4 hgv)))
          clear hR4 hB4 hv4 hgv b4 hvn
          go_wp2
          obtain ⟨hR4, hB4, hv4, hgv⟩ := HR4.out
          refine bodyPost_ret (UK.box_ret rfl _ (Box.fill4 hR4 _ _ _ _) rfl Tryz.underlying27 rfl arg_size) rfl ?_
          have hfo : argOf true cols ps = ⟨1, 1, false, [h0]⟩ := by
            have := HF.out
            rw [if_pos trivial, HH.out] at this
            exact this
          rw [hfo]
          refine ⟨_, rfl, ?_, (((hB4.setCell (Nat.le_succ _) _).setCell (Nat.le_succ _) _).setCell (Nat.le_succ _) _).setCell (Nat.le_succ _) _, _, _, _, rfl, hgv.2⟩
          exact vsl_far4 (vs := [h0]) hv4 hgv.1 _ _ _ _
      | false =>
        have hc1 : (1 : Int) ≤ (cN : Int) := by omega
        have hc6 : (cN : Int) ≤ 6 := by omega
        have HST := Lib.hid HS.out.1
        have HHU := Lib.hid (And.intro q1 q2)
        clear HS HST0
        rcases hex with hex | ⟨hex1, hex2⟩
        all_goals
          go_wp2_with fail
          go_loopw [4] (fun lv wr2 => ∃ (k : Nat) (L : List V), k ≤ stepsN cN fl.length ∧ Hid (L = fl ++ List.replicate k V.blank) ∧ ArgSt w wr2 w.heap.size (w.heap.size + 1) #[.bool false, .int .i64 cols, .slice ao ps.length sc] #[.int .i64 0, .int .i64 0, .bool false, .slice none 0 0] lv L) (fun lv _ => 40 - lenOf lv)
          case atStart => exact ⟨0, fl, Nat.zero_le _, (show _ = _ by simp), HST.out⟩
          case round =>
            obtain ⟨k, L, hk, HL, hst2⟩ := hrel
            obtain ⟨g2, gc2, rfl, hrow2, hgA2, hgR2, hgw2⟩ := hst2.is
            have hLl : L.length = fl.length + k := by rw [HL.out, List.length_append, List.length_replicate]
            have hL30 : L.length ≤ 30 := by have := steps_le (n := fl.length) q1 q2; omega
            have HS2 := Lib.hid (And.intro hst2 (And.intro hrow2 (And.intro hgA2 (And.intro hgR2 hgw2))))
            clear hst2 hrow2 hgA2 hgR2 hgw2
            have hcN0 : ¬ cN = 0 := by omega
            by_cases hks : k < stepsN cN fl.length
            · have hmm := steps_more q1 q2 hks
              rw [← hLl] at hmm
              have hob := HOB.out wr (HE.out.next HS2.out.1.bel)
              have HOX := Lib.hid hob
              have HLL := Lib.hid hLl
              clear hob hLl
              have hcase : (L.length = 0 ∨ (¬ L.length = 0 ∧ (0 : Int) < (L.length : Int) % (cN : Int))) := by
                rcases hmm with h | h
                · exact .inl h
                · rcases Nat.eq_zero_or_pos L.length with h0 | h0
                  · exact .inl h0
                  · refine .inr ⟨by omega, ?_⟩
                    rw [← Int.natCast_emod]
                    omega
              clear hmm
              rcases hcase with hL0 | ⟨hL0, hLm⟩
              · obtain rfl : L = [] := List.eq_nil_of_length_eq_zero hL0
                clear hL0
                go_wp2_with fail
                refine HOX.out.mono ?_
                rintro e w2 ⟨rfl, b2⟩
                have hrow2 := HS2.out.2.1.below b2 HS2.out.2.1.lt
                obtain ⟨g', c', w3, hrun, hrow3, hg3, honly⟩ := vals_push hrow2 (by simp) V.blank
                have HN := Lib.hid (And.intro hrow3 (And.intro hg3 (And.intro honly b2)))
                clear hrow2 hrow3 hg3 honly b2 HOX
                go_wp2_with (at_builtin; refine UK.wpList_append_run hrun rfl rfl rfl rfl rfl ?_)
                go_roundw
                case rel =>
                  obtain ⟨hrow3, hg3, honly, b2⟩ := HN.out
                  obtain ⟨hst, _, hgA, hgR, hgw⟩ := HS2.out
                  have hsz := b2.size
                  have hgne : g' ≠ w.heap.size ∧ g' ≠ w.heap.size + 1 ∧ w.heap.size ≤ g' := by
                    have := hst.br.lt
                    rcases hg3 with h | h
                    · exact ⟨by omega, by omega, by omega⟩
                    · exact ⟨by omega, by omega, by omega⟩
                  refine ⟨k + 1, ([] : List V) ++ [V.blank], by omega, ?_, ⟨(hst.ba.next b2).only honly hgne.1.symm, (hst.br.next b2).only honly hgne.2.1.symm, ?_, g', c', by simp, hrow3, hgne⟩⟩
                  · show _ = _
                    have h0 := HL.out
                    exact (congrArg (fun l => l ++ [V.blank]) h0).trans (by rw [List.append_assoc, ← List.replicate_succ'])
                  · exact (hst.bel.trans (b2.mono hst.bel.size)).trans (honly.below (by have := hst.bel.size; omega) hgne.2.2)
                case measure => first | (simp [lenOf]; done) | (simp [lenOf]; omega)
              · have hL1 : ¬ (L.length : Int) = 0 := by omega
                go_wp2_with fail
                refine HOX.out.mono ?_
                rintro e w2 ⟨rfl, b2⟩
                have hrow2 := HS2.out.2.1.below b2 HS2.out.2.1.lt
                obtain ⟨g', c', w3, hrun, hrow3, hg3, honly⟩ := vals_push hrow2 (by omega) V.blank
                have HN := Lib.hid (And.intro hrow3 (And.intro hg3 (And.intro honly b2)))
                clear hrow2 hrow3 hg3 honly b2 HOX
                go_wp2_with (at_builtin; refine UK.wpList_append_run hrun rfl rfl rfl rfl rfl ?_)
                go_roundw
                case rel =>
                  obtain ⟨hrow3, hg3, honly, b2⟩ := HN.out
                  obtain ⟨hst, _, hgA, hgR, hgw⟩ := HS2.out
                  have hsz := b2.size
                  have hgne : g' ≠ w.heap.size ∧ g' ≠ w.heap.size + 1 ∧ w.heap.size ≤ g' := by
                    have := hst.br.lt
                    rcases hg3 with h | h
                    · exact ⟨by omega, by omega, by omega⟩
                    · exact ⟨by omega, by omega, by omega⟩
                  refine ⟨k + 1, L ++ [V.blank], by omega, ?_, ⟨(hst.ba.next b2).only honly hgne.1.symm, (hst.br.next b2).only honly hgne.2.1.symm, ?_, g', c', by simp, hrow3, hgne⟩⟩
                  · show _ = _
                    have h0 := HL.out
                    exact (congrArg (fun l => l ++ [V.blank]) h0).trans (by rw [List.append_assoc, ← List.replicate_succ'])
                  · exact (hst.bel.trans (b2.mono hst.bel.size)).trans (honly.below (by have := hst.bel.size; omega) hgne.2.2)
                case measure => first | (simp [lenOf]; done) | (simp [lenOf]; omega)
            · have hke : k = stepsN cN fl.length := by omega
              have hd := steps_done (n := fl.length) q1 q2
              rw [← hke, ← hLl] at hd
              have hL0 : ¬ L.length = 0 := by omega
              have hL0i : ¬ (L.length : Int) = 0 := by omega
              have hLm : (L.length : Int) % (cN : Int) = 0 := by rw [← Int.natCast_emod]; omega
              have hfo : argOf false cols ps = ⟨((L.length / cN : Nat) : Int), cN, true, L⟩ := by
                have h1 := HF.out
                rw [if_neg (by simp)] at h1
                have h2 : padL cN fl = L := by unfold padL; rw [HL.out, hke]
                rw [h2] at h1
                exact h1
              have hR4 := HS2.out.1.br
              have y0 := hR4.cell 0 _ rfl
              have y1 := hR4.cell 1 _ rfl
              have y2 := hR4.cell 2 _ rfl
              have y3 := hR4.cell 3 _ rfl
              have z0 := hR4.free 0
              have z1 := hR4.free 1
              have z2 := hR4.free 2
              have z3 := hR4.free 3
              have HFO := Lib.hid hfo
              clear hd hke hfo hR4 hLl hks hk
              have hw : wrap64 ((L.length : Int) / (cN : Int)) = ((L.length / cN : Nat) : Int) := by
                have h1 : L.length / cN ≤ L.length := Nat.div_le_self _ _
                rw [← Int.natCast_ediv]
                generalize L.length / cN = qq at *
                exact IntWalk.wrap64_in (qq : Int) ⟨by omega, by omega⟩
              have HW := Lib.hid hw
              clear hw
              go_wp2_with fail
              obtain ⟨hst, hrow, hgA, hgR, hgw⟩ := HS2.out
              refine bodyPost_ret (UK.box_ret rfl _ (Box.fill4 hst.br _ _ _ _) rfl Tryz.underlying27 rfl arg_size) rfl ?_
              rw [HFO.out]
              refine ⟨.slice (some ⟨g2, 0, none⟩) L.length gc2, ?_, vsl_far4 ⟨⟨g2, gc2, rfl, hrow.lt, fun j v hj => hrow.at' j _ (by unfold vals; rw [List.getElem?_map, hj]; rfl)⟩, Nat.le_refl _⟩ hgR _ _ _ _, (((hst.bel.setCell (Nat.le_succ _) _).setCell (Nat.le_succ _) _).setCell (Nat.le_succ _) _).setCell (Nat.le_succ _) _, _, _, _, rfl, hgw⟩
              unfold ArV
              rw [← HW.out]
end Go.Proofs.YteelmbpmmobpjaaGreatDoor
