/-
  append to a row of structs of four cells each; the statements' list of areas as arguments.
-/
import Derived.Test.YteelmbpmmobpjaaGreatDoorValJ
namespace Go.Proofs.YteelmbpmmobpjaaGreatDoor
open Go.RowKit
open UK (str BytesAt nth Only Row Box)
namespace UK
/-- structs of four cells appended, whether there is room or not; the row may be nil -/
theorem push_four {P : Program} {t tx ty e : TypeId} {i : TypeInfo} {z : Value} (ht : P.underlying t = some (.slice e)) (hi : P.info? e = some i) (hz : i.zero = some z) (h1 : i.size = 4) (h16 : i.bytes ≤ 48) (hzs : z.cells.size = 4)
    {W : World} {ao : Option Addr} {c n k : Nat} {vs : List Value} (hn : vs.length = 4 * n) (h : (ao = none ∧ vs = [] ∧ c = 0) ∨ ∃ g, ao = some ⟨g, 0, none⟩ ∧ Row W g (4 * c) vs) {x : Value} {m : List Value} (hk : m.length = 4 * k) (hm0 : 0 < k) (hs : Src P 4 tx x k m W) (hlen : n + k ≤ 1000000000) :
    ∃ g' c' W', (Builtin.append_ #[t, tx] ty #[.slice ao n c, x]).run P W = .ok (.slice (some ⟨g', 0, none⟩) (n + k) c') W' ∧ Row W' g' (4 * c') (vs ++ m) ∧ ((ao = some ⟨g', 0, none⟩ ∧ Only g' W W') ∨ (g' = W.heap.size ∧ Below W.heap.size W W')) := by
  have hgrow : c < n + k → (Builtin.firstCells i.size n (.slice ao n c)).run P W.drew = .ok vs.toArray W.drew →
      ∃ g' c' W', (Builtin.append_ #[t, tx] ty #[.slice ao n c, x]).run P W = .ok (.slice (some ⟨g', 0, none⟩) (n + k) c') W' ∧ Row W' g' (4 * c') (vs ++ m) ∧ ((ao = some ⟨g', 0, none⟩ ∧ Only g' W W') ∨ (g' = W.heap.size ∧ Below W.heap.size W W')) := by
    intro hg hold
    have hfit : (n + k) * i.bytes ≤ 140737488355328 := Nat.le_trans (Nat.mul_le_mul hlen h16) (by decide)
    have hrun := run_append_grow_src (P := P) W t tx ty e i z ht hi hz ao n c vs hold x k m (by rw [h1]; exact hs) hg (by omega) (growslice_fits hg hfit)
    have hge := grownCap_ge W (n + k) c e
    have e1 := World.cell?_alloc_new W.drew ((vs ++ m).toArray ++ Builtin.zeroCells z.cells (grownCap W (n + k) c e - (n + k))) e
    have hvm : (vs ++ m).length = 4 * (n + k) := by rw [List.length_append]; omega
    refine ⟨W.heap.size, _, _, hrun, ⟨by simp, by omega, fun j hj => ?_, fun j hj => ⟨?_, World.frozen?_alloc_new W.drew _ _ j⟩⟩, .inr ⟨rfl, (Below.refl W.heap.size W).drew.alloc (Nat.le_refl _) _⟩⟩
    · refine Eq.trans (e1 j) ?_
      rw [Array.getElem?_append_left (by simp only [List.size_toArray]; exact hj), List.getElem?_toArray]
    · have hsz : ((vs ++ m).toArray ++ Builtin.zeroCells z.cells (grownCap W (n + k) c e - (n + k))).size = 4 * grownCap W (n + k) c e := by
        rw [Array.size_append, List.size_toArray, hvm, size_zeroCells, hzs]
        omega
      have e2 : (W.drew.alloc (.cells ((vs ++ m).toArray ++ Builtin.zeroCells z.cells (grownCap W (n + k) c e - (n + k))) e)).cell? ⟨W.heap.size, j, none⟩ = _ := e1 j
      rw [e2, Array.getElem?_eq_getElem (by rw [hsz]; exact hj)]
      rfl
  rcases h with ⟨rfl, rfl, rfl⟩ | ⟨g, rfl, h⟩
  · obtain rfl : n = 0 := by rw [List.length_nil] at hn; omega
    exact hgrow (by omega) (run_firstCells_none W.drew i.size 0 0 0)
  · have hle := h.le
    by_cases hf : n + k ≤ c
    · have hr := run_append_room_src (P := P) W t tx ty e i ht hi g 0 n c x k m (by rw [h1]; exact hs) hf
        (fun j hj => by rw [h1]; exact (h.there _ (by omega)).1) (fun j hj => by rw [h1]; exact (h.there _ (by omega)).2)
      rw [h1, Nat.zero_add, show n * 4 = vs.length by omega] at hr
      refine ⟨g, c, _, hr, h.setCells vs.length m (by omega) (vs ++ m) (by rw [List.length_append]; omega) (fun j hj => ?_) (fun j hj hc => ?_), .inl ⟨rfl, Only.setCells _ _ (Only.refl _ _)⟩⟩
      · rw [List.getElem?_append_right (by omega), Nat.add_sub_cancel_left]
      · rw [List.length_append] at hj
        exact ⟨by omega, by rw [List.getElem?_append_left (by omega)]⟩
    · exact hgrow (by omega) (run_firstCells_some W.drew i.size n ⟨g, 0, none⟩ n c vs (by rw [h1]; omega) (fun j v hj => by
        have hjl : j < vs.length := (List.getElem?_eq_some_iff.1 hj).1
        rw [add_mk0, Nat.zero_add]
        exact (h.holds j hjl).trans hj))
end UK
/-- an argument's four cells -/
def arCells (x : Ar × Value) : List Value := [.int .i64 x.1.rows, .int .i64 x.1.cols, .bool x.1.area, x.2]
def arFlat (l : List (Ar × Value)) : List Value := l.flatMap arCells
theorem arFlat_app (l m : List (Ar × Value)) : arFlat (l ++ m) = arFlat l ++ arFlat m := by unfold arFlat; rw [List.flatMap_append]
theorem arFlat_len : ∀ l : List (Ar × Value), (arFlat l).length = 4 * l.length
  | [] => rfl
  | t :: l => by
    have e : arFlat (t :: l) = arCells t ++ arFlat l := by unfold arFlat; rw [List.flatMap_cons]
    rw [e, List.length_append, arFlat_len l, List.length_cons]
    show 4 + _ = _
    omega
theorem arFlat_get : ∀ (l : List (Ar × Value)) (j : Nat) (x : Ar × Value), l[j]? = some x → (arFlat l)[j * 4]? = some (.int .i64 x.1.rows) ∧ (arFlat l)[j * 4 + 1]? = some (.int .i64 x.1.cols) ∧ (arFlat l)[j * 4 + 2]? = some (.bool x.1.area) ∧ (arFlat l)[j * 4 + 3]? = some x.2
  | [], _, _, h => by cases h
  | u :: l, 0, x, h => by
    obtain rfl : u = x := by simpa using h
    exact ⟨rfl, rfl, rfl, rfl⟩
  | u :: l, j + 1, x, h => by
    have ih := arFlat_get l j x (by simpa using h)
    have e : arFlat (u :: l) = arCells u ++ arFlat l := by unfold arFlat; rw [List.flatMap_cons]
    have get : ∀ i, i < 4 → (arFlat (u :: l))[(j + 1) * 4 + i]? = (arFlat l)[j * 4 + i]? := fun i hi => by
      rw [e, List.getElem?_append_right (by show 4 ≤ _; omega)]
      congr 1
      show (j + 1) * 4 + i - 4 = _
      omega
    have h0 := get 0 (by omega)
    rw [Nat.add_zero, Nat.add_zero] at h0
    exact ⟨h0.trans ih.1, (get 1 (by omega)).trans ih.2.1, (get 2 (by omega)).trans ih.2.2.1, (get 3 (by omega)).trans ih.2.2.2⟩
set_option maxRecDepth 100000 in
theorem push_arg {W : World} {g c : Nat} {L : List (Ar × Value)} (h : Row W g (4 * c) (arFlat L)) (hl : L.length ≤ 1000) (x : Ar × Value) (hx : ∃ b n k, x.2 = .slice (some ⟨b, 0, none⟩) n k) :
    ∃ g' c' W', (Builtin.append_ #[37, 37] 37 #[.slice (some ⟨g, 0, none⟩) L.length c, .slice (some ⟨W.heap.size, 0, none⟩) 1 1]).run Tryz.prog (W.alloc (.cells #[.int .i64 x.1.rows, .int .i64 x.1.cols, .bool x.1.area, x.2] 27)) = .ok (.slice (some ⟨g', 0, none⟩) (L.length + 1) c') W' ∧ Row W' g' (4 * c') (arFlat (L ++ [x])) ∧ Only g' W W' ∧ (g' = g ∨ W.heap.size ≤ g') := by
  obtain ⟨bx, nx, kx, hxe⟩ := hx
  have hsrc : Src Tryz.prog 4 37 (.slice (some ⟨W.heap.size, 0, none⟩) 1 1) 1 (arCells x) (W.alloc (.cells #[.int .i64 x.1.rows, .int .i64 x.1.cols, .bool x.1.area, x.2] 27)) := Src.ofSlice _ Tryz.underlying37 ⟨W.heap.size, 0, none⟩ 1 1 (arCells x) rfl (fun j u hj => by
    rw [UK.add_mk0, Nat.zero_add]
    refine (World.cell?_alloc_new W #[.int .i64 x.1.rows, .int .i64 x.1.cols, .bool x.1.area, x.2] 27 j).trans ?_
    rw [← hj]
    unfold arCells
    rw [← List.getElem?_toArray]) (fun u hu => by
    unfold arCells at hu
    simp only [List.mem_cons, List.not_mem_nil, or_false] at hu
    rcases hu with rfl | rfl | rfl | rfl
    · rfl
    · rfl
    · rfl
    · rw [hxe]; rfl)
  obtain ⟨g', c', W', e1, r, o⟩ := UK.push_four (P := Tryz.prog) (t := 37) (tx := 37) (ty := 37) Tryz.underlying37 (i := Tryz.t27) rfl rfl rfl (show (48 : Nat) ≤ 48 by omega) rfl (n := L.length) (vs := arFlat L) (arFlat_len L) (ao := some ⟨g, 0, none⟩) (c := c) (.inr ⟨g, rfl, h.alloc _⟩) (m := arCells x) (k := 1) rfl (by omega) hsrc (by omega)
  refine ⟨g', c', W', e1, ?_, ?_⟩
  · rw [arFlat_app]
    have : arFlat [x] = arCells x := by unfold arFlat; simp
    rw [this]
    exact r
  · have hs : (W.alloc (.cells #[.int .i64 x.1.rows, .int .i64 x.1.cols, .bool x.1.area, x.2] 27)).heap.size = W.heap.size + 1 := by simp
    rcases o with ⟨a, o⟩ | ⟨a, b⟩
    · exact ⟨((UK.Only.refl g' W).alloc _).trans o, .inl (congrArg Addr.block (Option.some.inj a)).symm⟩
    · exact ⟨((UK.Only.refl g' W).alloc _).trans (UK.Only.of_below b), .inr (by rw [a, hs]; omega)⟩
/-- a list of areas -/
structure ArSl (W : World) (s : Value) (xs : List (Bool × Int × List (Int × Int × List UInt8))) : Prop where
  is : ∃ g c, s = .slice (some ⟨g, 0, none⟩) xs.length c ∧ g < W.heap.size ∧ ∀ (i : Nat) x, xs[i]? = some x → ∃ t, PlSl W t x.2.2 ∧ x.2.2.length ≤ 9223372036854775807 ∧ W.cell? ⟨g, i * 3, none⟩ = some (.bool x.1) ∧ W.cell? ⟨g, i * 3 + 1, none⟩ = some (.int .i64 x.2.1) ∧ W.cell? ⟨g, i * 3 + 2, none⟩ = some t
theorem ArSl.next {W W' : World} {s : Value} {xs : List (Bool × Int × List (Int × Int × List UInt8))} (h : ArSl W s xs) (hb : Below W.heap.size W W') : ArSl W' s xs := by
  obtain ⟨g, c, h1, h2, h3⟩ := h.is
  refine ⟨g, c, h1, Nat.lt_of_lt_of_le h2 hb.size, fun i x hx => ?_⟩
  obtain ⟨t, k1, k2, k3, k4, k5⟩ := h3 i x hx
  exact ⟨t, k1.next hb, k2, (cell_below hb h2).trans k3, (cell_below hb h2).trans k4, (cell_below hb h2).trans k5⟩
structure ArgsSt (w wr : World) (g : Nat) (L : List (Ar × Value)) : Prop where
  bel : Below w.heap.size w wr
  ge : w.heap.size ≤ g
  lt : g < wr.heap.size
  each : ∀ y ∈ L, VSl wr.heap.size wr y.2 y.1.vs ∧ ∃ b n c, y.2 = .slice (some ⟨b, 0, none⟩) n c ∧ b ≠ g
theorem vsl_only {W W' : World} {g : Nat} {s : Value} {vs : List V} (h : VSl W.heap.size W s vs) (ho : Only g W W') (hs : ∃ b n c, s = .slice (some ⟨b, 0, none⟩) n c ∧ b ≠ g) : VSl W'.heap.size W' s vs := by
  obtain ⟨⟨b, c, rfl, hb, hc⟩, _⟩ := h
  obtain ⟨b', n', c', he, hne⟩ := hs
  obtain rfl : b = b' := by
    simp only [Value.slice.injEq, Option.some.injEq, Addr.mk.injEq] at he
    exact he.1.1
  exact ⟨⟨b, c, rfl, Nat.lt_of_lt_of_le hb ho.size, fun j v hj => (World.cell?_of_block (a := ⟨b, j, none⟩) (ho.block b hb hne)).trans (hc j v hj)⟩, Nat.le_refl _⟩
def argOf3 (x : Bool × Int × List (Int × Int × List UInt8)) : Ar := argOf x.1 x.2.1 x.2.2
set_option maxHeartbeats 4000000 in
set_option maxRecDepth 100000 in
theorem args_any {w : World} {s : Value} {xs : List (Bool × Int × List (Int × Int × List UInt8))} (h : ArSl w s xs) (hl : xs.length ≤ 32) (hE : Env w) :
    Calls Tryz.prog 19 #[s] w fun e w' => ∃ t, e = .returned t ∧ ASl w'.heap.size w' t (xs.map argOf3) ∧ Below w.heap.size w w' := by
  obtain ⟨ag, ac, rfl, hag, hcell⟩ := h.is
  have HC := Lib.hid hcell
  have HE := Lib.hid hE
  have hst0 : ArgsSt w (w.alloc (.cells #[] 27)) w.heap.size [] ∧ Row (w.alloc (.cells #[] 27)) w.heap.size (4 * 0) (arFlat []) := by
    have hx := Box.new w #[] 27
    exact ⟨⟨(Below.refl _ _).alloc (Nat.le_refl _) _, Nat.le_refl _, hx.lt, fun y hy => by simp at hy⟩, ⟨hx.lt, Nat.zero_le _, fun j hj => by simp [arFlat] at hj, fun j hj => by omega⟩⟩
  have HST0 := Lib.hid hst0
  clear hcell h hE hst0
  go_enter Tryz.func19, Tryz.ntmps19
  go_wp2
  generalize w.alloc (.cells #[] 27) = W0 at *
  go_loopw [3, 4] (fun lv iv wr => ∃ (i g c : Nat) (L : List (Ar × Value)), i ≤ xs.length ∧ iv = .int .i64 i ∧ lv = .slice (some ⟨g, 0, none⟩) L.length c ∧ Hid (L.map (·.1) = (xs.take i).map argOf3) ∧ ArgsSt w wr g L ∧ Row wr g (4 * c) (arFlat L)) (fun _ iv _ => xs.length - (intOf iv).toNat)
  case atStart => exact ⟨0, w.heap.size, 0, [], Nat.zero_le _, rfl, rfl, (show _ = _ by simp), HST0.out.1, HST0.out.2⟩
  case round =>
    obtain ⟨i, g, c, L, hi, rfl, rfl, HM, hst, hrow⟩ := hrel
    have HST := Lib.hid (And.intro hst hrow)
    have hLl : L.length ≤ 32 := by
      have := congrArg List.length HM.out
      simp only [List.length_map, List.length_take] at this
      omega
    clear hst hrow
    by_cases hlt : i < xs.length
    · have hlti : (i : Int) < (xs.length : Int) := by omega
      have hlt32 : (i : Int) < 32 := by omega
      have hxi : xs[i]? = some xs[i] := List.getElem?_eq_getElem hlt
      obtain ⟨tx, t1, t2, t3, t4, t5⟩ := HC.out i _ hxi
      have hstep : (xs.take (i + 1)).map argOf3 = (xs.take i).map argOf3 ++ [argOf3 xs[i]] := by rw [List.take_add_one, hxi, List.map_append]; rfl
      have HS := Lib.hid hstep
      have hbel := HST.out.1.bel
      obtain ⟨ao, sc, htx, _⟩ := t1.is
      have t3' := (cell_below hbel hag).trans t3
      have t4' := (cell_below hbel hag).trans t4
      have t5' := (cell_below hbel hag).trans t5
      have HA := Lib.hid (arg_any (w := wr) xs[i].1 xs[i].2.1 (HE.out.next hbel) (t1.next hbel) t2)
      clear hxi hstep t3 t4 t5 t1 t2 hbel
      rw [htx] at HA t5'
      generalize xs[i] = x at *
      go_wp2_with fail
      refine HA.out.mono ?_
      rintro e w2 ⟨t, rfl, hv, b2, bn, nn, kk, rfl, hbn⟩
      have hrow2 := HST.out.2.below b2 HST.out.2.lt
      obtain ⟨g', c', w3, hrun, hrow3, honly, hg3⟩ := push_arg hrow2 (by omega) (argOf3 x, .slice (some ⟨bn, 0, none⟩) nn kk) ⟨_, _, _, rfl⟩
      have HN := Lib.hid (And.intro hrow3 (And.intro honly (And.intro hg3 (And.intro hv (And.intro b2 hbn)))))
      clear hrow2 hrow3 honly hg3 hv b2 hbn HA
      unfold ArV
      dsimp only at hrun
      change (Builtin.append_ _ _ _).run _ (w2.alloc (.cells #[.int .i64 (argOf x.1 x.2.1 x.2.2).rows, .int .i64 (argOf x.1 x.2.1 x.2.2).cols, .bool (argOf x.1 x.2.1 x.2.2).area, .slice (some ⟨bn, 0, none⟩) nn kk] 27)) = _ at hrun
      have HAO : Hid (argOf3 x = argOf x.1 x.2.1 x.2.2) := rfl
      generalize argOf x.1 x.2.1 x.2.2 = AX at *
      go_wp2_with (at_builtin; refine UK.wpList_append_run hrun rfl rfl rfl rfl rfl ?_)
      go_roundw
      case rel =>
        obtain ⟨hrow3, honly, hg3, hv, b2, hbn⟩ := HN.out
        obtain ⟨hst, hrow⟩ := HST.out
        have hgl := hst.lt
        have hsz := b2.size
        have hszo := honly.size
        have hbw := hst.bel.size
        have hge := hst.ge
        have hlr3 := hrow3.lt
        have hb3 : Below w.heap.size w w3 := (hst.bel.trans (b2.mono hbw)).trans (honly.below (by omega) (by rcases hg3 with h | h <;> omega))
        refine ⟨i + 1, g', c', L ++ [(argOf3 x, .slice (some ⟨bn, 0, none⟩) nn kk)], by omega, by go_num, by simp, ?_, ⟨hb3, by rcases hg3 with h | h <;> omega, hlr3, fun y hy => ?_⟩, hrow3⟩
        · show _ = _
          rw [List.map_append, HM.out, HS.out]
          rfl
        · rcases List.mem_append.1 hy with hy | hy
          · obtain ⟨hv1, b, n, k, he, hne⟩ := hst.each y hy
            have hbl : b < wr.heap.size := by
              obtain ⟨⟨b', c'', he', hb', _⟩, _⟩ := hv1
              rw [he] at he'
              simp only [Value.slice.injEq, Option.some.injEq, Addr.mk.injEq] at he'
              omega
            have hne' : b ≠ g' := by rcases hg3 with h | h <;> omega
            exact ⟨vsl_only ((hv1.below b2).up hsz (Nat.le_refl _)) honly ⟨b, n, k, he, hne'⟩, b, n, k, he, hne'⟩
          · obtain rfl := List.mem_singleton.1 hy
            have hbl : bn < w2.heap.size := by
              obtain ⟨⟨b', c'', he', hb', _⟩, _⟩ := hv
              simp only [Value.slice.injEq, Option.some.injEq, Addr.mk.injEq] at he'
              omega
            have hne' : bn ≠ g' := by rcases hg3 with h | h <;> omega
            refine ⟨vsl_only ?_ honly ⟨bn, nn, kk, rfl, hne'⟩, bn, nn, kk, rfl, hne'⟩
            rw [HAO.out]
            exact hv
      case measure => simp [intOf]; omega
    · have hge : (xs.length : Int) ≤ (i : Int) := by omega
      have HF : Hid (L.map (·.1) = xs.map argOf3) := by
        have := HM.out
        rw [List.take_of_length_le (by omega)] at this
        exact this
      go_wp2
      go_ret
      obtain ⟨hst, hrow⟩ := HST.out
      have hlen : L.length = (xs.map argOf3).length := by rw [← HF.out, List.length_map]
      refine ⟨_, rfl, ⟨⟨g, c, by rw [← hlen]; rfl, hrow.lt, fun j a hj => ?_⟩, Nat.le_refl _⟩, hst.bel⟩
      rw [← HF.out, List.getElem?_map] at hj
      cases hy : L[j]? with
      | none => rw [hy] at hj; cases hj
      | some y =>
        rw [hy] at hj
        obtain rfl := Option.some.inj hj
        obtain ⟨h0, h1, h2, h3⟩ := arFlat_get L j y hy
        exact ⟨y.2, (hst.each y (List.mem_of_getElem? hy)).1, hrow.at' _ _ h0, hrow.at' _ _ h1, hrow.at' _ _ h2, hrow.at' _ _ h3⟩
end Go.Proofs.YteelmbpmmobpjaaGreatDoor
