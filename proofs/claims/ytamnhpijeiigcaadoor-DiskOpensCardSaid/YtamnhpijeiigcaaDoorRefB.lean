/-
  The document's disk in the world; Taken, write, set.
-/
import Derived.Test.YtamnhpijeiigcaaDoorRefA
namespace Go.Proofs.YtamnhpijeiigcaaDoor
open Go.RowKit
open UK (str BytesAt nth Only w32 Row Box)
open Go.BigFrame
def texts (l : List (List UInt8)) : List Value := l.map fun s => Value.string (str s)
theorem texts_length (l : List (List UInt8)) : (texts l).length = l.length := by simp [texts]
theorem texts_at (l : List (List UInt8)) (k : Nat) (h : k < l.length) : (texts l)[k]? = some (.string (str (l.getD k []))) := by
  simp [texts, List.getElem?_eq_getElem h, List.getD_eq_getElem?_getD]
/-- a row copied behind an empty one -/
theorem UK.copy_row {P : Program} {t tx ty e : TypeId} {i : TypeInfo} {z : Value} (ht : P.underlying t = some (.slice e)) (htx : P.underlying tx = some (.slice e)) (hi : P.info? e = some i) (hz : i.zero = some z) (h1 : i.size = 1) (h16 : i.bytes ≤ 16) (hzs : z.cells.size = 1)
    {V : World} {g0 : Nat} (h0 : Row V g0 0 []) {ao : Option Addr} {c : Nat} {vs : List Value} (h : (ao = none ∧ vs = []) ∨ ∃ g, ao = some ⟨g, 0, none⟩ ∧ Row V g c vs) (hv : ∀ u ∈ vs, u.oneCell' = true) (hlen : vs.length ≤ 1000000) :
    ∃ g' c' W', (Builtin.append_ #[t, tx] ty #[.slice (some ⟨g0, 0, none⟩) 0 0, .slice ao vs.length c]).run P V = .ok (.slice (some ⟨g', 0, none⟩) vs.length c') W' ∧ Row W' g' c' vs ∧ Only g0 V W' ∧ (g' = g0 ∨ g' = V.heap.size) := by
  cases vs with
  | nil =>
    refine ⟨g0, 0, V, ?_, h0, Only.refl _ _, .inl rfl⟩
    rcases h with ⟨rfl, _⟩ | ⟨g, rfl, _⟩
    · simp [Builtin.append_, run_underlying ht, run_underlying htx, sizeOf, typeInfo, hi, Builtin.lenOf, Builtin.firstCells, storeCells]
    · simp [Builtin.append_, run_underlying ht, run_underlying htx, sizeOf, typeInfo, hi, Builtin.lenOf, Builtin.firstCells, storeCells, loadCells, loadCellsFrom]
  | cons v vs =>
    rcases h with ⟨_, hh⟩ | ⟨g, rfl, h⟩
    · cases hh
    · obtain ⟨g', c', W', e1, r, o⟩ := UK.push_row (P := P) (t := t) (tx := tx) (ty := ty) ht hi hz h1 h16 hzs (.inr ⟨g0, rfl, h0⟩) (x := .slice (some ⟨g, 0, none⟩) (v :: vs).length c) (m := v :: vs) (by simp) (Src.ofSlice _ htx ⟨g, 0, none⟩ (v :: vs).length c (v :: vs) (by rw [Nat.mul_one]) (fun j u hj => by
        have hjl := (List.getElem?_eq_some_iff.1 hj).1
        rw [UK.add_mk0, Nat.zero_add, h.holds j hjl]; exact hj) hv) (by simpa using hlen)
      refine ⟨g', c', W', e1, r, ?_⟩
      rcases o with ⟨a, o⟩ | ⟨a, b⟩
      · have e2 : g0 = g' := congrArg Addr.block (Option.some.inj a)
        subst e2
        exact ⟨o, .inl rfl⟩
      · exact ⟨Only.of_below b, .inr a⟩
/-- the pages of a disk's bytes -/
def pagesOf (x : List UInt8) (cnt : Nat) : List (List UInt8) := (List.range cnt).map (pgOf x)
theorem pagesOf_length (x : List UInt8) (cnt : Nat) : (pagesOf x cnt).length = cnt := by simp [pagesOf]
theorem pagesOf_get (x : List UInt8) (cnt k : Nat) (h : k < cnt) : (pagesOf x cnt).getD k [] = pgOf x k := by
  rw [List.getD_eq_getElem?_getD, List.getElem?_eq_getElem (by rw [pagesOf_length]; exact h)]
  simp [pagesOf]
theorem pagesOf_set (x : List UInt8) (cnt p : Nat) (hp : p < cnt) (g : List UInt8) (hg : g.length = 512) (hx : x.length = 512 * cnt) : pagesOf (UK.wr x (512 * p) g) cnt = (pagesOf x cnt).set p g := by
  refine List.ext_getElem (by rw [List.length_set, pagesOf_length, pagesOf_length]) (fun k h1 h2 => ?_)
  rw [pagesOf_length] at h1
  rw [List.getElem_set]
  simp only [pagesOf, List.getElem_map, List.getElem_range]
  rw [pgOf_wr x p k g hg (by omega) (by omega)]
/-- the document's disk, as a value -/
def rval (gp np cp : Nat) (fo : Option Addr) (nf fc : Nat) (d : Dk) : Value :=
  .agg #[.slice (some ⟨gp, 0, none⟩) np cp, .slice fo nf fc, .int .i64 d.most, .int .i64 d.rl, .int .i64 d.wl, .int .i64 d.reads, .int .i64 d.puts]
/-- a row of free pages -/
def FreeAt (W : World) (fo : Option Addr) (fc : Nat) (l : List Nat) : Prop := (fo = none ∧ l = []) ∨ ∃ F, fo = some ⟨F, 0, none⟩ ∧ Row W F fc (ints l)
/-- the document's disk, in the world, behind the first N blocks -/
structure RefAt (N : Nat) (W : World) (gp cp : Nat) (fo : Option Addr) (fc : Nat) (d : Dk) (cnt : Nat) : Prop where
  pages : Row W gp cp (texts (pagesOf d.x cnt))
  free : FreeAt W fo fc d.free
  lowP : N ≤ gp
  lowF : ∀ F, fo = some ⟨F, 0, none⟩ → N ≤ F ∧ F < W.heap.size
section
variable {N : Nat} {W W' : World} {gp cp fc cnt : Nat} {fo : Option Addr} {d d' : Dk}
theorem FreeAt.kept {l : List Nat} (h : FreeAt W fo fc l) (hs : W.heap.size ≤ W'.heap.size) (hb : ∀ F, fo = some ⟨F, 0, none⟩ → W'.heap[F]? = W.heap[F]?) : FreeAt W' fo fc l := by
  rcases h with h | ⟨F, e, r⟩
  · exact .inl h
  · exact .inr ⟨F, e, r.of_block hs (hb F e)⟩
theorem RefAt.kept (h : RefAt N W gp cp fo fc d cnt) (hs : W.heap.size ≤ W'.heap.size) (hb : W'.heap[gp]? = W.heap[gp]?) (hf : ∀ F, fo = some ⟨F, 0, none⟩ → W'.heap[F]? = W.heap[F]?) : RefAt N W' gp cp fo fc d cnt :=
  ⟨h.pages.of_block hs hb, h.free.kept hs hf, h.lowP, fun F e => ⟨(h.lowF F e).1, Nat.lt_of_lt_of_le (h.lowF F e).2 hs⟩⟩
theorem RefAt.below (h : RefAt N W gp cp fo fc d cnt) (hb : Below W.heap.size W W') : RefAt N W' gp cp fo fc d cnt :=
  h.kept hb.size (hb.block _ h.pages.lt) (fun F e => hb.block _ (h.lowF F e).2)
theorem RefAt.fill (h : RefAt N W gp cp fo fc d cnt) {g : Nat} (h1 : gp ≠ g) (h2 : ∀ F, fo = some ⟨F, 0, none⟩ → F ≠ g) (a0 a1 a2 a3 a4 a5 a6 : Value) : RefAt N (UK.fill7 W g a0 a1 a2 a3 a4 a5 a6) gp cp fo fc d cnt :=
  h.kept (Nat.le_of_eq (UK.fill7_size _ _ _ _ _ _ _ _ _).symm) (UK.fill7_far h1 _ _ _ _ _ _ _) (fun F e => UK.fill7_far (h2 F e) _ _ _ _ _ _ _)
theorem RefAt.same (h : RefAt N W gp cp fo fc d cnt) (hx : d'.x = d.x) (hf : d'.free = d.free) : RefAt N W gp cp fo fc d' cnt :=
  ⟨by rw [hx]; exact h.pages, by rw [hf]; exact h.free, h.lowP, h.lowF⟩
theorem RefAt.page (h : RefAt N W gp cp fo fc d cnt) (p : Nat) (hp : p < cnt) : W.cell? ⟨gp, p, none⟩ = some (.string (str (pgOf d.x p))) := by
  have := h.pages.at' p _ (texts_at _ p (by rw [pagesOf_length]; exact hp))
  rwa [pagesOf_get _ _ _ hp] at this
/-- Taken -/
theorem rtaken_any (h : RefAt N W gp cp fo fc d cnt) (s : Sound d cnt) (f : Fit d cnt) (p : Int) :
    Calls Tryd.prog 41 #[rval gp cnt cp fo d.free.length fc d, .int .i64 p] W fun e w' => e = .returned (.bool (hasD d cnt p)) ∧ Below W.heap.size W w' := by
  have hfew := f.few
  have hfl := f.freeLe
  unfold rval
  go_enter Tryd.func41, Tryd.ntmps41
  go_wp2_with fail
  obtain ⟨V, HV⟩ : ∃ V, Hid (V = W.alloc (.cells #[.slice (some ⟨gp, 0, none⟩) cnt cp, .slice fo d.free.length fc, .int .i64 d.most, .int .i64 d.rl, .int .i64 d.wl, .int .i64 d.reads, .int .i64 d.puts] 46)) := ⟨_, rfl⟩
  have b0 : Below W.heap.size W V := by rw [HV.out]; exact (Below.refl _ _).alloc (Nat.le_refl _) _
  have hx : Box V W.heap.size #[.slice (some ⟨gp, 0, none⟩) cnt cp, .slice fo d.free.length fc, .int .i64 d.most, .int .i64 d.rl, .int .i64 d.wl, .int .i64 d.reads, .int .i64 d.puts] := by rw [HV.out]; exact Box.new _ _ _
  have hfr : FreeAt V fo fc d.free := h.free.kept b0.size (fun F e => b0.block F (h.lowF F e).2)
  rw [← HV.out]
  have c0 := hx.cell 0 _ rfl
  have c1 := hx.cell 1 _ rfl
  clear HV
  go_loopw [10] (fun ix wr => ∃ m : Nat, m ≤ d.free.length ∧ ix = .int .i64 m ∧ Hid (∀ j, j < m → ((d.free.getD j 0 : Nat) : Int) ≠ p) ∧ wr = V) (fun ix _ => 70000 - (intOf ix).toNat)
  case atStart => exact ⟨0, Nat.zero_le _, rfl, fun j hj => absurd hj (Nat.not_lt_zero _), rfl⟩
  case round =>
    obtain ⟨m, hm, rfl, HJ, rfl⟩ := hrel
    by_cases hml : m < d.free.length
    · rcases hfr with ⟨_, hf⟩ | ⟨F, rfl, hr⟩
      · rw [hf] at hml; exact absurd hml (Nat.not_lt_zero _)
      · have cm := hr.at' m _ (ints_at d.free m hml)
        by_cases hx2 : ((d.free.getD m 0 : Nat) : Int) = p
        · have HH : Hid (hasD d cnt p = false) := by
            show _ = _
            rw [s.hasI p, decide_eq_false_iff_not]
            intro hh
            apply hh.2.2
            rw [← hx2, Int.toNat_natCast, List.getD_eq_getElem?_getD, List.getElem?_eq_getElem hml]
            exact List.getElem_mem _
          have hxx : (((d.free.getD m 0 : Nat) : Int) == p) = true := beq_iff_eq.2 hx2
          generalize d.free.getD m 0 = xm at cm hxx
          clear hx2
          go_wp2
          go_ret
          exact ⟨by rw [HH.out] <;> rfl, b0⟩
        · have HJ2 : Hid (∀ j, j < m + 1 → ((d.free.getD j 0 : Nat) : Int) ≠ p) := fun j hj => by
            by_cases e : j = m
            · rw [e]; exact hx2
            · exact HJ.out j (by omega)
          have hxx : (((d.free.getD m 0 : Nat) : Int) == p) = false := beq_eq_false_iff_ne.2 hx2
          generalize d.free.getD m 0 = xm at cm hxx
          clear hx2
          go_wp2
          refine ⟨⟨m + 1, by omega, by go_num, HJ2, trivial⟩, ?_⟩
          simp [intOf]; omega
    · have hnm : ∀ k : Nat, (k : Int) = p → k ∉ d.free := fun k hk hh => by
        obtain ⟨j, hj, he⟩ := List.getElem_of_mem hh
        apply HJ.out j (by omega)
        rw [List.getD_eq_getElem?_getD, List.getElem?_eq_getElem hj]
        show ((d.free[j] : Nat) : Int) = p
        rw [he]; exact hk
      have HH : Hid (hasD d cnt p = decide (1 ≤ p ∧ p < cnt)) := by
        show _ = _
        rw [s.hasI p]
        refine decide_eq_decide.2 ⟨fun hh => ⟨hh.1, hh.2.1⟩, fun hh => ⟨hh.1, hh.2, hnm _ (by omega)⟩⟩
      clear hnm
      by_cases h1 : 1 ≤ p
      · by_cases h2 : p < cnt
        · have HB := Lib.hid (decide_eq_true (show 1 ≤ p ∧ p < cnt from ⟨h1, h2⟩))
          go_wp2
          go_ret
          exact ⟨by rw [HH.out, HB.out] <;> rfl, b0⟩
        · have HB := Lib.hid (decide_eq_false (show ¬ (1 ≤ p ∧ p < cnt) from fun h => h2 h.2))
          go_wp2
          go_ret
          exact ⟨by rw [HH.out, HB.out] <;> rfl, b0⟩
      · have HB := Lib.hid (decide_eq_false (show ¬ (1 ≤ p ∧ p < cnt) from fun h => h1 h.1))
        go_wp2
        go_ret
        exact ⟨by rw [HH.out, HB.out] <;> rfl, b0⟩
theorem disk_under : Tryd.prog.underlying 46 = some (.struct #[{ name := "Pages", type := 44, offset := 0, embedded := false, tag := "", pkgPath := "", byteOffset := 0 }, { name := "Free", type := 22, offset := 1, embedded := false, tag := "", pkgPath := "", byteOffset := 24 }, { name := "Most", type := 3, offset := 2, embedded := false, tag := "", pkgPath := "", byteOffset := 48 }, { name := "Read", type := 3, offset := 3, embedded := false, tag := "", pkgPath := "", byteOffset := 56 }, { name := "Write", type := 3, offset := 4, embedded := false, tag := "", pkgPath := "", byteOffset := 64 }, { name := "Reads", type := 3, offset := 5, embedded := false, tag := "", pkgPath := "", byteOffset := 72 }, { name := "Puts", type := 3, offset := 6, embedded := false, tag := "", pkgPath := "", byteOffset := 80 }]) := by kernel_rfl
theorem disk_size : (Tryd.prog.info? 46).map (·.size) = some 7 := by kernel_rfl
/-- write -/
theorem rwrite_any (np nf : Nat) (f : Fit d cnt) (W : World) :
    Calls Tryd.prog 57 #[rval gp np cp fo nf fc d] W fun e w' => e = .returned (.tuple #[rval gp np cp fo nf fc (if d.wl = 0 then { d with wl := -1 } else paidD d), .int .i64 (failE d.wl)]) ∧ Below W.heap.size W w' := by
  have hf := fun w => rfails_any d.wl f.wl w
  have hq1 := f.puts.1
  have hq2 := f.puts.2
  by_cases h0 : d.wl = 0
  · have HE : Hid (failE d.wl = 7) := by show _ = _; unfold failE; rw [if_pos h0]
    have HN : Hid (failN d.wl = -1) := by show _ = _; unfold failN; rw [if_pos h0]
    rw [if_pos h0, HE.out]
    have hb : (d.wl == 0) = true := beq_iff_eq.2 h0
    rw [HN.out, hb] at hf
    clear h0 hb
    unfold rval
    go_enter Tryd.func57, Tryd.ntmps57
    go_wp2_with fail
    refine (hf _).mono ?_
    rintro e w' ⟨rfl, rfl⟩
    go_wp2
    refine bodyPost_ret (UK.box_ret2 rfl _ (Box.new _ _ _) (by simp) disk_under rfl disk_size) rfl ?_
    exact ⟨rfl, ((Below.refl _ _).alloc (Nat.le_refl _) _).alloc (by simp) _⟩
  · have HE : Hid (failE d.wl = 0) := by show _ = _; unfold failE; rw [if_neg h0]
    rw [if_neg h0, HE.out]
    have hb : (d.wl == 0) = false := beq_eq_false_iff_ne.2 h0
    rw [hb] at hf
    clear h0 hb
    unfold rval paidD
    go_enter Tryd.func57, Tryd.ntmps57
    go_wp2_with fail
    refine (hf _).mono ?_
    rintro e w' ⟨rfl, rfl⟩
    go_wp2
    refine bodyPost_ret (UK.box_ret2 rfl _ (Box.new _ _ _) (by simp) disk_under rfl disk_size) rfl ?_
    exact ⟨rfl, ((Below.refl _ _).alloc (Nat.le_refl _) _).alloc (by simp) _⟩
set_option maxHeartbeats 1000000 in
set_option maxRecDepth 100000 in
/-- set -/
theorem rset_any (h : RefAt N W gp cp fo fc d cnt) (hN : N ≤ W.heap.size) (f : Fit d cnt) (p : Nat) (hp : p < cnt) (g : List UInt8) (hg : g.length = 512) :
    Calls Tryd.prog 58 #[rval gp cnt cp fo d.free.length fc d, .int .i64 p, .agg #[.string (str g)]] W fun e w' => ∃ gp' cp', e = .returned (rval gp' cnt cp' fo d.free.length fc d) ∧ RefAt N w' gp' cp' fo fc { d with x := UK.wr d.x (512 * p) g } cnt ∧ Below W.heap.size W w' ∧ W.heap.size ≤ gp' := by
  have hfew := f.few
  obtain ⟨V0, HV0⟩ : ∃ V0, Hid (V0 = ((W.alloc (.cells #[.slice (some ⟨gp, 0, none⟩) cnt cp, .slice fo d.free.length fc, .int .i64 d.most, .int .i64 d.rl, .int .i64 d.wl, .int .i64 d.reads, .int .i64 d.puts] 46)).alloc (.cells #[.string (str g)] 73)).alloc (.cells #[.slice none 0 0, .slice none 0 0, .int .i64 0, .int .i64 0, .int .i64 0, .int .i64 0, .int .i64 0] 46)) := ⟨_, rfl⟩
  have b0 : Below W.heap.size W V0 := by rw [HV0.out]; exact (((Below.refl _ _).alloc (Nat.le_refl _) _).alloc (by simp) _).alloc (by simp; omega) _
  have hs : V0.heap.size = W.heap.size + 1 + 1 + 1 := by rw [HV0.out]; simp
  have x0 : Box V0 W.heap.size #[.slice (some ⟨gp, 0, none⟩) cnt cp, .slice fo d.free.length fc, .int .i64 d.most, .int .i64 d.rl, .int .i64 d.wl, .int .i64 d.reads, .int .i64 d.puts] := by rw [HV0.out]; exact ((Box.new _ _ _).alloc _).alloc _
  have x1 : Box V0 (W.heap.size + 1) #[.string (str g)] := by
    rw [HV0.out]
    have := Box.new (W.alloc (.cells #[.slice (some ⟨gp, 0, none⟩) cnt cp, .slice fo d.free.length fc, .int .i64 d.most, .int .i64 d.rl, .int .i64 d.wl, .int .i64 d.reads, .int .i64 d.puts] 46)) #[.string (str g)] 73
    rw [show (W.alloc (.cells #[.slice (some ⟨gp, 0, none⟩) cnt cp, .slice fo d.free.length fc, .int .i64 d.most, .int .i64 d.rl, .int .i64 d.wl, .int .i64 d.reads, .int .i64 d.puts] 46)).heap.size = W.heap.size + 1 by simp] at this
    exact this.alloc _
  have x2 : Box V0 (W.heap.size + 1 + 1) #[.slice none 0 0, .slice none 0 0, .int .i64 0, .int .i64 0, .int .i64 0, .int .i64 0, .int .i64 0] := by
    rw [HV0.out]
    have := Box.new ((W.alloc (.cells #[.slice (some ⟨gp, 0, none⟩) cnt cp, .slice fo d.free.length fc, .int .i64 d.most, .int .i64 d.rl, .int .i64 d.wl, .int .i64 d.reads, .int .i64 d.puts] 46)).alloc (.cells #[.string (str g)] 73)) #[.slice none 0 0, .slice none 0 0, .int .i64 0, .int .i64 0, .int .i64 0, .int .i64 0, .int .i64 0] 46
    rw [show ((W.alloc (.cells #[.slice (some ⟨gp, 0, none⟩) cnt cp, .slice fo d.free.length fc, .int .i64 d.most, .int .i64 d.rl, .int .i64 d.wl, .int .i64 d.reads, .int .i64 d.puts] 46)).alloc (.cells #[.string (str g)] 73)).heap.size = W.heap.size + 1 + 1 by simp] at this
    exact this
  have h0 := h.below b0
  have r0 : Row (V0.alloc (.cells #[] 73)) V0.heap.size 0 [] := UK.row_new V0 #[] _
  have h1 := h0.below ((Below.refl _ _).alloc (Nat.le_refl _) (.cells #[] 73))
  obtain ⟨g', c', W', e, r, o, hg'⟩ := UK.copy_row (P := Tryd.prog) (t := 44) (tx := 44) (ty := 44) Tryd.underlying44 Tryd.underlying44 (i := Tryd.t73) rfl rfl rfl (show (16 : Nat) ≤ 16 by omega) rfl r0 (.inr ⟨gp, rfl, h1.pages⟩) (fun u hu => by
    obtain ⟨_, _, rfl⟩ := List.mem_map.1 hu
    rfl) (by rw [texts_length, pagesOf_length]; omega)
  rw [texts_length, pagesOf_length] at e
  have hgl : W.heap.size + 1 + 1 + 1 ≤ g' := by
    rw [← hs]
    rcases hg' with hh | hh
    · omega
    · rw [hh]; simp
  have oo : Only V0.heap.size V0 W' := ((Only.refl _ _).alloc _).trans o
  have y0 := x0.only oo (by omega)
  have y1 := x1.only oo (by omega)
  have y2 := x2.only oo (by omega)
  have hW : RefAt N W' gp cp fo fc d cnt := h0.kept oo.size (oo.block _ h0.pages.lt (by have := h.pages.lt; omega)) (fun F e => oo.block _ (h0.lowF F e).2 (by have := (h.lowF F e).2; omega))
  have b1 : Below W.heap.size W W' := b0.trans (oo.below b0.size b0.size)
  rw [hs, HV0.out] at e
  unfold rval
  have z0 := y0.set 0 (.slice (some ⟨g', 0, none⟩) cnt c')
  have z1 := y1.far (b := W.heap.size) (j := 0) (.slice (some ⟨g', 0, none⟩) cnt c') (by omega)
  have z2 := y2.far (b := W.heap.size) (j := 0) (.slice (some ⟨g', 0, none⟩) cnt c') (by omega)
  have rz := r.only ((Only.refl W.heap.size W').set 0 (.slice (some ⟨g', 0, none⟩) cnt c')) (by omega)
  have hpl : p < (texts (pagesOf d.x cnt)).length := by rw [texts_length, pagesOf_length]; exact hp
  have v0 := z0.far (b := g') (j := p) (.string (str g)) (by omega)
  have v2 := z2.far (b := g') (j := p) (.string (str g)) (by omega)
  have rv := rz.set p (.string (str g)) hpl
  have ca := y0.cell 0 _ rfl
  have cb := y0.free 0
  have cc := z1.cell 0 _ rfl
  have cd := rz.at' p _ (texts_at _ p (by rw [pagesOf_length]; exact hp))
  have ce := rz.free p (by have := rz.le; omega)
  have u0 := v0.cell 0 _ rfl
  have u1 := v0.cell 1 _ rfl
  have u2 := v0.cell 2 _ rfl
  have u3 := v0.cell 3 _ rfl
  have u4 := v0.cell 4 _ rfl
  have u5 := v0.cell 5 _ rfl
  have u6 := v0.cell 6 _ rfl
  have t0 := v2.cell 0 _ rfl
  have t1 := v2.cell 1 _ rfl
  have t2 := v2.cell 2 _ rfl
  have t3 := v2.cell 3 _ rfl
  have t4 := v2.cell 4 _ rfl
  have t5 := v2.cell 5 _ rfl
  have t6 := v2.cell 6 _ rfl
  have tf := v2.free
  clear h1 r0 x0 x1 x2 o oo
  go_enter Tryd.func58, Tryd.ntmps58
  go_wp2_with (at_builtin; refine UK.wpList_append_run e rfl rfl rfl rfl rfl ?_)
  have yR := v2.fill7 (.slice (some ⟨g', 0, none⟩) cnt c') (.slice fo d.free.length fc) (.int .i64 d.most) (.int .i64 d.rl) (.int .i64 d.wl) (.int .i64 d.reads) (.int .i64 d.puts)
  have oR := UK.Only.fill7 ((W'.setCell ⟨W.heap.size, 0, none⟩ (.slice (some ⟨g', 0, none⟩) cnt c')).setCell ⟨g', p, none⟩ (.string (str g))) (W.heap.size + 1 + 1) (.slice (some ⟨g', 0, none⟩) cnt c') (.slice fo d.free.length fc) (.int .i64 d.most) (.int .i64 d.rl) (.int .i64 d.wl) (.int .i64 d.reads) (.int .i64 d.puts)
  have bR : Below W.heap.size W (UK.fill7 ((W'.setCell ⟨W.heap.size, 0, none⟩ (.slice (some ⟨g', 0, none⟩) cnt c')).setCell ⟨g', p, none⟩ (.string (str g))) (W.heap.size + 1 + 1) (.slice (some ⟨g', 0, none⟩) cnt c') (.slice fo d.free.length fc) (.int .i64 d.most) (.int .i64 d.rl) (.int .i64 d.wl) (.int .i64 d.reads) (.int .i64 d.puts)) := by
    have b2 := (b1.setCell (p := ⟨W.heap.size, 0, none⟩) (Nat.le_refl _) (.slice (some ⟨g', 0, none⟩) cnt c')).setCell (p := ⟨g', p, none⟩) (by show W.heap.size ≤ g'; omega) (.string (str g))
    exact b2.trans (oR.below b2.size (by omega))
  refine bodyPost_ret (UK.box_ret rfl _ yR rfl disk_under rfl disk_size) rfl ?_
  refine ⟨g', c', rfl, ⟨?_, h.free.kept bR.size (fun F e => bR.block F (h.lowF F e).2), by omega, fun F e => ⟨(h.lowF F e).1, Nat.lt_of_lt_of_le (h.lowF F e).2 bR.size⟩⟩, bR, by omega⟩
  have := rv.only oR (by omega)
  show Row _ g' c' (texts (pagesOf (UK.wr d.x (512 * p) g) cnt))
  rw [pagesOf_set d.x cnt p hp g hg f.len]
  unfold texts at this ⊢
  rw [List.map_set]
  exact this
end
end Go.Proofs.YtamnhpijeiigcaaDoor
