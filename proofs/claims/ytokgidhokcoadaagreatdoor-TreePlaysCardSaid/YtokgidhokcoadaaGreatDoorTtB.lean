/-
  The pool: Undo.
  tabularlaw08.Does: undo.
-/
import Derived.Test.YtokgidhokcoadaaGreatDoorUndoD
import Derived.Test.YtokgidhokcoadaaGreatDoorTtA
import Derived.Deep.DeepCutAuto
namespace Go.Proofs.YtokgidhokcoadaaGreatDoor
open Go.RowKit
open UK (str BytesAt nth Only Row Box IntMap StrMap)
open Go.BigFrame
def retPost (n : Nat) (fn : Func) (R : Ending → World → Prop) : Exit → Act → World → Prop
  | .ret, a, w => LeavesInM Fence.wide n Tryz.prog fn a.tmps R a.defers .returning w
  | _, _, _ => False
structure Back (B C : AP) (o : AO) (pre : List Int) : Prop where
  op : C.op = none
  cnt : C.cnt = B.cnt
  free : C.free = B.free
  most : C.most = B.most
  c : ∀ p : Nat, C.c p = if (p : Int) ∈ pre then (o.was p).getD [] else B.c p
theorem Back.start (B : AP) (o : AO) : Back B B.shutA o [] := ⟨rfl, rfl, rfl, rfl, fun _ => rfl⟩
theorem Back.step {B C : AP} {o : AO} {pre : List Int} (h : Back B C o pre) {m : Nat} {s : List UInt8} (hs : o.was m = some s) : Back B (C.put m s) o (pre ++ [(m : Int)]) := by
  refine ⟨h.op, h.cnt, h.free, h.most, fun p => ?_⟩
  show setC C.c m s p = _
  unfold setC
  by_cases e : m = p
  · subst e
    rw [if_pos rfl, if_pos (List.mem_append_right _ (List.mem_singleton.2 rfl)), hs]
    rfl
  · rw [if_neg e, h.c p]
    have hx : ((p : Int) ∈ pre ++ [(m : Int)]) ↔ (p : Int) ∈ pre := by
      rw [List.mem_append, List.mem_singleton]
      exact ⟨fun a => a.resolve_right (fun a => e (by omega)), .inl⟩
    by_cases e2 : (p : Int) ∈ pre
    · rw [if_pos e2, if_pos (hx.2 e2)]
    · rw [if_neg e2, if_neg (fun a => e2 (hx.1 a))]
theorem Back.in_ {B C : AP} {o : AO} {pre : List Int} (h : Back B C o pre) (p : Nat) : C.Has p ↔ B.In p := by
  rw [AP.has_shut h.op]
  unfold AP.In
  rw [h.cnt, h.free]
theorem keep_none {A : AP} (h : A.op = none) (p : Nat) : A.keep p = A := by
  unfold AP.keep
  rw [h]
  show { A with op := none } = A
  rw [← h]
theorem wr_full (y s : List UInt8) (h : s.length = 504) : (UK.wr y 0 s).take 504 = s := by
  unfold UK.wr
  rw [List.take_zero, List.nil_append, List.take_append_of_le_length (by omega), List.take_of_length_le (by omega)]
theorem back_fn (ao : Option Addr) (l c : Nat) (W : World) :
    Calls Tryz.prog 125 #[.slice ao l c] W fun e w' => e = .returned (.func (.func 200) #[] #[.pointer (some ⟨W.heap.size, 0, none⟩)]) ∧ w' = W.alloc (.cells #[.slice ao l c] 102) := by
  go_enter Tryz.func125, Tryz.ntmps125
  go_wp2
  go_ret
  exact ⟨rfl, rfl⟩
attribute [local go_sem] Oper.semAt_some
section
variable {E : Nat → Prop} {W W' : World} {P D k n : Nat} {A B A0 : AP} {o : AO}
theorem PZ.pool_lt (h : PZ E W P D A k) : P < W.heap.size := by
  obtain ⟨FB, M, n, q, d, h1, _⟩ := h
  exact h1.pd.pool.box.lt
theorem uk_cell {S : Nat → Prop} {a w : World} {b i : Nat} {v : Value} (h : Kept S a w) (hb : S b) (hc : a.cell? ⟨b, i, none⟩ = some v) : w.cell? ⟨b, i, none⟩ = some v := (World.cell?_of_block (a := ⟨b, i, none⟩) (h.block b hb)).trans hc
theorem putObj_only (W : World) (r : Nat) (o : Obj) : Only r W (W.putObj r o) := ⟨rfl, rfl, rfl, by simp [World.putObj], fun i _ hn => World.putObj_heap_other hn⟩
def UndoI (E : Nat → Prop) (wq : World) (P D : Nat) (C : AP) (kk : Nat) (pre : List (Int × Int)) (w : World) : Prop :=
  ∃ C2, PZ (fun j => E j ∨ j = wq.heap.size ∨ j = wq.heap.size + 1) w P D C2 (kk + pre.length) ∧ Given C C2 (pre.map Prod.snd) ∧ Kept E wq w
theorem UndoI.start {wq : World} {C : AP} {kk : Nat} (hz : PZ E wq P D C kk) (g : C.Good) (ho : C.op = none) (d o : Obj) : UndoI E wq P D C kk [] ((wq.alloc d).alloc o) := by
  have hb : Below wq.heap.size wq ((wq.alloc d).alloc o) := ((Below.refl _ _).alloc (Nat.le_refl _) _).alloc (by simp) _
  have hsz : ((wq.alloc d).alloc o).heap.size = wq.heap.size + 2 := by simp
  have e : C.shutA = C := by unfold AP.shutA; rw [← ho]
  have hg := Given.start g
  rw [e] at hg
  exact ⟨C, hz.wide hb (fun j hj => by
    rcases hj with hj | hj | hj
    · exact .inl hj
    · exact .inr (by omega)
    · exact .inr (by omega)), hg, hz.kept hb⟩
theorem UndoI.put {wq w : World} {C : AP} {kk : Nat} {pre : List (Int × Int)} (h : UndoI E wq P D C kk pre w) (hE : ∀ j, E j → j < wq.heap.size) (ht : 0 < wq.heap.size) {r : Nat} (hr : r = wq.heap.size ∨ r = wq.heap.size + 1) (o : Obj) : UndoI E wq P D C kk pre (w.putObj r o) := by
  obtain ⟨C2, hz, hg, hk⟩ := h
  have ho := putObj_only w r o
  refine ⟨C2, hz.over (R := fun j => j = r) (fun j hj => ?_) (fun e => ?_) ho.size (fun j hj hn => ho.block j hj hn) (fun j hj => .inl hj), hg, hk.trans ⟨ho.os, ho.tape, ho.output, ho.size, fun j hj => ho.block j (Nat.lt_of_lt_of_le (hE j hj) hk.size) (fun e => ?_)⟩⟩
  · rcases hr with rfl | rfl
    · exact .inr (.inl hj)
    · exact .inr (.inr hj)
  · have : 0 = r := e
    rcases hr with rfl | rfl <;> omega
  · have := hE j hj
    rcases hr with rfl | rfl <;> omega
theorem UndoI.step {wq w : World} {C : AP} {kk : Nat} {pre : List (Int × Int)} (h : UndoI E wq P D C kk pre w) (hk : kk + pre.length + 1 < 900000000) {m : Nat} (hm : C.In m) (hn : (m : Int) ∉ pre.map Prod.snd) (i : Int) :
    Calls Tryz.prog 121 #[.pointer (some ⟨P, 0, none⟩), .int .i64 m] w fun e w' => e = .returned (.int .i64 0) ∧ (w'.heap[wq.heap.size]? = w.heap[wq.heap.size]? ∧ w'.heap[wq.heap.size + 1]? = w.heap[wq.heap.size + 1]?) ∧ UndoI E wq P D C kk (pre ++ [(i, (m : Int))]) w' := by
  obtain ⟨C2, hz, hg, hkk⟩ := h
  obtain ⟨hh, hg2⟩ := hg.step hm hn
  refine (pz_give hz hk m hh).mono ?_
  rintro e w' ⟨he, p, k'⟩
  refine ⟨he, ⟨k'.block _ (.inr (.inl rfl)), k'.block _ (.inr (.inr rfl))⟩, C2.give m, ?_, ?_, hkk.trans (k'.mono (fun j hj => .inl hj))⟩
  · rw [List.length_append, List.length_singleton]
    exact p
  · rw [List.map_append]
    exact hg2
theorem Back.good {B C : AP} {o : AO} {pre : List Int} (h : Back B C o pre) (g : B.Good) : C.Good := by
  have hg : C.goneL = [] := by unfold AP.goneL; rw [h.op]
  refine ⟨by rw [h.cnt]; exact g.one, by rw [h.cnt, h.most]; exact g.most, by rw [h.most]; exact g.few, by rw [h.free]; exact g.nod, ?_, by rw [hg]; exact List.nodup_nil, fun x hx => by rw [hg] at hx; cases hx⟩
  rw [h.free, h.cnt]
  exact g.free
theorem backL_snd (zs : List Int) : (backL zs).map Prod.snd = zs.reverse := by
  refine List.ext_getElem (by simp [backL]) (fun i h1 h2 => ?_)
  have hi : i < zs.length := by simpa [backL] using h1
  rw [List.getElem_reverse]
  simp only [backL, List.getElem_map, List.getElem_range]
  rw [List.getD_eq_getElem?_getD, List.getElem?_eq_getElem (by omega)]
  rfl
theorem back_new {zs : List Int} (hn : zs.Nodup) {pre : List (Int × Int)} {x : Int × Int} (h : pre ++ [x] <+: backL zs) : x.2 ∈ zs ∧ x.2 ∉ pre.map Prod.snd := by
  obtain ⟨r, hr⟩ := h
  have h1 : (backL zs).map Prod.snd = pre.map Prod.snd ++ (x.2 :: r.map Prod.snd) := by rw [← hr]; simp
  rw [backL_snd] at h1
  have h2 : (pre.map Prod.snd ++ (x.2 :: r.map Prod.snd)).Nodup := by rw [← h1]; exact (List.reverse_perm zs).nodup_iff.2 hn
  refine ⟨List.mem_reverse.1 (by rw [h1]; exact List.mem_append_right _ (List.mem_cons_self ..)), fun hm => (List.nodup_append.1 h2).2.2 _ hm _ (List.mem_cons_self ..) rfl⟩
theorem pre_len {zs : List Int} {pre : List (Int × Int)} {x : Int × Int} (h : pre ++ [x] <+: backL zs) : pre.length < zs.length := by
  have := h.length_le
  rw [List.length_append, List.length_singleton, backL_length] at this
  omega
theorem undone_of {A0 B C C2 : AP} {o : AO} {ks : List Int} (hs : AP.Since A0 B o) (hb : Back B C o ks) (hk : ∀ y, y ∈ ks ↔ (o.was y).isSome = true) (hg : Given C C2 o.made.reverse) : AP.Undone A0 C2 := by
  have hin : ∀ p, C.In p ↔ B.In p := fun p => by unfold AP.In; rw [hb.cnt, hb.free]
  refine ⟨hg.op, hg.good, fun p => ?_, fun p hp => ?_, ?_, by rw [hg.most, hb.most, hs.most]⟩
  · rw [hg.has, hin, hs.has, List.mem_reverse]
    constructor
    · rintro ⟨a | a, b⟩
      · exact a
      · exact absurd a b
    · intro hp
      refine ⟨.inl hp, fun hm => ?_⟩
      obtain ⟨m, e, hm2⟩ := hs.made _ hm
      have : p = m := by omega
      exact hm2 (this ▸ hp)
  · rw [hg.c, hb.c]
    cases hw : o.was p with
    | none =>
      rw [if_neg (fun hm => by rw [hk, hw] at hm; cases hm)]
      exact hs.same p hp hw
    | some s =>
      rw [if_pos ((hk _).2 (by rw [hw]; rfl))]
      obtain ⟨m, e, _, hs2⟩ := hs.was _ _ hw
      have : p = m := by omega
      subst this
      exact hs2
  · rw [hg.rooms, List.length_reverse, ← hs.rooms]
    unfold AP.rooms
    rw [hb.cnt, hb.free, hb.most]
set_option maxRecDepth 100000 in
theorem pz_undo_no (h : PZ E W P D A k) (ho : A.op = none) :
    Calls Tryz.prog 44 #[.pointer (some ⟨P, 0, none⟩)] W fun e w' => e = .returned (.int .i64 14) ∧ PZ E w' P D A k ∧ Kept E W w' := by
  have c5 : W.cell? ⟨P, 5, none⟩ = some (.bool false) := by
    obtain ⟨FB, M, n, q, d, h1, hn, his⟩ := h
    rw [h1.pd.pool.box.cell 5 _ rfl]
    have := his.op
    cases hq : q.op with
    | none => rfl
    | some x => rw [hq, ho] at this; cases this
  have hPl := h.pool_lt
  have a2 : Below W.heap.size W ((W.alloc (.cells #[.pointer (some ⟨P, 0, none⟩)] 25)).alloc (.cells #[.int .i64 14] 41)) := ((Below.refl _ _).alloc (Nat.le_refl _) _).alloc (by simp) _
  have xr := Box.new (W.alloc (.cells #[.pointer (some ⟨P, 0, none⟩)] 25)) #[.int .i64 14] 41
  rw [show (W.alloc (.cells #[.pointer (some ⟨P, 0, none⟩)] 25)).heap.size = W.heap.size + 1 by simp] at xr
  have HR := Lib.hid (And.intro (h.next a2) (h.kept a2))
  have c2 := xr.cell 0 _ rfl
  clear h
  go_enter Tryz.func44, Tryz.ntmps44
  go_wp2_with fail
  generalize (W.alloc (.cells #[.pointer (some ⟨P, 0, none⟩)] 25)).alloc (.cells #[.int .i64 14] 41) = wf at c2 HR ⊢
  exact bodyPost_ret (v := .int .i64 14) (by simp [results, Tryz.results44, go_sem, c2]) rfl ⟨rfl, HR.out⟩
set_option maxHeartbeats 4000000 in
set_option maxRecDepth 100000 in
theorem pz_undo (h : PZ E W P D B k) (hs : AP.Since A0 B o) (hl : ∀ m, A0.Has m → (A0.c m).length = 504) (hk : k + 300000 < 900000000) :
    Calls Tryz.prog 44 #[.pointer (some ⟨P, 0, none⟩)] W fun e w' => e = .returned (.int .i64 0) ∧ ∃ C, PZ E w' P D C (k + 300000) ∧ AP.Undone A0 C ∧ Kept E W w' := by
  have hPl := h.pool_lt
  have a2 : Below W.heap.size W ((W.alloc (.cells #[.pointer (some ⟨P, 0, none⟩)] 25)).alloc (.cells #[.int .i64 0] 41)) := ((Below.refl _ _).alloc (Nat.le_refl _) _).alloc (by simp) _
  have z2 : ((W.alloc (.cells #[.pointer (some ⟨P, 0, none⟩)] 25)).alloc (.cells #[.int .i64 0] 41)).heap.size = W.heap.size + 2 := by simp
  have xp := (Box.new W #[.pointer (some ⟨P, 0, none⟩)] 25).alloc (.cells #[.int .i64 0] 41)
  have xr := Box.new (W.alloc (.cells #[.pointer (some ⟨P, 0, none⟩)] 25)) #[.int .i64 0] 41
  rw [show (W.alloc (.cells #[.pointer (some ⟨P, 0, none⟩)] 25)).heap.size = W.heap.size + 1 by simp] at xr
  generalize hwa : (W.alloc (.cells #[.pointer (some ⟨P, 0, none⟩)] 25)).alloc (.cells #[.int .i64 0] 41) = wa at a2 z2 xp xr
  have HWA : Hid ((W.alloc (.cells #[.pointer (some ⟨P, 0, none⟩)] 25)).alloc (.cells #[.int .i64 0] 41) = wa) := hwa
  have p1 : PZ (fun j => E j ∨ j = W.heap.size ∨ j = W.heap.size + 1) wa.drew P D B k := h.wide a2.drew (fun j hj => by
    have hsz : wa.drew.heap.size = W.heap.size + 2 := z2
    rcases hj with hj | hj | hj
    · exact .inl hj
    · exact .inr (by omega)
    · exact .inr (by omega))
  have k1 : Kept E W wa.drew := h.kept a2.drew
  obtain ⟨x, ⟨ew, em, eg⟩, hop, d5, d6, d7, d8, hend⟩ := pz_open p1 hs.op
  have c5 : W.cell? ⟨P, 5, none⟩ = some (.bool true) := (World.cell?_of_block (a := ⟨P, 5, none⟩) (a2.drew.block P hPl)).symm.trans d5
  have c6 : W.cell? ⟨P, 6, none⟩ = some (.map (some x.wb)) := (World.cell?_of_block (a := ⟨P, 6, none⟩) (a2.drew.block P hPl)).symm.trans d6
  have c7 : W.cell? ⟨P, 7, none⟩ = some (.slice x.mo x.made.length x.mc) := (World.cell?_of_block (a := ⟨P, 7, none⟩) (a2.drew.block P hPl)).symm.trans d7
  have HTH := Lib.hid h.there
  have HTL := Lib.hid h.tab.lt
  have HE := Lib.hid hend
  have HOP := Lib.hid hop
  have HK1 := Lib.hid k1
  have HX := Lib.hid (And.intro (show Box wa.drew W.heap.size #[.pointer (some ⟨P, 0, none⟩)] from xp) (show Box wa.drew (W.heap.size + 1) #[.int .i64 0] from xr))
  have HEQ := Lib.hid (And.intro ew (And.intro em hs))
  have hmc := hop.made.len_le
  generalize hxm : x.mo = xm at c7
  have HXM := Lib.hid hxm
  clear h p1 hend hop k1 xp xr d5 d6 d7 d8 ew em eg hs a2 z2 hwa hxm
  refine (callsIn_wide (n := 9)).1 ?_
  refine callsIn_of_wp_marks Tryz.func44 rfl trivial ?_ rfl
  refine wpIn_mono (Q := retPost 9 Tryz.f44 (fun e w' => e = .returned (.int .i64 0) ∧ ∃ C, PZ E w' P D C (k + 300000) ∧ AP.Undone A0 C ∧ Kept E W w')) ?_ (fun e a w hq => by cases e <;> first | exact hq | exact hq.elim)
  refine wpIn_wide.2 ?_
  simp only [Tryz.ntmps44, List.size_toArray, List.length_cons, List.length_nil, Nat.reduceAdd, Nat.reduceSub, Array.replicate_succ, Array.replicate_zero, List.push_toArray, List.append_toArray, List.nil_append, List.cons_append]
  go_wp2_with fail
  go_region
  go_wp2_with fail
  rw [HWA.out]
  refine HE.out.mono ?_
  rintro e w2 ⟨rfl, p2, k2⟩
  have wasM := HOP.out.was.of_block (k2.block _ (.inr (.inl rfl)))
  have hfew := HOP.out.few.1
  have HKS := Lib.hid (keys_sorted wasM (by omega))
  have HKF := Lib.hid (keys_fn (some x.wb) w2)
  have H2 := Lib.hid (And.intro p2 k2)
  clear HE p2 k2 wasM c5 c6 c7
  go_wp2_with fail
  refine HKF.out.mono ?_
  rintro e w3 ⟨rfl, hw3⟩
  subst hw3
  go_wp2_with fail
  refine HKS.out.mono ?_
  rintro e w4 ⟨ao, cc, ks, rfl, hnd, hmem, hkl, hkw, hkc, b4⟩
  obtain ⟨p2, k2⟩ := H2.out
  have p4 := p2.wide b4 (T := fun j => ((E j ∨ j = W.heap.size ∨ j = W.heap.size + 1) ∨ opB (some x) j) ∨ (w2.heap.size ≤ j ∧ j < w4.heap.size)) (fun j hj => hj.elim .inl .inr)
  have k24 := p2.kept b4
  have H4 := Lib.hid (And.intro p4 (And.intro k2 k24))
  have HB := Lib.hid (Back.start B o)
  have HKC := Lib.hid (And.intro hnd (And.intro hmem (And.intro hkl (And.intro hkw hkc))))
  have hkn : ks.length ≤ 60000 := by
    obtain ⟨ew, em, hs⟩ := HEQ.out
    have h1 := AP.len_ints (n := B.cnt) hnd (fun y hy => by
      obtain ⟨s, hsw⟩ := Option.isSome_iff_exists.1 ((hmem y).1 hy)
      obtain ⟨m, rfl, hm, _⟩ := hs.was y s (by rw [ew]; exact hsw)
      exact ⟨m, rfl, ((hs.has m).2 (.inl hm)).2.1⟩)
    have := hs.good.most
    have := hs.good.few
    omega
  clear HKF HKS H2 p2 k2 p4 k24 b4 hnd hmem hkl hkw hkc
  go_wp2_with fail
  go_loopw [31] (fun iv wr => ∃ i : Nat, iv = .int .i64 i ∧ i ≤ ks.length ∧ ∃ C, PZ (fun j => ((E j ∨ j = W.heap.size ∨ j = W.heap.size + 1) ∨ opB (some x) j) ∨ (w2.heap.size ≤ j ∧ j < w4.heap.size)) wr P D C (k + 3 * i) ∧ Back B C o (ks.take i) ∧ Kept (fun j => ((E j ∨ j = W.heap.size ∨ j = W.heap.size + 1) ∨ opB (some x) j) ∨ (w2.heap.size ≤ j ∧ j < w4.heap.size)) w4 wr) (fun iv _ => 60001 - (Go.RowKit.intOf iv).toNat)
  case atStart => exact ⟨0, rfl, Nat.zero_le _, _, H4.out.1, HB.out, Kept.refl _ _⟩
  case round =>
    obtain ⟨i, rfl, hi, C, hz, hb, hk4⟩ := hrel
    obtain ⟨hnd, hmem, hkl, hkw, hkc⟩ := HKC.out
    obtain ⟨_, k2, k24⟩ := H4.out
    obtain ⟨ew, em, hs⟩ := HEQ.out
    have yp := ((HX.out.1.of_block (k2.block _ (.inl (.inr (.inl rfl))))).of_block (k24.block _ (.inl (.inr (.inl rfl))))).of_block (hk4.block _ (.inl (.inl (.inr (.inl rfl)))))
    have b0 : wr.cell? ⟨W.heap.size, 0, none⟩ = some (.pointer (some ⟨P, 0, none⟩)) := yp.cell 0 _ rfl
    by_cases hlt : i < ks.length
    · obtain ⟨y, hy⟩ : ∃ y, ks[i]? = some y := ⟨_, List.getElem?_eq_getElem hlt⟩
      obtain ⟨g, rfl, hg1, hg2, hgc⟩ := hkc i y hy
      have hyc : wr.cell? ⟨g, i, none⟩ = some (.int .i64 y) := uk_cell hk4 (.inr ⟨hg1, hg2⟩) hgc
      have hw1 := (hmem y).1 (List.mem_of_getElem? hy)
      obtain ⟨s, hsw⟩ := Option.isSome_iff_exists.1 hw1
      have hso : o.was y = some s := by rw [ew]; exact hsw
      obtain ⟨m, rfl, hm, hsc⟩ := hs.was y s hso
      have hin : B.In m := (hs.has m).2 (.inl hm)
      have hsl : s.length = 504 := by rw [hsc]; exact hl m hm
      have HPI := Lib.hid (pz_pin hz (by omega) m ((hb.in_ m).2 hin))
      have hil : (i : Int) < (ks.length : Int) := by omega
      have HZR := Lib.hid (And.intro hz (And.intro hb hk4))
      have HSM := Lib.hid (And.intro hso (And.intro hsl hy))
      clear hz hb hk4 hkc hmem hnd hkl hkw k2 k24 hs ew em yp hgc hw1 hm hsc hin hg1 hg2 hy
      go_wp2_with fail
      refine HPI.out.mono ?_
      rintro e w5 ⟨fb, db, cap, rfl, f5, k5⟩
      have bd5 : Below w5.heap.size w5 w5.drew := (Below.refl _ _).drew
      have f5d := f5.next bd5
      have k5d := k5.trans (f5.kept bd5)
      have wasF : ∀ w, Kept (fun j => ((E j ∨ j = W.heap.size ∨ j = W.heap.size + 1) ∨ opB (some x) j) ∨ (w2.heap.size ≤ j ∧ j < w4.heap.size)) wr w → (Instr.lookup 138 (.map (some x.wb)) (.int .i64 (m : Int)) false).run Tryz.prog w = .ok (.string (str s)) w := fun w hk => by
        have hm := (((HOP.out.was.of_block (H4.out.2.1.block _ (.inr (.inl rfl)))).of_block (H4.out.2.2.block _ (.inr (.inl rfl)))).of_block (HZR.out.2.2.block _ (.inl (.inr (.inl rfl))))).of_block (hk.block _ (.inl (.inr (.inl rfl))))
        have := UK.StrMap.get1 hm Tryz.underlying3 Tryz.underlying9 Tryz.underlying138 (fun w => by kernel_rfl) (m : Int) (HKC.out.2.2.2.1 _ (List.mem_of_getElem? HSM.out.2.2))
        rw [hsw] at this
        exact this
      have lk5 := wasF _ k5d
      have HED := Lib.hid (pf_edit f5d (by omega))
      have HWF := Lib.hid wasF
      have K5 := Lib.hid k5d
      clear HPI f5 k5 hyc b0 f5d k5d bd5 wasF
      go_wp2_with fail
      go_region_with (first
        | (go_at_call 124; refine HED.out.mono ?_; rintro e w6 ⟨rfl, f6, k6⟩; obtain ⟨yb, y1, y2, y3, y4, y5⟩ := f6.bytes; have lk6 := HWF.out w6 (K5.out.trans k6); have hcp := UK.run_copy (P := Tryz.prog) (dT := 141) (sT := 9) (ty := 3) Tryz.underlying141 (fun w => by kernel_rfl) y1 0 504 cap s (by rw [HSM.out.2.1]; exact Nat.le_refl _) (by rw [HSM.out.2.1]; omega); replace f6 := Lib.hid f6; replace k6 := Lib.hid k6; replace y1 := Lib.hid y1; replace y2 := Lib.hid y2; replace y3 := Lib.hid y3))
      all_goals
        obtain ⟨hso, hsl, hy⟩ := HSM.out
        obtain ⟨hz, hb, hk4⟩ := HZR.out
        have y1' := y1.out
        have y2' := y2.out
        have hb6 := y1'.setCells s 0 (by rw [hsl]; omega)
        have ho6 := (Only.refl db w6).setCells (UK.cellsOf s) (o := 0)
        obtain ⟨p7, k7⟩ := f6.out.write ho6 hb6 ((UK.wr_length _ _ _ (by rw [hsl]; omega)).trans y2')
        rw [wr_full yb s hsl, keep_none hb.op] at p7
        have hb2 := hb.step (s := s) hso
        rw [← take_snoc hy] at hb2
        generalize w6.setCells db 0 (UK.cellsOf s) = w7 at p7 k7 hcp hb6 ho6 ⊢
        have HU := Lib.hid (pf_unpin p7)
        have HR0 := Lib.hid (And.intro hb2 (hk4.trans ((K5.out.trans k6.out).trans k7)))
        clear HED HWF K5 f6 k6 y1 y2 y3 y4 y5 y1' y2' hcp hb6 ho6 p7 k7 hso hsl hy hz hb hk4 lk5 lk6 hb2
        go_wp2_with fail
        refine HU.out.mono ?_
        rintro e w8 ⟨rfl, p8, k8⟩
        have HR : Hid (PZ (fun j => ((E j ∨ j = W.heap.size ∨ j = W.heap.size + 1) ∨ opB (some x) j) ∨ (w2.heap.size ≤ j ∧ j < w4.heap.size)) w8 P D (C.put m s) (k + 3 * (i + 1)) ∧ Back B (C.put m s) o (ks.take (i + 1)) ∧ Kept (fun j => ((E j ∨ j = W.heap.size ∨ j = W.heap.size + 1) ∨ opB (some x) j) ∨ (w2.heap.size ≤ j ∧ j < w4.heap.size)) w4 w8) := ⟨p8, HR0.out.1, HR0.out.2.trans k8⟩
        clear HU HR0 p8 k8 HSM HZR
        go_wp2_with fail
        go_roundw
        case rel => exact ⟨i + 1, by go_num, by omega, _, HR.out⟩
        case measure => simp [Go.RowKit.intOf]; omega
    · have hge : ¬ (i : Int) < (ks.length : Int) := by omega
      have HC1 := Lib.hid (And.intro hz (And.intro hb hk4))
      clear hz hb hk4 hnd hmem hkl hkw hkc k2 k24 ew em hs yp
      go_wp2_with fail
      refine (back_fn _ _ _ _).mono ?_
      rintro e w5 ⟨rfl, hw5⟩
      subst hw5
      have bq : Below wr.heap.size wr (wr.alloc (.cells #[.slice xm x.made.length x.mc] 102)) := (Below.refl _ _).alloc (Nat.le_refl _) _
      have sq : (wr.alloc (.cells #[.slice xm x.made.length x.mc] 102)).heap.size = wr.heap.size + 1 := by simp
      have xq := Box.new wr #[.slice xm x.made.length x.mc] 102
      generalize hwq : wr.alloc (.cells #[.slice xm x.made.length x.mc] 102) = wq at bq sq xq
      clear hwq
      go_wp2_with fail
      obtain ⟨hz, hb, hk4⟩ := HC1.out
      obtain ⟨ew, em, hs⟩ := HEQ.out
      obtain ⟨_, k2, k24⟩ := H4.out
      have hzq := hz.wide bq (T := fun j => (((E j ∨ j = W.heap.size ∨ j = W.heap.size + 1) ∨ opB (some x) j) ∨ (w2.heap.size ≤ j ∧ j < w4.heap.size)) ∨ j = wr.heap.size) (fun j hj => by
        rcases hj with hj | hj
        · exact .inl hj
        · exact .inr (by omega))
      have kq := hz.kept bq
      have HB0 := Lib.hid (uk_cell kq (.inl (.inl (.inr (.inl rfl)))) b0)
      have HXQ := Lib.hid (xq.cell 0 _ rfl)
      have HMD := Lib.hid (fun (j : Nat) (hj : j < x.made.length) => by
        have hy : x.made[j]? = some x.made[j] := List.getElem?_eq_getElem hj
        obtain ⟨g, e, hc⟩ := HOP.out.made.at_ hy
        have hOg : opB (some x) g := .inr (.inl e)
        have c1 := uk_cell kq (.inl (.inr hOg)) (uk_cell hk4 (.inl (.inr hOg)) (uk_cell k24 (.inr hOg) (uk_cell k2 (.inr hOg) hc)))
        exact (show ∃ g, xm = some ⟨g, 0, none⟩ ∧ opB (some x) g ∧ wq.cell? ⟨g, j, none⟩ = some (.int .i64 (x.made.getD j 0)) from ⟨g, by rw [← HXM.out, e], hOg, by rw [List.getD_eq_getElem?_getD, hy]; exact c1⟩))
      have HI0 := Lib.hid (fun d o => UndoI.start hzq (hb.good hs.good) hb.op d o)
      have HIP := Lib.hid (And.intro hzq.there hzq.tab.lt)
      have hml : x.made.length ≤ 60000 := by rw [← em]; exact hs.made_len
      have HST := Lib.hid (fun (pre : List (Int × Int)) (y : Int × Int) (w : World) (hI : UndoI (fun j => (((E j ∨ j = W.heap.size ∨ j = W.heap.size + 1) ∨ opB (some x) j) ∨ (w2.heap.size ≤ j ∧ j < w4.heap.size)) ∨ j = wr.heap.size) wq P D C (k + 3 * i) pre w) (hx : pre ++ [y] <+: backL x.made) => by
        obtain ⟨hm1, hm2⟩ := back_new (by rw [← em]; exact hs.nod) hx
        obtain ⟨m, e, hmA⟩ := hs.made y.2 (by rw [em]; exact hm1)
        have hmB : B.In m := (hs.has m).2 (.inr (by rw [em, ← e]; exact hm1))
        have hmC : C.In m := by have := hmB; unfold AP.In at this ⊢; rw [hb.cnt, hb.free]; exact this
        have := hI.step (by have := pre_len hx; omega) hmC (by rw [← e]; exact hm2) y.1
        rw [← e] at this
        exact this)
      have HUN := Lib.hid (fun C2 (hg : Given C C2 x.made.reverse) => undone_of hs (by rw [List.take_of_length_le (by omega)] at hb; exact hb) (fun y => by rw [ew]; exact (HKC.out.2.1 y)) (by rw [em]; exact hg))
      have HRQ := Lib.hid (((((HX.out.2.of_block (k2.block _ (.inl (.inr (.inr rfl))))).of_block (k24.block _ (.inl (.inr (.inr rfl))))).of_block (hk4.block _ (.inl (.inl (.inr (.inr rfl)))))).of_block (kq.block _ (.inl (.inl (.inr (.inr rfl)))))).lt)
      have HKW := Lib.hid (And.intro k2 (And.intro k24 (And.intro hk4 kq)))
      clear hz hb hk4 ew em hs k2 k24 hzq kq xq bq sq b0 HC1 HEQ H4 HB HKC HXM
      refine UK.wp_range_on (n := 3) (enc := encP) (zs := backL x.made) (I := UndoI (fun j => (((E j ∨ j = W.heap.size ∨ j = W.heap.size + 1) ∨ opB (some x) j) ∨ (w2.heap.size ≤ j ∧ j < w4.heap.size)) ∨ j = wr.heap.size) wq P D C (k + 3 * i)) (lb := #[.pointer (some ⟨wr.heap.size, 0, none⟩)]) (gf := 200) (a₁ := ?a1) rfl (enters_of Tryz.func200 (by kernel_rfl) rfl) (fun _ => rfl) ?start ?put ?assign ?body ?iter ?done
      case assign =>
        intro l y w K hK
        gi_wp2
        exact hK
      case start => exact fun o => HI0.out _ o
      case put => exact fun pre w o h hl => h.put HIP.out.1 HIP.out.2 (.inr rfl) o
      case iter =>
        intro l J w hY hJ h0
        refine back_in 3 l wr.heap.size xm x.mc x.made (by omega) J w hY (fun pre w1 hj => ?_) h0
        obtain ⟨_, _, _, hk⟩ := hJ pre w1 hj
        refine ⟨uk_cell hk (.inr rfl) HXQ.out, fun j hj => ?_⟩
        obtain ⟨g, e, hO, hc⟩ := HMD.out j hj
        exact ⟨g, e, uk_cell hk (.inl (.inl (.inr hO))) hc⟩
      case body =>
        rintro l pre ⟨yi, ym⟩ w hI hx
        have HG := Lib.hid (HST.out pre (yi, ym) w hI hx)
        obtain ⟨_, _, _, hk⟩ := hI
        have b1 : w.cell? ⟨W.heap.size, 0, none⟩ = some (.pointer (some ⟨P, 0, none⟩)) := uk_cell hk (.inl (.inl (.inl (.inr (.inl rfl))))) HB0.out
        clear hk hx HST HI0 HIP HXQ HMD HB0
        gi_wp2_with fail
        refine ⟨trivial, ?_⟩
        refine (CallsIn.inRound l (callsIn_wide.2 HG.out)).mono ?_
        rintro e w5 ⟨rfl, h1⟩
        have H1 := Lib.hid h1
        clear HG h1
        gi_wp2
        exact H1.out
      case done =>
        intro w hI hD
        have hI0 := hI
        obtain ⟨C2, hz, hg, hk⟩ := hI
        rw [backL_snd] at hg
        obtain ⟨k2, k24, k4, kq⟩ := HKW.out
        have yr := ((((HX.out.2.of_block (k2.block _ (.inl (.inr (.inr rfl))))).of_block (k24.block _ (.inl (.inr (.inr rfl))))).of_block (k4.block _ (.inl (.inl (.inr (.inr rfl)))))).of_block (kq.block _ (.inl (.inl (.inr (.inr rfl)))))).of_block (hk.block _ (.inl (.inl (.inl (.inr (.inr rfl))))))
        have r0 : w.cell? ⟨W.heap.size + 1, 0, none⟩ = some (.int .i64 0) := yr.cell 0 _ rfl
        have rf := yr.free 0
        have HI := Lib.hid (And.intro hI0 (And.intro hD yr))
        clear hI0 hz hg hk k2 k24 k4 kq yr hD HST HI0 HXQ HMD HB0
        go_wp2_with fail
        obtain ⟨⟨C2, hz, hg, hk⟩, hD, yr⟩ := HI.out
        obtain ⟨k2, k24, k4, kq⟩ := HKW.out
        rw [backL_snd] at hg
        have hrl : W.heap.size + 1 < wq.heap.size := HRQ.out
        have hWs : W.heap.size ≤ wq.heap.size := by omega
        have o1 : Only (W.heap.size + 1) w (w.setCell ⟨W.heap.size + 1, 0, none⟩ (.int .i64 0)) := (Only.refl _ _).set 0 _
        have y1 := yr.set 0 (.int .i64 0)
        have hD1 : (w.setCell ⟨W.heap.size + 1, 0, none⟩ (.int .i64 0)).heap[wq.heap.size]? = some (.deferred (some [])) := (o1.block _ (Array.getElem?_eq_some_iff.1 hD).1 (by omega)).trans hD
        have z1 := hz.over (R := fun j => j = W.heap.size + 1) (fun j hj => .inl (.inl (.inl (.inl (.inr (.inr hj)))))) (fun e => by have e2 : 0 = W.heap.size + 1 := e; have := HTL.out; omega) o1.size (fun j hj hn => o1.block j hj hn) (T := fun j => (((((E j ∨ j = W.heap.size ∨ j = W.heap.size + 1) ∨ opB (some x) j) ∨ (w2.heap.size ≤ j ∧ j < w4.heap.size)) ∨ j = wr.heap.size) ∨ j = wq.heap.size ∨ j = wq.heap.size + 1)) (fun j hj => .inl hj)
        have kE : Kept E W (w.setCell ⟨W.heap.size + 1, 0, none⟩ (.int .i64 0)) := (((((HK1.out.trans (k2.mono (fun j hj => .inl (.inl hj)))).trans (k24.mono (fun j hj => .inl (.inl hj)))).trans (k4.mono (fun j hj => .inl (.inl (.inl hj))))).trans (kq.mono (fun j hj => .inl (.inl (.inl hj))))).trans (hk.mono (fun j hj => .inl (.inl (.inl (.inl hj)))))).trans ⟨o1.os, o1.tape, o1.output, o1.size, fun j hj => o1.block j (Nat.lt_of_lt_of_le (HTH.out j hj) (Nat.le_trans hWs hk.size)) (by have := HTH.out j hj; omega)⟩
        generalize w.setCell ⟨W.heap.size + 1, 0, none⟩ (.int .i64 0) = wf at o1 y1 hD1 z1 kE ⊢
        have o2 := putObj_only wf wq.heap.size (.deferred none)
        have z2 := z1.over (R := fun j => j = wq.heap.size) (fun j hj => .inr (.inl hj)) (fun e => by have e2 : 0 = wq.heap.size := e; have := HTL.out; omega) o2.size (fun j hj hn => o2.block j hj hn) (T := E) (fun j hj => .inl (.inl (.inl (.inl (.inl (.inl hj))))))
        have y2 := y1.of_block (o2.block _ y1.lt (by omega))
        have c2 : (wf.putObj wq.heap.size (.deferred none)).cell? ⟨W.heap.size + 1, 0, none⟩ = some (.int .i64 0) := y2.cell 0 _ rfl
        have k2' : Kept E W (wf.putObj wq.heap.size (.deferred none)) := kE.trans ⟨o2.os, o2.tape, o2.output, o2.size, fun j hj => o2.block j (Nat.lt_of_lt_of_le (HTH.out j hj) kE.size) (by have := HTH.out j hj; omega)⟩
        refine ⟨by simp, .inl ⟨_, _, rfl, run_takeDeferred hD1, ?_⟩⟩
        generalize wf.putObj wq.heap.size (.deferred none) = wg at z2 c2 k2' ⊢
        refine ⟨_, (by simp [results, Tryz.results44, go_sem, c2] : (results Tryz.f44 _).run Tryz.prog wg = .ok (.int .i64 0) wg), rfl, C2, z2.up ?_, HUN.out C2 hg, k2'⟩
        rw [backL_length]
        omega
end
end Go.Proofs.YtokgidhokcoadaaGreatDoor
namespace Go.Proofs.YtokgidhokcoadaaGreatDoor
open Go.RowKit
open UK (str BytesAt nth Only Row Box)
section
variable {S : Nat → Prop} {W W' : World} {P D T k c d : Nat} {A : AP} {X Y : List KV} {ps : List Nat} {ao bo : Option Addr} {op : Bool}
set_option linter.unusedSimpArgs false in
set_option maxHeartbeats 4000000 in
set_option maxRecDepth 100000 in
theorem does_undo {A0 : AP} (h : RM S W P D T ao c X bo d Y A k) (hS : ∀ j, S j → j < W.heap.size) (hk : k + 400000 < 900000000) (nn : Int) (K V : UInt64) (hop : op = true ↔ A.op ≠ none) (hsi : op = true → AP.SinceX A0 A) (hl0 : ∀ m, A0.Has m → (A0.c m).length = 504) :
    Calls Tryz.prog 15 #[.agg (rcells P T ao X.length c bo Y.length d op), .agg (acells8 5 nn K V)] W fun e w' => DoesR S W w' P D (k + 400000) (fun A' X' Y' op' => Y' = Y ∧ op' = false ∧ (op = false → A' = A ∧ X' = X) ∧ (op = true → AP.Undone A0 A' ∧ X' = Y)) e := by
  have HOP := Lib.hid hop
  have HGd := Lib.hid (And.intro hsi hl0)
  clear hop hsi hl0
  obtain ⟨hb, hbel, hact⟩ := h.boxed (op := op) 5 nn K V
  have a0 : (((W.alloc (.cells (rcells P T ao X.length c bo Y.length d op) 31)).alloc (.cells (acells8 5 nn K V) 35)).alloc (.cells zcells8 31)).cell? ⟨W.heap.size + 1, 0, none⟩ = some (.int .i64 5) := hact.cell 0 _ rfl
  have a1 : (((W.alloc (.cells (rcells P T ao X.length c bo Y.length d op) 31)).alloc (.cells (acells8 5 nn K V) 35)).alloc (.cells zcells8 31)).cell? ⟨W.heap.size + 1, 1, none⟩ = some (.int .i64 nn) := hact.cell 1 _ rfl
  obtain ⟨n, hn⟩ : ∃ n, n = timesOf nn := ⟨_, rfl⟩
  obtain ⟨hn40, hne⟩ := timesOf_le nn
  rw [← hn] at hn40 hne
  have HE := Lib.hid hne
  have HB := Lib.hid (And.intro hb (And.intro hbel hact))
  have HJ := Lib.hid hS
  generalize hW3 : ((W.alloc (.cells (rcells P T ao X.length c bo Y.length d op) 31)).alloc (.cells (acells8 5 nn K V) 35)).alloc (.cells zcells8 31) = w3 at HB a0 a1
  have HW3 := Lib.hid hW3
  rw [← hW3] at a0 a1
  clear h hb hbel hact hS hn hW3 hne
  go_enter Tryz.func15, Tryz.ntmps15
  go_upto_region 1 with (fail)
  go_cut [6] (fun nv wx => nv = .int .i64 (n : Int) ∧ wx = w3)
  case first =>
    go_wp2_with fail
    go_meet
    case rel => exact ⟨by rw [HE.out], HW3.out⟩
  case rest =>
  obtain ⟨rfl, rfl⟩ := hcut
  clear a0 a1
  have a0 : wc.cell? ⟨W.heap.size + 1, 0, none⟩ = some (.int .i64 5) := HB.out.2.2.cell 0 _ rfl
  have hrb := HB.out.1
  have hkp : Kept S W wc := Kept.of_below HB.out.2.1 HJ.out
  have hth := hrb.rm.tr.pz.there
  have bd : Below wc.heap.size wc wc.drew := (Below.refl _ _).drew
  have hC : Calls Tryz.prog 44 #[.pointer (some ⟨P, 0, none⟩)] wc.drew fun e w' => Ended S W w' W.heap.size P D T ao c X bo d Y op (k + 300000) (fun er B => (op = false → er = 14 ∧ B = A) ∧ (op = true → er = 0 ∧ AP.Undone A0 B)) e := by
    have td : TreeAt (rOwn (fun b => S b ∨ (W.heap.size ≤ b ∧ b < W.heap.size + 3)) T ao bo) wc.drew P D T 1 A k := ⟨hrb.rm.tr.pz.next bd, hrb.rm.tr.box.next bd, hrb.rm.tr.mem⟩
    have hrd := hrb.next ⟨td.pz.up (show k ≤ k + 300000 by omega), td.box, td.mem⟩ (Kept.of_below bd hth)
    have hkd := hkp.trans (Kept.of_below bd (fun j hj => hth j (.inl (.inl hj))))
    cases hopp : op with
    | false =>
      have ho : A.op = none := Classical.byContradiction (fun hn => by have := HOP.out.2 hn; rw [hopp] at this; cases this)
      refine (pz_undo_no td.pz ho).mono ?_
      rintro e w2 ⟨rfl, p2, k2⟩
      rw [hopp] at hrd
      exact ⟨14, A, rfl, hrd.next ⟨p2.up (by omega), td.box.of_block (k2.block T td.mem), td.mem⟩ k2, hkd.trans (k2.mono (fun j hj => .inl (.inl hj))), fun _ => ⟨rfl, rfl⟩, (fun h => by cases h)⟩
    | true =>
      obtain ⟨o, ho⟩ := HGd.out.1 hopp
      refine (pz_undo td.pz ho HGd.out.2 (by omega)).mono ?_
      rintro e w2 ⟨rfl, C, p2, hdn, k2⟩
      rw [hopp] at hrd
      exact ⟨0, C, rfl, hrd.next ⟨p2, td.box.of_block (k2.block T td.mem), td.mem⟩ k2, hkd.trans (k2.mono (fun j hj => .inl (.inl hj))), (fun h => by cases h), fun _ => ⟨rfl, hdn⟩⟩
  have HC := Lib.hid hC
  have hS1 : wc.drew.cell? ⟨W.heap.size, 0, none⟩ = some (.pointer (some ⟨P, 0, none⟩)) ∧ wc.drew.cell? ⟨W.heap.size, 4, none⟩ = some (.bool op) := ⟨hrb.box.cell 0 _ rfl, hrb.box.cell 4 _ rfl⟩
  clear hC hrb hkp hth bd HE HW3
  go_wp2_with fail
  go_upto_region 31 with (fail)
  go_cut [126] (fun bv wx => bv = .bool false ∧ ∃ B, RB S wx W.heap.size P D T ao c X bo d Y op B (k + 300000) ∧ Kept S W wx ∧ (op = false → B = A) ∧ (op = true → AP.Undone A0 B))
  case first =>
    refine wp_region_any (by kernel_rfl) ?_
    refine wpAny_take (i := 0) (v := ?va0) rfl (by kernel_rfl) (by kernel_rfl) (by kernel_rfl) (fun _ _ _ h => h) (Or.inl ⟨by rfl, ?hya0⟩) ?resta0
    case hya0 => (intro w; go_simp; try with_reducible rfl)
    try simp only [Act.put, zA, zB, zC]
    refine wpAny_take (i := 4) (v := ?va4) rfl (by kernel_rfl) (by kernel_rfl) (by kernel_rfl) (fun _ _ _ h => h) (Or.inl ⟨by rfl, ?hya4⟩) ?resta4
    case hya4 => (intro w; go_simp; try with_reducible rfl)
    try simp only [Act.put, zA, zB, zC]
    have hS0 : (fun w' : World => w'.cell? ⟨W.heap.size, 0, none⟩ = some (.pointer (some ⟨P, 0, none⟩)) ∧ w'.cell? ⟨W.heap.size, 4, none⟩ = some (.bool op)) wc.drew := hS1
    refine wpAny_of_late (S := fun w' => w'.cell? ⟨W.heap.size, 0, none⟩ = some (.pointer (some ⟨P, 0, none⟩)) ∧ w'.cell? ⟨W.heap.size, 4, none⟩ = some (.bool op)) (late := fun j => decide (99 ≤ j)) _ _ _ _ ?_
    change wpLate _ _ _ _ _ _ _ _ _ (wc.drew)
    refine wpLate_take (i := 1) (v := ?va1) rfl (by kernel_rfl) (by kernel_rfl) (by kernel_rfl) (by kernel_rfl) (fun _ _ _ h => h) hS0 (by rfl) ?hya1 ?resta1
    case hya1 => (intro w hSw; (try dsimp only at hSw); go_simp; try with_reducible rfl)
    try simp only [Act.put, zA, zB, zC]
    refine wpLate_take (i := 5) (v := ?va5) rfl (by kernel_rfl) (by kernel_rfl) (by kernel_rfl) (by kernel_rfl) (fun _ _ _ h => h) hS0 (by rfl) ?hya5 ?resta5
    case hya5 => (intro w hSw; (try dsimp only at hSw); go_simp; try with_reducible rfl)
    try simp only [Act.put, zA, zB, zC]
    clear hS0
    refine wpLate_one (i := 2) (by kernel_rfl) rfl (fun K hK => ?_)
    go_simp
    refine HC.out.mono ?_
    rintro e w2 ⟨er, B, rfl, hrb, hkp, hq⟩
    (try dsimp only)
    refine hK.out _ _ (fun _ => ⟨hrb.box.cell 0 _ rfl, hrb.box.cell 4 _ rfl⟩) ?_
    clear hK K
    try simp only [Act.put, zA, zB, zC]
    refine wpLate_one (i := 3) (by kernel_rfl) rfl (fun K hK => ?_)
    go_simp
    refine hK.out _ _ (fun _ => ⟨hrb.box.cell 0 _ rfl, hrb.box.cell 4 _ rfl⟩) ?_
    clear hK K
    try simp only [Act.put, zA, zB, zC]
    refine wpLate_one (i := 6) (by kernel_rfl) rfl (fun K hK => ?_)
    go_simp
    refine hK.out _ _ (fun _ => ⟨hrb.box.cell 0 _ rfl, hrb.box.cell 4 _ rfl⟩) ?_
    clear hK K
    try simp only [Act.put, zA, zB, zC]
    refine wpLate_done (by kernel_rfl) ?_ _
    go_wp2_with fail
    go_meet
    case rel =>
      refine ⟨?_, B, hrb, hkp, fun h => (hq.1 h).2, fun h => (hq.2 h).2⟩
      cases op with
      | false => rw [(hq.1 rfl).1]; rfl
      | true => rw [(hq.2 rfl).1]; rfl
  case rest =>
    obtain ⟨rfl, B, hrb, hkp, q1, q2⟩ := hcut
    have c2 : wc.cell? ⟨W.heap.size, 2, none⟩ = some (.slice ao X.length c) := hrb.box.cell 2 _ rfl
    have c3 : wc.cell? ⟨W.heap.size, 3, none⟩ = some (.slice bo Y.length d) := hrb.box.cell 3 _ rfl
    have c4 : wc.cell? ⟨W.heap.size, 4, none⟩ = some (.bool op) := hrb.box.cell 4 _ rfl
    have f3 := hrb.box.free 3
    have f2 := hrb.box.free 2
    have f4 := hrb.box.free 4
    clear HC hS1
    cases op with
    | false =>
      obtain rfl := q1 rfl
      clear q1 q2
      have o : Only W.heap.size wc (wc.setCell ⟨W.heap.size, 4, none⟩ (.bool false)) := (Only.refl _ _).set 4 _
      have bx : Box (wc.setCell ⟨W.heap.size, 4, none⟩ (.bool false)) W.heap.size (rcells P T ao X.length c bo Y.length d false) := by
        have := hrb.box.set 4 (.bool false)
        simpa [rcells] using this
      have hrb2 := hrb.turn o bx hrb.rm.px hrb.rm.py (fun b hb => hb)
      have hk2 : Kept S W (wc.setCell ⟨W.heap.size, 4, none⟩ (.bool false)) := hkp.trans ⟨o.os, o.tape, o.output, o.size, fun j hj => o.block j (Nat.lt_of_lt_of_le (HJ.out j hj) hkp.size) (by have := HJ.out j hj; omega)⟩
      have y1 := hrb2.box
      have y3 := hrb2.res
      have n0 : (wc.setCell ⟨W.heap.size, 4, none⟩ (.bool false)).cell? ⟨W.heap.size, 0, none⟩ = some (.pointer (some ⟨P, 0, none⟩)) := y1.cell 0 _ rfl
      have n1 : (wc.setCell ⟨W.heap.size, 4, none⟩ (.bool false)).cell? ⟨W.heap.size, 1, none⟩ = some (.pointer (some ⟨T, 0, none⟩)) := y1.cell 1 _ rfl
      have n2 : (wc.setCell ⟨W.heap.size, 4, none⟩ (.bool false)).cell? ⟨W.heap.size, 2, none⟩ = some (.slice ao X.length c) := y1.cell 2 _ rfl
      have n3 : (wc.setCell ⟨W.heap.size, 4, none⟩ (.bool false)).cell? ⟨W.heap.size, 3, none⟩ = some (.slice bo Y.length d) := y1.cell 3 _ rfl
      have n4 : (wc.setCell ⟨W.heap.size, 4, none⟩ (.bool false)).cell? ⟨W.heap.size, 4, none⟩ = some (.bool false) := y1.cell 4 _ rfl
      have m0 : (wc.setCell ⟨W.heap.size, 4, none⟩ (.bool false)).cell? ⟨W.heap.size + 2, 0, none⟩ = some (.pointer none) := y3.cell 0 _ rfl
      have m1 : (wc.setCell ⟨W.heap.size, 4, none⟩ (.bool false)).cell? ⟨W.heap.size + 2, 1, none⟩ = some (.pointer none) := y3.cell 1 _ rfl
      have m2 : (wc.setCell ⟨W.heap.size, 4, none⟩ (.bool false)).cell? ⟨W.heap.size + 2, 2, none⟩ = some (.slice none 0 0) := y3.cell 2 _ rfl
      have m3 : (wc.setCell ⟨W.heap.size, 4, none⟩ (.bool false)).cell? ⟨W.heap.size + 2, 3, none⟩ = some (.slice none 0 0) := y3.cell 3 _ rfl
      have m4 : (wc.setCell ⟨W.heap.size, 4, none⟩ (.bool false)).cell? ⟨W.heap.size + 2, 4, none⟩ = some (.bool false) := y3.cell 4 _ rfl
      have mf : ∀ j, (wc.setCell ⟨W.heap.size, 4, none⟩ (.bool false)).frozen? ⟨W.heap.size + 2, j, none⟩ = false := y3.free
      have HD := Lib.hid (hrb2.done (Q := fun A' X' Y' op' => Y' = Y ∧ op' = false ∧ A' = B ∧ X' = X) (show k + 300000 ≤ k + 400000 by omega) hk2 HJ.out ⟨rfl, rfl, rfl, rfl⟩)
      have HY := Lib.hid y3
      clear hrb hkp hrb2 hk2 y1 y3 o bx HOP HB
      go_wp2_with fail
      refine bodyPost_ret (UK.box_ret2 rfl _ (HY.out.fill5 _ _ _ _ _) rfl run_under rfl run_size) rfl ?_
      exact HD.out
    | true =>
      have hdn := q2 rfl
      clear q1 q2
      have o : Only W.heap.size wc ((wc.setCell ⟨W.heap.size, 2, none⟩ (.slice bo Y.length d)).setCell ⟨W.heap.size, 4, none⟩ (.bool false)) := ((Only.refl _ _).set 2 _).set 4 _
      have bx : Box ((wc.setCell ⟨W.heap.size, 2, none⟩ (.slice bo Y.length d)).setCell ⟨W.heap.size, 4, none⟩ (.bool false)) W.heap.size (rcells P T bo Y.length d bo Y.length d false) := by
        have := (hrb.box.set 2 (.slice bo Y.length d)).set 4 (.bool false)
        simpa [rcells] using this
      have hrb2 := hrb.turn o bx hrb.rm.py hrb.rm.py (fun b hb => .inr (hb.elim id id))
      have hk2 : Kept S W ((wc.setCell ⟨W.heap.size, 2, none⟩ (.slice bo Y.length d)).setCell ⟨W.heap.size, 4, none⟩ (.bool false)) := hkp.trans ⟨o.os, o.tape, o.output, o.size, fun j hj => o.block j (Nat.lt_of_lt_of_le (HJ.out j hj) hkp.size) (by have := HJ.out j hj; omega)⟩
      have y1 := hrb2.box
      have y3 := hrb2.res
      have n0 : ((wc.setCell ⟨W.heap.size, 2, none⟩ (.slice bo Y.length d)).setCell ⟨W.heap.size, 4, none⟩ (.bool false)).cell? ⟨W.heap.size, 0, none⟩ = some (.pointer (some ⟨P, 0, none⟩)) := y1.cell 0 _ rfl
      have n1 : ((wc.setCell ⟨W.heap.size, 2, none⟩ (.slice bo Y.length d)).setCell ⟨W.heap.size, 4, none⟩ (.bool false)).cell? ⟨W.heap.size, 1, none⟩ = some (.pointer (some ⟨T, 0, none⟩)) := y1.cell 1 _ rfl
      have n2 : ((wc.setCell ⟨W.heap.size, 2, none⟩ (.slice bo Y.length d)).setCell ⟨W.heap.size, 4, none⟩ (.bool false)).cell? ⟨W.heap.size, 2, none⟩ = some (.slice bo Y.length d) := y1.cell 2 _ rfl
      have n3 : ((wc.setCell ⟨W.heap.size, 2, none⟩ (.slice bo Y.length d)).setCell ⟨W.heap.size, 4, none⟩ (.bool false)).cell? ⟨W.heap.size, 3, none⟩ = some (.slice bo Y.length d) := y1.cell 3 _ rfl
      have n4 : ((wc.setCell ⟨W.heap.size, 2, none⟩ (.slice bo Y.length d)).setCell ⟨W.heap.size, 4, none⟩ (.bool false)).cell? ⟨W.heap.size, 4, none⟩ = some (.bool false) := y1.cell 4 _ rfl
      have m0 : ((wc.setCell ⟨W.heap.size, 2, none⟩ (.slice bo Y.length d)).setCell ⟨W.heap.size, 4, none⟩ (.bool false)).cell? ⟨W.heap.size + 2, 0, none⟩ = some (.pointer none) := y3.cell 0 _ rfl
      have m1 : ((wc.setCell ⟨W.heap.size, 2, none⟩ (.slice bo Y.length d)).setCell ⟨W.heap.size, 4, none⟩ (.bool false)).cell? ⟨W.heap.size + 2, 1, none⟩ = some (.pointer none) := y3.cell 1 _ rfl
      have m2 : ((wc.setCell ⟨W.heap.size, 2, none⟩ (.slice bo Y.length d)).setCell ⟨W.heap.size, 4, none⟩ (.bool false)).cell? ⟨W.heap.size + 2, 2, none⟩ = some (.slice none 0 0) := y3.cell 2 _ rfl
      have m3 : ((wc.setCell ⟨W.heap.size, 2, none⟩ (.slice bo Y.length d)).setCell ⟨W.heap.size, 4, none⟩ (.bool false)).cell? ⟨W.heap.size + 2, 3, none⟩ = some (.slice none 0 0) := y3.cell 3 _ rfl
      have m4 : ((wc.setCell ⟨W.heap.size, 2, none⟩ (.slice bo Y.length d)).setCell ⟨W.heap.size, 4, none⟩ (.bool false)).cell? ⟨W.heap.size + 2, 4, none⟩ = some (.bool false) := y3.cell 4 _ rfl
      have mf : ∀ j, ((wc.setCell ⟨W.heap.size, 2, none⟩ (.slice bo Y.length d)).setCell ⟨W.heap.size, 4, none⟩ (.bool false)).frozen? ⟨W.heap.size + 2, j, none⟩ = false := y3.free
      have HD := Lib.hid (hrb2.done (Q := fun A' X' Y' op' => Y' = Y ∧ op' = false ∧ AP.Undone A0 A' ∧ X' = Y) (show k + 300000 ≤ k + 400000 by omega) hk2 HJ.out ⟨rfl, rfl, hdn, rfl⟩)
      have HY := Lib.hid y3
      clear hrb hkp hrb2 hk2 y1 y3 o bx HOP HB
      go_wp2_with fail
      refine bodyPost_ret (UK.box_ret2 rfl _ (HY.out.fill5 _ _ _ _ _) rfl run_under rfl run_size) rfl ?_
      exact HD.out
end
end Go.Proofs.YtokgidhokcoadaaGreatDoor
