/-
  A range over a function whose rounds all go on; slices.Values, slices.AppendSeq, slices.Collect, slices.Sort, slices.Sorted of numbers.
-/
import Derived.Test.YteelmbpmmobpjaaGreatDoorValC
import Derived.Test.YteelmbpmmobpjaaGreatDoorSorts
import Derived.RangeFuncNested
import Derived.RangeFuncBound
import Derived.RangeFuncCalls
import Derived.RangeFuncLeaves
import Derived.OwnWalkIn
import Derived.TacticsInMore
import Derived.LoopNIn
import Derived.LoopIn
import Derived.Lib.SlKeysI
namespace Go.Proofs.YteelmbpmmobpjaaGreatDoor
open Go.RowKit
open UK (str BytesAt nth Only Row Box)
open Go.BigFrame
/-- the law: every round goes on -/
theorem UK.wp_range_on {P : Program} {α : Type} {g : Operand} {ps : Array Tmp} {assign body : Code} {Q : Exit → Act → World → Prop} {a : Act} {w : World} {n gf : Nat} {lb : Array Value}
    (hg : a.eval g = .func (.func gf) #[] lb) (eg : ∀ args w, (callFunc gf args).run P w = .ok (.enter gf args) w)
    (enc : α → Array Value) (hps : ∀ x, (enc x).size = ps.size) (zs : List α) (I : List α → World → Prop)
    (h0 : ∀ o, I [] ((w.alloc (.deferred (some []))).alloc o))
    (hput : ∀ pre W o, I pre W → w.heap.size + 1 < W.heap.size → I pre (W.putObj (w.heap.size + 1) o)) (a₁ : α → Act)
    (hassign : ∀ (l : Nat) (x : α) (W : World) (K : Act → World → Prop), K (a₁ x) W →
      assign.wpIn (Fence.wide.inRound l) n P (Exit.then K (fun _ _ _ => False)) { tmps := (ps.zip (enc x)).foldl (fun t (p, v) => t.setIfInBounds p v) a.tmps, defers := [] } W)
    (hbody : ∀ (l : Nat) (pre : List α) (x : α) (W : World), I pre W → pre ++ [x] <+: zs →
      body.wpIn (Fence.wide.inRound l) n P (fun e _ W' => e = .normal ∧ (W'.heap[w.heap.size]? = W.heap[w.heap.size]? ∧ W'.heap[w.heap.size + 1]? = W.heap[w.heap.size + 1]?) ∧ I (pre ++ [x]) W') (a₁ x) W)
    (hiter : ∀ (l : Nat) (J : List α → World → Prop) (W : World), (∀ pre x W1, J pre W1 → pre ++ [x] <+: zs → YieldAt Fence.wide n P l (enc x) W1 fun e W' => e = .returned (.bool true) ∧ J (pre ++ [x]) W') → (∀ pre W1, J pre W1 → I pre W1) → J [] W →
      CallsIn Fence.wide (n + 1) P gf (#[.func (.yield l) #[] #[]] ++ lb) W fun e W' => (∃ v, e = .returned v) ∧ J zs W')
    (hdone : ∀ W, I zs W → W.heap[w.heap.size]? = some (.deferred (some [])) → Q .normal { a with defers := { target := .collected w.heap.size, args := #[] } :: a.defers } W) :
    (Code.rangeFunc g ps assign body).wp P Q a w := by
  refine (wpIn_wide (n := n + 2)).1 ?_
  refine wpIn_rangeFunc ?_
  intro fn hfn
  obtain ⟨rec, hrec⟩ : ∃ rec : LoopState → Option Code → Loop, rec = fun st pe => { state := st, pending := pe, fn, tmps := a.tmps, params := ps, assign, body, defers := w.heap.size } := ⟨_, rfl⟩
  obtain ⟨W1, hW1⟩ : ∃ W1, (w.alloc (.deferred (some []))).alloc (.loop (rec .ready none)) = W1 := ⟨_, rfl⟩
  have hL1 : W1.heap[w.heap.size + 1]? = some (.loop (rec .ready none)) := by
    rw [← hW1]; have := World.alloc_heap_new (w.alloc (.deferred (some []))) (.loop (rec .ready none)); rwa [World.size_alloc] at this
  have hK1 : W1.heap[w.heap.size]? = some (.deferred (some [])) := by
    rw [← hW1]; exact (Below.heap_alloc _ _ _ (by simp)).trans (World.alloc_heap_new w _)
  have hI1 : I [] W1 := by rw [← hW1]; exact h0 _
  refine ⟨w.heap.size + 1, [{ target := .collected w.heap.size, args := #[] }], W1, { target := .fn (.func gf) lb, args := #[.func (.yield (w.heap.size + 1)) #[] #[]] }, W1, gf,
    #[.func (.yield (w.heap.size + 1)) #[] #[]] ++ lb, W1, ?_, ?_, ?_, ?_, fun h => absurd h (by simp [Fence.wide]), ?_⟩
  · rw [← hW1, hrec]; exact run_enterLoop_outer _ _ _ _ _
  · simp only [resolve, hg]
    simp [go_sem]
  · intro f' hf'; trivial
  · simp [invoke, go_sem, eg]
  · refine (hiter (w.heap.size + 1) (fun pre W => I pre W ∧ W.heap[w.heap.size + 1]? = some (.loop (rec .ready none)) ∧ W.heap[w.heap.size]? = some (.deferred (some []))) W1 ?_ (fun pre W h => h.1) ⟨hI1, hL1, hK1⟩).mono ?_
    · rintro pre x W ⟨hi, hl, hk⟩ hx
      have hlt : w.heap.size + 1 < W.heap.size := (Array.getElem?_eq_some_iff.1 hl).1
      have hy := run_yield (P := P) (args := enc x) hl (by rw [hrec]; exact hps x)
      rw [hrec] at hy
      refine ⟨fn, _, assign, body, hy, roundIn_of_wpIn hfn (hassign _ x W _ ⟨_, run_beginRound hl (by rw [hrec]), ?_⟩)⟩
      have hl2 : (W.putObj (w.heap.size + 1) (.loop { rec .ready none with state := .busy })).heap[w.heap.size + 1]? = some (.loop { rec .ready none with state := .busy }) := World.putObj_heap_same hlt
      have hk2 : (W.putObj (w.heap.size + 1) (.loop { rec .ready none with state := .busy })).heap[w.heap.size]? = some (.deferred (some [])) := (World.putObj_heap_other (by omega)).trans hk
      refine wpIn_mono (hbody _ pre x _ (hput _ _ _ hi hlt) hx) ?_
      rintro e a3 W3 ⟨rfl, ⟨hb1, hb2⟩, hi3⟩
      have hl3 := hb2.trans hl2
      have hk3 := hb1.trans hk2
      have hlt3 : w.heap.size + 1 < W3.heap.size := (Array.getElem?_eq_some_iff.1 hl3).1
      have hr := run_endRound (P := P) none hl3
      refine ⟨_, _, hr, rfl, hput _ _ _ hi3 hlt3, ?_, (World.putObj_heap_other (by omega)).trans hk3⟩
      rw [World.putObj_heap_same hlt3, hrec]
      rfl
    · rintro e W2 ⟨⟨v, rfl⟩, hi, hl, hk⟩
      have hlt : w.heap.size + 1 < W2.heap.size := (Array.getElem?_eq_some_iff.1 hl).1
      exact ⟨none, _, by have := run_endLoop (P := P) hl (by rw [hrec]; simp); rw [hrec] at this; exact this, hdone _ (hput _ _ _ hi hlt) ((World.putObj_heap_other (by omega)).trans hk)⟩

theorem values_fn {W : World} (ao : Option Addr) (n c : Nat) :
    Calls Tryz.prog 60 #[.slice ao n c] W fun e w' => e = .returned (.func (.func 85) #[] #[.pointer (some ⟨W.heap.size, 0, none⟩)]) ∧ w' = W.alloc (.cells #[.slice ao n c] 69) := by
  go_enter Tryz.func60, Tryz.ntmps60
  go_wp2
  go_ret
  exact ⟨rfl, rfl⟩
section
attribute [local go_sem] Oper.semAt_some
set_option maxHeartbeats 2000000 in
set_option maxRecDepth 100000 in
theorem values_in (n l Bs : Nat) (ao : Option Addr) (c : Nat) (zs : List Int) (hz : zs.length ≤ 1000000000) (J : List Int → World → Prop) (W : World)
    (hY : ∀ pre x W1, J pre W1 → pre ++ [x] <+: zs → YieldAt Fence.wide n Tryz.prog l #[.int .i64 x] W1 fun e W' => e = .returned (.bool true) ∧ J (pre ++ [x]) W')
    (hJ : ∀ pre W1, J pre W1 → W1.cell? ⟨Bs, 0, none⟩ = some (.slice ao zs.length c) ∧ ∀ (j : Nat) d, zs[j]? = some d → ∃ g o, ao = some ⟨g, o, none⟩ ∧ W1.cell? ⟨g, o + j, none⟩ = some (.int .i64 d))
    (h0 : J [] W) :
    CallsIn Fence.wide (n + 1) Tryz.prog 85 (#[.func (.yield l) #[] #[]] ++ #[.pointer (some ⟨Bs, 0, none⟩)]) W fun e W' => (∃ v, e = .returned v) ∧ J zs W' := by
  refine callsIn_of_wp Tryz.func85 rfl trivial ?_ rfl
  simp only [Tryz.ntmps85, List.size_toArray, List.length_cons, List.length_nil, Nat.reduceAdd, Nat.reduceSub, Array.replicate_succ, Array.replicate_zero, List.push_toArray, List.append_toArray, List.nil_append, List.cons_append]
  have hb := (hJ [] W h0).1
  gi_wp2
  gi_loopw [7] (fun iv wr => ∃ k : Nat, k ≤ zs.length ∧ iv = .int .i64 (k : Int) ∧ J (zs.take k) wr) (fun iv _ => zs.length - (Go.RowKit.intOf iv).toNat)
  case atStart => exact ⟨0, Nat.zero_le _, rfl, h0⟩
  case round =>
    clear hb
    obtain ⟨k, hk, rfl, hj⟩ := hrel
    by_cases hlt : k < zs.length
    · have hv : zs[k]? = some zs[k] := List.getElem?_eq_getElem hlt
      have hsn : zs.take (k + 1) = zs.take k ++ [zs[k]] := by rw [List.take_add_one, hv]; rfl
      obtain ⟨fn, tmps, assign, body, hy, hR⟩ := hY _ zs[k] wr hj (by rw [← hsn]; exact List.take_prefix _ _)
      obtain ⟨hc1, hc2⟩ := hJ _ wr hj
      obtain ⟨g, o, rfl, hc3⟩ := hc2 k _ hv
      rw [← hsn] at hR
      have hml : (k : Int) < (zs.length : Int) := by omega
      have HR := Lib.hid hR
      clear hsn hR hc2 hj hv
      generalize zs[k] = x at *
      gi_wp2
      refine HR.out.mono ?_
      rintro e W3 ⟨rfl, hJ3⟩
      have H3 := Lib.hid hJ3
      clear hJ3 HR hy hc1 hc3
      gi_wp2
      go_roundw
      case rel => exact ⟨k + 1, by omega, by go_num, H3.out⟩
      case measure => simp [Go.RowKit.intOf]; omega
    · obtain rfl : k = zs.length := by omega
      rw [List.take_length] at hj
      gi_wp2
      go_end0
      exact ⟨⟨_, rfl⟩, hj⟩
end
theorem UK.wpListIn_append_run {F : Fence} {n : Nat} {P : Program} {t tx ty : TypeId} {sv xv v' : Value} {w w' : World} (hr : (Builtin.append_ #[t, tx] ty #[sv, xv]).run P w = .ok v' w') {ops : Array Oper} {rest : List Oper} {o : Oper} {a : Act} {Q : Exit → Act → World → Prop} {s x : Operand}
    (hg : o.guard = none) (hop : o.op = Op.call { callee := Callee.builtin Builtin.append, args := #[s, x], argTypes := #[t, tx] }) (hty : o.type = ty) (hs : a.eval s = sv) (hx : a.eval x = xv) (hK : wpListIn F n P ops Q rest (a.put o.dst v') w') :
    wpListIn F n P ops Q (o :: rest) a w := by
  refine wpListIn_plain hg fun K hK' => ?_
  subst hty
  unfold Oper.wpIn
  refine ⟨?_, ?_⟩
  · simp [Oper.about, hop, resolve, Target.leads, Sem.run_pure]
  · rw [Oper.semAt_plain F _ _ (by rw [hop]; intro c hc'; cases hc')]
    simp [execOp, hop, resolve, invoke, builtin, hs, hx, hr, Result.andThen]
    exact hK' _ _ hK
theorem NumsAt.blocks {n B g : Nat} {W W' : World} {ds : List Int} (h : NumsAt n B g W ds) (hs : W.heap.size ≤ W'.heap.size) (hB : W'.heap[B]? = W.heap[B]?) (hg : W'.heap[g]? = W.heap[g]?) : NumsAt n B g W' ds := by
  refine ⟨h.le, h.leg, Nat.lt_of_lt_of_le h.lt hs, ?_, h.len⟩
  rcases h.is with ⟨h1, h2, h3⟩ | ⟨c, h1, h2, h3⟩
  · exact .inl ⟨h1, h2.of_block hB, h3⟩
  · exact .inr ⟨c, h1.of_block hB, h2.of_block hs hg, h3⟩
def retPost (n : Nat) (fn : Func) (R : Ending → World → Prop) : Exit → Act → World → Prop
  | .ret, a, w => LeavesInM Fence.wide n Tryz.prog fn a.tmps R a.defers .returning w
  | _, _, _ => False
/-- what a call collects: a slice of the call's own -/
def ColR (W : World) (zs : List Int) (e : Ending) (w' : World) : Prop :=
  ∃ (ao : Option Addr) (c : Nat), e = .returned (.slice ao zs.length c) ∧ Below W.heap.size W w' ∧ ((ao = none ∧ zs = [] ∧ c = 0) ∨ ∃ g, ao = some ⟨g, 0, none⟩ ∧ W.heap.size ≤ g ∧ Row w' g c (decs zs))
/-- between two rounds -/
structure ApI (W : World) (pre : List Int) (w : World) : Prop where
  at_ : ∃ g, NumsAt W.heap.size W.heap.size g w pre ∧ (g = W.heap.size ∨ W.heap.size + 2 < g)
  bel : Below W.heap.size W w
  more : W.heap.size + 2 < w.heap.size
theorem ApI.put {W : World} {pre : List Int} {w : World} (h : ApI W pre w) (o : Obj) (k : Nat) (hk : k = W.heap.size + 1 ∨ k = W.heap.size + 2) : ApI W pre (w.putObj k o) := by
  obtain ⟨g, h1, h2⟩ := h.at_
  refine ⟨⟨g, h1.blocks (by simp) (World.putObj_heap_other (by omega)) (World.putObj_heap_other (by omega)), h2⟩, ?_, by simpa using h.more⟩
  exact ⟨h.bel.os, h.bel.tape, h.bel.output, by simpa using h.bel.size, fun j hj => (World.putObj_heap_other (by omega)).trans (h.bel.block j hj)⟩
section
attribute [local go_sem] Oper.semAt_some
set_option maxHeartbeats 2000000 in
set_option maxRecDepth 100000 in
theorem appendseq_any {W : World} {Bs : Nat} {ao : Option Addr} {c : Nat} {zs : List Int} (hz : zs.length ≤ 1000000) (hBs : Bs < W.heap.size) (hc : W.cell? ⟨Bs, 0, none⟩ = some (.slice ao zs.length c))
    (he : ∀ (j : Nat) d, zs[j]? = some d → ∃ g o, ao = some ⟨g, o, none⟩ ∧ g < W.heap.size ∧ W.cell? ⟨g, o + j, none⟩ = some (.int .i64 d)) :
    Calls Tryz.prog 105 #[.slice none 0 0, .func (.func 85) #[] #[.pointer (some ⟨Bs, 0, none⟩)]] W (ColR W zs) := by
  have HC := Lib.hid (And.intro hc he)
  clear hc he
  refine (callsIn_wide (n := 9)).1 ?_
  refine callsIn_of_wp_marks Tryz.func105 rfl trivial ?_ rfl
  refine wpIn_mono (Q := retPost 9 Tryz.f105 (ColR W zs)) ?_ (fun e a w hq => by cases e <;> first | exact hq | exact hq.elim)
  refine wpIn_wide.2 ?_
  simp only [Tryz.ntmps105, List.size_toArray, List.length_cons, List.length_nil, Nat.reduceAdd, Nat.reduceSub, Array.replicate_succ, Array.replicate_zero, List.push_toArray, List.append_toArray, List.nil_append, List.cons_append]
  go_wp2_with fail
  refine UK.wp_range_on (n := 3) (enc := fun x : Int => #[.int .i64 x]) (zs := zs) (I := ApI W) (lb := #[.pointer (some ⟨Bs, 0, none⟩)]) (gf := 85) (a₁ := ?a1) rfl (enters_of Tryz.func85 (by kernel_rfl) rfl) (fun _ => rfl) ?start ?put ?assign ?body ?iter ?done
  case assign =>
    intro l y w K hK
    gi_wp2
    exact hK
  case start =>
    intro o
    have hx := Box.new W #[.slice none 0 0] 69
    refine ⟨⟨W.heap.size, ⟨Nat.le_refl _, Nat.le_refl _, by simp; omega, .inl ⟨rfl, ?_, rfl⟩, by simp⟩, .inl rfl⟩, ?_, by simp⟩
    · exact (hx.of_block (Below.heap_alloc _ _ _ (by simp))).of_block (Below.heap_alloc _ _ _ (by simp; omega))
    · exact (((Below.refl _ W).alloc (Nat.le_refl _) _).alloc (by simp) _).alloc (by simp; omega) _
  case put =>
    intro pre w o h hl
    refine h.put o _ (.inr ?_)
    simp
  case iter =>
    intro l J w hY hJ h0
    refine values_in 3 l Bs ao c zs (by omega) J w hY (fun pre w1 hj => ?_) h0
    have hb := (hJ pre w1 hj).bel
    refine ⟨(hb.cell (p := ⟨Bs, 0, none⟩) hBs).trans HC.out.1, fun j d hj => ?_⟩
    obtain ⟨g, o, e, hg, hcc⟩ := HC.out.2 j d hj
    exact ⟨g, o, e, (hb.cell (p := ⟨g, o + j, none⟩) hg).trans hcc⟩
  case body =>
    rintro l pre y w ⟨⟨g, hn, hg⟩, hb, hm⟩ hx
    have hpl : pre.length + 1 ≤ zs.length := by have := hx.length_le; simpa using this
    obtain ⟨a0, c0, hc0, hf0, g', c', W', hrun, hc1, hf1, hn2, hg2, ht⟩ := hn.push (by omega) y
    have HN := Lib.hid (And.intro hn2 (And.intro hg2 (And.intro ht (And.intro hb (And.intro hg (And.intro hm hn))))))
    clear hn hn2 hg2 ht hx hb hm
    gi_wp2_with (gi_at_builtin; refine UK.wpListIn_append_run hrun rfl rfl rfl rfl rfl ?_)
    obtain ⟨hn2, hg2, ht, hb, hg, hm, hn⟩ := HN.out
    have hgl := hn.glt
    have hne : g' = W.heap.size ∨ W.heap.size + 2 < g' := by
      rcases hg2 with rfl | h1
      · exact hg
      · exact .inr (by omega)
    have ht2 := ht.block (W.heap.size + 1 + 1) (by omega) (by omega) (by omega)
    exact ⟨⟨ht.block (W.heap.size + 1) (by omega) (by omega) (by omega), ht2⟩, ⟨g', hn2, hne⟩, hb.trans (ht.below hb.size (Nat.le_refl _) hn.leg), Nat.lt_of_lt_of_le hm ht.size⟩
  case done =>
    intro w hI hD
    obtain ⟨⟨g, hn, hg⟩, hb, hm⟩ := hI
    have hx : ∃ (a1 : Option Addr) (c1 : Nat), w.cell? ⟨W.heap.size, 0, none⟩ = some (.slice a1 zs.length c1) ∧ ((a1 = none ∧ zs = [] ∧ c1 = 0) ∨ ∃ g, a1 = some ⟨g, 0, none⟩ ∧ W.heap.size ≤ g ∧ g ≠ W.heap.size + 1 ∧ Row w g c1 (decs zs)) := by
      rcases hn.is with ⟨h1, h2, h3⟩ | ⟨c1, h1, h2, h3⟩
      · exact ⟨none, 0, by rw [h1]; exact h2.cell 0 _ rfl, .inl ⟨rfl, h1, rfl⟩⟩
      · exact ⟨_, c1, h1.cell 0 _ rfl, .inr ⟨g, rfl, hn.leg, by omega, h2⟩⟩
    obtain ⟨a1, c1, hcell, hr⟩ := hx
    have HR := Lib.hid (And.intro hr (And.intro hb (And.intro hm hD)))
    clear hr hb hm hD hn hg
    go_wp2
    obtain ⟨hr, hb, hm, hD⟩ := HR.out
    refine ⟨by simp, .inl ⟨_, _, rfl, run_takeDeferred hD, ?_⟩⟩
    refine ⟨_, results_tmp rfl _ _ _, a1, c1, rfl, ?_, ?_⟩
    all_goals simp only [World.size_alloc]
    · exact ⟨hb.os, hb.tape, hb.output, by simpa using hb.size, fun j hj => (World.putObj_heap_other (by omega)).trans (hb.block j hj)⟩
    · rcases hr with h | ⟨g, h1, h2, h3, h4⟩
      · exact .inl h
      · exact .inr ⟨g, h1, h2, h4.of_block (by simp) (World.putObj_heap_other (by omega))⟩
end
theorem decs_get (zs : List Int) (j : Nat) : (decs zs)[j]? = zs[j]?.map (fun x => Value.int .i64 x) := by unfold decs; rw [List.getElem?_map]
theorem holds_of_row {W : World} {g c : Nat} {zs : List Int} (h : Row W g c (decs zs)) : Go.Sort.Holds (Value.int .i64) W g 0 zs.toArray := by
  intro j hj
  have hj' : j < zs.length := by simpa using hj
  have hd : j < (decs zs).length := by rw [decs_length]; exact hj'
  have h1 := h.holds j hd
  have h2 := (h.there j (Nat.lt_of_lt_of_le hd h.le)).2
  rw [Nat.zero_add]
  refine ⟨h1.trans ?_, h2⟩
  rw [decs_get, List.getElem?_eq_getElem hj']
  simp [hj']
/-- sorted -/
def srt (zs : List Int) : List Int := zs.mergeSort fun x y => decide (x ≤ y)
theorem srt_length (zs : List Int) : (srt zs).length = zs.length := (List.mergeSort_perm _ _).length_eq
theorem sort_any {W : World} {g c : Nat} {zs : List Int} (h : Row W g c (decs zs)) (hz : zs.length ≤ 1000000) :
    Calls Tryz.prog 84 #[.slice (some ⟨g, 0, none⟩) zs.length c] W fun e w' => e = .returned (.tuple #[]) ∧ Only g W w' ∧ DSl w' (.slice (some ⟨g, 0, none⟩) zs.length c) (srt zs) := by
  refine (Go.Proofs.AnyM.slices_Sort_int Tryz.sortD g 0 c zs W (holds_of_row h) h.lt (by omega)).mono ?_
  rintro e w' ⟨rfl, n, os, rfl⟩
  have hgb := Go.Proofs.grownBy_sorted_i (w := W) (g := g) (n := n) (os := os) (srt zs).toArray
  refine ⟨rfl, ⟨hgb.os, hgb.tape, hgb.output, hgb.size, fun k hk hne => hgb.block k hk (by simpa using hne)⟩, some ⟨g, 0, none⟩, c, by rw [srt_length], fun j d hj => ⟨g, 0, rfl, Nat.lt_of_lt_of_le h.lt hgb.size, ?_⟩⟩
  have hjl : j < (srt zs).length := (List.getElem?_eq_some_iff.1 hj).1
  have hjz : j < (decs zs).length := by rw [decs_length]; rwa [srt_length] at hjl
  have hc := h.holds j hjz
  rw [List.getElem?_eq_getElem hjz] at hc
  cases hg : W.heap[g]? with
  | none => simp [World.cell?, hg] at hc
  | some ob =>
    cases ob with
    | cells cur e fr =>
      have hw := Go.Proofs.heap_sorted_i (n := n) (os := os) (srt zs).toArray hg
      simp [World.cell?, hg] at hc
      have hcl : j < cur.size := (Array.getElem?_eq_some_iff.1 hc).1
      rw [Nat.zero_add]
      simp only [World.cell?]
      have hw' : (Go.Sort.grow (Go.Sort.putRow (Value.int .i64) (Go.Sort.ahead W n) g 0 (zs.mergeSort fun x y => decide (x ≤ y)).toArray) os).heap[g]? = some (.cells (Go.Sort.putCells encZ 0 (srt zs).toArray cur) e fr) := hw
      rw [hw']
      have hd : (srt zs)[j] = d := by rw [List.getElem?_eq_getElem hjl] at hj; exact Option.some.inj hj
      simp [Go.Sort.putCells, hjl, hcl, hd]
    | _ => simp [World.cell?, hg] at hc
theorem collect_any {W : World} {Bs : Nat} {ao : Option Addr} {c : Nat} {zs : List Int} (hz : zs.length ≤ 1000000) (hBs : Bs < W.heap.size) (hc : W.cell? ⟨Bs, 0, none⟩ = some (.slice ao zs.length c))
    (he : ∀ (j : Nat) d, zs[j]? = some d → ∃ g o, ao = some ⟨g, o, none⟩ ∧ g < W.heap.size ∧ W.cell? ⟨g, o + j, none⟩ = some (.int .i64 d)) :
    Calls Tryz.prog 83 #[.func (.func 85) #[] #[.pointer (some ⟨Bs, 0, none⟩)]] W (ColR W zs) := by
  have HA := Lib.hid (appendseq_any hz hBs hc he)
  clear hc he
  go_enter Tryz.func83, Tryz.ntmps83
  go_wp2_with fail
  refine HA.out.mono ?_
  rintro e w1 ⟨a1, c1, rfl, h⟩
  go_wp2
  go_ret
  exact ⟨a1, c1, rfl, h⟩
/-- slices.Sorted(slices.Values(l)): the call of Sorted, behind Values -/
theorem sorted_any {W : World} {Bs : Nat} {ao : Option Addr} {c : Nat} {zs : List Int} (hz : zs.length ≤ 1000000) (hBs : Bs < W.heap.size) (hc : W.cell? ⟨Bs, 0, none⟩ = some (.slice ao zs.length c))
    (he : ∀ (j : Nat) d, zs[j]? = some d → ∃ g o, ao = some ⟨g, o, none⟩ ∧ g < W.heap.size ∧ W.cell? ⟨g, o + j, none⟩ = some (.int .i64 d)) :
    Calls Tryz.prog 59 #[.func (.func 85) #[] #[.pointer (some ⟨Bs, 0, none⟩)]] W fun e w' => ∃ (a1 : Option Addr) (c1 : Nat), e = .returned (.slice a1 zs.length c1) ∧ DSl w' (.slice a1 zs.length c1) (srt zs) ∧ zs.length ≤ c1 ∧ Below W.heap.size W w' := by
  have HA := Lib.hid (collect_any hz hBs hc he)
  clear hc he
  go_enter Tryz.func59, Tryz.ntmps59
  go_wp2_with fail
  refine HA.out.mono ?_
  rintro e w1 ⟨a1, c1, rfl, b1, h⟩
  rcases h with ⟨rfl, rfl, rfl⟩ | ⟨g, rfl, hg, hr⟩
  · have HS := Lib.hid (Go.Proofs.AnyM.slices_Sort_int_none Tryz.sortD none 0 w1)
    go_wp2_with fail
    refine HS.out.mono ?_
    rintro e w2 ⟨rfl, rfl⟩
    go_wp2
    go_ret
    exact ⟨none, 0, rfl, ⟨none, 0, by simp [srt], fun j d hj => by simp [srt] at hj⟩, Nat.zero_le _, b1⟩
  · have HS := Lib.hid (sort_any hr hz)
    have hle : zs.length ≤ c1 := by have := hr.le; rwa [decs_length] at this
    have B1 := Lib.hid (And.intro b1 hg)
    clear b1 hg hr
    go_wp2_with fail
    refine HS.out.mono ?_
    rintro e w2 ⟨rfl, o2, h2⟩
    have H2 := Lib.hid (And.intro o2 h2)
    clear o2 h2
    go_wp2
    go_ret
    exact ⟨_, c1, rfl, H2.out.2, hle, B1.out.1.trans (H2.out.1.below B1.out.1.size B1.out.2)⟩
end Go.Proofs.YteelmbpmmobpjaaGreatDoor
