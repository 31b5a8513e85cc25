/-
  A range over a function whose rounds all go on; slices.Backward of a list of ints. The keys of a map from ints to strings, sorted; a string of it.
-/
import Derived.Test.YtokgidhokcoadaaGreatDoorTtA
import Derived.RangeFuncNested
import Derived.RangeFuncBound
import Derived.RangeFuncCalls
import Derived.RangeFuncLeaves
import Derived.OwnWalkIn
import Derived.TacticsInMore
import Derived.LoopNIn
import Derived.LoopIn
import Derived.Test.YtokgidhokcoadaaGreatDoorShelf
namespace Go.Proofs.YtokgidhokcoadaaGreatDoor
open Go.RowKit
open UK (str BytesAt nth Only Row Box)
open Go.BigFrame
theorem UK.wp_range_on {P : Program} {α : Type} {g : Operand} {ps : Array Tmp} {assign body : Code} {Q : Exit → Act → World → Prop} {a : Act} {w : World} {n gf : Nat} {lb : Array Value}
    (hg : a.eval g = .func (.func gf) #[] lb) (eg : ∀ args w, (callFunc gf args).run P w = .ok (.enter gf args) w)
    (enc : α → Array Value) (hps : ∀ x, (enc x).size = ps.size) (zs : List α) (I : List α → World → Prop)
    (h0 : ∀ o, I [] ((w.alloc (.deferred (some []))).alloc o))
    (hput : ∀ pre W o, I pre W → w.heap.size + 1 < W.heap.size → I pre (W.putObj (w.heap.size + 1) o)) (a₁ : α → Act)
    (hassign : ∀ (l : Nat) (x : α) (W : World) (K : Act → World → Prop), K (a₁ x) W →
      assign.wpIn (Fence.wide.inRound l) n P (Exit.then K (fun _ _ _ => False)) { tmps := (ps.zip (enc x)).foldl (fun t (p, v) => t.setIfInBounds p v) a.tmps, defers := [] } W)
    (hbody : ∀ (l : Nat) (pre : List α) (x : α) (W : World), I pre W → pre ++ [x] <+: zs →
      body.wpIn (Fence.wide.inRound l) n P (fun e _ W' => e = .normal ∧ (W'.heap[w.heap.size]? = W.heap[w.heap.size]? ∧ W'.heap[w.heap.size + 1]? = W.heap[w.heap.size + 1]?) ∧ I (pre ++ [x]) W') (a₁ x) W)
    (hiter : ∀ (l : Nat) (J : List α → World → Prop) (W : World), (∀ pre x W1, J pre W1 → pre ++ [x] <+: zs → YieldAt Fence.wide n P l (enc x) W1 fun e W' => e = .returned (.bool true) ∧ J (pre ++ [x]) W') → (∀ pre W1, J pre W1 → I pre W1) → J [] W →
      CallsIn Fence.wide (n + 1) P gf (#[.func (.yield l) #[] #[]] ++ lb) W fun e W' => (∃ v, e = .returned v) ∧ J zs W')
    (hdone : ∀ W, I zs W → W.heap[w.heap.size]? = some (.deferred (some [])) → Q .normal { a with defers := { target := .collected w.heap.size, args := #[] } :: a.defers } W) :
    (Code.rangeFunc g ps assign body).wp P Q a w := by
  refine (wpIn_wide (n := n + 2)).1 ?_
  refine wpIn_rangeFunc ?_
  intro fn hfn
  obtain ⟨rec, hrec⟩ : ∃ rec : LoopState → Option Code → Loop, rec = fun st pe => { state := st, pending := pe, fn, tmps := a.tmps, params := ps, assign, body, defers := w.heap.size } := ⟨_, rfl⟩
  obtain ⟨W1, hW1⟩ : ∃ W1, (w.alloc (.deferred (some []))).alloc (.loop (rec .ready none)) = W1 := ⟨_, rfl⟩
  have hL1 : W1.heap[w.heap.size + 1]? = some (.loop (rec .ready none)) := by
    rw [← hW1]; have := World.alloc_heap_new (w.alloc (.deferred (some []))) (.loop (rec .ready none)); rwa [World.size_alloc] at this
  have hK1 : W1.heap[w.heap.size]? = some (.deferred (some [])) := by
    rw [← hW1]; exact (Below.heap_alloc _ _ _ (by simp)).trans (World.alloc_heap_new w _)
  have hI1 : I [] W1 := by rw [← hW1]; exact h0 _
  refine ⟨w.heap.size + 1, [{ target := .collected w.heap.size, args := #[] }], W1, { target := .fn (.func gf) lb, args := #[.func (.yield (w.heap.size + 1)) #[] #[]] }, W1, gf,
    #[.func (.yield (w.heap.size + 1)) #[] #[]] ++ lb, W1, ?_, ?_, ?_, ?_, fun h => absurd h (by simp [Fence.wide]), ?_⟩
  · rw [← hW1, hrec]; exact run_enterLoop_outer _ _ _ _ _
  · simp only [resolve, hg]
    simp [go_sem]
  · intro f' hf'; trivial
  · simp [invoke, go_sem, eg]
  · refine (hiter (w.heap.size + 1) (fun pre W => I pre W ∧ W.heap[w.heap.size + 1]? = some (.loop (rec .ready none)) ∧ W.heap[w.heap.size]? = some (.deferred (some []))) W1 ?_ (fun pre W h => h.1) ⟨hI1, hL1, hK1⟩).mono ?_
    · rintro pre x W ⟨hi, hl, hk⟩ hx
      have hlt : w.heap.size + 1 < W.heap.size := (Array.getElem?_eq_some_iff.1 hl).1
      have hy := run_yield (P := P) (args := enc x) hl (by rw [hrec]; exact hps x)
      rw [hrec] at hy
      refine ⟨fn, _, assign, body, hy, roundIn_of_wpIn hfn (hassign _ x W _ ⟨_, run_beginRound hl (by rw [hrec]), ?_⟩)⟩
      have hl2 : (W.putObj (w.heap.size + 1) (.loop { rec .ready none with state := .busy })).heap[w.heap.size + 1]? = some (.loop { rec .ready none with state := .busy }) := World.putObj_heap_same hlt
      have hk2 : (W.putObj (w.heap.size + 1) (.loop { rec .ready none with state := .busy })).heap[w.heap.size]? = some (.deferred (some [])) := (World.putObj_heap_other (by omega)).trans hk
      refine wpIn_mono (hbody _ pre x _ (hput _ _ _ hi hlt) hx) ?_
      rintro e a3 W3 ⟨rfl, ⟨hb1, hb2⟩, hi3⟩
      have hl3 := hb2.trans hl2
      have hk3 := hb1.trans hk2
      have hlt3 : w.heap.size + 1 < W3.heap.size := (Array.getElem?_eq_some_iff.1 hl3).1
      have hr := run_endRound (P := P) none hl3
      refine ⟨_, _, hr, rfl, hput _ _ _ hi3 hlt3, ?_, (World.putObj_heap_other (by omega)).trans hk3⟩
      rw [World.putObj_heap_same hlt3, hrec]
      rfl
    · rintro e W2 ⟨⟨v, rfl⟩, hi, hl, hk⟩
      have hlt : w.heap.size + 1 < W2.heap.size := (Array.getElem?_eq_some_iff.1 hl).1
      exact ⟨none, _, by have := run_endLoop (P := P) hl (by rw [hrec]; simp); rw [hrec] at this; exact this, hdone _ (hput _ _ _ hi hlt) ((World.putObj_heap_other (by omega)).trans hk)⟩
def backL (zs : List Int) : List (Int × Int) := (List.range zs.length).map fun k => (((zs.length - 1 - k : Nat) : Int), zs.getD (zs.length - 1 - k) 0)
theorem backL_length (zs : List Int) : (backL zs).length = zs.length := by simp [backL]
theorem backL_get (zs : List Int) (k : Nat) (hk : k < zs.length) : (backL zs)[k]? = some (((zs.length - 1 - k : Nat) : Int), zs.getD (zs.length - 1 - k) 0) := by
  unfold backL
  rw [List.getElem?_map, List.getElem?_range hk]
  rfl
theorem backL_snoc (zs : List Int) (k : Nat) (hk : k < zs.length) : (backL zs).take (k + 1) = (backL zs).take k ++ [(((zs.length - 1 - k : Nat) : Int), zs.getD (zs.length - 1 - k) 0)] := by
  rw [List.take_add_one, backL_get zs k hk]
  rfl
abbrev encP (x : Int × Int) : Array Value := #[.int .i64 x.1, .int .i64 x.2]
attribute [local go_sem] Oper.semAt_some
set_option maxHeartbeats 2000000 in
set_option maxRecDepth 100000 in
theorem back_in (n l Bs : Nat) (ao : Option Addr) (c : Nat) (zs : List Int) (hz : zs.length ≤ 1000000000) (J : List (Int × Int) → World → Prop) (W : World)
    (hY : ∀ pre x W1, J pre W1 → pre ++ [x] <+: backL zs → YieldAt Fence.wide n Tryz.prog l (encP x) W1 fun e W' => e = .returned (.bool true) ∧ J (pre ++ [x]) W')
    (hJ : ∀ pre W1, J pre W1 → W1.cell? ⟨Bs, 0, none⟩ = some (.slice ao zs.length c) ∧ ∀ j, j < zs.length → ∃ g, ao = some ⟨g, 0, none⟩ ∧ W1.cell? ⟨g, j, none⟩ = some (.int .i64 (zs.getD j 0)))
    (h0 : J [] W) :
    CallsIn Fence.wide (n + 1) Tryz.prog 200 (#[.func (.yield l) #[] #[]] ++ #[.pointer (some ⟨Bs, 0, none⟩)]) W fun e W' => (∃ v, e = .returned v) ∧ J (backL zs) W' := by
  refine callsIn_of_wp Tryz.func200 rfl trivial ?_ rfl
  simp only [Tryz.ntmps200, List.size_toArray, List.length_cons, List.length_nil, Nat.reduceAdd, Nat.reduceSub, Array.replicate_succ, Array.replicate_zero, List.push_toArray, List.append_toArray, List.nil_append, List.cons_append]
  have hb := (hJ [] W h0).1
  gi_wp2
  gi_loopw [3] (fun iv wr => ∃ m : Nat, m ≤ zs.length ∧ iv = .int .i64 ((m : Int) - 1) ∧ J ((backL zs).take (zs.length - m)) wr) (fun iv _ => ((Go.RowKit.intOf iv) + 1).toNat)
  case atStart => exact ⟨zs.length, Nat.le_refl _, rfl, by rw [Nat.sub_self]; exact h0⟩
  case round =>
    clear hb
    obtain ⟨m, hm, rfl, hj⟩ := hrel
    rcases m with _ | m
    · rw [show (((0 : Nat) : Int) - 1) = -1 from by omega]
      rw [Nat.sub_zero, ← backL_length, List.take_length] at hj
      gi_wp2
      go_end0
      exact ⟨⟨_, rfl⟩, hj⟩
    · rw [show (((m + 1 : Nat) : Int) - 1) = (m : Int) from by omega]
      have hk : zs.length - (m + 1) < zs.length := by omega
      have hsn := backL_snoc zs (zs.length - (m + 1)) hk
      rw [show zs.length - 1 - (zs.length - (m + 1)) = m by omega, show zs.length - (m + 1) + 1 = zs.length - m by omega] at hsn
      obtain ⟨fn, tmps, assign, body, hy, hR⟩ := hY _ ((m : Int), zs.getD m 0) wr hj (by rw [← hsn]; exact List.take_prefix _ _)
      obtain ⟨hc1, hc2⟩ := hJ _ wr hj
      obtain ⟨g, rfl, hc3⟩ := hc2 m (by omega)
      dsimp only [encP] at hy
      simp only [List.getD_eq_getElem?_getD] at hy hc3
      rw [← hsn] at hR
      have hml : (m : Int) < (zs.length : Int) := by omega
      have HR := Lib.hid hR
      clear hsn hR hc2 hj
      gi_wp2
      refine HR.out.mono ?_
      rintro e W3 ⟨rfl, hJ3⟩
      have H3 := Lib.hid hJ3
      clear hJ3 HR hy hc1 hc3
      gi_wp2
      go_roundw
      case rel => exact ⟨m, by omega, rfl, H3.out⟩
      case measure => simp [Go.RowKit.intOf]
end Go.Proofs.YtokgidhokcoadaaGreatDoor
namespace Go.Proofs.YtokgidhokcoadaaGreatDoor
open Go.RowKit Go.Maps Go.Sort Go.Shelf
open UK (str BytesAt nth Only Row Box StrMap)
open Go.BigFrame
theorem UK.StrMap.get1 {P : Program} {K E t : TypeId} {W : World} {M n c : Nat} {f : Int → Option (List UInt8)} (h : StrMap P K E W M n f c) (hK : P.underlying K = some (.int .i64)) (hE : P.underlying E = some .string) (ht : P.underlying t = some (.map K E)) (hz : ∀ w, (zeroValue E).run P w = .ok (.string (str [])) w) (k : Int) (hk : (Lit.int .i64 k).wf = true) :
    (Instr.lookup t (.map (some M)) (.int .i64 k) false).run P W = .ok (.string (str ((f k).getD []))) W := by
  obtain ⟨D, h, hh, ha, _⟩ := h
  obtain ⟨v, ps, hrun, hv⟩ := h.lookup (Maps.int_keyed hK) ht (hz W) (plainElem_string hE (by simp [UK.str_size])) (Maps.keyOf_int_mk hK hk)
  obtain ⟨s, rfl, hc, _⟩ := plainElem_string_inv hE hv
  simp only [Prod.mk.injEq] at hc
  rw [hrun, UK.str_self s]
  have hc1 := hc.1
  cases hf : f k with
  | none =>
    have h1 : Maps.has D (.int .i64 k) = false := by rw [hh k, hf]; rfl
    rw [Maps.atKey_of_not_has h1] at hc1
    simp only [DataW.lit.injEq, Lit.string.injEq] at hc1
    rw [← hc1]; rfl
  | some b =>
    rw [UK.str_data] at hc1
    rw [ha k b hf] at hc1
    simp only [DataW.lit.injEq, Lit.string.injEq] at hc1
    rw [← hc1]; rfl
theorem sorts_in (m : Nat) : AnyZI.SortsIn Tryz.prog Tryz.sortedA_ren Fence.wide m :=
  ⟨fun blk off cap ss W hH hblk hsz => callsIn_wide.2 (AnyM.slices_Sort_int Tryz.sortA blk off cap ss W hH hblk hsz),
   fun p cap W => callsIn_wide.2 (AnyM.slices_Sort_int_none Tryz.sortA p cap W)⟩
theorem keys_fn (mb : Option Nat) (W : World) :
    Calls Tryz.prog 123 #[.map mb] W fun e w' => e = .returned (.func (.func 198) #[] #[.pointer (some ⟨W.heap.size, 0, none⟩)]) ∧ w' = W.alloc (.cells #[.map mb] 138) :=
  (callsIn_wide (n := 6)).1 (AnyZI.keys_in Tryz.keysA Fence.wide 6 trivial rfl mb W)
theorem keys_nodup {H : Type} {w : World} {R : Value → Option (DataW H × List MemPlace)} {P : Program} {k : TypeId} {b n : Nat} {D : DataW H} (hown : w.ownsMap P k R b n D) (K : Keyed P k) (hk : P.underlying k = some (.int .i64)) : (intKeys D).Nodup ∧ ∀ x, x ∈ intKeys D ↔ Maps.has D (.int .i64 x) = true := by
  obtain ⟨es, hD, hpw, _⟩ := hown.entries K
  obtain ⟨es', hD', hko⟩ := hown.keysOf
  obtain rfl : es = es' := by rw [hD] at hD'; simpa using hD'
  subst hD
  have hk2 : ∀ p ∈ es, ∃ x, p.1 = .int .i64 x := fun p hp => by obtain ⟨v, hv⟩ := hko p hp; obtain ⟨x, _, hx, _⟩ := Maps.keyOf_i64 hk hv; exact ⟨x, hx⟩
  constructor
  · show (es.map fun p => Go.intOf p.1).Nodup
    refine List.pairwise_map.2 (hpw.imp_of_mem fun {p q} hp' hq' hne e => hne ?_)
    obtain ⟨a, ha⟩ := hk2 p hp'
    obtain ⟨b, hb⟩ := hk2 q hq'
    rw [ha, hb] at e ⊢
    exact congrArg _ e
  · intro x
    rw [has_eq, List.any_eq_true]
    show x ∈ es.map (fun p => Go.intOf p.1) ↔ _
    rw [List.mem_map]
    constructor
    · rintro ⟨p, hp', rfl⟩
      obtain ⟨a, ha⟩ := hk2 p hp'
      exact ⟨p, hp', by rw [ha]; simp [Lit.sameKey, Go.intOf]⟩
    · rintro ⟨p, hp', hs⟩
      obtain ⟨a, ha⟩ := hk2 p hp'
      rw [ha] at hs
      exact ⟨p, hp', by rw [ha]; simpa [Lit.sameKey, Go.intOf] using hs⟩
def KeysR (W w' : World) (f : Int → Option (List UInt8)) (c : Nat) (e : Ending) : Prop :=
  ∃ (ao : Option Addr) (cc : Nat) (ks : List Int), e = .returned (.slice ao ks.length cc) ∧ ks.Nodup ∧ (∀ x, x ∈ ks ↔ (f x).isSome = true) ∧ ks.length = c ∧ (∀ x, x ∈ ks → (Lit.int .i64 x).wf = true) ∧
    (∀ (j : Nat) (x : Int), ks[j]? = some x → ∃ g, ao = some ⟨g, 0, none⟩ ∧ W.heap.size ≤ g ∧ g < w'.heap.size ∧ w'.cell? ⟨g, j, none⟩ = some (.int .i64 x)) ∧ Below W.heap.size W w'
set_option maxHeartbeats 1000000 in
theorem keys_sorted {W : World} {wb n c : Nat} {f : Int → Option (List UInt8)} (h : StrMap Tryz.prog 3 9 W wb n f c) (hc : c ≤ 1000000000) :
    Calls Tryz.prog 122 #[.func (.func 198) #[] #[.pointer (some ⟨W.heap.size, 0, none⟩)]] (W.alloc (.cells #[.map (some wb)] 138)) fun e w' => KeysR W w' f c e := by
  obtain ⟨D0, hown, hh, _, hs⟩ := h
  have hbl := hown.lt
  have hseq : SeqGives Fence.wide 2 Tryz.prog 198 #[.pointer (some ⟨W.heap.size, 0, none⟩)] encZ (fun ss => ss.Perm (intKeys D0)) (Maps.size D0) (W.alloc (.cells #[.map (some wb)] 138)) :=
    AnyZI.keys_gives (ρ := Tryz.keysA_ren) { Tryz.keysA with } Fence.wide _ trivial rfl (by omega) W.heap.size wb n D0 _ (by simp) (by simp) (by
      obtain ⟨es, clock, hb, Ft, hs, hD⟩ := hown
      exact ⟨es, clock, (Below.heap_alloc _ _ wb hbl).trans hb, Ft, hs, hD⟩)
  have cS := AnyZI.sorted_in Tryz.sortedA Fence.wide 5 trivial trivial trivial trivial rfl (by omega) (sorts_in _) (enters_of Tryz.func197 (by kernel_rfl) rfl) 198 #[.pointer (some ⟨W.heap.size, 0, none⟩)] trivial (enters_of Tryz.func198 (by kernel_rfl) rfl) _ _ (show Maps.size D0 ≤ maxLen by rw [hs]; unfold maxLen; omega) (by rw [hs]; omega) _ hseq
  change CallsIn _ _ Tryz.prog 122 _ _ _ at cS
  refine (callsIn_wide.1 cS).mono ?_
  rintro e w' ⟨v, ss, rfl, hS, hrow, hnil, hb⟩
  obtain ⟨hn1, hn2⟩ := keys_nodup hown (Maps.int_keyed Tryz.underlying3) Tryz.underlying3
  have hp : (ss.mergeSort (fun x y => decide (x ≤ y))).Perm (intKeys D0) := (List.mergeSort_perm _ _).trans hS
  have hlen : (ss.mergeSort (fun x y => decide (x ≤ y))).length = ss.length := (List.mergeSort_perm _ _).length_eq
  have hbW : Below W.heap.size W w' := ((Below.refl _ W).alloc (Nat.le_refl _) _).trans (hb.mono (by simp))
  have hks : ∀ x, x ∈ ss.mergeSort (fun x y => decide (x ≤ y)) ↔ (f x).isSome = true := fun x => by rw [hp.mem_iff, hn2, hh]
  have hkl : (ss.mergeSort (fun x y => decide (x ≤ y))).length = c := by
    rw [hp.length_eq, ← hs]
    obtain ⟨es, rfl, _⟩ := hown.keysOf
    simp [intKeys, Maps.size]
  have hkw : ∀ x, x ∈ ss.mergeSort (fun x y => decide (x ≤ y)) → (Lit.int .i64 x).wf = true := fun x hx => intKeys_wf hown Tryz.underlying3 x (hp.mem_iff.1 hx)
  have hknd : (ss.mergeSort (fun x y => decide (x ≤ y))).Nodup := hp.nodup_iff.2 hn1
  obtain ⟨hl, hr⟩ := hrow
  rcases hr with ⟨rfl, h0⟩ | ⟨g, cap, cur, rfl, hg, hgb, hle, hcm, hsz, hcur⟩
  · refine ⟨none, 0, ss.mergeSort (fun x y => decide (x ≤ y)), by rw [hlen, h0], hknd, hks, hkl, hkw, fun j x hj => ?_, hbW⟩
    have := (List.getElem?_eq_some_iff.1 hj).1
    omega
  · refine ⟨some ⟨g, 0, none⟩, cap, ss.mergeSort (fun x y => decide (x ≤ y)), by rw [hlen], hknd, hks, hkl, hkw, fun j x hj => ⟨g, rfl, ?_, ?_, ?_⟩, hbW⟩
    · simp at hg; omega
    · exact (Array.getElem?_eq_some_iff.1 hgb).1
    · have h1 : (cur.toList.take (ss.length * 1))[j]? = some (encZ x) := by rw [hcur, List.getElem?_map, hj]; rfl
      rw [List.getElem?_take] at h1
      split at h1
      · simp only [World.cell?, hgb]
        simpa using h1
      · cases h1
end Go.Proofs.YtokgidhokcoadaaGreatDoor
