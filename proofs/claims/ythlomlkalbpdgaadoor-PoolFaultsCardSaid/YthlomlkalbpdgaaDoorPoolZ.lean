/-
  The pool: Flush, New.
-/
import Derived.Test.YthlomlkalbpdgaaDoorPoolY
import Derived.Deep.OwnRows
namespace Go.Proofs.YthlomlkalbpdgaaDoor
open Go.RowKit
open UK (str BytesAt nth Only Row Box IntMap)
open Go.BigFrame
section
variable {E : Nat → Prop} {W W' : World} {P D FB M cnt k n : Nat} {kp : Int} {q : Pl} {d d' : Dk}
theorem PS.wrote (h : PS E W P D FB M n kp q d cnt k) (hk : k < 1000) {i : Nat} {f : Fr} {b : Bool} {w1 : World} (hi : q.frames[i]? = some (some f)) (p : PD E w1 P D FB M { q with frames := q.frames.set i (some { f with dirty := b }) } (rwriteD d cnt f.page f.data) cnt) :
    PS E w1 P D FB M n kp { q with frames := q.frames.set i (some { f with dirty := b }) } (rwriteD d cnt f.page f.data) cnt (k + 1) := by
  have hl := (List.getElem?_eq_some_iff.1 hi).1
  have hpo := h.ok.set hi (u := some { f with dirty := b }) (fun g hg => by rw [← Option.some.inj hg]; exact h.ok.pos i f hi)
  rw [show q.pins - pinO (some f) + pinO (some { f with dirty := b }) = q.pins by show q.pins - f.pins + f.pins = q.pins; omega] at hpo
  refine ⟨p, hpo, h.dok.write hk f.page f.data, fun j g hj => ?_, h.pins, by show (q.frames.set i _).length = n; rw [List.length_set]; exact h.len⟩
  replace hj : (q.frames.set i (some { f with dirty := b }))[j]? = some (some g) := hj
  rw [get_set _ _ _ _ hl] at hj
  rw [has_write]
  by_cases e : i = j
  · rw [if_pos e] at hj
    rw [← Option.some.inj (Option.some.inj hj)]
    exact h.held i f hi
  · rw [if_neg e] at hj; exact h.held j g hj
theorem write_err (d : Dk) (cnt : Nat) (p : Int) (s : List UInt8) (hs : s.length = 504) : rwriteE d cnt p s = 0 ∨ rwriteE d cnt p s = 4 ∨ rwriteE d cnt p s = 7 := by
  unfold rwriteE failE
  by_cases h : hasD d cnt p = false
  · rw [if_pos h]; exact .inr (.inl rfl)
  · rw [if_neg h, if_neg (by omega)]
    by_cases hz : d.wl = 0
    · rw [if_pos hz]; exact .inr (.inr rfl)
    · rw [if_neg hz]; exact .inl rfl
/-- behind Flush -/
def FlushR (E : Nat → Prop) (W w' : World) (P D FB M n : Nat) (kp : Int) (k cnt : Nat) (e : Ending) : Prop := ∃ (e0 : Int) (q' : Pl) (d' : Dk), e = .returned (.int .i64 e0) ∧ (e0 = 0 ∨ e0 = 4 ∨ e0 = 7) ∧ PS E w' P D FB M n kp q' d' cnt (k + n + 1) ∧ Kept E W w'
theorem PS.up {m : Nat} (h : PS E W P D FB M n kp q d cnt k) (hm : k ≤ m) : PS E W P D FB M n kp q d cnt m :=
  ⟨h.pd, h.ok, ⟨h.dok.fit, h.dok.so, by have := h.dok.puts; omega, by have := h.dok.reads; omega⟩, h.held, h.pins, h.len⟩
/-- within Flush -/
def OnFlush (E : Nat → Prop) (W wr : World) (P D FB M n : Nat) (kp : Int) (k cnt : Nat) (ix : Value) : Prop := ∃ (j : Nat) (q' : Pl) (d' : Dk), ix = .int .i64 j ∧ j ≤ n ∧ PS E wr P D FB M n kp q' d' cnt (k + j) ∧ Kept E W wr
set_option maxHeartbeats 1000000 in
set_option maxRecDepth 100000 in
theorem pflush_any (h : PS E W P D FB M n kp q d cnt k) (hk : k + n + 1 < 1000) :
    Calls Tryd.prog 14 #[.pointer (some ⟨P, 0, none⟩)] W fun e w' => FlushR E W w' P D FB M n kp k cnt e := by
  have c1 : W.cell? ⟨P, 1, none⟩ = some (.slice (some ⟨FB, 0, none⟩) q.frames.length q.frames.length) := h.pd.pool.box.cell 1 _ rfl
  rw [h.len] at c1
  go_enter Tryd.func14, Tryd.ntmps14
  go_wp2_with fail
  go_loopw [11] (fun ix wr => OnFlush E W wr P D FB M n kp k cnt ix) (fun ix _ => 1001 - (intOf ix).toNat)
  case atStart => exact ⟨0, q, d, rfl, Nat.zero_le _, h, Kept.refl _ _⟩
  case round =>
    clear h c1
    obtain ⟨j, q', d', rfl, hj, h1, k1⟩ := hrel
    by_cases hlt : j < n
    · obtain ⟨o, ho⟩ : ∃ o, q'.frames[j]? = some o := ⟨_, List.getElem?_eq_getElem (by rw [h1.len]; exact hlt)⟩
      have cF : wr.cell? ⟨FB, j, none⟩ = some (ptrOf o) := h1.pd.frame ho
      cases o with
      | none =>
        have HS := Lib.hid (h1.up (show k + j ≤ k + (j + 1) by omega))
        simp only [ptrOf] at cF
        clear h1
        go_wp2
        go_roundw
        case rel => exact ⟨j + 1, q', d', by go_num, by omega, HS.out, k1⟩
        case measure => simp [intOf]; omega
      | some f =>
        simp only [ptrOf] at cF
        cases hdy : f.dirty
        · have HW := Lib.hid (write_clean h1.pd ho hdy)
          have HS := Lib.hid (h1.up (show k + j ≤ k + (j + 1) by omega))
          clear h1 hdy
          go_wp2_with fail
          refine HW.out.mono ?_
          rintro e w2 ⟨rfl, rfl⟩
          go_wp2
          go_roundw
          case rel => exact ⟨j + 1, q', d', by go_num, by omega, HS.out, k1⟩
          case measure => simp [intOf]; omega
        · have HW := Lib.hid (write_dirty h1.pd ho hdy h1.dok (by omega))
          have HPW := Lib.hid (fun w1 p => h1.wrote (by omega) (b := (rwriteE d' cnt f.page f.data != 0)) (w1 := w1) ho p)
          have herr := write_err d' cnt f.page f.data (h1.pd.pool.each j f ho).len
          generalize rwriteE d' cnt f.page f.data = re at HW HPW herr
          generalize rwriteD d' cnt f.page f.data = rd at HW HPW
          clear h1 hdy
          by_cases hr0 : re = 0
          · subst hr0
            go_wp2_with fail
            refine HW.out.mono ?_
            rintro e w2 ⟨rfl, p2, k2⟩
            have HS := Lib.hid (HPW.out w2 p2)
            have K2 := Lib.hid (k1.trans k2)
            clear HW HPW p2 k2 k1 herr
            go_wp2
            go_roundw
            case rel => exact ⟨j + 1, _, rd, by go_num, by omega, HS.out, K2.out⟩
            case measure => simp [intOf]; omega
          · have hb1 : (re == 0) = false := beq_eq_false_iff_ne.2 hr0
            have HE := Lib.hid herr
            clear hr0 herr
            go_wp2_with fail
            refine HW.out.mono ?_
            rintro e w2 ⟨rfl, p2, k2⟩
            have HS := Lib.hid ((HPW.out w2 p2).up (show k + j + 1 ≤ k + n + 1 by omega))
            have K2 := Lib.hid (k1.trans k2)
            clear HW HPW p2 k2 k1
            go_wp2
            go_ret
            exact ⟨re, _, rd, rfl, HE.out, HS.out, K2.out⟩
    · have c0 : wr.cell? ⟨P, 0, none⟩ = some (.pointer (some ⟨D, 0, none⟩)) := h1.pd.pool.box.cell 0 _ rfl
      have hpu := h1.dok.puts
      have HF := Lib.hid (dd_flush h1.pd.dd (by omega))
      have hok := h1.dok.flush (by omega)
      have hfe : failE d'.wl = 0 ∨ failE d'.wl = 4 ∨ failE d'.wl = 7 := by
        unfold failE
        by_cases hz : d'.wl = 0
        · rw [if_pos hz]; exact .inr (.inr rfl)
        · rw [if_neg hz]; exact .inl rfl
      have hhs : ∀ a, hasD (flushD d' cnt) cnt a = hasD d' cnt a := fun a => by unfold flushD; split <;> rfl
      generalize failE d'.wl = fe at HF hfe
      generalize flushD d' cnt = fd at HF hok hhs
      have HH := Lib.hid (And.intro h1 (And.intro hfe (And.intro hhs hok)))
      clear h1 hfe hhs hok hpu
      go_wp2_with fail
      refine HF.out.mono ?_
      rintro e w2 ⟨rfl, d2, k2⟩
      obtain ⟨h1, hfe, hhs, hok⟩ := HH.out
      have s2 : PS E w2 P D FB M n kp q' fd cnt (k + j + 1) := ⟨h1.pd.disk d2 k2, h1.ok, hok, fun a g hg => by rw [hhs]; exact h1.held a g hg, h1.pins, h1.len⟩
      have HS := Lib.hid (s2.up (show k + j + 1 ≤ k + n + 1 by omega))
      have K2 := Lib.hid (k1.trans (k2.mono (fun a ha => .inl ha)))
      have HFE := Lib.hid hfe
      clear HF d2 k2 k1 s2 h1 hhs hok hfe c0
      go_wp2
      go_ret
      exact ⟨fe, _, fd, rfl, HFE.out, HS.out, K2.out⟩
theorem DD.grow {S T : Nat → Prop} (h : DD S W D d cnt) (hb : Below W.heap.size W W') (hT : ∀ k, T k → S k ∨ (W.heap.size ≤ k ∧ k < W'.heap.size)) : DD T W' D d cnt := by
  obtain ⟨⟨own, ho, B, bc, fo, fc, I, ic, y, hd⟩, ft, hS⟩ := h
  refine ⟨⟨fun k => own k ∧ k < W.heap.size, fun k hk ht => ?_, B, bc, fo, fc, I, ic, y, hd.tight.below hb⟩, ft, fun k hk => ?_⟩
  · rcases hT k ht with h1 | h1
    · exact ho k hk.1 h1
    · exact absurd hk.2 (by omega)
  · rcases hT k hk with h1 | h1
    · exact Nat.lt_of_lt_of_le (hS k h1) hb.size
    · exact h1.2
abbrev newQ (n : Nat) : Pl := { frames := List.replicate n none, hand := 0, pins := 0 }
theorem pool_made (hd : DD E W D d cnt) (ok : Ok d cnt k) (n : Nat) (hn : 1 ≤ n ∧ n ≤ 1000) (t1 t2 : TypeId) :
    PS E (((W.alloc (.cells (madeCells #[.pointer none] n) t1)).alloc (.map #[] 0)).alloc (.cells (pcells D W.heap.size n (W.heap.size + 1) 0 0) t2)) (W.heap.size + 2) D W.heap.size (W.heap.size + 1) n 0 (newQ n) d cnt k := by
  have hlen : (newQ n).frames.length = n := List.length_replicate
  have hnone : ∀ (i : Nat) (o : Option Fr), (newQ n).frames[i]? = some o → o = none := fun i o h => by
    have := List.mem_of_getElem? h
    exact (List.mem_replicate.1 this).2
  have hcf : cntF (newQ n).frames = 0 := by unfold cntF; rw [List.filter_eq_nil_iff.2 (fun a ha => by rw [(List.mem_replicate.1 ha).2]; decide)]; rfl
  have hpf : pinsF (newQ n).frames = 0 := by
    show pinsF (List.replicate n none) = 0
    clear hlen hnone hcf hn
    induction n with
    | zero => rfl
    | succ m ih => rw [List.replicate_succ, pinsF_cons, ih]; rfl
  have r1 := UK.row_new W (madeCells #[.pointer none] n) t1
  rw [size_madeCells, toList_madeCells_one] at r1
  have m1 := IntMap.new (P := Tryd.prog) (K := 3) (E := 3) (W.alloc (.cells (madeCells #[.pointer none] n) t1))
  have s1 : (W.alloc (.cells (madeCells #[.pointer none] n) t1)).heap.size = W.heap.size + 1 := by simp
  rw [s1] at m1
  have s2 : ((W.alloc (.cells (madeCells #[.pointer none] n) t1)).alloc (.map #[] 0)).heap.size = W.heap.size + 2 := by simp
  have b3 := Box.new ((W.alloc (.cells (madeCells #[.pointer none] n) t1)).alloc (.map #[] 0)) (pcells D W.heap.size n (W.heap.size + 1) 0 0) t2
  rw [s2] at b3
  have hB : Below W.heap.size W (((W.alloc (.cells (madeCells #[.pointer none] n) t1)).alloc (.map #[] 0)).alloc (.cells (pcells D W.heap.size n (W.heap.size + 1) 0 0) t2)) := (((Below.refl _ _).alloc (Nat.le_refl _) _).alloc (by simp) _).alloc (by simp; omega) _
  have hs3 : (((W.alloc (.cells (madeCells #[.pointer none] n) t1)).alloc (.map #[] 0)).alloc (.cells (pcells D W.heap.size n (W.heap.size + 1) 0 0) t2)).heap.size = W.heap.size + 3 := by simp
  have hM : IntMap Tryd.prog 3 3 (((W.alloc (.cells (madeCells #[.pointer none] n) t1)).alloc (.map #[] 0)).alloc (.cells (pcells D W.heap.size n (W.heap.size + 1) 0 0) t2)) (W.heap.size + 1) 0 (fun _ => none) 0 := m1.of_block (Below.heap_alloc _ _ _ (by rw [s2]; omega))
  have hR := ((r1.alloc (.map #[] 0)).alloc (.cells (pcells D W.heap.size n (W.heap.size + 1) 0 0) t2))
  generalize ((W.alloc (.cells (madeCells #[.pointer none] n) t1)).alloc (.map #[] 0)).alloc (.cells (pcells D W.heap.size n (W.heap.size + 1) 0 0) t2) = V at b3 hB hs3 hM hR ⊢
  have hpb : ∀ b, PBlk (W.heap.size + 2) W.heap.size (W.heap.size + 1) (newQ n).frames b → W.heap.size ≤ b ∧ b < V.heap.size := fun b hb => by
    rcases hb with rfl | rfl | rfl | ⟨i, o, hi, ho⟩
    · omega
    · omega
    · omega
    · have e := hnone i o hi; subst e; exact absurd ho id
  have hno : ∀ (i : Nat) (f : Fr), (newQ n).frames[i]? = some (some f) → False := fun i f hi => by have := hnone i _ hi; cases this
  have htl := hd.tab.lt
  have hbox : Box V (W.heap.size + 2) (pcells D W.heap.size (newQ n).frames.length (W.heap.size + 1) 0 0) := by rw [hlen]; exact b3
  have hat : PoolAt V (W.heap.size + 2) D W.heap.size (W.heap.size + 1) (newQ n) := by
    refine ⟨hbox, ?_, ⟨fun _ => none, (fun p i => ⟨(fun h0 => by cases h0), (fun hh => by obtain ⟨j, _, fr, hj, _⟩ := hh; exact absurd hj (hno _ _))⟩), ?_⟩, (fun i f hi => absurd hi (hno i f)), by omega, by omega, by omega, (fun i o b hi ho => by have e := hnone i o hi; subst e; exact absurd ho id), (fun i j o u b _ hi _ ho => by have e := hnone i o hi; subst e; exact absurd ho id), (fun b hb => by have := hpb b hb; omega)⟩
    · rw [hlen]; simpa [ptrOf] using hR
    · rw [hcf]; exact hM
  refine ⟨⟨hat, ?_, fun b hb hh => ?_⟩, ⟨hpf.symm, (fun i f hi => absurd hi (hno i f)), (by rw [hlen]; exact hn.1), (by rw [hlen]; exact hn.2)⟩, ok, (fun j g hj => absurd hj (hno j g)), rfl, hlen⟩
  · refine hd.grow hB (fun b hb => ?_)
    rcases hb with hb | hb
    · exact .inl hb
    · exact .inr (hpb b hb)
  · have := hpb b hh
    have := hd.there b hb
    omega
set_option maxRecDepth 100000 in
theorem pnew_any (hd : DD E W D d cnt) (ok : Ok d cnt k) (n : Nat) (hn : 1 ≤ n ∧ n ≤ 1000) :
    Calls Tryd.prog 7 #[.pointer (some ⟨D, 0, none⟩), .int .i64 n, .int .i64 0] W fun e w' => ∃ P FB M, e = .returned (.pointer (some ⟨P, 0, none⟩)) ∧ PS E w' P D FB M n 0 (newQ n) d cnt k ∧ Kept E W w' ∧ W.heap.size ≤ P := by
  have hmk := run_make_row (P := Tryd.prog) 49 41 Tryd.t41 (.pointer none) Tryd.underlying49 rfl rfl rfl rfl .i64 .i64 n (show 8 * n ≤ 281474976710656 by omega) (by omega)
  have hm := pool_made hd ok n hn 41 53
  have hB : Below W.heap.size W (((W.alloc (.cells (madeCells #[.pointer none] n) 41)).alloc (.map #[] 0)).alloc (.cells (pcells D W.heap.size n (W.heap.size + 1) 0 0) 53)) := (((Below.refl _ _).alloc (Nat.le_refl _) _).alloc (by simp) _).alloc (by simp; omega) _
  have HM := Lib.hid hm
  have HK := Lib.hid (Kept.of_below (S := E) hB (fun j hj => hd.there j hj))
  have HH := Lib.hid (hand_any hm.pd hm.ok 0)
  obtain ⟨hn1, hn2⟩ := hn
  clear hm hB
  go_enter Tryd.func7, Tryd.ntmps7
  have hmm : ∀ w : World, (Instr.makeMap 50 none).run Tryd.prog w = .ok (.map (some w.heap.size)) (w.alloc (.map #[] 0)) := run_makeMap _
  go_wp2_with fail
  refine HH.out.mono ?_
  rintro e w2 ⟨rfl, p2, k2⟩
  rw [show handN 0 (newQ n).frames.length = 0 by unfold handN; rw [Int.zero_emod]; rfl] at p2
  have HS := Lib.hid (show PS E w2 (W.heap.size + 2) D W.heap.size (W.heap.size + 1) n 0 (newQ n) d cnt k from ⟨p2, HM.out.ok, HM.out.dok, HM.out.held, HM.out.pins, HM.out.len⟩)
  have K2 := Lib.hid (HK.out.trans k2)
  clear HH HM HK p2 k2 hmk hmm
  go_wp2
  go_ret
  exact ⟨W.heap.size + 2, W.heap.size, W.heap.size + 1, rfl, HS.out, K2.out, by omega⟩
end
end Go.Proofs.YthlomlkalbpdgaaDoor
