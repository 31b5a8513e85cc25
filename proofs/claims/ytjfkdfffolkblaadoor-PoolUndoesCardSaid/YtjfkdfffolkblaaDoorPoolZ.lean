/-
  The pool: Flush, New.
-/
import Derived.Test.YtjfkdfffolkblaaDoorPoolY
import Derived.Deep.OwnRows
namespace Go.Proofs.YtjfkdfffolkblaaDoor
open Go.RowKit
open UK (str BytesAt nth Only Row Box IntMap StrMap)
open Go.BigFrame
section
variable {E : Nat → Prop} {W W' : World} {P D FB M cnt k n : Nat} {kp : Int} {q : Pl} {d d' : Dk} {c : Nat → List UInt8}
theorem PS.wrote (h : PS E W P D FB M n kp q d cnt k c) (hk : k < 900000000) {i : Nat} {f : Fr} {w1 : World} (hi : q.frames[i]? = some (some f)) {m : Nat} (hm : f.page = m) (hm2 : m < cnt) (hm3 : m ∉ d.free) (p : PD E w1 P D FB M { q with frames := q.frames.set i (some { f with dirty := false }) } (writeD d m f.data) cnt) :
    PS E w1 P D FB M n kp { q with frames := q.frames.set i (some { f with dirty := false }) } (writeD d m f.data) cnt (k + 1) c := by
  have hl := (List.getElem?_eq_some_iff.1 hi).1
  have hpo := h.ok.set hi (u := some { f with dirty := false }) (fun g hg => by rw [← Option.some.inj hg]; exact h.ok.pos i f hi)
  rw [show q.pins - pinO (some f) + pinO (some { f with dirty := false }) = q.pins by show q.pins - f.pins + f.pins = q.pins; omega] at hpo
  have hpu := h.dok.puts
  have hfl := (h.pd.pool.each i f hi).len
  have hok := h.dok.write hk f.page f.data
  have hhas : hasD d cnt (m : Int) = true := by rw [← hm]; exact h.held i f hi
  rw [hm, (rwrite_yes h.calm.clean hhas f.data hfl).2] at hok
  refine ⟨p, hpo, hok, fun j g hj => ?_, h.pins, by show (q.frames.set i _).length = n; rw [List.length_set]; exact h.len, h.calm.wrote (by omega) hi hm hm2 hm3 hfl _ _ _, (h.up (Nat.le_succ k)).lim⟩
  replace hj : (q.frames.set i (some { f with dirty := false }))[j]? = some (some g) := hj
  rw [get_set _ _ _ _ hl] at hj
  show hasD d cnt g.page = true
  by_cases e : i = j
  · rw [if_pos e] at hj
    rw [← Option.some.inj (Option.some.inj hj)]
    exact h.held i f hi
  · rw [if_neg e] at hj; exact h.held j g hj
/-- within Flush: the first j frames aren't changed -/
def OnFlush (E : Nat → Prop) (W wr : World) (P D FB M n : Nat) (kp : Int) (q : Pl) (d : Dk) (k cnt : Nat) (c : Nat → List UInt8) (ix : Value) : Prop :=
  ∃ (j : Nat) (q' : Pl) (d' : Dk), ix = .int .i64 j ∧ j ≤ n ∧ PS E wr P D FB M n kp q' d' cnt (k + j) c ∧ Kept E W wr ∧ q'.op = q.op ∧ d'.free = d.free ∧ d'.most = d.most ∧ ∀ (i : Nat) (f : Fr), i < j → q'.frames[i]? = some (some f) → f.dirty = false
/-- behind Flush -/
def FlushR (E : Nat → Prop) (W w' : World) (P D FB M n : Nat) (kp : Int) (q : Pl) (d : Dk) (k cnt : Nat) (c : Nat → List UInt8) (e : Ending) : Prop :=
  ∃ (q' : Pl) (d0 : Dk), e = .returned (.int .i64 0) ∧ PS E w' P D FB M n kp q' (flushD d0 cnt) cnt (k + n + 1) c ∧ Kept E W w' ∧ q'.op = q.op ∧ Clean d0 cnt ∧ d0.puts + 1 < 1000000000 ∧ d0.free = d.free ∧ d0.most = d.most ∧ ∀ p, 1 ≤ p → p < cnt → p ∉ d.free → lookL (flushD d0 cnt).x p = c p
set_option maxHeartbeats 1000000 in
set_option maxRecDepth 100000 in
theorem pflush_any (h : PS E W P D FB M n kp q d cnt k c) (hk : k + n + 1 < 900000000) :
    Calls Tryd.prog 21 #[.pointer (some ⟨P, 0, none⟩)] W fun e w' => FlushR E W w' P D FB M n kp q d k cnt c e := by
  have c1 : W.cell? ⟨P, 1, none⟩ = some (.slice (some ⟨FB, 0, none⟩) q.frames.length q.frames.length) := h.pd.pool.box.cell 1 _ rfl
  rw [h.len] at c1
  have hn1000 : n ≤ 1000 := by rw [← h.len]; exact h.ok.few
  go_enter Tryd.func21, Tryd.ntmps21
  go_wp2_with fail
  go_loopw [11] (fun ix wr => OnFlush E W wr P D FB M n kp q d k cnt c ix) (fun ix _ => 1001 - (intOf ix).toNat)
  case atStart => exact ⟨0, q, d, rfl, Nat.zero_le _, h, Kept.refl _ _, rfl, rfl, rfl, fun i f hi => absurd hi (Nat.not_lt_zero _)⟩
  case round =>
    clear h c1
    obtain ⟨j, q', d', rfl, hj, h1, k1, hop, hfr, hmo, hcl⟩ := hrel
    by_cases hlt : j < n
    · obtain ⟨o, ho⟩ : ∃ o, q'.frames[j]? = some o := ⟨_, List.getElem?_eq_getElem (by rw [h1.len]; exact hlt)⟩
      have cF : wr.cell? ⟨FB, j, none⟩ = some (ptrOf o) := h1.pd.frame ho
      cases o with
      | none =>
        have HS := Lib.hid (h1.up (show k + j ≤ k + (j + 1) by omega))
        have HC := Lib.hid (fun (i : Nat) (f : Fr) (hi : i < j + 1) (hf : q'.frames[i]? = some (some f)) => (show f.dirty = false by
          by_cases e : i = j
          · subst e; rw [ho] at hf; cases hf
          · exact hcl i f (by omega) hf))
        simp only [ptrOf] at cF
        clear h1 hcl
        go_wp2
        go_roundw
        case rel => exact ⟨j + 1, q', d', by go_num, by omega, HS.out, k1, hop, hfr, hmo, HC.out⟩
        case measure => simp [intOf]; omega
      | some f =>
        simp only [ptrOf] at cF
        cases hdy : f.dirty
        · have HW := Lib.hid (write_clean h1.pd ho hdy)
          have HS := Lib.hid (h1.up (show k + j ≤ k + (j + 1) by omega))
          have HC := Lib.hid (fun (i : Nat) (g : Fr) (hi : i < j + 1) (hf : q'.frames[i]? = some (some g)) => (show g.dirty = false by
            by_cases e : i = j
            · subst e
              rw [ho] at hf
              rw [← Option.some.inj (Option.some.inj hf)]; exact hdy
            · exact hcl i g (by omega) hf))
          clear h1 hdy hcl
          go_wp2_with fail
          refine HW.out.mono ?_
          rintro e w2 ⟨rfl, rfl⟩
          go_wp2
          go_roundw
          case rel => exact ⟨j + 1, q', d', by go_num, by omega, HS.out, k1, hop, hfr, hmo, HC.out⟩
          case measure => simp [intOf]; omega
        · have hjl : j < q'.frames.length := by rw [h1.len]; exact hlt
          obtain ⟨m, hm, hm1, hm2, hm3⟩ := h1.calm.nat (h1.held j f ho)
          have hhas : hasD d' cnt (m : Int) = true := by rw [← hm]; exact h1.held j f ho
          obtain ⟨we, wd⟩ := rwrite_yes h1.calm.clean hhas f.data (h1.pd.pool.each j f ho).len
          have hW := write_dirty h1.pd ho hdy h1.dok (by omega)
          rw [show rwriteE d' cnt f.page f.data = 0 by rw [hm]; exact we, show rwriteD d' cnt f.page f.data = writeD d' m f.data by rw [hm]; exact wd] at hW
          have HW := Lib.hid hW
          have HPW := Lib.hid (fun w1 p => h1.wrote (by omega) (w1 := w1) ho hm hm2 hm3 p)
          have HC := Lib.hid (fun (i : Nat) (g : Fr) (hi : i < j + 1) (hf : (q'.frames.set j (some { f with dirty := false }))[i]? = some (some g)) => (show g.dirty = false by
            rw [get_set _ _ _ _ hjl] at hf
            by_cases e : j = i
            · rw [if_pos e] at hf
              rw [← Option.some.inj (Option.some.inj hf)]
            · rw [if_neg e] at hf
              exact hcl i g (by omega) hf))
          clear h1 hdy we wd hW hcl hhas
          go_wp2_with fail
          refine HW.out.mono ?_
          rintro e w2 ⟨rfl, p2, k2⟩
          have HS := Lib.hid (HPW.out w2 p2)
          have K2 := Lib.hid (k1.trans k2)
          clear HW HPW p2 k2 k1
          go_wp2
          go_roundw
          case rel => exact ⟨j + 1, _, _, by go_num, by omega, HS.out, K2.out, hop, hfr, hmo, HC.out⟩
          case measure => simp [intOf]; omega
    · have c0 : wr.cell? ⟨P, 0, none⟩ = some (.pointer (some ⟨D, 0, none⟩)) := h1.pd.pool.box.cell 0 _ rfl
      have hpu := h1.dok.puts
      have hwl := h1.calm.clean.wl
      have hF := dd_flush h1.pd.dd (by omega)
      rw [show failE d'.wl = 0 by rw [hwl]; rfl] at hF
      have HF := Lib.hid hF
      have hok := h1.dok.flush (by omega)
      have hhs : ∀ a, hasD (flushD d' cnt) cnt a = hasD d' cnt a := fun a => by unfold flushD; split <;> rfl
      have hcf := h1.calm.flush (by omega)
      have hffr := (h1.calm.clean.flush (by omega)).2.2.2.1
      have hlk : ∀ p, 1 ≤ p → p < cnt → p ∉ d.free → lookL (flushD d' cnt).x p = c p := fun p a b e => hcf.off p a b (by rw [hffr, hfr]; exact e) (fun i f hi _ => by
        have : i < q'.frames.length := (List.getElem?_eq_some_iff.1 hi).1
        rw [h1.len] at this
        exact hcl i f (by omega) hi)
      have HH := Lib.hid (And.intro h1 (And.intro hhs (And.intro hok (And.intro hcf hlk))))
      clear h1 hhs hok hcf hlk hF hcl hffr hwl
      go_wp2_with fail
      refine HF.out.mono ?_
      rintro e w2 ⟨rfl, d2, k2⟩
      obtain ⟨h1, hhs, hok, hcf, hlk⟩ := HH.out
      have s2 : PS E w2 P D FB M n kp q' (flushD d' cnt) cnt (k + j + 1) c := ⟨h1.pd.disk d2 k2, h1.ok, hok, fun a g hg => by rw [hhs]; exact h1.held a g hg, h1.pins, h1.len, hcf, (h1.up (Nat.le_succ _)).lim⟩
      have HS := Lib.hid (And.intro (s2.up (show k + j + 1 ≤ k + n + 1 by omega)) (And.intro h1.calm.clean hlk))
      have K2 := Lib.hid (k1.trans (k2.mono (fun a ha => .inl ha)))
      clear HF HH d2 k2 k1 s2 h1 hhs hok hcf hlk c0
      go_wp2
      go_ret
      exact ⟨q', d', rfl, HS.out.1, K2.out, hop, HS.out.2.1, by omega, hfr, hmo, HS.out.2.2⟩
theorem DD.grow {S T : Nat → Prop} (h : DD S W D d cnt) (hb : Below W.heap.size W W') (hT : ∀ k, T k → S k ∨ (W.heap.size ≤ k ∧ k < W'.heap.size)) : DD T W' D d cnt := by
  obtain ⟨⟨own, ho, B, bc, fo, fc, I, ic, y, hd⟩, ft, hS⟩ := h
  refine ⟨⟨fun k => own k ∧ k < W.heap.size, fun k hk ht => ?_, B, bc, fo, fc, I, ic, y, hd.tight.below hb⟩, ft, fun k hk => ?_⟩
  · rcases hT k ht with h1 | h1
    · exact ho k hk.1 h1
    · exact absurd hk.2 (by omega)
  · rcases hT k hk with h1 | h1
    · exact Nat.lt_of_lt_of_le (hS k h1) hb.size
    · exact h1.2
abbrev newQ (n : Nat) : Pl := { frames := List.replicate n none, hand := 0, pins := 0, op := none }
theorem pool_made (hd : DD E W D d cnt) (ok : Ok d cnt k) (cl : Clean d cnt) (n : Nat) (hn : 1 ≤ n ∧ n ≤ 1000) (t1 t2 : TypeId) :
    PS E (((W.alloc (.cells (madeCells #[.pointer none] n) t1)).alloc (.map #[] 0)).alloc (.cells (pcells D W.heap.size n (W.heap.size + 1) 0 0 none) t2)) (W.heap.size + 2) D W.heap.size (W.heap.size + 1) n 0 (newQ n) d cnt k (fun p => lookL d.x p) := by
  have hlen : (newQ n).frames.length = n := List.length_replicate
  have hnone : ∀ (i : Nat) (o : Option Fr), (newQ n).frames[i]? = some o → o = none := fun i o h => by
    have := List.mem_of_getElem? h
    exact (List.mem_replicate.1 this).2
  have hcf : cntF (newQ n).frames = 0 := by unfold cntF; rw [List.filter_eq_nil_iff.2 (fun a ha => by rw [(List.mem_replicate.1 ha).2]; decide)]; rfl
  have hpf : pinsF (newQ n).frames = 0 := by
    show pinsF (List.replicate n none) = 0
    clear hlen hnone hcf hn
    induction n with
    | zero => rfl
    | succ m ih => rw [List.replicate_succ, pinsF_cons, ih]; rfl
  have r1 := UK.row_new W (madeCells #[.pointer none] n) t1
  rw [size_madeCells, toList_madeCells_one] at r1
  have m1 := IntMap.new (P := Tryd.prog) (K := 3) (E := 3) (W.alloc (.cells (madeCells #[.pointer none] n) t1))
  have s1 : (W.alloc (.cells (madeCells #[.pointer none] n) t1)).heap.size = W.heap.size + 1 := by simp
  rw [s1] at m1
  have s2 : ((W.alloc (.cells (madeCells #[.pointer none] n) t1)).alloc (.map #[] 0)).heap.size = W.heap.size + 2 := by simp
  have b3 := Box.new ((W.alloc (.cells (madeCells #[.pointer none] n) t1)).alloc (.map #[] 0)) (pcells D W.heap.size n (W.heap.size + 1) 0 0 none) t2
  rw [s2] at b3
  have hB : Below W.heap.size W (((W.alloc (.cells (madeCells #[.pointer none] n) t1)).alloc (.map #[] 0)).alloc (.cells (pcells D W.heap.size n (W.heap.size + 1) 0 0 none) t2)) := (((Below.refl _ _).alloc (Nat.le_refl _) _).alloc (by simp) _).alloc (by simp; omega) _
  have hs3 : (((W.alloc (.cells (madeCells #[.pointer none] n) t1)).alloc (.map #[] 0)).alloc (.cells (pcells D W.heap.size n (W.heap.size + 1) 0 0 none) t2)).heap.size = W.heap.size + 3 := by simp
  have hM : IntMap Tryd.prog 3 3 (((W.alloc (.cells (madeCells #[.pointer none] n) t1)).alloc (.map #[] 0)).alloc (.cells (pcells D W.heap.size n (W.heap.size + 1) 0 0 none) t2)) (W.heap.size + 1) 0 (fun _ => none) 0 := m1.of_block (Below.heap_alloc _ _ _ (by rw [s2]; omega))
  have hR := ((r1.alloc (.map #[] 0)).alloc (.cells (pcells D W.heap.size n (W.heap.size + 1) 0 0 none) t2))
  generalize ((W.alloc (.cells (madeCells #[.pointer none] n) t1)).alloc (.map #[] 0)).alloc (.cells (pcells D W.heap.size n (W.heap.size + 1) 0 0 none) t2) = V at b3 hB hs3 hM hR ⊢
  have hpb : ∀ b, PBlk (W.heap.size + 2) W.heap.size (W.heap.size + 1) (newQ n).frames none b → W.heap.size ≤ b ∧ b < V.heap.size := fun b hb => by
    rcases hb with rfl | rfl | rfl | ho | ⟨i, o, hi, ho⟩
    · omega
    · omega
    · omega
    · exact absurd ho id
    · have e := hnone i o hi; subst e; exact absurd ho id
  have hno : ∀ (i : Nat) (f : Fr), (newQ n).frames[i]? = some (some f) → False := fun i f hi => by have := hnone i _ hi; cases this
  have htl := hd.tab.lt
  have hbox : Box V (W.heap.size + 2) (pcells D W.heap.size (newQ n).frames.length (W.heap.size + 1) 0 0 none) := by rw [hlen]; exact b3
  have hat : PoolAt V (W.heap.size + 2) D W.heap.size (W.heap.size + 1) (newQ n) := by
    refine ⟨hbox, ?_, ⟨fun _ => none, (fun p i => ⟨(fun h0 => by cases h0), (fun hh => by obtain ⟨j, _, fr, hj, _⟩ := hh; exact absurd hj (hno _ _))⟩), ?_⟩, (fun i f hi => absurd hi (hno i f)), by omega, by omega, by omega, (fun i o b hi ho => by have e := hnone i o hi; subst e; exact absurd ho id), (fun i j o u b _ hi _ ho => by have e := hnone i o hi; subst e; exact absurd ho id), (fun x hx => by cases hx), (fun b hb => absurd hb id), (fun i o b _ _ hb => absurd hb id), (fun b hb => by have := hpb b hb; omega)⟩
    · rw [hlen]; simpa [ptrOf] using hR
    · rw [hcf]; exact hM
  refine ⟨⟨hat, ?_, fun b hb hh => ?_⟩, ⟨hpf.symm, (fun i f hi => absurd hi (hno i f)), (by rw [hlen]; exact hn.1), (by rw [hlen]; exact hn.2)⟩, ok, (fun j g hj => absurd hj (hno j g)), rfl, hlen, ⟨cl, fun i f hi => absurd hi (hno i f), fun p _ _ _ _ => rfl⟩, fun o ho => by cases ho⟩
  · refine hd.grow hB (fun b hb => ?_)
    rcases hb with hb | hb
    · exact .inl hb
    · exact .inr (hpb b hb)
  · have := hpb b hh
    have := hd.there b hb
    omega
set_option maxRecDepth 100000 in
theorem pnew_any (hd : DD E W D d cnt) (ok : Ok d cnt k) (cl : Clean d cnt) (n : Nat) (hn : 1 ≤ n ∧ n ≤ 1000) (hand : Int) :
    Calls Tryd.prog 15 #[.pointer (some ⟨D, 0, none⟩), .int .i64 n, .int .i64 hand] W fun e w' => ∃ P FB M q, e = .returned (.pointer (some ⟨P, 0, none⟩)) ∧ PS E w' P D FB M n 0 q d cnt k (fun p => lookL d.x p) ∧ Kept E W w' ∧ q.op = none := by
  have hmk := run_make_row (P := Tryd.prog) 92 71 Tryd.t71 (.pointer none) Tryd.underlying92 rfl rfl rfl rfl .i64 .i64 n (show 8 * n ≤ 281474976710656 by omega) (by omega)
  have hm := pool_made hd ok cl n hn 71 96
  have hB : Below W.heap.size W (((W.alloc (.cells (madeCells #[.pointer none] n) 71)).alloc (.map #[] 0)).alloc (.cells (pcells D W.heap.size n (W.heap.size + 1) 0 0 none) 96)) := (((Below.refl _ _).alloc (Nat.le_refl _) _).alloc (by simp) _).alloc (by simp; omega) _
  have HM := Lib.hid hm
  have HK := Lib.hid (Kept.of_below (S := E) hB (fun j hj => hd.there j hj))
  have HH := Lib.hid (hand_any hm.pd hm.ok hand)
  obtain ⟨hn1, hn2⟩ := hn
  clear hm hB
  simp only [pcells, vOpen, vWas, vMade, vGone, Option.isSome_none] at HM HK HH
  go_enter Tryd.func15, Tryd.ntmps15
  have hmm : ∀ w : World, (Instr.makeMap 93 none).run Tryd.prog w = .ok (.map (some w.heap.size)) (w.alloc (.map #[] 0)) := run_makeMap _
  go_wp2_with fail
  refine HH.out.mono ?_
  rintro e w2 ⟨rfl, p2, k2⟩
  have HS := Lib.hid (show PS E w2 (W.heap.size + 2) D W.heap.size (W.heap.size + 1) n 0 { newQ n with hand := handN hand (newQ n).frames.length } d cnt k (fun p => lookL d.x p) from ⟨p2, ⟨HM.out.ok.pins, HM.out.ok.pos, (handN_is hand (newQ n).frames.length (by have := HM.out.ok.hand; omega)).2.1, HM.out.ok.few⟩, HM.out.dok, HM.out.held, HM.out.pins, HM.out.len, HM.out.calm.same _ _ _, fun o ho => by cases ho⟩)
  have K2 := Lib.hid (HK.out.trans k2)
  clear HH HM HK p2 k2 hmk hmm
  go_wp2
  go_ret
  exact ⟨W.heap.size + 2, W.heap.size, W.heap.size + 1, _, rfl, HS.out, K2.out, rfl⟩
end
end Go.Proofs.YtjfkdfffolkblaaDoor
