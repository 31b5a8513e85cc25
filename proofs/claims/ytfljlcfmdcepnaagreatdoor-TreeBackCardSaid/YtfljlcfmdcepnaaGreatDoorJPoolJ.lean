/-
  The pool: Flush, New.
  A pool as those above it see it: what each page has, which are free, what is under way; at most one page is used. A pool in plain words: which pages somebody has behind a call, how many more may come.
-/
import Derived.Test.YtfljlcfmdcepnaaGreatDoorJPoolY
import Derived.Deep.OwnRows
import Derived.Defers
namespace Go.Proofs.YtfljlcfmdcepnaaGreatDoor
open Go.RowKit
open UK (str BytesAt nth Only Row Box IntMap StrMap)
open Go.BigFrame
section
variable {E : Nat → Prop} {W W' : World} {P D FB M cnt k n : Nat} {kp : Int} {q : Pl} {d d' : Dk} {c : Nat → List UInt8}
theorem PS.wrote (h : PS E W P D FB M n kp q d cnt k c) (hk : k < 900000000) {i : Nat} {f : Fr} {w1 : World} (hi : q.frames[i]? = some (some f)) {m : Nat} (hm : f.page = m) (hm2 : m < cnt) (hm3 : m ∉ d.free) (p : PD E w1 P D FB M { q with frames := q.frames.set i (some { f with dirty := false }) } (writeD d m f.data) cnt) :
    PS E w1 P D FB M n kp { q with frames := q.frames.set i (some { f with dirty := false }) } (writeD d m f.data) cnt (k + 1) c := by
  have hl := (List.getElem?_eq_some_iff.1 hi).1
  have hpo := h.ok.set hi (u := some { f with dirty := false }) (fun g hg => by rw [← Option.some.inj hg]; exact h.ok.pos i f hi)
  rw [show q.pins - pinO (some f) + pinO (some { f with dirty := false }) = q.pins by show q.pins - f.pins + f.pins = q.pins; omega] at hpo
  have hpu := h.dok.puts
  have hfl := (h.pd.pool.each i f hi).len
  have hok := h.dok.write hk f.page f.data
  have hhas : hasD d cnt (m : Int) = true := by rw [← hm]; exact h.held i f hi
  rw [hm, (rwrite_yes h.calm.clean hhas f.data hfl).2] at hok
  refine ⟨p, hpo, hok, fun j g hj => ?_, h.pins, by show (q.frames.set i _).length = n; rw [List.length_set]; exact h.len, h.calm.wrote (by omega) hi hm hm2 hm3 hfl _ _ _, (h.up (Nat.le_succ k)).lim⟩
  replace hj : (q.frames.set i (some { f with dirty := false }))[j]? = some (some g) := hj
  rw [get_set _ _ _ _ hl] at hj
  show hasD d cnt g.page = true
  by_cases e : i = j
  · rw [if_pos e] at hj
    rw [← Option.some.inj (Option.some.inj hj)]
    exact h.held i f hi
  · rw [if_neg e] at hj; exact h.held j g hj
def OnFlush (E : Nat → Prop) (W wr : World) (P D FB M n : Nat) (kp : Int) (q : Pl) (d : Dk) (k cnt : Nat) (c : Nat → List UInt8) (ix : Value) : Prop :=
  ∃ (j : Nat) (q' : Pl) (d' : Dk), ix = .int .i64 j ∧ j ≤ n ∧ PS E wr P D FB M n kp q' d' cnt (k + j) c ∧ Kept E W wr ∧ q'.op = q.op ∧ d'.free = d.free ∧ d'.most = d.most ∧ ∀ (i : Nat) (f : Fr), i < j → q'.frames[i]? = some (some f) → f.dirty = false
def FlushR (E : Nat → Prop) (W w' : World) (P D FB M n : Nat) (kp : Int) (q : Pl) (d : Dk) (k cnt : Nat) (c : Nat → List UInt8) (e : Ending) : Prop :=
  ∃ (q' : Pl) (d0 : Dk), e = .returned (.int .i64 0) ∧ PS E w' P D FB M n kp q' (flushD d0 cnt) cnt (k + n + 1) c ∧ Kept E W w' ∧ q'.op = q.op ∧ Clean d0 cnt ∧ d0.puts + 1 < 1000000000 ∧ d0.free = d.free ∧ d0.most = d.most ∧ ∀ p, 1 ≤ p → p < cnt → p ∉ d.free → lookL (flushD d0 cnt).x p = c p
set_option maxHeartbeats 1000000 in
set_option maxRecDepth 100000 in
theorem pflush_any (h : PS E W P D FB M n kp q d cnt k c) (hk : k + n + 1 < 900000000) :
    Calls Tryz.prog 9 #[.pointer (some ⟨P, 0, none⟩)] W fun e w' => FlushR E W w' P D FB M n kp q d k cnt c e := by
  have c1 : W.cell? ⟨P, 1, none⟩ = some (.slice (some ⟨FB, 0, none⟩) q.frames.length q.frames.length) := h.pd.pool.box.cell 1 _ rfl
  rw [h.len] at c1
  have hn1000 : n ≤ 1000 := by rw [← h.len]; exact h.ok.few
  go_enter Tryz.func9, Tryz.ntmps9
  go_wp2_with fail
  go_loopw [11] (fun ix wr => OnFlush E W wr P D FB M n kp q d k cnt c ix) (fun ix _ => 1001 - (intOf ix).toNat)
  case atStart => exact ⟨0, q, d, rfl, Nat.zero_le _, h, Kept.refl _ _, rfl, rfl, rfl, fun i f hi => absurd hi (Nat.not_lt_zero _)⟩
  case round =>
    clear h c1
    obtain ⟨j, q', d', rfl, hj, h1, k1, hop, hfr, hmo, hcl⟩ := hrel
    by_cases hlt : j < n
    · obtain ⟨o, ho⟩ : ∃ o, q'.frames[j]? = some o := ⟨_, List.getElem?_eq_getElem (by rw [h1.len]; exact hlt)⟩
      have cF : wr.cell? ⟨FB, j, none⟩ = some (ptrOf o) := h1.pd.frame ho
      cases o with
      | none =>
        have HS := Lib.hid (h1.up (show k + j ≤ k + (j + 1) by omega))
        have HC := Lib.hid (fun (i : Nat) (f : Fr) (hi : i < j + 1) (hf : q'.frames[i]? = some (some f)) => (show f.dirty = false by
          by_cases e : i = j
          · subst e; rw [ho] at hf; cases hf
          · exact hcl i f (by omega) hf))
        simp only [ptrOf] at cF
        clear h1 hcl
        go_wp2
        go_roundw
        case rel => exact ⟨j + 1, q', d', by go_num, by omega, HS.out, k1, hop, hfr, hmo, HC.out⟩
        case measure => simp [intOf]; omega
      | some f =>
        simp only [ptrOf] at cF
        cases hdy : f.dirty
        · have HW := Lib.hid (write_clean h1.pd ho hdy)
          have HS := Lib.hid (h1.up (show k + j ≤ k + (j + 1) by omega))
          have HC := Lib.hid (fun (i : Nat) (g : Fr) (hi : i < j + 1) (hf : q'.frames[i]? = some (some g)) => (show g.dirty = false by
            by_cases e : i = j
            · subst e
              rw [ho] at hf
              rw [← Option.some.inj (Option.some.inj hf)]; exact hdy
            · exact hcl i g (by omega) hf))
          clear h1 hdy hcl
          go_wp2_with fail
          refine HW.out.mono ?_
          rintro e w2 ⟨rfl, rfl⟩
          go_wp2
          go_roundw
          case rel => exact ⟨j + 1, q', d', by go_num, by omega, HS.out, k1, hop, hfr, hmo, HC.out⟩
          case measure => simp [intOf]; omega
        · have hjl : j < q'.frames.length := by rw [h1.len]; exact hlt
          obtain ⟨m, hm, hm1, hm2, hm3⟩ := h1.calm.nat (h1.held j f ho)
          have hhas : hasD d' cnt (m : Int) = true := by rw [← hm]; exact h1.held j f ho
          obtain ⟨we, wd⟩ := rwrite_yes h1.calm.clean hhas f.data (h1.pd.pool.each j f ho).len
          have hW := write_dirty h1.pd ho hdy h1.dok (by omega)
          rw [show rwriteE d' cnt f.page f.data = 0 by rw [hm]; exact we, show rwriteD d' cnt f.page f.data = writeD d' m f.data by rw [hm]; exact wd] at hW
          have HW := Lib.hid hW
          have HPW := Lib.hid (fun w1 p => h1.wrote (by omega) (w1 := w1) ho hm hm2 hm3 p)
          have HC := Lib.hid (fun (i : Nat) (g : Fr) (hi : i < j + 1) (hf : (q'.frames.set j (some { f with dirty := false }))[i]? = some (some g)) => (show g.dirty = false by
            rw [get_set _ _ _ _ hjl] at hf
            by_cases e : j = i
            · rw [if_pos e] at hf
              rw [← Option.some.inj (Option.some.inj hf)]
            · rw [if_neg e] at hf
              exact hcl i g (by omega) hf))
          clear h1 hdy we wd hW hcl hhas
          go_wp2_with fail
          refine HW.out.mono ?_
          rintro e w2 ⟨rfl, p2, k2⟩
          have HS := Lib.hid (HPW.out w2 p2)
          have K2 := Lib.hid (k1.trans k2)
          clear HW HPW p2 k2 k1
          go_wp2
          go_roundw
          case rel => exact ⟨j + 1, _, _, by go_num, by omega, HS.out, K2.out, hop, hfr, hmo, HC.out⟩
          case measure => simp [intOf]; omega
    · have c0 : wr.cell? ⟨P, 0, none⟩ = some (.pointer (some ⟨D, 0, none⟩)) := h1.pd.pool.box.cell 0 _ rfl
      have hpu := h1.dok.puts
      have hwl := h1.calm.clean.wl
      have hF := dd_flush h1.pd.dd (by omega)
      rw [show failE d'.wl = 0 by rw [hwl]; rfl] at hF
      have HF := Lib.hid hF
      have hok := h1.dok.flush (by omega)
      have hhs : ∀ a, hasD (flushD d' cnt) cnt a = hasD d' cnt a := fun a => by unfold flushD; split <;> rfl
      have hcf := h1.calm.flush (by omega)
      have hffr := (h1.calm.clean.flush (by omega)).2.2.2.1
      have hlk : ∀ p, 1 ≤ p → p < cnt → p ∉ d.free → lookL (flushD d' cnt).x p = c p := fun p a b e => hcf.off p a b (by rw [hffr, hfr]; exact e) (fun i f hi _ => by
        have : i < q'.frames.length := (List.getElem?_eq_some_iff.1 hi).1
        rw [h1.len] at this
        exact hcl i f (by omega) hi)
      have HH := Lib.hid (And.intro h1 (And.intro hhs (And.intro hok (And.intro hcf hlk))))
      clear h1 hhs hok hcf hlk hF hcl hffr hwl
      go_wp2_with fail
      refine HF.out.mono ?_
      rintro e w2 ⟨rfl, d2, k2⟩
      obtain ⟨h1, hhs, hok, hcf, hlk⟩ := HH.out
      have s2 : PS E w2 P D FB M n kp q' (flushD d' cnt) cnt (k + j + 1) c := ⟨h1.pd.disk d2 k2, h1.ok, hok, fun a g hg => by rw [hhs]; exact h1.held a g hg, h1.pins, h1.len, hcf, (h1.up (Nat.le_succ _)).lim⟩
      have HS := Lib.hid (And.intro (s2.up (show k + j + 1 ≤ k + n + 1 by omega)) (And.intro h1.calm.clean hlk))
      have K2 := Lib.hid (k1.trans (k2.mono (fun a ha => .inl ha)))
      clear HF HH d2 k2 k1 s2 h1 hhs hok hcf hlk c0
      go_wp2
      go_ret
      exact ⟨q', d', rfl, HS.out.1, K2.out, hop, HS.out.2.1, by omega, hfr, hmo, HS.out.2.2⟩
theorem DD.grow {S T : Nat → Prop} (h : DD S W D d cnt) (hb : Below W.heap.size W W') (hT : ∀ k, T k → S k ∨ (W.heap.size ≤ k ∧ k < W'.heap.size)) : DD T W' D d cnt := by
  obtain ⟨⟨own, ho, B, bc, fo, fc, I, ic, y, hd⟩, ft, hS⟩ := h
  refine ⟨⟨fun k => own k ∧ k < W.heap.size, fun k hk ht => ?_, B, bc, fo, fc, I, ic, y, hd.tight.below hb⟩, ft, fun k hk => ?_⟩
  · rcases hT k ht with h1 | h1
    · exact ho k hk.1 h1
    · exact absurd hk.2 (by omega)
  · rcases hT k hk with h1 | h1
    · exact Nat.lt_of_lt_of_le (hS k h1) hb.size
    · exact h1.2
abbrev newQ (n : Nat) : Pl := { frames := List.replicate n none, hand := 0, pins := 0, op := none }
theorem pool_made (hd : DD E W D d cnt) (ok : Ok d cnt k) (cl : Clean d cnt) (n : Nat) (hn : 1 ≤ n ∧ n ≤ 1000) (t1 t2 : TypeId) :
    PS E (((W.alloc (.cells (madeCells #[.pointer none] n) t1)).alloc (.map #[] 0)).alloc (.cells (pcells D W.heap.size n (W.heap.size + 1) 0 0 none) t2)) (W.heap.size + 2) D W.heap.size (W.heap.size + 1) n 0 (newQ n) d cnt k (fun p => lookL d.x p) := by
  have hlen : (newQ n).frames.length = n := List.length_replicate
  have hnone : ∀ (i : Nat) (o : Option Fr), (newQ n).frames[i]? = some o → o = none := fun i o h => by
    have := List.mem_of_getElem? h
    exact (List.mem_replicate.1 this).2
  have hcf : cntF (newQ n).frames = 0 := by unfold cntF; rw [List.filter_eq_nil_iff.2 (fun a ha => by rw [(List.mem_replicate.1 ha).2]; decide)]; rfl
  have hpf : pinsF (newQ n).frames = 0 := by
    show pinsF (List.replicate n none) = 0
    clear hlen hnone hcf hn
    induction n with
    | zero => rfl
    | succ m ih => rw [List.replicate_succ, pinsF_cons, ih]; rfl
  have r1 := UK.row_new W (madeCells #[.pointer none] n) t1
  rw [size_madeCells, toList_madeCells_one] at r1
  have m1 := IntMap.new (P := Tryz.prog) (K := 3) (E := 3) (W.alloc (.cells (madeCells #[.pointer none] n) t1))
  have s1 : (W.alloc (.cells (madeCells #[.pointer none] n) t1)).heap.size = W.heap.size + 1 := by simp
  rw [s1] at m1
  have s2 : ((W.alloc (.cells (madeCells #[.pointer none] n) t1)).alloc (.map #[] 0)).heap.size = W.heap.size + 2 := by simp
  have b3 := Box.new ((W.alloc (.cells (madeCells #[.pointer none] n) t1)).alloc (.map #[] 0)) (pcells D W.heap.size n (W.heap.size + 1) 0 0 none) t2
  rw [s2] at b3
  have hB : Below W.heap.size W (((W.alloc (.cells (madeCells #[.pointer none] n) t1)).alloc (.map #[] 0)).alloc (.cells (pcells D W.heap.size n (W.heap.size + 1) 0 0 none) t2)) := (((Below.refl _ _).alloc (Nat.le_refl _) _).alloc (by simp) _).alloc (by simp; omega) _
  have hs3 : (((W.alloc (.cells (madeCells #[.pointer none] n) t1)).alloc (.map #[] 0)).alloc (.cells (pcells D W.heap.size n (W.heap.size + 1) 0 0 none) t2)).heap.size = W.heap.size + 3 := by simp
  have hM : IntMap Tryz.prog 3 3 (((W.alloc (.cells (madeCells #[.pointer none] n) t1)).alloc (.map #[] 0)).alloc (.cells (pcells D W.heap.size n (W.heap.size + 1) 0 0 none) t2)) (W.heap.size + 1) 0 (fun _ => none) 0 := m1.of_block (Below.heap_alloc _ _ _ (by rw [s2]; omega))
  have hR := ((r1.alloc (.map #[] 0)).alloc (.cells (pcells D W.heap.size n (W.heap.size + 1) 0 0 none) t2))
  generalize ((W.alloc (.cells (madeCells #[.pointer none] n) t1)).alloc (.map #[] 0)).alloc (.cells (pcells D W.heap.size n (W.heap.size + 1) 0 0 none) t2) = V at b3 hB hs3 hM hR ⊢
  have hpb : ∀ b, PBlk (W.heap.size + 2) W.heap.size (W.heap.size + 1) (newQ n).frames none b → W.heap.size ≤ b ∧ b < V.heap.size := fun b hb => by
    rcases hb with rfl | rfl | rfl | ho | ⟨i, o, hi, ho⟩
    · omega
    · omega
    · omega
    · exact absurd ho id
    · have e := hnone i o hi; subst e; exact absurd ho id
  have hno : ∀ (i : Nat) (f : Fr), (newQ n).frames[i]? = some (some f) → False := fun i f hi => by have := hnone i _ hi; cases this
  have htl := hd.tab.lt
  have hbox : Box V (W.heap.size + 2) (pcells D W.heap.size (newQ n).frames.length (W.heap.size + 1) 0 0 none) := by rw [hlen]; exact b3
  have hat : PoolAt V (W.heap.size + 2) D W.heap.size (W.heap.size + 1) (newQ n) := by
    refine ⟨hbox, ?_, ⟨fun _ => none, (fun p i => ⟨(fun h0 => by cases h0), (fun hh => by obtain ⟨j, _, fr, hj, _⟩ := hh; exact absurd hj (hno _ _))⟩), ?_⟩, (fun i f hi => absurd hi (hno i f)), by omega, by omega, by omega, (fun i o b hi ho => by have e := hnone i o hi; subst e; exact absurd ho id), (fun i j o u b _ hi _ ho => by have e := hnone i o hi; subst e; exact absurd ho id), (fun x hx => by cases hx), (fun b hb => absurd hb id), (fun i o b _ _ hb => absurd hb id), (fun b hb => by have := hpb b hb; omega)⟩
    · rw [hlen]; simpa [ptrOf] using hR
    · rw [hcf]; exact hM
  refine ⟨⟨hat, ?_, fun b hb hh => ?_⟩, ⟨hpf.symm, (fun i f hi => absurd hi (hno i f)), (by rw [hlen]; exact hn.1), (by rw [hlen]; exact hn.2)⟩, ok, (fun j g hj => absurd hj (hno j g)), rfl, hlen, ⟨cl, fun i f hi => absurd hi (hno i f), fun p _ _ _ _ => rfl⟩, fun o ho => by cases ho⟩
  · refine hd.grow hB (fun b hb => ?_)
    rcases hb with hb | hb
    · exact .inl hb
    · exact .inr (hpb b hb)
  · have := hpb b hh
    have := hd.there b hb
    omega
set_option maxRecDepth 100000 in
theorem pnew_any (hd : DD E W D d cnt) (ok : Ok d cnt k) (cl : Clean d cnt) (n : Nat) (hn : 1 ≤ n ∧ n ≤ 1000) (hand : Int) :
    Calls Tryz.prog 13 #[.pointer (some ⟨D, 0, none⟩), .int .i64 n, .int .i64 hand] W fun e w' => ∃ P FB M q, e = .returned (.pointer (some ⟨P, 0, none⟩)) ∧ PS E w' P D FB M n 0 q d cnt k (fun p => lookL d.x p) ∧ Kept E W w' ∧ q.op = none := by
  have hmk := run_make_row (P := Tryz.prog) 79 85 Tryz.t85 (.pointer none) Tryz.underlying79 rfl rfl rfl rfl .i64 .i64 n (show 8 * n ≤ 281474976710656 by omega) (by omega)
  have hm := pool_made hd ok cl n hn 85 84
  have hB : Below W.heap.size W (((W.alloc (.cells (madeCells #[.pointer none] n) 85)).alloc (.map #[] 0)).alloc (.cells (pcells D W.heap.size n (W.heap.size + 1) 0 0 none) 84)) := (((Below.refl _ _).alloc (Nat.le_refl _) _).alloc (by simp) _).alloc (by simp; omega) _
  have HM := Lib.hid hm
  have HK := Lib.hid (Kept.of_below (S := E) hB (fun j hj => hd.there j hj))
  have HH := Lib.hid (hand_any hm.pd hm.ok hand)
  obtain ⟨hn1, hn2⟩ := hn
  clear hm hB
  simp only [pcells, vOpen, vWas, vMade, vGone, Option.isSome_none] at HM HK HH
  go_enter Tryz.func13, Tryz.ntmps13
  have hmm : ∀ w : World, (Instr.makeMap 80 none).run Tryz.prog w = .ok (.map (some w.heap.size)) (w.alloc (.map #[] 0)) := run_makeMap _
  go_wp2_with fail
  refine HH.out.mono ?_
  rintro e w2 ⟨rfl, p2, k2⟩
  have HS := Lib.hid (show PS E w2 (W.heap.size + 2) D W.heap.size (W.heap.size + 1) n 0 { newQ n with hand := handN hand (newQ n).frames.length } d cnt k (fun p => lookL d.x p) from ⟨p2, ⟨HM.out.ok.pins, HM.out.ok.pos, (handN_is hand (newQ n).frames.length (by have := HM.out.ok.hand; omega)).2.1, HM.out.ok.few⟩, HM.out.dok, HM.out.held, HM.out.pins, HM.out.len, HM.out.calm.same _ _ _, fun o ho => by cases ho⟩)
  have K2 := Lib.hid (HK.out.trans k2)
  clear HH HM HK p2 k2 hmk hmm
  go_wp2
  go_ret
  exact ⟨W.heap.size + 2, W.heap.size, W.heap.size + 1, _, rfl, HS.out, K2.out, rfl⟩
end
end Go.Proofs.YtfljlcfmdcepnaaGreatDoor
namespace Go.Proofs.YtfljlcfmdcepnaaGreatDoor
open Go.RowKit
open UK (str BytesAt nth Only Row Box IntMap StrMap)
open Go.BigFrame
structure AO where
  was : Int → Option (List UInt8)
  made : List Int
  gone : List Int
structure AP where
  cnt : Nat
  most : Int
  free : List Nat
  c : Nat → List UInt8
  op : Option AO
def absO (o : Option Opn) : Option AO := o.map fun x => { was := x.was, made := x.made, gone := x.gone }
namespace AP
def goneL (A : AP) : List Int := match A.op with
  | none => []
  | some o => o.gone
def Has (A : AP) (p : Nat) : Prop := 1 ≤ p ∧ p < A.cnt ∧ p ∉ A.free ∧ (p : Int) ∉ A.goneL
def Full (A : AP) : Prop := A.most ≤ A.cnt ∧ A.free = []
def next (A : AP) : Nat := if A.free = [] then A.cnt else A.free.getLastD 0
def put (A : AP) (p : Nat) (s : List UInt8) : AP := { A with c := setC A.c p s }
def keep (A : AP) (p : Nat) : AP := { A with op := A.op.map fun o => if (p : Int) ∈ o.made ∨ (o.was p).isSome = true then o else { o with was := fun j => if j = p then some (A.c p) else o.was j } }
def take (A : AP) : AP := { A with cnt := if A.free = [] then A.cnt + 1 else A.cnt, free := A.free.dropLast, c := setC A.c A.next (UK.zeros 504), op := A.op.map fun o => { o with made := o.made ++ [(A.next : Int)] } }
def give (A : AP) (p : Nat) : AP := match A.op with
  | none => { A with free := A.free ++ [p] }
  | some o => { A with op := some { o with gone := o.gone ++ [(p : Int)] } }
end AP
structure Is (A : AP) (q : Pl) (d : Dk) : Prop where
  free : d.free = A.free
  most : d.most = A.most
  op : absO q.op = A.op
def PZ (E : Nat → Prop) (W : World) (P D : Nat) (A : AP) (k : Nat) : Prop := ∃ FB M n q d, PS E W P D FB M n 0 q d A.cnt k A.c ∧ 1 ≤ n ∧ Is A q d
def PF (E : Nat → Prop) (W : World) (P D : Nat) (A : AP) (k fb db cap pg : Nat) (dy : Bool) : Prop :=
  ∃ (FB M n : Nat) (q : Pl) (d : Dk) (i : Nat) (f : Fr), PS E W P D FB M n 1 q d A.cnt k A.c ∧ 1 ≤ n ∧ Is A q d ∧ q.frames[i]? = some (some f) ∧ f.blk = fb ∧ f.db = db ∧ f.cap = cap ∧ f.page = (pg : Nat) ∧ 0 < f.pins ∧ (dy = true → f.dirty = true)
theorem pins_nil : ∀ (l : List (Option Fr)), (∀ (i : Nat) (f : Fr), l[i]? = some (some f) → 0 ≤ f.pins) → 0 ≤ pinsF l ∧ (pinsF l = 0 → ∀ (i : Nat) (f : Fr), l[i]? = some (some f) → f.pins = 0)
  | [], _ => ⟨Int.le_refl _, fun _ i f h => by cases h⟩
  | o :: l, h => by
    obtain ⟨h1, h2⟩ := pins_nil l (fun i f hi => h (i + 1) f hi)
    have ho : 0 ≤ pinO o := by
      cases o with
      | none => exact Int.le_refl _
      | some f => exact h 0 f rfl
    rw [pinsF_cons]
    refine ⟨by omega, fun hz i f hi => ?_⟩
    cases i with
    | zero =>
      have e : o = some f := Option.some.inj hi
      subst e
      have : pinO (some f) = f.pins := rfl
      omega
    | succ j => exact h2 (by omega) j f hi
section
variable {E : Nat → Prop} {W W' : World} {P D k fb db cap pg : Nat} {A : AP} {dy : Bool}
theorem PS.wide {FB M n cnt : Nat} {kp : Int} {q : Pl} {d : Dk} {c : Nat → List UInt8} (h : PS E W P D FB M n kp q d cnt k c) (hb : Below W.heap.size W W') {T : Nat → Prop} (hT : ∀ j, T j → E j ∨ (W.heap.size ≤ j ∧ j < W'.heap.size)) : PS T W' P D FB M n kp q d cnt k c := by
  refine ⟨⟨h.pd.pool.kept hb.size (fun j hj => hb.block j (h.pd.pool.lt hj)), h.pd.dd.grow hb (fun j hj => ?_), fun j hj hp => ?_⟩, h.ok, h.dok, h.held, h.pins, h.len, h.calm, h.lim⟩
  · rcases hj with hj | hj
    · rcases hT j hj with h1 | h1
      · exact .inl (.inl h1)
      · exact .inr h1
    · exact .inl (.inr hj)
  · rcases hT j hj with h1 | h1
    · exact h.pd.far j h1 hp
    · have := h.pd.pool.lt hp; omega
theorem PZ.wide (h : PZ E W P D A k) (hb : Below W.heap.size W W') {T : Nat → Prop} (hT : ∀ j, T j → E j ∨ (W.heap.size ≤ j ∧ j < W'.heap.size)) : PZ T W' P D A k := by
  obtain ⟨FB, M, n, q, d, h1, r⟩ := h
  exact ⟨FB, M, n, q, d, h1.wide hb hT, r⟩
theorem PZ.less (h : PZ E W P D A k) {T : Nat → Prop} (hT : ∀ j, T j → E j) : PZ T W P D A k := h.wide (Below.refl _ _) (fun j hj => .inl (hT j hj))
theorem PZ.next (h : PZ E W P D A k) (hb : Below W.heap.size W W') : PZ E W' P D A k := h.wide hb (fun _ hj => .inl hj)
theorem PF.wide (h : PF E W P D A k fb db cap pg dy) (hb : Below W.heap.size W W') {T : Nat → Prop} (hT : ∀ j, T j → E j ∨ (W.heap.size ≤ j ∧ j < W'.heap.size)) : PF T W' P D A k fb db cap pg dy := by
  obtain ⟨FB, M, n, q, d, i, f, h1, r⟩ := h
  exact ⟨FB, M, n, q, d, i, f, h1.wide hb hT, r⟩
theorem PF.next (h : PF E W P D A k fb db cap pg dy) (hb : Below W.heap.size W W') : PF E W' P D A k fb db cap pg dy := h.wide hb (fun _ hj => .inl hj)
theorem DD.over {S : Nat → Prop} {cnt : Nat} {d : Dk} (h : DD S W D d cnt) {R : Nat → Prop} (hRS : ∀ j, R j → S j) (hRt : ¬ R 0) (hs : W.heap.size ≤ W'.heap.size) (hk : ∀ j, j < W.heap.size → ¬ R j → W'.heap[j]? = W.heap[j]?) {T : Nat → Prop} (hT : ∀ j, T j → S j ∨ (W.heap.size ≤ j ∧ j < W'.heap.size)) : DD T W' D d cnt := by
  obtain ⟨⟨own, ho, B, bc, fo, fc, I, ic, y, hd⟩, ft, hS⟩ := h
  have hd2 := hd.tight
  have hown2 : ∀ k, (own k ∧ k < W.heap.size) → W'.heap[k]? = W.heap[k]? := fun k hj => hk k hj.2 (fun hr => ho k hj.1 (hRS k hr))
  have htab : TabAt W' := fun c => (World.cell?_of_block (a := ⟨_, _, none⟩) (hk _ hd.tab.lt hRt)).trans (hd.tab c)
  refine ⟨⟨fun k => own k ∧ k < W.heap.size, fun k hk ht => ?_, B, bc, fo, fc, I, ic, y, ?_⟩, ft, fun k hk => ?_⟩
  · rcases hT k ht with h1 | h1
    · exact ho k hk.1 h1
    · exact absurd hk.2 (by omega)
  · refine ⟨hd2.cells.of_block hs (hown2 _ hd2.oD), hd2.bytes.of_block (hown2 _ hd2.oB), hd2.ylen, hd2.le, hd2.pre, ?_, hd2.flags.of_block hs (hown2 _ hd2.oI), hd2.DB, hd2.DI, hd2.BI, hd2.oD, hd2.oB, hd2.oI, htab, hd2.notab⟩
    rcases hd2.freeAt with h0 | ⟨F, e1, r, n1, n2, n3, n4⟩
    · exact .inl h0
    · exact .inr ⟨F, e1, r.of_block hs (hown2 _ n4), n1, n2, n3, n4⟩
  · rcases hT k hk with h1 | h1
    · exact Nat.lt_of_lt_of_le (hS k h1) hs
    · exact h1.2
theorem PS.over {FB M n cnt : Nat} {kp : Int} {q : Pl} {d : Dk} {c : Nat → List UInt8} (h : PS E W P D FB M n kp q d cnt k c) {R : Nat → Prop} (hRE : ∀ j, R j → E j) (hRt : ¬ R 0) (hs : W.heap.size ≤ W'.heap.size) (hk : ∀ j, j < W.heap.size → ¬ R j → W'.heap[j]? = W.heap[j]?) {T : Nat → Prop} (hT : ∀ j, T j → E j ∨ (W.heap.size ≤ j ∧ j < W'.heap.size)) : PS T W' P D FB M n kp q d cnt k c := by
  refine ⟨⟨h.pd.pool.kept hs (fun j hj => hk j (h.pd.pool.lt hj) (fun hr => h.pd.far j (hRE j hr) hj)), h.pd.dd.over (fun j hj => .inl (hRE j hj)) hRt hs hk (fun j hj => ?_), fun j hj hp => ?_⟩, h.ok, h.dok, h.held, h.pins, h.len, h.calm, h.lim⟩
  · rcases hj with hj | hj
    · rcases hT j hj with h1 | h1
      · exact .inl (.inl h1)
      · exact .inr h1
    · exact .inl (.inr hj)
  · rcases hT j hj with h1 | h1
    · exact h.pd.far j h1 hp
    · have := h.pd.pool.lt hp; omega
theorem PZ.over (h : PZ E W P D A k) {R : Nat → Prop} (hRE : ∀ j, R j → E j) (hRt : ¬ R 0) (hs : W.heap.size ≤ W'.heap.size) (hk : ∀ j, j < W.heap.size → ¬ R j → W'.heap[j]? = W.heap[j]?) {T : Nat → Prop} (hT : ∀ j, T j → E j ∨ (W.heap.size ≤ j ∧ j < W'.heap.size)) : PZ T W' P D A k := by
  obtain ⟨FB, M, n, q, d, h1, r⟩ := h
  exact ⟨FB, M, n, q, d, h1.over hRE hRt hs hk hT, r⟩
theorem PZ.there (h : PZ E W P D A k) : ∀ j, E j → j < W.heap.size := by
  obtain ⟨FB, M, n, q, d, h1, r⟩ := h
  exact fun j hj => h1.pd.dd.there j (.inl hj)
theorem PF.there (h : PF E W P D A k fb db cap pg dy) : ∀ j, E j → j < W.heap.size := by
  obtain ⟨FB, M, n, q, d, i, f, h1, r⟩ := h
  exact fun j hj => h1.pd.dd.there j (.inl hj)
theorem PZ.kept (h : PZ E W P D A k) (hb : Below W.heap.size W W') : Kept E W W' := Kept.of_below hb h.there
theorem PF.kept (h : PF E W P D A k fb db cap pg dy) (hb : Below W.heap.size W W') : Kept E W W' := Kept.of_below hb h.there
theorem PZ.up {m : Nat} (h : PZ E W P D A k) (hm : k ≤ m) : PZ E W P D A m := by
  obtain ⟨FB, M, n, q, d, h1, r⟩ := h
  exact ⟨FB, M, n, q, d, h1.up hm, r⟩
theorem PZ.tab (h : PZ E W P D A k) : TabAt W := by
  obtain ⟨FB, M, n, q, d, h1, r⟩ := h
  exact h1.pd.dd.tab
theorem PF.bytes (h : PF E W P D A k fb db cap pg dy) : ∃ y, BytesAt W db y ∧ y.length = cap ∧ y.take 504 = A.c pg ∧ 504 ≤ cap ∧ ¬ E db := by
  obtain ⟨FB, M, n, q, d, i, f, h1, _, _, hi, rfl, rfl, rfl, hp, _⟩ := h
  have hfr := h1.pd.pool.each i f hi
  obtain ⟨y, a, b, e⟩ := hfr.bytes
  refine ⟨y, a, b, e.trans ?_, hfr.cap, fun he => h1.pd.far _ he (.inr (.inr (.inr (.inr ⟨i, some f, hi, .inr rfl⟩))))⟩
  have := h1.calm.at_ i f hi
  rw [hp, Int.toNat_natCast] at this
  exact this
theorem PF.write (h : PF E W P D A k fb db cap pg true) (ho : Only db W W') {y : List UInt8} (hy : BytesAt W' db y) (hyl : y.length = cap) : PF E W' P D (A.put pg (y.take 504)) k fb db cap pg true ∧ Kept E W W' := by
  obtain ⟨FB, M, n, q, d, i, f, h1, hn, his, hi, rfl, rfl, rfl, hp, hpi, hd⟩ := h
  have hl := (List.getElem?_eq_some_iff.1 hi).1
  obtain ⟨a, b⟩ := h1.bytes hi (hd rfl) ho hy hyl
  rw [show f.page.toNat = pg by omega] at a
  exact ⟨⟨FB, M, n, _, d, i, { f with data := y.take 504 }, a, hn, ⟨his.free, his.most, his.op⟩, by show (q.frames.set i _)[i]? = _; rw [get_set _ _ _ _ hl, if_pos rfl], rfl, rfl, rfl, hp, hpi, fun _ => hd rfl⟩, b⟩
theorem Is.has {q : Pl} {d : Dk} {cnt : Nat} {c : Nat → List UInt8} (h : Is A q d) (hc : Calm q d cnt c) (hcnt : A.cnt = cnt) (p : Int) : (∃ m : Nat, p = m ∧ A.Has m) ↔ hasD d cnt p = true ∧ p ∉ goneL q.op := by
  have hg : goneL q.op = A.goneL := by
    have := h.op
    unfold AP.goneL
    rw [← this]
    unfold goneL absO
    cases q.op <;> rfl
  rw [hc.clean.so.hasI, decide_eq_true_eq, hg, h.free]
  unfold AP.Has
  constructor
  · rintro ⟨m, rfl, h1, h2, h3, h4⟩
    rw [Int.toNat_natCast]
    exact ⟨⟨by omega, by omega, h3⟩, h4⟩
  · rintro ⟨⟨h1, h2, h3⟩, h4⟩
    exact ⟨p.toNat, by omega, by omega, by omega, h3, by rw [show ((p.toNat : Nat) : Int) = p by omega]; exact h4⟩
theorem pz_pin (h : PZ E W P D A k) (hk : k + 2 < 900000000) (p : Nat) (hp : A.Has p) :
    Calls Tryz.prog 68 #[.pointer (some ⟨P, 0, none⟩), .int .i64 p] W fun e w' => ∃ fb db cap, e = .returned (.tuple #[.pointer (some ⟨fb, 0, none⟩), .int .i64 0]) ∧ PF E w' P D A (k + 2) fb db cap p false ∧ Kept E W w' := by
  obtain ⟨FB, M, n, q, d, h1, hn, his⟩ := h
  obtain ⟨hh, hg⟩ := (his.has h1.calm rfl (p : Int)).1 ⟨p, rfl, hp⟩
  have hpw : (Lit.int .i64 (p : Int)).wf = true := WalkArith.wf_i64 (by have := hp.2.1; have := h1.dok.fit.few; omega)
  have hc : Calls Tryz.prog 68 #[.pointer (some ⟨P, 0, none⟩), .int .i64 p] W fun e w' => PinC E W w' P D FB M n 0 q d A.cnt k A.c p e := by
    by_cases hx : ∃ (i : Nat) (f : Fr), q.frames[i]? = some (some f) ∧ f.page = p
    · obtain ⟨i, f, hi, hf⟩ := hx
      refine pin_there h1 ⟨by omega, by omega⟩ (p : Int) hpw hh hg hi hf ?_
      have h0 := (pins_nil q.frames (fun i f hi => (h1.ok.pos i f hi).1)).2 (by rw [← h1.ok.pins]; exact h1.pins) i f hi
      omega
    · exact pin_comes h1 hk ⟨by omega, by omega⟩ (p : Int) hpw hh hg (fun i f hi hf => hx ⟨i, f, hi, hf⟩)
  refine hc.mono ?_
  rintro e w' ⟨i, f, q', d', rfl, hi, hf, hfp, s, kk, hop, hfr, hmo⟩
  exact ⟨f.blk, f.db, f.cap, rfl, ⟨FB, M, n, q', d', i, f, s, hn, ⟨hfr.trans his.free, hmo.trans his.most, by rw [hop]; exact his.op⟩, hi, rfl, rfl, rfl, hf, hfp, fun hh => by cases hh⟩, kk⟩
theorem pf_page (h : PF E W P D A k fb db cap pg dy) :
    Calls Tryz.prog 72 #[.pointer (some ⟨fb, 0, none⟩)] W fun e w' => e = .returned (.int .i64 pg) ∧ w' = W := by
  obtain ⟨FB, M, n, q, d, i, f, h1, hn, his, hi, rfl, rfl, rfl, hp, hpi, hd⟩ := h
  have := page_any (h1.pd.pool.each i f hi)
  rw [hp] at this
  exact this
theorem pf_bytes (h : PF E W P D A k fb db cap pg dy) :
    Calls Tryz.prog 70 #[.pointer (some ⟨fb, 0, none⟩)] W fun e w' => e = .returned (.slice (some ⟨db, 0, none⟩) 504 cap) ∧ w' = W := by
  obtain ⟨FB, M, n, q, d, i, f, h1, hn, his, hi, rfl, rfl, rfl, hp, hpi, hd⟩ := h
  have c2 : W.cell? ⟨f.blk, 2, none⟩ = some (.slice (some ⟨f.db, 0, none⟩) 504 f.cap) := (h1.pd.pool.each i f hi).box.cell 2 _ rfl
  clear h1 hi
  go_enter Tryz.func70, Tryz.ntmps70
  go_wp2
  go_ret
  exact ⟨rfl, rfl⟩
theorem keep_is {q : Pl} {f : Fr} (h : absO q.op = A.op) (hp : f.page = (pg : Nat)) (hd : f.data = A.c pg) : absO (keepO q.op f.page f.data) = (A.keep pg).op := by
  unfold AP.keep
  rw [hp, hd]
  show _ = A.op.map _
  rw [← h]
  unfold absO keepO
  cases q.op with
  | none => rfl
  | some o =>
    show Option.map _ (if _ then _ else _) = _
    simp only [Option.map_some]
    by_cases hc : (pg : Int) ∈ o.made ∨ (o.was pg).isSome = true
    · rw [if_pos hc, if_pos hc]; rfl
    · rw [if_neg hc, if_neg hc]; rfl
theorem pf_edit (h : PF E W P D A k fb db cap pg dy) (hk : k < 900000000) :
    Calls Tryz.prog 74 #[.pointer (some ⟨fb, 0, none⟩)] W fun e w' => e = .returned (.slice (some ⟨db, 0, none⟩) 504 cap) ∧ PF E w' P D (A.keep pg) (k + 1) fb db cap pg true ∧ Kept E W w' := by
  obtain ⟨FB, M, n, q, d, i, f, h1, hn, his, hi, rfl, rfl, rfl, hp, hpi, hd⟩ := h
  have hl := (List.getElem?_eq_some_iff.1 hi).1
  have hda : f.data = A.c pg := by
    have := h1.calm.at_ i f hi
    rw [hp, Int.toNat_natCast] at this
    exact this
  refine (edit_any h1 hi hk).mono ?_
  rintro e w' ⟨a, s, kk⟩
  exact ⟨a, ⟨FB, M, n, _, d, i, { f with dirty := true }, s, hn, ⟨his.free, his.most, keep_is his.op hp hda⟩, by show (q.frames.set i _)[i]? = _; rw [get_set _ _ _ _ hl, if_pos rfl], rfl, rfl, rfl, hp, hpi, fun _ => rfl⟩, kk⟩
theorem pf_unpin_d (u : FrameMode) (h : PF E W P D A k fb db cap pg dy) :
    CallsD Tryz.prog 69 #[.pointer (some ⟨fb, 0, none⟩)] u W fun e u' w' => u' = u ∧ (e = .returned (.tuple #[]) ∧ PZ E w' P D A k ∧ Kept E W w') := by
  obtain ⟨FB, M, n, q, d, i, f, h1, hn, his, hi, rfl, rfl, rfl, hp, hpi, hd⟩ := h
  refine (unpin_any_d u h1 hi hpi ⟨by omega, by omega⟩).mono ?_
  rintro e u' w' ⟨hu, a, s, kk⟩
  exact ⟨hu, a, ⟨FB, M, n, _, d, s, hn, ⟨his.free, his.most, his.op⟩⟩, kk⟩
theorem t_words (d : Dk) (cnt : Nat) (hf : ¬ fullD d cnt) (hw : d.wl ≠ 0) : tP d cnt = (if d.free = [] then cnt else d.free.getLastD 0) ∧ tC d cnt = (if d.free = [] then cnt + 1 else cnt) ∧ (tD d cnt).free = d.free.dropLast := by
  unfold fullD at hf
  unfold tP tC tD
  rw [if_neg hf, if_neg hf, if_neg hf, if_neg hw, if_neg hw, if_neg hw]
  refine ⟨rfl, rfl, ?_⟩
  by_cases h : d.free = []
  · rw [if_pos h, h]; exact h
  · rw [if_neg h]; rfl
theorem pz_take (h : PZ E W P D A k) (hk : k + 2 < 900000000) (hf : ¬ A.Full) :
    Calls Tryz.prog 71 #[.pointer (some ⟨P, 0, none⟩)] W fun e w' => ∃ fb db cap, e = .returned (.tuple #[.pointer (some ⟨fb, 0, none⟩), .int .i64 0]) ∧ PF E w' P D A.take (k + 2) fb db cap A.next false ∧ Kept E W w' := by
  obtain ⟨FB, M, n, q, d, h1, hn, his⟩ := h
  have hf2 : ¬ fullD d A.cnt := by unfold fullD; rw [his.free, his.most]; exact hf
  obtain ⟨t1, t2, t3⟩ := t_words d A.cnt hf2 (by rw [h1.calm.clean.wl]; decide)
  rw [his.free] at t1 t2 t3
  refine (take_some h1 hk ⟨by omega, by omega⟩ hf2).mono ?_
  rintro e w' ⟨i, f, q', d', rfl, hi, hf, hfp, s, kk, hm, hfr, hmo⟩
  rw [t1, t2] at s
  refine ⟨f.blk, f.db, f.cap, rfl, ⟨FB, M, n, q', d', i, f, s, hn, ⟨hfr.trans t3, hmo.trans his.most, ?_⟩, hi, rfl, rfl, rfl, by rw [hf, t1]; rfl, hfp, fun hh => by cases hh⟩, kk⟩
  show _ = A.op.map _
  rw [← his.op]
  rcases hm with ⟨a, b⟩ | ⟨x, y, a, b, e1, e2, e3, e4⟩
  · rw [a, b]; rfl
  · rw [a, b]
    unfold absO
    simp only [Option.map_some]
    rw [e1, e3, e4, t1]; rfl
theorem pz_take_no (h : PZ E W P D A k) (hk : k + 2 < 900000000) (hf : A.Full) :
    Calls Tryz.prog 71 #[.pointer (some ⟨P, 0, none⟩)] W fun e w' => e = .returned (.tuple #[.pointer none, .int .i64 6]) ∧ PZ E w' P D A (k + 2) ∧ Kept E W w' := by
  obtain ⟨FB, M, n, q, d, h1, hn, his⟩ := h
  refine (take_none h1 hk ⟨by omega, by omega⟩ (by unfold fullD; rw [his.free, his.most]; exact hf)).mono ?_
  rintro e w' ⟨q', d', rfl, s, kk, hop, hfr, hmo⟩
  exact ⟨rfl, ⟨FB, M, n, q', d', s, hn, ⟨hfr.trans his.free, hmo.trans his.most, by rw [hop]; exact his.op⟩⟩, kk⟩
theorem PS.rest {FB M n cnt : Nat} {q : Pl} {d : Dk} {c : Nat → List UInt8} (h : PS E W P D FB M n 0 q d cnt k c) (i : Nat) (f : Fr) (hi : q.frames[i]? = some (some f)) : f.pins = 0 :=
  (pins_nil q.frames (fun i f hi => (h.ok.pos i f hi).1)).2 (by rw [← h.ok.pins]; exact h.pins) i f hi
theorem pz_give (h : PZ E W P D A k) (hk : k + 1 < 900000000) (p : Nat) (hp : A.Has p) :
    Calls Tryz.prog 81 #[.pointer (some ⟨P, 0, none⟩), .int .i64 p] W fun e w' => e = .returned (.int .i64 0) ∧ PZ E w' P D (A.give p) (k + 1) ∧ Kept E W w' := by
  obtain ⟨FB, M, n, q, d, h1, hn, his⟩ := h
  obtain ⟨hh, hg⟩ := (his.has h1.calm rfl (p : Int)).1 ⟨p, rfl, hp⟩
  have hpw : (Lit.int .i64 (p : Int)).wf = true := WalkArith.wf_i64 (by have := hp.2.1; have := h1.dok.fit.few; omega)
  have hq0 : ∀ (i : Nat) (f : Fr), q.frames[i]? = some (some f) → f.page = p → f.pins ≤ 0 := fun i f hi _ => by have := h1.rest i f hi; omega
  have ho := his.op
  cases hq : q.op with
  | none =>
    refine (give_shut h1 hk hq hq0 hpw hh).mono ?_
    rintro e w' ⟨q', d', rfl, s, kk, hop, hfr, hmo⟩
    rw [hq] at ho
    have e0 : A.op = none := ho.symm
    have e1 : A.give p = { A with free := A.free ++ [p] } := by unfold AP.give; rw [e0]
    rw [e1]
    exact ⟨rfl, ⟨FB, M, n, q', d', s, hn, ⟨by rw [hfr, his.free, Int.toNat_natCast], hmo.trans his.most, by rw [hop]; exact e0.symm⟩⟩, kk⟩
  | some o =>
    refine (give_open h1 hk hq hq0 hpw hh hg).mono ?_
    rintro e w' ⟨rfl, op', hgo, s, kk⟩
    rw [hq] at ho
    have e0 : A.op = some { was := o.was, made := o.made, gone := o.gone } := ho.symm
    have e1 : A.give p = { A with op := some { was := o.was, made := o.made, gone := o.gone ++ [(p : Int)] } } := by unfold AP.give; rw [e0]
    rw [e1]
    refine ⟨rfl, ⟨FB, M, n, _, d, s, hn, ⟨his.free, his.most, ?_⟩⟩, kk⟩
    obtain ⟨x, y, a, b, f1, _, f3, f4⟩ := hgo
    rw [hq] at a
    obtain rfl := Option.some.inj a
    show absO op' = _
    rw [b]
    unfold absO
    simp only [Option.map_some]
    rw [f1, f3, f4]
end
end Go.Proofs.YtfljlcfmdcepnaaGreatDoor
namespace Go.Proofs.YtfljlcfmdcepnaaGreatDoor
open Go.RowKit
open UK (str BytesAt nth Only Row Box)
def AP.wrote (A : AP) (pg : Nat) (s : List UInt8) : AP := (A.keep pg).put pg s
theorem AP.keep_gone (A : AP) (pg : Nat) : (A.keep pg).goneL = A.goneL := by
  unfold AP.keep AP.goneL
  cases ho : A.op with
  | none => simp
  | some o =>
    simp only [Option.map_some]
    split <;> rfl
theorem AP.keep_has {A : AP} {pg : Nat} {p : Nat} : (A.keep pg).Has p ↔ A.Has p := by
  unfold AP.Has
  rw [AP.keep_gone]
  rfl
theorem AP.wrote_has {A : AP} {pg : Nat} {s : List UInt8} {p : Nat} : (A.wrote pg s).Has p ↔ A.Has p := AP.keep_has (A := A) (pg := pg) (p := p)
theorem AP.wrote_c {A : AP} {pg : Nat} {s : List UInt8} {p : Nat} : (A.wrote pg s).c p = if pg = p then s else A.c p := rfl
structure AP.Good (A : AP) : Prop where
  one : 1 ≤ A.cnt
  most : (A.cnt : Int) ≤ A.most
  few : A.most ≤ 60000
  nod : A.free.Nodup
  free : ∀ p, p ∈ A.free → 1 ≤ p ∧ p < A.cnt
  gnod : A.goneL.Nodup
  gone : ∀ g, g ∈ A.goneL → ∃ m : Nat, g = m ∧ 1 ≤ m ∧ m < A.cnt ∧ m ∉ A.free
def AP.rooms (A : AP) : Nat := (A.most - A.cnt).toNat + A.free.length
namespace AP
variable {A : AP}
theorem Good.full (h : A.Good) : A.Full ↔ A.rooms = 0 := by
  unfold AP.Full AP.rooms
  have := h.most
  rw [← List.length_eq_zero_iff]
  omega
theorem Good.next (h : A.Good) (hf : ¬ A.Full) : ¬ A.Has A.next ∧ 1 ≤ A.next ∧ A.next ≤ 60000 := by
  have h1 := h.one
  have h2 := h.most
  have h3 := h.few
  unfold AP.next
  by_cases e : A.free = []
  · rw [if_pos e]
    have : ¬ A.most ≤ A.cnt := fun h5 => hf ⟨h5, e⟩
    exact ⟨fun h4 => absurd h4.2.1 (by omega), by omega, by omega⟩
  · rw [if_neg e]
    have hm : A.free.getLastD 0 ∈ A.free := by
      rw [List.getLastD_eq_getLast?, List.getLast?_eq_some_getLast e]
      exact List.getLast_mem e
    have := h.free _ hm
    exact ⟨fun h4 => h4.2.2.1 hm, by omega, by omega⟩
theorem last_split {l : List Nat} (e : l ≠ []) : l = l.dropLast ++ [l.getLastD 0] := by
  rw [List.getLastD_eq_getLast?, List.getLast?_eq_some_getLast e]
  exact (List.dropLast_concat_getLast e).symm
theorem take_goneL : A.take.goneL = A.goneL := by
  unfold AP.take AP.goneL
  cases A.op <;> rfl
theorem Good.take (h : A.Good) (hf : ¬ A.Full) : A.take.Good ∧ (∀ p, A.take.Has p ↔ A.Has p ∨ p = A.next) ∧ A.take.rooms + 1 = A.rooms := by
  have h1 := h.one
  have h2 := h.most
  have h3 := h.few
  have hg := take_goneL (A := A)
  by_cases e : A.free = []
  · have hlt : (A.cnt : Int) < A.most := by
      have : ¬ A.most ≤ A.cnt := fun h5 => hf ⟨h5, e⟩
      omega
    have ec : A.take.cnt = A.cnt + 1 := by show (if A.free = [] then _ else _) = _; rw [if_pos e]
    have ef : A.take.free = [] := by show A.free.dropLast = []; rw [e]; rfl
    have en : A.next = A.cnt := by unfold AP.next; rw [if_pos e]
    refine ⟨⟨by omega, by rw [ec]; show _ ≤ A.most; omega, h3, by rw [ef]; exact List.nodup_nil, fun p hp => (by rw [ef] at hp; cases hp), by rw [hg]; exact h.gnod, fun g hgm => ?_⟩, fun p => ?_, ?_⟩
    · rw [hg] at hgm
      obtain ⟨m, a, b, c, d⟩ := h.gone g hgm
      exact ⟨m, a, b, by omega, by rw [ef]; exact List.not_mem_nil⟩
    · unfold AP.Has
      rw [ec, ef, hg, en, e]
      constructor
      · rintro ⟨a, b, c, d⟩
        by_cases e2 : p = A.cnt
        · exact .inr e2
        · exact .inl ⟨a, by omega, c, d⟩
      · rintro (⟨a, b, c, d⟩ | rfl)
        · exact ⟨a, by omega, c, d⟩
        · refine ⟨h1, by omega, List.not_mem_nil, fun hm => ?_⟩
          obtain ⟨m, a, b, c, d⟩ := h.gone _ hm
          omega
    · unfold AP.rooms
      rw [ec, ef, e]
      show ((A.most - ((A.cnt + 1 : Nat) : Int)).toNat + 0) + 1 = _
      show _ = (A.most - A.cnt).toNat + 0
      omega
  · have hs := last_split e
    generalize hp0 : A.free.getLastD 0 = p0 at hs
    generalize hl0 : A.free.dropLast = l0 at hs
    have ec : A.take.cnt = A.cnt := by show (if A.free = [] then _ else _) = _; rw [if_neg e]
    have ef : A.take.free = l0 := hl0
    have en : A.next = p0 := by unfold AP.next; rw [if_neg e]; exact hp0
    have hnd := h.nod
    rw [hs, List.nodup_append] at hnd
    have hp0m : p0 ∈ A.free := by rw [hs]; exact List.mem_append_right _ (List.mem_singleton.2 rfl)
    have hp0n : p0 ∉ l0 := fun hm => hnd.2.2 p0 hm p0 (List.mem_singleton.2 rfl) rfl
    have hb := h.free p0 hp0m
    refine ⟨⟨by omega, by rw [ec]; exact h2, h3, by rw [ef]; exact hnd.1, fun p hp => ?_, by rw [hg]; exact h.gnod, fun g hgm => ?_⟩, fun p => ?_, ?_⟩
    · rw [ef] at hp
      rw [ec]
      exact h.free p (by rw [hs]; exact List.mem_append_left _ hp)
    · rw [hg] at hgm
      obtain ⟨m, a, b, c, d⟩ := h.gone g hgm
      exact ⟨m, a, b, by omega, by rw [ef]; exact fun hm => d (by rw [hs]; exact List.mem_append_left _ hm)⟩
    · unfold AP.Has
      rw [ec, ef, hg, en, hs]
      simp only [List.mem_append, List.mem_singleton]
      constructor
      · rintro ⟨a, b, c, d⟩
        by_cases e2 : p = p0
        · exact .inr e2
        · exact .inl ⟨a, b, fun hh => hh.elim c e2, d⟩
      · rintro (⟨a, b, c, d⟩ | rfl)
        · exact ⟨a, b, fun hm => c (.inl hm), d⟩
        · refine ⟨hb.1, hb.2, hp0n, fun hm => ?_⟩
          obtain ⟨m, a, _, _, d⟩ := h.gone _ hm
          have : p = m := by omega
          subst this
          exact d hp0m
    · unfold AP.rooms
      rw [ec, ef, hs, List.length_append]
      show (A.most - A.cnt).toNat + l0.length + 1 = (A.most - A.cnt).toNat + (l0.length + 1)
      omega
theorem Good.wrote (h : A.Good) (p : Nat) (s : List UInt8) : (A.wrote p s).Good := by
  have hg : (A.wrote p s).goneL = A.goneL := AP.keep_gone A p
  exact ⟨h.one, h.most, h.few, h.nod, h.free, by rw [hg]; exact h.gnod, by rw [hg]; exact h.gone⟩
theorem wrote_rooms (p : Nat) (s : List UInt8) : (A.wrote p s).rooms = A.rooms := rfl
theorem Good.keep (h : A.Good) (p : Nat) : (A.keep p).Good := by
  have hg : (A.keep p).goneL = A.goneL := AP.keep_gone A p
  exact ⟨h.one, h.most, h.few, h.nod, h.free, by rw [hg]; exact h.gnod, by rw [hg]; exact h.gone⟩
theorem give_c (p : Nat) : (A.give p).c = A.c := by
  unfold AP.give
  cases A.op <;> rfl
theorem Good.give (h : A.Good) {p : Nat} (hp : A.Has p) : (A.give p).Good ∧ (∀ q, (A.give p).Has q ↔ A.Has q ∧ q ≠ p) ∧ A.rooms ≤ (A.give p).rooms ∧ (A.op = none → (A.give p).rooms = A.rooms + 1) := by
  obtain ⟨p1, p2, p3, p4⟩ := hp
  cases ho : A.op with
  | none =>
    have eg : A.give p = { A with free := A.free ++ [p] } := by unfold AP.give; rw [ho]
    have hg0 : A.goneL = [] := by unfold AP.goneL; rw [ho]
    have hg : ({ A with free := A.free ++ [p] } : AP).goneL = [] := by unfold AP.goneL; show (match A.op with | none => [] | some o => o.gone) = []; rw [ho]
    rw [eg]
    refine ⟨⟨h.one, h.most, h.few, ?_, fun q hq => ?_, by rw [hg]; exact List.nodup_nil, fun g hgm => (by rw [hg] at hgm; cases hgm)⟩, fun q => ?_, ?_, fun _ => ?_⟩
    · exact List.nodup_append.2 ⟨h.nod, List.pairwise_singleton _ _, fun a ha b hb => by rw [List.mem_singleton.1 hb]; exact fun e => p3 (e ▸ ha)⟩
    · rcases List.mem_append.1 hq with hq | hq
      · exact h.free q hq
      · rw [List.mem_singleton.1 hq]; exact ⟨p1, p2⟩
    · unfold AP.Has
      rw [hg, hg0]
      show 1 ≤ q ∧ q < A.cnt ∧ q ∉ A.free ++ [p] ∧ _ ↔ _
      simp only [List.mem_append, List.mem_singleton, not_or]
      constructor
      · rintro ⟨a, b, ⟨c, d⟩, e⟩; exact ⟨⟨a, b, c, e⟩, d⟩
      · rintro ⟨⟨a, b, c, e⟩, d⟩; exact ⟨a, b, ⟨c, d⟩, e⟩
    · unfold AP.rooms
      show _ ≤ (A.most - A.cnt).toNat + (A.free ++ [p]).length
      rw [List.length_append]; omega
    · unfold AP.rooms
      show (A.most - A.cnt).toNat + (A.free ++ [p]).length = _
      rw [List.length_append]
      show _ + (_ + 1) = _
      omega
  | some o =>
    have eg : A.give p = { A with op := some { o with gone := o.gone ++ [(p : Int)] } } := by unfold AP.give; rw [ho]
    have hg0 : A.goneL = o.gone := by unfold AP.goneL; rw [ho]
    have hg : ({ A with op := some { o with gone := o.gone ++ [(p : Int)] } } : AP).goneL = o.gone ++ [(p : Int)] := rfl
    rw [hg0] at p4
    have hgn := h.gnod
    have hgo := h.gone
    rw [hg0] at hgn hgo
    rw [eg]
    refine ⟨⟨h.one, h.most, h.few, h.nod, h.free, ?_, fun g hgm => ?_⟩, fun q => ?_, Nat.le_refl _, fun e => by cases e⟩
    · rw [hg]
      exact List.nodup_append.2 ⟨hgn, List.pairwise_singleton _ _, fun a ha b hb => by rw [List.mem_singleton.1 hb]; exact fun e => p4 (e ▸ ha)⟩
    · rw [hg] at hgm
      rcases List.mem_append.1 hgm with hgm | hgm
      · exact hgo g hgm
      · exact ⟨p, List.mem_singleton.1 hgm, p1, p2, p3⟩
    · unfold AP.Has
      rw [hg, hg0]
      show 1 ≤ q ∧ q < A.cnt ∧ q ∉ A.free ∧ _ ↔ _
      simp only [List.mem_append, List.mem_singleton, not_or]
      constructor
      · rintro ⟨a, b, c, d, e⟩; exact ⟨⟨a, b, c, d⟩, fun e2 => e (by rw [e2])⟩
      · rintro ⟨⟨a, b, c, d⟩, e⟩; exact ⟨a, b, c, d, fun e2 => e (by omega)⟩
end AP
structure AP.Moves (Q : AP → Prop) : Prop where
  wrote : ∀ (X : AP) (p : Nat) (s : List UInt8), Q X → X.Has p → Q (X.wrote p s)
  keep : ∀ (X : AP) (p : Nat), Q X → X.Has p → Q (X.keep p)
  take : ∀ X : AP, Q X → ¬ X.Full → Q X.take
  give : ∀ (X : AP) (p : Nat), Q X → X.Has p → Q (X.give p)
def AP.Reach (A B : AP) : Prop := ∀ Q : AP → Prop, AP.Moves Q → Q A → Q B
namespace AP
theorem Reach.refl (A : AP) : A.Reach A := fun _ _ h => h
theorem Reach.trans {A B C : AP} (h : A.Reach B) (k : B.Reach C) : A.Reach C := fun Q m a => k Q m (h Q m a)
theorem Reach.wrote {A B : AP} (h : A.Reach B) {p : Nat} (hp : B.Has p) (s : List UInt8) : A.Reach (B.wrote p s) := fun Q m a => m.wrote B p s (h Q m a) hp
theorem Reach.take {A B : AP} (h : A.Reach B) (hf : ¬ B.Full) : A.Reach B.take := fun Q m a => m.take B (h Q m a) hf
theorem Reach.give {A B : AP} (h : A.Reach B) {p : Nat} (hp : B.Has p) : A.Reach (B.give p) := fun Q m a => m.give B p (h Q m a) hp
theorem good_moves : Moves Good := ⟨fun _ _ _ h _ => h.wrote _ _, fun _ _ h _ => h.keep _, fun _ h hf => (h.take hf).1, fun _ _ h hp => (h.give hp).1⟩
theorem Reach.good {A B : AP} (h : A.Reach B) (g : A.Good) : B.Good := h Good good_moves g
structure Grown (A B : AP) (ch : List Nat) : Prop where
  reach : A.Reach B
  nod : ch.Nodup
  new : ∀ p, p ∈ ch → ¬ A.Has p
  has : ∀ p, B.Has p ↔ A.Has p ∨ p ∈ ch
  same : ∀ p, A.Has p → B.c p = A.c p
  rooms : B.rooms + ch.length = A.rooms
theorem Grown.nil (A : AP) : Grown A A [] := ⟨Reach.refl A, List.nodup_nil, fun _ h => absurd h List.not_mem_nil, fun p => by simp, fun _ _ => rfl, rfl⟩
theorem Grown.cons {A B : AP} {ch : List Nat} (h : Grown A B ch) (g : B.Good) (hf : ¬ B.Full) (s : List UInt8) : Grown A (B.take.wrote B.next s) (B.next :: ch) := by
  obtain ⟨_, h2, h3⟩ := g.take hf
  have hn := (g.next hf).1
  have hc : ∀ p, B.Has p → (B.take.wrote B.next s).c p = B.c p := fun p hp => by
    have hne : B.next ≠ p := fun e => hn (e ▸ hp)
    rw [AP.wrote_c, if_neg hne]
    show setC B.c B.next (UK.zeros 504) p = _
    unfold setC
    rw [if_neg hne]
  refine ⟨(h.reach.take hf).wrote ((h2 _).2 (.inr rfl)) s, List.nodup_cons.2 ⟨fun hm => hn ((h.has _).2 (.inr hm)), h.nod⟩, fun p hp hA => ?_, fun p => ?_, fun p hp => ?_, ?_⟩
  · rcases List.mem_cons.1 hp with rfl | hp
    · exact hn ((h.has _).2 (.inl hA))
    · exact h.new p hp hA
  · rw [AP.wrote_has, h2, h.has, List.mem_cons]
    constructor
    · rintro ((a | a) | a)
      · exact .inl a
      · exact .inr (.inr a)
      · exact .inr (.inl a)
    · rintro (a | a | a)
      · exact .inl (.inl a)
      · exact .inr a
      · exact .inl (.inr a)
  · rw [hc p ((h.has p).2 (.inl hp))]
    exact h.same p hp
  · have := h.rooms
    rw [AP.wrote_rooms, List.length_cons]
    omega
end AP
end Go.Proofs.YtfljlcfmdcepnaaGreatDoor
