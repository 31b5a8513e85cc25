/-
  The pool: lay, Unpin, Edit.
-/
import Derived.Test.YthjnfclebeggaaaDoorPoolT
namespace Go.Proofs.YthjnfclebeggaaaDoor
open Go.RowKit
open UK (str BytesAt nth Only Row Box IntMap)
open Go.BigFrame
section
variable {E : Nat → Prop} {W W' : World} {P D FB M cnt k : Nat} {q : Pl} {d d' : Dk}
theorem wp_world {P : Program} {Q : Exit → Act → World → Prop} {a : Act} {c : Code} {w : World} (R : World → Prop) (hR : R w) (h : ∀ w', R w' → c.wp P Q a w') : c.wp P Q a w := h w hR
/-- a page's frame is made, and stands among the frames -/
structure Half (W w : World) (P FB : Nat) (l : List (Option Fr)) (i : Nat) (f : Fr) : Prop where
  only : Only FB W w
  row : Row w FB l.length ((l.set i (some f)).map ptrOf)
  new : FrAt w P f
theorem half_made (hr : Row W FB q.frames.length (q.frames.map ptrOf)) {i : Nat} (hil : i < q.frames.length) {s : List UInt8} (hs : s.length = 504) (page : Int) (hpg : (Lit.int .i64 page).wf = true) {cap : Nat} {o : Obj} (hcap : 504 ≤ cap)
    (hy : BytesAt (W.drew.alloc o) W.heap.size (s ++ List.replicate (cap - s.length) 0)) (t : TypeId) (f : Fr) (hf : f = { blk := W.heap.size + 1, db := W.heap.size, cap := cap, page := page, data := s, pins := 1, used := true, dirty := false }) :
    Half W (((W.setCell ⟨FB, i, none⟩ (.pointer (some ⟨W.heap.size + 1, 0, none⟩))).alloc o).alloc (.cells (fcells P f) t)).drew P FB q.frames i f := by
  have o1 := (Only.refl FB W).set i (.pointer (some ⟨W.heap.size + 1, 0, none⟩))
  have r1 := hr.set i (.pointer (some ⟨W.heap.size + 1, 0, none⟩)) (by rw [List.length_map]; exact hil)
  have hsz : (W.setCell ⟨FB, i, none⟩ (.pointer (some ⟨W.heap.size + 1, 0, none⟩))).heap.size = W.heap.size := by simp [World.setCell]
  generalize W.setCell ⟨FB, i, none⟩ (.pointer (some ⟨W.heap.size + 1, 0, none⟩)) = w1 at o1 r1 hsz
  have y1 : BytesAt (w1.alloc o) W.heap.size (s ++ List.replicate (cap - s.length) 0) := hy.of_block (by
    have e1 : (w1.alloc o).heap[w1.heap.size]? = some o := by
      show (w1.heap.push _)[w1.heap.size]? = _
      rw [Array.getElem?_push_size]
    have e2 : (W.drew.alloc o).heap[W.drew.heap.size]? = some o := by
      show (W.drew.heap.push _)[W.drew.heap.size]? = _
      rw [Array.getElem?_push_size]
    rw [hsz] at e1
    exact e1.trans e2.symm)
  have hs2 : (w1.alloc o).heap.size = W.heap.size + 1 := by simp [hsz]
  have hb := Box.new (w1.alloc o) (fcells P f) t
  rw [hs2] at hb
  refine ⟨((o1.alloc o).alloc _).drew, ?_, ⟨?_, ⟨s ++ List.replicate (cap - s.length) 0, ?_, ?_, ?_⟩, ?_, ?_, ?_, ?_⟩⟩
  · rw [map_set]
    have e3 : ptrOf (some f) = .pointer (some ⟨W.heap.size + 1, 0, none⟩) := by rw [hf]; rfl
    rw [e3]
    exact ((r1.alloc o).alloc _).drewN 1
  · rw [show f.blk = W.heap.size + 1 by rw [hf]]
    exact hb.of_block rfl
  · rw [show f.db = W.heap.size by rw [hf]]
    exact (y1.alloc _).drewN 1
  · rw [show f.cap = cap by rw [hf], List.length_append, List.length_replicate]; omega
  · rw [show f.data = s by rw [hf], List.take_left' hs]
  · rw [show f.data = s by rw [hf]]; exact hs
  · rw [show f.cap = cap by rw [hf]]; exact hcap
  · rw [show f.page = page by rw [hf]]; exact hpg
  · rw [hf]; show W.heap.size + 1 ≠ W.heap.size; omega
/-- behind lay -/
def LaidP (E : Nat → Prop) (W w' : World) (P D FB M : Nat) (q : Pl) (d : Dk) (cnt i : Nat) (page : Int) (s : List UInt8) (e : Ending) : Prop :=
  ∃ f : Fr, e = .returned (.pointer (some ⟨f.blk, 0, none⟩)) ∧ f.page = page ∧ f.data = s ∧ f.pins = 1 ∧ f.dirty = false ∧ f.used = true ∧ PD E w' P D FB M { frames := q.frames.set i (some f), hand := q.hand, pins := q.pins + 1, op := q.op } d cnt ∧ Kept E W w'
theorem PD.laid (h : PD E W P D FB M q d cnt) {i : Nat} (hi : q.frames[i]? = some none) {f : Fr} {w1 w2 w3 : World} {pins : Int} (hh : Half W w1 P FB q.frames i f) (hnew : f.blk = W.heap.size + 1 ∧ f.db = W.heap.size) (o2 : Only M w1 w2) (o3 : Only P w2 w3)
    (hm : ∃ g, AtIs (q.frames.set i (some f)) g ∧ IntMap Tryd.prog 3 3 w2 M (cntF (q.frames.set i (some f))) g (cntF (q.frames.set i (some f)))) (hb : Box w3 P (pcells D FB q.frames.length M q.hand pins q.op)) :
    PD E w3 P D FB M { frames := q.frames.set i (some f), hand := q.hand, pins := pins, op := q.op } d cnt ∧ Kept E W w3 := by
  have hp := h.pool
  have o1 := hh.only
  have hkeep : ∀ b, b < W.heap.size → b ≠ FB → b ≠ M → b ≠ P → w3.heap[b]? = W.heap[b]? := fun b hb h1 h2 h3 =>
    ((o3.block b (Nat.lt_of_lt_of_le hb (Nat.le_trans o1.size o2.size)) h3).trans (o2.block b (Nat.lt_of_lt_of_le hb o1.size) h2)).trans (o1.block b hb h1)
  have hown : ∀ b, frB (some f) b → frB none b ∨ W.heap.size ≤ b := fun b hb => by
    rcases hb with rfl | rfl
    · exact .inr (by omega)
    · exact .inr (by omega)
  have hsz : W.heap.size ≤ w3.heap.size := Nat.le_trans (Nat.le_trans o1.size o2.size) o3.size
  have hPl := hp.box.lt
  have hFl := hp.frs.lt
  have hMl : M < W.heap.size := hp.lt (.inr (.inr (.inl rfl)))
  refine h.moves (q' := { frames := q.frames.set i (some f), hand := q.hand, pins := pins, op := q.op }) ⟨(o3.os.trans o2.os).trans o1.os, (o3.tape.trans o2.tape).trans o1.tape, (o3.output.trans o2.output).trans o1.output, hsz, fun b hb hn => hkeep b hb (fun e => hn (.inr (.inl e))) (fun e => hn (.inr (.inr (.inl e)))) (fun e => hn (.inl e)), fun b hb => PBlk.setF hi hown hb⟩ ?_
  obtain ⟨g, hg, hm⟩ := hm
  refine hp.setF hi h.dd.tab.lt hb hsz (fun k hk => hkeep k (hp.op.lt hk) (hp.opOff k hk).2.1 (hp.opOff k hk).2.2 (hp.opOff k hk).1) ((hh.row.only o2 hp.FM).only o3 hp.PF.symm) ⟨g, hg, hm.only o3 hp.PM.symm⟩ (fun j u b _ hu hb => ?_) (fun f' hf' => ?_) hown
  · have := hp.off j u b hu hb
    exact hkeep b (hp.ltF hu hb) this.2.1 this.2.2 this.1
  · obtain rfl := Option.some.inj hf'
    have e1 : ∀ b, frB (some f) b → w3.heap[b]? = w1.heap[b]? := fun b hb => by
      have hb1 := hh.new.lt hb
      have hge := hown b hb
      have hge2 : W.heap.size ≤ b := by
        rcases hge with x | x
        · exact absurd x id
        · exact x
      exact (o3.block b (Nat.lt_of_lt_of_le hb1 o2.size) (by omega)).trans (o2.block b hb1 (by omega))
    exact hh.new.of_block (e1 _ (.inl rfl)) (e1 _ (.inr rfl))
set_option maxHeartbeats 1000000 in
set_option maxRecDepth 100000 in
theorem play_any (h : PD E W P D FB M q d cnt) (o : PlOk q) (hpin : 0 ≤ q.pins ∧ q.pins ≤ 1000000) {i : Nat} (hi : q.frames[i]? = some none) (page : Int) (hpg : (Lit.int .i64 page).wf = true) (hno : ∀ (i : Nat) (f : Fr), q.frames[i]? = some (some f) → f.page ≠ page) (s : List UInt8) (hs : s.length = 504) :
    Calls Tryd.prog 77 #[.pointer (some ⟨P, 0, none⟩), .int .i64 i, .int .i64 page, .string (str s)] W fun e w' => LaidP E W w' P D FB M q d cnt i page s e := by
  have hp := h.pool
  have hl := (List.getElem?_eq_some_iff.1 hi).1
  have c1 : W.cell? ⟨P, 1, none⟩ = some (.slice (some ⟨FB, 0, none⟩) q.frames.length q.frames.length) := hp.box.cell 1 _ rfl
  obtain ⟨cap, ob, hcap, hcv, hy⟩ := UK.run_bytes (P := Tryd.prog) (src := 9) (dst := 63) Tryd.underlying9 Tryd.underlying63 Tryd.underlying5 W s
  rw [hs] at hcap hcv
  obtain ⟨f, HF⟩ : ∃ f : Fr, Hid (f = { blk := W.heap.size + 1, db := W.heap.size, cap := cap, page := page, data := s, pins := 1, used := true, dirty := false }) := ⟨_, rfl⟩
  have HH := Lib.hid (half_made (P := P) hp.frs hl hs page hpg hcap hy 132 f HF.out)
  have cF := hp.frs.at' i _ (ptrOf_at _ _ _ hi)
  have fF := hp.frs.free i hl
  have hPl := hp.box.lt
  have hFl := hp.frs.lt
  have hk := o.few
  clear hy
  go_enter Tryd.func77, Tryd.ntmps77
  go_upto_region 3 with (fail)
  refine wp_world (fun w' => Half W w' P FB q.frames i f) (by have e := HH.out; rw [HF.out] at e ⊢; exact e) ?_
  intro w1 hh
  obtain ⟨g, hg, hm⟩ := hp.map
  have hgf : g page = none := by
    cases hgp : g page with
    | none => rfl
    | some b =>
      obtain ⟨j, _, fr, hj, hf⟩ := (hg page b).1 hgp
      exact absurd hf (hno j fr hj)
  have hm1 := hm.only hh.only hp.FM.symm
  obtain ⟨w2, hput, hm2, o2⟩ := hm1.put (t := 69) Tryd.underlying3 Tryd.underlying3 Tryd.underlying69 (by have := cntF_le q.frames; unfold maxLen; omega) page i hpg (WalkArith.wf_i64 (by omega))
  rw [hgf] at hm2
  have hc := cntF_set q.frames i none (some f) hi
  simp only [Option.isSome_some, Option.isSome_none, if_true, Bool.false_eq_true, if_false] at hc hm2
  rw [show cntF q.frames + 1 = cntF (q.frames.set i (some f)) by omega] at hm2
  have hfp : f.page = page := by rw [HF.out]
  have hlay := hg.lay hi (fr := f) (by rw [hfp]; exact hgf)
  rw [hfp] at hlay
  have b1 := hp.box.only hh.only hp.PF
  have b2 := b1.only o2 hp.PM
  have c2 : w1.cell? ⟨P, 2, none⟩ = some (.map (some M)) := b1.cell 2 _ rfl
  have c4 : w2.cell? ⟨P, 4, none⟩ = some (.int .i64 q.pins) := b2.cell 4 _ rfl
  have f4 := b2.free 4
  have HFin := Lib.hid (h.laid hi hh (by rw [HF.out]; exact ⟨rfl, rfl⟩) o2 ((Only.refl P w2).set 4 (.int .i64 (q.pins + 1))) ⟨_, hlay, hm2.tight⟩ (pins := q.pins + 1) (b2.set 4 (.int .i64 (q.pins + 1))))
  obtain ⟨hp1, hp2⟩ := hpin
  clear HH hm hm1 hm2 hlay hgf hg hc b1 b2 hcv cF fF c1 hno hh
  go_wp2
  go_ret
  exact ⟨f, by rw [HF.out] <;> rfl, hfp, by rw [HF.out], by rw [HF.out], by rw [HF.out], by rw [HF.out], HFin.out.1, HFin.out.2⟩
end
end Go.Proofs.YthjnfclebeggaaaDoor
