/-
  The pool's small functions. The pool: a frame turns; victim; write.
  The pool: write, forget, room. The pool: lay, Unpin, Edit.
-/
import Derived.Test.YtfljlcfmdcepnaaGreatDoorJDiskX
import Derived.Deep.RegionWith
import Derived.Deep.DeepCutAuto
import Derived.StillTailTactics
namespace Go.Proofs.YtfljlcfmdcepnaaGreatDoor
open Go.RowKit
open UK (str BytesAt nth Only Row Box IntMap)
open Go.BigFrame
namespace UK
theorem wpList_delete_run {P : Program} {t k ty : TypeId} {mv kv v' : Value} {w w' : World} (hr : (Builtin.delete_ #[t, k] ty #[mv, kv]).run P w = .ok v' w') {ops : Array Oper} {rest : List Oper} {o : Oper} {a : Act} {Q : Exit → Act → World → Prop} {m x : Operand}
    (hg : o.guard = none) (hop : o.op = Op.call { callee := Callee.builtin Builtin.delete, args := #[m, x], argTypes := #[t, k] }) (hty : o.type = ty) (hm : a.eval m = mv) (hx : a.eval x = kv) (hK : wpList P ops Q rest (a.put o.dst v') w') :
    wpList P ops Q (o :: rest) a w := by
  refine wpList_plain hg fun K hK' => ?_
  subst hty
  unfold Oper.wp
  simp [execOp, hop, resolve, invoke, builtin, hm, hx, hr, Result.andThen]
  exact hK' _ _ hK
end UK
section
variable {E : Nat → Prop} {W W' : World} {P D FB M cnt : Nat} {q : Pl} {d d' : Dk}
theorem pinned_any (h : PoolAt W P D FB M q) :
    Calls Tryz.prog 48 #[.pointer (some ⟨P, 0, none⟩)] W fun e w' => e = .returned (.int .i64 q.pins) ∧ w' = W := by
  have c4 := h.box.cell 4 _ rfl
  go_enter Tryz.func48, Tryz.ntmps48
  go_wp2
  go_ret
  exact ⟨rfl, rfl⟩
theorem page_any {f : Fr} (h : FrAt W P f) :
    Calls Tryz.prog 72 #[.pointer (some ⟨f.blk, 0, none⟩)] W fun e w' => e = .returned (.int .i64 f.page) ∧ w' = W := by
  have c1 := h.box.cell 1 _ rfl
  go_enter Tryz.func72, Tryz.ntmps72
  go_wp2
  go_ret
  exact ⟨rfl, rfl⟩
set_option maxRecDepth 100000 in
theorem index_any {ao : Option Addr} {c : Nat} {l : List Int} (h : SlAt W ao c l) (hl : l.length ≤ 1000000000) (v : Int) :
    Calls Tryz.prog 63 #[.slice ao l.length c, .int .i64 v] W fun e w' => ∃ i : Int, e = .returned (.int .i64 i) ∧ (0 ≤ i ↔ v ∈ l) ∧ w' = W := by
  go_enter Tryz.func63, Tryz.ntmps63
  go_wp2_with fail
  go_loopw [8] (fun ix wr => ∃ j : Nat, ix = .int .i64 j ∧ j ≤ l.length ∧ (∀ (i : Nat) (x : Int), i < j → l[i]? = some x → x ≠ v) ∧ wr = W) (fun ix _ => 1000000001 - (intOf ix).toNat)
  case atStart => exact ⟨0, rfl, Nat.zero_le _, fun i x hi => absurd hi (Nat.not_lt_zero _), rfl⟩
  case round =>
    obtain ⟨j, rfl, hj, hno, rfl⟩ := hrel
    by_cases hlt : j < l.length
    · obtain ⟨x, hx⟩ : ∃ x, l[j]? = some x := ⟨_, List.getElem?_eq_getElem hlt⟩
      rcases h with ⟨_, rfl, _⟩ | ⟨g, rfl, r⟩
      · exact absurd hlt (Nat.not_lt_zero _)
      · have cx := r.at' j (.int .i64 x) (by unfold intVs; rw [List.getElem?_map, hx]; rfl)
        clear r
        by_cases e : v = x
        · subst e
          have HM := Lib.hid (List.mem_of_getElem? hx)
          clear hno hx
          go_wp2
          go_ret
          exact ⟨j, rfl, ⟨fun _ => HM.out, fun _ => by omega⟩, rfl⟩
        · have hb : (v == x) = false := beq_eq_false_iff_ne.2 e
          have HN := Lib.hid (fun (i : Nat) (y : Int) (hi : i < j + 1) (hy : l[i]? = some y) => (show y ≠ v by
            by_cases e2 : i = j
            · subst e2
              rw [hx] at hy
              rw [← Option.some.inj hy]; exact fun e3 => e e3.symm
            · exact hno i y (by omega) hy))
          clear hno hx e
          go_wp2
          go_roundw
          case rel => exact ⟨j + 1, by go_num, by omega, HN.out, trivial⟩
          case measure => simp [intOf]; omega
    · have HN := Lib.hid (fun (hm : v ∈ l) => (show False by
        obtain ⟨i, hi, he⟩ := List.getElem_of_mem hm
        exact hno i v (by omega) (by rw [List.getElem?_eq_getElem hi, he]) rfl))
      clear hno h
      go_wp2
      go_ret
      exact ⟨-1, rfl, ⟨fun h => absurd h (by decide), fun h => (HN.out h).elim⟩, rfl⟩
theorem contains_any {ao : Option Addr} {c : Nat} {l : List Int} (h : SlAt W ao c l) (hl : l.length ≤ 1000000000) (v : Int) :
    Calls Tryz.prog 103 #[.slice ao l.length c, .int .i64 v] W fun e w' => e = .returned (.bool (decide (v ∈ l))) ∧ w' = W := by
  have hi := index_any h hl v
  generalize hn : l.length = n at hi ⊢
  clear hn
  go_enter Tryz.func103, Tryz.ntmps103
  go_wp2_with fail
  refine hi.mono ?_
  rintro e w' ⟨i, rfl, hm, rfl⟩
  have e : decide (0 ≤ i) = decide (v ∈ l) := decide_eq_decide.2 hm
  have HE := Lib.hid e
  clear e hm
  go_wp2
  go_ret
  exact ⟨by rw [← HE.out]; rfl, rfl⟩
theorem SlAt.nil : SlAt W none 0 [] := .inl ⟨rfl, rfl, rfl⟩
def goneL (o : Option Opn) : List Int := match o with
  | none => []
  | some x => x.gone
theorem gone_any (h : PoolAt W P D FB M q) (v : Int) : ∃ (ao : Option Addr) (n c : Nat), vGone q.op = .slice ao n c ∧ Calls Tryz.prog 103 #[.slice ao n c, .int .i64 v] W fun e w' => e = .returned (.bool (decide (v ∈ goneL q.op))) ∧ w' = W := by
  have ho := h.op
  cases hq : q.op with
  | none => exact ⟨none, 0, 0, rfl, contains_any (SlAt.nil (W := W)) (by decide) v⟩
  | some x => exact ⟨x.go, _, x.gc, rfl, contains_any (ho x hq).gone (ho x hq).few.2.2 v⟩
theorem PD.own (h : PD E W P D FB M q d cnt) {hand : Nat} {pins : Int} (ho : Only P W W') (hb : Box W' P (pcells D FB q.frames.length M hand pins q.op)) : PD E W' P D FB M { frames := q.frames, hand := hand, pins := pins, op := q.op } d cnt ∧ Kept E W W' := by
  have hp := h.pool
  obtain ⟨f, hf, hm⟩ := hp.map
  refine h.moves (q' := { frames := q.frames, hand := hand, pins := pins, op := q.op }) (Moves.of_only ho (.inl rfl)) ⟨hb, hp.frs.only ho hp.PF.symm, ⟨f, hf, hm.only ho hp.PM.symm⟩, fun i g hi => ?_, hp.PF, hp.PM, hp.FM, hp.off, hp.two, hp.op.of_block ho.size (fun k hk => ho.block k (hp.op.lt hk) (hp.opOff k hk).1), hp.opOff, hp.opTwo, hp.tab⟩
  have h1 := hp.off i (some g) g.blk hi (.inl rfl)
  have h2 := hp.off i (some g) g.db hi (.inr rfl)
  exact (hp.each i g hi).of_block (ho.block _ (hp.ltF hi (.inl rfl)) h1.1) (ho.block _ (hp.ltF hi (.inr rfl)) h2.1)
def handN (n : Int) (k : Nat) : Nat := (n % (k : Int)).toNat
theorem handN_is (n : Int) (k : Nat) (hk : 0 < k) : n.tmod k % (k : Int) = (handN n k : Int) ∧ handN n k < k ∧ -(k : Int) < n.tmod k ∧ n.tmod k < k := by
  have h1 := Int.emod_nonneg n (show (k : Int) ≠ 0 by omega)
  have h2 := Int.emod_lt_of_pos n (show (0 : Int) < k by omega)
  have h3 : n.tmod k = if 0 ≤ n ∨ n % k = 0 then n % k else n % k - k := by
    rw [Int.tmod_eq_emod]
    by_cases hh : 0 ≤ n ∨ (k : Int) ∣ n
    · rw [if_pos hh, if_pos (by rcases hh with a | a; exact .inl a; exact .inr (Int.emod_eq_zero_of_dvd a))]; omega
    · rw [if_neg hh, if_neg (by rintro (a | a); exact hh (.inl a); exact hh (.inr (Int.dvd_of_emod_eq_zero a)))]; omega
  refine ⟨?_, by unfold handN; omega, ?_, ?_⟩
  · have h4 : n.tmod k % (k : Int) = n % k := by
      rw [h3]
      split
      · exact Int.emod_emod_of_dvd n (Int.dvd_refl _)
      · rw [Int.sub_emod_right]; exact Int.emod_emod_of_dvd n (Int.dvd_refl _)
    rw [h4]; unfold handN; omega
  · rw [h3]; split <;> omega
  · rw [h3]; split <;> omega
theorem hand_any (h : PD E W P D FB M q d cnt) (o : PlOk q) (n : Int) :
    Calls Tryz.prog 44 #[.pointer (some ⟨P, 0, none⟩), .int .i64 n] W fun e w' => e = .returned (.tuple #[]) ∧ PD E w' P D FB M { q with hand := handN n q.frames.length } d cnt ∧ Kept E W w' := by
  have hb := h.pool.box
  have c1 := hb.cell 1 _ rfl
  have c3 := hb.cell 3 _ rfl
  have f3 := hb.free 3
  have hb2 := hb.set 3 (.int .i64 (handN n q.frames.length : Nat))
  have hpd := h.own ((Only.refl P W).set 3 (.int .i64 (handN n q.frames.length : Nat))) (hand := handN n q.frames.length) (pins := q.pins) hb2
  have hk := o.few
  have hh := o.hand
  obtain ⟨h1, h2, h3, h4⟩ := handN_is n q.frames.length (by omega)
  have hk0 : 1 ≤ q.frames.length := by omega
  generalize q.frames.length = k at *
  have H1 := Lib.hid h1
  clear h1
  generalize handN n k = hn at *
  have h5 : 0 ≤ n.tmod k + k := by omega
  clear hb hb2
  go_enter Tryz.func44, Tryz.ntmps44
  go_wp2
  rw [H1.out]
  go_end0
  exact ⟨rfl, hpd.1, hpd.2⟩
end
end Go.Proofs.YtfljlcfmdcepnaaGreatDoor
namespace Go.Proofs.YtfljlcfmdcepnaaGreatDoor
open Go.RowKit
open UK (str BytesAt nth Only Row Box IntMap)
open Go.BigFrame
section
variable {E : Nat → Prop} {W W' : World} {P D FB M cnt k : Nat} {q : Pl} {d d' : Dk}
structure Same (f g : Fr) : Prop where
  blk : g.blk = f.blk
  db : g.db = f.db
  cap : g.cap = f.cap
  page : g.page = f.page
  data : g.data = f.data
theorem Same.frB {f g : Fr} (h : Same f g) (j : Nat) : frB (some g) j ↔ frB (some f) j := by
  show (j = g.blk ∨ j = g.db) ↔ (j = f.blk ∨ j = f.db)
  rw [h.blk, h.db]
theorem PD.flag (h : PD E W P D FB M q d cnt) {i : Nat} {f g : Fr} (hi : q.frames[i]? = some (some f)) (hs : Same f g) (ho : Only f.blk W W') (hb : Box W' f.blk (fcells P g)) : PD E W' P D FB M { q with frames := q.frames.set i (some g) } d cnt ∧ Kept E W W' := by
  have hp := h.pool
  have hl := (List.getElem?_eq_some_iff.1 hi).1
  obtain ⟨mf, hf, hm⟩ := hp.map
  have hoff := hp.off i (some f) f.blk hi (.inl rfl)
  have hfr := hp.each i f hi
  have hc : cntF (q.frames.set i (some g)) = cntF q.frames := by
    have := cntF_set q.frames i (some f) (some g) hi
    simpa using this
  have hlt := hp.ltF hi (.inl rfl)
  refine h.moves (q' := { q with frames := q.frames.set i (some g) }) ⟨ho.os, ho.tape, ho.output, ho.size, fun j hj hn => ho.block j hj (fun e => hn (e ▸ .inr (.inr (.inr (.inr ⟨i, some f, hi, .inl rfl⟩))))), fun j hj => .inl ?_⟩ ?_
  · rcases PBlk.setF (n := W.heap.size) hi (fun j hj => .inl ((hs.frB j).1 hj)) hj with h1 | h1
    · exact h1
    · exfalso
      have : PBlk P FB M q.frames q.op j := by
        rcases hj with a | a | a | a | ⟨b, u, hb2, hk⟩
        · exact .inl a
        · exact .inr (.inl a)
        · exact .inr (.inr (.inl a))
        · exact .inr (.inr (.inr (.inl a)))
        · have hb2 : (q.frames.set i (some g))[b]? = some u := hb2
          rw [get_set _ _ _ _ hl] at hb2
          by_cases e : i = b
          · rw [if_pos e] at hb2
            rw [← Option.some.inj hb2] at hk
            exact .inr (.inr (.inr (.inr ⟨i, some f, hi, (hs.frB j).1 hk⟩)))
          · rw [if_neg e] at hb2
            exact .inr (.inr (.inr (.inr ⟨b, u, hb2, hk⟩)))
      have := hp.lt this
      omega
  · refine hp.setF hi h.dd.tab.lt (hp.box.of_block (ho.block _ hp.box.lt hoff.1.symm)) ho.size (fun k hk => ho.block k (hp.op.lt hk) (fun e => hp.opTwo i (some f) _ hi (.inl rfl) (e ▸ hk))) ?_ ⟨mf, hf.turn hi hs.page, by rw [hc]; exact hm.only ho hoff.2.2.symm⟩ (fun j u b hj hu hb2 => ?_) (fun g' hg' => ?_) (fun j hj => .inl ((hs.frB j).1 hj))
    · rw [map_set_same _ _ _ _ hi (by unfold ptrOf; simp only; rw [hs.blk])]
      exact hp.frs.only ho hoff.2.1.symm
    · have hlt2 := hp.ltF hu hb2
      refine ho.block b hlt2 (fun e => ?_)
      subst e
      exact hp.two i j (some f) u _ (Ne.symm hj) hi hu (.inl rfl) hb2
    · obtain rfl := Option.some.inj hg'
      obtain ⟨y, a, b, c⟩ := hfr.bytes
      exact ⟨by rw [hs.blk]; exact hb, ⟨y, by rw [hs.db]; exact ho.bytes a hfr.ne.symm, by rw [hs.cap]; exact b, by rw [hs.data]; exact c⟩, by rw [hs.data]; exact hfr.len, by rw [hs.cap]; exact hfr.cap, by rw [hs.page]; exact hfr.page, by rw [hs.blk, hs.db]; exact hfr.ne⟩
theorem PD.frame (h : PD E W P D FB M q d cnt) {i : Nat} {o : Option Fr} (hi : q.frames[i]? = some o) : W.cell? ⟨FB, i, none⟩ = some (ptrOf o) := h.pool.frs.at' i _ (ptrOf_at _ _ _ hi)
theorem exit_world {Q : Exit → Act → World → Prop} {a : Act} {w : World} (R : World → Prop) (hR : R w) (h : ∀ w', R w' → Q .normal a w') : Q .normal a w := h w hR
def swept (q : Pl) (r : Option Nat × List (Option Fr) × Nat) : Pl := { frames := r.2.1, hand := r.2.2, pins := q.pins, op := q.op }
def vicV (r : Option Nat) : Int := match r with
  | none => -1
  | some i => i
def OnSweep (E : Nat → Prop) (W wr : World) (P D FB M : Nat) (q : Pl) (d : Dk) (cnt : Nat) (ix : Value) : Prop :=
  ∃ (m : Nat) (l : List (Option Fr)) (h : Nat), ix = .int .i64 m ∧ m ≤ 2 * q.frames.length ∧ Hid (sweep (2 * q.frames.length) q.frames q.hand = sweep (2 * q.frames.length - m) l h) ∧ PD E wr P D FB M { frames := l, hand := h, pins := q.pins, op := q.op } d cnt ∧ Kept E W wr ∧ Hid (l.length = q.frames.length) ∧ h < q.frames.length
set_option maxHeartbeats 2000000 in
set_option maxRecDepth 100000 in
theorem victim_any (h : PD E W P D FB M q d cnt) (o : PlOk q) :
    Calls Tryz.prog 140 #[.pointer (some ⟨P, 0, none⟩)] W fun e w' => e = .returned (.int .i64 (vicV (sweep (2 * q.frames.length) q.frames q.hand).1)) ∧ PD E w' P D FB M (swept q (sweep (2 * q.frames.length) q.frames q.hand)) d cnt ∧ Kept E W w' := by
  have hb := h.pool.box
  have c1 := hb.cell 1 _ rfl
  have hk := o.few
  have hh := o.hand
  clear hb
  go_enter Tryz.func140, Tryz.ntmps140
  go_wp2_with fail
  go_loopw [11] (fun ix wr => OnSweep E W wr P D FB M q d cnt ix) (fun ix _ => 2001 - (intOf ix).toNat)
  case atStart => exact ⟨0, q.frames, q.hand, rfl, Nat.zero_le _, rfl, h, Kept.refl _ _, rfl, hh⟩
  case round =>
    clear h
    obtain ⟨m, l, h, rfl, hm, HS, p1, k1, HL, hhk⟩ := hrel
    have hb := p1.pool.box
    have HL2 := HL.out
    have hpc : pcells D FB l.length M h q.pins q.op = pcells D FB q.frames.length M h q.pins q.op := by rw [HL2]
    simp only at hb
    rw [hpc] at hb
    have c1 := hb.cell 1 _ rfl
    have c3 := hb.cell 3 _ rfl
    have f3 := hb.free 3
    by_cases hlt : m < 2 * q.frames.length
    · obtain ⟨n, hn⟩ : ∃ n, 2 * q.frames.length - m = n + 1 := ⟨2 * q.frames.length - m - 1, by omega⟩
      have hn2 : 2 * q.frames.length - (m + 1) = n := by omega
      rw [hn] at HS
      obtain ⟨o1, ho1⟩ : ∃ o1, l[h]? = some o1 := ⟨_, List.getElem?_eq_getElem (by omega)⟩
      have p2 := p1.own ((Only.refl P wr).set 3 (.int .i64 (((h + 1) % l.length : Nat) : Int))) (hand := (h + 1) % l.length) (pins := q.pins) (by
        have := hb.set 3 (.int .i64 (((h + 1) % l.length : Nat) : Int))
        rw [show l.length = q.frames.length from HL2]
        rw [show l.length = q.frames.length from HL2] at this
        exact this)
      have k2 := k1.trans p2.2
      have HM : Hid (((h : Int) + 1) % (q.frames.length : Int) = (((h + 1) % l.length : Nat) : Int)) := by show _ = _; rw [HL2, Int.natCast_emod, Int.natCast_add]; rfl
      have hmod : (h + 1) % l.length < q.frames.length := by rw [HL2]; exact Nat.mod_lt _ (by omega)
      go_wp2_with fail
      go_region
      rw [HM.out]
      refine exit_world (fun w' => PD E w' P D FB M { frames := l, hand := (h + 1) % l.length, pins := q.pins, op := q.op } d cnt ∧ Kept E W w') ⟨p2.1.next (Below.refl _ _).drew, k2.trans (Kept.of_below (Below.refl _ _).drew (fun j hj => p2.1.dd.there j (.inl hj)))⟩ ?_
      clear p2 k2 c1 c3 f3 hb p1 k1 HM
      rintro w2 ⟨p2, k2⟩
      have cf := p2.frame ho1
      have c1 := p2.pool.box.cell 1 _ rfl
      simp only at c1
      rw [HL2] at c1
      have HN2 := Lib.hid hn2
      clear hn hn2 hpc HL2
      cases o1 with
      | none =>
        have HSW : Hid (sweep (2 * q.frames.length) q.frames q.hand = (some h, l, (h + 1) % l.length)) := HS.out.trans (sweep_none n ho1)
        clear HS
        generalize (h + 1) % l.length = h2 at p2 HSW hmod
        simp only [ptrOf] at cf
        go_wp2
        go_ret
        exact ⟨by rw [HSW.out] <;> rfl, by rw [HSW.out]; exact p2, k2⟩
      | some f =>
        have HSW : Hid (sweep (2 * q.frames.length) q.frames q.hand = _) := HS.out.trans (sweep_some n ho1)
        clear HS
        generalize (h + 1) % l.length = h2 at p2 HSW hmod
        simp only [ptrOf] at cf
        have hfr := p2.pool.each h f ho1
        have c3 : w2.cell? ⟨f.blk, 3, none⟩ = some (.int .i64 f.pins) := hfr.box.cell 3 _ rfl
        have c4 : w2.cell? ⟨f.blk, 4, none⟩ = some (.bool f.used) := hfr.box.cell 4 _ rfl
        have f4 := hfr.box.free 4
        by_cases hp : 0 < f.pins
        · have HE : Hid (sweep (2 * q.frames.length) q.frames q.hand = sweep (2 * q.frames.length - (m + 1)) l h2) := by show _ = _; rw [HSW.out, if_pos hp, HN2.out]
          clear HSW
          generalize f.pins = fp at c3 hp
          go_wp2
          go_roundw
          case rel => exact ⟨m + 1, l, h2, by go_num, by omega, HE, p2, k2, HL, hmod⟩
          case measure => simp [intOf]; omega
        · have hbx := hfr.box.set 4 (.bool false)
          have hset := p2.flag (g := { f with used := false }) ho1 ⟨rfl, rfl, rfl, rfl, rfl⟩ ((Only.refl f.blk w2).set 4 (.bool false)) hbx
          cases hu : f.used
          · have HE : Hid (sweep (2 * q.frames.length) q.frames q.hand = (some h, l, h2)) := by show _ = _; rw [HSW.out, if_neg hp, hu]; rfl
            rw [hu] at c4
            clear HSW hset hbx hu
            generalize f.pins = fp at c3 hp
            go_wp2
            go_ret
            exact ⟨by rw [HE.out] <;> rfl, by rw [HE.out]; exact p2, k2⟩
          · have HE : Hid (sweep (2 * q.frames.length) q.frames q.hand = sweep (2 * q.frames.length - (m + 1)) (l.set h (some { f with used := false })) h2) := by show _ = _; rw [HSW.out, if_neg hp, if_pos hu, HN2.out]
            rw [hu] at c4
            have hk3 := k2.trans hset.2
            have hp3 := hset.1
            have HL3 : Hid ((l.set h (some { f with used := false })).length = q.frames.length) := by show _ = _; rw [List.length_set]; exact HL.out
            clear HSW hset hbx hu
            generalize f.pins = fp at c3 hp
            go_wp2
            go_roundw
            case rel => exact ⟨m + 1, _, h2, by go_num, by omega, HE, hp3, hk3, HL3, hmod⟩
            case measure => simp [intOf]; omega
    · have HE : Hid (sweep (2 * q.frames.length) q.frames q.hand = (none, l, h)) := by
        show _ = _
        rw [HS.out, show 2 * q.frames.length - m = 0 by omega]; rfl
      go_wp2
      go_ret
      exact ⟨by rw [HE.out] <;> rfl, by rw [HE.out]; exact p1, k1⟩
end
end Go.Proofs.YtfljlcfmdcepnaaGreatDoor
namespace Go.Proofs.YtfljlcfmdcepnaaGreatDoor
open Go.RowKit
open UK (str BytesAt nth Only Row Box IntMap)
open Go.BigFrame
section
variable {E : Nat → Prop} {W W' : World} {P D FB M cnt k : Nat} {q : Pl} {d d' : Dk}
theorem set_same {l : List (Option Fr)} {i : Nat} {o : Option Fr} (h : l[i]? = some o) : l.set i o = l := by
  refine List.ext_getElem? (fun j => ?_)
  rw [get_set l i j o (List.getElem?_eq_some_iff.1 h).1]
  by_cases e : i = j
  · rw [if_pos e, ← e, h]
  · rw [if_neg e]
theorem write_clean (h : PD E W P D FB M q d cnt) {i : Nat} {f : Fr} (hi : q.frames[i]? = some (some f)) (hd : f.dirty = false) :
    Calls Tryz.prog 38 #[.pointer (some ⟨P, 0, none⟩), .pointer (some ⟨f.blk, 0, none⟩)] W fun e w' => e = .returned (.int .i64 0) ∧ w' = W := by
  have hfr := h.pool.each i f hi
  have c5 : W.cell? ⟨f.blk, 5, none⟩ = some (.bool f.dirty) := hfr.box.cell 5 _ rfl
  rw [hd] at c5
  go_enter Tryz.func38, Tryz.ntmps38
  go_wp2
  go_ret
  exact ⟨rfl, rfl⟩
set_option maxHeartbeats 1000000 in
set_option maxRecDepth 100000 in
theorem write_dirty (h : PD E W P D FB M q d cnt) {i : Nat} {f : Fr} (hi : q.frames[i]? = some (some f)) (hd : f.dirty = true) (o : Ok d cnt k) (hk : k < 900000000) :
    Calls Tryz.prog 38 #[.pointer (some ⟨P, 0, none⟩), .pointer (some ⟨f.blk, 0, none⟩)] W fun e w' => e = .returned (.int .i64 (rwriteE d cnt f.page f.data)) ∧ PD E w' P D FB M { q with frames := q.frames.set i (some { f with dirty := (rwriteE d cnt f.page f.data != 0) }) } (rwriteD d cnt f.page f.data) cnt ∧ Kept E W w' := by
  have hfr := h.pool.each i f hi
  have h1 := h.next (Below.refl W.heap.size W).drew
  have hfr1 := h1.pool.each i f hi
  have c0 : W.cell? ⟨P, 0, none⟩ = some (.pointer (some ⟨D, 0, none⟩)) := h.pool.box.cell 0 _ rfl
  have c1 : W.cell? ⟨f.blk, 1, none⟩ = some (.int .i64 f.page) := hfr.box.cell 1 _ rfl
  have c2 : W.cell? ⟨f.blk, 2, none⟩ = some (.slice (some ⟨f.db, 0, none⟩) 504 f.cap) := hfr.box.cell 2 _ rfl
  have c5 : W.cell? ⟨f.blk, 5, none⟩ = some (.bool f.dirty) := hfr.box.cell 5 _ rfl
  rw [hd] at c5
  obtain ⟨y, hy, hyl, hyt⟩ := hfr1.bytes
  have hcap := hfr.cap
  have hcv := UK.run_window (P := Tryz.prog) (src := 87) (dst := 9) Tryz.underlying87 Tryz.underlying5 Tryz.underlying9 hy 0 504 f.cap (by omega)
  rw [List.drop_zero, hyt] at hcv
  have HW := Lib.hid (dd_write_u h1.dd o hk f.page f.data)
  have HE := Lib.hid h1
  generalize hre : rwriteE d cnt f.page f.data = re at HW
  generalize rwriteD d cnt f.page f.data = rd at HW
  have hb5 := fun w (hw : PD E w P D FB M q rd cnt) => hw.flag (g := { f with dirty := (re != 0) }) hi ⟨rfl, rfl, rfl, rfl, rfl⟩ ((Only.refl f.blk w).set 5 (.bool (re != 0))) ((hw.pool.each i f hi).box.set 5 (.bool (re != 0)))
  have HB5 := Lib.hid hb5
  clear h1 hfr hfr1 hb5 hy hyl hyt hre
  go_enter Tryz.func38, Tryz.ntmps38
  go_wp2_with fail
  go_still_tail 13, (by kernel_rfl)
  change wpList _ _ _ _ _ W.drew
  go_wp2_with fail
  refine HW.out.mono ?_
  rintro e w2 ⟨rfl, d2, k2⟩
  have h2 := HE.out.disk d2 k2
  have hfr2 := h2.pool.each i f hi
  have c5 : w2.cell? ⟨f.blk, 5, none⟩ = some (.bool f.dirty) := hfr2.box.cell 5 _ rfl
  have f5 := hfr2.box.free 5
  have HF := Lib.hid (HB5.out w2 h2)
  have k3 := Kept.of_below (S := E) (Below.refl W.heap.size W).drew (fun j hj => h.dd.there j (.inl hj))
  clear HW HE hcv c0 c1 c2 h2 hfr2 d2
  go_wp2
  go_ret
  exact ⟨rfl, HF.out.1, (k3.trans (k2.mono (fun j hj => .inl hj))).trans HF.out.2⟩
theorem PD.empty (h : PD E W P D FB M q d cnt) {i : Nat} {f : Fr} (hi : q.frames[i]? = some (some f)) {W1 W2 : World} (o1 : Only FB W W1) (r1 : Row W1 FB q.frames.length ((q.frames.set i none).map ptrOf)) (o2 : Only M W1 W2)
    (hm : ∃ g, AtIs (q.frames.set i none) g ∧ IntMap Tryz.prog 3 3 W2 M (cntF (q.frames.set i none)) g (cntF (q.frames.set i none))) : PD E W2 P D FB M { q with frames := q.frames.set i none } d cnt ∧ Kept E W W2 := by
  have hp := h.pool
  have hoff := fun (j : Nat) (u : Option Fr) (b : Nat) hj hb => hp.off j u b hj hb
  have hkeep : ∀ b, b < W.heap.size → b ≠ FB → b ≠ M → W2.heap[b]? = W.heap[b]? := fun b hb h1 h2 => (o2.block b (Nat.lt_of_lt_of_le hb o1.size) h2).trans (o1.block b hb h1)
  refine h.moves (q' := { q with frames := q.frames.set i none }) ⟨o2.os.trans o1.os, o2.tape.trans o1.tape, o2.output.trans o1.output, Nat.le_trans o1.size o2.size, fun b hb hn => hkeep b hb (fun e => hn (.inr (.inl e))) (fun e => hn (.inr (.inr (.inl e)))), fun b hb => ?_⟩ ?_
  · rcases PBlk.setF (n := W.heap.size) hi (fun j hj => absurd hj id) hb with h1 | h1
    · exact .inl h1
    · exact .inr h1
  · exact hp.setF hi h.dd.tab.lt (hp.box.of_block (hkeep P hp.box.lt hp.PF hp.PM)) (Nat.le_trans o1.size o2.size) (fun k hk => hkeep k (hp.op.lt hk) (hp.opOff k hk).2.1 (hp.opOff k hk).2.2) (r1.only o2 hp.FM) hm (fun j u b _ hu hb => hkeep b (hp.ltF hu hb) (hoff j u b hu hb).2.1 (hoff j u b hu hb).2.2) (fun g hg => by cases hg) (fun b hb => absurd hb id)
set_option maxRecDepth 100000 in
theorem forget_yes (h : PD E W P D FB M q d cnt) (o : PlOk q) {i : Nat} {f : Fr} (hi : q.frames[i]? = some (some f)) :
    Calls Tryz.prog 118 #[.pointer (some ⟨P, 0, none⟩), .int .i64 f.page] W fun e w' => e = .returned (.tuple #[]) ∧ PD E w' P D FB M { q with frames := q.frames.set i none } d cnt ∧ Kept E W w' := by
  have hp := h.pool
  have hl := (List.getElem?_eq_some_iff.1 hi).1
  have hpg := (hp.each i f hi).page
  have c1 : W.cell? ⟨P, 1, none⟩ = some (.slice (some ⟨FB, 0, none⟩) q.frames.length q.frames.length) := hp.box.cell 1 _ rfl
  have c2 : W.cell? ⟨P, 2, none⟩ = some (.map (some M)) := hp.box.cell 2 _ rfl
  obtain ⟨g, hg, hm⟩ := hp.map
  have hgf : g f.page = some (i : Int) := hg.at_ hi
  have hlk := hm.get (t := 80) Tryz.underlying3 Tryz.underlying3 Tryz.underlying80 (fun w => by kernel_rfl) f.page hpg
  rw [hgf] at hlk
  have hlk2 : (Instr.lookup 80 (.map (some M)) (.int .i64 f.page) true).run Tryz.prog W = .ok (.tuple #[.int .i64 (i : Int), .bool true]) W := hlk
  have cF := hp.frs.at' i _ (ptrOf_at _ _ _ hi)
  have fF := hp.frs.free i hl
  have o1 := (Only.refl FB W).set i (.pointer none)
  have r1 := hp.frs.set i (.pointer none) (by rw [List.length_map]; exact hl)
  have hm1 := hm.only o1 hp.FM.symm
  obtain ⟨W2, hdel, hm2, o2⟩ := hm1.del Tryz.underlying3 Tryz.underlying80 f.page hpg 0
  rw [hgf] at hm2
  have hc := cntF_set q.frames i (some f) none hi
  simp only [Option.isSome_some, Option.isSome_none, if_true, Bool.false_eq_true, if_false] at hc hm2
  rw [show cntF q.frames - 1 = cntF (q.frames.set i none) by omega] at hm2
  have r2 : Row (W.setCell ⟨FB, i, none⟩ (.pointer none)) FB q.frames.length ((q.frames.set i none).map ptrOf) := by rw [map_set]; exact r1
  have HF := Lib.hid (h.empty hi o1 r2 o2 ⟨_, hg.forget hi, hm2.tight⟩)
  have c2' : (W.setCell ⟨FB, i, none⟩ (.pointer none)).cell? ⟨P, 2, none⟩ = some (.map (some M)) := (hp.box.only o1 hp.PF).cell 2 _ rfl
  have hk := o.few
  clear hlk hm hm1 hm2 r1 r2 o1 o2 hc hgf hg
  go_enter Tryz.func118, Tryz.ntmps118
  go_wp2_with (at_delete; refine UK.wpList_delete_run hdel rfl rfl rfl rfl rfl ?_)
  go_end0
  exact ⟨rfl, HF.out.1, HF.out.2⟩
set_option maxRecDepth 100000 in
theorem forget_no (h : PD E W P D FB M q d cnt) (p : Int) (hpg : (Lit.int .i64 p).wf = true) (hno : ∀ (i : Nat) (f : Fr), q.frames[i]? = some (some f) → f.page ≠ p) :
    Calls Tryz.prog 118 #[.pointer (some ⟨P, 0, none⟩), .int .i64 p] W fun e w' => e = .returned (.tuple #[]) ∧ w' = W := by
  have hp := h.pool
  have c2 : W.cell? ⟨P, 2, none⟩ = some (.map (some M)) := hp.box.cell 2 _ rfl
  obtain ⟨g, hg, hm⟩ := hp.map
  have hgf : g p = none := by
    cases hgp : g p with
    | none => rfl
    | some i =>
      obtain ⟨j, _, fr, hj, hf⟩ := (hg p i).1 hgp
      exact absurd hf (hno j fr hj)
  have hlk := hm.get (t := 80) Tryz.underlying3 Tryz.underlying3 Tryz.underlying80 (fun w => by kernel_rfl) p hpg
  rw [hgf] at hlk
  have hlk2 : (Instr.lookup 80 (.map (some M)) (.int .i64 p) true).run Tryz.prog W = .ok (.tuple #[.int .i64 0, .bool false]) W := hlk
  clear hlk hm hgf hg
  go_enter Tryz.func118, Tryz.ntmps118
  go_wp2
  go_end0
  exact ⟨rfl, rfl⟩
def Exact (q : Pl) (d : Dk) (cnt : Nat) (r : Option Nat × List (Option Fr) × Nat) (i : Nat) (e0 : Int) (q' : Pl) (d' : Dk) : Prop :=
  (r.1 = none → e0 = 9 ∧ d' = d ∧ q' = { frames := r.2.1, hand := r.2.2, pins := q.pins, op := q.op }) ∧
  (∀ j, r.1 = some j → (∀ f : Fr, r.2.1[j]? = some (some f) → f.dirty = false) → i = j ∧ e0 = 0 ∧ d' = d ∧ q' = { frames := r.2.1.set j none, hand := r.2.2, pins := q.pins, op := q.op }) ∧
  ∀ (j : Nat) (f : Fr), r.1 = some j → r.2.1[j]? = some (some f) → f.dirty = true → rwriteE d cnt f.page f.data = 0 → i = j ∧ e0 = 0 ∧ d' = rwriteD d cnt f.page f.data ∧ q' = { frames := r.2.1.set j none, hand := r.2.2, pins := q.pins, op := q.op }
def Roomed (E : Nat → Prop) (W w' : World) (P D FB M : Nat) (q : Pl) (d : Dk) (cnt k : Nat) (e : Ending) : Prop :=
  ∃ (i : Nat) (e0 : Int) (q' : Pl) (d' : Dk), e = .returned (.tuple #[.int .i64 i, .int .i64 e0]) ∧ PD E w' P D FB M q' d' cnt ∧ Kept E W w' ∧ PlOk q' ∧ Ok d' cnt (k + 1) ∧ q'.pins = q.pins ∧ q'.frames.length = q.frames.length ∧ Fewer q' q ∧ (∀ p, hasD d' cnt p = hasD d cnt p) ∧ (e0 = 0 → q'.frames[i]? = some none) ∧
    Exact q d cnt (sweep (2 * q.frames.length) q.frames q.hand) i e0 q' d'
theorem has_write (d : Dk) (cnt : Nat) (p : Int) (s : List UInt8) (a : Int) : hasD (rwriteD d cnt p s) cnt a = hasD d cnt a := by
  unfold rwriteD
  split
  · rfl
  · split
    · rfl
    · split <;> rfl
set_option maxHeartbeats 1000000 in
set_option maxRecDepth 100000 in
theorem proom_any (h : PD E W P D FB M q d cnt) (o : PlOk q) (ok : Ok d cnt k) (hk : k < 900000000) :
    Calls Tryz.prog 104 #[.pointer (some ⟨P, 0, none⟩)] W fun e w' => Roomed E W w' P D FB M q d cnt k e := by
  have hv := victim_any h o
  have hso := sweep_ok (2 * q.frames.length) q o
  have hsf := sweep_fewer q.op (2 * q.frames.length) q.frames q.hand (sweep (2 * q.frames.length) q.frames q.hand).2.2 q.pins q.hand q.pins o.hand
  unfold swept at hv
  unfold Roomed
  generalize sweep (2 * q.frames.length) q.frames q.hand = r at hv hso hsf ⊢
  obtain ⟨v, l, hd⟩ := r
  simp only at hv hso hsf
  obtain ⟨o1, hl1, hi1⟩ := hso
  have hsf2 : Fewer { frames := l, hand := hd, pins := q.pins, op := q.op } q := hsf
  have hfew := o1.few
  simp only at hfew
  cases v with
  | none =>
    have HV := Lib.hid hv
    clear hv hsf hi1
    simp only [vicV] at HV
    go_enter Tryz.func104, Tryz.ntmps104
    go_wp2_with fail
    refine HV.out.mono ?_
    rintro e w1 ⟨rfl, p1, k1⟩
    go_wp2
    go_ret2
    exact ⟨0, 9, _, d, rfl, p1, k1, o1, ok.more, rfl, hl1, hsf2, fun _ => rfl, fun h0 => absurd h0 (by decide), fun _ => ⟨rfl, rfl, rfl⟩, (fun j hj => by cases hj), fun j f hj => by cases hj⟩
  | some i =>
    obtain ⟨ob, hob, hidle⟩ := hi1 i rfl
    have hil : i < l.length := (List.getElem?_eq_some_iff.1 hob).1
    have HV := Lib.hid hv
    clear hv hsf hi1
    simp only [vicV] at HV
    have HL1 := Lib.hid hl1
    clear hl1
    cases ob with
    | none =>
      go_enter Tryz.func104, Tryz.ntmps104
      go_wp2_with fail
      refine HV.out.mono ?_
      rintro e w1 ⟨rfl, p1, k1⟩
      have c1 : w1.cell? ⟨P, 1, none⟩ = some (.slice (some ⟨FB, 0, none⟩) l.length l.length) := p1.pool.box.cell 1 _ rfl
      have cF : w1.cell? ⟨FB, i, none⟩ = some (.pointer none) := p1.frame hob
      clear HV
      go_wp2
      go_ret2
      exact ⟨i, 0, _, d, rfl, p1, k1, o1, ok.more, rfl, HL1.out, hsf2, fun _ => rfl, fun _ => hob, fun hj => (by cases hj), (fun j hj _ => by
        obtain rfl := Option.some.inj hj
        exact ⟨rfl, rfl, rfl, by rw [set_same hob]⟩), fun j f hj hf => by
        obtain rfl := Option.some.inj hj
        rw [hob] at hf; cases hf⟩
    | some f =>
      have hfp : f.pins = 0 := hidle f rfl
      have HFP := Lib.hid hfp
      clear hfp hidle
      cases hdy : f.dirty
      · have HDY := Lib.hid hdy
        clear hdy
        go_enter Tryz.func104, Tryz.ntmps104
        go_wp2_with fail
        refine HV.out.mono ?_
        rintro e w1 ⟨rfl, p1, k1⟩
        have c1 : w1.cell? ⟨P, 1, none⟩ = some (.slice (some ⟨FB, 0, none⟩) l.length l.length) := p1.pool.box.cell 1 _ rfl
        have cF : w1.cell? ⟨FB, i, none⟩ = some (.pointer (some ⟨f.blk, 0, none⟩)) := p1.frame hob
        have cp : w1.cell? ⟨f.blk, 1, none⟩ = some (.int .i64 f.page) := (p1.pool.each i f hob).box.cell 1 _ rfl
        have HWc := Lib.hid (write_clean p1 hob HDY.out)
        have HFg := Lib.hid (forget_yes p1 o1 hob)
        have hpo := o1.set hob (u := none) (fun g hg => by cases hg)
        simp only [pinO, HFP.out, Int.sub_zero, Int.add_zero] at hpo
        clear HV
        go_wp2_with fail
        refine HWc.out.mono ?_
        rintro e w2 ⟨rfl, rfl⟩
        go_wp2_with fail
        refine HFg.out.mono ?_
        rintro e w3 ⟨rfl, p3, k3⟩
        clear HWc HFg
        go_wp2
        go_ret2
        exact ⟨i, 0, _, d, rfl, p3, k1.trans k3, hpo, ok.more, rfl, by show (l.set i none).length = _; rw [List.length_set]; exact HL1.out, (Fewer.empty (q := { frames := l, hand := hd, pins := q.pins, op := q.op }) hob _ _).trans hsf2, fun _ => rfl, fun _ => by show (l.set i none)[i]? = _; rw [get_set _ _ _ _ hil, if_pos rfl], fun hj => (by cases hj), (fun j hj _ => by
          obtain rfl := Option.some.inj hj
          exact ⟨rfl, rfl, rfl, rfl⟩), fun j g hj hg hd => by
          obtain rfl := Option.some.inj hj
          rw [hob] at hg
          obtain rfl := Option.some.inj (Option.some.inj hg)
          rw [HDY.out] at hd; cases hd⟩
      · have HDY := Lib.hid hdy
        clear hdy
        go_enter Tryz.func104, Tryz.ntmps104
        go_wp2_with fail
        refine HV.out.mono ?_
        rintro e w1 ⟨rfl, p1, k1⟩
        have c1 : w1.cell? ⟨P, 1, none⟩ = some (.slice (some ⟨FB, 0, none⟩) l.length l.length) := p1.pool.box.cell 1 _ rfl
        have cF : w1.cell? ⟨FB, i, none⟩ = some (.pointer (some ⟨f.blk, 0, none⟩)) := p1.frame hob
        have HWd := Lib.hid (write_dirty p1 hob HDY.out ok hk)
        have hok2 := ok.write hk f.page f.data
        have hhw := fun a => has_write d cnt f.page f.data a
        generalize hE0 : rwriteE d cnt f.page f.data = e0 at HWd
        generalize hD2 : rwriteD d cnt f.page f.data = d2 at HWd hok2 hhw
        have HE0 := Lib.hid hE0
        have HD2 := Lib.hid hD2
        clear hE0 hD2
        have hpo := o1.set hob (u := some { f with dirty := (e0 != 0) }) (fun g hg => by rw [← Option.some.inj hg]; exact o1.pos i f hob)
        rw [show ({ frames := l, hand := hd, pins := q.pins, op := q.op } : Pl).pins - pinO (some f) + pinO (some { f with dirty := (e0 != 0) }) = q.pins by show q.pins - f.pins + f.pins = q.pins; omega] at hpo
        have HHW := Lib.hid hhw
        clear HV hhw
        go_wp2_with fail
        refine HWd.out.mono ?_
        rintro e w2 ⟨rfl, p2, k2⟩
        have hob2 : (l.set i (some { f with dirty := (e0 != 0) }))[i]? = some (some { f with dirty := (e0 != 0) }) := by rw [get_set _ _ _ _ hil, if_pos rfl]
        have hfw := (Fewer.set (q := { frames := l, hand := hd, pins := q.pins, op := q.op }) hob (g := { f with dirty := (e0 != 0) }) rfl hd q.pins).trans hsf2
        by_cases he : e0 = 0
        · subst he
          have cp : w2.cell? ⟨f.blk, 1, none⟩ = some (.int .i64 f.page) := (p2.pool.each i _ hob2).box.cell 1 _ rfl
          have HFg := Lib.hid (forget_yes p2 hpo hob2)
          have hpo3 := hpo.set hob2 (u := none) (fun g hg => by cases hg)
          rw [show q.pins - pinO (some { f with dirty := ((0 : Int) != 0) }) + pinO none = q.pins by show q.pins - f.pins + 0 = q.pins; have := HFP.out; omega] at hpo3
          simp only [List.set_set] at hpo3
          clear HWd
          go_wp2_with fail
          refine HFg.out.mono ?_
          rintro e w3 ⟨rfl, p3, k3⟩
          simp only [List.set_set] at p3
          clear HFg
          go_wp2
          go_ret2
          exact ⟨i, 0, _, d2, rfl, p3, (k1.trans k2).trans k3, hpo3, hok2, rfl, by show (l.set i none).length = _; rw [List.length_set]; exact HL1.out, (Fewer.empty (q := { frames := l, hand := hd, pins := q.pins, op := q.op }) hob _ _).trans hsf2, HHW.out, fun _ => by show (l.set i none)[i]? = _; rw [get_set _ _ _ _ hil, if_pos rfl], fun hj => (by cases hj), (fun j hj hc => by
            obtain rfl := Option.some.inj hj
            have := hc f hob
            rw [HDY.out] at this; cases this), fun j g hj hg _ _ => by
            obtain rfl := Option.some.inj hj
            rw [hob] at hg
            obtain rfl := Option.some.inj (Option.some.inj hg)
            exact ⟨rfl, rfl, HD2.out.symm, rfl⟩⟩
        · have hb1 : (e0 == 0) = false := beq_eq_false_iff_ne.2 he
          have HNE := Lib.hid he
          clear HWd he
          go_wp2
          go_ret2
          exact ⟨0, e0, _, d2, rfl, p2, k1.trans k2, hpo, hok2, rfl, by show (l.set i _).length = _; rw [List.length_set]; exact HL1.out, hfw, HHW.out, fun h0 => absurd h0 HNE.out, fun hj => (by cases hj), (fun j hj hc => by
            obtain rfl := Option.some.inj hj
            have := hc f hob
            rw [HDY.out] at this; cases this), fun j g hj hg _ hz => by
            obtain rfl := Option.some.inj hj
            rw [hob] at hg
            obtain rfl := Option.some.inj (Option.some.inj hg)
            rw [HE0.out] at hz
            exact absurd hz HNE.out⟩
end
end Go.Proofs.YtfljlcfmdcepnaaGreatDoor
namespace Go.Proofs.YtfljlcfmdcepnaaGreatDoor
open Go.RowKit
open UK (str BytesAt nth Only Row Box IntMap)
open Go.BigFrame
section
variable {E : Nat → Prop} {W W' : World} {P D FB M cnt k : Nat} {q : Pl} {d d' : Dk}
theorem wp_world {P : Program} {Q : Exit → Act → World → Prop} {a : Act} {c : Code} {w : World} (R : World → Prop) (hR : R w) (h : ∀ w', R w' → c.wp P Q a w') : c.wp P Q a w := h w hR
structure Half (W w : World) (P FB : Nat) (l : List (Option Fr)) (i : Nat) (f : Fr) : Prop where
  only : Only FB W w
  row : Row w FB l.length ((l.set i (some f)).map ptrOf)
  new : FrAt w P f
theorem half_made (hr : Row W FB q.frames.length (q.frames.map ptrOf)) {i : Nat} (hil : i < q.frames.length) {s : List UInt8} (hs : s.length = 504) (page : Int) (hpg : (Lit.int .i64 page).wf = true) {cap : Nat} {o : Obj} (hcap : 504 ≤ cap)
    (hy : BytesAt (W.drew.alloc o) W.heap.size (s ++ List.replicate (cap - s.length) 0)) (t : TypeId) (f : Fr) (hf : f = { blk := W.heap.size + 1, db := W.heap.size, cap := cap, page := page, data := s, pins := 1, used := true, dirty := false }) :
    Half W (((W.setCell ⟨FB, i, none⟩ (.pointer (some ⟨W.heap.size + 1, 0, none⟩))).alloc o).alloc (.cells (fcells P f) t)).drew P FB q.frames i f := by
  have o1 := (Only.refl FB W).set i (.pointer (some ⟨W.heap.size + 1, 0, none⟩))
  have r1 := hr.set i (.pointer (some ⟨W.heap.size + 1, 0, none⟩)) (by rw [List.length_map]; exact hil)
  have hsz : (W.setCell ⟨FB, i, none⟩ (.pointer (some ⟨W.heap.size + 1, 0, none⟩))).heap.size = W.heap.size := by simp [World.setCell]
  generalize W.setCell ⟨FB, i, none⟩ (.pointer (some ⟨W.heap.size + 1, 0, none⟩)) = w1 at o1 r1 hsz
  have y1 : BytesAt (w1.alloc o) W.heap.size (s ++ List.replicate (cap - s.length) 0) := hy.of_block (by
    have e1 : (w1.alloc o).heap[w1.heap.size]? = some o := by
      show (w1.heap.push _)[w1.heap.size]? = _
      rw [Array.getElem?_push_size]
    have e2 : (W.drew.alloc o).heap[W.drew.heap.size]? = some o := by
      show (W.drew.heap.push _)[W.drew.heap.size]? = _
      rw [Array.getElem?_push_size]
    rw [hsz] at e1
    exact e1.trans e2.symm)
  have hs2 : (w1.alloc o).heap.size = W.heap.size + 1 := by simp [hsz]
  have hb := Box.new (w1.alloc o) (fcells P f) t
  rw [hs2] at hb
  refine ⟨((o1.alloc o).alloc _).drew, ?_, ⟨?_, ⟨s ++ List.replicate (cap - s.length) 0, ?_, ?_, ?_⟩, ?_, ?_, ?_, ?_⟩⟩
  · rw [map_set]
    have e3 : ptrOf (some f) = .pointer (some ⟨W.heap.size + 1, 0, none⟩) := by rw [hf]; rfl
    rw [e3]
    exact ((r1.alloc o).alloc _).drewN 1
  · rw [show f.blk = W.heap.size + 1 by rw [hf]]
    exact hb.of_block rfl
  · rw [show f.db = W.heap.size by rw [hf]]
    exact (y1.alloc _).drewN 1
  · rw [show f.cap = cap by rw [hf], List.length_append, List.length_replicate]; omega
  · rw [show f.data = s by rw [hf], List.take_left' hs]
  · rw [show f.data = s by rw [hf]]; exact hs
  · rw [show f.cap = cap by rw [hf]]; exact hcap
  · rw [show f.page = page by rw [hf]]; exact hpg
  · rw [hf]; show W.heap.size + 1 ≠ W.heap.size; omega
def LaidP (E : Nat → Prop) (W w' : World) (P D FB M : Nat) (q : Pl) (d : Dk) (cnt i : Nat) (page : Int) (s : List UInt8) (e : Ending) : Prop :=
  ∃ f : Fr, e = .returned (.pointer (some ⟨f.blk, 0, none⟩)) ∧ f.page = page ∧ f.data = s ∧ f.pins = 1 ∧ f.dirty = false ∧ f.used = true ∧ PD E w' P D FB M { frames := q.frames.set i (some f), hand := q.hand, pins := q.pins + 1, op := q.op } d cnt ∧ Kept E W w'
theorem PD.laid (h : PD E W P D FB M q d cnt) {i : Nat} (hi : q.frames[i]? = some none) {f : Fr} {w1 w2 w3 : World} {pins : Int} (hh : Half W w1 P FB q.frames i f) (hnew : f.blk = W.heap.size + 1 ∧ f.db = W.heap.size) (o2 : Only M w1 w2) (o3 : Only P w2 w3)
    (hm : ∃ g, AtIs (q.frames.set i (some f)) g ∧ IntMap Tryz.prog 3 3 w2 M (cntF (q.frames.set i (some f))) g (cntF (q.frames.set i (some f)))) (hb : Box w3 P (pcells D FB q.frames.length M q.hand pins q.op)) :
    PD E w3 P D FB M { frames := q.frames.set i (some f), hand := q.hand, pins := pins, op := q.op } d cnt ∧ Kept E W w3 := by
  have hp := h.pool
  have o1 := hh.only
  have hkeep : ∀ b, b < W.heap.size → b ≠ FB → b ≠ M → b ≠ P → w3.heap[b]? = W.heap[b]? := fun b hb h1 h2 h3 =>
    ((o3.block b (Nat.lt_of_lt_of_le hb (Nat.le_trans o1.size o2.size)) h3).trans (o2.block b (Nat.lt_of_lt_of_le hb o1.size) h2)).trans (o1.block b hb h1)
  have hown : ∀ b, frB (some f) b → frB none b ∨ W.heap.size ≤ b := fun b hb => by
    rcases hb with rfl | rfl
    · exact .inr (by omega)
    · exact .inr (by omega)
  have hsz : W.heap.size ≤ w3.heap.size := Nat.le_trans (Nat.le_trans o1.size o2.size) o3.size
  have hPl := hp.box.lt
  have hFl := hp.frs.lt
  have hMl : M < W.heap.size := hp.lt (.inr (.inr (.inl rfl)))
  refine h.moves (q' := { frames := q.frames.set i (some f), hand := q.hand, pins := pins, op := q.op }) ⟨(o3.os.trans o2.os).trans o1.os, (o3.tape.trans o2.tape).trans o1.tape, (o3.output.trans o2.output).trans o1.output, hsz, fun b hb hn => hkeep b hb (fun e => hn (.inr (.inl e))) (fun e => hn (.inr (.inr (.inl e)))) (fun e => hn (.inl e)), fun b hb => PBlk.setF hi hown hb⟩ ?_
  obtain ⟨g, hg, hm⟩ := hm
  refine hp.setF hi h.dd.tab.lt hb hsz (fun k hk => hkeep k (hp.op.lt hk) (hp.opOff k hk).2.1 (hp.opOff k hk).2.2 (hp.opOff k hk).1) ((hh.row.only o2 hp.FM).only o3 hp.PF.symm) ⟨g, hg, hm.only o3 hp.PM.symm⟩ (fun j u b _ hu hb => ?_) (fun f' hf' => ?_) hown
  · have := hp.off j u b hu hb
    exact hkeep b (hp.ltF hu hb) this.2.1 this.2.2 this.1
  · obtain rfl := Option.some.inj hf'
    have e1 : ∀ b, frB (some f) b → w3.heap[b]? = w1.heap[b]? := fun b hb => by
      have hb1 := hh.new.lt hb
      have hge := hown b hb
      have hge2 : W.heap.size ≤ b := by
        rcases hge with x | x
        · exact absurd x id
        · exact x
      exact (o3.block b (Nat.lt_of_lt_of_le hb1 o2.size) (by omega)).trans (o2.block b hb1 (by omega))
    exact hh.new.of_block (e1 _ (.inl rfl)) (e1 _ (.inr rfl))
set_option maxHeartbeats 1000000 in
set_option maxRecDepth 100000 in
theorem play_any (h : PD E W P D FB M q d cnt) (o : PlOk q) (hpin : 0 ≤ q.pins ∧ q.pins ≤ 1000000) {i : Nat} (hi : q.frames[i]? = some none) (page : Int) (hpg : (Lit.int .i64 page).wf = true) (hno : ∀ (i : Nat) (f : Fr), q.frames[i]? = some (some f) → f.page ≠ page) (s : List UInt8) (hs : s.length = 504) :
    Calls Tryz.prog 106 #[.pointer (some ⟨P, 0, none⟩), .int .i64 i, .int .i64 page, .string (str s)] W fun e w' => LaidP E W w' P D FB M q d cnt i page s e := by
  have hp := h.pool
  have hl := (List.getElem?_eq_some_iff.1 hi).1
  have c1 : W.cell? ⟨P, 1, none⟩ = some (.slice (some ⟨FB, 0, none⟩) q.frames.length q.frames.length) := hp.box.cell 1 _ rfl
  obtain ⟨cap, ob, hcap, hcv, hy⟩ := UK.run_bytes (P := Tryz.prog) (src := 9) (dst := 87) Tryz.underlying9 Tryz.underlying87 Tryz.underlying5 W s
  rw [hs] at hcap hcv
  obtain ⟨f, HF⟩ : ∃ f : Fr, Hid (f = { blk := W.heap.size + 1, db := W.heap.size, cap := cap, page := page, data := s, pins := 1, used := true, dirty := false }) := ⟨_, rfl⟩
  have HH := Lib.hid (half_made (P := P) hp.frs hl hs page hpg hcap hy 160 f HF.out)
  have cF := hp.frs.at' i _ (ptrOf_at _ _ _ hi)
  have fF := hp.frs.free i hl
  have hPl := hp.box.lt
  have hFl := hp.frs.lt
  have hk := o.few
  clear hy
  go_enter Tryz.func106, Tryz.ntmps106
  go_upto_region 3 with (fail)
  refine wp_world (fun w' => Half W w' P FB q.frames i f) (by have e := HH.out; rw [HF.out] at e ⊢; exact e) ?_
  intro w1 hh
  obtain ⟨g, hg, hm⟩ := hp.map
  have hgf : g page = none := by
    cases hgp : g page with
    | none => rfl
    | some b =>
      obtain ⟨j, _, fr, hj, hf⟩ := (hg page b).1 hgp
      exact absurd hf (hno j fr hj)
  have hm1 := hm.only hh.only hp.FM.symm
  obtain ⟨w2, hput, hm2, o2⟩ := hm1.put (t := 80) Tryz.underlying3 Tryz.underlying3 Tryz.underlying80 (by have := cntF_le q.frames; unfold maxLen; omega) page i hpg (WalkArith.wf_i64 (by omega))
  rw [hgf] at hm2
  have hc := cntF_set q.frames i none (some f) hi
  simp only [Option.isSome_some, Option.isSome_none, if_true, Bool.false_eq_true, if_false] at hc hm2
  rw [show cntF q.frames + 1 = cntF (q.frames.set i (some f)) by omega] at hm2
  have hfp : f.page = page := by rw [HF.out]
  have hlay := hg.lay hi (fr := f) (by rw [hfp]; exact hgf)
  rw [hfp] at hlay
  have b1 := hp.box.only hh.only hp.PF
  have b2 := b1.only o2 hp.PM
  have c2 : w1.cell? ⟨P, 2, none⟩ = some (.map (some M)) := b1.cell 2 _ rfl
  have c4 : w2.cell? ⟨P, 4, none⟩ = some (.int .i64 q.pins) := b2.cell 4 _ rfl
  have f4 := b2.free 4
  have HFin := Lib.hid (h.laid hi hh (by rw [HF.out]; exact ⟨rfl, rfl⟩) o2 ((Only.refl P w2).set 4 (.int .i64 (q.pins + 1))) ⟨_, hlay, hm2.tight⟩ (pins := q.pins + 1) (b2.set 4 (.int .i64 (q.pins + 1))))
  obtain ⟨hp1, hp2⟩ := hpin
  clear HH hm hm1 hm2 hlay hgf hg hc b1 b2 hcv cF fF c1 hno hh
  go_wp2
  go_ret
  exact ⟨f, by rw [HF.out] <;> rfl, hfp, by rw [HF.out], by rw [HF.out], by rw [HF.out], by rw [HF.out], HFin.out.1, HFin.out.2⟩
end
end Go.Proofs.YtfljlcfmdcepnaaGreatDoor
