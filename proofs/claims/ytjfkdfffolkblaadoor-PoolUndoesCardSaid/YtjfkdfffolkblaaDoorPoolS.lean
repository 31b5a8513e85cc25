/-
  The pool's small functions.
  The pool: a frame turns; victim; write.
-/
import Derived.Test.YtjfkdfffolkblaaDoorPoolQ
import Derived.Test.YtjfkdfffolkblaaDoorDiskX
import Derived.Deep.RegionWith
import Derived.Deep.DeepCutAuto
namespace Go.Proofs.YtjfkdfffolkblaaDoor
open Go.RowKit
open UK (str BytesAt nth Only Row Box IntMap)
open Go.BigFrame
namespace UK
/-- 'len(m)' in a walk, by its run -/
theorem wpList_len_run {P : Program} {t ty : TypeId} {mv v' : Value} {w w' : World} (hr : (Builtin.len_ #[t] ty #[mv]).run P w = .ok v' w') {ops : Array Oper} {rest : List Oper} {o : Oper} {a : Act} {Q : Exit → Act → World → Prop} {m : Operand}
    (hg : o.guard = none) (hop : o.op = Op.call { callee := Callee.builtin Builtin.len, args := #[m], argTypes := #[t] }) (hty : o.type = ty) (hm : a.eval m = mv) (hK : wpList P ops Q rest (a.put o.dst v') w') :
    wpList P ops Q (o :: rest) a w := by
  refine wpList_plain hg fun K hK' => ?_
  subst hty
  unfold Oper.wp
  simp [execOp, hop, resolve, invoke, builtin, hm, hr, Result.andThen]
  exact hK' _ _ hK
/-- 'delete(m, k)' in a walk, by its run -/
theorem wpList_delete_run {P : Program} {t k ty : TypeId} {mv kv v' : Value} {w w' : World} (hr : (Builtin.delete_ #[t, k] ty #[mv, kv]).run P w = .ok v' w') {ops : Array Oper} {rest : List Oper} {o : Oper} {a : Act} {Q : Exit → Act → World → Prop} {m x : Operand}
    (hg : o.guard = none) (hop : o.op = Op.call { callee := Callee.builtin Builtin.delete, args := #[m, x], argTypes := #[t, k] }) (hty : o.type = ty) (hm : a.eval m = mv) (hx : a.eval x = kv) (hK : wpList P ops Q rest (a.put o.dst v') w') :
    wpList P ops Q (o :: rest) a w := by
  refine wpList_plain hg fun K hK' => ?_
  subst hty
  unfold Oper.wp
  simp [execOp, hop, resolve, invoke, builtin, hm, hx, hr, Result.andThen]
  exact hK' _ _ hK
end UK
section
variable {E : Nat → Prop} {W W' : World} {P D FB M cnt : Nat} {q : Pl} {d d' : Dk}
theorem pinned_any (h : PoolAt W P D FB M q) :
    Calls Tryd.prog 52 #[.pointer (some ⟨P, 0, none⟩)] W fun e w' => e = .returned (.int .i64 q.pins) ∧ w' = W := by
  have c4 := h.box.cell 4 _ rfl
  go_enter Tryd.func52, Tryd.ntmps52
  go_wp2
  go_ret
  exact ⟨rfl, rfl⟩
theorem resident_any (h : PoolAt W P D FB M q) :
    Calls Tryd.prog 53 #[.pointer (some ⟨P, 0, none⟩)] W fun e w' => e = .returned (.int .i64 (cntF q.frames)) ∧ w' = W := by
  have c2 := h.box.cell 2 _ rfl
  obtain ⟨f, _, hm⟩ := h.map
  have hl := hm.len Tryd.underlying93 3
  clear hm
  go_enter Tryd.func53, Tryd.ntmps53
  go_wp2_with (at_len; refine UK.wpList_len_run hl rfl rfl rfl rfl ?_)
  go_ret
  exact ⟨rfl, rfl⟩
theorem page_any {f : Fr} (h : FrAt W P f) :
    Calls Tryd.prog 42 #[.pointer (some ⟨f.blk, 0, none⟩)] W fun e w' => e = .returned (.int .i64 f.page) ∧ w' = W := by
  have c1 := h.box.cell 1 _ rfl
  go_enter Tryd.func42, Tryd.ntmps42
  go_wp2
  go_ret
  exact ⟨rfl, rfl⟩
set_option maxRecDepth 100000 in
/-- does a list hold a number? -/
theorem index_any {ao : Option Addr} {c : Nat} {l : List Int} (h : SlAt W ao c l) (hl : l.length ≤ 1000000000) (v : Int) :
    Calls Tryd.prog 131 #[.slice ao l.length c, .int .i64 v] W fun e w' => ∃ i : Int, e = .returned (.int .i64 i) ∧ (0 ≤ i ↔ v ∈ l) ∧ w' = W := by
  go_enter Tryd.func131, Tryd.ntmps131
  go_wp2_with fail
  go_loopw [8] (fun ix wr => ∃ j : Nat, ix = .int .i64 j ∧ j ≤ l.length ∧ (∀ (i : Nat) (x : Int), i < j → l[i]? = some x → x ≠ v) ∧ wr = W) (fun ix _ => 1000000001 - (intOf ix).toNat)
  case atStart => exact ⟨0, rfl, Nat.zero_le _, fun i x hi => absurd hi (Nat.not_lt_zero _), rfl⟩
  case round =>
    obtain ⟨j, rfl, hj, hno, rfl⟩ := hrel
    by_cases hlt : j < l.length
    · obtain ⟨x, hx⟩ : ∃ x, l[j]? = some x := ⟨_, List.getElem?_eq_getElem hlt⟩
      rcases h with ⟨_, rfl, _⟩ | ⟨g, rfl, r⟩
      · exact absurd hlt (Nat.not_lt_zero _)
      · have cx := r.at' j (.int .i64 x) (by unfold intVs; rw [List.getElem?_map, hx]; rfl)
        clear r
        by_cases e : v = x
        · subst e
          have HM := Lib.hid (List.mem_of_getElem? hx)
          clear hno hx
          go_wp2
          go_ret
          exact ⟨j, rfl, ⟨fun _ => HM.out, fun _ => by omega⟩, rfl⟩
        · have hb : (v == x) = false := beq_eq_false_iff_ne.2 e
          have HN := Lib.hid (fun (i : Nat) (y : Int) (hi : i < j + 1) (hy : l[i]? = some y) => (show y ≠ v by
            by_cases e2 : i = j
            · subst e2
              rw [hx] at hy
              rw [← Option.some.inj hy]; exact fun e3 => e e3.symm
            · exact hno i y (by omega) hy))
          clear hno hx e
          go_wp2
          go_roundw
          case rel => exact ⟨j + 1, by go_num, by omega, HN.out, trivial⟩
          case measure => simp [intOf]; omega
    · have HN := Lib.hid (fun (hm : v ∈ l) => (show False by
        obtain ⟨i, hi, he⟩ := List.getElem_of_mem hm
        exact hno i v (by omega) (by rw [List.getElem?_eq_getElem hi, he]) rfl))
      clear hno h
      go_wp2
      go_ret
      exact ⟨-1, rfl, ⟨fun h => absurd h (by decide), fun h => (HN.out h).elim⟩, rfl⟩
theorem contains_any {ao : Option Addr} {c : Nat} {l : List Int} (h : SlAt W ao c l) (hl : l.length ≤ 1000000000) (v : Int) :
    Calls Tryd.prog 107 #[.slice ao l.length c, .int .i64 v] W fun e w' => e = .returned (.bool (decide (v ∈ l))) ∧ w' = W := by
  have hi := index_any h hl v
  generalize hn : l.length = n at hi ⊢
  clear hn
  go_enter Tryd.func107, Tryd.ntmps107
  go_wp2_with fail
  refine hi.mono ?_
  rintro e w' ⟨i, rfl, hm, rfl⟩
  have e : decide (0 ≤ i) = decide (v ∈ l) := decide_eq_decide.2 hm
  have HE := Lib.hid e
  clear e hm
  go_wp2
  go_ret
  exact ⟨by rw [← HE.out]; rfl, rfl⟩
theorem SlAt.nil : SlAt W none 0 [] := .inl ⟨rfl, rfl, rfl⟩
/-- what is to go -/
def goneL (o : Option Opn) : List Int := match o with
  | none => []
  | some x => x.gone
def madeL (o : Option Opn) : List Int := match o with
  | none => []
  | some x => x.made
/-- is a page to go? -/
theorem gone_any (h : PoolAt W P D FB M q) (v : Int) : ∃ (ao : Option Addr) (n c : Nat), vGone q.op = .slice ao n c ∧ Calls Tryd.prog 107 #[.slice ao n c, .int .i64 v] W fun e w' => e = .returned (.bool (decide (v ∈ goneL q.op))) ∧ w' = W := by
  have ho := h.op
  cases hq : q.op with
  | none => exact ⟨none, 0, 0, rfl, contains_any (SlAt.nil (W := W)) (by decide) v⟩
  | some x => exact ⟨x.go, _, x.gc, rfl, contains_any (ho x hq).gone (ho x hq).few.2.2 v⟩
/-- the pool's own numbers turn -/
theorem PD.own (h : PD E W P D FB M q d cnt) {hand : Nat} {pins : Int} (ho : Only P W W') (hb : Box W' P (pcells D FB q.frames.length M hand pins q.op)) : PD E W' P D FB M { frames := q.frames, hand := hand, pins := pins, op := q.op } d cnt ∧ Kept E W W' := by
  have hp := h.pool
  obtain ⟨f, hf, hm⟩ := hp.map
  refine h.moves (q' := { frames := q.frames, hand := hand, pins := pins, op := q.op }) (Moves.of_only ho (.inl rfl)) ⟨hb, hp.frs.only ho hp.PF.symm, ⟨f, hf, hm.only ho hp.PM.symm⟩, fun i g hi => ?_, hp.PF, hp.PM, hp.FM, hp.off, hp.two, hp.op.of_block ho.size (fun k hk => ho.block k (hp.op.lt hk) (hp.opOff k hk).1), hp.opOff, hp.opTwo, hp.tab⟩
  have h1 := hp.off i (some g) g.blk hi (.inl rfl)
  have h2 := hp.off i (some g) g.db hi (.inr rfl)
  exact (hp.each i g hi).of_block (ho.block _ (hp.ltF hi (.inl rfl)) h1.1) (ho.block _ (hp.ltF hi (.inr rfl)) h2.1)
/-- where the hand stands -/
def handN (n : Int) (k : Nat) : Nat := (n % (k : Int)).toNat
theorem handN_is (n : Int) (k : Nat) (hk : 0 < k) : n.tmod k % (k : Int) = (handN n k : Int) ∧ handN n k < k ∧ -(k : Int) < n.tmod k ∧ n.tmod k < k := by
  have h1 := Int.emod_nonneg n (show (k : Int) ≠ 0 by omega)
  have h2 := Int.emod_lt_of_pos n (show (0 : Int) < k by omega)
  have h3 : n.tmod k = if 0 ≤ n ∨ n % k = 0 then n % k else n % k - k := by
    rw [Int.tmod_eq_emod]
    by_cases hh : 0 ≤ n ∨ (k : Int) ∣ n
    · rw [if_pos hh, if_pos (by rcases hh with a | a; exact .inl a; exact .inr (Int.emod_eq_zero_of_dvd a))]; omega
    · rw [if_neg hh, if_neg (by rintro (a | a); exact hh (.inl a); exact hh (.inr (Int.dvd_of_emod_eq_zero a)))]; omega
  refine ⟨?_, by unfold handN; omega, ?_, ?_⟩
  · have h4 : n.tmod k % (k : Int) = n % k := by
      rw [h3]
      split
      · exact Int.emod_emod_of_dvd n (Int.dvd_refl _)
      · rw [Int.sub_emod_right]; exact Int.emod_emod_of_dvd n (Int.dvd_refl _)
    rw [h4]; unfold handN; omega
  · rw [h3]; split <;> omega
  · rw [h3]; split <;> omega
theorem hand_any (h : PD E W P D FB M q d cnt) (o : PlOk q) (n : Int) :
    Calls Tryd.prog 55 #[.pointer (some ⟨P, 0, none⟩), .int .i64 n] W fun e w' => e = .returned (.tuple #[]) ∧ PD E w' P D FB M { q with hand := handN n q.frames.length } d cnt ∧ Kept E W w' := by
  have hb := h.pool.box
  have c1 := hb.cell 1 _ rfl
  have c3 := hb.cell 3 _ rfl
  have f3 := hb.free 3
  have hb2 := hb.set 3 (.int .i64 (handN n q.frames.length : Nat))
  have hpd := h.own ((Only.refl P W).set 3 (.int .i64 (handN n q.frames.length : Nat))) (hand := handN n q.frames.length) (pins := q.pins) hb2
  have hk := o.few
  have hh := o.hand
  obtain ⟨h1, h2, h3, h4⟩ := handN_is n q.frames.length (by omega)
  have hk0 : 1 ≤ q.frames.length := by omega
  generalize q.frames.length = k at *
  have H1 := Lib.hid h1
  clear h1
  generalize handN n k = hn at *
  have h5 : 0 ≤ n.tmod k + k := by omega
  clear hb hb2
  go_enter Tryd.func55, Tryd.ntmps55
  go_wp2
  rw [H1.out]
  go_end0
  exact ⟨rfl, hpd.1, hpd.2⟩
end
end Go.Proofs.YtjfkdfffolkblaaDoor
namespace Go.Proofs.YtjfkdfffolkblaaDoor
open Go.RowKit
open UK (str BytesAt nth Only Row Box IntMap)
open Go.BigFrame
section
variable {E : Nat → Prop} {W W' : World} {P D FB M cnt k : Nat} {q : Pl} {d d' : Dk}
/-- the same frame, otherwise marked -/
structure Same (f g : Fr) : Prop where
  blk : g.blk = f.blk
  db : g.db = f.db
  cap : g.cap = f.cap
  page : g.page = f.page
  data : g.data = f.data
theorem Same.frB {f g : Fr} (h : Same f g) (j : Nat) : frB (some g) j ↔ frB (some f) j := by
  show (j = g.blk ∨ j = g.db) ↔ (j = f.blk ∨ j = f.db)
  rw [h.blk, h.db]
/-- one frame's marks turn -/
theorem PD.flag (h : PD E W P D FB M q d cnt) {i : Nat} {f g : Fr} (hi : q.frames[i]? = some (some f)) (hs : Same f g) (ho : Only f.blk W W') (hb : Box W' f.blk (fcells P g)) : PD E W' P D FB M { q with frames := q.frames.set i (some g) } d cnt ∧ Kept E W W' := by
  have hp := h.pool
  have hl := (List.getElem?_eq_some_iff.1 hi).1
  obtain ⟨mf, hf, hm⟩ := hp.map
  have hoff := hp.off i (some f) f.blk hi (.inl rfl)
  have hfr := hp.each i f hi
  have hc : cntF (q.frames.set i (some g)) = cntF q.frames := by
    have := cntF_set q.frames i (some f) (some g) hi
    simpa using this
  have hlt := hp.ltF hi (.inl rfl)
  refine h.moves (q' := { q with frames := q.frames.set i (some g) }) ⟨ho.os, ho.tape, ho.output, ho.size, fun j hj hn => ho.block j hj (fun e => hn (e ▸ .inr (.inr (.inr (.inr ⟨i, some f, hi, .inl rfl⟩))))), fun j hj => .inl ?_⟩ ?_
  · rcases PBlk.setF (n := W.heap.size) hi (fun j hj => .inl ((hs.frB j).1 hj)) hj with h1 | h1
    · exact h1
    · exfalso
      have : PBlk P FB M q.frames q.op j := by
        rcases hj with a | a | a | a | ⟨b, u, hb2, hk⟩
        · exact .inl a
        · exact .inr (.inl a)
        · exact .inr (.inr (.inl a))
        · exact .inr (.inr (.inr (.inl a)))
        · have hb2 : (q.frames.set i (some g))[b]? = some u := hb2
          rw [get_set _ _ _ _ hl] at hb2
          by_cases e : i = b
          · rw [if_pos e] at hb2
            rw [← Option.some.inj hb2] at hk
            exact .inr (.inr (.inr (.inr ⟨i, some f, hi, (hs.frB j).1 hk⟩)))
          · rw [if_neg e] at hb2
            exact .inr (.inr (.inr (.inr ⟨b, u, hb2, hk⟩)))
      have := hp.lt this
      omega
  · refine hp.setF hi h.dd.tab.lt (hp.box.of_block (ho.block _ hp.box.lt hoff.1.symm)) ho.size (fun k hk => ho.block k (hp.op.lt hk) (fun e => hp.opTwo i (some f) _ hi (.inl rfl) (e ▸ hk))) ?_ ⟨mf, hf.turn hi hs.page, by rw [hc]; exact hm.only ho hoff.2.2.symm⟩ (fun j u b hj hu hb2 => ?_) (fun g' hg' => ?_) (fun j hj => .inl ((hs.frB j).1 hj))
    · rw [map_set_same _ _ _ _ hi (by unfold ptrOf; simp only; rw [hs.blk])]
      exact hp.frs.only ho hoff.2.1.symm
    · have hlt2 := hp.ltF hu hb2
      refine ho.block b hlt2 (fun e => ?_)
      subst e
      exact hp.two i j (some f) u _ (Ne.symm hj) hi hu (.inl rfl) hb2
    · obtain rfl := Option.some.inj hg'
      obtain ⟨y, a, b, c⟩ := hfr.bytes
      exact ⟨by rw [hs.blk]; exact hb, ⟨y, by rw [hs.db]; exact ho.bytes a hfr.ne.symm, by rw [hs.cap]; exact b, by rw [hs.data]; exact c⟩, by rw [hs.data]; exact hfr.len, by rw [hs.cap]; exact hfr.cap, by rw [hs.page]; exact hfr.page, by rw [hs.blk, hs.db]; exact hfr.ne⟩
theorem PD.frame (h : PD E W P D FB M q d cnt) {i : Nat} {o : Option Fr} (hi : q.frames[i]? = some o) : W.cell? ⟨FB, i, none⟩ = some (ptrOf o) := h.pool.frs.at' i _ (ptrOf_at _ _ _ hi)
theorem exit_world {Q : Exit → Act → World → Prop} {a : Act} {w : World} (R : World → Prop) (hR : R w) (h : ∀ w', R w' → Q .normal a w') : Q .normal a w := h w hR
/-- behind the hand's way -/
def swept (q : Pl) (r : Option Nat × List (Option Fr) × Nat) : Pl := { frames := r.2.1, hand := r.2.2, pins := q.pins, op := q.op }
def vicV (r : Option Nat) : Int := match r with
  | none => -1
  | some i => i
/-- on the hand's way -/
def OnSweep (E : Nat → Prop) (W wr : World) (P D FB M : Nat) (q : Pl) (d : Dk) (cnt : Nat) (ix : Value) : Prop :=
  ∃ (m : Nat) (l : List (Option Fr)) (h : Nat), ix = .int .i64 m ∧ m ≤ 2 * q.frames.length ∧ Hid (sweep (2 * q.frames.length) q.frames q.hand = sweep (2 * q.frames.length - m) l h) ∧ PD E wr P D FB M { frames := l, hand := h, pins := q.pins, op := q.op } d cnt ∧ Kept E W wr ∧ Hid (l.length = q.frames.length) ∧ h < q.frames.length
set_option maxHeartbeats 2000000 in
set_option maxRecDepth 100000 in
theorem victim_any (h : PD E W P D FB M q d cnt) (o : PlOk q) :
    Calls Tryd.prog 128 #[.pointer (some ⟨P, 0, none⟩)] W fun e w' => e = .returned (.int .i64 (vicV (sweep (2 * q.frames.length) q.frames q.hand).1)) ∧ PD E w' P D FB M (swept q (sweep (2 * q.frames.length) q.frames q.hand)) d cnt ∧ Kept E W w' := by
  have hb := h.pool.box
  have c1 := hb.cell 1 _ rfl
  have hk := o.few
  have hh := o.hand
  clear hb
  go_enter Tryd.func128, Tryd.ntmps128
  go_wp2_with fail
  go_loopw [11] (fun ix wr => OnSweep E W wr P D FB M q d cnt ix) (fun ix _ => 2001 - (intOf ix).toNat)
  case atStart => exact ⟨0, q.frames, q.hand, rfl, Nat.zero_le _, rfl, h, Kept.refl _ _, rfl, hh⟩
  case round =>
    clear h
    obtain ⟨m, l, h, rfl, hm, HS, p1, k1, HL, hhk⟩ := hrel
    have hb := p1.pool.box
    have HL2 := HL.out
    have hpc : pcells D FB l.length M h q.pins q.op = pcells D FB q.frames.length M h q.pins q.op := by rw [HL2]
    simp only at hb
    rw [hpc] at hb
    have c1 := hb.cell 1 _ rfl
    have c3 := hb.cell 3 _ rfl
    have f3 := hb.free 3
    by_cases hlt : m < 2 * q.frames.length
    · obtain ⟨n, hn⟩ : ∃ n, 2 * q.frames.length - m = n + 1 := ⟨2 * q.frames.length - m - 1, by omega⟩
      have hn2 : 2 * q.frames.length - (m + 1) = n := by omega
      rw [hn] at HS
      obtain ⟨o1, ho1⟩ : ∃ o1, l[h]? = some o1 := ⟨_, List.getElem?_eq_getElem (by omega)⟩
      have p2 := p1.own ((Only.refl P wr).set 3 (.int .i64 (((h + 1) % l.length : Nat) : Int))) (hand := (h + 1) % l.length) (pins := q.pins) (by
        have := hb.set 3 (.int .i64 (((h + 1) % l.length : Nat) : Int))
        rw [show l.length = q.frames.length from HL2]
        rw [show l.length = q.frames.length from HL2] at this
        exact this)
      have k2 := k1.trans p2.2
      have HM : Hid (((h : Int) + 1) % (q.frames.length : Int) = (((h + 1) % l.length : Nat) : Int)) := by show _ = _; rw [HL2, Int.natCast_emod, Int.natCast_add]; rfl
      have hmod : (h + 1) % l.length < q.frames.length := by rw [HL2]; exact Nat.mod_lt _ (by omega)
      go_wp2_with fail
      go_region
      rw [HM.out]
      refine exit_world (fun w' => PD E w' P D FB M { frames := l, hand := (h + 1) % l.length, pins := q.pins, op := q.op } d cnt ∧ Kept E W w') ⟨p2.1.next (Below.refl _ _).drew, k2.trans (Kept.of_below (Below.refl _ _).drew (fun j hj => p2.1.dd.there j (.inl hj)))⟩ ?_
      clear p2 k2 c1 c3 f3 hb p1 k1 HM
      rintro w2 ⟨p2, k2⟩
      have cf := p2.frame ho1
      have c1 := p2.pool.box.cell 1 _ rfl
      simp only at c1
      rw [HL2] at c1
      have HN2 := Lib.hid hn2
      clear hn hn2 hpc HL2
      cases o1 with
      | none =>
        have HSW : Hid (sweep (2 * q.frames.length) q.frames q.hand = (some h, l, (h + 1) % l.length)) := HS.out.trans (sweep_none n ho1)
        clear HS
        generalize (h + 1) % l.length = h2 at p2 HSW hmod
        simp only [ptrOf] at cf
        go_wp2
        go_ret
        exact ⟨by rw [HSW.out] <;> rfl, by rw [HSW.out]; exact p2, k2⟩
      | some f =>
        have HSW : Hid (sweep (2 * q.frames.length) q.frames q.hand = _) := HS.out.trans (sweep_some n ho1)
        clear HS
        generalize (h + 1) % l.length = h2 at p2 HSW hmod
        simp only [ptrOf] at cf
        have hfr := p2.pool.each h f ho1
        have c3 : w2.cell? ⟨f.blk, 3, none⟩ = some (.int .i64 f.pins) := hfr.box.cell 3 _ rfl
        have c4 : w2.cell? ⟨f.blk, 4, none⟩ = some (.bool f.used) := hfr.box.cell 4 _ rfl
        have f4 := hfr.box.free 4
        by_cases hp : 0 < f.pins
        · have HE : Hid (sweep (2 * q.frames.length) q.frames q.hand = sweep (2 * q.frames.length - (m + 1)) l h2) := by show _ = _; rw [HSW.out, if_pos hp, HN2.out]
          clear HSW
          generalize f.pins = fp at c3 hp
          go_wp2
          go_roundw
          case rel => exact ⟨m + 1, l, h2, by go_num, by omega, HE, p2, k2, HL, hmod⟩
          case measure => simp [intOf]; omega
        · have hbx := hfr.box.set 4 (.bool false)
          have hset := p2.flag (g := { f with used := false }) ho1 ⟨rfl, rfl, rfl, rfl, rfl⟩ ((Only.refl f.blk w2).set 4 (.bool false)) hbx
          cases hu : f.used
          · have HE : Hid (sweep (2 * q.frames.length) q.frames q.hand = (some h, l, h2)) := by show _ = _; rw [HSW.out, if_neg hp, hu]; rfl
            rw [hu] at c4
            clear HSW hset hbx hu
            generalize f.pins = fp at c3 hp
            go_wp2
            go_ret
            exact ⟨by rw [HE.out] <;> rfl, by rw [HE.out]; exact p2, k2⟩
          · have HE : Hid (sweep (2 * q.frames.length) q.frames q.hand = sweep (2 * q.frames.length - (m + 1)) (l.set h (some { f with used := false })) h2) := by show _ = _; rw [HSW.out, if_neg hp, if_pos hu, HN2.out]
            rw [hu] at c4
            have hk3 := k2.trans hset.2
            have hp3 := hset.1
            have HL3 : Hid ((l.set h (some { f with used := false })).length = q.frames.length) := by show _ = _; rw [List.length_set]; exact HL.out
            clear HSW hset hbx hu
            generalize f.pins = fp at c3 hp
            go_wp2
            go_roundw
            case rel => exact ⟨m + 1, _, h2, by go_num, by omega, HE, hp3, hk3, HL3, hmod⟩
            case measure => simp [intOf]; omega
    · have HE : Hid (sweep (2 * q.frames.length) q.frames q.hand = (none, l, h)) := by
        show _ = _
        rw [HS.out, show 2 * q.frames.length - m = 0 by omega]; rfl
      go_wp2
      go_ret
      exact ⟨by rw [HE.out] <;> rfl, by rw [HE.out]; exact p1, k1⟩
end
end Go.Proofs.YtjfkdfffolkblaaDoor
