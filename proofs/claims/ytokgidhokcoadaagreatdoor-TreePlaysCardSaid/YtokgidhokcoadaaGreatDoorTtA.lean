/-
  What a pool that is under way keeps of what it was ahead of that, in plain words. The pool: Begin, end, Commit. The pool: Commit.
  tabularlaw08.Does: begin, commit, undo.
  tabularlaw08.Does: commit.
-/
import Derived.Test.YtokgidhokcoadaaGreatDoorPoolJ
import Derived.Test.YtokgidhokcoadaaGreatDoorTsY
namespace Go.Proofs.YtokgidhokcoadaaGreatDoor
namespace AP
variable {A A0 B X : AP} {o : AO}
def In (A : AP) (p : Nat) : Prop := 1 ≤ p ∧ p < A.cnt ∧ p ∉ A.free
def shutA (A : AP) : AP := { A with op := none }
theorem has_shut (h : A.op = none) (p : Nat) : A.Has p ↔ A.In p := by
  have hg : A.goneL = [] := by unfold AP.goneL; rw [h]
  unfold AP.Has AP.In
  rw [hg]
  exact ⟨fun ⟨a, b, c, _⟩ => ⟨a, b, c⟩, fun ⟨a, b, c⟩ => ⟨a, b, c, List.not_mem_nil⟩⟩
theorem Has.in_ {p : Nat} (h : A.Has p) : A.In p := ⟨h.1, h.2.1, h.2.2.1⟩
theorem Good.shutA (h : A.Good) : A.shutA.Good := ⟨h.one, h.most, h.few, h.nod, h.free, List.nodup_nil, fun _ hg => absurd hg List.not_mem_nil⟩
theorem Good.take_in (h : A.Good) (hf : ¬ A.Full) : (∀ p, A.take.In p ↔ A.In p ∨ p = A.next) ∧ A.take.rooms + 1 = A.rooms ∧ ¬ A.In A.next := by
  have hf' : ¬ A.shutA.Full := hf
  obtain ⟨_, h2, h3⟩ := h.shutA.take hf'
  refine ⟨fun p => ?_, h3, fun hi => (h.shutA.next hf').1 ((has_shut rfl _).2 hi)⟩
  have := h2 p
  rw [has_shut rfl p, has_shut (A := A.shutA) rfl p] at this
  exact this
structure Since (A0 B : AP) (o : AO) : Prop where
  shut : A0.op = none
  op : B.op = some o
  good : B.Good
  most : B.most = A0.most
  nod : o.made.Nodup
  made : ∀ g, g ∈ o.made → ∃ m : Nat, g = m ∧ ¬ A0.Has m
  has : ∀ p : Nat, B.In p ↔ A0.Has p ∨ (p : Int) ∈ o.made
  was : ∀ (p : Int) (s : List UInt8), o.was p = some s → ∃ m : Nat, p = m ∧ A0.Has m ∧ s = A0.c m
  same : ∀ m : Nat, A0.Has m → o.was m = none → B.c m = A0.c m
  rooms : B.rooms + o.made.length = A0.rooms
def SinceX (A0 B : AP) : Prop := ∃ o, Since A0 B o
def begun (A : AP) : AP := { A with op := some { was := fun _ => none, made := [], gone := [] } }
theorem Good.begun (h : A.Good) : A.begun.Good := ⟨h.one, h.most, h.few, h.nod, h.free, List.nodup_nil, fun _ hg => absurd hg List.not_mem_nil⟩
theorem Since.start (h : A.Good) (hs : A.op = none) : SinceX A A.begun :=
  ⟨_, hs, rfl, h.begun, rfl, List.nodup_nil, fun _ hg => absurd hg List.not_mem_nil, fun p => ⟨fun hi => .inl ((has_shut hs p).2 hi), fun hh => hh.elim (fun h => (has_shut hs p).1 h) (fun h => absurd h List.not_mem_nil)⟩, fun _ _ h => (by cases h), fun _ _ _ => rfl, rfl⟩
theorem Since.put (h : Since A0 B o) {p : Nat} (hp : A0.Has p → o.was p ≠ none) (s : List UInt8) : Since A0 (B.put p s) o :=
  ⟨h.shut, h.op, ⟨h.good.one, h.good.most, h.good.few, h.good.nod, h.good.free, h.good.gnod, h.good.gone⟩, h.most, h.nod, h.made, h.has, h.was, fun m hm hw => by
    show setC B.c p s m = _
    unfold setC
    by_cases e : p = m
    · subst e; exact absurd hw (hp hm)
    · rw [if_neg e]; exact h.same m hm hw, h.rooms⟩
theorem Since.keep (h : Since A0 B o) {p : Nat} (hp : B.Has p) : ∃ o', Since A0 (B.keep p) o' ∧ (A0.Has p → o'.was p ≠ none) := by
  by_cases hc : (p : Int) ∈ o.made ∨ (o.was p).isSome = true
  · have e : B.keep p = B := by
      unfold AP.keep
      rw [h.op]
      show { B with op := some (if _ then _ else _) } = B
      rw [if_pos hc, ← h.op]
    rw [e]
    refine ⟨o, h, fun hh hn => ?_⟩
    rcases hc with hc | hc
    · obtain ⟨m, e, hm⟩ := h.made _ hc
      have : p = m := by omega
      exact hm (this ▸ hh)
    · rw [hn] at hc; cases hc
  · have e : B.keep p = { B with op := some { o with was := fun j => if j = p then some (B.c p) else o.was j } } := by
      unfold AP.keep
      rw [h.op]
      show { B with op := some (if _ then _ else _) } = _
      rw [if_neg hc]
    have hA : A0.Has p := ((h.has p).1 hp.in_).resolve_right (fun hm => hc (.inl hm))
    have hw : o.was p = none := by
      cases hw : o.was p with
      | none => rfl
      | some s => exact absurd (.inr (by rw [hw]; rfl)) hc
    have hcp := h.same p hA hw
    rw [e]
    refine ⟨_, ⟨h.shut, rfl, ?_, h.most, h.nod, h.made, h.has, fun q s hq => ?_, fun m hm hn => ?_, h.rooms⟩, fun _ hn => ?_⟩
    · have hg := h.good.keep p
      rw [e] at hg
      exact hg
    · replace hq : (if q = (p : Int) then some (B.c p) else o.was q) = some s := hq
      by_cases eq : q = (p : Int)
      · rw [if_pos eq] at hq
        exact ⟨p, eq, hA, (Option.some.inj hq).symm.trans hcp⟩
      · rw [if_neg eq] at hq
        exact h.was q s hq
    · replace hn : (if (m : Int) = (p : Int) then some (B.c p) else o.was m) = none := hn
      by_cases eq : (m : Int) = (p : Int)
      · rw [if_pos eq] at hn; cases hn
      · rw [if_neg eq] at hn
        exact h.same m hm hn
    · replace hn : (if (p : Int) = (p : Int) then some (B.c p) else o.was p) = none := hn
      rw [if_pos rfl] at hn; cases hn
theorem since_moves (A0 : AP) : AP.Moves (SinceX A0) := by
  refine ⟨fun X p s ⟨o, h⟩ hp => ?_, fun X p ⟨o, h⟩ hp => ?_, fun X ⟨o, h⟩ hf => ?_, fun X p ⟨o, h⟩ hp => ?_⟩
  · obtain ⟨o', h', hw⟩ := h.keep hp
    exact ⟨o', h'.put hw s⟩
  · obtain ⟨o', h', _⟩ := h.keep hp
    exact ⟨o', h'⟩
  · obtain ⟨t1, t2, t3⟩ := h.good.take_in hf
    have hnm : (X.next : Int) ∉ o.made := fun hm => t3 ((h.has _).2 (.inr hm))
    have hnA : ¬ A0.Has X.next := fun hm => t3 ((h.has _).2 (.inl hm))
    refine ⟨{ o with made := o.made ++ [(X.next : Int)] }, h.shut, by show X.op.map _ = _; rw [h.op]; rfl, (h.good.take hf).1, h.most, ?_, fun g hg => ?_, fun p => ?_, h.was, fun m hm hn => ?_, ?_⟩
    · exact List.nodup_append.2 ⟨h.nod, List.pairwise_singleton _ _, fun a ha b hb => by rw [List.mem_singleton.1 hb]; exact fun e => hnm (e ▸ ha)⟩
    · rcases List.mem_append.1 hg with hg | hg
      · exact h.made g hg
      · exact ⟨X.next, List.mem_singleton.1 hg, hnA⟩
    · show _ ↔ _ ∨ (p : Int) ∈ o.made ++ [(X.next : Int)]
      rw [t1, h.has, List.mem_append, List.mem_singleton]
      constructor
      · rintro ((a | a) | a)
        · exact .inl a
        · exact .inr (.inl a)
        · exact .inr (.inr (by rw [a]))
      · rintro (a | a | a)
        · exact .inl (.inl a)
        · exact .inl (.inr a)
        · exact .inr (by omega)
    · show setC X.c X.next (UK.zeros 504) m = _
      unfold setC
      rw [if_neg (fun e : X.next = m => hnA (by rw [e]; exact hm))]
      exact h.same m hm hn
    · show X.take.rooms + (o.made ++ [(X.next : Int)]).length = _
      rw [List.length_append, List.length_singleton, ← h.rooms]
      omega
  · have e : X.give p = { X with op := some { o with gone := o.gone ++ [(p : Int)] } } := by unfold AP.give; rw [h.op]
    have hg := (h.good.give hp).1
    rw [e] at hg ⊢
    exact ⟨_, h.shut, rfl, hg, h.most, h.nod, h.made, h.has, h.was, h.same, h.rooms⟩
theorem Reach.since {A0 B C : AP} (h : SinceX A0 B) (r : B.Reach C) : SinceX A0 C := r _ (since_moves A0) h
structure Undone (A0 C : AP) : Prop where
  op : C.op = none
  good : C.Good
  has : ∀ p, C.Has p ↔ A0.Has p
  c : ∀ p, A0.Has p → C.c p = A0.c p
  rooms : C.rooms = A0.rooms
  most : C.most = A0.most
theorem nodup_in_le : ∀ (l m : List Nat), l.Nodup → (∀ x, x ∈ l → x ∈ m) → l.length ≤ m.length
  | [], m, _, _ => Nat.zero_le _
  | a :: l, m, h, hs => by
    obtain ⟨h1, h2⟩ := List.nodup_cons.1 h
    have ha := hs a (List.mem_cons_self ..)
    have := nodup_in_le l (m.erase a) h2 (fun x hx => (List.mem_erase_of_ne (show x ≠ a from fun e => h1 (e ▸ hx))).2 (hs x (List.mem_cons_of_mem _ hx)))
    rw [List.length_erase_of_mem ha] at this
    have hm : 0 < m.length := List.length_pos_of_mem ha
    rw [List.length_cons]
    omega
theorem len_ints {l : List Int} {n : Nat} (hn : l.Nodup) (h : ∀ g, g ∈ l → ∃ m : Nat, g = m ∧ m < n) : l.length ≤ n := by
  have h1 : (l.map Int.toNat).Nodup := by
    refine List.pairwise_map.2 (List.Pairwise.imp_of_mem (fun {a b} ha hb hne e => ?_) hn)
    obtain ⟨m, rfl, _⟩ := h a ha
    obtain ⟨k, rfl, _⟩ := h b hb
    exact hne (by have e : m = k := e; rw [e])
  have h3 := nodup_in_le (l.map Int.toNat) (List.range n) h1 (fun x hx => by
    obtain ⟨g, hg, rfl⟩ := List.mem_map.1 hx
    obtain ⟨m, rfl, hm⟩ := h g hg
    rw [List.mem_range]; simpa using hm)
  rw [List.length_map, List.length_range] at h3
  exact h3
theorem Since.made_in (h : Since A0 B o) {g : Int} (hg : g ∈ o.made) : ∃ m : Nat, g = m ∧ 1 ≤ m ∧ m < B.cnt := by
  obtain ⟨m, rfl, _⟩ := h.made g hg
  have := (h.has m).2 (.inr hg)
  exact ⟨m, rfl, this.1, this.2.1⟩
theorem Since.made_len (h : Since A0 B o) : o.made.length ≤ 60000 := by
  have h1 := len_ints h.nod (fun g hg => (h.made_in hg).imp fun m ⟨a, _, b⟩ => ⟨a, b⟩)
  have := h.good.most
  have := h.good.few
  omega
end AP
end Go.Proofs.YtokgidhokcoadaaGreatDoor
namespace Go.Proofs.YtokgidhokcoadaaGreatDoor
open Go.RowKit
open UK (str BytesAt nth Only Row Box IntMap StrMap)
open Go.BigFrame
section
variable {E : Nat → Prop} {W W' : World} {P D FB M cnt k n : Nat} {kp : Int} {q : Pl} {d d' : Dk} {c : Nat → List UInt8} {A B : AP} {o : AO}
theorem PD.letGo (h : PD E W P D FB M q d cnt) (ho : Only P W W') (hb : Box W' P (pcells D FB q.frames.length M q.hand q.pins none)) :
    PD (fun j => E j ∨ opB q.op j) W' P D FB M { frames := q.frames, hand := q.hand, pins := q.pins, op := none } d cnt ∧ Kept (fun j => E j ∨ opB q.op j) W W' := by
  have hp := h.pool
  have hEl := fun j (hj : E j) => h.dd.there j (.inl hj)
  have hOl := fun j (hj : opB q.op j) => hp.lt (.inr (.inr (.inr (.inl hj))))
  have hEP : ∀ j, E j → j ≠ P := fun j hj e => h.far j hj (.inl e)
  obtain ⟨h1, _⟩ := h.setOp (op' := none) ho.os ho.tape ho.output ho.size hb (fun x hx => by cases hx) (fun j hj => absurd hj id) (fun j hj hn _ => ho.block j hj hn)
  refine ⟨⟨h1.pool, ?_, fun j hj hn => ?_⟩, ⟨ho.os, ho.tape, ho.output, ho.size, fun j hj => ?_⟩⟩
  · refine h.dd.over (R := fun j => j = P) (fun j hj => .inr (.inl hj)) (fun e => ?_) ho.size (fun j hj hn => ho.block j hj hn) (fun j hj => .inl ?_)
    · exact hp.tab P (.inl rfl) e
    · rcases hj with (hj | hj) | hj
      · exact .inl hj
      · exact .inr (.inr (.inr (.inr (.inl hj))))
      · rcases hj with hj | hj | hj | hj | hj
        · exact .inr (.inl hj)
        · exact .inr (.inr (.inl hj))
        · exact .inr (.inr (.inr (.inl hj)))
        · exact absurd hj id
        · exact .inr (.inr (.inr (.inr (.inr hj))))
  · rcases hj with hj | hj
    · refine h.far j hj ?_
      rcases hn with hn | hn | hn | hn | hn
      · exact .inl hn
      · exact .inr (.inl hn)
      · exact .inr (.inr (.inl hn))
      · exact absurd hn id
      · exact .inr (.inr (.inr (.inr hn)))
    · obtain ⟨a, b, e⟩ := hp.opOff j hj
      rcases hn with hn | hn | hn | hn | ⟨i, f, hi, hn⟩
      · exact a hn
      · exact b hn
      · exact e hn
      · exact hn
      · exact hp.opTwo i f j hi hn hj
  · rcases hj with hj | hj
    · exact ho.block j (hEl j hj) (hEP j hj)
    · exact ho.block j (hOl j hj) (hp.opOff j hj).1
set_option maxRecDepth 100000 in
theorem pend_any (h : PS E W P D FB M n kp q d cnt k c) :
    Calls Tryz.prog 120 #[.pointer (some ⟨P, 0, none⟩)] W fun e w' => e = .returned (.tuple #[]) ∧ PS (fun j => E j ∨ opB q.op j) w' P D FB M n kp { frames := q.frames, hand := q.hand, pins := q.pins, op := none } d cnt k c ∧ Kept (fun j => E j ∨ opB q.op j) W w' := by
  have hx := h.pd.pool.box
  have hf := hx.free
  have c5 := hx.cell 5 _ rfl
  have c6 := hx.cell 6 _ rfl
  have c7 := hx.cell 7 _ rfl
  have c8 := hx.cell 8 _ rfl
  have hb := ((((hx.set 5 (.bool false)).set 6 (.map none)).set 7 (.slice none 0 0)).set 8 (.slice none 0 0))
  have ho : Only P W _ := (((((Only.refl P W).set 5 (.bool false)).set 6 (.map none)).set 7 (.slice none 0 0)).set 8 (.slice none 0 0))
  have HX := Lib.hid (And.intro h (And.intro hb ho))
  generalize vOpen q.op = x5 at c5
  generalize vWas q.op = x6 at c6
  generalize vMade q.op = x7 at c7
  generalize vGone q.op = x8 at c8
  clear h hx hb ho
  go_enter Tryz.func120, Tryz.ntmps120
  go_wp2_with fail
  go_end0
  obtain ⟨h, hb, ho⟩ := HX.out
  obtain ⟨p4, k4⟩ := h.pd.letGo ho hb
  exact ⟨rfl, ⟨p4, ⟨h.ok.pins, h.ok.pos, h.ok.hand, h.ok.few⟩, h.dok, h.held, h.pins, h.len, h.calm.same _ _ _, fun x hx => by cases hx⟩, k4⟩
set_option maxRecDepth 100000 in
theorem pz_begin_no (h : PZ E W P D A k) (ho : A.op ≠ none) :
    Calls Tryz.prog 41 #[.pointer (some ⟨P, 0, none⟩)] W fun e w' => e = .returned (.int .i64 14) ∧ w' = W := by
  obtain ⟨FB, M, n, q, d, h1, hn, his⟩ := h
  have c5 : W.cell? ⟨P, 5, none⟩ = some (.bool true) := by
    rw [h1.pd.pool.box.cell 5 _ rfl]
    have := his.op
    cases hq : q.op with
    | none => rw [hq] at this; exact absurd this.symm ho
    | some x => rfl
  clear h1 his
  go_enter Tryz.func41, Tryz.ntmps41
  go_wp2
  go_ret
  exact ⟨rfl, rfl⟩
set_option maxRecDepth 100000 in
theorem pz_begin (h : PZ E W P D A k) (ho : A.op = none) :
    Calls Tryz.prog 41 #[.pointer (some ⟨P, 0, none⟩)] W fun e w' => e = .returned (.int .i64 0) ∧ PZ E w' P D A.begun k ∧ Kept E W w' := by
  obtain ⟨FB, M, n, q, d, h1, hn, his⟩ := h
  have hq : q.op = none := by
    have := his.op
    cases hq : q.op with
    | none => rfl
    | some x => rw [hq, ho] at this; cases this
  have hx := h1.pd.pool.box
  have hf := hx.free
  have c5 : W.cell? ⟨P, 5, none⟩ = some (.bool false) := by rw [hx.cell 5 _ rfl, hq]; rfl
  have c6 : W.cell? ⟨P, 6, none⟩ = some (.map none) := by rw [hx.cell 6 _ rfl, hq]; rfl
  have c7 : W.cell? ⟨P, 7, none⟩ = some (.slice none 0 0) := by rw [hx.cell 7 _ rfl, hq]; rfl
  have c8 : W.cell? ⟨P, 8, none⟩ = some (.slice none 0 0) := by rw [hx.cell 8 _ rfl, hq]; rfl
  have hPl : P < W.heap.size := hx.lt
  have hmm : ∀ w : World, (Instr.makeMap 138 none).run Tryz.prog w = .ok (.map (some w.heap.size)) (w.alloc (.map #[] 0)) := run_makeMap _
  have HX := Lib.hid (And.intro h1 (And.intro hn his))
  clear h1 hx his
  go_enter Tryz.func41, Tryz.ntmps41
  go_wp2_with fail
  go_ret
  obtain ⟨h1, hn, his⟩ := HX.out
  have hx := h1.pd.pool.box
  have hb0 := ((((hx.set 5 (.bool true)).set 6 (.map (some W.heap.size))).set 7 (.slice none 0 0)).set 8 (.slice none 0 0))
  have ho0 : Only P W _ := (((((Only.refl P W).set 5 (.bool true)).set 6 (.map (some W.heap.size))).set 7 (.slice none 0 0)).set 8 (.slice none 0 0))
  have hs0 : ((((W.setCell ⟨P, 5, none⟩ (.bool true)).setCell ⟨P, 6, none⟩ (.map (some W.heap.size))).setCell ⟨P, 7, none⟩ (.slice none 0 0)).setCell ⟨P, 8, none⟩ (.slice none 0 0)).heap.size = W.heap.size := by simp
  generalize (((W.setCell ⟨P, 5, none⟩ (.bool true)).setCell ⟨P, 6, none⟩ (.map (some W.heap.size))).setCell ⟨P, 7, none⟩ (.slice none 0 0)).setCell ⟨P, 8, none⟩ (.slice none 0 0) = w4 at hb0 ho0 hs0 ⊢
  have hm := StrMap.new (P := Tryz.prog) (K := 3) (E := 9) w4
  rw [hs0] at hm
  have hb4 := hb0.alloc (.map #[] 0)
  have ho4 := ho0.alloc (.map #[] 0)
  obtain ⟨p4, k4⟩ := h1.pd.setOp (W' := w4.alloc (.map #[] 0)) (op' := some { wb := W.heap.size, was := fun _ => none, wn := 0, mo := none, mc := 0, made := [], go := none, gc := 0, gone := [] }) ho4.os ho4.tape ho4.output ho4.size (by rw [hq] at hb4; exact hb4)
    (fun y hy => by
      cases hy
      exact ⟨hm, .inl ⟨rfl, rfl, rfl⟩, .inl ⟨rfl, rfl, rfl⟩, (fun h => by cases h), (fun h => by cases h), (fun j h => by cases h), (fun p h => absurd h List.not_mem_nil), (fun p h => absurd h List.not_mem_nil), Nat.zero_le _, Nat.zero_le _, Nat.zero_le _⟩)
    (fun j hj => by
      rcases hj with hj | hj | hj
      · exact .inr (by rw [hj]; exact Nat.le_refl _)
      · cases hj
      · cases hj)
    (fun j hj hn _ => ho4.block j hj hn)
  have s4 := h1.op (fun y hy => by cases hy; exact ⟨Nat.zero_le _, Nat.zero_le _, Nat.zero_le _⟩) p4
  exact ⟨rfl, ⟨FB, M, n, _, d, s4, hn, ⟨his.free, his.most, rfl⟩⟩, k4⟩
end
end Go.Proofs.YtokgidhokcoadaaGreatDoor
namespace Go.Proofs.YtokgidhokcoadaaGreatDoor
open Go.RowKit
open UK (str BytesAt nth Only Row Box IntMap StrMap)
open Go.BigFrame
section
variable {E : Nat → Prop} {W W' : World} {P D FB M cnt k n : Nat} {A B : AP} {o : AO}
theorem pz_open (h : PZ E W P D B k) (ho : B.op = some o) :
    ∃ x : Opn, (o.was = x.was ∧ o.made = x.made ∧ o.gone = x.gone) ∧ OpIs W x ∧ W.cell? ⟨P, 5, none⟩ = some (.bool true) ∧ W.cell? ⟨P, 6, none⟩ = some (.map (some x.wb)) ∧ W.cell? ⟨P, 7, none⟩ = some (.slice x.mo x.made.length x.mc) ∧ W.cell? ⟨P, 8, none⟩ = some (.slice x.go x.gone.length x.gc) ∧
      Calls Tryz.prog 120 #[.pointer (some ⟨P, 0, none⟩)] W fun e w' => e = .returned (.tuple #[]) ∧ PZ (fun j => E j ∨ opB (some x) j) w' P D B.shutA k ∧ Kept (fun j => E j ∨ opB (some x) j) W w' := by
  obtain ⟨FB, M, n, q, d, h1, hn, his⟩ := h
  have hop := his.op
  cases hq : q.op with
  | none => rw [hq, ho] at hop; cases hop
  | some x =>
    rw [hq, ho] at hop
    have e := Option.some.inj hop
    have hx := h1.pd.pool.box
    have hE := pend_any h1
    rw [hq] at hE hx
    refine ⟨x, by rw [← e]; exact ⟨rfl, rfl, rfl⟩, h1.pd.pool.op x hq, hx.cell 5 _ rfl, hx.cell 6 _ rfl, hx.cell 7 _ rfl, hx.cell 8 _ rfl, hE.mono ?_⟩
    rintro e w' ⟨a, s, kk⟩
    exact ⟨a, ⟨FB, M, n, _, d, s, hn, ⟨his.free, his.most, rfl⟩⟩, kk⟩
structure Done (B C : AP) : Prop where
  op : C.op = none
  good : C.Good
  has : ∀ p, C.Has p ↔ B.Has p
  c : ∀ p, C.c p = B.c p
  most : C.most = B.most
  rooms : B.rooms ≤ C.rooms
theorem pz_commit_no (h : PZ E W P D A k) (ho : A.op = none) :
    Calls Tryz.prog 43 #[.pointer (some ⟨P, 0, none⟩)] W fun e w' => e = .returned (.int .i64 14) ∧ w' = W := by
  obtain ⟨FB, M, n, q, d, h1, hn, his⟩ := h
  have c5 : W.cell? ⟨P, 5, none⟩ = some (.bool false) := by
    rw [h1.pd.pool.box.cell 5 _ rfl]
    have := his.op
    cases hq : q.op with
    | none => rfl
    | some x => rw [hq, ho] at this; cases this
  clear h1 his
  go_enter Tryz.func43, Tryz.ntmps43
  go_wp2
  go_ret
  exact ⟨rfl, rfl⟩
theorem SlAt.at_ {W : World} {ao : Option Addr} {c : Nat} {l : List Int} (h : SlAt W ao c l) {i : Nat} {x : Int} (hi : l[i]? = some x) : ∃ g, ao = some ⟨g, 0, none⟩ ∧ W.cell? ⟨g, i, none⟩ = some (.int .i64 x) := by
  rcases h with ⟨_, rfl, _⟩ | ⟨g, e, r⟩
  · cases hi
  · exact ⟨g, e, r.at' i _ (by unfold intVs; rw [List.getElem?_map, hi]; rfl)⟩
theorem SlAt.len_le {W : World} {ao : Option Addr} {c : Nat} {l : List Int} (h : SlAt W ao c l) : l.length ≤ c := by
  rcases h with ⟨_, rfl, rfl⟩ | ⟨g, e, r⟩
  · exact Nat.le_refl _
  · have := r.le
    unfold intVs at this
    rw [List.length_map] at this
    exact this
theorem SlAt.kept {S : Nat → Prop} {W W' : World} {ao : Option Addr} {c : Nat} {l : List Int} (h : SlAt W ao c l) (hk : Kept S W W') (hS : ∀ j, slB ao j → S j) : SlAt W' ao c l := by
  rcases h with h0 | ⟨g, e, r⟩
  · exact .inl h0
  · exact .inr ⟨g, e, r.of_block hk.size (hk.block g (hS g e))⟩
structure Given (B C : AP) (pre : List Int) : Prop where
  op : C.op = none
  good : C.Good
  has : ∀ p : Nat, C.Has p ↔ B.In p ∧ (p : Int) ∉ pre
  c : ∀ p, C.c p = B.c p
  most : C.most = B.most
  rooms : C.rooms = B.rooms + pre.length
theorem Given.start (g : B.Good) : Given B B.shutA [] :=
  ⟨rfl, g.shutA, fun p => ⟨fun h => ⟨(AP.has_shut (A := B.shutA) rfl p).1 h, List.not_mem_nil⟩, fun h => (AP.has_shut (A := B.shutA) rfl p).2 h.1⟩, fun _ => rfl, rfl, rfl⟩
theorem Given.step {C : AP} {pre : List Int} (h : Given B C pre) {m : Nat} (hm : B.In m) (hn : (m : Int) ∉ pre) : C.Has m ∧ Given B (C.give m) (pre ++ [(m : Int)]) := by
  have hh := (h.has m).2 ⟨hm, hn⟩
  obtain ⟨g1, g2, g3, g4⟩ := h.good.give hh
  have e : C.give m = { C with free := C.free ++ [m] } := by unfold AP.give; rw [h.op]
  refine ⟨hh, ⟨by rw [e]; exact h.op, g1, fun p => ?_, fun p => by rw [AP.give_c]; exact h.c p, by rw [e]; exact h.most, ?_⟩⟩
  · rw [g2, h.has, List.mem_append, List.mem_singleton, not_or]
    constructor
    · rintro ⟨⟨a, b⟩, c⟩; exact ⟨a, b, fun e => c (by omega)⟩
    · rintro ⟨a, b, c⟩; exact ⟨⟨a, b⟩, fun e => c (by rw [e])⟩
  · rw [g4 h.op, h.rooms, List.length_append, List.length_singleton]
    omega
theorem take_snoc {l : List Int} {i : Nat} {x : Int} (h : l[i]? = some x) : l.take (i + 1) = l.take i ++ [x] := by rw [List.take_add_one, h]; rfl
theorem not_mem_take {l : List Int} (hn : l.Nodup) {i : Nat} {x : Int} (h : l[i]? = some x) : x ∉ l.take i := by
  have h1 := (List.take_append_drop i l).symm
  rw [h1] at hn
  have h2 : x ∈ l.drop i := List.mem_of_getElem? (i := 0) (by rw [List.getElem?_drop]; exact h)
  exact fun hm => (List.nodup_append.1 hn).2.2 x hm x h2 rfl
set_option maxHeartbeats 2000000 in
set_option maxRecDepth 100000 in
theorem pz_commit (h : PZ E W P D B k) (ho : B.op = some o) (g : B.Good) (hk : k + 60000 < 900000000) :
    Calls Tryz.prog 43 #[.pointer (some ⟨P, 0, none⟩)] W fun e w' => e = .returned (.int .i64 0) ∧ ∃ C, PZ E w' P D C (k + 60000) ∧ Done B C ∧ Kept E W w' := by
  obtain ⟨x, ⟨_, _, eg⟩, hop, c5, _, _, c8, hend⟩ := pz_open h ho
  have hgl : B.goneL = x.gone := by unfold AP.goneL; rw [ho]; exact eg
  have hnd : x.gone.Nodup := by rw [← hgl]; exact g.gnod
  have hin : ∀ y, y ∈ x.gone → ∃ m : Nat, y = m ∧ B.In m := fun y hy => by
    rw [← hgl] at hy
    exact g.gone y hy
  have hlen : x.gone.length ≤ 60000 := by
    have h1 := AP.len_ints (n := B.cnt) hnd (fun y hy => (hin y hy).imp fun m ⟨a, b⟩ => ⟨a, b.2.1⟩)
    have := g.most
    have := g.few
    omega
  have hle := hop.gone.len_le
  have HE := Lib.hid hend
  have HG := Lib.hid (Given.start g)
  have HS := Lib.hid hop.gone
  have HN := Lib.hid (And.intro hnd (And.intro hin (And.intro hgl g)))
  have hgc := hop.gone
  clear h hop hend hnd hin eg hgl HS
  have HS := Lib.hid hgc
  generalize hxg : x.go = xg at c8 HS
  have HO := Lib.hid (fun j (hj : slB xg j) => (show opB (some x) j from .inr (.inr (by rw [hxg]; exact hj))))
  clear hxg hgc
  go_enter Tryz.func43, Tryz.ntmps43
  go_wp2_with fail
  refine HE.out.mono ?_
  rintro e w2 ⟨rfl, p2, k2⟩
  have H2 := Lib.hid (And.intro p2 (And.intro (HS.out.kept k2 (fun j hj => .inr (HO.out j hj))) k2))
  clear HE p2 k2 c5 c8
  go_wp2_with fail
  go_loopw [20] (fun iv wr => ∃ i : Nat, iv = .int .i64 i ∧ i ≤ x.gone.length ∧ ∃ C, PZ (fun j => E j ∨ opB (some x) j) wr P D C (k + i) ∧ Given B C (x.gone.take i) ∧ SlAt wr xg x.gc x.gone ∧ Kept (fun j => E j ∨ opB (some x) j) W wr) (fun iv _ => 60001 - (Go.RowKit.intOf iv).toNat)
  case atStart => exact ⟨0, rfl, Nat.zero_le _, _, H2.out.1, HG.out, H2.out.2.1, H2.out.2.2⟩
  case round =>
    clear H2 HG
    obtain ⟨i, rfl, hi, C, hz, hg, hs, hkk⟩ := hrel
    by_cases hlt : i < x.gone.length
    · obtain ⟨y, hy⟩ : ∃ y, x.gone[i]? = some y := ⟨_, List.getElem?_eq_getElem hlt⟩
      obtain ⟨hnd, hin, _, _⟩ := HN.out
      obtain ⟨m, rfl, hm⟩ := hin y (List.mem_of_getElem? hy)
      obtain ⟨hh, hg2⟩ := hg.step hm (not_mem_take hnd hy)
      rw [← take_snoc hy] at hg2
      obtain ⟨gb, rfl, hc⟩ := hs.at_ hy
      have HP := Lib.hid (pz_give hz (by omega) m hh)
      have HX := Lib.hid (And.intro hg2 (And.intro hs hkk))
      have hil : (i : Int) < (x.gone.length : Int) := by omega
      clear hz hg hs hkk hnd hin hh hg2 hm hy
      go_wp2_with fail
      refine HP.out.mono ?_
      rintro e w3 ⟨rfl, p3, k3⟩
      obtain ⟨hg2, hs, hkk⟩ := HX.out
      have HR : Hid (PZ (fun j => E j ∨ opB (some x) j) w3 P D (C.give m) (k + (i + 1)) ∧ Given B (C.give m) (x.gone.take (i + 1)) ∧ SlAt w3 (some ⟨gb, 0, none⟩) x.gc x.gone ∧ Kept (fun j => E j ∨ opB (some x) j) W w3) := ⟨p3, hg2, hs.kept k3 (fun j hj => .inr (HO.out j hj)), hkk.trans k3⟩
      clear HP HX p3 k3 hg2 hs hkk hc
      go_wp2_with fail
      go_roundw
      case rel => exact ⟨i + 1, by go_num, by omega, _, HR.out⟩
      case measure => simp [Go.RowKit.intOf]; omega
    · have hge : ¬ (i : Int) < (x.gone.length : Int) := by omega
      have HR := Lib.hid (And.intro hz (And.intro hg hkk))
      clear hz hg hs hkk
      go_wp2
      go_ret
      obtain ⟨hz, hg, hkk⟩ := HR.out
      obtain ⟨_, _, hgl, g⟩ := HN.out
      rw [List.take_of_length_le (by omega)] at hg
      refine ⟨rfl, C, (hz.less (fun j hj => .inl hj)).up (by omega), ⟨hg.op, hg.good, fun p => ?_, hg.c, hg.most, by rw [hg.rooms]; exact Nat.le_add_right _ _⟩, hkk.mono (fun j hj => .inl hj)⟩
      rw [hg.has, ← hgl]
      unfold AP.Has AP.In
      exact ⟨fun ⟨⟨a, b, c⟩, d⟩ => ⟨a, b, c, d⟩, fun ⟨a, b, c, d⟩ => ⟨⟨a, b, c⟩, d⟩⟩
end
end Go.Proofs.YtokgidhokcoadaaGreatDoor
namespace Go.Proofs.YtokgidhokcoadaaGreatDoor
open Go.RowKit
open UK (str BytesAt nth Only Row Box)
section
variable {S : Nat → Prop} {W W' : World} {P D T k c d : Nat} {A : AP} {X Y : List KV} {ps : List Nat} {ao bo : Option Addr} {op : Bool}
theorem RB.turn {w w' : World} {rb : Nat} (h : RB S w rb P D T ao c X bo d Y op A k) (o : Only rb w w') {ao' bo' : Option Addr} {c' d' : Nat} {X' Y' : List KV} {op' : Bool} (hb : Box w' rb (rcells P T ao' X'.length c' bo' Y'.length d' op')) (hx : PrX w ao' c' X') (hy : PrX w bo' d' Y') (hsub : ∀ b, slB ao' b ∨ slB bo' b → slB ao b ∨ slB bo b) :
    RB S w' rb P D T ao' c' X' bo' d' Y' op' A k := by
  have hne : rb ≠ 0 := Ne.symm (Nat.ne_of_lt h.tab)
  have hf : ∀ b, slB ao' b ∨ slB bo' b → b < rb ∨ rb + 3 ≤ b := fun b hb2 => by
    rcases hsub b hb2 with h1 | h1
    · exact h.fao b h1
    · exact h.fbo b h1
  have p2 : PZ (rOwn (fun b => S b ∨ (rb ≤ b ∧ b < rb + 3)) T ao' bo') w' P D A k := h.rm.tr.pz.over (R := fun j => j = rb) (fun j hj => by rw [hj]; exact .inl (.inr ⟨Nat.le_refl _, by omega⟩)) (fun he => hne he.symm) o.size (fun j hj hr => o.block j hj hr) (fun j hj => by
    rcases hj with hj | hj | hj
    · exact .inl (.inl hj)
    · exact .inl (.inr (.inl hj))
    · exact .inl (.inr (.inr (hsub j hj))))
  have hTr : T ≠ rb := by have := h.far; omega
  obtain ⟨kd, nn, K, V, ha⟩ := h.act
  exact ⟨⟨⟨p2, h.rm.tr.box.only o hTr, .inr (.inl rfl)⟩, hx.of_block o.size (fun b hb2 => o.block b (hx.lt hb2) (by have := hf b (.inl hb2); omega)), hy.of_block o.size (fun b hb2 => o.block b (hy.lt hb2) (by have := hf b (.inr hb2); omega))⟩, hb, ⟨kd, nn, K, V, ha.only o (by omega)⟩, h.res.only o (by omega), h.far, fun b hb2 => hf b (.inl hb2), fun b hb2 => hf b (.inr hb2), h.tab⟩
def Ended (S : Nat → Prop) (W w' : World) (rb P D T : Nat) (ao : Option Addr) (c : Nat) (X : List KV) (bo : Option Addr) (d : Nat) (Y : List KV) (op : Bool) (K : Nat) (Q : Int → AP → Prop) (e : Ending) : Prop :=
  ∃ (er : Int) (B : AP), e = .returned (.int .i64 er) ∧ RB S w' rb P D T ao c X bo d Y op B K ∧ Kept S W w' ∧ Q er B
set_option linter.unusedSimpArgs false in
set_option maxHeartbeats 4000000 in
set_option maxRecDepth 100000 in
theorem does_begin (h : RM S W P D T ao c X bo d Y A k) (hS : ∀ j, S j → j < W.heap.size) (_hk : k + 400000 < 900000000) (nn : Int) (K V : UInt64) (hop : op = true ↔ A.op ≠ none) :
    Calls Tryz.prog 15 #[.agg (rcells P T ao X.length c bo Y.length d op), .agg (acells8 3 nn K V)] W fun e w' => DoesR S W w' P D (k + 400000) (fun A' X' Y' op' => X' = X ∧ op' = true ∧ (op = false → A' = A.begun ∧ Y' = X) ∧ (op = true → A' = A ∧ Y' = Y)) e := by
  have HOP := Lib.hid hop
  clear hop
  obtain ⟨hb, hbel, hact⟩ := h.boxed (op := op) 3 nn K V
  have a0 : (((W.alloc (.cells (rcells P T ao X.length c bo Y.length d op) 31)).alloc (.cells (acells8 3 nn K V) 35)).alloc (.cells zcells8 31)).cell? ⟨W.heap.size + 1, 0, none⟩ = some (.int .i64 3) := hact.cell 0 _ rfl
  have a1 : (((W.alloc (.cells (rcells P T ao X.length c bo Y.length d op) 31)).alloc (.cells (acells8 3 nn K V) 35)).alloc (.cells zcells8 31)).cell? ⟨W.heap.size + 1, 1, none⟩ = some (.int .i64 nn) := hact.cell 1 _ rfl
  obtain ⟨n, hn⟩ : ∃ n, n = timesOf nn := ⟨_, rfl⟩
  obtain ⟨hn40, hne⟩ := timesOf_le nn
  rw [← hn] at hn40 hne
  have HE := Lib.hid hne
  have HB := Lib.hid (And.intro hb (And.intro hbel hact))
  have HJ := Lib.hid hS
  generalize hW3 : ((W.alloc (.cells (rcells P T ao X.length c bo Y.length d op) 31)).alloc (.cells (acells8 3 nn K V) 35)).alloc (.cells zcells8 31) = w3 at HB a0 a1
  have HW3 := Lib.hid hW3
  rw [← hW3] at a0 a1
  clear h hb hbel hact hS hn hW3 hne
  go_enter Tryz.func15, Tryz.ntmps15
  go_upto_region 1 with (fail)
  go_cut [6] (fun nv wx => nv = .int .i64 (n : Int) ∧ wx = w3)
  case first =>
    go_wp2_with fail
    go_meet
    case rel => exact ⟨by rw [HE.out], HW3.out⟩
  case rest =>
  obtain ⟨rfl, rfl⟩ := hcut
  clear a0 a1
  have a0 : wc.cell? ⟨W.heap.size + 1, 0, none⟩ = some (.int .i64 3) := HB.out.2.2.cell 0 _ rfl
  have hrb := HB.out.1
  have hkp : Kept S W wc := Kept.of_below HB.out.2.1 HJ.out
  have hth := hrb.rm.tr.pz.there
  have bd : Below wc.heap.size wc wc.drew := (Below.refl _ _).drew
  have hC : Calls Tryz.prog 41 #[.pointer (some ⟨P, 0, none⟩)] wc.drew fun e w' => Ended S W w' W.heap.size P D T ao c X bo d Y op k (fun er B => (op = false → er = 0 ∧ B = A.begun) ∧ (op = true → er = 14 ∧ B = A)) e := by
    have td : TreeAt (rOwn (fun b => S b ∨ (W.heap.size ≤ b ∧ b < W.heap.size + 3)) T ao bo) wc.drew P D T 1 A k := ⟨hrb.rm.tr.pz.next bd, hrb.rm.tr.box.next bd, hrb.rm.tr.mem⟩
    have hrd := hrb.next td (Kept.of_below bd hth)
    have hkd := hkp.trans (Kept.of_below bd (fun j hj => hth j (.inl (.inl hj))))
    cases hopp : op with
    | false =>
      have ho : A.op = none := Classical.byContradiction (fun hn => by have := HOP.out.2 hn; rw [hopp] at this; cases this)
      refine (pz_begin td.pz ho).mono ?_
      rintro e w2 ⟨rfl, p2, k2⟩
      rw [hopp] at hrd
      exact ⟨0, A.begun, rfl, hrd.next ⟨p2, td.box.of_block (k2.block T td.mem), td.mem⟩ k2, hkd.trans (k2.mono (fun j hj => .inl (.inl hj))), fun _ => ⟨rfl, rfl⟩, (fun h => by cases h)⟩
    | true =>
      have ho : A.op ≠ none := HOP.out.1 hopp
      refine (pz_begin_no td.pz ho).mono ?_
      rintro e w2 ⟨rfl, rfl⟩
      rw [hopp] at hrd
      exact ⟨14, A, rfl, hrd, hkd, (fun h => by cases h), fun _ => ⟨rfl, rfl⟩⟩
  have HC := Lib.hid hC
  have hS1 : wc.drew.cell? ⟨W.heap.size, 0, none⟩ = some (.pointer (some ⟨P, 0, none⟩)) ∧ wc.drew.cell? ⟨W.heap.size, 4, none⟩ = some (.bool op) := ⟨hrb.box.cell 0 _ rfl, hrb.box.cell 4 _ rfl⟩
  clear hC hrb hkp hth bd HE HW3
  go_wp2_with fail
  go_upto_region 21 with (fail)
  go_cut [98] (fun bv wx => bv = .bool false ∧ ∃ B, RB S wx W.heap.size P D T ao c X bo d Y op B k ∧ Kept S W wx ∧ (op = false → B = A.begun) ∧ (op = true → B = A))
  case first =>
    refine wp_region_any (by kernel_rfl) ?_
    refine wpAny_take (i := 0) (v := ?va0) rfl (by kernel_rfl) (by kernel_rfl) (by kernel_rfl) (fun _ _ _ h => h) (Or.inl ⟨by rfl, ?hya0⟩) ?resta0
    case hya0 => (intro w; go_simp; try with_reducible rfl)
    try simp only [Act.put, zA, zB, zC]
    refine wpAny_take (i := 4) (v := ?va4) rfl (by kernel_rfl) (by kernel_rfl) (by kernel_rfl) (fun _ _ _ h => h) (Or.inl ⟨by rfl, ?hya4⟩) ?resta4
    case hya4 => (intro w; go_simp; try with_reducible rfl)
    try simp only [Act.put, zA, zB, zC]
    have hS0 : (fun w' : World => w'.cell? ⟨W.heap.size, 0, none⟩ = some (.pointer (some ⟨P, 0, none⟩)) ∧ w'.cell? ⟨W.heap.size, 4, none⟩ = some (.bool op)) wc.drew := hS1
    refine wpAny_of_late (S := fun w' => w'.cell? ⟨W.heap.size, 0, none⟩ = some (.pointer (some ⟨P, 0, none⟩)) ∧ w'.cell? ⟨W.heap.size, 4, none⟩ = some (.bool op)) (late := fun j => decide (99 ≤ j)) _ _ _ _ ?_
    change wpLate _ _ _ _ _ _ _ _ _ (wc.drew)
    refine wpLate_take (i := 1) (v := ?va1) rfl (by kernel_rfl) (by kernel_rfl) (by kernel_rfl) (by kernel_rfl) (fun _ _ _ h => h) hS0 (by rfl) ?hya1 ?resta1
    case hya1 => (intro w hSw; (try dsimp only at hSw); go_simp; try with_reducible rfl)
    try simp only [Act.put, zA, zB, zC]
    refine wpLate_take (i := 5) (v := ?va5) rfl (by kernel_rfl) (by kernel_rfl) (by kernel_rfl) (by kernel_rfl) (fun _ _ _ h => h) hS0 (by rfl) ?hya5 ?resta5
    case hya5 => (intro w hSw; (try dsimp only at hSw); go_simp; try with_reducible rfl)
    try simp only [Act.put, zA, zB, zC]
    clear hS0
    refine wpLate_one (i := 2) (by kernel_rfl) rfl (fun K hK => ?_)
    go_simp
    refine HC.out.mono ?_
    rintro e w2 ⟨er, B, rfl, hrb, hkp, hq⟩
    (try dsimp only)
    refine hK.out _ _ (fun _ => ⟨hrb.box.cell 0 _ rfl, hrb.box.cell 4 _ rfl⟩) ?_
    clear hK K
    try simp only [Act.put, zA, zB, zC]
    refine wpLate_one (i := 3) (by kernel_rfl) rfl (fun K hK => ?_)
    go_simp
    refine hK.out _ _ (fun _ => ⟨hrb.box.cell 0 _ rfl, hrb.box.cell 4 _ rfl⟩) ?_
    clear hK K
    try simp only [Act.put, zA, zB, zC]
    refine wpLate_one (i := 6) (by kernel_rfl) rfl (fun K hK => ?_)
    go_simp
    refine hK.out _ _ (fun _ => ⟨hrb.box.cell 0 _ rfl, hrb.box.cell 4 _ rfl⟩) ?_
    clear hK K
    try simp only [Act.put, zA, zB, zC]
    refine wpLate_done (by kernel_rfl) ?_ _
    go_wp2_with fail
    go_meet
    case rel =>
      refine ⟨?_, B, hrb, hkp, fun h => (hq.1 h).2, fun h => (hq.2 h).2⟩
      cases op with
      | false => rw [(hq.1 rfl).1]; rfl
      | true => rw [(hq.2 rfl).1]; rfl
  case rest =>
    obtain ⟨rfl, B, hrb, hkp, q1, q2⟩ := hcut
    have c2 : wc.cell? ⟨W.heap.size, 2, none⟩ = some (.slice ao X.length c) := hrb.box.cell 2 _ rfl
    have c3 : wc.cell? ⟨W.heap.size, 3, none⟩ = some (.slice bo Y.length d) := hrb.box.cell 3 _ rfl
    have c4 : wc.cell? ⟨W.heap.size, 4, none⟩ = some (.bool op) := hrb.box.cell 4 _ rfl
    have f3 := hrb.box.free 3
    have f4 := hrb.box.free 4
    clear HC hS1
    cases op with
    | false =>
      obtain rfl := q1 rfl
      clear q1 q2
      have o : Only W.heap.size wc ((wc.setCell ⟨W.heap.size, 3, none⟩ (.slice ao X.length c)).setCell ⟨W.heap.size, 4, none⟩ (.bool true)) := ((Only.refl _ _).set 3 _).set 4 _
      have bx : Box ((wc.setCell ⟨W.heap.size, 3, none⟩ (.slice ao X.length c)).setCell ⟨W.heap.size, 4, none⟩ (.bool true)) W.heap.size (rcells P T ao X.length c ao X.length c true) := by
        have := (hrb.box.set 3 (.slice ao X.length c)).set 4 (.bool true)
        simpa [rcells] using this
      have hrb2 := hrb.turn o bx hrb.rm.px hrb.rm.px (fun b hb => .inl (hb.elim id id))
      have hk2 : Kept S W ((wc.setCell ⟨W.heap.size, 3, none⟩ (.slice ao X.length c)).setCell ⟨W.heap.size, 4, none⟩ (.bool true)) := hkp.trans ⟨o.os, o.tape, o.output, o.size, fun j hj => o.block j (Nat.lt_of_lt_of_le (HJ.out j hj) hkp.size) (by have := HJ.out j hj; omega)⟩
      have y1 := hrb2.box
      have y3 := hrb2.res
      have n0 : ((wc.setCell ⟨W.heap.size, 3, none⟩ (.slice ao X.length c)).setCell ⟨W.heap.size, 4, none⟩ (.bool true)).cell? ⟨W.heap.size, 0, none⟩ = some (.pointer (some ⟨P, 0, none⟩)) := y1.cell 0 _ rfl
      have n1 : ((wc.setCell ⟨W.heap.size, 3, none⟩ (.slice ao X.length c)).setCell ⟨W.heap.size, 4, none⟩ (.bool true)).cell? ⟨W.heap.size, 1, none⟩ = some (.pointer (some ⟨T, 0, none⟩)) := y1.cell 1 _ rfl
      have n2 : ((wc.setCell ⟨W.heap.size, 3, none⟩ (.slice ao X.length c)).setCell ⟨W.heap.size, 4, none⟩ (.bool true)).cell? ⟨W.heap.size, 2, none⟩ = some (.slice ao X.length c) := y1.cell 2 _ rfl
      have n3 : ((wc.setCell ⟨W.heap.size, 3, none⟩ (.slice ao X.length c)).setCell ⟨W.heap.size, 4, none⟩ (.bool true)).cell? ⟨W.heap.size, 3, none⟩ = some (.slice ao X.length c) := y1.cell 3 _ rfl
      have n4 : ((wc.setCell ⟨W.heap.size, 3, none⟩ (.slice ao X.length c)).setCell ⟨W.heap.size, 4, none⟩ (.bool true)).cell? ⟨W.heap.size, 4, none⟩ = some (.bool true) := y1.cell 4 _ rfl
      have m0 : ((wc.setCell ⟨W.heap.size, 3, none⟩ (.slice ao X.length c)).setCell ⟨W.heap.size, 4, none⟩ (.bool true)).cell? ⟨W.heap.size + 2, 0, none⟩ = some (.pointer none) := y3.cell 0 _ rfl
      have m1 : ((wc.setCell ⟨W.heap.size, 3, none⟩ (.slice ao X.length c)).setCell ⟨W.heap.size, 4, none⟩ (.bool true)).cell? ⟨W.heap.size + 2, 1, none⟩ = some (.pointer none) := y3.cell 1 _ rfl
      have m2 : ((wc.setCell ⟨W.heap.size, 3, none⟩ (.slice ao X.length c)).setCell ⟨W.heap.size, 4, none⟩ (.bool true)).cell? ⟨W.heap.size + 2, 2, none⟩ = some (.slice none 0 0) := y3.cell 2 _ rfl
      have m3 : ((wc.setCell ⟨W.heap.size, 3, none⟩ (.slice ao X.length c)).setCell ⟨W.heap.size, 4, none⟩ (.bool true)).cell? ⟨W.heap.size + 2, 3, none⟩ = some (.slice none 0 0) := y3.cell 3 _ rfl
      have m4 : ((wc.setCell ⟨W.heap.size, 3, none⟩ (.slice ao X.length c)).setCell ⟨W.heap.size, 4, none⟩ (.bool true)).cell? ⟨W.heap.size + 2, 4, none⟩ = some (.bool false) := y3.cell 4 _ rfl
      have mf : ∀ j, ((wc.setCell ⟨W.heap.size, 3, none⟩ (.slice ao X.length c)).setCell ⟨W.heap.size, 4, none⟩ (.bool true)).frozen? ⟨W.heap.size + 2, j, none⟩ = false := y3.free
      have HD := Lib.hid (hrb2.done (Q := fun A' X' Y' op' => X' = X ∧ op' = true ∧ A' = A.begun ∧ Y' = X) (show k ≤ k + 400000 by omega) hk2 HJ.out ⟨rfl, rfl, rfl, rfl⟩)
      have HY := Lib.hid y3
      clear hrb hkp hrb2 hk2 y1 y3 o bx HOP HB
      go_wp2_with fail
      refine bodyPost_ret (UK.box_ret2 rfl _ (HY.out.fill5 _ _ _ _ _) rfl run_under rfl run_size) rfl ?_
      exact HD.out
    | true =>
      obtain rfl := q2 rfl
      clear q1 q2
      have o : Only W.heap.size wc (wc.setCell ⟨W.heap.size, 4, none⟩ (.bool true)) := (Only.refl _ _).set 4 _
      have bx : Box (wc.setCell ⟨W.heap.size, 4, none⟩ (.bool true)) W.heap.size (rcells P T ao X.length c bo Y.length d true) := by
        have := hrb.box.set 4 (.bool true)
        simpa [rcells] using this
      have hrb2 := hrb.turn o bx hrb.rm.px hrb.rm.py (fun b hb => hb)
      have hk2 : Kept S W (wc.setCell ⟨W.heap.size, 4, none⟩ (.bool true)) := hkp.trans ⟨o.os, o.tape, o.output, o.size, fun j hj => o.block j (Nat.lt_of_lt_of_le (HJ.out j hj) hkp.size) (by have := HJ.out j hj; omega)⟩
      have y1 := hrb2.box
      have y3 := hrb2.res
      have n0 : (wc.setCell ⟨W.heap.size, 4, none⟩ (.bool true)).cell? ⟨W.heap.size, 0, none⟩ = some (.pointer (some ⟨P, 0, none⟩)) := y1.cell 0 _ rfl
      have n1 : (wc.setCell ⟨W.heap.size, 4, none⟩ (.bool true)).cell? ⟨W.heap.size, 1, none⟩ = some (.pointer (some ⟨T, 0, none⟩)) := y1.cell 1 _ rfl
      have n2 : (wc.setCell ⟨W.heap.size, 4, none⟩ (.bool true)).cell? ⟨W.heap.size, 2, none⟩ = some (.slice ao X.length c) := y1.cell 2 _ rfl
      have n3 : (wc.setCell ⟨W.heap.size, 4, none⟩ (.bool true)).cell? ⟨W.heap.size, 3, none⟩ = some (.slice bo Y.length d) := y1.cell 3 _ rfl
      have n4 : (wc.setCell ⟨W.heap.size, 4, none⟩ (.bool true)).cell? ⟨W.heap.size, 4, none⟩ = some (.bool true) := y1.cell 4 _ rfl
      have m0 : (wc.setCell ⟨W.heap.size, 4, none⟩ (.bool true)).cell? ⟨W.heap.size + 2, 0, none⟩ = some (.pointer none) := y3.cell 0 _ rfl
      have m1 : (wc.setCell ⟨W.heap.size, 4, none⟩ (.bool true)).cell? ⟨W.heap.size + 2, 1, none⟩ = some (.pointer none) := y3.cell 1 _ rfl
      have m2 : (wc.setCell ⟨W.heap.size, 4, none⟩ (.bool true)).cell? ⟨W.heap.size + 2, 2, none⟩ = some (.slice none 0 0) := y3.cell 2 _ rfl
      have m3 : (wc.setCell ⟨W.heap.size, 4, none⟩ (.bool true)).cell? ⟨W.heap.size + 2, 3, none⟩ = some (.slice none 0 0) := y3.cell 3 _ rfl
      have m4 : (wc.setCell ⟨W.heap.size, 4, none⟩ (.bool true)).cell? ⟨W.heap.size + 2, 4, none⟩ = some (.bool false) := y3.cell 4 _ rfl
      have mf : ∀ j, (wc.setCell ⟨W.heap.size, 4, none⟩ (.bool true)).frozen? ⟨W.heap.size + 2, j, none⟩ = false := y3.free
      have HD := Lib.hid (hrb2.done (Q := fun A' X' Y' op' => X' = X ∧ op' = true ∧ A' = B ∧ Y' = Y) (show k ≤ k + 400000 by omega) hk2 HJ.out ⟨rfl, rfl, rfl, rfl⟩)
      have HY := Lib.hid y3
      clear hrb hkp hrb2 hk2 y1 y3 o bx HOP HB
      go_wp2_with fail
      refine bodyPost_ret (UK.box_ret2 rfl _ (HY.out.fill5 _ _ _ _ _) rfl run_under rfl run_size) rfl ?_
      exact HD.out
end
end Go.Proofs.YtokgidhokcoadaaGreatDoor
namespace Go.Proofs.YtokgidhokcoadaaGreatDoor
open Go.RowKit
open UK (str BytesAt nth Only Row Box)
section
variable {S : Nat → Prop} {W W' : World} {P D T k c d : Nat} {A : AP} {X Y : List KV} {ps : List Nat} {ao bo : Option Addr} {op : Bool}
set_option linter.unusedSimpArgs false in
set_option maxHeartbeats 4000000 in
set_option maxRecDepth 100000 in
theorem does_commit (h : RM S W P D T ao c X bo d Y A k) (hS : ∀ j, S j → j < W.heap.size) (hk : k + 400000 < 900000000) (nn : Int) (K V : UInt64) (hop : op = true ↔ A.op ≠ none) (hg : A.Good) :
    Calls Tryz.prog 15 #[.agg (rcells P T ao X.length c bo Y.length d op), .agg (acells8 4 nn K V)] W fun e w' => DoesR S W w' P D (k + 400000) (fun A' X' Y' op' => X' = X ∧ Y' = Y ∧ op' = false ∧ (op = false → A' = A) ∧ (op = true → Done A A')) e := by
  have HOP := Lib.hid hop
  have HGd := Lib.hid hg
  clear hop hg
  obtain ⟨hb, hbel, hact⟩ := h.boxed (op := op) 4 nn K V
  have a0 : (((W.alloc (.cells (rcells P T ao X.length c bo Y.length d op) 31)).alloc (.cells (acells8 4 nn K V) 35)).alloc (.cells zcells8 31)).cell? ⟨W.heap.size + 1, 0, none⟩ = some (.int .i64 4) := hact.cell 0 _ rfl
  have a1 : (((W.alloc (.cells (rcells P T ao X.length c bo Y.length d op) 31)).alloc (.cells (acells8 4 nn K V) 35)).alloc (.cells zcells8 31)).cell? ⟨W.heap.size + 1, 1, none⟩ = some (.int .i64 nn) := hact.cell 1 _ rfl
  obtain ⟨n, hn⟩ : ∃ n, n = timesOf nn := ⟨_, rfl⟩
  obtain ⟨hn40, hne⟩ := timesOf_le nn
  rw [← hn] at hn40 hne
  have HE := Lib.hid hne
  have HB := Lib.hid (And.intro hb (And.intro hbel hact))
  have HJ := Lib.hid hS
  generalize hW3 : ((W.alloc (.cells (rcells P T ao X.length c bo Y.length d op) 31)).alloc (.cells (acells8 4 nn K V) 35)).alloc (.cells zcells8 31) = w3 at HB a0 a1
  have HW3 := Lib.hid hW3
  rw [← hW3] at a0 a1
  clear h hb hbel hact hS hn hW3 hne
  go_enter Tryz.func15, Tryz.ntmps15
  go_upto_region 1 with (fail)
  go_cut [6] (fun nv wx => nv = .int .i64 (n : Int) ∧ wx = w3)
  case first =>
    go_wp2_with fail
    go_meet
    case rel => exact ⟨by rw [HE.out], HW3.out⟩
  case rest =>
  obtain ⟨rfl, rfl⟩ := hcut
  clear a0 a1
  have a0 : wc.cell? ⟨W.heap.size + 1, 0, none⟩ = some (.int .i64 4) := HB.out.2.2.cell 0 _ rfl
  have hrb := HB.out.1
  have hkp : Kept S W wc := Kept.of_below HB.out.2.1 HJ.out
  have hth := hrb.rm.tr.pz.there
  have bd : Below wc.heap.size wc wc.drew := (Below.refl _ _).drew
  have hC : Calls Tryz.prog 43 #[.pointer (some ⟨P, 0, none⟩)] wc.drew fun e w' => Ended S W w' W.heap.size P D T ao c X bo d Y op (k + 60000) (fun er B => (op = false → er = 14 ∧ B = A) ∧ (op = true → er = 0 ∧ Done A B)) e := by
    have td : TreeAt (rOwn (fun b => S b ∨ (W.heap.size ≤ b ∧ b < W.heap.size + 3)) T ao bo) wc.drew P D T 1 A k := ⟨hrb.rm.tr.pz.next bd, hrb.rm.tr.box.next bd, hrb.rm.tr.mem⟩
    have hrd := hrb.next ⟨td.pz.up (show k ≤ k + 60000 by omega), td.box, td.mem⟩ (Kept.of_below bd hth)
    have hkd := hkp.trans (Kept.of_below bd (fun j hj => hth j (.inl (.inl hj))))
    cases hopp : op with
    | false =>
      have ho : A.op = none := Classical.byContradiction (fun hn => by have := HOP.out.2 hn; rw [hopp] at this; cases this)
      refine (pz_commit_no td.pz ho).mono ?_
      rintro e w2 ⟨rfl, rfl⟩
      rw [hopp] at hrd
      exact ⟨14, A, rfl, hrd, hkd, fun _ => ⟨rfl, rfl⟩, (fun h => by cases h)⟩
    | true =>
      obtain ⟨o, ho⟩ := Option.ne_none_iff_exists'.1 (HOP.out.1 hopp)
      refine (pz_commit td.pz ho HGd.out (by omega)).mono ?_
      rintro e w2 ⟨rfl, C, p2, hdn, k2⟩
      rw [hopp] at hrd
      exact ⟨0, C, rfl, hrd.next ⟨p2, td.box.of_block (k2.block T td.mem), td.mem⟩ k2, hkd.trans (k2.mono (fun j hj => .inl (.inl hj))), (fun h => by cases h), fun _ => ⟨rfl, hdn⟩⟩
  have HC := Lib.hid hC
  have hS1 : wc.drew.cell? ⟨W.heap.size, 0, none⟩ = some (.pointer (some ⟨P, 0, none⟩)) ∧ wc.drew.cell? ⟨W.heap.size, 4, none⟩ = some (.bool op) := ⟨hrb.box.cell 0 _ rfl, hrb.box.cell 4 _ rfl⟩
  clear hC hrb hkp hth bd HE HW3
  go_wp2_with fail
  go_upto_region 27 with (fail)
  go_cut [115] (fun bv wx => bv = .bool false ∧ ∃ B, RB S wx W.heap.size P D T ao c X bo d Y op B (k + 60000) ∧ Kept S W wx ∧ (op = false → B = A) ∧ (op = true → Done A B))
  case first =>
    refine wp_region_any (by kernel_rfl) ?_
    refine wpAny_take (i := 0) (v := ?va0) rfl (by kernel_rfl) (by kernel_rfl) (by kernel_rfl) (fun _ _ _ h => h) (Or.inl ⟨by rfl, ?hya0⟩) ?resta0
    case hya0 => (intro w; go_simp; try with_reducible rfl)
    try simp only [Act.put, zA, zB, zC]
    refine wpAny_take (i := 4) (v := ?va4) rfl (by kernel_rfl) (by kernel_rfl) (by kernel_rfl) (fun _ _ _ h => h) (Or.inl ⟨by rfl, ?hya4⟩) ?resta4
    case hya4 => (intro w; go_simp; try with_reducible rfl)
    try simp only [Act.put, zA, zB, zC]
    have hS0 : (fun w' : World => w'.cell? ⟨W.heap.size, 0, none⟩ = some (.pointer (some ⟨P, 0, none⟩)) ∧ w'.cell? ⟨W.heap.size, 4, none⟩ = some (.bool op)) wc.drew := hS1
    refine wpAny_of_late (S := fun w' => w'.cell? ⟨W.heap.size, 0, none⟩ = some (.pointer (some ⟨P, 0, none⟩)) ∧ w'.cell? ⟨W.heap.size, 4, none⟩ = some (.bool op)) (late := fun j => decide (99 ≤ j)) _ _ _ _ ?_
    change wpLate _ _ _ _ _ _ _ _ _ (wc.drew)
    refine wpLate_take (i := 1) (v := ?va1) rfl (by kernel_rfl) (by kernel_rfl) (by kernel_rfl) (by kernel_rfl) (fun _ _ _ h => h) hS0 (by rfl) ?hya1 ?resta1
    case hya1 => (intro w hSw; (try dsimp only at hSw); go_simp; try with_reducible rfl)
    try simp only [Act.put, zA, zB, zC]
    refine wpLate_take (i := 5) (v := ?va5) rfl (by kernel_rfl) (by kernel_rfl) (by kernel_rfl) (by kernel_rfl) (fun _ _ _ h => h) hS0 (by rfl) ?hya5 ?resta5
    case hya5 => (intro w hSw; (try dsimp only at hSw); go_simp; try with_reducible rfl)
    try simp only [Act.put, zA, zB, zC]
    clear hS0
    refine wpLate_one (i := 2) (by kernel_rfl) rfl (fun K hK => ?_)
    go_simp
    refine HC.out.mono ?_
    rintro e w2 ⟨er, B, rfl, hrb, hkp, hq⟩
    (try dsimp only)
    refine hK.out _ _ (fun _ => ⟨hrb.box.cell 0 _ rfl, hrb.box.cell 4 _ rfl⟩) ?_
    clear hK K
    try simp only [Act.put, zA, zB, zC]
    refine wpLate_one (i := 3) (by kernel_rfl) rfl (fun K hK => ?_)
    go_simp
    refine hK.out _ _ (fun _ => ⟨hrb.box.cell 0 _ rfl, hrb.box.cell 4 _ rfl⟩) ?_
    clear hK K
    try simp only [Act.put, zA, zB, zC]
    refine wpLate_one (i := 6) (by kernel_rfl) rfl (fun K hK => ?_)
    go_simp
    refine hK.out _ _ (fun _ => ⟨hrb.box.cell 0 _ rfl, hrb.box.cell 4 _ rfl⟩) ?_
    clear hK K
    try simp only [Act.put, zA, zB, zC]
    refine wpLate_done (by kernel_rfl) ?_ _
    go_wp2_with fail
    go_meet
    case rel =>
      refine ⟨?_, B, hrb, hkp, fun h => (hq.1 h).2, fun h => (hq.2 h).2⟩
      cases op with
      | false => rw [(hq.1 rfl).1]; rfl
      | true => rw [(hq.2 rfl).1]; rfl
  case rest =>
    obtain ⟨rfl, B, hrb, hkp, q1, q2⟩ := hcut
    have c2 : wc.cell? ⟨W.heap.size, 2, none⟩ = some (.slice ao X.length c) := hrb.box.cell 2 _ rfl
    have c3 : wc.cell? ⟨W.heap.size, 3, none⟩ = some (.slice bo Y.length d) := hrb.box.cell 3 _ rfl
    have c4 : wc.cell? ⟨W.heap.size, 4, none⟩ = some (.bool op) := hrb.box.cell 4 _ rfl
    have f3 := hrb.box.free 3
    have f4 := hrb.box.free 4
    clear HC hS1
    cases op with
    | false =>
      obtain rfl := q1 rfl
      clear q1 q2
      have o : Only W.heap.size wc (wc.setCell ⟨W.heap.size, 4, none⟩ (.bool false)) := (Only.refl _ _).set 4 _
      have bx : Box (wc.setCell ⟨W.heap.size, 4, none⟩ (.bool false)) W.heap.size (rcells P T ao X.length c bo Y.length d false) := by
        have := hrb.box.set 4 (.bool false)
        simpa [rcells] using this
      have hrb2 := hrb.turn o bx hrb.rm.px hrb.rm.py (fun b hb => hb)
      have hk2 : Kept S W (wc.setCell ⟨W.heap.size, 4, none⟩ (.bool false)) := hkp.trans ⟨o.os, o.tape, o.output, o.size, fun j hj => o.block j (Nat.lt_of_lt_of_le (HJ.out j hj) hkp.size) (by have := HJ.out j hj; omega)⟩
      have y1 := hrb2.box
      have y3 := hrb2.res
      have n0 : (wc.setCell ⟨W.heap.size, 4, none⟩ (.bool false)).cell? ⟨W.heap.size, 0, none⟩ = some (.pointer (some ⟨P, 0, none⟩)) := y1.cell 0 _ rfl
      have n1 : (wc.setCell ⟨W.heap.size, 4, none⟩ (.bool false)).cell? ⟨W.heap.size, 1, none⟩ = some (.pointer (some ⟨T, 0, none⟩)) := y1.cell 1 _ rfl
      have n2 : (wc.setCell ⟨W.heap.size, 4, none⟩ (.bool false)).cell? ⟨W.heap.size, 2, none⟩ = some (.slice ao X.length c) := y1.cell 2 _ rfl
      have n3 : (wc.setCell ⟨W.heap.size, 4, none⟩ (.bool false)).cell? ⟨W.heap.size, 3, none⟩ = some (.slice bo Y.length d) := y1.cell 3 _ rfl
      have n4 : (wc.setCell ⟨W.heap.size, 4, none⟩ (.bool false)).cell? ⟨W.heap.size, 4, none⟩ = some (.bool false) := y1.cell 4 _ rfl
      have m0 : (wc.setCell ⟨W.heap.size, 4, none⟩ (.bool false)).cell? ⟨W.heap.size + 2, 0, none⟩ = some (.pointer none) := y3.cell 0 _ rfl
      have m1 : (wc.setCell ⟨W.heap.size, 4, none⟩ (.bool false)).cell? ⟨W.heap.size + 2, 1, none⟩ = some (.pointer none) := y3.cell 1 _ rfl
      have m2 : (wc.setCell ⟨W.heap.size, 4, none⟩ (.bool false)).cell? ⟨W.heap.size + 2, 2, none⟩ = some (.slice none 0 0) := y3.cell 2 _ rfl
      have m3 : (wc.setCell ⟨W.heap.size, 4, none⟩ (.bool false)).cell? ⟨W.heap.size + 2, 3, none⟩ = some (.slice none 0 0) := y3.cell 3 _ rfl
      have m4 : (wc.setCell ⟨W.heap.size, 4, none⟩ (.bool false)).cell? ⟨W.heap.size + 2, 4, none⟩ = some (.bool false) := y3.cell 4 _ rfl
      have mf : ∀ j, (wc.setCell ⟨W.heap.size, 4, none⟩ (.bool false)).frozen? ⟨W.heap.size + 2, j, none⟩ = false := y3.free
      have HD := Lib.hid (hrb2.done (Q := fun A' X' Y' op' => X' = X ∧ Y' = Y ∧ op' = false ∧ A' = B) (show k + 60000 ≤ k + 400000 by omega) hk2 HJ.out ⟨rfl, rfl, rfl, rfl⟩)
      have HY := Lib.hid y3
      clear hrb hkp hrb2 hk2 y1 y3 o bx HOP HB
      go_wp2_with fail
      refine bodyPost_ret (UK.box_ret2 rfl _ (HY.out.fill5 _ _ _ _ _) rfl run_under rfl run_size) rfl ?_
      exact HD.out
    | true =>
      have hdn := q2 rfl
      clear q1 q2
      have o : Only W.heap.size wc (wc.setCell ⟨W.heap.size, 4, none⟩ (.bool false)) := (Only.refl _ _).set 4 _
      have bx : Box (wc.setCell ⟨W.heap.size, 4, none⟩ (.bool false)) W.heap.size (rcells P T ao X.length c bo Y.length d false) := by
        have := hrb.box.set 4 (.bool false)
        simpa [rcells] using this
      have hrb2 := hrb.turn o bx hrb.rm.px hrb.rm.py (fun b hb => hb)
      have hk2 : Kept S W (wc.setCell ⟨W.heap.size, 4, none⟩ (.bool false)) := hkp.trans ⟨o.os, o.tape, o.output, o.size, fun j hj => o.block j (Nat.lt_of_lt_of_le (HJ.out j hj) hkp.size) (by have := HJ.out j hj; omega)⟩
      have y1 := hrb2.box
      have y3 := hrb2.res
      have n0 : (wc.setCell ⟨W.heap.size, 4, none⟩ (.bool false)).cell? ⟨W.heap.size, 0, none⟩ = some (.pointer (some ⟨P, 0, none⟩)) := y1.cell 0 _ rfl
      have n1 : (wc.setCell ⟨W.heap.size, 4, none⟩ (.bool false)).cell? ⟨W.heap.size, 1, none⟩ = some (.pointer (some ⟨T, 0, none⟩)) := y1.cell 1 _ rfl
      have n2 : (wc.setCell ⟨W.heap.size, 4, none⟩ (.bool false)).cell? ⟨W.heap.size, 2, none⟩ = some (.slice ao X.length c) := y1.cell 2 _ rfl
      have n3 : (wc.setCell ⟨W.heap.size, 4, none⟩ (.bool false)).cell? ⟨W.heap.size, 3, none⟩ = some (.slice bo Y.length d) := y1.cell 3 _ rfl
      have n4 : (wc.setCell ⟨W.heap.size, 4, none⟩ (.bool false)).cell? ⟨W.heap.size, 4, none⟩ = some (.bool false) := y1.cell 4 _ rfl
      have m0 : (wc.setCell ⟨W.heap.size, 4, none⟩ (.bool false)).cell? ⟨W.heap.size + 2, 0, none⟩ = some (.pointer none) := y3.cell 0 _ rfl
      have m1 : (wc.setCell ⟨W.heap.size, 4, none⟩ (.bool false)).cell? ⟨W.heap.size + 2, 1, none⟩ = some (.pointer none) := y3.cell 1 _ rfl
      have m2 : (wc.setCell ⟨W.heap.size, 4, none⟩ (.bool false)).cell? ⟨W.heap.size + 2, 2, none⟩ = some (.slice none 0 0) := y3.cell 2 _ rfl
      have m3 : (wc.setCell ⟨W.heap.size, 4, none⟩ (.bool false)).cell? ⟨W.heap.size + 2, 3, none⟩ = some (.slice none 0 0) := y3.cell 3 _ rfl
      have m4 : (wc.setCell ⟨W.heap.size, 4, none⟩ (.bool false)).cell? ⟨W.heap.size + 2, 4, none⟩ = some (.bool false) := y3.cell 4 _ rfl
      have mf : ∀ j, (wc.setCell ⟨W.heap.size, 4, none⟩ (.bool false)).frozen? ⟨W.heap.size + 2, j, none⟩ = false := y3.free
      have HD := Lib.hid (hrb2.done (Q := fun A' X' Y' op' => X' = X ∧ Y' = Y ∧ op' = false ∧ Done A A') (show k + 60000 ≤ k + 400000 by omega) hk2 HJ.out ⟨rfl, rfl, rfl, hdn⟩)
      have HY := Lib.hid y3
      clear hrb hkp hrb2 hk2 y1 y3 o bx HOP HB
      go_wp2_with fail
      refine bodyPost_ret (UK.box_ret2 rfl _ (HY.out.fill5 _ _ _ _ _) rfl run_under rfl run_size) rfl ?_
      exact HD.out
end
end Go.Proofs.YtokgidhokcoadaaGreatDoor
