/-
  Two things in memory, each with blocks of its own (two pools): a call on one of them leaves the other as it was.
-/
import Derived.Test.YtjfkdfffolkblaaDoorPoolJ
namespace Go.Proofs.YtjfkdfffolkblaaDoor
open Go.RowKit
open UK (str BytesAt nth Only Row Box)
/-- what stands in memory beside blocks that it leaves alone -/
structure Stands2 (Z : (Nat → Prop) → World → Prop) : Prop where
  over : ∀ (E : Nat → Prop) (W W' : World) (R T : Nat → Prop), Z E W → (∀ j, R j → E j) → ¬ R 0 → W.heap.size ≤ W'.heap.size → (∀ j, j < W.heap.size → ¬ R j → W'.heap[j]? = W.heap[j]?) → (∀ j, T j → E j ∨ (W.heap.size ≤ j ∧ j < W'.heap.size)) → Z T W'
  tab : ∀ (E : Nat → Prop) (W : World), Z E W → 0 < W.heap.size
theorem stands_pz (P D : Nat) (A : AP) (k : Nat) : Stands2 (fun E W => PZ E W P D A k) :=
  ⟨fun _ _ _ _ _ h a b c d e => h.over a b c d e, fun _ _ h => h.tab.lt⟩
theorem PF.tab {E : Nat → Prop} {W : World} {P D k fb db cap pg : Nat} {A : AP} {dy : Bool} (h : PF E W P D A k fb db cap pg dy) : TabAt W := by
  obtain ⟨FB, M, n, q, d, i, f, h1, _⟩ := h
  exact h1.pd.dd.tab
theorem stands_pf (P D : Nat) (A : AP) (k fb db cap pg : Nat) (dy : Bool) : Stands2 (fun E W => PF E W P D A k fb db cap pg dy) :=
  ⟨fun _ _ _ _ _ h a b c d e => h.over a b c d e, fun _ _ h => h.tab.lt⟩
/-- two of them -/
def Pair2 (E : Nat → Prop) (W : World) (Z1 Z2 : (Nat → Prop) → World → Prop) : Prop :=
  ∃ o1 o2 : Nat → Prop, (∀ j, o1 j → ¬ o2 j) ∧ (∀ j, o1 j → j < W.heap.size) ∧ (∀ j, o2 j → j < W.heap.size) ∧ (∀ j, E j → ¬ o1 j ∧ ¬ o2 j ∧ j < W.heap.size) ∧ ¬ o1 0 ∧ ¬ o2 0 ∧
    Z1 (fun j => ¬ o1 j ∧ j < W.heap.size) W ∧ Z2 (fun j => ¬ o2 j ∧ j < W.heap.size) W
section
variable {E : Nat → Prop} {W W' : World} {Z1 Z2 Z1' Z2' : (Nat → Prop) → World → Prop}
theorem Pair2.swap (h : Pair2 E W Z1 Z2) : Pair2 E W Z2 Z1 := by
  obtain ⟨o1, o2, a, b, c, d, t1, t2, z1, z2⟩ := h
  exact ⟨o2, o1, fun j h2 h1 => a j h1 h2, c, b, fun j hj => ⟨(d j hj).2.1, (d j hj).1, (d j hj).2.2⟩, t2, t1, z2, z1⟩
theorem Pair2.there (h : Pair2 E W Z1 Z2) : ∀ j, E j → j < W.heap.size := by
  obtain ⟨o1, o2, a, b, c, d, _⟩ := h
  exact fun j hj => (d j hj).2.2
/-- new blocks -/
theorem Pair2.next (h : Pair2 E W Z1 Z2) (s1 : Stands2 Z1) (s2 : Stands2 Z2) (hb : Below W.heap.size W W') {T : Nat → Prop} (hT : ∀ j, T j → E j ∨ (W.heap.size ≤ j ∧ j < W'.heap.size)) : Pair2 T W' Z1 Z2 := by
  obtain ⟨o1, o2, a, b, c, d, t1, t2, z1, z2⟩ := h
  refine ⟨o1, o2, a, fun j hj => Nat.lt_of_lt_of_le (b j hj) hb.size, fun j hj => Nat.lt_of_lt_of_le (c j hj) hb.size, fun j hj => ?_, t1, t2, ?_, ?_⟩
  · rcases hT j hj with h | h
    · exact ⟨(d j h).1, (d j h).2.1, Nat.lt_of_lt_of_le (d j h).2.2 hb.size⟩
    · exact ⟨fun h1 => by have := b j h1; omega, fun h2 => by have := c j h2; omega, h.2⟩
  · refine s1.over _ _ _ (fun _ => False) _ z1 (fun j hj => hj.elim) id hb.size (fun j hj _ => hb.block j hj) (fun j hj => ?_)
    by_cases h : j < W.heap.size
    · exact .inl ⟨hj.1, h⟩
    · exact .inr ⟨by omega, hj.2⟩
  · refine s2.over _ _ _ (fun _ => False) _ z2 (fun j hj => hj.elim) id hb.size (fun j hj _ => hb.block j hj) (fun j hj => ?_)
    by_cases h : j < W.heap.size
    · exact .inl ⟨hj.1, h⟩
    · exact .inr ⟨by omega, hj.2⟩
/-- foreign blocks have turned -/
theorem Pair2.over (h : Pair2 E W Z1 Z2) (s1 : Stands2 Z1) (s2 : Stands2 Z2) {R : Nat → Prop} (hR : ∀ j, R j → E j) (hRt : ¬ R 0) (hs : W.heap.size ≤ W'.heap.size) (hk : ∀ j, j < W.heap.size → ¬ R j → W'.heap[j]? = W.heap[j]?) : Pair2 E W' Z1 Z2 := by
  obtain ⟨o1, o2, a, b, c, d, t1, t2, z1, z2⟩ := h
  refine ⟨o1, o2, a, fun j hj => Nat.lt_of_lt_of_le (b j hj) hs, fun j hj => Nat.lt_of_lt_of_le (c j hj) hs, fun j hj => ⟨(d j hj).1, (d j hj).2.1, Nat.lt_of_lt_of_le (d j hj).2.2 hs⟩, t1, t2, ?_, ?_⟩
  · refine s1.over _ _ _ R _ z1 (fun j hj => ⟨(d j (hR j hj)).1, (d j (hR j hj)).2.2⟩) hRt hs hk (fun j hj => ?_)
    by_cases h : j < W.heap.size
    · exact .inl ⟨hj.1, h⟩
    · exact .inr ⟨by omega, hj.2⟩
  · refine s2.over _ _ _ R _ z2 (fun j hj => ⟨(d j (hR j hj)).2.1, (d j (hR j hj)).2.2⟩) hRt hs hk (fun j hj => ?_)
    by_cases h : j < W.heap.size
    · exact .inl ⟨hj.1, h⟩
    · exact .inr ⟨by omega, hj.2⟩
/-- the first one has turned -/
theorem Pair2.turn (h : Pair2 E W Z1 Z2) (s2 : Stands2 Z2) (hz : ∀ S : Nat → Prop, (∀ j, S j → j < W.heap.size) → Z1 S W → Z1' S W' ∧ Kept S W W') (n1 : ∀ (S T : Nat → Prop), Z1' S W' → (∀ j, T j → S j) → Z1' T W') : Pair2 E W' Z1' Z2 ∧ Kept E W W' := by
  obtain ⟨o1, o2, a, b, c, d, t1, t2, z1, z2⟩ := h
  obtain ⟨z1', kk⟩ := hz _ (fun j hj => hj.2) z1
  refine ⟨⟨fun j => o1 j ∨ (W.heap.size ≤ j ∧ j < W'.heap.size), o2, fun j hj h2 => ?_, fun j hj => ?_, fun j hj => Nat.lt_of_lt_of_le (c j hj) kk.size, fun j hj => ⟨fun h1 => ?_, (d j hj).2.1, Nat.lt_of_lt_of_le (d j hj).2.2 kk.size⟩, fun h1 => ?_, t2, ?_, ?_⟩, kk.mono (fun j hj => ⟨(d j hj).1, (d j hj).2.2⟩)⟩
  · rcases hj with hj | hj
    · exact a j hj h2
    · have := c j h2; omega
  · rcases hj with hj | hj
    · exact Nat.lt_of_lt_of_le (b j hj) kk.size
    · exact hj.2
  · rcases h1 with h1 | h1
    · exact (d j hj).1 h1
    · have := (d j hj).2.2; omega
  · rcases h1 with h1 | h1
    · exact t1 h1
    · have := s2.tab _ _ z2; omega
  · refine n1 _ _ z1' (fun j hj => ⟨fun h1 => hj.1 (.inl h1), ?_⟩)
    by_cases h : j < W.heap.size
    · exact h
    · exact absurd (Or.inr ⟨by omega, hj.2⟩) hj.1
  · refine s2.over _ _ _ o1 _ z2 (fun j hj => ⟨a j hj, b j hj⟩) t1 kk.size (fun j hj hn => kk.block j ⟨hn, hj⟩) (fun j hj => ?_)
    by_cases h : j < W.heap.size
    · exact .inl ⟨hj.1, h⟩
    · exact .inr ⟨by omega, hj.2⟩
theorem Stands2.less {Z : (Nat → Prop) → World → Prop} (s : Stands2 Z) {S T : Nat → Prop} (h : Z S W) (hT : ∀ j, T j → S j) : Z T W :=
  s.over S W W (fun _ => False) T h (fun _ hj => hj.elim) id (Nat.le_refl _) (fun _ _ _ => rfl) (fun j hj => .inl (hT j hj))
/-- a call on the first one -/
theorem Pair2.left {α : Type} {f : FuncId} {args : Array Value} {R : α → Ending → Prop} {Z : α → (Nat → Prop) → World → Prop} (h : Pair2 E W Z1 Z2) (s2 : Stands2 Z2) (sz : ∀ x, Stands2 (Z x))
    (hc : ∀ S, Z1 S W → Calls Tryd.prog f args W fun e w' => ∃ x, R x e ∧ Z x S w' ∧ Kept S W w') :
    Calls Tryd.prog f args W fun e w' => ∃ x, R x e ∧ Pair2 E w' (Z x) Z2 ∧ Kept E W w' := by
  obtain ⟨o1, o2, a, b, c, d, t1, t2, z1, z2⟩ := h
  refine (hc _ z1).mono ?_
  rintro e w' ⟨x, hr, z1', kk⟩
  refine ⟨x, hr, ?_, kk.mono (fun j hj => ⟨(d j hj).1, (d j hj).2.2⟩)⟩
  refine ⟨fun j => o1 j ∨ (W.heap.size ≤ j ∧ j < w'.heap.size), o2, fun j hj h2 => ?_, fun j hj => ?_, fun j hj => Nat.lt_of_lt_of_le (c j hj) kk.size, fun j hj => ⟨fun h1 => ?_, (d j hj).2.1, Nat.lt_of_lt_of_le (d j hj).2.2 kk.size⟩, fun h1 => ?_, t2, ?_, ?_⟩
  · rcases hj with hj | hj
    · exact a j hj h2
    · have := c j h2; omega
  · rcases hj with hj | hj
    · exact Nat.lt_of_lt_of_le (b j hj) kk.size
    · exact hj.2
  · rcases h1 with h1 | h1
    · exact (d j hj).1 h1
    · have := (d j hj).2.2; omega
  · rcases h1 with h1 | h1
    · exact t1 h1
    · have := s2.tab _ _ z2; omega
  · refine (sz x).less z1' (fun j hj => ⟨fun h1 => hj.1 (.inl h1), ?_⟩)
    by_cases h : j < W.heap.size
    · exact h
    · exact absurd (Or.inr ⟨by omega, hj.2⟩) hj.1
  · refine s2.over _ _ _ o1 _ z2 (fun j hj => ⟨a j hj, b j hj⟩) t1 kk.size (fun j hj hn => kk.block j ⟨hn, hj⟩) (fun j hj => ?_)
    by_cases h : j < W.heap.size
    · exact .inl ⟨hj.1, h⟩
    · exact .inr ⟨by omega, hj.2⟩
theorem Pair2.right {α : Type} {f : FuncId} {args : Array Value} {R : α → Ending → Prop} {Z : α → (Nat → Prop) → World → Prop} (h : Pair2 E W Z1 Z2) (s1 : Stands2 Z1) (sz : ∀ x, Stands2 (Z x))
    (hc : ∀ S, Z2 S W → Calls Tryd.prog f args W fun e w' => ∃ x, R x e ∧ Z x S w' ∧ Kept S W w') :
    Calls Tryd.prog f args W fun e w' => ∃ x, R x e ∧ Pair2 E w' Z1 (Z x) ∧ Kept E W w' :=
  (h.swap.left s1 sz hc).mono fun _ _ ⟨x, a, b, c⟩ => ⟨x, a, b.swap, c⟩
/-- a pool's own blocks -/
theorem PZ.own {P D k : Nat} {A : AP} (h : PZ E W P D A k) : ∃ o : Nat → Prop, (∀ j, o j → j < W.heap.size) ∧ (∀ j, E j → ¬ o j ∧ j < W.heap.size) ∧ ¬ o 0 ∧ PZ (fun j => ¬ o j ∧ j < W.heap.size) W P D A k := by
  obtain ⟨FB, M, n, q, d, h1, r⟩ := h
  obtain ⟨⟨own, ho, B, bc, fo, fc, I, ic, y, hd⟩, ft, hS⟩ := h1.pd.dd
  have hpl := fun j (hj : PBlk P FB M q.frames q.op j) => h1.pd.pool.lt hj
  refine ⟨fun j => PBlk P FB M q.frames q.op j ∨ (own j ∧ j < W.heap.size), fun j hj => hj.elim (hpl j) (fun h => h.2), fun j hj => ⟨fun hh => ?_, h1.pd.dd.there j (.inl hj)⟩, fun hh => ?_, FB, M, n, q, d, ⟨⟨h1.pd.pool, ⟨⟨fun j => own j ∧ j < W.heap.size, fun j hj hh => ?_, B, bc, fo, fc, I, ic, y, hd.tight⟩, ft, fun j hj => hj.elim (fun h => h.2) (hpl j)⟩, fun j hj hp => hj.1 (.inl hp)⟩, h1.ok, h1.dok, h1.held, h1.pins, h1.len, h1.calm, h1.lim⟩, r⟩
  · rcases hh with hh | hh
    · exact h1.pd.far j hj hh
    · exact ho j hh.1 (.inl hj)
  · rcases hh with hh | hh
    · exact h1.pd.pool.tab _ hh rfl
    · exact hd.notab hh.1
  · rcases hh with hh | hh
    · exact hh.1 (.inr hj)
    · exact ho j hj.1 (.inr hh)
/-- two pools, made one behind the other -/
theorem pair_make {T S : Nat → Prop} {W3 W4 : World} {P D k Q F m : Nat} {A B : AP} (h1 : PZ T W3 P D A k) (h2 : PZ S W4 Q F B m) (kk : Kept S W3 W4) (hT : ∀ j, j < W3.heap.size → ¬ S j → T j) (hE : ∀ j, E j → T j ∧ S j) (htab : S 0) :
    Pair2 E W4 (fun E W => PZ E W P D A k) (fun E W => PZ E W Q F B m) := by
  obtain ⟨o1, b1, d1, t1, z1⟩ := h1.own
  obtain ⟨o2, b2, d2, t2, z2⟩ := h2.own
  have h12 : ∀ j, o1 j → S j := fun j hj => by
    by_cases hs : S j
    · exact hs
    · exact absurd hj (d1 j (hT j (b1 j hj) hs)).1
  refine ⟨o1, o2, fun j hj h2 => (d2 j (h12 j hj)).1 h2, fun j hj => Nat.lt_of_lt_of_le (b1 j hj) kk.size, b2, fun j hj => ⟨(d1 j (hE j hj).1).1, (d2 j (hE j hj).2).1, (d2 j (hE j hj).2).2⟩, t1, t2, ?_, z2⟩
  refine z1.over (R := fun j => ¬ S j ∧ j < W3.heap.size) (fun j hj => ⟨fun h => hj.1 (h12 j h), hj.2⟩) (fun h => h.1 htab) kk.size (fun j hj hn => kk.block j (by
    by_cases hs : S j
    · exact hs
    · exact absurd ⟨hs, hj⟩ hn)) (fun j hj => ?_)
  by_cases h : j < W3.heap.size
  · exact .inl ⟨hj.1, h⟩
  · exact .inr ⟨by omega, hj.2⟩
end
end Go.Proofs.YtjfkdfffolkblaaDoor
