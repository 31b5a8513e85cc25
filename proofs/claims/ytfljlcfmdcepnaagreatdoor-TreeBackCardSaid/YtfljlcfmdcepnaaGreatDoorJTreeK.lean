/-
  A tree that is one leaf: put.
  A tree that is one leaf: behind the node's turn; full.
  A region that draws its order, and stores into cells that it loads: a condition S on the world, given up behind the operations that come behind all loads.
  A tree that is one leaf: put of a new key: the walk.
-/
import Derived.Test.YtfljlcfmdcepnaaGreatDoorJTrA
import Derived.Deep.RegionHeld3
import Derived.OwnWalk
namespace Go.Proofs.YtfljlcfmdcepnaaGreatDoor
open Go.RowKit
open UK (str BytesAt nth Only Row Box w32)
open Go.BigFrame
section
variable {E : Nat → Prop} {W W' : World} {P D T k pg N M nb kc vc ac : Nat} {root : Int} {A : AP} {x : Nd} {ka va aa : Option Addr}
theorem NR.win {S : Nat → Prop} {ao : Option Addr} {c : Nat} {vs : List Value} (h : NR W ao c vs) (hS : ∀ g, slB ao g → S g) : Win S W (.slice ao vs.length c) vs := by
  rcases h with ⟨rfl, rfl, rfl⟩ | ⟨g, rfl, r⟩
  · exact ⟨none, 0, rfl, Nat.le_refl _, fun j u hj => by cases hj⟩
  · exact ⟨_, c, rfl, r.le, fun j u hj => ⟨g, 0, rfl, hS g rfl, by rw [Nat.zero_add]; exact r.at' j u hj⟩⟩
theorem NodeO.reads {S : Nat → Prop} (h : NodeO N W nb x ka va aa kc vc ac) (hnb : S nb) (hS : ∀ g, slB ka g ∨ slB va g ∨ slB aa g → S g) : NodeR S W nb x :=
  ⟨_, _, _, h.box, hnb, by have := h.k.win (fun g hg => hS g (.inl hg)); rw [u64s_length] at this; exact this, by have := h.v.win (fun g hg => hS g (.inr (.inl hg))); rw [u64s_length] at this; exact this, by have := h.a.win (fun g hg => hS g (.inr (.inr hg))); rw [ints_length] at this; exact this⟩
theorem bel_alloc {a w : World} (h : Below a.heap.size a w) (o : Obj) : Below a.heap.size a (w.alloc o) := h.alloc h.size o
theorem bel_drew {a w : World} (h : Below a.heap.size a w) : Below a.heap.size a w.drew := h.drew
theorem boxd {w : World} {cs : Array Value} {vb : Nat} (h : Box w vb cs) : Box w.drew vb cs := h
theorem boxa {w : World} {cs : Array Value} {vb : Nat} (h : Box w vb cs) (o : Obj) : Box (w.alloc o) vb cs := h.alloc o
theorem box_at {w : World} {cs : Array Value} {t : TypeId} {vb : Nat} (h : vb = w.heap.size) : Box (w.alloc (.cells cs t)) vb cs := by rw [h]; exact Box.new w cs t
structure Mid1 (N : Nat) (W w : World) (nb : Nat) (x : Nd) (ka va aa : Option Addr) (kc vc ac : Nat) (l : List UInt64) (g c : Nat) : Prop where
  row : Row w g c (u64s l)
  v : NR w va vc (u64s x.vals)
  a : NR w aa ac (ints x.kids)
  box : Box w nb #[.bool x.leaf, .slice ka x.keys.length kc, .slice va x.vals.length vc, .slice aa x.kids.length ac]
  ge : N ≤ g
  ne : g ≠ nb
  gv : ¬ slB va g
  ga : ¬ slB aa g
  kept : Kept (fun j => j < W.heap.size ∧ ¬ (slB ka j ∨ slB va j ∨ j = nb)) W w
  own : slB ka g ∨ W.heap.size ≤ g
theorem Mid1.next {l : List UInt64} {g c : Nat} {w w' : World} (h : Mid1 N W w nb x ka va aa kc vc ac l g c) (hb : Below w.heap.size w w') : Mid1 N W w' nb x ka va aa kc vc ac l g c :=
  ⟨h.row.below hb h.row.lt, h.v.of_block hb.size (fun j hj => hb.block j (h.v.lt hj)), h.a.of_block hb.size (fun j hj => hb.block j (h.a.lt hj)), h.box.next hb, h.ge, h.ne, h.gv, h.ga, h.kept.trans (Kept.of_below hb (fun _ hj => Nat.lt_of_lt_of_le hj.1 h.kept.size)), h.own⟩
theorem NodeO.mid1 {l : List UInt64} {g c : Nat} {wa w : World} (h : NodeO N W nb x ka va aa kc vc ac) (hN : N ≤ W.heap.size) (ba : Below W.heap.size W wa) (r : Row w g c (u64s l)) (o : Only g wa w) (hg : slB ka g ∨ wa.heap.size ≤ g) : Mid1 N W w nb x ka va aa kc vc ac l g c := by
  have hA := h.next ba
  have hs := ba.size
  have hnb := h.box.lt
  have hne : N ≤ g ∧ g ≠ nb := by
    rcases hg with h1 | h1
    · exact h.new g (.inl h1)
    · exact ⟨by omega, by omega⟩
  have gv : ¬ slB va g := by
    rcases hg with h1 | h1
    · exact h.kv g h1
    · exact fun e => by have := h.v.lt e; omega
  have ga : ¬ slB aa g := by
    rcases hg with h1 | h1
    · exact h.ka g h1
    · exact fun e => by have := h.a.lt e; omega
  refine ⟨r, hA.v.only o gv, hA.a.only o ga, hA.box.only o hne.2.symm, hne.1, hne.2, gv, ga, ⟨o.os.trans ba.os, o.tape.trans ba.tape, o.output.trans ba.output, Nat.le_trans hs o.size, fun j hj => ?_⟩, ?_⟩
  · refine (o.block j (Nat.lt_of_lt_of_le hj.1 hs) (fun e => ?_)).trans (ba.block j hj.1)
    subst e
    rcases hg with h1 | h1
    · exact hj.2 (.inl h1)
    · have := hj.1; omega
  · rcases hg with h1 | h1
    · exact .inl h1
    · exact .inr (by omega)
theorem Mid1.done {l m : List UInt64} {g c g2 c2 : Nat} {wb w : World} (h : Mid1 N W wb nb x ka va aa kc vc ac l g c) (hv0 : NodeO N W nb x ka va aa kc vc ac) (r : Row w g2 c2 (u64s m)) (o : Only g2 wb w) (hg : slB va g2 ∨ wb.heap.size ≤ g2) :
    NodeO N ((w.setCell ⟨nb, 1, none⟩ (.slice (some ⟨g, 0, none⟩) l.length c)).setCell ⟨nb, 2, none⟩ (.slice (some ⟨g2, 0, none⟩) m.length c2)) nb { x with keys := l, vals := m } (some ⟨g, 0, none⟩) (some ⟨g2, 0, none⟩) aa c c2 ac ∧
    Kept (fun j => j < W.heap.size ∧ ¬ (slB ka j ∨ slB va j ∨ j = nb)) W ((w.setCell ⟨nb, 1, none⟩ (.slice (some ⟨g, 0, none⟩) l.length c)).setCell ⟨nb, 2, none⟩ (.slice (some ⟨g2, 0, none⟩) m.length c2)) ∧
    Box w nb #[.bool x.leaf, .slice ka x.keys.length kc, .slice va x.vals.length vc, .slice aa x.kids.length ac] ∧ g2 ≠ nb := by
  have hgl := h.row.lt
  have hnl := h.box.lt
  have hks := h.kept.size
  have hWn := hv0.box.lt
  have hNg := hv0.ge
  have hne : N ≤ g2 ∧ g2 ≠ nb := by
    rcases hg with h1 | h1
    · exact hv0.new g2 (.inr (.inl h1))
    · exact ⟨by omega, by omega⟩
  have g12 : g2 ≠ g := by
    rcases hg with h1 | h1
    · exact fun e => h.gv (e ▸ h1)
    · omega
  have ga : ¬ slB aa g2 := by
    rcases hg with h1 | h1
    · exact hv0.va g2 h1
    · exact fun e => by have := h.a.lt e; omega
  have r1 := h.row.only o g12.symm
  have a1 := h.a.only o ga
  have b1 := h.box.only o hne.2.symm
  have o2 : Only nb w ((w.setCell ⟨nb, 1, none⟩ (.slice (some ⟨g, 0, none⟩) l.length c)).setCell ⟨nb, 2, none⟩ (.slice (some ⟨g2, 0, none⟩) m.length c2)) := ((Only.refl nb w).set 1 _).set 2 _
  have b2 := (b1.set 1 (.slice (some ⟨g, 0, none⟩) l.length c)).set 2 (.slice (some ⟨g2, 0, none⟩) m.length c2)
  generalize (w.setCell ⟨nb, 1, none⟩ (.slice (some ⟨g, 0, none⟩) l.length c)).setCell ⟨nb, 2, none⟩ (.slice (some ⟨g2, 0, none⟩) m.length c2) = w3 at o2 b2 ⊢
  refine ⟨⟨by simpa using b2, .inr ⟨g, rfl, r1.only o2 h.ne⟩, .inr ⟨g2, rfl, r.only o2 hne.2⟩, a1.only o2 (fun e => (hv0.new nb (.inr (.inr e))).2 rfl), hv0.ge, fun j hj => ?_, fun _ hj e => ?_, fun _ hj e => ?_, fun _ hj e => ?_⟩, ⟨(o2.os.trans o.os).trans h.kept.os, (o2.tape.trans o.tape).trans h.kept.tape, (o2.output.trans o.output).trans h.kept.output, Nat.le_trans (Nat.le_trans hks o.size) o2.size, fun j hj => ?_⟩, b1, hne.2⟩
  · rcases hj with hj | hj | hj
    · rw [slB_inj hj]; exact ⟨h.ge, h.ne⟩
    · rw [slB_inj hj]; exact hne
    · exact hv0.new j (.inr (.inr hj))
  · have e1 := slB_inj hj
    have e2 := slB_inj e
    exact g12 (by omega)
  · rw [slB_inj hj] at e; exact h.ga e
  · rw [slB_inj hj] at e; exact ga e
  · have hjb : j < wb.heap.size := Nat.lt_of_lt_of_le hj.1 hks
    refine ((o2.block j (Nat.lt_of_lt_of_le hjb o.size) (fun e => hj.2 (.inr (.inr e)))).trans (o.block j hjb (fun e => ?_))).trans (h.kept.block j hj)
    subst e
    rcases hg with h1 | h1
    · exact hj.2 (.inr (.inl h1))
    · omega
structure TreeAt (E : Nat → Prop) (W : World) (P D T root : Nat) (A : AP) (k : Nat) : Prop where
  pz : PZ E W P D A k
  box : Box W T #[.pointer (some ⟨P, 0, none⟩), .int .i64 root]
  mem : E T
def PutL (E : Nat → Prop) (W w' : World) (P D T root : Nat) (A : AP) (k pg : Nat) (ks vs : List UInt64) (key v : UInt64) (e : Ending) : Prop :=
  ∃ i : Nat, e = .returned (.tuple #[.int .i64 0, .int .u64 0, .int .i64 0]) ∧ Stands ks key i ∧ TreeAt E w' P D T root (A.wrote pg (encLeaf (A.c pg) (ks.take i ++ key :: ks.drop i) (vs.take i ++ v :: vs.drop i))) k ∧ Kept E W w'
def PutM (N : Nat) (W w : World) (nb : Nat) (ka va : Option Addr) (l m : List UInt64) : Prop :=
  ∃ ka' va' c c2, NodeO N w nb { leaf := true, keys := l, vals := m, kids := [] } ka' va' none c c2 0 ∧ Kept (fun j => j < W.heap.size ∧ ¬ (slB ka j ∨ slB va j ∨ j = nb)) W w ∧ (∀ j, slB ka' j → slB ka j ∨ W.heap.size ≤ j) ∧ (∀ j, slB va' j → slB va j ∨ W.heap.size ≤ j)
theorem putM_of {wb w : World} {ks vs : List UInt64} {i g c g2 c2 : Nat} {key v : UInt64} (h : NodeO N W nb { leaf := true, keys := ks, vals := vs, kids := [] } ka va none kc vc 0) (hi : i ≤ ks.length) (hlv : vs.length = ks.length)
    (m : Mid1 N W wb nb { leaf := true, keys := ks, vals := vs, kids := [] } ka va none kc vc 0 (ks.take i ++ key :: ks.drop i) g c) (r : Row w g2 c2 (u64s (vs.take i ++ v :: vs.drop i))) (o : Only g2 wb w) (hg : slB va g2 ∨ wb.heap.size ≤ g2) :
    PutM N W ((w.setCell ⟨nb, 1, none⟩ (.slice (some ⟨g, 0, none⟩) (ks.length + 1) c)).setCell ⟨nb, 2, none⟩ (.slice (some ⟨g2, 0, none⟩) (ks.length + 1) c2)) nb ka va (ks.take i ++ key :: ks.drop i) (vs.take i ++ v :: vs.drop i) := by
  obtain ⟨d1, d2, _, _⟩ := m.done h r o hg
  have e1 : (ks.take i ++ key :: ks.drop i).length = ks.length + 1 := by simp; omega
  have e2 : (vs.take i ++ v :: vs.drop i).length = ks.length + 1 := by simp; omega
  rw [e1, e2] at d1 d2
  refine ⟨_, _, _, _, d1, d2, fun j hj => ?_, fun j hj => ?_⟩
  · rw [slB_inj hj]; exact m.own
  · rw [slB_inj hj]
    rcases hg with h1 | h1
    · exact .inl h1
    · exact .inr (Nat.le_trans m.kept.size h1)
end
end Go.Proofs.YtfljlcfmdcepnaaGreatDoor
namespace Go.Proofs.YtfljlcfmdcepnaaGreatDoor
open Go.RowKit
open UK (str BytesAt nth Only Row Box w32)
open Go.BigFrame
section
variable {E : Nat → Prop} {W W' w2 wc : World} {P D T k k0 pg N M nb kc vc ac : Nat} {rt : Nat} {A : AP} {x : Nd} {ka va aa : Option Addr}
theorem slB_lt {ao : Option Addr} {c : Nat} {vs : List Value} {j : Nat} (h : NR W ao c vs) (hj : slB ao j) : j < W.heap.size := h.lt hj
theorem putM_next {ks vs l m : List UInt64} (h : TreeAt E W P D T rt A k0) (hN : W.heap.size ≤ N) (hn1 : NodeO N w2 nb { leaf := true, keys := ks, vals := vs, kids := [] } ka va none kc vc 0) (hnM : nb < M) (hgM : ∀ g, slB ka g ∨ slB va g ∨ slB none g → g < M)
    (p1 : PZ (fun j => E j ∨ N ≤ j ∧ j < M) w2 P D A k) (k1 : Kept E W w2) (hp : PutM N w2 wc nb ka va l m) :
    PZ (fun j => E j ∨ (N ≤ j ∧ j < M) ∨ (w2.heap.size ≤ j ∧ j < wc.heap.size)) wc P D A k ∧ NodeR (fun j => E j ∨ (N ≤ j ∧ j < M) ∨ (w2.heap.size ≤ j ∧ j < wc.heap.size)) wc nb { leaf := true, keys := l, vals := m, kids := [] } ∧ Box wc T #[.pointer (some ⟨P, 0, none⟩), .int .i64 rt] ∧ Kept E W wc := by
  obtain ⟨ka', va', c, c2, hn2, k2, hoa, hob⟩ := hp
  have hR : ∀ j, slB ka j ∨ slB va j ∨ j = nb → N ≤ j ∧ j < M := fun j hj => by
    rcases hj with hj | hj | rfl
    · exact ⟨(hn1.new j (.inl hj)).1, hgM j (.inl hj)⟩
    · exact ⟨(hn1.new j (.inr (.inl hj))).1, hgM j (.inr (.inl hj))⟩
    · exact ⟨hn1.ge, hnM⟩
  have hE := h.pz.there
  have kE : Kept E w2 wc := k2.mono (fun j hj => ⟨Nat.lt_of_lt_of_le (hE j hj) k1.size, fun hr => by have := (hR j hr).1; have := hE j hj; omega⟩)
  refine ⟨p1.over (R := fun j => slB ka j ∨ slB va j ∨ j = nb) (fun j hj => .inr (hR j hj)) (fun hr => by have := (hR _ hr).1; have := h.pz.tab.lt; omega) k2.size (fun j hj hr => k2.block j ⟨hj, hr⟩) (fun j hj => ?_), hn2.reads (.inr (.inl ⟨hn1.ge, hnM⟩)) (fun g hg => ?_), (h.box.of_block (k1.block T h.mem)).of_block (kE.block T h.mem), k1.trans kE⟩
  · rcases hj with hj | hj | hj
    · exact .inl (.inl hj)
    · exact .inl (.inr hj)
    · exact .inr hj
  · rcases hg with hg | hg | hg
    · rcases hoa g hg with h1 | h1
      · exact .inr (.inl (hR g (.inl h1)))
      · exact .inr (.inr ⟨h1, slB_lt hn2.k hg⟩)
    · rcases hob g hg with h1 | h1
      · exact .inr (.inl (hR g (.inr (.inl h1))))
      · exact .inr (.inr ⟨h1, slB_lt hn2.v hg⟩)
    · cases hg
set_option maxRecDepth 100000 in
theorem full_leaf {S : Nat → Prop} (hn : NodeR S W nb x) (hx : x.keys.length ≤ 30) (hk : x.kids = []) :
    Calls Tryz.prog 111 #[.pointer (some ⟨nb, 0, none⟩)] W fun e w' => e = .returned (.bool false) ∧ w' = W := by
  obtain ⟨kv, vv, av, b, hb, ⟨ao, c, rfl, _, _⟩, _, ⟨bo, d, rfl, _, _⟩⟩ := hn
  rw [u64s_length] at b
  rw [ints_length, hk] at b
  have c1 : W.cell? ⟨nb, 1, none⟩ = some (.slice ao x.keys.length c) := b.cell 1 _ rfl
  have c3 : W.cell? ⟨nb, 3, none⟩ = some (.slice bo 0 d) := b.cell 3 _ rfl
  have d1 : decide ((30 : Int) < (x.keys.length : Int)) = false := decide_eq_false (by omega)
  clear b hk
  go_enter Tryz.func111, Tryz.ntmps111
  go_wp2
  go_ret
  exact ⟨rfl, rfl⟩
end
end Go.Proofs.YtfljlcfmdcepnaaGreatDoor
namespace Go.Proofs.YtfljlcfmdcepnaaGreatDoor
section
variable {P : Program} {ops : Array Oper} {Q : Exit → Act → World → Prop} {md : Region.Mode} {S : World → Prop} {late : Nat → Bool}
def wpLate (P : Program) (md : Region.Mode) (ops : Array Oper) (Q : Exit → Act → World → Prop) (S : World → Prop) (late : Nat → Bool) : Nat → Array Bool → Act → World → Prop
  | 0, listed, a, w => Region.ready md ops listed = [] ∧ Q .normal a w
  | fuel + 1, listed, a, w =>
    (Region.ready md ops listed = [] → Q .normal a w) ∧
    ∀ i ∈ Region.ready md ops listed, wpOp P ops Q i (fun a' w' => (late i = false → S w') ∧ wpLate P md ops Q S late fuel (listed.setIfInBounds i true) a' w') a w
theorem wpAny_of_late : ∀ (fuel : Nat) (listed : Array Bool) (a : Act) (w : World), wpLate P md ops Q S late fuel listed a w → wpAny P md ops Q fuel listed a w
  | 0, _, _, _, h => h
  | fuel + 1, _, _, _, h => ⟨h.1, fun i hi => wpOp_mono (fun a' w' h' => wpAny_of_late fuel _ a' w' h'.2) (h.2 i hi)⟩
theorem wpLate_first {i : Nat} {oi : Oper} {v : Value} (hi : ops[i]? = some oi) (hsel : ∀ (j : Nat) (o : Oper) cs b, ops[j]? = some o → o.op ≠ .select cs b)
    (hQ : ∀ c a w, Q (.panic c) (a.put oi.dst v) w → Q (.panic c) a w)
    (hlate : ∀ j oj, ops[j]? = some oj → late j = true → ∃ e ∈ oj.after, Region.binds md e = true ∧ e.on = i) :
    ∀ (fuel : Nat) (listed : Array Bool) (a : Act) (w : World),
      (∀ j oj, ops[j]? = some oj → j ≠ i → listed.getD j true = false → (∀ e ∈ oj.after, Region.binds md e = true → e.on ≠ i) → oi.apart ops oj = true) →
      i ∈ Region.ready md ops listed → YieldsIf P ops S oi v a → S w →
      wpLate P md ops Q S late fuel (listed.setIfInBounds i true) (a.put oi.dst v) w → wpLate P md ops Q S late (fuel + 1) listed a w := by
  intro fuel
  induction fuel with
  | zero =>
    intro listed a w _ hr hy hS H
    refine ⟨fun h => (by rw [h] at hr; cases hr), fun j hj => ?_⟩
    by_cases hji : j = i
    · subst hji; exact hy.wpOp hi hS ⟨fun _ => hS, H⟩
    · have := ready_mono hj hji
      rw [H.1] at this
      cases this
  | succ fuel ih =>
    intro listed a w hfree hr hy hS H
    refine ⟨fun h => (by rw [h] at hr; cases hr), fun j hj => ?_⟩
    by_cases hji : j = i
    · subst hji; exact hy.wpOp hi hS ⟨fun _ => hS, H⟩
    · have h1 := H.2 j (ready_mono hj hji)
      obtain ⟨hjun, oj, hoj, hall⟩ := mem_ready.1 hj
      have hnot : ∀ e ∈ oj.after, Region.binds md e = true → e.on ≠ i := fun e he hb heq => by
        have h1 := hall e he hb
        have h0 := (mem_ready.1 hr).1
        rw [heq] at h1
        rcases Nat.lt_or_ge i listed.size with h' | h'
        · simp [h'] at h0 h1; rw [h0] at h1; cases h1
        · simp [Array.getElem?_eq_none h'] at h1
      have hnl : late j = false := by
        cases hl : late j with
        | false => rfl
        | true =>
          obtain ⟨e, he, hb, heq⟩ := hlate j oj hoj hl
          exact absurd heq (hnot e he hb)
      have h2 := wpOp_putIf hoj (hfree j oj hoj hji hjun hnot) (fun cs b => hsel i oi cs b hi) (fun cs b => hsel j oj cs b hoj) hQ hy h1
      have hfree' : ∀ k ok, ops[k]? = some ok → k ≠ i → (listed.setIfInBounds j true).getD k true = false →
          (∀ e ∈ ok.after, Region.binds md e = true → e.on ≠ i) → oi.apart ops ok = true := fun k ok hk hki hun hno => by
        refine hfree k ok hk hki ?_ hno
        by_cases hjk : j = k
        · subst hjk; exact hjun
        · rw [getD_set_ne true hjk] at hun; exact hun
      refine wpOp_mono (fun a' w' h3 => ⟨h3.2.1, ih (listed.setIfInBounds j true) a' w' hfree' (ready_mono hr (Ne.symm hji)) h3.1 (h3.2.1 hnl) ?_⟩) h2
      rw [Array.setIfInBounds_comm _ _ hji]
      exact h3.2.2
def lateOk (md : Region.Mode) (ops : Array Oper) (late : Nat → Bool) (i : Nat) : Bool :=
  (List.range ops.size).all fun j => !late j || match ops[j]? with
    | some o => o.after.any fun e => Region.binds md e && e.on == i
    | none => true
theorem lateOk_spec {i : Nat} (h : lateOk md ops late i = true) : ∀ j oj, ops[j]? = some oj → late j = true → ∃ e ∈ oj.after, Region.binds md e = true ∧ e.on = i := fun j oj hj hl => by
  unfold lateOk at h
  have hlt : j < ops.size := by
    rcases Nat.lt_or_ge j ops.size with h1 | h1
    · exact h1
    · rw [Array.getElem?_eq_none h1] at hj; cases hj
  have := List.all_eq_true.1 h j (List.mem_range.2 hlt)
  rw [hj, hl] at this
  simp only [Bool.not_true, Bool.false_or] at this
  obtain ⟨e, he, hb⟩ := Array.any_eq_true'.1 this
  rw [Bool.and_eq_true] at hb
  exact ⟨e, he, hb.1, by simpa using hb.2⟩
theorem wpLate_take {i : Nat} {oi : Oper} {v : Value} {fuel : Nat} {listed : Array Bool} {a : Act} {w : World} (hi : ops[i]? = some oi)
    (hs : Region.noSelect ops = true) (hf : Region.free md ops listed i = true) (hr : (Region.ready md ops listed).contains i = true) (hl : lateOk md ops late i = true)
    (hQ : ∀ c a w, Q (.panic c) (a.put oi.dst v) w → Q (.panic c) a w) (hS : S w) (hw : Region.wanted oi (yielded ops a.tmps) = true)
    (hy : ∀ w, S w → (execOp a.eval oi).run P w = .ok (.value v) w)
    (h : wpLate P md ops Q S late fuel (listed.setIfInBounds i true) (a.put oi.dst v) w) : wpLate P md ops Q S late (fuel + 1) listed a w :=
  wpLate_first hi (Region.noSelect_spec hs) hQ (lateOk_spec hl) fuel listed a w (Region.free_spec hi hf) (by simpa using hr) (Or.inl ⟨hw, hy⟩) hS h
theorem wpLate_done {listed : Array Bool} {a : Act} {w : World} (hr : Region.ready md ops listed = []) (h : Q .normal a w) :
    ∀ fuel, wpLate P md ops Q S late fuel listed a w
  | 0 => ⟨hr, h⟩
  | _ + 1 => ⟨fun _ => h, by rw [hr]; simp⟩
theorem wpLate_one {i : Nat} {o : Oper} {fuel : Nat} {listed : Array Bool} {a : Act} {w : World} (hr : Region.ready md ops listed = [i]) (ho : ops[i]? = some o)
    (h : ∀ K' : Act → World → Prop, Shut (∀ a w, (late i = false → S w) → wpLate P md ops Q S late fuel (listed.setIfInBounds i true) a w → K' a w) → if Region.wanted o (yielded ops a.tmps) = true then Oper.wp P o a w K' Q else K' (a.put o.dst undef) w) :
    wpLate P md ops Q S late (fuel + 1) listed a w :=
  ⟨fun h0 => absurd (hr ▸ h0) (by simp), fun j hj => by
    rw [hr] at hj
    obtain rfl : j = i := by simpa using hj
    exact wpOp_step ho (fun K' hK => h K' (fun a w hS hW => hK a w ⟨hS, hW⟩))⟩
theorem wpLate_two {i j : Nat} {o q : Oper} {fuel : Nat} {listed : Array Bool} {a : Act} {w : World} (hr : Region.ready md ops listed = [i, j]) (ho : ops[i]? = some o) (hq : ops[j]? = some q)
    (h1 : ∀ K' : Act → World → Prop, Shut (∀ a w, (late i = false → S w) → wpLate P md ops Q S late fuel (listed.setIfInBounds i true) a w → K' a w) → if Region.wanted o (yielded ops a.tmps) = true then Oper.wp P o a w K' Q else K' (a.put o.dst undef) w)
    (h2 : ∀ K' : Act → World → Prop, Shut (∀ a w, (late j = false → S w) → wpLate P md ops Q S late fuel (listed.setIfInBounds j true) a w → K' a w) → if Region.wanted q (yielded ops a.tmps) = true then Oper.wp P q a w K' Q else K' (a.put q.dst undef) w) :
    wpLate P md ops Q S late (fuel + 1) listed a w :=
  ⟨fun h0 => absurd (hr ▸ h0) (by simp), fun k hk => by
    rw [hr] at hk
    rcases List.mem_cons.1 hk with rfl | hk
    · exact wpOp_step ho (fun K' hK => h1 K' (fun a w hS hW => hK a w ⟨hS, hW⟩))
    · obtain rfl : k = j := by simpa using hk
      exact wpOp_step hq (fun K' hK => h2 K' (fun a w hS hW => hK a w ⟨hS, hW⟩))⟩
end
end Go.Proofs.YtfljlcfmdcepnaaGreatDoor
namespace Go.Proofs.YtfljlcfmdcepnaaGreatDoor
open Go.RowKit
open UK (str BytesAt nth Only Row Box w32)
open Go.BigFrame
section
variable {E : Nat → Prop} {W W' : World} {P D T k pg N M nb kc vc ac : Nat} {root : Int} {A : AP} {x : Nd} {ka va aa : Option Addr}
set_option linter.unusedSimpArgs false in
set_option maxHeartbeats 8000000 in
set_option maxRecDepth 100000 in
theorem put_new {rt : Nat} {ks vs : List UInt64} (h : TreeAt E W P D T rt A k) (hk : k + 5 < 900000000) (hl : LeafIs A pg ks vs) (hn : ks.length < 30) (key v : UInt64) (hno : key ∉ ks) (deep : Nat) (hd : deep ≤ 20) :
    Calls Tryz.prog 75 #[.pointer (some ⟨T, 0, none⟩), .int .i64 pg, .int .u64 key.toNat, .int .u64 v.toNat, .int .i64 deep] W fun e w' => PutL E W w' P D T rt A (k + 5) pg ks vs key v e := by
  have HL := Lib.hid (load_leaf h.pz (by omega) h.box hl.has hl.head)
  have HH := Lib.hid (And.intro h hl)
  clear h hl
  go_enter Tryz.func75, Tryz.ntmps75
  go_wp2_with fail
  refine HL.out.mono ?_
  rintro e w1 ⟨N, M, nb, ka, va, kc, vc, rfl, hN, hM, ⟨hn1, hnM, hgM⟩, p1, k1⟩
  obtain ⟨h, hl⟩ := HH.out
  rw [hl.keys, hl.vals] at hn1
  have b0 : w1.cell? ⟨nb, 0, none⟩ = some (.bool true) := hn1.box.cell 0 _ rfl
  have b1 : w1.cell? ⟨nb, 1, none⟩ = some (.slice ka ks.length kc) := hn1.box.cell 1 _ rfl
  have b2 : w1.cell? ⟨nb, 2, none⟩ = some (.slice va vs.length vc) := hn1.box.cell 2 _ rfl
  have hS := search_any (hn1.k.win (S := fun _ => True) (fun _ _ => trivial)) hl.up (show ks.length ≤ 1000 by omega) key
  rw [u64s_length] at hS
  rw [decide_eq_false hno] at hS
  have HS := Lib.hid hS
  have H1 := Lib.hid (And.intro hN (And.intro hM (And.intro hn1 (And.intro hnM (And.intro hgM (And.intro p1 k1))))))
  clear HL hn1 hnM hgM p1 k1 hS hN hM
  go_wp2_with fail
  refine HS.out.mono ?_
  rintro e w2 ⟨i, rfl, hst, rfl⟩
  obtain ⟨hN, hM, hn1, hnM, hgM, p1, k1⟩ := H1.out
  have hlv := hl.len
  have hNs : N ≤ w2.heap.size := by have := hn1.ge; omega
  have HI1 := Lib.hid (fun (wa : World) (vb : Nat) (ba : Below w2.heap.size w2 wa) (hv : Box wa vb #[.int .u64 (key.toNat : Int)]) (hvb : w2.heap.size ≤ vb) => (show Calls Tryz.prog 97 #[.slice ka ks.length kc, .int .i64 i, .slice (some ⟨vb, 0, none⟩) 1 1] wa fun e w' => ∃ g c, e = .returned (.slice (some ⟨g, 0, none⟩) (ks.length + 1) c) ∧ Mid1 N w2 w' nb { leaf := true, keys := ks, vals := vs, kids := [] } ka va none kc vc 0 (ks.take i ++ key :: ks.drop i) g c ∧ (∀ vb' cs, w2.heap.size ≤ vb' → Box wa vb' cs → Box w' vb' cs) ∧ Box w' nb #[.bool true, .slice ka ks.length kc, .slice va vs.length vc, .slice none 0 0] from
    (insert_any (hn1.next ba).k (show ks.length ≤ 1000 by omega) hst.le key hv (fun e => by have := hn1.k.lt e; omega)).mono (fun e w' ⟨g', c', he, r, o, hg⟩ =>
      ⟨g', c', by rw [he]; simp only [List.length_append, List.length_take, List.length_cons, List.length_drop]; rw [show min i ks.length + (ks.length - i + 1) = ks.length + 1 by have := hst.le; omega], hn1.mid1 hNs ba r o hg, fun vb' cs hv' hb => hb.only o (fun e => by
        rcases hg with h1 | h1
        · have := hn1.k.lt h1; omega
        · have := hb.lt; omega), (hn1.mid1 hNs ba r o hg).box⟩)))
  have HI2 := Lib.hid (fun (wb : World) (vb : Nat) (mm : ∃ g c, Mid1 N w2 wb nb { leaf := true, keys := ks, vals := vs, kids := [] } ka va none kc vc 0 (ks.take i ++ key :: ks.drop i) g c) (hv : Box wb vb #[.int .u64 (v.toNat : Int)]) (hvb : w2.heap.size ≤ vb) => (show Calls Tryz.prog 97 #[.slice va vs.length vc, .int .i64 i, .slice (some ⟨vb, 0, none⟩) 1 1] wb fun e w' => ∃ g2 c2, e = .returned (.slice (some ⟨g2, 0, none⟩) (ks.length + 1) c2) ∧ (Row w' g2 c2 (u64s (vs.take i ++ v :: vs.drop i)) ∧ Only g2 wb w' ∧ (slB va g2 ∨ wb.heap.size ≤ g2)) ∧ w'.cell? ⟨nb, 1, none⟩ = some (.slice ka ks.length kc) ∧ w'.cell? ⟨nb, 2, none⟩ = some (.slice va vs.length vc) ∧ w'.frozen? ⟨nb, 1, none⟩ = false ∧ w'.frozen? ⟨nb, 2, none⟩ = false from
    let ⟨_, _, m⟩ := mm
    (insert_any m.v (show vs.length ≤ 1000 by omega) (show i ≤ vs.length by rw [hlv]; exact hst.le) v hv (fun e => by have := hn1.v.lt e; omega)).mono (fun e w' ⟨g', c', he, r, o, hg⟩ => by
      have hd := (m.done hn1 r o hg).2.2.1
      exact ⟨g', c', by rw [he]; simp only [List.length_append, List.length_take, List.length_cons, List.length_drop]; rw [show min i vs.length + (vs.length - i + 1) = ks.length + 1 by have := hst.le; omega], ⟨r, o, hg⟩, hd.cell 1 _ rfl, hd.cell 2 _ rfl, hd.free 1, hd.free 2⟩)))
  have hb2 : Box w2 nb #[.bool true, .slice ka ks.length kc, .slice va vs.length vc, .slice none 0 0] := hn1.box
  have hSO : ∀ w : World, Box w nb #[.bool true, .slice ka ks.length kc, .slice va vs.length vc, .slice none 0 0] → w.cell? ⟨nb, 1, none⟩ = some (.slice ka ks.length kc) ∧ w.cell? ⟨nb, 2, none⟩ = some (.slice va vs.length vc) := fun w hb => ⟨hb.cell 1 _ rfl, hb.cell 2 _ rfl⟩
  have HP := Lib.hid (fun (wb w' : World) (g c g2 c2 : Nat) (m : Mid1 N w2 wb nb { leaf := true, keys := ks, vals := vs, kids := [] } ka va none kc vc 0 (ks.take i ++ key :: ks.drop i) g c) (l2 : Row w' g2 c2 (u64s (vs.take i ++ v :: vs.drop i)) ∧ Only g2 wb w' ∧ (slB va g2 ∨ wb.heap.size ≤ g2)) => (show PutM N w2 ((w'.setCell ⟨nb, 1, none⟩ (.slice (some ⟨g, 0, none⟩) (ks.length + 1) c)).setCell ⟨nb, 2, none⟩ (.slice (some ⟨g2, 0, none⟩) (ks.length + 1) c2)) nb ka va (ks.take i ++ key :: ks.drop i) (vs.take i ++ v :: vs.drop i) from
    putM_of hn1 hst.le hlv m l2.1 l2.2.1 l2.2.2))
  have HI := Lib.hid (And.intro hst.le (And.intro hlv hst))
  clear hn1 hgM p1 k1 hst HS hlv
  go_upto_region 11 with (fail)
  go_cut [] (fun wx => PutM N w2 wx nb ka va (ks.take i ++ key :: ks.drop i) (vs.take i ++ v :: vs.drop i))
  case first =>
    refine wp_region_any (by kernel_rfl) ?_
    refine wpAny_take (i := 0) (v := ?v0) rfl (by kernel_rfl) (by kernel_rfl) (by kernel_rfl) (fun _ _ _ h => h) (Or.inl ⟨by rfl, ?hy0⟩) ?rest0
    case hy0 => (intro w; go_simp; try with_reducible rfl)
    try simp only [Act.put, List.setIfInBounds_toArray, List.set_cons_zero, List.set_cons_succ]
    refine wpAny_take (i := 1) (v := ?v1) rfl (by kernel_rfl) (by kernel_rfl) (by kernel_rfl) (fun _ _ _ h => h) (Or.inl ⟨by rfl, ?hy1⟩) ?rest1
    case hy1 => (intro w; go_simp; try with_reducible rfl)
    try simp only [Act.put, List.setIfInBounds_toArray, List.set_cons_zero, List.set_cons_succ]
    refine wpAny_take (i := 2) (v := ?v2) rfl (by kernel_rfl) (by kernel_rfl) (by kernel_rfl) (fun _ _ _ h => h) (Or.inl ⟨by rfl, ?hy2⟩) ?rest2
    case hy2 => (intro w; go_simp; try with_reducible rfl)
    try simp only [Act.put, List.setIfInBounds_toArray, List.set_cons_zero, List.set_cons_succ]
    refine wpAny_take (i := 3) (v := ?v3) rfl (by kernel_rfl) (by kernel_rfl) (by kernel_rfl) (fun _ _ _ h => h) (Or.inl ⟨by rfl, ?hy3⟩) ?rest3
    case hy3 => (intro w; go_simp; try with_reducible rfl)
    try simp only [Act.put, List.setIfInBounds_toArray, List.set_cons_zero, List.set_cons_succ]
    refine wpAny_take (i := 4) (v := ?v4) rfl (by kernel_rfl) (by kernel_rfl) (by kernel_rfl) (fun _ _ _ h => h) (Or.inl ⟨by rfl, ?hy4⟩) ?rest4
    case hy4 => (intro w; go_simp; try with_reducible rfl)
    try simp only [Act.put, List.setIfInBounds_toArray, List.set_cons_zero, List.set_cons_succ]
    refine wpAny_take (i := 6) (v := ?v6) rfl (by kernel_rfl) (by kernel_rfl) (by kernel_rfl) (fun _ _ _ h => h) (Or.inl ⟨by rfl, ?hy6⟩) ?rest6
    case hy6 => (intro w; go_simp; try with_reducible rfl)
    try simp only [Act.put, List.setIfInBounds_toArray, List.set_cons_zero, List.set_cons_succ]
    refine wpAny_take (i := 7) (v := ?v7) rfl (by kernel_rfl) (by kernel_rfl) (by kernel_rfl) (fun _ _ _ h => h) (Or.inl ⟨by rfl, ?hy7⟩) ?rest7
    case hy7 => (intro w; go_simp; try with_reducible rfl)
    try simp only [Act.put, List.setIfInBounds_toArray, List.set_cons_zero, List.set_cons_succ]
    refine wpAny_take (i := 10) (v := ?v10) rfl (by kernel_rfl) (by kernel_rfl) (by kernel_rfl) (fun _ _ _ h => h) (Or.inl ⟨by rfl, ?hy10⟩) ?rest10
    case hy10 => (intro w; go_simp; try with_reducible rfl)
    try simp only [Act.put, List.setIfInBounds_toArray, List.set_cons_zero, List.set_cons_succ]
    refine wpAny_take (i := 11) (v := ?v11) rfl (by kernel_rfl) (by kernel_rfl) (by kernel_rfl) (fun _ _ _ h => h) (Or.inl ⟨by rfl, ?hy11⟩) ?rest11
    case hy11 => (intro w; go_simp; try with_reducible rfl)
    try simp only [Act.put, List.setIfInBounds_toArray, List.set_cons_zero, List.set_cons_succ]
    refine wpAny_take (i := 12) (v := ?v12) rfl (by kernel_rfl) (by kernel_rfl) (by kernel_rfl) (fun _ _ _ h => h) (Or.inl ⟨by rfl, ?hy12⟩) ?rest12
    case hy12 => (intro w; go_simp; try with_reducible rfl)
    try simp only [Act.put, List.setIfInBounds_toArray, List.set_cons_zero, List.set_cons_succ]
    refine wpAny_take (i := 14) (v := ?v14) rfl (by kernel_rfl) (by kernel_rfl) (by kernel_rfl) (fun _ _ _ h => h) (Or.inl ⟨by rfl, ?hy14⟩) ?rest14
    case hy14 => (intro w; go_simp; try with_reducible rfl)
    try simp only [Act.put, List.setIfInBounds_toArray, List.set_cons_zero, List.set_cons_succ]
    refine wpAny_take (i := 15) (v := ?v15) rfl (by kernel_rfl) (by kernel_rfl) (by kernel_rfl) (fun _ _ _ h => h) (Or.inl ⟨by rfl, ?hy15⟩) ?rest15
    case hy15 => (intro w; go_simp; try with_reducible rfl)
    try simp only [Act.put, List.setIfInBounds_toArray, List.set_cons_zero, List.set_cons_succ]
    have hS0 : (fun w' : World => w'.cell? ⟨nb, 1, none⟩ = some (.slice ka ks.length kc) ∧ w'.cell? ⟨nb, 2, none⟩ = some (.slice va vs.length vc)) w2.drew := ⟨b1, b2⟩
    refine wpAny_of_late (S := fun w' => w'.cell? ⟨nb, 1, none⟩ = some (.slice ka ks.length kc) ∧ w'.cell? ⟨nb, 2, none⟩ = some (.slice va vs.length vc)) (late := fun j => decide (18 ≤ j)) _ _ _ _ ?_
    change wpLate _ _ _ _ _ _ _ _ _ w2.drew
    refine wpLate_take (i := 5) (v := ?v5) rfl (by kernel_rfl) (by kernel_rfl) (by kernel_rfl) (by kernel_rfl) (fun _ _ _ h => h) hS0 (by rfl) ?hy5 ?rest5
    case hy5 => (intro w hSw; (try dsimp only at hSw); go_simp; try with_reducible rfl)
    try simp only [Act.put, List.setIfInBounds_toArray, List.set_cons_zero, List.set_cons_succ]
    refine wpLate_take (i := 13) (v := ?v13) rfl (by kernel_rfl) (by kernel_rfl) (by kernel_rfl) (by kernel_rfl) (fun _ _ _ h => h) hS0 (by rfl) ?hy13 ?rest13
    case hy13 => (intro w hSw; (try dsimp only at hSw); go_simp; try with_reducible rfl)
    try simp only [Act.put, List.setIfInBounds_toArray, List.set_cons_zero, List.set_cons_succ]
    clear hS0
    refine wpLate_two (i := 8) (j := 16) (by kernel_rfl) rfl rfl (fun K hK => ?_) (fun K hK => ?_)
    · go_simp
      refine hK.out _ _ (fun _ => ?_) ?_
      · exact hSO _ (by (repeat (first | assumption | with_reducible apply boxd | with_reducible apply boxa)))
      clear hK K
      refine wpLate_two (i := 9) (j := 16) (by kernel_rfl) rfl rfl (fun K hK => ?_) (fun K hK => ?_)
      · go_simp
        refine (HI1.out _ _ ?_ ?_ ?_).mono ?_
        · (repeat (first | with_reducible exact Below.refl _ _ | with_reducible apply bel_alloc | with_reducible apply bel_drew))
        · (repeat (first | (focus ((with_reducible refine box_at ?_); simp; done)) | with_reducible apply boxd | with_reducible apply boxa))
        · (first | exact Nat.le_refl _ | simp)
        rintro e w3 ⟨g, c, rfl, m1, mb, hb3⟩
        (try dsimp only)
        refine hK.out _ _ (fun _ => ?_) ?_
        · exact hSO _ (by (repeat (first | assumption | with_reducible apply boxd | with_reducible apply boxa)))
        clear hK K
        refine wpLate_one (i := 16) (by kernel_rfl) rfl (fun K hK => ?_)
        go_simp
        refine hK.out _ _ (fun _ => ?_) ?_
        · exact hSO _ (by (repeat (first | assumption | with_reducible apply boxd | with_reducible apply boxa)))
        clear hK K
        refine wpLate_one (i := 17) (by kernel_rfl) rfl (fun K hK => ?_)
        go_simp
        refine (HI2.out _ _ ?_ ?_ ?_).mono ?_
        · exact ⟨_, _, Mid1.next m1 (by repeat (first | with_reducible exact Below.refl _ _ | with_reducible apply bel_alloc | with_reducible apply bel_drew))⟩
        · (repeat (first | (focus ((with_reducible refine box_at ?_); simp; done)) | with_reducible apply boxd | with_reducible apply boxa | (refine mb _ _ ?_ ?_; focus (simp; done))))
        · (first | (focus (simp; done)) | (focus (refine Nat.le_trans m1.kept.size ?_; simp; done)))
        rintro e w4 ⟨g2, c2, rfl, l2, s1, s2, q1, q2⟩
        (try dsimp only)
        refine hK.out _ _ (fun _ => ⟨s1, s2⟩) ?_
        clear hK K
        refine wpLate_one (i := 18) (by kernel_rfl) rfl (fun K hK => ?_)
        go_simp
        refine hK.out _ _ (fun h => absurd h (by decide)) ?_
        clear hK K
        refine wpLate_one (i := 19) (by kernel_rfl) rfl (fun K hK => ?_)
        go_simp
        refine hK.out _ _ (fun h => absurd h (by decide)) ?_
        clear hK K
        refine wpLate_one (i := 20) (by kernel_rfl) rfl (fun K hK => ?_)
        go_simp
        refine hK.out _ _ (fun h => absurd h (by decide)) ?_
        clear hK K
        refine wpLate_one (i := 21) (by kernel_rfl) rfl (fun K hK => ?_)
        go_simp
        refine hK.out _ _ (fun h => absurd h (by decide)) ?_
        clear hK K
        refine wpLate_one (i := 22) (by kernel_rfl) rfl (fun K hK => ?_)
        go_simp
        refine hK.out _ _ (fun h => absurd h (by decide)) ?_
        clear hK K
        refine wpLate_one (i := 23) (by kernel_rfl) rfl (fun K hK => ?_)
        go_simp
        refine hK.out _ _ (fun h => absurd h (by decide)) ?_
        clear hK K
        refine wpLate_done (by kernel_rfl) ?_ _
        go_wp2_with fail
        go_meet
        case rel => exact HP.out _ _ _ _ _ _ (Mid1.next m1 (by repeat (first | with_reducible exact Below.refl _ _ | with_reducible apply bel_alloc | with_reducible apply bel_drew))) l2
      · go_simp
        refine hK.out _ _ (fun _ => ?_) ?_
        · exact hSO _ (by (repeat (first | assumption | with_reducible apply boxd | with_reducible apply boxa)))
        clear hK K
        refine wpLate_one (i := 9) (by kernel_rfl) rfl (fun K hK => ?_)
        go_simp
        refine (HI1.out _ _ ?_ ?_ ?_).mono ?_
        · (repeat (first | with_reducible exact Below.refl _ _ | with_reducible apply bel_alloc | with_reducible apply bel_drew))
        · (repeat (first | (focus ((with_reducible refine box_at ?_); simp; done)) | with_reducible apply boxd | with_reducible apply boxa))
        · (first | exact Nat.le_refl _ | simp)
        rintro e w3 ⟨g, c, rfl, m1, mb, hb3⟩
        (try dsimp only)
        refine hK.out _ _ (fun _ => ?_) ?_
        · exact hSO _ (by (repeat (first | assumption | with_reducible apply boxd | with_reducible apply boxa)))
        clear hK K
        refine wpLate_one (i := 17) (by kernel_rfl) rfl (fun K hK => ?_)
        go_simp
        refine (HI2.out _ _ ?_ ?_ ?_).mono ?_
        · exact ⟨_, _, Mid1.next m1 (by repeat (first | with_reducible exact Below.refl _ _ | with_reducible apply bel_alloc | with_reducible apply bel_drew))⟩
        · (repeat (first | (focus ((with_reducible refine box_at ?_); simp; done)) | with_reducible apply boxd | with_reducible apply boxa | (refine mb _ _ ?_ ?_; focus (simp; done))))
        · (first | (focus (simp; done)) | (focus (refine Nat.le_trans m1.kept.size ?_; simp; done)))
        rintro e w4 ⟨g2, c2, rfl, l2, s1, s2, q1, q2⟩
        (try dsimp only)
        refine hK.out _ _ (fun _ => ⟨s1, s2⟩) ?_
        clear hK K
        refine wpLate_one (i := 18) (by kernel_rfl) rfl (fun K hK => ?_)
        go_simp
        refine hK.out _ _ (fun h => absurd h (by decide)) ?_
        clear hK K
        refine wpLate_one (i := 19) (by kernel_rfl) rfl (fun K hK => ?_)
        go_simp
        refine hK.out _ _ (fun h => absurd h (by decide)) ?_
        clear hK K
        refine wpLate_one (i := 20) (by kernel_rfl) rfl (fun K hK => ?_)
        go_simp
        refine hK.out _ _ (fun h => absurd h (by decide)) ?_
        clear hK K
        refine wpLate_one (i := 21) (by kernel_rfl) rfl (fun K hK => ?_)
        go_simp
        refine hK.out _ _ (fun h => absurd h (by decide)) ?_
        clear hK K
        refine wpLate_one (i := 22) (by kernel_rfl) rfl (fun K hK => ?_)
        go_simp
        refine hK.out _ _ (fun h => absurd h (by decide)) ?_
        clear hK K
        refine wpLate_one (i := 23) (by kernel_rfl) rfl (fun K hK => ?_)
        go_simp
        refine hK.out _ _ (fun h => absurd h (by decide)) ?_
        clear hK K
        refine wpLate_done (by kernel_rfl) ?_ _
        go_wp2_with fail
        go_meet
        case rel => exact HP.out _ _ _ _ _ _ (Mid1.next m1 (by repeat (first | with_reducible exact Below.refl _ _ | with_reducible apply bel_alloc | with_reducible apply bel_drew))) l2
    · go_simp
      refine hK.out _ _ (fun _ => ?_) ?_
      · exact hSO _ (by (repeat (first | assumption | with_reducible apply boxd | with_reducible apply boxa)))
      clear hK K
      refine wpLate_one (i := 8) (by kernel_rfl) rfl (fun K hK => ?_)
      go_simp
      refine hK.out _ _ (fun _ => ?_) ?_
      · exact hSO _ (by (repeat (first | assumption | with_reducible apply boxd | with_reducible apply boxa)))
      clear hK K
      refine wpLate_one (i := 9) (by kernel_rfl) rfl (fun K hK => ?_)
      go_simp
      refine (HI1.out _ _ ?_ ?_ ?_).mono ?_
      · (repeat (first | with_reducible exact Below.refl _ _ | with_reducible apply bel_alloc | with_reducible apply bel_drew))
      · (repeat (first | (focus ((with_reducible refine box_at ?_); simp; done)) | with_reducible apply boxd | with_reducible apply boxa))
      · (first | exact Nat.le_refl _ | simp)
      rintro e w3 ⟨g, c, rfl, m1, mb, hb3⟩
      (try dsimp only)
      refine hK.out _ _ (fun _ => ?_) ?_
      · exact hSO _ (by (repeat (first | assumption | with_reducible apply boxd | with_reducible apply boxa)))
      clear hK K
      refine wpLate_one (i := 17) (by kernel_rfl) rfl (fun K hK => ?_)
      go_simp
      refine (HI2.out _ _ ?_ ?_ ?_).mono ?_
      · exact ⟨_, _, Mid1.next m1 (by repeat (first | with_reducible exact Below.refl _ _ | with_reducible apply bel_alloc | with_reducible apply bel_drew))⟩
      · (repeat (first | (focus ((with_reducible refine box_at ?_); simp; done)) | with_reducible apply boxd | with_reducible apply boxa | (refine mb _ _ ?_ ?_; focus (simp; done))))
      · (first | (focus (simp; done)) | (focus (refine Nat.le_trans m1.kept.size ?_; simp; done)))
      rintro e w4 ⟨g2, c2, rfl, l2, s1, s2, q1, q2⟩
      (try dsimp only)
      refine hK.out _ _ (fun _ => ⟨s1, s2⟩) ?_
      clear hK K
      refine wpLate_one (i := 18) (by kernel_rfl) rfl (fun K hK => ?_)
      go_simp
      refine hK.out _ _ (fun h => absurd h (by decide)) ?_
      clear hK K
      refine wpLate_one (i := 19) (by kernel_rfl) rfl (fun K hK => ?_)
      go_simp
      refine hK.out _ _ (fun h => absurd h (by decide)) ?_
      clear hK K
      refine wpLate_one (i := 20) (by kernel_rfl) rfl (fun K hK => ?_)
      go_simp
      refine hK.out _ _ (fun h => absurd h (by decide)) ?_
      clear hK K
      refine wpLate_one (i := 21) (by kernel_rfl) rfl (fun K hK => ?_)
      go_simp
      refine hK.out _ _ (fun h => absurd h (by decide)) ?_
      clear hK K
      refine wpLate_one (i := 22) (by kernel_rfl) rfl (fun K hK => ?_)
      go_simp
      refine hK.out _ _ (fun h => absurd h (by decide)) ?_
      clear hK K
      refine wpLate_one (i := 23) (by kernel_rfl) rfl (fun K hK => ?_)
      go_simp
      refine hK.out _ _ (fun h => absurd h (by decide)) ?_
      clear hK K
      refine wpLate_done (by kernel_rfl) ?_ _
      go_wp2_with fail
      go_meet
      case rel => exact HP.out _ _ _ _ _ _ (Mid1.next m1 (by repeat (first | with_reducible exact Below.refl _ _ | with_reducible apply bel_alloc | with_reducible apply bel_drew))) l2
  case rest =>
    obtain ⟨hN, hM, hn1, hnM, hgM, p1, k1⟩ := H1.out
    obtain ⟨h, hl⟩ := HH.out
    obtain ⟨p2, hr, hbx, k2⟩ := putM_next h hN hn1 hnM hgM p1 k1 hcut
    have hle := HI.out.1
    have hlv := HI.out.2.1
    have hst := HI.out.2.2
    have e1 : (ks.take i ++ key :: ks.drop i).length = ks.length + 1 := by simp; omega
    have e2 : (vs.take i ++ v :: vs.drop i).length = ks.length + 1 := by simp; omega
    have HF := Lib.hid (full_leaf hr (show (ks.take i ++ key :: ks.drop i).length ≤ 30 by omega) rfl)
    have HS2 := Lib.hid (store_leaf p2 (by omega) hbx hl.has hr rfl (show (ks.take i ++ key :: ks.drop i).length ≤ 30 by omega) (e2.trans e1.symm))
    have HE := Lib.hid (And.intro hst (And.intro hbx k2))
    have HB := Lib.hid (fun (w' : World) (p3 : PZ (fun j => E j ∨ (N ≤ j ∧ j < M) ∨ (w2.heap.size ≤ j ∧ j < wc.heap.size)) w' P D (A.wrote pg (encLeaf (A.c pg) (ks.take i ++ key :: ks.drop i) (vs.take i ++ v :: vs.drop i))) (k + 2 + 3)) (k3 : Kept (fun j => E j ∨ (N ≤ j ∧ j < M) ∨ (w2.heap.size ≤ j ∧ j < wc.heap.size)) wc w') => (show PutL E W w' P D T rt A (k + 5) pg ks vs key v (.returned (.tuple #[.int .i64 0, .int .u64 0, .int .i64 0])) from
      ⟨i, rfl, hst, ⟨p3.less (fun _ hj => .inl hj), hbx.of_block (k3.block T (.inl h.mem)), h.mem⟩, k2.trans (k3.mono (fun _ hj => .inl hj))⟩))
    clear H1 HH hcut hN hM hn1 hnM hgM p1 k1 h hl p2 hr hbx k2 hle hlv hst e1 e2 HE HI HI1 HI2 HP
    go_wp2_with fail
    refine HF.out.mono ?_
    rintro e w5 ⟨rfl, rfl⟩
    go_wp2_with fail
    refine HS2.out.mono ?_
    rintro e w6 ⟨rfl, p3, k3⟩
    go_wp2
    go_ret3
    exact HB.out _ p3 k3
end
end Go.Proofs.YtfljlcfmdcepnaaGreatDoor
