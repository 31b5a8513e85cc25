/-
  A tree's node of one's own in memory; decode.
-/
import Derived.Test.YthjnfclebeggaaaDoorTreeB
import Derived.Deep.RegionLaw
import Derived.Deep.DeepCutAuto
namespace Go.Proofs.YthjnfclebeggaaaDoor
open Go.RowKit
open UK (str BytesAt nth Only Row Box w32)
open Go.BigFrame
/-- the eight bytes at a place, as a number -/
def g64 (y : List UInt8) (o : Nat) : UInt64 := UK.mk64 (getL ((y.drop o).take 4)) (getL ((y.drop (o + 4)).take 4))
def keysL (y : List UInt8) (n : Nat) : List UInt64 := (List.range n).map fun i => g64 y (4 + 16 * i)
def valsL (y : List UInt8) (n : Nat) : List UInt64 := (List.range n).map fun i => g64 y (12 + 16 * i)
theorem keysL_length (y : List UInt8) (n : Nat) : (keysL y n).length = n := by simp [keysL]
theorem valsL_length (y : List UInt8) (n : Nat) : (valsL y n).length = n := by simp [valsL]
theorem keysL_snoc (y : List UInt8) (n : Nat) : keysL y (n + 1) = keysL y n ++ [g64 y (4 + 16 * n)] := by simp [keysL, List.range_succ]
theorem valsL_snoc (y : List UInt8) (n : Nat) : valsL y (n + 1) = valsL y n ++ [g64 y (12 + 16 * n)] := by simp [valsL, List.range_succ]
/-- a list of one's own: none yet, or a row -/
def NR (W : World) (ao : Option Addr) (c : Nat) (vs : List Value) : Prop := (ao = none ∧ vs = [] ∧ c = 0) ∨ ∃ g, ao = some ⟨g, 0, none⟩ ∧ Row W g c vs
/-- a node of one's own, all of it above N -/
structure NodeO (N : Nat) (W : World) (nb : Nat) (x : Nd) (ka va aa : Option Addr) (kc vc ac : Nat) : Prop where
  box : Box W nb #[.bool x.leaf, .slice ka x.keys.length kc, .slice va x.vals.length vc, .slice aa x.kids.length ac]
  k : NR W ka kc (u64s x.keys)
  v : NR W va vc (u64s x.vals)
  a : NR W aa ac (ints x.kids)
  ge : N ≤ nb
  new : ∀ g, slB ka g ∨ slB va g ∨ slB aa g → N ≤ g ∧ g ≠ nb
  kv : ∀ g, slB ka g → ¬ slB va g
  ka : ∀ g, slB ka g → ¬ slB aa g
  va : ∀ g, slB va g → ¬ slB aa g
section
variable {W W' : World} {N nb kc vc ac : Nat} {ka va aa : Option Addr} {x : Nd}
theorem NR.nil : NR W none 0 [] := .inl ⟨rfl, rfl, rfl⟩
theorem NR.lt {ao : Option Addr} {c : Nat} {vs : List Value} (h : NR W ao c vs) {g : Nat} (hg : slB ao g) : g < W.heap.size := by
  rcases h with ⟨h, _⟩ | ⟨b, h, r⟩
  · rw [slB, h] at hg; cases hg
  · rw [h] at hg; rw [slB_inj hg]; exact r.lt
theorem NR.of_block {ao : Option Addr} {c : Nat} {vs : List Value} (h : NR W ao c vs) (hs : W.heap.size ≤ W'.heap.size) (hb : ∀ g, slB ao g → W'.heap[g]? = W.heap[g]?) : NR W' ao c vs := by
  rcases h with h | ⟨b, h, r⟩
  · exact .inl h
  · exact .inr ⟨b, h, r.of_block hs (hb b h)⟩
theorem NR.only {ao : Option Addr} {c B : Nat} {vs : List Value} (h : NR W ao c vs) (ho : Only B W W') (hn : ¬ slB ao B) : NR W' ao c vs := h.of_block ho.size (fun g hg => ho.block g (h.lt hg) (fun e => hn (e ▸ hg)))
theorem NodeO.of_block (h : NodeO N W nb x ka va aa kc vc ac) (hs : W.heap.size ≤ W'.heap.size) (hb : ∀ g, N ≤ g → g < W.heap.size → W'.heap[g]? = W.heap[g]?) : NodeO N W' nb x ka va aa kc vc ac :=
  ⟨h.box.of_block (hb nb h.ge h.box.lt), h.k.of_block hs (fun g hg => hb g (h.new g (.inl hg)).1 (h.k.lt hg)), h.v.of_block hs (fun g hg => hb g (h.new g (.inr (.inl hg))).1 (h.v.lt hg)), h.a.of_block hs (fun g hg => hb g (h.new g (.inr (.inr hg))).1 (h.a.lt hg)), h.ge, h.new, h.kv, h.ka, h.va⟩
theorem NodeO.next (h : NodeO N W nb x ka va aa kc vc ac) (hb : Below W.heap.size W W') : NodeO N W' nb x ka va aa kc vc ac := h.of_block hb.size (fun g _ hg => hb.block g hg)
/-- its keys are others -/
theorem NodeO.setK (h : NodeO N W nb x ka va aa kc vc ac) {g' c' : Nat} {w1 : World} {l : List UInt64} (r : Row w1 g' c' (u64s l)) (o : Only g' W w1) (hg : slB ka g' ∨ W.heap.size ≤ g') (hN : N ≤ W.heap.size) :
    NodeO N (w1.setCell ⟨nb, 1, none⟩ (.slice (some ⟨g', 0, none⟩) l.length c')) nb { x with keys := l } (some ⟨g', 0, none⟩) va aa c' vc ac ∧ Below N W (w1.setCell ⟨nb, 1, none⟩ (.slice (some ⟨g', 0, none⟩) l.length c')) ∧ Box w1 nb #[.bool x.leaf, .slice ka x.keys.length kc, .slice va x.vals.length vc, .slice aa x.kids.length ac] := by
  have hgn : N ≤ g' ∧ g' ≠ nb := by
    rcases hg with h1 | h1
    · exact h.new g' (.inl h1)
    · have := h.box.lt; omega
  have hx1 : ¬ slB va g' := by
    rcases hg with h1 | h1
    · exact h.kv g' h1
    · exact fun e => by have := h.v.lt e; omega
  have hx2 : ¬ slB aa g' := by
    rcases hg with h1 | h1
    · exact h.ka g' h1
    · exact fun e => by have := h.a.lt e; omega
  have hb1 := h.box.only o hgn.2.symm
  have o2 := (Only.refl nb w1).set 1 (.slice (some ⟨g', 0, none⟩) l.length c')
  have hb2 := hb1.set 1 (.slice (some ⟨g', 0, none⟩) l.length c')
  have ob : Below N W (w1.setCell ⟨nb, 1, none⟩ (.slice (some ⟨g', 0, none⟩) l.length c')) := (o.below hN hgn.1).trans (o2.below (Nat.le_trans hN o.size) h.ge)
  generalize w1.setCell ⟨nb, 1, none⟩ (.slice (some ⟨g', 0, none⟩) l.length c') = w2 at o2 hb2 ob ⊢
  refine ⟨⟨?_, .inr ⟨g', rfl, r.only o2 hgn.2⟩, (h.v.only o hx1).only o2 (fun e => (h.new nb (.inr (.inl e))).2 rfl), (h.a.only o hx2).only o2 (fun e => (h.new nb (.inr (.inr e))).2 rfl), h.ge, fun j hj => ?_, fun j hj e => hx1 (slB_inj hj ▸ e), fun j hj e => hx2 (slB_inj hj ▸ e), h.va⟩, ob, hb1⟩
  · simpa using hb2
  · rcases hj with hj | hj | hj
    · rw [slB_inj hj]; exact hgn
    · exact h.new j (.inr (.inl hj))
    · exact h.new j (.inr (.inr hj))
/-- its vals are others -/
theorem NodeO.setV (h : NodeO N W nb x ka va aa kc vc ac) {g' c' : Nat} {w1 : World} {l : List UInt64} (r : Row w1 g' c' (u64s l)) (o : Only g' W w1) (hg : slB va g' ∨ W.heap.size ≤ g') (hN : N ≤ W.heap.size) :
    NodeO N (w1.setCell ⟨nb, 2, none⟩ (.slice (some ⟨g', 0, none⟩) l.length c')) nb { x with vals := l } ka (some ⟨g', 0, none⟩) aa kc c' ac ∧ Below N W (w1.setCell ⟨nb, 2, none⟩ (.slice (some ⟨g', 0, none⟩) l.length c')) ∧ Box w1 nb #[.bool x.leaf, .slice ka x.keys.length kc, .slice va x.vals.length vc, .slice aa x.kids.length ac] := by
  have hgn : N ≤ g' ∧ g' ≠ nb := by
    rcases hg with h1 | h1
    · exact h.new g' (.inr (.inl h1))
    · have := h.box.lt; omega
  have hx1 : ¬ slB ka g' := by
    rcases hg with h1 | h1
    · exact fun e => h.kv g' e h1
    · exact fun e => by have := h.k.lt e; omega
  have hx2 : ¬ slB aa g' := by
    rcases hg with h1 | h1
    · exact h.va g' h1
    · exact fun e => by have := h.a.lt e; omega
  have hb1 := h.box.only o hgn.2.symm
  have o2 := (Only.refl nb w1).set 2 (.slice (some ⟨g', 0, none⟩) l.length c')
  have hb2 := hb1.set 2 (.slice (some ⟨g', 0, none⟩) l.length c')
  have ob : Below N W (w1.setCell ⟨nb, 2, none⟩ (.slice (some ⟨g', 0, none⟩) l.length c')) := (o.below hN hgn.1).trans (o2.below (Nat.le_trans hN o.size) h.ge)
  generalize w1.setCell ⟨nb, 2, none⟩ (.slice (some ⟨g', 0, none⟩) l.length c') = w2 at o2 hb2 ob ⊢
  refine ⟨⟨?_, (h.k.only o hx1).only o2 (fun e => (h.new nb (.inl e)).2 rfl), .inr ⟨g', rfl, r.only o2 hgn.2⟩, (h.a.only o hx2).only o2 (fun e => (h.new nb (.inr (.inr e))).2 rfl), h.ge, fun j hj => ?_, fun j hj e => hx1 (slB_inj e ▸ hj), h.ka, fun j hj e => hx2 (slB_inj hj ▸ e)⟩, ob, hb1⟩
  · simpa using hb2
  · rcases hj with hj | hj | hj
    · exact h.new j (.inl hj)
    · rw [slB_inj hj]; exact hgn
    · exact h.new j (.inr (.inr hj))
/-- its kids are others -/
theorem NodeO.setA (h : NodeO N W nb x ka va aa kc vc ac) {g' c' : Nat} {w1 : World} {l : List Nat} (r : Row w1 g' c' (ints l)) (o : Only g' W w1) (hg : slB aa g' ∨ W.heap.size ≤ g') (hN : N ≤ W.heap.size) :
    NodeO N (w1.setCell ⟨nb, 3, none⟩ (.slice (some ⟨g', 0, none⟩) l.length c')) nb { x with kids := l } ka va (some ⟨g', 0, none⟩) kc vc c' ∧ Below N W (w1.setCell ⟨nb, 3, none⟩ (.slice (some ⟨g', 0, none⟩) l.length c')) ∧ Box w1 nb #[.bool x.leaf, .slice ka x.keys.length kc, .slice va x.vals.length vc, .slice aa x.kids.length ac] := by
  have hgn : N ≤ g' ∧ g' ≠ nb := by
    rcases hg with h1 | h1
    · exact h.new g' (.inr (.inr h1))
    · have := h.box.lt; omega
  have hx1 : ¬ slB ka g' := by
    rcases hg with h1 | h1
    · exact fun e => h.ka g' e h1
    · exact fun e => by have := h.k.lt e; omega
  have hx2 : ¬ slB va g' := by
    rcases hg with h1 | h1
    · exact fun e => h.va g' e h1
    · exact fun e => by have := h.v.lt e; omega
  have hb1 := h.box.only o hgn.2.symm
  have o2 := (Only.refl nb w1).set 3 (.slice (some ⟨g', 0, none⟩) l.length c')
  have hb2 := hb1.set 3 (.slice (some ⟨g', 0, none⟩) l.length c')
  have ob : Below N W (w1.setCell ⟨nb, 3, none⟩ (.slice (some ⟨g', 0, none⟩) l.length c')) := (o.below hN hgn.1).trans (o2.below (Nat.le_trans hN o.size) h.ge)
  generalize w1.setCell ⟨nb, 3, none⟩ (.slice (some ⟨g', 0, none⟩) l.length c') = w2 at o2 hb2 ob ⊢
  refine ⟨⟨?_, (h.k.only o hx1).only o2 (fun e => (h.new nb (.inl e)).2 rfl), (h.v.only o hx2).only o2 (fun e => (h.new nb (.inr (.inl e))).2 rfl), .inr ⟨g', rfl, r.only o2 hgn.2⟩, h.ge, fun j hj => ?_, h.kv, fun j hj e => hx1 (slB_inj e ▸ hj), fun j hj e => hx2 (slB_inj e ▸ hj)⟩, ob, hb1⟩
  · simpa using hb2
  · rcases hj with hj | hj | hj
    · exact h.new j (.inl hj)
    · exact h.new j (.inr (.inl hj))
    · rw [slB_inj hj]; exact hgn
set_option maxRecDepth 100000 in
theorem push_u64 {ao : Option Addr} {c : Nat} {l : List UInt64} (h : NR W ao c (u64s l)) (hl : l.length < 1000000) (v : UInt64) :
    ∃ g' c' W', (Builtin.append_ #[123, 123] 123 #[.slice ao l.length c, .slice (some ⟨W.heap.size, 0, none⟩) 1 1]).run Tryd.prog (W.alloc (.cells #[.int .u64 (v.toNat : Int)] 42)) = .ok (.slice (some ⟨g', 0, none⟩) (l.length + 1) c') W' ∧ Row W' g' c' (u64s (l ++ [v])) ∧ Only g' W W' ∧ (slB ao g' ∨ W.heap.size ≤ g') := by
  have hlen : (u64s l).length = l.length := u64s_length l
  obtain ⟨g', c', W', e, r, o, hg⟩ := UK.push_one (P := Tryd.prog) (t := 123) (ty := 123) Tryd.underlying123 (i := Tryd.t42) rfl rfl rfl (show (8 : Nat) ≤ 16 by omega) rfl h (.int .u64 (v.toNat : Int)) rfl (by rw [hlen]; omega)
  rw [hlen] at e
  exact ⟨g', c', W', e, by unfold u64s at *; rw [List.map_append]; exact r, o, hg⟩
end
theorem UK.step_append_run {P : Program} {t tx ty : TypeId} {sv xv v' : Value} {w w' : World} (hr : (Builtin.append_ #[t, tx] ty #[sv, xv]).run P w = .ok v' w') {ops : Array Oper} {o : Oper} {a : Act} {K : Act → World → Prop} {Q : Exit → Act → World → Prop} {E : Prop} {s x : Operand}
    (hg : o.guard = none) (hop : o.op = Op.call { callee := Callee.builtin Builtin.append, args := #[s, x], argTypes := #[t, tx] }) (hty : o.type = ty) (hs : a.eval s = sv) (hx : a.eval x = xv) (hK : K (a.put o.dst v') w') :
    if Region.wanted o (yielded ops a.tmps) = true then Oper.wp P o a w K Q else E := by
  have hw : Region.wanted o (yielded ops a.tmps) = true := by simp [Region.wanted, hg]
  rw [if_pos hw]
  subst hty
  unfold Oper.wp
  simp [execOp, hop, resolve, invoke, builtin, hs, hx, hr, Result.andThen]
  exact hK
set_option maxHeartbeats 1000000 in
set_option maxRecDepth 100000 in
theorem decode_leaf {W : World} {db cap n : Nat} {y : List UInt8} (hy : BytesAt W db y) (hyl : y.length = cap) (hc : 504 ≤ cap) (h0 : nth y 0 = 1) (h1 : (nth y 1).toNat = n) (hn : n ≤ 30) :
    Calls Tryd.prog 123 #[.slice (some ⟨db, 0, none⟩) 504 cap] W fun e w' => ∃ nb ka va kc vc, e = .returned (.tuple #[.pointer (some ⟨nb, 0, none⟩), .int .i64 0]) ∧ NodeO W.heap.size w' nb { leaf := true, keys := keysL y n, vals := valsL y n, kids := [] } ka va none kc vc 0 ∧ Below W.heap.size W w' := by
  have d0 := hy.cell (i := 0) (by omega)
  have d1 := hy.cell (i := 1) (by omega)
  rw [h0] at d0
  rw [show ((nth y 1).toNat : Int) = n by omega] at d1
  replace d0 : W.cell? ⟨db, 0, none⟩ = some (.int .u8 1) := d0
  have hdl : db < W.heap.size := hy.lt
  have hbx := Box.new W #[.bool true, .slice none 0 0, .slice none 0 0, .slice none 0 0] 125
  have hn0 : NodeO W.heap.size (W.alloc (.cells #[.bool true, .slice none 0 0, .slice none 0 0, .slice none 0 0] 125)) W.heap.size { leaf := true, keys := keysL y 0, vals := valsL y 0, kids := [] } none none none 0 0 0 :=
    ⟨hbx, NR.nil, NR.nil, NR.nil, Nat.le_refl _, fun g hg => (by rcases hg with h | h | h <;> cases h), fun g h => (by cases h), fun g h => (by cases h), fun g h => (by cases h)⟩
  have hb0 : Below W.heap.size W (W.alloc (.cells #[.bool true, .slice none 0 0, .slice none 0 0, .slice none 0 0] 125)) := (Below.refl _ _).alloc (Nat.le_refl _) _
  have hn30 : (n : Int) ≤ 30 := by omega
  have hn31 : decide ((n : Int) ≤ 30) = true := decide_eq_true hn30
  clear hbx hn30
  go_enter Tryd.func123, Tryd.ntmps123
  go_wp2_with fail
  go_loopw [26] (fun ix wr => ∃ (j : Nat) (ka va : Option Addr) (kc vc : Nat), ix = .int .i64 j ∧ j ≤ n ∧ NodeO W.heap.size wr W.heap.size { leaf := true, keys := keysL y j, vals := valsL y j, kids := [] } ka va none kc vc 0 ∧ Below W.heap.size W wr) (fun ix _ => 31 - (intOf ix).toNat)
  case atStart => exact ⟨0, none, none, 0, 0, rfl, Nat.zero_le _, hn0, hb0⟩
  case round =>
    clear hn0 hb0 d0 d1
    obtain ⟨j, ka, va, kc, vc, rfl, hj, hno, hbl⟩ := hrel
    by_cases hlt : j < n
    · have hyr := hy.below hbl hdl
      have hN := hbl.size
      have c1 : wr.cell? ⟨W.heap.size, 1, none⟩ = some (.slice ka j kc) := by rw [hno.box.cell 1 _ rfl]; show some (Value.slice ka (keysL y j).length kc) = _; rw [keysL_length]
      have g1 : Calls Tryd.prog 143 #[.slice (some ⟨db, 4 + 16 * j, none⟩) (504 - (4 + 16 * j)) (cap - (4 + 16 * j))] wr.drew fun e w' => e = .returned (.int .u64 ((g64 y (4 + 16 * j)).toNat : Int)) ∧ ∃ m, w' = wr.drew.drewN m := get_u64 (hyr.drew) (4 + 16 * j) (504 - (4 + 16 * j)) (cap - (4 + 16 * j)) (by omega) (by omega) (by omega)
      have c1a : ∀ x o, ((wr.drewN x).alloc o).cell? ⟨W.heap.size, 1, none⟩ = some (.slice ka j kc) := fun x o => by rw [((hno.box.of_block (W' := wr.drewN x) rfl).alloc o).cell 1 _ rfl]; show some (Value.slice ka (keysL y j).length kc) = _; rw [keysL_length]
      have G1 := Lib.hid g1
      have hap : ∀ m, ∃ p : Nat × Nat × World, (Builtin.append_ #[123, 123] 123 #[.slice ka j kc, .slice (some ⟨wr.heap.size, 0, none⟩) 1 1]).run Tryd.prog ((wr.drewN m).alloc (.cells #[.int .u64 ((g64 y (4 + 16 * j)).toNat : Int)] 42)) = .ok (.slice (some ⟨p.1, 0, none⟩) (j + 1) p.2.1) p.2.2 ∧ p.2.2.cell? ⟨W.heap.size, 1, none⟩ = some (.slice ka j kc) ∧ p.2.2.frozen? ⟨W.heap.size, 1, none⟩ = false ∧
          NodeO W.heap.size (p.2.2.setCell ⟨W.heap.size, 1, none⟩ (.slice (some ⟨p.1, 0, none⟩) (j + 1) p.2.1)) W.heap.size { leaf := true, keys := keysL y (j + 1), vals := valsL y j, kids := [] } (some ⟨p.1, 0, none⟩) va none p.2.1 vc 0 ∧ Below W.heap.size W (p.2.2.setCell ⟨W.heap.size, 1, none⟩ (.slice (some ⟨p.1, 0, none⟩) (j + 1) p.2.1)) := fun m => by
        have hno2 := hno.next (W' := wr.drewN m) (UK.belowN (Below.refl _ _) m)
        obtain ⟨g', c', w', e, r, o, hg⟩ := push_u64 hno2.k (by rw [keysL_length]; omega) (g64 y (4 + 16 * j))
        rw [keysL_length] at e
        obtain ⟨q1, q2, q3⟩ := hno2.setK r o hg hN
        rw [← keysL_snoc, keysL_length] at q1 q2
        refine ⟨(g', c', w'), e, ?_, q3.free 1, q1, (hbl.trans (UK.belowN (Below.refl _ _) m)).trans q2⟩
        rw [q3.cell 1 _ rfl]; show some (Value.slice ka (keysL y j).length kc) = _; rw [keysL_length]
      obtain ⟨G, hG⟩ := Classical.skolem.1 hap
      have HG := Lib.hid hG
      have cG := fun m => (hG m).2.1
      have fG := fun m => (hG m).2.2.1
      clear hap hG g1
      have n1 : IntKind.i64.wrap (16 * (j : Int)) = 16 * (j : Int) := by rw [IntKind.wrap_i64]; omega
      have n2 : IntKind.i64.wrap (4 + 16 * (j : Int)) = 4 + 16 * (j : Int) := by rw [IntKind.wrap_i64]; omega
      have i2 : (4 : Int) + 16 * j ≤ 504 := by omega
      have i3 : ¬ (cap = 4 + 16 * j) := by omega
      have i4 : (4 + 16 * (j : Int)).toNat = 4 + 16 * j := by omega
      have i5 : (0 : Int) ≤ 4 + 16 * (j : Int) := by omega
      go_upto_region 7 with (fail)
      go_cut [] (fun wx => ∃ (ka' : Option Addr) (kc' : Nat), NodeO W.heap.size wx W.heap.size { leaf := true, keys := keysL y (j + 1), vals := valsL y j, kids := [] } ka' va none kc' vc 0 ∧ Below W.heap.size W wx)
      case first =>
        go_region_law (first | (refine UK.step_append_run (HG.out _).1 rfl rfl rfl (by simp [Act.eval]) (by simp [Act.eval]) ?_) | (go_simp; go_at_call 143; refine G1.out.mono ?_; rintro e w2 ⟨rfl, m, rfl⟩))
        all_goals
          go_wp2_with fail
          go_meet
          case rel => exact ⟨_, _, (HG.out _).2.2.2.1, (HG.out _).2.2.2.2⟩
      case rest =>
        clear G1 HG cG fG c1 c1a hno hbl hyr hN
        obtain ⟨ka', kc', hno, hbl⟩ := hcut
        have hyr := hy.below hbl hdl
        have hN := hbl.size
        have hc2 : ∀ w1, Box w1 W.heap.size #[.bool true, .slice ka' (keysL y (j + 1)).length kc', .slice va (valsL y j).length vc, .slice none 0 0] → w1.cell? ⟨W.heap.size, 2, none⟩ = some (.slice va j vc) := fun w1 hb => (hb.cell 2 _ rfl).trans (by rw [valsL_length]; rfl)
        have c2 := hc2 _ hno.box
        have c2a : ∀ x o, ((wc.drewN x).alloc o).cell? ⟨W.heap.size, 2, none⟩ = some (.slice va j vc) := fun x o => hc2 _ ((hno.box.of_block (W' := wc.drewN x) rfl).alloc o)
        have g1 : Calls Tryd.prog 143 #[.slice (some ⟨db, 12 + 16 * j, none⟩) (504 - (12 + 16 * j)) (cap - (12 + 16 * j))] wc.drew fun e w' => e = .returned (.int .u64 ((g64 y (12 + 16 * j)).toNat : Int)) ∧ ∃ m, w' = wc.drew.drewN m := get_u64 (hyr.drew) (12 + 16 * j) (504 - (12 + 16 * j)) (cap - (12 + 16 * j)) (by omega) (by omega) (by omega)
        have G1 := Lib.hid g1
        have hap : ∀ m, ∃ p : Nat × Nat × World, (Builtin.append_ #[123, 123] 123 #[.slice va j vc, .slice (some ⟨wc.heap.size, 0, none⟩) 1 1]).run Tryd.prog ((wc.drewN m).alloc (.cells #[.int .u64 ((g64 y (12 + 16 * j)).toNat : Int)] 42)) = .ok (.slice (some ⟨p.1, 0, none⟩) (j + 1) p.2.1) p.2.2 ∧ p.2.2.cell? ⟨W.heap.size, 2, none⟩ = some (.slice va j vc) ∧ p.2.2.frozen? ⟨W.heap.size, 2, none⟩ = false ∧
            NodeO W.heap.size (p.2.2.setCell ⟨W.heap.size, 2, none⟩ (.slice (some ⟨p.1, 0, none⟩) (j + 1) p.2.1)) W.heap.size { leaf := true, keys := keysL y (j + 1), vals := valsL y (j + 1), kids := [] } ka' (some ⟨p.1, 0, none⟩) none kc' p.2.1 0 ∧ Below W.heap.size W (p.2.2.setCell ⟨W.heap.size, 2, none⟩ (.slice (some ⟨p.1, 0, none⟩) (j + 1) p.2.1)) := fun m => by
          have hno2 := hno.next (W' := wc.drewN m) (UK.belowN (Below.refl _ _) m)
          obtain ⟨g', c', w', e, r, o, hg⟩ := push_u64 hno2.v (by rw [valsL_length]; omega) (g64 y (12 + 16 * j))
          rw [valsL_length] at e
          obtain ⟨q1, q2, q3⟩ := hno2.setV r o hg hN
          rw [← valsL_snoc, valsL_length] at q1 q2
          exact ⟨(g', c', w'), e, hc2 _ q3, q3.free 2, q1, (hbl.trans (UK.belowN (Below.refl _ _) m)).trans q2⟩
        obtain ⟨G, hG⟩ := Classical.skolem.1 hap
        have HG := Lib.hid hG
        have cG := fun m => (hG m).2.1
        have fG := fun m => (hG m).2.2.1
        clear hap hG g1 hc2 i2 i3 i4 i5 n2
        have n2 : IntKind.i64.wrap (12 + 16 * (j : Int)) = 12 + 16 * (j : Int) := by rw [IntKind.wrap_i64]; omega
        have i2 : (12 : Int) + 16 * j ≤ 504 := by omega
        have i3 : ¬ (cap = 12 + 16 * j) := by omega
        have i4 : (12 + 16 * (j : Int)).toNat = 12 + 16 * j := by omega
        have i5 : (0 : Int) ≤ 12 + 16 * (j : Int) := by omega
        go_wp2_with fail
        go_region_law (first | (refine UK.step_append_run (HG.out _).1 rfl rfl rfl (by simp [Act.eval]) (by simp [Act.eval]) ?_) | (go_simp; go_at_call 143; refine G1.out.mono ?_; rintro e w2 ⟨rfl, m, rfl⟩))
        all_goals
          go_wp2
          go_roundw
          case rel => exact ⟨j + 1, _, _, _, _, by go_num, by omega, (HG.out _).2.2.2.1, (HG.out _).2.2.2.2⟩
          case measure => simp [intOf]; omega
    · obtain rfl : j = n := by omega
      go_wp2
      go_ret2
      exact ⟨W.heap.size, ka, va, kc, vc, rfl, hno, hbl⟩
end Go.Proofs.YthjnfclebeggaaaDoor
