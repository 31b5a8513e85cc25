/-
  A tree that is one leaf: behind the node's turn; full.
-/
import Derived.Test.YthjnfclebeggaaaDoorTreeI
namespace Go.Proofs.YthjnfclebeggaaaDoor
open Go.RowKit
open UK (str BytesAt nth Only Row Box w32)
open Go.BigFrame
section
variable {E : Nat → Prop} {W W' w2 wc : World} {P D T k k0 pg N M nb kc vc ac : Nat} {rt : Nat} {A : AP} {x : Nd} {ka va aa : Option Addr}
theorem slB_lt {ao : Option Addr} {c : Nat} {vs : List Value} {j : Nat} (h : NR W ao c vs) (hj : slB ao j) : j < W.heap.size := h.lt hj
theorem putM_next {ks vs l m : List UInt64} (h : TreeAt E W P D T rt A k0) (hN : W.heap.size ≤ N) (hn1 : NodeO N w2 nb { leaf := true, keys := ks, vals := vs, kids := [] } ka va none kc vc 0) (hnM : nb < M) (hgM : ∀ g, slB ka g ∨ slB va g ∨ slB none g → g < M)
    (p1 : PZ (fun j => E j ∨ N ≤ j ∧ j < M) w2 P D A k) (k1 : Kept E W w2) (hp : PutM N w2 wc nb ka va l m) :
    PZ (fun j => E j ∨ (N ≤ j ∧ j < M) ∨ (w2.heap.size ≤ j ∧ j < wc.heap.size)) wc P D A k ∧ NodeR (fun j => E j ∨ (N ≤ j ∧ j < M) ∨ (w2.heap.size ≤ j ∧ j < wc.heap.size)) wc nb { leaf := true, keys := l, vals := m, kids := [] } ∧ Box wc T #[.pointer (some ⟨P, 0, none⟩), .int .i64 rt] ∧ Kept E W wc := by
  obtain ⟨ka', va', c, c2, hn2, k2, hoa, hob⟩ := hp
  have hR : ∀ j, slB ka j ∨ slB va j ∨ j = nb → N ≤ j ∧ j < M := fun j hj => by
    rcases hj with hj | hj | rfl
    · exact ⟨(hn1.new j (.inl hj)).1, hgM j (.inl hj)⟩
    · exact ⟨(hn1.new j (.inr (.inl hj))).1, hgM j (.inr (.inl hj))⟩
    · exact ⟨hn1.ge, hnM⟩
  have hE := h.pz.there
  have kE : Kept E w2 wc := k2.mono (fun j hj => ⟨Nat.lt_of_lt_of_le (hE j hj) k1.size, fun hr => by have := (hR j hr).1; have := hE j hj; omega⟩)
  refine ⟨p1.over (R := fun j => slB ka j ∨ slB va j ∨ j = nb) (fun j hj => .inr (hR j hj)) (fun hr => by have := (hR _ hr).1; have := h.pz.tab.lt; omega) k2.size (fun j hj hr => k2.block j ⟨hj, hr⟩) (fun j hj => ?_), hn2.reads (.inr (.inl ⟨hn1.ge, hnM⟩)) (fun g hg => ?_), (h.box.of_block (k1.block T h.mem)).of_block (kE.block T h.mem), k1.trans kE⟩
  · rcases hj with hj | hj | hj
    · exact .inl (.inl hj)
    · exact .inl (.inr hj)
    · exact .inr hj
  · rcases hg with hg | hg | hg
    · rcases hoa g hg with h1 | h1
      · exact .inr (.inl (hR g (.inl h1)))
      · exact .inr (.inr ⟨h1, slB_lt hn2.k hg⟩)
    · rcases hob g hg with h1 | h1
      · exact .inr (.inl (hR g (.inr (.inl h1))))
      · exact .inr (.inr ⟨h1, slB_lt hn2.v hg⟩)
    · cases hg
set_option maxRecDepth 100000 in
theorem full_leaf {S : Nat → Prop} (hn : NodeR S W nb x) (hx : x.keys.length ≤ 30) (hk : x.kids = []) :
    Calls Tryd.prog 121 #[.pointer (some ⟨nb, 0, none⟩)] W fun e w' => e = .returned (.bool false) ∧ w' = W := by
  obtain ⟨kv, vv, av, b, hb, ⟨ao, c, rfl, _, _⟩, _, ⟨bo, d, rfl, _, _⟩⟩ := hn
  rw [u64s_length] at b
  rw [ints_length, hk] at b
  have c1 : W.cell? ⟨nb, 1, none⟩ = some (.slice ao x.keys.length c) := b.cell 1 _ rfl
  have c3 : W.cell? ⟨nb, 3, none⟩ = some (.slice bo 0 d) := b.cell 3 _ rfl
  have d1 : decide ((30 : Int) < (x.keys.length : Int)) = false := decide_eq_false (by omega)
  clear b hk
  go_enter Tryd.func121, Tryd.ntmps121
  go_wp2
  go_ret
  exact ⟨rfl, rfl⟩
end
end Go.Proofs.YthjnfclebeggaaaDoor
