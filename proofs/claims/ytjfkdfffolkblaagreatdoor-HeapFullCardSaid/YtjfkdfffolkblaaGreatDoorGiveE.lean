/-
  within the law HeapGives: the run's box, the heap and the texts.
-/
import Derived.Test.YtjfkdfffolkblaaGreatDoorGiveD
import Derived.Test.YtjfkdfffolkblaaGreatDoorActs7
import Derived.Deep.RegionWith
import Derived.Deep.DeepCutAuto
namespace Go.Proofs.YtjfkdfffolkblaaGreatDoor
open Go.RowKit
open UK (str BytesAt nth Only Row Box w32)
open SR (Recs rcd total)
open SL (hole add trim room live)
open Go.BigFrame
open A7 (ActsAt)
section
variable {E E0 : Nat → Prop} {W W' : World} {P D k pg root H c : Nat} {A : AP} {rp : List Nat} {L : Nat → List (List UInt8)} {X : List HT} {ao : Option Addr}
theorem does_two (h : HZ E W P D H k A root pg rp L X) (ht : TX W ao c X) (hE : ∀ b, slB ao b → E b) (h0 : ∀ j, E0 j → E j) (hH : E0 H) (hsh : A.op = none) (hm : 200 ≤ A.most) (hX : X.length ≤ 25) (hs : ∀ t, t ∈ X → t.s.length ≤ 3000) (hk : k + 10000 < 900000000) (kd ii nn : Int) (ss : List UInt8) (hkd : kd = 1 ∨ kd = 2) :
    Calls Tryz.prog 9 #[.agg (rcells P H ao X.length c), .agg (acells kd ii nn ss)] W fun e w' => DoneR E0 W w' P D H k A root X ao e := by
  rcases hkd with rfl | rfl
  · exact does_put h ht hE h0 hH hsh hm hX hs hk ii nn ss
  · exact does_set h ht hE h0 hH hsh hm hX hs hk ii nn ss
/-- within the law: the run's box, the heap, the texts -/
def HG (W w : World) (P D H rb j : Nat) : Prop := ∃ ao c A pg rp L X k, Box w rb (rcells P H ao X.length c) ∧ HZ (fun b => (b < W.heap.size ∨ b = H ∨ b = rb) ∨ slB ao b) w P D H k A 1 pg rp L X ∧ TX w ao c X ∧ A.op = none ∧ A.most = 500 ∧ X.length ≤ j ∧ (∀ t, t ∈ X → t.s.length ≤ 3000) ∧ k ≤ 2 + 10000 * j ∧ Kept (fun b => b < W.heap.size) W w ∧ (∀ b, slB ao b → b ≠ rb)
abbrev zcells : Array Value := #[.pointer none, .pointer none, .slice none 0 0, .slice none 0 0, .bool false]
/-- behind Does: the heap and the texts -/
structure GX (W w : World) (P D H rb q j : Nat) (ao : Option Addr) (c : Nat) (X : List HT) : Prop where
  rbx : ∃ ao0 n0 c0, Box w rb (rcells P H ao0 n0 c0)
  hz : ∃ A k pg rp L, A.op = none ∧ A.most = 500 ∧ k ≤ 2 + 10000 * j ∧ HZ (fun b => ((b < W.heap.size ∨ b = H ∨ b = rb) ∨ b = q) ∨ slB ao b) w P D H k A 1 pg rp L X
  tx : TX w ao c X
  len : X.length ≤ j
  txs : ∀ t, t ∈ X → t.s.length ≤ 3000
  kept : Kept (fun b => b < W.heap.size) W w
  far : ∀ b, slB ao b → b ≠ q ∧ b ≠ rb
theorem kept_only {w w' : World} {g : Nat} {S : Nat → Prop} (o : Only g w w') (h : ∀ b, S b → b ≠ g) (hl : ∀ b, S b → b < w.heap.size) : Kept S w w' := ⟨o.os, o.tape, o.output, o.size, fun b hb => o.block b (hl b hb) (h b hb)⟩
theorem GX.fill {w w' : World} {q rb j : Nat} (h : GX W w P D H rb q j ao c X) (o : Only q w w') (h1 : rb ≠ q) (h2 : H ≠ q) (h3 : W.heap.size ≤ q) (h4 : 0 < W.heap.size) : GX W w' P D H rb q j ao c X := by
  obtain ⟨⟨ao0, n0, c0, rbx⟩, ⟨A, k, pg, rp, L, e1, e2, e3, z⟩, tx, len, txs, kept, far⟩ := h
  have ks := kept.size
  refine ⟨⟨ao0, n0, c0, rbx.of_block (o.block rb rbx.lt h1)⟩, ⟨A, k, pg, rp, L, e1, e2, e3, ⟨?_, z.good, z.box.of_block (o.block H z.box.lt h2), z.mem, z.hi, z.few⟩⟩, tx.of_block o.size (fun b hb => o.block b (tx.lt hb) (far b hb).1), len, txs, kept.trans (kept_only o (fun b hb => by omega) (fun b hb => by omega)), far⟩
  exact z.pz.over (R := fun b => b = q) (fun b hb => .inl (.inr hb)) (fun hb => by have : (0 : Nat) = q := hb; omega) o.size (fun b hb hn => o.block b hb hn) (fun b hb => .inl hb)
theorem GX.done {w w' : World} {q rb j : Nat} (h : GX W w P D H rb q j ao c X) (o : Only rb w w') (hb : Box w' rb (rcells P H ao X.length c)) (h2 : H ≠ rb) (h3 : W.heap.size ≤ rb) (h4 : 0 < W.heap.size) : HG W w' P D H rb j := by
  obtain ⟨⟨ao0, n0, c0, rbx⟩, ⟨A, k, pg, rp, L, e1, e2, e3, z⟩, tx, len, txs, kept, far⟩ := h
  have ks := kept.size
  refine ⟨ao, c, A, pg, rp, L, X, k, hb, ⟨?_, z.good, z.box.of_block (o.block H z.box.lt h2), .inl (.inr (.inl rfl)), z.hi, z.few⟩, tx.of_block o.size (fun b hb => o.block b (tx.lt hb) (far b hb).2), e1, e2, len, txs, e3, kept.trans (kept_only o (fun b hb => by omega) (fun b hb => by omega)), fun b hb => (far b hb).2⟩
  refine z.pz.over (R := fun b => b = rb) (fun b hb => .inl (.inl (.inr (.inr hb)))) (fun hb => by have : (0 : Nat) = rb := hb; omega) o.size (fun b hb hn => o.block b hb hn) (fun b hb => .inl ?_)
  rcases hb with hb | hb
  · exact .inl (.inl hb)
  · exact .inr hb
set_option maxRecDepth 100000 in
theorem does_law {wr : World} {rb j : Nat} {A : AP} {pg k : Nat} {rp : List Nat} {L : Nat → List (List UInt8)} (hx : Box wr rb (rcells P H ao X.length c)) (hz : HZ (fun b => (b < W.heap.size ∨ b = H ∨ b = rb) ∨ slB ao b) wr P D H k A 1 pg rp L X) (htx : TX wr ao c X) (hop : A.op = none) (hmost : A.most = 500) (hlen : X.length ≤ j) (htxs : ∀ t, t ∈ X → t.s.length ≤ 3000) (hk : k ≤ 2 + 10000 * j) (hkk : Kept (fun b => b < W.heap.size) W wr) (hfar : ∀ b, slB ao b → b ≠ rb) (hj : j < 20) (kd ii nn : Int) (ss : List UInt8) (hkd : kd = 1 ∨ kd = 2) :
    Calls Tryz.prog 9 #[.agg (rcells P H ao X.length c), .agg (acells kd ii nn ss)] (wr.alloc (.cells zcells 29)).drew fun e w3 => ∃ ao2 c2 X2, e = .returned (.tuple #[.agg (rcells P H ao2 X2.length c2), .bool true]) ∧ Box w3 wr.heap.size zcells ∧ GX W w3 P D H rb wr.heap.size (j + 1) ao2 c2 X2 := by
  have a1 : Below wr.heap.size wr (wr.alloc (.cells zcells 29)).drew := ((Below.refl _ _).alloc (Nat.le_refl _) _).drew
  have x1 := (Box.new wr zcells 29).drew
  have hs : (wr.alloc (.cells zcells 29)).drew.heap.size = wr.heap.size + 1 := by simp
  generalize (wr.alloc (.cells zcells 29)).drew = wa at a1 x1 hs
  have hrbl := hx.lt
  have hz1 : HZ (fun b => ((b < W.heap.size ∨ b = H ∨ b = rb) ∨ b = wr.heap.size) ∨ slB ao b) wa P D H k A 1 pg rp L X := ⟨hz.pz.wide a1 (fun b hb => by
    rcases hb with (hb | hb) | hb
    · exact .inl (.inl hb)
    · exact .inr (by omega)
    · exact .inl (.inr hb)), hz.good, hz.box.below a1 hz.box.lt, .inl (.inl (.inr (.inl rfl))), hz.hi, hz.few⟩
  refine (does_two (E0 := fun b => (b < W.heap.size ∨ b = H ∨ b = rb) ∨ b = wr.heap.size) hz1 (htx.next a1) (fun b h => .inr h) (fun b h => .inl h) (.inl (.inr (.inl rfl))) hop (by omega) (by omega) htxs (by omega) kd ii nn ss hkd).mono ?_
  rintro e w3 ⟨ao2, c2, A2, pg2, rp2, L2, X2, he, z3, t3, q3, n3, s3, k3, f3⟩
  refine ⟨ao2, c2, X2, he, x1.of_block (k3.block _ (.inr rfl)), ⟨ao, X.length, c, (hx.below a1 hrbl).of_block (k3.block rb (.inl (.inr (.inr rfl))))⟩, ⟨A2, k + 10000, pg2, rp2, L2, q3.shut hop, q3.most.trans hmost, by omega, z3⟩, t3, by omega, s3, ?_, fun b hb => ?_⟩
  · exact (hkk.trans ((hz.pz.kept a1).mono (fun b hb => .inl (.inl hb)))).trans (k3.mono (fun b hb => .inl (.inl hb)))
  · rcases f3 b hb with h | h
    · have := htx.lt h
      exact ⟨by omega, hfar b h⟩
    · exact ⟨by omega, by omega⟩
set_option maxRecDepth 100000 in
/-- the same, where the box for the result comes behind -/
theorem does_late {wr : World} {rb j : Nat} {A : AP} {pg k : Nat} {rp : List Nat} {L : Nat → List (List UInt8)} (hx : Box wr rb (rcells P H ao X.length c)) (hz : HZ (fun b => (b < W.heap.size ∨ b = H ∨ b = rb) ∨ slB ao b) wr P D H k A 1 pg rp L X) (htx : TX wr ao c X) (hop : A.op = none) (hmost : A.most = 500) (hlen : X.length ≤ j) (htxs : ∀ t, t ∈ X → t.s.length ≤ 3000) (hk : k ≤ 2 + 10000 * j) (hkk : Kept (fun b => b < W.heap.size) W wr) (hfar : ∀ b, slB ao b → b ≠ rb) (hj : j < 20) (kd ii nn : Int) (ss : List UInt8) (hkd : kd = 1 ∨ kd = 2) :
    Calls Tryz.prog 9 #[.agg (rcells P H ao X.length c), .agg (acells kd ii nn ss)] wr.drew fun e w3 => ∃ ao2 c2 X2, e = .returned (.tuple #[.agg (rcells P H ao2 X2.length c2), .bool true]) ∧ wr.heap.size ≤ w3.heap.size ∧ ∀ cs ty, GX W (w3.alloc (.cells cs ty)) P D H rb w3.heap.size (j + 1) ao2 c2 X2 := by
  have a1 : Below wr.heap.size wr wr.drew := (Below.refl _ _).drew
  have hs : wr.drew.heap.size = wr.heap.size := rfl
  generalize wr.drew = wa at a1 hs
  have hrbl := hx.lt
  have hz1 : HZ (fun b => (b < W.heap.size ∨ b = H ∨ b = rb) ∨ slB ao b) wa P D H k A 1 pg rp L X := ⟨hz.pz.next a1, hz.good, hz.box.below a1 hz.box.lt, hz.mem, hz.hi, hz.few⟩
  refine (does_two (E0 := fun b => b < W.heap.size ∨ b = H ∨ b = rb) hz1 (htx.next a1) (fun b h => .inr h) (fun b h => .inl h) (.inr (.inl rfl)) hop (by omega) (by omega) htxs (by omega) kd ii nn ss hkd).mono ?_
  rintro e w3 ⟨ao2, c2, A2, pg2, rp2, L2, X2, he, z3, t3, q3, n3, s3, k3, f3⟩
  have hs3 := k3.size
  have xb := (hx.below a1 hrbl).of_block (k3.block rb (.inr (.inr rfl)))
  refine ⟨ao2, c2, X2, he, by omega, fun cs ty => ?_⟩
  have a4 : Below w3.heap.size w3 (w3.alloc (.cells cs ty)) := (Below.refl _ _).alloc (Nat.le_refl _) _
  have s4 : (w3.alloc (.cells cs ty)).heap.size = w3.heap.size + 1 := by simp
  generalize w3.alloc (.cells cs ty) = w4 at a4 s4
  refine ⟨⟨ao, X.length, c, xb.below a4 xb.lt⟩, ⟨A2, k + 10000, pg2, rp2, L2, q3.shut hop, q3.most.trans hmost, by omega, ⟨z3.pz.wide a4 (fun b hb => ?_), z3.good, z3.box.below a4 z3.box.lt, .inl (.inl (.inr (.inl rfl))), z3.hi, z3.few⟩⟩, t3.next a4, by omega, s3, ?_, fun b hb => ?_⟩
  · rcases hb with (hb | hb) | hb
    · exact .inl (.inl hb)
    · exact .inr (by omega)
    · exact .inl (.inr hb)
  · exact ((hkk.trans ((hz.pz.kept a1).mono (fun b hb => .inl (.inl hb)))).trans (k3.mono (fun b hb => .inl hb))).trans ((z3.pz.kept a4).mono (fun b hb => .inl (.inl hb)))
  · have := t3.lt hb
    rcases f3 b hb with h | h
    · exact ⟨by omega, hfar b h⟩
    · exact ⟨by omega, by omega⟩
end
end Go.Proofs.YtjfkdfffolkblaaGreatDoor
