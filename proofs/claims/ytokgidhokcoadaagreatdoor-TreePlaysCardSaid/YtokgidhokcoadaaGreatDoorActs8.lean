/-
  tabularlaw08's laws: a run in the law's own box, ahead of Does, behind it, and behind r = s.
  A slice of acts (a struct of four fields of one cell), laid open to its cells.
-/
import Derived.Test.YtokgidhokcoadaaGreatDoorTreeW
import Derived.Test.YtokgidhokcoadaaGreatDoorUKit
import Derived.Deep.Slices
import Derived.Deep.Fields
import Derived.ChangeSame
import Derived.ProofKit
namespace Go.Proofs.YtokgidhokcoadaaGreatDoor
open Go.RowKit
open UK (str BytesAt nth Only Row Box)
open Go.BigFrame
theorem UK.Box.size_eq {w : World} {g : Nat} {a b : Array Value} (h : Box w g a) (h' : Box w g b) : a = b := by
  obtain ⟨t, h1⟩ := h
  obtain ⟨u, h2⟩ := h'
  rw [h1] at h2
  simp only [Option.some.injEq, Obj.cells.injEq] at h2
  exact h2.1
theorem PrX.five {w w2 : World} {g c : Nat} {ao : Option Addr} {X : List KV} {p p1 p2 p3 p4 : Value} {q : Option Addr} {a0 a1 a2 a3 a4 : Value} (h : PrX w ao c X) (hb : Box w g #[p, p1, p2, p3, p4]) (hp : p = .pointer q) (h2 : Box w2 g #[a0, a1, a2, a3, a4]) (o : Only g w w2) : PrX w2 ao c X := by
  rcases h with h | ⟨r, rfl, hr⟩
  · exact .inl h
  · refine .inr ⟨r, rfl, ?_⟩
    by_cases he : r = g
    · subst he
      have hX : X = [] := by
        cases X with
        | nil => rfl
        | cons x X =>
          have h1 := hr.holds 0 (by simp [flatX, cellP])
          rw [hb.cell 0 p rfl, hp] at h1
          simp [flatX, cellP] at h1
      subst hX
      refine ⟨h2.lt, hr.le, fun j hj => absurd hj (by simp [flatX]), fun j hj => ⟨?_, h2.free j⟩⟩
      have h3 := (hr.there j hj).1
      have hj5 : j < 5 := by
        by_cases hj : j < 5
        · exact hj
        · obtain ⟨t, ht⟩ := hb
          unfold World.cell? at h3
          simp only [ht] at h3
          rw [Array.getElem?_eq_none (by simp; omega)] at h3
          cases h3
      match j, hj5 with
      | 0, _ => rw [h2.cell 0 _ rfl]; rfl
      | 1, _ => rw [h2.cell 1 _ rfl]; rfl
      | 2, _ => rw [h2.cell 2 _ rfl]; rfl
      | 3, _ => rw [h2.cell 3 _ rfl]; rfl
      | 4, _ => rw [h2.cell 4 _ rfl]; rfl
    · exact hr.of_block o.size (o.block r hr.lt he)
section
variable {S : Nat → Prop} {W w w2 : World} {P D T k c d g : Nat} {A : AP} {X Y : List KV} {ao bo : Option Addr} {op : Bool}
theorem RM.five {p p1 p2 p3 p4 : Value} {q : Option Addr} {a0 a1 a2 a3 a4 : Value} (h : RM S w P D T ao c X bo d Y A k) (hS : S g) (hg : g ≠ 0) (hb : Box w g #[p, p1, p2, p3, p4]) (hp : p = .pointer q) (h2 : Box w2 g #[a0, a1, a2, a3, a4]) (o : Only g w w2) : RM S w2 P D T ao c X bo d Y A k := by
  have hT : T ≠ g := fun e => by
    subst e
    have := UK.Box.size_eq hb h.tr.box
    have := congrArg Array.size this
    simp at this
  exact ⟨⟨h.tr.pz.over (R := fun j => j = g) (fun j hj => by rw [hj]; exact .inl hS) (fun e => hg e.symm) o.size (fun j hj hr => o.block j hj hr) (fun _ hj => .inl hj), h.tr.box.only o hT, h.tr.mem⟩, h.px.five hb hp h2 o, h.py.five hb hp h2 o⟩
theorem RM.wide {S' : Nat → Prop} (h : RM S w P D T ao c X bo d Y A k) (hb : Below w.heap.size w w2) (hS : ∀ j, S' j → S j ∨ (w.heap.size ≤ j ∧ j < w2.heap.size)) : RM S' w2 P D T ao c X bo d Y A k :=
  ⟨⟨h.tr.pz.wide hb (fun j hj => by
    rcases hj with hj | hj
    · rcases hS j hj with h1 | h1
      · exact .inl (.inl h1)
      · exact .inr h1
    · exact .inl (.inr hj)), h.tr.box.next hb, .inr (.inl rfl)⟩, h.px.next hb, h.py.next hb⟩
theorem RM.call {m : Nat} {B : AP} (h : RM S w P D T ao c X bo d Y A k) (ht : TreeAt (rOwn S T ao bo) w2 P D T 1 B m) (kp : Kept (rOwn S T ao bo) w w2) : RM S w2 P D T ao c X bo d Y B m :=
  ⟨ht, h.px.of_block kp.size (fun b hb => kp.block b (.inr (.inr (.inl hb)))), h.py.of_block kp.size (fun b hb => kp.block b (.inr (.inr (.inr hb))))⟩
end
def HG8 (Q : AP → List KV → List KV → Bool → Prop) (W w : World) (P D rb K : Nat) : Prop :=
  ∃ (T : Nat) (ao : Option Addr) (c : Nat) (X : List KV) (bo : Option Addr) (d : Nat) (Y : List KV) (op : Bool) (A : AP) (k : Nat),
    Box w rb (rcells P T ao X.length c bo Y.length d op) ∧ RM (fun b => b < W.heap.size ∨ b = rb) w P D T ao c X bo d Y A k ∧ k ≤ K ∧ Q A X Y op ∧ Kept (fun b => b < W.heap.size) W w ∧ W.heap.size ≤ rb
def GX8 (Q : AP → List KV → List KV → Bool → Prop) (W w : World) (P D rb q K T : Nat) (ao : Option Addr) (n c : Nat) (bo : Option Addr) (m d : Nat) (op : Bool) : Prop :=
  ∃ (X Y : List KV) (A : AP) (k : Nat), X.length = n ∧ Y.length = m ∧
    RM (fun b => b < W.heap.size ∨ b = rb) w P D T ao c X bo d Y A k ∧ k ≤ K ∧ Q A X Y op ∧ Kept (fun b => b < W.heap.size) W w ∧ W.heap.size ≤ rb ∧ q ≠ rb ∧
    ∃ T0 ao0 n0 c0 bo0 m0 d0 op0, Box w rb (rcells P T0 ao0 n0 c0 bo0 m0 d0 op0)
section
variable {Q : AP → List KV → List KV → Bool → Prop} {W w w2 w3 : World} {P D T k c d g rb q n m K : Nat} {A : AP} {X Y : List KV} {ao bo : Option Addr} {op : Bool}
theorem GX8.turn (h : GX8 Q W w P D rb q K T ao n c bo m d op) (ht : 0 < W.heap.size) : ∃ (X Y : List KV) (A : AP) (k : Nat), X.length = n ∧ Y.length = m ∧
    Box (UK.fill5 w rb (.pointer (some ⟨P, 0, none⟩)) (.pointer (some ⟨T, 0, none⟩)) (.slice ao n c) (.slice bo m d) (.bool op)) rb (rcells P T ao n c bo m d op) ∧
    RM (fun b => b < W.heap.size ∨ b = rb) (UK.fill5 w rb (.pointer (some ⟨P, 0, none⟩)) (.pointer (some ⟨T, 0, none⟩)) (.slice ao n c) (.slice bo m d) (.bool op)) P D T ao c X bo d Y A k ∧ k ≤ K ∧ Q A X Y op ∧
    Kept (fun b => b < W.heap.size) W (UK.fill5 w rb (.pointer (some ⟨P, 0, none⟩)) (.pointer (some ⟨T, 0, none⟩)) (.slice ao n c) (.slice bo m d) (.bool op)) := by
  obtain ⟨X, Y, A, k, rfl, rfl, hr, hk, hQ, kp, hw, hq, T0, ao0, n0, c0, bo0, m0, d0, op0, hb⟩ := h
  have o := UK.Only.fill5 w rb (.pointer (some ⟨P, 0, none⟩)) (.pointer (some ⟨T, 0, none⟩)) (.slice ao X.length c) (.slice bo Y.length d) (.bool op)
  have b2 := hb.fill5 (.pointer (some ⟨P, 0, none⟩)) (.pointer (some ⟨T, 0, none⟩)) (.slice ao X.length c) (.slice bo Y.length d) (.bool op)
  refine ⟨X, Y, A, k, rfl, rfl, b2, hr.five (.inr rfl) (by omega) hb rfl b2 o, hk, hQ, kp.trans ⟨o.os, o.tape, o.output, o.size, fun j hj => o.block j (Nat.lt_of_lt_of_le hj kp.size) (by have : j < W.heap.size := hj; omega)⟩⟩
theorem does_ahead {Q2 : AP → List KV → List KV → Bool → Prop} {a : Value} (hb : Box w rb (rcells P T ao X.length c bo Y.length d op)) (hr : RM (fun b => b < W.heap.size ∨ b = rb) w P D T ao c X bo d Y A k) (kp : Kept (fun b => b < W.heap.size) W w) (hw : W.heap.size ≤ rb) (_ht : 0 < W.heap.size)
    (hD : ∀ (S : Nat → Prop) (w1 : World), RM S w1 P D T ao c X bo d Y A k → (∀ j, S j → j < w1.heap.size) → Calls Tryz.prog 15 #[.agg (rcells P T ao X.length c bo Y.length d op), a] w1 fun e w' => DoesR S w1 w' P D K Q2 e) :
    Calls Tryz.prog 15 #[.agg (rcells P T ao X.length c bo Y.length d op), a] (w.alloc (.cells zcells8 31)).drew fun e w3 => ∃ T2 ao2 n2 c2 bo2 m2 d2 op2, e = .returned (.tuple #[.agg (rcells P T2 ao2 n2 c2 bo2 m2 d2 op2), .bool true]) ∧ Box w3 w.heap.size zcells8 ∧ GX8 Q2 W (UK.fill5 w3 w.heap.size (.pointer (some ⟨P, 0, none⟩)) (.pointer (some ⟨T2, 0, none⟩)) (.slice ao2 n2 c2) (.slice bo2 m2 d2) (.bool op2)) P D rb w.heap.size K T2 ao2 n2 c2 bo2 m2 d2 op2 := by
  have a1 : Below w.heap.size w (w.alloc (.cells zcells8 31)).drew := ((Below.refl _ _).alloc (Nat.le_refl _) _).drew
  have x1 : Box (w.alloc (.cells zcells8 31)).drew w.heap.size zcells8 := (Box.new w zcells8 31).of_block rfl
  have hs : (w.alloc (.cells zcells8 31)).drew.heap.size = w.heap.size + 1 := by simp
  generalize (w.alloc (.cells zcells8 31)).drew = wa at a1 x1 hs
  have hrbl := hb.lt
  have hr1 : RM (fun b => (b < W.heap.size ∨ b = rb) ∨ b = w.heap.size) wa P D T ao c X bo d Y A k := hr.wide a1 (fun j hj => by
    rcases hj with hj | hj
    · exact .inl hj
    · exact .inr (by omega))
  refine (hD _ wa hr1 (fun j hj => ?_)).mono ?_
  · have := kp.size
    rcases hj with (hj | hj) | hj <;> omega
  · rintro e w3 ⟨T2, ao2, c2, X2, bo2, d2, Y2, op2, A2, k2, he, hr3, hk2, k3, hQ2⟩
    have x3 := x1.of_block (k3.block _ (.inr rfl))
    have b3 := (hb.below a1 hrbl).of_block (k3.block rb (.inl (.inr rfl)))
    have o := UK.Only.fill5 w3 w.heap.size (.pointer (some ⟨P, 0, none⟩)) (.pointer (some ⟨T2, 0, none⟩)) (.slice ao2 X2.length c2) (.slice bo2 Y2.length d2) (.bool op2)
    have x4 := x3.fill5 (.pointer (some ⟨P, 0, none⟩)) (.pointer (some ⟨T2, 0, none⟩)) (.slice ao2 X2.length c2) (.slice bo2 Y2.length d2) (.bool op2)
    have hwle := kp.size
    have hr4 := hr3.five (.inr rfl) (by omega) x3 rfl x4 o
    have k13 : Kept (fun b => b < W.heap.size) W w3 := (kp.trans (Kept.of_below a1 (fun j hj => Nat.lt_of_lt_of_le hj hwle))).trans (k3.mono (fun j hj => .inl (.inl hj)))
    have k14 : Kept (fun b => b < W.heap.size) W (UK.fill5 w3 w.heap.size (.pointer (some ⟨P, 0, none⟩)) (.pointer (some ⟨T2, 0, none⟩)) (.slice ao2 X2.length c2) (.slice bo2 Y2.length d2) (.bool op2)) := k13.trans ⟨o.os, o.tape, o.output, o.size, fun j hj => o.block j (Nat.lt_of_lt_of_le hj k13.size) (by have : j < W.heap.size := hj; omega)⟩
    exact ⟨T2, ao2, X2.length, c2, bo2, Y2.length, d2, op2, he, x3, X2, Y2, A2, k2, rfl, rfl, hr4.wide (Below.refl _ _) (fun j hj => .inl (.inl hj)), hk2, hQ2, k14, hw, by omega, T, ao, X.length, c, bo, Y.length, d, op, b3.only o (by omega)⟩
theorem does_behind {Q2 : AP → List KV → List KV → Bool → Prop} {a : Value} (hb : Box w rb (rcells P T ao X.length c bo Y.length d op)) (hr : RM (fun b => b < W.heap.size ∨ b = rb) w P D T ao c X bo d Y A k) (kp : Kept (fun b => b < W.heap.size) W w) (hw : W.heap.size ≤ rb)
    (hD : ∀ (S : Nat → Prop) (w1 : World), RM S w1 P D T ao c X bo d Y A k → (∀ j, S j → j < w1.heap.size) → Calls Tryz.prog 15 #[.agg (rcells P T ao X.length c bo Y.length d op), a] w1 fun e w' => DoesR S w1 w' P D K Q2 e) :
    Calls Tryz.prog 15 #[.agg (rcells P T ao X.length c bo Y.length d op), a] w.drew fun e w3 => ∃ T2 ao2 n2 c2 bo2 m2 d2 op2, e = .returned (.tuple #[.agg (rcells P T2 ao2 n2 c2 bo2 m2 d2 op2), .bool true]) ∧ w.heap.size ≤ w3.heap.size ∧ ∀ cs ty, GX8 Q2 W (w3.alloc (.cells cs ty)) P D rb w3.heap.size K T2 ao2 n2 c2 bo2 m2 d2 op2 := by
  have a1 : Below w.heap.size w w.drew := (Below.refl _ _).drew
  have hs : w.drew.heap.size = w.heap.size := rfl
  generalize w.drew = wa at a1 hs
  have hrbl := hb.lt
  have hr1 : RM (fun b => b < W.heap.size ∨ b = rb) wa P D T ao c X bo d Y A k := hr.wide a1 (fun j hj => .inl hj)
  refine (hD _ wa hr1 (fun j hj => ?_)).mono ?_
  · have := kp.size
    rcases hj with hj | hj <;> omega
  · rintro e w3 ⟨T2, ao2, c2, X2, bo2, d2, Y2, op2, A2, k2, he, hr3, hk2, k3, hQ2⟩
    have b3 := (hb.below a1 hrbl).of_block (k3.block rb (.inr rfl))
    have hwle := kp.size
    have k13 : Kept (fun b => b < W.heap.size) W w3 := (kp.trans (Kept.of_below a1 (fun j hj => Nat.lt_of_lt_of_le hj hwle))).trans (k3.mono (fun j hj => .inl hj))
    have hs3 := k3.size
    refine ⟨T2, ao2, X2.length, c2, bo2, Y2.length, d2, op2, he, by omega, fun cs ty => ?_⟩
    have a4 : Below w3.heap.size w3 (w3.alloc (.cells cs ty)) := (Below.refl _ _).alloc (Nat.le_refl _) _
    exact ⟨X2, Y2, A2, k2, rfl, rfl, hr3.wide a4 (fun j hj => .inl hj), hk2, hQ2, k13.trans (Kept.of_below a4 (fun j hj => Nat.lt_of_lt_of_le hj k13.size)), hw, by omega, T, ao, X.length, c, bo, Y.length, d, op, b3.next a4⟩
theorem HG8.shown (hb : Box w rb (rcells P T ao X.length c bo Y.length d op)) (hr : RM (fun b => b < W.heap.size ∨ b = rb) w P D T ao c X bo d Y A k) (kp : Kept (fun b => b < W.heap.size) W w) {m : Nat} (ht : TreeAt (rOwn (fun b => b < W.heap.size ∨ b = rb) T ao bo) w2 P D T 1 A m) (k2 : Kept (rOwn (fun b => b < W.heap.size ∨ b = rb) T ao bo) w w2) :
    Box w2 rb (rcells P T ao X.length c bo Y.length d op) ∧ RM (fun b => b < W.heap.size ∨ b = rb) w2 P D T ao c X bo d Y A m ∧ Kept (fun b => b < W.heap.size) W w2 :=
  ⟨hb.of_block (k2.block rb (.inl (.inr rfl))), hr.call ht k2, kp.trans (k2.mono (fun _ hj => .inl (.inl hj)))⟩
end
section
variable {E : Nat → Prop} {W : World} {P D k : Nat} {A : AP}
set_option maxRecDepth 100000 in
theorem pz_disk8 (h : PZ E W P D A k) :
    Calls Tryz.prog 17 #[.pointer (some ⟨P, 0, none⟩)] W fun e w' => e = .returned (.pointer (some ⟨D, 0, none⟩)) ∧ w' = W := by
  obtain ⟨FB, M, n, q, d, h1, r⟩ := h
  have c0 : W.cell? ⟨P, 0, none⟩ = some (.pointer (some ⟨D, 0, none⟩)) := h1.pd.pool.box.cell 0 _ rfl
  clear h1 r
  go_enter Tryz.func17, Tryz.ntmps17
  go_wp2
  go_ret
  exact ⟨rfl, rfl⟩
theorem pz_room8 (h : PZ E W P D A k) (g : A.Good) :
    Calls Tryz.prog 18 #[.pointer (some ⟨D, 0, none⟩)] W fun e w' => e = .returned (.int .i64 A.rooms) ∧ ∃ q, w' = W.drewN q := by
  obtain ⟨FB, M, n, q, d, h1, hn, his⟩ := h
  refine (dd_room h1.pd.dd).mono ?_
  rintro e w' ⟨he, q, rfl⟩
  refine ⟨?_, q, rfl⟩
  rw [he]
  have h2 := g.most
  have h3 : d.most - (A.cnt : Int) + (d.free.length : Int) = (A.rooms : Int) := by
    rw [his.most, his.free]
    unfold AP.rooms
    omega
  rw [h3]
end
end Go.Proofs.YtokgidhokcoadaaGreatDoor
namespace Go.Proofs.YtokgidhokcoadaaGreatDoor.A8
open Go.RowKit Go.ChangeShapes Go.WideShapes Go.Deep
open UK (str)
section
variable {H : Type} {enc : TypeId × Value → H} {P : Program} {w : World} {base : Nat} {spare : Nat → Bool} {held : Bool}
theorem open_slice_fields {t e : TypeId} {fs : Array Field} {fuel : Nat} {cs : List Value} {x : DataW H × List MemPlace} (ht : P.underlying t = some (.slice e)) (he : P.underlying e = some (.struct fs))
    (hone : oneCellFields P fs = true) (hC : P.cellsOf e = fs.size) (h : DataW.trod enc P w base spare held fuel t cs = some x) :
    (cs = [.slice none 0 0] ∧ x = (.nil, [])) ∨
    ∃ (a : Addr) (len cap m : Nat) (D : Nat → DataW H) (Pl : Nat → List MemPlace), cs = [.slice (some a) len cap] ∧ base ≤ a.block ∧ len ≤ cap ∧ cap ≤ maxLen ∧ m = (if spare a.block then cap else len) ∧
      x = (.slice ((List.range len).map D) ((List.range (m - len)).map fun j => D (len + j)), MemPlace.row a (m * fs.size) ++ (List.range m).flatMap Pl) ∧
      ∀ i, i < m → ∃ (ys : List (DataW H × List MemPlace)) (n : Nat), D i = .agg (ys.map (·.1)) ∧ Pl i = ys.flatMap (·.2) ∧ ys.length = fs.size ∧
        ∀ (j : Nat) (f : Field), fs[j]? = some f → ∃ (v : Value) (y : DataW H × List MemPlace), w.cell? (a.add (i * fs.size + j)) = some v ∧ ys[j]? = some y ∧ DataW.trod enc P w base spare held n f.type [v] = some y := by
  rcases open_slice ht h with h0 | ⟨a, len, cap, m, n, D, Pl, hcs, hb, hl, hm, hmm, hx, hi⟩
  · exact .inl h0
  · refine .inr ⟨a, len, cap, m, D, Pl, hcs, hb, hl, hm, hmm, by rw [hC] at hx; exact hx, fun i him => ?_⟩
    obtain ⟨cs', hc, ht'⟩ := hi i him
    rw [hC] at hc
    obtain ⟨ys, n', hn', hy, hlen, hyl, hf⟩ := DataW.trod_struct he ht'
    obtain ⟨_, hcl, hat⟩ := World.cells?_some hc
    simp only [Prod.mk.injEq] at hy
    refine ⟨ys, n', hy.1, hy.2, hyl, fun j f hj => ?_⟩
    obtain ⟨ho, hk⟩ := hone_of hone j f hj
    have hjl : j < fs.size := (Array.getElem?_eq_some_iff.1 hj).1
    have hcell := hat j hjl
    have hv : cs'[j]? = some (cs'[j]'(by omega)) := List.getElem?_eq_getElem (by omega)
    have h1 := hf j f hj
    rw [ho, hk] at h1
    have hone' : (cs'.drop j).take 1 = [cs'[j]'(by omega)] := by
      rw [List.drop_eq_getElem_cons (by omega)]
      rfl
    rw [hone'] at h1
    have hys : ys[j]? = some (ys[j]'(by omega)) := List.getElem?_eq_getElem (by omega)
    refine ⟨_, _, ?_, hys, h1.trans hys⟩
    rw [← Go.Deep.add_add, hcell, hv]
end
theorem u64_wf {a : Int} (h : (Lit.int .u64 a).wf = true) : ∃ u : UInt64, a = (u.toNat : Int) := by
  simp [Lit.wf, IntKind.min, IntKind.max, IntKind.signed, IntKind.bits] at h
  exact ⟨UInt64.ofNat a.toNat, by simp; omega⟩
structure ActsAt (W : World) (b off len : Nat) (kd ii : Nat → Int) (ni si : Nat → UInt64) : Prop where
  c0 : ∀ i, i < len → W.cell? ⟨b, off + i * 4, none⟩ = some (.int .i64 (kd i))
  c1 : ∀ i, i < len → W.cell? ⟨b, off + i * 4 + 1, none⟩ = some (.int .i64 (ii i))
  c2 : ∀ i, i < len → W.cell? ⟨b, off + i * 4 + 2, none⟩ = some (.int .u64 (ni i).toNat)
  c3 : ∀ i, i < len → W.cell? ⟨b, off + i * 4 + 3, none⟩ = some (.int .u64 (si i).toNat)
set_option maxRecDepth 100000 in
theorem act_fields : Tryz.prog.underlying 35 = some (.struct #[{ name := "Kind", type := 3, offset := 0, embedded := false, tag := "", pkgPath := "", byteOffset := 0 }, { name := "N", type := 3, offset := 1, embedded := false, tag := "", pkgPath := "", byteOffset := 8 }, { name := "K", type := 23, offset := 2, embedded := false, tag := "", pkgPath := "", byteOffset := 16 }, { name := "V", type := 23, offset := 3, embedded := false, tag := "", pkgPath := "", byteOffset := 24 }]) := by kernel_rfl
set_option maxRecDepth 100000 in
theorem act_one : oneCellFields Tryz.prog #[{ name := "Kind", type := 3, offset := 0, embedded := false, tag := "", pkgPath := "", byteOffset := 0 }, { name := "N", type := 3, offset := 1, embedded := false, tag := "", pkgPath := "", byteOffset := 8 }, { name := "K", type := 23, offset := 2, embedded := false, tag := "", pkgPath := "", byteOffset := 16 }, { name := "V", type := 23, offset := 3, embedded := false, tag := "", pkgPath := "", byteOffset := 24 }] = true := by kernel_rfl
theorem act_cells : Tryz.prog.cellsOf 35 = 4 := by kernel_rfl
theorem spot_none {w : World} {a : Addr} {v : Value} (h : w.cell? a = some v) : a.spot = none := by
  unfold World.cell? at h
  split at h
  · split at h
    · cases h
    · rename_i hs; simpa using hs
  · cases h
theorem add_mk (b off n : Nat) : (⟨b, off, none⟩ : Addr).add n = ⟨b, off + n, none⟩ := by
  unfold Addr.add
  by_cases hn : n = 0 <;> simp [hn]
set_option maxRecDepth 100000 in
theorem acts_open {H : Type} {enc : TypeId × Value → H} {base : Nat} {d : DataW H} {p : List MemPlace} (W : World) (v : Value) (hok : Value.okWide Tryz.prog W .any base 22 v) (h : DataW.Trod enc Tryz.prog W 0 (fun _ => true) true 22 v d p) :
    (∃ ao cap, v = .slice ao 0 cap) ∨ ∃ b off len cap kd ii ni si, v = .slice (some ⟨b, off, none⟩) len cap ∧ ActsAt W b off len kd ii ni si ∧ b < W.heap.size ∧ len ≤ maxLen := by
  obtain ⟨a0, len0, cap0, rfl⟩ := okWide_slice Tryz.underlying22 hok
  obtain ⟨fuel, hf⟩ := h
  rcases open_slice_fields Tryz.underlying22 act_fields act_one act_cells hf with ⟨hcs, _⟩ | ⟨a, len, cap, m, D, Pl, hcs, hb, hl, hm, hmm, hx, hi⟩
  · simp only [Value.cells, List.cons.injEq, and_true] at hcs
    obtain ⟨rfl, rfl, rfl⟩ := Value.slice.inj hcs
    exact .inl ⟨none, 0, rfl⟩
  · simp only [Value.cells, List.cons.injEq, and_true] at hcs
    obtain ⟨rfl, rfl, rfl⟩ := Value.slice.inj hcs
    by_cases hl0 : len0 = 0
    · subst hl0; exact .inl ⟨_, _, rfl⟩
    · have hmc : m = cap0 := by rw [hmm]; rfl
      have hcell : ∀ i, i < len0 → ∃ (k0 k1 : Int) (k2 s3 : UInt64), W.cell? (a.add (i * 4)) = some (.int .i64 k0) ∧ W.cell? (a.add (i * 4 + 1)) = some (.int .i64 k1) ∧ W.cell? (a.add (i * 4 + 2)) = some (.int .u64 k2.toNat) ∧ W.cell? (a.add (i * 4 + 3)) = some (.int .u64 s3.toNat) := fun i hil => by
        obtain ⟨ys, n, _, _, _, hj⟩ := hi i (by omega)
        obtain ⟨v0, y0, h0, _, t0⟩ := hj 0 _ rfl
        obtain ⟨v1, y1, h1, _, t1⟩ := hj 1 _ rfl
        obtain ⟨v2, y2, h2, _, t2⟩ := hj 2 _ rfl
        obtain ⟨v3, y3, h3, _, t3⟩ := hj 3 _ rfl
        obtain ⟨k0, e0, _, _⟩ := DataW.trod_int Tryz.underlying3 t0
        obtain ⟨k1, e1, _, _⟩ := DataW.trod_int Tryz.underlying3 t1
        obtain ⟨k2, e2, _, w2⟩ := DataW.trod_int Tryz.underlying23 t2
        obtain ⟨s3, e3, _, w3⟩ := DataW.trod_int Tryz.underlying23 t3
        simp only [List.cons.injEq, and_true] at e0 e1 e2 e3
        subst e0 e1 e2 e3
        obtain ⟨u2, rfl⟩ := u64_wf w2
        obtain ⟨u3, rfl⟩ := u64_wf w3
        exact ⟨k0, k1, u2, u3, h0, h1, h2, h3⟩
      have hsp : a.spot = none := by
        obtain ⟨k0, _, _, _, h0, _⟩ := hcell 0 (by omega)
        have e : a.add (0 * 4) = a := by simp [Addr.add]
        rw [e] at h0
        exact spot_none h0
      obtain ⟨b, off, sp⟩ := a
      simp only at hsp
      subst hsp
      simp only [add_mk, ← Nat.add_assoc] at hcell
      have hch : ∀ i, ∃ q : Int × Int × UInt64 × UInt64, i < len0 → W.cell? ⟨b, off + i * 4, none⟩ = some (.int .i64 q.1) ∧ W.cell? ⟨b, off + i * 4 + 1, none⟩ = some (.int .i64 q.2.1) ∧ W.cell? ⟨b, off + i * 4 + 2, none⟩ = some (.int .u64 q.2.2.1.toNat) ∧ W.cell? ⟨b, off + i * 4 + 3, none⟩ = some (.int .u64 q.2.2.2.toNat) := fun i => by
        by_cases h : i < len0
        · obtain ⟨k0, k1, k2, s3, h'⟩ := hcell i h
          exact ⟨(k0, k1, k2, s3), fun _ => h'⟩
        · exact ⟨(0, 0, 0, 0), fun h' => absurd h' h⟩
      obtain ⟨f, hf'⟩ := Classical.axiomOfChoice hch
      exact .inr ⟨b, off, len0, cap0, fun i => (f i).1, fun i => (f i).2.1, fun i => (f i).2.2.1, fun i => (f i).2.2.2, rfl, ⟨fun i h => (hf' i h).1, fun i h => (hf' i h).2.1, fun i h => (hf' i h).2.2.1, fun i h => (hf' i h).2.2.2⟩, block_lt_of_cell (hf' 0 (by omega)).1, by omega⟩
end Go.Proofs.YtokgidhokcoadaaGreatDoor.A8
