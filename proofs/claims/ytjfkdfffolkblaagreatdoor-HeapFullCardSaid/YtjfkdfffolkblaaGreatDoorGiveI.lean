/-
  tabularlaw07.Does where the disk may be full: it is done, or it is not.
  within the law HeapFull: a call that is under way by itself.
-/
import Derived.Test.YtjfkdfffolkblaaGreatDoorGiveD
import Derived.Test.YtjfkdfffolkblaaGreatDoorGiveE
import Derived.Test.YtjfkdfffolkblaaGreatDoorGiveF
import Derived.Test.YtjfkdfffolkblaaGreatDoorUndoF
namespace Go.Proofs.YtjfkdfffolkblaaGreatDoor
open Go.RowKit
open UK (str BytesAt nth Only Row Box w32)
open SR (Recs rcd total)
open SL (hole add trim room live)
open Go.BigFrame
section
variable {E E0 : Nat → Prop} {W W' : World} {P D k pg root H c : Nat} {A : AP} {rp : List Nat} {L : Nat → List (List UInt8)} {X : List HT} {ao : Option Addr}
/-- the disk was full -/
def FailR (E0 : Nat → Prop) (W W' : World) (P D H k : Nat) (A : AP) (X : List HT) (ao : Option Addr) (c : Nat) (e : Ending) : Prop :=
  e = .returned (.tuple #[.agg (rcells P H ao X.length c), .bool false]) ∧ ∃ B, PZ (fun j => E0 j ∨ slB ao j) W' P D B (k + 10000) ∧ A.Reach B ∧ Kept (fun j => E0 j ∨ slB ao j) W W'
theorem fail_end {wc w5 w10 : World} {B : AP} {rb m : Nat} (p5 : PZ (fun j => E j ∨ j = rb ∨ j = rb + 1 ∨ j = rb + 2) w5 P D B m) (hE : ∀ b, slB ao b → E b) (h0 : ∀ j, E0 j → E j) (hlt : ∀ j, E j → j < rb) (r5 : A.Reach B) (k3 : Kept E W wc) (k5 : Kept (fun j => E j ∨ j = rb ∨ j = rb + 1 ∨ j = rb + 2) wc w5) (o10 : Only (rb + 2) w5 w10) (hsz : rb + 2 < w5.heap.size) (htab : 0 < rb) (hm : m ≤ k + 10000) :
    FailR E0 W w10 P D H k A X ao c (.returned (.tuple #[.agg (rcells P H ao X.length c), .bool false])) := by
  have hU : ∀ j, (E0 j ∨ slB ao j) → E j := fun j hj => hj.elim (h0 j) (hE j)
  refine ⟨rfl, B, ?_, r5, ?_⟩
  · exact (p5.over (R := fun j => j = rb + 2) (fun j hj => .inr (.inr (.inr hj))) (fun hj => by have h : 0 = rb + 2 := hj; omega) o10.size (fun j hj hn => o10.block j hj hn) (fun j hj => .inl (.inl (hU j hj)))).up hm
  · refine ((k3.mono hU).trans (k5.mono (fun j hj => .inl (hU j hj)))).trans ⟨o10.os, o10.tape, o10.output, o10.size, fun j hj => ?_⟩
    have := hlt j (hU j hj)
    exact o10.block j (by omega) (by omega)
set_option maxHeartbeats 4000000 in
set_option maxRecDepth 100000 in
theorem does_putF (h : HZ E W P D H k A root pg rp L X) (ht : TX W ao c X) (hE : ∀ b, slB ao b → E b) (h0 : ∀ j, E0 j → E j) (hH : E0 H) (hX : X.length ≤ 25) (hs : ∀ t, t ∈ X → t.s.length ≤ 3000) (hk : k + 10000 < 900000000) (ii nn : Int) (ss : List UInt8) :
    Calls Tryz.prog 9 #[.agg (rcells P H ao X.length c), .agg (acells 1 ii nn ss)] W fun e w' => DoneR E0 W w' P D H k A root X ao e ∨ FailR E0 W w' P D H k A X ao c e := by
  have hlt := h.pz.there
  have htab := h.pz.tab.lt
  have a1 : Below W.heap.size W (W.alloc (.cells (rcells P H ao X.length c) 29)) := (Below.refl _ _).alloc (Nat.le_refl _) _
  have z1 : (W.alloc (.cells (rcells P H ao X.length c) 29)).heap.size = W.heap.size + 1 := by simp
  have x1 := Box.new W (rcells P H ao X.length c) 29
  generalize hwa : W.alloc (.cells (rcells P H ao X.length c) 29) = wa at a1 z1 x1
  have a2 := a1.alloc (by omega) (.cells (acells 1 ii nn ss) 31)
  have z2 : (wa.alloc (.cells (acells 1 ii nn ss) 31)).heap.size = W.heap.size + 2 := by simp [z1]
  have x2 := Box.new wa (acells 1 ii nn ss) 31
  rw [z1] at x2
  have x1' := x1.alloc (.cells (acells 1 ii nn ss) 31)
  generalize hwb : wa.alloc (.cells (acells 1 ii nn ss) 31) = wb at a2 z2 x2 x1'
  have a3 := a2.alloc (by omega) (.cells #[.pointer none, .pointer none, .slice none 0 0, .slice none 0 0, .bool false] 29)
  have z3 : (wb.alloc (.cells #[.pointer none, .pointer none, .slice none 0 0, .slice none 0 0, .bool false] 29)).heap.size = W.heap.size + 3 := by simp [z2]
  have x3 := Box.new wb #[.pointer none, .pointer none, .slice none 0 0, .slice none 0 0, .bool false] 29
  rw [z2] at x3
  have x1'' := x1'.alloc (.cells #[.pointer none, .pointer none, .slice none 0 0, .slice none 0 0, .bool false] 29)
  have x2' := x2.alloc (.cells #[.pointer none, .pointer none, .slice none 0 0, .slice none 0 0, .bool false] 29)
  generalize hwc : wb.alloc (.cells #[.pointer none, .pointer none, .slice none 0 0, .slice none 0 0, .bool false] 29) = wc at a3 z3 x3 x1'' x2'
  have HWC : Hid (((W.alloc (.cells (rcells P H ao X.length c) 29)).alloc (.cells (acells 1 ii nn ss) 31)).alloc (.cells #[.pointer none, .pointer none, .slice none 0 0, .slice none 0 0, .bool false] 29) = wc) := by
    show _ = _
    rw [hwa, hwb, hwc]
  have hz : HZ (fun j => E j ∨ j = W.heap.size ∨ j = W.heap.size + 1 ∨ j = W.heap.size + 2) wc P D H k A root pg rp L X := ⟨h.pz.wide a3 (fun j hj => by
    rcases hj with hj | hj | hj | hj
    · exact .inl hj
    · exact .inr (by omega)
    · exact .inr (by omega)
    · exact .inr (by omega)), h.good, h.box.below a3 h.box.lt, .inl h.mem, h.hi, h.few⟩
  have k3 : Kept E W wc := h.pz.kept a3
  have HLG := Lib.hid (fun w => hlong_any ss nn w)
  have HLL := Lib.hid (longL_len ss nn)
  generalize longL ss nn = l at HLG HLL
  have HPU := Lib.hid (hput_any (s := l) hz (by have := HLL.out; omega) (by have := HLL.out; omega) (by omega))
  have HAT := Lib.hid (fun w => hat_any (W := w) ii X.length (by omega))
  have HQ := Lib.hid (And.intro hz (And.intro k3 (And.intro x1'' (And.intro x2' (And.intro x3 (ht.next a3))))))
  clear h ht x1 x1' x1'' x2 x2' x3 a1 a2 a3 z1 z2 z3 hwa hwb hwc hz k3
  go_enter Tryz.func9, Tryz.ntmps9
  go_wp2_with fail
  rw [HWC.out]
  obtain ⟨hz, k3, x1, x2, x3, ht⟩ := HQ.out
  have r1 : wc.cell? ⟨W.heap.size, 1, none⟩ = some (.pointer (some ⟨H, 0, none⟩)) := x1.cell 1 _ rfl
  have r2 : wc.cell? ⟨W.heap.size, 2, none⟩ = some (.slice ao X.length c) := x1.cell 2 _ rfl
  have q0 : wc.cell? ⟨W.heap.size + 1, 0, none⟩ = some (.int .i64 1) := x2.cell 0 _ rfl
  have q1 : wc.cell? ⟨W.heap.size + 1, 1, none⟩ = some (.int .i64 ii) := x2.cell 1 _ rfl
  clear hz k3 x1 x2 x3 ht
  refine (HLG.out wc).mono ?_
  rintro e w1 ⟨rfl, hw⟩
  cases hw
  go_wp2_with fail
  refine (HAT.out _).mono ?_
  rintro e w1 ⟨v, rfl, hw, _, _⟩
  cases hw
  go_wp2_with fail
  refine HPU.out.mono ?_
  rintro e w5 (⟨t, A5, pg5, rp5, L5, rfl, hu, z5, r5, k5⟩ | ⟨B, rfl, r5, qq, p5, k5⟩)
  rotate_left
  · obtain ⟨hz, k3, x1, x2, x3, ht⟩ := HQ.out
    have y1 := x1.of_block (k5.block _ (.inr (.inl rfl)))
    have y3 := x3.of_block (k5.block _ (.inr (.inr (.inr rfl))))
    have n0 : w5.cell? ⟨W.heap.size, 0, none⟩ = some (.pointer (some ⟨P, 0, none⟩)) := y1.cell 0 _ rfl
    have n1 : w5.cell? ⟨W.heap.size, 1, none⟩ = some (.pointer (some ⟨H, 0, none⟩)) := y1.cell 1 _ rfl
    have n2 : w5.cell? ⟨W.heap.size, 2, none⟩ = some (.slice ao X.length c) := y1.cell 2 _ rfl
    have n3 : w5.cell? ⟨W.heap.size, 3, none⟩ = some (.slice none 0 0) := y1.cell 3 _ rfl
    have n4 : w5.cell? ⟨W.heap.size, 4, none⟩ = some (.bool false) := y1.cell 4 _ rfl
    have m0 : w5.cell? ⟨W.heap.size + 2, 0, none⟩ = some (.pointer none) := y3.cell 0 _ rfl
    have m1 : w5.cell? ⟨W.heap.size + 2, 1, none⟩ = some (.pointer none) := y3.cell 1 _ rfl
    have m2 : w5.cell? ⟨W.heap.size + 2, 2, none⟩ = some (.slice none 0 0) := y3.cell 2 _ rfl
    have m3 : w5.cell? ⟨W.heap.size + 2, 3, none⟩ = some (.slice none 0 0) := y3.cell 3 _ rfl
    have m4 : w5.cell? ⟨W.heap.size + 2, 4, none⟩ = some (.bool false) := y3.cell 4 _ rfl
    have mf : ∀ j, w5.frozen? ⟨W.heap.size + 2, j, none⟩ = false := y3.free
    have H5 := Lib.hid (And.intro p5 (And.intro r5 (And.intro k3 (And.intro k5 y3))))
    clear HPU HAT HLG HQ hz k3 x1 x2 x3 ht y1 y3 p5 r5 k5 qq r1 r2 q0 q1
    go_wp2_with fail
    obtain ⟨p5, r5, k3, k5, y3⟩ := H5.out
    refine bodyPost_ret (UK.box_ret2 rfl _ (y3.fill5 _ _ _ _ _) rfl run_under rfl run_size) rfl ?_
    exact .inr (fail_end p5 hE h0 hlt r5 k3 k5 (Only.fill5 _ _ _ _ _ _ _) y3.lt htab (by have := HLL.out; omega))
  obtain ⟨hz, k3, x1, x2, x3, ht⟩ := HQ.out
  have y1 := x1.of_block (k5.block _ (.inr (.inl rfl)))
  have y3 := x3.of_block (k5.block _ (.inr (.inr (.inr rfl))))
  have t5 : TX w5 ao c X := ht.of_block k5.size (fun b hb => k5.block b (.inl (hE b hb)))
  have s2 : w5.cell? ⟨W.heap.size, 2, none⟩ = some (.slice ao X.length c) := y1.cell 2 _ rfl
  have hidt := z5.id_lt (List.mem_cons_self .. : t ∈ t :: X)
  have hnz : ((idOf t : Nat) : Int) ≠ 0 := by unfold idOf; omega
  have hnzb : (((idOf t : Nat) : Int) == 0) = false := by simp; exact fun h => hnz (by omega)
  have hnew : ∀ u, u ∈ X → idOf u ≠ idOf t := fun u hu e => by
    obtain ⟨a, b⟩ := z5.ids (List.mem_cons_of_mem _ hu) (List.mem_cons_self ..) e
    exact (List.pairwise_cons.1 z5.hi.inj).1 u hu ⟨a.symm, b.symm⟩
  have HF := Lib.hid (rfind_no t5 hnew (by omega))
  have H5 := Lib.hid (And.intro z5 (And.intro r5 (And.intro hu (And.intro (k3.trans (k5.mono (fun j hj => .inl hj))) (And.intro y1 (And.intro y3 (And.intro t5 hidt)))))))
  clear HPU HAT HLG HQ hz k3 x1 x2 x3 ht y1 y3 t5 hidt hnew z5 r5 hu k5 r1 r2 q0 q1
  generalize hti : (idOf t : Nat) = ti at *
  go_wp2_with fail
  refine HF.out.mono ?_
  rintro e w6 ⟨rfl, b6⟩
  obtain ⟨z5, r5, hu, k5, y1, y3, t5, hidt⟩ := H5.out
  have aA : Below w6.heap.size w6 (w6.alloc (.cells #[] 36)) := (Below.refl _ _).alloc (Nat.le_refl _) _
  have sA : (w6.alloc (.cells #[] 36)).heap.size = w6.heap.size + 1 := by simp
  have rA : Row (w6.alloc (.cells #[] 36)) w6.heap.size 0 [] := ⟨by simp, Nat.le_refl _, fun j hj => absurd hj (Nat.not_lt_zero _), fun j hj => absurd hj (Nat.not_lt_zero _)⟩
  obtain ⟨g1, c1, w7, e1, t7, o7⟩ := ((t5.next b6).next aA).copy (by omega) rA
  have hg1 : w6.heap.size ≤ g1 := by rcases o7 with ⟨a, _⟩ | ⟨a, _⟩ <;> omega
  have b7 : Below w6.heap.size w6 w7 := by
    rcases o7 with ⟨_, o⟩ | ⟨_, o⟩
    · exact aA.trans (o.below (by omega) hg1)
    · exact aA.trans (o.mono (by omega))
  have aB : Below w7.heap.size w7 (w7.alloc (.cells #[.int .u64 ti, .string (str l)] 36)) := (Below.refl _ _).alloc (Nat.le_refl _) _
  have sB : (w7.alloc (.cells #[.int .u64 ti, .string (str l)] 36)).heap.size = w7.heap.size + 1 := by simp
  have xB := Box.new w7 #[.int .u64 ti, .string (str l)] 36
  obtain ⟨g2, c2, w8, e2, t8, o8⟩ := (t7.next aB).push (t := t) (by omega) (b := w7.heap.size) ⟨by rw [hti]; exact xB.cell 0 _ rfl, by rw [hu]; exact xB.cell 1 _ rfl⟩
  have s67 := b7.size
  have hg2 : w6.heap.size ≤ g2 := by
    rcases o8 with ⟨a, _⟩ | ⟨a, _⟩
    · cases a; exact hg1
    · omega
  have b8 : Below w6.heap.size w6 w8 := by
    have hb := b7.trans (aB.mono s67)
    rcases o8 with ⟨_, o⟩ | ⟨_, o⟩
    · exact hb.trans (o.below (by omega) hg2)
    · exact hb.trans (o.mono (by omega))
  have b58 := b6.trans (b8.mono b6.size)
  have hg2l : g2 < w8.heap.size := t8.lt rfl
  have hszW : W.heap.size + 2 < w5.heap.size := y3.lt
  have s56 := b6.size
  have y18 := y1.next b58
  have y38 := y3.next b58
  have y19 := y18.set 2 (.slice (some ⟨g2, 0, none⟩) (X.length + 1) c2)
  have y39 := y38.far (b := W.heap.size) (j := 2) (.slice (some ⟨g2, 0, none⟩) (X.length + 1) c2) (by omega)
  have o9 : Only W.heap.size w8 (w8.setCell ⟨W.heap.size, 2, none⟩ (.slice (some ⟨g2, 0, none⟩) (X.length + 1) c2)) := (Only.refl _ _).set 2 _
  have f8 : w8.frozen? ⟨W.heap.size, 2, none⟩ = false := y18.free 2
  have d8 : w8.cell? ⟨W.heap.size, 2, none⟩ = some (.slice ao X.length c) := y18.cell 2 _ rfl
  generalize hw9 : w8.setCell ⟨W.heap.size, 2, none⟩ (.slice (some ⟨g2, 0, none⟩) (X.length + 1) c2) = w9 at y19 y39 o9
  have y19' : Box w9 W.heap.size (rcells P H (some ⟨g2, 0, none⟩) (X.length + 1) c2) := y19
  have n0 : w9.cell? ⟨W.heap.size, 0, none⟩ = some (.pointer (some ⟨P, 0, none⟩)) := y19'.cell 0 _ rfl
  have n1 : w9.cell? ⟨W.heap.size, 1, none⟩ = some (.pointer (some ⟨H, 0, none⟩)) := y19'.cell 1 _ rfl
  have n2 : w9.cell? ⟨W.heap.size, 2, none⟩ = some (.slice (some ⟨g2, 0, none⟩) (X.length + 1) c2) := y19'.cell 2 _ rfl
  have n3 : w9.cell? ⟨W.heap.size, 3, none⟩ = some (.slice none 0 0) := y19'.cell 3 _ rfl
  have n4 : w9.cell? ⟨W.heap.size, 4, none⟩ = some (.bool false) := y19'.cell 4 _ rfl
  have m0 : w9.cell? ⟨W.heap.size + 2, 0, none⟩ = some (.pointer none) := y39.cell 0 _ rfl
  have m1 : w9.cell? ⟨W.heap.size + 2, 1, none⟩ = some (.pointer none) := y39.cell 1 _ rfl
  have m2 : w9.cell? ⟨W.heap.size + 2, 2, none⟩ = some (.slice none 0 0) := y39.cell 2 _ rfl
  have m3 : w9.cell? ⟨W.heap.size + 2, 3, none⟩ = some (.slice none 0 0) := y39.cell 3 _ rfl
  have m4 : w9.cell? ⟨W.heap.size + 2, 4, none⟩ = some (.bool false) := y39.cell 4 _ rfl
  have mf : ∀ j, w9.frozen? ⟨W.heap.size + 2, j, none⟩ = false := y39.free
  have s7 : w6.cell? ⟨W.heap.size, 2, none⟩ = some (.slice ao X.length c) := (y1.next b6).cell 2 _ rfl
  have sA7 : (w6.alloc (.cells #[] 36)).cell? ⟨W.heap.size, 2, none⟩ = some (.slice ao X.length c) := ((y1.next b6).next aA).cell 2 _ rfl
  have H9 := Lib.hid (And.intro y39 (And.intro b58 (And.intro o9 (And.intro t8 (And.intro hg2 (And.intro hg2l (And.intro hszW s56)))))))
  clear HF y1 y3 t5 aA sA rA t7 o7 aB sB xB t8 o8 b7 b8 b58 y18 y38 y19 y19' y39 o9 z5 r5 k5 hidt b6 hg1 hg2 hg2l
  subst hw9
  go_wp2_with (first | (at_builtin; refine UK.wpList_append_run e1 rfl rfl rfl rfl rfl ?_) | (at_builtin; refine UK.wpList_append_run e2 rfl rfl rfl rfl rfl ?_))
  obtain ⟨y39, b58, o9, t8, hg2, hg2l, hszW, s56⟩ := H9.out
  obtain ⟨z5, r5, hu, k5, y1, y3, t5, hidt⟩ := H5.out
  refine bodyPost_ret (UK.box_ret2 rfl _ (y39.fill5 _ _ _ _ _) rfl run_under rfl run_size) rfl ?_
  exact .inl (done_put z5 h0 hH hlt r5 k5 b58 o9 (Only.fill5 _ _ _ _ _ _ _) t8 (by omega) hg2l hszW htab (by have := HLL.out; omega) (by rw [hu]; exact HLL.out) hs (Nat.le_refl _))
set_option maxHeartbeats 4000000 in
set_option maxRecDepth 100000 in
theorem does_setF (h : HZ E W P D H k A root pg rp L X) (ht : TX W ao c X) (hE : ∀ b, slB ao b → E b) (h0 : ∀ j, E0 j → E j) (hH : E0 H) (hX : X.length ≤ 25) (hs : ∀ t, t ∈ X → t.s.length ≤ 3000) (hk : k + 10000 < 900000000) (ii nn : Int) (ss : List UInt8) :
    Calls Tryz.prog 9 #[.agg (rcells P H ao X.length c), .agg (acells 2 ii nn ss)] W fun e w' => DoneR E0 W w' P D H k A root X ao e ∨ FailR E0 W w' P D H k A X ao c e := by
  have hlt := h.pz.there
  have htab := h.pz.tab.lt
  have a1 : Below W.heap.size W (W.alloc (.cells (rcells P H ao X.length c) 29)) := (Below.refl _ _).alloc (Nat.le_refl _) _
  have z1 : (W.alloc (.cells (rcells P H ao X.length c) 29)).heap.size = W.heap.size + 1 := by simp
  have x1 := Box.new W (rcells P H ao X.length c) 29
  generalize hwa : W.alloc (.cells (rcells P H ao X.length c) 29) = wa at a1 z1 x1
  have a2 := a1.alloc (by omega) (.cells (acells 2 ii nn ss) 31)
  have z2 : (wa.alloc (.cells (acells 2 ii nn ss) 31)).heap.size = W.heap.size + 2 := by simp [z1]
  have x2 := Box.new wa (acells 2 ii nn ss) 31
  rw [z1] at x2
  have x1' := x1.alloc (.cells (acells 2 ii nn ss) 31)
  generalize hwb : wa.alloc (.cells (acells 2 ii nn ss) 31) = wb at a2 z2 x2 x1'
  have a3 := a2.alloc (by omega) (.cells #[.pointer none, .pointer none, .slice none 0 0, .slice none 0 0, .bool false] 29)
  have z3 : (wb.alloc (.cells #[.pointer none, .pointer none, .slice none 0 0, .slice none 0 0, .bool false] 29)).heap.size = W.heap.size + 3 := by simp [z2]
  have x3 := Box.new wb #[.pointer none, .pointer none, .slice none 0 0, .slice none 0 0, .bool false] 29
  rw [z2] at x3
  have x1'' := x1'.alloc (.cells #[.pointer none, .pointer none, .slice none 0 0, .slice none 0 0, .bool false] 29)
  have x2' := x2.alloc (.cells #[.pointer none, .pointer none, .slice none 0 0, .slice none 0 0, .bool false] 29)
  generalize hwc : wb.alloc (.cells #[.pointer none, .pointer none, .slice none 0 0, .slice none 0 0, .bool false] 29) = wc at a3 z3 x3 x1'' x2'
  have HWC : Hid (((W.alloc (.cells (rcells P H ao X.length c) 29)).alloc (.cells (acells 2 ii nn ss) 31)).alloc (.cells #[.pointer none, .pointer none, .slice none 0 0, .slice none 0 0, .bool false] 29) = wc) := by
    show _ = _
    rw [hwa, hwb, hwc]
  have hz : HZ (fun j => E j ∨ j = W.heap.size ∨ j = W.heap.size + 1 ∨ j = W.heap.size + 2) wc P D H k A root pg rp L X := ⟨h.pz.wide a3 (fun j hj => by
    rcases hj with hj | hj | hj | hj
    · exact .inl hj
    · exact .inr (by omega)
    · exact .inr (by omega)
    · exact .inr (by omega)), h.good, h.box.below a3 h.box.lt, .inl h.mem, h.hi, h.few⟩
  have k3 : Kept E W wc := h.pz.kept a3
  have HLG := Lib.hid (fun w => hlong_any ss nn w)
  have HLL := Lib.hid (longL_len ss nn)
  generalize longL ss nn = l at HLG HLL
  have HAT := Lib.hid (fun w => hat_any (W := w) ii X.length (by omega))
  have HQ := Lib.hid (And.intro hz (And.intro k3 (And.intro x1'' (And.intro x2' (And.intro x3 (ht.next a3))))))
  clear h ht x1 x1' x1'' x2 x2' x3 a1 a2 a3 z1 z2 z3 hwa hwb hwc hz k3
  go_enter Tryz.func9, Tryz.ntmps9
  go_wp2_with fail
  rw [HWC.out]
  obtain ⟨hz, k3, x1, x2, x3, ht⟩ := HQ.out
  have r0 : wc.cell? ⟨W.heap.size, 0, none⟩ = some (.pointer (some ⟨P, 0, none⟩)) := x1.cell 0 _ rfl
  have r1 : wc.cell? ⟨W.heap.size, 1, none⟩ = some (.pointer (some ⟨H, 0, none⟩)) := x1.cell 1 _ rfl
  have r2 : wc.cell? ⟨W.heap.size, 2, none⟩ = some (.slice ao X.length c) := x1.cell 2 _ rfl
  have r3 : wc.cell? ⟨W.heap.size, 3, none⟩ = some (.slice none 0 0) := x1.cell 3 _ rfl
  have r4 : wc.cell? ⟨W.heap.size, 4, none⟩ = some (.bool false) := x1.cell 4 _ rfl
  have q0 : wc.cell? ⟨W.heap.size + 1, 0, none⟩ = some (.int .i64 2) := x2.cell 0 _ rfl
  have q1 : wc.cell? ⟨W.heap.size + 1, 1, none⟩ = some (.int .i64 ii) := x2.cell 1 _ rfl
  have m0 : wc.cell? ⟨W.heap.size + 2, 0, none⟩ = some (.pointer none) := x3.cell 0 _ rfl
  have m1 : wc.cell? ⟨W.heap.size + 2, 1, none⟩ = some (.pointer none) := x3.cell 1 _ rfl
  have m2 : wc.cell? ⟨W.heap.size + 2, 2, none⟩ = some (.slice none 0 0) := x3.cell 2 _ rfl
  have m3 : wc.cell? ⟨W.heap.size + 2, 3, none⟩ = some (.slice none 0 0) := x3.cell 3 _ rfl
  have m4 : wc.cell? ⟨W.heap.size + 2, 4, none⟩ = some (.bool false) := x3.cell 4 _ rfl
  have mf : ∀ j, wc.frozen? ⟨W.heap.size + 2, j, none⟩ = false := x3.free
  clear hz k3 x1 x2 x3 ht
  refine (HLG.out wc).mono ?_
  rintro e w1 ⟨rfl, hw⟩
  cases hw
  go_wp2_with fail
  refine (HAT.out _).mono ?_
  rintro e w1 ⟨v, rfl, hw, hva, hvb⟩
  cases hw
  by_cases hX0 : X.length = 0
  · obtain rfl := hva hX0
    clear hvb HAT HLG hX0
    go_wp2_with fail
    obtain ⟨hz, k3, x1, x2, x3, ht⟩ := HQ.out
    refine bodyPost_ret (UK.box_ret2 rfl _ (x3.fill5 _ _ _ _ _) rfl run_under rfl run_size) rfl ?_
    exact .inl (done_none hz ht hE h0 hH hlt k3 (Only.fill5 _ _ _ _ _ _ _) x3.lt htab hs)
  obtain ⟨j, rfl, hj⟩ := hvb (by omega)
  obtain ⟨hz, k3, x1, x2, x3, ht⟩ := HQ.out
  obtain ⟨t, htj⟩ : ∃ t, X[j]? = some t := ⟨_, List.getElem?_eq_getElem hj⟩
  have htm : t ∈ X := List.mem_of_getElem? htj
  obtain ⟨g, rfl, c0, c1⟩ := ht.at_ htj
  have hperm := without_perm hz.apart htj
  have hlen : (without X (idOf t)).length + 1 = X.length := by have := hperm.length_eq; rw [List.length_cons] at this; omega
  have hmem : ∀ u, u ∈ without X (idOf t) → u ∈ X := fun u hu => (List.mem_filter.1 hu).1
  have hzd := (hz.perm hperm).step ((hz.perm hperm).pz.next (Below.refl _ wc).drew) ((hz.perm hperm).pz.kept (Below.refl _ wc).drew)
  have htl := hs t htm
  have hk3 := k3
  have hse : Calls Tryz.prog 37 #[.pointer (some ⟨H, 0, none⟩), .int .u64 (idOf t : Nat), .string (str l)] wc.drew fun e w5 => ∃ (iv er : Int), e = .returned (.tuple #[.int .u64 iv, .int .i64 er]) ∧ Kept (fun j => E j ∨ j = W.heap.size ∨ j = W.heap.size + 1 ∨ j = W.heap.size + 2) wc.drew w5 ∧
      ((er = 0 ∧ ∃ (u : HT) (A5 : AP) (pg5 : Nat) (rp5 : List Nat) (L5 : Nat → List (List UInt8)), iv = (idOf u : Nat) ∧ u.s = l ∧ HZ (fun j => E j ∨ j = W.heap.size ∨ j = W.heap.size + 1 ∨ j = W.heap.size + 2) w5 P D H (k + (t.s.length + l.length + 100)) A5 root pg5 rp5 L5 (u :: without X (idOf t)) ∧ A.Reach A5) ∨
       (er = 6 ∧ ∃ B, PZ (fun j => E j ∨ j = W.heap.size ∨ j = W.heap.size + 1 ∨ j = W.heap.size + 2) w5 P D B (k + (t.s.length + l.length + 100)) ∧ A.Reach B)) := by
    refine (hset_any (s := l) hzd (by have := HLL.out; omega) (by have := HLL.out; omega)).mono ?_
    rintro e w5 (⟨u, A5, pg5, rp5, L5, he, hu, z5, r5, k5⟩ | ⟨B1, B, pg1, rp1, L1, he, hi1, g1, g2, qq, p5, k5⟩)
    · exact ⟨_, _, he, k5, .inl ⟨rfl, u, A5, pg5, rp5, L5, rfl, hu, z5, r5⟩⟩
    · exact ⟨_, _, he, k5, .inr ⟨rfl, B, p5, g2⟩⟩
  have HSE := Lib.hid hse
  clear hse
  have hng : ¬ ((j : Nat) : Int) < 0 := by omega
  have hil : (j : Int) < (X.length : Int) := by omega
  have hle := ht.le
  have r1d : wc.drew.cell? ⟨W.heap.size, 1, none⟩ = some (.pointer (some ⟨H, 0, none⟩)) := r1
  have r2d : wc.drew.cell? ⟨W.heap.size, 2, none⟩ = some (.slice (some ⟨g, 0, none⟩) X.length c) := r2
  have HKE : Hid (∀ w5, Kept (fun j => E j ∨ j = W.heap.size ∨ j = W.heap.size + 1 ∨ j = W.heap.size + 2) wc.drew w5 → w5.cell? ⟨W.heap.size, 1, none⟩ = some (.pointer (some ⟨H, 0, none⟩)) ∧ w5.cell? ⟨W.heap.size, 2, none⟩ = some (.slice (some ⟨g, 0, none⟩) X.length c) ∧ w5.cell? ⟨g, j * 2, none⟩ = some (.int .u64 (idOf t : Nat))) := fun w5 k5 =>
    ⟨kept_at k5 (.inr (.inl rfl)) r1d, kept_at k5 (.inr (.inl rfl)) r2d, kept_at k5 (.inl (hE g rfl)) c0⟩
  have HM := Lib.hid (And.intro htj (And.intro hperm (And.intro hlen (And.intro hmem htl))))
  clear HAT HLG hz k3 hk3 x1 x2 x3 ht htj htm hperm hlen hmem hzd hva hvb c1
  generalize hX1 : without X (idOf t) = X1 at HM HSE
  have c0d : wc.drew.cell? ⟨g, j * 2, none⟩ = some (.int .u64 ((idOf t : Nat) : Int)) := c0
  have HX1 := Lib.hid hX1
  clear hX1
  generalize htn : (idOf t : Nat) = tn at c0 c0d HSE HM HX1 HKE
  clear htn
  go_wp2_with fail
  go_region_held (fun w : World => w.cell? ⟨W.heap.size, 1, none⟩ = some (.pointer (some ⟨H, 0, none⟩)) ∧ w.cell? ⟨W.heap.size, 2, none⟩ = some (.slice (some ⟨g, 0, none⟩) X.length c) ∧ w.cell? ⟨g, j * 2, none⟩ = some (.int .u64 (tn : Int))) (first | exact ⟨r1, r2, c0⟩ | exact ⟨r1d, r2d, c0d⟩ | exact ⟨s1, s2, s3⟩) (first
    | (go_at_call 37; refine HSE.out.mono ?_; rintro e w5 ⟨iv, er, rfl, k5, hd⟩; obtain ⟨s1, s2, s3⟩ := HKE.out w5 k5; replace hd := Lib.hid hd; replace k5 := Lib.hid k5))
  all_goals
    obtain ⟨htj, hperm, hlen, hmem, htl⟩ := HM.out
    rcases hd.out with ⟨rfl, u, A5, pg5, rp5, L5, rfl, hu, z5, r5⟩ | ⟨rfl, B, p5, r5⟩
    rotate_left
    · replace k5 := k5.out
      obtain ⟨hz, k3, x1, x2, x3, ht⟩ := HQ.out
      have k3d := k3.trans ((hz.pz.kept (Below.refl _ wc).drew).mono (fun j hj => .inl hj))
      have y1 := x1.drew.of_block (k5.block _ (.inr (.inl rfl)))
      have y3 := x3.drew.of_block (k5.block _ (.inr (.inr (.inr rfl))))
      have n0 : w5.cell? ⟨W.heap.size, 0, none⟩ = some (.pointer (some ⟨P, 0, none⟩)) := y1.cell 0 _ rfl
      have n1 : w5.cell? ⟨W.heap.size, 1, none⟩ = some (.pointer (some ⟨H, 0, none⟩)) := y1.cell 1 _ rfl
      have n2 : w5.cell? ⟨W.heap.size, 2, none⟩ = some (.slice (some ⟨g, 0, none⟩) X.length c) := y1.cell 2 _ rfl
      have n3 : w5.cell? ⟨W.heap.size, 3, none⟩ = some (.slice none 0 0) := y1.cell 3 _ rfl
      have n4 : w5.cell? ⟨W.heap.size, 4, none⟩ = some (.bool false) := y1.cell 4 _ rfl
      have o0 : w5.cell? ⟨W.heap.size + 2, 0, none⟩ = some (.pointer none) := y3.cell 0 _ rfl
      have o1 : w5.cell? ⟨W.heap.size + 2, 1, none⟩ = some (.pointer none) := y3.cell 1 _ rfl
      have o2 : w5.cell? ⟨W.heap.size + 2, 2, none⟩ = some (.slice none 0 0) := y3.cell 2 _ rfl
      have o3 : w5.cell? ⟨W.heap.size + 2, 3, none⟩ = some (.slice none 0 0) := y3.cell 3 _ rfl
      have o4 : w5.cell? ⟨W.heap.size + 2, 4, none⟩ = some (.bool false) := y3.cell 4 _ rfl
      have of : ∀ j, w5.frozen? ⟨W.heap.size + 2, j, none⟩ = false := y3.free
      have H5 := Lib.hid (And.intro p5 (And.intro r5 (And.intro k3d (And.intro k5 (And.intro y3 htl)))))
      clear hd HSE hz k3 k3d x1 x2 x3 ht y1 y3 p5 r5 k5 htj hperm hmem htl hlen r0 r1 r2 r3 r4 r1d r2d c0d c0 q0 q1 m0 m1 m2 m3 m4 mf s1 s2 s3
      go_wp2_with fail
      obtain ⟨p5, r5, k3d, k5, y3, htl⟩ := H5.out
      refine bodyPost_ret (UK.box_ret2 rfl _ (y3.fill5 _ _ _ _ _) rfl run_under rfl run_size) rfl ?_
      exact .inr (fail_end p5 hE h0 hlt r5 k3d k5 (Only.fill5 _ _ _ _ _ _ _) y3.lt htab (by have := HLL.out; omega))
    clear hd
    replace k5 := k5.out
    obtain ⟨hz, k3, x1, x2, x3, ht⟩ := HQ.out
    have y1 := x1.drew.of_block (k5.block _ (.inr (.inl rfl)))
    have y3 := x3.drew.of_block (k5.block _ (.inr (.inr (.inr rfl))))
    have t5 : TX w5 (some ⟨g, 0, none⟩) c X := (ht.next (Below.refl _ wc).drew).of_block k5.size (fun b hb => k5.block b (.inl (hE b hb)))
    have k15 : Kept E W w5 := (k3.trans ((hz.pz.kept (Below.refl _ wc).drew).mono (fun j hj => .inl hj))).trans (k5.mono (fun j hj => .inl hj))
    have hidt := z5.id_lt (List.mem_cons_self .. : u ∈ u :: X1)
    have hnz : ((idOf u : Nat) : Int) ≠ 0 := by unfold idOf; omega
    have hnzb : (((idOf u : Nat) : Int) == 0) = false := by simp; exact fun h => hnz (by omega)
    have hnew : ∀ v, v ∈ X1 → idOf v ≠ idOf u := fun v hv => ((List.pairwise_cons.1 z5.apart).1 v hv).symm
    have HWO := Lib.hid (by have hh := without_any (n := tn) (t5.next (Below.refl _ w5).drew) (by omega); rw [HX1.out] at hh; exact hh)
    have H5 := Lib.hid (And.intro z5 (And.intro r5 (And.intro hu (And.intro k15 (And.intro y1 (And.intro y3 (And.intro hnew hidt)))))))
    have HW1 := Lib.hid htl
    have hX1l : X1.length ≤ 25 := by omega
    clear HSE hz k3 x1 x2 x3 ht y1 y3 t5 hidt hnew z5 r5 hu k15 k5 htj hperm hmem htl hlen r0 r1 r2 r3 r4 r1d r2d c0d c0 q0 q1 m0 m1 m2 m3 m4 mf
    go_wp2_with fail
    go_still_tail 8, (by kernel_rfl)
    change wpList _ _ _ _ _ w5.drew
    go_wp2_with fail
    refine HWO.out.mono ?_
    rintro e w6 ⟨ao6, c6, rfl, t6, hf6, b6⟩
    have HF := Lib.hid (rfind_no (n := idOf u) t6 H5.out.2.2.2.2.2.2.1 (by omega))
    have H6 := Lib.hid (And.intro t6 (And.intro hf6 b6))
    clear HWO t6 hf6 b6
    generalize hti : (idOf u : Nat) = ti at *
    go_wp2_with fail
    refine HF.out.mono ?_
    rintro e w7 ⟨rfl, b7⟩
    obtain ⟨t6, hf6, b6⟩ := H6.out
    obtain ⟨z5, r5, hu, k5, y1, y3, hnew, hidt⟩ := H5.out
    have aB : Below w7.heap.size w7 (w7.alloc (.cells #[.int .u64 ti, .string (str l)] 36)) := (Below.refl _ _).alloc (Nat.le_refl _) _
    have sB : (w7.alloc (.cells #[.int .u64 ti, .string (str l)] 36)).heap.size = w7.heap.size + 1 := by simp
    have xB := Box.new w7 #[.int .u64 ti, .string (str l)] 36
    obtain ⟨g2, c2, w8, e2, t8, o8⟩ := ((t6.next b7).next aB).push (t := u) (by omega) (b := w7.heap.size) ⟨by rw [hti]; exact xB.cell 0 _ rfl, by rw [hu]; exact xB.cell 1 _ rfl⟩
    have b57 : Below w5.heap.size w5 w7 := ((Below.refl _ w5).drew.trans (b6.mono (Nat.le_refl _))).trans (b7.mono b6.size)
    have s57 := b57.size
    have hg2 : w5.heap.size ≤ g2 := by
      rcases o8 with ⟨a, _⟩ | ⟨a, _⟩
      · exact hf6 g2 a
      · omega
    have b58 : Below w5.heap.size w5 w8 := by
      have hb := b57.trans (aB.mono s57)
      rcases o8 with ⟨_, o⟩ | ⟨_, o⟩
      · exact hb.trans (o.below (by omega) hg2)
      · exact hb.trans (o.mono (by omega))
    have hg2l : g2 < w8.heap.size := t8.lt rfl
    have hszW : W.heap.size + 2 < w5.heap.size := y3.lt
    have y18 := y1.next b58
    have y38 := y3.next b58
    have y19 := y18.set 2 (.slice (some ⟨g2, 0, none⟩) (X1.length + 1) c2)
    have y39 := y38.far (b := W.heap.size) (j := 2) (.slice (some ⟨g2, 0, none⟩) (X1.length + 1) c2) (by omega)
    have o9 : Only W.heap.size w8 (w8.setCell ⟨W.heap.size, 2, none⟩ (.slice (some ⟨g2, 0, none⟩) (X1.length + 1) c2)) := (Only.refl _ _).set 2 _
    have f8 : w8.frozen? ⟨W.heap.size, 2, none⟩ = false := y18.free 2
    have d8 : w8.cell? ⟨W.heap.size, 2, none⟩ = some (.slice (some ⟨g, 0, none⟩) X.length c) := y18.cell 2 _ rfl
    generalize hw9 : w8.setCell ⟨W.heap.size, 2, none⟩ (.slice (some ⟨g2, 0, none⟩) (X1.length + 1) c2) = w9 at y19 y39 o9
    have y19' : Box w9 W.heap.size (rcells P H (some ⟨g2, 0, none⟩) (X1.length + 1) c2) := y19
    have n0 : w9.cell? ⟨W.heap.size, 0, none⟩ = some (.pointer (some ⟨P, 0, none⟩)) := y19'.cell 0 _ rfl
    have n1 : w9.cell? ⟨W.heap.size, 1, none⟩ = some (.pointer (some ⟨H, 0, none⟩)) := y19'.cell 1 _ rfl
    have n2 : w9.cell? ⟨W.heap.size, 2, none⟩ = some (.slice (some ⟨g2, 0, none⟩) (X1.length + 1) c2) := y19'.cell 2 _ rfl
    have n3 : w9.cell? ⟨W.heap.size, 3, none⟩ = some (.slice none 0 0) := y19'.cell 3 _ rfl
    have n4 : w9.cell? ⟨W.heap.size, 4, none⟩ = some (.bool false) := y19'.cell 4 _ rfl
    have m0 : w9.cell? ⟨W.heap.size + 2, 0, none⟩ = some (.pointer none) := y39.cell 0 _ rfl
    have m1 : w9.cell? ⟨W.heap.size + 2, 1, none⟩ = some (.pointer none) := y39.cell 1 _ rfl
    have m2 : w9.cell? ⟨W.heap.size + 2, 2, none⟩ = some (.slice none 0 0) := y39.cell 2 _ rfl
    have m3 : w9.cell? ⟨W.heap.size + 2, 3, none⟩ = some (.slice none 0 0) := y39.cell 3 _ rfl
    have m4 : w9.cell? ⟨W.heap.size + 2, 4, none⟩ = some (.bool false) := y39.cell 4 _ rfl
    have mf : ∀ j, w9.frozen? ⟨W.heap.size + 2, j, none⟩ = false := y39.free
    have H9 := Lib.hid (And.intro y39 (And.intro b58 (And.intro o9 (And.intro t8 (And.intro hg2 (And.intro hg2l hszW))))))
    clear HF y1 y3 aB sB xB t8 o8 b57 s57 b58 y18 y38 y19 y19' y39 o9 z5 r5 k5 hidt hnew t6 hf6 b6 b7 hg2 hg2l
    subst hw9
    go_wp2_with (at_builtin; refine UK.wpList_append_run e2 rfl rfl rfl rfl rfl ?_)
    obtain ⟨y39, b58, o9, t8, hg2, hg2l, hszW⟩ := H9.out
    obtain ⟨z5, r5, hu, k5, y1, y3, hnew, hidt⟩ := H5.out
    refine bodyPost_ret (UK.box_ret2 rfl _ (y39.fill5 _ _ _ _ _) rfl run_under rfl run_size) rfl ?_
    exact .inl (done_put z5 h0 hH hlt r5 k5 b58 o9 (Only.fill5 _ _ _ _ _ _ _) t8 hg2 hg2l hszW htab (by have := HLL.out; have := HW1.out; omega) (by rw [hu]; exact HLL.out) (fun v hv => hs v (HM.out.2.2.2.1 v hv)) (by have := HM.out.2.2.1; omega))
end
end Go.Proofs.YtjfkdfffolkblaaGreatDoor
namespace Go.Proofs.YtjfkdfffolkblaaGreatDoor
open Go.RowKit
open UK (str BytesAt nth Only Row Box w32)
open SR (Recs rcd total)
open SL (hole add trim room live)
open Go.BigFrame
section
variable {E E0 : Nat → Prop} {W W' w w' : World} {P D k pg H c rb q j : Nat} {A A0 B : AP} {rp : List Nat} {L : Nat → List (List UInt8)} {X : List HT} {ao : Option Addr}
/-- what a page has is as long as a page -/
theorem PZ.clen (h : PZ E W P D A k) {p : Nat} (hp : A.Has p) : (A.c p).length = 504 := by
  obtain ⟨FB, M, n, q, d, h1, hn, his⟩ := h
  by_cases hx : ∃ (i : Nat) (f : Fr), q.frames[i]? = some (some f) ∧ f.page = (p : Nat)
  · obtain ⟨i, f, hi, hf⟩ := hx
    have e := h1.calm.at_ i f hi
    rw [hf, Int.toNat_natCast] at e
    rw [← e]
    exact (h1.pd.pool.each i f hi).len
  · have e := h1.calm.off p hp.1 hp.2.1 (by rw [his.free]; exact hp.2.2.1) (fun i f hi hf => absurd ⟨i, f, hi, hf⟩ hx)
    rw [← e]
    have hok := h1.calm.clean.ok p hp.1 hp.2.1
    have hl := h1.calm.clean.fit.len
    have hlt := hp.2.1
    unfold lookL
    rw [if_pos hok, loadL_pg, List.length_drop, pgOf_length (by omega)]
theorem begun_has (A : AP) (ho : A.op = none) (p : Nat) : A.begun.Has p ↔ A.Has p := by
  unfold AP.Has AP.goneL
  rw [ho]
  exact Iff.rfl
/-- between: the run's box, the pool, the heap's box, the texts; the box of what came is q -/
structure FX (W w : World) (P D H rb q : Nat) (ao : Option Addr) (c : Nat) (X : List HT) (A : AP) (k j : Nat) : Prop where
  rbx : ∃ ao0 n0 c0, Box w rb (rcells P H ao0 n0 c0)
  pz : PZ (fun b => ((b < W.heap.size ∨ b = H ∨ b = rb) ∨ b = q) ∨ slB ao b) w P D A k
  hb : Box w H (hcells P 1)
  tx : TX w ao c X
  len : X.length ≤ j
  txs : ∀ t, t ∈ X → t.s.length ≤ 3000
  kept : Kept (fun b => b < W.heap.size) W w
  far : ∀ b, slB ao b → b ≠ q ∧ b ≠ rb
/-- likewise, behind that -/
structure FY (W w : World) (P D H rb : Nat) (ao : Option Addr) (c : Nat) (X : List HT) (A : AP) (k j : Nat) : Prop where
  rbx : Box w rb (rcells P H ao X.length c)
  pz : PZ (fun b => (b < W.heap.size ∨ b = H ∨ b = rb) ∨ slB ao b) w P D A k
  hb : Box w H (hcells P 1)
  tx : TX w ao c X
  len : X.length ≤ j
  txs : ∀ t, t ∈ X → t.s.length ≤ 3000
  kept : Kept (fun b => b < W.heap.size) W w
  far : ∀ b, slB ao b → b ≠ rb
theorem FX.fill (h : FX W w P D H rb q ao c X A k j) (o : Only q w w') (h1 : rb ≠ q) (h2 : H ≠ q) (h3 : W.heap.size ≤ q) (h4 : 0 < W.heap.size) : FX W w' P D H rb q ao c X A k j := by
  obtain ⟨⟨ao0, n0, c0, rbx⟩, pz, hb, tx, len, txs, kept, far⟩ := h
  have ks := kept.size
  refine ⟨⟨ao0, n0, c0, rbx.of_block (o.block rb rbx.lt h1)⟩, ?_, hb.of_block (o.block H hb.lt h2), tx.of_block o.size (fun b hb => o.block b (tx.lt hb) (far b hb).1), len, txs, kept.trans (kept_only o (fun b hb => by omega) (fun b hb => by omega)), far⟩
  exact pz.over (R := fun b => b = q) (fun b hb => .inl (.inr hb)) (fun hb => by have : 0 = q := hb; omega) o.size (fun b hb hn => o.block b hb hn) (fun b hb => .inl hb)
theorem FX.done (h : FX W w P D H rb q ao c X A k j) (o : Only rb w w') (hb0 : Box w' rb (rcells P H ao X.length c)) (h2 : H ≠ rb) (h3 : W.heap.size ≤ rb) (h4 : 0 < W.heap.size) : FY W w' P D H rb ao c X A k j := by
  obtain ⟨_, pz, hb, tx, len, txs, kept, far⟩ := h
  have ks := kept.size
  refine ⟨hb0, ?_, hb.of_block (o.block H hb.lt h2), tx.of_block o.size (fun b hb => o.block b (tx.lt hb) (far b hb).2), len, txs, kept.trans (kept_only o (fun b hb => by omega) (fun b hb => by omega)), fun b hb => (far b hb).2⟩
  refine pz.over (R := fun b => b = rb) (fun b hb => .inl (.inl (.inr (.inr hb)))) (fun hb => by have : 0 = rb := hb; omega) o.size (fun b hb hn => o.block b hb hn) (fun b hb => .inl ?_)
  rcases hb with hb | hb
  · exact .inl (.inl hb)
  · exact .inr hb
theorem FX.same (h : FX W w P D H rb q ao c X A k j) (hb0 : Box w rb (rcells P H ao X.length c)) : FY W w P D H rb ao c X A k j :=
  ⟨hb0, h.pz.less (fun _ hb => hb.elim (fun h => .inl (.inl h)) .inr), h.hb, h.tx, h.len, h.txs, h.kept, fun b hb => (h.far b hb).2⟩
/-- a call on the pool -/
theorem FY.step {m : Nat} (h : FY W w P D H rb ao c X A k j) (p : PZ (fun b => (b < W.heap.size ∨ b = H ∨ b = rb) ∨ slB ao b) w' P D B m) (kk : Kept (fun b => (b < W.heap.size ∨ b = H ∨ b = rb) ∨ slB ao b) w w') : FY W w' P D H rb ao c X B m j :=
  ⟨h.rbx.of_block (kk.block _ (.inl (.inr (.inr rfl)))), p, h.hb.of_block (kk.block _ (.inl (.inr (.inl rfl)))), h.tx.of_block kk.size (fun b hb => kk.block b (.inr hb)), h.len, h.txs, h.kept.trans (kk.mono (fun _ hb => .inl (.inl hb))), h.far⟩
theorem FY.hz (h : FY W w P D H rb ao c X A k j) (g : A.Good) (hi : HI A.pgs 1 pg rp L X) (hj : j ≤ 25) : HZ (fun b => (b < W.heap.size ∨ b = H ∨ b = rb) ∨ slB ao b) w P D H k A 1 pg rp L X :=
  ⟨h.pz, g, h.hb, .inl (.inr (.inl rfl)), hi, by have := h.len; omega⟩
/-- behind Does -/
def AfterD (W w : World) (P D H rb q : Nat) (ao : Option Addr) (c : Nat) (X : List HT) (A0 : AP) (k j : Nat) (ao2 : Option Addr) (n2 c2 : Nat) (okv : Bool) : Prop :=
  (okv = true ∧ ∃ X2 A2 pg2 rp2 L2, n2 = X2.length ∧ FX W w P D H rb q ao2 c2 X2 A2 (k + 10000) (j + 1) ∧ A2.op ≠ none ∧ A2.Good ∧ HI A2.pgs 1 pg2 rp2 L2 X2) ∨
  (okv = false ∧ ao2 = ao ∧ n2 = X.length ∧ c2 = c ∧ ∃ B, FX W w P D H rb q ao c X B (k + 10000) (j + 1) ∧ AP.SinceX A0 B ∧ Box w rb (rcells P H ao X.length c))
theorem AfterD.fill {ao2 : Option Addr} {n2 c2 : Nat} {okv : Bool} (h : AfterD W w P D H rb q ao c X A0 k j ao2 n2 c2 okv) (o : Only q w w') (h1 : rb ≠ q) (h2 : H ≠ q) (h3 : W.heap.size ≤ q) (h4 : 0 < W.heap.size) : AfterD W w' P D H rb q ao c X A0 k j ao2 n2 c2 okv := by
  rcases h with ⟨e, X2, A2, pg2, rp2, L2, en, fx, r⟩ | ⟨e, e1, e2, e3, B, fx, hs, hb⟩
  · exact .inl ⟨e, X2, A2, pg2, rp2, L2, en, fx.fill o h1 h2 h3 h4, r⟩
  · exact .inr ⟨e, e1, e2, e3, B, fx.fill o h1 h2 h3 h4, hs, hb.of_block (o.block rb hb.lt h1)⟩
theorem does_threeF (h : HZ E W P D H k A 1 pg rp L X) (ht : TX W ao c X) (hE : ∀ b, slB ao b → E b) (h0 : ∀ j, E0 j → E j) (hH : E0 H) (hX : X.length ≤ 25) (hs : ∀ t, t ∈ X → t.s.length ≤ 3000) (hk : k + 10000 < 900000000) (kd ii nn : Int) (ss : List UInt8) (hkd : kd = 1 ∨ kd = 2 ∨ kd = 3) :
    Calls Tryz.prog 9 #[.agg (rcells P H ao X.length c), .agg (acells kd ii nn ss)] W fun e w' => DoneR E0 W w' P D H k A 1 X ao e ∨ FailR E0 W w' P D H k A X ao c e := by
  rcases hkd with rfl | rfl | rfl
  · exact does_putF h ht hE h0 hH hX hs hk ii nn ss
  · exact does_setF h ht hE h0 hH hX hs hk ii nn ss
  · exact (does_drop h ht hE h0 hH hX hs hk ii nn ss).mono fun _ _ h => .inl h
/-- the heap, begun -/
theorem FY.begun_hz (h : FY W w P D H rb ao c X A0.begun k j) (g : A0.Good) (ho : A0.op = none) (hi : HI A0.pgs 1 pg rp L X) (hj : j ≤ 25) : HZ (fun b => (b < W.heap.size ∨ b = H ∨ b = rb) ∨ slB ao b) w P D H k A0.begun 1 pg rp L X :=
  h.hz g.begun (hi.same (B := A0.begun.pgs) (fun p => begun_has A0 ho p) (fun _ _ => rfl)) hj
theorem since_op (h : AP.SinceX A0 B) : B.op ≠ none := by
  obtain ⟨o, h⟩ := h
  rw [h.op]
  exact fun e => by cases e
theorem since_good (h : AP.SinceX A0 B) : B.Good := by
  obtain ⟨o, h⟩ := h
  exact h.good
/-- what Does leaves, told by the frame of the law -/
theorem afterD_of {wa w3 : World} {e : Ending} (hy : FY W w P D H rb ao c X A0.begun k j) (g : A0.Good) (ho : A0.op = none) (a1 : Below w.heap.size w wa) (hd : DoneR E0 wa w3 P D H k A0.begun 1 X ao e ∨ FailR E0 wa w3 P D H k A0.begun X ao c e) :
    ∃ ao2 n2 c2 okv, e = .returned (.tuple #[.agg (rcells P H ao2 n2 c2), .bool okv]) ∧ Kept E0 wa w3 ∧
      ((okv = true ∧ ∃ X2 A2 pg2 rp2 L2, n2 = X2.length ∧ HZ (fun b => E0 b ∨ slB ao2 b) w3 P D H (k + 10000) A2 1 pg2 rp2 L2 X2 ∧ TX w3 ao2 c2 X2 ∧ A2.op ≠ none ∧ A2.Good ∧ X2.length ≤ j + 1 ∧ (∀ t, t ∈ X2 → t.s.length ≤ 3000) ∧ ∀ b, slB ao2 b → slB ao b ∨ wa.heap.size ≤ b) ∨
       (okv = false ∧ ao2 = ao ∧ n2 = X.length ∧ c2 = c ∧ ∃ B, PZ (fun b => E0 b ∨ slB ao b) w3 P D B (k + 10000) ∧ AP.SinceX A0 B ∧ TX w3 ao c X)) := by
  have hs0 : AP.SinceX A0 A0.begun := AP.Since.start g ho
  rcases hd with ⟨ao2, c2, A2, pg2, rp2, L2, X2, he, z3, t3, r3, n3, s3, k3, f3⟩ | ⟨he, B, p3, r3, k3⟩
  · have hs2 := AP.Reach.since hs0 r3
    exact ⟨ao2, _, c2, true, he, k3, .inl ⟨rfl, X2, A2, pg2, rp2, L2, rfl, z3, t3, since_op hs2, since_good hs2, by have := hy.len; omega, s3, f3⟩⟩
  · refine ⟨ao, _, c, false, he, k3.mono (fun b hb => .inl hb), .inr ⟨rfl, rfl, rfl, rfl, B, p3, AP.Reach.since hs0 r3, (hy.tx.next a1).of_block k3.size (fun b hb => k3.block b (.inr hb))⟩⟩
set_option maxRecDepth 100000 in
theorem does_lawF (hy : FY W w P D H rb ao c X A0.begun k j) (g : A0.Good) (ho : A0.op = none) (hi : HI A0.pgs 1 pg rp L X) (hj : j < 25) (hk : k + 10000 < 900000000) (kd ii nn : Int) (ss : List UInt8) (hkd : kd = 1 ∨ kd = 2 ∨ kd = 3) :
    Calls Tryz.prog 9 #[.agg (rcells P H ao X.length c), .agg (acells kd ii nn ss)] (w.alloc (.cells zcells 29)).drew fun e w3 => ∃ ao2 n2 c2 okv, e = .returned (.tuple #[.agg (rcells P H ao2 n2 c2), .bool okv]) ∧ Box w3 w.heap.size zcells ∧ AfterD W w3 P D H rb w.heap.size ao c X A0 k j ao2 n2 c2 okv := by
  have a1 : Below w.heap.size w (w.alloc (.cells zcells 29)).drew := ((Below.refl _ _).alloc (Nat.le_refl _) _).drew
  have x1 := (Box.new w zcells 29).drew
  have hs : (w.alloc (.cells zcells 29)).drew.heap.size = w.heap.size + 1 := by simp
  generalize (w.alloc (.cells zcells 29)).drew = wa at a1 x1 hs
  have hrbl := hy.rbx.lt
  have hHl := hy.hb.lt
  have hz0 := hy.begun_hz g ho hi (by omega)
  have hz1 : HZ (fun b => ((b < W.heap.size ∨ b = H ∨ b = rb) ∨ b = w.heap.size) ∨ slB ao b) wa P D H k A0.begun 1 pg rp L X := ⟨hz0.pz.wide a1 (fun b hb => by
    rcases hb with (hb | hb) | hb
    · exact .inl (.inl hb)
    · exact .inr (by omega)
    · exact .inl (.inr hb)), hz0.good, hz0.box.below a1 hz0.box.lt, .inl (.inl (.inr (.inl rfl))), hz0.hi, hz0.few⟩
  refine (does_threeF (E0 := fun b => (b < W.heap.size ∨ b = H ∨ b = rb) ∨ b = w.heap.size) hz1 (hy.tx.next a1) (fun b h => .inr h) (fun b h => .inl h) (.inl (.inr (.inl rfl))) (by have := hy.len; omega) hy.txs hk kd ii nn ss hkd).mono ?_
  intro e w3 hd
  have kE : Kept (fun b => (b < W.heap.size ∨ b = H ∨ b = rb) ∨ slB ao b) w wa := hy.pz.kept a1
  obtain ⟨ao2, n2, c2, okv, he, k3, hh⟩ := afterD_of hy g ho a1 hd
  have kW : Kept (fun b => b < W.heap.size) W w3 := (hy.kept.trans (kE.mono (fun b hb => .inl (.inl hb)))).trans (k3.mono (fun b hb => .inl (.inl hb)))
  have hb3 : Box w3 rb (rcells P H ao X.length c) := (hy.rbx.below a1 hrbl).of_block (k3.block rb (.inl (.inr (.inr rfl))))
  have hh3 : Box w3 H (hcells P 1) := (hy.hb.below a1 hHl).of_block (k3.block H (.inl (.inr (.inl rfl))))
  refine ⟨ao2, n2, c2, okv, he, x1.of_block (k3.block _ (.inr rfl)), ?_⟩
  rcases hh with ⟨e1, X2, A2, pg2, rp2, L2, en, z3, t3, o3, g3, n3, s3, f3⟩ | ⟨e1, e2, e3, e4, B, p3, hs3, t3⟩
  · refine .inl ⟨e1, X2, A2, pg2, rp2, L2, en, ⟨⟨_, _, _, hb3⟩, z3.pz, hh3, t3, n3, s3, kW, fun b hb => ?_⟩, o3, g3, z3.hi⟩
    rcases f3 b hb with h | h
    · have := hy.tx.lt h
      exact ⟨by omega, hy.far b h⟩
    · exact ⟨by omega, by omega⟩
  · refine .inr ⟨e1, e2, e3, e4, B, ⟨⟨_, _, _, hb3⟩, p3, hh3, t3, by have := hy.len; omega, hy.txs, kW, fun b hb => ?_⟩, hs3, hb3⟩
    have := hy.tx.lt hb
    exact ⟨by omega, hy.far b hb⟩
set_option maxRecDepth 100000 in
/-- the same, where the box for the result comes behind -/
theorem does_lateF (hy : FY W w P D H rb ao c X A0.begun k j) (g : A0.Good) (ho : A0.op = none) (hi : HI A0.pgs 1 pg rp L X) (hj : j < 25) (hk : k + 10000 < 900000000) (kd ii nn : Int) (ss : List UInt8) (hkd : kd = 1 ∨ kd = 2 ∨ kd = 3) :
    Calls Tryz.prog 9 #[.agg (rcells P H ao X.length c), .agg (acells kd ii nn ss)] w.drew fun e w3 => ∃ ao2 n2 c2 okv, e = .returned (.tuple #[.agg (rcells P H ao2 n2 c2), .bool okv]) ∧ w.heap.size ≤ w3.heap.size ∧ ∀ cs ty, AfterD W (w3.alloc (.cells cs ty)) P D H rb w3.heap.size ao c X A0 k j ao2 n2 c2 okv := by
  have a1 : Below w.heap.size w w.drew := (Below.refl _ _).drew
  have hs : w.drew.heap.size = w.heap.size := rfl
  generalize w.drew = wa at a1 hs
  have hrbl := hy.rbx.lt
  have hHl := hy.hb.lt
  have hz0 := hy.begun_hz g ho hi (by omega)
  have hz1 : HZ (fun b => (b < W.heap.size ∨ b = H ∨ b = rb) ∨ slB ao b) wa P D H k A0.begun 1 pg rp L X := ⟨hz0.pz.next a1, hz0.good, hz0.box.below a1 hz0.box.lt, hz0.mem, hz0.hi, hz0.few⟩
  refine (does_threeF (E0 := fun b => b < W.heap.size ∨ b = H ∨ b = rb) hz1 (hy.tx.next a1) (fun b h => .inr h) (fun b h => .inl h) (.inr (.inl rfl)) (by have := hy.len; omega) hy.txs hk kd ii nn ss hkd).mono ?_
  intro e w3 hd
  have kE : Kept (fun b => (b < W.heap.size ∨ b = H ∨ b = rb) ∨ slB ao b) w wa := hy.pz.kept a1
  obtain ⟨ao2, n2, c2, okv, he, k3, hh⟩ := afterD_of hy g ho a1 hd
  have hs3 := k3.size
  have kW : Kept (fun b => b < W.heap.size) W w3 := (hy.kept.trans (kE.mono (fun b hb => .inl (.inl hb)))).trans (k3.mono (fun b hb => .inl hb))
  have hb3 : Box w3 rb (rcells P H ao X.length c) := (hy.rbx.below a1 hrbl).of_block (k3.block rb (.inr (.inr rfl)))
  have hh3 : Box w3 H (hcells P 1) := (hy.hb.below a1 hHl).of_block (k3.block H (.inr (.inl rfl)))
  refine ⟨ao2, n2, c2, okv, he, by omega, fun cs ty => ?_⟩
  have a4 : Below w3.heap.size w3 (w3.alloc (.cells cs ty)) := (Below.refl _ _).alloc (Nat.le_refl _) _
  have s4 : (w3.alloc (.cells cs ty)).heap.size = w3.heap.size + 1 := by simp
  generalize w3.alloc (.cells cs ty) = w4 at a4 s4
  have kW4 : Kept (fun b => b < W.heap.size) W w4 := kW.trans ⟨a4.os, a4.tape, a4.output, a4.size, fun b hb => a4.block b (Nat.lt_of_lt_of_le hb kW.size)⟩
  rcases hh with ⟨e1, X2, A2, pg2, rp2, L2, en, z3, t3, o3, g3, n3, s3, f3⟩ | ⟨e1, e2, e3, e4, B, p3, hs3, t3⟩
  · refine .inl ⟨e1, X2, A2, pg2, rp2, L2, en, ⟨⟨_, _, _, hb3.below a4 hb3.lt⟩, z3.pz.wide a4 (fun b hb => ?_), hh3.below a4 hh3.lt, t3.next a4, n3, s3, kW4, fun b hb => ?_⟩, o3, g3, z3.hi⟩
    · rcases hb with (hb | hb) | hb
      · exact .inl (.inl hb)
      · exact .inr (by omega)
      · exact .inl (.inr hb)
    · have := t3.lt hb
      rcases f3 b hb with h | h
      · exact ⟨by omega, hy.far b h⟩
      · exact ⟨by omega, by omega⟩
  · refine .inr ⟨e1, e2, e3, e4, B, ⟨⟨_, _, _, hb3.below a4 hb3.lt⟩, p3.wide a4 (fun b hb => ?_), hh3.below a4 hh3.lt, t3.next a4, by have := hy.len; omega, hy.txs, kW4, fun b hb => ?_⟩, hs3, hb3.below a4 hb3.lt⟩
    · rcases hb with (hb | hb) | hb
      · exact .inl (.inl hb)
      · exact .inr (by omega)
      · exact .inl (.inr hb)
    · have := t3.lt hb
      exact ⟨by omega, hy.far b hb⟩
end
end Go.Proofs.YtjfkdfffolkblaaGreatDoor
