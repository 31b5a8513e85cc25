/-
  tabularlaw08.Does: clear; nothing at all; the tree opened anew.
  tabularlaw08.Does: the tree is opened anew.
-/
import Derived.Test.YtokgidhokcoadaaGreatDoorTtB
namespace Go.Proofs.YtokgidhokcoadaaGreatDoor
open Go.RowKit
open UK (str BytesAt nth Only Row Box)
section
variable {S : Nat → Prop} {W W' : World} {P D T k c d : Nat} {A : AP} {X Y : List KV} {ps : List Nat} {ao bo : Option Addr} {op : Bool}
set_option maxHeartbeats 4000000 in
set_option maxRecDepth 100000 in
theorem does_clear (h : RM S W P D T ao c X bo d Y A k) (hS : ∀ j, S j → j < W.heap.size) (hk : k + 400000 < 899999990) (nn : Int) (K V : UInt64) (hti : TI A 1 X ps) (hg : A.Good) (hc : ∀ p, A.Has p → (A.c p).length = 504) :
    Calls Tryz.prog 15 #[.agg (rcells P T ao X.length c bo Y.length d op), .agg (acells8 6 nn K V)] W fun e w' => DoesR S W w' P D (k + 400000) (fun A' X' Y' op' => GoneOk A A' 1 [] ps ∧ X' = [] ∧ Y' = Y ∧ op' = op) e := by
  have HT := Lib.hid (And.intro hti (And.intro hg hc))
  clear hti hg hc
  obtain ⟨hb, hbel, hact⟩ := h.boxed (op := op) 6 nn K V
  have a0 : (((W.alloc (.cells (rcells P T ao X.length c bo Y.length d op) 31)).alloc (.cells (acells8 6 nn K V) 35)).alloc (.cells zcells8 31)).cell? ⟨W.heap.size + 1, 0, none⟩ = some (.int .i64 6) := hact.cell 0 _ rfl
  have a1 : (((W.alloc (.cells (rcells P T ao X.length c bo Y.length d op) 31)).alloc (.cells (acells8 6 nn K V) 35)).alloc (.cells zcells8 31)).cell? ⟨W.heap.size + 1, 1, none⟩ = some (.int .i64 nn) := hact.cell 1 _ rfl
  obtain ⟨n, hn⟩ : ∃ n, n = timesOf nn := ⟨_, rfl⟩
  obtain ⟨hn40, hne⟩ := timesOf_le nn
  rw [← hn] at hn40 hne
  have HE := Lib.hid hne
  have HB := Lib.hid (And.intro hb (And.intro hbel hact))
  have HJ := Lib.hid hS
  generalize hW3 : ((W.alloc (.cells (rcells P T ao X.length c bo Y.length d op) 31)).alloc (.cells (acells8 6 nn K V) 35)).alloc (.cells zcells8 31) = w3 at HB a0 a1
  have HW3 := Lib.hid hW3
  rw [← hW3] at a0 a1
  clear h hb hbel hact hS hn hW3 hne
  go_enter Tryz.func15, Tryz.ntmps15
  go_upto_region 1 with (fail)
  go_cut [6] (fun nv wx => nv = .int .i64 (n : Int) ∧ wx = w3)
  case first =>
    go_wp2_with fail
    go_meet
    case rel => exact ⟨by rw [HE.out], HW3.out⟩
  case rest =>
  obtain ⟨rfl, rfl⟩ := hcut
  clear a0 a1
  have a0 : wc.cell? ⟨W.heap.size + 1, 0, none⟩ = some (.int .i64 6) := HB.out.2.2.cell 0 _ rfl
  have hrb := HB.out.1
  have hkp : Kept S W wc := Kept.of_below HB.out.2.1 HJ.out
  obtain ⟨hti, hg, hc⟩ := HT.out
  have HC := Lib.hid (tree_clear_any hrb.rm.tr hk hti hg hc)
  have d1 : wc.cell? ⟨W.heap.size, 1, none⟩ = some (.pointer (some ⟨T, 0, none⟩)) := hrb.box.cell 1 _ rfl
  have HR := Lib.hid (And.intro hrb hkp)
  have hWlt : W.heap.size + 3 ≤ wc.heap.size := by have := hrb.res.lt; omega
  have HWL := Lib.hid hWlt
  clear hrb hkp hti hg hc HT HE HW3 hWlt
  go_wp2_with fail
  refine HC.out.mono ?_
  rintro e w4 ⟨rfl, B, hgo, t4, kp4⟩
  obtain ⟨hrb, hkp⟩ := HR.out
  have hr4 := hrb.next t4 kp4
  have hk4 := hkp.trans (kp4.mono (fun j hj => .inl (.inl hj)))
  have hlt4 := hr4.rm.tr.pz.there
  have hm : Made8 w4 (w4.alloc (.cells #[] 128)) (some ⟨w4.heap.size, 0, none⟩) 0 [] :=
    ⟨.inr ⟨w4.heap.size, rfl, ⟨by simp, Nat.le_refl _, fun j hj => absurd hj (Nat.not_lt_zero _), fun j hj => absurd hj (Nat.not_lt_zero _)⟩⟩, (fun b hb => by cases hb; exact Nat.le_refl _), (Below.refl _ _).alloc (Nat.le_refl _) _⟩
  have hwl := HWL.out
  have hs4 := kp4.size
  have x5 := hr4.box.next hm.2.2
  have f5 := x5.free 2
  have e5 : (w4.alloc (.cells #[] 128)).cell? ⟨W.heap.size, 2, none⟩ = some (.slice ao X.length c) := x5.cell 2 _ rfl
  have e4 : w4.cell? ⟨W.heap.size, 2, none⟩ = some (.slice ao X.length c) := hr4.box.cell 2 _ rfl
  have f4 := hr4.box.free 2
  obtain ⟨hrb2, o⟩ := hr4.setX hm (by omega)
  have hk2 : Kept S W ((w4.alloc (.cells #[] 128)).setCell ⟨W.heap.size, 2, none⟩ (.slice (some ⟨w4.heap.size, 0, none⟩) ([] : List KV).length 0)) := (hk4.trans (Kept.of_below hm.2.2 (fun j hj => hlt4 j (.inl (.inl hj))))).trans ⟨o.os, o.tape, o.output, o.size, fun j hj => o.block j (Nat.lt_of_lt_of_le (hlt4 j (.inl (.inl hj))) hm.2.2.size) (by have := HJ.out j hj; omega)⟩
  have hwlt : W.heap.size < w4.heap.size := by omega
  have ee : (w4.alloc (.cells #[] 128)).setCell ⟨W.heap.size, 2, none⟩ (.slice (some ⟨w4.heap.size, 0, none⟩) ([] : List KV).length 0) = (w4.setCell ⟨W.heap.size, 2, none⟩ (.slice (some ⟨w4.heap.size, 0, none⟩) 0 0)).alloc (.cells #[] 128) := World.setCell_alloc_past _ _ _ _ hwlt
  rw [ee] at hrb2 hk2
  clear ee
  have y1 := hrb2.box
  have y3 := hrb2.res
  have n0 : ((w4.setCell ⟨W.heap.size, 2, none⟩ (.slice (some ⟨w4.heap.size, 0, none⟩) 0 0)).alloc (.cells #[] 128)).cell? ⟨W.heap.size, 0, none⟩ = some (.pointer (some ⟨P, 0, none⟩)) := y1.cell 0 _ rfl
  have n1 : ((w4.setCell ⟨W.heap.size, 2, none⟩ (.slice (some ⟨w4.heap.size, 0, none⟩) 0 0)).alloc (.cells #[] 128)).cell? ⟨W.heap.size, 1, none⟩ = some (.pointer (some ⟨T, 0, none⟩)) := y1.cell 1 _ rfl
  have n2 : ((w4.setCell ⟨W.heap.size, 2, none⟩ (.slice (some ⟨w4.heap.size, 0, none⟩) 0 0)).alloc (.cells #[] 128)).cell? ⟨W.heap.size, 2, none⟩ = some (.slice (some ⟨w4.heap.size, 0, none⟩) 0 0) := y1.cell 2 _ rfl
  have n3 : ((w4.setCell ⟨W.heap.size, 2, none⟩ (.slice (some ⟨w4.heap.size, 0, none⟩) 0 0)).alloc (.cells #[] 128)).cell? ⟨W.heap.size, 3, none⟩ = some (.slice bo Y.length d) := y1.cell 3 _ rfl
  have n4 : ((w4.setCell ⟨W.heap.size, 2, none⟩ (.slice (some ⟨w4.heap.size, 0, none⟩) 0 0)).alloc (.cells #[] 128)).cell? ⟨W.heap.size, 4, none⟩ = some (.bool op) := y1.cell 4 _ rfl
  have m0 : ((w4.setCell ⟨W.heap.size, 2, none⟩ (.slice (some ⟨w4.heap.size, 0, none⟩) 0 0)).alloc (.cells #[] 128)).cell? ⟨W.heap.size + 2, 0, none⟩ = some (.pointer none) := y3.cell 0 _ rfl
  have m1 : ((w4.setCell ⟨W.heap.size, 2, none⟩ (.slice (some ⟨w4.heap.size, 0, none⟩) 0 0)).alloc (.cells #[] 128)).cell? ⟨W.heap.size + 2, 1, none⟩ = some (.pointer none) := y3.cell 1 _ rfl
  have m2 : ((w4.setCell ⟨W.heap.size, 2, none⟩ (.slice (some ⟨w4.heap.size, 0, none⟩) 0 0)).alloc (.cells #[] 128)).cell? ⟨W.heap.size + 2, 2, none⟩ = some (.slice none 0 0) := y3.cell 2 _ rfl
  have m3 : ((w4.setCell ⟨W.heap.size, 2, none⟩ (.slice (some ⟨w4.heap.size, 0, none⟩) 0 0)).alloc (.cells #[] 128)).cell? ⟨W.heap.size + 2, 3, none⟩ = some (.slice none 0 0) := y3.cell 3 _ rfl
  have m4 : ((w4.setCell ⟨W.heap.size, 2, none⟩ (.slice (some ⟨w4.heap.size, 0, none⟩) 0 0)).alloc (.cells #[] 128)).cell? ⟨W.heap.size + 2, 4, none⟩ = some (.bool false) := y3.cell 4 _ rfl
  have mf : ∀ j, ((w4.setCell ⟨W.heap.size, 2, none⟩ (.slice (some ⟨w4.heap.size, 0, none⟩) 0 0)).alloc (.cells #[] 128)).frozen? ⟨W.heap.size + 2, j, none⟩ = false := y3.free
  have HD := Lib.hid (hrb2.done (Q := fun A' X' Y' op' => GoneOk A A' 1 [] ps ∧ X' = [] ∧ Y' = Y ∧ op' = op) (Nat.le_refl (k + 400000)) hk2 HJ.out ⟨hgo, rfl, rfl, rfl⟩)
  have HY := Lib.hid y3
  clear hrb hkp hrb2 hk2 y1 y3 o HB hr4 hk4 hlt4 hm hwl hs4 x5 HR HC t4 kp4 hgo HWL d1
  go_wp2_with fail
  refine bodyPost_ret (UK.box_ret2 rfl _ (HY.out.fill5 _ _ _ _ _) rfl run_under rfl run_size) rfl ?_
  exact HD.out
set_option maxHeartbeats 4000000 in
set_option maxRecDepth 100000 in
theorem does_none (h : RM S W P D T ao c X bo d Y A k) (hS : ∀ j, S j → j < W.heap.size) (kd nn : Int) (K V : UInt64) (hkd : kd < 1 ∨ 7 < kd) :
    Calls Tryz.prog 15 #[.agg (rcells P T ao X.length c bo Y.length d op), .agg (acells8 kd nn K V)] W fun e w' => DoesR S W w' P D k (fun A' X' Y' op' => A' = A ∧ X' = X ∧ Y' = Y ∧ op' = op) e := by
  have g1 : (kd == 1) = false := beq_eq_false_iff_ne.2 (by omega)
  have g2 : (kd == 2) = false := beq_eq_false_iff_ne.2 (by omega)
  have g3 : (kd == 3) = false := beq_eq_false_iff_ne.2 (by omega)
  have g4 : (kd == 4) = false := beq_eq_false_iff_ne.2 (by omega)
  have g5 : (kd == 5) = false := beq_eq_false_iff_ne.2 (by omega)
  have g6 : (kd == 6) = false := beq_eq_false_iff_ne.2 (by omega)
  have g7 : (kd == 7) = false := beq_eq_false_iff_ne.2 (by omega)
  clear hkd
  obtain ⟨hb, hbel, hact⟩ := h.boxed (op := op) kd nn K V
  have a0 : (((W.alloc (.cells (rcells P T ao X.length c bo Y.length d op) 31)).alloc (.cells (acells8 kd nn K V) 35)).alloc (.cells zcells8 31)).cell? ⟨W.heap.size + 1, 0, none⟩ = some (.int .i64 kd) := hact.cell 0 _ rfl
  have a1 : (((W.alloc (.cells (rcells P T ao X.length c bo Y.length d op) 31)).alloc (.cells (acells8 kd nn K V) 35)).alloc (.cells zcells8 31)).cell? ⟨W.heap.size + 1, 1, none⟩ = some (.int .i64 nn) := hact.cell 1 _ rfl
  obtain ⟨n, hn⟩ : ∃ n, n = timesOf nn := ⟨_, rfl⟩
  obtain ⟨hn40, hne⟩ := timesOf_le nn
  rw [← hn] at hn40 hne
  have HE := Lib.hid hne
  have HB := Lib.hid (And.intro hb (And.intro hbel hact))
  have HJ := Lib.hid hS
  generalize hW3 : ((W.alloc (.cells (rcells P T ao X.length c bo Y.length d op) 31)).alloc (.cells (acells8 kd nn K V) 35)).alloc (.cells zcells8 31) = w3 at HB a0 a1
  have HW3 := Lib.hid hW3
  rw [← hW3] at a0 a1
  clear h hb hbel hact hS hn hW3 hne
  go_enter Tryz.func15, Tryz.ntmps15
  go_upto_region 1 with (fail)
  go_cut [6] (fun nv wx => nv = .int .i64 (n : Int) ∧ wx = w3)
  case first =>
    go_wp2_with fail
    go_meet
    case rel => exact ⟨by rw [HE.out], HW3.out⟩
  case rest =>
  obtain ⟨rfl, rfl⟩ := hcut
  clear a0 a1
  have a0 : wc.cell? ⟨W.heap.size + 1, 0, none⟩ = some (.int .i64 kd) := HB.out.2.2.cell 0 _ rfl
  have hrb2 := HB.out.1
  have hk2 : Kept S W wc := Kept.of_below HB.out.2.1 HJ.out
  have y1 := hrb2.box
  have y3 := hrb2.res
  have n0 : wc.cell? ⟨W.heap.size, 0, none⟩ = some (.pointer (some ⟨P, 0, none⟩)) := y1.cell 0 _ rfl
  have n1 : wc.cell? ⟨W.heap.size, 1, none⟩ = some (.pointer (some ⟨T, 0, none⟩)) := y1.cell 1 _ rfl
  have n2 : wc.cell? ⟨W.heap.size, 2, none⟩ = some (.slice ao X.length c) := y1.cell 2 _ rfl
  have n3 : wc.cell? ⟨W.heap.size, 3, none⟩ = some (.slice bo Y.length d) := y1.cell 3 _ rfl
  have n4 : wc.cell? ⟨W.heap.size, 4, none⟩ = some (.bool op) := y1.cell 4 _ rfl
  have m0 : wc.cell? ⟨W.heap.size + 2, 0, none⟩ = some (.pointer none) := y3.cell 0 _ rfl
  have m1 : wc.cell? ⟨W.heap.size + 2, 1, none⟩ = some (.pointer none) := y3.cell 1 _ rfl
  have m2 : wc.cell? ⟨W.heap.size + 2, 2, none⟩ = some (.slice none 0 0) := y3.cell 2 _ rfl
  have m3 : wc.cell? ⟨W.heap.size + 2, 3, none⟩ = some (.slice none 0 0) := y3.cell 3 _ rfl
  have m4 : wc.cell? ⟨W.heap.size + 2, 4, none⟩ = some (.bool false) := y3.cell 4 _ rfl
  have mf : ∀ j, wc.frozen? ⟨W.heap.size + 2, j, none⟩ = false := y3.free
  have HD := Lib.hid (hrb2.done (Q := fun A' X' Y' op' => A' = A ∧ X' = X ∧ Y' = Y ∧ op' = op) (Nat.le_refl k) hk2 HJ.out ⟨rfl, rfl, rfl, rfl⟩)
  have HY := Lib.hid y3
  clear hrb2 hk2 y1 y3 HB HE HW3
  go_wp2_with fail
  refine bodyPost_ret (UK.box_ret2 rfl _ (HY.out.fill5 _ _ _ _ _) rfl run_under rfl run_size) rfl ?_
  exact HD.out
end
end Go.Proofs.YtokgidhokcoadaaGreatDoor
namespace Go.Proofs.YtokgidhokcoadaaGreatDoor
open Go.RowKit
open UK (str BytesAt nth Only Row Box)
section
variable {S : Nat → Prop} {W W' : World} {P D T k c d : Nat} {A : AP} {X Y : List KV} {ps : List Nat} {ao bo : Option Addr} {op : Bool}
theorem tree_at_any (P : Nat) (rt : Int) (W : World) :
    Calls Tryz.prog 23 #[.pointer (some ⟨P, 0, none⟩), .int .i64 rt] W fun e w' => e = .returned (.pointer (some ⟨W.heap.size, 0, none⟩)) ∧ w' = W.alloc (.cells #[.pointer (some ⟨P, 0, none⟩), .int .i64 rt] 155) := by
  go_enter Tryz.func23, Tryz.ntmps23
  go_wp2
  go_ret
  exact ⟨rfl, rfl⟩
theorem tree_root_any {P : Nat} {rt : Int} (h : Box W T #[.pointer (some ⟨P, 0, none⟩), .int .i64 rt]) :
    Calls Tryz.prog 24 #[.pointer (some ⟨T, 0, none⟩)] W fun e w' => e = .returned (.int .i64 rt) ∧ w' = W := by
  have c1 : W.cell? ⟨T, 1, none⟩ = some (.int .i64 rt) := h.cell 1 _ rfl
  clear h
  go_enter Tryz.func24, Tryz.ntmps24
  go_wp2
  go_ret
  exact ⟨rfl, rfl⟩
theorem RB.anew {w w2 : World} {rb : Nat} (h : RB S w rb P D T ao c X bo d Y op A k) (hb : Below w.heap.size w w2) (hbx : Box w2 w.heap.size #[.pointer (some ⟨P, 0, none⟩), .int .i64 1]) (hr : rb + 3 ≤ w.heap.size) :
    RB S (w2.setCell ⟨rb, 1, none⟩ (.pointer (some ⟨w.heap.size, 0, none⟩))) rb P D w.heap.size ao c X bo d Y op A k ∧ Only rb w2 (w2.setCell ⟨rb, 1, none⟩ (.pointer (some ⟨w.heap.size, 0, none⟩))) := by
  have o : Only rb w2 (w2.setCell ⟨rb, 1, none⟩ (.pointer (some ⟨w.heap.size, 0, none⟩))) := (Only.refl rb w2).set 1 _
  have bx : Box (w2.setCell ⟨rb, 1, none⟩ (.pointer (some ⟨w.heap.size, 0, none⟩))) rb (rcells P w.heap.size ao X.length c bo Y.length d op) := by
    have := (h.box.next hb).set 1 (.pointer (some ⟨w.heap.size, 0, none⟩))
    simpa [rcells] using this
  generalize w2.setCell ⟨rb, 1, none⟩ (.pointer (some ⟨w.heap.size, 0, none⟩)) = w3 at o bx ⊢
  have hl := hbx.lt
  have hne : rb ≠ 0 := Ne.symm (Nat.ne_of_lt h.tab)
  have p1 : PZ (rOwn (fun b => S b ∨ (rb ≤ b ∧ b < rb + 3)) w.heap.size ao bo) w2 P D A k := h.rm.tr.pz.wide hb (fun j hj => by
    rcases hj with hj | hj | hj
    · exact .inl (.inl hj)
    · exact .inr ⟨by omega, by omega⟩
    · exact .inl (.inr (.inr hj)))
  have p2 : PZ (rOwn (fun b => S b ∨ (rb ≤ b ∧ b < rb + 3)) w.heap.size ao bo) w3 P D A k := p1.over (R := fun j => j = rb) (fun j hj => by rw [hj]; exact .inl (.inr ⟨Nat.le_refl _, by omega⟩)) (fun he => hne he.symm) o.size (fun j hj hr => o.block j hj hr) (fun j hj => .inl hj)
  have hfa : ∀ b, slB ao b → b ≠ rb := fun b hb2 => by have := h.fao b hb2; omega
  have hfb : ∀ b, slB bo b → b ≠ rb := fun b hb2 => by have := h.fbo b hb2; omega
  obtain ⟨kd, nn, K, V, ha⟩ := h.act
  have hx := h.rm.px.next hb
  have hy := h.rm.py.next hb
  exact ⟨⟨⟨⟨p2, hbx.only o (by omega), .inr (.inl rfl)⟩, hx.of_block o.size (fun b hb2 => o.block b (hx.lt hb2) (hfa b hb2)), hy.of_block o.size (fun b hb2 => o.block b (hy.lt hb2) (hfb b hb2))⟩, bx, ⟨kd, nn, K, V, (ha.next hb).only o (by omega)⟩, (h.res.next hb).only o (by omega), .inr hr, h.fao, h.fbo, h.tab⟩, o⟩
set_option linter.unusedSimpArgs false in
set_option maxHeartbeats 4000000 in
set_option maxRecDepth 100000 in
theorem does_at (h : RM S W P D T ao c X bo d Y A k) (hS : ∀ j, S j → j < W.heap.size) (nn : Int) (K V : UInt64) :
    Calls Tryz.prog 15 #[.agg (rcells P T ao X.length c bo Y.length d op), .agg (acells8 7 nn K V)] W fun e w' => DoesR S W w' P D k (fun A' X' Y' op' => A' = A ∧ X' = X ∧ Y' = Y ∧ op' = op) e := by
  obtain ⟨hb, hbel, hact⟩ := h.boxed (op := op) 7 nn K V
  have a0 : (((W.alloc (.cells (rcells P T ao X.length c bo Y.length d op) 31)).alloc (.cells (acells8 7 nn K V) 35)).alloc (.cells zcells8 31)).cell? ⟨W.heap.size + 1, 0, none⟩ = some (.int .i64 7) := hact.cell 0 _ rfl
  have a1 : (((W.alloc (.cells (rcells P T ao X.length c bo Y.length d op) 31)).alloc (.cells (acells8 7 nn K V) 35)).alloc (.cells zcells8 31)).cell? ⟨W.heap.size + 1, 1, none⟩ = some (.int .i64 nn) := hact.cell 1 _ rfl
  obtain ⟨n, hn⟩ : ∃ n, n = timesOf nn := ⟨_, rfl⟩
  obtain ⟨hn40, hne⟩ := timesOf_le nn
  rw [← hn] at hn40 hne
  have HE := Lib.hid hne
  have HB := Lib.hid (And.intro hb (And.intro hbel hact))
  have HJ := Lib.hid hS
  generalize hW3 : ((W.alloc (.cells (rcells P T ao X.length c bo Y.length d op) 31)).alloc (.cells (acells8 7 nn K V) 35)).alloc (.cells zcells8 31) = w3 at HB a0 a1
  have HW3 := Lib.hid hW3
  rw [← hW3] at a0 a1
  clear h hb hbel hact hS hn hW3 hne
  go_enter Tryz.func15, Tryz.ntmps15
  go_upto_region 1 with (fail)
  go_cut [6] (fun nv wx => nv = .int .i64 (n : Int) ∧ wx = w3)
  case first =>
    go_wp2_with fail
    go_meet
    case rel => exact ⟨by rw [HE.out], HW3.out⟩
  case rest =>
  obtain ⟨rfl, rfl⟩ := hcut
  clear a0 a1
  have a0 : wc.cell? ⟨W.heap.size + 1, 0, none⟩ = some (.int .i64 7) := HB.out.2.2.cell 0 _ rfl
  have hrb := HB.out.1
  have hkp : Kept S W wc := Kept.of_below HB.out.2.1 HJ.out
  have hth := hrb.rm.tr.pz.there
  have bd : Below wc.heap.size wc wc.drew := (Below.refl _ _).drew
  have hWlt : W.heap.size + 3 ≤ wc.heap.size := by have := hrb.res.lt; omega
  have hRo := tree_root_any (hrb.rm.tr.box.next bd)
  have ba : Below wc.heap.size wc (wc.drew.alloc (.cells #[.pointer (some ⟨P, 0, none⟩), .int .i64 1] 155)) := bd.alloc bd.size _
  have hbx : Box (wc.drew.alloc (.cells #[.pointer (some ⟨P, 0, none⟩), .int .i64 1] 155)) wc.heap.size #[.pointer (some ⟨P, 0, none⟩), .int .i64 1] := box_at rfl
  obtain ⟨hrb2, o⟩ := hrb.anew ba hbx hWlt
  have hk2 : Kept S W ((wc.drew.alloc (.cells #[.pointer (some ⟨P, 0, none⟩), .int .i64 1] 155)).setCell ⟨W.heap.size, 1, none⟩ (.pointer (some ⟨wc.heap.size, 0, none⟩))) := (hkp.trans (Kept.of_below ba (fun j hj => hth j (.inl (.inl hj))))).trans ⟨o.os, o.tape, o.output, o.size, fun j hj => o.block j (by have := HJ.out j hj; have := ba.size; omega) (by have := HJ.out j hj; omega)⟩
  have x2 := hrb.box.next ba
  have HRo := Lib.hid hRo
  have HAt := Lib.hid (tree_at_any P 1 wc.drew)
  have HX := Lib.hid (And.intro hrb2 hk2)
  have hS1 : wc.drew.cell? ⟨W.heap.size, 0, none⟩ = some (.pointer (some ⟨P, 0, none⟩)) ∧ wc.drew.cell? ⟨W.heap.size, 1, none⟩ = some (.pointer (some ⟨T, 0, none⟩)) := ⟨(hrb.box.next bd).cell 0 _ rfl, (hrb.box.next bd).cell 1 _ rfl⟩
  have s2 : (wc.drew.alloc (.cells #[.pointer (some ⟨P, 0, none⟩), .int .i64 1] 155)).cell? ⟨W.heap.size, 0, none⟩ = some (.pointer (some ⟨P, 0, none⟩)) ∧ (wc.drew.alloc (.cells #[.pointer (some ⟨P, 0, none⟩), .int .i64 1] 155)).cell? ⟨W.heap.size, 1, none⟩ = some (.pointer (some ⟨T, 0, none⟩)) := ⟨x2.cell 0 _ rfl, x2.cell 1 _ rfl⟩
  have e2 := s2.2
  have f2 := x2.free 1
  have c1 : wc.cell? ⟨W.heap.size, 1, none⟩ = some (.pointer (some ⟨T, 0, none⟩)) := hrb.box.cell 1 _ rfl
  have f1 := hrb.box.free 1
  have hlt : W.heap.size < wc.heap.size := by omega
  have hltd : W.heap.size < wc.drew.heap.size := hlt
  clear hrb hkp hth bd hWlt hRo ba hbx hrb2 o hk2 x2 HE HW3
  obtain ⟨T2, hT2⟩ : ∃ t, t = wc.heap.size := ⟨_, rfl⟩
  have HT2 := Lib.hid hT2
  clear hT2
  go_wp2_with fail
  refine wp_region_any (by kernel_rfl) ?_
  refine wpAny_take (i := 0) (v := ?va0) rfl (by kernel_rfl) (by kernel_rfl) (by kernel_rfl) (fun _ _ _ h => h) (Or.inl ⟨by rfl, ?hya0⟩) ?resta0
  case hya0 => (intro w; go_simp; try with_reducible rfl)
  try simp only [Act.put, zA, zB, zC]
  refine wpAny_take (i := 2) (v := ?va2) rfl (by kernel_rfl) (by kernel_rfl) (by kernel_rfl) (fun _ _ _ h => h) (Or.inl ⟨by rfl, ?hya2⟩) ?resta2
  case hya2 => (intro w; go_simp; try with_reducible rfl)
  try simp only [Act.put, zA, zB, zC]
  have hS0 : (fun w' : World => w'.cell? ⟨W.heap.size, 0, none⟩ = some (.pointer (some ⟨P, 0, none⟩)) ∧ w'.cell? ⟨W.heap.size, 1, none⟩ = some (.pointer (some ⟨T, 0, none⟩))) wc.drew := hS1
  refine wpAny_of_late (S := fun w' => w'.cell? ⟨W.heap.size, 0, none⟩ = some (.pointer (some ⟨P, 0, none⟩)) ∧ w'.cell? ⟨W.heap.size, 1, none⟩ = some (.pointer (some ⟨T, 0, none⟩))) (late := fun j => decide (7 ≤ j)) _ _ _ _ ?_
  change wpLate _ _ _ _ _ _ _ _ _ (wc.drew)
  refine wpLate_take (i := 1) (v := ?va1) rfl (by kernel_rfl) (by kernel_rfl) (by kernel_rfl) (by kernel_rfl) (fun _ _ _ h => h) hS0 (by rfl) ?hya1 ?resta1
  case hya1 => (intro w hSw; (try dsimp only at hSw); go_simp; try with_reducible rfl)
  try simp only [Act.put, zA, zB, zC]
  refine wpLate_take (i := 3) (v := ?va3) rfl (by kernel_rfl) (by kernel_rfl) (by kernel_rfl) (by kernel_rfl) (fun _ _ _ h => h) hS0 (by rfl) ?hya3 ?resta3
  case hya3 => (intro w hSw; (try dsimp only at hSw); go_simp; try with_reducible rfl)
  try simp only [Act.put, zA, zB, zC]
  clear hS0
  refine wpLate_one (i := 4) (by kernel_rfl) rfl (fun K hK => ?_)
  go_simp
  refine (HRo.out).mono ?_
  rintro e w4 ⟨rfl, rfl⟩
  (try dsimp only)
  refine hK.out _ _ (fun _ => hS1) ?_
  clear hK K
  try simp only [Act.put, zA, zB, zC]
  refine wpLate_one (i := 5) (by kernel_rfl) rfl (fun K hK => ?_)
  go_simp
  refine (HAt.out).mono ?_
  rintro e w5 ⟨rfl, rfl⟩
  (try dsimp only)
  refine hK.out _ _ (fun _ => s2) ?_
  clear hK K
  try simp only [Act.put, zA, zB, zC]
  refine wpLate_one (i := 6) (by kernel_rfl) rfl (fun K hK => ?_)
  go_simp
  refine hK.out _ _ (fun _ => s2) ?_
  clear hK K
  try simp only [Act.put, zA, zB, zC]
  refine wpLate_one (i := 7) (by kernel_rfl) rfl (fun K hK => ?_)
  go_simp
  refine hK.out _ _ (fun h => absurd h (by decide)) ?_
  clear hK K
  refine wpLate_done (by kernel_rfl) ?_ _
  obtain ⟨hrb2, hk2⟩ := HX.out
  have hwe : (wc.drew.alloc (.cells #[.pointer (some ⟨P, 0, none⟩), .int .i64 1] 155)).setCell ⟨W.heap.size, 1, none⟩ (.pointer (some ⟨wc.heap.size, 0, none⟩)) = ((wc.setCell ⟨W.heap.size, 1, none⟩ (.pointer (some ⟨wc.heap.size, 0, none⟩))).alloc (.cells #[.pointer (some ⟨P, 0, none⟩), .int .i64 1] 155)).drew := by
    rw [World.setCell_alloc_past _ _ _ _ hltd]
    first
      | rfl
      | go_simp
  rw [hwe] at hrb2 hk2
  generalize ((wc.setCell ⟨W.heap.size, 1, none⟩ (.pointer (some ⟨wc.heap.size, 0, none⟩))).alloc (.cells #[.pointer (some ⟨P, 0, none⟩), .int .i64 1] 155)).drew = w5 at hrb2 hk2 ⊢
  clear hwe
  clear hS1 s2 e2 f2 c1 f1 HRo HAt HX
  rw [← HT2.out] at hrb2
  have y1 := hrb2.box
  have y3 := hrb2.res
  have n0 : w5.cell? ⟨W.heap.size, 0, none⟩ = some (.pointer (some ⟨P, 0, none⟩)) := y1.cell 0 _ rfl
  have n1 : w5.cell? ⟨W.heap.size, 1, none⟩ = some (.pointer (some ⟨T2, 0, none⟩)) := y1.cell 1 _ rfl
  have n2 : w5.cell? ⟨W.heap.size, 2, none⟩ = some (.slice ao X.length c) := y1.cell 2 _ rfl
  have n3 : w5.cell? ⟨W.heap.size, 3, none⟩ = some (.slice bo Y.length d) := y1.cell 3 _ rfl
  have n4 : w5.cell? ⟨W.heap.size, 4, none⟩ = some (.bool op) := y1.cell 4 _ rfl
  have m0 : w5.cell? ⟨W.heap.size + 2, 0, none⟩ = some (.pointer none) := y3.cell 0 _ rfl
  have m1 : w5.cell? ⟨W.heap.size + 2, 1, none⟩ = some (.pointer none) := y3.cell 1 _ rfl
  have m2 : w5.cell? ⟨W.heap.size + 2, 2, none⟩ = some (.slice none 0 0) := y3.cell 2 _ rfl
  have m3 : w5.cell? ⟨W.heap.size + 2, 3, none⟩ = some (.slice none 0 0) := y3.cell 3 _ rfl
  have m4 : w5.cell? ⟨W.heap.size + 2, 4, none⟩ = some (.bool false) := y3.cell 4 _ rfl
  have mf : ∀ j, w5.frozen? ⟨W.heap.size + 2, j, none⟩ = false := y3.free
  have HD := Lib.hid (hrb2.done (Q := fun A' X' Y' op' => A' = A ∧ X' = X ∧ Y' = Y ∧ op' = op) (Nat.le_refl k) hk2 HJ.out ⟨rfl, rfl, rfl, rfl⟩)
  have HY := Lib.hid y3
  clear hrb2 hk2 y1 y3 HB
  go_wp2_with fail
  refine bodyPost_ret (UK.box_ret2 rfl _ (HY.out.fill5 _ _ _ _ _) rfl run_under rfl run_size) rfl ?_
  exact HD.out
end
end Go.Proofs.YtokgidhokcoadaaGreatDoor
