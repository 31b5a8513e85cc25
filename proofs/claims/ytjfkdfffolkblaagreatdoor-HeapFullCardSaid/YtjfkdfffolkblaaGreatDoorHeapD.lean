/-
  heap: setState; add, where there is room, and where there is none.
-/
import Derived.Test.YtjfkdfffolkblaaGreatDoorHeapC
namespace Go.Proofs.YtjfkdfffolkblaaGreatDoor
open Go.RowKit
open UK (str BytesAt nth Only Row Box w32)
open SR (Recs rcd total)
open SL (hole add trim room live)
open Go.BigFrame
/-- a page's records lie in its first bytes -/
theorem SR.Recs.of_nth {x y : List UInt8} {l : List (List UInt8)} (h : Recs x l) (hy : 504 ≤ y.length) (e : ∀ i, i < 504 → nth y i = nth x i) : Recs y l := by
  have hf := h.few
  have hl := h.low1
  have hl2 := h.low2
  have e2 : ∀ a, a + 1 < 504 → SR.two y a = SR.two x a := fun a ha => by unfold SR.two; rw [e a (by omega), e (a + 1) ha]
  have elow : SR.low y = SR.low x := e2 2 (by omega)
  have epos : ∀ i, i < l.length → SR.pos y i = SR.pos x i := fun i hi => e2 _ (by omega)
  have eext : ∀ i, i < l.length → SR.ext y i = SR.ext x i := fun i hi => e2 _ (by omega)
  refine ⟨hy, by rw [e2 0 (by omega)]; exact h.len, by rw [elow]; exact hl, by rw [elow]; exact hl2, fun h0 => by rw [elow]; exact h.none h0, fun i hi h0 => ?_, fun i hi h0 => ?_, fun i hi k hk => ?_, fun i j hi hj hij h1 h2 => ?_, h.sum⟩
  · rw [epos i hi, eext i hi]; exact h.hole i hi h0
  · rw [epos i hi, eext i hi, elow]; exact h.there i hi h0
  · have := h.inside hi
    rw [epos i hi, e _ (by omega)]; exact h.bytes i hi k hk
  · rw [epos i hi, epos j hj]; exact h.apart i j hi hj hij h1 h2
theorem nth_cut (y : List UInt8) (n i : Nat) (h : i < n) : nth (y.take n) i = nth y i := by
  unfold nth
  rw [List.getD_eq_getElem?_getD, List.getD_eq_getElem?_getD, List.getElem?_take_of_lt h]
theorem SR.Recs.cut {y : List UInt8} {l : List (List UInt8)} (h : Recs y l) : Recs (y.take 504) l := h.of_nth (by have := h.size; rw [List.length_take]; omega) (fun i hi => nth_cut y 504 i hi)
theorem SR.Recs.uncut {y z : List UInt8} {l : List (List UInt8)} (h : Recs z l) (hy : 504 ≤ y.length) (e : y.take 504 = z) : Recs y l := h.of_nth hy (fun i hi => by rw [← e, nth_cut y 504 i hi])
section
variable {E F : Nat → Prop} {W W' : World} {P D k fb db cap pg root H c1 c2 c3 : Nat} {A : AP} {v1 v2 : Value} {rec : List UInt8} {L : List (List UInt8)}
set_option maxRecDepth 100000 in
theorem setState_any (h : PZ E W P D A k) (hk : k + 4 < 900000000) (hb : Box W H (hcells P root)) (hr : A.Has root) (p n : Nat) :
    Calls Tryz.prog 50 #[.pointer (some ⟨H, 0, none⟩), .int .i64 p, .int .i64 n] W fun e w' => e = .returned (.int .i64 0) ∧ PZ E w' P D (A.wrote root (rootB (A.c root) p n)) (k + 4) ∧ Kept E W w' := by
  have c0 : W.cell? ⟨H, 0, none⟩ = some (.pointer (some ⟨P, 0, none⟩)) := hb.cell 0 _ rfl
  have c1 : W.cell? ⟨H, 1, none⟩ = some (.int .i64 root) := hb.cell 1 _ rfl
  have a1 : Below W.heap.size W (W.alloc (.cells #[.int .i64 p] 3)) := (Below.refl _ _).alloc (Nat.le_refl _) _
  have hs1 : (W.alloc (.cells #[.int .i64 p] 3)).heap.size = W.heap.size + 1 := by simp
  have x1 := Box.new W #[.int .i64 p] 3
  have a2 := a1.alloc (by omega) (.cells #[.int .i64 n] 3)
  have hs2 : ((W.alloc (.cells #[.int .i64 p] 3)).alloc (.cells #[.int .i64 n] 3)).heap.size = W.heap.size + 2 := by simp
  have x2 := Box.new (W.alloc (.cells #[.int .i64 p] 3)) #[.int .i64 n] 3
  rw [hs1] at x2
  have x1' := x1.alloc (.cells #[.int .i64 n] 3)
  generalize hw2 : (W.alloc (.cells #[.int .i64 p] 3)).alloc (.cells #[.int .i64 n] 3) = w2 at a2 hs2 x2 x1'
  have p2 := (h.wide a2 (T := fun j => E j ∨ j = W.heap.size ∨ j = W.heap.size + 1) (fun j hj => by
    rcases hj with hj | hj | hj
    · exact .inl hj
    · exact .inr (by omega)
    · exact .inr (by omega))).next (Below.refl _ _).drew
  have k2 : Kept E W w2.drew := h.kept a2.drew
  have d0 : w2.drew.cell? ⟨H, 0, none⟩ = some (.pointer (some ⟨P, 0, none⟩)) := (hb.below a2 hb.lt).cell 0 _ rfl
  have d1 : w2.drew.cell? ⟨H, 1, none⟩ = some (.int .i64 root) := (hb.below a2 hb.lt).cell 1 _ rfl
  have HW := Lib.hid (with_any (N := 104) (caps := #[.pointer (some ⟨W.heap.size, 0, none⟩), .pointer (some ⟨W.heap.size + 1, 0, none⟩)]) (F := E)
    (R := fun A' k' r _ => A' = A.wrote root (rootB (A.c root) p n) ∧ k' = k + 4 ∧ r = 0)
    (enters Tryz.func104 (by kernel_rfl) (by kernel_rfl)) p2 (by omega) hr (fun j hj => .inl hj) (fun fb db cap w hp hkk => by
      refine (setState1_any hp (by omega) ((x1'.drew).of_block (hkk.block _ (.inr (.inl rfl)))) ((x2.drew).of_block (hkk.block _ (.inr (.inr rfl)))) (.inr (.inl rfl)) (.inr (.inr rfl))).mono ?_
      rintro e w' ⟨he, q1, q4⟩
      exact ⟨0, _, k + 4, true, he, q1, q4.mono (fun j hj => .inl hj), rfl, rfl, rfl⟩))
  have HW2 := Lib.hid hw2
  have K2 := Lib.hid k2
  clear hw2 hs1 hs2 h hb x1 x2 x1' p2 k2 a1 a2 hr
  go_enter Tryz.func50, Tryz.ntmps50
  go_wp2_with fail
  rw [HW2.out]
  go_still_tail 9, (by kernel_rfl)
  change wpList _ _ _ _ _ w2.drew
  go_wp2_with fail
  refine HW.out.mono ?_
  rintro e w3 ⟨r, A', k', w1, rfl, ⟨rfl, rfl, rfl⟩, p3, k3, k4⟩
  have K3 := Lib.hid (And.intro (p3.less (T := E) (fun j hj => .inl hj)) (K2.out.trans k4))
  clear HW K2 p3 k3 k4
  go_wp2
  go_ret
  exact ⟨rfl, K3.out⟩
/-- one foreign cell turns, and another -/
theorem PF.twos {dy : Bool} (h : PF E W P D A k fb db cap pg dy) (h1 : E c1) (h2 : E c2) (t1 : 0 ≠ c1) (t2 : 0 ≠ c2) (hne : c1 ≠ c2) (b1 : Box W c1 #[v1]) (b2 : Box W c2 #[v2]) (a b : Value) :
    PF E ((W.setCell ⟨c1, 0, none⟩ a).setCell ⟨c2, 0, none⟩ b) P D A k fb db cap pg dy ∧ Kept (fun j => E j ∧ j ≠ c1 ∧ j ≠ c2) W ((W.setCell ⟨c1, 0, none⟩ a).setCell ⟨c2, 0, none⟩ b) ∧ Box ((W.setCell ⟨c1, 0, none⟩ a).setCell ⟨c2, 0, none⟩ b) c1 #[a] ∧ Box ((W.setCell ⟨c1, 0, none⟩ a).setCell ⟨c2, 0, none⟩ b) c2 #[b] := by
  obtain ⟨q1, q2⟩ := h.two h1 h2 t1 t2 a b
  exact ⟨q1, q2, (b1.set 0 a).far (b := c2) (j := 0) b hne, (b2.far (b := c1) (j := 0) a hne.symm).set 0 b⟩
theorem head1_any (h : PF E W P D A k fb db cap pg false) (hr : Recs (A.c pg) L) (b1 : Box W c1 #[.string (str rec)]) :
    Calls Tryz.prog 134 #[.slice (some ⟨db, 0, none⟩) 504 cap] W fun e w' => e = .returned (.int .i64 (room L)) ∧ w'.cell? ⟨c1, 0, none⟩ = some (.string (str rec)) ∧ PF E w' P D A k fb db cap pg false ∧ Kept E W w' := by
  obtain ⟨y, y1, y2, y3, y4, y5⟩ := h.bytes
  exact (SL.room_any db y L cap W y1 (hr.uncut (by omega) y3)).mono fun e w' ⟨he, hb⟩ => ⟨he, (b1.next hb).cell 0 _ rfl, h.next hb, h.kept hb⟩
set_option maxHeartbeats 1000000 in
set_option maxRecDepth 100000 in
theorem add1_no (h : PF E W P D A k fb db cap pg false) (hr : Recs (A.c pg) L) (b1 : Box W c1 #[.string (str rec)]) (hn : room L < rec.length) :
    Calls Tryz.prog 133 #[.pointer (some ⟨fb, 0, none⟩), .pointer (some ⟨c1, 0, none⟩), .pointer (some ⟨c2, 0, none⟩), .pointer (some ⟨c3, 0, none⟩)] W fun e w' => e = .returned (.int .i64 0) ∧ PF E w' P D A k fb db cap pg false ∧ Kept E W w' := by
  have bd : Below W.heap.size W W.drew := (Below.refl _ _).drew
  have p0 := h.next bd
  have k0 := h.kept bd
  have d1 : W.drew.cell? ⟨c1, 0, none⟩ = some (.string (str rec)) := b1.drew.cell 0 _ rfl
  have HB := Lib.hid (pf_bytes p0)
  have HR := Lib.hid (head1_any p0 hr b1.drew)
  have K0 := Lib.hid k0
  clear h p0 k0 b1 bd
  go_enter Tryz.func133, Tryz.ntmps133
  go_wp2_with fail
  go_region_with (first
    | (go_at_call 49; refine HB.out.mono ?_; rintro e w3 ⟨rfl, rfl⟩)
    | (go_at_call 134; refine HR.out.mono ?_; rintro e w4 ⟨rfl, d4, p4, k4⟩; replace p4 := Lib.hid p4; replace k4 := Lib.hid k4))
  all_goals
    have H8 := Lib.hid (And.intro p4.out (K0.out.trans k4.out))
    have hd : decide ((rec.length : Int) ≤ room L) = false := decide_eq_false (by omega)
    clear HB HR K0 p4 k4
    go_wp2
    go_ret
    exact ⟨rfl, H8.out⟩
/-- slot.Add on a frame's bytes -/
theorem addAt_any (h : PF E W P D (A.keep pg) k fb db cap pg true) (hr : Recs (A.c pg) L) (h2 : E c2) (h3 : E c3) (b2 : Box W c2 #[v1]) (b3 : Box W c3 #[v2]) (hs : rec ≠ []) (hrm : (rec.length : Int) ≤ room L) :
    Calls Tryz.prog 85 #[.slice (some ⟨db, 0, none⟩) 504 cap, .string (str rec)] W fun e w' => e = .returned (.tuple #[.int .i64 (hole L : Nat), .bool true]) ∧ w'.cell? ⟨c2, 0, none⟩ = some v1 ∧ w'.frozen? ⟨c2, 0, none⟩ = false ∧ w'.cell? ⟨c3, 0, none⟩ = some v2 ∧ w'.frozen? ⟨c3, 0, none⟩ = false ∧ Box w' c2 #[v1] ∧ Box w' c3 #[v2] ∧ (∃ z, Recs z (add L rec) ∧ z.length = 504 ∧ PF E w' P D (A.wrote pg z) k fb db cap pg true) ∧ Kept E W w' := by
  obtain ⟨y, y1, y2, y3, y4, y5⟩ := h.bytes
  have y3 : y.take 504 = A.c pg := y3
  refine (SL.add_yes db y L cap (by omega) rec W y1 (hr.uncut (by omega) y3) hs hrm).mono ?_
  rintro e w' ⟨he, ⟨z, z1, z2, z3⟩, o⟩
  have hne2 : c2 ≠ db := fun e => y5 (e ▸ h2)
  have hne3 : c3 ≠ db := fun e => y5 (e ▸ h3)
  have q2 := b2.only o hne2
  have q3 := b3.only o hne3
  obtain ⟨p, kk⟩ := h.write o z1 (z3.trans y2)
  exact ⟨he, q2.cell 0 _ rfl, q2.free 0, q3.cell 0 _ rfl, q3.free 0, q2, q3, ⟨z.take 504, z2.cut, by rw [List.length_take]; omega, p⟩, kk⟩
set_option maxHeartbeats 2000000 in
set_option maxRecDepth 100000 in
theorem add1_yes (h : PF E W P D A k fb db cap pg false) (hk : k < 900000000) (hr : Recs (A.c pg) L) (b1 : Box W c1 #[.string (str rec)]) (b2 : Box W c2 #[v1]) (b3 : Box W c3 #[v2]) (h1 : E c1) (h2 : E c2) (h3 : E c3) (hne : c2 ≠ c3) (t2 : 0 ≠ c2) (t3 : 0 ≠ c3) (hs : rec ≠ []) (hrm : (rec.length : Int) ≤ room L) :
    Calls Tryz.prog 133 #[.pointer (some ⟨fb, 0, none⟩), .pointer (some ⟨c1, 0, none⟩), .pointer (some ⟨c2, 0, none⟩), .pointer (some ⟨c3, 0, none⟩)] W fun e w' => e = .returned (.int .i64 0) ∧ (∃ z, Recs z (add L rec) ∧ z.length = 504 ∧ PF E w' P D (A.wrote pg z) (k + 1) fb db cap pg true) ∧ Box w' c2 #[.int .i64 (hole L : Nat)] ∧ Box w' c3 #[.bool true] ∧ Kept (fun j => E j ∧ j ≠ c2 ∧ j ≠ c3) W w' := by
  have bd : Below W.heap.size W W.drew := (Below.refl _ _).drew
  have p0 := h.next bd
  have k0 := h.kept bd
  have d1 : W.drew.cell? ⟨c1, 0, none⟩ = some (.string (str rec)) := b1.drew.cell 0 _ rfl
  have HB := Lib.hid (pf_bytes p0)
  have HR := Lib.hid (head1_any p0 hr b1.drew)
  have K0 := Lib.hid (And.intro k0 (And.intro b1.drew (And.intro b2.drew b3.drew)))
  have HRR := Lib.hid hr
  clear h p0 k0 b1 b2 b3 bd hr
  go_enter Tryz.func133, Tryz.ntmps133
  go_wp2_with fail
  go_region_with (first
    | (go_at_call 49; refine HB.out.mono ?_; rintro e w3 ⟨rfl, rfl⟩)
    | (go_at_call 134; refine HR.out.mono ?_; rintro e w4 ⟨rfl, d4, p4, k4⟩; replace p4 := Lib.hid p4; replace k4 := Lib.hid k4))
  all_goals
    have bd4 : Below w4.heap.size w4 w4.drew := (Below.refl _ _).drew
    obtain ⟨k0, b1, b2, b3⟩ := K0.out
    have b14 := (b1.of_block (k4.out.block _ h1)).drew
    have b24 := (b2.of_block (k4.out.block _ h2)).drew
    have b34 := (b3.of_block (k4.out.block _ h3)).drew
    have e4 : w4.drew.cell? ⟨c1, 0, none⟩ = some (.string (str rec)) := b14.cell 0 _ rfl
    have k5 := (k0.trans k4.out).trans (p4.out.kept bd4)
    have HE := Lib.hid ((edit_full (p4.out.next bd4) hk).mono (R' := fun e w' => e = .returned (.slice (some ⟨db, 0, none⟩) 504 cap) ∧ w'.cell? ⟨c1, 0, none⟩ = some (.string (str rec)) ∧ PF E w' P D (A.keep pg) (k + 1) fb db cap pg true ∧ Kept E w4.drew w' ∧ Box w' c2 #[v1] ∧ Box w' c3 #[v2]) (fun _ _ ⟨a, b, c, d⟩ => ⟨a, (b14.of_block (c.block _ h1)).cell 0 _ rfl, b, c, b24.of_block (c.block _ h2), b34.of_block (c.block _ h3)⟩))
    have K5 := Lib.hid k5
    have hd : decide ((rec.length : Int) ≤ room L) = true := decide_eq_true hrm
    clear HB HR K0 p4 k4 k0 b1 b2 b3 b14 b24 b34 k5 d1 d4 bd4
    go_wp2_with fail
    go_region_with (first
      | (go_at_call 47; refine HE.out.mono ?_; rintro e w6 ⟨rfl, d6, p6, k6, b26, b36⟩; replace p6 := Lib.hid p6; replace k6 := Lib.hid k6; replace b26 := Lib.hid b26; replace b36 := Lib.hid b36)
      | (go_at_call 85; refine (addAt_any p6.out HRR.out h2 h3 b26.out b36.out hs hrm).mono ?_; rintro e w7 ⟨rfl, d7, f7, g7, j7, b27, b37, z7, k7⟩; replace z7 := Lib.hid z7; replace k7 := Lib.hid k7; replace b27 := Lib.hid b27; replace b37 := Lib.hid b37))
    all_goals
      have HF := Lib.hid (show ∃ z, Recs z (add L rec) ∧ z.length = 504 ∧ PF E ((w7.setCell ⟨c2, 0, none⟩ (.int .i64 (hole L : Nat))).setCell ⟨c3, 0, none⟩ (.bool true)) P D (A.wrote pg z) (k + 1) fb db cap pg true ∧ Box ((w7.setCell ⟨c2, 0, none⟩ (.int .i64 (hole L : Nat))).setCell ⟨c3, 0, none⟩ (.bool true)) c2 #[.int .i64 (hole L : Nat)] ∧ Box ((w7.setCell ⟨c2, 0, none⟩ (.int .i64 (hole L : Nat))).setCell ⟨c3, 0, none⟩ (.bool true)) c3 #[.bool true] ∧ Kept (fun j => E j ∧ j ≠ c2 ∧ j ≠ c3) W ((w7.setCell ⟨c2, 0, none⟩ (.int .i64 (hole L : Nat))).setCell ⟨c3, 0, none⟩ (.bool true)) from by
        obtain ⟨z, z1, z2, z3⟩ := z7.out
        obtain ⟨q1, q2, q3, q4⟩ := z3.twos h2 h3 t2 t3 hne b27.out b37.out (.int .i64 (hole L : Nat)) (.bool true)
        exact ⟨z, z1, z2, q1, q3, q4, ((K5.out.trans (k6.out.trans k7.out)).mono (fun _ hj => hj.1)).trans q2⟩)
      clear HE HRR K5 p6 k6 b26 b36 z7 k7 b27 b37 d6 d7 f7 g7 j7 e4
      go_wp2
      go_ret
      obtain ⟨z, z1, z2, q1, q3, q4, q5⟩ := HF.out
      exact ⟨rfl, ⟨z, z1, z2, q1⟩, q3, q4, q5⟩
end
end Go.Proofs.YtjfkdfffolkblaaGreatDoor
