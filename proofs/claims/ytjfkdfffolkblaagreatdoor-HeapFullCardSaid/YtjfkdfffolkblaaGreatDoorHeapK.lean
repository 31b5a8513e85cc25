/-
  heap.find: the record of a number.
  heap.walk's closure: a page of a long text is read.
-/
import Derived.Test.YtjfkdfffolkblaaGreatDoorHeapI
namespace Go.Proofs.YtjfkdfffolkblaaGreatDoor
open Go.RowKit
open UK (str BytesAt nth Only Row Box w32)
open SR (Recs rcd total)
open SL (hole add trim room live)
open Go.BigFrame
theorem and_255 (p i : Nat) (hp : p ≤ 60000) (hi : i < 256) : bits .and .u64 ((p * 256 + i : Nat) : Int) 255 = (i : Int) := by
  rw [show (255 : Int) = ((255 : Nat) : Int) from rfl, u64_and_nat _ _ (by omega) (by omega)]
  rw [show (255 : Nat) = 2 ^ 8 - 1 from rfl, Nat.and_two_pow_sub_one_eq_mod]
  omega
section
variable {E F : Nat → Prop} {W W' : World} {P D k fb db cap pg root H c1 c2 i : Nat} {A B : AP} {s : List UInt8} {L : List (List UInt8)} {v2 : Value}
/-- one foreign cell turns -/
theorem PF.one_ {dy : Bool} (h : PF E W P D A k fb db cap pg dy) (h2 : E c2) (t2 : 0 ≠ c2) (b2 : Box W c2 #[v2]) (b : Value) :
    PF E (W.setCell ⟨c2, 0, none⟩ b) P D A k fb db cap pg dy ∧ Kept (fun j => E j ∧ j ≠ c2) W (W.setCell ⟨c2, 0, none⟩ b) ∧ Box (W.setCell ⟨c2, 0, none⟩ b) c2 #[b] := by
  have o2 : Only c2 W (W.setCell ⟨c2, 0, none⟩ b) := (Only.refl c2 _).set 0 b
  refine ⟨h.over (R := fun j => j = c2) (fun j hj => by rw [hj]; exact h2) t2 o2.size (fun j hj hn => o2.block j hj hn) (fun _ hj => .inl hj), ⟨o2.os, o2.tape, o2.output, o2.size, fun j hj => o2.block j (h.there j hj.1) hj.2⟩, b2.set 0 b⟩
theorem bytes_at (h : PF E W P D A k fb db cap pg false) (hr : Recs (A.c pg) L) : ∃ y, BytesAt W db y ∧ Recs y L ∧ 504 ≤ cap := by
  obtain ⟨y, y1, y2, y3, y4, y5⟩ := h.bytes
  exact ⟨y, y1, hr.uncut (by omega) y3, y4⟩
set_option maxHeartbeats 1000000 in
set_option maxRecDepth 100000 in
theorem find1_any (h : PF E W P D A k fb db cap pg false) (hr : Recs (A.c pg) L) (hlast : LastOk L) (hp : pg ≤ 60000) (hi : i < 256) (b1 : Box W c1 #[.int .u64 ((pg * 256 + i : Nat) : Int)]) (b2 : Box W c2 #[v2]) (h2 : E c2) (t2 : 0 ≠ c2) :
    Calls Tryz.prog 88 #[.pointer (some ⟨fb, 0, none⟩), .pointer (some ⟨c1, 0, none⟩), .pointer (some ⟨c2, 0, none⟩)] W fun e w' =>
      (rcd L i ≠ [] ∧ e = .returned (.int .i64 0) ∧ PF E w' P D A k fb db cap pg false ∧ Box w' c2 #[.string (str (rcd L i))] ∧ Kept (fun j => E j ∧ j ≠ c2) W w') ∨
      (rcd L i = [] ∧ e = .returned (.int .i64 4) ∧ PF E w' P D A k fb db cap pg false ∧ Kept E W w') := by
  have HB := Lib.hid (pf_bytes h)
  obtain ⟨y, y1, y2, y3⟩ := bytes_at h hr
  have HG := Lib.hid (SL.good_any db y L cap W y1 y2 hlast)
  have H0 := Lib.hid (And.intro h (And.intro b1 b2))
  have hand := and_255 pg i hp hi
  have HWI : Hid (IntKind.i64.wrap (i : Int) = (i : Int)) := by show _ = _; rw [IntKind.wrap_i64]; omega
  generalize hn : pg * 256 + i = n at hand b1
  clear h y1 y2 b2
  go_enter Tryz.func88, Tryz.ntmps88
  go_wp2_with fail
  refine HB.out.mono ?_
  rintro e w1 ⟨rfl, rfl⟩
  go_wp2_with fail
  refine HG.out.mono ?_
  rintro e w2 ⟨rfl, hb2⟩
  obtain ⟨h, b1, b2⟩ := H0.out
  rw [hn] at b1
  have p2 := h.next hb2
  have k2 := h.kept hb2
  have bd : Below w2.heap.size w2 w2.drew := (Below.refl _ _).drew
  have p3 := p2.next bd
  have k3 := k2.trans (p2.kept bd)
  have b13 := (b1.next hb2).drew
  have b23 := (b2.next hb2).drew
  have d1 : w2.drew.cell? ⟨c1, 0, none⟩ = some (.int .u64 (n : Int)) := b13.cell 0 _ rfl
  obtain ⟨z, z1, z2, z3⟩ := bytes_at p3 hr
  have HB2 := Lib.hid (pf_bytes p3)
  by_cases hrc : rcd L i = []
  · have hbf : SL.hasB L (i : Int) = false := by unfold SL.hasB; simp [hrc]
    have HGt := Lib.hid ((SL.get_no db z L cap (i : Int) w2.drew z1 z2 hbf).mono (R' := fun e w' => e = .returned (.tuple #[.string (str []), .bool false]) ∧ w'.cell? ⟨c1, 0, none⟩ = some (.int .u64 (n : Int)) ∧ Below w2.drew.heap.size w2.drew w') (fun _ _ ⟨a, b⟩ => ⟨a, (b13.next b).cell 0 _ rfl, b⟩))
    have H3 := Lib.hid (And.intro p3 k3)
    have HR := Lib.hid hrc
    clear HB HG H0 h b1 b2 hb2 p2 k2 bd p3 k3 b13 b23 z1 z2 hbf hrc
    go_wp2_with fail
    go_region_with (first
      | (go_at_call 49; refine HB2.out.mono ?_; rintro e w3 ⟨rfl, rfl⟩)
      | (go_at_call 90; rw [HWI.out]; refine HGt.out.mono ?_; rintro e w4 ⟨rfl, d4, bl4⟩; replace bl4 := Lib.hid bl4))
    all_goals
      obtain ⟨p3, k3⟩ := H3.out
      have H5 := Lib.hid (And.intro (p3.next bl4.out) (k3.trans (p3.kept bl4.out)))
      clear HB2 HGt H3 p3 k3 bl4
      go_wp2
      go_ret
      exact .inr ⟨HR.out, rfl, H5.out⟩
  · obtain ⟨hil, hine⟩ : i < L.length ∧ rcd L i ≠ [] := ⟨by
      by_cases hc : i < L.length
      · exact hc
      · exact absurd (SR.rcd_out _ _ (by omega)) hrc, hrc⟩
    have HGt := Lib.hid ((SL.get_yes db z L cap z3 i w2.drew z1 z2 hil hrc).mono (R' := fun e w' => e = .returned (.tuple #[.string (str (rcd L i)), .bool true]) ∧ w'.cell? ⟨c1, 0, none⟩ = some (.int .u64 (n : Int)) ∧ w'.cell? ⟨c2, 0, none⟩ = some v2 ∧ w'.frozen? ⟨c2, 0, none⟩ = false ∧ Below w2.drew.heap.size w2.drew w') (fun _ _ ⟨a, b⟩ => ⟨a, (b13.next b).cell 0 _ rfl, (b23.next b).cell 0 _ rfl, (b23.next b).free 0, b⟩))
    have H3 := Lib.hid (And.intro p3 (And.intro k3 b23))
    have HR := Lib.hid hrc
    clear HB HG H0 h b1 b2 hb2 p2 k2 bd p3 k3 b13 b23 z1 z2 hrc hine
    go_wp2_with fail
    go_region_with (first
      | (go_at_call 49; refine HB2.out.mono ?_; rintro e w3 ⟨rfl, rfl⟩)
      | (go_at_call 90; rw [HWI.out]; refine HGt.out.mono ?_; rintro e w4 ⟨rfl, d4, d5, f5, bl4⟩; replace bl4 := Lib.hid bl4))
    all_goals
      obtain ⟨p3, k3, b23⟩ := H3.out
      obtain ⟨q1, q2, q3⟩ := (p3.next bl4.out).one_ h2 t2 (b23.next bl4.out) (.string (str (rcd L i)))
      have H5 := Lib.hid (And.intro q1 (And.intro q3 (((k3.trans (p3.kept bl4.out)).mono (fun _ hj => hj.1)).trans q2)))
      clear HB2 HGt H3 p3 k3 b23 bl4 q1 q2 q3
      go_wp2
      go_ret
      exact .inl ⟨HR.out, rfl, H5.out⟩
/-- what find leaves -/
def Found (E : Nat → Prop) (W W' : World) (P D : Nat) (A : AP) (k i : Nat) (L : List (List UInt8)) (e : Ending) : Prop :=
  (rcd L i ≠ [] ∧ e = .returned (.tuple #[.string (str (rcd L i)), .int .i64 0]) ∧ PZ E W' P D A (k + 2) ∧ Kept E W W') ∨
  (rcd L i = [] ∧ e = .returned (.tuple #[.string (str []), .int .i64 4]) ∧ PZ E W' P D A (k + 2) ∧ Kept E W W')
set_option maxHeartbeats 1000000 in
set_option maxRecDepth 100000 in
theorem find_any (h : PZ E W P D A k) (hk : k + 2 < 900000000) (hb : Box W H (hcells P root)) (hr : Recs (A.c pg) L) (hlast : LastOk L) (hpg : A.Has pg) (hp : pg ≤ 60000) (hi : i < 256) :
    Calls Tryz.prog 39 #[.pointer (some ⟨H, 0, none⟩), .int .u64 ((pg * 256 + i : Nat) : Int)] W fun e w' => Found E W w' P D A k i L e := by
  have hp1 : 1 ≤ pg := hpg.1
  have ht := h.tab.lt
  have hE0 := h.there
  have HAND := Lib.hid (and_255 pg i hp hi)
  have hdv : (((pg * 256 + i : Nat) : Int)) / 256 = (pg : Int) := by omega
  generalize hn : pg * 256 + i = n at hdv ⊢
  have HDV := Lib.hid hdv
  clear hdv
  have a1 : Below W.heap.size W (W.alloc (.cells #[.int .u64 (n : Int)] 34)) := (Below.refl _ _).alloc (Nat.le_refl _) _
  have hs1 : (W.alloc (.cells #[.int .u64 (n : Int)] 34)).heap.size = W.heap.size + 1 := by simp
  have x1 := Box.new W #[.int .u64 (n : Int)] 34
  generalize hwa : W.alloc (.cells #[.int .u64 (n : Int)] 34) = wa at a1 hs1 x1
  have a2 := a1.alloc (by omega) (.cells #[.string (str [])] 9)
  have hs2 : (wa.alloc (.cells #[.string (str [])] 9)).heap.size = W.heap.size + 2 := by simp [hs1]
  have x2 := Box.new wa #[.string (str [])] 9
  rw [hs1] at x2
  have x1' := x1.alloc (.cells #[.string (str [])] 9)
  generalize hwc : wa.alloc (.cells #[.string (str [])] 9) = wc at a2 hs2 x2 x1'
  have p2 := (h.wide a2 (T := fun j => E j ∨ j = W.heap.size ∨ j = W.heap.size + 1) (fun j hj => by
    rcases hj with hj | hj | hj
    · exact .inl hj
    · exact .inr (by omega)
    · exact .inr (by omega))).next (Below.refl _ _).drew
  have k2 : Kept E W wc.drew := h.kept a2.drew
  have HWC : Hid ((W.alloc (.cells #[.int .u64 (n : Int)] 34)).alloc (.cells #[.string (str [])] 9) = wc) := by
    show _ = _
    rw [hwa, hwc]
  have d0 : wc.drew.cell? ⟨H, 0, none⟩ = some (.pointer (some ⟨P, 0, none⟩)) := (hb.below a2 hb.lt).cell 0 _ rfl
  have d1 : wc.drew.cell? ⟨W.heap.size, 0, none⟩ = some (.int .u64 (n : Int)) := x1'.drew.cell 0 _ rfl
  have HW := Lib.hid (with_any (N := 88) (caps := #[.pointer (some ⟨W.heap.size, 0, none⟩), .pointer (some ⟨W.heap.size + 1, 0, none⟩)]) (F := E)
    (R := fun A' k' r w' => A' = A ∧ k' = k + 2 ∧ ((rcd L i ≠ [] ∧ r = 0 ∧ Box w' (W.heap.size + 1) #[.string (str (rcd L i))]) ∨ (rcd L i = [] ∧ r = 4 ∧ Box w' (W.heap.size + 1) #[.string (str [])])))
    (enters Tryz.func88 (by kernel_rfl) (by kernel_rfl)) p2 hk hpg (fun j hj => .inl hj) (fun fb db cap w hpf hkk => by
      have y1 := x1'.drew.of_block (hkk.block _ (.inr (.inl rfl)))
      have y2 := x2.drew.of_block (hkk.block _ (.inr (.inr rfl)))
      rw [← hn] at y1
      refine (find1_any hpf hr hlast hp hi y1 y2 (.inr (.inr rfl)) (by omega)).mono ?_
      rintro e w' (⟨a, he, q1, q2, q3⟩ | ⟨a, he, q1, q3⟩)
      · exact ⟨0, A, k + 2, false, he, q1, q3.mono (fun j hj => ⟨.inl hj, by have := hE0 j hj; omega⟩), rfl, rfl, .inl ⟨a, rfl, q2⟩⟩
      · exact ⟨4, A, k + 2, false, he, q1, q3.mono (fun j hj => .inl hj), rfl, rfl, .inr ⟨a, rfl, y2.of_block (q3.block _ (.inr (.inr rfl)))⟩⟩))
  have K2 := Lib.hid k2
  clear h hb x1 x1' x2 p2 k2 a1 a2 ht hpg hs1 hs2 hwa hwc hE0 hr hlast
  go_enter Tryz.func39, Tryz.ntmps39
  go_wp2_with fail
  rw [HWC.out]
  have hdv := HDV.out
  go_still_tail 8, (by kernel_rfl)
  change wpList _ _ _ _ _ wc.drew
  go_wp2_with fail
  refine HW.out.mono ?_
  rintro e w3 ⟨r, A', k', w1, rfl, ⟨rfl, rfl, hr⟩, p3, k3, k4⟩
  have K3 := Lib.hid (And.intro (p3.less (T := E) (fun j hj => .inl hj)) (K2.out.trans k4))
  rcases hr with ⟨a, rfl, y2⟩ | ⟨a, rfl, y2⟩
  · have d2 : w3.cell? ⟨W.heap.size + 1, 0, none⟩ = some (.string (str (rcd L i))) := (y2.of_block (k3.block _ (.inr (.inr rfl)))).cell 0 _ rfl
    have HA := Lib.hid a
    clear HW K2 p3 k3 k4 y2 a
    go_wp2
    go_ret2
    exact .inl ⟨HA.out, rfl, K3.out⟩
  · have d2 : w3.cell? ⟨W.heap.size + 1, 0, none⟩ = some (.string (str [])) := (y2.of_block (k3.block _ (.inr (.inr rfl)))).cell 0 _ rfl
    have HA := Lib.hid a
    clear HW K2 p3 k3 k4 y2 a
    go_wp2
    go_ret2
    exact .inr ⟨HA.out, rfl, K3.out⟩
end
end Go.Proofs.YtjfkdfffolkblaaGreatDoor
namespace Go.Proofs.YtjfkdfffolkblaaGreatDoor
open Go.RowKit
open UK (str BytesAt nth Only Row Box w32)
open Go.BigFrame
section
variable {E F : Nat → Prop} {W W' : World} {P D k fb db cap pg root H c1 c2 c3 m : Nat} {A B : AP} {s : List UInt8} {v1 v2 v3 : Value}
set_option maxHeartbeats 1000000 in
set_option maxRecDepth 100000 in
theorem walk1_any (h : PF E W P D A k fb db cap pg false) (b1 : Box W c1 #[v1]) (b2 : Box W c2 #[.int .i64 m]) (b3 : Box W c3 #[v3]) (h1 : E c1) (h3 : E c3) (n12 : c1 ≠ c2) (n13 : c1 ≠ c3) (t1 : 0 ≠ c1) (t3 : 0 ≠ c3) (hm : m ≤ 400000) :
    Calls Tryz.prog 92 #[.pointer (some ⟨fb, 0, none⟩), .pointer (some ⟨c1, 0, none⟩), .pointer (some ⟨c2, 0, none⟩), .pointer (some ⟨c3, 0, none⟩)] W fun e w' => e = .returned (.int .i64 0) ∧ PF E w' P D A k fb db cap pg false ∧ Box w' c1 #[.int .i64 (wdAt (A.c pg) 0).toNat] ∧ Box w' c3 #[.string (str (((A.c pg).drop 4).take (min m 500)))] ∧ Kept (fun j => E j ∧ j ≠ c1 ∧ j ≠ c3) W w' := by
  have HB := Lib.hid (pf_bytes h)
  obtain ⟨y, y1, y2, y3, y4, y5⟩ := h.bytes
  have e0 : wdAt (A.c pg) 0 = wdAt y 0 := by rw [← y3]; exact wdAt_take y 0 504 (by decide)
  have e4 : ((A.c pg).drop 4).take (min m 500) = (y.drop 4).take (min m 500) := by rw [← y3]; exact take_cut y 4 (min m 500) 504 (by omega)
  rw [e0, e4]
  have HW0 := Lib.hid (hword_any y1 0 504 cap (by omega) (by omega))
  have H0 := Lib.hid (And.intro h (And.intro y1 (And.intro b1 (And.intro b2 b3))))
  have hcap := Lib.hid (And.intro y2 y4)
  clear h y1 b1 b2 b3 e0 e4 y3 y5
  generalize hu0 : wdAt y 0 = u0 at HW0 ⊢
  clear hu0
  go_enter Tryz.func92, Tryz.ntmps92
  go_wp2_with fail
  refine HB.out.mono ?_
  rintro e w1 ⟨rfl, rfl⟩
  go_wp2_with fail
  refine HW0.out.mono ?_
  rintro e w2 ⟨rfl, hb2⟩
  obtain ⟨h, y1, b1, b2, b3⟩ := H0.out
  have h' := h.next hb2
  have k2 := h.kept hb2
  have b1' := b1.next hb2
  have d1 : w2.cell? ⟨c1, 0, none⟩ = some v1 := b1'.cell 0 _ rfl
  have f1 := b1'.free 0
  obtain ⟨p3, k3, b13⟩ := h'.one_ h1 t1 b1' (.int .i64 u0.toNat)
  have b23 := (b2.next hb2).far (b := c1) (j := 0) (.int .i64 u0.toNat) n12.symm
  have b33 := (b3.next hb2).far (b := c1) (j := 0) (.int .i64 u0.toNat) n13.symm
  have y13 := (y1.below hb2 y1.lt).far ⟨c1, 0, none⟩ (.int .i64 u0.toNat) (fun e => by
    obtain ⟨_, _, _, _, _, h5⟩ := h.bytes
    exact h5 (e ▸ h1))
  have K3 := Lib.hid ((k2.mono (T := fun j => E j ∧ j ≠ c1) (fun _ (hj : E _ ∧ _) => hj.1)).trans k3)
  clear HB HW0 H0 h y1 b1 b2 b3 h' k2 b1' hb2 k3
  go_wp2_with fail
  generalize w2.setCell ⟨c1, 0, none⟩ (.int .i64 u0.toNat) = w3 at p3 b13 b23 b33 y13 K3 ⊢
  have bd : Below w3.heap.size w3 w3.drew := (Below.refl _ _).drew
  have p4 := p3.next bd
  have k4 := p3.kept bd
  have HB4 := Lib.hid (pf_bytes p4)
  have d2 : w3.drew.cell? ⟨c2, 0, none⟩ = some (.int .i64 m) := b23.drew.cell 0 _ rfl
  have d3 : w3.drew.cell? ⟨c3, 0, none⟩ = some v3 := b33.drew.cell 0 _ rfl
  have f3 : w3.drew.frozen? ⟨c3, 0, none⟩ = false := b33.drew.free 0
  have hcv := UK.run_window (P := Tryz.prog) (src := 92) (dst := 9) Tryz.underlying92 Tryz.underlying5 Tryz.underlying9 y13.drew 4 (min m 500) (cap - 4) (by have := hcap.out; omega)
  have H4 := Lib.hid (And.intro p4 (And.intro b13.drew (And.intro b33.drew k4)))
  have hmi : ∀ (ts : Array TypeId) (t : TypeId) (w : World), (Builtin.min_ ts t #[.int .i64 (m : Int), .int .i64 500]).run Tryz.prog w = .ok (.int .i64 ((min m 500 : Nat) : Int)) w := fun ts t w => by
    rw [run_min_int2]
    congr 2
    by_cases h : (500 : Int) < m
    · rw [if_pos h]; omega
    · rw [if_neg h]; omega
  have hr5 : min m 500 ≤ 500 := Nat.min_le_right _ _
  generalize hr : min m 500 = r at hcv hmi hr5 ⊢
  have i1 : (4 : Int) + r ≤ cap := by have := hcap.out; omega
  have i2 : ¬ (cap = 4) := by have := hcap.out; omega
  have i3 : (4 : Int) ≤ 4 + (r : Int) := by omega
  have i4 : (0 : Int) ≤ 4 + (r : Int) := by omega
  have i5 : (4 + (r : Int)).toNat = 4 + r := by omega
  have i6 : IntKind.i64.wrap (4 + (r : Int)) = 4 + r := by rw [IntKind.wrap_i64]; omega
  have i7 : 4 + r - 4 = r := by omega
  have HRR := Lib.hid hr
  clear p3 b13 b23 b33 bd p4 k4 hr
  go_region_with (first
    | (go_at_call 49; refine HB4.out.mono ?_; rintro e w5 ⟨rfl, rfl⟩))
  all_goals
    obtain ⟨p4, b14, b34, k4⟩ := H4.out
    obtain ⟨q1, q2, q3⟩ := p4.one_ h3 t3 b34 (.string (str ((y.drop 4).take r)))
    have q4 := b14.far (b := c3) (j := 0) (.string (str ((y.drop 4).take r))) n13
    have H5 : Hid (PF E ((w3.setCell ⟨c3, 0, none⟩ (.string (str ((y.drop 4).take r)))).drew) P D A k fb db cap pg false ∧ Box ((w3.setCell ⟨c3, 0, none⟩ (.string (str ((y.drop 4).take r)))).drew) c1 #[.int .i64 u0.toNat] ∧ Box ((w3.setCell ⟨c3, 0, none⟩ (.string (str ((y.drop 4).take r)))).drew) c3 #[.string (str ((y.drop 4).take r))] ∧ Kept (fun j => E j ∧ j ≠ c1 ∧ j ≠ c3) w1 ((w3.setCell ⟨c3, 0, none⟩ (.string (str ((y.drop 4).take r)))).drew)) :=
      ⟨q1, q4, q3, ((K3.out.mono (T := fun j => E j ∧ j ≠ c1 ∧ j ≠ c3) (fun _ (hj : E _ ∧ _ ∧ _) => ⟨hj.1, hj.2.1⟩)).trans (k4.mono (fun _ (hj : E _ ∧ _ ∧ _) => hj.1))).trans (q2.mono (fun _ (hj : E _ ∧ _ ∧ _) => ⟨hj.1, hj.2.2⟩))⟩
    clear HB4 H4 K3 p4 b14 b34 k4 q1 q2 q3 q4 hcv hmi y13
    go_wp2
    go_ret
    rw [HRR.out]
    exact ⟨rfl, H5.out⟩
end
end Go.Proofs.YtjfkdfffolkblaaGreatDoor
