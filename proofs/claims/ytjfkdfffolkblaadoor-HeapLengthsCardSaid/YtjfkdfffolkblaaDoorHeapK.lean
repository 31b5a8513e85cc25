/-
  heap.walk's closure: a page of a long text is read.
-/
import Derived.Test.YtjfkdfffolkblaaDoorHeapJ
namespace Go.Proofs.YtjfkdfffolkblaaDoor
open Go.RowKit
open UK (str BytesAt nth Only Row Box w32)
open Go.BigFrame
section
variable {E F : Nat → Prop} {W W' : World} {P D k fb db cap pg root H c1 c2 c3 m : Nat} {A B : AP} {s : List UInt8} {v1 v2 v3 : Value}
set_option maxHeartbeats 1000000 in
set_option maxRecDepth 100000 in
theorem walk1_any (h : PF E W P D A k fb db cap pg false) (b1 : Box W c1 #[v1]) (b2 : Box W c2 #[.int .i64 m]) (b3 : Box W c3 #[v3]) (h1 : E c1) (h3 : E c3) (n12 : c1 ≠ c2) (n13 : c1 ≠ c3) (t1 : 0 ≠ c1) (t3 : 0 ≠ c3) (hm : m ≤ 400000) :
    Calls Tryd.prog 100 #[.pointer (some ⟨fb, 0, none⟩), .pointer (some ⟨c1, 0, none⟩), .pointer (some ⟨c2, 0, none⟩), .pointer (some ⟨c3, 0, none⟩)] W fun e w' => e = .returned (.int .i64 0) ∧ PF E w' P D A k fb db cap pg false ∧ Box w' c1 #[.int .i64 (wdAt (A.c pg) 0).toNat] ∧ Box w' c3 #[.string (str (((A.c pg).drop 4).take (min m 500)))] ∧ Kept (fun j => E j ∧ j ≠ c1 ∧ j ≠ c3) W w' := by
  have HB := Lib.hid (pf_bytes h)
  obtain ⟨y, y1, y2, y3, y4, y5⟩ := h.bytes
  have e0 : wdAt (A.c pg) 0 = wdAt y 0 := by rw [← y3]; exact wdAt_take y 0 504 (by decide)
  have e4 : ((A.c pg).drop 4).take (min m 500) = (y.drop 4).take (min m 500) := by rw [← y3]; exact take_cut y 4 (min m 500) 504 (by omega)
  rw [e0, e4]
  have HW0 := Lib.hid (hword_any y1 0 504 cap (by omega) (by omega))
  have H0 := Lib.hid (And.intro h (And.intro y1 (And.intro b1 (And.intro b2 b3))))
  have hcap := Lib.hid (And.intro y2 y4)
  clear h y1 b1 b2 b3 e0 e4 y3 y5
  generalize hu0 : wdAt y 0 = u0 at HW0 ⊢
  clear hu0
  go_enter Tryd.func100, Tryd.ntmps100
  go_wp2_with fail
  refine HB.out.mono ?_
  rintro e w1 ⟨rfl, rfl⟩
  go_wp2_with fail
  refine HW0.out.mono ?_
  rintro e w2 ⟨rfl, hb2⟩
  obtain ⟨h, y1, b1, b2, b3⟩ := H0.out
  have h' := h.next hb2
  have k2 := h.kept hb2
  have b1' := b1.next hb2
  have d1 : w2.cell? ⟨c1, 0, none⟩ = some v1 := b1'.cell 0 _ rfl
  have f1 := b1'.free 0
  obtain ⟨p3, k3, b13⟩ := h'.one_ h1 t1 b1' (.int .i64 u0.toNat)
  have b23 := (b2.next hb2).far (b := c1) (j := 0) (.int .i64 u0.toNat) n12.symm
  have b33 := (b3.next hb2).far (b := c1) (j := 0) (.int .i64 u0.toNat) n13.symm
  have y13 := (y1.below hb2 y1.lt).far ⟨c1, 0, none⟩ (.int .i64 u0.toNat) (fun e => by
    obtain ⟨_, _, _, _, _, h5⟩ := h.bytes
    exact h5 (e ▸ h1))
  have K3 := Lib.hid ((k2.mono (T := fun j => E j ∧ j ≠ c1) (fun _ (hj : E _ ∧ _) => hj.1)).trans k3)
  clear HB HW0 H0 h y1 b1 b2 b3 h' k2 b1' hb2 k3
  go_wp2_with fail
  generalize w2.setCell ⟨c1, 0, none⟩ (.int .i64 u0.toNat) = w3 at p3 b13 b23 b33 y13 K3 ⊢
  have bd : Below w3.heap.size w3 w3.drew := (Below.refl _ _).drew
  have p4 := p3.next bd
  have k4 := p3.kept bd
  have HB4 := Lib.hid (pf_bytes p4)
  have d2 : w3.drew.cell? ⟨c2, 0, none⟩ = some (.int .i64 m) := b23.drew.cell 0 _ rfl
  have d3 : w3.drew.cell? ⟨c3, 0, none⟩ = some v3 := b33.drew.cell 0 _ rfl
  have f3 : w3.drew.frozen? ⟨c3, 0, none⟩ = false := b33.drew.free 0
  have hcv := UK.run_window (P := Tryd.prog) (src := 77) (dst := 9) Tryd.underlying77 Tryd.underlying5 Tryd.underlying9 y13.drew 4 (min m 500) (cap - 4) (by have := hcap.out; omega)
  have H4 := Lib.hid (And.intro p4 (And.intro b13.drew (And.intro b33.drew k4)))
  have hmi : ∀ (ts : Array TypeId) (t : TypeId) (w : World), (Builtin.min_ ts t #[.int .i64 (m : Int), .int .i64 500]).run Tryd.prog w = .ok (.int .i64 ((min m 500 : Nat) : Int)) w := fun ts t w => by
    rw [run_min_int2]
    congr 2
    by_cases h : (500 : Int) < m
    · rw [if_pos h]; omega
    · rw [if_neg h]; omega
  have hr5 : min m 500 ≤ 500 := Nat.min_le_right _ _
  generalize hr : min m 500 = r at hcv hmi hr5 ⊢
  have i1 : (4 : Int) + r ≤ cap := by have := hcap.out; omega
  have i2 : ¬ (cap = 4) := by have := hcap.out; omega
  have i3 : (4 : Int) ≤ 4 + (r : Int) := by omega
  have i4 : (0 : Int) ≤ 4 + (r : Int) := by omega
  have i5 : (4 + (r : Int)).toNat = 4 + r := by omega
  have i6 : IntKind.i64.wrap (4 + (r : Int)) = 4 + r := by rw [IntKind.wrap_i64]; omega
  have i7 : 4 + r - 4 = r := by omega
  have HRR := Lib.hid hr
  clear p3 b13 b23 b33 bd p4 k4 hr
  go_region_with (first
    | (go_at_call 57; refine HB4.out.mono ?_; rintro e w5 ⟨rfl, rfl⟩))
  all_goals
    obtain ⟨p4, b14, b34, k4⟩ := H4.out
    obtain ⟨q1, q2, q3⟩ := p4.one_ h3 t3 b34 (.string (str ((y.drop 4).take r)))
    have q4 := b14.far (b := c3) (j := 0) (.string (str ((y.drop 4).take r))) n13
    have H5 : Hid (PF E ((w3.setCell ⟨c3, 0, none⟩ (.string (str ((y.drop 4).take r)))).drew) P D A k fb db cap pg false ∧ Box ((w3.setCell ⟨c3, 0, none⟩ (.string (str ((y.drop 4).take r)))).drew) c1 #[.int .i64 u0.toNat] ∧ Box ((w3.setCell ⟨c3, 0, none⟩ (.string (str ((y.drop 4).take r)))).drew) c3 #[.string (str ((y.drop 4).take r))] ∧ Kept (fun j => E j ∧ j ≠ c1 ∧ j ≠ c3) w1 ((w3.setCell ⟨c3, 0, none⟩ (.string (str ((y.drop 4).take r)))).drew)) :=
      ⟨q1, q4, q3, ((K3.out.mono (T := fun j => E j ∧ j ≠ c1 ∧ j ≠ c3) (fun _ (hj : E _ ∧ _ ∧ _) => ⟨hj.1, hj.2.1⟩)).trans (k4.mono (fun _ (hj : E _ ∧ _ ∧ _) => hj.1))).trans (q2.mono (fun _ (hj : E _ ∧ _ ∧ _) => ⟨hj.1, hj.2.2⟩))⟩
    clear HB4 H4 K3 p4 b14 b34 k4 q1 q2 q3 q4 hcv hmi y13
    go_wp2
    go_ret
    rw [HRR.out]
    exact ⟨rfl, H5.out⟩
end
end Go.Proofs.YtjfkdfffolkblaaDoor
