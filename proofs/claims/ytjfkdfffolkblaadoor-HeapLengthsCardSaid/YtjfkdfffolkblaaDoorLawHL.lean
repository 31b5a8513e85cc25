/-
  The statement's law: HeapLengths.
-/
import Derived.Test.YtjfkdfffolkblaaDoorHeapX
namespace Go.Proofs.YtjfkdfffolkblaaDoor
open Go.RowKit
open UK (str BytesAt nth Only Row Box w32)
open SR (Recs rcd total)
open SL (hole add trim room live)
open Go.BigFrame
theorem tab_kept {W W' : World} (ht : TabAt W) (hk : Kept (fun j => j < W.heap.size) W W') : TabAt W' := fun c => (World.cell?_of_block (a := ⟨_, _, none⟩) (hk.block _ ht.lt)).trans (ht c)
set_option maxRecDepth 100000 in
theorem find_one {W : World} {g id_ : Nat} (h : Box W g #[.int .u64 id_, .string (str [])]) :
    Calls Tryd.prog 12 #[.slice (some ⟨g, 0, none⟩) 1 1, .int .u64 id_] W fun e w' => e = .returned (.int .i64 0) ∧ Below W.heap.size W w' := by
  have hl := h.load (P := Tryd.prog) (ty := 37) Tryd.underlying37 rfl (by kernel_rfl)
  have c0 : W.cell? ⟨g, 0, none⟩ = some (.int .u64 id_) := h.cell 0 _ rfl
  have c1 : W.cell? ⟨g, 1, none⟩ = some (.string (str [])) := h.cell 1 _ rfl
  have HB := Lib.hid h
  clear h
  go_enter Tryd.func12, Tryd.ntmps12
  go_wp2_with fail
  go_loopw [9] (fun iv wr => iv = .int .i64 0 ∧ wr = W) (fun _ _ => 1)
  case atStart => exact ⟨rfl, rfl⟩
  case round =>
    obtain ⟨rfl, rfl⟩ := hrel
    go_wp2
    go_ret
    exact ⟨rfl, (Below.refl _ _).alloc (Nat.le_refl _) _⟩
set_option maxHeartbeats 4000000 in
set_option maxRecDepth 100000 in
theorem hl_any (n m : Int) (W : World) (ht : TabAt W) :
    Calls Tryd.prog 3 #[.int .i64 n, .int .i64 m] W fun e w' => e = .returned (.bool true) ∧ Kept (fun j => j < W.heap.size) W w' := by
  have HAW := Lib.hid (hawake_any W ht (fun j => j < W.heap.size) (fun _ h => h))
  by_cases hin : 0 ≤ n ∧ n ≤ 3000 ∧ 0 ≤ m ∧ m ≤ 3000
  · obtain ⟨i1, i2, i3, i4⟩ := hin
    have HM := Lib.hid (hmade_any W ht (fun j => j < W.heap.size) (fun _ h => h) 60 (by omega) (by omega) 3 (by omega))
    have HL1 := Lib.hid (longL_len [97] n)
    have HG1 := Lib.hid (fun w => hlong_any [97] n w)
    have HL2 := Lib.hid (longL_len [98] m)
    have HG2 := Lib.hid (fun w => hlong_any [98] m w)
    generalize longL [97] n = sa at HL1 HG1
    generalize longL [98] m = sb at HL2 HG2
    clear HAW
    by_cases hn : n = 0
    · by_cases hm : m = 0
      · subst hn
        subst hm
        have HSA : Hid (([] : List UInt8).length ≤ 3000) := by show _ ≤ _; decide
        have HSB : Hid (([] : List UInt8).length ≤ 3000) := by show _ ≤ _; decide
        go_enter Tryd.func3, Tryd.ntmps3
        go_wp2_with fail
        refine HM.out.mono ?_
        rintro e w1 ⟨P, D, T, A, rfl, z1, s1, m1, hT, k1⟩
        have Z1 := Lib.hid (And.intro z1 (And.intro s1 (And.intro m1 k1)))
        clear HM z1 s1 m1 k1
        go_wp2_with fail
        refine (HG1.out _).mono ?_
        rintro e w2 ⟨rfl, hw⟩
        subst hw
        go_wp2_with fail
        refine (HG2.out _).mono ?_
        rintro e w2 ⟨rfl, hw⟩
        subst hw
        have H1 := Lib.hid (hput_any (s := []) Z1.out.1 (by have := HSA.out; omega) (by have := HSA.out; omega) (by show 0 < _; omega))
        go_wp2_with fail
        refine H1.out.mono ?_
        rintro e w3 (⟨t1, A2, pg2, rp2, L2, rfl, hs1, z2, r2, k2⟩ | ⟨B, rfl, r2, q2, p2, k2⟩)
        rotate_left
        · exfalso
          obtain ⟨z1, s1, m1, _⟩ := Z1.out
          have := z1.hi.rooms z1.good s1 (m := 1) (fun t ht => absurd ht List.not_mem_nil)
          rw [m1, show ([] : List HT).length = 0 from rfl] at this
          have := HSA.out
          omega
        replace z2 := z2.up (show 2 + (([] : List UInt8).length + 30) ≤ 4000 from by have := HSA.out; omega)
        obtain ⟨z1, s1, m1, k1⟩ := Z1.out
        have g1 := get_any z2 (List.mem_cons_self .. : t1 ∈ [t1]) (by rw [hs1]; have := HSA.out; omega)
        rw [hs1] at g1
        have G1 := Lib.hid g1
        have K2 := Lib.hid (And.intro (r2.shut s1) (And.intro (r2.most.trans m1) (And.intro (k1.trans (k2.mono (fun j hj => .inl hj))) hs1)))
        have Z2 := Lib.hid z2
        clear H1 Z1 z1 s1 m1 k1 r2 k2 g1 z2 hs1
        go_wp2_with fail
        refine G1.out.mono ?_
        rintro e w4 ⟨rfl, p4, k4⟩
        have z4 := (Z2.out.step p4 k4).up (show 4000 + (([] : List UInt8).length + 20) ≤ 8000 from by have := HSA.out; omega)
        obtain ⟨s2, m2, k2, hs1⟩ := K2.out
        have HST := Lib.hid (hset_any (s := []) z4 (by rw [hs1]; have := HSA.out; have := HSB.out; omega) (by have := HSB.out; omega))
        have K4 := Lib.hid (And.intro s2 (And.intro m2 (And.intro (k2.trans (k4.mono (fun j hj => .inl hj))) hs1)))
        have Z4 := Lib.hid z4
        clear G1 Z2 K2 p4 k4 z4 s2 m2 k2 hs1
        go_wp2_with fail
        refine HST.out.mono ?_
        rintro e w5 (⟨u, A5, pg5, rp5, L5, rfl, hu, z5, r5, k5⟩ | ⟨B1, B, pg5, rp5, L5, rfl, hi5, r5, _, q5, p5, k5⟩)
        rotate_left
        · exfalso
          obtain ⟨s2, m2, _, hs1⟩ := K4.out
          have := hi5.rooms (r5.good Z4.out.good) (r5.shut s2) (m := 1) (fun t ht => absurd ht List.not_mem_nil)
          rw [r5.most, m2, show ([] : List HT).length = 0 from rfl] at this
          have := HSB.out
          omega
        obtain ⟨s2, m2, k4, hs1⟩ := K4.out
        rw [hs1] at z5
        replace z5 := z5.up (show 8000 + (([] : List UInt8).length + ([] : List UInt8).length + 100) ≤ 16000 from by have := HSA.out; have := HSB.out; omega)
        have g2 := get_any z5 (List.mem_cons_self .. : u ∈ [u]) (by rw [hu]; have := HSB.out; omega)
        rw [hu] at g2
        have G2 := Lib.hid g2
        have K5 := Lib.hid (k4.trans (k5.mono (fun j hj => .inl hj)))
        clear HST K4 Z4 s2 m2 k4 hs1 z5 r5 k5 g2 hu
        generalize (idOf u : Nat) = ui at *
        go_wp2_with fail
        refine G2.out.mono ?_
        rintro e w6 ⟨rfl, p6, k6⟩
        have kk := K5.out.trans (k6.mono (fun j hj => .inl hj))
        have HA := Lib.hid (hawake_any w6 (tab_kept ht kk) (fun j => j < W.heap.size) (fun j hj => Nat.lt_of_lt_of_le hj kk.size))
        have K6 := Lib.hid kk
        clear G2 K5 p6 k6 kk
        go_wp2_with fail
        refine HA.out.mono ?_
        rintro e w7 ⟨rfl, k7⟩
        have K7 := Lib.hid (K6.out.trans k7)
        have b8 : Below w7.heap.size w7 (w7.alloc (.cells #[.int .u64 ui, .string (str [])] 37)) := (Below.refl _ _).alloc (Nat.le_refl _) _
        have HF := Lib.hid (find_one (Box.new w7 #[.int .u64 ui, .string (str [])] 37))
        have K8 := Lib.hid (K7.out.trans (Kept.of_below b8 (fun j (hj : j < W.heap.size) => Nat.lt_of_lt_of_le hj K7.out.size)))
        clear HA K6 k7 b8
        go_wp2_with fail
        refine HF.out.mono ?_
        rintro e w9 ⟨rfl, b9⟩
        have K9 := Lib.hid (K8.out.trans (Kept.of_below b9 (fun j (hj : j < W.heap.size) => Nat.lt_of_lt_of_le hj K8.out.size)))
        clear HF K8 K7 b9
        go_wp2
        go_ret
        exact ⟨rfl, K9.out⟩
      · subst hn
        have hmb : (m == 0) = false := by simp; omega
        have HSA : Hid (([] : List UInt8).length ≤ 3000) := by show _ ≤ _; decide
        have HSB : Hid ((sb : List UInt8).length ≤ 3000) := by show _ ≤ _; exact HL2.out
        go_enter Tryd.func3, Tryd.ntmps3
        go_wp2_with fail
        refine HM.out.mono ?_
        rintro e w1 ⟨P, D, T, A, rfl, z1, s1, m1, hT, k1⟩
        have Z1 := Lib.hid (And.intro z1 (And.intro s1 (And.intro m1 k1)))
        clear HM z1 s1 m1 k1
        go_wp2_with fail
        refine (HG1.out _).mono ?_
        rintro e w2 ⟨rfl, hw⟩
        subst hw
        go_wp2_with fail
        refine (HG2.out _).mono ?_
        rintro e w2 ⟨rfl, hw⟩
        subst hw
        have H1 := Lib.hid (hput_any (s := []) Z1.out.1 (by have := HSA.out; omega) (by have := HSA.out; omega) (by show 0 < _; omega))
        go_wp2_with fail
        refine H1.out.mono ?_
        rintro e w3 (⟨t1, A2, pg2, rp2, L2, rfl, hs1, z2, r2, k2⟩ | ⟨B, rfl, r2, q2, p2, k2⟩)
        rotate_left
        · exfalso
          obtain ⟨z1, s1, m1, _⟩ := Z1.out
          have := z1.hi.rooms z1.good s1 (m := 1) (fun t ht => absurd ht List.not_mem_nil)
          rw [m1, show ([] : List HT).length = 0 from rfl] at this
          have := HSA.out
          omega
        replace z2 := z2.up (show 2 + (([] : List UInt8).length + 30) ≤ 4000 from by have := HSA.out; omega)
        obtain ⟨z1, s1, m1, k1⟩ := Z1.out
        have g1 := get_any z2 (List.mem_cons_self .. : t1 ∈ [t1]) (by rw [hs1]; have := HSA.out; omega)
        rw [hs1] at g1
        have G1 := Lib.hid g1
        have K2 := Lib.hid (And.intro (r2.shut s1) (And.intro (r2.most.trans m1) (And.intro (k1.trans (k2.mono (fun j hj => .inl hj))) hs1)))
        have Z2 := Lib.hid z2
        clear H1 Z1 z1 s1 m1 k1 r2 k2 g1 z2 hs1
        go_wp2_with fail
        refine G1.out.mono ?_
        rintro e w4 ⟨rfl, p4, k4⟩
        have z4 := (Z2.out.step p4 k4).up (show 4000 + (([] : List UInt8).length + 20) ≤ 8000 from by have := HSA.out; omega)
        obtain ⟨s2, m2, k2, hs1⟩ := K2.out
        have HST := Lib.hid (hset_any (s := sb) z4 (by rw [hs1]; have := HSA.out; have := HSB.out; omega) (by have := HSB.out; omega))
        have K4 := Lib.hid (And.intro s2 (And.intro m2 (And.intro (k2.trans (k4.mono (fun j hj => .inl hj))) hs1)))
        have Z4 := Lib.hid z4
        clear G1 Z2 K2 p4 k4 z4 s2 m2 k2 hs1
        go_wp2_with fail
        refine HST.out.mono ?_
        rintro e w5 (⟨u, A5, pg5, rp5, L5, rfl, hu, z5, r5, k5⟩ | ⟨B1, B, pg5, rp5, L5, rfl, hi5, r5, _, q5, p5, k5⟩)
        rotate_left
        · exfalso
          obtain ⟨s2, m2, _, hs1⟩ := K4.out
          have := hi5.rooms (r5.good Z4.out.good) (r5.shut s2) (m := 1) (fun t ht => absurd ht List.not_mem_nil)
          rw [r5.most, m2, show ([] : List HT).length = 0 from rfl] at this
          have := HSB.out
          omega
        obtain ⟨s2, m2, k4, hs1⟩ := K4.out
        rw [hs1] at z5
        replace z5 := z5.up (show 8000 + (([] : List UInt8).length + (sb : List UInt8).length + 100) ≤ 16000 from by have := HSA.out; have := HSB.out; omega)
        have g2 := get_any z5 (List.mem_cons_self .. : u ∈ [u]) (by rw [hu]; have := HSB.out; omega)
        rw [hu] at g2
        have G2 := Lib.hid g2
        have K5 := Lib.hid (k4.trans (k5.mono (fun j hj => .inl hj)))
        clear HST K4 Z4 s2 m2 k4 hs1 z5 r5 k5 g2 hu
        generalize (idOf u : Nat) = ui at *
        go_wp2_with fail
        refine G2.out.mono ?_
        rintro e w6 ⟨rfl, p6, k6⟩
        have kk := K5.out.trans (k6.mono (fun j hj => .inl hj))
        have HA := Lib.hid (hawake_any w6 (tab_kept ht kk) (fun j => j < W.heap.size) (fun j hj => Nat.lt_of_lt_of_le hj kk.size))
        have K6 := Lib.hid kk
        clear G2 K5 p6 k6 kk
        go_wp2_with fail
        refine HA.out.mono ?_
        rintro e w7 ⟨rfl, k7⟩
        have K7 := Lib.hid (K6.out.trans k7)
        have b8 : Below w7.heap.size w7 (w7.alloc (.cells #[.int .u64 ui, .string (str [])] 37)) := (Below.refl _ _).alloc (Nat.le_refl _) _
        have HF := Lib.hid (find_one (Box.new w7 #[.int .u64 ui, .string (str [])] 37))
        have K8 := Lib.hid (K7.out.trans (Kept.of_below b8 (fun j (hj : j < W.heap.size) => Nat.lt_of_lt_of_le hj K7.out.size)))
        clear HA K6 k7 b8
        go_wp2_with fail
        refine HF.out.mono ?_
        rintro e w9 ⟨rfl, b9⟩
        have K9 := Lib.hid (K8.out.trans (Kept.of_below b9 (fun j (hj : j < W.heap.size) => Nat.lt_of_lt_of_le hj K8.out.size)))
        clear HF K8 K7 b9
        go_wp2
        go_ret
        exact ⟨rfl, K9.out⟩
    · by_cases hm : m = 0
      · have hnb : (n == 0) = false := by simp; omega
        subst hm
        have HSA : Hid ((sa : List UInt8).length ≤ 3000) := by show _ ≤ _; exact HL1.out
        have HSB : Hid (([] : List UInt8).length ≤ 3000) := by show _ ≤ _; decide
        go_enter Tryd.func3, Tryd.ntmps3
        go_wp2_with fail
        refine HM.out.mono ?_
        rintro e w1 ⟨P, D, T, A, rfl, z1, s1, m1, hT, k1⟩
        have Z1 := Lib.hid (And.intro z1 (And.intro s1 (And.intro m1 k1)))
        clear HM z1 s1 m1 k1
        go_wp2_with fail
        refine (HG1.out _).mono ?_
        rintro e w2 ⟨rfl, hw⟩
        subst hw
        go_wp2_with fail
        refine (HG2.out _).mono ?_
        rintro e w2 ⟨rfl, hw⟩
        subst hw
        have H1 := Lib.hid (hput_any (s := sa) Z1.out.1 (by have := HSA.out; omega) (by have := HSA.out; omega) (by show 0 < _; omega))
        go_wp2_with fail
        refine H1.out.mono ?_
        rintro e w3 (⟨t1, A2, pg2, rp2, L2, rfl, hs1, z2, r2, k2⟩ | ⟨B, rfl, r2, q2, p2, k2⟩)
        rotate_left
        · exfalso
          obtain ⟨z1, s1, m1, _⟩ := Z1.out
          have := z1.hi.rooms z1.good s1 (m := 1) (fun t ht => absurd ht List.not_mem_nil)
          rw [m1, show ([] : List HT).length = 0 from rfl] at this
          have := HSA.out
          omega
        replace z2 := z2.up (show 2 + ((sa : List UInt8).length + 30) ≤ 4000 from by have := HSA.out; omega)
        obtain ⟨z1, s1, m1, k1⟩ := Z1.out
        have g1 := get_any z2 (List.mem_cons_self .. : t1 ∈ [t1]) (by rw [hs1]; have := HSA.out; omega)
        rw [hs1] at g1
        have G1 := Lib.hid g1
        have K2 := Lib.hid (And.intro (r2.shut s1) (And.intro (r2.most.trans m1) (And.intro (k1.trans (k2.mono (fun j hj => .inl hj))) hs1)))
        have Z2 := Lib.hid z2
        clear H1 Z1 z1 s1 m1 k1 r2 k2 g1 z2 hs1
        go_wp2_with fail
        refine G1.out.mono ?_
        rintro e w4 ⟨rfl, p4, k4⟩
        have z4 := (Z2.out.step p4 k4).up (show 4000 + ((sa : List UInt8).length + 20) ≤ 8000 from by have := HSA.out; omega)
        obtain ⟨s2, m2, k2, hs1⟩ := K2.out
        have HST := Lib.hid (hset_any (s := []) z4 (by rw [hs1]; have := HSA.out; have := HSB.out; omega) (by have := HSB.out; omega))
        have K4 := Lib.hid (And.intro s2 (And.intro m2 (And.intro (k2.trans (k4.mono (fun j hj => .inl hj))) hs1)))
        have Z4 := Lib.hid z4
        clear G1 Z2 K2 p4 k4 z4 s2 m2 k2 hs1
        go_wp2_with fail
        refine HST.out.mono ?_
        rintro e w5 (⟨u, A5, pg5, rp5, L5, rfl, hu, z5, r5, k5⟩ | ⟨B1, B, pg5, rp5, L5, rfl, hi5, r5, _, q5, p5, k5⟩)
        rotate_left
        · exfalso
          obtain ⟨s2, m2, _, hs1⟩ := K4.out
          have := hi5.rooms (r5.good Z4.out.good) (r5.shut s2) (m := 1) (fun t ht => absurd ht List.not_mem_nil)
          rw [r5.most, m2, show ([] : List HT).length = 0 from rfl] at this
          have := HSB.out
          omega
        obtain ⟨s2, m2, k4, hs1⟩ := K4.out
        rw [hs1] at z5
        replace z5 := z5.up (show 8000 + ((sa : List UInt8).length + ([] : List UInt8).length + 100) ≤ 16000 from by have := HSA.out; have := HSB.out; omega)
        have g2 := get_any z5 (List.mem_cons_self .. : u ∈ [u]) (by rw [hu]; have := HSB.out; omega)
        rw [hu] at g2
        have G2 := Lib.hid g2
        have K5 := Lib.hid (k4.trans (k5.mono (fun j hj => .inl hj)))
        clear HST K4 Z4 s2 m2 k4 hs1 z5 r5 k5 g2 hu
        generalize (idOf u : Nat) = ui at *
        go_wp2_with fail
        refine G2.out.mono ?_
        rintro e w6 ⟨rfl, p6, k6⟩
        have kk := K5.out.trans (k6.mono (fun j hj => .inl hj))
        have HA := Lib.hid (hawake_any w6 (tab_kept ht kk) (fun j => j < W.heap.size) (fun j hj => Nat.lt_of_lt_of_le hj kk.size))
        have K6 := Lib.hid kk
        clear G2 K5 p6 k6 kk
        go_wp2_with fail
        refine HA.out.mono ?_
        rintro e w7 ⟨rfl, k7⟩
        have K7 := Lib.hid (K6.out.trans k7)
        have b8 : Below w7.heap.size w7 (w7.alloc (.cells #[.int .u64 ui, .string (str [])] 37)) := (Below.refl _ _).alloc (Nat.le_refl _) _
        have HF := Lib.hid (find_one (Box.new w7 #[.int .u64 ui, .string (str [])] 37))
        have K8 := Lib.hid (K7.out.trans (Kept.of_below b8 (fun j (hj : j < W.heap.size) => Nat.lt_of_lt_of_le hj K7.out.size)))
        clear HA K6 k7 b8
        go_wp2_with fail
        refine HF.out.mono ?_
        rintro e w9 ⟨rfl, b9⟩
        have K9 := Lib.hid (K8.out.trans (Kept.of_below b9 (fun j (hj : j < W.heap.size) => Nat.lt_of_lt_of_le hj K8.out.size)))
        clear HF K8 K7 b9
        go_wp2
        go_ret
        exact ⟨rfl, K9.out⟩
      · have hnb : (n == 0) = false := by simp; omega
        have hmb : (m == 0) = false := by simp; omega
        have HSA : Hid ((sa : List UInt8).length ≤ 3000) := by show _ ≤ _; exact HL1.out
        have HSB : Hid ((sb : List UInt8).length ≤ 3000) := by show _ ≤ _; exact HL2.out
        go_enter Tryd.func3, Tryd.ntmps3
        go_wp2_with fail
        refine HM.out.mono ?_
        rintro e w1 ⟨P, D, T, A, rfl, z1, s1, m1, hT, k1⟩
        have Z1 := Lib.hid (And.intro z1 (And.intro s1 (And.intro m1 k1)))
        clear HM z1 s1 m1 k1
        go_wp2_with fail
        refine (HG1.out _).mono ?_
        rintro e w2 ⟨rfl, hw⟩
        subst hw
        go_wp2_with fail
        refine (HG2.out _).mono ?_
        rintro e w2 ⟨rfl, hw⟩
        subst hw
        have H1 := Lib.hid (hput_any (s := sa) Z1.out.1 (by have := HSA.out; omega) (by have := HSA.out; omega) (by show 0 < _; omega))
        go_wp2_with fail
        refine H1.out.mono ?_
        rintro e w3 (⟨t1, A2, pg2, rp2, L2, rfl, hs1, z2, r2, k2⟩ | ⟨B, rfl, r2, q2, p2, k2⟩)
        rotate_left
        · exfalso
          obtain ⟨z1, s1, m1, _⟩ := Z1.out
          have := z1.hi.rooms z1.good s1 (m := 1) (fun t ht => absurd ht List.not_mem_nil)
          rw [m1, show ([] : List HT).length = 0 from rfl] at this
          have := HSA.out
          omega
        replace z2 := z2.up (show 2 + ((sa : List UInt8).length + 30) ≤ 4000 from by have := HSA.out; omega)
        obtain ⟨z1, s1, m1, k1⟩ := Z1.out
        have g1 := get_any z2 (List.mem_cons_self .. : t1 ∈ [t1]) (by rw [hs1]; have := HSA.out; omega)
        rw [hs1] at g1
        have G1 := Lib.hid g1
        have K2 := Lib.hid (And.intro (r2.shut s1) (And.intro (r2.most.trans m1) (And.intro (k1.trans (k2.mono (fun j hj => .inl hj))) hs1)))
        have Z2 := Lib.hid z2
        clear H1 Z1 z1 s1 m1 k1 r2 k2 g1 z2 hs1
        go_wp2_with fail
        refine G1.out.mono ?_
        rintro e w4 ⟨rfl, p4, k4⟩
        have z4 := (Z2.out.step p4 k4).up (show 4000 + ((sa : List UInt8).length + 20) ≤ 8000 from by have := HSA.out; omega)
        obtain ⟨s2, m2, k2, hs1⟩ := K2.out
        have HST := Lib.hid (hset_any (s := sb) z4 (by rw [hs1]; have := HSA.out; have := HSB.out; omega) (by have := HSB.out; omega))
        have K4 := Lib.hid (And.intro s2 (And.intro m2 (And.intro (k2.trans (k4.mono (fun j hj => .inl hj))) hs1)))
        have Z4 := Lib.hid z4
        clear G1 Z2 K2 p4 k4 z4 s2 m2 k2 hs1
        go_wp2_with fail
        refine HST.out.mono ?_
        rintro e w5 (⟨u, A5, pg5, rp5, L5, rfl, hu, z5, r5, k5⟩ | ⟨B1, B, pg5, rp5, L5, rfl, hi5, r5, _, q5, p5, k5⟩)
        rotate_left
        · exfalso
          obtain ⟨s2, m2, _, hs1⟩ := K4.out
          have := hi5.rooms (r5.good Z4.out.good) (r5.shut s2) (m := 1) (fun t ht => absurd ht List.not_mem_nil)
          rw [r5.most, m2, show ([] : List HT).length = 0 from rfl] at this
          have := HSB.out
          omega
        obtain ⟨s2, m2, k4, hs1⟩ := K4.out
        rw [hs1] at z5
        replace z5 := z5.up (show 8000 + ((sa : List UInt8).length + (sb : List UInt8).length + 100) ≤ 16000 from by have := HSA.out; have := HSB.out; omega)
        have g2 := get_any z5 (List.mem_cons_self .. : u ∈ [u]) (by rw [hu]; have := HSB.out; omega)
        rw [hu] at g2
        have G2 := Lib.hid g2
        have K5 := Lib.hid (k4.trans (k5.mono (fun j hj => .inl hj)))
        clear HST K4 Z4 s2 m2 k4 hs1 z5 r5 k5 g2 hu
        generalize (idOf u : Nat) = ui at *
        go_wp2_with fail
        refine G2.out.mono ?_
        rintro e w6 ⟨rfl, p6, k6⟩
        have kk := K5.out.trans (k6.mono (fun j hj => .inl hj))
        have HA := Lib.hid (hawake_any w6 (tab_kept ht kk) (fun j => j < W.heap.size) (fun j hj => Nat.lt_of_lt_of_le hj kk.size))
        have K6 := Lib.hid kk
        clear G2 K5 p6 k6 kk
        go_wp2_with fail
        refine HA.out.mono ?_
        rintro e w7 ⟨rfl, k7⟩
        have K7 := Lib.hid (K6.out.trans k7)
        have b8 : Below w7.heap.size w7 (w7.alloc (.cells #[.int .u64 ui, .string (str [])] 37)) := (Below.refl _ _).alloc (Nat.le_refl _) _
        have HF := Lib.hid (find_one (Box.new w7 #[.int .u64 ui, .string (str [])] 37))
        have K8 := Lib.hid (K7.out.trans (Kept.of_below b8 (fun j (hj : j < W.heap.size) => Nat.lt_of_lt_of_le hj K7.out.size)))
        clear HA K6 k7 b8
        go_wp2_with fail
        refine HF.out.mono ?_
        rintro e w9 ⟨rfl, b9⟩
        have K9 := Lib.hid (K8.out.trans (Kept.of_below b9 (fun j (hj : j < W.heap.size) => Nat.lt_of_lt_of_le hj K8.out.size)))
        clear HF K8 K7 b9
        go_wp2
        go_ret
        exact ⟨rfl, K9.out⟩
  · have HK := Lib.hid hin
    go_enter Tryd.func3, Tryd.ntmps3
    have hin := HK.out
    by_cases j1 : n < 0
    · go_wp2_with fail
      refine HAW.out.mono ?_
      rintro e w1 ⟨rfl, k1⟩
      go_wp2
      go_ret
      exact ⟨rfl, k1⟩
    · by_cases j2 : 3000 < n
      · go_wp2_with fail
        refine HAW.out.mono ?_
        rintro e w1 ⟨rfl, k1⟩
        go_wp2
        go_ret
        exact ⟨rfl, k1⟩
      · by_cases j3 : m < 0
        · go_wp2_with fail
          refine HAW.out.mono ?_
          rintro e w1 ⟨rfl, k1⟩
          go_wp2
          go_ret
          exact ⟨rfl, k1⟩
        · have j4 : 3000 < m := by omega
          go_wp2_with fail
          refine HAW.out.mono ?_
          rintro e w1 ⟨rfl, k1⟩
          go_wp2
          go_ret
          exact ⟨rfl, k1⟩
theorem hl_walk (W : World) (ht : TabAt W) (n : Int) (_ : (Lit.int .i64 n).wf = true) (m : Int) (_ : (Lit.int .i64 m).wf = true) :
    Calls Tryd.prog 3 #[.int .i64 n, .int .i64 m] W fun e w' => e = .returned (.bool true) ∧ Below W.heap.size W w' :=
  (hl_any n m W ht).mono fun _ _ ⟨he, hk⟩ => ⟨he, hk.below (fun _ h => h)⟩
end Go.Proofs.YtjfkdfffolkblaaDoor
