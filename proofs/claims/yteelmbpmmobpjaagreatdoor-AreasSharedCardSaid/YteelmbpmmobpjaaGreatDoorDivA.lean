/-
  Layer deci: a number of 128 bits by one of at most 32 (math/bits.Div64).
-/
import Derived.Test.YteelmbpmmobpjaaGreatDoorDecC
import Derived.Lib.ItoaNum
import Derived.Laws.MathBits
import Derived.Deep.CutBlock
import Derived.Deep.DeepCutAuto
namespace Go.Proofs.YteelmbpmmobpjaaGreatDoor
open Go.RowKit
open DE (mostN goodB madeN fitsN)
namespace DE
theorem div_gen (T hi lo y P' Q : Nat) (hP : P' * Q = T) (hP0 : 0 < P')
   (D : Nat) (hD : D = y * P') (hy : 0 < y) (u : Nat) (hu : u = hi * (T * P') + lo / Q) (u1 : Nat) (hu1 : u1 = (lo % Q) * P') :
   (hi * (T * T) + lo) / y = u / D * T + ((u % D) * T + u1) / D ∧ (hi * (T * T) + lo) % y = ((u % D) * T + u1) % D / P' := by
  have hD0 : 0 < D := by subst hD; exact Nat.mul_pos hy hP0
  have hM : u * T + u1 = (hi * (T * T) + lo) * P' := by
    subst hu hu1
    have h1 := Nat.div_add_mod lo Q
    have h2 : lo * P' = (lo / Q) * T + (lo % Q) * P' := by
      calc lo * P' = (Q * (lo / Q) + lo % Q) * P' := by rw [h1]
        _ = (lo / Q) * (P' * Q) + (lo % Q) * P' := by rw [Nat.add_mul]; congr 1; rw [Nat.mul_comm Q, Nat.mul_assoc, Nat.mul_comm Q]
        _ = _ := by rw [hP]
    rw [Nat.add_mul, Nat.add_mul, h2]
    have h3 : hi * (T * P') * T = hi * (T * T) * P' := by
      rw [← Nat.mul_assoc, ← Nat.mul_assoc, Nat.mul_right_comm (hi * T)]
    rw [h3]; omega
  have hq : (u * T + u1) / D = (hi * (T * T) + lo) / y := by rw [hM, hD, Nat.mul_div_mul_right _ _ hP0]
  have hr : (u * T + u1) % D = (hi * (T * T) + lo) % y * P' := by rw [hM, hD, Nat.mul_mod_mul_right]
  have hs : u * T + u1 = (u % D * T + u1) + D * (u / D * T) := by
    have := Nat.div_add_mod u D
    rw [← Nat.mul_assoc]
    have h4 : u * T = (D * (u / D)) * T + u % D * T := by rw [← Nat.add_mul, this]
    rw [h4]; omega
  constructor
  · rw [← hq, hs, Nat.add_mul_div_left _ _ hD0]; exact Nat.add_comm _ _
  · rw [hs, Nat.add_mul_mod_self_left] at hr
    rw [hr, Nat.mul_div_cancel _ hP0]

/-- what the long division has on its way -/
theorem div64_facts (hi lo y s : Nat) (hlo : lo < 18446744073709551616) (hh : hi < y) (hs : 32 ≤ s) (hs2 : s < 64) (hyP : y * 2 ^ s < 18446744073709551616) :
    ∃ Y D u a u1 v : Nat, IntKind.u64.wrap ((y : Int) * 2 ^ s) = (Y : Int) ∧ (Y : Int) / 4294967296 = (D : Int) ∧ 0 < D ∧ bits .and .u64 (Y : Int) 4294967295 = 0 ∧
      bits .or .u64 (IntKind.u64.wrap ((hi : Int) * 2 ^ s)) ((lo : Int) / 2 ^ (64 - s)) = (u : Int) ∧ IntKind.u64.wrap ((lo : Int) * 2 ^ s) = (a : Int) ∧ (a : Int) / 4294967296 = (u1 : Int) ∧ bits .and .u64 (a : Int) 4294967295 = 0 ∧
      Y = D * 4294967296 ∧ Y < 18446744073709551616 ∧ u < Y ∧ u1 < 4294967296 ∧ D = y * 2 ^ (s - 32) ∧
      (hi * 18446744073709551616 + lo) / y = u / D * 4294967296 + v / D ∧ (hi * 18446744073709551616 + lo) % y = v % D / 2 ^ (s - 32) ∧ v = (u % D) * 4294967296 + u1 := by
  have hPQ : 2 ^ s * 2 ^ (64 - s) = 18446744073709551616 := by rw [← Nat.pow_add, show s + (64 - s) = 64 by omega]
  have hPQ' : 2 ^ (s - 32) * 2 ^ (64 - s) = 4294967296 := by rw [← Nat.pow_add, show s - 32 + (64 - s) = 32 by omega]
  have hP' : 2 ^ s = 4294967296 * 2 ^ (s - 32) := by
    rw [show (4294967296 : Nat) = 2 ^ 32 from rfl, ← Nat.pow_add, show 32 + (s - 32) = s by omega]
  have hP0 : 0 < 2 ^ (s - 32) := Nat.two_pow_pos _
  have hQ0 : 0 < 2 ^ (64 - s) := Nat.two_pow_pos _
  have hg := div_gen 4294967296 hi lo y (2 ^ (s - 32)) (2 ^ (64 - s)) hPQ' hP0 (y * 2 ^ (s - 32)) rfl (by omega) (hi * 2 ^ s + lo / 2 ^ (64 - s)) (by rw [hP']) ((lo % 2 ^ (64 - s)) * 2 ^ (s - 32)) rfl
  have hT : (4294967296 : Nat) * 4294967296 = 18446744073709551616 := rfl
  rw [hT] at hg
  have hc : ∀ n : Nat, ((2 : Int) ^ n) = ((2 ^ n : Nat) : Int) := fun n => by rw [Int.natCast_pow]; rfl
  have hhP : hi * 2 ^ s + 2 ^ s ≤ y * 2 ^ s := by rw [← Nat.succ_mul]; exact Nat.mul_le_mul_right _ hh
  have hlq : lo / 2 ^ (64 - s) < 2 ^ s := by rw [Nat.div_lt_iff_lt_mul hQ0, hPQ]; exact hlo
  have hmod : lo % 2 ^ (64 - s) < 2 ^ (64 - s) := Nat.mod_lt _ hQ0
  have hu1 : lo % 2 ^ (64 - s) * 2 ^ (s - 32) < 4294967296 := by rw [← hPQ', Nat.mul_comm (2 ^ (s - 32))]; exact Nat.mul_lt_mul_of_pos_right hmod hP0
  have ha : lo % 2 ^ (64 - s) * 2 ^ s = lo % 2 ^ (64 - s) * 2 ^ (s - 32) * 4294967296 := by rw [hP', Nat.mul_comm 4294967296, Nat.mul_assoc]
  have hY : y * 2 ^ s = y * 2 ^ (s - 32) * 4294967296 := by rw [hP', Nat.mul_comm 4294967296, Nat.mul_assoc]
  have hlo2 : lo * 2 ^ s = lo / 2 ^ (64 - s) * 18446744073709551616 + lo % 2 ^ (64 - s) * 2 ^ s := by
    have h1 := Nat.div_add_mod lo (2 ^ (64 - s))
    calc lo * 2 ^ s = (2 ^ (64 - s) * (lo / 2 ^ (64 - s)) + lo % 2 ^ (64 - s)) * 2 ^ s := by rw [h1]
      _ = _ := by rw [Nat.add_mul, ← hPQ, Nat.mul_comm (2 ^ (64 - s)), Nat.mul_assoc, Nat.mul_comm (2 ^ (64 - s))]
  refine ⟨y * 2 ^ s, y * 2 ^ (s - 32), hi * 2 ^ s + lo / 2 ^ (64 - s), lo % 2 ^ (64 - s) * 2 ^ s, lo % 2 ^ (64 - s) * 2 ^ (s - 32), (hi * 2 ^ s + lo / 2 ^ (64 - s)) % (y * 2 ^ (s - 32)) * 4294967296 + lo % 2 ^ (64 - s) * 2 ^ (s - 32), ?_, ?_, Nat.mul_pos (by omega) hP0, ?_, ?_, ?_, ?_, ?_, hY, hyP, by omega, hu1, rfl, hg.1, hg.2, rfl⟩
  · rw [IntKind.wrap_u64, hc, ← Int.natCast_mul]; omega
  · rw [hY]; omega
  · rw [and_low32 _ (by omega) (by omega), hY]; omega
  · rw [IntKind.wrap_u64, hc, hc, ← Int.natCast_mul, ← Int.natCast_ediv]
    have : ((hi * 2 ^ s : Nat) : Int) % 18446744073709551616 = ((hi * 2 ^ s : Nat) : Int) := by omega
    rw [this, u64_or_nat _ _ (by omega) (by omega), Nat.mul_comm hi, Nat.two_pow_add_eq_or_of_lt hlq]
  · rw [IntKind.wrap_u64, hc, ← Int.natCast_mul, hlo2]; omega
  · rw [ha]; omega
  · rw [and_low32 _ (by omega) (by omega), ha]; omega
theorem e10core (u T M u1 x r1 z : Int) (h : u = x + r1) (hz : z = x * T) : ((u * T % M + u1) % M - z % M) % M = (r1 * T + u1) % M := by
  subst hz h
  rw [Int.emod_add_emod, ← Int.sub_emod, Int.add_mul]
  congr 1
  omega
theorem e10_at {u Y D q1 r1 u1 : Nat} (h2 : Y = D * 4294967296) (h3 : Y < 18446744073709551616) (h4 : u1 < 4294967296) (h5 : r1 < D) (h1 : D * q1 + r1 = u) :
    IntKind.u64.wrap (IntKind.u64.wrap (IntKind.u64.wrap ((u : Int) * 4294967296) + (u1 : Int)) - IntKind.u64.wrap ((q1 : Int) * (Y : Int))) = ((r1 * 4294967296 + u1 : Nat) : Int) := by
  have h6 : q1 * Y = D * q1 * 4294967296 := by rw [h2, ← Nat.mul_assoc, Nat.mul_comm q1]
  rw [IntKind.wrap_u64, IntKind.wrap_u64, IntKind.wrap_u64, IntKind.wrap_u64, e10core (u : Int) 4294967296 18446744073709551616 u1 ((D * q1 : Nat) : Int) r1 ((q1 : Int) * (Y : Int)) (by omega) (by rw [← Int.natCast_mul, h6]; omega)]
  have h7 : r1 * 4294967296 + u1 < 18446744073709551616 := by omega
  omega
theorem fin1 {q1 q2 : Nat} (h1 : q1 < 4294967296) (h2 : q2 < 4294967296) : IntKind.u64.wrap (IntKind.u64.wrap ((q1 : Int) * 4294967296) + (q2 : Int)) = ((q1 * 4294967296 + q2 : Nat) : Int) := by
  rw [IntKind.wrap_u64, IntKind.wrap_u64]
  omega
theorem fin2 {v Y D q2 r2 s : Nat} (h2 : Y = D * 4294967296) (h3 : Y < 18446744073709551616) (h5 : r2 < D) (h1 : D * q2 + r2 = v) (hs : 32 ≤ s) :
    IntKind.u64.wrap (IntKind.u64.wrap (IntKind.u64.wrap ((v : Int) * 4294967296)) - IntKind.u64.wrap ((q2 : Int) * (Y : Int))) / 2 ^ s = ((r2 / 2 ^ (s - 32) : Nat) : Int) := by
  have h6 : q2 * Y = D * q2 * 4294967296 := by rw [h2, ← Nat.mul_assoc, Nat.mul_comm q2]
  have h := e10core (v : Int) 4294967296 18446744073709551616 0 ((D * q2 : Nat) : Int) r2 ((q2 : Int) * (Y : Int)) (by omega) (by rw [← Int.natCast_mul, h6]; omega)
  rw [Int.add_zero, Int.add_zero] at h
  rw [IntKind.wrap_u64, IntKind.wrap_u64, IntKind.wrap_u64, IntKind.wrap_u64, h]
  have h7 : (r2 : Int) * 4294967296 % 18446744073709551616 = ((r2 * 4294967296 : Nat) : Int) := by omega
  have hc : ((2 : Int) ^ s) = ((2 ^ s : Nat) : Int) := by rw [Int.natCast_pow]; rfl
  have hP' : 2 ^ s = 2 ^ (s - 32) * 4294967296 := by
    rw [show (4294967296 : Nat) = 2 ^ 32 from rfl, ← Nat.pow_add, show s - 32 + 32 = s by omega]
  rw [h7, hc, ← Int.natCast_ediv, hP', Nat.mul_div_mul_right _ _ (by decide)]
end DE
theorem lz64_any {w : World} (y : Nat) (hy : y < 18446744073709551616) :
    Calls Tryz.prog 118 #[.int .u64 (y : Int)] w fun e w' => e = .returned (.int .i64 (64 - (Lib.bitLen y : Int))) ∧ w = w' := by
  refine (Calls.mono (Tryz.bits_LeadingZeros64 (y : Int) w (by omega) (by omega)) ?_)
  rintro e w' ⟨rfl, rfl⟩
  exact ⟨rfl, rfl⟩
set_option maxHeartbeats 2000000 in
set_option maxRecDepth 100000 in
theorem div64_high {w : World} (hi lo y s : Nat) (hlo : lo < 18446744073709551616) (h0 : 0 < hi) (hh : hi < y) (hlz : ∀ w, Calls Tryz.prog 118 #[.int .u64 (y : Int)] w fun e w' => e = .returned (.int .i64 (s : Int)) ∧ w = w') (hs : 32 ≤ s) (hs2 : s < 64) (hyP : y * 2 ^ s < 18446744073709551616) :
    Calls Tryz.prog 101 #[.int .u64 (hi : Int), .int .u64 (lo : Int), .int .u64 (y : Int)] w fun e w' => e = .returned (.tuple #[.int .u64 (((hi * 18446744073709551616 + lo) / y : Nat) : Int), .int .u64 (((hi * 18446744073709551616 + lo) % y : Nat) : Int)]) ∧ Below w.heap.size w w' := by
  have q5 : ¬ (y : Int) = 0 := by omega
  have q6 : ¬ (y : Int) ≤ (hi : Int) := by omega
  have q7 : ¬ (hi : Int) = 0 := by omega
  have HL := Lib.hid hlz
  clear hlz
  obtain ⟨Y, D, u, a, u1, v, e1, e2, hD0, e3, e4, e5, e6, e7, hYD, hYb, huY, hu1, hD, g1, g2, hv⟩ := DE.div64_facts hi lo y s hlo hh hs hs2 hyP
  rw [g1, g2]
  have hq : u / D < 4294967296 := by rw [Nat.div_lt_iff_lt_mul hD0]; omega
  have hr : u % D < D := Nat.mod_lt _ hD0
  have hvD : v < Y := by omega
  have HV := Lib.hid (And.intro hvD hv)
  clear hvD hv
  have HE := Lib.hid (And.intro e1 (And.intro e2 (And.intro e3 (And.intro e4 (And.intro e5 (And.intro e6 e7))))))
  have hd : ¬ (D : Int) = 0 := by omega
  clear e1 e2 e3 e4 e5 e6 e7 g1 g2 hyP
  generalize he : Ending.returned (.tuple #[.int .u64 ((u / D * 4294967296 + v / D : Nat) : Int), .int .u64 ((v % D / 2 ^ (s - 32) : Nat) : Int)]) = res
  have hE := Lib.hid he
  clear he
  have HF := Lib.hid (And.intro hYD (And.intro hYb (And.intro huY (And.intro hu1 (And.intro hD (And.intro hq hr))))))
  clear hYD hYb huY hu1 hD hq hr hlo
  go_enter Tryz.func101, Tryz.ntmps101
  go_upto_region 7 with (fail)
  go_upto_region 8 with (go_at_call 118; refine (HL.out _).mono ?_; rintro e w1 ⟨rfl, rfl⟩)
  go_upto_region 9 with (fail)
  simp only [HE.out.1]
  go_upto_region 10 with (fail)
  simp only [HE.out.2.1]
  go_upto_region 14 with (fail)
  simp only [HE.out.2.2.1, HE.out.2.2.2.1, HE.out.2.2.2.2.1]
  go_upto_region 16 with (fail)
  simp only [HE.out.2.2.2.2.2.1, HE.out.2.2.2.2.2.2]
  go_upto_region 17 with (fail)
  have e8 : IntKind.u64.wrap ((u : Int) / (D : Int)) = ((u / D : Nat) : Int) := by
    rw [IntKind.wrap_u64, ← Int.natCast_ediv]
    have h1 := HF.out.2.2.2.2.2.1
    generalize u / D = x at *
    omega
  have e9 : IntKind.u64.wrap ((u : Int) - IntKind.u64.wrap (((u / D : Nat) : Int) * (D : Int))) = ((u % D : Nat) : Int) := by
    have h1 := Nat.div_add_mod u D
    rw [← Int.natCast_mul, Nat.mul_comm, IntKind.wrap_u64, IntKind.wrap_u64]
    have h2 := HF.out.2.1
    have h3 := HF.out.2.2.1
    generalize D * (u / D) = x at *
    generalize u % D = r at *
    omega
  simp only [e8, e9]
  have HF2 := Lib.hid (And.intro e8 e9)
  clear e8 e9
  have hq1 : ¬ 4294967296 ≤ ((u / D : Nat) : Int) := by have := HF.out.2.2.2.2.2.1; omega
  generalize hQ : u / D = q1 at *
  generalize hR : u % D = r1 at *
  have hw : ∀ x : Int, ¬ IntKind.u64.wrap x < 0 := fun x => by rw [IntKind.wrap_u64]; omega
  go_loop [15, 16] (fun av bv => av = .int .u64 (q1 : Int) ∧ bv = .int .u64 (r1 : Int)) (fun _ _ => 0)
  case atStart => exact ⟨rfl, rfl⟩
  case round =>
    obtain ⟨rfl, rfl⟩ := hrel
    go_upto_region 21 with (fail)
    go_upto_region 22 with (fail)
    have e10 : IntKind.u64.wrap (IntKind.u64.wrap (IntKind.u64.wrap ((u : Int) * 4294967296) + (u1 : Int)) - IntKind.u64.wrap ((q1 : Int) * (Y : Int))) = ((r1 * 4294967296 + u1 : Nat) : Int) := by
      have h1 := Nat.div_add_mod u D
      rw [hQ, hR] at h1
      exact DE.e10_at HF.out.1 HF.out.2.1 HF.out.2.2.2.1 HF.out.2.2.2.2.2.2 h1
    rw [← HV.out.2] at e10
    simp only [e10]
    clear e10 hq1 hQ hR hw
    go_upto_region 24 with (fail)
    have hv1 : v / D < 4294967296 := by
      have h1 := HV.out.1
      have h2 := HF.out.1
      rw [Nat.div_lt_iff_lt_mul hD0]
      omega
    have e11 : IntKind.u64.wrap ((v : Int) / (D : Int)) = ((v / D : Nat) : Int) := by
      rw [IntKind.wrap_u64, ← Int.natCast_ediv]
      generalize v / D = x at *
      omega
    have e12 : IntKind.u64.wrap ((v : Int) - IntKind.u64.wrap (((v / D : Nat) : Int) * (D : Int))) = ((v % D : Nat) : Int) := by
      have h1 := Nat.div_add_mod v D
      rw [← Int.natCast_mul, Nat.mul_comm, IntKind.wrap_u64, IntKind.wrap_u64]
      have h2 := HF.out.2.1
      have h3 := HV.out.1
      generalize D * (v / D) = x at *
      generalize v % D = r at *
      omega
    simp only [e11, e12]
    clear e11 e12
    have hv2 : ¬ 4294967296 ≤ ((v / D : Nat) : Int) := by omega
    generalize hQ2 : v / D = q2 at *
    generalize hR2 : v % D = r2 at *
    go_loop [18, 16] (fun av bv => av = .int .u64 (q2 : Int) ∧ bv = .int .u64 (r2 : Int)) (fun _ _ => 0)
    case atStart => exact ⟨rfl, rfl⟩
    case round =>
      obtain ⟨rfl, rfl⟩ := hrel
      go_wp2_with fail
      go_ret2
      refine ⟨?_, Below.refl _ _⟩
      have h1 := Nat.div_add_mod v D
      rw [hQ2, hR2] at h1
      have hq1 := HF.out.2.2.2.2.2.1
      have h5 : r2 < D := by rw [← hR2]; exact Nat.mod_lt _ hD0
      rw [DE.fin1 hq1 hv1, DE.fin2 HF.out.1 HF.out.2.1 h5 h1 hs, ← hE.out]
      rfl
set_option maxRecDepth 100000 in
theorem div64_low {w : World} (lo y : Nat) (hlo : lo < 18446744073709551616) (hy : y < 4294967296) (h0 : 0 < y) :
    Calls Tryz.prog 101 #[.int .u64 0, .int .u64 (lo : Int), .int .u64 (y : Int)] w fun e w' => e = .returned (.tuple #[.int .u64 ((lo / y : Nat) : Int), .int .u64 ((lo % y : Nat) : Int)]) ∧ Below w.heap.size w w' := by
  have q5 : ¬ (y : Int) = 0 := by omega
  have q6 : ¬ (y : Int) ≤ 0 := by omega
  have hw : IntKind.u64.wrap ((lo : Int) / (y : Int)) = ((lo / y : Nat) : Int) := by
    have h1 : lo / y ≤ lo := Nat.div_le_self _ _
    rw [IntKind.wrap_u64, ← Int.natCast_ediv]
    generalize lo / y = x at *
    omega
  have hw2 : (lo : Int) % (y : Int) = ((lo % y : Nat) : Int) := (Int.natCast_emod _ _).symm
  have HW := Lib.hid (And.intro hw hw2)
  clear hw hw2
  generalize he : Ending.returned (.tuple #[.int .u64 ((lo / y : Nat) : Int), .int .u64 ((lo % y : Nat) : Int)]) = res
  have HE := Lib.hid he
  clear he
  go_enter Tryz.func101, Tryz.ntmps101
  go_upto_region 6 with (fail)
  go_region
  go_wp2
  go_ret2
  refine ⟨?_, UK.belowN (Below.refl _ _) 1⟩
  rw [HW.out.1, HW.out.2, ← HE.out]
  rfl
theorem DE.bitLen_spec (y : Nat) (h : y < 4294967296) (h0 : 0 < y) : 1 ≤ Lib.bitLen y ∧ Lib.bitLen y ≤ 32 ∧ y < 2 ^ Lib.bitLen y := by
  obtain ⟨a, _, c⟩ := Lib.bitLenAux_bounds 64 y (by omega) (by omega)
  exact ⟨a, Lib.bitLen_le y 32 (by omega) (by omega), c⟩
theorem div64_any {w : World} (n y : Nat) (hn : n / 18446744073709551616 < y) (hy : y < 4294967296) :
    Calls Tryz.prog 101 #[.int .u64 ((n / 18446744073709551616 : Nat) : Int), .int .u64 ((n % 18446744073709551616 : Nat) : Int), .int .u64 (y : Int)] w fun e w' => e = .returned (.tuple #[.int .u64 ((n / y : Nat) : Int), .int .u64 ((n % y : Nat) : Int)]) ∧ Below w.heap.size w w' := by
  have hn2 : n = n / 18446744073709551616 * 18446744073709551616 + n % 18446744073709551616 := by omega
  have hlo : n % 18446744073709551616 < 18446744073709551616 := Nat.mod_lt _ (by decide)
  have hy0 : 0 < y := by omega
  rw [show n / y = (n / 18446744073709551616 * 18446744073709551616 + n % 18446744073709551616) / y by rw [← hn2], show n % y = (n / 18446744073709551616 * 18446744073709551616 + n % 18446744073709551616) % y by rw [← hn2]]
  generalize n % 18446744073709551616 = lo at *
  generalize n / 18446744073709551616 = hi at *
  clear hn2
  rcases Nat.eq_zero_or_pos hi with rfl | h0
  · rw [Nat.zero_mul, Nat.zero_add]
    exact div64_low lo y hlo hy hy0
  · obtain ⟨b1, b2, b3⟩ := DE.bitLen_spec y hy hy0
    refine div64_high hi lo y (64 - Lib.bitLen y) hlo h0 hn (fun w => ?_) (by omega) (by omega) ?_
    · have := lz64_any (w := w) y (by omega)
      rwa [show (64 : Int) - (Lib.bitLen y : Int) = ((64 - Lib.bitLen y : Nat) : Int) by omega] at this
    · have h1 : 2 ^ Lib.bitLen y * 2 ^ (64 - Lib.bitLen y) = 18446744073709551616 := by rw [← Nat.pow_add, show Lib.bitLen y + (64 - Lib.bitLen y) = 64 by omega]
      rw [← h1]
      exact Nat.mul_lt_mul_of_pos_right b3 (Nat.two_pow_pos _)
end Go.Proofs.YteelmbpmmobpjaaGreatDoor
