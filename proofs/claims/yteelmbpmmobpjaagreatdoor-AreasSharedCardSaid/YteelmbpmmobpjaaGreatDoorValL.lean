/-
  Layer areas: sums and means.
-/
import Derived.Test.YteelmbpmmobpjaaGreatDoorValC
namespace Go.Proofs.YteelmbpmmobpjaaGreatDoor
open Go.RowKit
open UK (str BytesAt nth Only Row Box)
/-- a sum, on from s; none: it is too great -/
def sumO : List Int → Int → Option Int
  | [], s => some s
  | x :: r, s => if (s + x).natAbs ≤ DE.mostN then sumO r (s + x) else none
theorem sumO_app (l m : List Int) (s u : Int) (h : sumO l s = some u) : sumO (l ++ m) s = sumO m u := by
  induction l generalizing s with
  | nil => simp only [sumO, Option.some.injEq] at h; subst h; rfl
  | cons x r ih =>
    unfold sumO at h
    split at h
    · rename_i hx
      show sumO (x :: (r ++ m)) s = _
      have e : sumO (x :: (r ++ m)) s = sumO (r ++ m) (s + x) := by simp [sumO, hx]
      rw [e]
      exact ih _ h
    · cases h
theorem sumO_good (l : List Int) (s u : Int) (hs : DE.Good s) (h : sumO l s = some u) : DE.Good u := by
  induction l generalizing s with
  | nil => simp only [sumO, Option.some.injEq] at h; subst h; exact hs
  | cons x r ih =>
    unfold sumO at h
    split at h
    · rename_i hx
      refine ih _ ?_ h
      unfold DE.mostN at hx
      unfold DE.Good
      omega
    · cases h
theorem add_yes {w : World} (a b : Int) (ha : DE.Good a) (hb : DE.Good b) (h : (a + b).natAbs ≤ DE.mostN) :
    Calls Tryz.prog 54 #[.int .i64 a, .int .i64 b] w fun e w' => e = .returned (.tuple #[.int .i64 (a + b), .bool true]) ∧ w = w' := by
  have h1 := add_any (w := w) a b ha hb
  have e1 : DE.addN a b = a + b := by unfold DE.addN; rw [if_pos h]
  have e2 : DE.addB a b = true := by unfold DE.addB DE.fitsN; simpa using h
  rwa [e1, e2] at h1
theorem add_no {w : World} (a b : Int) (ha : DE.Good a) (hb : DE.Good b) (h : ¬ (a + b).natAbs ≤ DE.mostN) :
    Calls Tryz.prog 54 #[.int .i64 a, .int .i64 b] w fun e w' => e = .returned (.tuple #[.int .i64 0, .bool false]) ∧ w = w' := by
  have h1 := add_any (w := w) a b ha hb
  have e1 : DE.addN a b = 0 := by unfold DE.addN; rw [if_neg h]
  have e2 : DE.addB a b = false := by unfold DE.addB DE.fitsN; simpa using h
  rwa [e1, e2] at h1
def SumR (w : World) (o : Option Int) (e : Ending) (w' : World) : Prop := e = .returned (.tuple #[.int .i64 (o.getD 0), .bool o.isSome]) ∧ w = w'
set_option maxHeartbeats 1000000 in
set_option maxRecDepth 100000 in
theorem sum_any {w : World} {t : Value} {ds : List Int} (h : DSl w t ds) (hl : ds.length ≤ 100000000) (hg : ∀ d ∈ ds, DE.Good d) :
    Calls Tryz.prog 67 #[t] w (SumR w (sumO ds 0)) := by
  obtain ⟨ao, c, rfl, hc⟩ := h
  have HC := Lib.hid hc
  have HG := Lib.hid hg
  clear hc hg
  go_enter Tryz.func67, Tryz.ntmps67
  go_wp2
  go_loop [4, 5, 10] (fun sv bv iv => ∃ (k : Nat) (u : Int), k ≤ ds.length ∧ iv = .int .i64 k ∧ sv = .int .i64 u ∧ bv = .bool true ∧ Hid (sumO (ds.take k) 0 = some u)) (fun _ _ iv => ds.length - (intOf iv).toNat)
  case atStart => exact ⟨0, 0, Nat.zero_le _, rfl, rfl, rfl, rfl⟩
  case round =>
    obtain ⟨k, u, hk, rfl, rfl, rfl, HU⟩ := hrel
    by_cases hlt : k < ds.length
    · have hv : ds[k]? = some ds[k] := List.getElem?_eq_getElem hlt
      obtain ⟨g, o, rfl, hgl, hcv⟩ := HC.out k _ hv
      have hlti : (k : Int) < (ds.length : Int) := by omega
      have hgd := HG.out _ (List.getElem_mem hlt)
      have hgu : DE.Good u := sumO_good _ _ _ (by unfold DE.Good; omega) HU.out
      have hstep : ds.take (k + 1) = ds.take k ++ [ds[k]] := by rw [List.take_add_one, hv]; rfl
      have hfin : ds = ds.take k ++ ds[k] :: ds.drop (k + 1) := by
        have h0 := (List.take_append_drop k ds).symm
        rwa [List.drop_eq_getElem_cons hlt] at h0
      have HST := Lib.hid (And.intro hstep hfin)
      clear hv hstep hfin
      generalize ds[k] = d at *
      by_cases hf : (u + d).natAbs ≤ DE.mostN
      · have HA := Lib.hid (add_yes (w := w) u d hgu hgd hf)
        have HN : Hid (sumO (ds.take (k + 1)) 0 = some (u + d)) := by
          show _ = _
          rw [HST.out.1, sumO_app _ _ _ _ HU.out]
          simp [sumO, hf]
        clear hf hgu hgd
        go_wp2_with fail
        refine HA.out.mono ?_
        rintro e w2 ⟨rfl, rfl⟩
        go_wp2
        go_round
        case rel => exact ⟨k + 1, u + d, by omega, by go_num, rfl, rfl, HN.out⟩
        case measure => simp [intOf]; omega
      · have HA := Lib.hid (add_no (w := w) u d hgu hgd hf)
        have HN : Hid (sumO ds 0 = none) := by
          show _ = _
          rw [HST.out.2, sumO_app _ _ _ _ HU.out]
          simp [sumO, hf]
        clear hf hgu hgd
        go_wp2_with fail
        refine HA.out.mono ?_
        rintro e w2 ⟨rfl, rfl⟩
        go_wp2
        go_ret2
        refine ⟨?_, rfl⟩
        rw [HN.out]
        rfl
    · have hge : (ds.length : Int) ≤ (k : Int) := by omega
      have HN : Hid (sumO ds 0 = some u) := by
        have := HU.out
        rw [List.take_of_length_le (by omega)] at this
        exact this
      go_wp2
      go_ret2
      refine ⟨?_, rfl⟩
      rw [HN.out]
      rfl
/-- the mean, where the sum is not too great -/
theorem mean_of {w : World} {t : Value} {ds : List Int} (h : DSl w t ds) (h0 : 0 < ds.length) (hl : ds.length ≤ 100000000) (hg : ∀ d ∈ ds, DE.Good d) (s q : Int) (qb : Bool) (hs : sumO ds 0 = some s)
    (hd : ∀ w, Calls Tryz.prog 92 #[.int .i64 s, .int .i64 ((ds.length : Int) * 10000)] w fun e w' => e = .returned (.tuple #[.int .i64 q, .bool qb]) ∧ Below w.heap.size w w') :
    Calls Tryz.prog 68 #[t] w fun e w' => e = .returned (V.val (if qb then .num q else .fail 2)) ∧ Below w.heap.size w w' := by
  have h1 := sum_any h hl hg
  unfold SumR at h1
  rw [hs] at h1
  have HS := Lib.hid h1
  have HD := Lib.hid hd
  have q1 : -1000000000 ≤ (ds.length : Int) := by omega
  have q2 : (ds.length : Int) ≤ 1000000000 := by omega
  have HI := Lib.hid (fun w => int_any (w := w) (ds.length : Int) q1 q2)
  have HC := Lib.hid (fun w => counted_any (w := w) q qb)
  obtain ⟨ao, c, rfl, _⟩ := h
  have hne : ¬ (ds.length : Int) = 0 := by omega
  have hne2 : ((ds.length : Int) == 0) = false := by simpa using hne
  clear h1 hd hg hs
  dsimp only [Option.getD, Option.isSome] at HS
  generalize V.val (if qb = true then .num q else .fail 2) = rv at *
  go_enter Tryz.func68, Tryz.ntmps68
  go_wp2_with fail
  refine HS.out.mono ?_
  rintro e w1 ⟨rfl, rfl⟩
  go_wp2_with fail
  refine (HI.out _).mono ?_
  rintro e w1 ⟨rfl, rfl⟩
  go_wp2_with fail
  refine (HD.out _).mono ?_
  rintro e w1 ⟨rfl, b1⟩
  go_wp2_with fail
  refine (HC.out _).mono ?_
  rintro e w2 ⟨rfl, rfl⟩
  go_wp2
  go_ret
  exact ⟨rfl, b1⟩
set_option maxRecDepth 100000 in
theorem div_ex {w : World} : Calls Tryz.prog 92 #[.int .i64 40000, .int .i64 20000] w fun e w' => e = .returned (.tuple #[.int .i64 20000, .bool true]) ∧ Below w.heap.size w w' := by
  have hm := mul64_small (w := w) 40000 (by omega)
  have HM : Hid (Calls Tryz.prog 46 #[.int .u64 40000, .int .u64 10000] w fun e w' => e = .returned (.tuple #[.int .u64 0, .int .u64 400000000]) ∧ w = w') := hm
  clear hm
  go_enter Tryz.func92, Tryz.ntmps92
  go_wp2_with (first | (go_at_call 46; ((with_reducible refine HM.out.mono ?_); rintro e w1 ⟨rfl, rfl⟩)) | go_in)
  go_region
  go_wp2_with go_in
  go_ret2
  exact ⟨rfl, UK.belowN (Below.refl _ _) 1⟩
end Go.Proofs.YteelmbpmmobpjaaGreatDoor
