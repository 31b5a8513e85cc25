/-
  Layer areas: sums of squares, means, medians, least and greatest, the k-th.
-/
import Derived.Test.YteelmbpmmobpjaaGreatDoorDivB
import Derived.Test.YteelmbpmmobpjaaGreatDoorSortA
import Derived.Test.YteelmbpmmobpjaaGreatDoorValL
namespace Go.Proofs.YteelmbpmmobpjaaGreatDoor
open Go.RowKit
open UK (str BytesAt nth Only Row Box)
/-- least -/
def mnL : List Int → Int
  | [] => 0
  | d :: r => r.foldl min d
/-- greatest -/
def mxL : List Int → Int
  | [] => 0
  | d :: r => r.foldl max d
theorem mnL_snoc (l : List Int) (x : Int) (h : l ≠ []) : mnL (l ++ [x]) = min (mnL l) x := by
  cases l with
  | nil => exact absurd rfl h
  | cons d r => simp [mnL, List.foldl_append]
theorem mxL_snoc (l : List Int) (x : Int) (h : l ≠ []) : mxL (l ++ [x]) = max (mxL l) x := by
  cases l with
  | nil => exact absurd rfl h
  | cons d r => simp [mxL, List.foldl_append]
set_option maxHeartbeats 1000000 in
set_option maxRecDepth 100000 in
theorem min_any {w : World} {t : Value} {ds : List Int} (h : DSl w t ds) (h0 : 0 < ds.length) (hl : ds.length ≤ 100000000) :
    Calls Tryz.prog 72 #[t] w fun e w' => e = .returned (.int .i64 (mnL ds)) ∧ w = w' := by
  obtain ⟨ao, c, rfl, hc⟩ := h
  have HC := Lib.hid hc
  obtain ⟨g, o, rfl, hgl, hc0⟩ := hc 0 ds[0] (List.getElem?_eq_getElem h0)
  have h1 : ¬ (ds.length : Int) < 1 := by omega
  have HM0 : Hid (mnL (ds.take 1) = ds[0]) := by
    show _ = _
    rw [List.take_add_one, List.getElem?_eq_getElem h0]
    rfl
  rw [Nat.add_zero] at hc0
  generalize ds[0] = d0 at *
  clear hc
  go_enter Tryz.func72, Tryz.ntmps72
  go_wp2
  go_loop [3, 4] (fun mv iv => ∃ (k : Nat) (m : Int), 1 ≤ k ∧ k ≤ ds.length ∧ iv = .int .i64 k ∧ mv = .int .i64 m ∧ Hid (mnL (ds.take k) = m)) (fun _ iv => ds.length - (intOf iv).toNat)
  case atStart => exact ⟨1, d0, Nat.le_refl _, h0, rfl, rfl, HM0⟩
  case round =>
    obtain ⟨k, m, hk1, hk, rfl, rfl, HU⟩ := hrel
    by_cases hlt : k < ds.length
    · have hv : ds[k]? = some ds[k] := List.getElem?_eq_getElem hlt
      obtain ⟨g', o', he, hgl2, hcv⟩ := HC.out k _ hv
      cases he
      have hlti : (k : Int) < (ds.length : Int) := by omega
      have HST : Hid (mnL (ds.take (k + 1)) = min m ds[k]) := by
        show _ = _
        rw [List.take_add_one, hv, ← HU.out]
        refine mnL_snoc _ _ (fun e => ?_)
        have h2 : (ds.take k).length = 0 := by rw [e]; rfl
        rw [List.length_take] at h2
        omega
      clear hv hc0 HM0
      generalize ds[k] = d at *
      go_wp2
      go_round
      case rel => exact ⟨k + 1, min m d, by omega, by omega, by go_num, rfl, HST.out⟩
      case measure => simp [intOf]; omega
    · have hge : (ds.length : Int) ≤ (k : Int) := by omega
      have HN : Hid (mnL ds = m) := by
        have := HU.out
        rw [List.take_of_length_le (by omega)] at this
        exact this
      go_wp2
      go_ret
      exact ⟨by rw [HN.out]; rfl, rfl⟩
set_option maxHeartbeats 1000000 in
set_option maxRecDepth 100000 in
theorem max_any {w : World} {t : Value} {ds : List Int} (h : DSl w t ds) (h0 : 0 < ds.length) (hl : ds.length ≤ 100000000) :
    Calls Tryz.prog 73 #[t] w fun e w' => e = .returned (.int .i64 (mxL ds)) ∧ w = w' := by
  obtain ⟨ao, c, rfl, hc⟩ := h
  have HC := Lib.hid hc
  obtain ⟨g, o, rfl, hgl, hc0⟩ := hc 0 ds[0] (List.getElem?_eq_getElem h0)
  have h1 : ¬ (ds.length : Int) < 1 := by omega
  have HM0 : Hid (mxL (ds.take 1) = ds[0]) := by
    show _ = _
    rw [List.take_add_one, List.getElem?_eq_getElem h0]
    rfl
  rw [Nat.add_zero] at hc0
  generalize ds[0] = d0 at *
  clear hc
  go_enter Tryz.func73, Tryz.ntmps73
  go_wp2
  go_loop [3, 4] (fun mv iv => ∃ (k : Nat) (m : Int), 1 ≤ k ∧ k ≤ ds.length ∧ iv = .int .i64 k ∧ mv = .int .i64 m ∧ Hid (mxL (ds.take k) = m)) (fun _ iv => ds.length - (intOf iv).toNat)
  case atStart => exact ⟨1, d0, Nat.le_refl _, h0, rfl, rfl, HM0⟩
  case round =>
    obtain ⟨k, m, hk1, hk, rfl, rfl, HU⟩ := hrel
    by_cases hlt : k < ds.length
    · have hv : ds[k]? = some ds[k] := List.getElem?_eq_getElem hlt
      obtain ⟨g', o', he, hgl2, hcv⟩ := HC.out k _ hv
      cases he
      have hlti : (k : Int) < (ds.length : Int) := by omega
      have HST : Hid (mxL (ds.take (k + 1)) = max m ds[k]) := by
        show _ = _
        rw [List.take_add_one, hv, ← HU.out]
        refine mxL_snoc _ _ (fun e => ?_)
        have h2 : (ds.take k).length = 0 := by rw [e]; rfl
        rw [List.length_take] at h2
        omega
      clear hv hc0 HM0
      generalize ds[k] = d at *
      go_wp2
      go_round
      case rel => exact ⟨k + 1, max m d, by omega, by omega, by go_num, rfl, HST.out⟩
      case measure => simp [intOf]; omega
    · have hge : (ds.length : Int) ≤ (k : Int) := by omega
      have HN : Hid (mxL ds = m) := by
        have := HU.out
        rw [List.take_of_length_le (by omega)] at this
        exact this
      go_wp2
      go_ret
      exact ⟨by rw [HN.out]; rfl, rfl⟩
/-- a sum of squares, on from s; none: it is too great -/
def sqO : List Int → Int → Option Int
  | [], s => some s
  | x :: r, s => match DE.mulO x x with
    | none => none
    | some q => if (s + q).natAbs ≤ DE.mostN then sqO r (s + q) else none
theorem sqO_app (l m : List Int) (s u : Int) (h : sqO l s = some u) : sqO (l ++ m) s = sqO m u := by
  induction l generalizing s with
  | nil => simp only [sqO, Option.some.injEq] at h; subst h; rfl
  | cons x r ih =>
    unfold sqO at h
    cases hq : DE.mulO x x with
    | none => rw [hq] at h; cases h
    | some q =>
      rw [hq] at h
      simp only at h
      by_cases hx : (s + q).natAbs ≤ DE.mostN
      · rw [if_pos hx] at h
        have e : sqO (x :: (r ++ m)) s = sqO (r ++ m) (s + q) := by simp [sqO, hq, hx]
        rw [List.cons_append, e]
        exact ih _ h
      · rw [if_neg hx] at h; cases h
theorem sqO_good (l : List Int) (s u : Int) (hs : DE.Good s) (h : sqO l s = some u) : DE.Good u := by
  induction l generalizing s with
  | nil => simp only [sqO, Option.some.injEq] at h; subst h; exact hs
  | cons x r ih =>
    unfold sqO at h
    cases hq : DE.mulO x x with
    | none => rw [hq] at h; cases h
    | some q =>
      rw [hq] at h
      simp only at h
      by_cases hx : (s + q).natAbs ≤ DE.mostN
      · rw [if_pos hx] at h
        refine ih _ ?_ h
        unfold DE.mostN at hx
        unfold DE.Good
        omega
      · rw [if_neg hx] at h; cases h
theorem DE.mulO_good {a b q : Int} (h : DE.mulO a b = some q) : DE.Good q := by
  unfold DE.mulO at h
  split at h
  · rename_i hb
    obtain rfl := Option.some.inj h
    unfold DE.quotB at hb
    simp only [Bool.and_eq_true, decide_eq_true_eq] at hb
    unfold DE.sgn DE.Good
    have := hb.2
    unfold DE.mostN at this
    split <;> omega
  · cases h
set_option maxHeartbeats 2000000 in
set_option maxRecDepth 100000 in
theorem squares_any {w : World} {t : Value} {ds : List Int} (h : DSl w t ds) (hl : ds.length ≤ 100000000) (hg : ∀ d ∈ ds, DE.Good d) :
    Calls Tryz.prog 70 #[t] w fun e w' => e = .returned (.tuple #[.int .i64 ((sqO ds 0).getD 0), .bool (sqO ds 0).isSome]) ∧ Below w.heap.size w w' := by
  obtain ⟨ao, c, rfl, hc⟩ := h
  have HC := Lib.hid hc
  have HG := Lib.hid hg
  clear hc hg
  go_enter Tryz.func70, Tryz.ntmps70
  go_wp2
  go_loopw [4, 11] (fun sv iv wr => ∃ (k : Nat) (u : Int), k ≤ ds.length ∧ iv = .int .i64 k ∧ sv = .int .i64 u ∧ Hid (sqO (ds.take k) 0 = some u) ∧ Hid (Below w.heap.size w wr)) (fun _ iv _ => ds.length - (intOf iv).toNat)
  case atStart => exact ⟨0, 0, Nat.zero_le _, rfl, rfl, rfl, Below.refl _ _⟩
  case round =>
    obtain ⟨k, u, hk, rfl, rfl, HU, HB⟩ := hrel
    by_cases hlt : k < ds.length
    · have hv : ds[k]? = some ds[k] := List.getElem?_eq_getElem hlt
      obtain ⟨g, o, rfl, hgl, hcv0⟩ := HC.out k _ hv
      have hcv := (HB.out.cell (p := ⟨g, o + k, none⟩) hgl).trans hcv0
      have hlti : (k : Int) < (ds.length : Int) := by omega
      have hgd := HG.out _ (List.getElem_mem hlt)
      have hgu : DE.Good u := sqO_good _ _ _ (by unfold DE.Good; omega) HU.out
      have hstep : ds.take (k + 1) = ds.take k ++ [ds[k]] := by rw [List.take_add_one, hv]; rfl
      have hfin : ds = ds.take k ++ ds[k] :: ds.drop (k + 1) := by
        have h0 := (List.take_append_drop k ds).symm
        rwa [List.drop_eq_getElem_cons hlt] at h0
      have HST := Lib.hid (And.intro hstep hfin)
      clear hv hstep hfin hcv0
      generalize ds[k] = d at *
      have HMU := Lib.hid (fun w => mul_any (w := w) d d hgd hgd)
      cases hmu : DE.mulO d d with
      | none =>
        rw [hmu] at HMU
        have HN : Hid (sqO ds 0 = none) := by
          show _ = _
          rw [HST.out.2, sqO_app _ _ _ _ HU.out]
          simp [sqO, hmu]
        clear hmu hgd hgu
        dsimp only [Option.getD, Option.isSome] at HMU
        go_wp2_with fail
        refine (HMU.out _).mono ?_
        rintro e w2 ⟨rfl, b2⟩
        have HB2 := Lib.hid (HB.out.trans (b2.mono HB.out.size))
        clear b2
        go_wp2
        go_ret2
        exact ⟨by rw [HN.out]; rfl, HB2.out⟩
      | some q =>
        rw [hmu] at HMU
        have hgq := DE.mulO_good hmu
        dsimp only [Option.getD, Option.isSome] at HMU
        by_cases hf : (u + q).natAbs ≤ DE.mostN
        · have HA := Lib.hid (fun w => add_yes (w := w) u q hgu hgq hf)
          have HN : Hid (sqO (ds.take (k + 1)) 0 = some (u + q)) := by
            show _ = _
            rw [HST.out.1, sqO_app _ _ _ _ HU.out]
            simp [sqO, hmu, hf]
          clear hf hgu hgd hgq hmu
          go_wp2_with fail
          refine (HMU.out _).mono ?_
          rintro e w2 ⟨rfl, b2⟩
          have HB2 := Lib.hid (HB.out.trans (b2.mono HB.out.size))
          clear b2
          go_wp2_with fail
          refine (HA.out _).mono ?_
          rintro e w3 ⟨rfl, rfl⟩
          go_wp2
          go_roundw
          case rel => exact ⟨k + 1, u + q, by omega, by go_num, rfl, HN.out, HB2.out⟩
          case measure => simp [intOf]; omega
        · have HA := Lib.hid (fun w => add_no (w := w) u q hgu hgq hf)
          have HN : Hid (sqO ds 0 = none) := by
            show _ = _
            rw [HST.out.2, sqO_app _ _ _ _ HU.out]
            simp [sqO, hmu, hf]
          clear hf hgu hgd hgq hmu
          go_wp2_with fail
          refine (HMU.out _).mono ?_
          rintro e w2 ⟨rfl, b2⟩
          have HB2 := Lib.hid (HB.out.trans (b2.mono HB.out.size))
          clear b2
          go_wp2_with fail
          refine (HA.out _).mono ?_
          rintro e w3 ⟨rfl, rfl⟩
          go_wp2
          go_ret2
          exact ⟨by rw [HN.out]; rfl, HB2.out⟩
    · have hge : (ds.length : Int) ≤ (k : Int) := by omega
      have HN : Hid (sqO ds 0 = some u) := by
        have := HU.out
        rw [List.take_of_length_le (by omega)] at this
        exact this
      go_wp2
      go_ret2
      exact ⟨by rw [HN.out]; rfl, HB.out⟩
end Go.Proofs.YteelmbpmmobpjaaGreatDoor
