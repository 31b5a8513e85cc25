/-
  What the least, the greatest, the mean and the median are to one another.
-/
import Derived.Test.YteelmbpmmobpjaaGreatDoorManE
namespace Go.Proofs.YteelmbpmmobpjaaGreatDoor
open Go.RowKit
theorem foldl_min_le (r : List Int) (d : Int) : r.foldl min d ≤ d ∧ ∀ x ∈ r, r.foldl min d ≤ x := by
  induction r generalizing d with
  | nil => simp
  | cons y r ih =>
    obtain ⟨h1, h2⟩ := ih (min d y)
    refine ⟨by show r.foldl min (min d y) ≤ d; omega, fun x hx => ?_⟩
    show r.foldl min (min d y) ≤ x
    rcases List.mem_cons.1 hx with rfl | hx
    · omega
    · exact h2 x hx
theorem foldl_min_mem (r : List Int) (d : Int) : r.foldl min d = d ∨ r.foldl min d ∈ r := by
  induction r generalizing d with
  | nil => simp
  | cons y r ih =>
    show r.foldl min (min d y) = d ∨ r.foldl min (min d y) ∈ y :: r
    rcases ih (min d y) with h | h
    · rw [h]
      rcases Int.le_total d y with hd | hd
      · left; omega
      · right; rw [show min d y = y by omega]; simp
    · right; exact List.mem_cons_of_mem _ h
theorem foldl_max_le (r : List Int) (d : Int) : d ≤ r.foldl max d ∧ ∀ x ∈ r, x ≤ r.foldl max d := by
  induction r generalizing d with
  | nil => simp
  | cons y r ih =>
    obtain ⟨h1, h2⟩ := ih (max d y)
    refine ⟨by show d ≤ r.foldl max (max d y); omega, fun x hx => ?_⟩
    show x ≤ r.foldl max (max d y)
    rcases List.mem_cons.1 hx with rfl | hx
    · omega
    · exact h2 x hx
theorem foldl_max_mem (r : List Int) (d : Int) : r.foldl max d = d ∨ r.foldl max d ∈ r := by
  induction r generalizing d with
  | nil => simp
  | cons y r ih =>
    show r.foldl max (max d y) = d ∨ r.foldl max (max d y) ∈ y :: r
    rcases ih (max d y) with h | h
    · rw [h]
      rcases Int.le_total d y with hd | hd
      · right; rw [show max d y = y by omega]; simp
      · left; omega
    · right; exact List.mem_cons_of_mem _ h
theorem mnL_le {l : List Int} {x : Int} (h : x ∈ l) : mnL l ≤ x := by
  cases l with
  | nil => cases h
  | cons d r =>
    rcases List.mem_cons.1 h with rfl | h
    · exact (foldl_min_le r _).1
    · exact (foldl_min_le r d).2 x h
theorem le_mxL {l : List Int} {x : Int} (h : x ∈ l) : x ≤ mxL l := by
  cases l with
  | nil => cases h
  | cons d r =>
    rcases List.mem_cons.1 h with rfl | h
    · exact (foldl_max_le r _).1
    · exact (foldl_max_le r d).2 x h
theorem mnL_mem {l : List Int} (h : l ≠ []) : mnL l ∈ l := by
  cases l with
  | nil => exact absurd rfl h
  | cons d r =>
    rcases foldl_min_mem r d with h | h
    · show r.foldl min d ∈ d :: r; rw [h]; simp
    · exact List.mem_cons_of_mem _ h
theorem mxL_mem {l : List Int} (h : l ≠ []) : mxL l ∈ l := by
  cases l with
  | nil => exact absurd rfl h
  | cons d r =>
    rcases foldl_max_mem r d with h | h
    · show r.foldl max d ∈ d :: r; rw [h]; simp
    · exact List.mem_cons_of_mem _ h
theorem srt_mem {l : List Int} {x : Int} : x ∈ srt l ↔ x ∈ l := (List.mergeSort_perm _ _).mem_iff
theorem srt_sorted (l : List Int) : (srt l).Pairwise (· ≤ ·) := by
  have := List.pairwise_mergeSort (le := fun x y : Int => decide (x ≤ y)) (fun a b c h1 h2 => by simp at *; omega) (fun a b => by simp; omega) l
  exact this.imp (fun h => by simpa using h)
theorem srt_first {l : List Int} (h : l ≠ []) : (srt l).getD 0 0 = mnL l := by
  have hl : 0 < (srt l).length := by rw [srt_length]; exact List.length_pos_iff.2 h
  have h0 : (srt l).getD 0 0 = (srt l)[0] := by rw [List.getD_eq_getElem?_getD, List.getElem?_eq_getElem hl]; rfl
  rw [h0]
  have h1 : mnL l ≤ (srt l)[0] := mnL_le (srt_mem.1 (List.getElem_mem hl))
  obtain ⟨j, hj, e⟩ := List.getElem_of_mem (srt_mem.2 (mnL_mem h))
  have h2 : (srt l)[0] ≤ (srt l)[j] := by
    rcases Nat.eq_zero_or_pos j with rfl | hp
    · exact Int.le_refl _
    · exact List.pairwise_iff_getElem.1 (srt_sorted l) 0 j hl hj hp
  rw [e] at h2
  omega
theorem srt_last {l : List Int} (h : l ≠ []) : (srt l).getD (l.length - 1) 0 = mxL l := by
  have hp : 0 < l.length := List.length_pos_iff.2 h
  have hl : l.length - 1 < (srt l).length := by rw [srt_length]; omega
  have h0 : (srt l).getD (l.length - 1) 0 = (srt l)[l.length - 1] := by rw [List.getD_eq_getElem?_getD, List.getElem?_eq_getElem hl]; rfl
  rw [h0]
  have h1 : (srt l)[l.length - 1] ≤ mxL l := le_mxL (srt_mem.1 (List.getElem_mem hl))
  obtain ⟨j, hj, e⟩ := List.getElem_of_mem (srt_mem.2 (mxL_mem h))
  have hj2 : j < l.length := by rwa [srt_length] at hj
  have h2 : (srt l)[j] ≤ (srt l)[l.length - 1] := by
    rcases Nat.lt_or_ge j (l.length - 1) with hp | hp
    · exact List.pairwise_iff_getElem.1 (srt_sorted l) j (l.length - 1) hj hl hp
    · have : j = l.length - 1 := by omega
      subst this; exact Int.le_refl _
  rw [e] at h2
  omega
theorem srt_at {l : List Int} (j : Nat) (hj : j < l.length) : (srt l).getD j 0 ∈ l := by
  have hl : j < (srt l).length := by rwa [srt_length]
  have h0 : (srt l).getD j 0 = (srt l)[j] := by rw [List.getD_eq_getElem?_getD, List.getElem?_eq_getElem hl]; rfl
  rw [h0]
  exact srt_mem.1 (List.getElem_mem hl)
/-- a quotient, halves away from nought, between two bounds -/
theorem quo_between (S n : Nat) (lo hi : Int) (hn : 0 < n) (h1 : lo * n ≤ S) (h2 : (S : Int) ≤ hi * n) : lo ≤ ((S / n + if n ≤ S % n + S % n then 1 else 0 : Nat) : Int) ∧ ((S / n + if n ≤ S % n + S % n then 1 else 0 : Nat) : Int) ≤ hi := by
  have hn' : (0 : Int) < n := by omega
  have a1 : lo ≤ (S : Int) / n := Int.le_ediv_of_mul_le hn' h1
  have a2 : (S : Int) / n ≤ hi := Int.ediv_le_of_le_mul hn' h2
  have hd : ((S / n : Nat) : Int) = (S : Int) / n := Int.natCast_ediv _ _
  have hr := Nat.div_add_mod S n
  split
  · rename_i hc
    have hrp : 0 < S % n := by omega
    refine ⟨by omega, ?_⟩
    have : ((S / n : Nat) : Int) < hi := by
      rcases Int.lt_or_le ((S / n : Nat) : Int) hi with h | h
      · exact h
      · exfalso
        have h3 : hi * n ≤ ((S / n : Nat) : Int) * n := Int.mul_le_mul_of_nonneg_right h (by omega)
        have h4 : ((S / n : Nat) : Int) * n = ((n * (S / n) : Nat) : Int) := by rw [Int.natCast_mul, Int.mul_comm]
        omega
    omega
  · omega
theorem sumO_between (lo hi : Int) : ∀ (l : List Int) (s u : Int), (∀ d ∈ l, lo ≤ d ∧ d ≤ hi) → sumO l s = some u → s + lo * (l.length : Int) ≤ u ∧ u ≤ s + hi * (l.length : Int)
  | [], s, u, _, h => by
    simp only [sumO, Option.some.injEq] at h
    subst h
    simp
  | x :: r, s, u, hb, h => by
    unfold sumO at h
    split at h
    · obtain ⟨h1, h2⟩ := sumO_between lo hi r (s + x) u (fun d hd => hb d (List.mem_cons_of_mem _ hd)) h
      obtain ⟨h3, h4⟩ := hb x (by simp)
      rw [List.length_cons, Int.natCast_add, Int.mul_add, Int.mul_add]
      generalize lo * (r.length : Int) = p at *
      generalize hi * (r.length : Int) = q at *
      omega
    · cases h
theorem meanV_between {ds : List Int} {lo hi q : Int} (h : ∀ d ∈ ds, lo ≤ d ∧ d ≤ hi) (hl : ds.length ≤ 1000) (hq : meanV ds = .num q) : lo ≤ q ∧ q ≤ hi := by
  unfold meanV at hq
  split at hq
  · cases hq
  · rename_i h0
    cases hs : sumO ds 0 with
    | none => rw [hs] at hq; cases hq
    | some s =>
      rw [hs] at hq
      simp only at hq
      have hg : DE.Good s := sumO_good _ _ _ (by unfold DE.Good; omega) hs
      obtain ⟨b1, b2⟩ := sumO_between lo hi ds 0 s h hs
      cases hd : DE.divO s ((ds.length : Int) * 10000) with
      | none => rw [hd] at hq; cases hq
      | some q' =>
        rw [hd] at hq
        obtain rfl : q' = q := by simpa [optV] using hq
        unfold DE.divO at hd
        split at hd
        · have hd := Option.some.inj hd
          have hna : ((ds.length : Int) * 10000).natAbs = ds.length * 10000 := by omega
          have hsg : (!(decide (s < 0) == decide ((ds.length : Int) * 10000 < 0))) = decide (s < 0) := by
            rw [show decide ((ds.length : Int) * 10000 < 0) = false by simp; omega]
            cases decide (s < 0) <;> rfl
          have hR : DE.rnd (s.natAbs * 10000) (ds.length * 10000) = s.natAbs / ds.length + if ds.length ≤ s.natAbs % ds.length + s.natAbs % ds.length then 1 else 0 := by
            unfold DE.rnd
            rw [Nat.mul_div_mul_right _ _ (by decide), Nat.mul_mod_mul_right]
            have h1 : s.natAbs / ds.length ≤ s.natAbs := Nat.div_le_self _ _
            obtain ⟨g1, g2⟩ := hg
            rw [Nat.mod_eq_of_lt]
            · congr 1
              have : (ds.length * 10000 ≤ s.natAbs % ds.length * 10000 + s.natAbs % ds.length * 10000) ↔ (ds.length ≤ s.natAbs % ds.length + s.natAbs % ds.length) := by
                generalize s.natAbs % ds.length = r
                omega
              simp only [this]
            · split <;> omega
          rw [hna, hsg, hR] at hd
          have hn : 0 < ds.length := by omega
          by_cases hs0 : s < 0
          · rw [show decide (s < 0) = true by simpa using hs0] at hd
            have := quo_between s.natAbs ds.length (-hi) (-lo) hn (by rw [Int.neg_mul]; omega) (by rw [Int.neg_mul]; omega)
            unfold DE.sgn at hd
            rw [if_pos rfl] at hd
            generalize (s.natAbs / ds.length + if ds.length ≤ s.natAbs % ds.length + s.natAbs % ds.length then 1 else 0) = R at *
            omega
          · rw [show decide (s < 0) = false by simpa using hs0] at hd
            have := quo_between s.natAbs ds.length lo hi hn (by omega) (by omega)
            unfold DE.sgn at hd
            rw [if_neg (by decide)] at hd
            generalize (s.natAbs / ds.length + if ds.length ≤ s.natAbs % ds.length + s.natAbs % ds.length then 1 else 0) = R at *
            omega
        · cases hd
theorem mean_between {ds : List Int} {q : Int} (hl : ds.length ≤ 1000) (hq : meanV ds = .num q) : mnL ds ≤ q ∧ q ≤ mxL ds := meanV_between (fun _ hd => ⟨mnL_le hd, le_mxL hd⟩) hl hq
theorem med_between {ds : List Int} {q : Int} (hq : medV ds = .num q) : mnL ds ≤ q ∧ q ≤ mxL ds := by
  unfold medV at hq
  split at hq
  · cases hq
  · rename_i h0
    split at hq
    · have e : (srt ds).getD (ds.length / 2) 0 = q := by simpa using hq
      have := srt_at (l := ds) (ds.length / 2) (by omega)
      rw [e] at this
      exact ⟨mnL_le this, le_mxL this⟩
    · have h1 := srt_at (l := ds) (ds.length / 2) (by omega)
      have h2 := srt_at (l := ds) (ds.length / 2 - 1) (by omega)
      refine meanV_between (fun d hd => ?_) (by simp) hq
      rcases List.mem_cons.1 hd with rfl | hd
      · exact ⟨mnL_le h2, le_mxL h2⟩
      · rw [List.mem_singleton.1 hd]
        exact ⟨mnL_le h1, le_mxL h1⟩
theorem isnum_num {v : V} (h : isNum v = true) : v = .num (GivenN v) := by cases v <;> first | rfl | cases h
/-- an area's numbers are those that count -/
theorem numsOf_area (a : Ar) (ha : a.area = true) : (numsOf (flat [a])).length = cntF isNum (flat [a]) := by
  unfold cntF numsOf
  have h : ∀ l : List (V × Bool), (∀ x ∈ l, x.2 = true) → (l.filterMap numOf).length = (l.filter fun x => isNum x.1).length := by
    intro l
    induction l with
    | nil => intro _; rfl
    | cons x r ih =>
      intro hx
      obtain ⟨v, b⟩ := x
      obtain rfl : b = true := hx (v, b) (by simp)
      have := ih (fun y hy => hx y (List.mem_cons_of_mem _ hy))
      cases v <;> simp_all [numOf, isNum]
  refine h _ (fun x hx => ?_)
  simp only [flat, flat1, List.mem_flatMap, List.mem_map] at hx
  obtain ⟨b, hb, v, _, rfl⟩ := hx
  rw [List.mem_singleton.1 hb]
  exact ha
end Go.Proofs.YteelmbpmmobpjaaGreatDoor
