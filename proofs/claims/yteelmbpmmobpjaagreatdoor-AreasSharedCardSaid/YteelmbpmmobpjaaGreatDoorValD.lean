/-
  Layer value: a value of plain data; what the calls find in memory from the start.
-/
import Derived.Test.YteelmbpmmobpjaaGreatDoorValC
import Derived.Test.YteelmbpmmobpjaaGreatDoorSigA
namespace Go.Proofs.YteelmbpmmobpjaaGreatDoor
open Go.RowKit
open UK (str BytesAt nth Only Row Box)
/-- the tables of package utf8 lie in memory -/
structure Env (W : World) : Prop where
  tabs : Lib.Utf8Tabs 1 2 W
  two : 1 < W.heap.size ∧ 2 < W.heap.size
theorem Env.next {W W' : World} (h : Env W) (hb : Below W.heap.size W W') : Env W' := by
  obtain ⟨⟨h1, h2⟩, h3, h4⟩ := h
  have := hb.size
  refine ⟨⟨fun c hc => ?_, fun i hi => ?_⟩, by omega, by omega⟩
  · exact (cell_below hb h3).trans (h1 c hc)
  · obtain ⟨q1, q2⟩ := h2 i hi
    exact ⟨(cell_below hb h4).trans q1, (cell_below hb h4).trans q2⟩
theorem good_any {w : World} (a : Int) : Calls Tryz.prog 15 #[.int .i64 a] w fun e w' => e = .returned (.bool (DE.goodB a)) ∧ w = w' := by
  by_cases h1 : -999999999999999999 ≤ a
  · by_cases h2 : a ≤ 999999999999999999
    · have hg : DE.goodB a = true := by unfold DE.goodB; simp [h1, h2]
      rw [hg]
      go_enter Tryz.func15, Tryz.ntmps15
      go_wp2
      go_ret
      exact ⟨rfl, rfl⟩
    · have hg : DE.goodB a = false := by unfold DE.goodB; simp [h2]
      have h2' : 999999999999999999 < a := by omega
      rw [hg]
      go_enter Tryz.func15, Tryz.ntmps15
      go_wp2
      go_ret
      exact ⟨rfl, rfl⟩
  · have hg : DE.goodB a = false := by unfold DE.goodB; simp [h1]
    have h1' : a < -999999999999999999 := by omega
    rw [hg]
    go_enter Tryz.func15, Tryz.ntmps15
    go_wp2
    go_ret
    exact ⟨rfl, rfl⟩
theorem cut40_any {w : World} (l : List UInt8) (n : Nat) : Calls Tryz.prog 18 #[.string (str l), .int .i64 (n : Int)] w fun e w' => e = .returned (.string (str (l.take n))) ∧ w = w' := by
  by_cases h : n < l.length
  · have h' : (n : Int) < (l.length : Int) := by omega
    have h2 : n ≤ l.length := by omega
    have h3 : (n : Int) ≤ (l.length : Int) := by omega
    go_enter Tryz.func18, Tryz.ntmps18
    go_wp2
    go_ret
    exact ⟨rfl, rfl⟩
  · have h' : (l.length : Int) ≤ (n : Int) := by omega
    rw [List.take_of_length_le (by omega)]
    go_enter Tryz.func18, Tryz.ntmps18
    go_wp2
    go_ret
    exact ⟨rfl, rfl⟩
theorem errors_len {w : World} : Calls Tryz.prog 42 #[] w fun e w' => e = .returned (.slice (some ⟨w.heap.size, 0, none⟩) 7 7) ∧ Below w.heap.size w w' := by
  go_enter Tryz.func42, Tryz.ntmps42
  go_wp2
  go_ret
  exact ⟨rfl, (Below.refl _ _).alloc (Nat.le_refl _) _⟩
/-- a value of plain data -/
def V.of (k n : Int) (s : List UInt8) : V :=
  if k = 1 then (if DE.goodB n then .num n else .blank)
  else if k = 2 then (if SG.sigB s && decide (s.length ≤ 2000) then .text s else .blank)
  else if k = 3 then .bool (decide (n = 1))
  else if k = 4 then (if 1 ≤ n ∧ n ≤ 7 then .fail n else .blank)
  else .blank
theorem V.of_ok (k n : Int) (s : List UInt8) : (V.of k n s).Ok := by
  unfold V.of
  split
  · split
    · rename_i h; exact DE.goodB_iff.1 h
    · trivial
  · split
    · split
      · rename_i h
        simp only [Bool.and_eq_true, decide_eq_true_eq] at h
        exact h.2
      · trivial
    · split
      · trivial
      · split
        · split
          · rename_i h; exact h
          · trivial
        · trivial
set_option maxHeartbeats 2000000 in
set_option maxRecDepth 100000 in
theorem of_any {w : World} (k n : Int) (s : List UInt8) (hs : s.length ≤ 2000) (hE : Env w) :
    Calls Tryz.prog 13 #[.agg #[.int .i64 k, .int .i64 n, .string (str s)]] w fun e w' => e = .returned (V.of k n s).val ∧ Below w.heap.size w w' := by
  by_cases h1 : k = 1
  · subst h1
    have HG := Lib.hid (fun w => good_any (w := w) n)
    have e : V.of 1 n s = if DE.goodB n then .num n else .blank := rfl
    rw [e]
    cases hg : DE.goodB n with
    | true =>
      rw [hg] at HG
      go_enter Tryz.func13, Tryz.ntmps13
      go_wp2_with fail
      refine (HG.out _).mono ?_
      rintro e w1 ⟨rfl, rfl⟩
      go_wp2
      go_ret
      exact ⟨rfl, (Below.refl _ _).alloc (Nat.le_refl _) _⟩
    | false =>
      rw [hg] at HG
      go_enter Tryz.func13, Tryz.ntmps13
      go_wp2_with fail
      refine (HG.out _).mono ?_
      rintro e w1 ⟨rfl, rfl⟩
      go_wp2
      go_ret
      exact ⟨rfl, (Below.refl _ _).alloc (Nat.le_refl _) _⟩
  · by_cases h2 : k = 2
    · subst h2
      have hb0 : Below w.heap.size w (w.alloc (.cells #[.int .i64 2, .int .i64 n, .string (str s)] 46)) := (Below.refl _ _).alloc (Nat.le_refl _) _
      have HS := Lib.hid (signs_any (w := w.alloc (.cells #[.int .i64 2, .int .i64 n, .string (str s)] 46)) s (by omega) (fun w' hb => ((hE.next hb0).next hb).tabs))
      have hsl : (s.length : Int) ≤ 2000 := by omega
      have e : V.of 2 n s = if SG.sigB s && decide (s.length ≤ 2000) then .text s else .blank := rfl
      rw [e, decide_eq_true hs, Bool.and_true]
      have HB := Lib.hid hb0
      clear hb0 e hs
      generalize SG.sigN s = sn at *
      have c2 : ∀ w', Below (w.heap.size + 1) (w.alloc (.cells #[.int .i64 2, .int .i64 n, .string (str s)] 46)) w' → w'.cell? ⟨w.heap.size, 2, none⟩ = some (.string (str s)) := fun w' hb => (cell_below hb (by omega)).trans ((Box.new w _ _).cell 2 _ rfl)
      have HC2 := Lib.hid c2
      clear c2
      cases hg : SG.sigB s with
      | true =>
        rw [hg] at HS
        go_enter Tryz.func13, Tryz.ntmps13
        go_wp2_with fail
        refine HS.out.mono ?_
        rintro e w1 ⟨rfl, b1⟩
        have c2 := HC2.out w1 (by simpa using b1)
        have HB1 := Lib.hid (HB.out.trans (b1.mono HB.out.size))
        clear b1
        go_wp2
        go_ret
        exact ⟨rfl, HB1.out⟩
      | false =>
        rw [hg] at HS
        go_enter Tryz.func13, Tryz.ntmps13
        go_wp2_with fail
        refine HS.out.mono ?_
        rintro e w1 ⟨rfl, b1⟩
        have c2 := HC2.out w1 (by simpa using b1)
        have HB1 := Lib.hid (HB.out.trans (b1.mono HB.out.size))
        clear b1
        go_wp2
        go_ret
        exact ⟨rfl, HB1.out⟩
    · by_cases h3 : k = 3
      · subst h3
        have e : V.of 3 n s = .bool (decide (n = 1)) := rfl
        rw [e]
        by_cases hn : n = 1
        · subst hn
          go_enter Tryz.func13, Tryz.ntmps13
          go_wp2
          go_ret
          exact ⟨rfl, (Below.refl _ _).alloc (Nat.le_refl _) _⟩
        · have hn2 : (n == 1) = false := by simpa using hn
          rw [decide_eq_false hn]
          go_enter Tryz.func13, Tryz.ntmps13
          go_wp2
          go_ret
          exact ⟨rfl, (Below.refl _ _).alloc (Nat.le_refl _) _⟩
      · by_cases h4 : k = 4
        · subst h4
          have e : V.of 4 n s = if 1 ≤ n ∧ n ≤ 7 then .fail n else .blank := rfl
          rw [e]
          have HEL := Lib.hid (fun w => errors_len (w := w))
          have HCC : Hid (∀ w1, Below (w.heap.size + 1) (w.alloc (.cells #[.int .i64 4, .int .i64 n, .string (str s)] 46)).drew w1 → w1.cell? ⟨w.heap.size, 1, none⟩ = some (.int .i64 n) ∧ Hid (Below w.heap.size w w1)) := fun w1 hb => by
            have b0 : Below w.heap.size w (w.alloc (.cells #[.int .i64 4, .int .i64 n, .string (str s)] 46)).drew := UK.belowN ((Below.refl _ _).alloc (Nat.le_refl _) _) 1
            exact ⟨(cell_below hb (Nat.lt_succ_self _)).trans ((Box.new w #[.int .i64 4, .int .i64 n, .string (str s)] 46).cell 1 _ rfl), b0.trans (hb.mono (Nat.le_succ _))⟩
          by_cases hn1 : 1 ≤ n
          · by_cases hn2 : n ≤ 7
            · rw [if_pos ⟨hn1, hn2⟩]
              go_enter Tryz.func13, Tryz.ntmps13
              go_wp2
              go_region_with (go_at_call 42; refine (HEL.out _).mono ?_; rintro e w1 ⟨rfl, b1⟩; obtain ⟨c1, HB1⟩ := HCC.out w1 (by simpa using b1); clear b1)
              all_goals
                go_wp2
                go_ret
                exact ⟨rfl, HB1.out⟩
            · rw [if_neg (by omega)]
              have hn2' : 7 < n := by omega
              go_enter Tryz.func13, Tryz.ntmps13
              go_wp2
              go_region_with (go_at_call 42; refine (HEL.out _).mono ?_; rintro e w1 ⟨rfl, b1⟩; obtain ⟨c1, HB1⟩ := HCC.out w1 (by simpa using b1); clear b1)
              all_goals
                go_wp2
                go_ret
                exact ⟨rfl, HB1.out⟩
          · rw [if_neg (by omega)]
            have hn1' : n < 1 := by omega
            have hd : decide (1 ≤ n) = false := by simp; omega
            go_enter Tryz.func13, Tryz.ntmps13
            go_wp2
            go_quiet (fail)
            go_wp2
            go_ret
            exact ⟨rfl, UK.belowN ((Below.refl _ _).alloc (Nat.le_refl _) _) _⟩
        · have q1 : (k == 1) = false := by simpa using h1
          have q2 : (k == 2) = false := by simpa using h2
          have q3 : (k == 3) = false := by simpa using h3
          have q4 : (k == 4) = false := by simpa using h4
          have e : V.of k n s = .blank := by unfold V.of; rw [if_neg h1, if_neg h2, if_neg h3, if_neg h4]
          rw [e]
          go_enter Tryz.func13, Tryz.ntmps13
          go_wp2
          go_ret
          exact ⟨rfl, (Below.refl _ _).alloc (Nat.le_refl _) _⟩
end Go.Proofs.YteelmbpmmobpjaaGreatDoor
