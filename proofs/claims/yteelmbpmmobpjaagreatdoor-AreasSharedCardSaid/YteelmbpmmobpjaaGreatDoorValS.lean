/-
  Layer value: a value of plain data of any length; layer areas: calls as numbers.
-/
import Derived.Test.YteelmbpmmobpjaaGreatDoorValR
namespace Go.Proofs.YteelmbpmmobpjaaGreatDoor
open Go.RowKit
open UK (str BytesAt nth Only Row Box)
open SG
set_option maxHeartbeats 2000000 in
set_option maxRecDepth 100000 in
theorem signs_big {w : World} (l : List UInt8) (hl : l.length ≤ 9223372036854775807) (hT : ∀ w', Below w.heap.size w w' → Lib.Utf8Tabs 1 2 w') :
    Calls Tryz.prog 41 #[.string (str l)] w fun e w' => e = .returned (.tuple #[.int .i64 (sigN l), .bool (sigB l)]) ∧ Below w.heap.size w w' := by
  have hsz : (str l).size ≤ 9223372036854775807 := by rw [UK.str_size]; exact hl
  have HS : Hid ((sigN l = (((sig (str l)).getD 0 : Nat) : Int)) ∧ sigB l = (sig (str l)).isSome) := ⟨rfl, rfl⟩
  have HT := Lib.hid hT
  clear hT hl
  generalize str l = s at *
  generalize sigN l = rn at *
  generalize sigB l = rb at *
  go_enter Tryz.func41, Tryz.ntmps41
  go_wp2
  go_loopw [4] (fun nv wr => St w s nv wr) (fun _ wr => s.size - posOf w wr)
  case atStart =>
    refine ⟨⟨0, s.size, 0, rfl, ?_, Nat.le_refl _, rfl, by omega, by omega⟩, ?_⟩
    · show (w.heap.push _)[w.heap.size]? = _
      exact Array.getElem?_push_size
    · exact (Below.refl _ _).alloc (Nat.le_refl _) _
  case round =>
    obtain ⟨⟨pos, f, n, rfl, hit, hnp, hsg, hf, hnf⟩, hb⟩ := hrel
    have hpo := posOf_of hit
    by_cases hp : pos < s.size
    · have hwd := width_pos s pos hp
      have hnx := fun ty => run_next_str (P := Tryz.prog) hit hp ty
      have hlt := hb.size
      have hBl : w.heap.size < wr.heap.size := by
        rcases Nat.lt_or_ge w.heap.size wr.heap.size with h | h
        · exact h
        · rw [Array.getElem?_eq_none h] at hit; cases hit
      have hf0 : f ≠ 0 := by omega
      obtain ⟨f, rfl⟩ : ∃ f', f = f' + 1 := ⟨f - 1, by omega⟩
      have hb2 := setIter_below hb (Nat.le_refl _) s (pos + (Utf8.decode s pos).2)
      have hi2 := setIter_at (W := wr) (s := s) (pos := pos + (Utf8.decode s pos).2) hBl
      have hsg2 : sigF s (f + 1) pos n = if bad s pos then none else sigF s f (pos + (Utf8.decode s pos).2) (n + 1) := by
        show (if pos < s.size then _ else _) = _
        rw [if_pos hp]
      have hbad : bad s pos = ((Utf8.decode s pos).1 == 65533 && (Lib.decodeGo (s.extract pos s.size)).2 == 1) := rfl
      rw [hsg2] at hsg
      have HD := Lib.hid (decode_any (w := setIter wr w.heap.size s (pos + (Utf8.decode s pos).2)) (s.extract pos s.size) (HT.out _ hb2))
      have HI := Lib.hid (And.intro hi2 (And.intro hb2 hpo))
      have HG := Lib.hid (And.intro hsg hbad)
      have HW := Lib.hid hwd
      clear hwd hb2 hi2 hsg hsg2 hbad hit hf0 hb hpo
      generalize setIter wr w.heap.size s (pos + (Utf8.decode s pos).2) = W2 at *
      generalize (Utf8.decode s pos).2 = wd at *
      generalize (Utf8.decode s pos).1 = cc at *
      generalize Lib.decodeGo (s.extract pos s.size) = dg at *
      by_cases hc : cc = 65533
      · subst hc
        by_cases hd : dg.2 = 1
        · obtain ⟨d1, d2⟩ := dg
          obtain rfl : d2 = 1 := hd
          have HR : Hid (rn = 0 ∧ rb = false) := by
            obtain ⟨h1, h2⟩ := HS.out
            obtain ⟨g1, g2⟩ := HG.out
            rw [g2] at g1
            simp at g1
            rw [← g1] at h1 h2
            exact ⟨h1, h2⟩
          go_wp2_with fail
          refine HD.out.mono ?_
          rintro e w3 ⟨rfl, b3⟩
          go_wp2
          go_ret2
          exact ⟨by rw [HR.out.1, HR.out.2]; rfl, HI.out.2.1.trans (b3.mono HI.out.2.1.size)⟩
        · obtain ⟨d1, d2⟩ := dg
          have hd' : ¬ d2 = 1 := hd
          have hd2 : ((d2 : Int) == 1) = false := by simp; omega
          have HR : Hid (sigF s f (pos + wd) (n + 1) = sig s) := by
            obtain ⟨g1, g2⟩ := HG.out
            rw [g2] at g1
            have hdd : ((d1, d2).2 == 1) = false := by simpa using hd'
            rw [hdd, Bool.and_false, if_neg Bool.false_ne_true] at g1
            exact g1
          clear hd
          go_wp2_with fail
          refine HD.out.mono ?_
          rintro e w3 ⟨rfl, b3⟩
          go_wp2
          have h3 : w3.heap[w.heap.size]? = some (.stringIter s (pos + wd)) := by
            refine (b3.block _ ?_).trans HI.out.1
            rcases Nat.lt_or_ge w.heap.size W2.heap.size with h | h
            · exact h
            · have := HI.out.1
              rw [Array.getElem?_eq_none h] at this; cases this
          have hp3 := posOf_of h3
          have hwd := HW.out
          have hpo := HI.out.2.2
          go_roundw
          case rel => exact ⟨⟨pos + wd, f, n + 1, by go_num, h3, by omega, HR.out, by omega, by omega⟩, HI.out.2.1.trans (b3.mono HI.out.2.1.size)⟩
          case measure => rw [hp3, hpo]; omega
      · have hc2 : ((cc : Int) == 65533) = false := by simp; omega
        have HR : Hid (sigF s f (pos + wd) (n + 1) = sig s) := by
          obtain ⟨g1, g2⟩ := HG.out
          rw [g2] at g1
          have hcc : (cc == 65533) = false := by simpa using hc
          rw [hcc, Bool.false_and, if_neg Bool.false_ne_true] at g1
          exact g1
        go_wp2
        have hp3 := posOf_of HI.out.1
        have hwd := HW.out
        have hpo := HI.out.2.2
        go_roundw
        case rel => exact ⟨⟨pos + wd, f, n + 1, by go_num, HI.out.1, by omega, HR.out, by omega, by omega⟩, HI.out.2.1⟩
        case measure => rw [hp3, hpo]; omega
    · have hnx := fun ty => run_next_stop (P := Tryz.prog) hit hp ty
      have hs2 := sigF_end s f pos n hp
      have HR : Hid (rn = (n : Int) ∧ rb = true ∧ Below w.heap.size w wr) := by
        obtain ⟨h1, h2⟩ := HS.out
        rw [← hsg, hs2] at h1 h2
        exact ⟨h1, h2, hb⟩
      clear hsg hs2 hb hpo hit
      go_wp2
      go_ret2
      exact ⟨by rw [HR.out.1, HR.out.2.1]; rfl, HR.out.2.2⟩
set_option maxHeartbeats 2000000 in
set_option maxRecDepth 100000 in
theorem of_long {w : World} (k n : Int) (s : List UInt8) (hs : 2000 < s.length) (hsb : s.length ≤ 9223372036854775807) (hE : Env w) :
    Calls Tryz.prog 13 #[.agg #[.int .i64 k, .int .i64 n, .string (str s)]] w fun e w' => e = .returned (V.of k n s).val ∧ Below w.heap.size w w' := by
  by_cases h1 : k = 1
  · subst h1
    have HG := Lib.hid (fun w => good_any (w := w) n)
    have e : V.of 1 n s = if DE.goodB n then .num n else .blank := rfl
    rw [e]
    cases hg : DE.goodB n with
    | true =>
      rw [hg] at HG
      go_enter Tryz.func13, Tryz.ntmps13
      go_wp2_with fail
      refine (HG.out _).mono ?_
      rintro e w1 ⟨rfl, rfl⟩
      go_wp2
      go_ret
      exact ⟨rfl, (Below.refl _ _).alloc (Nat.le_refl _) _⟩
    | false =>
      rw [hg] at HG
      go_enter Tryz.func13, Tryz.ntmps13
      go_wp2_with fail
      refine (HG.out _).mono ?_
      rintro e w1 ⟨rfl, rfl⟩
      go_wp2
      go_ret
      exact ⟨rfl, (Below.refl _ _).alloc (Nat.le_refl _) _⟩
  · by_cases h2 : k = 2
    · subst h2
      have hb0 : Below w.heap.size w (w.alloc (.cells #[.int .i64 2, .int .i64 n, .string (str s)] 46)) := (Below.refl _ _).alloc (Nat.le_refl _) _
      have HS := Lib.hid (signs_big (w := w.alloc (.cells #[.int .i64 2, .int .i64 n, .string (str s)] 46)) s (by omega) (fun w' hb => ((hE.next hb0).next hb).tabs))
      have hsl : 2000 < (s.length : Int) := by omega
      have e : V.of 2 n s = if SG.sigB s && decide (s.length ≤ 2000) then .text s else .blank := rfl
      rw [e, decide_eq_false (by omega), Bool.and_false]
      have HB := Lib.hid hb0
      clear hb0 e hs hsb
      generalize SG.sigN s = sn at *
      have c2 : ∀ w', Below (w.heap.size + 1) (w.alloc (.cells #[.int .i64 2, .int .i64 n, .string (str s)] 46)) w' → w'.cell? ⟨w.heap.size, 2, none⟩ = some (.string (str s)) := fun w' hb => (cell_below hb (by omega)).trans ((Box.new w _ _).cell 2 _ rfl)
      have HC2 := Lib.hid c2
      clear c2
      rw [if_neg Bool.false_ne_true]
      cases hg : SG.sigB s with
      | true =>
        rw [hg] at HS
        go_enter Tryz.func13, Tryz.ntmps13
        go_wp2_with fail
        refine HS.out.mono ?_
        rintro e w1 ⟨rfl, b1⟩
        have c2 := HC2.out w1 (by simpa using b1)
        have HB1 := Lib.hid (HB.out.trans (b1.mono HB.out.size))
        clear b1
        go_wp2
        go_ret
        exact ⟨rfl, HB1.out⟩
      | false =>
        rw [hg] at HS
        go_enter Tryz.func13, Tryz.ntmps13
        go_wp2_with fail
        refine HS.out.mono ?_
        rintro e w1 ⟨rfl, b1⟩
        have c2 := HC2.out w1 (by simpa using b1)
        have HB1 := Lib.hid (HB.out.trans (b1.mono HB.out.size))
        clear b1
        go_wp2
        go_ret
        exact ⟨rfl, HB1.out⟩
    · by_cases h3 : k = 3
      · subst h3
        have e : V.of 3 n s = .bool (decide (n = 1)) := rfl
        rw [e]
        by_cases hn : n = 1
        · subst hn
          go_enter Tryz.func13, Tryz.ntmps13
          go_wp2
          go_ret
          exact ⟨rfl, (Below.refl _ _).alloc (Nat.le_refl _) _⟩
        · have hn2 : (n == 1) = false := by simpa using hn
          rw [decide_eq_false hn]
          go_enter Tryz.func13, Tryz.ntmps13
          go_wp2
          go_ret
          exact ⟨rfl, (Below.refl _ _).alloc (Nat.le_refl _) _⟩
      · by_cases h4 : k = 4
        · subst h4
          have e : V.of 4 n s = if 1 ≤ n ∧ n ≤ 7 then .fail n else .blank := rfl
          rw [e]
          have HEL := Lib.hid (fun w => errors_len (w := w))
          have HCC : Hid (∀ w1, Below (w.heap.size + 1) (w.alloc (.cells #[.int .i64 4, .int .i64 n, .string (str s)] 46)).drew w1 → w1.cell? ⟨w.heap.size, 1, none⟩ = some (.int .i64 n) ∧ Hid (Below w.heap.size w w1)) := fun w1 hb => by
            have b0 : Below w.heap.size w (w.alloc (.cells #[.int .i64 4, .int .i64 n, .string (str s)] 46)).drew := UK.belowN ((Below.refl _ _).alloc (Nat.le_refl _) _) 1
            exact ⟨(cell_below hb (Nat.lt_succ_self _)).trans ((Box.new w #[.int .i64 4, .int .i64 n, .string (str s)] 46).cell 1 _ rfl), b0.trans (hb.mono (Nat.le_succ _))⟩
          by_cases hn1 : 1 ≤ n
          · by_cases hn2 : n ≤ 7
            · rw [if_pos ⟨hn1, hn2⟩]
              go_enter Tryz.func13, Tryz.ntmps13
              go_wp2
              go_region_with (go_at_call 42; refine (HEL.out _).mono ?_; rintro e w1 ⟨rfl, b1⟩; obtain ⟨c1, HB1⟩ := HCC.out w1 (by simpa using b1); clear b1)
              all_goals
                go_wp2
                go_ret
                exact ⟨rfl, HB1.out⟩
            · rw [if_neg (by omega)]
              have hn2' : 7 < n := by omega
              go_enter Tryz.func13, Tryz.ntmps13
              go_wp2
              go_region_with (go_at_call 42; refine (HEL.out _).mono ?_; rintro e w1 ⟨rfl, b1⟩; obtain ⟨c1, HB1⟩ := HCC.out w1 (by simpa using b1); clear b1)
              all_goals
                go_wp2
                go_ret
                exact ⟨rfl, HB1.out⟩
          · rw [if_neg (by omega)]
            have hn1' : n < 1 := by omega
            have hd : decide (1 ≤ n) = false := by simp; omega
            go_enter Tryz.func13, Tryz.ntmps13
            go_wp2
            go_quiet (fail)
            go_wp2
            go_ret
            exact ⟨rfl, UK.belowN ((Below.refl _ _).alloc (Nat.le_refl _) _) _⟩
        · have q1 : (k == 1) = false := by simpa using h1
          have q2 : (k == 2) = false := by simpa using h2
          have q3 : (k == 3) = false := by simpa using h3
          have q4 : (k == 4) = false := by simpa using h4
          have e : V.of k n s = .blank := by unfold V.of; rw [if_neg h1, if_neg h2, if_neg h3, if_neg h4]
          rw [e]
          go_enter Tryz.func13, Tryz.ntmps13
          go_wp2
          go_ret
          exact ⟨rfl, (Below.refl _ _).alloc (Nat.le_refl _) _⟩
theorem of_all {w : World} (k n : Int) (s : List UInt8) (hsb : s.length ≤ 9223372036854775807) (hE : Env w) :
    Calls Tryz.prog 13 #[.agg #[.int .i64 k, .int .i64 n, .string (str s)]] w fun e w' => e = .returned (V.of k n s).val ∧ Below w.heap.size w w' := by
  rcases Nat.lt_or_ge 2000 s.length with h | h
  · exact of_long k n s h hsb hE
  · exact of_any k n s h hE
theorem number_of {w : World} {nm s : Value} {v : V} (h : Calls Tryz.prog 10 #[nm, s] w fun e w' => e = .returned v.val ∧ Below w.heap.size w w') :
    Calls Tryz.prog 11 #[nm, s] w fun e w' => e = .returned (.tuple #[.int .i64 (GivenN v), .bool (isNum v)]) ∧ Below w.heap.size w w' := by
  have H := Lib.hid h
  have HG := Lib.hid (fun w => given_any (w := w) v)
  clear h
  generalize v.val = vv at *
  go_enter Tryz.func11, Tryz.ntmps11
  go_wp2_with fail
  refine H.out.mono ?_
  rintro e w1 ⟨rfl, b1⟩
  go_wp2_with fail
  refine (HG.out _).mono ?_
  rintro e w2 ⟨rfl, rfl⟩
  go_wp2
  go_ret2
  exact ⟨rfl, b1⟩
theorem run_eq_v15 (W : World) (k n k' n' : Int) (s s' : ByteArray) : (binOp .eql 32 (.agg #[.int .i64 k, .int .i64 n, .string s]) (.agg #[.int .i64 k', .int .i64 n', .string s'])).run Tryz.prog W = .ok (.bool (k == k' && n == n' && s.toList == s'.toList)) W := by
  have hp : Tryz.prog.stoodInHeld 32 = false := by kernel_rfl
  have hS := v15_fields
  rw [run_eql_struct, show (10000 : Nat) = 9999 + 1 from rfl, run_equalIn_agg W 9999 32 _ _ hS hp]
  simp only [Program.fieldsOf, Tryz.underlying32]
  go_simp
  by_cases h1 : k = k' <;> by_cases h2 : n = n' <;> by_cases h3 : s.toList = s'.toList <;> simp [h1, h2, h3]
end Go.Proofs.YteelmbpmmobpjaaGreatDoor
