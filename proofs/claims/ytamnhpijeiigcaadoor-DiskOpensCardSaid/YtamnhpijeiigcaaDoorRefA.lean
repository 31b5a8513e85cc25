/-
  The document's disk: its small functions.
-/
import Derived.Test.YtamnhpijeiigcaaDoorDiskQ
import Derived.Test.YtamnhpijeiigcaaDoorUMem
namespace Go.Proofs.YtamnhpijeiigcaaDoor
open Go.RowKit
open UK (str BytesAt nth Only w32 Row Box)
open Go.BigFrame
theorem rword_any (p : Nat) (hp : p ≤ 60000) (W : World) :
    Calls Tryd.prog 55 #[.int .i64 p] W fun e w' => e = .returned (.string (str (putL (w32 p)))) ∧ Below W.heap.size W w' := by
  have hc := fun w => rput_any (w32 p) w
  rw [show ((w32 p).toNat : Int) = p by rw [← UK.w32_is p]; omega] at hc
  go_enter Tryd.func55, Tryd.ntmps55
  go_wp2_with fail
  refine (hc _).mono ?_
  rintro e w' ⟨rfl, b⟩
  go_wp2
  go_ret
  exact ⟨rfl, b⟩
theorem rfails_any (n : Int) (hn : -1 ≤ n ∧ n ≤ 9223372036854775807) (W : World) :
    Calls Tryd.prog 59 #[.int .i64 n] W fun e w' => e = .returned (.tuple #[.int .i64 (failN n), .bool (n == 0)]) ∧ w' = W := by
  have hn1 := hn.1
  have hn2 := hn.2
  clear hn
  by_cases h0 : n = 0
  · subst h0
    go_enter Tryd.func59, Tryd.ntmps59
    go_wp2
    go_ret2
    exact ⟨rfl, rfl⟩
  · have hne : (n == 0) = false := beq_eq_false_iff_ne.2 h0
    by_cases hp : 0 < n
    · have HN : Hid (failN n = n - 1) := by show _ = _; unfold failN; rw [if_neg h0, if_pos hp]
      clear h0
      go_enter Tryd.func59, Tryd.ntmps59
      go_wp2
      go_ret2
      exact ⟨by rw [HN.out, hne] <;> rfl, rfl⟩
    · have HN : Hid (failN n = n) := by show _ = _; unfold failN; rw [if_neg h0, if_neg hp]
      clear h0
      go_enter Tryd.func59, Tryd.ntmps59
      go_wp2
      go_ret2
      exact ⟨by rw [HN.out] <;> rfl, rfl⟩
theorem rmost_any (n : Int) (W : World) :
    Calls Tryd.prog 36 #[.int .i64 n] W fun e w' => e = .returned (.int .i64 (clampD n)) ∧ w' = W := by
  have HB := Lib.hid (clamp_is n)
  by_cases h1 : n < 2
  · have HC := Lib.hid (HB.out 2 (by omega))
    go_enter Tryd.func36, Tryd.ntmps36
    go_wp2
    go_ret
    exact ⟨by rw [HC.out] <;> simp, rfl⟩
  · by_cases h2 : 60000 < n
    · have HC := Lib.hid (HB.out 60000 (by omega))
      go_enter Tryd.func36, Tryd.ntmps36
      go_wp2
      go_ret
      exact ⟨by rw [HC.out] <;> rfl, rfl⟩
    · have HC := Lib.hid (HB.out n (by omega))
      go_enter Tryd.func36, Tryd.ntmps36
      go_wp2
      go_ret
      exact ⟨by rw [HC.out] <;> rfl, rfl⟩
def tlen : Value → Nat
  | .string s => s.size
  | _ => 0
theorem page_under : Tryd.prog.underlying 73 = some (.struct #[{ name := "Raw", type := 9, offset := 0, embedded := false, tag := "", pkgPath := "", byteOffset := 0 }]) := by kernel_rfl
theorem page_size : (Tryd.prog.info? 73).map (·.size) = some 1 := by kernel_rfl
set_option maxRecDepth 100000 in
theorem rlay_any (p : Nat) (hp : p ≤ 60000) (s : List UInt8) (hs : s.length ≤ 504) (W : World) :
    Calls Tryd.prog 56 #[.int .i64 p, .string (str s)] W fun e w' => e = .returned (.agg #[.string (str (pageL p s))]) ∧ Below W.heap.size W w' := by
  have HR : Hid (restL p s = putL (w32 p) ++ (s ++ UK.zeros (504 - s.length))) := rfl
  have HP : Hid (pageL p s = putL (addU 0 (restL p s)) ++ restL p s) := rfl
  go_enter Tryd.func56, Tryd.ntmps56
  have hr0 := Box.new W #[.string (str [])] 73
  have b0 := (Below.refl W.heap.size W).alloc (Nat.le_refl _) (.cells #[.string (str [])] 73)
  go_wp2_with fail
  refine (rword_any p hp _).mono ?_
  rintro e w1 ⟨rfl, b1⟩
  have hr1 := hr0.next b1
  have b1 := b0.trans (b1.mono b0.size)
  clear hr0 b0
  go_wp2_with fail
  go_loopw [5] (fun v wr => ∃ k : Nat, k ≤ 504 - s.length ∧ v = .string (str (putL (w32 p) ++ (s ++ UK.zeros k))) ∧ wr = w1) (fun v _ => 600 - tlen v)
  case atStart => exact ⟨0, Nat.zero_le _, by simp [UK.zeros], rfl⟩
  case round =>
    obtain ⟨k, hk, rfl, rfl⟩ := hrel
    have hl : (putL (w32 p) ++ (s ++ UK.zeros k)).length = 4 + s.length + k := by rw [List.length_append, List.length_append, UK.zeros_length]; show 4 + _ = _; omega
    have HX : Hid (putL (w32 p) ++ (s ++ UK.zeros k) ++ [0] = putL (w32 p) ++ (s ++ UK.zeros (k + 1))) := by
      show _ = _
      unfold UK.zeros
      rw [List.replicate_succ', List.append_assoc, List.append_assoc]
    have hl2 : (putL (w32 p) ++ (s ++ UK.zeros (k + 1))).length = 4 + s.length + k + 1 := by rw [List.length_append, List.length_append, UK.zeros_length]; show 4 + _ = _; omega
    by_cases hlt : k < 504 - s.length
    · have hl3 : 4 + s.length + k < 508 := by omega
      generalize hg : putL (w32 p) ++ (s ++ UK.zeros k) = r at hl HX ⊢
      go_wp2
      go_roundw
      case rel => exact ⟨k + 1, by omega, by rw [HX.out], trivial⟩
      case measure => simp [tlen, UK.str_size]; omega
    · obtain rfl : k = 504 - s.length := by omega
      have HR2 : Hid (putL (w32 p) ++ (s ++ UK.zeros (504 - s.length)) = restL p s) := rfl
      rw [HR2.out] at hl ⊢
      have hl3 : (restL p s).length = 508 := by omega
      clear hl hl2 HX HR2
      have HA := fun w => radd_any 0 (restL p s) w (by rw [hl3]; decide)
      rw [radd_add] at HA
      generalize restL p s = r at HP hl3 HA ⊢
      go_wp2_with fail
      refine (HA _).mono ?_
      rintro e w' ⟨rfl, rfl⟩
      go_wp2_with fail
      refine (rput_any _ _).mono ?_
      rintro e w3 ⟨rfl, b3⟩
      have hr3 := hr1.next b3
      have b3 := b1.trans (b3.mono b1.size)
      have c0 := hr3.cell 0 _ rfl
      have f0 := hr3.free 0
      have hr4 := hr3.set 0 (.string (str (putL (addU 0 r) ++ r)))
      go_wp2
      refine bodyPost_ret (UK.box_ret rfl _ hr4 rfl page_under rfl page_size) rfl ?_
      exact ⟨by rw [HP.out] <;> rfl, b3.setCell (Nat.le_refl _) _⟩
theorem radd_zero (l : List UInt8) (w : World) (hs : l.length ≤ maxLen) :
    Calls Tryd.prog 65 #[.int .u32 0, .string (str l)] w fun e w' => e = .returned (.int .u32 (addU 0 l).toNat) ∧ w = w' := by
  have := radd_any 0 l w hs
  rwa [radd_add] at this
theorem put_is (l : List UInt8) (h : l.length = 4) (c : UInt32) : (l == putL c) = decide (getL l = c) := by
  by_cases e : getL l = c
  · rw [decide_eq_true e, ← e, put_get l h]; exact beq_self_eq_true _
  · rw [decide_eq_false e, beq_eq_false_iff_ne]
    intro h2
    exact e (by rw [h2, get_put])
theorem word_is (l : List UInt8) (h : l.length = 4) (p : Nat) (hp : p ≤ 60000) : (l == putL (w32 p)) = decide (((getL l).toNat : Int) = p) := by
  rw [put_is l h]
  have h32 : ((w32 p).toNat : Int) = p := by rw [← UK.w32_is p]; omega
  refine decide_eq_decide.2 ⟨fun e => by rw [e, h32], fun e => UInt32.toNat_inj.1 (by omega)⟩
set_option maxRecDepth 100000 in
theorem rright_any (g : List UInt8) (p : Nat) (hp : p ≤ 60000) (hg : g.length = 512) (W : World) :
    Calls Tryd.prog 60 #[.agg #[.string (str g)], .int .i64 p] W fun e w' => e = .returned (.bool (okP g p)) ∧ Below W.heap.size W w' := by
  have hx0 := Box.new W #[.string (str g)] 73
  have b0 := (Below.refl W.heap.size W).alloc (Nat.le_refl _) (.cells #[.string (str g)] 73)
  have hl4 : (g.take 4).length = 4 := by rw [List.length_take]; omega
  have hl5 : ((g.take 8).drop 4).length = 4 := by rw [List.length_drop, List.length_take]; omega
  have hl6 : ((g.take 512).drop 4).length ≤ maxLen := by rw [List.length_drop, List.length_take, hg]; decide
  have HOK : Hid (okP g p = (decide (getL (g.take 4) = addU 0 ((g.take 512).drop 4)) && decide (((getL ((g.take 8).drop 4)).toNat : Int) = p))) := by
    show _ = _
    rw [List.take_of_length_le (i := 512) (by omega), List.drop_take]
    rfl
  have q1 := put_is (g.take 4) hl4 (addU 0 ((g.take 512).drop 4))
  have q2 := word_is ((g.take 8).drop 4) hl5 p hp
  go_enter Tryd.func60, Tryd.ntmps60
  go_wp2_with fail
  obtain ⟨W1, HW1⟩ : ∃ W1, Hid (W.alloc (.cells #[.string (str g)] 73) = W1) := ⟨_, rfl⟩
  rw [HW1.out] at hx0 b0 ⊢
  refine UK.wp_region_kept (fun w' => Below W1.heap.size W1 w') (by kernel_rfl) (by kernel_rfl) ((Below.refl _ _).drew) ?_
  haveI := UK.kept_some W1
  have hcell : ∀ k : UK.Kept (fun w' => Below W1.heap.size W1 w'), k.w.cell? ⟨W.heap.size, 0, none⟩ = some (.string (str g)) := fun k => (hx0.next k.h).cell 0 _ rfl
  have HX1 := Lib.hid (fun w => radd_zero ((g.take 512).drop 4) w hl6)
  have HX2 := Lib.hid (fun w => rput_any (addU 0 ((g.take 512).drop 4)) w)
  have HX3 := Lib.hid (fun w => rword_any p hp w)
  by_cases e1 : getL (g.take 4) = addU 0 ((g.take 512).drop 4)
  · rw [decide_eq_true e1] at q1
    have HQ := Lib.hid e1
    clear e1 hl4 hl5 hl6
    repeat (go_big_quiet_step (first | exact UK.kept_same (HX1.out _) (UK.Kept.h _) | exact UK.kept_below (HX2.out _) (UK.Kept.h _) | exact UK.kept_below (HX3.out _) (UK.Kept.h _)))
    refine wpQuiet_nil ?_
    rintro ⟨w3, hb3⟩
    go_wp2
    go_ret
    exact ⟨by rw [HOK.out, decide_eq_true HQ.out, Bool.true_and] <;> rfl, b0.trans (hb3.mono b0.size)⟩
  · rw [decide_eq_false e1] at q1
    have HQ := Lib.hid e1
    clear e1 hl4 hl5 hl6
    repeat (go_big_quiet_step (first | exact UK.kept_same (HX1.out _) (UK.Kept.h _) | exact UK.kept_below (HX2.out _) (UK.Kept.h _) | exact UK.kept_below (HX3.out _) (UK.Kept.h _)))
    refine wpQuiet_nil ?_
    rintro ⟨w3, hb3⟩
    go_wp2
    go_ret
    exact ⟨by rw [HOK.out, decide_eq_false HQ.out, Bool.false_and] <;> rfl, b0.trans (hb3.mono b0.size)⟩
end Go.Proofs.YtamnhpijeiigcaaDoor
