/-
  Long, of the laws of layer 6 (slot), walked.
-/
import Derived.Test.YtdbnlcmnnoajoaaSlotP
namespace Go.Proofs.Ytdbnlcmnnoajoaa
open Go.RowKit
open UK (str BytesAt nth Only)
open Go.BigFrame
open SR (Recs rcd total)
theorem cut_any (l : List UInt8) (n : Int) (w : World) (hn : 0 ≤ n) :
    Calls Try.prog 20 #[.string (str l), .int .i64 n] w fun e w' => e = .returned (.string (str (l.take n.toNat))) ∧ w = w' := by
  by_cases h : n < (l.length : Int)
  · go_enter Try.func20, Try.ntmps20
    go_wp2
    go_ret
    exact ⟨rfl, rfl⟩
  · have e : l.take n.toNat = l := List.take_of_length_le (by omega)
    rw [e]
    clear e
    go_enter Try.func20, Try.ntmps20
    go_wp2
    go_ret
    exact ⟨rfl, rfl⟩
/-- a text so often, of at most 600 bytes -/
def longL (s : List UInt8) (n : Int) : List UInt8 := (List.replicate (max 1 (min n.toNat (600 / (s.take 60).length))) (s.take 60)).flatten
theorem flat_length (k : Nat) (u : List UInt8) : (List.replicate k u).flatten.length = k * u.length := by
  rw [List.length_flatten, List.map_replicate, List.sum_replicate_nat]
theorem longL_le (s : List UInt8) (n : Int) : (longL s n).length ≤ 600 := by
  unfold longL
  rw [flat_length]
  have hl : (s.take 60).length ≤ 60 := by rw [List.length_take]; exact Nat.min_le_left _ _
  generalize (s.take 60).length = a at hl
  by_cases h : min n.toNat (600 / a) ≤ 1
  · rw [Nat.max_eq_left h]; omega
  · rw [Nat.max_eq_right (by omega)]
    have h1 : min n.toNat (600 / a) ≤ 600 / a := Nat.min_le_right _ _
    exact Nat.le_trans (Nat.mul_le_mul_right _ h1) (Nat.div_mul_le_self 600 a)
theorem flat_succ (k : Nat) (u : List UInt8) : (List.replicate (k + 1) u).flatten = (List.replicate k u).flatten ++ u := by
  rw [List.replicate_succ', List.flatten_append]; simp
theorem long_det (s : List UInt8) (n : Int) (w : World) (hn : n ≤ 9223372036854775807) :
    Calls Try.prog 9 #[.string (str s), .int .i64 n] w fun e w' => e = .returned (.string (str (longL s n))) ∧ w = w' := by
  have HL := Lib.hid (show longL s n = (List.replicate (max 1 (min n.toNat (600 / (s.take 60).length))) (s.take 60)).flatten from rfl)
  go_enter Try.func9, Try.ntmps9
  go_wp2_with fail
  refine (cut_any s 60 w (by decide)).mono ?_
  rintro e w' ⟨rfl, rfl⟩
  rw [show (60 : Int).toNat = 60 from rfl]
  have hl : (s.take 60).length ≤ 60 := by rw [List.length_take]; exact Nat.min_le_left _ _
  generalize s.take 60 = u at hl HL ⊢
  go_wp2_with fail
  by_cases h0 : u = []
  · subst h0
    have HL2 : Hid (longL s n = []) := by show _ = _; rw [HL.out]; simp
    go_loop [5, 6] (fun t i => t = .string (str []) ∧ ∃ k : Nat, i = .int .i64 (k + 1)) (fun _ i => n.toNat - (intOf i).toNat)
    case atStart => exact ⟨rfl, 0, rfl⟩
    case round =>
      obtain ⟨rfl, k, rfl⟩ := hrel
      by_cases hk : (k : Int) + 1 < n
      · go_wp2
        go_ret
        exact ⟨by rw [HL2.out] <;> rfl, rfl⟩
      · go_wp2
        go_ret
        exact ⟨by rw [HL2.out] <;> rfl, rfl⟩
  · have hue : u.isEmpty = false := by cases u; exact absurd rfl h0; rfl
    have hu0 : 0 < u.length := List.length_pos_iff.2 h0
    clear h0
    have H10 : Hid (10 ≤ 600 / u.length) := (Nat.le_div_iff_mul_le hu0).2 (by omega)
    go_loop [5, 6] (fun t i => ∃ (k : Nat) (t' : List UInt8), 1 ≤ k ∧ Hid (k ≤ max 1 (min n.toNat (600 / u.length))) ∧ Hid (t' = (List.replicate k u).flatten) ∧ i = .int .i64 k ∧ t = .string (str t')) (fun _ i => n.toNat - (intOf i).toNat)
    case atStart => exact ⟨1, u, by omega, Nat.le_max_left _ _, by show _ = _; simp, rfl, rfl⟩
    case round =>
      obtain ⟨k, t', hk1, HK, HT, rfl, rfl⟩ := hrel
      have hlt : t'.length = k * u.length := by rw [HT.out, flat_length]
      have hk600 : k ≤ 600 := by
        have h1 := HK.out
        have h2 : 600 / u.length ≤ 600 := Nat.div_le_self _ _
        omega
      have hd : (t'.length : Int) + u.length ≤ 600 ↔ k + 1 ≤ 600 / u.length := by
        rw [Nat.le_div_iff_mul_le hu0, hlt, Nat.add_mul]; omega
      have ht6 : t'.length ≤ 600 := by
        have h1 := longL_le s n
        rw [HL.out, flat_length] at h1
        rw [hlt]
        exact Nat.le_trans (Nat.mul_le_mul_right _ HK.out) h1
      have HD := Lib.hid hd
      have HFS := Lib.hid (flat_succ k u)
      clear hd hlt
      by_cases hk : (k : Int) < n
      · by_cases hf : (t'.length : Int) + u.length ≤ 600
        · have hn2 : ¬ t'.length + u.length > 9223372036854775807 := by omega
          have HK2 : Hid (k + 1 ≤ max 1 (min n.toNat (600 / u.length))) := by show _ ≤ _; have := HD.out.1 hf; omega
          have HT2 : Hid (t' ++ u = (List.replicate (k + 1) u).flatten) := by show _ = _; rw [HFS.out, HT.out]
          go_wp2
          go_round
          case rel => exact ⟨k + 1, t' ++ u, by omega, HK2, HT2, by go_num, rfl⟩
          case measure => simp [intOf]; omega
        · have HE : Hid (longL s n = t') := by
            show _ = _
            have h1 := HK.out
            have h2 : ¬ k + 1 ≤ 600 / u.length := fun h => hf (HD.out.2 h)
            have h10 := H10.out
            rw [HL.out, HT.out]
            congr 2
            omega
          go_wp2
          go_ret
          exact ⟨by rw [HE.out] <;> rfl, rfl⟩
      · have HE : Hid (longL s n = t') := by
          show _ = _
          have h1 := HK.out
          have h10 := H10.out
          rw [HL.out, HT.out]
          congr 2
          omega
        go_wp2
        go_ret
        exact ⟨by rw [HE.out] <;> rfl, rfl⟩
theorem long_any (s : List UInt8) (n : Int) (w : World) (hn : n ≤ 9223372036854775807) :
    Calls Try.prog 9 #[.string (str s), .int .i64 n] w fun e w' => (∃ t : List UInt8, t.length ≤ 600 ∧ e = .returned (.string (str t))) ∧ w = w' :=
  (long_det s n w hn).mono fun _ _ ⟨he, hw⟩ => ⟨⟨_, longL_le s n, he⟩, hw⟩
/-- one sign, so often -/
theorem long_one (c : UInt8) (n : Nat) (w : World) (hn : n ≤ 600) (h1 : 1 ≤ n) :
    Calls Try.prog 9 #[.string (str [c]), .int .i64 n] w fun e w' => e = .returned (.string (str (List.replicate n c))) ∧ w = w' := by
  go_enter Try.func9, Try.ntmps9
  go_wp2_with fail
  refine (cut_any [c] 60 w (by decide)).mono ?_
  rintro e w' ⟨rfl, rfl⟩
  rw [show [c].take (60 : Int).toNat = [c] from rfl]
  go_wp2_with fail
  go_loop [5, 6] (fun t i => ∃ k : Nat, 1 ≤ k ∧ k ≤ n ∧ i = .int .i64 k ∧ t = .string (str (List.replicate k c))) (fun _ i => n - (intOf i).toNat)
  case atStart => exact ⟨1, by omega, h1, rfl, rfl⟩
  case round =>
    obtain ⟨k, hk1, hk, rfl, rfl⟩ := hrel
    have hrl : (List.replicate k c).length = k := List.length_replicate
    have HR : Hid (List.replicate (k + 1) c = List.replicate k c ++ [c]) := List.replicate_succ'
    have HK : Hid (k = n → List.replicate k c = List.replicate n c) := fun h => by rw [h]
    generalize List.replicate k c = t at hrl HR HK
    by_cases hlt : k < n
    · have hn2 : ¬ t.length + 1 > 9223372036854775807 := by omega
      have hf : (t.length : Int) + 1 ≤ 600 := by omega
      clear hrl
      go_wp2
      go_round
      case rel => exact ⟨k + 1, by omega, by omega, by go_num, by rw [HR.out]⟩
      case measure => simp [intOf]; omega
    · have he := HK.out (by omega)
      have HE := Lib.hid he
      clear he hrl
      go_wp2
      go_ret
      exact ⟨by rw [← HE.out] <;> rfl, rfl⟩
end Go.Proofs.Ytdbnlcmnnoajoaa
