/-
  The laws of layer 6 (slot), walked: awake, Long.
-/
import Derived.Test.YtdbnlcmnnoajoaaSlotP
namespace Go.Proofs.Ytdbnlcmnnoajoaa
open Go.RowKit
open UK (str BytesAt nth Only)
open Go.BigFrame
open SR (Recs rcd total)
theorem cut_any (l : List UInt8) (n : Int) (w : World) (hn : 0 ≤ n) :
    Calls Try.prog 20 #[.string (str l), .int .i64 n] w fun e w' => e = .returned (.string (str (l.take n.toNat))) ∧ w = w' := by
  by_cases h : n < (l.length : Int)
  · go_enter Try.func20, Try.ntmps20
    go_wp2
    go_ret
    exact ⟨rfl, rfl⟩
  · have e : l.take n.toNat = l := List.take_of_length_le (by omega)
    rw [e]
    clear e
    go_enter Try.func20, Try.ntmps20
    go_wp2
    go_ret
    exact ⟨rfl, rfl⟩
/-- make([]byte, slot.Size) -/
theorem make_page (w : World) : (Instr.makeSlice 23 (.int .i64 504) (.int .i64 504)).run Try.prog w = .ok (.slice (some ⟨w.heap.size, 0, none⟩) 504 504) (w.alloc (.cells (UK.bcells (UK.zeros 504)) 5)) := by kernel_rfl
theorem page_new (w : World) : BytesAt (w.alloc (.cells (UK.bcells (UK.zeros 504)) 5)) w.heap.size (UK.zeros 504) := by
  refine ⟨5, (0, 0), ?_, fun i _ h => absurd h.2 (Nat.not_lt_zero _)⟩
  show (w.heap.push _)[w.heap.size]? = _
  rw [Array.getElem?_push_size]
theorem page_init (W0 w : World) (hb : Below W0.heap.size W0 w) :
    Calls Try.prog 8 #[.slice (some ⟨w.heap.size, 0, none⟩) 504 504] (w.alloc (.cells (UK.bcells (UK.zeros 504)) 5)) fun e w' => e = .returned (.tuple #[]) ∧ Page W0 w' w.heap.size [] := by
  refine (init_any w.heap.size (UK.zeros 504) 504 _ (page_new w) (by rw [UK.zeros_length]; exact Nat.le_refl _)).mono fun e w' ⟨he, ⟨x, h1, h2, _⟩, ho⟩ => ⟨he, hb.size, ?_, x, h1, h2⟩
  exact (hb.alloc hb.size _).trans (ho.below (by simp; have := hb.size; omega) hb.size)
theorem long_any (s : List UInt8) (n : Int) (w : World) (hn : n ≤ 9223372036854775807) :
    Calls Try.prog 9 #[.string (str s), .int .i64 n] w fun e w' => (∃ t : List UInt8, t.length ≤ 600 ∧ e = .returned (.string (str t))) ∧ w = w' := by
  go_enter Try.func9, Try.ntmps9
  go_wp2_with fail
  refine (cut_any s 60 w (by decide)).mono ?_
  rintro e w' ⟨rfl, rfl⟩
  have hl : (s.take (60 : Int).toNat).length ≤ 60 := by rw [List.length_take]; exact Nat.min_le_left _ _
  generalize s.take (60 : Int).toNat = u at hl ⊢
  go_wp2_with fail
  by_cases h0 : u = []
  · subst h0
    go_loop [5, 6] (fun t i => t = .string (str []) ∧ ∃ k : Nat, i = .int .i64 (k + 1)) (fun _ i => n.toNat - (intOf i).toNat)
    case atStart => exact ⟨rfl, 0, rfl⟩
    case round =>
      obtain ⟨rfl, k, rfl⟩ := hrel
      by_cases hk : (k : Int) + 1 < n
      · go_wp2
        go_ret
        exact ⟨⟨[], by decide, rfl⟩, rfl⟩
      · go_wp2
        go_ret
        exact ⟨⟨[], by decide, rfl⟩, rfl⟩
  · have hue : u.isEmpty = false := by cases u; exact absurd rfl h0; rfl
    have hu0 : 0 < u.length := List.length_pos_iff.2 h0
    clear h0
    go_loop [5, 6] (fun t i => ∃ (k : Nat) (t' : List UInt8), t'.length ≤ 600 ∧ i = .int .i64 (k + 1) ∧ t = .string (str t')) (fun _ i => n.toNat - (intOf i).toNat)
    case atStart => exact ⟨0, u, by omega, rfl, rfl⟩
    case round =>
      obtain ⟨k, t', ht, rfl, rfl⟩ := hrel
      by_cases hk : (k : Int) + 1 < n
      · by_cases hf : (t'.length : Int) + u.length ≤ 600
        · have hn2 : ¬ t'.length + u.length > 9223372036854775807 := by omega
          have hlen : (t' ++ u).length ≤ 600 := by rw [List.length_append]; omega
          have HL := Lib.hid hlen
          clear hlen
          go_wp2
          go_round
          case rel => exact ⟨k + 1, t' ++ u, HL.out, by go_num, rfl⟩
          case measure => simp [intOf]; omega
        · go_wp2
          go_ret
          exact ⟨⟨t', ht, rfl⟩, rfl⟩
      · go_wp2
        go_ret
        exact ⟨⟨t', ht, rfl⟩, rfl⟩
/-- one sign, so often -/
theorem long_one (c : UInt8) (n : Nat) (w : World) (hn : n ≤ 600) (h1 : 1 ≤ n) :
    Calls Try.prog 9 #[.string (str [c]), .int .i64 n] w fun e w' => e = .returned (.string (str (List.replicate n c))) ∧ w = w' := by
  go_enter Try.func9, Try.ntmps9
  go_wp2_with fail
  refine (cut_any [c] 60 w (by decide)).mono ?_
  rintro e w' ⟨rfl, rfl⟩
  rw [show [c].take (60 : Int).toNat = [c] from rfl]
  go_wp2_with fail
  go_loop [5, 6] (fun t i => ∃ k : Nat, 1 ≤ k ∧ k ≤ n ∧ i = .int .i64 k ∧ t = .string (str (List.replicate k c))) (fun _ i => n - (intOf i).toNat)
  case atStart => exact ⟨1, by omega, h1, rfl, rfl⟩
  case round =>
    obtain ⟨k, hk1, hk, rfl, rfl⟩ := hrel
    have hrl : (List.replicate k c).length = k := List.length_replicate
    have HR : Hid (List.replicate (k + 1) c = List.replicate k c ++ [c]) := List.replicate_succ'
    have HK : Hid (k = n → List.replicate k c = List.replicate n c) := fun h => by rw [h]
    generalize List.replicate k c = t at hrl HR HK
    by_cases hlt : k < n
    · have hn2 : ¬ t.length + 1 > 9223372036854775807 := by omega
      have hf : (t.length : Int) + 1 ≤ 600 := by omega
      clear hrl
      go_wp2
      go_round
      case rel => exact ⟨k + 1, by omega, by omega, by go_num, by rw [HR.out]⟩
      case measure => simp [intOf]; omega
    · have he := HK.out (by omega)
      have HE := Lib.hid he
      clear he hrl
      go_wp2
      go_ret
      exact ⟨by rw [← HE.out] <;> rfl, rfl⟩
end Go.Proofs.Ytdbnlcmnnoajoaa
