/-
  disk.look, next, fail: what they compute.
-/
import Derived.Test.YtjfkdfffolkblaaDoorDiskA
namespace Go.Proofs.YtjfkdfffolkblaaDoor
open Go.RowKit
open UK (str BytesAt nth Only w32)
open Go.BigFrame
/-- are a page's owner bytes as they were laid? -/
def okB (x : List UInt8) (p : Nat) : Bool := decide (getL ((x.drop (512 * p)).take 4) = addU 0 ((x.drop (512 * p + 4)).take 508)) && decide (((getL ((x.drop (512 * p + 4)).take 4)).toNat : Int) = p)
/-- a page's owner bytes -/
def loadL (x : List UInt8) (p : Nat) : List UInt8 := (x.drop (512 * p + 8)).take 504
def lookL (x : List UInt8) (p : Nat) : List UInt8 := if okB x p then loadL x p else []
theorem lookL_yes {x : List UInt8} {p : Nat} (h : okB x p = true) : lookL x p = loadL x p := by unfold lookL; rw [h]; rfl
theorem lookL_no {x : List UInt8} {p : Nat} (h : okB x p = false) : lookL x p = [] := by unfold lookL; rw [h]; rfl
set_option maxRecDepth 100000 in
theorem look_any {W : World} {D B : Nat} {x : List UInt8} (h : BytesAt W B x) (n c p : Nat) (hd : W.cell? ⟨D, 0, none⟩ = some (.slice (some ⟨B, 0, none⟩) n c)) (hn : n ≤ x.length) (hc : n ≤ c) (hn1 : n ≤ 100000000) (hp : 512 * (p + 1) ≤ n) (ht : TabAt W) :
    Calls Tryd.prog 66 #[.pointer (some ⟨D, 0, none⟩), .int .i64 p] W fun e w' => e = .returned (.tuple #[.string (str (lookL x p)), .bool (okB x p)]) ∧ Below W.heap.size W w' := by
  obtain ⟨o, HO⟩ : ∃ o, p * 512 = o := ⟨_, rfl⟩
  have hq2 : (p + 1) * 512 - o = 512 := by omega
  have hcv1 := fun cc => UK.run_window (P := Tryd.prog) (src := 77) (dst := 9) Tryd.underlying77 Tryd.underlying5 Tryd.underlying9 h o 4 cc (by omega)
  have hl4 : ((x.drop o).take 4).length = 4 := by rw [List.length_take, List.length_drop]; omega
  have hl5 : ((x.drop (o + 4)).take 508).length = 508 := by rw [List.length_take, List.length_drop]; omega
  have HK : Hid (okB x p = (decide (getL ((x.drop o).take 4) = addU 0 ((x.drop (o + 4)).take 508)) && decide (((getL ((x.drop (o + 4)).take 4)).toNat : Int) = p))) := by
    show _ = _
    unfold okB
    rw [show 512 * p = o by omega]
  have HL : Hid (loadL x p = (x.drop (o + 8)).take 504) := by
    show _ = _
    unfold loadL
    rw [show 512 * p = o by omega]
  have hu := fun w hb => get_u32 (W := w) (B := B) (x := x) hb (o + 4) 508 (c - o - 4) (by omega) (by omega)
  have hvv := fun (w : World) (hb : BytesAt w B x) => UK.run_window (P := Tryd.prog) (src := 77) (dst := 9) Tryd.underlying77 Tryd.underlying5 Tryd.underlying9 hb (o + 4) 508 (c - o - 4) (by omega)
  have hvw := fun (w : World) (hb : BytesAt w B x) => UK.run_window (P := Tryd.prog) (src := 77) (dst := 9) Tryd.underlying77 Tryd.underlying5 Tryd.underlying9 hb (o + 8) 504 (c - o - 8) (by omega)
  generalize (x.drop o).take 4 = a at hcv1 hl4 HK
  generalize (x.drop (o + 4)).take 508 = r at hvv hl5 HK
  generalize getL ((x.drop (o + 4)).take 4) = u at hu HK
  generalize (x.drop (o + 8)).take 504 = s at hvw HL
  go_enter Tryd.func66, Tryd.ntmps66
  go_wp2_with fail
  refine (get_four a W hl4).mono ?_
  rintro e w' ⟨rfl, k, rfl⟩
  have hv1 := hvv _ (h.drewN k)
  go_wp2_with fail
  refine (sum_any r _ (ht.drewN k) (by rw [hl5]; decide)).mono ?_
  rintro e w' ⟨rfl, rfl⟩
  have b1 := UK.belowN (Below.refl W.heap.size W) k
  have h1 := h.drewN k
  generalize W.drewN k = w1 at h1 b1 hv1 ⊢
  generalize getL a = ga at HK ⊢
  generalize addU 0 r = ar at HK ⊢
  by_cases hne : ga = ar
  · subst hne
    go_wp2_with fail
    refine (hu w1 h1).mono ?_
    rintro e w2 ⟨rfl, b2⟩
    have h2 := h1.below b2 h1.lt
    have hv2 := hvw _ h2
    have b3 := b1.trans (b2.mono b1.size)
    by_cases hp2 : (u.toNat : Int) = p
    · have HO2 : Hid (okB x p = true) := by show _ = _; rw [HK.out, decide_eq_true hp2]; simp
      have hp3 : ((u.toNat : Int) == p) = true := beq_iff_eq.2 hp2
      clear hp2 hv1
      go_wp2
      go_ret2
      exact ⟨by rw [lookL_yes HO2.out, HO2.out, HL.out] <;> rfl, b3⟩
    · have HO2 : Hid (okB x p = false) := by show _ = _; rw [HK.out, decide_eq_false hp2, Bool.and_false]
      have hp3 : ((u.toNat : Int) == p) = false := beq_eq_false_iff_ne.2 hp2
      clear hp2 hv1 hv2
      go_wp2
      go_ret2
      exact ⟨by rw [lookL_no HO2.out, HO2.out] <;> rfl, b3⟩
  · have HO2 : Hid (okB x p = false) := by show _ = _; rw [HK.out, decide_eq_false hne, Bool.false_and]
    have hp3 : (ga == ar) = false := beq_eq_false_iff_ne.2 hne
    have hnu := UK.ne_u32
    clear hne
    go_wp2
    go_ret2
    exact ⟨by rw [lookL_no HO2.out, HO2.out] <;> rfl, b1⟩
end Go.Proofs.YtjfkdfffolkblaaDoor
