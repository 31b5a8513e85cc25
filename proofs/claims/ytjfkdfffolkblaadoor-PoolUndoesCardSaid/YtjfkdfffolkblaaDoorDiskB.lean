/-
  vint.U32, PutU32; disk.word: what they compute.
  disk.look, next, fail: what they compute.
-/
import Derived.Test.YtjfkdfffolkblaaDoorCrc
import Derived.Test.YtjfkdfffolkblaaDoorUMem
namespace Go.Proofs.YtjfkdfffolkblaaDoor
open Go.RowKit
open UK (str BytesAt nth Only wr)
open Go.BigFrame
namespace UK
theorem wr_snoc (x : List UInt8) (a : Nat) (s : List UInt8) (v : UInt8) (h : a + s.length < x.length) : (wr x a s).set (a + s.length) v = wr x a (s ++ [v]) := by
  unfold wr
  have h1 : (x.take a).length = a := by rw [List.length_take]; omega
  rw [List.set_append_right _ _ (by omega), h1, List.set_append_right _ _ (by omega), show a + s.length - a - s.length = 0 by omega]
  rw [List.drop_eq_getElem_cons h, List.set_cons_zero, List.append_assoc, List.length_append]
  rfl
theorem wr_head (x : List UInt8) (a : Nat) (s : List UInt8) (h : a ≤ x.length) : (wr x a s).take (a + s.length) = x.take a ++ s := by
  unfold wr
  have h1 : (x.take a).length = a := by rw [List.length_take]; omega
  rw [← List.append_assoc, List.take_left' (by rw [List.length_append, h1])]
theorem wr_tail (x : List UInt8) (a : Nat) (s : List UInt8) (k : Nat) (h : a ≤ x.length) : (wr x a s).drop (a + s.length + k) = x.drop (a + s.length + k) := by
  unfold wr
  have h1 : (x.take a).length = a := by rw [List.length_take]; omega
  rw [← List.append_assoc, List.drop_append, List.drop_eq_nil_of_le (by rw [List.length_append, h1]; omega), List.nil_append, List.length_append, h1, show a + s.length + k - (a + s.length) = k by omega, List.drop_drop]
theorem wr_after (x : List UInt8) (a : Nat) (s t : List UInt8) (h : a ≤ x.length) : wr (wr x a s) (a + s.length) t = wr x a (s ++ t) := by
  conv => lhs; unfold wr
  have e := wr_head x a s h
  have f := wr_tail x a s t.length h
  unfold wr at e f ⊢
  rw [e, f, List.length_append, List.append_assoc, List.append_assoc, Nat.add_assoc]
theorem wr_before (x : List UInt8) (a : Nat) (b t : List UInt8) (h : a + b.length ≤ x.length) : wr (wr x (a + b.length) t) a b = wr x a (b ++ t) := by
  unfold wr
  have h1 : (x.take (a + b.length)).length = a + b.length := by rw [List.length_take]; omega
  rw [List.take_append_of_le_length (by omega), List.take_take, Nat.min_eq_left (by omega), List.drop_append_of_le_length (by omega), List.drop_eq_nil_of_le (by omega), List.nil_append, List.length_append, List.append_assoc, Nat.add_assoc]
theorem wr_at (x : List UInt8) (a : Nat) (s : List UInt8) (h : a ≤ x.length) : ((wr x a s).drop a).take s.length = s := by
  unfold wr
  have h1 : (x.take a).length = a := by rw [List.length_take]; omega
  rw [List.drop_left' h1, List.take_left' rfl]
theorem wr_nil (x : List UInt8) (a : Nat) : wr x a [] = x := by simp [wr]
def w32 (p : Nat) : UInt32 := UInt32.ofNat p
theorem w32_is (p : Nat) : (p : Int) % 4294967296 = ((w32 p).toNat : Int) := by
  simp [w32]
theorem TabAt_only {B : Nat} {w w' : World} (h : TabAt w) (ho : Only B w w') (hB : 0 ≠ B) : TabAt w' := fun c => by
  have hl := h.lt
  rw [← h c]
  exact World.cell?_of_block (a := ⟨0, _, none⟩) (ho.block _ hl hB)
end UK
open UK (w32)
theorem putL_take (v : UInt32) (k : Nat) (h : k < 4) : (putL v).take (k + 1) = (putL v).take k ++ [UK.byteOf v k] := by
  match k, h with
  | 0, _ | 1, _ | 2, _ | 3, _ => rfl
theorem put_u32 {W : World} {B : Nat} {x : List UInt8} (h : BytesAt W B x) (o n c : Nat) (hn : 4 ≤ n) (ho : o + n ≤ x.length) (hl : n ≤ 100000000) (v : UInt32) :
    Calls Tryd.prog 127 #[.slice (some ⟨B, o, none⟩) n c, .int .u32 v.toNat] W fun e w' => e = .returned (.tuple #[]) ∧ BytesAt w' B (UK.wr x o (putL v)) ∧ Only B W w' := by
  have h4 : (putL v).length = 4 := rfl
  go_enter Tryd.func127, Tryd.ntmps127
  go_wp2_with fail
  go_loopw [5] (fun i wr_ => ∃ k : Nat, k ≤ 4 ∧ i = .int .i64 k ∧ BytesAt wr_ B (UK.wr x o ((putL v).take k)) ∧ Only B W wr_) (fun i _ => 4 - (intOf i).toNat)
  case atStart => exact ⟨0, Nat.zero_le _, rfl, by rw [List.take_zero, UK.wr_nil]; exact h, Only.refl _ _⟩
  case round =>
    obtain ⟨k, hk, rfl, hb, hw⟩ := hrel
    by_cases hlt : k < 4
    · have hkl : ((putL v).take k).length = k := by rw [List.length_take, h4]; omega
      have hwl : (UK.wr x o ((putL v).take k)).length = x.length := UK.wr_length _ _ _ (by rw [hkl]; omega)
      have hc := hb.cell (i := o + k) (by omega)
      have hf := hb.free (i := o + k) (by omega)
      have hset := hb.set (o + k) (UK.byteOf v k)
      have hs2 := UK.wr_snoc x o ((putL v).take k) (UK.byteOf v k) (by rw [hkl]; omega)
      rw [hkl] at hs2
      rw [hs2, ← putL_take v k hlt] at hset
      have hwo := hw.set (o + k) (.int .u8 ((UK.byteOf v k).toNat : Int))
      clear hs2 hwl hkl h4
      go_wp2
      go_roundw
      case rel => exact ⟨k + 1, by omega, by go_num, hset, hwo⟩
      case measure => simp [intOf]; omega
    · obtain rfl : k = 4 := by omega
      go_wp2
      go_end0
      exact ⟨rfl, hb, hw⟩
theorem get_u32 {W : World} {B : Nat} {x : List UInt8} (h : BytesAt W B x) (o n c : Nat) (hn : 4 ≤ n) (ho : o + n ≤ x.length) :
    Calls Tryd.prog 117 #[.slice (some ⟨B, o, none⟩) n c] W fun e w' => e = .returned (.int .u32 (getL ((x.drop o).take 4)).toNat) ∧ Below W.heap.size W w' := by
  have c0 := h.cell (i := o) (by omega)
  have c1 := h.cell (i := o + 1) (by omega)
  have c2 := h.cell (i := o + 2) (by omega)
  have c3 := h.cell (i := o + 3) (by omega)
  have hg : Hid (getL ((x.drop o).take 4) = UK.or32 (UK.or32 (UK.or32 (UK.wide (nth x o)) (UK.shl (UK.wide (nth x (o + 1))) 1)) (UK.shl (UK.wide (nth x (o + 2))) 2)) (UK.shl (UK.wide (nth x (o + 3))) 3)) := by
    show _ = _
    unfold getL
    have e : ∀ j, j < 4 → nth ((x.drop o).take 4) j = nth x (o + j) := fun j hj => by
      simp only [nth, List.getD_eq_getElem?_getD]
      rw [List.getElem?_take_of_lt hj, List.getElem?_drop]
    rw [e 0 (by omega), e 1 (by omega), e 2 (by omega), e 3 (by omega), Nat.add_zero]
  go_enter Tryd.func117, Tryd.ntmps117
  go_wp2
  go_quiet (fail)
  go_wp2
  go_ret
  exact ⟨by rw [hg.out] <;> rfl, UK.belowN (Below.refl _ _) _⟩
theorem word_any (v : UInt32) (w : World) :
    Calls Tryd.prog 105 #[.int .u32 v.toNat] w fun e w' => e = .returned (.string (str (putL v))) ∧ Below w.heap.size w w' := by
  go_enter Tryd.func105, Tryd.ntmps105
  go_wp2_with fail
  have hz : BytesAt (w.alloc (.cells #[.int .u8 0, .int .u8 0, .int .u8 0, .int .u8 0] 167)) w.heap.size (UK.zeros 4) := by
    refine ⟨167, (0, 0), ?_, fun i _ h => absurd h.2 (Nat.not_lt_zero _)⟩
    show (w.heap.push _)[w.heap.size]? = _
    rw [Array.getElem?_push_size]
    rfl
  have hz4 : (UK.zeros 4).length = 4 := UK.zeros_length 4
  refine (put_u32 hz 0 4 4 (by omega) (by omega) (by omega) v).mono ?_
  rintro e w2 ⟨rfl, hb, ho⟩
  have hw : UK.wr (UK.zeros 4) 0 (putL v) = putL v := rfl
  rw [hw] at hb
  have hcv := UK.run_window (P := Tryd.prog) (src := 77) (dst := 9) Tryd.underlying77 Tryd.underlying5 Tryd.underlying9 hb 0 4 4 (by show 0 + 4 ≤ 4; omega)
  have hw2 : ((putL v).drop 0).take 4 = putL v := rfl
  rw [hw2] at hcv
  go_wp2
  go_ret
  exact ⟨rfl, ((Below.refl _ _).alloc (Nat.le_refl _) _).trans (ho.below (by simp) (Nat.le_refl _))⟩
/-- a page's bytes behind its sum -/
def restL (p : Nat) (s : List UInt8) : List UInt8 := putL (w32 p) ++ (s ++ UK.zeros (504 - s.length))
/-- a page's bytes -/
def pageL (p : Nat) (s : List UInt8) : List UInt8 := putL (addU 0 (restL p s)) ++ restL p s
set_option maxRecDepth 100000 in
theorem lay_any {W : World} {D B : Nat} {x : List UInt8} (h : BytesAt W B x) (n c p : Nat) (s : List UInt8) (hd : W.cell? ⟨D, 0, none⟩ = some (.slice (some ⟨B, 0, none⟩) n c)) (hn : n ≤ x.length) (hc : n ≤ c) (hn1 : n ≤ 100000000) (hp : 512 * (p + 1) ≤ n) (hs : s.length ≤ 504)
    (ht : TabAt W) (hB : 0 ≠ B) :
    Calls Tryd.prog 104 #[.pointer (some ⟨D, 0, none⟩), .int .i64 p, .string (str s)] W fun e w' => e = .returned (.tuple #[]) ∧ BytesAt w' B (UK.wr x (512 * p) (pageL p s)) ∧ Only B W w' := by
  have h32 := Lib.hid (show (p : Int) = ((w32 p).toNat : Int) by rw [← UK.w32_is p]; omega)
  have hq : (p + 1) * 512 - p * 512 = 512 := by omega
  go_enter Tryd.func104, Tryd.ntmps104
  go_wp2_with fail
  obtain ⟨o, HO⟩ : ∃ o, p * 512 = o := ⟨_, rfl⟩
  rw [HO]
  have hq2 : (p + 1) * 512 - o = 512 := by omega
  rw [hq2]
  have hP := put_u32 h (o + 4) 508 (c - o - 4) (by omega) (by omega) (by omega) (w32 p)
  rw [← h32.out] at hP
  refine hP.mono ?_
  rintro e w1 ⟨rfl, h1, o1⟩
  have hl1 : (UK.wr x (o + 4) (putL (w32 p))).length = x.length := UK.wr_length _ _ _ (by show o + 4 + 4 ≤ _; omega)
  have hcp := fun cc => UK.run_copy (P := Tryd.prog) (dT := 77) (sT := 9) (ty := 3) Tryd.underlying77 (fun w => by kernel_rfl) h1 (o + 8) 504 cc s hs (by omega)
  have h2 := h1.setCells s (o + 8) (by omega)
  have o2 := o1.trans (Only.setCells (UK.cellsOf s) (o + 8) (Only.refl B w1))
  have hl2 := UK.wr_length (UK.wr x (o + 4) (putL (w32 p))) (o + 8) s (by omega)
  rw [hl1] at hl2
  obtain ⟨w2, HW2⟩ : ∃ w2, w1.setCells B (o + 8) (UK.cellsOf s) = w2 := ⟨_, rfl⟩
  rw [HW2] at h2 o2
  rw [HW2] at hcp
  have hcl := fun cc => UK.run_clear (P := Tryd.prog) (t := 77) (ty := 0) Tryd.underlying77 (fun w => by kernel_rfl) h2 (o + (8 + s.length)) (512 - (8 + s.length)) cc (by omega)
  have hz := h2.setCells (UK.zeros (512 - (8 + s.length))) (o + (8 + s.length)) (by rw [UK.zeros_length]; omega)
  have o3 := o2.trans (Only.setCells (UK.cellsOf (UK.zeros (512 - (8 + s.length)))) (o + (8 + s.length)) (Only.refl B w2))
  have hl3 := UK.wr_length (UK.wr (UK.wr x (o + 4) (putL (w32 p))) (o + 8) s) (o + (8 + s.length)) (UK.zeros (512 - (8 + s.length))) (by rw [UK.zeros_length]; omega)
  rw [hl2] at hl3
  obtain ⟨w3, HW3⟩ : ∃ w3, w2.setCells B (o + (8 + s.length)) (UK.cellsOf (UK.zeros (512 - (8 + s.length)))) = w3 := ⟨_, rfl⟩
  rw [HW3] at hz o3
  rw [HW3] at hcl
  have hcl0 : s.length = 504 → ∀ cc, (Builtin.clear_ #[77] 0 #[.slice (some ⟨B, o, none⟩) (512 - (8 + s.length)) cc]).run Tryd.prog w2 = .ok (.tuple #[]) w3 := fun e cc => by
    have this := UK.run_clear (P := Tryd.prog) (t := 77) (ty := 0) Tryd.underlying77 (fun w => by kernel_rfl) h2 o (512 - (8 + s.length)) cc (by omega)
    rw [← HW3]
    have e0 : 512 - (8 + s.length) = 0 := by omega
    rw [e0] at this ⊢
    exact this
  clear HW2 HW3
  have HX : Hid (UK.wr (UK.wr (UK.wr x (o + 4) (putL (w32 p))) (o + 8) s) (o + (8 + s.length)) (UK.zeros (512 - (8 + s.length))) = UK.wr x (o + 4) (restL p s)) := by
    show _ = _
    have h4 : (putL (w32 p)).length = 4 := rfl
    have e1 := UK.wr_after x (o + 4) (putL (w32 p)) s (by omega)
    have e2 := UK.wr_after x (o + 4) (putL (w32 p) ++ s) (UK.zeros (512 - (8 + s.length))) (by omega)
    rw [h4, show o + 4 + 4 = o + 8 by omega] at e1
    rw [List.length_append, h4, show o + 4 + (4 + s.length) = o + (8 + s.length) by omega] at e2
    rw [e1, e2]
    unfold restL
    rw [List.append_assoc, show 512 - (8 + s.length) = 504 - s.length by omega]
  rw [HX.out] at hz hl3
  have hrl : (restL p s).length = 508 := by
    unfold restL
    rw [List.length_append, List.length_append, UK.zeros_length]
    show 4 + _ = _
    omega
  have HR : Hid (((UK.wr x (o + 4) (restL p s)).drop (o + 4)).take 508 = restL p s) := by
    have := UK.wr_at x (o + 4) (restL p s) (by omega)
    rwa [hrl] at this
  have hcv := fun cc => UK.run_window (P := Tryd.prog) (src := 77) (dst := 9) Tryd.underlying77 Tryd.underlying5 Tryd.underlying9 hz (o + 4) 508 cc (by omega)
  rw [HR.out] at hcv
  have HE : Hid (UK.wr (UK.wr x (o + 4) (restL p s)) o (putL (addU 0 (restL p s))) = UK.wr x (512 * p) (pageL p s)) := by
    show _ = _
    rw [show 512 * p = o by omega]
    exact UK.wr_before x o (putL (addU 0 (restL p s))) (restL p s) (by show o + 4 ≤ _; omega)
  have ht3 := UK.TabAt_only ht o3 hB
  clear h1 h2 o1 o2 hl1 hl2 hP h32 HX HR
  generalize restL p s = r at hz hl3 hrl hcv HE
  by_cases hcase : c - o = 8 + s.length
  · have hs4 : s.length = 504 := by omega
    have hcl1 := hcl0 hs4
    clear hcl hcl0 hs4
    go_wp2_with fail
    refine (sum_any r w3 ht3 (by rw [hrl]; decide)).mono ?_
    rintro e w' ⟨rfl, rfl⟩
    go_wp2_with fail
    refine (put_any (addU 0 r) w3).mono ?_
    rintro e w5 ⟨rfl, b5⟩
    have h5 := hz.below b5 hz.lt
    have hcp2 := fun cc => UK.run_copy (P := Tryd.prog) (dT := 77) (sT := 9) (ty := 3) Tryd.underlying77 (fun w => by kernel_rfl) h5 o 512 cc (putL (addU 0 r)) (by show 4 ≤ _; omega) (by show o + 4 ≤ _; omega)
    have h6 := h5.setCells (putL (addU 0 r)) o (by show o + 4 ≤ _; omega)
    have o6 := (o3.trans (Only.of_below b5)).trans (Only.setCells (UK.cellsOf (putL (addU 0 r))) o (Only.refl B w5))
    rw [HE.out] at h6
    generalize w5.setCells B o (UK.cellsOf (putL (addU 0 r))) = w6 at hcp2 h6 o6
    go_wp2
    go_end0
    exact ⟨rfl, h6, o6⟩
  · clear hcl0
    go_wp2_with fail
    refine (sum_any r w3 ht3 (by rw [hrl]; decide)).mono ?_
    rintro e w' ⟨rfl, rfl⟩
    go_wp2_with fail
    refine (put_any (addU 0 r) w3).mono ?_
    rintro e w5 ⟨rfl, b5⟩
    have h5 := hz.below b5 hz.lt
    have hcp2 := fun cc => UK.run_copy (P := Tryd.prog) (dT := 77) (sT := 9) (ty := 3) Tryd.underlying77 (fun w => by kernel_rfl) h5 o 512 cc (putL (addU 0 r)) (by show 4 ≤ _; omega) (by show o + 4 ≤ _; omega)
    have h6 := h5.setCells (putL (addU 0 r)) o (by show o + 4 ≤ _; omega)
    have o6 := (o3.trans (Only.of_below b5)).trans (Only.setCells (UK.cellsOf (putL (addU 0 r))) o (Only.refl B w5))
    rw [HE.out] at h6
    generalize w5.setCells B o (UK.cellsOf (putL (addU 0 r))) = w6 at hcp2 h6 o6
    go_wp2
    go_end0
    exact ⟨rfl, h6, o6⟩
end Go.Proofs.YtjfkdfffolkblaaDoor
namespace Go.Proofs.YtjfkdfffolkblaaDoor
open Go.RowKit
open UK (str BytesAt nth Only w32)
open Go.BigFrame
/-- are a page's owner bytes as they were laid? -/
def okB (x : List UInt8) (p : Nat) : Bool := decide (getL ((x.drop (512 * p)).take 4) = addU 0 ((x.drop (512 * p + 4)).take 508)) && decide (((getL ((x.drop (512 * p + 4)).take 4)).toNat : Int) = p)
/-- a page's owner bytes -/
def loadL (x : List UInt8) (p : Nat) : List UInt8 := (x.drop (512 * p + 8)).take 504
def lookL (x : List UInt8) (p : Nat) : List UInt8 := if okB x p then loadL x p else []
theorem lookL_yes {x : List UInt8} {p : Nat} (h : okB x p = true) : lookL x p = loadL x p := by unfold lookL; rw [h]; rfl
theorem lookL_no {x : List UInt8} {p : Nat} (h : okB x p = false) : lookL x p = [] := by unfold lookL; rw [h]; rfl
set_option maxRecDepth 100000 in
theorem look_any {W : World} {D B : Nat} {x : List UInt8} (h : BytesAt W B x) (n c p : Nat) (hd : W.cell? ⟨D, 0, none⟩ = some (.slice (some ⟨B, 0, none⟩) n c)) (hn : n ≤ x.length) (hc : n ≤ c) (hn1 : n ≤ 100000000) (hp : 512 * (p + 1) ≤ n) (ht : TabAt W) :
    Calls Tryd.prog 66 #[.pointer (some ⟨D, 0, none⟩), .int .i64 p] W fun e w' => e = .returned (.tuple #[.string (str (lookL x p)), .bool (okB x p)]) ∧ Below W.heap.size W w' := by
  obtain ⟨o, HO⟩ : ∃ o, p * 512 = o := ⟨_, rfl⟩
  have hq2 : (p + 1) * 512 - o = 512 := by omega
  have hcv1 := fun cc => UK.run_window (P := Tryd.prog) (src := 77) (dst := 9) Tryd.underlying77 Tryd.underlying5 Tryd.underlying9 h o 4 cc (by omega)
  have hl4 : ((x.drop o).take 4).length = 4 := by rw [List.length_take, List.length_drop]; omega
  have hl5 : ((x.drop (o + 4)).take 508).length = 508 := by rw [List.length_take, List.length_drop]; omega
  have HK : Hid (okB x p = (decide (getL ((x.drop o).take 4) = addU 0 ((x.drop (o + 4)).take 508)) && decide (((getL ((x.drop (o + 4)).take 4)).toNat : Int) = p))) := by
    show _ = _
    unfold okB
    rw [show 512 * p = o by omega]
  have HL : Hid (loadL x p = (x.drop (o + 8)).take 504) := by
    show _ = _
    unfold loadL
    rw [show 512 * p = o by omega]
  have hu := fun w hb => get_u32 (W := w) (B := B) (x := x) hb (o + 4) 508 (c - o - 4) (by omega) (by omega)
  have hvv := fun (w : World) (hb : BytesAt w B x) => UK.run_window (P := Tryd.prog) (src := 77) (dst := 9) Tryd.underlying77 Tryd.underlying5 Tryd.underlying9 hb (o + 4) 508 (c - o - 4) (by omega)
  have hvw := fun (w : World) (hb : BytesAt w B x) => UK.run_window (P := Tryd.prog) (src := 77) (dst := 9) Tryd.underlying77 Tryd.underlying5 Tryd.underlying9 hb (o + 8) 504 (c - o - 8) (by omega)
  generalize (x.drop o).take 4 = a at hcv1 hl4 HK
  generalize (x.drop (o + 4)).take 508 = r at hvv hl5 HK
  generalize getL ((x.drop (o + 4)).take 4) = u at hu HK
  generalize (x.drop (o + 8)).take 504 = s at hvw HL
  go_enter Tryd.func66, Tryd.ntmps66
  go_wp2_with fail
  refine (get_four a W hl4).mono ?_
  rintro e w' ⟨rfl, k, rfl⟩
  have hv1 := hvv _ (h.drewN k)
  go_wp2_with fail
  refine (sum_any r _ (ht.drewN k) (by rw [hl5]; decide)).mono ?_
  rintro e w' ⟨rfl, rfl⟩
  have b1 := UK.belowN (Below.refl W.heap.size W) k
  have h1 := h.drewN k
  generalize W.drewN k = w1 at h1 b1 hv1 ⊢
  generalize getL a = ga at HK ⊢
  generalize addU 0 r = ar at HK ⊢
  by_cases hne : ga = ar
  · subst hne
    go_wp2_with fail
    refine (hu w1 h1).mono ?_
    rintro e w2 ⟨rfl, b2⟩
    have h2 := h1.below b2 h1.lt
    have hv2 := hvw _ h2
    have b3 := b1.trans (b2.mono b1.size)
    by_cases hp2 : (u.toNat : Int) = p
    · have HO2 : Hid (okB x p = true) := by show _ = _; rw [HK.out, decide_eq_true hp2]; simp
      have hp3 : ((u.toNat : Int) == p) = true := beq_iff_eq.2 hp2
      clear hp2 hv1
      go_wp2
      go_ret2
      exact ⟨by rw [lookL_yes HO2.out, HO2.out, HL.out] <;> rfl, b3⟩
    · have HO2 : Hid (okB x p = false) := by show _ = _; rw [HK.out, decide_eq_false hp2, Bool.and_false]
      have hp3 : ((u.toNat : Int) == p) = false := beq_eq_false_iff_ne.2 hp2
      clear hp2 hv1 hv2
      go_wp2
      go_ret2
      exact ⟨by rw [lookL_no HO2.out, HO2.out] <;> rfl, b3⟩
  · have HO2 : Hid (okB x p = false) := by show _ = _; rw [HK.out, decide_eq_false hne, Bool.false_and]
    have hp3 : (ga == ar) = false := beq_eq_false_iff_ne.2 hne
    have hnu := UK.ne_u32
    clear hne
    go_wp2
    go_ret2
    exact ⟨by rw [lookL_no HO2.out, HO2.out] <;> rfl, b1⟩
end Go.Proofs.YtjfkdfffolkblaaDoor
