/-
  disk: Count, Free, Room, Has, next: what they compute.
-/
import Derived.Test.YtamnhpijeiigcaaDoorDiskC
namespace Go.Proofs.YtamnhpijeiigcaaDoor
open Go.RowKit
open UK (str BytesAt nth Only w32 Row)
open Go.BigFrame
/-- what holds of a disk that New and its calls have made -/
structure Fit (d : Dk) (cnt : Nat) : Prop where
  len : d.x.length = 512 * cnt
  flags : d.isf.length = cnt
  one : 1 ≤ cnt
  few : cnt ≤ 60000
  most : 2 ≤ d.most ∧ d.most ≤ 60000 ∧ (cnt : Int) ≤ d.most
  free : ∀ p, p ∈ d.free → 1 ≤ p ∧ p < cnt
  freeLe : d.free.length ≤ cnt
  rl : -1 ≤ d.rl ∧ d.rl ≤ 9223372036854775807
  wl : -1 ≤ d.wl ∧ d.wl ≤ 9223372036854775807
  reads : 0 ≤ d.reads ∧ d.reads < 1000000000
  puts : 0 ≤ d.puts ∧ d.puts < 1000000000
section
variable {W : World} {own : Nat → Prop} {D B bc fc I ic cnt : Nat} {fo : Option Addr} {y : List UInt8} {d : Dk}
theorem DiskAt.below {W' : World} (h : DiskAt W own D B bc fo fc I ic y d) (hb : Below W.heap.size W W') : DiskAt W' own D B bc fo fc I ic y d := by
  refine ⟨h.cells.below hb h.cells.lt, h.bytes.below hb h.bytes.lt, h.ylen, h.le, h.pre, ?_, h.flags.below hb h.flags.lt, h.DB, h.DI, h.BI, h.oD, h.oB, h.oI, h.tab.below hb, h.notab⟩
  rcases h.freeAt with h0 | ⟨F, e, hr, r⟩
  · exact .inl h0
  · exact .inr ⟨F, e, hr.below hb hr.lt, r⟩
theorem DiskAt.drewN (h : DiskAt W own D B bc fo fc I ic y d) (n : Nat) : DiskAt (W.drewN n) own D B bc fo fc I ic y d := h.below (UK.belowN (Below.refl _ _) n)
theorem count_any (h : DiskAt W own D B bc fo fc I ic y d) (f : Fit d cnt) :
    Calls Tryd.prog 14 #[.pointer (some ⟨D, 0, none⟩)] W fun e w' => e = .returned (.int .i64 cnt) ∧ w' = W := by
  have c0 := h.cells.at' 0 _ rfl
  rw [f.len] at c0
  have hfew := f.few
  go_enter Tryd.func14, Tryd.ntmps14
  go_wp2
  go_ret
  exact ⟨by simp, rfl⟩
theorem free_any (h : DiskAt W own D B bc fo fc I ic y d) :
    Calls Tryd.prog 29 #[.pointer (some ⟨D, 0, none⟩)] W fun e w' => e = .returned (.int .i64 d.free.length) ∧ w' = W := by
  have c2 := h.cells.at' 2 _ rfl
  go_enter Tryd.func29, Tryd.ntmps29
  go_wp2
  go_ret
  exact ⟨rfl, rfl⟩
theorem room_any (h : DiskAt W own D B bc fo fc I ic y d) (f : Fit d cnt) :
    Calls Tryd.prog 13 #[.pointer (some ⟨D, 0, none⟩)] W fun e w' => e = .returned (.int .i64 (d.most - cnt + d.free.length)) ∧ ∃ q, w' = W.drewN q := by
  have c1 := fun q => (h.drewN q).cells.at' 1 _ rfl
  have c2 := fun q => (h.drewN q).cells.at' 2 _ rfl
  have c1' := h.cells.at' 1 _ rfl
  have c2' := h.cells.at' 2 _ rfl
  have hfew := f.few
  have hm1 := f.most.1
  have hm2 := f.most.2.1
  have hm3 := f.most.2.2
  have hfl := f.freeLe
  go_enter Tryd.func13, Tryd.ntmps13
  go_wp2_with fail
  go_quiet (refine Calls.quiet_of_same (count_any (h.drewN _) f))
  go_wp2
  go_ret
  exact ⟨rfl, _, rfl⟩
/-- is it a page that somebody has? -/
def hasD (d : Dk) (cnt : Nat) (p : Int) : Bool := decide (1 ≤ p ∧ p < cnt) && !(d.isf.getD p.toNat false)
theorem bools_at (l : List Bool) (k : Nat) (h : k < l.length) : (bools l)[k]? = some (.bool (l.getD k false)) := by
  simp [bools, List.getElem?_eq_getElem h, List.getD_eq_getElem?_getD]
theorem ints_at (l : List Nat) (k : Nat) (h : k < l.length) : (ints l)[k]? = some (.int .i64 ((l.getD k 0 : Nat) : Int)) := by
  simp [ints, List.getElem?_eq_getElem h, List.getD_eq_getElem?_getD]
theorem hasd_any (h : DiskAt W own D B bc fo fc I ic y d) (f : Fit d cnt) (p : Int) :
    Calls Tryd.prog 33 #[.pointer (some ⟨D, 0, none⟩), .int .i64 p] W fun e w' => e = .returned (.bool (hasD d cnt p)) ∧ ∃ q, w' = W.drewN q := by
  by_cases h1 : 1 ≤ p
  · by_cases h2 : p < cnt
    · obtain ⟨k, rfl⟩ : ∃ k : Nat, p = k := ⟨p.toNat, by omega⟩
      have hk : k < d.isf.length := by rw [f.flags]; omega
      have c3 := h.cells.at' 3 _ rfl
      have ck := h.flags.at' k _ (bools_at d.isf k hk)
      have HH : Hid (hasD d cnt k = !(d.isf.getD k false)) := by show _ = _; unfold hasD; rw [decide_eq_true ⟨h1, h2⟩, Int.toNat_natCast, Bool.true_and]
      rw [HH.out]
      generalize d.isf.getD k false = b at ck
      have hfew := f.few
      go_enter Tryd.func33, Tryd.ntmps33
      go_wp2_with fail
      refine (count_any h f).mono ?_
      rintro e w' ⟨rfl, rfl⟩
      go_wp2
      go_ret
      exact ⟨rfl, 0, rfl⟩
    · have HH : Hid (hasD d cnt p = false) := by show _ = _; unfold hasD; rw [decide_eq_false (fun a => h2 a.2)]; rfl
      rw [HH.out]
      have h3 : (cnt : Int) ≤ p := by omega
      clear h2
      go_enter Tryd.func33, Tryd.ntmps33
      go_wp2_with fail
      refine (count_any h f).mono ?_
      rintro e w' ⟨rfl, rfl⟩
      go_wp2
      go_ret
      exact ⟨rfl, 0, rfl⟩
  · have HH : Hid (hasD d cnt p = false) := by show _ = _; unfold hasD; rw [decide_eq_false (fun a => h1 a.1)]; rfl
    rw [HH.out]
    have h3 : p < 1 := by omega
    clear h1
    go_enter Tryd.func33, Tryd.ntmps33
    go_wp2
    go_ret
    exact ⟨rfl, 0, rfl⟩
/-- which free page is behind number i, as a word -/
def nextL (d : Dk) (i : Nat) : List UInt8 := putL (if i = 0 then w32 4294967295 else w32 (d.free.getD (i - 1) 0))
theorem next_any (h : DiskAt W own D B bc fo fc I ic y d) (f : Fit d cnt) (i : Nat) (hi : i ≤ d.free.length) :
    Calls Tryd.prog 34 #[.pointer (some ⟨D, 0, none⟩), .int .i64 i] W fun e w' => e = .returned (.string (str (nextL d i))) ∧ Below W.heap.size W w' := by
  by_cases h0 : i = 0
  · subst h0
    have HN : Hid (nextL d 0 = putL (w32 4294967295)) := rfl
    have hw := fun w => word_any (w32 4294967295) w
    rw [show ((w32 4294967295).toNat : Int) = 4294967295 from rfl] at hw
    go_enter Tryd.func34, Tryd.ntmps34
    go_wp2_with fail
    refine (hw _).mono ?_
    rintro e w' ⟨rfl, b⟩
    go_wp2
    go_ret
    exact ⟨by rw [HN.out] <;> rfl, b⟩
  · obtain ⟨k, rfl⟩ : ∃ k, i = k + 1 := ⟨i - 1, by omega⟩
    have HN : Hid (nextL d (k + 1) = putL (w32 (d.free.getD k 0))) := by show _ = _; unfold nextL; rw [if_neg h0, Nat.add_sub_cancel]
    have c2 := h.cells.at' 2 _ rfl
    rcases h.freeAt with ⟨_, hf, _⟩ | ⟨F, rfl, hr, _⟩
    · rw [hf] at hi; simp at hi
    · have hk := hr.at' k _ (ints_at d.free k (by omega))
      have hfk := f.free (d.free.getD k 0) (by rw [List.getD_eq_getElem?_getD, List.getElem?_eq_getElem (by omega)]; exact List.getElem_mem _)
      have hfew := f.few
      obtain ⟨q, HQ⟩ : ∃ q, Hid (d.free.getD k 0 = q) := ⟨_, rfl⟩
      rw [HQ.out] at hk hfk HN
      have hw := fun w => word_any (w32 q) w
      rw [show ((w32 q).toNat : Int) = q by rw [← UK.w32_is q]; omega] at hw
      have hq1 := hfk.1
      have hq2 := hfk.2
      have hk6 : k < 60000 := by have := f.freeLe; omega
      have hk7 : k < d.free.length := by omega
      clear hfk h0
      go_enter Tryd.func34, Tryd.ntmps34
      go_wp2_with fail
      refine (hw _).mono ?_
      rintro e w' ⟨rfl, b⟩
      go_wp2
      go_ret
      exact ⟨by rw [HN.out] <;> rfl, b⟩
end
end Go.Proofs.YtamnhpijeiigcaaDoor
