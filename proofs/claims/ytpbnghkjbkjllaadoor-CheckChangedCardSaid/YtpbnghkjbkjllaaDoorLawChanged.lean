/-
  CheckChanged, walked: it returns true, in every world in which the table's cells hold what the program's text lays there.
-/
import Derived.Test.YtpbnghkjbkjllaaDoorLawCheck
import Derived.Test.YtpbnghkjbkjllaaDoorUHeap
namespace Go.Proofs.YtpbnghkjbkjllaaDoor
open Go.RowKit
open UK (str)
open Go.BigFrame
/-- k bytes from place a on, xored with the word's bytes -/
def mix (x : List UInt8) (a : Nat) (u : UInt32) : Nat → List UInt8
  | 0 => x
  | k + 1 => (mix x a u k).set (a + k) (UK.xr8 (UK.nth x (a + k)) (UK.byteOf u k))
def chg (u : UInt32) : Nat → Bool
  | 0 => false
  | k + 1 => chg u k || (UK.byteOf u k != 0)
theorem mix_length (x : List UInt8) (a : Nat) (u : UInt32) (k : Nat) : (mix x a u k).length = x.length := by
  induction k with
  | zero => rfl
  | succ k ih => simp [mix, ih]
theorem mix_get (x : List UInt8) (a : Nat) (u : UInt32) (k i : Nat) (hk : a + k ≤ x.length) : (mix x a u k)[i]? = if a ≤ i ∧ i < a + k then some (UK.xr8 (UK.nth x i) (UK.byteOf u (i - a))) else x[i]? := by
  induction k with
  | zero => rw [if_neg (by omega)]; rfl
  | succ k ih =>
    show ((mix x a u k).set (a + k) _)[i]? = _
    rw [List.getElem?_set, mix_length, ih (by omega)]
    by_cases h1 : a + k = i
    · rw [if_pos h1, if_pos (by omega), if_pos (by omega), ← h1, Nat.add_sub_cancel_left]
    · rw [if_neg h1]
      by_cases h2 : a ≤ i ∧ i < a + k
      · rw [if_pos h2, if_pos (by omega)]
      · rw [if_neg h2, if_neg (by omega)]
theorem mix_nth (x : List UInt8) (a : Nat) (u : UInt32) (k : Nat) (hk : a + k < x.length) : UK.nth (mix x a u k) (a + k) = UK.nth x (a + k) := by
  unfold UK.nth List.getD
  rw [mix_get x a u k _ (by omega), if_neg (by omega)]
theorem mix_append (x sp : List UInt8) (a : Nat) (u : UInt32) (k : Nat) (hk : a + k < x.length) : (mix x a u k ++ sp).set (a + k) (UK.xr8 (UK.nth x (a + k)) (UK.byteOf u k)) = mix x a u (k + 1) ++ sp := by
  rw [List.set_append, mix_length, if_pos hk]; rfl
theorem nth_append (x sp : List UInt8) (i : Nat) (h : i < x.length) : UK.nth (x ++ sp) i = UK.nth x i := by
  unfold UK.nth List.getD
  rw [List.getElem?_append_left h]
theorem chg_none (u : UInt32) (k : Nat) (h : ∀ i, i < k → UK.byteOf u i = 0) : chg u k = false := by
  induction k with
  | zero => rfl
  | succ k ih => simp [chg, ih (fun i hi => h i (by omega)), h k (by omega)]
/-- a sealed text in which these bytes are others isn't opened -/
theorem mix_open (x : List UInt8) (a : Nat) (u : UInt32) (k : Nat) (hk : a + k ≤ x.length) (h4 : k ≤ 4) (ho : openB x = true) (hc : chg u k = true) : openB (mix x a u k) = false := by
  cases hm : openB (mix x a u k)
  · rfl
  · exfalso
    have e1 : mix x a u k = x.take a ++ (((mix x a u k).drop a).take k ++ x.drop (a + k)) := by
      conv => lhs; rw [← List.take_append_drop a (mix x a u k), ← List.take_append_drop k ((mix x a u k).drop a)]
      congr 1
      · apply List.ext_getElem?
        intro i
        rw [List.getElem?_take, List.getElem?_take, mix_get x a u k i hk]
        by_cases hi : i < a
        · rw [if_pos hi, if_pos hi, if_neg (by omega)]
        · rw [if_neg hi, if_neg hi]
      · congr 1
        rw [List.drop_drop]
        apply List.ext_getElem?
        intro i
        rw [List.getElem?_drop, List.getElem?_drop, mix_get x a u k _ hk, if_neg (by omega)]
    have e2 : x = x.take a ++ ((x.drop a).take k ++ x.drop (a + k)) := by
      conv => lhs; rw [← List.take_append_drop a x, ← List.take_append_drop k (x.drop a), List.drop_drop]
    have hl1 : ((x.drop a).take k).length = k := by rw [List.length_take, List.length_drop]; omega
    have hl2 : (((mix x a u k).drop a).take k).length = k := by rw [List.length_take, List.length_drop, mix_length]; omega
    have hsame := open_changed (x.take a) ((x.drop a).take k) (((mix x a u k).drop a).take k) (x.drop (a + k)) (by omega) (by omega) (by rw [← e2]; exact ho) (by rw [← e1]; exact hm)
    have hz : chg u k = false := chg_none u k fun i hi => by
      have h1 := congrArg (fun l : List UInt8 => l[i]?) hsame
      simp only [List.getElem?_take, List.getElem?_drop, if_pos hi] at h1
      rw [mix_get x a u k _ hk, if_pos (by omega), Nat.add_sub_cancel_left] at h1
      have hx : x[a + i]? = some (UK.nth x (a + i)) := by
        have : a + i < x.length := by omega
        simp [UK.nth, List.getD, this]
      rw [hx] at h1
      have h2 := Option.some.inj h1
      unfold UK.xr8 at h2
      have h3 := congrArg (UK.nth x (a + i) ^^^ ·) h2
      simp only [← UInt8.xor_assoc, UInt8.xor_self, UInt8.zero_xor] at h3
      exact h3.symm
    rw [hz] at hc
    cases hc
set_option linter.unusedSimpArgs false in
set_option maxHeartbeats 1000000 in
set_option maxRecDepth 100000 in
theorem changed_any (u : UInt32) (l m : List UInt8) (a : Nat) (w : World) (ht : TabAt w) (hm : l.take 600 = m) (hl : m.length ≤ 600) (ha : a < m.length + 4) (hu0 : u ≠ 0) :
    Calls Tryd.prog 4 #[.string (str l), .int .i64 a, .int .u32 u.toNat] w fun e w' => e = .returned (.bool true) ∧ Below w.heap.size w w' := by
  have HM := Lib.hid hm
  clear hm
  have hu : ((u.toNat : Int) == 0) = false := by
    rw [beq_eq_false_iff_ne]
    intro h
    exact hu0 (UInt32.toNat_inj.1 (by simpa using h))
  have HU := Lib.hid hu0
  clear hu0
  go_enter Tryd.func4, Tryd.ntmps4
  go_wp2_with fail
  refine (cut_any _ _ _ (by decide)).mono ?_
  rintro e w' ⟨rfl, rfl⟩
  rw [show (600 : Int).toNat = 600 from rfl, HM.out]
  go_wp2_with fail
  refine (seal_any m _ ht (by omega)).mono ?_
  rintro e w1 ⟨rfl, hb1⟩
  have ht1 := ht.below hb1
  obtain ⟨t, HT, htl⟩ : ∃ t, Hid (m ++ putL (addU 0 m) = t) ∧ t.length = m.length + 4 := ⟨_, rfl, by simp [putL]⟩
  rw [HT.out]
  have HTL := Lib.hid htl
  have hat : (a : Int) < t.length := by omega
  have ht6 : t.length ≤ 604 := by omega
  clear htl
  obtain ⟨cap, o, hcap, hrun, hba⟩ := UK.run_bytes (P := Tryd.prog) Tryd.underlying9 Tryd.underlying31 Tryd.underlying5 w1 t
  have hb2 : Below w.heap.size w ((w1.alloc o).drew) := (hb1.alloc hb1.size o).drew
  have HBA : UK.BytesAt (w1.alloc o).drew w1.heap.size (t ++ List.replicate (cap - t.length) 0) := hba
  obtain ⟨B, hB, HB⟩ : ∃ B, w.heap.size ≤ B ∧ Hid (w1.heap.size = B) := ⟨_, hb1.size, rfl⟩
  go_wp2_with fail
  rw [HB.out]
  rw [HB.out] at HBA
  generalize (w1.alloc o).drew = w2 at hb2 HBA ⊢
  clear hrun hba
  have h5 : decide ((a : Int) < 0) = false := by rw [decide_eq_false_iff_not]; omega
  have h6 : decide (t.length ≤ a) = false := by rw [decide_eq_false_iff_not]; omega
  simp only [h5, h6, Bool.or_false]
  go_loopw [8, 9] (fun ch i wr => ∃ k : Nat, k ≤ 4 ∧ a + k ≤ t.length ∧ i = .int .i64 k ∧ ch = .bool (chg u k) ∧ UK.BytesAt wr B (mix t a u k ++ List.replicate (cap - t.length) 0) ∧ Below w.heap.size w wr) (fun _ i _ => 4 - (intOf i).toNat)
  case atStart => exact ⟨0, by omega, by omega, rfl, rfl, HBA, hb2⟩
  case round =>
    obtain ⟨k, hk, hak, rfl, rfl, hba, hbl⟩ := hrel
    by_cases h1 : (k : Int) < 4
    · by_cases h2 : (a : Int) + k < t.length
      · have hc := hba.cell (i := a + k) (by rw [List.length_append, mix_length]; omega)
        rw [nth_append _ _ _ (by rw [mix_length]; omega), mix_nth _ _ _ _ (by omega)] at hc
        have hf := hba.free (i := a + k) (by rw [List.length_append, mix_length]; omega)
        have hs := hba.set (a + k) (UK.xr8 (UK.nth t (a + k)) (UK.byteOf u k))
        rw [mix_append _ _ _ _ _ (by omega)] at hs
        have HS := Lib.hid hs
        clear hs
        have hb0 := UK.ne0_u8
        cases hch : chg u k
        all_goals
          have HCH := Lib.hid hch
          clear hch
          go_wp2
          go_roundw
          case rel => exact ⟨k + 1, by omega, by omega, by go_num, by simp [chg, HCH.out], HS.out, hbl.setCell hB _⟩
          case measure => simp [intOf]; omega
      · have HU2 := HU
        have hfull := UK.run_window (P := Tryd.prog) (src := 31) (dst := 9) Tryd.underlying31 Tryd.underlying5 Tryd.underlying9 hba 0 t.length cap (by rw [List.length_append, mix_length]; omega)
        rw [List.drop_zero, List.take_append_of_le_length (by rw [mix_length]; exact Nat.le_refl _), List.take_of_length_le (by rw [mix_length]; exact Nat.le_refl _)] at hfull
        have hml : (mix t a u k).length ≤ maxLen := by rw [mix_length]; unfold maxLen; omega
        have HML := Lib.hid hml
        have HNO : chg u k = true → Hid (openB (mix t a u k) = false) := fun hc => by
          have ho := (open_seal m).1
          rw [HT.out] at ho
          exact mix_open t a u k hak hk ho hc
        generalize mix t a u k = x at hfull HML HNO
        have ht3 := ht.below hbl
        clear hml
        cases hch : chg u k
        · have HCH := Lib.hid hch
          clear hch
          go_wp2_with fail
          refine (open_any x _ ht3 HML.out).mono ?_
          rintro e w' ⟨rfl, n, rfl⟩
          go_wp2_with fail
          refine (awake3_any _ (ht3.drewN n)).mono ?_
          rintro e w4 ⟨rfl, hb4⟩
          go_wp2
          go_ret
          exact ⟨by simp, (belowN hbl n).trans (hb4.mono hbl.size)⟩
        · have HN := HNO hch
          have HCH := Lib.hid hch
          clear hch
          go_wp2_with fail
          refine (open_no x _ ht3 HML.out HN.out).mono ?_
          rintro e w' ⟨rfl, n, rfl⟩
          go_wp2_with fail
          refine (awake3_any _ (ht3.drewN n)).mono ?_
          rintro e w4 ⟨rfl, hb4⟩
          go_wp2
          go_ret
          exact ⟨by simp, (belowN hbl n).trans (hb4.mono hbl.size)⟩
    · have HU2 := HU
      have hfull := UK.run_window (P := Tryd.prog) (src := 31) (dst := 9) Tryd.underlying31 Tryd.underlying5 Tryd.underlying9 hba 0 t.length cap (by rw [List.length_append, mix_length]; omega)
      rw [List.drop_zero, List.take_append_of_le_length (by rw [mix_length]; exact Nat.le_refl _), List.take_of_length_le (by rw [mix_length]; exact Nat.le_refl _)] at hfull
      have hml : (mix t a u k).length ≤ maxLen := by rw [mix_length]; unfold maxLen; omega
      have HML := Lib.hid hml
      have HNO : chg u k = true → Hid (openB (mix t a u k) = false) := fun hc => by
        have ho := (open_seal m).1
        rw [HT.out] at ho
        exact mix_open t a u k hak hk ho hc
      generalize mix t a u k = x at hfull HML HNO
      have ht3 := ht.below hbl
      clear hml
      cases hch : chg u k
      · have HCH := Lib.hid hch
        clear hch
        go_wp2_with fail
        refine (open_any x _ ht3 HML.out).mono ?_
        rintro e w' ⟨rfl, n, rfl⟩
        go_wp2_with fail
        refine (awake3_any _ (ht3.drewN n)).mono ?_
        rintro e w4 ⟨rfl, hb4⟩
        go_wp2
        go_ret
        exact ⟨by simp, (belowN hbl n).trans (hb4.mono hbl.size)⟩
      · have HN := HNO hch
        have HCH := Lib.hid hch
        clear hch
        go_wp2_with fail
        refine (open_no x _ ht3 HML.out HN.out).mono ?_
        rintro e w' ⟨rfl, n, rfl⟩
        go_wp2_with fail
        refine (awake3_any _ (ht3.drewN n)).mono ?_
        rintro e w4 ⟨rfl, hb4⟩
        go_wp2
        go_ret
        exact ⟨by simp, (belowN hbl n).trans (hb4.mono hbl.size)⟩
set_option maxHeartbeats 1000000 in
set_option maxRecDepth 100000 in
theorem changed_out (u : UInt32) (l m : List UInt8) (c : Int) (w : World) (ht : TabAt w) (hm : l.take 600 = m) (hl : m.length ≤ 600) (h : c < 0 ∨ (¬ c < 0 ∧ (m.length : Int) + 4 ≤ c) ∨ (¬ c < 0 ∧ ¬ (m.length : Int) + 4 ≤ c ∧ u = 0)) :
    Calls Tryd.prog 4 #[.string (str l), .int .i64 c, .int .u32 u.toNat] w fun e w' => e = .returned (.bool true) ∧ Below w.heap.size w w' := by
  have HM := Lib.hid hm
  clear hm
  rcases h with hc | ⟨hc, hd⟩ | ⟨hc, hd, hu⟩
  case inr.inr => 
    obtain ⟨z, HZ⟩ : ∃ z : Int, Hid ((u.toNat : Int) = z) := ⟨_, rfl⟩
    have hz : (u.toNat : Int) = 0 := by rw [hu]; rfl
    rw [hz]
    clear hz hu HZ
    go_enter Tryd.func4, Tryd.ntmps4
    go_wp2_with fail
    refine (cut_any _ _ _ (by decide)).mono ?_
    rintro e w' ⟨rfl, rfl⟩
    rw [show (600 : Int).toNat = 600 from rfl, HM.out]
    go_wp2_with fail
    refine (seal_any m _ ht (by omega)).mono ?_
    rintro e w1 ⟨rfl, hb1⟩
    have ht1 := ht.below hb1
    obtain ⟨t, HT, htl⟩ : ∃ t, Hid (m ++ putL (addU 0 m) = t) ∧ t.length = m.length + 4 := ⟨_, rfl, by simp [putL]⟩
    rw [HT.out]
    have hat : ¬ (t.length : Int) ≤ c := by omega
    clear htl
    obtain ⟨cap, o, hcap, hrun, hba⟩ := UK.run_bytes (P := Tryd.prog) Tryd.underlying9 Tryd.underlying31 Tryd.underlying5 w1 t
    have hb2 : Below w.heap.size w ((w1.alloc o).drew) := (hb1.alloc hb1.size o).drew
    go_wp2_with fail
    refine (awake3_any _ (ht.below hb2)).mono ?_
    rintro e w4 ⟨rfl, hb4⟩
    go_wp2
    go_ret
    exact ⟨by simp, hb2.trans (hb4.mono hb2.size)⟩
  all_goals
    go_enter Tryd.func4, Tryd.ntmps4
    go_wp2_with fail
    refine (cut_any _ _ _ (by decide)).mono ?_
    rintro e w' ⟨rfl, rfl⟩
    rw [show (600 : Int).toNat = 600 from rfl, HM.out]
    go_wp2_with fail
    refine (seal_any m _ ht (by omega)).mono ?_
    rintro e w1 ⟨rfl, hb1⟩
    have ht1 := ht.below hb1
    obtain ⟨t, HT, htl⟩ : ∃ t, Hid (m ++ putL (addU 0 m) = t) ∧ t.length = m.length + 4 := ⟨_, rfl, by simp [putL]⟩
    rw [HT.out]
    have hat : ¬ c < 0 → (t.length : Int) ≤ c := by omega
    clear htl
    obtain ⟨cap, o, hcap, hrun, hba⟩ := UK.run_bytes (P := Tryd.prog) Tryd.underlying9 Tryd.underlying31 Tryd.underlying5 w1 t
    have hb2 : Below w.heap.size w ((w1.alloc o).drew) := (hb1.alloc hb1.size o).drew
    go_wp2_with fail
    refine (awake3_any _ (ht.below hb2)).mono ?_
    rintro e w4 ⟨rfl, hb4⟩
    go_wp2
    go_ret
    exact ⟨by simp, hb2.trans (hb4.mono hb2.size)⟩
theorem changed_walk (W : World) (ht : TabAt W) (s : ByteArray) (n : Int) (hn : (Lit.int .i64 n).wf = true) (a : Int) (ha : (Lit.int .u32 a).wf = true) :
    Calls Tryd.prog 4 #[.string s, .int .i64 n, .int .u32 a] W fun e w' => e = .returned (.bool true) ∧ Below W.heap.size W w' := by
  rw [UK.str_self s]
  obtain ⟨u, rfl⟩ := u32_of_wf ha
  have hl : (s.data.toList.take 600).length ≤ 600 := by rw [List.length_take]; exact Nat.min_le_left _ _
  by_cases h : 0 ≤ n ∧ n < ((s.data.toList.take 600).length : Int) + 4 ∧ u ≠ 0
  · obtain ⟨a, rfl⟩ := Int.eq_ofNat_of_zero_le h.1
    exact changed_any u _ _ a W ht rfl hl (by omega) h.2.2
  · refine changed_out u _ _ n W ht rfl hl ?_
    by_cases h1 : n < 0
    · exact .inl h1
    · by_cases h2 : ((s.data.toList.take 600).length : Int) + 4 ≤ n
      · exact .inr (.inl ⟨h1, h2⟩)
      · refine .inr (.inr ⟨h1, h2, ?_⟩)
        by_cases h3 : u = 0
        · exact h3
        · exact absurd ⟨by omega, by omega, h3⟩ h
end Go.Proofs.YtpbnghkjbkjllaaDoor
