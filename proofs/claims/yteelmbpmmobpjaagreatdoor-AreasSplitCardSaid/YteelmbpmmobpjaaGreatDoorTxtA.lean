/-
  strconv.FormatUint at base 10: a number's digits.
-/
import Derived.Test.YteelmbpmmobpjaaGreatDoorDecD
import Derived.Lib.ItoaMem
namespace Go.Proofs.YteelmbpmmobpjaaGreatDoor
open Go.RowKit Go.Sort
open UK (str BytesAt nth Only Row Box)
/-- the table of powers of ten stands -/
structure Pow (W : World) : Prop where
  tab : Lib.TabIs Tryz.prog W "internal/strconv.uint64pow10" .u64 Lib.pow10Tab
  lt : ∀ g, Tryz.prog.globalNamed "internal/strconv.uint64pow10" = some g → g < W.heap.size
theorem Pow.next {W W' : World} (h : Pow W) (hb : Below W.heap.size W W') : Pow W' := by
  refine ⟨?_, fun g hg => Nat.lt_of_lt_of_le (h.lt g hg) hb.size⟩
  have ht := h.tab
  unfold Lib.TabIs World.var? at *
  cases hg : Tryz.prog.globalNamed "internal/strconv.uint64pow10" with
  | none => simp [hg] at ht
  | some g =>
    simp only [hg, Option.bind_some] at ht ⊢
    rw [hb.block g (h.lt g hg)]
    exact ht
abbrev encB (b : UInt8) : Value := Value.int .u8 (b.toNat : Int)
theorem zeros_hold (w : World) (T : TypeId) (n : Nat) (hn : n ≤ 24) : Holds encB (w.alloc (.cells Lib.zeros24 T)) w.heap.size 0 (Array.replicate n (0 : UInt8)) := fun j hj => by
  have hj' : j < n := by simpa using hj
  rw [Nat.zero_add]
  refine ⟨?_, World.frozen?_alloc_new _ _ _ _⟩
  rw [World.cell?_alloc_new, Lib.zeros24_at _ (by omega), getElem!_pos _ j hj]
  simp
theorem below_put (w : World) (o : Obj) (d : Array UInt8) (k : Nat) : Below w.heap.size w ((putRow encB (w.alloc o) w.heap.size 0 d).drewN k) := by
  have h : Below w.heap.size w (putRow encB (w.alloc o) w.heap.size 0 d) := by
    refine ⟨rfl, rfl, rfl, ?_, fun j hj => ?_⟩
    · simp [putRow, mapBlock]
    · have h1 : w.heap.size ≠ j := by omega
      have h2 := Below.heap_alloc w o j hj
      simp only [putRow, mapBlock, Array.getElem?_modify, if_neg h1]
      exact h2
  exact UK.belowN h k
set_option maxHeartbeats 2000000 in
set_option maxRecDepth 100000 in
theorem fmt_in {w : World} (u : Nat) (hu : u < 18446744073709551616) (h100 : 100 ≤ u) (hP : Pow w) :
    Calls Tryz.prog 75 #[.int .u64 (u : Int), .int .i64 10] w fun e w' => e = .returned (.string (str (Lib.decDigits u))) ∧ Below w.heap.size w w' := by
  have hu1 : 1 ≤ u := by omega
  have hnd : Lib.nDigits u ≤ 20 := by have := Lib.numDigits_eq u hu1 hu; split at this <;> omega
  have hb0 : Below w.heap.size w (w.alloc (.cells Lib.zeros24 148)) := (Below.refl _ _).alloc (Nat.le_refl _) _
  have HND : Hid (Calls Tryz.prog 95 #[.int .u64 (u : Int)] (w.alloc (.cells Lib.zeros24 148)) fun e w' => e = .returned (.int .i64 (Lib.nDigits u : Int)) ∧ w' = w.alloc (.cells Lib.zeros24 148)) := Tryz.internal_strconv_numDigits u hu1 hu _ (hP.next hb0).tab
  have hH0 := zeros_hold w 148 (Lib.nDigits u) (by omega)
  have hfmt := Tryz.internal_strconv_formatBase10 w.heap.size 0 24 u (Array.replicate (Lib.nDigits u) 0) (w.alloc (.cells Lib.zeros24 148)) hH0 (by rw [Array.size_replicate]; exact Lib.lt_pow_nDigits u) hu (by rw [Array.size_replicate]; omega)
  rw [Array.size_replicate] at hfmt
  have HF := Lib.hid hfmt
  have HH := Lib.hid hH0
  have hu100 : ¬ (u : Int) < 100 := by omega
  have hsl : ∀ W, (Instr.sliceAt 148 (.pointer (some ⟨w.heap.size, 0, none⟩)) none (some (.int .i64 (Lib.nDigits u : Int))) none).run Tryz.prog W = .ok (.slice (some ⟨w.heap.size, 0, none⟩) (Lib.nDigits u) 24) W := fun W => by
    have hal : Tryz.prog.arrayLen 148 = 24 := by kernel_rfl
    rw [run_sliceAt_array_h W 148 ⟨w.heap.size, 0, none⟩ (by kernel_rfl) .i64 (Lib.nDigits u : Int) (by omega) (by rw [hal]; omega)]
    go_simp
  clear hfmt hH0 hb0 hu h100 hP
  go_enter Tryz.func75, Tryz.ntmps75
  go_wp2_with fail
  refine HND.out.mono ?_
  rintro e w1 ⟨rfl, rfl⟩
  go_wp2_with fail
  refine HF.out.mono ?_
  rintro e w2 ⟨rfl, k, v', dk, rfl, hI⟩
  have hcv : (convert 135 9 (.slice (some ⟨w.heap.size, 0, none⟩) (Lib.nDigits u) 24)).run Tryz.prog ((putRow encB (w.alloc (.cells Lib.zeros24 148)) w.heap.size 0 dk).drewN k) = .ok (.string (str (Lib.decDigits u))) ((putRow encB (w.alloc (.cells Lib.zeros24 148)) w.heap.size 0 dk).drewN k) := by
    have h := run_convert_bytes_back (P := Tryz.prog) ((putRow encB (w.alloc (.cells Lib.zeros24 148)) w.heap.size 0 dk).drewN k) 135 9 5 ⟨w.heap.size, 0, none⟩ 24 (Lib.decDigits u) Tryz.underlying135 Tryz.underlying5 Tryz.underlying9 (fun j hj => by
      rw [Lib.row_is_numeral hI j hj, Lib.add_plain, World.cell?_drewN]
      exact cell?_putRow encB _ w.heap.size 0 _ dk HH.out (by rw [hI.size, Array.size_replicate]) j (by rw [hI.size]; rw [Lib.decDigits_length] at hj; exact hj))
    rw [Lib.decDigits_length] at h
    exact h
  have HB := Lib.hid (below_put w (.cells Lib.zeros24 148) dk k)
  clear hI HF HND
  generalize (putRow encB (w.alloc (.cells Lib.zeros24 148)) w.heap.size 0 dk).drewN k = w3 at *
  go_wp2
  go_ret
  exact ⟨rfl, HB.out⟩
theorem fmt_small {w : World} (u : Nat) (h100 : u < 100) :
    Calls Tryz.prog 75 #[.int .u64 (u : Int), .int .i64 10] w fun e w' => e = .returned (.string (str (Lib.decDigits u))) ∧ Below w.heap.size w w' := by
  have HS := Lib.hid (Tryz.internal_strconv_small u h100 w)
  have h1 : (u : Int) < 100 := by omega
  go_enter Tryz.func75, Tryz.ntmps75
  go_wp2_with fail
  refine HS.out.mono ?_
  rintro e w1 ⟨rfl, rfl⟩
  go_wp2
  go_ret
  exact ⟨rfl, Below.refl _ _⟩
theorem fmt_any {w : World} (u : Nat) (hu : u < 18446744073709551616) (hP : Pow w) :
    Calls Tryz.prog 44 #[.int .u64 (u : Int), .int .i64 10] w fun e w' => e = .returned (.string (str (Lib.decDigits u))) ∧ Below w.heap.size w w' := by
  have HI : Hid (Calls Tryz.prog 75 #[.int .u64 (u : Int), .int .i64 10] w fun e w' => e = .returned (.string (str (Lib.decDigits u))) ∧ Below w.heap.size w w') := by
    show Calls _ _ _ _ _
    by_cases h : u < 100
    · exact fmt_small u h
    · exact fmt_in u hu (by omega) hP
  go_enter Tryz.func44, Tryz.ntmps44
  go_wp2_with fail
  refine HI.out.mono ?_
  rintro e w1 ⟨rfl, b⟩
  go_wp2
  go_ret
  exact ⟨rfl, b⟩
end Go.Proofs.YteelmbpmmobpjaaGreatDoor
