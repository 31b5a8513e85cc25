/-
  The listed variables of a law that makes a number's text: the powers of ten besides.
-/
import Derived.Test.YteelmbpmmobpjaaGreatDoorWrapV
import Derived.Test.YteelmbpmmobpjaaGreatDoorTxtA
namespace Go.Proofs.YteelmbpmmobpjaaGreatDoor
open Go.ChangeShapes Go.WideShapes Go.ChangeAt Go.RowKit
theorem pow_eq : (Rows.laid_internal_strconv_uint64pow10 : DataW Unit) = Lib.tabData .u64 Lib.pow10Tab := by kernel_rfl
theorem envS_of_reads {W : World} {l : List (String × DataW Unit)} (h : laidMet Tryz.prog l W) (m1 : ("unicode/utf8.acceptRanges", Rows.laid_unicode_utf8_acceptRanges) ∈ l) (m2 : ("tabular/areas.signs", Rows.laid_tabular_areas_signs) ∈ l) (m3 : ("unicode/utf8.first", Rows.laid_unicode_utf8_first) ∈ l) : EnvS W := by
  have h1 := Lib.laidMet.reads h m1
  have h2 := Lib.laidMet.reads h m2
  have h3 := Lib.laidMet.reads h m3
  rw [acc_eq] at h1
  rw [first_eq] at h3
  have ht : Lib.Utf8Tabs 1 2 W := utf8Tabs_of_readsT u8types u8extra h3 h1
  obtain ⟨b, o, c, s1, s2, s3⟩ := signs_of h2
  exact ⟨⟨ht, block_lt_of_cell (ht.1 0 (by omega)), block_lt_of_cell (ht.2 0 (by omega)).1⟩, ⟨b, o, c, s1, s2, s3⟩, block_lt_of_cell s1⟩
theorem gPow : Tryz.prog.globalNamed "internal/strconv.uint64pow10" = some 3 := by kernel_rfl
theorem gPowType : (Tryz.prog.globals[3]?).map (·.type) = some 166 := by kernel_rfl
theorem pow_of {W : World} (h : Lib.VarReads Tryz.prog W "internal/strconv.uint64pow10" Rows.laid_internal_strconv_uint64pow10) : Pow W := by
  rw [pow_eq] at h
  obtain ⟨g, t, cs, fuel, p, hg, hty, hvar, hd⟩ := h
  obtain rfl := Option.some.inj (gPow.symm.trans hg)
  obtain rfl := Option.some.inj (gPowType.symm.trans hty)
  have hT : Lib.TabIs Tryz.prog W "internal/strconv.uint64pow10" .u64 Lib.pow10Tab := by
    unfold Lib.TabIs
    rw [hvar, ← Lib.cells_of_tab Tryz.underlying166 Tryz.underlying92 (by kernel_rfl) (by kernel_rfl) hd]
  refine ⟨hT, fun g' hg' => ?_⟩
  have hc := hT.cell hg' 0 (by decide)
  exact block_lt_of_cell hc
theorem envP_of_laid {W : World} (h : laidMetH Tryz.prog Rows.areasSplitRow.laid W) : EnvS W ∧ Pow W :=
  ⟨envS_of_reads h (by simp [Rows.areasSplitRow]) (by simp [Rows.areasSplitRow]) (by simp [Rows.areasSplitRow]), pow_of (Lib.laidMet.reads h (by simp [Rows.areasSplitRow]))⟩
end Go.Proofs.YteelmbpmmobpjaaGreatDoor
