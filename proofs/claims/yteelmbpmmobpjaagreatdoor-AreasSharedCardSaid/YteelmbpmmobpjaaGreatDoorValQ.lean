/-
  Layer areas: the answers that the document fixes.
-/
import Derived.Test.YteelmbpmmobpjaaGreatDoorValP
import Derived.Test.YteelmbpmmobpjaaGreatDoorValN
import Derived.Test.YteelmbpmmobpjaaGreatDoorValO
namespace Go.Proofs.YteelmbpmmobpjaaGreatDoor
open Go.RowKit
open UK (str BytesAt nth Only Row Box)
def plCell (p : Int × Int × List UInt8) : List Value := [.int .i64 p.1, .int .i64 p.2.1, .string (str p.2.2)]
def plFlat (l : List (Int × Int × List UInt8)) : List Value := l.flatMap plCell
theorem plFlat_get : ∀ (l : List (Int × Int × List UInt8)) (j : Nat) (x : Int × Int × List UInt8), l[j]? = some x → (plFlat l)[j * 3]? = some (.int .i64 x.1) ∧ (plFlat l)[j * 3 + 1]? = some (.int .i64 x.2.1) ∧ (plFlat l)[j * 3 + 2]? = some (.string (str x.2.2))
  | [], _, _, h => by cases h
  | u :: l, 0, x, h => by
    obtain rfl : u = x := by simpa using h
    exact ⟨rfl, rfl, rfl⟩
  | u :: l, j + 1, x, h => by
    have ih := plFlat_get l j x (by simpa using h)
    have e : plFlat (u :: l) = plCell u ++ plFlat l := by unfold plFlat; rw [List.flatMap_cons]
    have get : ∀ i, i < 3 → (plFlat (u :: l))[(j + 1) * 3 + i]? = (plFlat l)[j * 3 + i]? := fun i hi => by
      rw [e, List.getElem?_append_right (by show 3 ≤ _; omega)]
      congr 1
      show (j + 1) * 3 + i - 3 = _
      omega
    have h0 := get 0 (by omega)
    rw [Nat.add_zero, Nat.add_zero] at h0
    exact ⟨h0.trans ih.1, (get 1 (by omega)).trans ih.2.1, (get 2 (by omega)).trans ih.2.2⟩
theorem plSl_of {W : World} {g c : Nat} {ps : List (Int × Int × List UInt8)} (h : Box W g (plFlat ps).toArray) : PlSl W (.slice (some ⟨g, 0, none⟩) ps.length c) ps := by
  refine ⟨⟨_, c, rfl, fun i p hi => ⟨g, 0, rfl, h.lt, ?_, ?_, ?_⟩⟩⟩
  · rw [Nat.zero_add]; exact h.cell _ _ (by rw [List.getElem?_toArray]; exact (plFlat_get ps i p hi).1)
  · rw [Nat.zero_add]; exact h.cell _ _ (by rw [List.getElem?_toArray]; exact (plFlat_get ps i p hi).2.1)
  · rw [Nat.zero_add]; exact h.cell _ _ (by rw [List.getElem?_toArray]; exact (plFlat_get ps i p hi).2.2)
def aw4 : List (Int × Int × List UInt8) := [(1, 10000, []), (2, 0, [120]), (0, 0, []), (1, 30000, [])]
def aw1 : List (Int × Int × List UInt8) := [(2, 0, [62, 49])]
theorem sig120 : SG.sigB [120] = true := by kernel_rfl
theorem sig6249 : SG.sigB [62, 49] = true := by kernel_rfl
theorem arg_aw4 : argOf false 1 aw4 = ⟨4, 1, true, [.num 10000, .text [120], .blank, .num 30000]⟩ := by
  have h : firstL aw4 = [.num 10000, .text [120], .blank, .num 30000] := by
    show [V.of 1 10000 [], V.of 2 0 [120], V.of 0 0 [], V.of 1 30000 []] = _
    have e : V.of 2 0 [120] = .text [120] := by
      show (if SG.sigB [120] && decide (([120] : List UInt8).length ≤ 2000) then V.text [120] else V.blank) = _
      rw [sig120]
      rfl
    rw [e]
    rfl
  show (⟨(((padL (colsN 1) (firstL aw4)).length / colsN 1 : Nat) : Int), colsN 1, true, padL (colsN 1) (firstL aw4)⟩ : Ar) = _
  rw [h]
  rfl
theorem arg_aw1 : argOf true 0 aw1 = ⟨1, 1, false, [.text [62, 49]]⟩ := by
  have e : V.of 2 0 [62, 49] = .text [62, 49] := by
    show (if SG.sigB [62, 49] && decide (([62, 49] : List UInt8).length ≤ 2000) then V.text [62, 49] else V.blank) = _
    rw [sig6249]
    rfl
  show (⟨1, 1, false, [V.of 2 0 [62, 49]]⟩ : Ar) = _
  rw [e]
theorem par49 : DE.parseO (DE.trimN [49]) = some 10000 := by kernel_rfl
theorem parx : DE.parseB (DE.trimN [120]) = false := by kernel_rfl
def awA : Ar := ⟨4, 1, true, [.num 10000, .text [120], .blank, .num 30000]⟩
def awB : Ar := ⟨1, 1, false, [.text [62, 49]]⟩
theorem aw_ok : ∀ v ∈ awA.vs, v.Ok := by
  intro v hv
  simp only [awA, List.mem_cons, List.not_mem_nil, or_false] at hv
  rcases hv with rfl | rfl | rfl | rfl
  · exact ⟨by omega, by omega⟩
  · show (1 : Nat) ≤ 2000; omega
  · trivial
  · exact ⟨by omega, by omega⟩
theorem aw_first : firstF numFail (flat [awA]) = 0 := rfl
theorem aw_nums : numsOf (flat [awA]) = [10000, 30000] := rfl
theorem aw_sum : sumO [10000, 30000] 0 = some 40000 := by kernel_rfl
theorem aw_fits : (awA.vs.filter (fitsV 4 (.num 10000))).length = 1 := by kernel_rfl
theorem aw_average {n : Nat} {w : World} {s : Value} (h : ASl n w s [awA]) (hn : n ≤ w.heap.size) :
    Calls Tryz.prog 10 #[.string (str [65, 86, 69, 82, 65, 71, 69]), s] w fun e w' => e = .returned (V.val (.num 20000)) ∧ Below w.heap.size w w' :=
  call_average h ⟨by show (4 : Nat) ≤ 1000; omega, aw_ok⟩ hn aw_first (by rw [aw_nums]; show 0 < 2; omega) (by rw [aw_nums]; show 2 ≤ 1000; omega) (by
    rw [aw_nums]
    intro d hd
    simp only [List.mem_cons, List.not_mem_nil, or_false] at hd
    rcases hd with rfl | rfl <;> exact ⟨by omega, by omega⟩) 40000 20000 true (by rw [aw_nums]; exact aw_sum) (fun w => by rw [aw_nums]; exact div_ex)
theorem aw_made {w : World} (hE : EnvS w) : Calls Tryz.prog 63 #[(V.text [62, 49]).val] w fun e w' => e = .returned (.agg #[.int .i64 4, (V.num 10000).val]) ∧ Below w.heap.size w w' :=
  made_text [62, 49] [49] 10000 5 (by omega) hE (fun j hj => by
    rcases (show j = 0 ∨ j = 1 ∨ j = 2 ∨ j = 3 ∨ j = 4 by omega) with rfl | rfl | rfl | rfl | rfl <;> rfl) rfl rfl (fun w => input_num [49] 10000 (by show (1 : Nat) ≤ 100000; omega) rfl par49)
theorem not_text_num (x : V) (n : Int) : bothText x (.num n) = false := by cases x <;> rfl
theorem aw_countif {n : Nat} {w : World} {s : Value} (h : ASl n w s [awA, awB]) (hE : EnvS w) :
    Calls Tryz.prog 10 #[.string (str [67, 79, 85, 78, 84, 73, 70]), s] w fun e w' => e = .returned (V.val (.num 10000)) ∧ Below w.heap.size w w' := by
  have := call_countif (a := awA) (v := .text [62, 49]) h (by show (4 : Nat) ≤ 1000; omega) (.num 10000) 4 (by omega) (fun W hb => aw_made (hE.next hb)) (fun x _ => not_text_num x _)
  rw [aw_fits] at this
  exact this
end Go.Proofs.YteelmbpmmobpjaaGreatDoor
