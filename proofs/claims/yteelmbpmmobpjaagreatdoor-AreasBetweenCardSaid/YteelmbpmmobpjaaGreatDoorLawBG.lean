/-
  AreasBetween: from the statement's arguments to the walk.
-/
import Derived.Test.YteelmbpmmobpjaaGreatDoorLawAB
import Derived.Test.YteelmbpmmobpjaaGreatDoorActs18
namespace Go.Proofs.YteelmbpmmobpjaaGreatDoor
open Go.RowKit Go.ChangeShapes Go.WideShapes
set_option maxRecDepth 100000 in
theorem ab_walk (W : World) (hE : EnvS W) {H : Type} {enc : TypeId × Value → H} {r0 : Reach} {b0 base0 : Nat} {sp0 : Nat → Bool} {held0 : Bool} {d0 : DataW H} {p0 : List MemPlace}
    (v0 : Value) (hok0 : Value.okWide Tryz.prog W r0 b0 24 v0) (h0 : DataW.Trod enc Tryz.prog W base0 sp0 held0 24 v0 d0 p0) :
    Calls Tryz.prog 4 #[v0] W fun e w' => e = .returned (.bool true) ∧ Below W.heap.size W w' := by
  obtain ⟨one, cols, sl, ps, rfl, hp, hps⟩ := A18.area_open hok0 h0
  have hm : (maxLen : Nat) ≤ 9223372036854775807 := by unfold maxLen; omega
  exact ab_any hE one cols hp (by omega)
end Go.Proofs.YteelmbpmmobpjaaGreatDoor
