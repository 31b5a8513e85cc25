/-
  AreasShared: from the statement's arguments to the walk.
-/
import Derived.Test.YteelmbpmmobpjaaGreatDoorLawSH
import Derived.Test.YteelmbpmmobpjaaGreatDoorActs18
namespace Go.Proofs.YteelmbpmmobpjaaGreatDoor
open Go.RowKit Go.ChangeShapes Go.WideShapes
set_option maxRecDepth 100000 in
theorem sh_walk (W : World) (hE : EnvS W) {H : Type} {enc : TypeId × Value → H} {r0 r1 : Reach} {b0 b1 base0 base1 : Nat} {sp0 sp1 : Nat → Bool} {held0 held1 : Bool} {d0 d1 : DataW H} {p0 p1 : List MemPlace}
    (v0 : Value) (hok0 : Value.okWide Tryz.prog W r0 b0 24 v0) (h0 : DataW.Trod enc Tryz.prog W base0 sp0 held0 24 v0 d0 p0)
    (v1 : Value) (hok1 : Value.okWide Tryz.prog W r1 b1 24 v1) (h1 : DataW.Trod enc Tryz.prog W base1 sp1 held1 24 v1 d1 p1) :
    Calls Tryz.prog 3 #[v0, v1] W fun e w' => e = .returned (.bool true) ∧ Below W.heap.size W w' := by
  obtain ⟨o1, c1, s1, p1, rfl, hp1, hps1⟩ := A18.area_open hok0 h0
  obtain ⟨o2, c2, s2, p2, rfl, hp2, hps2⟩ := A18.area_open hok1 h1
  have hm : (maxLen : Nat) ≤ 9223372036854775807 := by unfold maxLen; omega
  exact sh_any hE o1 o2 c1 c2 hp1 hp2 (by omega) (by omega)
end Go.Proofs.YteelmbpmmobpjaaGreatDoor
