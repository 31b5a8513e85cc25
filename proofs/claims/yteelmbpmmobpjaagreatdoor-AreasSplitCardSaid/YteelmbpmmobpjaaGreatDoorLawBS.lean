/-
  AreasSplit: from the statement's arguments to the walk.
-/
import Derived.Test.YteelmbpmmobpjaaGreatDoorLawAS
import Derived.Test.YteelmbpmmobpjaaGreatDoorActs18
import Derived.Test.YteelmbpmmobpjaaGreatDoorWrapS
namespace Go.Proofs.YteelmbpmmobpjaaGreatDoor
open Go.RowKit Go.ChangeShapes Go.WideShapes
set_option maxRecDepth 100000 in
theorem as_walk (W : World) (hE : EnvS W ∧ Pow W) {H : Type} {enc : TypeId × Value → H} {r0 r1 : Reach} {b0 b1 base0 base1 : Nat} {sp0 sp1 : Nat → Bool} {held0 held1 : Bool} {d0 d1 : DataW H} {p0 p1 : List MemPlace}
    (v0 : Value) (hok0 : Value.okWide Tryz.prog W r0 b0 24 v0) (h0 : DataW.Trod enc Tryz.prog W base0 sp0 held0 24 v0 d0 p0)
    (v1 : Value) (hok1 : Value.okWide Tryz.prog W r1 b1 39 v1) (h1 : DataW.Trod enc Tryz.prog W base1 sp1 held1 39 v1 d1 p1) :
    Calls Tryz.prog 6 #[v0, v1] W fun e w' => e = .returned (.bool true) ∧ Below W.heap.size W w' := by
  obtain ⟨one, cols, sl, ps, rfl, hp, hps⟩ := A18.area_open hok0 h0
  obtain ⟨n, rfl, _⟩ := wrap_int Tryz.underlying39 hok1 h1
  have hm : (maxLen : Nat) ≤ 9223372036854775807 := by unfold maxLen; omega
  exact split_any hE.1 hE.2 one cols hp (by omega) n
end Go.Proofs.YteelmbpmmobpjaaGreatDoor
