/-
  TreePlays: the row's closed facts about the program, by themselves.
-/
import Derived.Test.YtokgidhokcoadaaGreatDoorRows
import Derived.JoinedCond
namespace Go.Proofs.YtokgidhokcoadaaGreatDoor.treePlays
set_option maxRecDepth 100000 in
theorem closed : Go.joinedFacts Tryz.pinned.checked.prog 3 Tryz.f3 (OpenSpec.ofChange Rows.treePlaysSpec).bare Rows.treePlaysRow = true := by kernel_rfl
end Go.Proofs.YtokgidhokcoadaaGreatDoor.treePlays
