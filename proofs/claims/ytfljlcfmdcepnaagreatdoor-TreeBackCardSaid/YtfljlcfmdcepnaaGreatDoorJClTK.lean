/-
  TreeBack: the row's closed facts about the program, by themselves.
-/
import Derived.Test.YtfljlcfmdcepnaaGreatDoorRows
import Derived.JoinedCond
namespace Go.Proofs.YtfljlcfmdcepnaaGreatDoor.treeBack
set_option maxRecDepth 100000 in
theorem closed : Go.joinedFacts Tryz.pinned.checked.prog 3 Tryz.f3 (OpenSpec.ofChange Rows.treeBackSpec).bare Rows.treeBackRow = true := by kernel_rfl
end Go.Proofs.YtfljlcfmdcepnaaGreatDoor.treeBack
