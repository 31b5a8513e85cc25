/-
  SeqBack: the row's closed facts about the program, by themselves.
-/
import Derived.JoinedCond
import Derived.Test.YtlipgbnnbefhjaaGreatDoorRows
set_option maxRecDepth 100000
set_option maxHeartbeats 8000000
set_option linter.unusedSimpArgs false
namespace Go.Proofs.YtlipgbnnbefhjaaGreatDoor.seqBack
theorem closed:Go.joinedFacts Tryz.pinned.checked.prog 5 Tryz.f5 (OpenSpec.ofChange Rows.seqBackSpec).bare Rows.seqBackRow=true:=by kernel_rfl
end Go.Proofs.YtlipgbnnbefhjaaGreatDoor.seqBack
