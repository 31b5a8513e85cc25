/-
  SeqPlays: the row's closed facts about the program, by themselves.
-/
import Derived.JoinedCond
import Derived.Test.YtlipgbnnbefhjaaGreatDoorRows
set_option maxRecDepth 100000
set_option maxHeartbeats 8000000
set_option linter.unusedSimpArgs false
namespace Go.Proofs.YtlipgbnnbefhjaaGreatDoor.seqPlays
theorem closed:Go.joinedFacts Tryz.pinned.checked.prog 4 Tryz.f4 (OpenSpec.ofChange Rows.seqPlaysSpec).bare Rows.seqPlaysRow=true:=by kernel_rfl
end Go.Proofs.YtlipgbnnbefhjaaGreatDoor.seqPlays
