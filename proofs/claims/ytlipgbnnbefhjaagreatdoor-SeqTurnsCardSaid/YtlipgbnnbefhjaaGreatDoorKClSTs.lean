/-
  SeqTurns: the row's closed facts about the program, by themselves.
-/
import Derived.JoinedCond
import Derived.Test.YtlipgbnnbefhjaaGreatDoorRows
set_option maxRecDepth 100000
set_option maxHeartbeats 8000000
set_option linter.unusedSimpArgs false
namespace Go.Proofs.YtlipgbnnbefhjaaGreatDoor.seqTurns
theorem closed:Go.joinedFacts Tryz.pinned.checked.prog 3 Tryz.f3 (OpenSpec.ofChange Rows.seqTurnsSpec).bare Rows.seqTurnsRow=true:=by kernel_rfl
end Go.Proofs.YtlipgbnnbefhjaaGreatDoor.seqTurns
