/- Facts on texts and trees on pages. -/
import Derived.Test.YtgpmiliahonaoaaGreatDoorRows
import Derived.JoinedCond
set_option maxRecDepth 100000
set_option maxHeartbeats 8000000
set_option linter.unusedSimpArgs false
namespace Go.Proofs.YtgpmiliahonaoaaGreatDoor.depsFull
theorem closed:Go.joinedFacts Tryz.pinned.checked.prog 4 Tryz.f4 (OpenSpec.ofChange Rows.depsFullSpec).bare Rows.depsFullRow=true:=by kernel_rfl
end Go.Proofs.YtgpmiliahonaoaaGreatDoor.depsFull
