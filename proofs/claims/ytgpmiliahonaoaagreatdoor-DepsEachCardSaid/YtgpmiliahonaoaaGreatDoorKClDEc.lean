/- Facts on texts and trees on pages. -/
import Derived.Test.YtgpmiliahonaoaaGreatDoorRows
import Derived.JoinedCond
set_option maxRecDepth 100000
set_option maxHeartbeats 8000000
set_option linter.unusedSimpArgs false
namespace Go.Proofs.YtgpmiliahonaoaaGreatDoor.depsEach
theorem closed:Go.joinedFacts Tryz.pinned.checked.prog 3 Tryz.f3 (OpenSpec.ofChange Rows.depsEachSpec).bare Rows.depsEachRow=true:=by kernel_rfl
end Go.Proofs.YtgpmiliahonaoaaGreatDoor.depsEach
