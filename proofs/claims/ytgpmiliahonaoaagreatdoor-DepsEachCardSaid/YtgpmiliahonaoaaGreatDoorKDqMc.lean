/- Facts on texts and trees on pages. -/
import Derived.Test.YtgpmiliahonaoaaGreatDoorKDpYc
set_option maxRecDepth 100000
set_option maxHeartbeats 8000000
set_option linter.unusedSimpArgs false
namespace Go.Proofs.YtgpmiliahonaoaaGreatDoor
open Go.RowKit Go.BigFrame
open UK (str aF nth Only Row ay)
open DP (Rc dF bf lg dU fC jH TH bO bX)
section
variable{E:Nat->Prop}{W W':World}{P D Dp T H k r1 r2 root pg n K N c:Nat}{A B:AP}{ex dw ps2 rp:List Nat}{Ec:Nat->List UInt8}{l1 l2:List KV}{L:Nat->List (List UInt8)}{X:List HT}{F G:Nat->List UInt8}{rl:List Rc}
def vW(rl:List Rc):List UInt8:=if rl=[] then [] else jH rl
end
end Go.Proofs.YtgpmiliahonaoaaGreatDoor
