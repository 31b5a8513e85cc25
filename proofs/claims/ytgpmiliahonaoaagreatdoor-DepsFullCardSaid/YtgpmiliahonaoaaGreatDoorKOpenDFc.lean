/- Facts on texts on pages. -/
import Derived.Test.YtgpmiliahonaoaaGreatDoorKLawDFc
set_option maxRecDepth 100000
set_option maxHeartbeats 8000000
set_option linter.unusedSimpArgs false
open Go.Proofs.Tryz
namespace Go.Proofs.YtgpmiliahonaoaaGreatDoor
open Go.RowKit Go.ChangeShapes Go.WideShapes Go.Deep
variable{base:Nat}{p:List MemPlace}
theorem CH(W:World)(g:lY W){H:Type}{enc:TypeId×Value->H}{d:DataW H}(n:Int)(_hn:(Lit.int .i64 n).wf=true)(m:Int)(_hm:(Lit.int .i64 m).wf=true)(v:Value)(f:Value.okWide prog W .any base 40 v)(h:DataW.Trod enc prog W 0 (λ _=>true) true 40 v d p) :
  Calls prog 4 #[.int .i64 n,.int .i64 m,v] W λ e a=>e= .returned (.bool true)/\Below W W a:=by
 obtain⟨b,len,cap,rfl,c⟩:=RN.xQ W v f h;exact(wq n m b len cap W g (zH c)).mono λ e a ⟨x,k⟩=>⟨x,k.os,k.tape,k.output,k.size,k.block⟩
