/- Facts on texts and trees on pages. -/
import Derived.Test.YtgpmiliahonaoaaGreatDoorKDiskFc
import Derived.Test.YtgpmiliahonaoaaGreatDoorCards
import Derived.Test.YtgpmiliahonaoaaGreatDoorTie
import Derived.ProofKit
import Derived.OpenShut
import Derived.ChangeSame
import Derived.Deep.DeepHandedRow
import Derived.Lib.LaidTab
import Derived.LaidOnce
set_option maxRecDepth 100000
set_option maxHeartbeats 8000000
set_option linter.unusedSimpArgs false
namespace Go.Proofs.YtgpmiliahonaoaaGreatDoor
open Go.ChangeShapes Go.WideShapes Go.ChangeAt Go.RowKit
open Go.ChangeMaps (open_string)
section
variable{H:Type}{enc:TypeId×Value->H}{P:Program}
theorem tf{f:Func}{s:ChangeSpec}{apart fresh x again:Bool}{W d:World}{args:Array Value}{v:Value}{e g:List (DataW H)}{before pa pv:List MemPlace}
  (i:DataW.Whole enc P f.params.toList s.vars apart W args.toList e g before)
  (q:∀(b:Nat) (c:Nat->Bool) (hd:Bool),DataW.TrodAll enc P d b c hd f.resultTypes.toList (v.resultList f.resultTypes.size) (s.fn H (e++g)).results [])
  (k:∀c:Nat->Bool,(∀p∈before,c p.block=true)->DataW.TrodAll enc P d 0 c true f.params.toList args.toList (s.fn H (e++g)).args pa)
  (u:∀c:Nat->Bool,(∀p∈before,c p.block=true)->DataW.TrodVars enc P d c s.vars (s.fn H (e++g)).vars pv)
  (h:before=pa++pv) (l:Below W W d)
  (z:∀(j:Nat) (t:TypeId) (r:Value),f.resultTypes[j]?=some t->(v.resultList f.resultTypes.size)[j]?=some r->Value.okWide P d .any 0 t r) :
  s.post enc P f apart fresh x again W args v d:=by
 have n:∀p∈before,p.block<W.heap.size:=λ p a=>i.lt p a;have o:∀p∈before,(λ b=>decide (b<W.heap.size)) p.block=true:=λ p a=>by simpa using n p a
 refine⟨e,g,before,[],pa,pv,i,q _ _ _,k _ o,u _ o,World.keptBut_mono (λ p a=>⟨a,?_⟩) (l.frame (·∈before)),λ _=>?_⟩
 ·rw[h,dm]at a;exact Or.inr a
 obtain⟨_,_,_,_,_,A,y⟩:=i;refine⟨z,_,_,([]++pa)++pv,⟨[]++pa,pv,trodAll_append (k _ (λ _ _=>rfl)) (q _ _ _),u _ (λ _ _=>rfl),rfl,?_,?_⟩,?_⟩
 ·intro b off a;have m:MemPlace.cell b off∈before:=by rw[h];simpa using a
  rw[l.frozen (n _ m)];exact A b off m
 ·intro w;have:=y w;rw[h]at this
  simpa using this
 intro p a _;rw[h]
 simpa using a
end
section
variable{H:Type}{enc:TypeId×Value->H}{P:Program}{w:World}{base:Nat}{sp:Nat->Bool}{held:Bool}
theorem Xi{r:Reach}{a:Nat}{t:TypeId}{k:IntKind}{v:Value}{d:DataW H}{f:List MemPlace}(b:P.underlying t=some (.int k))(c:Value.okWide P w r a t v)(hd:DataW.Trod enc P w base sp held t v d f) :
  ∃n,v= .int k n/\(Lit.int k n).wf=true:=by
 obtain⟨n,h,_,_,e⟩:=open_int b c hd;exact⟨n,h,e⟩
end
theorem own:ownKnob Tryz.prog.godebug=none:=by kernel_rfl
theorem laidOut:laidOutB Tryz.prog=true:=by kernel_rfl
theorem gTab:Tryz.prog.globalNamed "tabular/check.table" =some 0 :=by kernel_rfl
theorem gTabType:(Tryz.prog.globals[0]?).map (·.type)=some 322 :=by kernel_rfl
theorem cellsTab:Tryz.prog.cellsOf 322 =16:=by kernel_rfl
theorem cellsU32:Tryz.prog.cellsOf 159 =1:=by kernel_rfl
def Xc:List Int:=[0,274646895,549293790,820201905,1098587580,1361435347,1640403810,1905808397,2197175160,2460548119,2722870694,2987750089,3280807620,3553878443,3811616794,4084100981]
theorem Hs:∀i:Fin 16,Xc.getD i.val 0=((tab (UInt32.ofNat i.val)).toNat:Int):=by decide +kernel
theorem yM{W:World}(h:Lib.TabIs Tryz.prog W "tabular/check.table" .u32 Xc):lY W:=λ c=>by
 have b:(UK.pG c).toNat<16:=by
  have:=UK.Xj c;omega
 have d:=h.cell gTab (UK.pG c).toNat (by simpa[Xc]using b);have a:=Hs ⟨(UK.pG c).toNat,b⟩;simp only[UInt32.ofNat_toNat]at a;rw[d,a]
noncomputable def RO(os:Os):World:=
 {World.holding Tryz.prog os ⟨#[],#[],[]⟩with heap:=(World.holding Tryz.prog os ⟨#[],#[],[]⟩).heap.modify 0 λ
   | .cells _ t frozen=>.cells #[.int .u32 0,.int .u32 274646895,.int .u32 549293790,.int .u32 820201905,.int .u32 1098587580,.int .u32 1361435347,.int .u32 1640403810,.int .u32 1905808397,.int .u32 2197175160,.int .u32 2460548119,.int .u32 2722870694,.int .u32 2987750089,.int .u32 3280807620,.int .u32 3553878443,.int .u32 3811616794,.int .u32 4084100981] t frozen
   | o=>o}
theorem oT{W:World}{rest:List (String×DataW Unit)}(h:laidMet Tryz.prog (("tabular/check.table",Rows.laid_tabular_check_table)::rest) W):lY W:=
 yM (Lib.tabIs_of_head (rest:=rest) gTab gTabType Tryz.underlying322 Tryz.underlying159 cellsU32 cellsTab h)
end Go.Proofs.YtgpmiliahonaoaaGreatDoor
