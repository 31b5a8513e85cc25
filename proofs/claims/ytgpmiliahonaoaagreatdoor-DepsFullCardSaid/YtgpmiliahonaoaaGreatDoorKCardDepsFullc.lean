/- Facts on texts and trees on pages. -/
import Derived.Test.YtgpmiliahonaoaaGreatDoorKOpenDFc
import Derived.Test.YtgpmiliahonaoaaGreatDoorKClDFc
import Derived.Test.YtgpmiliahonaoaaGreatDoorKWrapKitc
set_option maxRecDepth 100000
set_option maxHeartbeats 8000000
set_option linter.unusedSimpArgs false
namespace Go.Proofs.YtgpmiliahonaoaaGreatDoor.depsFull
open Go.ChangeShapes Go.WideShapes Go.ChangeAt Go.RowKit
open Go.ChangeMaps (open_string)
theorem G4(H:Type)(enc:TypeId×Value->H)(W:World)(base:Nat)(args:Array Value)(l y:List (DataW H))(before:List MemPlace)
  (d:∀(j:Nat) t v,Tryz.f4.params[j]?=some t->args[j]?=some v->Value.okWide Tryz.prog W .any base t v)
  (s:DataW.Whole enc Tryz.prog Tryz.f4.params.toList Rows.depsFullSpec.vars false W args.toList l y before) (z:laidMetH Tryz.prog Rows.depsFullRow.laid W) :
  Calls Tryz.prog 4 args W λ e i=>∃v,e= .returned v/\Rows.depsFullSpec.post enc Tryz.prog Tryz.f4 false true false false W args v i:=by
 have f:=s;obtain⟨p,q,k,A,rfl,V,X⟩:=s;have r:DataW.TrodAll enc Tryz.prog W 0 (λ _=>true) true Tryz.f4.params.toList args.toList l p:=k;rw[Tryz.params4]at r d;obtain⟨u,h0,R,ds0,I,Y,U,rfl,rfl,m,L⟩:=trodAll_cons r;obtain⟨w,vs1,S,ds1,J,Z,rfl,rfl,rfl,n,M⟩:=trodAll_cons L;obtain⟨h,vs2,T,Q,K,q2,rfl,rfl,rfl,o,N⟩:=trodAll_cons M;obtain⟨rfl,rfl,rfl⟩:=trodAll_nil N;obtain rfl:args= #[u,w,h]:=by cases args;simp_all
 obtain⟨rfl,rfl⟩:=trodVars_none A;have c:=λ x a=>f.lt (p:=x) a;simp only[jl,dm]at c;have C:=Xi Tryz.underlying3 (d 0 3 u rfl rfl) m;obtain⟨F,rfl,O⟩:=C;have D:=Xi Tryz.underlying3 (d 1 3 w rfl rfl) n;obtain⟨G,rfl,P⟩:=D;have E:=(d 2 40 h rfl rfl);clear k;simp only[jl]at f;refine(CH W (oT (rest:=[]) z) F O G P h E o).mono λ e i ⟨B,b⟩=>?_;subst B
 exact⟨_,rfl,tf (pa:=I++(J++(K++[]))) (pv:=[]) f (λ _ _ _=>trodAll_cons_mk (shut_bool Tryz.underlying4 _) trodAll_mk0)
  (λ sp g=>trodAll_cons_mk (WideElems.Trod_stays laidOut (by kernel_rfl) (by decide +kernel) m (λ x a=>b.same (c x (by simp[a]))) (λ x a=>g x (by simp[a]))) (trodAll_cons_mk (WideElems.Trod_stays laidOut (by kernel_rfl) (by decide +kernel) n (λ x a=>b.same (c x (by simp[a]))) (λ x a=>g x (by simp[a]))) (trodAll_cons_mk (WideElems.Trod_stays laidOut (by kernel_rfl) (by decide +kernel) o (λ x a=>b.same (c x (by simp[a]))) (λ x a=>g x (by simp[a]))) (trodAll_mk0)))) (λ _ _=>rfl) (by simp) b
  (ok_one (by kernel_rfl) rfl (okWide_bool_mk Tryz.underlying4 _))⟩
theorem IH(a:Os):laidMet Tryz.prog Rows.depsFullRow.laid ((RO a).forCall (λ _ _=>0) ⟨#[],#[.int .i64 0,.int .i64 0,.slice none 0 0],[]⟩).memory:=
 laidMet_of_run' 8 (by kernel_rfl) (by kernel_rfl)
theorem reads(a:Os){H:Type}(enc:TypeId×Value->H):∃places,DataW.whole enc Tryz.prog ((RO a).forCall (λ _ _=>0) ⟨#[],#[.int .i64 0,.int .i64 0,.slice none 0 0],[]⟩).memory Tryz.f4.params.toList Rows.depsFullSpec.vars false [.int .i64 0,.int .i64 0,.slice none 0 0] 8=some ([.lit (.int .i64 0),.lit (.int .i64 0),.nil],[],places):=
 ⟨[],by kernel_rfl⟩
theorem sk(a:Os)(started:a.Started)(H:Type)(enc:TypeId×Value->H)(F:Stop.Interp) :
  ReturnsInHanded {} Tryz.checked a 4 .any ((OpenSpec.ofChange Rows.depsFullSpec).preRow enc Tryz.prog Tryz.f4 Rows.depsFullRow.domain false Rows.depsFullRow.laid) (((OpenSpec.ofChange Rows.depsFullSpec).at F).post enc Tryz.prog Tryz.f4 false true false false):=by
 obtain⟨places,h⟩:=reads a enc
 refine returnsInHanded_of_row (C:=Tryz.checked) (s:=OpenSpec.ofChange Rows.depsFullSpec) own started (by kernel_rfl) Tryz.func4
  (witness_row_at (enc:=enc) (C:=Tryz.checked) false (RO a) #[.int .i64 0,.int .i64 0,.slice none 0 0] rfl (by kernel_rfl) (by kernel_rfl) (by kernel_rfl)
   (OpenSpec.preRow_of_cond 8 h (by kernel_rfl) (λ k f=>by cases f) (by kernel_rfl) (IH a))) ?_
 intro W base args b c before g e _ _ _ d _ _;exact G4 H enc W base args b c before g e d
theorem said:Rows.DepsFullSaid:=
 OpenClaim.holds_of_cond 4 Tryz.f4 rfl rfl rfl rfl rfl rfl rfl ⟨rfl,rfl,rfl,rfl,rfl⟩ rfl rfl rfl rfl rfl (by kernel_rfl) Tryz.func4 closed
  (of_decide_eq_true (by kernel_rfl)) (by unfold Func.isWrapper;first|(rw[if_pos (by decide +kernel)];kernel_rfl)|(rw[if_neg (by decide +kernel)];exact⟨rfl,rfl⟩))
  (λ a started H enc _ F=>by rw[OpenClaim.pre_eq_preRow];exact sk a started H enc F)
theorem plain(f:FuncId)(a:Func)(hf:Tryz.pinned.checked.prog.funcNamed Rows.depsFullRow.func=some f)(d:Tryz.pinned.checked.prog.funcs[f]?=some a) :
  false=Tryz.pinned.checked.prog.looks []/\∀(j:Nat) t,a.params[j]?=some t->Tryz.pinned.checked.prog.wantsStandIn t=false:=by
 obtain rfl:f=4 :=bf ((show Tryz.prog.funcNamed Rows.depsFullRow.func=some 4 by kernel_rfl).symm.trans hf) |>.symm;obtain rfl:a=Tryz.f4 :=(bf (Tryz.func4.symm.trans d)).symm;refine⟨by kernel_rfl,λ j t c=>?_⟩;rw[Tryz.params4]at c;have b:=Array.mem_of_getElem? c;simp only[List.mem_toArray,aN,List.not_mem_nil,or_false]at b;rcases b with rfl|rfl|rfl
 ·exact(show Tryz.prog.wantsStandIn 3 =false by kernel_rfl)
 ·exact(show Tryz.prog.wantsStandIn 3 =false by kernel_rfl)
 exact(show Tryz.prog.wantsStandIn 40 =false by kernel_rfl)
theorem card:Rows.DepsFullCardSaid:=
 Claim7.holds_tied_plain_at .later [] _ _ _ _ said (λ _ h=>by cases h) (by kernel_rfl) (λ _ h=>by cases h) depsFull_row_tie rfl ⟨rfl,rfl⟩ (by kernel_rfl) rfl plain (by kernel_rfl)
end Go.Proofs.YtgpmiliahonaoaaGreatDoor.depsFull
