/-
  SeqPlays: the law returns true, whatever it is handed: the row and its card, out of the walk.
-/
import Derived.Test.YtlipgbnnbefhjaaGreatDoorKClSPs
import Derived.Test.YtlipgbnnbefhjaaGreatDoorKLawSPs
set_option maxRecDepth 100000
set_option maxHeartbeats 8000000
set_option linter.unusedSimpArgs false
namespace Go.Proofs.YtlipgbnnbefhjaaGreatDoor.seqPlays
open Go.ChangeShapes Go.WideShapes Go.ChangeAt Go.RowKit
open Go.ChangeMaps (open_string)
theorem contract(H:Type)(enc:TypeId×Value->H)(W:World)(base:Nat)(args:Array Value)(ds gs:List (DataW H))(before:List MemPlace)
  (hval:∀(j:Nat) t v,Tryz.f4.params[j]?=some t->args[j]?=some v->Value.okWide Tryz.prog W .any base t v)
  (hW:DataW.Whole enc Tryz.prog Tryz.f4.params.toList Rows.seqPlaysSpec.vars false W args.toList ds gs before) (hL:laidMetH Tryz.prog Rows.seqPlaysRow.laid W) :
  Calls Tryz.prog 4 args W λ e W'=>∃v,e= .returned v/\Rows.seqPlaysSpec.post enc Tryz.prog Tryz.f4 false true false false W args v W':=by
 have hW':=hW;obtain⟨p,q,hA0,hV,rfl,hfz,hnd⟩:=hW;have hA:DataW.TrodAll enc Tryz.prog W 0 (λ _=>true) true Tryz.f4.params.toList args.toList ds p:=hA0;rw[Tryz.params4]at hA hval;obtain⟨v0,vs0,d0,ds0,p0,q0,hargs,rfl,rfl,h0,r0⟩:=trodAll_cons hA;obtain⟨v1,vs1,d1,ds1,p1,q1,rfl,rfl,rfl,h1,r1⟩:=trodAll_cons r0;obtain⟨v2,vs2,d2,ds2,p2,q2,rfl,rfl,rfl,h2,r2⟩:=trodAll_cons r1;obtain⟨v3,vs3,d3,ds3,p3,q3,rfl,rfl,rfl,h3,r3⟩:=trodAll_cons r2;obtain⟨rfl,rfl,rfl⟩:=trodAll_nil r3;obtain rfl:args= #[v0,v1,v2,v3]:=by cases args;simp_all
 obtain⟨rfl,rfl⟩:=trodVars_none hV;have hlt:=λ x hx=>hW'.lt (p:=x) hx;simp only[jw,cB]at hlt;have hi0:=ycb Tryz.underlying3 (hval 0 3 v0 rfl rfl) h0;obtain⟨n0,rfl,wn0⟩:=hi0;have hok1:=(hval 1 22 v1 rfl rfl);have hi2:=ycb Tryz.underlying3 (hval 2 3 v2 rfl rfl) h2;obtain⟨n2,rfl,wn2⟩:=hi2;have hi3:=ycb Tryz.underlying3 (hval 3 3 v3 rfl rfl) h3;obtain⟨n3,rfl,wn3⟩:=hi3;clear hA0;simp only[jw]at hW';refine(sp_walk W (yca (rest:=[]) hL) n0 wn0 v1 hok1 h1 n2 wn2 n3 wn3).mono λ e W' ⟨he,hg⟩=>?_;subst he
 exact⟨_,rfl,yb9 (pa:=p0++(p1++(p2++(p3++[])))) (pv:=[]) hW' (λ _ _ _=>trodAll_cons_mk (shut_bool Tryz.underlying4 _) trodAll_mk0)
  (λ sp hsp=>trodAll_cons_mk (WideElems.Trod_stays laidOut (by kernel_rfl) (by decide +kernel) h0 (λ x hx=>hg.same (hlt x (by simp[hx]))) (λ x hx=>hsp x (by simp[hx]))) (trodAll_cons_mk (WideElems.Trod_stays laidOut (by kernel_rfl) (by decide +kernel) h1 (λ x hx=>hg.same (hlt x (by simp[hx]))) (λ x hx=>hsp x (by simp[hx]))) (trodAll_cons_mk (WideElems.Trod_stays laidOut (by kernel_rfl) (by decide +kernel) h2 (λ x hx=>hg.same (hlt x (by simp[hx]))) (λ x hx=>hsp x (by simp[hx]))) (trodAll_cons_mk (WideElems.Trod_stays laidOut (by kernel_rfl) (by decide +kernel) h3 (λ x hx=>hg.same (hlt x (by simp[hx]))) (λ x hx=>hsp x (by simp[hx]))) (trodAll_mk0))))) (λ _ _=>rfl) (by simp) hg
  (ok_one (by kernel_rfl) rfl (okWide_bool_mk Tryz.underlying4 _))⟩
theorem aaa(os:Os):laidMet Tryz.prog Rows.seqPlaysRow.laid ((yb8 os).forCall (λ _ _=>0) ⟨#[],#[.int .i64 0,.slice none 0 0,.int .i64 0,.int .i64 0],[]⟩).memory:=
 laidMet_of_run' 8 (by kernel_rfl) (by kernel_rfl)
theorem reads(os:Os){H:Type}(enc:TypeId×Value->H):∃places,DataW.whole enc Tryz.prog ((yb8 os).forCall (λ _ _=>0) ⟨#[],#[.int .i64 0,.slice none 0 0,.int .i64 0,.int .i64 0],[]⟩).memory Tryz.f4.params.toList Rows.seqPlaysSpec.vars false [.int .i64 0,.slice none 0 0,.int .i64 0,.int .i64 0] 8=some ([.lit (.int .i64 0),.nil,.lit (.int .i64 0),.lit (.int .i64 0)],[],places):=
 ⟨[],by kernel_rfl⟩
theorem lifted(os:Os)(started:os.Started)(H:Type)(enc:TypeId×Value->H)(F:Stop.Interp) :
  ReturnsInHanded {} Tryz.checked os 4 .any ((OpenSpec.ofChange Rows.seqPlaysSpec).preRow enc Tryz.prog Tryz.f4 Rows.seqPlaysRow.domain false Rows.seqPlaysRow.laid) (((OpenSpec.ofChange Rows.seqPlaysSpec).at F).post enc Tryz.prog Tryz.f4 false true false false):=by
 obtain⟨places,hx⟩:=reads os enc
 refine returnsInHanded_of_row (C:=Tryz.checked) (s:=OpenSpec.ofChange Rows.seqPlaysSpec) own started (by kernel_rfl) Tryz.func4
  (witness_row_at (enc:=enc) (C:=Tryz.checked) false (yb8 os) #[.int .i64 0,.slice none 0 0,.int .i64 0,.int .i64 0] rfl (by kernel_rfl) (by kernel_rfl) (by kernel_rfl)
   (OpenSpec.preRow_of_cond 8 hx (by kernel_rfl) (λ k hk=>by cases hk) (by kernel_rfl) (aaa os))) ?_
 intro W base args ds gs before hval hW _ _ _ hL _ _;exact contract H enc W base args ds gs before hval hW hL
theorem said:Rows.SeqPlaysSaid:=
 OpenClaim.holds_of_cond 4 Tryz.f4 rfl rfl rfl rfl rfl rfl rfl ⟨rfl,rfl,rfl,rfl,rfl⟩ rfl rfl rfl rfl rfl (by kernel_rfl) Tryz.func4 closed
  (of_decide_eq_true (by kernel_rfl)) (by unfold Func.isWrapper;first|(rw[if_pos (by decide +kernel)];kernel_rfl)|(rw[if_neg (by decide +kernel)];exact⟨rfl,rfl⟩))
  (λ os started H enc _ F=>by rw[OpenClaim.pre_eq_preRow];exact lifted os started H enc F)
theorem plain(f:FuncId)(fn:Func)(hf:Tryz.pinned.checked.prog.funcNamed Rows.seqPlaysRow.func=some f)(hfn:Tryz.pinned.checked.prog.funcs[f]?=some fn) :
  false=Tryz.pinned.checked.prog.looks []/\∀(j:Nat) t,fn.params[j]?=some t->Tryz.pinned.checked.prog.wantsStandIn t=false:=by
 obtain rfl:f=4 :=bC ((show Tryz.prog.funcNamed Rows.seqPlaysRow.func=some 4 by kernel_rfl).symm.trans hf) |>.symm;obtain rfl:fn=Tryz.f4 :=(bC (Tryz.func4.symm.trans hfn)).symm;refine⟨by kernel_rfl,λ j t ht=>?_⟩;rw[Tryz.params4]at ht;have hm:=Array.mem_of_getElem? ht;simp only[List.mem_toArray,aX,List.not_mem_nil,or_false]at hm;rcases hm with rfl|rfl|rfl|rfl
 ·exact(show Tryz.prog.wantsStandIn 3 =false by kernel_rfl)
 ·exact(show Tryz.prog.wantsStandIn 22 =false by kernel_rfl)
 ·exact(show Tryz.prog.wantsStandIn 3 =false by kernel_rfl)
 exact(show Tryz.prog.wantsStandIn 3 =false by kernel_rfl)
theorem card:Rows.SeqPlaysCardSaid:=
 Claim7.holds_tied_plain_at .later [] _ _ _ _ said (λ _ h=>by cases h) (by kernel_rfl) (λ _ h=>by cases h) seqPlays_row_tie rfl ⟨rfl,rfl⟩ (by kernel_rfl) rfl plain (by kernel_rfl)
end Go.Proofs.YtlipgbnnbefhjaaGreatDoor.seqPlays
