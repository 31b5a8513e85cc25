/- Facts on texts and trees on pages. -/
import Derived.Test.YtgpmiliahonaoaaGreatDoorKLawDEc
import Derived.Deep.Fields
import Derived.ChangeSame
import Derived.ProofKit
set_option maxRecDepth 100000
set_option maxHeartbeats 8000000
set_option linter.unusedSimpArgs false
namespace Go.Proofs.YtgpmiliahonaoaaGreatDoor
open Go.RowKit Go.ChangeShapes Go.WideShapes Go.Deep
section
variable{H:Type}{enc:TypeId×Value->H}{W:World}{base:Nat}{spare:Nat->Bool}{held:Bool}
theorem yby{cs:List Value}(h:cs.length=2):∃a b,cs=[a,b]:=by
 match cs,h with
 | [a,b],_=>exact⟨a,b,rfl⟩
theorem ybz{cs:List Value}(h:cs.length=4):∃a b c d,cs=[a,b,c,d]:=by
 match cs,h with
 | [a,b,c,d],_=>exact⟨a,b,c,d,rfl⟩
theorem Wn:Tryz.prog.cellsOf 3 =1:=by kernel_rfl
theorem xxf{r:Reach}{b0:Nat}{v:Value}{d:DataW H}{p:List MemPlace}(hok:Value.okWide Tryz.prog W r b0 25 v)(h:DataW.Trod enc Tryz.prog W base spare held 25 v d p) :
  ∃a b:Int,v= .agg #[.int .i64 a,.int .i64 b]:=by
 obtain⟨cs,rfl,hsz⟩:=okWide_struct Tryz.underlying25 hok;rw[show Tryz.prog.cellsOf 25 =2 by kernel_rfl]at hsz;obtain⟨fuel,hf⟩:=h;obtain⟨a,b,he⟩:=yby (cs:=cs.toList) (by simpa using hsz)
 obtain rfl:cs= #[a,b]:=by
  have:=congrArg List.toArray he
  simpa using this
 obtain⟨ys,n',hn',hy,aD,hyl,hfs⟩:=DataW.trod_struct Tryz.underlying25 hf;have hy3:ys.length=2:=hyl;have g0:DataW.trod enc Tryz.prog W base spare held n' 3 (List.take (Tryz.prog.cellsOf 3) [a,b])=ys[0]?:=hfs 0 _ rfl;have g1:DataW.trod enc Tryz.prog W base spare held n' 3 (List.take (Tryz.prog.cellsOf 3) [b])=ys[1]?:=hfs 1 _ rfl;rw[Wn,bL (by omega)]at g0 g1;obtain⟨x,hx,_,_⟩:=DataW.trod_int Tryz.underlying3 g0;obtain⟨y,hy2,_,_⟩:=DataW.trod_int Tryz.underlying3 g1;obtain rfl:a= .int .i64 x:=by simpa using hx
 obtain rfl:b= .int .i64 y:=by simpa using hy2
 exact⟨x,y,rfl⟩
theorem xt8{r:Reach}{b0:Nat}{v:Value}{d:DataW H}{p:List MemPlace}(hok:Value.okWide Tryz.prog W r b0 23 v)(h:DataW.Trod enc Tryz.prog W base spare held 23 v d p) :
  ∃a b c e:Int,v= .agg #[.int .i64 a,.int .i64 b,.int .i64 c,.int .i64 e]:=by
 obtain⟨cs,rfl,hsz⟩:=okWide_struct Tryz.underlying23 hok;rw[show Tryz.prog.cellsOf 23 =4 by kernel_rfl]at hsz;obtain⟨fuel,hf⟩:=h;obtain⟨a,b,c,e,he⟩:=ybz (cs:=cs.toList) (by simpa using hsz)
 obtain rfl:cs= #[a,b,c,e]:=by
  have:=congrArg List.toArray he
  simpa using this
 obtain⟨ys,n',hn',hy,aD,hyl,hfs⟩:=DataW.trod_struct Tryz.underlying23 hf;have hy3:ys.length=4:=hyl;have g0:DataW.trod enc Tryz.prog W base spare held n' 3 (List.take (Tryz.prog.cellsOf 3) [a,b,c,e])=ys[0]?:=hfs 0 _ rfl;have g1:DataW.trod enc Tryz.prog W base spare held n' 3 (List.take (Tryz.prog.cellsOf 3) [b,c,e])=ys[1]?:=hfs 1 _ rfl;have g2:DataW.trod enc Tryz.prog W base spare held n' 3 (List.take (Tryz.prog.cellsOf 3) [c,e])=ys[2]?:=hfs 2 _ rfl;have g3:DataW.trod enc Tryz.prog W base spare held n' 3 (List.take (Tryz.prog.cellsOf 3) [e])=ys[3]?:=hfs 3 _ rfl;rw[Wn,bL (by omega)]at g0 g1 g2 g3;obtain⟨x,hx,_,_⟩:=DataW.trod_int Tryz.underlying3 g0;obtain⟨y,hy2,_,_⟩:=DataW.trod_int Tryz.underlying3 g1;obtain⟨z,hz,_,_⟩:=DataW.trod_int Tryz.underlying3 g2;obtain⟨u,hu,_,_⟩:=DataW.trod_int Tryz.underlying3 g3;obtain rfl:a= .int .i64 x:=by simpa using hx
 obtain rfl:b= .int .i64 y:=by simpa using hy2
 obtain rfl:c= .int .i64 z:=by simpa using hz
 obtain rfl:e= .int .i64 u:=by simpa using hu
 exact⟨x,y,z,u,rfl⟩
end
theorem YS(W:World)(ht:kD W){H:Type}{enc:TypeId×Value->H}{base:Nat}{d0 d1:DataW H}{p0 p1:List MemPlace}(v0:Value)(hok0:Value.okWide Tryz.prog W .any base 23 v0)(h0:DataW.Trod enc Tryz.prog W 0 (λ _=>true) true 23 v0 d0 p0)
  (v1:Value) (hok1:Value.okWide Tryz.prog W .any base 25 v1) (h1:DataW.Trod enc Tryz.prog W 0 (λ _=>true) true 25 v1 d1 p1) :
  Calls Tryz.prog 3 #[v0,v1] W λ e w'=>e= .returned (.bool true)/\Below W W w':=by
 obtain⟨r,c,h,w,rfl⟩:=xt8 hok0 h0;obtain⟨a,b,rfl⟩:=xxf hok1 h1;exact(ybx r c h w a b W ht).mono λ e w' ⟨x,k⟩=>⟨x,k.os,k.tape,k.output,k.size,k.block⟩
end Go.Proofs.YtgpmiliahonaoaaGreatDoor
