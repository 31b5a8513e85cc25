/- Facts on rows of numbers on pages. -/
import Derived.Test.YtlipgbnnbefhjaaGreatDoorKStCc
set_option maxRecDepth 100000
set_option maxHeartbeats 8000000
set_option linter.unusedSimpArgs false
namespace Go.Proofs.YtlipgbnnbefhjaaGreatDoor
open Go.RowKit
open UK (str aO nth Only Row aI)
open Go.BigFrame
section
variable{W w:World}{ao bo:Option Addr}{c d:Nat}{X Y vs:List UInt64}
def nN(W:World)(bo:Option Addr)(d:Nat)(vs:List UInt64):Prop:=(vs=[]/\(bo=none\/∃g o,bo=some ⟨g,o,none⟩))\/(0<vs.length/\dY (λ _=>True) W (.slice bo vs.length d) (aF vs))
def qX(W w:World)(ao:Option Addr)(c:Nat)(Y:List UInt64):Prop:=NR w ao c (aF Y)/\(∀g,aK ao g->W.heap.size<=g)/\Below W W w
theorem NR.Js(h:NR w ao c (aF Y)):Y.length<=c:=by
 rcases h with⟨_,h2,_⟩|⟨_,_,r⟩
 ·have:=congrArg List.length h2;rw[cz]at this;simp only[List.length_nil]at this;omega
 have:=r.le;rw[cz]at this;exact this
theorem ze(h:qX W w ao c Y)(hs:nN w bo d vs)(hl:Y.length+vs.length<=100000) :
  ∃cZ c' w',(Builtin.append_ #[27,27] 27 #[.slice ao Y.length c,.slice bo vs.length d]).run Tryz.prog w= .ok (.slice cZ (Y.length+vs.length) c') w'/\qX W w' cZ c' (Y++vs)/\Kept (λ j=>j<w.heap.size/\¬aK ao j) w w':=by
 obtain⟨h1,h2,h3⟩:=h;rcases hs with⟨rfl,hb⟩|⟨h0,hw⟩
 ·have hsrc:Src Tryz.prog 1 27 (.slice bo 0 d) 0 [] w:=by
   rcases hb with rfl|⟨g,o,rfl⟩
   ·exact Src.ofNil _ Tryz.underlying27 _
   exact Src.ofSlice _ Tryz.underlying27 _ 0 _ [] (by simp) (by simp) (by simp)
  refine⟨ao,c,w,?_,⟨by rw[jw];exact h1,h2,h3⟩,Kept.of_below (aP _ _) (λ j hj=>hj.1)⟩;exact run_append_nothing _ _ _ _ _ Tryz.t32 Tryz.underlying27 rfl _ _ _ h1.Js _ hsrc
 obtain⟨g',c',w',e,r,o⟩:=ER h1 hw h0 hl;refine⟨some ⟨g',0,none⟩,c',w',e,⟨.inr ⟨g',rfl,r⟩,λ g hg=>?_,?_⟩,?_⟩
 ·rw[gF hg];rcases o with⟨a,_⟩|⟨a,_⟩
  ·exact h2 _ a
  rw[a];exact h3.size
 ·rcases o with⟨a,o⟩|⟨_,hb⟩
  ·exact h3.trans (o.below h3.size (h2 _ a))
  exact h3.trans (hb.mono h3.size)
 rcases o with⟨a,ho⟩|⟨_,hb⟩
 ·exact⟨ho.os,ho.tape,ho.output,ho.size,λ j hj=>ho.block j hj.1 (λ e=>hj.2 (e▸a))⟩
 exact Kept.of_below hb (λ j hj=>hj.1)
theorem qX.step(h:qX W w ao c Y){w2:World}(hb:Below w w w2):qX W w2 ao c Y:=⟨h.1.af hb.size (λ g hg=>hb.block g (h.1.lt hg)),h.2.1,h.2.2.trans (hb.mono h.2.2.size)⟩
theorem Jt(T:TypeId)(hb:Below W W w):qX W (w.alloc (.cells #[] T)) w 0 []:=
 ⟨L9 w T,λ g hg=>by rw[gF hg];exact hb.size,hb.alloc hb.size _⟩
theorem Ph{x:UInt64}{g:Nat}(h:aI w g #[.int .u64 (x.toNat:Int)]):nN w g 1 [x]:=.inr ⟨by simp,YZ h trivial⟩
theorem Uu{g:Nat}(h:Row w g c (aF X))(o n:Nat)(ho:o+n<=X.length):nN w (g,o) (c-o) ((X.drop o).take n):=by
 have hl:((X.drop o).take n).length=n:=by rw[zt,zd];omega
 by_cases h0:n=0
 ·exact .inl ⟨pE.1 (by omega),.inr ⟨g,o,rfl⟩⟩
 refine .inr ⟨by omega,?_⟩;have w0:=sU (S:=λ _=>True) h trivial;rw[cz]at w0;have w1:=w0.drop o (by omega);have w3:=w1.take n (by omega);rw[BV,BZ,gq]at w3;rw[hl];exact w3
theorem Uv{g:Nat}(h:Row w g c (aF X))(n:Nat)(ho:n<=X.length):nN w g c (X.take n):=by
 have:=Uu h 0 n (by omega);rw[lL,Nat.sub_zero]at this;exact this
theorem Zc{g:Nat}(h:Row w g c (aF X))(o:Nat)(ho:o<=X.length):nN w (g,o) (c-o) (X.drop o):=by
 have:=Uu h o (X.length-o) (by omega);rw[eZ (by rw[zd];exact aZ _)]at this;exact this
theorem GN(bo:Option Addr)(d:Nat)(hb:bo=none\/∃g o,bo=some ⟨g,o,none⟩):nN w bo d []:=.inl ⟨rfl,hb⟩
theorem Zd(id:UInt64)(h:NR W ao c (aF X))(hX:X.length<=90000) :
  Calls Tryz.prog 41 #[.slice ao X.length c,.int .u64 id.toNat] W λ e w'=>((∃ι:Nat,X[ι]?=some id/\e= .returned (.int .i64 ι))\/(id∉X/\e= .returned (.int .i64 (-1))))/\w'=W:=by
 have HN:=zH h;clear h
 go_enter Tryz.func41,Tryz.ntmps41
 go_wp2_with fail
 go_loopw [9] (λ iv wr=>∃j:Nat,iv= .int .i64 j/\j<=X.length/\id∉X.take j/\wr=W) (λ iv _=>X.length-(intOf iv).toNat)
 case atStart=>exact⟨0,rfl,bY _,by simp,rfl⟩
 obtain⟨j,rfl,hj,hno,rfl⟩:=hrel;by_cases hlt:j<X.length
 ·obtain⟨t,ht⟩:∃t,X[j]?=some t:=⟨_,di hlt⟩
  obtain⟨g,rfl,r⟩:∃g,ao=some ⟨g,0,none⟩/\Row wr g c (aF X):=by
   rcases HN.out with⟨_,h2,_⟩|h1
   ·have:=congrArg List.length h2;rw[cz]at this;simp only[List.length_nil]at this;omega
   exact h1
  have ck:=r.at' j _ (qx _ _ _ ht);have hil:(j:Int)<(X.length:Int):=by omega
  clear r;by_cases he:t=id
  ·subst he;have hb:((t.toNat:Int)==(t.toNat:Int))=true:=by simp
   have HT:=zH ht;clear ht hno;go_wp2;go_ret;exact⟨.inl ⟨j,HT.out,rfl⟩,rfl⟩
  have hn:t.toNat≠id.toNat:=λ e=>he (UInt64.toNat_inj.1 e);have hb:((t.toNat:Int)==(id.toNat:Int))=false:=beq_eq_false_iff_ne.2 (by omega);have hni:¬(t.toNat:Int)=(id.toNat:Int):=by omega
  have iK:id∉X.take (j+1):=by
   rw[ow,ht];simp only[Option.toList_some,cB,bQ,not_or];exact⟨hno,λ e=>he e.symm⟩
  have yT:=zH iK;clear ht hno iK hn he;go_wp2;go_roundw
  case rel=>exact⟨j+1,by go_num,by omega,yT.out,trivial⟩
  case measure=>simp[intOf];omega
 obtain rfl:j=X.length:=by omega
 have hil:¬((X.length:Nat):Int)<(X.length:Int):=by omega
 rw[mi]at hno;have yT:=zH hno;clear hno;go_wp2;go_ret;exact⟨.inr ⟨yT.out,rfl⟩,rfl⟩
theorem xrn{φ ν j:Nat}{t:UInt64}(ht:X[j]?=some t):((X.take (j+1)).drop φ).take ν=((X.take j).drop φ).take ν++(if φ<=j/\j-φ<ν then [t] else []):=by
 have hj:=(dn.1 ht).1;have hl:(X.take j).length=j:=by rw[zt];omega
 rw[ow,ht];simp only[Option.toList_some];by_cases h1:φ<=j
 ·rw[kR (by omega),kU,zd,hl];by_cases h2:j-φ<ν
  ·rw[if_pos ⟨h1,h2⟩,eZ (l:=[t]) (by simp;omega)]
  rw[if_neg (by omega),show ν-(j-φ)=0 by omega,jH]
 rw[if_neg (by omega),kz (l:=X.take j++[t]) (by rw[zl,hl];simp;omega),kz (l:=X.take j) (by omega)];simp
def Mv(W w':World)(X:List UInt64)(φ ν:Int)(e:Ending):Prop:=((φ<0\/ν<0)/\e= .returned (.tuple #[.slice none 0 0,.int .i64 1])/\w'=W)\/(0<=φ/\0<=ν/\∃cZ c',e= .returned (.tuple #[.slice cZ ((X.drop φ.toNat).take ν.toNat).length c',.int .i64 0])/\qX W w' cZ c' ((X.drop φ.toNat).take ν.toNat))
theorem xz7(φ ν:Int)(h:NR W ao c (aF X))(hX:X.length<=90000) :
  Calls Tryz.prog 40 #[.slice ao X.length c,.int .i64 φ,.int .i64 ν] W λ e w'=>Mv W w' X φ ν e:=by
 by_cases q1:φ<0
 ·clear h
  go_enter Tryz.func40,Tryz.ntmps40
  go_wp2;go_ret2
  exact .inl ⟨.inl q1,rfl,rfl⟩
 by_cases q2:ν<0
 ·clear h
  go_enter Tryz.func40,Tryz.ntmps40
  go_wp2;go_ret2
  exact .inl ⟨.inr q2,rfl,rfl⟩
 obtain⟨f,rfl⟩:∃f:Nat,φ=f:=⟨φ.toNat,by omega⟩;obtain⟨v,rfl⟩:∃v:Nat,ν=v:=⟨ν.toNat,by omega⟩;have HN:=zH h;have HST:Hid (0=(((X.take 0).drop f).take v).length/\qX W (W.alloc (.cells #[] 32)) W 0 (((X.take 0).drop f).take v)):=zH ⟨by simp,by simpa using Jt 32 (aP _ _)⟩;clear h
 go_enter Tryz.func40,Tryz.ntmps40
 go_wp2_with fail
 go_loopw [8,20] (λ ov iv wr=>∃(j n:Nat) (cZ:Option Addr) (c':Nat),iv= .int .i64 j/\j<=X.length/\ov= .slice cZ n c'/\Hid (n=(((X.take j).drop f).take v).length/\qX W wr cZ c' (((X.take j).drop f).take v))) (λ _ iv _=>X.length-(intOf iv).toNat)
 case atStart=>exact⟨0,0,_,0,rfl,bY _,rfl,HST⟩
 clear HST;obtain⟨j,n,cZ,c',rfl,hj,rfl,hM⟩:=hrel;by_cases hlt:j<X.length
 ·obtain⟨t,ht⟩:∃t,X[j]?=some t:=⟨_,di hlt⟩;have hstep:=xrn (φ:=f) (ν:=v) ht
  obtain⟨g,rfl,r⟩:∃g,ao=some ⟨g,0,none⟩/\Row W g c (aF X):=by
   rcases HN.out with⟨_,h2,_⟩|h1
   ·have:=congrArg List.length h2;rw[cz]at this;simp only[List.length_nil]at this;omega
   exact h1
  have ck:=(r.below hM.out.2.2.2 r.lt).at' j _ (qx _ _ _ ht);have hil:(j:Int)<(X.length:Int):=by omega
  have aJ:(((X.take j).drop f).take v).length<=X.length:=by simp only[zt,zd];omega
  generalize hL:((X.take j).drop f).take v=L at *;clear r ht hL;by_cases hin:f<=j/\j-f<v
  ·rw[if_pos hin]at hstep;have g1:(f:Int)<=(j:Int):=by omega
   have hw1:IntKind.i64.wrap ((j:Int)-(f:Int))=((j-f:Nat):Int):=by rw[bN];omega
   have g2:((j-f:Nat):Int)<(v:Int):=by omega
   obtain⟨hn,m1,m2,m3⟩:=hM.out;obtain⟨dN,c2,w2,e1,mm,_⟩:=ze (bo:=some ⟨wr.heap.size,0,none⟩) (d:=1) (vs:=[t]) (qX.step ⟨m1,m2,m3⟩ ((aP wr wr).alloc (aZ _) (.cells #[.int .u64 (t.toNat:Int)] 32))) (Ph (aI.new wr #[.int .u64 (t.toNat:Int)] 32)) (by simp only[dw,List.length_nil];omega);have hln:n+1=(((X.take (j+1)).drop f).take v).length:=by rw[hstep,zl,hn];rfl
   rw[<-hstep]at mm;have HQ:=zH (zA hln mm);simp only[dw,List.length_nil,gq]at e1;rw[<-hn]at e1;clear hn hln m1 m2 m3 mm hM hstep hin HN
   go_wp2_with (at_builtin;refine UK.pV e1 rfl rfl rfl rfl rfl ?_)
   clear e1;go_wp2;go_roundw
   case rel=>exact⟨j+1,n+1,dN,c2,by go_num,by omega,rfl,HQ⟩
   case measure=>simp[intOf];omega
  rw[if_neg hin,jw]at hstep;rw[<-hstep]at hM;by_cases g0:f<=j
  ·have g1:(f:Int)<=(j:Int):=by omega
   have hw1:IntKind.i64.wrap ((j:Int)-(f:Int))=((j-f:Nat):Int):=by rw[bN];omega
   have g2:¬((j-f:Nat):Int)<(v:Int):=by omega
   clear hstep hin HN;go_wp2;go_roundw
   case rel=>exact⟨j+1,n,cZ,c',by go_num,by omega,rfl,hM⟩
   case measure=>simp[intOf];omega
  have g1:¬(f:Int)<=(j:Int):=by omega
  clear hstep hin HN;go_wp2;go_roundw
  case rel=>exact⟨j+1,n,cZ,c',by go_num,by omega,rfl,hM⟩
  case measure=>simp[intOf];omega
 obtain rfl:j=X.length:=by omega
 have hil:¬((X.length:Nat):Int)<(X.length:Int):=by omega
 rw[mi]at hM
 have HF:Hid (∀w',w'=wr->Mv W w' X f v (.returned (.tuple #[.slice cZ n c',.int .i64 0]))):=zH (λ w' hw=>by
  subst hw;obtain⟨hn,hm⟩:=hM.out;refine .inr ⟨by omega,by omega,cZ,c',?_,?_⟩
  ·rw[hn,show((f:Nat):Int).toNat=f by omega,show((v:Nat):Int).toNat=v by omega]
  rw[show((f:Nat):Int).toNat=f by omega,show((v:Nat):Int).toNat=v by omega];exact hm)
 clear HN hM;go_wp2;go_ret2;exact HF.out _ rfl
end
section
variable{W w:World}{ao bo:Option Addr}{c d:Nat}{X Y vs:List UInt64}
theorem Ju{i:Nat}{b1:Option Addr}{d1 Uw:Nat}(hX:X.length<=90000)(hi:i<=X.length)(h:qX W w Uw 0 [])(s1:∀w,Below W W w->nN w b1 d1 (X.take i)) :
  ∃a1 c1 w1,(Builtin.append_ #[27,27] 27 #[.slice Uw 0 0,.slice b1 i d1]).run Tryz.prog w= .ok (.slice a1 i c1) w1/\qX W w1 a1 c1 (X.take i)/\Kept (λ j=>j<w.heap.size/\¬aK Uw j) w w1:=by
 have hl:(X.take i).length=i:=by rw[zt];omega
 have:=ze h (s1 w h.2.2) (by simp only[List.length_nil];omega);rw[hl,List.length_nil,gq,gH]at this;exact this
def Fq(l:Nat)(i:Int):Prop:=i<0\/(l:Int)<i
def Mw(W w':World)(ao:Option Addr)(c:Nat)(X:List UInt64)(i:Int)(iu:UInt64)(e:Ending):Prop:=
 (Fq X.length i/\e= .returned (.tuple #[.slice ao X.length c,.int .i64 1])/\w'=W)\/(¬Fq X.length i/\iu∈X/\e= .returned (.tuple #[.slice ao X.length c,.int .i64 5])/\w'=W) \/
  (¬Fq X.length i/\iu∉X/\∃cZ c',e= .returned (.tuple #[.slice cZ (X.length+1) c',.int .i64 0])/\qX W w' cZ c' (X.take i.toNat++iu::X.drop i.toNat))
theorem xxm(i:Int)(iu:UInt64)(h:NR W ao c (aF X))(hX:X.length<=90000) :
  Calls Tryz.prog 24 #[.slice ao X.length c,.int .i64 i,.int .u64 iu.toNat] W λ e w'=>Mw W w' ao c X i iu e:=by
 by_cases q1:i<0
 ·clear h
  go_enter Tryz.func24,Tryz.ntmps24
  go_wp2;go_ret2
  exact .inl ⟨.inl q1,rfl,rfl⟩
 by_cases q2:(X.length:Int)<i
 ·clear h
  go_enter Tryz.func24,Tryz.ntmps24
  go_wp2;go_ret2
  exact .inl ⟨.inr q2,rfl,rfl⟩
 have HG:=zH (show ¬Fq X.length i by unfold Fq;omega);obtain⟨ι,rfl⟩:∃ι:Nat,i=ι:=⟨i.toNat,by omega⟩;have HF:=zH (Zd iu h hX);have HN:=zH h;have wz:ι<=X.length:=by omega
 have Pj:=h.Js;clear h;by_cases hin:iu∈X
 ·go_enter Tryz.func24,Tryz.ntmps24
  go_wp2_with fail
  refine HF.out.mono ?_;rintro e w1 ⟨⟨κ,_,rfl⟩|⟨hno,rfl⟩,rfl⟩
  ·have g1:(0:Int)<=(κ:Int):=by omega
   clear HF HN Pj;go_wp2;go_ret2;exact .inr (.inl ⟨HG.out,hin,rfl,rfl⟩)
  exact absurd hin hno
 obtain⟨bo,dd,hsl,s2⟩:∃(bo:Option Addr) (dd:Nat),(bo=if c=ι then ao else Option.map (λ x=>x.add ι) ao)/\∀w,Below W W w->nN w bo (c-ι) (X.drop ι):=by
  refine⟨_,0,rfl,λ w hb=>?_⟩;rcases HN.out with⟨rfl,h2,_⟩|⟨g,rfl,r⟩
  ·have h3:X=[]:=by
    have:=congrArg List.length h2;rw[cz]at this;exact pE.1 this
   subst h3;rw[List.drop_nil]
   split<;>exact GN _ _ (.inl rfl)
  have r2:=r.below hb r.lt;by_cases he:c=ι
  ·rw[if_pos he];have h3:X.drop ι=[]:=kz (by omega);rw[h3];exact GN _ _ (.inr ⟨g,0,rfl⟩)
  rw[if_neg he];have:=Zc r2 ι wz
  have e1:(Option.map (λ x:Addr=>x.add ι) g:Option Addr)=some ⟨g,ι,none⟩:=by
   by_cases h0:ι=0
   ·subst h0;rfl
   simp[Addr.add,h0]
  rw[e1];exact this
 have s1:∀w,Below W W w->nN w ao c (X.take ι):=λ w hb=>by
  rcases HN.out with⟨rfl,h2,_⟩|⟨g,rfl,r⟩
  ·have h3:X=[]:=by
    have:=congrArg List.length h2;rw[cz]at this;exact pE.1 this
   subst h3;rw[List.take_nil];exact GN _ _ (.inl rfl)
  exact Uv (r.below hb r.lt) ι wz
 go_enter Tryz.func24,Tryz.ntmps24
 go_wp2_with fail
 refine HF.out.mono ?_;rintro e w1 ⟨⟨κ,dK,rfl⟩|⟨hno,rfl⟩,rfl⟩
 ·exact absurd (fe dK) hin
 have HS:=zH (zA s1 s2);have Ux:=zH hsl;have i1:ι<=c:=by omega
 have i2:(ι:Int)<=(X.length:Int):=by omega
 have i3:(ι:Int)<=(c:Int):=by omega
 have nK:Hid (∀(cZ:Option Addr) (c':Nat) (w':World),qX w1 w' cZ c' (X.take ι++[iu]++X.drop ι)->Mw w1 w' ao c X ι iu (.returned (.tuple #[.slice cZ (ι+1+(X.length-ι)) c',.int .i64 0]))):=zH (λ cZ c' w' hm=>.inr (.inr ⟨HG.out,hin,cZ,c',by rw[show ι+1+(X.length-ι)=X.length+1 by omega],by rw[show((ι:Nat):Int).toNat=ι by omega];simpa using hm⟩));clear HF s1 s2 hno hsl HG HN
 go_wp2_with fail
 refine wp_region_any (by kernel_rfl) ?_;refine zT 1 ?_;refine zT 2 ?_;refine zT 3 ?_;refine zT 5 ?_;refine zT 8 ?_;refine zT 9 ?_;refine wpAny_take (i:=10) (v:=.slice bo (X.length-ι) (c-ι)) rfl (by kernel_rfl) (by kernel_rfl) (by kernel_rfl) (λ _ _ _ h=>h) (Or.inl ⟨by rfl,?zR⟩) ?CR
 case zR=>(intro w;go_simp;rw[Ux.out])
 try simp only[Act.put,zS,z0,z1]
 refine zV (w:=w1.drew) (λ w'=>True) 99 (by exact trivial) λ hS0=>?_;clear hS0;have b0:Below w1 w1 w1.drew:=(aP _ _).drew;have hl1:(X.take ι).length=ι:=by rw[zt];omega
 have hl2:(X.take ι++[iu]).length=ι+1:=by rw[zl,hl1];rfl
 have hl3:(X.drop ι).length=X.length-ι:=zd ..;refine ru (i:=0) (j:=6) (by kernel_rfl) rfl rfl (λ K hK=>?_) (λ K hK=>?_)
 ·go_simp;refine zK hK ?_;have m0:=Jt (W:=w1) 32 b0;refine ru (i:=4) (j:=6) (by kernel_rfl) rfl rfl (λ K hK=>?_) (λ K hK=>?_)
  ·obtain⟨a1,c1,w4,e4,m4,k4⟩:=Ju hX wz m0 HS.out.1;refine UK.aB e4 rfl rfl rfl (by simp[Act.eval]) (by simp[Act.eval]) ?_;refine zK hK ?_;have x6:=aI.new w4 #[.int .u64 (iu.toNat:Int)] 32;have m6:=m4.step ((aP w4 w4).alloc (aZ _) (.cells #[.int .u64 (iu.toNat:Int)] 32));refine zM 6 ?_;obtain⟨a2,c2,w7,e7,m7,_⟩:=ze m6 (Ph x6) (by simp only[zt,dw,List.length_nil];omega);rw[hl1,show([iu]:List UInt64).length=1 from rfl]at e7;refine zL 7 λ K hK=>?_;refine UK.aB e7 rfl rfl rfl (by simp[Act.eval]) (by simp[Act.eval]) ?_;refine zK hK ?_;obtain⟨a3,c3,IC,e11,m11,_⟩:=ze m7 (HS.out.2 _ m7.2.2) (by simp only[zl,zt,dw,List.length_nil,zd];omega);rw[hl2,hl3]at e11;refine zL 11 λ K hK=>?_;refine UK.aB e11 rfl rfl rfl (by simp[Act.eval]) (by simp[Act.eval]) ?_;refine zK hK ?_;refine zM 12 ?_;refine zM 13 ?_;refine iR (by kernel_rfl) ?_ _;have HM:=zH m11;clear m7 m11 e7 e11
   go_wp2_with fail
   go_ret2;exact nK.out _ _ _ HM.out
  have x6:=aI.new (w1.drew.alloc (.cells #[] 32)) #[.int .u64 (iu.toNat:Int)] 32;have m6:=m0.step ((aP (w1.drew.alloc (.cells #[] 32)).heap.size _).alloc (aZ _) (.cells #[.int .u64 (iu.toNat:Int)] 32));go_simp;refine zK hK ?_;have GQ:¬aK w1.drew.heap.size (w1.drew.alloc (.cells #[] 32)).heap.size:=λ hs=>by have:=gF hs;simp at this
  obtain⟨a1,c1,w4,e4,m4,k4⟩:=Ju hX wz m6 HS.out.1;have x4:=x6.af (k4.block _ ⟨x6.lt,GQ⟩);refine zL 4 λ K hK=>?_;refine UK.aB e4 rfl rfl rfl (by simp[Act.eval]) (by simp[Act.eval]) ?_;refine zK hK ?_;obtain⟨a2,c2,w7,e7,m7,_⟩:=ze m4 (Ph x4) (by simp only[zt,dw,List.length_nil];omega);rw[hl1,show([iu]:List UInt64).length=1 from rfl]at e7;refine zL 7 λ K hK=>?_;refine UK.aB e7 rfl rfl rfl (by simp[Act.eval]) (by simp[Act.eval]) ?_;refine zK hK ?_;obtain⟨a3,c3,IC,e11,m11,_⟩:=ze m7 (HS.out.2 _ m7.2.2) (by simp only[zl,zt,dw,List.length_nil,zd];omega);rw[hl2,hl3]at e11;refine zL 11 λ K hK=>?_;refine UK.aB e11 rfl rfl rfl (by simp[Act.eval]) (by simp[Act.eval]) ?_;refine zK hK ?_;refine zM 12 ?_;refine zM 13 ?_;refine iR (by kernel_rfl) ?_ _;have HM:=zH m11;clear m7 m11 e7 e11
  go_wp2_with fail
  go_ret2;exact nK.out _ _ _ HM.out
 have x60:=aI.new w1.drew #[.int .u64 (iu.toNat:Int)] 32;have b6:Below w1 w1 (w1.drew.alloc (.cells #[.int .u64 (iu.toNat:Int)] 32)):=b0.alloc b0.size _;go_simp;refine zK hK ?_;refine zM 0 ?_;have m6:=Jt (W:=w1) 32 b6;have x6:=x60.alloc (.cells #[] 32);have GQ:¬aK (some ⟨(w1.drew.alloc (.cells #[.int .u64 (iu.toNat:Int)] 32)).heap.size,0,none⟩) w1.drew.heap.size:=λ hs=>by have:=gF hs;simp at this
 obtain⟨a1,c1,w4,e4,m4,k4⟩:=Ju hX wz m6 HS.out.1;have x4:=x6.af (k4.block _ ⟨x6.lt,GQ⟩);refine zL 4 λ K hK=>?_;refine UK.aB e4 rfl rfl rfl (by simp[Act.eval]) (by simp[Act.eval]) ?_;refine zK hK ?_;obtain⟨a2,c2,w7,e7,m7,_⟩:=ze m4 (Ph x4) (by simp only[zt,dw,List.length_nil];omega);rw[hl1,show([iu]:List UInt64).length=1 from rfl]at e7;refine zL 7 λ K hK=>?_;refine UK.aB e7 rfl rfl rfl (by simp[Act.eval]) (by simp[Act.eval]) ?_;refine zK hK ?_;obtain⟨a3,c3,IC,e11,m11,_⟩:=ze m7 (HS.out.2 _ m7.2.2) (by simp only[zl,zt,dw,List.length_nil,zd];omega);rw[hl2,hl3]at e11;refine zL 11 λ K hK=>?_;refine UK.aB e11 rfl rfl rfl (by simp[Act.eval]) (by simp[Act.eval]) ?_;refine zK hK ?_;refine zM 12 ?_;refine zM 13 ?_;refine iR (by kernel_rfl) ?_ _;have HM:=zH m11;clear m7 m11 e7 e11
 go_wp2_with fail
 go_ret2;exact nK.out _ _ _ HM.out
end
section
variable{W w:World}{ao bo:Option Addr}{c d:Nat}{X Y vs:List UInt64}
def D7(W w':World)(ao:Option Addr)(c:Nat)(X:List UInt64)(i:Int)(e:Ending):Prop:=
 ((i<0\/(X.length:Int)<=i)/\e= .returned (.tuple #[.slice ao X.length c,.int .u64 0,.int .i64 1])/\w'=W)\/(∃(ι:Nat) (iu:UInt64),i=ι/\X[ι]?=some iu/\∃cZ c',e= .returned (.tuple #[.slice cZ (X.length-1) c',.int .u64 (iu.toNat:Int),.int .i64 0])/\qX W w' cZ c' (X.take ι++X.drop (ι+1)))
theorem ybk(i:Int)(h:NR W ao c (aF X))(hX:X.length<=90000) :
  Calls Tryz.prog 26 #[.slice ao X.length c,.int .i64 i] W λ e w'=>D7 W w' ao c X i e:=by
 by_cases q1:i<0
 ·have HF:Hid (D7 W W ao c X i (.returned (.tuple #[.slice ao X.length c,.int .u64 0,.int .i64 1]))):=zH (.inl ⟨.inl q1,rfl,rfl⟩);clear h
  go_enter Tryz.func26,Tryz.ntmps26
  go_wp2
  go_ret3
  exact HF.out
 by_cases q2:(X.length:Int)<=i
 ·have HF:Hid (D7 W W ao c X i (.returned (.tuple #[.slice ao X.length c,.int .u64 0,.int .i64 1]))):=zH (.inl ⟨.inr q2,rfl,rfl⟩);clear h
  go_enter Tryz.func26,Tryz.ntmps26
  go_wp2
  go_ret3
  exact HF.out
 obtain⟨ι,rfl⟩:∃ι:Nat,i=ι:=⟨i.toNat,by omega⟩;have wz:ι<X.length:=by omega
 have Pj:=h.Js;obtain⟨iu,hid⟩:∃iu,X[ι]?=some iu:=⟨_,di wz⟩
 obtain⟨g,rfl,r⟩:∃g,ao=some ⟨g,0,none⟩/\Row W g c (aF X):=by
  rcases h with⟨_,h2,_⟩|h1
  ·have:=congrArg List.length h2;rw[cz]at this;simp only[List.length_nil]at this;omega
  exact h1
 obtain⟨bo,hsl,s2⟩:∃(bo:Option Addr),(bo=if c=ι+1 then some ⟨g,0,none⟩ else some ⟨g,ι+1,none⟩)/\∀w,Below W W w->nN w bo (c-(ι+1)) (X.drop (ι+1)):=by
  refine⟨_,rfl,λ w hb=>?_⟩;have r2:=r.below hb r.lt;by_cases he:c=ι+1
  ·rw[if_pos he];have h3:X.drop (ι+1)=[]:=kz (by omega);rw[h3];exact GN _ _ (.inr ⟨g,0,rfl⟩)
  rw[if_neg he];exact Zc r2 (ι+1) (by omega)
 have s1:∀w,Below W W w->nN w g c (X.take ι):=λ w hb=>Uv (r.below hb r.lt) ι (by omega);have Uy:∀w,Below W W w->w.cell? (g,ι)=some (.int .u64 (iu.toNat:Int)):=λ w hb=>(r.below hb r.lt).at' ι _ (qx _ _ _ hid);have b0:Below W W W.drew:=(aP _ _).drew;have hS1:=Uy _ b0;have Jv:=zH Uy;have HS:=zH (zA s1 s2);have Ux:=zH hsl;have nK:Hid (∀(cZ:Option Addr) (c':Nat) (w':World),qX W w' cZ c' (X.take ι++X.drop (ι+1))->D7 W w' g c X ι (.returned (.tuple #[.slice cZ (ι+(X.length-(ι+1))) c',.int .u64 (iu.toNat:Int),.int .i64 0]))):=zH (λ cZ c' w' hm=>.inr ⟨ι,iu,rfl,hid,cZ,c',by rw[show ι+(X.length-(ι+1))=X.length-1 by omega],hm⟩);have i1:ι<=c:=by omega
 have i2:(ι:Int)<=(X.length:Int):=by omega
 have i3:(ι:Int)<=(c:Int):=by omega
 have i4:(ι:Int)<(X.length:Int):=by omega
 have i5:(ι:Int)+1<=(X.length:Int):=by omega
 have i6:ι+1<=X.length:=by omega
 have i7:IntKind.i64.wrap ((ι:Int)+1)=(ι:Int)+1:=by rw[bN];omega
 have i8:(0:Int)<=(ι:Int)+1:=by omega
 have i9:((ι:Int)+1).toNat=ι+1:=by omega
 have Mx:ι<=X.length:=by omega
 clear h s1 s2 hsl Uy hid r
 go_enter Tryz.func26,Tryz.ntmps26
 go_wp2_with fail
 refine wp_region_any (by kernel_rfl) ?_;refine zT 1 ?_;refine zT 2 ?_;refine zT 3 ?_;refine zT 5 ?_;refine zT 6 ?_;refine zT 7 ?_;refine wpAny_take (i:=8) (v:=.slice bo (X.length-(ι+1)) (c-(ι+1))) rfl (by kernel_rfl) (by kernel_rfl) (by kernel_rfl) (λ _ _ _ h=>h) (Or.inl ⟨by rfl,?Uz⟩) ?U0
 case Uz=>(intro w;go_simp;rw[Ux.out])
 try simp only[Act.put,zS,z0,z1]
 refine zT 10 ?_;refine zT 11 ?_;refine zT 12 ?_;refine zV (w:=W.drew) (λ w'=>w'.cell? (g,ι)=some (.int .u64 (iu.toNat:Int))) 99 (by exact hS1) λ hS0=>?_;refine zU 13 hS0 ?_;clear hS0;have hl1:(X.take ι).length=ι:=by rw[zt];omega
 have hl3:(X.drop (ι+1)).length=X.length-(ι+1):=zd ..;have m0:=Jt (W:=W) 32 b0;refine zM 0 ?_ (λ _=>Jv.out _ m0.2.2);obtain⟨a1,c1,w4,e4,m4,k4⟩:=Ju hX Mx m0 HS.out.1;refine zL 4 λ K hK=>?_;refine UK.aB e4 rfl rfl rfl (by simp[Act.eval]) (by simp[Act.eval]) ?_;refine zK hK ?_ (λ _=>Jv.out _ m4.2.2);obtain⟨a3,c3,w9,e9,m9,_⟩:=ze m4 (HS.out.2 _ m4.2.2) (by simp only[zt,zd];omega);rw[hl1,hl3]at e9;refine zL 9 λ K hK=>?_;refine UK.aB e9 rfl rfl rfl (by simp[Act.eval]) (by simp[Act.eval]) ?_;refine zK hK ?_ (λ _=>Jv.out _ m9.2.2);refine zM 14 ?_ (λ _=>Jv.out _ m9.2.2);refine zM 15 ?_ (λ _=>Jv.out _ m9.2.2);refine zM 16 ?_ (λ _=>Jv.out _ m9.2.2);refine iR (by kernel_rfl) ?_ _;have HM:=zH m9;clear m4 m9 e4 e9
 go_wp2_with fail
 go_ret3
 exact nK.out _ _ _ HM.out
end
section
variable{W w:World}{ao bo:Option Addr}{c d:Nat}{X Y vs:List UInt64}
def uS(ao:Option Addr)(c o:Nat):Option Addr:=if c=o then ao else Option.map (λ x=>x.add o) ao
theorem NR.M0(h:NR W none c (aF X)):X=[]:=by
 rcases h with⟨_,h2,_⟩|⟨g,h2,_⟩
 ·have:=congrArg List.length h2;rw[cz]at this;exact pE.1 this
 cases h2
theorem NR.M3(h:NR W ao c (aF X))(o n:Nat)(hn:o+n<=X.length)(hb:Below W W w):nN w (uS ao c o) (c-o) ((X.drop o).take n):=by
 have Pj:=h.Js;unfold uS
 cases ao with
 | none=>
  have h3:=h.M0;subst h3;rw[List.drop_nil,List.take_nil]
  split<;>exact GN _ _ (.inl rfl)
 | some a=>
  rcases h with⟨h2,_⟩|⟨g,h2,r⟩
  ·cases h2
  obtain rfl:=bC h2;have r2:=r.below hb r.lt;by_cases he:c=o
  ·rw[if_pos he];have h3:X.drop o=[]:=kz (by omega);rw[h3,List.take_nil];exact GN _ _ (.inr ⟨g,0,rfl⟩)
  rw[if_neg he]
  have e1:(Option.map (λ x:Addr=>x.add o) g:Option Addr)=some ⟨g,o,none⟩:=by
   by_cases h0:o=0
   ·subst h0;rfl
   simp[Addr.add,h0]
  rw[e1];exact Uu r2 o n hn
theorem NR.Fs(h:NR W ao c (aF X))(o:Nat)(ho:o<=X.length)(hb:Below W W w):nN w (uS ao c o) (c-o) (X.drop o):=by
 have:=h.M3 o (X.length-o) (by omega) hb;rw[eZ (by rw[zd];exact aZ _)]at this;exact this
theorem NR.Fu(h:NR W ao c (aF X))(n:Nat)(hn:n<=X.length)(hb:Below W W w):nN w ao c (X.take n):=by
 cases ao with
 | none=>
  have h3:=h.M0;subst h3;rw[List.take_nil];exact GN _ _ (.inl rfl)
 | some a=>
  rcases h with⟨h2,_⟩|⟨g,h2,r⟩
  ·cases h2
  obtain rfl:=bC h2;exact Uv (r.below hb r.lt) n hn
theorem qX.from{w1:World}(h1:Below W W w1)(h:qX w1 w ao c Y):qX W w ao c Y:=⟨h.1,λ g hg=>bf h1.size (h.2.1 g hg),h1.trans (h.2.2.mono h1.size)⟩
def GR(W w':World)(ao:Option Addr)(c:Nat)(X:List UInt64)(φ ν τ:Int)(e:Ending):Prop:=
 (xE X.length φ ν τ/\e= .returned (.tuple #[.slice ao X.length c,.int .i64 1])/\w'=W)\/(¬xE X.length φ ν τ/\∃cZ c',e= .returned (.tuple #[.slice cZ X.length c',.int .i64 0])/\qX W w' cZ c' (uR X φ.toNat ν.toNat τ.toNat))
theorem ybl(φ ν τ:Int)(h:NR W ao c (aF X))(hX:X.length<=30000) :
  Calls Tryz.prog 28 #[.slice ao X.length c,.int .i64 φ,.int .i64 ν,.int .i64 τ] W λ e w'=>GR W w' ao c X φ ν τ e:=by
 have HB:Hid (xE X.length φ ν τ->GR W W ao c X φ ν τ (.returned (.tuple #[.slice ao X.length c,.int .i64 1]))):=zH (λ hb=>.inl ⟨hb,rfl,rfl⟩);by_cases q1:φ<0
 ·have HF:=zH (HB.out (.inl q1));clear HB h
  go_enter Tryz.func28,Tryz.ntmps28
  go_wp2;go_ret2
  exact HF.out
 by_cases q2:ν<0
 ·have HF:=zH (HB.out (.inr (.inl q2)));clear HB h
  go_enter Tryz.func28,Tryz.ntmps28
  go_wp2;go_ret2
  exact HF.out
 by_cases q3:(X.length:Int)<ν
 ·have HF:=zH (HB.out (.inr (.inr (.inl q3))));clear HB h
  go_enter Tryz.func28,Tryz.ntmps28
  go_wp2;go_ret2
  exact HF.out
 have hw0:IntKind.i64.wrap ((X.length:Int)-ν)=(X.length:Int)-ν:=by rw[bN];omega
 by_cases q4:(X.length:Int)-ν<φ
 ·have HF:=zH (HB.out (.inr (.inr (.inr (.inl q4)))));clear HB h
  go_enter Tryz.func28,Tryz.ntmps28
  go_wp2;go_ret2
  exact HF.out
 by_cases q5:τ<0
 ·have HF:=zH (HB.out (.inr (.inr (.inr (.inr (.inl q5))))));clear HB h
  go_enter Tryz.func28,Tryz.ntmps28
  go_wp2;go_ret2
  exact HF.out
 by_cases q6:(X.length:Int)-ν<τ
 ·have HF:=zH (HB.out (.inr (.inr (.inr (.inr (.inr q6))))));clear HB h
  go_enter Tryz.func28,Tryz.ntmps28
  go_wp2;go_ret2
  exact HF.out
 have HG:=zH (show ¬xE X.length φ ν τ by unfold xE;omega);clear HB;obtain⟨f,rfl⟩:∃f:Nat,φ=f:=⟨φ.toNat,by omega⟩;obtain⟨v,rfl⟩:∃v:Nat,ν=v:=⟨ν.toNat,by omega⟩;obtain⟨t,rfl⟩:∃t:Nat,τ=t:=⟨τ.toNat,by omega⟩;have Mr:f+v<=X.length:=by omega
 have Mt:t+v<=X.length:=by omega
 have Pj:=h.Js;have HN:=zH h;obtain⟨b1,hb1⟩:∃b1,b1=uS ao c (f+v):=⟨_,rfl⟩;obtain⟨b2,hb2⟩:∃b2,b2=uS ao c f:=⟨_,rfl⟩;have HB1:=zH hb1;have HB2:=zH hb2;have b0:Below W W W.drew:=(aP _ _).drew;have i1:f<=c:=by omega
 have i2:(f:Int)<=(X.length:Int):=by omega
 have i3:(f:Int)<=(c:Int):=by omega
 have i5:(f:Int)+(v:Int)<=(X.length:Int):=by omega
 have i6:f+v<=c:=by omega
 have i7:IntKind.i64.wrap ((f:Int)+(v:Int))=(f:Int)+(v:Int):=by rw[bN];omega
 have i8:(0:Int)<=(f:Int)+(v:Int):=by omega
 have i9:((f:Int)+(v:Int)).toNat=f+v:=by omega
 have i10:(f:Int)+(v:Int)<=(c:Int):=by omega
 have i11:(f:Int)<=(f:Int)+(v:Int):=by omega
 have i12:f<=f+v:=by omega
 have hfX:f<=X.length:=by omega
 clear h hb1 hb2
 go_enter Tryz.func28,Tryz.ntmps28
 go_wp2_with fail
 refine wp_region_any (by kernel_rfl) ?_;refine zT 1 ?_;refine zT 2 ?_;refine zT 3 ?_;refine zT 5 ?_;refine zT 6 ?_;refine zT 7 ?_;refine zT 8 ?_;refine wpAny_take (i:=9) (v:=.slice b1 (X.length-(f+v)) (c-(f+v))) rfl (by kernel_rfl) (by kernel_rfl) (by kernel_rfl) (λ _ _ _ h=>h) (Or.inl ⟨by rfl,?U1⟩) ?U2
 case U1=>(intro w;go_simp;rw[HB1.out];rfl)
 try simp only[Act.put,zS,z0,z1]
 refine zV (w:=W.drew) (λ w'=>True) 99 (by exact trivial) λ hS0=>?_;clear hS0;have hl1:(X.take f).length=f:=by rw[zt];omega
 have hl3:(X.drop (f+v)).length=X.length-(f+v):=zd ..;have m0:=Jt (W:=W) 32 b0;refine zM 0 ?_;obtain⟨a1,c1,w4,e4,m4,k4⟩:=Ju (by omega) hfX m0 (λ w hb=>HN.out.Fu f hfX hb);refine zL 4 λ K hK=>?_;refine UK.aB e4 rfl rfl rfl (by simp[Act.eval]) (by simp[Act.eval]) ?_;refine zK hK ?_;obtain⟨a3,c3,yc,e10,m10,_⟩:=ze (bo:=b1) (d:=c-(f+v)) m4 (by rw[HB1.out];exact HN.out.Fs (f+v) Mr m4.2.2) (by simp only[zt,zd];omega);rw[hl1,hl3]at e10;refine zL 10 λ K hK=>?_;refine UK.aB e10 rfl rfl rfl (by simp[Act.eval]) (by simp[Act.eval]) ?_;refine zK hK ?_;refine zM 11 ?_;refine iR (by kernel_rfl) ?_ _;clear m0 m4 e4 e10;have hR:(X.take f++X.drop (f+v)).length=f+(X.length-(f+v)):=by rw[zl,hl1,hl3]
 have oC:Below W W yc:=m10.2.2;generalize hRR:X.take f++X.drop (f+v)=R at m10 hR;obtain⟨r,hr⟩:∃r,r=f+(X.length-(f+v)):=⟨_,rfl⟩;rw[<-hr]at hR ⊢;have n1:=m10.1.Js;have n2:t<=c3:=by omega
 have n3:(t:Int)<=(r:Int):=by omega
 have n4:(t:Int)<=(c3:Int):=by omega
 have n5:t<=R.length:=by omega
 obtain⟨b3,hb3⟩:∃b3,b3=uS a3 c3 t:=⟨_,rfl⟩;obtain⟨a5,c5,w5,e5,m5,_⟩:=Ju (W:=yc) (X:=R) (b1:=a3) (d1:=c3) (by omega) n5 (Jt (W:=yc) 32 (aP _ _)) (λ w hb=>m10.1.Fu t n5 hb);obtain⟨a6,c6,w6,e6,m6,_⟩:=ze (bo:=b2) (d:=c-f) m5 (by rw[HB2.out];exact HN.out.M3 f v Mr (oC.trans (m5.2.2.mono oC.size))) (by simp only[zt,zd];omega);obtain⟨a7,c7,w7,e7,m7,_⟩:=ze (bo:=b3) (d:=c3-t) m6 (by rw[hb3];exact m10.1.Fs t n5 m6.2.2) (by simp only[zl,zt,zd];omega);have l5:(R.take t).length=t:=by rw[zt];omega
 have l6:((X.drop f).take v).length=v:=by rw[zt,zd];omega
 have l7:(R.drop t).length=r-t:=by rw[zd,hR]
 have l8:(R.take t++(X.drop f).take v).length=t+v:=by rw[zl,l5,l6]
 rw[l5,l6]at e6;rw[l8,l7]at e7
 have nK:Hid (GR W w7 ao c X f v t (.returned (.tuple #[.slice a7 (t+v+(r-t)) c7,.int .i64 0]))):=zH (.inr ⟨HG.out,a7,c7,by rw[show t+v+(r-t)=X.length by omega],by
  rw[show((f:Nat):Int).toNat=f by omega,show((v:Nat):Int).toNat=v by omega,show((t:Nat):Int).toNat=t by omega];unfold uR;rw[hRR];exact m7.from oC⟩)
 have HB3:=zH hb3;unfold uS at hb3;have hb2:=HB2.out;unfold uS at hb2;rw[hb2]at e6;rw[hb3]at e7;have e6':(Builtin.append_ #[27,27] 27 #[.slice a5 t c5,.slice (if c=f then ao else Option.map (λ x=>x.add f) ao) (f+v-f) (c-f)]).run Tryz.prog w5= .ok (.slice a6 (t+v) c6) w6:=by rw[uG];exact e6
 clear hb2;clear m5 m6 m7 hb3 l5 l6 l7 l8 hR hRR m10 oC HN HG hr n1
 go_wp2_with (at_builtin;first|refine UK.pV e5 rfl rfl rfl rfl rfl ?_|refine UK.pV e6 rfl rfl rfl rfl rfl ?_|refine UK.pV e6' rfl rfl rfl rfl rfl ?_|refine UK.pV e7 rfl rfl rfl rfl rfl ?_)
 all_goals
  go_wp2;go_ret2
  first
   | exact nK.out
   | (have hf:=nK.out;subst_vars;exact hf)
end
def SI(A:AP)(X:List UInt64)(p:Nat):Prop:=∃m qs d s n,RI A 2 1 m qs d s n/\s.l=X/\p=s.ps.length+qs.length
theorem SI.pages{A:AP}{X:List UInt64}{p:Nat}(h:SI A X p):308*p<=36*X.length+616/\2<=p/\X.Nodup:=by
 obtain⟨m,qs,d,s,n,hr,rfl,rfl⟩:=h;have:=hr.pages;exact⟨by omega,by omega,hr.uniq⟩
theorem SI.good{A:AP}{X:List UInt64}{p:Nat}(h:SI A X p):A.Good/\(∀p,A.Has p->(A.c p).length=504):=by
 obtain⟨m,qs,d,s,n,hr,rfl,rfl⟩:=h;exact⟨hr.zi.rp.good,hr.zi.rp.len⟩
theorem SI.root{A:AP}{X:List UInt64}{p:Nat}(h:SI A X p):A.Has 2/\n32 (A.c 2) 496=1:=by
 obtain⟨m,qs,d,s,n,hr,rfl,rfl⟩:=h;exact⟨hr.zi.rp.dO hr.zi.rp.yX,hr.zi.rp.aC⟩
def nO(X:List UInt64)(i:Int)(id:UInt64):Int×List UInt64:=if i<0\/(X.length:Int)<i then(1,X) else if id∈X then(5,X) else(0,X.take i.toNat++id::X.drop i.toNat)
def je(X:List UInt64)(i:Int):Int×Int×List UInt64:=if 0<=i then(match X[i.toNat]? with|some id=>(0,(id.toNat:Int),X.take i.toNat++X.drop (i.toNat+1))|none=>(1,0,X)) else(1,0,X)
open Classical in
noncomputable def lh(X:List UInt64)(φ ν τ:Int):Int×List UInt64:=if xE X.length φ ν τ then(1,X) else(0,uR X φ.toNat ν.toNat τ.toNat)
section
variable{E:Nat->Prop}{W:World}{P D Q T k p:Nat}{A:AP}{X:List UInt64}
theorem Ze(X:List UInt64)(i:Int)(id:UInt64):(nO X i id).2.length<=X.length+1:=by
 unfold nO
 split
 ·exact jy _
 split
 ·exact jy _
 simp only[zl,zt,dw,zd];omega
theorem xxn(X:List UInt64)(i:Int):(je X i).2.2.length<=X.length:=by
 unfold je
 split
 ·split
  ·simp only[zl,zt,zd];omega
  exact aZ _
 exact aZ _
theorem Zf(X:List UInt64)(φ ν τ:Int):(lh X φ ν τ).2.length<=X.length:=by
 unfold lh
 split
 ·exact aZ _
 rename_i h
 unfold xE at h;unfold uR;simp only[zl,zt,zd];omega
theorem SI.insert(h:aD E W P D Q T 2 1 A k)(hs:SI A X p)(hk:k+300000<800000000)(aY:36*X.length+24760<=308*(A.ay+p)\/(X.length<=20/\4<=A.ay))(i:Int)(hi:i<4611686018427387904)(id:UInt64) :
  Calls Tryz.prog 23 #[.pointer Q,.int .i64 i,.int .u64 id.toNat] W λ e w'=>e= .returned (.int .i64 (nO X i id).1)/\∃B p',aD E w' P D Q T 2 1 B (k+70000)/\Kept E W w'/\SI B (nO X i id).2 p'/\A.Reach B/\B.ay+p'=A.ay+p:=by
 have hs0:=hs;obtain⟨m,qs,d,s,n,hr,rfl,rfl⟩:=hs;have cK:=hr.pages;refine(Zb h hr hk (by unfold Ms;omega) i hi id).mono ?_;rintro e w' ⟨er,rfl,hor⟩;unfold nO;rcases hor with⟨rfl,hb,h1,h2⟩|⟨rfl,hb1,hb2,hin,h1,h2⟩|⟨rfl,ι,rfl,hle,hno,A',m',bK,e',s',n',h1,h2,h3,h4,h5,h6⟩
 ·rw[if_pos hb];exact⟨rfl,A,_,h1,h2,hs0,AP.Reach.refl A,rfl⟩
 ·rw[if_neg (by omega),if_pos hin];exact⟨rfl,A,_,h1,h2,hs0,AP.Reach.refl A,rfl⟩
 rw[if_neg (by omega),if_neg hno,show((ι:Nat):Int).toNat=ι by omega];exact⟨rfl,A',_,h1,h2,⟨m',bK,e',s',n',h3,h4,rfl⟩,h5,by omega⟩
theorem SI.drop(h:aD E W P D Q T 2 1 A k)(hs:SI A X p)(hk:k+700000<900000000)(i:Int)(hi:i<9223372036854775808) :
  Calls Tryz.prog 25 #[.pointer Q,.int .i64 i] W λ e w'=>e= .returned (.tuple #[.int .u64 (je X i).2.1,.int .i64 (je X i).1])/\∃B p',aD E w' P D Q T 2 1 B (k+100+150000*(X.length-(je X i).2.2.length))/\Kept E W w'/\SI B (je X i).2.2 p'/\A.Reach B/\A.ay<=B.ay:=by
 have hs0:=hs;obtain⟨m,qs,d,s,n,hr,rfl,rfl⟩:=hs;refine(YX h hr hk i hi).mono ?_;rintro e w' ⟨v,er,rfl,hor⟩;unfold je;rcases hor with⟨rfl,rfl,hb,h1,h2⟩|⟨rfl,ι,id,rfl,hat,rfl,A',m',bK,e',s',n',h1,h2,h3,h4,h5,h6⟩
 ·by_cases h0:0<=i
  ·rw[if_pos h0,ny (by omega)];exact⟨rfl,A,_,h1.up (by omega),h2,hs0,AP.Reach.refl A,aZ _⟩
  rw[if_neg h0];exact⟨rfl,A,_,h1.up (by omega),h2,hs0,AP.Reach.refl A,aZ _⟩
 rw[if_pos (by omega),show((ι:Nat):Int).toNat=ι by omega,hat];have hl:=(dn.1 hat).1;have h7:(s.l.take ι++s.l.drop (ι+1)).length+1=s.l.length:=by simp only[zl,zt,zd];omega
 exact⟨rfl,A',_,h1.up (by show k+150000<=k+100+150000*(s.l.length-(s.l.take ι++s.l.drop (ι+1)).length);omega),h2,⟨m',bK,e',s',n',h3,h4,rfl⟩,h5,h6⟩
theorem SI.move(h:aD E W P D Q T 2 1 A k)(hs:SI A X p)(hX:X.length<=1000)(hk:k+220000*X.length+1000000<790000000)(aY:Pf A X.length)(φ ν τ:Int) :
  Calls Tryz.prog 27 #[.pointer Q,.int .i64 φ,.int .i64 ν,.int .i64 τ] W λ e w'=>e= .returned (.int .i64 (lh X φ ν τ).1)/\∃B p',aD E w' P D Q T 2 1 B (k+100+220000*X.length)/\Kept E W w'/\SI B (lh X φ ν τ).2 p'/\A.Reach B/\A.ay+2<=B.ay+p':=by
 have hs0:=hs;have gM:=hs.pages;obtain⟨m,qs,d,s,n,hr,rfl,hp⟩:=hs;refine(xxl h hr hX hk aY φ ν τ).mono ?_;rintro e w' hor;unfold lh;rcases hor with⟨hb,rfl,h1,h2⟩|⟨hb,rfl,A',m',bK,e',s',n',h1,h2,h3,h4,h5,h6⟩
 ·rw[if_pos hb];exact⟨rfl,A,p,h1,h2,hs0,AP.Reach.refl A,by omega⟩
 rw[if_neg hb];exact⟨rfl,A',_,h1,h2,⟨m',bK,e',s',n',h3,h4,rfl⟩,h5,by omega⟩
end
abbrev kK(kd ii nn tt:Int)(id:UInt64):Array Value:= #[.int .i64 kd,.int .i64 ii,.int .i64 nn,.int .i64 tt,.int .u64 (id.toNat:Int)]
abbrev pQ:Array Value:= #[.pointer none,.pointer none,.slice none 0 0,.slice none 0 0,.bool false]
abbrev dV(P Q:Nat)(ao:Option Addr)(n c:Nat)(bo:Option Addr)(m d:Nat)(op:Bool):Array Value:= #[.pointer P,.pointer Q,.slice ao n c,.slice bo m d,.bool op]
abbrev UK.dJ(w:World)(g:Nat)(a0 a1 a2 a3 a4:Value):World:=
 (((((w.setCell g a0).setCell (g,1) a1).setCell (g,2) a2).setCell (g,3) a3).setCell (g,4) a4)
theorem UK.aI.dJ{w:World}{g:Nat}{b0 b1 b2 b3 b4:Value}(h:aI w g #[b0,b1,b2,b3,b4])(a0 a1 a2 a3 a4:Value):aI (UK.dJ w g a0 a1 a2 a3 a4) g #[a0,a1,a2,a3,a4]:=by
 have h5:=((((h.set 0 a0).set 1 a1).set 2 a2).set 3 a3).set 4 a4;have e:(((((#[b0,b1,b2,b3,b4]:Array Value).set! 0 a0).set! 1 a1).set! 2 a2).set! 3 a3).set! 4 a4= #[a0,a1,a2,a3,a4]:=by simp
 rw[e]at h5;exact h5
theorem UK.Only.dJ(w:World)(g:Nat)(a0 a1 a2 a3 a4:Value):Only g w (UK.dJ w g a0 a1 a2 a3 a4):=
 (((((Only.refl g w).set 0 a0).set 1 a1).set 2 a2).set 3 a3).set 4 a4
theorem zg:Tryz.prog.underlying 29 =some (.struct (match Tryz.prog.underlying 29 with|some (.struct f)=>f|_=> #[])):=by kernel_rfl
theorem zh:(Tryz.prog.info? 29).map (·.size)=some 5:=by kernel_rfl
def uT(S:Nat->Prop)(Q T:Nat)(ao bo:Option Addr)(b:Nat):Prop:=S b\/b=Q\/b=T\/aK ao b\/aK bo b
structure jg(S:Nat->Prop)(w:World)(P D Q T:Nat)(ao:Option Addr)(c:Nat)(X:List UInt64)(bo:Option Addr)(d:Nat)(Y:List UInt64)(A:AP)(k:Nat):Prop where
 sq:aD (uT S Q T ao bo) w P D Q T 2 1 A k
 px:NR w ao c (aF X)
 py:NR w bo d (aF Y)
structure nk(S:Nat->Prop)(w:World)(rb:Nat)(av:Array Value)(P D Q T:Nat)(ao:Option Addr)(c:Nat)(X:List UInt64)(bo:Option Addr)(d:Nat)(Y:List UInt64)(op:Bool)(A:AP)(k:Nat):Prop where
 rm:jg (λ b=>S b\/(rb<=b/\b<rb+3)) w P D Q T ao c X bo d Y A k
 box:aI w rb (dV P Q ao X.length c bo Y.length d op)
 act:aI w (rb+1) av
 res:aI w (rb+2) pQ
 uU:Q<rb\/rb+3<=Q
 uV:T<rb\/rb+3<=T
 GU:∀b,aK ao b->b<rb\/rb+3<=b
 D8:∀b,aK bo b->b<rb\/rb+3<=b
 tab:0 <rb
section
variable{S E E':Nat->Prop}{W W' w w':World}{P D Q T k k' c d rb:Nat}{A B:AP}{X Y:List UInt64}{ao bo:Option Addr}{op:Bool}{av:Array Value}
theorem aD.rU{g rt aC:Nat}(h:aD E w P D Q T rt aC A k)(p:PZ E' w' P D A k)(o:Only g w w')(hQ:Q≠g)(hT:T≠g)(m1:E' Q)(m2:E' T):aD E' w' P D Q T rt aC A k:=⟨p,h.box.only o hQ,h.tb.only o hT,m1,m2⟩
theorem jg.boxed(h:jg S W P D Q T ao c X bo d Y A k)(kd ii nn tt:Int)(id:UInt64) :
  nk S (((W.alloc (.cells (dV P Q ao X.length c bo Y.length d op) 29)).alloc (.cells (kK kd ii nn tt id) 34)).alloc (.cells pQ 29)) W (kK kd ii nn tt id) P D Q T ao c X bo d Y op A k /\
  Below W W (((W.alloc (.cells (dV P Q ao X.length c bo Y.length d op) 29)).alloc (.cells (kK kd ii nn tt id) 34)).alloc (.cells pQ 29)):=by
 have hth:=h.sq.pz.there;have z1:(W.alloc (.cells (dV P Q ao X.length c bo Y.length d op) 29)).heap.size=W.heap.size+1:=by simp
 have x1:=aI.new W (dV P Q ao X.length c bo Y.length d op) 29;have b1:Below W W (W.alloc (.cells (dV P Q ao X.length c bo Y.length d op) 29)):=(aP _ _).alloc (aZ _) _;generalize W.alloc (.cells (dV P Q ao X.length c bo Y.length d op) 29)=w1 at z1 x1 b1 ⊢;have z2:(w1.alloc (.cells (kK kd ii nn tt id) 34)).heap.size=w1.heap.size+1:=by simp
 have x2:=aI.new w1 (kK kd ii nn tt id) 34;have Pk:=x1.alloc (.cells (kK kd ii nn tt id) 34);have b2:=b1.alloc b1.size (.cells (kK kd ii nn tt id) 34);generalize w1.alloc (.cells (kK kd ii nn tt id) 34)=w2 at z2 x2 Pk b2 ⊢;have z3:(w2.alloc (.cells pQ 29)).heap.size=w2.heap.size+1:=by simp
 have x3:=aI.new w2 pQ 29;have Pm:=Pk.alloc (.cells pQ 29);have M4:=x2.alloc (.cells pQ 29);have b3:=b2.alloc b2.size (.cells pQ 29);generalize w2.alloc (.cells pQ 29)=w3 at z3 x3 Pm M4 b3 ⊢;rw[z1]at M4;rw[show w2.heap.size=W.heap.size+2 by omega]at x3;have hQ:=hth Q h.sq.mem;have hT:=hth T h.sq.fH;refine⟨⟨⟨h.sq.wide b3 (λ j hj=>?_) (λ j hj=>hj.imp (λ h=>.inl h) (λ h=>h)),h.px.af b3.size (λ g hg=>b3.block g (h.px.lt hg)),h.py.af b3.size (λ g hg=>b3.block g (h.py.lt hg))⟩,Pm,M4,x3,.inl hQ,.inl hT,λ b hb=>.inl (hth b (.inr (.inr (.inr (.inl hb))))),λ b hb=>.inl (hth b (.inr (.inr (.inr (.inr hb))))),h.sq.pz.tab.lt⟩,b3⟩;rcases hj with(hj|hj)|hj
 ·exact .inl (.inl hj)
 ·exact .inr ⟨hj.1,by omega⟩
 exact .inl (.inr hj)
theorem nk.U3(h:nk S w rb av P D Q T ao c X bo d Y op A k){cZ:Option Addr}{c':Nat}{X':List UInt64}(hm:qX w w' cZ c' X')(hr:rb+3<=w.heap.size) :
  nk S (w'.setCell (rb,2) (.slice cZ X'.length c')) rb av P D Q T cZ c' X' bo d Y op A k/\Only rb w' (w'.setCell (rb,2) (.slice cZ X'.length c')):=by
 obtain⟨hp,hao,hb⟩:=hm;have o:Only rb w' (w'.setCell (rb,2) (.slice cZ X'.length c')):=(Only.refl rb w').set 2 _
 have bx:aI (w'.setCell (rb,2) (.slice cZ X'.length c')) rb (dV P Q cZ X'.length c' bo Y.length d op):=by
  have:=(h.box.next hb).set 2 (.slice cZ X'.length c')
  simpa[dV]using this
 generalize w'.setCell (rb,2) (.slice cZ X'.length c')=w2 at o bx ⊢;have hlt:rb<w'.heap.size:=by have:=hb.size;omega
 have p1:PZ (uT (λ b=>S b\/(rb<=b/\b<rb+3)) Q T cZ bo) w' P D A k:=h.rm.sq.pz.wide hb (λ j hj=>by
  rcases hj with hj|hj|hj|hj|hj
  ·exact .inl (.inl hj)
  ·exact .inl (.inr (.inl hj))
  ·exact .inl (.inr (.inr (.inl hj)))
  ·exact .inr ⟨hao j hj,hp.lt hj⟩
  exact .inl (.inr (.inr (.inr (.inr hj)))))
 have hne:rb≠0 :=eU (Nat.ne_of_lt h.tab);have p2:PZ (uT (λ b=>S b\/(rb<=b/\b<rb+3)) Q T cZ bo) w2 P D A k:=p1.over (R:=λ j=>j=rb) (λ j hj=>by rw[hj];exact .inl (.inr ⟨aZ _,by omega⟩)) (λ he=>hne he.symm) o.size (λ j hj hr=>o.block j hj hr) (λ j hj=>.inl hj);have GV:Q≠rb:=by have:=h.uU;omega
 have hTr:T≠rb:=by have:=h.uV;omega
 have hfa:∀b,aK cZ b->b≠rb:=λ b hb2=>by have:=hao b hb2;omega
 have CP:∀b,aK bo b->b≠rb:=λ b hb2=>by have:=h.D8 b hb2;omega
 have hs1:=h.rm.sq.next hb;have hy1:=h.rm.py.af hb.size (λ g hg=>hb.block g (h.rm.py.lt hg));exact⟨⟨⟨hs1.rU p2 o GV hTr (.inr (.inl rfl)) (.inr (.inr (.inl rfl))),hp.af o.size (λ b hb2=>o.block b (hp.lt hb2) (hfa b hb2)),hy1.af o.size (λ b hb2=>o.block b (hy1.lt hb2) (CP b hb2))⟩,bx,(h.act.next hb).only o (by omega),(h.res.next hb).only o (by omega),h.uU,h.uV,λ b hb2=>.inr (by have:=hao b hb2;omega),h.D8,h.tab⟩,o⟩
theorem nk.M5(h:nk S w rb av P D Q T ao c X bo d Y op A k):nk S (w.setCell (rb,2) (.slice ao X.length c)) rb av P D Q T ao c X bo d Y op A k/\Only rb w (w.setCell (rb,2) (.slice ao X.length c)):=by
 have o:Only rb w (w.setCell (rb,2) (.slice ao X.length c)):=(Only.refl rb w).set 2 _
 have bx:aI (w.setCell (rb,2) (.slice ao X.length c)) rb (dV P Q ao X.length c bo Y.length d op):=by
  have:=h.box.set 2 (.slice ao X.length c)
  simpa[dV]using this
 generalize w.setCell (rb,2) (.slice ao X.length c)=w2 at o bx ⊢;have hne:rb≠0 :=eU (Nat.ne_of_lt h.tab);have p2:PZ (uT (λ b=>S b\/(rb<=b/\b<rb+3)) Q T ao bo) w2 P D A k:=h.rm.sq.pz.over (R:=λ j=>j=rb) (λ j hj=>by rw[hj];exact .inl (.inr ⟨aZ _,by omega⟩)) (λ he=>hne he.symm) o.size (λ j hj hr=>o.block j hj hr) (λ j hj=>.inl hj);have GV:Q≠rb:=by have:=h.uU;omega
 have hTr:T≠rb:=by have:=h.uV;omega
 exact⟨⟨⟨h.rm.sq.rU p2 o GV hTr (.inr (.inl rfl)) (.inr (.inr (.inl rfl))),h.rm.px.af o.size (λ b hb2=>o.block b (h.rm.px.lt hb2) (by have:=h.GU b hb2;omega)),h.rm.py.af o.size (λ b hb2=>o.block b (h.rm.py.lt hb2) (by have:=h.D8 b hb2;omega))⟩,bx,h.act.only o (by omega),h.res.only o (by omega),h.uU,h.uV,h.GU,h.D8,h.tab⟩,o⟩
theorem nk.next(h:nk S w rb av P D Q T ao c X bo d Y op A k)(ht:aD (uT (λ b=>S b\/(rb<=b/\b<rb+3)) Q T ao bo) w' P D Q T 2 1 B k')(kp:Kept (uT (λ b=>S b\/(rb<=b/\b<rb+3)) Q T ao bo) w w') :
  nk S w' rb av P D Q T ao c X bo d Y op B k':=
 ⟨⟨ht,h.rm.px.af kp.size (λ b hb=>kp.block b (.inr (.inr (.inr (.inl hb))))),h.rm.py.af kp.size (λ b hb=>kp.block b (.inr (.inr (.inr (.inr hb)))))⟩,h.box.af (kp.block rb (.inl (.inr ⟨aZ _,by omega⟩))),h.act.af (kp.block (rb+1) (.inl (.inr ⟨by omega,by omega⟩))),h.res.af (kp.block (rb+2) (.inl (.inr ⟨by omega,by omega⟩))),h.uU,h.uV,h.GU,h.D8,h.tab⟩
def tT(S:Nat->Prop)(W w':World)(P D K:Nat)(R:AP->List UInt64->List UInt64->Bool->Prop)(e:Ending):Prop:=
 ∃(Q T:Nat) (ao:Option Addr) (c:Nat) (X:List UInt64) (bo:Option Addr) (d:Nat) (Y:List UInt64) (op:Bool) (A:AP) (k:Nat),e= .returned (.tuple #[.agg (dV P Q ao X.length c bo Y.length d op),.bool true])/\jg S w' P D Q T ao c X bo d Y A k/\k<=K/\Kept S W w'/\R A X Y op
theorem nk.done{K:Nat}{R:AP->List UInt64->List UInt64->Bool->Prop}(h:nk S w rb av P D Q T ao c X bo d Y op A k)(hk:k<=K)(kp:Kept S W w)(hS:∀j,S j->j<rb)(hQ:R A X Y op) :
  tT S W (UK.dJ w (rb+2) (.pointer P) (.pointer Q) (.slice ao X.length c) (.slice bo Y.length d) (.bool op)) P D K R (.returned (.tuple #[.agg (dV P Q ao X.length c bo Y.length d op),.bool true])):=by
 have o:=UK.Only.dJ w (rb+2) (.pointer P) (.pointer Q) (.slice ao X.length c) (.slice bo Y.length d) (.bool op);generalize UK.dJ w (rb+2) (.pointer P) (.pointer Q) (.slice ao X.length c) (.slice bo Y.length d) (.bool op)=w2 at o ⊢;have hne:rb+2≠0 :=by have:=h.tab;omega
 have p2:PZ (uT S Q T ao bo) w2 P D A k:=h.rm.sq.pz.over (R:=λ j=>j=rb+2) (λ j hj=>by rw[hj];exact .inl (.inr ⟨by omega,by omega⟩)) (λ he=>hne he.symm) o.size (λ j hj hr=>o.block j hj hr) (λ j hj=>by
  rcases hj with hj|hj
  ·exact .inl (.inl (.inl hj))
  exact .inl (.inr hj))
 have GV:Q≠rb+2:=by have:=h.uU;omega
 have hTr:T≠rb+2:=by have:=h.uV;omega
 refine⟨Q,T,ao,c,X,bo,d,Y,op,A,k,rfl,⟨h.rm.sq.rU p2 o GV hTr (.inr (.inl rfl)) (.inr (.inr (.inl rfl))),h.rm.px.af o.size (λ b hb=>o.block b (h.rm.px.lt hb) (by have:=h.GU b hb;omega)),h.rm.py.af o.size (λ b hb=>o.block b (h.rm.py.lt hb) (by have:=h.D8 b hb;omega))⟩,hk,kp.trans ⟨o.os,o.tape,o.output,o.size,λ j hj=>o.block j (by have:=hS j hj;have:=h.box.lt;omega) (by have:=hS j hj;omega)⟩,hQ⟩
theorem nk.turn(h:nk S w rb av P D Q T ao c X bo d Y op A k)(o:Only rb w w'){cZ Jw:Option Addr}{c' d':Nat}{X' Y':List UInt64}{op':Bool}(hb:aI w' rb (dV P Q cZ X'.length c' Jw Y'.length d' op'))(hx:NR w cZ c' (aF X'))(hy:NR w Jw d' (aF Y'))(hsub:∀b,aK cZ b\/aK Jw b->aK ao b\/aK bo b) :
  nk S w' rb av P D Q T cZ c' X' Jw d' Y' op' A k:=by
 have hne:rb≠0 :=eU (Nat.ne_of_lt h.tab)
 have hf:∀b,aK cZ b\/aK Jw b->b<rb\/rb+3<=b:=λ b hb2=>by
  rcases hsub b hb2 with h1|h1
  ·exact h.GU b h1
  exact h.D8 b h1
 have p2:PZ (uT (λ b=>S b\/(rb<=b/\b<rb+3)) Q T cZ Jw) w' P D A k:=h.rm.sq.pz.over (R:=λ j=>j=rb) (λ j hj=>by rw[hj];exact .inl (.inr ⟨aZ _,by omega⟩)) (λ he=>hne he.symm) o.size (λ j hj hr=>o.block j hj hr) (λ j hj=>by
  rcases hj with hj|hj|hj|hj
  ·exact .inl (.inl hj)
  ·exact .inl (.inr (.inl hj))
  ·exact .inl (.inr (.inr (.inl hj)))
  exact .inl (.inr (.inr (.inr (hsub j hj)))))
 have GV:Q≠rb:=by have:=h.uU;omega
 have hTr:T≠rb:=by have:=h.uV;omega
 exact⟨⟨h.rm.sq.rU p2 o GV hTr (.inr (.inl rfl)) (.inr (.inr (.inl rfl))),hx.af o.size (λ b hb2=>o.block b (hx.lt hb2) (by have:=hf b (.inl hb2);omega)),hy.af o.size (λ b hb2=>o.block b (hy.lt hb2) (by have:=hf b (.inr hb2);omega))⟩,hb,h.act.only o (by omega),h.res.only o (by omega),h.uU,h.uV,λ b hb2=>hf b (.inl hb2),λ b hb2=>hf b (.inr hb2),h.tab⟩
def uW(nn:Int):Nat:=(min (max nn 1) 60).toNat
theorem Cn(nn:Int):uW nn<=60/\(uW nn:Int)=min (max nn 1) 60:=by unfold uW;omega
theorem xz8(K:UInt64)(i:Nat)(hi:i<=60):IntKind.u64.wrap ((K.toNat:Int)+(i:Int))=((K+UInt64.ofNat i).toNat:Int):=by
 have h:(K+UInt64.ofNat i).toNat=(K.toNat+i)%18446744073709551616:=by
  rw[UInt64.toNat_add,UInt64.toNat_ofNat_of_lt' (by show i<18446744073709551616;omega)]
 rw[h,IntKind.wrap_u64];omega
end
section
variable{S:Nat->Prop}{w4 w5:World}{P D Q T k c d rb c':Nat}{A:AP}{X Y X':List UInt64}{ao bo cZ:Option Addr}{op:Bool}{av:Array Value}
def M7(S:Nat->Prop)(w4 w5:World)(rb:Nat)(av:Array Value)(P D Q T:Nat)(ao:Option Addr)(c n:Nat)(X':List UInt64)(bo:Option Addr)(d:Nat)(Y:List UInt64)(op:Bool)(A:AP)(k:Nat)(cZ:Option Addr)(c':Nat):Prop:=
 w5.cell? (rb,2)=some (.slice ao n c)/\w5.frozen? ⟨rb,2,none⟩=false/\nk S (w5.setCell (rb,2) (.slice cZ X'.length c')) rb av P D Q T cZ c' X' bo d Y op A k/\Kept S w4 (w5.setCell (rb,2) (.slice cZ X'.length c'))/\w4.heap.size<=(w5.setCell (rb,2) (.slice cZ X'.length c')).heap.size
theorem UA(h:nk S w4 rb av P D Q T ao c X bo d Y op A k)(hm:qX w4 w5 cZ c' X')(hr:rb+3<=w4.heap.size)(hS:∀j,S j->j<rb):M7 S w4 w5 rb av P D Q T ao c X.length X' bo d Y op A k cZ c':=by
 obtain⟨h1,o⟩:=h.U3 hm hr;have x5:=h.box.next hm.2.2;have hs:=hm.2.2.size;refine⟨x5.cell 2 _ rfl,x5.free 2,h1,(Kept.of_below hm.2.2 (λ j hj=>by have:=hS j hj;omega)).trans ⟨o.os,o.tape,o.output,o.size,λ j hj=>o.block j (by have:=hS j hj;omega) (by have:=hS j hj;omega)⟩,bf hs o.size⟩
theorem Pn(h:nk S w4 rb av P D Q T ao c X bo d Y op A k)(hr:rb+3<=w4.heap.size)(hS:∀j,S j->j<rb):M7 S w4 w4 rb av P D Q T ao c X.length X bo d Y op A k ao c:=by
 obtain⟨h1,o⟩:=h.M5;exact⟨h.box.cell 2 _ rfl,h.box.free 2,h1,⟨o.os,o.tape,o.output,o.size,λ j hj=>o.block j (by have:=hS j hj;omega) (by have:=hS j hj;omega)⟩,o.size⟩
theorem xxo(h:nk S w4 rb av P D Q T ao c X bo d Y op A k)(hX:X.length<=20000)(hr:rb+3<=w4.heap.size)(hS:∀j,S j->j<rb)(i:Int)(id:UInt64) :
  Calls Tryz.prog 24 #[.slice ao X.length c,.int .i64 i,.int .u64 id.toNat] w4 λ e w5=>∃cZ c',e= .returned (.tuple #[.slice cZ (nO X i id).2.length c',.int .i64 (nO X i id).1])/\M7 S w4 w5 rb av P D Q T ao c X.length (nO X i id).2 bo d Y op A k cZ c':=by
 refine(xxm i id h.rm.px (by omega)).mono ?_;rintro e w5 (⟨hb,rfl,rfl⟩|⟨hb,hin,rfl,rfl⟩|⟨hb,hin,cZ,c',rfl,hm⟩)
 ·unfold Fq at hb;unfold nO;rw[if_pos hb];exact⟨ao,c,rfl,Pn h hr hS⟩
 ·unfold Fq at hb;unfold nO;rw[if_neg hb,if_pos hin];exact⟨ao,c,rfl,Pn h hr hS⟩
 unfold Fq at hb;unfold nO;rw[if_neg hb,if_neg hin];refine⟨cZ,c',?_,UA h hm hr hS⟩;rw[show(X.take i.toNat++id::X.drop i.toNat).length=X.length+1 by simp only[zl,zt,dw,zd];omega]
theorem xxp(h:nk S w4 rb av P D Q T ao c X bo d Y op A k)(hX:X.length<=20000)(hr:rb+3<=w4.heap.size)(hS:∀j,S j->j<rb)(i:Int) :
  Calls Tryz.prog 26 #[.slice ao X.length c,.int .i64 i] w4 λ e w5=>∃cZ c',e= .returned (.tuple #[.slice cZ (je X i).2.2.length c',.int .u64 (je X i).2.1,.int .i64 (je X i).1])/\M7 S w4 w5 rb av P D Q T ao c X.length (je X i).2.2 bo d Y op A k cZ c':=by
 refine(ybk i h.rm.px (by omega)).mono ?_;rintro e w5 (⟨hb,rfl,rfl⟩|⟨ι,id,rfl,hat,cZ,c',rfl,hm⟩)
 ·have h0:je X i=(1,0,X):=by
   unfold je;by_cases h0:0<=i
   ·rw[if_pos h0,ny (by omega)]
   rw[if_neg h0]
  rw[h0];exact⟨ao,c,rfl,Pn h hr hS⟩
 have h0:je X (ι:Int)=(0,(id.toNat:Int),X.take ι++X.drop (ι+1)):=by
  unfold je;rw[if_pos (by omega),show((ι:Nat):Int).toNat=ι by omega,hat]
 rw[h0];have hl:=(dn.1 hat).1;refine⟨cZ,c',?_,UA h hm hr hS⟩;rw[show(X.take ι++X.drop (ι+1)).length=X.length-1 by simp only[zl,zt,zd];omega]
theorem xxq(h:nk S w4 rb av P D Q T ao c X bo d Y op A k)(hX:X.length<=20000)(hr:rb+3<=w4.heap.size)(hS:∀j,S j->j<rb)(φ ν τ:Int) :
  Calls Tryz.prog 28 #[.slice ao X.length c,.int .i64 φ,.int .i64 ν,.int .i64 τ] w4 λ e w5=>∃cZ c',e= .returned (.tuple #[.slice cZ (lh X φ ν τ).2.length c',.int .i64 (lh X φ ν τ).1])/\M7 S w4 w5 rb av P D Q T ao c X.length (lh X φ ν τ).2 bo d Y op A k cZ c':=by
 refine(ybl φ ν τ h.rm.px (by omega)).mono ?_;rintro e w5 (⟨hb,rfl,rfl⟩|⟨hb,cZ,c',rfl,hm⟩)
 ·unfold lh;rw[if_pos hb];exact⟨ao,c,rfl,Pn h hr hS⟩
 unfold lh;rw[if_neg hb];refine⟨cZ,c',?_,UA h hm hr hS⟩;rw[show(uR X φ.toNat ν.toNat τ.toNat).length=X.length by unfold uR;unfold xE at hb;simp only[zl,zt,zd];omega]
end
section
variable{S:Nat->Prop}{W W':World}{P D Q T k c d:Nat}{A:AP}{X Y:List UInt64}{ao bo:Option Addr}{op:Bool}
theorem xxr{ii nn tt:Int}{id:UInt64}(h:jg S W P D Q T ao c X bo d Y A k)(hS:∀j,S j->j<W.heap.size)(J:Nat->AP->List UInt64->Prop)(h0:J 0 A X)
  (hJ:∀i A X,J i A X->i<uW nn->∃p,SI A X p/\36*X.length+24760<=308*(A.ay+p)/\X.length<=2000/\∀B p' X',SI B X' p'->A.Reach B->B.ay+p'=A.ay+p->X'.length<=X.length+1->J (i+1) B X')
  (hk:k+6000000<800000000) (hii: -9223372036854775808<=ii) :
  Calls Tryz.prog 7 #[.agg (dV P Q ao X.length c bo Y.length d op),.agg (kK 1 ii nn tt id)] W λ e w'=>tT S W w' P D (k+5000000) (λ A' X' Y' op'=>(∃i,i<=uW nn/\J i A' X')/\Y'=Y/\op'=op) e:=by
 have GY:=zH (zA h0 hJ);clear h0 hJ;obtain⟨hb,hbel⟩:=h.boxed (op:=op) 1 ii nn tt id;have a0:=hb.act.c0;have a1:=hb.act.c2;obtain⟨n,hn⟩:∃n,n=uW nn:=⟨_,rfl⟩;obtain⟨lM,hne⟩:=Cn nn;rw[<-hn]at lM hne;have HE:=zH hne;have Be:=zH hn;have HB:=zH (zA hb hbel);have HJ:=zH hS;generalize hW3:((W.alloc (.cells (dV P Q ao X.length c bo Y.length d op) 29)).alloc (.cells (kK 1 ii nn tt id) 34)).alloc (.cells pQ 29)=w3 at HB a0 a1;have HW3:=zH hW3;rw[<-hW3]at a0 a1;clear h hb hbel hS hn hW3 hne
 go_enter Tryz.func7,Tryz.ntmps7
 go_upto_region 1 with(fail)
 go_cut [6] (λ nv wx=>nv= .int .i64 (n:Int)/\wx=w3)
 case first=>
  go_wp2_with fail
  go_meet
  case rel=>exact⟨by rw[HE.out],HW3.out⟩
 case rest=>
 obtain⟨rfl,rfl⟩:=hcut;clear a0 a1;have a0:=HB.out.1.act.c0;have HKK:=zH (Kept.of_below HB.out.2 HJ.out);have Gm:=zH (show W.heap.size+3<=wc.heap.size by have:=HB.out.1.res.lt;omega);clear HW3 HE
 go_wp2_with fail
 go_loopw [7] (λ iv wr=>∃(i:Nat) (A:AP) (X:List UInt64) (ao:Option Addr) (c k':Nat),iv= .int .i64 i/\i<=n/\J i A X/\nk S wr W (kK 1 ii nn tt id) P D Q T ao c X bo d Y op A k'/\k'<=k+80000*i/\Kept S W wr/\wc.heap.size<=wr.heap.size) (λ iv _=>61-(intOf iv).toNat)
 case atStart=>exact⟨0,A,X,ao,c,k,rfl,bY _,GY.out.1,HB.out.1,by omega,HKK.out,aZ _⟩
 clear a0;obtain⟨i,A,X,ao,c,k',rfl,hin,D9,hrb,hkk,hkp,hsz⟩:=hrel;have b1:=hrb.act.c1;by_cases hgo:i<n/\ii<=1099511627776
 ·obtain⟨hlt,hii2⟩:=hgo;obtain⟨p,hsi,aY,aJ,hnext⟩:=GY.out.2 i A X D9 (by rw[<-Be.out];exact hlt);have M8:(i:Int)<(n:Int):=Int.ofNat_lt.2 hlt;have b4:=hrb.act.c4;have d1:=hrb.box.c1;have M9:i<=60:=by omega
  have hs1:=xz8 id i M9;have hcv:IntKind.u64.wrap (i:Int)=(i:Int):=IntWalk.u64_in _ ⟨by omega,by omega⟩;have hwi:IntKind.i64.wrap (ii+(i:Int))=ii+(i:Int):=by rw[bN];omega
  have hP:=SI.insert hrb.rm.sq hsi (by omega) (.inl aY) (ii+(i:Int)) (by omega) (id+UInt64.ofNat i);rw[<-hs1]at hP;have HP:=zH hP;have Mm:=zH hs1;have H2:=zH (zA hrb (zA hkp (zA hsz hkk)));have E9:=zH (zA hnext aJ);clear hrb hkp hsz hkk hsi aY aJ hnext hP hs1 D9 hin hlt
  go_wp2_with fail
  refine HP.out.mono ?_;rintro e w4 ⟨rfl,B,p',t4,qU,hsi,hre,hro⟩;obtain⟨hrb,hkp,hsz,hkk⟩:=H2.out;obtain⟨hnext,aJ⟩:=E9.out;have hr4:=hrb.next t4 qU;have e2:=hr4.box.c2;have b1:=hr4.act.c1;have b4:=hr4.act.c4;have hwl:=Gm.out;have hs4:=qU.size;have hT:=xxo hr4 (by omega) (by omega) HJ.out (ii+(i:Int)) (id+UInt64.ofNat i);rw[<-Mm.out]at hT;have HT:=zH hT;have hxl:=Ze X (ii+(i:Int)) (id+UInt64.ofNat i);have xX:=zH (hnext B p' _ hsi hre hro hxl);have H4:=zH (zA (hkp.trans (qU.mono (λ j hj=>.inl (.inl hj)))) (zA (show wc.heap.size<=w4.heap.size by omega) (show k'+70000<=k+80000*(i+1) by omega)));have JV:=zH hxl;generalize nO X (ii+(i:Int)) (id+UInt64.ofNat i)=rr at *;obtain⟨er,X2⟩:=rr;dsimp only at *;clear HP H2 E9 hrb hkp hsz hkk hnext aJ hr4 t4 qU hsi hre hro hT hxl hwl hs4 Mm d1
  go_wp2_with fail
  refine HT.out.mono ?_;rintro e w5 ⟨cZ,c',rfl,e5,f5,Bf,hk5,hs5⟩;obtain⟨hk4,hs4,hkk⟩:=H4.out;have HF:=zH (zA Bf (zA (hk4.trans hk5) (zA (bf hs4 hs5) hkk)));clear HT H4 hk4 hs4 hkk Bf hk5 hs5 e2;have Zh:IntKind.i64.wrap ((i:Int)+1)=(i:Int)+1:=IntWalk.i64_in _ ⟨by omega,by omega⟩;generalize hX2:X2.length=n2 at *;have hbb:(er != er)=false:=by simp
  go_wp2_with fail
  go_roundw
  case rel=>
   obtain⟨m1,m2,m3,m4⟩:=HF.out;exact⟨i+1,B,X2,cZ,c',k'+70000,by go_num,by omega,xX.out,m1,m4,m2,m3⟩
  case measure=>simp[intOf];omega
 have hg:¬(i:Int)<(n:Int)\/((i:Int)<(n:Int)/\¬ii<=1099511627776):=by omega
 have y1:=hrb.box;have y3:=hrb.res;have n0:=y1.c0;have n1:=y1.c1;have n2:=y1.c2;have n3:=y1.c3;have n4:=y1.c4;have m0:=y3.c0;have m1:=y3.c1;have m2:=y3.c2;have m3:=y3.c3;have m4:=y3.c4;have mf:∀j,wr.frozen? ⟨W.heap.size+2,j,none⟩=false:=y3.free;have HD:=zH (hrb.done (R:=λ A' X' Y' op'=>(∃i,i<=uW nn/\J i A' X')/\Y'=Y/\op'=op) (show k'<=k+5000000 by omega) hkp HJ.out ⟨⟨i,by rw[<-Be.out];exact hin,D9⟩,rfl,rfl⟩);have HY:=zH y3;clear hrb hkp hsz D9 y1 y3 hkk hgo;rcases hg with hg|⟨hg,hg2⟩
 ·go_wp2_with fail
  refine bodyPost_ret (UK.zk rfl _ (HY.out.dJ _ _ _ _ _) rfl zg rfl zh) rfl ?_;exact HD.out
 go_wp2_with fail
 refine bodyPost_ret (UK.zk rfl _ (HY.out.dJ _ _ _ _ _) rfl zg rfl zh) rfl ?_;exact HD.out
end
end Go.Proofs.YtlipgbnnbefhjaaGreatDoor
