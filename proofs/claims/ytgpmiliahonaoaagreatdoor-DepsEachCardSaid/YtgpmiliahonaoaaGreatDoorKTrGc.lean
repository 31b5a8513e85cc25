/- Facts on texts and trees on pages. -/
import Derived.Test.YtgpmiliahonaoaaGreatDoorKTrEc
import Derived.RegionTactic
set_option maxRecDepth 100000
set_option maxHeartbeats 8000000
set_option linter.unusedSimpArgs false
namespace Go.Proofs.YtgpmiliahonaoaaGreatDoor
section
variable{P:Program}{ops:Array Oper}{Q:Exit->Act->World->Prop}{md:Region.Mode}
end
open Go.RowKit
open UK (str aF nth Only Row ay)
section
variable{S:Nat->Prop}{W W':World}{nb:Nat}{x:Nd}
theorem X8(hn:jD S W nb x) :
  Calls Tryz.prog 237 #[.pointer nb] W λ e w'=>e= .returned (.bool (oP x))/\w'=W:=by
 obtain⟨kv,vv,av,b,hb,⟨ao,c,rfl,_,_⟩,_,⟨bo,d,rfl,_,_⟩⟩:=hn;rw[dA,gQ]at b;have c1:=b.c1;have c3:=b.c3;have e1:decide ((30:Int)<(x.ag.length:Int))=decide (30<x.ag.length):=decide_eq_decide.2 (by omega);have e3:decide ((40:Int)<(x.ax.length:Int))=decide (40<x.ax.length):=decide_eq_decide.2 (by omega);have hf:oP x=(decide ((30:Int)<(x.ag.length:Int))||decide ((40:Int)<(x.ax.length:Int))):=by rw[e1,e3];rfl
 rw[hf];clear b e1 e3 hf;by_cases h1:(30:Int)<(x.ag.length:Int)
 ·have d1:decide ((30:Int)<(x.ag.length:Int))=true:=decide_eq_true h1;rw[d1]
  go_enter Tryz.func237,Tryz.ntmps237
  go_wp2;go_ret
  exact⟨rfl,rfl⟩
 have d1:decide ((30:Int)<(x.ag.length:Int))=false:=decide_eq_false h1;rw[d1,Bool.false_or];by_cases h3:(40:Int)<(x.ax.length:Int)
 ·have d3:decide ((40:Int)<(x.ax.length:Int))=true:=decide_eq_true h3;rw[d3]
  go_enter Tryz.func237,Tryz.ntmps237
  go_wp2;go_ret
  exact⟨rfl,rfl⟩
 have d3:decide ((40:Int)<(x.ax.length:Int))=false:=decide_eq_false h3;rw[d3]
 go_enter Tryz.func237,Tryz.ntmps237
 go_wp2;go_ret
 exact⟨rfl,rfl⟩
def Ck(x:Nd):Bool:=if x.leaf then decide (x.ag.length<15) else decide (x.ax.length<20)
theorem xx1(hn:jD S W nb x) :
  Calls Tryz.prog 216 #[.pointer nb] W λ e w'=>e= .returned (.bool (Ck x))/\w'=W:=by
 cases hl:x.leaf with
 | true=>
  have:=X9 hn hl;unfold Ck;rw[hl];exact this
 | false=>
  obtain⟨kv,vv,av,b,hb,_,_,⟨ao,c,rfl,_,_⟩⟩:=hn;rw[gQ]at b;rw[hl]at b;have c0:=b.c0;have c1:=b.c3;have d1:decide ((x.ax.length:Int)<20)=decide (x.ax.length<20):=decide_eq_decide.2 (by omega);have hp:Ck x=decide ((x.ax.length:Int)<20):=by unfold Ck;rw[hl,d1];rfl
  rw[hp];clear b d1 hp
  go_enter Tryz.func216,Tryz.ntmps216
  go_wp2;go_ret
  exact⟨rfl,rfl⟩
theorem eB.kid{l:List UInt64}{k:UInt64}{i:Nat}(h:eB l k i)(hs:jK l):dN l k (if k∈l then i+1 else i):=by
 have hle:=h.le
 have hat:k∈l->∃hi:i<l.length,l[i]=k:=λ hm=>by
  obtain⟨j,hj,e⟩:=gB hm;have hj':l[j]?=some k:=by rw[bL hj,e]
  have h1:i<=j:=by
   refine Nat.le_of_not_lt (λ hlt=>?_);have:=h.below j k hlt hj';omega
  rcases xii i j with h2|h2
  ·have hi:i<l.length:=by omega
   have a:=h.above i l[i] (aO _) (bL hi);have b:=hs i j l[i] k h2 (bL hi) hj';omega
  obtain rfl:i=j:=by omega
  exact⟨hj,e⟩
 split
 ·rename_i hm
  obtain⟨hi,e⟩:=hat hm;refine⟨by omega,λ κ pR=>?_,λ κ pR=>?_⟩
  ·obtain⟨j,hj,e2⟩:=gB pR;rw[zt]at hj;rw[List.getElem_take]at e2;rcases xii j i with h1|h1
   ·have:=h.below j κ h1 (by rw[bL (by omega),e2]);omega
   obtain rfl:j=i:=by omega
   rw[<-e2,e];exact aO _
  obtain⟨j,hj,e2⟩:=gB pR;rw[zd]at hj;rw[List.getElem_drop]at e2;have:=hs i (i+1+j) k κ (by omega) (by rw[bL hi,e]) (by rw[bL (by omega),e2]);exact this
 rename_i hm
 refine⟨hle,λ κ pR=>?_,λ κ pR=>?_⟩
 ·obtain⟨j,hj,e2⟩:=gB pR;rw[zt]at hj;rw[List.getElem_take]at e2;have:=h.below j κ (by omega) (by rw[bL (by omega),e2]);omega
 obtain⟨j,hj,e2⟩:=gB pR;rw[zd]at hj;rw[List.getElem_drop]at e2;have h1:=h.above (i+j) κ (by omega) (by rw[bL (by omega),e2]);have h2:k.toNat≠κ.toNat:=λ e=>hm (by rw[mJ.1 e,<-e2];exact List.getElem_mem _);omega
def R6(W:World)(ag:List UInt64)(k:UInt64)(e:Ending)(w':World):Prop:=∃i:Nat,e= .returned (.int .i64 (i:Int))/\dN ag k i/\W=w'
theorem R7(hn:jD S W nb x)(hs:jK x.ag)(hl:x.ag.length<=1000)(k:UInt64) :
  Calls Tryz.prog 158 #[.pointer nb,.int .u64 k.toNat] W (R6 W x.ag k):=by
 obtain⟨kv,vv,av,b,hb,hk,_,_⟩:=hn;obtain⟨ao,c,rfl,h4,h5⟩:=id hk;have c1:=b.c1;have HS:=zH (Hq hk hs hl k);have M7:=zH hs;clear b hk h5 hs
 go_enter Tryz.func158,Tryz.ntmps158
 go_wp2_with fail
 refine HS.out.mono ?_;rintro e w1 ⟨i,rfl,hst,rfl⟩;have hkx:=hst.kid M7.out;have hle:=hst.le;by_cases hm:k∈x.ag
 ·rw[if_pos hm]at hkx;have HK:=zH hkx;have hd:decide (k∈x.ag)=true:=decide_eq_true hm;rw[hd];clear hkx hm hst hd HS;go_wp2;go_ret;exact⟨i+1,by rfl,HK.out,rfl⟩
 rw[if_neg hm]at hkx;have HK:=zH hkx;have hd:decide (k∈x.ag)=false:=decide_eq_false hm;rw[hd];clear hkx hm hst hd HS;go_wp2;go_ret;exact⟨i,by rfl,HK.out,rfl⟩
theorem fV.src{P:Program}{t e':TypeId}(hk:P.underlying t=some (.slice e')){ao:Option Addr}{c:Nat}{vs:List Value}(h:fV S W (.slice ao vs.length c) vs)(h0:0<vs.length)(h1:∀u∈vs,u.oneCell'=true):Src P 1 t (.slice ao vs.length c) vs.length vs W:=by
 obtain⟨IC,c',e,hc,hv⟩:=h
 injection e with e1 e2 e3
 subst e1 e3;obtain⟨g,o,rfl,_,_⟩:=hv 0 vs[0] (bL h0);refine Src.ofSlice W hk ⟨g,o,none⟩ vs.length c vs (by rw[vQ]) (λ j u hj=>?_) h1;obtain⟨g2,o2,e2,_,hcell⟩:=hv j u hj
 injection e2 with e2
 injection e2 with e3 e4
 subst e3 e4;rw[UK.lQ];exact hcell
theorem xx2(l:List UInt64):∀u∈az l,u.oneCell'=true:=λ u hu=>by
 unfold az at hu;obtain⟨v,_,rfl⟩:=bQ.1 hu;rfl
theorem xx3(l:List Nat):∀u∈ints l,u.oneCell'=true:=λ u hu=>by
 unfold ints at hu;obtain⟨v,_,rfl⟩:=bQ.1 hu;rfl
def Cm(W:World)(ao:Option Addr)(g':Nat)(W':World):Prop:=(ao=some ⟨g',0,none⟩/\Only g' W W')\/(g'=W.heap.size/\Below W W W')
theorem NF{ao bo:Option Addr}{c d:Nat}{us vs:List UInt64}(h:NR W ao c (az us))(hv:fV S W (.slice bo vs.length d) (az vs))(h0:0<vs.length)(hl:us.length+vs.length<=100000) :
  ∃g' c' W',(Builtin.append_ #[88,88] 88 #[.slice ao us.length c,.slice bo vs.length d]).run Tryz.prog W= .ok (.slice (some ⟨g',0,none⟩) (us.length+vs.length) c') W'/\Row W' g' c' (az (us++vs))/\Cm W ao g' W':=by
 have R8:=dA us;have hlv:=dA vs;rw[<-hlv]at hv;obtain⟨g',c',W',e,r,o⟩:=UK.GQ (P:=Tryz.prog) (t:=88) (tx:=88) (ty:=88) Tryz.underlying88 (i:=Tryz.t77) rfl rfl rfl (show(8:Nat)<=16 by omega) rfl h (x:=.slice bo (az vs).length d) (m:=az vs) (by omega) (hv.src Tryz.underlying88 (by omega) (xx2 vs)) (by omega);rw[zl,R8,hlv]at e;exact⟨g',c',W',e,by unfold az at *;rw[dO];exact r,o⟩
theorem XA{ao bo:Option Addr}{c d:Nat}{us vs:List Nat}(h:NR W ao c (ints us))(hv:fV S W (.slice bo vs.length d) (ints vs))(h0:0<vs.length)(hl:us.length+vs.length<=100000) :
  ∃g' c' W',(Builtin.append_ #[57,57] 57 #[.slice ao us.length c,.slice bo vs.length d]).run Tryz.prog W= .ok (.slice (some ⟨g',0,none⟩) (us.length+vs.length) c') W'/\Row W' g' c' (ints (us++vs))/\Cm W ao g' W':=by
 have R8:=gQ us;have hlv:=gQ vs;rw[<-hlv]at hv;obtain⟨g',c',W',e,r,o⟩:=UK.GQ (P:=Tryz.prog) (t:=57) (tx:=57) (ty:=57) Tryz.underlying57 (i:=Tryz.t3) rfl rfl rfl (show(8:Nat)<=16 by omega) rfl h (x:=.slice bo (ints vs).length d) (m:=ints vs) (by omega) (hv.src Tryz.underlying57 (by omega) (xx3 vs)) (by omega);rw[zl,R8,hlv]at e;exact⟨g',c',W',e,by unfold ints at *;rw[dO];exact r,o⟩
theorem fV.below{n:Nat}{v:Value}{vs:List Value}(h:fV S W v vs)(hb:Below n W W')(hS:∀g,S g->g<n):fV S W' v vs:=by
 obtain⟨ao,c,e,hc,hv⟩:=h;refine⟨ao,c,e,hc,λ j u hj=>?_⟩;obtain⟨g,o,e2,hg,hcell⟩:=hv j u hj;exact⟨g,o,e2,hg,(hb.cell (p:=⟨g,o+j,none⟩) (hS g hg)).trans hcell⟩
def NG(W:World)(l:List UInt64)(e:Ending)(w':World):Prop:=∃g' c',e= .returned (.slice (some ⟨g',0,none⟩) l.length c')/\Row w' g' c' (az l)/\W.heap.size<=g'/\Below W W w'
def XB(W:World)(l:List Nat)(e:Ending)(w':World):Prop:=∃g' c',e= .returned (.slice (some ⟨g',0,none⟩) l.length c')/\Row w' g' c' (ints l)/\W.heap.size<=g'/\Below W W w'
theorem XC(W:World)(T:TypeId):NR (W.alloc (.cells #[] T)) W 0 []:=.inr ⟨W.heap.size,rfl,by simp,aY _,λ j hj=>by simp at hj,λ j hj=>by omega⟩
theorem Hr{bo:Option Addr}{d:Nat}{vs:List UInt64}(hv:fV S W (.slice bo vs.length d) (az vs))(hS:∀g,S g->g<W.heap.size)(h0:0<vs.length)(hl:vs.length<=1000) :
  Calls Tryz.prog 265 #[.slice bo vs.length d] W (NG W vs):=by
 obtain⟨IC,c',e,hc,hvv⟩:=id hv
 injection e with e1 e2 e3
 subst e1 e3;have h1:0<(az vs).length:=by rw[dA];exact h0
 obtain⟨g,o,rfl,_,_⟩:=hvv 0 (az vs)[0] (bL h1);have hb:Below W W (W.alloc (.cells #[] 77)):=(aV _ _).alloc (aO _) _;obtain⟨g',c',W',hrun,hrow,oQ⟩:=NF (us:=[]) (XC W 77) (hv.below hb hS) h0 (by simp;omega);rw[jM]at hrow;simp only[List.length_nil,eG]at hrun;have hnil:∀W l c,(binOp .eql 88 (.slice (g,o) l c) (.slice none 0 0)).run Tryz.prog W= .ok (.bool false) W:=λ W l c=>Lib.run_eql_slice_nil W _ _ _ _ _ _ _ Tryz.underlying88;have HR:=zH (zA hrow (zA oQ hb));clear hv hvv hrow oQ hb hc e2
 go_enter Tryz.func265,Tryz.ntmps265
 go_wp2_with (at_builtin;refine UK.lH hrun rfl rfl rfl rfl rfl ?_)
 go_wp2;go_ret
 obtain⟨hrow,oQ,hb⟩:=HR.out;refine⟨g',c',rfl,hrow,?_,?_⟩
 ·rcases oQ with⟨h1,_⟩|⟨h1,_⟩
  ·injection h1 with h1;injection h1 with h1;omega
  rw[h1];simp
 rcases oQ with⟨h1,ho⟩|⟨_,hb2⟩
 ·injection h1 with h1;injection h1 with h1
  exact hb.trans (ho.below (by simp) (by omega))
 exact hb.trans (hb2.mono (by simp))
theorem XD{bo:Option Addr}{d:Nat}{vs:List Nat}(hv:fV S W (.slice bo vs.length d) (ints vs))(hS:∀g,S g->g<W.heap.size)(h0:0<vs.length)(hl:vs.length<=1000) :
  Calls Tryz.prog 266 #[.slice bo vs.length d] W (XB W vs):=by
 obtain⟨IC,c',e,hc,hvv⟩:=id hv
 injection e with e1 e2 e3
 subst e1 e3;have h1:0<(ints vs).length:=by rw[gQ];exact h0
 obtain⟨g,o,rfl,_,_⟩:=hvv 0 (ints vs)[0] (bL h1);have hb:Below W W (W.alloc (.cells #[] 3)):=(aV _ _).alloc (aO _) _;obtain⟨g',c',W',hrun,hrow,oQ⟩:=XA (us:=[]) (XC W 3) (hv.below hb hS) h0 (by simp;omega);rw[jM]at hrow;simp only[List.length_nil,eG]at hrun;have hnil:∀W l c,(binOp .eql 57 (.slice (g,o) l c) (.slice none 0 0)).run Tryz.prog W= .ok (.bool false) W:=λ W l c=>Lib.run_eql_slice_nil W _ _ _ _ _ _ _ Tryz.underlying57;have HR:=zH (zA hrow (zA oQ hb));clear hv hvv hrow oQ hb hc e2
 go_enter Tryz.func266,Tryz.ntmps266
 go_wp2_with (at_builtin;refine UK.lH hrun rfl rfl rfl rfl rfl ?_)
 go_wp2;go_ret
 obtain⟨hrow,oQ,hb⟩:=HR.out;refine⟨g',c',rfl,hrow,?_,?_⟩
 ·rcases oQ with⟨h1,_⟩|⟨h1,_⟩
  ·injection h1 with h1;injection h1 with h1;omega
  rw[h1];simp
 rcases oQ with⟨h1,ho⟩|⟨_,hb2⟩
 ·injection h1 with h1;injection h1 with h1
  exact hb.trans (ho.below (by simp) (by omega))
 exact hb.trans (hb2.mono (by simp))
end
section
variable{S:Nat->Prop}{W W':World}{nb:Nat}{x:Nd}
theorem hBd(W:World):Below W W W.drew:=(aV _ _).drew
theorem fV.shape{v:Value}{vs:List Value}(h:fV S W v vs)(h0:0<vs.length):∃g o c,v= .slice (some ⟨g,o,none⟩) vs.length c/\vs.length<=c/\S g:=by
 obtain⟨ao,c,rfl,hc,hv⟩:=h;obtain⟨g,o,rfl,hg,_⟩:=hv 0 vs[0] (bL h0);exact⟨g,o,c,rfl,hc,hg⟩
theorem fV.drop{g o n c:Nat}{vs:List Value}(h:fV S W (.slice (g,o) n c) vs)(i:Nat)(hi:i<=n):fV S W (.slice (g,o+i) (n-i) (c-i)) (vs.drop i):=by
 obtain⟨ao,c',e,hc,hv⟩:=h
 injection e with e1 e2 e3
 subst e1 e2 e3;refine⟨_,_,by rw[zd],by rw[zd];omega,λ j u hj=>?_⟩;rw[eY]at hj;obtain⟨g',o',e,hg,hcell⟩:=hv _ u hj
 injection e with e
 injection e with e4 e5
 subst e4 e5;exact⟨g,o+i,rfl,hg,by rw[Nat.add_assoc];exact hcell⟩
theorem fV.take{g o n c:Nat}{vs:List Value}(h:fV S W (.slice (g,o) n c) vs)(i:Nat)(hi:i<=n):fV S W (.slice (g,o) i c) (vs.take i):=by
 obtain⟨ao,c',e,hc,hv⟩:=h
 injection e with e1 e2 e3
 subst e1 e2 e3;refine⟨_,_,by rw[zt,gH hi],by rw[zt];omega,λ j u hj=>?_⟩
 have hlt:j<i:=by
  have:=(dE.1 hj).1;rw[zt]at this;omega
 rw[eX hlt]at hj;exact hv _ u hj
theorem fV.only{v:Value}{vs:List Value}(h:fV S W v vs)(ho:Only nb W W')(hS:∀g,S g->g<W.heap.size/\g≠nb):fV S W' v vs:=by
 obtain⟨ao,c,e,hc,hv⟩:=h;refine⟨ao,c,e,hc,λ j u hj=>?_⟩;obtain⟨g,o,e2,hg,hcell⟩:=hv j u hj
 exact⟨g,o,e2,hg,by
  unfold World.cell? at hcell ⊢;dsimp only at hcell ⊢;rw[ho.block g (hS g hg).1 (hS g hg).2];exact hcell⟩
theorem fV.mono{T:Nat->Prop}{v:Value}{vs:List Value}(h:fV S W v vs)(hs:∀g,S g->T g):fV T W v vs:=by
 obtain⟨ao,c,e,hc,hv⟩:=h
 exact⟨ao,c,e,hc,λ j u hj=>by
  obtain⟨g,o,e2,hg,hcell⟩:=hv j u hj;exact⟨g,o,e2,hs g hg,hcell⟩⟩
theorem Ht(l:List UInt64)(i:Nat):(az l).drop i=az (l.drop i):=by unfold az;rw[List.map_drop]
theorem Hu(l:List UInt64)(i:Nat):(az l).take i=az (l.take i):=by unfold az;rw[List.map_take]
theorem XE(l:List Nat)(i:Nat):(ints l).drop i=ints (l.drop i):=by unfold ints;rw[List.map_drop]
theorem XF(l:List Nat)(i:Nat):(ints l).take i=ints (l.take i):=by unfold ints;rw[List.map_take]
theorem vE{g c:Nat}{vs:List Value}(h:Row W g c vs)(hg:S g):fV S W (.slice g vs.length c) vs:=
 ⟨_,c,rfl,h.le,λ j u hj=>⟨g,0,rfl,hg,by rw[eG];exact h.at' j u hj⟩⟩
theorem XG:fV S W (.slice none 0 0) []:=⟨none,0,rfl,aO _,λ j u hj=>by cases hj⟩
def A7(S:Nat->Prop)(W:World)(nb:Nat)(x:Nd):Prop:=∃kv vv av,ay W nb #[.bool x.leaf,kv,vv,av]/\fV S W kv (az x.ag)/\fV S W vv (az x.vals)/\fV S W av (ints x.ax)
def Fx(S:Nat->Prop)(W:World)(nb:Nat)(x:Nd)(e:Ending)(w':World):Prop:=
 ∃mb,e= .returned (.tuple #[.pointer (some ⟨mb,0,none⟩),.int .u64 ((lK x).2.2.toNat:Int)])/\A7 S w' nb (lK x).1/\A7 (λ g=>W.heap.size<=g/\g<w'.heap.size/\g≠mb) w' mb (lK x).2.1/\W.heap.size<=mb/\mb<w'.heap.size/\Only nb W w'
theorem xrs{ag vals:List UInt64}(hn:A7 S W nb ⟨true,ag,vals,[]⟩)(hS:∀g,S g->g<W.heap.size/\g≠nb)(hl:ag.length=31)(hv:vals.length=31) :
  Calls Tryz.prog 238 #[.pointer nb] W (Fx S W nb ⟨true,ag,vals,[]⟩):=by
 obtain⟨kv,vv,av,b,hk,hvv,ha⟩:=hn;dsimp only at b hk hvv ha;obtain⟨g1,o1,d1,rfl,hd1,_⟩:=hk.shape (by rw[dA];omega);obtain⟨g2,o2,d2,rfl,hd2,_⟩:=hvv.shape (by rw[dA];omega);rw[dA,hl]at b hk hd1;rw[dA,hv]at b hvv hd2;have b0:=b.c0;have b1:=b.c1;have b2:=b.c2;have hb:=b
 have k2:fV S W (.slice (g1,o1+15) (ag.drop 15).length (d1-15)) (az (ag.drop 15)):=by
  have:=hk.drop 15 (by omega);rw[Ht]at this;rw[zd,hl];exact this
 have v2:fV S W (.slice (g2,o2+15) (vals.drop 15).length (d2-15)) (az (vals.drop 15)):=by
  have:=hvv.drop 15 (by omega);rw[Ht]at this;rw[zd,hv];exact this
 have k1:fV S W (.slice (g1,o1) 15 d1) (az (ag.take 15)):=by
  have:=hk.take 15 (by omega);rw[Hu]at this;exact this
 have v1:fV S W (.slice (g2,o2) 15 d2) (az (vals.take 15)):=by
  have:=hvv.take 15 (by omega);rw[Hu]at this;exact this
 have hlk:(ag.drop 15).length=16:=by rw[zd,hl]
 have hlv:(vals.drop 15).length=16:=by rw[zd,hv]
 have z8:∀g,S g->g<W.heap.size:=λ g hg=>(hS g hg).1
 have hC:=((Hr (W:=W.drew) (k2.below (hBd W) z8) z8 (by omega) (by omega)).mono (R':=λ e w'=>∃ga ca,e= .returned (.slice (some ⟨ga,0,none⟩) 16 ca)/\ay w' nb #[.bool true,.slice (g1,o1) 31 d1,.slice (g2,o2) 31 d2,av] /\
  Calls Tryz.prog 265 #[.slice (g2,o2+15) 16 (d2-15)] w' (λ e w''=>∃gb cb,e= .returned (.slice (some ⟨gb,0,none⟩) 16 cb)/\ay w'' nb #[.bool true,.slice (g1,o1) 31 d1,.slice (g2,o2) 31 d2,av] /\
   Row w'' ga ca (az (ag.drop 15))/\Row w'' gb cb (az (vals.drop 15))/\W.heap.size<=ga/\W.heap.size<=gb/\ga≠gb/\Below W W w'')) (λ e w' ⟨ga,ca,he,r1,hga,R9⟩=>by
  have bl:Below W W w':=(hBd W).trans R9;rw[hlk]at he;refine⟨ga,ca,he,hb.next bl,?_⟩;have hlt:∀g,S g->g<w'.heap.size:=λ g hg=>bZ (z8 g hg) bl.size;have:=Hr (v2.below bl z8) hlt (by omega) (by omega);rw[hlv]at this;refine this.mono (λ e w'' ⟨gb,cb,he,r2,hgb,qB⟩=>?_);have KQ:Below W W w'':=bl.trans (qB.mono bl.size);rw[hlv]at he;have:=r1.lt;exact⟨gb,cb,he,hb.next KQ,r1.ae qB.size (qB.block _ r1.lt),r2,hga,by have:=bl.size;omega,by omega,KQ⟩))
 rw[hlk]at hC;have HC:=zH hC;have HK:=zH (zA hb (zA k1 (zA v1 ha)));clear b hk hvv ha k1 k2 v1 v2 hlk hlv hb hC
 go_enter Tryz.func238,Tryz.ntmps238
 go_wp2_with fail
 go_region_held (λ w:World=>w.cell? (nb,1)=some (.slice (g1,o1) 31 d1)/\w.cell? (nb,2)=some (.slice (g2,o2) 31 d2)) (first|exact⟨b1,b2⟩|exact⟨m1,m2⟩|exact⟨n1,n2⟩|exact⟨q1,q2⟩) (first
  | (go_at_call 265;refine HC.out.mono ?_;rintro e w3 ⟨ga,ca,rfl,y1,y2⟩;have m1:=y1.cell 1 _ rfl;have m2:=y1.cell 2 _ rfl;replace y1:=zH y1;replace y2:=zH y2)
  | (go_at_call 265;refine y2.out.mono ?_;rintro e w4 ⟨gb,cb,rfl,z1,z2⟩;have n1:=z1.cell 1 _ rfl;have n2:=z1.cell 2 _ rfl;have q1:=(z1.alloc (.cells #[.bool true,.slice ga 16 ca,.slice gb 16 cb,.slice none 0 0] 212)).cell 1 _ rfl;have q2:=(z1.alloc (.cells #[.bool true,.slice ga 16 ca,.slice gb 16 cb,.slice none 0 0] 212)).cell 2 _ rfl;replace z1:=zH z1;replace z2:=zH z2))
 obtain⟨r1,r2,hga,hgb,wI,bl⟩:=z2.out;have hbx:=z1.out.alloc (.cells #[.bool true,.slice ga 16 ca,.slice gb 16 cb,.slice none 0 0] 212);have hmx:ay (w4.alloc (.cells #[.bool true,.slice ga 16 ca,.slice gb 16 cb,.slice none 0 0] 212)) w4 #[.bool true,.slice ga 16 ca,.slice gb 16 cb,.slice none 0 0]:=tQ rfl;have tT:=bl.alloc bl.size (.cells #[.bool true,.slice ga 16 ca,.slice gb 16 cb,.slice none 0 0] 212);have bw:Below w4 w4 (w4.alloc (.cells #[.bool true,.slice ga 16 ca,.slice gb 16 cb,.slice none 0 0] 212)):=(aV _ _).alloc (aO _) _;have rz:ga<w4.heap.size:=r1.lt;have r9:gb<w4.heap.size:=r2.lt;replace r1:=r1.ae bw.size (bw.block _ r1.lt);replace r2:=r2.ae bw.size (bw.block _ r2.lt);have hms:W.heap.size<=w4.heap.size:=bl.size;have hnm:nb<w4.heap.size:=z1.out.lt;generalize hmb:w4.heap.size=mb at hmx hms hnm rz r9;generalize Dz:w4.alloc (.cells #[.bool true,.slice ga 16 ca,.slice gb 16 cb,.slice none 0 0] 212)=w5 at hbx hmx tT r1 r2;clear y1 y2 z1 z2 m1 m2 n1 n2 HC b0 b1 b2 q1 q2 bw;have q1:=hbx.cell 1 _ rfl;have q2:=hbx.cell 2 _ rfl;have f1:=hbx.free 1;have f2:=hbx.free 2;have hc1:(15:Int)<=(d1:Int):=by omega
 have hc2:(15:Int)<=(d2:Int):=by omega
 have H5:=zH (zA hbx (zA hmx (zA tT (zA r1 (zA r2 (zA hms hnm))))));clear hbx hmx tT r1 r2 hms hnm
 go_wp2_with fail
 go_region_law (fail)
 all_goals
  obtain⟨hbx,hmx,tT,r1,r2,hms,hnm⟩:=H5.out;obtain⟨Fy,k1,v1,ha⟩:=HK.out;have o5:Only nb W ((w5.setCell (nb,1) (.slice (g1,o1) 15 d1)).setCell (nb,2) (.slice (g2,o2) 15 d2)).drew:=(((Only.of_below tT).set 1 _).set 2 _).drew;have o6:Only nb w5 ((w5.setCell (nb,1) (.slice (g1,o1) 15 d1)).setCell (nb,2) (.slice (g2,o2) 15 d2)).drew:=(((Only.refl nb w5).set 1 _).set 2 _).drew;have hby:ay ((w5.setCell (nb,1) (.slice (g1,o1) 15 d1)).setCell (nb,2) (.slice (g2,o2) 15 d2)).drew nb #[.bool true,.slice (g1,o1) 15 d1,.slice (g2,o2) 15 d2,av]:=(hbx.set 1 _).set 2 _;have A8:=hmx.only o6 (by omega);have hgn:ga≠nb:=by have:=Fy.lt;omega
  have A9:=r1.only o6 hgn;have Cn:=r2.only o6 (by have:=Fy.lt;omega);generalize ((w5.setCell (nb,1) (.slice (g1,o1) 15 d1)).setCell (nb,2) (.slice (g2,o2) 15 d2)).drew=w6 at o5 o6 hby A8 A9 Cn;have m1:=A8.cell 1 _ rfl
  have hkd:(az (ag.drop 15))[0]?=some (.int .u64 ((ag.getD 15 0).toNat:Int)):=by
   refine tH _ 0 (ag.getD 15 0) ?_;rw[eY,jN,fE,bL (by omega)];rfl
  obtain⟨q,hq⟩:∃q:UInt64,q=ag.getD 15 0:=⟨_,rfl⟩;rw[<-hq]at hkd;have c0:=A9.at' 0 _ hkd;have hlk:(az (ag.drop 15)).length=16:=by rw[dA,zd,hl]
  have hlv:(az (vals.drop 15)).length=16:=by rw[dA,zd,hv]
  have sG:=A8.lt
  have fin:Fx S W nb ⟨true,ag,vals,[]⟩ (.returned (.tuple #[.pointer mb,.int .u64 (q.toNat:Int)])) w6.drew:=by
   rw[hq];unfold Fx;rw[Hw (show ag.length/2=15 by omega)];refine⟨mb,rfl,⟨_,_,_,hby,k1.only o5.drew hS,v1.only o5.drew hS,ha.only o5.drew hS⟩,⟨_,_,_,A8,?_,?_,XG⟩,hms,sG,o5.drew⟩
   ·have:=vE (S:=λ g=>W.heap.size<=g/\g<w6.drew.heap.size/\g≠mb) A9 ⟨hga,A9.lt,by omega⟩;rw[hlk]at this;exact this
   have:=vE (S:=λ g=>W.heap.size<=g/\g<w6.drew.heap.size/\g≠mb) Cn ⟨hgb,Cn.lt,by omega⟩;rw[hlv]at this;exact this
  have HF:=zH fin;clear hbx hmx tT r1 r2 hms hnm Fy k1 v1 ha o5 o6 hby A8 A9 Cn fin hkd hlk hlv H5 HK sG rz r9 hgn f1 f2 q1 q2 hga hgb wI hS z8 Dz hq hl hv
  go_wp2_with fail
  go_region_law (fail)
  all_goals
   go_wp2;go_ret2
   exact HF.out
end
end Go.Proofs.YtgpmiliahonaoaaGreatDoor
