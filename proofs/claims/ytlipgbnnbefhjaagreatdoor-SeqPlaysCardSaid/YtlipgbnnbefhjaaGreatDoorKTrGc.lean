/- Facts on rows of numbers on pages. -/
import Derived.Test.YtlipgbnnbefhjaaGreatDoorKTrEc
import Derived.RegionTactic
import Derived.Deep.RegionHeld
set_option maxRecDepth 100000
set_option maxHeartbeats 8000000
set_option linter.unusedSimpArgs false
namespace Go.Proofs.YtlipgbnnbefhjaaGreatDoor
open Go.RowKit
open UK (str aO nth Only Row aI)
section
variable{S:Nat->Prop}{W W':World}{nb:Nat}{x:Nd}
theorem ZC(hn:jN S W nb x) :
  Calls Tryz.prog 123 #[.pointer nb] W λ e w'=>e= .returned (.bool (qK x))/\w'=W:=by
 obtain⟨kv,vv,av,b,hb,⟨ao,c,rfl,_,_⟩,_,⟨bo,d,rfl,_,_⟩⟩:=hn;rw[cz,dx]at b;have c1:=b.c1;have c3:=b.c3;have e1:decide ((30:Int)<(x.ai.length:Int))=decide (30<x.ai.length):=decide_eq_decide.2 (by omega);have e3:decide ((40:Int)<(x.ah.length:Int))=decide (40<x.ah.length):=decide_eq_decide.2 (by omega);have hf:qK x=(decide ((30:Int)<(x.ai.length:Int))||decide ((40:Int)<(x.ah.length:Int))):=by rw[e1,e3];rfl
 rw[hf];clear b e1 e3 hf;by_cases h1:(30:Int)<(x.ai.length:Int)
 ·have d1:decide ((30:Int)<(x.ai.length:Int))=true:=decide_eq_true h1;rw[d1]
  go_enter Tryz.func123,Tryz.ntmps123
  go_wp2;go_ret
  exact⟨rfl,rfl⟩
 have d1:decide ((30:Int)<(x.ai.length:Int))=false:=decide_eq_false h1;rw[d1,Bool.false_or];by_cases h3:(40:Int)<(x.ah.length:Int)
 ·have d3:decide ((40:Int)<(x.ah.length:Int))=true:=decide_eq_true h3;rw[d3]
  go_enter Tryz.func123,Tryz.ntmps123
  go_wp2;go_ret
  exact⟨rfl,rfl⟩
 have d3:decide ((40:Int)<(x.ah.length:Int))=false:=decide_eq_false h3;rw[d3]
 go_enter Tryz.func123,Tryz.ntmps123
 go_wp2;go_ret
 exact⟨rfl,rfl⟩
def DK(x:Nd):Bool:=if x.leaf then decide (x.ai.length<15) else decide (x.ah.length<20)
theorem xx1(hn:jN S W nb x) :
  Calls Tryz.prog 130 #[.pointer nb] W λ e w'=>e= .returned (.bool (DK x))/\w'=W:=by
 cases hl:x.leaf with
 | true=>
  have:=ZE hn hl;unfold DK;rw[hl];exact this
 | false=>
  obtain⟨kv,vv,av,b,hb,_,_,⟨ao,c,rfl,_,_⟩⟩:=hn;rw[dx]at b;rw[hl]at b;have c0:=b.c0;have c1:=b.c3;have d1:decide ((x.ah.length:Int)<20)=decide (x.ah.length<20):=decide_eq_decide.2 (by omega);have hp:DK x=decide ((x.ah.length:Int)<20):=by unfold DK;rw[hl,d1];rfl
  rw[hp];clear b d1 hp
  go_enter Tryz.func130,Tryz.ntmps130
  go_wp2;go_ret
  exact⟨rfl,rfl⟩
theorem fP.kid{l:List UInt64}{k:UInt64}{i:Nat}(h:fP l k i)(hs:jV l):dU l k (if k∈l then i+1 else i):=by
 have hle:=h.le
 have hat:k∈l->∃hi:i<l.length,l[i]=k:=λ hm=>by
  obtain⟨j,hj,e⟩:=jb hm;have hj':l[j]?=some k:=by rw[di hj,e]
  have h1:i<=j:=by
   refine Nat.le_of_not_lt (λ hlt=>?_);have:=h.below j k hlt hj';omega
  rcases Nat.lt_or_ge i j with h2|h2
  ·have hi:i<l.length:=by omega
   have a:=h.above i l[i] (aZ _) (di hi);have b:=hs i j l[i] k h2 (di hi) hj';omega
  obtain rfl:i=j:=by omega
  exact⟨hj,e⟩
 split
 ·rename_i hm
  obtain⟨hi,e⟩:=hat hm;refine⟨by omega,λ κ dK=>?_,λ κ dK=>?_⟩
  ·obtain⟨j,hj,e2⟩:=jb dK;rw[zt]at hj;rw[List.getElem_take]at e2;rcases Nat.lt_or_ge j i with h1|h1
   ·have:=h.below j κ h1 (by rw[di (by omega),e2]);omega
   obtain rfl:j=i:=by omega
   rw[<-e2,e];exact aZ _
  obtain⟨j,hj,e2⟩:=jb dK;rw[zd]at hj;rw[List.getElem_drop]at e2;have:=hs i (i+1+j) k κ (by omega) (by rw[di hi,e]) (by rw[di (by omega),e2]);exact this
 rename_i hm
 refine⟨hle,λ κ dK=>?_,λ κ dK=>?_⟩
 ·obtain⟨j,hj,e2⟩:=jb dK;rw[zt]at hj;rw[List.getElem_take]at e2;have:=h.below j κ (by omega) (by rw[di (by omega),e2]);omega
 obtain⟨j,hj,e2⟩:=jb dK;rw[zd]at hj;rw[List.getElem_drop]at e2;have h1:=h.above (i+j) κ (by omega) (by rw[di (by omega),e2]);have h2:k.toNat≠κ.toNat:=λ e=>hm (by rw[UInt64.toNat_inj.1 e,<-e2];exact List.getElem_mem _);omega
def UQ(W:World)(ai:List UInt64)(k:UInt64)(e:Ending)(w':World):Prop:=∃i:Nat,e= .returned (.int .i64 (i:Int))/\dU ai k i/\W=w'
theorem UR(hn:jN S W nb x)(hs:jV x.ai)(hl:x.ai.length<=1000)(k:UInt64) :
  Calls Tryz.prog 75 #[.pointer nb,.int .u64 k.toNat] W (UQ W x.ai k):=by
 obtain⟨kv,vv,av,b,hb,hk,_,_⟩:=hn;obtain⟨ao,c,rfl,h4,h5⟩:=id hk;have c1:=b.c1;have HS:=zH (J3 hk hs hl k);have HSO:=zH hs;clear b hk h5 hs
 go_enter Tryz.func75,Tryz.ntmps75
 go_wp2_with fail
 refine HS.out.mono ?_;rintro e w1 ⟨i,rfl,hst,rfl⟩;have hkx:=hst.kid HSO.out;have hle:=hst.le;by_cases hm:k∈x.ai
 ·rw[if_pos hm]at hkx;have HK:=zH hkx;have hd:decide (k∈x.ai)=true:=decide_eq_true hm;rw[hd];clear hkx hm hst hd HS;go_wp2;go_ret;exact⟨i+1,by rfl,HK.out,rfl⟩
 rw[if_neg hm]at hkx;have HK:=zH hkx;have hd:decide (k∈x.ai)=false:=decide_eq_false hm;rw[hd];clear hkx hm hst hd HS;go_wp2;go_ret;exact⟨i,by rfl,HK.out,rfl⟩
theorem dY.src{P:Program}{t e':TypeId}(hk:P.underlying t=some (.slice e')){ao:Option Addr}{c:Nat}{vs:List Value}(h:dY S W (.slice ao vs.length c) vs)(h0:0<vs.length)(h1:∀u∈vs,u.oneCell'=true):Src P 1 t (.slice ao vs.length c) vs.length vs W:=by
 obtain⟨cZ,c',e,hc,hv⟩:=h
 injection e with e1 e2 e3
 subst e1 e3;obtain⟨g,o,rfl,_,_⟩:=hv 0 vs[0] (di h0);refine Src.ofSlice W hk ⟨g,o,none⟩ vs.length c vs (by rw[zm]) (λ j u hj=>?_) h1;obtain⟨g2,o2,e2,_,hcell⟩:=hv j u hj
 injection e2 with e2
 injection e2 with e3 e4
 subst e3 e4;rw[UK.uh];exact hcell
theorem xx2(l:List UInt64):∀u∈aF l,u.oneCell'=true:=λ u hu=>by
 unfold aF at hu;obtain⟨v,_,rfl⟩:=gT.1 hu;rfl
theorem xx3(l:List Nat):∀u∈ints l,u.oneCell'=true:=λ u hu=>by
 unfold ints at hu;obtain⟨v,_,rfl⟩:=gT.1 hu;rfl
def DL(W:World)(ao:Option Addr)(g':Nat)(W':World):Prop:=(ao=some ⟨g',0,none⟩/\Only g' W W')\/(g'=W.heap.size/\Below W W W')
theorem ER{ao bo:Option Addr}{c d:Nat}{us vs:List UInt64}(h:NR W ao c (aF us))(hv:dY S W (.slice bo vs.length d) (aF vs))(h0:0<vs.length)(hl:us.length+vs.length<=100000) :
  ∃g' c' W',(Builtin.append_ #[27,27] 27 #[.slice ao us.length c,.slice bo vs.length d]).run Tryz.prog W= .ok (.slice (some ⟨g',0,none⟩) (us.length+vs.length) c') W'/\Row W' g' c' (aF (us++vs))/\DL W ao g' W':=by
 have UT:=cz us;have hlv:=cz vs;rw[<-hlv]at hv;obtain⟨g',c',W',e,r,o⟩:=UK.MI (P:=Tryz.prog) (t:=27) (tx:=27) (ty:=27) Tryz.underlying27 (i:=Tryz.t32) rfl rfl rfl (show(8:Nat)<=16 by omega) rfl h (x:=.slice bo (aF vs).length d) (m:=aF vs) (by omega) (hv.src Tryz.underlying27 (by omega) (xx2 vs)) (by omega);rw[zl,UT,hlv]at e;exact⟨g',c',W',e,by unfold aF at *;rw[jr];exact r,o⟩
theorem TT{ao bo:Option Addr}{c d:Nat}{us vs:List Nat}(h:NR W ao c (ints us))(hv:dY S W (.slice bo vs.length d) (ints vs))(h0:0<vs.length)(hl:us.length+vs.length<=100000) :
  ∃g' c' W',(Builtin.append_ #[73,73] 73 #[.slice ao us.length c,.slice bo vs.length d]).run Tryz.prog W= .ok (.slice (some ⟨g',0,none⟩) (us.length+vs.length) c') W'/\Row W' g' c' (ints (us++vs))/\DL W ao g' W':=by
 have UT:=dx us;have hlv:=dx vs;rw[<-hlv]at hv;obtain⟨g',c',W',e,r,o⟩:=UK.MI (P:=Tryz.prog) (t:=73) (tx:=73) (ty:=73) Tryz.underlying73 (i:=Tryz.t3) rfl rfl rfl (show(8:Nat)<=16 by omega) rfl h (x:=.slice bo (ints vs).length d) (m:=ints vs) (by omega) (hv.src Tryz.underlying73 (by omega) (xx3 vs)) (by omega);rw[zl,UT,hlv]at e;exact⟨g',c',W',e,by unfold ints at *;rw[jr];exact r,o⟩
theorem dY.below{n:Nat}{v:Value}{vs:List Value}(h:dY S W v vs)(hb:Below n W W')(hS:∀g,S g->g<n):dY S W' v vs:=by
 obtain⟨ao,c,e,hc,hv⟩:=h;refine⟨ao,c,e,hc,λ j u hj=>?_⟩;obtain⟨g,o,e2,hg,hcell⟩:=hv j u hj;exact⟨g,o,e2,hg,(hb.cell (p:=⟨g,o+j,none⟩) (hS g hg)).trans hcell⟩
def Lf(W:World)(l:List UInt64)(e:Ending)(w':World):Prop:=∃g' c',e= .returned (.slice (some ⟨g',0,none⟩) l.length c')/\Row w' g' c' (aF l)/\W.heap.size<=g'/\Below W W w'
def O7(W:World)(l:List Nat)(e:Ending)(w':World):Prop:=∃g' c',e= .returned (.slice (some ⟨g',0,none⟩) l.length c')/\Row w' g' c' (ints l)/\W.heap.size<=g'/\Below W W w'
theorem L9(W:World)(T:TypeId):NR (W.alloc (.cells #[] T)) W 0 []:=.inr ⟨W.heap.size,rfl,by simp,bY _,λ j hj=>by simp at hj,λ j hj=>by omega⟩
theorem EK{bo:Option Addr}{d:Nat}{vs:List UInt64}(hv:dY S W (.slice bo vs.length d) (aF vs))(hS:∀g,S g->g<W.heap.size)(h0:0<vs.length)(hl:vs.length<=1000) :
  Calls Tryz.prog 125 #[.slice bo vs.length d] W (Lf W vs):=by
 obtain⟨cZ,c',e,hc,hvv⟩:=id hv
 injection e with e1 e2 e3
 subst e1 e3;have h1:0<(aF vs).length:=by rw[cz];exact h0
 obtain⟨g,o,rfl,_,_⟩:=hvv 0 (aF vs)[0] (di h1);have hb:Below W W (W.alloc (.cells #[] 32)):=(aP _ _).alloc (aZ _) _;obtain⟨g',c',W',hrun,hrow,cO⟩:=ER (us:=[]) (L9 W 32) (hv.below hb hS) h0 (by simp;omega);rw[gH]at hrow;simp only[List.length_nil,gq]at hrun;have hnil:∀W l c,(binOp .eql 27 (.slice (g,o) l c) (.slice none 0 0)).run Tryz.prog W= .ok (.bool false) W:=λ W l c=>Lib.run_eql_slice_nil W _ _ _ _ _ _ _ Tryz.underlying27;have HR:=zH (zA hrow (zA cO hb));clear hv hvv hrow cO hb hc e2
 go_enter Tryz.func125,Tryz.ntmps125
 go_wp2_with (at_builtin;refine UK.pV hrun rfl rfl rfl rfl rfl ?_)
 go_wp2;go_ret
 obtain⟨hrow,cO,hb⟩:=HR.out;refine⟨g',c',rfl,hrow,?_,?_⟩
 ·rcases cO with⟨h1,_⟩|⟨h1,_⟩
  ·injection h1 with h1;injection h1 with h1;omega
  rw[h1];simp
 rcases cO with⟨h1,ho⟩|⟨_,hb2⟩
 ·injection h1 with h1;injection h1 with h1
  exact hb.trans (ho.below (by simp) (by omega))
 exact hb.trans (hb2.mono (by simp))
theorem Lj{bo:Option Addr}{d:Nat}{vs:List Nat}(hv:dY S W (.slice bo vs.length d) (ints vs))(hS:∀g,S g->g<W.heap.size)(h0:0<vs.length)(hl:vs.length<=1000) :
  Calls Tryz.prog 126 #[.slice bo vs.length d] W (O7 W vs):=by
 obtain⟨cZ,c',e,hc,hvv⟩:=id hv
 injection e with e1 e2 e3
 subst e1 e3;have h1:0<(ints vs).length:=by rw[dx];exact h0
 obtain⟨g,o,rfl,_,_⟩:=hvv 0 (ints vs)[0] (di h1);have hb:Below W W (W.alloc (.cells #[] 3)):=(aP _ _).alloc (aZ _) _;obtain⟨g',c',W',hrun,hrow,cO⟩:=TT (us:=[]) (L9 W 3) (hv.below hb hS) h0 (by simp;omega);rw[gH]at hrow;simp only[List.length_nil,gq]at hrun;have hnil:∀W l c,(binOp .eql 73 (.slice (g,o) l c) (.slice none 0 0)).run Tryz.prog W= .ok (.bool false) W:=λ W l c=>Lib.run_eql_slice_nil W _ _ _ _ _ _ _ Tryz.underlying73;have HR:=zH (zA hrow (zA cO hb));clear hv hvv hrow cO hb hc e2
 go_enter Tryz.func126,Tryz.ntmps126
 go_wp2_with (at_builtin;refine UK.pV hrun rfl rfl rfl rfl rfl ?_)
 go_wp2;go_ret
 obtain⟨hrow,cO,hb⟩:=HR.out;refine⟨g',c',rfl,hrow,?_,?_⟩
 ·rcases cO with⟨h1,_⟩|⟨h1,_⟩
  ·injection h1 with h1;injection h1 with h1;omega
  rw[h1];simp
 rcases cO with⟨h1,ho⟩|⟨_,hb2⟩
 ·injection h1 with h1;injection h1 with h1
  exact hb.trans (ho.below (by simp) (by omega))
 exact hb.trans (hb2.mono (by simp))
end
section
variable{S:Nat->Prop}{W W':World}{nb:Nat}{x:Nd}
theorem hBd(W:World):Below W W W.drew:=(aP _ _).drew
theorem dY.shape{v:Value}{vs:List Value}(h:dY S W v vs)(h0:0<vs.length):∃g o c,v= .slice (some ⟨g,o,none⟩) vs.length c/\vs.length<=c/\S g:=by
 obtain⟨ao,c,rfl,hc,hv⟩:=h;obtain⟨g,o,rfl,hg,_⟩:=hv 0 vs[0] (di h0);exact⟨g,o,c,rfl,hc,hg⟩
theorem dY.drop{g o n c:Nat}{vs:List Value}(h:dY S W (.slice (g,o) n c) vs)(i:Nat)(hi:i<=n):dY S W (.slice (g,o+i) (n-i) (c-i)) (vs.drop i):=by
 obtain⟨ao,c',e,hc,hv⟩:=h
 injection e with e1 e2 e3
 subst e1 e2 e3;refine⟨_,_,by rw[zd],by rw[zd];omega,λ j u hj=>?_⟩;rw[iC]at hj;obtain⟨g',o',e,hg,hcell⟩:=hv _ u hj
 injection e with e
 injection e with e4 e5
 subst e4 e5;exact⟨g,o+i,rfl,hg,by rw[Nat.add_assoc];exact hcell⟩
theorem dY.take{g o n c:Nat}{vs:List Value}(h:dY S W (.slice (g,o) n c) vs)(i:Nat)(hi:i<=n):dY S W (.slice (g,o) i c) (vs.take i):=by
 obtain⟨ao,c',e,hc,hv⟩:=h
 injection e with e1 e2 e3
 subst e1 e2 e3;refine⟨_,_,by rw[zt,lH hi],by rw[zt];omega,λ j u hj=>?_⟩
 have hlt:j<i:=by
  have:=(dn.1 hj).1;rw[zt]at this;omega
 rw[iO hlt]at hj;exact hv _ u hj
theorem dY.only{v:Value}{vs:List Value}(h:dY S W v vs)(ho:Only nb W W')(hS:∀g,S g->g<W.heap.size/\g≠nb):dY S W' v vs:=by
 obtain⟨ao,c,e,hc,hv⟩:=h;refine⟨ao,c,e,hc,λ j u hj=>?_⟩;obtain⟨g,o,e2,hg,hcell⟩:=hv j u hj
 exact⟨g,o,e2,hg,by
  unfold World.cell? at hcell ⊢;dsimp only at hcell ⊢;rw[ho.block g (hS g hg).1 (hS g hg).2];exact hcell⟩
theorem dY.mono{T:Nat->Prop}{v:Value}{vs:List Value}(h:dY S W v vs)(hs:∀g,S g->T g):dY T W v vs:=by
 obtain⟨ao,c,e,hc,hv⟩:=h
 exact⟨ao,c,e,hc,λ j u hj=>by
  obtain⟨g,o,e2,hg,hcell⟩:=hv j u hj;exact⟨g,o,e2,hs g hg,hcell⟩⟩
theorem BV(l:List UInt64)(i:Nat):(aF l).drop i=aF (l.drop i):=by unfold aF;rw[List.map_drop]
theorem BZ(l:List UInt64)(i:Nat):(aF l).take i=aF (l.take i):=by unfold aF;rw[List.map_take]
theorem Lh(l:List Nat)(i:Nat):(ints l).drop i=ints (l.drop i):=by unfold ints;rw[List.map_drop]
theorem Li(l:List Nat)(i:Nat):(ints l).take i=ints (l.take i):=by unfold ints;rw[List.map_take]
theorem sU{g c:Nat}{vs:List Value}(h:Row W g c vs)(hg:S g):dY S W (.slice g vs.length c) vs:=
 ⟨_,c,rfl,h.le,λ j u hj=>⟨g,0,rfl,hg,by rw[gq];exact h.at' j u hj⟩⟩
theorem Db:dY S W (.slice none 0 0) []:=⟨none,0,rfl,aZ _,λ j u hj=>by cases hj⟩
def zo(S:Nat->Prop)(W:World)(nb:Nat)(x:Nd):Prop:=∃kv vv av,aI W nb #[.bool x.leaf,kv,vv,av]/\dY S W kv (aF x.ai)/\dY S W vv (aF x.vals)/\dY S W av (ints x.ah)
theorem zo.node(h:zo S W nb x):jN (λ g=>S g\/g=nb) W nb x:=by
 obtain⟨kv,vv,av,b,h1,h2,h3⟩:=h;exact⟨kv,vv,av,b,.inr rfl,h1.mono (λ _=>.inl),h2.mono (λ _=>.inl),h3.mono (λ _=>.inl)⟩
def Ho(S:Nat->Prop)(W:World)(nb:Nat)(x:Nd)(e:Ending)(w':World):Prop:=
 ∃mb,e= .returned (.tuple #[.pointer (some ⟨mb,0,none⟩),.int .u64 ((nu x).2.2.toNat:Int)])/\zo S w' nb (nu x).1/\zo (λ g=>W.heap.size<=g/\g<w'.heap.size/\g≠mb) w' mb (nu x).2.1/\W.heap.size<=mb/\mb<w'.heap.size/\Only nb W w'
theorem xrz{ai vals:List UInt64}(hn:zo S W nb ⟨true,ai,vals,[]⟩)(hS:∀g,S g->g<W.heap.size/\g≠nb)(hl:ai.length=31)(hv:vals.length=31) :
  Calls Tryz.prog 124 #[.pointer nb] W (Ho S W nb ⟨true,ai,vals,[]⟩):=by
 obtain⟨kv,vv,av,b,hk,hvv,ha⟩:=hn;dsimp only at b hk hvv ha;obtain⟨g1,o1,d1,rfl,hd1,_⟩:=hk.shape (by rw[cz];omega);obtain⟨g2,o2,d2,rfl,hd2,_⟩:=hvv.shape (by rw[cz];omega);rw[cz,hl]at b hk hd1;rw[cz,hv]at b hvv hd2;have b0:=b.c0;have b1:=b.c1;have b2:=b.c2;have hb:=b
 have k2:dY S W (.slice (g1,o1+15) (ai.drop 15).length (d1-15)) (aF (ai.drop 15)):=by
  have:=hk.drop 15 (by omega);rw[BV]at this;rw[zd,hl];exact this
 have v2:dY S W (.slice (g2,o2+15) (vals.drop 15).length (d2-15)) (aF (vals.drop 15)):=by
  have:=hvv.drop 15 (by omega);rw[BV]at this;rw[zd,hv];exact this
 have k1:dY S W (.slice (g1,o1) 15 d1) (aF (ai.take 15)):=by
  have:=hk.take 15 (by omega);rw[BZ]at this;exact this
 have v1:dY S W (.slice (g2,o2) 15 d2) (aF (vals.take 15)):=by
  have:=hvv.take 15 (by omega);rw[BZ]at this;exact this
 have hlk:(ai.drop 15).length=16:=by rw[zd,hl]
 have hlv:(vals.drop 15).length=16:=by rw[zd,hv]
 have tY:∀g,S g->g<W.heap.size:=λ g hg=>(hS g hg).1
 have hC:=((EK (W:=W.drew) (k2.below (hBd W) tY) tY (by omega) (by omega)).mono (R':=λ e w'=>∃ga ca,e= .returned (.slice (some ⟨ga,0,none⟩) 16 ca)/\aI w' nb #[.bool true,.slice (g1,o1) 31 d1,.slice (g2,o2) 31 d2,av] /\
  Calls Tryz.prog 125 #[.slice (g2,o2+15) 16 (d2-15)] w' (λ e w''=>∃gb cb,e= .returned (.slice (some ⟨gb,0,none⟩) 16 cb)/\aI w'' nb #[.bool true,.slice (g1,o1) 31 d1,.slice (g2,o2) 31 d2,av] /\
   Row w'' ga ca (aF (ai.drop 15))/\Row w'' gb cb (aF (vals.drop 15))/\W.heap.size<=ga/\W.heap.size<=gb/\ga≠gb/\Below W W w'')) (λ e w' ⟨ga,ca,he,r1,hga,UU⟩=>by
  have bl:Below W W w':=(hBd W).trans UU;rw[hlk]at he;refine⟨ga,ca,he,hb.next bl,?_⟩;have hlt:∀g,S g->g<w'.heap.size:=λ g hg=>bS (tY g hg) bl.size;have:=EK (v2.below bl tY) hlt (by omega) (by omega);rw[hlv]at this;refine this.mono (λ e w'' ⟨gb,cb,he,r2,hgb,rY⟩=>?_);have wZ:Below W W w'':=bl.trans (rY.mono bl.size);rw[hlv]at he;have:=r1.lt;exact⟨gb,cb,he,hb.next wZ,r1.af rY.size (rY.block _ r1.lt),r2,hga,by have:=bl.size;omega,by omega,wZ⟩))
 rw[hlk]at hC;have HC:=zH hC;have HK:=zH (zA hb (zA k1 (zA v1 ha)));clear b hk hvv ha k1 k2 v1 v2 hlk hlv hb hC
 go_enter Tryz.func124,Tryz.ntmps124
 go_wp2_with fail
 go_region_held (λ w:World=>w.cell? (nb,1)=some (.slice (g1,o1) 31 d1)/\w.cell? (nb,2)=some (.slice (g2,o2) 31 d2)) (first|exact⟨b1,b2⟩|exact⟨m1,m2⟩|exact⟨n1,n2⟩|exact⟨q1,q2⟩) (first
  | (go_at_call 125;refine HC.out.mono ?_;rintro e w3 ⟨ga,ca,rfl,y1,y2⟩;have m1:=y1.cell 1 _ rfl;have m2:=y1.cell 2 _ rfl;replace y1:=zH y1;replace y2:=zH y2)
  | (go_at_call 125;refine y2.out.mono ?_;rintro e w4 ⟨gb,cb,rfl,z1,z2⟩;have n1:=z1.cell 1 _ rfl;have n2:=z1.cell 2 _ rfl;have q1:=(z1.alloc (.cells #[.bool true,.slice ga 16 ca,.slice gb 16 cb,.slice none 0 0] 131)).cell 1 _ rfl;have q2:=(z1.alloc (.cells #[.bool true,.slice ga 16 ca,.slice gb 16 cb,.slice none 0 0] 131)).cell 2 _ rfl;replace z1:=zH z1;replace z2:=zH z2))
 obtain⟨r1,r2,hga,hgb,yJ,bl⟩:=z2.out;have hbx:=z1.out.alloc (.cells #[.bool true,.slice ga 16 ca,.slice gb 16 cb,.slice none 0 0] 131);have hmx:aI (w4.alloc (.cells #[.bool true,.slice ga 16 ca,.slice gb 16 cb,.slice none 0 0] 131)) w4 #[.bool true,.slice ga 16 ca,.slice gb 16 cb,.slice none 0 0]:=mG rfl;have vJ:=bl.alloc bl.size (.cells #[.bool true,.slice ga 16 ca,.slice gb 16 cb,.slice none 0 0] 131);have bw:Below w4 w4 (w4.alloc (.cells #[.bool true,.slice ga 16 ca,.slice gb 16 cb,.slice none 0 0] 131)):=(aP _ _).alloc (aZ _) _;have nI:ga<w4.heap.size:=r1.lt;have tH:gb<w4.heap.size:=r2.lt;replace r1:=r1.af bw.size (bw.block _ r1.lt);replace r2:=r2.af bw.size (bw.block _ r2.lt);have hms:W.heap.size<=w4.heap.size:=bl.size;have hnm:nb<w4.heap.size:=z1.out.lt;generalize hmb:w4.heap.size=mb at hmx hms hnm nI tH;generalize xD:w4.alloc (.cells #[.bool true,.slice ga 16 ca,.slice gb 16 cb,.slice none 0 0] 131)=w5 at hbx hmx vJ r1 r2;clear y1 y2 z1 z2 m1 m2 n1 n2 HC b0 b1 b2 q1 q2 bw;have q1:=hbx.cell 1 _ rfl;have q2:=hbx.cell 2 _ rfl;have f1:=hbx.free 1;have f2:=hbx.free 2;have hc1:(15:Int)<=(d1:Int):=by omega
 have hc2:(15:Int)<=(d2:Int):=by omega
 have H5:=zH (zA hbx (zA hmx (zA vJ (zA r1 (zA r2 (zA hms hnm))))));clear hbx hmx vJ r1 r2 hms hnm
 go_wp2_with fail
 go_region_law (fail)
 all_goals
  obtain⟨hbx,hmx,vJ,r1,r2,hms,hnm⟩:=H5.out;obtain⟨Hq,k1,v1,ha⟩:=HK.out;have o5:Only nb W ((w5.setCell (nb,1) (.slice (g1,o1) 15 d1)).setCell (nb,2) (.slice (g2,o2) 15 d2)).drew:=(((Only.of_below vJ).set 1 _).set 2 _).drew;have o6:Only nb w5 ((w5.setCell (nb,1) (.slice (g1,o1) 15 d1)).setCell (nb,2) (.slice (g2,o2) 15 d2)).drew:=(((Only.refl nb w5).set 1 _).set 2 _).drew;have hby:aI ((w5.setCell (nb,1) (.slice (g1,o1) 15 d1)).setCell (nb,2) (.slice (g2,o2) 15 d2)).drew nb #[.bool true,.slice (g1,o1) 15 d1,.slice (g2,o2) 15 d2,av]:=(hbx.set 1 _).set 2 _;have AZ:=hmx.only o6 (by omega);have hgn:ga≠nb:=by have:=Hq.lt;omega
  have Ct:=r1.only o6 hgn;have DN:=r2.only o6 (by have:=Hq.lt;omega);generalize ((w5.setCell (nb,1) (.slice (g1,o1) 15 d1)).setCell (nb,2) (.slice (g2,o2) 15 d2)).drew=w6 at o5 o6 hby AZ Ct DN;have m1:=AZ.cell 1 _ rfl
  have hkd:(aF (ai.drop 15))[0]?=some (.int .u64 ((ai.getD 15 0).toNat:Int)):=by
   refine qx _ 0 (ai.getD 15 0) ?_;rw[iC,iP,fK,di (by omega)];rfl
  obtain⟨q,hq⟩:∃q:UInt64,q=ai.getD 15 0:=⟨_,rfl⟩;rw[<-hq]at hkd;have c0:=Ct.at' 0 _ hkd;have hlk:(aF (ai.drop 15)).length=16:=by rw[cz,zd,hl]
  have hlv:(aF (vals.drop 15)).length=16:=by rw[cz,zd,hv]
  have Bn:=AZ.lt
  have fin:Ho S W nb ⟨true,ai,vals,[]⟩ (.returned (.tuple #[.pointer mb,.int .u64 (q.toNat:Int)])) w6.drew:=by
   rw[hq];unfold Ho;rw[J4 (show ai.length/2=15 by omega)];refine⟨mb,rfl,⟨_,_,_,hby,k1.only o5.drew hS,v1.only o5.drew hS,ha.only o5.drew hS⟩,⟨_,_,_,AZ,?_,?_,Db⟩,hms,Bn,o5.drew⟩
   ·have:=sU (S:=λ g=>W.heap.size<=g/\g<w6.drew.heap.size/\g≠mb) Ct ⟨hga,Ct.lt,by omega⟩;rw[hlk]at this;exact this
   have:=sU (S:=λ g=>W.heap.size<=g/\g<w6.drew.heap.size/\g≠mb) DN ⟨hgb,DN.lt,by omega⟩;rw[hlv]at this;exact this
  have HF:=zH fin;clear hbx hmx vJ r1 r2 hms hnm Hq k1 v1 ha o5 o6 hby AZ Ct DN fin hkd hlk hlv H5 HK Bn nI tH hgn f1 f2 q1 q2 hga hgb yJ hS tY xD hq hl hv
  go_wp2_with fail
  go_region_law (fail)
  all_goals
   go_wp2;go_ret2
   exact HF.out
end
end Go.Proofs.YtlipgbnnbefhjaaGreatDoor
