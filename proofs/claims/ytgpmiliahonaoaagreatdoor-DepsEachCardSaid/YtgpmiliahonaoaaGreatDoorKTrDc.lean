/- Facts on texts and trees on pages. -/
import Derived.Test.YtgpmiliahonaoaaGreatDoorKTrBc
set_option maxRecDepth 100000
set_option maxHeartbeats 8000000
set_option linter.unusedSimpArgs false
namespace Go.Proofs.YtgpmiliahonaoaaGreatDoor
open Go.RowKit
open UK (str aF nth Only Row ay)
theorem ND(y:List UInt8)(n:Nat):(nX y n).length=n:=by simp[nX]
theorem NE(y:List UInt8)(n:Nat):(iR y n).length=n:=by simp[iR]
theorem xrq(y:List UInt8)(n:Nat):nX y (n+1)=nX y n++[uC y n]:=by simp[nX,List.range_succ]
theorem xu6(y:List UInt8)(n:Nat):iR y (n+1)=iR y n++[qz y (164+8*n)]:=by simp[iR,List.range_succ]
theorem xx0{W:World}{ao:Option Addr}{c:Nat}{l:List Nat}(h:NR W ao c (ints l))(hl:l.length<1000000)(v:Nat) :
  ∃g' c' W',(Builtin.append_ #[57,57] 57 #[.slice ao l.length c,.slice W 1 1]).run Tryz.prog (W.alloc (.cells #[.int .i64 (v:Int)] 3))= .ok (.slice (some ⟨g',0,none⟩) (l.length+1) c') W'/\Row W' g' c' (ints (l++[v]))/\Only g' W W'/\(aK ao g'\/W.heap.size<=g'):=by
 have aD:(ints l).length=l.length:=gQ l;obtain⟨g',c',W',e,r,o,hg⟩:=UK.Gf (P:=Tryz.prog) (t:=57) (ty:=57) Tryz.underlying57 (i:=Tryz.t3) rfl rfl rfl (show(8:Nat)<=16 by omega) rfl h (.int .i64 (v:Int)) rfl (by rw[aD];omega);rw[aD]at e;exact⟨g',c',W',e,by unfold ints at *;rw[dO];exact r,o,hg⟩
def X3(W w':World)(x:Nd)(e:Ending):Prop:=∃nb ka va aa kc vc ac,e= .returned (.tuple #[.pointer (some ⟨nb,0,none⟩),.int .i64 0])/\aU W w' nb x ka va aa kc vc ac/\Below W W w'
theorem xmi{W:World}{db cap n:Nat}{y:List UInt8}(hy:aF W db y)(hyl:y.length=cap)(hc:504<=cap)(h0:nth y 0=2)(h1:(nth y 1).toNat=n)(hn2:2<=n)(hn:n<=40) :
  Calls Tryz.prog 207 #[.slice db 504 cap] W λ e w'=>X3 W w' ⟨false,iR y (n-1),[],nX y n⟩ e:=by
 have d0:=hy.cell (i:=0) (by omega);have d1:=hy.cell (i:=1) (by omega);rw[h0]at d0;rw[show((nth y 1).toNat:Int)=n by omega]at d1;replace d0:W.cell? db=some (.int .u8 2):=d0;have hdl:db<W.heap.size:=hy.lt;have hbx:=ay.new W #[.bool false,.slice none 0 0,.slice none 0 0,.slice none 0 0] 212
 have hn0:aU W (W.alloc (.cells #[.bool false,.slice none 0 0,.slice none 0 0,.slice none 0 0] 212)) W ⟨false,iR y 0,[],nX y 0⟩ none none none 0 0 0:=
  ⟨hbx,NR.nil,NR.nil,NR.nil,aO _,λ g hg=>(by rcases hg with h|h|h<;>cases h),λ g h=>(by cases h),λ g h=>(by cases h),λ g h=>(by cases h)⟩
 have hb0:Below W W (W.alloc (.cells #[.bool false,.slice none 0 0,.slice none 0 0,.slice none 0 0] 212)):=(aV _ _).alloc (aO _) _;have Ry:(n:Int)<=40:=by omega
 have Rz:(2:Int)<=n:=by omega
 have aao:decide ((n:Int)<=40)=true:=decide_eq_true Ry;have aap:decide ((2:Int)<=(n:Int))=true:=decide_eq_true Rz;clear hbx
 go_enter Tryz.func207,Tryz.ntmps207
 go_wp2_with fail
 go_loopw [77] (λ ix wr=>∃(j:Nat) (aa:Option Addr) (ac:Nat),ix= .int .i64 j/\j<=n/\aU W wr W ⟨false,iR y 0,[],nX y j⟩ none none aa 0 0 ac/\Below W W wr) (λ ix _=>41-(intOf ix).toNat)
 case atStart=>exact⟨0,none,0,rfl,aY _,hn0,hb0⟩
 clear hn0 hb0 d0 d1;obtain⟨j,aa,ac,rfl,hj,hno,hbl⟩:=hrel;by_cases hlt:j<n
 ·have DJ:=hy.below hbl hdl;have hN:=hbl.size;have hc2:∀w1,ay w1 W #[.bool false,.slice none (iR y 0).length 0,.slice none 0 0,.slice aa (nX y j).length ac]->w1.cell? (W.heap.size,3)=some (.slice aa j ac):=λ w1 hb=>(hb.cell 3 _ rfl).trans (by rw[ND];rfl);have c1:=hc2 _ hno.box;have hka:((uC y j:Nat):Int)<4294967296:=by have:uC y j<4294967296:=(dI ((y.drop (4+4*j)).take 4)).toNat_lt;omega
  have aaq:(0:Int)<=((uC y j:Nat):Int):=by omega
  have g1:Calls Tryz.prog 115 #[.slice (db,4+4*j) (504-(4+4*j)) (cap-(4+4*j))] wr.drew λ e w'=>e= .returned (.int .u32 ((uC y j:Nat):Int))/\∃m,w'=wr.drew.drewN m:=R3 (DJ.drew) (4+4*j) (504-(4+4*j)) (cap-(4+4*j)) (by omega) (by omega);have c1a:∀x o,((wr.drewN x).alloc o).cell? (W.heap.size,3)=some (.slice aa j ac):=λ x o=>hc2 _ ((hno.box.ae (W':=wr.drewN x) rfl).alloc o);have G1:=zH g1
  have hap:∀m,∃p:Nat×Nat×World,(Builtin.append_ #[57,57] 57 #[.slice aa j ac,.slice wr 1 1]).run Tryz.prog ((wr.drewN m).alloc (.cells #[.int .i64 ((uC y j:Nat):Int)] 3))= .ok (.slice p.1 (j+1) p.2.1) p.2.2/\p.2.2.cell? (W.heap.size,3)=some (.slice aa j ac)/\p.2.2.frozen? ⟨W.heap.size,3,none⟩=false /\
    aU W (p.2.2.setCell (W.heap.size,3) (.slice p.1 (j+1) p.2.1)) W ⟨false,iR y 0,[],nX y (j+1)⟩ none none p.1 0 0 p.2.1/\Below W W (p.2.2.setCell (W.heap.size,3) (.slice p.1 (j+1) p.2.1)):=λ m=>by
   have oO:=hno.next (W':=wr.drewN m) (UK.dK (aV _ _) m);obtain⟨g',c',w',e,r,o,hg⟩:=xx0 oO.a (by rw[ND];omega) (uC y j);rw[ND]at e;obtain⟨q1,q2,q3⟩:=oO.R4 r o hg hN;rw[<-xrq,ND]at q1 q2;exact⟨(g',c',w'),e,hc2 _ q3,q3.free 3,q1,(hbl.trans (UK.dK (aV _ _) m)).trans q2⟩
  obtain⟨G,hG⟩:=Classical.skolem.1 hap;have HG:=zH hG;have cG:=λ m=>(hG m).2.1;have fG:=λ m=>(hG m).2.2.1;clear hap hG g1 hc2;have n1:IntKind.i64.wrap (4*(j:Int))=4*(j:Int):=by rw[dJ];omega
  have n2:IntKind.i64.wrap (4+4*(j:Int))=4+4*(j:Int):=by rw[dJ];omega
  have n3:IntKind.i64.wrap ((uC y j:Nat):Int)=((uC y j:Nat):Int):=by rw[dJ];omega
  have i2:(4:Int)+4*j<=504:=by omega
  have i3:¬(cap=4+4*j):=by omega
  have i4:(4+4*(j:Int)).toNat=4+4*j:=by omega
  have i5:(0:Int)<=4+4*(j:Int):=by omega
  go_wp2_with fail
  go_region_law (first|(refine UK.aG (HG.out _).1 rfl rfl rfl (by simp[Act.eval]) (by simp[Act.eval]) ?_)|(go_simp;go_at_call 115;refine G1.out.mono ?_;rintro e w2 ⟨rfl,m,rfl⟩))
  all_goals
   go_wp2;go_roundw
   case rel=>exact⟨j+1,_,_,by go_num,by omega,(HG.out _).2.2.2.1,(HG.out _).2.2.2.2⟩
   case measure=>simp[intOf];omega
 obtain rfl:j=n:=by omega
 have hs1:(0:Int)<=(j:Int)-1:=by omega
 go_wp2_with fail
 go_loopw [99] (λ ix wr'=>∃(i:Nat) (ka:Option Addr) (kc:Nat),ix= .int .i64 i/\i<=j-1/\aU W wr' W ⟨false,iR y i,[],nX y j⟩ ka none aa kc 0 ac/\Below W W wr') (λ ix _=>41-(intOf ix).toNat)
 case atStart=>exact⟨0,none,0,rfl,aY _,hno,hbl⟩
 clear hno hbl;obtain⟨i,ka,kc,rfl,hi,hno,hbl⟩:=hrel;by_cases hlt2:i<j-1
 ·have DJ:=hy.below hbl hdl;have hN:=hbl.size;have hij:(i:Int)<(j:Int)-1:=by omega
  have hc2:∀w1,ay w1 W #[.bool false,.slice ka (iR y i).length kc,.slice none 0 0,.slice aa (nX y j).length ac]->w1.cell? (W.heap.size,1)=some (.slice ka i kc):=λ w1 hb=>(hb.cell 1 _ rfl).trans (by rw[NE];rfl);have c1:=hc2 _ hno.box;have g1:Calls Tryz.prog 202 #[.slice (db,164+8*i) (504-(164+8*i)) (cap-(164+8*i))] wr.drew λ e w'=>e= .returned (.int .u64 ((qz y (164+8*i)).toNat:Int))/\∃m,w'=wr.drew.drewN m:=R5 (DJ.drew) (164+8*i) (504-(164+8*i)) (cap-(164+8*i)) (by omega) (by omega) (by omega);have c1a:∀x o,((wr.drewN x).alloc o).cell? (W.heap.size,1)=some (.slice ka i kc):=λ x o=>hc2 _ ((hno.box.ae (W':=wr.drewN x) rfl).alloc o);have G1:=zH g1
  have hap:∀m,∃p:Nat×Nat×World,(Builtin.append_ #[88,88] 88 #[.slice ka i kc,.slice wr 1 1]).run Tryz.prog ((wr.drewN m).alloc (.cells #[.int .u64 ((qz y (164+8*i)).toNat:Int)] 77))= .ok (.slice p.1 (i+1) p.2.1) p.2.2/\p.2.2.cell? (W.heap.size,1)=some (.slice ka i kc)/\p.2.2.frozen? ⟨W.heap.size,1,none⟩=false /\
    aU W (p.2.2.setCell (W.heap.size,1) (.slice p.1 (i+1) p.2.1)) W ⟨false,iR y (i+1),[],nX y j⟩ p.1 none aa p.2.1 0 ac/\Below W W (p.2.2.setCell (W.heap.size,1) (.slice p.1 (i+1) p.2.1)):=λ m=>by
   have oO:=hno.next (W':=wr.drewN m) (UK.dK (aV _ _) m);obtain⟨g',c',w',e,r,o,hg⟩:=CY oO.k (by rw[NE];omega) (qz y (164+8*i));rw[NE]at e;obtain⟨q1,q2,q3⟩:=oO.KO r o hg hN;rw[<-xu6,NE]at q1 q2;exact⟨(g',c',w'),e,hc2 _ q3,q3.free 1,q1,(hbl.trans (UK.dK (aV _ _) m)).trans q2⟩
  obtain⟨G,hG⟩:=Classical.skolem.1 hap;have HG:=zH hG;have cG:=λ m=>(hG m).2.1;have fG:=λ m=>(hG m).2.2.1;clear hap hG g1 hc2;have n1:IntKind.i64.wrap (8*(i:Int))=8*(i:Int):=by rw[dJ];omega
  have n2:IntKind.i64.wrap (164+8*(i:Int))=164+8*(i:Int):=by rw[dJ];omega
  have i2:(164:Int)+8*i<=504:=by omega
  have i3:¬(cap=164+8*i):=by omega
  have i4:(164+8*(i:Int)).toNat=164+8*i:=by omega
  have i5:(0:Int)<=164+8*(i:Int):=by omega
  go_wp2_with fail
  go_region_law (first|(refine UK.aG (HG.out _).1 rfl rfl rfl (by simp[Act.eval]) (by simp[Act.eval]) ?_)|(go_simp;go_at_call 202;refine G1.out.mono ?_;rintro e w2 ⟨rfl,m,rfl⟩))
  all_goals
   go_wp2;go_roundw
   case rel=>exact⟨i+1,_,_,by go_num,by omega,(HG.out _).2.2.2.1,(HG.out _).2.2.2.2⟩
   case measure=>simp[intOf];omega
 obtain rfl:i=j-1:=by omega
 have hij:¬(((j-1:Nat):Int)<(j:Int)-1):=by omega
 go_wp2;go_ret2
 exact⟨W.heap.size,ka,none,aa,kc,0,ac,rfl,hno,hbl⟩
theorem xrr{W:World}{db cap:Nat}{y:List UInt8}{x:Nd}(hy:aF W db y)(hyl:y.length=cap)(hc:504<=cap)(hx:l7 y=some x) :
  Calls Tryz.prog 207 #[.slice db 504 cap] W λ e w'=>X3 W w' x e:=by
 unfold l7 at hx
 split at hx
 ·rename_i h
  obtain rfl:=aZ hx;refine(X4 hy hyl hc h.1 rfl h.2).mono ?_;rintro e w' ⟨nb,ka,va,kc,vc,rfl,h1,h2⟩;exact⟨nb,ka,va,none,kc,vc,0,rfl,h1,h2⟩
 split at hx
 ·rename_i h
  obtain rfl:=aZ hx;exact xmi hy hyl hc h.1 rfl h.2.1 h.2.2
 cases hx
section
variable{E:Nat->Prop}{W W':World}{P D T k pg n:Nat}{root:Int}{A:AP}{x:Nd}
def yav(E:Nat->Prop)(W w':World)(P D:Nat)(A:AP)(k:Nat)(x:Nd)(e:Ending):Prop:=
 ∃N M nb ka va aa kc vc ac,e= .returned (.tuple #[.pointer (some ⟨nb,0,none⟩),.int .i64 0])/\W.heap.size<=N/\M<=w'.heap.size/\xH N M w' nb x ka va aa kc vc ac/\PZ (λ j=>E j\/(N<=j/\j<M)) w' P D A k/\Kept E W w'
theorem Az(h:PZ E W P D A k)(hk:k+2<900000000)(hb:ay W T #[.pointer P,.int .i64 root])(hp:A.Has pg)(hy:aB A pg=some x) :
  Calls Tryz.prog 156 #[.pointer T,.int .i64 pg] W λ e w'=>yav E W w' P D A (k+2) x e:=by
 have c0:=hb.c0;have HP:=zH (Jt h hk pg hp);clear h hb
 go_enter_defers Tryz.func156,Tryz.ntmps156
 go_wp2_with fail
 refine HP.out.mono ?_;rintro e w1 ⟨fb,db,cap,rfl,p1,k1⟩;have HB:=zH (yK p1);obtain⟨y,y1,y2,y3,y4,y5⟩:=p1.bytes
 have hy2:l7 y=some x:=by
  rw[<-xxz,y3];exact hy
 have hD:=xrr y1 y2 y4 hy2;have HD:=zH hD;have H1:=zH (zA p1 k1);clear HP p1 k1 y1 y2 y3 y4 y5 hy2 hD c0
 go_wp2_with fail
 refine HB.out.mono ?_;rintro e w2 ⟨rfl,rfl⟩
 go_wp2_with fail
 refine HD.out.mono ?_;rintro e w3 ⟨nb,ka,va,aa,kc,vc,ac,rfl,hn,hbl⟩;obtain⟨p1,k1⟩:=H1.out
 have hlt:∀g,aK ka g\/aK va g\/aK aa g->g<w3.heap.size:=λ g hg=>by
  rcases hg with h|h|h
  ·exact hn.k.lt h
  ·exact hn.v.lt h
  exact hn.a.lt h
 have hnb:=hn.box.lt;have p3:=p1.wide hbl (T:=λ j=>E j\/(w2.heap.size<=j/\j<w3.heap.size)) (λ j hj=>hj);have k3:=k1.trans (p1.kept hbl);have hs2:=k1.size;have HU:=zH (BF .returning p3);have HN:=zH (zA hn (zA hlt (zA hnb (zA k3 hs2))));clear HB HD H1 p1 k1 hn hbl hlt hnb p3 k3 hs2;go_wp2;refine leaves_cons (f:=65) (args:= #[.pointer fb]) (by simp) (by simp[go_sem]) ?_;refine HU.out.mono ?_;rintro e u' w4 ⟨rfl,rfl,p4,k4⟩;obtain⟨hn,hlt,hnb,k3,hs2⟩:=HN.out;refine⟨_,results_tmp2 rfl _ _ _,?_⟩;refine⟨w2.heap.size,w3.heap.size,nb,ka,va,aa,kc,vc,ac,rfl,hs2,k4.size,⟨hn.ae k4.size (λ g h1 h2=>k4.block g (.inr ⟨h1,h2⟩)),hnb,hlt⟩,p4,k3.trans (k4.mono (λ j hj=>.inl hj))⟩
theorem cB{nb:Nat}{x:Nd}(h:PZ E W P D A k)(hk:k+3<900000000)(hb:ay W T #[.pointer P,.int .i64 root])(hp:A.Has pg)(hn:jD E W nb x)(hx:Fits x) :
  Calls Tryz.prog 150 #[.pointer T,.int .i64 pg,.pointer nb] W λ e w'=>e= .returned (.int .i64 0)/\PZ E w' P D (A.ak pg (aS (A.c pg) x)) (k+3)/\Kept E W w':=by
 have c0:=hb.c0;have HP:=zH (Jt h (by omega) pg hp);clear h hb
 go_enter_defers Tryz.func150,Tryz.ntmps150
 go_wp2_with fail
 refine HP.out.mono ?_;rintro e w1 ⟨fb,db,cap,rfl,p1,k1⟩;have HE:=zH (yI p1 (by omega));have rM:=zH (zA (hn.kept k1) k1);clear HP p1 k1 c0 hn
 go_wp2_with fail
 refine HE.out.mono ?_;rintro e w2 ⟨rfl,p2,k2⟩;obtain⟨bi,k1⟩:=rM.out;have hn2:=bi.kept k2;obtain⟨y,y1,y2,y3,y4,y5⟩:=p2.bytes;have HX:=zH (X0 hn2 hx y1 y2 y4 y5);have hy3:y.take 504=A.c pg:=y3;have htk:=Xw y x (by omega) hx;rw[hy3]at htk;have hle:=tO y x (by omega) hx;have H2:=zH (zA p2 (zA (k1.trans k2) (zA htk (hle.trans y2))));clear HE rM bi hn2 k1 k2 p2 y1 y2 y3 y4 y5 hy3 htk hle
 go_wp2_with fail
 refine HX.out.mono ?_;rintro e w3 ⟨rfl,b3,o3⟩;obtain⟨p2,k2,htk,hle⟩:=H2.out;obtain⟨p3,k3⟩:=p2.write o3 b3 hle;rw[htk]at p3;have HU:=zH (BF .returning p3);have K3:=zH (k2.trans k3);clear HX H2 p2 k2 htk hle p3 k3 b3 o3;go_wp2;refine leaves_cons (f:=65) (args:= #[.pointer fb]) (by simp) (by simp[go_sem]) ?_;refine HU.out.mono ?_;rintro e u' w4 ⟨rfl,rfl,p4,k4⟩;refine⟨_,results_tmp rfl _ _ _,rfl,p4,K3.out.trans k4⟩
theorem X5{nb:Nat}{x:Nd}(h:PZ E W P D A k)(hk:k+3<900000000)(hb:ay W T #[.pointer P,.int .i64 root])(hf:¬A.Full)(hn:jD E W nb x)(hx:Fits x) :
  Calls Tryz.prog 181 #[.pointer T,.pointer nb] W λ e w'=>e= .returned (.tuple #[.int .i64 A.next,.int .i64 0])/\PZ E w' P D (A.take.ak A.next (aS (UK.bF 504) x)) (k+3)/\Kept E W w':=by
 have c0:=hb.c0;have HP:=zH (GA h (by omega) hf);clear h hb
 go_enter_defers Tryz.func181,Tryz.ntmps181
 go_wp2_with fail
 refine HP.out.mono ?_;rintro e w1 ⟨fb,db,cap,rfl,p1,k1⟩;have HE:=zH (yI p1 (by omega));have rM:=zH (zA (hn.kept k1) k1);clear HP p1 k1 c0 hn
 go_wp2_with fail
 refine HE.out.mono ?_;rintro e w2 ⟨rfl,p2,k2⟩;obtain⟨bi,k1⟩:=rM.out;have hn2:=bi.kept k2;obtain⟨y,y1,y2,y3,y4,y5⟩:=p2.bytes;have HX:=zH (X0 hn2 hx y1 y2 y4 y5);have hy3:y.take 504=UK.bF 504:=y3.trans (by show bS A.c A.next (UK.bF 504) A.next=_;unfold bS;rw[if_pos rfl]);have htk:=Xw y x (by omega) hx;rw[hy3]at htk;have hle:=tO y x (by omega) hx;have H2:=zH (zA p2 (zA (k1.trans k2) (zA htk (hle.trans y2))));clear HE rM bi hn2 k1 k2 p2 y1 y2 y3 y4 y5 hy3 htk hle
 go_wp2_with fail
 refine HX.out.mono ?_;rintro e w3 ⟨rfl,b3,o3⟩;obtain⟨p2,k2,htk,hle⟩:=H2.out;obtain⟨p3,k3⟩:=p2.write o3 b3 hle;rw[htk]at p3;have HG:=zH (GD p3);have HU:=zH (BF .returning p3);have K3:=zH (k2.trans k3);clear HX H2 p2 k2 htk hle p3 k3 b3 o3
 go_wp2_with fail
 refine HG.out.mono ?_;rintro e w4 ⟨rfl,rfl⟩;go_wp2;refine leaves_cons (f:=65) (args:= #[.pointer fb]) (by simp) (by simp[go_sem]) ?_;refine HU.out.mono ?_;rintro e u' w4 ⟨rfl,rfl,p4,k4⟩;refine⟨_,results_tmp2 rfl _ _ _,rfl,p4,K3.out.trans k4⟩
theorem X6{nb:Nat}(h:PZ E W P D A k)(hk:k+3<900000000)(hb:ay W T #[.pointer P,.int .i64 root])(hf:A.Full) :
  Calls Tryz.prog 181 #[.pointer T,.pointer nb] W λ e w'=>e= .returned (.tuple #[.int .i64 0,.int .i64 6])/\PZ E w' P D A (k+3)/\Kept E W w':=by
 have c0:=hb.c0;have HP:=zH (Qg h (by omega) hf);clear h hb
 go_enter_defers Tryz.func181,Tryz.ntmps181
 go_wp2_with fail
 refine HP.out.mono ?_;rintro e w1 ⟨rfl,p1,k1⟩;have H1:=zH (zA (p1.up (m:=k+3) (by omega)) k1);clear p1 k1 HP c0;go_wp2;refine⟨_,results_tmp2 rfl _ _ _,rfl,H1.out.1,H1.out.2⟩
end
end Go.Proofs.YtgpmiliahonaoaaGreatDoor
