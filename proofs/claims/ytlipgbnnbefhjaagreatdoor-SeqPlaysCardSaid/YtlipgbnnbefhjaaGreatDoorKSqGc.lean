/- Facts on rows of numbers on pages. -/
import Derived.Test.YtlipgbnnbefhjaaGreatDoorKSqFc
set_option maxRecDepth 100000
set_option maxHeartbeats 8000000
set_option linter.unusedSimpArgs false
namespace Go.Proofs.YtlipgbnnbefhjaaGreatDoor
open Go.RowKit
open UK (str aO nth Only Row aI)
def RV(W w':World)(x:Sn)(e:Ending):Prop:=∃nb ka va aa kc vc ac,e= .returned (.tuple #[.pointer (some ⟨nb,0,none⟩),.int .i64 0])/\lS W w' nb x ka va aa kc vc ac/\Below W W w'
theorem xm0{W:World}{db cap n:Nat}{y:List UInt8}(hy:aO W db y)(hyl:y.length=cap)(hc:504<=cap)(h0:nth y 0=1)(h1:(nth y 1).toNat=n)(hn:n<=48) :
  Calls Tryz.prog 72 #[.slice db 504 cap] W λ e w'=>RV W w' ⟨true,n32 y 4,jL y n,[],[]⟩ e:=by
 have d0:=hy.cell (i:=0) (by omega);have d1:=hy.cell (i:=1) (by omega);rw[h0]at d0;rw[show((nth y 1).toNat:Int)=n by omega]at d1;replace d0:W.cell? db=some (.int .u8 1):=d0;have hdl:db<W.heap.size:=hy.lt;have d0':∀m,((W.drew).drewN m).cell? db=some (.int .u8 1):=λ m=>d0;have RY:((n32 y 4:Nat):Int)<4294967296:=by have:=CW y 4;omega
 have g4:Calls Tryz.prog 48 #[.slice (db,4) 500 (cap-4)] W.drew λ e w'=>e= .returned (.int .u32 ((n32 y 4:Nat):Int))/\∃m,w'=W.drew.drewN m:=EI (hy.drew) 4 500 (cap-4) (by omega) (by omega);have hb0:∀m,Below W W ((W.drew).drewN m):=λ m=>UK.aG ((aP _ _).drew) m;generalize hup:n32 y 4=up at *;have hu0:(0:Int)<=(up:Int):=by omega
 have uw:IntKind.i64.wrap (up:Int)=(up:Int):=by rw[bN];omega
 have i3:¬(cap=4):=by omega
 have KZ:=zH g4;have HB0:=zH hb0;have HY:=zH (zA hy (zA hyl hup));clear g4 hb0 hy hup hyl
 go_enter Tryz.func72,Tryz.ntmps72
 go_upto_region 2 with(fail)
 go_cut [5] (λ nv wx=>nv= .pointer W.heap.size/\lS W wx W ⟨true,up,[],[],[]⟩ none none none 0 0 0/\Below W W wx)
 case first=>
  go_wp2_with fail
  go_region_with (first|(go_at_call 48;refine KZ.out.mono ?_;rintro e w2 ⟨rfl,m,rfl⟩))
  all_goals
   go_wp2;go_meet
   have hbl:∀q,Below W W ((W.drewN q).alloc (.cells #[.bool true,.int .i64 (up:Int),.slice none 0 0,.slice none 0 0,.slice none 0 0] 75)):=λ q=>(UK.aG (aP W W) q).alloc (UK.aG (aP W W) q).size _;exact⟨rfl,⟨aI.new _ _ _,NR.nil,NR.nil,NR.nil,aZ _,λ g hg=>(by rcases hg with h|h|h<;>cases h),λ g h=>(by cases h),λ g h=>(by cases h),λ g h=>(by cases h)⟩,hbl _⟩
 case rest=>
 obtain⟨rfl,vT,vU⟩:=hcut;obtain⟨hy,hyl,hup⟩:=HY.out;have hy2:=hy.below vU hdl;have d2:=hy2.cell (i:=0) (by omega);rw[h0]at d2;replace d2:wc.cell? db=some (.int .u8 1):=d2;have HM:=zH (EG vT.node);have hmo:Sn.ax ⟨true,up,[],[],[]⟩=48:=rfl;rw[hmo]at HM;have hnn:(n:Int)<=48:=by omega
 clear d0 d1 d0' KZ HB0 hmo uw hy2 RY hu0 i3
 go_wp2_with fail
 refine HM.out.mono ?_;rintro e w3 ⟨rfl,hw3⟩;subst hw3;clear HM d2
 go_wp2_with fail
 go_loopw [38] (λ ix wr=>∃(j:Nat) (ka:Option Addr) (kc:Nat),ix= .int .i64 j/\j<=n/\lS W wr W ⟨true,up,jL y j,[],[]⟩ ka none none kc 0 0/\Below W W wr) (λ ix _=>49-(intOf ix).toNat)
 case atStart=>exact⟨0,none,0,rfl,bY _,vT,vU⟩
 clear vT vU;obtain⟨j,ka,kc,rfl,hj,hno,hbl⟩:=hrel;have c0:=hno.box.c0;by_cases hlt:j<n
 ·have vV:=hy.below hbl hdl;have hN:=hbl.size;have hc2:∀w1,aI w1 W #[.bool true,.int .i64 (up:Int),.slice ka (jL y j).length kc,.slice none 0 0,.slice none 0 0]->w1.cell? (W.heap.size,2)=some (.slice ka j kc):=λ w1 hb=>(hb.cell 2 _ rfl).trans (by rw[O0];rfl);have c1:=hc2 _ hno.box;have g1:Calls Tryz.prog 114 #[.slice (db,8+8*j) (504-(8+8*j)) (cap-(8+8*j))] wr.drew λ e w'=>e= .returned (.int .u64 ((oQ y (8+8*j)).toNat:Int))/\∃m,w'=wr.drew.drewN m:=O4 (vV.drew) (8+8*j) (504-(8+8*j)) (cap-(8+8*j)) (by omega) (by omega) (by omega);have c1a:∀x o,((wr.drewN x).alloc o).cell? (W.heap.size,2)=some (.slice ka j kc):=λ x o=>hc2 _ ((hno.box.af (W':=wr.drewN x) rfl).alloc o);have G1:=zH g1
  have hap:∀m,∃p:Nat×Nat×World,(Builtin.append_ #[27,27] 27 #[.slice ka j kc,.slice wr 1 1]).run Tryz.prog ((wr.drewN m).alloc (.cells #[.int .u64 ((oQ y (8+8*j)).toNat:Int)] 32))= .ok (.slice p.1 (j+1) p.2.1) p.2.2/\p.2.2.cell? (W.heap.size,2)=some (.slice ka j kc)/\p.2.2.frozen? ⟨W.heap.size,2,none⟩=false /\
    lS W (p.2.2.setCell (W.heap.size,2) (.slice p.1 (j+1) p.2.1)) W ⟨true,up,jL y (j+1),[],[]⟩ p.1 none none p.2.1 0 0/\Below W W (p.2.2.setCell (W.heap.size,2) (.slice p.1 (j+1) p.2.1)):=λ m=>by
   have iK:=hno.next (W':=wr.drewN m) (UK.aG (aP _ _) m);obtain⟨g',c',w',e,r,o,hg⟩:=O5 iK.k (by rw[O0];omega) (oQ y (8+8*j));rw[O0]at e;obtain⟨q1,q2,q3⟩:=iK.uD r o hg hN;rw[<-xt1,O0]at q1 q2;exact⟨(g',c',w'),e,hc2 _ q3,q3.free 2,q1,(hbl.trans (UK.aG (aP _ _) m)).trans q2⟩
  obtain⟨G,hG⟩:=Classical.skolem.1 hap;have HG:=zH hG;have cG:=λ m=>(hG m).2.1;have fG:=λ m=>(hG m).2.2.1;clear hap hG g1 hc2;have n1:IntKind.i64.wrap (8*(j:Int))=8*(j:Int):=by rw[bN];omega
  have n2:IntKind.i64.wrap (8+8*(j:Int))=8+8*(j:Int):=by rw[bN];omega
  have i2:(8:Int)+8*j<=504:=by omega
  have XX:¬(cap=8+8*j):=by omega
  have i4:(8+8*(j:Int)).toNat=8+8*j:=by omega
  have i5:(0:Int)<=8+8*(j:Int):=by omega
  go_wp2_with fail
  go_region_law (first|(refine UK.aB (HG.out _).1 rfl rfl rfl (by simp[Act.eval]) (by simp[Act.eval]) ?_)|(go_simp;go_at_call 114;refine G1.out.mono ?_;rintro e w2 ⟨rfl,m,rfl⟩))
  all_goals
   go_wp2;go_roundw
   case rel=>exact⟨j+1,_,_,by go_num,by omega,(HG.out _).2.2.2.1,(HG.out _).2.2.2.2⟩
   case measure=>simp[intOf];omega
 obtain rfl:j=n:=by omega
 go_wp2;go_ret2
 exact⟨W.heap.size,ka,none,none,kc,0,0,rfl,hno,hbl⟩
theorem xlj{W:World}{db cap n:Nat}{y:List UInt8}(hy:aO W db y)(hyl:y.length=cap)(hc:504<=cap)(h0:nth y 0=2)(h1:(nth y 1).toNat=n)(hn:n<=40) :
  Calls Tryz.prog 72 #[.slice db 504 cap] W λ e w'=>RV W w' ⟨false,n32 y 4,[],pJ y n,iI y n⟩ e:=by
 have d0:=hy.cell (i:=0) (by omega);have d1:=hy.cell (i:=1) (by omega);rw[h0]at d0;rw[show((nth y 1).toNat:Int)=n by omega]at d1;replace d0:W.cell? db=some (.int .u8 2):=d0;have hdl:db<W.heap.size:=hy.lt;have d0':∀m,((W.drew).drewN m).cell? db=some (.int .u8 2):=λ m=>d0;have RY:((n32 y 4:Nat):Int)<4294967296:=by have:=CW y 4;omega
 have g4:Calls Tryz.prog 48 #[.slice (db,4) 500 (cap-4)] W.drew λ e w'=>e= .returned (.int .u32 ((n32 y 4:Nat):Int))/\∃m,w'=W.drew.drewN m:=EI (hy.drew) 4 500 (cap-4) (by omega) (by omega);have hb0:∀m,Below W W ((W.drew).drewN m):=λ m=>UK.aG ((aP _ _).drew) m;generalize hup:n32 y 4=up at *;have hu0:(0:Int)<=(up:Int):=by omega
 have uw:IntKind.i64.wrap (up:Int)=(up:Int):=by rw[bN];omega
 have i3:¬(cap=4):=by omega
 have KZ:=zH g4;have HB0:=zH hb0;have HY:=zH (zA hy (zA hyl hup));clear g4 hb0 hy hup hyl
 go_enter Tryz.func72,Tryz.ntmps72
 go_upto_region 2 with(fail)
 go_cut [5] (λ nv wx=>nv= .pointer W.heap.size/\lS W wx W ⟨false,up,[],[],[]⟩ none none none 0 0 0/\Below W W wx)
 case first=>
  go_wp2_with fail
  go_region_with (first|(go_at_call 48;refine KZ.out.mono ?_;rintro e w2 ⟨rfl,m,rfl⟩))
  all_goals
   go_wp2;go_meet
   have hbl:∀q,Below W W ((W.drewN q).alloc (.cells #[.bool false,.int .i64 (up:Int),.slice none 0 0,.slice none 0 0,.slice none 0 0] 75)):=λ q=>(UK.aG (aP W W) q).alloc (UK.aG (aP W W) q).size _;exact⟨rfl,⟨aI.new _ _ _,NR.nil,NR.nil,NR.nil,aZ _,λ g hg=>(by rcases hg with h|h|h<;>cases h),λ g h=>(by cases h),λ g h=>(by cases h),λ g h=>(by cases h)⟩,hbl _⟩
 case rest=>
 obtain⟨rfl,vT,vU⟩:=hcut;obtain⟨hy,hyl,hup⟩:=HY.out;have hy2:=hy.below vU hdl;have d2:=hy2.cell (i:=0) (by omega);rw[h0]at d2;replace d2:wc.cell? db=some (.int .u8 2):=d2;have HM:=zH (EG vT.node);have hmo:Sn.ax ⟨false,up,[],[],[]⟩=40:=rfl;rw[hmo]at HM;have hnn:(n:Int)<=40:=by omega
 clear d0 d1 d0' KZ HB0 hmo uw hy2 RY hu0 i3
 go_wp2_with fail
 refine HM.out.mono ?_;rintro e w3 ⟨rfl,hw3⟩;subst hw3;clear HM d2
 go_wp2_with fail
 go_loopw [38] (λ ix wr=>∃(j:Nat) (va aa:Option Addr) (vc ac:Nat),ix= .int .i64 j/\j<=n/\lS W wr W ⟨false,up,[],pJ y j,iI y j⟩ none va aa 0 vc ac/\Below W W wr) (λ ix _=>49-(intOf ix).toNat)
 case atStart=>exact⟨0,none,none,0,0,rfl,bY _,vT,vU⟩
 clear vT vU;obtain⟨j,va,aa,vc,ac,rfl,hj,hno,hbl⟩:=hrel;have c0:=hno.box.c0;by_cases hlt:j<n
 ·have vV:=hy.below hbl hdl;have hN:=hbl.size
  go_upto_region 10 with(fail)
  go_cut [] (λ wx=>∃(va:Option Addr) (vc:Nat),lS W wx W ⟨false,up,[],pJ y (j+1),iI y j⟩ none va aa 0 vc ac/\Below W W wx)
  case first=>
   have hc2:∀w1,aI w1 W #[.bool false,.int .i64 (up:Int),.slice none 0 0,.slice va (pJ y j).length vc,.slice aa (iI y j).length ac]->w1.cell? (W.heap.size,3)=some (.slice va j vc):=λ w1 hb=>(hb.cell 3 _ rfl).trans (by rw[O1];rfl);have c1:=hc2 _ hno.box;have g1:Calls Tryz.prog 48 #[.slice (db,8+8*j) (504-(8+8*j)) (cap-(8+8*j))] wr.drew λ e w'=>e= .returned (.int .u32 ((n32 y (8+8*j):Nat):Int))/\∃m,w'=wr.drew.drewN m:=EI (vV.drew) (8+8*j) (504-(8+8*j)) (cap-(8+8*j)) (by omega) (by omega);have c1a:∀x o,((wr.drewN x).alloc o).cell? (W.heap.size,3)=some (.slice va j vc):=λ x o=>hc2 _ ((hno.box.af (W':=wr.drewN x) rfl).alloc o);have G1:=zH g1;have hka:((n32 y (8+8*j):Nat):Int)<4294967296:=by have:=CW y (8+8*j);omega
   have Lb:(0:Int)<=((n32 y (8+8*j):Nat):Int):=by omega
   have n3:IntKind.i64.wrap ((n32 y (8+8*j):Nat):Int)=((n32 y (8+8*j):Nat):Int):=by rw[bN];omega
   have hap:∀m,∃p:Nat×Nat×World,(Builtin.append_ #[73,73] 73 #[.slice va j vc,.slice wr 1 1]).run Tryz.prog ((wr.drewN m).alloc (.cells #[.int .i64 ((n32 y (8+8*j):Nat):Int)] 3))= .ok (.slice p.1 (j+1) p.2.1) p.2.2/\p.2.2.cell? (W.heap.size,3)=some (.slice va j vc)/\p.2.2.frozen? ⟨W.heap.size,3,none⟩=false /\
     lS W (p.2.2.setCell (W.heap.size,3) (.slice p.1 (j+1) p.2.1)) W ⟨false,up,[],pJ y (j+1),iI y j⟩ none p.1 aa 0 p.2.1 ac/\Below W W (p.2.2.setCell (W.heap.size,3) (.slice p.1 (j+1) p.2.1)):=λ m=>by
    have iK:=hno.next (W':=wr.drewN m) (UK.aG (aP _ _) m);obtain⟨g',c',w',e,r,o,hg⟩:=RZ iK.v (by rw[O1];omega) (n32 y (8+8*j));rw[O1]at e;obtain⟨q1,q2,q3⟩:=iK.yl r o hg hN;rw[<-xrc,O1]at q1 q2;exact⟨(g',c',w'),e,hc2 _ q3,q3.free 3,q1,(hbl.trans (UK.aG (aP _ _) m)).trans q2⟩
   obtain⟨G,hG⟩:=Classical.skolem.1 hap;have HG:=zH hG;have cG:=λ m=>(hG m).2.1;have fG:=λ m=>(hG m).2.2.1;clear hap hG g1 hc2;have n1:IntKind.i64.wrap (8*(j:Int))=8*(j:Int):=by rw[bN];omega
   have n2:IntKind.i64.wrap (8+8*(j:Int))=8+8*(j:Int):=by rw[bN];omega
   have i2:(8:Int)+8*j<=504:=by omega
   have XX:¬(cap=8+8*j):=by omega
   have i4:(8+8*(j:Int)).toNat=8+8*j:=by omega
   have i5:(0:Int)<=8+8*(j:Int):=by omega
   go_wp2_with fail
   go_region_law (first|(refine UK.aB (HG.out _).1 rfl rfl rfl (by simp[Act.eval]) (by simp[Act.eval]) ?_)|(go_simp;go_at_call 48;refine G1.out.mono ?_;rintro e w2 ⟨rfl,m,rfl⟩))
   all_goals
    go_wp2;go_meet
    case rel=>exact⟨_,_,(HG.out _).2.2.2.1,(HG.out _).2.2.2.2⟩
  clear hno hbl vV hN c0;obtain⟨va,vc,hno,hbl⟩:=hcut;obtain⟨wr,hwr⟩:∃w,wc=w:=⟨_,rfl⟩;rw[hwr]at hno hbl ⊢;clear hwr;have vV:=hy.below hbl hdl;have hN:=hbl.size;have hc2:∀w1,aI w1 W #[.bool false,.int .i64 (up:Int),.slice none 0 0,.slice va (pJ y (j+1)).length vc,.slice aa (iI y j).length ac]->w1.cell? (W.heap.size,4)=some (.slice aa j ac):=λ w1 hb=>(hb.cell 4 _ rfl).trans (by rw[O3];rfl);have c1:=hc2 _ hno.box;have g1:Calls Tryz.prog 48 #[.slice (db,12+8*j) (504-(12+8*j)) (cap-(12+8*j))] wr.drew λ e w'=>e= .returned (.int .u32 ((n32 y (12+8*j):Nat):Int))/\∃m,w'=wr.drew.drewN m:=EI (vV.drew) (12+8*j) (504-(12+8*j)) (cap-(12+8*j)) (by omega) (by omega);have c1a:∀x o,((wr.drewN x).alloc o).cell? (W.heap.size,4)=some (.slice aa j ac):=λ x o=>hc2 _ ((hno.box.af (W':=wr.drewN x) rfl).alloc o);have G1:=zH g1;have hka:((n32 y (12+8*j):Nat):Int)<4294967296:=by have:=CW y (12+8*j);omega
  have Lb:(0:Int)<=((n32 y (12+8*j):Nat):Int):=by omega
  have n3:IntKind.i64.wrap ((n32 y (12+8*j):Nat):Int)=((n32 y (12+8*j):Nat):Int):=by rw[bN];omega
  have hap:∀m,∃p:Nat×Nat×World,(Builtin.append_ #[73,73] 73 #[.slice aa j ac,.slice wr 1 1]).run Tryz.prog ((wr.drewN m).alloc (.cells #[.int .i64 ((n32 y (12+8*j):Nat):Int)] 3))= .ok (.slice p.1 (j+1) p.2.1) p.2.2/\p.2.2.cell? (W.heap.size,4)=some (.slice aa j ac)/\p.2.2.frozen? ⟨W.heap.size,4,none⟩=false /\
    lS W (p.2.2.setCell (W.heap.size,4) (.slice p.1 (j+1) p.2.1)) W ⟨false,up,[],pJ y (j+1),iI y (j+1)⟩ none va p.1 0 vc p.2.1/\Below W W (p.2.2.setCell (W.heap.size,4) (.slice p.1 (j+1) p.2.1)):=λ m=>by
   have iK:=hno.next (W':=wr.drewN m) (UK.aG (aP _ _) m);obtain⟨g',c',w',e,r,o,hg⟩:=RZ iK.a (by rw[O3];omega) (n32 y (12+8*j));rw[O3]at e;obtain⟨q1,q2,q3⟩:=iK.yn r o hg hN;rw[<-xt2,O3]at q1 q2;exact⟨(g',c',w'),e,hc2 _ q3,q3.free 4,q1,(hbl.trans (UK.aG (aP _ _) m)).trans q2⟩
  obtain⟨G,hG⟩:=Classical.skolem.1 hap;have HG:=zH hG;have cG:=λ m=>(hG m).2.1;have fG:=λ m=>(hG m).2.2.1;clear hap hG g1 hc2;have n1:IntKind.i64.wrap (8*(j:Int))=8*(j:Int):=by rw[bN];omega
  have n2:IntKind.i64.wrap (12+8*(j:Int))=12+8*(j:Int):=by rw[bN];omega
  have i2:(12:Int)+8*j<=504:=by omega
  have XX:¬(cap=12+8*j):=by omega
  have i4:(12+8*(j:Int)).toNat=12+8*j:=by omega
  have i5:(0:Int)<=12+8*(j:Int):=by omega
  go_wp2_with fail
  go_region_law (first|(refine UK.aB (HG.out _).1 rfl rfl rfl (by simp[Act.eval]) (by simp[Act.eval]) ?_)|(go_simp;go_at_call 48;refine G1.out.mono ?_;rintro e w2 ⟨rfl,m,rfl⟩))
  all_goals
   go_wp2;go_roundw
   case rel=>exact⟨j+1,_,_,_,_,by go_num,by omega,(HG.out _).2.2.2.1,(HG.out _).2.2.2.2⟩
   case measure=>simp[intOf];omega
 obtain rfl:j=n:=by omega
 go_wp2;go_ret2
 exact⟨W.heap.size,none,va,aa,0,vc,ac,rfl,hno,hbl⟩
theorem xw7{W:World}{db cap:Nat}{y:List UInt8}{x:Sn}(hy:aO W db y)(hyl:y.length=cap)(hc:504<=cap)(hx:jT y=some x) :
  Calls Tryz.prog 72 #[.slice db 504 cap] W λ e w'=>RV W w' x e:=by
 unfold jT at hx
 split at hx
 ·rename_i h
  obtain rfl:=bC hx;exact xm0 hy hyl hc h.1 rfl h.2
 split at hx
 ·rename_i h
  obtain rfl:=bC hx;exact xlj hy hyl hc h.1 rfl h.2
 cases hx
end Go.Proofs.YtlipgbnnbefhjaaGreatDoor
