/- Facts on texts on pages. -/
import Derived.Test.YtgpmiliahonaoaaGreatDoorKTrBc
set_option maxRecDepth 100000
set_option maxHeartbeats 8000000
set_option linter.unusedSimpArgs false
open Go.Value renaming bool->a6,int->V,pointer->aq,slice->ad,tuple->a9
open Go.IntKind renaming i64->U,u64->a7
open List renaming length->Y
open Go.Ending renaming returned->aw
open Or renaming inl->O,inr->al
open Go.Proofs.Tryz
namespace Go.Proofs.YtgpmiliahonaoaaGreatDoor
open Go.RowKit
open UK (str aF nth Only Row ay)
variable{W:World}{e:Option Addr}{c a cap nb:Nat}{l:List Nat}{y:List UInt8}{x:Nd}{E:Nat->Prop}{root:Int}
theorem QX(y:List UInt8)(n:Nat):(pE y n).length=n:=by simp[pE]
theorem QY(y:List UInt8)(n:Nat):(jD y n).length=n:=by simp[jD]
theorem Kk(y:List UInt8)(n:Nat):pE y (n+1)=pE y n++[vW y n]:=by simp[pE,List.range_succ]
theorem Cd(y:List UInt8)(n:Nat):jD y (n+1)=jD y n++[rQ y (164+8*n)]:=by simp[jD,List.range_succ]
theorem EE(h:NR W e c (ints l))(j:Y l<1000000)(v:Nat) :
  ∃a d b,(Builtin.append_ #[57,57] 57 #[ad e (Y l) c,ad W 1 1]).run prog (W.alloc (.cells #[V U (v:Int)] 3))= .ok (ad (some ⟨a,0,none⟩) (Y l+1) d) b/\Row b a d (ints (l++[v]))/\Only a W b/\(aG e a\/W.1.size<=a):=by
 have f:(ints l).length=Y l:=iC l;obtain⟨a,d,b,g,r,o,i⟩:=UK.J8 (P:=prog) (t:=57) (ty:=57) underlying57 (i:=t3) rfl rfl rfl (show(8:Nat)<=16 from Z) rfl h (V U (v:Int)) rfl (by rw[f];omega);rw[f]at g;exact⟨a,d,b,g,by unfold ints at *;rw[dI];exact r,o,i⟩
def gh(W a:World)(x:Nd)(e:Ending):Prop:=∃nb f d h b c g,e=aw (a9 #[aq (some ⟨nb,0,none⟩),V U 0])/\aZ W a nb x f d h b c g/\Below W W a
theorem sy{n:Nat}(A:aF W a y)(h7:Y y=cap)(hc:504<=cap)(h0:nth y 0=2)(h1:(nth y 1).toNat=n)(h5:2<=n)(hn:n<=40) :
  Calls prog 207 #[ad a 504 cap] W λ e l=>gh W l ⟨false,jD y (n-1),[],pE y n⟩ e:=by
 have H:=A.cell (i:=0) Z;have Q:=A.cell (i:=1) Z;rw[h0]at H;rw[show((nth y 1).toNat:Int)=n from Z]at Q;replace H:W.cell? a=some (V .u8 2):=H;have P:a<W.1.size:=A.lt;have S:=ay.new W #[a6 false,ad none 0 0,ad none 0 0,ad none 0 0] 212
 have R:aZ W (W.alloc (.cells #[a6 false,ad none 0 0,ad none 0 0,ad none 0 0] 212)) W ⟨false,jD y 0,[],pE y 0⟩ none none none 0 0 0:=
  ⟨S,NR.nil,NR.nil,NR.nil,aH _,λ g D=>(by rcases D with h|h|h<;>cases h),λ g h=>(by cases h),λ g h=>(by cases h),λ g h=>(by cases h)⟩
 have O:Below W W (W.alloc (.cells #[a6 false,ad none 0 0,ad none 0 0,ad none 0 0] 212)):=(aU _ _).alloc (aH _) _;have X:(n:Int)<=40:=Z
 have V8:(2:Int)<=n:=Z
 have he:decide ((n:Int)<=40)=true:=decide_eq_true X;have h6:decide ((2:Int)<=(n:Int))=true:=decide_eq_true V8;clear S
 go_enter func207,ntmps207
 go_wp2_with fail
 go_loopw [77] (λ w wr=>∃(j:Nat) (c:Option Addr) (b:Nat),w=V U j/\j<=n/\aZ W wr W ⟨false,jD y 0,[],pE y j⟩ none none c 0 0 b/\Below W W wr) (λ w _=>41-(intOf w).toNat)
 case atStart=>exact⟨0,none,0,rfl,aR _,R,O⟩
 clear R O H Q;obtain⟨j,c,b,rfl,hj,f,d⟩:=hrel;by_cases h4:j<n
 ·have I:=A.below d P;have M:=d.size;have q:∀u,ay u W #[a6 false,ad none (jD y 0).length 0,ad none 0 0,ad c (pE y j).length b]->u.cell? (W.1.size,3)=some (ad c j b):=λ u J=>(J.cell 3 _ rfl).trans (by rw[QX];rfl);have c1:=q _ f.box;have h9:((vW y j:Nat):Int)<4294967296:=by have:vW y j<4294967296:=(dS ((y.drop (4+4*j)).take 4)).toNat_lt;omega
  have h8:(0:Int)<=((vW y j:Nat):Int):=Z
  have G:Calls prog 115 #[ad (a,4+4*j) (504-(4+4*j)) (cap-(4+4*j))] wr.drew λ e l=>e=aw (V .u32 ((vW y j:Nat):Int))/\∃m,l=wr.drew.drewN m:=V9 (I.drew) (4+4*j) (504-(4+4*j)) (cap-(4+4*j)) Z Z;have c1a:∀x o,((wr.drewN x).alloc o).cell? (W.1.size,3)=some (ad c j b):=λ x o=>q _ ((f.box.ae (W':=wr.drewN x) rfl).alloc o);have N:=zH G
  have z:∀m,∃p:Nat×Nat×World,(Builtin.append_ #[57,57] 57 #[ad c j b,ad wr 1 1]).run prog ((wr.drewN m).alloc (.cells #[V U ((vW y j:Nat):Int)] 3))= .ok (ad p.1 (j+1) p.2.1) p.2.2/\p.2.2.cell? (W.1.size,3)=some (ad c j b)/\p.2.2.frozen? ⟨W.1.size,3,none⟩=false /\
    aZ W (p.2.2.setCell (W.1.size,3) (ad p.1 (j+1) p.2.1)) W ⟨false,jD y 0,[],pE y (j+1)⟩ none none p.1 0 0 p.2.1/\Below W W (p.2.2.setCell (W.1.size,3) (ad p.1 (j+1) p.2.1)):=λ m=>by
   have F:=f.next (W':=wr.drewN m) (UK.dN (aU _ _) m);obtain⟨K,L,l,e,r,o,D⟩:=EE F.a (by rw[QX];omega) (vW y j);rw[QX]at e;obtain⟨E,B,C⟩:=F.VA r o D M;rw[<-Kk,QX]at E B;exact⟨(K,L,l),e,q _ C,C.free 3,E,(d.trans (UK.dN (aU _ _) m)).trans B⟩
  obtain⟨h3,k⟩:=Classical.skolem.1 z;have v:=zH k;have cG:=λ m=>(k m).2.1;have fG:=λ m=>(k m).2.2.1;clear z k G q;have n1:IntKind.i64.wrap (4*(j:Int))=4*(j:Int):=by rw[dM];omega
  have n2:IntKind.i64.wrap (4+4*(j:Int))=4+4*(j:Int):=by rw[dM];omega
  have n3:IntKind.i64.wrap ((vW y j:Nat):Int)=((vW y j:Nat):Int):=by rw[dM];omega
  have i2:(4:Int)+4*j<=504:=Z
  have i3:¬(cap=4+4*j):=Z
  have T:(4+4*(j:Int)).toNat=4+4*j:=Z
  have i5:(0:Int)<=4+4*(j:Int):=Z
  go_wp2_with fail
  go_region_law (first|(refine UK.aM (v.out _).1 rfl rfl rfl (by simp[Act.eval]) (by simp[Act.eval]) ?_)|(go_simp;go_at_call 115;refine N.out.mono ?_;rintro e w2 ⟨rfl,m,rfl⟩))
  all_goals
   go_wp2;go_roundw
   case rel=>exact⟨j+1,_,_,by go_num,Z,(v.out _).2.2.2.1,(v.out _).2.2.2.2⟩
   case measure=>simp[intOf];omega
 obtain rfl:j=n:=Z
 have ha:(0:Int)<=(j:Int)-1:=Z
 go_wp2_with fail
 go_loopw [99] (λ w wr'=>∃(i:Nat) (t:Option Addr) (s:Nat),w=V U i/\i<=j-1/\aZ W wr' W ⟨false,jD y i,[],pE y j⟩ t none c s 0 b/\Below W W wr') (λ w _=>41-(intOf w).toNat)
 case atStart=>exact⟨0,none,0,rfl,aR _,f,d⟩
 clear f d;obtain⟨i,t,s,rfl,hi,f,d⟩:=hrel;by_cases hb:i<j-1
 ·have I:=A.below d P;have M:=d.size;have h2:(i:Int)<(j:Int)-1:=Z
  have q:∀u,ay u W #[a6 false,ad t (jD y i).length s,ad none 0 0,ad c (pE y j).length b]->u.cell? (W.1.size,1)=some (ad t i s):=λ u J=>(J.cell 1 _ rfl).trans (by rw[QY];rfl);have c1:=q _ f.box;have G:Calls prog 202 #[ad (a,164+8*i) (504-(164+8*i)) (cap-(164+8*i))] wr.drew λ e l=>e=aw (V a7 ((rQ y (164+8*i)).toNat:Int))/\∃m,l=wr.drew.drewN m:=VB (I.drew) (164+8*i) (504-(164+8*i)) (cap-(164+8*i)) Z Z Z;have c1a:∀x o,((wr.drewN x).alloc o).cell? (W.1.size,1)=some (ad t i s):=λ x o=>q _ ((f.box.ae (W':=wr.drewN x) rfl).alloc o);have N:=zH G
  have z:∀m,∃p:Nat×Nat×World,(Builtin.append_ #[88,88] 88 #[ad t i s,ad wr 1 1]).run prog ((wr.drewN m).alloc (.cells #[V a7 ((rQ y (164+8*i)).toNat:Int)] 77))= .ok (ad p.1 (i+1) p.2.1) p.2.2/\p.2.2.cell? (W.1.size,1)=some (ad t i s)/\p.2.2.frozen? ⟨W.1.size,1,none⟩=false /\
    aZ W (p.2.2.setCell (W.1.size,1) (ad p.1 (i+1) p.2.1)) W ⟨false,jD y (i+1),[],pE y j⟩ p.1 none c p.2.1 0 b/\Below W W (p.2.2.setCell (W.1.size,1) (ad p.1 (i+1) p.2.1)):=λ m=>by
   have F:=f.next (W':=wr.drewN m) (UK.dN (aU _ _) m);obtain⟨K,L,l,e,r,o,D⟩:=Fz F.k (by rw[QY];omega) (rQ y (164+8*i));rw[QY]at e;obtain⟨E,B,C⟩:=F.Om r o D M;rw[<-Cd,QY]at E B;exact⟨(K,L,l),e,q _ C,C.free 1,E,(d.trans (UK.dN (aU _ _) m)).trans B⟩
  obtain⟨h3,k⟩:=Classical.skolem.1 z;have v:=zH k;have cG:=λ m=>(k m).2.1;have fG:=λ m=>(k m).2.2.1;clear z k G q;have n1:IntKind.i64.wrap (8*(i:Int))=8*(i:Int):=by rw[dM];omega
  have n2:IntKind.i64.wrap (164+8*(i:Int))=164+8*(i:Int):=by rw[dM];omega
  have i2:(164:Int)+8*i<=504:=Z
  have i3:¬(cap=164+8*i):=Z
  have T:(164+8*(i:Int)).toNat=164+8*i:=Z
  have i5:(0:Int)<=164+8*(i:Int):=Z
  go_wp2_with fail
  go_region_law (first|(refine UK.aM (v.out _).1 rfl rfl rfl (by simp[Act.eval]) (by simp[Act.eval]) ?_)|(go_simp;go_at_call 202;refine N.out.mono ?_;rintro e w2 ⟨rfl,m,rfl⟩))
  all_goals
   go_wp2;go_roundw
   case rel=>exact⟨i+1,_,_,by go_num,Z,(v.out _).2.2.2.1,(v.out _).2.2.2.2⟩
   case measure=>simp[intOf];omega
 obtain rfl:i=j-1:=Z
 have h2:¬(((j-1:Nat):Int)<(j:Int)-1):=Z
 go_wp2;go_ret2
 exact⟨W.1.size,t,none,c,s,0,b,rfl,f,d⟩
theorem uv(c:aF W a y)(f:Y y=cap)(g:504<=cap)(b:mI y=some x) :
  Calls prog 207 #[ad a 504 cap] W λ e d=>gh W d x e:=by
 unfold mI at b
 split at b
 ·rename_i h
  obtain rfl:=bf b;refine(ew c f g h.1 rfl h.2).mono ?_;rintro e d ⟨nb,n,l,j,k,rfl,i,m⟩;exact⟨nb,n,l,none,j,k,0,rfl,i,m⟩
 split at b
 ·rename_i h
  obtain rfl:=bf b;exact sy c f g h.1 rfl h.2.1 h.2.2
 cases b
section
variable{d:World}{P D T k b n:Nat}{A:AP}
def ID(E:Nat->Prop)(W a:World)(P D:Nat)(A:AP)(k:Nat)(x:Nd)(e:Ending):Prop:=
 ∃N M nb f d h b c g,e=aw (a9 #[aq (some ⟨nb,0,none⟩),V U 0])/\W.1.size<=N/\M<=a.1.size/\zu N M a nb x f d h b c g/\PZ (λ j=>E j\/(N<=j/\j<M)) a P D A k/\Kept E W a
theorem yJ(h:PZ E W P D A k)(hk:k+2<900000000)(t:ay W T #[aq P,V U root])(hp:A.Has b)(N:aB A b=some x) :
  Calls prog 156 #[aq T,V U b] W λ e w'=>ID E W w' P D A (k+2) x e:=by
 have c0:=t.c0;have z:=zH (Ke h hk b hp);clear h t
 go_enter_defers func156,ntmps156
 go_wp2_with fail
 refine z.out.mono ?_;rintro e w1 ⟨fb,a,cap,rfl,d,f⟩;have K:=zH (AB d);obtain⟨y,s,I,C,u,y5⟩:=d.bytes
 have M:mI y=some x:=by
  rw[<-jz,C];exact N
 have L:=uv s I u M;have v:=zH L;have B:=bg d f;clear z d f s I C u y5 M L c0
 go_wp2_with fail
 refine K.out.mono ?_;rintro e G ⟨rfl,rfl⟩
 go_wp2_with fail
 refine v.out.mono ?_;rintro e p ⟨nb,H,w,J,Z,Q,X,rfl,c,q⟩;obtain⟨d,f⟩:=B.out
 have l:∀g,aG H g\/aG w g\/aG J g->g<p.1.size:=λ g hg=>by
  rcases hg with h|h|h
  ·exact c.k.lt h
  ·exact c.v.lt h
  exact c.a.lt h
 have i:=c.box.lt;have F:=d.wide q (T:=λ j=>E j\/(G.1.size<=j/\j<p.1.size)) (λ j r=>r);have n:=f.trans (d.kept q);have m:=f.size;have S:=zH (DT .returning F);have HN:=br c l i n m;clear K v B d f c q l i F n m;go_wp2;refine leaves_cons (f:=65) (args:= #[aq fb]) (by simp) (by simp[go_sem]) ?_;refine S.out.mono ?_;rintro e u' w4 ⟨rfl,rfl,R,o⟩;obtain⟨c,l,i,n,m⟩:=HN.out;refine⟨_,results_tmp2 rfl _ _ _,?_⟩;refine⟨G.1.size,p.1.size,nb,H,w,J,Z,Q,X,rfl,m,o.size,⟨c.ae o.size (λ g Y h2=>o.block g (al ⟨Y,h2⟩)),i,l⟩,R,n.trans (o.mono (λ j r=>O r))⟩
theorem cZ(h:PZ E W P D A k)(hk:k+3<900000000)(v:ay W T #[aq P,V U root])(R:A.Has b)(H:jU E W nb x)(j:Fits x) :
  Calls prog 150 #[aq T,V U b,aq nb] W λ e r=>e=aw (V U 0)/\PZ E r P D (A.ax b (aX (A.c b) x)) (k+3)/\Kept E W r:=by
 have O:=v.c0;have B:=zH (Ke h Z b R);clear h v
 go_enter_defers func150,ntmps150
 go_wp2_with fail
 refine B.out.mono ?_;rintro e Y ⟨N,a,cap,rfl,K,c⟩;have I:=zH (zi K Z);have s:=bg (H.kept c) c;clear B K c O H
 go_wp2_with fail
 refine I.out.mono ?_;rintro e w2 ⟨rfl,g,f⟩;obtain⟨o,c⟩:=s.out;have q:=o.kept f;obtain⟨y,u,m,F,w,J⟩:=g.bytes;have t:=zH (ix q j u m w J);have n:y.take 504=A.c b:=F;have d:=gg y x Z j;rw[n]at d;have i:=uL y x Z j;have G:=bp g (c.trans f) d (i.trans m);clear I s o q c f g u m F w J n d i
 go_wp2_with fail
 refine t.out.mono ?_;rintro e X ⟨rfl,p,C⟩;obtain⟨g,f,d,i⟩:=G.out;obtain⟨l,z⟩:=g.write C p i;rw[d]at l;have M:=zH (DT .returning l);have S:=zH (f.trans z);clear t G g f d i l z p C;go_wp2;refine leaves_cons (f:=65) (args:= #[aq N]) (by simp) (by simp[go_sem]) ?_;refine M.out.mono ?_;rintro e u' w4 ⟨rfl,rfl,L,Q⟩;refine⟨_,results_tmp rfl _ _ _,rfl,L,S.out.trans Q⟩
theorem ia(h:PZ E W P D A k)(hk:k+3<900000000)(u:ay W T #[aq P,V U root])(hf:¬A.Full)(G:jU E W nb x)(j:Fits x) :
  Calls prog 181 #[aq T,aq nb] W λ e q=>e=aw (a9 #[V U A.next,V U 0])/\PZ E q P D (A.take.ax A.next (aX (UK.bM 504) x)) (k+3)/\Kept E W q:=by
 have O:=u.c0;have z:=zH (JV h Z hf);clear h u
 go_enter_defers func181,ntmps181
 go_wp2_with fail
 refine z.out.mono ?_;rintro e Y ⟨M,a,cap,rfl,J,b⟩;have H:=zH (zi J Z);have r:=bg (G.kept b) b;clear z J b O G
 go_wp2_with fail
 refine H.out.mono ?_;rintro e w2 ⟨rfl,f,d⟩;obtain⟨n,b⟩:=r.out;have p:=n.kept d;obtain⟨y,t,l,C,v,I⟩:=f.bytes;have s:=zH (ix p j t l v I);have m:y.take 504=UK.bM 504:=C.trans (by show bX A.c A.next (UK.bM 504) A.next=_;unfold bX;rw[be rfl]);have c:=gg y x Z j;rw[m]at c;have g:=uL y x Z j;have F:=bp f (b.trans d) c (g.trans l);clear H r n p b d f t l C v I m c g
 go_wp2_with fail
 refine s.out.mono ?_;rintro e X ⟨rfl,o,B⟩;obtain⟨f,d,c,g⟩:=F.out;obtain⟨i,w⟩:=f.write B o g;rw[c]at i;have N:=zH (JW i);have L:=zH (DT .returning i);have S:=zH (d.trans w);clear s F f d c g i w o B
 go_wp2_with fail
 refine N.out.mono ?_;rintro e R ⟨rfl,rfl⟩;go_wp2;refine leaves_cons (f:=65) (args:= #[aq M]) (by simp) (by simp[go_sem]) ?_;refine L.out.mono ?_;rintro e u' R ⟨rfl,rfl,K,Q⟩;refine⟨_,results_tmp2 rfl _ _ _,rfl,K,S.out.trans Q⟩
theorem gp(h:PZ E W P D A k)(l:k+3<900000000)(d:ay W T #[aq P,V U root])(hf:A.Full) :
  Calls prog 181 #[aq T,aq nb] W λ e a=>e=aw (a9 #[V U 0,V U 6])/\PZ E a P D A (k+3)/\Kept E W a:=by
 have i:=d.c0;have b:=zH (Uk h Z hf);clear h d
 go_enter_defers func181,ntmps181
 go_wp2_with fail
 refine b.out.mono ?_;rintro e j ⟨rfl,g,f⟩;have c:=bg (g.up (m:=k+3) Z) f;clear g f b i;go_wp2;refine⟨_,results_tmp2 rfl _ _ _,rfl,c.out.1,c.out.2⟩
end
