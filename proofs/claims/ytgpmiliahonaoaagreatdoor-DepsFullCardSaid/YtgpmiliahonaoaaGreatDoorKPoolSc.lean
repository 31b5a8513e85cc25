/- Facts on texts on pages. -/
import Derived.Test.YtgpmiliahonaoaaGreatDoorKDiskFc
import Derived.Deep.RegionWith
import Derived.Deep.DeepCutAuto
set_option maxRecDepth 100000
set_option maxHeartbeats 8000000
set_option linter.unusedSimpArgs false
open List renaming length->Y
open Go.Value renaming bool->a6,int->V,pointer->aq,slice->ad,string->a8,tuple->a9
open Go.IntKind renaming i64->U
open Go.Ending renaming returned->aw
open Or renaming inl->O,inr->al
open Go.Proofs.Tryz
namespace Go.Proofs.YtgpmiliahonaoaaGreatDoor
open Go.RowKit
open UK (str aF nth Only w32 Row)
open Go.BigFrame
variable{W W' w:World}{D B bc fc I ic au g p n cnt' h j i FB M k c hand:Nat}{y x x':List UInt8}{d e:Dk}{S T E:Nat->Prop}{f:Int->Option Int}{args:Array Value}{r:Value}{a:Act}{P:Program}{v:Option Addr}{aj z puts:Int}{ops:Array Oper}{rest:List Oper}{Q:Exit->Act->World->Prop}
section
variable{own:Nat->Prop}{fo:Option Addr}
end
section
variable{own:Nat->Prop}{fo:Option Addr}
theorem tW(h:aK W own D B bc fo fc I ic y d)(p:Nat)(f:512*(p+1)<=Y d.x):okB y p=okB d.x p/\lu y p=lu d.x p:=by
 have e:∀a b,a+b<=Y d.x->(y.drop a).take b=(d.x.drop a).take b:=λ a b g=>by
  rw[<-h.pre,List.drop_take,lK,gV Z]
 have c:okB y p=okB d.x p:=by
  unfold okB;rw[e (512*p) 4 Z,e (512*p+4) 508 Z,e (512*p+4) 4 Z]
 refine⟨c,?_⟩;unfold lu Db;rw[c,e (512*p+8) 504 Z]
theorem ts(h:aK W own D B bc fo fc I ic y d)(f:Fit d au)(p:Int)(c:bF d au p=false) :
  Calls prog 129 #[aq D,V U p] W λ e a=>e=aw (a9 #[a8 (str []),V U 4])/\jK a own D d/\Moves own own W a:=by
 have b:=zB h f p;rw[c]at b
 go_enter func129,ntmps129
 go_wp2_with fail
 refine b.mono ?_;rintro e a ⟨rfl,q,rfl⟩;go_wp2;go_ret2;exact⟨rfl,⟨B,bc,fo,fc,I,ic,y,h.drewN q⟩,Moves.of_below (UK.dN (aU _ _) q)⟩
theorem mP(h:aK W own D B bc fo fc I ic y d)(f:Fit d au)(p:Int)(l:bF d au p=true)(b:d.rl=0) :
  Calls prog 129 #[aq D,V U p] W λ e a=>e=aw (a9 #[a8 (str []),V U 7])/\jK a own D {d with rl:= -1}/\Moves own own W a:=by
 have j:=zB h f p;rw[l]at j;have n:Hid (jG d.rl=7):=by show _=_;unfold jG;rw[be b]
 have o:Hid (iX d.rl= -1):=by show _=_;unfold iX;rw[be b]
 clear b
 go_enter func129,ntmps129
 go_wp2_with fail
 refine j.mono ?_;rintro e a ⟨rfl,q,rfl⟩;have c:=h.drewN q;have k:=Moves.of_below (o:=own) (UK.dN (aU W W) q);generalize W.drewN q=s at c k ⊢;have i:=BX c.cells 4 d.rl rfl f.rl;rw[n.out,o.out]at i
 go_wp2_with fail
 refine i.mono ?_;rintro e r ⟨rfl,m,g⟩;go_wp2;go_ret2;exact⟨rfl,⟨B,bc,fo,fc,I,ic,y,c.gW (d':={d with rl:= -1}) m g rfl rfl rfl⟩,k.trans (Moves.bQ g h.oD)⟩
def zG(x:List UInt8)(p:Nat):Int:=if okB x p then 0 else 8
theorem uh(h:aK W own D B bc fo fc I ic y d)(f:Fit d au)(p:Nat)(L:p<au)(A:bF d au p=true)(x:d.rl≠0) :
  Calls prog 129 #[aq D,V U p] W λ e j=>e=aw (a9 #[a8 (str (lu d.x p)),V U (zG d.x p)])/\jK j own D {d with rl:=iX d.rl,reads:=d.reads+1}/\Moves own own W j:=by
 have w:=zB h f p;rw[A]at w;have F:Hid (jG d.rl=0):=by show _=_;unfold jG;rw[aE x]
 have S:=f.reads.1;have R:=f.reads.2;have E:=f.len;have M:=f.few;have k:=tW h p (by rw[E];omega);clear x
 go_enter func129,ntmps129
 go_wp2_with fail
 refine w.mono ?_;rintro e j ⟨rfl,q,rfl⟩;have c:=h.drewN q;have n:=Moves.of_below (o:=own) (UK.dN (aU W W) q);generalize W.drewN q=O at c n ⊢;have u:=BX c.cells 4 d.rl rfl f.rl;rw[F.out]at u
 go_wp2_with fail
 refine u.mono ?_;rintro e o ⟨rfl,J,m⟩;have b:=c.gW (d':={d with rl:=iX d.rl}) J m rfl rfl rfl;have Q:=b.cells.at' 6 _ rfl;have P:=b.cells.free 6 Z;have C:=b.cells.set 6 (V U (d.reads+1)) (by show 6<8;omega);have r:=(Only.refl D o).set 6 (V U (d.reads+1));have a:=b.gW (d':={d with rl:=iX d.rl,reads:=d.reads+1}) C r rfl rfl rfl;have t:=(n.trans (Moves.bQ m h.oD)).trans (Moves.bQ r h.oD)
 go_wp2_with fail
 generalize o.setCell (D,6) (V U (d.reads+1))=K at a t ⊢;have i:=mu a.bytes (Y d.x) bc p (a.cells.at' 0 _ rfl) (by rw[a.nM];exact h.le) h.le Z Z a.tab;rw[k.1,k.2]at i;have G:=zH i;clear i k;refine G.out.mono ?_;rintro e N ⟨rfl,z⟩;have s:=a.below z;have v:=t.trans (Moves.of_below z)
 cases l:okB d.x p
 ·have g:Hid (zG d.x p=8):=by show _=_;unfold zG;rw[l];rfl
  have H:Hid (lu d.x p=[]):=Sa l;go_wp2;go_ret2;exact⟨by rw[g.out,H.out]<;>rfl,⟨B,bc,fo,fc,I,ic,y,s⟩,v⟩
 have g:Hid (zG d.x p=0):=by show _=_;unfold zG;rw[l];rfl
 go_wp2;go_ret2
 exact⟨by rw[g.out]<;>rfl,⟨B,bc,fo,fc,I,ic,y,s⟩,v⟩
end
section
variable{own:Nat->Prop}{fo:Option Addr}
def Fs(d:Dk)(p:Nat)(s:List UInt8):Dk:={d with wl:=iX d.wl,puts:=d.puts+1,x:=UK.wr d.x (512*p) (jJ p s)}
theorem lR(h:aK W own D B bc fo fc I ic y d)(f:Fit d au)(r:d.puts+1<1000000000)(p:Nat)(A:p<au)(u:bF d au p=true)(n:d.wl≠0)(s:List UInt8)(L:Y s=504) :
  Calls prog 254 #[aq D,V U p,a8 (str s)] W λ e c=>e=aw (V U 0)/\jK c own D (Fs d p s)/\Moves own own W c:=by
 have m:=zB h f p;rw[u]at m;have F:Hid (jG d.wl=0):=by show _=_;unfold jG;rw[aE n]
 have t:=zH r;have P:=f.puts.1;have O:=f.puts.2;have H:=zH (show Y s<=504 from Z);have C:=zC d.wl f.wl;clear n r
 go_enter func254,ntmps254
 go_wp2_with fail
 refine m.mono ?_;rintro e c ⟨rfl,q,rfl⟩;have b:=h.drewN q;have i:=Moves.of_below (o:=own) (UK.dN (aU W W) q);generalize W.drewN q=N at b i ⊢;have l:=BX b.cells 5 d.wl rfl f.wl;rw[F.out]at l
 go_wp2_with fail
 refine l.mono ?_;rintro e j ⟨rfl,G,g⟩;have a:=b.gW (d':={d with wl:=iX d.wl}) G g rfl rfl rfl;have J:=a.cells.at' 7 _ rfl;have K:=a.cells.free 7 Z;have x:=a.cells.set 7 (V U (d.puts+1)) (by show 7<8;omega);have k:=(Only.refl D j).set 7 (V U (d.puts+1));have z:=a.gW (d':={d with wl:=iX d.wl,puts:=d.puts+1}) x k rfl rfl rfl;have w:=(i.trans (Moves.bQ g h.oD)).trans (Moves.bQ k h.oD)
 have E:Dat W (j.setCell (D,7) (V U (d.puts+1))) own D B bc fo fc I ic y {d with wl:=iX d.wl,puts:=d.puts+1} au:=
  ⟨z,⟨f.len,f.flags,f.one,f.few,f.aA,f.free,f.eQ,f.rl,C,f.reads,by show 0<=d.puts+1/\_;exact⟨Z,t.out⟩⟩,w⟩
 go_wp2_with fail
 refine(Ls E p s A H.out).mono ?_;rintro e M ⟨rfl,v,o⟩;go_wp2;go_ret;exact⟨rfl,⟨B,bc,fo,fc,I,ic,v,o.at_⟩,o.moves⟩
theorem yG(h:aK W own D B bc fo fc I ic y d)(f:Fit d au)(p:Int)(c:bF d au p=false)(s:List UInt8) :
  Calls prog 254 #[aq D,V U p,a8 (str s)] W λ e a=>e=aw (V U 4)/\jK a own D d/\Moves own own W a:=by
 have b:=zB h f p;rw[c]at b
 go_enter func254,ntmps254
 go_wp2_with fail
 refine b.mono ?_;rintro e a ⟨rfl,q,rfl⟩;go_wp2;go_ret;exact⟨rfl,⟨B,bc,fo,fc,I,ic,y,h.drewN q⟩,Moves.of_below (UK.dN (aU _ _) q)⟩
theorem Jr(h:aK W own D B bc fo fc I ic y d)(f:Fit d au)(p:Int)(l:bF d au p=true)(b:d.wl=0)(s:List UInt8)(t:Y s=504) :
  Calls prog 254 #[aq D,V U p,a8 (str s)] W λ e a=>e=aw (V U 7)/\jK a own D {d with wl:= -1}/\Moves own own W a:=by
 have j:=zB h f p;rw[l]at j;have n:Hid (jG d.wl=7):=by show _=_;unfold jG;rw[be b]
 have o:Hid (iX d.wl= -1):=by show _=_;unfold iX;rw[be b]
 clear b
 go_enter func254,ntmps254
 go_wp2_with fail
 refine j.mono ?_;rintro e a ⟨rfl,q,rfl⟩;have c:=h.drewN q;have k:=Moves.of_below (o:=own) (UK.dN (aU W W) q);generalize W.drewN q=u at c k ⊢;have i:=BX c.cells 5 d.wl rfl f.wl;rw[n.out,o.out]at i
 go_wp2_with fail
 refine i.mono ?_;rintro e r ⟨rfl,m,g⟩;go_wp2;go_ret;exact⟨rfl,⟨B,bc,fo,fc,I,ic,y,c.gW (d':={d with wl:= -1}) m g rfl rfl rfl⟩,k.trans (Moves.bQ g h.oD)⟩
end
section
variable{own:Nat->Prop}{fo:Option Addr}
theorem Kx(h:aK W own D B bc fo fc I ic y d)(f:Fit d au)(p:Int)(c:bF d au p=false) :
  Calls prog 123 #[aq D,V U p] W λ e a=>e=aw (V U 4)/\jK a own D d/\Moves own own W a:=by
 have b:=zB h f p;rw[c]at b
 go_enter func123,ntmps123
 go_wp2_with fail
 refine b.mono ?_;rintro e a ⟨rfl,q,rfl⟩;go_wp2;go_ret;exact⟨rfl,⟨B,bc,fo,fc,I,ic,y,h.drewN q⟩,Moves.of_below (UK.dN (aU _ _) q)⟩
theorem wD(h:aK W own D B bc fo fc I ic y d)(f:Fit d au)(p:Int)(l:bF d au p=true)(b:d.wl=0) :
  Calls prog 123 #[aq D,V U p] W λ e a=>e=aw (V U 7)/\jK a own D {d with wl:= -1}/\Moves own own W a:=by
 have j:=zB h f p;rw[l]at j;have n:Hid (jG d.wl=7):=by show _=_;unfold jG;rw[be b]
 have o:Hid (iX d.wl= -1):=by show _=_;unfold iX;rw[be b]
 clear b
 go_enter func123,ntmps123
 go_wp2_with fail
 refine j.mono ?_;rintro e a ⟨rfl,q,rfl⟩;have c:=h.drewN q;have k:=Moves.of_below (o:=own) (UK.dN (aU W W) q);generalize W.drewN q=s at c k ⊢;have i:=BX c.cells 5 d.wl rfl f.wl;rw[n.out,o.out]at i
 go_wp2_with fail
 refine i.mono ?_;rintro e r ⟨rfl,m,g⟩;go_wp2;go_ret;exact⟨rfl,⟨B,bc,fo,fc,I,ic,y,c.gW (d':={d with wl:= -1}) m g rfl rfl rfl⟩,k.trans (Moves.bQ g h.oD)⟩
end
section
variable{own:Nat->Prop}{fo:Option Addr}
def also(own:Nat->Prop)(g:Nat)(k:Nat):Prop:=own k\/k=g
theorem Moves.rX(a:Only g W W')(c:own g\/W.1.size<=g):Moves own (also own g) W W':=
 ⟨a.os,a.tape,a.output,a.size,λ k b d=>a.block k b (λ e=>by subst e;rcases c with h|h;exact d h;omega),λ k b=>by
  rcases b with h|rfl
  ·exact O h
  exact c⟩
theorem DA(h:aK W own D B bc fo fc I ic y d)(p:Nat)(t:Y d.free<=60000) :
  ∃f j W',(Builtin.append_ #[57,57] 57 #[ad fo (Y d.free) fc,ad W 1 1]).run prog (W.alloc (.cells #[V U (p:Int)] 3))= .ok (ad (some ⟨f,0,none⟩) (Y d.free+1) j) W'/\Row W' f j (ints (d.free++[p]))/\Only f W W'/\(own f\/W.1.size<=f)/\f≠D/\f≠B/\f≠I:=by
 have m:(fo=none/\ints d.free=[]/\fc=0)\/∃g,fo=some ⟨g,0,none⟩/\Row W g fc (ints d.free):=by
  rcases h.fI with⟨a,b,c⟩|⟨F,e,r,_⟩
  ·exact O ⟨a,by rw[b];rfl,c⟩
  exact al ⟨F,e,r⟩
 obtain⟨f,j,W',e,r,o,i⟩:=UK.J8 (P:=prog) (t:=57) (ty:=57) underlying57 (i:=t3) rfl rfl rfl (show(8:Nat)<=16 from Z) rfl m (V U (p:Int)) rfl (by rw[iC];omega);rw[iC]at e;refine⟨f,j,W',e,by unfold ints at *;rw[dI];exact r,o,?_⟩;rcases i with i|i
 ·rcases h.fI with⟨a,_⟩|⟨F,s,_,l,n,k,q⟩
  ·rw[a]at i;cases i
  rw[s]at i;obtain rfl:F=f:=congrArg Addr.block (bf i);exact⟨O q,l,n,k⟩
 have:=h.cells.lt;have:=h.bytes.lt;have:=h.flags.lt;exact⟨al i,Z,Z,Z⟩
theorem aK.GG(h:aK W own D B bc fo fc I ic y d){a c:Nat}{l:List Nat}(p:Row W' a c (ints l))(i:Only a W W')(j:a≠D)(k:a≠B)(n:a≠I)(f:own a\/W.1.size<=a) :
  aK (W'.setCell (D,2) (ad a (Y l) c)) (also own a) D B bc a c I ic y {d with free:=l}:=by
 have o:=(h.cells.only i j.symm).set 2 (ad a (Y l) c) (by show 2<8;omega);have g:=(Only.refl D W').set 2 (ad a (Y l) c);have q:=h.tab.lt
 have m:0 ≠a:=λ e=>by
  rcases f with f|f
  ·exact h.iD (e▸f)
  omega
 refine⟨o,g.bytes (i.bytes h.bytes k.symm) h.DB.symm,h.nM,h.le,h.pre,al ⟨a,rfl,p.only g j,j,k,n,al rfl⟩,(h.flags.only i n.symm).only g h.DI.symm,h.DB,h.DI,h.BI,O h.oD,O h.oB,O h.oI,?_,λ b=>?_⟩
 ·exact UK.zy (UK.zy h.tab i m) g h.Lp
 rcases b with b|b
 ·exact h.iD b
 exact m b
theorem aK.zI(h:aK W own D B bc fo fc I ic y d)(p:Nat)(b:Bool)(g:p<Y d.gH) :
  aK (W.setCell (I,p) (a6 b)) own D B bc fo fc I ic y {d with gH:=d.gH.set p b}:=by
 have f:=h.flags.set p (a6 b) (by rw[Ll];exact g);have o:=(Only.refl I W).set p (a6 b);have k:0 ≠I:=λ e=>h.iD (e▸h.oI);refine⟨?_,o.bytes h.bytes h.BI,h.nM,h.le,h.pre,?_,by unfold Dc at f ⊢;rw[List.map_set];exact f,h.DB,h.DI,h.BI,h.oD,h.oB,h.oI,UK.zy h.tab o k,h.iD⟩
 ·have a:=h.cells.only o h.DI;unfold Dk.vals at a ⊢;rw[aV];exact a
 rcases h.fI with i|⟨F,e,r,j,l,c,m⟩
 ·exact O i
 exact al ⟨F,e,r.only o c,j,l,c,m⟩
def uW(d:Dk)(p:Nat):Dk:={d with wl:=iX d.wl,puts:=d.puts+1,x:=UK.wr d.x (512*p) (jJ p (tN d (Y d.free))),free:=d.free++[p],gH:=d.gH.set p true}
def tY(d:Dk):Dk:={d with wl:=iX d.wl,puts:=d.puts+1}
theorem Kw(h:aK W own D B bc fo fc I ic y d)(f:Fit d au)(N:d.puts+1<1000000000)(p:Nat)(hp:p<au)(hh:bF d au p=true)(K:d.wl≠0) :
  Calls prog 123 #[aq D,V U p] W λ e n=>e=aw (V U 0)/\∃own',jK n own' D (uW d p)/\Moves own own' W n:=by
 have t:=zB h f p;rw[hh]at t;have HE:Hid (jG d.wl=0):=by show _=_;unfold jG;rw[aE K]
 have R:=zH N;have h3:=f.puts.1;have h2:=f.puts.2;have pJ:=zC d.wl f.wl;have iH:=f.few;have h1:=f.eQ;have h0:=f.flags;clear K N
 go_enter func123,ntmps123
 go_wp2_with fail
 refine t.mono ?_;rintro e n ⟨rfl,q,rfl⟩;have g:=h.drewN q;have k:=Moves.of_below (o:=own) (UK.dN (aU W W) q);generalize W.drewN q=w1 at g k ⊢;have o:=BX g.cells 5 d.wl rfl f.wl;rw[HE.out]at o
 go_wp2_with fail
 refine o.mono ?_;rintro e x ⟨rfl,M,j⟩;have c:=g.gW (d':={d with wl:=iX d.wl}) M j rfl rfl rfl;have X:=c.cells.at' 7 _ rfl;have f7:=c.cells.free 7 Z;have C:=c.cells.set 7 (V U (d.puts+1)) (by show 7<8;omega);have m:=(Only.refl D x).set 7 (V U (d.puts+1));have E:=c.gW (d':=tY d) C m rfl rfl rfl;have z:=(k.trans (Moves.bQ j h.oD)).trans (Moves.bQ m h.oD)
 have s:Dat W (x.setCell (D,7) (V U (d.puts+1))) own D B bc fo fc I ic y (tY d) au:=
  ⟨E,⟨f.len,f.flags,f.one,f.few,f.aA,f.free,f.eQ,f.rl,pJ,f.reads,by show 0<=d.puts+1/\_;exact⟨Z,R.out⟩⟩,z⟩
 have J:=s.at_.cells.at' 2 _ rfl
 go_wp2_with fail
 refine(Xo s (Y d.free) (aH _)).mono ?_;rintro e w4 ⟨rfl,L⟩
 go_wp2_with fail
 refine(Ls L p (tN (tY d) (Y d.free)) hp (by rw[iI];decide)).mono ?_;rintro e w5 ⟨rfl,Q,u⟩;have b:=u.at_;have F:=u.moves;clear t o g c E s L u M j C m k z X f7 J;have J:=b.cells.at' 2 _ rfl;obtain⟨v,G,A,e6,S,i,w,l,k3,T⟩:=DA b p (by show Y d.free<=60000;omega);have a:=b.GG S i l k3 T w;have H:=(F.trans (Moves.rX i w)).trans (Moves.bQ ((Only.refl D A).set 2 (ad v (Y d.free+1) G)) (O h.oD));have f2:A.frozen? ⟨D,2,none⟩=false:=(b.cells.only i l.symm).free 2 Z;have c2':=(b.cells.only i l.symm).at' 2 _ rfl;rw[zl,gI]at a;have r:p<Y d.gH:=Z
 have h8:=a.zI p true r;have P:=H.trans (Moves.bQ ((Only.refl I _).set p (a6 true)) (show also own v I from O h.oI));have c3:=a.cells.at' 3 _ rfl;have fp:=a.flags.free p (by have:=a.flags.le;rw[Ll]at this;exact cB r this);have h4:=a.flags.at' p _ (Sc d.gH p r);clear a H b F
 go_wp2_with (at_builtin;refine UK.jm e6 rfl rfl rfl rfl rfl ?_)
 go_ret;exact⟨rfl,also own v,⟨B,bc,_,G,I,ic,Q,h8⟩,P⟩
end
section
variable{own:Nat->Prop}{fo:Option Addr}
theorem tR(h:aK W own D B bc fo fc I ic y d)(f:Fit d au)(c:d.aA-au+Y d.free=0) :
  Calls prog 155 #[aq D] W λ e a=>e=aw (a9 #[V U 0,V U 6])/\jK a own D d/\Moves own own W a:=by
 have b:=fZ h f;rw[c]at b
 go_enter func155,ntmps155
 go_wp2_with fail
 refine b.mono ?_;rintro e a ⟨rfl,q,rfl⟩;go_wp2;go_ret2;exact⟨rfl,⟨B,bc,fo,fc,I,ic,y,h.drewN q⟩,Moves.of_below (UK.dN (aU _ _) q)⟩
theorem p0(h:aK W own D B bc fo fc I ic y d)(f:Fit d au)(l:0<d.aA-au+Y d.free)(b:d.wl=0) :
  Calls prog 155 #[aq D] W λ e a=>e=aw (a9 #[V U 0,V U 7])/\jK a own D {d with wl:= -1}/\Moves own own W a:=by
 have j:=fZ h f;obtain⟨r,m⟩:∃r,Hid (d.aA-au+Y d.free=r):=⟨_,rfl⟩;rw[m.out]at j l;have o:Hid (jG d.wl=7):=by show _=_;unfold jG;rw[be b]
 have p:Hid (iX d.wl= -1):=by show _=_;unfold iX;rw[be b]
 clear b
 go_enter func155,ntmps155
 go_wp2_with fail
 refine j.mono ?_;rintro e a ⟨rfl,q,rfl⟩;have c:=h.drewN q;have k:=Moves.of_below (o:=own) (UK.dN (aU W W) q);generalize W.drewN q=t at c k ⊢;have i:=BX c.cells 5 d.wl rfl f.wl;rw[o.out,p.out]at i
 go_wp2_with fail
 refine i.mono ?_;rintro e s ⟨rfl,n,g⟩;go_wp2;go_ret2;exact⟨rfl,⟨B,bc,fo,fc,I,ic,y,c.gW (d':={d with wl:= -1}) n g rfl rfl rfl⟩,k.trans (Moves.bQ g h.oD)⟩
theorem aK.Df(h:aK W own D B bc fo fc I ic y d){l:List Nat}{F:Nat}(j:d.free=l++[p])(c:fo=some ⟨F,0,none⟩) :
  aK (W.setCell (D,2) (ad fo (Y l) fc)) own D B bc fo fc I ic y {d with free:=l}:=by
 have f:=h.cells.set 2 (ad fo (Y l) fc) (by show 2<8;omega);have o:=(Only.refl D W).set 2 (ad fo (Y l) fc);refine⟨f,o.bytes h.bytes h.DB.symm,h.nM,h.le,h.pre,?_,h.flags.only o h.DI.symm,h.DB,h.DI,h.BI,h.oD,h.oB,h.oI,UK.zy h.tab o h.Lp,h.iD⟩;rcases h.fI with⟨a,_⟩|⟨i,e,r,b,k,g,m⟩
 ·rw[a]at c;cases c
 have:=(r.only o b).take (Y l);rw[j]at this;refine al ⟨i,e,?_,b,k,g,m⟩;unfold ints at this ⊢;rw[dI,List.take_append,bS,l7,kU,jl,fQ (by rw[bS];exact aH _)]at this;exact this
theorem ss(l:List Nat)(p:Nat):(l++[p]).getD (Y l) 0=p:=by
 rw[fV,bZ (aH _),l7];rfl
def iE(d:Dk)(l:List Nat)(p:Nat):Dk:={d with wl:=iX d.wl,puts:=d.puts+1,x:=UK.wr d.x (512*p) (jJ p []),free:=l,gH:=d.gH.set p false}
theorem GX(h:aK W own D B bc fo fc I ic y d)(f:Fit d au)(T:d.puts+1<1000000000)(l:List Nat)(p:Nat)(m:d.free=l++[p])(R:d.wl≠0) :
  Calls prog 155 #[aq D] W λ e g=>e=aw (a9 #[V U p,V U 0])/\jK g own D (iE d l p)/\Moves own own W g:=by
 have C:=fZ h f;have M:Y d.free=Y l+1:=by rw[m,zl];rfl
 obtain⟨r,H⟩:∃r,Hid (d.aA-au+Y d.free=r):=⟨_,rfl⟩;have hr:0<r:=by have:=H.out;have:=f.aA.2.2;omega
 rw[H.out]at C;have HE:Hid (jG d.wl=0):=by show _=_;unfold jG;rw[aE R]
 have G:=zH T;have h8:=f.puts.1;have h7:=f.puts.2;have P:=zC d.wl f.wl;have iH:=f.few;have h6:=f.eQ;have h3:=f.flags;have z:=f.free p (by rw[m];exact lL _ (bu.2 rfl));have E:=zH m;have HLen:=zH M
 obtain⟨F,n⟩:∃F,Hid (fo=some ⟨F,0,none⟩):=by
  rcases h.fI with⟨_,b,_⟩|⟨F,e,_⟩
  ·rw[m]at b;simp at b
  exact⟨F,e⟩
 have h5:Y l<60000:=Z
 clear R T m M
 go_enter func155,ntmps155
 go_wp2_with fail
 refine C.mono ?_;rintro e g ⟨rfl,q,rfl⟩;have o:=h.drewN q;have u:=Moves.of_below (o:=own) (UK.dN (aU W W) q);generalize W.drewN q=w1 at o u ⊢;have w:=BX o.cells 5 d.wl rfl f.wl;rw[HE.out]at w
 go_wp2_with fail
 refine w.mono ?_;rintro e J ⟨rfl,S,t⟩;have j:=o.gW (d':={d with wl:=iX d.wl}) S t rfl rfl rfl;have c7:=j.cells.at' 7 _ rfl;have f7:=j.cells.free 7 Z;have N:=j.cells.set 7 (V U (d.puts+1)) (by show 7<8;omega);have v:=(Only.refl D J).set 7 (V U (d.puts+1));have i:=j.gW (d':=tY d) N v rfl rfl rfl;have L:=(u.trans (Moves.bQ t h.oD)).trans (Moves.bQ v h.oD);have f3:Fit (tY d) au:=⟨f.len,f.flags,f.one,f.few,f.aA,f.free,f.eQ,f.rl,P,f.reads,by show 0<=d.puts+1/\_;exact⟨Z,G.out⟩⟩
 go_wp2_with fail
 generalize J.setCell (D,7) (V U (d.puts+1))=w3 at i L ⊢;clear j c7 f7 N v S t w C u o;refine(J6 i f3).mono ?_;rintro e g ⟨rfl,rfl⟩;have c2:=i.cells.at' 2 _ rfl;have f2:=i.cells.free 2 Z;rw[show(tY d).free.length=Y l+1 from HLen.out,n.out]at c2
 have s:Row g F fc (ints d.free):=by
  rcases i.fI with⟨a,_⟩|⟨F',e,r,_⟩
  ·rw[n.out]at a;cases a
  rw[n.out]at e;obtain rfl:F=F':=congrArg Addr.block (bf e);exact r
 have cl:=s.at' (Y l) _ (Xm d.free (Y l) (by have:=HLen.out;omega));rw[E.out,ss]at cl;have h1:Y l<fc:=by have:=s.le;rw[iC,HLen.out]at this;omega
 have c:=i.Df (l:=l) (p:=p) E.out n.out;have A:=L.trans (Moves.bQ ((Only.refl D g).set 2 (ad fo (Y l) fc)) h.oD);rw[n.out]at c A;have x:p<Y d.gH:=Z
 have c3:=c.cells.at' 3 _ rfl;have fp:=c.flags.free p (by have:=c.flags.le;rw[Ll]at this;exact cB x this);have h9:=c.flags.at' p _ (Sc d.gH p x);have K:=c.zI p false x;have Q:=A.trans (Moves.bQ ((Only.refl I _).set p (a6 false)) h.oI);have f5:Fit {tY d with free:=l,gH:=d.gH.set p false} au:=⟨f.len,by rw[aV];exact f.flags,f.one,f.few,f.aA,λ k X=>f.free k (by rw[E.out];exact fw _ X),by show Y l<=au;have:=HLen.out;omega,f.rl,P,f.reads,by show 0<=d.puts+1/\_;exact⟨Z,G.out⟩⟩;have d5:Dat W _ own D B bc F fc I ic y {tY d with free:=l,gH:=d.gH.set p false} au:=⟨K,f5,Q⟩;have h0:=zH s;clear c A K Q s;have h2:=z.1;have h4:=z.2;clear z
 go_wp2_with fail
 refine(Ls d5 p [] Z (by decide)).mono ?_;rintro e w6 ⟨rfl,y6,O⟩;go_wp2;go_ret2;exact⟨rfl,⟨B,bc,_,fc,I,ic,y6,O.at_⟩,O.moves⟩
end
section
variable{own:Nat->Prop}{fo:Option Addr}
theorem aK.Fu(h:aK W own D B bc fo fc I ic y d)(a:own g\/W.1.size<=g):0 ≠g:=λ e=>by
 have:=h.tab.lt;rcases a with a|a
 ·exact h.iD (e▸a)
 omega
theorem aK.Dh(h:aK W own D B bc fo fc I ic y d){a bc':Nat}(n:aF W' a x)(z:Y x=bc')(q:Y x'<=bc')(t:x.take (Y x')=x')(g:Only a W W')(b:a=B\/W.1.size<=a) :
  aK (W'.setCell D (ad a (Y x') bc')) (also own a) D a bc' fo fc I ic x {d with x:=x'}:=by
 have A:=h.cells.lt;have E:=h.bytes.lt;have C:=h.flags.lt
 have i:a≠D:=by
  rcases b with rfl|b
  ·exact h.DB.symm
  omega
 have l:a≠I:=by
  rcases b with rfl|b
  ·exact h.BI
  omega
 have p:own a\/W.1.size<=a:=by
  rcases b with rfl|b
  ·exact O h.oB
  exact al b
 have v:=(h.cells.only g i.symm).set 0 (ad a (Y x') bc') (by show 0<8;omega);have f:=(Only.refl D W').set 0 (ad a (Y x') bc');have j:=h.Fu p;refine⟨v,f.bytes n i,z,q,t,?_,(h.flags.only g l.symm).only f h.DI.symm,i.symm,h.DI,l,O h.oD,al rfl,O h.oI,UK.zy (UK.zy h.tab g j) f h.Lp,λ c=>?_⟩
 ·rcases h.fI with w|⟨F,e,r,k,s,o,u⟩
  ·exact O w
  have m:F≠a:=by
   have:=r.lt;rcases b with rfl|b
   ·exact s
   omega
  exact al ⟨F,e,(r.only g m).only f k,k,m,o,O u⟩
 rcases c with c|c
 ·exact h.iD c
 exact j c
theorem aK.Di(h:aK W own D B bc fo fc I ic y d){a c:Nat}{l:List Bool}(s:Row W' a c (Dc l))(i:Only a W W')(b:a=I\/W.1.size<=a) :
  aK (W'.setCell (D,3) (ad a (Y l) c)) (also own a) D B bc fo fc a c y {d with gH:=l}:=by
 have x:=h.cells.lt;have A:=h.bytes.lt;have z:=h.flags.lt
 have j:a≠D:=by
  rcases b with rfl|b
  ·exact h.DI.symm
  omega
 have n:a≠B:=by
  rcases b with rfl|b
  ·exact h.BI.symm
  omega
 have q:own a\/W.1.size<=a:=by
  rcases b with rfl|b
  ·exact O h.oI
  exact al b
 have v:=(h.cells.only i j.symm).set 3 (ad a (Y l) c) (by show 3<8;omega);have g:=(Only.refl D W').set 3 (ad a (Y l) c);have k:=h.Fu q;refine⟨v,g.bytes (i.bytes h.bytes n.symm) h.DB.symm,h.nM,h.le,h.pre,?_,s.only g j,h.DB,j.symm,n.symm,O h.oD,O h.oB,al rfl,UK.zy (UK.zy h.tab i k) g h.Lp,λ f=>?_⟩
 ·rcases h.fI with w|⟨F,e,r,m,t,p,u⟩
  ·exact O w
  have o:F≠a:=by
   have:=r.lt;rcases b with rfl|b
   ·exact p
   omega
  exact al ⟨F,e,(r.only i o).only g m,m,t,o,O u⟩
 rcases f with f|f
 ·exact h.iD f
 exact k f
theorem qt(h:aK W own D B bc fo fc I ic y d)(i:Y d.x<=40000000) :
  ∃f bc' x W',(Builtin.append_ #[94,3] 94 #[ad B (Y d.x) bc,V U 512]).run prog W= .ok (ad (some ⟨f,0,none⟩) (Y d.x+512) bc') W'/\aF W' f x/\Y x=bc'/\Y d.x+512<=bc'/\x.take (Y d.x+512)=d.x++UK.bM 512/\Only f W W'/\(f=B\/W.1.size<=f):=by
 obtain⟨f,bc',x,W',e,b,c,g,k,o⟩:=UK.wh (P:=prog) (t:=94) (tn:=3) (ty:=94) (k:=U) (kn:=U) underlying94 underlying3 (i:=t5) rfl rfl rfl rfl h.bytes h.nM h.le h.pre 512 Z Z;refine⟨f,bc',x,W',e,b,c,g,k,?_⟩;rcases o with⟨a,o⟩|⟨a,o⟩
 ·exact⟨a▸o,O a⟩
 exact⟨Only.of_below o,al Z⟩
theorem KH(h:aK W own D B bc fo fc I ic y d)(b:Bool)(g:Y d.gH<=60000) :
  ∃a f W',(Builtin.append_ #[140,140] 140 #[ad I (Y d.gH) ic,ad W 1 1]).run prog (W.alloc (.cells #[a6 b] 4))= .ok (ad (some ⟨a,0,none⟩) (Y d.gH+1) f) W'/\Row W' a f (Dc (d.gH++[b]))/\Only a W W'/\(a=I\/W.1.size<=a):=by
 obtain⟨a,f,W',e,r,o,c⟩:=UK.J8 (P:=prog) (t:=140) (ty:=140) underlying140 (i:=t4) rfl rfl rfl (show(1:Nat)<=16 from Z) rfl (al ⟨I,rfl,h.flags⟩) (a6 b) rfl (by rw[Ll];omega);rw[Ll]at e;refine⟨a,f,W',e,by unfold Dc at *;rw[dI];exact r,o,?_⟩;rcases c with c|c
 ·exact O (congrArg Addr.block (bf c)).symm
 exact al c
def takeN(d:Dk)(au:Nat):Dk:={d with wl:=iX d.wl,puts:=d.puts+1,x:=UK.wr (d.x++UK.bM 512) (512*au) (jJ au []),gH:=d.gH++[false]}
theorem iS(h:aK W own D B bc fo fc I ic y d)(f:Fit d au)(h2:d.puts+1<1000000000)(G:d.free=[])(hm:(au:Int)<d.aA)(h0:d.wl≠0) :
  Calls prog 155 #[aq D] W λ e j=>e=aw (a9 #[V U au,V U 0])/\∃own',jK j own' D (takeN d au)/\Moves own own' W j:=by
 have L:=fZ h f;have X:Y d.free=0:=by rw[G];rfl
 obtain⟨r,P⟩:∃r,Hid (d.aA-au+Y d.free=r):=⟨_,rfl⟩;have hr:0<r:=by have:=P.out;omega
 rw[P.out]at L;have HE:Hid (jG d.wl=0):=by show _=_;unfold jG;rw[aE h0]
 have M:=zH h2;have h7:=f.puts.1;have h6:=f.puts.2;have pJ:=zC d.wl f.wl;have iH:=f.few;have h3:=f.aA.2.1;have Xr:au<60000:=Z
 have p:=zH f.flags;have n:=zH f.len;have HL:=zH G;have HLen:=zH X;have HM:=zH hm;clear h0 h2 G X hm h3
 go_enter func155,ntmps155
 go_wp2_with fail
 refine L.mono ?_;rintro e j ⟨rfl,q,rfl⟩;have l:=h.drewN q;have A:=Moves.of_below (o:=own) (UK.dN (aU W W) q);generalize W.drewN q=w1 at l A ⊢;have H:=BX l.cells 5 d.wl rfl f.wl;rw[HE.out]at H
 go_wp2_with fail
 refine H.mono ?_;rintro e R ⟨rfl,r1,z⟩;have i:=l.gW (d':={d with wl:=iX d.wl}) r1 z rfl rfl rfl;have c7:=i.cells.at' 7 _ rfl;have F:=i.cells.free 7 Z;have r3:=i.cells.set 7 (V U (d.puts+1)) (by show 7<8;omega);have C:=(Only.refl D R).set 7 (V U (d.puts+1));have c:=i.gW (d':=tY d) r3 C rfl rfl rfl;have T:=(A.trans (Moves.bQ z h.oD)).trans (Moves.bQ C h.oD);have f3:Fit (tY d) au:=⟨f.len,f.flags,f.one,f.few,f.aA,f.free,f.eQ,f.rl,pJ,f.reads,by show 0<=d.puts+1/\_;exact⟨Z,M.out⟩⟩
 go_wp2_with fail
 generalize R.setCell (D,7) (V U (d.puts+1))=w3 at c T ⊢;clear i c7 F r3 C r1 z H L A l;refine(J6 c f3).mono ?_;rintro e j ⟨rfl,rfl⟩;have c2:=c.cells.at' 2 _ rfl;rw[show(tY d).free.length=0 from HLen.out]at c2;have c0:=c.cells.at' 0 _ rfl;rw[show(tY d).x.length=512*au from n.out]at c0;obtain⟨a,bc',x,o,e4,b4,l4,k4,p4,s,t⟩:=qt c (by show Y d.x<=_;rw[n.out];omega);have u:(d.x++UK.bM 512).length=512*au+512:=by rw[zl,UK.kr,n.out]
 have e4':=e4;rw[show(tY d).x.length=512*au from n.out]at e4' k4 p4;have b:=c.Dh (x':=d.x++UK.bM 512) b4 l4 Z (by rw[u];exact p4) s t;rw[u]at b;have h1:a≠D:=b.DB.symm
 have h4:own a\/j.1.size<=a:=by
  rcases t with rfl|t
  ·exact O h.oB
  exact al t
 have f0:=(c.cells.only s h1.symm).free 0 Z;have c0':=(c.cells.only s h1.symm).at' 0 _ rfl;have m5:=(T.trans (Moves.rX s h4)).trans (Moves.bQ ((Only.refl D o).set 0 (ad a (512*au+512) bc')) (show also own a D from O h.oD));have c3:=b.cells.at' 3 _ rfl;rw[show(tY d).gH.length=au from p.out]at c3;obtain⟨g,E,w6,K,r6,v,w⟩:=KH b false (by show Y d.gH<=_;rw[p.out];omega);have J:(d.gH++[false]).length=au+1:=by rw[zl,p.out];rfl
 have m:=b.Di (l:=d.gH++[false]) r6 v w;rw[J]at m;have N:g≠D:=m.DI.symm
 have h5:also own a g\/(o.setCell D (ad a (512*au+512) bc')).1.size<=g:=by
  rcases w with rfl|w
  ·exact O (O h.oI)
  exact al w
 have f3':=(b.cells.only v N.symm).free 3 Z;have c3':=(b.cells.only v N.symm).at' 3 _ rfl;have m7:=(m5.trans (Moves.rX v h5)).trans (Moves.bQ ((Only.refl D w6).set 3 (ad g (au+1) E)) (show also (also own a) g D from O (O h.oD)));rw[show({tY d with x:=d.x++UK.bM 512}:Dk).gH.length=au from p.out]at K;rw[show(o.setCell D (ad a (512*au+512) bc')).1.size=o.1.size by simp]at K
 have F:Fit {tY d with x:=d.x++UK.bM 512,gH:=d.gH++[false]} (au+1):=⟨by rw[u];omega,J,Z,Z,⟨f.aA.1,f.aA.2.1,by show((au+1:Nat):Int)<=d.aA;have:=HM.out;omega⟩,(λ k hk=>by
   have S:k∈d.free:=hk;rw[HL.out]at S
   cases S),by show Y d.free<=_;rw[HL.out];exact aR _,f.rl,pJ,f.reads,by show 0<=d.puts+1/\_;exact⟨Z,M.out⟩⟩
 have d7:Dat _ _ (also (also own a) g) D a bc' fo fc g E x {tY d with x:=d.x++UK.bM 512,gH:=d.gH++[false]} (au+1):=⟨m,F,Moves.of_below (aU _ _)⟩;clear b m5 m e4 u J
 go_wp2_with (first|(at_builtin;refine UK.jm e4' rfl rfl rfl rfl rfl ?_)|(at_builtin;refine UK.jm K rfl rfl rfl rfl rfl ?_))
 refine(Ls d7 au [] Z (by decide)).mono ?_;rintro e w8 ⟨rfl,y8,Q⟩;go_wp2;go_ret2;exact⟨rfl,_,⟨a,bc',_,fc,g,E,y8,Q.at_⟩,m7.trans Q.moves⟩
end
section
variable{own:Nat->Prop}{fo:Option Addr}
theorem sx(h:aK W own D B bc fo fc I ic y d)(f:Fit d au)(p:Int)(c:bF d au p=true)(s:List UInt8)(g:Y s≠504) :
  Calls prog 254 #[aq D,V U p,a8 (str s)] W λ e a=>e=aw (V U 1)/\jK a own D d/\Moves own own W a:=by
 have b:=zB h f p;rw[c]at b;have i:(((Y s:Nat):Int)==504)=false:=beq_eq_false_iff_ne.2 Z
 go_enter func254,ntmps254
 go_wp2_with fail
 refine b.mono ?_;rintro e a ⟨rfl,q,rfl⟩;go_wp2;go_ret;exact⟨rfl,⟨B,bc,fo,fc,I,ic,y,h.drewN q⟩,Moves.of_below (UK.dN (aU _ _) q)⟩
def Dv(d:Dk)(k:Nat)(b:UInt8):Dk:={d with x:=d.x.set k (UK.Sj (nth d.x k) b)}
end
structure Kept(S:Nat->Prop)(W W':World):Prop where
 os:W'.os=W.os
 tape:W'.tape=W.tape
 output:W'.output=W.output
 size:W.1.size<=W'.1.size
 block:∀k,S k->W'.1[k]?=W.1[k]?
namespace Kept
variable{A B C:World}
theorem refl(S:Nat->Prop)(A:World):Kept S A A:=⟨rfl,rfl,rfl,aH _,λ _ _=>rfl⟩
theorem trans(h:Kept S A B)(k:Kept S B C):Kept S A C:=⟨k.os.trans h.os,k.tape.trans h.tape,k.output.trans h.output,aT h.size k.size,λ i a=>(k.block i a).trans (h.block i a)⟩
theorem mono(h:Kept S A B)(a:∀k,T k->S k):Kept T A B:=⟨h.os,h.tape,h.output,h.size,λ i b=>h.block i (a i b)⟩
theorem of_below(h:Below n A B)(a:∀k,S k->k<n):Kept S A B:=⟨h.os,h.tape,h.output,h.size,λ i b=>h.block i (a i b)⟩
end Kept
def DD(S:Nat->Prop)(W:World)(D:Nat)(d:Dk)(au:Nat):Prop:=(∃own,(∀k,own k->¬S k)/\jK W own D d)/\Fit d au/\∀k,S k->k<W.1.size
theorem DD.fit(h:DD S W D d au):Fit d au:=h.2.1
theorem DD.there(h:DD S W D d au):∀k,S k->k<W.1.size:=h.2.2
theorem DD.tab(h:DD S W D d au):lY W:=by
 obtain⟨⟨own,a,B,bc,fo,fc,I,ic,y,h⟩,f⟩:=h;exact h.tab
theorem DD.Sk{f:Nat}(h:DD S W D d au)(n:∀own B bc fo fc I ic y,aK W own D B bc fo fc I ic y d->Calls prog f args W λ c a=>c=aw r/\∃own',jK a own' D e/\Moves own own' W a)(hf:Fit d au->Fit e cnt') :
  Calls prog f args W λ c a=>c=aw r/\DD S a D e cnt'/\Kept S W a:=by
 obtain⟨⟨own,l,B,bc,fo,fc,I,ic,y,hd⟩,o,g⟩:=h;refine(n own B bc fo fc I ic y hd).mono ?_;rintro c a ⟨rfl,own',p,m⟩
 exact⟨rfl,⟨⟨own',λ k b j=>by
  rcases m.owns k b with i|i
  ·exact l k i j
  have:=g k j;omega,p⟩,hf o,λ k b=>cB (g k b) m.size⟩,⟨m.os,m.tape,m.output,m.size,λ k b=>m.block k (g k b) (λ h=>l k h b)⟩⟩
theorem DD.kP{f:Nat}(h:DD S W D d au)(j:∀own B bc fo fc I ic y,aK W own D B bc fo fc I ic y d->Calls prog f args W λ i g=>i=aw r/\jK g own D e/\Moves own own W g)(hf:Fit d au->Fit e cnt') :
  Calls prog f args W λ i g=>i=aw r/\DD S g D e cnt'/\Kept S W g:=
 h.Sk (λ own B bc fo fc I ic y hd=>(j own B bc fo fc I ic y hd).mono λ _ _ ⟨a,b,c⟩=>⟨a,own,b,c⟩) hf
theorem DD.below(h:DD S W D d au)(a:Below W W W'):DD S W' D d au:=by
 obtain⟨⟨own,c,B,bc,fo,fc,I,ic,y,hd⟩,f,e⟩:=h;exact⟨⟨own,c,B,bc,fo,fc,I,ic,y,hd.below a⟩,f,λ k b=>cB (e k b) a.size⟩
theorem aK.tight{own:Nat->Prop}{fo:Option Addr}(h:aK W own D B bc fo fc I ic y d):aK W (λ k=>own k/\k<W.1.size) D B bc fo fc I ic y d:=by
 refine⟨h.cells,h.bytes,h.nM,h.le,h.pre,?_,h.flags,h.DB,h.DI,h.BI,⟨h.oD,h.cells.lt⟩,⟨h.oB,h.bytes.lt⟩,⟨h.oI,h.flags.lt⟩,h.tab,λ a=>h.iD a.1⟩;rcases h.fI with c|⟨F,b,r,f,e,i,g⟩
 ·exact O c
 exact al ⟨F,b,r,f,e,i,g,r.lt⟩
theorem Lt(x:List UInt8)(p:Nat)(s:List UInt8)(a:Y s<=504)(h:512*(p+1)<=Y x):(UK.wr x (512*p) (jJ p s)).length=Y x:=
 UK.jF _ _ _ (by rw[BZ p s a];omega)
theorem Lu(f:Fit d au)(a:d.puts+1<1000000000):0<=d.puts+1/\d.puts+1<1000000000:=by have:=f.puts;omega
theorem GB(f:Fit d au)(a:d.reads+1<1000000000):0<=d.reads+1/\d.reads+1<1000000000:=by have:=f.reads;omega
theorem Sl(f:Fit d au)(a:d.puts+1<1000000000)(p:Nat)(c:p<au)(s:List UInt8)(b:Y s<=504):Fit (Fs d p s) au:=
 ⟨(Lt d.x p s b (by rw[f.len];omega)).trans f.len,f.flags,f.one,f.few,f.aA,f.free,f.eQ,f.rl,zC _ f.wl,f.reads,Lu f a⟩
theorem Xt(f:Fit d au)(a:d.puts+1<1000000000):Fit (De d au) au:=by
 unfold De
 split
 ·exact⟨f.len,f.flags,f.one,f.few,f.aA,f.free,f.eQ,f.rl,(by show(-1:Int)<= -1/\(-1:Int)<=_;omega),f.reads,f.puts⟩
 have:=Lt d.x 0 (J7 d au) (by rw[Xp];decide) (by rw[f.len];have:=f.one;omega);exact⟨this.trans f.len,f.flags,f.one,f.few,f.aA,f.free,f.eQ,f.rl,zC _ f.wl,f.reads,Lu f a⟩
theorem Xu(f:Fit d au)(k:Int)(a: -1<=k/\k<=9223372036854775807):Fit {d with rl:=k} au:=⟨f.len,f.flags,f.one,f.few,f.aA,f.free,f.eQ,a,f.wl,f.reads,f.puts⟩
theorem JA(f:Fit d au)(k:Int)(a: -1<=k/\k<=9223372036854775807):Fit {d with wl:=k} au:=⟨f.len,f.flags,f.one,f.few,f.aA,f.free,f.eQ,f.rl,a,f.reads,f.puts⟩
theorem Sm(f:Fit d au)(a:d.reads+1<1000000000):Fit {d with rl:=iX d.rl,reads:=d.reads+1} au:=⟨f.len,f.flags,f.one,f.few,f.aA,f.free,f.eQ,zC _ f.rl,f.wl,GB f a,f.puts⟩
theorem Sq(f:Fit d au)(g:d.puts+1<1000000000)(p:Nat)(c:1<=p)(b:p<au)(e:Y d.free<au):Fit (uW d p) au:=
 ⟨(Lt d.x p (tN d (Y d.free)) (by rw[iI];decide) (by rw[f.len];omega)).trans f.len,by show(d.gH.set p true).length=au;rw[aV];exact f.flags,f.one,f.few,f.aA,λ k a=>by
   rcases dm.1 a with a|a
   ·exact f.free k a
   rw[bu.1 a];exact⟨c,b⟩,by show(d.free++[p]).length<=au;rw[zl];exact e,f.rl,zC _ f.wl,f.reads,Lu f g⟩
theorem Sr(f:Fit d au)(c:d.puts+1<1000000000)(l:List Nat)(p:Nat)(a:d.free=l++[p]):Fit (iE d l p) au:=by
 have e:=f.free p (by rw[a];exact lL _ (bu.2 rfl));have g:Y l+1<=au:=by have:=f.eQ;rw[a,zl]at this;exact this
 exact⟨(Lt d.x p [] (by decide) (by rw[f.len];omega)).trans f.len,by show(d.gH.set p false).length=au;rw[aV];exact f.flags,f.one,f.few,f.aA,λ k b=>f.free k (by rw[a];exact fw _ b),by show Y l<=au;omega,f.rl,zC _ f.wl,f.reads,Lu f c⟩
theorem Su(f:Fit d au)(g:d.puts+1<1000000000)(b:d.free=[])(h:(au:Int)<d.aA):Fit (takeN d au) (au+1):=by
 have a:(d.x++UK.bM 512).length=512*(au+1):=by rw[zl,UK.kr,f.len];omega
 refine⟨(Lt _ au [] (by decide) (by rw[a];omega)).trans a,by show(d.gH++[false]).length=_;rw[zl,f.flags];rfl,Z,?_,⟨f.aA.1,f.aA.2.1,by show((au+1:Nat):Int)<=d.aA;omega⟩,λ k e=>?_,?_,f.rl,zC _ f.wl,f.reads,Lu f g⟩
 ·have:=f.aA.2.1;omega
 ·have c:k∈d.free:=e;rw[b]at c;cases c
 show Y d.free<=_;rw[b];exact aR _
theorem nl(W:World)(pages:Int)(h:lY W)(S:Nat->Prop)(g:∀k,S k->k<W.1.size) :
  Calls prog 34 #[V U pages] W λ e d=>e=aw (aq W)/\DD S d W (nN pages) 1/\Below W W d:=
 (GO W pages h).mono λ _ _ ⟨a,b,c⟩=>⟨a,⟨⟨_,λ k f i=>by have:=g k i;omega,b⟩,Xt (Sg pages) (by show(0:Int)+1<_;omega),λ k f=>cB (g k f) c.size⟩,c⟩
theorem AH(h:DD S W D d au)(b:d.aA-au+Y d.free=0) :
  Calls prog 155 #[aq D] W λ e a=>e=aw (a9 #[V U 0,V U 6])/\DD S a D d au/\Kept S W a:=
 h.kP (λ _ _ _ _ _ _ _ _ hd=>tR hd h.fit b) id
theorem pD(h:DD S W D d au)(c:0<d.aA-au+Y d.free)(b:d.wl=0) :
  Calls prog 155 #[aq D] W λ e a=>e=aw (a9 #[V U 0,V U 7])/\DD S a D {d with wl:= -1} au/\Kept S W a:=
 h.kP (λ _ _ _ _ _ _ _ _ hd=>p0 hd h.fit c b) (λ f=>JA f (-1) Z)
theorem JT(h:DD S W D d au)(c:d.puts+1<1000000000)(l:List Nat)(p:Nat)(b:d.free=l++[p])(g:d.wl≠0) :
  Calls prog 155 #[aq D] W λ e a=>e=aw (a9 #[V U p,V U 0])/\DD S a D (iE d l p) au/\Kept S W a:=
 h.kP (λ _ _ _ _ _ _ _ _ hd=>GX hd h.fit c l p b g) (λ f=>Sr f c l p b)
theorem F1(h:DD S W D d au)(g:d.puts+1<1000000000)(c:d.free=[])(b:(au:Int)<d.aA)(i:d.wl≠0) :
  Calls prog 155 #[aq D] W λ e a=>e=aw (a9 #[V U au,V U 0])/\DD S a D (takeN d au) (au+1)/\Kept S W a:=
 h.Sk (λ _ _ _ _ _ _ _ _ hd=>iS hd h.fit g c b i) (λ f=>Su f g c b)
theorem vj(h:DD S W D d au)(p:Int)(b:bF d au p=false) :
  Calls prog 123 #[aq D,V U p] W λ e a=>e=aw (V U 4)/\DD S a D d au/\Kept S W a:=
 h.kP (λ _ _ _ _ _ _ _ _ hd=>Kx hd h.fit p b) id
theorem D4(h:DD S W D d au)(p:Int)(c:bF d au p=true)(b:d.wl=0) :
  Calls prog 123 #[aq D,V U p] W λ e a=>e=aw (V U 7)/\DD S a D {d with wl:= -1} au/\Kept S W a:=
 h.kP (λ _ _ _ _ _ _ _ _ hd=>wD hd h.fit p c b) (λ f=>JA f (-1) Z)
theorem Ca(a:bF d au p=true):1<=p/\p<au/\d.gH.getD p false=false:=by
 unfold bF at a;rw[Bool.and_eq_true,decide_eq_true_eq,Bool.not_eq_true',Int.toNat_natCast]at a;exact⟨Z,Z,a.2⟩
theorem qs(h:DD S W D d au)(c:d.puts+1<1000000000)(p:Nat)(a:bF d au p=true)(i:Y d.free<au)(g:d.wl≠0) :
  Calls prog 123 #[aq D,V U p] W λ e b=>e=aw (V U 0)/\DD S b D (uW d p) au/\Kept S W b:=
 h.Sk (λ _ _ _ _ _ _ _ _ hd=>Kw hd h.fit c p (Ca a).2.1 a g) (λ f=>Sq f c p (Ca a).1 (Ca a).2.1 i)
theorem IL(h:DD S W D d au)(p:Int)(b:bF d au p=false) :
  Calls prog 129 #[aq D,V U p] W λ e a=>e=aw (a9 #[a8 (str []),V U 4])/\DD S a D d au/\Kept S W a:=
 h.kP (λ _ _ _ _ _ _ _ _ hd=>ts hd h.fit p b) id
theorem ml(h:DD S W D d au)(p:Int)(c:bF d au p=true)(b:d.rl=0) :
  Calls prog 129 #[aq D,V U p] W λ e a=>e=aw (a9 #[a8 (str []),V U 7])/\DD S a D {d with rl:= -1} au/\Kept S W a:=
 h.kP (λ _ _ _ _ _ _ _ _ hd=>mP hd h.fit p c b) (λ f=>Xu f (-1) Z)
def Fv(d:Dk):Dk:={d with rl:=iX d.rl,reads:=d.reads+1}
theorem Ir(h:DD S W D d au)(g:d.reads+1<1000000000)(p:Nat)(a:bF d au p=true)(c:d.rl≠0) :
  Calls prog 129 #[aq D,V U p] W λ e b=>e=aw (a9 #[a8 (str (lu d.x p)),V U (zG d.x p)])/\DD S b D (Fv d) au/\Kept S W b:=
 h.kP (λ _ _ _ _ _ _ _ _ hd=>uh hd h.fit p (Ca a).2.1 a c) (λ f=>Sm f g)
theorem CN(h:DD S W D d au)(p:Int)(b:bF d au p=false)(s:List UInt8) :
  Calls prog 254 #[aq D,V U p,a8 (str s)] W λ e a=>e=aw (V U 4)/\DD S a D d au/\Kept S W a:=
 h.kP (λ _ _ _ _ _ _ _ _ hd=>yG hd h.fit p b s) id
theorem Eb(h:DD S W D d au)(p:Int)(b:bF d au p=true)(s:List UInt8)(c:Y s≠504) :
  Calls prog 254 #[aq D,V U p,a8 (str s)] W λ e a=>e=aw (V U 1)/\DD S a D d au/\Kept S W a:=
 h.kP (λ _ _ _ _ _ _ _ _ hd=>sx hd h.fit p b s c) id
theorem CE(h:DD S W D d au)(p:Int)(b:bF d au p=true)(c:d.wl=0)(s:List UInt8)(g:Y s=504) :
  Calls prog 254 #[aq D,V U p,a8 (str s)] W λ e a=>e=aw (V U 7)/\DD S a D {d with wl:= -1} au/\Kept S W a:=
 h.kP (λ _ _ _ _ _ _ _ _ hd=>Jr hd h.fit p b c s g) (λ f=>JA f (-1) Z)
theorem xF(h:DD S W D d au)(c:d.puts+1<1000000000)(p:Nat)(a:bF d au p=true)(g:d.wl≠0)(s:List UInt8)(i:Y s=504) :
  Calls prog 254 #[aq D,V U p,a8 (str s)] W λ e b=>e=aw (V U 0)/\DD S b D (Fs d p s) au/\Kept S W b:=
 h.kP (λ _ _ _ _ _ _ _ _ hd=>lR hd h.fit c p (Ca a).2.1 a g s i) (λ f=>Sl f c p (Ca a).2.1 s Z)
theorem Pv(h:DD S W D d au)(p:Int) :
  Calls prog 121 #[aq D,V U p] W λ e a=>e=aw (a6 (bF d au p))/\∃q,a=W.drewN q:=by
 have f:=h.fit;obtain⟨⟨own,c,B,bc,fo,fc,I,ic,y,hd⟩,b⟩:=h;exact zB hd f p
open Go.RowKit
open UK (str aF nth Only Row ay)
structure Fr where
 blk:Nat
 db:Nat
 cap:Nat
 page:Int
 data:List UInt8
 aj:Int
 used:Bool
 bY:Bool
variable{l:List (Option Fr)}{fr b:Fr}{o m u:Option Fr}
def kJ:Nat->List (Option Fr)->Nat->Option Nat×List (Option Fr)×Nat
 | 0,l,h=>(none,l,h)
 | n+1,l,h=>match l.getD h none with
  | none=>(some h,l,(h+1)%Y l)
  | some f=>if 0<f.aj then kJ n l ((h+1)%Y l) else if f.used=true then kJ n (l.set h (some {f with used:=false})) ((h+1)%Y l) else(some h,l,(h+1)%Y l)
theorem Kn(n:Nat)(a:l[h]?=some none):kJ (n+1) l h=(some h,l,(h+1)%Y l):=by
 have e:l.getD h none=none:=by rw[fV,a];rfl
 simp only[kJ,e]
theorem Ko(n:Nat){f:Fr}(a:l[h]?=some (some f)):kJ (n+1) l h=if 0<f.aj then kJ n l ((h+1)%Y l) else if f.used=true then kJ n (l.set h (some {f with used:=false})) ((h+1)%Y l) else(some h,l,(h+1)%Y l):=by
 have e:l.getD h none=some f:=by rw[fV,a];rfl
 simp only[kJ,e]
def kK(l:List (Option Fr))(f:Int->Option Int):Prop:=∀p i,f p=some i↔∃j:Nat,i=j/\∃fr,l[j]?=some (some fr)/\fr.page=p
def cntF(l:List (Option Fr)):Nat:=(l.filter Option.isSome).length
def uG:List (Option Fr)->Int
 | []=>0
 | none::l=>uG l
 | some f::l=>f.aj+uG l
theorem kK.at_(h:kK l f)(a:l[j]?=some (some fr)):f fr.page=some (j:Int):=(h _ _).2 ⟨j,rfl,fr,a,rfl⟩
theorem kK.inj(h:kK l f){a:Fr}(d:l[i]?=some (some a))(k:l[j]?=some (some b))(e:a.page=b.page):i=j:=by
 have c:=h.at_ d;have g:=h.at_ k;rw[e,g]at c;have:=bf c;omega
theorem kK.no(h:kK l f){p:Int}(a:f p=none)(b:l[j]?=some (some fr)):fr.page≠p:=λ e=>by
 have:=h.at_ b;rw[e,a]at this;cases this
theorem gF(l:List (Option Fr))(i j:Nat)(o:Option Fr)(a:i<Y l):(l.set i o)[j]?=if i=j then some o else l[j]?:=by
 rw[List.getElem?_set];by_cases e:i=j
 ·rw[be e,be e,be a]
 rw[aE e,aE e]
theorem kK.forget(h:kK l f)(d:l[i]?=some (some fr)):kK (l.set i none) (λ p=>if p=fr.page then none else f p):=by
 have k:=(dz.1 d).1;intro p q;show(if p=fr.page then none else f p)=some q↔_;by_cases e:p=fr.page
 ·rw[be e]
  constructor
  ·intro n;cases n
  rintro⟨j,_,g,a,c⟩;rw[gF l i j _ k]at a;by_cases b:i=j
  ·rw[be b]at a;cases a
  rw[aE b]at a;exact absurd (h.inj d a (by rw[c,e])) b
 rw[aE e,h p q]
 constructor
 ·rintro⟨j,m,g,a,c⟩;refine⟨j,m,g,?_,c⟩;rw[gF l i j _ k,aE (λ b=>?_)]
  ·exact a
  subst b;rw[d]at a;have:=bf (bf a);exact e (by rw[<-c,this])
 rintro⟨j,m,g,a,c⟩;rw[gF l i j _ k]at a;by_cases b:i=j
 ·rw[be b]at a;cases a
 rw[aE b]at a;exact⟨j,m,g,a,c⟩
theorem kK.lay(h:kK l f)(m:l[i]?=some none)(n:f fr.page=none):kK (l.set i (some fr)) (λ p=>if p=fr.page then some (i:Int) else f p):=by
 have k:=(dz.1 m).1;intro p q;show(if p=fr.page then some (i:Int) else f p)=some q↔_;by_cases e:p=fr.page
 ·rw[be e]
  constructor
  ·intro o;exact⟨i,(bf o).symm,fr,by rw[gF l i i _ k,be rfl],e.symm⟩
  rintro⟨j,d,g,a,c⟩;rw[gF l i j _ k]at a;by_cases b:i=j
  ·rw[d,b]
  rw[aE b]at a;exact absurd (c.trans e) (h.no n a)
 rw[aE e,h p q]
 constructor
 ·rintro⟨j,d,g,a,c⟩;refine⟨j,d,g,?_,c⟩;rw[gF l i j _ k,aE (λ b=>?_)]
  ·exact a
  subst b;rw[m]at a;cases a
 rintro⟨j,d,g,a,c⟩;rw[gF l i j _ k]at a;by_cases b:i=j
 ·rw[be b]at a;have:=bf (bf a);exact absurd (by rw[<-c,<-this]) e
 rw[aE b]at a;exact⟨j,d,g,a,c⟩
theorem kK.turn(h:kK l f){a:Fr}(m:l[i]?=some (some a))(o:b.page=a.page):kK (l.set i (some b)) f:=by
 have n:=(dz.1 m).1;intro p q;rw[h p q]
 constructor
 ·rintro⟨j,k,g,c,e⟩;by_cases d:i=j
  ·subst d;rw[m]at c;have:=bf (bf c);exact⟨i,k,b,by rw[gF l i i _ n,be rfl],by rw[o,this,e]⟩
  exact⟨j,k,g,by rw[gF l i j _ n,aE d];exact c,e⟩
 rintro⟨j,k,g,c,e⟩;rw[gF l i j _ n]at c;by_cases d:i=j
 ·rw[be d]at c;have:=bf (bf c);subst d;exact⟨i,k,a,m,by rw[<-o,this,e]⟩
 rw[aE d]at c;exact⟨j,k,g,c,e⟩
theorem QF(o:Option Fr)(l:List (Option Fr)):cntF (o::l)=(if o.isSome then 1 else 0)+cntF l:=by
 unfold cntF
 cases o with
 | none=>simp
 | some f=>simp;omega
theorem NC:∀(l:List (Option Fr)) (i:Nat) (a b:Option Fr),l[i]?=some a->cntF (l.set i b)+(if a.isSome then 1 else 0)=cntF l+(if b.isSome then 1 else 0)
 | [],i,a,b,h=>by cases h
 | o::l,0,a,b,h=>by
  obtain rfl:o=a:=by simpa using h
  rw[z0,QF,QF];omega
 | o::l,i+1,a,b,h=>by
  rw[z1,QF,QF];have:=NC l i a b (by simpa using h);omega
theorem tM(l:List (Option Fr)):cntF l<=Y l:=List.length_filter_le _ _
def jf(o:Option Fr):Int:=match o with
 | none=>0
 | some f=>f.aj
theorem Kr(o:Option Fr)(l:List (Option Fr)):uG (o::l)=jf o+uG l:=by
 cases o<;>simp[uG,jf]
theorem UG:∀(l:List (Option Fr)) (i:Nat) (a b:Option Fr),l[i]?=some a->uG (l.set i b)=uG l-jf a+jf b
 | [],i,a,b,h=>by cases h
 | o::l,0,a,b,h=>by
  obtain rfl:o=a:=by simpa using h
  rw[z0,Kr,Kr];omega
 | o::l,i+1,a,b,h=>by
  rw[z1,Kr,Kr];have:=UG l i a b (by simpa using h);omega
open UK (str aF nth Only Row ay kX nW)
structure ll where
 wb:Nat
 was:Int->Option (List UInt8)
 wn:Nat
 mo:Option Addr
 mc:Nat
 made:List Int
 go:Option Addr
 gc:Nat
 gone:List Int
variable{op:Option ll}
structure Pl where
 af:List (Option Fr)
 hand:Nat
 aj:Int
 op:Option ll
variable{q:Pl}
def yF(o:Option ll):Value:=a6 o.isSome
def uI:Option ll->Value
 | none=>.map none
 | some o=>.map (some o.wb)
def II:Option ll->Value
 | none=>ad none 0 0
 | some o=>ad o.mo (Y o.made) o.mc
def Kt:Option ll->Value
 | none=>ad none 0 0
 | some o=>ad o.go (Y o.gone) o.gc
def Bh(l:List Int):List Value:=l.map λ i=>V U i
def ib(W:World)(v:Option Addr)(c:Nat)(l:List Int):Prop:=(v=none/\l=[]/\c=0)\/∃g,v=some ⟨g,0,none⟩/\Row W g c (Bh l)
def aG(v:Option Addr)(k:Nat):Prop:=v=some ⟨k,0,none⟩
def jS(o:Option ll)(k:Nat):Prop:=match o with
 | none=>False
 | some o=>k=o.wb\/aG o.mo k\/aG o.go k
structure ND(W:World)(o:ll):Prop where
 was:nW prog 3 9 W o.wb o.wn o.was o.wn
 made:ib W o.mo o.mc o.made
 gone:ib W o.go o.gc o.gone
 wm:¬aG o.mo o.wb
 wg:¬aG o.go o.wb
 mg:∀k,aG o.mo k->¬aG o.go k
 wZ:∀p∈o.made,(Lit.int .i64 p).wf=true
 xh:∀p∈o.gone,(Lit.int .i64 p).wf=true
 few:o.wn<=1000000000/\o.made.length<=1000000000/\o.gone.length<=1000000000
def vV(W:World)(o:Option ll):Prop:=∀x,o=some x->ND W x
def rz(o:Option Fr):Value:=match o with
 | none=>aq none
 | some f=>aq f.blk
abbrev QG(P:Nat)(f:Fr):Array Value:= #[aq P,V U f.page,ad f.db 504 f.cap,V U f.aj,a6 f.used,a6 f.bY]
abbrev oN(D FB k M:Nat)(hand:Nat)(aj:Int)(o:Option ll):Array Value:= #[aq D,ad FB k k,.map (some M),V U hand,V U aj,yF o,uI o,II o,Kt o]
structure sW(W:World)(P:Nat)(f:Fr):Prop where
 box:ay W f.blk (QG P f)
 bytes:∃y,aF W f.db y/\y.length=f.cap/\y.take 504=f.data
 len:f.data.length=504
 cap:504<=f.cap
 page:(Lit.int .i64 f.page).wf=true
 ne:f.blk≠f.db
def nY(o:Option Fr)(k:Nat):Prop:=match o with
 | none=>False
 | some f=>k=f.blk\/k=f.db
def jT(P FB M:Nat)(l:List (Option Fr))(op:Option ll)(k:Nat):Prop:=k=P\/k=FB\/k=M\/jS op k\/∃(i:Nat) (o:Option Fr),l[i]?=some o/\nY o k
structure fK(W:World)(P D FB M:Nat)(q:Pl):Prop where
 box:ay W P (oN D FB (Y q.af) M q.hand q.aj q.op)
 uJ:Row W FB (Y q.af) (q.af.map rz)
 map:∃f,kK q.af f/\kX prog 3 3 W M (cntF q.af) f (cntF q.af)
 each:∀(i:Nat) (f:Fr),q.af[i]?=some (some f)->sW W P f
 PF:P≠FB
 PM:P≠M
 FM:FB≠M
 off:∀(i:Nat) (o:Option Fr) (k:Nat),q.af[i]?=some o->nY o k->k≠P/\k≠FB/\k≠M
 two:∀(i j:Nat) (o u:Option Fr) (k:Nat),i≠j->q.af[i]?=some o->q.af[j]?=some u->nY o k->¬nY u k
 op:vV W q.op
 iV:∀k,jS q.op k->k≠P/\k≠FB/\k≠M
 nC:∀(i:Nat) (o:Option Fr) (k:Nat),q.af[i]?=some o->nY o k->¬jS q.op k
 tab:∀(k:Nat),jT P FB M q.af q.op k->0 ≠k
structure PD(E:Nat->Prop)(W:World)(P D FB M:Nat)(q:Pl)(d:Dk)(au:Nat):Prop where
 pool:fK W P D FB M q
 dd:DD (λ k=>E k\/jT P FB M q.af q.op k) W D d au
 far:∀k,E k->¬jT P FB M q.af q.op k
section
variable{P:Nat}
theorem sW.ae{f:Fr}(h:sW W P f)(d:W'.1[f.blk]?=W.1[f.blk]?)(e:W'.1[f.db]?=W.1[f.db]?):sW W' P f:=by
 obtain⟨y,a,b,c⟩:=h.bytes;exact⟨h.box.ae d,⟨y,a.ae e,b,c⟩,h.len,h.cap,h.page,h.ne⟩
theorem sW.lt{f:Fr}(h:sW W P f)(b:nY (some f) k):k<W.1.size:=by
 obtain⟨y,a,_⟩:=h.bytes;rcases b with rfl|rfl
 ·exact h.box.lt
 exact a.lt
theorem ib.lt{l:List Int}(h:ib W v c l)(a:aG v k):k<W.1.size:=by
 rcases h with⟨h,_⟩|⟨g,h,r⟩
 ·rw[aG,h]at a;cases a
 rw[aG,h]at a;have:=Addr.mk.inj (bf a);rw[<-this.1];exact r.lt
theorem ib.ae{l:List Int}(h:ib W v c l)(b:W.1.size<=W'.1.size)(a:∀k,aG v k->W'.1[k]?=W.1[k]?):ib W' v c l:=by
 rcases h with h|⟨g,h,r⟩
 ·exact O h
 exact al ⟨g,h,r.ae b (a g h)⟩
theorem vV.lt{o:Option ll}(h:vV W o)(a:jS o k):k<W.1.size:=by
 cases o with
 | none=>exact absurd a id
 | some x=>
  have b:=h x rfl;rcases a with rfl|a|a
  ·exact b.was.lt
  ·exact b.made.lt a
  exact b.gone.lt a
theorem vV.ae{o:Option ll}(h:vV W o)(d:W.1.size<=W'.1.size)(c:∀k,jS o k->W'.1[k]?=W.1[k]?):vV W' o:=λ x e=>by
 subst e;have a:=h x rfl;exact⟨a.was.ae (c _ (O rfl)),a.made.ae d (λ k b=>c k (al (O b))),a.gone.ae d (λ k b=>c k (al (al b))),a.wm,a.wg,a.mg,a.wZ,a.xh,a.few⟩
theorem fK.zo(h:fK W P D FB M q)(b:q.af[i]?=some o)(a:nY o k):k<W.1.size:=by
 cases o with
 | none=>exact absurd a id
 | some f=>exact(h.each i f b).lt a
theorem fK.lt(h:fK W P D FB M q)(b:jT P FB M q.af q.op k):k<W.1.size:=by
 rcases b with rfl|rfl|rfl|a|⟨i,o,d,a⟩
 ·exact h.box.lt
 ·exact h.uJ.lt
 ·obtain⟨f,_,c⟩:=h.map;exact c.lt
 ·exact h.op.lt a
 exact h.zo d a
theorem fK.kept(h:fK W P D FB M q)(c:W.1.size<=W'.1.size)(a:∀k,jT P FB M q.af q.op k->W'.1[k]?=W.1[k]?):fK W' P D FB M q:=by
 obtain⟨f,hf,e⟩:=h.map
 exact⟨h.box.ae (a _ (O rfl)),h.uJ.ae c (a _ (al (O rfl))),⟨f,hf,e.ae (a _ (al (al (O rfl))))⟩,
  λ i g b=>(h.each i g b).ae (a _ (al (al (al (al ⟨i,_,b,O rfl⟩))))) (a _ (al (al (al (al ⟨i,_,b,al rfl⟩))))),h.PF,h.PM,h.FM,h.off,h.two,h.op.ae c (λ k d=>a k (al (al (al (O d))))),h.iV,h.nC,h.tab⟩
theorem PD.next(h:PD E W P D FB M q d au)(a:Below W W W'):PD E W' P D FB M q d au:=
 ⟨h.pool.kept a.size (λ k b=>a.block k (h.pool.lt b)),h.dd.below a,h.far⟩
theorem PD.disk(h:PD E W P D FB M q d au)(hd:DD (λ k=>E k\/jT P FB M q.af q.op k) W' D e cnt')(a:Kept (λ k=>E k\/jT P FB M q.af q.op k) W W'):PD E W' P D FB M q e cnt':=
 ⟨h.pool.kept a.size (λ k b=>a.block k (al b)),hd,h.far⟩
theorem UH(l:List (Option Fr))(i:Nat)(o:Option Fr)(h:l[i]?=some o):(l.map rz)[i]?=some (rz o):=by
 rw[dL,h];rfl
theorem gE(l:List (Option Fr))(i:Nat)(o u:Option Fr)(h:l[i]?=some o)(e:rz u=rz o):(l.set i u).map rz=l.map rz:=by
 refine List.ext_getElem? (λ j=>?_);have b:=(dz.1 h).1;rw[dL,dL,gF l i j _ b];by_cases a:i=j
 ·subst a;rw[be rfl,h];simp[e]
 rw[aE a]
theorem map_set(l:List (Option Fr))(i:Nat)(u:Option Fr):(l.set i u).map rz=(l.map rz).set i (rz u):=List.map_set
theorem fK.bV(h:fK W P D FB M q)(t:q.af[i]?=some o)(_ht:0 <W.1.size)(I:ay W' P (oN D FB (Y q.af) M hand aj q.op))(G:W.1.size<=W'.1.size)(E:∀k,jS q.op k->W'.1[k]?=W.1[k]?)(C:Row W' FB (Y q.af) ((q.af.set i m).map rz))(H:∃f,kK (q.af.set i m) f/\kX prog 3 3 W' M (cntF (q.af.set i m)) f (cntF (q.af.set i m)))(z:∀(j:Nat) (u:Option Fr) (k:Nat),j≠i->q.af[j]?=some u->nY u k->W'.1[k]?=W.1[k]?)(F:∀f,m=some f->sW W' P f)(w:∀k,nY m k->nY o k\/W.1.size<=k) :
  fK W' P D FB M {af:=q.af.set i m,hand:=hand,aj:=aj,op:=q.op}:=by
 have s:=(dz.1 t).1;have J:=h.box.lt;have K:=h.uJ.lt;have L:M<W.1.size:=h.lt (al (al (O rfl)))
 have B:∀k,nY m k->k≠P/\k≠FB/\k≠M:=λ k d=>by
  rcases w k d with g|g
  ·exact h.off i o k t g
  exact⟨Z,Z,Z⟩
 have A:∀j u k,j≠i->q.af[j]?=some u->nY m k->¬nY u k:=λ j u k c y d l=>by
  rcases w k d with g|g
  ·exact h.two i j o u k (dJ c) t y g l
  have:=h.zo y l;omega
 refine⟨by show ay _ _ (oN _ _ (q.af.set i m).length _ _ _ _);rw[aV];exact I,by show Row _ _ (q.af.set i m).length _;rw[aV];exact C,H,λ j f c=>?_,h.PF,h.PM,h.FM,λ j u k c d=>?_,λ a b u v k x p n d l=>?_,h.op.ae G E,h.iV,λ j u k c d l=>?_,λ k d=>?_⟩
 ·have c:(q.af.set i m)[j]?=some (some f):=c;rw[gF _ _ _ _ s]at c;by_cases e:i=j
  ·rw[be e]at c;exact F f (bf c)
  rw[aE e]at c;exact(h.each j f c).ae (z j _ _ (dJ e) c (O rfl)) (z j _ _ (dJ e) c (al rfl))
 ·have c:(q.af.set i m)[j]?=some u:=c;rw[gF _ _ _ _ s]at c;by_cases e:i=j
  ·rw[be e]at c;rw[<-bf c]at d;exact B k d
  rw[aE e]at c;exact h.off j u k c d
 ·have p:(q.af.set i m)[a]?=some u:=p;have n:(q.af.set i m)[b]?=some v:=n;rw[gF _ _ _ _ s]at p n;by_cases e:i=a
  ·rw[be e]at p;rw[aE (λ r=>x (e.symm.trans r))]at n;rw[<-bf p]at d;exact A b v k (λ r=>x (e.symm.trans r.symm)) n d l
  rw[aE e]at p;by_cases r:i=b
  ·rw[be r]at n;rw[<-bf n]at l;exact A a u k (dJ e) p l d
  rw[aE r]at n;exact h.two a b u v k x p n d l
 ·have c:(q.af.set i m)[j]?=some u:=c;rw[gF _ _ _ _ s]at c;by_cases e:i=j
  ·rw[be e]at c;rw[<-bf c]at d;rcases w k d with g|g
   ·exact h.nC i o k t g l
   have:=h.op.lt l;omega
  rw[aE e]at c;exact h.nC j u k c d l
 rcases d with d|d|d|d|⟨j,u,c,d⟩
 ·exact h.tab k (O d)
 ·exact h.tab k (al (O d))
 ·exact h.tab k (al (al (O d)))
 ·exact h.tab k (al (al (al (O d))))
 have c:(q.af.set i m)[j]?=some u:=c;rw[gF _ _ _ _ s]at c;by_cases e:i=j
 ·rw[be e]at c;rw[<-bf c]at d;rcases w k d with g|g
  ·exact h.tab k (al (al (al (al ⟨i,o,t,g⟩))))
  omega
 rw[aE e]at c;exact h.tab k (al (al (al (al ⟨j,u,c,d⟩))))
theorem jT.bV(d:l[i]?=some o)(f:∀k,nY m k->nY o k\/n<=k)(h:jT P FB M (l.set i m) op k):jT P FB M l op k\/n<=k:=by
 have g:=(dz.1 d).1;rcases h with h|h|h|h|⟨j,u,a,b⟩
 ·exact O (O h)
 ·exact O (al (O h))
 ·exact O (al (al (O h)))
 ·exact O (al (al (al (O h))))
 rw[gF _ _ _ _ g]at a;by_cases e:i=j
 ·rw[be e]at a;rw[<-bf a]at b;rcases f k b with c|c
  ·exact O (al (al (al (al ⟨i,o,d,c⟩))))
  exact al c
 rw[aE e]at a;exact O (al (al (al (al ⟨j,u,a,b⟩))))
theorem PD.moves{q':Pl}(h:PD E W P D FB M q d au)(m:Moves (jT P FB M q.af q.op) (jT P FB M q'.af q'.op) W W')(l:fK W' P D FB M q'):PD E W' P D FB M q' d au/\Kept E W W':=by
 obtain⟨⟨own,i,B,bc,fo,fc,I,ic,y,hd⟩,hf,j⟩:=h.dd;have w:∀k,E k->W'.1[k]?=W.1[k]?:=λ k a=>m.block k (j k (O a)) (h.far k a);have b:=hd.tight;have g:∀k,(own k/\k<W.1.size)->W'.1[k]?=W.1[k]?:=λ k a=>m.block k a.2 (λ e=>i k a.1 (al e));have x:=hd.tab.lt
 have t:lY W':=by
  have p:=m.block _ x (λ e=>h.pool.tab _ e rfl);intro c;exact(eB (a:=⟨_,_,none⟩) p).trans (hd.tab c)
 refine⟨⟨l,⟨⟨λ k=>own k/\k<W.1.size,λ k a e=>?_,B,bc,fo,fc,I,ic,y,?_⟩,hf,λ k a=>?_⟩,λ k a e=>?_⟩,⟨m.os,m.tape,m.output,m.size,w⟩⟩
 ·rcases e with e|e
  ·exact i k a.1 (O e)
  rcases m.owns k e with f|f
  ·exact i k a.1 (al f)
  have:=a.2;omega
 ·refine⟨b.cells.ae m.size (g _ b.oD),b.bytes.ae (g _ b.oB),b.nM,b.le,b.pre,?_,b.flags.ae m.size (g _ b.oI),b.DB,b.DI,b.BI,b.oD,b.oB,b.oI,t,b.iD⟩;rcases b.fI with z|⟨F,v,r,u,s,o,n⟩
  ·exact O z
  exact al ⟨F,v,r.ae m.size (g _ n),u,s,o,n⟩
 ·rcases a with a|a
  ·exact cB (j k (O a)) m.size
  exact l.lt a
 rcases m.owns k e with f|f
 ·exact h.far k a f
 have:=j k (O a);omega
structure oO(q:Pl):Prop where
 aj:q.aj=uG q.af
 pos:∀(i:Nat) (f:Fr),q.af[i]?=some (some f)->0<=f.aj/\f.aj<=1000000
 hand:q.hand<Y q.af
 few:Y q.af<=1000
theorem QH:∀(n:Nat) (q:Pl),oO q->oO {af:=(kJ n q.af q.hand).2.1,hand:=(kJ n q.af q.hand).2.2,aj:=q.aj,op:=q.op}/\(kJ n q.af q.hand).2.1.length=Y q.af /\
  ∀i,(kJ n q.af q.hand).1=some i->∃o,(kJ n q.af q.hand).2.1[i]?=some o/\∀f,o=some f->f.aj=0
 | 0,q,h=>⟨h,rfl,λ i a=>by cases a⟩
 | n+1,q,h=>by
  have l:=h.hand;have c:(q.hand+1)%Y q.af<Y q.af:=kz _ Z;obtain⟨o,b⟩:∃o,q.af[q.hand]?=some o:=⟨_,bK l⟩
  cases o with
  | none=>
   rw[Kn n b];exact⟨⟨h.aj,h.pos,c,h.few⟩,rfl,λ i a=>⟨none,by rw[<-bf a];exact b,λ f hf=>by cases hf⟩⟩
  | some f=>
   rw[Ko n b];by_cases d:0<f.aj
   ·rw[be d];exact QH n {q with hand:=(q.hand+1)%Y q.af} ⟨h.aj,h.pos,c,h.few⟩
   rw[aE d];by_cases k:f.used=true
   ·rw[be k];have p:=(dz.1 b).1;have j:=QH n {q with af:=q.af.set q.hand (some {f with used:=false}),hand:=(q.hand+1)%Y q.af} ⟨?_,λ i g a=>?_,?_,?_⟩
    ·simp only[aV]at j;exact j
    ·show q.aj=uG (q.af.set q.hand _);rw[UG _ _ _ _ b];have:=h.aj;simp only[jf];omega
    ·have a:(q.af.set q.hand (some {f with used:=false}))[i]?=some (some g):=a;rw[gF _ _ _ _ p]at a;by_cases e:q.hand=i
     ·rw[be e]at a;rw[<-bf (bf a)];exact h.pos _ f b
     rw[aE e]at a;exact h.pos i g a
    ·show _<(q.af.set q.hand _).length;rw[aV];exact c
    show(q.af.set q.hand _).length<=_;rw[aV];exact h.few
   rw[aE k];refine⟨⟨h.aj,h.pos,c,h.few⟩,rfl,λ i a=>⟨some f,by rw[<-bf a];exact b,λ g m=>?_⟩⟩;have:=h.pos _ f b;rw[<-bf m];omega
theorem oO.set(h:oO q)(b:q.af[i]?=some o)(d:∀f,u=some f->0<=f.aj/\f.aj<=1000000):oO {af:=q.af.set i u,hand:=q.hand,aj:=q.aj-jf o+jf u,op:=q.op}:=by
 have c:=(dz.1 b).1;refine⟨?_,λ j g a=>?_,?_,?_⟩
 ·show _=uG (q.af.set i u);rw[UG _ _ _ _ b,<-h.aj]
 ·have a:(q.af.set i u)[j]?=some (some g):=a;rw[gF _ _ _ _ c]at a;by_cases e:i=j
  ·rw[be e]at a;exact d g (bf a)
  rw[aE e]at a;exact h.pos j g a
 ·show _<(q.af.set i u).length;rw[aV];exact h.hand
 show(q.af.set i u).length<=_;rw[aV];exact h.few
def vg(b q:Pl):Prop:=∀(j:Nat) (g:Fr),b.af[j]?=some (some g)->∃a:Fr,q.af[j]?=some (some a)/\a.page=g.page
theorem vg.trans{a b c:Pl}(h:vg a b)(k:vg b c):vg a c:=λ j g d=>by
 obtain⟨e,i,f⟩:=h j g d;obtain⟨m,l,n⟩:=k j e i;exact⟨m,l,n.trans f⟩
theorem vg.set{f g:Fr}(b:q.af[i]?=some (some f))(c:g.page=f.page)(hand:Nat)(aj:Int):vg {af:=q.af.set i (some g),hand:=hand,aj:=aj,op:=q.op} q:=λ j u a=>by
 have d:=(dz.1 b).1;replace a:(q.af.set i (some g))[j]?=some (some u):=a;rw[gF _ _ _ _ d]at a;by_cases e:i=j
 ·rw[be e]at a;subst e;exact⟨f,b,by rw[<-bf (bf a),c]⟩
 rw[aE e]at a;exact⟨u,a,rfl⟩
theorem vg.empty(c:q.af[i]?=some o)(hand:Nat)(aj:Int):vg {af:=q.af.set i none,hand:=hand,aj:=aj,op:=q.op} q:=λ j u a=>by
 have b:=(dz.1 c).1;replace a:(q.af.set i none)[j]?=some (some u):=a;rw[gF _ _ _ _ b]at a;by_cases e:i=j
 ·rw[be e]at a;cases a
 rw[aE e]at a;exact⟨u,a,rfl⟩
theorem UL(op:Option ll):∀(n:Nat) (l:List (Option Fr)) (h:Nat) (hand:Nat) (aj:Int) (s:Nat) (r:Int),h<Y l->vg {af:=(kJ n l h).2.1,hand:=hand,aj:=aj,op:=op} {af:=l,hand:=s,aj:=r,op:=op}
 | 0,l,h,_,_,_,_,_=>λ j g c=>⟨g,c,rfl⟩
 | n+1,l,h,a,b,d,e,q=>by
  have m:(h+1)%Y l<Y l:=kz _ Z;obtain⟨o,i⟩:∃o,l[h]?=some o:=⟨_,bK q⟩
  cases o with
  | none=>rw[Kn n i];exact λ j g c=>⟨g,c,rfl⟩
  | some f=>
   rw[Ko n i];by_cases k:0<f.aj
   ·rw[be k];exact UL op n l _ a b d e m
   rw[aE k];by_cases p:f.used=true
   ·rw[be p];exact(UL op n _ _ a b d e (by rw[aV];exact m)).trans (vg.set (q:={af:=l,hand:=d,aj:=e,op:=op}) (g:={f with used:=false}) i rfl d e)
   rw[aE p];exact λ j g c=>⟨g,c,rfl⟩
end
open UK (str aF nth Only w32 Row)
open Go.BigFrame
structure Sound(d:Dk)(au:Nat):Prop where
 mark:∀p,p<au->d.gH.getD p false=decide (p∈d.free)
 nodup:d.free.Nodup
theorem Sy:∀(n:Nat) (l:List Nat),l.Nodup->(∀x,x∈l->x<n)->Y l<=n
 | 0,[],_,_=>aH _
 | 0,x::_,_,h=>absurd (h x (bI ..)) (jI _)
 | n+1,l,b,h=>by
  by_cases d:n∈l
  ·have c:=Sy n (l.erase n) (b.erase n) (λ x a=>by
    have f:=h x (List.mem_of_mem_erase a);have g:x≠n:=λ e=>by subst e;exact b.not_mem_erase a
    omega)
   rw[List.length_erase_of_mem d]at c;omega
  have c:=Sy n l b (λ x a=>by
   have f:=h x a;have g:x≠n:=λ e=>by subst e;exact d a
   omega)
  omega
theorem Sound.has(s:Sound d au)(p:Nat):bF d au p=decide (1<=p/\p<au/\p∉d.free):=by
 unfold bF;rw[Int.toNat_natCast];by_cases h:1<=p/\p<au
 ·rw[decide_eq_true (show(1:Int)<=(p:Int)/\(p:Int)<au from Z),Bool.true_and,s.mark p h.2];by_cases b:p∈d.free<;>simp[b,h.1,h.2]
 rw[decide_eq_false (show ¬((1:Int)<=(p:Int)/\(p:Int)<au) from Z),Bool.false_and];exact(decide_eq_false (λ a=>h ⟨a.1,a.2.1⟩)).symm
theorem Sound.lM(s:Sound d au)(p:Int):bF d au p=decide (1<=p/\p<au/\p.toNat∉d.free):=by
 by_cases h:1<=p
 ·obtain⟨k,rfl⟩:∃k:Nat,p=k:=⟨p.toNat,Z⟩;rw[s.has k,Int.toNat_natCast];exact decide_eq_decide.2 ⟨λ ⟨a,b,c⟩=>⟨Z,Z,c⟩,λ ⟨a,b,c⟩=>⟨Z,Z,c⟩⟩
 unfold bF;rw[decide_eq_false (λ e=>h e.1),Bool.false_and];exact(decide_eq_false (λ e=>h e.1)).symm
theorem Sound.less(s:Sound d au)(f:Fit d au)(g:p<au)(h:p∉d.free):Y d.free<au:=by
 have:=Sy au (d.free++[p]) (bN.2 ⟨s.nodup,tZ _ _,λ a i b j=>by
  rw[bu.1 j]
  intro e;subst e;exact h i⟩) (λ x c=>by
   rcases dm.1 c with c|c
   ·exact(f.free x c).2
   rw[bu.1 c];exact g)
 rw[zl]at this;exact this
theorem Sound.of_same(s:Sound d au)(a:e.free=d.free)(b:e.gH=d.gH):Sound e au:=⟨by rw[a,b];exact s.mark,by rw[a];exact s.nodup⟩
theorem X0(l:List Bool)(i j:Nat)(b:Bool)(a:i<Y l):(l.set i b).getD j false=if i=j then b else l.getD j false:=by
 rw[fV,fV,List.getElem?_set];by_cases h:i=j
 ·subst h;rw[be rfl,be rfl,be a];rfl
 rw[aE h,aE h]
theorem Sound.give(s:Sound d au)(f:Fit d au)(c:p<au)(g:p∉d.free):Sound (uW d p) au:=by
 refine⟨λ q j=>?_,bN.2 ⟨s.nodup,tZ _ _,λ a i b k=>by
  rw[bu.1 k];intro e;subst e;exact g i⟩⟩
 show(d.gH.set p true).getD q false=decide (q∈d.free++[p]);rw[X0 _ _ _ _ (by rw[f.flags];exact c)];by_cases h:p=q
 ·subst h;simp
 rw[aE h,s.mark q j];simp[dJ h]
theorem Sound.iE(s:Sound d au)(f:Fit d au){l:List Nat}{p:Nat}(a:d.free=l++[p]):Sound (iE d l p) au:=by
 have b:=s.nodup;rw[a]at b;have c:=bN.1 b;have e:=f.free p (by rw[a];exact lL _ (bu.2 rfl));refine⟨λ q i=>?_,c.1⟩;show(d.gH.set p false).getD q false=decide (q∈l);rw[X0 _ _ _ _ (by rw[f.flags];exact e.2)];by_cases h:p=q
 ·subst h;rw[be rfl];exact(decide_eq_false (λ g=>c.2.2 p g p (bu.2 rfl) rfl)).symm
 rw[aE h,s.mark q i,a];simp[dJ h]
theorem Sound.takeN(s:Sound d au)(f:Fit d au)(a:d.free=[]):Sound (takeN d au) (au+1):=by
 refine⟨λ q b=>?_,s.nodup⟩;show(d.gH++[false]).getD q false=decide (q∈d.free);rw[a,fV];by_cases h:q<au
 ·rw[bR (by rw[f.flags];exact h),<-fV,s.mark q h,a]
 have e:q=Y d.gH:=by rw[f.flags];omega
 rw[e,bZ (aH _),l7];simp
structure Still(d:Dk)(z:Int)(free:List Nat)(puts:Int):Prop where
 z:d.aA=z
 free:d.free=free
 wl:d.wl= -1
 puts:d.puts=puts
theorem P6(pages:Int):nN pages={xS pages with wl:= -1,puts:=1,x:=UK.wr (xS pages).x 0 (jJ 0 (J7 (xS pages) 1))}:=by
 unfold nN De;rw[aE (show ¬(xS pages).wl=0 by show ¬(-1:Int)=0;omega)];rfl
theorem lB(pages:Int):(nN pages).rl= -1:=by rw[P6];rfl
theorem tA(pages:Int):(nN pages).reads=0:=by rw[P6];rfl
theorem P7(pages:Int):Still (nN pages) (pK pages) [] 1:=by rw[P6];exact⟨rfl,rfl,rfl,rfl⟩
theorem yv(pages:Int):Sound (nN pages) 1:=by
 rw[P6];refine⟨λ p a=>?_,List.Pairwise.nil⟩;obtain rfl:p=0:=Z
 rfl
section
variable{free:List Nat}
end
def Dm(d:Dk)(au:Nat)(p:Int)(s:List UInt8):Int:=if bF d au p=false then 4 else if Y s≠504 then 1 else jG d.wl
def yS(d:Dk)(au:Nat)(p:Int)(s:List UInt8):Dk:=if bF d au p=false then d else if Y s≠504 then d else if d.wl=0 then {d with wl:= -1} else Fs d p.toNat s
def JB(d:Dk)(au:Nat)(p:Int):Int:=if bF d au p=false then 4 else if d.rl=0 then 7 else zG d.x p.toNat
def JC(d:Dk)(au:Nat)(p:Int):List UInt8:=if bF d au p=false then [] else if d.rl=0 then [] else lu d.x p.toNat
def Fw(d:Dk)(au:Nat)(p:Int):Dk:=if bF d au p=false then d else if d.rl=0 then {d with rl:= -1} else Fv d
def JE(d:Dk)(au:Nat)(p:Int):Int:=if bF d au p=false then 4 else jG d.wl
def Fx(d:Dk)(au:Nat)(p:Int):Dk:=if bF d au p=false then d else if d.wl=0 then {d with wl:= -1} else uW d p.toNat
structure Ok(d:Dk)(au:Nat)(k:Nat):Prop where
 fit:Fit d au
 so:Sound d au
 puts:d.puts<=k+1
 reads:d.reads<=k
def tE(d:Dk)(au:Nat):Int:=if d.aA<=au/\d.free=[] then 6 else if d.wl=0 then 7 else 0
def tP(d:Dk)(au:Nat):Nat:=if d.aA<=au/\d.free=[] then 0 else if d.wl=0 then 0 else if d.free=[] then au else d.free.getLastD 0
def tD(d:Dk)(au:Nat):Dk:=if d.aA<=au/\d.free=[] then d else if d.wl=0 then {d with wl:= -1} else if d.free=[] then takeN d au else iE d d.free.dropLast (d.free.getLastD 0)
def tC(d:Dk)(au:Nat):Nat:=if d.aA<=au/\d.free=[] then au else if d.wl=0 then au else if d.free=[] then au+1 else au
theorem P8(d:Dk)(au:Nat) :
  (d.aA<=au/\d.free=[]/\tE d au=6/\tP d au=0/\tD d au=d/\tC d au=au) \/
  (((au:Int)<d.aA\/0<Y d.free)/\d.wl=0/\tE d au=7/\tP d au=0/\tD d au={d with wl:= -1}/\tC d au=au) \/
  ((au:Int)<d.aA/\d.wl≠0/\d.free=[]/\tE d au=0/\tP d au=au/\tD d au=takeN d au/\tC d au=au+1) \/
  (d.wl≠0/\∃l p,d.free=l++[p]/\tE d au=0/\tP d au=p/\tD d au=iE d l p/\tC d au=au):=by
 by_cases a:d.aA<=au/\d.free=[]
 ·exact O ⟨a.1,a.2,by unfold tE;rw[be a],by unfold tP;rw[be a],by unfold tD;rw[be a],by unfold tC;rw[be a]⟩
 have f:(au:Int)<d.aA\/0<Y d.free:=by
  by_cases g:d.aA<=au
  ·exact al (List.length_pos_iff.2 (λ e=>a ⟨g,e⟩))
  exact O Z
 by_cases b:d.wl=0
 ·exact al (O ⟨f,b,by unfold tE;rw[aE a,be b],by unfold tP;rw[aE a,be b],by unfold tD;rw[aE a,be b],by unfold tC;rw[aE a,be b]⟩)
 by_cases c:d.free=[]
 ·refine al (al (O ⟨?_,b,c,by unfold tE;rw[aE a,aE b],by unfold tP;rw[aE a,aE b,be c],by unfold tD;rw[aE a,aE b,be c],by unfold tC;rw[aE a,aE b,be c]⟩));rcases f with h|h
  ·exact h
  rw[c]at h;simp at h
 refine al (al (al ⟨b,d.free.dropLast,d.free.getLastD 0,?_,by unfold tE;rw[aE a,aE b],by unfold tP;rw[aE a,aE b,aE c],by unfold tD;rw[aE a,aE b,aE c],by unfold tC;rw[aE a,aE b,aE c]⟩));have:=List.dropLast_concat_getLast c;rw[List.getLastD_eq_getLast?,List.getLast?_eq_some_getLast c];exact this.symm
section
variable{N:Nat}{G F:Nat}{fo:Option Addr}
theorem Ok.take(h:Ok d au k)(i:k<900000000):Ok (tD d au) (tC d au) (k+1):=by
 have g:=h.puts;have j:=h.reads;have b:d.puts+1<1000000000:=Z
 rcases P8 d au with⟨_,_,_,_,e,c⟩|⟨_,_,_,_,e,c⟩|⟨f,_,hf,_,_,e,c⟩|⟨_,l,p,a,_,_,e,c⟩
 ·rw[e,c];exact⟨h.fit,h.so,Z,Z⟩
 ·rw[e,c];exact⟨JA h.fit (-1) Z,h.so.of_same rfl rfl,by show d.puts<=_;omega,by show d.reads<=_;omega⟩
 ·rw[e,c];exact⟨Su h.fit b hf f,h.so.takeN h.fit hf,by show d.puts+1<=_;omega,by show d.reads<=_;omega⟩
 rw[e,c];exact⟨Sr h.fit b l p a,h.so.iE h.fit a,by show d.puts+1<=_;omega,by show d.reads<=_;omega⟩
theorem X4(h:DD S W D d au)(o:Ok d au k)(q:k<900000000) :
  Calls prog 155 #[aq D] W λ e g=>e=aw (a9 #[V U (tP d au),V U (tE d au)])/\DD S g D (tD d au) (tC d au)/\Kept S W g:=by
 have n:=o.puts;have j:d.puts+1<1000000000:=Z
 have s:=o.fit.aA.2.2;rcases P8 d au with⟨i,hf,a,b,e,c⟩|⟨r,f,a,b,e,c⟩|⟨i,f,hf,a,b,e,c⟩|⟨f,l,p,m,a,b,e,c⟩
 ·rw[a,b,e,c];exact AH h (by rw[hf,List.length_nil];omega)
 ·rw[a,b,e,c];exact pD h Z f
 ·rw[a,b,e,c];exact F1 h j hf i f
 rw[a,b,e,c];exact JT h j l p m f
theorem GJ{p:Int}(b:¬bF d au p=false):∃q:Nat,p=q/\bF d au (q:Int)=true:=by
 have a:bF d au p=true:=by simpa using b
 have c:1<=p:=by unfold bF at a;rw[Bool.and_eq_true,decide_eq_true_eq]at a;omega
 exact⟨p.toNat,Z,by rw[show((p.toNat:Nat):Int)=p from Z];exact a⟩
theorem Ok.free(h:Ok d au k){q:Nat}(a:bF d au (q:Int)=true):q<au/\q∉d.free/\Y d.free<au:=by
 rw[h.so.has q,decide_eq_true_eq]at a;exact⟨a.2.1,a.2.2,h.so.less h.fit a.2.1 a.2.2⟩
theorem oE(h:DD S W D d au)(o:Ok d au k)(i:k<900000000)(p:Int) :
  Calls prog 123 #[aq D,V U p] W λ e f=>e=aw (V U (JE d au p))/\DD S f D (Fx d au p) au/\Kept S W f:=by
 have g:=o.puts;unfold JE Fx;by_cases a:bF d au p=false
 ·rw[be a,be a];exact vj h p a
 rw[aE a,aE a];obtain⟨q,rfl,c⟩:=GJ a;by_cases b:d.wl=0
 ·rw[be b,show jG d.wl=7 by unfold jG;rw[be b]];exact D4 h q c b
 rw[aE b,show jG d.wl=0 by unfold jG;rw[aE b]];exact qs h Z q c (o.free c).2.2 b
theorem Ok.give(h:Ok d au k)(f:k<900000000)(p:Int):Ok (Fx d au p) au (k+1):=by
 have e:=h.puts;have g:=h.reads;unfold Fx;by_cases b:bF d au p=false
 ·rw[be b];exact⟨h.fit,h.so,Z,Z⟩
 rw[aE b];obtain⟨q,rfl,a⟩:=GJ b;by_cases c:d.wl=0
 ·rw[be c];exact⟨JA h.fit (-1) Z,h.so.of_same rfl rfl,by show d.puts<=_;omega,by show d.reads<=_;omega⟩
 rw[aE c];exact⟨Sq h.fit Z q (Ca a).1 (Ca a).2.1 (h.free a).2.2,h.so.give h.fit (h.free a).1 (h.free a).2.1,by show d.puts+1<=_;omega,by show d.reads<=_;omega⟩
theorem mB(h:DD S W D d au)(o:Ok d au k)(g:k<900000000)(p:Int) :
  Calls prog 129 #[aq D,V U p] W λ e c=>e=aw (a9 #[a8 (str (JC d au p)),V U (JB d au p)])/\DD S c D (Fw d au p) au/\Kept S W c:=by
 have i:=o.reads;unfold JC JB Fw;by_cases a:bF d au p=false
 ·rw[be a,be a,be a];exact IL h p a
 rw[aE a,aE a,aE a];obtain⟨q,rfl,f⟩:=GJ a;by_cases b:d.rl=0
 ·rw[be b,be b,be b];exact ml h q f b
 rw[aE b,aE b,aE b];exact Ir h Z q f b
theorem Ok.read(h:Ok d au k)(e:k<900000000)(p:Int):Ok (Fw d au p) au (k+1):=by
 have c:=h.puts;have f:=h.reads;unfold Fw;by_cases a:bF d au p=false
 ·rw[be a];exact⟨h.fit,h.so,Z,Z⟩
 rw[aE a];by_cases b:d.rl=0
 ·rw[be b];exact⟨Xu h.fit (-1) Z,h.so.of_same rfl rfl,by show d.puts<=_;omega,by show d.reads<=_;omega⟩
 rw[aE b];exact⟨Sm h.fit Z,h.so.of_same rfl rfl,by show d.puts<=_;omega,by show d.reads+1<=_;omega⟩
theorem ke(h:DD S W D d au)(o:Ok d au k)(j:k<900000000)(p:Int)(s:List UInt8) :
  Calls prog 254 #[aq D,V U p,a8 (str s)] W λ e g=>e=aw (V U (Dm d au p s))/\DD S g D (yS d au p s) au/\Kept S W g:=by
 have i:=o.puts;unfold Dm yS;by_cases a:bF d au p=false
 ·rw[be a,be a];exact CN h p a s
 rw[aE a,aE a];obtain⟨q,rfl,f⟩:=GJ a;by_cases c:Y s≠504
 ·rw[be c,be c];exact Eb h q f s c
 rw[aE c,aE c];by_cases b:d.wl=0
 ·rw[be b,show jG d.wl=7 by unfold jG;rw[be b]];exact CE h q f b s Z
 rw[aE b,show jG d.wl=0 by unfold jG;rw[aE b]];exact xF h Z q f b s Z
theorem Ok.write(h:Ok d au k)(g:k<900000000)(p:Int)(s:List UInt8):Ok (yS d au p s) au (k+1):=by
 have f:=h.puts;have i:=h.reads;unfold yS;by_cases a:bF d au p=false
 ·rw[be a];exact⟨h.fit,h.so,Z,Z⟩
 rw[aE a];obtain⟨q,rfl,e⟩:=GJ a;by_cases b:Y s≠504
 ·rw[be b];exact⟨h.fit,h.so,Z,Z⟩
 rw[aE b];by_cases c:d.wl=0
 ·rw[be c];exact⟨JA h.fit (-1) Z,h.so.of_same rfl rfl,by show d.puts<=_;omega,by show d.reads<=_;omega⟩
 rw[aE c];exact⟨Sl h.fit Z q (Ca e).2.1 s Z,h.so.of_same rfl rfl,by show d.puts+1<=_;omega,by show d.reads<=_;omega⟩
theorem Ok.more(h:Ok d au k):Ok d au (k+1):=⟨h.fit,h.so,by have:=h.puts;omega,by have:=h.reads;omega⟩
theorem Ok.new(n:Int):Ok (nN n) 1 0:=
 ⟨Xt (Sg n) (by show(0:Int)+1<_;omega),yv n,by rw[(P7 n).puts];omega,by rw[tA];omega⟩
def sB(au:Nat)(n:Int):Bool:=decide (0<=n/\n<512*(au:Int))
def sD(d:Dk)(au:Nat)(n:Int)(b:UInt8):Dk:=if 0<=n/\n<512*(au:Int) then Dv d n.toNat b else d
end
open UK (str aF nth Only Row ay kX)
namespace UK
theorem IE{t k d:TypeId}{c f e:Value}{b:World}(j:(Builtin.delete_ #[t,k] d #[c,f]).run P w= .ok e b){o:Oper}{m x:Operand}(g:o.guard=none)(q:o.op=Op.call {callee:=Callee.builtin Builtin.delete,args:= #[m,x],argTypes:= #[t,k]})(n:o.type=d)(i:a.eval m=c)(l:a.eval x=f)(h:wpList P ops Q rest (a.put o.dst e) b) :
  wpList P ops Q (o::rest) a w:=by
 refine wpList_plain g λ K p=>?_;subst n;unfold Oper.wp;simp[execOp,q,resolve,invoke,builtin,i,l,j,Result.andThen];exact p _ _ h
end UK
section
variable{P:Nat}
theorem oh(h:fK W P D FB M q) :
  Calls prog 28 #[aq P] W λ e a=>e=aw (V U q.aj)/\a=W:=by
 have b:=h.box.cell 4 _ rfl
 go_enter func28,ntmps28
 go_wp2;go_ret
 exact⟨rfl,rfl⟩
theorem Ge{f:Fr}(h:sW W P f) :
  Calls prog 91 #[aq f.blk] W λ e a=>e=aw (V U f.page)/\a=W:=by
 have b:=h.box.cell 1 _ rfl
 go_enter func91,ntmps91
 go_wp2;go_ret
 exact⟨rfl,rfl⟩
theorem lj{l:List Int}(h:ib W v c l)(A:Y l<=1000000000)(a:Int) :
  Calls prog 195 #[ad v (Y l) c,V U a] W λ e p=>∃i:Int,e=aw (V U i)/\(0<=i↔a∈l)/\p=W:=by
 go_enter func195,ntmps195
 go_wp2_with fail
 go_loopw [8] (λ m wr=>∃j:Nat,m=V U j/\j<=Y l/\(∀(i:Nat) (x:Int),i<j->l[i]?=some x->x≠a)/\wr=W) (λ m _=>1000000001-(intOf m).toNat)
 case atStart=>exact⟨0,rfl,aR _,λ i x f=>absurd f (jI _),rfl⟩
 obtain⟨j,rfl,B,d,rfl⟩:=hrel;by_cases o:j<Y l
 ·obtain⟨x,b⟩:∃x,l[j]?=some x:=⟨_,bK o⟩;rcases h with⟨_,rfl,_⟩|⟨g,rfl,r⟩
  ·exact absurd o (jI _)
  have C:=r.at' j (V U x) (by unfold Bh;rw[dL,b];rfl);clear r;by_cases e:a=x
  ·subst e;have t:=zH (dU b);clear d b;go_wp2;go_ret;exact⟨j,rfl,⟨λ _=>t.out,λ _=>Z⟩,rfl⟩
  have z:(a==x)=false:=beq_eq_false_iff_ne.2 e
  have k:=zH (λ (i:Nat) (y:Int) (f:i<j+1) (n:l[i]?=some y)=>(show y≠a by
   by_cases w:i=j
   ·subst w;rw[b]at n;rw[<-bf n];exact λ s=>e s.symm
   exact d i y Z n))
  clear d b e;go_wp2;go_roundw
  case rel=>exact⟨j+1,by go_num,Z,k.out,trivial⟩
  case measure=>simp[intOf];omega
 have k:=zH (λ (u:a∈l)=>(show False by
  obtain⟨i,f,q⟩:=fU u;exact d i a Z (by rw[bK f,q]) rfl))
 clear d h;go_wp2;go_ret;exact⟨-1,rfl,⟨λ h=>absurd h (by decide),λ h=>(k.out h).elim⟩,rfl⟩
theorem UM{l:List Int}(h:ib W v c l)(j:Y l<=1000000000)(a:Int) :
  Calls prog 122 #[ad v (Y l) c,V U a] W λ e b=>e=aw (a6 (decide (a∈l)))/\b=W:=by
 have d:=lj h j a;generalize g:Y l=n at d ⊢;clear g
 go_enter func122,ntmps122
 go_wp2_with fail
 refine d.mono ?_;rintro e b ⟨i,rfl,f,rfl⟩;have e:decide (0<=i)=decide (a∈l):=decide_eq_decide.2 f;have k:=zH e;clear e f;go_wp2;go_ret;exact⟨by rw[<-k.out];rfl,rfl⟩
theorem ib.nil:ib W none 0 []:=O ⟨rfl,rfl,rfl⟩
def bO(o:Option ll):List Int:=match o with
 | none=>[]
 | some x=>x.gone
theorem Ku(h:fK W P D FB M q)(a:Int):∃(v:Option Addr) (n c:Nat),Kt q.op=ad v n c/\Calls prog 122 #[ad v n c,V U a] W λ e f=>e=aw (a6 (decide (a∈bO q.op)))/\f=W:=by
 have d:=h.op
 cases b:q.op with
 | none=>exact⟨none,0,0,rfl,UM (ib.nil (W:=W)) (by decide) a⟩
 | some x=>exact⟨x.go,_,x.gc,rfl,UM (d x b).gone (d x b).few.2.2 a⟩
theorem PD.own(h:PD E W P D FB M q d au)(b:Only P W W')(n:ay W' P (oN D FB (Y q.af) M hand aj q.op)):PD E W' P D FB M {af:=q.af,hand:=hand,aj:=aj,op:=q.op} d au/\Kept E W W':=by
 have a:=h.pool;obtain⟨f,hf,j⟩:=a.map;refine h.moves (q':={af:=q.af,hand:=hand,aj:=aj,op:=q.op}) (Moves.bQ b (O rfl)) ⟨n,a.uJ.only b a.PF.symm,⟨f,hf,j.only b a.PM.symm⟩,λ i g c=>?_,a.PF,a.PM,a.FM,a.off,a.two,a.op.ae b.size (λ k e=>b.block k (a.op.lt e) (a.iV k e).1),a.iV,a.nC,a.tab⟩;have l:=a.off i (some g) g.blk c (O rfl);have m:=a.off i (some g) g.db c (al rfl);exact(a.each i g c).ae (b.block _ (a.zo c (O rfl)) l.1) (b.block _ (a.zo c (al rfl)) m.1)
def Cz(n:Int)(k:Nat):Nat:=(n%(k:Int)).toNat
theorem eA(n:Int)(k:Nat)(e:0<k):n.tmod k%(k:Int)=(Cz n k:Int)/\Cz n k<k/\ -(k:Int)<n.tmod k/\n.tmod k<k:=by
 have f:=Int.emod_nonneg n (show(k:Int)≠0 from Z);have g:=Int.emod_lt_of_pos n (show(0:Int)<k from Z)
 have c:n.tmod k=if 0<=n\/n%k=0 then n%k else n%k-k:=by
  rw[Int.tmod_eq_emod];by_cases b:0<=n\/(k:Int) ∣ n
  ·rw[be b,be (by rcases b with a|a;exact O a;exact al (Int.emod_eq_zero_of_dvd a))];omega
  rw[aE b,aE (by rintro(a|a);exact b (O a);exact b (al (Int.dvd_of_emod_eq_zero a)))];omega
 refine⟨?_,by unfold Cz;omega,?_,?_⟩
 ·have d:n.tmod k%(k:Int)=n%k:=by
   rw[c]
   split
   ·exact Int.emod_emod_of_dvd n (Int.dvd_refl _)
   rw[Int.sub_emod_right];exact Int.emod_emod_of_dvd n (Int.dvd_refl _)
  rw[d];unfold Cz;omega
 ·rw[c];split<;>omega
 rw[c];split<;>omega
theorem qn(h:PD E W P D FB M q d au)(o:oO q)(n:Int) :
  Calls prog 86 #[aq P,V U n] W λ e b=>e=aw (a9 #[])/\PD E b P D FB M {q with hand:=Cz n (Y q.af)} d au/\Kept E W b:=by
 have a:=h.pool.box;have j:=a.cell 1 _ rfl;have w:=a.cell 3 _ rfl;have s:=a.free 3;have g:=a.set 3 (V U (Cz n (Y q.af):Nat));have f:=h.own ((Only.refl P W).set 3 (V U (Cz n (Y q.af):Nat))) (hand:=Cz n (Y q.af)) (aj:=q.aj) g;have r:=o.few;have l:=o.hand;obtain⟨c,t,x,m⟩:=eA n (Y q.af) Z;have v:1<=Y q.af:=Z
 generalize (Y q.af)=k at *;have i:=zH c;clear c;generalize Cz n k=u at *;have p:0<=n.tmod k+k:=Z
 clear a g
 go_enter func86,ntmps86
 go_wp2;rw[i.out]
 go_end0
 exact⟨rfl,f.1,f.2⟩
end
open Go.RowKit
open UK (str aF nth Only Row ay kX)
open Go.BigFrame
section
variable{P:Nat}
structure Same(f g:Fr):Prop where
 blk:g.blk=f.blk
 db:g.db=f.db
 cap:g.cap=f.cap
 page:g.page=f.page
 data:g.data=f.data
theorem Same.nY{f g:Fr}(h:Same f g)(j:Nat):nY (some g) j↔nY (some f) j:=by
 show(j=g.blk\/j=g.db)↔(j=f.blk\/j=f.db);rw[h.blk,h.db]
theorem PD.flag(h:PD E W P D FB M q d au){f g:Fr}(n:q.af[i]?=some (some f))(l:Same f g)(o:Only f.blk W W')(B:ay W' f.blk (QG P g)):PD E W' P D FB M {q with af:=q.af.set i (some g)} d au/\Kept E W W':=by
 have m:=h.pool;have F:=(dz.1 n).1;obtain⟨z,hf,G⟩:=m.map;have v:=m.off i (some f) f.blk n (O rfl);have s:=m.each i f n
 have I:cntF (q.af.set i (some g))=cntF q.af:=by
  have:=NC q.af i (some f) (some g) n
  simpa using this
 have K:=m.zo n (O rfl);refine h.moves (q':={q with af:=q.af.set i (some g)}) ⟨o.os,o.tape,o.output,o.size,λ j r H=>o.block j r (λ e=>H (e▸ al (al (al (al ⟨i,some f,n,O rfl⟩))))),λ j r=>O ?_⟩ ?_
 ·rcases jT.bV (n:=W.1.size) n (λ j r=>O ((l.nY j).1 r)) r with w|w
  ·exact w
  exfalso
  have:jT P FB M q.af q.op j:=by
   rcases r with a|a|a|a|⟨b,u,p,t⟩
   ·exact O a
   ·exact al (O a)
   ·exact al (al (O a))
   ·exact al (al (al (O a)))
   have p:(q.af.set i (some g))[b]?=some u:=p;rw[gF _ _ _ _ F]at p;by_cases e:i=b
   ·rw[be e]at p;rw[<-bf p]at t;exact al (al (al (al ⟨i,some f,n,(l.nY j).1 t⟩)))
   rw[aE e]at p;exact al (al (al (al ⟨b,u,p,t⟩)))
  have:=m.lt this;omega
 refine m.bV n h.dd.tab.lt (m.box.ae (o.block _ m.box.lt v.1.symm)) o.size (λ k t=>o.block k (m.op.lt t) (λ e=>m.nC i (some f) _ n (O rfl) (e▸t))) ?_ ⟨z,hf.turn n l.page,by rw[I];exact G.only o v.2.2.symm⟩ (λ j u b r x p=>?_) (λ J C=>?_) (λ j r=>O ((l.nY j).1 r))
 ·rw[gE _ _ _ _ n (by unfold rz;simp only;rw[l.blk])];exact m.uJ.only o v.2.1.symm
 ·have A:=m.zo x p;refine o.block b A (λ e=>?_);subst e;exact m.two i j (some f) u _ (dJ r) n x (O rfl) p
 obtain rfl:=bf C;obtain⟨y,a,b,c⟩:=s.bytes;exact⟨by rw[l.blk];exact B,⟨y,by rw[l.db];exact o.bytes a s.ne.symm,by rw[l.cap];exact b,by rw[l.data];exact c⟩,by rw[l.data];exact s.len,by rw[l.cap];exact s.cap,by rw[l.page];exact s.page,by rw[l.blk,l.db];exact s.ne⟩
theorem PD.frame(h:PD E W P D FB M q d au)(a:q.af[i]?=some o):W.cell? (FB,i)=some (rz o):=h.pool.uJ.at' i _ (UH _ _ _ a)
theorem Ey(R:World->Prop)(c:R w)(h:∀b,R b->Q .normal a b):Q .normal a w:=h w c
def wY(q:Pl)(r:Option Nat×List (Option Fr)×Nat):Pl:={af:=r.2.1,hand:=r.2.2,aj:=q.aj,op:=q.op}
def IJ(r:Option Nat):Int:=match r with
 | none=> -1
 | some i=>i
def Ig(E:Nat->Prop)(W wr:World)(P D FB M:Nat)(q:Pl)(d:Dk)(au:Nat)(a:Value):Prop:=
 ∃(m:Nat) (l:List (Option Fr)) (h:Nat),a=V U m/\m<=2*Y q.af/\Hid (kJ (2*Y q.af) q.af q.hand=kJ (2*Y q.af-m) l h)/\PD E wr P D FB M {af:=l,hand:=h,aj:=q.aj,op:=q.op} d au/\Kept E W wr/\Hid (Y l=Y q.af)/\h<Y q.af
theorem E3(h:PD E W P D FB M q d au)(o:oO q) :
  Calls prog 198 #[aq P] W λ h1 t=>h1=aw (V U (IJ (kJ (2*Y q.af) q.af q.hand).1))/\PD E t P D FB M (wY q (kJ (2*Y q.af) q.af q.hand)) d au/\Kept E W t:=by
 have c:=h.pool.box;have s:=c.cell 1 _ rfl;have hk:=o.few;have T:=o.hand;clear c
 go_enter func198,ntmps198
 go_wp2_with fail
 go_loopw [11] (λ C wr=>Ig E W wr P D FB M q d au C) (λ C _=>2001-(intOf C).toNat)
 case atStart=>exact⟨0,q.af,q.hand,rfl,aR _,rfl,h,Kept.refl _ _,rfl,T⟩
 clear h;obtain⟨m,l,h,rfl,hm,r,x,B,F,h3⟩:=hrel;have c:=x.pool.box;have HL2:=F.out;have Q:oN D FB (Y l) M h q.aj q.op=oN D FB (Y q.af) M h q.aj q.op:=by rw[HL2]
 simp only at c;rw[Q]at c;have s:=c.cell 1 _ rfl;have u:=c.cell 3 _ rfl;have f3:=c.free 3;by_cases h2:m<2*Y q.af
 ·obtain⟨n,K⟩:∃n,2*Y q.af-m=n+1:=⟨2*Y q.af-m-1,Z⟩;have R:2*Y q.af-(m+1)=n:=Z
  rw[K]at r;obtain⟨A,v⟩:∃A,l[h]?=some A:=⟨_,bK Z⟩
  have a:=x.own ((Only.refl P wr).set 3 (V U (((h+1)%Y l:Nat):Int))) (hand:=(h+1)%Y l) (aj:=q.aj) (by
   have:=c.set 3 (V U (((h+1)%Y l:Nat):Int));rw[show Y l=Y q.af from HL2];rw[show Y l=Y q.af from HL2]at this;exact this)
  have g:=B.trans a.2;have I:Hid (((h:Int)+1)%(Y q.af:Int)=(((h+1)%Y l:Nat):Int)):=by show _=_;rw[HL2,Int.natCast_emod,Int.natCast_add];rfl
  have y:(h+1)%Y l<Y q.af:=by rw[HL2];exact kz _ Z
  go_wp2_with fail
  go_region
  rw[I.out];refine Ey (λ t=>PD E t P D FB M {af:=l,hand:=(h+1)%Y l,aj:=q.aj,op:=q.op} d au/\Kept E W t) ⟨a.1.next (aU _ _).drew,g.trans (Kept.of_below (aU _ _).drew (λ j hj=>a.1.dd.there j (O hj)))⟩ ?_;clear a g s u f3 c x B I;rintro S ⟨a,g⟩;have L:=a.frame v;have s:=a.pool.box.cell 1 _ rfl;simp only at s;rw[HL2]at s;have H:=zH R;clear K R Q HL2
  cases A with
  | none=>
   have b:Hid (kJ (2*Y q.af) q.af q.hand=(some h,l,(h+1)%Y l)):=r.out.trans (Kn n v);clear r;generalize (h+1)%Y l=i at a b y;simp only[rz]at L;go_wp2;go_ret;exact⟨by rw[b.out]<;>rfl,by rw[b.out];exact a,g⟩
  | some f=>
   have b:Hid (kJ (2*Y q.af) q.af q.hand=_):=r.out.trans (Ko n v);clear r;generalize (h+1)%Y l=i at a b y;simp only[rz]at L;have w:=a.pool.each h f v;have u:=w.box.c3;have J:=w.box.c4;have f4:=w.box.free 4;by_cases p:0<f.aj
   ·have e:Hid (kJ (2*Y q.af) q.af q.hand=kJ (2*Y q.af-(m+1)) l i):=by show _=_;rw[b.out,be p,H.out]
    clear b;generalize f.aj=N at u p;go_wp2;go_roundw
    case rel=>exact⟨m+1,l,i,by go_num,Z,e,a,g,F,y⟩
    case measure=>simp[intOf];omega
   have G:=w.box.set 4 (a6 false);have z:=a.flag (g:={f with used:=false}) v ⟨rfl,rfl,rfl,rfl,rfl⟩ ((Only.refl f.blk S).set 4 (a6 false)) G
   cases k:f.used
   ·have e:Hid (kJ (2*Y q.af) q.af q.hand=(some h,l,i)):=by show _=_;rw[b.out,aE p,k];rfl
    rw[k]at J;clear b z G k;generalize f.aj=N at u p;go_wp2;go_ret;exact⟨by rw[e.out]<;>rfl,by rw[e.out];exact a,g⟩
   have e:Hid (kJ (2*Y q.af) q.af q.hand=kJ (2*Y q.af-(m+1)) (l.set h (some {f with used:=false})) i):=by show _=_;rw[b.out,aE p,be k,H.out]
   rw[k]at J;have X:=g.trans z.2;have h0:=z.1;have NG:Hid ((l.set h (some {f with used:=false})).length=Y q.af):=by show _=_;rw[aV];exact F.out
   clear b z G k;generalize f.aj=N at u p;go_wp2;go_roundw
   case rel=>exact⟨m+1,_,i,by go_num,Z,e,h0,X,NG,y⟩
   case measure=>simp[intOf];omega
 have e:Hid (kJ (2*Y q.af) q.af q.hand=(none,l,h)):=by
  show _=_;rw[r.out,show 2*Y q.af-m=0 from Z];rfl
 go_wp2;go_ret
 exact⟨by rw[e.out]<;>rfl,by rw[e.out];exact x,B⟩
end
