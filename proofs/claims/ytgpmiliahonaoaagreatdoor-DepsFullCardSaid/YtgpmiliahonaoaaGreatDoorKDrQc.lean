/- Facts on texts on pages. -/
import Derived.Test.YtgpmiliahonaoaaGreatDoorKDrPc
set_option maxRecDepth 100000
set_option maxHeartbeats 8000000
set_option linter.unusedSimpArgs false
open Go.Value renaming bool->a6,int->V,pointer->aq,slice->ad,tuple->a9
open Go.IntKind renaming i64->U
open Or renaming inl->O,inr->al
open Go.Ending renaming returned->aw
open List renaming length->Y
open Go.Proofs.Tryz
namespace Go.Proofs.YtgpmiliahonaoaaGreatDoor
open Go.RowKit Go.BigFrame
open UK (str aF nth Only Row ay)
open DP (Rc bU aS jc bi jW eX)
variable{X o:List bU}{l:List Rc}
variable{w b t:World}{g N n root:Nat}{Io yC:Array Value}{E T F:Nat->Prop}{A:AP}{s:List Nat}{p:Nat->List UInt8}{d:List AM}{i m:Option Addr}{v:Value}
abbrev iw(P a:Nat)(i:Option Addr)(n b:Nat):Array Value:= #[aq P,aq a,ad i n b,ad none 0 0,a6 false]
abbrev vQ(c b a:Int)(m:Option Addr)(d e:Nat):Array Value:= #[V U c,V U b,V U a,ad m d e]
abbrev yB:Array Value:= #[aq none,aq none,ad none 0 0,ad none 0 0,a6 false]
def UK.gG(w:World)(g:Nat)(a b c d e:Value):World:=((((w.setCell g a).setCell (g,1) b).setCell (g,2) c).setCell (g,3) d).setCell (g,4) e
theorem UK.ay.gG{f b1 i j k:Value}(h:ay w g #[f,b1,i,j,k])(a b c d e:Value):ay (UK.gG w g a b c d e) g #[a,b,c,d,e]:=by
 have:=((((h.set 0 a).set 1 b).set 2 c).set 3 d).set 4 e;exact this
theorem UK.gN(a b c d e:Value):Only g w (UK.gG w g a b c d e):=(((((Only.refl g w).set 0 a).set 1 b).set 2 c).set 3 d).set 4 e
theorem Ub:(prog.info? 43).map (·.size)=some 5:=by kernel_rfl
structure zk(w:World)(N:Nat)(Io yC:Array Value):Prop where
 r:ay w N Io
 a:ay w (N+1) yC
 res:ay w (N+2) yB
theorem zk.next(h:zk w N Io yC)(a:Below w w b):zk b N Io yC:=⟨h.r.next a,h.a.next a,h.res.next a⟩
theorem zk.kept(h:zk w N Io yC)(k:Kept E w b)(a:∀j,N<=j->j<N+3->E j):zk b N Io yC:=
 ⟨h.r.ae (k.block _ (a _ (aH _) Z)),h.a.ae (k.block _ (a _ Z Z)),h.res.ae (k.block _ (a _ Z Z))⟩
theorem FP(o:Only g w b)(a:∀j,E j->j<n)(d:n<=g)(e:n<=w.1.size):Kept E w b:=
 ⟨o.os,o.tape,o.output,o.size,λ j c=>o.block j (by have:=a j c;omega) (by have:=a j c;omega)⟩
theorem DZ.only{P D Dp T1 T2 H k q r1 r2:Nat}(h:DZ T w P D Dp T1 T2 H k A q r1 r2 root)(o:Only g w b)(l:T g)(c:∀j,E j->j<n)(v:n<=g)(d:E Dp)(e:E T1)(f:E T2)(i:E H)(x:0 <n):DZ T b P D Dp T1 T2 H k A q r1 r2 root:=by
 have p:PZ T b P D A k:=h.pz.over (R:=λ j=>j=g) (λ j a=>by rw[a];exact l) (λ u=>Z) o.size (λ j a m=>o.block j a m) (λ j a=>O a);have r:=c _ d;have s:=c _ e;have t:=c _ f;have f4:=c _ i;exact⟨p,h.bd.only o Z,h.md,h.b1.only o Z,h.m1,h.b2.only o Z,h.m2,h.bh.only o Z,h.mh⟩
section
variable{W W':World}{P D Dp T1 T2 H k q r1 r2 f K:Nat}{e j:Nat}{r c h w:Nat->Int}
def FQ(E F:Nat->Prop)(W b:World)(P D Dp T1 T2 H K:Nat)(A:AP)(s:List Nat)(p:Nat->List UInt8)(q r1 r2 root:Nat)(o:List bU)(e:Ending):Prop:=
 ∃B a c i f d,e=aw (a9 #[.agg (iw P Dp i (Y d) f),a6 true])/\DZ a b P D Dp T1 T2 H K B q r1 r2 root/\DI B s p r1 r2 root (fX o) (gX o)/\A.Reach B/\qb c b i f d o/\(∀j,c j->a j)/\(∀j,c j->F j\/W.1.size<=j)/\(∀j,E j->a j)/\(∀j,a j->E j\/W.1.size<=j)/\Kept E W b
def Eg(E:Nat->Prop)(W b:World)(P D Dp T1 T2 H K:Nat)(A:AP)(q r1 r2 root:Nat)(a:Value)(e:Ending):Prop:=
 ∃B,e=aw (a9 #[a,a6 false])/\A.Reach B/\DZ E b P D Dp T1 T2 H K B q r1 r2 root/\Kept E W b
def Eh(E:Nat->Prop)(W b:World)(P D Dp T1 T2 H K:Nat)(A:AP)(s:List Nat)(p:Nat->List UInt8)(q r1 r2 root:Nat)(X o:List bU)(d:List AM)(i:Option Addr)(f c x y:Nat)(yC:Array Value)(e:Bool):Prop:=
 ∃B a,A.Reach B/\DZ a b P D Dp T1 T2 H K B q r1 r2 root/\(∀j,E j->a j)/\(∀j,a j->E j\/W.1.size<=j)/\Kept E W b/\zk b W (iw P Dp i (Y d) f) yC/\(∀j,W.1.size<=j->j<W.1.size+3->a j)/\ay b c #[V U x,V U y]/\a c/\qb a b i f d X/\(e=false->DI B s p r1 r2 root (fX o) (gX o))
def MO(t b:World)(d:List AM)(x y:Nat)(l:List Rc)(e f a c:Nat):Prop:=
 NA b e f (oV ⟨x,y,some ⟨a,0,none⟩,c,l⟩ d)/\RX b a c l/\t.1.size<=e/\t.1.size<=a/\Below t t b
theorem Eg.mk{B:AP}(p:A.Reach B)(s:DZ T t P D Dp T1 T2 H K B q r1 r2 root)(l:Kept E W t)(i:T (n+2))(g:∀j,E j->j<n)(h:∀j,E j->T j)(r:n<=t.1.size)(m:W.1.size=n)(a:DZ E W P D Dp T1 T2 H k A q r1 r2 root)(b c d e f:Value) :
  Eg E W (UK.gG t (n+2) b c d e f) P D Dp T1 T2 H K A q r1 r2 root v (aw (a9 #[v,a6 false])):=by
 have o:=UK.gN (w:=t) (g:=n+2) b c d e f;have u:=s.only o i g Z a.md a.m1 a.m2 a.mh (m▸a.pz.tab.lt);exact⟨B,rfl,p,u.less h a.md a.m1 a.m2 a.mh,l.trans (FP o g Z r)⟩
theorem FQ.Uc{wc g:World}{ab x y c e m r K':Nat}(b:DZ E W P D Dp T1 T2 H k A q r1 r2 root)(w:qb F W i f d X)(hF:∀j,F j->E j)(hM:Eh E W wc P D Dp T1 T2 H K A s p q r1 r2 root X o d i f ab x y yC false)(hE:MO wc g d x y l c e m r)(nR:o=aS (bi x y) l X)(hX:kY X)(hy:y<4294967296)(hK:K<=K') :
  ay (g.setCell (W.1.size,2) (ad c (oV ⟨x,y,some ⟨m,0,none⟩,r,l⟩ d).length e)) W (iw P Dp c (oV ⟨x,y,some ⟨m,0,none⟩,r,l⟩ d).length e) /\
  ay (g.setCell (W.1.size,2) (ad c (oV ⟨x,y,some ⟨m,0,none⟩,r,l⟩ d).length e)) (W.1.size+2) yB /\
  ∀G I J L M,FQ E F W (UK.gG (g.setCell (W.1.size,2) (ad c (oV ⟨x,y,some ⟨m,0,none⟩,r,l⟩ d).length e)) (W.1.size+2) G I J L M) P D Dp T1 T2 H K' A s p q r1 r2 root o (aw (a9 #[.agg (iw P Dp c (oV ⟨x,y,some ⟨m,0,none⟩,r,l⟩ d).length e),a6 true])):=by
 obtain⟨B,E',hr,Cn,S,yw,kW,T,Ka,h7,h6,hc,h4⟩:=hM;obtain⟨Q,Y,h3,h0,v⟩:=hE;obtain⟨n,u⟩:∃n:AM,n=⟨x,y,some ⟨m,0,none⟩,r,l⟩:=⟨_,rfl⟩;rw[<-u]at Q ⊢;have N:∀j,E j->j<W.1.size:=λ j a=>b.pz.there j a;have h8:=T.res.lt;have h9:=v.size;have t:Only W g (g.setCell (W.1.size,2) (ad c (oV n d).length e)):=(Only.refl _ _).set 2 _;have y0:ay (g.setCell (W.1.size,2) (ad c (oV n d).length e)) W (iw P Dp c (oV n d).length e):=(T.r.next v).set 2 _;have y2:ay (g.setCell (W.1.size,2) (ad c (oV n d).length e)) (W.1.size+2) yB:=(T.res.next v).only t Z;generalize g.setCell (W.1.size,2) (ad c (oV n d).length e)=w6 at t y0 y2 ⊢;refine⟨y0,y2,λ G I J L M=>?_⟩;have C:=UK.gN (w:=w6) (g:=W.1.size+2) G I J L M;generalize UK.gG w6 (W.1.size+2) G I J L M=R at C ⊢;have ha:=t.size;have hb:=C.size
 have z5:DZ (λ j=>E' j\/j=c\/j=m) g P D Dp T1 T2 H K B q r1 r2 root:=Cn.wide v (λ j a=>by
  rcases a with a|rfl|rfl
  ·exact O a
  ·exact al ⟨h3,Q.lt rfl⟩
  exact al ⟨h0,Y.lt rfl⟩) (λ j a=>O a)
 have z6:=z5.only t (O (Ka _ (aH _) Z)) N (aH _) b.md b.m1 b.m2 b.mh b.pz.tab.lt;have z7:=(z6.only C (O (Ka _ Z Z)) N Z b.md b.m1 b.m2 b.mh b.pz.tab.lt).up hK;have k7:Kept E W R:=((kW.trans ((Cn.pz.kept v).mono S)).trans (FP t N (aH _) Z)).trans (FP C N Z Z);have fr:∀j,wc.1.size<=j->j<g.1.size->R.1[j]?=g.1[j]?:=λ j h1 h2=>(C.block j Z Z).trans (t.block j h2 Z);have Ud:=Q.ae (W':=R) Z (λ j a=>by rw[eY a];exact fr c h3 (Q.lt rfl));have Ue:=Y.ae (W':=R) Z (λ j a=>by rw[eY a];exact fr m h0 (Y.lt rfl));have h5:=w.of (k7.mono hF);refine⟨B,_,λ j=>F j\/j=c\/j=m,some ⟨c,0,none⟩,e,oV n d,rfl,z7,h4 rfl,hr,⟨Ud,λ z b=>?_,λ j a=>al (O (eY a)),λ z b j a=>?_,?_,λ z b=>?_⟩,λ j a=>?_,λ j a=>?_,λ j a=>O (S j a),λ j a=>?_,k7⟩
 ·rcases TU z b with h|rfl
  ·exact h5.sub z h
  rw[u];exact Ue
 ·rcases TU z b with h|rfl
  ·exact O (w.vP z h j a)
  rw[u]at a;exact al (al (eY a))
 ·rw[sQ (by rw[w.is];exact hX.ok.up),w.is,u,nR];rfl
 ·rcases TU z b with h|rfl
  ·exact w.Ef z h
  rw[u];exact hy
 ·rcases a with a|a
  ·exact O (S j (hF j a))
  exact al a
 ·rcases a with a|rfl|rfl
  ·exact O a
  ·exact al Z
  exact al Z
 rcases a with a|rfl|rfl
 ·exact yw j a
 ·exact al Z
 exact al Z
theorem wM(I:DZ E W P D Dp T1 T2 H k A q r1 r2 root)(di:DI A s p r1 r2 root (fX X) (gX X))(hm:A.aA<=3900)(L:kY X)(hf:Y X<=39)(M:qb F W i f d X)(hF:∀a,F a->E a)(h4:∀b,Kept E W b->BU b m e r c h w)(hk:k+14000000<900000000)(ar T:Int) :
  Calls prog 16 #[.agg (iw P Dp i (Y d) f),.agg (vQ 1 ar T m e j)] W λ u b=>(∃o,kY o/\Y o<=Y X+1/\FQ E F W b P D Dp T1 T2 H (k+14000000) A s p q r1 r2 root o u)\/Eg E W b P D Dp T1 T2 H (k+14000000) A q r1 r2 root (.agg (iw P Dp i (Y d) f)) u:=by
 obtain⟨wa,fO⟩:∃wa,wa=W.alloc (.cells (iw P Dp i (Y d) f) 43):=⟨_,rfl⟩;obtain⟨wb,hc⟩:∃wb,wb=wa.alloc (.cells (vQ 1 ar T m e j) 45):=⟨_,rfl⟩;obtain⟨wc,hh⟩:∃wc,wc=wb.alloc (.cells yB 43):=⟨_,rfl⟩
 have HB0:Hid (Below W W wc/\zk wc W (iw P Dp i (Y d) f) (vQ 1 ar T m e j)/\wc.1.size=W.1.size+3):=by
  have sa:wa.1.size=W.1.size+1:=by rw[fO];simp
  have sb:wb.1.size=W.1.size+1+1:=by rw[hc];simp[sa]
  have sc:wc.1.size=W.1.size+1+1+1:=by rw[hh];simp[sb]
  have ba:Below W W wa:=fO▸(aU _ _).alloc (aH _) _;have bb:Below wa wa wb:=hc▸(aU _ _).alloc (aH _) _;have bc:Below wb wb wc:=hh▸(aU _ _).alloc (aH _) _;have xa:ay wa W (iw P Dp i (Y d) f):=fO▸ay.new W _ _;have xb:ay wb wa (vQ 1 ar T m e j):=hc▸ay.new wa _ _;have iZ:ay wc wb yB:=hh▸ay.new wb _ _;rw[sa]at xb;rw[sb]at iZ;exact zH ⟨ba.trans ((bb.mono Z).trans (bc.mono Z)),⟨(xa.next bb).next bc,xb.next bc,iZ⟩,Z⟩
 have a0:=HB0.out.2.1.a.c0;have a1:=HB0.out.2.1.a.c1;have a2:=HB0.out.2.1.a.c2;have HP:=zH (YU ar T wc);have HH:=bs I di hm L hf (zA M hF) h4;clear I di hm L hf M hF h4;subst hh hc fO
 go_enter func16,ntmps16
 go_wp2_with fail
 refine HP.out.mono ?_;rintro u w2 ⟨x,y,x6,Im,rfl,ht⟩;have HB2:=zH ht;clear ht HP a0 a1 a2;obtain⟨z,h8⟩:∃z,z=w2.alloc (.cells #[V U x,V U y] 25):=⟨_,rfl⟩;obtain⟨n,C⟩:∃n,n=w2.1.size:=⟨_,rfl⟩;obtain⟨R,h5⟩:∃R:Nat->Prop,R=λ a=>E a\/(W.1.size<=a/\a<W.1.size+3)\/a=n:=⟨_,rfl⟩
 have S:Hid (DZ R z.drew P D Dp T1 T2 H k A q r1 r2 root/\zk z.drew W (iw P Dp i (Y d) f) (vQ 1 ar T m e j)/\ay z.drew n #[V U x,V U y]/\Kept E W z.drew/\W.1.size+3<=n):=by
  have I:=HH.out.1;obtain⟨q1,q2,q3⟩:=HB0.out;have b2:=HB2.out;have bn:Below w2 w2 z:=h8▸(aU _ _).alloc (aH _) _;have bx:ay z n #[V U x,V U y]:=by rw[C,h8];exact ay.new w2 _ _
  have sn:z.1.size=w2.1.size+1:=by rw[h8];simp
  have x3:=b2.size;have bW:Below W W z:=q1.trans ((b2.mono Z).trans (bn.mono Z));have bD:Below W W z.drew:=UK.dN bW 1;have bnd:Below z z z.drew:=UK.dN (aU _ _) 1;refine zH ⟨I.wide bD (λ a g=>?_) (λ a g=>by rw[h5];exact O g),((q2.next b2).next bn).next bnd,bx.next bnd,I.pz.kept bD,Z⟩;rw[h5]at g;have:z.drew.1.size=z.1.size:=rfl;rcases g with g|g|g
  ·exact O g
  ·exact al ⟨g.1,Z⟩
  exact al ⟨Z,Z⟩
 have HE:Hid ((∀a,E a->R a)/\(∀a,W.1.size<=a->a<W.1.size+3->R a)/\R n/\∀a,R a->E a\/W.1.size<=a):=zH ⟨λ a g=>by rw[h5];exact O g,λ a h1 h2=>by rw[h5];exact al (O ⟨h1,h2⟩),by rw[h5];exact al (al rfl),λ a g=>by
  rw[h5]at g;have:=S.out.2.2.2.2;rcases g with g|g|g
  ·exact O g
  ·exact al g.1
  exact al Z⟩
 clear h5 HB0 HB2
 go_upto_if 23 with(fail)
 rw[<-h8,<-C];clear h8 C
 go_cut [23] (λ bv wx=>∃h9,bv=a6 h9/\Hid (Eh E W wx P D Dp T1 T2 H (k+13000000) A s p q r1 r2 root X (aS (bi x y) (qZ r c h w (min e 8)) X) d i f n x y (vQ 1 ar T m e j) h9))
 case first=>
  have d1:=S.out.2.1.r.c1;have d2:=S.out.2.1.a.c3;have d3:=S.out.2.2.1.c0;have d4:=S.out.2.2.1.c1
  have HR:=zH ((Zv (HH.out.2.2.2.2.2.2 _ S.out.2.2.2.1) j).mono (R':=λ u b=>∃J c',u=aw (ad (some ⟨J,0,none⟩) (qZ r c h w (min e 8)).length c')/\b.cell? (W.1.size,1)=some (aq Dp)/\b.cell? ⟨W.1.size+1,3,none⟩=some (ad m e j)/\b.cell? n=some (V U x)/\b.cell? (n,1)=some (V U y) /\
   Calls prog 11 #[aq Dp,.agg #[V U x,V U y],ad J (qZ r c h w (min e 8)).length c'] b (λ u w''=>∃er:Int,u=aw (V U er)/\w''.cell? (W.1.size,1)=some (aq Dp)/\w''.cell? ⟨W.1.size+1,3,none⟩=some (ad m e j)/\w''.cell? n=some (V U x)/\w''.cell? (n,1)=some (V U y)/\Eh E W w'' P D Dp T1 T2 H (k+13000000) A s p q r1 r2 root X (aS (bi x y) (qZ r c h w (min e 8)) X) d i f n x y (vQ 1 ar T m e j) (er != 0))) (λ u w3 ⟨J,c',he,hb,hg,G⟩=>by
    obtain⟨I,di,hm,L,hf,⟨M,hF⟩,h4⟩:=HH.out;obtain⟨n1,n2,n3,n4,n5⟩:=S.out;obtain⟨i1,i2,i3,i4⟩:=HE.out;have N:=n2.next (G.mono (aH _));have Q:=n3.next (G.mono (aH _));refine⟨J,c',he,N.r.cell 1 _ rfl,N.a.cell 3 _ rfl,Q.cell 0 _ rfl,Q.cell 1 _ rfl,?_⟩
    have z3:DZ (λ a=>R a\/a=J) w3 P D Dp T1 T2 H k A q r1 r2 root:=n1.wide G (λ a g=>by
     rcases g with g|rfl
     ·exact O g
     exact al ⟨hg,hb.lt rfl⟩) (λ a g=>O g)
    refine(Y7 z3 di hm L hf (a:=x) (b:=y) Z Z hb (λ a g=>al (by rw[eY g])) (TW r c h w _) (by have:=Qr r c h w (min e 8);omega) Z).mono ?_;rintro u w4 ⟨er,rfl,hS⟩
    have hv:∀B,A.Reach B->PZ (λ a=>R a\/a=J) w4 P D B (k+13000000)->Kept (λ a=>R a\/a=J) w3 w4->((er != 0)=false->DI B s p r1 r2 root (fX (aS (bi x y) (qZ r c h w (min e 8)) X)) (gX (aS (bi x y) (qZ r c h w (min e 8)) X)))->zk w4 W (iw P Dp i (Y d) f) (vQ 1 ar T m e j)/\ay w4 n #[V U x,V U y]/\Eh E W w4 P D Dp T1 T2 H (k+13000000) A s p q r1 r2 root X (aS (bi x y) (qZ r c h w (min e 8)) X) d i f n x y (vQ 1 ar T m e j) (er != 0):=λ B hr hp ha h6=>by
     have kW:Kept E W w4:=(n4.trans (n1.pz.kept G |>.mono (λ a g=>i1 a g))).trans (ha.mono (λ a g=>O (i1 a g)));have u2:=N.kept ha (λ a h1 h2=>O (i2 a h1 h2));have u3:=Q.ae (ha.block _ (O i3))
     exact⟨u2,u3,B,_,hr,z3.of hp ha,λ a g=>O (i1 a g),λ a g=>by
      rcases g with g|rfl
      ·exact i4 a g
      have:z.drew.1.size=z.1.size:=rfl;have:=n2.res.lt;exact al Z,kW,u2,λ a h1 h2=>O (i2 a h1 h2),u3,O i3,((M.more hF).of kW).more (λ a g=>O (i1 a g)),h6⟩
    rcases hS with⟨rfl,B,s1,s2,s3,s4⟩|⟨rfl,hz,B,x0,x7,_,_,_,s2,s3,s4⟩
    ·obtain⟨v2,v3,v4⟩:=hv B s2 s3 s4 (λ _=>s1);exact⟨0,rfl,v2.r.cell 1 _ rfl,v2.a.cell 3 _ rfl,v3.cell 0 _ rfl,v3.cell 1 _ rfl,v4⟩
    obtain⟨v2,v3,v4⟩:=hv B s2 s3 s4 (λ h0=>by simp at h0);exact⟨6,rfl,v2.r.cell 1 _ rfl,v2.a.cell 3 _ rfl,v3.cell 0 _ rfl,v3.cell 1 _ rfl,v4⟩))
  clear HH HE
  go_region_held (λ w:World=>w.cell? (W.1.size,1)=some (aq Dp)/\w.cell? ⟨W.1.size+1,3,none⟩=some (ad m e j)/\w.cell? n=some (V U x)/\w.cell? (n,1)=some (V U y)) (first|exact⟨d1,d2,d3,d4⟩|exact⟨m1,N,Q,m4⟩|exact⟨n1,n2,n3,n4⟩) (first
   | (go_at_call 53;refine HR.out.mono ?_;rintro u w3 ⟨J,c',rfl,m1,N,Q,m4,HS⟩;replace HS:=zH HS)
   | (go_at_call 11;refine HS.out.mono ?_;rintro u w4 ⟨er,rfl,n1,n2,n3,n4,HM⟩;replace HM:=zH HM))
  all_goals
   go_wp2;go_meet
   case rel=>exact⟨_,rfl,HM⟩
 case rest=>
 obtain⟨h9,rfl,HM⟩:=hcut;obtain⟨I,di,hm,L,hf,⟨M,hF⟩,h4⟩:=HH.out;obtain⟨B,E',hr,Cn,eZ,yw,kW,t,Ka,C,hs,hj,h6⟩:=HM.out;have hq:∀a,E a->a<W.1.size:=λ a g=>I.pz.there a g
 cases h9 with
 | true=>
  have n0:=t.r.c0;have n1:=t.r.c1;have n2:=t.r.c2;have n3:=t.r.c3;have n4:=t.r.c4;have m0:=t.res.c0;have m1:=t.res.c1;have N:=t.res.c2;have Q:=t.res.c3;have m4:=t.res.c4;have mf:∀a,wc.frozen? ⟨W.1.size+2,a,none⟩=false:=t.res.free;have HY:=zH t.res;have qY:=zH (λ v a0 a1 a2 a3 a4=>Eg.mk (v:=v) hr (Cn.up (show k+13000000<=k+14000000 from Z)) kW (Ka _ Z Z) hq eZ (Nat.le_of_lt t.r.lt) rfl I a0 a1 a2 a3 a4);clear I di hm L hf M hF h4 hr Cn eZ yw kW t Ka C hs hj h6 hq S HE HM HH
  go_wp2_with fail
  refine bodyPost_ret (UK.Uf rfl _ (HY.out.gG _ _ _ _ _) rfl underlying43 rfl Ub) rfl ?_;exact al (qY.out _ _ _ _ _ _)
 | false=>
  have h6:=h6 rfl;have d1:=t.r.c2;have d2:=t.a.c3;have d3:=C.c0;have d4:=C.c1;have bD:Below wc wc wc.drew:=UK.dN (aU _ _) 1;obtain⟨l,hl⟩:∃l,l=qZ r c h w (min e 8):=⟨_,rfl⟩;have hi:Y d=Y X:=by rw[<-M.is,bS]
  have Ck:Y l<=8:=by rw[hl];have:=Qr r c h w (min e 8);omega
  have HR:=Zv (h4 _ (kW.trans (Cn.pz.kept bD |>.mono eZ))) j;rw[<-hl]at HR
  replace HR:=zH (HR.mono (R':=λ u b=>∃J c',u=aw (ad (some ⟨J,0,none⟩) (Y l) c')/\b.cell? (W.1.size,2)=some (ad i (Y d) f)/\b.cell? ⟨W.1.size+1,3,none⟩=some (ad m e j)/\b.cell? n=some (V U x)/\b.cell? (n,1)=some (V U y) /\
   Calls prog 55 #[ad J (Y l) c'] b (λ u w''=>∃g2 c2,u=aw (ad (some ⟨g2,0,none⟩) (Y l) c2)/\w''.cell? (W.1.size,2)=some (ad i (Y d) f)/\w''.cell? ⟨W.1.size+1,3,none⟩=some (ad m e j)/\w''.cell? n=some (V U x)/\w''.cell? (n,1)=some (V U y) /\
    Calls prog 54 #[ad i (Y d) f,.agg #[V U x,V U y,ad g2 (Y l) c2]] w'' (λ u w5=>∃g5 c5,u=aw (ad (some ⟨g5,0,none⟩) (oV ⟨x,y,some ⟨g2,0,none⟩,c2,l⟩ d).length c5)/\w5.cell? (W.1.size,2)=some (ad i (Y d) f)/\w5.cell? ⟨W.1.size+1,3,none⟩=some (ad m e j)/\w5.cell? n=some (V U x)/\w5.cell? (n,1)=some (V U y)/\w5.frozen? ⟨W.1.size,2,none⟩=false/\MO wc w5 d x y l g5 c5 g2 c2))) (λ u w3 ⟨g1,c1,he,hb,hg,G⟩=>by
   have G:Below wc wc w3:=bD.trans G;refine⟨g1,c1,he,(t.r.next G).cell 2 _ rfl,(t.a.next G).cell 3 _ rfl,(C.next G).cell 0 _ rfl,(C.next G).cell 1 _ rfl,?_⟩;refine(me (cap:=c1) hb Z).mono ?_;rintro u w4 ⟨g2,c2,rfl,A8,x1,hx⟩;have uB:Below wc wc w4:=G.trans (hx.mono G.size);have x4:=G.size;refine⟨g2,c2,rfl,(t.r.next uB).cell 2 _ rfl,(t.a.next uB).cell 3 _ rfl,(C.next uB).cell 0 _ rfl,(C.next uB).cell 1 _ rfl,?_⟩;refine(lP (x:=⟨x,y,some ⟨g2,0,none⟩,c2,l⟩) (hj.next uB).na Z hj.Ef (by show y<4294967296;omega)).mono ?_;rintro u w5 ⟨g5,c5,rfl,hy,x2,ho⟩;have yD:Below wc wc w5:=uB.trans (ho.mono uB.size);have x5:=uB.size;exact⟨g5,c5,rfl,(t.r.next yD).cell 2 _ rfl,(t.a.next yD).cell 3 _ rfl,(C.next yD).cell 0 _ rfl,(C.next yD).cell 1 _ rfl,(t.r.next yD).free 2,hy,A8.ae ho.size (λ a g=>ho.block a (A8.lt g)),Z,Z,yD⟩))
  have Z5:=bm hl hi Ck;have Z6:=zH (show n≠W.1.size by have:=S.out.2.2.2.2;omega);clear I di hm L hf M hF h4 hr Cn eZ yw kW t Ka C hs hj h6 hq S HE bD hl hi Ck;have hw:n≠W.1.size:=Z6.out
  go_upto_region 6 with(fail)
  refine wp_region_any (by kernel_rfl) ?_;refine zT 0 ?_;refine zT 2 ?_;refine zT 4 ?_;refine zT 6 ?_;refine zV (w:=wc.drew) (λ b=>b.cell? (W.1.size,2)=some (ad i (Y d) f)/\b.cell? ⟨W.1.size+1,3,none⟩=some (ad m e j)/\b.cell? n=some (V U x)/\b.cell? (n,1)=some (V U y)) 13 (by exact ⟨d1,d2,d3,d4⟩) λ h7=>?_;refine zU 1 h7 ?_;refine zU 3 h7 ?_;refine zU 5 h7 ?_;refine zU 7 h7 ?_;clear h7 d1 d2 d3 d4;refine zL 8 λ K hK=>?_;go_simp;refine HR.out.mono ?_;rintro u w3 ⟨J,c',rfl,m1,N,Q,m4,HS⟩;replace HS:=zH HS
  (try dsimp only)
  refine zK hK ?_ (λ _=>⟨m1,N,Q,m4⟩);refine zL 9 λ K hK=>?_;go_simp;refine HS.out.mono ?_;rintro u w4 ⟨g2,c2,rfl,n1,n2,n3,n4,HT⟩;replace HT:=zH HT
  (try dsimp only)
  refine zK hK ?_ (λ _=>⟨n1,n2,n3,n4⟩);refine zM 10 ?_ (λ _=>⟨n1,n2,n3,n4⟩);refine zL 11 λ K hK=>?_;go_simp;refine HT.out.mono ?_;rintro u w5 ⟨g5,c5,rfl,p1,p2,p3,p4,p5,HF⟩;replace HF:=zH HF
  (try dsimp only)
  refine zK hK ?_ (λ _=>⟨p1,p2,p3,p4⟩);refine zM 12 ?_ (λ _=>⟨p1,p2,p3,p4⟩);refine zL 13 λ K hK=>?_;go_simp;refine hK.out _ _ (λ hn=>absurd hn (by decide)) ?_;clear hK K
  try simp only[Act.put,zS,z0,z1]
  refine Cq (by kernel_rfl) ?_ _;obtain⟨I,di,hm,L,hf,⟨M,hF⟩,h4⟩:=HH.out;obtain⟨hl,hi,Ck⟩:=Z5.out;obtain⟨y0,y2,hu⟩:=FQ.Uc I M hF (by rw[<-hl]at HM;exact HM.out) HF.out rfl L Z (show k+13000000<=k+14000000 from Z);have Z7:kY (aS (bi x y) l X)/\(aS (bi x y) l X).length<=Y X+1:=⟨L.put (by unfold DP.bi;omega) (by rw[hl];exact TW r c h w _) Ck hf,DP.ug X⟩;have HD:=bg Z7 hu;obtain⟨am,AA⟩:∃am:AM,am=⟨x,y,some ⟨g2,0,none⟩,c2,l⟩:=⟨_,rfl⟩;rw[<-AA]at HD y0 y2 ⊢;generalize w5.setCell (W.1.size,2) (ad g5 (oV am d).length c5)=w6 at HD y0 y2 ⊢;have n0:=y0.c0;have n1:=y0.c1;have n2:=y0.c2;have n3:=y0.c3;have n4:=y0.c4;have m0:=y2.c0;have m1:=y2.c1;have N:=y2.c2;have Q:=y2.c3;have m4:=y2.c4;have mf:∀a,w6.frozen? ⟨W.1.size+2,a,none⟩=false:=y2.free;have HY:=zH y2;clear I di hm L hf M hF h4 hl hi Ck hu Z7 y0 y2 HR HS HT Z6 HF hw m1 N Q m4 p1 p2 p3 p4 p5 HH Z5 HM AA;have m1:=HY.out.c1;have N:=HY.out.c2;have Q:=HY.out.c3;have m4:=HY.out.c4
  go_wp2_with fail
  refine bodyPost_ret (UK.Uf rfl _ (HY.out.gG _ _ _ _ _) rfl underlying43 rfl Ub) rfl ?_;obtain⟨⟨h1,h2⟩,h3⟩:=HD.out;exact O ⟨_,h1,h2,h3 _ _ _ _ _⟩
end
