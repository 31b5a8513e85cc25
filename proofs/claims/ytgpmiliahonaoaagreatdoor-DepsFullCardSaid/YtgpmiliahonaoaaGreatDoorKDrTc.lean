/- Facts on texts on pages. -/
import Derived.Test.YtgpmiliahonaoaaGreatDoorKDrRc
import Derived.Test.YtgpmiliahonaoaaGreatDoorKUndoFc
set_option maxRecDepth 100000
set_option maxHeartbeats 8000000
set_option linter.unusedSimpArgs false
open Go.Value renaming bool->a6,int->V,pointer->aq,slice->ad,tuple->a9
open Go.IntKind renaming i64->U
open Go.Ending renaming returned->aw
open List renaming length->Y
open Or renaming inl->O,inr->al
open Go.Proofs.Tryz
namespace Go.Proofs.YtgpmiliahonaoaaGreatDoor
open Go.RowKit Go.BigFrame
open UK (str aF nth Only Row ay)
open DP (Rc bU aS jc bi jW eX TH)
variable{X e:List bU}
variable{root y G n j:Nat}{rp v:List Nat}{L:Nat->List (List UInt8)}{E F p:Nat->Prop}{W W' s:World}{o:AP}{l t u:Nat->List UInt8}{xs:List AM}{xo z i:Option Addr}{r c h:Nat->Int}{St Qu:(Nat->Prop)->World->Prop}{a:Value}
theorem HI.like{A B:Pg}{pg:Nat}{X:List HT}(h:HI A root pg rp L X)(e:∀p,B.Has p↔A.Has p)(b:∀p,A.Has p->B.c p=A.c p):HI B root pg rp L X:=by
 have c:=b root h.iU;refine⟨h.pages,λ p=>(e p).trans (h.has p),by rw[c];exact h.Kb,by rw[c];exact h.wn,by rw[c];exact h.ny,h.cur,λ p a=>?_,h.used,h.at_,h.each,h.inj,λ t d=>(h.long t d).same (λ p a=>b p (h.iy d a).1)⟩;rw[b p (h.eH a).1];exact h.recs p a
section
variable{P D Dp T1 T2 H k q r1 r2 xc K M:Nat}{A B C:AP}{w:Nat->Int}
theorem DI.like(h:DI A v l r1 r2 root t u)(g:B.Good)(b:∀p,B.Has p↔A.Has p)(c:∀p,A.Has p->B.c p=A.c p):DI B v l r1 r2 root t u:=by
 obtain⟨e,f,d,ps2,i,rp,L,X,m,j,w⟩:=h;refine⟨e,f,d,ps2,i,rp,L,X,⟨g,m.t1.like (λ p a=>c p (m.t1.has p a)) (λ p a=>(b p).2 (m.t1.has p a)),m.t2.like (λ p a=>c p (m.t2.has p a)) (λ p a=>(b p).2 (m.t2.has p a)),λ p a=>⟨(b p).2 (m.yf p a).1,(c p (m.yf p a).1).trans (m.yf p a).2⟩,m.fA,m.hi.like (λ p=>?_) (λ p a=>c p a.1),m.few⟩,j,w⟩;exact⟨λ a=>⟨(b p).1 a.1,a.2⟩,λ a=>⟨(b p).2 a.1,a.2⟩⟩
theorem E6(e:A.op=none)(p:Nat):A.begun.Has p↔A.Has p:=by
 have b:A.bO=[]:=by unfold AP.bO;rw[e]
 have a:A.begun.bO=[]:=rfl;unfold AP.Has;rw[b,a];exact Iff.rfl
def nT(E:Nat->Prop)(W:World)(P D Dp T1 T2 H k M:Nat)(X e:List bU):Prop:=
 ∃o A l,DZ E W P D Dp T1 T2 H k A 4 1 2 3/\DI A [4] l 1 2 3 (fX e) (gX e)/\AP.nU o A/\DI o [4] l 1 2 3 (fX X) (gX X)/\(∀m,o.Has m->(o.c m).length=504)/\A.aA=M/\o.aA=M
def oL(E:Nat->Prop)(W:World)(P D Dp T1 T2 H k M:Nat)(X:List bU):Prop:=
 ∃o A l,DZ E W P D Dp T1 T2 H k A 4 1 2 3/\AP.nU o A/\DI o [4] l 1 2 3 (fX X) (gX X)/\(∀m,o.Has m->(o.c m).length=504)/\o.aA=M
theorem pW(h:DS E W P D Dp T1 T2 H k M X) :
  Calls prog 15 #[aq P] W λ e f=>e=aw (V U 0)/\nT E f P D Dp T1 T2 H k M X X/\Kept E W f:=by
 obtain⟨A,l,d,a,c,b⟩:=h;refine(qp d.pz c).mono ?_;rintro e f ⟨rfl,p,g⟩;exact⟨rfl,⟨A,A.begun,l,d.of p g,a.like a.good.begun (E6 c) (λ _ _=>rfl),AP.Since.start a.good c,a,λ m b=>d.pz.dV b,b,b⟩,g⟩
theorem my(h:nT E W P D Dp T1 T2 H k M X e)(g:k+60000<900000000) :
  Calls prog 17 #[aq P] W λ c a=>c=aw (V U 0)/\DS E a P D Dp T1 T2 H (k+60000) M e/\Kept E W a:=by
 obtain⟨o,A,l,d,b,⟨r,j⟩,m,n,i,q⟩:=h;refine(G2 d.pz j.op b.good g).mono ?_;rintro c a ⟨rfl,C,p,hd,f⟩;exact⟨rfl,⟨C,l,d.of p f,b.like hd.good hd.has (λ p _=>hd.c p),hd.op,hd.aA.trans i⟩,f⟩
theorem vm(h:oL E W P D Dp T1 T2 H k M X)(f:k+300000<900000000) :
  Calls prog 18 #[aq P] W λ e a=>e=aw (V U 0)/\DS E a P D Dp T1 T2 H (k+300000) M X/\Kept E W a:=by
 obtain⟨o,A,l,b,⟨m,j⟩,d,g,i⟩:=h;refine(xZ b.pz j g f).mono ?_;rintro e a ⟨rfl,C,p,hd,c⟩;exact⟨rfl,⟨C,l,b.of p c,d.like hd.good hd.has hd.c,hd.op,hd.aA.trans i⟩,c⟩
def Ei(E F:Nat->Prop)(W a:World)(P D Dp T1 T2 H K M:Nat)(X:List bU)(d:Value)(c:Ending):Prop:=
 (∃b p xo xc xs e,c=aw (a9 #[.agg (iw P Dp xo (Y xs) xc),a6 true])/\kY e/\Y e<=Y X+1/\nT b a P D Dp T1 T2 H K M X e/\qb p a xo xc xs e/\(∀j,p j->b j)/\(∀j,p j->F j\/W.1.size<=j)/\(∀j,E j->b j)/\Kept E W a) \/
 (c=aw (a9 #[d,a6 false])/\oL E a P D Dp T1 T2 H K M X/\Kept E W a)
theorem r8(hu:nT E W P D Dp T1 T2 H k M X X)(hM:M<=60)(S:kY X)(hf:Y X<=39)(hx:qb F W xo xc xs X)(hF:∀j,F j->E j)(h1:∀b,Kept E W b->BU b z y r c h w)(hk:k+60000000<900000000)(Q:Int)(h0:Q=1\/Q=6)(s q:Int) :
  Calls prog 16 #[.agg (iw P Dp xo (Y xs) xc),.agg (vQ Q s q z y G)] W λ u b=>Ei E F W b P D Dp T1 T2 H (k+60000000) M X (.agg (iw P Dp xo (Y xs) xc)) u:=by
 obtain⟨o,A,l,hz,R,K,t,I,T,J⟩:=hu;rcases h0 with rfl|rfl
 ·refine(wM hz R Z S hf hx hF h1 Z s q).mono ?_;rintro u b (⟨e,x1,x2,B,n,p,i,N,xs',f,m,d,a,L,v,x,C,_,g⟩|⟨B,f,a,m,g⟩)
  ·exact O ⟨n,p,i,N,xs',e,f,x1,x2,⟨o,B,l,m.up Z,d,AP.Reach.since K a,t,I,a.ni.trans T,J⟩,L,v,x,C,g⟩
  exact al ⟨f,⟨o,B,l,m.up Z,AP.Reach.since K a,t,I,J⟩,g⟩
 refine(Jp (F:=F) hz R Z S Z s q).mono ?_;rintro u b ⟨B,n,p,i,N,xs',f,m,d,a,L,v,x,C,_,g⟩;exact O ⟨n,p,i,N,xs',[],f,Ql,aR _,⟨o,B,l,m,d,AP.Reach.since K a,t,I,a.ni.trans T,J⟩,L,v,x,C,g⟩
theorem zc(h:DS E W P D Dp T1 T2 H k M X)(m:kY X)(r:qb E W xo xc xs X)(a b:Int)(j:Value)(i:Bool)(n:k+500000<900000000) :
  Calls prog 19 #[.agg #[aq P,aq Dp,ad xo (Y xs) xc,j,a6 i],.agg #[V U a,V U b]] W λ e c=>e=aw (V U 0)/\DS E c P D Dp T1 T2 H (k+500000) M X/\Kept E W c:=by
 obtain⟨A,l,f,d,q,o⟩:=h;refine(mx f d m r a b j i n).mono ?_;rintro e c ⟨rfl,p,g⟩;exact⟨rfl,⟨A,l,f.of p g,d,q,o⟩,g⟩
end
section
variable{T:Nat->Prop}{w wx:World}{P D Dp T1 T2 H k q r1 r2 xc K M g rb:Nat}{A B C:AP}{m:Nat->Int}
theorem DZ.over(z:DZ E W P D Dp T1 T2 H k A q r1 r2 root)(d:E g)(f:g≠0)(o:Only g W W')(h:Dp≠g)(i:T1≠g)(l:T2≠g)(m:H≠g):DZ E W' P D Dp T1 T2 H k A q r1 r2 root:=by
 have b:∀j,E j->j≠g->W'.1[j]?=W.1[j]?:=λ j a c=>o.block j (z.pz.there j a) c;exact⟨z.pz.over (R:=λ j=>j=g) (λ j a=>a▸d) (λ e=>f e.symm) o.size (λ j a c=>o.block j a c) (λ j a=>O a),z.bd.ae (b _ z.md h),z.md,z.b1.ae (b _ z.m1 i),z.m1,z.b2.ae (b _ z.m2 l),z.m2,z.bh.ae (b _ z.mh m),z.mh⟩
theorem qb.over(x:qb F W xo xc xs X)(o:Only g W W')(c:¬F g):qb F W' xo xc xs X:=
 ⟨x.na.ae o.size (λ j a=>o.block j (x.na.lt a) (λ e=>c (e▸x.mem _ a))),λ z b=>(x.sub z b).ae o.size (λ j a=>o.block j ((x.sub z b).lt a) (λ e=>c (e▸x.vP z b j a))),x.mem,x.vP,x.is,x.Ef⟩
def EB(n Dp T1 T2 H rb:Nat)(F:Nat->Prop):Nat->Prop:=λ j=>j<n\/j=Dp\/j=T1\/j=T2\/j=H\/j=rb\/F j
structure Sep(n Dp T1 T2 H rb:Nat):Prop where
 tab:0 <n
 d:n<=Dp/\Dp<rb
 t1:n<=T1/\T1<rb
 t2:n<=T2/\T2<rb
 h:n<=H/\H<rb
theorem EB.dp:EB n Dp T1 T2 H rb F Dp/\EB n Dp T1 T2 H rb F T1/\EB n Dp T1 T2 H rb F T2/\EB n Dp T1 T2 H rb F H/\EB n Dp T1 T2 H rb F rb:=
 ⟨al (O rfl),al (al (O rfl)),al (al (al (O rfl))),al (al (al (al (O rfl)))),al (al (al (al (al (O rfl)))))⟩
theorem EB.low(h:j<n):EB n Dp T1 T2 H rb F j:=O h
theorem EB.f(h:F j):EB n Dp T1 T2 H rb F j:=al (al (al (al (al (al h)))))
theorem EB.sub(b:∀j,EB n Dp T1 T2 H rb F j->T j)(c:∀j,p j->T j):∀j,EB n Dp T1 T2 H rb p j->T j:=λ j a=>by
 rcases a with a|a|a|a|a|a|a
 ·exact b j (O a)
 ·exact b j (al (O a))
 ·exact b j (al (al (O a)))
 ·exact b j (al (al (al (O a))))
 ·exact b j (al (al (al (al (O a)))))
 ·exact b j (al (al (al (al (al (O a))))))
 exact c j a
theorem nT.less(u:nT E W P D Dp T1 T2 H k M X e)(f:∀j,T j->E j)(a:T Dp)(b:T T1)(c:T T2)(d:T H):nT T W P D Dp T1 T2 H k M X e:=by
 obtain⟨o,A,l,z,y⟩:=u;exact⟨o,A,l,z.less f a b c d,y⟩
theorem nT.over(u:nT E W P D Dp T1 T2 H k M X e)(a:E g)(b:g≠0)(i:Only g W W')(c:Dp≠g)(d:T1≠g)(f:T2≠g)(h:H≠g):nT E W' P D Dp T1 T2 H k M X e:=by
 obtain⟨o,A,l,z,y⟩:=u;exact⟨o,A,l,z.over a b i c d f h,y⟩
theorem nT.wide(u:nT E W P D Dp T1 T2 H k M X e)(c:Below W W W')(b:∀j,T j->E j\/(W.1.size<=j/\j<W'.1.size))(a:∀j,E j->T j):nT T W' P D Dp T1 T2 H k M X e:=by
 obtain⟨o,A,l,z,y⟩:=u;exact⟨o,A,l,z.wide c b a,y⟩
theorem oL.less(u:oL E W P D Dp T1 T2 H k M X)(e:∀j,T j->E j)(a:T Dp)(b:T T1)(c:T T2)(d:T H):oL T W P D Dp T1 T2 H k M X:=by
 obtain⟨o,A,l,z,y⟩:=u;exact⟨o,A,l,z.less e a b c d,y⟩
theorem oL.over(u:oL E W P D Dp T1 T2 H k M X)(a:E g)(b:g≠0)(h:Only g W W')(c:Dp≠g)(d:T1≠g)(e:T2≠g)(f:H≠g):oL E W' P D Dp T1 T2 H k M X:=by
 obtain⟨o,A,l,z,y⟩:=u;exact⟨o,A,l,z.over a b h c d e f,y⟩
theorem oL.wide(u:oL E W P D Dp T1 T2 H k M X)(c:Below W W W')(b:∀j,T j->E j\/(W.1.size<=j/\j<W'.1.size))(a:∀j,E j->T j):oL T W' P D Dp T1 T2 H k M X:=by
 obtain⟨o,A,l,z,y⟩:=u;exact⟨o,A,l,z.wide c b a,y⟩
theorem nT.there(u:nT E W P D Dp T1 T2 H k M X e)(a:E j):j<W.1.size:=by
 obtain⟨o,A,l,z,y⟩:=u;exact z.pz.there j a
theorem nT.kept(u:nT E W P D Dp T1 T2 H k M X e)(a:Below W W W'):Kept E W W':=by
 obtain⟨o,A,l,z,y⟩:=u;exact z.pz.kept a
structure LF(St:(Nat->Prop)->World->Prop)(W w:World)(P D Dp T1 T2 H rb:Nat)(X:List bU)(F:Nat->Prop)(xo:Option Addr)(xc:Nat)(xs:List AM):Prop where
 box:ay w rb (iw P Dp xo (Y xs) xc)
 st:St (EB W Dp T1 T2 H rb F) w
 x:qb F w xo xc xs X
 ok:kY X
 far:¬F rb
 kept:Kept (λ j=>j<W.1.size) W w
theorem LF.call(l:LF St W w P D Dp T1 T2 H rb X F xo xc xs)(s:Qu (EB W Dp T1 T2 H rb F) wx)(b:Kept (EB W Dp T1 T2 H rb F) w wx):LF Qu W wx P D Dp T1 T2 H rb X F xo xc xs:=
 ⟨l.box.ae (b.block _ EB.dp.2.2.2.2),s,l.x.of (b.mono λ _ a=>EB.f a),l.ok,l.far,l.kept.trans (b.mono λ _ a=>EB.low a)⟩
def MP(W w:World)(P D Dp T1 T2 H rb K M:Nat)(X:List bU)(F:Nat->Prop)(xo:Option Addr)(xc:Nat)(xs:List AM)(q:Nat)(c:Bool)(a:Array Value):Prop:=
 ay w q a/\rb≠q/\ay w rb (iw P Dp xo (Y xs) xc) /\
 (c=true->∃p i b xs' e,a=iw P Dp i (Y xs') b/\kY e/\Y e<=Y X+1/\nT (EB W Dp T1 T2 H rb p) w P D Dp T1 T2 H K M X e/\qb p w i b xs' e/\¬p rb/\Kept (λ j=>j<W.1.size) W w) /\
 (c=false->LF (λ E w=>oL E w P D Dp T1 T2 H K M X) W w P D Dp T1 T2 H rb X F xo xc xs)
theorem E7(q:Sep W Dp T1 T2 H rb)(l:LF (λ E w=>nT E w P D Dp T1 T2 H k M X X) W w P D Dp T1 T2 H rb X F xo xc xs)(x:s=(w.alloc (.cells yB 43)).drew)(hD:∀E:Nat->Prop,nT E s P D Dp T1 T2 H k M X X->(∀j,EB W Dp T1 T2 H rb F j->E j)->Calls prog 16 #[.agg (iw P Dp xo (Y xs) xc),a] s λ v m=>Ei E F s m P D Dp T1 T2 H K M X (.agg (iw P Dp xo (Y xs) xc)) v) :
  Calls prog 16 #[.agg (iw P Dp xo (Y xs) xc),a] s λ v f=>∃i C c S,v=aw (a9 #[.agg (iw P Dp i C c),a6 S])/\ay f w yB /\
   MP W (UK.gG f w (aq P) (aq Dp) (ad i C c) (ad none 0 0) (a6 false)) P D Dp T1 T2 H rb K M X F xo xc xs w S (iw P Dp i C c):=by
 have h8:s.1.size=w.1.size+1:=by rw[x];simp
 have b1:Below w w s:=by rw[x];exact((aU _ _).alloc (aH _) _).drew
 have T:ay s w yB:=by rw[x];exact(ay.new w _ _).ae rfl
 clear x;have A:∀j,EB W Dp T1 T2 H rb F j->j<w.1.size:=λ j b=>l.st.there b;have h7:=A _ EB.dp.2.2.2.2;have R:=l.kept.size
 have u1:nT (λ j=>EB W Dp T1 T2 H rb F j\/j=w.1.size) s P D Dp T1 T2 H k M X X:=l.st.wide b1 (λ j b=>by
  rcases b with b|rfl
  ·exact O b
  exact al ⟨aH _,Z⟩) (λ j b=>O b)
 have r:=l.st.kept b1;have h5:=q.d;have h3:=q.t1;have h4:=q.t2;have h6:=q.h;have h9:=q.tab;refine(hD _ u1 (λ j b=>O b)).mono ?_;rintro v f (⟨E',p,i,c,xs',e,rfl,h2,h0,G,J,f1,N,Q,g⟩|⟨rfl,G,g⟩)
 ·have n:=T.ae (g.block _ (al rfl));have d:=UK.gN (w:=f) (g:=w.1.size) (aq P) (aq Dp) (ad i (Y xs') c) (ad none 0 0) (a6 false);have L:=n.gG (aq P) (aq Dp) (ad i (Y xs') c) (ad none 0 0) (a6 false)
  have B:¬p w.1.size:=λ o=>by
   rcases N _ o with h|h
   ·exact absurd (A _ (EB.f h)) Z
   omega
  have h1:¬p rb:=λ o=>by
   rcases N _ o with h|h
   ·exact l.far h
   omega
  have I:=(G.over (Q _ (al rfl)) Z d Z Z Z Z).less (T:=EB W Dp T1 T2 H rb p) (EB.sub (F:=F) (λ j b=>Q j (O b)) f1) EB.dp.1 EB.dp.2.1 EB.dp.2.2.1 EB.dp.2.2.2.1;have u:=((l.box.ae (r.block _ EB.dp.2.2.2.2)).ae (g.block _ (O EB.dp.2.2.2.2))).only d Z;have t:=(l.kept.trans (r.mono λ _ b=>EB.low b)).trans (g.mono λ _ b=>O (EB.low b));have y:Kept (λ j=>j<W.1.size) f (UK.gG f w (aq P) (aq Dp) (ad i (Y xs') c) (ad none 0 0) (a6 false)):=FP d (λ _ b=>b) R t.size;exact⟨i,Y xs',c,true,rfl,n,L,Z,u,λ _=>⟨p,i,c,xs',e,rfl,h2,h0,I,J.over d B,h1,t.trans y⟩,λ z=>(by cases z)⟩
 have n:=T.ae (g.block _ (al rfl));have d:=UK.gN (w:=f) (g:=w.1.size) (aq P) (aq Dp) (ad xo (Y xs) xc) (ad none 0 0) (a6 false);have L:=n.gG (aq P) (aq Dp) (ad xo (Y xs) xc) (ad none 0 0) (a6 false);have B:¬F w.1.size:=λ o=>absurd (A _ (EB.f o)) Z;have I:=(G.over (al rfl) Z d Z Z Z Z).less (T:=EB W Dp T1 T2 H rb F) (λ j b=>O b) EB.dp.1 EB.dp.2.1 EB.dp.2.2.1 EB.dp.2.2.2.1;have u:=((l.box.ae (r.block _ EB.dp.2.2.2.2)).ae (g.block _ (O EB.dp.2.2.2.2))).only d Z;have t:=(l.kept.trans (r.mono λ _ b=>EB.low b)).trans (g.mono λ _ b=>O (EB.low b));have y:Kept (λ j=>j<W.1.size) f (UK.gG f w (aq P) (aq Dp) (ad xo (Y xs) xc) (ad none 0 0) (a6 false)):=FP d (λ _ b=>b) R t.size;have J:=(l.x.of (r.mono λ _ b=>EB.f b)).of (g.mono λ _ b=>O (EB.f b));exact⟨xo,Y xs,xc,false,rfl,n,L,Z,u,λ z=>(by cases z),λ _=>⟨u,I,J.over d B,l.ok,l.far,t.trans y⟩⟩
theorem vt(_hs:Sep W Dp T1 T2 H rb)(l:LF (λ E w=>nT E w P D Dp T1 T2 H k M X X) W w P D Dp T1 T2 H rb X F xo xc xs)(B:s=w.drew)(N:∀E:Nat->Prop,nT E s P D Dp T1 T2 H k M X X->(∀j,EB W Dp T1 T2 H rb F j->E j)->Calls prog 16 #[.agg (iw P Dp xo (Y xs) xc),a] s λ r m=>Ei E F s m P D Dp T1 T2 H K M X (.agg (iw P Dp xo (Y xs) xc)) r) :
  Calls prog 16 #[.agg (iw P Dp xo (Y xs) xc),a] s λ r c=>∃i v d C,r=aw (a9 #[.agg (iw P Dp i v d),a6 C]) /\
   MP W (c.alloc (.cells (iw P Dp i v d) 43)) P D Dp T1 T2 H rb K M X F xo xc xs c C (iw P Dp i v d):=by
 have b1:Below w w s:=by rw[B];exact(aU _ _).drew
 clear B;have R:∀j,EB W Dp T1 T2 H rb F j->j<w.1.size:=λ j b=>l.st.there b;have h2:=R _ EB.dp.2.2.2.2;have h1:=l.kept.size;have h3:=b1.size;have u1:nT (EB W Dp T1 T2 H rb F) s P D Dp T1 T2 H k M X X:=l.st.wide b1 (λ j b=>O b) (λ j b=>b);have n:=l.st.kept b1;refine(N _ u1 (λ j b=>b)).mono ?_;rintro r c (⟨G,p,i,d,xs',e,rfl,T,Q,x,z,I,J,L,g⟩|⟨rfl,x,g⟩)
 ·have f:Below c c (c.alloc (.cells (iw P Dp i (Y xs') d) 43)):=(aU _ _).alloc (aH _) _;have A:ay (c.alloc (.cells (iw P Dp i (Y xs') d) 43)) c (iw P Dp i (Y xs') d):=ay.new c _ _
  have S:¬p rb:=λ hq=>by
   rcases J _ hq with h|h
   ·exact l.far h
   omega
  have h0:=g.size;have y:=(x.wide (T:=G) f (λ j b=>O b) (λ j b=>b)).less (T:=EB W Dp T1 T2 H rb p) (EB.sub (F:=F) (λ j b=>L j b) I) EB.dp.1 EB.dp.2.1 EB.dp.2.2.1 EB.dp.2.2.2.1;have q:=((l.box.ae (n.block _ EB.dp.2.2.2.2)).ae (g.block _ EB.dp.2.2.2.2)).next f;have o:=(l.kept.trans (n.mono λ _ b=>EB.low b)).trans (g.mono λ _ b=>EB.low b);have t:Kept (λ j=>j<W.1.size) c (c.alloc (.cells (iw P Dp i (Y xs') d) 43)):=Kept.of_below f (λ j b=>cB b o.size);exact⟨i,Y xs',d,true,rfl,A,Z,q,λ _=>⟨p,i,d,xs',e,rfl,T,Q,y,z.next f,S,o.trans t⟩,λ u=>(by cases u)⟩
 have f:Below c c (c.alloc (.cells (iw P Dp xo (Y xs) xc) 43)):=(aU _ _).alloc (aH _) _;have A:ay (c.alloc (.cells (iw P Dp xo (Y xs) xc) 43)) c (iw P Dp xo (Y xs) xc):=ay.new c _ _;have h0:=g.size;have y:=x.wide (T:=EB W Dp T1 T2 H rb F) f (λ j b=>O b) (λ j b=>b);have q:=((l.box.ae (n.block _ EB.dp.2.2.2.2)).ae (g.block _ EB.dp.2.2.2.2)).next f;have o:=(l.kept.trans (n.mono λ _ b=>EB.low b)).trans (g.mono λ _ b=>EB.low b);have t:Kept (λ j=>j<W.1.size) c (c.alloc (.cells (iw P Dp xo (Y xs) xc) 43)):=Kept.of_below f (λ j b=>cB b o.size);have z:=(l.x.of (n.mono λ _ b=>EB.f b)).of (g.mono λ _ b=>EB.f b);exact⟨xo,Y xs,xc,false,rfl,A,Z,q,λ u=>(by cases u),λ _=>⟨q,y,z.next f,l.ok,l.far,o.trans t⟩⟩
theorem MP.turn(c:Sep W Dp T1 T2 H rb){f b:Nat}(s:MP W w P D Dp T1 T2 H rb K M X F xo xc xs q true (iw P Dp i f b)) :
  ∃p xs' e,f=Y xs'/\Y e<=Y X+1/\LF (λ E w=>nT E w P D Dp T1 T2 H K M X e) W (UK.gG w rb (aq P) (aq Dp) (ad i f b) (ad none 0 0) (a6 false)) P D Dp T1 T2 H rb e p i b xs':=by
 obtain⟨A,J,j,t,_⟩:=s;obtain⟨p,z,v,d,e,l,r,n,u,x,g,h⟩:=t rfl
 have k:ad i f b=ad z (Y d) v:=by
  have:=congrArg (λ a:Array Value=>a[2]?) l
  simpa[iw]using this
 obtain⟨rfl,rfl,rfl⟩:=Value.slice.inj k;have o:=UK.gN (w:=w) (g:=rb) (aq P) (aq Dp) (ad i (Y d) b) (ad none 0 0) (a6 false);have y:=j.gG (aq P) (aq Dp) (ad i (Y d) b) (ad none 0 0) (a6 false);have G:=c.d;have B:=c.t1;have C:=c.t2;have I:=c.h;have L:=c.tab;exact⟨p,d,e,rfl,n,y,u.over EB.dp.2.2.2.2 Z o Z Z Z Z,x.over o g,r,g,h.trans (FP o (λ _ m=>m) Z h.size)⟩
end
