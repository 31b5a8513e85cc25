/- Facts on texts on pages. -/
import Derived.Test.YtgpmiliahonaoaaGreatDoorKTsGc
set_option maxRecDepth 100000
set_option maxHeartbeats 8000000
set_option linter.unusedSimpArgs false
open Go.Value renaming bool->a6,int->V,pointer->aq,slice->ad,tuple->a9
open Go.IntKind renaming i64->U,u64->a7
open List renaming length->Y
open Or renaming inl->O,inr->al
open Go.Ending renaming returned->aw
open Go.Proofs.Tryz
namespace Go.Proofs.YtgpmiliahonaoaaGreatDoor
open Go.RowKit
open UK (str aF nth Only Row ay)
variable{W z w w4:World}{e n h p d i c P D T g pg N nb gk m ca cb q:Nat}{ka va aa:Option Addr}{xa xb x:Nd}{f:Nat->Option Nd}{k dZ κ:UInt64}{A B C:AP}{ag l j o:List UInt64}{ak cs:List Nat}{was one:Bool}{E S S' R:Nat->Prop}
section
variable{a b Na Ma Nb Mb t v s:Nat}{kb u r:Option Addr}
theorem vq(q:zu Na Ma W a xa ka va aa e n h)(w:zu Nb Mb W b xb kb u r t v s)(l:Ma<=Nb)(A:xa.leaf=xb.leaf)(x:Fits xa)(y:Fits xb)(i:0<Y xa.ag)(k:0<Y xb.ag)(κ:UInt64) :
  Calls prog 258 #[aq a,aq b,V a7 κ.toNat] W (zw Na Ma Nb Mb W a b xa xb κ):=by
 obtain⟨C,j,o,cs⟩:=xa;obtain⟨F,D,G,E⟩:=xb;dsimp only at A i k;subst A
 cases C with
 | true=>
  obtain⟨m,c,f⟩:=x.leaf rfl;obtain⟨p,d,g⟩:=y.leaf rfl;dsimp only at m c f p d g;subst f g;by_cases B:Y j+Y D<=30
  ·exact lr q w l c d i k B κ
  exact wi q w l c d i k rfl Z Z rfl κ
 | false=>
  obtain⟨m,c,f,f4,_⟩:=x.inner rfl;obtain⟨p,d,g,z,_⟩:=y.inner rfl;dsimp only at m c f f4 p d g z;subst f4 z;exact GS q w l i k Z Z rfl rfl Z Z rfl κ
end
open UK (str aF nth Only)
structure qC(B:AP)(pg:Nat)(ag:List UInt64)(ak:List Nat)(m ca cb:Nat)(κ:UInt64)(xa xb:Nd):Prop where
 ka:ak[m]?=some ca
 kb:ak[m+1]?=some cb
 k:ag[m]?=some κ
 na:aB B ca=some xa
 nb:aB B cb=some xb
 leaf:xa.leaf=xb.leaf
 ha:B.Has ca
 hb:B.Has cb
 hp:B.Has pg
 ne:ca≠cb
 pa:pg≠ca
 pb:pg≠cb
 Ks:0<Y xa.ag
 FZ:0<Y xb.ag
 f1:Fits (iF xa xb κ).1
 f2:(iF xa xb κ).2.2.2=false->Fits (iF xa xb κ).2.1
 dV:∀p,B.Has p->(B.c p).length=504
 good:B.Good
theorem cI(g:f p=some x)(e:Fits x)(h:ji f p\/wy f p):0<Y x.ag:=by
 rcases h with⟨y,b,c,d⟩|⟨y,b,c,d⟩
 ·rw[g]at b;obtain rfl:=bf b
  cases a:x.leaf with
  | true=>have:=c a;omega
  | false=>have:=d a;have:=(e.inner a).1;omega
 rw[g]at b;obtain rfl:=bf b
 cases a:x.leaf with
 | true=>have:=c a;omega
 | false=>have:=(d a).1;have:=(e.inner a).1;omega
theorem DG{s:Sb}(J:Tr (aB A) (d+1) s)(M:s.ps.Nodup)(D:∀p∈s.ps,A.Has p)(K:A.Good)(hc:∀p,A.Has p->(A.c p).length=504)(L:aB A s.pg=some ⟨false,ag,[],ak⟩)(h0:dQ ag k i)(R:ak[i]?=some c)(h2:eU k d A c B was true) :
  ∃ca cb κ xa xb,qC B s.pg ag ak (yQ (Y ak) i) ca cb κ xa xb:=by
 obtain⟨b,h3,l,h1,rfl,oG,qL⟩:=J.kid L R;obtain⟨gone,hO⟩:=gC h2 h3 oG h1 (l.tn M) (λ p hp=>D p (l.sub p hp)) K hc;obtain⟨T,f,w,z,_,X,hw⟩:=O9 l h0 J.mem M D qL hO;have hf:=(lI L).inner rfl;dsimp only at hf;obtain⟨z1,z3,_⟩:=hf;have hi:=(dz.1 R).1;obtain⟨m,E⟩:∃m,m=yQ (b.map Sb.pg).length i:=⟨_,rfl⟩
 have qQ:m+1<(b.map Sb.pg).length:=by
  rw[E];unfold yQ
  split<;>omega
 obtain⟨ca,H⟩:∃c,(b.map Sb.pg)[m]?=some c:=⟨_,bK Z⟩;obtain⟨cb,C⟩:∃c,(b.map Sb.pg)[m+1]?=some c:=⟨_,bK qQ⟩;obtain⟨κ,S⟩:∃c,ag[m]?=some c:=⟨_,bK Z⟩
 have Q:∀(j:Nat) (q:Nat),(b.map Sb.pg)[j]?=some q->∃u,u.pg=q/\u∈b.take i++T::b.drop (i+1):=λ j q P=>by
  rw[<-Gu l.at_ w]at P;obtain⟨u,r,e⟩:=KQ P;exact⟨u,e,dU r⟩
 have I:∀q,(∃u,u.pg=q/\u∈b.take i++T::b.drop (i+1))->∃x,aB B q=some x/\(ji (aB B) q\/wy (aB B) q):=λ q ⟨u,e,r⟩=>by
  have W:=f.lJ.all u r
  have F:∃x,aB B u.pg=some x:=by
   cases d with
   | zero=>obtain⟨_,_,h,_⟩:=W;exact⟨_,h⟩
   | succ d=>obtain⟨_,_,h,_⟩:=W;exact⟨_,h⟩
  obtain⟨x,F⟩:=F;refine⟨x,e▸F,?_⟩;rcases dm.1 r with h|h
  ·exact O (e▸z u (by simp[h]))
  rcases aN.1 h with rfl|h
  ·exact al (by rw[<-e,w];exact X rfl)
  exact O (e▸z u (by simp[h]))
 obtain⟨xa,n,ga⟩:=I ca (Q m ca H);obtain⟨xb,o,gb⟩:=I cb (Q (m+1) cb C);obtain⟨sa,sb,t,v,g⟩:=Rq l.at_ f w z (X rfl) E H C S n o;have a:=f.xL g;have G:=f.has D;have y:=Ro a.ta a.tb a.fA g.na g.nb (lI n) (lI o) a.lo a.hi g.many (x:=(iF xa xb κ).1) (y:=(iF xa xb κ).2.1) (dZ:=(iF xa xb κ).2.2.1) (one:=(iF xa xb κ).2.2.2) rfl;rw[<-E];refine⟨ca,cb,κ,xa,xb,H,C,S,n,o,?_,?_,?_,G s.pg (by simp),?_,?_,?_,cI n (lI n) ga,cI o (lI o) gb,?_,λ h=>(y.2 h).2.1,f.gz.dV,f.gz.good K⟩
 ·exact eR a.ta a.tb g.na g.nb
 ·rw[<-t];exact G _ a.ha
 ·rw[<-v];exact G _ a.hb
 ·rw[<-t,<-v];exact a.ne
 ·rw[<-t];exact dJ a.na
 ·rw[<-v];exact dJ a.nb
 cases N:(iF xa xb κ).2.2.2 with
 | true=>exact(y.1 N).1
 | false=>exact(y.2 N).1
section
variable{k:Nat}
theorem jU.mono(h:jU S W nb x)(a:∀j,S j->S' j):jU S' W nb x:=by
 obtain⟨i,k,c,b,g,d,e,f⟩:=h;exact⟨i,k,c,b,a _ g,d.mono a,e.mono a,f.mono a⟩
def rD(ka va aa:Option Addr)(nb j:Nat):Prop:=aG ka j\/aG va j\/aG aa j\/j=nb
def KZ(E:Nat->Prop)(W a:World)(P D T g nb:Nat)(R:Nat->Prop)(B:AP)(K:Nat)(x:Nd):Prop:=
 ∃L H b,W.1.size<=L/\PZ (λ j=>E j\/(L<=j/\j<H)) a P D B b/\b<=K/\jU (λ j=>E j\/(L<=j/\j<H)) a nb x/\ay a T #[aq P,V U g]/\Kept (λ j=>E j/\¬R j) W a
theorem oi(b:aZ N w nb ⟨false,ag,[],ak⟩ gk va aa e n h)(l:m<Y ag)(c:∀g,rD gk va aa nb g->E g) :
  jU E (w.setCell (gk,m) (V a7 (dZ.toNat:Int))) nb ⟨false,ag.set m dZ,[],ak⟩/\Only gk w (w.setCell (gk,m) (V a7 (dZ.toNat:Int))):=by
 have o:Only gk w (w.setCell (gk,m) (V a7 (dZ.toNat:Int))):=(Only.refl gk w).set m _;have p:nb≠gk:=λ a=>(b.new gk (O rfl)).2 a.symm
 obtain⟨g,a,r⟩:∃g,(some ⟨gk,0,none⟩:Option Addr)=some ⟨g,0,none⟩/\Row w g e (az ag):=by
  rcases b.k with q|f
  ·cases q.1
  exact f
 injection a with a;injection a with a;subst a
 have d:=r.set m (V a7 (dZ.toNat:Int)) (by rw[dH];exact l);rw[c9]at d;refine⟨⟨ad gk (Y ag) e,ad va 0 n,ad aa (Y ak) h,b.box.only o p,c nb (al (al (al rfl))),?_,?_,?_⟩,o⟩
 ·have:=xz (S:=E) d (c gk (O rfl));rw[dH,aV]at this;exact this
 ·exact⟨va,n,rfl,aR _,λ j u k=>(by cases k)⟩
 have:=(b.a.only o (λ a=>b.ka gk rfl a)).win (S:=E) (λ g i=>c g (al (al (O i))));rw[iC]at this;exact this
theorem Kg(p:PZ E W P D A k)(hk:k+20<900000000)(H:ay W T #[aq P,V U g])(G:E T)(r:aZ N W nb ⟨false,ag,[],ak⟩ gk va aa e n h)(w:∀F,rD gk va aa nb F->E F)(h6:¬rD gk va aa nb T)(hc:¬rD gk va aa nb 0)(l:qC A pg ag ak m ca cb κ xa xb) :
  Calls prog 156 #[aq T,V U ca] W λ i S=>∃a:Nat,i=aw (a9 #[aq a,V U 0])/\Kept E W S /\
   Calls prog 156 #[aq T,V U cb] S λ i f=>∃b:Nat,i=aw (a9 #[aq b,V U 0])/\Kept E W f/\f.cell? a=some (a6 xa.leaf)/\f.cell? b=some (a6 xa.leaf)/\∀q,
    Calls prog 258 #[aq a,aq b,V a7 κ.toNat] (f.drewN q) λ i o=>i=aw (a9 #[V a7 ((iF xa xb κ).2.2.1.toNat:Int),a6 (iF xa xb κ).2.2.2])/\Kept E W o /\
     Calls prog 150 #[aq T,V U ca,aq a] o λ i w4=>i=aw (V U 0)/\Kept E W w4 /\
      ((iF xa xb κ).2.2.2=false->Calls prog 150 #[aq T,V U cb,aq b] (w4.setCell (gk,m) (V a7 ((iF xa xb κ).2.2.1.toNat:Int))) λ i y=>i=aw (V U 0) /\
       KZ E W y P D T g nb (rD gk va aa nb) ((A.ax ca (aX (A.c ca) (iF xa xb κ).1)).ax cb (aX ((A.ax ca (aX (A.c ca) (iF xa xb κ).1)).c cb) (iF xa xb κ).2.1)) (k+20) ⟨false,ag.set m (iF xa xb κ).2.2.1,[],ak⟩) /\
      ((iF xa xb κ).2.2.2=true->PZ E w4 P D (A.ax ca (aX (A.c ca) (iF xa xb κ).1)) (k+7)):=by
 have z:=p.there;refine(yJ p Z H l.ha l.na).mono ?_;rintro i S ⟨u,s,a,ga,hl,hi,c1,c2,c3,rfl,hp,hn,⟨oa,h3,h0⟩,p1,I⟩;refine⟨a,rfl,I,?_⟩;have h7:=H.ae (I.block T G);refine(yJ p1 Z h7 l.hb l.nb).mono ?_;rintro i f ⟨v,t,b,gb,hm,hj,d1,d2,d3,rfl,hq,ho,⟨ob,ha,h9⟩,p2,M⟩;have k12:Kept E W f:=I.trans (M.mono (λ _ c=>O c));have h5:=oa.move h3 h0 M.size (λ F h1 h2=>M.block F (al ⟨h1,h2⟩));refine⟨b,rfl,k12,h5.box.cell 0 _ rfl,by rw[l.leaf];exact ob.box.cell 0 _ rfl,λ q=>?_⟩;have C:Below f f (f.drewN q):=UK.dN (aU _ _) q;refine(vq (Na:=u) (Ma:=s) (Nb:=v) (Mb:=t) ⟨h5.next C,h3,h0⟩ ⟨ob.next C,ha,h9⟩ Z l.leaf (lI l.na) (lI l.nb) l.Ks l.FZ κ).mono ?_;rintro i o ⟨he,ra,rb,J⟩;have hb:(f.drewN q).1.size=f.1.size:=rfl;rw[hb]at ra rb J;have Y:=k12.size;have hr:=I.size;have kq:Kept E f (f.drewN q):=Kept.of_below C (λ j c=>cB (z j c) Y);have k13:Kept E W o:=(k12.trans kq).trans (J.mono (λ j c=>⟨cB (z j c) Y,λ d=>by have:=z j c;omega⟩));refine⟨he,k13,?_⟩;have ht:=p.tab.lt
 have p3:PZ (λ j=>E j\/((u<=j/\j<s)\/(v<=j/\j<t)\/(f.1.size<=j/\j<o.1.size))) o P D A (k+2+2):=
  (p2.next C).over (R:=λ j=>(u<=j/\j<s)\/(v<=j/\j<t)) (λ j c=>by
   rcases c with d|d
   ·exact O (al d)
   ·exact al d) (λ d=>Z) J.size (λ j c L=>J.block j ⟨c,L⟩) (λ j c=>by
   rcases c with d|d|d|d
   ·exact O (O (O d))
   ·exact O (O (al d))
   ·exact O (al d)
   exact al d)
 have h8:=H.ae (k13.block T G);have hg:=ra.mono (S':=λ j=>E j\/((u<=j/\j<s)\/(v<=j/\j<t)\/(f.1.size<=j/\j<o.1.size))) (λ j c=>al c);refine(cZ p3 Z h8 l.ha hg l.f1).mono ?_;rintro i w4 ⟨rfl,p4,Q⟩;have k14:Kept E W w4:=k13.trans (Q.mono (λ _ c=>O c));refine⟨rfl,k14,λ K=>?_,λ K=>(p4.less (λ _ c=>O c)).up Z⟩;have B:=k14.size
 have uY:aZ N w4 nb ⟨false,ag,[],ak⟩ gk va aa e n h:=
  ⟨r.box.ae (k14.block nb (w nb (al (al (al rfl))))),r.k.ae B (λ j c=>k14.block j (w j (O c))),r.v.ae B (λ j c=>k14.block j (w j (al (O c)))),r.a.ae B (λ j c=>k14.block j (w j (al (al (O c))))),r.ge,r.new,r.kv,r.ka,r.va⟩
 have qQ:=(dz.1 l.k).1;obtain⟨rn,on⟩:=oi (dZ:=(iF xa xb κ).2.2.1) uY qQ w;generalize w4.setCell (gk,m) (V a7 ((iF xa xb κ).2.2.1.toNat:Int))=y at rn on ⊢;have X:E gk:=w gk (O rfl);have hs:=z gk X
 have p5:PZ (λ j=>E j\/((u<=j/\j<s)\/(v<=j/\j<t)\/(f.1.size<=j/\j<o.1.size))) y P D (A.ax ca (aX (A.c ca) (iF xa xb κ).1)) (k+2+2+3):=
  p4.over (R:=λ j=>j=gk) (λ j c=>by rw[c];exact O X) (λ d=>hc (O (congrArg (λ x=>some (⟨x,0,none⟩:Addr)) (show gk=_ from d.symm)))) on.size (λ j c L=>on.block j c L) (λ j c=>O c)
 have kS:Kept (λ j=>(u<=j/\j<s)\/(v<=j/\j<t)\/(f.1.size<=j/\j<o.1.size)) o y:=
  (Q.mono (λ _ c=>al c)).trans ⟨on.os,on.tape,on.output,on.size,λ j c=>on.block j (cB (p3.there j (al c)) Q.size) (λ i=>Z)⟩
 have hh:=((rb K).xG kS).mono (S':=λ j=>E j\/((u<=j/\j<s)\/(v<=j/\j<t)\/(f.1.size<=j/\j<o.1.size))) (λ j c=>al c);have kT:Kept (λ j=>E j/\¬rD gk va aa nb j) w4 y:=⟨on.os,on.tape,on.output,on.size,λ j c=>on.block j (cB (z j c.1) B) (λ i=>c.2 (by rw[i];exact O rfl))⟩;have k15:Kept (λ j=>E j/\¬rD gk va aa nb j) W y:=(k14.mono (λ _ c=>c.1)).trans kT;have h4:=H.ae (k15.block T ⟨G,h6⟩);refine(cZ p5 Z h4 (AP.aC.2 l.hb) hh (l.f2 K)).mono ?_;rintro i w6 ⟨rfl,p6,R⟩;refine⟨rfl,W.1.size,W.1.size,_,aH _,p6.less (λ j c=>?_),Z,(rn.xG (R.mono (λ _ c=>O c))).mono (λ _ c=>O c),h4.ae (R.block T (O G)),k15.trans (R.mono (λ _ c=>O c.1))⟩;rcases c with d|d
 ·exact O d
 omega
theorem C7{wc:World}(x:ay W T #[aq P,V U g])(r:E T)(p:PZ E w4 P D A k)(Q:k+20<900000000)(t:Kept E W w4)(h:∀d,rD ka va aa nb d->E d)(w:¬rD ka va aa nb T)(C:¬rD ka va aa nb 0)(z:A.Has q)(v:∀j,E j->j<W.1.size)(hcut:uN N w4 wc nb ka va aa l cs) :
  Calls prog 60 #[aq P,V U q] wc (λ e J=>e=aw (V U 0)/\KZ E W J P D T g nb (rD ka va aa nb) (A.give q) (k+1) ⟨false,l,[],cs⟩)/\wc.cell? T=some (aq P):=by
 obtain⟨R,K,c,L,M,i,m,y,F⟩:=hcut;have o:=t.size
 have G:PZ (λ j=>E j\/(w4.1.size<=j/\j<wc.1.size)) wc P D A k:=
  p.over (R:=rD ka va aa nb) h C m.size (λ j a B=>m.block j ⟨a,B⟩) (λ j a=>a)
 have u:Kept (λ j=>E j/\¬rD ka va aa nb j) W wc:=(t.mono (λ _ a=>a.1)).trans (m.mono (λ j a=>⟨cB (v j a.1) o,a.2⟩));have s:=x.ae (u.block T ⟨r,w⟩)
 have I:jU (λ j=>E j\/(w4.1.size<=j/\j<wc.1.size)) wc nb ⟨false,l,[],cs⟩:=i.reads (O (h nb (al (al (al rfl))))) (λ d b=>by
  rcases b with b|b|b
  ·rcases y d b with f|f
   ·exact O (h d (O f))
   exact al ⟨f,KL i.k b⟩
  ·exact O (h d (al (O b)))
  rcases F d b with f|f
  ·exact O (h d (al (al (O f))))
  exact al ⟨f,KL i.a b⟩)
 refine⟨(IA G Z q z).mono ?_,s.cell 0 _ rfl⟩;rintro e S ⟨rfl,H,n⟩;exact⟨rfl,w4.1.size,wc.1.size,k+1,o,H,aH _,I.xG n,s.ae (n.block T (O r)),u.trans (n.mono (λ _ a=>O a.1))⟩
end
open Go.BigFrame
section
variable{k:Nat}
theorem Bx{b d:Nat}(j:aZ N w4 nb ⟨false,ag,[],ak⟩ gk va d e n h)(s:Y ag=b)(p:Y ak=b+1)(B:b<=100)(C:m<b) :
  (∀(u:World) (_:Below w4 w4 u),Calls prog 215 #[ad gk b e,V U m,V U ((m:Int)+1)] u λ a c=>a=aw (ad gk (b-1) e)/\iA N w4 c nb ⟨false,ag,[],ak⟩ gk va d e n h (ag.take m++ag.drop (m+1)) gk e/\c.cell? (nb,1)=some (ad gk b e)/\c.cell? (nb,3)=some (ad d (b+1) h)) /\
  (∀(l:World) (_:iA N w4 l nb ⟨false,ag,[],ak⟩ gk va d e n h (ag.take m++ag.drop (m+1)) gk e),Calls prog 259 #[ad d (b+1) h,V U ((m:Int)+1),V U ((m:Int)+2)] l λ a c=>a=aw (ad d b h)/\uN N w4 ((c.setCell (nb,1) (ad gk (b-1) e)).setCell (nb,3) (ad d b h)) nb gk va d (ag.take m++ag.drop (m+1)) (ak.take (m+1)++ak.drop (m+2))/\c.cell? (nb,1)=some (ad gk b e)/\c.cell? (nb,3)=some (ad d (b+1) h)/\c.frozen? ⟨nb,1,none⟩=false/\c.frozen? ⟨nb,3,none⟩=false):=by
 have z:N<=w4.1.size:=Nat.le_of_lt (Nat.lt_of_le_of_lt j.ge j.box.lt)
 have w:Row w4 gk e (az ag):=by
  rcases j.k with t|⟨g,a,r⟩
  ·cases t.1
  injection a with a;injection a with a;rw[a];exact r
 have x:(ag.take m++ag.drop (m+1)).length=b-1:=by simp;omega
 have y:(ak.take (m+1)++ak.drop (m+2)).length=b:=by simp;omega
 refine⟨λ u v=>?_,λ l i=>?_⟩
 ·skip
  have hd:=Wl (w.below v w.lt) (show Y ag<=1000 from Z) (show m<Y ag from Z);rw[s]at hd;refine hd.mono (λ a c ⟨q,r,o⟩=>?_);have i:=j.yL z v r o (O rfl);have k:=i.box;dsimp only at k;rw[s,p]at k;exact⟨q,i,k.cell 1 _ rfl,k.cell 3 _ rfl⟩
 skip
 have A:Row l d h (ints ak):=by
  rcases i.a with t|⟨g,a,r⟩
  ·cases t.1
  injection a with a;injection a with a;rw[a];exact r
 have hd:=lg A (show Y ak<=1000 from Z) (show m+1<Y ak from Z);rw[p]at hd;refine hd.mono (λ a c ⟨q,r,o⟩=>?_);have f:=(i.BB j r o (O rfl)).2.2.1;dsimp only at f;rw[s,p]at f;exact⟨q,cw j i r o (O rfl) x y,f.cell 1 _ rfl,f.cell 3 _ rfl,f.free 1,f.free 3⟩
theorem mj{a:Nat}(p:PZ E W P D A k)(hk:k+40<900000000)(v:ay W T #[aq P,V U g])(t:E T)(c:aZ N W nb ⟨false,ag,[],ak⟩ ka va aa e n h)(f:∀r,rD ka va aa nb r->E r)(u:¬rD ka va aa nb T)(C:¬rD ka va aa nb 0)(q:qC A pg ag ak m ca cb κ xa xb)(B:Y ag=a)(y:Y ak=a+1)(h1:1<=a)(S:a<=100)(hi:i<=a)(hm:m=yQ (a+1) i) :
  Calls prog 217 #[aq T,aq nb,V U i] W λ d Q=>d=aw (V U 0) /\
   ((iF xa xb κ).2.2.2=false->KZ E W Q P D T g nb (rD ka va aa nb) ((A.ax ca (aX (A.c ca) (iF xa xb κ).1)).ax cb (aX ((A.ax ca (aX (A.c ca) (iF xa xb κ).1)).c cb) (iF xa xb κ).2.1)) (k+20) ⟨false,ag.set m (iF xa xb κ).2.2.1,[],ak⟩) /\
   ((iF xa xb κ).2.2.2=true->KZ E W Q P D T g nb (rD ka va aa nb) ((A.ax ca (aX (A.c ca) (iF xa xb κ).1)).give cb) (k+20) ⟨false,ag.take m++ag.drop (m+1),[],ak.take (m+1)++ak.drop (m+2)⟩):=by
 obtain⟨gk,rfl,rk⟩:∃r,ka=some ⟨r,0,none⟩/\Row W r e (az ag):=by
  rcases c.k with hz|h2
  ·have:=congrArg List.length hz.2.1;rw[dH]at this;exact absurd (show Y ag=0 from this) Z
  exact h2
 obtain⟨l,rfl,ra⟩:∃r,aa=some ⟨r,0,none⟩/\Row W r h (ints ak):=by
  rcases c.a with hz|h2
  ·have:=congrArg List.length hz.2.1;rw[iC]at this;exact absurd (show Y ak=0 from this) Z
  exact h2
 have ha:=f gk (O rfl);have h9:=f l (al (al (O rfl)));have nH:=f nb (al (al (al rfl)));have hq:l≠gk:=λ d=>c.ka gk rfl (by rw[<-d];rfl);have hr:nb≠gk:=λ d=>(c.new gk (O rfl)).2 d.symm
 have W9:∀w,Kept E W w->w.cell? (nb,1)=some (ad gk a e)/\w.cell? (nb,3)=some (ad l (a+1) h)/\w.cell? (gk,m)=some (V a7 (κ.toNat:Int))/\w.cell? (l,m)=some (V U (ca:Int))/\w.cell? (l,m+1)=some (V U (cb:Int))/\w.frozen? ⟨gk,m,none⟩=false:=λ w J=>by
  have b:=c.box.ae (J.block nb nH);rw[B,y]at b;have h6:=rk.ae J.size (J.block gk ha);have r2:=ra.ae J.size (J.block l h9);refine⟨b.cell 1 _ rfl,b.cell 3 _ rfl,h6.at' m _ (tO _ _ _ q.k),r2.at' m _ (Gi _ _ _ q.ka),r2.at' (m+1) _ (Gi _ _ _ q.kb),h6.free m ?_⟩;have:=h6.le;rw[dH]at this;have:=(dz.1 q.k).1;omega
 have Ch:m<a:=by have:=(dz.1 q.k).1;omega
 have qQ:m<=1000:=Z
 have hp:(i=a/\m=a-1)\/(i≠a/\m=i):=by
  rw[hm];unfold yQ
  split<;>omega
 obtain⟨⟨x8,x9,dZ,one⟩,s⟩:∃x,iF xa xb κ=x:=⟨_,rfl⟩;have hC:=Kg p Z v t c f u C q;rw[s]at hC ⊢;dsimp only at hC ⊢;have HC:=zH hC;have G:=zH W9;have HX:=bH S p v t c f u C q B y;obtain⟨x1,x3,y0,z0,z1,_⟩:=W9 W (Kept.refl _ _);have j1:(m:Int)<((a:Int)+1):=Z
 have j2:(m:Int)+1<((a:Int)+1):=Z
 have j3:(m:Int)<(a:Int):=Z
 have j4:((m:Int)+1).toNat=m+1:=Z
 have j5:(0:Int)<=(m:Int)+1:=Z
 have j6:(m:Int)+1=((m+1:Nat):Int):=rfl;have j7:(m:Int)+2=((m+2:Nat):Int):=rfl;have j8:((a+1:Nat):Int)-1=(a:Int):=Z
 have j10:(a:Int)+1-1=(a:Int):=Z
 have hA:i=a->(a:Int)-1=(m:Int):=λ h8=>Z
 have hB:i≠a->(i:Int)≠(a:Int)/\m=i:=λ h8=>Z
 have l1:m+1<=1000:=Z
 have K:m+2<=1000:=Z
 have L:a<=1000:=Z
 have HI:=bg hA hB;have HKK:=zH (λ (I:Nat) (h8:I<=k+7+1)=>(show I<=k+20 from Z));have x6:k+20<900000000:=Z
 have WA:k+7+20<900000000:=Z
 clear hC s hp hm hi hA hB p v t c f u C q B y h1 S W9 rk ra ha h9 nH hk;have v1:wrap64 ((m:Int)+1)=(m:Int)+1:=by rw[j6];exact CS _ l1
 have v2:IntKind.i64.wrap ((m:Int)+1)=(m:Int)+1:=by rw[j6];exact CU _ l1
 have v3:wrap64 ((m:Int)+2)=(m:Int)+2:=by rw[j7];exact CS _ K
 have v4:IntKind.i64.wrap ((m:Int)+2)=(m:Int)+2:=by rw[j7];exact CU _ K
 have v5:wrap64 ((a:Int)+1-1)=(a:Int):=by rw[j10];exact CS _ L
 have v6:IntKind.i64.wrap ((a:Int)+1-1)=(a:Int):=by rw[j10];exact CU _ L
 have v7:wrap64 (a:Int)=(a:Int):=CS _ L;have v8:IntKind.i64.wrap (a:Int)=(a:Int):=CU _ L;have M:wrap64 (m:Int)=(m:Int):=CS _ qQ;have v10:IntKind.i64.wrap (m:Int)=(m:Int):=CU _ qQ;clear j6 j7 j8 j10 l1 K L qQ
 go_enter func217,ntmps217
 go_upto_if 21 with(fail)
 go_cut [2] (λ iv R=>iv=V U (m:Int)/\R=W)
 case first=>
  by_cases z:i=a
  ·have F:=HI.out.1 z;have q0:((i:Int)==(a:Int))=true:=by rw[z];exact beq_self_eq_true _
   have q2:wrap64 ((i:Int)-1)=(m:Int):=by rw[z,F];exact M
   have q3:IntKind.i64.wrap ((i:Int)-1)=(m:Int):=by rw[z,F];exact v10
   clear F z v1 v2 v3 v4 v5 v6 v7 v8 M v10 x1 x3 y0 z0 z1 j1 j2 j3 j4 j5
   go_wp2_with fail
   go_meet
   case rel=>exact⟨rfl,rfl⟩
  obtain⟨F,q2⟩:=HI.out.2 z;subst q2;have q3:((m:Int)==(a:Int))=false:=beq_eq_false_iff_ne.2 F;clear v1 v2 v3 v4 v5 v6 v7 v8 M v10 x1 x3 y0 z0 z1 j1 j2 j3 j4 j5
  go_wp2_with fail
  go_meet
  case rel=>exact⟨rfl,rfl⟩
 case rest=>
 obtain⟨rfl,rfl⟩:=hcut;clear HI
 go_wp2_with fail
 refine HC.out.mono ?_;rintro d w1 ⟨x5,rfl,k1,h0⟩;replace h0:=zH h0;obtain⟨Ww,hu,hy,x2,x4,_⟩:=G.out w1 k1;clear k1 HC
 go_wp2_with fail
 refine h0.out.mono ?_;rintro d w2 ⟨b,rfl,k2,hn,ho,s⟩;replace s:=zH s;obtain⟨hv,hw,y20,z20,z21,_⟩:=G.out w2 k2;clear k2 h0
 go_wp2_with fail
 go_quiet (fail)
 have hs:(xa.leaf != xa.leaf)=false:=by simp
 go_wp2_with fail
 clear Ww hu hy x2 x4 hv hw y20 z20 z21 hn ho x1 x3 y0 z0 z1 hs;refine(s.out _).mono ?_;rintro d w3 ⟨rfl,k3,h3⟩;replace h3:=zH h3;obtain⟨x31,hx,x0,z30,z31,_⟩:=G.out w3 k3;clear k3 s
 go_wp2_with fail
 clear x31 hx x0 z30 z31;refine h3.out.mono ?_;rintro d w4 ⟨rfl,o,hf,ht⟩;obtain⟨x41,x43,hg,z40,z41,f40⟩:=G.out w4 o;clear h3
 cases one with
 | false=>
  have h5:=hf rfl;have HQ:=zH h5;have on:Only gk w4 (w4.setCell (gk,m) (V a7 (dZ.toNat:Int))):=(Only.refl gk w4).set m _;have c3:=on.cell x43 hr;have c4:=on.cell z41 hq;clear hf ht h5 o on v3 v4 v5 v6 v7 v8 M v10
  go_upto_region 16 with(fail)
  go_cut [] (λ R=>R=w4.setCell (gk,m) (V a7 (dZ.toNat:Int)))
  case first=>
   go_wp2_with fail
   go_meet
   case rel=>exact rfl
  case rest=>
  generalize w4.setCell (gk,m) (V a7 (dZ.toNat:Int))=w5 at hcut c3 c4 HQ;subst hcut;clear x41 x43 hg z40 z41 f40
  go_wp2_with fail
  refine HQ.out.mono ?_;rintro d w5 ⟨rfl,hM⟩;have X:=zH hM;clear hM HQ;go_wp2;go_ret;exact⟨rfl,X.out⟩
 | true=>
  have p4:=ht rfl;obtain⟨S,p,v,t,c,f,u,C,q,B,y⟩:=HX.out
  have uY:aZ N w4 nb ⟨false,ag,[],ak⟩ gk va l e n h:=
   ⟨c.box.ae (o.block nb (f nb (al (al (al rfl))))),c.k.ae o.size (λ j H=>o.block j (f j (O H))),c.v.ae o.size (λ j H=>o.block j (f j (al (O H)))),c.a.ae o.size (λ j H=>o.block j (f j (al (al (O H))))),c.ge,c.new,c.kv,c.ka,c.va⟩
  have h7:=zH (λ (wc:World) hcut=>C7 (w4:=w4) (wc:=wc) (ka:=some ⟨gk,0,none⟩) (va:=va) (aa:=some ⟨l,0,none⟩) (nb:=nb) (N:=N) (l:=ag.take m++ag.drop (m+1)) (cs:=ak.take (m+1)++ak.drop (m+2)) (q:=cb) v t p4 WA o f u C (AP.aC.2 q.hb) p.there hcut);obtain⟨hb,hc⟩:=Bx (m:=m) uY B y S Ch;have HI1:=zH hb;have HI2:=zH hc;have he:w4.drew.cell? (nb,1)=some (ad gk a e)/\w4.drew.cell? (nb,3)=some (ad l (a+1) h):=⟨x41,x43⟩;have KW:Below w4 w4 w4.drew:=(aU _ _).drew;clear p4 p v t c f u C q B y uY hb hc hf ht o HX G
  go_upto_region 19 with(fail)
  go_cut [] (λ R=>uN N w4 R nb gk va l (ag.take m++ag.drop (m+1)) (ak.take (m+1)++ak.drop (m+2)))
  case first=>
   clear v5 v6 v7 v8 M v10;refine wp_region_any (by kernel_rfl) ?_;refine zT 0 ?_;refine zT 1 ?_;refine zT 2 ?_;refine zT 3 ?_;refine zT 4 ?_;refine zT 6 ?_;refine zT 7 ?_;refine zT 8 ?_;refine zT 10 ?_;refine zT 11 ?_;refine zT 12 ?_;refine zT 14 ?_;refine zT 15 ?_;refine zT 16 ?_;refine zT 17 ?_;refine zV (w:=w4.drew) (λ Q=>Q.cell? (nb,1)=some (ad gk a e)/\Q.cell? (nb,3)=some (ad l (a+1) h)) 19 (by exact he) λ h4=>?_;refine zU 5 h4 ?_;refine zU 13 h4 ?_;clear h4;refine zL 9 λ hj hK=>?_;go_simp;refine(HI1.out _ KW).mono ?_;rintro d w9 ⟨rfl,mm,s1,s2⟩
   (try dsimp only)
   refine zK hK ?_ (λ _=>⟨s1,s2⟩);refine zL 18 λ hj hK=>?_;go_simp;refine(HI2.out _ mm).mono ?_;rintro d x7 ⟨rfl,K,t1,t2,F,q2⟩
   (try dsimp only)
   refine zK hK ?_ (λ _=>⟨t1,t2⟩);refine zM 19 ?_;refine zM 20 ?_;refine zM 21 ?_;refine zM 22 ?_;refine zM 23 ?_;refine zM 24 ?_;refine Cq (by kernel_rfl) ?_ _
   go_wp2_with fail
   go_meet
   case rel=>exact K
  obtain⟨hG,ct⟩:=h7.out _ hcut;have X:=zH hG;clear hG hcut h7 HI1 HI2 he KW x41 x43 hg z40 z41 f40
  go_wp2_with fail
  refine X.out.mono ?_;rintro d w5 ⟨rfl,hl,hh,I,m1,m2,m3,m4⟩;have HM:=bp m1 m2 m3 m4;clear m1 m2 m3 m4 X;go_wp2;go_ret;obtain⟨m1,m2,m3,m4⟩:=HM.out;exact⟨rfl,hl,hh,I,m1,m2,HKK.out I m3,m4⟩
end
section
variable{k:Nat}
theorem n9(w:PZ E W P D A k)(X:k+6<900000000)(a:ay W T #[aq P,V U g])(b:E T)(d:A.Has c)(p:aB A c=some x)(f:A.Has pg) :
  Calls prog 218 #[aq T,V U pg,V U c] W λ l I=>l=aw (V U 0)/\PZ E I P D ((A.ax pg (aX (A.c pg) x)).give c) (k+6)/\Kept E W I:=by
 have u:=zH (yJ w Z a d p);have m:=br a b d (lI p) f;clear w a b d p f
 go_enter func218,ntmps218
 go_wp2_with fail
 refine u.out.mono ?_;rintro l Q ⟨N,M,nb,ka,va,aa,e,n,h,rfl,L,K,i,F,q⟩;obtain⟨a,b,d,hf,f⟩:=m.out;have z:jU (λ j=>E j\/(N<=j/\j<M)) Q nb x:=i.wins.reads (λ S y=>al ⟨y.1,y.2.1⟩) (al ⟨i.1.ge,i.2.1⟩);have v:=zH (cZ F Z (a.ae (q.block T b)) f z hf);have t:=zH q;clear u L K i F q a b d hf f z
 go_wp2_with fail
 refine v.out.mono ?_;rintro l Y ⟨rfl,G,B⟩;obtain⟨a,b,d,hf,f⟩:=m.out;have k12:=t.out.trans (B.mono (λ _ o=>O o));have R:=(a.ae (k12.block T b)).c0;have s:=zH (IA (G.less (T:=E) (λ _ o=>O o)) Z c (AP.aC.2 d));have r:=zH k12;clear v t G B k12 a b d hf f m
 go_wp2_with fail
 refine s.out.mono ?_;rintro l w3 ⟨rfl,H,C⟩;have J:=bg H (r.out.trans C);clear s H C r;go_wp2;go_ret;exact⟨rfl,J.out⟩
def G5(E:Nat->Prop)(W c:World)(P D T g:Nat)(A:AP)(K pg d:Nat)(key:UInt64)(e:Ending):Prop:=
 ∃(B:AP) (was a:Bool) (b:Nat),e=aw (a9 #[a6 was,a6 a,V U 0])/\eU key d A pg B was a/\aP E c P D T g B b/\b<=K/\Kept E W c
theorem jU.wF(h:jU S w nb x):∃a c,w.cell? (nb,3)=some (ad a (Y x.ak) c)/\Y x.ak<=c/\∀j q:Nat,x.ak[j]?=some q->∃g o,a=some ⟨g,o,none⟩/\w.cell? ⟨g,o+j,none⟩=some (V U (q:Int)):=by
 obtain⟨m,n,l,b,_,_,_,⟨a,c,rfl,d,k⟩⟩:=h;rw[iC]at b d;refine⟨a,c,b.cell 3 _ rfl,d,λ j q i=>?_⟩;obtain⟨g,o,e,_,f⟩:=k j _ (Gi _ _ _ i);exact⟨g,o,e,f⟩
section
variable{w3:World}{M K0 kk:Nat}{key:UInt64}
theorem AT(h:aP E W P D T g A k)(z:k+K0+60<900000000)(y:W.1.size<=N)(o:∀j,R j->N<=j/\j<M)(r:Kept E W w3)(F:kk<=k+2+K0)(n:KZ (λ j=>E j\/N<=j/\j<M) w3 w4 P D T g nb R C (kk+20) x)(v:C.Has pg)(p:Fits x)(l:eU key (d+1) A pg (C.ax pg (aX (C.c pg) x)) was (E9 x)) :
  Calls prog 216 #[aq nb] w4 (λ e c=>e=aw (a6 (E9 x))/\c=w4) /\
  Calls prog 150 #[aq T,V U pg,aq nb] w4 (λ e c=>e=aw (V U 0)/\G5 E W c P D T g A (k+K0+60) pg (d+1) key (aw (a9 #[a6 was,a6 (E9 x),V U 0]))):=by
 obtain⟨L,H,q,w,t,B,b,f,s⟩:=n;refine⟨Ha b,(cZ t Z f v b p).mono ?_⟩;rintro e G ⟨rfl,u,i⟩;have m:∀j,E j->(λ j=>(E j\/N<=j/\j<M)/\¬R j) j:=λ j a=>⟨O a,λ b=>by have:=(o j b).1;have:=h.pz.there j a;omega⟩;exact⟨rfl,_,was,_,q+3,rfl,l,⟨u.less (λ _ a=>O (O a)),f.ae (i.block T (O (O h.mem))),h.mem⟩,Z,(r.trans (s.mono m)).trans (i.mono (λ _ a=>O (O a)))⟩
theorem od{y:Nd}(h:aP E W P D T g A k)(F:k+K0+60<900000000)(B:W.1.size<=N)(n:∀j,R j->N<=j/\j<M)(r:Kept E W w3)(I:kk<=k+2+K0)(m:KZ (λ j=>E j\/N<=j/\j<M) w3 w4 P D T g nb R C (kk+20) x)(w:C.Has pg)(o:C.Has ca)(p:aB C ca=some y)(i:eU key (d+1) A pg ((C.ax pg (aX (C.c pg) y)).give ca) was true) :
  Calls prog 218 #[aq T,V U pg,V U ca] w4 (λ e v=>e=aw (V U 0)/\G5 E W v P D T g A (k+K0+60) pg (d+1) key (aw (a9 #[a6 was,a6 true,V U 0]))):=by
 obtain⟨L,H,q,z,t,G,c,b,s⟩:=m;refine(n9 t Z b (O (O h.mem)) o p w).mono ?_;rintro e J ⟨rfl,u,f⟩;have l:∀j,E j->(λ j=>(E j\/N<=j/\j<M)/\¬R j) j:=λ j a=>⟨O a,λ c=>by have:=(n j c).1;have:=h.pz.there j a;omega⟩;exact⟨rfl,_,was,_,q+6,rfl,i,⟨u.less (λ _ a=>O (O a)),b.ae (f.block T (O (O h.mem))),h.mem⟩,Z,(r.trans (s.mono l)).trans (f.mono (λ _ a=>O (O a)))⟩
theorem mS{b l:Nd}(k:aB A pg=some ⟨false,ag,[],ak⟩)(o:dQ ag key i)(n:ak[i]?=some c)(s:eU key d A c B was true)(r:m=yQ (Y ak) i)(a:qC B pg ag ak m ca cb κ xa xb)(j:iF xa xb κ=(b,l,dZ,one)) :
  (one=false->((B.ax ca (aX (B.c ca) b)).ax cb (aX ((B.ax ca (aX (B.c ca) b)).c cb) l)).Has pg/\Fits ⟨false,ag.set m dZ,[],ak⟩ /\
   eU key (d+1) A pg (((B.ax ca (aX (B.c ca) b)).ax cb (aX ((B.ax ca (aX (B.c ca) b)).c cb) l)).ax pg (aX (((B.ax ca (aX (B.c ca) b)).ax cb (aX ((B.ax ca (aX (B.c ca) b)).c cb) l)).c pg) ⟨false,ag.set m dZ,[],ak⟩)) was (E9 ⟨false,ag.set m dZ,[],ak⟩)) /\
  (one=true->((B.ax ca (aX (B.c ca) b)).give cb).Has pg /\
   (Y ak≠2->Fits ⟨false,ag.take m++ag.drop (m+1),[],ak.take (m+1)++ak.drop (m+2)⟩ /\
    eU key (d+1) A pg (((B.ax ca (aX (B.c ca) b)).give cb).ax pg (aX (((B.ax ca (aX (B.c ca) b)).give cb).c pg) ⟨false,ag.take m++ag.drop (m+1),[],ak.take (m+1)++ak.drop (m+2)⟩)) was (E9 ⟨false,ag.take m++ag.drop (m+1),[],ak.take (m+1)++ak.drop (m+2)⟩)) /\
   (Y ak=2->((B.ax ca (aX (B.c ca) b)).give cb).Has ca/\aB ((B.ax ca (aX (B.c ca) b)).give cb) ca=some b/\ak.take (m+1)++ak.drop (m+2)=[ca] /\
    eU key (d+1) A pg ((((B.ax ca (aX (B.c ca) b)).give cb).ax pg (aX (((B.ax ca (aX (B.c ca) b)).give cb).c pg) b)).give ca) was true)):=by
 have v:=(lI k).inner rfl;dsimp only at v;obtain⟨z1,C,D,_,t⟩:=v;have F:=(dz.1 a.k).1;have u:=a.f1;rw[j]at u;have g:∀q,(B.ax ca (aX (B.c ca) b)).Has q↔B.Has q:=λ q=>AP.aC;have w:=((a.good.ax ca (aX (B.c ca) b)).give ((g cb).2 a.hb)).2.1;refine⟨λ e=>?_,λ e=>⟨(w pg).2 ⟨(g pg).2 a.hp,a.pb⟩,λ f=>?_,λ f=>?_⟩⟩
 ·subst e;refine⟨AP.aC.2 ((g pg).2 a.hp),⟨(λ h=>by cases h),λ _=>⟨by rw[aV];exact z1,C,D,rfl,t⟩⟩,?_⟩;exact .even k o n s r a.ka a.kb a.k a.na a.nb j rfl
 ·subst e;have x:(ak.take (m+1)++ak.drop (m+2)).length=Y ak-1:=by rw[zl,zt,zd];omega
  have E:(ag.take m++ag.drop (m+1)).length=Y ag-1:=by rw[zl,zt,zd];omega
  refine⟨⟨(λ h=>by cases h),λ _=>⟨by dsimp only;omega,by dsimp only;omega,by dsimp only;omega,rfl,λ q z=>?_⟩⟩,?_⟩
  ·rcases dm.1 z with h|h
   ·exact t q (jw h)
   exact t q (jQ h)
  have:=eU.join k o n s r a.ka a.kb a.k a.na a.nb j rfl f;rw[<-x]at this;exact this
 subst e;have y:m=0:=Z
 subst y;refine⟨(w ca).2 ⟨(g ca).2 a.ha,a.ne⟩,?_,?_,eU.lift k o n s r a.ka a.kb a.k a.na a.nb j rfl f⟩
 ·rw[Ry,BD (a.dV _ a.ha) u,be rfl]
 have:=a.ka
 match ak,f,this with
 | [p,q],_,h=>simpa using h
end
end
section
variable{k:Nat}
theorem tS(h:aP E W P D T g A k)(m:k+5<900000000)(p:A.Has pg)(c:aB A pg=some ⟨true,j,o,[]⟩)(b:jV j)(n:Y j<=30)(key:UInt64)(a:key∈j)(deep:Nat)(hd:deep<=20) :
  Calls prog 166 #[aq T,V U pg,V a7 key.toNat,V U deep] W λ e d=>G5 E W d P D T g A (k+5) pg 0 key e:=by
 have l:=eJ p c b;refine(FA h m l n key a deep hd).mono ?_;rintro e d ⟨i,rfl,t,q,r,s⟩;have hf:=q.found b a;refine⟨_,true,_,k+5,rfl,.leaf c hf,?_,aH _,s⟩;have f:aX (A.c pg) ⟨true,j.take i++j.drop (i+1),o.take i++o.drop (i+1),[]⟩=qH (A.c pg) (j.take i++j.drop (i+1)) (o.take i++o.drop (i+1)):=by unfold aX;rw[be rfl]
 rw[f];exact r
theorem C1(a:aP E W P D T g A k)(I:k+5<900000000)(s:A.Has pg)(b:aB A pg=some ⟨true,j,o,[]⟩)(B:jV j)(J:Y j<=30)(key:UInt64)(r:key∉j)(deep:Nat)(hd:deep<=20) :
  Calls prog 166 #[aq T,V U pg,V a7 key.toNat,V U deep] W λ l F=>G5 E W F P D T g A (k+5) pg 0 key l:=by
 have p:=zH (yJ a.pz Z a.box s b);have u:=bg a b;have H:¬(20:Int)<(deep:Int):=Z
 clear a s b
 go_enter func166,ntmps166
 go_wp2_with fail
 refine p.out.mono ?_;rintro l K ⟨N,M,nb,ka,va,aa,e,n,h,rfl,y,x,⟨d,w,v⟩,f,c⟩;have G:=d.box.c0;have b1:=d.box.c1;have m:=IW (d.k.win (S:=λ _=>True) (λ _ _=>trivial)) B (show Y j<=1000 from Z) key;rw[dH,decide_eq_false r]at m;have q:=zH m;have t:=bg f c;clear p d w v f c m y x
 go_wp2_with fail
 refine q.out.mono ?_;rintro l L ⟨i,rfl,C,rfl⟩;clear C q;go_wp2
 go_ret3
 obtain⟨a,b⟩:=u.out;obtain⟨f,c⟩:=t.out;exact⟨A,false,false,k+2,rfl,.none b r,⟨f.less (λ _ z=>O z),a.box.ae (c.block T a.mem),a.mem⟩,Z,c⟩
theorem JO{K0:Nat}(a:aP E W P D T g A k)(hk:k+K0+60<900000000)(G:A.Has pg)(q:aB A pg=some ⟨false,ag,[],ak⟩)(hs:jV ag)(hl:Y ag<=100)(hc:1<=Y ag)(w:Y ak=Y ag+1)(key:UInt64)(deep:Nat)(hd:deep<=20)(h0:dQ ag key i)(S:ak[i]?=some c)(hx:∀(E1:Nat->Prop) (H:World),aP E1 H P D T g A (k+2)->Calls prog 166 #[aq T,V U c,V a7 key.toNat,V U ((deep:Int)+1)] H λ o w'=>G5 E1 H w' P D T g A (k+2+K0) c d key o)(hw:∀(B:AP) (was:Bool),eU key d A c B was true->∃ca cb κ xa xb,qC B pg ag ak (yQ (Y ak) i) ca cb κ xa xb) :
  Calls prog 166 #[aq T,V U pg,V a7 key.toNat,V U deep] W λ o w'=>G5 E W w' P D T g A (k+K0+60) pg (d+1) key o:=by
 have HL:=zH (yJ a.pz Z a.box G q);have HH:=bp a G q w;have HO:=zH hw;have HR:=zH hx;have ha:i<Y ak:=(dz.1 S).1;have hq:(i:Int)<(Y ak:Int):=Int.ofNat_lt.2 ha;have x0:IntKind.i64.wrap ((deep:Int)+1)=(deep:Int)+1:=by rw[dM];omega
 have Ov:wrap64 ((deep:Int)+1)=(deep:Int)+1:=by unfold wrap64;omega
 have hz:¬(20:Int)<(deep:Int):=Z
 clear a G q w hw hx
 go_enter func166,ntmps166
 go_wp2_with fail
 refine HL.out.mono ?_;rintro o H ⟨N,h3,nb,ka,va,aa,e,n,h,rfl,F,b,⟨l,K,v⟩,p1,M⟩;obtain⟨a,G,q,w⟩:=HH.out;have hv:jU (λ _=>True) H nb ⟨false,ag,[],ak⟩:=l.wins.1.reads (λ _ _=>trivial) trivial;have HK:=zH (QZ hv hs (show Y ag<=1000 from Z) key);have b0:=l.box.c0;have b3:=l.box.c3
 obtain⟨z,rfl,ra⟩:∃z,aa=some ⟨z,0,none⟩/\Row H z h (ints ak):=by
  rcases l.a with⟨_,u,_⟩|⟨J,h1,u⟩
  ·have:=congrArg List.length u;rw[iC]at this;exact absurd this (by show Y ak≠0;omega)
  exact⟨J,h1,u⟩
 have hp:H.cell? (z,i)=some (V U (c:Int)):=ra.at' i _ (by unfold ints;rw[dL,S];rfl);have H1:=bs F b l K v p1 M;have HT:=zH (HR.out _ H ⟨p1,a.box.ae (M.block T a.mem),O a.mem⟩);clear HL l K v p1 M F b a G q w hv HR ra
 go_wp2_with fail
 refine HK.out.mono ?_;rintro o w2 ⟨i2,rfl,vY,rfl⟩;obtain rfl:i=i2:=(vY.inj h0).symm
 go_wp2_with fail
 refine HT.out.mono ?_;rintro o w3 ⟨B,was,iB,kk,rfl,h2,X,h7,k3⟩;obtain⟨F,b,l,K,v,p1,M⟩:=H1.out;obtain⟨a,G,q,w⟩:=HH.out;have kE:Kept E W w3:=M.trans (k3.mono (λ _ f=>O f))
 cases iB with
 | false=>
  have r:G5 E W w3 P D T g A (k+K0+60) pg (d+1) key (aw (a9 #[a6 was,a6 false,V U 0])):=
   ⟨B,was,false,kk,rfl,.O6 q h0 S h2,⟨X.pz.less (λ _ f=>O f),X.box,a.mem⟩,Z,kE⟩
  have I:=zH r;clear H1 HH HO F b l K v p1 M a G q w kE r X k3 h2 h7 HT HK h0 vY hs hl hc S hp b0 b3 ha hq;go_wp2
  go_ret3
  exact I.out
 | true=>
  obtain⟨ca,cb,κ,xa,xb,ok⟩:=HO.out B was h2;have pF:aZ N w3 nb ⟨false,ag,[],ak⟩ ka va z e n h:=l.move K v k3.size (λ J h1 u=>k3.block J (al ⟨h1,u⟩))
  have R:∀j,rD ka va z nb j->N<=j/\j<h3:=λ j f=>by
   rcases f with f|f|f|rfl
   ·exact⟨(l.new j (O f)).1,v j (O f)⟩
   ·exact⟨(l.new j (al (O f))).1,v j (al (O f))⟩
   ·exact⟨(l.new j (al (al f))).1,v j (al (al f))⟩
   exact⟨l.ge,K⟩
  have nH:∀j,E j->j<N:=λ j f=>cB (a.pz.there j f) F;obtain⟨⟨x',y',dZ,one⟩,h5⟩:∃x,iF xa xb κ=x:=⟨_,rfl⟩;obtain⟨m,hm⟩:∃m,m=yQ (Y ak) i:=⟨_,rfl⟩;rw[<-hm]at ok;have xO:=mj (E:=λ j=>E j\/N<=j/\j<h3) (k:=kk) (i:=i) (m:=m) X.pz Z X.box (O a.mem) pF (λ J hg=>al (R J hg)) (λ hT=>by have:=(R _ hT).1;have:=nH T a.mem;omega) (λ hT=>by have:=(R _ hT).1;have:=a.pz.tab.lt;omega) ok rfl w hc hl Z (by rw[<-w];exact hm);rw[h5]at xO;dsimp only at xO;have qg:=mS (d:=d) (was:=was) q h0 S h2 hm ok h5;have R5:=zH xO;have x1:Fits x':=by have:=ok.f1;rw[h5]at this;exact this
  have uU:=zH (λ (w4:World) (C:AP) (x:Nd) b s L p=>AT (nb:=nb) (pg:=pg) (w3:=w3) (w4:=w4) (N:=N) (M:=h3) (d:=d) (K0:=K0) (kk:=kk) (key:=key) (was:=was) (R:=rD ka va z nb) (C:=C) (x:=x) a hk F R kE h7 b s L p);have xP:=zH (λ (w4:World) (C:AP) (x x3:Nd) b s h4 q p=>od (nb:=nb) (pg:=pg) (w3:=w3) (w4:=w4) (N:=N) (M:=h3) (d:=d) (K0:=K0) (kk:=kk) (key:=key) (was:=was) (R:=rD ka va z nb) (C:=C) (x:=x) (y:=x3) (ca:=ca) a hk F R kE h7 b s h4 q p);have HW:=zH qg;have hn:2<=Y ak:=Z
  have hu:m+1<Y ak:=by have:=(dz.1 ok.kb).1;exact this
  have Q:=bg hn hu;clear H1 HH HO F b l K v p1 M a G q w kE X k3 h2 h7 HT HK h0 vY hs hl hc S hp b0 b3 ha hq xO qg pF R nH h5 ok hm x1 hk hn hu x0 Ov hz hd
  go_wp2_with fail
  refine R5.out.mono ?_;rintro o w4 ⟨rfl,h6,h8⟩
  cases one with
  | false=>
   have b:=h6 rfl;obtain⟨s,L,p⟩:=HW.out.1 rfl;obtain⟨hP,hS⟩:=uU.out w4 _ _ b s L p;obtain⟨hj,hh,k4,_,_,_,y,_,_⟩:=b;obtain⟨ao,cp,t,_,_⟩:=y.wF;dsimp only at t;have hb:((Y ak:Int)==1)=false:=beq_eq_false_iff_ne.2 (by have:=Q.out.1;omega);have HP:=zH hP;have HS:=zH hS;clear hP hS s L p h6 h8 y uU xP HW R5 Q
   go_wp2_with fail
   refine HP.out.mono ?_;rintro o w5 ⟨rfl,rfl⟩
   go_wp2_with fail
   refine HS.out.mono ?_;rintro o w6 ⟨rfl,r⟩;have I:=zH r;clear r HS HP t hb;go_wp2
   go_ret3
   exact I.out
  | true=>
   have b:=h8 rfl;obtain⟨s,he,h9⟩:=HW.out.2 rfl;by_cases u:Y ak=2
   ·obtain⟨h4,hy,hr,p⟩:=h9 u;have Cc:=xP.out w4 _ _ _ b s h4 hy p;obtain⟨hj,hh,k4,_,_,_,y,_,_⟩:=b;rw[hr]at y;obtain⟨ao,cp,t,_,ho⟩:=y.wF;obtain⟨J,x2,rfl,c0⟩:=ho 0 ca rfl;rw[kg]at c0;replace t:w4.cell? (nb,3)=some (ad (J,x2) 1 cp):=t;have hi:=zH Cc;clear Cc h4 hy hr p s he h9 h6 h8 y ho uU xP HW R5 Q u
    go_wp2_with fail
    refine hi.out.mono ?_;rintro o w6 ⟨rfl,r⟩;have I:=zH r;clear r hi t c0;go_wp2
    go_ret3
    exact I.out
   obtain⟨L,p⟩:=he u;obtain⟨hP,hS⟩:=uU.out w4 _ _ b s L p;obtain⟨hj,hh,k4,_,_,_,y,_,_⟩:=b;obtain⟨ao,cp,t,_,_⟩:=y.wF;dsimp only at t;have ht:(ak.take (m+1)++ak.drop (m+2)).length≠1:=by rw[zl,zt,zd];have:=Q.out.1;have:=Q.out.2;omega
   generalize (ak.take (m+1)++ak.drop (m+2)).length=kl at t ht;have hb:((kl:Int)==1)=false:=beq_eq_false_iff_ne.2 Z;have HP:=zH hP;have HS:=zH hS;clear hP hS s L p h6 h8 y uU xP HW R5 Q he h9 u ht
   go_wp2_with fail
   refine HP.out.mono ?_;rintro o w5 ⟨rfl,rfl⟩
   go_wp2_with fail
   refine HS.out.mono ?_;rintro o w6 ⟨rfl,r⟩;have I:=zH r;clear r HS HP t hb;go_wp2
   go_ret3
   exact I.out
end
