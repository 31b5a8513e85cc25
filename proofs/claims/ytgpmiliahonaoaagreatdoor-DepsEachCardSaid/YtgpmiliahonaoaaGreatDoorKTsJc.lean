/- Facts on texts and trees on pages. -/
import Derived.Test.YtgpmiliahonaoaaGreatDoorKTsGc
set_option maxRecDepth 100000
set_option maxHeartbeats 8000000
set_option linter.unusedSimpArgs false
namespace Go.Proofs.YtgpmiliahonaoaaGreatDoor
open Go.RowKit
open UK (str aF nth Only Row ay)
section
variable{W W':World}{a b Na Ma Nb Mb kc vc ac kd vd ad:Nat}{ka va aa kb vb ab:Option Addr}{xa xb:Nd}
theorem xyi(ha:xH Na Ma W a xa ka va aa kc vc ac)(hb:xH Nb Mb W b xb kb vb ab kd vd ad)(C9:Ma<=Nb)(hl:xa.leaf=xb.leaf)(fa:Fits xa)(fb:Fits xb)(pa:0<xa.ag.length)(pb:0<xb.ag.length)(κ:UInt64) :
  Calls Tryz.prog 258 #[.pointer a,.pointer b,.int .u64 κ.toNat] W (xI Na Ma Nb Mb W a b xa xb κ):=by
 obtain⟨la,ks,vs,cs⟩:=xa;obtain⟨lb,ls,ws,ds⟩:=xb;dsimp only at hl pa pb;subst hl
 cases la with
 | true=>
  obtain⟨f1,f2,f3⟩:=fa.leaf rfl;obtain⟨g1,g2,g3⟩:=fb.leaf rfl;dsimp only at f1 f2 f3 g1 g2 g3;subst f3 g3;by_cases hj:ks.length+ls.length<=30
  ·exact xk2 ha hb C9 f2 g2 pa pb hj κ
  exact xk3 ha hb C9 f2 g2 pa pb rfl (by omega) (by omega) rfl κ
 | false=>
  obtain⟨f1,f2,f3,f4,_⟩:=fa.inner rfl;obtain⟨g1,g2,g3,g4,_⟩:=fb.inner rfl;dsimp only at f1 f2 f3 f4 g1 g2 g3 g4;subst f4 g4;exact xry ha hb C9 pa pb (by omega) (by omega) rfl rfl (by omega) (by omega) rfl κ
end
open UK (str aF nth Only)
structure pu(B:AP)(pg:Nat)(ag:List UInt64)(ax:List Nat)(m ca cb:Nat)(κ:UInt64)(xa xb:Nd):Prop where
 ka:ax[m]?=some ca
 kb:ax[m+1]?=some cb
 k:ag[m]?=some κ
 na:aB B ca=some xa
 nb:aB B cb=some xb
 leaf:xa.leaf=xb.leaf
 ha:B.Has ca
 hb:B.Has cb
 hp:B.Has pg
 ne:ca≠cb
 pa:pg≠ca
 pb:pg≠cb
 k0a:0<xa.ag.length
 k0b:0<xb.ag.length
 f1:Fits (gN xa xb κ).1
 f2:(gN xa xb κ).2.2.2=false->Fits (gN xa xb κ).2.1
 dR:∀p,B.Has p->(B.c p).length=504
 good:B.Good
theorem YA{f:Nat->Option Nd}{p:Nat}{x:Nd}(hx:f p=some x)(fx:Fits x)(h:iK f p\/uK f p):0<x.ag.length:=by
 rcases h with⟨y,hy,h1,h2⟩|⟨y,hy,h1,h2⟩
 ·rw[hx]at hy;obtain rfl:=aZ hy
  cases hl:x.leaf with
  | true=>have:=h1 hl;omega
  | false=>have:=h2 hl;have:=(fx.inner hl).1;omega
 rw[hx]at hy;obtain rfl:=aZ hy
 cases hl:x.leaf with
 | true=>have:=h1 hl;omega
 | false=>have:=(h2 hl).1;have:=(fx.inner hl).1;omega
theorem xvs{k:UInt64}{d i c:Nat}{A B:AP}{s:Sb}{ag:List UInt64}{ax:List Nat}{was:Bool}(hT:Tr (aB A) (d+1) s)(hnd:s.ps.Nodup)(hh:∀p∈s.ps,A.Has p)(hg:A.Good)(hc:∀p,A.Has p->(A.c p).length=504)
  (hn:aB A s.pg=some ⟨false,ag,[],ax⟩) (hix:dN ag k i) (gD:ax[i]?=some c) (hrec:dZ k d A c B was true) :
  ∃ca cb κ xa xb,pu B s.pg ag ax (wQ ax.length i) ca cb κ xa xb:=by
 obtain⟨aj,t,hK,hpt,rfl,nH,pU⟩:=hT.kid hn gD;obtain⟨gone,hO⟩:=Y1 hrec t nH hpt (hK.tn hnd) (λ p hp=>hh p (hK.sub p hp)) hg hc;obtain⟨t',hM,fZ,hF,_,z2,hw⟩:=Lh hK hix hT.mem hnd hh pU hO;have hf:=(lJ hn).inner rfl;dsimp only at hf;obtain⟨z1,z3,_⟩:=hf;have hi:=(dE.1 gD).1;obtain⟨m,hm⟩:∃m,m=wQ (aj.map Sb.pg).length i:=⟨_,rfl⟩
 have qI:m+1<(aj.map Sb.pg).length:=by
  rw[hm];unfold wQ
  split<;>omega
 obtain⟨ca,tX⟩:∃c,(aj.map Sb.pg)[m]?=some c:=⟨_,bL (by omega)⟩;obtain⟨cb,hcb⟩:∃c,(aj.map Sb.pg)[m+1]?=some c:=⟨_,bL qI⟩;obtain⟨κ,pR⟩:∃c,ag[m]?=some c:=⟨_,bL (by omega)⟩
 have hsub:∀(j:Nat) (q:Nat),(aj.map Sb.pg)[j]?=some q->∃u,u.pg=q/\u∈aj.take i++t'::aj.drop (i+1):=λ j q hq=>by
  rw[<-DV hK.at_ fZ]at hq;obtain⟨u,hu,e⟩:=NQ hq;exact⟨u,e,eZ hu⟩
 have Eb:∀q,(∃u,u.pg=q/\u∈aj.take i++t'::aj.drop (i+1))->∃x,aB B q=some x/\(iK (aB B) q\/uK (aB B) q):=λ q ⟨u,e,hu⟩=>by
  have wO:=hM.lL.all u hu
  have hx:∃x,aB B u.pg=some x:=by
   cases d with
   | zero=>obtain⟨_,_,h,_⟩:=wO;exact⟨_,h⟩
   | succ d=>obtain⟨_,_,h,_⟩:=wO;exact⟨_,h⟩
  obtain⟨x,hx⟩:=hx;refine⟨x,e▸hx,?_⟩;rcases dD.1 hu with h|h
  ·exact .inl (e▸hF u (by simp[h]))
  rcases aN.1 h with rfl|h
  ·exact .inr (by rw[<-e,fZ];exact z2 rfl)
  exact .inl (e▸hF u (by simp[h]))
 obtain⟨xa,hxa,ga⟩:=Eb ca (hsub m ca tX);obtain⟨xb,hxb,gb⟩:=Eb cb (hsub (m+1) cb hcb);obtain⟨sa,sb,ea,eb,hP⟩:=NY hK.at_ hM fZ hF (z2 rfl) hm tX hcb pR hxa hxb;have ed:=hM.vI hP;have lD:=hM.has hh;have hE:=NV ed.ta ed.tb ed.ib hP.na hP.nb (lJ hxa) (lJ hxb) ed.lo ed.hi hP.many (x:=(gN xa xb κ).1) (y:=(gN xa xb κ).2.1) (dM:=(gN xa xb κ).2.2.1) (one:=(gN xa xb κ).2.2.2) rfl;rw[<-hm];refine⟨ca,cb,κ,xa,xb,tX,hcb,pR,hxa,hxb,?_,?_,?_,lD s.pg (by simp),?_,?_,?_,YA hxa (lJ hxa) ga,YA hxb (lJ hxb) gb,?_,λ h=>(hE.2 h).2.1,hM.fD.dR,hM.fD.good hg⟩
 ·exact Yn ed.ta ed.tb hP.na hP.nb
 ·rw[<-ea];exact lD _ ed.ha
 ·rw[<-eb];exact lD _ ed.hb
 ·rw[<-ea,<-eb];exact ed.ne
 ·rw[<-ea];exact dz ed.na
 ·rw[<-eb];exact dz ed.nb
 cases ho:(gN xa xb κ).2.2.2 with
 | true=>exact(hE.1 ho).1
 | false=>exact(hE.2 ho).1
section
variable{E:Nat->Prop}{W W':World}{P D T rt k pg N nb kc vc ac:Nat}{A:AP}{ka va aa:Option Addr}
theorem jD.mono{S S':Nat->Prop}{x:Nd}(h:jD S W nb x)(hs:∀j,S j->S' j):jD S' W nb x:=by
 obtain⟨kv,vv,av,b,hnb,h1,h2,h3⟩:=h;exact⟨kv,vv,av,b,hs _ hnb,h1.mono hs,h2.mono hs,h3.mono hs⟩
def qj(ka va aa:Option Addr)(nb j:Nat):Prop:=aK ka j\/aK va j\/aK aa j\/j=nb
def Ik(E:Nat->Prop)(W w':World)(P D T rt nb:Nat)(R:Nat->Prop)(B:AP)(K:Nat)(x:Nd):Prop:=
 ∃L H kk,W.heap.size<=L/\PZ (λ j=>E j\/(L<=j/\j<H)) w' P D B kk/\kk<=K/\jD (λ j=>E j\/(L<=j/\j<H)) w' nb x/\ay w' T #[.pointer P,.int .i64 rt]/\Kept (λ j=>E j/\¬R j) W w'
theorem xmz{w:World}{gk m:Nat}{ag:List UInt64}{ax:List Nat}{dM:UInt64}(h:aU N w nb ⟨false,ag,[],ax⟩ gk va aa kc vc ac)(hm:m<ag.length)(hE:∀g,qj gk va aa nb g->E g) :
  jD E (w.setCell (gk,m) (.int .u64 (dM.toNat:Int))) nb ⟨false,ag.set m dM,[],ax⟩/\Only gk w (w.setCell (gk,m) (.int .u64 (dM.toNat:Int))):=by
 have o:Only gk w (w.setCell (gk,m) (.int .u64 (dM.toNat:Int))):=(Only.refl gk w).set m _;have hne:nb≠gk:=λ e=>(h.new gk (.inl rfl)).2 e.symm
 obtain⟨g,e,r⟩:∃g,(some ⟨gk,0,none⟩:Option Addr)=some ⟨g,0,none⟩/\Row w g kc (az ag):=by
  rcases h.k with hz|h1
  ·cases hz.1
  exact h1
 injection e with e;injection e with e;subst e
 have r3:=r.set m (.int .u64 (dM.toNat:Int)) (by rw[dA];exact hm);rw[XM]at r3;refine⟨⟨.slice gk ag.length kc,.slice va 0 vc,.slice aa ax.length ac,h.box.only o hne,hE nb (.inr (.inr (.inr rfl))),?_,?_,?_⟩,o⟩
 ·have:=vE (S:=E) r3 (hE gk (.inl rfl));rw[dA,aQ]at this;exact this
 ·exact⟨va,vc,rfl,aY _,λ j u hj=>(by cases hj)⟩
 have:=(h.a.only o (λ e=>h.ka gk rfl e)).win (S:=E) (λ g hg=>hE g (.inr (.inr (.inl hg))));rw[gQ]at this;exact this
theorem xr0{ag:List UInt64}{ax:List Nat}{m ca cb gk:Nat}{κ:UInt64}{xa xb:Nd}(p:PZ E W P D A k)(hk:k+20<900000000)(hb:ay W T #[.pointer P,.int .i64 rt])(hT:E T)
  (hn:aU N W nb ⟨false,ag,[],ax⟩ gk va aa kc vc ac) (hE:∀g,qj gk va aa nb g->E g) (hTR:¬qj gk va aa nb T) (htab:¬qj gk va aa nb 0) (ok:pu A pg ag ax m ca cb κ xa xb) :
  Calls Tryz.prog 156 #[.pointer T,.int .i64 ca] W λ e w1=>∃a:Nat,e= .returned (.tuple #[.pointer a,.int .i64 0])/\Kept E W w1 /\
   Calls Tryz.prog 156 #[.pointer T,.int .i64 cb] w1 λ e w2=>∃b:Nat,e= .returned (.tuple #[.pointer b,.int .i64 0])/\Kept E W w2/\w2.cell? a=some (.bool xa.leaf)/\w2.cell? b=some (.bool xa.leaf)/\∀q,
    Calls Tryz.prog 258 #[.pointer a,.pointer b,.int .u64 κ.toNat] (w2.drewN q) λ e w3=>e= .returned (.tuple #[.int .u64 ((gN xa xb κ).2.2.1.toNat:Int),.bool (gN xa xb κ).2.2.2])/\Kept E W w3 /\
     Calls Tryz.prog 150 #[.pointer T,.int .i64 ca,.pointer a] w3 λ e w4=>e= .returned (.int .i64 0)/\Kept E W w4 /\
      ((gN xa xb κ).2.2.2=false->Calls Tryz.prog 150 #[.pointer T,.int .i64 cb,.pointer b] (w4.setCell (gk,m) (.int .u64 ((gN xa xb κ).2.2.1.toNat:Int))) λ e w5=>e= .returned (.int .i64 0) /\
       Ik E W w5 P D T rt nb (qj gk va aa nb) ((A.ak ca (aS (A.c ca) (gN xa xb κ).1)).ak cb (aS ((A.ak ca (aS (A.c ca) (gN xa xb κ).1)).c cb) (gN xa xb κ).2.1)) (k+20) ⟨false,ag.set m (gN xa xb κ).2.2.1,[],ax⟩) /\
      ((gN xa xb κ).2.2.2=true->PZ E w4 P D (A.ak ca (aS (A.c ca) (gN xa xb κ).1)) (k+7)):=by
 have hEl:=p.there;refine(Az p (by omega) hb ok.ha ok.na).mono ?_;rintro e w1 ⟨Na,Ma,a,ga,gva,gaa,c1,c2,c3,rfl,hNa,hMa,⟨oa,hal,hag⟩,p1,k1⟩;refine⟨a,rfl,k1,?_⟩;have hb1:=hb.ae (k1.block T hT);refine(Az p1 (by omega) hb1 ok.hb ok.nb).mono ?_;rintro e w2 ⟨Nb,Mb,b,gb,gvb,gab,d1,d2,d3,rfl,hNb,hMb,⟨ob,hbl,hbg⟩,p2,k2⟩;have k12:Kept E W w2:=k1.trans (k2.mono (λ _ hj=>.inl hj));have YB:=oa.move hal hag k2.size (λ g h1 h2=>k2.block g (.inr ⟨h1,h2⟩));refine⟨b,rfl,k12,YB.box.cell 0 _ rfl,by rw[ok.leaf];exact ob.box.cell 0 _ rfl,λ q=>?_⟩;have bq:Below w2 w2 (w2.drewN q):=UK.dK (aV _ _) q;refine(xyi (Na:=Na) (Ma:=Ma) (Nb:=Nb) (Mb:=Mb) ⟨YB.next bq,hal,hag⟩ ⟨ob.next bq,hbl,hbg⟩ (by omega) ok.leaf (lJ ok.na) (lJ ok.nb) ok.k0a ok.k0b κ).mono ?_;rintro e w3 ⟨he,ra,rb,k3⟩;have hs2:(w2.drewN q).heap.size=w2.heap.size:=rfl;rw[hs2]at ra rb k3;have hW2:=k12.size;have hW1:=k1.size;have kq:Kept E w2 (w2.drewN q):=Kept.of_below bq (λ j hj=>bZ (hEl j hj) hW2);have k13:Kept E W w3:=(k12.trans kq).trans (k3.mono (λ j hj=>⟨bZ (hEl j hj) hW2,λ h=>by have:=hEl j hj;omega⟩));refine⟨he,k13,?_⟩;have htl:=p.tab.lt
 have p3:PZ (λ j=>E j\/((Na<=j/\j<Ma)\/(Nb<=j/\j<Mb)\/(w2.heap.size<=j/\j<w3.heap.size))) w3 P D A (k+2+2):=
  (p2.next bq).over (R:=λ j=>(Na<=j/\j<Ma)\/(Nb<=j/\j<Mb)) (λ j hj=>by
   rcases hj with h|h
   ·exact .inl (.inr h)
   ·exact .inr h) (λ h=>by omega) k3.size (λ j hj hr=>k3.block j ⟨hj,hr⟩) (λ j hj=>by
   rcases hj with h|h|h|h
   ·exact .inl (.inl (.inl h))
   ·exact .inl (.inl (.inr h))
   ·exact .inl (.inr h)
   exact .inr h)
 have hb3:=hb.ae (k13.block T hT);have ra3:=ra.mono (S':=λ j=>E j\/((Na<=j/\j<Ma)\/(Nb<=j/\j<Mb)\/(w2.heap.size<=j/\j<w3.heap.size))) (λ j hj=>.inr hj);refine(cB p3 (by omega) hb3 ok.ha ra3 ok.f1).mono ?_;rintro e w4 ⟨rfl,p4,k4⟩;have k14:Kept E W w4:=k13.trans (k4.mono (λ _ hj=>.inl hj));refine⟨rfl,k14,λ hone=>?_,λ hone=>(p4.less (λ _ hj=>.inl hj)).up (by omega)⟩;have FW:=k14.size
 have tK:aU N w4 nb ⟨false,ag,[],ax⟩ gk va aa kc vc ac:=
  ⟨hn.box.ae (k14.block nb (hE nb (.inr (.inr (.inr rfl))))),hn.k.ae FW (λ j hj=>k14.block j (hE j (.inl hj))),hn.v.ae FW (λ j hj=>k14.block j (hE j (.inr (.inl hj)))),hn.a.ae FW (λ j hj=>k14.block j (hE j (.inr (.inr (.inl hj))))),hn.ge,hn.new,hn.kv,hn.ka,hn.va⟩
 have qI:=(dE.1 ok.k).1;obtain⟨rn,on⟩:=xmz (dM:=(gN xa xb κ).2.2.1) tK qI hE;generalize w4.setCell (gk,m) (.int .u64 ((gN xa xb κ).2.2.1.toNat:Int))=w5 at rn on ⊢;have Df:E gk:=hE gk (.inl rfl);have hgl:=hEl gk Df
 have p5:PZ (λ j=>E j\/((Na<=j/\j<Ma)\/(Nb<=j/\j<Mb)\/(w2.heap.size<=j/\j<w3.heap.size))) w5 P D (A.ak ca (aS (A.c ca) (gN xa xb κ).1)) (k+2+2+3):=
  p4.over (R:=λ j=>j=gk) (λ j hj=>by rw[hj];exact .inl Df) (λ h=>htab (.inl (congrArg (λ x=>some (⟨x,0,none⟩:Addr)) (show gk=_ from h.symm)))) on.size (λ j hj hr=>on.block j hj hr) (λ j hj=>.inl hj)
 have kS:Kept (λ j=>(Na<=j/\j<Ma)\/(Nb<=j/\j<Mb)\/(w2.heap.size<=j/\j<w3.heap.size)) w3 w5:=
  (k4.mono (λ _ hj=>.inr hj)).trans ⟨on.os,on.tape,on.output,on.size,λ j hj=>on.block j (bZ (p3.there j (.inr hj)) k4.size) (λ e=>by omega)⟩
 have rb5:=((rb hone).vF kS).mono (S':=λ j=>E j\/((Na<=j/\j<Ma)\/(Nb<=j/\j<Mb)\/(w2.heap.size<=j/\j<w3.heap.size))) (λ j hj=>.inr hj);have kT:Kept (λ j=>E j/\¬qj gk va aa nb j) w4 w5:=⟨on.os,on.tape,on.output,on.size,λ j hj=>on.block j (bZ (hEl j hj.1) FW) (λ e=>hj.2 (by rw[e];exact .inl rfl))⟩;have k15:Kept (λ j=>E j/\¬qj gk va aa nb j) W w5:=(k14.mono (λ _ hj=>hj.1)).trans kT;have hb5:=hb.ae (k15.block T ⟨hT,hTR⟩);refine(cB p5 (by omega) hb5 (AP.aA.2 ok.hb) rb5 (ok.f2 hone)).mono ?_;rintro e w6 ⟨rfl,p6,k6⟩;refine⟨rfl,W.heap.size,W.heap.size,_,aO _,p6.less (λ j hj=>?_),by omega,(rn.vF (k6.mono (λ _ hj=>.inl hj))).mono (λ _ hj=>.inl hj),hb5.ae (k6.block T (.inl hT)),k15.trans (k6.mono (λ _ hj=>.inl hj.1))⟩;rcases hj with h|h
 ·exact .inl h
 omega
theorem xvt{w4 wc:World}{l:List UInt64}{cs:List Nat}{q:Nat}(hb:ay W T #[.pointer P,.int .i64 rt])(hT:E T)(p:PZ E w4 P D A k)(hk:k+20<900000000)(k4:Kept E W w4)
  (hE:∀g,qj ka va aa nb g->E g) (hTR:¬qj ka va aa nb T) (htab:¬qj ka va aa nb 0) (hq:A.Has q) (hEl:∀j,E j->j<W.heap.size)
  (hcut:sQ N w4 wc nb ka va aa l cs) :
  Calls Tryz.prog 60 #[.pointer P,.int .i64 q] wc (λ e w'=>e= .returned (.int .i64 0)/\Ik E W w' P D T rt nb (qj ka va aa nb) (A.give q) (k+1) ⟨false,l,[],cs⟩)/\wc.cell? T=some (.pointer P):=by
 obtain⟨sP,Hz,c,NH,c2,hn2,k2,hoa,kJ⟩:=hcut;have FW:=k4.size
 have p5:PZ (λ j=>E j\/(w4.heap.size<=j/\j<wc.heap.size)) wc P D A k:=
  p.over (R:=qj ka va aa nb) hE htab k2.size (λ j hj hr=>k2.block j ⟨hj,hr⟩) (λ j hj=>hj)
 have k5:Kept (λ j=>E j/\¬qj ka va aa nb j) W wc:=(k4.mono (λ _ hj=>hj.1)).trans (k2.mono (λ j hj=>⟨bZ (hEl j hj.1) FW,hj.2⟩));have hb5:=hb.ae (k5.block T ⟨hT,hTR⟩)
 have r5:jD (λ j=>E j\/(w4.heap.size<=j/\j<wc.heap.size)) wc nb ⟨false,l,[],cs⟩:=hn2.reads (.inl (hE nb (.inr (.inr (.inr rfl))))) (λ g hg=>by
  rcases hg with hg|hg|hg
  ·rcases hoa g hg with h1|h1
   ·exact .inl (hE g (.inl h1))
   exact .inr ⟨h1,Ia hn2.k hg⟩
  ·exact .inl (hE g (.inr (.inl hg)))
  rcases kJ g hg with h1|h1
  ·exact .inl (hE g (.inr (.inr (.inl h1))))
  exact .inr ⟨h1,Ia hn2.a hg⟩)
 refine⟨(JI p5 (by omega) q hq).mono ?_,hb5.cell 0 _ rfl⟩;rintro e w6 ⟨rfl,p6,k6⟩;exact⟨rfl,w4.heap.size,wc.heap.size,k+1,FW,p6,aO _,r5.vF k6,hb5.ae (k6.block T (.inl hT)),k5.trans (k6.mono (λ _ hj=>.inl hj.1))⟩
end
end Go.Proofs.YtgpmiliahonaoaaGreatDoor
