/- Facts on rows of numbers on pages. -/
import Derived.Test.YtlipgbnnbefhjaaGreatDoorKTrQc
import Derived.Test.YtlipgbnnbefhjaaGreatDoorKTsGc
set_option maxRecDepth 100000
set_option maxHeartbeats 8000000
set_option linter.unusedSimpArgs false
namespace Go.Proofs.YtlipgbnnbefhjaaGreatDoor
open Go.RowKit
open UK (str aO nth Only Row aI)
section
variable{W W':World}{a b Na Ma Nb Mb kc vc ac kd vd ad:Nat}{ka va aa kb vb ab:Option Addr}{xa xb:Nd}
theorem xyi(ha:zn Na Ma W a xa ka va aa kc vc ac)(hb:zn Nb Mb W b xb kb vb ab kd vd ad)(Ee:Ma<=Nb)(hl:xa.leaf=xb.leaf)(fa:Fits xa)(fb:Fits xb)(pa:0<xa.ai.length)(pb:0<xb.ai.length)(κ:UInt64) :
  Calls Tryz.prog 141 #[.pointer a,.pointer b,.int .u64 κ.toNat] W (zq Na Ma Nb Mb W a b xa xb κ):=by
 obtain⟨la,ks,vs,cs⟩:=xa;obtain⟨lb,ls,ws,ds⟩:=xb;dsimp only at hl pa pb;subst hl
 cases la with
 | true=>
  obtain⟨f1,f2,f3⟩:=fa.leaf rfl;obtain⟨g1,g2,g3⟩:=fb.leaf rfl;dsimp only at f1 f2 f3 g1 g2 g3;subst f3 g3;by_cases hj:ks.length+ls.length<=30
  ·exact xl9 ha hb Ee f2 g2 pa pb hj κ
  exact xma ha hb Ee f2 g2 pa pb rfl (by omega) (by omega) rfl κ
 | false=>
  obtain⟨f1,f2,f3,f4,_⟩:=fa.inner rfl;obtain⟨g1,g2,g3,g4,_⟩:=fb.inner rfl;dsimp only at f1 f2 f3 f4 g1 g2 g3 g4;subst f4 g4;exact xr5 ha hb Ee pa pb (by omega) (by omega) rfl rfl (by omega) (by omega) rfl κ
end
open UK (str aO nth Only)
structure qO(B:AP)(pg:Nat)(ai:List UInt64)(ah:List Nat)(m ca cb:Nat)(κ:UInt64)(xa xb:Nd):Prop where
 ka:ah[m]?=some ca
 kb:ah[m+1]?=some cb
 k:ai[m]?=some κ
 na:aH B ca=some xa
 nb:aH B cb=some xb
 leaf:xa.leaf=xb.leaf
 ha:B.Has ca
 hb:B.Has cb
 hp:B.Has pg
 ne:ca≠cb
 pa:pg≠ca
 pb:pg≠cb
 k0a:0<xa.ai.length
 k0b:0<xb.ai.length
 f1:Fits (iB xa xb κ).1
 f2:(iB xa xb κ).2.2.2=false->Fits (iB xa xb κ).2.1
 fq:∀p,B.Has p->(B.c p).length=504
 good:B.Good
theorem ybt{f:Nat->Option Nd}{p:Nat}{x:Nd}(hx:f p=some x)(fx:Fits x)(h:jk f p\/wL f p):0<x.ai.length:=by
 rcases h with⟨y,hy,h1,h2⟩|⟨y,hy,h1,h2⟩
 ·rw[hx]at hy;obtain rfl:=bC hy
  cases hl:x.leaf with
  | true=>have:=h1 hl;omega
  | false=>have:=h2 hl;have:=(fx.inner hl).1;omega
 rw[hx]at hy;obtain rfl:=bC hy
 cases hl:x.leaf with
 | true=>have:=h1 hl;omega
 | false=>have:=(h2 hl).1;have:=(fx.inner hl).1;omega
theorem xvr{k:UInt64}{d i c:Nat}{A B:AP}{s:Sb}{ai:List UInt64}{ah:List Nat}{was:Bool}(hT:Tr (aH A) (d+1) s)(hnd:s.ps.Nodup)(hh:∀p∈s.ps,A.Has p)(hg:A.Good)(hc:∀p,A.Has p->(A.c p).length=504)
  (hn:aH A s.pg=some ⟨false,ai,[],ah⟩) (hix:dU ai k i) (eP:ah[i]?=some c) (hrec:fB k d A c B was true) :
  ∃ca cb κ xa xb,qO B s.pg ai ah (yP ah.length i) ca cb κ xa xb:=by
 obtain⟨ae,t,hK,hpt,rfl,ng,qb⟩:=hT.kid hn eP;obtain⟨gone,hO⟩:=xvq hrec t ng hpt (hK.tn hnd) (λ p hp=>hh p (hK.sub p hp)) hg hc;obtain⟨t',hM,gU,hF,_,z2,hw⟩:=MX hK hix hT.mem hnd hh qb hO;have hf:=(mE hn).inner rfl;dsimp only at hf;obtain⟨z1,z3,_⟩:=hf;have hi:=(dn.1 eP).1;obtain⟨m,hm⟩:∃m,m=yP (ae.map Sb.pg).length i:=⟨_,rfl⟩
 have o7:m+1<(ae.map Sb.pg).length:=by
  rw[hm];unfold yP
  split<;>omega
 obtain⟨ca,vN⟩:∃c,(ae.map Sb.pg)[m]?=some c:=⟨_,di (by omega)⟩;obtain⟨cb,hcb⟩:∃c,(ae.map Sb.pg)[m+1]?=some c:=⟨_,di o7⟩;obtain⟨κ,dK⟩:∃c,ai[m]?=some c:=⟨_,di (by omega)⟩
 have hsub:∀(j:Nat) (q:Nat),(ae.map Sb.pg)[j]?=some q->∃u,u.pg=q/\u∈ae.take i++t'::ae.drop (i+1):=λ j q hq=>by
  rw[<-F6 hK.at_ gU]at hq;obtain⟨u,hu,e⟩:=Pz hq;exact⟨u,e,fe hu⟩
 have FD:∀q,(∃u,u.pg=q/\u∈ae.take i++t'::ae.drop (i+1))->∃x,aH B q=some x/\(jk (aH B) q\/wL (aH B) q):=λ q ⟨u,e,hu⟩=>by
  have yN:=hM.jZ.all u hu
  have hx:∃x,aH B u.pg=some x:=by
   cases d with
   | zero=>obtain⟨_,_,h,_⟩:=yN;exact⟨_,h⟩
   | succ d=>obtain⟨_,_,h,_⟩:=yN;exact⟨_,h⟩
  obtain⟨x,hx⟩:=hx;refine⟨x,e▸hx,?_⟩;rcases cB.1 hu with h|h
  ·exact .inl (e▸hF u (by simp[h]))
  rcases aX.1 h with rfl|h
  ·exact .inr (by rw[<-e,gU];exact z2 rfl)
  exact .inl (e▸hF u (by simp[h]))
 obtain⟨xa,hxa,ga⟩:=FD ca (hsub m ca vN);obtain⟨xb,hxb,gb⟩:=FD cb (hsub (m+1) cb hcb);obtain⟨sa,sb,ea,eb,hP⟩:=PE hK.at_ hM gU hF (z2 rfl) hm vN hcb dK hxa hxb;have fJ:=hM.xM hP;have mV:=hM.has hh;have hE:=P8 fJ.ta fJ.tb fJ.eY hP.na hP.nb (mE hxa) (mE hxb) fJ.lo fJ.hi hP.many (x:=(iB xa xb κ).1) (y:=(iB xa xb κ).2.1) (eG:=(iB xa xb κ).2.2.1) (one:=(iB xa xb κ).2.2.2) rfl;rw[<-hm];refine⟨ca,cb,κ,xa,xb,vN,hcb,dK,hxa,hxb,?_,?_,?_,mV s.pg (by simp),?_,?_,?_,ybt hxa (mE hxa) ga,ybt hxb (mE hxb) gb,?_,λ h=>(hE.2 h).2.1,hM.gG.fq,hM.gG.good hg⟩
 ·exact xng fJ.ta fJ.tb hP.na hP.nb
 ·rw[<-ea];exact mV _ fJ.ha
 ·rw[<-eb];exact mV _ fJ.hb
 ·rw[<-ea,<-eb];exact fJ.ne
 ·rw[<-ea];exact eU fJ.na
 ·rw[<-eb];exact eU fJ.nb
 cases ho:(iB xa xb κ).2.2.2 with
 | true=>exact(hE.1 ho).1
 | false=>exact(hE.2 ho).1
section
variable{E:Nat->Prop}{W W':World}{P D T rt k pg N nb kc vc ac:Nat}{A:AP}{ka va aa:Option Addr}
theorem jN.mono{S S':Nat->Prop}{x:Nd}(h:jN S W nb x)(hs:∀j,S j->S' j):jN S' W nb x:=by
 obtain⟨kv,vv,av,b,hnb,h1,h2,h3⟩:=h;exact⟨kv,vv,av,b,hs _ hnb,h1.mono hs,h2.mono hs,h3.mono hs⟩
def rO(ka va aa:Option Addr)(nb j:Nat):Prop:=aK ka j\/aK va j\/aK aa j\/j=nb
def JC(E:Nat->Prop)(W w':World)(P D T rt nb:Nat)(R:Nat->Prop)(B:AP)(K:Nat)(x:Nd):Prop:=
 ∃L H kk,W.heap.size<=L/\PZ (λ j=>E j\/(L<=j/\j<H)) w' P D B kk/\kk<=K/\jN (λ j=>E j\/(L<=j/\j<H)) w' nb x/\aI w' T #[.pointer P,.int .i64 rt]/\Kept (λ j=>E j/\¬R j) W w'
theorem xnp{w:World}{gk m:Nat}{ai:List UInt64}{ah:List Nat}{eG:UInt64}(h:bz N w nb ⟨false,ai,[],ah⟩ gk va aa kc vc ac)(hm:m<ai.length)(hE:∀g,rO gk va aa nb g->E g) :
  jN E (w.setCell (gk,m) (.int .u64 (eG.toNat:Int))) nb ⟨false,ai.set m eG,[],ah⟩/\Only gk w (w.setCell (gk,m) (.int .u64 (eG.toNat:Int))):=by
 have o:Only gk w (w.setCell (gk,m) (.int .u64 (eG.toNat:Int))):=(Only.refl gk w).set m _;have hne:nb≠gk:=λ e=>(h.new gk (.inl rfl)).2 e.symm
 obtain⟨g,e,r⟩:∃g,(some ⟨gk,0,none⟩:Option Addr)=some ⟨g,0,none⟩/\Row w g kc (aF ai):=by
  rcases h.k with hz|h1
  ·cases hz.1
  exact h1
 injection e with e;injection e with e;subst e
 have r3:=r.set m (.int .u64 (eG.toNat:Int)) (by rw[cz];exact hm);rw[ZL]at r3;refine⟨⟨.slice gk ai.length kc,.slice va 0 vc,.slice aa ah.length ac,h.box.only o hne,hE nb (.inr (.inr (.inr rfl))),?_,?_,?_⟩,o⟩
 ·have:=sU (S:=E) r3 (hE gk (.inl rfl));rw[cz,bB]at this;exact this
 ·exact⟨va,vc,rfl,bY _,λ j u hj=>(by cases hj)⟩
 have:=(h.a.only o (λ e=>h.ka gk rfl e)).win (S:=E) (λ g hg=>hE g (.inr (.inr (.inl hg))));rw[dx]at this;exact this
theorem xr7{ai:List UInt64}{ah:List Nat}{m ca cb gk:Nat}{κ:UInt64}{xa xb:Nd}(p:PZ E W P D A k)(hk:k+20<900000000)(hb:aI W T #[.pointer P,.int .i64 rt])(hT:E T)
  (hn:bz N W nb ⟨false,ai,[],ah⟩ gk va aa kc vc ac) (hE:∀g,rO gk va aa nb g->E g) (hTR:¬rO gk va aa nb T) (htab:¬rO gk va aa nb 0) (ok:qO A pg ai ah m ca cb κ xa xb) :
  Calls Tryz.prog 73 #[.pointer T,.int .i64 ca] W λ e w1=>∃a:Nat,e= .returned (.tuple #[.pointer a,.int .i64 0])/\Kept E W w1 /\
   Calls Tryz.prog 73 #[.pointer T,.int .i64 cb] w1 λ e w2=>∃b:Nat,e= .returned (.tuple #[.pointer b,.int .i64 0])/\Kept E W w2/\w2.cell? a=some (.bool xa.leaf)/\w2.cell? b=some (.bool xa.leaf)/\∀q,
    Calls Tryz.prog 141 #[.pointer a,.pointer b,.int .u64 κ.toNat] (w2.drewN q) λ e w3=>e= .returned (.tuple #[.int .u64 ((iB xa xb κ).2.2.1.toNat:Int),.bool (iB xa xb κ).2.2.2])/\Kept E W w3 /\
     Calls Tryz.prog 97 #[.pointer T,.int .i64 ca,.pointer a] w3 λ e w4=>e= .returned (.int .i64 0)/\Kept E W w4 /\
      ((iB xa xb κ).2.2.2=false->Calls Tryz.prog 97 #[.pointer T,.int .i64 cb,.pointer b] (w4.setCell (gk,m) (.int .u64 ((iB xa xb κ).2.2.1.toNat:Int))) λ e w5=>e= .returned (.int .i64 0) /\
       JC E W w5 P D T rt nb (rO gk va aa nb) ((A.az ca (bg (A.c ca) (iB xa xb κ).1)).az cb (bg ((A.az ca (bg (A.c ca) (iB xa xb κ).1)).c cb) (iB xa xb κ).2.1)) (k+20) ⟨false,ai.set m (iB xa xb κ).2.2.1,[],ah⟩) /\
      ((iB xa xb κ).2.2.2=true->PZ E w4 P D (A.az ca (bg (A.c ca) (iB xa xb κ).1)) (k+7)):=by
 have hEl:=p.there;refine(BU p (by omega) hb ok.ha ok.na).mono ?_;rintro e w1 ⟨Na,Ma,a,ga,gva,gaa,c1,c2,c3,rfl,hNa,hMa,⟨oa,hal,hag⟩,p1,k1⟩;refine⟨a,rfl,k1,?_⟩;have hb1:=hb.af (k1.block T hT);refine(BU p1 (by omega) hb1 ok.hb ok.nb).mono ?_;rintro e w2 ⟨Nb,Mb,b,gb,gvb,gab,d1,d2,d3,rfl,hNb,hMb,⟨ob,hbl,hbg⟩,p2,k2⟩;have k12:Kept E W w2:=k1.trans (k2.mono (λ _ hj=>.inl hj));have oa2:=oa.move hal hag k2.size (λ g h1 h2=>k2.block g (.inr ⟨h1,h2⟩));refine⟨b,rfl,k12,oa2.box.cell 0 _ rfl,by rw[ok.leaf];exact ob.box.cell 0 _ rfl,λ q=>?_⟩;have bq:Below w2 w2 (w2.drewN q):=UK.aG (aP _ _) q;refine(xyi (Na:=Na) (Ma:=Ma) (Nb:=Nb) (Mb:=Mb) ⟨oa2.next bq,hal,hag⟩ ⟨ob.next bq,hbl,hbg⟩ (by omega) ok.leaf (mE ok.na) (mE ok.nb) ok.k0a ok.k0b κ).mono ?_;rintro e w3 ⟨he,ra,rb,k3⟩;have hs2:(w2.drewN q).heap.size=w2.heap.size:=rfl;rw[hs2]at ra rb k3;have hW2:=k12.size;have hW1:=k1.size;have kq:Kept E w2 (w2.drewN q):=Kept.of_below bq (λ j hj=>bS (hEl j hj) hW2);have k13:Kept E W w3:=(k12.trans kq).trans (k3.mono (λ j hj=>⟨bS (hEl j hj) hW2,λ h=>by have:=hEl j hj;omega⟩));refine⟨he,k13,?_⟩;have htl:=p.tab.lt
 have p3:PZ (λ j=>E j\/((Na<=j/\j<Ma)\/(Nb<=j/\j<Mb)\/(w2.heap.size<=j/\j<w3.heap.size))) w3 P D A (k+2+2):=
  (p2.next bq).over (R:=λ j=>(Na<=j/\j<Ma)\/(Nb<=j/\j<Mb)) (λ j hj=>by
   rcases hj with h|h
   ·exact .inl (.inr h)
   ·exact .inr h) (λ h=>by omega) k3.size (λ j hj hr=>k3.block j ⟨hj,hr⟩) (λ j hj=>by
   rcases hj with h|h|h|h
   ·exact .inl (.inl (.inl h))
   ·exact .inl (.inl (.inr h))
   ·exact .inl (.inr h)
   exact .inr h)
 have hb3:=hb.af (k13.block T hT);have Sq:=ra.mono (S':=λ j=>E j\/((Na<=j/\j<Ma)\/(Nb<=j/\j<Mb)\/(w2.heap.size<=j/\j<w3.heap.size))) (λ j hj=>.inr hj);refine(DJ p3 (by omega) hb3 ok.ha Sq ok.f1).mono ?_;rintro e w4 ⟨rfl,p4,k4⟩;have k14:Kept E W w4:=k13.trans (k4.mono (λ _ hj=>.inl hj));refine⟨rfl,k14,λ hone=>?_,λ hone=>(p4.less (λ _ hj=>.inl hj)).up (by omega)⟩;have Ir:=k14.size
 have vY:bz N w4 nb ⟨false,ai,[],ah⟩ gk va aa kc vc ac:=
  ⟨hn.box.af (k14.block nb (hE nb (.inr (.inr (.inr rfl))))),hn.k.af Ir (λ j hj=>k14.block j (hE j (.inl hj))),hn.v.af Ir (λ j hj=>k14.block j (hE j (.inr (.inl hj)))),hn.a.af Ir (λ j hj=>k14.block j (hE j (.inr (.inr (.inl hj))))),hn.ge,hn.new,hn.kv,hn.ka,hn.va⟩
 have o7:=(dn.1 ok.k).1;obtain⟨rn,on⟩:=xnp (eG:=(iB xa xb κ).2.2.1) vY o7 hE;generalize w4.setCell (gk,m) (.int .u64 ((iB xa xb κ).2.2.1.toNat:Int))=w5 at rn on ⊢;have hgk:E gk:=hE gk (.inl rfl);have hgl:=hEl gk hgk
 have p5:PZ (λ j=>E j\/((Na<=j/\j<Ma)\/(Nb<=j/\j<Mb)\/(w2.heap.size<=j/\j<w3.heap.size))) w5 P D (A.az ca (bg (A.c ca) (iB xa xb κ).1)) (k+2+2+3):=
  p4.over (R:=λ j=>j=gk) (λ j hj=>by rw[hj];exact .inl hgk) (λ h=>htab (.inl (congrArg (λ x=>some (⟨x,0,none⟩:Addr)) (show gk=_ from h.symm)))) on.size (λ j hj hr=>on.block j hj hr) (λ j hj=>.inl hj)
 have kS:Kept (λ j=>(Na<=j/\j<Ma)\/(Nb<=j/\j<Mb)\/(w2.heap.size<=j/\j<w3.heap.size)) w3 w5:=
  (k4.mono (λ _ hj=>.inr hj)).trans ⟨on.os,on.tape,on.output,on.size,λ j hj=>on.block j (bS (p3.there j (.inr hj)) k4.size) (λ e=>by omega)⟩
 have rb5:=((rb hone).xJ kS).mono (S':=λ j=>E j\/((Na<=j/\j<Ma)\/(Nb<=j/\j<Mb)\/(w2.heap.size<=j/\j<w3.heap.size))) (λ j hj=>.inr hj);have kT:Kept (λ j=>E j/\¬rO gk va aa nb j) w4 w5:=⟨on.os,on.tape,on.output,on.size,λ j hj=>on.block j (bS (hEl j hj.1) Ir) (λ e=>hj.2 (by rw[e];exact .inl rfl))⟩;have k15:Kept (λ j=>E j/\¬rO gk va aa nb j) W w5:=(k14.mono (λ _ hj=>hj.1)).trans kT;have hb5:=hb.af (k15.block T ⟨hT,hTR⟩);refine(DJ p5 (by omega) hb5 (AP.bu.2 ok.hb) rb5 (ok.f2 hone)).mono ?_;rintro e w6 ⟨rfl,p6,k6⟩;refine⟨rfl,W.heap.size,W.heap.size,_,aZ _,p6.less (λ j hj=>?_),by omega,(rn.xJ (k6.mono (λ _ hj=>.inl hj))).mono (λ _ hj=>.inl hj),hb5.af (k6.block T (.inl hT)),k15.trans (k6.mono (λ _ hj=>.inl hj.1))⟩;rcases hj with h|h
 ·exact .inl h
 omega
theorem xvs{w4 wc:World}{l:List UInt64}{cs:List Nat}{q:Nat}(hb:aI W T #[.pointer P,.int .i64 rt])(hT:E T)(p:PZ E w4 P D A k)(hk:k+20<900000000)(k4:Kept E W w4)
  (hE:∀g,rO ka va aa nb g->E g) (hTR:¬rO ka va aa nb T) (htab:¬rO ka va aa nb 0) (hq:A.Has q) (hEl:∀j,E j->j<W.heap.size)
  (hcut:ve N w4 wc nb ka va aa l cs) :
  Calls Tryz.prog 68 #[.pointer P,.int .i64 q] wc (λ e w'=>e= .returned (.int .i64 0)/\JC E W w' P D T rt nb (rO ka va aa nb) (A.give q) (k+1) ⟨false,l,[],cs⟩)/\wc.cell? T=some (.pointer P):=by
 obtain⟨uZ,J6,c,Pt,c2,hn2,k2,hoa,jY⟩:=hcut;have Ir:=k4.size
 have p5:PZ (λ j=>E j\/(w4.heap.size<=j/\j<wc.heap.size)) wc P D A k:=
  p.over (R:=rO ka va aa nb) hE htab k2.size (λ j hj hr=>k2.block j ⟨hj,hr⟩) (λ j hj=>hj)
 have k5:Kept (λ j=>E j/\¬rO ka va aa nb j) W wc:=(k4.mono (λ _ hj=>hj.1)).trans (k2.mono (λ j hj=>⟨bS (hEl j hj.1) Ir,hj.2⟩));have hb5:=hb.af (k5.block T ⟨hT,hTR⟩)
 have r5:jN (λ j=>E j\/(w4.heap.size<=j/\j<wc.heap.size)) wc nb ⟨false,l,[],cs⟩:=hn2.reads (.inl (hE nb (.inr (.inr (.inr rfl))))) (λ g hg=>by
  rcases hg with hg|hg|hg
  ·rcases hoa g hg with h1|h1
   ·exact .inl (hE g (.inl h1))
   exact .inr ⟨h1,J7 hn2.k hg⟩
  ·exact .inl (hE g (.inr (.inl hg)))
  rcases jY g hg with h1|h1
  ·exact .inl (hE g (.inr (.inr (.inl h1))))
  exact .inr ⟨h1,J7 hn2.a hg⟩)
 refine⟨(IW p5 (by omega) q hq).mono ?_,hb5.cell 0 _ rfl⟩;rintro e w6 ⟨rfl,p6,k6⟩;exact⟨rfl,w4.heap.size,wc.heap.size,k+1,Ir,p6,aZ _,r5.xJ k6,hb5.af (k6.block T (.inl hT)),k5.trans (k6.mono (λ _ hj=>.inl hj.1))⟩
end
open Go.BigFrame
section
variable{E:Nat->Prop}{W W':World}{P D T rt k pg N nb kc vc ac:Nat}{A:AP}{ka va aa:Option Addr}
theorem xyj{w4:World}{ai:List UInt64}{ah:List Nat}{m n gk ga:Nat}(vY:bz N w4 nb ⟨false,ai,[],ah⟩ gk va ga kc vc ac)(hkn:ai.length=n)(hcn:ah.length=n+1)(iy:n<=100)(hmn:m<n) :
  (∀(wa:World) (_:Below w4 w4 wa),Calls Tryz.prog 64 #[.slice gk n kc,.int .i64 m,.int .i64 ((m:Int)+1)] wa λ e w'=>e= .returned (.slice gk (n-1) kc)/\fQ N w4 w' nb ⟨false,ai,[],ah⟩ gk va ga kc vc ac (ai.take m++ai.drop (m+1)) gk kc/\w'.cell? (nb,1)=some (.slice gk n kc)/\w'.cell? (nb,3)=some (.slice ga (n+1) ac)) /\
  (∀(wb:World) (_:fQ N w4 wb nb ⟨false,ai,[],ah⟩ gk va ga kc vc ac (ai.take m++ai.drop (m+1)) gk kc),Calls Tryz.prog 133 #[.slice ga (n+1) ac,.int .i64 ((m:Int)+1),.int .i64 ((m:Int)+2)] wb λ e w'=>e= .returned (.slice ga n ac)/\ve N w4 ((w'.setCell (nb,1) (.slice gk (n-1) kc)).setCell (nb,3) (.slice ga n ac)) nb gk va ga (ai.take m++ai.drop (m+1)) (ah.take (m+1)++ah.drop (m+2))/\w'.cell? (nb,1)=some (.slice gk n kc)/\w'.cell? (nb,3)=some (.slice ga (n+1) ac)/\w'.frozen? ⟨nb,1,none⟩=false/\w'.frozen? ⟨nb,3,none⟩=false):=by
 have hNs:N<=w4.heap.size:=Nat.le_of_lt (Nat.lt_of_le_of_lt vY.ge vY.box.lt)
 have rk4:Row w4 gk kc (aF ai):=by
  rcases vY.k with hz|⟨g,e,r⟩
  ·cases hz.1
  injection e with e;injection e with e;rw[e];exact r
 have e1:(ai.take m++ai.drop (m+1)).length=n-1:=by simp;omega
 have e2:(ah.take (m+1)++ah.drop (m+2)).length=n:=by simp;omega
 refine⟨λ wa ba=>?_,λ wb mm=>?_⟩
 ·skip
  have hd:=Pe (rk4.below ba rk4.lt) (show ai.length<=1000 by omega) (show m<ai.length by omega);rw[hkn]at hd;refine hd.mono (λ e w' ⟨he,r,o⟩=>?_);have mm:=vY.yK hNs ba r o (.inl rfl);have bb:=mm.box;dsimp only at bb;rw[hkn,hcn]at bb;exact⟨he,mm,bb.cell 1 _ rfl,bb.cell 3 _ rfl⟩
 skip
 have rb:Row wb ga ac (ints ah):=by
  rcases mm.a with hz|⟨g,e,r⟩
  ·cases hz.1
  injection e with e;injection e with e;rw[e];exact r
 have hd:=TZ rb (show ah.length<=1000 by omega) (show m+1<ah.length by omega);rw[hcn]at hd;refine hd.mono (λ e w' ⟨he,r,o⟩=>?_);have hdd:=(mm.Bo vY r o (.inl rfl)).2.2.1;dsimp only at hdd;rw[hkn,hcn]at hdd;exact⟨he,ZM vY mm r o (.inl rfl) e1 e2,hdd.cell 1 _ rfl,hdd.cell 3 _ rfl,hdd.free 1,hdd.free 3⟩
theorem xyk{ai:List UInt64}{ah:List Nat}{i m n ca cb:Nat}{κ:UInt64}{xa xb:Nd}(p:PZ E W P D A k)(hk:k+40<900000000)(hb:aI W T #[.pointer P,.int .i64 rt])(hT:E T)
  (hn:bz N W nb ⟨false,ai,[],ah⟩ ka va aa kc vc ac) (hE:∀g,rO ka va aa nb g->E g) (hTR:¬rO ka va aa nb T) (htab:¬rO ka va aa nb 0) (ok:qO A pg ai ah m ca cb κ xa xb) (hkn:ai.length=n) (hcn:ah.length=n+1) (h1:1<=n) (iy:n<=100) (hi:i<=n) (hm:m=yP (n+1) i) :
  Calls Tryz.prog 131 #[.pointer T,.pointer nb,.int .i64 i] W λ e w'=>e= .returned (.int .i64 0) /\
   ((iB xa xb κ).2.2.2=false->JC E W w' P D T rt nb (rO ka va aa nb) ((A.az ca (bg (A.c ca) (iB xa xb κ).1)).az cb (bg ((A.az ca (bg (A.c ca) (iB xa xb κ).1)).c cb) (iB xa xb κ).2.1)) (k+20) ⟨false,ai.set m (iB xa xb κ).2.2.1,[],ah⟩) /\
   ((iB xa xb κ).2.2.2=true->JC E W w' P D T rt nb (rO ka va aa nb) ((A.az ca (bg (A.c ca) (iB xa xb κ).1)).give cb) (k+20) ⟨false,ai.take m++ai.drop (m+1),[],ah.take (m+1)++ah.drop (m+2)⟩):=by
 obtain⟨gk,rfl,rk⟩:∃g,ka=some ⟨g,0,none⟩/\Row W g kc (aF ai):=by
  rcases hn.k with hz|h2
  ·have:=congrArg List.length hz.2.1;rw[cz]at this;exact absurd (show ai.length=0 from this) (by omega)
  exact h2
 obtain⟨ga,rfl,ra⟩:∃g,aa=some ⟨g,0,none⟩/\Row W g ac (ints ah):=by
  rcases hn.a with hz|h2
  ·have:=congrArg List.length hz.2.1;rw[dx]at this;exact absurd (show ah.length=0 from this) (by omega)
  exact h2
 have hEk:=hE gk (.inl rfl);have hEa:=hE ga (.inr (.inr (.inl rfl)));have vK:=hE nb (.inr (.inr (.inr rfl)));have hga:ga≠gk:=λ e=>hn.ka gk rfl (by rw[<-e];rfl);have hgn:nb≠gk:=λ e=>(hn.new gk (.inl rfl)).2 e.symm
 have VC:∀w,Kept E W w->w.cell? (nb,1)=some (.slice gk n kc)/\w.cell? (nb,3)=some (.slice ga (n+1) ac)/\w.cell? (gk,m)=some (.int .u64 (κ.toNat:Int))/\w.cell? (ga,m)=some (.int .i64 (ca:Int))/\w.cell? (ga,m+1)=some (.int .i64 (cb:Int))/\w.frozen? ⟨gk,m,none⟩=false:=λ w kw=>by
  have b:=hn.box.af (kw.block nb vK);rw[hkn,hcn]at b;have r:=rk.af kw.size (kw.block gk hEk);have r2:=ra.af kw.size (kw.block ga hEa);refine⟨b.cell 1 _ rfl,b.cell 3 _ rfl,r.at' m _ (qx _ _ _ ok.k),r2.at' m _ (qw _ _ _ ok.ka),r2.at' (m+1) _ (qw _ _ _ ok.kb),r.free m ?_⟩;have:=r.le;rw[cz]at this;have:=(dn.1 ok.k).1;omega
 have hmn:m<n:=by have:=(dn.1 ok.k).1;omega
 have o7:m<=1000:=by omega
 have hPm:(i=n/\m=n-1)\/(i≠n/\m=i):=by
  rw[hm];unfold yP
  split<;>omega
 obtain⟨⟨xa',xb',eG,one⟩,hev⟩:∃x,iB xa xb κ=x:=⟨_,rfl⟩;have hC:=xr7 p (by omega) hb hT hn hE hTR htab ok;rw[hev]at hC ⊢;dsimp only at hC ⊢;have HC:=zH hC;have Nq:=zH VC;have HX:=zH (zA iy (zA p (zA hb (zA hT (zA hn (zA hE (zA hTR (zA htab (zA ok (zA hkn hcn))))))))));obtain⟨x1,x3,y0,z0,z1,_⟩:=VC W (Kept.refl _ _);have j1:(m:Int)<((n:Int)+1):=by omega
 have j2:(m:Int)+1<((n:Int)+1):=by omega
 have j3:(m:Int)<(n:Int):=by omega
 have j4:((m:Int)+1).toNat=m+1:=by omega
 have j5:(0:Int)<=(m:Int)+1:=by omega
 have j6:(m:Int)+1=((m+1:Nat):Int):=rfl;have j7:(m:Int)+2=((m+2:Nat):Int):=rfl;have j8:((n+1:Nat):Int)-1=(n:Int):=by omega
 have j10:(n:Int)+1-1=(n:Int):=by omega
 have hA:i=n->(n:Int)-1=(m:Int):=λ h=>by omega
 have hB:i≠n->(i:Int)≠(n:Int)/\m=i:=λ h=>by omega
 have l1:m+1<=1000:=by omega
 have l2:m+2<=1000:=by omega
 have l3:n<=1000:=by omega
 have HI:=zH (zA hA hB);have HKK:=zH (λ (kk:Nat) (h:kk<=k+7+1)=>(show kk<=k+20 by omega));have hkz:k+20<900000000:=by omega
 have VD:k+7+20<900000000:=by omega
 clear hC hev hPm hm hi hA hB p hb hT hn hE hTR htab ok hkn hcn h1 iy VC rk ra hEk hEa vK hk;have v1:wrap64 ((m:Int)+1)=(m:Int)+1:=by rw[j6];exact Cu _ l1
 have v2:IntKind.i64.wrap ((m:Int)+1)=(m:Int)+1:=by rw[j6];exact yE _ l1
 have v3:wrap64 ((m:Int)+2)=(m:Int)+2:=by rw[j7];exact Cu _ l2
 have v4:IntKind.i64.wrap ((m:Int)+2)=(m:Int)+2:=by rw[j7];exact yE _ l2
 have v5:wrap64 ((n:Int)+1-1)=(n:Int):=by rw[j10];exact Cu _ l3
 have v6:IntKind.i64.wrap ((n:Int)+1-1)=(n:Int):=by rw[j10];exact yE _ l3
 have v7:wrap64 (n:Int)=(n:Int):=Cu _ l3;have v8:IntKind.i64.wrap (n:Int)=(n:Int):=yE _ l3;have v9:wrap64 (m:Int)=(m:Int):=Cu _ o7;have v10:IntKind.i64.wrap (m:Int)=(m:Int):=yE _ o7;clear j6 j7 j8 j10 l1 l2 l3 o7
 go_enter Tryz.func131,Tryz.ntmps131
 go_upto_if 21 with(fail)
 go_cut [2] (λ iv wx=>iv= .int .i64 (m:Int)/\wx=W)
 case first=>
  by_cases hin:i=n
  ·have q1:=HI.out.1 hin;have q0:((i:Int)==(n:Int))=true:=by rw[hin];exact beq_self_eq_true _
   have q2:wrap64 ((i:Int)-1)=(m:Int):=by rw[hin,q1];exact v9
   have q3:IntKind.i64.wrap ((i:Int)-1)=(m:Int):=by rw[hin,q1];exact v10
   clear q1 hin v1 v2 v3 v4 v5 v6 v7 v8 v9 v10 x1 x3 y0 z0 z1 j1 j2 j3 j4 j5
   go_wp2_with fail
   go_meet
   case rel=>exact⟨rfl,rfl⟩
  obtain⟨q1,q2⟩:=HI.out.2 hin;subst q2;have q3:((m:Int)==(n:Int))=false:=beq_eq_false_iff_ne.2 q1;clear v1 v2 v3 v4 v5 v6 v7 v8 v9 v10 x1 x3 y0 z0 z1 j1 j2 j3 j4 j5
  go_wp2_with fail
  go_meet
  case rel=>exact⟨rfl,rfl⟩
 case rest=>
 obtain⟨rfl,rfl⟩:=hcut;clear HI
 go_wp2_with fail
 refine HC.out.mono ?_;rintro e w1 ⟨a,rfl,k1,hl2⟩;replace hl2:=zH hl2;obtain⟨V6,Pm,y10,z10,z11,_⟩:=Nq.out w1 k1;clear k1 HC
 go_wp2_with fail
 refine hl2.out.mono ?_;rintro e w2 ⟨b,rfl,k2,ca0,cb0,hev⟩;replace hev:=zH hev;obtain⟨x21,M4,y20,z20,z21,_⟩:=Nq.out w2 k2;clear k2 hl2
 go_wp2_with fail
 go_quiet (fail)
 have hll:(xa.leaf != xa.leaf)=false:=by simp
 go_wp2_with fail
 clear V6 Pm y10 z10 z11 x21 M4 y20 z20 z21 ca0 cb0 x1 x3 y0 z0 z1 hll;refine(hev.out _).mono ?_;rintro e w3 ⟨rfl,k3,hst⟩;replace hst:=zH hst;obtain⟨x31,x33,y30,z30,z31,_⟩:=Nq.out w3 k3;clear k3 hev
 go_wp2_with fail
 clear x31 x33 y30 z30 z31;refine hst.out.mono ?_;rintro e w4 ⟨rfl,k4,hf,ht⟩;obtain⟨x41,x43,y40,z40,z41,f40⟩:=Nq.out w4 k4;clear hst
 cases one with
 | false=>
  have h5:=hf rfl;have HQ:=zH h5;have on:Only gk w4 (w4.setCell (gk,m) (.int .u64 (eG.toNat:Int))):=(Only.refl gk w4).set m _;have c3:=on.cell x43 hgn;have c4:=on.cell z41 hga;clear hf ht h5 k4 on v3 v4 v5 v6 v7 v8 v9 v10
  go_upto_region 16 with(fail)
  go_cut [] (λ wx=>wx=w4.setCell (gk,m) (.int .u64 (eG.toNat:Int)))
  case first=>
   go_wp2_with fail
   go_meet
   case rel=>exact rfl
  case rest=>
  generalize w4.setCell (gk,m) (.int .u64 (eG.toNat:Int))=w5 at hcut c3 c4 HQ;subst hcut;clear x41 x43 y40 z40 z41 f40
  go_wp2_with fail
  refine HQ.out.mono ?_;rintro e w5 ⟨rfl,hM⟩;have HG:=zH hM;clear hM HQ;go_wp2;go_ret;exact⟨rfl,HG.out⟩
 | true=>
  have p4:=ht rfl;obtain⟨iy,p,hb,hT,hn,hE,hTR,htab,ok,hkn,hcn⟩:=HX.out
  have vY:bz N w4 nb ⟨false,ai,[],ah⟩ gk va ga kc vc ac:=
   ⟨hn.box.af (k4.block nb (hE nb (.inr (.inr (.inr rfl))))),hn.k.af k4.size (λ j hj=>k4.block j (hE j (.inl hj))),hn.v.af k4.size (λ j hj=>k4.block j (hE j (.inr (.inl hj)))),hn.a.af k4.size (λ j hj=>k4.block j (hE j (.inr (.inr (.inl hj))))),hn.ge,hn.new,hn.kv,hn.ka,hn.va⟩
  have HGo:=zH (λ (wc:World) hcut=>xvs (w4:=w4) (wc:=wc) (ka:=some ⟨gk,0,none⟩) (va:=va) (aa:=some ⟨ga,0,none⟩) (nb:=nb) (N:=N) (l:=ai.take m++ai.drop (m+1)) (cs:=ah.take (m+1)++ah.drop (m+2)) (q:=cb) hb hT p4 VD k4 hE hTR htab (AP.bu.2 ok.hb) p.there hcut);obtain⟨hI1,hI2⟩:=xyj (m:=m) vY hkn hcn iy hmn;have HI1:=zH hI1;have HI2:=zH hI2;have hS1:w4.drew.cell? (nb,1)=some (.slice gk n kc)/\w4.drew.cell? (nb,3)=some (.slice ga (n+1) ac):=⟨x41,x43⟩;have JB:Below w4 w4 w4.drew:=(aP _ _).drew;clear p4 p hb hT hn hE hTR htab ok hkn hcn vY hI1 hI2 hf ht k4 HX Nq
  go_upto_region 19 with(fail)
  go_cut [] (λ wx=>ve N w4 wx nb gk va ga (ai.take m++ai.drop (m+1)) (ah.take (m+1)++ah.drop (m+2)))
  case first=>
   clear v5 v6 v7 v8 v9 v10;refine wp_region_any (by kernel_rfl) ?_;refine zT 0 ?_;refine zT 1 ?_;refine zT 2 ?_;refine zT 3 ?_;refine zT 4 ?_;refine zT 6 ?_;refine zT 7 ?_;refine zT 8 ?_;refine zT 10 ?_;refine zT 11 ?_;refine zT 12 ?_;refine zT 14 ?_;refine zT 15 ?_;refine zT 16 ?_;refine zT 17 ?_;refine zV (w:=w4.drew) (λ w'=>w'.cell? (nb,1)=some (.slice gk n kc)/\w'.cell? (nb,3)=some (.slice ga (n+1) ac)) 19 (by exact hS1) λ hS0=>?_;refine zU 5 hS0 ?_;refine zU 13 hS0 ?_;clear hS0;refine zL 9 λ K hK=>?_;go_simp;refine(HI1.out _ JB).mono ?_;rintro e w9 ⟨rfl,mm,s1,s2⟩
   (try dsimp only)
   refine zK hK ?_ (λ _=>⟨s1,s2⟩);refine zL 18 λ K hK=>?_;go_simp;refine(HI2.out _ mm).mono ?_;rintro e w18 ⟨rfl,l2,t1,t2,q1,q2⟩
   (try dsimp only)
   refine zK hK ?_ (λ _=>⟨t1,t2⟩);refine zM 19 ?_;refine zM 20 ?_;refine zM 21 ?_;refine zM 22 ?_;refine zM 23 ?_;refine zM 24 ?_;refine iR (by kernel_rfl) ?_ _
   go_wp2_with fail
   go_meet
   case rel=>exact l2
  obtain⟨hG,ct⟩:=HGo.out _ hcut;have HG:=zH hG;clear hG hcut HGo HI1 HI2 hS1 JB x41 x43 y40 z40 z41 f40
  go_wp2_with fail
  refine HG.out.mono ?_;rintro e w5 ⟨rfl,L,H,kk,m1,m2,m3,m4⟩;have HM:=zH (zA m1 (zA m2 (zA m3 m4)));clear m1 m2 m3 m4 HG;go_wp2;go_ret;obtain⟨m1,m2,m3,m4⟩:=HM.out;exact⟨rfl,L,H,kk,m1,m2,HKK.out kk m3,m4⟩
end
section
variable{E:Nat->Prop}{W W':World}{P D T rt k pg N nb kc vc ac:Nat}{A:AP}{ka va aa:Option Addr}
theorem xyl{c:Nat}{x:Nd}(h:PZ E W P D A k)(hk:k+6<900000000)(hb:aI W T #[.pointer P,.int .i64 rt])(hT:E T)(hc:A.Has c)(hx:aH A c=some x)(hp:A.Has pg) :
  Calls Tryz.prog 132 #[.pointer T,.int .i64 pg,.int .i64 c] W λ e w'=>e= .returned (.int .i64 0)/\PZ E w' P D ((A.az pg (bg (A.c pg) x)).give c) (k+6)/\Kept E W w':=by
 have HL:=zH (BU h (by omega) hb hc hx);have HX:=zH (zA hb (zA hT (zA hc (zA (mE hx) hp))));clear h hb hT hc hx hp
 go_enter Tryz.func132,Tryz.ntmps132
 go_wp2_with fail
 refine HL.out.mono ?_;rintro e w1 ⟨N,M,nb,ka,va,aa,kc,vc,ac,rfl,hN,hM,bi,p1,k1⟩;obtain⟨hb,hT,hc,hf,hp⟩:=HX.out;have hr:jN (λ j=>E j\/(N<=j/\j<M)) w1 nb x:=bi.wins.reads (λ g hg=>.inr ⟨hg.1,hg.2.1⟩) (.inr ⟨bi.1.ge,bi.2.1⟩);have HS:=zH (DJ p1 (by omega) (hb.af (k1.block T hT)) hp hr hf);have HK:=zH k1;clear HL hN hM bi p1 k1 hb hT hc hf hp hr
 go_wp2_with fail
 refine HS.out.mono ?_;rintro e w2 ⟨rfl,p2,k2⟩;obtain⟨hb,hT,hc,hf,hp⟩:=HX.out;have k12:=HK.out.trans (k2.mono (λ _ hj=>.inl hj));have c0:=(hb.af (k12.block T hT)).c0;have HG:=zH (IW (p2.less (T:=E) (λ _ hj=>.inl hj)) (by omega) c (AP.bu.2 hc));have yu:=zH k12;clear HS HK p2 k2 k12 hb hT hc hf hp HX
 go_wp2_with fail
 refine HG.out.mono ?_;rintro e w3 ⟨rfl,p3,k3⟩;have HF:=zH (zA p3 (yu.out.trans k3));clear HG p3 k3 yu;go_wp2;go_ret;exact⟨rfl,HF.out⟩
def FE(E:Nat->Prop)(W w':World)(P D T rt:Nat)(A:AP)(K pg d:Nat)(key:UInt64)(e:Ending):Prop:=
 ∃(B:AP) (was iw:Bool) (kk:Nat),e= .returned (.tuple #[.bool was,.bool iw,.int .i64 0])/\fB key d A pg B was iw/\bL E w' P D T rt B kk/\kk<=K/\Kept E W w'
theorem jN.wP{S:Nat->Prop}{w:World}{x:Nd}(h:jN S w nb x):∃ao c,w.cell? (nb,3)=some (.slice ao x.ah.length c)/\x.ah.length<=c/\∀j q:Nat,x.ah[j]?=some q->∃g o,ao=some ⟨g,o,none⟩/\w.cell? ⟨g,o+j,none⟩=some (.int .i64 (q:Int)):=by
 obtain⟨kv,vv,av,b,_,_,_,⟨ao,c,rfl,hc,hv⟩⟩:=h;rw[dx]at b hc;refine⟨ao,c,b.cell 3 _ rfl,hc,λ j q hj=>?_⟩;obtain⟨g,o,e,_,hcell⟩:=hv j _ (qw _ _ _ hj);exact⟨g,o,e,hcell⟩
section
variable{w3 w4:World}{M d K0 i c kk m ca cb:Nat}{B:AP}{ai:List UInt64}{ah:List Nat}{key κ:UInt64}{was:Bool}{xa xb:Nd}{R:Nat->Prop}
theorem xvt{C:AP}{x:Nd}(h:bL E W P D T rt A k)(hk:k+K0+60<900000000)(hN:W.heap.size<=N)(hR:∀j,R j->N<=j/\j<M)(kE:Kept E W w3)(hkk:kk<=k+2+K0)
  (hM:JC (λ j=>E j\/N<=j/\j<M) w3 w4 P D T rt nb R C (kk+20) x) (wQ:C.Has pg) (hx:Fits x) (hD:fB key (d+1) A pg (C.az pg (bg (C.c pg) x)) was (DK x)) :
  Calls Tryz.prog 130 #[.pointer nb] w4 (λ e w'=>e= .returned (.bool (DK x))/\w'=w4) /\
  Calls Tryz.prog 97 #[.pointer T,.int .i64 pg,.pointer nb] w4 (λ e w'=>e= .returned (.int .i64 0)/\FE E W w' P D T rt A (k+K0+60) pg (d+1) key (.returned (.tuple #[.bool was,.bool (DK x),.int .i64 0]))):=by
 obtain⟨L,H,k4,hL,p4,hk4,hr,hb,kM⟩:=hM;refine⟨xx1 hr,(DJ p4 (by omega) hb wQ hr hx).mono ?_⟩;rintro e w5 ⟨rfl,p5,k5⟩;have hE:∀j,E j->(λ j=>(E j\/N<=j/\j<M)/\¬R j) j:=λ j hj=>⟨.inl hj,λ hr=>by have:=(hR j hr).1;have:=h.pz.there j hj;omega⟩;exact⟨rfl,_,was,_,k4+3,rfl,hD,⟨p5.less (λ _ hj=>.inl (.inl hj)),hb.af (k5.block T (.inl (.inl h.mem))),h.mem⟩,by omega,(kE.trans (kM.mono hE)).trans (k5.mono (λ _ hj=>.inl (.inl hj)))⟩
theorem xvu{C:AP}{x y:Nd}(h:bL E W P D T rt A k)(hk:k+K0+60<900000000)(hN:W.heap.size<=N)(hR:∀j,R j->N<=j/\j<M)(kE:Kept E W w3)(hkk:kk<=k+2+K0)
  (hM:JC (λ j=>E j\/N<=j/\j<M) w3 w4 P D T rt nb R C (kk+20) x) (wQ:C.Has pg) (hcC:C.Has ca) (hy:aH C ca=some y) (hD:fB key (d+1) A pg ((C.az pg (bg (C.c pg) y)).give ca) was true) :
  Calls Tryz.prog 132 #[.pointer T,.int .i64 pg,.int .i64 ca] w4 (λ e w'=>e= .returned (.int .i64 0)/\FE E W w' P D T rt A (k+K0+60) pg (d+1) key (.returned (.tuple #[.bool was,.bool true,.int .i64 0]))):=by
 obtain⟨L,H,k4,hL,p4,hk4,hr,hb,kM⟩:=hM;refine(xyl p4 (by omega) hb (.inl (.inl h.mem)) hcC hy wQ).mono ?_;rintro e w5 ⟨rfl,p5,k5⟩;have hE:∀j,E j->(λ j=>(E j\/N<=j/\j<M)/\¬R j) j:=λ j hj=>⟨.inl hj,λ hr=>by have:=(hR j hr).1;have:=h.pz.there j hj;omega⟩;exact⟨rfl,_,was,_,k4+6,rfl,hD,⟨p5.less (λ _ hj=>.inl (.inl hj)),hb.af (k5.block T (.inl (.inl h.mem))),h.mem⟩,by omega,(kE.trans (kM.mono hE)).trans (k5.mono (λ _ hj=>.inl (.inl hj)))⟩
theorem xvv{x' y':Nd}{eG:UInt64}{one:Bool}(hy:aH A pg=some ⟨false,ai,[],ah⟩)(hki:dU ai key i)(hc:ah[i]?=some c)(hps:fB key d A c B was true)(hm:m=yP ah.length i)(ok:qO B pg ai ah m ca cb κ xa xb)(hev:iB xa xb κ=(x',y',eG,one)) :
  (one=false->((B.az ca (bg (B.c ca) x')).az cb (bg ((B.az ca (bg (B.c ca) x')).c cb) y')).Has pg/\Fits ⟨false,ai.set m eG,[],ah⟩ /\
   fB key (d+1) A pg (((B.az ca (bg (B.c ca) x')).az cb (bg ((B.az ca (bg (B.c ca) x')).c cb) y')).az pg (bg (((B.az ca (bg (B.c ca) x')).az cb (bg ((B.az ca (bg (B.c ca) x')).c cb) y')).c pg) ⟨false,ai.set m eG,[],ah⟩)) was (DK ⟨false,ai.set m eG,[],ah⟩)) /\
  (one=true->((B.az ca (bg (B.c ca) x')).give cb).Has pg /\
   (ah.length≠2->Fits ⟨false,ai.take m++ai.drop (m+1),[],ah.take (m+1)++ah.drop (m+2)⟩ /\
    fB key (d+1) A pg (((B.az ca (bg (B.c ca) x')).give cb).az pg (bg (((B.az ca (bg (B.c ca) x')).give cb).c pg) ⟨false,ai.take m++ai.drop (m+1),[],ah.take (m+1)++ah.drop (m+2)⟩)) was (DK ⟨false,ai.take m++ai.drop (m+1),[],ah.take (m+1)++ah.drop (m+2)⟩)) /\
   (ah.length=2->((B.az ca (bg (B.c ca) x')).give cb).Has ca/\aH ((B.az ca (bg (B.c ca) x')).give cb) ca=some x'/\ah.take (m+1)++ah.drop (m+2)=[ca] /\
    fB key (d+1) A pg ((((B.az ca (bg (B.c ca) x')).give cb).az pg (bg (((B.az ca (bg (B.c ca) x')).give cb).c pg) x')).give ca) was true)):=by
 have hf0:=(mE hy).inner rfl;dsimp only at hf0;obtain⟨z1,z2,z3,_,z5⟩:=hf0;have hm1:=(dn.1 ok.k).1;have f1:=ok.f1;rw[hev]at f1;have hB1:∀q,(B.az ca (bg (B.c ca) x')).Has q↔B.Has q:=λ q=>AP.bu;have hgv:=((ok.good.az ca (bg (B.c ca) x')).give ((hB1 cb).2 ok.hb)).2.1;refine⟨λ h1=>?_,λ h1=>⟨(hgv pg).2 ⟨(hB1 pg).2 ok.hp,ok.pb⟩,λ h2=>?_,λ h2=>?_⟩⟩
 ·subst h1;refine⟨AP.bu.2 ((hB1 pg).2 ok.hp),⟨(λ h=>by cases h),λ _=>⟨by rw[bB];exact z1,z2,z3,rfl,z5⟩⟩,?_⟩;exact .even hy hki hc hps hm ok.ka ok.kb ok.k ok.na ok.nb hev rfl
 ·subst h1;have e1:(ah.take (m+1)++ah.drop (m+2)).length=ah.length-1:=by rw[zl,zt,zd];omega
  have e2:(ai.take m++ai.drop (m+1)).length=ai.length-1:=by rw[zl,zt,zd];omega
  refine⟨⟨(λ h=>by cases h),λ _=>⟨by dsimp only;omega,by dsimp only;omega,by dsimp only;omega,rfl,λ q hq=>?_⟩⟩,?_⟩
  ·rcases cB.1 hq with h|h
   ·exact z5 q (fI h)
   exact z5 q (fA h)
  have:=fB.join hy hki hc hps hm ok.ka ok.kb ok.k ok.na ok.nb hev rfl h2;rw[<-e1]at this;exact this
 subst h1;have hm0:m=0:=by omega
 subst hm0;refine⟨(hgv ca).2 ⟨(hB1 ca).2 ok.ha,ok.ne⟩,?_,?_,fB.lift hy hki hc hps hm ok.ka ok.kb ok.k ok.na ok.nb hev rfl h2⟩
 ·rw[PN,Cv (ok.fq _ ok.ha) f1,if_pos rfl]
 have:=ok.ka
 match ah,h2,this with
 | [p,q],_,h=>simpa using h
end
end
section
variable{E:Nat->Prop}{W W':World}{P D T k pg:Nat}{A:AP}
theorem xr9{rt:Nat}{ks vs:List UInt64}(h:bL E W P D T rt A k)(hk:k+5<900000000)(hp:A.Has pg)(hy:aH A pg=some ⟨true,ks,vs,[]⟩)(hs:jV ks)(hl:ks.length<=30)(key:UInt64)(hin:key∈ks)(deep:Nat)(hd:deep<=20) :
  Calls Tryz.prog 105 #[.pointer T,.int .i64 pg,.int .u64 key.toNat,.int .i64 deep] W λ e w'=>FE E W w' P D T rt A (k+5) pg 0 key e:=by
 have hL:=ZH hp hy hs;refine(xvn h hk hL hl key hin deep hd).mono ?_;rintro e w' ⟨i,rfl,hi,hst,ht,kp⟩;have hf:=hst.found hs hin;refine⟨_,true,_,k+5,rfl,.leaf hy hf,?_,aZ _,kp⟩;have e1:bg (A.c pg) ⟨true,ks.take i++ks.drop (i+1),vs.take i++vs.drop (i+1),[]⟩=kQ (A.c pg) (ks.take i++ks.drop (i+1)) (vs.take i++vs.drop (i+1)):=by unfold bg;rw[if_pos rfl]
 rw[e1];exact ht
theorem xvw{rt:Nat}{ks vs:List UInt64}(h:bL E W P D T rt A k)(hk:k+5<900000000)(hp:A.Has pg)(hy:aH A pg=some ⟨true,ks,vs,[]⟩)(hs:jV ks)(hl:ks.length<=30)(key:UInt64)(hno:key∉ks)(deep:Nat)(hd:deep<=20) :
  Calls Tryz.prog 105 #[.pointer T,.int .i64 pg,.int .u64 key.toNat,.int .i64 deep] W λ e w'=>FE E W w' P D T rt A (k+5) pg 0 key e:=by
 have HL:=zH (BU h.pz (by omega) h.box hp hy);have HH:=zH (zA h hy);have hdn:¬(20:Int)<(deep:Int):=by omega
 clear h hp hy
 go_enter Tryz.func105,Tryz.ntmps105
 go_wp2_with fail
 refine HL.out.mono ?_;rintro e w1 ⟨N,M,nb,ka,va,aa,kc,vc,ac,rfl,hN,hM,⟨bi,gV,fT⟩,p1,k1⟩;have b0:=bi.box.c0;have b1:=bi.box.c1;have hS:=J3 (bi.k.win (S:=λ _=>True) (λ _ _=>trivial)) hs (show ks.length<=1000 by omega) key;rw[cz,decide_eq_false hno]at hS;have HS:=zH hS;have H1:=zH (zA p1 k1);clear HL bi gV fT p1 k1 hS hN hM
 go_wp2_with fail
 refine HS.out.mono ?_;rintro e w2 ⟨i,rfl,hst,rfl⟩;clear hst HS;go_wp2
 go_ret3
 obtain⟨h,hy⟩:=HH.out;obtain⟨p1,k1⟩:=H1.out;exact⟨A,false,false,k+2,rfl,.none hy hno,⟨p1.less (λ _ hj=>.inl hj),h.box.af (k1.block T h.mem),h.mem⟩,by omega,k1⟩
theorem xsa{rt d K0 i c:Nat}{ai:List UInt64}{ah:List Nat}(h:bL E W P D T rt A k)(hk:k+K0+60<900000000)(hp:A.Has pg)(hy:aH A pg=some ⟨false,ai,[],ah⟩)(hs:jV ai)(hl:ai.length<=100)(hl1:1<=ai.length)(hlk:ah.length=ai.length+1)(key:UInt64)(deep:Nat)(hd:deep<=20)
  (hki:dU ai key i) (hc:ah[i]?=some c)
  (hrec:∀(E1:Nat->Prop) (w1:World),bL E1 w1 P D T rt A (k+2)->Calls Tryz.prog 105 #[.pointer T,.int .i64 c,.int .u64 key.toNat,.int .i64 ((deep:Int)+1)] w1 λ e w'=>FE E1 w1 w' P D T rt A (k+2+K0) c d key e)
  (hok:∀(B:AP) (was:Bool),fB key d A c B was true->∃ca cb κ xa xb,qO B pg ai ah (yP ah.length i) ca cb κ xa xb) :
  Calls Tryz.prog 105 #[.pointer T,.int .i64 pg,.int .u64 key.toNat,.int .i64 deep] W λ e w'=>FE E W w' P D T rt A (k+K0+60) pg (d+1) key e:=by
 have HL:=zH (BU h.pz (by omega) h.box hp hy);have HH:=zH (zA h (zA hp (zA hy hlk)));have HO:=zH hok;have HR:=zH hrec;have hic:i<ah.length:=(dn.1 hc).1;have hii:(i:Int)<(ah.length:Int):=Int.ofNat_lt.2 hic;have hdw:IntKind.i64.wrap ((deep:Int)+1)=(deep:Int)+1:=by rw[bN];omega
 have MN:wrap64 ((deep:Int)+1)=(deep:Int)+1:=by unfold wrap64;omega
 have hdn:¬(20:Int)<(deep:Int):=by omega
 clear h hp hy hlk hok hrec
 go_enter Tryz.func105,Tryz.ntmps105
 go_wp2_with fail
 refine HL.out.mono ?_;rintro e w1 ⟨N,M,nb,ka,va,aa,kc,vc,ac,rfl,hN,hM,⟨bi,gV,fT⟩,p1,k1⟩;obtain⟨h,hp,hy,hlk⟩:=HH.out;have hnr:jN (λ _=>True) w1 nb ⟨false,ai,[],ah⟩:=bi.wins.1.reads (λ _ _=>trivial) trivial;have HK:=zH (UR hnr hs (show ai.length<=1000 by omega) key);have b0:=bi.box.c0;have b3:=bi.box.c3
 obtain⟨ga,rfl,ra⟩:∃ga,aa=some ⟨ga,0,none⟩/\Row w1 ga ac (ints ah):=by
  rcases bi.a with⟨_,h2,_⟩|⟨g,h1,h2⟩
  ·have:=congrArg List.length h2;rw[dx]at this;exact absurd this (by show ah.length≠0;omega)
  exact⟨g,h1,h2⟩
 have hcc:w1.cell? (ga,i)=some (.int .i64 (c:Int)):=ra.at' i _ (by unfold ints;rw[dW,hc];rfl);have H1:=zH (zA hN (zA hM (zA bi (zA gV (zA fT (zA p1 k1))))));have HT:=zH (HR.out _ w1 ⟨p1,h.box.af (k1.block T h.mem),.inl h.mem⟩);clear HL bi gV fT p1 k1 hN hM h hp hy hlk hnr HR ra
 go_wp2_with fail
 refine HK.out.mono ?_;rintro e w2 ⟨i2,rfl,wF,rfl⟩;obtain rfl:i=i2:=(wF.inj hki).symm
 go_wp2_with fail
 refine HT.out.mono ?_;rintro e w3 ⟨B,was,iw,kk,rfl,hps,ht3,hkk,k3⟩;obtain⟨hN,hM,bi,gV,fT,p1,k1⟩:=H1.out;obtain⟨h,hp,hy,hlk⟩:=HH.out;have kE:Kept E W w3:=k1.trans (k3.mono (λ _ hj=>.inl hj))
 cases iw with
 | false=>
  have hG:FE E W w3 P D T rt A (k+K0+60) pg (d+1) key (.returned (.tuple #[.bool was,.bool false,.int .i64 0])):=
   ⟨B,was,false,kk,rfl,.MV hy hki hc hps,⟨ht3.pz.less (λ _ hj=>.inl hj),ht3.box,h.mem⟩,by omega,kE⟩
  have HG:=zH hG;clear H1 HH HO hN hM bi gV fT p1 k1 h hp hy hlk kE hG ht3 k3 hps hkk HT HK hki wF hs hl hl1 hc hcc b0 b3 hic hii;go_wp2
  go_ret3
  exact HG.out
 | true=>
  obtain⟨ca,cb,κ,xa,xb,ok⟩:=HO.out B was hps;have oH:bz N w3 nb ⟨false,ai,[],ah⟩ ka va ga kc vc ac:=bi.move gV fT k3.size (λ g h1 h2=>k3.block g (.inr ⟨h1,h2⟩))
  have hR:∀j,rO ka va ga nb j->N<=j/\j<M:=λ j hj=>by
   rcases hj with hj|hj|hj|rfl
   ·exact⟨(bi.new j (.inl hj)).1,fT j (.inl hj)⟩
   ·exact⟨(bi.new j (.inr (.inl hj))).1,fT j (.inr (.inl hj))⟩
   ·exact⟨(bi.new j (.inr (.inr hj))).1,fT j (.inr (.inr hj))⟩
   exact⟨bi.ge,gV⟩
  have vK:∀j,E j->j<N:=λ j hj=>bS (h.pz.there j hj) hN;obtain⟨⟨x',y',eG,one⟩,hev⟩:∃x,iB xa xb κ=x:=⟨_,rfl⟩;obtain⟨m,hm⟩:∃m,m=yP ah.length i:=⟨_,rfl⟩;rw[<-hm]at ok;have xP:=xyk (E:=λ j=>E j\/N<=j/\j<M) (k:=kk) (i:=i) (m:=m) ht3.pz (by omega) ht3.box (.inl h.mem) oH (λ g hg=>.inr (hR g hg)) (λ hT=>by have:=(hR _ hT).1;have:=vK T h.mem;omega) (λ hT=>by have:=(hR _ hT).1;have:=h.pz.tab.lt;omega) ok rfl hlk hl1 hl (by omega) (by rw[<-hlk];exact hm);rw[hev]at xP;dsimp only at xP;have FH:=xvv (d:=d) (was:=was) hy hki hc hps hm ok hev;have PT:=zH xP;have hlf:Fits x':=by have:=ok.f1;rw[hev]at this;exact this
  have vC:=zH (λ (w4:World) (C:AP) (x:Nd) hM wQ hx hD=>xvt (nb:=nb) (pg:=pg) (w3:=w3) (w4:=w4) (N:=N) (M:=M) (d:=d) (K0:=K0) (kk:=kk) (key:=key) (was:=was) (R:=rO ka va ga nb) (C:=C) (x:=x) h hk hN hR kE hkk hM wQ hx hD);have xQ:=zH (λ (w4:World) (C:AP) (x y:Nd) hM wQ hcC hy hD=>xvu (nb:=nb) (pg:=pg) (w3:=w3) (w4:=w4) (N:=N) (M:=M) (d:=d) (K0:=K0) (kk:=kk) (key:=key) (was:=was) (R:=rO ka va ga nb) (C:=C) (x:=x) (y:=y) (ca:=ca) h hk hN hR kE hkk hM wQ hcC hy hD);have HW:=zH FH;have h2k:2<=ah.length:=by omega
  have hmk:m+1<ah.length:=by have:=(dn.1 ok.kb).1;exact this
  have JD:=zH (zA h2k hmk);clear H1 HH HO hN hM bi gV fT p1 k1 h hp hy hlk kE ht3 k3 hps hkk HT HK hki wF hs hl hl1 hc hcc b0 b3 hic hii xP FH oH hR vK hev ok hm hlf hk h2k hmk hdw MN hdn hd
  go_wp2_with fail
  refine PT.out.mono ?_;rintro e w4 ⟨rfl,hfl,htr⟩
  cases one with
  | false=>
   have hM:=hfl rfl;obtain⟨wQ,hx,hD⟩:=HW.out.1 rfl;obtain⟨hP,hS⟩:=vC.out w4 _ _ hM wQ hx hD;obtain⟨L,H,k4,_,_,_,hr,_,_⟩:=hM;obtain⟨ao,cp,ck,_,_⟩:=hr.wP;dsimp only at ck;have hk1:((ah.length:Int)==1)=false:=beq_eq_false_iff_ne.2 (by have:=JD.out.1;omega);have HP:=zH hP;have HS:=zH hS;clear hP hS wQ hx hD hfl htr hr vC xQ HW PT JD
   go_wp2_with fail
   refine HP.out.mono ?_;rintro e w5 ⟨rfl,rfl⟩
   go_wp2_with fail
   refine HS.out.mono ?_;rintro e w6 ⟨rfl,hG⟩;have HG:=zH hG;clear hG HS HP ck hk1;go_wp2
   go_ret3
   exact HG.out
  | true=>
   have hM:=htr rfl;obtain⟨wQ,hne,heq⟩:=HW.out.2 rfl;by_cases h2:ah.length=2
   ·obtain⟨hcC,hyC,hka,hD⟩:=heq h2;have hLi:=xQ.out w4 _ _ _ hM wQ hcC hyC hD;obtain⟨L,H,k4,_,_,_,hr,_,_⟩:=hM;rw[hka]at hr;obtain⟨ao,cp,ck,_,hat⟩:=hr.wP;obtain⟨g,o,rfl,c0⟩:=hat 0 ca rfl;rw[iP]at c0;replace ck:w4.cell? (nb,3)=some (.slice (g,o) 1 cp):=ck;have HLi:=zH hLi;clear hLi hcC hyC hka hD wQ hne heq hfl htr hr hat vC xQ HW PT JD h2
    go_wp2_with fail
    refine HLi.out.mono ?_;rintro e w6 ⟨rfl,hG⟩;have HG:=zH hG;clear hG HLi ck c0;go_wp2
    go_ret3
    exact HG.out
   obtain⟨hx,hD⟩:=hne h2;obtain⟨hP,hS⟩:=vC.out w4 _ _ hM wQ hx hD;obtain⟨L,H,k4,_,_,_,hr,_,_⟩:=hM;obtain⟨ao,cp,ck,_,_⟩:=hr.wP;dsimp only at ck;have hkl:(ah.take (m+1)++ah.drop (m+2)).length≠1:=by rw[zl,zt,zd];have:=JD.out.1;have:=JD.out.2;omega
   generalize (ah.take (m+1)++ah.drop (m+2)).length=kl at ck hkl;have hk1:((kl:Int)==1)=false:=beq_eq_false_iff_ne.2 (by omega);have HP:=zH hP;have HS:=zH hS;clear hP hS wQ hx hD hfl htr hr vC xQ HW PT JD hne heq h2 hkl
   go_wp2_with fail
   refine HP.out.mono ?_;rintro e w5 ⟨rfl,rfl⟩
   go_wp2_with fail
   refine HS.out.mono ?_;rintro e w6 ⟨rfl,hG⟩;have HG:=zH hG;clear hG HS HP ck hk1;go_wp2
   go_ret3
   exact HG.out
end
theorem XY{P D T rt:Nat}(key:UInt64):∀(d:Nat) {E:Nat->Prop} {W:World} {A:AP} {k:Nat} (s:Sb) (deep:Nat),bL E W P D T rt A k->k+60*d+60<900000000->Tr (aH A) d s->s.ps.Nodup->(∀p∈s.ps,A.Has p)->A.Good->(∀p,A.Has p->(A.c p).length=504)->deep+d<=20 ->
  Calls Tryz.prog 105 #[.pointer T,.int .i64 s.pg,.int .u64 key.toNat,.int .i64 deep] W λ e w'=>FE E W w' P D T rt A (k+60*d+60) s.pg d key e
 | 0,E,W,A,k,s,deep,h,hk,hT,hnd,hh,hg,hc,hd=>by
  obtain⟨ks,vs,h1,h2,h3,h4,h5⟩:=hT;have hp:=hh s.pg (by rw[h5];simp);have hl:=(mE h1).leaf rfl;by_cases hm:key∈ks
  ·exact(xr9 h (by omega) hp h1 h3 hl.1 key hm deep (by omega)).mono (λ e w' ⟨B,was,iw,kk,he,hs,ht,hkk,hkp⟩=>⟨B,was,iw,kk,he,hs,ht,by omega,hkp⟩)
  exact(xvw h (by omega) hp h1 h3 hl.1 key hm deep (by omega)).mono (λ e w' ⟨B,was,iw,kk,he,hs,ht,hkk,hkp⟩=>⟨B,was,iw,kk,he,hs,ht,by omega,hkp⟩)
 | d+1,E,W,A,k,s,deep,h,hk,hT,hnd,hh,hg,hc,hd=>by
  have hT':=id hT;obtain⟨ai,ae,h1,h2,h3,h4⟩:=hT;have hf:=(mE h1).inner rfl;dsimp only at hf;obtain⟨i,hki⟩:=Pv ai h2.up key;have aJ:=h2.len;have hle:=hki.le;obtain⟨t,ht⟩:∃t,ae[i]?=some t:=⟨_,di (by omega)⟩;have hcc:(ae.map Sb.pg)[i]?=some t.pg:=by rw[dW,ht];rfl
  obtain⟨gz,t',hK,hpt,hmap,ng,qb⟩:=hT'.kid h1 hcc;have e:k+60*(d+1)+60=k+(60*d+60)+60:=by omega
  rw[e];refine xsa (K0:=60*d+60) h (by omega) (hh _ hT'.mem) h1 h2.up (by omega) (by omega) hf.1 key deep (by omega) hki hcc (λ E1 w1 g1=>?_) (λ B was hps=>xvr hT' hnd hh hg hc h1 hki hcc hps);have hrec:=XY key d (E:=E1) (W:=w1) t' (deep+1) g1 (by omega) ng (hK.tn hnd) (λ p hp=>hh p (hK.sub p hp)) hg hc (by omega);rw[hpt]at hrec;rw[show k+2+(60*d+60)=k+2+60*d+60 by omega];exact hrec
structure ou(A B:AP)(rt:Nat)(l:List KV)(ps:List Nat):Prop where
 ex:∃gone ps',dP A B ps gone/\TI B rt l ps'/\(∀p,p∈ps'↔p∈ps/\p∉gone)/\(∀p∈gone,p∈ps)/\gone.Nodup
theorem xym{k:UInt64}{d:Nat}{A B:AP}{was iw:Bool}{s:Sb}(h:fB k d A s.pg B was iw)(hT:Tr (aH A) d s)(hnd:s.ps.Nodup)(hh:∀p∈s.ps,A.Has p)(hg:A.Good)(hc:∀p,A.Has p->(A.c p).length=504) :
  ou A B s.pg (kC s.l k) s.ps/\(was=true↔∃x∈s.l,x.1=k):=by
 obtain⟨gone,hO⟩:=xvq h s hT rfl hnd hh hg hc;obtain⟨d',t,h1,h2,h3,h4,h5,_⟩:=hO.tree;refine⟨⟨gone,t.ps,hO.gG,⟨⟨d',t,h1,h2,h3,rfl⟩,h4,λ p hp=>?_⟩,h5,λ p hp=>(hO.sub p hp).1,hO.eY⟩,hO.was⟩;obtain⟨a,b⟩:=(h5 p).1 hp;exact(hO.gG.has p).2 ⟨hh p a,b⟩
section
variable{E:Nat->Prop}{W:World}{P D T k rt:Nat}{A:AP}{l:List KV}{ps:List Nat}
def yo(l:List KV)(k:UInt64):Bool:=l.any λ x=>x.1==k
theorem xyn{l:List KV}{k:UInt64}:yo l k=true↔∃x∈l,x.1=k:=by simp[yo]
def yb6(E:Nat->Prop)(W w':World)(P D T rt:Nat)(A:AP)(K:Nat)(l:List KV)(ps:List Nat)(e:Ending):Prop:=
 ∃(B:AP) (er:Int) (kk:Nat),e= .returned (.int .i64 er)/\((er=0/\nE A B rt l ps)\/(er=6/\A.Reach B/\A.ay<=20))/\bL E w' P D T rt B kk/\kk<=K/\Kept E W w'
theorem xyo{w1 w2 w3:World}{N M more kk:Nat}{B:AP}{κ:UInt64}{s0:List UInt8}(lu:bL E w1 P D T rt B kk)(hkp:Kept E W w1)(k2:Kept E w1 w2)(p3:PZ (λ j=>E j\/N<=j/\j<M) w3 P D (B.take.az B.next s0) (kk+2+3))(k3:Kept (λ j=>E j\/N<=j/\j<M) w2 w3)(hg:B.Good)(hF:¬B.Full)(hrt:B.Has rt)(hmo:more<4294967296)(hk:kk+8<900000000) :
  w3.cell? (T,1)=some (.int .i64 rt)/\Calls Tryz.prog 97 #[.pointer T,.int .i64 rt,.pointer (some ⟨w3.heap.size+1+1,0,none⟩)] (((w3.alloc (.cells #[.int .u64 (κ.toNat:Int)] 32)).alloc (.cells #[.int .i64 B.next,.int .i64 more] 3)).alloc (.cells #[.bool false,.slice w3 1 1,.slice none 0 0,.slice (some ⟨w3.heap.size+1,0,none⟩) 2 2] 131)) λ e w'=>e= .returned (.int .i64 0)/\bL E w' P D T rt ((B.take.az B.next s0).az rt (bg ((B.take.az B.next s0).c rt) ⟨false,[κ],[],[B.next,more]⟩)) (kk+2+3+3)/\Kept E W w':=by
 have hE:=lu.pz.there;have hs2:=k2.size;have hs3:=k3.size;have k13:Kept E w1 w3:=k2.trans (k3.mono (λ _ hj=>.inl hj));have hb3:=lu.box.af (k13.block T lu.mem);refine⟨hb3.cell 1 _ rfl,?_⟩;have b1:=aI.new w3 #[.int .u64 (κ.toNat:Int)] 32;have z1:(w3.alloc (.cells #[.int .u64 (κ.toNat:Int)] 32)).heap.size=w3.heap.size+1:=by simp
 have l1:Below w3 w3 (w3.alloc (.cells #[.int .u64 (κ.toNat:Int)] 32)):=(aP _ _).alloc (aZ _) _;generalize w3.alloc (.cells #[.int .u64 (κ.toNat:Int)] 32)=w4 at b1 z1 l1 ⊢;have b2:=aI.new w4 #[.int .i64 B.next,.int .i64 more] 3;have z2:(w4.alloc (.cells #[.int .i64 B.next,.int .i64 more] 3)).heap.size=w4.heap.size+1:=by simp
 have l2:Below w4 w4 (w4.alloc (.cells #[.int .i64 B.next,.int .i64 more] 3)):=(aP _ _).alloc (aZ _) _;generalize w4.alloc (.cells #[.int .i64 B.next,.int .i64 more] 3)=w5 at b2 z2 l2 ⊢;have b3:=aI.new w5 #[.bool false,.slice w3 1 1,.slice none 0 0,.slice (some ⟨w3.heap.size+1,0,none⟩) 2 2] 131;have z3:(w5.alloc (.cells #[.bool false,.slice w3 1 1,.slice none 0 0,.slice (some ⟨w3.heap.size+1,0,none⟩) 2 2] 131)).heap.size=w5.heap.size+1:=by simp
 have l3:Below w5 w5 (w5.alloc (.cells #[.bool false,.slice w3 1 1,.slice none 0 0,.slice (some ⟨w3.heap.size+1,0,none⟩) 2 2] 131)):=(aP _ _).alloc (aZ _) _;generalize w5.alloc (.cells #[.bool false,.slice w3 1 1,.slice none 0 0,.slice (some ⟨w3.heap.size+1,0,none⟩) 2 2] 131)=w6 at b3 z3 l3 ⊢;have b1':=(b1.next l2).next l3;have b2':=b2.next l3;have l13:Below w3 w3 w6:=(l1.trans (l2.mono (by omega))).trans (l3.mono (by omega));rw[z1]at b2';rw[show w5.heap.size=w3.heap.size+1+1 by omega]at b3
 have p6:PZ (λ j=>E j\/(w3.heap.size<=j/\j<w6.heap.size)) w6 P D (B.take.az B.next s0) (kk+2+3):=p3.wide l13 (λ j hj=>by
  rcases hj with h|h
  ·exact .inl (.inl h)
  exact .inr h)
 have hr:jN (λ j=>E j\/(w3.heap.size<=j/\j<w6.heap.size)) w6 (w3.heap.size+1+1) ⟨false,[κ],[],[B.next,more]⟩:=by
  refine⟨_,_,_,b3,.inr ⟨by omega,by omega⟩,⟨_,1,rfl,aZ _,λ j u hj=>⟨w3.heap.size,0,rfl,.inr ⟨by omega,by omega⟩,?_⟩⟩,⟨none,0,rfl,aZ _,λ j u hj=>(by cases hj)⟩,⟨_,2,rfl,aZ _,λ j u hj=>⟨w3.heap.size+1,0,rfl,.inr ⟨by omega,by omega⟩,?_⟩⟩⟩
  ·match j,hj with
   | 0,h=>exact(b1'.cell 0 _ rfl).trans h
   | j+1,h=>cases h
  match j,hj with
  | 0,h=>exact(b2'.cell 0 _ rfl).trans h
  | 1,h=>exact(b2'.cell 1 _ rfl).trans h
  | j+2,h=>cases h
 have hnx:=hg.next hF
 have hfit:Fits ⟨false,[κ],[],[B.next,more]⟩:=⟨(λ h=>by cases h),λ _=>⟨rfl,by simp,by simp,rfl,λ q hq=>by
  rcases aX.1 hq with rfl|hq
  ·omega
  rw[bQ.1 hq];exact hmo⟩⟩
 have k36:Kept E w3 w6:=Kept.of_below l13 (λ j hj=>by have:=hE j hj;omega);have hb6:=hb3.af (k36.block T lu.mem);have VE:(B.take.az B.next s0).Has rt:=AP.bu.2 (((hg.take hF).2.1 rt).2 (.inl hrt));refine(DJ p6 (by omega) hb6 VE hr hfit).mono ?_;rintro e w7 ⟨rfl,p7,k7⟩;exact⟨rfl,⟨p7.less (λ _ hj=>.inl hj),hb6.af (k7.block T (.inl lu.mem)),lu.mem⟩,((hkp.trans k13).trans k36).trans (k7.mono (λ _ hj=>.inl hj))⟩
end
structure bZ(A:AP)(rt aC:Nat)(P:List Nat)(m:List KV)(qs:List Nat):Prop where
 eY:(P++qs).Nodup
 has:∀p,A.Has p↔p∈P++qs
 tree:TI A aC m qs
 good:A.Good
 len:∀p,A.Has p->(A.c p).length=504
 aC:n32 (A.c rt) 496=aC
 yX:rt∈P
structure df(V:List LV)(m:List KV):Prop where
 pl:∀x∈V,∀i∈x.2,(i,UInt64.ofNat x.1)∈m
 ky:∀y∈m,y.1∈bP V
 uq:(bP V).Nodup
theorem xtz{A B:AP}{p:Nat}(h:B.c p=A.c p):aH B p=aH A p:=by unfold aH;rw[h]
theorem yj{A B:AP}{p:Nat}(h:B.c p=A.c p):aU B p=aU A p:=by unfold aU;rw[h]
theorem TI.same{A B:AP}{rt:Nat}{l:List KV}{ps:List Nat}(h:TI A rt l ps)(hc:∀p∈ps,B.c p=A.c p)(hh:∀p∈ps,B.Has p):TI B rt l ps:=by
 obtain⟨⟨d,s,h1,h2,h3,h4⟩,h5,h6⟩:=h;exact⟨⟨d,s,Tr.same d s h1 (λ p hp=>xtz (hc p (h4▸hp))),h2,h3,h4⟩,h5,hh⟩
section
variable{A B C:AP}{rt aC p n:Nat}{P P' qs:List Nat}{m:List KV}
theorem bZ.perm(h:bZ A rt aC P m qs)(hp:P.Perm P'):bZ A rt aC P' m qs:=
 ⟨(hp.append_right qs).nodup_iff.1 h.eY,λ p=>by rw[h.has,(hp.append_right qs).mem_iff],h.tree,h.good,h.len,h.aC,hp.mem_iff.1 h.yX⟩
theorem bZ.dO(h:bZ A rt aC P m qs)(hp:p∈P):A.Has p:=(h.has p).2 (bR _ hp)
theorem bZ.far(h:bZ A rt aC P m qs)(hp:p∈P):p∉qs:=λ hq=>by
 have:=bF.1 h.eY;exact this.2.2 p hp p hq rfl
theorem bZ.rD(h:bZ A rt aC P m qs):P.Nodup:=(bF.1 h.eY).1
theorem bZ.az(h:bZ A rt aC P m qs)(hp:p∈P){s:List UInt8}(hs:s.length=504)(hr:p=rt->n32 s 496=n32 (A.c rt) 496):bZ (A.az p s) rt aC P m qs/\A.Reach (A.az p s)/\(A.az p s).ay=A.ay/\∀q,q≠p->(A.az p s).c q=A.c q:=by
 have hA:=h.dO hp;have hc:=mD.az hA h.len hs;have hne:∀q,q≠p->(A.az p s).c q=A.c q:=λ q hq=>by rw[AP.bG,if_neg (λ e=>hq e.symm)]
 refine⟨⟨h.eY,λ q=>by rw[AP.bu,h.has],h.tree.same (λ q hq=>hne q (λ e=>h.far hp (e▸hq))) (λ q hq=>AP.bu.2 (h.tree.has q hq)),hc.good h.good,hc.fq,?_,h.yX⟩,hc.reach,by rw[AP.ji],hne⟩;by_cases he:p=rt
 ·rw[AP.bG,if_pos he,hr he,h.aC]
 rw[hne rt (λ e=>he e.symm),h.aC]
theorem bZ.take(h:bZ A rt aC P m qs)(hf:¬A.Full){s:List UInt8}(hs:s.length=504):bZ (A.take.az A.next s) rt aC (A.next::P) m qs/\A.Reach (A.take.az A.next s)/\(A.take.az A.next s).ay+1=A.ay/\(∀q,A.Has q->(A.take.az A.next s).c q=A.c q)/\(A.take.az A.next s).c A.next=s/\A.next∉P++qs:=by
 have hc:=mD.take h.good hf h.len hs;have hn:A.next∉P++qs:=λ hq=>hc.fresh A.next (by simp) ((h.has _).2 hq);have hsame:∀q,A.Has q->(A.take.az A.next s).c q=A.c q:=λ q hq=>hc.same q hq (by simp);refine⟨⟨?_,λ q=>?_,h.tree.same (λ q hq=>hsame q (h.tree.has q hq)) (λ q hq=>(hc.has q).2 (.inl (h.tree.has q hq))),hc.good h.good,hc.fq,?_,eu _ h.yX⟩,hc.reach,?_,hsame,?_,hn⟩
 ·rw[jA,dL];exact⟨hn,h.eY⟩
 ·rw[hc.has,h.has,bQ,jA,aX];exact or_comm
 ·rw[hsame rt (h.dO h.yX),h.aC]
 ·have:=hc.ay
  simpa using this
 rw[AP.bG,if_pos rfl]
theorem bZ.give(h:bZ A rt aC (p::P) m qs)(hp:p≠rt):bZ (A.give p) rt aC P m qs/\A.Reach (A.give p)/\A.ay<=(A.give p).ay/\(∀q,(A.give p).c q=A.c q):=by
 have hA:=h.dO (gZ ..);have hc:=dP.give h.good hA h.len;have hn:=h.eY;rw[jA,dL]at hn;have hcc:∀q,(A.give p).c q=A.c q:=λ q=>congrFun (AP.mr p) q
 have hh:∀q,(A.give p).Has q↔q∈P++qs:=λ q=>by
  rw[hc.has,h.has,bQ,jA,aX]
  constructor
  ·rintro⟨h1|h1,h2⟩
   ·exact absurd h1 h2
   exact h1
  intro h1;exact⟨.inr h1,λ e=>hn.1 (e▸h1)⟩
 refine⟨⟨hn.2,hh,h.tree.same (λ q _=>hcc q) (λ q hq=>(hh q).2 (fE _ hq)),hc.good h.good,hc.fq,by rw[hcc,h.aC],?_⟩,hc.reach,hc.ay.1,hcc⟩;rcases aX.1 h.yX with h1|h1
 ·exact absurd h1.symm hp
 exact h1
theorem bZ.put(h:bZ A rt aC P m qs){i v:UInt64}(hp:nE A B aC (fZ m i v) qs):∃bK,bZ B rt aC P (fZ m i v) bK/\A.Reach B/\(∀p∈P,B.c p=A.c p)/\B.ay+bK.length=A.ay+qs.length:=by
 obtain⟨new,bK,hc,ht,hm,_⟩:=hp.ex;have hsame:∀p∈P,B.c p=A.c p:=λ p hq=>hc.same p (h.dO hq) (h.far hq);have hnq:∀q∈bK,q∈qs\/q∈new:=λ q hq=>(hm q).1 hq;have bi:=bF.1 h.eY;refine⟨bK,⟨?_,λ q=>?_,ht,hc.good h.good,hc.fq,by rw[hsame rt h.yX,h.aC],h.yX⟩,hc.reach,hsame,?_⟩
 ·rw[bF];refine⟨bi.1,ht.eY,λ a ha b hb e=>?_⟩;subst e;rcases hnq a hb with hb|hb
  ·exact bi.2.2 a ha a hb rfl
  exact hc.fresh a hb (h.dO ha)
 ·rw[hc.has,h.has,cB,cB,hm,or_assoc]
 have hl:bK.length=qs.length+new.length:=by
  have hp:bK.Perm (qs++new):=(List.perm_ext_iff_of_nodup ht.eY (bF.2 ⟨bi.2.1,hc.eY,λ a ha b hb e=>by subst e;exact hc.fresh a hb (h.tree.has a ha)⟩)).2 (λ q=>by rw[hm,cB]);rw[hp.length_eq,zl]
 have:=hc.ay;omega
theorem bZ.drop(h:bZ A rt aC P m qs){m':List KV}(hp:ou A B aC m' qs):∃bK,bZ B rt aC P m' bK/\A.Reach B/\(∀p∈P,B.c p=A.c p)/\A.ay<=B.ay:=by
 obtain⟨gone,bK,hc,ht,hm,hg,_⟩:=hp.ex;have hB:∀p∈P,B.Has p:=λ p hq=>(hc.has p).2 ⟨h.dO hq,λ hx=>h.far hq (hg p hx)⟩;have hsame:∀p∈P,B.c p=A.c p:=λ p hq=>hc.same p (hB p hq) (h.far hq);have bi:=bF.1 h.eY;refine⟨bK,⟨?_,λ q=>?_,ht,hc.good h.good,hc.fq,by rw[hsame rt h.yX,h.aC],h.yX⟩,hc.reach,hsame,hc.ay.1⟩
 ·rw[bF];exact⟨bi.1,ht.eY,λ a ha b hb e=>bi.2.2 a ha b ((hm b).1 hb).1 e⟩
 rw[hc.has,h.has,cB,cB,hm]
 constructor
 ·rintro⟨h1|h1,h2⟩
  ·exact .inl h1
  exact .inr ⟨h1,h2⟩
 rintro(h1|⟨h1,h2⟩)
 ·exact⟨.inl h1,λ hx=>h.far h1 (hg q hx)⟩
 exact⟨.inr h1,h2⟩
end
def gK(S:Nat->Prop)(W:World)(nb:Nat)(x:Sn):Prop:=∃iv kv cv,aI W nb #[.bool x.leaf,.int .i64 (x.up:Int),iv,kv,cv]/\S nb/\dY S W iv (aF x.aA)/\dY S W kv (ints x.ah)/\dY S W cv (ints x.au)
structure qp(x:Sn):Prop where
 aA:x.aA.length<=100
 ah:x.ah.length<=100
 au:x.au.length<=100
 small:∀k∈x.au,k<4294967296
 leaf:x.leaf=true->x.ah=[]/\x.au=[]
 inner:x.leaf=false->x.aA=[]
theorem bA.ok{x:Sn}(h:bA x):qp x:=by
 cases hl:x.leaf with
 | true=>
  obtain⟨a,b,c⟩:=h.leaf hl;exact⟨by omega,by rw[b];simp,by rw[c];simp,by rw[c];simp,λ _=>⟨b,c⟩,λ e=>by rw[hl]at e;cases e⟩
 | false=>
  obtain⟨a,b,c,d,e⟩:=h.inner hl;exact⟨by rw[c];simp,by omega,by omega,e,(λ h=>by rw[hl]at h;cases h),λ _=>c⟩
theorem xt0{l:List Nat}(h:∀k∈l,k<4294967296):l.sum<=4294967296*l.length:=by
 induction l with
 | nil=>simp
 | cons a r ih=>
  have h1:=h a (by simp);have h2:=ih (λ k hk=>h k (by simp[hk]));rw[List.sum_cons,dw,Nat.mul_add];omega
section
variable{S:Nat->Prop}{W:World}{nb:Nat}{x:Sn}
theorem EG(h:gK S W nb x) :
  Calls Tryz.prog 98 #[.pointer nb] W λ e w'=>e= .returned (.int .i64 (x.ax:Int))/\w'=W:=by
 obtain⟨iv,kv,cv,hb,_⟩:=h;have c0:=hb.c0;unfold Sn.ax;generalize x.leaf=lf at c0;clear hb
 go_enter Tryz.func98,Tryz.ntmps98
 cases lf with
 | true=>
  go_wp2;go_ret
  exact⟨rfl,rfl⟩
 | false=>
  go_wp2;go_ret
  exact⟨rfl,rfl⟩
theorem tX(h:gK S W nb x)(hk:qp x) :
  Calls Tryz.prog 90 #[.pointer nb] W λ e w'=>e= .returned (.int .i64 (x.size:Int))/\∃m,w'=W.drewN m:=by
 obtain⟨iv,kv,cv,hb,_,⟨ia,ic,rfl,_,_⟩,⟨ka,kc,rfl,_,_⟩,_⟩:=h;rw[cz,dx]at hb;have c2:∀m,(W.drewN m).cell? (nb,2)=some (.slice ia x.aA.length ic):=λ m=>hb.cell 2 _ rfl;have c3:∀m,(W.drewN m).cell? (nb,3)=some (.slice ka x.ah.length kc):=λ m=>hb.cell 3 _ rfl;have h1:=hk.aA;have h2:=hk.ah;unfold Sn.size;generalize x.aA.length=a at *;generalize x.ah.length=b at *;have e1:IntKind.i64.wrap ((a:Int)+(b:Int))=((a+b:Nat):Int):=by rw[bN];omega
 clear hb hk
 go_enter Tryz.func90,Tryz.ntmps90
 go_wp2_with fail
 go_quiet (fail)
 go_wp2;go_ret
 exact⟨by simp,_,rfl⟩
theorem RP(l:List Nat)(j k:Nat)(h:l[j]?=some k):(l.take (j+1)).sum=(l.take j).sum+k:=by
 rw[ow,h];simp
theorem yY(h:gK S W nb x)(hk:qp x) :
  Calls Tryz.prog 33 #[.pointer nb] W λ e w'=>e= .returned (.int .i64 (x.count:Int))/\w'=W:=by
 obtain⟨iv,kv,cv,hb,_,⟨ia,ic,rfl,_,_⟩,_,⟨ca,cc,rfl,hcc,hcl⟩⟩:=h;rw[cz,dx]at hb;have c0:=hb.c0;have c2:=hb.c2;have c4:=hb.c4;have hs:=xt0 hk.small;have h3:=hk.au
 have hst:∀j,(x.au.take j).sum<=x.au.sum:=λ j=>by
  conv=>rhs;rw[<-gm j x.au,List.sum_append]
  omega
 have HST:=zH hst;have HK:=zH hk;clear hb hst;unfold Sn.count;generalize x.leaf=lf at c0
 go_enter Tryz.func33,Tryz.ntmps33
 cases lf with
 | true=>
  go_wp2;go_ret
  exact⟨rfl,rfl⟩
 | false=>
  go_wp2_with fail
  go_loopw [20,3] (λ ix sx wr=>∃j:Nat,ix= .int .i64 j/\j<=x.au.length/\sx= .int .i64 (((x.au.take j).sum:Nat):Int)/\wr=W) (λ ix _ _=>101-(intOf ix).toNat)
  case atStart=>exact⟨0,rfl,bY _,by simp,rfl⟩
  obtain⟨j,rfl,hj,rfl,rfl⟩:=hrel;by_cases hlt:j<x.au.length
  ·obtain⟨k,hkj⟩:∃k,x.au[j]?=some k:=⟨_,di hlt⟩;obtain⟨g,o,rfl,_,ck⟩:=hcl j _ (qw _ _ _ hkj);have hsum:=RP _ _ _ hkj;have hle:=HST.out (j+1);have e1:IntKind.i64.wrap ((((x.au.take j).sum:Nat):Int)+(k:Int))=(((x.au.take (j+1)).sum:Nat):Int):=by rw[bN];omega
   have HS:=zH hsum;clear hcl hsum hle hkj hs;generalize (x.au.take j).sum=s0 at *;go_wp2;go_roundw
   case rel=>exact⟨j+1,by go_num,by omega,by first|rfl|(rw[e1])|simp[e1],by first|trivial|rfl⟩
   case measure=>simp[intOf];omega
  obtain rfl:j=x.au.length:=by omega
  rw[mi];go_wp2;go_ret;exact⟨by simp,rfl⟩
end
end Go.Proofs.YtlipgbnnbefhjaaGreatDoor
