/- Facts on rows of numbers on pages. -/
import Derived.Test.YtlipgbnnbefhjaaGreatDoorKSqKc
import Derived.Test.YtlipgbnnbefhjaaGreatDoorKSqMc
set_option maxRecDepth 100000
set_option maxHeartbeats 8000000
set_option linter.unusedSimpArgs false
namespace Go.Proofs.YtlipgbnnbefhjaaGreatDoor
open Go.RowKit
open UK (str aO nth Only Row aI)
section
variable{S:Nat->Prop}{W:World}
theorem O8{ao:Option Addr}{c k x:Nat}{l:List Nat}(h:dY S W (.slice ao l.length c) (ints l))(hl:l.length<=1000)(hk:l[k]?=some x)(hn:∀i y,i<k->l[i]?=some y->y≠x) :
  Calls Tryz.prog 37 #[.slice ao l.length c,.int .i64 (x:Int)] W λ e w'=>e= .returned (.int .i64 (k:Int))/\w'=W:=by
 have hkl:=(dn.1 hk).1;have HN:=zH hn;have HW:=zH h;clear hn h
 go_enter Tryz.func37,Tryz.ntmps37
 go_wp2_with fail
 go_loopw [8] (λ ix wr=>∃j:Nat,ix= .int .i64 j/\j<=k/\wr=W) (λ ix _=>1001-(intOf ix).toNat)
 case atStart=>exact⟨0,rfl,bY _,rfl⟩
 obtain⟨j,rfl,hj,rfl⟩:=hrel;obtain⟨y,hy⟩:∃y,l[j]?=some y:=⟨_,di (by omega)⟩;obtain⟨cZ,c',e,hc,hvv⟩:=HW.out;obtain⟨g,o,e2,hg,cx⟩:=hvv j _ (qw _ _ _ hy)
 injection e with e1 e3 e4
 subst e1;subst e2;have hjl:j<l.length:=by omega
 by_cases e:j=k
 ·subst e;rw[hk]at hy;obtain rfl:=bC hy;clear hc hvv e4 hk hg;go_wp2;go_ret;exact⟨rfl,rfl⟩
 have hne:=HN.out j y (by omega) hy;have hb:((x:Int)==(y:Int))=false:=beq_eq_false_iff_ne.2 (λ h=>hne (by omega));clear hc hvv e4 hk hy hg hne;go_wp2;go_roundw
 case rel=>exact⟨j+1,by go_num,by omega,trivial⟩
 case measure=>simp[intOf];omega
theorem xt4{ao:Option Addr}{c k:Nat}{x:UInt64}{l:List UInt64}(h:dY S W (.slice ao l.length c) (aF l))(hl:l.length<=1000)(hk:l[k]?=some x)(hn:∀i y,i<k->l[i]?=some y->y≠x) :
  Calls Tryz.prog 36 #[.slice ao l.length c,.int .u64 (x.toNat:Int)] W λ e w'=>e= .returned (.int .i64 (k:Int))/\w'=W:=by
 have hkl:=(dn.1 hk).1;have HN:=zH hn;have HW:=zH h;clear hn h
 go_enter Tryz.func36,Tryz.ntmps36
 go_wp2_with fail
 go_loopw [8] (λ ix wr=>∃j:Nat,ix= .int .i64 j/\j<=k/\wr=W) (λ ix _=>1001-(intOf ix).toNat)
 case atStart=>exact⟨0,rfl,bY _,rfl⟩
 obtain⟨j,rfl,hj,rfl⟩:=hrel;obtain⟨y,hy⟩:∃y,l[j]?=some y:=⟨_,di (by omega)⟩;obtain⟨cZ,c',e,hc,hvv⟩:=HW.out;obtain⟨g,o,e2,hg,cx⟩:=hvv j _ (qx _ _ _ hy)
 injection e with e1 e3 e4
 subst e1;subst e2;have hjl:j<l.length:=by omega
 by_cases e:j=k
 ·subst e;rw[hk]at hy;obtain rfl:=bC hy;clear hc hvv e4 hk hg;go_wp2;go_ret;exact⟨rfl,rfl⟩
 have hne:=HN.out j y (by omega) hy;have hb:((x.toNat:Int)==(y.toNat:Int))=false:=beq_eq_false_iff_ne.2 (λ h=>hne (UInt64.toNat.inj (by omega)));clear hc hvv e4 hk hy hg hne;go_wp2;go_roundw
 case rel=>exact⟨j+1,by go_num,by omega,trivial⟩
 case measure=>simp[intOf];omega
end
def eD(B:Nat->Prop)(W:World)(nb:Nat)(x:Sn)(ka va aa:Option Addr)(kc vc ac:Nat):Prop:=
 lS 0 W nb x ka va aa kc vc ac/\∀g,(g=nb\/aK ka g\/aK va g\/aK aa g)->B g
section
variable{B B' E F:Nat->Prop}{W W':World}{nb kc vc ac P D Q T rt aC k pg:Nat}{ka va aa:Option Addr}{x:Sn}{A:AP}
theorem lS.lt(h:lS 0 W nb x ka va aa kc vc ac){g:Nat}(hg:g=nb\/aK ka g\/aK va g\/aK aa g):g<W.heap.size:=by
 rcases hg with rfl|hg|hg|hg
 ·exact h.box.lt
 ·exact h.k.lt hg
 ·exact h.v.lt hg
 exact h.a.lt hg
theorem lS.zero{N:Nat}(h:lS N W nb x ka va aa kc vc ac):lS 0 W nb x ka va aa kc vc ac:=
 ⟨h.box,h.k,h.v,h.a,bY _,λ g hg=>⟨bY _,(h.new g hg).2⟩,h.kv,h.ka,h.va⟩
theorem eD.kept(h:eD B W nb x ka va aa kc vc ac)(hs:W.heap.size<=W'.heap.size)(hb:∀g,B g->g<W.heap.size->W'.heap[g]?=W.heap[g]?):eD B W' nb x ka va aa kc vc ac:=
 have hb':∀g,(g=nb\/aK ka g\/aK va g\/aK aa g)->W'.heap[g]?=W.heap[g]?:=λ g hg=>hb g (h.2 g hg) (h.1.lt hg)
 ⟨⟨h.1.box.af (hb' nb (.inl rfl)),h.1.k.af hs (λ g hg=>hb' g (.inr (.inl hg))),h.1.v.af hs (λ g hg=>hb' g (.inr (.inr (.inl hg)))),h.1.a.af hs (λ g hg=>hb' g (.inr (.inr (.inr hg)))),h.1.ge,h.1.new,h.1.kv,h.1.ka,h.1.va⟩,h.2⟩
theorem eD.by(h:eD B W nb x ka va aa kc vc ac)(hk:Kept F W W')(hB:∀g,B g->F g):eD B W' nb x ka va aa kc vc ac:=h.kept hk.size (λ g hg _=>hk.block g (hB g hg))
theorem eD.mono(h:eD B W nb x ka va aa kc vc ac)(hB:∀g,B g->B' g):eD B' W nb x ka va aa kc vc ac:=⟨h.1,λ g hg=>hB g (h.2 g hg)⟩
theorem eD.reads(h:eD B W nb x ka va aa kc vc ac):gK B W nb x:=h.1.node.mono (λ g hg=>h.2 g hg)
theorem eD.wins(h:eD B W nb x ka va aa kc vc ac):Ak (λ g=>aK ka g\/aK va g\/aK aa g) W nb x/\∀g,(aK ka g\/aK va g\/aK aa g)->g<W.heap.size/\g≠nb:=by
 refine⟨⟨_,_,_,h.1.box,?_,?_,?_⟩,λ g hg=>⟨h.1.lt (.inr hg),(h.1.new g hg).2⟩⟩
 ·have:=h.1.k.win (S:=λ g=>aK ka g\/aK va g\/aK aa g) (λ g hg=>.inl hg);rw[cz]at this;exact this
 ·have:=h.1.v.win (S:=λ g=>aK ka g\/aK va g\/aK aa g) (λ g hg=>.inr (.inl hg));rw[dx]at this;exact this
 have:=h.1.a.win (S:=λ g=>aK ka g\/aK va g\/aK aa g) (λ g hg=>.inr (.inr hg));rw[dx]at this;exact this
theorem aD.own(h:aD F W P D Q T rt aC A k)(hB:∀j,B j->F j)(hQ:¬B Q)(hT:¬B T)(ht:¬B 0)(hk:Kept (λ j=>j<W.heap.size/\¬B j) W W') :
  aD (λ j=>F j\/(W.heap.size<=j/\j<W'.heap.size)) W' P D Q T rt aC A k:=
 ⟨h.pz.over (R:=B) (T:=λ j=>F j\/(W.heap.size<=j/\j<W'.heap.size)) hB ht hk.size (λ j hj hr=>hk.block j ⟨hj,hr⟩) (λ _ hj=>hj),h.box.af (hk.block Q ⟨h.box.lt,hQ⟩),h.tb.af (hk.block T ⟨h.tb.lt,hT⟩),.inl h.mem,.inl h.fH⟩
theorem Kept.Am{g nb:Nat}{w1 w2:World}(o:Only g W w1)(o2:Only nb w1 w2):Kept (λ j=>j<W.heap.size/\¬(j=g\/j=nb)) W w2:=
 ⟨o2.os.trans o.os,o2.tape.trans o.tape,o2.output.trans o.output,bf o.size o2.size,λ j hj=>(o2.block j (bS hj.1 o.size) (λ e=>hj.2 (.inr e))).trans (o.block j hj.1 (λ e=>hj.2 (.inl e)))⟩
theorem Ll{g nb:Nat}{w1 w2:World}(o:Only g W w1)(o2:Only nb w1 w2)(hg:B g\/W.heap.size<=g)(hn:B nb):Kept (λ j=>j<W.heap.size/\¬B j) W w2:=
 (Kept.Am o o2).mono (λ j hj=>⟨hj.1,λ e=>by
  rcases e with rfl|rfl
  ·rcases hg with h|h
   ·exact hj.2 h
   exact absurd hj.1 (by omega)
  exact hj.2 hn⟩)
theorem eD.uD(h:eD B W nb x ka va aa kc vc ac){g' c':Nat}{w1:World}{l:List UInt64}(r:Row w1 g' c' (aF l))(o:Only g' W w1)(hg:aK ka g'\/W.heap.size<=g') :
  eD (λ j=>B j\/(W.heap.size<=j/\j<(w1.setCell (nb,2) (.slice g' l.length c')).heap.size)) (w1.setCell (nb,2) (.slice g' l.length c')) nb {x with aA:=l} g' va aa c' vc ac/\Kept (λ j=>j<W.heap.size/\¬B j) W (w1.setCell (nb,2) (.slice g' l.length c')):=by
 obtain⟨h1,h2,h3⟩:=h.1.uD r o hg (bY _);have o2:Only nb w1 (w1.setCell (nb,2) (.slice g' l.length c')):=(Only.refl nb w1).set 2 _;have hgl:=bS r.lt o2.size;generalize w1.setCell (nb,2) (.slice g' l.length c')=w2 at h1 h2 o2 hgl ⊢;have hgB:B g'\/W.heap.size<=g':=hg.imp (λ e=>h.2 g' (.inr (.inl e))) id;refine⟨⟨h1,λ g hg2=>?_⟩,Ll o o2 hgB (h.2 nb (.inl rfl))⟩;rcases hg2 with rfl|e|e|e
 ·exact .inl (h.2 _ (.inl rfl))
 ·rw[gF e];exact hgB.imp id (λ e=>⟨e,hgl⟩)
 ·exact .inl (h.2 _ (.inr (.inr (.inl e))))
 exact .inl (h.2 _ (.inr (.inr (.inr e))))
theorem eD.yl(h:eD B W nb x ka va aa kc vc ac){g' c':Nat}{w1:World}{l:List Nat}(r:Row w1 g' c' (ints l))(o:Only g' W w1)(hg:aK va g'\/W.heap.size<=g') :
  eD (λ j=>B j\/(W.heap.size<=j/\j<(w1.setCell (nb,3) (.slice g' l.length c')).heap.size)) (w1.setCell (nb,3) (.slice g' l.length c')) nb {x with ah:=l} ka g' aa kc c' ac/\Kept (λ j=>j<W.heap.size/\¬B j) W (w1.setCell (nb,3) (.slice g' l.length c')):=by
 obtain⟨h1,h2,h3⟩:=h.1.yl r o hg (bY _);have o2:Only nb w1 (w1.setCell (nb,3) (.slice g' l.length c')):=(Only.refl nb w1).set 3 _;have hgl:=bS r.lt o2.size;generalize w1.setCell (nb,3) (.slice g' l.length c')=w2 at h1 h2 o2 hgl ⊢;have hgB:B g'\/W.heap.size<=g':=hg.imp (λ e=>h.2 g' (.inr (.inr (.inl e)))) id;refine⟨⟨h1,λ g hg2=>?_⟩,Ll o o2 hgB (h.2 nb (.inl rfl))⟩;rcases hg2 with rfl|e|e|e
 ·exact .inl (h.2 _ (.inl rfl))
 ·exact .inl (h.2 _ (.inr (.inl e)))
 ·rw[gF e];exact hgB.imp id (λ e=>⟨e,hgl⟩)
 exact .inl (h.2 _ (.inr (.inr (.inr e))))
theorem eD.yn(h:eD B W nb x ka va aa kc vc ac){g' c':Nat}{w1:World}{l:List Nat}(r:Row w1 g' c' (ints l))(o:Only g' W w1)(hg:aK aa g'\/W.heap.size<=g') :
  eD (λ j=>B j\/(W.heap.size<=j/\j<(w1.setCell (nb,4) (.slice g' l.length c')).heap.size)) (w1.setCell (nb,4) (.slice g' l.length c')) nb {x with au:=l} ka va g' kc vc c'/\Kept (λ j=>j<W.heap.size/\¬B j) W (w1.setCell (nb,4) (.slice g' l.length c')):=by
 obtain⟨h1,h2,h3⟩:=h.1.yn r o hg (bY _);have o2:Only nb w1 (w1.setCell (nb,4) (.slice g' l.length c')):=(Only.refl nb w1).set 4 _;have hgl:=bS r.lt o2.size;generalize w1.setCell (nb,4) (.slice g' l.length c')=w2 at h1 h2 o2 hgl ⊢;have hgB:B g'\/W.heap.size<=g':=hg.imp (λ e=>h.2 g' (.inr (.inr (.inr e)))) id;refine⟨⟨h1,λ g hg2=>?_⟩,Ll o o2 hgB (h.2 nb (.inl rfl))⟩;rcases hg2 with rfl|e|e|e
 ·exact .inl (h.2 _ (.inl rfl))
 ·exact .inl (h.2 _ (.inr (.inl e)))
 ·exact .inl (h.2 _ (.inr (.inr (.inl e))))
 rw[gF e];exact hgB.imp id (λ e=>⟨e,hgl⟩)
theorem eD.dI{g c:Nat}(h:eD B W nb x ka va g kc vc ac)(i:Nat)(hi:i<x.au.length) :
  eD B (W.setCell (g,i) (.int .i64 (c:Int))) nb {x with au:=x.au.set i c} ka va g kc vc ac/\Kept (λ j=>j<W.heap.size/\¬B j) W (W.setCell (g,i) (.int .i64 (c:Int))):=by
 have hgg:aK g g:=rfl;have o:Only g W (W.setCell (g,i) (.int .i64 (c:Int))):=(Only.refl g W).set i _
 have r:Row (W.setCell (g,i) (.int .i64 (c:Int))) g ac (ints (x.au.set i c)):=by
  rcases h.1.a with⟨e,_⟩|⟨g2,e,r⟩
  ·cases e
  injection e with e
  injection e with e
  subst e;have:=r.set (i:=i) (.int .i64 (c:Int)) (by rw[dx];exact hi);rw[show(ints x.au).set i (.int .i64 (c:Int))=ints (x.au.set i c) by unfold ints;rw[List.map_set]]at this;exact this
 generalize W.setCell (g,i) (.int .i64 (c:Int))=w2 at o r ⊢;have hgn:=(h.1.new g (.inr (.inr hgg))).2;refine⟨⟨⟨by simpa using h.1.box.only o hgn.symm,h.1.k.only o (λ e=>h.1.ka g e hgg),h.1.v.only o (λ e=>h.1.va g e hgg),.inr ⟨g,rfl,r⟩,bY _,h.1.new,h.1.kv,h.1.ka,h.1.va⟩,h.2⟩,?_⟩;exact Ll o (Only.refl g w2) (.inl (h.2 g (.inr (.inr (.inr hgg))))) (h.2 g (.inr (.inr (.inr hgg))))
def xzz(F:Nat->Prop)(W w':World)(P D Q T rt aC:Nat)(A:AP)(k:Nat)(x:Sn)(e:Ending):Prop:=
 ∃B nb ka va aa kc vc ac,e= .returned (.tuple #[.pointer (some ⟨nb,0,none⟩),.int .i64 0])/\(∀j,B j->W.heap.size<=j/\j<w'.heap.size)/\eD B w' nb x ka va aa kc vc ac/\aD (λ j=>F j\/B j) w' P D Q T rt aC A k/\Kept F W w'
theorem xh(h:aD F W P D Q T rt aC A k)(hk:k+2<900000000)(hp:A.Has pg)(hy:aU A pg=some x) :
  Calls Tryz.prog 32 #[.pointer Q,.int .i64 pg] W λ e w'=>xzz F W w' P D Q T rt aC A (k+2) x e:=
 (ya9 h.pz hk h.box hp hy).mono (λ e w' ⟨N,M,nb,ka,va,aa,kc,vc,ac,he,hN,hM,⟨hn,gV,fT⟩,hp,hkp⟩=>
  ⟨λ j=>N<=j/\j<M,nb,ka,va,aa,kc,vc,ac,he,λ j hj=>⟨bf hN hj.1,bS hj.2 hM⟩,⟨hn.zero,λ g hg=>by
   rcases hg with rfl|hg
   ·exact⟨hn.ge,gV⟩
   exact⟨(hn.new g hg).1,fT g hg⟩⟩,⟨hp,h.box.af (hkp.block Q h.mem),h.tb.af (hkp.block T h.fH),.inl h.mem,.inl h.fH⟩,hkp⟩)
theorem Dc(h:aD F W P D Q T rt aC A k)(hk:k+3<900000000)(hp:A.Has pg)(hn:gK F W nb x)(hx:bA x) :
  Calls Tryz.prog 99 #[.pointer Q,.int .i64 pg,.pointer nb] W λ e w'=>e= .returned (.int .i64 0)/\aD F w' P D Q T rt aC (A.az pg (encS (A.c pg) x)) (k+3)/\Kept F W w':=
 (xzy h.pz hk h.box hp hn hx).mono (λ _ _ ⟨he,hp,hkp⟩=>⟨he,h.step hp hkp,hkp⟩)
end
theorem xvy(ae:List Sb)(h:∀t∈ae,t.l.length<=30*t.ps.length):(il ae).length<=30*(dZ ae).length:=by
 induction ae with
 | nil=>simp[il]
 | cons t r ih=>
  have h1:=h t (by simp);have h2:=ih (λ u hu=>h u (by simp[hu]));simp only[il,dZ,List.flatMap_cons,zl]at h2 ⊢;omega
theorem Tr.few{f:Nat->Option Nd}(hf:∀p x,f p=some x->x.leaf=true->x.ai.length<=30):∀(d:Nat) (s:Sb),Tr f d s->s.l.length<=30*s.ps.length
 | 0,s,⟨ks,vs,h1,h2,h3,h4,h5⟩=>by
  have:=hf _ _ h1 rfl;rw[h4,h5,List.length_zip];simp only[dw,List.length_nil]at this ⊢;omega
 | d+1,s,⟨ai,ae,h1,h2,h3,h4⟩=>by
  have:=xvy ae (λ t ht=>Tr.few hf d t (h2.all t ht).1);rw[h3,h4,dw];omega
theorem TI.few{A:AP}{rt:Nat}{l:List KV}{ps:List Nat}(h:TI A rt l ps):l.length<=30*ps.length:=by
 obtain⟨d,s,h1,_,rfl,rfl⟩:=h.ex;exact Tr.few (λ p x hx hl=>((mE hx).1 hl).1) d s h1
open UK (str aO nth Only)
def jC(pg:Nat)(ae:List SS):SS:=⟨pg,cu ae,pg::bI ae⟩
def bO(up:Nat)(ae:List SS):Sn:=⟨false,up,[],bJ ae,dm ae⟩
theorem O9{f:Nat->Option Sn}{e up pg:Nat}{ae:List SS}(h:∀t∈ae,eT f e pg t):nU f (e+1) up (jC pg ae) (bO up ae):=⟨ae,rfl,h,rfl,rfl⟩
theorem Cb(t:SS)(r:List SS):cu (t::r)=t.lv++cu r:=by simp[cu]
theorem Ao(t:SS)(r:List SS):bI (t::r)=t.ps++bI r:=by simp[bI]
theorem bV.lC(fr:bV)(s:SS):fr.part s=jC fr.pg (fr.L++s::fr.R):=by
 unfold bV.part jC;rw[BS,vS,Cb,Ao,dH,dH]
theorem bV.xk(fr:bV)(up:Nat)(s:SS):fr.node up s.pg s.l.length=bO up (fr.L++s::fr.R):=by
 unfold bV.node bO;rw[Je,Ox];rfl
structure ZI(A:AP)(rt aC:Nat)(m:List KV)(qs:List Nat)(C:List bV)(e:Nat)(s:SS)(n:Sn):Prop where
 rp:bZ A rt aC (s.ps++aT C) m qs
 rv:df (dE C s.lv) m
 ni:nU (aU A) e (aL C) s n
 cx:Ctx (aU A) C e s.pg
 root:EE s.pg C=rt
structure RI(A:AP)(rt aC:Nat)(m:List KV)(qs:List Nat)(e:Nat)(s:SS)(n:Sn):Prop where
 zi:ZI A rt aC m qs [] e s n
 at_:aU A s.pg=some n
 two:n.leaf=false->2<=n.ah.length
theorem df.count{V:List LV}{m:List KV}(h:df V m)(hr:rC m):(bP V).length=m.length:=by
 have h1:(m.map Prod.fst).Nodup:=by
  unfold List.Nodup;rw[List.pairwise_map];exact hr.imp (λ hlt e=>by rw[e]at hlt;exact jc _ hlt)
 have hp:(bP V).Perm (m.map Prod.fst):=(List.perm_ext_iff_of_nodup h.uq h1).2 (λ i=>by
  constructor
  ·intro hi;unfold bP at hi;obtain⟨x,hx,hix⟩:=List.mem_flatMap.1 hi;exact gT.2 ⟨_,h.pl x hx i hix,rfl⟩
  intro hi;obtain⟨y,hy,rfl⟩:=gT.1 hi;exact h.ky y hy)
 rw[hp.length_eq,kg]
section
variable{A:AP}{rt aC:Nat}{m:List KV}{qs:List Nat}{C:List bV}{fr:bV}{e:Nat}{s:SS}{n:Sn}
theorem ZI.len(h:ZI A rt aC m qs C e s n):(ig C).length+s.l.length+(kV C).length=m.length:=by
 have h1:=h.rv.count h.rp.tree.rise;rw[sQ,zl,zl]at h1;exact h1
theorem ZI.few(h:ZI A rt aC m qs C e s n):m.length<=1800000:=by
 have h1:=h.rp.tree.few;have h2:=OA h.rp.tree.eY h.rp.tree.has h.rp.good;omega
theorem ZI.mem(h:ZI A rt aC m qs C e s n):s.pg∈s.ps++aT C:=bR _ h.ni.mem
theorem ZI.has(h:ZI A rt aC m qs C e s n):A.Has s.pg:=h.rp.dO h.mem
theorem ZI.up(h:ZI A rt aC m qs C e s n):n.up=aL C:=h.ni.EF
theorem ZI.xn(h:ZI A rt aC m qs (fr::C) e s n):A.Has fr.pg/\1<=fr.pg/\fr.pg<60000:=by
 have h1:A.Has fr.pg:=h.rp.dO (fE _ (by simp[aT]));have h2:=h.rp.good.ax;have h3:=h.rp.good.few;have h4:=h1.1;have h5:=h1.2.1;exact⟨h1,by omega,by omega⟩
theorem ZI.Ap(h:ZI A rt aC m qs C e s n):1<=s.pg/\s.pg<60000:=by
 have h1:=h.has;have h2:=h.rp.good.ax;have h3:=h.rp.good.few;have h4:=h1.1;have h5:=h1.2.1;exact⟨by omega,by omega⟩
theorem ZI.away(h:ZI A rt aC m qs C e s n):s.pg∉s.ps.tail/\s.pg∉aT C:=by
 have h1:=h.rp.rD;have h2:=h.ni.ps;rw[h2,jA,dL,cB]at h1;exact⟨λ e=>h1.1 (.inl e),λ e=>h1.1 (.inr e)⟩
theorem ZI.store(h:ZI A rt aC m qs C e s n)(hx:bA n):ZI (A.az s.pg (encS (A.c s.pg) n)) rt aC m qs C e s n/\aU (A.az s.pg (encS (A.c s.pg) n)) s.pg=some n/\A.Reach (A.az s.pg (encS (A.c s.pg) n))/\(A.az s.pg (encS (A.c s.pg) n)).ay=A.ay/\∀q,q≠s.pg->(A.az s.pg (encS (A.c s.pg) n)).c q=A.c q:=by
 have hl:=h.rp.len _ h.has;obtain⟨h1,h2,h3,h4⟩:=h.rp.az h.mem (s:=encS (A.c s.pg) n) (by rw[Ah _ _ (by omega) hx,hl]) (λ e=>by rw[Jd _ _ (by omega) hx,e]);obtain⟨a1,a2⟩:=h.away;refine⟨⟨h1,h.rv,h.ni.same _ _ _ _ (λ p hp=>yj (h4 p (λ e=>a1 (e▸hp)))),h.cx.same _ _ _ (λ p hp=>yj (h4 p (λ e=>a2 (e▸hp)))),h.root⟩,?_,h2,h3,h4⟩;unfold aU;rw[AP.bG,if_pos rfl,ED _ _ (by omega) hx]
theorem ZI.above(h:ZI A rt aC m qs (fr::C) e s n):aU A fr.pg=some (fr.node (aL C) s.pg fr.c)/\bA (fr.node (aL C) s.pg fr.c)/\(∀t∈fr.L++fr.R,eT (aU A) e fr.pg t)/\1<=fr.L.length+fr.R.length/\(C≠[]->19<=fr.L.length+fr.R.length)/\Ctx (aU A) C (e+1) fr.pg:=
 ⟨h.cx.1,nT h.cx.1,h.cx.2.1,h.cx.2.2.1,h.cx.2.2.2.1,h.cx.2.2.2.2⟩
theorem tZ{p:Nat}{l:List SS}(h:p∈bJ l):∃t∈l,t.pg=p:=by
 unfold bJ at h;obtain⟨t,ht,rfl⟩:=gT.1 h;exact⟨t,ht,rfl⟩
theorem ZI.noL(h:ZI A rt aC m qs (fr::C) e s n):s.pg∉bJ fr.L/\s.pg∉bJ fr.R:=by
 have h1:=h.away.2;have h2:=h.above.2.2.1;refine⟨λ hp=>?_,λ hp=>?_⟩
 ·obtain⟨t,ht,he⟩:=tZ hp;obtain⟨_,_,hk,_⟩:=h2 t (bR _ ht);exact h1 (by simp only[aT,aX,cB];exact .inr (.inl (.inl (kP.2 ⟨t,ht,he▸hk.mem⟩))))
 obtain⟨t,ht,he⟩:=tZ hp;obtain⟨_,_,hk,_⟩:=h2 t (fE _ ht);exact h1 (by simp only[aT,aX,cB];exact .inr (.inl (.inr (kP.2 ⟨t,ht,he▸hk.mem⟩))))
theorem ZI.index(h:ZI A rt aC m qs (fr::C) e s n):(fr.node (aL C) s.pg fr.c).ah[fr.L.length]?=some s.pg/\(∀i y,i<fr.L.length->(fr.node (aL C) s.pg fr.c).ah[i]?=some y->y≠s.pg)/\(fr.node (aL C) s.pg fr.c).ah.length=fr.L.length+fr.R.length+1/\(fr.node (aL C) s.pg fr.c).au.length=fr.L.length+fr.R.length+1:=by
 have hL:(bJ fr.L).length=fr.L.length:=by simp[bJ]
 refine⟨?_,λ i y hi hy=>?_,by simp[bV.node,bJ];omega,by simp[bV.node,dm];omega⟩
 ·show(bJ fr.L++s.pg::bJ fr.R)[fr.L.length]?=_;rw[dF (by omega),hL,iF];rfl
 have hy2:(bJ fr.L++s.pg::bJ fr.R)[i]?=some y:=hy;rw[dM (by omega)]at hy2;exact λ e=>h.noL.1 (e▸fe hy2)
theorem bV.set(fr:bV)(up pg c d:Nat):{fr.node up pg c with au:=(fr.node up pg c).au.set fr.L.length d}=fr.node up pg d:=by
 have hL:(dm fr.L).length=fr.L.length:=by simp[dm]
 have h:(dm fr.L++c::dm fr.R).set fr.L.length d=dm fr.L++d::dm fr.R:=by
  rw[List.set_append_right _ _ (by omega),hL,iF];rfl
 unfold bV.node;rw[<-h]
theorem ZI.lift(h:ZI A rt aC m qs (fr::C) e s n)(hn:aU A s.pg=some n)(hf:dD n):ZI A rt aC m qs C (e+1) (fr.part s) (fr.node (aL C) s.pg s.l.length):=by
 obtain⟨_,_,hk,_,_,hc⟩:=h.above;refine⟨h.rp.perm (KU fr C s).symm,h.rv,bV.CX hk ⟨n,hn,h.ni,hf⟩,hc,h.root⟩
theorem ZI.xw(h:ZI A rt aC m qs (fr::C) e s n):bA (fr.node (aL C) s.pg s.l.length):=by
 obtain⟨_,hx,_⟩:=h.above;have hl:=h.len;have hf:=h.few;obtain⟨a,b,c,d,f⟩:=hx.inner rfl;refine⟨hx.up,(λ h=>by cases h),λ _=>⟨a,?_,rfl,d,λ k hk=>?_⟩⟩
 ·have:=h.index.2.2;have e1:(fr.node (aL C) s.pg s.l.length).au.length=(fr.node (aL C) s.pg fr.c).au.length:=by simp[bV.node]
  have e2:(fr.node (aL C) s.pg s.l.length).ah.length=(fr.node (aL C) s.pg fr.c).ah.length:=rfl;omega
 have hk2:k∈dm fr.L++s.l.length::dm fr.R:=hk;rcases cB.1 hk2 with h1|h1
 ·exact f k (show k∈dm fr.L++fr.c::dm fr.R from bR _ h1)
 rcases aX.1 h1 with rfl|h1
 ·omega
 exact f k (show k∈dm fr.L++fr.c::dm fr.R from fE _ (eu _ h1))
theorem ZI.De(h:ZI A rt aC m qs (fr::C) e s n)(c:Nat)(hC:C≠[]):dD (fr.node (aL C) s.pg c):=by
 have h1:=h.above.2.2.2.2.1 hC;have h2:=h.index.2.2.1;have e2:(fr.node (aL C) s.pg c).ah.length=(fr.node (aL C) s.pg fr.c).ah.length:=rfl;unfold dD Sn.ax Sn.size;show(if (false:Bool)=true then 48 else 40)/2<=([]:List UInt64).length+(fr.node (aL C) s.pg c).ah.length;rw[e2,h2];simp;omega
end
theorem AP.iX{A:AP}(hg:A.Good)(_hf:¬A.Full):A.next<60001:=by
 have h1:=hg.ax;have h2:=hg.few;unfold AP.next
 split
 ·omega
 rename_i h
 have hm:A.free.getLastD 0∈A.free:=by
  rw[List.getLastD_eq_getLast?,List.getLast?_eq_some_getLast h];exact List.getLast_mem h
 have:=hg.free _ hm;omega
section
variable{E F:Nat->Prop}{W W':World}{P D Q T rt aC k nb:Nat}{A:AP}{x:Sn}{Pg qs:List Nat}{m:List KV}
def yba(E:Nat->Prop)(W:World)(P D Q T rt aC k nb:Nat)(A:AP)(x:Sn)(R:Ending->World->Prop):Prop:=
 ∀w',aD E w' P D Q T rt aC (A.take.az A.next (encS (UK.bW 504) x)) k->Kept E W w'->gK E w' nb x ->
  Calls Tryz.prog 127 #[.pointer Q,.int .i64 A.next,.pointer nb,.int .i64 0,.int .i64 x.size] w' λ e w''=>e= .returned (.int .i64 0)/\R (.returned (.tuple #[.int .i64 A.next,.int .i64 0])) w''
theorem Yk{R:Ending->World->Prop}(h:aD E W P D Q T rt aC A k)(hf:¬A.Full)(hn:gK E W nb x)(hx:bA x)(hk:k+100<900000000)(hR:yba E W P D Q T rt aC (k+3) nb A x R) :
  Calls Tryz.prog 103 #[.pointer Q,.pointer nb] W R:=by
 have c0:=h.box.c0;have HP:=zH (Og h.pz (by omega) hf);have HH:=zH h;have HR:=zH hR;have Yl:=zH hn;clear h hR
 go_enter Tryz.func103,Tryz.ntmps103
 go_wp2_with fail
 refine HP.out.mono ?_;rintro e w1 ⟨fb,db,cap,rfl,p1,k1⟩;have HE:=λ p=>zH (BN p1 p);have HG:=zH (yf p1);have wY:=zH (zA (hn.kept k1) (zA p1 k1));clear HP p1 k1 c0 hn
 go_wp2_with fail
 refine HG.out.mono ?_;rintro e w2 ⟨rfl,rfl⟩;clear HG
 go_wp2_with fail
 refine(HE (by omega)).out.mono ?_;rintro e w2 ⟨rfl,p2,k2⟩;obtain⟨bi,p1,k1⟩:=wY.out;have hn2:=bi.kept k2;obtain⟨y,y1,y2,y3,y4,y5⟩:=p2.bytes;have HX:=zH (RQ hn2 hx y1 y2 y4 y5);have hy3:y.take 504=UK.bW 504:=y3.trans (by show dI A.c A.next (UK.bW 504) A.next=_;unfold dI;rw[if_pos rfl]);have htk:=RL y x (by omega) hx;rw[hy3]at htk;have hle:=Ah y x (by omega) hx;have H2:=zH (zA p2 (zA (k1.trans k2) (zA htk (hle.trans y2))));clear HE wY bi hn2 k1 k2 p1 p2 y1 y2 y3 y4 y5 hy3 htk hle
 go_wp2_with fail
 refine HX.out.mono ?_;rintro e w3 ⟨rfl,b3,o3⟩;obtain⟨p2,k2,htk,hle⟩:=H2.out;obtain⟨p3,k3⟩:=p2.write o3 b3 hle;rw[htk]at p3;have HU:=zH (Rt p3);have K3:=zH (k2.trans k3);clear HX H2 p2 k2 htk hle p3 k3 b3 o3
 go_wp2_with fail
 refine HU.out.mono ?_;rintro e w4 ⟨rfl,p4,k4⟩;have kk:=K3.out.trans k4;have hs4:aD E w4 P D Q T rt aC (A.take.az A.next (encS (UK.bW 504) x)) (k+3):=HH.out.step p4 kk;have vY:=Yl.out.kept kk;have HZ:=zH (tX vY hx.ok);have HA:=zH (λ q=>HR.out (w4.drewN q) (hs4.next (UK.aG (aP _ _) q)) (kk.trans (Kept.of_below (UK.aG (aP _ _) q) hs4.pz.there)) (vY.kept (Kept.of_below (UK.aG (aP _ _) q) hs4.pz.there)));clear HU K3 p4 k4 kk hs4 vY HH HR Yl
 go_wp2_with fail
 refine HZ.out.mono ?_;rintro e w5 ⟨rfl,q,rfl⟩;clear HZ
 go_wp2_with fail
 refine(HA.out q).mono ?_;rintro e w6 ⟨rfl,hR⟩;have HQ:=zH hR;clear HA hR;go_wp2;exact HQ.out
theorem xod(h:aD E W P D Q T rt aC A k)(hp:bZ A rt aC Pg m qs)(hf:¬A.Full)(hn:gK E W nb x)(hx:bA x)(hl:x.leaf=true)(hk:k+60000<900000000)(aY:m.length+600<=14*(A.ay+qs.length)) :
  Calls Tryz.prog 103 #[.pointer Q,.pointer nb] W λ e w'=>e= .returned (.tuple #[.int .i64 A.next,.int .i64 0])/\∃B bK k',aD E w' P D Q T rt aC B k'/\k'<=k+3+1100*x.aA.length/\Kept E W w'/\bZ B rt aC (A.next::Pg) (iW m x.aA (UInt64.ofNat A.next)) bK/\A.Reach B/\(∀p∈Pg,B.c p=A.c p)/\B.c A.next=encS (UK.bW 504) x/\B.ay+1+bK.length=A.ay+qs.length:=by
 refine Yk h hf hn hx (by omega) (λ w' hs hkp hn'=>?_);have hsz:x.size=x.aA.length:=by unfold Sn.size;rw[(hx.leaf hl).2.1];simp
 have h48:=(hx.leaf hl).1;have hnx:=AP.iX hp.good hf;obtain⟨r1,r2,r3,r4,r5,r6⟩:=hp.take hf (s:=encS (UK.bW 504) x) (by rw[Ah _ _ (by rw[UK.lI];omega) hx,UK.lI]);have:=xre (page:=A.next) (fr:=0) (tt:=x.aA.length) hs r1 hn' hl (bY _) (aZ _) (by omega) (by omega) (by omega) (by omega);rw[hsz];refine this.mono ?_;rintro e w'' ⟨rfl,B,bK,k',hs2,hk2,gy,Cc,CZ,Jg,Ld⟩;rw[mi,lL]at Cc;refine⟨rfl,rfl,B,bK,k',hs2,by omega,hkp.trans gy,Cc,r2.trans CZ,λ p gM=>?_,?_,by omega⟩
 ·rw[Jg p (eu _ gM),r4 p (hp.dO gM)]
 rw[Jg _ (gZ ..),r5]
theorem xm1(h:aD E W P D Q T rt aC A k)(hp:bZ A rt aC Pg m qs)(hf:¬A.Full)(hn:gK E W nb x)(hx:bA x)(hl:x.leaf=false)(hsub:∀c∈x.ah,c∈Pg)(hnd:x.ah.Nodup)(hk:k+60000<900000000) :
  Calls Tryz.prog 103 #[.pointer Q,.pointer nb] W λ e w'=>e= .returned (.tuple #[.int .i64 A.next,.int .i64 0])/\∃B k',aD E w' P D Q T rt aC B k'/\k'<=k+200/\Kept E W w'/\bZ B rt aC (A.next::Pg) m qs/\A.Reach B/\(∀p∈Pg,B.c p=if p∈x.ah then fM (A.c p) A.next else A.c p)/\B.c A.next=encS (UK.bW 504) x/\B.ay+1=A.ay:=by
 refine Yk h hf hn hx (by omega) (λ w' hs hkp hn'=>?_);have hsz:x.size=x.ah.length:=by unfold Sn.size;rw[(hx.inner hl).2.2.1];simp
 have kD:=(hx.inner hl).1;have hnx:=AP.iX hp.good hf;obtain⟨r1,r2,r3,r4,r5,r6⟩:=hp.take hf (s:=encS (UK.bW 504) x) (by rw[Ah _ _ (by rw[UK.lI];omega) hx,UK.lI]);have:=Yg (page:=A.next) (fr:=0) (tt:=x.ah.length) hs r1 hn' hl (bY _) (aZ _) (by omega) (λ c hc=>eu _ (hsub c hc)) hnd (by omega) (by omega);rw[hsz];refine this.mono ?_;rintro e w'' ⟨rfl,B,k',hs2,hk2,gy,Cc,ad⟩;rw[mi,lL]at ad;refine⟨rfl,rfl,B,k',hs2,by omega,hkp.trans gy,Cc,r2.trans ad.reach,λ p gM=>?_,?_,by rw[ad.ay];omega⟩
 ·rw[ad.c,r4 p (hp.dO gM)]
 rw[ad.c,r5,if_neg (λ hm=>r6 (bR _ (hsub _ hm)))]
end
theorem bV.qz(fr:bV)(up pg c:Nat):(fr.node up pg c).au[fr.L.length]?=some c:=by
 have hL:(dm fr.L).length=fr.L.length:=by simp[dm]
 show(dm fr.L++c::dm fr.R)[fr.L.length]?=_;rw[dF (by omega),hL,iF];rfl
section
variable{E F:Nat->Prop}{W W':World}{P D Q T rt aC k nb e:Nat}{A:AP}{n:Sn}{qs:List Nat}{m:List KV}{C:List bV}{s:SS}
def Gx(F:Nat->Prop)(W wr:World)(P D Q T rt aC k:Nat)(A:AP)(m:List KV)(qs:List Nat)(C:List bV)(e:Nat)(s:SS)(n:Sn)(j:Nat)(lD nb':Nat):Prop:=
 ∃C' s' n' F' B kk,lD=s'.pg/\j+C'.length=C.length/\(∀i,F i->F' i)/\aD F' wr P D Q T rt aC B kk/\kk<=k+5*j/\Kept F W wr/\gK F' wr nb' n'/\ZI B rt aC m qs C' (e+j) s' n'/\aU B s'.pg=some n'/\(C'≠[]->dD n')/\dE C' s'.lv=dE C s.lv/\(s'.ps++aT C').Perm (s.ps++aT C)/\A.Reach B/\B.ay=A.ay/\((j=0/\n'=n)\/(n'.leaf=false/\2<=n'.ah.length))
def Ym(F:Nat->Prop)(W w':World)(P D Q T rt aC k:Nat)(A:AP)(m:List KV)(qs:List Nat)(C:List bV)(e:Nat)(s:SS)(n:Sn):Prop:=
 ∃s' n' B,aD F w' P D Q T rt aC B (k+100)/\Kept F W w'/\ZI B rt aC m qs [] (e+C.length) s' n'/\aU B s'.pg=some n'/\s'.lv=dE C s.lv/\s'.ps.Perm (s.ps++aT C)/\A.Reach B/\B.ay=A.ay/\((C=[]/\n'=n)\/(n'.leaf=false/\2<=n'.ah.length))
theorem Gx.done{wr:World}{j:Nat}{s':SS}{n':Sn}{F':Nat->Prop}{B:AP}{kk:Nat}(h:aD F W P D Q T rt aC A k)(aJ:j=C.length)(hd:C.length<=19)(jO:∀i,F i->F' i)(hs:aD F' wr P D Q T rt aC B kk)(hkk:kk<=k+5*j)(kp:Kept F W wr)(hz:ZI B rt aC m qs [] (e+j) s' n')(hat:aU B s'.pg=some n')(hpl:s'.lv=dE C s.lv)(hpm:(s'.ps++aT []).Perm (s.ps++aT C))(hre:A.Reach B)(hro:B.ay=A.ay)(mZ:(j=0/\n'=n)\/(n'.leaf=false/\2<=n'.ah.length)) :
  Ym F W wr P D Q T rt aC k A m qs C e s n:=by
 subst aJ;refine⟨s',n',B,(hs.less h.mem h.fH jO).up (by omega),kp,hz,hat,hpl,by simpa[aT]using hpm,hre,hro,mZ.imp (λ ⟨a,b⟩=>⟨pE.1 a,b⟩) id⟩
theorem Gx.next{w1 w2 w3:World}{j lF kk g kc vc ac:Nat}{s1:SS}{n1:Sn}{fr:bV}{C2:List bV}{F1 B0:Nat->Prop}{B:AP}{ka va:Option Addr}{wr:World}
  (aJ:j+(fr::C2).length=C.length) (jO:∀i,F i->F1 i) (hs:aD F1 wr P D Q T rt aC B kk) (hk:kk+5<900000000) (hkk:kk<=k+5*j) (kp:Kept F W wr) (hz:ZI B rt aC m qs (fr::C2) (e+j) s1 n1) (hat:aU B s1.pg=some n1) (hf:dD n1) (hpl:dE (fr::C2) s1.lv=dE C s.lv) (hpm:(s1.ps++aT (fr::C2)).Perm (s.ps++aT C)) (hre:A.Reach B) (hro:B.ay=A.ay)
  (hB:∀i,B0 i->wr.heap.size<=i/\i<w1.heap.size) (hb:eD B0 w1 lF (fr.node (aL C2) s1.pg fr.c) ka va g kc vc ac) (hs1:aD (λ i=>F1 i\/B0 i) w1 P D Q T rt aC B (kk+2)) (k1:Kept F1 wr w1) (hw2:Below w1 w1 w2) (hw3:w3=w2.setCell (g,fr.L.length) (.int .i64 ((n1.count:Nat):Int))) :
  Kept F1 wr w3/\Calls Tryz.prog 99 #[.pointer Q,.int .i64 fr.pg,.pointer lF] w3 (λ e' w'=>e'= .returned (.int .i64 0)/\Gx F W w' P D Q T rt aC k A m qs C e s n (j+1) fr.pg lF/\Kept F1 wr w'):=by
 have hb2:=hb.kept hw2.size (λ i _ hi=>hw2.block i hi);have hix:=hz.index;obtain⟨hb3,hk3⟩:=hb2.dI (c:=n1.count) fr.L.length (by rw[hix.2.2.2];omega);rw[<-hw3]at hb3 hk3;have hs2:=hs1.next hw2;have kN:=hs.pz.there;have ho:=hs2.own (B:=B0) (λ i hi=>.inr hi) (λ hq=>by have:=hB Q hq;have:=kN Q hs.mem;omega) (λ hq=>by have:=hB T hq;have:=kN T hs.fH;omega) (λ ht=>by have:=hB _ ht;have:=hs.pz.tab.lt;omega) hk3;rw[hz.ni.count,bV.set]at hb3;have hl:=hz.lift hat hf;have hx:=hz.xw;obtain⟨z1,z2,z3,z4,z5⟩:=hl.store hx;have hpe:(fr.part s1).pg=fr.pg:=rfl;rw[hpe]at z1 z2 z3 z4 z5;have k13:Kept F1 wr w3:=k1.trans ((Kept.of_below hw2 hs1.pz.there).mono (λ i hi=>.inl hi) |>.trans (hk3.mono (λ i hi=>⟨bS (hs1.pz.there i (.inl hi)) hw2.size,λ hb0=>by have:=hB i hb0;have:=kN i hi;omega⟩)));have vP:Kept F W w3:=kp.trans (k13.mono jO);refine⟨k13,?_⟩;refine(Dc ho (by omega) hz.xn.1 (hb3.reads.mono (λ i hi=>.inl (.inr hi))) hx).mono ?_;rintro e' w' ⟨rfl,hs4,k4⟩;have h2:=hz.index.2.2.1;have h1:=hz.above.2.2.2.1;refine⟨rfl,⟨C2,fr.part s1,fr.node (aL C2) s1.pg s1.l.length,_,_,_,rfl,by simp only[dw]at aJ;omega,λ i hi=>.inl (.inl (jO i hi)),hs4,by omega,vP.trans (k4.mono (λ i hi=>.inl (.inl (jO i hi)))),((hb3.by k4 (λ i hi=>.inl (.inr hi))).reads).mono (λ i hi=>.inl (.inr hi)),by rw[<-Nat.add_assoc];exact z1,z2,λ hC=>hz.De _ hC,hpl,(KU fr C2 s1).trans hpm,hre.trans z3,z4.trans hro,.inr ⟨rfl,?_⟩⟩,k13.trans (k4.mono (λ i hi=>.inl (.inl hi)))⟩;have e2:(fr.node (aL C2) s1.pg s1.l.length).ah.length=(fr.node (aL C2) s1.pg fr.c).ah.length:=rfl;omega
theorem Yn(h:aD F W P D Q T rt aC A k)(hz:ZI A rt aC m qs C e s n)(hat:aU A s.pg=some n)(dR:C≠[]->dD n)(hn:gK F W nb n)(hd:C.length<=19)(hk:k+200<900000000) :
  Calls Tryz.prog 100 #[.pointer Q,.int .i64 s.pg,.pointer nb] W λ e' w'=>e'= .returned (.int .i64 0)/\Ym F W w' P D Q T rt aC k A m qs C e s n:=by
 have HST:Hid (Gx F W W P D Q T rt aC k A m qs C e s n 0 s.pg nb):=zH ⟨C,s,n,F,A,k,rfl,by omega,λ _ hi=>hi,h,by omega,Kept.of_below (aP _ _) h.pz.there,hn,hz,hat,dR,rfl,List.Perm.refl _,AP.Reach.refl A,rfl,.inl ⟨rfl,rfl⟩⟩;have HH:=zH h;clear h hz hat dR hn;generalize s.pg=Df at *
 go_enter Tryz.func100,Tryz.ntmps100
 go_wp2_with fail
 go_loopw [11,1,2] (λ ix pv nv wr=>∃j lD nb':Nat,ix= .int .i64 j/\pv= .int .i64 lD/\nv= .pointer nb'/\j<=20/\Hid (Gx F W wr P D Q T rt aC k A m qs C e s n j lD nb')) (λ ix _ _ _=>21-(intOf ix).toNat)
 case atStart=>exact⟨0,Df,nb,rfl,rfl,rfl,by omega,HST⟩
 clear HST;obtain⟨j,lD,xx,rfl,rfl,rfl,hj,hI⟩:=hrel;obtain⟨C1,s1,n1,F1,B,kk,rfl,aJ,jO,hs,hkk,kp,hnr,hz,hat,dR,hpl,hpm,hre,hro,mZ⟩:=hI.out;have hup:=hz.up;obtain⟨iv,kv,cv,hb,hnb,_⟩:=id hnr;rw[hup]at hb;have c1:=hb.c1
 cases C1 with
 | nil=>
  have HF:=zH (Gx.done HH.out (by simpa using aJ) hd jO hs hkk kp hz hat hpl hpm hre hro mZ);have hj2:(j:Int)<20:=by simp only[List.length_nil]at aJ;omega
  have c2:wr.cell? (xx,1)=some (.int .i64 0):=c1;clear hI hs hz hat hnr dR hpl hpm hre hro mZ hb kp jO c1 hup;go_wp2;go_ret;exact⟨rfl,HF.out⟩
 | cons fr C2=>
  have hj2:(j:Int)<20:=by simp only[dw]at aJ;omega
  obtain⟨Lm,hp1,hp2⟩:=hz.xn;have c2:wr.cell? (xx,1)=some (.int .i64 (fr.pg:Int)):=c1;have hne:((fr.pg:Int)==0)=false:=beq_eq_false_iff_ne.2 (by omega);have HL:=zH (xh hs (by omega) Lm hz.above.1);have H1:=zH (zA aJ (zA jO (zA hs (zA hkk (zA kp (zA hnr (zA hz (zA hat (zA (dR (by simp)) (zA hpl (zA hpm (zA hre hro))))))))))));clear hI hs hz hat hnr dR hpl hpm hre hro mZ kp jO c1 hup Lm aJ hkk
  go_wp2_with fail
  refine HL.out.mono ?_;rintro e' w1 ⟨B0,lF,ka,va,aa,kc,vc,ac,rfl,hB,hsb,hs1,k1⟩;obtain⟨aJ,jO,hs,hkk,kp,hnr,hz,hat,hf,hpl,hpm,hre,hro⟩:=H1.out;obtain⟨hi1,hi2,hi3,hi4⟩:=hz.index;have hfx:=hz.above.2.1;have kD:=(hfx.inner rfl).1;have d3:=hsb.1.box.c3;have d4:=hsb.1.box.c4
  obtain⟨g,rfl,ra⟩:∃g,aa=some ⟨g,0,none⟩/\Row w1 g ac (ints (fr.node (aL C2) s1.pg fr.c).au):=by
   rcases hsb.1.a with⟨_,h2,_⟩|⟨g,h1,h2⟩
   ·have:=congrArg List.length h2;rw[dx,hi4]at this;simp at this
   exact⟨g,h1,h2⟩
  have hwk:=hsb.1.v.win (S:=λ _=>True) (λ _ _=>trivial);rw[dx]at hwk;have HX:=zH (O8 hwk (by omega) hi1 hi2);have bi:=hnr.kept k1;have HC:=zH (yY (bi.kept (Kept.of_below (hBd w1) (λ i hi=>hs1.pz.there i (.inl hi)))) (nT hat).ok);have HS:=zH (λ (w2 w3:World) (h2:Below w1 w1 w2) (h3:w3=w2.setCell (g,fr.L.length) (.int .i64 ((n1.count:Nat):Int)))=>Gx.next (n:=n) aJ jO hs (by omega) hkk kp hz hat hf hpl hpm hre hro hB hsb hs1 k1 h2 h3);have hcr:=ra.at' fr.L.length (.int .i64 (fr.c:Int)) (qw _ _ _ (bV.qz fr _ _ _));have hrl:=ra.le;rw[dx,hi4]at hrl;have hfr:=ra.free fr.L.length (by omega);rw[hi4]at d4;have pK:=zH (zA hb hnb);have hil:(fr.L.length:Int)<((fr.L.length+fr.R.length+1:Nat):Int):=by omega
  have Aq:fr.L.length<fr.L.length+fr.R.length+1:=by omega
  clear HL H1 hB hsb hs1 k1 aJ jO hs hkk kp hnr hz hat hf hpl hpm hre hro hi1 hi2 hi3 hi4 hfx kD hwk bi ra c2 hb hnb
  go_wp2_with fail
  refine HX.out.mono ?_;rintro e' w2 ⟨rfl,rfl⟩;clear HX
  go_wp2_with fail
  go_region_with (first|(go_at_call 33;refine HC.out.mono ?_;rintro e' w3 ⟨rfl,rfl⟩))
  all_goals
   obtain⟨hk3,hst⟩:=HS.out w2.drew (w2.setCell (g,fr.L.length) (.int .i64 ((n1.count:Nat):Int))).drew (hBd w2) rfl;have HST:=zH hst;have c5:=(pK.out.1.af (hk3.block xx pK.out.2)).c1;clear HS HC hst hk3 d3 d4 hcr hfr;generalize (w2.setCell (g,fr.L.length) (.int .i64 ((n1.count:Nat):Int))).drew=w3 at *
   go_wp2_with fail
   refine HST.out.mono ?_;rintro e' w4 ⟨rfl,hI2,k4⟩;have HI2:=zH hI2;have c6:=(pK.out.1.af (k4.block xx pK.out.2)).c1;clear HST hI2 k4 c5;go_wp2;go_roundw
   case rel=>exact⟨j+1,fr.pg,lF,by go_num,rfl,rfl,by omega,HI2⟩
   case measure=>simp[intOf];omega
end
theorem Ji{i:UInt64}{V:List LV}:i∈bP V↔∃x∈V,i∈x.2:=by unfold bP;exact List.mem_flatMap
theorem df.EL{C:List bV}{lv vZ:List LV}{m:List KV}{aA:List UInt64}{q:Nat}(h:df (dE C lv) m)(hN:bP vZ=bP lv)(hid:∀i∈aA,i∈bP lv)
  (hx:∀x∈vZ,∀i∈x.2,(i∈aA/\x.1=q)\/(i∉aA/\∃y∈lv,y.1=x.1/\i∈y.2)):df (dE C vZ) (iW m aA (UInt64.ofNat q)):=by
 have Yo:bP (dE C vZ)=bP (dE C lv):=by rw[sQ,sQ,hN]
 have EM:=h.uq;rw[sQ]at EM
 have hout:∀i∈aA,i∉bP (dE C []):=λ i hi hm=>by
  rw[sQ,bP,List.flatMap_nil,jw]at hm;rw[dH]at EM;obtain⟨a1,a2,a3⟩:=bF.1 EM;obtain⟨b1,b2,b3⟩:=bF.1 a2;rcases cB.1 hm with hm|hm
  ·exact a3 i hm i (bR _ (hid i hi)) rfl
  exact b3 i (hid i hi) i hm rfl
 refine⟨λ x hxm i hi=>?_,λ y hy=>?_,by rw[Yo];exact h.uq⟩
 ·rcases(yV C vZ).1 hxm with h1|h1
  ·rcases hx x h1 i hi with⟨h2,h3⟩|⟨h2,y,hy,h3,h4⟩
   ·exact(Gr aA m).2 (.inl ⟨h2,by rw[h3]⟩)
   exact(Gr aA m).2 (.inr ⟨h2,by rw[<-h3];exact h.pl y ((yV C lv).2 (.inl hy)) i h4⟩)
  exact(Gr aA m).2 (.inr ⟨λ h2=>hout i h2 (Ji.2 ⟨x,h1,hi⟩),h.pl x ((yV C lv).2 (.inr h1)) i hi⟩)
 rw[Yo];rcases(Gr aA m).1 hy with⟨h1,_⟩|⟨_,h1⟩
 ·rw[sQ];exact bR _ (fE _ (hid _ h1))
 exact h.ky y h1
theorem df.same{C:List bV}{lv vZ:List LV}{m:List KV}(h:df (dE C lv) m)(he:vZ=lv):df (dE C vZ) m:=by rw[he];exact h
def vG(A B:AP)(P l:List Nat)(q:Nat):Prop:=∀p∈P,B.c p=if p∈l then fM (A.c p) q else A.c p
theorem nG.toP{A B:AP}{l:List Nat}{q:Nat}(h:nG A B l q)(P:List Nat):vG A B P l q:=λ p _=>h.c p
section
variable{A B:AP}{P l:List Nat}{q e up:Nat}{t:SS}
theorem vG.stay(h:vG A B P l q){p:Nat}(hp:p∈P)(hl:p∉l):aU B p=aU A p:=by
 unfold aU;rw[h p hp,if_neg hl]
theorem vG.turn(h:vG A B P l q){p:Nat}(hp:p∈P)(hl:p∈l)(aJ:504<=(A.c p).length)(hq:q<4294967296){x:Sn}(hx:aU A p=some x):aU B p=some {x with up:=q}:=by
 unfold aU;rw[h p hp,if_pos hl];exact XP _ _ aJ hq hx
theorem eT.stay(k:eT (aU A) e up t)(h:vG A B P l q)(hP:∀p∈t.ps,p∈P)(hl:∀p∈t.ps,p∉l):eT (aU B) e up t:=k.same (λ p hp=>h.stay (hP p hp) (hl p hp))
theorem eT.turn(k:eT (aU A) e up t)(h:vG A B P l q)(hP:∀p∈t.ps,p∈P)(cK:t.pg∈l)(hl:∀p∈t.ps.tail,p∉l)(aJ:∀p∈P,504<=(A.c p).length)(hq:q<4294967296):eT (aU B) e q t:=by
 obtain⟨x,hx,hn,hf⟩:=id k;refine k.qo q ?_ (λ p hp=>h.stay (hP p (List.mem_of_mem_tail hp)) (hl p hp));rw[h.turn (hP _ hn.mem) cK (aJ _ (hP _ hn.mem)) hq hx,hx];rfl
end
theorem Lp{ae:List SS}(hk:∀t∈ae,t.ps=t.pg::t.ps.tail)(hn:(bI ae).Nodup):(bJ ae).Nodup/\(∀t∈ae,∀p∈t.ps.tail,p∉bJ ae):=by
 have hm:∀t∈ae,t.pg∈t.ps:=λ t ht=>by rw[hk t ht];exact gZ ..
 induction ae with
 | nil=>exact⟨by simp[bJ],λ t ht=>by cases ht⟩
 | cons t r ih=>
  rw[Ao]at hn;obtain⟨h1,h2,h3⟩:=bF.1 hn;obtain⟨h4,h5⟩:=ih (λ u hu=>hk u (eu _ hu)) h2 (λ u hu=>hm u (eu _ hu));have hmt:=hm t (gZ ..);have hmr:∀u∈r,u.pg∈bI r:=λ u hu=>kP.2 ⟨u,hu,hm u (eu _ hu)⟩;refine⟨?_,λ u hu p hp hmm=>?_⟩
  ·show(t.pg::bJ r).Nodup;rw[dL];refine⟨λ hm=>?_,h4⟩;obtain⟨u,hu,he⟩:=tZ (l:=r) hm;exact h3 t.pg hmt t.pg (he▸hmr u hu) rfl
  rcases aX.1 hmm with rfl|hm2
  ·rcases aX.1 hu with rfl|hu
   ·rw[hk u (gZ ..),dL]at h1;exact h1.1 hp
   exact h3 t.pg hmt t.pg (kP.2 ⟨u,hu,List.mem_of_mem_tail hp⟩) rfl
  rcases aX.1 hu with rfl|hu
  ·obtain⟨v,hv,he⟩:=tZ (l:=r) hm2;exact h3 p (List.mem_of_mem_tail hp) p (he▸hmr v hv) rfl
  exact h5 u hu p hp hm2
section
variable{A B:AP}{rt aC:Nat}{m:List KV}{qs:List Nat}{C:List bV}{fr:bV}{e:Nat}{s s1 s2:SS}{n:Sn}
theorem ZI.join(hk1:eT (aU B) e fr.pg s1)(hk2:eT (aU B) e fr.pg s2)(hR:bZ B rt aC (s1.ps++(s2.ps++aT (fr::C))) m qs)(hV:df (dE (fr::C) (s1.lv++s2.lv)) m)(hc:Ctx (aU B) (fr::C) e s1.pg)(hr:EE s1.pg (fr::C)=rt) :
  ZI B rt aC m qs C (e+1) (jC fr.pg (fr.L++s1::s2::fr.R)) (bO (aL C) (fr.L++s1::s2::fr.R)):=by
 obtain⟨c1,c2,c3,c4,c5⟩:=hc;refine⟨hR.perm ?_,?_,O9 (λ t ht=>?_),c5,hr⟩
 ·show(s1.ps++(s2.ps++fr.pg::(bI fr.L++bI fr.R++aT C))).Perm (fr.pg::bI (fr.L++s1::s2::fr.R)++aT C);rw[vS,Ao,Ao,List.perm_iff_count];intro a;simp only[List.count_append,List.count_cons];omega
 ·refine hV.same (lv:=_) (C:=C) (vZ:=cu (fr.L++s1::s2::fr.R)) ?_;show cu (fr.L++s1::s2::fr.R)=cu fr.L++(s1.lv++s2.lv)++cu fr.R;rw[BS,Cb,Cb];simp only[dH]
 rcases cB.1 ht with h|h
 ·exact c2 t (bR _ h)
 rcases aX.1 h with rfl|h
 ·exact hk1
 rcases aX.1 h with rfl|h
 ·exact hk2
 exact c2 t (fE _ h)
end
theorem df.EN{C:List bV}{lv vZ:List LV}{m:List KV}(h:df (dE C lv) m)(hN:bP vZ=bP lv)(hx:∀x∈vZ,∀i∈x.2,∃y∈lv,y.1=x.1/\i∈y.2):df (dE C vZ) m:=by
 have:=h.EL (vZ:=vZ) (aA:=[]) (q:=0) hN (by simp) (λ x hx2 i hi=>.inr ⟨by simp,hx x hx2 i hi⟩);exact this
theorem OB(X Y:List LV)(p:Nat)(a:List UInt64):bP (X++(p,a)::Y)=bP X++(a++bP Y):=by simp[bP]
theorem df.move{C:List bV}{X Y:List LV}{m:List KV}{p q:Nat}{a:List UInt64}(h:df (dE C (X++(p,a)::Y)) m):df (dE C (X++(q,a)::Y)) (iW m a (UInt64.ofNat q)):=by
 have EM:=h.uq;rw[sQ,OB,dH,dH,dH]at EM;obtain⟨_,a2,_⟩:=bF.1 EM;obtain⟨_,a4,a5⟩:=bF.1 a2;obtain⟨_,_,a6⟩:=bF.1 a4;refine h.EL (by rw[OB,OB]) (λ i hi=>by rw[OB];exact fE _ (bR _ hi)) (λ x hx i hi=>?_);rcases cB.1 hx with h1|h1
 ·exact .inr ⟨λ h2=>a5 i (Ji.2 ⟨x,h1,hi⟩) i (bR _ h2) rfl,x,bR _ h1,rfl,hi⟩
 rcases aX.1 h1 with rfl|h1
 ·exact .inl ⟨hi,rfl⟩
 exact .inr ⟨λ h2=>a6 i h2 i (bR _ (Ji.2 ⟨x,h1,hi⟩)) rfl,x,fE _ (eu _ h1),rfl,hi⟩
theorem df.split{C:List bV}{X Y:List LV}{m:List KV}{p:Nat}{a b:List UInt64}(h:df (dE C (X++(p,a++b)::Y)) m):df (dE C (X++(p,a)::(p,b)::Y)) m:=by
 refine h.EN (by simp[bP]) (λ x hx i hi=>?_);rcases cB.1 hx with h1|h1
 ·exact⟨x,bR _ h1,rfl,hi⟩
 rcases aX.1 h1 with rfl|h1
 ·exact⟨(p,a++b),by simp,rfl,bR _ hi⟩
 rcases aX.1 h1 with rfl|h1
 ·exact⟨(p,a++b),by simp,rfl,fE _ hi⟩
 exact⟨x,by simp[h1],rfl,hi⟩
theorem df.merge{C:List bV}{X Y:List LV}{m:List KV}{p:Nat}{a b:List UInt64}(h:df (dE C (X++(p,a)::(p,b)::Y)) m):df (dE C (X++(p,a++b)::Y)) m:=by
 refine h.EN (by simp[bP]) (λ x hx i hi=>?_);rcases cB.1 hx with h1|h1
 ·exact⟨x,bR _ h1,rfl,hi⟩
 rcases aX.1 h1 with rfl|h1
 ·rcases cB.1 hi with hi|hi
  ·exact⟨(p,a),by simp,rfl,hi⟩
  exact⟨(p,b),by simp,rfl,hi⟩
 exact⟨x,by simp[h1],rfl,hi⟩
def Body(e up:Nat)(n:Sn)(ae:List SS):Prop:=
 (e=0/\ae=[]/\∃aA,n=⟨true,up,aA,[],[]⟩)\/(0<e/\n=bO up ae)
def aM(pg:Nat)(n:Sn)(ae:List SS):SS:=⟨pg,(if n.leaf then [(pg,n.aA)] else [])++cu ae,pg::bI ae⟩
theorem xt6(pg up:Nat)(aA:List UInt64):aM pg ⟨true,up,aA,[],[]⟩ []=⟨pg,[(pg,aA)],[pg]⟩:=by simp[aM,cu,bI]
theorem EO(pg up:Nat)(ae:List SS):aM pg (bO up ae) ae=jC pg ae:=by simp[aM,bO,jC]
theorem nU.body{f:Nat->Option Sn}{e up:Nat}{s:SS}{n:Sn}(h:nU f e up s n):∃ae,Body e up n ae/\(∀t∈ae,eT f (e-1) s.pg t)/\s=aM s.pg n ae:=by
 cases e with
 | zero=>
  obtain⟨aA,rfl,h2,h3⟩:=h;refine⟨[],.inl ⟨rfl,rfl,aA,rfl⟩,(λ t ht=>by cases ht),?_⟩;rw[xt6]
  cases s
  simp only at h2 h3;subst h2 h3;rfl
 | succ e=>
  obtain⟨ae,rfl,h2,h3,h4⟩:=h;refine⟨ae,.inr ⟨Nat.succ_pos _,rfl⟩,h2,?_⟩;rw[show(⟨false,up,[],bJ ae,dm ae⟩:Sn)=bO up ae from rfl,EO]
  cases s
  simp only at h3 h4;subst h3 h4;rfl
theorem Body.is{f:Nat->Option Sn}{e up pg:Nat}{n:Sn}{ae:List SS}(h:Body e up n ae)(hk:∀t∈ae,eT f (e-1) pg t):nU f e up (aM pg n ae) n:=by
 rcases h with⟨rfl,rfl,aA,rfl⟩|⟨h0,rfl⟩
 ·exact⟨aA,rfl,by simp[aM,cu],by simp[aM,bI]⟩
 obtain⟨e,rfl⟩:∃e',e=e'+1:=⟨e-1,by omega⟩;rw[EO];exact O9 hk
theorem Body.size{e up:Nat}{n:Sn}{ae:List SS}(h:Body e up n ae):n.up=up/\(n.leaf=true->e=0/\n.aA.length=n.size/\ae=[]/\n.ah=[]/\n.au=[])/\(n.leaf=false->0<e/\ae.length=n.size/\n.aA=[]/\n.ah=bJ ae/\n.au=dm ae):=by
 rcases h with⟨rfl,rfl,aA,rfl⟩|⟨h0,rfl⟩
 ·exact⟨rfl,λ _=>⟨rfl,by simp[Sn.size],rfl,rfl,rfl⟩,(λ h=>by cases h)⟩
 exact⟨rfl,(λ h=>by cases h),λ _=>⟨h0,by simp[Sn.size,bO,bJ],rfl,rfl,rfl⟩⟩
theorem Body.ah{e up:Nat}{n:Sn}{ae:List SS}(h:Body e up n ae):n.ah=bJ ae/\n.au=dm ae:=by
 rcases h with⟨rfl,rfl,aA,rfl⟩|⟨h0,rfl⟩
 ·exact⟨rfl,rfl⟩
 exact⟨rfl,rfl⟩
theorem Body.aS{e up:Nat}{n:Sn}{ae:List SS}(h:Body e up n ae)(i:Nat):Body e up (aS n i) (ae.take i)/\(Go.Proofs.YtlipgbnnbefhjaaGreatDoor.aS n i).leaf=n.leaf/\(Go.Proofs.YtlipgbnnbefhjaaGreatDoor.aS n i).aA=n.aA.take i:=by
 rcases h with⟨rfl,rfl,aA,rfl⟩|⟨h0,rfl⟩
 ·exact⟨.inl ⟨rfl,by simp,aA.take i,rfl⟩,rfl,rfl⟩
 refine⟨.inr ⟨h0,?_⟩,rfl,by simp[Go.Proofs.YtlipgbnnbefhjaaGreatDoor.aS,bO]⟩;simp[Go.Proofs.YtlipgbnnbefhjaaGreatDoor.aS,bO,bJ,dm,List.map_take]
theorem Body.aV{e up:Nat}{n:Sn}{ae:List SS}(h:Body e up n ae)(i:Nat):Body e up (aV n i) (ae.drop i)/\(Go.Proofs.YtlipgbnnbefhjaaGreatDoor.aV n i).leaf=n.leaf/\(Go.Proofs.YtlipgbnnbefhjaaGreatDoor.aV n i).aA=n.aA.drop i:=by
 rcases h with⟨rfl,rfl,aA,rfl⟩|⟨h0,rfl⟩
 ·exact⟨.inl ⟨rfl,by simp,aA.drop i,rfl⟩,rfl,rfl⟩
 refine⟨.inr ⟨h0,?_⟩,rfl,by simp[Go.Proofs.YtlipgbnnbefhjaaGreatDoor.aV,bO]⟩;simp[Go.Proofs.YtlipgbnnbefhjaaGreatDoor.aV,bO,bJ,dm,List.map_drop]
theorem Sn.kX(n:Sn)(hn:n.leaf=true->n.ah=[])(hm:n.leaf=false->n.aA=[])(i:Nat):(aS n i).size=min i n.size/\(aV n i).size=n.size-i/\(aS n i).ax=n.ax/\(aV n i).ax=n.ax:=by
 cases hl:n.leaf with
 | true=>simp[aS,aV,Sn.size,Sn.ax,hl,hn hl]
 | false=>simp[aS,aV,Sn.size,Sn.ax,hl,hm hl]
theorem Body.count{e up:Nat}{n:Sn}{ae:List SS}{pg:Nat}(h:Body e up n ae):n.count=(aM pg n ae).l.length:=by
 rcases h with⟨rfl,rfl,aA,rfl⟩|⟨h0,rfl⟩
 ·simp[Sn.count,aM,SS.l,bP,cu]
 simp[Sn.count,bO,aM,SS.l,Jf]
section
variable{E F:Nat->Prop}{W W':World}{P D Q T rt aC k nb e up:Nat}{A:AP}{n:Sn}{Pg qs:List Nat}{m:List KV}{ae:List SS}
theorem Su(h:aD E W P D Q T rt aC A k)(hp:bZ A rt aC Pg m qs)(hf:¬A.Full)(hn:gK E W nb n)(hx:bA n)(hb:Body e up n ae)(dR:dD n)(hks:∀t∈ae,∃old,eT (aU A) (e-1) old t)(hsub:∀p∈bI ae,p∈Pg)(hnd:(bI ae).Nodup)(hk:k+60000<900000000)(aY:m.length+600<=14*(A.ay+qs.length)) :
  Calls Tryz.prog 103 #[.pointer Q,.pointer nb] W λ e' w'=>e'= .returned (.tuple #[.int .i64 A.next,.int .i64 0])/\∃B bK k',aD E w' P D Q T rt aC B k'/\k'<=k+200+1100*n.aA.length/\Kept E W w'/\bZ B rt aC (A.next::Pg) (iW m n.aA (UInt64.ofNat A.next)) bK/\A.Reach B/\vG A B Pg (bJ ae) A.next/\eT (aU B) e up (aM A.next n ae)/\A.next∉Pg/\B.ay+1+bK.length=A.ay+qs.length:=by
 have hnx:=AP.iX hp.good hf;have hnn:A.next∉Pg:=λ hm=>(hp.take hf (s:=UK.bW 504) (UK.lI _)).2.2.2.2.2 (bR _ hm);have hz:(504:Nat)<=(UK.bW 504).length:=by rw[UK.lI];exact aZ _
 have hup:=hb.size.1;obtain⟨eP,hcnt⟩:=hb.ah
 cases hl:n.leaf with
 | true=>
  obtain⟨rfl,_,rfl,_,_⟩:=hb.size.2.1 hl;refine(xod h hp hf hn hx hl hk aY).mono ?_;rintro e' w' ⟨rfl,B,bK,k',hs,hk2,kp,rp,re,sm,cn,ro⟩;refine⟨rfl,B,bK,k',hs,by omega,kp,rp,re,λ p gM=>by rw[if_neg (by simp[bJ])];exact sm p gM,⟨n,?_,hb.is (λ t ht=>by cases ht),dR⟩,hnn,ro⟩;show aU B A.next=_;unfold aU;rw[cn,ED _ _ hz hx]
 | false=>
  obtain⟨he,_,jd,_,_⟩:=hb.size.2.2 hl
  have hki:∀t∈ae,∃m,nU (aU A) (e-1) m.up t m:=λ t ht=>by
   obtain⟨old,x,_,hx2,_⟩:=hks t ht;exact⟨x,by rw[hx2.EF];exact hx2⟩
  have hkn:∀t∈ae,t.pg∈t.ps:=λ t ht=>by obtain⟨x,hx⟩:=hki t ht;exact hx.mem
  have kG:(bJ ae).Nodup/\∀t∈ae,∀p∈t.ps.tail,p∉bJ ae:=by
   exact Lp (λ t ht=>by obtain⟨x,hx⟩:=hki t ht;exact hx.ps) hnd
  refine(xm1 h hp hf hn hx hl (λ c hc=>?_) (by rw[eP];exact kG.1) hk).mono ?_
  ·rw[eP]at hc;obtain⟨t,ht,rfl⟩:=tZ hc;exact hsub _ (kP.2 ⟨t,ht,hkn t ht⟩)
  rintro e' w' ⟨rfl,B,k',hs,hk2,kp,rp,re,sm,cn,ro⟩;rw[jd];have had:vG A B Pg (bJ ae) A.next:=λ p gM=>by rw[sm p gM,eP]
  refine⟨rfl,B,qs,k',hs,by omega,kp,rp,re,had,⟨n,?_,hb.is (λ t ht=>?_),dR⟩,hnn,by omega⟩
  ·show aU B A.next=_;unfold aU;rw[cn,ED _ _ hz hx]
  obtain⟨old,hkk⟩:=hks t ht;exact hkk.turn had (λ p gM=>hsub p (kP.2 ⟨t,ht,gM⟩)) (gT.2 ⟨t,ht,rfl⟩) (kG.2 t ht) (λ p gM=>Nat.le_of_eq (hp.len p (hp.dO gM)).symm) (by omega)
end
theorem Yp{S:Nat->Prop}{W:World}{nb e up:Nat}{n:Sn}{ae:List SS}(hn:Ak S W nb n)(hS:∀g,S g->g<W.heap.size/\g≠nb)(hb:Body e up n ae)(h2:2<=n.size)(iy:n.size<=100)(hsm:∀k∈n.au,k<4294967296) :
  Calls Tryz.prog 102 #[.pointer nb] W (Gu S W nb n):=by
 rcases hb with⟨rfl,rfl,aA,rfl⟩|⟨h0,rfl⟩
 ·simp only[Sn.size,List.length_nil,iP]at h2 iy;exact xw8 hn hS h2 iy
 simp only[Sn.size,bO,List.length_nil,gq]at h2 iy;exact xt3 hn hS (by simp[bJ,dm]) hsm h2 iy
theorem xlm(n:Sn)(hm:n.leaf=false->n.aA=[])(i:Nat):(aS n i).aA++(aV n i).aA=n.aA:=by
 cases hl:n.leaf with
 | true=>simp[aS,aV,hl]
 | false=>simp[aS,aV,hl,hm hl]
theorem qp.Dh{e up:Nat}{n:Sn}{ae:List SS}(hb:Body e up n ae)(iy:n.size<=100)(hsm:∀k∈n.au,k<4294967296):qp n:=by
 rcases hb with⟨rfl,rfl,aA,rfl⟩|⟨h0,rfl⟩
 ·simp only[Sn.size,List.length_nil,iP]at iy;exact⟨iy,by simp,by simp,hsm,λ _=>⟨rfl,rfl⟩,(λ h=>by cases h)⟩
 simp only[Sn.size,bO,List.length_nil,gq]at iy;exact⟨by simp[bO],iy,by simpa[bO,bJ,dm]using iy,hsm,(λ h=>by cases h),λ _=>rfl⟩
section
variable{A B:AP}{rt aC e up:Nat}{m:List KV}{qs bK:List Nat}{C:List bV}{s:SS}{n:Sn}{ae:List SS}
theorem xz0:∀(ae:List SS) (k:Nat),k∈dm ae->k<=(bP (cu ae)).length:=λ ae k hk=>by
 rw[<-Jf]
 have gen:∀(l:List Nat),k∈l->k<=l.sum:=λ l=>by
  induction l with
  | nil=>intro h;cases h
  | cons a r ih=>
   intro h;rw[List.sum_cons];rcases aX.1 h with rfl|h
   ·omega
   have:=ih h;omega
 exact gen _ hk
theorem ZI.small(h:ZI A rt aC m qs C e s n)(hb:Body e up n ae)(hs:s=aM s.pg n ae):∀k∈n.au,k<4294967296:=λ k hk=>by
 have h1:=h.len;have h2:=h.few;rcases hb with⟨rfl,rfl,aA,rfl⟩|⟨h0,rfl⟩
 ·cases hk
 have h3:=xz0 ae k hk;have h4:s.l=bP (cu ae):=by rw[hs,EO];rfl
 rw[h4]at h1;omega
theorem ZI.xy(h:ZI A rt aC m qs C e s n)(hs:s=aM s.pg n ae)(hk:∀t∈ae,eT (aU A) (e-1) s.pg t):∀k∈bJ ae,k<4294967296:=λ k hk2=>by
 obtain⟨t,ht,rfl⟩:=tZ hk2;obtain⟨x,_,hx,_⟩:=hk t ht;have hp:t.pg∈s.ps++aT C:=bR _ (by rw[hs];exact eu _ (kP.2 ⟨t,ht,hx.mem⟩));have h1:=h.rp.dO hp;have h2:=h.rp.good.ax;have h3:=h.rp.good.few;have h4:=h1.2.1;omega
theorem Lr{e up:Nat}{n:Sn}{ae:List SS}(hb:Body e up n ae)(hup:up<4294967296)(hsz:n.size<=n.ax)(hk:∀k∈bJ ae,k<4294967296)(hc:∀k∈n.au,k<4294967296):bA n:=by
 rcases hb with⟨rfl,rfl,aA,rfl⟩|⟨h0,rfl⟩
 ·simp only[Sn.size,Sn.ax,List.length_nil,iP,if_true]at hsz;exact⟨hup,λ _=>⟨hsz,rfl,rfl⟩,(λ h=>by cases h)⟩
 simp only[Sn.size,Sn.ax,bO,List.length_nil,gq]at hsz;exact⟨hup,(λ h=>by cases h),λ _=>⟨by show(bJ ae).length<=40;simpa using hsz,by simp[bO,bJ,dm],rfl,hk,hc⟩⟩
theorem ZI.pY(h:ZI A rt aC m qs C e s n):aL C<4294967296:=by
 cases C with
 | nil=>show 0<_;omega
 | cons fr C=>have:=h.xn.2.2;show fr.pg<_;omega
theorem ZI.halves(h:ZI A rt aC m qs C e s n)(hlt:n.ax<n.size)(hle:n.size<=n.ax+1)(hb:Body e up n ae)(hup:up<4294967296)(hs:s=aM s.pg n ae)(hk:∀t∈ae,eT (aU A) (e-1) s.pg t) :
  bA (aS n (n.size/2))/\bA (aV n (n.size/2))/\dD (aS n (n.size/2))/\dD (aV n (n.size/2))/\2<=n.size/\n.size<=100:=by
 have zP:n.ax=48\/n.ax=40:=by unfold Sn.ax;split<;>simp
 obtain⟨a1,a2,a3⟩:=hb.size;obtain⟨c1,c2,c3,c4⟩:=n.kX (λ hl=>(a2 hl).2.2.2.1) (λ hl=>(a3 hl).2.2.1) (n.size/2);have hkk:=h.xy hs hk;have hcc:=h.small hb hs
 have hcA:∀k∈(aS n (n.size/2)).au,k<4294967296:=λ k hk2=>hcc k (by
  unfold aS at hk2
  split at hk2
  ·exact hk2
  exact fI hk2)
 have hcB:∀k∈(aV n (n.size/2)).au,k<4294967296:=λ k hk2=>hcc k (by
  unfold aV at hk2
  split at hk2
  ·exact hk2
  exact fA hk2)
 refine⟨Lr (hb.aS _).1 hup (by rw[c1,c3];omega) (λ k hk2=>hkk k (by unfold bJ at hk2 ⊢;rw[List.map_take]at hk2;exact fI hk2)) hcA,Lr (hb.aV _).1 hup (by rw[c2,c4];omega) (λ k hk2=>hkk k (by unfold bJ at hk2 ⊢;rw[List.map_drop]at hk2;exact fA hk2)) hcB,?_,?_,by omega,by omega⟩
 ·unfold dD;rw[c1,c3];omega
 unfold dD;rw[c2,c4];omega
theorem uF(ae:List SS)(i:Nat):bI ae=bI (ae.take i)++bI (ae.drop i):=by rw[<-vS,gm]
theorem OC(ae:List SS)(i:Nat):cu ae=cu (ae.take i)++cu (ae.drop i):=by rw[<-BS,gm]
theorem xt8{pg:Nat}(hv:df (dE C (aM pg n ae).lv) m)(hb:Body e up n ae)(i q:Nat):df (dE C ((aM pg (aS n i) (ae.take i)).lv++(aM q (aV n i) (ae.drop i)).lv)) (iW m (aV n i).aA (UInt64.ofNat q)):=by
 obtain⟨_,a2,a3⟩:=hb.size
 cases hl:n.leaf with
 | true=>
  obtain⟨_,_,rfl,_⟩:=a2 hl;have e1:(aM pg n []).lv=[]++(pg,n.aA.take i++n.aA.drop i)::[]:=by simp[aM,hl,cu]
  rw[e1]at hv;have h2:=hv.split;have h3:df (dE C ([(pg,n.aA.take i)]++(pg,n.aA.drop i)::[])) m:=h2;have h4:=h3.move (q:=q);have e2:(aM pg (aS n i) (([]:List SS).take i)).lv++(aM q (aV n i) (([]:List SS).drop i)).lv=[(pg,n.aA.take i)]++(q,n.aA.drop i)::[]:=by simp[aM,aS,aV,hl,cu]
  rw[e2,show(aV n i).aA=n.aA.drop i by simp[aV,hl]];exact h4
 | false=>
  have hid:n.aA=[]:=(a3 hl).2.2.1
  have e2:(aM pg (aS n i) (ae.take i)).lv++(aM q (aV n i) (ae.drop i)).lv=(aM pg n ae).lv:=by
   simp only[aM,aS,aV,hl];simp only[vR,if_false,gH];exact(OC ae i).symm
  rw[e2,show(aV n i).aA=[] by simp[aV,hl,hid]];exact hv
end
structure Gy(A B:AP)(rt aC:Nat)(m:List KV)(qs bK:List Nat)(C:List bV)(e up:Nat)(s s1 s2:SS)(n1 n2:Sn)(m':List KV):Prop where
 k1:eT (aU B) e up s1
 k2:eT (aU B) e up s2
 rp:bZ B rt aC (s1.ps++(s2.ps++aT C)) m' bK
 rv:df (dE C (s1.lv++s2.lv)) m'
 cx:Ctx (aU B) C e s1.pg
 c1:n1.count=s1.l.length
 c2:n2.count=s2.l.length
 o1:qp n1
 o2:qp n2
 up1:n1.up=up
 reach:A.Reach B
 ay:B.ay+1+bK.length=A.ay+qs.length
 num:bP (s1.lv++s2.lv)=bP s.lv
 len:s1.ps.length+s2.ps.length=s.ps.length+1
section
variable{A B:AP}{rt aC e up:Nat}{m:List KV}{qs bK:List Nat}{C:List bV}{s:SS}{n:Sn}{ae:List SS}
theorem Yq(p q i:Nat)(n:Sn)(ae:List SS)(hb:Body e up n ae):bP ((aM p (aS n i) (ae.take i)).lv++(aM q (aV n i) (ae.drop i)).lv)=bP (aM p n ae).lv:=by
 rcases hb with⟨rfl,rfl,aA,rfl⟩|⟨h0,rfl⟩
 ·simp[aM,aS,aV,bP,cu]
 rw[EO]
 have:(aM p (aS (bO up ae) i) (ae.take i)).lv++(aM q (aV (bO up ae) i) (ae.drop i)).lv=cu ae:=by
  simp only[aM,aS,aV,bO,vR,if_false,gH];exact(OC ae i).symm
 rw[this];rfl
theorem ZI.two(h:ZI A rt aC m qs C e s n)(hlt:n.ax<n.size)(hle:n.size<=n.ax+1)(hb:Body e (aL C) n ae)(hs:s=aM s.pg n ae)(hk:∀t∈ae,eT (aU A) (e-1) s.pg t){more:Nat}
  (hR:bZ B rt aC (more::(s.ps++aT C)) (iW m (aV n (n.size/2)).aA (UInt64.ofNat more)) bK)
  (hre:(A.az s.pg (encS (A.c s.pg) (aS n (n.size/2)))).Reach B) (had:vG (A.az s.pg (encS (A.c s.pg) (aS n (n.size/2)))) B (s.ps++aT C) (bJ (ae.drop (n.size/2))) more)
  (hkb:eT (aU B) e (aL C) (aM more (aV n (n.size/2)) (ae.drop (n.size/2)))) (hro:B.ay+1+bK.length=A.ay+qs.length) :
  Gy A B rt aC m qs bK C e (aL C) s (aM s.pg (aS n (n.size/2)) (ae.take (n.size/2))) (aM more (aV n (n.size/2)) (ae.drop (n.size/2))) (aS n (n.size/2)) (aV n (n.size/2)) (iW m (aV n (n.size/2)).aA (UInt64.ofNat more)):=by
 obtain⟨f1,f2,t1,t2,g2,Gz⟩:=h.halves hlt hle hb h.pY hs hk;generalize n.size/2=i at *
 have hsub:∀p∈bI ae,p∈s.ps++aT C/\p≠s.pg:=λ p hp=>by
  have h1:=h.away.1;rw[hs]at h1 ⊢;exact⟨bR _ (eu _ hp),λ e=>h1 (e▸hp)⟩
 obtain⟨z1,z2,z3,z4⟩:=h.rp.az h.mem (s:=encS (A.c s.pg) (aS n i)) (by rw[Ah _ _ (by rw[h.rp.len _ h.has];omega) f1,h.rp.len _ h.has]) (λ e=>by rw[Jd _ _ (by rw[h.rp.len _ h.has];omega) f1,e]);have hA1:∀p,p≠s.pg->aU (A.az s.pg (encS (A.c s.pg) (aS n i))) p=aU A p:=λ p hp=>yj (z4 p hp)
 have hA2:aU (A.az s.pg (encS (A.c s.pg) (aS n i))) s.pg=some (aS n i):=by
  unfold aU;rw[AP.bG,if_pos rfl,ED _ _ (by rw[h.rp.len _ h.has];omega) f1]
 have hnd:(bI ae).Nodup:=by
  have:=(bF.1 h.rp.rD).1;rw[hs]at this;exact(dL.1 this).2
 have hkd:∀p∈bJ (ae.drop i),p∈bI (ae.drop i):=λ p hp=>by
  obtain⟨t,ht,rfl⟩:=tZ hp;obtain⟨x,_,hx,_⟩:=hk t (fA ht);exact kP.2 ⟨t,ht,hx.mem⟩
 have nJ:=hnd;rw[uF ae i]at nJ;have wh:=(bF.1 nJ).2.2;have hsp:s.pg∉bJ (ae.drop i):=λ hp=>(hsub s.pg (by rw[uF ae i];exact fE _ (hkd _ hp))).2 rfl
 have hcd:∀p∈aT C,p∉bJ (ae.drop i):=λ p hp hq=>by
  have h1:=(bF.1 h.rp.rD).2.2;refine h1 p ?_ p hp rfl;rw[hs];exact eu _ (by rw[uF ae i];exact fE _ (hkd _ hq))
 have hk1:eT (aU B) e (aL C) (aM s.pg (aS n i) (ae.take i)):=by
  refine⟨aS n i,?_,(hb.aS i).1.is (λ t ht=>?_),t1⟩
  ·show aU B s.pg=_;rw[had.stay h.mem hsp,hA2]
  have hmt:=fI ht;have h1:=hk t hmt;have h2:eT (aU (A.az s.pg (encS (A.c s.pg) (aS n i)))) (e-1) s.pg t:=h1.same (λ p hp=>hA1 p (hsub p (kP.2 ⟨t,hmt,hp⟩)).2);exact h2.stay had (λ p hp=>(hsub p (kP.2 ⟨t,hmt,hp⟩)).1) (λ p hp hq=>wh p (kP.2 ⟨t,ht,hp⟩) p (hkd _ hq) rfl)
 have aJ:((aM s.pg (aS n i) (ae.take i)).ps++(aM more (aV n i) (ae.drop i)).ps).Perm (more::s.ps):=by
  have e1:s.ps=s.pg::(bI (ae.take i)++bI (ae.drop i)):=by rw[<-uF];exact congrArg SS.ps hs
  rw[e1];show(s.pg::bI (ae.take i)++more::bI (ae.drop i)).Perm _;rw[List.perm_iff_count];intro a;simp only[List.count_append,List.count_cons];omega
 refine⟨hk1,hkb,hR.perm ?_,?_,h.cx.same _ _ _ (λ p hp=>?_),(hb.aS i).1.count,(hb.aV i).1.count,f1.ok,f2.ok,(hb.aS i).1.size.1,z2.trans hre,hro,?_,?_⟩
 ·have:=(aJ.append_right (aT C)).symm;rw[dH]at this;exact this
 ·have hv:=h.rv;rw[hs]at hv;exact xt8 hv hb i more
 ·rw[had.stay (fE _ hp) (hcd p hp),hA1 p (λ e=>h.away.2 (e▸hp))]
 ·rw[Yq _ _ _ _ _ hb,<-hs]
 have:=aJ.length_eq;rw[zl,dw]at this;exact this
end
section
variable{B E F:Nat->Prop}{W W':World}{P D Q T rt aC k nb e:Nat}{A:AP}{n:Sn}{qs:List Nat}{m:List KV}{C:List bV}{s:SS}{ka va aa:Option Addr}{kc vc ac:Nat}
def Sv(F B:Nat->Prop)(W w7:World)(P D Q T rt aC k:Nat)(A:AP)(m:List KV)(qs:List Nat)(C:List bV)(e:Nat)(s:SS)(n:Sn)(nb mb more:Nat):Prop:=
 ∃A' m' bK F' n1 n2 s1 s2,(∀j,F j->F' j)/\aD F' w7 P D Q T rt aC A' (k+210+1100*n.aA.length)/\gK F' w7 nb n1/\gK F' w7 mb n2/\s1.pg=s.pg/\s2.pg=more/\Gy A A' rt aC m qs bK C e (aL C) s s1 s2 n1 n2 m'/\Kept (λ j=>F j/\¬B j) W w7
theorem xw9(h:aD F W P D Q T rt aC A k)(hk:k+70000<900000000)(hz:ZI A rt aC m qs C e s n)(hlt:n.ax<n.size)(hle:n.size<=n.ax+1)(hn:eD B W nb n ka va aa kc vc ac)(hB:∀j,B j->F j)(hQ:¬B Q)(hT:¬B T)(ht:¬B 0)(hF:¬A.Full)(aY:m.length+600<=14*(A.ay+qs.length)) :
  Calls Tryz.prog 102 #[.pointer nb] W λ e' w5=>∃mb:Nat,e'= .returned (.pointer mb) /\
   Calls Tryz.prog 99 #[.pointer Q,.int .i64 s.pg,.pointer nb] w5 λ e' w6=>e'= .returned (.int .i64 0) /\
    Calls Tryz.prog 103 #[.pointer Q,.pointer mb] w6 λ e' w7=>∃more:Nat,e'= .returned (.tuple #[.int .i64 more,.int .i64 0])/\Sv F B W w7 P D Q T rt aC k A m qs C e s n nb mb more:=by
 obtain⟨ae,hb,hkk,hs⟩:=hz.ni.body;obtain⟨f1,f2,t1,t2,g2,Gz⟩:=hz.halves hlt hle hb hz.pY hs hkk;obtain⟨hw,hwn⟩:=hn.wins;refine(Yp hw hwn hb g2 Gz (hz.small hb hs)).mono ?_;rintro e' w5 ⟨mb,rfl,n1,n2,hmb,o7,o⟩;refine⟨mb,rfl,?_⟩;have rG:B nb:=hn.2 nb (.inl rfl);have k5:Kept (λ j=>j<W.heap.size/\¬B j) W w5:=⟨o.os,o.tape,o.output,o.size,λ j hj=>o.block j hj.1 (λ e=>hj.2 (e▸rG))⟩;have hs5:=h.own hB hQ hT ht k5
 have r1:gK (λ j=>F j\/(W.heap.size<=j/\j<w5.heap.size)) w5 nb (aS n (n.size/2)):=n1.node.mono (λ g hg=>.inl (hB g (by
  rcases hg with hg|hg
  ·exact hn.2 g (.inr hg)
  exact hg▸rG)))
 have r2:gK (λ j=>F j\/(W.heap.size<=j/\j<w5.heap.size)) w5 mb (aV n (n.size/2)):=n2.node.mono (λ g hg=>.inr (by
  rcases hg with hg|hg
  ·exact⟨hg.1,hg.2.1⟩
  exact hg▸⟨hmb,o7⟩))
 refine(Dc hs5 (by omega) hz.has r1 f1).mono ?_;rintro e' w6 ⟨rfl,hs6,k6⟩;refine⟨rfl,?_⟩;obtain⟨z1,z2,z3,z4⟩:=hz.rp.az hz.mem (s:=encS (A.c s.pg) (aS n (n.size/2))) (by rw[Ah _ _ (by rw[hz.rp.len _ hz.has];omega) f1,hz.rp.len _ hz.has]) (λ e=>by rw[Jd _ _ (by rw[hz.rp.len _ hz.has];omega) f1,e])
 have hsub:∀p∈bI ae,p∈s.ps++aT C/\p≠s.pg:=λ p hp=>by
  have h1:=hz.away.1;rw[hs]at h1 ⊢;exact⟨bR _ (eu _ hp),λ e=>h1 (e▸hp)⟩
 have hnd:(bI ae).Nodup:=by
  have:=(bF.1 hz.rp.rD).1;rw[hs]at this;exact(dL.1 this).2
 have jO:¬(A.az s.pg (encS (A.c s.pg) (aS n (n.size/2)))).Full:=by rw[z1.good.full,z3,<-hz.rp.good.full];exact hF
 refine(Su (ae:=ae.drop (n.size/2)) hs6 z1 jO (r2.kept k6) f2 (hb.aV _).1 t2 (λ t ht=>⟨s.pg,?_⟩) (λ p hp=>(hsub p (by rw[uF ae (n.size/2)];exact fE _ hp)).1) (by rw[uF ae (n.size/2)]at hnd;exact(bF.1 hnd).2.1) (by omega) (by rw[z3];exact aY)).mono ?_
 ·have hmt:=fA ht;exact(hkk t hmt).same (λ p hp=>yj (z4 p (hsub p (kP.2 ⟨t,hmt,hp⟩)).2))
 rintro e' w7 ⟨rfl,A',bK,k',hs7,Ql,k7,rp,re,ad,kb,hnx,ro⟩;refine⟨_,rfl,A',_,bK,_,_,_,aM s.pg (aS n (n.size/2)) (ae.take (n.size/2)),aM (A.az s.pg (encS (A.c s.pg) (aS n (n.size/2)))).next (aV n (n.size/2)) (ae.drop (n.size/2)),λ j hj=>.inl hj,hs7.up (by rw[(hb.aV _).2.2,zd]at Ql;omega),(r1.kept k6).kept k7,(r2.kept k6).kept k7,rfl,rfl,hz.two hlt hle hb hs hkk rp re ad kb (by rw[ro,z3]),?_⟩;exact(k5.mono (λ j hj=>⟨h.pz.there j hj.1,hj.2⟩)).trans ((k6.trans k7).mono (λ j hj=>.inl hj.1))
end
end Go.Proofs.YtlipgbnnbefhjaaGreatDoor
