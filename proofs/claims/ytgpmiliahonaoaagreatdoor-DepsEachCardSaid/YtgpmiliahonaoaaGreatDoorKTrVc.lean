/- Facts on texts and trees on pages. -/
import Derived.Test.YtgpmiliahonaoaaGreatDoorKTrTc
import Derived.Deep.RegionHeld3
set_option maxRecDepth 100000
set_option maxHeartbeats 8000000
set_option linter.unusedSimpArgs false
namespace Go.Proofs.YtgpmiliahonaoaaGreatDoor
open Go.RowKit
open UK (str aF nth Only)
structure dN(ag:List UInt64)(k:UInt64)(i:Nat):Prop where
 le:i<=ag.length
 below:∀κ∈ag.take i,κ.toNat<=k.toNat
 above:∀κ∈ag.drop i,k.toNat<κ.toNat
theorem AL(a b:List Sb):gM (a++b)=gM a++gM b:=by unfold gM;rw[List.flatMap_append]
theorem tV(a b:List Sb):dP (a++b)=dP a++dP b:=by unfold dP;rw[List.flatMap_append]
theorem uG(s:Sb)(b:List Sb):gM (s::b)=s.l++gM b:=by unfold gM;rw[iL]
theorem uH(s:Sb)(b:List Sb):dP (s::b)=s.ps++dP b:=by unfold dP;rw[iL]
theorem F6{α:Type}{l:List α}{i:Nat}{s:α}(h:l[i]?=some s):l=l.take i++s::l.drop (i+1):=by
 obtain⟨hi,e⟩:=dE.1 h;have:=iq i l;rw[lm hi,e]at this;exact this.symm
theorem XX:∀{ks:List UInt64} {ss:List Sb} {it:It},it∈mD ks ss->(∃κ∈ks,it= .k κ)\/(∃s∈ss,it= .s s)
 | [],_,_,h=>by simp[mD]at h
 | _::_,[],_,h=>by simp[mD]at h
 | κ::ks,s::ss,it,h=>by
  rcases aN.1 h with h|h
  ·exact .inr ⟨s,by simp,h⟩
  rcases aN.1 h with h|h
  ·exact .inl ⟨κ,by simp,h⟩
  rcases XX h with⟨a,b,c⟩|⟨a,b,c⟩
  ·exact .inl ⟨a,by simp[b],c⟩
  exact .inr ⟨a,by simp[b],c⟩
theorem XY:∀{ks:List UInt64} {ss:List Sb} {it:It},it∈l9 ks ss->(∃κ∈ks,it= .k κ)\/(∃s∈ss,it= .s s)
 | [],_,_,h=>by simp[l9]at h
 | _::_,[],_,h=>by simp[l9]at h
 | κ::ks,s::ss,it,h=>by
  rcases aN.1 h with h|h
  ·exact .inl ⟨κ,by simp,h⟩
  rcases aN.1 h with h|h
  ·exact .inr ⟨s,by simp,h⟩
  rcases XY h with⟨a,b,c⟩|⟨a,b,c⟩
  ·exact .inl ⟨a,by simp[b],c⟩
  exact .inr ⟨a,by simp[b],c⟩
theorem XZ{k:UInt64}:∀{ks:List UInt64} {ss:List Sb},ss.length=ks.length->(mD ks ss).Pairwise It.R->(∀κ∈ks,κ.toNat<=k.toNat)->∀s∈ss,∀x∈s.l,x.1.toNat<k.toNat
 | [],[],_,_,_=>by simp
 | [],_::_,h,_,_=>by simp at h
 | _::_,[],h,_,_=>by simp at h
 | κ::ks,t::ss,h,hp,hk=>by
  have h1:It.R (.s t) (.k κ):=(bR.1 hp).1 (.k κ) (by simp);have h2:=(bR.1 (bR.1 hp).2).2;intro s hs x hx;rcases aN.1 hs with rfl|hs
  ·have:=h1 x hx;have:=hk κ (by simp);omega
  exact XZ (by simpa using h) h2 (λ dM hk'=>hk dM (by simp[hk'])) s hs x hx
theorem Ya{k:UInt64}:∀{ks:List UInt64} {ss:List Sb},ss.length=ks.length->(l9 ks ss).Pairwise It.R->(∀κ∈ks,k.toNat<κ.toNat)->∀s∈ss,∀x∈s.l,k.toNat<x.1.toNat
 | [],[],_,_,_=>by simp
 | [],_::_,h,_,_=>by simp at h
 | _::_,[],h,_,_=>by simp at h
 | κ::ks,t::ss,h,hp,hk=>by
  have h1:It.R (.k κ) (.s t):=(bR.1 hp).1 (.s t) (by simp);have h2:=(bR.1 (bR.1 hp).2).2;intro s hs x hx;rcases aN.1 hs with rfl|hs
  ·have:=h1 x hx;have:=hk κ (by simp);omega
  exact Ya (by simpa using h) h2 (λ dM hk'=>hk dM (by simp[hk'])) s hs x hx
def It.lo(k:UInt64):It->Prop
 | .s u=>∀x∈u.l,x.1.toNat<k.toNat
 | .k κ=>κ.toNat<=k.toNat
def It.hi(k:UInt64):It->Prop
 | .s u=>∀x∈u.l,k.toNat<x.1.toNat
 | .k κ=>k.toNat<κ.toNat
theorem It.rF{a:It}{s t:Sb}{k:UInt64}(h:It.R a (.s s))(hk:It.lo k a)(ht:∀x∈t.l,x∈s.l\/x.1=k):It.R a (.s t):=by
 cases a with
 | s u=>
  intro x hx y hy;rcases ht y hy with h1|h1
  ·exact h x hx y h1
  rw[h1];exact hk x hx
 | k κ=>
  intro y hy;rcases ht y hy with h1|h1
  ·exact h y h1
  rw[h1];exact hk
theorem It.rG{a:It}{s t:Sb}{k:UInt64}(h:It.R (.s s) a)(hk:It.hi k a)(ht:∀x∈t.l,x∈s.l\/x.1=k):It.R (.s t) a:=by
 cases a with
 | s u=>
  intro x hx y hy;rcases ht x hx with h1|h1
  ·exact h x h1 y hy
  rw[h1];exact hk y hy
 | k κ=>
  intro y hy;rcases ht y hy with h1|h1
  ·exact h y h1
  rw[h1];exact hk
section
variable{P:Sb->Prop}{ag:List UInt64}{aj:List Sb}{k:UInt64}{i:Nat}{s:Sb}
theorem iV.cut(h:iV P ag aj)(hs:aj[i]?=some s):oW ag aj=mD (ag.take i) (aj.take i)++ .s s::l9 (ag.drop i) (aj.drop (i+1)):=by
 have hi:=(dE.1 hs).1;have hl:=h.len
 conv=>lhs;rw[F6 hs,<-iq i ag]
 exact DT _ _ _ _ _ (by rw[zt,zt];omega) (by rw[zd,zd];omega)
theorem iV.left(h:iV P ag aj)(hs:aj[i]?=some s)(hk:∀κ∈ag.take i,κ.toNat<=k.toNat):∀t∈aj.take i,∀x∈t.l,x.1.toNat<k.toNat:=by
 have hi:=(dE.1 hs).1;have hl:=h.len;have ho:=h.ord;rw[h.cut hs]at ho;exact XZ (by rw[zt,zt];omega) (List.pairwise_append.1 ho).1 hk
theorem iV.right(h:iV P ag aj)(hs:aj[i]?=some s)(hk:∀κ∈ag.drop i,k.toNat<κ.toNat):∀t∈aj.drop (i+1),∀x∈t.l,k.toNat<x.1.toNat:=by
 have hi:=(dE.1 hs).1;have hl:=h.len;have ho:=h.ord;rw[h.cut hs]at ho;exact Ya (by rw[zd,zd];omega) (bR.1 (List.pairwise_append.1 ho).2.1).2 hk
theorem NN{l:List Sb}(h:∀t∈l,∀x∈t.l,x.1.toNat<k.toNat):∀x∈gM l,x.1.toNat<k.toNat:=λ x hx=>by
 obtain⟨t,ht,hx⟩:=List.mem_flatMap.1 hx;exact h t ht x hx
theorem NP{l:List Sb}(h:∀t∈l,∀x∈t.l,k.toNat<x.1.toNat):∀x∈gM l,k.toNat<x.1.toNat:=λ x hx=>by
 obtain⟨t,ht,hx⟩:=List.mem_flatMap.1 hx;exact h t ht x hx
theorem Lb(hs:aj[i]?=some s):gM aj=gM (aj.take i)++(s.l++gM (aj.drop (i+1))):=by
 conv=>lhs;rw[F6 hs]
 rw[AL,uG]
theorem Ie(hs:aj[i]?=some s):dP aj=dP (aj.take i)++(s.ps++dP (aj.drop (i+1))):=by
 conv=>lhs;rw[F6 hs]
 rw[tV,uH]
theorem iV.side(h:iV P ag aj)(hs:aj[i]?=some s)(hk:dN ag k i) :
  (∀a∈mD (ag.take i) (aj.take i),It.lo k a) /\
  (∀a∈l9 (ag.drop i) (aj.drop (i+1)),It.hi k a):=by
 refine⟨λ a ha=>?_,λ a ha=>?_⟩
 ·rcases XX ha with⟨κ,pR,rfl⟩|⟨t,ht,rfl⟩
  ·exact hk.below κ pR
  exact h.left hs hk.below t ht
 rcases XY ha with⟨κ,pR,rfl⟩|⟨t,ht,rfl⟩
 ·exact hk.above κ pR
 exact h.right hs hk.above t ht
theorem iV.set(h:iV P ag aj)(hs:aj[i]?=some s)(hk:dN ag k i){t:Sb}(ht:∀x∈t.l,x∈s.l\/x.1=k)(hp:P t):iV P ag (aj.take i++t::aj.drop (i+1)):=by
 have hi:=(dE.1 hs).1;have hl:=h.len;have ho:=h.ord;obtain⟨hL,hR⟩:=h.side hs hk;rw[h.cut hs,List.pairwise_append,bR]at ho;obtain⟨o1,⟨o2,o3⟩,o4⟩:=ho;refine⟨by rw[zl,dn,zt,zd];omega,?_,λ u hu=>?_⟩
 ·have e:oW ag (aj.take i++t::aj.drop (i+1))=mD (ag.take i) (aj.take i)++ .s t::l9 (ag.drop i) (aj.drop (i+1)):=by
   conv=>lhs;rw[<-iq i ag]
   exact DT _ _ _ _ _ (by rw[zt,zt];omega) (by rw[zd,zd];omega)
  rw[e,List.pairwise_append,bR];refine⟨o1,⟨λ a ha=>It.rG (o2 a ha) (hR a ha) ht,o3⟩,λ a ha b hb=>?_⟩;rcases aN.1 hb with rfl|hb
  ·exact It.rF (o4 a ha _ (by simp)) (hL a ha) ht
  exact o4 a ha b (by simp[hb])
 rcases dD.1 hu with hu|hu
 ·exact h.all u (iM hu)
 rcases aN.1 hu with rfl|hu
 ·exact hp
 exact h.all u (jf hu)
theorem iV.ins(h:iV P ag aj)(hs:aj[i]?=some s)(hk:dN ag k i){t u:Sb}{κ:UInt64}(ht:∀x∈t.l,x∈s.l\/x.1=k)(hu:∀x∈u.l,x∈s.l\/x.1=k)
  (Cs:∀x∈t.l,x.1.toNat<κ.toNat) (Ct:∀x∈u.l,κ.toNat<=x.1.toNat) (ht0:t.l≠[]) (hu0:u.l≠[]) (hpt:P t) (Nq:P u) :
  iV P (ag.take i++κ::ag.drop i) (aj.take i++t::u::aj.drop (i+1)):=by
 have hi:=(dE.1 hs).1;have hl:=h.len;have ho:=h.ord;obtain⟨hL,hR⟩:=h.side hs hk;rw[h.cut hs,List.pairwise_append,bR]at ho;obtain⟨o1,⟨o2,o3⟩,o4⟩:=ho;obtain⟨xt,hxt⟩:=qW _ ht0;obtain⟨xu,hxu⟩:=qW _ hu0;refine⟨by rw[zl,zl,dn,dn,dn,zt,zd,zt,zd];omega,?_,λ v hv=>?_⟩
 ·have e:oW (ag.take i++κ::ag.drop i) (aj.take i++t::u::aj.drop (i+1))=mD (ag.take i) (aj.take i)++ .s t:: .k κ:: .s u::l9 (ag.drop i) (aj.drop (i+1)):=
   DT _ _ (κ::ag.drop i) t (u::aj.drop (i+1)) (by rw[zt,zt];omega) (by rw[dn,dn,zd,zd];omega)
  rw[e,List.pairwise_append,bR,bR,bR];refine⟨o1,⟨λ a ha=>?_,λ a ha=>?_,λ a ha=>It.rG (o2 a ha) (hR a ha) hu,o3⟩,λ a ha b hb=>?_⟩
  ·rcases aN.1 ha with rfl|ha
   ·exact Cs
   rcases aN.1 ha with rfl|ha
   ·intro x hx y hy;have:=Cs x hx;have:=Ct y hy;omega
   exact It.rG (o2 a ha) (hR a ha) ht
  ·rcases aN.1 ha with rfl|ha
   ·exact Ct
   have h1:=It.rG (o2 a ha) (hR a ha) hu
   cases a with
   | s v=>
    intro y hy;have:=h1 xu hxu y hy;have:=Ct xu hxu;omega
   | k dM=>
    have:=h1 xu hxu;have:=Ct xu hxu;show κ.toNat<dM.toNat;omega
  rcases aN.1 hb with rfl|hb
  ·exact It.rF (o4 a ha _ (by simp)) (hL a ha) ht
  rcases aN.1 hb with rfl|hb
  ·have h1:=It.rF (o4 a ha _ (by simp)) (hL a ha) ht
   cases a with
   | s v=>
    intro y hy;have:=h1 y hy xt hxt;have:=Cs xt hxt;omega
   | k dM=>
    have:=h1 xt hxt;have:=Cs xt hxt;show dM.toNat<κ.toNat;omega
  rcases aN.1 hb with rfl|hb
  ·exact It.rF (o4 a ha _ (by simp)) (hL a ha) hu
  exact o4 a ha b (by simp[hb])
 rcases dD.1 hv with hv|hv
 ·exact h.all v (iM hv)
 rcases aN.1 hv with rfl|hv
 ·exact hpt
 rcases aN.1 hv with rfl|hv
 ·exact Nq
 exact h.all v (jf hv)
theorem iV.DU{iD iN:List UInt64}{κ:UInt64}{mY lC:List Sb}(h:iV P (iD++κ::iN) (mY++lC))(hl:mY.length=iD.length+1) :
  iV P iD mY/\iV P iN lC/\(∀x∈gM mY,x.1.toNat<κ.toNat)/\(∀x∈gM lC,κ.toNat<=x.1.toNat):=by
 have h0:=h.len;have ho:=h.ord;rw[RN _ _ _ _ _ hl,List.pairwise_append,bR]at ho;obtain⟨o1,⟨o2,o3⟩,o4⟩:=ho;rw[zl,zl,dn]at h0;refine⟨⟨hl,o1,λ s hs=>h.all s (by simp[hs])⟩,⟨by omega,o3,λ s hs=>h.all s (by simp[hs])⟩,λ x hx=>?_,λ x hx=>?_⟩
 ·obtain⟨t,ht,hx⟩:=List.mem_flatMap.1 hx;exact o4 (.s t) ((KZ iD mY).subset (bQ.2 ⟨t,ht,rfl⟩)) (.k κ) (by simp) x hx
 obtain⟨t,ht,hx⟩:=List.mem_flatMap.1 hx;exact o2 (.s t) ((KZ iN lC).subset (bQ.2 ⟨t,ht,rfl⟩)) x hx
theorem Yb{κ:UInt64}:∀{ks:List UInt64} {ss:List Sb},ss.length=ks.length+1->(oW ks ss).Pairwise It.R->(∀s∈ss,s.l≠[])->(∀x∈gM ss,κ.toNat<=x.1.toNat)->∀dM∈ks,κ.toNat<dM.toNat
 | [],_,_,_,_,_=>by simp
 | _::_,[],h,_,_,_=>by simp at h
 | mF::ks,t::ss,h,hp,h0,hx=>by
  have h1:It.R (.s t) (.k mF):=(bR.1 hp).1 (.k mF) (by simp);have h2:=(bR.1 (bR.1 hp).2).2;intro dM hk;rcases aN.1 hk with rfl|hk
  ·obtain⟨x,hxt⟩:=qW _ (h0 t (by simp));have:=h1 x hxt;have:=hx x (by rw[uG];simp[hxt]);omega
  exact Yb (by simpa using h) h2 (λ s hs=>h0 s (by simp[hs])) (λ x hx'=>hx x (by rw[uG];simp[hx'])) dM hk
theorem Yc{κ:UInt64}:∀{ks:List UInt64} {ss:List Sb},ss.length=ks.length+1->(oW ks ss).Pairwise It.R->(∀s∈ss,s.l≠[])->(∀x∈gM ss,x.1.toNat<κ.toNat)->∀dM∈ks,dM.toNat<κ.toNat
 | [],_,_,_,_,_=>by simp
 | _::_,[],h,_,_,_=>by simp at h
 | _::_,[_],h,_,_,_=>by simp at h
 | mF::ks,t::u::ss,h,hp,h0,hx=>by
  have h2:=(bR.1 hp).2;have h1:It.R (.k mF) (.s u):=(bR.1 h2).1 (.s u) ((KZ ks (u::ss)).subset (by simp));have h3:=(bR.1 h2).2;intro dM hk;rcases aN.1 hk with rfl|hk
  ·obtain⟨x,hxt⟩:=qW _ (h0 u (by simp));have:=h1 x hxt;have:=hx x (by rw[uG,uG];simp[hxt]);omega
  exact Yc (by simpa using h) h3 (λ s hs=>h0 s (by simp[hs])) (λ x hx'=>hx x (by rw[uG];simp[hx'])) dM hk
theorem iV.join{iD iN:List UInt64}{κ:UInt64}{mY lC:List Sb}(h1:iV P iD mY)(h2:iV P iN lC)(n1:∀s∈mY,s.l≠[])(n2:∀s∈lC,s.l≠[])(hl:∀x∈gM mY,x.1.toNat<κ.toNat)(hr:∀x∈gM lC,κ.toNat<=x.1.toNat) :
  iV P (iD++κ::iN) (mY++lC):=by
 have a1:=h1.len;have a2:=h2.len;have hb:=Yc h1.len h1.ord n1 hl;have ha:=Yb h2.len h2.ord n2 hr;refine⟨by rw[zl,zl,dn];omega,?_,λ s hs=>?_⟩
 ·rw[RN _ _ _ _ _ h1.len,List.pairwise_append,bR]
  have fl:∀it∈oW iD mY,It.R it (.k κ):=λ it hit=>by
   rcases RO hit with⟨dM,hk,rfl⟩|⟨t,ht,rfl⟩
   ·exact hb dM hk
   exact λ x hx=>hl x (List.mem_flatMap.2 ⟨t,ht,hx⟩)
  have fr:∀it∈oW iN lC,It.R (.k κ) it:=λ it hit=>by
   rcases RO hit with⟨dM,hk,rfl⟩|⟨t,ht,rfl⟩
   ·exact ha dM hk
   exact λ x hx=>hr x (List.mem_flatMap.2 ⟨t,ht,hx⟩)
  refine⟨h1.ord,⟨fr,h2.ord⟩,λ a Yd b hmb=>?_⟩;rcases aN.1 hmb with rfl|hmb
  ·exact fl a Yd
  have q1:=fl a Yd;have q2:=fr b hmb
  cases a with
  | s t=>
   cases b with
   | s u=>exact λ x hx y hy=>by have:=q1 x hx;have:=q2 y hy;omega
   | k dM=>exact λ x hx=>by have:=q1 x hx;have:κ.toNat<dM.toNat:=q2;omega
  | k mF=>
   cases b with
   | s u=>exact λ y hy=>by have:mF.toNat<κ.toNat:=q1;have:=q2 y hy;omega
   | k dM=>show mF.toNat<dM.toNat;have:mF.toNat<κ.toNat:=q1;have:κ.toNat<dM.toNat:=q2;omega
 rcases dD.1 hs with hs|hs
 ·exact h1.all s hs
 exact h2.all s hs
end
open UK (str aF nth Only Row ay w32)
open Go.BigFrame
section
variable{E:Nat->Prop}{W W':World}{P D T k pg N M nb kc vc ac:Nat}{root:Int}{A:AP}{x:Nd}{ka va aa:Option Addr}
theorem NR.win{S:Nat->Prop}{ao:Option Addr}{c:Nat}{vs:List Value}(h:NR W ao c vs)(hS:∀g,aK ao g->S g):fV S W (.slice ao vs.length c) vs:=by
 rcases h with⟨rfl,rfl,rfl⟩|⟨g,rfl,r⟩
 ·exact⟨none,0,rfl,aO _,λ j u hj=>by cases hj⟩
 exact⟨_,c,rfl,r.le,λ j u hj=>⟨g,0,rfl,hS g rfl,by rw[eG];exact r.at' j u hj⟩⟩
theorem aU.reads{S:Nat->Prop}(h:aU N W nb x ka va aa kc vc ac)(hnb:S nb)(hS:∀g,aK ka g\/aK va g\/aK aa g->S g):jD S W nb x:=
 ⟨_,_,_,h.box,hnb,by have:=h.k.win (λ g hg=>hS g (.inl hg));rw[dA]at this;exact this,by have:=h.v.win (λ g hg=>hS g (.inr (.inl hg)));rw[dA]at this;exact this,by have:=h.a.win (λ g hg=>hS g (.inr (.inr hg)));rw[gQ]at this;exact this⟩
theorem rO{a w:World}(h:Below a.heap.size a w)(o:Obj):Below a.heap.size a (w.alloc o):=h.alloc h.size o
theorem rD{a w:World}(h:Below a.heap.size a w):Below a.heap.size a w.drew:=h.drew
theorem fq{w:World}{cs:Array Value}{vb:Nat}(h:ay w vb cs):ay w.drew vb cs:=h
theorem fK{w:World}{cs:Array Value}{vb:Nat}(h:ay w vb cs)(o:Obj):ay (w.alloc o) vb cs:=h.alloc o
theorem tQ{w:World}{cs:Array Value}{t:TypeId}{vb:Nat}(h:vb=w.heap.size):ay (w.alloc (.cells cs t)) vb cs:=by rw[h];exact ay.new w cs t
structure eD(N:Nat)(W w:World)(nb:Nat)(x:Nd)(ka va aa:Option Addr)(kc vc ac:Nat)(l:List UInt64)(g c:Nat):Prop where
 row:Row w g c (az l)
 v:NR w va vc (az x.vals)
 a:NR w aa ac (ints x.ax)
 box:ay w nb #[.bool x.leaf,.slice ka x.ag.length kc,.slice va x.vals.length vc,.slice aa x.ax.length ac]
 ge:N<=g
 ne:g≠nb
 gv:¬aK va g
 ga:¬aK aa g
 kept:Kept (λ j=>j<W.heap.size/\¬(aK ka j\/aK va j\/j=nb)) W w
 own:aK ka g\/W.heap.size<=g
theorem eD.next{l:List UInt64}{g c:Nat}{w w':World}(h:eD N W w nb x ka va aa kc vc ac l g c)(hb:Below w w w'):eD N W w' nb x ka va aa kc vc ac l g c:=
 ⟨h.row.below hb h.row.lt,h.v.ae hb.size (λ j hj=>hb.block j (h.v.lt hj)),h.a.ae hb.size (λ j hj=>hb.block j (h.a.lt hj)),h.box.next hb,h.ge,h.ne,h.gv,h.ga,h.kept.trans (Kept.of_below hb (λ _ hj=>bZ hj.1 h.kept.size)),h.own⟩
theorem aU.wJ{l:List UInt64}{g c:Nat}{wa w:World}(h:aU N W nb x ka va aa kc vc ac)(hN:N<=W.heap.size)(ba:Below W W wa)(r:Row w g c (az l))(o:Only g wa w)(hg:aK ka g\/wa.heap.size<=g):eD N W w nb x ka va aa kc vc ac l g c:=by
 have hA:=h.next ba;have hs:=ba.size;have hnb:=h.box.lt
 have hne:N<=g/\g≠nb:=by
  rcases hg with h1|h1
  ·exact h.new g (.inl h1)
  exact⟨by omega,by omega⟩
 have gv:¬aK va g:=by
  rcases hg with h1|h1
  ·exact h.kv g h1
  exact λ e=>by have:=h.v.lt e;omega
 have ga:¬aK aa g:=by
  rcases hg with h1|h1
  ·exact h.ka g h1
  exact λ e=>by have:=h.a.lt e;omega
 refine⟨r,hA.v.only o gv,hA.a.only o ga,hA.box.only o hne.2.symm,hne.1,hne.2,gv,ga,⟨o.os.trans ba.os,o.tape.trans ba.tape,o.output.trans ba.output,aP hs o.size,λ j hj=>?_⟩,?_⟩
 ·refine(o.block j (bZ hj.1 hs) (λ e=>?_)).trans (ba.block j hj.1);subst e;rcases hg with h1|h1
  ·exact hj.2 (.inl h1)
  have:=hj.1;omega
 rcases hg with h1|h1
 ·exact .inl h1
 exact .inr (by omega)
theorem eD.done{l m:List UInt64}{g c g2 c2:Nat}{wb w:World}(h:eD N W wb nb x ka va aa kc vc ac l g c)(hv0:aU N W nb x ka va aa kc vc ac)(r:Row w g2 c2 (az m))(o:Only g2 wb w)(hg:aK va g2\/wb.heap.size<=g2) :
  aU N ((w.setCell (nb,1) (.slice g l.length c)).setCell (nb,2) (.slice g2 m.length c2)) nb {x with ag:=l,vals:=m} g g2 aa c c2 ac /\
  Kept (λ j=>j<W.heap.size/\¬(aK ka j\/aK va j\/j=nb)) W ((w.setCell (nb,1) (.slice g l.length c)).setCell (nb,2) (.slice g2 m.length c2)) /\
  ay w nb #[.bool x.leaf,.slice ka x.ag.length kc,.slice va x.vals.length vc,.slice aa x.ax.length ac]/\g2≠nb:=by
 have hgl:=h.row.lt;have hnl:=h.box.lt;have hks:=h.kept.size;have hWn:=hv0.box.lt;have hNg:=hv0.ge
 have hne:N<=g2/\g2≠nb:=by
  rcases hg with h1|h1
  ·exact hv0.new g2 (.inr (.inl h1))
  exact⟨by omega,by omega⟩
 have g12:g2≠g:=by
  rcases hg with h1|h1
  ·exact λ e=>h.gv (e▸h1)
  omega
 have ga:¬aK aa g2:=by
  rcases hg with h1|h1
  ·exact hv0.va g2 h1
  exact λ e=>by have:=h.a.lt e;omega
 have r1:=h.row.only o g12.symm;have a1:=h.a.only o ga;have b1:=h.box.only o hne.2.symm;have o2:Only nb w ((w.setCell (nb,1) (.slice g l.length c)).setCell (nb,2) (.slice g2 m.length c2)):=((Only.refl nb w).set 1 _).set 2 _;have b2:=(b1.set 1 (.slice g l.length c)).set 2 (.slice g2 m.length c2);generalize (w.setCell (nb,1) (.slice g l.length c)).setCell (nb,2) (.slice g2 m.length c2)=w3 at o2 b2 ⊢;refine⟨⟨by simpa using b2,.inr ⟨g,rfl,r1.only o2 h.ne⟩,.inr ⟨g2,rfl,r.only o2 hne.2⟩,a1.only o2 (λ e=>(hv0.new nb (.inr (.inr e))).2 rfl),hv0.ge,λ j hj=>?_,λ _ hj e=>?_,λ _ hj e=>?_,λ _ hj e=>?_⟩,⟨(o2.os.trans o.os).trans h.kept.os,(o2.tape.trans o.tape).trans h.kept.tape,(o2.output.trans o.output).trans h.kept.output,aP (aP hks o.size) o2.size,λ j hj=>?_⟩,b1,hne.2⟩
 ·rcases hj with hj|hj|hj
  ·rw[gz hj];exact⟨h.ge,h.ne⟩
  ·rw[gz hj];exact hne
  exact hv0.new j (.inr (.inr hj))
 ·have e1:=gz hj;have e2:=gz e;exact g12 (by omega)
 ·rw[gz hj]at e;exact h.ga e
 ·rw[gz hj]at e;exact ga e
 have hjb:j<wb.heap.size:=bZ hj.1 hks;refine((o2.block j (bZ hjb o.size) (λ e=>hj.2 (.inr (.inr e)))).trans (o.block j hjb (λ e=>?_))).trans (h.kept.block j hj);subst e;rcases hg with h1|h1
 ·exact hj.2 (.inr (.inl h1))
 omega
structure bJ(E:Nat->Prop)(W:World)(P D T root:Nat)(A:AP)(k:Nat):Prop where
 pz:PZ E W P D A k
 box:ay W T #[.pointer P,.int .i64 root]
 mem:E T
def uD(N:Nat)(W w:World)(nb:Nat)(ka va:Option Addr)(l m:List UInt64):Prop:=
 ∃sP KR c c2,aU N w nb {leaf:=true,ag:=l,vals:=m,ax:=[]} sP KR none c c2 0/\Kept (λ j=>j<W.heap.size/\¬(aK ka j\/aK va j\/j=nb)) W w/\(∀j,aK sP j->aK ka j\/W.heap.size<=j)/\(∀j,aK KR j->aK va j\/W.heap.size<=j)
theorem ya2{wb w:World}{ks vs:List UInt64}{i g c g2 c2:Nat}{key v:UInt64}(h:aU N W nb {leaf:=true,ag:=ks,vals:=vs,ax:=[]} ka va none kc vc 0)(hi:i<=ks.length)(hlv:vs.length=ks.length)
  (m:eD N W wb nb {leaf:=true,ag:=ks,vals:=vs,ax:=[]} ka va none kc vc 0 (ks.take i++key::ks.drop i) g c) (r:Row w g2 c2 (az (vs.take i++v::vs.drop i))) (o:Only g2 wb w) (hg:aK va g2\/wb.heap.size<=g2) :
  uD N W ((w.setCell (nb,1) (.slice g (ks.length+1) c)).setCell (nb,2) (.slice g2 (ks.length+1) c2)) nb ka va (ks.take i++key::ks.drop i) (vs.take i++v::vs.drop i):=by
 obtain⟨d1,d2,_,_⟩:=m.done h r o hg;have e1:(ks.take i++key::ks.drop i).length=ks.length+1:=by simp;omega
 have e2:(vs.take i++v::vs.drop i).length=ks.length+1:=by simp;omega
 rw[e1,e2]at d1 d2;refine⟨_,_,_,_,d1,d2,λ j hj=>?_,λ j hj=>?_⟩
 ·rw[gz hj];exact m.own
 rw[gz hj];rcases hg with h1|h1
 ·exact .inl h1
 exact .inr (aP m.kept.size h1)
end
section
variable{E:Nat->Prop}{W W' w2 wc:World}{P D T k k0 pg N M nb kc vc ac:Nat}{rt:Nat}{A:AP}{x:Nd}{ka va aa:Option Addr}
theorem Ia{ao:Option Addr}{c:Nat}{vs:List Value}{j:Nat}(h:NR W ao c vs)(hj:aK ao j):j<W.heap.size:=h.lt hj
theorem XL{ks vs l m:List UInt64}(h:bJ E W P D T rt A k0)(hN:W.heap.size<=N)(bi:aU N w2 nb {leaf:=true,ag:=ks,vals:=vs,ax:=[]} ka va none kc vc 0)(gG:nb<M)(dV:∀g,aK ka g\/aK va g\/aK none g->g<M)
  (p1:PZ (λ j=>E j\/N<=j/\j<M) w2 P D A k) (k1:Kept E W w2) (hp:uD N w2 wc nb ka va l m) :
  PZ (λ j=>E j\/(N<=j/\j<M)\/(w2.heap.size<=j/\j<wc.heap.size)) wc P D A k/\jD (λ j=>E j\/(N<=j/\j<M)\/(w2.heap.size<=j/\j<wc.heap.size)) wc nb {leaf:=true,ag:=l,vals:=m,ax:=[]}/\ay wc T #[.pointer P,.int .i64 rt]/\Kept E W wc:=by
 obtain⟨sP,KR,c,c2,hn2,k2,hoa,kJ⟩:=hp
 have hR:∀j,aK ka j\/aK va j\/j=nb->N<=j/\j<M:=λ j hj=>by
  rcases hj with hj|hj|rfl
  ·exact⟨(bi.new j (.inl hj)).1,dV j (.inl hj)⟩
  ·exact⟨(bi.new j (.inr (.inl hj))).1,dV j (.inr (.inl hj))⟩
  exact⟨bi.ge,gG⟩
 have hE:=h.pz.there;have kE:Kept E w2 wc:=k2.mono (λ j hj=>⟨bZ (hE j hj) k1.size,λ hr=>by have:=(hR j hr).1;have:=hE j hj;omega⟩);refine⟨p1.over (R:=λ j=>aK ka j\/aK va j\/j=nb) (λ j hj=>.inr (hR j hj)) (λ hr=>by have:=(hR _ hr).1;have:=h.pz.tab.lt;omega) k2.size (λ j hj hr=>k2.block j ⟨hj,hr⟩) (λ j hj=>?_),hn2.reads (.inr (.inl ⟨bi.ge,gG⟩)) (λ g hg=>?_),(h.box.ae (k1.block T h.mem)).ae (kE.block T h.mem),k1.trans kE⟩
 ·rcases hj with hj|hj|hj
  ·exact .inl (.inl hj)
  ·exact .inl (.inr hj)
  exact .inr hj
 rcases hg with hg|hg|hg
 ·rcases hoa g hg with h1|h1
  ·exact .inr (.inl (hR g (.inl h1)))
  exact .inr (.inr ⟨h1,Ia hn2.k hg⟩)
 ·rcases kJ g hg with h1|h1
  ·exact .inr (.inl (hR g (.inr (.inl h1))))
  exact .inr (.inr ⟨h1,Ia hn2.v hg⟩)
 cases hg
end
section
variable{P:Program}{ops:Array Oper}{Q:Exit->Act->World->Prop}{md:Region.Mode}{S:World->Prop}{late:Nat->Bool}
def qf(P:Program)(md:Region.Mode)(ops:Array Oper)(Q:Exit->Act->World->Prop)(S:World->Prop)(late:Nat->Bool):Nat->Array Bool->Act->World->Prop
 | 0,listed,a,w=>Region.ready md ops listed=[]/\Q .normal a w
 | fuel+1,listed,a,w=>
  (Region.ready md ops listed=[]->Q .normal a w) /\
  ∀i∈Region.ready md ops listed,wpOp P ops Q i (λ a' w'=>(late i=false->S w')/\qf P md ops Q S late fuel (listed.setIfInBounds i true) a' w') a w
theorem Wd:∀(fuel:Nat) (listed:Array Bool) (a:Act) (w:World),qf P md ops Q S late fuel listed a w->wpAny P md ops Q fuel listed a w
 | 0,_,_,_,h=>h
 | fuel+1,_,_,_,h=>⟨h.1,λ i hi=>wpOp_mono (λ a' w' h'=>Wd fuel _ a' w' h'.2) (h.2 i hi)⟩
theorem xmb{i:Nat}{oi:Oper}{v:Value}(hi:ops[i]?=some oi)(hsel:∀(j:Nat) (o:Oper) cs b,ops[j]?=some o->o.op≠.select cs b)
  (hQ:∀c a w,Q (.panic c) (a.put oi.dst v) w->Q (.panic c) a w)
  (JR:∀j oj,ops[j]?=some oj->late j=true->∃e∈oj.after,Region.binds md e=true/\e.on=i) :
  ∀(fuel:Nat) (listed:Array Bool) (a:Act) (w:World),
   (∀j oj,ops[j]?=some oj->j≠i->listed.getD j true=false->(∀e∈oj.after,Region.binds md e=true->e.on≠i)->oi.apart ops oj=true) ->
   i∈Region.ready md ops listed->YieldsIf P ops S oi v a->S w ->
   qf P md ops Q S late fuel (listed.setIfInBounds i true) (a.put oi.dst v) w->qf P md ops Q S late (fuel+1) listed a w:=by
 intro fuel
 induction fuel with
 | zero=>
  intro listed a w _ hr hy hS H;refine⟨λ h=>(by rw[h]at hr;cases hr),λ j hj=>?_⟩;by_cases hji:j=i
  ·subst hji;exact hy.wpOp hi hS ⟨λ _=>hS,H⟩
  have:=ready_mono hj hji;rw[H.1]at this
  cases this
 | succ fuel ih=>
  intro listed a w hfree hr hy hS H;refine⟨λ h=>(by rw[h]at hr;cases hr),λ j hj=>?_⟩;by_cases hji:j=i
  ·subst hji;exact hy.wpOp hi hS ⟨λ _=>hS,H⟩
  have h1:=H.2 j (ready_mono hj hji);obtain⟨hjun,oj,hoj,hall⟩:=mem_ready.1 hj
  have hnot:∀e∈oj.after,Region.binds md e=true->e.on≠i:=λ e he hb heq=>by
   have h1:=hall e he hb;have h0:=(mem_ready.1 hr).1;rw[heq]at h1;rcases xii i listed.size with h'|h'
   ·simp[h']at h0 h1;rw[h0]at h1;cases h1
   simp[Array.getElem?_eq_none h']at h1
  have hnl:late j=false:=by
   cases hl:late j with
   | false=>rfl
   | true=>
    obtain⟨e,he,hb,heq⟩:=JR j oj hoj hl;exact absurd heq (hnot e he hb)
  have h2:=wpOp_putIf hoj (hfree j oj hoj hji hjun hnot) (λ cs b=>hsel i oi cs b hi) (λ cs b=>hsel j oj cs b hoj) hQ hy h1
  have hfree':∀k ok,ops[k]?=some ok->k≠i->(listed.setIfInBounds j true).getD k true=false ->
    (∀e∈ok.after,Region.binds md e=true->e.on≠i)->oi.apart ops ok=true:=λ k ok hk hki hun hno=>by
   refine hfree k ok hk hki ?_ hno;by_cases hjk:j=k
   ·subst hjk;exact hjun
   rw[getD_set_ne true hjk]at hun;exact hun
  refine wpOp_mono (λ a' w' h3=>⟨h3.2.1,ih (listed.setIfInBounds j true) a' w' hfree' (ready_mono hr (dz hji)) h3.1 (h3.2.1 hnl) ?_⟩) h2;rw[Array.setIfInBounds_comm _ _ hji];exact h3.2.2
def MX(md:Region.Mode)(ops:Array Oper)(late:Nat->Bool)(i:Nat):Bool:=
 (List.range ops.size).all λ j=>!late j||match ops[j]? with
  | some o=>o.after.any λ e=>Region.binds md e&&e.on==i
  | none=>true
theorem xn4{i:Nat}(h:MX md ops late i=true):∀j oj,ops[j]?=some oj->late j=true->∃e∈oj.after,Region.binds md e=true/\e.on=i:=λ j oj hj hl=>by
 unfold MX at h
 have hlt:j<ops.size:=by
  rcases xii j ops.size with h1|h1
  ·exact h1
  rw[Array.getElem?_eq_none h1]at hj;cases hj
 have:=List.all_eq_true.1 h j (jY.2 hlt);rw[hj,hl]at this;simp only[Bool.not_true,Bool.false_or]at this;obtain⟨e,he,hb⟩:=Array.any_eq_true'.1 this;rw[Bool.and_eq_true]at hb;exact⟨e,he,hb.1,by simpa using hb.2⟩
theorem xn5{i:Nat}{oi:Oper}{v:Value}{fuel:Nat}{listed:Array Bool}{a:Act}{w:World}(hi:ops[i]?=some oi)
  (hs:Region.noSelect ops=true) (hf:Region.free md ops listed i=true) (hr:(Region.ready md ops listed).contains i=true) (hl:MX md ops late i=true)
  (hQ:∀c a w,Q (.panic c) (a.put oi.dst v) w->Q (.panic c) a w) (hS:S w) (hw:Region.wanted oi (yielded ops a.tmps)=true)
  (hy:∀w,S w->(execOp a.eval oi).run P w= .ok (.value v) w)
  (h:qf P md ops Q S late fuel (listed.setIfInBounds i true) (a.put oi.dst v) w):qf P md ops Q S late (fuel+1) listed a w:=
 xmb hi (Region.noSelect_spec hs) hQ (xn4 hl) fuel listed a w (Region.free_spec hi hf) (by simpa using hr) (Or.inl ⟨hw,hy⟩) hS h
theorem wz{listed:Array Bool}{a:Act}{w:World}(hr:Region.ready md ops listed=[])(h:Q .normal a w) :
  ∀fuel,qf P md ops Q S late fuel listed a w
 | 0=>⟨hr,h⟩
 | _+1=>⟨λ _=>h,by rw[hr];simp⟩
theorem We{i:Nat}{o:Oper}{fuel:Nat}{listed:Array Bool}{a:Act}{w:World}(hr:Region.ready md ops listed=[i])(ho:ops[i]?=some o)
  (h:∀K':Act->World->Prop,Shut (∀a w,(late i=false->S w)->qf P md ops Q S late fuel (listed.setIfInBounds i true) a w->K' a w)->if Region.wanted o (yielded ops a.tmps)=true then Oper.wp P o a w K' Q else K' (a.put o.dst undef) w) :
  qf P md ops Q S late (fuel+1) listed a w:=
 ⟨λ h0=>absurd (hr▸h0) (by simp),λ j hj=>by
  rw[hr]at hj;obtain rfl:j=i:=by simpa using hj
  exact wpOp_step ho (λ K' hK=>h K' (λ a w hS hW=>hK a w ⟨hS,hW⟩))⟩
theorem JS{i j:Nat}{o q:Oper}{fuel:Nat}{listed:Array Bool}{a:Act}{w:World}(hr:Region.ready md ops listed=[i,j])(ho:ops[i]?=some o)(hq:ops[j]?=some q)
  (h1:∀K':Act->World->Prop,Shut (∀a w,(late i=false->S w)->qf P md ops Q S late fuel (listed.setIfInBounds i true) a w->K' a w)->if Region.wanted o (yielded ops a.tmps)=true then Oper.wp P o a w K' Q else K' (a.put o.dst undef) w)
  (h2:∀K':Act->World->Prop,Shut (∀a w,(late j=false->S w)->qf P md ops Q S late fuel (listed.setIfInBounds j true) a w->K' a w)->if Region.wanted q (yielded ops a.tmps)=true then Oper.wp P q a w K' Q else K' (a.put q.dst undef) w) :
  qf P md ops Q S late (fuel+1) listed a w:=
 ⟨λ h0=>absurd (hr▸h0) (by simp),λ k hk=>by
  rw[hr]at hk;rcases aN.1 hk with rfl|hk
  ·exact wpOp_step ho (λ K' hK=>h1 K' (λ a w hS hW=>hK a w ⟨hS,hW⟩))
  obtain rfl:k=j:=by simpa using hk
  exact wpOp_step hq (λ K' hK=>h2 K' (λ a w hS hW=>hK a w ⟨hS,hW⟩))⟩
end
section
variable{P:Program}{ops:Array Oper}{Q:Exit->Act->World->Prop}{S:World->Prop}{md:Region.Mode}{late:Nat->Bool}{oi:Oper}{v:Value}{fuel:Nat}{listed:Array Bool}{a a' a1:Act}{w w':World}
theorem zT(i:Nat)(h:wpAny P md ops Q fuel (listed.setIfInBounds i true) a' w)(hi:ops[i]?=some oi:=by exact rfl)
  (hy:∀w,(execOp a.eval oi).run P w= .ok (.value v) w:=by intro w;go_simp;try with_reducible rfl) (ha:a.put oi.dst v=a':=by (try simp only[Act.put,zS,z0,z1]);exact rfl)
  (hs:Region.noSelect ops=true:=by as_aux_lemma=>kernel_rfl) (hf:Region.free md ops listed i=true:=by as_aux_lemma=>kernel_rfl) (hr:(Region.ready md ops listed).contains i=true:=by as_aux_lemma=>kernel_rfl)
  (hQ:∀c a w,Q (.panic c) (a.put oi.dst v) w->Q (.panic c) a w:=by exact λ _ _ _ h=>h) (hw:Region.wanted oi (yielded ops a.tmps)=true:=by rfl):wpAny P md ops Q (fuel+1) listed a w:=
 wpAny_take hi hs hf hr hQ (Or.inl ⟨hw,hy⟩) (ha▸h)
theorem zU(i:Nat)(hS:S w)(h:qf P md ops Q S late fuel (listed.setIfInBounds i true) a' w)(hi:ops[i]?=some oi:=by exact rfl)
  (hy:∀w,S w->(execOp a.eval oi).run P w= .ok (.value v) w:=by intro w hSw;(try dsimp only at hSw);go_simp;try with_reducible rfl) (ha:a.put oi.dst v=a':=by (try simp only[Act.put,zS,z0,z1]);exact rfl)
  (hs:Region.noSelect ops=true:=by as_aux_lemma=>kernel_rfl) (hf:Region.free md ops listed i=true:=by as_aux_lemma=>kernel_rfl) (hr:(Region.ready md ops listed).contains i=true:=by as_aux_lemma=>kernel_rfl) (hl:MX md ops late i=true:=by as_aux_lemma=>kernel_rfl)
  (hQ:∀c a w,Q (.panic c) (a.put oi.dst v) w->Q (.panic c) a w:=by exact λ _ _ _ h=>h) (hw:Region.wanted oi (yielded ops a.tmps)=true:=by rfl):qf P md ops Q S late (fuel+1) listed a w:=
 xn5 hi hs hf hr hl hQ hS hw hy (ha▸h)
theorem zL(i:Nat)(h:∀K':Act->World->Prop,Shut (∀a w,(late i=false->S w)->qf P md ops Q S late fuel (listed.setIfInBounds i true) a w->K' a w)->if Region.wanted oi (yielded ops a.tmps)=true then Oper.wp P oi a w K' Q else K' (a.put oi.dst undef) w)(hr:Region.ready md ops listed=[i]:=by as_aux_lemma=>kernel_rfl)(ho:ops[i]?=some oi:=by exact rfl) :
  qf P md ops Q S late (fuel+1) listed a w:=
 We hr ho h
theorem zK{p:Prop}{K':Act->World->Prop}{R:World->Prop}(hK:Shut (∀a w,(p->R w)->qf P md ops Q S late fuel listed a w->K' a w))(h:qf P md ops Q S late fuel listed a' w)
  (hs:p->R w:=by first|exact λ _=>trivial|exact λ h=>absurd h (by decide)) (ha:a=a':=by (try simp only[Act.put,zS,z0,z1]);exact rfl):K' a w:=hK a w hs (ha▸h)
theorem zM(i:Nat)(h:qf P md ops Q S late fuel (listed.setIfInBounds i true) a' w')(hs:late i=false->S w':=by first|exact λ _=>trivial|exact λ h=>absurd h (by decide))(ho:ops[i]?=some oi:=by exact rfl)
  (hw:∀K:Act->World->Prop,K a1 w'->if Region.wanted oi (yielded ops a.tmps)=true then Oper.wp P oi a w K Q else K (a.put oi.dst undef) w:=by intro K;go_simp;exact id) (ha:a1=a':=by (try simp only[Act.put,zS,z0,z1]);exact rfl)
  (hr:Region.ready md ops listed=[i]:=by as_aux_lemma=>kernel_rfl):qf P md ops Q S late (fuel+1) listed a w:=
 We hr ho λ K hK=>hw K (hK a1 w' hs (ha▸h))
theorem zV(S:World->Prop)(k:Nat)(hS:S w)(h:S w->qf P md ops Q S (λ j=>decide (k<=j)) fuel listed a w):wpAny P md ops Q fuel listed a w:=Wd _ _ _ _ (h hS)
end
section
variable{E:Nat->Prop}{W W':World}{P D T k pg N M nb kc vc ac:Nat}{root:Int}{A:AP}{x:Nd}{ka va aa:Option Addr}
end
section
variable{E:Nat->Prop}{W W':World}{P D T k pg N M nb kc vc ac:Nat}{A:AP}{x:Nd}{ka va aa:Option Addr}
end
section
variable{E:Nat->Prop}{W W' w2 wc:World}{P D T k k0 pg N M nb kc vc ac:Nat}{A:AP}{x:Nd}{ka va aa:Option Addr}
theorem xyf{wb w:World}{ks vs l m:List UInt64}{g c g2 c2 a b:Nat}(h:aU N W nb {leaf:=true,ag:=ks,vals:=vs,ax:=[]} ka va none kc vc 0)
  (m1:eD N W wb nb {leaf:=true,ag:=ks,vals:=vs,ax:=[]} ka va none kc vc 0 l g c) (r:Row w g2 c2 (az m)) (o:Only g2 wb w) (hg:aK va g2\/wb.heap.size<=g2) (e1:l.length=a) (e2:m.length=b) :
  uD N W ((w.setCell (nb,1) (.slice g a c)).setCell (nb,2) (.slice g2 b c2)) nb ka va l m:=by
 obtain⟨d1,d2,_,_⟩:=m1.done h r o hg;rw[e1,e2]at d1 d2;refine⟨_,_,_,_,d1,d2,λ j hj=>?_,λ j hj=>?_⟩
 ·rw[gz hj];exact m1.own
 rw[gz hj];rcases hg with h1|h1
 ·exact .inl h1
 exact .inr (aP m1.kept.size h1)
theorem X9{S:Nat->Prop}{W:World}{nb:Nat}(hn:jD S W nb x)(hl:x.leaf=true) :
  Calls Tryz.prog 216 #[.pointer nb] W λ e w'=>e= .returned (.bool (decide (x.ag.length<15)))/\w'=W:=by
 obtain⟨kv,vv,av,b,hb,⟨ao,c,rfl,_,_⟩,_,_⟩:=hn;rw[dA]at b;rw[hl]at b;have c0:=b.c0;have c1:=b.c1;have d1:decide ((x.ag.length:Int)<15)=decide (x.ag.length<15):=decide_eq_decide.2 (by omega);clear b
 go_enter Tryz.func216,Tryz.ntmps216
 go_wp2;go_ret
 first|exact⟨rfl,rfl⟩|exact⟨by rw[<-d1];rfl,rfl⟩
def Yz(E:Nat->Prop)(W w':World)(P D T root:Nat)(A:AP)(k pg:Nat)(ks vs:List UInt64)(key:UInt64)(e:Ending):Prop:=
 ∃i:Nat,e= .returned (.tuple #[.bool true,.bool (decide (ks.length-1<15)),.int .i64 0])/\i<ks.length/\eB ks key i/\bJ E w' P D T root (A.ak pg (pM (A.c pg) (ks.take i++ks.drop (i+1)) (vs.take i++vs.drop (i+1)))) k/\Kept E W w'
theorem xvo{rt:Nat}{ks vs:List UInt64}(h:bJ E W P D T rt A k)(hk:k+5<900000000)(hl:rA A pg ks vs)(hn:ks.length<=30)(key:UInt64)(hin:key∈ks)(deep:Nat)(hd:deep<=20) :
  Calls Tryz.prog 166 #[.pointer T,.int .i64 pg,.int .u64 key.toNat,.int .i64 deep] W λ e w'=>Yz E W w' P D T rt A (k+5) pg ks vs key e:=by
 have HL:=zH (XK h.pz (by omega) h.box hl.has hl.head);have HH:=zH (zA h hl);clear h hl
 go_enter Tryz.func166,Tryz.ntmps166
 go_wp2_with fail
 refine HL.out.mono ?_;rintro e w1 ⟨N,M,nb,ka,va,kc,vc,rfl,hN,hM,⟨bi,gG,dV⟩,p1,k1⟩;obtain⟨h,hl⟩:=HH.out;rw[hl.ag,hl.vals]at bi;have b0:=bi.box.c0;have b1:=bi.box.c1;have b2:=bi.box.c2;have hS:=Hq (bi.k.win (S:=λ _=>True) (λ _ _=>trivial)) hl.up (show ks.length<=1000 by omega) key;rw[dA]at hS;rw[decide_eq_true hin]at hS;have HS:=zH hS;have H1:=zH (zA hN (zA hM (zA bi (zA gG (zA dV (zA p1 k1))))));clear HL bi gG dV p1 k1 hS hN hM
 go_wp2_with fail
 refine HS.out.mono ?_;rintro e w2 ⟨i,rfl,hst,rfl⟩;obtain⟨hN,hM,bi,gG,dV,p1,k1⟩:=H1.out;have hlv:=hl.len
 have hi:i<ks.length:=by
  rcases xii i ks.length with h1|h1
  ·exact h1
  obtain rfl:i=ks.length:=by have:=hst.le;omega
  exact absurd hin hst.none
 have hNs:N<=w2.heap.size:=by have:=bi.ge;omega
 obtain⟨g,rfl,rk⟩:∃g,ka=some ⟨g,0,none⟩/\Row w2 g kc (az ks):=by
  rcases bi.k with hz|h1
  ·have:=congrArg List.length hz.2.1;rw[dA]at this;exact absurd (show ks.length=0 from this) (by omega)
  exact h1
 obtain⟨g2,rfl,rv⟩:∃g,va=some ⟨g,0,none⟩/\Row w2 g vc (az vs):=by
  rcases bi.v with hz|h1
  ·have:=congrArg List.length hz.2.1;rw[dA]at this;exact absurd (show vs.length=0 from this) (by omega)
  exact h1
 have e1:(ks.take i++ks.drop (i+1)).length=ks.length-1:=by simp;omega
 have e2:(vs.take i++vs.drop (i+1)).length=vs.length-1:=by simp;omega
 have HI1:=zH (λ (wa:World) (ba:Below w2 w2 wa)=>(show Calls Tryz.prog 215 #[.slice g ks.length kc,.int .i64 i,.int .i64 ((i:Int)+1)] wa λ e w'=>e= .returned (.slice g (ks.length-1) kc)/\eD N w2 w' nb {leaf:=true,ag:=ks,vals:=vs,ax:=[]} g g2 none kc vc 0 (ks.take i++ks.drop (i+1)) g kc/\w'.cell? (nb,1)=some (.slice g ks.length kc)/\w'.cell? (nb,2)=some (.slice g2 vs.length vc)from
  (Sm (rk.below ba rk.lt) (show ks.length<=1000 by omega) hi).mono (λ e w' ⟨he,r,o⟩=>
   have m:=bi.wJ hNs ba r o (.inl rfl)
   ⟨he,m,m.box.cell 1 _ rfl,m.box.cell 2 _ rfl⟩)))
 have HI2:=zH (λ (wb:World) (m:eD N w2 wb nb {leaf:=true,ag:=ks,vals:=vs,ax:=[]} g g2 none kc vc 0 (ks.take i++ks.drop (i+1)) g kc)=>(show Calls Tryz.prog 215 #[.slice g2 vs.length vc,.int .i64 i,.int .i64 ((i:Int)+1)] wb λ e w'=>e= .returned (.slice g2 (vs.length-1) vc)/\uD N w2 ((w'.setCell (nb,1) (.slice g (ks.length-1) kc)).setCell (nb,2) (.slice g2 (vs.length-1) vc)) nb g g2 (ks.take i++ks.drop (i+1)) (vs.take i++vs.drop (i+1))/\w'.cell? (nb,1)=some (.slice g ks.length kc)/\w'.cell? (nb,2)=some (.slice g2 vs.length vc)/\w'.frozen? ⟨nb,1,none⟩=false/\w'.frozen? ⟨nb,2,none⟩=false from by
  obtain⟨g',e',rv2⟩:∃g',some (⟨g2,0,none⟩:Addr)=some ⟨g',0,none⟩/\Row wb g' vc (az vs):=by
   rcases m.v with hz|h1
   ·have:=congrArg List.length hz.2.1;rw[dA]at this;exact absurd (show vs.length=0 from this) (by omega)
   exact h1
  injection e' with e';injection e' with e';subst e'
  refine(Sm rv2 (show vs.length<=1000 by omega) (show i<vs.length by omega)).mono (λ e w' ⟨he,r,o⟩=>?_);have hd:=(m.done bi r o (.inl rfl)).2.2.1;exact⟨he,xyf bi m r o (.inl rfl) e1 e2,hd.cell 1 _ rfl,hd.cell 2 _ rfl,hd.free 1,hd.free 2⟩))
 have HI:=zH (zA hi (zA hlv (zA hst (zA e1 e2))));have f1:IntKind.i64.wrap ((i:Int)+1)=(i:Int)+1:=IntWalk.i64_in _ (by omega);clear bi dV p1 k1 hst HS hlv e1 e2 rk rv
 go_upto_region 10 with(fail)
 go_cut [] (λ wx=>uD N w2 wx nb g g2 (ks.take i++ks.drop (i+1)) (vs.take i++vs.drop (i+1)))
 case first=>
  go_region_law
   (first
    | (have hm:=m1;clear hm;go_simp;go_at_call 215;refine(HI2.out _ m1).mono ?_;rintro e w4 ⟨rfl,l2,s1,s2,q1,q2⟩)
    | ((fail_if_success (have hm:=m1));go_simp;go_at_call 215;refine(HI1.out _ ?_).mono ?_;(repeat (first|with_reducible exact aV _ _|with_reducible apply rD));rintro e w3 ⟨rfl,m1,t1,t2⟩))
  all_goals
   go_wp2_with fail
   go_meet
   case rel=>exact l2
 obtain⟨hN,hM,bi,gG,dV,p1,k1⟩:=H1.out;obtain⟨h,hl⟩:=HH.out;obtain⟨p2,hr,hbx,k2⟩:=XL h hN bi gG dV p1 k1 hcut;obtain⟨hi,hlv,hst,e1,e2⟩:=HI.out;have hP:=X9 hr rfl;rw[show(ks.take i++ks.drop (i+1)).length=ks.length-1 from e1]at hP;have HF:=zH hP;have HS2:=zH (λ (m:Nat)=>xrw (p2.next (UK.dK (aV _ _) m)) (by omega) (show ay (wc.drewN m) T _ from hbx) hl.has (show jD _ (wc.drewN m) nb _ from hr) rfl (show(ks.take i++ks.drop (i+1)).length<=30 by omega) (e2.trans (by rw[hlv];exact e1.symm)))
 have HB:=zH (λ (w':World) (m:Nat) (p3:PZ (λ j=>E j\/(N<=j/\j<M)\/(w2.heap.size<=j/\j<wc.heap.size)) w' P D (A.ak pg (pM (A.c pg) (ks.take i++ks.drop (i+1)) (vs.take i++vs.drop (i+1)))) (k+2+3)) (k3:Kept (λ j=>E j\/(N<=j/\j<M)\/(w2.heap.size<=j/\j<wc.heap.size)) (wc.drewN m) w')=>(show Yz E W w' P D T rt A (k+5) pg ks vs key (.returned (.tuple #[.bool true,.bool (decide (ks.length-1<15)),.int .i64 0]))from
  ⟨i,rfl,hi,hst,⟨p3.less (λ _ hj=>.inl hj),(show ay (wc.drewN m) T _ from hbx).ae (k3.block T (.inl h.mem)),h.mem⟩,(k2.trans ((p2.less (λ _ hj=>.inl hj)).kept (UK.dK (aV _ _) m))).trans (k3.mono (λ _ hj=>.inl hj))⟩))
 clear H1 HH hcut hN hM bi gG dV p1 k1 h hl p2 hr hbx k2 hlv hst e1 e2 HI HI1 HI2 hP
 go_wp2_with fail
 refine HF.out.mono ?_;rintro e w5 ⟨rfl,rfl⟩
 go_wp2_with fail
 refine(HS2.out 0).mono ?_;rintro e w6 ⟨rfl,p3,k3⟩;go_wp2
 go_ret3
 exact HB.out _ 0 p3 k3
end
section
variable{E:Nat->Prop}{W W' w2 wc:World}{P D T k:Nat}{A:AP}
end
theorem eB.sorted{ks:List UInt64}{key:UInt64}{i:Nat}(h:eB ks key i)(hs:jK ks)(hno:key∉ks):jK (ks.take i++key::ks.drop i):=by
 have hle:=h.le
 have at':∀(a:Nat) (x:UInt64),(ks.take i++key::ks.drop i)[a]?=some x->(a<i/\ks[a]?=some x)\/(a=i/\x=key)\/(i<a/\ks[a-1]?=some x):=λ a x hx=>by
  rcases Nat.lt_trichotomy a i with h1|h1|h1
  ·rw[bI (by rw[zt];omega),eX h1]at hx;exact .inl ⟨h1,hx⟩
  ·subst h1;rw[bP (by rw[zt];omega),zt,show a-min a ks.length=0 by omega]at hx;exact .inr (.inl ⟨rfl,by simpa using hx.symm⟩)
  rw[bP (by rw[zt];omega),zt,show a-min i ks.length=(a-1-i)+1 by omega,nI,eY,show i+(a-1-i)=a-1 by omega]at hx;exact .inr (.inr ⟨h1,hx⟩)
 intro a b x y hab hx hy;rcases at' a x hx with⟨h1,e1⟩|⟨h1,e1⟩|⟨h1,e1⟩<;>rcases at' b y hy with⟨h2,e2⟩|⟨h2,e2⟩|⟨h2,e2⟩
 ·exact hs a b x y hab e1 e2
 ·subst e2;exact h.below a x h1 e1
 ·exact hs a (b-1) x y (by omega) e1 e2
 ·omega
 ·omega
 ·subst e1;have h3:=h.above (b-1) y (by omega) e2;rcases xii x.toNat y.toNat with h4|h4
  ·exact h4
  exact absurd (eZ e2) (by rw[mJ.1 (show y.toNat=x.toNat by omega)];exact hno)
 ·omega
 ·omega
 exact hs (a-1) (b-1) x y (by omega) e1 e2
theorem jK.drop_one{ks:List UInt64}(hs:jK ks)(i:Nat)(hi:i<ks.length):jK (ks.take i++ks.drop (i+1)):=by
 have at':∀(a:Nat) (x:UInt64),(ks.take i++ks.drop (i+1))[a]?=some x->(a<i/\ks[a]?=some x)\/(i<=a/\ks[a+1]?=some x):=λ a x hx=>by
  rcases xii a i with h1|h1
  ·rw[bI (by rw[zt];omega),eX h1]at hx;exact .inl ⟨h1,hx⟩
  rw[bP (by rw[zt];omega),zt,eY,show i+1+(a-min i ks.length)=a+1 by omega]at hx;exact .inr ⟨h1,hx⟩
 intro a b x y hab hx hy;rcases at' a x hx with⟨h1,e1⟩|⟨h1,e1⟩<;>rcases at' b y hy with⟨h2,e2⟩|⟨h2,e2⟩
 ·exact hs a b x y hab e1 e2
 ·exact hs a (b+1) x y (by omega) e1 e2
 ·omega
 exact hs (a+1) (b+1) x y (by omega) e1 e2
section
variable{E:Nat->Prop}{W W' w2 wc:World}{P D T k:Nat}{A:AP}
end
section
variable{E:Nat->Prop}{W W' w2 wc:World}{P D T k:Nat}{A:AP}
theorem xvp(n:Int):Clean (mI n) 1:=by
 refine⟨(Ok.new n).fit,(Ok.new n).so,xzk n,(Md n).wl,λ p h1 h2=>by omega,λ i hi=>?_⟩;rw[(Md n).free]at hi;exact absurd hi (jO _)
def yH(pages:Int):AP:={au:=1,aC:=pF pages,free:=[],c:=λ p=>jX (mI pages).x p,op:=none}
end
def aB(A:AP)(p:Nat):Option Nd:=l7 (A.c p)
def oP(x:Nd):Bool:=decide (30<x.ag.length)||decide (40<x.ax.length)
def lK(x:Nd):Nd×Nd×UInt64:=
 if x.leaf then(⟨true,x.ag.take (x.ag.length/2),x.vals.take (x.ag.length/2),[]⟩,⟨true,x.ag.drop (x.ag.length/2),x.vals.drop (x.ag.length/2),[]⟩,x.ag.getD (x.ag.length/2) 0)
 else(⟨false,x.ag.take (x.ax.length/2-1),[],x.ax.take (x.ax.length/2)⟩,⟨false,x.ag.drop (x.ax.length/2),[],x.ax.drop (x.ax.length/2)⟩,x.ag.getD (x.ax.length/2-1) 0)
inductive jE(A:AP)(pg:Nat)(x:Nd):AP->Nat->UInt64->Int->Prop
 | one:oP x=false->jE A pg x (A.ak pg (aS (A.c pg) x)) 0 0 0
 | none:oP x=true->A.Full->jE A pg x (A.ak pg (aS (A.c pg) (lK x).1)) 0 (lK x).2.2 6
 | two:oP x=true->¬A.Full->jE A pg x ((A.ak pg (aS (A.c pg) (lK x).1)).take.ak A.next (aS (UK.bF 504) (lK x).2.1)) A.next (lK x).2.2 0
inductive kZ(k v:UInt64):Nat->AP->Nat->AP->Nat->UInt64->Int->Prop
 | found {A:AP} {pg i:Nat} {ks vs:List UInt64}:aB A pg=some ⟨true,ks,vs,[]⟩->ks[i]?=some k->kZ k v 0 A pg (A.ak pg (aS (A.c pg) ⟨true,ks,vs.set i v,[]⟩)) 0 0 0
 | leaf {A B:AP} {pg i more:Nat} {ks vs:List UInt64} {κ:UInt64} {e:Int}:aB A pg=some ⟨true,ks,vs,[]⟩->eB ks k i->k∉ks->jE A pg ⟨true,ks.take i++k::ks.drop i,vs.take i++v::vs.drop i,[]⟩ B more κ e->kZ k v 0 A pg B more κ e
 | stop {d:Nat} {A B:AP} {pg i c more:Nat} {ag:List UInt64} {ax:List Nat} {κ:UInt64} {e:Int}:aB A pg=some ⟨false,ag,[],ax⟩->dN ag k i->ax[i]?=some c->kZ k v d A c B more κ e->(e≠0\/more=0)->kZ k v (d+1) A pg B 0 0 e
 | up {d:Nat} {A B1 B:AP} {pg i c iJ more:Nat} {ag:List UInt64} {ax:List Nat} {mF κ:UInt64} {e:Int}:aB A pg=some ⟨false,ag,[],ax⟩->dN ag k i->ax[i]?=some c->kZ k v d A c B1 iJ mF 0->iJ≠0 ->
   jE B1 pg ⟨false,ag.take i++mF::ag.drop i,[],ax.take (i+1)++iJ::ax.drop (i+1)⟩ B more κ e->kZ k v (d+1) A pg B more κ e
structure mr(A B:AP)(ps new:List Nat):Prop where
 reach:A.Reach B
 ib:new.Nodup
 fresh:∀p∈new,¬A.Has p
 has:∀p,B.Has p↔A.Has p\/p∈new
 same:∀p,A.Has p->p∉ps->B.c p=A.c p
 bu:B.bu+new.length=A.bu
 dR:∀p,B.Has p->(B.c p).length=504
theorem mr.trans{A B C:AP}{ps ps2 new Cu:List Nat}(h:mr A B ps new)(g:mr B C ps2 Cu)(hs:∀p∈ps2,p∈ps\/p∈new):mr A C ps (new++Cu):=by
 refine⟨h.reach.trans g.reach,?_,?_,λ p=>?_,λ p hp hn=>?_,?_,g.dR⟩
 ·rw[bN];exact⟨h.ib,g.ib,λ a ha b hb e=>g.fresh b hb ((h.has b).2 (.inr (e▸ha)))⟩
 ·intro p hp;rcases dD.1 hp with hp|hp
  ·exact h.fresh p hp
  exact λ ha=>g.fresh p hp ((h.has p).2 (.inl ha))
 ·rw[g.has,h.has,dD,or_assoc]
 ·rw[g.same p ((h.has p).2 (.inl hp)) (λ hm=>?_),h.same p hp hn];rcases hs p hm with h1|h1
  ·exact hn h1
  exact h.fresh p h1 hp
 have:=h.bu;have:=g.bu;rw[zl];omega
theorem mr.wider{A B:AP}{ps ps2 new:List Nat}(h:mr A B ps new)(hs:∀p∈ps,p∈ps2):mr A B ps2 new:=⟨h.reach,h.ib,h.fresh,h.has,λ p hp hn=>h.same p hp (λ hm=>hn (hs p hm)),h.bu,h.dR⟩
theorem mr.ak{A:AP}{pg:Nat}{s:List UInt8}(hp:A.Has pg)(hc:∀p,A.Has p->(A.c p).length=504)(hs:s.length=504):mr A (A.ak pg s) [pg] []:=by
 refine⟨(AP.Reach.refl A).ak hp s,List.nodup_nil,λ _ h=>(by cases h),λ p=>by rw[AP.aA];simp,λ p _ hn=>?_,?_,λ p hp'=>?_⟩
 ·rw[AP.aL,if_neg];simp at hn;exact λ e=>hn e.symm
 ·rw[AP.nE];rfl
 rw[AP.aL]
 split
 ·exact hs
 exact hc p (AP.aA.1 hp')
theorem mr.take{A:AP}{s:List UInt8}(hg:A.Good)(hf:¬A.Full)(hc:∀p,A.Has p->(A.c p).length=504)(hs:s.length=504):mr A (A.take.ak A.next s) [] [A.next]:=by
 have hgr:=(AP.Grown.nil A).cons hg hf s;refine⟨hgr.reach,by simp,hgr.new,hgr.has,λ p hp _=>hgr.same p hp,hgr.bu,λ p hp=>?_⟩;rcases(hgr.has p).1 hp with h1|h1
 ·rw[hgr.same p h1];exact hc p h1
 rw[bz.1 h1,AP.aL,if_pos rfl];exact hs
theorem mr.good{A B:AP}{ps new:List Nat}(h:mr A B ps new)(g:A.Good):B.Good:=h.reach.good g
def mX(x:Nd):Prop:=(x.leaf=true->x.vals.length=x.ag.length/\x.ax=[]/\x.ag.length<=31)/\(x.leaf=false->x.ax.length=x.ag.length+1/\x.vals=[]/\2<=x.ax.length/\x.ax.length<=41/\∀k∈x.ax,k<4294967296)
theorem mX.fits{x:Nd}(h:mX x)(hf:oP x=false):Fits x:=by
 unfold oP at hf;simp only[Bool.or_eq_false_iff,decide_eq_false_iff_not]at hf;refine⟨λ hl=>?_,λ hl=>?_⟩
 ·obtain⟨h1,h2,_⟩:=h.1 hl;exact⟨by omega,h1,h2⟩
 obtain⟨h1,h2,h3,h4,h5⟩:=h.2 hl;exact⟨h1,h3,by omega,h2,h5⟩
theorem Hw{ag vals:List UInt64}{ax:List Nat}{n:Nat}(h:ag.length/2=n):lK ⟨true,ag,vals,ax⟩=(⟨true,ag.take n,vals.take n,[]⟩,⟨true,ag.drop n,vals.drop n,[]⟩,ag.getD n 0):=by
 unfold lK;rw[if_pos rfl];dsimp only;rw[h]
theorem Hy{ag vals:List UInt64}{ax:List Nat}{n:Nat}(h:ax.length/2=n):lK ⟨false,ag,vals,ax⟩=(⟨false,ag.take (n-1),[],ax.take n⟩,⟨false,ag.drop n,[],ax.drop n⟩,ag.getD (n-1) 0):=by
 unfold lK;rw[if_neg (by simp)];dsimp only;rw[h]
theorem mX.split{x:Nd}(h:mX x)(hf:oP x=true):Fits (lK x).1/\Fits (lK x).2.1/\rE (lK x).1/\rE (lK x).2.1/\(lK x).1.leaf=x.leaf/\(lK x).2.1.leaf=x.leaf:=by
 unfold oP at hf;simp only[Bool.or_eq_true,decide_eq_true_eq]at hf;obtain⟨lf,ag,vals,ax⟩:=x
 cases lf with
 | true=>
  obtain⟨h1,h2,h3⟩:=h.1 rfl;dsimp only at h1 h2 h3 hf;subst h2;have h31:ag.length=31:=by simp at hf;omega
  rw[Hw (n:=15) (by omega)];have l1:(ag.take 15).length=15:=by rw[zt];omega
  have l2:(ag.drop 15).length=16:=by rw[zd];omega
  have v1:(vals.take 15).length=15:=by rw[zt];omega
  have v2:(vals.drop 15).length=16:=by rw[zd];omega
  exact⟨⟨λ _=>⟨by dsimp only;omega,by dsimp only;omega,rfl⟩,(λ h=>by cases h)⟩,⟨λ _=>⟨by dsimp only;omega,by dsimp only;omega,rfl⟩,(λ h=>by cases h)⟩,⟨λ _=>by dsimp only;omega,(λ h=>by cases h)⟩,⟨λ _=>by dsimp only;omega,(λ h=>by cases h)⟩,rfl,rfl⟩
 | false=>
  obtain⟨h1,h2,h3,h4,h5⟩:=h.2 rfl;dsimp only at h1 h2 h3 h4 h5 hf;obtain⟨n,hn⟩:∃n,ax.length/2=n:=⟨_,rfl⟩;rw[Hy hn];have l1:(ag.take (n-1)).length=n-1:=by rw[zt];omega
  have l2:(ag.drop n).length=ag.length-n:=by rw[zd]
  have v1:(ax.take n).length=n:=by rw[zt];omega
  have v2:(ax.drop n).length=ax.length-n:=by rw[zd]
  exact⟨⟨(λ h=>by cases h),λ _=>⟨by dsimp only;omega,by dsimp only;omega,by dsimp only;omega,rfl,λ k hk=>h5 k (iM hk)⟩⟩,⟨(λ h=>by cases h),λ _=>⟨by dsimp only;omega,by dsimp only;omega,by dsimp only;omega,rfl,λ k hk=>h5 k (jf hk)⟩⟩,
   ⟨(λ h=>by cases h),λ _=>by dsimp only;omega⟩,⟨(λ h=>by cases h),λ _=>by dsimp only;omega⟩,rfl,rfl⟩
theorem Ic:(UK.bF 504).length=504:=gY
theorem jE.out{A B:AP}{pg more:Nat}{x:Nd}{κ:UInt64}(h:jE A pg x B more κ 0)(hx:mX x)(hp:A.Has pg)(hg:A.Good)(hc:∀p,A.Has p->(A.c p).length=504) :
  ∃new,mr A B [pg] new/\((more=0/\new=[]/\oP x=false/\aB B pg=some x)\/(more≠0/\more<=60000/\new=[more]/\oP x=true/\κ=(lK x).2.2/\aB B pg=some (lK x).1/\aB B more=some (lK x).2.1)):=by
 have hpl:=hc pg hp
 cases h with
 | one hf=>
  have hfit:=hx.fits hf;refine⟨[],mr.ak hp hc (by rw[tO _ _ (by omega) hfit,hpl]),.inl ⟨rfl,rfl,hf,?_⟩⟩;unfold aB;rw[AP.aL,if_pos rfl];exact EO _ _ (by omega) hfit
 | two hf hfull=>
  obtain⟨f1,f2,_⟩:=hx.split hf;have c1:mr A (A.ak pg (aS (A.c pg) (lK x).1)) [pg] []:=mr.ak hp hc (by rw[tO _ _ (by omega) f1,hpl]);have hg1:=c1.good hg;have c2:mr (A.ak pg (aS (A.c pg) (lK x).1)) ((A.ak pg (aS (A.c pg) (lK x).1)).take.ak A.next (aS (UK.bF 504) (lK x).2.1)) [] [A.next]:=mr.take hg1 hfull c1.dR (by rw[tO _ _ (by rw[Ic];omega) f2,Ic]);have hnx:=hg.next hfull;have hne:A.next≠pg:=λ e=>hnx.1 (e▸hp);refine⟨[A.next],by simpa using c1.trans c2 (λ p hp=>by cases hp),.inr ⟨by omega,hnx.2.2,rfl,hf,rfl,?_,?_⟩⟩
  ·unfold aB;rw[c2.same pg (AP.aA.2 hp) (by simp),AP.aL,if_pos rfl];exact EO _ _ (by omega) f1
  unfold aB;rw[AP.aL,if_pos rfl];exact EO _ _ (by rw[Ic];omega) f2
theorem rE.grow{x y:Nd}(h:rE x)(hl:y.leaf=x.leaf)(h1:x.ag.length<=y.ag.length)(h2:x.ax.length<=y.ax.length):rE y:=
 ⟨λ e=>aP (h.1 (hl.symm.trans e)) h1,λ e=>aP (h.2 (hl.symm.trans e)) h2⟩
theorem RP{ks vs:List UInt64}(hs:jK ks){h:Nat}(hh:h<ks.length):(∀x∈(ks.take h).zip (vs.take h),x.1.toNat<(ks.getD h 0).toNat)/\(∀x∈(ks.drop h).zip (vs.drop h),(ks.getD h 0).toNat<=x.1.toNat):=by
 have hk:ks[h]?=some (ks.getD h 0):=by rw[fE,bL hh];rfl
 refine⟨λ x hx=>?_,λ x hx=>?_⟩
 ·obtain⟨j,hj,rP⟩:=gB (List.of_mem_zip hx).1;rw[zt]at hj;rw[List.getElem_take]at rP;exact hs j h _ _ (by omega) (by rw[bL (by omega),rP]) hk
 obtain⟨j,hj,rP⟩:=gB (List.of_mem_zip hx).1;rw[zd]at hj;rw[List.getElem_drop]at rP;rcases Nat.eq_zero_or_pos j with h0|h0
 ·subst h0;rw[<-rP,fE,bL hh];exact aO _
 have:=hs h (h+j) _ x.1 (by omega) hk (by rw[bL (by omega),rP]);omega
theorem jK.take{ks:List UInt64}(h:jK ks)(n:Nat):jK (ks.take n):=λ a b x y hab hx hy=>by
 have h1:=(dE.1 hx).1;have h2:=(dE.1 hy).1;rw[zt]at h1 h2;rw[eX (by omega)]at hx hy;exact h a b x y hab hx hy
theorem jK.drop{ks:List UInt64}(h:jK ks)(n:Nat):jK (ks.drop n):=λ a b x y hab hx hy=>by
 rw[eY]at hx hy;exact h (n+a) (n+b) x y (by omega) hx hy
structure F7(A B:AP)(d:Nat)(s:Sb)(l:List KV)(more:Nat)(κ:UInt64)(new:List Nat):Prop where
 fD:mr A B s.ps new
 few:new.length<=d+1
 one:more=0->∃t,Tr (aB B) d t/\t.pg=s.pg/\t.l=l/\t.ps.Nodup/\(∀p,p∈t.ps↔p∈s.ps\/p∈new)/\(iK (aB A) s.pg->iK (aB B) s.pg)/\(∀x,aB A s.pg=some x->x.leaf=false->∃y,aB B s.pg=some y/\y.leaf=false)
 two:more≠0->more<=60000/\∃t u,Tr (aB B) d t/\Tr (aB B) d u/\t.pg=s.pg/\u.pg=more/\t.l++u.l=l/\(∀x∈t.l,x.1.toNat<κ.toNat)/\(∀x∈u.l,κ.toNat<=x.1.toNat)/\iK (aB B) s.pg/\iK (aB B) more/\(t.ps++u.ps).Nodup/\(∀p,p∈t.ps++u.ps↔p∈s.ps\/p∈new)
end Go.Proofs.YtgpmiliahonaoaaGreatDoor
