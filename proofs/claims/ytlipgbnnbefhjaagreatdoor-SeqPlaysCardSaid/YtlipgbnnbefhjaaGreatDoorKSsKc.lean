/- Facts on rows of numbers on pages. -/
import Derived.Test.YtlipgbnnbefhjaaGreatDoorKSsIc
set_option maxRecDepth 100000
set_option maxHeartbeats 8000000
set_option linter.unusedSimpArgs false
namespace Go.Proofs.YtlipgbnnbefhjaaGreatDoor
open Go.RowKit
open UK (str aO nth Only Row aI)
section
variable{B0 E F Ba Bb:Nat->Prop}{W w w2 wx wq w3 w4 wM wN wc:World}{P D Q T rt aC k fU dB eX e dh N κ h0:Nat}{A:AP}{qs:List Nat}{m:List KV}{C:List bV}{X Y S1 S2:List SS}{t1 t2:SS}{x0 n1 n2:Sn}{ka va aa pM nC pO lU lT lV nW dN nM:Option Addr}{kc vc ac qc qd qf mH lW kH c1 c2 c3:Nat}
theorem wo.Mg(v:wo E B0 Ba Bb W w2 P D Q T rt aC k A x0 n1 n2 fU dB eX ka va aa pM nC pO lU lT lV kc vc ac qc qd qf mH lW kH)(bx:Below w2 w2 wx)(cO:sZ wx wq n1 n2 nW dN nM c1 c2 c3)(wu:Below wq wq w3)(o1:Only dB w3 w4)(o2:Only eX w4 wM) :
  ∃F:Nat->Prop,(∀j,E j\/B0 j->F j)/\aD F wM P D Q T rt aC A k/\eD B0 wM fU x0 ka va aa kc vc ac/\Kept E W wM/\(F dB/\¬B0 dB)/\(F eX/\¬B0 eX) /\
   (∀(ao:Option Addr) (c:Nat) (vs:List Value),NR wq ao c vs->(∀g,aK ao g->wx.heap.size<=g)->NR wM ao c vs/\∀g,aK ao g->F g/\¬B0 g) /\
   dY (λ j=>F j/\¬B0 j) wM (.slice pM n1.aA.length qc) (aF n1.aA)/\dY (λ j=>F j/\¬B0 j) wM (.slice nC n1.ah.length qd) (ints n1.ah)/\dY (λ j=>F j/\¬B0 j) wM (.slice pO n1.au.length qf) (ints n1.au) /\
   dY (λ j=>F j/\¬B0 j) wM (.slice lU n2.aA.length mH) (aF n2.aA)/\dY (λ j=>F j/\¬B0 j) wM (.slice lT n2.ah.length lW) (ints n2.ah)/\dY (λ j=>F j/\¬B0 j) wM (.slice lV n2.au.length kH) (ints n2.au):=by
 have hwx:=bx.size;have hcs:=cO.pq.size;have hds:=wu.size;have Ck:Below w2 w2 w3:=(bx.trans (cO.pq.mono hwx)).trans (wu.mono (bf hwx hcs));have uP:Ba dB:=v.ha.2 dB (.inl rfl);have Dv:Bb eX:=v.hb.2 eX (.inl rfl);have GD:dB<w2.heap.size:=v.ha.1.box.lt;have Uc:eX<w2.heap.size:=v.hb.1.box.lt;have hW2:=v.kp.size;have oG:∀j,Ba j\/Bb j->¬(E j\/B0 j):=λ j h1 h2=>jc _ (bS (v.hE j h2) (h1.elim (v.hBa j) (v.hBb j)));have kk:∀j,j<w3.heap.size->j≠dB->j≠eX->wM.heap[j]?=w3.heap[j]?:=λ j hj h1 h2=>(o2.block j (bS hj o1.size) h2).trans (o1.block j hj h1);have Mh:w3.heap.size<=wM.heap.size:=bf o1.size o2.size;have Cm:Kept (λ j=>j<w2.heap.size/\¬(Ba j\/Bb j)) w2 wM:=(Kept.of_below Ck (λ j (hj:j<w2.heap.size/\¬(Ba j\/Bb j))=>hj.1)).trans ⟨o2.os.trans o1.os,o2.tape.trans o1.tape,o2.output.trans o1.output,Mh,λ j hj=>kk j (bS hj.1 Ck.size) (λ e=>hj.2 (.inl (e▸uP))) (λ e=>hj.2 (.inr (e▸Dv)))⟩;have xC:=v.hs.own (B:=λ j=>Ba j\/Bb j) (λ j hj=>hj.elim (λ h=>.inl (.inr h)) .inr) (λ hb=>oG Q hb (.inl v.hQ)) (λ hb=>oG T hb (.inl v.hT)) (λ hb=>jc _ (bS v.tab (hb.elim (v.hBa _) (v.hBb _)))) Cm;have kI:=v.hb0.kept Cm.size (λ g hg _=>Cm.block g ⟨bS (v.hE g (.inr hg)) hW2,λ hx=>oG g hx (.inr hg)⟩);have Ud:¬B0 dB:=λ hx=>oG dB (.inl uP) (.inr hx);have Ue:¬B0 eX:=λ hx=>oG eX (.inr Dv) (.inr hx)
 have hold:∀(ao:Option Addr) (c:Nat) (vs:List Value),NR w2 ao c vs->(∀g,aK ao g->(Ba g\/Bb g)/\g≠dB/\g≠eX)->NR wM ao c vs/\∀g,aK ao g->((((E g\/B0 g)\/Ba g)\/Bb g)\/(w2.heap.size<=g/\g<wM.heap.size))/\¬B0 g:=λ ao c vs hr hb=>by
  refine⟨hr.af Cm.size (λ g hg=>(kk g (bS (hr.lt hg) Ck.size) (hb g hg).2.1 (hb g hg).2.2).trans (Ck.block g (hr.lt hg))),λ g hg=>⟨.inl ?_,λ hx=>oG g (hb g hg).1 (.inr hx)⟩⟩;rcases(hb g hg).1 with h|h
  ·exact .inl (.inr h)
  exact .inr h
 have hoa:∀g,(aK pM g\/aK nC g\/aK pO g)->(Ba g\/Bb g)/\g≠dB/\g≠eX:=λ g hg=>⟨.inl (v.ha.2 g (.inr hg)),(v.ha.1.new g hg).2,λ e=>v.hab g (v.ha.2 g (.inr hg)) (e▸Dv)⟩;have jY:∀g,(aK lU g\/aK lT g\/aK lV g)->(Ba g\/Bb g)/\g≠dB/\g≠eX:=λ g hg=>⟨.inr (v.hb.2 g (.inr hg)),λ e=>v.hab dB uP (e▸v.hb.2 g (.inr hg)),(v.hb.1.new g hg).2⟩
 have win:∀(ao:Option Addr) (c:Nat) (vs:List Value),NR w2 ao c vs->(∀g,aK ao g->(Ba g\/Bb g)/\g≠dB/\g≠eX)->dY (λ g=>((((E g\/B0 g)\/Ba g)\/Bb g)\/(w2.heap.size<=g/\g<wM.heap.size))/\¬B0 g) wM (.slice ao vs.length c) vs:=λ ao c vs hr hb=>by
  obtain⟨a1,a2⟩:=hold ao c vs hr hb;exact a1.win a2
 have y1:=win _ _ _ v.ha.1.k (λ g hg=>hoa g (.inl hg));have y2:=win _ _ _ v.ha.1.v (λ g hg=>hoa g (.inr (.inl hg)));have y3:=win _ _ _ v.ha.1.a (λ g hg=>hoa g (.inr (.inr hg)));have y4:=win _ _ _ v.hb.1.k (λ g hg=>jY g (.inl hg));have y5:=win _ _ _ v.hb.1.v (λ g hg=>jY g (.inr (.inl hg)));have y6:=win _ _ _ v.hb.1.a (λ g hg=>jY g (.inr (.inr hg)));rw[cz]at y1 y4;rw[dx]at y2 y3 y5 y6;refine⟨_,λ j hj=>.inl (.inl (.inl hj)),xC,kI,(v.kp.mono (λ j hj=>.inl hj)).trans (Cm.mono (λ j hj=>⟨bS (v.hE j (.inl hj)) hW2,λ hx=>oG j hx (.inl hj)⟩)),⟨.inl (.inl (.inr uP)),Ud⟩,⟨.inl (.inr Dv),Ue⟩,λ ao c vs hr hnw=>?_,y1,y2,y3,y4,y5,y6⟩;have r1:=hr.af hds (λ g hg=>wu.block g (hr.lt hg));have hne:∀g,aK ao g->g≠dB/\g≠eX:=λ g hg=>⟨λ e=>jc _ (bS GD (bf hwx (e▸hnw g hg))),λ e=>jc _ (bS Uc (bf hwx (e▸hnw g hg)))⟩;have r2:=r1.af Mh (λ g hg=>kk g (r1.lt hg) (hne g hg).1 (hne g hg).2);exact⟨r2,λ g hg=>⟨.inr ⟨bf hwx (hnw g hg),r2.lt hg⟩,λ hx=>jc _ (bS (v.hE g (.inr hx)) (bf hW2 (bf hwx (hnw g hg))))⟩⟩
theorem NR.cut{S:Nat->Prop}{ao:Option Addr}{c h:Nat}{vs:List Value}(hr:NR w ao c vs)(hS:∀g,aK ao g->S g)(h0:0<h)(hle:h<=vs.length):∃g,ao=some ⟨g,0,none⟩/\vs.length<=c/\dY S w (.slice (some ⟨g,0,none⟩) h c) (vs.take h)/\dY S w (.slice (some ⟨g,0+h,none⟩) (vs.length-h) (c-h)) (vs.drop h):=by
 have hw:=hr.win hS;obtain⟨g,o,c',e,hc,_⟩:=hw.shape (by omega);rcases hr with⟨_,hv,_⟩|⟨g',rfl,r⟩
 ·rw[hv]at hle;simp at hle;omega
 injection e with e1 e2 e3
 injection e1 with e1
 injection e1 with e1 e4
 subst e1 e4 e3;exact⟨g',rfl,hc,hw.take h hle,hw.drop h hle⟩
theorem xxh{up c d:Nat}{u1 u2:SS}(dK:X.length=κ)(hp1:u1.pg=t1.pg)(hp2:u2.pg=t2.pg)(hc:c=u1.l.length)(hd:d=u2.l.length) :
  ({bO up (X++t1::t2::Y)with au:=((bO up (X++t1::t2::Y)).au.set κ c).set (κ+1) d}:Sn)=bO up (X++u1::u2::Y):=by
 subst dK hc hd;have l2:(dm X).length=X.length:=by simp[dm]
 show(⟨false,up,[],bJ (X++t1::t2::Y),((dm (X++t1::t2::Y)).set X.length u1.l.length).set (X.length+1) u2.l.length⟩:Sn)=⟨false,up,[],bJ (X++u1::u2::Y),dm (X++u1::u2::Y)⟩;have hk:bJ (X++t1::t2::Y)=bJ (X++u1::u2::Y):=by simp[bJ,hp1,hp2]
 have hcn:dm (X++t1::t2::Y)=dm X++t1.l.length::t2.l.length::dm Y:=by simp[dm]
 have Uf:dm (X++u1::u2::Y)=dm X++u1.l.length::u2.l.length::dm Y:=by simp[dm]
 rw[hk,hcn,Uf]
 congr 1
 rw[List.set_append_right _ _ (by omega),l2,iF,List.set_append_right _ _ (by omega),l2,show X.length+1-X.length=1 by omega];rfl
theorem YL{up:Nat}(h1:Body e up n1 S1)(h2:Body e up n2 S2)(f1:bA n1)(f2:bA n2)(hgt:n1.ax<n1.size+n2.size)(hh:(n1.size+n2.size)/2=h0):bA (aS (aQ n1 n2) h0)/\bA (aV (aQ n1 n2) h0)/\n1.ax/2<=h0/\h0+n1.ax/2<=n1.size+n2.size/\n1.size<=n1.ax/\n2.size<=n1.ax:=by
 obtain⟨hbc,hsz,hmo,oq,hlf⟩:=h1.cat h2;have hm:n1.ax=48\/n1.ax=40:=by unfold Sn.ax;split<;>simp
 have fs:∀x:Sn,bA x->x.size<=x.ax:=λ x hx=>by
  unfold Sn.size Sn.ax
  cases hl:x.leaf with
  | true=>
   obtain⟨a,b,c⟩:=hx.leaf hl;rw[b];simpa using a
  | false=>
   obtain⟨a,b,c,_⟩:=hx.inner hl;rw[c];simpa using a
 have s1:=fs n1 f1;have s2:=fs n2 f2;rw[oq]at s2;obtain⟨_,sA,sB⟩:=hbc.size;obtain⟨c1,c2,c3,c4⟩:=(aQ n1 n2).kX (λ hl=>(sA hl).2.2.2.1) (λ hl=>(sB hl).2.2.1) h0
 have Fh:∀k∈bJ (S1++S2),k<4294967296:=λ q hq=>by
  rw[Je,<-h1.ah.1,<-h2.ah.1]at hq
  cases hl:n1.leaf with
  | true=>rw[(f1.leaf hl).2.1,(f2.leaf (hlf▸hl)).2.1]at hq;simp at hq
  | false=>
   rcases cB.1 hq with hq|hq
   ·exact(f1.inner hl).2.2.2.1 q hq
   exact(f2.inner (hlf▸hl)).2.2.2.1 q hq
 have hcn:∀k∈(aQ n1 n2).au,k<4294967296:=λ q hq=>by
  have hq2:q∈n1.au++n2.au:=hq
  cases hl:n1.leaf with
  | true=>rw[(f1.leaf hl).2.2,(f2.leaf (hlf▸hl)).2.2]at hq2;simp at hq2
  | false=>
   rcases cB.1 hq2 with hq2|hq2
   ·exact(f1.inner hl).2.2.2.2 q hq2
   exact(f2.inner (hlf▸hl)).2.2.2.2 q hq2
 have hcA:∀k∈(aS (aQ n1 n2) h0).au,k<4294967296:=λ q hq=>hcn q (by
  unfold aS at hq
  split at hq
  ·exact hq
  exact fI hq)
 have hcB:∀k∈(aV (aQ n1 n2) h0).au,k<4294967296:=λ q hq=>hcn q (by
  unfold aV at hq
  split at hq
  ·exact hq
  exact fA hq)
 have hup:up<4294967296:=by rw[<-h1.size.1];exact f1.up
 refine⟨Lr (hbc.aS h0).1 hup (by rw[c1,c3,hmo,hsz];omega) (λ q hq=>Fh q (by unfold bJ at hq ⊢;rw[List.map_take]at hq;exact fI hq)) hcA,Lr (hbc.aV h0).1 hup (by rw[c2,c4,hmo,hsz];omega) (λ q hq=>Fh q (by unfold bJ at hq ⊢;rw[List.map_drop]at hq;exact fA hq)) hcB,by omega,by omega,s1,s2⟩
theorem YM{u:Nat}(z:mI A rt aC m qs C e dh X Y t1 t2 n1 n2 S1 S2)(hh:n1.ax/2<=h0/\h0+n1.ax/2<=n1.size+n2.size)(f1:bA (aS (aQ n1 n2) h0))(f2:bA (aV (aQ n1 n2) h0))(hF:∀j,E j\/B0 j->F j)(hs:aD F wM P D Q T rt aC A k)(bi:gK (λ j=>F j/\¬B0 j) wM dB (aS (aQ n1 n2) h0))(hn2:gK (λ j=>F j/\¬B0 j) wM eX (aV (aQ n1 n2) h0))(kE:Kept E W wM)(hQ:E Q)(hT:E T)(dG:∀j,B0 j->¬E j)(eF:¬B0 0)(k15:Kept (λ j=>j<wM.heap.size/\¬B0 j) wM wc)(GG:eD B0 wc fU (bO (aL C) (X++aM t1.pg (aS (aQ n1 n2) h0) ((S1++S2).take h0)::aM t2.pg (aV (aQ n1 n2) h0) ((S1++S2).drop h0)::Y)) ka va aa kc vc ac)(hk:k+130000<900000000)(hu:k+220+1100*(aQ n1 n2).aA.length<=u) :
  Calls Tryz.prog 99 #[.pointer Q,.int .i64 t1.pg,.pointer dB] wc λ e' w1=>e'= .returned (.int .i64 0) /\
   Hid (Calls Tryz.prog 99 #[.pointer Q,.int .i64 t2.pg,.pointer eX] w1 λ e' w2=>e'= .returned (.int .i64 0) /\
    Hid ((n1.size<h0->Calls Tryz.prog 127 #[.pointer Q,.int .i64 t1.pg,.pointer dB,.int .i64 n1.size,.int .i64 h0] w2 λ e' w3=>e'= .returned (.int .i64 0)/\Hid (AA E W w3 P D Q T rt aC u A C e dh fU (X++t1::t2::Y))) /\
     (¬n1.size<h0->Calls Tryz.prog 127 #[.pointer Q,.int .i64 t2.pg,.pointer eX,.int .i64 0,.int .i64 ((n1.size-h0:Nat):Int)] w2 λ e' w3=>e'= .returned (.int .i64 0)/\Hid (AA E W w3 P D Q T rt aC u A C e dh fU (X++t1::t2::Y))))):=by
 have kN:=hs.pz.there;have GH:=hs.own (B:=B0) (λ j hj=>hF j (.inr hj)) (λ hb=>dG Q hb hQ) (λ hb=>dG T hb hT) eF k15;have Du:∀{x:Sn} {nb:Nat},gK (λ j=>F j/\¬B0 j) wM nb x->gK (λ j=>F j\/(wM.heap.size<=j/\j<wc.heap.size)) wc nb x:=λ hn=>(hn.kept (k15.mono (λ j (hj:F j/\¬B0 j)=>⟨kN j hj.1,hj.2⟩))).mono (λ g hg=>.inl hg.1);have Fg:Kept E W wc:=kE.trans (k15.mono (λ j hj=>⟨kN j (hF j (.inl hj)),λ hx=>dG j hx hj⟩));have hrow:=λ (w':World) (hf:EX (λ j=>F j\/(wM.heap.size<=j/\j<wc.heap.size)) wc w' P D Q T rt aC (k+220+1100*(aQ n1 n2).aA.length) A C e dh (X++t1::t2::Y) (X++aM t1.pg (aS (aQ n1 n2) h0) ((S1++S2).take h0)::aM t2.pg (aV (aQ n1 n2) h0) ((S1++S2).drop h0)::Y))=>EX.row (K:=u) hQ hT dG eF (λ j hj=>.inl (hF j hj)) Fg GG ⟨by simp only[zl,dw];omega,by simp only[zl,dw];omega⟩ hf hu;refine(xh1 GH hk z hh (Du bi) (Du hn2) f1 f2).mono ?_;rintro e' w1 ⟨rfl,h1⟩;refine⟨rfl,zH (h1.mono ?_)⟩;rintro e' w2 ⟨rfl,h2,h3⟩;refine⟨rfl,zH ⟨λ hlt=>(h2 hlt).mono ?_,λ hlt=>(h3 hlt).mono ?_⟩⟩
 ·rintro e' w3 ⟨rfl,h4⟩;exact⟨rfl,zH (hrow w3 h4)⟩
 rintro e' w3 ⟨rfl,h4⟩;exact⟨rfl,zH (hrow w3 h4)⟩
end
section
variable{B0 E F Ba Bb:Nat->Prop}{W w w2 wx wq w3 wM:World}{P D Q T rt aC k fU dB eX e up h0 g1 g2 g3:Nat}{A:AP}{S1 S2:List SS}{x0 n1 n2:Sn}{ka va aa pM nC pO lU lT lV nW dN nM:Option Addr}{kc vc ac qc qd qf mH lW kH c1 c2 c3:Nat}
def Dw(E B0:Nat->Prop)(W w':World)(P D Q T rt aC k:Nat)(A:AP)(x0:Sn)(y1 y2:Sn)(fU dB eX:Nat)(ka va aa:Option Addr)(kc vc ac:Nat):Prop:=
 ∃F:Nat->Prop,(∀j,E j\/B0 j->F j)/\aD F w' P D Q T rt aC A k/\eD B0 w' fU x0 ka va aa kc vc ac/\gK (λ j=>F j/\¬B0 j) w' dB y1/\gK (λ j=>F j/\¬B0 j) w' eX y2/\Kept E W w'
theorem wo.ne(v:wo E B0 Ba Bb W w2 P D Q T rt aC k A x0 n1 n2 fU dB eX ka va aa pM nC pO lU lT lV kc vc ac qc qd qf mH lW kH):dB≠eX:=λ e=>v.hab dB (v.ha.2 dB (.inl rfl)) (e▸v.hb.2 eX (.inl rfl))
theorem wo.boxes(v:wo E B0 Ba Bb W w2 P D Q T rt aC k A x0 n1 n2 fU dB eX ka va aa pM nC pO lU lT lV kc vc ac qc qd qf mH lW kH)(bx:Below w2 w2 wx)(cO:sZ wx wq n1 n2 nW dN nM c1 c2 c3)(wu:Below wq wq w3):aI w3 dB #[.bool n1.leaf,.int .i64 (n1.up:Int),.slice pM n1.aA.length qc,.slice nC n1.ah.length qd,.slice pO n1.au.length qf]/\aI w3 eX #[.bool n2.leaf,.int .i64 (n2.up:Int),.slice lU n2.aA.length mH,.slice lT n2.ah.length lW,.slice lV n2.au.length kH]:=by
 have Ck:Below w2 w2 w3:=(bx.trans (cO.pq.mono bx.size)).trans (wu.mono (bf bx.size cO.pq.size));exact⟨v.ha.1.box.next Ck,v.hb.1.box.next Ck⟩
theorem YN(cO:sZ wx wq n1 n2 nW dN nM c1 c2 c3)(hp:0<h0):(h0<=n1.aA.length+n2.aA.length->∃g,nW=some ⟨g,0,none⟩/\n1.aA.length+n2.aA.length<=c1)/\(h0<=n1.ah.length+n2.ah.length->∃g,dN=some ⟨g,0,none⟩/\n1.ah.length+n2.ah.length<=c2)/\(h0<=n1.au.length+n2.au.length->∃g,nM=some ⟨g,0,none⟩/\n1.au.length+n2.au.length<=c3):=by
 refine⟨λ h=>?_,λ h=>?_,λ h=>?_⟩
 ·obtain⟨g,a,b,_⟩:=cO.r1.cut (S:=λ _=>True) (λ _ _=>trivial) hp (by rw[cz,zl];exact h);rw[cz,zl]at b;exact⟨g,a,b⟩
 ·obtain⟨g,a,b,_⟩:=cO.r2.cut (S:=λ _=>True) (λ _ _=>trivial) hp (by rw[dx,zl];exact h);rw[dx,zl]at b;exact⟨g,a,b⟩
 obtain⟨g,a,b,_⟩:=cO.r3.cut (S:=λ _=>True) (λ _ _=>trivial) hp (by rw[dx,zl];exact h);rw[dx,zl]at b;exact⟨g,a,b⟩
theorem wo.Dx(v:wo E B0 Ba Bb W w2 P D Q T rt aC k A x0 n1 n2 fU dB eX ka va aa pM nC pO lU lT lV kc vc ac qc qd qf mH lW kH)(bx:Below w2 w2 wx)(cO:sZ wx wq n1 n2 g1 dN nM c1 c2 c3)(wu:Below wq wq w3)(h1:Body e up n1 S1)(h2:Body e up n2 S2)(hl:n1.leaf=true)(hp:0<h0)(hle:h0<=n1.aA.length+n2.aA.length) :
  Dw E B0 W ((w3.setCell (dB,2) (.slice g1 h0 c1)).setCell (eX,2) (.slice (g1,h0) (n1.aA.length+n2.aA.length-h0) (c1-h0))) P D Q T rt aC k A x0 (aS (aQ n1 n2) h0) (aV (aQ n1 n2) h0) fU dB eX ka va aa kc vc ac:=by
 obtain⟨b1,b2⟩:=v.boxes bx cO wu;have hne:=v.ne;have o1:Only dB w3 (w3.setCell (dB,2) (.slice g1 h0 c1)):=(Only.refl dB w3).set 2 _;have a1:=b1.set 2 (.slice g1 h0 c1);have a2:=b2.only o1 hne.symm;generalize w3.setCell (dB,2) (.slice g1 h0 c1)=w4 at o1 a1 a2 ⊢;have o2:Only eX w4 (w4.setCell (eX,2) (.slice (g1,h0) (n1.aA.length+n2.aA.length-h0) (c1-h0))):=(Only.refl eX w4).set 2 _;have a3:=a1.only o2 hne;have a4:=a2.set 2 (.slice (g1,h0) (n1.aA.length+n2.aA.length-h0) (c1-h0));generalize w4.setCell (eX,2) (.slice (g1,h0) (n1.aA.length+n2.aA.length-h0) (c1-h0))=w5 at o2 a3 a4 ⊢;obtain⟨F,hF,hs,hb0,kE,m1,m2,hnew,y1,y2,y3,y4,y5,y6⟩:=v.Mg bx cO wu o1 o2;obtain⟨r1,r1'⟩:=hnew _ _ _ cO.r1 (λ g hg=>cO.new g (.inl hg));obtain⟨g,hg,_,u1,u2⟩:=r1.cut r1' hp (by rw[cz,zl];exact hle)
 injection hg with hg
 injection hg with hg
 subst hg;rw[cz,zl,gq]at u2;rw[BZ]at u1;rw[BV]at u2;have hlf:=(h1.cat h2).2.2.2.2;obtain⟨_,sA,_⟩:=h1.size;obtain⟨_,sB,_⟩:=h2.size;obtain⟨_,_,_,k1,YO⟩:=sA hl;obtain⟨_,_,_,k2,YP⟩:=sB (hlf▸hl);have hup:n2.up=n1.up:=by rw[h1.size.1,h2.size.1]
 refine⟨F,hF,hs,hb0,⟨_,_,_,by simpa[aS,aQ,hl]using a3,m1,?_,?_,?_⟩,⟨_,_,_,by simpa[aV,aQ,hl,<-hlf,hup]using a4,m2,?_,?_,?_⟩,kE⟩
 ·simpa[aS,aQ,hl]using u1
 ·simpa[aS,aQ,hl,k1,k2]using y2
 ·simpa[aS,aQ,hl,YO,YP]using y3
 ·simpa[aV,aQ,hl]using u2
 ·simpa[aV,aQ,hl,k1,k2]using y5
 simpa[aV,aQ,hl,YO,YP]using y6
theorem wo.AX(v:wo E B0 Ba Bb W w2 P D Q T rt aC k A x0 n1 n2 fU dB eX ka va aa pM nC pO lU lT lV kc vc ac qc qd qf mH lW kH)(bx:Below w2 w2 wx)(cO:sZ wx wq n1 n2 nW g2 g3 c1 c2 c3)(wu:Below wq wq w3)(h1:Body e up n1 S1)(h2:Body e up n2 S2)(hl:n1.leaf=false)(hp:0<h0)(hle:h0<=n1.ah.length+n2.ah.length)(hle3:h0<=n1.au.length+n2.au.length) :
  Dw E B0 W ((((w3.setCell (dB,3) (.slice g2 h0 c2)).setCell (dB,4) (.slice g3 h0 c3)).setCell (eX,3) (.slice (g2,h0) (n1.ah.length+n2.ah.length-h0) (c2-h0))).setCell (eX,4) (.slice (g3,h0) (n1.au.length+n2.au.length-h0) (c3-h0))) P D Q T rt aC k A x0 (aS (aQ n1 n2) h0) (aV (aQ n1 n2) h0) fU dB eX ka va aa kc vc ac:=by
 obtain⟨b1,b2⟩:=v.boxes bx cO wu;have hne:=v.ne;have o1:Only dB w3 ((w3.setCell (dB,3) (.slice g2 h0 c2)).setCell (dB,4) (.slice g3 h0 c3)):=((Only.refl dB w3).set 3 _).set 4 _;have a1:=(b1.set 3 (.slice g2 h0 c2)).set 4 (.slice g3 h0 c3);have a2:=b2.only o1 hne.symm;generalize (w3.setCell (dB,3) (.slice g2 h0 c2)).setCell (dB,4) (.slice g3 h0 c3)=w4 at o1 a1 a2 ⊢;have o2:Only eX w4 ((w4.setCell (eX,3) (.slice (g2,h0) (n1.ah.length+n2.ah.length-h0) (c2-h0))).setCell (eX,4) (.slice (g3,h0) (n1.au.length+n2.au.length-h0) (c3-h0))):=((Only.refl eX w4).set 3 _).set 4 _;have a3:=a1.only o2 hne;have a4:=(a2.set 3 (.slice (g2,h0) (n1.ah.length+n2.ah.length-h0) (c2-h0))).set 4 (.slice (g3,h0) (n1.au.length+n2.au.length-h0) (c3-h0));generalize (w4.setCell (eX,3) (.slice (g2,h0) (n1.ah.length+n2.ah.length-h0) (c2-h0))).setCell (eX,4) (.slice (g3,h0) (n1.au.length+n2.au.length-h0) (c3-h0))=w5 at o2 a3 a4 ⊢;obtain⟨F,hF,hs,hb0,kE,m1,m2,hnew,y1,y2,y3,y4,y5,y6⟩:=v.Mg bx cO wu o1 o2;obtain⟨r2,r2'⟩:=hnew _ _ _ cO.r2 (λ g hg=>cO.new g (.inr (.inl hg)));obtain⟨r3,r3'⟩:=hnew _ _ _ cO.r3 (λ g hg=>cO.new g (.inr (.inr hg)));obtain⟨g,hg,_,u1,u2⟩:=r2.cut r2' hp (by rw[dx,zl];exact hle)
 injection hg with hg
 injection hg with hg
 subst hg;obtain⟨g,hg,_,u3,u4⟩:=r3.cut r3' hp (by rw[dx,zl];exact hle3)
 injection hg with hg
 injection hg with hg
 subst hg;rw[dx,zl,gq]at u2 u4;rw[Li]at u1 u3;rw[Lh]at u2 u4;have hlf:=(h1.cat h2).2.2.2.2;obtain⟨_,_,sA⟩:=h1.size;obtain⟨_,_,sB⟩:=h2.size;have i1:=(sA hl).2.2.1;have i2:=(sB (hlf▸hl)).2.2.1;have hup:n2.up=n1.up:=by rw[h1.size.1,h2.size.1]
 have m3:min h0 (n1.ah.length+n2.ah.length)=h0:=lH hle;have m4:min h0 (n1.au.length+n2.au.length)=h0:=lH hle3;refine⟨F,hF,hs,hb0,⟨_,_,_,by simpa[aS,aQ,hl]using a3,m1,?_,?_,?_⟩,⟨_,_,_,by simpa[aV,aQ,hl,<-hlf,hup]using a4,m2,?_,?_,?_⟩,kE⟩
 ·simpa[aS,aQ,hl,i1,i2]using y1
 ·simpa[aS,aQ,hl]using u1
 ·simpa[aS,aQ,hl]using u3
 ·simpa[aV,aQ,hl,i1,i2]using y4
 ·simpa[aV,aQ,hl]using u2
 simpa[aV,aQ,hl]using u4
theorem YQ{X Y:List SS}{t1 t2 u1 u2:SS}{C:List bV}{κ g v0 c d:Nat}(hb:eD B0 w fU (bO (aL C) (X++t1::t2::Y)) ka v0 g kc vc ac)(dK:X.length=κ)(hp1:u1.pg=t1.pg)(hp2:u2.pg=t2.pg)(hc:c=u1.l.length)(hd:d=u2.l.length) :
  eD B0 ((w.drew.setCell (g,κ) (.int .i64 (c:Int))).setCell (g,κ+1) (.int .i64 (d:Int))) fU (bO (aL C) (X++u1::u2::Y)) ka v0 g kc vc ac/\Kept (λ j=>j<w.heap.size/\¬B0 j) w ((w.drew.setCell (g,κ) (.int .i64 (c:Int))).setCell (g,κ+1) (.int .i64 (d:Int))):=by
 have hcl:(bO (aL C) (X++t1::t2::Y)).au.length=X.length+Y.length+2:=by simp[bO,dm];omega
 have hbd:=hb.kept (aZ _) (W':=w.drew) (λ _ _ _=>rfl);obtain⟨h1,k1⟩:=hbd.dI (c:=c) κ (by omega);obtain⟨h2,k2⟩:=h1.dI (c:=d) (κ+1) (by rw[bB];omega);have hq:=xxh (up:=aL C) (X:=X) (Y:=Y) (t1:=t1) (t2:=t2) (u1:=u1) (u2:=u2) dK hp1 hp2 hc hd;dsimp only at hq h2;rw[hq]at h2;have hs1:=k1.size;exact⟨h2,((Kept.of_below (hBd w) (λ j (hj:j<w.heap.size/\¬B0 j)=>hj.1)).trans k1).trans (k2.mono (λ j hj=>⟨bS hj.1 hs1,hj.2⟩))⟩
end
end Go.Proofs.YtlipgbnnbefhjaaGreatDoor
