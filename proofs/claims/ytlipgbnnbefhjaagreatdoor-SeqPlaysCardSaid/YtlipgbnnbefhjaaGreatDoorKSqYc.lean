/- Facts on rows of numbers on pages. -/
import Derived.Test.YtlipgbnnbefhjaaGreatDoorKSqWc
set_option maxRecDepth 100000
set_option maxHeartbeats 8000000
set_option linter.unusedSimpArgs false
namespace Go.Proofs.YtlipgbnnbefhjaaGreatDoor
open Go.RowKit
open UK (str aO nth Only Row aI)
theorem TE(pg:Nat):∀(C:List bV),C≠[]->EE pg C∈aT C
 | [],h=>absurd rfl h
 | [fr],_=>by simp[EE,aT]
 | fr::TF::C,_=>by
  have:=TE fr.pg (TF::C) (by simp);show EE fr.pg (TF::C)∈fr.pg::(bI fr.L++bI fr.R++aT (TF::C));exact eu _ (fE _ this)
section
variable{B E F:Nat->Prop}{W W':World}{P D Q T rt aC k nb e:Nat}{A:AP}{n:Sn}{qs:List Nat}{m:List KV}{C:List bV}{s:SS}{ka va aa:Option Addr}{kc vc ac:Nat}
theorem ZI.qa{fr:bV}(h:ZI A rt aC m qs (fr::C) e s n):s.pg≠rt:=λ e=>h.away.2 (by rw[e,<-h.root];exact TE _ _ (by simp))
def Jj(E:Nat->Prop)(W wr:World)(P D Q T rt aC k:Nat)(A:AP)(qs:List Nat)(C:List bV)(e:Nat)(s:SS)(n:Sn)(j lD nb':Nat):Prop:=
 ∃C' s' n' B' A' m' bK kk ka va aa kc vc ac,lD=s'.pg/\j+C'.length=C.length/\(∀i,B' i->¬E i)/\¬B' 0 /\aD (λ i=>E i\/B' i) wr P D Q T rt aC A' kk/\kk+1100*n'.aA.length<=k+1100*n.aA.length+400*j/\Kept E W wr/\eD B' wr nb' n' ka va aa kc vc ac/\ZI A' rt aC m' bK C' (e+j) s' n'/\n'.size<=n'.ax+1/\(C'≠[]->dD n')/\(n'.leaf=false->2<=n'.ah.length)/\bP (dE C' s'.lv)=bP (dE C s.lv)/\A.Reach A'/\A'.ay+j+bK.length=A.ay+qs.length/\s'.ps.length+(aT C').length=s.ps.length+(aT C).length+j
theorem Yw{wr:World}{A':AP}{m':List KV}{bK:List Nat}{C':List bV}{s':SS}{n':Sn}{B':Nat->Prop}{kk K nb':Nat}(hQ:E Q)(hT:E T)(aJ:C'.length<=19)(h:aD (λ i=>E i\/B' i) wr P D Q T rt aC A' kk)(hkk:kk+103<=K)(hk:kk+300<900000000)(kp:Kept E W wr)(hn:gK (λ i=>E i\/B' i) wr nb' n')(hz:ZI A' rt aC m' bK C' e s' n')(hx:bA n')(dR:C'≠[]->dD n')(fO:n'.leaf=false->2<=n'.ah.length)(hre:A.Reach A') :
  Calls Tryz.prog 99 #[.pointer Q,.int .i64 s'.pg,.pointer nb'] wr λ e' w'=>e'= .returned (.int .i64 0) /\
   Calls Tryz.prog 100 #[.pointer Q,.int .i64 s'.pg,.pointer nb'] w' λ e' w'=>e'= .returned (.int .i64 0)/\mF E W w' P D Q T rt aC K A (A'.ay+(s'.ps.length+(aT C').length)+bK.length) (bP (dE C' s'.lv)):=by
 obtain⟨z1,z2,z3,z4,z5⟩:=hz.store hx;refine(Dc h (by omega) hz.has hn hx).mono ?_;rintro e' w1 ⟨rfl,hs1,k1⟩;refine⟨rfl,(Yn hs1 z1 z2 dR (hn.kept k1) aJ (by omega)).mono ?_⟩;rintro e' w2 ⟨rfl,s2,n2,A2,hs2,k2,hz2,yw,hlv,hpm,G5,TG,mZ⟩;refine⟨rfl,A2,m',bK,_,s2,n2,(hs2.less hQ hT (λ j hj=>.inl hj)).up (by omega),(kp.trans (k1.mono (λ j hj=>.inl hj))).trans (k2.mono (λ j hj=>.inl hj)),⟨hz2,yw,λ hl=>?_⟩,by rw[<-hlv];rfl,(hre.trans z3).trans G5,?_⟩
 ·rcases mZ with⟨_,rfl⟩|⟨_,h2⟩
  ·exact fO hl
  exact h2
 have:=hpm.length_eq;rw[zl]at this;rw[TG,z4];omega
theorem bV.two(fr:bV)(up:Nat)(s1 s2:SS):({{fr.node up s1.pg s1.l.length with ah:=(fr.node up s1.pg s1.l.length).ah.take (fr.L.length+1)++s2.pg::(fr.node up s1.pg s1.l.length).ah.drop (fr.L.length+1)}with au:=(fr.node up s1.pg s1.l.length).au.take (fr.L.length+1)++s2.l.length::(fr.node up s1.pg s1.l.length).au.drop (fr.L.length+1)}:Sn)=bO up (fr.L++s1::s2::fr.R):=by
 have h1:(bJ fr.L).length=fr.L.length:=by simp[bJ]
 have h2:(dm fr.L).length=fr.L.length:=by simp[dm]
 have ik:∀(a b:List Nat) (x y:Nat) (i:Nat),a.length=i->(a++x::b).take (i+1)++y::(a++x::b).drop (i+1)=a++x::y::b:=λ a b x y i hi=>by
  rw[show a++x::b=(a++[x])++b by simp,List.take_left' (by simp[hi]),List.drop_left' (by simp[hi])];simp
 have e1:=ik (bJ fr.L) (bJ fr.R) s1.pg s2.pg _ h1;have e2:=ik (dm fr.L) (dm fr.R) s1.l.length s2.l.length _ h2;show(⟨false,up,[],(bJ fr.L++s1.pg::bJ fr.R).take (fr.L.length+1)++s2.pg::(bJ fr.L++s1.pg::bJ fr.R).drop (fr.L.length+1),(dm fr.L++s1.l.length::dm fr.R).take (fr.L.length+1)++s2.l.length::(dm fr.L++s1.l.length::dm fr.R).drop (fr.L.length+1)⟩:Sn)=⟨false,up,[],bJ (fr.L++s1::s2::fr.R),dm (fr.L++s1::s2::fr.R)⟩;rw[e1,e2,Je,Ox];rfl
theorem EP(up:Nat)(ae:List SS):(bO up ae).size=ae.length/\(bO up ae).ax=40/\(bO up ae).aA=[]/\(bO up ae).ah.length=ae.length:=by simp[bO,Sn.size,Sn.ax,bJ]
theorem Jj.next{w7 w8 w:World}{j kk lF:Nat}{A1 A':AP}{m1 m':List KV}{rE bK:List Nat}{fr:bV}{C2:List bV}{s1 t1 t2:SS}{n1 x1 x2:Sn}{B1 F' B8 B9:Nat->Prop}{wr:World}(hQ:E Q)(hT:E T)
  (aJ:j+(fr::C2).length=C.length) (dG:∀i,B1 i->¬E i) (hkk:kk+1100*n1.aA.length<=k+1100*n.aA.length+400*j) (kp:Kept E W wr) (hz:ZI A1 rt aC m1 rE (fr::C2) (e+j) s1 n1) (hN:bP (dE (fr::C2) s1.lv)=bP (dE C s.lv)) (hre:A.Reach A1) (hro:A1.ay+j+rE.length=A.ay+qs.length) (hps:s1.ps.length+(aT (fr::C2)).length=s.ps.length+(aT C).length+j)
  (jO:∀i,(E i\/B1 i)->F' i) (hs7:aD F' w7 P D Q T rt aC A' (kk+210+1100*n1.aA.length)) (fO:Gy A1 A' rt aC m1 rE bK (fr::C2) (e+j) (aL (fr::C2)) s1 t1 t2 x1 x2 m') (cK:t1.pg=s1.pg) (k7:Kept (λ i=>(E i\/B1 i)/\¬B1 i) wr w7)
  (h8:∀i,B8 i->w7.heap.size<=i) (rQ:aD (λ i=>F' i\/B8 i) w8 P D Q T rt aC A' (kk+210+1100*n1.aA.length+2)) (k8:Kept F' w7 w8) (h9:∀i,B9 i↔B8 i\/(w8.heap.size<=i/\i<w.heap.size)) (k9:Kept (λ i=>i<w8.heap.size/\¬B8 i) w8 w) (hb:eD B9 w lF (bO (aL C2) (fr.L++t1::t2::fr.R)) ka va aa kc vc ac) :
  Jj E W w P D Q T rt aC k A qs C e s n (j+1) fr.pg lF:=by
 have xz:∀i,E i->F' i:=λ i hi=>jO i (.inl hi);have hF7:=hs7.pz.there;have OH:∀i,B8 i->¬F' i:=λ i hi hf=>by have:=h8 i hi;have:=hF7 i hf;omega
 have Yx:∀i,E i->i<w8.heap.size/\¬B8 i:=λ i hi=>⟨rQ.pz.there i (.inl (xz i hi)),λ hb=>OH i hb (xz i hi)⟩;have hso:=rQ.own (B:=B8) (λ i hi=>.inr hi) (λ hb=>OH Q hb (xz Q hQ)) (λ hb=>OH T hb (xz T hT)) (λ hb=>by have:=h8 _ hb;have:=hs7.pz.tab.lt;omega) k9;have hz2:=ZI.join fO.k1 fO.k2 fO.rp fO.rv fO.cx (by rw[cK];exact hz.root);have hab:=hz.above;obtain⟨hsz,hmo,hid,hkl⟩:=EP (aL C2) (fr.L++t1::t2::fr.R);have hl2:(fr.L++t1::t2::fr.R).length=fr.L.length+fr.R.length+2:=by simp only[zl,dw];omega
 have kD:=(hab.2.1.inner rfl).1;have hix:=hz.index.2.2.1
 have rH:bP (dE C2 (jC fr.pg (fr.L++t1::t2::fr.R)).lv)=bP (dE C s.lv):=by
  rw[<-hN]
  have e1:(jC fr.pg (fr.L++t1::t2::fr.R)).lv=cu fr.L++(t1.lv++t2.lv)++cu fr.R:=by
   show cu (fr.L++t1::t2::fr.R)=_;rw[BS,Cb,Cb];simp only[dH]
  rw[e1];show bP (dE (fr::C2) (t1.lv++t2.lv))=_;rw[sQ,sQ,fO.num]
 have hpl:(jC fr.pg (fr.L++t1::t2::fr.R)).ps.length+(aT C2).length=s.ps.length+(aT C).length+(j+1):=by
  have h1:=fO.len
  have e1:(jC fr.pg (fr.L++t1::t2::fr.R)).ps.length=1+((bI fr.L).length+(t1.ps.length+(t2.ps.length+(bI fr.R).length))):=by
   show(fr.pg::bI (fr.L++t1::t2::fr.R)).length=_;rw[vS,Ao,Ao];simp only[dw,zl];omega
  have e2:(aT (fr::C2)).length=1+((bI fr.L).length+(bI fr.R).length+(aT C2).length):=by
   show(fr.pg::(bI fr.L++bI fr.R++aT C2)).length=_;simp only[dw,zl];omega
  omega
 have oz:=fO.ay
 have dR:C2≠[]->dD (bO (aL C2) (fr.L++t1::t2::fr.R)):=λ hC=>by
  have:=hab.2.2.2.2.1 hC;unfold dD;omega
 have k9E:Kept E W w:=((kp.trans (k7.mono (λ i hi=>⟨.inl hi,λ hb=>dG i hb hi⟩))).trans (k8.mono xz)).trans (k9.mono Yx);refine⟨C2,jC fr.pg (fr.L++t1::t2::fr.R),bO (aL C2) (fr.L++t1::t2::fr.R),B9,A',m',bK,kk+210+1100*n1.aA.length+2,ka,va,aa,kc,vc,ac,rfl,by simp only[dw]at aJ;omega,λ i hi he=>?_,λ hi=>?_,hso.less (.inl hQ) (.inl hT) (λ i hi=>?_),by rw[hid];simp only[List.length_nil];omega,k9E,hb,by rw[<-Nat.add_assoc];exact hz2,by omega,dR,λ _=>by rw[hkl];omega,rH,hre.trans fO.reach,by omega,hpl⟩
 ·rcases(h9 i).1 hi with h1|h1
  ·exact OH i h1 (xz i he)
  have:=(Yx i he).1;omega
 ·rcases(h9 _).1 hi with h1|h1
  ·have:=h8 _ h1;have:=hs7.pz.tab.lt;omega
  have:=rQ.pz.tab.lt;omega
 rcases hi with h1|h1
 ·exact .inl (.inl (xz i h1))
 rcases(h9 i).1 h1 with h1|h1
 ·exact .inl (.inr h1)
 exact .inr h1
end
section
variable{B E F:Nat->Prop}{W W':World}{P D Q T rt aC k nb e:Nat}{A:AP}{n:Sn}{qs:List Nat}{m:List KV}{C:List bV}{s:SS}{ka va aa:Option Addr}{kc vc ac:Nat}
theorem xxb{w wa:World}{g0 v0 vb i more:Nat}{x:Sn}(hb:eD B w nb x ka v0 g0 kc vc ac)(hl:x.ah.length<=1000)(hi:i+1<=x.ah.length)(ba:Below w w wa)(hv:aI wa vb #[.int .i64 (more:Int)])(hvb:w.heap.size<=vb) :
  Calls Tryz.prog 104 #[.slice v0 x.ah.length vc,.int .i64 ((i:Int)+1),.slice vb 1 1] wa λ e w'=>∃g c,e= .returned (.slice (some ⟨g,0,none⟩) (x.ah.length+1) c)/\w'.frozen? ⟨nb,3,none⟩=false/\(∃v,w'.cell? (nb,3)=some v)/\(∃B',(∀j,B' j↔B j\/(w.heap.size<=j/\j<(w'.setCell (nb,3) (.slice (some ⟨g,0,none⟩) (x.ah.length+1) c)).heap.size))/\eD B' (w'.setCell (nb,3) (.slice (some ⟨g,0,none⟩) (x.ah.length+1) c)) nb {x with ah:=x.ah.take (i+1)++more::x.ah.drop (i+1)} ka (some ⟨g,0,none⟩) g0 kc c ac/\Kept (λ j=>j<w.heap.size/\¬B j) w (w'.setCell (nb,3) (.slice (some ⟨g,0,none⟩) (x.ah.length+1) c))):=by
 have qA:=hb.kept ba.size (λ g _ hg=>ba.block g hg);rw[show((i:Int)+1)=((i+1:Nat):Int)from rfl];refine(TH qA.1.v hl hi more hv (λ e=>by have:=hb.1.v.lt e;omega)).mono ?_;rintro e w' ⟨g,c,rfl,r,o,hg⟩;have aJ:(x.ah.take (i+1)++more::x.ah.drop (i+1)).length=x.ah.length+1:=by simp only[zl,zt,dw,zd];omega
 have hg2:aK v0 g\/wa.heap.size<=g:=hg;obtain⟨h1,h2⟩:=qA.yl r o hg2
 have hgn:nb≠g:=by
  rcases hg2 with h|h
  ·exact λ e=>(hb.1.new g (.inr (.inl h))).2 e.symm
  have:=qA.1.box.lt;omega
 have hbx:=qA.1.box.only o hgn;rw[aJ]at h1 h2;refine⟨g,c,by rw[aJ],hbx.free 3,⟨_,hbx.cell 3 _ rfl⟩,_,λ j=>Iff.rfl,h1.mono (λ j hj=>?_),(Kept.of_below ba (λ j (hj:j<w.heap.size/\¬B j)=>hj.1)).trans (h2.mono (λ j hj=>⟨bS hj.1 ba.size,hj.2⟩))⟩;rcases hj with hj|hj
 ·exact .inl hj
 exact .inr ⟨bf ba.size hj.1,hj.2⟩
theorem xxc{w wa:World}{g0 v0 vb i c0:Nat}{x:Sn}(hb:eD B w nb x ka v0 g0 kc vc ac)(hl:x.au.length<=1000)(hi:i+1<=x.au.length)(ba:Below w w wa)(hv:aI wa vb #[.int .i64 (c0:Int)])(hvb:w.heap.size<=vb) :
  Calls Tryz.prog 104 #[.slice g0 x.au.length ac,.int .i64 ((i:Int)+1),.slice vb 1 1] wa λ e w'=>∃g c,e= .returned (.slice (some ⟨g,0,none⟩) (x.au.length+1) c)/\w'.frozen? ⟨nb,4,none⟩=false/\(∃v,w'.cell? (nb,4)=some v)/\(∃B',(∀j,B' j↔B j\/(w.heap.size<=j/\j<(w'.setCell (nb,4) (.slice (some ⟨g,0,none⟩) (x.au.length+1) c)).heap.size))/\eD B' (w'.setCell (nb,4) (.slice (some ⟨g,0,none⟩) (x.au.length+1) c)) nb {x with au:=x.au.take (i+1)++c0::x.au.drop (i+1)} ka v0 (some ⟨g,0,none⟩) kc vc c/\Kept (λ j=>j<w.heap.size/\¬B j) w (w'.setCell (nb,4) (.slice (some ⟨g,0,none⟩) (x.au.length+1) c))):=by
 have qA:=hb.kept ba.size (λ g _ hg=>ba.block g hg);rw[show((i:Int)+1)=((i+1:Nat):Int)from rfl];refine(TH qA.1.a hl hi c0 hv (λ e=>by have:=hb.1.a.lt e;omega)).mono ?_;rintro e w' ⟨g,c,rfl,r,o,hg⟩;have aJ:(x.au.take (i+1)++c0::x.au.drop (i+1)).length=x.au.length+1:=by simp only[zl,zt,dw,zd];omega
 have hg2:aK g0 g\/wa.heap.size<=g:=hg;obtain⟨h1,h2⟩:=qA.yn r o hg2
 have hgn:nb≠g:=by
  rcases hg2 with h|h
  ·exact λ e=>(hb.1.new g (.inr (.inr h))).2 e.symm
  have:=qA.1.box.lt;omega
 have hbx:=qA.1.box.only o hgn;rw[aJ]at h1 h2;refine⟨g,c,by rw[aJ],hbx.free 4,⟨_,hbx.cell 4 _ rfl⟩,_,λ j=>Iff.rfl,h1.mono (λ j hj=>?_),(Kept.of_below ba (λ j (hj:j<w.heap.size/\¬B j)=>hj.1)).trans (h2.mono (λ j hj=>⟨bS hj.1 ba.size,hj.2⟩))⟩;rcases hj with hj|hj
 ·exact .inl hj
 exact .inr ⟨bf ba.size hj.1,hj.2⟩
end
end Go.Proofs.YtlipgbnnbefhjaaGreatDoor
