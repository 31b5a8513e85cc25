/- Facts on rows of numbers on pages. -/
import Derived.Test.YtlipgbnnbefhjaaGreatDoorKSsKc
set_option maxRecDepth 100000
set_option maxHeartbeats 8000000
set_option linter.unusedSimpArgs false
namespace Go.Proofs.YtlipgbnnbefhjaaGreatDoor
open Go.RowKit
open UK (str aO nth Only Row aI)
open Go.BigFrame
section
variable{B0 E:Nat->Prop}{W:World}{P D Q T rt aC k fU EY e dh:Nat}{A:AP}{qs:List Nat}{m:List KV}{C:List bV}{X Y S1 S2:List SS}{t1 t2:SS}{n1 n2:Sn}{ka va aa:Option Addr}{kc vc ac:Nat}
theorem ybg{κ N:Nat}(hcase:n1.size+n2.size<=n1.ax)(hQ:E Q)(hT:E T)(dG:∀j,B0 j->¬E j)(eF:¬B0 0)(h:aD (λ j=>E j\/B0 j) W P D Q T rt aC A k)(hb0:eD B0 W fU (bO (aL C) (X++t1::t2::Y)) ka va aa kc vc ac)(dK:X.length=κ)(hN:(X++t1::t2::Y).length=N)(kD:N<=40)(z:mI A rt aC m qs C e dh X Y t1 t2 n1 n2 S1 S2)(hk:k+200000<900000000) :
  Calls Tryz.prog 107 #[.pointer Q,.int .i64 EY,.pointer fU,.int .i64 κ] W λ e' w'=>e'= .returned (.int .i64 0)/\AA E W w' P D Q T rt aC (k+224+1100*(n1.aA.length+n2.aA.length)) A C e dh fU (X++t1::t2::Y):=by
 have hkl:(bO (aL C) (X++t1::t2::Y)).ah.length=N:=by rw[<-hN];simp[bO,bJ]
 have hcl:(bO (aL C) (X++t1::t2::Y)).au.length=N:=by rw[<-hN];simp[bO,dm]
 have AB:κ+1<N:=by rw[<-hN,<-dK];simp only[zl,dw];omega
 have hkx:(bO (aL C) (X++t1::t2::Y)).ah=bJ X++t1.pg::t2.pg::bJ Y:=by simp[bO,bJ]
 have yB:(bJ X).length=κ:=by rw[<-dK];simp[bJ]
 obtain⟨v0,rfl,rv⟩:∃g,va=some ⟨g,0,none⟩/\Row W g vc (ints (bO (aL C) (X++t1::t2::Y)).ah):=by
  rcases hb0.1.v with⟨_,h2,_⟩|⟨g,h1,h2⟩
  ·have:=congrArg List.length h2;rw[dx,hkl]at this;simp only[List.length_nil]at this;omega
  exact⟨g,h1,h2⟩
 obtain⟨g0,rfl,ra⟩:∃g,aa=some ⟨g,0,none⟩/\Row W g ac (ints (bO (aL C) (X++t1::t2::Y)).au):=by
  rcases hb0.1.a with⟨_,h2,_⟩|⟨g,h1,h2⟩
  ·have:=congrArg List.length h2;rw[dx,hcl]at this;simp only[List.length_nil]at this;omega
  exact⟨g,h1,h2⟩
 have c3:∀q,(W.drewN q).cell? (fU,3)=some (.slice v0 N vc):=λ q=>by rw[<-hkl];exact hb0.1.box.cell 3 _ rfl
 have k1:∀q,(W.drewN q).cell? (v0,κ)=some (.int .i64 (t1.pg:Int)):=λ q=>rv.at' κ _ (qw _ _ _ (by rw[hkx,dF (by omega),yB,iF];rfl));have k2:∀q,(W.drewN q).cell? (v0,κ+1)=some (.int .i64 (t2.pg:Int)):=λ q=>rv.at' (κ+1) _ (qw _ _ _ (by rw[hkx,dF (by omega),yB,show κ+1-κ=1 by omega];rfl));have hw1:IntKind.i64.wrap ((κ:Int)+1)=(κ:Int)+1:=by rw[bN];omega
 have hw2:IntKind.i64.wrap ((κ:Int)+2)=(κ:Int)+2:=by rw[bN];omega
 have i1:(κ:Int)<(N:Int):=by omega
 have i2:(κ:Int)+1<(N:Int):=by omega
 have i3:κ<N:=by omega
 have HH:=zH (zA hQ (zA hT (zA dG (zA eF (zA h (zA hb0 (zA dK (zA hN (zA z (zA hkl hcl))))))))));have hvl:v0<W.heap.size:=rv.lt;clear hQ hT dG eF h hb0 dK hN z hkl hcl hkx yB rv ra
 go_enter Tryz.func107,Tryz.ntmps107
 go_wp2_with fail
 go_quiet (fail)
 obtain⟨hQ,hT,dG,eF,h,hb0,dK,hN,z,hkl,hcl⟩:=HH.out;have vH:=λ q=>h.next (UK.aG (aP W W) q);have hp:=z.pages;have EZ:=zH (λ q=>xh (vH q) (by omega) (z.rp.dO hp.mP.2.1) z.a1);have H0:=zH vH;clear hQ hT dG eF h hb0 dK hN z hkl hcl vH hp c3 k1 k2
 go_wp2_with fail
 refine(EZ.out _).mono ?_;rintro e' w1 ⟨Ba,dB,pM,nC,pO,qc,qd,qf,rfl,hBa,ha,hs1,nV⟩;clear EZ;obtain⟨hQ,hT,dG,eF,h,hb0,dK,hN,z,hkl,hcl⟩:=HH.out;have hp:=z.pages;have Fa:=zH (xh hs1 (by omega) (z.rp.dO hp.mP.2.2) z.a2);have iZ:Kept (λ j=>E j\/B0 j) W w1:=(Kept.of_below (UK.aG (aP W W) _) h.pz.there).trans nV;have uI:∀j,Ba j->W.heap.size<=j:=λ j hj=>(hBa j hj).1;have H1:=zH (zA uI (zA ha (zA hs1 iZ)));clear hQ hT dG eF h hb0 dK hN z hkl hcl hp hBa ha hs1 nV iZ uI H0
 go_wp2_with fail
 refine Fa.out.mono ?_;rintro e' w2 ⟨Bb,eX,lU,lT,lV,mH,lW,kH,rfl,hBb,hbb,hs2,gy⟩;clear Fa;obtain⟨hQ,hT,dG,eF,h,hb0,dK,hN,z,hkl,hcl⟩:=HH.out;obtain⟨hBa,ha,hs1,iZ⟩:=H1.out;have ha2:=ha.by gy (λ g hg=>.inr hg)
 have AJ:W.heap.size<=w1.heap.size:=iZ.size;have hab:∀j,Ba j->¬Bb j:=λ j h1 h2=>by have:=(hBb j h2).1;have:=hs1.pz.there j (.inr h1);omega
 have uJ:=(hb0.by iZ (λ g hg=>.inr hg)).by gy (λ g hg=>.inl (.inr hg))
 have uK:Kept (λ j=>E j\/B0 j) W w2:=iZ.trans (gy.mono (λ j hj=>.inl hj));have f0:=ha2.1.box.d0;have f1:=hbb.1.box.d0;have hlf:=(z.b1.cat z.b2).2.2.2.2;rw[hlf]at f0;have rR:=nT z.a1;have uL:=nT z.a2;have H2:Hid (wo E B0 Ba Bb W w2 P D Q T rt aC (k+4) A (bO (aL C) (X++t1::t2::Y)) n1 n2 fU dB eX ka v0 g0 pM nC pO lU lT lV kc vc ac qc qd qf mH lW kH):=zH ⟨hBa,λ j hj=>by have:=(hBb j hj).1;omega,hab,ha2,hbb,uJ,hs2,uK,rR,uL,h.pz.there,h.pz.tab.lt,hQ,hT,dG⟩;have Fb:=zH (λ q=>tX ((ha2.reads).kept (Kept.of_below (UK.aG (aP w2 w2) q) (λ i hi=>hs2.pz.there i (.inl (.inr hi))))) rR.ok);clear hQ hT dG eF h hb0 dK hN z hkl hcl hBa ha hs1 iZ ha2 AJ hab uJ uK hlf rR uL hBb hbb hs2 gy H1;generalize n2.leaf=lf at f0 f1
 go_wp2_with fail
 go_quiet (fail)
 clear f0 f1
 go_wp2_with fail
 refine(Fb.out _).mono ?_;rintro e' wx ⟨rfl,q3,hwx⟩;clear Fb;have bx:Below w2 w2 wx:=by rw[hwx];exact UK.aG (UK.aG (aP w2 w2) _) q3
 clear hwx;have ha:=H2.out.ha;have hb:=H2.out.hb;have rR:=H2.out.f1;have uL:=H2.out.f2;have hax:=ha.kept bx.size (λ g _ hg=>bx.block g hg);have hbx:=hb.kept bx.size (λ g _ hg=>bx.block g hg)
 have AL:∀x:Sn,bA x->x.aA.length<=48/\x.ah.length<=40/\x.au.length<=40:=λ x hx=>by
  cases hl:x.leaf with
  | true=>
   obtain⟨p1,p2,p3⟩:=hx.leaf hl;exact⟨p1,by rw[p2];simp,by rw[p3];simp⟩
  | false=>
   obtain⟨p1,p2,p3,_⟩:=hx.inner hl;exact⟨by rw[p3];simp,p1,by omega⟩
 obtain⟨y1,y2,y3⟩:=AL n1 rR;obtain⟨y4,y5,y6⟩:=AL n2 uL;have qV:=zH (Ua hax.1.k hbx.1.k (by omega));have lq:=zH (Jq hax.1.v hbx.1.v (by omega));have BQ:=zH (Jq hax.1.a hbx.1.a (by omega))
 have dC:∀w',Below wx wx w'->w'.cell? (dB,2)=some (.slice pM n1.aA.length qc)/\w'.cell? (eX,2)=some (.slice lU n2.aA.length mH)/\w'.cell? (dB,3)=some (.slice nC n1.ah.length qd)/\w'.cell? (eX,3)=some (.slice lT n2.ah.length lW)/\w'.cell? (dB,4)=some (.slice pO n1.au.length qf)/\w'.cell? (eX,4)=some (.slice lV n2.au.length kH):=λ w' hb'=>
  ⟨(hax.1.box.next hb').cell 2 _ rfl,(hbx.1.box.next hb').cell 2 _ rfl,(hax.1.box.next hb').cell 3 _ rfl,(hbx.1.box.next hb').cell 3 _ rfl,(hax.1.box.next hb').cell 4 _ rfl,(hbx.1.box.next hb').cell 4 _ rfl⟩
 clear ha hb hax hbx AL rR uL;have BX:=zH bx;clear bx
 go_upto_region 11 with(fail)
 go_cut [15,16,17] (λ v1 v2 v3 w'=>∃nW dN nM c1 c2 c3,v1= .slice nW (n1.aA.length+n2.aA.length) c1/\v2= .slice dN (n1.ah.length+n2.ah.length) c2/\v3= .slice nM (n1.au.length+n2.au.length) c3/\sZ wx w' n1 n2 nW dN nM c1 c2 c3)
 case first=>
  have bl:Below wx wx wx.drew:=(aP _ _).drew;have hS1:=dC _ bl
  go_wp2_with fail
  refine wp_region_any (by as_aux_lemma=>kernel_rfl) ?_;refine zT 0 ?_;refine zT 1 ?_;refine zT 2 ?_;refine zT 5 ?_;refine zT 6 ?_;refine zT 7 ?_;refine zT 10 ?_;refine zT 11 ?_;refine zT 12 ?_;refine zT 15 ?_;refine zT 16 ?_;refine zT 17 ?_;refine zT 20 ?_;refine zT 21 ?_;refine zT 22 ?_;refine zT 25 ?_;refine zT 26 ?_;refine zT 27 ?_;refine zV (w:=wx.drew) (λ w'=>w'.cell? (dB,2)=some (.slice pM n1.aA.length qc)/\w'.cell? (eX,2)=some (.slice lU n2.aA.length mH)/\w'.cell? (dB,3)=some (.slice nC n1.ah.length qd)/\w'.cell? (eX,3)=some (.slice lT n2.ah.length lW)/\w'.cell? (dB,4)=some (.slice pO n1.au.length qf)/\w'.cell? (eX,4)=some (.slice lV n2.au.length kH)) 99 (by exact hS1) λ hS0=>?_;refine zU 3 hS0 ?_;refine zU 8 hS0 ?_;refine zU 13 hS0 ?_;refine zU 18 hS0 ?_;refine zU 23 hS0 ?_;refine zU 28 hS0 ?_;clear hS0;refine zL 4 λ K hK=>?_;go_simp;refine(qV.out _ bl).mono ?_;rintro e' w4 ⟨x1,y1,rfl,za,YC,qU,u1,v1,w9,e9,r9,LM,tq,YD,YE⟩
  (try dsimp only)
  refine zK hK ?_ (λ _=>dC _ za);refine zL 9 λ K hK=>?_;refine UK.aB e9 rfl rfl rfl (by simp[Act.eval]) (by simp[Act.eval]) ?_;refine zK hK ?_ (λ _=>dC _ tq);refine zL 14 λ K hK=>?_;go_simp;refine(lq.out _ tq).mono ?_;rintro e' CO ⟨x2,y2,rfl,rJ,LP,LQ,u2,v2,OY,e19,Cg,AQ,mJ,uM,AR⟩
  (try dsimp only)
  refine zK hK ?_ (λ _=>dC _ rJ);refine zL 19 λ K hK=>?_;refine UK.aB e19 rfl rfl rfl (by simp[Act.eval]) (by simp[Act.eval]) ?_;refine zK hK ?_ (λ _=>dC _ mJ);refine zL 24 λ K hK=>?_;go_simp;refine(BQ.out _ mJ).mono ?_;rintro e' YF ⟨x3,y3,rfl,AU,LU,LW,u3,v3,YG,e29,LX,AV,kZ,uN,uO⟩
  (try dsimp only)
  refine zK hK ?_ (λ _=>dC _ AU);refine zL 29 λ K hK=>?_;refine UK.aB e29 rfl rfl rfl (by simp[Act.eval]) (by simp[Act.eval]) ?_;refine zK hK ?_ (λ _=>dC _ kZ);refine zM 30 ?_ (λ _=>dC _ kZ);refine zM 31 ?_ (λ _=>dC _ kZ);refine zM 32 ?_ (λ _=>dC _ kZ);refine iR (by as_aux_lemma=>kernel_rfl) ?_ _
  go_wp2_with fail
  go_meet;refine⟨u1,u2,u3,v1,v2,v3,rfl,rfl,rfl,⟨r9.af (bf uM uN) (λ g hg=>(uO g (bS (r9.lt hg) uM)).trans (AR g (r9.lt hg))),Cg.af uN (λ g hg=>uO g (Cg.lt hg)),LX,λ g hg=>?_,kZ⟩⟩;have s9:=tq.size;have LY:=mJ.size;rcases hg with hg|hg|hg
  ·exact LM g hg
  ·exact bf s9 (AQ g hg)
  exact bf LY (AV g hg)
 case rest=>
 obtain⟨nW,dN,nM,c1,c2,c3,rfl,rfl,rfl,cO⟩:=hcut;have rT:Below w2 w2 wc:=BX.out.trans (cO.pq.mono BX.out.size);have hs3:=H2.out.hs.next rT;have hac:=H2.out.ha.kept rT.size (λ g _ hg=>rT.block g hg);have hbc:=H2.out.hb.kept rT.size (λ g _ hg=>rT.block g hg);have hlt3:=hs3.pz.there;have Ch:=zH (λ (w:World) (bw:Below wc wc w)=>tX (hac.reads.kept (Kept.of_below bw (λ i hi=>hlt3 i (.inl (.inr hi))))) H2.out.f1.ok);have Ci:=zH (λ (w:World) (bw:Below wc wc w)=>tX (hbc.reads.kept (Kept.of_below bw (λ i hi=>hlt3 i (.inr hi)))) H2.out.f2.ok);have Fe:=zH (λ (w:World) (bw:Below wc wc w)=>EG (hac.reads.kept (Kept.of_below bw (λ i hi=>hlt3 i (.inl (.inr hi))))));have HA:=zH (zA hac hbc);have hz1:n1.size<=100:=by unfold Sn.size;omega
 have hz2:n2.size<=100:=by unfold Sn.size;omega
 have hm1:n1.ax<=48:=by unfold Sn.ax;split<;>omega
 have hwz:IntKind.i64.wrap ((n1.size:Int)+(n2.size:Int))=(n1.size:Int)+(n2.size:Int):=by rw[bN];omega
 have HC:=zH cO;have HY:=zH (zA y1 y4);clear rT hs3 hac hbc hlt3 cO dC qV lq BQ y1 y2 y3 y4 y5 y6
 go_wp2_with fail
 refine(Ch.out _ (aP _ _)).mono ?_;rintro e' w3 ⟨rfl,p1,rfl⟩
 go_wp2_with fail
 refine(Ci.out _ (UK.aG (aP _ _) p1)).mono ?_;rintro e' w3 ⟨rfl,p2,rfl⟩
 go_wp2_with fail
 refine(Fe.out _ (UK.aG (aP _ _) (p1+p2))).mono ?_;rintro e' w3 ⟨rfl,hw3⟩;have bD:Below wc wc w3:=by rw[hw3];exact UK.aG (aP _ _) (p1+p2)
 clear Fe hw3;have BD:=zH bD;clear bD;by_cases Cj:n1.size+n2.size<=n1.ax
 ·have Dr:(n1.size:Int)+(n2.size:Int)<=(n1.ax:Int):=by omega
  have had:=HA.out.1.kept BD.out.size (λ g _ hg=>BD.out.block g hg);have oM:Only dB w3 (((w3.setCell (dB,2) (.slice nW (n1.aA.length+n2.aA.length) c1)).setCell (dB,3) (.slice dN (n1.ah.length+n2.ah.length) c2)).setCell (dB,4) (.slice nM (n1.au.length+n2.au.length) c3)):=(((Only.refl dB w3).set 2 _).set 3 _).set 4 _;have bM:=((had.1.box.set 2 (.slice nW (n1.aA.length+n2.aA.length) c1)).set 3 (.slice dN (n1.ah.length+n2.ah.length) c2)).set 4 (.slice nM (n1.au.length+n2.au.length) c3);have YH:aI (((w3.setCell (dB,2) (.slice nW (n1.aA.length+n2.aA.length) c1)).setCell (dB,3) (.slice dN (n1.ah.length+n2.ah.length) c2)).setCell (dB,4) (.slice nM (n1.au.length+n2.au.length) c3)) dB #[.bool n1.leaf,.int .i64 (n1.up:Int),.slice nW (n1.aA.length+n2.aA.length) c1,.slice dN (n1.ah.length+n2.ah.length) c2,.slice nM (n1.au.length+n2.au.length) c3]:=bM;have z2:=had.1.box.cell 2 _ rfl;have z3:=had.1.box.cell 3 _ rfl;have z4:=had.1.box.cell 4 _ rfl;have z5:=had.1.box.free 2;have z6:=had.1.box.free 3;have z7:=had.1.box.free 4;have HM:=zH (zA oM YH);have LZ:=Cj
  have yx:k+4+220+1100*(aQ n1 n2).aA.length<=k+224+1100*(n1.aA.length+n2.aA.length):=by
   have:=HY.out;show k+4+220+1100*(n1.aA++n2.aA).length<=_;rw[zl];omega
  clear had oM bM YH Ch Ci hz1 hz2 hm1 Cj
  go_upto_region 13 with(fail)
  go_cut [] (λ w'=>Hid (∃F:Nat->Prop,(∀j,E j\/B0 j->F j)/\aD F w' P D Q T rt aC A (k+4)/\eD B0 w' fU (bO (aL C) (X++t1::t2::Y)) ka v0 g0 kc vc ac/\gK (λ j=>F j/\¬B0 j) w' dB (aQ n1 n2)/\Kept E W w'))
  case first=>as_aux_lemma=>
   go_wp2_with fail
   go_meet
   case rel=>exact zH (H2.out.Mc BX.out HC.out BD.out HM.out.1 HM.out.2)
  case rest=>
  obtain⟨F,hF,xC,kI,yC,kE⟩:=hcut.out;clear z2 z3 z4 z5 z6 z7 HM hcut;obtain⟨wM,Md⟩:∃wM,wM=wc:=⟨_,rfl⟩;subst Md;have HD:=zH (xul kI HH.out.2.2.2.2.2.2.2.2.2.1 HH.out.2.2.2.2.2.2.2.2.2.2 (by omega) AB);have z3:wM.cell? (fU,3)=some (.slice v0 N vc):=by rw[<-HH.out.2.2.2.2.2.2.2.2.2.1];exact kI.1.box.cell 3 _ rfl
  have z4:wM.cell? (fU,4)=some (.slice g0 N ac):=by rw[<-HH.out.2.2.2.2.2.2.2.2.2.2];exact kI.1.box.cell 4 _ rfl
  have qF:=zH (zA hF (zA xC (zA yC kE)));clear hF xC kI yC kE
  go_upto_region 14 with(fail)
  go_cut [] (λ w'=>Hid (eD B0 w' fU {bO (aL C) (X++t1::t2::Y)with ah:=(bO (aL C) (X++t1::t2::Y)).ah.take (κ+1)++(bO (aL C) (X++t1::t2::Y)).ah.drop (κ+2),au:=(bO (aL C) (X++t1::t2::Y)).au.take (κ+1)++(bO (aL C) (X++t1::t2::Y)).au.drop (κ+2)} ka v0 g0 kc vc ac/\Kept (λ j=>j<wM.heap.size/\¬B0 j) wM w'))
  case first=>
   go_wp2_with fail
   refine wp_region_any (by as_aux_lemma=>kernel_rfl) ?_;refine zT 0 ?_;refine zT 1 ?_;refine zT 2 ?_;refine zT 3 ?_;refine zT 4 ?_;refine zT 6 ?_;refine zT 7 ?_;refine zT 8 ?_;refine zT 9 ?_;refine zT 11 ?_;refine zT 12 ?_;refine zT 13 ?_;refine zT 15 ?_;refine zT 16 ?_;refine zT 17 ?_;refine zT 18 ?_;refine zV (w:=wM.drew) (λ w'=>w'.cell? (fU,3)=some (.slice v0 N vc)/\w'.cell? (fU,4)=some (.slice g0 N ac)) 20 (by exact ⟨z3,z4⟩) λ hS0=>?_;refine zU 5 hS0 ?_;refine zU 14 hS0 ?_;clear hS0;refine zL 10 λ K hK=>?_;go_simp;refine(HD.out _ (aP _ _).drew).mono ?_;rintro e' wa ⟨rfl,s1,s2,hd2⟩
   (try dsimp only)
   replace hd2:=zH hd2;refine zK hK ?_ (λ _=>⟨s1,s2⟩);refine zL 19 λ K hK=>?_;go_simp;refine(hd2.out _ (aP _ _)).mono ?_;rintro e' wb ⟨rfl,t1',t2',q1,q2,hf⟩
   (try dsimp only)
   refine zK hK ?_ (λ _=>⟨t1',t2'⟩);refine zM 20 ?_;refine zM 21 ?_;refine zM 22 ?_;refine zM 23 ?_;refine zM 24 ?_;refine zM 25 ?_;refine iR (by as_aux_lemma=>kernel_rfl) ?_ _
   go_wp2_with fail
   go_meet
   case rel=>exact hf
  case rest=>
  clear z3 z4 HD;obtain⟨wN,hwN⟩:∃wN,wN=wc:=⟨_,rfl⟩;subst hwN;have Me:=hcut;clear hcut;have hlc:((bO (aL C) (X++t1::t2::Y)).au.take (κ+1)++(bO (aL C) (X++t1::t2::Y)).au.drop (κ+2)).length=N-1:=by rw[zl,zt,zd,HH.out.2.2.2.2.2.2.2.2.2.2];omega
  obtain⟨vv,z4,z5,z6⟩:=Mf Me.out.1 hlc (show κ<N-1 by omega);have YJ:=zH (λ (wq:World) (bq:Below wN wN wq)=>yY (qF.out.2.2.1.aside qF.out.2.1.pz.there Me.out.2 bq) (YK HH.out.2.2.2.2.2.2.2.2.1.b1 HH.out.2.2.2.2.2.2.2.2.1.b2 H2.out.f1 H2.out.f2 LZ).ok);have i4:(κ:Int)<((N-1:Nat):Int):=by omega
  have i5:κ<N-1:=by omega
  have HLC:=zH hlc;clear hlc
  go_upto_region 15 with(fail)
  go_cut [] (λ w'=>Hid (eD B0 w' fU (bO (aL C) (X++aM t1.pg (aQ n1 n2) (S1++S2)::Y)) ka v0 g0 kc vc ac/\Kept (λ j=>j<wM.heap.size/\¬B0 j) wM w'))
  case first=>as_aux_lemma=>
   go_wp2_with fail
   go_region_with (first|(go_at_call 33;refine(YJ.out _ ?_).mono ?_;(focus (repeat (first|with_reducible exact aP _ _|with_reducible apply gW|with_reducible apply gQ)));rintro e' w9 ⟨rfl,rfl⟩))
   all_goals
    have Ub:=zH (xxg Me.out.1 Me.out.2 HLC.out (show κ<N-1 by omega) HH.out.2.2.2.2.2.2.1 HH.out.2.2.2.2.2.2.2.2.1)
    go_wp2_with fail
    go_meet
    case rel=>exact zH Ub.out
  case rest=>
  clear z4 z5 z6 YJ;have Ff:=zH (xm4 HH.out.2.2.2.2.2.2.2.2.1 qF.out.1 qF.out.2.1 qF.out.2.2.1 (YK HH.out.2.2.2.2.2.2.2.2.1.b1 HH.out.2.2.2.2.2.2.2.2.1.b2 H2.out.f1 H2.out.f2 LZ) qF.out.2.2.2 HH.out.1 HH.out.2.1 HH.out.2.2.1 HH.out.2.2.2.1 hcut.out.2 hcut.out.1 (by omega));clear hcut Me qF HC H2 BX BD HA
  as_aux_lemma=>
   go_wp2_with fail
   refine Ff.out.mono ?_;rintro e' w5 ⟨rfl,h5⟩;clear Ff
   go_wp2_with fail
   refine h5.out.mono ?_;rintro e' w6 ⟨rfl,h6⟩;clear h5
   go_wp2_with fail
   refine h6.out.mono ?_;rintro e' w7 ⟨rfl,q7,h7⟩;clear h6
   go_wp2_with fail
   refine h7.out.mono ?_;rintro e' w8 ⟨rfl,Dt⟩;clear h7 q7;go_wp2;go_ret;exact⟨rfl,Dt.out.up yx⟩
 exact absurd hcase (by omega)
end
end Go.Proofs.YtlipgbnnbefhjaaGreatDoor
