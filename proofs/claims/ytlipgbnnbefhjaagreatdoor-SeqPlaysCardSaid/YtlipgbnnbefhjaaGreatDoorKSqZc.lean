/- Facts on rows of numbers on pages. -/
import Derived.Test.YtlipgbnnbefhjaaGreatDoorKSqYc
set_option maxRecDepth 100000
set_option maxHeartbeats 8000000
set_option linter.unusedSimpArgs false
namespace Go.Proofs.YtlipgbnnbefhjaaGreatDoor
open Go.RowKit
open UK (str aO nth Only Row aI)
theorem mF.from{E:Nat->Prop}{W W2 w':World}{P D Q T rt aC k1 k2 tot:Nat}{A A1:AP}{l:List UInt64}(h:mF E W2 w' P D Q T rt aC k1 A1 tot l)(kp:Kept E W W2)(hre:A.Reach A1)(hk:k1<=k2){G6:Nat}(ht:tot=G6){l2:List UInt64}(hl:l=l2):mF E W w' P D Q T rt aC k2 A G6 l2:=by
 subst ht hl;obtain⟨A',m',bK,e',s',n',hs,k,hr,hl,G5,ht⟩:=h;exact⟨A',m',bK,e',s',n',hs.up hk,kp.trans k,hr,hl,hre.trans G5,ht⟩
section
variable{B E F:Nat->Prop}{W W':World}{P D Q T rt aC k nb e:Nat}{A:AP}{n:Sn}{qs:List Nat}{m:List KV}{C:List bV}{s:SS}{ka va aa:Option Addr}{kc vc ac:Nat}
theorem ZI.fits(h:ZI A rt aC m qs C e s n)(hle:n.size<=n.ax):bA n:=by
 obtain⟨ae,hb,hk,hs⟩:=h.ni.body;exact Lr hb h.pY hle (h.xy hs hk) (h.small hb hs)
theorem ZI.Ar(h:ZI A rt aC m qs C e s n)(hle:n.size<=n.ax+1):qp n:=by
 obtain⟨ae,hb,hk,hs⟩:=h.ni.body;have hm:n.ax<=48:=by unfold Sn.ax;split<;>omega
 exact qp.Dh hb (by omega) (h.small hb hs)
theorem xuc{B8 B10 TJ:Nat->Prop}{w8 w9 yc tQ:World}(G7:w9.heap.size=w8.heap.size)(k9:Kept (λ i=>i<w8.heap.size/\¬B8 i) w8 w9)(h10:∀i,B10 i↔B8 i\/(w9.heap.size<=i/\i<yc.heap.size))(k10:Kept (λ i=>i<w9.heap.size/\¬B8 i) w9 yc)(h12:∀i,TJ i↔B10 i\/(yc.heap.size<=i/\i<tQ.heap.size))(k12:Kept (λ i=>i<yc.heap.size/\¬B10 i) yc tQ) :
  (∀i,TJ i↔B8 i\/(w8.heap.size<=i/\i<tQ.heap.size))/\Kept (λ i=>i<w8.heap.size/\¬B8 i) w8 tQ:=by
 have h1:=k10.size;have h2:=k12.size;refine⟨λ i=>?_,(k9.trans (k10.mono (λ i hi=>⟨by omega,hi.2⟩))).trans (k12.mono (λ i hi=>⟨by omega,λ hb=>?_⟩))⟩
 ·rw[h12,h10]
  constructor
  ·rintro((h|h)|h)
   ·exact .inl h
   ·exact .inr ⟨by omega,by omega⟩
   exact .inr ⟨by omega,by omega⟩
  rintro(h|h)
  ·exact .inl (.inl h)
  by_cases hi:i<yc.heap.size
  ·exact .inl (.inr ⟨by omega,hi⟩)
  exact .inr ⟨by omega,h.2⟩
 rcases(h10 i).1 hb with h|h
 ·exact hi.2 h
 omega
theorem xxd(hQ:E Q)(hT:E T)(dG:∀i,B i->¬E i)(eF:¬B 0)(h:aD (λ i=>E i\/B i) W P D Q T rt aC A k)(hn:eD B W nb n ka va aa kc vc ac)(hz:ZI A rt aC m qs C e s n)(hsz:n.size<=n.ax+1)(dR:C≠[]->dD n)(fO:n.leaf=false->2<=n.ah.length)(hd:C.length<=19)(hk:k+100000<800000000)(aY:m.length+1000<=14*(A.ay+qs.length)) :
  Calls Tryz.prog 63 #[.pointer Q,.int .i64 s.pg,.pointer nb] W λ e' w'=>e'= .returned (.int .i64 0)/\mF E W w' P D Q T rt aC (k+1100*n.aA.length+9000) A (A.ay+(s.ps.length+(aT C).length)+qs.length) (bP (dE C s.lv)):=by
 have HST:Hid (Jj E W W P D Q T rt aC k A qs C e s n 0 s.pg nb):=zH ⟨C,s,n,B,A,m,qs,k,ka,va,aa,kc,vc,ac,rfl,by omega,dG,eF,h,by omega,Kept.of_below (aP _ _) (λ j hj=>h.pz.there j (.inl hj)),hn,hz,hsz,dR,fO,rfl,AP.Reach.refl A,by omega,rfl⟩;have o7:=hz.rv.count hz.rp.tree.rise
 have yx:n.aA.length<=50:=by
  have hm:n.ax<=48:=by unfold Sn.ax;split<;>omega
  unfold Sn.size at hsz;omega
 have EQ:=zH (zA hQ (zA hT (zA o7 (zA yx aY))));clear h hn hz hsz dR fO dG eF hQ hT o7 yx aY;generalize s.pg=Df at *
 go_enter Tryz.func63,Tryz.ntmps63
 go_wp2_with fail
 go_loopw [14,1,2] (λ ix pv nv wr=>∃j lD nb':Nat,ix= .int .i64 j/\pv= .int .i64 lD/\nv= .pointer nb'/\j<=20/\Hid (Jj E W wr P D Q T rt aC k A qs C e s n j lD nb')) (λ ix _ _ _=>21-(intOf ix).toNat)
 case atStart=>exact⟨0,Df,nb,rfl,rfl,rfl,by omega,HST⟩
 clear HST;obtain⟨j,lD,xx,rfl,rfl,rfl,hj,hI⟩:=hrel;obtain⟨C1,s1,n1,B1,A1,m1,rE,kk,ka,va,aa,kc,vc,ac,rfl,aJ,dG,eF,hs,hkk,kp,hn,hz,hsz,dR,fO,hN,hre,hro,hps⟩:=hI.out;have hj2:(j:Int)<20:=by omega
 have HZ:=zH (tX (hn.reads.mono (T:=λ i=>E i\/B1 i) (λ g hg=>.inr hg)) (hz.Ar hsz));have HM:=zH (λ q=>EG (hn.reads.kept (Kept.of_below (UK.aG (aP wr wr) q) (λ i hi=>hs.pz.there i (.inr hi)))));have HX:=zH (zA aJ (zA dG (zA eF (zA hs (zA hkk (zA kp (zA hn (zA hz (zA hsz (zA dR (zA fO (zA hN (zA hre (zA hro hps))))))))))))));clear hI hs hkk kp hn hz hsz dR fO hN hre hro hps dG eF aJ
 go_wp2_with fail
 refine HZ.out.mono ?_;rintro e' w2 ⟨rfl,q,rfl⟩;clear HZ
 go_wp2_with fail
 refine(HM.out q).mono ?_;rintro e' w2 ⟨rfl,rfl⟩;clear HM;obtain⟨aJ,dG,eF,hs0,hkk,Yy,hn0,hz,hsz,dR,fO,hN,hre,hro,hps⟩:=HX.out;obtain⟨hQ,hT,o7,yx,aY⟩:=EQ.out;have bq:Below wr wr (wr.drewN q):=UK.aG (aP _ _) q;have hs:=hs0.next bq;have kp:=Yy.trans (Kept.of_below bq (λ i hi=>hs0.pz.there i (.inl hi)));have hn:=hn0.kept bq.size (λ g _ hg=>bq.block g hg);clear hs0 Yy hn0 bq HX;generalize wr.drewN q=wr at *;have hm1:=hz.rv.count hz.rp.tree.rise;rw[hN,o7]at hm1;have hr1:m1.length+700<=14*(A1.ay+rE.length):=by omega
 by_cases hle:n1.size<=n1.ax
 ·have HG:=zH ((Yw (A:=A) (W:=W) (K:=k+1100*n.aA.length+9000) hQ hT (by omega) hs (by omega) (by omega) kp (hn.reads.mono (T:=λ i=>E i\/B1 i) (λ g hg=>.inr hg)) hz (hz.fits hle) dR fO hre));have HT:=zH (show A1.ay+(s1.ps.length+(aT C1).length)+rE.length=A.ay+(s.ps.length+(aT C).length)+qs.length/\bP (dE C1 s1.lv)=bP (dE C s.lv)from⟨by omega,hN⟩);have hle2:(n1.size:Int)<=(n1.ax:Int):=by omega
  clear hs kp hn hz dR fO hN hre hro hps dG eF hm1 hr1 hkk aJ o7 aY hsz hQ hT
  go_wp2_with fail
  refine HG.out.mono ?_;rintro e' w3 ⟨rfl,h3⟩;replace h3:=zH h3;clear HG
  go_wp2_with fail
  refine h3.out.mono ?_;rintro e' w4 ⟨rfl,h4⟩;rw[HT.out.1,HT.out.2]at h4;have H4:=zH h4;clear h3 h4 HT;go_wp2;go_ret;exact⟨rfl,H4.out⟩
 have hle2:¬(n1.size:Int)<=(n1.ax:Int):=by omega
 have q1:=hs.box.c1
 cases C1 with
 | nil=>
  have hrt:s1.pg=rt:=hz.root;have HR:=zH (xub (E:=E) (λ i hi=>⟨.inl hi,λ hb=>dG i hb hi⟩) hs hQ hT (by omega) hz (by omega) hsz hn (λ i hi=>.inr hi) eF hr1);have HF:=zH (λ (w':World) (hr:mF E wr w' P D Q T rt aC (kk+410+1100*n1.aA.length) A1 (A1.ay+s1.ps.length+rE.length) s1.l)=>mF.from (k2:=k+1100*n.aA.length+9000) (G6:=A.ay+(s.ps.length+(aT C).length)+qs.length) (l2:=bP (dE C s.lv)) hr kp hre (by omega) (by simp only[aT,List.length_nil]at hps;omega) (by rw[<-hN];rfl));rw[hrt];clear hs kp hn hz dR fO hN hre hro hps dG eF hm1 hr1 hkk aJ o7 aY hsz hQ hT hrt
  go_wp2_with fail
  refine HR.out.mono ?_;rintro e' w3 ⟨rfl,h3⟩;have H3:=zH (HF.out w3 h3);clear HR HF h3;go_wp2;go_ret;exact⟨rfl,H3.out⟩
 | cons fr C2=>
  have hnr:=hz.qa;have hne:((s1.pg:Int)==(rt:Int))=false:=beq_eq_false_iff_ne.2 (by omega);have rP:=hz.rp.tree.many;have hF:¬A1.Full:=by rw[hz.rp.good.full];omega
  have Yz:=zH (xw9 hs (by omega) hz (by omega) hsz hn (λ i hi=>.inr hi) (λ hb=>dG Q hb hQ) (λ hb=>dG T hb hT) eF hF (by omega));have HX:=zH (zA aJ (zA dG (zA hkk (zA kp (zA hz (zA hN (zA hre (zA hro hps))))))));clear hs kp hn hz dR fO hN hre hro hps dG eF hm1 hr1 hkk aJ o7 aY hsz hQ hT hnr hF rP
  go_wp2_with fail
  refine Yz.out.mono ?_;rintro e' w5 ⟨mb,rfl,h5⟩;replace h5:=zH h5;clear Yz q1
  go_wp2_with fail
  refine h5.out.mono ?_;rintro e' w6 ⟨rfl,h6⟩;replace h6:=zH h6;clear h5
  go_wp2_with fail
  refine h6.out.mono ?_;rintro e' w7 ⟨more,rfl,A2,m2,EJ,F2,x1,x2,t1,t2,jO,hs7,r1,r2,hp1,rfl,mZ,k7⟩;clear h6;obtain⟨iv,kv,cv,hb1,qB,hw1⟩:=id r1;rw[mZ.up1]at hb1;have c1:=hb1.c1;have hcx:=mZ.cx.1;have HL:=zH (xh hs7 (by have:=HX.out.2.2.1;have:=EQ.out.2.2.2.1;omega) (mZ.rp.dO (fE _ (fE _ (by simp[aT])))) hcx);have H7:=zH (zA jO (zA hs7 (zA r1 (zA r2 (zA hp1 (zA mZ (zA k7 (zA hb1 qB))))))));clear jO hs7 r1 r2 hp1 mZ k7 hb1 qB hw1 hcx
  go_wp2_with fail
  refine HL.out.mono ?_;rintro e' w8 ⟨B8,lF,lU,lT,lV,mH,lW,kH,rfl,xA,qW,rQ,k8⟩;clear HL c1;obtain⟨jO,hs7,r1,r2,hp1,mZ,k7,hb1,qB⟩:=H7.out;have hx0:=nT mZ.cx.1;have kD:=(hx0.inner rfl).1;have hkl:(fr.node (aL C2) t1.pg fr.c).ah.length=fr.L.length+fr.R.length+1:=by simp[bV.node,bJ];omega
  have hcl:(fr.node (aL C2) t1.pg fr.c).au.length=fr.L.length+fr.R.length+1:=by simp[bV.node,dm];omega
  obtain⟨i1,i2,_,_⟩:=HX.out.2.2.2.2.1.index;have j1:(fr.node (aL C2) t1.pg fr.c).ah[fr.L.length]?=some s1.pg:=by rw[hp1];exact i1
  have j2:∀i y,i<fr.L.length->(fr.node (aL C2) t1.pg fr.c).ah[i]?=some y->y≠s1.pg:=by rw[hp1];exact i2
  obtain⟨g,rfl,ra⟩:∃g,lV=some ⟨g,0,none⟩/\Row w8 g kH (ints (fr.node (aL C2) t1.pg fr.c).au):=by
   rcases qW.1.a with⟨_,h2,_⟩|⟨g,h1,h2⟩
   ·have:=congrArg List.length h2;rw[dx,hcl]at this;simp at this
   exact⟨g,h1,h2⟩
  obtain⟨v0,rfl⟩:∃v0,lT=some ⟨v0,0,none⟩:=by
   rcases qW.1.v with⟨_,h2,_⟩|⟨g,h1,h2⟩
   ·have:=congrArg List.length h2;rw[dx,hkl]at this;simp at this
   exact⟨g,h1⟩
  have d3:=qW.1.box.c3;have d4:=qW.1.box.c4;have hwk:=qW.1.v.win (S:=λ _=>True) (λ _ _=>trivial);rw[dx]at hwk;have Di:=zH (O8 hwk (by omega) j1 j2);have HC:=zH (yY ((r1.kept k8).kept (Kept.of_below (hBd w8) (λ i hi=>rQ.pz.there i (.inl hi)))) mZ.o1);have hcr:=ra.at' fr.L.length (.int .i64 (fr.c:Int)) (qw _ _ _ (bV.qz fr _ _ _));have hrl:=ra.le;rw[dx,hcl]at hrl;have hfr:=ra.free fr.L.length (by omega);rw[hcl]at d4;have hil:(fr.L.length:Int)<((fr.L.length+fr.R.length+1:Nat):Int):=by omega
  have Aq:fr.L.length<fr.L.length+fr.R.length+1:=by omega
  have H8:=zH (zA xA (zA qW (zA rQ (zA k8 (zA hkl (zA hcl kD))))));clear xA qW rQ k8 jO hs7 r1 r2 hp1 mZ k7 hb1 qB hx0 kD i1 i2 j1 j2 ra hwk hrl hkl hcl
  go_wp2_with fail
  refine Di.out.mono ?_;rintro e' w9 ⟨rfl,e9⟩;rw[e9];clear Di d3 e9
  go_upto_region 23 with(fail)
  go_cut [] (λ wx=>wx.heap.size=w8.heap.size/\Kept (λ i=>i<w8.heap.size/\¬B8 i) w8 wx/\eD B8 wx lF (fr.node (aL C2) t1.pg t1.l.length) lU v0 g mH lW kH)
  case first=>
   go_wp2_with fail
   go_region_with (first|(go_at_call 33;refine HC.out.mono ?_;rintro e' w3 ⟨rfl,rfl⟩))
   all_goals
    obtain⟨xA,qW,rQ,k8,hkl,hcl,kD⟩:=H8.out;obtain⟨jO,hs7,r1,r2,hp1,mZ,k7,hb1,qB⟩:=H7.out;have Lt:=qW.kept (aZ _) (W':=w8.drew) (λ _ _ _=>rfl);obtain⟨Au,k9⟩:=Lt.dI (c:=x1.count) fr.L.length (by omega);rw[bV.set]at Au;have hq:eD B8 (w8.setCell (g,fr.L.length) (.int .i64 ((x1.count:Nat):Int))).drew lF (fr.node (aL C2) t1.pg t1.l.length) lU v0 g mH lW kH:=by rw[<-mZ.c1];exact Au
    have H9:=zH (show(w8.setCell (g,fr.L.length) (.int .i64 ((x1.count:Nat):Int))).drew.heap.size=w8.heap.size/\Kept (λ i=>i<w8.heap.size/\¬B8 i) w8 (w8.setCell (g,fr.L.length) (.int .i64 ((x1.count:Nat):Int))).drew/\_ from⟨by simp[World.setCell,World.drew],(Kept.of_below (hBd w8) (λ i (hi:i<w8.heap.size/\¬B8 i)=>hi.1)).trans k9,hq⟩);clear Au k9 Lt hq HC hcr hfr d4 xA qW rQ k8 jO hs7 r1 r2 hp1 mZ k7 hb1 qB
    go_wp2_with fail
    go_meet
    case rel=>exact H9.out
  obtain⟨G7,k9,Au⟩:=hcut;have H9:=zH (zA k9 (zA Au G7));obtain⟨xA,qW,rQ,k8,hkl,hcl,kD⟩:=H8.out;clear xA qW rQ k8 HC hcr hfr d4;have yz:(fr.node (aL C2) t1.pg t1.l.length).ah.length=fr.L.length+fr.R.length+1:=hkl;have qy:(fr.node (aL C2) t1.pg t1.l.length).au.length=fr.L.length+fr.R.length+1:=by simp[bV.node,dm];omega
  have HI1:=zH (λ (wa:World) (vb:Nat) (ba:Below wc wc wa) (hv:aI wa vb #[.int .i64 (t2.pg:Int)]) (hvb:wc.heap.size<=vb)=>xxb Au (by omega) (i:=fr.L.length) (by omega) ba hv hvb);rw[yz]at HI1;have d3:wc.cell? (lF,3)=some (.slice v0 (fr.L.length+fr.R.length+1) lW):=by rw[<-yz];exact Au.1.box.cell 3 _ rfl
  have hw1:IntKind.i64.wrap ((fr.L.length:Int)+1)=(fr.L.length:Int)+1:=by rw[bN];omega
  clear k9 Au G7 hkl hcl kD yz qy
  go_wp2_with fail
  refine(HI1.out _ _ ?_ ?_ ?_).mono ?_
  ·(repeat (first|with_reducible exact aP _ _|with_reducible apply gW|with_reducible apply gQ))
  ·(repeat (first|(focus ((with_reducible refine mG ?_);simp;done))|with_reducible apply dQ|with_reducible apply dS))
  ·exact aZ _
  rintro e' yc ⟨gk,ck,rfl,hfz,⟨v3,hc3⟩,B10,y7,oC,k10⟩;have TK:=zH (zA y7 (zA oC k10));clear HI1 d3 y7 oC k10
  go_wp2_with fail
  clear hfz hc3;generalize yc.setCell (lF,3) (.slice gk (fr.L.length+fr.R.length+1+1) ck)=wB at *;obtain⟨y7,oC,k10⟩:=TK.out;obtain⟨xA,qW,rQ,k8,hkl,hcl,kD⟩:=H8.out;obtain⟨jO,hs7,r1,r2,hp1,mZ,k7,hb1,qB⟩:=H7.out;obtain⟨k9,Au,G7⟩:=H9.out;have Jk:∀i,F2 i->i<w8.heap.size/\¬B8 i:=λ i hi=>⟨rQ.pz.there i (.inl hi),λ hb=>by have:=xA i hb;have:=hs7.pz.there i hi;omega⟩;have kF:Kept F2 w7 wB:=(k8.trans (k9.mono Jk)).trans (k10.mono (λ i hi=>⟨by have:=(Jk i hi).1;omega,(Jk i hi).2⟩));have Y0:=r2.kept kF;have kN:∀i,F2 i->i<wB.heap.size:=λ i hi=>bS (hs7.pz.there i hi) kF.size;have lq:=zH (λ (w:World) (bw:Below wB wB w)=>yY (Y0.kept (Kept.of_below bw kN)) mZ.o2);have Av:({fr.node (aL C2) t1.pg t1.l.length with ah:=(fr.node (aL C2) t1.pg t1.l.length).ah.take (fr.L.length+1)++t2.pg::(fr.node (aL C2) t1.pg t1.l.length).ah.drop (fr.L.length+1)}:Sn).au.length=fr.L.length+fr.R.length+1:=by simp[bV.node,dm];omega
  have HI2:=zH (λ (wa:World) (vb:Nat) (ba:Below wB wB wa) (hv:aI wa vb #[.int .i64 (x2.count:Int)]) (hvb:wB.heap.size<=vb)=>xxc oC (by rw[Av];omega) (i:=fr.L.length) (by rw[Av];omega) ba hv hvb);rw[Av]at HI2;have d4:wB.cell? (lF,4)=some (.slice g (fr.L.length+fr.R.length+1) kH):=by rw[<-Av];exact oC.1.box.cell 4 _ rfl
  have hnl:lF<wB.heap.size:=oC.1.box.lt;have c1:=(hb1.af (kF.block xx qB)).c1;clear y7 oC k10 xA qW rQ k8 hkl hcl kD jO hs7 r1 r2 hp1 mZ k7 hb1 qB k9 Au G7 Jk kF Y0 kN Av
  go_region_with (first
   | (go_at_call 33;refine(lq.out _ ?_).mono ?_;(focus (repeat (first|with_reducible exact aP _ _|with_reducible apply gW|with_reducible apply gQ)));rintro e' w3 ⟨rfl,rfl⟩)
   | (go_at_call 104;refine(HI2.out _ _ ?_ ?_ ?_).mono ?_;(focus (repeat (first|with_reducible exact aP _ _|with_reducible apply gW|with_reducible apply gQ)));(focus (repeat (first|(focus ((with_reducible refine mG ?_);simp;done))|with_reducible apply dQ|with_reducible apply dS)));(focus (first|exact aZ _|(focus (simp;done))));rintro e' tQ ⟨gc,cc,rfl,hfz,⟨v4,hc4⟩,Dj⟩;replace Dj:=zH Dj))
  all_goals
   clear HI2 lq d4 c1 hfz hc4
   have HF:Hid (Jj E W (tQ.setCell (lF,4) (.slice gc (fr.L.length+fr.R.length+1+1) cc)) P D Q T rt aC k A qs C e s n (j+1) fr.pg lF/\(tQ.setCell (lF,4) (.slice gc (fr.L.length+fr.R.length+1+1) cc)).cell? (xx,1)=some (.int .i64 (fr.pg:Int))):=by
    obtain⟨TJ,TL,TM,k12⟩:=Dj.out;obtain⟨y7,oC,k10⟩:=TK.out;obtain⟨xA,qW,rQ,k8,hkl,hcl,kD⟩:=H8.out;obtain⟨jO,hs7,r1,r2,hp1,mZ,k7,hb1,qB⟩:=H7.out;obtain⟨k9,Au,G7⟩:=H9.out;obtain⟨aJ,dG,hkk,kp,hz,hN,hre,hro,hps⟩:=HX.out;obtain⟨h12,Lu⟩:=xuc G7 k9 y7 k10 TL k12;have Jk:∀i,F2 i->i<w8.heap.size/\¬B8 i:=λ i hi=>⟨rQ.pz.there i (.inl hi),λ hb=>by have:=xA i hb;have:=hs7.pz.there i hi;omega⟩;have kF:=k8.trans (Lu.mono Jk);refine zH ⟨Jj.next EQ.out.1 EQ.out.2.1 aJ dG hkk kp hz hN hre hro hps jO hs7 mZ hp1 k7 (λ i hi=>(xA i hi).1) rQ k8 h12 Lu (ka:=lU) (va:=some ⟨gk,0,none⟩) (aa:=some ⟨gc,0,none⟩) (kc:=mH) (vc:=ck) (ac:=cc) ?_,(hb1.af (kF.block xx qB)).cell 1 _ rfl⟩;rw[<-bV.two,<-mZ.c2];exact TM
   have c9:=HF.out.2;clear Dj TK H9 H8 H7 HX;generalize tQ.setCell (lF,4) (.slice gc (fr.L.length+fr.R.length+1+1) cc)=wE at *;go_wp2;go_roundw
   case rel=>exact⟨j+1,fr.pg,lF,by go_num,rfl,rfl,by omega,zH HF.out.1⟩
   case measure=>simp[intOf];omega
end
end Go.Proofs.YtlipgbnnbefhjaaGreatDoor
