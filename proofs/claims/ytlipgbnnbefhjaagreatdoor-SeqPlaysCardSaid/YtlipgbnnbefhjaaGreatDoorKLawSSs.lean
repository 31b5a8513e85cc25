/- Facts on rows of numbers on pages. -/
import Derived.Test.YtlipgbnnbefhjaaGreatDoorKUndoFs
set_option maxRecDepth 100000
set_option maxHeartbeats 8000000
set_option linter.unusedSimpArgs false
namespace Go.Proofs.YtlipgbnnbefhjaaGreatDoor
open Go.RowKit
open UK (str aO nth Only Row aI)
section
variable{S:Nat->Prop}{W W':World}{P D Q T k c d:Nat}{A:AP}{X Y:List UInt64}{ao bo:Option Addr}{op:Bool}
theorem Zi{ii nn tt:Int}{iu:UInt64}{A0:AP}(h:jg S W P D Q T ao c X bo d Y A k)(hS:∀j,S j->j<W.heap.size)(hk:k+400000<900000000)(hop:op=true↔A.op≠none)(hsi:op=true->AP.oJ A0 A)(hl0:∀m,A0.Has m->(A0.c m).length=504) :
  Calls Tryz.prog 7 #[.agg (dV P Q ao X.length c bo Y.length d op),.agg (kK 6 ii nn tt iu)] W λ e w'=>tT S W w' P D (k+400000) (λ A' X' Y' op'=>Y'=Y/\op'=false/\(op=false->A'=A/\X'=X)/\(op=true->AP.ll A0 A'/\X'=Y)) e:=by
 have ug:=zH hop;have Po:=zH (zA hsi hl0);clear hop hsi hl0;obtain⟨hb,hbel⟩:=h.boxed (op:=op) 6 ii nn tt iu;have a0:=hb.act.c0;have a1:=hb.act.c2;obtain⟨n,hn⟩:∃n,n=uW nn:=⟨_,rfl⟩;obtain⟨lM,hne⟩:=Cn nn;rw[<-hn]at lM hne;have HE:=zH hne;have Be:=zH hn;have HB:=zH (zA hb hbel);have HJ:=zH hS;generalize hW3:((W.alloc (.cells (dV P Q ao X.length c bo Y.length d op) 29)).alloc (.cells (kK 6 ii nn tt iu) 34)).alloc (.cells pQ 29)=w3 at HB a0 a1;have HW3:=zH hW3;rw[<-hW3]at a0 a1;clear h hb hbel hS hn hW3 hne
 go_enter Tryz.func7,Tryz.ntmps7
 go_upto_region 1 with(fail)
 go_cut [6] (λ nv wx=>nv= .int .i64 (n:Int)/\wx=w3)
 case first=>
  go_wp2_with fail
  go_meet
  case rel=>exact⟨by rw[HE.out],HW3.out⟩
 case rest=>
 obtain⟨rfl,rfl⟩:=hcut;clear a0 a1;have a0:=HB.out.1.act.c0;have hrb:=HB.out.1;have hkp:Kept S W wc:=Kept.of_below HB.out.2 HJ.out;have hth:=hrb.rm.sq.pz.there;have bd:Below wc wc wc.drew:=(aP _ _).drew
 have hC:Calls Tryz.prog 31 #[.pointer P] wc.drew λ e w'=>U4 S W w' W (kK 6 ii nn tt iu) P D Q T ao c X bo d Y op (k+300000) (λ er B=>(op=false->er=14/\B=A)/\(op=true->er=0/\AP.ll A0 B)) e:=by
  have td:=hrb.rm.sq.next bd;have hrd:=hrb.next (td.up (show k<=k+300000 by omega)) (Kept.of_below bd hth);have hkd:=hkp.trans (Kept.of_below bd (λ j hj=>hth j (.inl (.inl hj))))
  cases nP:op with
  | false=>
   have ho:A.op=none:=Classical.byContradiction (λ hn=>by have:=ug.out.2 hn;rw[nP]at this;cases this);refine(xse td.pz ho).mono ?_;rintro e w2 ⟨rfl,p2,k2⟩;rw[nP]at hrd;exact⟨14,A,rfl,hrd.next (td.step (p2.up (by omega)) k2) k2,hkd.trans (k2.mono (λ j hj=>.inl (.inl hj))),λ _=>⟨rfl,rfl⟩,(λ h=>by cases h)⟩
  | true=>
   obtain⟨o,ho⟩:=Po.out.1 nP;refine(yax td.pz ho Po.out.2 (by omega)).mono ?_;rintro e w2 ⟨rfl,C,p2,hdn,k2⟩;rw[nP]at hrd;exact⟨0,C,rfl,hrd.next (td.step p2 k2) k2,hkd.trans (k2.mono (λ j hj=>.inl (.inl hj))),(λ h=>by cases h),λ _=>⟨rfl,hdn⟩⟩
 have HC:=zH hC;have hS1:wc.drew.cell? W.heap.size=some (.pointer P)/\wc.drew.cell? (W.heap.size,4)=some (.bool op):=⟨hrb.box.cell 0 _ rfl,hrb.box.cell 4 _ rfl⟩;clear hC hrb hkp hth bd HE HW3
 go_wp2_with fail
 go_upto_region 38 with(fail)
 go_cut [173] (λ bv wx=>bv= .bool false/\∃B,nk S wx W (kK 6 ii nn tt iu) P D Q T ao c X bo d Y op B (k+300000)/\Kept S W wx/\(op=false->B=A)/\(op=true->AP.ll A0 B))
 case first=>
  refine wp_region_any (by kernel_rfl) ?_;refine zT 0 ?_;refine zT 4 ?_;refine zV (w:=wc.drew) (λ w'=>w'.cell? W.heap.size=some (.pointer P)/\w'.cell? (W.heap.size,4)=some (.bool op)) 99 (by exact hS1) λ hS0=>?_;refine zU 1 hS0 ?_;refine zU 5 hS0 ?_;clear hS0;refine zL 2 λ K hK=>?_;go_simp;refine HC.out.mono ?_;rintro e w2 ⟨er,B,rfl,hrb,hkp,hq⟩
  (try dsimp only)
  refine zK hK ?_ (λ _=>⟨hrb.box.cell 0 _ rfl,hrb.box.cell 4 _ rfl⟩);refine zM 3 ?_ (λ _=>⟨hrb.box.cell 0 _ rfl,hrb.box.cell 4 _ rfl⟩);refine zM 6 ?_ (λ _=>⟨hrb.box.cell 0 _ rfl,hrb.box.cell 4 _ rfl⟩);refine iR (by kernel_rfl) ?_ _
  go_wp2_with fail
  go_meet;refine⟨?_,B,hrb,hkp,λ h=>(hq.1 h).2,λ h=>(hq.2 h).2⟩
  cases op with
  | false=>rw[(hq.1 rfl).1];rfl
  | true=>rw[(hq.2 rfl).1];rfl
 obtain⟨rfl,B,hrb,hkp,q1,q2⟩:=hcut;have c2:=hrb.box.c2;have c3:=hrb.box.c3;have c4:=hrb.box.c4;have f2:=hrb.box.free 2;have f3:=hrb.box.free 3;have f4:=hrb.box.free 4;clear HC hS1
 cases op with
 | false=>
  obtain rfl:=q1 rfl;clear q1 q2;have o:Only W wc (wc.setCell (W.heap.size,4) (.bool false)):=((Only.refl _ _).set 4 _)
  have bx:aI (wc.setCell (W.heap.size,4) (.bool false)) W (dV P Q ao X.length c bo Y.length d false):=by
   have:=(hrb.box.set 4 (.bool false))
   simpa[dV]using this
  have eQ:=hrb.turn o bx hrb.rm.px hrb.rm.py (λ b hb=>hb);have hk2:Kept S W (wc.setCell (W.heap.size,4) (.bool false)):=hkp.trans ⟨o.os,o.tape,o.output,o.size,λ j hj=>o.block j (bS (HJ.out j hj) hkp.size) (by have:=HJ.out j hj;omega)⟩;have y1:=eQ.box;have y3:=eQ.res;have n0:=y1.c0;have n1:=y1.c1;have n2:=y1.c2;have n3:=y1.c3;have n4:=y1.c4;have m0:=y3.c0;have m1:=y3.c1;have m2:=y3.c2;have m3:=y3.c3;have m4:=y3.c4;have mf:∀j,(wc.setCell (W.heap.size,4) (.bool false)).frozen? ⟨W.heap.size+2,j,none⟩=false:=y3.free;have HD:=zH (eQ.done (R:=λ A' X' Y' op'=>Y'=Y/\op'=false/\A'=B/\X'=X) (show k+300000<=k+400000 by omega) hk2 HJ.out ⟨rfl,rfl,rfl,rfl⟩);have HY:=zH y3;clear hrb hkp eQ hk2 y1 y3 o bx ug HB
  go_wp2_with fail
  refine bodyPost_ret (UK.zk rfl _ (HY.out.dJ _ _ _ _ _) rfl zg rfl zh) rfl ?_;exact HD.out
 | true=>
  have hdn:=q2 rfl;clear q1 q2;have o:Only W wc ((wc.setCell (W.heap.size,2) (.slice bo Y.length d)).setCell (W.heap.size,4) (.bool false)):=(((Only.refl _ _).set 2 _).set 4 _)
  have bx:aI ((wc.setCell (W.heap.size,2) (.slice bo Y.length d)).setCell (W.heap.size,4) (.bool false)) W (dV P Q bo Y.length d bo Y.length d false):=by
   have:=((hrb.box.set 2 (.slice bo Y.length d)).set 4 (.bool false))
   simpa[dV]using this
  have eQ:=hrb.turn o bx hrb.rm.py hrb.rm.py (λ b hb=>.inr (hb.elim (λ h=>h) (λ h=>h)));have hk2:Kept S W ((wc.setCell (W.heap.size,2) (.slice bo Y.length d)).setCell (W.heap.size,4) (.bool false)):=hkp.trans ⟨o.os,o.tape,o.output,o.size,λ j hj=>o.block j (bS (HJ.out j hj) hkp.size) (by have:=HJ.out j hj;omega)⟩;have y1:=eQ.box;have y3:=eQ.res;have n0:=y1.c0;have n1:=y1.c1;have n2:=y1.c2;have n3:=y1.c3;have n4:=y1.c4;have m0:=y3.c0;have m1:=y3.c1;have m2:=y3.c2;have m3:=y3.c3;have m4:=y3.c4;have mf:∀j,((wc.setCell (W.heap.size,2) (.slice bo Y.length d)).setCell (W.heap.size,4) (.bool false)).frozen? ⟨W.heap.size+2,j,none⟩=false:=y3.free;have HD:=zH (eQ.done (R:=λ A' X' Y' op'=>Y'=Y/\op'=false/\AP.ll A0 A'/\X'=Y) (show k+300000<=k+400000 by omega) hk2 HJ.out ⟨rfl,rfl,hdn,rfl⟩);have HY:=zH y3;clear hrb hkp eQ hk2 y1 y3 o bx ug HB
  go_wp2_with fail
  refine bodyPost_ret (UK.zk rfl _ (HY.out.dJ _ _ _ _ _) rfl zg rfl zh) rfl ?_;exact HD.out
end
section
variable{S:Nat->Prop}{W W':World}{P D Q T k c d:Nat}{A:AP}{X Y:List UInt64}{ao bo:Option Addr}{op:Bool}
theorem xxs{rt aC:Nat}{E:Nat->Prop}(h:aD E W P D Q T rt aC A k) :
  Calls Tryz.prog 20 #[.pointer Q] W λ e w'=>e= .returned (.int .i64 rt)/\w'=W:=by
 have c1:=h.box.c1;clear h
 go_enter Tryz.func20,Tryz.ntmps20
 go_wp2;go_ret
 exact⟨rfl,rfl⟩
theorem yaa{ii nn tt:Int}{iu:UInt64}{p:Nat}(h:jg S W P D Q T ao c X bo d Y A k)(hS:∀j,S j->j<W.heap.size)(hsi:SI A X p)(hk:k+100<800000000) :
  Calls Tryz.prog 7 #[.agg (dV P Q ao X.length c bo Y.length d op),.agg (kK 7 ii nn tt iu)] W λ e w'=>tT S W w' P D (k+2) (λ A' X' Y' op'=>A'=A/\X'=X/\Y'=Y/\op'=op) e:=by
 have Jy:=zH hsi.root;clear hsi;obtain⟨hb,hbel⟩:=h.boxed (op:=op) 7 ii nn tt iu;have a0:=hb.act.c0;have a1:=hb.act.c2;obtain⟨n,hn⟩:∃n,n=uW nn:=⟨_,rfl⟩;obtain⟨lM,hne⟩:=Cn nn;rw[<-hn]at lM hne;have HE:=zH hne;have Be:=zH hn;have HB:=zH (zA hb hbel);have HJ:=zH hS;generalize hW3:((W.alloc (.cells (dV P Q ao X.length c bo Y.length d op) 29)).alloc (.cells (kK 7 ii nn tt iu) 34)).alloc (.cells pQ 29)=w3 at HB a0 a1;have HW3:=zH hW3;rw[<-hW3]at a0 a1;clear h hb hbel hS hn hW3 hne
 go_enter Tryz.func7,Tryz.ntmps7
 go_upto_region 1 with(fail)
 go_cut [6] (λ nv wx=>nv= .int .i64 (n:Int)/\wx=w3)
 case first=>
  go_wp2_with fail
  go_meet
  case rel=>exact⟨by rw[HE.out],HW3.out⟩
 case rest=>
 obtain⟨rfl,rfl⟩:=hcut;clear a0 a1;have a0:=HB.out.1.act.c0;have hrb:=HB.out.1;have hkp:Kept S W wc:=Kept.of_below HB.out.2 HJ.out;have hth:=hrb.rm.sq.pz.there;have Bg:W.heap.size+3<=wc.heap.size:=by have:=hrb.res.lt;omega
 have bd:Below wc wc wc.drew:=(aP _ _).drew;have Zj:=zH (xxs (hrb.rm.sq.next bd));have Zk:=zH (WZ (hrb.rm.sq.next bd).pz (by omega) Jy.out.1 Jy.out.2);have HX:=zH (zA hrb (zA hkp (zA Bg (Kept.of_below bd hth))));have hS1:wc.drew.cell? W.heap.size=some (.pointer P)/\wc.drew.cell? (W.heap.size,1)=some (.pointer Q):=⟨(hrb.box.next bd).cell 0 _ rfl,(hrb.box.next bd).cell 1 _ rfl⟩;clear hrb hkp hth Bg bd HE HW3 HB
 go_wp2_with fail
 go_upto_region 44 with(fail)
 go_cut [20,21] (λ sv ev wx=>∃Q2 T2,sv= .pointer (some ⟨Q2,0,none⟩)/\ev= .int .i64 0/\Hid (wc.heap.size<=Q2/\wc.heap.size<=T2/\aD (λ j=>uT (λ b=>S b\/(W.heap.size<=b/\b<W.heap.size+3)) Q T ao bo j\/j=Q2\/j=T2) wx P D Q2 T2 2 1 A (k+2)/\Kept (uT (λ b=>S b\/(W.heap.size<=b/\b<W.heap.size+3)) Q T ao bo) wc wx))
 case first=>
  go_wp2_with fail
  refine wp_region_any (by kernel_rfl) ?_;refine zT 0 ?_;refine zT 2 ?_;refine zV (w:=wc.drew) (λ w'=>w'.cell? W.heap.size=some (.pointer P)/\w'.cell? (W.heap.size,1)=some (.pointer Q)) 99 (by exact hS1) λ hS0=>?_;refine zU 1 hS0 ?_;refine zU 3 hS0 ?_;clear hS0;refine zL 4 λ K hK=>?_;go_simp;refine(Zj.out).mono ?_;rintro e w4 ⟨rfl,rfl⟩
  (try dsimp only)
  refine zK hK ?_ (λ _=>hS1);refine zL 5 λ K hK=>?_;go_simp;refine(Zk.out).mono ?_;rintro e w5 ⟨Q2,T2,rfl,h1,h2,_,h3,h4⟩
  (try dsimp only)
  have hq:=zH (zA h1 (zA h2 (zA h3 h4)));clear h1 h2 h3 h4;have hS5:=(show w5.cell? W.heap.size=some (.pointer P)/\w5.cell? (W.heap.size,1)=some (.pointer Q)from⟨(HX.out.1.box.af ((HX.out.2.2.2.trans hq.out.2.2.2).block _ (.inl (.inr ⟨aZ _,by omega⟩)))).cell 0 _ rfl,(HX.out.1.box.af ((HX.out.2.2.2.trans hq.out.2.2.2).block _ (.inl (.inr ⟨aZ _,by omega⟩)))).cell 1 _ rfl⟩);refine zK hK ?_ (λ _=>hS5);refine zM 6 ?_ (λ _=>hS5);refine ru (i:=7) (j:=8) (by kernel_rfl) rfl rfl (λ K hK=>?_) (λ K hK=>?_)
  ·go_simp;refine zK hK ?_ (λ _=>hS5);refine ru (i:=8) (j:=9) (by kernel_rfl) rfl rfl (λ K hK=>?_) (λ K hK=>?_)
   ·go_simp;refine zK hK ?_ (λ _=>hS5);refine zM 9 ?_ (λ _=>hS5);refine zM 10 ?_ (λ _=>hS5);refine iR (by kernel_rfl) ?_ _
    go_wp2_with fail
    go_meet;obtain⟨h1,h2,h3,h4⟩:=hq.out;exact⟨Q2,T2,rfl,rfl,zH ⟨h1,h2,h3,HX.out.2.2.2.trans h4⟩⟩
   go_simp;refine zK hK ?_ (λ _=>hS5);refine zM 8 ?_ (λ _=>hS5);refine zM 10 ?_ (λ _=>hS5);refine iR (by kernel_rfl) ?_ _
   go_wp2_with fail
   go_meet;obtain⟨h1,h2,h3,h4⟩:=hq.out;exact⟨Q2,T2,rfl,rfl,zH ⟨h1,h2,h3,HX.out.2.2.2.trans h4⟩⟩
  go_simp;refine zK hK ?_ (λ _=>hS5);refine zM 7 ?_ (λ _=>hS5);refine zM 9 ?_ (λ _=>hS5);refine zM 10 ?_ (λ _=>hS5);refine iR (by kernel_rfl) ?_ _
  go_wp2_with fail
  go_meet;obtain⟨h1,h2,h3,h4⟩:=hq.out;exact⟨Q2,T2,rfl,rfl,zH ⟨h1,h2,h3,HX.out.2.2.2.trans h4⟩⟩
 rename_i wcc _ _
 obtain⟨Q2,T2,rfl,rfl,hq⟩:=hcut;obtain⟨hrb,hkp,Bg,_⟩:=HX.out;obtain⟨h1,h2,h3,h4⟩:=hq.out;obtain⟨wy,hwy⟩:∃wy,wy=wc:=⟨_,rfl⟩;subst hwy;obtain⟨eQ,o⟩:=hrb.anew h3 h4 h1 h2 Bg;have hbx:=hrb.box.af (h4.block _ (.inl (.inr ⟨aZ _,by omega⟩)));have e1:=hbx.c1;have f1:=hbx.free 1;have hk2:Kept S W (wy.setCell (W.heap.size,1) (.pointer Q2)):=(hkp.trans (h4.mono (λ j hj=>.inl (.inl hj)))).trans ⟨o.os,o.tape,o.output,o.size,λ j hj=>o.block j (by have:=HJ.out j hj;have:=h4.size;omega) (by have:=HJ.out j hj;omega)⟩;clear hrb hkp Bg h1 h2 h3 h4 o hbx hq HX Zj Zk hS1;have y1:=eQ.box;have y3:=eQ.res;have n0:=y1.c0;have n1:=y1.c1;have n2:=y1.c2;have n3:=y1.c3;have n4:=y1.c4;have m0:=y3.c0;have m1:=y3.c1;have m2:=y3.c2;have m3:=y3.c3;have m4:=y3.c4;have mf:∀j,(wy.setCell (W.heap.size,1) (.pointer Q2)).frozen? ⟨W.heap.size+2,j,none⟩=false:=y3.free;have HD:=zH (eQ.done (R:=λ A' X' Y' op'=>A'=A/\X'=X/\Y'=Y/\op'=op) (aZ (k+2)) hk2 HJ.out ⟨rfl,rfl,rfl,rfl⟩);have HY:=zH y3;clear eQ hk2 y1 y3
 go_wp2_with fail
 refine bodyPost_ret (UK.zk rfl _ (HY.out.dJ _ _ _ _ _) rfl zg rfl zh) rfl ?_;exact HD.out
theorem xuw{kd ii nn tt:Int}{iu:UInt64}(h:jg S W P D Q T ao c X bo d Y A k)(hS:∀j,S j->j<W.heap.size)(hkd:kd<1\/7<kd) :
  Calls Tryz.prog 7 #[.agg (dV P Q ao X.length c bo Y.length d op),.agg (kK kd ii nn tt iu)] W λ e w'=>tT S W w' P D (k) (λ A' X' Y' op'=>A'=A/\X'=X/\Y'=Y/\op'=op) e:=by
 have g1:(kd==1)=false:=beq_eq_false_iff_ne.2 (by omega);have g2:(kd==2)=false:=beq_eq_false_iff_ne.2 (by omega);have g3:(kd==3)=false:=beq_eq_false_iff_ne.2 (by omega);have g4:(kd==4)=false:=beq_eq_false_iff_ne.2 (by omega);have g5:(kd==5)=false:=beq_eq_false_iff_ne.2 (by omega);have g6:(kd==6)=false:=beq_eq_false_iff_ne.2 (by omega);have g7:(kd==7)=false:=beq_eq_false_iff_ne.2 (by omega);clear hkd;obtain⟨hb,hbel⟩:=h.boxed (op:=op) kd ii nn tt iu;have a0:=hb.act.c0;have a1:=hb.act.c2;obtain⟨n,hn⟩:∃n,n=uW nn:=⟨_,rfl⟩;obtain⟨lM,hne⟩:=Cn nn;rw[<-hn]at lM hne;have HE:=zH hne;have Be:=zH hn;have HB:=zH (zA hb hbel);have HJ:=zH hS;generalize hW3:((W.alloc (.cells (dV P Q ao X.length c bo Y.length d op) 29)).alloc (.cells (kK kd ii nn tt iu) 34)).alloc (.cells pQ 29)=w3 at HB a0 a1;have HW3:=zH hW3;rw[<-hW3]at a0 a1;clear h hb hbel hS hn hW3 hne
 go_enter Tryz.func7,Tryz.ntmps7
 go_upto_region 1 with(fail)
 go_cut [6] (λ nv wx=>nv= .int .i64 (n:Int)/\wx=w3)
 case first=>
  go_wp2_with fail
  go_meet
  case rel=>exact⟨by rw[HE.out],HW3.out⟩
 case rest=>
 obtain⟨rfl,rfl⟩:=hcut;clear a0 a1;have a0:=HB.out.1.act.c0;have eQ:=HB.out.1;have hk2:Kept S W wc:=Kept.of_below HB.out.2 HJ.out;have y1:=eQ.box;have y3:=eQ.res;have n0:=y1.c0;have n1:=y1.c1;have n2:=y1.c2;have n3:=y1.c3;have n4:=y1.c4;have m0:=y3.c0;have m1:=y3.c1;have m2:=y3.c2;have m3:=y3.c3;have m4:=y3.c4;have mf:∀j,wc.frozen? ⟨W.heap.size+2,j,none⟩=false:=y3.free;have HD:=zH (eQ.done (R:=λ A' X' Y' op'=>A'=A/\X'=X/\Y'=Y/\op'=op) (aZ k) hk2 HJ.out ⟨rfl,rfl,rfl,rfl⟩);have HY:=zH y3;clear eQ hk2 y1 y3 HB HE HW3
 go_wp2_with fail
 refine bodyPost_ret (UK.zk rfl _ (HY.out.dJ _ _ _ _ _) rfl zg rfl zh) rfl ?_;exact HD.out
end
section
variable{A B A0:AP}{X Y:List UInt64}{p:Nat}{M a b:Nat}{op:Bool}
theorem xrp(h:sJ M a b A X A0 Y true)(hd:Done A B):sJ M a (b+1) B X A0 Y false:=
 (h.now.same hd.good hd.has (λ p _=>hd.c p) hd.ax).shut hd.op _ _ _
theorem xxu(h:sJ M a b A X A0 Y true)(hd:AP.ll A0 B):sJ M a (b+1) B Y A0 Y false:=by
 obtain⟨_,o0,e0⟩:=h.was rfl;obtain⟨p0,hp0⟩:=o0.si;have a1:=hp0.count e0 o0.ax;have hs:SI B Y p0:=hp0.same hd.good hd.has hd.c
 have a2:(B.ay:Int)+p0=B.ax-1:=by
  obtain⟨m,qs,d,s,n,hr,rfl,rfl⟩:=hs;have h1:=hr.zi.rp.good.Bi hd.op hr.zi.rp.eY hr.zi.rp.has;simp only[zl,aT,List.length_nil,iP]at h1;omega
 have hrm:=hd.ay;exact oK.shut (⟨⟨p0,hs⟩,by omega,o0.few⟩:oK M B Y a) hd.op _ _ _
theorem xuy(h:sJ M a b A X A0 Y false):sJ M a (b+1) A.begun X A X true:=by
 have e:A.op=none:=by
  rcases Decidable.em (A.op=none)with e|e
  ·exact e
  exact absurd (h.shut.2 e) (by simp)
 obtain⟨p,hp⟩:=h.now.si;have hg:=hp.good.1;have hs:=AP.Since.start hg e
 have hh:∀p,A.begun.Has p↔A.Has p:=λ p=>by
  have hg:A.bU=[]:=by unfold AP.bU;rw[e]
  have hb:A.begun.bU=[]:=rfl;unfold AP.Has;rw[hg,hb];exact Iff.rfl
 refine⟨h.now.same hg.begun hh (λ _ _=>rfl) rfl,λ q hq=>?_,⟨λ _ hn=>(by cases hn),λ _=>rfl⟩,λ _=>⟨hs,h.now,e⟩⟩;have h1:SI A X q:=hq.same hg (λ p=>(hh p).symm) (λ _ _=>rfl);exact bf (h.room q h1) (Nat.add_le_add_left (UC (aZ a) (jy b)) _)
end
section
variable{S:Nat->Prop}{W:World}{P D Q T k c d M a b:Nat}{A A0:AP}{X Y:List UInt64}{ao bo:Option Addr}{op:Bool}
theorem xuz(h:jg S W P D Q T ao c X bo d Y A k)(hS:∀j,S j->j<W.heap.size)(kd ii nn tt:Int)(id:UInt64)(hi1: -9223372036854775808<=ii)(hi2:ii<9223372036854775808)(hl:sJ M a b A X A0 Y op)(hab:a+b<=14)(hV:V9 a b+4320*(a+1)+26000<=308*M)(hk:k<=T9 a b+100000) :
  Calls Tryz.prog 7 #[.agg (dV P Q ao X.length c bo Y.length d op),.agg (kK kd ii nn tt id)] W λ e w'=>∃a' b',a'+b'<=a+b+1/\tT S W w' P D (T9 a' b'+0) (λ A' X' Y' op'=>∃UD,sJ M a' b' A' X' UD Y' op') e:=by
 obtain⟨p,hsi⟩:=hl.now.si;have htop:=Kn a (by omega) b (by omega) (by omega);have ho:=Zt a b;have MF:=Kn a (by omega) (b+1) (by omega) (by omega);rcases Decidable.em (kd<1\/7<kd)with hkd|hkd
 ·refine(xuw h hS hkd).mono λ e w' he=>⟨a,b+1,by omega,he.imp (by omega) (by rintro A' X' Y' op' ⟨rfl,rfl,rfl,rfl⟩;exact⟨_,hl.up (aZ _) (jy _)⟩)⟩
 rcases Decidable.em (kd=1\/kd=2\/kd=3)with hk3|hk3
 ·refine(WR h hS kd ii nn tt id hi1 hi2 hl hab hV hk hk3).mono ?_;rintro e w' ⟨a',b',h1,h2⟩;exact⟨a',b',h1,h2.imp (aZ _) (λ _ _ _ _ hq=>hq.2)⟩
 have hc:kd=4\/kd=5\/kd=6\/kd=7:=by omega
 rcases hc with rfl|rfl|rfl|rfl
 ·refine(xro h hS (by omega) hl.shut).mono λ e w' he=>⟨a,b+1,by omega,he.imp (by omega) ?_⟩;rintro A' X' Y' op' ⟨rfl,rfl,h1,h2⟩
  cases op with
  | false=>obtain⟨rfl,rfl⟩:=h1 rfl;exact⟨_,xuy hl⟩
  | true=>obtain⟨rfl,rfl⟩:=h2 rfl;exact⟨_,hl.up (aZ _) (jy _)⟩
 ·refine(xoj h hS (by omega) hl.shut hsi.good.1).mono λ e w' he=>⟨a,b+1,by omega,he.imp (by omega) ?_⟩;rintro A' X' Y' op' ⟨rfl,rfl,rfl,h1,h2⟩
  cases op with
  | false=>rw[h1 rfl];exact⟨_,hl.up (aZ _) (jy _)⟩
  | true=>exact⟨_,xrp hl (h2 rfl)⟩
 ·cases op with
  | false=>
   refine(Zi (A0:=A) h hS (by omega) hl.shut (λ e=>by cases e) hsi.good.2).mono λ e w' he=>⟨a,b+1,by omega,he.imp (by omega) ?_⟩;rintro A' X' Y' op' ⟨rfl,rfl,h1,_⟩;obtain⟨rfl,rfl⟩:=h1 rfl;exact⟨_,hl.up (aZ _) (jy _)⟩
  | true=>
   obtain⟨p0,hp0⟩:=(hl.was rfl).2.1.si;refine(Zi (A0:=A0) h hS (by omega) hl.shut (λ _=>(hl.was rfl).1) hp0.good.2).mono λ e w' he=>⟨a,b+1,by omega,he.imp (by omega) ?_⟩;rintro A' X' Y' op' ⟨rfl,rfl,_,h1⟩;obtain⟨hu,rfl⟩:=h1 rfl;exact⟨_,xxu hl hu⟩
 refine(yaa h hS hsi (by omega)).mono λ e w' he=>⟨a,b+1,by omega,he.imp (by omega) ?_⟩;rintro A' X' Y' op' ⟨rfl,rfl,rfl,rfl⟩;exact⟨_,hl.up (aZ _) (jy _)⟩
end
open Go.BigFrame
section
variable{S0:Nat->Prop}{R:AP->List UInt64->List UInt64->Bool->Prop}{W w w2 w3:World}{P D Q T k c d g rb q n m K:Nat}{A:AP}{X Y:List UInt64}{ao bo:Option Addr}{op:Bool}
theorem xZ.shown(hb:aI w rb (dV P Q ao X.length c bo Y.length d op))(hr:jg (λ b=>S0 b\/b=rb) w P D Q T ao c X bo d Y A k)(kp:Kept S0 W w){m:Nat}(ht:aD (uT (λ b=>S0 b\/b=rb) Q T ao bo) w2 P D Q T 2 1 A m)(k2:Kept (uT (λ b=>S0 b\/b=rb) Q T ao bo) w w2) :
  aI w2 rb (dV P Q ao X.length c bo Y.length d op)/\jg (λ b=>S0 b\/b=rb) w2 P D Q T ao c X bo d Y A m/\Kept S0 W w2:=
 ⟨hb.af (k2.block rb (.inl (.inr rfl))),hr.call ht k2,kp.trans (k2.mono (λ _ hj=>.inl (.inl hj)))⟩
end
section
variable{E:Nat->Prop}{W:World}{P D k:Nat}{A:AP}
theorem xxz(h:PZ E W P D A k)(g:A.Good) :
  Calls Tryz.prog 14 #[.pointer D] W λ e w'=>e= .returned (.int .i64 A.ay)/\∃q,w'=W.drewN q:=by
 obtain⟨FB,M,n,q,d,h1,hn,his⟩:=h;refine(xzk h1.pd.dd).mono ?_;rintro e w' ⟨he,q,rfl⟩;refine⟨?_,q,rfl⟩;rw[he];have h2:=g.ax
 have h3:d.ax-(A.aj:Int)+(d.free.length:Int)=(A.ay:Int):=by
  rw[his.ax,his.free];unfold AP.ay;omega
 rw[h3]
end
theorem Xf:∀a,a<16->∀b,b<16->a+b<=14->V9 a b+4320*(a+1)+26000<=308*600:=by decide
section
variable{W w w2:World}{P D Q T M:Nat}
theorem Xe{A:AP}{k c d:Nat}{X Y:List UInt64}{ao bo:Option Addr}{op:Bool}{n:Nat}{x:Nat×Nat}(hl:RX M n x A X Y op)(hn:n<=14)(hV:∀a,a<16->∀b,b<16->a+b<=n->V9 a b+4320*(a+1)+26000<=308*M)(hk:k<=KX x+100000)(kd ii nn tt:Int)(id:UInt64)(hi: -9223372036854775808<=ii/\ii<9223372036854775808)(S:Nat->Prop)(w1:World)(h1:jg S w1 P D Q T ao c X bo d Y A k)(h2:∀j,S j->j<w1.heap.size) :
  Calls Tryz.prog 7 #[.agg (dV P Q ao X.length c bo Y.length d op),.agg (kK kd ii nn tt id)] w1 λ e w'=>∃x,tT S w1 w' P D (KX x) (RX M (n+1) x) e:=by
 obtain⟨hx,A0,hl⟩:=hl;obtain⟨a,b⟩:=x;dsimp only at hx hl;unfold KX at hk;dsimp only at hk;refine(xuz h1 h2 kd ii nn tt id hi.1 hi.2 hl (by omega) (hV a (by omega) b (by omega) hx) hk).mono ?_;rintro e w' ⟨a',b',hab,he⟩;exact⟨(a',b'),he.imp (Nat.le_of_eq (iP _)) (λ A' X' Y' op' hq=>⟨by dsimp only;omega,hq⟩)⟩
theorem Rk{E:Nat->Prop}{A:AP}{k p:Nat}{X:List UInt64}(h:aD E W P D Q T 2 1 A k)(hs:SI A X p)(hk:k+1000<900000000){i:Nat}{id:UInt64}(hi:X[i]?=some id)(hl:X.length<=100000) :
  Calls Tryz.prog 9 #[.pointer Q,.int .i64 i] W λ e w'=>e= .returned (.tuple #[.int .u64 id.toNat,.int .i64 0])/\aD E w' P D Q T 2 1 A (k+40)/\Kept E W w':=by
 obtain⟨m,qs,d,s,n,hr,rfl,rfl⟩:=hs;have hlt:=(dn.1 hi).1;refine(Xh h hr (by omega) i (by omega)).mono ?_;rintro e w' ⟨rfl,h1,h2⟩;refine⟨?_,h1,h2⟩;unfold ql;rw[if_pos (by omega),show((i:Nat):Int).toNat=i by omega,hi]
theorem yby{E:Nat->Prop}{A:AP}{k p:Nat}{X:List UInt64}(h:aD E W P D Q T 2 1 A k)(hs:SI A X p)(hk:k+1000<900000000){i:Nat}{id:UInt64}(hi:X[i]?=some id) :
  Calls Tryz.prog 10 #[.pointer Q,.int .u64 id.toNat] W λ e w'=>e= .returned (.tuple #[.int .i64 i,.int .i64 0])/\aD E w' P D Q T 2 1 A (k+100)/\Kept E W w':=by
 have hu:=hs.pages.2.2;obtain⟨m,qs,d,s,n,hr,rfl,rfl⟩:=hs;refine(Rl h hr (by omega) id).mono ?_;rintro e w' ⟨hor,h1,h2⟩;refine⟨?_,h1,h2⟩;rcases hor with⟨hn,_⟩|⟨j,hj,rfl⟩
 ·exact absurd (fe hi) hn
 obtain⟨l1,e1⟩:=dn.1 hi;obtain⟨l2,e2⟩:=dn.1 hj;rw[List.getElem?_inj l1 hu |>.1 (hi.trans hj.symm)]
theorem Rm{E:Nat->Prop}{A:AP}{k p:Nat}{X:List UInt64}(h:aD E W P D Q T 2 1 A k)(hs:SI A X p)(hk:k+1000<900000000) :
  Calls Tryz.prog 8 #[.pointer Q] W λ e w'=>e= .returned (.tuple #[.int .i64 (X.length:Int),.int .i64 0])/\aD E w' P D Q T 2 1 A (k+40)/\Kept E W w':=by
 obtain⟨m,qs,d,s,n,hr,rfl,rfl⟩:=hs;exact Ob h hr (by omega)
end
end Go.Proofs.YtlipgbnnbefhjaaGreatDoor
