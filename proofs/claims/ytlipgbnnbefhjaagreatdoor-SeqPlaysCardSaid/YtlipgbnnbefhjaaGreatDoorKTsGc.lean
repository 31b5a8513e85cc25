/- Facts on rows of numbers on pages. -/
import Derived.Test.YtlipgbnnbefhjaaGreatDoorKTsFc
set_option maxRecDepth 100000
set_option maxHeartbeats 8000000
set_option linter.unusedSimpArgs false
namespace Go.Proofs.YtlipgbnnbefhjaaGreatDoor
open Go.RowKit
open UK (str aO nth Only Row aI)
open Go.BigFrame
section
variable{W W':World}{a b Na Ma Nb Mb kc vc ac kd vd ad:Nat}{ka va aa kb vb ab:Option Addr}
theorem ybs{w:World}{sb:Nat}{v:UInt64}(h:aI w sb #[.int .u64 (v.toNat:Int)]):dY (λ g=>g=sb) w (.slice sb 1 1) (aF [v]):=
 ⟨_,1,rfl,aZ _,λ j u hj=>⟨sb,0,rfl,rfl,by
  cases j with
  | zero=>rw[gq];exact(h.cell 0 _ rfl).trans hj
  | succ j=>cases hj⟩⟩
theorem xmb{w:World}{ks ls K:List UInt64}{cs ds C:List Nat}{g c g2 c2 n m:Nat}{κ:UInt64}(oa:bz Na W a ⟨false,ks,[],cs⟩ ka va aa kc vc ac)(hal:a<Ma)
  (bl:Below W W w) (r1:Row w g c (aF K)) (r2:Row w g2 c2 (ints C)) (hg:W.heap.size<=g) (hg2:W.heap.size<=g2) (eK:K=ks++κ::ls) (eC:C=cs++ds) (hn:K.length=n) (hm:C.length=m) (kD:m<=40) :
  zq Na Ma Nb Mb W a b ⟨false,ks,[],cs⟩ ⟨false,ls,[],ds⟩ κ (.returned (.tuple #[.int .u64 0,.bool true])) ((w.setCell (a,1) (.slice g n c)).setCell (a,3) (.slice g2 m c2)):=by
 have hla:=oa.box.lt;have xa:=oa.box.next bl;have Cy:=(xa.set 1 (.slice g n c)).set 3 (.slice g2 m c2);have oA:Only a w ((w.setCell (a,1) (.slice g n c)).setCell (a,3) (.slice g2 m c2)):=((Only.refl a w).set 1 _).set 3 _;generalize (w.setCell (a,1) (.slice g n c)).setCell (a,3) (.slice g2 m c2)=w3 at oA Cy ⊢;have ra:=r1.only oA (show g≠a by omega);have rb:=r2.only oA (show g2≠a by omega);have hs:=bl.size;have hsA:=oA.size
 have he:iB ⟨false,ks,[],cs⟩ ⟨false,ls,[],ds⟩ κ=(⟨false,K,[],C⟩,⟨false,ls,[],ds⟩,0,true):=by
  have hl:(cs++ds).length<=40:=by rw[<-eC,hm];exact kD
  unfold iB;rw[if_neg (by simp)];dsimp only;rw[if_pos hl,eK,eC]
 have wa:=sU (S:=λ q=>(Na<=q/\q<Ma)\/(Nb<=q/\q<Mb)\/(W.heap.size<=q/\q<w3.heap.size)) ra (.inr (.inr ⟨hg,ra.lt⟩));have wb:=sU (S:=λ q=>(Na<=q/\q<Ma)\/(Nb<=q/\q<Mb)\/(W.heap.size<=q/\q<w3.heap.size)) rb (.inr (.inr ⟨hg2,rb.lt⟩));rw[cz,hn]at wa;rw[dx,hm]at wb;unfold zq;rw[he];refine⟨rfl,⟨_,_,_,Cy,.inl ⟨oa.ge,hal⟩,wa,⟨va,vc,rfl,bY _,λ j u hj=>(by cases hj)⟩,wb⟩,(λ h=>by cases h),oA.os.trans bl.os,oA.tape.trans bl.tape,oA.output.trans bl.output,by omega,λ j hj=>?_⟩;have nA:j≠a:=λ e=>hj.2 (.inl (by rw[e];exact⟨oa.ge,hal⟩));rw[oA.block j (by omega) nA];exact bl.block j hj.1
theorem xmc{w:World}{ks ls K:List UInt64}{cs ds C:List Nat}{g c g2 c2 h n m:Nat}{κ q:UInt64}(oa:bz Na W a ⟨false,ks,[],cs⟩ ka va aa kc vc ac)(hal:a<Ma)(ob:bz Nb W b ⟨false,ls,[],ds⟩ kb vb ab kd vd ad)(hbl:b<Mb)(hab:a≠b)
  (bl:Below W W w) (r1:Row w g c (aF K)) (r2:Row w g2 c2 (ints C)) (hg:W.heap.size<=g) (hg2:W.heap.size<=g2) (eK:K=ks++κ::ls) (eC:C=cs++ds) (hn:K.length=n) (hm:C.length=m) (hnm:m=n+1) (h41:41<=m) (hh:m/2=h) (hq:q=K.getD (h-1) 0) :
  zq Na Ma Nb Mb W a b ⟨false,ks,[],cs⟩ ⟨false,ls,[],ds⟩ κ (.returned (.tuple #[.int .u64 (q.toNat:Int),.bool false])) ((((w.setCell (a,1) (.slice g (h-1) c)).setCell (a,3) (.slice g2 h c2)).setCell (b,1) (.slice (g,h) (n-h) (c-h))).setCell (b,3) (.slice (g2,h) (m-h) (c2-h))).drew /\
  (((((w.setCell (a,1) (.slice g (h-1) c)).setCell (a,3) (.slice g2 h c2)).setCell (b,1) (.slice (g,h) (n-h) (c-h))).setCell (b,3) (.slice (g2,h) (m-h) (c2-h)))).cell? (g,h-1)=some (.int .u64 (q.toNat:Int)):=by
 have hla:=oa.box.lt;have hlb:=ob.box.lt;have xa:=oa.box.next bl;have xb:=ob.box.next bl;have Cy:=(((xa.set 1 (.slice g (h-1) c)).set 3 (.slice g2 h c2)).only (((Only.refl b _).set 1 (.slice (g,h) (n-h) (c-h))).set 3 (.slice (g2,h) (m-h) (c2-h))).drew hab);have oA:Only a w ((w.setCell (a,1) (.slice g (h-1) c)).setCell (a,3) (.slice g2 h c2)):=((Only.refl a w).set 1 _).set 3 _;have oB:Only b ((w.setCell (a,1) (.slice g (h-1) c)).setCell (a,3) (.slice g2 h c2)) ((((w.setCell (a,1) (.slice g (h-1) c)).setCell (a,3) (.slice g2 h c2)).setCell (b,1) (.slice (g,h) (n-h) (c-h))).setCell (b,3) (.slice (g2,h) (m-h) (c2-h))).drew:=(((Only.refl b _).set 1 _).set 3 _).drew;have Ik:=dQ (((xb.only oA (eU hab)).set 1 (.slice (g,h) (n-h) (c-h))).set 3 (.slice (g2,h) (m-h) (c2-h)));generalize (w.setCell (a,1) (.slice g (h-1) c)).setCell (a,3) (.slice g2 h c2)=w2 at oA oB Cy Ik ⊢;have hcd:∀(u:World) (x:Addr),u.drew.cell? x=u.cell? x:=λ u x=>rfl;rw[<-hcd];generalize ((w2.setCell (b,1) (.slice (g,h) (n-h) (c-h))).setCell (b,3) (.slice (g2,h) (m-h) (c2-h))).drew=w3 at oB Cy Ik ⊢;have ra:=(r1.only oA (show g≠a by omega)).only oB (show g≠b by omega);have rb:=(r2.only oA (show g2≠a by omega)).only oB (show g2≠b by omega);have hs:=bl.size;have hsA:=oA.size;have hsB:=oB.size
 have he:iB ⟨false,ks,[],cs⟩ ⟨false,ls,[],ds⟩ κ=(⟨false,K.take (h-1),[],C.take h⟩,⟨false,K.drop h,[],C.drop h⟩,q,false):=by
  have hl2:(cs++ds).length/2=h:=by rw[<-eC,hm];exact hh
  have hl:¬(cs++ds).length<=40:=by rw[<-eC,hm];omega
  unfold iB;rw[if_neg (by simp)];dsimp only;rw[if_neg hl,hl2,hq,eK,eC]
 have wa:=sU (S:=λ q=>(Na<=q/\q<Ma)\/(Nb<=q/\q<Mb)\/(W.heap.size<=q/\q<w3.heap.size)) ra (.inr (.inr ⟨hg,ra.lt⟩));have wb:=sU (S:=λ q=>(Na<=q/\q<Ma)\/(Nb<=q/\q<Mb)\/(W.heap.size<=q/\q<w3.heap.size)) rb (.inr (.inr ⟨hg2,rb.lt⟩));rw[cz,hn]at wa;rw[dx,hm]at wb;refine⟨?_,?_⟩
 ·unfold zq;rw[he];refine⟨rfl,⟨_,_,_,Cy,.inl ⟨oa.ge,hal⟩,?_,⟨va,vc,rfl,bY _,λ j u hj=>(by cases hj)⟩,?_⟩,λ _=>⟨_,_,_,Ik,.inr (.inl ⟨ob.ge,hbl⟩),?_,⟨vb,vd,rfl,bY _,λ j u hj=>(by cases hj)⟩,?_⟩,(oB.os.trans oA.os).trans bl.os,(oB.tape.trans oA.tape).trans bl.tape,(oB.output.trans oA.output).trans bl.output,by omega,λ j hj=>?_⟩
  ·have:=wa.take (h-1) (by omega);rw[BZ]at this;exact this
  ·have:=wb.take h (by omega);rw[Li]at this;exact this
  ·have:=wa.drop h (by omega);rw[BV,gq]at this;exact this
  ·have:=wb.drop h (by omega);rw[Lh,gq]at this;exact this
  have nA:j≠a:=λ e=>hj.2 (.inl (by rw[e];exact⟨oa.ge,hal⟩));have nB:j≠b:=λ e=>hj.2 (.inr (by rw[e];exact⟨ob.ge,hbl⟩));rw[oB.block j (by omega) nB,oA.block j (by omega) nA];exact bl.block j hj.1
 refine ra.at' (h-1) _ (qx _ _ _ ?_);rw[hq,fK,di (by omega)];rfl
theorem xr5{ks ls:List UInt64}{cs ds:List Nat}{h n m:Nat}(ha:zn Na Ma W a ⟨false,ks,[],cs⟩ ka va aa kc vc ac)(hb:zn Nb Mb W b ⟨false,ls,[],ds⟩ kb vb ab kd vd ad)(Ee:Ma<=Nb)(p1:0<ks.length)(p2:0<ls.length)(p3:0<cs.length)(p4:0<ds.length)(hj:ks.length+1+ls.length=n)(hjm:cs.length+ds.length=m)(hnm:m=n+1)(Cr:m<=1000)(hh:m/2=h)(κ:UInt64) :
  Calls Tryz.prog 141 #[.pointer a,.pointer b,.int .u64 κ.toNat] W (zq Na Ma Nb Mb W a b ⟨false,ks,[],cs⟩ ⟨false,ls,[],ds⟩ κ):=by
 obtain⟨oa,hal,hag⟩:=ha;obtain⟨ob,hbl,hbg⟩:=hb;have hab:a≠b:=by have:=ob.ge;omega
 have lX:h<=1000:=by omega
 have hdv:(m:Int)/2=(h:Int):=by omega
 have Ef:Int.tdiv (m:Int) 2=(h:Int):=by rw[yD (Int.natCast_nonneg m)];exact hdv
 have a0:=oa.box.c0;have dC:∀w,Below W W w->w.cell? (a,1)=some (.slice ka ks.length kc)/\w.cell? (b,1)=some (.slice kb ls.length kd)/\w.cell? (a,3)=some (.slice aa cs.length ac)/\w.cell? (b,3)=some (.slice ab ds.length ad):=λ w bl=>⟨(oa.box.next bl).cell 1 _ rfl,(ob.box.next bl).cell 1 _ rfl,(oa.box.next bl).cell 3 _ rfl,(ob.box.next bl).cell 3 _ rfl⟩;have wa:dY (aK ka) W (.slice ka ks.length kc) (aF ks):=by have:=oa.k.win (S:=aK ka) (λ _ h=>h);rw[cz]at this;exact this
 have wv:dY (aK aa) W (.slice aa cs.length ac) (ints cs):=by have:=oa.a.win (S:=aK aa) (λ _ h=>h);rw[dx]at this;exact this
 have wb:dY (aK kb) W (.slice kb ls.length kd) (aF ls):=by have:=ob.k.win (S:=aK kb) (λ _ h=>h);rw[cz]at this;exact this
 have ww:dY (aK ab) W (.slice ab ds.length ad) (ints ds):=by have:=ob.a.win (S:=aK ab) (λ _ h=>h);rw[dx]at this;exact this
 have qV:=zH (λ (w:World) (bl:Below W W w)=>(show Calls Tryz.prog 125 #[.slice ka ks.length kc] w (Lf w ks)from EK (wa.below bl (λ _ h=>oa.k.lt h)) (λ g hg=>bS (oa.k.lt hg) bl.size) p1 (by omega)));have lq:=zH (λ (w:World) (bl:Below W W w)=>(show Calls Tryz.prog 126 #[.slice aa cs.length ac] w (O7 w cs)from Lj (wv.below bl (λ _ h=>oa.a.lt h)) (λ g hg=>bS (oa.a.lt hg) bl.size) p3 (by omega)))
 have PR:=zH (λ (w:World) (g0 c0 sb:Nat) (bl:Below W W w) (r0:Row w g0 c0 (aF ks)) (hg0:W.heap.size<=g0) (hb:aI w sb #[.int .u64 (κ.toNat:Int)])=>(show ∃g c w1,(Builtin.append_ #[27,27] 27 #[.slice g0 ks.length c0,.slice sb 1 1]).run Tryz.prog w= .ok (.slice (some ⟨g,0,none⟩) (ks.length+1) c) w1/\Row w1 g c (aF (ks++[κ]))/\W.heap.size<=g/\Below W w w1 from
  PQ (vs:=[κ]) r0 (ybs hb) hg0 bl.size (Nat.zero_lt_one) (by rw[gI];omega)))
 have HA1:=zH (λ (w:World) (g0 c0:Nat) (bl:Below W W w) (r0:Row w g0 c0 (aF (ks++[κ]))) (hg0:W.heap.size<=g0)=>(show ∃g c w1,(Builtin.append_ #[27,27] 27 #[.slice g0 (ks.length+1) c0,.slice kb ls.length kd]).run Tryz.prog w= .ok (.slice (some ⟨g,0,none⟩) n c) w1/\Row w1 g c (aF (ks++κ::ls))/\W.heap.size<=g/\Below W w w1 from by
  have:=PQ r0 (wb.below bl (λ _ h=>ob.k.lt h)) hg0 bl.size p2 (by rw[zl,gI];omega);rw[zl,gI,hj,dH]at this;exact this))
 have HA2:=zH (λ (w w':World) (bl:Below W W w) (g0 c0:Nat) (F9:Below w w w') (r0:Row w' g0 c0 (ints cs)) (hg0:w.heap.size<=g0)=>(show ∃g c w1,(Builtin.append_ #[73,73] 73 #[.slice g0 cs.length c0,.slice ab ds.length ad]).run Tryz.prog w'= .ok (.slice (some ⟨g,0,none⟩) m c) w1/\Row w1 g c (ints (cs++ds))/\w.heap.size<=g/\Below w w' w1 from by
  have:=xyh r0 (ww.below (bl.trans (F9.mono bl.size)) (λ _ h=>ob.a.lt h)) hg0 F9.size p4 (by omega);rw[hjm]at this;exact this))
 have HE:=zH (zA oa (zA hal (zA ob (zA hbl (zA hab (zA hj (zA hjm (zA hnm (zA hh (zA Cr lX))))))))));have HW:=zH (zA hdv Ef);clear hag hbg oa ob wa wv wb ww Ee hal hbl p1 p2 p3 p4 hh Cr hj hjm hnm hdv Ef lX
 go_enter Tryz.func141,Tryz.ntmps141
 go_wp2_with fail
 have bl:Below W W W.drew:=(aP _ _).drew
 go_upto_region 9 with(fail)
 go_cut [11,12] (λ V6 Pk wx=>∃g c g2 c2,V6= .slice (some ⟨g,0,none⟩) n c/\Pk= .slice (some ⟨g2,0,none⟩) m c2/\Row wx g c (aF (ks++κ::ls))/\Row wx g2 c2 (ints (cs++ds))/\W.heap.size<=g/\W.heap.size<=g2/\Below W W wx)
 case first=>
  have hS1:=dC _ bl;refine wp_region_any (by kernel_rfl) ?_;refine zT 0 ?_;refine zT 1 ?_;refine zT 2 ?_;refine zT 5 ?_;refine zT 8 ?_;refine zT 9 ?_;refine zT 10 ?_;refine zT 13 ?_;refine zT 14 ?_;refine zT 15 ?_;refine zT 18 ?_;refine zT 19 ?_;refine zT 20 ?_;refine zV (w:=W.drew) (λ w'=>w'.cell? (a,1)=some (.slice ka ks.length kc)/\w'.cell? (b,1)=some (.slice kb ls.length kd)/\w'.cell? (a,3)=some (.slice aa cs.length ac)/\w'.cell? (b,3)=some (.slice ab ds.length ad)) 99 (by exact hS1) λ hS0=>?_;refine zU 3 hS0 ?_;refine zU 11 hS0 ?_;refine zU 16 hS0 ?_;refine zU 21 hS0 ?_;clear hS0;refine ru (i:=4) (j:=6) (by kernel_rfl) rfl rfl (λ K hK=>?_) (λ K hK=>?_)
  ·go_simp;refine(qV.out _ bl).mono ?_;rintro e w4 ⟨g0,c0,rfl,r4,hg4,Eg⟩
   (try dsimp only)
   have za:Below W W w4:=bl.trans (Eg.mono bl.size);refine zK hK ?_ (λ _=>dC _ za);refine zL 6 λ K hK=>?_;go_simp;have Il:Below W W (w4.alloc (.cells #[.int .u64 (κ.toNat:Int)] 32)):=za.alloc za.size _;have b6:aI (w4.alloc (.cells #[.int .u64 (κ.toNat:Int)] 32)) w4 #[.int .u64 (κ.toNat:Int)]:=mG rfl;have bw6:Below w4 w4 (w4.alloc (.cells #[.int .u64 (κ.toNat:Int)] 32)):=(aP _ _).alloc (aZ _) _;obtain⟨g7,c7,w7,e7,r7,V7,Im⟩:=PR.out _ g0 c0 w4 Il (r4.af bw6.size (bw6.block _ r4.lt)) (bf bl.size hg4) b6;refine zK hK ?_ (λ _=>dC _ Il);refine zL 7 λ K hK=>?_;refine UK.aB e7 rfl rfl rfl (by simp[Act.eval]) (by simp[Act.eval]) ?_;have Io:Below W W w7:=Il.trans Im;obtain⟨g,c,tQ,e12,yZ,Ip,Bz⟩:=HA1.out _ g7 c7 Io r7 V7;have mX:Below W W tQ:=Io.trans Bz;refine zK hK ?_ (λ _=>dC _ Io);refine zL 12 λ K hK=>?_;refine UK.aB e12 rfl rfl rfl (by simp[Act.eval]) (by simp[Act.eval]) ?_;refine zK hK ?_ (λ _=>dC _ mX);refine zL 17 λ K hK=>?_;go_simp;refine(lq.out _ mX).mono ?_;rintro e V8 ⟨g1,c1,rfl,r1,hg1,tN⟩
   (try dsimp only)
   have vB:Below W W V8:=mX.trans (tN.mono mX.size);obtain⟨g2,c2,VA,e22,VB,Iq,wO⟩:=HA2.out _ _ mX g1 c1 tN r1 hg1;have nR:Below W W VA:=vB.trans (wO.mono mX.size);refine zK hK ?_ (λ _=>dC _ vB);refine zL 22 λ K hK=>?_;refine UK.aB e22 rfl rfl rfl (by simp[Act.eval]) (by simp[Act.eval]) ?_;refine zK hK ?_ (λ _=>dC _ nR);refine zM 23 ?_ (λ _=>dC _ nR);refine zM 24 ?_ (λ _=>dC _ nR);refine iR (by kernel_rfl) ?_ _
   go_wp2_with fail
   go_meet;exact⟨g,c,g2,c2,rfl,rfl,yZ.af (bf tN.size wO.size) ((wO.block _ yZ.lt).trans (tN.block _ yZ.lt)),VB,Ip,bf mX.size Iq,nR⟩
  go_simp;have BA:Below W W (W.drew.alloc (.cells #[.int .u64 (κ.toNat:Int)] 32)):=bl.alloc bl.size _;have b6':aI (W.drew.alloc (.cells #[.int .u64 (κ.toNat:Int)] 32)) W.drew.heap.size #[.int .u64 (κ.toNat:Int)]:=mG rfl;refine zK hK ?_ (λ _=>dC _ BA);refine zL 4 λ K hK=>?_;go_simp;refine(qV.out _ BA).mono ?_;rintro e w4 ⟨g0,c0,rfl,r4,hg4,Eg⟩
  (try dsimp only)
  have Il:Below W W w4:=BA.trans (Eg.mono BA.size);have b6:=b6'.af (Eg.block _ b6'.lt);obtain⟨g7,c7,w7,e7,r7,V7,Im⟩:=PR.out _ g0 c0 W.drew.heap.size Il r4 (bf BA.size hg4) b6;refine zK hK ?_ (λ _=>dC _ Il);refine zL 7 λ K hK=>?_;refine UK.aB e7 rfl rfl rfl (by simp[Act.eval]) (by simp[Act.eval]) ?_;have Io:Below W W w7:=Il.trans Im;obtain⟨g,c,tQ,e12,yZ,Ip,Bz⟩:=HA1.out _ g7 c7 Io r7 V7;have mX:Below W W tQ:=Io.trans Bz;refine zK hK ?_ (λ _=>dC _ Io);refine zL 12 λ K hK=>?_;refine UK.aB e12 rfl rfl rfl (by simp[Act.eval]) (by simp[Act.eval]) ?_;refine zK hK ?_ (λ _=>dC _ mX);refine zL 17 λ K hK=>?_;go_simp;refine(lq.out _ mX).mono ?_;rintro e V8 ⟨g1,c1,rfl,r1,hg1,tN⟩
  (try dsimp only)
  have vB:Below W W V8:=mX.trans (tN.mono mX.size);obtain⟨g2,c2,VA,e22,VB,Iq,wO⟩:=HA2.out _ _ mX g1 c1 tN r1 hg1;have nR:Below W W VA:=vB.trans (wO.mono mX.size);refine zK hK ?_ (λ _=>dC _ vB);refine zL 22 λ K hK=>?_;refine UK.aB e22 rfl rfl rfl (by simp[Act.eval]) (by simp[Act.eval]) ?_;refine zK hK ?_ (λ _=>dC _ nR);refine zM 23 ?_ (λ _=>dC _ nR);refine zM 24 ?_ (λ _=>dC _ nR);refine iR (by kernel_rfl) ?_ _
  go_wp2_with fail
  go_meet;exact⟨g,c,g2,c2,rfl,rfl,yZ.af (bf tN.size wO.size) ((wO.block _ yZ.lt).trans (tN.block _ yZ.lt)),VB,Ip,bf mX.size Iq,nR⟩
 obtain⟨g,c,g2,c2,rfl,rfl,r1,r2,hg,hg2,rY⟩:=hcut;obtain⟨oa,hal,ob,hbl,hab,hj,hjm,hnm,hh,Cr,lX⟩:=HE.out;have eK:(ks++κ::ls).length=n:=by rw[zl,dw];omega
 have eC:(cs++ds).length=m:=by rw[zl];exact hjm
 have xa:=oa.box.next rY;have xb:=ob.box.next rY;have q1:=xa.cell 1 _ rfl;have q2:=xa.cell 3 _ rfl;have q3:=xb.cell 1 _ rfl;have q4:=xb.cell 3 _ rfl;have f1:=xa.free 1;have f2:=xa.free 3;have f3:=xb.free 1;have f4:=xb.free 3;by_cases kD:m<=40
 ·have fin:=xmb (b:=b) (Nb:=Nb) (Mb:=Mb) (ls:=ls) (ds:=ds) (κ:=κ) oa hal rY r1 r2 hg hg2 rfl rfl eK eC kD;have HF:=zH fin;have d40:(m:Int)<=40:=Int.ofNat_le.2 kD;clear fin oa ob hal hbl hj hjm hnm hh Cr lX eK eC xa xb r1 r2 rY hg hg2 bl dC qV lq PR HA1 HA2 HE kD HW
  go_wp2_with fail
  go_ret2;exact HF.out
 obtain⟨q,hq⟩:∃q:UInt64,q=(ks++κ::ls).getD (h-1) 0:=⟨_,rfl⟩;obtain⟨fin,cq⟩:=xmc (κ:=κ) (Ma:=Ma) (Mb:=Mb) oa hal ob hbl hab rY r1 r2 hg hg2 rfl rfl eK eC hnm (by omega) hh hq;have hc1:n<=c:=by have:=r1.le;rw[cz,eK]at this;exact this
 have hc2:m<=c2:=by have:=r2.le;rw[dx,eC]at this;exact this
 have h20:20<=h:=by omega
 have hhn:h<n:=by omega
 have hhm:h<m:=by omega
 have HF:=zH fin;have V5:=zH cq;have n40:¬(m:Int)<=40:=by omega
 have i1:(h:Int)<=(c:Int):=Int.ofNat_le.2 (by omega);have i2:(h:Int)<=(c2:Int):=Int.ofNat_le.2 (by omega);have i3:(h:Int)<=(n:Int):=Int.ofNat_le.2 (by omega);have i3m:(h:Int)<=(m:Int):=Int.ofNat_le.2 (by omega);have i5:¬(c=h):=by omega
 have i6:¬(c2=h):=by omega
 have i7:((h-1:Nat):Int)<=(c:Int):=Int.ofNat_le.2 (by omega);have i8:((h-1:Nat):Int)<(n:Int):=Int.ofNat_lt.2 (by omega);have i9:(0:Int)<=((h-1:Nat):Int):=Int.natCast_nonneg _;have i10:h-1<n:=by omega
 have hm1:(h:Int)-1=((h-1:Nat):Int):=(Int.ofNat_sub (show 1<=h by omega)).symm;have l1:h-1<=1000:=by omega
 have w2:wrap64 ((h-1:Nat):Int)=((h-1:Nat):Int):=Cu _ l1;have w1:wrap64 ((h:Int)-1)=((h-1:Nat):Int):=by rw[hm1];exact w2
 have w3:IntKind.i64.wrap ((h:Int)-1)=((h-1:Nat):Int):=by rw[hm1];exact yE _ l1
 have w4:wrap64 (h:Int)=(h:Int):=Cu _ lX;have w5:IntKind.i64.wrap (h:Int)=(h:Int):=yE _ lX;obtain⟨hdv,Ef⟩:=HW.out;clear hm1 l1 fin cq oa ob hal hbl hj hjm hnm hh Cr lX eK eC xa xb r1 r2 rY hg hg2 bl dC qV lq PR HA1 HA2 HE kD HW hq hc1 hc2 h20
 go_wp2_with fail
 refine wp_region_any (by kernel_rfl) ?_;refine zT 0 ?_;refine zT 1 ?_;refine zT 2 ?_;refine zT 3 ?_;refine zT 4 ?_;refine zT 5 ?_;refine zT 6 ?_;refine zT 7 ?_;refine zT 8 ?_;refine zT 9 ?_;refine zT 10 ?_;refine zT 11 ?_;refine zT 12 ?_;refine zT 13 ?_;refine zT 14 ?_;refine zT 15 ?_;refine zT 16 ?_;refine zV (w:=wc.drew) (λ w'=>True) 17 (by exact trivial) λ hS0=>?_;clear hS0;refine zM 17 ?_;refine zM 18 ?_;refine zM 19 ?_;refine zM 20 ?_;refine zM 21 ?_;refine zM 22 ?_;refine zM 23 ?_;refine zM 24 ?_;refine zM 25 ?_;refine zM 26 ?_;refine zM 27 ?_;refine zM 28 ?_;refine iR (by kernel_rfl) ?_ _;have cq:=V5.out
 go_wp2_with fail
 go_ret2;exact HF.out
end
end Go.Proofs.YtlipgbnnbefhjaaGreatDoor
