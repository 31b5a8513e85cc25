/- Facts on texts and trees on pages. -/
import Derived.Test.YtgpmiliahonaoaaGreatDoorKTsFc
set_option maxRecDepth 100000
set_option maxHeartbeats 8000000
set_option linter.unusedSimpArgs false
namespace Go.Proofs.YtgpmiliahonaoaaGreatDoor
open Go.RowKit
open UK (str aF nth Only Row ay)
open Go.BigFrame
section
variable{W W':World}{a b Na Ma Nb Mb kc vc ac kd vd ad:Nat}{ka va aa kb vb ab:Option Addr}
theorem yb9{w:World}{sb:Nat}{v:UInt64}(h:ay w sb #[.int .u64 (v.toNat:Int)]):fV (λ g=>g=sb) w (.slice sb 1 1) (az [v]):=
 ⟨_,1,rfl,aO _,λ j u hj=>⟨sb,0,rfl,rfl,by
  cases j with
  | zero=>rw[eG];exact(h.cell 0 _ rfl).trans hj
  | succ j=>cases hj⟩⟩
theorem xk4{w:World}{ks ls K:List UInt64}{cs ds C:List Nat}{g c g2 c2 n m:Nat}{κ:UInt64}(oa:aU Na W a ⟨false,ks,[],cs⟩ ka va aa kc vc ac)(hal:a<Ma)
  (bl:Below W W w) (r1:Row w g c (az K)) (r2:Row w g2 c2 (ints C)) (hg:W.heap.size<=g) (hg2:W.heap.size<=g2) (eK:K=ks++κ::ls) (eC:C=cs++ds) (hn:K.length=n) (hm:C.length=m) (Ij:m<=40) :
  xI Na Ma Nb Mb W a b ⟨false,ks,[],cs⟩ ⟨false,ls,[],ds⟩ κ (.returned (.tuple #[.int .u64 0,.bool true])) ((w.setCell (a,1) (.slice g n c)).setCell (a,3) (.slice g2 m c2)):=by
 have hla:=oa.box.lt;have xa:=oa.box.next bl;have AU:=(xa.set 1 (.slice g n c)).set 3 (.slice g2 m c2);have oA:Only a w ((w.setCell (a,1) (.slice g n c)).setCell (a,3) (.slice g2 m c2)):=((Only.refl a w).set 1 _).set 3 _;generalize (w.setCell (a,1) (.slice g n c)).setCell (a,3) (.slice g2 m c2)=w3 at oA AU ⊢;have ra:=r1.only oA (show g≠a by omega);have rb:=r2.only oA (show g2≠a by omega);have hs:=bl.size;have hsA:=oA.size
 have he:gN ⟨false,ks,[],cs⟩ ⟨false,ls,[],ds⟩ κ=(⟨false,K,[],C⟩,⟨false,ls,[],ds⟩,0,true):=by
  have hl:(cs++ds).length<=40:=by rw[<-eC,hm];exact Ij
  unfold gN;rw[if_neg (by simp)];dsimp only;rw[if_pos hl,eK,eC]
 have wa:=vE (S:=λ q=>(Na<=q/\q<Ma)\/(Nb<=q/\q<Mb)\/(W.heap.size<=q/\q<w3.heap.size)) ra (.inr (.inr ⟨hg,ra.lt⟩));have wb:=vE (S:=λ q=>(Na<=q/\q<Ma)\/(Nb<=q/\q<Mb)\/(W.heap.size<=q/\q<w3.heap.size)) rb (.inr (.inr ⟨hg2,rb.lt⟩));rw[dA,hn]at wa;rw[gQ,hm]at wb;unfold xI;rw[he];refine⟨rfl,⟨_,_,_,AU,.inl ⟨oa.ge,hal⟩,wa,⟨va,vc,rfl,aY _,λ j u hj=>(by cases hj)⟩,wb⟩,(λ h=>by cases h),oA.os.trans bl.os,oA.tape.trans bl.tape,oA.output.trans bl.output,by omega,λ j hj=>?_⟩;have nA:j≠a:=λ e=>hj.2 (.inl (by rw[e];exact⟨oa.ge,hal⟩));rw[oA.block j (by omega) nA];exact bl.block j hj.1
theorem xk5{w:World}{ks ls K:List UInt64}{cs ds C:List Nat}{g c g2 c2 h n m:Nat}{κ q:UInt64}(oa:aU Na W a ⟨false,ks,[],cs⟩ ka va aa kc vc ac)(hal:a<Ma)(ob:aU Nb W b ⟨false,ls,[],ds⟩ kb vb ab kd vd ad)(hbl:b<Mb)(hab:a≠b)
  (bl:Below W W w) (r1:Row w g c (az K)) (r2:Row w g2 c2 (ints C)) (hg:W.heap.size<=g) (hg2:W.heap.size<=g2) (eK:K=ks++κ::ls) (eC:C=cs++ds) (hn:K.length=n) (hm:C.length=m) (hnm:m=n+1) (h41:41<=m) (hh:m/2=h) (hq:q=K.getD (h-1) 0) :
  xI Na Ma Nb Mb W a b ⟨false,ks,[],cs⟩ ⟨false,ls,[],ds⟩ κ (.returned (.tuple #[.int .u64 (q.toNat:Int),.bool false])) ((((w.setCell (a,1) (.slice g (h-1) c)).setCell (a,3) (.slice g2 h c2)).setCell (b,1) (.slice (g,h) (n-h) (c-h))).setCell (b,3) (.slice (g2,h) (m-h) (c2-h))).drew /\
  (((((w.setCell (a,1) (.slice g (h-1) c)).setCell (a,3) (.slice g2 h c2)).setCell (b,1) (.slice (g,h) (n-h) (c-h))).setCell (b,3) (.slice (g2,h) (m-h) (c2-h)))).cell? (g,h-1)=some (.int .u64 (q.toNat:Int)):=by
 have hla:=oa.box.lt;have hlb:=ob.box.lt;have xa:=oa.box.next bl;have xb:=ob.box.next bl;have AU:=(((xa.set 1 (.slice g (h-1) c)).set 3 (.slice g2 h c2)).only (((Only.refl b _).set 1 (.slice (g,h) (n-h) (c-h))).set 3 (.slice (g2,h) (m-h) (c2-h))).drew hab);have oA:Only a w ((w.setCell (a,1) (.slice g (h-1) c)).setCell (a,3) (.slice g2 h c2)):=((Only.refl a w).set 1 _).set 3 _;have oB:Only b ((w.setCell (a,1) (.slice g (h-1) c)).setCell (a,3) (.slice g2 h c2)) ((((w.setCell (a,1) (.slice g (h-1) c)).setCell (a,3) (.slice g2 h c2)).setCell (b,1) (.slice (g,h) (n-h) (c-h))).setCell (b,3) (.slice (g2,h) (m-h) (c2-h))).drew:=(((Only.refl b _).set 1 _).set 3 _).drew;have FK:=fq (((xb.only oA (dz hab)).set 1 (.slice (g,h) (n-h) (c-h))).set 3 (.slice (g2,h) (m-h) (c2-h)));generalize (w.setCell (a,1) (.slice g (h-1) c)).setCell (a,3) (.slice g2 h c2)=w2 at oA oB AU FK ⊢;have hcd:∀(u:World) (x:Addr),u.drew.cell? x=u.cell? x:=λ u x=>rfl;rw[<-hcd];generalize ((w2.setCell (b,1) (.slice (g,h) (n-h) (c-h))).setCell (b,3) (.slice (g2,h) (m-h) (c2-h))).drew=w3 at oB AU FK ⊢;have ra:=(r1.only oA (show g≠a by omega)).only oB (show g≠b by omega);have rb:=(r2.only oA (show g2≠a by omega)).only oB (show g2≠b by omega);have hs:=bl.size;have hsA:=oA.size;have hsB:=oB.size
 have he:gN ⟨false,ks,[],cs⟩ ⟨false,ls,[],ds⟩ κ=(⟨false,K.take (h-1),[],C.take h⟩,⟨false,K.drop h,[],C.drop h⟩,q,false):=by
  have hl2:(cs++ds).length/2=h:=by rw[<-eC,hm];exact hh
  have hl:¬(cs++ds).length<=40:=by rw[<-eC,hm];omega
  unfold gN;rw[if_neg (by simp)];dsimp only;rw[if_neg hl,hl2,hq,eK,eC]
 have wa:=vE (S:=λ q=>(Na<=q/\q<Ma)\/(Nb<=q/\q<Mb)\/(W.heap.size<=q/\q<w3.heap.size)) ra (.inr (.inr ⟨hg,ra.lt⟩));have wb:=vE (S:=λ q=>(Na<=q/\q<Ma)\/(Nb<=q/\q<Mb)\/(W.heap.size<=q/\q<w3.heap.size)) rb (.inr (.inr ⟨hg2,rb.lt⟩));rw[dA,hn]at wa;rw[gQ,hm]at wb;refine⟨?_,?_⟩
 ·unfold xI;rw[he];refine⟨rfl,⟨_,_,_,AU,.inl ⟨oa.ge,hal⟩,?_,⟨va,vc,rfl,aY _,λ j u hj=>(by cases hj)⟩,?_⟩,λ _=>⟨_,_,_,FK,.inr (.inl ⟨ob.ge,hbl⟩),?_,⟨vb,vd,rfl,aY _,λ j u hj=>(by cases hj)⟩,?_⟩,(oB.os.trans oA.os).trans bl.os,(oB.tape.trans oA.tape).trans bl.tape,(oB.output.trans oA.output).trans bl.output,by omega,λ j hj=>?_⟩
  ·have:=wa.take (h-1) (by omega);rw[Hu]at this;exact this
  ·have:=wb.take h (by omega);rw[XF]at this;exact this
  ·have:=wa.drop h (by omega);rw[Ht,eG]at this;exact this
  ·have:=wb.drop h (by omega);rw[XE,eG]at this;exact this
  have nA:j≠a:=λ e=>hj.2 (.inl (by rw[e];exact⟨oa.ge,hal⟩));have nB:j≠b:=λ e=>hj.2 (.inr (by rw[e];exact⟨ob.ge,hbl⟩));rw[oB.block j (by omega) nB,oA.block j (by omega) nA];exact bl.block j hj.1
 refine ra.at' (h-1) _ (tH _ _ _ ?_);rw[hq,fE,bL (by omega)];rfl
theorem xry{ks ls:List UInt64}{cs ds:List Nat}{h n m:Nat}(ha:xH Na Ma W a ⟨false,ks,[],cs⟩ ka va aa kc vc ac)(hb:xH Nb Mb W b ⟨false,ls,[],ds⟩ kb vb ab kd vd ad)(C9:Ma<=Nb)(p1:0<ks.length)(p2:0<ls.length)(p3:0<cs.length)(p4:0<ds.length)(hj:ks.length+1+ls.length=n)(hjm:cs.length+ds.length=m)(hnm:m=n+1)(Ak:m<=1000)(hh:m/2=h)(κ:UInt64) :
  Calls Tryz.prog 258 #[.pointer a,.pointer b,.int .u64 κ.toNat] W (xI Na Ma Nb Mb W a b ⟨false,ks,[],cs⟩ ⟨false,ls,[],ds⟩ κ):=by
 obtain⟨oa,hal,hag⟩:=ha;obtain⟨ob,hbl,hbg⟩:=hb;have hab:a≠b:=by have:=ob.ge;omega
 have ll:h<=1000:=by omega
 have hdv:(m:Int)/2=(h:Int):=by omega
 have CB:Int.tdiv (m:Int) 2=(h:Int):=by rw[mM (Int.natCast_nonneg m)];exact hdv
 have a0:=oa.box.c0;have iB:∀w,Below W W w->w.cell? (a,1)=some (.slice ka ks.length kc)/\w.cell? (b,1)=some (.slice kb ls.length kd)/\w.cell? (a,3)=some (.slice aa cs.length ac)/\w.cell? (b,3)=some (.slice ab ds.length ad):=λ w bl=>⟨(oa.box.next bl).cell 1 _ rfl,(ob.box.next bl).cell 1 _ rfl,(oa.box.next bl).cell 3 _ rfl,(ob.box.next bl).cell 3 _ rfl⟩;have wa:fV (aK ka) W (.slice ka ks.length kc) (az ks):=by have:=oa.k.win (S:=aK ka) (λ _ h=>h);rw[dA]at this;exact this
 have wv:fV (aK aa) W (.slice aa cs.length ac) (ints cs):=by have:=oa.a.win (S:=aK aa) (λ _ h=>h);rw[gQ]at this;exact this
 have wb:fV (aK kb) W (.slice kb ls.length kd) (az ls):=by have:=ob.k.win (S:=aK kb) (λ _ h=>h);rw[dA]at this;exact this
 have ww:fV (aK ab) W (.slice ab ds.length ad) (ints ds):=by have:=ob.a.win (S:=aK ab) (λ _ h=>h);rw[gQ]at this;exact this
 have FL:=zH (λ (w:World) (bl:Below W W w)=>(show Calls Tryz.prog 265 #[.slice ka ks.length kc] w (NG w ks)from Hr (wa.below bl (λ _ h=>oa.k.lt h)) (λ g hg=>bZ (oa.k.lt hg) bl.size) p1 (by omega)));have FN:=zH (λ (w:World) (bl:Below W W w)=>(show Calls Tryz.prog 266 #[.slice aa cs.length ac] w (XB w cs)from XD (wv.below bl (λ _ h=>oa.a.lt h)) (λ g hg=>bZ (oa.a.lt hg) bl.size) p3 (by omega)))
 have Oj:=zH (λ (w:World) (g0 c0 sb:Nat) (bl:Below W W w) (r0:Row w g0 c0 (az ks)) (hg0:W.heap.size<=g0) (hb:ay w sb #[.int .u64 (κ.toNat:Int)])=>(show ∃g c w1,(Builtin.append_ #[88,88] 88 #[.slice g0 ks.length c0,.slice sb 1 1]).run Tryz.prog w= .ok (.slice (some ⟨g,0,none⟩) (ks.length+1) c) w1/\Row w1 g c (az (ks++[κ]))/\W.heap.size<=g/\Below W w w1 from
  Oi (vs:=[κ]) r0 (yb9 hb) hg0 bl.size (Nat.zero_lt_one) (by rw[iE];omega)))
 have HA1:=zH (λ (w:World) (g0 c0:Nat) (bl:Below W W w) (r0:Row w g0 c0 (az (ks++[κ]))) (hg0:W.heap.size<=g0)=>(show ∃g c w1,(Builtin.append_ #[88,88] 88 #[.slice g0 (ks.length+1) c0,.slice kb ls.length kd]).run Tryz.prog w= .ok (.slice (some ⟨g,0,none⟩) n c) w1/\Row w1 g c (az (ks++κ::ls))/\W.heap.size<=g/\Below W w w1 from by
  have:=Oi r0 (wb.below bl (λ _ h=>ob.k.lt h)) hg0 bl.size p2 (by rw[zl,iE];omega);rw[zl,iE,hj,cO]at this;exact this))
 have HA2:=zH (λ (w w':World) (bl:Below W W w) (g0 c0:Nat) (DY:Below w w w') (r0:Row w' g0 c0 (ints cs)) (hg0:w.heap.size<=g0)=>(show ∃g c w1,(Builtin.append_ #[57,57] 57 #[.slice g0 cs.length c0,.slice ab ds.length ad]).run Tryz.prog w'= .ok (.slice (some ⟨g,0,none⟩) m c) w1/\Row w1 g c (ints (cs++ds))/\w.heap.size<=g/\Below w w' w1 from by
  have:=xyh r0 (ww.below (bl.trans (DY.mono bl.size)) (λ _ h=>ob.a.lt h)) hg0 DY.size p4 (by omega);rw[hjm]at this;exact this))
 have HE:=zH (zA oa (zA hal (zA ob (zA hbl (zA hab (zA hj (zA hjm (zA hnm (zA hh (zA Ak ll))))))))));have HW:=zH (zA hdv CB);clear hag hbg oa ob wa wv wb ww C9 hal hbl p1 p2 p3 p4 hh Ak hj hjm hnm hdv CB ll
 go_enter Tryz.func258,Tryz.ntmps258
 go_wp2_with fail
 have bl:Below W W W.drew:=(aV _ _).drew
 go_upto_region 9 with(fail)
 go_cut [11,12] (λ SB x12 wx=>∃g c g2 c2,SB= .slice (some ⟨g,0,none⟩) n c/\x12= .slice (some ⟨g2,0,none⟩) m c2/\Row wx g c (az (ks++κ::ls))/\Row wx g2 c2 (ints (cs++ds))/\W.heap.size<=g/\W.heap.size<=g2/\Below W W wx)
 case first=>
  have hS1:=iB _ bl;refine wp_region_any (by kernel_rfl) ?_;refine zT 0 ?_;refine zT 1 ?_;refine zT 2 ?_;refine zT 5 ?_;refine zT 8 ?_;refine zT 9 ?_;refine zT 10 ?_;refine zT 13 ?_;refine zT 14 ?_;refine zT 15 ?_;refine zT 18 ?_;refine zT 19 ?_;refine zT 20 ?_;refine zV (w:=W.drew) (λ w'=>w'.cell? (a,1)=some (.slice ka ks.length kc)/\w'.cell? (b,1)=some (.slice kb ls.length kd)/\w'.cell? (a,3)=some (.slice aa cs.length ac)/\w'.cell? (b,3)=some (.slice ab ds.length ad)) 99 (by exact hS1) λ hS0=>?_;refine zU 3 hS0 ?_;refine zU 11 hS0 ?_;refine zU 16 hS0 ?_;refine zU 21 hS0 ?_;clear hS0;refine JS (i:=4) (j:=6) (by kernel_rfl) rfl rfl (λ K hK=>?_) (λ K hK=>?_)
  ·go_simp;refine(FL.out _ bl).mono ?_;rintro e w4 ⟨g0,c0,rfl,r4,hg4,CG⟩
   (try dsimp only)
   have rf:Below W W w4:=bl.trans (CG.mono bl.size);refine zK hK ?_ (λ _=>iB _ rf);refine zL 6 λ K hK=>?_;go_simp;have FQ:Below W W (w4.alloc (.cells #[.int .u64 (κ.toNat:Int)] 77)):=rf.alloc rf.size _;have b6:ay (w4.alloc (.cells #[.int .u64 (κ.toNat:Int)] 77)) w4 #[.int .u64 (κ.toNat:Int)]:=tQ rfl;have Y8:Below w4 w4 (w4.alloc (.cells #[.int .u64 (κ.toNat:Int)] 77)):=(aV _ _).alloc (aO _) _;obtain⟨g7,c7,w7,e7,r7,SC,FR⟩:=Oj.out _ g0 c0 w4 FQ (r4.ae Y8.size (Y8.block _ r4.lt)) (aP bl.size hg4) b6;refine zK hK ?_ (λ _=>iB _ FQ);refine zL 7 λ K hK=>?_;refine UK.aG e7 rfl rfl rfl (by simp[Act.eval]) (by simp[Act.eval]) ?_;have FT:Below W W w7:=FQ.trans FR;obtain⟨g,c,SE,e12,AR,FU,zO⟩:=HA1.out _ g7 c7 FT r7 SC;have lG:Below W W SE:=FT.trans zO;refine zK hK ?_ (λ _=>iB _ FT);refine zL 12 λ K hK=>?_;refine UK.aG e12 rfl rfl rfl (by simp[Act.eval]) (by simp[Act.eval]) ?_;refine zK hK ?_ (λ _=>iB _ lG);refine zL 17 λ K hK=>?_;go_simp;refine(FN.out _ lG).mono ?_;rintro e SF ⟨g1,c1,rfl,r1,hg1,rH⟩
   (try dsimp only)
   have sZ:Below W W SF:=lG.trans (rH.mono lG.size);obtain⟨g2,c2,SG,e22,SH,FV,uL⟩:=HA2.out _ _ lG g1 c1 rH r1 hg1;have mE:Below W W SG:=sZ.trans (uL.mono lG.size);refine zK hK ?_ (λ _=>iB _ sZ);refine zL 22 λ K hK=>?_;refine UK.aG e22 rfl rfl rfl (by simp[Act.eval]) (by simp[Act.eval]) ?_;refine zK hK ?_ (λ _=>iB _ mE);refine zM 23 ?_ (λ _=>iB _ mE);refine zM 24 ?_ (λ _=>iB _ mE);refine wz (by kernel_rfl) ?_ _
   go_wp2_with fail
   go_meet;exact⟨g,c,g2,c2,rfl,rfl,AR.ae (aP rH.size uL.size) ((uL.block _ AR.lt).trans (rH.block _ AR.lt)),SH,FU,aP lG.size FV,mE⟩
  go_simp;have zP:Below W W (W.drew.alloc (.cells #[.int .u64 (κ.toNat:Int)] 77)):=bl.alloc bl.size _;have Y9:ay (W.drew.alloc (.cells #[.int .u64 (κ.toNat:Int)] 77)) W.drew.heap.size #[.int .u64 (κ.toNat:Int)]:=tQ rfl;refine zK hK ?_ (λ _=>iB _ zP);refine zL 4 λ K hK=>?_;go_simp;refine(FL.out _ zP).mono ?_;rintro e w4 ⟨g0,c0,rfl,r4,hg4,CG⟩
  (try dsimp only)
  have FQ:Below W W w4:=zP.trans (CG.mono zP.size);have b6:=Y9.ae (CG.block _ Y9.lt);obtain⟨g7,c7,w7,e7,r7,SC,FR⟩:=Oj.out _ g0 c0 W.drew.heap.size FQ r4 (aP zP.size hg4) b6;refine zK hK ?_ (λ _=>iB _ FQ);refine zL 7 λ K hK=>?_;refine UK.aG e7 rfl rfl rfl (by simp[Act.eval]) (by simp[Act.eval]) ?_;have FT:Below W W w7:=FQ.trans FR;obtain⟨g,c,SE,e12,AR,FU,zO⟩:=HA1.out _ g7 c7 FT r7 SC;have lG:Below W W SE:=FT.trans zO;refine zK hK ?_ (λ _=>iB _ FT);refine zL 12 λ K hK=>?_;refine UK.aG e12 rfl rfl rfl (by simp[Act.eval]) (by simp[Act.eval]) ?_;refine zK hK ?_ (λ _=>iB _ lG);refine zL 17 λ K hK=>?_;go_simp;refine(FN.out _ lG).mono ?_;rintro e SF ⟨g1,c1,rfl,r1,hg1,rH⟩
  (try dsimp only)
  have sZ:Below W W SF:=lG.trans (rH.mono lG.size);obtain⟨g2,c2,SG,e22,SH,FV,uL⟩:=HA2.out _ _ lG g1 c1 rH r1 hg1;have mE:Below W W SG:=sZ.trans (uL.mono lG.size);refine zK hK ?_ (λ _=>iB _ sZ);refine zL 22 λ K hK=>?_;refine UK.aG e22 rfl rfl rfl (by simp[Act.eval]) (by simp[Act.eval]) ?_;refine zK hK ?_ (λ _=>iB _ mE);refine zM 23 ?_ (λ _=>iB _ mE);refine zM 24 ?_ (λ _=>iB _ mE);refine wz (by kernel_rfl) ?_ _
  go_wp2_with fail
  go_meet;exact⟨g,c,g2,c2,rfl,rfl,AR.ae (aP rH.size uL.size) ((uL.block _ AR.lt).trans (rH.block _ AR.lt)),SH,FU,aP lG.size FV,mE⟩
 obtain⟨g,c,g2,c2,rfl,rfl,r1,r2,hg,hg2,qB⟩:=hcut;obtain⟨oa,hal,ob,hbl,hab,hj,hjm,hnm,hh,Ak,ll⟩:=HE.out;have eK:(ks++κ::ls).length=n:=by rw[zl,dn];omega
 have eC:(cs++ds).length=m:=by rw[zl];exact hjm
 have xa:=oa.box.next qB;have xb:=ob.box.next qB;have q1:=xa.cell 1 _ rfl;have q2:=xa.cell 3 _ rfl;have q3:=xb.cell 1 _ rfl;have q4:=xb.cell 3 _ rfl;have f1:=xa.free 1;have f2:=xa.free 3;have f3:=xb.free 1;have f4:=xb.free 3;by_cases Ij:m<=40
 ·have fin:=xk4 (b:=b) (Nb:=Nb) (Mb:=Mb) (ls:=ls) (ds:=ds) (κ:=κ) oa hal qB r1 r2 hg hg2 rfl rfl eK eC Ij;have HF:=zH fin;have d40:(m:Int)<=40:=Int.ofNat_le.2 Ij;clear fin oa ob hal hbl hj hjm hnm hh Ak ll eK eC xa xb r1 r2 qB hg hg2 bl iB FL FN Oj HA1 HA2 HE Ij HW
  go_wp2_with fail
  go_ret2;exact HF.out
 obtain⟨q,hq⟩:∃q:UInt64,q=(ks++κ::ls).getD (h-1) 0:=⟨_,rfl⟩;obtain⟨fin,cq⟩:=xk5 (κ:=κ) (Ma:=Ma) (Mb:=Mb) oa hal ob hbl hab qB r1 r2 hg hg2 rfl rfl eK eC hnm (by omega) hh hq;have hc1:n<=c:=by have:=r1.le;rw[dA,eK]at this;exact this
 have hc2:m<=c2:=by have:=r2.le;rw[gQ,eC]at this;exact this
 have h20:20<=h:=by omega
 have hhn:h<n:=by omega
 have hhm:h<m:=by omega
 have HF:=zH fin;have SA:=zH cq;have n40:¬(m:Int)<=40:=by omega
 have i1:(h:Int)<=(c:Int):=Int.ofNat_le.2 (by omega);have i2:(h:Int)<=(c2:Int):=Int.ofNat_le.2 (by omega);have i3:(h:Int)<=(n:Int):=Int.ofNat_le.2 (by omega);have i3m:(h:Int)<=(m:Int):=Int.ofNat_le.2 (by omega);have i5:¬(c=h):=by omega
 have i6:¬(c2=h):=by omega
 have i7:((h-1:Nat):Int)<=(c:Int):=Int.ofNat_le.2 (by omega);have i8:((h-1:Nat):Int)<(n:Int):=Int.ofNat_lt.2 (by omega);have i9:(0:Int)<=((h-1:Nat):Int):=Int.natCast_nonneg _;have i10:h-1<n:=by omega
 have hm1:(h:Int)-1=((h-1:Nat):Int):=(Int.ofNat_sub (show 1<=h by omega)).symm;have l1:h-1<=1000:=by omega
 have w2:wrap64 ((h-1:Nat):Int)=((h-1:Nat):Int):=AA _ l1;have w1:wrap64 ((h:Int)-1)=((h-1:Nat):Int):=by rw[hm1];exact w2
 have w3:IntKind.i64.wrap ((h:Int)-1)=((h-1:Nat):Int):=by rw[hm1];exact AB _ l1
 have w4:wrap64 (h:Int)=(h:Int):=AA _ ll;have w5:IntKind.i64.wrap (h:Int)=(h:Int):=AB _ ll;obtain⟨hdv,CB⟩:=HW.out;clear hm1 l1 fin cq oa ob hal hbl hj hjm hnm hh Ak ll eK eC xa xb r1 r2 qB hg hg2 bl iB FL FN Oj HA1 HA2 HE Ij HW hq hc1 hc2 h20
 go_wp2_with fail
 refine wp_region_any (by kernel_rfl) ?_;refine zT 0 ?_;refine zT 1 ?_;refine zT 2 ?_;refine zT 3 ?_;refine zT 4 ?_;refine zT 5 ?_;refine zT 6 ?_;refine zT 7 ?_;refine zT 8 ?_;refine zT 9 ?_;refine zT 10 ?_;refine zT 11 ?_;refine zT 12 ?_;refine zT 13 ?_;refine zT 14 ?_;refine zT 15 ?_;refine zT 16 ?_;refine zV (w:=wc.drew) (λ w'=>True) 17 (by exact trivial) λ hS0=>?_;clear hS0;refine zM 17 ?_;refine zM 18 ?_;refine zM 19 ?_;refine zM 20 ?_;refine zM 21 ?_;refine zM 22 ?_;refine zM 23 ?_;refine zM 24 ?_;refine zM 25 ?_;refine zM 26 ?_;refine zM 27 ?_;refine zM 28 ?_;refine wz (by kernel_rfl) ?_ _;have cq:=SA.out
 go_wp2_with fail
 go_ret2;exact HF.out
end
end Go.Proofs.YtgpmiliahonaoaaGreatDoor
