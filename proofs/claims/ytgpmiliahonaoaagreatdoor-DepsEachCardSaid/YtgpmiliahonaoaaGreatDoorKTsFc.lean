/- Facts on texts and trees on pages. -/
import Derived.Test.YtgpmiliahonaoaaGreatDoorKTsEc
set_option maxRecDepth 100000
set_option maxHeartbeats 8000000
set_option linter.unusedSimpArgs false
namespace Go.Proofs.YtgpmiliahonaoaaGreatDoor
open Go.RowKit
open UK (str aF nth Only Row ay)
open Go.BigFrame
section
variable{W W':World}{a b Na Ma Nb Mb kc vc ac kd vd ad:Nat}{ka va aa kb vb ab:Option Addr}
theorem Oi{w:World}{g0 c0 d n:Nat}{bo:Option Addr}{us vs:List UInt64}{T:Nat->Prop}(r:Row w g0 c0 (az us))(hv:fV T w (.slice bo vs.length d) (az vs))(h1:n<=g0)(h2:n<=w.heap.size)(h0:0<vs.length)(hl:us.length+vs.length<=100000) :
  ∃g c w1,(Builtin.append_ #[88,88] 88 #[.slice g0 us.length c0,.slice bo vs.length d]).run Tryz.prog w= .ok (.slice (some ⟨g,0,none⟩) (us.length+vs.length) c) w1/\Row w1 g c (az (us++vs))/\n<=g/\Below n w w1:=by
 obtain⟨g,c,w1,e,r1,cr⟩:=NF (.inr ⟨g0,rfl,r⟩) hv h0 hl;rcases cr with⟨he,ho⟩|⟨he,hb⟩
 ·injection he with he
  injection he with he
  subst he;exact⟨_,c,w1,e,r1,h1,ho.below h2 h1⟩
 exact⟨g,c,w1,e,r1,by omega,hb.mono h2⟩
theorem xyh{w:World}{g0 c0 d n:Nat}{bo:Option Addr}{us vs:List Nat}{T:Nat->Prop}(r:Row w g0 c0 (ints us))(hv:fV T w (.slice bo vs.length d) (ints vs))(h1:n<=g0)(h2:n<=w.heap.size)(h0:0<vs.length)(hl:us.length+vs.length<=100000) :
  ∃g c w1,(Builtin.append_ #[57,57] 57 #[.slice g0 us.length c0,.slice bo vs.length d]).run Tryz.prog w= .ok (.slice (some ⟨g,0,none⟩) (us.length+vs.length) c) w1/\Row w1 g c (ints (us++vs))/\n<=g/\Below n w w1:=by
 obtain⟨g,c,w1,e,r1,cr⟩:=XA (.inr ⟨g0,rfl,r⟩) hv h0 hl;rcases cr with⟨he,ho⟩|⟨he,hb⟩
 ·injection he with he
  injection he with he
  subst he;exact⟨_,c,w1,e,r1,h1,ho.below h2 h1⟩
 exact⟨g,c,w1,e,r1,by omega,hb.mono h2⟩
theorem xmy{w:World}{ks vs ls ws K V:List UInt64}{g c g2 c2 h n:Nat}{κ q:UInt64}(oa:aU Na W a ⟨true,ks,vs,[]⟩ ka va aa kc vc ac)(hal:a<Ma)(ob:aU Nb W b ⟨true,ls,ws,[]⟩ kb vb ab kd vd ad)(hbl:b<Mb)(hab:a≠b)
  (bl:Below W W w) (r1:Row w g c (az K)) (r2:Row w g2 c2 (az V)) (hg:W.heap.size<=g) (hg2:W.heap.size<=g2) (eK:K=ks++ls) (eV:V=vs++ws) (hn:K.length=n) (hnv:V.length=n) (h31:31<=n) (hh:n/2=h) (hq:q=K.getD h 0) :
  xI Na Ma Nb Mb W a b ⟨true,ks,vs,[]⟩ ⟨true,ls,ws,[]⟩ κ (.returned (.tuple #[.int .u64 (q.toNat:Int),.bool false])) ((((w.setCell (a,1) (.slice g h c)).setCell (a,2) (.slice g2 h c2)).setCell (b,1) (.slice (g,h) (n-h) (c-h))).setCell (b,2) (.slice (g2,h) (n-h) (c2-h))).drew /\
  (((((w.setCell (a,1) (.slice g h c)).setCell (a,2) (.slice g2 h c2)).setCell (b,1) (.slice (g,h) (n-h) (c-h))).setCell (b,2) (.slice (g2,h) (n-h) (c2-h)))).cell? (g,h)=some (.int .u64 (q.toNat:Int)):=by
 have hla:=oa.box.lt;have hlb:=ob.box.lt;have xa:=oa.box.next bl;have xb:=ob.box.next bl;have AU:=(((xa.set 1 (.slice g h c)).set 2 (.slice g2 h c2)).only (((Only.refl b _).set 1 (.slice (g,h) (n-h) (c-h))).set 2 (.slice (g2,h) (n-h) (c2-h))).drew hab);have oA:Only a w ((w.setCell (a,1) (.slice g h c)).setCell (a,2) (.slice g2 h c2)):=((Only.refl a w).set 1 _).set 2 _;have oB:Only b ((w.setCell (a,1) (.slice g h c)).setCell (a,2) (.slice g2 h c2)) ((((w.setCell (a,1) (.slice g h c)).setCell (a,2) (.slice g2 h c2)).setCell (b,1) (.slice (g,h) (n-h) (c-h))).setCell (b,2) (.slice (g2,h) (n-h) (c2-h))).drew:=(((Only.refl b _).set 1 _).set 2 _).drew;have FK:=fq (((xb.only oA (dz hab)).set 1 (.slice (g,h) (n-h) (c-h))).set 2 (.slice (g2,h) (n-h) (c2-h)));generalize (w.setCell (a,1) (.slice g h c)).setCell (a,2) (.slice g2 h c2)=w2 at oA oB AU FK ⊢;have hcd:∀(u:World) (x:Addr),u.drew.cell? x=u.cell? x:=λ u x=>rfl;rw[<-hcd];generalize ((w2.setCell (b,1) (.slice (g,h) (n-h) (c-h))).setCell (b,2) (.slice (g2,h) (n-h) (c2-h))).drew=w3 at oB AU FK ⊢;have ra:=(r1.only oA (show g≠a by omega)).only oB (show g≠b by omega);have rb:=(r2.only oA (show g2≠a by omega)).only oB (show g2≠b by omega);have hs:=bl.size;have hsA:=oA.size;have hsB:=oB.size
 have he:gN ⟨true,ks,vs,[]⟩ ⟨true,ls,ws,[]⟩ κ=(⟨true,K.take h,V.take h,[]⟩,⟨true,K.drop h,V.drop h,[]⟩,q,false):=by
  have hl:¬ks.length+ls.length<=30:=by rw[eK,zl]at hn;omega
  have hl2:(ks++ls).length/2=h:=by rw[<-eK,hn];exact hh
  unfold gN;rw[if_pos rfl];dsimp only;rw[if_neg hl,hl2,hq,eK,eV]
 have wa:=vE (S:=λ q=>(Na<=q/\q<Ma)\/(Nb<=q/\q<Mb)\/(W.heap.size<=q/\q<w3.heap.size)) ra (.inr (.inr ⟨hg,ra.lt⟩));have wb:=vE (S:=λ q=>(Na<=q/\q<Ma)\/(Nb<=q/\q<Mb)\/(W.heap.size<=q/\q<w3.heap.size)) rb (.inr (.inr ⟨hg2,rb.lt⟩));rw[dA,hn]at wa;rw[dA,hnv]at wb;refine⟨?_,?_⟩
 ·unfold xI;rw[he];refine⟨rfl,⟨_,_,_,AU,.inl ⟨oa.ge,hal⟩,?_,?_,⟨aa,ac,rfl,aY _,λ j u hj=>(by cases hj)⟩⟩,λ _=>⟨_,_,_,FK,.inr (.inl ⟨ob.ge,hbl⟩),?_,?_,⟨ab,ad,rfl,aY _,λ j u hj=>(by cases hj)⟩⟩,(oB.os.trans oA.os).trans bl.os,(oB.tape.trans oA.tape).trans bl.tape,(oB.output.trans oA.output).trans bl.output,by omega,λ j hj=>?_⟩
  ·have:=wa.take h (by omega);rw[Hu]at this;exact this
  ·have:=wb.take h (by omega);rw[Hu]at this;exact this
  ·have:=wa.drop h (by omega);rw[Ht,eG]at this;exact this
  ·have:=wb.drop h (by omega);rw[Ht,eG]at this;exact this
  have nA:j≠a:=λ e=>hj.2 (.inl (by rw[e];exact⟨oa.ge,hal⟩));have nB:j≠b:=λ e=>hj.2 (.inr (by rw[e];exact⟨ob.ge,hbl⟩));rw[oB.block j (by omega) nB,oA.block j (by omega) nA];exact bl.block j hj.1
 refine ra.at' h _ (tH _ _ _ ?_);rw[hq,fE,bL (by omega)];rfl
theorem xk3{ks vs ls ws:List UInt64}{h n:Nat}(ha:xH Na Ma W a ⟨true,ks,vs,[]⟩ ka va aa kc vc ac)(hb:xH Nb Mb W b ⟨true,ls,ws,[]⟩ kb vb ab kd vd ad)(C9:Ma<=Nb)(hv:vs.length=ks.length)(hw:ws.length=ls.length)(p1:0<ks.length)(p2:0<ls.length)(hj:ks.length+ls.length=n)(h31:31<=n)(Ak:n<=1000)(hh:n/2=h)(κ:UInt64) :
  Calls Tryz.prog 258 #[.pointer a,.pointer b,.int .u64 κ.toNat] W (xI Na Ma Nb Mb W a b ⟨true,ks,vs,[]⟩ ⟨true,ls,ws,[]⟩ κ):=by
 obtain⟨oa,hal,hag⟩:=ha;obtain⟨ob,hbl,hbg⟩:=hb;have hab:a≠b:=by have:=ob.ge;omega
 have ll:h<=1000:=by omega
 have hdv:(n:Int)/2=(h:Int):=by omega
 have CB:Int.tdiv (n:Int) 2=(h:Int):=by rw[mM (Int.natCast_nonneg n)];exact hdv
 have n2:¬(n:Int)<=30:=by omega
 have n0:(ks.length:Int)+(ls.length:Int)=(n:Int):=by omega
 have a0:=oa.box.c0;have a1:=oa.box.c1;have b1:=ob.box.c1;have iB:∀w,Below W W w->w.cell? (a,1)=some (.slice ka ks.length kc)/\w.cell? (b,1)=some (.slice kb ls.length kd)/\w.cell? (a,2)=some (.slice va vs.length vc)/\w.cell? (b,2)=some (.slice vb ws.length vd):=λ w bl=>⟨(oa.box.next bl).cell 1 _ rfl,(ob.box.next bl).cell 1 _ rfl,(oa.box.next bl).cell 2 _ rfl,(ob.box.next bl).cell 2 _ rfl⟩;have wa:fV (aK ka) W (.slice ka ks.length kc) (az ks):=by have:=oa.k.win (S:=aK ka) (λ _ h=>h);rw[dA]at this;exact this
 have wv:fV (aK va) W (.slice va vs.length vc) (az vs):=by have:=oa.v.win (S:=aK va) (λ _ h=>h);rw[dA]at this;exact this
 have wb:fV (aK kb) W (.slice kb ls.length kd) (az ls):=by have:=ob.k.win (S:=aK kb) (λ _ h=>h);rw[dA]at this;exact this
 have ww:fV (aK vb) W (.slice vb ws.length vd) (az ws):=by have:=ob.v.win (S:=aK vb) (λ _ h=>h);rw[dA]at this;exact this
 have FL:=zH (λ (w:World) (bl:Below W W w)=>(show Calls Tryz.prog 265 #[.slice ka ks.length kc] w (NG w ks)from Hr (wa.below bl (λ _ h=>oa.k.lt h)) (λ g hg=>bZ (oa.k.lt hg) bl.size) p1 (by omega)));have FN:=zH (λ (w:World) (bl:Below W W w)=>(show Calls Tryz.prog 265 #[.slice va vs.length vc] w (NG w vs)from Hr (wv.below bl (λ _ h=>oa.v.lt h)) (λ g hg=>bZ (oa.v.lt hg) bl.size) (by omega) (by omega)))
 have HA1:=zH (λ (w w':World) (bl:Below W W w) (g0 c0:Nat) (DY:Below w w w') (r0:Row w' g0 c0 (az ks)) (hg0:w.heap.size<=g0)=>(show ∃g c w1,(Builtin.append_ #[88,88] 88 #[.slice g0 ks.length c0,.slice kb ls.length kd]).run Tryz.prog w'= .ok (.slice (some ⟨g,0,none⟩) (ks.length+ls.length) c) w1/\Row w1 g c (az (ks++ls))/\w.heap.size<=g/\Below w w' w1 from
  Oi r0 (wb.below (bl.trans (DY.mono bl.size)) (λ _ h=>ob.k.lt h)) hg0 DY.size p2 (by omega)))
 have HA2:=zH (λ (w w':World) (bl:Below W W w) (g0 c0:Nat) (DY:Below w w w') (r0:Row w' g0 c0 (az vs)) (hg0:w.heap.size<=g0)=>(show ∃g c w1,(Builtin.append_ #[88,88] 88 #[.slice g0 vs.length c0,.slice vb ws.length vd]).run Tryz.prog w'= .ok (.slice (some ⟨g,0,none⟩) (vs.length+ws.length) c) w1/\Row w1 g c (az (vs++ws))/\w.heap.size<=g/\Below w w' w1 from
  Oi r0 (ww.below (bl.trans (DY.mono bl.size)) (λ _ h=>ob.v.lt h)) hg0 DY.size (by omega) (by omega)))
 have HE:=zH (zA oa (zA hal (zA ob (zA hbl (zA hab (zA hv (zA hw (zA hj (zA h31 hh)))))))));have n1:IntKind.i64.wrap ((ks.length:Int)+(ls.length:Int))=(n:Int):=by rw[n0];exact AB _ Ak
 have Nn:wrap64 (h:Int)=(h:Int):=AA _ ll;have aav:IntKind.i64.wrap (h:Int)=(h:Int):=AB _ ll;clear hag hbg oa ob wa wv wb ww C9 hal hbl p1 p2 hv hw hh h31 Ak
 go_enter Tryz.func258,Tryz.ntmps258
 go_upto_region 3 with(fail)
 go_cut [29] (λ dv wx=>dv= .bool false/\∃m,wx=W.drewN m)
 case first=>
  go_wp2_with fail
  go_quiet (fail)
  go_wp2_with fail
  go_meet
  case rel=>exact⟨by go_simp,_,rfl⟩
 case rest=>
 obtain⟨rfl,hcut⟩:=hcut;have bl:Below W W wc.drew:=by obtain⟨m,rfl⟩:=hcut;exact(UK.dK (aV _ _) m).drew
 clear a0 a1 b1 hcut
 go_upto_region 5 with(fail)
 go_cut [8,9] (λ x8 x9 wx=>∃g c g2 c2,x8= .slice (some ⟨g,0,none⟩) n c/\x9= .slice (some ⟨g2,0,none⟩) n c2/\Row wx g c (az (ks++ls))/\Row wx g2 c2 (az (vs++ws))/\W.heap.size<=g/\W.heap.size<=g2/\Below W W wx)
 case first=>
  have hS1:=iB _ bl;refine wp_region_any (by kernel_rfl) ?_;refine zT 0 ?_;refine zT 1 ?_;refine zT 2 ?_;refine zT 5 ?_;refine zT 6 ?_;refine zT 7 ?_;refine zT 10 ?_;refine zT 11 ?_;refine zT 12 ?_;refine zT 15 ?_;refine zT 16 ?_;refine zT 17 ?_;refine zV (w:=wc.drew) (λ w'=>w'.cell? (a,1)=some (.slice ka ks.length kc)/\w'.cell? (b,1)=some (.slice kb ls.length kd)/\w'.cell? (a,2)=some (.slice va vs.length vc)/\w'.cell? (b,2)=some (.slice vb ws.length vd)) 99 (by exact hS1) λ hS0=>?_;refine zU 3 hS0 ?_;refine zU 8 hS0 ?_;refine zU 13 hS0 ?_;refine zU 18 hS0 ?_;clear hS0;refine zL 4 λ K hK=>?_;go_simp;refine(FL.out _ bl).mono ?_;rintro e w4 ⟨g0,c0,rfl,r0,hg0,rf⟩
  (try dsimp only)
  have Lt:Below W W w4:=bl.trans (rf.mono bl.size);obtain⟨g,c,w5,e5,r5,hg5,tT⟩:=HA1.out _ _ bl g0 c0 rf r0 hg0;refine zK hK ?_ (λ _=>iB _ Lt);refine zL 9 λ K hK=>?_;refine UK.aG e5 rfl rfl rfl (by simp[Act.eval]) (by simp[Act.eval]) ?_;have FO:Below W W w5:=Lt.trans (tT.mono bl.size);refine zK hK ?_ (λ _=>iB _ FO);refine zL 14 λ K hK=>?_;go_simp;refine(FN.out _ FO).mono ?_;rintro e w14 ⟨g1,c1,rfl,r1,hg1,CF⟩
  (try dsimp only)
  have Ea:Below W W w14:=FO.trans (CF.mono FO.size);obtain⟨g2,c2,w19,e19,r19,S9,FP⟩:=HA2.out _ _ FO g1 c1 CF r1 hg1;refine zK hK ?_ (λ _=>iB _ Ea);refine zL 19 λ K hK=>?_;refine UK.aG e19 rfl rfl rfl (by simp[Act.eval]) (by simp[Act.eval]) ?_;have vK:Below W W w19:=Ea.trans (FP.mono FO.size);refine zK hK ?_ (λ _=>iB _ vK);refine zM 20 ?_ (λ _=>iB _ vK);refine zM 21 ?_ (λ _=>iB _ vK);refine wz (by kernel_rfl) ?_ _
  go_wp2_with fail
  go_meet;obtain⟨oa,hal,ob,hbl,hab,hv,hw,hj,h31,hh⟩:=HE.out;exact⟨g,c,g2,c2,by first|rfl|rw[hj],by first|rfl|rw[hv,hw,hj]|rw[hw,hj]|rw[hj],r5.ae (aP CF.size FP.size) ((FP.block _ r5.lt).trans (CF.block _ r5.lt)),r19,aP bl.size hg5,aP FO.size S9,vK⟩
 case rest=>
 obtain⟨g,c,g2,c2,rfl,rfl,r1,r2,hg,hg2,qB⟩:=hcut;obtain⟨oa,hal,ob,hbl,hab,hv,hw,hj,h31,hh⟩:=HE.out;obtain⟨q,hq⟩:∃q:UInt64,q=(ks++ls).getD h 0:=⟨_,rfl⟩;have Ii:Below W W wc.drew:=qB.drew;have xa:=oa.box.next Ii;have xb:=ob.box.next Ii;have hc1:n<=c:=by have:=r1.le;rw[dA,zl,hj]at this;exact this
 have hc2:n<=c2:=by have:=r2.le;rw[dA,zl,hv,hw,hj]at this;exact this
 obtain⟨fin,cq⟩:=xmy (κ:=κ) (Ma:=Ma) (Mb:=Mb) oa hal ob hbl hab qB r1 r2 hg hg2 rfl rfl (by rw[zl];exact hj) (by rw[zl,hv,hw];exact hj) h31 hh hq;have hhn:h<n:=by omega
 have HF:=zH fin;have Lu:=oa.box.next qB;have Lv:=ob.box.next qB;have q1:=xa.cell 1 _ rfl;have q2:=Lu.cell 2 _ rfl;have q3:=Lv.cell 1 _ rfl;have q4:=Lv.cell 2 _ rfl;have f1:=xa.free 1;have f2:=Lu.free 2;have f3:=Lv.free 1;have f4:=Lv.free 2;have q10:=Lu.cell 1 _ rfl;have f10:=Lu.free 1;have i1:(h:Int)<=(c:Int):=Int.ofNat_le.2 (by omega);have i2:(h:Int)<=(c2:Int):=Int.ofNat_le.2 (by omega);have i3:(h:Int)<=(n:Int):=Int.ofNat_le.2 (by omega);have i4:(h:Int)<(n:Int):=Int.ofNat_lt.2 (by omega);have i5:¬(c=h):=by omega
 have i6:¬(c2=h):=by omega
 have SA:=zH cq;clear fin cq Ii xa xb Lu Lv hc1 hc2 oa hal ob hbl hv hw hj h31 hh hq r1 r2 qB hg hg2 bl iB FL FN HA1 HA2 HE n1 n2
 go_wp2_with fail
 refine wp_region_any (by kernel_rfl) ?_;refine zT 0 ?_;refine zT 1 ?_;refine zT 2 ?_;refine zT 3 ?_;refine zT 4 ?_;refine zT 5 ?_;refine zT 6 ?_;refine zT 7 ?_;refine zT 8 ?_;refine zT 9 ?_;refine zT 10 ?_;refine zT 11 ?_;refine zT 12 ?_;refine zT 13 ?_;refine zT 14 ?_;refine zT 15 ?_;refine zV (w:=wc.drew) (λ w'=>True) 16 (by exact trivial) λ hS0=>?_;clear hS0;refine zM 16 ?_;refine zM 17 ?_;refine zM 18 ?_;refine zM 19 ?_;refine zM 20 ?_;refine zM 21 ?_;refine zM 22 ?_;refine zM 23 ?_;refine zM 24 ?_;refine zM 25 ?_;refine zM 26 ?_;refine zM 27 ?_;refine wz (by kernel_rfl) ?_ _;have cq:=SA.out
 go_wp2_with fail
 go_ret2;exact HF.out
end
end Go.Proofs.YtgpmiliahonaoaaGreatDoor
