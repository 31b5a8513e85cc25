/- Facts on rows of numbers on pages. -/
import Derived.Test.YtlipgbnnbefhjaaGreatDoorKTsEc
set_option maxRecDepth 100000
set_option maxHeartbeats 8000000
set_option linter.unusedSimpArgs false
namespace Go.Proofs.YtlipgbnnbefhjaaGreatDoor
open Go.RowKit
open UK (str aO nth Only Row aI)
open Go.BigFrame
section
variable{W W':World}{a b Na Ma Nb Mb kc vc ac kd vd ad:Nat}{ka va aa kb vb ab:Option Addr}
theorem PQ{w:World}{g0 c0 d n:Nat}{bo:Option Addr}{us vs:List UInt64}{T:Nat->Prop}(r:Row w g0 c0 (aF us))(hv:dY T w (.slice bo vs.length d) (aF vs))(h1:n<=g0)(h2:n<=w.heap.size)(h0:0<vs.length)(hl:us.length+vs.length<=100000) :
  ∃g c w1,(Builtin.append_ #[27,27] 27 #[.slice g0 us.length c0,.slice bo vs.length d]).run Tryz.prog w= .ok (.slice (some ⟨g,0,none⟩) (us.length+vs.length) c) w1/\Row w1 g c (aF (us++vs))/\n<=g/\Below n w w1:=by
 obtain⟨g,c,w1,e,r1,cr⟩:=ER (.inr ⟨g0,rfl,r⟩) hv h0 hl;rcases cr with⟨he,ho⟩|⟨he,hb⟩
 ·injection he with he
  injection he with he
  subst he;exact⟨_,c,w1,e,r1,h1,ho.below h2 h1⟩
 exact⟨g,c,w1,e,r1,by omega,hb.mono h2⟩
theorem xyh{w:World}{g0 c0 d n:Nat}{bo:Option Addr}{us vs:List Nat}{T:Nat->Prop}(r:Row w g0 c0 (ints us))(hv:dY T w (.slice bo vs.length d) (ints vs))(h1:n<=g0)(h2:n<=w.heap.size)(h0:0<vs.length)(hl:us.length+vs.length<=100000) :
  ∃g c w1,(Builtin.append_ #[73,73] 73 #[.slice g0 us.length c0,.slice bo vs.length d]).run Tryz.prog w= .ok (.slice (some ⟨g,0,none⟩) (us.length+vs.length) c) w1/\Row w1 g c (ints (us++vs))/\n<=g/\Below n w w1:=by
 obtain⟨g,c,w1,e,r1,cr⟩:=TT (.inr ⟨g0,rfl,r⟩) hv h0 hl;rcases cr with⟨he,ho⟩|⟨he,hb⟩
 ·injection he with he
  injection he with he
  subst he;exact⟨_,c,w1,e,r1,h1,ho.below h2 h1⟩
 exact⟨g,c,w1,e,r1,by omega,hb.mono h2⟩
theorem xno{w:World}{ks vs ls ws K V:List UInt64}{g c g2 c2 h n:Nat}{κ q:UInt64}(oa:bz Na W a ⟨true,ks,vs,[]⟩ ka va aa kc vc ac)(hal:a<Ma)(ob:bz Nb W b ⟨true,ls,ws,[]⟩ kb vb ab kd vd ad)(hbl:b<Mb)(hab:a≠b)
  (bl:Below W W w) (r1:Row w g c (aF K)) (r2:Row w g2 c2 (aF V)) (hg:W.heap.size<=g) (hg2:W.heap.size<=g2) (eK:K=ks++ls) (eV:V=vs++ws) (hn:K.length=n) (hnv:V.length=n) (h31:31<=n) (hh:n/2=h) (hq:q=K.getD h 0) :
  zq Na Ma Nb Mb W a b ⟨true,ks,vs,[]⟩ ⟨true,ls,ws,[]⟩ κ (.returned (.tuple #[.int .u64 (q.toNat:Int),.bool false])) ((((w.setCell (a,1) (.slice g h c)).setCell (a,2) (.slice g2 h c2)).setCell (b,1) (.slice (g,h) (n-h) (c-h))).setCell (b,2) (.slice (g2,h) (n-h) (c2-h))).drew /\
  (((((w.setCell (a,1) (.slice g h c)).setCell (a,2) (.slice g2 h c2)).setCell (b,1) (.slice (g,h) (n-h) (c-h))).setCell (b,2) (.slice (g2,h) (n-h) (c2-h)))).cell? (g,h)=some (.int .u64 (q.toNat:Int)):=by
 have hla:=oa.box.lt;have hlb:=ob.box.lt;have xa:=oa.box.next bl;have xb:=ob.box.next bl;have Cy:=(((xa.set 1 (.slice g h c)).set 2 (.slice g2 h c2)).only (((Only.refl b _).set 1 (.slice (g,h) (n-h) (c-h))).set 2 (.slice (g2,h) (n-h) (c2-h))).drew hab);have oA:Only a w ((w.setCell (a,1) (.slice g h c)).setCell (a,2) (.slice g2 h c2)):=((Only.refl a w).set 1 _).set 2 _;have oB:Only b ((w.setCell (a,1) (.slice g h c)).setCell (a,2) (.slice g2 h c2)) ((((w.setCell (a,1) (.slice g h c)).setCell (a,2) (.slice g2 h c2)).setCell (b,1) (.slice (g,h) (n-h) (c-h))).setCell (b,2) (.slice (g2,h) (n-h) (c2-h))).drew:=(((Only.refl b _).set 1 _).set 2 _).drew;have Ik:=dQ (((xb.only oA (eU hab)).set 1 (.slice (g,h) (n-h) (c-h))).set 2 (.slice (g2,h) (n-h) (c2-h)));generalize (w.setCell (a,1) (.slice g h c)).setCell (a,2) (.slice g2 h c2)=w2 at oA oB Cy Ik ⊢;have hcd:∀(u:World) (x:Addr),u.drew.cell? x=u.cell? x:=λ u x=>rfl;rw[<-hcd];generalize ((w2.setCell (b,1) (.slice (g,h) (n-h) (c-h))).setCell (b,2) (.slice (g2,h) (n-h) (c2-h))).drew=w3 at oB Cy Ik ⊢;have ra:=(r1.only oA (show g≠a by omega)).only oB (show g≠b by omega);have rb:=(r2.only oA (show g2≠a by omega)).only oB (show g2≠b by omega);have hs:=bl.size;have hsA:=oA.size;have hsB:=oB.size
 have he:iB ⟨true,ks,vs,[]⟩ ⟨true,ls,ws,[]⟩ κ=(⟨true,K.take h,V.take h,[]⟩,⟨true,K.drop h,V.drop h,[]⟩,q,false):=by
  have hl:¬ks.length+ls.length<=30:=by rw[eK,zl]at hn;omega
  have hl2:(ks++ls).length/2=h:=by rw[<-eK,hn];exact hh
  unfold iB;rw[if_pos rfl];dsimp only;rw[if_neg hl,hl2,hq,eK,eV]
 have wa:=sU (S:=λ q=>(Na<=q/\q<Ma)\/(Nb<=q/\q<Mb)\/(W.heap.size<=q/\q<w3.heap.size)) ra (.inr (.inr ⟨hg,ra.lt⟩));have wb:=sU (S:=λ q=>(Na<=q/\q<Ma)\/(Nb<=q/\q<Mb)\/(W.heap.size<=q/\q<w3.heap.size)) rb (.inr (.inr ⟨hg2,rb.lt⟩));rw[cz,hn]at wa;rw[cz,hnv]at wb;refine⟨?_,?_⟩
 ·unfold zq;rw[he];refine⟨rfl,⟨_,_,_,Cy,.inl ⟨oa.ge,hal⟩,?_,?_,⟨aa,ac,rfl,bY _,λ j u hj=>(by cases hj)⟩⟩,λ _=>⟨_,_,_,Ik,.inr (.inl ⟨ob.ge,hbl⟩),?_,?_,⟨ab,ad,rfl,bY _,λ j u hj=>(by cases hj)⟩⟩,(oB.os.trans oA.os).trans bl.os,(oB.tape.trans oA.tape).trans bl.tape,(oB.output.trans oA.output).trans bl.output,by omega,λ j hj=>?_⟩
  ·have:=wa.take h (by omega);rw[BZ]at this;exact this
  ·have:=wb.take h (by omega);rw[BZ]at this;exact this
  ·have:=wa.drop h (by omega);rw[BV,gq]at this;exact this
  ·have:=wb.drop h (by omega);rw[BV,gq]at this;exact this
  have nA:j≠a:=λ e=>hj.2 (.inl (by rw[e];exact⟨oa.ge,hal⟩));have nB:j≠b:=λ e=>hj.2 (.inr (by rw[e];exact⟨ob.ge,hbl⟩));rw[oB.block j (by omega) nB,oA.block j (by omega) nA];exact bl.block j hj.1
 refine ra.at' h _ (qx _ _ _ ?_);rw[hq,fK,di (by omega)];rfl
theorem xma{ks vs ls ws:List UInt64}{h n:Nat}(ha:zn Na Ma W a ⟨true,ks,vs,[]⟩ ka va aa kc vc ac)(hb:zn Nb Mb W b ⟨true,ls,ws,[]⟩ kb vb ab kd vd ad)(Ee:Ma<=Nb)(hv:vs.length=ks.length)(hw:ws.length=ls.length)(p1:0<ks.length)(p2:0<ls.length)(hj:ks.length+ls.length=n)(h31:31<=n)(Cr:n<=1000)(hh:n/2=h)(κ:UInt64) :
  Calls Tryz.prog 141 #[.pointer a,.pointer b,.int .u64 κ.toNat] W (zq Na Ma Nb Mb W a b ⟨true,ks,vs,[]⟩ ⟨true,ls,ws,[]⟩ κ):=by
 obtain⟨oa,hal,hag⟩:=ha;obtain⟨ob,hbl,hbg⟩:=hb;have hab:a≠b:=by have:=ob.ge;omega
 have lX:h<=1000:=by omega
 have hdv:(n:Int)/2=(h:Int):=by omega
 have Ef:Int.tdiv (n:Int) 2=(h:Int):=by rw[yD (Int.natCast_nonneg n)];exact hdv
 have n2:¬(n:Int)<=30:=by omega
 have n0:(ks.length:Int)+(ls.length:Int)=(n:Int):=by omega
 have a0:=oa.box.c0;have a1:=oa.box.c1;have b1:=ob.box.c1;have dC:∀w,Below W W w->w.cell? (a,1)=some (.slice ka ks.length kc)/\w.cell? (b,1)=some (.slice kb ls.length kd)/\w.cell? (a,2)=some (.slice va vs.length vc)/\w.cell? (b,2)=some (.slice vb ws.length vd):=λ w bl=>⟨(oa.box.next bl).cell 1 _ rfl,(ob.box.next bl).cell 1 _ rfl,(oa.box.next bl).cell 2 _ rfl,(ob.box.next bl).cell 2 _ rfl⟩;have wa:dY (aK ka) W (.slice ka ks.length kc) (aF ks):=by have:=oa.k.win (S:=aK ka) (λ _ h=>h);rw[cz]at this;exact this
 have wv:dY (aK va) W (.slice va vs.length vc) (aF vs):=by have:=oa.v.win (S:=aK va) (λ _ h=>h);rw[cz]at this;exact this
 have wb:dY (aK kb) W (.slice kb ls.length kd) (aF ls):=by have:=ob.k.win (S:=aK kb) (λ _ h=>h);rw[cz]at this;exact this
 have ww:dY (aK vb) W (.slice vb ws.length vd) (aF ws):=by have:=ob.v.win (S:=aK vb) (λ _ h=>h);rw[cz]at this;exact this
 have qV:=zH (λ (w:World) (bl:Below W W w)=>(show Calls Tryz.prog 125 #[.slice ka ks.length kc] w (Lf w ks)from EK (wa.below bl (λ _ h=>oa.k.lt h)) (λ g hg=>bS (oa.k.lt hg) bl.size) p1 (by omega)));have lq:=zH (λ (w:World) (bl:Below W W w)=>(show Calls Tryz.prog 125 #[.slice va vs.length vc] w (Lf w vs)from EK (wv.below bl (λ _ h=>oa.v.lt h)) (λ g hg=>bS (oa.v.lt hg) bl.size) (by omega) (by omega)))
 have HA1:=zH (λ (w w':World) (bl:Below W W w) (g0 c0:Nat) (F9:Below w w w') (r0:Row w' g0 c0 (aF ks)) (hg0:w.heap.size<=g0)=>(show ∃g c w1,(Builtin.append_ #[27,27] 27 #[.slice g0 ks.length c0,.slice kb ls.length kd]).run Tryz.prog w'= .ok (.slice (some ⟨g,0,none⟩) (ks.length+ls.length) c) w1/\Row w1 g c (aF (ks++ls))/\w.heap.size<=g/\Below w w' w1 from
  PQ r0 (wb.below (bl.trans (F9.mono bl.size)) (λ _ h=>ob.k.lt h)) hg0 F9.size p2 (by omega)))
 have HA2:=zH (λ (w w':World) (bl:Below W W w) (g0 c0:Nat) (F9:Below w w w') (r0:Row w' g0 c0 (aF vs)) (hg0:w.heap.size<=g0)=>(show ∃g c w1,(Builtin.append_ #[27,27] 27 #[.slice g0 vs.length c0,.slice vb ws.length vd]).run Tryz.prog w'= .ok (.slice (some ⟨g,0,none⟩) (vs.length+ws.length) c) w1/\Row w1 g c (aF (vs++ws))/\w.heap.size<=g/\Below w w' w1 from
  PQ r0 (ww.below (bl.trans (F9.mono bl.size)) (λ _ h=>ob.v.lt h)) hg0 F9.size (by omega) (by omega)))
 have HE:=zH (zA oa (zA hal (zA ob (zA hbl (zA hab (zA hv (zA hw (zA hj (zA h31 hh)))))))));have n1:IntKind.i64.wrap ((ks.length:Int)+(ls.length:Int))=(n:Int):=by rw[n0];exact yE _ Cr
 have Ol:wrap64 (h:Int)=(h:Int):=Cu _ lX;have abp:IntKind.i64.wrap (h:Int)=(h:Int):=yE _ lX;clear hag hbg oa ob wa wv wb ww Ee hal hbl p1 p2 hv hw hh h31 Cr
 go_enter Tryz.func141,Tryz.ntmps141
 go_upto_region 3 with(fail)
 go_cut [29] (λ dv wx=>dv= .bool false/\∃m,wx=W.drewN m)
 case first=>
  go_wp2_with fail
  go_quiet (fail)
  go_wp2_with fail
  go_meet
  case rel=>exact⟨by go_simp,_,rfl⟩
 case rest=>
 obtain⟨rfl,hcut⟩:=hcut;have bl:Below W W wc.drew:=by obtain⟨m,rfl⟩:=hcut;exact(UK.aG (aP _ _) m).drew
 clear a0 a1 b1 hcut
 go_upto_region 5 with(fail)
 go_cut [8,9] (λ x8 x9 wx=>∃g c g2 c2,x8= .slice (some ⟨g,0,none⟩) n c/\x9= .slice (some ⟨g2,0,none⟩) n c2/\Row wx g c (aF (ks++ls))/\Row wx g2 c2 (aF (vs++ws))/\W.heap.size<=g/\W.heap.size<=g2/\Below W W wx)
 case first=>
  have hS1:=dC _ bl;refine wp_region_any (by kernel_rfl) ?_;refine zT 0 ?_;refine zT 1 ?_;refine zT 2 ?_;refine zT 5 ?_;refine zT 6 ?_;refine zT 7 ?_;refine zT 10 ?_;refine zT 11 ?_;refine zT 12 ?_;refine zT 15 ?_;refine zT 16 ?_;refine zT 17 ?_;refine zV (w:=wc.drew) (λ w'=>w'.cell? (a,1)=some (.slice ka ks.length kc)/\w'.cell? (b,1)=some (.slice kb ls.length kd)/\w'.cell? (a,2)=some (.slice va vs.length vc)/\w'.cell? (b,2)=some (.slice vb ws.length vd)) 99 (by exact hS1) λ hS0=>?_;refine zU 3 hS0 ?_;refine zU 8 hS0 ?_;refine zU 13 hS0 ?_;refine zU 18 hS0 ?_;clear hS0;refine zL 4 λ K hK=>?_;go_simp;refine(qV.out _ bl).mono ?_;rintro e w4 ⟨g0,c0,rfl,r0,hg0,za⟩
  (try dsimp only)
  have Nl:Below W W w4:=bl.trans (za.mono bl.size);obtain⟨g,c,w5,e5,r5,hg5,vJ⟩:=HA1.out _ _ bl g0 c0 za r0 hg0;refine zK hK ?_ (λ _=>dC _ Nl);refine zL 9 λ K hK=>?_;refine UK.aB e5 rfl rfl rfl (by simp[Act.eval]) (by simp[Act.eval]) ?_;have tq:Below W W w5:=Nl.trans (vJ.mono bl.size);refine zK hK ?_ (λ _=>dC _ tq);refine zL 14 λ K hK=>?_;go_simp;refine(lq.out _ tq).mono ?_;rintro e CO ⟨g1,c1,rfl,r1,hg1,rJ⟩
  (try dsimp only)
  have FC:Below W W CO:=tq.trans (rJ.mono tq.size);obtain⟨g2,c2,OY,e19,Cg,V4,mJ⟩:=HA2.out _ _ tq g1 c1 rJ r1 hg1;refine zK hK ?_ (λ _=>dC _ FC);refine zL 19 λ K hK=>?_;refine UK.aB e19 rfl rfl rfl (by simp[Act.eval]) (by simp[Act.eval]) ?_;have xO:Below W W OY:=FC.trans (mJ.mono tq.size);refine zK hK ?_ (λ _=>dC _ xO);refine zM 20 ?_ (λ _=>dC _ xO);refine zM 21 ?_ (λ _=>dC _ xO);refine iR (by kernel_rfl) ?_ _
  go_wp2_with fail
  go_meet;obtain⟨oa,hal,ob,hbl,hab,hv,hw,hj,h31,hh⟩:=HE.out;exact⟨g,c,g2,c2,by first|rfl|rw[hj],by first|rfl|rw[hv,hw,hj]|rw[hw,hj]|rw[hj],r5.af (bf rJ.size mJ.size) ((mJ.block _ r5.lt).trans (rJ.block _ r5.lt)),Cg,bf bl.size hg5,bf tq.size V4,xO⟩
 case rest=>
 obtain⟨g,c,g2,c2,rfl,rfl,r1,r2,hg,hg2,rY⟩:=hcut;obtain⟨oa,hal,ob,hbl,hab,hv,hw,hj,h31,hh⟩:=HE.out;obtain⟨q,hq⟩:∃q:UInt64,q=(ks++ls).getD h 0:=⟨_,rfl⟩;have JB:Below W W wc.drew:=rY.drew;have xa:=oa.box.next JB;have xb:=ob.box.next JB;have hc1:n<=c:=by have:=r1.le;rw[cz,zl,hj]at this;exact this
 have hc2:n<=c2:=by have:=r2.le;rw[cz,zl,hv,hw,hj]at this;exact this
 obtain⟨fin,cq⟩:=xno (κ:=κ) (Ma:=Ma) (Mb:=Mb) oa hal ob hbl hab rY r1 r2 hg hg2 rfl rfl (by rw[zl];exact hj) (by rw[zl,hv,hw];exact hj) h31 hh hq;have hhn:h<n:=by omega
 have HF:=zH fin;have Nn:=oa.box.next rY;have Np:=ob.box.next rY;have q1:=xa.cell 1 _ rfl;have q2:=Nn.cell 2 _ rfl;have q3:=Np.cell 1 _ rfl;have q4:=Np.cell 2 _ rfl;have f1:=xa.free 1;have f2:=Nn.free 2;have f3:=Np.free 1;have f4:=Np.free 2;have q10:=Nn.cell 1 _ rfl;have f10:=Nn.free 1;have i1:(h:Int)<=(c:Int):=Int.ofNat_le.2 (by omega);have i2:(h:Int)<=(c2:Int):=Int.ofNat_le.2 (by omega);have i3:(h:Int)<=(n:Int):=Int.ofNat_le.2 (by omega);have i4:(h:Int)<(n:Int):=Int.ofNat_lt.2 (by omega);have i5:¬(c=h):=by omega
 have i6:¬(c2=h):=by omega
 have V5:=zH cq;clear fin cq JB xa xb Nn Np hc1 hc2 oa hal ob hbl hv hw hj h31 hh hq r1 r2 rY hg hg2 bl dC qV lq HA1 HA2 HE n1 n2
 go_wp2_with fail
 refine wp_region_any (by kernel_rfl) ?_;refine zT 0 ?_;refine zT 1 ?_;refine zT 2 ?_;refine zT 3 ?_;refine zT 4 ?_;refine zT 5 ?_;refine zT 6 ?_;refine zT 7 ?_;refine zT 8 ?_;refine zT 9 ?_;refine zT 10 ?_;refine zT 11 ?_;refine zT 12 ?_;refine zT 13 ?_;refine zT 14 ?_;refine zT 15 ?_;refine zV (w:=wc.drew) (λ w'=>True) 16 (by exact trivial) λ hS0=>?_;clear hS0;refine zM 16 ?_;refine zM 17 ?_;refine zM 18 ?_;refine zM 19 ?_;refine zM 20 ?_;refine zM 21 ?_;refine zM 22 ?_;refine zM 23 ?_;refine zM 24 ?_;refine zM 25 ?_;refine zM 26 ?_;refine zM 27 ?_;refine iR (by kernel_rfl) ?_ _;have cq:=V5.out
 go_wp2_with fail
 go_ret2;exact HF.out
end
end Go.Proofs.YtlipgbnnbefhjaaGreatDoor
