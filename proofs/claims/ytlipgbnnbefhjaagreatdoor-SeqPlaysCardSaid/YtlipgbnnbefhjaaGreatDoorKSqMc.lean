/- Facts on rows of numbers on pages. -/
import Derived.Test.YtlipgbnnbefhjaaGreatDoorKSqLc
set_option maxRecDepth 100000
set_option maxHeartbeats 8000000
set_option linter.unusedSimpArgs false
namespace Go.Proofs.YtlipgbnnbefhjaaGreatDoor
open Go.RowKit
open UK (str aO nth Only Row aI)
section
variable{S:Nat->Prop}{W W':World}{nb:Nat}{x:Sn}
theorem xt3{up:Nat}{ah au:List Nat}(hn:Ak S W nb ⟨false,up,[],ah,au⟩)(hS:∀g,S g->g<W.heap.size/\g≠nb)(hkc:au.length=ah.length)(hsm:∀k∈au,k<4294967296)(h2:2<=ah.length)(iy:ah.length<=100) :
  Calls Tryz.prog 102 #[.pointer nb] W (Gu S W nb ⟨false,up,[],ah,au⟩):=by
 have tY:∀g,S g->g<W.heap.size:=λ g hg=>(hS g hg).1;have HZ:=zH (tX hn.node ⟨by simp,iy,by show au.length<=100;omega,hsm,(λ h=>by cases h),λ _=>rfl⟩);rw[show Sn.size ⟨false,up,[],ah,au⟩=ah.length by simp[Sn.size]]at HZ;obtain⟨iv,kv,cv,bb,hi,hk,hc⟩:=hn;dsimp only at bb hi hk hc;have hlt:nb<W.heap.size:=bb.lt;obtain⟨h,hh⟩:∃h,ah.length/2=h:=⟨_,rfl⟩;obtain⟨n,hnl⟩:∃n,ah.length=n:=⟨_,rfl⟩;rw[hnl]at hkc;have Le:Int.tdiv (n:Int) 2=(h:Int):=by rw[<-hh,hnl];rfl
 have hqe:(n:Int)/2=(h:Int):=by omega
 have hw:IntKind.i64.wrap (h:Int)=(h:Int):=by rw[bN];omega
 have HL:=zH (zA hnl (zA hh hkc));rw[hnl]at HZ h2 iy;have Gv:1<=h/\h<n:=by omega
 obtain⟨g1,o1,d1,rfl,hd1,_⟩:=hk.shape (by rw[dx];omega);obtain⟨g2,o2,d2,rfl,hd2,_⟩:=hc.shape (by rw[dx];omega);rw[dx,hnl]at bb hk hd1;rw[dx,hkc]at bb hc hd2;have hdl:(ah.drop h).length=n-h:=by rw[zd,hnl]
 have Ca:(au.drop h).length=n-h:=by rw[zd,hkc]
 have k2:dY S W (.slice (g1,o1+h) (ah.drop h).length (d1-h)) (ints (ah.drop h)):=by
  have:=hk.drop h (by omega);rw[Lh]at this;rw[hdl];exact this
 have k1:dY S W (.slice (g1,o1) h d1) (ints (ah.take h)):=by
  have:=hk.take h (by omega);rw[Li]at this;exact this
 have c2:dY S W (.slice (g2,o2+h) (au.drop h).length (d2-h)) (ints (au.drop h)):=by
  have:=hc.drop h (by omega);rw[Lh]at this;rw[Ca];exact this
 have c1:dY S W (.slice (g2,o2) h d2) (ints (au.take h)):=by
  have:=hc.take h (by omega);rw[Li]at this;exact this
 have p0:=bb.d0;have p1:=bb.d1;have HB:=zH (zA bb (zA k2 (zA k1 (zA hi (zA c2 (zA c1 (zA hdl Ca)))))));have HSS:=zH hS;clear hnl hh bb hi hk hc k2 k1 hdl Ca c1 c2 hkc hsm
 go_enter Tryz.func102,Tryz.ntmps102
 go_wp2_with fail
 refine HZ.out.mono ?_;rintro e w1 ⟨rfl,m,rfl⟩;clear HZ
 go_upto_region 2 with(fail)
 go_cut [4] (λ mv wx=>mv= .pointer W.heap.size/\aI wx W #[.bool false,.int .i64 (up:Int),.slice none 0 0,.slice none 0 0,.slice none 0 0]/\Below W W wx)
 case first=>
  go_wp2_with fail
  go_region_with (fail)
  all_goals
   go_wp2;go_meet
   case rel=>exact⟨rfl,aI.new _ _ _,(UK.aG (aP W W) _).alloc (UK.aG (aP W W) _).size _⟩
 case rest=>
 obtain⟨rfl,hmx,hbl⟩:=hcut;clear p0 p1;have q1:¬(d1=h):=by omega
 have q1':¬(d2=h):=by omega
 have q2:h<=n:=by omega
 have q3:h<=d1:=by omega
 have q3':h<=d2:=by omega
 have q4:(h:Int)<=(n:Int):=by omega
 have q5:(h:Int)<=(d1:Int):=by omega
 have q5':(h:Int)<=(d2:Int):=by omega
 have q6:(0:Int)<=(h:Int):=by omega
 have HK:=zH (zA hmx hbl);have b0:=(HB.out.1.next hbl).c0;clear hmx hbl
 go_upto_region 5 with(fail)
 go_cut [] (λ wx=>∃ga ca,aI wx nb #[.bool false,.int .i64 (up:Int),iv,.slice (g1,o1) h d1,.slice (g2,o2) n d2]/\aI wx W #[.bool false,.int .i64 (up:Int),.slice none 0 0,.slice (some ⟨ga,0,none⟩) (n-h) ca,.slice none 0 0]/\Row wx ga ca (ints (ah.drop h))/\W.heap.size<=ga/\ga≠W.heap.size/\Only nb W wx)
 case first=>
  obtain⟨hmx,hbl⟩:=HK.out;obtain⟨bb,k2,k1,hi,c2,c1,hdl,Ca⟩:=HB.out;have b:=bb.next hbl;have hws:W.heap.size<=wc.heap.size:=hbl.size;have Al:∀g,S g->g<wc.heap.size:=λ g hg=>bS (tY g hg) hws;have hC:=Lj (W:=wc.drew) ((k2.below hbl tY).below (hBd wc) Al) Al (by omega) (by omega);unfold O7 at hC;rw[hdl]at hC;have HC:=zH hC;have b2:=b.c3;have b2':wc.drew.cell? (nb,3)=some (.slice (g1,o1) n d1):=b2;have yu:=zH (zA b (zA hmx hbl));clear b bb hmx hbl hi c1 c2 k1 k2 hC hdl Ca hws Al HK b0
  go_wp2_with fail
  go_region_with (first|(go_at_call 126;refine HC.out.mono ?_;rintro e w3 ⟨ga,ca,rfl,r3,hga,wZ⟩;obtain⟨b,hmx,hbl⟩:=yu.out;have nH:=(hBd wc).trans wZ;have b3:=b.next nH;have m3:=hmx.next nH;have s2:=b3.cell 3 _ rfl;have s3:=m3.cell 3 _ rfl;have s4:=b3.free 3;have s5:=m3.free 3;have H3:=zH (zA b3 (zA m3 (zA (hbl.trans (nH.mono hbl.size)) (zA r3 hga))));clear b hmx hbl r3 wZ nH b3 m3))
  all_goals
   go_wp2;go_meet
   obtain⟨b3,m3,vW,r3,hga⟩:=H3.out;obtain⟨_,hmc,Gw⟩:=yu.out;have Si:wc.heap.size<=ga:=hga;have Lg:=hmc.lt;have hne:nb≠W.heap.size:=by omega
   have hwc:=Gw.size;have e4:Only W w3 (w3.setCell (W.heap.size,3) (.slice ga (n-h) ca)):=(Only.refl _ w3).set 3 _;have oW:Only nb W (w3.setCell (W.heap.size,3) (.slice ga (n-h) ca)):=(Only.of_below vW).vX (p:=⟨W.heap.size,3,none⟩) (aZ _) _;have b4:=b3.far (b:=W.heap.size) (j:=3) (.slice ga (n-h) ca) hne;have m4:=m3.set 3 (.slice ga (n-h) ca);have r4:=r3.only e4 (by omega);generalize w3.setCell (W.heap.size,3) (.slice ga (n-h) ca)=w4 at e4 oW b4 m4 r4 ⊢;have e5:Only nb w4 (w4.setCell (nb,3) (.slice (g1,o1) h d1)):=(Only.refl _ w4).set 3 _;have b5:=b4.set 3 (.slice (g1,o1) h d1);have m5:=m4.far (b:=nb) (j:=3) (.slice (g1,o1) h d1) (eU hne);have r5:=r4.only e5 (by omega);have oF:=oW.set 3 (.slice (g1,o1) h d1);exact⟨ga,ca,b5,m5,r5,by omega,by omega,oF⟩
 case rest=>
 obtain⟨ga,ca,hbx,hmx,hra,hga,nI,Jh⟩:=hcut;clear b0;obtain⟨bb,k2,k1,hi,c2,c1,hdl,Ca⟩:=HB.out;have hws:W.heap.size<=wc.heap.size:=Jh.size;have Al:∀g,S g->g<wc.heap.size:=λ g hg=>bS (tY g hg) hws;have hC:=Lj (W:=wc.drew) ((c2.only Jh HSS.out).below (hBd wc) Al) Al (by omega) (by omega);unfold O7 at hC;rw[Ca]at hC;have HC:=zH hC;have b2:=hbx.c4;have b2':wc.drew.cell? (nb,4)=some (.slice (g2,o2) n d2):=b2;have yu:=zH (zA hbx (zA hmx (zA hra (zA hga (zA nI Jh)))));clear hbx hmx hra hga nI Jh bb hi c1 c2 k1 k2 hC hdl Ca hws Al HK
 go_wp2_with fail
 go_region_with (first|(go_at_call 126;refine HC.out.mono ?_;rintro e w3 ⟨gb,cb,rfl,r3,hgb,wZ⟩;obtain⟨b,hmx,_⟩:=yu.out;have nH:=(hBd wc).trans wZ;have b3:=b.next nH;have m3:=hmx.next nH;have s2:=b3.cell 4 _ rfl;have s3:=m3.cell 4 _ rfl;have s4:=b3.free 4;have s5:=m3.free 4;have H3:=zH (zA b3 (zA m3 (zA nH (zA r3 hgb))));clear b hmx r3 wZ nH b3 m3))
 all_goals
  go_wp2;go_ret
  obtain⟨b3,m3,vW,r3,hgb⟩:=H3.out;obtain⟨hbx,hmx,hra,hga,nI,Jh⟩:=yu.out;have hgb':wc.heap.size<=gb:=hgb;have Lg:=hmx.lt;have hne:nb≠W.heap.size:=by omega
  have Sm:=hra.lt;have Sq:=hra.af vW.size (vW.block _ Sm);have oW3:Only nb W w3:=Jh.trans (Only.of_below vW);have e4:Only W w3 (w3.setCell (W.heap.size,4) (.slice gb (n-h) cb)):=(Only.refl _ w3).set 4 _;have Yi:Only nb W (w3.setCell (W.heap.size,4) (.slice gb (n-h) cb)):=oW3.vX (p:=⟨W.heap.size,4,none⟩) (aZ _) _;have b4:=b3.far (b:=W.heap.size) (j:=4) (.slice gb (n-h) cb) hne;have m4:=m3.set 4 (.slice gb (n-h) cb);have r4:=r3.only e4 (by omega);have Yj:=Sq.only e4 nI;generalize w3.setCell (W.heap.size,4) (.slice gb (n-h) cb)=w4 at e4 Yi b4 m4 r4 Yj ⊢;have e5:Only nb w4 (w4.setCell (nb,4) (.slice (g2,o2) h d2)):=(Only.refl _ w4).set 4 _;have b5:=b4.set 4 (.slice (g2,o2) h d2);have m5:=m4.far (b:=nb) (j:=4) (.slice (g2,o2) h d2) (eU hne);have r5:=r4.only e5 (by omega);have Sr:=Yj.only e5 (by omega);have oF:=Yi.set 4 (.slice (g2,o2) h d2);generalize w4.setCell (nb,4) (.slice (g2,o2) h d2)=w5 at e5 b5 m5 r5 Sr oF ⊢;obtain⟨bb,k2,k1,hi,c2,c1,hdl,Ca⟩:=HB.out;obtain⟨hnl,hh,hkc⟩:=HL.out;have hk1:=k1.only oF hS;have hc1:=c1.only oF hS;have hii:=hi.only oF hS;have aak:=r5.lt;have Sk:=Sr.lt;have Sl:=m5.lt;have hxs:Sn.size ⟨false,up,[],ah,au⟩/2=h:=by simp[Sn.size];omega
  have Sj:(ints (ah.drop h)).length=n-h:=by rw[dx,hdl]
  have hdv:(ints (au.drop h)).length=n-h:=by rw[dx,Ca]
  refine⟨W.heap.size,rfl,?_,?_,aZ _,Sl,oF⟩
  ·rw[hxs];exact⟨_,_,_,by simpa[aS]using b5,by simpa[aS]using hii,by simpa[aS]using hk1,by simpa[aS]using hc1⟩
  rw[hxs];have hr:=sU (S:=λ g=>W.heap.size<=g/\g<w5.heap.size/\g≠W.heap.size) Sr ⟨by omega,by omega,by omega⟩;rw[Sj]at hr;have hr2:=sU (S:=λ g=>W.heap.size<=g/\g<w5.heap.size/\g≠W.heap.size) r5 ⟨by omega,by omega,by omega⟩;rw[hdv]at hr2;exact⟨_,_,_,by simpa[aV]using m5,by simpa[aV,aF]using Db,by simpa[aV]using hr,by simpa[aV]using hr2⟩
end
end Go.Proofs.YtlipgbnnbefhjaaGreatDoor
