/- Facts on rows of numbers on pages. -/
import Derived.Test.YtlipgbnnbefhjaaGreatDoorKSqDc
set_option maxRecDepth 100000
set_option maxHeartbeats 8000000
set_option linter.unusedSimpArgs false
namespace Go.Proofs.YtlipgbnnbefhjaaGreatDoor
open Go.RowKit
open UK (str aO nth Only Row aI)
def Ak(S:Nat->Prop)(W:World)(nb:Nat)(x:Sn):Prop:=∃iv kv cv,aI W nb #[.bool x.leaf,.int .i64 (x.up:Int),iv,kv,cv]/\dY S W iv (aF x.aA)/\dY S W kv (ints x.ah)/\dY S W cv (ints x.au)
def aS(x:Sn)(h:Nat):Sn:=if x.leaf then {x with aA:=x.aA.take h} else {x with ah:=x.ah.take h,au:=x.au.take h}
def aV(x:Sn)(h:Nat):Sn:=if x.leaf then {x with aA:=x.aA.drop h} else {x with ah:=x.ah.drop h,au:=x.au.drop h}
section
variable{S:Nat->Prop}{W W':World}{nb:Nat}{x:Sn}
theorem Ak.node(h:Ak S W nb x):gK (λ g=>S g\/g=nb) W nb x:=by
 obtain⟨iv,kv,cv,b,h1,h2,h3⟩:=h;exact⟨iv,kv,cv,b,.inr rfl,h1.mono (λ _=>.inl),h2.mono (λ _=>.inl),h3.mono (λ _=>.inl)⟩
theorem Ak.below(h:Ak S W nb x)(hS:∀g,S g->g<W.heap.size)(hb:Below W W W'):Ak S W' nb x:=by
 obtain⟨iv,kv,cv,b,h1,h2,h3⟩:=h;exact⟨iv,kv,cv,b.next hb,h1.below hb hS,h2.below hb hS,h3.below hb hS⟩
def Gu(S:Nat->Prop)(W:World)(nb:Nat)(x:Sn)(e:Ending)(w':World):Prop:=
 ∃mb,e= .returned (.pointer (some ⟨mb,0,none⟩))/\Ak S w' nb (aS x (x.size/2))/\Ak (λ g=>W.heap.size<=g/\g<w'.heap.size/\g≠mb) w' mb (aV x (x.size/2))/\W.heap.size<=mb/\mb<w'.heap.size/\Only nb W w'
theorem xw8{up:Nat}{aA:List UInt64}(hn:Ak S W nb ⟨true,up,aA,[],[]⟩)(hS:∀g,S g->g<W.heap.size/\g≠nb)(h2:2<=aA.length)(iy:aA.length<=100) :
  Calls Tryz.prog 102 #[.pointer nb] W (Gu S W nb ⟨true,up,aA,[],[]⟩):=by
 have tY:∀g,S g->g<W.heap.size:=λ g hg=>(hS g hg).1;have HZ:=zH (tX hn.node ⟨iy,by simp,by simp,by simp,λ _=>⟨rfl,rfl⟩,λ h=>by cases h⟩);rw[show Sn.size ⟨true,up,aA,[],[]⟩=aA.length by simp[Sn.size]]at HZ;obtain⟨iv,kv,cv,bb,hi,hk,hc⟩:=hn;dsimp only at bb hi hk hc;have hlt:nb<W.heap.size:=bb.lt;obtain⟨h,hh⟩:∃h,aA.length/2=h:=⟨_,rfl⟩;obtain⟨n,hnl⟩:∃n,aA.length=n:=⟨_,rfl⟩;have Le:Int.tdiv (n:Int) 2=(h:Int):=by rw[<-hh,hnl];rfl
 have hqe:(n:Int)/2=(h:Int):=by omega
 have hw:IntKind.i64.wrap (h:Int)=(h:Int):=by rw[bN];omega
 have HL:=zH (zA hnl hh);rw[hnl]at HZ h2 iy;have Gv:1<=h/\h<n:=by omega
 obtain⟨g1,o1,d1,rfl,hd1,_⟩:=hi.shape (by rw[cz];omega);rw[cz,hnl]at bb hi hd1;have hdl:(aA.drop h).length=n-h:=by rw[zd,hnl]
 have k2:dY S W (.slice (g1,o1+h) (aA.drop h).length (d1-h)) (aF (aA.drop h)):=by
  have:=hi.drop h (by omega);rw[BV]at this;rw[hdl];exact this
 have k1:dY S W (.slice (g1,o1) h d1) (aF (aA.take h)):=by
  have:=hi.take h (by omega);rw[BZ]at this;exact this
 have p0:=bb.d0;have p1:=bb.d1;have HB:=zH (zA bb (zA k2 (zA k1 (zA hk (zA hc hdl)))));clear hnl hh bb hi hk hc k2 k1 hdl
 go_enter Tryz.func102,Tryz.ntmps102
 go_wp2_with fail
 refine HZ.out.mono ?_;rintro e w1 ⟨rfl,m,rfl⟩;clear HZ
 go_upto_region 2 with(fail)
 go_cut [4] (λ mv wx=>mv= .pointer W.heap.size/\aI wx W #[.bool true,.int .i64 (up:Int),.slice none 0 0,.slice none 0 0,.slice none 0 0]/\Below W W wx)
 case first=>
  go_wp2_with fail
  go_region_with (fail)
  all_goals
   go_wp2;go_meet
   case rel=>exact⟨rfl,aI.new _ _ _,(UK.aG (aP W W) _).alloc (UK.aG (aP W W) _).size _⟩
 case rest=>
 obtain⟨rfl,hmx,hbl⟩:=hcut;clear p0 p1;obtain⟨bb,k2,k1,hk,hc,hdl⟩:=HB.out;have b:=bb.next hbl;have hws:W.heap.size<=wc.heap.size:=hbl.size;have Al:∀g,S g->g<wc.heap.size:=λ g hg=>bS (tY g hg) hws;have hC:=EK (W:=wc.drew) ((k2.below hbl tY).below (hBd wc) Al) Al (by omega) (by omega);unfold Lf at hC;rw[hdl]at hC;have HC:=zH hC;have b2:=b.c2;have b2':wc.drew.cell? (nb,2)=some (.slice (g1,o1) n d1):=b2;have b0:=b.c0;have HK:=zH (zA b (zA hmx hbl));have q1:¬(d1=h):=by omega
 have q2:h<=n:=by omega
 have q3:h<=d1:=by omega
 have q4:(h:Int)<=(n:Int):=by omega
 have q5:(h:Int)<=(d1:Int):=by omega
 have q6:(0:Int)<=(h:Int):=by omega
 clear b bb hmx hbl hk hc k1 k2 hC hdl hws Al
 go_wp2_with fail
 go_region_with (first|(go_at_call 125;refine HC.out.mono ?_;rintro e w3 ⟨ga,ca,rfl,r3,hga,wZ⟩;obtain⟨b,hmx,hbl⟩:=HK.out;have nH:=(hBd wc).trans wZ;have b3:=b.next nH;have m3:=hmx.next nH;have s2:=b3.cell 2 _ rfl;have s3:=m3.cell 2 _ rfl;have s4:=b3.free 2;have s5:=m3.free 2;have H3:=zH (zA b3 (zA m3 (zA (hbl.trans (nH.mono hbl.size)) (zA r3 hga))));clear b hmx hbl r3 wZ nH b3 m3))
 all_goals
  go_wp2;go_ret
  obtain⟨b3,m3,vW,r3,hga⟩:=H3.out;obtain⟨_,hmc,Gw⟩:=HK.out;have Si:wc.heap.size<=ga:=hga;have Lg:=hmc.lt;obtain⟨bb,k2,k1,hk,hc,hdl⟩:=HB.out;obtain⟨hnl,hh⟩:=HL.out;have hne:nb≠W.heap.size:=by omega
  have hwc:=Gw.size;have hxs:Sn.size ⟨true,up,aA,[],[]⟩/2=h:=by simp[Sn.size];omega
  have e4:Only W w3 (w3.setCell (W.heap.size,2) (.slice ga (n-h) ca)):=(Only.refl _ w3).set 2 _;have oW:Only nb W (w3.setCell (W.heap.size,2) (.slice ga (n-h) ca)):=(Only.of_below vW).vX (p:=⟨W.heap.size,2,none⟩) (aZ _) _;have b4:=b3.far (b:=W.heap.size) (j:=2) (.slice ga (n-h) ca) hne;have m4:=m3.set 2 (.slice ga (n-h) ca);have r4:=r3.only e4 (by omega);have Sj:(aF (aA.drop h)).length=n-h:=by rw[cz,hdl]
  generalize w3.setCell (W.heap.size,2) (.slice ga (n-h) ca)=w4 at e4 oW b4 m4 r4 ⊢;have e5:Only nb w4 (w4.setCell (nb,2) (.slice (g1,o1) h d1)):=(Only.refl _ w4).set 2 _;have b5:=b4.set 2 (.slice (g1,o1) h d1);have m5:=m4.far (b:=nb) (j:=2) (.slice (g1,o1) h d1) (eU hne);have r5:=r4.only e5 (by omega);have oF:=oW.set 2 (.slice (g1,o1) h d1);generalize w4.setCell (nb,2) (.slice (g1,o1) h d1)=w5 at e5 b5 m5 r5 oF ⊢;have hk1:=k1.only oF hS;have hkk:=hk.only oF hS;have hcc:=hc.only oF hS;have Sk:=r5.lt;have Sl:=m5.lt;refine⟨W.heap.size,rfl,?_,?_,aZ _,Sl,oF⟩
  ·rw[hxs];exact⟨_,_,_,by simpa[aS]using b5,by simpa[aS]using hk1,by simpa[aS]using hkk,by simpa[aS]using hcc⟩
  rw[hxs];have hr:=sU (S:=λ g=>W.heap.size<=g/\g<w5.heap.size/\g≠W.heap.size) r5 ⟨by omega,by omega,by omega⟩;rw[Sj]at hr;exact⟨_,_,_,by simpa[aV]using m5,by simpa[aV]using hr,by simpa[aV,ints]using Db,by simpa[aV,ints]using Db⟩
end
end Go.Proofs.YtlipgbnnbefhjaaGreatDoor
