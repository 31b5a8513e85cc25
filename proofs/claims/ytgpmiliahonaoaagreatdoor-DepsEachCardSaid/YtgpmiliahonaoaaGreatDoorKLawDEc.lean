/- Facts on texts and trees on pages. -/
import Derived.Test.YtgpmiliahonaoaaGreatDoorKDrEc
set_option maxRecDepth 100000
set_option maxHeartbeats 8000000
set_option linter.unusedSimpArgs false
namespace Go.Proofs.YtgpmiliahonaoaaGreatDoor
open Go.RowKit Go.BigFrame
open UK (str aF nth Only Row ay w32)
open DP (Rc dF bf bX gI)
section
variable{E:Nat->Prop}{W W':World}{P D Dp T1 T2 H k a b rc m M:Nat}{X:List dF}
theorem DS.less(h:DS E W P D Dp T1 T2 H k M X){T:Nat->Prop}(hT:∀j,T j->E j)(a:T Dp)(b:T T1)(c:T T2)(d:T H):DS T W P D Dp T1 T2 H k M X:=by
 obtain⟨A,Ec,x,y,z,u⟩:=h;exact⟨A,Ec,x.less hT a b c d,y,z,u⟩
theorem DS.over(h:DS E W P D Dp T1 T2 H k M X){g:Nat}(hg:E g)(ht:g≠0)(o:Only g W W')(n1:Dp≠g)(n2:T1≠g)(n3:T2≠g)(n4:H≠g):DS E W' P D Dp T1 T2 H k M X:=by
 obtain⟨A,Ec,x,y,z,u⟩:=h;have hb:∀j,E j->j≠g->W'.heap[j]?=W.heap[j]?:=λ j hj hn=>o.block j (x.pz.there j hj) hn;exact⟨A,Ec,⟨x.pz.over (R:=λ j=>j=g) (λ j hj=>hj▸hg) (λ e=>ht e.symm) o.size (λ j hj hn=>o.block j hj hn) (λ j hj=>.inl hj),x.bd.ae (hb _ x.md n1),x.md,x.b1.ae (hb _ x.m1 n2),x.m1,x.b2.ae (hb _ x.m2 n3),x.m2,x.bh.ae (hb _ x.mh n4),x.mh⟩,y,z,u⟩
end
theorem ybx(r c h w a b:Int)(W:World)(ht:kD W) :
  Calls Tryz.prog 3 #[.agg #[.int .i64 r,.int .i64 c,.int .i64 h,.int .i64 w],.agg #[.int .i64 a,.int .i64 b]] W λ e w'=>e= .returned (.bool true)/\Kept (λ j=>j<W.heap.size) W w':=by
 obtain⟨w0,hw0⟩:∃w0,w0=W.alloc (.cells #[.int .i64 r,.int .i64 c,.int .i64 h,.int .i64 w] 23):=⟨_,rfl⟩;obtain⟨w1,hw1⟩:∃w1,w1=w0.alloc (.cells #[.int .i64 a,.int .i64 b] 25):=⟨_,rfl⟩;have b0:Below W W w0:=hw0▸(aV _ _).alloc (aO _) _;have b1:Below w0 w0 w1:=hw1▸(aV _ _).alloc (aO _) _;have x0:ay w0 W #[.int .i64 r,.int .i64 c,.int .i64 h,.int .i64 w]:=hw0▸ay.new W _ _;have x1:ay w1 w0 #[.int .i64 a,.int .i64 b]:=hw1▸ay.new w0 _ _;have s0:w0.heap.size=W.heap.size+1:=by rw[hw0];simp
 have s1:w1.heap.size=W.heap.size+1+1:=by rw[hw1];simp[s0]
 rw[s0]at x1;have HB:=zH (zA (b0.trans (b1.mono b0.size)) (zA (x0.next b1) (zA x1 (zA s1 ht))));have HG:=zH (ow r c h w w1);have Wh:=(x0.next b1).c0;have JU:=(x0.next b1).c1;have JV:=(x0.next b1).c2;have Wi:=(x0.next b1).c3;clear b0 b1 x0 x1 s1 ht;subst hw1 hw0
 go_enter Tryz.func3,Tryz.ntmps3
 go_wp2_with fail
 refine HG.out.mono ?_;rintro e w2 ⟨v,rfl,hv,hb2⟩;obtain⟨hB,x0,x1,s1,ht⟩:=HB.out;have hB2:=hB.trans (hb2.mono hB.size);have ht2:kD w2:=ht.below hB2
 cases v with
 | false=>
  have HA:=zH (Vl w2 ht2 (λ j=>j<W.heap.size) (λ j hj=>bZ hj hB2.size));have HK:Hid (Kept (λ j=>j<W.heap.size) W w2):=zH (Kept.of_below hB2 (λ _ h=>h));clear HG HB hB x0 x1 s1 ht hB2 ht2 hb2 hv Wh JU JV Wi
  go_wp2_with fail
  refine HA.out.mono ?_;rintro e w3 ⟨rfl,k3⟩;have HK3:=zH (HK.out.trans k3);clear HA HK k3;go_wp2;go_ret;exact⟨rfl,HK3.out⟩
 | true=>
  obtain⟨q,hq,rfl,rfl,rfl,rfl⟩:=(hv.1 rfl).rc;have HM:=zH (Vh w2 ht2 (λ j=>j<w2.heap.size) (λ _ h=>h) 800 4 (by decide) (by omega) (by omega) (by omega));have y0:=x0.next hb2;have y1:=x1.next hb2;have d0:=y0.c0;have H2:=zH (zA hB2 (zA y0 (zA y1 (zA s1 (zA hq ht)))));clear HG HB hB x0 x1 s1 ht hB2 ht2 hb2 hv Wh JU JV Wi y0 y1 d0
  go_wp2_with fail
  refine HM.out.mono ?_;rintro e w3 ⟨P,D,Dp,T1,T2,H,rfl,ds,hle,k3⟩;obtain⟨hB2,y0,y1,s1,hq,ht⟩:=H2.out
  have hs2:W.heap.size+1+1<=w2.heap.size:=by
   have:=y1.lt;omega
  have z0:=y0.ae (k3.block W (by omega));have z1:=y1.ae (k3.block (W.heap.size+1) (by omega));have d0:=z0.c0;have d1:=z0.c1;have d2:=z0.c2;have d3:=z0.c3;obtain⟨wr,hwr⟩:∃wr,wr=w3.alloc (.cells #[.int .i64 q.r,.int .i64 q.c,.int .i64 q.h,.int .i64 q.w] 23):=⟨_,rfl⟩;have br:Below w3 w3 wr:=hwr▸(aV _ _).alloc (aO _) _;have rx:RX wr w3 1 [q]:=hwr▸PY w3 q;have sr:wr.heap.size=w3.heap.size+1:=by rw[hwr];simp
  obtain⟨E0,hE0⟩:∃E0:Nat->Prop,E0=λ j=>j<w2.heap.size\/j=Dp\/j=T1\/j=T2\/j=H:=⟨_,rfl⟩;rw[<-hE0]at ds
  have Wj:DS (λ j=>E0 j\/j=w3.heap.size) wr P D Dp T1 T2 H 30 800 []:=ds.wide br (λ j hj=>by
   rcases hj with hj|hj
   ·exact .inl hj
   exact .inr ⟨by omega,by omega⟩) (λ j hj=>.inl hj)
  obtain⟨X,hX⟩:∃X,X=bf (bX 5 5) [q] []:=⟨_,rfl⟩;have hok1:∀p∈[q],p.ok:=λ p hp=>by rw[bz.1 hp];exact hq
  have hset:=ME (m:=64) (a:=5) (b:=5) (rl:=[q]) Wj MF (by decide) (by omega) (by omega) (by omega) rx (λ j hj=>.inr (gz hj)) hok1 (by show 1<=8;omega) (by omega) (by
   have e:(nM ([]++bf (bX 5 5) [q] [])).length=q.nR.length:=by
    show(nM [(bX 5 5,[q])]).length=_;simp only[nM,iL,List.flatMap_nil,jL]
   rw[e,<-Pn hq,df];exact IK q) (by decide)
  have mP:oq X:=by rw[hX];exact MF.put (by decide) hok1 (by show 1<=8;omega) (by decide)
  rw[<-hX]at hset;have HS:=zH hset;have H3:=zH (zA hE0 (zA hX (zA mP (zA (ds.kept br) (zA z0 (zA z1 (zA k3 hle)))))));clear hB2 y0 y1 s1 hq ht HM ds hle k3 z0 z1 br rx sr Wj hX hok1 hset mP hE0;subst hwr
  go_wp2_with fail
  refine HS.out.mono ?_;rintro e w4 ⟨rfl,BH,k4⟩;obtain⟨hE0,hX,mP,kr,z0,z1,k3,hle⟩:=H3.out;have hs2:W.heap.size+1<w2.heap.size:=by omega
  have MZ:Kept E0 w3 w4:=kr.trans (k4.mono (λ j hj=>.inl hj));have e0:∀j,j<w2.heap.size->E0 j:=λ j hj=>by rw[hE0];exact .inl hj
  have v0:=z0.ae (MZ.block _ (e0 _ (by omega)));have v1:=z1.ae (MZ.block _ (e0 _ hs2));have c0:=v1.c0;have c1:=v1.c1;have HP:=zH (xtk a b w4);have H4:=zH (zA hE0 (zA hX (zA mP (zA v0 (zA v1 (zA (k3.trans (MZ.mono e0)) (zA hle (zA BH e0))))))));clear d0 d1 d2 d3 HS hE0 hX mP kr z0 z1 k3 hle MZ e0 v0 v1 BH k4 H3
  go_wp2_with fail
  refine HP.out.mono ?_;rintro e w5 ⟨x,y,hx,hy,rfl,hb5⟩;obtain⟨hE0,hX,mP,v0,v1,k24,hle,BH,e0⟩:=H4.out;have u0:=v0.next hb5;have u1:=v1.next hb5;have c0:=u1.c0;have c1:=u1.c1;have f0:=u1.free 0;have f1:=u1.free 1;obtain⟨w6,qX⟩:∃w6,w6=(w5.setCell ⟨W.heap.size+1,0,none⟩ (.int .i64 x)).setCell ⟨W.heap.size+1,1,none⟩ (.int .i64 y):=⟨_,rfl⟩;have t1:ay w6 (W.heap.size+1) #[.int .i64 x,.int .i64 y]:=by rw[qX];exact(u1.set 0 _).set 1 _
  have t0:ay w6 W #[.int .i64 q.r,.int .i64 q.c,.int .i64 q.h,.int .i64 q.w]:=by rw[qX];exact(u0.far _ (by omega)).far _ (by omega)
  have o6:Only (W.heap.size+1) w5 w6:=by rw[qX];exact((Only.refl _ _).set 0 _).set 1 _
  have H5:=zH (zA t0 (zA t1 (zA o6 hb5)));have a0:=t0.cell 0 _ rfl;have a1:=t0.cell 1 _ rfl;have a2:=t0.cell 2 _ rfl;have a3:=t0.cell 3 _ rfl;have a4:=t1.cell 0 _ rfl;have a5:=t1.cell 1 _ rfl;obtain⟨q1,q2,q3,q4⟩:=H2.out.2.2.2.2.1;clear hE0 hX mP v0 v1 k24 hle BH e0 u0 u1 hb5 HP t0 t1 o6;subst qX
  go_wp2_with fail
  obtain⟨w6,qX⟩:∃w6,w6=(w5.setCell ⟨W.heap.size+1,0,none⟩ (.int .i64 x)).setCell ⟨W.heap.size+1,1,none⟩ (.int .i64 y):=⟨_,rfl⟩;obtain⟨wl,hwl⟩:∃wl,wl=w6.alloc (.cells #[.int .i64 x,.int .i64 y,.int .i64 q.r,.int .i64 q.c,.int .i64 ((q.r:Int)+q.h-1),.int .i64 ((q.c:Int)+q.w-1),.int .i64 (max ((q.r:Int)-1) 0),.int .i64 q.c,.int .i64 (min ((q.r:Int)+q.h) 2999),.int .i64 q.c,.int .i64 q.r,.int .i64 (max ((q.c:Int)-1) 0),.int .i64 q.r,.int .i64 (min ((q.c:Int)+q.w) 699)] 25):=⟨_,rfl⟩;obtain⟨ps,hps⟩:∃ps:List (Nat×Nat),ps=[(x,y),(q.r,q.c),(q.r+q.h-1,q.c+q.w-1),(q.r-1,q.c),(min (q.r+q.h) 2999,q.c),(q.r,q.c-1),(q.r,min (q.c+q.w) 699)]:=⟨_,rfl⟩;obtain⟨E',hE'⟩:∃E':Nat->Prop,E'=λ j=>E0 j\/j=w5.heap.size:=⟨_,rfl⟩;have yG:Hid (wl=((w5.setCell ⟨W.heap.size+1,0,none⟩ (.int .i64 x)).setCell ⟨W.heap.size+1,1,none⟩ (.int .i64 y)).alloc (.cells #[.int .i64 x,.int .i64 y,.int .i64 q.r,.int .i64 q.c,.int .i64 ((q.r:Int)+q.h-1),.int .i64 ((q.c:Int)+q.w-1),.int .i64 (max ((q.r:Int)-1) 0),.int .i64 q.c,.int .i64 (min ((q.r:Int)+q.h) 2999),.int .i64 q.c,.int .i64 q.r,.int .i64 (max ((q.c:Int)-1) 0),.int .i64 q.r,.int .i64 (min ((q.c:Int)+q.w) 699)] 25)):=zH (by rw[hwl,qX])
  have HL:Hid (DS E' wl P D Dp T1 T2 H 13000030 800 X/\ay wl W #[.int .i64 q.r,.int .i64 q.c,.int .i64 q.h,.int .i64 q.w]/\E' W.heap.size/\(E' Dp/\E' T1/\E' T2/\E' H)/\Kept (λ j=>j<W.heap.size) W wl/\(∀j,j<W.heap.size->E' j)/\ps.length=7/\∀(j:Nat) (p:Nat×Nat),ps[j]?=some p->p.1<100000/\p.2<100000/\wl.cell? ⟨w5.heap.size,j*2,none⟩=some (.int .i64 (p.1:Int))/\wl.cell? ⟨w5.heap.size,j*2+1,none⟩=some (.int .i64 (p.2:Int))):=by
   obtain⟨hE0,hX,mP,v0,v1,k24,hle,BH,e0⟩:=H4.out;obtain⟨hB2,y0,y1,s1,hq,ht⟩:=H2.out;obtain⟨t0,t1,o6,hb5⟩:=H5.out;rw[<-qX]at t0 t1 o6;have hs2:W.heap.size+1<w2.heap.size:=y1.lt;have BZ:w6.heap.size=w5.heap.size:=by rw[qX];simp[World.setCell]
   have bl:Below w6 w6 wl:=hwl▸(aV _ _).alloc (aO _) _;have xl:=ay.new w6 #[.int .i64 x,.int .i64 y,.int .i64 q.r,.int .i64 q.c,.int .i64 ((q.r:Int)+q.h-1),.int .i64 ((q.c:Int)+q.w-1),.int .i64 (max ((q.r:Int)-1) 0),.int .i64 q.c,.int .i64 (min ((q.r:Int)+q.h) 2999),.int .i64 q.c,.int .i64 q.r,.int .i64 (max ((q.c:Int)-1) 0),.int .i64 q.r,.int .i64 (min ((q.c:Int)+q.w) 699)] 25;rw[<-hwl,BZ]at xl;have sl:wl.heap.size=w6.heap.size+1:=by rw[hwl];simp
   have hlt:=ht.lt;have hd0:DS E0 w4 P D Dp T1 T2 H 13000030 800 X:=BH.less (λ j hj=>.inl hj) (by rw[hE0];exact .inr (.inl rfl)) (by rw[hE0];exact .inr (.inr (.inl rfl))) (by rw[hE0];exact .inr (.inr (.inr (.inl rfl)))) (by rw[hE0];exact .inr (.inr (.inr (.inr rfl))));have hd6:=(hd0.next hb5).over (g:=W.heap.size+1) (e0 _ hs2) (by omega) o6 (by omega) (by omega) (by omega) (by omega)
   have hdl:DS E' wl P D Dp T1 T2 H 13000030 800 X:=hd6.wide bl (λ j hj=>by
    rw[hE']at hj;rcases hj with hj|hj
    ·exact .inl hj
    exact .inr ⟨by omega,by omega⟩) (λ j hj=>by rw[hE'];exact .inl hj)
   have GU:∀j,E0 j->E' j:=λ j hj=>by rw[hE'];exact .inl hj
   have kW:Kept (λ j=>j<W.heap.size) W wl:=by
    have k2:Kept (λ j=>j<W.heap.size) W w2:=Kept.of_below hB2 (λ _ h=>h);have k4:=k2.trans (k24.mono (λ j hj=>by omega));have k5:=k4.trans (Kept.of_below hb5 (λ j hj=>bZ hj k4.size));refine k5.trans ⟨bl.os.trans o6.os,bl.tape.trans o6.tape,bl.output.trans o6.output,aP o6.size bl.size,λ j hj=>?_⟩;have h5:=bZ hj k5.size;exact(bl.block j (by omega)).trans (o6.block j h5 (by omega))
   refine zH ⟨hdl,t0.next bl,GU _ (e0 _ (by omega)),⟨GU _ (by rw[hE0];exact .inr (.inl rfl)),GU _ (by rw[hE0];exact .inr (.inr (.inl rfl))),GU _ (by rw[hE0];exact .inr (.inr (.inr (.inl rfl)))),GU _ (by rw[hE0];exact .inr (.inr (.inr (.inr rfl))))⟩,kW,λ j hj=>GU _ (e0 j (by omega)),by rw[hps];rfl,λ j p hp=>?_⟩
   have hj:j<7:=by
    have:=(dE.1 hp).1;rw[hps]at this;exact this
   rw[hps]at hp
   match j,hj with
   | 0,_=>
    obtain rfl:(x,y)=p:=by simpa using hp
    exact⟨by show x<100000;omega,by show y<100000;omega,xl.cell 0 _ rfl,xl.cell 1 _ rfl⟩
   | 1,_=>
    obtain rfl:(q.r,q.c)=p:=by simpa using hp
    exact⟨by show q.r<100000;omega,by show q.c<100000;omega,xl.cell 2 _ rfl,xl.cell 3 _ rfl⟩
   | 2,_=>
    obtain rfl:(q.r+q.h-1,q.c+q.w-1)=p:=by simpa using hp
    refine⟨by show q.r+q.h-1<100000;omega,by show q.c+q.w-1<100000;omega,(xl.cell 4 _ rfl).trans ?_,(xl.cell 5 _ rfl).trans ?_⟩
    ·show some (Value.int .i64 ((q.r:Int)+q.h-1))=some (Value.int .i64 ((q.r+q.h-1:Nat):Int));rw[show((q.r+q.h-1:Nat):Int)=(q.r:Int)+q.h-1 by omega]
    show some (Value.int .i64 ((q.c:Int)+q.w-1))=some (Value.int .i64 ((q.c+q.w-1:Nat):Int));rw[show((q.c+q.w-1:Nat):Int)=(q.c:Int)+q.w-1 by omega]
   | 3,_=>
    obtain rfl:(q.r-1,q.c)=p:=by simpa using hp
    refine⟨by show q.r-1<100000;omega,by show q.c<100000;omega,(xl.cell 6 _ rfl).trans ?_,xl.cell 7 _ rfl⟩;show some (Value.int .i64 (max ((q.r:Int)-1) 0))=some (Value.int .i64 ((q.r-1:Nat):Int));rw[show((q.r-1:Nat):Int)=max ((q.r:Int)-1) 0 by omega]
   | 4,_=>
    obtain rfl:(min (q.r+q.h) 2999,q.c)=p:=by simpa using hp
    refine⟨by show min (q.r+q.h) 2999<100000;omega,by show q.c<100000;omega,(xl.cell 8 _ rfl).trans ?_,xl.cell 9 _ rfl⟩;show some (Value.int .i64 (min ((q.r:Int)+q.h) 2999))=some (Value.int .i64 ((min (q.r+q.h) 2999:Nat):Int));rw[show((min (q.r+q.h) 2999:Nat):Int)=min ((q.r:Int)+q.h) 2999 by omega]
   | 5,_=>
    obtain rfl:(q.r,q.c-1)=p:=by simpa using hp
    refine⟨by show q.r<100000;omega,by show q.c-1<100000;omega,xl.cell 10 _ rfl,(xl.cell 11 _ rfl).trans ?_⟩;show some (Value.int .i64 (max ((q.c:Int)-1) 0))=some (Value.int .i64 ((q.c-1:Nat):Int));rw[show((q.c-1:Nat):Int)=max ((q.c:Int)-1) 0 by omega]
   | 6,_=>
    obtain rfl:(q.r,min (q.c+q.w) 699)=p:=by simpa using hp
    refine⟨by show q.r<100000;omega,by show min (q.c+q.w) 699<100000;omega,xl.cell 12 _ rfl,(xl.cell 13 _ rfl).trans ?_⟩;show some (Value.int .i64 (min ((q.c:Int)+q.w) 699))=some (Value.int .i64 ((min (q.c+q.w) 699:Nat):Int));rw[show((min (q.c+q.w) 699:Nat):Int)=min ((q.c:Int)+q.w) 699 by omega]
  have Wl:=zH (zA H4.out.2.1 H4.out.2.2.1);have HQ:=zH (zA H2.out.2.2.2.2.1 H2.out.2.2.2.2.2);have HE':=zH hE';clear hwl qX hps hE' H2 H4 H5 a0 a1 a2 a3 a4 a5 f0 f1 c0 c1 q1 q2 q3 q4
  go_loopw [84] (λ jv wr=>∃j:Nat,jv= .int .i64 j/\j<=7/\Hid (DS E' wr P D Dp T1 T2 H (13000030+20000*j) 800 X/\Kept E' wl wr)) (λ jv _=>10-(intOf jv).toNat)
  case atStart=>exact⟨0,rfl,aY _,by rw[<-yG.out];exact zH ⟨HL.out.1,Kept.refl _ _⟩⟩
  clear yG;obtain⟨j,rfl,hj,HI⟩:=hrel;by_cases hlt:j<7
  ·obtain⟨dj,kj⟩:=HI.out;obtain⟨dl,xr,D5,ni,kW,Nc,hpl,hpc⟩:=HL.out;obtain⟨p,hp⟩:∃p,ps[j]?=some p:=⟨_,bL (by omega)⟩;obtain⟨p1,p2,g0,g1⟩:=hpc j p hp;obtain⟨p,p'⟩:=p;have Gv:E' w5.heap.size:=by rw[HE'.out];exact .inr rfl
   have c0:wr.cell? (w5.heap.size,j*2)=some (.int .i64 (p:Int)):=by rw[<-g0];exact gq (kj.block _ Gv)
   have c1:wr.cell? (w5.heap.size,j*2+1)=some (.int .i64 (p':Int)):=by rw[<-g1];exact gq (kj.block _ Gv)
   have i1:(j:Int)<7:=by omega
   obtain⟨wx,hwx⟩:∃wx,wx=wr.alloc (.cells #[.int .i64 p,.int .i64 p'] 25):=⟨_,rfl⟩;have bx:Below wr wr wx:=hwx▸(aV _ _).alloc (aO _) _;have xx:ay wx wr #[.int .i64 p,.int .i64 p']:=hwx▸ay.new wr _ _;have sx:wx.heap.size=wr.heap.size+1:=by rw[hwx];simp
   have dx:DS (λ j=>E' j\/j=wr.heap.size) wx P D Dp T1 T2 H (13000030+20000*j) 800 X:=dj.wide bx (λ j hj=>by
    rcases hj with hj|hj
    ·exact .inl hj
    exact .inr ⟨by omega,by omega⟩) (λ j hj=>.inl hj)
   have HAS:=zH (PT dx Wl.out.2 p1 p2 (by omega));have b0:=xx.c0;have b1:=xx.c1
   have aD:(gI p p' X).length=if q.has p p'=true then 1 else 0:=by
    rw[Wl.out.1];show(List.filter _ [(bX 5 5,[q])]).length=_;by_cases hh:q.has p p'=true
    ·rw[if_pos hh];simp[hh]
    rw[if_neg hh];simp[hh]
   have HM:=zH (zA (kj.trans (dj.kept bx)) (zA (xr.ae (kj.block _ D5)) (zA bx (zA xx (zA ni (zA D5 aD))))));clear dj kj dl xr D5 ni kW Nc hpl hpc hp g0 g1 Gv bx xx sx dx aD HI;subst hwx
   go_wp2_with fail
   refine HAS.out.mono ?_;rintro e w7 ⟨ao,ac,rfl,_,_,d7,k7⟩;obtain⟨kj,xr,bx,xx,ni,D5,aD⟩:=HM.out;have x7:=(xr.next bx).ae (k7.block _ (.inl D5));have y7:=xx.ae (k7.block _ (.inr rfl));have c0:=x7.c0;have c1:=x7.c1;have c2:=x7.c2;have c3:=x7.c3;have b0:=y7.c0;have b1:=y7.c1;have GV:=zH (kH q HQ.out.1 p p' p1 p2 w7);have Wm:=zH (zA d7 (zA (kj.trans (k7.mono (λ j hj=>.inl hj))) ni));clear kj xr bx xx ni D5 d7 k7 x7 y7 HM HAS;rw[aD]
   have fin:∀w8,Below w7 w7 w8->Hid (DS E' w8 P D Dp T1 T2 H (13000030+20000*(j+1)) 800 X/\Kept E' wl w8):=λ w8 um=>by
    obtain⟨d7,kj,ni⟩:=Wm.out;have d8:=d7.next um;have k8:=d7.kept um;exact zH ⟨(d8.up (K:=13000030+20000*(j+1)) (by omega)).less (λ j hj=>.inl (.inl hj)) ni.1 ni.2.1 ni.2.2.1 ni.2.2.2,kj.trans (k8.mono (λ j hj=>.inl (.inl hj)))⟩
   have Nf:=zH fin;clear fin aD Wm
   cases hh:q.has p p' with
   | true=>
    rw[hh]at GV;clear hh;rw[if_pos rfl]
    go_wp2_with fail
    refine GV.out.mono ?_;rintro e w8 ⟨rfl,um⟩;have HN:=Nf.out w8 um;clear um GV Nf;go_wp2;go_roundw
    case rel=>exact⟨j+1,by go_num,by omega,HN⟩
    case measure=>simp only[intOf];omega
   | false=>
    rw[hh]at GV;clear hh;rw[if_neg (by decide)]
    go_wp2_with fail
    refine GV.out.mono ?_;rintro e w8 ⟨rfl,um⟩;have HN:=Nf.out w8 um;clear um GV Nf;go_wp2;go_roundw
    case rel=>exact⟨j+1,by go_num,by omega,HN⟩
    case measure=>simp only[intOf];omega
  obtain rfl:j=7:=by omega
  obtain⟨dj,kj⟩:=HI.out;obtain⟨dl,xr,D5,ni,kW,Nc,hpl,hpc⟩:=HL.out;have kk:=kW.trans (kj.mono Nc)
  have htr:kD wr:=λ u=>by
   have h1:=HQ.out.2 u;exact(gq (kk.block _ HQ.out.2.lt)).trans h1
  have HA:=zH (Vl wr htr (λ j=>j<W.heap.size) (λ j hj=>bZ hj kk.size));have HK:=zH kk;clear dj kj dl xr D5 ni kW Nc hpl hpc kk htr HI
  go_wp2_with fail
  refine HA.out.mono ?_;rintro e w9 ⟨rfl,k9⟩;have HK9:=zH (HK.out.trans k9);clear HA HK k9;go_wp2;go_ret;exact⟨rfl,HK9.out⟩
end Go.Proofs.YtgpmiliahonaoaaGreatDoor
