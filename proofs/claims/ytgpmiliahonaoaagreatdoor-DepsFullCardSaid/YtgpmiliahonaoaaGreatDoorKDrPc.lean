/- Facts on texts on pages. -/
import Derived.Test.YtgpmiliahonaoaaGreatDoorKDrOc
set_option maxRecDepth 100000
set_option maxHeartbeats 8000000
set_option linter.unusedSimpArgs false
open Go.Value renaming bool->a6,int->V,pointer->aq,slice->ad,tuple->a9
open Go.IntKind renaming i64->U
open Go.Ending renaming returned->aw
open Or renaming inl->O,inr->al
open List renaming length->Y
open Go.Proofs.Tryz
namespace Go.Proofs.YtgpmiliahonaoaaGreatDoor
open Go.RowKit Go.BigFrame
open UK (str aF nth Only Row ay)
open DP (Rc bU aS jc bi jW eX)
variable{X:List bU}
variable{xs:List AM}{E T:Nat->Prop}{W W':World}{xo:Option Addr}{xc:Nat}{g:List Nat}{f G:Nat->List UInt8}
theorem AF{a b:Nat}(c:b<4294967296):fC (bi a b)=(a,b):=by
 unfold fC DP.bi;rw[show(a*4294967296+b)/4294967296=a from Z,show(a*4294967296+b)%4294967296=b from Z]
theorem Zw(a:∀y∈xs,y.c<4294967296):(xs.map gM).map (λ x=>fC x.1)=xs.map λ x=>(x.r,x.c):=by
 rw[List.map_map];exact List.map_congr_left (λ x b=>AF (a x b))
structure qb(E:Nat->Prop)(W:World)(xo:Option Addr)(xc:Nat)(xs:List AM)(X:List bU):Prop where
 na:NA W xo xc xs
 sub:∀x∈xs,RX W x.ro x.rc x.l
 mem:∀j,aG xo j->E j
 vP:∀x∈xs,∀j,aG x.ro j->E j
 is:xs.map gM=X
 Ef:∀y∈xs,y.c<4294967296
theorem qb.of(h:qb E W xo xc xs X)(k:Kept E W W'):qb E W' xo xc xs X:=
 ⟨h.na.ae k.size (λ j a=>k.block j (h.mem j a)),λ x b=>(h.sub x b).ae k.size (λ j a=>k.block j (h.vP x b j a)),h.mem,h.vP,h.is,h.Ef⟩
theorem qb.next(h:qb E W xo xc xs X)(a:Below W W W'):qb E W' xo xc xs X:=
 ⟨h.na.ae a.size (λ j b=>a.block j (h.na.lt b)),λ x c=>(h.sub x c).ae a.size (λ j b=>a.block j ((h.sub x c).lt b)),h.mem,h.vP,h.is,h.Ef⟩
theorem qb.more(h:qb E W xo xc xs X)(b:∀j,E j->T j):qb T W xo xc xs X:=
 ⟨h.na,h.sub,λ j a=>b j (h.mem j a),λ x c j a=>b j (h.vP x c j a),h.is,h.Ef⟩
section
variable{P D a d e H k q b c root:Nat}{A:AP}
theorem GP(h:PZ E W P D A k) :
  Calls prog 28 #[aq P] W λ e b=>e=aw (V U 0)/\b=W:=by
 obtain⟨c,M,n,q,d,a,g,f⟩:=h;have:=oh a.pd.pool;rw[a.aj]at this;exact this
theorem Ds(h:DZ E W P D a d e H k A q b c root)(r:DI A g f b c root (fX X) G)(w:kY X)(i j:Nat)(x:i<100000)(y:j<100000)(z:k+7000<900000000) :
  Calls prog 69 #[aq a,.agg #[V U i,V U j]] W λ p o=>∃l n,p=aw (a9 #[ad l (jW X (bi i j)).length n,V U 0])/\RX o l n (jW X (bi i j))/\PZ E o P D A (k+7000)/\Kept E W o:=by
 obtain⟨J,K,C,ps2,M,N,L,Y,m,B,I⟩:=r;obtain⟨s,F⟩:=Hq w (bi i j);refine(Ah h.one (h.bd.cell 2 _ rfl) m B i j x y (rl:=jW X (bi i j)) rfl s Z z).mono ?_;rintro p o ⟨l,n,rfl,t,_,u,v⟩;exact⟨l,n,rfl,t,u,v⟩
theorem mx(h4:DZ E W P D a d e H k A q b c root)(s:DI A g f b c root (fX X) (gX X))(r:kY X)(hx:qb E W xo xc xs X)(ha hb:Int)(wv:Value)(op:Bool)(hk:k+500000<900000000) :
  Calls prog 19 #[.agg #[aq P,aq a,ad xo (Y xs) xc,wv,a6 op],.agg #[V U ha,V U hb]] W λ C w'=>C=aw (V U 0)/\PZ E w' P D A (k+500000)/\Kept E W w':=by
 obtain⟨J,he⟩:∃J,J=W.alloc (.cells #[aq P,aq a,ad xo (Y xs) xc,wv,a6 op] 43):=⟨_,rfl⟩;obtain⟨w1,hp⟩:∃w1,w1=J.alloc (.cells #[V U ha,V U hb] 25):=⟨_,rfl⟩;have b0:Below W W J:=he▸(aU _ _).alloc (aH _) _;have b1:Below J J w1:=hp▸(aU _ _).alloc (aH _) _;have x0:ay J W #[aq P,aq a,ad xo (Y xs) xc,wv,a6 op]:=he▸ay.new W _ _;have x1:ay w1 J #[V U ha,V U hb]:=hp▸ay.new J _ _;have s0:J.1.size=W.1.size+1:=by rw[he];simp
 rw[s0]at x1;have je:=b0.trans (b1.mono b0.size);have MJ:=x0.next b1;have HP:=zH (YU ha hb w1);have c0:=x1.c0;have c1:=x1.c1;have HH:=bs h4 s r hx je MJ x1;clear h4 s r hx b0 b1 x0 x1 s0 je MJ;subst hp he
 go_enter func19,ntmps19
 go_wp2_with fail
 refine HP.out.mono ?_;rintro C w2 ⟨x,y,x3,Im,rfl,h8⟩;obtain⟨h4,s,r,hx,je,MJ,x1⟩:=HH.out;have u0:=MJ.next h8;have u1:=x1.next h8;have c0:=u1.c0;have c1:=u1.c1;have f0:=u1.free 0;have f1:=u1.free 1;obtain⟨w3,hg⟩:∃w3,w3=(w2.setCell ⟨W.1.size+1,0,none⟩ (V U x)).setCell ⟨W.1.size+1,1,none⟩ (V U y):=⟨_,rfl⟩;have p:ay w3 (W.1.size+1) #[V U x,V U y]:=by rw[hg];exact(u1.set 0 _).set 1 _
 have n:ay w3 W #[aq P,aq a,ad xo (Y xs) xc,wv,a6 op]:=by rw[hg];exact(u0.far _ Z).far _ Z
 have o3:Only (W.1.size+1) w2 w3:=by rw[hg];exact((Only.refl _ _).set 0 _).set 1 _
 have hc:Below W W w3:=(je.trans (h8.mono je.size)).trans (o3.below (aT je.size h8.size) Z);obtain⟨R,h7⟩:∃R:Nat->Prop,R=λ j=>E j\/j=W.1.size\/j=W.1.size+1:=⟨_,rfl⟩;have v:∀j,E j->R j:=λ j h=>by rw[h7];exact O h
 have u:DZ R w3 P D a d e H k A q b c root:=h4.wide hc (λ j h=>by
  rw[h7]at h;rcases h with h|rfl|rfl
  ·exact O h
  ·exact al ⟨aH _,n.lt⟩
  exact al ⟨Z,p.lt⟩) v
 have Zx:=zH (yd u s r Z);have d1:=n.c1;have HE:Hid ((∀j,E j->R j)/\R W.1.size/\R (W.1.size+1)):=zH ⟨v,by rw[h7];exact al (O rfl),by rw[h7];exact al (al rfl)⟩;have H3:=br u n p (h4.pz.kept hc) (hx.next hc);clear h4 s r hx je MJ x1 u0 u1 n p o3 hc v u h7 HP h8;subst hg
 go_wp2_with fail
 refine Zx.out.mono ?_;rintro C w4 ⟨ao,ac,rfl,MK,_,p4,N⟩;obtain⟨u,n,p,o,hu⟩:=H3.out;obtain⟨v,L,M⟩:=HE.out;obtain⟨_,s,r,_⟩:=HH.out;have xR:DZ (λ j=>R j\/aG ao j) w4 P D a d e H (k+400000) A q b c root:=⟨p4,u.bd.ae (N.block _ u.md),O u.md,u.b1.ae (N.block _ u.m1),O u.m1,u.b2.ae (N.block _ u.m2),O u.m2,u.bh.ae (N.block _ u.mh),O u.mh⟩;have t0':=n.ae (N.block _ L);have t1':=p.ae (N.block _ M);have d1:=t0'.c1;have d2:=t1'.c0;have d3:=t1'.c1;have HAS:=zH (YF xR s r (a:=x) (b:=y) Z Z Z);have H4:=bw xR t0' t1' MK (o.trans (N.mono v)) ((hu.more v).of N);clear u n p o hu v L M s r xR t0' t1' MK p4 N H3 Zx
 go_wp2_with fail
 refine HAS.out.mono ?_;rintro C w5 ⟨bo,bc,rfl,B,_,p5,k5⟩;obtain⟨xR,n,p,MK,o,hv⟩:=H4.out;obtain⟨v,L,M⟩:=HE.out;obtain⟨_,s,r,_⟩:=HH.out;have t0':=n.ae (k5.block _ (O L));have t1':=p.ae (k5.block _ (O M));have ML:CX w5 ao ac (X.map λ x=>fC x.1):=MK.ae k5.size (λ j h=>k5.block j (al h));have t:=(hv.more (λ j h=>Or.inl (b:=aG ao j) h)).of k5;have K:=xR.of (p5.less (λ j h=>O h)) k5;have h6:Y xs=Y X:=by rw[<-t.is,bS]
 have sS:=r.few;have h5:(eX x y X).length=(lC x y xs).length:=by rw[<-t.is,<-Zo,bS]
 have TY:=zH (Zu (L:=X.map λ x=>fC x.1) ML t.na Z (by rw[<-t.is];exact Zw t.Ef));rw[bS]at TY;have d0:=t0'.c0;have d1:=t0'.c2;have d2:=t1'.c0;have d3:=t1'.c1;have H5:=bw K t0' t1' B (o.trans (k5.mono (λ j h=>O (v j h)))) t;have HL:=bm h6 sS h5;clear xR n p MK o hv v L M s r t0' t1' ML t K h6 sS h5 B p5 k5 H4 HAS
 go_wp2_with fail
 refine TY.out.mono ?_;rintro C w6 ⟨rfl,h9⟩;obtain⟨K,n,p,B,o,t⟩:=H5.out;obtain⟨_,s,r,_⟩:=HH.out;obtain⟨h6,sS,h5⟩:=HL.out;have t0':=n.next h9;have t1':=p.next h9;have hh:=t.next h9;have d0:=t0'.c0;have d1:=t0'.c2;have d2:=t1'.c0;have d3:=t1'.c1
 have ht:∀z∈xs,(∀x2∈z.l,x2.ok)/\Y z.l<=8:=λ z hz=>by
  have hm:gM z∈X:=by rw[<-hh.is];exact bL.2 ⟨z,hz,rfl⟩
  exact⟨(r.ok.good _ hm).1,r.DJ _ hm⟩
 have Qs:=zH (K2 hh.na hh.sub ht Z (a:=x) (b:=y) Z Z);have H6:=zH h9;clear K n p B o t s r h6 sS h5 t0' t1' hh ht h9 TY
 go_wp2_with fail
 refine Qs.out.mono ?_;rintro C w7 ⟨g7,c7,rfl,Zy,_,mF⟩;obtain⟨K,n,p,B,o,t⟩:=H5.out;obtain⟨h6,sS,h5⟩:=HL.out;have A9:=H6.out.trans (mF.mono H6.out.size);have Zz:CX w7 bo bc ((eX x y X).map λ x=>fC x.1):=B.ae A9.size (λ j h=>A9.block j (B.lt h))
 have MM:(lC x y xs).length<=1000:=by
  have:=List.length_filter_le (λ z:AM=>z.l.any λ q=>q.has x y) xs;unfold lC;omega
 have HS2:=zH (Zu Zz Zy MM (by
  rw[<-t.is,<-Zo];exact Zw (λ z hz=>t.Ef z (List.mem_filter.1 hz).1)))
 rw[bS]at HS2;have t0':=n.next A9;have d0:=t0'.c0;have H7:=zH A9;clear K n p B o t h6 sS h5 A9 Zz MM t0' mF Zy Qs H6
 go_wp2_with fail
 refine HS2.out.mono ?_;rintro C w8 ⟨rfl,wR⟩;obtain⟨K,n,p,B,o,t⟩:=H5.out;have y9:=H7.out.trans (wR.mono H7.out.size);have t0':=n.next y9;have t1':=p.next y9;have d0:=t0'.c0;have S:=K.next y9;have MN:=zH (GP S.pz);have TZ:=br S t0' t1' (o.trans ((K.pz.kept y9).mono (λ j h=>O (HE.out.1 j h)))) (t.next y9);clear K n p B o t y9 t0' t1' S wR HS2 H7 H5
 go_wp2_with fail
 refine MN.out.mono ?_;rintro C x4 ⟨rfl,rfl⟩;obtain⟨S,n,p,o,MI⟩:=TZ.out;obtain⟨_,s,r,_⟩:=HH.out;have d1:=n.c1;have d2:=p.c0;have d3:=p.c1;have Ua:=zH (Ds S s r x y Z Z Z);obtain⟨l0,hn⟩:∃l0,l0=jW X (bi x y):=⟨_,rfl⟩;rw[<-hn]at Ua;have Z0:=zH hn;clear S n p o MI s r hn MN d0
 go_wp2_with fail
 refine Ua.out.mono ?_;rintro C w9 ⟨go,gc,rfl,JY,F,k9⟩;obtain⟨S,n,p,o,MI⟩:=TZ.out;obtain⟨v,L,M⟩:=HE.out;obtain⟨_,s,r,_⟩:=HH.out;have t0':=n.ae (k9.block _ (O L));have t1':=p.ae (k9.block _ (O M));have Q:=MI.of k9;have d1:=t0'.c2;have d2:=t1'.c0;have d3:=t1'.c1;have hy:=HL.out.1;have sS:=HL.out.2.1;have Z4:=zH (C3 (r:=x) (k:=y) Q.na Z Q.Ef Z (by rw[Q.is];exact r.ok.up));have H9:=bp JY F (o.trans (k9.mono (λ j h=>O (v j h)))) Q;clear S n p o MI v L M s r t0' t1' Q hy sS JY F k9 Ua TZ
 go_wp2_with fail
 refine Z4.out.mono ?_;rintro C w ⟨ro,l,rc,rfl,hl,hs,I⟩;obtain⟨JY,F,o,Q⟩:=H9.out;have hw:l=l0:=by rw[hl,Q.is,Z0.out]
 subst hw;have JZ:RX w go gc l:=JY.ae I.size (λ j h=>I.block j (JY.lt h))
 have T:l=[]\/RX w ro rc l:=by
  rcases hs with⟨h1,_⟩|⟨z,hz,h1,h2,h3⟩
  ·exact O h1
  have:=(Q.sub z hz);rw[h1,h2,h3]at this;exact al (this.ae I.size (λ j h=>I.block j (this.lt h)))
 have Ck:Y l<=8:=by rw[Z0.out];exact(Hq HH.out.2.2.1 _).2
 have HF:=br F o I JZ T;clear JY F o Q hl hs I JZ T Z4 H9 HL HH
 go_wp2_with fail
 go_loopw [84] (λ iv wr=>∃(i hj:Nat),iv=V U i/\i<=Y l/\wr=w.drewN hj) (λ iv _=>2000-(intOf iv).toNat)
 case atStart=>exact⟨0,0,rfl,aR _,rfl⟩
 obtain⟨i,hj,rfl,hi,rfl⟩:=hrel;by_cases ho:i<Y l
 ·obtain⟨G,hq⟩:∃G,l[i]?=some G:=⟨_,bK ho⟩;obtain⟨F,o,I,JZ,T⟩:=HF.out;rcases T with h0|T
  ·rw[h0]at ho;exact absurd ho (by simp)
  obtain⟨g1,rfl,a0,a1,a2,a3⟩:=RX.four JZ hq;obtain⟨g2,rfl,b0,b1,b2,b3⟩:=RX.four T hq;have c0:∀m,(w.drewN m).cell? (g1,i*4)=some (V U G.r):=λ _=>a0;have c1:∀m,(w.drewN m).cell? (g1,i*4+1)=some (V U G.c):=λ _=>a1;have c2:∀m,(w.drewN m).cell? (g1,i*4+2)=some (V U G.h):=λ _=>a2;have c3:∀m,(w.drewN m).cell? (g1,i*4+3)=some (V U G.w):=λ _=>a3;have e0:∀m,(w.drewN m).cell? (g2,i*4)=some (V U G.r):=λ _=>b0;have L:∀m,(w.drewN m).cell? (g2,i*4+1)=some (V U G.c):=λ _=>b1;have M:∀m,(w.drewN m).cell? (g2,i*4+2)=some (V U G.h):=λ _=>b2;have e3:∀m,(w.drewN m).cell? (g2,i*4+3)=some (V U G.w):=λ _=>b3;have q1:(i:Int)<Y l:=Z
  clear F o I JZ T a0 a1 a2 a3 b0 b1 b2 b3 hq
  go_wp2_with fail
  go_quiet (fail)
  go_wp2;go_roundw
  case rel=>exact⟨i+1,_,by go_num,Z,rfl⟩
  case measure=>simp only[intOf];omega
 obtain rfl:i=Y l:=Z
 go_wp2;go_ret
 obtain⟨F,o,I,JZ,T⟩:=HF.out;have hr:Below w9 w9 (w.drewN hj):=UK.dN I hj;exact⟨rfl,((F.next hr).up Z).less (λ j h=>O (HE.out.1 j h)),o.trans ((F.kept hr).mono (λ j h=>O (HE.out.1 j h)))⟩
end
