/- Facts on texts on pages. -/
import Derived.Test.YtgpmiliahonaoaaGreatDoorKTsEc
set_option maxRecDepth 100000
set_option maxHeartbeats 8000000
set_option linter.unusedSimpArgs false
open Go.Value renaming bool->a6,int->V,pointer->aq,slice->ad,tuple->a9
open Or renaming inl->O,inr->al
open List renaming length->Y
open Go.IntKind renaming u64->a7
open Go.Ending renaming returned->aw
open Go.Proofs.Tryz
namespace Go.Proofs.YtgpmiliahonaoaaGreatDoor
open Go.RowKit
open UK (str aF nth Only Row ay)
open Go.BigFrame
variable{w:World}{e g n h:Nat}{u:Option Addr}{i vs c d f:List UInt64}{T:Nat->Prop}
section
variable{W A:World}{a b p Ma o Mb q s y r t z:Nat}{j l v k m x:Option Addr}
theorem R3{d:Nat}(r:Row w e g (az i))(t:gQ T w (ad u (Y vs) d) (az vs))(j:n<=e)(k:n<=w.1.size)(o:0<Y vs)(q:Y i+Y vs<=100000) :
  ∃f c b,(Builtin.append_ #[88,88] 88 #[ad e (Y i) g,ad u (Y vs) d]).run prog w= .ok (ad (some ⟨f,0,none⟩) (Y i+Y vs) c) b/\Row b f c (az (i++vs))/\n<=f/\Below n w b:=by
 obtain⟨f,c,b,h,l,m⟩:=Rb (al ⟨e,rfl,r⟩) t o q;rcases m with⟨a,s⟩|⟨a,p⟩
 ·injection a with a
  injection a with a
  subst a;exact⟨_,c,b,h,l,j,s.below k j⟩
 exact⟨f,c,b,h,l,Z,p.mono k⟩
theorem kZ{d:Nat}{i vs:List Nat}(r:Row w e g (ints i))(t:gQ T w (ad u (Y vs) d) (ints vs))(j:n<=e)(k:n<=w.1.size)(o:0<Y vs)(q:Y i+Y vs<=100000) :
  ∃f c b,(Builtin.append_ #[57,57] 57 #[ad e (Y i) g,ad u (Y vs) d]).run prog w= .ok (ad (some ⟨f,0,none⟩) (Y i+Y vs) c) b/\Row b f c (ints (i++vs))/\n<=f/\Below n w b:=by
 obtain⟨f,c,b,h,l,m⟩:=eW (al ⟨e,rfl,r⟩) t o q;rcases m with⟨a,s⟩|⟨a,p⟩
 ·injection a with a
  injection a with a
  subst a;exact⟨_,c,b,h,l,j,s.below k j⟩
 exact⟨f,c,b,h,l,Z,p.mono k⟩
theorem rL{K H:List UInt64}{g B A C:Nat}{κ i:UInt64}(I:aZ p W a ⟨true,c,vs,[]⟩ j l v q s y)(h0:a<Ma)(J:aZ o W b ⟨true,d,f,[]⟩ k m x r t z)(h1:b<Mb)(X:a≠b)(bl:Below W W w)(r1:Row w g B (az K))(r2:Row w A C (az H))(hg:W.1.size<=g)(h3:W.1.size<=A)(N:K=c++d)(eV:H=vs++f)(P:Y K=n)(h5:Y H=n)(h6:31<=n)(hh:n/2=h)(hq:i=K.getD h 0) :
  zw p Ma o Mb W a b ⟨true,c,vs,[]⟩ ⟨true,d,f,[]⟩ κ (aw (a9 #[V a7 (i.toNat:Int),a6 false])) ((((w.setCell (a,1) (ad g h B)).setCell (a,2) (ad A h C)).setCell (b,1) (ad (g,h) (n-h) (B-h))).setCell (b,2) (ad (A,h) (n-h) (C-h))).drew /\
  (((((w.setCell (a,1) (ad g h B)).setCell (a,2) (ad A h C)).setCell (b,1) (ad (g,h) (n-h) (B-h))).setCell (b,2) (ad (A,h) (n-h) (C-h)))).cell? (g,h)=some (V a7 (i.toNat:Int)):=by
 have h7:=I.box.lt;have h8:=J.box.lt;have xa:=I.box.next bl;have xb:=J.box.next bl;have L:=(((xa.set 1 (ad g h B)).set 2 (ad A h C)).only (((Only.refl b _).set 1 (ad (g,h) (n-h) (B-h))).set 2 (ad (A,h) (n-h) (C-h))).drew X);have D:Only a w ((w.setCell (a,1) (ad g h B)).setCell (a,2) (ad A h C)):=((Only.refl a w).set 1 _).set 2 _;have E:Only b ((w.setCell (a,1) (ad g h B)).setCell (a,2) (ad A h C)) ((((w.setCell (a,1) (ad g h B)).setCell (a,2) (ad A h C)).setCell (b,1) (ad (g,h) (n-h) (B-h))).setCell (b,2) (ad (A,h) (n-h) (C-h))).drew:=(((Only.refl b _).set 1 _).set 2 _).drew;have M:=lh (((xb.only D (dJ X)).set 1 (ad (g,h) (n-h) (B-h))).set 2 (ad (A,h) (n-h) (C-h)));generalize (w.setCell (a,1) (ad g h B)).setCell (a,2) (ad A h C)=w2 at D E L M ⊢;have h2:∀(u:World) (T:Addr),u.drew.cell? T=u.cell? T:=λ u T=>rfl;rw[<-h2];generalize ((w2.setCell (b,1) (ad (g,h) (n-h) (B-h))).setCell (b,2) (ad (A,h) (n-h) (C-h))).drew=w3 at E L M ⊢;have Q:=(r1.only D (show g≠a from Z)).only E (show g≠b from Z);have rb:=(r2.only D (show A≠a from Z)).only E (show A≠b from Z);have hs:=bl.size;have h9:=D.size;have ha:=E.size
 have he:iF ⟨true,c,vs,[]⟩ ⟨true,d,f,[]⟩ κ=(⟨true,K.take h,H.take h,[]⟩,⟨true,K.drop h,H.drop h,[]⟩,i,false):=by
  have hl:¬Y c+Y d<=30:=by rw[N,zl]at P;omega
  have h4:(c++d).length/2=h:=by rw[<-N,P];exact hh
  unfold iF;rw[be rfl];dsimp only;rw[aE hl,h4,hq,N,eV]
 have R:=xz (S:=λ i=>(p<=i/\i<Ma)\/(o<=i/\i<Mb)\/(W.1.size<=i/\i<w3.1.size)) Q (al (al ⟨hg,Q.lt⟩));have S:=xz (S:=λ i=>(p<=i/\i<Ma)\/(o<=i/\i<Mb)\/(W.1.size<=i/\i<w3.1.size)) rb (al (al ⟨h3,rb.lt⟩));rw[dH,P]at R;rw[dH,h5]at S;refine⟨?_,?_⟩
 ·unfold zw;rw[he];refine⟨rfl,⟨_,_,_,L,O ⟨I.ge,h0⟩,?_,?_,⟨v,y,rfl,aR _,λ G u F=>(by cases F)⟩⟩,λ _=>⟨_,_,_,M,al (O ⟨J.ge,h1⟩),?_,?_,⟨x,z,rfl,aR _,λ G u F=>(by cases F)⟩⟩,(E.os.trans D.os).trans bl.os,(E.tape.trans D.tape).trans bl.tape,(E.output.trans D.output).trans bl.output,Z,λ G F=>?_⟩
  ·have:=R.take h Z;rw[KD]at this;exact this
  ·have:=S.take h Z;rw[KD]at this;exact this
  ·have:=R.drop h Z;rw[KC,fB]at this;exact this
  ·have:=S.drop h Z;rw[KC,fB]at this;exact this
  have nA:G≠a:=λ e=>F.2 (O (by rw[e];exact⟨I.ge,h0⟩));have nB:G≠b:=λ e=>F.2 (al (by rw[e];exact⟨J.ge,h1⟩));rw[E.block G Z nB,D.block G Z nA];exact bl.block G F.1
 refine Q.at' h _ (tO _ _ _ ?_);rw[hq,fV,bK Z];rfl
theorem wi(ha:zu p Ma W a ⟨true,c,vs,[]⟩ j l v q s y)(hb:zu o Mb W b ⟨true,d,f,[]⟩ k m x r t z)(EO:Ma<=o)(G:Y vs=Y c)(E:Y f=Y d)(p1:0<Y c)(p2:0<Y d)(D:Y c+Y d=n)(N:31<=n)(Cu:n<=1000)(S:n/2=h)(κ:UInt64) :
  Calls prog 258 #[aq a,aq b,V a7 κ.toNat] W (zw p Ma o Mb W a b ⟨true,c,vs,[]⟩ ⟨true,d,f,[]⟩ κ):=by
 obtain⟨i,P,h8⟩:=ha;obtain⟨A,Q,h9⟩:=hb;have h1:a≠b:=by have:=A.ge;omega
 have mq:h<=1000:=Z
 have hg:(n:Int)/2=(h:Int):=Z
 have EP:Int.tdiv (n:Int) 2=(h:Int):=by rw[nP (Int.natCast_nonneg n)];exact hg
 have n2:¬(n:Int)<=30:=Z
 have n0:(Y c:Int)+(Y d:Int)=(n:Int):=Z
 have a0:=i.box.c0;have a1:=i.box.c1;have b1:=A.box.c1;have H:∀w,Below W W w->w.cell? (a,1)=some (ad j (Y c) q)/\w.cell? (b,1)=some (ad k (Y d) r)/\w.cell? (a,2)=some (ad l (Y vs) s)/\w.cell? (b,2)=some (ad m (Y f) t):=λ w bl=>⟨(i.box.next bl).cell 1 _ rfl,(A.box.next bl).cell 1 _ rfl,(i.box.next bl).cell 2 _ rfl,(A.box.next bl).cell 2 _ rfl⟩;have wa:gQ (aG j) W (ad j (Y c) q) (az c):=by have:=i.k.win (S:=aG j) (λ _ h=>h);rw[dH]at this;exact this
 have wv:gQ (aG l) W (ad l (Y vs) s) (az vs):=by have:=i.v.win (S:=aG l) (λ _ h=>h);rw[dH]at this;exact this
 have wb:gQ (aG k) W (ad k (Y d) r) (az d):=by have:=A.k.win (S:=aG k) (λ _ h=>h);rw[dH]at this;exact this
 have ww:gQ (aG m) W (ad m (Y f) t) (az f):=by have:=A.v.win (S:=aG m) (λ _ h=>h);rw[dH]at this;exact this
 have CZ:=zH (λ (w:World) (bl:Below W W w)=>(show Calls prog 265 #[ad j (Y c) q] w (Re w c)from KA (wa.below bl (λ _ h=>i.k.lt h)) (λ u R=>cB (i.k.lt R) bl.size) p1 Z));have KU:=zH (λ (w:World) (bl:Below W W w)=>(show Calls prog 265 #[ad l (Y vs) s] w (Re w vs)from KA (wv.below bl (λ _ h=>i.v.lt h)) (λ u R=>cB (i.v.lt R) bl.size) Z Z))
 have HA1:=zH (λ (w B:World) (bl:Below W W w) (e g:Nat) (T:Below w w B) (r0:Row B e g (az c)) (h0:w.1.size<=e)=>(show ∃u C L,(Builtin.append_ #[88,88] 88 #[ad e (Y c) g,ad k (Y d) r]).run prog B= .ok (ad (some ⟨u,0,none⟩) (Y c+Y d) C) L/\Row L u C (az (c++d))/\w.1.size<=u/\Below w B L from
  R3 r0 (wb.below (bl.trans (T.mono bl.size)) (λ _ h=>A.k.lt h)) h0 T.size p2 Z))
 have HA2:=zH (λ (w B:World) (bl:Below W W w) (e g:Nat) (T:Below w w B) (r0:Row B e g (az vs)) (h0:w.1.size<=e)=>(show ∃u C L,(Builtin.append_ #[88,88] 88 #[ad e (Y vs) g,ad m (Y f) t]).run prog B= .ok (ad (some ⟨u,0,none⟩) (Y vs+Y f) C) L/\Row L u C (az (vs++f))/\w.1.size<=u/\Below w B L from
  R3 r0 (ww.below (bl.trans (T.mono bl.size)) (λ _ h=>A.v.lt h)) h0 T.size Z Z))
 have HE:=cf i P A Q h1 G E D N S;have n1:IntKind.i64.wrap ((Y c:Int)+(Y d:Int))=(n:Int):=by rw[n0];exact CU _ Cu
 have QI:wrap64 (h:Int)=(h:Int):=CS _ mq;have hm:IntKind.i64.wrap (h:Int)=(h:Int):=CU _ mq;clear h8 h9 i A wa wv wb ww EO P Q p1 p2 G E S N Cu
 go_enter func258,ntmps258
 go_upto_region 3 with(fail)
 go_cut [29] (λ dv wx=>dv=a6 false/\∃h3,wx=W.drewN h3)
 case first=>
  go_wp2_with fail
  go_quiet (fail)
  go_wp2_with fail
  go_meet
  case rel=>exact⟨by go_simp,_,rfl⟩
 case rest=>
 obtain⟨rfl,hcut⟩:=hcut;have bl:Below W W wc.drew:=by obtain⟨h3,rfl⟩:=hcut;exact(UK.dN (aU _ _) h3).drew
 clear a0 a1 b1 hcut
 go_upto_region 5 with(fail)
 go_cut [8,9] (λ x8 x9 wx=>∃u C M F,x8=ad (some ⟨u,0,none⟩) n C/\x9=ad (some ⟨M,0,none⟩) n F/\Row wx u C (az (c++d))/\Row wx M F (az (vs++f))/\W.1.size<=u/\W.1.size<=M/\Below W W wx)
 case first=>
  have h7:=H _ bl;refine wp_region_any (by kernel_rfl) ?_;refine zT 0 ?_;refine zT 1 ?_;refine zT 2 ?_;refine zT 5 ?_;refine zT 6 ?_;refine zT 7 ?_;refine zT 10 ?_;refine zT 11 ?_;refine zT 12 ?_;refine zT 15 ?_;refine zT 16 ?_;refine zT 17 ?_;refine zV (w:=wc.drew) (λ B=>B.cell? (a,1)=some (ad j (Y c) q)/\B.cell? (b,1)=some (ad k (Y d) r)/\B.cell? (a,2)=some (ad l (Y vs) s)/\B.cell? (b,2)=some (ad m (Y f) t)) 99 (by exact h7) λ K=>?_;refine zU 3 K ?_;refine zU 8 K ?_;refine zU 13 K ?_;refine zU 18 K ?_;clear K;refine zL 4 λ h2 J=>?_;go_simp;refine(CZ.out _ bl).mono ?_;rintro h6 w4 ⟨e,g,rfl,r0,h0,sV⟩
  (try dsimp only)
  have OI:Below W W w4:=bl.trans (sV.mono bl.size);obtain⟨u,C,w5,e5,r5,hi,vo⟩:=HA1.out _ _ bl e g sV r0 h0;refine zK J ?_ (λ _=>H _ OI);refine zL 9 λ h2 J=>?_;refine UK.aM e5 rfl rfl rfl (by simp[Act.eval]) (by simp[Act.eval]) ?_;have I:Below W W w5:=OI.trans (vo.mono bl.size);refine zK J ?_ (λ _=>H _ I);refine zL 14 λ h2 J=>?_;go_simp;refine(KU.out _ I).mono ?_;rintro h6 hk ⟨g1,c1,rfl,r1,hh,EQ⟩
  (try dsimp only)
  have Gx:Below W W hk:=I.trans (EQ.mono I.size);obtain⟨M,F,hl,e19,hj,Wu,Js⟩:=HA2.out _ _ I g1 c1 EQ r1 hh;refine zK J ?_ (λ _=>H _ Gx);refine zL 19 λ h2 J=>?_;refine UK.aM e19 rfl rfl rfl (by simp[Act.eval]) (by simp[Act.eval]) ?_;have xM:Below W W hl:=Gx.trans (Js.mono I.size);refine zK J ?_ (λ _=>H _ xM);refine zM 20 ?_ (λ _=>H _ xM);refine zM 21 ?_ (λ _=>H _ xM);refine Cq (by kernel_rfl) ?_ _
  go_wp2_with fail
  go_meet;obtain⟨i,P,A,Q,h1,G,E,D,N,S⟩:=HE.out;exact⟨u,C,M,F,by first|rfl|rw[D],by first|rfl|rw[G,E,D]|rw[E,D]|rw[D],r5.ae (aT EQ.size Js.size) ((Js.block _ r5.lt).trans (EQ.block _ r5.lt)),hj,aT bl.size hi,aT I.size Wu,xM⟩
 case rest=>
 obtain⟨u,C,M,F,rfl,rfl,r1,r2,R,h4,rU⟩:=hcut;obtain⟨i,P,A,Q,h1,G,E,D,N,S⟩:=HE.out;obtain⟨h5,hq⟩:∃h5:UInt64,h5=(c++d).getD h 0:=⟨_,rfl⟩;have KW:Below W W wc.drew:=rU.drew;have xa:=i.box.next KW;have xb:=A.box.next KW;have hc:n<=C:=by have:=r1.le;rw[dH,zl,D]at this;exact this
 have he:n<=F:=by have:=r2.le;rw[dH,zl,G,E,D]at this;exact this
 obtain⟨fin,cq⟩:=rL (κ:=κ) (Ma:=Ma) (Mb:=Mb) i P A Q h1 rU r1 r2 R h4 rfl rfl (by rw[zl];exact D) (by rw[zl,G,E];exact D) N S hq;have hn:h<n:=Z
 have HF:=zH fin;have X:=i.box.next rU;have OL:=A.box.next rU;have q1:=xa.cell 1 _ rfl;have q2:=X.cell 2 _ rfl;have q3:=OL.cell 1 _ rfl;have q4:=OL.cell 2 _ rfl;have f1:=xa.free 1;have f2:=X.free 2;have f3:=OL.free 1;have f4:=OL.free 2;have ho:=X.cell 1 _ rfl;have f10:=X.free 1;have i1:(h:Int)<=(C:Int):=Int.ofNat_le.2 Z;have i2:(h:Int)<=(F:Int):=Int.ofNat_le.2 Z;have i3:(h:Int)<=(n:Int):=Int.ofNat_le.2 Z;have i4:(h:Int)<(n:Int):=Int.ofNat_lt.2 Z;have i5:¬(C=h):=Z
 have i6:¬(F=h):=Z
 have Wv:=zH cq;clear fin cq KW xa xb X OL hc he i P A Q G E D N S hq r1 r2 rU R h4 bl H CZ KU HA1 HA2 HE n1 n2
 go_wp2_with fail
 refine wp_region_any (by kernel_rfl) ?_;refine zT 0 ?_;refine zT 1 ?_;refine zT 2 ?_;refine zT 3 ?_;refine zT 4 ?_;refine zT 5 ?_;refine zT 6 ?_;refine zT 7 ?_;refine zT 8 ?_;refine zT 9 ?_;refine zT 10 ?_;refine zT 11 ?_;refine zT 12 ?_;refine zT 13 ?_;refine zT 14 ?_;refine zT 15 ?_;refine zV (w:=wc.drew) (λ B=>True) 16 (by exact trivial) λ K=>?_;clear K;refine zM 16 ?_;refine zM 17 ?_;refine zM 18 ?_;refine zM 19 ?_;refine zM 20 ?_;refine zM 21 ?_;refine zM 22 ?_;refine zM 23 ?_;refine zM 24 ?_;refine zM 25 ?_;refine zM 26 ?_;refine zM 27 ?_;refine Cq (by kernel_rfl) ?_ _;have cq:=Wv.out
 go_wp2_with fail
 go_ret2;exact HF.out
end
