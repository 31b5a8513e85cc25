/- Facts on texts on pages. -/
import Derived.Test.YtgpmiliahonaoaaGreatDoorKTsFc
set_option maxRecDepth 100000
set_option maxHeartbeats 8000000
set_option linter.unusedSimpArgs false
open Go.Value renaming bool->a6,int->V,pointer->aq,slice->ad,tuple->a9
open Go.IntKind renaming u64->a7
open Go.Ending renaming returned->aw
open Or renaming inl->O,inr->al
open List renaming length->Y
open Go.Proofs.Tryz
namespace Go.Proofs.YtgpmiliahonaoaaGreatDoor
open Go.RowKit
open UK (str aF nth Only Row ay)
open Go.BigFrame
variable{w:World}{l n m:Nat}{v κ:UInt64}{c ls K:List UInt64}{d ds C:List Nat}
section
variable{W u:World}{a b e Ma Nb Mb k r j p t o:Nat}{g q f i s h:Option Addr}
theorem nJ(h:ay w l #[V a7 (v.toNat:Int)]):gQ (λ g=>g=l) w (ad l 1 1) (az [v]):=
 ⟨_,1,rfl,aH _,λ j u a=>⟨l,0,rfl,rfl,by
  cases j with
  | zero=>rw[fB];exact(h.cell 0 _ rfl).trans a
  | succ j=>cases a⟩⟩
theorem Cm{o s p t:Nat}(x:aZ e W a ⟨false,c,[],d⟩ g q f k r j)(A:a<Ma)(bl:Below W W w)(T:Row w o s (az K))(X:Row w p t (ints C))(N:W.1.size<=o)(P:W.1.size<=p)(L:K=c++κ::ls)(z:C=d++ds)(R:Y K=n)(B:Y C=m)(I:m<=40) :
  zw e Ma Nb Mb W a b ⟨false,c,[],d⟩ ⟨false,ls,[],ds⟩ κ (aw (a9 #[V a7 0,a6 true])) ((w.setCell (a,1) (ad o n s)).setCell (a,3) (ad p m t)):=by
 have h0:=x.box.lt;have xa:=x.box.next bl;have y:=(xa.set 1 (ad o n s)).set 3 (ad p m t);have l:Only a w ((w.setCell (a,1) (ad o n s)).setCell (a,3) (ad p m t)):=((Only.refl a w).set 1 _).set 3 _;generalize (w.setCell (a,1) (ad o n s)).setCell (a,3) (ad p m t)=F at l y ⊢;have D:=T.only l (show o≠a from Z);have E:=X.only l (show p≠a from Z);have hs:=bl.size;have h1:=l.size
 have M:iF ⟨false,c,[],d⟩ ⟨false,ls,[],ds⟩ κ=(⟨false,K,[],C⟩,⟨false,ls,[],ds⟩,0,true):=by
  have Q:(d++ds).length<=40:=by rw[<-z,B];exact I
  unfold iF;rw[aE (by simp)];dsimp only;rw[be Q,L,z]
 have G:=xz (S:=λ i=>(e<=i/\i<Ma)\/(Nb<=i/\i<Mb)\/(W.1.size<=i/\i<F.1.size)) D (al (al ⟨N,D.lt⟩));have H:=xz (S:=λ i=>(e<=i/\i<Ma)\/(Nb<=i/\i<Mb)\/(W.1.size<=i/\i<F.1.size)) E (al (al ⟨P,E.lt⟩));rw[dH,R]at G;rw[iC,B]at H;unfold zw;rw[M];refine⟨rfl,⟨_,_,_,y,O ⟨x.ge,A⟩,G,⟨q,r,rfl,aR _,λ v h2 u=>(by cases u)⟩,H⟩,(λ h=>by cases h),l.os.trans bl.os,l.tape.trans bl.tape,l.output.trans bl.output,Z,λ v u=>?_⟩;have S:v≠a:=λ J=>u.2 (O (by rw[J];exact⟨x.ge,A⟩));rw[l.block v Z S];exact bl.block v u.1
theorem Ih{v A z B l:Nat}{y:UInt64}(H:aZ e W a ⟨false,c,[],d⟩ g q f k r j)(X:a<Ma)(I:aZ Nb W b ⟨false,ls,[],ds⟩ i s h p t o)(h0:b<Mb)(T:a≠b)(bl:Below W W w)(r1:Row w v A (az K))(r2:Row w z B (ints C))(hg:W.1.size<=v)(h2:W.1.size<=z)(eK:K=c++κ::ls)(N:C=d++ds)(hn:Y K=n)(P:Y C=m)(h7:m=n+1)(h4:41<=m)(hh:m/2=l)(hq:y=K.getD (l-1) 0) :
  zw e Ma Nb Mb W a b ⟨false,c,[],d⟩ ⟨false,ls,[],ds⟩ κ (aw (a9 #[V a7 (y.toNat:Int),a6 false])) ((((w.setCell (a,1) (ad v (l-1) A)).setCell (a,3) (ad z l B)).setCell (b,1) (ad (v,l) (n-l) (A-l))).setCell (b,3) (ad (z,l) (m-l) (B-l))).drew /\
  (((((w.setCell (a,1) (ad v (l-1) A)).setCell (a,3) (ad z l B)).setCell (b,1) (ad (v,l) (n-l) (A-l))).setCell (b,3) (ad (z,l) (m-l) (B-l)))).cell? (v,l-1)=some (V a7 (y.toNat:Int)):=by
 have h5:=H.box.lt;have h6:=I.box.lt;have xa:=H.box.next bl;have xb:=I.box.next bl;have J:=(((xa.set 1 (ad v (l-1) A)).set 3 (ad z l B)).only (((Only.refl b _).set 1 (ad (v,l) (n-l) (A-l))).set 3 (ad (z,l) (m-l) (B-l))).drew T);have D:Only a w ((w.setCell (a,1) (ad v (l-1) A)).setCell (a,3) (ad z l B)):=((Only.refl a w).set 1 _).set 3 _;have E:Only b ((w.setCell (a,1) (ad v (l-1) A)).setCell (a,3) (ad z l B)) ((((w.setCell (a,1) (ad v (l-1) A)).setCell (a,3) (ad z l B)).setCell (b,1) (ad (v,l) (n-l) (A-l))).setCell (b,3) (ad (z,l) (m-l) (B-l))).drew:=(((Only.refl b _).set 1 _).set 3 _).drew;have L:=lh (((xb.only D (dJ T)).set 1 (ad (v,l) (n-l) (A-l))).set 3 (ad (z,l) (m-l) (B-l)));generalize (w.setCell (a,1) (ad v (l-1) A)).setCell (a,3) (ad z l B)=w2 at D E J L ⊢;have h1:∀(u:World) (x:Addr),u.drew.cell? x=u.cell? x:=λ u x=>rfl;rw[<-h1];generalize ((w2.setCell (b,1) (ad (v,l) (n-l) (A-l))).setCell (b,3) (ad (z,l) (m-l) (B-l))).drew=w3 at E J L ⊢;have Q:=(r1.only D (show v≠a from Z)).only E (show v≠b from Z);have rb:=(r2.only D (show z≠a from Z)).only E (show z≠b from Z);have hs:=bl.size;have h8:=D.size;have h9:=E.size
 have he:iF ⟨false,c,[],d⟩ ⟨false,ls,[],ds⟩ κ=(⟨false,K.take (l-1),[],C.take l⟩,⟨false,K.drop l,[],C.drop l⟩,y,false):=by
  have h3:(d++ds).length/2=l:=by rw[<-N,P];exact hh
  have hl:¬(d++ds).length<=40:=by rw[<-N,P];omega
  unfold iF;rw[aE (by simp)];dsimp only;rw[aE hl,h3,hq,eK,N]
 have R:=xz (S:=λ y=>(e<=y/\y<Ma)\/(Nb<=y/\y<Mb)\/(W.1.size<=y/\y<w3.1.size)) Q (al (al ⟨hg,Q.lt⟩));have S:=xz (S:=λ y=>(e<=y/\y<Ma)\/(Nb<=y/\y<Mb)\/(W.1.size<=y/\y<w3.1.size)) rb (al (al ⟨h2,rb.lt⟩));rw[dH,hn]at R;rw[iC,P]at S;refine⟨?_,?_⟩
 ·unfold zw;rw[he];refine⟨rfl,⟨_,_,_,J,O ⟨H.ge,X⟩,?_,⟨q,r,rfl,aR _,λ G u F=>(by cases F)⟩,?_⟩,λ _=>⟨_,_,_,L,al (O ⟨I.ge,h0⟩),?_,⟨s,t,rfl,aR _,λ G u F=>(by cases F)⟩,?_⟩,(E.os.trans D.os).trans bl.os,(E.tape.trans D.tape).trans bl.tape,(E.output.trans D.output).trans bl.output,Z,λ G F=>?_⟩
  ·have:=R.take (l-1) Z;rw[KD]at this;exact this
  ·have:=S.take l Z;rw[hQ]at this;exact this
  ·have:=R.drop l Z;rw[KC,fB]at this;exact this
  ·have:=S.drop l Z;rw[gl,fB]at this;exact this
  have nA:G≠a:=λ M=>F.2 (O (by rw[M];exact⟨H.ge,X⟩));have nB:G≠b:=λ M=>F.2 (al (by rw[M];exact⟨I.ge,h0⟩));rw[E.block G Z nB,D.block G Z nA];exact bl.block G F.1
 refine Q.at' (l-1) _ (tO _ _ _ ?_);rw[hq,fV,bK Z];rfl
theorem GS{u:Nat}(ha:zu e Ma W a ⟨false,c,[],d⟩ g q f k r j)(hb:zu Nb Mb W b ⟨false,ls,[],ds⟩ i s h p t o)(EO:Ma<=Nb)(p1:0<Y c)(p2:0<Y ls)(p3:0<Y d)(p4:0<Y ds)(X:Y c+1+Y ls=n)(M:Y d+Y ds=m)(h0:m=n+1)(Cu:m<=1000)(T:m/2=u)(κ:UInt64) :
  Calls prog 258 #[aq a,aq b,V a7 κ.toNat] W (zw e Ma Nb Mb W a b ⟨false,c,[],d⟩ ⟨false,ls,[],ds⟩ κ):=by
 obtain⟨y,L,hi⟩:=ha;obtain⟨B,S,hj⟩:=hb;have h4:a≠b:=by have:=B.ge;omega
 have N:u<=1000:=Z
 have h2:(m:Int)/2=(u:Int):=Z
 have EP:Int.tdiv (m:Int) 2=(u:Int):=by rw[nP (Int.natCast_nonneg m)];exact h2
 have a0:=y.box.c0;have D:∀w,Below W W w->w.cell? (a,1)=some (ad g (Y c) k)/\w.cell? (b,1)=some (ad i (Y ls) p)/\w.cell? (a,3)=some (ad f (Y d) j)/\w.cell? (b,3)=some (ad h (Y ds) o):=λ w bl=>⟨(y.box.next bl).cell 1 _ rfl,(B.box.next bl).cell 1 _ rfl,(y.box.next bl).cell 3 _ rfl,(B.box.next bl).cell 3 _ rfl⟩;have wa:gQ (aG g) W (ad g (Y c) k) (az c):=by have:=y.k.win (S:=aG g) (λ _ u=>u);rw[dH]at this;exact this
 have wv:gQ (aG f) W (ad f (Y d) j) (ints d):=by have:=y.a.win (S:=aG f) (λ _ u=>u);rw[iC]at this;exact this
 have wb:gQ (aG i) W (ad i (Y ls) p) (az ls):=by have:=B.k.win (S:=aG i) (λ _ u=>u);rw[dH]at this;exact this
 have ww:gQ (aG h) W (ad h (Y ds) o) (ints ds):=by have:=B.a.win (S:=aG h) (λ _ u=>u);rw[iC]at this;exact this
 have CZ:=zH (λ (w:World) (bl:Below W W w)=>(show Calls prog 265 #[ad g (Y c) k] w (Re w c)from KA (wa.below bl (λ _ u=>y.k.lt u)) (λ v I=>cB (y.k.lt I) bl.size) p1 Z));have KU:=zH (λ (w:World) (bl:Below W W w)=>(show Calls prog 266 #[ad f (Y d) j] w (et w d)from cA (wv.below bl (λ _ u=>y.a.lt u)) (λ v I=>cB (y.a.lt I) bl.size) p3 Z))
 have R4:=zH (λ (w:World) (z C l:Nat) (bl:Below W W w) (r0:Row w z C (az c)) (h1:W.1.size<=z) (hb:ay w l #[V a7 (κ.toNat:Int)])=>(show ∃v x E,(Builtin.append_ #[88,88] 88 #[ad z (Y c) C,ad l 1 1]).run prog w= .ok (ad (some ⟨v,0,none⟩) (Y c+1) x) E/\Row E v x (az (c++[κ]))/\W.1.size<=v/\Below W w E from
  R3 (vs:=[κ]) r0 (nJ hb) h1 bl.size (Nat.zero_lt_one) (by rw[gI];omega)))
 have HA1:=zH (λ (w:World) (z C:Nat) (bl:Below W W w) (r0:Row w z C (az (c++[κ]))) (h1:W.1.size<=z)=>(show ∃v x E,(Builtin.append_ #[88,88] 88 #[ad z (Y c+1) C,ad i (Y ls) p]).run prog w= .ok (ad (some ⟨v,0,none⟩) n x) E/\Row E v x (az (c++κ::ls))/\W.1.size<=v/\Below W w E from by
  have:=R3 r0 (wb.below bl (λ _ u=>B.k.lt u)) h1 bl.size p2 (by rw[zl,gI];omega);rw[zl,gI,X,cO]at this;exact this))
 have HA2:=zH (λ (w G:World) (bl:Below W W w) (z C:Nat) (Gw:Below w w G) (r0:Row G z C (ints d)) (h1:w.1.size<=z)=>(show ∃v x E,(Builtin.append_ #[57,57] 57 #[ad z (Y d) C,ad h (Y ds) o]).run prog G= .ok (ad (some ⟨v,0,none⟩) m x) E/\Row E v x (ints (d++ds))/\w.1.size<=v/\Below w G E from by
  have:=kZ r0 (ww.below (bl.trans (Gw.mono bl.size)) (λ _ u=>B.a.lt u)) h1 Gw.size p4 Z;rw[M]at this;exact this))
 have HE:=bH y L B S h4 X M h0 T Cu N;have HW:=bg h2 EP;clear hi hj y B wa wv wb ww EO L S p1 p2 p3 p4 T Cu X M h0 h2 EP N
 go_enter func258,ntmps258
 go_wp2_with fail
 have bl:Below W W W.drew:=(aU _ _).drew
 go_upto_region 9 with(fail)
 go_cut [11,12] (λ Ww hs wx=>∃v x R H,Ww=ad (some ⟨v,0,none⟩) n x/\hs=ad (some ⟨R,0,none⟩) m H/\Row wx v x (az (c++κ::ls))/\Row wx R H (ints (d++ds))/\W.1.size<=v/\W.1.size<=R/\Below W W wx)
 case first=>
  have hh:=D _ bl;refine wp_region_any (by kernel_rfl) ?_;refine zT 0 ?_;refine zT 1 ?_;refine zT 2 ?_;refine zT 5 ?_;refine zT 8 ?_;refine zT 9 ?_;refine zT 10 ?_;refine zT 13 ?_;refine zT 14 ?_;refine zT 15 ?_;refine zT 18 ?_;refine zT 19 ?_;refine zT 20 ?_;refine zV (w:=W.drew) (λ G=>G.cell? (a,1)=some (ad g (Y c) k)/\G.cell? (b,1)=some (ad i (Y ls) p)/\G.cell? (a,3)=some (ad f (Y d) j)/\G.cell? (b,3)=some (ad h (Y ds) o)) 99 (by exact hh) λ J=>?_;refine zU 3 J ?_;refine zU 11 J ?_;refine zU 16 J ?_;refine zU 21 J ?_;clear J;refine Nz (i:=4) (j:=6) (by kernel_rfl) rfl rfl (λ K A=>?_) (λ K A=>?_);go_simp;refine(CZ.out _ bl).mono ?_;rintro h9 F ⟨z,C,rfl,r4,h5,ER⟩
  (try dsimp only)
  have sV:Below W W F:=bl.trans (ER.mono bl.size);refine zK A ?_ (λ _=>D _ sV);refine zL 6 λ K A=>?_;go_simp;have OM:Below W W (F.alloc (.cells #[V a7 (κ.toNat:Int)] 77)):=sV.alloc sV.size _;have b6:ay (F.alloc (.cells #[V a7 (κ.toNat:Int)] 77)) F #[V a7 (κ.toNat:Int)]:=Gm rfl;have h8:Below F F (F.alloc (.cells #[V a7 (κ.toNat:Int)] 77)):=(aU _ _).alloc (aH _) _;obtain⟨g7,c7,w7,e7,r7,hc,OO⟩:=R4.out _ z C F OM (r4.ae h8.size (h8.block _ r4.lt)) (aT bl.size h5) b6
  rotate_left
  go_simp;have BM:Below W W (W.drew.alloc (.cells #[V a7 (κ.toNat:Int)] 77)):=bl.alloc bl.size _;have h7:ay (W.drew.alloc (.cells #[V a7 (κ.toNat:Int)] 77)) W.drew.1.size #[V a7 (κ.toNat:Int)]:=Gm rfl;refine zK A ?_ (λ _=>D _ BM);refine zL 4 λ K A=>?_;go_simp;refine(CZ.out _ BM).mono ?_;rintro h9 F ⟨z,C,rfl,r4,h5,ER⟩
  (try dsimp only)
  have OM:Below W W F:=BM.trans (ER.mono BM.size);have b6:=h7.ae (ER.block _ h7.lt);obtain⟨g7,c7,w7,e7,r7,hc,OO⟩:=R4.out _ z C W.drew.1.size OM r4 (aT BM.size h5) b6
  all_goals
   refine zK A ?_ (λ _=>D _ OM);refine zL 7 λ K A=>?_;refine UK.aM e7 rfl rfl rfl (by simp[Act.eval]) (by simp[Act.eval]) ?_;have Wx:Below W W w7:=OM.trans OO;obtain⟨v,x,ho,e12,KT,Wy,OP⟩:=HA1.out _ g7 c7 Wx r7 hc;have Q:Below W W ho:=Wx.trans OP;refine zK A ?_ (λ _=>D _ Wx);refine zL 12 λ K A=>?_;refine UK.aM e12 rfl rfl rfl (by simp[Act.eval]) (by simp[Act.eval]) ?_;refine zK A ?_ (λ _=>D _ Q);refine zL 17 λ K A=>?_;go_simp;refine(KU.out _ Q).mono ?_;rintro h9 hp ⟨g1,c1,rfl,P,hm,ES⟩
   (try dsimp only)
   have Gy:Below W W hp:=Q.trans (ES.mono Q.size);obtain⟨R,H,hr,e22,hn,Wz,Jt⟩:=HA2.out _ _ Q g1 c1 ES P hm;have xN:Below W W hr:=Gy.trans (Jt.mono Q.size);refine zK A ?_ (λ _=>D _ Gy);refine zL 22 λ K A=>?_;refine UK.aM e22 rfl rfl rfl (by simp[Act.eval]) (by simp[Act.eval]) ?_;refine zK A ?_ (λ _=>D _ xN);refine zM 23 ?_ (λ _=>D _ xN);refine zM 24 ?_ (λ _=>D _ xN);refine Cq (by kernel_rfl) ?_ _
   go_wp2_with fail
   go_meet;exact⟨v,x,R,H,rfl,rfl,KT.ae (aT ES.size Jt.size) ((Jt.block _ KT.lt).trans (ES.block _ KT.lt)),hn,Wy,aT Q.size Wz,xN⟩
 obtain⟨v,x,R,H,rfl,rfl,P,r2,I,h3,rU⟩:=hcut;obtain⟨y,L,B,S,h4,X,M,h0,T,Cu,N⟩:=HE.out;have eK:(c++κ::ls).length=n:=by rw[zl,dF];omega
 have eC:(d++ds).length=m:=by rw[zl];exact M
 have xa:=y.box.next rU;have xb:=B.box.next rU;have q1:=xa.cell 1 _ rfl;have q2:=xa.cell 3 _ rfl;have q3:=xb.cell 1 _ rfl;have q4:=xb.cell 3 _ rfl;have f1:=xa.free 1;have f2:=xa.free 3;have f3:=xb.free 1;have f4:=xb.free 3;by_cases KX:m<=40
 ·have fin:=Cm (b:=b) (Nb:=Nb) (Mb:=Mb) (ls:=ls) (ds:=ds) (κ:=κ) y L rU P r2 I h3 rfl rfl eK eC KX;have HF:=zH fin;have ht:(m:Int)<=40:=Int.ofNat_le.2 KX;clear fin y B L S X M h0 T Cu N eK eC xa xb P r2 rU I h3 bl D CZ KU R4 HA1 HA2 HE KX HW
  go_wp2_with fail
  go_ret2;exact HF.out
 obtain⟨he,hq⟩:∃he:UInt64,he=(c++κ::ls).getD (u-1) 0:=⟨_,rfl⟩;obtain⟨fin,cq⟩:=Ih (κ:=κ) (Ma:=Ma) (Mb:=Mb) y L B S h4 rU P r2 I h3 rfl rfl eK eC h0 Z T hq;have hk:n<=x:=by have:=P.le;rw[dH,eK]at this;exact this
 have hl:m<=H:=by have:=r2.le;rw[iC,eC]at this;exact this
 have hg:20<=u:=Z
 have hv:u<n:=Z
 have hu:u<m:=Z
 have HF:=zH fin;have Wv:=zH cq;have n40:¬(m:Int)<=40:=Z
 have i1:(u:Int)<=(x:Int):=Int.ofNat_le.2 Z;have i2:(u:Int)<=(H:Int):=Int.ofNat_le.2 Z;have i3:(u:Int)<=(n:Int):=Int.ofNat_le.2 Z;have hx:(u:Int)<=(m:Int):=Int.ofNat_le.2 Z;have i5:¬(x=u):=Z
 have i6:¬(H=u):=Z
 have i7:((u-1:Nat):Int)<=(x:Int):=Int.ofNat_le.2 Z;have i8:((u-1:Nat):Int)<(n:Int):=Int.ofNat_lt.2 Z;have i9:(0:Int)<=((u-1:Nat):Int):=Int.natCast_nonneg _;have hw:u-1<n:=Z
 have h6:(u:Int)-1=((u-1:Nat):Int):=(Int.ofNat_sub (show 1<=u from Z)).symm;have l1:u-1<=1000:=Z
 have w2:wrap64 ((u-1:Nat):Int)=((u-1:Nat):Int):=CS _ l1;have E:wrap64 ((u:Int)-1)=((u-1:Nat):Int):=by rw[h6];exact w2
 have w3:IntKind.i64.wrap ((u:Int)-1)=((u-1:Nat):Int):=by rw[h6];exact CU _ l1
 have F:wrap64 (u:Int)=(u:Int):=CS _ N;have w5:IntKind.i64.wrap (u:Int)=(u:Int):=CU _ N;obtain⟨h2,EP⟩:=HW.out;clear h6 l1 fin cq y B L S X M h0 T Cu N eK eC xa xb P r2 rU I h3 bl D CZ KU R4 HA1 HA2 HE KX HW hq hk hl hg
 go_wp2_with fail
 refine wp_region_any (by kernel_rfl) ?_;refine zT 0 ?_;refine zT 1 ?_;refine zT 2 ?_;refine zT 3 ?_;refine zT 4 ?_;refine zT 5 ?_;refine zT 6 ?_;refine zT 7 ?_;refine zT 8 ?_;refine zT 9 ?_;refine zT 10 ?_;refine zT 11 ?_;refine zT 12 ?_;refine zT 13 ?_;refine zT 14 ?_;refine zT 15 ?_;refine zT 16 ?_;refine zV (w:=wc.drew) (λ G=>True) 17 (by exact trivial) λ J=>?_;clear J;refine zM 17 ?_;refine zM 18 ?_;refine zM 19 ?_;refine zM 20 ?_;refine zM 21 ?_;refine zM 22 ?_;refine zM 23 ?_;refine zM 24 ?_;refine zM 25 ?_;refine zM 26 ?_;refine zM 27 ?_;refine zM 28 ?_;refine Cq (by kernel_rfl) ?_ _;have cq:=Wv.out
 go_wp2_with fail
 go_ret2;exact HF.out
end
