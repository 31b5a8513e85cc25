/- Facts on texts on pages. -/
import Derived.Test.YtgpmiliahonaoaaGreatDoorKDrTc
import Derived.Test.YtgpmiliahonaoaaGreatDoorKActs22c
set_option maxRecDepth 100000
set_option maxHeartbeats 8000000
set_option linter.unusedSimpArgs false
open Go.Value renaming bool->a6,int->V,pointer->aq,slice->ad
open Go.IntKind renaming i64->U
open Go.Ending renaming returned->aw
open Or renaming inl->O,inr->al
open List renaming length->Y
open Go.Proofs.Tryz
namespace Go.Proofs.YtgpmiliahonaoaaGreatDoor
open Go.RowKit Go.BigFrame
open UK (str aF nth Only Row ay)
open DP (Rc bU aS)
open RN (Pn nK)
theorem wq(pg fr:Int)(ao:Option Addr)(len cap:Nat)(W:World)(ht:lY W)
  (hv:Hid (len=0\/∃(b off:Nat) (h9:Nat->nK),ao=some ⟨b,off,none⟩/\(∀i,i<len->Pn W b (off+i*4) (h9 i))/\b<W.1.size)) :
  Calls prog 4 #[V U pg,V U fr,ad ao len cap] W λ e c=>e=aw (a6 true)/\Kept (λ j=>j<W.1.size) W c:=by
 have v:=zH (YZ W ht (λ j=>j<W.1.size) (λ _ h=>h));by_cases h1:pg<6
 ·go_enter func4,ntmps4
  go_wp2_with fail
  refine v.out.mono ?_;rintro e T ⟨rfl,o⟩;have t:=zH o;clear v o;go_wp2;go_ret;exact⟨rfl,t.out⟩
 by_cases h2:25<pg
 ·go_enter func4,ntmps4
  go_wp2_with fail
  refine v.out.mono ?_;rintro e T ⟨rfl,o⟩;have t:=zH o;clear v o;go_wp2;go_ret;exact⟨rfl,t.out⟩
 by_cases h3:fr<1
 ·go_enter func4,ntmps4
  go_wp2_with fail
  refine v.out.mono ?_;rintro e T ⟨rfl,o⟩;have t:=zH o;clear v o;go_wp2;go_ret;exact⟨rfl,t.out⟩
 by_cases h4:5<fr
 ·go_enter func4,ntmps4
  go_wp2_with fail
  refine v.out.mono ?_;rintro e T ⟨rfl,o⟩;have t:=zH o;clear v o;go_wp2;go_ret;exact⟨rfl,t.out⟩
 clear v;obtain⟨M,rfl⟩:∃M:Nat,pg=M:=⟨pg.toNat,Z⟩;obtain⟨fn,rfl⟩:∃fn:Nat,fr=fn:=⟨fr.toNat,Z⟩;have hp:6<=M/\M<=25:=Z
 have HM:=zH (YT W ht (λ j=>j<W.1.size) (λ _ h=>h) M fn (by unfold pK;omega) hp.1 Z Z);have x1:=ht.lt
 go_enter func4,ntmps4
 go_wp2_with fail
 refine HM.out.mono ?_;rintro e r ⟨P,D,f,g,m,H,rfl,ds,L,k1⟩;have H1:=bm ds L k1;clear HM ds L k1;obtain⟨wa,fO⟩:∃wa,wa=r.alloc (.cells (iw P f none 0 0) 43):=⟨_,rfl⟩;obtain⟨d,h8⟩:∃d,d=r.1.size:=⟨_,rfl⟩
 have HS:Hid (Sep W f g m H d/\LF (λ E w=>DS E w P D f g m H 30 M []) W wa P D f g m H d [] (λ _=>False) none 0 []):=by
  obtain⟨ds,L,k1⟩:=H1.out;have b1:Below r r wa:=fO▸(aU _ _).alloc (aH _) _;have sa:wa.1.size=r.1.size+1:=by rw[fO];simp
  have bx:ay wa d (iw P f none 0 0):=by rw[h8,fO];exact ay.new r _ _
  have x0:=k1.size
  have hh:f<d/\g<d/\m<d/\H<d:=by
   obtain⟨x4,Ec,z,_⟩:=ds;rw[h8];exact⟨z.pz.there _ z.md,z.pz.there _ z.m1,z.pz.there _ z.m2,z.pz.there _ z.mh⟩
  refine zH ⟨⟨x1,⟨L.1,hh.1⟩,⟨L.2.1,hh.2.1⟩,⟨L.2.2.1,hh.2.2.1⟩,⟨L.2.2.2,hh.2.2.2⟩⟩,⟨bx,ds.wide b1 (λ j a=>?_) (λ j a=>?_),⟨O ⟨rfl,rfl,rfl⟩,λ z hz=>(by cases hz),λ j a=>(by cases a),λ z hz=>(by cases hz),rfl,λ z hz=>(by cases hz)⟩,Ql,λ h=>h,k1.trans (Kept.of_below b1 (λ j a=>cB a x0))⟩⟩
  ·rcases a with a|a|a|a|a|a|a
   ·exact O (O a)
   ·exact O (al (O a))
   ·exact O (al (al (O a)))
   ·exact O (al (al (al (O a))))
   ·exact O (al (al (al (al a))))
   ·exact al ⟨Z,Z⟩
   exact a.elim
  rcases a with a|a|a|a|a
  ·exact O a
  ·exact al (O a)
  ·exact al (al (O a))
  ·exact al (al (al (O a)))
  exact al (al (al (al (O a))))
 clear H1;have HW:=bg fO h8;clear fO h8
 go_wp2_with fail
 rw[<-HW.out.2]
 go_loopw [10] (λ iv wr=>∃(j:Nat) (X:List bU) (F:Nat->Prop) (y:Option Addr) (x:Nat) (A:List AM),iv=V U j/\j<=12/\Y X<=j/\LF (λ E w=>DS E w P D f g m H (30+61000000*j) M X) W wr P D f g m H d X F y x A) (λ iv _=>13-(intOf iv).toNat)
 case atStart=>exact⟨0,[],_,none,0,[],rfl,Z,aH _,by have:=HS.out.2;rw[HW.out.1]at this;exact this⟩
 clear HW;have IC:=HS.out.1;clear HS;obtain⟨j,X,F,y,x,A,rfl,a,x7,n⟩:=hrel;by_cases hs:j<len/\j<12
 ·obtain⟨hw,x6⟩:=hs;rcases hv.out with h0|⟨b,off,h9,rfl,ha,hl⟩
  ·omega
  obtain⟨a0,a1,a2,a3,h7⟩:=ha j hw;have i1:(j:Int)<(len:Int):=Z
  have i2:(j:Int)<12:=Z
  generalize h9 j=fj at a0 a1 a2 a3 h7;obtain⟨s,ar,ac,lo,ln,lc,x2,ho,h,w⟩:=fj;dsimp only at a0 a1 a2 a3 h7
  have HK:Hid (∀c,Kept (λ j=>j<W.1.size) W c->c.cell? ⟨b,off+j*4,none⟩=some (V U s)/\c.cell? ⟨b,off+j*4+1,none⟩=some (V U ar)/\c.cell? ⟨b,off+j*4+2,none⟩=some (V U ac)/\c.cell? ⟨b,off+j*4+3,none⟩=some (ad lo ln lc)):=zH (λ c k=>by
   have hc:∀i hg,W.cell? ⟨b,i,none⟩=some hg->c.cell? ⟨b,i,none⟩=some hg:=λ i hg hc=>(eB (a:=⟨b,i,none⟩) (k.block b hl)).trans hc;exact⟨hc _ _ a0,hc _ _ a1,hc _ _ a2,hc _ _ a3⟩)
  have Qs:Hid (∀c,Kept (λ j=>j<W.1.size) W c->BU c lo ln x2 ho h w):=zH (λ c k=>h7.next ⟨k.os,k.tape,k.output,k.size,λ j a=>k.block j a⟩);clear a0 a1 a2 a3 h7 ha;by_cases h5:s=1\/s=6
  ·obtain⟨c0,_⟩:=HK.out _ n.kept;have HB:=zH ((pW n.st).mono (R':=λ e c=>e=aw (V U 0)/\LF (λ E w=>nT E w P D f g m H (30+61000000*j) M X X) W c P D f g m H d X F y x A) (λ e c ⟨K,N,Q⟩=>⟨K,n.call N Q⟩))
   have U9:Hid (∀(E:Nat->Prop) (r:World),nT E r P D f g m H (30+61000000*j) M X X->qb F r y x A X->(∀j,F j->E j)->(∀c,Kept E r c->Kept (λ j=>j<W.1.size) W c)->Calls prog 16 #[.agg (iw P f y (Y A) x),.agg (vQ s ar ac lo ln lc)] r λ e c=>Ei E F r c P D f g m H (30+61000000*j+60000000) M X (.agg (iw P f y (Y A) x)) e):=
    zH (λ E r h6 x3 hF hk=>r8 h6 Z n.ok Z x3 hF (λ c k'=>Qs.out c (hk c k')) Z s h5 ar ac)
   have Qh:=zH n.kept;have hm:s=1\/¬s=1/\s=6:=Z
   clear n h5
   go_upto_region 10 with(fail)
   go_cut [67] (λ bv wx=>bv=a6 false/\wx=wr)
   case first=>
    rcases hm with n1|⟨n1,n6⟩
    ·subst n1
     go_wp2_with fail
     go_meet
     case rel=>exact⟨rfl,rfl⟩
    subst n6
    go_wp2_with fail
    go_meet
    case rel=>exact⟨rfl,rfl⟩
   case rest=>
   obtain⟨rfl,rfl⟩:=hcut;clear c0 hm
   go_wp2_with fail
   refine HB.out.mono ?_;rintro e w2 ⟨rfl,p⟩;have ba:=((aU w2 w2).alloc (aH _) (.cells yB 43)).drew;have bb:=(aU w2 w2).drew;have hi:=zH (E7 IC p rfl (λ E h6 hE=>U9.out E _ h6 (p.x.next ba) (λ j a=>hE j (EB.f a)) (λ c k'=>(p.kept.trans ((p.st.kept ba).mono λ _ a=>EB.low a)).trans (k'.mono λ j a=>hE j (EB.low a)))));have hj:=zH (vt IC p rfl (λ E h6 hE=>U9.out E _ h6 (p.x.next bb) (λ j a=>hE j (EB.f a)) (λ c k'=>(p.kept.trans ((p.st.kept bb).mono λ _ a=>EB.low a)).trans (k'.mono λ j a=>hE j (EB.low a)))));clear ba bb;obtain⟨c0,c1,c2,c3⟩:=HK.out _ p.kept;have r0:=p.box.c0;have r1:=p.box.c1;have r2:=p.box.c2;have r3:=p.box.c3;have r4:=p.box.c4;have hy:d<w2.1.size:=p.box.lt;have hr:b<w2.1.size:=cB hl p.kept.size;clear p HB
   go_upto_region 13 with(fail)
   go_cut [11,12] (λ qv ov wx=>∃(he:Nat) (ok:Bool) (jX:Option Addr) (n' iZ:Nat),qv=aq he/\ov=a6 ok/\Hid (MP W wx P D f g m H d (30+61000000*j+60000000) M X F y x A he ok (iw P f jX n' iZ)))
   case first=>
    go_region_with (first
     | (go_at_call 16;refine hi.out.mono ?_;rintro e T ⟨jX,n',iZ,ok,rfl,I,gx⟩;have zf:=I.free;have z0:=I.c0;have z1:=I.c1;have z2:=I.c2;have z3:=I.c3;have z4:=I.c4;replace I:=zH I;replace gx:=zH gx)
     | (go_at_call 16;refine hj.out.mono ?_;rintro e T ⟨jX,n',iZ,ok,rfl,gx⟩;replace gx:=zH gx))
    all_goals
     go_wp2_with fail
     go_meet;exact⟨_,_,_,_,_,rfl,rfl,gx⟩
   obtain⟨he,ok,jX,n',iZ,rfl,rfl,HQ⟩:=hcut;clear hi hj r0 r1 r2 r3 r4 c0 c1 c2 c3 hy hr U9;have LB:IntKind.i64.wrap ((j:Int)+1)=(j:Int)+1:=IntWalk.i64_in _ ⟨Z,Z⟩
   cases ok
   focus
    have R:=HQ.out.2.2.2.2 rfl;have HC:=zH ((vm R.st Z).mono (R':=λ e c=>e=aw (V U 0)/\Hid (∃q F3 B C G,Y q<=j+1/\LF (λ E w=>DS E w P D f g m H (30+61000000*j+60300000) M q) W c P D f g m H d q F3 B C G)) (λ e c ⟨K,N,Q⟩=>⟨K,zH ⟨X,F,y,x,A,Z,R.call (N.up Z) Q⟩⟩));clear R HQ
    go_wp2_with fail
    refine HC.out.mono ?_;rintro e w4 ⟨rfl,N7⟩;clear HC
   rotate_left
   focus
    obtain⟨bq,hx,J,_⟩:=HQ.out;have q0:=bq.c0;have q1:=bq.c1;have q2:=bq.c2;have q3:=bq.c3;have q4:=bq.c4;have s0:=J.c0;have s1:=J.c1;have s2:=J.c2;have s3:=J.c3;have s4:=J.c4;have sf:∀j,wc.frozen? ⟨d,j,none⟩=false:=J.free;obtain⟨F2,Kc,X2,rfl,hu,R⟩:=HQ.out.turn IC;have HC:=zH ((my R.st Z).mono (R':=λ e c=>e=aw (V U 0)/\Hid (∃q F3 B C G,Y q<=j+1/\LF (λ E w=>DS E w P D f g m H (30+61000000*j+60300000) M q) W c P D f g m H d q F3 B C G)) (λ e c ⟨K,N,Q⟩=>⟨K,zH ⟨X2,F2,jX,iZ,Kc,Z,R.call (N.up Z) Q⟩⟩));clear R HQ bq J hx hu
    go_wp2_with fail
    refine HC.out.mono ?_;rintro e w4 ⟨rfl,N7⟩;clear HC q0 q1 q2 q3 q4 s0 s1 s2 s3 s4 sf
   rotate_left
   all_goals
    obtain⟨q,F3,B,C,G,hq,l4⟩:=N7.out;clear N7;have bd:=(aU w4 w4).drew;have u:=l4.call (wx:=w4.drew) (Qu:=λ E w=>DS E w P D f g m H (30+61000000*j+60300000) M q) (l4.st.next bd) (l4.st.kept bd);obtain⟨_,c1,c2,_⟩:=HK.out _ u.kept;have s0:=u.box.c0;have s1:=u.box.c1;have s2:=u.box.c2;have s3:=u.box.c3;have s4:=u.box.c4
    have Mm:=zH ((zc u.st u.ok (u.x.more λ _ a=>EB.f a) ar ac (ad none 0 0) false Z).mono (R':=λ e c=>e=aw (V U 0)/\c.cell? d=some (aq P)/\c.cell? (d,1)=some (aq f)/\c.cell? (d,2)=some (ad B (Y G) C)/\c.cell? (d,3)=some (ad none 0 0)/\c.cell? (d,4)=some (a6 false)/\c.cell? (b,off+j*4+1)=some (V U ar)/\c.cell? (b,off+j*4+2)=some (V U ac)/\LF (λ E w=>DS E w P D f g m H (30+61000000*j+60800000) M q) W c P D f g m H d q F3 B C G) (λ e c ⟨K,N,Q⟩=>by
     have S:=u.call (Qu:=λ E w=>DS E w P D f g m H (30+61000000*j+60800000) M q) N Q;obtain⟨_,d1,d2,_⟩:=HK.out _ S.kept;exact⟨K,S.box.cell 0 _ rfl,S.box.cell 1 _ rfl,S.box.cell 2 _ rfl,S.box.cell 3 _ rfl,S.box.cell 4 _ rfl,d1,d2,S⟩))
    clear l4 u bd
    go_upto_region 20 with(fail)
    refine wp_region_any (by kernel_rfl) ?_;refine zT 1 ?_;refine zT 2 ?_;refine zT 3 ?_;refine zT 4 ?_;refine zV (w:=w4.drew) (λ c=>c.cell? d=some (aq P)/\c.cell? (d,1)=some (aq f)/\c.cell? (d,2)=some (ad B (Y G) C)/\c.cell? (d,3)=some (ad none 0 0)/\c.cell? (d,4)=some (a6 false)/\c.cell? ⟨b,off+j*4+1,none⟩=some (V U ar)/\c.cell? ⟨b,off+j*4+2,none⟩=some (V U ac)) 99 (by exact ⟨s0,s1,s2,s3,s4,c1,c2⟩) λ hb=>?_;refine zU 0 hb ?_;refine zU 5 hb ?_;clear hb s0 s1 s2 s3 s4 c1 c2;refine zL 6 λ x5 hK=>?_;go_simp;refine Mm.out.mono ?_;rintro e w5 ⟨rfl,m0,m1,m2,m3,m4,m5,m6,UA⟩;replace UA:=zH UA
    (try dsimp only)
    refine zK hK ?_ (λ _=>⟨m0,m1,m2,m3,m4,m5,m6⟩);refine zM 7 ?_ (λ _=>⟨m0,m1,m2,m3,m4,m5,m6⟩);refine Cq (by kernel_rfl) ?_ _;clear Mm m0 m1 m2 m3 m4 m5 m6
    go_wp2_with fail
    go_roundw
    case rel=>
     have l:=UA.out;exact⟨j+1,q,F3,B,C,G,by go_num,Z,hq,l.box,l.st.up Z,l.x,l.ok,l.far,l.kept⟩
    case measure=>simp only[intOf];omega
  have n1:¬s=1:=λ e=>h5 (O e);have n6:¬s=6:=λ e=>h5 (al e);obtain⟨c0,_⟩:=HK.out _ n.kept;have e1:(s != 1)=true:=bne_iff_ne.2 n1;have e6:(s != 6)=true:=bne_iff_ne.2 n6;have HL:=zH n;have LB:IntKind.i64.wrap ((j:Int)+1)=(j:Int)+1:=IntWalk.i64_in _ ⟨Z,Z⟩;clear n h5
  go_wp2_with fail
  go_roundw
  case rel=>
   refine⟨j+1,X,F,y,x,A,by go_num,Z,Z,?_⟩;have l:=HL.out;exact⟨l.box,l.st.up Z,l.x,l.ok,l.far,l.kept⟩
  case measure=>simp only[intOf];omega
 have HL:=zH n;have hn:¬(j:Int)<len\/¬(j:Int)<12:=Z
 have HA2:=zH (YZ wr (ht.below (w':=wr) ⟨n.kept.os,n.kept.tape,n.kept.output,n.kept.size,λ j a=>n.kept.block j a⟩) (λ j=>j<W.1.size) (λ j a=>cB a n.kept.size));clear n;by_cases i0:(j:Int)<len
 ·have i1:¬(j:Int)<12:=Z
  clear hn
  go_wp2_with fail
  refine HA2.out.mono ?_;rintro e T ⟨rfl,o⟩;have t:=zH (HL.out.kept.trans o);clear HA2 o HL;go_wp2;go_ret;exact⟨rfl,t.out⟩
 clear hn
 go_wp2_with fail
 refine HA2.out.mono ?_;rintro e T ⟨rfl,o⟩;have t:=zH (HL.out.kept.trans o);clear HA2 o HL;go_wp2;go_ret;exact⟨rfl,t.out⟩
