/- Facts on texts on pages. -/
import Derived.Test.YtgpmiliahonaoaaGreatDoorKTrJc
set_option maxRecDepth 100000
set_option maxHeartbeats 8000000
set_option linter.unusedSimpArgs false
open Go.Value renaming bool->a6,int->V,pointer->aq,slice->ad,tuple->a9
open Go.IntKind renaming i64->U,u64->a7
open Go.Ending renaming returned->aw
open List renaming length->Y
open Or renaming inl->O,inr->al
open Go.Proofs.Tryz
namespace Go.Proofs.YtgpmiliahonaoaaGreatDoor
open Go.RowKit
open UK (str aF nth Only Row ay w32)
open Go.BigFrame
variable{E:Nat->Prop}{W s o w wc:World}{P D T k f N M nb kc vc ac p c e n i j:Nat}{root:Int}{A:AP}{x:Nd}{ka va aa:Option Addr}{b d l ag:List UInt64}{m r h:List Nat}{q:UInt64}
def qy(E:Nat->Prop)(W c:World)(P D T p:Nat)(A:AP)(K f d:Nat)(key v:UInt64)(e:Ending):Prop:=
 ∃(B:AP) (more:Nat) (g:UInt64) (a:Int) (b:Nat),e=aw (a9 #[V U more,V a7 (g.toNat:Int),V U a])/\lW key v d A f B more g a/\aP E c P D T p B b/\b<=K/\Kept E W c
theorem eJ(j:A.Has f)(a:aB A f=some ⟨true,b,d,[]⟩)(k:jV b):tF A f b d:=by
 unfold aB mI at a
 split at a
 ·next h=>
  injection a with a
  injection a with _ e i _
  have c:Y b=(nth (A.c f) 1).toNat:=by rw[<-e,CO]
  exact⟨j,⟨h.1,c.symm,Z⟩,by rw[c];exact e,by rw[c];exact i,k⟩
 split at a
 ·injection a with a
  injection a with g
  cases g
 cases a
theorem za(h:aP E W P D T p A k)(hk:k+8<900000000)(hp:A.Has f)(hy:aB A f=some ⟨true,b,d,[]⟩)(hs:jV b)(key v:UInt64)(h6:key∉b)(deep:Nat)(hd:deep<=20) :
  Calls prog 180 #[aq T,V U f,V a7 key.toNat,V a7 v.toNat,V U deep] W λ q l=>qy E W l P D T p A (k+8) f 0 key v q:=by
 have x:=eJ hp hy hs;have hn:Y b<=30:=x.head.2.2;have HY:=zH hy;clear hy;have HL:=zH (dj h.pz Z h.box x.has x.head);have HH:=bg h x;clear h x
 go_enter func180,ntmps180
 go_wp2_with fail
 refine HL.out.mono ?_;rintro q w1 ⟨N,M,nb,ka,va,kc,vc,rfl,G,S,⟨a,I,C⟩,L,J⟩;obtain⟨h,x⟩:=HH.out;rw[x.ag,x.vals]at a;have b0:=a.box.c0;have b1:=a.box.c1;have b2:=a.box.c2;have hS:=IW (a.k.win (S:=λ _=>True) (λ _ _=>trivial)) x.up (show Y b<=1000 from Z) key;rw[dH]at hS;rw[decide_eq_false h6]at hS;have HS:=zH hS;have H1:=bs G S a I C L J;clear HL a I C L J hS G S
 go_wp2_with fail
 refine HS.out.mono ?_;rintro q t ⟨i,rfl,y,rfl⟩;obtain⟨G,S,a,I,C,L,J⟩:=H1.out;have Q:=x.len;have hc:N<=t.1.size:=by have:=a.ge;omega
 have HI1:=zH (λ (wa:World) (R:Nat) (ba:Below t t wa) (hv:ay wa R #[V a7 (key.toNat:Int)]) (hh:t.1.size<=R)=>(show Calls prog 235 #[ad ka (Y b) kc,V U i,ad R 1 1] wa λ q l=>∃g c,q=aw (ad (some ⟨g,0,none⟩) (Y b+1) c)/\iA N t l nb {leaf:=true,ag:=b,vals:=d,ak:=[]} ka va none kc vc 0 (b.take i++key::b.drop i) g c/\(∀ED r,t.1.size<=ED->ay wa ED r->ay l ED r)/\ay l nb #[a6 true,ad ka (Y b) kc,ad va (Y d) vc,ad none 0 0]from
  (VF (a.next ba).k (show Y b<=1000 from Z) y.le key hv (λ q=>by have:=a.k.lt q;omega)).mono (λ q l ⟨g',c',he,h3,h0,u⟩=>
   ⟨g',c',by rw[he];simp only[zl,zt,dF,zd];rw[show min i (Y b)+(Y b-i+1)=Y b+1 by have:=y.le;omega],a.yL hc ba h3 h0 u,λ ED r hl hb=>hb.only h0 (λ q=>by
    rcases u with z|z
    ·have:=a.k.lt z;omega
    have:=hb.lt;omega),(a.yL hc ba h3 h0 u).box⟩)))
 have HI2:=zH (λ (o:World) (R:Nat) (mm:∃g c,iA N t o nb {leaf:=true,ag:=b,vals:=d,ak:=[]} ka va none kc vc 0 (b.take i++key::b.drop i) g c) (hv:ay o R #[V a7 (v.toNat:Int)]) (hh:t.1.size<=R)=>(show Calls prog 235 #[ad va (Y d) vc,V U i,ad R 1 1] o λ q l=>∃e n,q=aw (ad (some ⟨e,0,none⟩) (Y b+1) n)/\(Row l e n (az (d.take i++v::d.drop i))/\Only e o l/\(aG va e\/o.1.size<=e))/\l.cell? (nb,1)=some (ad ka (Y b) kc)/\l.cell? (nb,2)=some (ad va (Y d) vc)/\l.frozen? ⟨nb,1,none⟩=false/\l.frozen? ⟨nb,2,none⟩=false from
  let ⟨_,_,m⟩:=mm
  (VF m.v (show Y d<=1000 from Z) (show i<=Y d by rw[Q];exact y.le) v hv (λ q=>by have:=a.v.lt q;omega)).mono (λ q l ⟨g',c',he,h3,h0,u⟩=>by
   have hd:=(m.done a h3 h0 u).2.2.1;exact⟨g',c',by rw[he];simp only[zl,zt,dF,zd];rw[show min i (Y d)+(Y d-i+1)=Y b+1 by have:=y.le;omega],⟨h3,h0,u⟩,hd.cell 1 _ rfl,hd.cell 2 _ rfl,hd.free 1,hd.free 2⟩)))
 have hi:ay t nb #[a6 true,ad ka (Y b) kc,ad va (Y d) vc,ad none 0 0]:=a.box;have lm:∀w:World,ay w nb #[a6 true,ad ka (Y b) kc,ad va (Y d) vc,ad none 0 0]->w.cell? (nb,1)=some (ad ka (Y b) kc)/\w.cell? (nb,2)=some (ad va (Y d) vc):=λ w hb=>⟨hb.cell 1 _ rfl,hb.cell 2 _ rfl⟩
 have HP:=zH (λ (o l:World) (g c e n:Nat) (m:iA N t o nb {leaf:=true,ag:=b,vals:=d,ak:=[]} ka va none kc vc 0 (b.take i++key::b.drop i) g c) (l2:Row l e n (az (d.take i++v::d.drop i))/\Only e o l/\(aG va e\/o.1.size<=e))=>(show vX N t ((l.setCell (nb,1) (ad g (Y b+1) c)).setCell (nb,2) (ad e (Y b+1) n)) nb ka va (b.take i++key::b.drop i) (d.take i++v::d.drop i)from
  pS a y.le Q m l2.1 l2.2.1 l2.2.2))
 have HI:=bm y.le Q y;clear a C L J y HS Q
 go_upto_region 11 with(fail)
 go_cut [] (λ wx=>vX N t wx nb ka va (b.take i++key::b.drop i) (d.take i++v::d.drop i))
 case first=>
  refine wp_region_any (by kernel_rfl) ?_;refine zT 0 ?_;refine zT 1 ?_;refine zT 2 ?_;refine zT 3 ?_;refine zT 4 ?_;refine zT 6 ?_;refine zT 7 ?_;refine zT 10 ?_;refine zT 11 ?_;refine zT 12 ?_;refine zT 14 ?_;refine zT 15 ?_;refine zV (w:=t.drew) (λ l=>l.cell? (nb,1)=some (ad ka (Y b) kc)/\l.cell? (nb,2)=some (ad va (Y d) vc)) 18 (by exact ⟨b1,b2⟩) λ h4=>?_;refine zU 5 h4 ?_;refine zU 13 h4 ?_;clear h4;refine Nz (i:=8) (j:=16) (by kernel_rfl) rfl rfl (λ K s=>?_) (λ K s=>?_)
  rotate_left
  go_simp;refine s.out _ _ (λ _=>?_) ?_
  ·exact lm _ (by (repeat (first|assumption|with_reducible apply lh|with_reducible apply lX)))
  clear s K;refine zL 8 λ K s=>?_;go_simp;refine s.out _ _ (λ _=>?_) ?_
  ·exact lm _ (by (repeat (first|assumption|with_reducible apply lh|with_reducible apply lX)))
  clear s K
  rotate_left
  go_simp;refine s.out _ _ (λ _=>?_) ?_
  ·exact lm _ (by (repeat (first|assumption|with_reducible apply lh|with_reducible apply lX)))
  clear s K;refine Nz (i:=9) (j:=16) (by kernel_rfl) rfl rfl (λ K s=>?_) (λ K s=>?_)
  rotate_left
  go_simp;refine s.out _ _ (λ _=>?_) ?_
  ·exact lm _ (by (repeat (first|assumption|with_reducible apply lh|with_reducible apply lX)))
  clear s K;refine zL 9 λ K s=>?_
  rotate_left
  refine zL 9 λ K s=>?_
  rotate_left
  all_goals
   go_simp;refine(HI1.out _ _ ?_ ?_ ?_).mono ?_
   ·(repeat (first|with_reducible exact aU _ _|with_reducible apply KI|with_reducible apply Jb))
   ·(repeat (first|(focus ((with_reducible refine Gm ?_);simp;done))|with_reducible apply lh|with_reducible apply lX))
   ·(first|exact aH _|simp)
   rintro q w3 ⟨g,c,rfl,m1,mb,hj⟩
   (try dsimp only)
   refine s.out _ _ (λ _=>?_) ?_
   ·exact lm _ (by (repeat (first|assumption|with_reducible apply lh|with_reducible apply lX)))
   clear s K
  refine zL 16 λ K s=>?_;go_simp;refine s.out _ _ (λ _=>?_) ?_
  ·exact lm _ (by (repeat (first|assumption|with_reducible apply lh|with_reducible apply lX)))
  clear s K
  all_goals
   refine zL 17 λ K s=>?_;go_simp;refine(HI2.out _ _ ?_ ?_ ?_).mono ?_
   ·exact⟨_,_,iA.next m1 (by repeat (first|with_reducible exact aU _ _|with_reducible apply KI|with_reducible apply Jb))⟩
   ·(repeat (first|(focus ((with_reducible refine Gm ?_);simp;done))|with_reducible apply lh|with_reducible apply lX|(refine mb _ _ ?_ ?_;focus (simp;done))))
   ·(first|(focus (simp;done))|(focus (refine aT m1.kept.size ?_;simp;done)))
   rintro q w4 ⟨e,n,rfl,l2,s1,s2,q1,q2⟩
   (try dsimp only)
   refine zK s ?_ (λ _=>⟨s1,s2⟩);refine zM 18 ?_;refine zM 19 ?_;refine zM 20 ?_;refine zM 21 ?_;refine zM 22 ?_;refine zM 23 ?_;refine Cq (by kernel_rfl) ?_ _
   go_wp2_with fail
   go_meet
   case rel=>exact HP.out _ _ _ _ _ _ (iA.next m1 (by repeat (first|with_reducible exact aU _ _|with_reducible apply KI|with_reducible apply Jb))) l2
 obtain⟨G,S,a,I,C,L,J⟩:=H1.out;obtain⟨h,x⟩:=HH.out;obtain⟨p2,hr,X,k2⟩:=fY h G a I C L J hcut;obtain⟨uM,Ot,c,n,h2,VG,h7,lH⟩:=hcut;have hg:=HI.out.1;have Q:=HI.out.2.1;have y:=HI.out.2.2;have e1:(b.take i++key::b.drop i).length=Y b+1:=by simp;omega
 have e2:(d.take i++v::d.drop i).length=Y b+1:=by simp;omega
 have ok:og ⟨true,b.take i++key::b.drop i,d.take i++v::d.drop i,[]⟩:=⟨λ _=>⟨by rw[e1,e2],rfl,by rw[e1];omega⟩,λ h=>by cases h⟩;have HF:=zH (iz hr);have Ou:∀j,(λ j=>E j\/(N<=j/\j<M)\/(t.1.size<=j/\j<wc.1.size)) j->j<wc.1.size:=p2.there;have nH:∀j,E j->j<N:=λ j F=>cB (h.pz.there j F) G;have zm:T≠nb:=λ q=>mE nb (cB (q▸nH T h.mem) a.ge);have h8:nb≠0 :=λ q=>mE nb (cB (cB (q▸h.pz.tab.lt) G) a.ge);obtain⟨h9,ha⟩:=h2.wins
 have Gn:∀g,(aG uM g\/aG Ot g\/aG none g)->(λ j=>E j\/(N<=j/\j<M)\/(t.1.size<=j/\j<wc.1.size)) g:=λ g u=>by
  rcases u with u|u|u
  ·rcases h7 g u with z|z
   ·exact al (O ⟨(a.new g (O z)).1,C g (O z)⟩)
   exact al (al ⟨z,h2.k.lt u⟩)
  ·rcases lH g u with z|z
   ·exact al (O ⟨(a.new g (al (O z))).1,C g (al (O z))⟩)
   exact al (al ⟨z,h2.v.lt u⟩)
  cases u
 have Jc:∀j,E j->(E j\/(N<=j/\j<M)\/(t.1.size<=j/\j<wc.1.size))/\j≠nb:=λ j F=>⟨O F,λ q=>mE nb (cB (q▸nH j F) a.ge)⟩;by_cases hf:qw ⟨true,b.take i++key::b.drop i,d.take i++v::d.drop i,[]⟩=true
 ·have HS2:=zH (fE (E:=λ j=>E j\/(N<=j/\j<M)\/(t.1.size<=j/\j<wc.1.size)) p2 Z X (O h.mem) zm x.has h9 Gn (λ g u=>(ha g u).2) Ou (al (O ⟨a.ge,I⟩)) h8 ok hf)
  have HB:=zH (λ (l:World) (h1:AP) (more:Nat) (er:Int) (st:kL A f ⟨true,b.take i++key::b.drop i,d.take i++v::d.drop i,[]⟩ h1 more (mU ⟨true,b.take i++key::b.drop i,d.take i++v::d.drop i,[]⟩).2.2 er) (H:PZ (λ j=>E j\/(N<=j/\j<M)\/(t.1.size<=j/\j<wc.1.size)) l P D h1 (k+2+6)) (B:Kept (λ j=>(E j\/(N<=j/\j<M)\/(t.1.size<=j/\j<wc.1.size))/\j≠nb) wc l)=>(show qy E W l P D T p A (k+8) f 0 key v (aw (a9 #[V U more,V a7 ((mU ⟨true,b.take i++key::b.drop i,d.take i++v::d.drop i,[]⟩).2.2.toNat:Int),V U er]))from
   ⟨h1,more,_,er,k+2+6,rfl,.leaf HY.out y h6 st,⟨H.less (λ _ F=>O F),X.ae (B.block T (Jc T h.mem)),h.mem⟩,aH _,k2.trans (B.mono Jc)⟩))
  generalize (mU ⟨true,b.take i++key::b.drop i,d.take i++v::d.drop i,[]⟩).2.2=κ at HS2 HB;clear H1 HH G S a I C L J h x p2 hr X k2 hg Q y e1 e2 HI HI1 HI2 HP h2 VG h7 lH ok Ou nH zm h8 h9 ha Gn Jc;rw[hf]at HF
  go_wp2_with fail
  refine HF.out.mono ?_;rintro q w5 ⟨rfl,rfl⟩
  go_wp2_with fail
  refine HS2.out.mono ?_;rintro q w6 ⟨mb,rfl,eF⟩;replace eF:=zH eF
  go_wp2_with fail
  refine eF.out.mono ?_;rintro q w7 ⟨rfl,h5⟩;replace h5:=zH h5
  go_wp2_with fail
  refine h5.out.mono ?_;rintro q w8 ⟨h1,more,er,rfl,st,H,B⟩;have HG:=zH (HB.out _ h1 more er st H B);clear st H B;go_wp2
  go_ret3
  exact HG.out
 have CG:qw ⟨true,b.take i++key::b.drop i,d.take i++v::d.drop i,[]⟩=false:=by simpa using hf
 have HS2:=zH (cZ p2 Z X x.has hr (ok.fits CG))
 have HB:=zH (λ (l:World) (H:PZ (λ j=>E j\/(N<=j/\j<M)\/(t.1.size<=j/\j<wc.1.size)) l P D (A.ax f (aX (A.c f) ⟨true,b.take i++key::b.drop i,d.take i++v::d.drop i,[]⟩)) (k+2+3)) (B:Kept (λ j=>E j\/(N<=j/\j<M)\/(t.1.size<=j/\j<wc.1.size)) wc l)=>(show qy E W l P D T p A (k+8) f 0 key v (aw (a9 #[V U 0,V a7 0,V U 0]))from
  ⟨_,0,0,0,k+2+3,rfl,.leaf HY.out y h6 (.one CG),⟨H.less (λ _ F=>O F),X.ae (B.block T (O h.mem)),h.mem⟩,Z,k2.trans (B.mono (λ _ F=>O F))⟩))
 clear H1 HH G S a I C L J h x p2 hr X k2 hg Q y e1 e2 HI HI1 HI2 HP h2 VG h7 lH ok Ou nH zm h8 h9 ha Gn Jc hf;rw[CG]at HF
 go_wp2_with fail
 refine HF.out.mono ?_;rintro q w5 ⟨rfl,rfl⟩
 go_wp2_with fail
 refine HS2.out.mono ?_;rintro q w6 ⟨rfl,H,B⟩;have HG:=zH (HB.out _ H B);clear H B;go_wp2
 go_ret3
 exact HG.out
open UK (str aF nth Only Row ay)
theorem eu.found{l:List UInt64}{key:UInt64}{i:Nat}(h:eu l key i)(d:jV l)(b:key∈l):l[i]?=some key:=by
 rcases yu i (Y l) with a|a
 ·have c:=bK a;have:=(h.mem d c).1 b;rw[c,mV.1 this]
 have:i=Y l:=Nat.le_antisymm h.le a;subst this;exact absurd b h.none
theorem c9(l:List UInt64)(i:Nat)(v:UInt64):(az l).set i (V a7 (v.toNat:Int))=az (l.set i v):=by unfold az;rw[List.map_set]
theorem Bo(h:aP E W P D T p A k)(hk:k+8<900000000)(q:A.Has f)(r:aB A f=some ⟨true,b,d,[]⟩)(hs:jV b)(o:Y d=Y b)(hl:Y b<=30)(key v:UInt64)(hm:key∈b)(deep:Nat)(hd:deep<=20) :
  Calls prog 180 #[aq T,V U f,V a7 key.toNat,V a7 v.toNat,V U deep] W λ e F=>qy E W F P D T p A (k+8) f 0 key v e:=by
 have HL:=zH (yJ h.pz Z h.box q r);have J:=bp h q r o;clear h q r o
 go_enter func180,ntmps180
 go_wp2_with fail
 refine HL.out.mono ?_;rintro e w1 ⟨N,M,nb,ka,va,aa,kc,vc,ac,rfl,u,G,⟨c,x,s⟩,B,t⟩;obtain⟨h,q,r,o⟩:=J.out;have b0:=c.box.c0;have b1:=c.box.c1;have b2:=c.box.c2;have R:=IW (c.k.win (S:=λ _=>True) (λ _ _=>trivial)) hs (show Y b<=1000 from Z) key;rw[dH,decide_eq_true hm]at R;have HS:=zH R;have H1:=bs u G c x s B t;clear HL c x s B t R u G o h q r
 go_wp2_with fail
 refine HS.out.mono ?_;rintro e n ⟨i,rfl,h2,rfl⟩;obtain⟨u,G,c,x,s,B,t⟩:=H1.out;obtain⟨h,q,r,o⟩:=J.out;have hf:=h2.found hs hm;have hi:i<Y d:=by rw[o];exact(dz.1 hf).1
 obtain⟨a,rfl,C⟩:∃a,va=some ⟨a,0,none⟩/\Row n a vc (az d):=by
  rcases c.v with⟨_,Q,_⟩|⟨g,h1,Q⟩
  ·have:=congrArg List.length Q;rw[dH]at this;exact absurd this (by show Y d≠0;omega)
  exact⟨g,h1,Q⟩
 have X:i<(az d).length:=by rw[dH];exact hi
 have hc:n.cell? (a,i)=some ((az d)[i]):=C.at' i _ (bK X);have h4:n.frozen? ⟨a,i,none⟩=false:=C.free i (cB X C.le);have h5:(i:Int)<(Y d:Int):=Int.ofNat_lt.2 hi;have w:=c.new a (al (O rfl));have K:=s a (al (O rfl));have h3:=c.ge;have m:Only a n (n.setCell (a,i) (V a7 (v.toNat:Int))):=(Only.refl a n).set i _;have r3:=C.set i (V a7 (v.toNat:Int)) X;rw[c9]at r3;have p3:PZ (λ j=>E j\/N<=j/\j<M) (n.setCell (a,i) (V a7 (v.toNat:Int))) P D A (k+2):=B.over (R:=λ j=>j=a) (T:=λ j=>E j\/N<=j/\j<M) (λ j l=>by rw[l];exact al ⟨w.1,K⟩) (λ S=>mE a (cB (cB (S▸h.pz.tab.lt) u) w.1)) m.size (λ j l H=>m.block j l H) (λ j l=>O l);have nH:∀j,E j->j<N:=λ j l=>cB (h.pz.there j l) u;have kE:Kept E n (n.setCell (a,i) (V a7 (v.toNat:Int))):=⟨m.os,m.tape,m.output,m.size,λ j l=>m.block j (cB (h.pz.there j l) t.size) (λ S=>mE a (cB (S▸nH j l) w.1))⟩;have L:=(h.box.ae (t.block T h.mem)).ae (kE.block T h.mem)
 have H:jU (λ j=>E j\/N<=j/\j<M) (n.setCell (a,i) (V a7 (v.toNat:Int))) nb ⟨true,b,d.set i v,[]⟩:=by
  refine⟨ad ka (Y b) kc,ad a (Y d) vc,ad aa 0 ac,c.box.only m w.2.symm,al ⟨c.ge,x⟩,?_,?_,?_⟩
  ·have:=(c.k.only m (λ e=>c.kv a e rfl)).win (S:=λ j=>E j\/N<=j/\j<M) (λ g y=>al ⟨(c.new g (O y)).1,s g (O y)⟩);rw[dH]at this;exact this
  ·have:=xz (S:=λ j=>E j\/N<=j/\j<M) r3 (al ⟨w.1,K⟩);rw[dH,aV]at this;exact this
  have:=(c.a.only m (λ e=>c.va a rfl e)).win (S:=λ j=>E j\/N<=j/\j<M) (λ g y=>al ⟨(c.new g (al (al y))).1,s g (al (al y))⟩);exact this
 have h0:Fits ⟨true,b,d.set i v,[]⟩:=⟨λ _=>⟨hl,by simpa using o,rfl⟩,λ h=>by cases h⟩;have HS2:=zH (cZ p3 Z L q H h0)
 have HB:=zH (λ (F:World) (I:PZ (λ j=>E j\/N<=j/\j<M) F P D (A.ax f (aX (A.c f) ⟨true,b,d.set i v,[]⟩)) (k+2+3)) (z:Kept (λ j=>E j\/N<=j/\j<M) (n.setCell (a,i) (V a7 (v.toNat:Int))) F)=>(show qy E W F P D T p A (k+8) f 0 key v (aw (a9 #[V U 0,V a7 0,V U 0]))from
  ⟨_,0,0,0,k+2+3,rfl,.found r hf,⟨I.less (λ _ l=>O l),L.ae (z.block T (O h.mem)),h.mem⟩,Z,(t.trans kE).trans (z.mono (λ _ l=>O l))⟩))
 clear H1 HS J u G c x s B t h q r o h2 hf C m r3 p3 nH kE L H h0 w K h3 hs hm hl
 go_wp2_with fail
 refine HS2.out.mono ?_;rintro e w6 ⟨rfl,I,z⟩;have HG:=zH (HB.out _ I z);clear I z;go_wp2
 go_ret3
 exact HG.out
section
variable{t:Nat}
theorem iA.BB{g:Nat}(h:iA N W o nb x ka va aa kc vc ac l g c)(p:aZ N W nb x ka va aa kc vc ac)(r:Row w e n (ints m))(f:Only e o w)(q:aG aa e\/o.1.size<=e) :
  aZ N ((w.setCell (nb,1) (ad g (Y l) c)).setCell (nb,3) (ad e (Y m) n)) nb {x with ag:=l,ak:=m} g va e c vc n /\
  Kept (λ j=>j<W.1.size/\¬(aG ka j\/aG va j\/aG aa j\/j=nb)) W ((w.setCell (nb,1) (ad g (Y l) c)).setCell (nb,3) (ad e (Y m) n)) /\
  ay w nb #[a6 x.leaf,ad ka (Y x.ag) kc,ad va (Y x.vals) vc,ad aa (Y x.ak) ac]/\e≠nb:=by
 have E:=h.row.lt;have F:=h.box.lt;have v:=h.kept.size;have D:=p.box.lt;have C:=p.ge
 have s:N<=e/\e≠nb:=by
  rcases q with d|d
  ·exact p.new e (al (al d))
  exact⟨Z,Z⟩
 have g12:e≠g:=by
  rcases q with d|d
  ·exact λ b=>h.ga (b▸d)
  omega
 have ga:¬aG va e:=by
  rcases q with d|d
  ·exact λ b=>p.va e b d
  exact λ b=>by have:=h.v.lt b;omega
 have z:=h.row.only f g12.symm;have y:=h.v.only f ga;have b1:=h.box.only f s.2.symm;have i:Only nb w ((w.setCell (nb,1) (ad g (Y l) c)).setCell (nb,3) (ad e (Y m) n)):=((Only.refl nb w).set 1 _).set 3 _;have t:=(b1.set 1 (ad g (Y l) c)).set 3 (ad e (Y m) n);generalize (w.setCell (nb,1) (ad g (Y l) c)).setCell (nb,3) (ad e (Y m) n)=G at i t ⊢;refine⟨⟨by simpa using t,al ⟨g,rfl,z.only i h.ne⟩,y.only i (λ b=>(p.new nb (al (O b))).2 rfl),al ⟨e,rfl,r.only i s.2⟩,p.ge,λ j a=>?_,λ _ a b=>?_,λ _ a b=>?_,λ _ a b=>?_⟩,⟨(i.os.trans f.os).trans h.kept.os,(i.tape.trans f.tape).trans h.kept.tape,(i.output.trans f.output).trans h.kept.output,aT (aT v f.size) i.size,λ j a=>?_⟩,b1,s.2⟩
 ·rcases a with a|a|a
  ·rw[eY a];exact⟨h.ge,h.ne⟩
  ·exact p.new j (al (O a))
  rw[eY a];exact s
 ·rw[eY a]at b;exact h.gv b
 ·have A:=eY a;have B:=eY b;exact g12 Z
 ·rw[eY b]at a;exact ga a
 have u:j<o.1.size:=cB a.1 v
 refine((i.block j (cB u f.size) (λ b=>a.2 (al (al (al b))))).trans (f.block j u (λ b=>?_))).trans (h.kept.block j ⟨a.1,λ k=>a.2 (by
  rcases k with k|k|k
  ·exact O k
  ·exact al (O k)
  exact al (al (al k)))⟩)
 subst b;rcases q with d|d
 ·exact a.2 (al (al (O d)))
 omega
def uN(N:Nat)(W w:World)(nb:Nat)(ka va aa:Option Addr)(l:List UInt64)(m:List Nat):Prop:=
 ∃b a c d n,aZ N w nb {leaf:=false,ag:=l,vals:=[],ak:=m} b va a c d n/\Kept (λ j=>j<W.1.size/\¬(aG ka j\/aG va j\/aG aa j\/j=nb)) W w/\(∀j,aG b j->aG ka j\/W.1.size<=j)/\(∀j,aG a j->aG aa j\/W.1.size<=j)
theorem cw{g a k:Nat}(h:aZ N W nb {leaf:=false,ag:=b,vals:=[],ak:=r} ka va aa kc vc ac)(i:iA N W o nb {leaf:=false,ag:=b,vals:=[],ak:=r} ka va aa kc vc ac l g c)(x:Row w e n (ints m))(v:Only e o w)(s:aG aa e\/o.1.size<=e)(t:Y l=a)(u:Y m=k) :
  uN N W ((w.setCell (nb,1) (ad g a c)).setCell (nb,3) (ad e k n)) nb ka va aa l m:=by
 obtain⟨p,q,_,_⟩:=i.BB h x v s;rw[t,u]at p q;refine⟨_,_,_,_,_,p,q,λ j f=>?_,λ j f=>?_⟩
 ·rw[eY f];exact i.own
 rw[eY f];rcases s with d|d
 ·exact O d
 exact al (aT i.kept.size d)
theorem F0{f:World}{B:AP}(h:aP E W P D T p B t)(K:W.1.size<=N)(o:aZ N f nb {leaf:=false,ag:=b,vals:=[],ak:=r} ka va aa kc vc ac)(x:nb<M)(s:∀g,aG ka g\/aG va g\/aG aa g->g<M)(H:PZ (λ j=>E j\/N<=j/\j<M) f P D A k)(v:Kept E W f)(F:uN N f wc nb ka va aa l m) :
  PZ (λ j=>E j\/(N<=j/\j<M)\/(f.1.size<=j/\j<wc.1.size)) wc P D A k/\jU (λ j=>E j\/(N<=j/\j<M)\/(f.1.size<=j/\j<wc.1.size)) wc nb {leaf:=false,ag:=l,vals:=[],ak:=m}/\ay wc T #[aq P,V U p]/\Kept E W wc:=by
 obtain⟨L,I,c,J,n,u,w,C,G⟩:=F
 have i:∀j,aG ka j\/aG va j\/aG aa j\/j=nb->N<=j/\j<M:=λ j a=>by
  rcases a with a|a|a|rfl
  ·exact⟨(o.new j (O a)).1,s j (O a)⟩
  ·exact⟨(o.new j (al (O a))).1,s j (al (O a))⟩
  ·exact⟨(o.new j (al (al a))).1,s j (al (al a))⟩
  exact⟨o.ge,x⟩
 have y:=h.pz.there;have z:Kept E f wc:=w.mono (λ j a=>⟨cB (y j a) v.size,λ q=>by have:=(i j q).1;have:=y j a;omega⟩);refine⟨H.over (R:=λ j=>aG ka j\/aG va j\/aG aa j\/j=nb) (λ j a=>al (i j a)) (λ q=>by have:=(i _ q).1;have:=h.pz.tab.lt;omega) w.size (λ j a q=>w.block j ⟨a,q⟩) (λ j a=>?_),u.reads (al (O ⟨o.ge,x⟩)) (λ g d=>?_),(h.box.ae (v.block T h.mem)).ae (z.block T h.mem),v.trans z⟩
 ·rcases a with a|a|a
  ·exact O (O a)
  ·exact O (al a)
  exact al a
 rcases d with d|d|d
 ·rcases C g d with e|e
  ·exact al (O (i g (O e)))
  exact al (al ⟨e,KL u.k d⟩)
 ·exact al (O (i g (al (O d))))
 rcases G g d with e|e
 ·exact al (O (i g (al (al (O e)))))
 exact al (al ⟨e,KL u.a d⟩)
end
theorem aZ.move(h:aZ N W nb x ka va aa kc vc ac)(e:nb<M)(c:∀g,aG ka g\/aG va g\/aG aa g->g<M)(d:W.1.size<=s.1.size)(b:∀g,N<=g->g<M->s.1[g]?=W.1[g]?):aZ N s nb x ka va aa kc vc ac:=
 ⟨h.box.ae (b nb h.ge e),h.k.ae d (λ g a=>b g (h.new g (O a)).1 (c g (O a))),h.v.ae d (λ g a=>b g (h.new g (al (O a))).1 (c g (al (O a)))),h.a.ae d (λ g a=>b g (h.new g (al (al a))).1 (c g (al (al a)))),h.ge,h.new,h.kv,h.ka,h.va⟩
theorem dQ.Gp(h:dQ ag q i)(g:dQ ag q j):¬i<j:=λ a=>by
 have b:i<Y ag:=cB a g.le;have c:ag[i]∈ag.drop i:=List.mem_iff_getElem?.2 ⟨0,by rw[eP];exact bK b⟩;have d:ag[i]∈ag.take j:=List.mem_iff_getElem?.2 ⟨i,by rw[fT a];exact bK b⟩;have e:=h.above _ c;have f:=g.below _ d;omega
theorem dQ.inj(h:dQ ag q i)(g:dQ ag q j):i=j:=by
 have:=h.Gp g;have:=g.Gp h;omega
theorem Fm{q:World}{d x more C:Nat}{B:AP}{key v r:UInt64}(l:aP E W P D T p A k)(hk:k+x+8<900000000)(hy:aB A f=some ⟨false,ag,[],h⟩)(S:dQ ag key i)(R:h[i]?=some c)(Y:lW key v d A c B more r 0)(X:more≠0)(pu:B.Has f)(ok:og ⟨false,ag.take i++r::ag.drop i,[],h.take (i+1)++more::h.drop (i+1)⟩)(G:W.1.size<=N)(o:aZ N q nb ⟨false,ag,[],h⟩ ka va aa kc vc ac)(Q:nb<M)(y:∀g,aG ka g\/aG va g\/aG aa g->g<M)(p1:PZ (λ j=>E j\/N<=j/\j<M) q P D B C)(h7:C<=k+2+x)(k1:Kept E W q)(hcut:uN N q wc nb ka va aa (ag.take i++r::ag.drop i) (h.take (i+1)++more::h.drop (i+1))) :
  Calls prog 237 #[aq nb] wc (λ e w'=>e=aw (a6 (qw ⟨false,ag.take i++r::ag.drop i,[],h.take (i+1)++more::h.drop (i+1)⟩))/\w'=wc) /\
  (qw ⟨false,ag.take i++r::ag.drop i,[],h.take (i+1)++more::h.drop (i+1)⟩=true->Calls prog 238 #[aq nb] wc λ e w5=>∃(F:Nat) (L:UInt64),e=aw (a9 #[aq F,V a7 (L.toNat:Int)]) /\
   Calls prog 150 #[aq T,V U f,aq nb] w5 λ e w=>e=aw (V U 0) /\
    Calls prog 181 #[aq T,aq F] w λ e w7=>∃(u:Nat) (s:Int),e=aw (a9 #[V U u,V U s])/\qy E W w7 P D T p A (k+x+8) f (d+1) key v (aw (a9 #[V U u,V a7 (L.toNat:Int),V U s]))) /\
  (qw ⟨false,ag.take i++r::ag.drop i,[],h.take (i+1)++more::h.drop (i+1)⟩=false->Calls prog 150 #[aq T,V U f,aq nb] wc λ e w=>e=aw (V U 0)/\qy E W w P D T p A (k+x+8) f (d+1) key v (aw (a9 #[V U 0,V a7 0,V U 0]))):=by
 obtain⟨I,hr,z,k2⟩:=F0 l G o Q y p1 k1 hcut;obtain⟨uM,KJ,cc,Rf,n,H,VG,h1,lH⟩:=hcut;have Ou:∀j,(λ j=>E j\/(N<=j/\j<M)\/(q.1.size<=j/\j<wc.1.size)) j->j<wc.1.size:=I.there;have nH:∀j,E j->j<N:=λ j b=>cB (l.pz.there j b) G;have zm:T≠nb:=λ e=>mE nb (cB (e▸nH T l.mem) o.ge);have h2:nb≠0 :=λ e=>mE nb (cB (cB (e▸l.pz.tab.lt) G) o.ge);obtain⟨h3,h4⟩:=H.wins
 have Gn:∀g,(aG uM g\/aG va g\/aG KJ g)->(λ j=>E j\/(N<=j/\j<M)\/(q.1.size<=j/\j<wc.1.size)) g:=λ g a=>by
  rcases a with a|a|a
  ·rcases h1 g a with m|m
   ·exact al (O ⟨(o.new g (O m)).1,y g (O m)⟩)
   exact al (al ⟨m,H.k.lt a⟩)
  ·exact al (O ⟨(o.new g (al (O a))).1,y g (al (O a))⟩)
  rcases lH g a with m|m
  ·exact al (O ⟨(o.new g (al (al m))).1,y g (al (al m))⟩)
  exact al (al ⟨m,H.a.lt a⟩)
 have K:∀j,E j->(E j\/(N<=j/\j<M)\/(q.1.size<=j/\j<wc.1.size))/\j≠nb:=λ j b=>⟨O b,λ e=>mE nb (cB (e▸nH j b) o.ge)⟩;refine⟨iz hr,λ hf=>?_,λ hf=>?_⟩
 ·refine(fE (E:=λ j=>E j\/(N<=j/\j<M)\/(q.1.size<=j/\j<wc.1.size)) I Z z (O l.mem) zm pu h3 Gn (λ g a=>(h4 g a).2) Ou (al (O ⟨o.ge,Q⟩)) h2 ok hf).mono ?_;rintro e w5 ⟨F,rfl,h5⟩;refine⟨F,_,rfl,h5.mono ?_⟩;rintro e w ⟨rfl,h6⟩;refine⟨rfl,h6.mono ?_⟩;rintro e w7 ⟨h0,u,s,rfl,st,J,t⟩;exact⟨u,s,rfl,h0,u,_,s,C+6,rfl,.up hy S R Y X st,⟨J.less (λ _ b=>O b),z.ae (t.block T (K T l.mem)),l.mem⟩,Z,k2.trans (t.mono K)⟩
 refine(cZ I Z z pu hr (ok.fits hf)).mono ?_;rintro e w ⟨rfl,J,t⟩;exact⟨rfl,_,0,0,0,C+3,rfl,.up hy S R Y X (.one hf),⟨J.less (λ _ b=>O b),z.ae (t.block T (O l.mem)),l.mem⟩,Z,k2.trans (t.mono (λ _ b=>O b))⟩
