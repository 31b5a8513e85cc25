/- Facts on texts on pages. -/
import Derived.Test.YtgpmiliahonaoaaGreatDoorKTsMc
set_option maxRecDepth 100000
set_option maxHeartbeats 8000000
set_option linter.unusedSimpArgs false
open Go.Value renaming bool->a6,int->V,pointer->aq,slice->ad,string->a8,tuple->a9
open Go.IntKind renaming i64->U,u64->a7
open Go.Ending renaming returned->aw
open Or renaming inl->O,inr->al
open List renaming length->Y
open Go.Proofs.Tryz
namespace Go.Proofs.YtgpmiliahonaoaaGreatDoor
open Go.RowKit
open UK (str aF nth Only Row ay)
open Go.BigFrame
variable{E:Nat->Prop}{W e:World}{P D T rt d:Nat}{k κ:UInt64}{A B:AP}{a:List UInt64}{ak ps:List Nat}{b:List UInt8}{x:KV}
section
variable{k pg:Nat}
theorem oX{K0 i c:Nat}(h:aP E W P D T rt A k)(hk:k+K0+8<900000000)(y:A.Has pg)(u:aB A pg=some ⟨false,a,[],ak⟩)(hs:jV a)(hl:Y a<=100)(F:Y ak=Y a+1)(key h1:UInt64)(deep:Nat)(hd:deep<=20)(v:dQ a key i)(S:ak[i]?=some c)(ht:∀(E1:Nat->Prop) (z:World),aP E1 z P D T rt A (k+2)->Calls prog 180 #[aq T,V U c,V a7 key.toNat,V a7 h1.toNat,V U ((deep:Int)+1)] z λ e b=>qy E1 z b P D T rt A (k+2+K0) c d key h1 e)(hq:∀(B:AP) (more:Nat) (κ:UInt64) (t:Int),lW key h1 d A c B more κ t->(t≠0\/more=0)\/(t=0/\more≠0/\B.Has pg/\og ⟨false,a.take i++κ::a.drop i,[],ak.take (i+1)++more::ak.drop (i+1)⟩)) :
  Calls prog 180 #[aq T,V U pg,V a7 key.toNat,V a7 h1.toNat,V U deep] W λ e b=>qy E W b P D T rt A (k+K0+8) pg (d+1) key h1 e:=by
 have HL:=zH (yJ h.pz Z h.box y u);have HH:=bp h y u F;have HO:=zH hq;have HR:=zH ht;have hm:i<Y ak:=(dz.1 S).1;have hw:(i:Int)<(Y ak:Int):=Int.ofNat_lt.2 hm;have x2:IntKind.i64.wrap ((deep:Int)+1)=(deep:Int)+1:=by rw[dM];omega
 have Ov:wrap64 ((deep:Int)+1)=(deep:Int)+1:=by unfold wrap64;omega
 have x4:IntKind.i64.wrap ((i:Int)+1)=(i:Int)+1:=by
  have:i<=101:=Z
  rw[dM];omega
 have x1:¬(20:Int)<(deep:Int):=Z
 clear h y u F hq ht
 go_enter func180,ntmps180
 go_wp2_with fail
 refine HL.out.mono ?_;rintro e z ⟨N,hy,j,o,w,aa,r,J,p,rfl,hN,hM,⟨s,Q,C⟩,p1,G⟩;obtain⟨h,y,u,F⟩:=HH.out;have hp:jU (λ _=>True) z j ⟨false,a,[],ak⟩:=s.wins.1.reads (λ _ _=>trivial) trivial;have HK:=zH (QZ hp hs (show Y a<=1000 from Z) key);have b0:=s.box.c0;have b3:=s.box.c3
 obtain⟨l,rfl,ra⟩:∃l,aa=some ⟨l,0,none⟩/\Row z l p (ints ak):=by
  rcases s.a with⟨_,h2,_⟩|⟨g,R,h2⟩
  ·have:=congrArg List.length h2;rw[iC]at this;exact absurd this (by show Y ak≠0;omega)
  exact⟨g,R,h2⟩
 have hi:z.cell? (l,i)=some (V U (c:Int)):=ra.at' i _ (by unfold ints;rw[dL,S];rfl);have H1:=bs hN hM s Q C p1 G;have HT:=zH (HR.out _ z ⟨p1,h.box.ae (G.block T h.mem),O h.mem⟩);clear HL s Q C p1 G hN hM h y u F hp HR ra
 go_wp2_with fail
 refine HK.out.mono ?_;rintro e w2 ⟨i2,rfl,vY,rfl⟩;obtain rfl:i=i2:=(vY.inj v).symm
 go_wp2_with fail
 refine HT.out.mono ?_;rintro e n ⟨B,more,κ,t,kk,rfl,h3,h4,he,k3⟩;obtain⟨hN,hM,s,Q,C,p1,G⟩:=H1.out;obtain⟨h,y,u,F⟩:=HH.out;have kE:Kept E W n:=G.trans (k3.mono (λ _ hj=>O hj));rcases HO.out B more κ t h3 with h6|⟨rfl,hh,pu,ok⟩
 ·have hG:qy E W n P D T rt A (k+K0+8) pg (d+1) key h1 (aw (a9 #[V U 0,V a7 0,V U t])):=
   ⟨B,0,0,t,kk,rfl,.stop u v S h3 h6,⟨h4.pz.less (λ _ hj=>O hj),h4.box,h.mem⟩,Z,kE⟩
  have L:=zH hG;clear H1 HH HO hN hM s Q C p1 G h y u F kE hG h4 k3 h3 he HT HK v vY hs hl S hi b0 b3 hm hw;by_cases X:t=0
  ·subst X;have ho:more=0:=h6.resolve_left (λ h=>h rfl);subst ho;clear h6;go_wp2
   go_ret3
   exact L.out
  have x3:(t==0)=false:=beq_eq_false_iff_ne.2 X;clear h6;go_wp2
  go_ret3
  exact L.out
 have m:aZ N n j ⟨false,a,[],ak⟩ o w l r J p:=s.move Q C k3.size (λ g R h2=>k3.block g (al ⟨R,h2⟩));have h9:N<=n.1.size:=Nat.le_of_lt (Nat.lt_of_le_of_lt m.ge m.box.lt);have b1:=m.box.c1;have b3:=m.box.c3;have hn:=v.le;have ho:(more==0)=false:=beq_eq_false_iff_ne.2 hh;have hz:((more:Int)==0)=false:=beq_eq_false_iff_ne.2 Z;have hR:=λ wc=>Fm (wc:=wc) h hk u v S h3 hh pu ok hN m Q C h4.pz he kE;have HRR:=zH hR;clear hR hh
 have HI1:=zH (λ (wa:World) (I:Nat) (ba:Below n n wa) (hv:ay wa I #[V a7 (κ.toNat:Int)]) (hx:n.1.size<=I)=>(show Calls prog 235 #[ad o (Y a) r,V U i,ad I 1 1] wa λ e b=>∃g c,e=aw (ad (some ⟨g,0,none⟩) (Y a+1) c)/\iA N n b j {leaf:=false,ag:=a,vals:=[],ak:=ak} o w l r J p (a.take i++κ::a.drop i) g c/\(∀ED cs,n.1.size<=ED->ay wa ED cs->ay b ED cs)/\ay b j #[a6 false,ad o (Y a) r,ad w 0 J,ad l (Y ak) p]from
  (VF (m.next ba).k (show Y a<=1000 from Z) v.le κ hv (λ e=>by have:=m.k.lt e;omega)).mono (λ e b ⟨g',c',X,h5,h0,hg⟩=>
   ⟨g',c',by rw[X];simp only[zl,zt,dF,zd];rw[show min i (Y a)+(Y a-i+1)=Y a+1 by have:=v.le;omega],m.yL h9 ba h5 h0 hg,λ ED cs x5 hb=>hb.only h0 (λ e=>by
    rcases hg with R|R
    ·have:=m.k.lt R;omega
    have:=hb.lt;omega),(m.yL h9 ba h5 h0 hg).box⟩)))
 have HI2:=zH (λ (x:World) (I:Nat) (mm:∃g c,iA N n x j {leaf:=false,ag:=a,vals:=[],ak:=ak} o w l r J p (a.take i++κ::a.drop i) g c) (hv:ay x I #[V U (more:Int)]) (hx:n.1.size<=I)=>(show Calls prog 236 #[ad l (Y ak) p,V U ((i:Int)+1),ad I 1 1] x λ e b=>∃q M,e=aw (ad (some ⟨q,0,none⟩) (Y ak+1) M)/\(Row b q M (ints (ak.take (i+1)++more::ak.drop (i+1)))/\Only q x b/\(aG l q\/x.1.size<=q))/\b.cell? (j,1)=some (ad o (Y a) r)/\b.cell? (j,3)=some (ad l (Y ak) p)/\b.frozen? ⟨j,1,none⟩=false/\b.frozen? ⟨j,3,none⟩=false from
  let ⟨_,_,h7⟩:=mm
  (Iz h7.a (show Y ak<=1000 from Z) (show i+1<=Y ak from Z) more hv (λ e=>by have:=m.a.lt e;omega)).mono (λ e b ⟨g',c',X,h5,h0,hg⟩=>by
   have hd:=(h7.BB m h5 h0 hg).2.2.1;exact⟨g',c',by rw[X];simp only[zl,zt,dF,zd];rw[show min (i+1) (Y ak)+(Y ak-(i+1)+1)=Y ak+1 from Z],⟨h5,h0,hg⟩,hd.cell 1 _ rfl,hd.cell 3 _ rfl,hd.free 1,hd.free 3⟩)))
 have hu:ay n j #[a6 false,ad o (Y a) r,ad w 0 J,ad l (Y ak) p]:=m.box;have H:∀h8:World,ay h8 j #[a6 false,ad o (Y a) r,ad w 0 J,ad l (Y ak) p]->h8.cell? (j,1)=some (ad o (Y a) r)/\h8.cell? (j,3)=some (ad l (Y ak) p):=λ h8 hb=>⟨hb.cell 1 _ rfl,hb.cell 3 _ rfl⟩
 have HP:=zH (λ (x b:World) (g c q M:Nat) (h7:iA N n x j {leaf:=false,ag:=a,vals:=[],ak:=ak} o w l r J p (a.take i++κ::a.drop i) g c) (l2:Row b q M (ints (ak.take (i+1)++more::ak.drop (i+1)))/\Only q x b/\(aG l q\/x.1.size<=q))=>(show uN N n ((b.setCell (j,1) (ad g (Y a+1) c)).setCell (j,3) (ad q (Y ak+1) M)) j o w l (a.take i++κ::a.drop i) (ak.take (i+1)++more::ak.drop (i+1))from
  cw m h7 l2.1 l2.2.1 l2.2.2 (by simp;omega) (by simp;omega)))
 have HX:=bm m v hn;clear F m s C p1 G v vY HT HK h3 h4 k3 he kE h y u HO H1 ok pu S hi b0
 go_upto_region 16 with(fail)
 go_cut [] (λ wx=>uN N n wx j o w l (a.take i++κ::a.drop i) (ak.take (i+1)++more::ak.drop (i+1)))
 case first=>
  refine wp_region_any (by kernel_rfl) ?_;refine zT 0 ?_;refine zT 1 ?_;refine zT 2 ?_;refine zT 3 ?_;refine zT 4 ?_;refine zT 6 ?_;refine zT 7 ?_;refine zT 10 ?_;refine zT 11 ?_;refine zT 12 ?_;refine zT 14 ?_;refine zT 15 ?_;refine zT 16 ?_;refine zV (w:=n.drew) (λ b=>b.cell? (j,1)=some (ad o (Y a) r)/\b.cell? (j,3)=some (ad l (Y ak) p)) 19 (by exact ⟨b1,b3⟩) λ ha=>?_;refine zU 5 ha ?_;refine zU 13 ha ?_;clear ha;refine Nz (i:=8) (j:=17) (by kernel_rfl) rfl rfl (λ K f=>?_) (λ K f=>?_)
  rotate_left
  go_simp;refine f.out _ _ (λ _=>?_) ?_
  ·exact H _ (by (repeat (first|assumption|with_reducible apply lh|with_reducible apply lX)))
  clear f K;refine zL 8 λ K f=>?_;go_simp;refine f.out _ _ (λ _=>?_) ?_
  ·exact H _ (by (repeat (first|assumption|with_reducible apply lh|with_reducible apply lX)))
  clear f K
  rotate_left
  go_simp;refine f.out _ _ (λ _=>?_) ?_
  ·exact H _ (by (repeat (first|assumption|with_reducible apply lh|with_reducible apply lX)))
  clear f K;refine Nz (i:=9) (j:=17) (by kernel_rfl) rfl rfl (λ K f=>?_) (λ K f=>?_)
  rotate_left
  go_simp;refine f.out _ _ (λ _=>?_) ?_
  ·exact H _ (by (repeat (first|assumption|with_reducible apply lh|with_reducible apply lX)))
  clear f K;refine zL 9 λ K f=>?_
  rotate_left
  refine zL 9 λ K f=>?_
  rotate_left
  all_goals
   go_simp;refine(HI1.out _ _ ?_ ?_ ?_).mono ?_
   ·(repeat (first|with_reducible exact aU _ _|with_reducible apply KI|with_reducible apply Jb))
   ·(repeat (first|(focus ((with_reducible refine Gm ?_);simp;done))|with_reducible apply lh|with_reducible apply lX))
   ·(first|exact aH _|simp)
   rintro e w4 ⟨g,c,rfl,m1,mb,x0⟩
   (try dsimp only)
   refine f.out _ _ (λ _=>?_) ?_
   ·exact H _ (by (repeat (first|assumption|with_reducible apply lh|with_reducible apply lX)))
   clear f K
  refine zL 17 λ K f=>?_;go_simp;refine f.out _ _ (λ _=>?_) ?_
  ·exact H _ (by (repeat (first|assumption|with_reducible apply lh|with_reducible apply lX)))
  clear f K
  all_goals
   refine zL 18 λ K f=>?_;go_simp;refine(HI2.out _ _ ?_ ?_ ?_).mono ?_
   ·exact⟨_,_,iA.next m1 (by repeat (first|with_reducible exact aU _ _|with_reducible apply KI|with_reducible apply Jb))⟩
   ·(repeat (first|(focus ((with_reducible refine Gm ?_);simp;done))|with_reducible apply lh|with_reducible apply lX|(refine mb _ _ ?_ ?_;focus (simp;done))))
   ·(first|(focus (simp;done))|(focus (refine aT m1.kept.size ?_;simp;done)))
   rintro e w5 ⟨q,M,rfl,l2,s1,s2,q1,q2⟩
   (try dsimp only)
   refine zK f ?_ (λ _=>⟨s1,s2⟩);refine zM 19 ?_;refine zM 20 ?_;refine zM 21 ?_;refine zM 22 ?_;refine zM 23 ?_;refine zM 24 ?_;refine Cq (by kernel_rfl) ?_ _
   go_wp2_with fail
   go_meet
   case rel=>exact HP.out _ _ _ _ _ _ (iA.next m1 (by repeat (first|with_reducible exact aU _ _|with_reducible apply KI|with_reducible apply Jb))) l2
 obtain⟨hF,hS,hO⟩:=HRR.out _ hcut;have HF:=zH hF;have VI:=zH hS;have VJ:=zH hO;clear hcut HRR hF hS hO HX HP HI1 HI2 HH hn H hu b1 b3 h9;by_cases hf:qw ⟨false,a.take i++κ::a.drop i,[],ak.take (i+1)++more::ak.drop (i+1)⟩=true
 ·have L:=zH (VI.out hf);rw[hf]at HF;clear VI VJ hf
  go_wp2_with fail
  refine HF.out.mono ?_;rintro e w5 ⟨rfl,rfl⟩
  go_wp2_with fail
  refine L.out.mono ?_;rintro e w6 ⟨mb,VH,rfl,eF⟩;replace eF:=zH eF
  go_wp2_with fail
  refine eF.out.mono ?_;rintro e w7 ⟨rfl,hc⟩;replace hc:=zH hc
  go_wp2_with fail
  refine hc.out.mono ?_;rintro e w8 ⟨rV,t,rfl,hr⟩;have HQ:=zH hr;clear hr;go_wp2
  go_ret3
  exact HQ.out
 have CG:qw ⟨false,a.take i++κ::a.drop i,[],ak.take (i+1)++more::ak.drop (i+1)⟩=false:=by simpa using hf
 have L:=zH (VJ.out CG);rw[CG]at HF;clear VI VJ hf CG
 go_wp2_with fail
 refine HF.out.mono ?_;rintro e w5 ⟨rfl,rfl⟩
 go_wp2_with fail
 refine L.out.mono ?_;rintro e w6 ⟨rfl,hr⟩;have HQ:=zH hr;clear hr;go_wp2
 go_ret3
 exact HQ.out
end
theorem cD{P D T rt:Nat}(key v:UInt64):∀(d:Nat) {E:Nat->Prop} {W:World} {A:AP} {k:Nat} (s:Sb) (deep:Nat),aP E W P D T rt A k->k+8*d+8<900000000->Tr (aB A) d s->s.ps.Nodup->(∀p∈s.ps,A.Has p)->A.Good->(∀p,A.Has p->(A.c p).length=504)->deep+d<=20 ->
  Calls prog 180 #[aq T,V U s.pg,V a7 key.toNat,V a7 v.toNat,V U deep] W λ e S=>qy E W S P D T rt A (k+8*d+8) s.pg d key v e
 | 0,E,W,A,k,s,deep,h,I,g,u,f,q,n,hd=>by
  obtain⟨N,vs,b,c,l,G,H⟩:=g;have j:=f s.pg (by rw[H];simp);have J:=(lI b).leaf rfl;by_cases y:key∈N
  ·exact Bo h Z j b l c J.1 key v y deep Z
  exact za h Z j b l key v y deep Z
 | d+1,E,W,A,k,s,deep,h,I,g,u,f,q,n,hd=>by
  have m:=id g;obtain⟨a,w,b,c,l,G⟩:=g;have hf:=(lI b).inner rfl;dsimp only at hf;obtain⟨i,r⟩:=Ow a c.up key;have aD:=c.len;have h0:=r.le;obtain⟨t,M⟩:∃t,w[i]?=some t:=⟨_,bK Z⟩;have o:(w.map Sb.pg)[i]?=some t.pg:=by rw[dL,M];rfl
  obtain⟨Y,R,x,L,h1,Q,qL⟩:=m.kid b o;have e:k+8*(d+1)+8=k+(8*d+8)+8:=Z
  rw[e];refine oX (K0:=8*d+8) h Z (f _ m.mem) b c.up Z hf.1 key v deep Z r o (λ C X F=>?_) (λ B more κ er K=>jx m u f q n b o r K);have z:=cD key v d (E:=C) (W:=X) R (deep+1) F Z Q (x.tn u) (λ p j=>f p (x.sub p j)) q n Z;rw[L]at z;rw[show k+2+(8*d+8)=k+2+8*d+8 from Z];exact z
theorem ie{P D T rt:Nat}(key:UInt64):∀(d:Nat) {E:Nat->Prop} {W:World} {A:AP} {k:Nat} (s:Sb) (deep:Nat),aP E W P D T rt A k->k+60*d+60<900000000->Tr (aB A) d s->s.ps.Nodup->(∀p∈s.ps,A.Has p)->A.Good->(∀p,A.Has p->(A.c p).length=504)->deep+d<=20 ->
  Calls prog 166 #[aq T,V U s.pg,V a7 key.toNat,V U deep] W λ e F=>G5 E W F P D T rt A (k+60*d+60) s.pg d key e
 | 0,E,W,A,k,s,deep,h,R,j,x,c,u,o,hd=>by
  obtain⟨ks,vs,b,g,m,N,Q⟩:=j;have l:=c s.pg (by rw[Q];simp);have I:=(lI b).leaf rfl;by_cases J:key∈ks
  ·exact(tS h Z l b m I.1 key J deep Z).mono (λ e F ⟨B,was,z,C,r,y,f,S,w⟩=>⟨B,was,z,C,r,y,f,Z,w⟩)
  exact(C1 h Z l b m I.1 key J deep Z).mono (λ e F ⟨B,was,z,C,r,y,f,S,w⟩=>⟨B,was,z,C,r,y,f,Z,w⟩)
 | d+1,E,W,A,k,s,deep,h,R,j,x,c,u,o,hd=>by
  have n:=id j;obtain⟨a,G,b,g,m,N⟩:=j;have hf:=(lI b).inner rfl;dsimp only at hf;obtain⟨i,v⟩:=Ow a g.up key;have aD:=g.len;have h0:=v.le;obtain⟨t,f⟩:∃t,G[i]?=some t:=⟨_,bK Z⟩;have q:(G.map Sb.pg)[i]?=some t.pg:=by rw[dL,f];rfl
  obtain⟨Oz,t',H,Y,h1,oG,qL⟩:=n.kid b q;have e:k+60*(d+1)+60=k+(60*d+60)+60:=Z
  rw[e];refine JO (K0:=60*d+60) h Z (c _ n.mem) b g.up Z Z hf.1 key deep Z v q (λ L w1 M=>?_) (λ B was X=>DG n x c u o b v q X);have K:=ie key d (E:=L) (W:=w1) t' (deep+1) M Z oG (H.tn x) (λ p l=>c p (H.sub p l)) u o Z;rw[Y]at K;rw[show k+2+(60*d+60)=k+2+60*d+60 from Z];exact K
structure mD(A B:AP)(rt:Nat)(l:List KV)(ps:List Nat):Prop where
 ex:∃gone ps',dA A B ps gone/\TI B rt l ps'/\(∀p,p∈ps'↔p∈ps/\p∉gone)/\(∀p∈gone,p∈ps)/\gone.Nodup
theorem Cw{was v:Bool}{s:Sb}(h:eU k d A s.pg B was v)(o:Tr (aB A) d s)(u:s.ps.Nodup)(g:∀p∈s.ps,A.Has p)(r:A.Good)(q:∀p,A.Has p->(A.c p).length=504) :
  mD A B s.pg (l9 s.l k) s.ps/\(was=true↔∃x∈s.l,x.1=k):=by
 obtain⟨gone,c⟩:=gC h s o rfl u g r q;obtain⟨i,t,j,l,m,n,f,_⟩:=c.tree;refine⟨⟨gone,t.ps,c.gz,⟨⟨i,t,j,l,m,rfl⟩,n,λ p e=>?_⟩,f,λ p e=>(c.sub p e).1,c.fA⟩,c.was⟩;obtain⟨a,b⟩:=(f p).1 e;exact(c.gz.has p).2 ⟨g p a,b⟩
section
variable{k:Nat}{l:List KV}
def BO(l:List KV)(k:UInt64):Bool:=l.any λ x=>x.1==k
theorem jB{l:List KV}{k:UInt64}:BO l k=true↔∃x∈l,x.1=k:=by simp[BO]
def gn(E:Nat->Prop)(W c:World)(P D T rt:Nat)(A:AP)(K:Nat)(l:List KV)(ps:List Nat)(e:Ending):Prop:=
 ∃(B:AP) (a:Int) (b:Nat),e=aw (V U a)/\((a=0/\Ab A B rt l ps)\/(a=6/\A.Reach B/\A.aQ<=20))/\aP E c P D T rt B b/\b<=K/\Kept E W c
theorem Ek(h:aP E W P D T rt A k)(y:k+2000<900000000)(a:TI A rt l ps)(f:A.Good)(j:∀p,A.Has p->(A.c p).length=504)(key:UInt64) :
  Calls prog 102 #[aq T,V a7 key.toNat] W λ e b=>e=aw (a9 #[a6 (BO l key),V U 0])/\∃B,mD A B rt (l9 l key) ps/\aP E b P D T rt B (k+2000)/\Kept E W b:=by
 obtain⟨d,s,c,rfl,rfl,rfl⟩:=a.ex;have G:=KN c a.fA a.has f;have t:=ie key d s 0 h Z c a.fA a.has f j Z
 have n:=zH (t.mono (R':=λ e b=>∃(B:AP) (was g:Bool),e=aw (a9 #[a6 was,a6 g,V U 0])/\was=BO s.l key/\(mD A B s.pg (l9 s.l key) s.ps/\aP E b P D T s.pg B (k+2000)/\Kept E W b)) (λ e b ⟨B,was,g,J,x,C,i,I,z⟩=>(by
  obtain⟨v,w⟩:=Cw C c a.fA a.has f j;refine⟨B,was,g,x,?_,v,⟨i.pz.up Z,i.box,i.mem⟩,z⟩;rw[Bool.eq_iff_iff,w,jB])))
 have H:=h.box.c1;clear h a t c f j G y
 go_enter func102,ntmps102
 go_wp2_with fail
 refine n.out.mono ?_;rintro e K ⟨B,was,g,rfl,F,u⟩;have r:=zH u;clear n H u;subst F;obtain⟨q,m⟩:∃q,BO s.l key=q:=⟨_,rfl⟩;rw[m];have o:=zH m;clear m
 cases q with
 | false=>
  go_wp2;go_ret2
  rw[o.out];exact⟨rfl,B,r.out⟩
 | true=>
  go_wp2;go_ret2
  rw[o.out];exact⟨rfl,B,r.out⟩
theorem z8{m G a:World}{N M more k:Nat}(g:aP E m P D T rt B k)(K:Kept E W m)(w:Kept E m G)(S:PZ (λ j=>E j\/N<=j/\j<M) a P D (B.take.ax B.next b) (k+2+3))(x:Kept (λ j=>E j\/N<=j/\j<M) G a)(v:B.Good)(r:¬B.Full)(R:B.Has rt)(L:more<4294967296)(hk:k+8<900000000) :
  a.cell? (T,1)=some (V U rt)/\Calls prog 150 #[aq T,V U rt,aq (some ⟨a.1.size+1+1,0,none⟩)] (((a.alloc (.cells #[V a7 (κ.toNat:Int)] 77)).alloc (.cells #[V U B.next,V U more] 3)).alloc (.cells #[a6 false,ad a 1 1,ad none 0 0,ad (some ⟨a.1.size+1,0,none⟩) 2 2] 212)) λ e F=>e=aw (V U 0)/\aP E F P D T rt ((B.take.ax B.next b).ax rt (aX ((B.take.ax B.next b).c rt) ⟨false,[κ],[],[B.next,more]⟩)) (k+2+3+3)/\Kept E W F:=by
 have I:=g.pz.there;have h1:=w.size;have h2:=x.size;have k13:Kept E m a:=w.trans (x.mono (λ _ c=>O c));have s:=g.box.ae (k13.block T g.mem);refine⟨s.cell 1 _ rfl,?_⟩;have b1:=ay.new a #[V a7 (κ.toNat:Int)] 77;have z1:(a.alloc (.cells #[V a7 (κ.toNat:Int)] 77)).1.size=a.1.size+1:=by simp
 have A:Below a a (a.alloc (.cells #[V a7 (κ.toNat:Int)] 77)):=(aU _ _).alloc (aH _) _;generalize a.alloc (.cells #[V a7 (κ.toNat:Int)] 77)=f at b1 z1 A ⊢;have q:=ay.new f #[V U B.next,V U more] 3;have z2:(f.alloc (.cells #[V U B.next,V U more] 3)).1.size=f.1.size+1:=by simp
 have p:Below f f (f.alloc (.cells #[V U B.next,V U more] 3)):=(aU _ _).alloc (aH _) _;generalize f.alloc (.cells #[V U B.next,V U more] 3)=d at q z2 p ⊢;have n:=ay.new d #[a6 false,ad a 1 1,ad none 0 0,ad (some ⟨a.1.size+1,0,none⟩) 2 2] 212;have z3:(d.alloc (.cells #[a6 false,ad a 1 1,ad none 0 0,ad (some ⟨a.1.size+1,0,none⟩) 2 2] 212)).1.size=d.1.size+1:=by simp
 have l:Below d d (d.alloc (.cells #[a6 false,ad a 1 1,ad none 0 0,ad (some ⟨a.1.size+1,0,none⟩) 2 2] 212)):=(aU _ _).alloc (aH _) _;generalize d.alloc (.cells #[a6 false,ad a 1 1,ad none 0 0,ad (some ⟨a.1.size+1,0,none⟩) 2 2] 212)=i at n z3 l ⊢;have b1':=(b1.next p).next l;have b2':=q.next l;have C:Below a a i:=(A.trans (p.mono Z)).trans (l.mono Z);rw[z1]at b2';rw[show d.1.size=a.1.size+1+1 from Z]at n
 have X:PZ (λ j=>E j\/(a.1.size<=j/\j<i.1.size)) i P D (B.take.ax B.next b) (k+2+3):=S.wide C (λ j c=>by
  rcases c with h|h
  ·exact O (O h)
  exact al h)
 have Q:jU (λ j=>E j\/(a.1.size<=j/\j<i.1.size)) i (a.1.size+1+1) ⟨false,[κ],[],[B.next,more]⟩:=by
  refine⟨_,_,_,n,al ⟨Z,Z⟩,⟨_,1,rfl,aH _,λ j u c=>⟨a.1.size,0,rfl,al ⟨Z,Z⟩,?_⟩⟩,⟨none,0,rfl,aH _,λ j u c=>(by cases c)⟩,⟨_,2,rfl,aH _,λ j u c=>⟨a.1.size+1,0,rfl,al ⟨Z,Z⟩,?_⟩⟩⟩
  ·match j,c with
   | 0,h=>exact(b1'.cell 0 _ rfl).trans h
   | j+1,h=>cases h
  match j,c with
  | 0,h=>exact(b2'.cell 0 _ rfl).trans h
  | 1,h=>exact(b2'.cell 1 _ rfl).trans h
  | j+2,h=>cases h
 have h0:=v.next r
 have J:Fits ⟨false,[κ],[],[B.next,more]⟩:=⟨(λ h=>by cases h),λ _=>⟨rfl,by simp,by simp,rfl,λ h3 o=>by
  rcases aN.1 o with rfl|o
  ·omega
  rw[bu.1 o];exact L⟩⟩
 have y:Kept E a i:=Kept.of_below C (λ j c=>by have:=I j c;omega);have t:=s.ae (y.block T g.mem);have H:(B.take.ax B.next b).Has rt:=AP.aC.2 (((v.take r).2.1 rt).2 (O R));refine(cZ X Z t H Q J).mono ?_;rintro e w7 ⟨rfl,Y,z⟩;exact⟨rfl,⟨Y.less (λ _ c=>O c),t.ae (z.block T (O g.mem)),g.mem⟩,((K.trans k13).trans y).trans (z.mono (λ _ c=>O c))⟩
theorem Yj(h:aP E W P D T rt A k)(hk:k+2000<900000000)(c:TI A rt l ps)(f:A.Good)(y:∀p,A.Has p->(A.c p).length=504)(key v:UInt64) :
  Calls prog 106 #[aq T,V a7 key.toNat,V a7 v.toNat] W λ e i=>gn E W i P D T rt A (k+2000) (jO l key v) ps e:=by
 obtain⟨d,h1,r,q,rfl,rfl⟩:=c.ex;have mK:=KN r c.fA c.has f;have hP:=cD key v d h1 0 h Z r c.fA c.has f y Z;rw[q]at hP;have S:=zH hP;have R:=bw h r q c f y;have t1:=h.box.c1
 have u:=zH (λ (i:World) (B:AP) (w:Int) (n:Nat) (hs:yN key v rt d A B w) (a:aP E i P D T rt B n) (h0:n<=k+2000) (b:Kept E W i)=>(show gn E W i P D T rt A (k+2000) (jO h1.l key v) h1.ps (aw (V U w))from
  ⟨B,w,n,rfl,Ip hs r q c f y,a,h0,b⟩))
 clear h c hP r f y q
 go_enter func106,ntmps106
 go_wp2_with fail
 refine S.out.mono ?_;rintro e w1 ⟨B,more,κ,w,n,rfl,g,a,h0,b⟩;by_cases he:w=0
 ·by_cases F:more=0
  ·subst he F;have o:=zH (u.out w1 B 0 n (.same g) a Z b);clear S R u t1 g a h0 b;go_wp2;go_ret;exact o.out
  subst he;obtain⟨h,r,q,c,f,y⟩:=R.out;have h5:(more==0)=false:=beq_eq_false_iff_ne.2 F;have h6:((more:Int)==0)=false:=beq_eq_false_iff_ne.2 Z;obtain⟨new,C⟩:=KM g rfl h1 r q c.fA c.has f y;have z:B.Has rt:=(C.gz.has rt).2 (O (by rw[<-q];exact c.has _ r.mem));obtain⟨_,_,_,_,_,_,_,_,_,_,⟨x,s,_⟩,_⟩:=C.two F;rw[q]at s;have HL:=zH (yJ a.pz Z a.box z s);have WC:=a.box.c1;have H1:=br a b g s z;have Q:=zH (show κ=κ/\B.Good/\more<4294967296/\(∀p,B.Has p->(B.c p).length=504)from⟨rfl,C.gz.good f,by have:=(C.two F).1;omega,C.gz.dV⟩);clear S t1 g a b C z s h r q c f y R
  go_wp2_with fail
  refine HL.out.mono ?_;rintro e w2 ⟨N,M,nb,ka,va,aa,kc,vc,ac,rfl,hN,hM,I,p2,L⟩;obtain⟨a,b,g,s,z⟩:=H1.out;have hr:jU (λ j=>E j\/(N<=j/\j<M)) w2 nb x:=I.wins.reads (λ h2 f=>al ⟨f.1,f.2.1⟩) (al ⟨I.1.ge,I.2.1⟩);have K:=a.box.ae (L.block T a.mem);by_cases J:B.Full
  ·have H:=zH (gp (nb:=nb) p2 Z K J);have o:=zH (λ (i:World) (t:PZ (λ j=>E j\/N<=j/\j<M) i P D B (n+2+3)) (m:Kept (λ j=>E j\/N<=j/\j<M) w2 i)=>u.out i B 6 (n+2+3) (.full g F J) ⟨t.less (λ _ hj=>O hj),K.ae (m.block T (O a.mem)),a.mem⟩ Z ((b.trans L).trans (m.mono (λ _ hj=>O hj))));clear HL hN hM I p2 L a b g s z hr K H1 u Q WC
   go_wp2_with fail
   refine H.out.mono ?_;rintro e G ⟨rfl,t,m⟩;have HQ:=zH (o.out G t m);clear t m o H;go_wp2;go_ret;exact HQ.out
  have H:=zH (ia p2 Z K J hr (lI s));have o:=zH (λ (G:World) (t:PZ (λ j=>E j\/N<=j/\j<M) G P D (B.take.ax B.next (aX (UK.bM 504) x)) (n+2+3)) (m:Kept (λ j=>E j\/N<=j/\j<M) w2 G)=>z8 (E:=E) (N:=N) (M:=M) (P:=P) (D:=D) (T:=T) (rt:=rt) (κ:=κ) (more:=more) a b L t m Q.out.2.1 J z Q.out.2.2.1 Z);have HR:=zH (λ (i:World) kx X Y h3=>u.out i ((B.take.ax B.next (aX (UK.bM 504) x)).ax rt (aX ((B.take.ax B.next (aX (UK.bM 504) x)).c rt) ⟨false,[κ],[],[B.next,more]⟩)) 0 kx (.grow g F J s rfl) X Y h3);have OT:n+2+3+3<=k+2000:=Z
  clear HL hN hM I p2 L a b g s z hr K H1 u Q WC
  go_wp2_with fail
  refine H.out.mono ?_;rintro e G ⟨rfl,t,m⟩;obtain⟨h7,hS⟩:=o.out G t m;have HS:=zH hS;clear t m o H hS
  go_wp2_with fail
  refine HS.out.mono ?_;rintro e w4 ⟨rfl,X,Y⟩;have HQ:=zH (HR.out w4 _ X OT Y);clear X Y HS HR;go_wp2;go_ret;exact HQ.out
 have o:=zH (u.out w1 B w n (.bad g he) a Z b);have h4:(w==0)=false:=beq_eq_false_iff_ne.2 he;clear S R u t1 g a h0 b;go_wp2;go_ret;exact o.out
end
section
variable{k:Nat}{l:List KV}
def Tj:Option KV->Value
 | some x=>a9 #[V a7 x.2.toNat,a6 true,V U 0]
 | none=>a9 #[V a7 0,a6 false,V U 0]
theorem sv(h:aP E W P D T rt A k)(hk:k+50<900000000)(n:TI A rt l ps)(hg:A.Good)(key:UInt64) :
  Calls prog 92 #[aq T,V a7 key.toNat] W λ e X=>e=aw (Tj (jd l key))/\aP E X P D T rt A (k+50)/\Kept E W X:=by
 obtain⟨d,s,x,rfl,rfl,rfl⟩:=n.ex;have mK:=KN x n.fA n.has hg;have t1:=h.box.c1;have HH:=bm h x n;clear h x n
 go_enter func92,ntmps92
 go_wp2_with fail
 go_loopw [7,16] (λ pv iv wr=>∃(j w:Nat) (t:Sb),pv=V U t.pg/\iv=V U j/\j+w<=16/\At A w t/\jd s.l key=jd t.l key/\PZ E wr P D A (k+2*j)/\Kept E W wr) (λ _ iv _=>20-(intOf iv).toNat)
 case atStart=>
  obtain⟨h,x,n⟩:=HH.out;exact⟨0,d,s,rfl,rfl,Z,⟨x,n.has⟩,rfl,h.pz,Kept.refl _ _⟩
 clear t1;obtain⟨j,w,t,rfl,rfl,M,C,y,hp,g⟩:=hrel;obtain⟨h,x,n⟩:=HH.out;have r:=h.box.ae (g.block T h.mem);have WE:(j:Int)<20:=Z
 have LB:IntKind.i64.wrap ((j:Int)+1)=(j:Int)+1:=by rw[dM];omega
 have OU:wrap64 ((j:Int)+1)=(j:Int)+1:=by unfold wrap64;omega
 have dh:=C.has _ C.tr.mem
 cases w with
 | zero=>
  obtain⟨ks,vs,m,b,c,p,h5⟩:=C.tr;have L:=(lI m).leaf rfl;have J:=zH (yJ hp Z r dh m);have K:=bs y b c p g r (show Y ks<=30 from L.1);clear C hp r dh m b c p h5 g y L h x n mK
  go_wp2_with fail
  refine J.out.mono ?_;rintro e o ⟨h9,h8,nb,ka,va,aa,kc,vc,ac,rfl,hN,hM,⟨f,gy,dX⟩,I,H⟩;obtain⟨y,b,c,p,g,r,ET⟩:=K.out;have b0:=f.box.c0;have b1:=f.box.c1;have b2:=f.box.c2;have F:=IW (f.k.win (S:=λ _=>True) (λ _ _=>trivial)) c (show Y ks<=1000 from Z) key;rw[dH]at F;have hF:aP E o P D T s.pg A (k+50)/\Kept E W o:=⟨⟨(I.less (λ _ M=>O M)).up Z,r.ae (H.block T HH.out.1.mem),HH.out.1.mem⟩,g.trans H⟩;have HF:=zH hF;have h7:=zH f.v;have QO:=zH (show jd s.l key=jd (ks.zip vs) key by rw[y,p]);by_cases v:key∈ks
  ·rw[decide_eq_true v]at F;have N:=zH F;have HM:=bm v c b;clear J K f gy dX I H F hN hM y b c p g r ET hF v
   go_wp2_with fail
   refine N.out.mono ?_;rintro e w2 ⟨i,rfl,h0,rfl⟩;obtain⟨v,c,b⟩:=HM.out;obtain⟨hn,WG,z⟩:=im c b (h0.found c v);obtain⟨mR,c2,q2,hc,h3⟩:=h7.out.win (S:=λ _=>True) (λ _ _=>trivial);obtain⟨g2,o2,rfl,_,cy⟩:=h3 _ _ (tO _ _ _ WG)
   injection q2 with q5 q6 q7
   subst q5;have hh:(i:Int)<(Y vs:Int):=Int.ofNat_lt.2 (dz.1 WG).1;have h6:=zH (QO.out.trans z);clear z WG h3 v c b h0 N HM q6 q7 hc
   go_wp2_with fail
   go_ret3
   rw[h6.out];exact⟨rfl,HF.out⟩
  rw[decide_eq_false v]at F;have N:=zH F;have HM:=zH (QO.out.trans (sr (vs:=vs) v));clear J K f gy dX I H F hN hM y b c p g r ET hF v
  go_wp2_with fail
  refine N.out.mono ?_;rintro e w2 ⟨i,rfl,h0,rfl⟩;clear h0 N;go_wp2
  go_ret3
  rw[HM.out];exact⟨rfl,HF.out⟩
 | succ w=>
  obtain⟨a,B,m,b,c,p⟩:=C.tr;have L:=(lI m).inner rfl;dsimp only at L;obtain⟨i,G⟩:=Ow a b.up key;have aD:=b.len;have hj:=G.le;obtain⟨u,hu⟩:∃u,B[i]?=some u:=⟨_,bK Z⟩;have R:(B.map Sb.pg)[i]?=some u.pg:=by rw[dL,hu];rfl
  have hK:dR A w t a B i u:=⟨m,b,c,p,hu⟩;have S:=C.kid hK;have z:=hK.val G;have J:=zH (yJ hp Z r dh m);have K:=bw g S.1 (y.trans z) b.up G R;have h1:(B.map Sb.pg).length=Y a+1:=L.1;have hl:i<Y a+1:=Z
  have hm:Y a<=100:=Z
  clear C hp r dh m b c p g y L h x n mK hK S z aD hu R G hj
  go_wp2_with fail
  refine J.out.mono ?_;rintro e o ⟨h9,h8,nb,ka,va,aa,kc,vc,ac,rfl,hN,hM,⟨f,gy,dX⟩,I,H⟩;obtain⟨g,S,z,h4,G,R⟩:=K.out;have Q:=f.box;dsimp only at Q;rw[h1]at Q;have b0:=Q.c0;have b3:=Q.c3
  obtain⟨ga,rfl,ra⟩:∃ga,aa=some ⟨ga,0,none⟩/\Row o ga ac (ints (B.map Sb.pg)):=by
   rcases f.a with⟨_,b,_⟩|⟨ha,m,b⟩
   ·have:=congrArg List.length b;rw[iC]at this;exact absurd this (by show(B.map Sb.pg).length≠0;omega)
   exact⟨ha,m,b⟩
  have cc:o.cell? (ga,i)=some (V U (u.pg:Int)):=ra.at' i _ (Gi _ _ _ R);have h2:∀q,jU (λ _=>True) (o.drewN q) nb ⟨false,a,[],B.map Sb.pg⟩:=λ q=>(f.next (UK.dN (aU _ _) q)).wins.1.reads (λ _ _=>trivial) trivial;have hb:∀q,Calls prog 158 #[aq nb,V a7 key.toNat] (o.drewN q) λ e X=>e=aw (V U (i:Int))/\X=o.drewN q:=λ q=>(QZ (h2 q) h4 (show Y a<=1000 from Z) key).mono (λ e X ⟨i2,he,hi,hw⟩=>⟨by rw[he,G.inj hi],hw.symm⟩);have hh:(i:Int)<((Y a:Int)+1):=Z
  have HF:=zH (λ (q:Nat)=>(show At A w u/\jd s.l key=jd u.l key/\PZ E (o.drewN q) P D A (k+2*(j+1))/\Kept E W (o.drewN q)from
   ⟨S,z,((I.less (T:=E) (λ _ M=>O M)).next (UK.dN (aU _ _) q)).up Z,(g.trans H).trans ((I.less (T:=E) (λ _ M=>O M)).kept (UK.dN (aU _ _) q))⟩))
  clear J K f gy dX I H hN hM g S z h4 G R ra h2 Q h1
  go_wp2_with fail
  go_quiet (first|(go_at_call 158;with_reducible exact Calls.quiet_of_same (hb _)))
  go_wp2;go_roundw
  case rel=>exact⟨j+1,w,u,rfl,by go_num,Z,HF.out _⟩
  case measure=>simp[intOf];omega
end
open UK (str aF nth Only)
structure Sn where
 leaf:Bool
 up:Nat
 xU:List UInt64
 ak:List Nat
 IU:List Nat
abbrev LV:=Nat×List UInt64
structure SS where
 pg:Nat
 lv:List LV
 ps:List Nat
def CM(a:List LV):List UInt64:=a.flatMap (·.2)
def SS.l(s:SS):List UInt64:=CM s.lv
def iu(a:List SS):List LV:=a.flatMap SS.lv
def fR(a:List SS):List Nat:=a.flatMap SS.ps
def gj(a:List SS):List Nat:=a.map SS.pg
def hV(a:List SS):List Nat:=a.map (λ t=>Y t.l)
def Sn.size(x:Sn):Nat:=Y x.xU+Y x.ak
def Sn.aA(x:Sn):Nat:=if x.leaf then 48 else 40
def Sn.count(x:Sn):Nat:=if x.leaf then Y x.xU else x.IU.sum
structure QV where
 pg:Nat
 L:List SS
 R:List SS
 c:Nat
def QV.node(a:QV)(b pg c:Nat):Sn:=⟨false,b,[],gj a.L++pg::gj a.R,hV a.L++c::hV a.R⟩
def QV.part(a:QV)(s:SS):SS:=⟨a.pg,iu a.L++s.lv++iu a.R,a.pg::(fR a.L++s.ps++fR a.R)⟩
theorem Fy{l:List KV}{v:UInt64}:x∈jO l k v↔(x∈l/\x.1≠k)\/x=(k,v):=by
 unfold jO;simp only[dm,List.mem_filter,aN,decide_eq_true_eq]
 constructor
 ·rintro(⟨h,a⟩|rfl|⟨h,a⟩)
  ·exact O ⟨h,λ e=>by rw[e]at a;omega⟩
  ·exact al rfl
  exact O ⟨h,λ e=>by rw[e]at a;omega⟩
 rintro(⟨h,a⟩|h)
 ·have c:x.1.toNat≠k.toNat:=λ e=>a (UInt64.toNat.inj e);rcases Nat.lt_or_gt_of_ne c with b|b
  ·exact O ⟨h,b⟩
  exact al (al ⟨h,b⟩)
 exact al (O h)
theorem S9{l:List KV}:x∈l9 l k↔x∈l/\x.1≠k:=by
 unfold l9;simp only[List.mem_filter,decide_eq_true_eq]
theorem Hx{l:List KV}(d:jN l)(h:x∈l):jd l x.1=some x:=by
 induction l with
 | nil=>cases h
 | cons a r f=>
  obtain⟨b,c⟩:=cu.1 d;unfold jd;rcases aN.1 h with rfl|h
  ·rw[List.find?_cons_of_pos (by simp)]
  have:=b x h;rw[List.find?_cons_of_neg (by simp;intro e;rw[e]at this;omega)];exact f c h
theorem vd{l:List KV}(h:∀x∈l,x.1≠k):jd l k=none:=List.find?_eq_none.2 (λ x a=>by simpa using h x a)
end Go.Proofs.YtgpmiliahonaoaaGreatDoor
namespace Go.Proofs.YtgpmiliahonaoaaGreatDoor.DP
variable{l m:List KV}{k v u:UInt64}{F G:Nat->List UInt8}{s t:List UInt8}
abbrev rZ:=List (Nat×List UInt8)
variable{X:rZ}
structure TT(l:List KV)(X:rZ)(F:Nat->List UInt8):Prop where
 some_:∀y∈l,F y.1.toNat≠[]/\(y.2.toNat,F y.1.toNat)∈X/\y.2.toNat≠0
 all:∀k,k<2^64->F k≠[]->∃y∈l,y.1.toNat=k
structure TH(l m:List KV)(X:rZ)(F G:Nat->List UInt8):Prop where
 one:TT l X F
 two:TT m X G
 xU:∀y∈l,∀z∈m,y.2≠z.2
 inl:l.Pairwise λ y z=>y.2≠z.2
 GL:m.Pairwise λ y z=>y.2≠z.2
 JF:X.Pairwise λ s t=>s.1≠t.1
theorem TH.swap{l m:List KV}{X:rZ}{F G:Nat->List UInt8}(h:TH l m X F G):TH m l X G F:=⟨h.two,h.one,λ y a z b e=>h.xU z b y a e.symm,h.GL,h.inl,h.JF⟩
def bV(F:Nat->List UInt8)(k:Nat)(s:List UInt8):Nat->List UInt8:=λ j=>if j=k then s else F j
theorem o4(h:jN l){x y:KV}(c:x∈l)(i:y∈l)(e:x.1=y.1):x=y:=by
 induction l with
 | nil=>cases c
 | cons a t j=>
  obtain⟨b,g⟩:=cu.1 h;rcases aN.1 c with rfl|d<;>rcases aN.1 i with rfl|f
  ·rfl
  ·have:=b y f;rw[e]at this;omega
  ·have:=b x d;rw[e]at this;omega
  exact j g d f
theorem P9{c:Type}{R:c->c->Prop}(k:∀a b,R a b->R b a){l:List c}(h:l.Pairwise R){x y:c}(e:x∈l)(m:y∈l)(j:x≠y):R x y:=by
 induction l with
 | nil=>cases e
 | cons a t n=>
  obtain⟨d,i⟩:=cu.1 h;rcases aN.1 e with rfl|f<;>rcases aN.1 m with rfl|g
  ·exact absurd rfl j
  ·exact d y g
  ·exact k _ _ (d x f)
  exact n i f g
theorem X8(h:l.Pairwise λ y z=>y.2≠z.2)(i:∀y∈l,y.1≠k->y.2≠v):(jO l k v).Pairwise λ y z=>y.2≠z.2:=by
 unfold jO;rw[List.pairwise_append,cu]
 have p:∀a∈l.filter (λ x=>decide (x.1.toNat<k.toNat)),a.2≠v:=λ a d=>by
  obtain⟨f,c⟩:=List.mem_filter.1 d;exact i a f (λ e=>by rw[e]at c;simp at c)
 have o:∀a∈l.filter (λ x=>decide (k.toNat<x.1.toNat)),a.2≠v:=λ a d=>by
  obtain⟨f,c⟩:=List.mem_filter.1 d;exact i a f (λ e=>by rw[e]at c;simp at c)
 refine⟨h.filter _,⟨λ a d=>(o a d).symm,h.filter _⟩,λ a d b g=>?_⟩;rcases aN.1 g with rfl|g
 ·exact p a d
 obtain⟨f,c⟩:=List.mem_filter.1 d;obtain⟨j,m⟩:=List.mem_filter.1 g;refine P9 (λ a b (n:a.2≠b.2)=>n.symm) h f j (λ e=>?_);rw[e]at c;simp only[decide_eq_true_eq]at c m;omega
theorem TH.put(h:TH l m X F G)(w:s≠[])(A:v.toNat≠0)(u:F k.toNat=[])(f:∀t∈X,t.1≠v.toNat) :
  TH (jO l k v) m ((v.toNat,s)::X) (bV F k.toNat s) G:=by
 have p:∀y∈l,y.1≠k:=λ y d e=>(h.one.some_ y d).1 (by rw[e];exact u);have B:∀y∈l,y.2≠v:=λ y d e=>f _ (h.one.some_ y d).2.1 (by rw[e]);have n:∀y∈m,y.2≠v:=λ y d e=>f _ (h.two.some_ y d).2.1 (by rw[e]);refine⟨⟨λ y d=>?_,λ j o g=>?_⟩,⟨λ y d=>?_,h.two.all⟩,λ y d z i=>?_,X8 h.inl (λ y d _=>B y d),h.GL,cu.2 ⟨λ t x=>(f t x).symm,h.JF⟩⟩
 ·rcases Fy.1 d with⟨d,r⟩|rfl
  ·have q:y.1.toNat≠k.toNat:=λ e=>r (mV.1 e);obtain⟨a,b,c⟩:=h.one.some_ y d;simp only[bV,aE q];exact⟨a,cK _ b,c⟩
  simp only[bV,be];exact⟨w,bI ..,A⟩
 ·by_cases e:j=k.toNat
  ·exact⟨(k,v),Fy.2 (al rfl),e.symm⟩
  simp only[bV,aE e]at g;obtain⟨y,d,rfl⟩:=h.one.all j o g;exact⟨y,Fy.2 (O ⟨d,p y d⟩),rfl⟩
 ·obtain⟨a,b,c⟩:=h.two.some_ y d;exact⟨a,cK _ b,c⟩
 rcases Fy.1 d with⟨d,_⟩|rfl
 ·exact h.xU y d z i
 exact(n z i).symm
theorem TH.set(h:TH l m ((u.toNat,t)::X) F G)(r:(k,u)∈l)(D:s≠[])(H:v.toNat≠0)(n:∀t∈X,t.1≠v.toNat) :
  TH (jO l k v) m ((v.toNat,s)::X) (bV F k.toNat s) G:=by
 have q:∀y∈l,y.1≠k->(y.2.toNat,F y.1.toNat)∈X:=λ y d f=>by
  rcases aN.1 (h.one.some_ y d).2.1 with e|e
  ·have g:y.2=u:=mV.1 (Prod.mk.inj e).1;exact absurd g (P9 (λ a b (A:a.2≠b.2)=>A.symm) h.inl d r (λ i=>f (by rw[i])))
  exact e
 have o:∀y∈m,(y.2.toNat,G y.1.toNat)∈X:=λ y d=>by
  rcases aN.1 (h.two.some_ y d).2.1 with e|e
  ·have g:y.2=u:=mV.1 (Prod.mk.inj e).1;exact absurd g (λ i=>h.xU _ r y d i.symm)
  exact e
 have I:∀y∈l,y.1≠k->y.2≠v:=λ y d f e=>n _ (q y d f) (by rw[e]);have x:∀y∈m,y.2≠v:=λ y d e=>n _ (o y d) (by rw[e]);refine⟨⟨λ y d=>?_,λ j B p=>?_⟩,⟨λ y d=>?_,h.two.all⟩,λ y d z w=>?_,X8 h.inl I,h.GL,cu.2 ⟨λ t E=>(n t E).symm,(cu.1 h.JF).2⟩⟩
 ·rcases Fy.1 d with⟨d,f⟩|rfl
  ·have C:y.1.toNat≠k.toNat:=λ e=>f (mV.1 e);obtain⟨a,b,c⟩:=h.one.some_ y d;simp only[bV,aE C];exact⟨a,cK _ (q y d f),c⟩
  simp only[bV,be];exact⟨D,bI ..,H⟩
 ·by_cases e:j=k.toNat
  ·exact⟨(k,v),Fy.2 (al rfl),e.symm⟩
  simp only[bV,aE e]at p;obtain⟨y,d,rfl⟩:=h.one.all j B p;exact⟨y,Fy.2 (O ⟨d,λ g=>e (by rw[g])⟩),rfl⟩
 ·obtain⟨a,b,c⟩:=h.two.some_ y d;exact⟨a,cK _ (o y d),c⟩
 rcases Fy.1 d with⟨d,_⟩|rfl
 ·exact h.xU y d z w
 exact(x z w).symm
theorem TH.stay(h:TH l m ((u.toNat,t)::X) F G)(v:jN l)(i:(k,u)∈l)(x:s≠[]) :
  TH l m ((u.toNat,s)::X) (bV F k.toNat s) G:=by
 have o:=cu.1 h.JF;refine⟨⟨λ y f=>?_,λ j r p=>?_⟩,⟨λ y f=>?_,h.two.all⟩,h.xU,h.inl,h.GL,cu.2 ⟨λ t z=>o.1 t z,o.2⟩⟩
 ·obtain⟨a,b,c⟩:=h.one.some_ y f;by_cases e:y.1=k
  ·have g:y=(k,u):=o4 v f i e;subst g;simp only[bV,be];exact⟨x,bI ..,c⟩
  have w:y.1.toNat≠k.toNat:=λ d=>e (mV.1 d);simp only[bV,aE w];refine⟨a,?_,c⟩;rcases aN.1 b with d|d
  ·have g:y.2=u:=mV.1 (Prod.mk.inj d).1;exact absurd g (P9 (λ a b (q:a.2≠b.2)=>q.symm) h.inl f i (λ n=>e (by rw[n])))
  exact cK _ d
 ·by_cases e:j=k.toNat
  ·exact⟨(k,u),i,e.symm⟩
  simp only[bV,aE e]at p;exact h.one.all j r p
 obtain⟨a,b,c⟩:=h.two.some_ y f;refine⟨a,?_,c⟩;rcases aN.1 b with d|d
 ·have g:y.2=u:=mV.1 (Prod.mk.inj d).1;exact absurd g (λ n=>h.xU _ i y f n.symm)
 exact cK _ d
theorem TH.drop(h:TH l m ((u.toNat,t)::X) F G)(o:(k,u)∈l) :
  TH (l9 l k) m X (bV F k.toNat []) G:=by
 refine⟨⟨λ y d=>?_,λ j r g=>?_⟩,⟨λ y d=>?_,h.two.all⟩,λ y d z v=>h.xU y (S9.1 d).1 z v,?_,h.GL,(cu.1 h.JF).2⟩
 ·obtain⟨d,p⟩:=S9.1 d;obtain⟨a,b,c⟩:=h.one.some_ y d;have s:y.1.toNat≠k.toNat:=λ e=>p (mV.1 e);simp only[bV,aE s];refine⟨a,?_,c⟩;rcases aN.1 b with f|f
  ·have i:y.2=u:=mV.1 (Prod.mk.inj f).1;exact absurd i (P9 (λ a b (q:a.2≠b.2)=>q.symm) h.inl d o (λ n=>p (by rw[n])))
  exact f
 ·by_cases e:j=k.toNat
  ·simp only[bV,be e]at g;exact absurd rfl g
  simp only[bV,aE e]at g;obtain⟨y,d,rfl⟩:=h.one.all j r g;exact⟨y,S9.2 ⟨d,λ f=>e (by rw[f])⟩,rfl⟩
 ·obtain⟨a,b,c⟩:=h.two.some_ y d;refine⟨a,?_,c⟩;rcases aN.1 b with f|f
  ·have i:y.2=u:=mV.1 (Prod.mk.inj f).1;exact absurd i (λ n=>h.xU _ o y d n.symm)
  exact f
 unfold l9;exact h.inl.filter _
end Go.Proofs.YtgpmiliahonaoaaGreatDoor.DP
namespace Go.Proofs.YtgpmiliahonaoaaGreatDoor
open Go.RowKit
open UK (str aF nth Only Row ay w32)
open DP (rZ TT TH bV)
variable{A B:AP}{p rt r1 r2 root pg z P D Dp T H k j n K i I:Nat}{l l1 l2:List KV}{ps ex dC ps2 rp rp':List Nat}{Ec F G:Nat->List UInt8}{L q:Nat->List (List UInt8)}{X:List HT}{t:HT}{s:List UInt8}{E:Nat->Prop}{W g:World}{v key b:UInt64}{ao J:Option Addr}{es:List EM}
theorem A4(h:B.c p=A.c p):aB B p=aB A p:=by unfold aB;rw[h]
theorem TI.like(h:TI A rt l ps)(g:∀p∈ps,B.c p=A.c p)(i:∀p∈ps,B.Has p):TI B rt l ps:=by
 obtain⟨⟨d,s,b,c,e,a⟩,f,k⟩:=h;exact⟨⟨d,s,Tr.same d s b (λ p j=>A4 (g p (a▸j))),c,e,a⟩,f,i⟩
def fo(ex dC ps2:List Nat):Nat->Prop:=λ p=>p∈ex\/p∈dC\/p∈ps2
theorem AW(ex dC ps2:List Nat):fo ex ps2 dC=fo ex dC ps2:=by
 funext p
 exact propext (or_congr Iff.rfl or_comm)
structure DM(A:AP)(ex:List Nat)(Ec:Nat->List UInt8)(r1 r2 root:Nat)(l1 l2:List KV)(dC ps2:List Nat)(pg:Nat)(rp:List Nat)(L:Nat->List (List UInt8))(X:List HT):Prop where
 good:A.Good
 t1:TI A r1 l1 dC
 t2:TI A r2 l2 ps2
 yf:∀p∈ex,A.Has p/\A.c p=Ec p
 fA:(ex++(dC++ps2)).Nodup
 hi:HI (A.fJ (fo ex dC ps2)) root pg rp L X
 few:Y X<=1000000
section
variable{M:List HT}
theorem DM.swap(h:DM A ex Ec r1 r2 root l1 l2 dC ps2 pg rp L X):DM A ex Ec r2 r1 root l2 l1 ps2 dC pg rp L X:=
 ⟨h.good,h.t2,h.t1,h.yf,(List.perm_append_comm.append_left ex).nodup_iff.1 h.fA,by rw[AW];exact h.hi,h.few⟩
theorem DM.Ae(h:DM A ex Ec r1 r2 root l1 l2 dC ps2 pg rp L X)(a:fo ex dC ps2 p):A.Has p:=by
 rcases a with a|a|a
 ·exact(h.yf p a).1
 ·exact h.t1.has p a
 exact h.t2.has p a
theorem DM.perm(h:DM A ex Ec r1 r2 root l1 l2 dC ps2 pg rp L X)(a:X.Perm M):DM A ex Ec r1 r2 root l1 l2 dC ps2 pg rp L M:=
 ⟨h.good,h.t1,h.t2,h.yf,h.fA,h.hi.perm a,by rw[<-a.length_eq];exact h.few⟩
theorem DM.far(h:DM A ex Ec r1 r2 root l1 l2 dC ps2 pg rp L X):pQ (fo ex dC ps2) A.c A:=λ _ a=>⟨h.Ae a,rfl⟩
theorem DM.heap(h:DM A ex Ec r1 r2 root l1 l2 dC ps2 pg rp L X)(c:A.Reach B)(hi:HI (B.fJ (fo ex dC ps2)) root z rp' q M)(hf:pQ (fo ex dC ps2) A.c B)(b:Y M<=1000000) :
  DM B ex Ec r1 r2 root l1 l2 dC ps2 z rp' q M:=
 ⟨c.good h.good,h.t1.like (λ p a=>(hf p (al (O a))).2) (λ p a=>(hf p (al (O a))).1),h.t2.like (λ p a=>(hf p (al (al a))).2) (λ p a=>(hf p (al (al a))).1),
  λ p a=>⟨(hf p (O a)).1,(hf p (O a)).2.trans (h.yf p a).2⟩,h.fA,hi,b⟩
theorem DM.put(h:DM A ex Ec r1 r2 root l1 l2 dC ps2 pg rp L X)(d:Ab A B r1 l dC):∃ps,DM B ex Ec r1 r2 root l l2 ps ps2 pg rp L X/\A.Reach B:=by
 obtain⟨new,ps,g,q,n,_⟩:=d.ex;have m:=bN.1 h.fA;have o:=bN.1 m.2.1;have r:∀p∈ps2,B.Has p:=λ p d=>(g.has p).2 (O (h.t2.has p d));have s:∀p∈ps2,p∉dC:=λ p i c=>o.2.2 p c p i rfl;have t:∀p∈ex,p∉dC:=λ p i c=>m.2.2 p i p (fw _ c) rfl;refine⟨ps,⟨g.reach.good h.good,q,h.t2.like (λ p d=>g.same p (h.t2.has p d) (s p d)) r,λ p d=>⟨(g.has p).2 (O (h.yf p d).1),(g.same p (h.yf p d).1 (t p d)).trans (h.yf p d).2⟩,?_,?_,h.few⟩,g.reach⟩
 ·rw[bN];refine⟨m.1,?_,λ a k b j e=>?_⟩
  ·rw[bN];refine⟨q.fA,o.2.1,λ a k b j e=>?_⟩;rcases(n a).1 k with c|c
   ·exact o.2.2 a c b j e
   exact g.fresh a c (e▸h.t2.has b j)
  rcases dm.1 j with j|j
  ·rcases(n b).1 j with c|c
   ·exact m.2.2 a k b (fw _ c) e
   exact g.fresh b c (e▸(h.yf a k).1)
  exact m.2.2 a k b (lL _ j) e
 refine h.hi.same (λ p=>?_) (λ p d=>?_)
 ·show B.Has p/\¬fo ex ps ps2 p↔A.Has p/\¬fo ex dC ps2 p;unfold fo;rw[n,g.has]
  constructor
  ·rintro⟨c|c,i⟩
   ·exact⟨c,λ f=>i (f.imp id (Or.imp O id))⟩
   exact absurd (al (O (al c))) i
  rintro⟨c,i⟩;refine⟨O c,λ f=>?_⟩;rcases f with f|(f|f)|f
  ·exact i (O f)
  ·exact i (al (O f))
  ·exact g.fresh p f c
  exact i (al (al f))
 exact g.same p d.1 (λ c=>d.2 (al (O c)))
theorem DM.drop(h:DM A ex Ec r1 r2 root l1 l2 dC ps2 pg rp L X)(c:mD A B r1 l dC):∃ps,DM B ex Ec r1 r2 root l l2 ps ps2 pg rp L X/\A.Reach B:=by
 obtain⟨gone,ps,g,w,q,s,_⟩:=c.ex;have n:=bN.1 h.fA;have r:=bN.1 n.2.1;have v:∀p∈ps2,p∉dC:=λ p f d=>r.2.2 p d p f rfl;have x:∀p∈ex,p∉dC:=λ p f d=>n.2.2 p f p (fw _ d) rfl;have t:∀p∈ps2,B.Has p:=λ p c=>(g.has p).2 ⟨h.t2.has p c,λ m=>v p c (s p m)⟩;have u:∀p∈ex,B.Has p:=λ p c=>(g.has p).2 ⟨(h.yf p c).1,λ m=>x p c (s p m)⟩;refine⟨ps,⟨g.reach.good h.good,w,h.t2.like (λ p c=>g.same p (t p c) (v p c)) t,λ p c=>⟨u p c,(g.same p (u p c) (x p c)).trans (h.yf p c).2⟩,?_,?_,h.few⟩,g.reach⟩
 ·rw[bN];refine⟨n.1,?_,λ a o b j e=>?_⟩
  ·rw[bN];exact⟨w.fA,r.2.1,λ a o b j e=>r.2.2 a ((q a).1 o).1 b j e⟩
  rcases dm.1 j with j|j
  ·exact n.2.2 a o b (fw _ ((q b).1 j).1) e
  exact n.2.2 a o b (lL _ j) e
 have y:∀p,B.Has p/\¬fo ex ps ps2 p↔A.Has p/\¬fo ex dC ps2 p:=λ p=>by
  unfold fo;rw[q,g.has]
  constructor
  ·rintro⟨⟨d,f⟩,k⟩;refine⟨d,λ i=>?_⟩;rcases i with i|i|i
   ·exact k (O i)
   ·exact k (al (O ⟨i,f⟩))
   exact k (al (al i))
  rintro⟨d,f⟩;exact⟨⟨d,λ m=>f (al (O (s p m)))⟩,λ k=>f (k.imp id (Or.imp And.left id))⟩
 exact h.hi.same y (λ p c=>g.same p ((y p).2 c).1 (λ d=>c.2 (al (O d))))
def pR(X:List HT):rZ:=X.map λ t=>(bP t,t.s)
theorem TH.perm{X M:rZ}(h:TH l1 l2 X F G)(d:X.Perm M):TH l1 l2 M F G:=
 ⟨⟨λ y c=>⟨(h.one.some_ y c).1,d.mem_iff.1 (h.one.some_ y c).2.1,(h.one.some_ y c).2.2⟩,h.one.all⟩,⟨λ y c=>⟨(h.two.some_ y c).1,d.mem_iff.1 (h.two.some_ y c).2.1,(h.two.some_ y c).2.2⟩,h.two.all⟩,h.xU,h.inl,h.GL,(d.pairwise_iff (λ {_ _} a b=>a b.symm)).1 h.JF⟩
theorem HI.num{A:Pg}(h:HI A root pg rp L X){u:HT}(a:t∈X)(b:u∈X)(e:bP t=bP u):t.pg=u.pg/\t.i=u.i:=by
 have c:=h.slot a;have d:=h.slot b;unfold bP at e;omega
theorem HI.Ac{A:Pg}(h:HI A root pg rp L (t::X)):∀u∈X,bP u≠bP t:=λ u a e=>
 (cu.1 h.inj).1 u a (by
  have:=h.num (bI ..) (cK _ a) e.symm;exact this)
theorem DM.pU(h:DM A ex Ec r1 r2 root l1 l2 dC ps2 pg rp L X)(b:t∈X):0<bP t/\bP t<2^64:=by
 have a:=(h.hi.rF (h.hi.each t b).1).1;have c:=h.hi.slot b;have d:1<=t.pg:=a.1;have e:t.pg<A.au:=a.2.1;have f:=h.good.aA;have g:=h.good.few;unfold bP;omega
def wT(s:List UInt8):Nat:=1+(if Y s<=300 then 0 else(Y s+499)/500)
def wS(s:List UInt8):Nat:=if s=[] then 0 else wT s
theorem D8(h:s≠[]):wS s=wT s:=aE h
def wt(X:List HT):Nat:=(X.map λ t=>wT t.s).sum
theorem ze(t:HT)(X:List HT):wt (t::X)=wT t.s+wt X:=rfl
theorem Ti(a:X.Perm M):wt X=wt M:=(a.map _).sum_nat
end
open Go.BigFrame
structure LZ(E:Nat->Prop)(W:World)(P D Dp T H k:Nat)(A:AP)(rt root:Nat):Prop where
 pz:PZ E W P D A k
 hd:W.cell? (Dp,4)=some (aq H)
 md:E Dp
 bt:ay W T #[aq P,V U rt]
 mt:E T
 bh:ay W H (rG P root)
 mh:E H
theorem LZ.of(h:LZ E W P D Dp T H k A rt root)(p:PZ E g P D B j)(a:Kept E W g):LZ E g P D Dp T H j B rt root:=
 ⟨p,by rw[<-h.hd];exact eB (a.block Dp h.md),h.md,h.bt.ae (a.block T h.mt),h.mt,h.bh.ae (a.block H h.mh),h.mh⟩
theorem LZ.tree(h:LZ E W P D Dp T H k A rt root):aP E W P D T rt A k:=⟨h.pz,h.bt,h.mt⟩
theorem LZ.heap(h:LZ E W P D Dp T H k A r1 root)(m:DM A ex Ec r1 r2 root l1 l2 dC ps2 pg rp L X):HZ (fo ex dC ps2) A.c E W P D H k A root pg rp L X:=
 ⟨h.pz,m.good,h.bh,h.mh,m.hi,m.few,m.far⟩
theorem PZ.dV(h:PZ E W P D A k)(a:A.Has p):(A.c p).length=504:=by
 obtain⟨m,M,n,q,d,b,s,j⟩:=h;by_cases g:∃(i:Nat) (f:Fr),q.af[i]?=some (some f)/\f.page=(p:Nat)
 ·obtain⟨i,f,c,hf⟩:=g;have e:=b.calm.at_ i f c;rw[hf,Int.toNat_natCast]at e;rw[<-e];exact(b.pd.pool.each i f c).len
 have e:=b.calm.off p a.1 a.2.1 (by rw[j.free];exact a.2.2.1) (λ i f c hf=>absurd ⟨i,f,c,hf⟩ g);rw[<-e];have l:=b.calm.clean.ok p a.1 a.2.1;have o:=b.calm.clean.fit.len;have r:=a.2.1;unfold lu;rw[be l,Dl,zd,Px Z]
def um(l1:List KV)(X:List HT)(F:Nat->List UInt8)(key:UInt64)(n:Nat):Prop:=
 (F key.toNat=[]/\n=0/\∀y∈l1,y.1≠key)\/∃(v:UInt64) (t:HT),(key,v)∈l1/\t∈X/\v.toNat=bP t/\t.s=F key.toNat/\n=bP t/\F key.toNat≠[]
theorem TH.ways(b:TH l1 l2 (pR X) F G)(k:jN l1)(key:UInt64) :
  (F key.toNat=[]/\jd l1 key=none/\∀y∈l1,y.1≠key)\/∃(v:UInt64) (t:HT),(key,v)∈l1/\jd l1 key=some (key,v)/\t∈X/\v.toNat=bP t/\t.s=F key.toNat/\F key.toNat≠[]:=by
 by_cases h:F key.toNat=[]
 ·have f:∀y∈l1,y.1≠key:=λ y a e=>(b.one.some_ y a).1 (by rw[e];exact h);exact O ⟨h,vd f,f⟩
 obtain⟨y,a,e⟩:=b.one.all _ key.toNat_lt h;have c:y.1=key:=mV.1 e;obtain⟨m,j,_⟩:=b.one.some_ y a;obtain⟨t,l,i⟩:=bL.1 j;have d:=(Prod.mk.inj i);have g:(key,y.2)=y:=by rw[<-c]
 refine al ⟨y.2,t,g▸a,?_,l,d.1.symm,by rw[d.2,e],h⟩;rw[g,<-c];exact Hx k a
theorem PP(h:LZ E W P D Dp T H k A r1 root)(m:DM A ex Ec r1 r2 root l1 l2 dC ps2 pg rp L X)(p:TH l1 l2 (pR X) F G)(key:UInt64)(w:k+((F key.toNat).length+100)<900000000) :
  Calls prog 38 #[aq Dp,aq T,V a7 key.toNat] W λ e I=>∃n:Nat,e=aw (a9 #[a8 (str (F key.toNat)),V a7 (n:Nat),V U 0])/\um l1 X F key n/\PZ E I P D A (k+((F key.toNat).length+100))/\Kept E W I:=by
 have a:=zH (sv h.tree Z m.t1 m.good key);rcases TH.ways p m.t1.rise key with⟨l,g,y⟩|⟨v,t,x,g,b,u,o,z⟩
 ·have i:=zH (show um l1 X F key 0 from O ⟨l,rfl,y⟩);rw[g]at a;rw[l]at w ⊢;clear h m p l g y
  go_enter func38,ntmps38
  go_wp2_with fail
  refine a.out.mono ?_;rintro e J ⟨rfl,f,c⟩;have d:=bg f.pz c;clear a f c;unfold Tj;go_wp2
  go_ret3
  exact⟨0,rfl,i.out,d.out.1.up Z,d.out.2⟩
 have i:=zH (show um l1 X F key (bP t)from al ⟨v,t,x,b,u,o,rfl,z⟩);rw[g]at a;have q:=bm h m b;rw[<-o]at w ⊢;clear h m p g x b z o
 go_enter func38,ntmps38
 go_wp2_with fail
 refine a.out.mono ?_;rintro e J ⟨rfl,f,c⟩;obtain⟨h,m,b⟩:=q.out;have j:=h.of f.pz c;have s:=zH (Gk (j.heap m) b Z);have K:=j.hd;have d:=zH c;clear a f c h m b j q;unfold Tj;simp only[u]
 go_wp2_with fail
 refine s.out.mono ?_;rintro e M ⟨rfl,C,B⟩;have r:=bg C (d.out.trans B);clear s C B d;go_wp2
 go_ret3
 exact⟨bP t,rfl,i.out,r.out.1.up Z,r.out.2⟩
def Low(A:AP)(n:Nat):Prop:=A.aQ<=20\/500*A.aQ<n+500
def yg(E:Nat->Prop)(W g:World)(P D K:Nat)(A:AP)(ex:List Nat)(Ec:Nat->List UInt8)(r1 r2 root:Nat)(l2:List KV)(ps2:List Nat)(X:List HT)(F G:Nat->List UInt8)(key:UInt64)(s:List UInt8):Prop:=
 ∃B l1 dC pg rp L a,DM B ex Ec r1 r2 root l1 l2 dC ps2 pg rp L a/\TH l1 l2 (pR a) (bV F key.toNat s) G/\wt a+wS (F key.toNat)=wt X+wS s/\A.Reach B/\PZ E g P D B K/\Kept E W g
def zg(E:Nat->Prop)(W g:World)(P D K:Nat)(A:AP)(ex dC ps2:List Nat)(root m:Nat)(n:Nat):Prop:=
 ∃B a pg rp L b,A.Reach a/\HI (a.fJ (fo ex dC ps2)) root pg rp L b/\wt b<=m/\Low a n/\A.Reach B/\PZ E g P D B K/\Kept E W g
theorem Bn(h:F k=[]):bV F k []=F:=by
 funext j
 unfold DP.bV
 split
 ·rename_i e;rw[e];exact h.symm
 rfl
theorem Tk(t:HT)(X:List HT):pR (t::X)=(bP t,t.s)::pR X:=rfl
theorem Yg{A:Pg}(h:HI A root pg rp L (t::X))(b:v.toNat=bP t):∀u∈pR X,u.1≠v.toNat:=λ u a=>by
 obtain⟨x,c,rfl⟩:=bL.1 a;rw[b];exact h.Ac x c
theorem PR(h:n<2^64):∃v:UInt64,v.toNat=n:=⟨UInt64.ofNat n,by rw[UInt64.toNat_ofNat'];exact yT h⟩
theorem PT(h:s≠[]):s.isEmpty=false:=by cases s with
 | nil=>exact absurd rfl h
 | cons a b=>rfl
theorem ux(W:World)(p t a:Value) :
  Calls prog 43 #[p,t,a,V a7 0,a8 (str [])] W λ e b=>e=aw (V U 0)/\b=W:=by
 go_enter func43,ntmps43
 go_wp2;go_ret
 exact⟨rfl,rfl⟩
theorem Bf(h:LZ E W P D Dp T H k A r1 root)(m:DM A ex Ec r1 r2 root l1 l2 dC ps2 pg rp L X)(o:TH l1 l2 (pR X) F G)(c:(key,v)∈l1)(f:t∈X)(s:v.toNat=bP t)(g:t.s=F key.toNat)(hk:k+(Y t.s+2200)<900000000) :
  Calls prog 43 #[aq Dp,aq T,V a7 key.toNat,V a7 (bP t:Nat),a8 (str [])] W λ e h0=>e=aw (V U 0)/\yg E W h0 P D (k+(Y t.s+2200)) A ex Ec r1 r2 root l2 ps2 X F G key []:=by
 have h3:=(m.pU f).1;have x:=zH (Ek h.tree Z m.t1 m.good (λ p j=>h.pz.dV j) key);have y:=bs h m o c f s g;clear h m o c f g;have h1:¬((bP t:Nat):Int)=0:=Z
 have h2:(((bP t:Nat):Int)==0)=false:=by simp;omega
 go_enter func43,ntmps43
 go_wp2_with fail
 refine x.out.mono ?_;rintro e h4 ⟨rfl,B,K,J,r⟩;obtain⟨h,m,o,c,f,s,g⟩:=y.out;obtain⟨ps,M,w⟩:=m.drop K;have i:=h.of J.pz r;obtain⟨a,b,rfl⟩:=List.append_of_mem f;have j:(a++t::b).Perm (t::(a++b)):=List.perm_middle;have l:=M.perm j;have I:=zH (Tm (i.heap l) Z);have d4:=i.hd;have N:=bs l w r (TH.perm o (j.map _)) (Ti j) i.mh i.md;clear x J r h m o c f i M l w K g
 go_wp2_with fail
 refine I.out.mono ?_;rintro e w2 ⟨C,rp',q,rfl,d,n,u⟩;have Q:=bm d n u;clear I d n u;go_wp2;go_ret;obtain⟨d,n,u⟩:=Q.out;obtain⟨l,w,r,z,S,_,_⟩:=N.out;obtain⟨_,_,_,c,_,s,g⟩:=y.out;refine⟨rfl,C,_,ps,_,rp',q,a++b,l.heap n d.hi d.far d.few,?_,?_,w.trans n,d.pz.up Z,r.trans u⟩
 ·have R:TH l1 l2 ((v.toNat,t.s)::pR (a++b)) F G:=by rw[s];exact z
  exact TH.drop R c
 rw[S,ze,g,D8 (show F key.toNat≠[]from(z.one.some_ _ c).1)];show _=_+0;omega
theorem sX(h:LZ E W P D Dp T H k A r1 root)(m:DM A ex Ec r1 r2 root l1 l2 dC ps2 pg rp L X)(l:TH l1 l2 (pR X) F G)(f:F key.toNat=[])(c:s≠[])(h1:Y s<=400000)(hX:Y X<1000000)(hk:k+(Y s+2200)<900000000) :
  Calls prog 43 #[aq Dp,aq T,V a7 key.toNat,V a7 0,a8 (str s)] W λ e N=>(e=aw (V U 0)/\yg E W N P D (k+(Y s+2200)) A ex Ec r1 r2 root l2 ps2 X F G key s)\/(e=aw (V U 6)/\zg E W N P D (k+(Y s+2200)) A ex dC ps2 root (wt X+wS s) (Y s)):=by
 have h2:=PT c;have I:=zH (Yi (s:=s) (h.heap m) Z h1 hX);have d4:=h.hd;have y:=br h m l f c;clear h m l f c
 go_enter func43,ntmps43
 go_wp2_with fail
 refine I.out.mono ?_;rintro e h7 (⟨t,B,z,rp',q,rfl,g,j,a,b⟩|⟨B,rfl,a,w,x,b⟩)
 ·obtain⟨h,m,l,f,c⟩:=y.out;have d:=m.heap a j.hi j.far j.few;obtain⟨h6,R⟩:=d.pU (bI ..);obtain⟨v,i⟩:=PR R;have M:=h.of j.pz b;have HT:=zH (Yj M.tree Z d.t1 d.good (λ p hp=>j.pz.dV hp) key v);rw[i]at HT;have u:=Yg d.hi i;have J:=bw d a b i u g;clear I h m l f c d a j M i u b g;have h4:¬((bP t:Nat):Int)=0:=Z
  have h5:(((bP t:Nat):Int)==0)=false:=by simp;omega
  go_wp2_with fail
  refine HT.out.mono ?_;rintro e w2 ⟨C,er,kk,rfl,r,n,h3,o⟩;have Q:=bm r n o;clear HT r n o;go_wp2;go_ret;obtain⟨h,m,l,f,c⟩:=y.out;obtain⟨d,a,b,i,u,g⟩:=J.out;obtain⟨r,n,o⟩:=Q.out;rcases r with⟨rfl,S⟩|⟨rfl,K,h0⟩
  ·obtain⟨ps,mC,K⟩:=d.put S;refine O ⟨rfl,C,_,ps,_,_,_,_,mC,?_,?_,a.trans K,n.pz.up Z,b.trans o⟩
   ·have:=TH.put (k:=key) (v:=v) (s:=s) l c Z f u;rw[Tk,g,<-i];exact this
   rw[ze,f,g,D8 c];show _+0=_;omega
  exact al ⟨rfl,C,B,_,_,_,_,a,d.hi,by rw[ze,g,D8 c];omega,O h0,a.trans K,n.pz.up Z,b.trans o⟩
 have J:=bp a w x b;clear I a w x b;go_wp2;go_ret;obtain⟨a,w,x,b⟩:=J.out;exact al ⟨rfl,B,A,_,_,_,_,AP.Reach.refl _,y.out.2.1.hi,Z,al w,a,x.up Z,b⟩
theorem Ev(h:LZ E W P D Dp T H k A r1 root)(m:DM A ex Ec r1 r2 root l1 l2 dC ps2 pg rp L X)(l:TH l1 l2 (pR X) F G)(i:(key,v)∈l1)(ht:t∈X)(o:v.toNat=bP t)(u:t.s=F key.toNat)(f:s≠[])(hg:Y s<=400000)(hk:k+(Y t.s+Y s+2200)<900000000) :
  Calls prog 43 #[aq Dp,aq T,V a7 key.toNat,V a7 (bP t:Nat),a8 (str s)] W λ e h9=>(e=aw (V U 0)/\yg E W h9 P D (k+(Y t.s+Y s+2200)) A ex Ec r1 r2 root l2 ps2 X F G key s)\/(e=aw (V U 6)/\zg E W h9 P D (k+(Y t.s+Y s+2200)) A ex dC ps2 root (wt X+wS s) (Y s)):=by
 have hh:=PT f;have he:=(m.pU ht).1;obtain⟨h5,b,h7⟩:=List.append_of_mem ht;have x:X.Perm (t::(h5++b)):=by rw[h7];exact List.perm_middle
 have m2:=m.perm x;have LJ:=TH.perm l (x.map λ t=>(bP t,t.s));have g:=Ti x;have C:=zH (wG (s:=s) (h.heap m2) Z hg);have d4:=h.hd;obtain⟨n,r⟩:∃n,n=bP t:=⟨_,rfl⟩;rw[<-r]at he C ⊢;have Q:=bT h m2 LJ i o u f g r;clear h m l i ht o u f m2 LJ g h7 x r;have hj:¬(n:Int)=0:=Z
 have hl:((n:Int)==0)=false:=by simp;omega
 go_enter func43,ntmps43
 go_wp2_with fail
 refine C.out.mono ?_;rintro e hn (⟨h4,B,z,rp',q,rfl,j,w,a,d⟩|⟨B1,B,Yk,Yl,L1,rfl,h0,R,a,h1,p1,d⟩)
 ·obtain⟨h,m,l,i,o,u,f,g,r⟩:=Q.out;have c:=m.heap a w.hi w.far w.few;have hb:=(c.pU (bI ..)).2;by_cases K:bP h4=n
  ·have h8:((bP h4:Nat):Int)=(n:Int):=Z
   have I:=bw c a d j K w.pz;clear C h m l i o u f c a w d j g r;rw[K];clear K h8;go_wp2;go_ret;obtain⟨h,m,l,i,o,u,f,g,r⟩:=Q.out;obtain⟨c,a,d,j,K,pz⟩:=I.out;refine O ⟨rfl,B,_,dC,_,_,_,_,c,?_,?_,a,pz.up Z,d⟩
   ·have LK:TH l1 l2 ((v.toNat,t.s)::pR (h5++b)) F G:=by rw[o];exact l
    have:=TH.stay LK c.t1.rise i f;rw[Tk,j,K,r,<-o];exact this
   rw[ze,g,ze,j,u,D8 f,D8 (show F key.toNat≠[]from(l.one.some_ _ i).1)];omega
  obtain⟨ha,y⟩:=PR hb;have h2:=h.of w.pz d;have HT:=zH (Yj h2.tree Z c.t1 c.good (λ p x=>w.pz.dV x) key ha);rw[y]at HT;have S:=Yg c.hi y;have h3:ha.toNat≠0:=by have:=(c.pU (bI ..)).1;omega
  have I:=bs c a d j y S h3;clear C h m l i o u f c a w d j g r h2 y S h3;have h8:¬((bP h4:Nat):Int)=(n:Int):=Z
  have hm:(((bP h4:Nat):Int)==(n:Int))=false:=by simp;omega
  go_wp2_with fail
  refine HT.out.mono ?_;rintro e w2 ⟨h6,er,kk,rfl,N,J,hi,M⟩;have HY:=bm N J M;clear HT N J M;go_wp2;go_ret;obtain⟨h,m,l,i,o,u,f,g,r⟩:=Q.out;obtain⟨c,a,d,j,y,S,h3⟩:=I.out;obtain⟨N,J,M⟩:=HY.out;rcases N with⟨rfl,hC⟩|⟨rfl,rC,hc⟩
  ·obtain⟨ps,mC,rC⟩:=c.put hC;refine O ⟨rfl,h6,_,ps,_,_,_,_,mC,?_,?_,a.trans rC,J.pz.up Z,d.trans M⟩
   ·have LK:TH l1 l2 ((v.toNat,t.s)::pR (h5++b)) F G:=by rw[o];exact l
    have:=TH.set (s:=s) LK i f h3 S;rw[Tk,j,<-y];exact this
   rw[ze,g,ze,j,u,D8 f,D8 (show F key.toNat≠[]from(l.one.some_ _ i).1)];omega
  exact al ⟨rfl,h6,B,_,_,_,_,a,c.hi,by rw[ze,g,ze,j,D8 f];omega,O hc,a.trans rC,J.pz.up Z,d.trans M⟩
 have I:=bw h0 R a h1 p1 d;clear C h0 R a h1 p1 d;go_wp2;go_ret;obtain⟨h0,R,a,h1,p1,d⟩:=I.out;have g:=Q.out.2.2.2.2.2.2.2.1;exact al ⟨rfl,B,B1,_,_,_,_,R,h0,by rw[g,ze];omega,al h1,a,p1.up Z,d⟩
theorem yg.up{J:Nat}{key:UInt64}(h:yg E W g P D J A ex Ec r1 r2 root l2 ps2 X F G key s)(i:J<=K):yg E W g P D K A ex Ec r1 r2 root l2 ps2 X F G key s:=by
 obtain⟨B,l,ps,q,rp,L,j,a,b,c,d,e,f⟩:=h;exact⟨B,l,ps,q,rp,L,j,a,b,c,d,e.up i,f⟩
theorem zg.up{J m:Nat}(h:zg E W g P D J A ex dC ps2 root m n)(k:J<=K):zg E W g P D K A ex dC ps2 root m n:=by
 obtain⟨B,a,q,rp,L,l,b,c,d,e,f,i,j⟩:=h;exact⟨B,a,q,rp,L,l,b,c,d,e,f,i.up k,j⟩
theorem Ym(h:LZ E W P D Dp T H k A r1 root)(m:DM A ex Ec r1 r2 root l1 l2 dC ps2 pg rp L X)(f:TH l1 l2 (pR X) F G)(r:um l1 X F key n)(l:Y s<=400000)(q:Y X<1000000)(u:k+((F key.toNat).length+Y s+2200)<900000000) :
  Calls prog 43 #[aq Dp,aq T,V a7 key.toNat,V a7 (n:Nat),a8 (str s)] W λ e c=>(e=aw (V U 0)/\yg E W c P D (k+((F key.toNat).length+Y s+2200)) A ex Ec r1 r2 root l2 ps2 X F G key s)\/(e=aw (V U 6)/\zg E W c P D (k+((F key.toNat).length+Y s+2200)) A ex dC ps2 root (wt X+wS s) (Y s)):=by
 rcases r with⟨g,rfl,w⟩|⟨v,t,j,o,p,i,rfl,x⟩
 ·by_cases d:s=[]
  ·subst d;refine(ux W _ _ _).mono ?_;rintro e c ⟨rfl,rfl⟩;exact O ⟨rfl,A,l1,dC,pg,rp,L,X,m,by rw[Bn g];exact f,by rw[g],AP.Reach.refl _,h.pz.up Z,Kept.refl _ _⟩
  refine(sX h m f g d l q Z).mono ?_;rintro e c (⟨a,b⟩|⟨a,b⟩)
  ·exact O ⟨a,b.up Z⟩
  exact al ⟨a,b.up Z⟩
 rw[<-i]at u ⊢;by_cases d:s=[]
 ·subst d;refine(Bf h m f j o p i Z).mono ?_;rintro e c ⟨a,b⟩;exact O ⟨a,b.up Z⟩
 refine(Ev h m f j o p i d l Z).mono ?_;rintro e c (⟨a,b⟩|⟨a,b⟩)
 ·exact O ⟨a,b.up Z⟩
 exact al ⟨a,b.up Z⟩
open Go.RowKit Go.BigFrame
open UK (str aF nth Only Row ay)
open DP (Rc bU aS jc eT gm)
variable{Q:List bU}
theorem LQ{k:Nat}{l:List Rc}:∀(a b:List bU),(∀x∈a,x.1<k)->aS k l (a++b)=a++aS k l b
 | [],_,_=>rfl
 | x::a,b,h=>by
  have d:=LQ (k:=k) (l:=l) a b (λ y c=>h y (cK _ c));rw[lS,lS,<-d];show DP.aS k l (x::(a++b))=_;rw[DP.aS,be (h x (bI ..))]
theorem Yq{l a:List Rc}(b:List bU):aS k l ((k,a)::b)=if l=[] then b else(k,l)::b:=by
 rw[DP.aS,aE (mE _),be rfl]
section
variable{e:World}{N c o C:Nat}{es':List EM}{k:UInt64}
theorem EX.turn(h:EX N W ao c es)(x:EM)(l:RX W x.ro x.rc x.l)(k:∀b,aG x.ro b->N<=b/\¬aG ao b)(j:∀y∈es',y∈es\/y=x)(r:Row e o (2*C) (fl es'))(i:Only o W e)(f:aG ao o\/W.1.size<=o)(m:N<=W.1.size):EX N e o C es':=by
 have key:∀y∈es',RX W y.ro y.rc y.l/\∀b,aG y.ro b->N<=b/\¬aG ao b:=λ y a=>by
  rcases j y a with a|rfl
  ·exact⟨h.sub y a,h.sF y a⟩
  exact⟨l,k⟩
 have far:∀y∈es',∀b,aG y.ro b->b≠o:=λ y a b d g=>by
  subst g;rcases f with f|f
  ·exact((key y a).2 b d).2 f
  have:=(key y a).1.lt d;omega
 refine⟨al ⟨o,rfl,r⟩,λ y a=>(key y a).1.ae i.size (λ b d=>i.block b ((key y a).1.lt d) (far y a b d)),λ b d=>?_,λ y a b d=>⟨((key y a).2 b d).1,λ g=>far y a b d (eY g)⟩⟩;have g:=eY d;subst g;rcases f with f|f
 ·exact h.new _ f
 omega
theorem Yr{a:Type}{l:List a}{x:a}(h:l[i]?=some x):l=l.take i++x::l.drop (i+1):=by
 obtain⟨b,c⟩:=dz.1 h;rw[<-c,<-jY b,gZ]
theorem jA.ahead(h:jA es k i):∀x∈(es.take i).map jg,x.1<k.toNat:=λ x c=>by
 obtain⟨y,d,rfl⟩:=bL.1 c;obtain⟨j,a,e⟩:=fU d;rw[zt]at a;have b:j<i:=Z
 refine h.below j y b ?_;rw[<-e,List.getElem_take,bK]
theorem Tu(h:uX es k i=true):∃x,es[i]?=some x/\x.k=k:=by
 unfold uX at h
 cases a:es[i]? with
 | none=>rw[a]at h;cases h
 | some x=>rw[a]at h;exact⟨x,rfl,of_decide_eq_true h⟩
theorem FD.of(c:jc (es.map jg)):FD es:=λ a b x y f g h=>by
 unfold DP.jc at c;rw[List.pairwise_map]at c;have d:=dz.1 g;have e:=dz.1 h;have:=jP.1 c a b d.1 e.1 f;rw[d.2,e.2]at this;exact this
theorem jA.behind(h:jA es k i)(l:FD es)(b:uX es k i=false):∀x∈(es.drop i).map jg,k.toNat<x.1:=λ x m=>by
 obtain⟨y,n,rfl⟩:=bL.1 m;obtain⟨j,f,e⟩:=fU n;rw[zd]at f;rw[List.getElem_drop]at e;have a:es[i+j]?=some y:=by rw[<-e,bK]
 have o:=h.above (i+j) y Z a
 have p:y.k.toNat≠k.toNat:=λ d=>by
  by_cases g:j=0
  ·subst g;rw[kg]at a;unfold uX at b;rw[a]at b;exact absurd (mV.1 d) (of_decide_eq_false b)
  have c:i<Y es:=Z
  have q:=l i (i+j) es[i] y Z (bK c) a;have r:=h.above i es[i] (aH _) (bK c);omega
 show k.toNat<y.k.toNat;omega
theorem mO(h:jA es k i)(b:uX es k i=true):(es.take i++es.drop (i+1)).map jg=aS k.toNat [] (es.map jg):=by
 obtain⟨x,d,c⟩:=Tu b
 have a:es.map jg=(es.take i).map jg++(k.toNat,x.l)::(es.drop (i+1)).map jg:=by
  conv=>lhs;rw[Yr d]
  rw[dI,jr,<-c];rfl
 rw[a,LQ _ _ h.ahead,Yq,be rfl,dI]
theorem Af(h:jA es k i)(d:uX es k i=true){x:EM}(a:es[i]?=some x){l:List Rc}(f:l≠[]):(es.set i ⟨x.k,J,I,l⟩).map jg=aS k.toNat l (es.map jg):=by
 obtain⟨y,g,b⟩:=Tu d;obtain rfl:y=x:=bf (g.symm.trans a);have e:=(dz.1 a).1
 have c:es.map jg=(es.take i).map jg++(k.toNat,y.l)::(es.drop (i+1)).map jg:=by
  conv=>lhs;rw[Yr a]
  rw[dI,jr,<-b];rfl
 rw[c,LQ _ _ h.ahead,Yq,aE f,List.set_eq_take_append_cons_drop,be e,dI,jr,<-b];rfl
theorem sd(h:jA es k i)(d:FD es)(b:uX es k i=false){l:List Rc}(c:l≠[]):(es.take i++(⟨k,J,I,l⟩:EM)::es.drop i).map jg=aS k.toNat l (es.map jg):=by
 have a:es.map jg=(es.take i).map jg++(es.drop i).map jg:=by rw[<-dI,gZ]
 rw[a,LQ _ _ h.ahead,DP.gJ c (h.behind d b),dI,jr];rfl
theorem qB(h:jA es k i)(c:FD es)(b:uX es k i=false):es.map jg=aS k.toNat [] (es.map jg):=by
 have a:es.map jg=(es.take i).map jg++(es.drop i).map jg:=by rw[<-dI,gZ]
 rw[a,LQ _ _ h.ahead,DP.fM (h.behind c b)]
end
section
variable{w:World}{m:Nat}
theorem yg.after(h:yg E W g P D K A ex Ec r1 r2 root l2 ps2 X F G key s)(i:Kept E w W):yg E w g P D K A ex Ec r1 r2 root l2 ps2 X F G key s:=by
 obtain⟨B,l,ps,q,rp,L,j,a,b,c,d,e,f⟩:=h;exact⟨B,l,ps,q,rp,L,j,a,b,c,d,e,i.trans f⟩
theorem zg.after(h:zg E W g P D K A ex dC ps2 root m n)(k:Kept E w W):zg E w g P D K A ex dC ps2 root m n:=by
 obtain⟨B,a,q,rp,L,l,b,c,d,e,f,i,j⟩:=h;exact⟨B,a,q,rp,L,l,b,c,d,e,f,i,k.trans j⟩
end
open DP (Rc bU aS jc eT gm TH bV)
theorem Yt(W:World)(L:List bU)(b:eT L)(a:(gm L).length<1000000) :
  Calls prog 47 #[a8 (str (gm L))] W λ e c=>GY W c L e:=by
 by_cases h:L=[]
 ·subst h;exact BT W
 exact ud W L h b a
section
variable{h r:World}{d N c:Nat}
def sJ(E:Nat->Prop)(W g:World)(P D K:Nat)(A:AP)(ex dC:List Nat)(Ec:Nat->List UInt8)(r1 r2 root:Nat)(l2:List KV)(ps2:List Nat)(X:List HT)(F G:Nat->List UInt8)(b:UInt64)(s:List UInt8)(e:Ending):Prop:=
 (e=aw (V U 0)/\yg E W g P D K A ex Ec r1 r2 root l2 ps2 X F G b s)\/(e=aw (V U 6)/\zg E W g P D K A ex dC ps2 root (wt X+wS s) (Y s))
theorem AE(f:LZ E h P D Dp T H d A r1 root)(hd:h.cell? (Dp,3)=some (aq T))(m:DM A ex Ec r1 r2 root l1 l2 dC ps2 pg rp L X)(K:TH l1 l2 (pR X) F G)(z:um l1 X F b n)(y:Below h h r)(u:EX N r ao c es)(C:es.map jg=Q)(I:eT Q)(q:(gm Q).length<=400000)(v:Y X<1000000)(B:d+((F b.toNat).length+(gm Q).length+2200)<900000000)(o:Kept E W h) :
  r.drew.cell? (Dp,3)=some (aq T)/\Calls prog 101 #[ad ao (Y es) c] r.drew λ e i=>e=aw (a8 (str (gm Q)))/\i.cell? (Dp,3)=some (aq T) /\
   Calls prog 43 #[aq Dp,aq T,V a7 b.toNat,V a7 (n:Nat),a8 (str (gm Q))] i λ e p=>sJ E W p P D (d+((F b.toNat).length+(gm Q).length+2200)) A ex dC Ec r1 r2 root l2 ps2 X F G b (gm Q) e:=by
 subst C;have j:Below h h r.drew:=y.trans ((aU _ _).drew)
 have k:∀w,Kept E h w->w.cell? (Dp,3)=some (aq T):=λ w J=>by
  rw[<-hd];exact eB (J.block Dp f.md)
 refine⟨k _ (f.pz.kept j),(yz (u.next (aU _ _).drew) I Z).mono ?_⟩;rintro e i ⟨rfl,x⟩;have l:Below h h i:=j.trans (x.mono j.size);have g:=f.pz.kept l;have t:=f.of (f.pz.next l) g;refine⟨rfl,k _ g,(Ym t m K z q v B).mono ?_⟩;rintro e p (⟨a,s⟩|⟨a,s⟩)
 ·exact O ⟨a,s.after (o.trans g)⟩
 exact al ⟨a,s.after (o.trans g)⟩
end
