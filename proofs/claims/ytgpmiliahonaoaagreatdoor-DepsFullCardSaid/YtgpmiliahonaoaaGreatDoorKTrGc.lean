/- Facts on texts on pages. -/
import Derived.Test.YtgpmiliahonaoaaGreatDoorKTrFc
set_option maxRecDepth 100000
set_option maxHeartbeats 8000000
set_option linter.unusedSimpArgs false
open Go.Value renaming bool->a6,int->V,pointer->aq,slice->ad,tuple->a9
open List renaming length->Y
open Go.IntKind renaming u64->a7
open Go.Ending renaming returned->aw
open Go.Proofs.Tryz
namespace Go.Proofs.YtgpmiliahonaoaaGreatDoor
open Go.RowKit
open UK (str aF nth Only Row ay)
variable{S T:Nat->Prop}{a g c:Nat}{v:Value}{b:List Value}{d vals:List UInt64}
section
variable{W e:World}{x:Nd}
theorem hBd(W:World):Below W W W.drew:=(aU _ _).drew
theorem gQ.shape(h:gQ S W v b)(a:0<Y b):∃g o c,v=ad (some ⟨g,o,none⟩) (Y b) c/\Y b<=c/\S g:=by
 obtain⟨i,c,rfl,d,f⟩:=h;obtain⟨g,o,rfl,e,_⟩:=f 0 b[0] (bK a);exact⟨g,o,c,rfl,d,e⟩
theorem gQ.drop{o n:Nat}(h:gQ S W (ad (g,o) n c) b)(i:Nat)(x:i<=n):gQ S W (ad (g,o+i) (n-i) (c-i)) (b.drop i):=by
 obtain⟨s,t,e,w,r⟩:=h
 injection e with d f k
 subst d f k;refine⟨_,_,by rw[zd],by rw[zd];omega,λ j u a=>?_⟩;rw[eP]at a;obtain⟨v,y,e,q,p⟩:=r _ u a
 injection e with e
 injection e with l m
 subst l m;exact⟨g,o+i,rfl,q,by rw[Nat.add_assoc];exact p⟩
theorem gQ.take{o n:Nat}(h:gQ S W (ad (g,o) n c) b)(i:Nat)(l:i<=n):gQ S W (ad (g,o) i c) (b.take i):=by
 obtain⟨q,r,e,s,p⟩:=h
 injection e with d f k
 subst d f k;refine⟨_,_,by rw[zt,gV l],by rw[zt];omega,λ j u a=>?_⟩
 have m:j<i:=by
  have:=(dz.1 a).1;rw[zt]at this;omega
 rw[fT m]at a;exact p _ u a
theorem gQ.only{v:Value}{b:List Value}(h:gQ S W v b)(q:Only a W e)(i:∀g,S g->g<W.1.size/\g≠a):gQ S e v b:=by
 obtain⟨k,c,l,n,r⟩:=h;refine⟨k,c,l,n,λ j u p=>?_⟩;obtain⟨g,o,m,f,d⟩:=r j u p
 exact⟨g,o,m,f,by
  unfold World.cell? at d ⊢;dsimp only at d ⊢;rw[q.block g (i g f).1 (i g f).2];exact d⟩
theorem gQ.mono(h:gQ S W v b)(m:∀g,S g->T g):gQ T W v b:=by
 obtain⟨a,c,e,f,n⟩:=h
 exact⟨a,c,e,f,λ j u l=>by
  obtain⟨g,o,d,k,i⟩:=n j u l;exact⟨g,o,d,m g k,i⟩⟩
theorem KC(l:List UInt64)(i:Nat):(az l).drop i=az (l.drop i):=by unfold az;rw[List.map_drop]
theorem KD(l:List UInt64)(i:Nat):(az l).take i=az (l.take i):=by unfold az;rw[List.map_take]
theorem gl(l:List Nat)(i:Nat):(ints l).drop i=ints (l.drop i):=by unfold ints;rw[List.map_drop]
theorem hQ(l:List Nat)(i:Nat):(ints l).take i=ints (l.take i):=by unfold ints;rw[List.map_take]
theorem xz(h:Row W g c b)(a:S g):gQ S W (ad g (Y b) c) b:=
 ⟨_,c,rfl,h.le,λ j u d=>⟨g,0,rfl,a,by rw[fB];exact h.at' j u d⟩⟩
theorem fL:gQ S W (ad none 0 0) []:=⟨none,0,rfl,aH _,λ j u a=>by cases a⟩
def CP(S:Nat->Prop)(W:World)(a:Nat)(x:Nd):Prop:=∃c d b,ay W a #[a6 x.leaf,c,d,b]/\gQ S W c (az x.ag)/\gQ S W d (az x.vals)/\gQ S W b (ints x.ak)
def IX(S:Nat->Prop)(W:World)(a:Nat)(x:Nd)(e:Ending)(c:World):Prop:=
 ∃b,e=aw (a9 #[aq (some ⟨b,0,none⟩),V a7 ((mU x).2.2.toNat:Int)])/\CP S c a (mU x).1/\CP (λ g=>W.1.size<=g/\g<c.1.size/\g≠b) c b (mU x).2.1/\W.1.size<=b/\b<c.1.size/\Only a W c
theorem JM(hn:CP S W a ⟨true,d,vals,[]⟩)(H:∀g,S g->g<W.1.size/\g≠a)(J:Y d=31)(L:Y vals=31) :
  Calls prog 238 #[aq a] W (IX S W a ⟨true,d,vals,[]⟩):=by
 obtain⟨kv,vv,av,b,v,z,u⟩:=hn;dsimp only at b v z u;obtain⟨q,s,m,rfl,h7,_⟩:=v.shape (by rw[dH];omega);obtain⟨n,o,k,rfl,h8,_⟩:=z.shape (by rw[dH];omega);rw[dH,J]at b v h7;rw[dH,L]at b z h8;have b0:=b.c0;have b1:=b.c1;have b2:=b.c2;have X:=b
 have k2:gQ S W (ad (q,s+15) (d.drop 15).length (m-15)) (az (d.drop 15)):=by
  have:=v.drop 15 Z;rw[KC]at this;rw[zd,J];exact this
 have v2:gQ S W (ad (n,o+15) (vals.drop 15).length (k-15)) (az (vals.drop 15)):=by
  have:=z.drop 15 Z;rw[KC]at this;rw[zd,L];exact this
 have M:gQ S W (ad (q,s) 15 m) (az (d.take 15)):=by
  have:=v.take 15 Z;rw[KD]at this;exact this
 have P:gQ S W (ad (n,o) 15 k) (az (vals.take 15)):=by
  have:=z.take 15 Z;rw[KD]at this;exact this
 have w:(d.drop 15).length=16:=by rw[zd,J]
 have x:(vals.drop 15).length=16:=by rw[zd,L]
 have D:∀g,S g->g<W.1.size:=λ g hg=>(H g hg).1
 have hC:=((KA (W:=W.drew) (k2.below (hBd W) D) D Z Z).mono (R':=λ e Q=>∃c i,e=aw (ad (some ⟨c,0,none⟩) 16 i)/\ay Q a #[a6 true,ad (q,s) 31 m,ad (n,o) 31 k,av] /\
  Calls prog 265 #[ad (n,o+15) 16 (k-15)] Q (λ e w''=>∃f j,e=aw (ad (some ⟨f,0,none⟩) 16 j)/\ay w'' a #[a6 true,ad (q,s) 31 m,ad (n,o) 31 k,av] /\
   Row w'' c i (az (d.drop 15))/\Row w'' f j (az (vals.drop 15))/\W.1.size<=c/\W.1.size<=f/\c≠f/\Below W W w'')) (λ e Q ⟨c,i,I,h,h0,VE⟩=>by
  have bl:Below W W Q:=(hBd W).trans VE;rw[w]at I;refine⟨c,i,I,X.next bl,?_⟩;have h9:∀g,S g->g<Q.1.size:=λ g hg=>cB (D g hg) bl.size;have:=KA (v2.below bl D) h9 Z Z;rw[x]at this;refine this.mono (λ e w'' ⟨f,j,I,l,h2,rU⟩=>?_);have Oq:Below W W w'':=bl.trans (rU.mono bl.size);rw[x]at I;have:=h.lt;exact⟨f,j,I,X.next Oq,h.ae rU.size (rU.block _ h.lt),l,h0,by have:=bl.size;omega,Z,Oq⟩))
 rw[w]at hC;have HC:=zH hC;have HK:=bp X M P u;clear b v z u M k2 P v2 w x X hC
 go_enter func238,ntmps238
 go_wp2_with fail
 go_region_held (λ h6:World=>h6.cell? (a,1)=some (ad (q,s) 31 m)/\h6.cell? (a,2)=some (ad (n,o) 31 k)) (first|exact⟨b1,b2⟩|exact⟨m1,m2⟩|exact⟨n1,n2⟩|exact⟨q1,q2⟩) (first
  | (go_at_call 265;refine HC.out.mono ?_;rintro e w3 ⟨c,i,rfl,R,y2⟩;have m1:=R.cell 1 _ rfl;have m2:=R.cell 2 _ rfl;replace R:=zH R;replace y2:=zH y2)
  | (go_at_call 265;refine y2.out.mono ?_;rintro e p ⟨f,j,rfl,z1,z2⟩;have n1:=z1.cell 1 _ rfl;have n2:=z1.cell 2 _ rfl;have q1:=(z1.alloc (.cells #[a6 true,ad c 16 i,ad f 16 j,ad none 0 0] 212)).cell 1 _ rfl;have q2:=(z1.alloc (.cells #[a6 true,ad c 16 i,ad f 16 j,ad none 0 0] 212)).cell 2 _ rfl;replace z1:=zH z1;replace z2:=zH z2))
 obtain⟨h,l,h0,h2,yK,bl⟩:=z2.out;have r:=z1.out.alloc (.cells #[a6 true,ad c 16 i,ad f 16 j,ad none 0 0] 212);have t:ay (p.alloc (.cells #[a6 true,ad c 16 i,ad f 16 j,ad none 0 0] 212)) p #[a6 true,ad c 16 i,ad f 16 j,ad none 0 0]:=Gm rfl;have B:=bl.alloc bl.size (.cells #[a6 true,ad c 16 i,ad f 16 j,ad none 0 0] 212);have G:Below p p (p.alloc (.cells #[a6 true,ad c 16 i,ad f 16 j,ad none 0 0] 212)):=(aU _ _).alloc (aH _) _;have tq:c<p.1.size:=h.lt;have tu:f<p.1.size:=l.lt;replace h:=h.ae G.size (G.block _ h.lt);replace l:=l.ae G.size (G.block _ l.lt);have y:W.1.size<=p.1.size:=bl.size;have K:a<p.1.size:=z1.out.lt;generalize hc:p.1.size=mb at t y K tq tu;generalize uZ:p.alloc (.cells #[a6 true,ad c 16 i,ad f 16 j,ad none 0 0] 212)=C at r t B h l;clear R y2 z1 z2 m1 m2 n1 n2 HC b0 b1 b2 q1 q2 G;have q1:=r.cell 1 _ rfl;have q2:=r.cell 2 _ rfl;have f1:=r.free 1;have f2:=r.free 2;have ha:(15:Int)<=(m:Int):=Z
 have hb:(15:Int)<=(k:Int):=Z
 have H5:=bs r t B h l y K;clear r t B h l y K
 go_wp2_with fail
 go_region_law (fail)
 all_goals
  obtain⟨r,t,B,h,l,y,K⟩:=H5.out;obtain⟨IY,M,P,u⟩:=HK.out;have A:Only a W ((C.setCell (a,1) (ad (q,s) 15 m)).setCell (a,2) (ad (n,o) 15 k)).drew:=(((Only.of_below B).set 1 _).set 2 _).drew;have N:Only a C ((C.setCell (a,1) (ad (q,s) 15 m)).setCell (a,2) (ad (n,o) 15 k)).drew:=(((Only.refl a C).set 1 _).set 2 _).drew;have h1:ay ((C.setCell (a,1) (ad (q,s) 15 m)).setCell (a,2) (ad (n,o) 15 k)).drew a #[a6 true,ad (q,s) 15 m,ad (n,o) 15 k,av]:=(r.set 1 _).set 2 _;have E:=t.only N Z;have h5:c≠a:=by have:=IY.lt;omega
  have F:=h.only N h5;have T:=l.only N (by have:=IY.lt;omega);generalize ((C.setCell (a,1) (ad (q,s) 15 m)).setCell (a,2) (ad (n,o) 15 k)).drew=w6 at A N h1 E F T;have m1:=E.cell 1 _ rfl
  have h3:(az (d.drop 15))[0]?=some (V a7 ((d.getD 15 0).toNat:Int)):=by
   refine tO _ 0 (d.getD 15 0) ?_;rw[eP,kg,fV,bK Z];rfl
  obtain⟨h4,hq⟩:∃h4:UInt64,h4=d.getD 15 0:=⟨_,rfl⟩;rw[<-hq]at h3;have c0:=F.at' 0 _ h3;have w:(az (d.drop 15)).length=16:=by rw[dH,zd,J]
  have x:(az (vals.drop 15)).length=16:=by rw[dH,zd,L]
  have uE:=E.lt
  have fin:IX S W a ⟨true,d,vals,[]⟩ (aw (a9 #[aq mb,V a7 (h4.toNat:Int)])) w6.drew:=by
   rw[hq];unfold IX;rw[KE (show Y d/2=15 from Z)];refine⟨mb,rfl,⟨_,_,_,h1,M.only A.drew H,P.only A.drew H,u.only A.drew H⟩,⟨_,_,_,E,?_,?_,fL⟩,y,uE,A.drew⟩
   ·have:=xz (S:=λ g=>W.1.size<=g/\g<w6.drew.1.size/\g≠mb) F ⟨h0,F.lt,Z⟩;rw[w]at this;exact this
   have:=xz (S:=λ g=>W.1.size<=g/\g<w6.drew.1.size/\g≠mb) T ⟨h2,T.lt,Z⟩;rw[x]at this;exact this
  have HF:=zH fin;clear r t B h l y K IY M P u A N h1 E F T fin h3 w x H5 HK uE tq tu h5 f1 f2 q1 q2 h0 h2 yK H D uZ hq J L
  go_wp2_with fail
  go_region_law (fail)
  all_goals
   go_wp2;go_ret2
   exact HF.out
end
