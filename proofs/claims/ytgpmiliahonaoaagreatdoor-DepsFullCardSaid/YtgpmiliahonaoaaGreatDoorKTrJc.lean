/- Facts on texts on pages. -/
import Derived.Test.YtgpmiliahonaoaaGreatDoorKTrGc
set_option maxRecDepth 100000
set_option maxHeartbeats 8000000
set_option linter.unusedSimpArgs false
open Go.Value renaming bool->a6,int->V,pointer->aq,slice->ad,tuple->a9
open Go.IntKind renaming i64->U,u64->a7
open Go.Ending renaming returned->aw
open List renaming length->Y
open Or renaming inl->O,inr->al
open Go.Proofs.Tryz
namespace Go.Proofs.YtgpmiliahonaoaaGreatDoor
open Go.RowKit
open UK (str aF nth Only Row ay)
variable{S E:Nat->Prop}{W e:World}{nb kc vc ac:Nat}{x:Nd}{b:List UInt64}{c:List Nat}{ka va aa:Option Addr}{root:Int}
theorem CS(k:Nat)(h:k<=1000):wrap64 (k:Int)=(k:Int):=by unfold wrap64;omega
theorem CU(k:Nat)(h:k<=1000):IntKind.i64.wrap (k:Int)=(k:Int):=by rw[dM];omega
theorem mL{n m h:Nat}(hn:CP S W nb ⟨false,b,[],c⟩)(w:∀g,S g->g<W.1.size/\g≠nb)(X:Y b=n)(J:Y c=m)(hm:m=n+1)(ha:m<=1000)(hh:m/2=h)(h2:2<=h) :
  Calls prog 238 #[aq nb] W (IX S W nb ⟨false,b,[],c⟩):=by
 obtain⟨kv,av,vv,x,A,E,K⟩:=hn;dsimp only at x A K E;have hr:h<n:=Z
 have hp:h<m:=Z
 obtain⟨f,o,p,rfl,hg,_⟩:=A.shape (by rw[dH];omega);obtain⟨s,t,l,rfl,hi,_⟩:=K.shape (by rw[iC];omega);rw[dH,X]at x A hg;rw[iC,J]at x K hi;have h0:wrap64 ((h-1:Nat):Int)=((h-1:Nat):Int):=CS _ Z
 have IZ:wrap64 ((h:Int)-1)=((h-1:Nat):Int):=by
  have e:(h:Int)-1=((h-1:Nat):Int):=(Int.ofNat_sub (show 1<=h from Z)).symm;rw[e];exact h0
 have Ja:IntKind.i64.wrap ((h:Int)-1)=((h-1:Nat):Int):=by
  have e:(h:Int)-1=((h-1:Nat):Int):=(Int.ofNat_sub (show 1<=h from Z)).symm;rw[e];exact CU _ Z
 have h3:((h-1:Nat):Int)<=(p:Int):=Int.ofNat_le.2 Z;have h4:(h:Int)<=(l:Int):=Int.ofNat_le.2 Z;have h5:((h-1:Nat):Int)<(n:Int):=Int.ofNat_lt.2 Z;have h6:(0:Int)<=((h-1:Nat):Int):=Int.natCast_nonneg _;have DV:h-1<n:=Z
 have H9:=b9 Ja IZ h0 h3 h4 h5 h6 DV;clear Ja IZ h0 h3 h4 h5 h6 DV;have b0:=x.c0;have b1:=x.c1;have b3:=x.c3;have hb:=x
 have k2:gQ S W (ad (f,o+h) (b.drop h).length (p-h)) (az (b.drop h)):=by
  have:=A.drop h Z;rw[KC]at this;rw[zd,X];exact this
 have v2:gQ S W (ad (s,t+h) (c.drop h).length (l-h)) (ints (c.drop h)):=by
  have:=K.drop h Z;rw[gl]at this;rw[zd,J];exact this
 have k1:gQ S W (ad (f,o) (h-1) p) (az (b.take (h-1))):=by
  have:=A.take (h-1) Z;rw[KD]at this;exact this
 have v1:gQ S W (ad (s,t) h l) (ints (c.take h)):=by
  have:=K.take h Z;rw[hQ]at this;exact this
 have F:(b.drop h).length=n-h:=by rw[zd,X]
 have G:(c.drop h).length=m-h:=by rw[zd,J]
 obtain⟨q,h7⟩:∃q:UInt64,q=b.getD (h-1) 0:=⟨_,rfl⟩
 have c8:W.cell? (f,o+(h-1))=some (V a7 (q.toNat:Int))/\f<W.1.size:=by
  obtain⟨ao,c',e,_,ho⟩:=A
  obtain⟨g',o',e2,T,hc⟩:=ho (h-1) (V a7 (q.toNat:Int)) (tO _ _ _ (by
   rw[h7,fV,bK Z];rfl))
  injection e with e _ _
  rw[e2]at e
  injection e with e
  injection e with e4 e5
  subst e4 e5;exact⟨hc,(w _ T).1⟩
 have C8:=zH c8;have HQ:=zH h7;clear c8 h7;have P:∀g,S g->g<W.1.size:=λ g T=>(w g T).1
 have hC:=((KA (W:=W.drew) (k2.below (hBd W) P) P Z Z).mono (R':=λ e w'=>∃a j,e=aw (ad (some ⟨a,0,none⟩) (n-h) j)/\ay w' nb #[a6 false,ad (f,o) n p,av,ad (s,t) m l] /\
  Calls prog 266 #[ad (s,t+h) (m-h) (l-h)] w' (λ e w''=>∃d k,e=aw (ad (some ⟨d,0,none⟩) (m-h) k)/\ay w'' nb #[a6 false,ad (f,o) n p,av,ad (s,t) m l] /\
   Row w'' a j (az (b.drop h))/\Row w'' d k (ints (c.drop h))/\W.1.size<=a/\W.1.size<=d/\a≠d/\Below W W w'')) (λ e w' ⟨a,j,R,i,y,VE⟩=>by
  have bl:Below W W w':=(hBd W).trans VE;rw[F]at R;refine⟨a,j,R,hb.next bl,?_⟩;have hj:∀g,S g->g<w'.1.size:=λ g T=>cB (P g T) bl.size;have:=cA (v2.below bl P) hj Z Z;rw[G]at this;refine this.mono (λ e w'' ⟨d,k,R,r,z,rU⟩=>?_);have Oq:Below W W w'':=bl.trans (rU.mono bl.size);rw[G]at R;have:=i.lt;exact⟨d,k,R,hb.next Oq,i.ae rU.size (rU.block _ i.lt),r,y,by have:=bl.size;omega,Z,Oq⟩))
 rw[F]at hC;have HC:=zH hC;have HK:=bp hb k1 v1 E;clear x A K E k1 k2 v1 v2 F G hb hC;have hq:Int.tdiv (m:Int) 2=(h:Int):=by rw[nP Z];omega
 have hx:(m:Int)/2=(h:Int):=Z
 have hk:Hid (m=n+1/\m/2=h/\m<=1000):=⟨hm,hh,ha⟩;have hs:(0:Int)<=(h:Int):=Z
 have ht:(h:Int)<=(n:Int):=Z
 have hu:(h:Int)<=(m:Int):=Z
 have hy:wrap64 (h:Int)=(h:Int):=CS _ Z;have hv:¬(p=h):=Z
 have hw:¬(l=h):=Z
 clear hm hh ha
 go_enter func238,ntmps238
 go_wp2_with fail
 go_region_held (λ he:World=>he.cell? (nb,1)=some (ad (f,o) n p)/\he.cell? (nb,3)=some (ad (s,t) m l)) (first|exact⟨b1,b3⟩|exact⟨m1,m2⟩|exact⟨n1,n2⟩|exact⟨q1,q2⟩) (first
  | (go_at_call 265;refine HC.out.mono ?_;rintro e w3 ⟨a,j,rfl,y1,y2⟩;have m1:=y1.cell 1 _ rfl;have m2:=y1.cell 3 _ rfl;replace y1:=zH y1;replace y2:=zH y2)
  | (go_at_call 266;refine y2.out.mono ?_;rintro e u ⟨d,k,rfl,z1,z2⟩;have n1:=z1.cell 1 _ rfl;have n2:=z1.cell 3 _ rfl;have q1:=(z1.alloc (.cells #[a6 false,ad a (n-h) j,ad none 0 0,ad d (m-h) k] 212)).cell 1 _ rfl;have q2:=(z1.alloc (.cells #[a6 false,ad a (n-h) j,ad none 0 0,ad d (m-h) k] 212)).cell 3 _ rfl;replace z1:=zH z1;replace z2:=zH z2))
 obtain⟨i,r,y,z,yK,bl⟩:=z2.out;have v:=z1.out.alloc (.cells #[a6 false,ad a (n-h) j,ad none 0 0,ad d (m-h) k] 212);have B:ay (u.alloc (.cells #[a6 false,ad a (n-h) j,ad none 0 0,ad d (m-h) k] 212)) u #[a6 false,ad a (n-h) j,ad none 0 0,ad d (m-h) k]:=Gm rfl;have C:=bl.alloc bl.size (.cells #[a6 false,ad a (n-h) j,ad none 0 0,ad d (m-h) k] 212);have Q:Below u u (u.alloc (.cells #[a6 false,ad a (n-h) j,ad none 0 0,ad d (m-h) k] 212)):=(aU _ _).alloc (aH _) _;have M:a<u.1.size:=i.lt;have N:d<u.1.size:=r.lt;replace i:=i.ae Q.size (Q.block _ i.lt);replace r:=r.ae Q.size (Q.block _ r.lt);have H:W.1.size<=u.1.size:=bl.size;have I:nb<u.1.size:=z1.out.lt;generalize hl:u.1.size=mb at B H I M N;generalize uZ:u.alloc (.cells #[a6 false,ad a (n-h) j,ad none 0 0,ad d (m-h) k] 212)=D at v B C i r;clear y1 y2 z1 z2 m1 m2 n1 n2 HC b0 b1 b3 q1 q2 Q;have q1:=v.cell 1 _ rfl;have q2:=v.cell 3 _ rfl;have f1:=v.free 1;have f2:=v.free 3;have q8:D.cell? (f,o+(h-1))=some (V a7 (q.toNat:Int)):=(C.cell (p:=⟨f,o+(h-1),none⟩) C8.out.2).trans C8.out.1;obtain⟨Ja,IZ,h0,h3,h4,h5,h6,DV⟩:=H9.out;have H5:=bs v B C i r H I;have H6:=bw M N y z yK w;clear v B C i r H I C8 M N y z yK w P uZ hl
 go_wp2_with fail
 go_region_law (fail)
 all_goals
  obtain⟨v,B,C,i,r,H,I⟩:=H5.out;obtain⟨M,N,y,z,yK,w⟩:=H6.out;obtain⟨IY,k1,v1,E⟩:=HK.out;have L:Only nb W ((D.setCell (nb,1) (ad (f,o) (h-1) p)).setCell (nb,3) (ad (s,t) h l)).drew:=(((Only.of_below C).set 1 _).set 3 _).drew;have o6:Only nb D ((D.setCell (nb,1) (ad (f,o) (h-1) p)).setCell (nb,3) (ad (s,t) h l)).drew:=(((Only.refl nb D).set 1 _).set 3 _).drew;have h1:ay ((D.setCell (nb,1) (ad (f,o) (h-1) p)).setCell (nb,3) (ad (s,t) h l)).drew nb #[a6 false,ad (f,o) (h-1) p,av,ad (s,t) h l]:=(v.set 1 _).set 3 _;have CQ:=B.only o6 (Nat.ne_of_gt I);have h8:a≠nb:=λ e=>mE nb (cB IY.lt (e▸y));have h9:d≠nb:=λ e=>mE nb (cB IY.lt (e▸z));have CR:=i.only o6 h8;have EC:=r.only o6 h9;generalize ((D.setCell (nb,1) (ad (f,o) (h-1) p)).setCell (nb,3) (ad (s,t) h l)).drew=w6 at L o6 h1 CQ CR EC;have F:(az (b.drop h)).length=n-h:=by rw[dH,zd,X]
  have G:(ints (c.drop h)).length=m-h:=by rw[iC,zd,J]
  have uE:=CQ.lt
  have fin:IX S W nb ⟨false,b,[],c⟩ (aw (a9 #[aq mb,V a7 (q.toNat:Int)])) w6:=by
   rw[HQ.out];unfold IX;rw[KG (show Y c/2=h by rw[J];exact hk.out.2.1)];refine⟨mb,rfl,⟨_,_,_,h1,k1.only L w,E.only L w,v1.only L w⟩,⟨_,_,_,CQ,?_,fL,?_⟩,H,uE,L⟩
   ·have:=xz (S:=λ g=>W.1.size<=g/\g<w6.1.size/\g≠mb) CR ⟨y,CR.lt,Nat.ne_of_lt M⟩;rw[F]at this;exact this
   have:=xz (S:=λ g=>W.1.size<=g/\g<w6.1.size/\g≠mb) EC ⟨z,EC.lt,Nat.ne_of_lt N⟩;rw[G]at this;exact this
  have HF:=zH fin;clear v B C i r H I IY k1 v1 E L o6 h1 CQ CR EC fin F G H5 H6 HK uE M N h8 h9 f1 f2 q1 q2 q8 y z yK w HQ X J;go_wp2;go_ret2;exact HF.out
section
variable{N M:Nat}
theorem ns(i:CP S W nb x)(h:∀g,S g->g<W.1.size/\g≠nb)(j:og x)(hf:qw x=true) :
  Calls prog 238 #[aq nb] W (IX S W nb x):=by
 unfold qw at hf;simp only[Bool.or_eq_true,decide_eq_true_eq]at hf;obtain⟨l,b,vals,c⟩:=x
 cases l with
 | true=>
  obtain⟨d,a,e⟩:=j.1 rfl;dsimp only at d a e hf;subst a;have f:Y b=31:=by simp at hf;omega
  exact JM i h f Z
 | false=>
  obtain⟨d,a,e,k,_⟩:=j.2 rfl;dsimp only at d a e k hf;subst a;have f:31<=Y b:=Z
  exact mL i h rfl rfl d Z rfl Z
theorem zu.wins(h:zu N M W nb x ka va aa kc vc ac):CP (λ g=>N<=g/\g<M/\g≠nb) W nb x:=by
 obtain⟨b,d,c⟩:=h;refine⟨_,_,_,b.box,?_,?_,?_⟩
 ·have:=b.k.win (S:=λ g=>N<=g/\g<M/\g≠nb) (λ g a=>⟨(b.new g (O a)).1,c g (O a),(b.new g (O a)).2⟩);rw[dH]at this;exact this
 ·have:=b.v.win (S:=λ g=>N<=g/\g<M/\g≠nb) (λ g a=>⟨(b.new g (al (O a))).1,c g (al (O a)),(b.new g (al (O a))).2⟩);rw[dH]at this;exact this
 have:=b.a.win (S:=λ g=>N<=g/\g<M/\g≠nb) (λ g a=>⟨(b.new g (al (al a))).1,c g (al (al a)),(b.new g (al (al a))).2⟩);rw[iC]at this;exact this
end
section
variable{P D T k d N M:Nat}{A:AP}
theorem aZ.wins(h:aZ N W nb x ka va aa kc vc ac):CP (λ g=>aG ka g\/aG va g\/aG aa g) W nb x/\∀g,(aG ka g\/aG va g\/aG aa g)->g<W.1.size/\g≠nb:=by
 refine⟨⟨_,_,_,h.box,?_,?_,?_⟩,λ g a=>⟨?_,(h.new g a).2⟩⟩
 ·have:=h.k.win (S:=λ g=>aG ka g\/aG va g\/aG aa g) (λ g a=>O a);rw[dH]at this;exact this
 ·have:=h.v.win (S:=λ g=>aG ka g\/aG va g\/aG aa g) (λ g a=>al (O a));rw[dH]at this;exact this
 ·have:=h.a.win (S:=λ g=>aG ka g\/aG va g\/aG aa g) (λ g a=>al (al a));rw[iC]at this;exact this
 rcases a with a|a|a
 ·exact h.k.lt a
 ·exact h.v.lt a
 exact h.a.lt a
theorem CP.reads(h:CP S W nb x)(a:∀g,S g->E g)(i:E nb):jU E W nb x:=by
 obtain⟨j,k,c,b,d,e,f⟩:=h;exact⟨j,k,c,b,i,d.mono a,e.mono a,f.mono a⟩
theorem jU.xG(h:jU E W nb x)(a:Kept E W e):jU E e nb x:=by
 obtain⟨j,k,d,b,c,f,g,i⟩:=h;exact⟨j,k,d,b.ae (a.block nb c),c,f.kept a,g.kept a,i.kept a⟩
theorem fE(h0:PZ E W P D A k)(hk:k+6<900000000)(J:ay W T #[aq P,V U root])(I:E T)(zm:T≠nb)(M:A.Has d)(L:CP S W nb x)(q:∀g,S g->E g)(H:∀g,S g->g≠nb)(u:∀g,E g->g<W.1.size)(v:E nb)(Q:nb≠0)(y:og x)(hf:qw x=true) :
  Calls prog 238 #[aq nb] W λ e b=>∃i,e=aw (a9 #[aq (some ⟨i,0,none⟩),V a7 ((mU x).2.2.toNat:Int)]) /\
   Calls prog 150 #[aq T,V U d,aq nb] b λ e C=>e=aw (V U 0) /\
    Calls prog 181 #[aq T,aq i] C λ e l=>∃(B:AP) (more:Nat) (t:Int),e=aw (a9 #[V U more,V U t])/\kL A d x B more (mU x).2.2 t/\PZ E l P D B (k+6)/\Kept (λ j=>E j/\j≠nb) W l:=by
 obtain⟨F,G,_⟩:=y.split hf;refine(ns L (λ g c=>⟨u g (q g c),H g c⟩) y hf).mono ?_;rintro e b ⟨i,rfl,X,Y,K,qQ,o⟩;refine⟨i,rfl,?_⟩;have p5:PZ (λ j=>E j\/(W.1.size<=j/\j<b.1.size)) b P D A k:=h0.over (R:=λ j=>j=nb) (T:=λ j=>E j\/(W.1.size<=j/\j<b.1.size)) (λ j a=>by rw[a];exact v) (λ h=>Q h.symm) o.size (λ j a N=>o.block j a N) (λ j a=>a);have r:=J.only o zm;have R:Kept (λ j=>E j/\j≠nb) W b:=⟨o.os,o.tape,o.output,o.size,λ j a=>o.block j (u j a.1) a.2⟩;have r1:=X.reads (E:=λ j=>E j\/(W.1.size<=j/\j<b.1.size)) (λ g c=>O (q g c)) (O v);have r2:=Y.reads (E:=λ j=>E j\/(W.1.size<=j/\j<b.1.size)) (λ g c=>al ⟨c.1,c.2.1⟩) (al ⟨K,qQ⟩);refine(cZ p5 Z r M r1 F).mono ?_;rintro e C ⟨rfl,z,m⟩;refine⟨rfl,?_⟩;have s:=r.ae (m.block T (O I));have r3:=r2.xG m;have w:=R.trans (m.mono (T:=λ j=>E j/\j≠nb) (λ j a=>O a.1));by_cases f:A.Full
 ·refine(gp z Z s f).mono ?_;rintro e l ⟨rfl,p,n⟩;exact⟨_,0,6,rfl,.none hf f,p.less (λ _ a=>O a),w.trans (n.mono (λ j a=>O a.1))⟩
 refine(ia z Z s f r3 G).mono ?_;rintro e l ⟨rfl,p,n⟩;exact⟨_,A.next,0,rfl,.two hf f,p.less (λ _ a=>O a),w.trans (n.mono (λ j a=>O a.1))⟩
end
