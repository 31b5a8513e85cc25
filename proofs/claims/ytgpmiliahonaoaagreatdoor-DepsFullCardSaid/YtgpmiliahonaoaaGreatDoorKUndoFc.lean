/- Facts on texts on pages. -/
import Derived.Test.YtgpmiliahonaoaaGreatDoorKDrOc
import Derived.RangeFuncNested
import Derived.RangeFuncBound
import Derived.RangeFuncCalls
import Derived.RangeFuncLeaves
import Derived.OwnWalkIn
import Derived.TacticsInMore
import Derived.LoopNIn
import Derived.LoopIn
import Derived.Test.YtgpmiliahonaoaaGreatDoorShelf
set_option maxRecDepth 100000
set_option maxHeartbeats 8000000
set_option linter.unusedSimpArgs false
open Go.Value renaming bool->a6,int->V,pointer->aq,slice->ad,string->a8,tuple->a9
open Go.IntKind renaming i64->U
open Or renaming inl->O,inr->al
open Go.Ending renaming returned->aw
open List renaming length->Y
open Go.Proofs.Tryz
namespace Go.Proofs.YtgpmiliahonaoaaGreatDoor
open Go.RowKit Go.BigFrame
open UK (str aF nth Only Row ay w32)
open DP (Rc bU aS bi eX)
variable{A A0 B C:AP}{o:AO}{p n D M k c i m b F r:Nat}{l zs j:List Int}{g:Operand}{E S:Nat->Prop}{W h w e:World}{P:Program}{H x:Int}{z:Option Addr}{pre:List (Int×Int)}{G:Array Tmp}{Q:Exit->Act->World->Prop}{a:Act}{lb:Array Value}{f:Int->Option (List UInt8)}{s:List UInt8}{v:Value}
def JX:List bU:=[(2,[⟨0,0,2,2⟩])]
def Ic:List bU:=[(2,[⟨0,0,2,2⟩]),(17179869187,[⟨1,1,1,1⟩])]
def M5:List bU:=[(17179869187,[⟨1,1,1,1⟩])]
theorem TG:aS (bi 0 2) [⟨0,0,2,2⟩] []=JX:=by decide
theorem TJ:aS (bi 4 3) [⟨1,1,1,1⟩] JX=Ic:=by decide
theorem TK:aS (bi 0 2) [] Ic=M5:=by decide
theorem Dx:(eX 1 1 Ic).map (λ x=>fC x.1)=[(0,2),(4,3)]:=by decide
theorem pY:(eX 1 1 M5).map (λ x=>fC x.1)=[(4,3)]:=by decide
theorem se:(eX 1 1 Ic).length=2:=by decide
theorem D3:(eX 1 1 M5).length=1:=by decide
theorem YV:∀q∈([⟨0,0,2,2⟩]:List Rc),q.ok:=λ q a=>by rw[bu.1 a];exact⟨by decide,by decide,by decide,by decide⟩
theorem YW:∀q∈([⟨1,1,1,1⟩]:List Rc),q.ok:=λ q a=>by rw[bu.1 a];exact⟨by decide,by decide,by decide,by decide⟩
theorem YX:kY JX:=by
 rw[<-TG];exact Ql.put (by decide) YV (by decide) (by decide)
theorem TL:kY Ic:=by
 rw[<-TJ];exact YX.put (by decide) YW (by decide) (by decide)
theorem Bj:kY M5:=by
 rw[<-TK];exact TL.put (by decide) (λ q a=>by cases a) (by decide) (by decide)
theorem qJ:(sP ([]++JX)).length<=4:=by decide
theorem Ga:(sP (JX++Ic)).length<=4:=by decide
theorem lE:(sP (Ic++M5)).length<=4:=by decide
theorem YY(w:World)(q:Rc):RX (w.alloc (.cells #[V U q.r,V U q.c,V U q.h,V U q.w] 23)) w 1 [q]:=by
 refine al ⟨_,rfl,?_⟩;have:=zF w (GU q) 23;exact this
theorem YZ(W:World)(ht:lY W)(S:Nat->Prop)(hS:∀j,S j->j<W.1.size) :
  Calls prog 9 #[] W λ e w'=>e=aw (a6 true)/\Kept S W w':=by
 have HM:=zH (YT W ht S hS 100 3 (by decide) Z Z Z);have h2:=zH hS;clear ht hS
 go_enter func9,ntmps9
 go_wp2_with fail
 refine HM.out.mono ?_;rintro e b ⟨P,D,T,Y,T2,H,rfl,ds,h4,k1⟩;obtain⟨q,R⟩:∃q:Nat->Prop,q=λ j=>(S j\/j=T\/j=Y\/j=T2\/j=H)\/(b.1.size<=j/\j<b.1.size+4):=⟨_,rfl⟩
 have hH:Hid (∀k l m g,k=b.alloc (.cells #[V U 0,V U 2] 25)->l=k.alloc (.cells #[V U 4,V U 3] 25)->m=l.alloc (.cells #[V U 1,V U 1] 25)->g=m.alloc (.cells #[V U 0,V U 0,V U 2,V U 2] 23) ->
   DS q g P D T Y T2 H 30 100 []/\RX g (some ⟨b.1.size+1+1+1,0,none⟩) 1 [⟨0,0,2,2⟩]/\ay g b #[V U 0,V U 2]/\ay g (b.1.size+1) #[V U 4,V U 3]/\ay g (b.1.size+1+1) #[V U 1,V U 1]/\Kept S W g/\W.1.size<=b.1.size):=zH (λ k l m g hA hB hC hD=>by
  have sA:k.1.size=b.1.size+1:=by rw[hA];simp
  have sB:l.1.size=b.1.size+1+1:=by rw[hB];simp[sA]
  have sC:m.1.size=b.1.size+1+1+1:=by rw[hC];simp[sB]
  have sD:g.1.size=b.1.size+1+1+1+1:=by rw[hD];simp[sC]
  have bA:Below b b k:=hA▸(aU _ _).alloc (aH _) _;have bB:Below k k l:=hB▸(aU _ _).alloc (aH _) _;have bC:Below l l m:=hC▸(aU _ _).alloc (aH _) _;have Q:Below m m g:=hD▸(aU _ _).alloc (aH _) _;have xA:ay k b #[V U 0,V U 2]:=hA▸ay.new b _ _;have xB:ay l k #[V U 4,V U 3]:=hB▸ay.new k _ _;have xC:ay m l #[V U 1,V U 1]:=hC▸ay.new l _ _;have xD:RX g m 1 [⟨0,0,2,2⟩]:=hD▸YY m ⟨0,0,2,2⟩;rw[sA]at xB;rw[sB]at xC;rw[sC]at xD;have Za:Below b b g:=bA.trans ((bB.mono Z).trans ((bC.mono Z).trans (Q.mono Z)));refine⟨ds.wide Za (λ j a=>?_) (λ j a=>by rw[R];exact O a),xD,((xA.next bB).next bC).next Q,(xB.next bC).next Q,xC.next Q,k1.trans ((ds.kept Za).mono (λ j a=>O a)),k1.size⟩;rw[R]at a;rcases a with a|a
  ·exact O a
  exact al ⟨a.1,Z⟩)
 have n:Hid (∀j,S j\/(b.1.size<=j/\j<b.1.size+4)->q j):=zH (λ j a=>by
  rw[R];rcases a with a|a
  ·exact O (O a)
  exact al a)
 clear HM ds h4 k1 R
 go_wp2_with fail
 obtain⟨ds1,h1,y1,y2,y3,iY,h6⟩:=hH.out _ _ _ _ rfl rfl rfl rfl;clear hH;have h:=TF (m:=4) (a:=0) (b:=2) (rl:=[⟨0,0,2,2⟩]) ds1 Ql (by decide) Z Z Z h1 (λ j a=>n.out j (al (by have:=eY a;omega))) YV (by decide) Z (by rw[TG];exact qJ) (by decide);rw[TG]at h;refine Calls.mono h ?_;rintro e p ⟨rfl,v,E⟩;have z1:=y1.ae (E.block _ (n.out _ (al ⟨Z,Z⟩)));have u:=y2.ae (E.block _ (n.out _ (al ⟨Z,Z⟩)));have N:=y3.ae (E.block _ (n.out _ (al ⟨Z,Z⟩)));have z:=iY.trans (E.mono (λ j a=>n.out j (O a)));have d0:=u.c0;have d1:=u.c1;have H2:=br v z1 u N z;clear ds1 h1 y1 y2 y3 iY h v E z1 u N z
 go_wp2_with fail
 clear d0 d1;obtain⟨v,z1,u,N,z⟩:=H2.out;obtain⟨x,A⟩:∃x,x=p.alloc (.cells #[V U 1,V U 1,V U 1,V U 1] 23):=⟨_,rfl⟩;have bE:Below p p x:=A▸(aU _ _).alloc (aH _) _;have xE:RX x p 1 [⟨1,1,1,1⟩]:=A▸YY p ⟨1,1,1,1⟩;have sE:x.1.size=p.1.size+1:=by rw[A];simp
 have Zb:DS (λ j=>q j\/j=p.1.size) x P D T Y T2 H (30+13000000) 100 JX:=v.wide bE (λ j a=>by
  rcases a with a|a
  ·exact O a
  exact al ⟨Z,Z⟩) (λ j a=>O a)
 have kE:=v.kept bE;have h:=TF (m:=4) (a:=4) (b:=3) (rl:=[⟨1,1,1,1⟩]) Zb YX (by decide) Z Z Z xE (λ j a=>al (eY a)) YW (by decide) Z (by rw[TJ];exact Ga) (by decide);rw[TJ]at h;rw[<-A];refine Calls.mono h ?_;rintro e w3 ⟨rfl,ds3,k3⟩;have k23:Kept q p w3:=kE.trans (k3.mono (λ j a=>O a));have c:∀j,S j->q j:=λ j a=>n.out j (O a);have d:=n.out b (al ⟨Z,Z⟩);have f:=n.out (b.1.size+1) (al ⟨Z,Z⟩);have i:=n.out (b.1.size+1+1) (al ⟨Z,Z⟩);have L:=z1.ae (k23.block _ d);have M:=u.ae (k23.block _ f);have t:=N.ae (k23.block _ i);have d0:=t.c0;have d1:=t.c1;have HAS:=zH (YS (a:=1) (b:=1) ds3 TL Z Z Z);rw[se,Dx]at HAS;have H3:=b9 L M t (z.trans (k23.mono c)) c d f i;clear v z1 u N z bE xE sE Zb kE h ds3 k3 k23 c d f i L M t A H2
 go_wp2_with fail
 refine HAS.out.mono ?_;rintro e w4 ⟨JJ,c4,rfl,C,uY,Zc,F⟩;obtain⟨L,M,t,o,c,d,f,i⟩:=H3.out;have s:=L.ae (F.block _ (O d));have J:=M.ae (F.block _ (O f));have K:=t.ae (F.block _ (O i));have d2:=s.c0;have d3:=s.c1;have h:=TF (m:=4) (a:=0) (b:=2) (rl:=[]) (ro:=none) (rc:=0) Zc TL (by decide) Z Z Z (O ⟨rfl,rfl,rfl⟩) (λ j a=>by cases a) (λ h7 hq=>by cases hq) (by decide) Z (by rw[TK];exact lE) (by decide);rw[TK]at h;have Hl:=zH h;have H4:=bT C s J K (o.trans (F.mono (λ j a=>O (c j a)))) c d f i;clear d0 d1 HAS L M t o c d f i s J K h C uY Zc F H3
 go_wp2_with fail
 refine Hl.out.mono ?_;rintro e w5 ⟨rfl,Zd,r⟩;obtain⟨C,s,J,K,o,c,d,f,i⟩:=H4.out;have y:=C.ae r.size (λ j a=>r.block j (al a));have G:=s.ae (r.block _ (O (O d)));have I:=J.ae (r.block _ (O (O f)));have t3:=K.ae (r.block _ (O (O i)));have d4:=t3.c0;have d5:=t3.c1;have HAS:=zH (YS (a:=1) (b:=1) Zd Bj Z Z Z);rw[D3,pY]at HAS;have H5:=bs y G I (o.trans (r.mono (λ j a=>O (O (c j a))))) c d f;clear d2 d3 Hl C s J K o c d f i y G I t3 Zd r H4
 go_wp2_with fail
 refine HAS.out.mono ?_;rintro e w6 ⟨h5,c6,rfl,h0,Qm,h3,w⟩;obtain⟨y,G,I,o,c,d,f⟩:=H5.out;have X:=y.ae w.size (λ j a=>w.block j (al a));have s1:=G.ae (w.block _ (O (O d)));have s2:=I.ae (w.block _ (O (O f)));have HF:=zH (o.trans (w.mono (λ j a=>O (O (c j a)))));obtain⟨g4,rfl,a0,a1⟩:=CX.two X (j:=0) rfl;obtain⟨g4',B,a2,a3⟩:=CX.two X (j:=1) rfl;obtain rfl:g4=g4':=by injection B with B;injection B with B
 obtain⟨g6,rfl,a4,a5⟩:=CX.two h0 (j:=0) rfl;have b0:=s1.cell 0 _ rfl;have b1:=s1.cell 1 _ rfl;have b2:=s2.cell 0 _ rfl;have b3:=s2.cell 1 _ rfl;clear y G I o c d f X s1 s2 h0 Qm h3 w H5 HAS B d4 d5
 go_wp2_with fail
 go_quiet (fail)
 go_wp2;go_ret
 exact⟨rfl,HF.out.trans (Kept.of_below (UK.dN (aU _ _) nq) (λ j a=>cB (h2.out j a) HF.out.size))⟩
namespace AP
variable{X:AP}
def In(A:AP)(p:Nat):Prop:=1<=p/\p<A.au/\p∉A.free
def jk(A:AP):AP:={A with op:=none}
theorem il(h:A.op=none)(p:Nat):A.Has p↔A.In p:=by
 have d:A.bO=[]:=by unfold AP.bO;rw[h]
 unfold AP.Has AP.In;rw[d];exact⟨λ ⟨a,b,c,_⟩=>⟨a,b,c⟩,λ ⟨a,b,c⟩=>⟨a,b,c,List.not_mem_nil⟩⟩
theorem Has.WR(h:A.Has p):A.In p:=⟨h.1,h.2.1,h.2.2.1⟩
theorem Good.jk(h:A.Good):A.jk.Good:=⟨h.one,h.aA,h.few,h.fA,h.free,List.nodup_nil,λ _ a=>absurd a List.not_mem_nil⟩
theorem Good.Fa(h:A.Good)(hf:¬A.Full):(∀p,A.take.In p↔A.In p\/p=A.next)/\A.take.aQ+1=A.aQ/\¬A.In A.next:=by
 have a:¬A.jk.Full:=hf;obtain⟨_,b,c⟩:=h.jk.take a;refine⟨λ p=>?_,c,λ d=>(h.jk.next a).1 ((il rfl _).2 d)⟩;have:=b p;rw[il rfl p,il (A:=A.jk) rfl p]at this;exact this
structure Since(A0 B:AP)(o:AO):Prop where
 shut:A0.op=none
 op:B.op=some o
 good:B.Good
 aA:B.aA=A0.aA
 fA:o.made.Nodup
 made:∀g,g∈o.made->∃m:Nat,g=m/\¬A0.Has m
 has:∀p:Nat,B.In p↔A0.Has p\/(p:Int)∈o.made
 was:∀(p:Int) (s:List UInt8),o.was p=some s->∃m:Nat,p=m/\A0.Has m/\s=A0.c m
 same:∀m:Nat,A0.Has m->o.was m=none->B.c m=A0.c m
 aQ:B.aQ+Y o.made=A0.aQ
def nU(A0 B:AP):Prop:=∃o,Since A0 B o
def begun(A:AP):AP:={A with op:=some {was:=λ _=>none,made:=[],gone:=[]}}
theorem Good.begun(h:A.Good):A.begun.Good:=⟨h.one,h.aA,h.few,h.fA,h.free,List.nodup_nil,λ _ a=>absurd a List.not_mem_nil⟩
theorem Since.start(h:A.Good)(a:A.op=none):nU A A.begun:=
 ⟨_,a,rfl,h.begun,rfl,List.nodup_nil,λ _ b=>absurd b List.not_mem_nil,λ p=>⟨λ d=>O ((il a p).2 d),λ c=>c.elim (λ h=>(il a p).1 h) (λ h=>absurd h List.not_mem_nil)⟩,λ _ _ h=>(by cases h),λ _ _ _=>rfl,rfl⟩
theorem Since.put(h:Since A0 B o)(c:A0.Has p->o.was p≠none)(s:List UInt8):Since A0 (B.put p s) o:=
 ⟨h.shut,h.op,⟨h.good.one,h.good.aA,h.good.few,h.good.fA,h.good.free,h.good.oM,h.good.gone⟩,h.aA,h.fA,h.made,h.has,h.was,λ m a b=>by
  show bX B.c p s m=_;unfold bX;by_cases e:p=m
  ·subst e;exact absurd b (c a)
  rw[aE e];exact h.same m a b,h.aQ⟩
theorem Since.keep(h:Since A0 B o)(t:B.Has p):∃l,Since A0 (B.keep p) l/\(A0.Has p->l.was p≠none):=by
 by_cases b:(p:Int)∈o.made\/(o.was p).isSome=true
 ·have e:B.keep p=B:=by
   unfold AP.keep;rw[h.op];show {B with op:=some (if _ then _ else _)}=B;rw[be b,<-h.op]
  rw[e];refine⟨o,h,λ r a=>?_⟩;rcases b with b|b
  ·obtain⟨m,e,f⟩:=h.made _ b;have:p=m:=Z
   exact f (this▸r)
  rw[a]at b;cases b
 have e:B.keep p={B with op:=some {o with was:=λ j=>if j=p then some (B.c p) else o.was j}}:=by
  unfold AP.keep;rw[h.op];show {B with op:=some (if _ then _ else _)}=_;rw[aE b]
 have i:A0.Has p:=((h.has p).1 t.WR).resolve_right (λ f=>b (O f))
 have g:o.was p=none:=by
  cases g:o.was p with
  | none=>rfl
  | some s=>exact absurd (al (by rw[g];rfl)) b
 have n:=h.same p i g;rw[e];refine⟨_,⟨h.shut,rfl,?_,h.aA,h.fA,h.made,h.has,λ q s d=>?_,λ m f a=>?_,h.aQ⟩,λ _ a=>?_⟩
 ·have k:=h.good.keep p;rw[e]at k;exact k
 ·replace d:(if q=(p:Int) then some (B.c p) else o.was q)=some s:=d;by_cases c:q=(p:Int)
  ·rw[be c]at d;exact⟨p,c,i,(bf d).symm.trans n⟩
  rw[aE c]at d;exact h.was q s d
 ·replace a:(if (m:Int)=(p:Int) then some (B.c p) else o.was m)=none:=a;by_cases c:(m:Int)=(p:Int)
  ·rw[be c]at a;cases a
  rw[aE c]at a;exact h.same m f a
 replace a:(if (p:Int)=(p:Int) then some (B.c p) else o.was p)=none:=a;rw[be rfl]at a;cases a
theorem Hb(A0:AP):AP.Moves (nU A0):=by
 refine⟨λ X p s ⟨o,h⟩ f=>?_,λ X p ⟨o,h⟩ f=>?_,λ X ⟨o,h⟩ hf=>?_,λ X p ⟨o,h⟩ f=>?_⟩
 ·obtain⟨j,i,t⟩:=h.keep f;exact⟨j,i.put t s⟩
 ·obtain⟨j,i,_⟩:=h.keep f;exact⟨j,i⟩
 ·obtain⟨u,v,t3⟩:=h.good.Fa hf;have r:(X.next:Int)∉o.made:=λ d=>t3 ((h.has _).2 (al d));have k:¬A0.Has X.next:=λ d=>t3 ((h.has _).2 (O d));refine⟨{o with made:=o.made++[(X.next:Int)]},h.shut,by show X.op.map _=_;rw[h.op];rfl,(h.good.take hf).1,h.aA,?_,λ g c=>?_,λ p=>?_,h.was,λ m d q=>?_,?_⟩
  ·exact bN.2 ⟨h.fA,tZ _ _,λ a l b n=>by rw[bu.1 n];exact λ e=>r (e▸l)⟩
  ·rcases dm.1 c with c|c
   ·exact h.made g c
   exact⟨X.next,bu.1 c,k⟩
  ·show _↔_\/(p:Int)∈o.made++[(X.next:Int)];rw[u,h.has,dm,bu]
   constructor
   ·rintro((a|a)|a)
    ·exact O a
    ·exact al (O a)
    exact al (al (by rw[a]))
   rintro(a|a|a)
   ·exact O (O a)
   ·exact O (al a)
   exact al Z
  ·show bX X.c X.next (UK.bM 504) m=_;unfold bX;rw[aE (λ e:X.next=m=>k (by rw[e];exact d))];exact h.same m d q
  show X.take.aQ+(o.made++[(X.next:Int)]).length=_;rw[zl,gI,<-h.aQ];omega
 have e:X.give p={X with op:=some {o with gone:=o.gone++[(p:Int)]}}:=by unfold AP.give;rw[h.op]
 have c:=(h.good.give f).1;rw[e]at c ⊢;exact⟨_,h.shut,rfl,c,h.aA,h.fA,h.made,h.has,h.was,h.same,h.aQ⟩
theorem Reach.since(h:nU A0 B)(r:B.Reach C):nU A0 C:=r _ (Hb A0) h
structure wH(A0 C:AP):Prop where
 op:C.op=none
 good:C.Good
 has:∀p,C.Has p↔A0.Has p
 c:∀p,A0.Has p->C.c p=A0.c p
 aQ:C.aQ=A0.aQ
 aA:C.aA=A0.aA
theorem cE:∀(l m:List Nat),l.Nodup->(∀x,x∈l->x∈m)->Y l<=Y m
 | [],m,_,_=>aR _
 | a::l,m,h,c=>by
  obtain⟨f,g⟩:=eD.1 h;have b:=c a (bI ..);have:=cE l (m.erase a) g (λ x d=>(List.mem_erase_of_ne (show x≠a from λ e=>f (e▸d))).2 (c x (cK _ d)));rw[List.length_erase_of_mem b]at this;have i:0<Y m:=List.length_pos_of_mem b;rw[dF];omega
theorem qD(p:l.Nodup)(h:∀g,g∈l->∃m:Nat,g=m/\m<n):Y l<=n:=by
 have d:(l.map Int.toNat).Nodup:=by
  refine List.pairwise_map.2 (List.Pairwise.imp_of_mem (λ {a b} f i q e=>?_) p);obtain⟨m,rfl,_⟩:=h a f;obtain⟨k,rfl,_⟩:=h b i;exact q (by have e:m=k:=e;rw[e])
 have c:=cE (l.map Int.toNat) (List.range n) d (λ x r=>by
  obtain⟨g,j,rfl⟩:=bL.1 r;obtain⟨m,rfl,o⟩:=h g j;rw[ky];simpa using o)
 rw[bS,List.length_range]at c;exact c
theorem Since.Fb(h:Since A0 B o){g:Int}(a:g∈o.made):∃m:Nat,g=m/\1<=m/\m<B.au:=by
 obtain⟨m,rfl,_⟩:=h.made g a;have:=(h.has m).2 (al a);exact⟨m,rfl,this.1,this.2.1⟩
theorem Since.BP(h:Since A0 B o):Y o.made<=60000:=by
 have d:=qD h.fA (λ g c=>(h.Fb c).imp λ m ⟨a,_,b⟩=>⟨a,b⟩);have:=h.good.aA;have:=h.good.few;omega
end AP
open Go.RowKit
open UK (str aF nth Only Row ay kX nW)
open Go.BigFrame
section
variable{P FB au:Nat}{q:Pl}{d J:Dk}{c:Nat->List UInt8}
theorem PD.Pe(l:PD E W P D FB M q d au)(k:Only P W h)(s:ay h P (oN D FB (Y q.af) M q.hand q.aj none)) :
  PD (λ j=>E j\/jS q.op j) h P D FB M {af:=q.af,hand:=q.hand,aj:=q.aj,op:=none} d au/\Kept (λ j=>E j\/jS q.op j) W h:=by
 have m:=l.pool;have p:=λ j (c:E j)=>l.dd.there j (O c);have r:=λ j (c:jS q.op j)=>m.lt (al (al (al (O c))));have o:∀j,E j->j≠P:=λ j c e=>l.far j c (O e);obtain⟨n,_⟩:=l.uK (op':=none) k.os k.tape k.output k.size s (λ x u=>by cases u) (λ j c=>absurd c id) (λ j c g _=>k.block j c g);refine⟨⟨n.pool,?_,λ j c g=>?_⟩,⟨k.os,k.tape,k.output,k.size,λ j c=>?_⟩⟩
 ·refine l.dd.over (R:=λ j=>j=P) (λ j c=>al (O c)) (λ e=>?_) k.size (λ j c g=>k.block j c g) (λ j c=>O ?_)
  ·exact m.tab P (O rfl) e
  rcases c with(c|c)|c
  ·exact O c
  ·exact al (al (al (al (O c))))
  rcases c with c|c|c|c|c
  ·exact al (O c)
  ·exact al (al (O c))
  ·exact al (al (al (O c)))
  ·exact absurd c id
  exact al (al (al (al (al c))))
 ·rcases c with c|c
  ·refine l.far j c ?_;rcases g with g|g|g|g|g
   ·exact O g
   ·exact al (O g)
   ·exact al (al (O g))
   ·exact absurd g id
   exact al (al (al (al g)))
  obtain⟨a,b,e⟩:=m.iV j c;rcases g with g|g|g|g|⟨i,f,t,g⟩
  ·exact a g
  ·exact b g
  ·exact e g
  ·exact g
  exact m.nC i f j t g c
 rcases c with c|c
 ·exact k.block j (p j c) (o j c)
 exact k.block j (r j c) (m.iV j c).1
theorem La(h:PS E W P D FB M n H q d au k c) :
  Calls prog 59 #[aq P] W λ e g=>e=aw (a9 #[])/\PS (λ j=>E j\/jS q.op j) g P D FB M n H {af:=q.af,hand:=q.hand,aj:=q.aj,op:=none} d au k c/\Kept (λ j=>E j\/jS q.op j) W g:=by
 have a:=h.pd.pool.box;have hf:=a.free;have l:=a.cell 5 _ rfl;have m:=a.cell 6 _ rfl;have o:=a.cell 7 _ rfl;have p:=a.cell 8 _ rfl;have b:=((((a.set 5 (a6 false)).set 6 (.map none)).set 7 (ad none 0 0)).set 8 (ad none 0 0));have f:Only P W _:=(((((Only.refl P W).set 5 (a6 false)).set 6 (.map none)).set 7 (ad none 0 0)).set 8 (ad none 0 0));have i:=bm h b f;generalize yF q.op=t at l;generalize uI q.op=u at m;generalize II q.op=v at o;generalize Kt q.op=w at p;clear h a b f
 go_enter func59,ntmps59
 go_wp2_with fail
 go_end0
 obtain⟨h,b,f⟩:=i.out;obtain⟨s,r⟩:=h.pd.Pe f b;exact⟨rfl,⟨s,⟨h.ok.aj,h.ok.pos,h.ok.hand,h.ok.few⟩,h.mi,h.held,h.aj,h.len,h.calm.same _ _ _,λ x a=>by cases a⟩,r⟩
theorem qp(h:PZ E W P D A k)(C:A.op=none) :
  Calls prog 15 #[aq P] W λ e v=>e=aw (V U 0)/\PZ E v P D A.begun k/\Kept E W v:=by
 obtain⟨FB,M,n,q,d,c,i,g⟩:=h
 have f:q.op=none:=by
  have:=g.op
  cases f:q.op with
  | none=>rfl
  | some x=>rw[f,C]at this;cases this
 have b:=c.pd.pool.box;have hf:=b.free;have J:W.cell? (P,5)=some (a6 false):=by rw[b.cell 5 _ rfl,f];rfl
 have K:W.cell? (P,6)=some (.map none):=by rw[b.cell 6 _ rfl,f];rfl
 have L:W.cell? (P,7)=some (ad none 0 0):=by rw[b.cell 7 _ rfl,f];rfl
 have N:W.cell? (P,8)=some (ad none 0 0):=by rw[b.cell 8 _ rfl,f];rfl
 have I:P<W.1.size:=b.lt;have Q:∀w:World,(Instr.makeMap 112 none).run prog w= .ok (.map (some w)) (w.alloc (.map #[] 0)):=run_makeMap _;have B:=bm c i g;clear c b g
 go_enter func15,ntmps15
 go_wp2_with fail
 go_ret;obtain⟨c,i,g⟩:=B.out;have b:=c.pd.pool.box;have o:=((((b.set 5 (a6 true)).set 6 (.map (some W))).set 7 (ad none 0 0)).set 8 (ad none 0 0));have t:Only P W _:=(((((Only.refl P W).set 5 (a6 true)).set 6 (.map (some W))).set 7 (ad none 0 0)).set 8 (ad none 0 0));have u:((((W.setCell (P,5) (a6 true)).setCell (P,6) (.map (some W))).setCell (P,7) (ad none 0 0)).setCell (P,8) (ad none 0 0)).1.size=W.1.size:=by simp
 generalize (((W.setCell (P,5) (a6 true)).setCell (P,6) (.map (some W))).setCell (P,7) (ad none 0 0)).setCell (P,8) (ad none 0 0)=z at o t u ⊢;have s:=nW.new (P:=prog) (K:=3) (E:=9) z;rw[u]at s;have r:=o.alloc (.map #[] 0);have l:=t.alloc (.map #[] 0)
 obtain⟨G,F⟩:=c.pd.uK (W':=z.alloc (.map #[] 0)) (op':=some {wb:=W.1.size,was:=λ _=>none,wn:=0,mo:=none,mc:=0,made:=[],go:=none,gc:=0,gone:=[]}) l.os l.tape l.output l.size (by rw[f]at r;exact r)
  (λ y m=>by
   cases m
   exact⟨s,O ⟨rfl,rfl,rfl⟩,O ⟨rfl,rfl,rfl⟩,(λ h=>by cases h),(λ h=>by cases h),(λ j h=>by cases h),(λ p h=>absurd h List.not_mem_nil),(λ p h=>absurd h List.not_mem_nil),aR _,aR _,aR _⟩)
  (λ j a=>by
   rcases a with a|a|a
   ·exact al (by rw[a];exact aH _)
   ·cases a
   cases a)
  (λ j a i _=>l.block j a i)
 have H:=c.op (λ y m=>by cases m;exact⟨aR _,aR _,aR _⟩) G;exact⟨rfl,⟨FB,M,n,_,d,H,i,⟨g.free,g.aA,rfl⟩⟩,F⟩
end
section
variable{P FB au:Nat}
theorem fy(h:PZ E W P D B k)(p:B.op=some o) :
  ∃x:ll,(o.was=x.was/\o.made=x.made/\o.gone=x.gone)/\ND W x/\W.cell? (P,5)=some (a6 true)/\W.cell? (P,6)=some (.map (some x.wb))/\W.cell? (P,7)=some (ad x.mo (Y x.made) x.mc)/\W.cell? (P,8)=some (ad x.go (Y x.gone) x.gc) /\
   Calls prog 59 #[aq P] W λ e l=>e=aw (a9 #[])/\PZ (λ j=>E j\/jS (some x) j) l P D B.jk k/\Kept (λ j=>E j\/jS (some x) j) W l:=by
 obtain⟨FB,M,n,q,d,g,r,i⟩:=h;have c:=i.op
 cases f:q.op with
 | none=>rw[f,p]at c;cases c
 | some x=>
  rw[f,p]at c;have e:=bf c;have b:=g.pd.pool.box;have m:=La g;rw[f]at m b;refine⟨x,by rw[<-e];exact⟨rfl,rfl,rfl⟩,g.pd.pool.op x f,b.cell 5 _ rfl,b.cell 6 _ rfl,b.cell 7 _ rfl,b.cell 8 _ rfl,m.mono ?_⟩;rintro e l ⟨a,s,F⟩;exact⟨a,⟨FB,M,n,_,d,s,r,⟨i.free,i.aA,rfl⟩⟩,F⟩
structure Done(B C:AP):Prop where
 op:C.op=none
 good:C.Good
 has:∀p,C.Has p↔B.Has p
 c:∀p,C.c p=B.c p
 aA:C.aA=B.aA
 aQ:B.aQ<=C.aQ
theorem ib.at_(h:ib W z c l)(a:l[i]?=some x):∃g,z=some ⟨g,0,none⟩/\W.cell? ⟨g,i,none⟩=some (V U x):=by
 rcases h with⟨_,rfl,_⟩|⟨g,e,r⟩
 ·cases a
 exact⟨g,e,r.at' i _ (by unfold Bh;rw[dL,a];rfl)⟩
theorem ib.BQ(h:ib W z c l):Y l<=c:=by
 rcases h with⟨_,rfl,rfl⟩|⟨g,e,r⟩
 ·exact aH _
 have:=r.le;unfold Bh at this;rw[bS]at this;exact this
theorem ib.kept(b:ib W z c l)(a:Kept S W h)(f:∀j,aG z j->S j):ib h z c l:=by
 rcases b with d|⟨g,e,r⟩
 ·exact O d
 exact al ⟨g,e,r.ae a.size (a.block g (f g e))⟩
structure Given(B C:AP)(pre:List Int):Prop where
 op:C.op=none
 good:C.Good
 has:∀p:Nat,C.Has p↔B.In p/\(p:Int)∉pre
 c:∀p,C.c p=B.c p
 aA:C.aA=B.aA
 aQ:C.aQ=B.aQ+Y pre
theorem Given.start(g:B.Good):Given B B.jk []:=
 ⟨rfl,g.jk,λ p=>⟨λ h=>⟨(AP.il (A:=B.jk) rfl p).1 h,List.not_mem_nil⟩,λ h=>(AP.il (A:=B.jk) rfl p).2 h.1⟩,λ _=>rfl,rfl,rfl⟩
theorem Given.step{pre:List Int}(h:Given B C pre)(j:B.In m)(k:(m:Int)∉pre):C.Has m/\Given B (C.give m) (pre++[(m:Int)]):=by
 have d:=(h.has m).2 ⟨j,k⟩;obtain⟨f,g,l,i⟩:=h.good.give d;have e:C.give m={C with free:=C.free++[m]}:=by unfold AP.give;rw[h.op]
 refine⟨d,⟨by rw[e];exact h.op,f,λ p=>?_,λ p=>by rw[AP.kH];exact h.c p,by rw[e];exact h.aA,?_⟩⟩
 ·rw[g,h.has,dm,bu,not_or]
  constructor
  ·rintro⟨⟨a,b⟩,c⟩;exact⟨a,b,λ e=>c Z⟩
  rintro⟨a,b,c⟩;exact⟨⟨a,b⟩,λ e=>c (by rw[e])⟩
 rw[i h.op,h.aQ,zl,gI];omega
theorem g8(h:l[i]?=some x):l.take (i+1)=l.take i++[x]:=by rw[List.take_add_one,h];rfl
theorem EF(a:l.Nodup)(h:l[i]?=some x):x∉l.take i:=by
 have b:=(gZ i l).symm;rw[b]at a;have c:x∈l.drop i:=dU (i:=0) (by rw[eP];exact h);exact λ d=>(bN.1 a).2.2 x d x c rfl
theorem G2(h:PZ E W P D B k)(ho:B.op=some o)(g:B.Good)(hk:k+60000<900000000) :
  Calls prog 17 #[aq P] W λ e w'=>e=aw (V U 0)/\∃C,PZ E w' P D C (k+60000)/\Done B C/\Kept E W w':=by
 obtain⟨x,⟨_,_,X⟩,F,c5,_,_,T,h0⟩:=fy h ho;have t:B.bO=x.gone:=by unfold AP.bO;rw[ho];exact X
 have v:x.gone.Nodup:=by rw[<-t];exact g.oM
 have u:∀y,y∈x.gone->∃m:Nat,y=m/\B.In m:=λ y l=>by
  rw[<-t]at l;exact g.gone y l
 have aD:Y x.gone<=60000:=by
  have h1:=AP.qD (n:=B.au) v (λ y l=>(u y l).imp λ m ⟨a,b⟩=>⟨a,b.2.1⟩);have:=g.aA;have:=g.few;omega
 have h7:=F.gone.BQ;have L:=zH h0;have M:=zH (Given.start g);have A:=zH F.gone;have N:=bp v u t g;have h2:=F.gone;clear h F h0 v u X t A;have A:=zH h2;generalize h3:x.go=xg at T A;have Q:=zH (λ j (n:aG xg j)=>(show jS (some x) j from al (al (by rw[h3];exact n))));clear h3 h2
 go_enter func17,ntmps17
 go_wp2_with fail
 refine L.out.mono ?_;rintro e w2 ⟨rfl,p2,I⟩;have z:=bm p2 (A.out.kept I (λ j n=>al (Q.out j n))) I;clear L p2 I c5 T
 go_wp2_with fail
 go_loopw [20] (λ H wr=>∃i:Nat,H=V U i/\i<=Y x.gone/\∃C,PZ (λ j=>E j\/jS (some x) j) wr P D C (k+i)/\Given B C (x.gone.take i)/\ib wr xg x.gc x.gone/\Kept (λ j=>E j\/jS (some x) j) W wr) (λ H _=>60001-(Go.RowKit.intOf H).toNat)
 case atStart=>exact⟨0,rfl,aR _,_,z.out.1,M.out,z.out.2.1,z.out.2.2⟩
 clear z M;obtain⟨i,rfl,hi,C,w,f,r,q⟩:=hrel;by_cases h4:i<Y x.gone
 ·obtain⟨y,l⟩:∃y,x.gone[i]?=some y:=⟨_,bK h4⟩;obtain⟨v,u,_,_⟩:=N.out;obtain⟨m,rfl,hm⟩:=u y (dU l);obtain⟨hh,s⟩:=f.step hm (EF v l);rw[<-g8 l]at s;obtain⟨gb,rfl,hc⟩:=r.at_ l;have R:=zH (IA w Z m hh);have S:=bm s r q;have h6:(i:Int)<(Y x.gone:Int):=Z
  clear w f r q v u hh s hm l
  go_wp2_with fail
  refine R.out.mono ?_;rintro e K ⟨rfl,p3,J⟩;obtain⟨s,r,q⟩:=S.out;have G:Hid (PZ (λ j=>E j\/jS (some x) j) K P D (C.give m) (k+(i+1))/\Given B (C.give m) (x.gone.take (i+1))/\ib K gb x.gc x.gone/\Kept (λ j=>E j\/jS (some x) j) W K):=⟨p3,s,r.kept J (λ j n=>al (Q.out j n)),q.trans J⟩;clear R S p3 J s r q hc
  go_wp2_with fail
  go_roundw
  case rel=>exact⟨i+1,by go_num,Z,_,G.out⟩
  case measure=>simp[Go.RowKit.intOf];omega
 have h5:¬(i:Int)<(Y x.gone:Int):=Z
 have G:=bm w f q;clear w f r q;go_wp2;go_ret;obtain⟨w,f,q⟩:=G.out;obtain⟨_,_,t,g⟩:=N.out;rw[fQ Z]at f;refine⟨rfl,C,(w.less (λ j n=>O n)).up Z,⟨f.op,f.good,λ p=>?_,f.c,f.aA,by rw[f.aQ];exact Nat.le_add_right _ _⟩,q.mono (λ j n=>O n)⟩;rw[f.has,<-t];unfold AP.Has AP.In;exact⟨λ ⟨⟨a,b,c⟩,d⟩=>⟨a,b,c,d⟩,λ ⟨a,b,c,d⟩=>⟨⟨a,b,c⟩,d⟩⟩
end
open UK (str aF nth Only Row ay)
theorem UK.uV{c:Type}{assign body:Code}{gf:Nat}(T:a.eval g= .func (.func gf) #[] lb)(B:∀args w,(callFunc gf args).run P w= .ok (.enter gf args) w)(enc:c->Array Value)(h2:∀x,(enc x).size=G.size)(zs:List c)(I:List c->World->Prop)(C:∀o,I [] ((w.alloc (.deferred (some []))).alloc o))(r:∀pre W o,I pre W->w.1.size+1<W.1.size->I pre (W.putObj (w.1.size+1) o))(a₁:c->Act)(H:∀(l:Nat) (x:c) (W:World) (K:Act->World->Prop),K (a₁ x) W ->
   assign.wpIn (Fence.wide.inRound l) n P (Exit.then K (λ _ _ _=>False)) {tmps:=(G.zip (enc x)).foldl (λ h3 (p,v)=>h3.setIfInBounds p v) a.tmps,defers:=[]} W)(N:∀(l:Nat) (pre:List c) (x:c) (W:World),I pre W->pre++[x] <+: zs ->
   body.wpIn (Fence.wide.inRound l) n P (λ e _ h=>e= .normal/\(h.1[w.1.size]?=W.1[w.1.size]?/\h.1[w.1.size+1]?=W.1[w.1.size+1]?)/\I (pre++[x]) h) (a₁ x) W)(y:∀(l:Nat) (J:List c->World->Prop) (W:World),(∀pre x b,J pre b->pre++[x] <+: zs->YieldAt Fence.wide n P l (enc x) b λ e h=>e=aw (a6 true)/\J (pre++[x]) h)->(∀pre b,J pre b->I pre b)->J [] W ->
   CallsIn Fence.wide (n+1) P gf (#[.func (.yield l) #[] #[]]++lb) W λ e h=>(∃v,e=aw v)/\J zs h)(R:∀W,I zs W->W.1[w.1.size]?=some (.deferred (some []))->Q .normal {a with defers:={target:=.collected w,args:= #[]}::a.defers} W) :
  (Code.rangeFunc g G assign body).wp P Q a w:=by
 refine(wpIn_wide (n:=n+2)).1 ?_;refine wpIn_rangeFunc ?_;intro fn S;obtain⟨rec,d⟩:∃rec:LoopState->Option Code->Loop,rec=λ st pe=>{state:=st,pending:=pe,fn,tmps:=a.tmps,params:=G,assign,body,defers:=w.1.size}:=⟨_,rfl⟩;obtain⟨b,i⟩:∃b,(w.alloc (.deferred (some []))).alloc (.loop (rec .ready none))=b:=⟨_,rfl⟩
 have F:b.1[w.1.size+1]?=some (.loop (rec .ready none)):=by
  rw[<-i];have:=World.alloc_heap_new (w.alloc (.deferred (some []))) (.loop (rec .ready none));rwa [World.size_alloc]at this
 have E:b.1[w.1.size]?=some (.deferred (some [])):=by
  rw[<-i];exact(Below.heap_alloc _ _ _ (by simp)).trans (World.alloc_heap_new w _)
 have D:I [] b:=by rw[<-i];exact C _
 refine⟨w.1.size+1,[{target:=.collected w,args:= #[]}],b,{target:=.fn (.func gf) lb,args:= #[.func (.yield (w.1.size+1)) #[] #[]]},b,gf,
  #[.func (.yield (w.1.size+1)) #[] #[]]++lb,b,?_,?_,?_,?_,λ k=>absurd k (by simp[Fence.wide]),?_⟩
 ·rw[<-i,d];exact run_enterLoop_outer _ _ _ _ _
 ·simp only[resolve,T];simp[go_sem]
 ·intro f' h4;trivial
 ·simp[invoke,go_sem,B]
 refine(y (w.1.size+1) (λ pre W=>I pre W/\W.1[w.1.size+1]?=some (.loop (rec .ready none))/\W.1[w.1.size]?=some (.deferred (some []))) b ?_ (λ pre W k=>k.1) ⟨D,F,E⟩).mono ?_
 ·rintro pre x W ⟨m,f,q⟩ hx;have j:w.1.size+1<W.1.size:=(Array.getElem?_eq_some_iff.1 f).1;have u:=run_yield (P:=P) (args:=enc x) f (by rw[d];exact h2 x);rw[d]at u;refine⟨fn,_,assign,body,u,roundIn_of_wpIn S (H _ x W _ ⟨_,run_beginRound f (by rw[d]),?_⟩)⟩;have h1:(W.putObj (w.1.size+1) (.loop {rec .ready none with state:=.busy})).1[w.1.size+1]?=some (.loop {rec .ready none with state:=.busy}):=World.putObj_heap_same j;have Y:(W.putObj (w.1.size+1) (.loop {rec .ready none with state:=.busy})).1[w.1.size]?=some (.deferred (some [])):=(World.putObj_heap_other Z).trans q;refine wpIn_mono (N _ pre x _ (r _ _ _ m j) hx) ?_;rintro e a3 A ⟨rfl,⟨L,M⟩,X⟩;have s:=M.trans h1;have h0:=L.trans Y;have t:w.1.size+1<A.1.size:=(Array.getElem?_eq_some_iff.1 s).1;have hr:=run_endRound (P:=P) none s;refine⟨_,_,hr,rfl,r _ _ _ X t,?_,(World.putObj_heap_other Z).trans h0⟩;rw[World.putObj_heap_same t,d];rfl
 rintro e z ⟨⟨v,rfl⟩,m,f,q⟩;have j:w.1.size+1<z.1.size:=(Array.getElem?_eq_some_iff.1 f).1;exact⟨none,_,by have:=run_endLoop (P:=P) f (by rw[d];simp);rw[d]at this;exact this,R _ (r _ _ _ m j) ((World.putObj_heap_other Z).trans q)⟩
def tX(zs:List Int):List (Int×Int):=(List.range (Y zs)).map λ k=>(((Y zs-1-k:Nat):Int),zs.getD (Y zs-1-k) 0)
theorem WS(zs:List Int):(tX zs).length=Y zs:=by simp[tX]
theorem D9(zs:List Int)(k:Nat)(a:k<Y zs):(tX zs)[k]?=some (((Y zs-1-k:Nat):Int),zs.getD (Y zs-1-k) 0):=by
 unfold tX;rw[dL,List.getElem?_range a];rfl
theorem mT(zs:List Int)(k:Nat)(a:k<Y zs):(tX zs).take (k+1)=(tX zs).take k++[(((Y zs-1-k:Nat):Int),zs.getD (Y zs-1-k) 0)]:=by
 rw[List.take_add_one,D9 zs k a];rfl
abbrev J3(x:Int×Int):Array Value:= #[V U x.1,V U x.2]
attribute [local go_sem] Oper.semAt_some
theorem l3(n l o:Nat)(z:Option Addr)(c:Nat)(zs:List Int)(G:Y zs<=1000000000)(J:List (Int×Int)->World->Prop)(W:World)(y:∀pre x a,J pre a->pre++[x] <+: tX zs->YieldAt Fence.wide n prog l (J3 x) a λ e h=>e=aw (a6 true)/\J (pre++[x]) h)(r:∀pre a,J pre a->a.cell? o=some (ad z (Y zs) c)/\∀j,j<Y zs->∃g,z=some ⟨g,0,none⟩/\a.cell? ⟨g,j,none⟩=some (V U (zs.getD j 0)))(q:J [] W) :
  CallsIn Fence.wide (n+1) prog 132 (#[.func (.yield l) #[] #[]]++ #[aq o]) W λ e h=>(∃v,e=aw v)/\J (tX zs) h:=by
 refine callsIn_of_wp func132 rfl trivial ?_ rfl;simp only[ntmps132,List.size_toArray,dF,List.length_nil,Nat.reduceAdd,Nat.reduceSub,Array.replicate_succ,Array.replicate_zero,List.push_toArray,List.append_toArray,iQ,lS];have A:=(r [] W q).1
 gi_wp2
 gi_loopw [3] (λ k wr=>∃m:Nat,m<=Y zs/\k=V U ((m:Int)-1)/\J ((tX zs).take (Y zs-m)) wr) (λ k _=>((Go.RowKit.intOf k)+1).toNat)
 case atStart=>exact⟨Y zs,aH _,rfl,by rw[l7];exact q⟩
 clear A;obtain⟨m,F,rfl,b⟩:=hrel;rcases m with _|m
 ·rw[show(((0:Nat):Int)-1)= -1 from Z];rw[Nat.sub_zero,<-WS,dY]at b
  gi_wp2
  go_end0
  exact⟨⟨_,rfl⟩,b⟩
 rw[show(((m+1:Nat):Int)-1)=(m:Int)from Z];have C:Y zs-(m+1)<Y zs:=Z
 have d:=mT zs (Y zs-(m+1)) C;rw[show Y zs-1-(Y zs-(m+1))=m from Z,show Y zs-(m+1)+1=Y zs-m from Z]at d;obtain⟨E,tmps,assign,body,i,f⟩:=y _ ((m:Int),zs.getD m 0) wr b (by rw[<-d];exact List.take_prefix _ _);obtain⟨B,t⟩:=r _ wr b;obtain⟨g,rfl,u⟩:=t m Z;dsimp only[J3]at i;simp only[fV]at i u;rw[<-d]at f;have H:(m:Int)<(Y zs:Int):=Z
 have p:=zH f;clear d f t b
 gi_wp2
 refine p.out.mono ?_;rintro e D ⟨rfl,s⟩;have w:=zH s;clear s p i B u
 gi_wp2
 go_roundw
 case rel=>exact⟨m,Z,rfl,w.out⟩
 case measure=>simp[Go.RowKit.intOf]
open Go.RowKit Go.Maps Go.Sort Go.Shelf
open UK (str aF nth Only Row ay nW)
theorem UK.nW.WT{K E t:TypeId}(h:nW P K E W M n f c)(e:P.underlying K=some (.int .i64))(d:P.underlying E=some .string)(p:P.underlying t=some (.map K E))(r:∀w,(zeroValue E).run P w= .ok (.string (str [])) w)(k:Int)(m:(Lit.int .i64 k).wf=true) :
  (Instr.lookup t (.map (some M)) (.int .i64 k) false).run P W= .ok (.string (str ((f k).getD []))) W:=by
 obtain⟨D,h,l,j,_⟩:=h;obtain⟨v,G,o,q⟩:=h.lookup (Maps.int_keyed e) p (r W) (plainElem_string d (by simp[UK.eG])) (Maps.keyOf_int_mk e m);obtain⟨s,rfl,g,_⟩:=plainElem_string_inv d q;simp only[Prod.mk.injEq]at g;rw[o,UK.cH s];have a:=g.1
 cases hf:f k with
 | none=>
  have i:Maps.has D (.int .i64 k)=false:=by rw[l k,hf];rfl
  rw[Maps.atKey_of_not_has i]at a;simp only[DataW.lit.injEq,Lit.string.injEq]at a;rw[<-a];rfl
 | some b=>
  rw[UK.lF]at a;rw[j k b hf]at a;simp only[DataW.lit.injEq,Lit.string.injEq]at a;rw[<-a];rfl
theorem I0(m:Nat):AnyZI.SortsIn prog sortedA_ren Fence.wide m:=
 ⟨λ blk off cap d W a b c=>callsIn_wide.2 (AnyM.slices_Sort_int sortA blk off cap d W a b c),
  λ p cap W=>callsIn_wide.2 (AnyM.slices_Sort_int_none sortA p cap W)⟩
theorem qR(a:Option Nat)(W:World) :
  Calls prog 62 #[.map a] W λ e b=>e=aw (.func (.func 127) #[] #[aq W])/\b=W.alloc (.cells #[.map a] 112):=
 (callsIn_wide (n:=6)).1 (AnyZI.keys_in keysA Fence.wide 6 trivial rfl a W)
theorem CA{H:Type}{R:Value->Option (DataW H×List MemPlace)}{k:TypeId}{D:DataW H}(j:w.ownsMap P k R b n D)(K:Keyed P k)(o:P.underlying k=some (.int .i64)):(intKeys D).Nodup/\∀x,x∈intKeys D↔Maps.has D (.int .i64 x)=true:=by
 obtain⟨f,h,u,_⟩:=j.entries K;obtain⟨es',i,r⟩:=j.keysOf;obtain rfl:f=es':=by rw[h]at i;simpa using i
 subst h;have g:∀p∈f,∃x,p.1= .int .i64 x:=λ p t=>by obtain⟨v,z⟩:=r p t;obtain⟨x,_,A,_⟩:=Maps.keyOf_i64 o z;exact⟨x,A⟩
 constructor
 ·show(f.map λ p=>Go.intOf p.1).Nodup;refine List.pairwise_map.2 (u.imp_of_mem λ {p q} c y s e=>s ?_);obtain⟨a,d⟩:=g p c;obtain⟨b,m⟩:=g q y;rw[d,m]at e ⊢;exact congrArg _ e
 intro x;rw[has_eq,List.any_eq_true];show x∈f.map (λ p=>Go.intOf p.1)↔_;rw[bL]
 constructor
 ·rintro⟨p,c,rfl⟩;obtain⟨a,d⟩:=g p c;exact⟨p,c,by rw[d];simp[Lit.sameKey,Go.intOf]⟩
 rintro⟨p,c,l⟩;obtain⟨a,d⟩:=g p c;rw[d]at l;exact⟨p,c,by rw[d];simpa[Lit.sameKey,Go.intOf]using l⟩
def vh(W a:World)(f:Int->Option (List UInt8))(c:Nat)(e:Ending):Prop:=
 ∃(z:Option Addr) (d:Nat) (j:List Int),e= .returned (.slice z j.length d)/\j.Nodup/\(∀x,x∈j↔(f x).isSome=true)/\j.length=c/\(∀x,x∈j->(Lit.int .i64 x).wf=true) /\
  (∀(b:Nat) (x:Int),j[b]?=some x->∃g,z=some ⟨g,0,none⟩/\W.1.size<=g/\g<a.1.size/\a.cell? ⟨g,b,none⟩=some (.int .i64 x))/\Below W W a
theorem ql{k:Nat}(h:nW prog 3 9 W k n f c)(S:c<=1000000000) :
  Calls prog 61 #[.func (.func 127) #[] #[.pointer W]] (W.alloc (.cells #[.map (some k)] 112)) λ e q=>vh W q f c e:=by
 obtain⟨b,d,L,_,i⟩:=h;have J:=d.lt
 have Q:SeqGives Fence.wide 2 prog 127 #[.pointer W] encZ (λ a=>a.Perm (intKeys b)) (Maps.size b) (W.alloc (.cells #[.map (some k)] 112)):=
  AnyZI.keys_gives (ρ:=keysA_ren) {keysA with} Fence.wide _ trivial rfl Z W k n b _ (by simp) (by simp) (by
   obtain⟨w,clock,o,E,i,H⟩:=d;exact⟨w,clock,(Below.heap_alloc _ _ k J).trans o,E,i,H⟩)
 have u:=AnyZI.sorted_in sortedA Fence.wide 5 trivial trivial trivial trivial rfl Z (I0 _) (enters_of func126 (by kernel_rfl) rfl) 127 #[.pointer W] trivial (enters_of func127 (by kernel_rfl) rfl) _ _ (show Maps.size b<=maxLen by rw[i];unfold maxLen;omega) (by rw[i];omega) _ Q;change CallsIn _ _ prog 61 _ _ _ at u;refine(callsIn_wide.1 u).mono ?_;rintro e q ⟨v,a,rfl,I,P,h0,o⟩;obtain⟨F,M⟩:=CA d (Maps.int_keyed underlying3) underlying3;have m:(a.mergeSort (λ x y=>decide (x<=y))).Perm (intKeys b):=(List.mergeSort_perm _ _).trans I;have t:(a.mergeSort (λ x y=>decide (x<=y))).length=a.length:=(List.mergeSort_perm _ _).length_eq;have z:Below W W q:=((aU _ W).alloc (aH _) _).trans (o.mono (by simp));have C:∀x,x∈a.mergeSort (λ x y=>decide (x<=y))↔(f x).isSome=true:=λ x=>by rw[m.mem_iff,M,L]
 have B:(a.mergeSort (λ x y=>decide (x<=y))).length=c:=by
  rw[m.length_eq,<-i];obtain⟨w,rfl,_⟩:=d.keysOf;simp[intKeys,Maps.size]
 have r:∀x,x∈a.mergeSort (λ x y=>decide (x<=y))->(Lit.int .i64 x).wf=true:=λ x R=>intKeys_wf d underlying3 x (m.mem_iff.1 R);have s:(a.mergeSort (λ x y=>decide (x<=y))).Nodup:=m.nodup_iff.2 F;obtain⟨X,N⟩:=P;rcases N with⟨rfl,G⟩|⟨g,cap,cur,rfl,K,A,Y,T,h1,D⟩
 ·refine⟨none,0,a.mergeSort (λ x y=>decide (x<=y)),by rw[t,G],s,C,B,r,λ j x p=>?_,z⟩;have:=(dz.1 p).1;omega
 refine⟨some ⟨g,0,none⟩,cap,a.mergeSort (λ x y=>decide (x<=y)),by rw[t],s,C,B,r,λ j x p=>⟨g,rfl,?_,?_,?_⟩,z⟩
 ·simp at K;omega
 ·exact(Array.getElem?_eq_some_iff.1 A).1
 have l:(cur.toList.take (a.length*1))[j]?=some (encZ x):=by rw[D,dL,p];rfl
 rw[List.getElem?_take]at l
 split at l
 ·simp only[World.cell?,A]
  simpa using l
 cases l
def GW(n:Nat)(b:Func)(R:Ending->World->Prop):Exit->Act->World->Prop
 | .ret,a,w=>LeavesInM Fence.wide n prog b a.tmps R a.defers .returning w
 | _,_,_=>False
structure om(B C:AP)(o:AO)(pre:List Int):Prop where
 op:C.op=none
 au:C.au=B.au
 free:C.free=B.free
 aA:C.aA=B.aA
 c:∀p:Nat,C.c p=if (p:Int)∈pre then(o.was p).getD [] else B.c p
theorem om.start(B:AP)(o:AO):om B B.jk o []:=⟨rfl,rfl,rfl,rfl,λ _=>rfl⟩
theorem om.step{pre:List Int}(h:om B C o pre)(d:o.was m=some s):om B (C.put m s) o (pre++[(m:Int)]):=by
 refine⟨h.op,h.au,h.free,h.aA,λ p=>?_⟩;show bX C.c m s p=_;unfold bX;by_cases e:m=p
 ·subst e;rw[be rfl,be (lL _ (bu.2 rfl)),d];rfl
 rw[aE e,h.c p]
 have c:((p:Int)∈pre++[(m:Int)])↔(p:Int)∈pre:=by
  rw[dm,bu];exact⟨λ a=>a.resolve_right (λ a=>e Z),O⟩
 by_cases b:(p:Int)∈pre
 ·rw[be b,be (c.2 b)]
 rw[aE b,aE (λ a=>b (c.1 a))]
theorem om.WR{pre:List Int}(h:om B C o pre)(p:Nat):C.Has p↔B.In p:=by
 rw[AP.il h.op];unfold AP.In;rw[h.au,h.free]
theorem rj(h:A.op=none)(p:Nat):A.keep p=A:=by
 unfold AP.keep;rw[h];show {A with op:=none}=A;rw[<-h]
theorem Ln(y s:List UInt8)(h:Y s=504):(UK.wr y 0 s).take 504=s:=by
 unfold UK.wr;rw[kU,iQ,qN Z,fQ Z]
theorem IN(z:Option Addr)(l c:Nat)(W:World) :
  Calls prog 66 #[ad z l c] W λ e a=>e=aw (.func (.func 132) #[] #[aq W])/\a=W.alloc (.cells #[ad z l c] 57):=by
 go_enter func66,ntmps66
 go_wp2;go_ret
 exact⟨rfl,rfl⟩
attribute [local go_sem] Oper.semAt_some
section
variable{P:Nat}
theorem PZ.Fe(h:PZ E W P D A k):P<W.1.size:=by
 obtain⟨b,M,n,q,d,a,_⟩:=h;exact a.pd.pool.box.lt
theorem Ff{a:World}(h:Kept S a w)(c:S b)(d:a.cell? (b,i)=some v):w.cell? (b,i)=some v:=(eB (a:=⟨b,i,none⟩) (h.block b c)).trans d
theorem gS(W:World)(r:Nat)(o:Obj):Only r W (W.putObj r o):=⟨rfl,rfl,rfl,by simp[World.putObj],λ i _ a=>World.putObj_heap_other a⟩
def BS(E:Nat->Prop)(e:World)(P D:Nat)(C:AP)(F:Nat)(pre:List (Int×Int))(w:World):Prop:=
 ∃a,PZ (λ j=>E j\/j=e.1.size\/j=e.1.size+1) w P D a (F+Y pre)/\Given C a (pre.map Prod.snd)/\Kept E e w
theorem BS.start(f:PZ E e P D C F)(g:C.Good)(i:C.op=none)(d o:Obj):BS E e P D C F [] ((e.alloc d).alloc o):=by
 have b:Below e e ((e.alloc d).alloc o):=((aU _ _).alloc (aH _) _).alloc (by simp) _;have k:((e.alloc d).alloc o).1.size=e.1.size+2:=by simp
 have h:C.jk=C:=by unfold AP.jk;rw[<-i]
 have c:=Given.start g;rw[h]at c
 exact⟨C,f.wide b (λ j a=>by
  rcases a with a|a|a
  ·exact O a
  ·exact al Z
  exact al Z),c,f.kept b⟩
theorem BS.put(h:BS E e P D C F pre w)(f:∀j,E j->j<e.1.size)(n:0 <e.1.size)(c:r=e.1.size\/r=e.1.size+1)(o:Obj):BS E e P D C F pre (w.putObj r o):=by
 obtain⟨i,m,k,g⟩:=h;have b:=gS w r o;refine⟨i,m.over (R:=λ j=>j=r) (λ j a=>?_) (λ d=>?_) b.size (λ j a l=>b.block j a l) (λ j a=>O a),k,g.trans ⟨b.os,b.tape,b.output,b.size,λ j a=>b.block j (cB (f j a) g.size) (λ d=>?_)⟩⟩
 ·rcases c with rfl|rfl
  ·exact al (O a)
  exact al (al a)
 ·have:0 =r:=d;rcases c with rfl|rfl<;>omega
 have:=f j a;rcases c with rfl|rfl<;>omega
theorem BS.step(h:BS E e P D C F pre w)(o:F+Y pre+1<900000000)(r:C.In m)(s:(m:Int)∉pre.map Prod.snd)(i:Int) :
  Calls prog 60 #[aq P,V U m] w λ c a=>c=aw (V U 0)/\(a.1[e.1.size]?=w.1[e.1.size]?/\a.1[e.1.size+1]?=w.1[e.1.size+1]?)/\BS E e P D C F (pre++[(i,(m:Int))]) a:=by
 obtain⟨d,t,g,q⟩:=h;obtain⟨l,k⟩:=g.step r s;refine(IA t o m l).mono ?_;rintro c a ⟨f,p,b⟩;refine⟨f,⟨b.block _ (al (O rfl)),b.block _ (al (al rfl))⟩,d.give m,?_,?_,q.trans (b.mono (λ j n=>O n))⟩
 ·rw[zl,gI];exact p
 rw[dI];exact k
theorem om.good{pre:List Int}(h:om B C o pre)(g:B.Good):C.Good:=by
 have a:C.bO=[]:=by unfold AP.bO;rw[h.op]
 refine⟨by rw[h.au];exact g.one,by rw[h.au,h.aA];exact g.aA,by rw[h.aA];exact g.few,by rw[h.free];exact g.fA,?_,by rw[a];exact List.nodup_nil,λ x b=>by rw[a]at b;cases b⟩;rw[h.free,h.au];exact g.free
theorem WU(zs:List Int):(tX zs).map Prod.snd=zs.reverse:=by
 refine List.ext_getElem (by simp[tX]) (λ i a b=>?_);have c:i<Y zs:=by simpa[tX]using a
 rw[List.getElem_reverse];simp only[tX,List.getElem_map,List.getElem_range];rw[fV,bK Z];rfl
theorem o1(d:zs.Nodup){x:Int×Int}(h:pre++[x] <+: tX zs):x.2∈zs/\x.2∉pre.map Prod.snd:=by
 obtain⟨r,e⟩:=h;have a:(tX zs).map Prod.snd=pre.map Prod.snd++(x.2::r.map Prod.snd):=by rw[<-e];simp
 rw[WU]at a;have b:(pre.map Prod.snd++(x.2::r.map Prod.snd)).Nodup:=by rw[<-a];exact(List.reverse_perm zs).nodup_iff.2 d
 refine⟨List.mem_reverse.1 (by rw[a];exact lL _ (bI ..)),λ c=>(bN.1 b).2.2 _ c _ (bI ..) rfl⟩
theorem ye{x:Int×Int}(h:pre++[x] <+: tX zs):Y pre<Y zs:=by
 have:=h.length_le;rw[zl,gI,WS]at this;omega
theorem zv{k:AP}(f:AP.Since A0 B o)(c:om B C o j)(l:∀y,y∈j↔(o.was y).isSome=true)(d:Given C k o.made.reverse):AP.wH A0 k:=by
 have n:∀p,C.In p↔B.In p:=λ p=>by unfold AP.In;rw[c.au,c.free]
 refine⟨d.op,d.good,λ p=>?_,λ p h=>?_,?_,by rw[d.aA,c.aA,f.aA]⟩
 ·rw[d.has,n,f.has,List.mem_reverse]
  constructor
  ·rintro⟨a|a,b⟩
   ·exact a
   exact absurd a b
  intro h;refine⟨O h,λ g=>?_⟩;obtain⟨m,e,q⟩:=f.made _ g;have:p=m:=Z
  exact q (this▸h)
 ·rw[d.c,c.c]
  cases i:o.was p with
  | none=>
   rw[aE (λ g=>by rw[l,i]at g;cases g)];exact f.same p h i
  | some s=>
   rw[be ((l _).2 (by rw[i];rfl))];obtain⟨m,e,_,r⟩:=f.was _ _ i;have:p=m:=Z
   subst this;exact r
 rw[d.aQ,List.length_reverse,<-f.aQ];unfold AP.aQ;rw[c.au,c.free,c.aA]
theorem xZ(h:PZ E W P D B k)(f:AP.Since A0 B o)(hl:∀m,A0.Has m->(A0.c m).length=504)(r:k+300000<900000000) :
  Calls prog 18 #[aq P] W λ d w'=>d=aw (V U 0)/\∃C,PZ E w' P D C (k+300000)/\AP.wH A0 C/\Kept E W w':=by
 have Cy:=h.Fe;have L:Below W W ((W.alloc (.cells #[aq P] 27)).alloc (.cells #[V U 0] 31)):=((aU _ _).alloc (aH _) _).alloc (by simp) _;have z2:((W.alloc (.cells #[aq P] 27)).alloc (.cells #[V U 0] 31)).1.size=W.1.size+2:=by simp
 have xp:=(ay.new W #[aq P] 27).alloc (.cells #[V U 0] 31);have xr:=ay.new (W.alloc (.cells #[aq P] 27)) #[V U 0] 31;rw[show(W.alloc (.cells #[aq P] 27)).1.size=W.1.size+1 by simp]at xr;generalize fO:(W.alloc (.cells #[aq P] 27)).alloc (.cells #[V U 0] 31)=wa at L z2 xp xr;have x3:Hid ((W.alloc (.cells #[aq P] 27)).alloc (.cells #[V U 0] 31)=wa):=fO
 have p1:PZ (λ b=>E b\/b=W.1.size\/b=W.1.size+1) wa.drew P D B k:=h.wide L.drew (λ b c=>by
  have xn:wa.drew.1.size=W.1.size+2:=z2;rcases c with c|c|c
  ·exact O c
  ·exact al Z
  exact al Z)
 have k1:Kept E W wa.drew:=h.kept L.drew;obtain⟨x,⟨F,u,eg⟩,h8,d5,d6,d7,d8,hr⟩:=fy p1 f.op;have c5:W.cell? (P,5)=some (a6 true):=(eB (a:=⟨P,5,none⟩) (L.drew.block P Cy)).symm.trans d5;have c6:W.cell? (P,6)=some (.map (some x.wb)):=(eB (a:=⟨P,6,none⟩) (L.drew.block P Cy)).symm.trans d6;have c7:W.cell? (P,7)=some (ad x.mo (Y x.made) x.mc):=(eB (a:=⟨P,7,none⟩) (L.drew.block P Cy)).symm.trans d7;have RG:=zH h.there;have hg:=zH h.tab.lt;have HE:=zH hr;have RH:=zH h8;have Qc:=zH k1;have HX:=bg (show ay wa.drew W #[aq P]from xp) (show ay wa.drew (W.1.size+1) #[V U 0]from xr);have RI:=bm F u f;have xk:=h8.made.BQ;generalize x0:x.mo=xm at c7;have hj:=zH x0;clear h p1 hr h8 k1 xp xr d5 d6 d7 d8 F u eg f L z2 fO x0;refine(callsIn_wide (n:=9)).1 ?_;refine callsIn_of_wp_marks func18 rfl trivial ?_ rfl;refine wpIn_mono (Q:=GW 9 f18 (λ d w'=>d=aw (V U 0)/\∃C,PZ E w' P D C (k+300000)/\AP.wH A0 C/\Kept E W w')) ?_ (λ d a w hq=>by cases d<;>first|exact hq|exact hq.elim);refine wpIn_wide.2 ?_;simp only[ntmps18,List.size_toArray,dF,List.length_nil,Nat.reduceAdd,Nat.reduceSub,Array.replicate_succ,Array.replicate_zero,List.push_toArray,List.append_toArray,iQ,lS]
 go_wp2_with fail
 go_region
 go_wp2_with fail
 rw[x3.out];refine HE.out.mono ?_;rintro d G ⟨rfl,p2,n⟩;have Pj:=RH.out.was.ae (n.block _ (al (O rfl)));have iH:=RH.out.few.1;have hb:=zH (ql Pj Z);have ha:=zH (qR (some x.wb) G);have H2:=bg p2 n;clear HE p2 n Pj c5 c6 c7
 go_wp2_with fail
 refine ha.out.mono ?_;rintro d w3 ⟨rfl,xb⟩;subst xb
 go_wp2_with fail
 refine hb.out.mono ?_;rintro d A ⟨z,cc,j,rfl,X,R,h3,G8,T,b4⟩;obtain⟨p2,n⟩:=H2.out;have p4:=p2.wide b4 (T:=λ b=>((E b\/b=W.1.size\/b=W.1.size+1)\/jS (some x) b)\/(G.1.size<=b/\b<A.1.size)) (λ b c=>c.elim O al);have k24:=p2.kept b4;have S:=bm p4 n k24;have HB:=zH (om.start B o);have RJ:=br X R h3 G8 T
 have xj:Y j<=60000:=by
  obtain⟨F,u,f⟩:=RI.out
  have h1:=AP.qD (n:=B.au) X (λ y v=>by
   obtain⟨s,h5⟩:=Option.isSome_iff_exists.1 ((R y).1 v);obtain⟨m,rfl,Q,_⟩:=f.was y s (by rw[F];exact h5);exact⟨m,rfl,((f.has m).2 (O Q)).2.1⟩)
  have:=f.good.aA;have:=f.good.few;omega
 clear ha hb H2 p2 n p4 k24 b4 X R h3 G8 T
 go_wp2_with fail
 go_loopw [31] (λ iv wr=>∃i:Nat,iv=V U i/\i<=Y j/\∃C,PZ (λ b=>((E b\/b=W.1.size\/b=W.1.size+1)\/jS (some x) b)\/(G.1.size<=b/\b<A.1.size)) wr P D C (k+3*i)/\om B C o (j.take i)/\Kept (λ b=>((E b\/b=W.1.size\/b=W.1.size+1)\/jS (some x) b)\/(G.1.size<=b/\b<A.1.size)) A wr) (λ iv _=>60001-(Go.RowKit.intOf iv).toNat)
 case atStart=>exact⟨0,rfl,aR _,_,S.out.1,HB.out,Kept.refl _ _⟩
 obtain⟨i,rfl,hi,C,q,p,t⟩:=hrel;obtain⟨X,R,h3,G8,T⟩:=RJ.out;obtain⟨_,n,k24⟩:=S.out;obtain⟨F,u,f⟩:=RI.out;have yp:=((HX.out.1.ae (n.block _ (O (al (O rfl))))).ae (k24.block _ (O (al (O rfl))))).ae (t.block _ (O (O (al (O rfl)))));have b0:=yp.c0;by_cases x7:i<Y j
 ·obtain⟨y,v⟩:∃y,j[i]?=some y:=⟨_,bK x7⟩;obtain⟨g,rfl,hs,ht,hu⟩:=T i y v;have xd:wr.cell? (g,i)=some (V U y):=Ff t (al ⟨hs,ht⟩) hu;have hz:=(R y).1 (dU v);obtain⟨s,h5⟩:=Option.isSome_iff_exists.1 hz;have h4:o.was y=some s:=by rw[F];exact h5
  obtain⟨m,rfl,Q,hy⟩:=f.was y s h4;have hv:B.In m:=(f.has m).2 (O Q);have h2:Y s=504:=by rw[hy];exact hl m Q
  have MN:=zH (Ke q Z m ((p.WR m).2 hv));have xi:(i:Int)<(Y j:Int):=Z
  have WV:=bm q p t;have Pk:=bm h4 h2 v;clear q p t T R X h3 G8 n k24 f F u yp hu hz Q hy hv hs ht v
  go_wp2_with fail
  refine MN.out.mono ?_;rintro d w5 ⟨fb,db,cap,rfl,f5,k5⟩;have WW:Below w5 w5 w5.drew:=(aU _ _).drew;have hk:=f5.next WW;have WX:=k5.trans (f5.kept WW)
  have J4:∀w,Kept (λ b=>((E b\/b=W.1.size\/b=W.1.size+1)\/jS (some x) b)\/(G.1.size<=b/\b<A.1.size)) wr w->(Instr.lookup 112 (.map (some x.wb)) (V U (m:Int)) false).run prog w= .ok (a8 (str s)) w:=λ w r=>by
   have Q:=(((RH.out.was.ae (S.out.2.1.block _ (al (O rfl)))).ae (S.out.2.2.block _ (al (O rfl)))).ae (WV.out.2.2.block _ (O (al (O rfl))))).ae (r.block _ (O (al (O rfl))));have:=UK.nW.WT Q underlying3 underlying9 underlying112 (λ w=>by kernel_rfl) (m:Int) (RJ.out.2.2.2.1 _ (dU Pk.out.2.2));rw[h5]at this;exact this
  have xe:=J4 _ WX;have h9:=zH (zi hk Z);have hh:=zH J4;have K5:=zH WX;clear MN f5 k5 xd b0 hk WX WW J4
  go_wp2_with fail
  go_region_with (first
   | (go_at_call 64;refine h9.out.mono ?_;rintro d w6 ⟨rfl,f6,k6⟩;obtain⟨yb,J,y2,y3,y4,y5⟩:=f6.bytes;have xf:=hh.out w6 (K5.out.trans k6);have hp:=UK.Fh (P:=prog) (dT:=94) (sT:=9) (ty:=3) underlying94 (λ w=>by kernel_rfl) J 0 504 cap s (by rw[Pk.out.2.1];exact aH _) (by rw[Pk.out.2.1];omega);replace f6:=zH f6;replace k6:=zH k6;replace J:=zH J;replace y2:=zH y2;replace y3:=zH y3))
  all_goals
   obtain⟨h4,h2,v⟩:=Pk.out;obtain⟨q,p,t⟩:=WV.out;have y1':=J.out;have y2':=y2.out;have h7:=y1'.setCells s 0 (by rw[h2];omega);have Iu:=(Only.refl db w6).setCells (UK.cellsOf s) (o:=0);obtain⟨p7,k7⟩:=f6.out.write Iu h7 ((UK.jF _ _ _ (by rw[h2];omega)).trans y2');rw[Ln yb s h2,rj p.op]at p7;have h6:=p.step (s:=s) h4;rw[<-g8 v]at h6;generalize w6.setCells db 0 (UK.cellsOf s)=w7 at p7 k7 hp h7 Iu ⊢;have HU:=zH (Um p7);have WY:=bg h6 (t.trans ((K5.out.trans k6.out).trans k7));clear h9 hh K5 f6 k6 J y2 y3 y4 y5 y1' y2' hp h7 Iu p7 k7 h4 h2 v q p t xe xf h6
   go_wp2_with fail
   refine HU.out.mono ?_;rintro d w8 ⟨rfl,p8,k8⟩;have HR:Hid (PZ (λ b=>((E b\/b=W.1.size\/b=W.1.size+1)\/jS (some x) b)\/(G.1.size<=b/\b<A.1.size)) w8 P D (C.put m s) (k+3*(i+1))/\om B (C.put m s) o (j.take (i+1))/\Kept (λ b=>((E b\/b=W.1.size\/b=W.1.size+1)\/jS (some x) b)\/(G.1.size<=b/\b<A.1.size)) A w8):=⟨p8,WY.out.1,WY.out.2.trans k8⟩;clear HU WY p8 k8 Pk WV
   go_wp2_with fail
   go_roundw
   case rel=>exact⟨i+1,by go_num,Z,_,HR.out⟩
   case measure=>simp[Go.RowKit.intOf];omega
 have xh:¬(i:Int)<(Y j:Int):=Z
 have CZ:=bm q p t;clear q p t X R h3 G8 T n k24 F u f yp
 go_wp2_with fail
 refine(IN _ _ _ _).mono ?_;rintro d w5 ⟨rfl,uZ⟩;subst uZ;have bq:Below wr wr (wr.alloc (.cells #[ad xm (Y x.made) x.mc] 57)):=(aU _ _).alloc (aH _) _;have sq:(wr.alloc (.cells #[ad xm (Y x.made) x.mc] 57)).1.size=wr.1.size+1:=by simp
 have xq:=ay.new wr #[ad xm (Y x.made) x.mc] 57;generalize xc:wr.alloc (.cells #[ad xm (Y x.made) x.mc] 57)=e at bq sq xq;clear xc
 go_wp2_with fail
 obtain⟨q,p,t⟩:=CZ.out;obtain⟨F,u,f⟩:=RI.out;obtain⟨_,n,k24⟩:=S.out
 have RL:=q.wide bq (T:=λ b=>(((E b\/b=W.1.size\/b=W.1.size+1)\/jS (some x) b)\/(G.1.size<=b/\b<A.1.size))\/b=wr.1.size) (λ b c=>by
  rcases c with c|c
  ·exact O c
  exact al Z)
 have H:=q.kept bq;have HB0:=zH (Ff H (O (O (al (O rfl)))) b0);have WZ:=zH (xq.cell 0 _ rfl)
 have Xa:=zH (λ (b:Nat) (c:b<Y x.made)=>by
  have v:x.made[b]?=some x.made[b]:=bK c;obtain⟨g,d,hc⟩:=RH.out.made.at_ v;have Pm:jS (some x) g:=al (O d);have c1:=Ff H (O (al Pm)) (Ff t (O (al Pm)) (Ff k24 (al Pm) (Ff n (al Pm) hc)));exact(show ∃g,xm=some ⟨g,0,none⟩/\jS (some x) g/\e.cell? ⟨g,b,none⟩=some (V U (x.made.getD b 0))from⟨g,by rw[<-hj.out,d],Pm,by rw[fV,v];exact c1⟩))
 have HI0:=zH (λ x5 o=>BS.start RL (p.good f.good) p.op x5 o);have Xb:=bg RL.there RL.tab.lt;have qQ:Y x.made<=60000:=by rw[<-u];exact f.BP
 have HST:=zH (λ (pre:List (Int×Int)) (y:Int×Int) (w:World) (M:BS (λ b=>(((E b\/b=W.1.size\/b=W.1.size+1)\/jS (some x) b)\/(G.1.size<=b/\b<A.1.size))\/b=wr.1.size) e P D C (k+3*i) pre w) (hx:pre++[y] <+: tX x.made)=>by
  obtain⟨hw,x8⟩:=o1 (by rw[<-u];exact f.fA) hx;obtain⟨m,d,FI⟩:=f.made y.2 (by rw[u];exact hw);have x9:B.In m:=(f.has m).2 (al (by rw[u,<-d];exact hw));have xa:C.In m:=by have:=x9;unfold AP.In at this ⊢;rw[p.au,p.free];exact this
  have:=M.step (by have:=ye hx;omega) xa (by rw[<-d];exact x8) y.1;rw[<-d]at this;exact this)
 have x2:=zH (λ C2 (N:Given C C2 x.made.reverse)=>zv f (by rw[fQ Z]at p;exact p) (λ y=>by rw[F];exact(RJ.out.2.1 y)) (by rw[u];exact N));have x1:=zH (((((HX.out.2.ae (n.block _ (O (al (al rfl))))).ae (k24.block _ (O (al (al rfl))))).ae (t.block _ (O (O (al (al rfl)))))).ae (H.block _ (O (O (al (al rfl)))))).lt);have he:=bp n k24 t H;clear q p t F u f n k24 RL H xq bq sq b0 CZ RI S HB RJ hj;refine UK.uV (n:=3) (enc:=J3) (zs:=tX x.made) (I:=BS (λ b=>(((E b\/b=W.1.size\/b=W.1.size+1)\/jS (some x) b)\/(G.1.size<=b/\b<A.1.size))\/b=wr.1.size) e P D C (k+3*i)) (lb:= #[aq wr]) (gf:=132) (a₁:=?a1) rfl (enters_of func132 (by kernel_rfl) rfl) (λ _=>rfl) ?start ?put ?assign ?body ?iter ?done
 case assign=>
  intro l y w xg hK
  gi_wp2
  exact hK
 case start=>exact λ o=>HI0.out _ o
 case put=>exact λ pre w o h hl=>h.put Xb.out.1 Xb.out.2 (al rfl) o
 case iter=>
  intro l x4 w hY hJ h0;refine l3 3 l wr xm x.mc x.made Z x4 w hY (λ pre w1 c=>?_) h0;obtain⟨_,_,_,r⟩:=hJ pre w1 c;refine⟨Ff r (al rfl) WZ.out,λ b c=>?_⟩;obtain⟨g,d,hO,hc⟩:=Xa.out b c;exact⟨g,d,Ff r (O (O (al hO))) hc⟩
 case body=>
  rintro l pre ⟨yi,ym⟩ w M hx;have HG:=zH (HST.out pre (yi,ym) w M hx);obtain⟨_,_,_,r⟩:=M;have b1:w.cell? W.1.size=some (aq P):=Ff r (O (O (O (al (O rfl))))) HB0.out;clear r hx HST HI0 Xb WZ Xa HB0
  gi_wp2_with fail
  refine⟨trivial,?_⟩;refine(CallsIn.inRound l (callsIn_wide.2 HG.out)).mono ?_;rintro d w5 ⟨rfl,h1⟩;have H1:=zH h1;clear HG h1
  gi_wp2
  exact H1.out
 intro w M hD;have ho:=M;obtain⟨C2,q,N,r⟩:=M;rw[WU]at N;obtain⟨n,k24,k4,H⟩:=he.out;have yr:=((((HX.out.2.ae (n.block _ (O (al (al rfl))))).ae (k24.block _ (O (al (al rfl))))).ae (k4.block _ (O (O (al (al rfl)))))).ae (H.block _ (O (O (al (al rfl)))))).ae (r.block _ (O (O (O (al (al rfl))))));have r0:=yr.c0;have rf:=yr.free 0;have HI:=bm ho hD yr;clear ho q N r n k24 k4 H yr hD HST HI0 WZ Xa HB0
 go_wp2_with fail
 obtain⟨⟨C2,q,N,r⟩,hD,yr⟩:=HI.out;obtain⟨n,k24,k4,H⟩:=he.out;rw[WU]at N;have xl:W.1.size+1<e.1.size:=x1.out;have x6:W.1.size<=e.1.size:=Z
 have I:Only (W.1.size+1) w (w.setCell ⟨W.1.size+1,0,none⟩ (V U 0)):=(Only.refl _ _).set 0 _;have J:=yr.set 0 (V U 0);have hm:(w.setCell ⟨W.1.size+1,0,none⟩ (V U 0)).1[e.1.size]?=some (.deferred (some [])):=(I.block _ (Array.getElem?_eq_some_iff.1 hD).1 Z).trans hD;have z1:=q.over (R:=λ b=>b=W.1.size+1) (λ b c=>O (O (O (O (al (al c)))))) (λ d=>by have e2:0 =W.1.size+1:=d;have:=hg.out;omega) I.size (λ b c hn=>I.block b c hn) (T:=λ b=>(((((E b\/b=W.1.size\/b=W.1.size+1)\/jS (some x) b)\/(G.1.size<=b/\b<A.1.size))\/b=wr.1.size)\/b=e.1.size\/b=e.1.size+1)) (λ b c=>O c);have kE:Kept E W (w.setCell ⟨W.1.size+1,0,none⟩ (V U 0)):=(((((Qc.out.trans (n.mono (λ b c=>O (O c)))).trans (k24.mono (λ b c=>O (O c)))).trans (k4.mono (λ b c=>O (O (O c))))).trans (H.mono (λ b c=>O (O (O c))))).trans (r.mono (λ b c=>O (O (O (O c)))))).trans ⟨I.os,I.tape,I.output,I.size,λ b c=>I.block b (cB (RG.out b c) (aT x6 r.size)) (by have:=RG.out b c;omega)⟩;generalize w.setCell ⟨W.1.size+1,0,none⟩ (V U 0)=wf at I J hm z1 kE ⊢;have K:=gS wf e (.deferred none);have z2:=z1.over (R:=λ b=>b=e.1.size) (λ b c=>al (O c)) (λ d=>by have e2:0 =e.1.size:=d;have:=hg.out;omega) K.size (λ b c hn=>K.block b c hn) (T:=E) (λ b c=>O (O (O (O (O (O c))))));have y2:=J.ae (K.block _ J.lt Z);have c2:=y2.c0;have k2':Kept E W (wf.putObj e (.deferred none)):=kE.trans ⟨K.os,K.tape,K.output,K.size,λ b c=>K.block b (cB (RG.out b c) kE.size) (by have:=RG.out b c;omega)⟩;refine⟨by simp,O ⟨_,_,rfl,run_takeDeferred hm,?_⟩⟩;generalize wf.putObj e (.deferred none)=wg at z2 c2 k2' ⊢;refine⟨_,(by simp[results,results18,go_sem,c2]:(results f18 _).run prog wg= .ok (V U 0) wg),rfl,C2,z2.up ?_,x2.out C2 N,k2'⟩;rw[WS];omega
end
