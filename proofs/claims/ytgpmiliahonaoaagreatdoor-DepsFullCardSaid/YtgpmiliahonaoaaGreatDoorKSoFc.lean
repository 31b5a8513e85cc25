/- Facts on texts on pages. -/
import Derived.Test.YtgpmiliahonaoaaGreatDoorKDpNc
import Derived.Shelf.Spec.SlicesInsert
import Derived.Deep.CutBlock
set_option maxRecDepth 100000
set_option maxHeartbeats 8000000
set_option linter.unusedSimpArgs false
open Go.Value renaming bool->a6,int->V,pointer->aq,slice->ad,tuple->a9
open Go.IntKind renaming i64->U,u64->a7
open Go.Ending renaming returned->aw
open Or renaming inl->O,inr->al
open List renaming length->Y
open Go.Proofs.Tryz
namespace Go.Proofs.YtgpmiliahonaoaaGreatDoor
open Go.RowKit
open UK (str aF nth Only Row ay w32)
open Go.BigFrame
variable{E S:Nat->Prop}{W W' G:World}{P:Program}{k n F i c p q m j a b d B cap s:Nat}{root:Int}{v z:Value}{vs:List Value}{x:Nd}{l:List UInt64}{kn:IntKind}{g f h e:Nat->UInt64}{C:Option Addr}{up:UInt64->UInt64->Prop}
def Wh(y:List UInt8)(n:Nat):Prop:=nth y 0=1/\(nth y 1).toNat=n/\n<=30
def zu(N M:Nat)(W:World)(F:Nat)(x:Nd)(c a b:Option Addr)(f d e:Nat):Prop:=aZ N W F x c a b f d e/\F<M/\∀g,aG c g\/aG a g\/aG b g->g<M
section
variable{P D T w:Nat}{A:AP}
theorem Vy(y:List UInt8)(i:Nat)(h:i<504):nth (y.take 504) i=nth y i:=by
 unfold nth;rw[fV,fV,fT h]
theorem Vz(y:List UInt8)(o:Nat)(h:o+8<=504):rQ (y.take 504) o=rQ y o:=by
 unfold rQ;rw[List.drop_take,lK,List.drop_take,lK,gV Z,gV Z]
theorem fq(y:List UInt8)(n:Nat)(b:n<=30):qm (y.take 504) n=qm y n:=by
 unfold qm;refine List.map_congr_left (λ i a=>?_);have:=ky.1 a;exact Vz y _ Z
theorem cN(y:List UInt8)(n:Nat)(b:n<=30):rR (y.take 504) n=rR y n:=by
 unfold rR;refine List.map_congr_left (λ i a=>?_);have:=ky.1 a;exact Vz y _ Z
def pk(E:Nat->Prop)(W a:World)(P D:Nat)(A:AP)(k w n:Nat)(e:Ending):Prop:=
 ∃N M F f c d b,e=aw (a9 #[aq (some ⟨F,0,none⟩),V U 0])/\W.1.size<=N/\M<=a.1.size/\zu N M a F {leaf:=true,ag:=qm (A.c w) n,vals:=rR (A.c w) n,ak:=[]} f c none d b 0/\PZ (λ j=>E j\/(N<=j/\j<M)) a P D A k/\Kept E W a
theorem dj(h:PZ E W P D A k)(hk:k+2<900000000)(C:ay W T #[aq P,V U root])(hp:A.Has w)(hy:Wh (A.c w) n) :
  Calls prog 156 #[aq T,V U w] W λ e w'=>pk E W w' P D A (k+2) w n e:=by
 have c0:=C.c0;have N:=zH (Ke h hk w hp);clear h C
 go_enter_defers func156,ntmps156
 go_wp2_with fail
 refine N.out.mono ?_;rintro e w1 ⟨fb,db,cap,rfl,a,d⟩;have L:=zH (AB a);obtain⟨y,Q,J,s,H,X⟩:=a.bytes;obtain⟨o,c,f⟩:=hy;rw[<-s]at o c;rw[Vy _ _ Z]at o c;have x:=ew Q J H o c f;have r:=fq y n f;have t:=cN y n f;rw[s]at r t;rw[<-r,<-t]at x;have K:=zH x;have M:=bg a d;clear N a d Q J s H X o c r t x c0
 go_wp2_with fail
 refine L.out.mono ?_;rintro e B ⟨rfl,rfl⟩
 go_wp2_with fail
 refine K.out.mono ?_;rintro e v ⟨F,R,I,kc,Y,rfl,b,z⟩;obtain⟨a,d⟩:=M.out
 have m:∀g,aG R g\/aG I g\/aG none g->g<v.1.size:=λ g S=>by
  rcases S with h|h|h
  ·exact b.k.lt h
  ·exact b.v.lt h
  cases h
 have l:=b.box.lt;have G:=a.wide z (T:=λ j=>E j\/(B.1.size<=j/\j<v.1.size)) (λ j u=>u);have p:=d.trans (a.kept z);have q:=d.size;have HU:=zH (DT .returning G);have HN:=br b m l p q;clear L K M a d b z m l G p q;go_wp2;refine leaves_cons (f:=65) (args:= #[aq fb]) (by simp) (by simp[go_sem]) ?_;refine HU.out.mono ?_;rintro e u' w4 ⟨rfl,rfl,p4,i⟩;obtain⟨b,m,l,p,q⟩:=HN.out;refine⟨_,results_tmp2 rfl _ _ _,?_⟩;refine⟨B.1.size,v.1.size,F,R,I,kc,Y,rfl,q,i.size,⟨b.ae i.size (λ g c f=>i.block g (al ⟨c,f⟩)),l,m⟩,p4,p.trans (i.mono (λ j u=>O u))⟩
theorem gQ.kept(h:gQ E W v vs)(i:Kept E W W'):gQ E W' v vs:=by
 obtain⟨C,c,a,b,d⟩:=h;refine⟨C,c,a,b,λ j u l=>?_⟩;obtain⟨g,o,f,e,k⟩:=d j u l;exact⟨g,o,f,e,(eB (a:=⟨g,o+j,none⟩) (i.block g e)).trans k⟩
theorem jU.kept(h:jU E W F x)(a:Kept E W W'):jU E W' F x:=by
 obtain⟨i,d,g,b,c,e,f,j⟩:=h;exact⟨i,d,g,b.ae (a.block F c),c,e.kept a,f.kept a,j.kept a⟩
theorem Lm(x:List UInt8)(a n:Nat)(s:List UInt8)(h:a+Y s<=n)(b:n<=Y x):(UK.wr x a s).take n=UK.wr (x.take n) a s:=by
 unfold UK.wr;rw[List.take_append,zt,gV Z,fQ (by rw[zt];omega),List.take_append,fQ (l:=s) Z,lK,gV Z,List.drop_take,show n-a-Y s=n-(a+Y s) from Z]
theorem Vx(y:List UInt8)(a vs:List UInt64)(d:Y a<=30)(c:Y vs=Y a)(b:504<=Y y):(qH y a vs).take 504=qH (y.take 504) a vs:=by
 unfold qH;rw[Lm _ _ _ _ (by rw[KR _ _ c];omega) (by rw[aV,aV];exact b),List.take_set,List.take_set]
theorem Vw(y:List UInt8)(a vs:List UInt64)(c:Y a<=30)(b:Y vs=Y a)(d:504<=Y y):(qH y a vs).length=Y y:=by
 unfold qH;rw[UK.jF _ _ _ (by rw[KR _ _ b,aV,aV];omega),aV,aV]
theorem sz(h:PZ E W P D A k)(hk:k+3<900000000)(r:ay W T #[aq P,V U root])(S:A.Has w)(C:jU E W F x)(R:x.leaf=true)(g:Y x.ag<=30)(i:Y x.vals=Y x.ag) :
  Calls prog 150 #[aq T,V U w,aq F] W λ e v=>e=aw (V U 0)/\PZ E v P D (A.ax w (qH (A.c w) x.ag x.vals)) (k+3)/\Kept E W v:=by
 have O:=r.c0;have I:=zH (Ke h Z w S);clear h r
 go_enter_defers func150,ntmps150
 go_wp2_with fail
 refine I.out.mono ?_;rintro e w1 ⟨M,db,cap,rfl,z,a⟩;have G:=zH (zi z Z);have H:=bg (C.kept a) a;clear I z a O C
 go_wp2_with fail
 refine G.out.mono ?_;rintro e w2 ⟨rfl,c,b⟩;obtain⟨n,a⟩:=H.out;have L:=n.kept b;obtain⟨y,K,l,s,u,o⟩:=c.bytes;have q:=zH (V6 L R g i K l u o);have B:y.take 504=A.c w:=s;have d:=Vx y x.ag x.vals g i Z;rw[B]at d;have f:=Vw y x.ag x.vals g i Z;have m:=bp c (a.trans b) d (f.trans l);clear G H n L a b c K l s u o B d f
 go_wp2_with fail
 refine q.out.mono ?_;rintro e w3 ⟨rfl,p,t⟩;obtain⟨c,b,d,f⟩:=m.out;obtain⟨j,J⟩:=c.write t p f;rw[d]at j;have Q:=zH (DT .returning j);have X:=zH (b.trans J);clear q m c b d f j J p t;go_wp2;refine leaves_cons (f:=65) (args:= #[aq M]) (by simp) (by simp[go_sem]) ?_;refine Q.out.mono ?_;rintro e u' w4 ⟨rfl,rfl,p4,N⟩;refine⟨_,results_tmp rfl _ _ _,rfl,p4,X.out.trans N⟩
theorem YJ(h:PZ E W P D A k)(hk:k+3<900000000)(hf:¬A.Full) :
  Calls prog 77 #[aq P] W λ e t=>∃T N M,e=aw (a9 #[aq (some ⟨T,0,none⟩),V U 0])/\ay t T #[aq P,V U A.next]/\W.1.size<=N/\N<=T/\T<M/\PZ (λ j=>E j\/(N<=j/\j<M)) t P D (A.take.ax A.next (qH (UK.bM 504) [] [])) (k+3)/\Kept E W t:=by
 have HP:=zH (JV h Z hf);clear h
 go_enter_defers func77,ntmps77
 go_wp2_with fail
 refine HP.out.mono ?_;rintro e w1 ⟨fb,L,cap,rfl,f,g⟩;have HG:=zH (JW f);have H1:=bg f g;clear HP f g
 go_wp2_with fail
 refine HG.out.mono ?_;rintro e b ⟨rfl,rfl⟩;obtain⟨f,g⟩:=H1.out;have v:Below b b (b.alloc (.cells #[aq P,V U A.next] 208)):=(aU _ _).alloc (aH _) _;have sz:(b.alloc (.cells #[aq P,V U A.next] 208)).1.size=b.1.size+1:=by simp
 have G:=f.wide v (T:=λ j=>E j\/(b.1.size<=j/\j<b.1.size+1)) (λ j a=>by rw[sz];exact a);have p:=g.trans (f.kept v);have n:=ay.new b #[aq P,V U A.next] 208;have S:=zH (zi G Z);have c:=g.size;have B:=bm p n c;clear HG H1 f g v G p n sz c
 go_wp2_with fail
 refine S.out.mono ?_;rintro e d ⟨rfl,q,s⟩;obtain⟨p,n,c⟩:=B.out;have r:Below d d (d.alloc (.cells #[a6 true,ad none 0 0,ad none 0 0,ad none 0 0] 212)):=(aU _ _).alloc (aH _) _;have i:=q.next r;obtain⟨y,y1,w,H,J,y5⟩:=i.bytes
 have SY:L<d.1.size:=by
  obtain⟨y',q1,_⟩:=q.bytes;exact q1.lt
 have I:jU (λ j=>j=d.1.size) (d.alloc (.cells #[a6 true,ad none 0 0,ad none 0 0,ad none 0 0] 212)) d {leaf:=true,ag:=[],vals:=[],ak:=[]}:=
  ⟨ad none 0 0,ad none 0 0,ad none 0 0,ay.new d _ _,rfl,⟨none,0,rfl,aH _,λ j u a=>by cases a⟩,⟨none,0,rfl,aH _,λ j u a=>by cases a⟩,⟨none,0,rfl,aH _,λ j u a=>by cases a⟩⟩
 have z:=zH (V6 I rfl (by decide) rfl y1 w J (by show ¬L=d.1.size;omega));have R:y.take 504=UK.bM 504:=H.trans (by show bX A.c A.next (UK.bM 504) A.next=_;unfold bX;rw[be rfl]);have l:=Vx y [] [] (by decide) rfl Z;rw[R]at l;have m:=Vw y [] [] (by decide) rfl Z;have Q:=n.ae (s.block _ (al ⟨aH _,Nat.lt_succ_self _⟩));have X:=bw i ((p.trans (s.mono (λ j a=>O a))).trans ((q.kept r).mono (λ j a=>O a))) l (m.trans w) (Q.next r) c;clear S B p n q s r i y1 w H J y5 I R l m Q c SY
 go_wp2_with fail
 refine z.out.mono ?_;rintro e w6 ⟨rfl,C,Y⟩;obtain⟨i,F,l,m,h0,c⟩:=X.out;obtain⟨x,o⟩:=i.write Y C m;rw[l]at x;have HU:=zH (DT .returning x);have H6:=bm (F.trans (o.mono (λ j a=>O a))) (h0.ae (o.block _ (al ⟨aH _,Nat.lt_succ_self _⟩))) c;clear z X i F l m h0 x o C Y c;go_wp2;refine leaves_cons (f:=65) (args:= #[aq fb]) (by simp) (by simp[go_sem]) ?_;refine HU.out.mono ?_;rintro e u' w7 ⟨rfl,rfl,p7,K⟩;obtain⟨o,h1,c⟩:=H6.out;refine⟨_,results_tmp2 rfl _ _ _,?_⟩;exact⟨b.1.size,b.1.size,b.1.size+1,rfl,h1.ae (K.block _ (al ⟨aH _,Nat.lt_succ_self _⟩)),c,aH _,Nat.lt_succ_self _,p7,o.trans (K.mono (λ j a=>O a))⟩
end
def jV(l:List UInt64):Prop:=∀(a b:Nat) (x y:UInt64),a<b->l[a]?=some x->l[b]?=some y->x.toNat<y.toNat
structure eu(l:List UInt64)(k:UInt64)(i:Nat):Prop where
 le:i<=Y l
 below:∀(j:Nat) (x:UInt64),j<i->l[j]?=some x->x.toNat<k.toNat
 above:∀(j:Nat) (x:UInt64),i<=j->l[j]?=some x->k.toNat<=x.toNat
theorem ez(a b:UInt64)(w:World) :
  Calls prog 190 #[V a7 a.toNat,V a7 b.toNat] w λ e c=>e=aw (a6 (decide (a.toNat<b.toNat)))/\c=w:=by
 go_enter func190,ntmps190
 go_wp2;go_ret
 exact⟨rfl,rfl⟩
theorem Kq(a:UInt64)(w:World) :
  Calls prog 208 #[V a7 a.toNat] w λ e b=>e=aw (a6 false)/\b=w:=by
 go_enter func208,ntmps208
 go_wp2;go_ret
 exact⟨rfl,rfl⟩
theorem eu.mem{k x:UInt64}(h:eu l k i)(f:jV l)(a:l[i]?=some x):(k∈l)↔x.toNat=k.toNat:=by
 constructor
 ·intro c;obtain⟨j,g,e⟩:=fU c;have b:l[j]?=some k:=by rw[bK g,e]
  have n:=h.above i x (aH _) a;by_cases d:j<i
  ·have:=h.below j k d b;omega
  by_cases m:i=j
  ·subst m;rw[a]at b;rw[bf b]
  have:=f i j x k Z a b;omega
 intro e;rw[<-mV.1 e];exact dU a
theorem eu.none{l:List UInt64}{k:UInt64}(h:eu l k (Y l)):k∉l:=λ b=>by
 obtain⟨j,a,e⟩:=fU b;have:=h.below j k a (by rw[bK a,e]);omega
theorem IW(h:gQ S W v (az l))(H:jV l)(hl:Y l<=1000)(k:UInt64) :
  Calls prog 157 #[v,V a7 k.toNat] W λ e y=>∃i:Nat,e=aw (a9 #[V U i,a6 (decide (k∈l))])/\eu l k i/\y=W:=by
 obtain⟨C,c,rfl,X,t⟩:=h;rw[dH]at X ⊢;have F:=zH H;clear H
 go_enter func157,ntmps157
 go_wp2_with fail
 go_loopw [7,8] (λ D E wr=>∃i j:Nat,D=V U i/\E=V U j/\i<=j/\j<=Y l/\Hid (∀(a:Nat) (x:UInt64),a<i->l[a]?=some x->x.toNat<k.toNat)/\Hid (∀(a:Nat) (x:UInt64),j<=a->l[a]?=some x->k.toNat<=x.toNat)/\wr=W) (λ D E _=>(intOf E).toNat-(intOf D).toNat)
 case atStart=>exact⟨0,Y l,rfl,rfl,aR _,aH _,(λ a x h=>absurd h (jI _)),(λ a x h b=>by rw[ja h]at b;cases b),rfl⟩
 obtain⟨i,j,rfl,rfl,K,G,r,p,rfl⟩:=hrel;by_cases h1:i<j
 ·obtain⟨x,b⟩:∃x,l[(i+j)/2]?=some x:=⟨_,bK Z⟩;obtain⟨g,h0,rfl,_,J⟩:=t _ _ (tO _ _ _ b);have L:((i:Int)+(j:Int))/2=(((i+j)/2:Nat):Int):=Z
  have P:(i+j)/2<Y l:=Z
  have R:i<=(i+j)/2:=Z
  have N:(i+j)/2<j:=Z
  generalize I:(i+j)/2=m at b J L P R N;clear t;by_cases n:x.toNat<k.toNat
  ·have B:=zH (λ (a:Nat) (z:UInt64) (T:a<m+1) (d:l[a]?=some z)=>(show z.toNat<k.toNat by
    by_cases e:a=m
    ·subst e;rw[b]at d;rw[<-bf d];exact n
    have:=F.out a m z x Z d b;omega))
   have f:=ez x k wr;rw[decide_eq_true n]at f;have HL2:=zH f;clear b I f n r
   go_wp2_with fail
   refine HL2.out.mono ?_;rintro e y ⟨rfl,rfl⟩;clear HL2;go_wp2;go_roundw
   case rel=>exact⟨m+1,j,by go_num,rfl,Z,G,B.out,p,trivial⟩
   case measure=>simp[intOf];omega
  have B:=zH (λ (a:Nat) (z:UInt64) (T:m<=a) (d:l[a]?=some z)=>(show k.toNat<=z.toNat by
   by_cases e:a=m
   ·subst e;rw[b]at d;rw[<-bf d];omega
   have:=F.out m a x z Z b d;omega))
  have f:=ez x k wr;rw[decide_eq_false n]at f;have HL2:=zH f;clear b I f n p
  go_wp2_with fail
  refine HL2.out.mono ?_;rintro e y ⟨rfl,rfl⟩;clear HL2;go_wp2;go_roundw
  case rel=>exact⟨i,m,rfl,rfl,Z,Z,r,B.out,trivial⟩
  case measure=>simp[intOf];omega
 obtain rfl:i=j:=Z
 have q:eu l k i:=⟨G,r.out,p.out⟩;have HST:=zH q;by_cases O:i<Y l
 ·obtain⟨x,b⟩:∃x,l[i]?=some x:=⟨_,bK O⟩;obtain⟨g,h0,rfl,_,J⟩:=t _ _ (tO _ _ _ b);have A:=q.mem F.out b;have hd:decide ((i:Int)<(Y l:Int))=true:=decide_eq_true Z;have DF:(i:Int)<(Y l:Int):=Z
  have h2:decide ((i:Int)<(i:Int))=false:=decide_eq_false Z;have Q:=λ w=>Kq x w;clear t b q r p K;by_cases s:x.toNat=k.toNat
  ·have o:decide (k∈l)=true:=decide_eq_true (A.2 s);have u:=zH o;have M:((x.toNat:Int)==(k.toNat:Int))=true:=by rw[s];exact beq_self_eq_true _
   clear A o s
   go_wp2_with fail
   go_ret2;exact⟨i,by rw[u.out]<;>rfl,HST.out,rfl⟩
  have o:decide (k∈l)=false:=decide_eq_false (λ h=>s (A.1 h));have u:=zH o;have M:((x.toNat:Int)==(k.toNat:Int))=false:=beq_eq_false_iff_ne.2 Z;clear A o s
  go_wp2_with fail
  refine(Q _).mono ?_;rintro e y ⟨rfl,rfl⟩;go_wp2;go_ret2;exact⟨i,by rw[u.out]<;>rfl,HST.out,rfl⟩
 obtain rfl:i=Y l:=Z
 have hd:decide ((Y l:Int)<(Y l:Int))=false:=decide_eq_false Z;have u:=zH (decide_eq_false q.none);clear q r p t K
 go_wp2_with fail
 go_ret2;exact⟨Y l,by rw[u.out]<;>rfl,HST.out,rfl⟩
namespace UK
theorem cV{t tn ty e:TypeId}{i:TypeInfo}{k:IntKind}(w:P.underlying t=some (.slice e))(J:P.underlying tn=some (.int kn))(x:P.info? e=some i)(u:i.zero=some z)(p:i.size=1)(b:i.bytes<=16)(C:z.cells= #[z]){g:Nat}(h:Row W g c vs)(n:Nat)(N:0<n)(L:c<Y vs+n)(s:Y vs+n<=1000000000) :
  ∃l W',(Builtin.append_ #[t,tn] ty #[ad g (Y vs) c,V k n]).run P W= .ok (ad W (Y vs+n) l) W'/\Row W' W l (vs++List.replicate n z)/\Below W W W':=by
 have A:n≠0:=Z
 have I:IntKind.i64.wrap (n:Int)=n:=by rw[dM];omega
 have y:¬(9223372036854775807<((Y vs:Int)+(n:Int))):=Z
 have M:n*i.bytes<=n*16:=Nat.mul_le_mul_left n b
 have H:¬(281474976710656<(n:Int)*(i.bytes:Int)):=by
  rw[<-Int.natCast_mul];omega
 have D:¬((n:Int)<0):=Z
 have hf:¬(Y vs+n<=c):=Z
 have r:¬(281474976710656<Builtin.nextslicecap (Y vs+n) c*i.bytes):=by
  have E:(Y vs+n)*i.bytes<=140737488355328:=aT (Nat.mul_le_mul s b) (by decide);have:=growslice_fits (show c<Y vs+n from Z) E;omega
 have F:(Builtin.firstCells 1 (Y vs) (ad g (Y vs) c)).run P W.drew= .ok vs.toArray W.drew:=
  run_firstCells_some W.drew 1 (Y vs) ⟨g,0,none⟩ (Y vs) c vs (by rw[xX]) (λ j v a=>by
   have o:j<Y vs:=(dz.1 a).1;rw[mY,fB];exact(h.holds j o).trans a)
 have K:=grownCap_ge W (Y vs+n) c e
 have f:∀m,Builtin.zeroCells #[z] m=(List.replicate m z).toArray:=λ m=>by
  apply Array.ext';apply List.ext_getElem?;intro j;by_cases a:j<m
  ·simp[Builtin.zeroCells,a,Nat.mod_one]
  simp[Builtin.zeroCells,a]
 have rG:vs.toArray++((List.replicate n z).toArray++(List.replicate (grownCap W (Y vs+n) c e-(Y vs+n)) z).toArray)=(vs++List.replicate (grownCap W (Y vs+n) c e-Y vs) z).toArray:=by
  apply Array.ext';rw[Array.toList_append,Array.toList_append];simp only[List.replicate_append_replicate];rw[show n+(grownCap W (Y vs+n) c e-(Y vs+n))=grownCap W (Y vs+n) c e-Y vs from Z]
 have q:=ay.new W.drew (vs++List.replicate (grownCap W (Y vs+n) c e-Y vs) z).toArray e;refine⟨grownCap W (Y vs+n) c e,W.drew.alloc (.cells (vs++List.replicate (grownCap W (Y vs+n) c e-Y vs) z).toArray e),?_,?_,(aU W W).drew.alloc (aH _) _⟩
 ·rw[<-rG,<-f,<-f];unfold grownCap at *;simp[Builtin.append_,run_underlying w,run_underlying J,sizeOf,typeInfo,zeroValue,x,u,C,p,asInt,asIntOf,I,A,D,H,hf,y,r,Question.forced,F,newRow]
 have d:=q.row
 have B:(vs++List.replicate (grownCap W (Y vs+n) c e-Y vs) z).toArray.size=grownCap W (Y vs+n) c e:=by
  rw[List.size_toArray,zl,iM];omega
 rw[B]at d;have:=d.take (Y vs+n)
 have G:(vs++List.replicate (grownCap W (Y vs+n) c e-Y vs) z).toArray.toList.take (Y vs+n)=vs++List.replicate n z:=by
  show(vs++List.replicate (grownCap W (Y vs+n) c e-Y vs) z).take (Y vs+n)=_;rw[List.take_append,fQ Z,show Y vs+n-Y vs=n from Z,List.take_replicate,gV Z]
 rw[G]at this;exact this
end UK
def Jo(W c:World)(C:Option Addr)(l:List UInt64)(e:Ending):Prop:=
 ∃a b,e=aw (ad (some ⟨a,0,none⟩) (Y l) b)/\Row c a b (az l)/\UK.Only a W c/\(aG C a\/W.1.size<=a)
theorem Row.shape{g:Nat}(h:Row W g c vs)(d:0<c):∃t k,W.shape? g=some (t,k)/\k≠0:=by
 have a:=(h.there 0 d).1;unfold World.cell? at a;unfold World.shape?
 cases b:W.1[g]? with
 | none=>simp only[b]at a;cases a
 | some o=>
  simp only[b]at a
  cases o with
  | cells f t i=>
   refine⟨t,f.size,rfl,λ e=>?_⟩;simp only at a;rw[Array.getElem?_eq_none Z]at a;simp at a
  | _=>simp at a
theorem ub(h:NR W C c (az l))(B:Y l<=1000)(v:UInt64)(q:ay W p #[V a7 (v.toNat:Int)]) :
  Calls prog 235 #[ad C (Y l) c,V U (Y l),ad p 1 1] W λ e w=>Jo W w C (l++[v]) e:=by
 have d:=dH l
 obtain⟨i,f,W',e,r,o⟩:=UK.Km (P:=prog) (t:=88) (tx:=88) (ty:=88) underlying88 (i:=t77) rfl rfl rfl (show(8:Nat)<=16 from Z) rfl h (x:=ad p 1 1) (m:=[V a7 (v.toNat:Int)]) (by simp) (Src.ofSlice W underlying88 ⟨p,0,none⟩ 1 1 _ rfl (λ j u n=>by
   have z:j=0:=by
    by_cases D:j<1
    ·omega
    rw[ja (by simp;omega)]at n;cases n
   subst z;rw[UK.mY,fB,q.cell 0 _ rfl]
   exact n) (λ u y=>by
    obtain rfl:=bu.1 y;rfl)) (by rw[d];simp;omega)
 rw[zl,d]at e;have s:(az l++[V a7 (v.toNat:Int)])=az (l++[v]):=by unfold az;rw[dI];rfl
 rw[s]at r;have k:Hid (∃i f,(ad (some ⟨i,0,none⟩) (Y l+1) f=ad (some ⟨i,0,none⟩) (Y l+1) f)/\True):=⟨0,0,rfl,trivial⟩;have m:=bg r o;replace e:(Builtin.append_ #[88,88] 88 #[ad C (Y l) c,ad p 1 1]).run prog W= .ok (ad (some ⟨i,0,none⟩) (Y l+1) f) W':=e;clear r o q s k
 have fin:Jo W W' C (l++[v]) (aw (ad i (Y l+1) f)):=by
  refine⟨i,f,by rw[zl];rfl,m.out.1,?_⟩;rcases m.out.2 with⟨a,b⟩|⟨a,b⟩
  ·exact⟨b,O a⟩
  exact⟨Only.of_below b,al Z⟩
 have k:=zH fin;clear fin m;rcases h with⟨rfl,t,rfl⟩|⟨g,rfl,r⟩
 ·have A:l=[]:=by
   have:=congrArg List.length t;rw[d]at this;exact List.length_eq_zero_iff.1 this
  subst A;clear t d
  go_enter func235,ntmps235
  go_wp2_with (at_builtin;refine UK.jm e rfl rfl rfl rfl rfl ?_)
  go_ret;exact k.out
 have x:=r.le;rw[d]at x;clear r d
 go_enter func235,ntmps235
 go_wp2_with (at_builtin;refine UK.jm e rfl rfl rfl rfl rfl ?_)
 all_goals
  go_ret;exact k.out
theorem D1{g:Nat}(h:Row W g c (az l))(hl:Y l<=1000)(hi:i<Y l)(kR:Y l+1<=c)(v:UInt64)(t:ay W p #[V a7 (v.toNat:Int)])(G:p≠g) :
  Calls prog 235 #[ad g (Y l) c,V U i,ad p 1 1] W λ h5 w'=>Jo W w' g (l.take i++v::l.drop i) h5:=by
 have N:=dH l;obtain⟨n,A⟩:∃n,n=Y l:=⟨_,rfl⟩;obtain⟨tB,kB,R,h1⟩:=Row.shape h Z
 obtain⟨F,s,K,T,J⟩:∃F s,W.shape? p=some (F,s)/\W.frozen? ⟨p,0,none⟩=false/\W.frozen? {block:=p,off:=s}=false:=by
  obtain⟨h2,w⟩:=t;exact⟨h2,1,by unfold World.shape?;rw[w];rfl,by unfold World.frozen?;rw[w];rfl,by unfold World.frozen?;rw[w];rfl⟩
 have h4:∀D y,(callFunc 261 #[ad p 1 1,ad (g,i+1) D y]).run prog W= .ok (.value (a6 false)) W:=λ D y=>by
  rw[run_callFunc_extern func261 (by kernel_rfl) (by kernel_rfl) (by kernel_rfl) (e:=Extern.SlicesOverlaps.overlaps #[88,88] #[4]) (by kernel_rfl),
   Lib.run_overlaps_apart W 88 4 77 underlying88 1 (λ ha=>by kernel_rfl) ⟨p,0,none⟩ ⟨g,i+1,none⟩ 1 1 D y G F tB s kB K R h1 T J]
  rfl
 have C:(prog.info? 77).map (·.size)=some 1:=by kernel_rfl
 have M:∀j u,(az l)[j]?=some u->W.cell? (g,j)=some u:=λ j u a=>h.at' j u a
 have H:∀m:List UInt64,∀u∈az m,u.oneCell'=true:=λ m u r=>by
  unfold az at r;obtain⟨x,_,rfl⟩:=bL.1 r;rfl
 have Q:(az l).drop i=az (l.drop i):=by unfold az;rw[List.map_drop]
 have k:(az (l.drop i)).length=n-i:=by rw[dH,zd,A]
 have o:Row (W.drew.setCells g (i+1) (az (l.drop i))) g c (az (l.take (i+1)++l.drop i)):=(h.drewN 1).setCells (i+1) (az (l.drop i)) (by rw[k];omega) _ (by rw[dH,zl,zt,zd];omega)
  (λ j a=>by
   unfold az;rw[dL,dL,bZ (by rw[zt];omega),zt,show i+1+j-min (i+1) (Y l)=j from Z])
  (λ j a b=>by
   rw[dH,zl,zt,zd]at a;rw[k]at b;have h3:j<i+1:=Z
   refine⟨by rw[N];omega,?_⟩;unfold az;rw[dL,dL,bR (by rw[zt];omega),fT h3])
 have q:Only g W (W.drew.setCells g (i+1) (az (l.drop i))):=UK.Only.setCells _ _ (Only.refl g W).drew
 have B:∀e d E,(Builtin.copy_ #[88,88] e #[ad (g,i+1) (n-i) d,ad (g,i) (n+1-i) E]).run prog W.drew= .ok (goInt (az (l.drop i)).length) (W.drew.setCells g (i+1) (az (l.drop i))):=λ e d E=>
  run_copy_cells W.drew _ _ e 77 g (i+1) (n-i) d ⟨g,i,none⟩ (n+1-i) E (az (l.drop i)) underlying88 C (by rw[k];simp only[Nat.min_def];split<;>omega)
   (λ j u a=>by rw[UK.mY];exact M (i+j) u (by rw[<-Q,eP]at a;exact a))
   (λ j a=>(h.there _ (by rw[k]at a;omega)).1) (λ j a=>(h.there _ (by rw[k]at a;omega)).2) (H _)
 generalize h0:W.drew.setCells g (i+1) (az (l.drop i))=f at o q B;have S:=t.only q G
 have L:∀e d,(Builtin.copy_ #[88,88] e #[ad (g,i) (n+1-i) d,ad p 1 1]).run prog f= .ok (goInt [V a7 (v.toNat:Int)].length) (f.setCells g i [V a7 (v.toNat:Int)]):=λ e d=>
  run_copy_cells f _ _ e 77 g i (n+1-i) d ⟨p,0,none⟩ 1 1 [V a7 (v.toNat:Int)] underlying88 C (by simp only[Nat.min_def,gI];split<;>omega)
   (λ j u a=>by
    have z:j=0:=by
     by_cases hc:j<1
     ·omega
     rw[ja (by simp;omega)]at a;cases a
    subst z;rw[UK.mY,fB,S.cell 0 _ rfl];exact a)
   (λ j a=>(o.there _ (by simp at a;omega)).1) (λ j a=>(o.there _ (by simp at a;omega)).2) (λ u r=>by
    obtain rfl:=bu.1 r;rfl)
 have I:Row (f.setCells g i [V a7 (v.toNat:Int)]) g c (az (l.take i++v::l.drop i)):=o.setCells i [V a7 (v.toNat:Int)] (by simp;omega) _ (by rw[dH,zl,zt,dF,zd];omega)
  (λ j a=>by
   have z:j=0:=by simpa using a
   subst z;unfold az;rw[dL,bZ (by rw[zt];omega),zt,show i+0-min i (Y l)=0 from Z];rfl)
  (λ j a b=>by
   rw[dH,zl,zt,dF,zd]at a;simp only[gI]at b;refine⟨by rw[dH,zl,zt,zd];omega,?_⟩;unfold az;rw[dL,dL]
   congr 1
   rcases b with b|b
   ·rw[bR (by rw[zt];omega),bR (by rw[zt];omega),fT b,fT Z]
   rw[bZ (by rw[zt];omega),bZ (by rw[zt];omega),zt,zt,show j-min i (Y l)=(j-(i+1))+1 from Z,oH,show j-min (i+1) (Y l)=j-(i+1) from Z])
 have P:Only g W (f.setCells g i [V a7 (v.toNat:Int)]):=UK.Only.setCells _ _ q
 have fin:Jo W (f.setCells g i [V a7 (v.toNat:Int)]) g (l.take i++v::l.drop i) (aw (ad g (n+1) c)):=
  ⟨g,c,by rw[zl,zt,dF,zd,show min i (Y l)+(Y l-i+1)=n+1 from Z],I,P,O rfl⟩
 have HF:=zH fin;have hb:¬((i:Int)=(n:Int)):=Z
 have h8:i<=n:=Z
 have h9:(i:Int)<=(n:Int)+1:=Z
 have hh:IntKind.i64.wrap ((i:Int)+1)=(i:Int)+1:=by rw[dM];omega
 have h7:IntKind.i64.wrap ((n:Int)+1)=(n:Int)+1:=by rw[dM];omega
 have he:(0:Int)<=(i:Int)+1:=Z
 have hm:((i:Int)+1).toNat=i+1:=Z
 have h6:¬(c=i+1):=Z
 have hk:¬(c=i):=Z
 have hj:((n:Int)+1).toNat=n+1:=Z
 have hg:¬((c:Int)<(n:Int)+1):=Z
 rw[<-A]at hl hi kR ⊢;clear A h0 N;clear fin o I q P t S h M H Q k K R T J C;have X:=zH L;have H1:=zH B;clear B L
 go_enter func235,ntmps235
 go_wp2_with (simp only[h4])
 go_region_law (refine step_copy_runI rfl _ _ 88 88 rfl (ad (g,i+1) (n-i) (c-(i+1))) (ad (g,i) (n+1-i) (c-i)) (by simp[Act.eval,Act.put]) (by simp[Act.eval,Act.put]) (H1.out 3 (c-(i+1)) (c-i)) ?_)
 have Ag:=X.out 3 (c-i);go_wp2;go_ret;exact HF.out
theorem D2{g:Nat}(h:Row W g c (az l))(hl:Y l<=1000)(hi:i<Y l)(kR:c<Y l+1)(v:UInt64)(B:ay W p #[V a7 (v.toNat:Int)]) :
  Calls prog 235 #[ad g (Y l) c,V U i,ad p 1 1] W λ e w'=>Jo W w' g (l.take i++v::l.drop i) e:=by
 have O:=dH l;obtain⟨n,E⟩:∃n,n=Y l:=⟨_,rfl⟩;have N:=h.le;rw[O]at N;have G:(prog.info? 77).map (·.size)=some 1:=by kernel_rfl
 have L:∀m:List UInt64,∀u∈az m,u.oneCell'=true:=λ m u A=>by
  unfold az at A;obtain⟨x,_,rfl⟩:=bL.1 A;rfl
 have R:(az l).drop i=az (l.drop i):=by unfold az;rw[List.map_drop]
 have X:(az l).take i=az (l.take i):=by unfold az;rw[List.map_take]
 have k:(az (l.drop i)).length=n-i:=by rw[dH,zd,E]
 have a:(az (l.take i)).length=i:=by rw[dH,zt];omega
 have C:=h.take i;rw[X]at C;obtain⟨d,f,H,y,b1⟩:=UK.cV (P:=prog) (t:=88) (tn:=3) (ty:=88) (k:=U) (kn:=U) (i:=t77) underlying88 underlying3 rfl rfl rfl (show(8:Nat)<=16 from Z) rfl C (n+1-i) Z (by rw[a];omega) (by rw[a];omega);rw[a,show i+(n+1-i)=n+1 from Z,show((n+1-i:Nat):Int)=(n:Int)+1-(i:Int) from Z]at H;have z:Below W W f:=b1;have Q:(az (l.take i)++List.replicate (n+1-i) (V a7 0)).length=n+1:=by rw[zl,a,iM];omega
 have h7:n+1<=d:=by have:=y.le;omega
 have T:=B.below z B.lt
 have F:∀r o,(Builtin.copy_ #[88,88] r #[ad (W.1.size,i) (n+1-i) o,ad p 1 1]).run prog f= .ok (goInt [V a7 (v.toNat:Int)].length) (f.setCells W i [V a7 (v.toNat:Int)]):=λ r o=>
  run_copy_cells f _ _ r 77 W.1.size i (n+1-i) o ⟨p,0,none⟩ 1 1 [V a7 (v.toNat:Int)] underlying88 G (by simp only[Nat.min_def,gI];split<;>omega)
   (λ j u b=>by
    have D:j=0:=by
     by_cases hc:j<1
     ·omega
     rw[ja (by simp;omega)]at b;cases b
    subst D;rw[UK.mY,fB,T.cell 0 _ rfl];exact b)
   (λ j b=>(y.there _ (by simp at b;omega)).1) (λ j b=>(y.there _ (by simp at b;omega)).2) (λ u A=>by
    obtain rfl:=bu.1 A;rfl)
 have w:Row (f.setCells W i [V a7 (v.toNat:Int)]) W d (az (l.take i)++V a7 (v.toNat:Int)::List.replicate (n-i) (V a7 0)):=y.setCells i [V a7 (v.toNat:Int)] (by simp;omega) _ (by rw[zl,a,dF,iM];omega)
  (λ j b=>by
   have D:j=0:=by simpa using b
   subst D;rw[bZ (by rw[a];omega),a,show i+0-i=0 from Z];rfl)
  (λ j b s=>by
   rw[zl,a,dF,iM]at b;simp only[gI]at s;refine⟨by rw[Q];omega,?_⟩;rcases s with s|s
   ·rw[bR (by rw[a];omega),bR (by rw[a];omega)]
   rw[bZ (by rw[a];omega),bZ (by rw[a];omega),a,show j-i=(j-(i+1))+1 from Z,oH,show n+1-i=(n-i)+1 from Z,List.replicate_succ,oH])
 have t:Below W W (f.setCells W i [V a7 (v.toNat:Int)]):=z.trans ((UK.Only.setCells _ _ (Only.refl W f)).below z.size (aH _));generalize h0:f.setCells W i [V a7 (v.toNat:Int)]=q at w t F;have K:=h.below t h.lt
 have M:∀r o I,(Builtin.copy_ #[88,88] r #[ad (W.1.size,i+1) (n-i) o,ad (g,i) (n-i) I]).run prog q.drew= .ok (goInt (az (l.drop i)).length) (q.drew.setCells W (i+1) (az (l.drop i))):=λ r o I=>
  run_copy_cells q.drew _ _ r 77 W.1.size (i+1) (n-i) o ⟨g,i,none⟩ (n-i) I (az (l.drop i)) underlying88 G (by rw[k];simp only[Nat.min_def];split<;>omega)
   (λ j u b=>by rw[UK.mY];exact K.at' (i+j) u (by rw[<-R,eP]at b;exact b))
   (λ j b=>(w.there _ (by rw[k]at b;omega)).1) (λ j b=>(w.there _ (by rw[k]at b;omega)).2) (L _)
 have S:az (l.take i++v::l.drop i)=az (l.take i)++V a7 (v.toNat:Int)::az (l.drop i):=by unfold az;rw[dI,jr]
 have P:Row (q.drew.setCells W (i+1) (az (l.drop i))) W d (az (l.take i++v::l.drop i)):=by
  rw[S];refine(w.drewN 1).setCells (i+1) (az (l.drop i)) (by rw[k];omega) _ (by rw[zl,a,dF,k];omega) (λ j b=>?_) (λ j b s=>?_)
  ·rw[bZ (by rw[a];omega),a,show i+1+j-i=j+1 from Z,oH]
  rw[zl,a,dF,k]at b;rw[k]at s;have h9:j<i+1:=Z
  refine⟨by rw[zl,a,dF,iM];omega,?_⟩;by_cases e:j=i
  ·subst e;rw[bZ (by rw[a];omega),bZ (by rw[a];omega),a,l7];rfl
  rw[bR (by rw[a];omega),bR (by rw[a];omega)]
 have J:Below W W (q.drew.setCells W (i+1) (az (l.drop i))):=t.trans ((UK.Only.setCells _ _ (Only.refl W q).drew).below t.size (aH _))
 have fin:Jo W (q.drew.setCells W (i+1) (az (l.drop i))) g (l.take i++v::l.drop i) (aw (ad W (n+1) d)):=
  ⟨W.1.size,d,by rw[zl,zt,dF,zd,show min i (Y l)+(Y l-i+1)=n+1 from Z],P,Only.of_below J,al (aH _)⟩
 have HF:=zH fin;have E1:=zH H;have H1:=zH F;have H2:=zH M;have h5:¬((i:Int)=(n:Int)):=Z
 have h4:i<=n:=Z
 have h3:(i:Int)<=(n:Int)+1:=Z
 have ha:IntKind.i64.wrap ((i:Int)+1)=(i:Int)+1:=by rw[dM];omega
 have h2:IntKind.i64.wrap ((n:Int)+1)=(n:Int)+1:=by rw[dM];omega
 have hb:IntKind.i64.wrap ((n:Int)+1-(i:Int))=(n:Int)+1-(i:Int):=by rw[dM];omega
 have h6:(0:Int)<=(i:Int)+1:=Z
 have hj:((i:Int)+1).toNat=i+1:=Z
 have h1:¬(d=i+1):=Z
 have hh:¬(c=i):=Z
 have he:¬(d=i):=Z
 have h8:(c:Int)<(n:Int)+1:=Z
 have hg:(i:Int)<=(c:Int):=Z
 rw[<-E]at hl hi kR N ⊢;clear fin C y w P b1 t J z B T h K L R X k a G H F M E O S Q h0
 go_enter func235,ntmps235
 have Ag:=H1.out 3 (d-i)
 go_wp2_with (at_builtin;refine UK.jm E1.out rfl rfl rfl rfl rfl ?_)
 go_region_law (refine step_copy_runI rfl _ _ 88 88 rfl (ad (W.1.size,i+1) (n-i) (d-(i+1))) (ad (g,i) (n-i) (c-i)) (by simp[Act.eval,Act.put]) (by simp[Act.eval,Act.put]) (H2.out 3 (d-(i+1)) (c-i)) ?_)
 go_wp2;go_ret
 exact HF.out
theorem VF(h:NR W C c (az l))(a:Y l<=1000)(m:i<=Y l)(v:UInt64)(b:ay W p #[V a7 (v.toNat:Int)])(j:¬aG C p) :
  Calls prog 235 #[ad C (Y l) c,V U i,ad p 1 1] W λ e d=>Jo W d C (l.take i++v::l.drop i) e:=by
 by_cases e:i=Y l
 ·subst e;rw[dY,List.drop_length];exact ub h a v b
 rcases h with⟨_,f,_⟩|⟨g,rfl,r⟩
 ·have:=congrArg List.length f;rw[dH]at this;have:Y l=0:=this;omega
 by_cases k:Y l+1<=c
 ·exact D1 r a Z k v b (λ e=>j (by rw[e];rfl))
 exact D2 r a Z Z v b
open Go.RowKit Go.BigFrame
open UK (str aF nth Only Row ay)
namespace UK
theorem PV(w:World)(e x u elem:TypeId)(q b o dLen dCap:Nat)(a:Addr)(sLen sCap:Nat)(c:List Value)(s:P.underlying e=some (.slice elem))(h:(P.info? elem).map (·.size)=some q)(f:Y c=Nat.min sLen dLen*q)(r:∀j v,c[j]?=some v->w.cell? (a.add j)=some v)(k:∀j,j<Y c->(w.cell? ⟨b,o+j,none⟩).isSome=true)(hf:∀j,j<Y c->w.frozen? ⟨b,o+j,none⟩=false)(n:∀v∈c,v.oneCell'=true) :
  (Builtin.copy_ #[e,x] u #[ad (b,o) dLen dCap,ad (some a) sLen sCap]).run P w= .ok (goInt (Nat.min sLen dLen)) (w.setCells b o c):=by
 have g:=run_firstCells_some (P:=P) w q (Nat.min sLen dLen) a sLen sCap c f r;have t:=run_storeCells_cells (P:=P) b o c 0 w (by simpa using k) (by simpa using hf) n
 cases d:P.info? elem with
 | none=>simp[d]at h
 | some i=>
  have l:i.size=q:=by simpa[d]using h
  generalize p:Nat.min sLen dLen=m at g f ⊢;simp[Builtin.copy_,run_underlying s,Builtin.lenOf,sizeOf,typeInfo,d,l,p,g,t]
theorem Ce(z:Array Value)(n:Nat):(Builtin.zeroCells z n).size=n*z.size:=by simp[Builtin.zeroCells]
theorem Yp(z:Array Value):Builtin.zeroCells z 1=z:=by
 apply Array.ext
 ·simp[Builtin.zeroCells]
 intro i b a;simp[Builtin.zeroCells,yT a,a]
theorem pf(z:Array Value)(n m:Nat):Builtin.zeroCells z (n+m)=Builtin.zeroCells z n++Builtin.zeroCells z m:=by
 apply Array.ext
 ·rw[Array.size_append,Ce,Ce,Ce,Nat.add_mul]
 intro i b c;rw[Array.getElem_append]
 split
 ·simp[Builtin.zeroCells]
 rename_i a
 rw[Ce]at a;simp only[Builtin.zeroCells,Array.getElem_map,Array.getElem_range,Array.size_map,Array.size_range]
 congr 1
 rw[show i=(i-n*z.size)+n*z.size from Z,Nat.add_mul_mod_self_right,Nat.add_sub_cancel]
theorem IF(w:World)(t e i:TypeId)(z:Value)(d:P.underlying t=some (.slice e))(h:∀w,(zeroValue e).run P w= .ok z w)(g:∀v∈z.cells.toList,v.oneCell'=true)(b o c:Nat)(f:∀j,j<z.cells.size->(w.cell? ⟨b,o+j,none⟩).isSome=true)(hf:∀j,j<z.cells.size->w.frozen? ⟨b,o+j,none⟩=false) :
  (Builtin.clear_ #[t] i #[ad (b,o) 1 c]).run P w= .ok (a9 #[]) (w.setCells b o z.cells.toList):=by
 have a:=run_storeCells_cells (P:=P) b o z.cells.toList 0 w (by simpa using f) (by simpa using hf) g;simp only[kg]at a;simp[Builtin.clear_,run_underlying d,h,Yp,a]
theorem vT{t tn ty e:TypeId}{i:TypeInfo}(B:P.underlying t=some (.slice e))(M:P.underlying tn=some (.int kn))(C:P.info? e=some i)(A:i.zero=some z)(r:i.size=q)(y:0<q)(k:i.bytes<=64)(a:z.cells.size=q){g:Nat}(h:Row W g (q*c) vs)(b:Y vs=q*m)(n:Nat)(J:0<n)(Q:c<m+n)(x:m+n<=1000000000) :
  ∃f W',(Builtin.append_ #[t,tn] ty #[ad g m c,V U n]).run P W= .ok (ad W (m+n) f) W'/\Row W' W (q*f) (vs++(Builtin.zeroCells z.cells n).toList)/\m+n<=f/\Below W W W':=by
 have S:n≠0:=Z
 have L:IntKind.i64.wrap (n:Int)=n:=by rw[dM];omega
 have D:¬(9223372036854775807<((m:Int)+(n:Int))):=Z
 have R:n*i.bytes<=n*64:=Nat.mul_le_mul_left n k
 have K:¬(281474976710656<(n:Int)*(i.bytes:Int)):=by
  rw[<-Int.natCast_mul];omega
 have F:¬((n:Int)<0):=Z
 have hf:¬(m+n<=c):=Z
 have u:¬(281474976710656<Builtin.nextslicecap (m+n) c*i.bytes):=by
  have G:(m+n)*i.bytes<=140737488355328:=aT (Nat.mul_le_mul x k) (by decide);have:=growslice_fits (show c<m+n from Z) G;omega
 have H:(Builtin.firstCells q m (ad g m c)).run P W.drew= .ok vs.toArray W.drew:=
  run_firstCells_some W.drew q m ⟨g,0,none⟩ m c vs (by rw[b,Nat.mul_comm]) (λ j v o=>by
   have p:j<Y vs:=(dz.1 o).1;rw[mY,fB];exact(h.holds j p).trans o)
 have O:=grownCap_ge W (m+n) c e
 have N:¬(n*q=0):=by
  have:=Nat.mul_pos J y;omega
 obtain⟨d,hd⟩:∃d,grownCap W (m+n) c e=m+n+d:=⟨grownCap W (m+n) c e-(m+n),Z⟩;have s:=ay.new W.drew (vs.toArray++Builtin.zeroCells z.cells n++Builtin.zeroCells z.cells d) e;refine⟨m+n+d,W.drew.alloc (.cells (vs.toArray++Builtin.zeroCells z.cells n++Builtin.zeroCells z.cells d) e),?_,?_,Nat.le_add_right _ _,(aU W W).drew.alloc (aH _) _⟩
 ·have w:grownCap W (m+n) c e-(m+n)=d:=Z
  rw[<-hd];rw[<-w];unfold grownCap at *;have T:¬q=0:=Z
  simp[Builtin.append_,run_underlying B,run_underlying M,sizeOf,typeInfo,zeroValue,C,A,r,asInt,asIntOf,L,N,F,K,hf,D,u,Question.forced,H,newRow]
 have l:=s.row
 have E:(vs.toArray++Builtin.zeroCells z.cells n++Builtin.zeroCells z.cells d).size=q*(m+n+d):=by
  rw[Array.size_append,Array.size_append,List.size_toArray,Ce,Ce,a,b,Nat.mul_add,Nat.mul_add,Nat.mul_comm n q,Nat.mul_comm d q]
 rw[E]at l;have:=l.take (q*(m+n))
 have I:(vs.toArray++Builtin.zeroCells z.cells n++Builtin.zeroCells z.cells d).toList.take (q*(m+n))=vs++(Builtin.zeroCells z.cells n).toList:=by
  rw[Array.toList_append,qN]
  ·rw[Array.toList_append,fQ];show(vs++(Builtin.zeroCells z.cells n).toList).length<=_;rw[zl,show(Builtin.zeroCells z.cells n).toList.length=n*q by rw[Array.length_toList,Ce,a],b,Nat.mul_add,Nat.mul_comm n q];omega
  rw[Array.length_toList,Array.size_append,Ce,a,Nat.mul_add,Nat.mul_comm n q];show _<=Y vs+_;omega
 rw[I]at this;exact this
end UK
open Go.RowKit
open UK (Only)
namespace So
def swp(f:Nat->UInt64)(i j:Nat):Nat->UInt64:=λ k=>if k=i then f j else if k=j then f i else f k
theorem zq(f:Nat->UInt64)(i j:Nat):swp f i j i=f j:=by simp[swp]
theorem IR(f:Nat->UInt64)(i j:Nat):swp f i j j=f i:=by unfold swp;by_cases h:j=i<;>simp[h]
theorem nD(a:k≠i)(b:k≠j):swp f i j k=f k:=by simp[swp,a,b]
inductive Sh(a b:Nat)(f:Nat->UInt64):(Nat->UInt64)->Prop
 | refl:Sh a b f f
 | swap {g:Nat->UInt64} {i j:Nat} (h:Sh a b f g) (hi:a<=i/\i<b) (hj:a<=j/\j<b):Sh a b f (swp g i j)
theorem Sh.trans(c:Sh a b f g)(d:Sh a b g h):Sh a b f h:=by
 induction d with
 | refl=>exact c
 | swap _ hi hj e=>exact e.swap hi hj
theorem Sh.wide(e:Sh a b f g)(i:c<=a)(hd:b<=d):Sh c d f g:=by
 induction e with
 | refl=>exact .refl
 | swap _ hi hj h=>exact h.swap ⟨Z,Z⟩ ⟨Z,Z⟩
theorem Sh.out(c:Sh a b f g)(e:k<a\/b<=k):g k=f k:=by
 induction c with
 | refl=>rfl
 | swap _ hi hj d=>rw[nD Z Z];exact d
theorem Sh.all(c:Sh a b f g){P:UInt64->Prop}(e:∀k,a<=k->k<b->P (f k)):∀k,a<=k->k<b->P (g k):=by
 induction c with
 | refl=>exact e
 | @swap g i j _ hi hj d=>
  intro k c h;unfold swp
  split
  ·exact d j hj.1 hj.2
  split
  ·exact d i hi.1 hi.2
  exact d k c h
theorem Sh.Bw(d:Sh a b f g){P:UInt64->Prop}(c:∀k,a<=k->k<b->P (g k)):∀k,a<=k->k<b->P (f k):=by
 induction d with
 | refl=>exact c
 | @swap g i j _ hi hj m=>
  refine m (λ k d l=>?_);by_cases e:k=i
  ·subst e;have:=c j hj.1 hj.2;rw[IR]at this;exact this
  by_cases h:k=j
  ·subst h;have:=c i hi.1 hi.2;rw[zq]at this;exact this
  have:=c k d l;rw[nD e h]at this;exact this
def lZ(a b:Nat)(f:Nat->UInt64):Prop:=∀i j,a<=i->i<j->j<b->(f i).toNat<=(f j).toNat
structure Ins(a i j:Nat)(f:Nat->UInt64):Prop where
 rest:∀x y,a<=x->x<y->y<=i->x≠j->y≠j->(f x).toNat<=(f y).toNat
 over:∀y,j<y->y<=i->(f j).toNat<=(f y).toNat
theorem Ins.start(h:lZ a i f):Ins a i i f:=⟨λ x y b c g d e=>h x y b c Z,λ y b c=>Z⟩
theorem Ins.step(h:Ins a i (j+1) f)(m:a<=j)(o:j+1<=i)(p:(f (j+1)).toNat<(f j).toNat):Ins a i j (swp f (j+1) j):=by
 refine⟨λ x y c d l k n=>?_,λ y c d=>?_⟩
 ·by_cases b:x=j+1
  ·subst b;rw[zq,nD Z Z];exact h.rest j y m Z l Z Z
  by_cases g:y=j+1
  ·subst g;rw[zq,nD b k];exact h.rest x j c Z Z b Z
  rw[nD b k,nD g n];exact h.rest x y c d l b g
 rw[IR];by_cases e:y=j+1
 ·subst e;rw[zq];omega
 rw[nD e Z];exact h.over y Z d
theorem Ins.done(h:Ins a i j f)(o:a<=j)(m:j<=i)(c:j=a\/∃k,j=k+1/\¬(f j).toNat<(f k).toNat):lZ a (i+1) f:=by
 intro x y d e p;by_cases b:x=j
 ·subst b;exact h.over y e Z
 by_cases g:y=j
 ·subst g;rcases c with c|⟨k,n,c⟩
  ·omega
  by_cases l:x=k
  ·subst l;omega
  have:=h.rest x k d Z Z b Z;omega
 exact h.rest x y d e Z b g
structure dK(W:World)(g n:Nat)(f:Nat->UInt64):Prop where
 lt:g<W.1.size
 cell:∀j,j<n->W.cell? ⟨g,j,none⟩=some (V a7 ((f j).toNat:Int))
 free:∀j,j<n->W.frozen? ⟨g,j,none⟩=false
theorem dK.ae{g:Nat}(h:dK W g n f)(c:W.1.size<=W'.1.size)(b:W'.1[g]?=W.1[g]?):dK W' g n f:=
 ⟨cB h.lt c,λ j a=>(eB (a:=⟨g,j,none⟩) b).trans (h.cell j a),λ j a=>(World.frozen?_of_block (a:=⟨g,j,none⟩) b).trans (h.free j a)⟩
theorem dK.drewN{g:Nat}(h:dK W g n f)(m:Nat):dK (W.drewN m) g n f:=h.ae (aH _) rfl
theorem dK.set{g:Nat}(h:dK W g n f)(b:i<n)(v:UInt64):dK (W.setCell (g,i) (V a7 (v.toNat:Int))) g n (λ k=>if k=i then v else f k):=by
 refine⟨by simpa[World.setCell]using h.lt,λ j a=>?_,λ j a=>?_⟩
 ·by_cases e:j=i
  ·subst e;simp only[be];exact World.cell?_setCell_same _ _ _ (h.cell j a)
  simp only[aE e];rw[World.cell?_setCell_other _ _ _ _ (λ h=>e (by injection h;omega))];exact h.cell j a
 rw[World.frozen?_setCell];exact h.free j a
theorem dK.swap{W:World}{g n:Nat}{f:Nat->UInt64}(h:dK W g n f){i j:Nat}(c:i<n)(e:j<n) :
  dK ((W.setCell (g,i) (V a7 ((f j).toNat:Int))).setCell (g,j) (V a7 ((f i).toNat:Int))) g n (swp f i j):=by
 have:=(h.set c (f j)).set e (f i);refine⟨this.lt,λ k d=>?_,this.free⟩;rw[this.cell k d];unfold swp;by_cases b:k=j
 ·by_cases a:k=i
  ·simp[b,<-a]
  simp[b,show ¬j=i from Z]
 by_cases a:k=i
 ·simp[a,show ¬i=j from Z]
 simp[b,a]
theorem xx(a b:UInt64)(w:World) :
  Calls prog 190 #[V a7 a.toNat,V a7 b.toNat] w λ e c=>e=aw (a6 (decide (a.toNat<b.toNat)))/\c=w:=by
 go_enter func190,ntmps190
 go_wp2;go_ret
 exact⟨rfl,rfl⟩
theorem dK.two(h:dK W B n f)(b:i<n)(a:j<n) :
  W.cell? (B,i)=some (V a7 ((f i).toNat:Int))/\W.cell? (B,j)=some (V a7 ((f j).toNat:Int))/\W.frozen? ⟨B,i,none⟩=false/\W.frozen? ⟨B,j,none⟩=false /\
  W.drew.cell? (B,i)=some (V a7 ((f i).toNat:Int))/\W.drew.cell? (B,j)=some (V a7 ((f j).toNat:Int))/\W.drew.frozen? ⟨B,i,none⟩=false/\W.drew.frozen? ⟨B,j,none⟩=false /\
  (W.setCell (B,i) (V a7 ((f j).toNat:Int))).cell? (B,j)=some (V a7 ((f j).toNat:Int))/\(W.setCell (B,i) (V a7 ((f j).toNat:Int))).drew.cell? (B,j)=some (V a7 ((f j).toNat:Int)):=by
 have c:(W.setCell (B,i) (V a7 ((f j).toNat:Int))).cell? (B,j)=some (V a7 ((f j).toNat:Int)):=by
  rw[(h.set b (f j)).cell j a]
  split<;>rfl
 exact⟨h.cell i b,h.cell j a,h.free i b,h.free j a,h.cell i b,h.cell j a,h.free i b,h.free j a,c,c⟩
theorem dK.swapped(h:dK W B n f)(c:Only B G W)(b:i<n)(a:j<n) :
  dK ((W.setCell (B,i) (V a7 ((f j).toNat:Int))).setCell (B,j) (V a7 ((f i).toNat:Int))).drew B n (swp f i j)/\Only B G ((W.setCell (B,i) (V a7 ((f j).toNat:Int))).setCell (B,j) (V a7 ((f i).toNat:Int))).drew:=
 ⟨(h.swap b a).drewN 1,((c.set i _).set j _).drewN 1⟩
theorem dK.at_(h:dK W B n f)(b:Only B G W)(nq:Nat):∃a,a=W.drewN nq/\dK a B n f/\Only B G a:=⟨_,rfl,h.drewN nq,b.drewN nq⟩
theorem vl(h:dK W B n f)(Y:a<=b)(Q:b<=n)(hn:n<=1000000) :
  Calls prog 184 #[ad B n cap,V U a,V U b] W λ M C=>M=aw (a9 #[])/\∃e,Sh a b f e/\lZ a b e/\dK C B n e/\Only B W C:=by
 go_enter func184,ntmps184
 go_wp2_with fail
 go_loopw [6] (λ q wr=>∃(i:Nat) (e:Nat->UInt64),q=V U i/\a+1<=i/\(i<=b\/i=a+1)/\Sh a b f e/\lZ a i e/\dK wr B n e/\Only B W wr) (λ q _=>1000002-(intOf q).toNat)
 case atStart=>exact⟨a+1,f,by go_num,aH _,al rfl,.refl,λ x y v w J=>Z,h,Only.refl _ _⟩
 obtain⟨i,D,rfl,S,h0,o,l,c,g⟩:=hrel;clear h;by_cases h1:i<b
 ·have I:(i:Int)<b:=Z
  go_wp2_with fail
  go_loopw [7] (λ q E=>∃(j:Nat) (p:Nat->UInt64),q=V U j/\a<=j/\j<=i/\Sh a b f p/\Ins a i j p/\dK E B n p/\Only B W E) (λ q _=>(intOf q).toNat)
  case atStart=>exact⟨i,D,rfl,Z,aH _,o,Ins.start l,c,g⟩
  clear c g o l;obtain⟨j,p,rfl,H,u,o,l,c,g⟩:=hrel;by_cases L:j=a
  ·subst L;have d:=bp o (l.done (aH _) u (O rfl)) c g;clear o l c g
   go_wp2_with fail
   go_quiet (fail)
   go_wp2;go_roundw
   case rel=>exact⟨i+1,p,by go_num,Z,O Z,d.out.1,d.out.2.1,d.out.2.2.1.drewN _,d.out.2.2.2.drewN _⟩
   case measure=>simp[intOf];omega
  obtain⟨k,rfl⟩:∃k,j=k+1:=⟨j-1,Z⟩;have G:=λ m=>(c.drewN m).cell (k+1) Z;have K:=λ m=>(c.drewN m).cell k Z;have N:(a:Int)<(k:Int)+1:=Z
  have e1:wrap64 ((k:Int)+1-1)=(k:Int):=by unfold wrap64;omega
  have e2:((k:Int)+1<n):=Z
  have R:((k:Int)<n):=Z
  have r:=λ m=>xx (p (k+1)) (p k) (wr.drewN m);have d:=bp o l c g;clear o l c g;by_cases s:(p (k+1)).toNat<(p k).toNat
  ·rw[decide_eq_true s]at r
   go_wp2_with fail
   go_quiet (first|(go_at_call 190;refine Calls.quiet_of_same (r _)))
   obtain⟨o,l,c,g⟩:=d.out;obtain⟨P,A,t,F⟩:=c.at_ g nq;rw[<-A];obtain⟨G,K,d1,X,T,c4,d3,d4,c5,c6⟩:=t.two (i:=k+1) (j:=k) Z Z;have z:=zH (t.swapped F (i:=k+1) (j:=k) Z Z);clear A t F c g r o l
   go_wp2_with fail
   go_region
   go_wp2;go_roundw
   case rel=>exact⟨k,_,by go_num,Z,Z,d.out.1.swap (i:=k+1) (j:=k) ⟨Z,Z⟩ ⟨Z,Z⟩,d.out.2.1.step Z u s,z.out.1,z.out.2⟩
   case measure=>simp[intOf]
  rw[decide_eq_false s]at r
  go_wp2_with fail
  go_quiet (first|(go_at_call 190;refine Calls.quiet_of_same (r _)))
  go_wp2;go_roundw
  case rel=>exact⟨i+1,p,by go_num,Z,O Z,d.out.1,d.out.2.1.done H u (al ⟨k,rfl,s⟩),d.out.2.2.1.drewN _,d.out.2.2.2.drewN _⟩
  case measure=>simp[intOf];omega
 have I:¬(i:Int)<b:=Z
 go_wp2
 go_end0
 exact⟨rfl,D,o,λ x y v w J=>l x y v w Z,c,g⟩
end So
open Go.RowKit
open UK (Only)
open Go.BigFrame
namespace So
def Hp(o b a:Nat)(f:Nat->UInt64):Prop:=∀k c,b<=k->(c=2*k+1\/c=2*k+2)->c<a->(f (o+c)).toNat<=(f (o+k)).toNat
structure Ez(o lo hi r:Nat)(f:Nat->UInt64):Prop where
 rest:∀k c,lo<=k->k≠r->(c=2*k+1\/c=2*k+2)->c<hi->(f (o+c)).toNat<=(f (o+k)).toNat
 Oh:∀k c,lo<=k->(r=2*k+1\/r=2*k+2)->(c=2*r+1\/c=2*r+2)->c<hi->(f (o+c)).toNat<=(f (o+k)).toNat
variable{o lo hi r:Nat}
theorem Ez.start(h:Hp o (lo+1) hi f):Ez o lo hi lo f:=⟨λ k c a b e d=>h k c Z e d,λ k c a b _ _=>Z⟩
theorem Ez.done(h:Ez o lo hi r f)(d:∀c,(c=2*r+1\/c=2*r+2)->c<hi->(f (o+c)).toNat<=(f (o+r)).toNat):Hp o lo hi f:=λ k c g a b=>by
 by_cases e:k=r
 ·subst e;exact d c a b
 exact h.rest k c g e a b
theorem Ez.step(h:Ez o lo hi r f)(p:lo<=r)(j:c=2*r+1\/c=2*r+2)(l:c<hi)(q:(f (o+r)).toNat<(f (o+c)).toNat)(m:∀d,(d=2*r+1\/d=2*r+2)->d<hi->(f (o+d)).toNat<=(f (o+c)).toNat):Ez o lo hi c (swp f (o+r) (o+c)):=by
 refine⟨λ k x g n a b=>?_,λ k x g n a b=>?_⟩
 ·by_cases e:k=r
  ·subst e;rw[zq];by_cases i:x=c
   ·subst i;rw[IR];omega
   rw[nD Z Z];exact m x a b
  rw[nD (f:=f) (k:=o+k) Z Z];by_cases i:x=r
  ·subst i;rw[zq];exact h.Oh k c g a j l
  rw[nD Z Z];exact h.rest k x g e a b
 have e:k=r:=Z
 subst e;rw[zq,nD Z Z];exact h.rest c x Z Z a b
theorem Hp.top(h:Hp o 0 hi f):∀k,k<hi->(f (o+k)).toNat<=(f o).toNat:=by
 intro k
 induction k using Nat.strongRecOn with
 | ind k b=>
  intro a;by_cases e:k=0
  ·subst e;exact aH _
  have c:=h ((k-1)/2) k (aR _) Z a;have d:=b ((k-1)/2) Z Z;omega
theorem fS(h:dK W B n f)(hn:n<=1000000)(hh:o+hi<=n)(h0:lo<=hi)(X:Hp o (lo+1) hi f) :
  Calls prog 239 #[ad B n cap,V U lo,V U hi,V U o] W λ D R=>D=aw (a9 #[])/\∃e,Sh o (o+hi) f e/\Hp o lo hi e/\dK R B n e/\Only B W R:=by
 go_enter func239,ntmps239
 go_wp2_with fail
 go_loopw [8] (λ H wr=>∃(r:Nat) (e:Nat->UInt64),H=V U r/\lo<=r/\r<=hi/\Sh o (o+hi) f e/\Ez o lo hi r e/\dK wr B n e/\Only B W wr) (λ H _=>1000002-(intOf H).toNat)
 case atStart=>exact⟨lo,f,rfl,aH _,h0,.refl,Ez.start X,h,Only.refl _ _⟩
 obtain⟨r,b,rfl,h2,h4,x,s,j,l⟩:=hrel;clear h X;have w2:wrap64 (2*(r:Int))=2*(r:Int):=by unfold wrap64;omega
 by_cases L:¬2*r+1<hi
 ·have Y:wrap64 (2*(r:Int)+1)=2*(r:Int)+1:=by unfold wrap64;omega
  have S:(hi:Int)<=2*(r:Int)+1:=Z
  go_wp2
  go_end0
  exact⟨rfl,b,x,s.done (λ c E q=>Z),j,l⟩
 replace L:=Decidable.of_not_not L;obtain⟨a,K⟩:∃a:Nat,a=2*r+1:=⟨_,rfl⟩;have Y:wrap64 (2*(r:Int)+1)=(a:Int):=by unfold wrap64;omega
 have w1':2*(r:Int)+1=(a:Int):=Z
 have h1:IntKind.i64.wrap (2*(r:Int)+1)=(a:Int):=by rw[dM];omega
 by_cases E:a<hi
 ·have S:¬(hi:Int)<=(a:Int):=Z
  have u:=bp x s j l;have d:=zH K;have i2:(o:Int)+a<n:=Z
  clear x s l K
  go_upto_region 3 with(fail)
  go_cut [36] (λ v J=>∃(t:Bool) (nq:Nat),v=a6 t/\Hid (t=true↔a+1<hi/\(b (o+a)).toNat<(b (o+a+1)).toNat)/\J=wr.drewN nq)
  case first=>
   by_cases q:a+1<hi
   ·have O:(a:Int)+1<hi:=Z
    have i4:(o:Int)+a+1<n:=Z
    have N:=λ m=>(j.drewN m).cell (o+a) Z;have c2:=λ m=>(j.drewN m).cell (o+a+1) Z;have k:=λ m=>xx (b (o+a)) (b (o+a+1)) (wr.drewN m);clear j;by_cases g:(b (o+a)).toNat<(b (o+a+1)).toNat
    ·rw[decide_eq_true g]at k
     go_wp2_with fail
     go_quiet (first|(go_at_call 190;refine Calls.quiet_of_same (k _)))
     go_wp2;go_meet
     case rel=>exact⟨true,nq,rfl,zH ⟨λ _=>⟨q,g⟩,λ _=>rfl⟩,rfl⟩
    rw[decide_eq_false g]at k
    go_wp2_with fail
    go_quiet (first|(go_at_call 190;refine Calls.quiet_of_same (k _)))
    go_wp2;go_meet
    case rel=>exact⟨false,nq,rfl,zH ⟨λ h=>(by cases h),λ h=>absurd h.2 g⟩,rfl⟩
   have O:decide ((a:Int)+1<hi)=false:=decide_eq_false Z;have i4:(hi:Int)<=(a:Int)+1:=Z
   go_wp2_with fail
   go_quiet (fail)
   go_wp2;go_meet
   case rel=>exact⟨false,nq,rfl,zH ⟨λ h=>(by cases h),λ h=>absurd h.1 q⟩,rfl⟩
  case rest=>
  obtain⟨t,nq,rfl,G,rfl⟩:=hcut
  go_upto_if 36 with(fail)
  go_cut [9] (λ v J=>∃c:Nat,v=V U c/\Hid ((c=2*r+1\/c=2*r+2)/\c<hi/\∀i,(i=2*r+1\/i=2*r+2)->i<hi->(b (o+i)).toNat<=(b (o+c)).toNat)/\J=wr.drewN nq)
  case first=>
   cases t with
   | true=>
    obtain⟨q,g⟩:=G.out.1 rfl
    go_wp2_with fail
    go_meet
    case rel=>exact⟨a+1,by go_num,zH ⟨al (by rw[d.out]),q,λ i I w=>by
      have:=d.out;by_cases D:i=a
      ·rw[D];exact Nat.le_of_lt g
      rw[show i=a+1 from Z];exact aH _⟩,rfl⟩
   | false=>
    go_wp2_with fail
    go_meet
    case rel=>exact⟨a,by go_num,zH ⟨by have:=d.out;omega,E,λ i I w=>by
      have:=d.out;by_cases D:i=a
      ·rw[D];exact aH _
      have e2:i=a+1:=Z
      rw[e2]at w ⊢;exact Nat.le_of_not_lt (λ g=>by have:=G.out.2 ⟨w,g⟩;cases this)⟩,rfl⟩
  obtain⟨c,rfl,T,M⟩:=hcut;obtain⟨x,s,j,l⟩:=u.out;obtain⟨z,y,C⟩:=T.out;have p:dK wc B n b:=M▸j.drewN _;have A:Only B W wc:=M▸l.drewN _;have N:=λ m=>(p.drewN m).cell (o+r) Z;have c2:=λ m=>(p.drewN m).cell (o+c) Z;have k:=λ m=>xx (b (o+r)) (b (o+c)) (wc.drewN m);have i2:(o:Int)+c<n:=Z
  have O:(o:Int)+r<n:=Z
  have h3:r<hi:=Z
  have F:=br p A z y C;clear x s j l T z y C M p A Y w1' h1 d E S G nq;by_cases g:(b (o+r)).toNat<(b (o+c)).toNat
  ·rw[decide_eq_true g]at k
   go_wp2_with fail
   go_quiet (first|(go_at_call 190;refine Calls.quiet_of_same (k _)))
   obtain⟨j,l,z,y,C⟩:=F.out;obtain⟨w2,Q,p,A⟩:=j.at_ l nq;rw[<-Q];obtain⟨N,c2,d1,d2,c3,c4,d3,d4,c5,c6⟩:=p.two (i:=o+r) (j:=o+c) Z Z;have P:=zH (p.swapped A (i:=o+r) (j:=o+c) Z Z);have d:=bm z y C;clear Q p A j l k z y C
   go_wp2_with fail
   go_region
   go_wp2;go_roundw
   case rel=>exact⟨c,_,by go_num,by have:=d.out.1;omega,by have:=d.out.2.1;omega,u.out.1.swap (i:=o+r) (j:=o+c) ⟨Z,Z⟩ ⟨Z,by have:=d.out.2.1;omega⟩,u.out.2.1.step h2 d.out.1 d.out.2.1 g d.out.2.2,P.out.1,P.out.2⟩
   case measure=>have:=d.out.1;have:=d.out.2.1;simp only[intOf];omega
  rw[decide_eq_false g]at k
  go_wp2_with fail
  go_quiet (first|(go_at_call 190;refine Calls.quiet_of_same (k _)))
  go_wp2;refine bodyPost_ret (results_none rfl _ _ _) rfl ?_
  exact⟨rfl,b,u.out.1,u.out.2.1.done (λ i I w=>by have:=F.out.2.2.2.2 i I w;omega),F.out.1.drewN _,F.out.2.1.drewN _⟩
 exact absurd (K▸L) E
theorem j0(s:m+1<=hi)(h:Hp a 0 (m+1) f)(b:∀i j,i<j->m+1<=j->j<hi->(f (a+i)).toNat<=(f (a+j)).toNat)(n:Sh a (a+m) (swp f a (a+m)) e) :
  ∀i j,i<j->m<=j->j<hi->(e (a+i)).toNat<=(e (a+j)).toNat:=by
 intro i j q t c;have o:e (a+j)=swp f a (a+m) (a+j):=n.out (al Z);have top:(e (a+j)).toNat≥(e (a+j)).toNat:=aH _
 have key:∀k,a<=k->k<a+m->(swp f a (a+m) k).toNat<=(e (a+j)).toNat:=by
  intro k u y;obtain⟨x,rfl⟩:∃x,k=a+x:=⟨k-a,Z⟩;rw[o];by_cases g:j=m
  ·subst g;rw[IR];by_cases l:x=0
   ·subst l;by_cases w:j=0
    ·omega
    have d:swp f a (a+j) (a+0)=f (a+j):=zq f a (a+j);rw[d];exact h.top j Z
   rw[nD Z Z];exact h.top x Z
  rw[nD (k:=a+j) Z Z];by_cases l:x=0
  ·subst l;have d:swp f a (a+m) (a+0)=f (a+m):=zq f a (a+m);rw[d];exact b m j Z Z c
  rw[nD Z Z];exact b x j Z Z c
 by_cases r:i<m
 ·exact n.all (P:=λ v=>v.toNat<=(e (a+j)).toNat) key (a+i) Z Z
 have p:e (a+i)=swp f a (a+m) (a+i):=n.out (al Z);rw[p,o];by_cases g:i=m
 ·subst g;rw[IR,nD (k:=a+j) Z Z];have:=b 0 j Z Z c;exact this
 rw[nD Z Z,nD (k:=a+j) Z Z];exact b i j q Z c
theorem Hp.pop(h:Hp a 0 (m+1) f):Hp a 1 m (swp f a (a+m)):=λ k c d b e=>by
 rw[nD (k:=a+c) Z Z,nD (k:=a+k) Z Z];exact h k c Z b Z
theorem lO(h:dK W B n f)(S:n<=1000000)(h2:a<=b)(hb:b<=n) :
  Calls prog 185 #[ad B n cap,V U a,V U b] W λ K N=>K=aw (a9 #[])/\∃e,Sh a b f e/\lZ a b e/\dK N B n e/\Only B W N:=by
 obtain⟨hi,L⟩:∃hi,b=a+hi:=⟨b-a,Z⟩;obtain⟨q,H⟩:∃q:Nat,q=if hi=0 then 1 else(hi-1)/2+1:=⟨_,rfl⟩
 have T:(b:Int)-(a:Int)=(hi:Int):=Z
 have e2:wrap64 ((b:Int)-(a:Int))=(hi:Int):=by rw[T];unfold wrap64;omega
 have e3:((hi:Int)-1).tdiv 2=(q:Int)-1:=by
  rw[H]
  split
  ·next X=>rw[X];rfl
  next X=>rw[nP Z];omega
 have h0:q<=hi+1:=by rw[H];split<;>omega
 have P:Hp a q hi f:=λ k c G M Q=>by
  rw[H]at G
  split at G<;>omega
 have D:=zH L;have e4:wrap64 ((hi:Int)-1)=(hi:Int)-1:=by unfold wrap64;omega
 have e5:wrap64 ((q:Int)-1)=(q:Int)-1:=by unfold wrap64;omega
 have h1:hi<=n:=Z
 clear H L
 go_enter func185,ntmps185
 go_wp2_with fail
 go_loopw [9] (λ s wr=>∃(m:Nat) (e:Nat->UInt64),s=V U ((m:Int)-1)/\m<=hi+1/\Sh a b f e/\Hp a m hi e/\dK wr B n e/\Only B W wr) (λ s _=>(intOf s+1).toNat)
 case atStart=>exact⟨q,f,rfl,h0,.refl,P,h,Only.refl _ _⟩
 clear h P T e2 e3 e5;obtain⟨m,f1,p,I,d,g,o,r⟩:=hrel
 cases m with
 | zero=>
  rw[show((0:Nat):Int)-1= -1 from rfl]at p;subst p
  go_wp2_with fail
  go_loopw [10] (λ s wr=>∃(m:Nat) (e:Nat->UInt64),s=V U ((m:Int)-1)/\m<=hi/\Sh a b f e/\Hp a 0 m e/\Hid (∀i j,i<j->m<=j->j<hi->(e (a+i)).toNat<=(e (a+j)).toNat)/\dK wr B n e/\Only B W wr) (λ s _=>(intOf s+1).toNat)
  case atStart=>exact⟨hi,f1,rfl,aH _,d,g,zH (λ i j G M Q=>Z),o,r⟩
  clear I d g o r;obtain⟨m,f2,p,I,d,g,t,o,r⟩:=hrel
  cases m with
  | zero=>
   rw[show((0:Nat):Int)-1= -1 from rfl]at p;subst p;go_wp2
   go_end0
   refine⟨rfl,f2,d,λ x y G M Q=>?_,o,r⟩;have u:=D.out;have:=t.out (x-a) (y-a) Z (aR _) Z;rw[show a+(x-a)=x from Z,show a+(y-a)=y from Z]at this;exact this
  | succ m=>
   rw[show(((m+1:Nat)):Int)-1=(m:Int) from Z]at p;subst p;have u:=D.out;obtain⟨Y,c2,d1,d2,c3,c4,d3,d4,c5,c6⟩:=o.two (i:=a) (j:=a+m) Z Z;have C:=o.swapped r (i:=a) (j:=a+m) Z Z;have i1:(a:Int)+m<n:=Z
   have i2:(a:Int)<n:=Z
   have v:=bp d g t.out C;clear d g t o r C u
   go_wp2_with fail
   go_region
   obtain⟨d,g,t,C,O⟩:=v.out;have F:=zH (fS (o:=a) (lo:=0) (hi:=m) (cap:=cap) C S Z (aR _) g.pop);have R:=zH O;clear d g t C O Y c2 d1 d2 c3 c4 d3 d4 c5 c6
   go_wp2_with fail
   refine F.out.mono ?_;rintro K w3 ⟨rfl,J,E,z,A,w⟩;have l:=bp E z A (R.out.trans w);clear E z A w F R;go_wp2;go_roundw
   case rel=>
    obtain⟨d,g,t,_⟩:=v.out;have u:=D.out;exact⟨m,J,by go_num,Z,(d.swap (i:=a) (j:=a+m) ⟨aH _,Z⟩ ⟨Z,Z⟩).trans (l.out.1.wide (aH _) Z),l.out.2.1,zH (j0 I g t l.out.1),l.out.2.2.1,l.out.2.2.2⟩
   case measure=>simp only[intOf];omega
 | succ m=>
  rw[show(((m+1:Nat)):Int)-1=(m:Int) from Z]at p;subst p;have u:=D.out;have F:=zH (fS (o:=a) (lo:=m) (hi:=hi) (cap:=cap) o S Z Z g);have v:=bg d r;clear d g o r u
  go_wp2_with fail
  refine F.out.mono ?_;rintro K w3 ⟨rfl,J,E,z,A,w⟩;have l:=bp E z A (v.out.2.trans w);clear E z A w F;go_wp2;go_roundw
  case rel=>
   have u:=D.out;exact⟨m,J,by go_num,Z,v.out.1.trans (l.out.1.wide (aH _) Z),l.out.2.1,l.out.2.2.1,l.out.2.2.2⟩
  case measure=>simp only[intOf];omega
end So
open Go.RowKit
open UK (Only)
open Go.BigFrame
namespace So
structure Part(up:UInt64->UInt64->Prop)(a b i j:Nat)(f:Nat->UInt64):Prop where
 ai:a<i
 ij:i<=j+1
 jb:j<b
 lo:∀k,a<k->k<i->up (f k) (f a)
 hi:∀k,j<k->k<b->¬up (f k) (f a)
theorem Part.start(h:a<b):Part up a b (a+1) (b-1) f:=⟨Z,Z,Z,λ k c d=>Z,λ k c d=>Z⟩
theorem Part.Vm(h:Part up a b i j f)(g:i<=j)(d:up (f i) (f a)):Part up a b (i+1) j f:=⟨by have:=h.ai;omega,Z,h.jb,λ k c l=>by
 by_cases e:k=i
 ·subst e;exact d
 exact h.lo k c Z,h.hi⟩
theorem Part.down(h:Part up a b i (j+1) f)(c:i<=j+1)(g:¬up (f (j+1)) (f a)):Part up a b i j f:=⟨h.ai,c,by have:=h.jb;omega,h.lo,λ k l d=>by
 by_cases e:k=j+1
 ·subst e;exact g
 exact h.hi k Z d⟩
theorem Part.cross(h:Part up a b i (j+1) f)(n:i<=j+1)(c:¬up (f i) (f a))(d:up (f (j+1)) (f a)):Part up a b (i+1) j (swp f i (j+1)):=by
 have o:i≠j+1:=λ e=>c (by rw[e];exact d);have p:=h.ai;have m:swp f i (j+1) a=f a:=nD Z Z;refine⟨Z,Z,by have:=h.jb;omega,λ k g l=>?_,λ k g l=>?_⟩
 ·rw[m];by_cases e:k=i
  ·subst e;rw[zq];exact d
  rw[nD e Z];exact h.lo k g Z
 rw[m];by_cases e:k=j+1
 ·subst e;rw[IR];exact c
 rw[nD Z e];exact h.hi k Z l
theorem Part.done(h:Part up a b i j f)(m:j<i):(∀k,a<=k->k<j->up (swp f j a k) (swp f j a j))/\(∀k,j<k->k<b->¬up (swp f j a k) (swp f j a j))/\a<=j:=by
 have n:=h.ai;have l:=h.ij;have d:swp f j a j=f a:=zq f j a;refine⟨λ k c g=>?_,λ k c g=>?_,Z⟩
 ·rw[d];by_cases e:k=a
  ·subst e;rw[IR];exact h.lo j Z Z
  rw[nD Z e];exact h.lo k Z Z
 rw[d,nD Z Z];exact h.hi k c g
def xy(x p:UInt64):Prop:=x.toNat<p.toNat
def Gg(x p:UInt64):Prop:=¬p.toNat<x.toNat
theorem lz{p:Nat}(h:dK W B n f)(hn:n<=1000000)(h5:a<=p)(h3:p<b)(hb:b<=n) :
  Calls prog 192 #[ad B n cap,V U a,V U b,V U p] W λ ha w'=>∃(m:Nat) (h8:Bool) (e:Nat->UInt64),ha=aw (a9 #[V U m,a6 h8])/\a<=m/\m<b/\Sh a b f e/\(∀k,a<=k->k<m->(e k).toNat<(e m).toNat)/\(∀k,m<k->k<b->(e m).toNat<=(e k).toNat)/\dK w' B n e/\Only B W w':=by
 obtain⟨j,hj⟩:∃j,j=b-1:=⟨_,rfl⟩;have e1:(b:Int)-1=(j:Int):=Z
 have e2:wrap64 ((b:Int)-1)=(j:Int):=by unfold wrap64;omega
 have l:(a:Int)<n:=Z
 have q:(p:Int)<n:=Z
 have c:=h;have g:=Only.refl B W;have s:=zH (show Part xy a b (a+1) j (swp f a p)from hj▸Part.start Z);have K:=zH (Sh.swap (a:=a) (b:=b) (f:=f) .refl (i:=a) (j:=p) ⟨aH _,Z⟩ ⟨h5,h3⟩);have h7:j<n:=Z
 have hc:a+1<=j+1:=Z
 clear h hj
 go_enter func192,ntmps192
 obtain⟨E,F,Q,M,L,N,P,X,R,T⟩:=c.two (i:=a) (j:=p) Z Z;have C:=zH (c.swapped g (i:=a) (j:=p) Z Z);clear c g
 go_wp2_with fail
 go_region
 obtain⟨c,g⟩:=C.out;clear C E F Q M L N P X R T;obtain⟨u,h4⟩:∃u,u=swp f a p:=⟨_,rfl⟩;rw[<-h4]at s K c;clear h4 q h5 h3
 go_upto_block 0 with(fail)
 go_cut [10] (λ v G=>∃l:Nat,v=V U l/\a+1<=l/\Hid (Part xy a b l j u/\(j<l\/¬xy (u l) (u a)))/\dK G B n u/\Only B W G)
 case first=>
  go_wp2_with fail
  go_loopw [10] (λ v wr=>∃l:Nat,v=V U l/\a+1<=l/\Part xy a b l j u/\dK wr B n u/\Only B W wr) (λ v _=>1000002-(intOf v).toNat)
  case atStart=>exact⟨a+1,by go_num,aH _,s.out,c,g⟩
  clear c g s;obtain⟨l,rfl,h0,r,c,g⟩:=hrel;have z:=r.ai;have D:=r.ij;have y:=r.jb;by_cases J:l<=j
  ·have H:(l:Int)<=j:=Z
   have I:(l:Int)<n:=Z
   have q4:(a:Int)<n:=Z
   have E:=λ m=>(c.drewN m).cell l Z;have F:=λ m=>(c.drewN m).cell a Z;have w:=λ m=>xx (u l) (u a) (wr.drewN m);have o:=bm r c g;clear r c g z D y;by_cases x:(u l).toNat<(u a).toNat
   ·rw[decide_eq_true x]at w
    go_wp2_with fail
    go_quiet (first|(go_at_call 190;refine Calls.quiet_of_same (w _)))
    go_wp2;go_roundw
    case rel=>exact⟨l+1,by go_num,Z,o.out.1.Vm J x,o.out.2.1.drewN _,o.out.2.2.drewN _⟩
    case measure=>simp only[intOf];omega
   rw[decide_eq_false x]at w
   go_wp2_with fail
   go_quiet (first|(go_at_call 190;refine Calls.quiet_of_same (w _)))
   go_wp2;go_meet
   case rel=>exact⟨l,by go_num,h0,zH ⟨o.out.1,al x⟩,o.out.2.1.drewN _,o.out.2.2.drewN _⟩
  have H:decide ((l:Int)<=(j:Int))=false:=decide_eq_false Z;have I:(j:Int)<(l:Int):=Z
  have o:=bm r c g;clear r c g z D y
  go_wp2_with fail
  go_quiet (fail)
  go_wp2;go_meet
  case rel=>exact⟨l,by go_num,h0,zH ⟨o.out.1,O Z⟩,o.out.2.1.drewN _,o.out.2.2.drewN _⟩
 case rest=>
 obtain⟨q,rfl,h0,A,c,g⟩:=hcut;have HI:=zH A.out.2;have s:=zH A.out.1;clear A
 go_upto_block 2 with(fail)
 go_cut [11] (λ v G=>∃d:Nat,v=V U d/\d<=j/\Hid (Part xy a b q d u/\(d<q\/xy (u d) (u a)))/\dK G B n u/\Only B W G)
 case first=>
  go_wp2_with fail
  go_loopw [11] (λ v wr=>∃d:Nat,v=V U d/\d<=j/\Part xy a b q d u/\dK wr B n u/\Only B W wr) (λ v _=>(intOf v).toNat)
  case atStart=>exact⟨j,by go_num,aH _,s.out,c,g⟩
  clear c g s;obtain⟨d,rfl,Y,r,c,g⟩:=hrel;have z:=r.ai;have D:=r.ij;have y:=r.jb;by_cases J:q<=d
  ·obtain⟨k,rfl⟩:∃k,d=k+1:=⟨d-1,Z⟩;have l:(q:Int)<=(k:Int)+1:=Z
   have q:(k:Int)+1<n:=Z
   have i4:(a:Int)<n:=Z
   have e1:wrap64 ((k:Int)+1-1)=(k:Int):=by unfold wrap64;omega
   have E:=λ m=>(c.drewN m).cell (k+1) Z;have F:=λ m=>(c.drewN m).cell a Z;have w:=λ m=>xx (u (k+1)) (u a) (wr.drewN m);have o:=bm r c g;clear r c g z D y;by_cases x:(u (k+1)).toNat<(u a).toNat
   ·rw[decide_eq_true x]at w
    go_wp2_with fail
    go_quiet (first|(go_at_call 190;refine Calls.quiet_of_same (w _)))
    go_wp2;go_meet
    case rel=>exact⟨k+1,by go_num,Y,zH ⟨o.out.1,al x⟩,o.out.2.1.drewN _,o.out.2.2.drewN _⟩
   rw[decide_eq_false x]at w
   go_wp2_with fail
   go_quiet (first|(go_at_call 190;refine Calls.quiet_of_same (w _)))
   go_wp2;go_roundw
   case rel=>exact⟨k,by go_num,Z,o.out.1.down Z x,o.out.2.1.drewN _,o.out.2.2.drewN _⟩
   case measure=>simp only[intOf];omega
  have H:decide ((q:Int)<=(d:Int))=false:=decide_eq_false Z;have I:(d:Int)<(q:Int):=Z
  have o:=bm r c g;clear r c g z D y
  go_wp2_with fail
  go_quiet (fail)
  go_wp2;go_meet
  case rel=>exact⟨d,by go_num,Y,zH ⟨o.out.1,O Z⟩,o.out.2.1.drewN _,o.out.2.2.drewN _⟩
 case rest=>
 obtain⟨d,rfl,Y,A,c,g⟩:=hcut;have HI2:=bg HI.out A.out.2;have s:=zH A.out.1;clear A HI;have z:=s.out.ai;have D:=s.out.ij;have y:=s.out.jb;by_cases J:d<q
 ·skip
  have H:(d:Int)<(q:Int):=Z
  have I:(d:Int)<n:=Z
  have q3:(a:Int)<n:=Z
  have S:=bg (s.out.done J) (K.out.swap (i:=d) (j:=a) ⟨Z,Z⟩ ⟨Z,Z⟩);clear s K HI2 z;obtain⟨E,F,Q,M,L,N,P,X,R,T⟩:=c.two (i:=d) (j:=a) Z Z;have C:=zH (c.swapped g (i:=d) (j:=a) Z Z);clear c g
  go_wp2_with fail
  go_region
  obtain⟨c,g⟩:=C.out;clear C E F Q M L N P X R T;go_wp2;go_ret2;exact⟨d,true,_,rfl,S.out.1.2.2,y,S.out.2,S.out.1.1,λ k h1 h2=>Nat.le_of_not_lt (S.out.1.2.1 k h1 h2),c,g⟩
 skip
 obtain⟨k,rfl⟩:∃k,d=k+1:=⟨d-1,Z⟩;have H:(q:Int)<=(k:Int)+1:=Z
 have q1':¬(k:Int)+1<(q:Int):=Z
 have I:(k:Int)+1<n:=Z
 have q3:(q:Int)<n:=Z
 have e1:wrap64 ((k:Int)+1-1)=(k:Int):=by unfold wrap64;omega
 have HC:=bg (s.out.cross Z (HI2.out.1.resolve_left Z) (HI2.out.2.resolve_left Z)) (K.out.swap (i:=q) (j:=k+1) ⟨Z,Z⟩ ⟨Z,Z⟩);clear s K HI2;obtain⟨E,F,Q,M,L,N,P,X,R,T⟩:=c.two (i:=q) (j:=k+1) Z Z;have C:=zH (c.swapped g (i:=q) (j:=k+1) Z Z);clear c g
 go_wp2_with fail
 go_region
 obtain⟨c,g⟩:=C.out;clear C E F Q M L N P X R T;have h9:k+1<=n:=Z
 have q5:(q:Int)+1<=1000001:=Z
 clear z D y J Y h0 H q1' I q3
 go_wp2_with fail
 go_loopw [10,11] (λ v h6 wr=>∃(i j:Nat) (t:Nat->UInt64),v=V U i/\h6=V U j/\Part xy a b i j t/\Sh a b f t/\dK wr B n t/\Only B W wr) (λ v _ _=>1000002-(intOf v).toNat)
 case atStart=>exact⟨q+1,k,_,by go_num,by go_num,HC.out.1,HC.out.2,c,g⟩
 clear c g HC h9 e1;obtain⟨i,j,t,rfl,rfl,r,hs,c,g⟩:=hrel;have K:=zH hs;have s:=zH r;have h7:j<n:=by have:=r.jb;omega
 clear r hs
 go_upto_block 6 with(fail)
 go_cut [10] (λ v G=>∃l:Nat,v=V U l/\i<=l/\Hid (Part xy a b l j t/\(j<l\/¬xy (t l) (t a)))/\dK G B n t/\Only B W G)
 case first=>
  go_wp2_with fail
  go_loopw [10] (λ v wr=>∃l:Nat,v=V U l/\i<=l/\Part xy a b l j t/\dK wr B n t/\Only B W wr) (λ v _=>1000002-(intOf v).toNat)
  case atStart=>exact⟨i,by go_num,aH _,s.out,c,g⟩
  clear c g s;obtain⟨l,rfl,h0,r,c,g⟩:=hrel;have z:=r.ai;have D:=r.ij;have y:=r.jb;by_cases J:l<=j
  ·have H:(l:Int)<=j:=Z
   have I:(l:Int)<n:=Z
   have q4:(a:Int)<n:=Z
   have E:=λ m=>(c.drewN m).cell l Z;have F:=λ m=>(c.drewN m).cell a Z;have w:=λ m=>xx (t l) (t a) (wr.drewN m);have o:=bm r c g;clear r c g z D y;by_cases x:(t l).toNat<(t a).toNat
   ·rw[decide_eq_true x]at w
    go_wp2_with fail
    go_quiet (first|(go_at_call 190;refine Calls.quiet_of_same (w _)))
    go_wp2;go_roundw
    case rel=>exact⟨l+1,by go_num,Z,o.out.1.Vm J x,o.out.2.1.drewN _,o.out.2.2.drewN _⟩
    case measure=>simp only[intOf];omega
   rw[decide_eq_false x]at w
   go_wp2_with fail
   go_quiet (first|(go_at_call 190;refine Calls.quiet_of_same (w _)))
   go_wp2;go_meet
   case rel=>exact⟨l,by go_num,h0,zH ⟨o.out.1,al x⟩,o.out.2.1.drewN _,o.out.2.2.drewN _⟩
  have H:decide ((l:Int)<=(j:Int))=false:=decide_eq_false Z;have I:(j:Int)<(l:Int):=Z
  have o:=bm r c g;clear r c g z D y
  go_wp2_with fail
  go_quiet (fail)
  go_wp2;go_meet
  case rel=>exact⟨l,by go_num,h0,zH ⟨o.out.1,O Z⟩,o.out.2.1.drewN _,o.out.2.2.drewN _⟩
 case rest=>
 obtain⟨q,rfl,h0,A,c,g⟩:=hcut;have HI:=zH A.out.2;have s:=zH A.out.1;clear A
 go_upto_block 8 with(fail)
 go_cut [11] (λ v G=>∃d:Nat,v=V U d/\d<=j/\Hid (Part xy a b q d t/\(d<q\/xy (t d) (t a)))/\dK G B n t/\Only B W G)
 case first=>
  go_wp2_with fail
  go_loopw [11] (λ v wr=>∃d:Nat,v=V U d/\d<=j/\Part xy a b q d t/\dK wr B n t/\Only B W wr) (λ v _=>(intOf v).toNat)
  case atStart=>exact⟨j,by go_num,aH _,s.out,c,g⟩
  clear c g s;obtain⟨d,rfl,Y,r,c,g⟩:=hrel;have z:=r.ai;have D:=r.ij;have y:=r.jb;by_cases J:q<=d
  ·obtain⟨k,rfl⟩:∃k,d=k+1:=⟨d-1,Z⟩;have l:(q:Int)<=(k:Int)+1:=Z
   have q:(k:Int)+1<n:=Z
   have i4:(a:Int)<n:=Z
   have e1:wrap64 ((k:Int)+1-1)=(k:Int):=by unfold wrap64;omega
   have E:=λ m=>(c.drewN m).cell (k+1) Z;have F:=λ m=>(c.drewN m).cell a Z;have w:=λ m=>xx (t (k+1)) (t a) (wr.drewN m);have o:=bm r c g;clear r c g z D y;by_cases x:(t (k+1)).toNat<(t a).toNat
   ·rw[decide_eq_true x]at w
    go_wp2_with fail
    go_quiet (first|(go_at_call 190;refine Calls.quiet_of_same (w _)))
    go_wp2;go_meet
    case rel=>exact⟨k+1,by go_num,Y,zH ⟨o.out.1,al x⟩,o.out.2.1.drewN _,o.out.2.2.drewN _⟩
   rw[decide_eq_false x]at w
   go_wp2_with fail
   go_quiet (first|(go_at_call 190;refine Calls.quiet_of_same (w _)))
   go_wp2;go_roundw
   case rel=>exact⟨k,by go_num,Z,o.out.1.down Z x,o.out.2.1.drewN _,o.out.2.2.drewN _⟩
   case measure=>simp only[intOf];omega
  have H:decide ((q:Int)<=(d:Int))=false:=decide_eq_false Z;have I:(d:Int)<(q:Int):=Z
  have o:=bm r c g;clear r c g z D y
  go_wp2_with fail
  go_quiet (fail)
  go_wp2;go_meet
  case rel=>exact⟨d,by go_num,Y,zH ⟨o.out.1,O Z⟩,o.out.2.1.drewN _,o.out.2.2.drewN _⟩
 case rest=>
 obtain⟨d,rfl,Y,A,c,g⟩:=hcut;have HI2:=bg HI.out A.out.2;have s:=zH A.out.1;clear A HI;have z:=s.out.ai;have D:=s.out.ij;have y:=s.out.jb;by_cases J:d<q
 ·skip
  have H:(d:Int)<(q:Int):=Z
  have I:(d:Int)<n:=Z
  have q3:(a:Int)<n:=Z
  have S:=bg (s.out.done J) (K.out.swap (i:=d) (j:=a) ⟨Z,Z⟩ ⟨Z,Z⟩);clear s K HI2 z;obtain⟨E,F,Q,M,L,N,P,X,R,T⟩:=c.two (i:=d) (j:=a) Z Z;have C:=zH (c.swapped g (i:=d) (j:=a) Z Z);clear c g
  go_wp2_with fail
  go_region
  obtain⟨c,g⟩:=C.out;clear C E F Q M L N P X R T;go_wp2;go_ret2;exact⟨d,false,_,rfl,S.out.1.2.2,y,S.out.2,S.out.1.1,λ k h1 h2=>Nat.le_of_not_lt (S.out.1.2.1 k h1 h2),c,g⟩
 skip
 obtain⟨k,rfl⟩:∃k,d=k+1:=⟨d-1,Z⟩;have H:(q:Int)<=(k:Int)+1:=Z
 have q1':¬(k:Int)+1<(q:Int):=Z
 have I:(k:Int)+1<n:=Z
 have q3:(q:Int)<n:=Z
 have e1:wrap64 ((k:Int)+1-1)=(k:Int):=by unfold wrap64;omega
 have HC:=bg (s.out.cross Z (HI2.out.1.resolve_left Z) (HI2.out.2.resolve_left Z)) (K.out.swap (i:=q) (j:=k+1) ⟨Z,Z⟩ ⟨Z,Z⟩);clear s K HI2;obtain⟨E,F,Q,M,L,N,P,X,R,T⟩:=c.two (i:=q) (j:=k+1) Z Z;have C:=zH (c.swapped g (i:=q) (j:=k+1) Z Z);clear c g
 go_wp2_with fail
 go_region
 obtain⟨c,g⟩:=C.out;clear C E F Q M L N P X R T;go_wp2;go_roundw
 case rel=>exact⟨q+1,k,_,by go_num,by go_num,HC.out.1,HC.out.2,c,g⟩
 case measure=>simp only[intOf];omega
end So
open Go.RowKit
open UK (Only)
open Go.BigFrame
namespace So
theorem kM{p:Nat}(h:dK W B n f)(hn:n<=1000000)(h6:a<=p)(h3:p<b)(hb:b<=n) :
  Calls prog 191 #[ad B n cap,V U a,V U b,V U p] W λ h2 w'=>∃(m:Nat) (e:Nat->UInt64),h2=aw (V U m)/\a<m/\m<=b/\Sh a b f e/\(∀k,a<=k->k<m->(e k).toNat<=(e a).toNat)/\(∀k,m<=k->k<b->(e a).toNat<(e k).toNat)/\e a=f p/\dK w' B n e/\Only B W w':=by
 obtain⟨j,hj⟩:∃j,j=b-1:=⟨_,rfl⟩;have X:(b:Int)-1=(j:Int):=Z
 have e2:wrap64 ((b:Int)-1)=(j:Int):=by unfold wrap64;omega
 have l:(a:Int)<n:=Z
 have r:(p:Int)<n:=Z
 have c:=h;have g:=Only.refl B W;have t:=zH (show Part Gg a b (a+1) j (swp f a p)from hj▸Part.start Z);have x:=bg (Sh.swap (a:=a) (b:=b) (f:=f) .refl (i:=a) (j:=p) ⟨aH _,Z⟩ ⟨h6,h3⟩) (zq f a p);have h5:j<n:=Z
 have h8:a+1<=j+1:=Z
 have h9:a+1<=n:=Z
 clear h hj
 go_enter func191,ntmps191
 obtain⟨D,F,S,P,N,Q,R,d4,T,Y⟩:=c.two (i:=a) (j:=p) Z Z;have E:=zH (c.swapped g (i:=a) (j:=p) Z Z);clear c g
 go_wp2_with fail
 go_region
 obtain⟨c,g⟩:=E.out;clear E D F S P N Q R d4 T Y;obtain⟨I,h4⟩:∃I,I=swp f a p:=⟨_,rfl⟩;rw[<-h4]at t x c;clear h4 r h6 h3 h8
 go_wp2_with fail
 go_loopw [9,10] (λ v h7 wr=>∃(i j:Nat) (d:Nat->UInt64),v=V U i/\h7=V U j/\Part Gg a b i j d/\Hid (Sh a b f d/\d a=f p)/\dK wr B n d/\Only B W wr) (λ v _ _=>1000002-(intOf v).toNat)
 case atStart=>exact⟨a+1,j,I,by go_num,by go_num,t.out,x,c,g⟩
 clear c g t x h5 X e2 I;obtain⟨i,j,d,rfl,rfl,s,x,c,g⟩:=hrel;have t:=zH s;have h5:j<n:=by have:=s.jb;omega
 clear s
 go_upto_block 2 with(fail)
 go_cut [9] (λ v G=>∃l:Nat,v=V U l/\i<=l/\Hid (Part Gg a b l j d/\(j<l\/¬Gg (d l) (d a)))/\dK G B n d/\Only B W G)
 case first=>
  go_wp2_with fail
  go_loopw [9] (λ v wr=>∃l:Nat,v=V U l/\i<=l/\Part Gg a b l j d/\dK wr B n d/\Only B W wr) (λ v _=>1000002-(intOf v).toNat)
  case atStart=>exact⟨i,by go_num,aH _,t.out,c,g⟩
  clear c g t;obtain⟨l,rfl,M,s,c,g⟩:=hrel;have y:=s.ai;have C:=s.ij;have A:=s.jb;by_cases h0:l<=j
  ·have H:(l:Int)<=j:=Z
   have L:(l:Int)<n:=Z
   have q4:(a:Int)<n:=Z
   have D:=λ m=>(c.drewN m).cell l Z;have F:=λ m=>(c.drewN m).cell a Z;have u:=λ m=>xx (d a) (d l) (wr.drewN m);have o:=bm s c g;clear s c g y C A;by_cases w:(d a).toNat<(d l).toNat
   ·rw[decide_eq_true w]at u
    go_wp2_with fail
    go_quiet (first|(go_at_call 190;refine Calls.quiet_of_same (u _)))
    go_wp2;go_meet
    case rel=>exact⟨l,by go_num,M,zH ⟨o.out.1,al (λ h=>h w)⟩,o.out.2.1.drewN _,o.out.2.2.drewN _⟩
   rw[decide_eq_false w]at u
   go_wp2_with fail
   go_quiet (first|(go_at_call 190;refine Calls.quiet_of_same (u _)))
   go_wp2;go_roundw
   case rel=>exact⟨l+1,by go_num,Z,o.out.1.Vm h0 (λ h=>w h),o.out.2.1.drewN _,o.out.2.2.drewN _⟩
   case measure=>simp only[intOf];omega
  have H:decide ((l:Int)<=(j:Int))=false:=decide_eq_false Z;have L:(j:Int)<(l:Int):=Z
  have o:=bm s c g;clear s c g y C A
  go_wp2_with fail
  go_quiet (fail)
  go_wp2;go_meet
  case rel=>exact⟨l,by go_num,M,zH ⟨o.out.1,O Z⟩,o.out.2.1.drewN _,o.out.2.2.drewN _⟩
 case rest=>
 obtain⟨r,rfl,M,z,c,g⟩:=hcut;have HI:=zH z.out.2;have t:=zH z.out.1;clear z
 go_upto_block 4 with(fail)
 go_cut [10] (λ v G=>∃q:Nat,v=V U q/\q<=j/\Hid (Part Gg a b r q d/\(q<r\/Gg (d q) (d a)))/\dK G B n d/\Only B W G)
 case first=>
  go_wp2_with fail
  go_loopw [10] (λ v wr=>∃q:Nat,v=V U q/\q<=j/\Part Gg a b r q d/\dK wr B n d/\Only B W wr) (λ v _=>(intOf v).toNat)
  case atStart=>exact⟨j,by go_num,aH _,t.out,c,g⟩
  clear c g t;obtain⟨q,rfl,K,s,c,g⟩:=hrel;have y:=s.ai;have C:=s.ij;have A:=s.jb;by_cases h0:r<=q
  ·obtain⟨k,rfl⟩:∃k,q=k+1:=⟨q-1,Z⟩;have l:(r:Int)<=(k:Int)+1:=Z
   have r:(k:Int)+1<n:=Z
   have i4:(a:Int)<n:=Z
   have X:wrap64 ((k:Int)+1-1)=(k:Int):=by unfold wrap64;omega
   have D:=λ m=>(c.drewN m).cell (k+1) Z;have F:=λ m=>(c.drewN m).cell a Z;have u:=λ m=>xx (d a) (d (k+1)) (wr.drewN m);have o:=bm s c g;clear s c g y C A;by_cases w:(d a).toNat<(d (k+1)).toNat
   ·rw[decide_eq_true w]at u
    go_wp2_with fail
    go_quiet (first|(go_at_call 190;refine Calls.quiet_of_same (u _)))
    go_wp2;go_roundw
    case rel=>exact⟨k,by go_num,Z,o.out.1.down Z (λ h=>h w),o.out.2.1.drewN _,o.out.2.2.drewN _⟩
    case measure=>simp only[intOf];omega
   rw[decide_eq_false w]at u
   go_wp2_with fail
   go_quiet (first|(go_at_call 190;refine Calls.quiet_of_same (u _)))
   go_wp2;go_meet
   case rel=>exact⟨k+1,by go_num,K,zH ⟨o.out.1,al (λ h=>w h)⟩,o.out.2.1.drewN _,o.out.2.2.drewN _⟩
  have H:decide ((r:Int)<=(q:Int))=false:=decide_eq_false Z;have L:(q:Int)<(r:Int):=Z
  have o:=bm s c g;clear s c g y C A
  go_wp2_with fail
  go_quiet (fail)
  go_wp2;go_meet
  case rel=>exact⟨q,by go_num,K,zH ⟨o.out.1,O Z⟩,o.out.2.1.drewN _,o.out.2.2.drewN _⟩
 case rest=>
 obtain⟨q,rfl,K,z,c,g⟩:=hcut;have HI2:=bg HI.out z.out.2;have t:=zH z.out.1;clear z HI;have y:=t.out.ai;have C:=t.out.ij;have A:=t.out.jb;by_cases h0:q<r
 ·have H:(q:Int)<(r:Int):=Z
  have HD:=zH t.out;clear t HI2;go_wp2;go_ret
  exact⟨r,d,rfl,y,Z,x.out.1,λ k h1 J=>by
   by_cases h2:k=a
   ·subst h2;exact aH _
   exact Nat.le_of_not_lt (HD.out.lo k Z J),λ k h1 J=>Decidable.of_not_not (HD.out.hi k Z J),x.out.2,c,g⟩
 obtain⟨k,rfl⟩:∃k,q=k+1:=⟨q-1,Z⟩;have H:(r:Int)<=(k:Int)+1:=Z
 have q1':¬(k:Int)+1<(r:Int):=Z
 have L:(k:Int)+1<n:=Z
 have q3:(r:Int)<n:=Z
 have X:wrap64 ((k:Int)+1-1)=(k:Int):=by unfold wrap64;omega
 have HC:=bm (t.out.cross Z (HI2.out.1.resolve_left Z) (HI2.out.2.resolve_left Z)) (x.out.1.swap (i:=r) (j:=k+1) ⟨Z,Z⟩ ⟨Z,Z⟩) ((nD (f:=d) (i:=r) (j:=k+1) (k:=a) Z Z).trans x.out.2);clear t x HI2;obtain⟨D,F,S,P,N,Q,R,d4,T,Y⟩:=c.two (i:=r) (j:=k+1) Z Z;have E:=zH (c.swapped g (i:=r) (j:=k+1) Z Z);clear c g
 go_wp2_with fail
 go_region
 obtain⟨c,g⟩:=E.out;clear E D F S P N Q R d4 T Y;go_wp2;go_roundw
 case rel=>exact⟨r+1,k,_,by go_num,by go_num,HC.out.1,zH HC.out.2,c,g⟩
 case measure=>simp only[intOf];omega
end So
open Go.RowKit
open UK (Only ay)
open Go.BigFrame
namespace So
theorem IM(h:dK W B n f)(K:n<=1000000)(G:a<b)(A:b<=n) :
  Calls prog 188 #[ad B n cap,V U a,V U b] W λ w p=>w=aw (a9 #[])/\∃e,Sh a b f e/\dK p B n e/\Only B W p:=by
 obtain⟨c,q⟩:∃j,j=b-1:=⟨_,rfl⟩;have s:(b:Int)-1=(c:Int):=Z
 have y:wrap64 ((b:Int)-1)=(c:Int):=by unfold wrap64;omega
 have r:c<b:=Z
 have x:a<=c+1:=Z
 clear q
 go_enter func188,ntmps188
 go_wp2_with fail
 go_loopw [6,7] (λ v u wr=>∃(i j:Nat) (g:Nat->UInt64),v=V U i/\u=V U j/\a<=i/\j<b/\Sh a b f g/\dK wr B n g/\Only B W wr) (λ _ u _=>(intOf u).toNat)
 case atStart=>exact⟨a,c,f,by go_num,by go_num,aH _,r,.refl,h,Only.refl _ _⟩
 clear h r x s y;obtain⟨i,j,g,rfl,rfl,H,q,m,d,o⟩:=hrel;by_cases P:i<j
 ·obtain⟨k,rfl⟩:∃k,j=k+1:=⟨j-1,Z⟩;have t:(i:Int)<(k:Int)+1:=Z
  have C:(k:Int)+1<n:=Z
  have D:(i:Int)<n:=Z
  have s:wrap64 ((k:Int)+1-1)=(k:Int):=by unfold wrap64;omega
  obtain⟨z,N,L,F,E,I,J,Q,M,O⟩:=d.two (i:=i) (j:=k+1) Z Z;have l:=bg (m.swap (i:=i) (j:=k+1) ⟨Z,Z⟩ ⟨Z,Z⟩) (d.swapped o (i:=i) (j:=k+1) Z Z);clear d o m
  go_wp2_with fail
  go_region
  go_wp2;go_roundw
  case rel=>exact⟨i+1,k,_,by go_num,by go_num,Z,Z,l.out.1,l.out.2.1,l.out.2.2⟩
  case measure=>simp only[intOf];omega
 have t:¬(i:Int)<(j:Int):=Z
 go_wp2
 go_end0
 exact⟨rfl,g,m,d,o⟩
def Vn(W w:World)(s k x y:Nat)(e:Ending):Prop:=∃b a c:Nat,e=aw (a9 #[V U b,V U a])/\((b=x/\a=y)\/(b=y/\a=x))/\c<=k+1/\ay w s #[V U c]/\Only s W w
theorem Vo{x y:Nat}(h:dK W B n f)(b:ay W s #[V U k])(q:k<=1000)(j:x<n)(i:y<n) :
  Calls prog 267 #[ad B n cap,V U x,V U y,aq s] W λ e g=>Vn W g s k x y e:=by
 have o:=λ m=>(h.drewN m).cell x j;have v:=λ m=>(h.drewN m).cell y i;have u:(x:Int)<n:=Z
 have r:(y:Int)<n:=Z
 have a:=λ m=>xx (f y) (f x) (W.drewN m);have d:=zH b;have t:∀m,(W.drewN m).cell? s=some (V U k):=λ m=>b.cell 0 _ rfl;have p:∀m,(W.drewN m).frozen? ⟨s,0,none⟩=false:=λ m=>b.free 0;clear h b;by_cases c:(f y).toNat<(f x).toNat
 ·rw[decide_eq_true c]at a
  go_enter func267,ntmps267
  go_wp2_with fail
  go_quiet (first|(go_at_call 190;refine Calls.quiet_of_same (a _)))
  go_wp2;go_ret2
  refine⟨y,x,k+1,rfl,al ⟨rfl,rfl⟩,aH _,?_,((Only.refl s W).drewN _).set 0 _⟩;have l:ay (W.drewN nq) s #[V U k]:=d.out;have:=l.set 0 (V U ((k+1:Nat):Int))
  simpa using this
 rw[decide_eq_false c]at a
 go_enter func267,ntmps267
 go_wp2_with fail
 go_quiet (first|(go_at_call 190;refine Calls.quiet_of_same (a _)))
 go_wp2;go_ret2
 exact⟨x,y,k,rfl,O ⟨rfl,rfl⟩,Nat.le_succ _,d.out,(Only.refl s W).drewN _⟩
theorem fz{x y z:Nat}(h:dK W B n f)(v:ay W s #[V U k])(O:k<=900)(E:x<n)(I:y<n)(H:z<n)(i:B≠s) :
  Calls prog 243 #[ad B n cap,V U x,V U y,V U z,aq s] W λ e r=>∃m j:Nat,e=aw (V U m)/\(m=x\/m=y\/m=z)/\j<=k+3/\ay r s #[V U j]/\Only s W r:=by
 have C:=zH (Vo (cap:=cap) h v Z E I);have t:=zH h;clear h v
 go_enter func243,ntmps243
 go_wp2_with fail
 refine C.out.mono ?_;rintro e J ⟨N,M,P,rfl,h1,h0,A,a⟩;have d:dK J B n f:=t.out.ae a.size (a.block B t.out.lt i);have g:=zH (Vo (cap:=cap) (x:=M) (y:=z) d A Z Z H);have b:=bg d a;clear d A a C
 go_wp2_with fail
 refine g.out.mono ?_;rintro e F ⟨K,z2,Q,rfl,T,S,p,c⟩;have w:dK F B n f:=b.out.1.ae c.size (c.block B b.out.1.lt i);have l:=zH (Vo (cap:=cap) (x:=N) (y:=K) w p Z Z Z);have D:=zH (b.out.2.trans c);clear w p c g
 go_wp2_with fail
 refine l.out.mono ?_;rintro e X ⟨x3,G,L,rfl,Y,R,u,q⟩;have o:=bg u (D.out.trans q);clear u q l D b;go_wp2;go_ret;exact⟨G,L,rfl,Z,Z,o.out.1,o.out.2⟩
theorem Vp{x:Nat}(h:dK W B n f)(g:ay W s #[V U k])(w:n<=1000000)(o:k<=900)(t:1<=x)(u:x+1<n)(q:B≠s) :
  Calls prog 242 #[ad B n cap,V U x,aq s] W λ e d=>∃m b:Nat,e=aw (V U m)/\(x<=m+1/\m<=x+1)/\b<=k+3/\ay d s #[V U b]/\Only s W d:=by
 obtain⟨a,rfl⟩:∃a,x=a+1:=⟨x-1,Z⟩;have z:wrap64 ((a:Int)+1-1)=(a:Int):=by unfold wrap64;omega
 have A:wrap64 ((a:Int)+1+1)=(a:Int)+1+1:=by unfold wrap64;omega
 have l:=zH (fz (cap:=cap) (x:=a) (y:=a+1) (z:=a+1+1) h g o Z Z Z q);clear h g
 go_enter func242,ntmps242
 go_wp2_with fail
 refine l.out.mono ?_;rintro e y ⟨m,p,rfl,v,r,j,i⟩;have c:=bg j i;clear j i l;go_wp2;go_ret;exact⟨m,p,rfl,Z,r,c.out.1,c.out.2⟩
end So
open Go.RowKit
open UK (Only ay)
open Go.BigFrame
namespace So
theorem mw(h:dK W B n f)(F:n<=1000000)(h6:a+13<=b)(hb:b<=n) :
  Calls prog 187 #[ad B n cap,V U a,V U b] W λ e T=>∃m t:Nat,e=aw (a9 #[V U m,V U t])/\a<=m/\m<b/\t<=2/\Below W W T:=by
 obtain⟨l,P⟩:∃l,l=b-a:=⟨_,rfl⟩;obtain⟨q,S⟩:∃q,q=l/4:=⟨_,rfl⟩;have e1:(b:Int)-(a:Int)=(l:Int):=Z
 have e3:(l:Int).tdiv 4=(q:Int):=by rw[nP Z];omega
 have e4:(l:Int)/4=(q:Int):=Z
 have h8:3<=q:=Z
 have h7:a+4*q<=b:=Z
 have Ck:(8:Int)<=l:=Z
 have I7:(l:Int)<=1000000:=Z
 have h9:(q:Int)<=250000:=Z
 have d:Below W W (W.alloc (.cells #[V U 0] 3)):=(aU _ _).alloc (aH _) _;have i:dK (W.alloc (.cells #[V U 0] 3)) B n f:=h.ae d.size (d.block B h.lt);have s:=UK.ay.new W #[V U 0] 3;have c:B≠W.1.size:=Nat.ne_of_lt h.lt;have p:=bp i s d c;have HL:=bg P S;clear h i s d c P S
 go_enter func187,ntmps187
 go_upto_if 34 with(fail)
 go_cut [10,11,12] (λ u v w H=>∃x y z k:Nat,u=V U x/\v=V U y/\w=V U z/\Hid (a<=x/\x<b/\a<=y/\y<b/\a<=z/\z<b/\k<=9)/\Hid (dK H B n f/\ay H W #[V U k]/\Below W W H))
 case first=>
  by_cases h5:50<=l
  ·have X:(50:Int)<=l:=Z
   obtain⟨i,s,d,c⟩:=p.out;have A:=zH (Vp (cap:=cap) (x:=a+q) i s F (aR _) Z Z c);have R:=bm i d c;clear i s d c
   go_wp2_with fail
   refine A.out.mono ?_;rintro e Y ⟨x,r,rfl,hx,h2,b1,j⟩;obtain⟨i,d,c⟩:=R.out;have g:=i.ae j.size (j.block B i.lt c);have J:=zH (Vp (cap:=cap) (x:=a+q*2) g b1 F Z Z Z c);have O:=bm g (d.trans (j.below d.size (aH _))) c;clear i d c g b1 j R A
   go_wp2_with fail
   refine J.out.mono ?_;rintro e w2 ⟨y,k2,rfl,hy,h4,K,D⟩;obtain⟨g,d,c⟩:=O.out;have o:=g.ae D.size (D.block B g.lt c);have N:=zH (Vp (cap:=cap) (x:=a+q*3) o K F Z Z Z c);have Q:=bm o (d.trans (D.below d.size (aH _))) c;clear g d c o K D O J
   go_wp2_with fail
   refine N.out.mono ?_;rintro e w3 ⟨z,k3,rfl,hz,h3,L,C⟩;obtain⟨o,d,c⟩:=Q.out;have HD:=bm (o.ae C.size (C.block B o.lt c)) L (d.trans (C.below d.size (aH _)));clear o d c L C Q N;go_wp2;go_meet
   case rel=>exact⟨x,y,z,k3,rfl,rfl,rfl,zH ⟨Z,Z,Z,Z,Z,Z,Z⟩,HD⟩
  have X:¬(50:Int)<=l:=Z
  go_wp2;go_meet
  case rel=>exact⟨a+q,a+q*2,a+q*3,0,by go_num,by go_num,by go_num,zH ⟨Z,Z,Z,Z,Z,Z,Z⟩,zH ⟨p.out.1,p.out.2.1,p.out.2.2.1⟩⟩
 case rest=>
 obtain⟨x,y,z,k,rfl,rfl,rfl,Vq,M⟩:=hcut;obtain⟨x1,x2,y1,y2,z1,z2,hk⟩:=Vq.out;obtain⟨g,b1,d⟩:=M.out;have c:=p.out.2.2.2;have A:=zH (fz (cap:=cap) (x:=x) (y:=y) (z:=z) g b1 Z Z Z Z c);have I:=zH d;clear g b1 d c M p
 go_wp2_with fail
 refine A.out.mono ?_;rintro e Y ⟨m,r,rfl,hm,h2,b1,j⟩;have HZ:=zH (I.out.trans (j.below I.out.size (aH _)));have c1:=b1.c0;clear b1 j A I;have G:a<=m:=Z
 have E:m<b:=Z
 by_cases h0:r=0
 ·subst h0;go_wp2;go_ret2;exact⟨m,1,rfl,G,E,Z,HZ.out⟩
 have i0:((r:Int)==0)=false:=beq_eq_false_iff_ne.2 Z;by_cases h1:r=12
 ·subst h1;go_wp2;go_ret2;exact⟨m,2,rfl,G,E,Z,HZ.out⟩
 have i12:((r:Int)==12)=false:=beq_eq_false_iff_ne.2 Z;go_wp2;go_ret2;exact⟨m,0,rfl,G,E,Z,HZ.out⟩
end So
