/- Facts on texts on pages. -/
import Derived.Test.YtgpmiliahonaoaaGreatDoorKDpYc
set_option maxRecDepth 100000
set_option maxHeartbeats 8000000
set_option linter.unusedSimpArgs false
open Go.Value renaming int->V,pointer->aq,slice->ad,string->a8,tuple->a9
open Go.IntKind renaming i64->U,u64->a7
open Go.Ending renaming returned->aw
open Or renaming inl->O,inr->al
open List renaming length->Y
open Go.Proofs.Tryz
namespace Go.Proofs.YtgpmiliahonaoaaGreatDoor
open Go.RowKit Go.BigFrame
open UK (str aF nth Only Row ay)
open DP (Rc bU aS jc eT gm jo TH bV bi)
variable{X d:List bU}{rl:List Rc}
variable{E:Nat->Prop}{W o:World}{k root c j rc:Nat}{A:AP}{m S:List Nat}{p F G:Nat->List UInt8}{a r:List KV}{L:Nat->List (List UInt8)}{f ro:Option Addr}{l:List (Nat×Nat)}{x:Nat×Nat}{s:List UInt8}{key:UInt64}{J:List HT}
section
variable{P D e T H g h C n K N:Nat}{B:AP}{z ps2 I:List Nat}{X:List HT}
def qW(rl:List Rc):List UInt8:=if rl=[] then [] else jo rl
theorem Ah(J:LZ E W P D e T H k A g root)(hd:W.cell? (e,2)=some (aq T))(h5:DM A m p g h root a r z ps2 C I L X)(th:TH a r (pR X) F G)(d b:Nat)(ha:d<100000)(hb:b<100000)(hF:F (bi d b)=qW rl)(s:∀h7∈rl,h7.ok)(y:Y rl<=700)(hk:k+7000<900000000) :
  Calls prog 69 #[aq e,.agg #[V U d,V U b]] W λ w w'=>∃f c,w=aw (a9 #[ad f (Y rl) c,V U 0])/\RX w' f c rl/\(∀j,aG f j->W.1.size<=j)/\PZ E w' P D A (k+7000)/\Kept E W w':=by
 have v:(qW rl).length<=6000:=by
  unfold qW
  split
  ·exact aR _
  have:=DP.sj s Z;omega
 have h3:Below W W (W.alloc (.cells #[V U d,V U b] 25)):=(aU _ _).alloc (aH _) _;have h2:=ay.new W #[V U d,V U b] 25;have h0:=h3.trans (aU _ _).drew;have u:=J.pz.kept h0;have h1:=J.of (J.pz.next h0) u;have K:(UInt64.ofNat (bi d b)).toNat=bi d b:=by rw[UInt64.toNat_ofNat'];unfold bi;omega
 have uq:=zH (PP h1 h5 th (UInt64.ofNat (bi d b)) (by rw[K,hF];omega));have Hm:=PK d b ha hb;simp only[K]at Hm;have Cf:=zH Hm;have d0:=h2.drew.c0;have d1:=h2.drew.c1;have d2:(W.alloc (.cells #[V U d,V U b] 25)).drew.cell? (e,2)=some (aq T):=by rw[<-hd];exact eB (u.block e J.md)
 have e0:(UInt64.ofNat (bi d b)).toNat=bi d b:=K;rw[K,hF]at uq;have B:=br u s y v hk;clear Hm K e0 J h5 th hF h3 h2 h0 u h1 s y v hk hd;obtain⟨KY,LY⟩:∃KY,KY=bi d b:=⟨_,rfl⟩;rw[<-LY]at uq Cf;clear LY
 go_enter func69,ntmps69
 go_wp2_with fail
 go_region_with (first
  | (go_at_call 37;refine(Cf.out _).mono ?_;rintro w w5 ⟨rfl,rfl⟩)
  | (go_at_call 38;refine uq.out.mono ?_;rintro w N ⟨n,rfl,R,o,l⟩;replace R:=zH R;replace o:=zH o;replace l:=zH l))
 all_goals
  clear Cf uq d0 d1 d2;by_cases Q:rl=[]
  ·have t:qW rl=[]:=be Q;rw[t];subst Q;have HI:=bg o.out (B.out.1.trans l.out);have HK:=zH B.out.2.2.2;clear R o l B t;go_wp2;go_ret2;exact⟨none,0,rfl,O ⟨rfl,rfl,rfl⟩,λ j x=>(by cases x),HI.out.1.up (by have:(qW []).length=0:=rfl;omega),HI.out.2⟩
  have t:qW rl=jo rl:=aE Q;have h8:(jo rl).isEmpty=false:=PT (DP.si rl);rw[t];have Mc:=zH (PG (jo rl) N);have HI:=bm o.out l.out t;clear R o l t Q
  go_wp2_with fail
  refine Mc.out.mono ?_;rintro w w7 ⟨rfl,i,Ai⟩;obtain⟨_,s,y,v,_⟩:=B.out;rw[HI.out.2.2]at v;have Md:=zH (SK (rest:=[]) i (by rw[List.drop_zero,jl]) Z y s);have Tv:=zH Ai;clear i Ai Mc s y v
  go_wp2_with fail
  refine Md.out.mono ?_;rintro w w8 ⟨f,c,rfl,at2,wR,Me,M,S,q⟩;rw[List.drop_length,List.flatMap_nil,iQ]at Me;rw[dY]at M
  have h4:(jo rl).length<=at2:=by
   have:=congrArg List.length Me;rw[zd,List.length_nil]at this;omega
  have h6:=zH (XF wR h4);have HJ:=bm M S q;clear wR Me M S q h4 Md
  go_wp2_with fail
  refine h6.out.mono ?_;rintro w w9 ⟨rfl,nq,rfl⟩;go_wp2;go_ret2;obtain⟨M,S,q⟩:=HJ.out;obtain⟨o,l,t⟩:=HI.out;obtain⟨u,s,y,v,hk⟩:=B.out;have i:=Tv.out;have wR:Below N N w8:=⟨q.os.trans i.os,q.tape.trans i.tape,q.output.trans i.output,aT i.size q.size,λ j x=>(q.block j ⟨cB x i.size,Z⟩).trans (i.block j x)⟩;have JQ:Below N N (w8.drewN nq):=UK.dN wR nq;refine⟨f,c,rfl,M.ae (aH _) (λ _ _=>rfl),λ j x=>?_,(o.next JQ).up Z,(u.trans l).trans (o.kept JQ)⟩;have:=S j x;have:=i.size;have:=l.size;have:=u.size;omega
end
open Go.RowKit
open UK (str aF nth Only Row ay w32)
open DP (Rc bU aS jc eT gm jo TH bV bi iq share jW eX rY)
structure kY(X:List bU):Prop where
 ok:eT X
 few:Y X<=40
 DJ:∀x∈X,Y x.2<=8
 ne:∀x∈X,x.2≠[]
def fX(X:List bU):Nat->List UInt8:=λ k=>qW (jW X k)
def gX(X:List bU):Nat->List UInt8:=λ b=>gm (iq b X)
def iT(X d:List bU)(S:List Nat):Nat->List UInt8:=λ b=>if b∈S then gm (iq b d) else gm (iq b X)
section
variable{b:Nat}
theorem r9(X d:List bU):iT X d []=gX X:=by funext b;simp[iT,gX]
theorem u5(X d:List bU)(S:List Nat)(b:Nat):bV (iT X d S) b (gm (iq b d))=iT X d (S++[b]):=by
 funext c
 unfold DP.bV iT;by_cases h:c=b
 ·subst h;simp
 simp[h]
theorem pL(h:b∉S):iT X d S b=gm (iq b X):=aE h
theorem PY(h:kY X)(b:Nat):eT (iq b X)/\(iq b X).length<=40/\∀x∈iq b X,Y x.2<=8:=by
 have e:=DP.Dt b X;refine⟨⟨DP.zN h.ok.up,λ x c=>?_,λ x c=>?_,by have:=h.few;omega⟩,by have:=h.few;omega,λ x c=>?_⟩
 ·obtain⟨y,a,_,rfl⟩:=DP.iK.1 c;exact h.ok.key y a
 ·obtain⟨y,a,_,rfl⟩:=DP.iK.1 c;exact⟨λ q d=>(h.ok.good y a).1 q (List.mem_filter.1 d).1,aT (DP.nO b y.2) (h.ok.good y a).2⟩
 obtain⟨y,a,_,rfl⟩:=DP.iK.1 c;exact aT (DP.nO b y.2) (h.DJ y a)
theorem FE(h:kY X)(b:Nat):(gm (iq b X)).length<=3042:=by
 obtain⟨a,d,c⟩:=PY h b;have:=DP.Dn a c;omega
theorem Hq(h:kY X)(k:Nat):(∀q∈jW X k,q.ok)/\(jW X k).length<=8:=by
 by_cases a:∃x∈X,x.1=k
 ·obtain⟨x,a,rfl⟩:=a;rw[DP.oU h.ok.up a];exact⟨(h.ok.good x a).1,h.DJ x a⟩
 rw[DP.pO (λ x c e=>a ⟨x,c,e⟩)];exact⟨λ q b=>absurd b List.not_mem_nil,aR _⟩
theorem Mg(a:∀q∈rl,q.ok)(b:Y rl<=8):(qW rl).length<=100:=by
 unfold qW
 split
 ·exact aR _
 have:=DP.sj a Z;omega
theorem kY.put(h:kY X)(e:k<2^64-1)(g:∀q∈rl,q.ok)(f:Y rl<=8)(hf:Y X<=39):kY (aS k rl X):=by
 obtain⟨b,c,d⟩:=DP.xW h.ok.up h.ok.key e h.ok.good ⟨g,Z⟩;have i:=DP.ug (k:=k) (l:=rl) X;refine⟨⟨b,c,d,Z⟩,Z,λ x a=>?_,DP.Dq h.ne⟩;rcases DP.l8 a with a|⟨rfl,_⟩
 ·exact h.DJ x a
 exact f
theorem B9(h:kY X):fX (aS k rl X)=bV (fX X) k (qW rl):=by
 funext j
 unfold fX DP.bV;rw[DP.Dr h.ok.up];by_cases e:j=k
 ·rw[be e,be e]
 rw[aE e,aE e]
theorem yH(h:kY X)(d:share b (jW X k)=[])(c:share b rl=[]):iq b (aS k rl X)=iq b X:=by
 rw[DP.wJ b k rl h.ok.up,c];refine DP.xV (λ y g=>?_) (DP.zN h.ok.up);obtain⟨x,f,e,rfl⟩:=DP.iK.1 g;intro a;apply e;rw[<-DP.oU h.ok.up f];show share b (jW X x.1)=[];rw[show x.1=k from a];exact d
theorem qa(h:kY X)(c:∀b,b∉S->share b (jW X k)=[]/\share b rl=[]):iT X (aS k rl X) S=gX (aS k rl X):=by
 funext b
 unfold iT gX;by_cases a:b∈S
 ·rw[be a]
 rw[aE a,yH h (c b a).1 (c b a).2]
end
def Mh(p:Nat×Nat):List Value:=[V U p.1,V U p.2]
theorem Y1(p:Nat×Nat):(Mh p).length=2:=rfl
theorem pC(p:Nat×Nat):∀v∈Mh p,v.oneCell'=true:=by
 intro v a;simp only[Mh,aN,List.not_mem_nil,or_false]at a;rcases a with rfl|rfl<;>rfl
abbrev CX(W:World)(f:Option Addr)(c:Nat)(l:List (Nat×Nat)):Prop:=NX 2 Mh W f c l
theorem CX.two(h:CX W f c l)(b:l[j]?=some x):∃g,f=some ⟨g,0,none⟩/\W.cell? ⟨g,j*2,none⟩=some (V U x.1)/\W.cell? ⟨g,j*2+1,none⟩=some (V U x.2):=by
 obtain⟨g,e,a⟩:=h.at_ Y1 b;exact⟨g,e,a 0 _ rfl,a 1 _ rfl⟩
theorem CX.push(h:CX W f c l)(d:Y l<=1000000)(x:Nat×Nat) :
  ∃a b o,(Builtin.append_ #[35,35] 35 #[ad f (Y l) c,ad W 1 1]).run prog (W.alloc (.cells #[V U x.1,V U x.2] 25))= .ok (ad (some ⟨a,0,none⟩) (Y l+1) b) o/\CX o (some ⟨a,0,none⟩) b (l++[x])/\(aG f a\/W.1.size<=a)/\Only a W o:=
 NX.push (enc:=Mh) underlying35 (i:=t25) rfl rfl rfl (show(16:Nat)<=64 from Z) rfl Y1 pC h d x
def fC(k:Nat):Nat×Nat:=(k/4294967296,k%4294967296)
section
variable{P D e u w H q g h n:Nat}
def Mj(a:List KV)(F:Nat->List UInt8)(key:UInt64)(n:Nat):Prop:=
 (F key.toNat=[]/\n=0/\∀y∈a,y.1≠key)\/∃v:UInt64,(key,v)∈a/\n=v.toNat/\F key.toNat≠[]
theorem um.keep(h:um a J F key n):Mj a F key n:=by
 rcases h with h|⟨v,t,b,d,e,f,g,c⟩
 ·exact O h
 exact al ⟨v,b,Z,c⟩
theorem Mj.is(h:Mj a F key n)(k:TH a r (pR J) F G):um a J F key n:=by
 rcases h with h|⟨v,f,g,i⟩
 ·exact O h
 obtain⟨l,b,c⟩:=k.one.some_ _ f;obtain⟨t,j,e⟩:=bL.1 b;have d:=Prod.mk.inj e;exact al ⟨v,t,f,j,d.1.symm,d.2,by rw[g];exact d.1.symm,i⟩
def Hr(E:Nat->Prop)(W o:World)(P D K:Nat)(A:AP)(m:List Nat)(F G:Nat->List UInt8)(s:List UInt8)(Q:AP->Prop)(a:Int):Prop:=
 (a=0/\∃B,Q B/\A.Reach B/\PZ E o P D B K/\Kept E W o)\/(a=6/\∃B,vJ A m F G s/\A.Reach B/\PZ E o P D B K/\Kept E W o)
theorem zb(f:DZ E W P D e u w H k A q g h root)(d:DL A m p g h root F G a)(key:UInt64)(v:(F key.toNat).length<=4000)(t:k+5000<900000000) :
  Calls prog 38 #[aq e,aq u,V a7 key.toNat] W λ c b=>∃n:Nat,c=aw (a9 #[a8 (str (F key.toNat)),V a7 (n:Nat),V U 0])/\Mj a F key n/\PZ E b P D A (k+5000)/\Kept E W b:=by
 obtain⟨r,y,ps2,z,B,L,J,l,s,x⟩:=d;refine(PP f.one l s key Z).mono ?_;rintro c b ⟨n,rfl,i,o,j⟩;exact⟨n,rfl,i.keep,o.up Z,j⟩
theorem yW(f:DZ E W P D e u w H k A q g h root)(d:DI A m p g h root F G)(key:UInt64)(v:(G key.toNat).length<=4000)(t:k+5000<900000000) :
  Calls prog 38 #[aq e,aq w,V a7 key.toNat] W λ c b=>∃n:Nat,c=aw (a9 #[a8 (str (G key.toNat)),V a7 (n:Nat),V U 0])/\PZ E b P D A (k+5000)/\Kept E W b:=by
 obtain⟨a,r,y,ps2,z,B,L,J,j,o,x⟩:=d;refine(PP f.two j.swap o.swap key Z).mono ?_;rintro c b ⟨n,rfl,s,l,i⟩;exact⟨n,rfl,l.up Z,i⟩
theorem Y4(C:DZ E W P D e u w H k A q g h root)(z:DL A m p g h root F G a)(K:A.aA<=3900)(I:Mj a F key n)(f:Y s<=4000)(N:(F key.toNat).length<=4000)(M:k+12000<900000000) :
  Calls prog 43 #[aq e,aq u,V a7 key.toNat,V a7 (n:Nat),a8 (str s)] W λ t y=>∃v:Int,t=aw (V U v)/\Hr E W y P D (k+12000) A m F G s (λ B=>DI B m p g h root (bV F key.toNat s) G) v:=by
 obtain⟨r,Q,ps2,R,S,L,J,i,j,x⟩:=z;refine(Ym C.one i j (I.is j) (s:=s) Z (i.Mf K) Z).mono ?_;rintro t y (⟨rfl,f⟩|⟨rfl,f⟩)
 ·obtain⟨B,l,o,_,b,c,d⟩:=(f.up (K:=k+12000) Z).dl i j x;exact⟨0,rfl,O ⟨rfl,B,⟨l,o⟩,b,c,d⟩⟩
 obtain⟨B,o,b,c,d⟩:=(f.up (K:=k+12000) Z).lack i j x;exact⟨6,rfl,al ⟨rfl,B,o,b,c,d⟩⟩
theorem Y5(C:DZ E W P D e u w H k A q g h root)(M:DL A m p g h root F (iT X d S) a)(T:A.aA<=3900)(t:kY X)(G:kY d)(b cell:UInt64)(R:d=aS cell.toNat rl X)(N:b.toNat∉S)(hr:RX W ro rc (share b.toNat rl))(h0:∀j,aG ro j->E j)(hn:Y rl<=8)(hk:k+12000<900000000) :
  Calls prog 42 #[aq e,V a7 b.toNat,V a7 cell.toNat,ad ro (share b.toNat rl).length rc] W λ y I=>∃z:Int,y=aw (V U z)/\Hr E W I P D (k+12000) A m F (iT X d S) (gm (iq b.toNat d)) (λ B=>DL B m p g h root F (iT X d (S++[b.toNat])) a) z:=by
 obtain⟨r,h1,ps2,h2,h3,L,J,n,x,hw⟩:=M;have i:aS cell.toNat (share b.toNat rl) (iq b.toNat X)=iq b.toNat d:=by rw[R,DP.wJ _ _ _ t.ok.up]
 have g0:=FE t b.toNat;have g1:=FE G b.toNat;have Q:=C.bd.c3;have K:=Jy C.two Q n.swap x.swap b cell (pL N) (PY t b.toNat).1 Z hr h0 (by have:=DP.nO b.toNat rl;omega) (by rw[i];exact(PY G b.toNat).1) (by rw[i];omega) (n.Mf T) (by rw[i];omega);rw[i]at K;refine K.mono ?_;rintro y I s;have s:=s.up (K:=k+12000) Z;rcases s with⟨rfl,v⟩|⟨rfl,v⟩
 ·obtain⟨B,l,_,f,b1,c,o⟩:=v.dl n.swap x.swap Z;rw[u5]at f;exact⟨0,rfl,O ⟨rfl,B,f,b1,c,o⟩⟩
 obtain⟨B,f,b1,c,o⟩:=v.lack n.swap x.swap Z;exact⟨6,rfl,al ⟨rfl,B,f.swap,b1,c,o⟩⟩
end
