/- Facts on texts on pages. -/
import Derived.Test.YtgpmiliahonaoaaGreatDoorKDrJc
set_option maxRecDepth 100000
set_option maxHeartbeats 8000000
set_option linter.unusedSimpArgs false
open Go.Value renaming bool->a6,int->V,pointer->aq,slice->ad
open Go.IntKind renaming i64->U
open Go.Ending renaming returned->aw
open Or renaming inl->O,inr->al
open List renaming length->Y
open Go.Proofs.Tryz
namespace Go.Proofs.YtgpmiliahonaoaaGreatDoor
open Go.RowKit Go.BigFrame
open UK (str aF nth Only Row ay)
open DP (rZ TT TH bV)
variable{E:Nat->Prop}{W W':World}{g:List Nat}{n F G:Nat->List UInt8}{e u z:Option Addr}{c i j y len cap:Nat}{v:Array Value}{r h w:Nat->Int}{L:List (Nat×Nat)}
section
variable{P D o p s H k q m f rc ro root:Nat}{A B:AP}
def cF(i:Nat)(F:Nat->List UInt8):Nat->List UInt8:=if i=0 then F else λ _=>[]
def cG(i:Nat)(G:Nat->List UInt8):Nat->List UInt8:=if i<=1 then G else λ _=>[]
theorem J1(h:DZ E W P D o p s H k A q m f root)(C:DI A g n m f root F G)(hh:A.aA<=60)(hF:∀j,(F j).length<=4000)(hG:∀j,(G j).length<=4000)(hk:k+60000000<900000000) :
  Calls prog 58 #[aq o] W λ T w'=>T=aw (V U 0)/\∃B,DI B g n m f root (λ _=>[]) (λ _=>[])/\A.Reach B/\PZ E w' P D B (k+60000000)/\Kept E W w':=by
 have hd:=(aU W W).drew;have h0:=h.next hd;have d2:=h0.bd.c2;have d3:=h0.bd.c3;have HH:=br h C hh hF hG;clear h C hh hF hG hd h0
 go_enter func58,ntmps58
 go_upto_region 1 with(fail)
 go_cut [19,20,21] (λ av bv cv wx=>av=ad W 2 2/\bv=V U 2/\cv=V U 0/\Hid (ay wx W #[aq p,aq s]/\Below W W wx))
 case first=>
  go_region_with (fail)
  all_goals
   go_wp2_with fail
   go_meet
   case rel=>exact⟨rfl,rfl,rfl,zH ⟨ay.new _ _ _,((aU W W).drew).alloc (aH _) _⟩⟩
 case rest=>
 obtain⟨rfl,rfl,rfl,HC⟩:=hcut;clear d2 d3;obtain⟨t,h5⟩:∃t:Nat->Prop,t=λ j=>E j\/j=W.1.size:=⟨_,rfl⟩
 have HL:Hid (DZ t wc P D o p s H k A q m f root/\t W.1.size/\(∀j,E j->t j)/\Kept E W wc):=by
  obtain⟨h,_⟩:=HH.out;obtain⟨h9,hb⟩:=HC.out;refine zH ⟨h.wide hb (λ j b=>?_) (λ j b=>by rw[h5];exact O b),by rw[h5];exact al rfl,λ j b=>by rw[h5];exact O b,h.pz.kept hb⟩;rw[h5]at b;rcases b with b|rfl
  ·exact O b
  exact al ⟨aH _,h9.lt⟩
 clear h5
 go_wp2_with fail
 go_loopw [21] (λ iv wr=>∃(i:Nat) (v:AP),iv=V U i/\i<=2/\Hid (DI v g n m f root (cF i F) (cG i G)/\A.Reach v/\DZ t wr P D o p s H (k+12000000*i) v q m f root/\Kept t wc wr)) (λ iv _=>10-(intOf iv).toNat)
 case atStart=>exact⟨0,A,rfl,aR _,zH ⟨HH.out.2.1,AP.Reach.refl _,HL.out.1,Kept.refl _ _⟩⟩
 obtain⟨i,v,rfl,hi,HI⟩:=hrel;by_cases x2:i<2
 ·have q1:(i:Int)<2:=Z
  -- the tree at x1
  obtain⟨Tc,rc,ro,Fc,Fo,DX⟩:∃Tc rc ro Fc Fo,Hid (DI v g n rc ro root Fc Fo/\LZ t wr P D o Tc H (k+12000000*i) v rc root/\wr.cell? (W.1.size,i)=some (aq (some ⟨Tc,0,none⟩))/\(∀j,(Fc j).length<=4000)/\(∀B,DI B g n rc ro root (λ _=>[]) Fo->DI B g n m f root (cF (i+1) F) (cG (i+1) G))):=by
   obtain⟨C,hr,u,kp⟩:=HI.out;obtain⟨h9,hb⟩:=HC.out;have b':=h9.ae (kp.block _ HL.out.2.1);by_cases T:i=0
   ·subst T;exact⟨p,m,f,F,G,zH ⟨C,u.one,b'.cell 0 _ rfl,HH.out.2.2.2.1,λ B X=>X⟩⟩
   obtain rfl:i=1:=Z
   exact⟨s,f,m,G,λ _=>[],zH ⟨C.swap,u.two,b'.cell 1 _ rfl,HH.out.2.2.2.2,λ B X=>X.swap⟩⟩
  obtain⟨C,x,x5,Q,y⟩:=DX.out;obtain⟨l,lo,u6,wV,pg,rp,L,he,d,K,M⟩:=C;have ho:v.aA<=60:=by rw[HI.out.2.1.ni];exact HH.out.2.2.1
  have hs:Y l<=2000:=by
   have h1:=d.t1.few
   have h2:=d.t1.fA.length_le_of_subset (l₂:=List.range 61) (λ hl hp=>ky.2 (by
    have h3:=(d.t1.has hl hp).2.1;have h4:=d.good.aA;omega))
   rw[List.length_range]at h2;omega
  have HW:=zH (jt x.tree hs Z d.t1 d.good);have HR:=bw x Q y d K M;clear x Q y d K M ho DX
  go_wp2_with fail
  refine HW.out.mono ?_;rintro T w2 ⟨rfl,e,c,b2,S,w,hq,r⟩;have b20:=b2.c0;obtain⟨z,h6⟩:∃z:Nat->Prop,z=λ j=>t j\/j=wr.1.size\/aG e j:=⟨_,rfl⟩;rw[<-h6]at w;have N:Hid ((∀j,t j->z j)/\(∀j,aG e j->z j)):=zH ⟨λ j b=>by rw[h6];exact O b,λ j b=>by rw[h6];exact al (al b)⟩;have HP:=bm w S r;clear b2 S w hq r HW h6
  go_wp2_with fail
  obtain⟨wo,hu⟩:∃wo,wo=wr:=⟨_,rfl⟩;subst hu
  go_loopw [33] (λ nv wr=>∃(a:Nat) (R:AP),nv=V U a/\a<=Y l/\Hid (FL R g n rc ro root l lo Fc he a/\v.Reach R/\PZ z wr P D R (k+12000000*i+300000+5000*a)/\Kept z w2 wr)) (λ nv _=>3000-(intOf nv).toNat)
  case atStart=>
   obtain⟨x,Q,y,d,K,M⟩:=HR.out;exact⟨0,v,rfl,aR _,zH ⟨n7 d,AP.Reach.refl _,HP.out.1,Kept.refl _ _⟩⟩
  obtain⟨a,R,rfl,hn,HJ⟩:=hrel;by_cases ht:a<Y l
  ·obtain⟨hc,hy⟩:∃hc,l[a]?=some hc:=⟨_,bK ht⟩;obtain⟨pV,I,w,r⟩:=HJ.out;obtain⟨x,Q,y,d,K,M⟩:=HR.out;obtain⟨_,S,ME⟩:=HP.out;have hj:=S.ae r.size (λ j b=>r.block j (N.out.2 j b));obtain⟨x0,rfl,cd⟩:=NR.Qa hj (i:=a) (t:=hc.2) (by rw[dL,hy];rfl);have q2:(a:Int)<Y l:=Z
   obtain⟨TQ,hz,x3,x4,L2,hv,hw,m2,e1,e2,h8⟩:=pV.step K hy;have J:=ME.trans (r.mono N.out.1)
   have yz:LZ z wr P D o Tc H (k+12000000*i+300000+5000*a) R rc root:=by
    have hx:=x.of (B:=R) (j:=k+12000000*i+300000+5000*a) (w.less N.out.1) J;exact⟨w,hx.hd,N.out.1 _ hx.md,hx.bt,N.out.1 _ hx.mt,hx.bh,N.out.1 _ hx.mh⟩
   have ha:Y hv.s<=4000:=by rw[e2];exact Q _
   have HD:=zH (Tm (yz.heap m2) Z);rw[e1]at HD;have d4:=yz.hd;have HS:=br h8 I r m2 ha;clear pV I w r x Q y d K M S ME hj m2 e1 e2 h8 J yz ha HJ hy
   go_wp2_with fail
   refine HD.out.mono ?_;rintro T w5 ⟨B,rp',L',rfl,u,rB,k5⟩
   have HN:Hid (FL B g n rc ro root l lo Fc he (a+1)/\v.Reach B/\PZ z w5 P D B (k+12000000*i+300000+5000*(a+1))/\Kept z w2 w5):=by
    obtain⟨h8,I,r,m2,ha⟩:=HS.out;exact zH ⟨h8 B rp' L' rB u.hi u.far u.few,I.trans rB,u.pz.up Z,r.trans k5⟩
   clear u rB k5 HS HD d4;go_wp2;go_roundw
   case rel=>exact⟨a+1,B,by go_num,Z,HN⟩
   case measure=>simp only[intOf];omega
  obtain rfl:a=Y l:=Z
  obtain⟨pV,I,w,r⟩:=HJ.out;obtain⟨x,Q,y,d,K,M⟩:=HR.out;obtain⟨_,S,ME⟩:=HP.out;obtain⟨hg,TQ,Zh,h7⟩:=pV.done K M;have J:=ME.trans (r.mono N.out.1);have yz:=x.of (B:=R) (j:=k+12000000*i+10400000) ((w.up Z).less N.out.1) J;have MF:=zH (nj yz.tree Z Zh hg (λ hl hp=>w.dV hp));have HS:=bp h7 I J y;clear pV I w r x Q y d K M S ME hg Zh h7 J yz HJ
  go_wp2_with fail
  refine MF.out.mono ?_;rintro T w5 ⟨rfl,B,X,ed,k5⟩
  have HN:Hid (DI B g n m f root (cF (i+1) F) (cG (i+1) G)/\A.Reach B/\DZ t w5 P D o p s H (k+12000000*(i+1)) B q m f root/\Kept t wc w5):=by
   obtain⟨h7,I,J,y⟩:=HS.out;obtain⟨_,mG,u,kp⟩:=HI.out;obtain⟨hm,rB⟩:=h7 B X;exact zH ⟨y B hm,mG.trans (I.trans rB),u.of (ed.pz.up Z) (J.trans k5),kp.trans (J.trans k5)⟩
  clear X ed k5 HS MF;go_wp2;go_roundw
  case rel=>exact⟨i+1,B,by go_num,Z,HN⟩
  case measure=>simp only[intOf];omega
 obtain rfl:i=2:=Z
 go_wp2;go_ret
 obtain⟨C,hr,u,kp⟩:=HI.out;obtain⟨_,_,eZ,kW⟩:=HL.out;exact⟨rfl,v,C,hr,(u.pz.up Z).less eZ,kW.trans (kp.mono eZ)⟩
end
open DP (Rc bU aS jc bi)
variable{l:List Rc}
structure AM where
 r:Nat
 c:Nat
 ro:Option Addr
 rc:Nat
 l:List Rc
variable{d C:List AM}{a x b:AM}
def MG(x:AM):List Value:=[V U x.r,V U x.c,ad x.ro (Y x.l) x.rc]
theorem Zi(x:AM):(MG x).length=3:=rfl
theorem Kp(x:AM):∀v∈MG x,v.oneCell'=true:=by
 intro v a;simp only[MG,aN,List.not_mem_nil,or_false]at a;rcases a with rfl|rfl|rfl<;>rfl
def dW(x:AM):Nat:=bi x.r x.c
def gM(x:AM):bU:=(dW x,x.l)
abbrev NA(W:World)(e:Option Addr)(c:Nat)(d:List AM):Prop:=NX 3 MG W e c d
theorem NA.three(h:NA W e c d)(j:d[i]?=some a):∃g,e=some ⟨g,0,none⟩/\W.cell? ⟨g,i*3,none⟩=some (V U a.r)/\W.cell? ⟨g,i*3+1,none⟩=some (V U a.c)/\W.cell? ⟨g,i*3+2,none⟩=some (ad a.ro (Y a.l) a.rc):=by
 obtain⟨g,f,b⟩:=h.at_ Zi j;exact⟨g,f,b 0 _ rfl,b 1 _ rfl,b 2 _ rfl⟩
theorem NA.push(h:NA W e c d)(f:Y d<=1000000)(x:AM) :
  ∃a b W',(Builtin.append_ #[41,41] 41 #[ad e (Y d) c,ad W 1 1]).run prog (W.alloc (.cells #[V U x.r,V U x.c,ad x.ro (Y x.l) x.rc] 64))= .ok (ad (some ⟨a,0,none⟩) (Y d+1) b) W'/\NA W' (some ⟨a,0,none⟩) b (d++[x])/\(aG e a\/W.1.size<=a)/\Only a W W':=
 NX.push (enc:=MG) underlying41 (i:=t64) rfl rfl rfl (show(40:Nat)<=64 from Z) rfl Zi Kp h f x
def gD(x:AM)(s:List AM×Bool)(a:AM):List AM×Bool:=
 if dW a=dW x then s else if s.2=false/\dW x<dW a then(s.1++[x,a],true) else(s.1++[a],s.2)
def DY(x:AM)(s:List AM×Bool):List AM:=if s.2 then s.1 else s.1++[x]
def oV(x:AM)(d:List AM):List AM:=DY x (d.foldl (gD x) ([],decide (x.l=[])))
theorem Qp(x:AM):∀(d o:List AM),d.foldl (gD x) (o,true)=(o++d.filter (λ a=>decide (dW a≠dW x)),true)
 | [],o=>by simp
 | a::d,o=>by
  rw[List.foldl_cons];by_cases h:dW a=dW x
  ·rw[show gD x (o,true) a=(o,true)from be h,Qp x d o,List.filter_cons,aE (by simp[h])]
  rw[show gD x (o,true) a=(o++[a],true) by unfold gD;rw[aE h,aE (by simp)],Qp x d _,List.filter_cons,be (by simp[h]),cO];rfl
theorem TR(x:AM)(c:x.l≠[]):∀(d o:List AM),jc (d.map gM)->(DY x (d.foldl (gD x) (o,false))).map gM=o.map gM++aS (dW x) x.l (d.map gM)
 | [],o,_=>by
  show(o++[x]).map gM=_;rw[dI];show _=_++aS (dW x) x.l [];rw[show aS (dW x) x.l []=[(dW x,x.l)] by unfold DP.aS;rw[aE c]];rfl
 | a::d,o,h=>by
  obtain⟨f,g⟩:=cu.1 h;rw[List.foldl_cons,jr];rcases Nat.lt_trichotomy (dW a) (dW x)with e|e|e
  ·rw[show gD x (o,false) a=(o++[a],false) by unfold gD;rw[aE Z,aE (by simp;omega)],TR x c d _ g,dI,cO]
   congr 1
   show gM a::aS (dW x) x.l (d.map gM)=_;rw[DP.aS,be (show(gM a).1<dW x from e)]
  ·rw[show gD x (o,false) a=(o,false)from be e,TR x c d _ g]
   congr 1
   rw[DP.gJ c (λ y b=>by have:=f y b;show dW x<y.1;rw[<-e];exact this)];rw[DP.aS,aE (show ¬(gM a).1<dW x by show ¬dW a<dW x;omega),be (show(gM a).1=dW x from e),aE c]
  rw[show gD x (o,false) a=(o++[x,a],true) by unfold gD;rw[aE Z,be ⟨rfl,e⟩],Qp];show(o++[x,a]++d.filter (λ a=>decide (dW a≠dW x))).map gM=_
  have hf:d.filter (λ a=>decide (dW a≠dW x))=d:=List.filter_eq_self.2 (λ y b=>by
   have:=f (gM y) (bL.2 ⟨y,b,rfl⟩);have i:dW a<dW y:=this;simp;omega)
  rw[hf,DP.gJ c (λ y b=>by
   rcases aN.1 b with rfl|b
   ·exact e
   have i:dW a<y.1:=f y b;omega),dI,dI,cO]
  rfl
theorem Zj{k:Nat}:∀{X:List bU},jc X->aS k [] X=X.filter λ x=>decide (x.1≠k)
 | [],_=>by unfold DP.aS;rw[be rfl];rfl
 | x::X,h=>by
  obtain⟨b,c⟩:=cu.1 h;rcases Nat.lt_trichotomy x.1 k with e|e|e
  ·rw[DP.aS,be e,Zj c,List.filter_cons,be (by simp;omega)]
  ·rw[DP.aS,aE Z,be e,be rfl,List.filter_cons,aE (by simp[e])];exact(List.filter_eq_self.2 (λ y a=>by have:=b y a;simp;omega)).symm
  rw[DP.fM (λ y a=>by
   rcases aN.1 a with rfl|a
   ·exact e
   have:=b y a;omega)]
  exact(List.filter_eq_self.2 (λ y a=>by
   rcases aN.1 a with rfl|a
   ·simp;omega
   have:=b y a;simp;omega)).symm
theorem sQ(h:jc (d.map gM)):(oV x d).map gM=aS (dW x) x.l (d.map gM):=by
 unfold oV;by_cases b:x.l=[]
 ·rw[decide_eq_true b,Qp];show([]++d.filter (λ a=>decide (dW a≠dW x))).map gM=_;rw[b,Zj h,iQ,List.filter_map];rfl
 rw[decide_eq_false b,TR x b d [] h];rfl
theorem TS(x:AM):∀(d:List AM) (s:List AM×Bool),∀y∈(d.foldl (gD x) s).1,y∈s.1\/y∈d\/y=x
 | [],s,y,b=>O b
 | a::d,s,y,b=>by
  rw[List.foldl_cons]at b;rcases TS x d _ y b with h|h|h
  ·unfold gD at h
   split at h
   ·exact O h
   split at h
   ·rcases dm.1 h with h|h
    ·exact O h
    rcases aN.1 h with h|h
    ·exact al (al h)
    exact al (O (by rw[bu.1 h];exact bI ..))
   rcases dm.1 h with h|h
   ·exact O h
   exact al (O (by rw[bu.1 h];exact bI ..))
  ·exact al (O (cK _ h))
  exact al (al h)
theorem TU:∀y∈oV x d,y∈d\/y=x:=λ y a=>by
 unfold oV DY at a
 split at a
 ·rcases TS x d _ y a with h|h
  ·cases h
  exact h
 rcases dm.1 a with a|a
 ·rcases TS x d _ y a with h|h
  ·cases h
  exact h
 exact al (bu.1 a)
theorem Zk(x:AM):∀(d:List AM) (s:List AM×Bool),(d.foldl (gD x) s).1.length+(if (d.foldl (gD x) s).2 then 0 else 1)<=Y s.1+Y d+(if s.2 then 0 else 1)
 | [],s=>aH _
 | a::d,s=>by
  rw[List.foldl_cons];have c:=Zk x d (gD x s a)
  have b:(gD x s a).1.length+(if (gD x s a).2 then 0 else 1)<=Y s.1+1+(if s.2 then 0 else 1):=by
   unfold gD
   split
   ·omega
   split
   ·rename_i h;rw[h.1];simp
   simp
  rw[dF];omega
theorem D5(c:a.c<4294967296)(d:b.c<4294967296):dW a<dW b↔a.r<b.r\/a.r=b.r/\a.c<b.c:=by
 unfold dW DP.bi;omega
theorem rA(c:a.c<4294967296)(d:b.c<4294967296):dW a=dW b↔a.r=b.r/\a.c=b.c:=by
 unfold dW DP.bi;omega
theorem Zl(x a:AM)(W:World) :
  Calls prog 114 #[.agg #[V U x.r,V U x.c,ad x.ro (Y x.l) x.rc],.agg #[V U a.r,V U a.c,ad a.ro (Y a.l) a.rc]] W λ e r=>e=aw (a6 (decide (x.r<a.r\/x.r=a.r/\x.c<a.c)))/\Below W W r:=by
 obtain⟨b,d⟩:∃b,b=W.alloc (.cells #[V U x.r,V U x.c,ad x.ro (Y x.l) x.rc] 64):=⟨_,rfl⟩;obtain⟨f,l⟩:∃f,f=b.alloc (.cells #[V U a.r,V U a.c,ad a.ro (Y a.l) a.rc] 64):=⟨_,rfl⟩;have b1:Below W W b:=d▸(aU _ _).alloc (aH _) _;have j:Below b b f:=l▸(aU _ _).alloc (aH _) _;have q:ay b W #[V U x.r,V U x.c,ad x.ro (Y x.l) x.rc]:=d▸ay.new W _ _;have g:ay f b #[V U a.r,V U a.c,ad a.ro (Y a.l) a.rc]:=l▸ay.new b _ _;rw[show b.1.size=W.1.size+1 by rw[d];simp]at g;have n:=q.next j;have v:=n.c0;have s:=n.c1;have t:=g.c0;have u:=g.c1;have c:=zH (b1.trans (j.mono b1.size));clear b1 j q g n;subst l d;rcases Nat.lt_trichotomy x.r a.r with e|e|e
 ·have o:(x.r:Int)<a.r:=Z
  rw[decide_eq_true (p:=x.r<a.r\/x.r=a.r/\x.c<a.c) (O e)];have m:¬(x.r:Int)=a.r:=Z
  clear e
  go_enter func114,ntmps114
  go_wp2
  all_goals (go_ret;exact⟨rfl,c.out⟩)
 ·have o:¬(x.r:Int)<a.r:=Z
  have m:(x.r:Int)=a.r:=Z
  by_cases k:x.c<a.c
  ·have p:(x.c:Int)<a.c:=Z
   rw[decide_eq_true (p:=x.r<a.r\/x.r=a.r/\x.c<a.c) (al ⟨e,k⟩)];have i:=zH e;clear e k
   go_enter func114,ntmps114
   go_wp2
   all_goals (go_ret;exact⟨rfl,by have h:=c.out;rw[i.out]at h;exact h⟩)
  have p:¬(x.c:Int)<a.c:=Z
  rw[decide_eq_false (p:=x.r<a.r\/x.r=a.r/\x.c<a.c) Z];have i:=zH e;clear e k
  go_enter func114,ntmps114
  go_wp2
  all_goals (go_ret;exact⟨rfl,by have h:=c.out;rw[i.out]at h;exact h⟩)
 have o:¬(x.r:Int)<a.r:=Z
 have m:¬(x.r:Int)=a.r:=Z
 have p:((x.r:Int)==(a.r:Int))=false:=beq_eq_false_iff_ne.2 m;rw[decide_eq_false (p:=x.r<a.r\/x.r=a.r/\x.c<a.c) Z];clear e
 go_enter func114,ntmps114
 go_wp2
 all_goals (go_ret;exact⟨rfl,c.out⟩)
abbrev nI(x:AM)(d:List AM)(i:Nat):List AM×Bool:=(d.take i).foldl (gD x) ([],decide (x.l=[]))
theorem G6(x:AM)(b:d[i]?=some a):nI x d (i+1)=gD x (nI x d i) a:=by
 have c:=(dz.1 b).1;unfold nI;rw[List.take_succ_eq_append_getElem c,show d[i]=a from bf ((bK c).symm.trans b),List.foldl_append,List.foldl_cons,List.foldl_nil]
theorem Zm(x:AM)(d:List AM)(i:Nat):(nI x d i).1.length<=i+1:=by
 have h:=Zk x (d.take i) ([],decide (x.l=[]));have a:(d.take i).length<=i:=by rw[zt];omega
 have b:([]:List AM).length=0:=rfl;unfold nI;simp only[]at h
 split at h<;>split at h<;>omega
theorem Ea{c b:World}{a d:Nat}(k:∀j,aG u j->W.1.size<j)(e:Below W W c)(f:ay c W v)(l:aG u a\/c.1.size<=a)(i:Only a c b)(n:NA b a d C) :
  Hid (NA b a d C/\(∀j,aG a j->W.1.size<j)/\Below W W b/\ay b W v):=by
 have g:W.1.size<a:=by
  rcases l with h|h
  ·exact k a h
  have:=f.lt;omega
 exact zH ⟨n,λ j m=>by rw[eY m];exact g,e.trans (i.below e.size (Nat.le_of_lt g)),f.only i Z⟩
theorem lP(h:NA W e c d)(hl:Y d<=1000)(hc:∀hm∈d,hm.c<4294967296)(hx:x.c<4294967296) :
  Calls prog 54 #[ad e (Y d) c,.agg #[V U x.r,V U x.c,ad x.ro (Y x.l) x.rc]] W λ t w'=>∃m B,t=aw (ad (some ⟨m,0,none⟩) (oV x d).length B)/\NA w' (some ⟨m,0,none⟩) B (oV x d)/\W.1.size<=m/\Below W W w':=by
 obtain⟨J,h5⟩:∃J,J=W.alloc (.cells #[V U x.r,V U x.c,ad x.ro (Y x.l) x.rc] 64):=⟨_,rfl⟩;have h3:Below W W J:=h5▸(aU _ _).alloc (aH _) _;have g:ay J W #[V U x.r,V U x.c,ad x.ro (Y x.l) x.rc]:=h5▸ay.new W _ _;obtain⟨dn,S⟩:∃dn,dn=decide (x.l=[]):=⟨_,rfl⟩
 have e0:((Y x.l:Int)==0)=dn:=by
  rw[S];by_cases h0:x.l=[]
  ·rw[decide_eq_true h0,h0];rfl
  rw[decide_eq_false h0];have:=List.length_pos_iff.2 h0;exact beq_eq_false_iff_ne.2 Z
 have HH:=bw h hc hx h3 g S;have d2:=g.c2;clear h hc hx h3 g S;subst h5
 go_enter func54,ntmps54
 go_wp2_with fail
 obtain⟨wl,h8⟩:∃wl,wl=(W.alloc (.cells #[V U x.r,V U x.c,ad x.ro (Y x.l) x.rc] 64)).alloc (.cells #[] 64):=⟨_,rfl⟩
 have HL:Hid (Below W W wl/\ay wl W #[V U x.r,V U x.c,ad x.ro (Y x.l) x.rc]/\NA wl (some ⟨W.1.size+1,0,none⟩) 0 []):=by
  obtain⟨_,_,_,h3,g,_⟩:=HH.out;obtain⟨J,h5⟩:∃J,J=W.alloc (.cells #[V U x.r,V U x.c,ad x.ro (Y x.l) x.rc] 64):=⟨_,rfl⟩;rw[<-h5]at h8 h3 g;have b2:Below J J wl:=h8▸(aU _ _).alloc (aH _) _;have hj:Row wl J 0 []:=h8▸zF J [] _;rw[show J.1.size=W.1.size+1 by rw[h5];simp]at hj;exact zH ⟨h3.trans (b2.mono h3.size),g.next b2,al ⟨_,rfl,hj⟩⟩
 have Av:=zH h8;clear h8 d2
 go_loopw [5,6,16] (λ ov dv iv wr=>∃(i:Nat) (D:Nat) (Q:Nat),ov=ad D (nI x d i).1.length Q/\dv=a6 (nI x d i).2/\iv=V U i/\i<=Y d/\Hid (NA wr D Q (nI x d i).1/\(∀j,aG D j->W.1.size<j)/\Below W W wr/\ay wr W #[V U x.r,V U x.c,ad x.ro (Y x.l) x.rc])) (λ _ _ iv _=>2000-(intOf iv).toNat)
 case atStart=>
  refine⟨0,W.1.size+1,0,rfl,?_,rfl,aR _,?_⟩
  ·rw[HH.out.2.2.2.2.2];rfl
  rw[<-Av.out];exact zH ⟨HL.out.2.2,λ j G=>by rw[eY G];omega,HL.out.1,HL.out.2.1⟩
 clear Av HL;obtain⟨i,D,Q,rfl,rfl,rfl,hi,HI⟩:=hrel;by_cases hk:i<Y d
 ·obtain⟨a,ha⟩:∃a,d[i]?=some a:=⟨_,bK hk⟩;obtain⟨b,k,f,g⟩:=HI.out;obtain⟨h,hc,hx,h9⟩:=HH.out;clear h9;have hr:=h.ae f.size (λ j G=>f.block j (h.lt G));obtain⟨hn,rfl,a0,a1,a2⟩:=NA.three (show NA wr e c d from hr) ha;have q1:(i:Int)<Y d:=Z
  have hb:=hc a (dU ha);have hg:=G6 x ha;have h7:=Zm x d i;obtain⟨o,E,T⟩:∃o E,nI x d i=(o,E):=⟨_,_,rfl⟩;have h1:(nI x d i).1=o:=by rw[T]
  have S:(nI x d i).2=E:=by rw[T]
  rw[h1,S];rw[h1]at b h7;rw[T]at hg;obtain⟨wa,R⟩:∃wa,wa=wr.alloc (.cells #[V U a.r,V U a.c,ad a.ro (Y a.l) a.rc] 64):=⟨_,rfl⟩;have h2:wa.1.size=wr.1.size+1:=by rw[R];simp
  have ba:Below wr wr wa:=R▸(aU _ _).alloc (aH _) _;have q:ay wa wr #[V U a.r,V U a.c,ad a.ro (Y a.l) a.rc]:=R▸ay.new wr _ _;have ho:=q.c0;have c1:=q.c1;have c2:=q.c2;have Az:=g.next ba;have e0:=Az.c0;have e1:=Az.c1;have e2:=Az.c2;have hh:NA wa D Q o:=b.ae ba.size (λ j G=>ba.block j (b.lt G));have r:=bw hh k (f.trans (ba.mono f.size)) Az q hg;have Zn:Hid (¬aG D wr):=zH (λ t=>by have:=b.lt t;omega);have MH:=zH (rA hb hx);have P:=zH (D5 hx hb);clear b k f g h hc hx hr ha hb hg T h1 S ba q Az hh HI HH;by_cases h4:a.r=x.r/\a.c=x.c
  ·-- the same cell: it goes
   obtain⟨L,he⟩:=h4;have z:Hid (nI x d (i+1)=(o,E)):=zH (by rw[r.out.2.2.2.2.2];exact be (MH.out.2 ⟨L,he⟩));have i1:((a.r:Int)==(x.r:Int))=true:=by rw[L];exact beq_self_eq_true _
   have i2:((a.c:Int)==(x.c:Int))=true:=by rw[he];exact beq_self_eq_true _
   clear L he MH P;subst R;go_wp2;go_roundw
   case rel=>
    obtain⟨b,k,f,g,q,_⟩:=r.out;exact⟨i+1,D,Q,by rw[z.out],by rw[z.out],by go_num,Z,zH ⟨by rw[z.out];exact b,k,f,g⟩⟩
   case measure=>simp only[intOf];omega
  have I:Hid (¬dW a=dW x):=zH (λ t=>h4 (MH.out.1 t));by_cases L:a.r=x.r
  ·have i1:((a.r:Int)==(x.r:Int))=true:=by rw[L];exact beq_self_eq_true _
   have i2:((a.c:Int)==(x.c:Int))=false:=beq_eq_false_iff_ne.2 (λ t=>h4 ⟨L,Z⟩);have j2:¬(a.c:Int)=(x.c:Int):=λ t=>h4 ⟨L,Z⟩;clear h4 L MH
   cases E with
   | true=>
    have u:nI x d (i+1)=(o++[a],true):=by
     rw[r.out.2.2.2.2.2];unfold gD;rw[aE I.out,aE (by simp)]
    obtain⟨b,k,f,g,q,_⟩:=r.out;obtain⟨m,B,v,A,s,n,p⟩:=NA.push b Z a;rw[h2]at A;have z:Hid (NA v m B (nI x d (i+1)).1/\(∀j,aG m j->W.1.size<j)/\Below W W v/\ay v W #[V U x.r,V U x.c,ad x.ro (Y x.l) x.rc]):=Ea k f g n p (by rw[u];exact s);have HS2:=zH u;clear u b k f g q s n p r P I h2;subst R
    go_wp2_with (at_builtin;refine UK.jm A rfl rfl rfl rfl rfl ?_)
    go_wp2;go_roundw
    case rel=>exact⟨i+1,_,_,by rw[HS2.out,zl];rfl,by rw[HS2.out],by go_num,Z,z⟩
    case measure=>simp only[intOf];omega
   | false=>
    have H:=zH (Zl x a wa);by_cases F:x.r<a.r\/x.r=a.r/\x.c<a.c
    ·rw[decide_eq_true F]at H
     have u:nI x d (i+1)=(o++[x,a],true):=by
      rw[r.out.2.2.2.2.2];unfold gD;rw[aE I.out,be ⟨rfl,P.out.2 F⟩]
     have HS2:=zH u;clear F u P I h2;subst R
     go_wp2_with fail
     refine H.out.mono ?_;rintro t w4 ⟨rfl,l⟩;obtain⟨b,k,f,g,q,_⟩:=r.out;have M:NA w4 D Q o:=b.ae l.size (λ j G=>l.block j (b.lt G));have w:=g.next l;have N:=f.trans (l.mono f.size);have y:=q.next l;have s0:=w.c0;have s1:=w.c1;have s2:=w.c2;obtain⟨m,B,v,A,s,n,p⟩:=NA.push M Z x;have hp:=Ea k N w n p s
     have h6:m≠wr.1.size:=by
      rcases n with h|h
      ·exact λ t=>Zn.out (t▸h)
      have:=y.lt;omega
     have K:=hp.out;have X:=y.only p h6.symm;have t0:=X.c0;have t1:=X.c1;have t2:=X.c2;obtain⟨g2,c2',w6,eb,r6,yZ,o6⟩:=NA.push K.1 (by rw[zl];show Y o+1<=_;omega) a;rw[show(o++[x]).length=Y o+1 by rw[zl];rfl]at eb;have z:Hid (NA w6 g2 c2' (nI x d (i+1)).1/\(∀j,aG g2 j->W.1.size<j)/\Below W W w6/\ay w6 W #[V U x.r,V U x.c,ad x.ro (Y x.l) x.rc]):=Ea K.2.1 K.2.2.1 K.2.2.2 yZ o6 (by rw[HS2.out];rw[cO]at r6;exact r6);clear b k f g q M w N y s n p r l H hp h6 K X r6 yZ o6
     go_wp2_with (at_builtin;first|refine UK.jm A rfl rfl rfl rfl rfl ?_|refine UK.jm eb rfl rfl rfl rfl rfl ?_)
     go_wp2;go_roundw
     case rel=>exact⟨i+1,_,_,by rw[HS2.out,zl];rfl,by rw[HS2.out],by go_num,Z,z⟩
     case measure=>simp only[intOf];omega
    rw[decide_eq_false F]at H
    have u:nI x d (i+1)=(o++[a],false):=by
     rw[r.out.2.2.2.2.2];unfold gD;rw[aE I.out,aE (λ h=>F (P.out.1 h.2))]
    have HS2:=zH u;clear F u P I h2;subst R
    go_wp2_with fail
    refine H.out.mono ?_;rintro t w4 ⟨rfl,l⟩;obtain⟨b,k,f,g,q,_⟩:=r.out;have M:NA w4 D Q o:=b.ae l.size (λ j G=>l.block j (b.lt G));have w:=g.next l;have N:=f.trans (l.mono f.size);have y:=q.next l;have s0:=y.c0;have s1:=y.c1;have s2:=y.c2;obtain⟨m,B,v,A,s,n,p⟩:=NA.push M Z a;have z:Hid (NA v m B (nI x d (i+1)).1/\(∀j,aG m j->W.1.size<j)/\Below W W v/\ay v W #[V U x.r,V U x.c,ad x.ro (Y x.l) x.rc]):=Ea k N w n p (by rw[HS2.out];exact s);clear b k f g q M w N y s n p r l H
    go_wp2_with (at_builtin;refine UK.jm A rfl rfl rfl rfl rfl ?_)
    go_wp2;go_roundw
    case rel=>exact⟨i+1,_,_,by rw[HS2.out,zl];rfl,by rw[HS2.out],by go_num,Z,z⟩
    case measure=>simp only[intOf];omega
  have i1:((a.r:Int)==(x.r:Int))=false:=beq_eq_false_iff_ne.2 (λ t=>L Z);have j1:¬(a.r:Int)=(x.r:Int):=λ t=>L Z;clear h4 L MH
  cases E with
  | true=>
   have u:nI x d (i+1)=(o++[a],true):=by
    rw[r.out.2.2.2.2.2];unfold gD;rw[aE I.out,aE (by simp)]
   obtain⟨b,k,f,g,q,_⟩:=r.out;obtain⟨m,B,v,A,s,n,p⟩:=NA.push b Z a;rw[h2]at A;have z:Hid (NA v m B (nI x d (i+1)).1/\(∀j,aG m j->W.1.size<j)/\Below W W v/\ay v W #[V U x.r,V U x.c,ad x.ro (Y x.l) x.rc]):=Ea k f g n p (by rw[u];exact s);have HS2:=zH u;clear u b k f g q s n p r P I h2;subst R
   go_wp2_with (at_builtin;refine UK.jm A rfl rfl rfl rfl rfl ?_)
   go_wp2;go_roundw
   case rel=>exact⟨i+1,_,_,by rw[HS2.out,zl];rfl,by rw[HS2.out],by go_num,Z,z⟩
   case measure=>simp only[intOf];omega
  | false=>
   have H:=zH (Zl x a wa);by_cases F:x.r<a.r\/x.r=a.r/\x.c<a.c
   ·rw[decide_eq_true F]at H
    have u:nI x d (i+1)=(o++[x,a],true):=by
     rw[r.out.2.2.2.2.2];unfold gD;rw[aE I.out,be ⟨rfl,P.out.2 F⟩]
    have HS2:=zH u;clear F u P I h2;subst R
    go_wp2_with fail
    refine H.out.mono ?_;rintro t w4 ⟨rfl,l⟩;obtain⟨b,k,f,g,q,_⟩:=r.out;have M:NA w4 D Q o:=b.ae l.size (λ j G=>l.block j (b.lt G));have w:=g.next l;have N:=f.trans (l.mono f.size);have y:=q.next l;have s0:=w.c0;have s1:=w.c1;have s2:=w.c2;obtain⟨m,B,v,A,s,n,p⟩:=NA.push M Z x;have hp:=Ea k N w n p s
    have h6:m≠wr.1.size:=by
     rcases n with h|h
     ·exact λ t=>Zn.out (t▸h)
     have:=y.lt;omega
    have K:=hp.out;have X:=y.only p h6.symm;have t0:=X.c0;have t1:=X.c1;have t2:=X.c2;obtain⟨g2,c2',w6,eb,r6,yZ,o6⟩:=NA.push K.1 (by rw[zl];show Y o+1<=_;omega) a;rw[show(o++[x]).length=Y o+1 by rw[zl];rfl]at eb;have z:Hid (NA w6 g2 c2' (nI x d (i+1)).1/\(∀j,aG g2 j->W.1.size<j)/\Below W W w6/\ay w6 W #[V U x.r,V U x.c,ad x.ro (Y x.l) x.rc]):=Ea K.2.1 K.2.2.1 K.2.2.2 yZ o6 (by rw[HS2.out];rw[cO]at r6;exact r6);clear b k f g q M w N y s n p r l H hp h6 K X r6 yZ o6
    go_wp2_with (at_builtin;first|refine UK.jm A rfl rfl rfl rfl rfl ?_|refine UK.jm eb rfl rfl rfl rfl rfl ?_)
    go_wp2;go_roundw
    case rel=>exact⟨i+1,_,_,by rw[HS2.out,zl];rfl,by rw[HS2.out],by go_num,Z,z⟩
    case measure=>simp only[intOf];omega
   rw[decide_eq_false F]at H
   have u:nI x d (i+1)=(o++[a],false):=by
    rw[r.out.2.2.2.2.2];unfold gD;rw[aE I.out,aE (λ h=>F (P.out.1 h.2))]
   have HS2:=zH u;clear F u P I h2;subst R
   go_wp2_with fail
   refine H.out.mono ?_;rintro t w4 ⟨rfl,l⟩;obtain⟨b,k,f,g,q,_⟩:=r.out;have M:NA w4 D Q o:=b.ae l.size (λ j G=>l.block j (b.lt G));have w:=g.next l;have N:=f.trans (l.mono f.size);have y:=q.next l;have s0:=y.c0;have s1:=y.c1;have s2:=y.c2;obtain⟨m,B,v,A,s,n,p⟩:=NA.push M Z a;have z:Hid (NA v m B (nI x d (i+1)).1/\(∀j,aG m j->W.1.size<j)/\Below W W v/\ay v W #[V U x.r,V U x.c,ad x.ro (Y x.l) x.rc]):=Ea k N w n p (by rw[HS2.out];exact s);clear b k f g q M w N y s n p r l H
   go_wp2_with (at_builtin;refine UK.jm A rfl rfl rfl rfl rfl ?_)
   go_wp2;go_roundw
   case rel=>exact⟨i+1,_,_,by rw[HS2.out,zl];rfl,by rw[HS2.out],by go_num,Z,z⟩
   case measure=>simp only[intOf];omega
 obtain rfl:i=Y d:=Z
 obtain⟨b,k,f,g⟩:=HI.out;have h7:=Zm x d (Y d);obtain⟨o,E,T⟩:∃o E,nI x d (Y d)=(o,E):=⟨_,_,rfl⟩;have h1:(nI x d (Y d)).1=o:=by rw[T]
 have S:(nI x d (Y d)).2=E:=by rw[T]
 rw[h1,S];rw[h1]at b h7
 have C:oV x d=if E then o else o++[x]:=by
  unfold oV DY
  have t:d.foldl (gD x) ([],decide (x.l=[]))=(o,E):=by
   rw[<-T];unfold nI;rw[dY]
  rw[t]
 have e0:=g.c0;have e1:=g.c1;have e2:=g.c2
 cases E with
 | true=>
  have HF:=bp b k f C;clear b k f g h7 T h1 S C e0 e1 e2 HI HH;go_wp2;go_ret;obtain⟨b,k,f,C⟩:=HF.out;replace C:oV x d=o:=by simpa using C
  exact⟨D,Q,by rw[C];rfl,by rw[C];exact b,Nat.le_of_lt (k D rfl),f⟩
 | false=>
  obtain⟨m,B,v,A,s,n,p⟩:=NA.push b Z x;have hp:=Ea k f g n p s;have HF:=bg hp.out C;clear b k f g h7 T h1 S C s n p hp HI HH
  go_wp2_with (at_builtin;refine UK.jm A rfl rfl rfl rfl rfl ?_)
  go_wp2;go_ret
  obtain⟨⟨b,k,f,_⟩,C⟩:=HF.out;replace C:oV x d=o++[x]:=by simpa using C
  exact⟨m,B,by rw[C,zl];rfl,by rw[C];exact b,Nat.le_of_lt (k m rfl),f⟩
open DP (Rc bU aS jc bi jW eX)
theorem Kf(q:Rc)(s:q.ok)(a b:Nat)(E:a<100000)(F:b<100000)(W:World) :
  Calls prog 76 #[.agg #[V U q.r,V U q.c,V U q.h,V U q.w],V U a,V U b] W λ e w=>e=aw (a6 (q.has a b))/\Below W W w:=by
 obtain⟨x,y,H,I⟩:=s;obtain⟨m,g⟩:∃m,m=W.alloc (.cells #[V U q.r,V U q.c,V U q.h,V U q.w] 136):=⟨_,rfl⟩;have p:ay m W #[V U q.r,V U q.c,V U q.h,V U q.w]:=g▸ay.new W _ _;have j:Hid (Below W W m):=g▸(aU _ _).alloc (aH _) _;obtain⟨G,z,A,B⟩:=zZ p;have C:wrap64 ((q.r:Int)+q.h)=(q.r:Int)+q.h:=by unfold wrap64;omega
 have D:wrap64 ((q.c:Int)+q.w)=(q.c:Int)+q.w:=by unfold wrap64;omega
 have J:q.r<=100000:=Z
 have K:q.c<=100000:=Z
 clear p x y;obtain⟨v,n⟩:∃v,v=q.has a b:=⟨_,rfl⟩;have c:=zH n;rw[<-n];clear n;unfold Rc.has at c;by_cases f:q.r<=a
 ·by_cases i:a<q.r+q.h
  ·by_cases k:q.c<=b
   ·have o:(q.r:Int)<=a:=Z
    have r:(a:Int)<q.r+q.h:=Z
    have t:(q.c:Int)<=b:=Z
    by_cases l:b<q.c+q.w
    ·have u:(b:Int)<q.c+q.w:=Z
     have d:v=true:=by rw[c.out];exact decide_eq_true ⟨f,i,k,l⟩
     subst d;clear f i k l c
     go_enter func76,ntmps76
     go_wp2_with (simp only[<-g])
     all_goals (go_ret;exact⟨rfl,j.out⟩)
    have u:¬(b:Int)<q.c+q.w:=Z
    have d:v=false:=by rw[c.out];exact decide_eq_false (λ h=>l h.2.2.2)
    subst d;clear f i k l c
    go_enter func76,ntmps76
    go_wp2_with (simp only[<-g])
    all_goals (go_ret;exact⟨rfl,j.out⟩)
   have o:(q.r:Int)<=a:=Z
   have r:(a:Int)<q.r+q.h:=Z
   have t:¬(q.c:Int)<=b:=Z
   have d:v=false:=by rw[c.out];exact decide_eq_false (λ h=>k h.2.2.1)
   subst d;clear f i k c
   go_enter func76,ntmps76
   go_wp2_with (simp only[<-g])
   all_goals (go_ret;exact⟨rfl,j.out⟩)
  have o:(q.r:Int)<=a:=Z
  have r:¬(a:Int)<q.r+q.h:=Z
  have d:v=false:=by rw[c.out];exact decide_eq_false (λ h=>i h.2.1)
  subst d;clear f i c
  go_enter func76,ntmps76
  go_wp2_with (simp only[<-g])
  all_goals (go_ret;exact⟨rfl,j.out⟩)
 have o:¬(q.r:Int)<=a:=Z
 have d:v=false:=by rw[c.out];exact decide_eq_false (λ h=>f h.1)
 subst d;clear f c
 go_enter func76,ntmps76
 go_wp2_with (simp only[<-g])
 all_goals (go_ret;exact⟨rfl,j.out⟩)
section
variable{a b:Nat}
def lC(a b:Nat)(d:List AM):List AM:=d.filter λ x=>x.l.any λ q=>q.has a b
theorem Zo(a b:Nat)(d:List AM):(lC a b d).map gM=eX a b (d.map gM):=by
 unfold lC DP.eX;rw[List.filter_map];rfl
theorem vi(e:d[i]?=some x):lC a b (d.take (i+1))=lC a b (d.take i)++if (x.l.any λ q=>q.has a b)=true then [x] else []:=by
 have c:=(dz.1 e).1;unfold lC;rw[List.take_succ_eq_append_getElem c,show d[i]=x from bf ((bK c).symm.trans e),List.filter_append]
 congr 1
 by_cases h:(x.l.any λ q=>q.has a b)=true<;>simp[h]
theorem DE{q:Rc}(d:l[j]?=some q):((l.take (j+1)).any λ q=>q.has a b)=(((l.take j).any λ q=>q.has a b)||q.has a b):=by
 have c:=(dz.1 d).1;rw[List.take_succ_eq_append_getElem c,show l[j]=q from bf ((bK c).symm.trans d),List.any_append];simp
theorem K2(h:NA W e c d)(B:∀x∈d,RX W x.ro x.rc x.l)(H:∀x∈d,(∀q∈x.l,q.ok)/\Y x.l<=8)(hl:Y d<=1000)(ha:a<100000)(hb:b<100000) :
  Calls prog 31 #[ad e (Y d) c,V U a,V U b] W λ h2 w'=>∃v F,h2=aw (ad (some ⟨v,0,none⟩) (lC a b d).length F)/\NA w' (some ⟨v,0,none⟩) F (lC a b d)/\W.1.size<=v/\Below W W w':=by
 have HH:=bm h B H;clear h B H
 go_enter func31,ntmps31
 go_wp2_with fail
 go_loopw [7,16] (λ ov iv wr=>∃(i r u:Nat),ov=ad r (lC a b (d.take i)).length u/\iv=V U i/\i<=Y d/\Hid (NA wr r u (lC a b (d.take i))/\W.1.size<=r/\Below W W wr)) (λ _ iv _=>2000-(intOf iv).toNat)
 case atStart=>
  refine⟨0,W.1.size,0,rfl,rfl,aR _,zH ⟨al ⟨_,rfl,?_⟩,aH _,(aU _ _).alloc (aH _) _⟩⟩;exact zF W [] _
 obtain⟨i,r,u,rfl,rfl,hi,HI⟩:=hrel;by_cases hc:i<Y d
 ·obtain⟨x,N⟩:∃x,d[i]?=some x:=⟨_,bK hc⟩;obtain⟨k,p,g⟩:=HI.out;obtain⟨h,B,H⟩:=HH.out;have P:=dU N;obtain⟨w,MI⟩:=H x P;have hr:=h.ae g.size (λ j m=>g.block j (h.lt m));obtain⟨hg,rfl,a0,a1,a2⟩:=NA.three (show NA wr e c d from hr) N;have q1:(i:Int)<Y d:=Z
  have n:=vi (a:=a) (b:=b) N;have s:=(B x P).ae g.size (λ j m=>g.block j ((B x P).lt m));obtain⟨o,X⟩:∃o,o=lC a b (d.take i):=⟨_,rfl⟩;rw[<-X]at n k ⊢;have hh:Y o<=1000:=by rw[X];unfold lC;have:=List.length_filter_le (λ x:AM=>x.l.any λ q=>q.has a b) (d.take i);rw[zt]at this;omega
  obtain⟨z,G⟩:∃z,z=wr.alloc (.cells #[V U x.r,V U x.c,ad x.ro (Y x.l) x.rc] 64):=⟨_,rfl⟩;have y:z.1.size=wr.1.size+1:=by rw[G];simp
  have A:Below wr wr z:=G▸(aU _ _).alloc (aH _) _;have t:ay z wr #[V U x.r,V U x.c,ad x.ro (Y x.l) x.rc]:=G▸ay.new wr _ _;have e2:=t.c2;have A7:=s.ae A.size (λ j m=>A.block j (s.lt m));have h6:NA z r u o:=k.ae A.size (λ j m=>A.block j (k.lt m));have E:=b9 h6 p (g.trans (A.mono g.size)) t A7 n w y;clear k p g h B H P w hr n s X A t A7 h6 N HI y;obtain⟨J,h1⟩:∃J,J=z:=⟨_,rfl⟩;have Zp:Hid (J=wr.alloc (.cells #[V U x.r,V U x.c,ad x.ro (Y x.l) x.rc] 64)):=zH (h1.trans G);rw[<-h1]at E;clear h1;subst G
  go_wp2_with fail
  obtain⟨wo,he⟩:∃wo,wo=wr:=⟨_,rfl⟩;subst he
  go_loopw [10,23] (λ fv jv wr=>∃j:Nat,fv=a6 ((x.l.take j).any λ q=>q.has a b)/\jv=V U j/\j<=Y x.l/\Hid (Below J J wr)) (λ _ jv _=>100-(intOf jv).toNat)
  case atStart=>exact⟨0,rfl,rfl,aR _,by rw[<-Zp.out];exact zH (aU _ _)⟩
  clear Zp;obtain⟨j,rfl,rfl,m,D⟩:=hrel;by_cases h9:j<Y x.l
  ·obtain⟨q,M⟩:∃q,x.l[j]?=some q:=⟨_,bK h9⟩;obtain⟨k,p,g,t,s,n,w,y⟩:=E.out;have l:=D.out;have A8:=s.ae l.size (λ j m=>l.block j (s.lt m));obtain⟨g2,h4,d0,d1,d2,d3⟩:=RX.four A8 M;have q2:(j:Int)<Y x.l:=Z
   have h0:=DE (a:=a) (b:=b) M;have h7:=w q (dU M);obtain⟨f,hf⟩:∃f,f=((x.l.take j).any λ q=>q.has a b):=⟨_,rfl⟩;rw[<-hf]at h0 ⊢;rw[h4];have Zq:=zH h0;obtain⟨Q,h8⟩:∃Q,Q=wr.alloc (.cells #[V U q.r,V U q.c,V U q.h,V U q.w] 136):=⟨_,rfl⟩;have bq:Below wr wr Q:=h8▸(aU _ _).alloc (aH _) _;have Zr:=zH (Kf q h7 a b ha hb Q);have L:=zH (l.trans (bq.mono l.size));have Ty:=zH hf;clear k p g t s n w y A8 M h0 h7 hf bq D l h4;subst h8
   cases f with
   | true=>
    go_wp2;go_roundw
    case rel=>exact⟨j+1,by rw[Zq.out];simp,by go_num,Z,L⟩
    case measure=>simp only[intOf];omega
   | false=>
    go_wp2_with fail
    refine Zr.out.mono ?_;rintro h2 w5 ⟨rfl,h3⟩;have TV:=zH (L.out.trans (h3.mono L.out.size));clear h3 Zr L;go_wp2;go_roundw
    case rel=>exact⟨j+1,by rw[Zq.out];simp,by go_num,Z,TV⟩
    case measure=>simp only[intOf];omega
  obtain rfl:j=Y x.l:=Z
  obtain⟨k,p,g,t,s,n,w,y⟩:=E.out;have l:=D.out;rw[dY];obtain⟨f,hf⟩:∃f,f=(x.l.any λ q=>q.has a b):=⟨_,rfl⟩;rw[<-hf]at n ⊢;have K:NA wr r u o:=k.ae l.size (λ j m=>l.block j (k.lt m));have C:=g.trans (l.mono g.size);have I:=t.next l;have s0:=I.c0;have s1:=I.c1;have s2:=I.c2
  cases f with
  | true=>
   obtain⟨v,F,w5,ea,r5,h5,o5⟩:=NA.push K Z x
   have T:W.1.size<=v:=by
    rcases h5 with h|h
    ·rw[eY h];exact p
    exact aT C.size h
   have R:Hid (NA w5 v F (lC a b (d.take (i+1)))/\W.1.size<=v/\Below W W w5):=zH ⟨by rw[n];exact r5,T,C.trans (o5.below C.size T)⟩;have HS2:=zH n;clear k p g t s n w y l K C I r5 h5 o5 T E D hf
   go_wp2_with (at_builtin;refine UK.jm ea rfl rfl rfl rfl rfl ?_)
   go_wp2;go_roundw
   case rel=>exact⟨i+1,v,F,by rw[HS2.out,zl];rfl,by go_num,Z,R⟩
   case measure=>simp only[intOf];omega
  | false=>
   have S:lC a b (d.take (i+1))=o:=by rw[n];simp
   have R:Hid (NA wr r u (lC a b (d.take (i+1)))/\W.1.size<=r/\Below W W wr):=zH ⟨by rw[S];exact K,p,C⟩;have HS2:=zH S;clear k p g t s n w y l K C I E D hf S;go_wp2;go_roundw
   case rel=>exact⟨i+1,r,u,by rw[HS2.out],by go_num,Z,R⟩
   case measure=>simp only[intOf];omega
 obtain rfl:i=Y d:=Z
 go_wp2;go_ret
 obtain⟨k,p,g⟩:=HI.out;rw[dY]at k;exact⟨r,u,by rw[dY];rfl,k,p,g⟩
end
section
variable{r k:Nat}
theorem G1(c:d[i]?=some x)(a:dW x=k)(b:jc (d.map gM)):jW (d.map gM) k=x.l:=by
 have:=DP.oU b (x:=gM x) (bL.2 ⟨x,dU c,rfl⟩);rw[<-a];exact this
theorem C3(h:NA W e c d)(hl:Y d<=1000)(m:∀y∈d,y.c<4294967296)(hk:k<4294967296)(n:jc (d.map gM)) :
  Calls prog 70 #[ad e (Y d) c,V U r,V U k] W λ o Q=>∃E l L,o=aw (ad E (Y l) L)/\l=jW (d.map gM) (bi r k)/\((l=[]/\E=none)\/∃x∈d,x.ro=E/\x.rc=L/\x.l=l)/\Below W W Q:=by
 have G:=bm h m n;clear h m n
 go_enter func70,ntmps70
 go_wp2_with fail
 go_loopw [11] (λ D wr=>∃i:Nat,D=V U i/\i<=Y d/\Hid ((∀y∈d.take i,¬(y.r=r/\y.c=k))/\Below W W wr)) (λ D _=>2000-(intOf D).toNat)
 case atStart=>exact⟨0,rfl,aR _,zH ⟨λ y b=>(by cases b),aU _ _⟩⟩
 obtain⟨i,rfl,hi,HI⟩:=hrel;by_cases C:i<Y d
 ·obtain⟨x,s⟩:∃x,d[i]?=some x:=⟨_,bK C⟩;obtain⟨p,f⟩:=HI.out;obtain⟨h,m,n⟩:=G.out;have A:=dU s;have v:=h.ae f.size (λ j N=>f.block j (h.lt N));obtain⟨g,rfl,R,S,T⟩:=NA.three (show NA wr e c d from v) s;have q1:(i:Int)<Y d:=Z
  obtain⟨B,u⟩:∃B,B=wr.alloc (.cells #[V U x.r,V U x.c,ad x.ro (Y x.l) x.rc] 64):=⟨_,rfl⟩;have t:Below wr wr B:=u▸(aU _ _).alloc (aH _) _;have I:=zH (f.trans (t.mono f.size))
  have w:d.take (i+1)=d.take i++[x]:=by
   rw[List.take_succ_eq_append_getElem C,show d[i]=x from bf ((bK C).symm.trans s)]
  by_cases a:x.r=r/\x.c=k
  ·have F:Hid (x.l=jW (d.map gM) (bi r k)/\x∈d):=zH ⟨(G1 s (by unfold dW;rw[a.1,a.2]) n).symm,A⟩;have K:((x.r:Int)==(r:Int))=true:=by rw[a.1];exact beq_self_eq_true _
   have P:((x.c:Int)==(k:Int))=true:=by rw[a.2];exact beq_self_eq_true _
   clear p f h m n A v t w a HI s;subst u;go_wp2;go_ret;exact⟨x.ro,x.l,x.rc,rfl,F.out.1,al ⟨x,F.out.2,rfl,rfl,rfl⟩,I.out⟩
  have H:Hid ((∀y∈d.take (i+1),¬(y.r=r/\y.c=k))/\Below W W B):=zH ⟨λ y b=>by
   rw[w]at b;rcases dm.1 b with b|b
   ·exact p y b
   rw[bu.1 b];exact a,I.out⟩
  by_cases q:x.r=r
  ·have K:((x.r:Int)==(r:Int))=true:=by rw[q];exact beq_self_eq_true _
   have P:((x.c:Int)==(k:Int))=false:=beq_eq_false_iff_ne.2 (λ o=>a ⟨q,Z⟩);have j2:¬(x.c:Int)=(k:Int):=λ o=>a ⟨q,Z⟩;clear p f h m n A v t w a HI q s;subst u;go_wp2;go_roundw
   case rel=>exact⟨i+1,by go_num,Z,H⟩
   case measure=>simp only[intOf];omega
  have K:((x.r:Int)==(r:Int))=false:=beq_eq_false_iff_ne.2 (λ o=>q Z);have j1:¬(x.r:Int)=(r:Int):=λ o=>q Z;clear p f h m n A v t w a HI q s;subst u;go_wp2;go_roundw
  case rel=>exact⟨i+1,by go_num,Z,H⟩
  case measure=>simp only[intOf];omega
 obtain rfl:i=Y d:=Z
 go_wp2;go_ret
 obtain⟨p,f⟩:=HI.out;obtain⟨h,m,n⟩:=G.out;rw[dY]at p;refine⟨none,[],0,rfl,?_,O ⟨rfl,rfl⟩,f⟩;refine(DP.pO (λ y b o=>?_)).symm;obtain⟨z,J,rfl⟩:=bL.1 b;have X:=m z J;have M:bi z.r z.c=bi r k:=o;unfold DP.bi at M;exact p z J ⟨Z,Z⟩
theorem Zu(b:CX W z y L)(h:NA W e c d)(C:Y d<=1000)(a:L=d.map λ x=>(x.r,x.c)) :
  Calls prog 68 #[ad z (Y L) y,ad e (Y d) c] W λ a u=>a=aw (V U 0)/\Below W W u:=by
 have m:Y L=Y d:=by rw[a,bS]
 have r:=bm b h a;rw[m];clear b h a m
 go_enter func68,ntmps68
 go_wp2_with fail
 go_loopw [13] (λ j wr=>∃(i n:Nat),j=V U i/\i<=Y d/\wr=W.drewN n) (λ j _=>2000-(intOf j).toNat)
 case atStart=>exact⟨0,0,rfl,aR _,rfl⟩
 obtain⟨i,n,rfl,B,rfl⟩:=hrel;by_cases t:i<Y d
 ·obtain⟨x,f⟩:∃x,d[i]?=some x:=⟨_,bK t⟩;obtain⟨b,h,a⟩:=r.out;obtain⟨g,rfl,k,l,s⟩:=NA.three h f;obtain⟨p,rfl,o,b1⟩:=CX.two b (j:=i) (x:=(x.r,x.c)) (by rw[a,dL,f];rfl);have E:∀q,(W.drewN q).cell? (g,i*3)=some (V U x.r):=λ _=>k;have v:∀q,(W.drewN q).cell? (g,i*3+1)=some (V U x.c):=λ _=>l;have w:∀q,(W.drewN q).cell? (p,i*2)=some (V U x.r):=λ _=>o;have A:∀q,(W.drewN q).cell? (p,i*2+1)=some (V U x.c):=λ _=>b1;have D:(i:Int)<Y d:=Z
  clear b h a k l s o b1 f
  go_wp2_with fail
  go_quiet (fail)
  go_wp2;go_roundw
  case rel=>exact⟨i+1,_,by go_num,Z,rfl⟩
  case measure=>simp only[intOf];omega
 obtain rfl:i=Y d:=Z
 go_wp2;go_ret
 exact⟨rfl,UK.dN (aU _ _) n⟩
end
open UK (str aF nth Only Row ay w32)
open DP (Rc)
def Ay(r c h w:Int):Prop:=0<=r/\0<=c/\0<h/\0<w/\h<=3000/\w<=700/\r<=3000-h/\c<=700-w
theorem Ay.rc{r c h w:Int}(g:Ay r c h w):∃q:Rc,q.ok/\r=(q.r:Int)/\c=(q.c:Int)/\h=(q.h:Int)/\w=(q.w:Int):=by
 obtain⟨a,b,d,e,f,i,j,k⟩:=g;refine⟨⟨r.toNat,c.toNat,h.toNat,w.toNat⟩,⟨?_,?_,?_,?_⟩,?_,?_,?_,?_⟩<;>(simp only[];omega)
theorem YU(a b:Int)(W:World) :
  Calls prog 12 #[.agg #[V U a,V U b]] W λ e k=>∃x y:Nat,x<3000/\y<700/\e=aw (.agg #[V U x,V U y])/\Below W W k:=by
 have l:a.tmod 3000<3000:=Int.tmod_lt_of_pos _ Z;have m: -3000<a.tmod 3000:=Int.neg_lt_of_neg_lt (by rw[<-Int.neg_tmod];exact Int.tmod_lt_of_pos _ Z);have b1:b.tmod 700<700:=Int.tmod_lt_of_pos _ Z;have n: -700<b.tmod 700:=Int.neg_lt_of_neg_lt (by rw[<-Int.neg_tmod];exact Int.tmod_lt_of_pos _ Z)
 go_enter func12,ntmps12
 go_wp2;obtain⟨x,i,g⟩:∃x:Nat,x<3000/\a.tmod 3000%3000=(x:Int):=⟨(a.tmod 3000%3000).toNat,Z,Z⟩
 obtain⟨y,j,d⟩:∃y:Nat,y<700/\b.tmod 700%700=(y:Int):=⟨(b.tmod 700%700).toNat,Z,Z⟩;rw[g,d];have f:Below W W (W.alloc (.cells #[V U a,V U b] 25)):=(aU _ _).alloc (aH _) _;have h:Below W W ((W.alloc (.cells #[V U a,V U b] 25)).alloc (.cells #[V U x,V U y] 25)):=f.alloc (by simp) _;have c:=ay.new (W.alloc (.cells #[V U a,V U b] 25)) #[V U x,V U y] 25;rw[show(W.alloc (.cells #[V U a,V U b] 25)).1.size=W.1.size+1 by simp]at c;refine bodyPost_ret (UK.Yv (p:=2) (ty:=25) rfl _ c rfl underlying25 rfl (by kernel_rfl)) rfl ?_;exact⟨x,y,i,j,rfl,h⟩
instance (r c h w:Int):Decidable (Ay r c h w):=by unfold Ay;exact inferInstance
theorem C5(r c h w:Int)(W:World) :
  Calls prog 113 #[.agg #[V U r,V U c,V U h,V U w]] W λ e l=>e=aw (a6 (decide (Ay r c h w)))/\Below W W l:=by
 obtain⟨b,i⟩:∃b,b=W.alloc (.cells #[V U r,V U c,V U h,V U w] 136):=⟨_,rfl⟩;have a:ay b W #[V U r,V U c,V U h,V U w]:=i▸ay.new W _ _;have k:Hid (Below W W b):=i▸(aU _ _).alloc (aH _) _;have Y:=a.cell 0 _ rfl;have m:=a.cell 1 _ rfl;have n:=a.cell 2 _ rfl;have o:=a.cell 3 _ rfl;obtain⟨v,f⟩:∃v,v=decide (Ay r c h w):=⟨_,rfl⟩;rw[<-f];have d:=zH f;clear a f;by_cases s:0<=r;have M:¬r<0:=Z
 by_cases u:0<=c;have N:¬c<0:=Z
 by_cases x:1<=h;have P:¬h<1:=Z
 by_cases y:1<=w;have Q:¬w<1:=Z
 by_cases z:r<=2999;have R:¬2999<r:=Z
 by_cases A:c<=699;have S:¬699<c:=Z
 by_cases B:h<=3000;have T:¬3000<h:=Z
 by_cases C:w<=700;have X:¬700<w:=Z
 have p:wrap64 (r+h)=r+h:=by unfold wrap64;omega
 have q:wrap64 (c+w)=c+w:=by unfold wrap64;omega
 by_cases D:r+h<=3000;by_cases t:c+w<=700
 all_goals
  (first|(have j:v=true:=(by rw[d.out];exact decide_eq_true (by unfold Ay;omega)))|(have j:v=false:=(by rw[d.out];exact decide_eq_false (λ g=>by unfold Ay at g;omega))))
  subst j;clear d
  (try have E:r<0:=Z)
  (try have F:c<0:=Z)
  (try have G:h<1:=Z)
  (try have H:w<1:=Z)
  (try have I:2999<r:=Z)
  (try have J:699<c:=Z)
  (try have K:3000<h:=Z)
  (try have L:700<w:=Z)
  go_enter func113,ntmps113
  go_wp2_with (simp only[<-i])
  all_goals (go_ret;exact⟨rfl,k.out⟩)
def qZ(r c h w:Nat->Int):Nat->List Rc
 | 0=>[]
 | n+1=>qZ r c h w n++if Ay (r n) (c n) (h n) (w n) then [⟨(r n).toNat,(c n).toNat,(h n).toNat,(w n).toNat⟩] else []
theorem Qr(r c h w:Nat->Int):∀n,(qZ r c h w n).length<=n
 | 0=>aH _
 | n+1=>by
  have:=Qr r c h w n;unfold qZ;rw[zl]
  split
  ·simp;omega
  simp;omega
theorem TW(r c h w:Nat->Int):∀n,∀q∈qZ r c h w n,q.ok
 | 0,q,a=>by cases a
 | n+1,q,a=>by
  unfold qZ at a;rcases dm.1 a with a|a
  ·exact TW r c h w n q a
  split at a
  ·rename_i g
   rw[bu.1 a];obtain⟨b,d,e,f,i,j,k,l⟩:=g;refine⟨?_,?_,?_,?_⟩<;>(simp only[];omega)
  cases a
def BU(W:World)(e:Option Addr)(len:Nat)(r c h w:Nat->Int):Prop:=
 len=0\/∃b off,e=some ⟨b,off,none⟩/\b<W.1.size/\∀j,j<len->W.cell? ⟨b,off+j*4,none⟩=some (V U (r j))/\W.cell? ⟨b,off+j*4+1,none⟩=some (V U (c j))/\W.cell? ⟨b,off+j*4+2,none⟩=some (V U (h j))/\W.cell? ⟨b,off+j*4+3,none⟩=some (V U (w j))
theorem BU.next{c:Nat->Int}(x:BU W e len r c h w)(a:Below W W W'):BU W' e len r c h w:=by
 rcases x with x|⟨b,off,l,d,m⟩
 ·exact O x
 refine al ⟨b,off,l,cB d a.size,λ j n=>?_⟩;obtain⟨f,g,i,k⟩:=m j n;exact⟨(eB (a.block b d)).trans f,(eB (a.block b d)).trans g,(eB (a.block b d)).trans i,(eB (a.block b d)).trans k⟩
section
variable{t:Nat}{c:Nat->Int}
theorem Zv(u:BU W e len r c h w)(cap:Nat) :
  Calls prog 53 #[ad e len cap] W λ S w'=>∃m B,S=aw (ad (some ⟨m,0,none⟩) (qZ r c h w (min len 8)).length B)/\RX w' (some ⟨m,0,none⟩) B (qZ r c h w (min len 8))/\W.1.size<=m/\Below W W w':=by
 have HH:=zH u;clear u
 go_enter func53,ntmps53
 go_wp2_with fail
 go_loopw [3,4] (λ ov R wr=>∃(i d l:Nat),ov=ad d (qZ r c h w i).length l/\R=V U i/\i<=min len 8/\Hid (RX wr d l (qZ r c h w i)/\W.1.size<=d/\Below W W wr)) (λ _ R _=>100-(intOf R).toNat)
 case atStart=>
  refine⟨0,W.1.size,0,rfl,rfl,aR _,zH ⟨al ⟨_,rfl,?_⟩,aH _,(aU _ _).alloc (aH _) _⟩⟩;exact zF W [] _
 obtain⟨i,d,l,rfl,rfl,hi,HI⟩:=hrel;by_cases h3:i<min len 8
 ·obtain⟨p,s,n⟩:=HI.out;rcases(HH.out.next n)with h0|⟨b,off,rfl,k,X⟩
  ·omega
  obtain⟨x,y,z,A⟩:=X i Z;have q1:(i:Int)<len:=Z
  have q2:(i:Int)<8:=Z
  obtain⟨o,F⟩:∃o,o=qZ r c h w i:=⟨_,rfl⟩;have a:qZ r c h w (i+1)=o++if Ay (r i) (c i) (h i) (w i) then [⟨(r i).toNat,(c i).toNat,(h i).toNat,(w i).toNat⟩] else []:=by rw[F];rfl
  have h4:Y o<=i:=by rw[F];exact Qr r c h w i
  rw[<-F]at p ⊢;generalize r i=G at *;generalize c i=D at *;generalize h i=E at *;generalize w i=H at *;have I:=zH (C5 G D E H wr);have K:=bT p s n a k x y z A;clear p s n X a F k HI
  go_wp2_with fail
  refine I.out.mono ?_;rintro S t ⟨rfl,f⟩;obtain⟨p,s,n,a,k,x,y,z,A⟩:=K.out;have C:RX t d l o:=p.ae f.size (λ j hj=>f.block j (p.lt hj));have v:=n.trans (f.mono n.size);have d0:t.cell? (b,off+i*4)=some (V U G):=(eB (f.block b k)).trans x;have d1:t.cell? (b,off+i*4+1)=some (V U D):=(eB (f.block b k)).trans y;have d2:t.cell? (b,off+i*4+2)=some (V U E):=(eB (f.block b k)).trans z;have d3:t.cell? (b,off+i*4+3)=some (V U H):=(eB (f.block b k)).trans A;by_cases g:Ay G D E H
  ·rw[decide_eq_true g];rw[be g]at a;obtain⟨h2,hq,L,M,N,P⟩:=g.rc
   have h1:(⟨G.toNat,D.toNat,E.toNat,H.toNat⟩:Rc)=h2:=by
    rw[L,M,N,P];simp
   rw[h1]at a;obtain⟨m,B,w6,T,r6,yZ,o6⟩:=RX.push C Z h2;rw[<-L,<-M,<-N,<-P]at T
   have Q:W.1.size<=m:=by
    rcases yZ with u|u
    ·rw[eY u];exact s
    exact aT v.size u
   have J:Hid (RX w6 m B (qZ r c h w (i+1))/\W.1.size<=m/\Below W W w6):=zH ⟨by rw[a];exact r6,Q,v.trans (o6.below v.size Q)⟩;have HS2:=zH a;clear p s n a k x y z A f C v g hq L M N P h1 r6 yZ o6 Q K I
   go_wp2_with (at_builtin;refine UK.jm T rfl rfl rfl rfl rfl ?_)
   go_wp2;go_roundw
   case rel=>exact⟨i+1,m,B,by rw[HS2.out,zl];rfl,by go_num,Z,J⟩
   case measure=>simp only[intOf];omega
  rw[decide_eq_false g];rw[aE g,jl]at a;have J:Hid (RX t d l (qZ r c h w (i+1))/\W.1.size<=d/\Below W W t):=zH ⟨by rw[a];exact C,s,v⟩;have HS2:=zH a;clear p s n a k x y z A f C v g K I;go_wp2;go_roundw
  case rel=>exact⟨i+1,d,l,by rw[HS2.out],by go_num,Z,J⟩
  case measure=>simp only[intOf];omega
 obtain rfl:i=min len 8:=Z
 have HI2:=HI;clear HI;by_cases Ck:len<=8
 ·have q:min len 8=len:=gV Ck;rw[q]at HI2 ⊢;go_wp2;go_ret;exact⟨d,l,by rw[q];rfl,by rw[q];exact HI2.out⟩
 have q:min len 8=8:=Nat.min_eq_right Z;rw[q]at HI2 ⊢;have q1:(8:Int)<len:=Z
 go_wp2;go_ret
 exact⟨d,l,by rw[q];rfl,by rw[q];exact HI2.out⟩
theorem RX.Il{c:Nat}(h:RX W e c l)(d:Y l<=1000000)(x:Rc) :
  ∃a b W',(Builtin.append_ #[62,62] 62 #[ad e (Y l) c,ad W 1 1]).run prog (W.alloc (.cells #[V U x.r,V U x.c,V U x.h,V U x.w] 136))= .ok (ad (some ⟨a,0,none⟩) (Y l+1) b) W'/\RX W' (some ⟨a,0,none⟩) b (l++[x])/\(aG e a\/W.1.size<=a)/\Only a W W':=
 NX.push (enc:=GU) underlying62 (i:=t136) rfl rfl rfl (show(32:Nat)<=64 from Z) rfl xii XI h d x
theorem me(f:RX W e cap l)(S:Y l<=100) :
  Calls prog 55 #[ad e (Y l) cap] W λ K H=>∃a k,K=aw (ad (some ⟨a,0,none⟩) (Y l) k)/\RX H (some ⟨a,0,none⟩) k l/\W.1.size<=a/\Below W W H:=by
 have y:=zH f;clear f
 go_enter func55,ntmps55
 go_wp2_with fail
 go_loopw [3,9] (λ L w wr=>∃(i c h:Nat),L=ad c i h/\w=V U i/\i<=Y l/\Hid (RX wr c h (l.take i)/\W.1.size<=c/\Below W W wr)) (λ _ w _=>1000-(intOf w).toNat)
 case atStart=>
  refine⟨0,W.1.size,0,rfl,rfl,aR _,zH ⟨al ⟨_,rfl,?_⟩,aH _,(aU _ _).alloc (aH _) _⟩⟩;exact zF W [] _
 obtain⟨i,c,h,rfl,rfl,R,HI⟩:=hrel;by_cases u:i<Y l
 ·obtain⟨q,v⟩:∃q,l[i]?=some q:=⟨_,bK u⟩;obtain⟨d,p,b⟩:=HI.out;have C:=y.out.ae b.size (λ j t=>b.block j (y.out.lt t));obtain⟨g,rfl,M,N,P,Q⟩:=RX.four C v;have T:(i:Int)<Y l:=Z
  have B:(l.take i).length=i:=by rw[zt];omega
  have E:l.take (i+1)=l.take i++[q]:=by
   rw[List.take_succ_eq_append_getElem u,show l[i]=q from bf ((bK u).symm.trans v)]
  obtain⟨m,r⟩:∃m,m=wr.alloc (.cells #[V U q.r,V U q.c,V U q.h,V U q.w] 23):=⟨_,rfl⟩;have D:m.1.size=wr.1.size+1:=by rw[r];simp
  have o:Below wr wr m:=r▸(aU _ _).alloc (aH _) _;have x:RX m c h (l.take i):=d.ae o.size (λ j t=>o.block j (d.lt t));have n:=b.trans (o.mono b.size);obtain⟨a,k,I,z,G,A,F⟩:=RX.Il x Z q;rw[B,D]at z
  have s:W.1.size<=a:=by
   rcases A with f|f
   ·rw[eY f];exact p
   exact aT n.size f
  have J:Hid (RX I a k (l.take (i+1))/\W.1.size<=a/\Below W W I):=zH ⟨by rw[E];exact G,s,n.trans (F.below n.size s)⟩;clear d p b C B E D o x n G A F s v HI;subst r
  go_wp2_with (at_builtin;refine UK.jm z rfl rfl rfl rfl rfl ?_)
  go_wp2;go_roundw
  case rel=>exact⟨i+1,a,k,by go_num,by go_num,Z,J⟩
  case measure=>simp only[intOf];omega
 obtain rfl:i=Y l:=Z
 go_wp2;go_ret
 obtain⟨d,p,b⟩:=HI.out;rw[dY]at d;exact⟨c,h,rfl,d,p,b⟩
end
