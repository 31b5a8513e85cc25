/- Facts on texts and trees on pages. -/
import Derived.Test.YtgpmiliahonaoaaGreatDoorKSoHc
set_option maxRecDepth 100000
set_option maxHeartbeats 8000000
set_option linter.unusedSimpArgs false
namespace Go.Proofs.YtgpmiliahonaoaaGreatDoor
open Go.RowKit
open UK (Only ay)
open Go.BigFrame
namespace So
variable{a b a1 b1 m i j:Nat}{f g h:Nat->UInt64}
def PQ(a b a1 b1:Nat)(f:Nat->UInt64):Prop:=∀x y,a<=x->x<y->y<b->(x<a1\/b1<=y)->(f x).toNat<=(f y).toNat
theorem PQ.sh(h:PQ a b a1 b1 f)(hs:Sh a1 b1 f g)(ha:a<=a1)(hb:b1<=b):PQ a b a1 b1 g:=λ x y h1 h2 h3 h4=>by
 by_cases hx:x<a1\/b1<=x
 ·rw[hs.out hx];by_cases hy:y<a1\/b1<=y
  ·rw[hs.out hy];exact h x y h1 h2 h3 h4
  exact hs.all (P:=λ v=>(f x).toNat<=v.toNat) (λ k k1 k2=>h x k h1 (by omega) (by omega) (by omega)) y (by omega) (by omega)
 rw[hs.out (k:=y) (by omega)];exact hs.all (P:=λ v=>v.toNat<=(f y).toNat) (λ k k1 k2=>h k y (by omega) (by omega) h3 (by omega)) x (by omega) (by omega)
theorem PQ.done(h:PQ a b a1 b1 f)(hs:lh a1 b1 f):lh a b f:=λ x y h1 h2 h3=>by
 by_cases hx:x<a1\/b1<=y
 ·exact h x y h1 h2 h3 hx
 exact hs x y (by omega) h2 (by omega)
theorem PQ.left(h:PQ a b a1 b1 f)(hs:lh a1 m f)(hl:∀k,a1<=k->k<m->(f k).toNat<=(f m).toNat)(hr:∀k,m<k->k<b1->(f m).toNat<=(f k).toNat):PQ a b (m+1) b1 f:=λ x y h1 h2 h3 h4=>by
 by_cases hx:x<a1\/b1<=y
 ·exact h x y h1 h2 h3 hx
 by_cases e1:y<m
 ·exact hs x y (by omega) h2 e1
 by_cases e2:y=m
 ·subst e2;exact hl x (by omega) h2
 by_cases e3:x=m
 ·subst e3;exact hr y h2 (by omega)
 exact aP (hl x (by omega) (by omega)) (hr y (by omega) (by omega))
theorem PQ.right(h:PQ a b a1 b1 f)(hs:lh (m+1) b1 f)(hl:∀k,a1<=k->k<m->(f k).toNat<=(f m).toNat)(hr:∀k,m<k->k<b1->(f m).toNat<=(f k).toNat):PQ a b a1 m f:=λ x y h1 h2 h3 h4=>by
 by_cases hx:x<a1\/b1<=y
 ·exact h x y h1 h2 h3 hx
 by_cases e1:m<x
 ·exact hs x y (by omega) h2 (by omega)
 by_cases e2:x=m
 ·subst e2;exact hr y h2 (by omega)
 by_cases e3:y=m
 ·subst e3;exact hl x (by omega) h2
 exact aP (hl x (by omega) (by omega)) (hr y (by omega) (by omega))
theorem PQ.like(h:PQ a b a1 b1 f)(hlo:Lo a1 b1 f)(h0:0<a1)(hm:a1<m)(hp:(f a1).toNat<=(f (a1-1)).toNat)(hl:∀k,a1<=k->k<m->(f k).toNat<=(f a1).toNat)(hr:∀k,m<=k->k<b1->(f a1).toNat<(f k).toNat):PQ a b m b1 f/\Lo m b1 f:=by
 have low:∀k,a1<=k->k<b1->(f a1).toNat<=(f k).toNat:=λ k k1 k2=>aP hp (hlo k h0 k1 k2);refine⟨λ x y h1 h2 h3 h4=>?_,λ k k0 k1 k2=>?_⟩
 ·by_cases hx:x<a1\/b1<=y
  ·exact h x y h1 h2 h3 hx
  have h5:=hl x (by omega) (by omega);have h6:=low y (by omega) (by omega);omega
 have h5:=hl (m-1) (by omega) (by omega);have h6:=hr k k1 k2;omega
structure PD(W:World)(B n a b:Nat)(f:Nat->UInt64)(a1 b1:Nat)(f1:Nat->UInt64)(w:World):Prop where
 Aw:a<=a1
 ab:a1<=b1
 zy:b1<=b
 sh:Sh a b f f1
 lo:Lo a1 b1 f1
 pq:PQ a b a1 b1 f1
 u:dC w B n f1
 o:Only B W w
variable{W w w':World}{B n:Nat}{f1 f2:Nat->UInt64}
theorem PD.step(h:PD W B n a b f a1 b1 f1 w)(hs:Sh a1 b1 f1 f2)(hu:dC w' B n f2)(ho:Only B w w'):PD W B n a b f a1 b1 f2 w':=
 ⟨h.Aw,h.ab,h.zy,h.sh.trans (hs.wide h.Aw h.zy),h.lo.sh hs,h.pq.sh hs h.Aw h.zy,hu,h.o.trans ho⟩
theorem PD.same(h:PD W B n a b f a1 b1 f1 w)(hb:Below w w w'):PD W B n a b f a1 b1 f1 w':=
 ⟨h.Aw,h.ab,h.zy,h.sh,h.lo,h.pq,h.u.ae hb.size (hb.block B h.u.lt),h.o.trans (Only.of_below hb)⟩
theorem PD.drewN(h:PD W B n a b f a1 b1 f1 w)(q:Nat):PD W B n a b f a1 b1 f1 (w.drewN q):=⟨h.Aw,h.ab,h.zy,h.sh,h.lo,h.pq,h.u.drewN q,h.o.drewN q⟩
theorem PD.left{fp:Nat->UInt64}{wp:World}(h:PD W B n a b f a1 b1 f1 w)(hp:Sh a1 b1 f1 fp)(hm:a1<=m/\m<b1)(hl:∀k,a1<=k->k<m->(fp k).toNat<(fp m).toNat)(hr:∀k,m<k->k<b1->(fp m).toNat<=(fp k).toNat)(up:dC wp B n fp)(op:Only B w wp)
  (hs:Sh a1 m fp f2) (ht:lh a1 m f2) (hu:dC w' B n f2) (ho:Only B wp w'):PD W B n a b f (m+1) b1 f2 w':=by
 have e1:f2 m=fp m:=hs.out (.inr (aO _))
 have hl2:∀k,a1<=k->k<m->(f2 k).toNat<=(f2 m).toNat:=λ k k1 k2=>by
  rw[e1];exact hs.all (P:=λ v=>v.toNat<=(fp m).toNat) (λ k k1 k2=>Nat.le_of_lt (hl k k1 k2)) k k1 k2
 have hr2:∀k,m<k->k<b1->(f2 m).toNat<=(f2 k).toNat:=λ k k1 k2=>by
  rw[e1,hs.out (k:=k) (.inr (by omega))];exact hr k k1 k2
 have h2:=(h.step hp up op).step (hs.wide (aO _) (by omega)) hu ho;have:=h.Aw;exact⟨by omega,by omega,h.zy,h2.sh,λ k _ k1 k2=>hr2 k (by omega) k2,h2.pq.left ht hl2 hr2,hu,h2.o⟩
theorem PD.right{fp:Nat->UInt64}{wp:World}(h:PD W B n a b f a1 b1 f1 w)(hp:Sh a1 b1 f1 fp)(hm:a1<=m/\m<b1)(hl:∀k,a1<=k->k<m->(fp k).toNat<(fp m).toNat)(hr:∀k,m<k->k<b1->(fp m).toNat<=(fp k).toNat)(up:dC wp B n fp)(op:Only B w wp)
  (hs:Sh (m+1) b1 fp f2) (ht:lh (m+1) b1 f2) (hu:dC w' B n f2) (ho:Only B wp w'):PD W B n a b f a1 m f2 w':=by
 have e1:f2 m=fp m:=hs.out (.inl (Nat.lt_succ_self _))
 have hl2:∀k,a1<=k->k<m->(f2 k).toNat<=(f2 m).toNat:=λ k k1 k2=>by
  rw[e1,hs.out (k:=k) (.inl (by omega))];exact Nat.le_of_lt (hl k k1 k2)
 have hr2:∀k,m<k->k<b1->(f2 m).toNat<=(f2 k).toNat:=λ k k1 k2=>by
  rw[e1];exact hs.all (P:=λ v=>(fp m).toNat<=v.toNat) (λ k k1 k2=>hr k (by omega) k2) k (by omega) k2
 have h2:=(h.step hp up op).step (hs.wide (by omega) (aO _)) hu ho;have:=h.zy;exact⟨h.Aw,by omega,by omega,h2.sh,λ k k0 k1 k2=>h2.lo k k0 k1 (by omega),h2.pq.right ht hl2 hr2,hu,h2.o⟩
theorem PD.done(h:PD W B n a b f a1 b1 f1 w)(hs:Sh a1 b1 f1 f2)(ht:lh a1 b1 f2):Sh a b f f2/\lh a b f2:=
 ⟨h.sh.trans (hs.wide h.Aw h.zy),(h.pq.sh hs h.Aw h.zy).done ht⟩
def Rm(W w':World)(B n a b:Nat)(f:Nat->UInt64)(e:Ending):Prop:=e= .returned (.tuple #[])/\∃f',Sh a b f f'/\lh a b f'/\dC w' B n f'/\Only B W w'
theorem N9(x:Bool):∃t:Nat,t<=1/\Value.bool x=Value.bool (t==1):=by
 cases x
 ·exact⟨0,by omega,rfl⟩
 exact⟨1,by omega,rfl⟩
theorem yar(n cap B:Nat)(hn:n<=1000000):∀(d a b l:Nat) (f:Nat->UInt64) (W:World),b-a<d->a<=b->b<=n->l<=100->dC W B n f->Lo a b f ->
  Calls Tryz.prog 111 #[.slice B n cap,.int .i64 a,.int .i64 b,.int .i64 l] W λ e w'=>Rm W w' B n a b f e:=by
 intro d
 induction d with
 | zero=>exact λ a b l f W hd=>absurd hd (jO _)
 | succ d ih=>
  intro a b l f W hd hab hb KL h hlo;have Xl:=zH ih;have Xm:=zH (show PD W B n a b f a b f W from⟨aO _,hab,aO _,.refl,hlo,λ x y h1 h2 h3 h4=>by omega,h,Only.refl _ _⟩);clear ih h hlo
  go_enter Tryz.func111,Tryz.ntmps111
  go_wp2_with fail
  go_loopw [1,2,3,8,9] (λ v1 v2 v3 v8 v9 wr=>∃(a1 b1 l1:Nat) (f1:Nat->UInt64),v1= .int .i64 a1/\v2= .int .i64 b1/\v3= .int .i64 l1/\l1<=100/\(∃t:Nat,t<=1/\v8= .bool (t==1))/\(∃t:Nat,t<=1/\v9= .bool (t==1))/\PD W B n a b f a1 b1 f1 wr) (λ v1 v2 _ _ _ _=>(intOf v2).toNat-(intOf v1).toNat)
  case atStart=>exact⟨a,b,l,f,rfl,rfl,rfl,KL,⟨1,aO _,rfl⟩,⟨1,aO _,rfl⟩,Xm.out⟩
  clear Xm;obtain⟨a1,b1,l1,f1,rfl,rfl,rfl,hl1,⟨t8,ht8,rfl⟩,⟨t9,ht9,rfl⟩,hp⟩:=hrel;have p1:=hp.Aw;have p2:=hp.ab;have p3:=hp.zy;have e0:wrap64 ((b1:Int)-(a1:Int))=(b1:Int)-(a1:Int):=by unfold wrap64;omega
  by_cases h12:b1<=a1+12
  ·have q1:(b1:Int)-(a1:Int)<=12:=by omega
   have HI:=zH (yal (cap:=cap) hp.u p2 (by omega) hn);have HP:=zH hp;clear hp
   go_wp2_with fail
   refine HI.out.mono ?_;rintro e w2 ⟨rfl,f2,hs,hr,hu,ho⟩;have HX:=zH (zA (HP.out.done hs hr) (zA hu (HP.out.o.trans ho)));clear hs hr hu ho HP HI;go_wp2;refine bodyPost_ret (results_none rfl _ _ _) rfl ?_;exact⟨rfl,f2,HX.out.1.1,HX.out.1.2,HX.out.2.1,HX.out.2.2⟩
  have q1:¬(b1:Int)-(a1:Int)<=12:=by omega
  by_cases hl0:l1=0
  ·subst hl0;have HI:=zH (xxu (cap:=cap) hp.u hn p2 (by omega));have HP:=zH hp;clear hp
   go_wp2_with fail
   refine HI.out.mono ?_;rintro e w2 ⟨rfl,f2,hs,hr,hu,ho⟩;have HX:=zH (zA (HP.out.done hs hr) (zA hu (HP.out.o.trans ho)));clear hs hr hu ho HP HI;go_wp2;refine bodyPost_ret (results_none rfl _ _ _) rfl ?_;exact⟨rfl,f2,HX.out.1.1,HX.out.1.2,HX.out.2.1,HX.out.2.2⟩
  have q2:((l1:Int)==0)=false:=beq_eq_false_iff_ne.2 (by omega);have HP:=zH hp;clear hp
  go_upto_if 35 with(fail)
  go_cut [3] (λ v3 wx=>∃(l2:Nat) (f2:Nat->UInt64),v3= .int .i64 l2/\l2<=100/\PD W B n a b f a1 b1 f2 wx)
  case first=>
   by_cases h8:t8=1
   ·subst h8;go_wp2;go_meet
    case rel=>exact⟨l1,f1,rfl,hl1,HP.out⟩
   obtain rfl:t8=0:=by omega
   obtain⟨l2,rfl⟩:∃l2,l1=l2+1:=⟨l1-1,by omega⟩;have HI:=zH (yaq (cap:=cap) HP.out.u hn (show a1+13<=b1 by omega) (show b1<=n by omega));have e1:wrap64 ((l2:Int)+1-1)=(l2:Int):=by unfold wrap64;omega
   go_wp2_with fail
   refine HI.out.mono ?_;rintro e w2 ⟨rfl,f2,hs,hu,ho⟩;have HX:=zH (HP.out.step hs hu ho);clear hs hu ho HI;go_wp2;go_meet
   case rel=>exact⟨l2,f2,by go_num,by omega,HX.out⟩
  case rest=>
  clear HP hl0 q2;obtain⟨l2,f2,rfl,hl2,hp⟩:=hcut;have HP:=zH hp;have HV:=zH (xu1 (cap:=cap) hp.u hn (show a1+13<=b1 by omega) (show b1<=n by omega));clear hp
  go_wp2_with fail
  refine HV.out.mono ?_;rintro e w2 ⟨p,t,rfl,hp1,hp2,ht,hbl⟩;have HQ:=zH (HP.out.same hbl);clear HP HV hbl
  go_upto_if 50 with(fail)
  go_cut [11,12] (λ u v wx=>∃(p t:Nat) (f3:Nat->UInt64),u= .int .i64 p/\v= .int .i64 t/\a1<=p/\p<b1/\PD W B n a b f a1 b1 f3 wx)
  case first=>
   by_cases ht2:t=2
   ·subst ht2;obtain⟨p',hp'⟩:∃p',p'=a1+(b1-1-p):=⟨_,rfl⟩;have HI:=zH (yam (cap:=cap) HQ.out.u hn (show a1<b1 by omega) (show b1<=n by omega));have e1:(b1:Int)-1-((p:Int)-(a1:Int))=(p':Int):=by omega
    go_wp2_with fail
    refine HI.out.mono ?_;rintro e w3 ⟨rfl,f3,hs,hu,ho⟩;have HX:=zH (HQ.out.step hs hu ho);clear hs hu ho HI;go_wp2;go_meet
    case rel=>exact⟨p',1,f3,by go_num,rfl,by omega,by omega,HX.out⟩
   have q2:((t:Int)==2)=false:=beq_eq_false_iff_ne.2 (by omega);go_wp2;go_meet
   case rel=>exact⟨p,t,f2,rfl,rfl,hp1,hp2,HQ.out⟩
  case rest=>
  clear HQ hp1 hp2 ht;obtain⟨p,t,f3,rfl,rfl,hp1,hp2,hq⟩:=hcut;have HQ:=zH hq;clear hq
  go_upto_region 15 with(fail)
  go_cut [68] (λ v wx=>∃x:Nat,x<=1/\v= .bool (x==1)/\wx=wc)
  case first=>
   rcases(show t8=0\/t8=1 by omega)with rfl|rfl
   ·go_wp2;go_meet
    case rel=>exact⟨0,by omega,rfl,rfl⟩
   rcases(show t9=0\/t9=1 by omega)with rfl|rfl
   ·go_wp2;go_meet
    case rel=>exact⟨0,by omega,rfl,rfl⟩
   by_cases ht1:t=1
   ·subst ht1;go_wp2;go_meet
    case rel=>exact⟨1,by omega,rfl,rfl⟩
   have q2:((t:Int)==1)=false:=beq_eq_false_iff_ne.2 (by omega);go_wp2;go_meet
   case rel=>exact⟨0,by omega,rfl,rfl⟩
  case rest=>
  obtain⟨x,hx,rfl,hw⟩:=hcut;rw[<-hw]at HQ;clear hw
  go_upto_if 68 with(fail)
  go_cut [] (λ wx=>∃f4:Nat->UInt64,PD W B n a b f a1 b1 f4 wx)
  case first=>
   rcases(show x=0\/x=1 by omega)with rfl|rfl
   ·go_wp2;go_meet
    case rel=>exact⟨f3,HQ.out⟩
   have HI:=zH (xxw (cap:=cap) HQ.out.u HQ.out.lo hn (show a1<b1 by omega) (show b1<=n by omega))
   go_wp2_with fail
   refine HI.out.mono ?_;rintro e w3 ⟨t3,rfl,f4,hs,hr,hu,ho⟩;have HX:=zH (HQ.out.step hs hu ho);have HY:=zH (λ h=>HQ.out.done hs (hr h));clear hs hr hu ho HI
   cases t3 with
   | true=>
    have Xn:=zH (HY.out rfl);clear HY;go_wp2;refine bodyPost_ret (results_none rfl _ _ _) rfl ?_;exact⟨rfl,f4,Xn.out.1,Xn.out.2,HX.out.u,HX.out.o⟩
   | false=>
    go_wp2;go_meet
    case rel=>exact⟨f4,HX.out⟩
  case rest=>
  clear HQ hx x;obtain⟨f4,hq⟩:=hcut;have q3:(a1:Int)<n:=by omega
  have q4:(p:Int)<n:=by omega
  have HQ:=zH hq
  go_upto_region 17 with(fail)
  go_cut [87] (λ v wx=>∃(y nq:Nat),y<=1/\v= .bool (y==1)/\Hid (y=1->0<a1/\(f4 p).toNat<=(f4 (a1-1)).toNat)/\wx=wc.drewN nq)
  case first=>
   by_cases ha0:a1=0
   ·subst ha0;clear hq
    go_wp2_with fail
    go_quiet (fail)
    go_wp2;go_meet
    case rel=>exact⟨0,nq,by omega,rfl,zH (λ h=>by omega),rfl⟩
   obtain⟨a2,rfl⟩:∃a2,a1=a2+1:=⟨a1-1,by omega⟩;have q5:(0:Int)<(a2:Int)+1:=by omega
   have q6:(a2:Int)<n:=by omega
   have e1:wrap64 ((a2:Int)+1-1)=(a2:Int):=by unfold wrap64;omega
   have c1:=λ m=>(hq.u.drewN m).cell a2 (by omega);have c2:=λ m=>(hq.u.drewN m).cell p (by omega);have hL:=λ m=>vC (f4 a2) (f4 p) (wc.drewN m);clear hq;by_cases hl:(f4 a2).toNat<(f4 p).toNat
   ·rw[decide_eq_true hl]at hL
    go_wp2_with fail
    go_quiet (first|(go_at_call 190;refine Calls.quiet_of_same (hL _)))
    go_wp2;go_meet
    case rel=>exact⟨0,nq,by omega,rfl,zH (λ h=>by omega),rfl⟩
   rw[decide_eq_false hl]at hL
   go_wp2_with fail
   go_quiet (first|(go_at_call 190;refine Calls.quiet_of_same (hL _)))
   go_wp2;go_meet
   case rel=>exact⟨1,nq,by omega,rfl,zH (λ _=>⟨by omega,by rw[Nat.add_sub_cancel];omega⟩),rfl⟩
  case rest=>
  obtain⟨y,nq,hy,rfl,hY,hw⟩:=hcut;have HZ:=zH (show PD W B n a b f a1 b1 f4 wc from hw▸hq.drewN nq);clear hq HQ hw;rcases(show y=1\/y=0 by omega)with rfl|rfl
  ·obtain⟨y1,y2⟩:=hY.out rfl;have HI:=zH (xrl (cap:=cap) HZ.out.u hn hp1 hp2 (show b1<=n by omega))
   go_wp2_with fail
   refine HI.out.mono ?_;rintro e w3 ⟨m,f5,rfl,m1,m2,hs,hl,hr,hv,hu,ho⟩;have hX:=HZ.out.step hs hu ho;have hX2:=hX.pq.like hX.lo y1 m1 (by rw[hv,hs.out (.inl (by omega))];exact y2) hl hr;have HX:=zH (show PD W B n a b f m b1 f5 w3 from⟨by omega,m2,hX.zy,hX.sh,hX2.2,hX2.1,hX.u,hX.o⟩);clear hs hl hr hv hu ho HI hX hX2 hY HZ;go_wp2;go_roundw
   case rel=>exact⟨m,b1,l2,f5,rfl,rfl,rfl,hl2,⟨t8,ht8,rfl⟩,⟨t9,ht9,rfl⟩,HX.out⟩
   case measure=>simp only[intOf];omega
  have HI:=zH (xxv (cap:=cap) HZ.out.u hn hp1 hp2 (show b1<=n by omega));clear hY
  go_wp2_with fail
  refine HI.out.mono ?_;rintro e w3 ⟨m,tt,f5,rfl,m1,m2,hs,hl,hr,hu,ho⟩;have HX:=zH (zA hs (zA (zA hl hr) (zA hu (HZ.out.o.trans ho))));have hlo:=HZ.out.lo.sh hs;have e1:wrap64 ((m:Int)-(a1:Int))=(m:Int)-(a1:Int):=by unfold wrap64;omega
  have e2:wrap64 ((b1:Int)-(m:Int))=(b1:Int)-(m:Int):=by unfold wrap64;omega
  obtain⟨T,hT⟩:∃T,T=((b1:Int)-(a1:Int)).tdiv 8:=⟨_,rfl⟩;by_cases hlr:(m:Int)-(a1:Int)<(b1:Int)-(m:Int)
  ·have HC:=zH (Xl.out a1 m l2 f5 w3 (by omega) m1 (by omega) hl2 hu (λ k k0 k1 k2=>hlo k k0 k1 (by omega)));have HD:=zH (λ (f2:Nat->UInt64) (w':World) (h1:Sh a1 m f5 f2) (h2:lh a1 m f2) (h3:dC w' B n f2) (h4:Only B w3 w')=>HZ.out.left hs ⟨m1,m2⟩ hl hr hu ho h1 h2 h3 h4);clear hs hl hr hu ho HI hlo
   go_wp2_with fail
   refine HC.out.mono ?_;rintro e w4 ⟨rfl,f6,h1,h2,h3,h4⟩;have wY:=zH (HD.out f6 w4 h1 h2 h3 h4);clear h1 h2 h3 h4 HC HD HX;go_wp2;go_roundw
   case rel=>exact⟨m+1,b1,l2,f6,by go_num,rfl,rfl,hl2,N9 _,N9 _,wY.out⟩
   case measure=>simp only[intOf];omega
  have HC:=zH (Xl.out (m+1) b1 l2 f5 w3 (by omega) (by omega) (by omega) hl2 hu (λ k k0 k1 k2=>by rw[Nat.add_sub_cancel];exact hr k (by omega) k2));have HD:=zH (λ (f2:Nat->UInt64) (w':World) (h1:Sh (m+1) b1 f5 f2) (h2:lh (m+1) b1 f2) (h3:dC w' B n f2) (h4:Only B w3 w')=>HZ.out.right hs ⟨m1,m2⟩ hl hr hu ho h1 h2 h3 h4);clear hs hl hr hu ho HI hlo
  go_wp2_with fail
  refine HC.out.mono ?_;rintro e w4 ⟨rfl,f6,h1,h2,h3,h4⟩;have wY:=zH (HD.out f6 w4 h1 h2 h3 h4);clear h1 h2 h3 h4 HC HD HX;go_wp2;go_roundw
  case rel=>exact⟨a1,m,l2,f6,rfl,rfl,rfl,hl2,N9 _,N9 _,wY.out⟩
  case measure=>simp only[intOf];omega
end So
open Go.RowKit
open UK (Only ay Row)
open Go.BigFrame
namespace So
variable{a b:Nat}{f g:Nat->UInt64}{W:World}
theorem Sh.inj(h:Sh a b f g)(hf:∀i j,i<b->j<b->f i=f j->i=j):∀i j,i<b->j<b->g i=g j->i=j:=by
 induction h with
 | refl=>exact hf
 | @swap g x y _ hx hy ih=>
  intro i j hi hj e;unfold swp at e;by_cases e1:i=x
  ·subst e1;rw[if_pos rfl]at e;by_cases e2:j=i
   ·exact e2.symm
   rw[if_neg e2]at e;by_cases e3:j=y
   ·subst e3;rw[if_pos rfl]at e;exact(ih _ _ hj hi e).symm
   rw[if_neg e3]at e;exact absurd (ih _ _ hy.2 hj e).symm e3
  rw[if_neg e1]at e;by_cases e2:i=y
  ·subst e2;rw[if_pos rfl]at e;by_cases e3:j=x
   ·subst e3;rw[if_pos rfl]at e;exact(ih _ _ hj hi e).symm
   rw[if_neg e3]at e;by_cases e4:j=i
   ·exact e4.symm
   rw[if_neg e4]at e;exact absurd (ih _ _ hx.2 hj e).symm e3
  rw[if_neg e2]at e;by_cases e3:j=x
  ·subst e3;rw[if_pos rfl]at e;exact absurd (ih _ _ hi hy.2 e) e2
  rw[if_neg e3]at e;by_cases e4:j=y
  ·subst e4;rw[if_pos rfl]at e;exact absurd (ih _ _ hi hx.2 e) e1
  rw[if_neg e4]at e;exact ih _ _ hi hj e
structure y9(l l':List UInt64):Prop where
 len:l'.length=l.length
 up:l'.Pairwise λ x y=>x.toNat<=y.toNat
 mem:∀x,x∈l'↔x∈l
 ib:l.Nodup->l'.Nodup
theorem xxx{l:List UInt64}(h:Sh 0 l.length (λ j=>l.getD j 0) f)(hs:lh 0 l.length f):y9 l ((List.range l.length).map f):=by
 have hg:∀j (hj:j<l.length),l.getD j 0=l[j]:=λ j hj=>by simp[List.getD,hj]
 refine⟨by simp,?_,λ x=>?_,λ hn=>?_⟩
 ·rw[List.pairwise_map];refine(List.pairwise_lt_range (n:=l.length)).imp_of_mem (λ {i j} hi hj hij=>?_);exact hs i j (aY _) hij (jY.1 hj)
 ·constructor
  ·intro hx;obtain⟨j,hj,rfl⟩:=bQ.1 hx;exact h.all (P:=λ v=>v∈l) (λ k _ k2=>by rw[hg k k2];exact List.getElem_mem k2) j (aY _) (jY.1 hj)
  intro hx;obtain⟨j,hj,e⟩:=gB hx;have:=h.zx (P:=λ v=>v∈(List.range l.length).map f) (λ k _ k2=>bQ.2 ⟨k,jY.2 k2,rfl⟩) j (aY _) hj;rw[hg j hj,e]at this;exact this
 have hi:=h.inj (λ i j hi hj e=>by
  rw[hg i hi,hg j hj]at e;have hp:=List.pairwise_iff_getElem.1 hn;rcases Nat.lt_trichotomy i j with h1|h1|h1
  ·exact absurd e (hp i j hi hj h1)
  ·exact h1
  exact absurd e.symm (hp j i hj hi h1))
 rw[List.nodup_iff_pairwise_ne,List.pairwise_map]
 exact(List.pairwise_lt_range (n:=l.length)).imp_of_mem (λ {i j} hi2 hj2 hij e=>by
  have:=hi i j (jY.1 hi2) (jY.1 hj2) e;omega)
theorem dC.ul{g c:Nat}{l:List UInt64}(h:Row W g c (az l)):dC W g l.length (λ j=>l.getD j 0):=by
 have aD:(az l).length=l.length:=dA l;refine⟨h.lt,λ j hj=>?_,λ j hj=>h.free j (by have:=h.le;omega)⟩;rw[h.holds j (by omega)];simp[az,List.getD,hj]
theorem dC.row{g:Nat}{w:World}{l:List UInt64}(h:dC w g l.length f):Row w g l.length (az ((List.range l.length).map f)):=by
 refine⟨h.lt,by rw[dA];simp,λ j hj=>?_,λ j hj=>⟨by rw[h.cell j hj];rfl,h.free j hj⟩⟩;rw[dA]at hj;simp only[df,List.length_range]at hj;rw[h.cell j hj];simp[az,hj]
theorem yas(W:World) :
  Calls Tryz.prog 184 #[.slice none 0 0,.int .i64 0,.int .i64 0] W λ e w'=>e= .returned (.tuple #[])/\w'=W:=by
 go_enter Tryz.func184,Tryz.ntmps184
 go_wp2_with fail
 go_loopw [6] (λ kv wr=>kv= .int .i64 1/\wr=W) (λ _ _=>0)
 case atStart=>exact⟨rfl,rfl⟩
 obtain⟨rfl,rfl⟩:=hrel;go_wp2
 go_end0
 exact⟨rfl,rfl⟩
theorem yat(W:World) :
  Calls Tryz.prog 111 #[.slice none 0 0,.int .i64 0,.int .i64 0,.int .i64 0] W λ e w'=>e= .returned (.tuple #[])/\w'=W:=by
 go_enter Tryz.func111,Tryz.ntmps111
 go_wp2_with fail
 go_loopw [1,2] (λ kv kw wr=>kv= .int .i64 0/\kw= .int .i64 0/\wr=W) (λ _ _ _=>0)
 case atStart=>exact⟨rfl,rfl,rfl⟩
 obtain⟨rfl,rfl,rfl⟩:=hrel
 go_wp2_with fail
 refine(yas _).mono ?_;rintro e w2 ⟨rfl,rfl⟩;go_wp2;refine bodyPost_ret (results_none rfl _ _ _) rfl ?_;exact⟨rfl,rfl⟩
theorem rW{ao:Option Addr}{c:Nat}{l:List UInt64}(h:NR W ao c (az l))(hl:l.length<=1000000) :
  Calls Tryz.prog 50 #[.slice ao l.length c] W λ e w'=>e= .returned (.tuple #[])/\∃l',y9 l l'/\NR w' ao l.length (az l')/\Kept (λ j=>j<W.heap.size/\¬aK ao j) W w':=by
 have hB:Lib.bitLen l.length<=20:=Lib.bitLen_le l.length 20 (by omega) (by omega);rcases h with⟨rfl,hv,rfl⟩|⟨g,rfl,r⟩
 ·obtain rfl:l=[]:=by
   cases l with
   | nil=>rfl
   | cons x l=>simp[az]at hv
  have H:=zH (Any.bits_Len Tryz.lenA 0 W (by omega) (by omega));have e0:Lib.bitLen ((0:Int)).toNat=0:=by decide
  rw[e0]at H
  go_enter Tryz.func50,Tryz.ntmps50
  go_wp2_with fail
  refine H.out.mono ?_;rintro e w1 ⟨rfl,rfl⟩
  go_wp2_with fail
  refine(yat _).mono ?_;rintro e w2 ⟨rfl,rfl⟩;go_wp2
  go_end0
  exact⟨rfl,[],⟨rfl,List.Pairwise.nil,λ x=>Iff.rfl,λ h=>h⟩,.inl ⟨rfl,rfl,rfl⟩,Kept.refl _ _⟩
 have hu:=dC.ul r;have H:=zH (Any.bits_Len Tryz.lenA (l.length:Int) W (by omega) (by omega));have e0:((l.length:Int)).toNat=l.length:=by omega
 rw[e0]at H;have HP:=zH (yar l.length c g hl (l.length+1) 0 l.length (Lib.bitLen l.length) _ W (by omega) (aY _) (aO _) (by omega) hu (λ k h0=>by omega));have e1:IntKind.u64.wrap (l.length:Int)=(l.length:Int):=by rw[lN];omega
 obtain⟨k,hk⟩:∃k,k=Lib.bitLen l.length:=⟨_,rfl⟩;rw[<-hk]at H HP hB;clear r hu hk
 go_enter Tryz.func50,Tryz.ntmps50
 go_wp2_with fail
 refine H.out.mono ?_;rintro e w1 ⟨rfl,rfl⟩
 go_wp2_with fail
 refine HP.out.mono ?_;rintro e w2 ⟨rfl,f',hs,hr,hu,ho⟩;have HX:=zH (zA hs (zA hr (zA hu ho)));clear hs hr hu ho HP H;go_wp2
 go_end0
 obtain⟨hs,hr,hu,ho⟩:=HX.out;exact⟨rfl,_,xxx hs hr,.inr ⟨g,rfl,hu.row⟩,⟨ho.os,ho.tape,ho.output,ho.size,λ j hj=>ho.block j hj.1 (λ e=>hj.2 (by rw[e];rfl))⟩⟩
end So
open Go.RowKit Go.BigFrame
open UK (str aF nth Only Row ay)
namespace So
variable{n k r:Nat}{f f':Nat->UInt64}
structure Cp(f f':Nat->UInt64)(k r:Nat):Prop where
 pos:1<=k
 lt:k<r
 rest:∀j,k<=j->f' j=f j
 up:∀i j,i<j->j<k->(f' i).toNat<(f' j).toNat
 all:∀i,i<r->∃j,j<k/\f' j=f i
 old:∀j,j<k->∃i,i<r/\f' j=f i
theorem Cp.start(hk:1<=k)(hu:∀i j,i<j->j<k->(f i).toNat<(f j).toNat)(he:f k=f (k-1)):Cp f f k (k+1):=
 ⟨hk,by omega,λ _ _=>rfl,hu,λ i hi=>by
  by_cases e:i=k
  ·subst e;exact⟨i-1,by omega,he.symm⟩
  exact⟨i,by omega,rfl⟩,λ j hj=>⟨j,by omega,rfl⟩⟩
theorem Cp.same(h:Cp f f' k r)(he:f r=f (r-1)):Cp f f' k (r+1):=
 ⟨h.pos,by have:=h.lt;omega,h.rest,h.up,λ i hi=>by
  by_cases e:i=r
  ·subst e;obtain⟨j,a,b⟩:=h.all (i-1) (by have:=h.lt;omega);exact⟨j,a,b.trans he.symm⟩
  ·exact h.all i (by omega),λ j hj=>by
  obtain⟨i,a,b⟩:=h.old j hj;exact⟨i,by omega,b⟩⟩
theorem Cp.other(h:Cp f f' k r)(hs:lh 0 n f)(hr:r<n)(he:f r≠f (r-1)):Cp f (λ j=>if j=k then f r else f' j) (k+1) (r+1):=by
 have hp:=h.pos;have hl:=h.lt
 have hlt:∀i,i<k->(f' i).toNat<(f r).toNat:=λ i hi=>by
  obtain⟨j,hj,e⟩:=h.old i hi;rw[e];have h1:=hs (r-1) r (aY _) (by omega) hr;have h2:(f r).toNat≠(f (r-1)).toNat:=λ e=>he (mJ.1 e);by_cases e2:j=r-1
  ·rw[e2];omega
  have h3:=hs j (r-1) (aY _) (by omega) (by omega);omega
 refine⟨by omega,by omega,λ j hj=>?_,λ i j hij hj=>?_,λ i hi=>?_,λ j hj=>?_⟩
 ·show(if j=k then f r else f' j)=f j;rw[if_neg (by omega)];exact h.rest j (by omega)
 ·show(if i=k then f r else f' i).toNat<(if j=k then f r else f' j).toNat;rw[if_neg (by omega)];by_cases e:j=k
  ·rw[if_pos e];exact hlt i (by omega)
  rw[if_neg e];exact h.up i j hij (by omega)
 ·by_cases e:i=r
  ·exact⟨k,by omega,by show(if k=k then f r else f' k)=f i;rw[if_pos rfl,e]⟩
  obtain⟨j,a,b⟩:=h.all i (by omega);exact⟨j,by omega,by show(if j=k then f r else f' j)=f i;rw[if_neg (by omega)];exact b⟩
 by_cases e:j=k
 ·exact⟨r,by omega,by show(if j=k then f r else f' j)=f r;rw[if_pos e]⟩
 obtain⟨i,a,b⟩:=h.old j (by omega);exact⟨i,by omega,by show(if j=k then f r else f' j)=f i;rw[if_neg e];exact b⟩
structure nu(l l':List UInt64):Prop where
 up:l'.Pairwise λ x y=>x.toNat<y.toNat
 mem:∀x,x∈l'↔x∈l
 len:l'.length<=l.length
theorem xww{l:List UInt64}(h:Cp (λ j=>l.getD j 0) f' k l.length):nu l ((List.range k).map f'):=by
 have hg:∀j (hj:j<l.length),l.getD j 0=l[j]:=λ j hj=>by simp[List.getD,hj]
 refine⟨?_,λ x=>⟨λ hx=>?_,λ hx=>?_⟩,by simp;exact Nat.le_of_lt h.lt⟩
 ·rw[List.pairwise_map];refine(List.pairwise_lt_range (n:=k)).imp_of_mem (λ {i j} hi hj hij=>?_);exact h.up i j hij (jY.1 hj)
 ·obtain⟨j,hj,rfl⟩:=bQ.1 hx;obtain⟨i,hi,e⟩:=h.old j (jY.1 hj);rw[e,hg i hi];exact List.getElem_mem hi
 obtain⟨j,hj,e⟩:=gB hx;obtain⟨i,hi,e2⟩:=h.all j hj;refine bQ.2 ⟨i,jY.2 hi,?_⟩;rw[e2,hg j hj,e]
theorem U4{l:List UInt64}(h:∀i j,i<j->j<l.length->(l.getD i 0).toNat<(l.getD j 0).toNat):nu l l:=by
 refine⟨?_,λ x=>Iff.rfl,aO _⟩;rw[List.pairwise_iff_getElem];intro i j hi hj hij;have:=h i j hij hj
 simpa[List.getD,hi,hj]using this
theorem ybi{l:List UInt64}(h:l.Pairwise λ x y=>x.toNat<=y.toNat):lh 0 l.length (λ j=>l.getD j 0):=λ i j _ hij hj=>by
 have hi:i<l.length:=by omega
 have:=List.pairwise_iff_getElem.1 h i j hi hj hij
 simpa[List.getD,hi,hj]using this
theorem xnv{P:Program}{W:World}{g c:Nat}(t e ty:TypeId)(ht:P.underlying t=some (.slice e))(hv:∀w,(zeroValue e).run P w= .ok (.int .u64 0) w)(h:dC W g n f)(hk:k<n) :
  ∃W',(Builtin.clear_ #[t] ty #[.slice (g,k) (n-k) c]).run P W= .ok (.tuple #[]) W'/\dC W' g k f/\Only g W W':=by
 have hsz:(Builtin.zeroCells (Value.int .u64 0).cells (n-k)).toList.length=n-k:=by
  rw[Array.length_toList,UK.Ad];show(n-k)*1=n-k;omega
 have hst:=run_storeCells_cells (P:=P) g k (Builtin.zeroCells (Value.int .u64 0).cells (n-k)).toList 0 W (λ j hj=>by
  rw[hsz]at hj;rw[jN,h.cell _ (by omega)];rfl) (λ j hj=>by
  rw[hsz]at hj;rw[jN];exact h.free _ (by omega)) (λ v hv=>by
  have hv':v∈Builtin.zeroCells (Value.int .u64 0).cells (n-k):=by simpa using hv
  obtain⟨i,hi,e⟩:=Array.getElem_of_mem hv';rw[<-e];simp[Builtin.zeroCells,Value.cells];rw[Nat.mod_one];rfl)
 rw[jN]at hst;have o:Only g W (W.setCells g k (Builtin.zeroCells (Value.int .u64 0).cells (n-k)).toList):=UK.Only.setCells _ _ (Only.refl g W);refine⟨_,?_,⟨bZ h.lt o.size,λ j hj=>?_,λ j hj=>?_⟩,o⟩
 ·obtain⟨m,hm⟩:∃m,n-k=m+1:=⟨n-k-1,by omega⟩;rw[hm]at hst ⊢;simp[Builtin.clear_,run_underlying ht,hv,hst]
 ·rw[World.cell?_setCells_out g _ k W ⟨g,j,none⟩ (λ _ _=>.inl hj)];exact h.cell j (by omega)
 rw[World.frozen?_setCells];exact h.free j (by omega)
end So
open Go.RowKit
open UK (str aF nth Only Row ay)
open Go.BigFrame
open DP (bn)
abbrev kR(s:List UInt8)(at_:Nat)(er:Int):Array Value:= #[.string (str s),.int .i64 at_,.int .i64 er]
section
variable{W:World}{r at_:Nat}{s:List UInt8}
theorem ybf{u i acc n:Nat}{c:UInt8}(hu:u<2^64)(hB:DP.xU u n i c.toNat)(hacc:acc=u%128^i) :
  bits .or .u64 (acc:Int) (IntKind.u64.wrap ((c.toNat:Int)%128*2^(7*i)))=((u%128^(i+1):Nat):Int):=by
 have h1:=DP.Es hu hB
 have hc:c.toNat%128=u/128^i%128:=by
  rw[hB.is];split<;>omega
 have h2:=DP.xV u i c.toNat hc;have e1:(c.toNat:Int)%128*2^(7*i)=((c.toNat%128*2^(7*i):Nat):Int):=by push_cast;rfl
 have e2:IntKind.u64.wrap ((c.toNat:Int)%128*2^(7*i))=((c.toNat%128*2^(7*i):Nat):Int):=by
  rw[e1,lN];generalize c.toNat%128*2^(7*i)=z at h1;omega
 have h3:acc<18446744073709551616:=by rw[hacc];exact Nat.lt_of_le_of_lt (Nat.mod_le _ _) hu
 rw[e2,u64_or_nat _ _ h3 h1,hacc,h2]
theorem IE(h:ay W r (kR s at_ 0))(u:Nat)(hu:u<2^64)(rest:List UInt8)(hs:s.drop at_=bn u++rest)(hl:s.length<1000000) :
  Calls Tryz.prog 94 #[.pointer r] W λ e w'=>e= .returned (.int .u64 u)/\ay w' r (kR s (at_+(bn u).length) 0)/\Only r W w':=by
 have h10:=DP.fU hu;have hpos:=DP.jc u
 have aD:at_+(bn u).length<=s.length:=by
  have:=congrArg List.length hs;rw[zd,zl]at this;omega
 have HS:=zH hs;clear hs
 go_enter Tryz.func94,Tryz.ntmps94
 go_wp2_with fail
 go_loopw [3,4] (λ kv ki wr=>∃i acc:Nat,i<(bn u).length/\Hid (acc=u%128^i)/\kv= .int .u64 acc/\ki= .int .i64 i/\ay wr r (kR s at_ 0)/\Only r W wr) (λ _ ki _=>20-(intOf ki).toNat)
 case atStart=>exact⟨0,0,hpos,zH (by rw[Nat.pow_zero,Nat.mod_one]),rfl,rfl,h,Only.refl _ _⟩
 clear h;obtain⟨i,acc,hi,HA,rfl,rfl,hb,ho⟩:=hrel;obtain⟨c,hc,hB⟩:=DP.IA hu hi
 have hsc:nth s (at_+i)=c:=by
  have h1:s[at_+i]?=some c:=by
   rw[<-eY,HS.out,bI hi];exact hc
  unfold nth List.getD;rw[h1];rfl
 have c0:∀m,(wr.drewN m).cell? r=some (.string (str s)):=λ m=>hb.cell 0 _ rfl;have c1:∀m,(wr.drewN m).cell? (r,1)=some (.int .i64 at_):=λ m=>hb.cell 1 _ rfl;have c2:=hb.c2;have f1:∀m,(wr.drewN m).frozen? ⟨r,1,none⟩=false:=λ m=>hb.free 1;have i9:=hB.few;have q1:(at_:Int)+i<s.length:=by omega
 have q2:¬((s.length:Int)<=(at_:Int)+i):=by omega
 have HX:=zH (zA hb (zA ho hB));clear hb ho hc
 go_wp2_with fail
 go_quiet (fail)
 obtain⟨w2,hw2⟩:∃w2,w2=wr.drewN nq:=⟨_,rfl⟩;rw[<-hw2];have c3:∀m,(w2.drewN m).cell? r=some (.string (str s)):=λ m=>by rw[hw2];exact c0 (nq+m)
 have c4:∀m,(w2.drewN m).cell? (r,1)=some (.int .i64 at_):=λ m=>by rw[hw2];exact c1 (nq+m)
 have wY:=zH (show ay w2 r (kR s at_ 0)/\Only r W w2 from by rw[hw2];exact⟨HX.out.1,HX.out.2.1.drewN nq⟩);clear c0 c1 c2 f1 hw2
 go_wp2_with fail
 go_quiet (fail)
 obtain⟨w3,hw3⟩:∃w3,w3=w2.drewN nq:=⟨_,rfl⟩;rw[<-hw3];have c5:w3.cell? (r,1)=some (.int .i64 at_):=by rw[hw3];exact c4 nq
 have Bl:=zH (show ay w3 r (kR s at_ 0)/\Only r W w3 from by rw[hw3];exact⟨wY.out.1,wY.out.2.drewN nq⟩);have c6:w3.frozen? ⟨r,1,none⟩=false:=Bl.out.1.free 1;clear c3 c4 hw3 wY;rw[hsc];have hB:=HX.out.2.2
 go_upto_region 8 with(fail)
 go_cut [51] (λ v wx=>v= .bool false/\wx=w3)
 case first=>
  have g9:=hB.nine;have gs:=hB.some_;by_cases h9:i=9
  ·subst h9;have k1:¬(1:Int)<(c.toNat:Int):=by have:=g9 rfl;omega
   have k2:((c.toNat:Int)==0)=false:=beq_eq_false_iff_ne.2 (by have:=gs (by omega);omega);go_wp2;go_meet
   case rel=>exact⟨rfl,rfl⟩
  have k1:((i:Int)==9)=false:=beq_eq_false_iff_ne.2 (by omega);by_cases h0:i=0
  ·subst h0;go_wp2;go_meet
   case rel=>exact⟨rfl,rfl⟩
  have k2:((c.toNat:Int)==0)=false:=beq_eq_false_iff_ne.2 (by have:=gs (by omega);omega);have k3:(0:Int)<i:=by omega
  go_wp2;go_meet
  case rel=>exact⟨rfl,rfl⟩
 case rest=>
 obtain⟨rfl,hw⟩:=hcut;have hc256:=c.toNat_lt
 have b1:bits .and .u8 (c.toNat:Int) 127=(c.toNat:Int)%128:=by
  have h1:=u8_and_nat c.toNat 127 hc256 (by omega);rw[show((127:Nat):Int)=127 from rfl]at h1;rw[h1,DP.Er ⟨c.toNat,hc256⟩];rfl
 have e2:=ybf (acc:=acc) hu hB HA.out;obtain⟨Bn,h2⟩:∃Bn,Bn=u%128^(i+1):=⟨_,rfl⟩;rw[<-h2]at e2;have HA2:=zH h2;have hlast:=hB.last;have Mg:=zH (show ay wc r (kR s at_ 0)/\Only r W wc from hw▸Bl.out);rw[<-hw]at c5 c6;clear h2 HX Bl hB hw hsc;by_cases h128:c.toNat<128
 ·have k1:(c.toNat:Int)<128:=by omega
  have hil:=hlast.1 h128;clear hlast
  go_wp2_with fail
  go_ret
  have hu2:Bn=u:=by
   rw[HA2.out,hil];exact wV (DP.rR _ u rfl).1
  have hb2:=Mg.out.1.set 1 (.int .i64 ((at_:Int)+((i:Int)+1)));refine⟨by rw[<-hu2];rfl,?_,Mg.out.2.set 1 _⟩;rw[<-hil];have e9:((at_+(i+1):Nat):Int)=(at_:Int)+((i:Int)+1):=by omega
  rw[show kR s (at_+(i+1)) 0= #[.string (str s),.int .i64 ((at_+(i+1):Nat):Int),.int .i64 0]from rfl,e9]
  simpa using hb2
 have k1:¬(c.toNat:Int)<128:=by omega
 have hil:i+1<(bn u).length:=by
  have:¬i+1=(bn u).length:=λ e=>h128 (hlast.2 e);omega
 clear hlast;go_wp2;go_roundw
 case rel=>exact⟨i+1,Bn,hil,HA2,by go_num,by go_num,Mg.out.1,Mg.out.2⟩
 case measure=>simp only[intOf];omega
end
structure gW(S:Nat->Prop)(W:World)(g:Nat)(ao:Option Addr)(c:Nat)(l:List UInt8):Prop where
 box:ay W g #[.slice ao l.length c]
 row:NR W ao c (UK.cellsOf l)
 out:¬S g
 own:∀j,aK ao j->¬S j/\j≠g
 low:∀j,S j->j<W.heap.size
section
variable{S:Nat->Prop}{W W':World}{g c:Nat}{ao:Option Addr}{l:List UInt8}
theorem bg(l:List UInt8):(UK.cellsOf l).length=l.length:=by simp[UK.cellsOf]
theorem gW.push(h:gW S W g ao c l)(hl:l.length<1000000)(v:UInt8) :
  ∃g' c' w',(Builtin.append_ #[94,94] 94 #[.slice ao l.length c,.slice W 1 1]).run Tryz.prog (W.alloc (.cells #[.int .u8 (v.toNat:Int)] 5))= .ok (.slice (some ⟨g',0,none⟩) (l.length+1) c') w' /\
   w'.cell? g=some (.slice ao l.length c)/\w'.frozen? ⟨g,0,none⟩=false /\
   gW S (w'.setCell g (.slice g' (l.length+1) c')) g g' c' (l++[v])/\Kept S W (w'.setCell g (.slice g' (l.length+1) c')):=by
 obtain⟨hb,hr,h1,h2,h3⟩:=h;obtain⟨g',c',w',e,r,o,hg⟩:=UK.Gf (P:=Tryz.prog) (t:=94) (ty:=94) Tryz.underlying94 (i:=Tryz.t5) rfl rfl rfl (show(1:Nat)<=16 by omega) rfl hr (.int .u8 (v.toNat:Int)) rfl (by rw[bg];omega);rw[bg]at e
 have hne:g'≠g:=by
  rcases hg with hg|hg
  ·exact(h2 g' hg).2
  have:=hb.lt;omega
 have hns:¬S g':=by
  rcases hg with hg|hg
  ·exact(h2 g' hg).1
  exact λ e=>by have:=h3 g' e;omega
 have b1:=hb.only o hne.symm;have o2:Only g w' (w'.setCell g (.slice g' (l.length+1) c')):=(Only.refl g w').set 0 _;have b2:=b1.set 0 (.slice g' (l.length+1) c');refine⟨g',c',w',e,b1.cell 0 _ rfl,b1.free 0,⟨by simpa using b2,.inr ⟨g',rfl,?_⟩,h1,λ j hj=>by rw[gz hj];exact⟨hns,hne⟩,λ j hj=>bZ (h3 j hj) (aP o.size o2.size)⟩,⟨o2.os.trans o.os,o2.tape.trans o.tape,o2.output.trans o.output,aP o.size o2.size,λ j hj=>?_⟩⟩
 ·have e8:UK.cellsOf (l++[v])=UK.cellsOf l++[.int .u8 (v.toNat:Int)]:=by simp[UK.cellsOf]
  rw[e8];exact r.only o2 hne
 have hjl:=h3 j hj;exact(o2.block j (bZ hjl o.size) (λ e=>h1 (e▸hj))).trans (o.block j hjl (λ e=>hns (e▸hj)))
def OQ(S:Nat->Prop)(W w:World)(g:Nat)(l:List UInt8):Prop:=∃ao c,gW S w g ao c l/\Kept S W w
theorem ybe(u:Nat):bits .or .u8 ((u%256:Nat):Int) 128=(((UInt8.ofNat (u%128+128)).toNat:Nat):Int):=by
 have h1:u%256<256:=jr _ (by omega);have h2:(u%256) ||| 128=u%256%128+128:=DP.I9 ⟨u%256,h1⟩;have h3:=u8_or_nat (u%256) 128 h1 (by omega);rw[show((128:Nat):Int)=128 from rfl]at h3;rw[h3,h2,Nat.mod_mod_of_dvd u (by decide:128 ∣ 256),UInt8.toNat_ofNat_of_lt' (by show u%128+128<256;omega)]
theorem IB(h:gW S W g ao c l)(u:Nat)(hu:u<2^64)(hl:l.length+10<1000000) :
  Calls Tryz.prog 107 #[.pointer g,.int .u64 u] W λ e w'=>e= .returned (.tuple #[])/\OQ S W w' g (l++bn u):=by
 go_enter Tryz.func107,Tryz.ntmps107
 go_wp2_with fail
 go_loopw [1] (λ kv wr=>∃(v:Nat) (IC:Option Addr) (c':Nat) (m:List UInt8),kv= .int .u64 v/\v<2^64/\Hid (gW S wr g IC c' m/\m++bn v=l++bn u/\Kept S W wr)) (λ kv _=>(intOf kv).toNat)
 case atStart=>exact⟨u,ao,c,l,rfl,hu,zH ⟨h,rfl,Kept.refl _ _⟩⟩
 clear h;obtain⟨v,IC,c',m,rfl,hv,HH⟩:=hrel;obtain⟨hw,he,hk⟩:=HH.out;have h10:=DP.fU hu
 have qI:m.length<1000000:=by
  have:=congrArg List.length he;rw[zl,zl]at this;omega
 have c0:=hw.box.cell 0 _ rfl;have Et:((v%256:Nat):Int)=(v:Int)%256:=by omega
 by_cases h127:127<v
 ·have q1:(127:Int)<v:=by omega
  obtain⟨b,hb⟩:∃b,b=UInt8.ofNat (v%128+128):=⟨_,rfl⟩;obtain⟨g',c2,w2,e1,x1,x2,x3,x4⟩:=hw.push qI b;have n2:=ybe v;rw[Et,<-hb]at n2;obtain⟨v1,hv1⟩:∃v1,v1=v/128:=⟨_,rfl⟩;have n3:(v:Int)/128=(v1:Int):=by omega
  have HV:=zH (zA hb hv1);have HX:=zH (zA x3 (hk.trans x4));have HE:=zH he;clear hw he hk HH x3 x4 qI Et hb hv1
  go_wp2_with (at_builtin;refine UK.lH e1 rfl rfl rfl rfl rfl ?_)
  go_wp2;go_roundw
  case rel=>exact⟨v1,_,_,_,by go_num,by omega,zH ⟨HX.out.1,by
   rw[HV.out.1,HV.out.2,<-HE.out,DP.ja (u:=v) (by omega),cO];rfl,HX.out.2⟩⟩
  case measure=>simp only[intOf];omega
 have q1:¬(127:Int)<v:=by omega
 obtain⟨b,hb⟩:∃b,b=UInt8.ofNat v:=⟨_,rfl⟩;obtain⟨g',c2,w2,e1,x1,x2,x3,x4⟩:=hw.push qI b
 have hbv:((b.toNat:Nat):Int)=(v:Int):=by
  rw[hb,UInt8.toNat_ofNat_of_lt' (by show v<256;omega)]
 rw[hbv]at e1;have n2:(v:Int)%256=(v:Int):=by omega
 have HV:=zH hb;have HX:=zH (zA x3 (hk.trans x4));have HE:=zH he;clear hw he hk HH x3 x4 qI Et hb hbv
 go_wp2_with (at_builtin;refine UK.lH e1 rfl rfl rfl rfl rfl ?_)
 go_wp2
 go_end0
 have hx:=HX.out.1;rw[HV.out]at hx;rw[<-HE.out,DP.fT (u:=v) (by omega)];exact⟨rfl,some ⟨g',0,none⟩,c2,hx,HX.out.2⟩
end
open DP (bn wX pI)
section
variable{S:Nat->Prop}{W W':World}{g c:Nat}{ao ko:Option Addr}{kc:Nat}{m:List UInt8}{l:List UInt64}
theorem TG(h:gW S W g ao c m)(hm:m≠[]) :
  Calls Tryz.prog 45 #[.pointer g] W λ e w'=>e= .returned (.string (str m))/\w'=W:=by
 have c0:=h.box.c0;rcases h.row with⟨_,hv,_⟩|⟨b,rfl,r⟩
 ·exact absurd (List.map_eq_nil_iff.1 hv) hm
 have hrun:=run_convert_bytes_back (P:=Tryz.prog) W 94 9 5 ⟨b,0,none⟩ c m Tryz.underlying94 Tryz.underlying5 Tryz.underlying9 (λ j hj=>by
  have h1:=r.holds j (by rw[bg];exact hj)
  have e1:(⟨b,0,none⟩:Addr).add j=⟨b,j,none⟩:=by
   rw[UK.lQ,eG]
  rw[e1,h1];simp[UK.cellsOf,hj])
 have TJ:(convert 94 9 (.slice b m.length c)).run Tryz.prog W= .ok (.string (str m)) W:=hrun;clear hrun r h
 go_enter Tryz.func45,Tryz.ntmps45
 go_wp2;go_ret
 exact⟨rfl,rfl⟩
def ql(l:List UInt64)(i:Nat):List UInt8:=
 match i with
 | 0=>match l with
  | []=>[]
  | u::t=>bn u.toNat++wX u.toNat (t.map UInt64.toNat)
 | i+1=>wX (l.getD i 0).toNat ((l.drop (i+1)).map UInt64.toNat)
theorem TK(l:List UInt64):ql l l.length=[]:=by
 cases l with
 | nil=>rfl
 | cons u t=>unfold ql;simp[wX]
theorem TL(l:List UInt64):pI (l.map UInt64.toNat)=bn l.length++ql l 0:=by
 cases l with
 | nil=>unfold ql;simp[pI]
 | cons u t=>unfold ql;simp[pI]
theorem xiv(l:List UInt64)(i:Nat):ql l (i+1)=wX (l.getD i 0).toNat ((l.drop (i+1)).map UInt64.toNat):=rfl
theorem OT{i:Nat}(hi:i+1<l.length):ql l (i+1)=bn ((l.getD (i+1) 0).toNat-(l.getD i 0).toNat-1)++ql l (i+1+1):=by
 rw[xiv,xiv l (i+1),show l.drop (i+1)=l[i+1]::l.drop (i+1+1)from lm hi,je,wX,show l.getD (i+1) 0=l[i+1] by simp[List.getD,hi]]
theorem OU(h:0<l.length):ql l 0=bn (l.getD 0 0).toNat++ql l 1:=by
 cases l with
 | nil=>simp at h
 | cons u t=>unfold ql;simp
theorem xne(h:gW S W g ao c m)(hk:NR W ko kc (az l))(hS:∀j,aK ko j->S j)(hup:l.Pairwise λ x y=>x.toNat<y.toNat)(hl:l.length<=16000)(hm:m.length+20+10*l.length<1000000) :
  Calls Tryz.prog 165 #[.pointer g,.slice ko l.length kc] W λ e w'=>e= .returned (.tuple #[])/\OQ S W w' g (m++pI (l.map UInt64.toNat)):=by
 have H1:=zH (IB h l.length (by omega) (by omega));have e1:IntKind.u64.wrap (l.length:Int)=(l.length:Int):=by rw[lN];omega
 have HK:=zH (zA hk (zA hS hup));clear h hk hS hup
 go_enter Tryz.func165,Tryz.ntmps165
 go_wp2_with fail
 refine H1.out.mono ?_;rintro e w1 ⟨rfl,Aa,c1,hw1,hk1⟩;have HW:=zH (zA hw1 hk1);clear H1 hw1 hk1
 go_wp2_with fail
 go_loopw [13] (λ kv wr=>∃(i:Nat) (lS:Option Addr) (c2:Nat) (y:List UInt8),kv= .int .i64 i/\i<=l.length/\Hid (gW S wr g lS c2 y/\Kept S W wr/\y++ql l i=m++pI (l.map UInt64.toNat))) (λ kv _=>20001-(intOf kv).toNat)
 case atStart=>exact⟨0,Aa,c1,_,rfl,aY _,zH ⟨HW.out.1,HW.out.2,by rw[TL,cO]⟩⟩
 clear HW;obtain⟨i,lS,c2,y,rfl,hi,HR⟩:=hrel;obtain⟨hw,hkp,he⟩:=HR.out;obtain⟨hk,hS,hup⟩:=HK.out;have hk2:NR wr ko kc (az l):=hk.ae hkp.size (λ b hb=>hkp.block b (hS b hb))
 have OV:(pI (l.map UInt64.toNat)).length<=2+10*l.length:=by
  have:=DP.uS (l:=l.map UInt64.toNat) (λ x hx=>by
   obtain⟨z,_,rfl⟩:=bQ.1 hx;exact z.toNat_lt) (by rw[df];omega)
  rw[df]at this;exact this
 by_cases hlt:i<l.length
 ·have hyl:y.length+10<1000000:=by
   have:=congrArg List.length he;simp only[zl]at this
   have:0<(ql l i).length:=by
    cases i with
    | zero=>rw[OU hlt];have:=DP.jc (l.getD 0 0).toNat;simp only[zl];omega
    | succ i=>rw[OT hlt];have:=DP.jc ((l.getD (i+1) 0).toNat-(l.getD i 0).toNat-1);simp only[zl];omega
   omega
  rcases hk2 with⟨rfl,hv,_⟩|⟨kb,rfl,r⟩
  ·exfalso
   cases l with
   | nil=>simp at hlt
   | cons x t=>simp[az]at hv
  have q1:(i:Int)<l.length:=by omega
  have hgi:l[i]?=some (l.getD i 0):=by simp[List.getD,hlt]
  have d0:wr.cell? (kb,i)=some (.int .u64 ((l.getD i 0).toNat:Int)):=r.at' i _ (tH _ _ _ hgi)
  cases i with
  | zero=>
   have HU:=zH (IB hw (l.getD 0 0).toNat (l.getD 0 0).toNat_lt hyl);have hE:=zH (show y++bn (l.getD 0 0).toNat++ql l 1=m++pI (l.map UInt64.toNat) by rw[cO,<-OU hlt];exact he);have OW:=zH hkp;clear hw he HR hk hS hup OV hyl r hkp;obtain⟨x,hx⟩:∃x,x=l.getD 0 0:=⟨_,rfl⟩;rw[<-hx]at d0 HU hE;clear hx hgi
   go_wp2_with fail
   refine HU.out.mono ?_;rintro e w3 ⟨rfl,Bo,c3,hw3,hk3⟩;have HX:=zH (zA hw3 (OW.out.trans hk3));clear hw3 hk3 HU;go_wp2;go_roundw
   case rel=>exact⟨1,Bo,c3,_,rfl,by omega,zH ⟨HX.out.1,HX.out.2,hE.out⟩⟩
   case measure=>simp only[intOf];omega
  | succ i=>
   have hgj:l[i]?=some (l.getD i 0):=by simp[List.getD,show i<l.length by omega]
   have d1:wr.cell? (kb,i)=some (.int .u64 ((l.getD i 0).toNat:Int)):=r.at' i _ (tH _ _ _ hgj)
   have hlt2:(l.getD i 0).toNat<(l.getD (i+1) 0).toNat:=by
    have:=List.pairwise_iff_getElem.1 hup i (i+1) (by omega) hlt (by omega)
    simpa[List.getD,hlt,show i<l.length by omega]using this
   have hb2:=(l.getD (i+1) 0).toNat_lt;have HU:=zH (IB hw ((l.getD (i+1) 0).toNat-(l.getD i 0).toNat-1) (by omega) hyl);have hE:=zH (show y++bn ((l.getD (i+1) 0).toNat-(l.getD i 0).toNat-1)++ql l (i+1+1)=m++pI (l.map UInt64.toNat) by rw[cO,<-OT hlt];exact he);have OW:=zH hkp;clear hw he HR hk hS hup OV hyl r hkp hgi hgj;generalize (l.getD (i+1) 0).toNat=x at *;generalize (l.getD i 0).toNat=z at *;obtain⟨dd,hdd⟩:∃dd,dd=x-z-1:=⟨_,rfl⟩;rw[<-hdd]at HU hE;have q2:(x:Int)-z-1=(dd:Int):=by omega
   have q5:IntKind.u64.wrap ((x:Int)-z)=(x:Int)-z:=by rw[lN];omega
   have q6:IntKind.u64.wrap (dd:Int)=(dd:Int):=by rw[lN];omega
   have e1:wrap64 ((i:Int)+1-1)=(i:Int):=by unfold wrap64;omega
   have q7:(i:Int)<l.length:=by omega
   clear hdd hlt2 hb2
   go_wp2_with fail
   refine HU.out.mono ?_;rintro e w3 ⟨rfl,Bo,c3,hw3,hk3⟩;have HX:=zH (zA hw3 (OW.out.trans hk3));clear hw3 hk3 HU;go_wp2;go_roundw
   case rel=>exact⟨i+1+1,Bo,c3,_,by go_num,by omega,zH ⟨HX.out.1,HX.out.2,hE.out⟩⟩
   case measure=>simp only[intOf];omega
 obtain rfl:i=l.length:=by omega
 rw[TK,jL]at he;have HX:=zH (zA hw hkp);have hE:=zH he;clear hw hkp he HR hk hS hup hk2 OV HK;go_wp2
 go_end0
 have:=HX.out.1;rw[hE.out]at this;exact⟨rfl,lS,c2,this,HX.out.2⟩
end
section
variable{W W':World}{r at_:Nat}{s rest:List UInt8}{l:List UInt64}
theorem OX(s:List UInt8)(W:World) :
  Calls Tryz.prog 40 #[.string (str s)] W λ e w'=>e= .returned (.pointer W)/\ay w' W (kR s 0 0)/\Below W W w':=by
 have hb:Below W W (W.alloc (.cells (kR s 0 0) 168)):=(aV _ _).alloc (aO _) _;have hx:=ay.new W (kR s 0 0) 168;have HX:=zH (zA hx hb);clear hb hx
 go_enter Tryz.func40,Tryz.ntmps40
 go_wp2;go_ret
 exact⟨rfl,HX.out.1,HX.out.2⟩
theorem xwl(h:ay W r (kR s at_ 0))(hge:s.length<=at_) :
  Calls Tryz.prog 109 #[.pointer r] W λ e w'=>e= .returned (.int .i64 0)/\∃m,w'=W.drewN m:=by
 have c0:∀m,(W.drewN m).cell? r=some (.string (str s)):=λ m=>h.cell 0 _ rfl;have c1:∀m,(W.drewN m).cell? (r,1)=some (.int .i64 at_):=λ m=>h.cell 1 _ rfl;have q1:¬(at_:Int)<s.length:=by omega
 have c2:∀m,(W.drewN m).cell? (r,2)=some (.int .i64 0):=λ m=>h.cell 2 _ rfl;clear h
 go_enter Tryz.func109,Tryz.ntmps109
 go_wp2_with fail
 go_quiet (fail)
 go_wp2;go_ret
 exact⟨rfl,_,rfl⟩
theorem xzr{er:Int}(h:ay W r (kR s at_ er)) :
  Calls Tryz.prog 95 #[.pointer r] W λ e w'=>e= .returned (.int .i64 er)/\w'=W:=by
 have c2:=h.c2;clear h
 go_enter Tryz.func95,Tryz.ntmps95
 go_wp2;go_ret
 exact⟨rfl,rfl⟩
theorem xqs(h:ay W r (kR s at_ 0))(u aC:Nat)(hu:u<=aC)(hm:aC<=1000000)(hs:s.drop at_=bn u++rest)(hl:s.length<1000000) :
  Calls Tryz.prog 182 #[.pointer r,.int .i64 aC] W λ e w'=>e= .returned (.int .i64 u)/\ay w' r (kR s (at_+(bn u).length) 0)/\Only r W w':=by
 have HU:=zH (IE h u (by omega) rest hs hl);have e1:IntKind.u64.wrap (aC:Int)=(aC:Int):=by rw[lN];omega
 have q1:¬(aC:Int)<u:=by omega
 clear h hs
 go_enter Tryz.func182,Tryz.ntmps182
 go_wp2_with fail
 refine HU.out.mono ?_;rintro e w1 ⟨rfl,hb,ho⟩;have c2:=hb.c2;have HX:=zH (zA hb ho);clear hb ho HU;go_wp2;go_ret;exact⟨rfl,HX.out⟩
theorem xqt(h:ay W r (kR s at_ 0))(x y:Nat)(hxy:y<x)(hx:x<2^64-1)(hs:s.drop at_=bn (x-y-1)++rest)(hl:s.length<1000000) :
  Calls Tryz.prog 183 #[.pointer r,.int .u64 y] W λ e w'=>e= .returned (.int .u64 x)/\ay w' r (kR s (at_+(bn (x-y-1)).length) 0)/\Only r W w':=by
 obtain⟨d,hd⟩:∃d,d=x-y-1:=⟨_,rfl⟩;rw[<-hd]at hs ⊢;have HU:=zH (IE h d (by omega) rest hs hl);obtain⟨z,hz⟩:∃z:Nat,z=18446744073709551615-y:=⟨_,rfl⟩;have q1:¬(z:Int)<=(d:Int):=by omega
 have e1:IntKind.u64.wrap (18446744073709551615-(y:Int))=(z:Int):=by rw[lN];omega
 have e2:IntKind.u64.wrap ((y:Int)+d)=(y:Int)+d:=by rw[lN];omega
 have e3:IntKind.u64.wrap ((y:Int)+d+1)=(x:Int):=by rw[lN];omega
 clear h hs hd hxy hx hz
 go_enter Tryz.func183,Tryz.ntmps183
 go_wp2_with fail
 refine HU.out.mono ?_;rintro e w1 ⟨rfl,hb,ho⟩;have c2:=hb.c2;have HX:=zH (zA hb ho);clear hb ho HU;go_wp2;go_ret;exact⟨rfl,HX.out⟩
def Gp(W w:World)(r:Nat)(s rest:List UInt8)(l:List UInt64)(i:Nat)(ao:Option Addr)(c:Nat):Prop:=
 ∃at_,ay w r (kR s at_ 0)/\s.drop at_=ql l i++rest/\NR w ao c (az (l.take i))/\(∀b,aK ao b->W.heap.size<=b)/\Kept (λ j=>j<W.heap.size/\j≠r) W w
theorem Gp.push{w w1 w2:World}{i c c2 g' at2:Nat}{ao:Option Addr}(h:Gp W w r s rest l i ao c)(hr:r<W.heap.size)(hi:i<l.length)(hb:ay w1 r (kR s at2 0))(ho:Only r w w1)(hs:s.drop at2=ql l (i+1)++rest)(r2:Row w2 g' c2 (az (l.take i++[l.getD i 0])))(o2:Only g' w1 w2)(hg:aK ao g'\/w1.heap.size<=g') :
  Gp W w2 r s rest l (i+1) g' c2:=by
 obtain⟨_,_,_,h3,h4,h5⟩:=h
 have hW:W.heap.size<=g':=by
  rcases hg with hg|hg
  ·exact h4 g' hg
  have:=h5.size;have:=ho.size;omega
 have e:l.take i++[l.getD i 0]=l.take (i+1):=by
  rw[List.take_succ_eq_append_getElem hi];simp[List.getD,hi]
 rw[e]at r2
 exact⟨at2,hb.only o2 (by omega),hs,.inr ⟨g',rfl,r2⟩,λ b hb=>by rw[gz hb];exact hW,
  ⟨o2.os.trans (ho.os.trans h5.os),o2.tape.trans (ho.tape.trans h5.tape),o2.output.trans (ho.output.trans h5.output),aP h5.size (aP ho.size o2.size),λ j hj=>
   ((o2.block j (bZ hj.1 (aP h5.size ho.size)) (by omega)).trans (ho.block j (bZ hj.1 h5.size) hj.2)).trans (h5.block j hj)⟩⟩
def ycg(W w:World)(r:Nat)(s rest:List UInt8)(l:List UInt64)(e:Ending):Prop:=∃ao c,e= .returned (.slice ao l.length c)/\Gp W w r s rest l l.length ao c
theorem xnf(h:ay W r (kR s at_ 0))(hs:s.drop at_=pI (l.map UInt64.toNat)++rest)(hl:s.length<1000000)(hn:l.length<=16000)(aC:Nat)(hm:l.length<=aC)(hm2:aC<=1000000)(hup:l.Pairwise λ x y=>x.toNat<y.toNat)(hk:∀x∈l,x.toNat<2^64-1) :
  Calls Tryz.prog 108 #[.pointer r,.int .i64 aC] W λ e w'=>ycg W w' r s rest l e:=by
 rw[TL,cO]at hs;have HC:=zH (xqs h l.length aC hm hm2 hs hl)
 have hs2:s.drop (at_+(bn l.length).length)=ql l 0++rest:=by
  rw[<-jV,hs,List.drop_left]
 have HK:=zH (zA hup (zA hk (zA hl (zA h.lt hs2))));clear h hs hup hk hs2 hl
 go_enter Tryz.func108,Tryz.ntmps108
 go_wp2_with fail
 refine HC.out.mono ?_;rintro e w1 ⟨rfl,hb,ho⟩;have HB:=zH (show Gp W w1 r s rest l 0 none 0 from⟨_,hb,HK.out.2.2.2.2,.inl ⟨rfl,by simp[az],rfl⟩,λ b hb=>(by cases hb),⟨ho.os,ho.tape,ho.output,ho.size,λ j hj=>ho.block j hj.1 hj.2⟩⟩);clear hb ho HC
 go_wp2_with fail
 go_loopw [6,7] (λ v6 v7 wr=>∃(i:Nat) (ao:Option Addr) (c:Nat),v6= .slice ao i c/\v7= .int .i64 i/\i<=l.length/\Gp W wr r s rest l i ao c) (λ _ v7 _=>20001-(intOf v7).toNat)
 case atStart=>exact⟨0,none,0,rfl,rfl,aY _,HB.out⟩
 clear HB;obtain⟨i,ao,c,rfl,rfl,hi,hI⟩:=hrel;have HI:=zH hI;obtain⟨at2,hb,hs,hr,ha,hkp⟩:=hI;obtain⟨hup,hk,hl,OY,_⟩:=HK.out;have c2:=hb.c2;by_cases hlt:i<l.length
 ·have q1:(i:Int)<l.length:=by omega
  cases i with
  | zero=>
   rw[OU hlt,cO]at hs;have HU:=zH (IE hb _ (l.getD 0 0).toNat_lt _ hs hl)
   have hs2:s.drop (at2+(bn (l.getD 0 0).toNat).length)=ql l 1++rest:=by
    rw[<-jV,hs,List.drop_left]
   have HR:=zH (zA hr hs2);obtain⟨x,hx⟩:∃x,x=l.getD 0 0:=⟨_,rfl⟩;rw[<-hx]at HU;have HX0:=zH hx;clear hb hs hr ha hkp hup hk hl hs2 hx
   go_wp2_with fail
   refine HU.out.mono ?_;rintro e w2 ⟨rfl,hb2,ho2⟩
   have hr2:NR w2 ao c (az (l.take (0))):=HR.out.1.only ho2 (λ hg=>by
    have:=HI.out.choose_spec.2.2.2.1 r hg;omega)
   obtain⟨g',c',w3,e1,r3,o3,hg3⟩:=CY hr2 (by rw[zt];omega) x;rw[show(l.take (0)).length=0 by rw[zt];omega]at e1;rw[HX0.out]at r3 hb2;have HX:=zH (HI.out.push OY hlt hb2 ho2 HR.out.2 r3 o3 hg3);clear hb2 ho2 hr2 r3 o3 hg3 HU HR
   go_wp2_with (at_builtin;refine UK.lH e1 rfl rfl rfl rfl rfl ?_)
   go_wp2;go_roundw
   case rel=>exact⟨0+1,_,c',by go_num,by go_num,by omega,HX.out⟩
   case measure=>simp only[intOf];omega
  | succ i=>
   rw[OT hlt,cO]at hs;have hi2:i<l.length:=by omega
   have hgj:l[i]?=some (l.getD i 0):=by simp[List.getD,hi2]
   have hlt2:(l.getD i 0).toNat<(l.getD (i+1) 0).toNat:=by
    have:=List.pairwise_iff_getElem.1 hup i (i+1) (by omega) hlt (by omega)
    simpa[List.getD,hlt,hi2]using this
   have hmx:(l.getD (i+1) 0).toNat<2^64-1:=hk _ (by simp[List.getD,hlt]);have HU:=zH (xqt hb (l.getD (i+1) 0).toNat (l.getD i 0).toNat hlt2 hmx hs hl)
   have hs2:s.drop (at2+(bn ((l.getD (i+1) 0).toNat-(l.getD i 0).toNat-1)).length)=ql l (i+1+1)++rest:=by
    rw[<-jV,hs,List.drop_left]
   have HR:=zH (zA hr hs2)
   obtain⟨kb,rfl⟩:∃kb,ao=some ⟨kb,0,none⟩:=by
    rcases hr with⟨_,hv,_⟩|⟨kb,h,_⟩
    ·exfalso;have:=congrArg List.length hv;rw[dA,zt]at this;simp only[List.length_nil]at this;omega
    exact⟨kb,h⟩
   have hrow:Row wr kb c (az (l.take (i+1))):=by
    rcases hr with⟨h,_⟩|⟨Gq,h,r⟩
    ·cases h
    injection h with h;injection h with h;subst h;exact r
   have d1:wr.cell? (kb,i)=some (.int .u64 ((l.getD i 0).toNat:Int)):=hrow.at' i _ (tH _ _ _ (by rw[eX (by omega)];exact hgj));obtain⟨x,hx⟩:∃x,x=l.getD (i+1) 0:=⟨_,rfl⟩;rw[<-hx]at HU;have HX0:=zH hx;have e1:wrap64 ((i:Int)+1-1)=(i:Int):=by unfold wrap64;omega
   have q7:(i:Int)<l.length:=by omega
   clear hb hs hr ha hkp hup hk hl hs2 hx hrow hlt2 hmx hgj hi2
   go_wp2_with fail
   refine HU.out.mono ?_;rintro e w2 ⟨rfl,hb2,ho2⟩
   have hr2:NR w2 kb c (az (l.take (i+1))):=HR.out.1.only ho2 (λ hg=>by
    have:=HI.out.choose_spec.2.2.2.1 r hg;omega)
   obtain⟨g',c',w3,e1,r3,o3,hg3⟩:=CY hr2 (by rw[zt];omega) x;rw[show(l.take (i+1)).length=i+1 by rw[zt];omega]at e1;rw[HX0.out]at r3 hb2;have HX:=zH (HI.out.push OY hlt hb2 ho2 HR.out.2 r3 o3 hg3);clear hb2 ho2 hr2 r3 o3 hg3 HU HR
   go_wp2_with (at_builtin;refine UK.lH e1 rfl rfl rfl rfl rfl ?_)
   go_wp2;go_roundw
   case rel=>exact⟨i+1+1,_,c',by go_num,by go_num,by omega,HX.out⟩
   case measure=>simp only[intOf];omega
 obtain rfl:i=l.length:=by omega
 clear hb hs hr ha hkp hup hk hl;go_wp2;go_ret;exact⟨ao,c,rfl,HI.out⟩
end
open DP (bn pG jH Rc)
section
variable{S:Nat->Prop}{W W':World}{g c:Nat}{ao ro:Option Addr}{rc:Nat}{m:List UInt8}{l:List Rc}
theorem gW.also{b:Nat}(h:gW S W g ao c m)(hb:Below W W W')(h1:W.heap.size<=b)(h2:b<W'.heap.size):gW (λ j=>S j\/j=b) W' g ao c m:=by
 have hg:=h.box.lt;refine⟨h.box.below hb hg,h.row.ae hb.size (λ j hj=>hb.block j (h.row.lt hj)),λ e=>?_,λ j hj=>?_,λ j hj=>?_⟩
 ·rcases e with e|e
  ·exact h.out e
  omega
 ·have:=h.own j hj;have hl:=h.row.lt hj;exact⟨λ e=>e.elim this.1 (λ e=>by omega),this.2⟩
 rcases hj with hj|hj
 ·exact bZ (h.low j hj) hb.size
 omega
theorem gW.less{T:Nat->Prop}(h:gW S W g ao c m)(hT:∀j,T j->S j):gW T W g ao c m:=
 ⟨h.box,h.row,λ e=>h.out (hT g e),λ j hj=>⟨λ e=>(h.own j hj).1 (hT j e),(h.own j hj).2⟩,λ j hj=>h.low j (hT j hj)⟩
def fI(q:Rc):List Nat:=[q.r,q.c,q.h,q.w]
theorem TQ(q:Rc):pG q=(fI q).flatMap bn:=by simp[pG,fI]
theorem TR(h:gW S W g ao c m)(hr:RX W ro rc l)(hS:∀j,aK ro j->S j)(hok:∀q∈l,q.ok)(hl:l.length<=700)(hm:m.length<900000) :
  Calls Tryz.prog 44 #[.pointer g,.slice ro l.length rc] W λ e w'=>e= .returned (.tuple #[])/\OQ S W w' g (m++jH l):=by
 have H1:=zH (IB h l.length (by omega) (by omega));have e1:IntKind.u64.wrap (l.length:Int)=(l.length:Int):=by rw[lN];omega
 have hE:=DP.gy (u:=l.length) (by omega);have HK:=zH (zA hr (zA hS hok));clear h hr hS hok
 go_enter Tryz.func44,Tryz.ntmps44
 go_wp2_with fail
 refine H1.out.mono ?_;rintro e w1 ⟨rfl,Aa,c1,hw1,hk1⟩;have HW:=zH (zA hw1 hk1);clear H1 hw1 hk1
 go_wp2_with fail
 go_loopw [15] (λ kv wr=>∃(i:Nat) (lS:Option Addr) (c2:Nat),kv= .int .i64 i/\i<=l.length/\Hid (gW S wr g lS c2 (m++bn l.length++(l.take i).flatMap pG)/\Kept S W wr)) (λ kv _=>20001-(intOf kv).toNat)
 case atStart=>exact⟨0,Aa,c1,rfl,aY _,zH ⟨by simpa using HW.out.1,HW.out.2⟩⟩
 clear HW;obtain⟨i,lS,c2,rfl,hi,HR⟩:=hrel;obtain⟨hw,hkp⟩:=HR.out;obtain⟨hr,hS,hok⟩:=HK.out;by_cases hlt:i<l.length
 ·obtain⟨q,hq⟩:∃q,l[i]?=some q:=⟨_,bL hlt⟩;have hqo:=hok q (eZ hq);obtain⟨y,hy⟩:∃y,y=m++bn l.length++(l.take i).flatMap pG:=⟨_,rfl⟩
  have hyn:y++pG q=m++bn l.length++(l.take (i+1)).flatMap pG:=by
   rw[hy,cO _ _ (pG q)]
   congr 1
   have:l.take (i+1)=l.take i++[q]:=by
    rw[List.take_succ_eq_append_getElem hlt]
    congr 2
    exact aZ ((bL hlt).symm.trans hq)
   rw[this,List.flatMap_append];simp
  have hyl:y.length+50<1000000:=by
   have h8:=DP.lM (f:=pG) (l:=l.take i) (n:=8) (λ x hx=>DP.uQ (hok x (iM hx)));have:=congrArg List.length hy;simp only[zl,zt]at this h8;omega
  have hr2:RX wr ro rc l:=hr.ae hkp.size (λ b hb=>hkp.block b (hS b hb));obtain⟨rb,rfl,d0,d1,d2,d3⟩:=hr2.four hq;rw[<-hy]at hw;have q1:(i:Int)<l.length:=by omega
  have HX:=zH (zA hw (zA hkp (zA hyn hqo)));clear hw hkp hr hS hok hr2 HR hy hyn;obtain⟨wo,hwo⟩:∃wo,wo=wr:=⟨_,rfl⟩;subst hwo;obtain⟨t,ht⟩:∃t,t=wo.heap.size+1:=⟨_,rfl⟩;have hA:=HX.out.1;have b1:Below wo wo (wo.alloc (.cells #[.int .i64 q.r,.int .i64 q.c,.int .i64 q.h,.int .i64 q.w] 23)):=(aV _ _).alloc (aO _) _;have s1:(wo.alloc (.cells #[.int .i64 q.r,.int .i64 q.c,.int .i64 q.h,.int .i64 q.w] 23)).heap.size=wo.heap.size+1:=by simp
  have b2:Below wo wo ((wo.alloc (.cells #[.int .i64 q.r,.int .i64 q.c,.int .i64 q.h,.int .i64 q.w] 23)).alloc (.cells #[.int .i64 q.r,.int .i64 q.c,.int .i64 q.h,.int .i64 q.w] 3)):=b1.alloc (by rw[s1];omega) _;have s2:((wo.alloc (.cells #[.int .i64 q.r,.int .i64 q.c,.int .i64 q.h,.int .i64 q.w] 23)).alloc (.cells #[.int .i64 q.r,.int .i64 q.c,.int .i64 q.h,.int .i64 q.w] 3)).heap.size=wo.heap.size+2:=by simp
  have hbx:=ay.new (wo.alloc (.cells #[.int .i64 q.r,.int .i64 q.c,.int .i64 q.h,.int .i64 q.w] 23)) #[.int .i64 q.r,.int .i64 q.c,.int .i64 q.h,.int .i64 q.w] 3;rw[s1,<-ht]at hbx;have HA:=zH (zA (hA.also b2 (b:=t) (by omega) (by rw[s2];omega)) (zA hbx (Kept.of_below b2 hA.low)));clear hA b1 b2 s2 hbx
  go_wp2_with fail
  go_loopw [29] (λ kv wr=>∃(k:Nat) (Bo:Option Addr) (c3:Nat),kv= .int .i64 k/\k<=4/\Hid (gW (λ j=>S j\/j=t) wr g Bo c3 (y++((fI q).take k).flatMap bn)/\ay wr t #[.int .i64 q.r,.int .i64 q.c,.int .i64 q.h,.int .i64 q.w]/\Kept S wo wr)) (λ kv _=>5-(intOf kv).toNat)
  case atStart=>exact⟨0,lS,c2,rfl,by omega,zH ⟨by simpa using HA.out.1,HA.out.2.1,HA.out.2.2⟩⟩
  clear HA;obtain⟨k,Bo,c3,rfl,hk4,HI⟩:=hrel;obtain⟨hw,hbx,hkq⟩:=HI.out;by_cases pY:k<4
  ·have hln:(fI q).length=4:=rfl;obtain⟨z,hz⟩:∃z,(fI q)[k]?=some z:=⟨_,bL (by rw[hln];exact pY)⟩
   have hz2:z<=3000:=by
    have:=HX.out.2.2.2;unfold Rc.ok at this;have hm:=eZ hz;simp only[fI,aN,List.not_mem_nil,or_false]at hm;omega
   have cz:wr.cell? ⟨wo.heap.size+1,k,none⟩=some (.int .i64 z):=by
    rw[<-ht];refine hbx.cell k _ ?_;rw[show(#[.int .i64 q.r,.int .i64 q.c,.int .i64 q.h,.int .i64 q.w]:Array Value)=((fI q).map λ n:Nat=>Value.int .i64 (n:Int)).toArray from rfl,List.getElem?_toArray,dL,hz];rfl
   have hzl:(y++((fI q).take k).flatMap bn).length+10<1000000:=by
    have h2:=DP.lM (f:=bn) (l:=(fI q).take k) (n:=10) (λ x hx=>by
     have hm:=iM hx;have:=HX.out.2.2.2;unfold Rc.ok at this;simp only[fI,aN,List.not_mem_nil,or_false]at hm;exact DP.fU (by omega))
    rw[zt]at h2;rw[zl];omega
   have HU:=zH (IB hw z (by omega) hzl);have e8:IntKind.u64.wrap (z:Int)=(z:Int):=by rw[lN];omega
   have q4:(k:Int)<4:=by omega
   have TS:y++((fI q).take k).flatMap bn++bn z=y++((fI q).take (k+1)).flatMap bn:=by
    rw[cO]
    congr 1
    have:(fI q).take (k+1)=(fI q).take k++[z]:=by
     rw[List.take_succ_eq_append_getElem (by rw[hln];exact pY)]
     congr 2
     exact aZ ((bL (by rw[hln];exact pY)).symm.trans hz)
    rw[this,List.flatMap_append];simp
   rw[TS]at HU;have HB:=zH (zA hbx hkq);clear hw hbx hkq HI TS hzl hz
   go_wp2_with fail
   refine HU.out.mono ?_;rintro e w4 ⟨rfl,Gs,c4,hw4,Eu⟩;have HY:=zH (zA hw4 (zA (HB.out.1.ae (Eu.block t (.inr rfl))) (HB.out.2.trans (Eu.mono (λ j hj=>.inl hj)))));clear hw4 Eu HU HB;go_wp2;go_roundw
   case rel=>exact⟨k+1,Gs,c4,by go_num,by omega,zH HY.out⟩
   case measure=>simp only[intOf];omega
  obtain rfl:k=4:=by omega
  have HY:=zH (zA hw hkq);clear hw hbx hkq HI;go_wp2;go_roundw
  case rel=>
   refine⟨i+1,Bo,c3,by go_num,by omega,zH ⟨?_,HX.out.2.1.trans HY.out.2⟩⟩;have h1:=HY.out.1.less (T:=S) (λ j hj=>.inl hj);rw[show(fI q).take 4=fI q from rfl,<-TQ,HX.out.2.2.1]at h1;exact h1
  case measure=>simp only[intOf];omega
 obtain rfl:i=l.length:=by omega
 rw[fH]at hw;have HX:=zH (zA hw hkp);clear hw hkp hr hS hok HR;go_wp2
 go_end0
 refine⟨rfl,lS,c2,?_,HX.out.2⟩;unfold jH;rw[<-cO];exact HX.out.1
end
end Go.Proofs.YtgpmiliahonaoaaGreatDoor
