/- Facts on texts on pages. -/
import Derived.Test.YtgpmiliahonaoaaGreatDoorKSoHc
set_option maxRecDepth 100000
set_option maxHeartbeats 8000000
set_option linter.unusedSimpArgs false
open Or renaming inl->O,inr->al
open Go.Value renaming bool->a6,int->V,pointer->aq,slice->ad,string->a8,tuple->a9
open Go.Ending renaming returned->aw
open Go.IntKind renaming i64->U,u64->a7
open List renaming length->Y
open Go.Proofs.Tryz
namespace Go.Proofs.YtgpmiliahonaoaaGreatDoor
open Go.RowKit
open UK (Only ay)
open Go.BigFrame
variable{a b i j g n c k r at_ kc rc N M:Nat}{m s rest:List UInt8}{f f1 p v f':Nat->UInt64}{W w z W':World}{l:List UInt64}{ao ko ro:Option Addr}{P:Program}{S T:Nat->Prop}{A:Int}
namespace So
variable{a1 b1 m:Nat}{g h:Nat->UInt64}
def PQ(a b a1 b1:Nat)(f:Nat->UInt64):Prop:=∀x y,a<=x->x<y->y<b->(x<a1\/b1<=y)->(f x).toNat<=(f y).toNat
theorem PQ.sh(h:PQ a b a1 b1 f)(c:Sh a1 b1 f g)(q:a<=a1)(p:b1<=b):PQ a b a1 b1 g:=λ x y d m e i=>by
 by_cases o:x<a1\/b1<=x
 ·rw[c.out o];by_cases j:y<a1\/b1<=y
  ·rw[c.out j];exact h x y d m e i
  exact c.all (P:=λ v=>(f x).toNat<=v.toNat) (λ k n l=>h x k d Z Z Z) y Z Z
 rw[c.out (k:=y) Z];exact c.all (P:=λ v=>v.toNat<=(f y).toNat) (λ k n l=>h k y Z Z e Z) x Z Z
theorem PQ.done(h:PQ a b a1 b1 f)(e:lZ a1 b1 f):lZ a b f:=λ x y d c g=>by
 by_cases i:x<a1\/b1<=y
 ·exact h x y d c g i
 exact e x y Z c Z
theorem PQ.left(h:PQ a b a1 b1 f)(i:lZ a1 m f)(e:∀k,a1<=k->k<m->(f k).toNat<=(f m).toNat)(d:∀k,m<k->k<b1->(f m).toNat<=(f k).toNat):PQ a b (m+1) b1 f:=λ x y g c j q=>by
 by_cases p:x<a1\/b1<=y
 ·exact h x y g c j p
 by_cases n:y<m
 ·exact i x y Z c n
 by_cases l:y=m
 ·subst l;exact e x Z c
 by_cases o:x=m
 ·subst o;exact d y c Z
 exact aT (e x Z Z) (d y Z Z)
theorem PQ.right(h:PQ a b a1 b1 f)(i:lZ (m+1) b1 f)(e:∀k,a1<=k->k<m->(f k).toNat<=(f m).toNat)(d:∀k,m<k->k<b1->(f m).toNat<=(f k).toNat):PQ a b a1 m f:=λ x y g c j p=>by
 by_cases o:x<a1\/b1<=y
 ·exact h x y g c j o
 by_cases q:m<x
 ·exact i x y Z c Z
 by_cases l:x=m
 ·subst l;exact d y c Z
 by_cases n:y=m
 ·subst n;exact e x Z c
 exact aT (e x Z Z) (d y Z Z)
theorem PQ.like(h:PQ a b a1 b1 f)(r:Lo a1 b1 f)(o:0<a1)(v:a1<m)(g:(f a1).toNat<=(f (a1-1)).toNat)(e:∀k,a1<=k->k<m->(f k).toNat<=(f a1).toNat)(n:∀k,m<=k->k<b1->(f a1).toNat<(f k).toNat):PQ a b m b1 f/\Lo m b1 f:=by
 have low:∀k,a1<=k->k<b1->(f a1).toNat<=(f k).toNat:=λ k d c=>aT g (r k o d c);refine⟨λ x y i p l t=>?_,λ k u d c=>?_⟩
 ·by_cases s:x<a1\/b1<=y
  ·exact h x y i p l s
  have q:=e x Z Z;have j:=low y Z Z;omega
 have q:=e (m-1) Z Z;have j:=n k d c;omega
structure PD(W:World)(B n a b:Nat)(f:Nat->UInt64)(a1 b1:Nat)(f1:Nat->UInt64)(w:World):Prop where
 CL:a<=a1
 ab:a1<=b1
 Bz:b1<=b
 sh:Sh a b f f1
 lo:Lo a1 b1 f1
 pq:PQ a b a1 b1 f1
 u:dK w B n f1
 o:Only B W w
variable{e:World}{B:Nat}
theorem PD.step(h:PD W B n a b f a1 b1 f1 w)(c:Sh a1 b1 f1 p)(g:dK e B n p)(d:Only B w e):PD W B n a b f a1 b1 p e:=
 ⟨h.CL,h.ab,h.Bz,h.sh.trans (c.wide h.CL h.Bz),h.lo.sh c,h.pq.sh c h.CL h.Bz,g,h.o.trans d⟩
theorem PD.same(h:PD W B n a b f a1 b1 f1 w)(c:Below w w e):PD W B n a b f a1 b1 f1 e:=
 ⟨h.CL,h.ab,h.Bz,h.sh,h.lo,h.pq,h.u.ae c.size (c.block B h.u.lt),h.o.trans (Only.of_below c)⟩
theorem PD.drewN(h:PD W B n a b f a1 b1 f1 w)(q:Nat):PD W B n a b f a1 b1 f1 (w.drewN q):=⟨h.CL,h.ab,h.Bz,h.sh,h.lo,h.pq,h.u.drewN q,h.o.drewN q⟩
theorem PD.left(h:PD W B n a b f a1 b1 f1 w)(r:Sh a1 b1 f1 v)(D:a1<=m/\m<b1)(x:∀k,a1<=k->k<m->(v k).toNat<(v m).toNat)(u:∀k,m<k->k<b1->(v m).toNat<=(v k).toNat)(q:dK z B n v)(A:Only B w z)(g:Sh a1 m v p)(C:lZ a1 m p)(l:dK e B n p)(t:Only B z e):PD W B n a b f (m+1) b1 p e:=by
 have o:p m=v m:=g.out (al (aH _))
 have y:∀k,a1<=k->k<m->(p k).toNat<=(p m).toNat:=λ k d c=>by
  rw[o];exact g.all (P:=λ s=>s.toNat<=(v m).toNat) (λ k d c=>Nat.le_of_lt (x k d c)) k d c
 have j:∀k,m<k->k<b1->(p m).toNat<=(p k).toNat:=λ k d c=>by
  rw[o,g.out (k:=k) (al Z)];exact u k d c
 have i:=(h.step r q A).step (g.wide (aH _) Z) l t;have:=h.CL;exact⟨Z,Z,h.Bz,i.sh,λ k _ d c=>j k Z c,i.pq.left C y j,l,i.o⟩
theorem PD.right(h:PD W B n a b f a1 b1 f1 w)(q:Sh a1 b1 f1 v)(E:a1<=m/\m<b1)(y:∀k,a1<=k->k<m->(v k).toNat<(v m).toNat)(x:∀k,m<k->k<b1->(v m).toNat<=(v k).toNat)(o:dK z B n v)(C:Only B w z)(i:Sh (m+1) b1 v p)(D:lZ (m+1) b1 p)(j:dK e B n p)(u:Only B z e):PD W B n a b f a1 m p e:=by
 have l:p m=v m:=i.out (O (Nat.lt_succ_self _))
 have A:∀k,a1<=k->k<m->(p k).toNat<=(p m).toNat:=λ k d c=>by
  rw[l,i.out (k:=k) (O Z)];exact Nat.le_of_lt (y k d c)
 have r:∀k,m<k->k<b1->(p m).toNat<=(p k).toNat:=λ k d c=>by
  rw[l];exact i.all (P:=λ s=>(v m).toNat<=s.toNat) (λ k d c=>x k Z c) k Z c
 have g:=(h.step q o C).step (i.wide Z (aH _)) j u;have:=h.Bz;exact⟨h.CL,Z,Z,g.sh,λ k t d c=>g.lo k t d Z,g.pq.right D A r,j,g.o⟩
theorem PD.done(h:PD W B n a b f a1 b1 f1 w)(c:Sh a1 b1 f1 p)(d:lZ a1 b1 p):Sh a b f p/\lZ a b p:=
 ⟨h.sh.trans (c.wide h.CL h.Bz),(h.pq.sh c h.CL h.Bz).done d⟩
def Vt(W e:World)(B n a b:Nat)(f:Nat->UInt64)(c:Ending):Prop:=c=aw (a9 #[])/\∃f',Sh a b f f'/\lZ a b f'/\dK e B n f'/\Only B W e
theorem QU(x:Bool):∃t:Nat,t<=1/\a6 x=a6 (t==1):=by
 cases x
 ·exact⟨0,Z,rfl⟩
 exact⟨1,Z,rfl⟩
theorem Ix(n cap B:Nat)(H:n<=1000000):∀(h2 a b l:Nat) (f:Nat->UInt64) (W:World),b-a<h2->a<=b->b<=n->l<=100->dK W B n f->Lo a b f ->
  Calls prog 111 #[ad B n cap,V U a,V U b,V U l] W λ w e=>Vt W e B n a b f w:=by
 intro h2
 induction h2 with
 | zero=>exact λ a b l f W hd=>absurd hd (jI _)
 | succ h2 ih=>
  intro a b l f W hd hi hb Ol h M;have h5:=zH ih;have h9:=zH (show PD W B n a b f a b f W from⟨aH _,hi,aH _,.refl,M,λ x y C E A D=>Z,h,Only.refl _ _⟩);clear ih h M
  go_enter func111,ntmps111
  go_wp2_with fail
  go_loopw [1,2,3,8,9] (λ v1 v2 v3 v8 v9 wr=>∃(a1 b1 J:Nat) (f1:Nat->UInt64),v1=V U a1/\v2=V U b1/\v3=V U J/\J<=100/\(∃t:Nat,t<=1/\v8=a6 (t==1))/\(∃t:Nat,t<=1/\v9=a6 (t==1))/\PD W B n a b f a1 b1 f1 wr) (λ v1 v2 _ _ _ _=>(intOf v2).toNat-(intOf v1).toNat)
  case atStart=>exact⟨a,b,l,f,rfl,rfl,rfl,Ol,⟨1,aH _,rfl⟩,⟨1,aH _,rfl⟩,h9.out⟩
  clear h9;obtain⟨a1,b1,J,f1,rfl,rfl,rfl,hj,⟨X,hg,rfl⟩,⟨t9,ha,rfl⟩,o⟩:=hrel;have p1:=o.CL;have p2:=o.ab;have p3:=o.Bz;have e0:wrap64 ((b1:Int)-(a1:Int))=(b1:Int)-(a1:Int):=by unfold wrap64;omega
  by_cases hm:b1<=a1+12
  ·have q1:(b1:Int)-(a1:Int)<=12:=Z
   have HI:=zH (vl (cap:=cap) o.u p2 Z H);have q:=zH o;clear o
   go_wp2_with fail
   refine HI.out.mono ?_;rintro w w2 ⟨rfl,p,c,j,d,g⟩;have i:=bm (q.out.done c j) d (q.out.o.trans g);clear c j d g q HI;go_wp2;refine bodyPost_ret (results_none rfl _ _ _) rfl ?_;exact⟨rfl,p,i.out.1.1,i.out.1.2,i.out.2.1,i.out.2.2⟩
  have q1:¬(b1:Int)-(a1:Int)<=12:=Z
  by_cases h4:J=0
  ·subst h4;have HI:=zH (lO (cap:=cap) o.u H p2 Z);have q:=zH o;clear o
   go_wp2_with fail
   refine HI.out.mono ?_;rintro w w2 ⟨rfl,p,c,j,d,g⟩;have i:=bm (q.out.done c j) d (q.out.o.trans g);clear c j d g q HI;go_wp2;refine bodyPost_ret (results_none rfl _ _ _) rfl ?_;exact⟨rfl,p,i.out.1.1,i.out.1.2,i.out.2.1,i.out.2.2⟩
  have q2:((J:Int)==0)=false:=beq_eq_false_iff_ne.2 Z;have q:=zH o;clear o
  go_upto_if 35 with(fail)
  go_cut [3] (λ v3 G=>∃(s:Nat) (p:Nat->UInt64),v3=V U s/\s<=100/\PD W B n a b f a1 b1 p G)
  case first=>
   by_cases h8:X=1
   ·subst h8;go_wp2;go_meet
    case rel=>exact⟨J,f1,rfl,hj,q.out⟩
   obtain rfl:X=0:=Z
   obtain⟨s,rfl⟩:∃s,J=s+1:=⟨J-1,Z⟩;have HI:=zH (lp (cap:=cap) q.out.u H (show a1+13<=b1 from Z) (show b1<=n from Z));have e1:wrap64 ((s:Int)+1-1)=(s:Int):=by unfold wrap64;omega
   go_wp2_with fail
   refine HI.out.mono ?_;rintro w w2 ⟨rfl,p,c,d,g⟩;have i:=zH (q.out.step c d g);clear c d g HI;go_wp2;go_meet
   case rel=>exact⟨s,p,by go_num,Z,i.out⟩
  case rest=>
  clear q h4 q2;obtain⟨s,p,rfl,h0,o⟩:=hcut;have q:=zH o;have HV:=zH (mw (cap:=cap) o.u H (show a1+13<=b1 from Z) (show b1<=n from Z));clear o
  go_wp2_with fail
  refine HV.out.mono ?_;rintro w w2 ⟨u,t,rfl,P,Y,ht,h7⟩;have r:=zH (q.out.same h7);clear q HV h7
  go_upto_if 50 with(fail)
  go_cut [11,12] (λ hc h1 G=>∃(u t:Nat) (R:Nat->UInt64),hc=V U u/\h1=V U t/\a1<=u/\u<b1/\PD W B n a b f a1 b1 R G)
  case first=>
   by_cases hh:t=2
   ·subst hh;obtain⟨p',hn⟩:∃p',p'=a1+(b1-1-u):=⟨_,rfl⟩;have HI:=zH (IM (cap:=cap) r.out.u H (show a1<b1 from Z) (show b1<=n from Z));have e1:(b1:Int)-1-((u:Int)-(a1:Int))=(p':Int):=Z
    go_wp2_with fail
    refine HI.out.mono ?_;rintro w I ⟨rfl,R,c,d,g⟩;have i:=zH (r.out.step c d g);clear c d g HI;go_wp2;go_meet
    case rel=>exact⟨p',1,R,by go_num,rfl,Z,Z,i.out⟩
   have q2:((t:Int)==2)=false:=beq_eq_false_iff_ne.2 Z;go_wp2;go_meet
   case rel=>exact⟨u,t,p,rfl,rfl,P,Y,r.out⟩
  case rest=>
  clear r P Y ht;obtain⟨u,t,R,rfl,rfl,P,Y,z⟩:=hcut;have r:=zH z;clear z
  go_upto_region 15 with(fail)
  go_cut [68] (λ h1 G=>∃x:Nat,x<=1/\h1=a6 (x==1)/\G=wc)
  case first=>
   rcases(show X=0\/X=1 from Z)with rfl|rfl
   ·go_wp2;go_meet
    case rel=>exact⟨0,Z,rfl,rfl⟩
   rcases(show t9=0\/t9=1 from Z)with rfl|rfl
   ·go_wp2;go_meet
    case rel=>exact⟨0,Z,rfl,rfl⟩
   by_cases he:t=1
   ·subst he;go_wp2;go_meet
    case rel=>exact⟨1,Z,rfl,rfl⟩
   have q2:((t:Int)==1)=false:=beq_eq_false_iff_ne.2 Z;go_wp2;go_meet
   case rel=>exact⟨0,Z,rfl,rfl⟩
  case rest=>
  obtain⟨x,hx,rfl,Q⟩:=hcut;rw[<-Q]at r;clear Q
  go_upto_if 68 with(fail)
  go_cut [] (λ G=>∃f4:Nat->UInt64,PD W B n a b f a1 b1 f4 G)
  case first=>
   rcases(show x=0\/x=1 from Z)with rfl|rfl
   ·go_wp2;go_meet
    case rel=>exact⟨R,r.out⟩
   have HI:=zH (AI (cap:=cap) r.out.u r.out.lo H (show a1<b1 from Z) (show b1<=n from Z))
   go_wp2_with fail
   refine HI.out.mono ?_;rintro w I ⟨t3,rfl,f4,c,j,d,g⟩;have i:=zH (r.out.step c d g);have HY:=zH (λ h=>r.out.done c (j h));clear c j d g HI
   cases t3 with
   | true=>
    have h6:=zH (HY.out rfl);clear HY;go_wp2;refine bodyPost_ret (results_none rfl _ _ _) rfl ?_;exact⟨rfl,f4,h6.out.1,h6.out.2,i.out.u,i.out.o⟩
   | false=>
    go_wp2;go_meet
    case rel=>exact⟨f4,i.out⟩
  case rest=>
  clear r hx x;obtain⟨f4,z⟩:=hcut;have q3:(a1:Int)<n:=Z
  have q4:(u:Int)<n:=Z
  have r:=zH z
  go_upto_region 17 with(fail)
  go_cut [87] (λ h1 G=>∃(y nq:Nat),y<=1/\h1=a6 (y==1)/\Hid (y=1->0<a1/\(f4 u).toNat<=(f4 (a1-1)).toNat)/\G=wc.drewN nq)
  case first=>
   by_cases hk:a1=0
   ·subst hk;clear z
    go_wp2_with fail
    go_quiet (fail)
    go_wp2;go_meet
    case rel=>exact⟨0,nq,Z,rfl,zH (λ h=>Z),rfl⟩
   obtain⟨F,rfl⟩:∃F,a1=F+1:=⟨a1-1,Z⟩;have q5:(0:Int)<(F:Int)+1:=Z
   have q6:(F:Int)<n:=Z
   have e1:wrap64 ((F:Int)+1-1)=(F:Int):=by unfold wrap64;omega
   have c1:=λ m=>(z.u.drewN m).cell F Z;have c2:=λ m=>(z.u.drewN m).cell u Z;have hL:=λ m=>xx (f4 F) (f4 u) (wc.drewN m);clear z;by_cases v:(f4 F).toNat<(f4 u).toNat
   ·rw[decide_eq_true v]at hL
    go_wp2_with fail
    go_quiet (first|(go_at_call 190;refine Calls.quiet_of_same (hL _)))
    go_wp2;go_meet
    case rel=>exact⟨0,nq,Z,rfl,zH (λ h=>Z),rfl⟩
   rw[decide_eq_false v]at hL
   go_wp2_with fail
   go_quiet (first|(go_at_call 190;refine Calls.quiet_of_same (hL _)))
   go_wp2;go_meet
   case rel=>exact⟨1,nq,Z,rfl,zH (λ _=>⟨Z,by rw[Nat.add_sub_cancel];omega⟩),rfl⟩
  case rest=>
  obtain⟨y,nq,hy,rfl,hY,Q⟩:=hcut;have HZ:=zH (show PD W B n a b f a1 b1 f4 wc from Q▸z.drewN nq);clear z r Q;rcases(show y=1\/y=0 from Z)with rfl|rfl
  ·obtain⟨y1,y2⟩:=hY.out rfl;have HI:=zH (kM (cap:=cap) HZ.out.u H P Y (show b1<=n from Z))
   go_wp2_with fail
   refine HI.out.mono ?_;rintro w I ⟨m,K,rfl,m1,m2,c,v,j,hv,d,g⟩;have L:=HZ.out.step c d g;have h3:=L.pq.like L.lo y1 m1 (by rw[hv,c.out (O Z)];exact y2) v j;have i:=zH (show PD W B n a b f m b1 K I from⟨Z,m2,L.Bz,L.sh,h3.2,h3.1,L.u,L.o⟩);clear c v j hv d g HI L h3 hY HZ;go_wp2;go_roundw
   case rel=>exact⟨m,b1,s,K,rfl,rfl,rfl,h0,⟨X,hg,rfl⟩,⟨t9,ha,rfl⟩,i.out⟩
   case measure=>simp only[intOf];omega
  have HI:=zH (lz (cap:=cap) HZ.out.u H P Y (show b1<=n from Z));clear hY
  go_wp2_with fail
  refine HI.out.mono ?_;rintro w I ⟨m,tt,K,rfl,m1,m2,c,v,j,d,g⟩;have i:=bp c (zA v j) d (HZ.out.o.trans g);have M:=HZ.out.lo.sh c;have e1:wrap64 ((m:Int)-(a1:Int))=(m:Int)-(a1:Int):=by unfold wrap64;omega
  have e2:wrap64 ((b1:Int)-(m:Int))=(b1:Int)-(m:Int):=by unfold wrap64;omega
  obtain⟨T,hT⟩:∃T,T=((b1:Int)-(a1:Int)).tdiv 8:=⟨_,rfl⟩;by_cases hl:(m:Int)-(a1:Int)<(b1:Int)-(m:Int)
  ·have HC:=zH (h5.out a1 m s K I Z m1 Z h0 d (λ k k0 k1 k2=>M k k0 k1 Z));have N:=zH (λ (p:Nat->UInt64) (e:World) (C:Sh a1 m K p) (E:lZ a1 m p) (A:dK e B n p) (D:Only B I e)=>HZ.out.left c ⟨m1,m2⟩ v j d g C E A D);clear c v j d g HI M
   go_wp2_with fail
   refine HC.out.mono ?_;rintro w w4 ⟨rfl,S,C,E,A,D⟩;have yV:=zH (N.out S w4 C E A D);clear C E A D HC N i;go_wp2;go_roundw
   case rel=>exact⟨m+1,b1,s,S,by go_num,rfl,rfl,h0,QU _,QU _,yV.out⟩
   case measure=>simp only[intOf];omega
  have HC:=zH (h5.out (m+1) b1 s K I Z Z Z h0 d (λ k k0 k1 k2=>by rw[Nat.add_sub_cancel];exact j k Z k2));have N:=zH (λ (p:Nat->UInt64) (e:World) (C:Sh (m+1) b1 K p) (E:lZ (m+1) b1 p) (A:dK e B n p) (D:Only B I e)=>HZ.out.right c ⟨m1,m2⟩ v j d g C E A D);clear c v j d g HI M
  go_wp2_with fail
  refine HC.out.mono ?_;rintro w w4 ⟨rfl,S,C,E,A,D⟩;have yV:=zH (N.out S w4 C E A D);clear C E A D HC N i;go_wp2;go_roundw
  case rel=>exact⟨a1,m,s,S,rfl,rfl,rfl,h0,QU _,QU _,yV.out⟩
  case measure=>simp only[intOf];omega
end So
open Go.RowKit
open UK (Only ay Row)
open Go.BigFrame
namespace So
variable{g:Nat->UInt64}
theorem Sh.inj(h:Sh a b f g)(hf:∀i j,i<b->j<b->f i=f j->i=j):∀i j,i<b->j<b->g i=g j->i=j:=by
 induction h with
 | refl=>exact hf
 | @swap g x y _ o n d=>
  intro i j hi hj e;unfold swp at e;by_cases m:i=x
  ·subst m;rw[be rfl]at e;by_cases k:j=i
   ·exact k.symm
   rw[aE k]at e;by_cases c:j=y
   ·subst c;rw[be rfl]at e;exact(d _ _ hj hi e).symm
   rw[aE c]at e;exact absurd (d _ _ n.2 hj e).symm c
  rw[aE m]at e;by_cases k:i=y
  ·subst k;rw[be rfl]at e;by_cases c:j=x
   ·subst c;rw[be rfl]at e;exact(d _ _ hj hi e).symm
   rw[aE c]at e;by_cases l:j=i
   ·exact l.symm
   rw[aE l]at e;exact absurd (d _ _ o.2 hj e).symm c
  rw[aE k]at e;by_cases c:j=x
  ·subst c;rw[be rfl]at e;exact absurd (d _ _ hi n.2 e) k
  rw[aE c]at e;by_cases l:j=y
  ·subst l;rw[be rfl]at e;exact absurd (d _ _ hi o.2 e) m
  rw[aE l]at e;exact d _ _ hi hj e
structure Al(l l':List UInt64):Prop where
 len:Y l'=Y l
 up:l'.Pairwise λ x y=>x.toNat<=y.toNat
 mem:∀x,x∈l'↔x∈l
 fA:l.Nodup->l'.Nodup
theorem yh(h:Sh 0 (Y l) (λ j=>l.getD j 0) f)(q:lZ 0 (Y l) f):Al l ((List.range (Y l)).map f):=by
 have g:∀j (a:j<Y l),l.getD j 0=l[j]:=λ j a=>by simp[List.getD,a]
 refine⟨by simp,?_,λ x=>?_,λ s=>?_⟩
 ·rw[List.pairwise_map];refine(List.pairwise_lt_range (n:=Y l)).imp_of_mem (λ {i j} b a o=>?_);exact q i j (aR _) o (ky.1 a)
 ·constructor
  ·intro m;obtain⟨j,a,rfl⟩:=bL.1 m;exact h.all (P:=λ v=>v∈l) (λ k _ d=>by rw[g k d];exact List.getElem_mem d) j (aR _) (ky.1 a)
  intro m;obtain⟨j,a,e⟩:=fU m;have:=h.Bw (P:=λ v=>v∈(List.range (Y l)).map f) (λ k _ d=>bL.2 ⟨k,ky.2 d,rfl⟩) j (aR _) a;rw[g j a,e]at this;exact this
 have b:=h.inj (λ i j b a e=>by
  rw[g i b,g j a]at e;have n:=jP.1 s;rcases Nat.lt_trichotomy i j with c|c|c
  ·exact absurd e (n i j b a c)
  ·exact c
  exact absurd e.symm (n j i a b c))
 rw[List.nodup_iff_pairwise_ne,List.pairwise_map]
 exact(List.pairwise_lt_range (n:=Y l)).imp_of_mem (λ {i j} r p o e=>by
  have:=b i j (ky.1 r) (ky.1 p) e;omega)
theorem dK.vK{g:Nat}(h:Row W g c (az l)):dK W g (Y l) (λ j=>l.getD j 0):=by
 have b:(az l).length=Y l:=dH l;refine⟨h.lt,λ j a=>?_,λ j a=>h.free j (by have:=h.le;omega)⟩;rw[h.holds j Z];simp[az,List.getD,a]
theorem dK.row{g:Nat}(h:dK w g (Y l) f):Row w g (Y l) (az ((List.range (Y l)).map f)):=by
 refine⟨h.lt,by rw[dH];simp,λ j a=>?_,λ j a=>⟨by rw[h.cell j a];rfl,h.free j a⟩⟩;rw[dH]at a;simp only[bS,List.length_range]at a;rw[h.cell j a];simp[az,a]
theorem Bg(W:World) :
  Calls prog 184 #[ad none 0 0,V U 0,V U 0] W λ e a=>e=aw (a9 #[])/\a=W:=by
 go_enter func184,ntmps184
 go_wp2_with fail
 go_loopw [6] (λ b wr=>b=V U 1/\wr=W) (λ _ _=>0)
 case atStart=>exact⟨rfl,rfl⟩
 obtain⟨rfl,rfl⟩:=hrel;go_wp2
 go_end0
 exact⟨rfl,rfl⟩
theorem Ie(W:World) :
  Calls prog 111 #[ad none 0 0,V U 0,V U 0,V U 0] W λ e c=>e=aw (a9 #[])/\c=W:=by
 go_enter func111,ntmps111
 go_wp2_with fail
 go_loopw [1,2] (λ b a wr=>b=V U 0/\a=V U 0/\wr=W) (λ _ _ _=>0)
 case atStart=>exact⟨rfl,rfl,rfl⟩
 obtain⟨rfl,rfl,rfl⟩:=hrel
 go_wp2_with fail
 refine(Bg _).mono ?_;rintro e d ⟨rfl,rfl⟩;go_wp2;refine bodyPost_ret (results_none rfl _ _ _) rfl ?_;exact⟨rfl,rfl⟩
theorem ul(h:NR W ao c (az l))(w:Y l<=1000000) :
  Calls prog 50 #[ad ao (Y l) c] W λ e p=>e=aw (a9 #[])/\∃n,Al l n/\NR p ao (Y l) (az n)/\Kept (λ j=>j<W.1.size/\¬aG ao j) W p:=by
 have y:Lib.bitLen (Y l)<=20:=Lib.bitLen_le (Y l) 20 Z Z;rcases h with⟨rfl,t,rfl⟩|⟨g,rfl,r⟩
 ·obtain rfl:l=[]:=by
   cases l with
   | nil=>rfl
   | cons x l=>simp[az]at t
  have H:=zH (Any.bits_Len lenA 0 W Z Z);have i:Lib.bitLen ((0:Int)).toNat=0:=by decide
  rw[i]at H
  go_enter func50,ntmps50
  go_wp2_with fail
  refine H.out.mono ?_;rintro e s ⟨rfl,rfl⟩
  go_wp2_with fail
  refine(Ie _).mono ?_;rintro e v ⟨rfl,rfl⟩;go_wp2
  go_end0
  exact⟨rfl,[],⟨rfl,List.Pairwise.nil,λ x=>Iff.rfl,λ h=>h⟩,O ⟨rfl,rfl,rfl⟩,Kept.refl _ _⟩
 have b:=dK.vK r;have H:=zH (Any.bits_Len lenA (Y l:Int) W Z Z);have i:((Y l:Int)).toNat=Y l:=Z
 rw[i]at H;have m:=zH (Ix (Y l) c g w (Y l+1) 0 (Y l) (Lib.bitLen (Y l)) _ W Z (aR _) (aH _) Z b (λ k z=>Z));have A:IntKind.u64.wrap (Y l:Int)=(Y l:Int):=by rw[mX];omega
 obtain⟨k,o⟩:∃k,k=Lib.bitLen (Y l):=⟨_,rfl⟩;rw[<-o]at H m y;clear r b o
 go_enter func50,ntmps50
 go_wp2_with fail
 refine H.out.mono ?_;rintro e s ⟨rfl,rfl⟩
 go_wp2_with fail
 refine m.out.mono ?_;rintro e v ⟨rfl,f',d,f,b,a⟩;have u:=bp d f b a;clear d f b a m H;go_wp2
 go_end0
 obtain⟨d,f,b,a⟩:=u.out;exact⟨rfl,_,yh d f,al ⟨g,rfl,b.row⟩,⟨a.os,a.tape,a.output,a.size,λ j q=>a.block j q.1 (λ e=>q.2 (by rw[e];rfl))⟩⟩
end So
open Go.RowKit Go.BigFrame
open UK (str aF nth Only Row ay)
namespace So
structure Cp(f f':Nat->UInt64)(k r:Nat):Prop where
 pos:1<=k
 lt:k<r
 rest:∀j,k<=j->f' j=f j
 up:∀i j,i<j->j<k->(f' i).toNat<(f' j).toNat
 all:∀i,i<r->∃j,j<k/\f' j=f i
 old:∀j,j<k->∃i,i<r/\f' j=f i
theorem Cp.start(a:1<=k)(b:∀i j,i<j->j<k->(f i).toNat<(f j).toNat)(c:f k=f (k-1)):Cp f f k (k+1):=
 ⟨a,Z,λ _ _=>rfl,b,λ i d=>by
  by_cases e:i=k
  ·subst e;exact⟨i-1,Z,c.symm⟩
  exact⟨i,Z,rfl⟩,λ j g=>⟨j,Z,rfl⟩⟩
theorem Cp.same(h:Cp f f' k r)(d:f r=f (r-1)):Cp f f' k (r+1):=
 ⟨h.pos,by have:=h.lt;omega,h.rest,h.up,λ i g=>by
  by_cases e:i=r
  ·subst e;obtain⟨j,a,b⟩:=h.all (i-1) (by have:=h.lt;omega);exact⟨j,a,b.trans d.symm⟩
  ·exact h.all i Z,λ j c=>by
  obtain⟨i,a,b⟩:=h.old j c;exact⟨i,Z,b⟩⟩
theorem Cp.other(h:Cp f f' k r)(g:lZ 0 n f)(p:r<n)(q:f r≠f (r-1)):Cp f (λ j=>if j=k then f r else f' j) (k+1) (r+1):=by
 have s:=h.pos;have v:=h.lt
 have o:∀i,i<k->(f' i).toNat<(f r).toNat:=λ i d=>by
  obtain⟨j,c,e⟩:=h.old i d;rw[e];have t:=g (r-1) r (aR _) Z p;have w:(f r).toNat≠(f (r-1)).toNat:=λ e=>q (mV.1 e);by_cases m:j=r-1
  ·rw[m];omega
  have u:=g j (r-1) (aR _) Z Z;omega
 refine⟨Z,Z,λ j c=>?_,λ i j l c=>?_,λ i d=>?_,λ j c=>?_⟩
 ·show(if j=k then f r else f' j)=f j;rw[aE Z];exact h.rest j Z
 ·show(if i=k then f r else f' i).toNat<(if j=k then f r else f' j).toNat;rw[aE Z];by_cases e:j=k
  ·rw[be e];exact o i Z
  rw[aE e];exact h.up i j l Z
 ·by_cases e:i=r
  ·exact⟨k,Z,by show(if k=k then f r else f' k)=f i;rw[be rfl,e]⟩
  obtain⟨j,a,b⟩:=h.all i Z;exact⟨j,Z,by show(if j=k then f r else f' j)=f i;rw[aE Z];exact b⟩
 by_cases e:j=k
 ·exact⟨r,Z,by show(if j=k then f r else f' j)=f r;rw[be e]⟩
 obtain⟨i,a,b⟩:=h.old j Z;exact⟨i,Z,by show(if j=k then f r else f' j)=f i;rw[aE e];exact b⟩
structure ou(l l':List UInt64):Prop where
 up:l'.Pairwise λ x y=>x.toNat<y.toNat
 mem:∀x,x∈l'↔x∈l
 len:Y l'<=Y l
theorem AG(h:Cp (λ j=>l.getD j 0) f' k (Y l)):ou l ((List.range k).map f'):=by
 have d:∀j (a:j<Y l),l.getD j 0=l[j]:=λ j a=>by simp[List.getD,a]
 refine⟨?_,λ x=>⟨λ c=>?_,λ c=>?_⟩,by simp;exact Nat.le_of_lt h.lt⟩
 ·rw[List.pairwise_map];refine(List.pairwise_lt_range (n:=k)).imp_of_mem (λ {i j} b a f=>?_);exact h.up i j f (ky.1 a)
 ·obtain⟨j,a,rfl⟩:=bL.1 c;obtain⟨i,b,e⟩:=h.old j (ky.1 a);rw[e,d i b];exact List.getElem_mem b
 obtain⟨j,a,e⟩:=fU c;obtain⟨i,b,g⟩:=h.all j a;refine bL.2 ⟨i,ky.2 b,?_⟩;rw[g,d j a,e]
theorem Yw(h:∀i j,i<j->j<Y l->(l.getD i 0).toNat<(l.getD j 0).toNat):ou l l:=by
 refine⟨?_,λ x=>Iff.rfl,aH _⟩;rw[jP];intro i j b a c;have:=h i j c a
 simpa[List.getD,b,a]using this
theorem KS(h:l.Pairwise λ x y=>x.toNat<=y.toNat):lZ 0 (Y l) (λ j=>l.getD j 0):=λ i j _ c b=>by
 have a:i<Y l:=Z
 have:=jP.1 h i j a b c
 simpa[List.getD,a,b]using this
theorem IT(t e s:TypeId)(r:P.underlying t=some (.slice e))(b:∀w,(zeroValue e).run P w= .ok (V a7 0) w)(h:dK W g n f)(x:k<n) :
  ∃W',(Builtin.clear_ #[t] s #[ad (g,k) (n-k) c]).run P W= .ok (a9 #[]) W'/\dK W' g k f/\Only g W W':=by
 have l:(Builtin.zeroCells (V a7 0).cells (n-k)).toList.length=n-k:=by
  rw[Array.length_toList,UK.Ce];show(n-k)*1=n-k;omega
 have d:=run_storeCells_cells (P:=P) g k (Builtin.zeroCells (V a7 0).cells (n-k)).toList 0 W (λ j a=>by
  rw[l]at a;rw[kg,h.cell _ Z];rfl) (λ j a=>by
  rw[l]at a;rw[kg];exact h.free _ Z) (λ v b=>by
  have p:v∈Builtin.zeroCells (V a7 0).cells (n-k):=by simpa using b
  obtain⟨i,u,e⟩:=Array.getElem_of_mem p;rw[<-e];simp[Builtin.zeroCells,Value.cells];rw[Nat.mod_one];rfl)
 rw[kg]at d;have o:Only g W (W.setCells g k (Builtin.zeroCells (V a7 0).cells (n-k)).toList):=UK.Only.setCells _ _ (Only.refl g W);refine⟨_,?_,⟨cB h.lt o.size,λ j a=>?_,λ j a=>?_⟩,o⟩
 ·obtain⟨m,q⟩:∃m,n-k=m+1:=⟨n-k-1,Z⟩;rw[q]at d ⊢;simp[Builtin.clear_,run_underlying r,b,d]
 ·rw[World.cell?_setCells_out g _ k W ⟨g,j,none⟩ (λ _ _=>O a)];exact h.cell j Z
 rw[World.frozen?_setCells];exact h.free j Z
end So
open Go.RowKit
open UK (str aF nth Only Row ay)
open Go.BigFrame
open DP (bJ)
abbrev lN(s:List UInt8)(at_:Nat)(A:Int):Array Value:= #[a8 (str s),V U at_,V U A]
theorem vO{u acc:Nat}{c:UInt8}(e:u<2^64)(b:DP.zO u n i c.toNat)(d:acc=u%128^i) :
  bits .or a7 (acc:Int) (IntKind.u64.wrap ((c.toNat:Int)%128*2^(7*i)))=((u%128^(i+1):Nat):Int):=by
 have a:=DP.GQ e b
 have f:c.toNat%128=u/128^i%128:=by
  rw[b.is];split<;>omega
 have j:=DP.zP u i c.toNat f;have k:(c.toNat:Int)%128*2^(7*i)=((c.toNat%128*2^(7*i):Nat):Int):=by push_cast;rfl
 have h:IntKind.u64.wrap ((c.toNat:Int)%128*2^(7*i))=((c.toNat%128*2^(7*i):Nat):Int):=by
  rw[k,mX];generalize c.toNat%128*2^(7*i)=z at a;omega
 have g:acc<18446744073709551616:=by rw[d];exact Nat.lt_of_le_of_lt (Nat.mod_le _ _) e
 rw[h,u64_or_nat _ _ g a,d,j]
theorem LA(h:ay W r (lN s at_ 0))(u:Nat)(A:u<2^64)(rest:List UInt8)(y:s.drop at_=bJ u++rest)(hl:Y s<1000000) :
  Calls prog 94 #[aq r] W λ e L=>e=aw (V a7 u)/\ay L r (lN s (at_+(bJ u).length) 0)/\Only r W L:=by
 have h2:=DP.gL A;have R:=DP.jM u
 have aD:at_+(bJ u).length<=Y s:=by
  have:=congrArg List.length y;rw[zd,zl]at this;omega
 have O:=zH y;clear y
 go_enter func94,ntmps94
 go_wp2_with fail
 go_loopw [3,4] (λ kv t wr=>∃i acc:Nat,i<(bJ u).length/\Hid (acc=u%128^i)/\kv=V a7 acc/\t=V U i/\ay wr r (lN s at_ 0)/\Only r W wr) (λ _ t _=>20-(intOf t).toNat)
 case atStart=>exact⟨0,0,R,zH (by rw[Nat.pow_zero,Nat.mod_one]),rfl,rfl,h,Only.refl _ _⟩
 clear h;obtain⟨i,acc,G,HA,rfl,rfl,f,J⟩:=hrel;obtain⟨c,H,a⟩:=DP.Lx A G
 have E:nth s (at_+i)=c:=by
  have p:s[at_+i]?=some c:=by
   rw[<-eP,O.out,bR G];exact H
  unfold nth List.getD;rw[p];rfl
 have D:∀m,(wr.drewN m).cell? r=some (a8 (str s)):=λ m=>f.cell 0 _ rfl;have I:∀m,(wr.drewN m).cell? (r,1)=some (V U at_):=λ m=>f.cell 1 _ rfl;have P:=f.c2;have f1:∀m,(wr.drewN m).frozen? ⟨r,1,none⟩=false:=λ m=>f.free 1;have i9:=a.few;have q1:(at_:Int)+i<Y s:=Z
 have q2:¬((Y s:Int)<=(at_:Int)+i):=Z
 have k:=bm f J a;clear f J H
 go_wp2_with fail
 go_quiet (fail)
 obtain⟨b,g⟩:∃b,b=wr.drewN nq:=⟨_,rfl⟩;rw[<-g];have Q:∀m,(b.drewN m).cell? r=some (a8 (str s)):=λ m=>by rw[g];exact D (nq+m)
 have K:∀m,(b.drewN m).cell? (r,1)=some (V U at_):=λ m=>by rw[g];exact I (nq+m)
 have C:=zH (show ay b r (lN s at_ 0)/\Only r W b from by rw[g];exact⟨k.out.1,k.out.2.1.drewN nq⟩);clear D I P f1 g
 go_wp2_with fail
 go_quiet (fail)
 obtain⟨d,j⟩:∃d,d=b.drewN nq:=⟨_,rfl⟩;rw[<-j];have c5:d.cell? (r,1)=some (V U at_):=by rw[j];exact K nq
 have x:=zH (show ay d r (lN s at_ 0)/\Only r W d from by rw[j];exact⟨C.out.1,C.out.2.drewN nq⟩);have c6:d.frozen? ⟨r,1,none⟩=false:=x.out.1.free 1;clear Q K j C;rw[E];have a:=k.out.2.2
 go_upto_region 8 with(fail)
 go_cut [51] (λ v wx=>v=a6 false/\wx=d)
 case first=>
  have S:=a.nine;have M:=a.some_;by_cases h9:i=9
  ·subst h9;have w:¬(1:Int)<(c.toNat:Int):=by have:=S rfl;omega
   have k2:((c.toNat:Int)==0)=false:=beq_eq_false_iff_ne.2 (by have:=M Z;omega);go_wp2;go_meet
   case rel=>exact⟨rfl,rfl⟩
  have w:((i:Int)==9)=false:=beq_eq_false_iff_ne.2 Z;by_cases X:i=0
  ·subst X;go_wp2;go_meet
   case rel=>exact⟨rfl,rfl⟩
  have k2:((c.toNat:Int)==0)=false:=beq_eq_false_iff_ne.2 (by have:=M Z;omega);have k3:(0:Int)<i:=Z
  go_wp2;go_meet
  case rel=>exact⟨rfl,rfl⟩
 case rest=>
 obtain⟨rfl,z⟩:=hcut;have N:=c.toNat_lt
 have b1:bits .and .u8 (c.toNat:Int) 127=(c.toNat:Int)%128:=by
  have p:=u8_and_nat c.toNat 127 N Z;rw[show((127:Nat):Int)=127 from rfl]at p;rw[p,DP.GN ⟨c.toNat,N⟩];rfl
 have T:=vO (acc:=acc) A a HA.out;obtain⟨q,B⟩:∃q,q=u%128^(i+1):=⟨_,rfl⟩;rw[<-B]at T;have HA2:=zH B;have o:=a.last;have n:=zH (show ay wc r (lN s at_ 0)/\Only r W wc from z▸x.out);rw[<-z]at c5 c6;clear B k x a z E;by_cases F:c.toNat<128
 ·have w:(c.toNat:Int)<128:=Z
  have l:=o.1 F;clear o
  go_wp2_with fail
  go_ret
  have h0:q=u:=by
   rw[HA2.out,l];exact yT (DP.uf _ u rfl).1
  have h1:=n.out.1.set 1 (V U ((at_:Int)+((i:Int)+1)));refine⟨by rw[<-h0];rfl,?_,n.out.2.set 1 _⟩;rw[<-l];have e9:((at_+(i+1):Nat):Int)=(at_:Int)+((i:Int)+1):=Z
  rw[show lN s (at_+(i+1)) 0= #[a8 (str s),V U ((at_+(i+1):Nat):Int),V U 0]from rfl,e9]
  simpa using h1
 have w:¬(c.toNat:Int)<128:=Z
 have l:i+1<(bJ u).length:=by
  have:¬i+1=(bJ u).length:=λ e=>F (o.2 e);omega
 clear o;go_wp2;go_roundw
 case rel=>exact⟨i+1,q,l,HA2,by go_num,by go_num,n.out.1,n.out.2⟩
 case measure=>simp only[intOf];omega
structure iL(S:Nat->Prop)(W:World)(g:Nat)(ao:Option Addr)(c:Nat)(l:List UInt8):Prop where
 box:ay W g #[ad ao (Y l) c]
 row:NR W ao c (UK.cellsOf l)
 out:¬S g
 own:∀j,aG ao j->¬S j/\j≠g
 low:∀j,S j->j<W.1.size
section
variable{l:List UInt8}
theorem bG(l:List UInt8):(UK.cellsOf l).length=Y l:=by simp[UK.cellsOf]
theorem iL.push(h:iL S W g ao c l)(z:Y l<1000000)(v:UInt8) :
  ∃a d b,(Builtin.append_ #[94,94] 94 #[ad ao (Y l) c,ad W 1 1]).run prog (W.alloc (.cells #[V .u8 (v.toNat:Int)] 5))= .ok (ad (some ⟨a,0,none⟩) (Y l+1) d) b /\
   b.cell? g=some (ad ao (Y l) c)/\b.frozen? ⟨g,0,none⟩=false /\
   iL S (b.setCell g (ad a (Y l+1) d)) g a d (l++[v])/\Kept S W (b.setCell g (ad a (Y l+1) d)):=by
 obtain⟨u,x,p,q,m⟩:=h;obtain⟨a,d,b,e,r,o,f⟩:=UK.J8 (P:=prog) (t:=94) (ty:=94) underlying94 (i:=t5) rfl rfl rfl (show(1:Nat)<=16 from Z) rfl x (V .u8 (v.toNat:Int)) rfl (by rw[bG];omega);rw[bG]at e
 have n:a≠g:=by
  rcases f with f|f
  ·exact(q a f).2
  have:=u.lt;omega
 have s:¬S a:=by
  rcases f with f|f
  ·exact(q a f).1
  exact λ e=>by have:=m a e;omega
 have b1:=u.only o n.symm;have i:Only g b (b.setCell g (ad a (Y l+1) d)):=(Only.refl g b).set 0 _;have w:=b1.set 0 (ad a (Y l+1) d);refine⟨a,d,b,e,b1.cell 0 _ rfl,b1.free 0,⟨by simpa using w,al ⟨a,rfl,?_⟩,p,λ j k=>by rw[eY k];exact⟨s,n⟩,λ j k=>cB (m j k) (aT o.size i.size)⟩,⟨i.os.trans o.os,i.tape.trans o.tape,i.output.trans o.output,aT o.size i.size,λ j k=>?_⟩⟩
 ·have y:UK.cellsOf (l++[v])=UK.cellsOf l++[V .u8 (v.toNat:Int)]:=by simp[UK.cellsOf]
  rw[y];exact r.only i n
 have t:=m j k;exact(i.block j (cB t o.size) (λ e=>p (e▸k))).trans (o.block j t (λ e=>s (e▸k)))
def SB(S:Nat->Prop)(W w:World)(g:Nat)(l:List UInt8):Prop:=∃ao c,iL S w g ao c l/\Kept S W w
theorem ua(u:Nat):bits .or .u8 ((u%256:Nat):Int) 128=(((UInt8.ofNat (u%128+128)).toNat:Nat):Int):=by
 have a:u%256<256:=kz _ Z;have c:(u%256) ||| 128=u%256%128+128:=DP.Lv ⟨u%256,a⟩;have b:=u8_or_nat (u%256) 128 a Z;rw[show((128:Nat):Int)=128 from rfl]at b;rw[b,c,Nat.mod_mod_of_dvd u (by decide:128 ∣ 256),UInt8.toNat_ofNat_of_lt' (by show u%128+128<256;omega)]
theorem L8(h:iL S W g ao c l)(u:Nat)(D:u<2^64)(Q:Y l+10<1000000) :
  Calls prog 107 #[aq g,V a7 u] W λ e L=>e=aw (a9 #[])/\SB S W L g (l++bJ u):=by
 go_enter func107,ntmps107
 go_wp2_with fail
 go_loopw [1] (λ w wr=>∃(v:Nat) (G:Option Addr) (A:Nat) (m:List UInt8),w=V a7 v/\v<2^64/\Hid (iL S wr g G A m/\m++bJ v=l++bJ u/\Kept S W wr)) (λ w _=>(intOf w).toNat)
 case atStart=>exact⟨u,ao,c,l,rfl,D,zH ⟨h,rfl,Kept.refl _ _⟩⟩
 clear h;obtain⟨v,G,A,m,rfl,M,t⟩:=hrel;obtain⟨j,k,p⟩:=t.out;have O:=DP.gL D
 have q:Y m<1000000:=by
  have:=congrArg List.length k;rw[zl,zl]at this;omega
 have N:=j.box.cell 0 _ rfl;have s:((v%256:Nat):Int)=(v:Int)%256:=Z
 by_cases R:127<v
 ·have K:(127:Int)<v:=Z
  obtain⟨b,a⟩:∃b,b=UInt8.ofNat (v%128+128):=⟨_,rfl⟩;obtain⟨E,z,J,r,I,H,i,d⟩:=j.push q b;have C:=ua v;rw[s,<-a]at C;obtain⟨n,F⟩:∃n,n=v/128:=⟨_,rfl⟩;have P:(v:Int)/128=(n:Int):=Z
  have o:=bg a F;have f:=bg i (p.trans d);have x:=zH k;clear j k p t i d q s a F
  go_wp2_with (at_builtin;refine UK.jm r rfl rfl rfl rfl rfl ?_)
  go_wp2;go_roundw
  case rel=>exact⟨n,_,_,_,by go_num,Z,zH ⟨f.out.1,by
   rw[o.out.1,o.out.2,<-x.out,DP.jL (u:=v) Z,cO];rfl,f.out.2⟩⟩
  case measure=>simp only[intOf];omega
 have K:¬(127:Int)<v:=Z
 obtain⟨b,a⟩:∃b,b=UInt8.ofNat v:=⟨_,rfl⟩;obtain⟨E,z,J,r,I,H,i,d⟩:=j.push q b
 have y:((b.toNat:Nat):Int)=(v:Int):=by
  rw[a,UInt8.toNat_ofNat_of_lt' (by show v<256;omega)]
 rw[y]at r;have C:(v:Int)%256=(v:Int):=Z
 have o:=zH a;have f:=bg i (p.trans d);have x:=zH k;clear j k p t i d q s a y
 go_wp2_with (at_builtin;refine UK.jm r rfl rfl rfl rfl rfl ?_)
 go_wp2
 go_end0
 have B:=f.out.1;rw[o.out]at B;rw[<-x.out,DP.gK (u:=v) Z];exact⟨rfl,some ⟨E,0,none⟩,z,B,f.out.2⟩
end
open DP (bJ yU qG)
theorem XA(h:iL S W g ao c m)(k:m≠[]) :
  Calls prog 45 #[aq g] W λ e l=>e=aw (a8 (str m))/\l=W:=by
 have o:=h.box.c0;rcases h.row with⟨_,f,_⟩|⟨b,rfl,r⟩
 ·exact absurd (List.map_eq_nil_iff.1 f) k
 have d:=run_convert_bytes_back (P:=prog) W 94 9 5 ⟨b,0,none⟩ c m underlying94 underlying5 underlying9 (λ j a=>by
  have i:=r.holds j (by rw[bG];exact a)
  have n:(⟨b,0,none⟩:Addr).add j=⟨b,j,none⟩:=by
   rw[UK.mY,fB]
  rw[n,i];simp[UK.cellsOf,a])
 have p:(convert 94 9 (ad b (Y m) c)).run prog W= .ok (a8 (str m)) W:=d;clear d r h
 go_enter func45,ntmps45
 go_wp2;go_ret
 exact⟨rfl,rfl⟩
def rE(l:List UInt64)(i:Nat):List UInt8:=
 match i with
 | 0=>match l with
  | []=>[]
  | u::t=>bJ u.toNat++yU u.toNat (t.map UInt64.toNat)
 | i+1=>yU (l.getD i 0).toNat ((l.drop (i+1)).map UInt64.toNat)
theorem XC(l:List UInt64):rE l (Y l)=[]:=by
 cases l with
 | nil=>rfl
 | cons u t=>unfold rE;simp[yU]
theorem XD(l:List UInt64):qG (l.map UInt64.toNat)=bJ (Y l)++rE l 0:=by
 cases l with
 | nil=>unfold rE;simp[qG]
 | cons u t=>unfold rE;simp[qG]
theorem XE(l:List UInt64)(i:Nat):rE l (i+1)=yU (l.getD i 0).toNat ((l.drop (i+1)).map UInt64.toNat):=rfl
theorem SC(a:i+1<Y l):rE l (i+1)=bJ ((l.getD (i+1) 0).toNat-(l.getD i 0).toNat-1)++rE l (i+1+1):=by
 rw[XE,XE l (i+1),show l.drop (i+1)=l[i+1]::l.drop (i+1+1)from jY a,jr,yU,show l.getD (i+1) 0=l[i+1] by simp[List.getD,a]]
theorem SE(h:0<Y l):rE l 0=bJ (l.getD 0 0).toNat++rE l 1:=by
 cases l with
 | nil=>simp at h
 | cons u t=>unfold rE;simp
theorem I3(h:iL S W g ao c m)(o:NR W ko kc (az l))(p:∀j,aG ko j->S j)(q:l.Pairwise λ x y=>x.toNat<y.toNat)(hl:Y l<=16000)(hm:Y m+20+10*Y l<1000000) :
  Calls prog 165 #[aq g,ad ko (Y l) kc] W λ e h0=>e=aw (a9 #[])/\SB S W h0 g (m++qG (l.map UInt64.toNat)):=by
 have O:=zH (L8 h (Y l) Z Z);have e1:IntKind.u64.wrap (Y l:Int)=(Y l:Int):=by rw[mX];omega
 have P:=bm o p q;clear h o p q
 go_enter func165,ntmps165
 go_wp2_with fail
 refine O.out.mono ?_;rintro e w1 ⟨rfl,Cb,c1,M,R⟩;have H:=bg M R;clear O M R
 go_wp2_with fail
 go_loopw [13] (λ F wr=>∃(i:Nat) (K:Option Addr) (D:Nat) (y:List UInt8),F=V U i/\i<=Y l/\Hid (iL S wr g K D y/\Kept S W wr/\y++rE l i=m++qG (l.map UInt64.toNat))) (λ F _=>20001-(intOf F).toNat)
 case atStart=>exact⟨0,Cb,c1,_,rfl,aR _,zH ⟨H.out.1,H.out.2,by rw[XD,cO]⟩⟩
 clear H;obtain⟨i,K,D,y,rfl,hi,A⟩:=hrel;obtain⟨t,f,k⟩:=A.out;obtain⟨o,p,q⟩:=P.out;have X:NR wr ko kc (az l):=o.ae f.size (λ b hb=>f.block b (p b hb))
 have J:(qG (l.map UInt64.toNat)).length<=2+10*Y l:=by
  have:=DP.wL (l:=l.map UInt64.toNat) (λ x B=>by
   obtain⟨z,_,rfl⟩:=bL.1 B;exact z.toNat_lt) (by rw[bS];omega)
  rw[bS]at this;exact this
 by_cases d:i<Y l
 ·have C:Y y+10<1000000:=by
   have:=congrArg List.length k;simp only[zl]at this
   have:0<(rE l i).length:=by
    cases i with
    | zero=>rw[SE d];have:=DP.jM (l.getD 0 0).toNat;simp only[zl];omega
    | succ i=>rw[SC d];have:=DP.jM ((l.getD (i+1) 0).toNat-(l.getD i 0).toNat-1);simp only[zl];omega
   omega
  rcases X with⟨rfl,hv,_⟩|⟨Q,rfl,r⟩
  ·exfalso
   cases l with
   | nil=>simp at d
   | cons x h3=>simp[az]at hv
  have q1:(i:Int)<Y l:=Z
  have L:l[i]?=some (l.getD i 0):=by simp[List.getD,d]
  have d0:wr.cell? (Q,i)=some (V a7 ((l.getD i 0).toNat:Int)):=r.at' i _ (tO _ _ _ L)
  cases i with
  | zero=>
   have s:=zH (L8 t (l.getD 0 0).toNat (l.getD 0 0).toNat_lt C);have n:=zH (show y++bJ (l.getD 0 0).toNat++rE l 1=m++qG (l.map UInt64.toNat) by rw[cO,<-SE d];exact k);have I:=zH f;clear t k A o p q J C r f;obtain⟨x,B⟩:∃x,x=l.getD 0 0:=⟨_,rfl⟩;rw[<-B]at d0 s n;clear B L
   go_wp2_with fail
   refine s.out.mono ?_;rintro e w3 ⟨rfl,G,E,v,w⟩;have a:=bg v (I.out.trans w);clear v w s;go_wp2;go_roundw
   case rel=>exact⟨1,G,E,_,rfl,Z,zH ⟨a.out.1,a.out.2,n.out⟩⟩
   case measure=>simp only[intOf];omega
  | succ i=>
   have N:l[i]?=some (l.getD i 0):=by simp[List.getD,show i<Y l from Z]
   have d1:wr.cell? (Q,i)=some (V a7 ((l.getD i 0).toNat:Int)):=r.at' i _ (tO _ _ _ N)
   have h2:(l.getD i 0).toNat<(l.getD (i+1) 0).toNat:=by
    have:=jP.1 q i (i+1) Z d Z
    simpa[List.getD,d,show i<Y l from Z]using this
   have h1:=(l.getD (i+1) 0).toNat_lt;have s:=zH (L8 t ((l.getD (i+1) 0).toNat-(l.getD i 0).toNat-1) Z C);have n:=zH (show y++bJ ((l.getD (i+1) 0).toNat-(l.getD i 0).toNat-1)++rE l (i+1+1)=m++qG (l.map UInt64.toNat) by rw[cO,<-SC d];exact k);have I:=zH f;clear t k A o p q J C r f L N;generalize (l.getD (i+1) 0).toNat=x at *;generalize (l.getD i 0).toNat=z at *;obtain⟨u,T⟩:∃u,u=x-z-1:=⟨_,rfl⟩;rw[<-T]at s n;have q2:(x:Int)-z-1=(u:Int):=Z
   have q5:IntKind.u64.wrap ((x:Int)-z)=(x:Int)-z:=by rw[mX];omega
   have q6:IntKind.u64.wrap (u:Int)=(u:Int):=by rw[mX];omega
   have e1:wrap64 ((i:Int)+1-1)=(i:Int):=by unfold wrap64;omega
   have q7:(i:Int)<Y l:=Z
   clear T h2 h1
   go_wp2_with fail
   refine s.out.mono ?_;rintro e w3 ⟨rfl,G,E,v,w⟩;have a:=bg v (I.out.trans w);clear v w s;go_wp2;go_roundw
   case rel=>exact⟨i+1+1,G,E,_,by go_num,Z,zH ⟨a.out.1,a.out.2,n.out⟩⟩
   case measure=>simp only[intOf];omega
 obtain rfl:i=Y l:=Z
 rw[XC,jl]at k;have a:=bg t f;have n:=zH k;clear t f k A o p q X J P;go_wp2
 go_end0
 have:=a.out.1;rw[n.out]at this;exact⟨rfl,K,D,this,a.out.2⟩
theorem PG(s:List UInt8)(W:World) :
  Calls prog 40 #[a8 (str s)] W λ e a=>e=aw (aq W)/\ay a W (lN s 0 0)/\Below W W a:=by
 have c:Below W W (W.alloc (.cells (lN s 0 0) 168)):=(aU _ _).alloc (aH _) _;have d:=ay.new W (lN s 0 0) 168;have b:=bg d c;clear c d
 go_enter func40,ntmps40
 go_wp2;go_ret
 exact⟨rfl,b.out.1,b.out.2⟩
theorem XF(h:ay W r (lN s at_ 0))(d:Y s<=at_) :
  Calls prog 109 #[aq r] W λ e a=>e=aw (V U 0)/\∃m,a=W.drewN m:=by
 have c:∀m,(W.drewN m).cell? r=some (a8 (str s)):=λ m=>h.cell 0 _ rfl;have b:∀m,(W.drewN m).cell? (r,1)=some (V U at_):=λ m=>h.cell 1 _ rfl;have g:¬(at_:Int)<Y s:=Z
 have f:∀m,(W.drewN m).cell? (r,2)=some (V U 0):=λ m=>h.cell 2 _ rfl;clear h
 go_enter func109,ntmps109
 go_wp2_with fail
 go_quiet (fail)
 go_wp2;go_ret
 exact⟨rfl,_,rfl⟩
theorem vn(h:ay W r (lN s at_ A)) :
  Calls prog 95 #[aq r] W λ e a=>e=aw (V U A)/\a=W:=by
 have b:=h.c2;clear h
 go_enter func95,ntmps95
 go_wp2;go_ret
 exact⟨rfl,rfl⟩
theorem B7(h:ay W r (lN s at_ 0))(u a:Nat)(o:u<=a)(n:a<=1000000)(c:s.drop at_=bJ u++rest)(i:Y s<1000000) :
  Calls prog 182 #[aq r,V U a] W λ e g=>e=aw (V U u)/\ay g r (lN s (at_+(bJ u).length) 0)/\Only r W g:=by
 have f:=zH (LA h u Z rest c i);have p:IntKind.u64.wrap (a:Int)=(a:Int):=by rw[mX];omega
 have l:¬(a:Int)<u:=Z
 clear h c
 go_enter func182,ntmps182
 go_wp2_with fail
 refine f.out.mono ?_;rintro e k ⟨rfl,b,d⟩;have m:=b.c2;have j:=bg b d;clear b d f;go_wp2;go_ret;exact⟨rfl,j.out⟩
theorem Er(h:ay W r (lN s at_ 0))(x y:Nat)(i:y<x)(k:x<2^64-1)(a:s.drop at_=bJ (x-y-1)++rest)(m:Y s<1000000) :
  Calls prog 183 #[aq r,V a7 y] W λ e f=>e=aw (V a7 x)/\ay f r (lN s (at_+(bJ (x-y-1)).length) 0)/\Only r W f:=by
 obtain⟨d,hd⟩:∃d,d=x-y-1:=⟨_,rfl⟩;rw[<-hd]at a ⊢;have g:=zH (LA h d Z rest a m);obtain⟨z,l⟩:∃z:Nat,z=18446744073709551615-y:=⟨_,rfl⟩;have q:¬(z:Int)<=(d:Int):=Z
 have t:IntKind.u64.wrap (18446744073709551615-(y:Int))=(z:Int):=by rw[mX];omega
 have p:IntKind.u64.wrap ((y:Int)+d)=(y:Int)+d:=by rw[mX];omega
 have u:IntKind.u64.wrap ((y:Int)+d+1)=(x:Int):=by rw[mX];omega
 clear h a hd i k l
 go_enter func183,ntmps183
 go_wp2_with fail
 refine g.out.mono ?_;rintro e n ⟨rfl,b,c⟩;have o:=b.c2;have j:=bg b c;clear b c g;go_wp2;go_ret;exact⟨rfl,j.out⟩
def JH(W w:World)(r:Nat)(s rest:List UInt8)(l:List UInt64)(i:Nat)(ao:Option Addr)(c:Nat):Prop:=
 ∃at_,ay w r (lN s at_ 0)/\s.drop at_=rE l i++rest/\NR w ao c (az (l.take i))/\(∀b,aG ao b->W.1.size<=b)/\Kept (λ j=>j<W.1.size/\j≠r) W w
theorem JH.push{k o:World}{q d at2:Nat}(h:JH W w r s rest l i ao c)(A:r<W.1.size)(u:i<Y l)(p:ay k r (lN s at2 0))(f:Only r w k)(x:s.drop at2=rE l (i+1)++rest)(t:Row o d q (az (l.take i++[l.getD i 0])))(g:Only d k o)(m:aG ao d\/k.1.size<=d) :
  JH W o r s rest l (i+1) d q:=by
 obtain⟨_,_,_,z,v,a⟩:=h
 have y:W.1.size<=d:=by
  rcases m with m|m
  ·exact v d m
  have:=a.size;have:=f.size;omega
 have e:l.take i++[l.getD i 0]=l.take (i+1):=by
  rw[List.take_succ_eq_append_getElem u];simp[List.getD,u]
 rw[e]at t
 exact⟨at2,p.only g Z,x,al ⟨d,rfl,t⟩,λ b p=>by rw[eY p];exact y,
  ⟨g.os.trans (f.os.trans a.os),g.tape.trans (f.tape.trans a.tape),g.output.trans (f.output.trans a.output),aT a.size (aT f.size g.size),λ j n=>
   ((g.block j (cB n.1 (aT a.size f.size)) Z).trans (f.block j (cB n.1 a.size) n.2)).trans (a.block j n)⟩⟩
def nF(W w:World)(r:Nat)(s rest:List UInt8)(l:List UInt64)(e:Ending):Prop:=∃ao c,e=aw (ad ao (Y l) c)/\JH W w r s rest l (Y l) ao c
theorem xT(h:ay W r (lN s at_ 0))(a:s.drop at_=qG (l.map UInt64.toNat)++rest)(f:Y s<1000000)(hn:Y l<=16000)(E:Nat)(hm:Y l<=E)(h3:E<=1000000)(v:l.Pairwise λ x h2=>x.toNat<h2.toNat)(p:∀x∈l,x.toNat<2^64-1) :
  Calls prog 108 #[aq r,V U E] W λ e h4=>nF W h4 r s rest l e:=by
 rw[XD,cO]at a;have S:=zH (B7 h (Y l) E hm h3 a f)
 have g:s.drop (at_+(bJ (Y l)).length)=rE l 0++rest:=by
  rw[<-lq,a,List.drop_left]
 have R:=br v p f h.lt g;clear h a v p g f
 go_enter func108,ntmps108
 go_wp2_with fail
 refine S.out.mono ?_;rintro e w1 ⟨rfl,d,z⟩;have X:=zH (show JH W w1 r s rest l 0 none 0 from⟨_,d,R.out.2.2.2.2,O ⟨rfl,by simp[az],rfl⟩,λ b d=>(by cases d),⟨z.os,z.tape,z.output,z.size,λ j hj=>z.block j hj.1 hj.2⟩⟩);clear d z S
 go_wp2_with fail
 go_loopw [6,7] (λ v6 M wr=>∃(i:Nat) (ao:Option Addr) (c:Nat),v6=ad ao i c/\M=V U i/\i<=Y l/\JH W wr r s rest l i ao c) (λ _ M _=>20001-(intOf M).toNat)
 case atStart=>exact⟨0,none,0,rfl,rfl,aR _,X.out⟩
 clear X;obtain⟨i,ao,c,rfl,rfl,hi,T⟩:=hrel;have HI:=zH T;obtain⟨at2,d,a,u,K,L⟩:=T;obtain⟨v,p,f,Q,_⟩:=R.out;have c2:=d.c2;by_cases n:i<Y l
 ·have q1:(i:Int)<Y l:=Z
  cases i with
  | zero=>
   rw[SE n,cO]at a;have w:=zH (LA d _ (l.getD 0 0).toNat_lt _ a f)
   have g:s.drop (at2+(bJ (l.getD 0 0).toNat).length)=rE l 1++rest:=by
    rw[<-lq,a,List.drop_left]
   have m:=bg u g;obtain⟨x,o⟩:∃x,x=l.getD 0 0:=⟨_,rfl⟩;rw[<-o]at w;have HX0:=zH o;clear d a u K L v p f g o
   go_wp2_with fail
   refine w.out.mono ?_;rintro e J ⟨rfl,t,k⟩
   have D:NR J ao c (az (l.take (0))):=m.out.1.only k (λ H=>by
    have:=HI.out.choose_spec.2.2.2.1 r H;omega)
   obtain⟨g',F,w3,A,y,C,B⟩:=Fz D (by rw[zt];omega) x;rw[show(l.take (0)).length=0 by rw[zt];omega]at A;rw[HX0.out]at y t;have G:=zH (HI.out.push Q n t k m.out.2 y C B);clear t k D y C B w m
   go_wp2_with (at_builtin;refine UK.jm A rfl rfl rfl rfl rfl ?_)
   go_wp2;go_roundw
   case rel=>exact⟨0+1,_,F,by go_num,by go_num,Z,G.out⟩
   case measure=>simp only[intOf];omega
  | succ i=>
   rw[SC n,cO]at a;have I:i<Y l:=Z
   have N:l[i]?=some (l.getD i 0):=by simp[List.getD,I]
   have h1:(l.getD i 0).toNat<(l.getD (i+1) 0).toNat:=by
    have:=jP.1 v i (i+1) Z n Z
    simpa[List.getD,n,I]using this
   have P:(l.getD (i+1) 0).toNat<2^64-1:=p _ (by simp[List.getD,n]);have w:=zH (Er d (l.getD (i+1) 0).toNat (l.getD i 0).toNat h1 P a f)
   have g:s.drop (at2+(bJ ((l.getD (i+1) 0).toNat-(l.getD i 0).toNat-1)).length)=rE l (i+1+1)++rest:=by
    rw[<-lq,a,List.drop_left]
   have m:=bg u g
   obtain⟨q,rfl⟩:∃q,ao=some ⟨q,0,none⟩:=by
    rcases u with⟨_,hv,_⟩|⟨q,h,_⟩
    ·exfalso;have:=congrArg List.length hv;rw[dH,zt]at this;simp only[List.length_nil]at this;omega
    exact⟨q,h⟩
   have h0:Row wr q c (az (l.take (i+1))):=by
    rcases u with⟨h,_⟩|⟨JI,h,r⟩
    ·cases h
    injection h with h;injection h with h;subst h;exact r
   have d1:wr.cell? (q,i)=some (V a7 ((l.getD i 0).toNat:Int)):=h0.at' i _ (tO _ _ _ (by rw[fT Z];exact N));obtain⟨x,o⟩:∃x,x=l.getD (i+1) 0:=⟨_,rfl⟩;rw[<-o]at w;have HX0:=zH o;have A:wrap64 ((i:Int)+1-1)=(i:Int):=by unfold wrap64;omega
   have q7:(i:Int)<Y l:=Z
   clear d a u K L v p f g o h0 h1 P N I
   go_wp2_with fail
   refine w.out.mono ?_;rintro e J ⟨rfl,t,k⟩
   have D:NR J q c (az (l.take (i+1))):=m.out.1.only k (λ H=>by
    have:=HI.out.choose_spec.2.2.2.1 r H;omega)
   obtain⟨g',F,w3,A,y,C,B⟩:=Fz D (by rw[zt];omega) x;rw[show(l.take (i+1)).length=i+1 by rw[zt];omega]at A;rw[HX0.out]at y t;have G:=zH (HI.out.push Q n t k m.out.2 y C B);clear t k D y C B w m
   go_wp2_with (at_builtin;refine UK.jm A rfl rfl rfl rfl rfl ?_)
   go_wp2;go_roundw
   case rel=>exact⟨i+1+1,_,F,by go_num,by go_num,Z,G.out⟩
   case measure=>simp only[intOf];omega
 obtain rfl:i=Y l:=Z
 clear d a u K L v p f;go_wp2;go_ret;exact⟨ao,c,rfl,HI.out⟩
open DP (bJ qF jo Rc)
variable{q:Rc}
section
variable{l:List Rc}
theorem iL.also(h:iL S W g ao c m)(d:Below W W W')(i:W.1.size<=b)(l:b<W'.1.size):iL (λ j=>S j\/j=b) W' g ao c m:=by
 have f:=h.box.lt;refine⟨h.box.below d f,h.row.ae d.size (λ j a=>d.block j (h.row.lt a)),λ e=>?_,λ j a=>?_,λ j a=>?_⟩
 ·rcases e with e|e
  ·exact h.out e
  omega
 ·have:=h.own j a;have k:=h.row.lt a;exact⟨λ e=>e.elim this.1 (λ e=>Z),this.2⟩
 rcases a with a|a
 ·exact cB (h.low j a) d.size
 omega
theorem iL.less(h:iL S W g ao c m)(b:∀j,T j->S j):iL T W g ao c m:=
 ⟨h.box,h.row,λ e=>h.out (b g e),λ j a=>⟨λ e=>(h.own j a).1 (b j e),(h.own j a).2⟩,λ j a=>h.low j (b j a)⟩
def gB(q:Rc):List Nat:=[q.r,q.c,q.h,q.w]
theorem XJ(q:Rc):qF q=(gB q).flatMap bJ:=by simp[qF,gB]
theorem XK(h7:iL S W g ao c m)(r:RX W ro rc l)(u:∀j,aG ro j->S j)(p:∀q∈l,q.ok)(hl:Y l<=700)(D:Y m<900000) :
  Calls prog 44 #[aq g,ad ro (Y l) rc] W λ e hg=>e=aw (a9 #[])/\SB S W hg g (m++jo l):=by
 have H1:=zH (L8 h7 (Y l) Z Z);have e1:IntKind.u64.wrap (Y l:Int)=(Y l:Int):=by rw[mX];omega
 have hE:=DP.gY (u:=Y l) Z;have HK:=bm r u p;clear h7 r u p
 go_enter func44,ntmps44
 go_wp2_with fail
 refine H1.out.mono ?_;rintro e w1 ⟨rfl,Cb,c1,h0,h3⟩;have K:=bg h0 h3;clear H1 h0 h3
 go_wp2_with fail
 go_loopw [15] (λ o wr=>∃(i:Nat) (E:Option Addr) (x:Nat),o=V U i/\i<=Y l/\Hid (iL S wr g E x (m++bJ (Y l)++(l.take i).flatMap qF)/\Kept S W wr)) (λ o _=>20001-(intOf o).toNat)
 case atStart=>exact⟨0,Cb,c1,rfl,aR _,zH ⟨by simpa using K.out.1,K.out.2⟩⟩
 clear K;obtain⟨i,E,x,rfl,hi,G⟩:=hrel;obtain⟨d,s⟩:=G.out;obtain⟨r,u,p⟩:=HK.out;by_cases M:i<Y l
 ·obtain⟨q,F⟩:∃q,l[i]?=some q:=⟨_,bK M⟩;have he:=p q (dU F);obtain⟨y,B⟩:∃y,y=m++bJ (Y l)++(l.take i).flatMap qF:=⟨_,rfl⟩
  have ha:y++qF q=m++bJ (Y l)++(l.take (i+1)).flatMap qF:=by
   rw[B,cO _ _ (qF q)]
   congr 1
   have:l.take (i+1)=l.take i++[q]:=by
    rw[List.take_succ_eq_append_getElem M]
    congr 2
    exact bf ((bK M).symm.trans F)
   rw[this,List.flatMap_append];simp
  have hk:Y y+50<1000000:=by
   have h8:=DP.mW (f:=qF) (l:=l.take i) (n:=8) (λ h4 H=>DP.wK (p h4 (jw H)));have:=congrArg List.length B;simp only[zl,zt]at this h8;omega
  have h5:RX wr ro rc l:=r.ae s.size (λ b hb=>s.block b (u b hb));obtain⟨rb,rfl,d0,d1,d2,d3⟩:=h5.four F;rw[<-B]at d;have q1:(i:Int)<Y l:=Z
  have h:=bp d s ha he;clear d s r u p h5 G B ha;obtain⟨a,hc⟩:∃a,a=wr:=⟨_,rfl⟩;subst hc;obtain⟨t,ht⟩:∃t,t=a.1.size+1:=⟨_,rfl⟩;have R:=h.out.1;have b1:Below a a (a.alloc (.cells #[V U q.r,V U q.c,V U q.h,V U q.w] 23)):=(aU _ _).alloc (aH _) _;have s1:(a.alloc (.cells #[V U q.r,V U q.c,V U q.h,V U q.w] 23)).1.size=a.1.size+1:=by simp
  have Q:Below a a ((a.alloc (.cells #[V U q.r,V U q.c,V U q.h,V U q.w] 23)).alloc (.cells #[V U q.r,V U q.c,V U q.h,V U q.w] 3)):=b1.alloc (by rw[s1];omega) _;have s2:((a.alloc (.cells #[V U q.r,V U q.c,V U q.h,V U q.w] 23)).alloc (.cells #[V U q.r,V U q.c,V U q.h,V U q.w] 3)).1.size=a.1.size+2:=by simp
  have f:=ay.new (a.alloc (.cells #[V U q.r,V U q.c,V U q.h,V U q.w] 23)) #[V U q.r,V U q.c,V U q.h,V U q.w] 3;rw[s1,<-ht]at f;have C:=bm (R.also Q (b:=t) Z (by rw[s2];omega)) f (Kept.of_below Q R.low);clear R b1 Q s2 f
  go_wp2_with fail
  go_loopw [29] (λ o wr=>∃(k:Nat) (N:Option Addr) (J:Nat),o=V U k/\k<=4/\Hid (iL (λ j=>S j\/j=t) wr g N J (y++((gB q).take k).flatMap bJ)/\ay wr t #[V U q.r,V U q.c,V U q.h,V U q.w]/\Kept S a wr)) (λ o _=>5-(intOf o).toNat)
  case atStart=>exact⟨0,E,x,rfl,Z,zH ⟨by simpa using C.out.1,C.out.2.1,C.out.2.2⟩⟩
  clear C;obtain⟨k,N,J,rfl,hm,HI⟩:=hrel;obtain⟨d,f,v⟩:=HI.out;by_cases P:k<4
  ·have L:(gB q).length=4:=rfl;obtain⟨z,A⟩:∃z,(gB q)[k]?=some z:=⟨_,bK (by rw[L];exact P)⟩
   have hh:z<=3000:=by
    have:=h.out.2.2.2;unfold Rc.ok at this;have D:=dU A;simp only[gB,aN,List.not_mem_nil,or_false]at D;omega
   have cz:wr.cell? ⟨a.1.size+1,k,none⟩=some (V U z):=by
    rw[<-ht];refine f.cell k _ ?_;rw[show(#[V U q.r,V U q.c,V U q.h,V U q.w]:Array Value)=((gB q).map λ n:Nat=>V U (n:Int)).toArray from rfl,List.getElem?_toArray,dL,A];rfl
   have h9:(y++((gB q).take k).flatMap bJ).length+10<1000000:=by
    have h2:=DP.mW (f:=bJ) (l:=(gB q).take k) (n:=10) (λ h4 H=>by
     have D:=jw H;have:=h.out.2.2.2;unfold Rc.ok at this;simp only[gB,aN,List.not_mem_nil,or_false]at D;exact DP.gL Z)
    rw[zt]at h2;rw[zl];omega
   have X:=zH (L8 d z Z h9);have e8:IntKind.u64.wrap (z:Int)=(z:Int):=by rw[mX];omega
   have q4:(k:Int)<4:=Z
   have XL:y++((gB q).take k).flatMap bJ++bJ z=y++((gB q).take (k+1)).flatMap bJ:=by
    rw[cO]
    congr 1
    have:(gB q).take (k+1)=(gB q).take k++[z]:=by
     rw[List.take_succ_eq_append_getElem (by rw[L];exact P)]
     congr 2
     exact bf ((bK (by rw[L];exact P)).symm.trans A)
    rw[this,List.flatMap_append];simp
   rw[XL]at X;have T:=bg f v;clear d f v HI XL h9 A
   go_wp2_with fail
   refine X.out.mono ?_;rintro e w4 ⟨rfl,JJ,c4,h6,I⟩;have w:=bm h6 (T.out.1.ae (I.block t (al rfl))) (T.out.2.trans (I.mono (λ j hj=>O hj)));clear h6 I X T;go_wp2;go_roundw
   case rel=>exact⟨k+1,JJ,c4,by go_num,Z,zH w.out⟩
   case measure=>simp only[intOf];omega
  obtain rfl:k=4:=Z
  have w:=bg d v;clear d f v HI;go_wp2;go_roundw
  case rel=>
   refine⟨i+1,N,J,by go_num,Z,zH ⟨?_,h.out.2.1.trans w.out.2⟩⟩;have h1:=w.out.1.less (T:=S) (λ j hj=>O hj);rw[show(gB q).take 4=gB q from rfl,<-XJ,h.out.2.2.1]at h1;exact h1
  case measure=>simp only[intOf];omega
 obtain rfl:i=Y l:=Z
 rw[dY]at d;have h:=bg d s;clear d s r u p G;go_wp2
 go_end0
 refine⟨rfl,E,x,?_,h.out.2⟩;unfold jo;rw[<-cO];exact h.out.1
end
def F4(q:Rc):Nat->Array Value
 | 0=> #[V U 0,V U 0,V U 0,V U 0]
 | 1=> #[V U q.r,V U 0,V U 0,V U 0]
 | 2=> #[V U q.r,V U q.c,V U 0,V U 0]
 | 3=> #[V U q.r,V U q.c,V U q.h,V U 0]
 | _=> #[V U q.r,V U q.c,V U q.h,V U q.w]
theorem tG{z:Nat}(b:k<4)(a:(gB q)[k]?=some z):(F4 q k).set! k (V U z)=F4 q (k+1):=by
 rcases(show k=0\/k=1\/k=2\/k=3 from Z)with rfl|rfl|rfl|rfl<;>(simp[gB]at a;subst a;simp[F4])
theorem Bk(a:k<4):(F4 q k)[k]?=some (V U 0):=by
 rcases(show k=0\/k=1\/k=2\/k=3 from Z)with rfl|rfl|rfl|rfl<;>rfl
section
variable{l:List Rc}
def zX(W w:World)(r:Nat)(s rest:List UInt8)(l:List Rc)(i:Nat)(ao:Option Addr)(c:Nat):Prop:=
 ∃at_,ay w r (lN s at_ 0)/\s.drop at_=(l.drop i).flatMap qF++rest/\RX w ao c (l.take i)/\(∀b,aG ao b->W.1.size<=b)/\Kept (λ j=>j<W.1.size/\j≠r) W w
def SI(W w:World)(r:Nat)(s rest:List UInt8)(l:List Rc)(e:Ending):Prop:=∃ao c,e=aw (ad ao (Y l) c)/\zX W w r s rest l (Y l) ao c
theorem SK(h:ay W r (lN s at_ 0))(f:s.drop at_=jo l++rest)(C:Y s<1000000)(hn:Y l<=700)(D:∀q∈l,q.ok) :
  Calls prog 39 #[aq r] W λ e hc=>SI W hc r s rest l e:=by
 unfold jo at f;rw[cO]at f;have HC:=zH (LA h (Y l) Z _ f C)
 have h9:s.drop (at_+(bJ (Y l)).length)=l.flatMap qF++rest:=by
  rw[<-lq,f,List.drop_left]
 have S:=bp D C h.lt h9;have q0:¬(700:Int)<Y l:=Z
 clear h f D h9 C
 go_enter func39,ntmps39
 go_wp2_with fail
 refine HC.out.mono ?_;rintro e w1 ⟨rfl,a,F⟩;have HB:=zH (show zX W w1 r s rest l 0 none 0 from⟨_,a,by simpa using S.out.2.2.2,O ⟨rfl,by simp,rfl⟩,λ b a=>(by cases a),⟨F.os,F.tape,F.output,F.size,λ j o=>F.block j o.1 o.2⟩⟩);clear a F HC
 go_wp2_with fail
 go_loopw [3,4] (λ v3 v4 wr=>∃(i d:Nat) (ao:Option Addr) (c:Nat),v3=ad ao i c/\v4=V a7 d/\i+d=Y l/\zX W wr r s rest l i ao c) (λ _ v4 _=>(intOf v4).toNat)
 case atStart=>exact⟨0,Y l,none,0,rfl,by go_num,Z,HB.out⟩
 clear HB;obtain⟨i,d,ao,c,rfl,rfl,hj,hI⟩:=hrel;obtain⟨at2,a,f,u,p,m⟩:=hI;obtain⟨D,C,SH,_⟩:=S.out;have HE:=zH (vn a);by_cases hd:d=0
 ·subst hd;obtain rfl:i=Y l:=Z
  have P:=zH (show zX W wr r s rest l (Y l) ao c from⟨at2,a,f,u,p,m⟩);clear a f u p m D C S;go_wp2;go_ret;exact⟨ao,c,rfl,P.out⟩
 obtain⟨d,rfl⟩:∃d',d=d'+1:=⟨d-1,Z⟩;have N:i<Y l:=Z
 obtain⟨q,hq⟩:∃q,l[i]?=some q:=⟨_,bK N⟩;have I:=D q (dU hq);have X:l[i]=q:=bf ((bK N).symm.trans hq);rw[jY N,X,jq,XJ,cO]at f;have H:l.take (i+1)=l.take i++[q]:=by rw[List.take_succ_eq_append_getElem N,X]
 have q1:(0:Int)<(d:Int)+1:=Z
 have R:Below wr wr (wr.alloc (.cells (F4 q 0) 166)):=(aU _ _).alloc (aH _) _;have h5:=ay.new wr (F4 q 0) 166;obtain⟨t,B⟩:∃t,t=wr.1.size:=⟨_,rfl⟩;have h2:t≠r:=by have:=a.lt;omega
 have h8:=a.next R;have P:=br u p m H I;have G:=bp h8 (B▸h5) f R;clear a f u p m D H X R h5 h8 I
 go_wp2_with fail
 refine HE.out.mono ?_;rintro e w2 ⟨rfl,rfl⟩;obtain⟨n,hb⟩:∃n,n=w2:=⟨_,rfl⟩;subst hb
 go_wp2_with fail
 go_loopw [19] (λ Q wr=>∃k at3:Nat,Q=V U k/\k<=4/\Hid (s.drop at3=((gB q).drop k).flatMap bJ++((l.drop (i+1)).flatMap qF++rest)/\ay wr r (lN s at3 0)/\ay wr t (F4 q k)/\Kept (λ j=>j<n.1.size/\j≠r) n wr)) (λ Q _=>5-(intOf Q).toNat)
 case atStart=>exact⟨0,at2,rfl,Z,zH ⟨G.out.2.2.1,G.out.1,G.out.2.1,Kept.of_below G.out.2.2.2 (λ j o=>o.1)⟩⟩
 clear G HE;obtain⟨k,at3,rfl,hi,HI⟩:=hrel;obtain⟨f,a,A,g⟩:=HI.out;by_cases E:k<4
 ·have L:(gB q).length=4:=rfl;obtain⟨z,J⟩:∃z,(gB q)[k]?=some z:=⟨_,bK (by rw[L];exact E)⟩
  have hh:z<=3000:=by
   have:=P.out.2.2.2.2;unfold Rc.ok at this;have hm:=dU J;simp only[gB,aN,List.not_mem_nil,or_false]at hm;omega
  have h1:(gB q)[k]'(by rw[L];exact E)=z:=bf ((bK (by rw[L];exact E)).symm.trans J);have e9:(gB q).drop k=z::(gB q).drop (k+1):=by rw[jY (l:=gB q) (by rw[L];exact E),h1]
  rw[e9,jq,cO]at f;have HU:=zH (LA a z Z _ f C)
  have h7:s.drop (at3+(bJ z).length)=((gB q).drop (k+1)).flatMap bJ++((l.drop (i+1)).flatMap qF++rest):=by
   rw[<-lq,f,List.drop_left]
  have HZ:=bm A g h7;have q4:(k:Int)<4:=Z
  have q5:¬(3000:Int)<z:=Z
  have q8:(if (3000:Int)<(z:Int) then(3000:Int) else(z:Int))=(z:Int):=aE q5;have q9:min (z:Int) 3000=(z:Int):=Z
  have HS:=zH (tG E J);have HT:=zH (Bk (q:=q) E);clear f a A g HI h7 J h1
  go_wp2_with fail
  refine HU.out.mono ?_;rintro e x ⟨rfl,h0,v⟩;have M:=HZ.out.1.only v h2;have c1:x.cell? (t,k)=some (V U 0):=M.cell k _ HT.out;have f1:=M.free k;have GX:=M.set k (V U z);rw[HS.out]at GX;have y:Only t x (x.setCell (t,k) (V U z)):=(Only.refl t x).set k _
  have K:=zH (show ay (x.setCell (t,k) (V U z)) r (lN s (at3+(bJ z).length) 0)/\ay (x.setCell (t,k) (V U z)) t (F4 q (k+1))/\Kept (λ j=>j<n.1.size/\j≠r) n (x.setCell (t,k) (V U z))from⟨h0.only y h2.symm,GX,HZ.out.2.1.trans ⟨y.os.trans v.os,y.tape.trans v.tape,y.output.trans v.output,aT v.size y.size,λ j o=>by
   have LB:=HZ.out.2.1.size;exact(y.block j (by have:=v.size;omega) Z).trans (v.block j Z o.2)⟩⟩)
  have yX:=zH HZ.out.2.2;clear h0 v M GX y HU HZ HS HT;rw[B]at c1 f1 K;go_wp2;go_roundw
  case rel=>exact⟨k+1,at3+(bJ z).length,by go_num,Z,zH ⟨yX.out,K.out.1,by rw[B];exact K.out.2.1,K.out.2.2⟩⟩
  case measure=>simp only[intOf];omega
 obtain rfl:k=4:=Z
 have h6:s.drop at3=(l.drop (i+1)).flatMap qF++rest:=by simpa[gB]using f
 have d0:wr.cell? n.1.size=some (V U q.r):=B▸A.cell 0 _ rfl;have d1:wr.cell? (n.1.size,1)=some (V U q.c):=B▸A.cell 1 _ rfl;have d2:wr.cell? (n.1.size,2)=some (V U q.h):=B▸A.cell 2 _ rfl;have d3:wr.cell? (n.1.size,3)=some (V U q.w):=B▸A.cell 3 _ rfl;obtain⟨u,p,m,H,I⟩:=P.out;have ha:=m.size;have h4:RX wr ao c (l.take i):=u.ae g.size (λ b a=>g.block b ⟨u.lt a,λ e=>by have:=p b a;omega⟩);obtain⟨T,c',w3,e1,r3,h3,w⟩:=h4.push (by rw[zt];omega) q;rw[show(l.take i).length=i by rw[zt];omega]at e1;rw[<-H]at r3
 have he:W.1.size<=T:=by
  rcases h3 with hg|hg
  ·exact p T hg
  have:=g.size;omega
 have HI2:=zH (show zX W w3 r s rest l (i+1) T c' from⟨at3,a.only w Z,h6,r3,λ b a=>by rw[eY a];exact he,
  ⟨w.os.trans (g.os.trans m.os),w.tape.trans (g.tape.trans m.tape),w.output.trans (g.output.trans m.output),aT ha (aT g.size w.size),λ j o=>by
   have:=g.size;exact((w.block j Z Z).trans (g.block j ⟨Z,o.2⟩)).trans (m.block j o)⟩⟩)
 clear f a A g HI u p m H I h4 r3 w h3 h6
 go_wp2_with (at_builtin;refine UK.jm e1 rfl rfl rfl rfl rfl ?_)
 go_wp2;go_roundw
 case rel=>exact⟨i+1,d,_,c',by go_num,by go_num,Z,HI2.out⟩
 case measure=>simp only[intOf];omega
end
open DP (bJ qF jo qG gm Rc bU)
structure EM where
 k:UInt64
 ro:Option Addr
 rc:Nat
 l:List Rc
variable{es:List EM}{x:EM}
def kC(x:EM):List Value:=[V a7 (x.k.toNat:Int),ad x.ro (Y x.l) x.rc]
theorem JL(x:EM):(kC x).length=2:=rfl
theorem LC(x:EM):∀v∈kC x,v.oneCell'=true:=by
 intro v a;simp only[kC,aN,List.not_mem_nil,or_false]at a;rcases a with rfl|rfl<;>rfl
def jg(x:EM):bU:=(x.k.toNat,x.l)
structure EX(N:Nat)(W:World)(ao:Option Addr)(c:Nat)(es:List EM):Prop where
 row:NX 2 kC W ao c es
 sub:∀x∈es,RX W x.ro x.rc x.l
 new:∀b,aG ao b->N<=b
 sF:∀x∈es,∀b,aG x.ro b->N<=b/\¬aG ao b
theorem EX.next(h:EX N W ao c es)(a:Below W W W'):EX N W' ao c es:=
 ⟨h.row.ae a.size (λ b d=>a.block b (h.row.lt d)),λ x e=>(h.sub x e).ae a.size (λ b d=>a.block b ((h.sub x e).lt d)),h.new,h.sF⟩
theorem EX.kept(h:EX N W ao c es)(d:Kept (λ j=>j<W.1.size/\N<=j) W W'):EX N W' ao c es:=
 ⟨h.row.ae d.size (λ b a=>d.block b ⟨h.row.lt a,h.new b a⟩),λ x e=>(h.sub x e).ae d.size (λ b a=>d.block b ⟨(h.sub x e).lt a,(h.sF x e b a).1⟩),h.new,h.sF⟩
theorem EX.less(h:EX N W ao c es)(d:M<=N):EX M W ao c es:=⟨h.row,h.sub,λ b a=>aT d (h.new b a),λ x e b a=>⟨aT d (h.sF x e b a).1,(h.sF x e b a).2⟩⟩
theorem EX.two(h:EX N W ao c es)(b:es[j]?=some x):∃g,ao=some ⟨g,0,none⟩/\W.cell? ⟨g,j*2,none⟩=some (V a7 (x.k.toNat:Int))/\W.cell? ⟨g,j*2+1,none⟩=some (ad x.ro (Y x.l) x.rc):=by
 obtain⟨g,e,a⟩:=h.row.at_ JL b;exact⟨g,e,a 0 _ rfl,a 1 _ rfl⟩
theorem XM{b:Type}{q:Nat}{enc:b->List Value}(a:∀x,(enc x).length=q):∀(l:List b) (j t:Nat) (x y:b) (v:Value),l[j]?=some x->t<q->enc y=(enc x).set t v->(l.set j y).flatMap enc=(l.flatMap enc).set (j*q+t) v
 | [],_,_,_,_,_,h,_,_=>by cases h
 | u::l,0,t,x,y,v,h,d,c=>by
  obtain rfl:u=x:=by simpa using h
  rw[z0,jq,jq,c,Nat.zero_mul,fB,List.set_append_left _ _ (by rw[a];exact d)]
 | u::l,j+1,t,x,y,v,h,d,c=>by
  have f:=XM a l j t x y v (by simpa using h) d c;have e:(j+1)*q+t=q+(j*q+t):=by rw[Nat.succ_mul];omega
  rw[z1,jq,jq,f,e,List.set_append_right _ _ (by rw[a];omega),a,sw]
theorem EX.store{l:List Rc}(h:EX N W g c es)(k:es[j]?=some x)(p:RX W ro rc l)(m:∀b,aG ro b->N<=b/\b≠g) :
  W.cell? (g,j*2+1)=some (ad x.ro (Y x.l) x.rc)/\W.frozen? ⟨g,j*2+1,none⟩=false/\EX N (W.setCell (g,j*2+1) (ad ro (Y l) rc)) g c (es.set j ⟨x.k,ro,rc,l⟩)/\Only g W (W.setCell (g,j*2+1) (ad ro (Y l) rc)):=by
 obtain⟨t,e,v,q⟩:=h.two k
 injection e with e;injection e with e;subst e
 have u:=(dz.1 k).1;have o:Only g W (W.setCell (g,j*2+1) (ad ro (Y l) rc)):=(Only.refl g W).set _ _;have n:j*2+1<(es.flatMap kC).length:=by rw[PH JL];omega
 have i:Row W g (2*c) (es.flatMap kC):=by
  rcases h.row with⟨a,_⟩|⟨t,a,r⟩
  ·cases a
  injection a with a;injection a with a;subst a;exact r
 have s:W.frozen? ⟨g,j*2+1,none⟩=false:=i.free _ (cB n i.le);refine⟨q,s,⟨al ⟨g,rfl,?_⟩,λ y d=>?_,h.new,λ y d=>?_⟩,o⟩
 ·rw[XM JL es j 1 x ⟨x.k,ro,rc,l⟩ (ad ro (Y l) rc) k Z rfl];exact i.set _ _ n
 ·rcases List.mem_or_eq_of_mem_set d with d|rfl
  ·exact(h.sub y d).ae o.size (λ b f=>o.block b ((h.sub y d).lt f) (λ e=>(h.sF y d b f).2 (e▸rfl)))
  exact p.ae o.size (λ b f=>o.block b (p.lt f) (m b f).2)
 rcases List.mem_or_eq_of_mem_set d with d|rfl
 ·exact h.sF y d
 exact λ b f=>⟨(m b f).1,λ e=>(m b f).2 (eY e)⟩
theorem Ax(h:ay W r (lN [] 0 0)) :
  Calls prog 94 #[aq r] W λ e a=>e=aw (V a7 0)/\ay a r (lN [] 0 2)/\Only r W a:=by
 have f:∀m,(W.drewN m).cell? r=some (a8 (str [])):=λ m=>h.cell 0 _ rfl;have c:∀m,(W.drewN m).cell? (r,1)=some (V U 0):=λ m=>h.cell 1 _ rfl;have b:∀m,(W.drewN m).cell? (r,2)=some (V U 0):=λ m=>h.cell 2 _ rfl;have p:∀m,(W.drewN m).frozen? ⟨r,2,none⟩=false:=λ m=>h.free 2;have c2':=h.c2;have d:=zH h
 have i:∀m,Calls prog 162 #[aq r,V U 2] (W.drewN m) λ e a=>e=aw (a9 #[])/\a=(W.drewN m).setCell (r,2) (V U 2):=λ m=>by
  have s:=b m;have o:=p m;clear f c b p c2' h
  go_enter func162,ntmps162
  go_wp2
  go_end0
  exact⟨rfl,rfl⟩
 clear h
 go_enter func94,ntmps94
 go_wp2_with fail
 go_loopw [3,4] (λ l k wr=>l=V a7 0/\k=V U 0/\wr=W) (λ _ _ _=>0)
 case atStart=>exact⟨rfl,rfl,rfl⟩
 obtain⟨rfl,rfl,rfl⟩:=hrel
 go_wp2_with fail
 go_quiet (fail)
 go_wp2_with fail
 refine(i nq).mono ?_;rintro e q ⟨rfl,rfl⟩
 have j:ay ((wr.drewN nq).setCell (r,2) (V U 2)) r (lN [] 0 2):=by
  have:=(show ay (wr.drewN nq) r #[a8 (str []),V U 0,V U 0]from d.out).set 2 (V U 2);simp only[Array.set!_eq_setIfInBounds,zS,z0,z1]at this;exact this
 have g:Only r wr ((wr.drewN nq).setCell (r,2) (V U 2)):=((Only.refl r wr).drewN nq).set 2 _;have n:=bg j g;clear j g i d f c b p c2';go_wp2;go_ret;exact⟨rfl,n.out⟩
theorem we(h:ay W r (lN [] 0 0))(f:Nat) :
  Calls prog 182 #[aq r,V U f] W λ e d=>e=aw (V U 0)/\ay d r (lN [] 0 2)/\Only r W d:=by
 have c:=zH (Ax h);clear h
 go_enter func182,ntmps182
 go_wp2_with fail
 refine c.out.mono ?_;rintro e i ⟨rfl,a,b⟩;have j:=a.c2;have g:=bg a b;clear a b c;go_wp2;go_ret;exact⟨rfl,g.out⟩
theorem CT(h:ay W r (lN [] 0 0))(b:Nat) :
  Calls prog 108 #[aq r,V U b] W λ e f=>e=aw (ad none 0 0)/\ay f r (lN [] 0 2)/\Only r W f:=by
 have d:=zH (we h b);clear h
 go_enter func108,ntmps108
 go_wp2_with fail
 refine d.out.mono ?_;rintro e g ⟨rfl,a,c⟩;have l:=a.c2;have k:=bg a c;clear a c d
 go_wp2_with fail
 go_loopw [6,7] (λ j i wr=>j=ad none 0 0/\i=V U 0/\wr=g) (λ _ _ _=>0)
 case atStart=>exact⟨rfl,rfl,rfl⟩
 obtain⟨rfl,rfl,rfl⟩:=hrel;go_wp2;go_ret;exact⟨rfl,k.out⟩
end Go.Proofs.YtgpmiliahonaoaaGreatDoor
namespace Go.Proofs.YtgpmiliahonaoaaGreatDoor.DP
variable{X:List bU}{k a b:Nat}{l:List Rc}{K:List Nat}
def jW(X:List bU)(k:Nat):List Rc:=((X.find? λ x=>x.1==k).map (·.2)).getD []
theorem oU(h:jc X){x:bU}(c:x∈X):jW X x.1=x.2:=by
 unfold jW
 have:X.find? (λ y=>y.1==x.1)=some x:=by
  induction X with
  | nil=>cases c
  | cons a X f=>
   obtain⟨d,e⟩:=cu.1 h;rw[List.find?_cons];rcases aN.1 c with rfl|b
   ·simp
   have:=d x b;have g:(a.1==x.1)=false:=by simp;omega
   rw[g];exact f e b
 rw[this];rfl
theorem pO(h:∀x∈X,x.1≠k):jW X k=[]:=by
 unfold jW;rw[List.find?_eq_none.2 (λ x a=>by simpa using h x a)];rfl
theorem xV(b:∀x∈X,x.1≠k)(h:jc X):aS k [] X=X:=by
 induction X with
 | nil=>rfl
 | cons x e d=>
  have:=b x (bI ..);unfold aS;by_cases a:x.1<k
  ·rw[be a,d (λ y c=>b y (cK _ c)) (cu.1 h).2]
  rw[aE a,aE this,be rfl]
theorem Dq(a:∀x∈X,x.2≠[]):∀x∈aS k l X,x.2≠[]:=λ x b=>by
 rcases l8 b with h|⟨rfl,h⟩
 ·exact a x h
 exact h
theorem Dr(h:jc X)(j:Nat):jW (aS k l X) j=if j=k then l else jW X j:=by
 induction X with
 | nil=>
  unfold aS;by_cases d:l=[]
  ·rw[be d];subst d;by_cases c:j=k<;>simp[c,jW]
  rw[aE d];by_cases c:j=k
  ·simp[c,jW]
  have:(k==j)=false:=by simp;omega
  simp[c,jW,this]
 | cons x p n=>
  obtain⟨m,o⟩:=cu.1 h
  have f:∀(y:bU) (i:List bU),jW (y::i) j=if y.1=j then y.2 else jW i j:=λ y i=>by
   unfold jW;rw[List.find?_cons];by_cases e:y.1=j
   ·simp[e]
   have:(y.1==j)=false:=by simpa using e
   simp[e,this]
  unfold aS;by_cases a:x.1<k
  ·rw[be a,f,f,n o];by_cases g:x.1=j
   ·rw[be g,aE Z,be g]
   rw[aE g,aE g]
  rw[aE a];by_cases b:x.1=k
  ·rw[be b];by_cases d:l=[]
   ·rw[be d,f];by_cases c:j=k
    ·rw[be c,d];exact pO (λ y e=>by have:=m y e;omega)
    rw[aE c,aE Z]
   rw[aE d,f,f];by_cases c:j=k
   ·rw[be c,be c.symm]
   rw[aE c,aE Z,aE Z]
  rw[aE b];by_cases d:l=[]
  ·rw[be d];by_cases c:j=k
   ·rw[be c,d]
    exact pO (λ y e=>by
     rcases aN.1 e with rfl|e
     ·omega
     have:=m y e;omega)
   rw[aE c]
  rw[aE d,f];by_cases c:j=k
  ·rw[be c,be c.symm]
  rw[aE c,aE (show ¬k=j from Z)]
theorem zR:∀{l m:List Nat},Up l->Up m->(∀x,x∈l↔x∈m)->l=m:=by
 intro l
 induction l with
 | nil=>
  intro m _ _ h
  cases m with
  | nil=>rfl
  | cons b m=>exact absurd ((h b).2 (bI ..)) List.not_mem_nil
 | cons a l n=>
  intro m j i h
  cases m with
  | nil=>exact absurd ((h a).1 (bI ..)) List.not_mem_nil
  | cons b m=>
   obtain⟨f,o⟩:=cu.1 j;obtain⟨b1,g⟩:=cu.1 i
   have k:a=b:=by
    rcases aN.1 ((h a).1 (bI ..))with e|e
    ·exact e
    rcases aN.1 ((h b).2 (bI ..))with d|d
    ·exact d.symm
    have:=b1 a e;have:=f b d;omega
   subst k
   congr 1
   refine n o g (λ x=>⟨λ c=>?_,λ c=>?_⟩)
   ·rcases aN.1 ((h x).1 (cK _ c))with e|e
    ·have:=f x c;omega
    exact e
   rcases aN.1 ((h x).2 (cK _ c))with e|e
   ·have:=b1 x c;omega
   exact e
theorem su(h:jc X):Up (X.map (·.1)):=by
 unfold Up;rw[List.pairwise_map];exact h
theorem vu(h:jc X):Up ((eX a b X).map (·.1)):=su (h.filter _)
theorem zW(h:jc X)(d:Up K)(f:∀k,k∈K↔(∃y∈iq (bi (a/16) (b/16)) X,y.1=k/\(y.2.any λ q=>q.has a b)=true)\/∃y∈iq rY X,y.1=k/\(y.2.any λ q=>q.has a b)=true):K=(eX a b X).map (·.1):=by
 refine zR d (vu h) (λ k=>?_);rw[f k,<-sg]
 constructor
 ·rintro⟨x,c,rfl⟩;exact bL.2 ⟨x,c,rfl⟩
 intro g;obtain⟨x,c,e⟩:=bL.1 g;exact⟨x,c,e⟩
theorem xW(h:jc X)(d:∀x∈X,x.1<2^64-1)(c:k<2^64-1)(f:∀x∈X,(∀q∈x.2,q.ok)/\Y x.2<=700)(e:(∀q∈l,q.ok)/\Y l<=700) :
  jc (aS k l X)/\(∀x∈aS k l X,x.1<2^64-1)/\∀x∈aS k l X,(∀q∈x.2,q.ok)/\Y x.2<=700:=by
 refine⟨FG h,λ x b=>?_,λ x b=>?_⟩
 ·rcases l8 b with a|⟨rfl,_⟩
  ·exact d x a
  exact c
 rcases l8 b with a|⟨rfl,_⟩
 ·exact f x a
 exact e
theorem ug(X:List bU):(aS k l X).length<=Y X+1:=by
 induction X with
 | nil=>unfold aS;split<;>simp
 | cons x b a=>unfold aS;split<;>(try split)<;>(try split)<;>simp only[dF]<;>omega
theorem nO(b:Nat)(l:List Rc):(share b l).length<=Y l:=List.length_filter_le ..
theorem Dt(b:Nat)(X:List bU):(iq b X).length<=Y X:=List.length_filterMap_le ..
end Go.Proofs.YtgpmiliahonaoaaGreatDoor.DP
namespace Go.Proofs.YtgpmiliahonaoaaGreatDoor
open Go.RowKit
open UK (str aF nth Only Row ay)
open DP (bJ qF jo qG gm Rc bU eT)
variable{L:List bU}
open Go.BigFrame
variable{N c i:Nat}{W b:World}{ao:Option Addr}{a:List EM}{s rest:List UInt8}
section
variable{r at_:Nat}
def GY(W w:World)(L:List bU)(e:Ending):Prop:=∃ao c a,e=aw (a9 #[ad ao (Y a) c,V U 0])/\a.map jg=L/\EX W w ao c a/\Below W W w
theorem BT(W:World) :
  Calls prog 47 #[a8 (str [])] W λ e k=>GY W k [] e:=by
 have g:=zH (PG [] W)
 go_enter func47,ntmps47
 go_wp2_with fail
 refine g.out.mono ?_;rintro e n ⟨rfl,a,i⟩;have f:=zH (CT a 60000);have c:=zH i;clear g a i
 go_wp2_with fail
 refine f.out.mono ?_;rintro e l ⟨rfl,a,h⟩;have j:=zH (c.out.trans (h.below c.out.size (aH _)));clear f a h c
 go_wp2_with fail
 go_loopw [5,14] (λ u v wr=>u=ad none 0 0/\v=V U 0/\wr=l) (λ _ _ _=>0)
 case atStart=>exact⟨rfl,rfl,rfl⟩
 obtain⟨rfl,rfl,rfl⟩:=hrel
 go_wp2_with fail
 go_loopw [26] (λ v m=>v=V U 0/\m=wr) (λ _ _=>0)
 case atStart=>exact⟨rfl,rfl⟩
 obtain⟨rfl,rfl⟩:=hrel;go_wp2;go_ret2;exact⟨none,0,[],rfl,rfl,⟨O ⟨rfl,rfl,rfl⟩,λ x d=>absurd d List.not_mem_nil,λ b a=>(by cases a),λ x d=>absurd d List.not_mem_nil⟩,j.out⟩
def PI(L:List bU):List UInt64:=L.map λ x=>UInt64.ofNat x.1
theorem ld(h:∀x∈L,x.1<2^64-1):(PI L).map UInt64.toNat=L.map (·.1):=by
 unfold PI;rw[List.map_map];refine List.map_congr_left (λ x a=>?_);show(UInt64.ofNat x.1).toNat=x.1;rw[UInt64.toNat_ofNat'];have:=h x a;omega
def F5(k:UInt64):EM:=⟨k,none,0,[]⟩
theorem ud(W:World)(L:List bU)(hL:L≠[])(n:eT L)(aD:(gm L).length<1000000) :
  Calls prog 47 #[a8 (str (gm L))] W λ e w'=>GY W w' L e:=by
 obtain⟨s,hs⟩:∃s,s=gm L:=⟨_,rfl⟩;obtain⟨d,h7⟩:∃d,d=PI L:=⟨_,rfl⟩;have u:d.map UInt64.toNat=L.map (·.1):=h7▸ld n.key;have t:Y d=Y L:=by rw[h7];unfold PI;rw[bS]
 have h0:s.drop 0=qG (d.map UInt64.toNat)++L.flatMap λ x=>jo x.2:=by
  rw[hs,u];unfold gm;rw[aE hL];rfl
 have T:d.Pairwise λ x y=>x.toNat<y.toNat:=by
  have:=DP.su n.up;unfold DP.Up at this;rw[<-u,List.pairwise_map]at this;exact this
 have P:∀x∈d,x.toNat<2^64-1:=λ x h=>by
  have:x.toNat∈L.map (·.1):=by rw[<-u];exact bL.2 ⟨x,h,rfl⟩
  obtain⟨y,o,e⟩:=bL.1 this;rw[<-e];exact n.key y o
 have X:s≠[]:=by rw[hs];exact DP.zQ hL
 have I:Y s<1000000:=by rw[hs];exact aD
 have x0:=n.few;rw[<-hs];have HR:=zH (PG s W);have vD:=br h0 T P X I;have F6:=bg n u;have HLEN:=zH I;have wN:=zH t;have uj:=zH X;have x5:Y d<=16000:=Z
 clear h0 T P X hs aD u n h7 I t x0
 go_enter func47,ntmps47
 go_wp2_with fail
 refine HR.out.mono ?_;rintro e w1 ⟨rfl,f,hh⟩;obtain⟨h0,T,P,X,ho⟩:=vD.out;have HS:=zH (xT f h0 ho Z 60000 Z Z T P);have HB:=zH hh;clear HR f hh h0 T P X ho
 go_wp2_with fail
 refine HS.out.mono ?_;rintro e J ⟨Cb,c1,rfl,at2,f,hd,C,hj,LD⟩;rw[XC,iQ]at hd;rw[dY]at C;have D:=br f hd C hj LD;clear HS f hd C hj LD
 go_wp2_with fail
 go_loopw [5,14] (λ hw v wr=>∃(i:Nat) (ao:Option Addr) (c:Nat),hw=ad ao i c/\v=V U i/\i<=Y d/\Hid (NX 2 kC wr ao c ((d.take i).map F5)/\(∀b,aG ao b->J.1.size<=b)/\Kept (λ j=>j<J.1.size) J wr)) (λ _ v _=>20001-(intOf v).toNat)
 case atStart=>exact⟨0,none,0,rfl,rfl,aR _,zH ⟨O ⟨rfl,by simp,rfl⟩,λ b f=>(by cases f),Kept.refl _ _⟩⟩
 obtain⟨i,ao,c,rfl,rfl,hi,HI⟩:=hrel;obtain⟨N,ha,k⟩:=HI.out;have C:=D.out.2.2.1;by_cases h4:i<Y d
 ·have hc:d[i]?=some (d.getD i 0):=by simp[List.getD,h4]
  obtain⟨x,h⟩:∃x,x=d.getD i 0:=⟨_,rfl⟩;rw[<-h]at hc
  obtain⟨z,hr,hb⟩:∃z,Cb=some ⟨z,0,none⟩/\Row J z c1 (az d):=by
   rcases C with⟨_,hv,_⟩|⟨z,e,r⟩
   ·exfalso;have:=congrArg List.length hv;rw[dH]at this;simp only[List.length_nil]at this;omega
   exact⟨z,e,r⟩
  subst hr;have he:Row wr z c1 (az d):=hb.ae k.size (k.block z hb.lt);have d0:wr.cell? (z,i)=some (V a7 (x.toNat:Int)):=he.at' i _ (tO _ _ _ hc);have q1:(i:Int)<Y d:=Z
  obtain⟨g',c',w3,e1,r3,hk,F⟩:=NX.push (P:=prog) (enc:=kC) underlying100 (i:=t104) rfl rfl rfl (show(32:Nat)<=64 from Z) rfl JL LC N (by rw[bS,zt];omega) (F5 x);rw[show((d.take i).map F5).length=i by rw[bS,zt];omega]at e1
  have hl:(d.take i).map F5++[F5 x]=(d.take (i+1)).map F5:=by
   rw[List.take_succ_eq_append_getElem h4,dI,List.map_singleton,show d[i]=x by rw[h];simp[List.getD,h4]]
  rw[hl]at r3;have e2:(Builtin.append_ #[100,100] 100 #[ad ao i c,ad wr 1 1]).run prog (wr.alloc (.cells #[V a7 (x.toNat:Int),ad none 0 0] 104))= .ok (ad g' (i+1) c') w3:=e1
  have hp:J.1.size<=g':=by
   rcases hk with hg|hg
   ·exact ha g' hg
   exact aT k.size hg
  have HY:=bm r3 hp (k.trans ⟨F.os,F.tape,F.output,F.size,λ j l=>F.block j (cB l k.size) Z⟩);clear N ha k HI C hb he e1 r3 hk F hp hl h hc
  go_wp2_with (at_builtin;refine UK.jm e2 rfl rfl rfl rfl rfl ?_)
  go_wp2;go_roundw
  case rel=>exact⟨i+1,_,c',by go_num,by go_num,Z,zH ⟨HY.out.1,λ b f=>by rw[eY f];exact HY.out.2.1,HY.out.2.2⟩⟩
  case measure=>simp only[intOf];omega
 obtain rfl:i=Y d:=Z
 rw[dY]at N;have HZ:=bm N ha k;clear N ha k HI C hi;obtain⟨R,H⟩:∃R,R=W.1.size:=⟨_,rfl⟩;have hq:R+1<=J.1.size:=by have:=D.out.1.lt;omega
 obtain⟨M,hu⟩:∃M,M=wr:=⟨_,rfl⟩;subst hu
 have H0:=zH (show EX (R+1) M ao c (d.map F5)/\ay M R (lN s at2 0)/\Kept (λ j=>j<R) W M from
  ⟨⟨HZ.out.1,λ x h=>by
    obtain⟨x1,_,rfl⟩:=bL.1 h;exact O ⟨rfl,rfl,rfl⟩,λ b f=>aT hq (HZ.out.2.1 b f),λ x h b f=>by
    obtain⟨x1,_,rfl⟩:=bL.1 h
    cases f⟩,H▸D.out.1.ae (HZ.out.2.2.block _ D.out.1.lt),by
   have h1:=HB.out;have h2:=D.out.2.2.2.2;have hm:=h1.size;rw[H];exact((Kept.of_below h1 (λ j l=>l)).trans (h2.mono (λ j l=>⟨cB l hm,Nat.ne_of_lt l⟩))).trans (HZ.out.2.2.mono (λ j l=>cB l (aT hm h2.size)))⟩)
 have H1:=zH D.out.2.1;clear HZ D HB vD
 go_wp2_with fail
 go_loopw [26] (λ v wr=>∃(i:Nat) (a:List EM) (at3:Nat),v=V U i/\i<=Y d/\Hid (a.map (·.k)=d/\(a.take i).map jg=L.take i/\EX (R+1) wr ao c a/\ay wr R (lN s at3 0)/\(s.drop at3=(L.drop i).flatMap λ x=>jo x.2)/\Kept (λ j=>j<R) W wr)) (λ v _=>20001-(intOf v).toNat)
 case atStart=>exact⟨0,d.map F5,at2,rfl,aR _,zH ⟨by rw[List.map_map];exact List.map_id d,rfl,H0.out.1,H0.out.2.1,H1.out,H0.out.2.2⟩⟩
 clear H0 H1;obtain⟨i,a,at3,rfl,hi,HI⟩:=hrel;obtain⟨q,w,m,f,hd,k⟩:=HI.out;have h3:Y a=Y d:=by rw[<-q,bS]
 have t:=wN.out;by_cases h4:i<Y d
 ·obtain⟨x,h⟩:∃x,a[i]?=some x:=⟨_,bK Z⟩;obtain⟨y,o⟩:∃y,L[i]?=some y:=⟨_,bK Z⟩;have SN:=dU o;obtain⟨n,u⟩:=F6.out
  have Q:x.k.toNat=y.1:=by
   have h1:(d.map UInt64.toNat)[i]?=some x.k.toNat:=by rw[<-q,dL,dL,h];rfl
   rw[u,dL,o]at h1;exact(bf h1).symm
  have E:i<Y L:=Z
  have F8:L[i]=y:=bf ((bK E).symm.trans o);have I:=HLEN.out;rw[jY E,F8,jq]at hd;have HG:=zH (SK f hd I (n.good y SN).2 (n.good y SN).1);rw[H]at HG;obtain⟨g,rfl,_,_⟩:=m.two h;have ht:R+1<=g:=m.new g rfl;have q1:(i:Int)<Y d:=Z
  have HQ:=bs q w m k h Q o;clear q w m f hd k HI h o SN n u Q F8 I t h3 E
  go_wp2_with fail
  refine HG.out.mono ?_;rintro e S ⟨K,G,rfl,at4,h6,h9,h5,XN,p⟩;rw[<-H]at h6;simp only[<-H]at p;obtain⟨q,w,m,k,h,Q,o⟩:=HQ.out;rw[List.drop_eq_nil_of_le (aH _),List.flatMap_nil,iQ]at h9;rw[dY]at h5;have hy:g<wr.1.size:=m.row.lt rfl;have xY:EX (R+1) S g c a:=m.kept (p.mono (λ j l=>⟨l.1,Z⟩));have hx:R<wr.1.size:=Z
  obtain⟨c1',x3,XO,B⟩:=xY.store h h5 (λ b f=>by have:=XN b f;exact⟨Z,Z⟩);have E:i<Y L:=by have:=wN.out;omega
  have F8:L[i]=y:=bf ((bK E).symm.trans o)
  have HN:=zH (show(a.set i ⟨x.k,K,G,y.2⟩).map (·.k)=d/\((a.set i ⟨x.k,K,G,y.2⟩).take (i+1)).map jg=L.take (i+1)/\EX (R+1) (S.setCell (g,i*2+1) (ad K (Y y.2) G)) g c (a.set i ⟨x.k,K,G,y.2⟩)/\ay (S.setCell (g,i*2+1) (ad K (Y y.2) G)) R (lN s at4 0)/\(s.drop at4=(L.drop (i+1)).flatMap λ x=>jo x.2)/\Kept (λ j=>j<R) W (S.setCell (g,i*2+1) (ad K (Y y.2) G))from by
   have h8:=(dz.1 h).1;have hz:a[i]=x:=bf ((bK h8).symm.trans h);refine⟨?_,?_,XO,h6.only B Z,h9,?_⟩
   ·rw[List.map_set,show x.k=(a.map (·.k))[i]'(by rw[bS];exact h8) by rw[List.getElem_map,hz],List.set_getElem_self];exact q
   ·rw[List.take_succ_eq_append_getElem (by rw[aV];exact h8),dI,List.take_set_of_le (aH _),w,List.take_succ_eq_append_getElem E,List.getElem_set_self,F8]
    congr 1
    show [(x.k.toNat,y.2)]=[y];rw[Q]
   refine k.trans ⟨B.os.trans p.os,B.tape.trans p.tape,B.output.trans p.output,aT p.size B.size,λ j l=>?_⟩;have x4:=p.size;exact(B.block j Z Z).trans (p.block j ⟨Z,Z⟩))
  clear q w m k h Q F8 o xY XO B h6 h9 h5 XN p HG HQ ht hx hy E;go_wp2;go_roundw
  case rel=>exact⟨i+1,_,at4,by go_num,Z,HN⟩
  case measure=>simp only[intOf];omega
 obtain rfl:i=Y d:=Z
 rw[t,List.drop_eq_nil_of_le (aH _),List.flatMap_nil]at hd
 have hn:Y s<=at3:=by
  have:=congrArg List.length hd;rw[zd]at this;simp only[List.length_nil]at this;omega
 have HD:=zH (XF f hn);rw[H]at HD;rw[t,dY,<-t,<-h3,dY]at w;have A:=bm w m k
 have x6:s.isEmpty=false:=by
  have:=uj.out
  cases s with
  | nil=>exact absurd rfl this
  | cons x2 b=>rfl
 have Dy:=zH h3;clear q w m f hd k HI hn h3 t
 go_wp2_with fail
 refine HD.out.mono ?_;rintro e S ⟨rfl,nq,rfl⟩;go_wp2;go_ret2;rw[<-Dy.out];exact⟨ao,c,a,rfl,A.out.1,(A.out.2.1.next (UK.dN (aU _ _) nq)).less Z,UK.dN ⟨A.out.2.2.os,A.out.2.2.tape,A.out.2.2.output,A.out.2.2.size,λ j l=>A.out.2.2.block j Z⟩ nq⟩
end
def yY(a:List EM)(i:Nat):List UInt64:=(a.take i).map (·.k)++List.replicate (Y a-i) 0
theorem pP(a:List EM)(b:i<=Y a):(yY a i).length=Y a:=by
 unfold yY;rw[zl,bS,zt,iM];omega
theorem uA{x:EM}(f:a[i]?=some x):(yY a i).set i x.k=yY a (i+1):=by
 obtain⟨b,e⟩:=dz.1 f;unfold yY;obtain⟨d,hd⟩:∃d,Y a-i=d+1:=⟨Y a-i-1,Z⟩;have c:((a.take i).map (·.k)).length=i:=by rw[bS,zt];omega
 rw[List.set_append_right _ _ Z,c,l7,hd,List.replicate_succ,z0,List.take_succ_eq_append_getElem b,dI,e,show Y a-(i+1)=d from Z,cO];rfl
theorem pN(a:List EM):yY a (Y a)=a.map (·.k):=by
 unfold yY;rw[dY,l7];simp
theorem iL.same{S:Nat->Prop}{g c:Nat}{a:Option Addr}{m:List UInt8}(h:iL S W g a c m)(d:Below W W b):iL S b g a c m:=
 ⟨h.box.next d,h.row.ae d.size (λ j e=>d.block j (h.row.lt e)),h.out,h.own,λ j e=>cB (h.low j e) d.size⟩
theorem zF(W:World)(a:List Value)(t:TypeId):Row (W.alloc (.cells a.toArray t)) W (Y a) a:=by
 have c:=World.cell?_alloc_new W a.toArray t;refine⟨by simp,aH _,λ j b=>?_,λ j b=>⟨?_,World.frozen?_alloc_new W _ _ j⟩⟩
 ·exact(c j).trans (by rw[List.getElem?_toArray])
 have d:(W.alloc (.cells a.toArray t)).cell? (W.1.size,j)=_:=c j;rw[d,List.getElem?_toArray,bK b];rfl
theorem uc(n:Nat):madeCells #[V a7 0] n=(az (List.replicate n 0)).toArray:=by
 apply Array.ext_getElem?;intro i;by_cases h:i<n
 ·simp[madeCells,az,h,Nat.mod_one]
 simp[madeCells,az,h,Nat.mod_one]
theorem yz(h2:EX N W ao c a)(J:eT (a.map jg))(s:(gm (a.map jg)).length<800000) :
  Calls prog 101 #[ad ao (Y a) c] W λ e w'=>e=aw (a8 (str (gm (a.map jg))))/\Below W W w':=by
 by_cases A:a=[]
 ·subst A
  go_enter func101,ntmps101
  go_wp2;go_ret
  exact⟨rfl,aU _ _⟩
 have he:0<Y a:=List.length_pos_iff.2 A;have hc:Y a<=16000:=by have:=J.few;rwa [bS]at this
 have ha:=run_make_row (P:=prog) 88 77 t77 (V a7 0) underlying88 rfl rfl rfl rfl U U (Y a) (show 8*Y a<=281474976710656 from Z) Z;obtain⟨wb,hb⟩:∃wb,wb=W.1.size:=⟨_,rfl⟩;have t:=zH h2;have Q:=bg J s;have HP:=zH A;have i0:((Y a:Int)==0)=false:=beq_eq_false_iff_ne.2 Z;clear h2 J s A
 go_enter func101,ntmps101
 go_wp2_with fail
 go_loopw [17] (λ v wr=>∃i:Nat,v=V U i/\i<=Y a/\Hid (ay wr W #[ad none 0 0]/\Row wr (W.1.size+1) (Y a) (az (yY a i))/\Below W W wr)) (λ v _=>20001-(intOf v).toNat)
 case atStart=>
  refine⟨0,rfl,aR _,zH ⟨?_,?_,?_⟩⟩
  ·exact(ay.new W #[ad none 0 0] 96).next ((aU _ _).alloc (aH _) _)
  ·have h4:=zF (W.alloc (.cells #[ad none 0 0] 96)) (az (List.replicate (Y a) 0)) 77;rw[<-uc,dH,iM,show(W.alloc (.cells #[ad none 0 0] 96)).1.size=W.1.size+1 by simp]at h4;exact h4
  exact((aU _ _).alloc (aH _) _).alloc (by simp) _
 obtain⟨i,rfl,hi,HI⟩:=hrel;obtain⟨f,o,d⟩:=HI.out;by_cases p:i<Y a
 ·obtain⟨x,k⟩:∃x,a[i]?=some x:=⟨_,bK p⟩;have m:=t.out.next d;obtain⟨h7,rfl,d0,d1⟩:=m.two k;have q1:(i:Int)<Y a:=Z
  have n:Below wr wr (wr.alloc (.cells #[V a7 (x.k.toNat:Int),ad x.ro (Y x.l) x.rc] 104)):=(aU _ _).alloc (aH _) _;have C:=o.below n o.lt;have M:i<(az (yY a i)).length:=by rw[dH,pP a hi];exact p
  obtain⟨R,T⟩:∃R,(az (yY a i))[i]?=some R:=⟨_,bK M⟩;have ck:=C.at' i R T;have fk:=C.free i p;have r:=C.set i (V a7 (x.k.toNat:Int)) M
  have e3:(az (yY a i)).set i (V a7 (x.k.toNat:Int))=az (yY a (i+1)):=by
   rw[<-uA k];unfold az;rw[List.map_set]
  rw[e3]at r;have E:Only (W.1.size+1) (wr.alloc (.cells #[V a7 (x.k.toNat:Int),ad x.ro (Y x.l) x.rc] 104)) ((wr.alloc (.cells #[V a7 (x.k.toNat:Int),ad x.ro (Y x.l) x.rc] 104)).setCell ⟨W.1.size+1,i,none⟩ (V a7 (x.k.toNat:Int))):=(Only.refl _ _).set i _;have y:=bm ((f.next n).only E Z) r ((d.trans (n.mono d.size)).trans (E.below (by have:=d.size;have:=n.size;omega) Z));clear f o d HI m n C r e3 E M k T;go_wp2;go_roundw
  case rel=>exact⟨i+1,by go_num,Z,y⟩
  case measure=>simp only[intOf];omega
 obtain rfl:i=Y a:=Z
 rw[pN]at o;obtain⟨z,h8⟩:∃z,z=wr:=⟨_,rfl⟩;subst h8;obtain⟨S,l⟩:∃S:Nat->Prop,S=λ j=>j<z.1.size/\j≠W.1.size:=⟨_,rfl⟩;have h3:iL S z W none 0 []:=⟨f,O ⟨rfl,rfl,rfl⟩,λ e=>by rw[l]at e;exact e.2 rfl,λ j h=>(by cases h),λ j h=>by rw[l]at h;exact h.1⟩
 have XP:∀j,aG (some (⟨W.1.size+1,0,none⟩:Addr)) j->S j:=λ j h=>by
  rw[l,eY h];exact⟨o.lt,Z⟩
 have h0:(a.map (·.k)).Pairwise λ x h6=>x.toNat<h6.toNat:=by
  have:=Q.out.1.up;unfold DP.jc at this;rw[List.pairwise_map]at this;rw[List.pairwise_map];exact this
 have H:=zH (I3 (ko:=some ⟨W.1.size+1,0,none⟩) (kc:=Y a) h3 (al ⟨_,rfl,o⟩) XP h0 (by rw[bS];omega) (by rw[bS];simp only[List.length_nil];omega));have HA:=bg d l;clear f o d HI h3 XP h0;rw[bS]at H
 go_wp2_with fail
 refine H.out.mono ?_;rintro e w3 ⟨rfl,Cb,c1,D,X⟩;rw[iQ]at D;have L:=bg D X;clear D X H
 go_wp2_with fail
 go_loopw [32] (λ v wr=>∃(i:Nat) (mR:Option Addr) (c2:Nat),v=V U i/\i<=Y a/\Hid (iL S wr W mR c2 (qG ((a.map (·.k)).map UInt64.toNat)++(a.take i).flatMap λ x=>jo x.l)/\Kept S z wr)) (λ v _=>20001-(intOf v).toNat)
 case atStart=>exact⟨0,Cb,c1,rfl,aR _,zH ⟨by simpa using L.out.1,L.out.2⟩⟩
 clear L;obtain⟨i,mR,c2,rfl,hi,HI⟩:=hrel;obtain⟨u,g⟩:=HI.out;have d:=HA.out.1;have l:=HA.out.2;have m:=t.out.next d;have w:EX N wr ao c a:=⟨m.row.ae g.size (λ b f=>g.block b (by rw[l];exact⟨m.row.lt f,by have:=t.out.row.lt f;omega⟩)),λ x k=>(m.sub x k).ae g.size (λ b f=>g.block b (by rw[l];exact⟨(m.sub x k).lt f,by have:=(t.out.sub x k).lt f;omega⟩)),m.new,m.sF⟩;have P:(a.map jg).flatMap (λ x=>jo x.2)=a.flatMap λ x=>jo x.l:=by rw[List.flatMap_map];rfl
 have I:(a.map (·.k)).map UInt64.toNat=(a.map jg).map (·.1):=by rw[List.map_map,List.map_map];rfl
 have B:gm (a.map jg)=qG ((a.map (·.k)).map UInt64.toNat)++a.flatMap λ x=>jo x.l:=by
  unfold gm;rw[aE (by rw[List.map_eq_nil_iff];exact HP.out),P,I]
 have s:=Q.out.2;rw[B,zl]at s;by_cases p:i<Y a
 ·obtain⟨x,k⟩:∃x,a[i]?=some x:=⟨_,bK p⟩;have q:=dU k;have h1:a[i]=x:=bf ((bK p).symm.trans k);obtain⟨h7,rfl,d0,d1⟩:=w.two k;have q1:(i:Int)<Y a:=Z
  have n:Below wr wr (wr.alloc (.cells #[V a7 (x.k.toNat:Int),ad x.ro (Y x.l) x.rc] 104)):=(aU _ _).alloc (aH _) _
  have F:(a.take (i+1)).flatMap (λ x=>jo x.l)=(a.take i).flatMap (λ x=>jo x.l)++jo x.l:=by
   rw[List.take_succ_eq_append_getElem p,h1,List.flatMap_append];simp
  have G:((a.take (i+1)).flatMap λ x=>jo x.l).length<=(a.flatMap λ x=>jo x.l).length:=by
   have e:=congrArg (λ h9:List EM=>(h9.flatMap λ x=>jo x.l).length) (gZ (i+1) a);simp only[List.flatMap_append,zl]at e;omega
  have K:=Q.out.1.good (jg x) (bL.2 ⟨x,q,rfl⟩)
  have HU:=zH (XK (u.same n) ((w.sub x q).ae n.size (λ b f=>n.block b ((w.sub x q).lt f))) (λ b f=>by rw[l];exact⟨(m.sub x q).lt f,by have:=(t.out.sub x q).lt f;omega⟩) K.1 K.2 (by
   rw[F]at G;simp only[zl]at G ⊢;omega))
  have y:=bm F g (Kept.of_below (S:=S) n (λ j h=>cB (by rw[l]at h;exact h.1) g.size));clear u g HI d m w P I B s k q h1 n F G K l
  go_wp2_with fail
  refine HU.out.mono ?_;rintro e w4 ⟨rfl,Dw,c3,h5,r⟩;have HY:=bg h5 (y.out.2.1.trans (y.out.2.2.trans r));clear h5 r HU;go_wp2;go_roundw
  case rel=>exact⟨i+1,Dw,c3,by go_num,Z,zH ⟨by rw[y.out.1,<-cO];exact HY.out.1,HY.out.2⟩⟩
  case measure=>simp only[intOf];omega
 obtain rfl:i=Y a:=Z
 rw[dY,<-B]at u;have HB:=zH (XA u (DP.zQ (by rw[ne_eq,List.map_eq_nil_iff];exact HP.out)));have HF:=zH (show Below W W wr from⟨g.os.trans d.os,g.tape.trans d.tape,g.output.trans d.output,aT d.size g.size,λ j h=>(g.block j (by rw[l];exact⟨cB h d.size,Nat.ne_of_lt h⟩)).trans (d.block j h)⟩);clear u g HI d m w P I B s l
 go_wp2_with fail
 refine HB.out.mono ?_;rintro e w4 ⟨rfl,rfl⟩;go_wp2;go_ret;exact⟨rfl,HF.out⟩
