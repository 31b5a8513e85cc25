/- Facts on texts on pages. -/
import Derived.Test.YtgpmiliahonaoaaGreatDoorKSoGc
set_option maxRecDepth 100000
set_option maxHeartbeats 8000000
set_option linter.unusedSimpArgs false
open Or renaming inl->O,inr->al
open Go.Value renaming bool->a6,int->V,slice->ad
open Go.Ending renaming returned->aw
open Go.IntKind renaming i64->U
open Go.Proofs.Tryz
namespace Go.Proofs.YtgpmiliahonaoaaGreatDoor
open Go.RowKit
open UK (Only ay)
open Go.BigFrame
variable{k:Nat}{W:World}
namespace So
variable{a b c d i j:Nat}{f g h:Nat->UInt64}
def Lo(a b:Nat)(f:Nat->UInt64):Prop:=∀k,0<a->a<=k->k<b->(f (a-1)).toNat<=(f k).toNat
theorem Lo.sh(h:Lo a b f)(c:Sh a b f g):Lo a b g:=λ k d e i=>by
 rw[c.out (O Z)];exact c.all (P:=λ v=>(f (a-1)).toNat<=v.toNat) (λ k j l=>h k d j l) k e i
theorem lZ.out(h:lZ a i f)(e:i<=j)(g:i<=k):lZ a i (swp f j k):=λ x y b c d=>by
 rw[nD Z Z,nD Z Z];exact h x y b c d
theorem lZ.snoc(h:lZ a i f)(b:i=a\/∃k,i=k+1/\¬(f i).toNat<(f k).toNat):lZ a (i+1) f:=λ x y c d j=>by
 by_cases e:y=i
 ·subst e;rcases b with b|⟨k,rfl,b⟩
  ·omega
  by_cases g:x=k
  ·subst g;omega
  have:=h x k c Z Z;omega
 exact h x y c d Z
def oo(W d:World)(B n a b:Nat)(f:Nat->UInt64)(e:Ending):Prop:=∃t:Bool,e=aw (a6 t)/\∃c,Sh a b f c/\(t=true->lZ a b c)/\dK d B n c/\Only B W d
theorem AI{B n cap:Nat}(h:dK W B n f)(h5:Lo a b f)(hn:n<=1000000)(hh:a<b)(hb:b<=n) :
  Calls prog 189 #[ad B n cap,V U a,V U b] W λ h9 w'=>oo W w' B n a b f h9:=by
 have HL:=zH h5;clear h5
 go_enter func189,ntmps189
 go_wp2_with fail
 go_loopw [7,8] (λ h6 v wr=>∃(i t:Nat) (f':Nat->UInt64),h6=V U i/\v=V U t/\t<=5/\a+1<=i/\i<=b/\Sh a b f f'/\lZ a i f'/\dK wr B n f'/\Only B W wr) (λ _ v _=>10-(intOf v).toNat)
 case atStart=>exact⟨a+1,0,f,by go_num,rfl,Z,aH _,Z,.refl,λ x h0 h1 h2 h3=>Z,h,Only.refl _ _⟩
 clear h;obtain⟨i0,t,q,rfl,rfl,ht,E,D,l,e,c,d⟩:=hrel;by_cases hc:t<5
 ·have q0:(t:Int)<5:=Z
  have L:=zH l;clear l
  go_upto_block 2 with(fail)
  go_cut [7] (λ v J=>∃i:Nat,v=V U i/\Hid (a+1<=i/\i<=b/\lZ a i q/\(i=b\/(i<b/\(q i).toNat<(q (i-1)).toNat)))/\dK J B n q/\Only B W J)
  case first=>
   go_wp2_with fail
   go_loopw [7] (λ v wr=>∃i:Nat,v=V U i/\a+1<=i/\i<=b/\lZ a i q/\dK wr B n q/\Only B W wr) (λ v _=>1000002-(intOf v).toNat)
   case atStart=>exact⟨i0,rfl,E,D,e,c,d⟩
   clear c d E D e;obtain⟨i,rfl,E,D,e,c,d⟩:=hrel;obtain⟨k,rfl⟩:∃k,i=k+1:=⟨i-1,Z⟩;by_cases M:k+1<b
   ·have q1:(k:Int)+1<b:=Z
    have N:(k:Int)+1<n:=Z
    have q3:(k:Int)<n:=Z
    have e1:wrap64 ((k:Int)+1-1)=(k:Int):=by unfold wrap64;omega
    have F:=λ m=>(c.drewN m).cell (k+1) Z;have G:=λ m=>(c.drewN m).cell k Z;have o:=λ m=>xx (q (k+1)) (q k) (wr.drewN m);have g:=bm e c d;clear e c d;by_cases r:(q (k+1)).toNat<(q k).toNat
    ·rw[decide_eq_true r]at o
     go_wp2_with fail
     go_quiet (first|(go_at_call 190;refine Calls.quiet_of_same (o _)))
     go_wp2;go_meet
     case rel=>exact⟨k+1,by go_num,zH ⟨E,D,g.out.1,al ⟨M,r⟩⟩,g.out.2.1.drewN _,g.out.2.2.drewN _⟩
    rw[decide_eq_false r]at o
    go_wp2_with fail
    go_quiet (first|(go_at_call 190;refine Calls.quiet_of_same (o _)))
    go_wp2;go_roundw
    case rel=>exact⟨k+1+1,by go_num,Z,Z,g.out.1.snoc (al ⟨k,rfl,r⟩),g.out.2.1.drewN _,g.out.2.2.drewN _⟩
    case measure=>simp only[intOf];omega
   have q1:decide ((k:Int)+1<(b:Int))=false:=decide_eq_false Z;have N:(b:Int)<=(k:Int)+1:=Z
   have g:=bm e c d;clear e c d
   go_wp2_with fail
   go_quiet (fail)
   go_wp2;go_meet
   case rel=>exact⟨k+1,by go_num,zH ⟨E,D,g.out.1,O Z⟩,g.out.2.1.drewN _,g.out.2.2.drewN _⟩
  case rest=>
  clear E D e c d;obtain⟨i,rfl,hI,c,d⟩:=hcut;by_cases M:i=b
  ·subst M;go_wp2;go_ret;exact⟨true,rfl,q,L.out,λ _=>hI.out.2.2.1,c,d⟩
  have q1:((i:Int)==(b:Int))=false:=beq_eq_false_iff_ne.2 Z;by_cases ha:b<a+50
  ·have N:(b:Int)-(a:Int)<50:=Z
   have q3:wrap64 ((b:Int)-(a:Int))=(b:Int)-(a:Int):=by unfold wrap64;omega
   go_wp2;go_ret
   exact⟨false,rfl,q,L.out,λ h=>(by cases h),c,d⟩
  have N:¬(b:Int)-(a:Int)<50:=Z
  have q3:wrap64 ((b:Int)-(a:Int))=(b:Int)-(a:Int):=by unfold wrap64;omega
  obtain⟨i1,i2,i3,i4⟩:=hI.out;obtain⟨i5,i6⟩:=i4.resolve_left M;obtain⟨k,rfl⟩:∃k,i=k+1:=⟨i-1,Z⟩;rw[Nat.add_sub_cancel]at i6;have q4:(k:Int)+1<n:=Z
  have q5:(k:Int)<n:=Z
  have e1:wrap64 ((k:Int)+1-1)=(k:Int):=by unfold wrap64;omega
  obtain⟨F,G,d1,R,X,S,Y,d4,c5,T⟩:=c.two (i:=k+1) (j:=k) Z Z
  have s:=bm (L.out.swap (i:=k+1) (j:=k) ⟨Z,Z⟩ ⟨Z,Z⟩) (show Ins a k k (swp q (k+1) k)from Ins.start (λ x h0 h1 h2 h3=>by
   rw[nD Z Z,nD Z Z];exact i3 x h0 h1 h2 Z)) (c.swapped d (i:=k+1) (j:=k) Z Z)
  have h7:a<=k:=Z
  clear c d i3 hI i4 L
  go_wp2_with fail
  go_region
  obtain⟨l,e,c,d⟩:=s.out;clear s F G d1 R X S Y d4 c5 T;have P:=zH e;have u:=bm l c d;clear e N q3 i6
  go_upto_if 61 with(fail)
  go_cut [] (λ J=>∃p,Hid (Sh a b f p/\lZ a (k+1) p)/\dK J B n p/\Only B W J)
  case first=>
   by_cases Vs:k=a
   ·subst Vs;have y:(k:Int)+1-(k:Int)<2:=Z
    have C:wrap64 ((k:Int)+1-(k:Int))=(k:Int)+1-(k:Int):=by unfold wrap64;omega
    go_wp2;go_meet
    case rel=>exact⟨_,zH ⟨u.out.1,λ x h0 h1 h2 h3=>Z⟩,u.out.2.1,u.out.2.2⟩
   have y:2<=(k:Int)+1-(a:Int):=Z
   have C:wrap64 ((k:Int)+1-(a:Int))=(k:Int)+1-(a:Int):=by unfold wrap64;omega
   go_wp2_with fail
   go_loopw [9] (λ v wr=>∃(j:Nat) (p:Nat->UInt64),v=V U j/\a<=j/\j<=k/\Sh a b f p/\Ins a k j p/\dK wr B n p/\Only B W wr) (λ v _=>(intOf v).toNat)
   case atStart=>exact⟨k,_,by go_num,h7,aH _,u.out.1,P.out,u.out.2.1,u.out.2.2⟩
   clear c d l P u y C;obtain⟨j,p,rfl,Q,h4,l,e,c,d⟩:=hrel;by_cases h8:j=0
   ·subst h8;go_wp2;go_meet
    case rel=>exact⟨p,zH ⟨l,e.done Q (aR _) (O Z)⟩,c,d⟩
   obtain⟨m,rfl⟩:∃m,j=m+1:=⟨j-1,Z⟩;have y:(1:Int)<=(m:Int)+1:=Z
   have C:(m:Int)+1<n:=Z
   have q8:(m:Int)<n:=Z
   have e1:wrap64 ((m:Int)+1-1)=(m:Int):=by unfold wrap64;omega
   have F:=λ z=>(c.drewN z).cell (m+1) Z;have G:=λ z=>(c.drewN z).cell m Z;have o:=λ z=>xx (p (m+1)) (p m) (wr.drewN z);have g:=bp l e c d;by_cases r:(p (m+1)).toNat<(p m).toNat
   ·have AA:a<=m:=by
     refine Nat.le_of_not_lt (λ hi=>?_);have e9:a=m+1:=Z
     have:=(HL.out.sh l) (m+1) Z Z Z;rw[e9,Nat.add_sub_cancel]at this;omega
    clear l e c d;rw[decide_eq_true r]at o
    go_wp2_with fail
    go_quiet (first|(go_at_call 190;refine Calls.quiet_of_same (o _)))
    obtain⟨l,e,c,d⟩:=g.out;obtain⟨w2,H,A,K⟩:=c.at_ d nq;rw[<-H];obtain⟨F,G,d1,R,X,S,Y,d4,c5,T⟩:=A.two (i:=m+1) (j:=m) Z Z;have s:=zH (A.swapped K (i:=m+1) (j:=m) Z Z);clear H A K c d o l e
    go_wp2_with fail
    go_region
    go_wp2;go_roundw
    case rel=>exact⟨m,_,by go_num,AA,Z,g.out.1.swap (i:=m+1) (j:=m) ⟨Z,Z⟩ ⟨Z,Z⟩,g.out.2.1.step AA h4 r,s.out.1,s.out.2⟩
    case measure=>simp only[intOf];omega
   clear l e c d;rw[decide_eq_false r]at o
   go_wp2_with fail
   go_quiet (first|(go_at_call 190;refine Calls.quiet_of_same (o _)))
   go_wp2;go_meet
   case rel=>exact⟨p,zH ⟨g.out.1,g.out.2.1.done Q h4 (al ⟨m,rfl,r⟩)⟩,g.out.2.2.1.drewN _,g.out.2.2.2.drewN _⟩
  case rest=>
  clear c d l P u;obtain⟨p,I,c,d⟩:=hcut;by_cases hg:b<k+1+2
  ·have y:(b:Int)-((k:Int)+1)<2:=Z
   have C:wrap64 ((b:Int)-((k:Int)+1))=(b:Int)-((k:Int)+1):=by unfold wrap64;omega
   go_wp2;go_roundw
   case rel=>exact⟨k+1,t+1,_,by go_num,by go_num,Z,Z,Z,I.out.1,I.out.2,c,d⟩
   case measure=>simp only[intOf];omega
  have y:2<=(b:Int)-((k:Int)+1):=Z
  have C:wrap64 ((b:Int)-((k:Int)+1))=(b:Int)-((k:Int)+1):=by unfold wrap64;omega
  go_wp2_with fail
  go_loopw [10] (λ v wr=>∃(j:Nat) (w:Nat->UInt64),v=V U j/\k+2<=j/\j<=b/\Sh a b f w/\lZ a (k+1) w/\dK wr B n w/\Only B W wr) (λ v _=>1000002-(intOf v).toNat)
  case atStart=>exact⟨k+2,p,by go_num,aH _,Z,I.out.1,I.out.2,c,d⟩
  clear c d I y C;obtain⟨j,w,rfl,Q,h4,l,e,c,d⟩:=hrel;by_cases he:j<b
  ·obtain⟨m,rfl⟩:∃m,j=m+1:=⟨j-1,Z⟩;have y:(m:Int)+1<b:=Z
   have C:(m:Int)+1<n:=Z
   have q8:(m:Int)<n:=Z
   have e1:wrap64 ((m:Int)+1-1)=(m:Int):=by unfold wrap64;omega
   have F:=λ z=>(c.drewN z).cell (m+1) Z;have G:=λ z=>(c.drewN z).cell m Z;have o:=λ z=>xx (w (m+1)) (w m) (wr.drewN z);have g:=bp l e c d;clear l e c d;by_cases r:(w (m+1)).toNat<(w m).toNat
   ·rw[decide_eq_true r]at o
    go_wp2_with fail
    go_quiet (first|(go_at_call 190;refine Calls.quiet_of_same (o _)))
    obtain⟨l,e,c,d⟩:=g.out;obtain⟨w2,H,A,K⟩:=c.at_ d nq;rw[<-H];obtain⟨F,G,d1,R,X,S,Y,d4,c5,T⟩:=A.two (i:=m+1) (j:=m) Z Z;have s:=bm (l.swap (i:=m+1) (j:=m) ⟨Z,Z⟩ ⟨Z,Z⟩) (e.out (j:=m+1) (k:=m) Z Z) (A.swapped K (i:=m+1) (j:=m) Z Z);clear H A K c d o l e
    go_wp2_with fail
    go_region
    go_wp2;go_roundw
    case rel=>exact⟨m+1+1,_,by go_num,Z,Z,s.out.1,s.out.2.1,s.out.2.2.1,s.out.2.2.2⟩
    case measure=>simp only[intOf];omega
   rw[decide_eq_false r]at o
   go_wp2_with fail
   go_quiet (first|(go_at_call 190;refine Calls.quiet_of_same (o _)))
   go_wp2;go_roundw
   case rel=>exact⟨k+1,t+1,_,by go_num,by go_num,Z,Z,Z,g.out.1,g.out.2.1,g.out.2.2.1.drewN _,g.out.2.2.2.drewN _⟩
   case measure=>simp only[intOf];omega
  have y:¬(j:Int)<b:=Z
  go_wp2;go_roundw
  case rel=>exact⟨k+1,t+1,_,by go_num,by go_num,Z,Z,Z,l,e,c,d⟩
  case measure=>simp only[intOf];omega
 have q0:¬(t:Int)<5:=Z
 go_wp2;go_ret
 exact⟨false,rfl,q,l,λ h=>(by cases h),c,d⟩
end So
