/- Facts on texts and trees on pages. -/
import Derived.Test.YtgpmiliahonaoaaGreatDoorKSoGc
set_option maxRecDepth 100000
set_option maxHeartbeats 8000000
set_option linter.unusedSimpArgs false
namespace Go.Proofs.YtgpmiliahonaoaaGreatDoor
open Go.RowKit
open UK (Only ay)
open Go.BigFrame
namespace So
variable{a b c d i j:Nat}{f g h:Nat->UInt64}
def Lo(a b:Nat)(f:Nat->UInt64):Prop:=∀k,0<a->a<=k->k<b->(f (a-1)).toNat<=(f k).toNat
theorem Lo.sh(h:Lo a b f)(hs:Sh a b f g):Lo a b g:=λ k h0 h1 h2=>by
 rw[hs.out (.inl (by omega))];exact hs.all (P:=λ v=>(f (a-1)).toNat<=v.toNat) (λ k k1 k2=>h k h0 k1 k2) k h1 h2
theorem lh.out{k:Nat}(h:lh a i f)(hk:i<=j)(hk2:i<=k):lh a i (swp f j k):=λ x y h1 h2 h3=>by
 rw[mq (by omega) (by omega),mq (by omega) (by omega)];exact h x y h1 h2 h3
theorem lh.snoc(h:lh a i f)(hl:i=a\/∃k,i=k+1/\¬(f i).toNat<(f k).toNat):lh a (i+1) f:=λ x y h1 h2 h3=>by
 by_cases e:y=i
 ·subst e;rcases hl with hl|⟨k,rfl,hl⟩
  ·omega
  by_cases e2:x=k
  ·subst e2;omega
  have:=h x k h1 (by omega) (by omega);omega
 exact h x y h1 h2 (by omega)
def ycz(W w':World)(B n a b:Nat)(f:Nat->UInt64)(e:Ending):Prop:=∃t:Bool,e= .returned (.bool t)/\∃f',Sh a b f f'/\(t=true->lh a b f')/\dC w' B n f'/\Only B W w'
theorem xxw{W:World}{B n cap:Nat}(h:dC W B n f)(hlo:Lo a b f)(hn:n<=1000000)(hab:a<b)(hb:b<=n) :
  Calls Tryz.prog 189 #[.slice B n cap,.int .i64 a,.int .i64 b] W λ e w'=>ycz W w' B n a b f e:=by
 have HL:=zH hlo;clear hlo
 go_enter Tryz.func189,Tryz.ntmps189
 go_wp2_with fail
 go_loopw [7,8] (λ u v wr=>∃(i t:Nat) (f':Nat->UInt64),u= .int .i64 i/\v= .int .i64 t/\t<=5/\a+1<=i/\i<=b/\Sh a b f f'/\lh a i f'/\dC wr B n f'/\Only B W wr) (λ _ v _=>10-(intOf v).toNat)
 case atStart=>exact⟨a+1,0,f,by go_num,rfl,by omega,aO _,by omega,.refl,λ x y h1 h2 h3=>by omega,h,Only.refl _ _⟩
 clear h;obtain⟨i0,t,f1,rfl,rfl,ht,hi1,hi2,hs,hr,hu,ho⟩:=hrel;by_cases ht5:t<5
 ·have q0:(t:Int)<5:=by omega
  have HS:=zH hs;clear hs
  go_upto_block 2 with(fail)
  go_cut [7] (λ v wx=>∃i:Nat,v= .int .i64 i/\Hid (a+1<=i/\i<=b/\lh a i f1/\(i=b\/(i<b/\(f1 i).toNat<(f1 (i-1)).toNat)))/\dC wx B n f1/\Only B W wx)
  case first=>
   go_wp2_with fail
   go_loopw [7] (λ v wr=>∃i:Nat,v= .int .i64 i/\a+1<=i/\i<=b/\lh a i f1/\dC wr B n f1/\Only B W wr) (λ v _=>1000002-(intOf v).toNat)
   case atStart=>exact⟨i0,rfl,hi1,hi2,hr,hu,ho⟩
   clear hu ho hi1 hi2 hr;obtain⟨i,rfl,hi1,hi2,hr,hu,ho⟩:=hrel;obtain⟨k,rfl⟩:∃k,i=k+1:=⟨i-1,by omega⟩;by_cases hib:k+1<b
   ·have q1:(k:Int)+1<b:=by omega
    have q2:(k:Int)+1<n:=by omega
    have q3:(k:Int)<n:=by omega
    have e1:wrap64 ((k:Int)+1-1)=(k:Int):=by unfold wrap64;omega
    have c1:=λ m=>(hu.drewN m).cell (k+1) (by omega);have c2:=λ m=>(hu.drewN m).cell k (by omega);have hL:=λ m=>vC (f1 (k+1)) (f1 k) (wr.drewN m);have HX:=zH (zA hr (zA hu ho));clear hr hu ho;by_cases hl:(f1 (k+1)).toNat<(f1 k).toNat
    ·rw[decide_eq_true hl]at hL
     go_wp2_with fail
     go_quiet (first|(go_at_call 190;refine Calls.quiet_of_same (hL _)))
     go_wp2;go_meet
     case rel=>exact⟨k+1,by go_num,zH ⟨hi1,hi2,HX.out.1,.inr ⟨hib,hl⟩⟩,HX.out.2.1.drewN _,HX.out.2.2.drewN _⟩
    rw[decide_eq_false hl]at hL
    go_wp2_with fail
    go_quiet (first|(go_at_call 190;refine Calls.quiet_of_same (hL _)))
    go_wp2;go_roundw
    case rel=>exact⟨k+1+1,by go_num,by omega,by omega,HX.out.1.snoc (.inr ⟨k,rfl,hl⟩),HX.out.2.1.drewN _,HX.out.2.2.drewN _⟩
    case measure=>simp only[intOf];omega
   have q1:decide ((k:Int)+1<(b:Int))=false:=decide_eq_false (by omega);have q2:(b:Int)<=(k:Int)+1:=by omega
   have HX:=zH (zA hr (zA hu ho));clear hr hu ho
   go_wp2_with fail
   go_quiet (fail)
   go_wp2;go_meet
   case rel=>exact⟨k+1,by go_num,zH ⟨hi1,hi2,HX.out.1,.inl (by omega)⟩,HX.out.2.1.drewN _,HX.out.2.2.drewN _⟩
  case rest=>
  clear hi1 hi2 hr hu ho;obtain⟨i,rfl,hI,hu,ho⟩:=hcut;by_cases hib:i=b
  ·subst hib;go_wp2;go_ret;exact⟨true,rfl,f1,HS.out,λ _=>hI.out.2.2.1,hu,ho⟩
  have q1:((i:Int)==(b:Int))=false:=beq_eq_false_iff_ne.2 (by omega);by_cases h50:b<a+50
  ·have q2:(b:Int)-(a:Int)<50:=by omega
   have q3:wrap64 ((b:Int)-(a:Int))=(b:Int)-(a:Int):=by unfold wrap64;omega
   go_wp2;go_ret
   exact⟨false,rfl,f1,HS.out,λ h=>(by cases h),hu,ho⟩
  have q2:¬(b:Int)-(a:Int)<50:=by omega
  have q3:wrap64 ((b:Int)-(a:Int))=(b:Int)-(a:Int):=by unfold wrap64;omega
  obtain⟨i1,i2,i3,i4⟩:=hI.out;obtain⟨i5,i6⟩:=i4.resolve_left hib;obtain⟨k,rfl⟩:∃k,i=k+1:=⟨i-1,by omega⟩;rw[Nat.add_sub_cancel]at i6;have q4:(k:Int)+1<n:=by omega
  have q5:(k:Int)<n:=by omega
  have e1:wrap64 ((k:Int)+1-1)=(k:Int):=by unfold wrap64;omega
  obtain⟨c1,c2,d1,d2,c3,c4,d3,d4,c5,c6⟩:=hu.two (i:=k+1) (j:=k) (by omega) (by omega)
  have HU:=zH (zA (HS.out.swap (i:=k+1) (j:=k) ⟨by omega,by omega⟩ ⟨by omega,by omega⟩) (zA (show Ins a k k (swp f1 (k+1) k)from Ins.start (λ x y h1 h2 h3=>by
   rw[mq (by omega) (by omega),mq (by omega) (by omega)];exact i3 x y h1 h2 (by omega))) (hu.swapped ho (i:=k+1) (j:=k) (by omega) (by omega))))
  have hka:a<=k:=by omega
  clear hu ho i3 hI i4 HS
  go_wp2_with fail
  go_region
  obtain⟨hs,hr,hu,ho⟩:=HU.out;clear HU c1 c2 d1 d2 c3 c4 d3 d4 c5 c6;have HR:=zH hr;have HK:=zH (zA hs (zA hu ho));clear hr q2 q3 i6
  go_upto_if 61 with(fail)
  go_cut [] (λ wx=>∃f2,Hid (Sh a b f f2/\lh a (k+1) f2)/\dC wx B n f2/\Only B W wx)
  case first=>
   by_cases Rl:k=a
   ·subst Rl;have q6:(k:Int)+1-(k:Int)<2:=by omega
    have q7:wrap64 ((k:Int)+1-(k:Int))=(k:Int)+1-(k:Int):=by unfold wrap64;omega
    go_wp2;go_meet
    case rel=>exact⟨_,zH ⟨HK.out.1,λ x y h1 h2 h3=>by omega⟩,HK.out.2.1,HK.out.2.2⟩
   have q6:2<=(k:Int)+1-(a:Int):=by omega
   have q7:wrap64 ((k:Int)+1-(a:Int))=(k:Int)+1-(a:Int):=by unfold wrap64;omega
   go_wp2_with fail
   go_loopw [9] (λ v wr=>∃(j:Nat) (f2:Nat->UInt64),v= .int .i64 j/\a<=j/\j<=k/\Sh a b f f2/\Ins a k j f2/\dC wr B n f2/\Only B W wr) (λ v _=>(intOf v).toNat)
   case atStart=>exact⟨k,_,by go_num,hka,aO _,HK.out.1,HR.out,HK.out.2.1,HK.out.2.2⟩
   clear hu ho hs HR HK q6 q7;obtain⟨j,f2,rfl,hj1,hj2,hs,hr,hu,ho⟩:=hrel;by_cases hj0:j=0
   ·subst hj0;go_wp2;go_meet
    case rel=>exact⟨f2,zH ⟨hs,hr.done hj1 (aY _) (.inl (by omega))⟩,hu,ho⟩
   obtain⟨m,rfl⟩:∃m,j=m+1:=⟨j-1,by omega⟩;have q6:(1:Int)<=(m:Int)+1:=by omega
   have q7:(m:Int)+1<n:=by omega
   have q8:(m:Int)<n:=by omega
   have e1:wrap64 ((m:Int)+1-1)=(m:Int):=by unfold wrap64;omega
   have c1:=λ z=>(hu.drewN z).cell (m+1) (by omega);have c2:=λ z=>(hu.drewN z).cell m (by omega);have hL:=λ z=>vC (f2 (m+1)) (f2 m) (wr.drewN z);have HX:=zH (zA hs (zA hr (zA hu ho)));by_cases hl:(f2 (m+1)).toNat<(f2 m).toNat
   ·have Xk:a<=m:=by
     refine Nat.le_of_not_lt (λ hlt=>?_);have e9:a=m+1:=by omega
     have:=(HL.out.sh hs) (m+1) (by omega) (by omega) (by omega);rw[e9,Nat.add_sub_cancel]at this;omega
    clear hs hr hu ho;rw[decide_eq_true hl]at hL
    go_wp2_with fail
    go_quiet (first|(go_at_call 190;refine Calls.quiet_of_same (hL _)))
    obtain⟨hs,hr,hu,ho⟩:=HX.out;obtain⟨w2,hw2,hu2,ho2⟩:=hu.at_ ho nq;rw[<-hw2];obtain⟨c1,c2,d1,d2,c3,c4,d3,d4,c5,c6⟩:=hu2.two (i:=m+1) (j:=m) (by omega) (by omega);have HU:=zH (hu2.swapped ho2 (i:=m+1) (j:=m) (by omega) (by omega));clear hw2 hu2 ho2 hu ho hL hs hr
    go_wp2_with fail
    go_region
    go_wp2;go_roundw
    case rel=>exact⟨m,_,by go_num,Xk,by omega,HX.out.1.swap (i:=m+1) (j:=m) ⟨by omega,by omega⟩ ⟨by omega,by omega⟩,HX.out.2.1.step Xk hj2 hl,HU.out.1,HU.out.2⟩
    case measure=>simp only[intOf];omega
   clear hs hr hu ho;rw[decide_eq_false hl]at hL
   go_wp2_with fail
   go_quiet (first|(go_at_call 190;refine Calls.quiet_of_same (hL _)))
   go_wp2;go_meet
   case rel=>exact⟨f2,zH ⟨HX.out.1,HX.out.2.1.done hj1 hj2 (.inr ⟨m,rfl,hl⟩)⟩,HX.out.2.2.1.drewN _,HX.out.2.2.2.drewN _⟩
  case rest=>
  clear hu ho hs HR HK;obtain⟨f2,hF,hu,ho⟩:=hcut;by_cases hbk:b<k+1+2
  ·have q6:(b:Int)-((k:Int)+1)<2:=by omega
   have q7:wrap64 ((b:Int)-((k:Int)+1))=(b:Int)-((k:Int)+1):=by unfold wrap64;omega
   go_wp2;go_roundw
   case rel=>exact⟨k+1,t+1,_,by go_num,by go_num,by omega,by omega,by omega,hF.out.1,hF.out.2,hu,ho⟩
   case measure=>simp only[intOf];omega
  have q6:2<=(b:Int)-((k:Int)+1):=by omega
  have q7:wrap64 ((b:Int)-((k:Int)+1))=(b:Int)-((k:Int)+1):=by unfold wrap64;omega
  go_wp2_with fail
  go_loopw [10] (λ v wr=>∃(j:Nat) (f3:Nat->UInt64),v= .int .i64 j/\k+2<=j/\j<=b/\Sh a b f f3/\lh a (k+1) f3/\dC wr B n f3/\Only B W wr) (λ v _=>1000002-(intOf v).toNat)
  case atStart=>exact⟨k+2,f2,by go_num,aO _,by omega,hF.out.1,hF.out.2,hu,ho⟩
  clear hu ho hF q6 q7;obtain⟨j,f3,rfl,hj1,hj2,hs,hr,hu,ho⟩:=hrel;by_cases hjb:j<b
  ·obtain⟨m,rfl⟩:∃m,j=m+1:=⟨j-1,by omega⟩;have q6:(m:Int)+1<b:=by omega
   have q7:(m:Int)+1<n:=by omega
   have q8:(m:Int)<n:=by omega
   have e1:wrap64 ((m:Int)+1-1)=(m:Int):=by unfold wrap64;omega
   have c1:=λ z=>(hu.drewN z).cell (m+1) (by omega);have c2:=λ z=>(hu.drewN z).cell m (by omega);have hL:=λ z=>vC (f3 (m+1)) (f3 m) (wr.drewN z);have HX:=zH (zA hs (zA hr (zA hu ho)));clear hs hr hu ho;by_cases hl:(f3 (m+1)).toNat<(f3 m).toNat
   ·rw[decide_eq_true hl]at hL
    go_wp2_with fail
    go_quiet (first|(go_at_call 190;refine Calls.quiet_of_same (hL _)))
    obtain⟨hs,hr,hu,ho⟩:=HX.out;obtain⟨w2,hw2,hu2,ho2⟩:=hu.at_ ho nq;rw[<-hw2];obtain⟨c1,c2,d1,d2,c3,c4,d3,d4,c5,c6⟩:=hu2.two (i:=m+1) (j:=m) (by omega) (by omega);have HU:=zH (zA (hs.swap (i:=m+1) (j:=m) ⟨by omega,by omega⟩ ⟨by omega,by omega⟩) (zA (hr.out (j:=m+1) (k:=m) (by omega) (by omega)) (hu2.swapped ho2 (i:=m+1) (j:=m) (by omega) (by omega))));clear hw2 hu2 ho2 hu ho hL hs hr
    go_wp2_with fail
    go_region
    go_wp2;go_roundw
    case rel=>exact⟨m+1+1,_,by go_num,by omega,by omega,HU.out.1,HU.out.2.1,HU.out.2.2.1,HU.out.2.2.2⟩
    case measure=>simp only[intOf];omega
   rw[decide_eq_false hl]at hL
   go_wp2_with fail
   go_quiet (first|(go_at_call 190;refine Calls.quiet_of_same (hL _)))
   go_wp2;go_roundw
   case rel=>exact⟨k+1,t+1,_,by go_num,by go_num,by omega,by omega,by omega,HX.out.1,HX.out.2.1,HX.out.2.2.1.drewN _,HX.out.2.2.2.drewN _⟩
   case measure=>simp only[intOf];omega
  have q6:¬(j:Int)<b:=by omega
  go_wp2;go_roundw
  case rel=>exact⟨k+1,t+1,_,by go_num,by go_num,by omega,by omega,by omega,hs,hr,hu,ho⟩
  case measure=>simp only[intOf];omega
 have q0:¬(t:Int)<5:=by omega
 go_wp2;go_ret
 exact⟨false,rfl,f1,hs,λ h=>(by cases h),hu,ho⟩
end So
end Go.Proofs.YtgpmiliahonaoaaGreatDoor
