/- Facts on texts on pages. -/
import Derived.Test.YtgpmiliahonaoaaGreatDoorKSoFc
import Derived.Test.YtgpmiliahonaoaaGreatDoorShelfB
import Derived.Lib.ItoaNum
set_option maxRecDepth 100000
set_option maxHeartbeats 8000000
set_option linter.unusedSimpArgs false
open Go.IntKind renaming i64->U,u64->a7
open Go.Value renaming int->V,pointer->aq,slice->ad,tuple->a9
open Go.Ending renaming returned->aw
open Go.Proofs.Tryz
namespace Go.Proofs.YtgpmiliahonaoaaGreatDoor
open Go.RowKit
open UK (Only ay)
open Go.BigFrame
variable{W:World}{r l:Nat}{v:UInt64}
namespace So
variable{a b c d i j:Nat}{f g h:Nat->UInt64}
def s13(v:UInt64):UInt64:=UInt64.ofNat (v.toNat*8192)
def Oi(v:UInt64):UInt64:=UInt64.ofNat (v.toNat*131072)
def s7(v:UInt64):UInt64:=UInt64.ofNat (v.toNat/128)
def CK(v w:UInt64):UInt64:=v ^^^ w
theorem zr(v:UInt64):(v.toNat:Int)*8192%18446744073709551616=((s13 v).toNat:Int):=by simp[s13]
theorem oc(v:UInt64):(v.toNat:Int)*131072%18446744073709551616=((Oi v).toNat:Int):=by simp[Oi]
theorem Kd(v:UInt64):(v.toNat:Int)/128=((s7 v).toNat:Int):=by
 have:=v.toNat_lt;simp[s7];omega
theorem Jq(v w:UInt64):bits .xor a7 (v.toNat:Int) (w.toNat:Int)=((CK v w).toNat:Int):=by
 rw[u64_xor_nat _ _ v.toNat_lt w.toNat_lt,CK,UInt64.toNat_xor]
theorem pI(h:ay W r #[V a7 (v.toNat:Int)]) :
  Calls prog 241 #[aq r] W λ e t=>∃A:UInt64,e=aw (V a7 (A.toNat:Int))/\ay t r #[V a7 (A.toNat:Int)]/\Only r W t:=by
 have o:∀{w:World} {x:UInt64},ay w r #[V a7 (x.toNat:Int)]->∀y:UInt64,w.cell? r=some (V a7 (x.toNat:Int))/\w.frozen? ⟨r,0,none⟩=false/\w.drew.cell? r=some (V a7 (x.toNat:Int))/\w.drew.frozen? ⟨r,0,none⟩=false/\ay (w.setCell r (V a7 (y.toNat:Int))).drew r #[V a7 (y.toNat:Int)]:=λ {w x} d y=>
  ⟨d.cell 0 _ rfl,d.free 0,d.cell 0 _ rfl,d.free 0,by
   have:=d.set 0 (V a7 (y.toNat:Int));have e:(#[V a7 (x.toNat:Int)]:Array Value).set! 0 (V a7 (y.toNat:Int))= #[V a7 (y.toNat:Int)]:=by simp
   rw[e]at this;exact this⟩
 have G:∀v:UInt64,IntKind.u64.wrap ((v.toNat:Int)*8192)=((s13 v).toNat:Int):=λ v=>by rw[mX];exact zr v
 have C:∀v:UInt64,IntKind.u64.wrap ((v.toNat:Int)*131072)=((Oi v).toNat:Int):=λ v=>by rw[mX];exact oc v
 have D:=Kd;have E:=Jq
 go_enter func241,ntmps241
 go_wp2_with fail
 obtain⟨p,B,u,z,m⟩:=o h (CK v (s13 v));have i:=((Only.refl r W).set 0 (V a7 ((CK v (s13 v)).toNat:Int))).drewN 1;clear h
 go_region
 obtain⟨a,g⟩:∃a,a=CK v (s13 v):=⟨_,rfl⟩;rw[<-g]at m i ⊢;obtain⟨f,b⟩:∃f,f=(W.setCell r (V a7 (a.toNat:Int))).drew:=⟨_,rfl⟩;rw[<-b];replace i:Only r W f:=b▸i;obtain⟨p,B,u,z,n⟩:=o (show ay f r #[V a7 (a.toNat:Int)]from b▸m) (CK a (s7 a));clear b m g;have k:=(i.set 0 (V a7 ((CK a (s7 a)).toNat:Int))).drewN 1
 go_wp2_with fail
 go_region
 obtain⟨c,g⟩:∃c,c=CK a (s7 a):=⟨_,rfl⟩;rw[<-g]at n k ⊢;obtain⟨j,b⟩:∃j,j=(f.setCell r (V a7 (c.toNat:Int))).drew:=⟨_,rfl⟩;rw[<-b];replace k:Only r W j:=b▸k;obtain⟨p,B,u,z,l⟩:=o (show ay j r #[V a7 (c.toNat:Int)]from b▸n) (CK c (Oi c));clear b n g;have s:=(k.set 0 (V a7 ((CK c (Oi c)).toNat:Int))).drewN 1
 go_wp2_with fail
 go_region
 have F:=l.cell 0 _ rfl;have q:=bg l s;clear l s;go_wp2;go_ret;exact⟨_,rfl,q.out.1,q.out.2⟩
theorem dr(f:1<=l)(g:l<=1000000):Lib.bitLen l<=20/\2^Lib.bitLen l<=2*l:=by
 have b:=Lib.bitLen_le l 20 Z Z;have a:=Lib.bitLenAux_bounds 64 l Z Z;refine⟨b,?_⟩;show 2^Lib.bitLenAux 64 l<=2*l;obtain⟨h,d,c⟩:=a;have e:Lib.bitLenAux 64 l=(Lib.bitLenAux 64 l-1)+1:=Z
 rw[e,Nat.pow_succ];omega
theorem CY(f:1<=l)(g:l<=1000000) :
  Calls prog 240 #[V U l] W λ e i=>e=aw (V a7 ((2^Lib.bitLen l:Nat):Int))/\i=W:=by
 have H:=zH (Any.bits_Len lenA (l:Int) W Z Z);obtain⟨c,h⟩:=dr f g;have j:((l:Int)).toNat=l:=Z
 rw[j]at H;have s:IntKind.u64.wrap (l:Int)=(l:Int):=by rw[mX];omega
 have n:(l:Int)%18446744073709551616=(l:Int):=Z
 obtain⟨k,b⟩:∃k,k=Lib.bitLen l:=⟨_,rfl⟩;rw[<-b]at H c h ⊢;have d:2^k<=2^20:=Nat.pow_le_pow_right Z c;obtain⟨m,a⟩:∃m,m=2^k:=⟨_,rfl⟩
 have t:IntKind.u64.wrap ((2:Int)^k)=(m:Int):=by
  rw[mX,a];have:((2^k:Nat):Int)=(2:Int)^k:=by norm_cast
  rw[<-this];omega
 have p:(2:Int)^k=(m:Int):=by rw[a];norm_cast
 have o:m<=1048576:=by rw[a];exact d
 have r:IntKind.u64.wrap (m:Int)=(m:Int):=by rw[mX];omega
 rw[<-a];clear a d b
 go_enter func240,ntmps240
 go_wp2_with fail
 refine H.out.mono ?_;rintro e q ⟨rfl,rfl⟩;clear H;go_wp2;go_ret;exact⟨rfl,rfl⟩
theorem ey(k:Nat)(h:k<9000000000000000000):wrap64 (k:Int)=(k:Int):=by unfold wrap64;omega
def yI(v w:UInt64):UInt64:=v &&& w
theorem wB(v w:UInt64):bits .and a7 (v.toNat:Int) (w.toNat:Int)=((yI v w).toNat:Int):=by
 rw[u64_and_nat _ _ v.toNat_lt w.toNat_lt,yI,UInt64.toNat_and]
theorem kD(v w:UInt64):(yI v w).toNat<=w.toNat:=by rw[yI,UInt64.toNat_and];exact Nat.and_le_right
theorem Vr(v:UInt64):IntKind.u64.wrap (v.toNat:Int)=(v.toNat:Int):=by
 have:=v.toNat_lt;rw[mX];omega
theorem lp{B n cap:Nat}(h:dK W B n f)(N:n<=1000000)(hh:a+13<=b)(hb:b<=n) :
  Calls prog 186 #[ad B n cap,V U a,V U b] W λ e M=>e=aw (a9 #[])/\∃f',Sh a b f f'/\dK M B n f'/\Only B W M:=by
 obtain⟨l,S⟩:∃l,l=b-a:=⟨_,rfl⟩;obtain⟨q,Y⟩:∃q,q=l/4:=⟨_,rfl⟩;have e1:(b:Int)-(a:Int)=(l:Int):=Z
 have C:(l:Int).tdiv 4=(q:Int):=by rw[nP Z];omega
 have D:(l:Int)/4=(q:Int):=Z
 have hc:3<=q:=Z
 have hg:a+q*2+1<b:=Z
 have Ck:(8:Int)<=l:=Z
 have I7:(l:Int)<=1000000:=Z
 have h8:(q:Int)<=250000:=Z
 have R:a+l=b:=Z
 obtain⟨m,L⟩:∃m:UInt64,m.toNat=l:=⟨UInt64.ofNat l,by rw[UInt64.toNat_ofNat'];omega⟩;have e5:IntKind.u64.wrap (l:Int)=(m.toNat:Int):=by rw[mX,L];omega
 have G:=(dr (l:=l) Z Z).2;obtain⟨o,h1⟩:∃o:UInt64,2^Lib.bitLen l=o.toNat+1:=⟨UInt64.ofNat (2^Lib.bitLen l-1),by have:=Nat.two_pow_pos (Lib.bitLen l);rw[UInt64.toNat_ofNat'];omega⟩;have J:=zH (λ h4=>CY (W:=h4) (l:=l) Z Z);rw[h1]at G J;have Fj:o.toNat<2000000:=Z
 have an:=wB;have uw:=Vr;have HL:=bg S Y;have h5:=h.lt;clear S Y h1 L
 go_enter func186,ntmps186
 go_wp2_with fail
 refine(J.out _).mono ?_;rintro e A ⟨rfl,rfl⟩
 go_wp2_with fail
 have Q:=UK.ay.new W #[V a7 (m.toNat:Int)] 293;have E:Below W W (W.alloc (.cells #[V a7 (m.toNat:Int)] 293)):=(aU _ _).alloc (aH _) _;have T:=h.ae (W':=W.alloc (.cells #[V a7 (m.toNat:Int)] 293)) E.size (E.block B h5);have K:Only B W (W.alloc (.cells #[V a7 (m.toNat:Int)] 293)):=(Only.refl B W).alloc _;have x0:a+q*2-1+1=a+q*2:=Z
 obtain⟨y,h3⟩:∃y,y=a+q*2-1:=⟨_,rfl⟩;have X:(a:Int)+(q:Int)*2-1=(y:Int):=Z
 rw[X];clear h J e5
 go_loopw [9] (λ H wr=>∃(x:Nat) (k:Nat->UInt64) (v:UInt64),H=V U x/\a<=x/\x<=a+q*2+2/\Sh a b f k/\dK wr B n k/\Only B W wr/\ay wr W #[V a7 (v.toNat:Int)]) (λ H _=>1000100-(intOf H).toNat)
 case atStart=>exact⟨y,f,m,by go_num,Z,Z,.refl,T,K,Q⟩
 clear T K Q E X x0 h3 e1 R;obtain⟨x,k,v,rfl,h9,ha,j,r,d,h0⟩:=hrel;have I:W.1.size≠B:=λ e=>Z
 have R:a+l=b:=by have:=HL.out.1;omega
 by_cases hx:x<=a+q*2+1
 ·have i1:(x:Int)<=(a:Int)+(q:Int)*2+1:=Z
  have i2:(x:Int)<n:=Z
  have HN:=zH (pI h0);have HX:=bm j r d;clear j r d h0
  go_wp2_with fail
  refine HN.out.mono ?_;rintro e A ⟨u,rfl,z,i⟩;obtain⟨j,r,d⟩:=HX.out;obtain⟨c,t⟩:∃c,c=(yI u o).toNat:=⟨_,rfl⟩;have F:c<=o.toNat:=t▸kD u o;have s:=r.ae i.size (i.block B r.lt I.symm);have w:Only B W A:=⟨i.os.trans d.os,i.tape.trans d.tape,i.output.trans d.output,aT d.size i.size,λ h2 P N=>(i.block h2 (cB P d.size) Z).trans (d.block h2 P N)⟩;have O:=bg (show((yI u o).toNat:Int)=(c:Int) by rw[t]) (ey c (Nat.lt_trans (Nat.lt_of_le_of_lt F Fj) (by decide)));have HE2:=bg C D;clear HN HX r d i t C D;have he:c<2*l:=cB (Nat.lt_succ_of_le F) G;clear G F;rcases yu c l with h6|h6
  ·have i4:(c:Int)<(l:Int):=Z
   have h7:¬(l:Int)<=(c:Int):=Z
   skip
   have i5:(a:Int)+(c:Int)<n:=Z
   obtain⟨c1,c2,d1,d2,c3,c4,d3,d4,c5,c6⟩:=s.two (i:=x) (j:=a+c) Z Z;have g:=bm (j.swap (i:=x) (j:=a+c) ⟨Z,Z⟩ ⟨Z,Z⟩) (s.swapped w (i:=x) (j:=a+c) Z Z) (z.only ((((Only.refl B A).set x (V a7 ((k (a+c)).toNat:Int))).set (a+c) (V a7 ((k x).toNat:Int))).drewN 1) I);clear s w j z;have t:=O.out.1;obtain⟨C,D⟩:=HE2.out
   go_wp2_with fail
   go_region
   go_wp2;go_roundw
   case rel=>exact⟨x+1,_,u,by go_num,Z,Z,g.out.1,g.out.2.1.1,g.out.2.1.2,g.out.2.2⟩
   case measure=>simp only[intOf];omega
  obtain⟨p,rfl⟩:∃p,c=l+p:=⟨c-l,Z⟩;have i4:(l:Int)<=(l:Int)+(p:Int):=Z
  have i7:(l:Int)+(p:Int)-(l:Int)=(p:Int):=Z
  skip
  have i5:(a:Int)+(p:Int)<n:=Z
  obtain⟨c1,c2,d1,d2,c3,c4,d3,d4,c5,c6⟩:=s.two (i:=x) (j:=a+p) Z Z;have g:=bm (j.swap (i:=x) (j:=a+p) ⟨Z,Z⟩ ⟨Z,Z⟩) (s.swapped w (i:=x) (j:=a+p) Z Z) (z.only ((((Only.refl B A).set x (V a7 ((k (a+p)).toNat:Int))).set (a+p) (V a7 ((k x).toNat:Int))).drewN 1) I);clear s w j z;have t:=O.out.1;obtain⟨C,D⟩:=HE2.out;have i6:wrap64 ((l:Int)+(p:Int)-(l:Int))=(p:Int):=by rw[i7];exact ey p Z
  go_wp2_with fail
  go_region
  go_wp2;go_roundw
  case rel=>exact⟨x+1,_,u,by go_num,Z,Z,g.out.1,g.out.2.1.1,g.out.2.1.2,g.out.2.2⟩
  case measure=>simp only[intOf];omega
 have i1:¬(x:Int)<=(a:Int)+(q:Int)*2+1:=Z
 go_wp2
 go_end0
 exact⟨rfl,k,j,r,d⟩
end So
