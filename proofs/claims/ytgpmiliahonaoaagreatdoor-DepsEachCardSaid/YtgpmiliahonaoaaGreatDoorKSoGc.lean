/- Facts on texts and trees on pages. -/
import Derived.Test.YtgpmiliahonaoaaGreatDoorKSoFc
import Derived.Test.YtgpmiliahonaoaaGreatDoorShelfB
import Derived.Lib.ItoaNum
set_option maxRecDepth 100000
set_option maxHeartbeats 8000000
set_option linter.unusedSimpArgs false
namespace Go.Proofs.YtgpmiliahonaoaaGreatDoor
open Go.RowKit
open UK (Only ay)
open Go.BigFrame
namespace So
variable{a b c d i j:Nat}{f g h:Nat->UInt64}
def s13(v:UInt64):UInt64:=UInt64.ofNat (v.toNat*8192)
def KI(v:UInt64):UInt64:=UInt64.ofNat (v.toNat*131072)
def s7(v:UInt64):UInt64:=UInt64.ofNat (v.toNat/128)
def Av(v w:UInt64):UInt64:=v ^^^ w
theorem yb4(v:UInt64):(v.toNat:Int)*8192%18446744073709551616=((s13 v).toNat:Int):=by simp[s13]
theorem yb5(v:UInt64):(v.toNat:Int)*131072%18446744073709551616=((KI v).toNat:Int):=by simp[KI]
theorem ycy(v:UInt64):(v.toNat:Int)/128=((s7 v).toNat:Int):=by
 have:=v.toNat_lt;simp[s7];omega
theorem yb6(v w:UInt64):bits .xor .u64 (v.toNat:Int) (w.toNat:Int)=((Av v w).toNat:Int):=by
 rw[u64_xor_nat _ _ v.toNat_lt w.toNat_lt,Av,UInt64.toNat_xor]
theorem og{W:World}{r:Nat}{v:UInt64}(h:ay W r #[.int .u64 (v.toNat:Int)]) :
  Calls Tryz.prog 241 #[.pointer r] W λ e w'=>∃v':UInt64,e= .returned (.int .u64 (v'.toNat:Int))/\ay w' r #[.int .u64 (v'.toNat:Int)]/\Only r W w':=by
 have hs:∀{w:World} {x:UInt64},ay w r #[.int .u64 (x.toNat:Int)]->∀y:UInt64,w.cell? r=some (.int .u64 (x.toNat:Int))/\w.frozen? ⟨r,0,none⟩=false/\w.drew.cell? r=some (.int .u64 (x.toNat:Int))/\w.drew.frozen? ⟨r,0,none⟩=false/\ay (w.setCell r (.int .u64 (y.toNat:Int))).drew r #[.int .u64 (y.toNat:Int)]:=λ {w x} hb y=>
  ⟨hb.cell 0 _ rfl,hb.free 0,hb.cell 0 _ rfl,hb.free 0,by
   have:=hb.set 0 (.int .u64 (y.toNat:Int));have e:(#[.int .u64 (x.toNat:Int)]:Array Value).set! 0 (.int .u64 (y.toNat:Int))= #[.int .u64 (y.toNat:Int)]:=by simp
   rw[e]at this;exact this⟩
 have r13:∀v:UInt64,IntKind.u64.wrap ((v.toNat:Int)*8192)=((s13 v).toNat:Int):=λ v=>by rw[lN];exact yb4 v
 have r17:∀v:UInt64,IntKind.u64.wrap ((v.toNat:Int)*131072)=((KI v).toNat:Int):=λ v=>by rw[lN];exact yb5 v
 have r7:=ycy;have rx:=yb6
 go_enter Tryz.func241,Tryz.ntmps241
 go_wp2_with fail
 obtain⟨c1,c2,c3,c4,h5⟩:=hs h (Av v (s13 v));have o1:=((Only.refl r W).set 0 (.int .u64 ((Av v (s13 v)).toNat:Int))).drewN 1;clear h
 go_region
 obtain⟨v1,e1⟩:∃v1,v1=Av v (s13 v):=⟨_,rfl⟩;rw[<-e1]at h5 o1 ⊢;obtain⟨w1,e2⟩:∃w1,w1=(W.setCell r (.int .u64 (v1.toNat:Int))).drew:=⟨_,rfl⟩;rw[<-e2];replace o1:Only r W w1:=e2▸o1;obtain⟨c1,c2,c3,c4,h6⟩:=hs (show ay w1 r #[.int .u64 (v1.toNat:Int)]from e2▸h5) (Av v1 (s7 v1));clear e2 h5 e1;have o2:=(o1.set 0 (.int .u64 ((Av v1 (s7 v1)).toNat:Int))).drewN 1
 go_wp2_with fail
 go_region
 obtain⟨v2,e1⟩:∃v2,v2=Av v1 (s7 v1):=⟨_,rfl⟩;rw[<-e1]at h6 o2 ⊢;obtain⟨w2,e2⟩:∃w2,w2=(w1.setCell r (.int .u64 (v2.toNat:Int))).drew:=⟨_,rfl⟩;rw[<-e2];replace o2:Only r W w2:=e2▸o2;obtain⟨c1,c2,c3,c4,h7⟩:=hs (show ay w2 r #[.int .u64 (v2.toNat:Int)]from e2▸h6) (Av v2 (KI v2));clear e2 h6 e1;have o3:=(o2.set 0 (.int .u64 ((Av v2 (KI v2)).toNat:Int))).drewN 1
 go_wp2_with fail
 go_region
 have c5:=h7.cell 0 _ rfl;have HX:=zH (zA h7 o3);clear h7 o3;go_wp2;go_ret;exact⟨_,rfl,HX.out.1,HX.out.2⟩
theorem Xi{l:Nat}(h1:1<=l)(h2:l<=1000000):Lib.bitLen l<=20/\2^Lib.bitLen l<=2*l:=by
 have h3:=Lib.bitLen_le l 20 (by omega) (by omega);have h4:=Lib.bitLenAux_bounds 64 l (by omega) (by omega);refine⟨h3,?_⟩;show 2^Lib.bitLenAux 64 l<=2*l;obtain⟨a1,a2,a3⟩:=h4;have e:Lib.bitLenAux 64 l=(Lib.bitLenAux 64 l-1)+1:=by omega
 rw[e,Nat.pow_succ];omega
theorem yan{W:World}{l:Nat}(h1:1<=l)(h2:l<=1000000) :
  Calls Tryz.prog 240 #[.int .i64 l] W λ e w'=>e= .returned (.int .u64 ((2^Lib.bitLen l:Nat):Int))/\w'=W:=by
 have H:=zH (Any.bits_Len Tryz.lenA (l:Int) W (by omega) (by omega));obtain⟨k1,k2⟩:=Xi h1 h2;have e0:((l:Int)).toNat=l:=by omega
 rw[e0]at H;have e1:IntKind.u64.wrap (l:Int)=(l:Int):=by rw[lN];omega
 have UR:(l:Int)%18446744073709551616=(l:Int):=by omega
 obtain⟨k,hk⟩:∃k,k=Lib.bitLen l:=⟨_,rfl⟩;rw[<-hk]at H k1 k2 ⊢;have hp:2^k<=2^20:=Nat.pow_le_pow_right (by omega) k1;obtain⟨m,hm⟩:∃m,m=2^k:=⟨_,rfl⟩
 have e2:IntKind.u64.wrap ((2:Int)^k)=(m:Int):=by
  rw[lN,hm];have:((2^k:Nat):Int)=(2:Int)^k:=by norm_cast
  rw[<-this];omega
 have e3:(2:Int)^k=(m:Int):=by rw[hm];norm_cast
 have hm2:m<=1048576:=by rw[hm];exact hp
 have CL:IntKind.u64.wrap (m:Int)=(m:Int):=by rw[lN];omega
 rw[<-hm];clear hm hp hk
 go_enter Tryz.func240,Tryz.ntmps240
 go_wp2_with fail
 refine H.out.mono ?_;rintro e w1 ⟨rfl,rfl⟩;clear H;go_wp2;go_ret;exact⟨rfl,rfl⟩
theorem Xj(k:Nat)(h:k<9000000000000000000):wrap64 (k:Int)=(k:Int):=by unfold wrap64;omega
def wH(v w:UInt64):UInt64:=v &&& w
theorem yao(v w:UInt64):bits .and .u64 (v.toNat:Int) (w.toNat:Int)=((wH v w).toNat:Int):=by
 rw[u64_and_nat _ _ v.toNat_lt w.toNat_lt,wH,UInt64.toNat_and]
theorem yap(v w:UInt64):(wH v w).toNat<=w.toNat:=by rw[wH,UInt64.toNat_and];exact Nat.and_le_right
theorem Rk(v:UInt64):IntKind.u64.wrap (v.toNat:Int)=(v.toNat:Int):=by
 have:=v.toNat_lt;rw[lN];omega
theorem yaq{W:World}{B n cap:Nat}(h:dC W B n f)(hn:n<=1000000)(hab:a+13<=b)(hb:b<=n) :
  Calls Tryz.prog 186 #[.slice B n cap,.int .i64 a,.int .i64 b] W λ e w'=>e= .returned (.tuple #[])/\∃f',Sh a b f f'/\dC w' B n f'/\Only B W w':=by
 obtain⟨l,hl⟩:∃l,l=b-a:=⟨_,rfl⟩;obtain⟨q,hq⟩:∃q,q=l/4:=⟨_,rfl⟩;have e1:(b:Int)-(a:Int)=(l:Int):=by omega
 have e3:(l:Int).tdiv 4=(q:Int):=by rw[mM (by omega)];omega
 have e4:(l:Int)/4=(q:Int):=by omega
 have hq1:3<=q:=by omega
 have hq2:a+q*2+1<b:=by omega
 have hl8:(8:Int)<=l:=by omega
 have EZ:(l:Int)<=1000000:=by omega
 have hq3:(q:Int)<=250000:=by omega
 have KJ:a+l=b:=by omega
 obtain⟨v0,hv0⟩:∃v0:UInt64,v0.toNat=l:=⟨UInt64.ofNat l,by rw[UInt64.toNat_ofNat'];omega⟩;have e5:IntKind.u64.wrap (l:Int)=(v0.toNat:Int):=by rw[lN,hv0];omega
 have hm2:=(Xi (l:=l) (by omega) (by omega)).2;obtain⟨m1,hm1⟩:∃m1:UInt64,2^Lib.bitLen l=m1.toNat+1:=⟨UInt64.ofNat (2^Lib.bitLen l-1),by have:=Nat.two_pow_pos (Lib.bitLen l);rw[UInt64.toNat_ofNat'];omega⟩;have HP:=zH (λ w=>yan (W:=w) (l:=l) (by omega) (by omega));rw[hm1]at hm2 HP;have CL:m1.toNat<2000000:=by omega
 have an:=yao;have uw:=Rk;have HL:=zH (zA hl hq);have hBl:=h.lt;clear hl hq hm1 hv0
 go_enter Tryz.func186,Tryz.ntmps186
 go_wp2_with fail
 refine(HP.out _).mono ?_;rintro e w1 ⟨rfl,rfl⟩
 go_wp2_with fail
 have hb0:=UK.ay.new W #[.int .u64 (v0.toNat:Int)] 293;have hbl:Below W W (W.alloc (.cells #[.int .u64 (v0.toNat:Int)] 293)):=(aV _ _).alloc (aO _) _;have hu0:=h.ae (W':=W.alloc (.cells #[.int .u64 (v0.toNat:Int)] 293)) hbl.size (hbl.block B hBl);have ho0:Only B W (W.alloc (.cells #[.int .u64 (v0.toNat:Int)] 293)):=(Only.refl B W).alloc _;have x0:a+q*2-1+1=a+q*2:=by omega
 obtain⟨xs,hxs⟩:∃xs,xs=a+q*2-1:=⟨_,rfl⟩;have e8:(a:Int)+(q:Int)*2-1=(xs:Int):=by omega
 rw[e8];clear h HP e5
 go_loopw [9] (λ kv wr=>∃(x:Nat) (f2:Nat->UInt64) (v:UInt64),kv= .int .i64 x/\a<=x/\x<=a+q*2+2/\Sh a b f f2/\dC wr B n f2/\Only B W wr/\ay wr W #[.int .u64 (v.toNat:Int)]) (λ kv _=>1000100-(intOf kv).toNat)
 case atStart=>exact⟨xs,f,v0,by go_num,by omega,by omega,.refl,hu0,ho0,hb0⟩
 clear hu0 ho0 hb0 hbl e8 x0 hxs e1 KJ;obtain⟨x,f2,v,rfl,hx1,hx2,hs,hu,ho,hbx⟩:=hrel;have hBW:W.heap.size≠B:=λ e=>by omega
 have KJ:a+l=b:=by have:=HL.out.1;omega
 by_cases hx:x<=a+q*2+1
 ·have i1:(x:Int)<=(a:Int)+(q:Int)*2+1:=by omega
  have i2:(x:Int)<n:=by omega
  have HN:=zH (og hbx);have HX:=zH (zA hs (zA hu ho));clear hs hu ho hbx
  go_wp2_with fail
  refine HN.out.mono ?_;rintro e w1 ⟨v2,rfl,hb1,o1⟩;obtain⟨hs,hu,ho⟩:=HX.out;obtain⟨oo,he⟩:∃oo,oo=(wH v2 m1).toNat:=⟨_,rfl⟩;have GI:oo<=m1.toNat:=he▸yap v2 m1;have hu1:=hu.ae o1.size (o1.block B hu.lt hBW.symm);have ho1:Only B W w1:=⟨o1.os.trans ho.os,o1.tape.trans ho.tape,o1.output.trans ho.output,aP ho.size o1.size,λ k hk hn=>(o1.block k (bZ hk ho.size) (by omega)).trans (ho.block k hk hn)⟩;have HE:=zH (zA (show((wH v2 m1).toNat:Int)=(oo:Int) by rw[he]) (Xj oo (Nat.lt_trans (Nat.lt_of_le_of_lt GI CL) (by decide))));have HE2:=zH (zA e3 e4);clear HN HX hu ho o1 he e3 e4;have ho2:oo<2*l:=bZ (Nat.lt_succ_of_le GI) hm2;clear hm2 GI;rcases xii oo l with hol|hol
  ·have i4:(oo:Int)<(l:Int):=by omega
   have i4':¬(l:Int)<=(oo:Int):=by omega
   skip
   have i5:(a:Int)+(oo:Int)<n:=by omega
   obtain⟨c1,c2,d1,d2,c3,c4,d3,d4,c5,c6⟩:=hu1.two (i:=x) (j:=a+oo) (by omega) (by omega);have HU:=zH (zA (hs.swap (i:=x) (j:=a+oo) ⟨by omega,by omega⟩ ⟨by omega,by omega⟩) (zA (hu1.swapped ho1 (i:=x) (j:=a+oo) (by omega) (by omega)) (hb1.only ((((Only.refl B w1).set x (.int .u64 ((f2 (a+oo)).toNat:Int))).set (a+oo) (.int .u64 ((f2 x).toNat:Int))).drewN 1) hBW)));clear hu1 ho1 hs hb1;have he:=HE.out.1;obtain⟨e3,e4⟩:=HE2.out
   go_wp2_with fail
   go_region
   go_wp2;go_roundw
   case rel=>exact⟨x+1,_,v2,by go_num,by omega,by omega,HU.out.1,HU.out.2.1.1,HU.out.2.1.2,HU.out.2.2⟩
   case measure=>simp only[intOf];omega
  obtain⟨p,rfl⟩:∃p,oo=l+p:=⟨oo-l,by omega⟩;have i4:(l:Int)<=(l:Int)+(p:Int):=by omega
  have i7:(l:Int)+(p:Int)-(l:Int)=(p:Int):=by omega
  skip
  have i5:(a:Int)+(p:Int)<n:=by omega
  obtain⟨c1,c2,d1,d2,c3,c4,d3,d4,c5,c6⟩:=hu1.two (i:=x) (j:=a+p) (by omega) (by omega);have HU:=zH (zA (hs.swap (i:=x) (j:=a+p) ⟨by omega,by omega⟩ ⟨by omega,by omega⟩) (zA (hu1.swapped ho1 (i:=x) (j:=a+p) (by omega) (by omega)) (hb1.only ((((Only.refl B w1).set x (.int .u64 ((f2 (a+p)).toNat:Int))).set (a+p) (.int .u64 ((f2 x).toNat:Int))).drewN 1) hBW)));clear hu1 ho1 hs hb1;have he:=HE.out.1;obtain⟨e3,e4⟩:=HE2.out;have i6:wrap64 ((l:Int)+(p:Int)-(l:Int))=(p:Int):=by rw[i7];exact Xj p (by omega)
  go_wp2_with fail
  go_region
  go_wp2;go_roundw
  case rel=>exact⟨x+1,_,v2,by go_num,by omega,by omega,HU.out.1,HU.out.2.1.1,HU.out.2.1.2,HU.out.2.2⟩
  case measure=>simp only[intOf];omega
 have i1:¬(x:Int)<=(a:Int)+(q:Int)*2+1:=by omega
 go_wp2
 go_end0
 exact⟨rfl,f2,hs,hu,ho⟩
end So
end Go.Proofs.YtgpmiliahonaoaaGreatDoor
