/- Facts on texts and trees on pages. -/
import Derived.Test.YtgpmiliahonaoaaGreatDoorKDqYc
set_option maxRecDepth 100000
set_option maxHeartbeats 8000000
set_option linter.unusedSimpArgs false
namespace Go.Proofs.YtgpmiliahonaoaaGreatDoor
open Go.RowKit Go.BigFrame
open UK (str aF nth Only Row ay)
namespace So
theorem rZ{W:World}{ao:Option Addr}{c c0:Nat}{l:List UInt64}(h:NR W ao c0 (az l))(hc:l.length<=c)(hl:l.length<=1000000)(hs:l.Pairwise λ x y=>x.toNat<=y.toNat) :
  Calls Tryz.prog 51 #[.slice ao l.length c] W λ e w'=>∃l',e= .returned (.slice ao l'.length c)/\nu l l'/\NR w' ao l'.length (az l')/\Kept (λ j=>j<W.heap.size/\¬aK ao j) W w':=by
 by_cases h2:l.length<2
 ·have h3:nu l l:=U4 (λ i j hij hj=>by omega)
  have HF:=zH (show nu l l/\NR W ao l.length (az l)from⟨h3,by
   rcases h with⟨a,b,d⟩|⟨g,a,r⟩
   ·exact .inl ⟨a,b,by cases l with|nil=>rfl|cons x l=>simp[az]at b⟩
   exact .inr ⟨g,a,(dC.ul r).row.ae (aO _) rfl |> λ r2=>by
    have e:(List.range l.length).map (λ j=>l.getD j 0)=l:=by
     apply List.ext_getElem
     ·simp
     intro i a b;simp[List.getD,b]
    rw[e]at r2;exact r2⟩⟩)
  have i2:(l.length:Int)<2:=by omega
  clear h hs h3 h2
  go_enter Tryz.func51,Tryz.ntmps51
  go_wp2;go_ret
  exact⟨l,rfl,HF.out.1,HF.out.2,Kept.refl _ _⟩
 rcases h with⟨_,b,_⟩|⟨g,rfl,r⟩
 ·exfalso;have:l.length=0:=by rw[<-dA l,b];rfl
  omega
 have hu:=dC.ul r;have P9:=ybi hs;have i2:¬(l.length:Int)<2:=by omega
 obtain⟨f,hf⟩:∃f,f=λ j=>l.getD j 0:=⟨_,rfl⟩;rw[<-hf]at hu P9;have UA:=zH hf;have HS:=zH P9;obtain⟨n,hn⟩:∃n,n=l.length:=⟨_,rfl⟩;have EE:=zH hn;rw[<-hn]at hc hl h2 hu i2 ⊢;replace HS:Hid (lh 0 n f):=zH (by rw[hn];exact HS.out);have HU:=zH hu;clear r hf hn hs hu P9
 go_enter Tryz.func51,Tryz.ntmps51
 go_wp2_with fail
 go_loopw [3] (λ kv wr=>∃k:Nat,kv= .int .i64 k/\1<=k/\k<=n/\Hid (dC wr g n f/\Only g W wr/\∀i j,i<j->j<k->(f i).toNat<(f j).toNat)) (λ kv _=>1000002-(intOf kv).toNat)
 case atStart=>exact⟨1,rfl,aO _,by omega,zH ⟨HU.out,Only.refl _ _,λ i j a b=>by omega⟩⟩
 obtain⟨k,rfl,hk1,hkn,HI⟩:=hrel;by_cases hlt:k<n
 ·obtain⟨k0,rfl⟩:∃k0,k=k0+1:=⟨k-1,by omega⟩;obtain⟨hu,ho,hup⟩:=HI.out;have q1:(k0:Int)+1<n:=by omega
  have e1:wrap64 ((k0:Int)+1-1)=(k0:Int):=by unfold wrap64;omega
  have e3:(k0:Int)<n:=by omega
  have c1:=λ m=>(hu.drewN m).cell (k0+1) hlt;have c2:=λ m=>(hu.drewN m).cell k0 (by omega);by_cases he:f (k0+1)=f k0
  ·have HC:Hid (Cp f f (k0+1) (k0+1+1)):=zH (Cp.start hk1 hup he);have HW:=zH (zA hu ho);rw[he]at c1;have hck:(k0:Int)+1<=c:=by omega
   have aae:¬(c=k0+1):=by omega
   have hnk:(k0:Int)+1<=n:=by omega
   clear hu ho hup HI
   go_wp2_with fail
   go_quiet (fail)
   go_wp2_with fail
   go_loopw [3,5] (λ kv rv wx=>∃(m r:Nat) (f':Nat->UInt64),kv= .int .i64 m/\rv= .int .i64 r/\1<=r/\k0+1+r<=n/\1<=m/\m<k0+1+r/\Hid (Cp f f' m (k0+1+r)/\dC wx g n f'/\Only g W wx)) (λ _ rv _=>1000002-(intOf rv).toNat)
   case atStart=>exact⟨k0+1,1,f,by go_num,rfl,aO _,by omega,hk1,by omega,zH ⟨HC.out,HW.out.1.drewN _,HW.out.2.drewN _⟩⟩
   clear HC HW c1 c2;obtain⟨m,r,f',rfl,rfl,hr1,hrn,hm1,hmr,HJ⟩:=hrel;by_cases hrl:k0+1+r<n
   ·obtain⟨r0,rfl⟩:∃r0,r=r0+1:=⟨r-1,by omega⟩;obtain⟨hC,hu,ho⟩:=HJ.out;have c1:=λ q=>(hu.drewN q).cell (k0+1+(r0+1)) hrl;have c2:=λ q=>(hu.drewN q).cell (k0+1+r0) (by omega);have x1:f' (k0+1+(r0+1))=f (k0+1+(r0+1)):=hC.rest _ (by omega);have x2:f' (k0+1+r0)=f (k0+1+r0):=hC.rest _ (by omega);rw[x1]at c1;rw[x2]at c2;have e1:wrap64 ((r0:Int)+1-1)=(r0:Int):=by unfold wrap64;omega
    have i1:(r0:Int)+1<((n-(k0+1):Nat):Int):=by omega
    have i2:(r0:Int)<((n-(k0+1):Nat):Int):=by omega
    by_cases he:f (k0+1+(r0+1))=f (k0+1+r0)
    ·have HN:=zH (zA (hC.same he) (zA hu ho));rw[he]at c1;clear hC hu ho HJ x1 x2 he
     go_wp2_with fail
     go_quiet (fail)
     go_wp2;go_roundw
     case rel=>exact⟨m,r0+1+1,f',rfl,by go_num,by omega,by omega,hm1,by omega,zH ⟨HN.out.1,HN.out.2.1.drewN _,HN.out.2.2.drewN _⟩⟩
     case measure=>simp only[intOf];omega
    have hb2:¬((f (k0+1+(r0+1))).toNat:Int)=((f (k0+1+r0)).toNat:Int):=λ h=>he (mJ.1 (by omega));have hb:(((f (k0+1+(r0+1))).toNat:Int)==((f (k0+1+r0)).toNat:Int))=false:=beq_eq_false_iff_ne.2 hb2;have Af:m<n:=by omega
    have PE:(m:Int)<n:=by omega
    have HN:=zH (zA (hC.other HS.out hrl he) (zA hu (zA ho x1)));clear hC hu ho HJ x1 x2 he
    go_wp2_with fail
    go_quiet (fail)
    obtain⟨hC,hu,ho,x1⟩:=HN.out;have d1:=(hu.drewN nq).cell (k0+1+(r0+1)) hrl;rw[x1]at d1;have d2:=(hu.drewN nq).cell m Af;have d3:=(hu.drewN nq).free m Af;have HU:=zH (zA ((hu.drewN nq).set Af (f (k0+1+(r0+1)))) ((ho.drewN nq).set m (.int .u64 ((f (k0+1+(r0+1))).toNat:Int))));clear hC hu ho x1;go_wp2;go_roundw
    case rel=>exact⟨m+1,r0+1+1,_,by go_num,by go_num,by omega,by omega,by omega,by omega,zH ⟨HN.out.1,HU.out.1,HU.out.2⟩⟩
    case measure=>simp only[intOf];omega
   obtain rfl:r=n-(k0+1):=by omega
   obtain⟨hC,hu,ho⟩:=HJ.out;have Af:m<n:=by omega
   have PE:(m:Int)<=n:=by omega
   have hmc:(m:Int)<=c:=by omega
   have aaf:¬(c=m):=by omega
   obtain⟨w',e2,hu2,ho2⟩:=xnv (P:=Tryz.prog) (c:=c-m) 88 77 0 Tryz.underlying88 Tryz.zeroValue77 hu Af;have e3:k0+1+(n-(k0+1))=n:=by omega
   rw[e3]at hC
   have HF:Hid (∃l',(.slice g m c:Value)= .slice g l'.length c/\nu l l'/\NR w' g l'.length (az l')/\Kept (λ j=>j<W.heap.size/\¬aK g j) W w'):=by
    have hF:=UA.out;have hN:=EE.out;subst hF;rw[hN]at hC;have o:=ho.trans ho2;refine zH ⟨_,?_,xww hC,.inr ⟨g,rfl,?_⟩,⟨o.os,o.tape,o.output,o.size,λ j hj=>o.block j hj.1 (λ e=>hj.2 (by rw[e];rfl))⟩⟩
    ·simp
    have hl:((List.range m).map f').length=m:=by simp
    have h3:dC w' g ((List.range m).map f').length f':=by rw[hl];exact hu2
    have:=h3.row;rw[hl]at this ⊢;exact this
   clear hC hu ho HJ hu2 ho2 e3;go_wp2;go_ret;obtain⟨l',a,z⟩:=HF.out;exact⟨l',congrArg Ending.returned a,z⟩
  have hlt2:(f k0).toNat<(f (k0+1)).toNat:=by
   have h1:=HS.out k0 (k0+1) (aY _) (by omega) hlt;have h3:(f k0).toNat≠(f (k0+1)).toNat:=λ e=>he (mJ.1 e.symm);omega
  have HN:Hid (∀q,dC (wr.drewN q) g n f/\Only g W (wr.drewN q)/\∀i j,i<j->j<k0+1+1->(f i).toNat<(f j).toNat):=zH (λ q=>⟨hu.drewN q,ho.drewN q,λ i j hij hj=>by
   by_cases e:j=k0+1
   ·subst e;by_cases e2:i=k0
    ·subst e2;exact hlt2
    have:=hup i k0 (by omega) (by omega);omega
   exact hup i j hij (by omega)⟩)
  have hb2:¬((f (k0+1)).toNat:Int)=((f k0).toNat:Int):=by omega
  have hb:(((f (k0+1)).toNat:Int)==((f k0).toNat:Int))=false:=beq_eq_false_iff_ne.2 hb2;clear hu ho hup HI hlt2 he
  go_wp2_with fail
  go_quiet (fail)
  go_wp2;go_roundw
  case rel=>exact⟨k0+1+1,by go_num,by omega,by omega,zH (HN.out _)⟩
  case measure=>simp only[intOf];omega
 obtain rfl:n=k:=by omega
 have HL:=UA.out;have qV:=EE.out
 have HF:Hid (nu l l/\NR wr g l.length (az l)/\Kept (λ j=>j<W.heap.size/\¬aK g j) W wr):=by
  obtain⟨hu,ho,hup⟩:=HI.out;subst HL;refine zH ⟨U4 (λ i j hij hj=>hup i j hij (by omega)),.inr ⟨g,rfl,?_⟩,⟨ho.os,ho.tape,ho.output,ho.size,λ j hj=>ho.block j hj.1 (λ e=>hj.2 (by rw[e];rfl))⟩⟩;rw[qV]at hu;have r2:=hu.row
  have e:(List.range l.length).map (λ j=>l.getD j 0)=l:=by
   apply List.ext_getElem
   ·simp
   intro i a b;simp[List.getD,b]
  rw[e]at r2;exact r2
 clear HI;go_wp2;go_ret;exact⟨l,by rw[qV];rfl,HF.out⟩
end So
open Go.RowKit Go.BigFrame
open UK (str aF nth Only Row ay w32)
open DP (Rc dF lg dU fC bX gF gI qG)
def yz(a b:Nat)(x:EM):Bool:=x.l.any λ q=>q.has a b
def eH(a b:Nat)(es:List EM):List UInt64:=(es.filter (yz a b)).map (·.k)
section
variable{a b:Nat}{es es1 es2:List EM}{X:List dF}{ls l':List UInt64}
theorem xtf{i:Nat}{x:EM}(hx:es[i]?=some x):eH a b (es.take (i+1))=if yz a b x then eH a b (es.take i)++[x.k] else eH a b (es.take i):=by
 have hi:=(dE.1 hx).1
 have e:es.take (i+1)=es.take i++[x]:=by
  rw[List.take_succ_eq_append_getElem hi];congr 2;exact aZ ((bL hi).symm.trans hx)
 unfold eH;rw[e,List.filter_append,dO];by_cases h:yz a b x=true<;>simp[h]
theorem UB(es:List EM):(eH a b es).length<=es.length:=by
 unfold eH;rw[df];exact List.length_filter_le ..
theorem UC{k:Nat}:(∃x∈eH a b es,x.toNat=k)↔∃y∈es.map iI,y.1=k/\(y.2.any λ q=>q.has a b)=true:=by
 unfold eH
 constructor
 ·rintro⟨x,hx,rfl⟩;obtain⟨y,hy,rfl⟩:=bQ.1 hx;obtain⟨h1,h2⟩:=List.mem_filter.1 hy;exact⟨iI y,bQ.2 ⟨y,h1,rfl⟩,rfl,h2⟩
 rintro⟨y,hy,rfl,h2⟩;obtain⟨z,hz,rfl⟩:=bQ.1 hy;exact⟨z.k,bQ.2 ⟨z,List.mem_filter.2 ⟨hz,h2⟩,rfl⟩,rfl⟩
theorem ych(hX:lg X)(h1:es1.map iI=gF (bX (a/16) (b/16)) X)(h2:es2.map iI=gF qG X)(hs:So.y9 (eH a b es1++eH a b es2) ls)(hc:So.nu ls l') :
  l'.map UInt64.toNat=(gI a b X).map (·.1):=by
 refine DP.xY hX (by unfold DP.Up;rw[List.pairwise_map];exact hc.up) (λ k=>?_);rw[<-h1,<-h2,<-UC,<-UC,bQ]
 constructor
 ·rintro⟨x,hx,rfl⟩;rcases dD.1 ((hs.mem x).1 ((hc.mem x).1 hx))with h|h
  ·exact .inl ⟨x,h,rfl⟩
  exact .inr ⟨x,h,rfl⟩
 rintro(⟨x,h,rfl⟩|⟨x,h,rfl⟩)
 ·exact⟨x,(hc.mem x).2 ((hs.mem x).2 (eF _ h)),rfl⟩
 exact⟨x,(hc.mem x).2 ((hs.mem x).2 (lI _ h)),rfl⟩
end
open UK (str aF nth Only Row ay)
open DP (Rc dF bf lg dU fC jH TH bO bX Rc.has)
theorem xq3(a b:Nat)(ha:a<100000)(hb:b<100000)(W:World) :
  Calls Tryz.prog 46 #[.int .i64 a,.int .i64 b] W λ e w'=>e= .returned (.int .u64 ((UInt64.ofNat (bX (a/16) (b/16))).toNat:Int))/\w'=W:=by
 have G5:=zH (Pe (a/16) (b/16) (by omega) (by omega) W);obtain⟨x,hx⟩:∃x,x=a/16:=⟨_,rfl⟩;obtain⟨y,hy⟩:∃y,y=b/16:=⟨_,rfl⟩;rw[<-hx,<-hy]at G5 ⊢;have t1:(a:Int).tdiv 16=(x:Int):=by rw[mM (by omega)];omega
 have t2:(b:Int).tdiv 16=(y:Int):=by rw[mM (by omega)];omega
 have t3:(a:Int)/16=(x:Int):=by omega
 have t4:(b:Int)/16=(y:Int):=by omega
 have i1:x<100000:=by omega
 have i2:y<100000:=by omega
 clear hx hy;obtain⟨KY,U2⟩:∃KY:Nat,KY=(UInt64.ofNat (bX x y)).toNat:=⟨_,rfl⟩;rw[<-U2]at G5 ⊢;clear U2
 go_enter Tryz.func46,Tryz.ntmps46
 go_wp2_with fail
 refine G5.out.mono ?_;rintro e w' ⟨rfl,rfl⟩;go_wp2;go_ret;exact⟨rfl,rfl⟩
theorem kH(q:Rc)(hq:q.ok)(a b:Nat)(ha:a<100000)(hb:b<100000)(W:World) :
  Calls Tryz.prog 14 #[.agg #[.int .i64 q.r,.int .i64 q.c,.int .i64 q.h,.int .i64 q.w],.int .i64 a,.int .i64 b] W λ e w'=>e= .returned (.bool (q.has a b))/\Below W W w':=by
 obtain⟨x1,x2,x3,x4⟩:=hq;obtain⟨w1,hw1⟩:∃w1,w1=W.alloc (.cells #[.int .i64 q.r,.int .i64 q.c,.int .i64 q.h,.int .i64 q.w] 23):=⟨_,rfl⟩;have hbx:ay w1 W #[.int .i64 q.r,.int .i64 q.c,.int .i64 q.h,.int .i64 q.w]:=hw1▸ay.new W _ _;have HB:Hid (Below W W w1):=hw1▸(aV _ _).alloc (aO _) _;obtain⟨c0,c1,c2,c3⟩:=Bu hbx;have x5:q.r<=100000:=by omega
 have x6:q.c<=100000:=by omega
 clear hbx x1 x2 x3 x4;obtain⟨v,hv⟩:∃v,v=q.has a b:=⟨_,rfl⟩;have HV:=zH hv;rw[<-hv];clear hv;unfold Rc.has at HV;by_cases h1:q.r<=a
 ·by_cases h2:a<q.r+q.h
  ·by_cases h3:q.c<=b
   ·have i1:(q.r:Int)<=a:=by omega
    have i2:(a:Int)-q.r<q.h:=by omega
    have i3:(q.c:Int)<=b:=by omega
    by_cases h4:b<q.c+q.w
    ·have i4:(b:Int)-q.c<q.w:=by omega
     have hV:v=true:=by rw[HV.out];exact decide_eq_true ⟨h1,h2,h3,h4⟩
     subst hV;clear h1 h2 h3 h4 HV
     go_enter Tryz.func14,Tryz.ntmps14
     go_wp2_with (simp only[<-hw1])
     all_goals (go_ret;exact⟨rfl,HB.out⟩)
    have i4:¬(b:Int)-q.c<q.w:=by omega
    have hV:v=false:=by rw[HV.out];exact decide_eq_false (λ h=>h4 h.2.2.2)
    subst hV;clear h1 h2 h3 h4 HV
    go_enter Tryz.func14,Tryz.ntmps14
    go_wp2_with (simp only[<-hw1])
    all_goals (go_ret;exact⟨rfl,HB.out⟩)
   have i1:(q.r:Int)<=a:=by omega
   have i2:(a:Int)-q.r<q.h:=by omega
   have i3:¬(q.c:Int)<=b:=by omega
   have hV:v=false:=by rw[HV.out];exact decide_eq_false (λ h=>h3 h.2.2.1)
   subst hV;clear h1 h2 h3 HV
   go_enter Tryz.func14,Tryz.ntmps14
   go_wp2_with (simp only[<-hw1])
   all_goals (go_ret;exact⟨rfl,HB.out⟩)
  have i1:(q.r:Int)<=a:=by omega
  have i2:¬(a:Int)-q.r<q.h:=by omega
  have hV:v=false:=by rw[HV.out];exact decide_eq_false (λ h=>h2 h.2.1)
  subst hV;clear h1 h2 HV
  go_enter Tryz.func14,Tryz.ntmps14
  go_wp2_with (simp only[<-hw1])
  all_goals (go_ret;exact⟨rfl,HB.out⟩)
 have i1:¬(q.r:Int)<=a:=by omega
 have hV:v=false:=by rw[HV.out];exact decide_eq_false (λ h=>h1 h.1)
 subst hV;clear h1 HV
 go_enter Tryz.func14,Tryz.ntmps14
 go_wp2_with (simp only[<-hw1])
 all_goals (go_ret;exact⟨rfl,HB.out⟩)
open DP (Rc)
theorem xnu(q:Rc)(hq:q.ok)(a b p:Nat)(ha:a<100000)(hb:b<100000)(W:World)(h0:W.cell? p=some (.int .i64 a))(h1:W.cell? (p,1)=some (.int .i64 b))(hp:p<W.heap.size) :
  Calls Tryz.prog 49 #[.agg #[.int .i64 q.r,.int .i64 q.c,.int .i64 q.h,.int .i64 q.w],.pointer p] W λ e w'=>e= .returned (.bool (q.has a b))/\Below W W w':=by
 obtain⟨w1,hw1⟩:∃w1,w1=W.alloc (.cells #[.int .i64 q.r,.int .i64 q.c,.int .i64 q.h,.int .i64 q.w] 23):=⟨_,rfl⟩;have hbx:ay w1 W #[.int .i64 q.r,.int .i64 q.c,.int .i64 q.h,.int .i64 q.w]:=hw1▸ay.new W _ _;have hbl:Below W W w1:=hw1▸(aV _ _).alloc (aO _) _;obtain⟨c0,c1,c2,c3⟩:=Bu hbx;have d0:w1.cell? p=some (.int .i64 a):=by rw[<-h0];exact gq (hbl.block p hp)
 have d1:w1.cell? (p,1)=some (.int .i64 b):=by rw[<-h1];exact gq (hbl.block p hp)
 have HH:=zH (kH q hq a b ha hb w1);have HB:=zH hbl;clear hbx hbl h0 h1 hq;subst hw1
 go_enter Tryz.func49,Tryz.ntmps49
 go_wp2_with fail
 refine HH.out.mono ?_;rintro e w' ⟨rfl,hb2⟩;have HC:=zH (HB.out.trans (hb2.mono HB.out.size));clear HH hb2;go_wp2;go_ret;exact⟨rfl,HC.out⟩
theorem xwv(k:UInt64)(W:World) :
  Calls Tryz.prog 52 #[.int .u64 k.toNat] W λ e w'=>e= .returned (.agg #[.int .i64 (k.toNat/4294967296:Nat),.int .i64 (k.toNat%4294967296:Nat)])/\Below W W w':=by
 have hk:k.toNat<18446744073709551616:=k.toNat_lt
 have ha:bits BinOp.and IntKind.u64 (k.toNat:Int) 4294967295=((k.toNat%4294967296:Nat):Int):=by
  have h1:=u64_and_nat k.toNat 4294967295 hk (by decide);have h2:k.toNat &&& 4294967295=k.toNat%4294967296:=Nat.and_two_pow_sub_one_eq_mod k.toNat 32;rw[h2]at h1;exact h1
 have hh:=UK.P8 k;have w1:wrap64 ((k.toNat/4294967296:Nat):Int)=((k.toNat/4294967296:Nat):Int):=by unfold wrap64;omega
 have w2:wrap64 ((k.toNat%4294967296:Nat):Int)=((k.toNat%4294967296:Nat):Int):=by unfold wrap64;omega
 have HX:=zH (zA ha (zA hh (zA w1 w2)));clear ha hh w1 w2 hk
 go_enter Tryz.func52,Tryz.ntmps52
 go_wp2;obtain⟨ha,hh,w1,w2⟩:=HX.out
 rw[ha,hh,w1,w2];refine bodyPost_ret (UK.U3 (p:=2) (ty:=25) rfl _ (ay.new W _ _) rfl Tryz.underlying25 rfl (by kernel_rfl)) rfl ?_;exact⟨rfl,(aV _ _).alloc (aO _) _⟩
theorem xq4{W:World}{ao:Option Addr}{c a b p:Nat}{l:List Rc}(hr:RX W ao c l)(hok:∀q∈l,q.ok)(hl:l.length<=700)(ha:a<100000)(hb:b<100000)(h0:W.cell? p=some (.int .i64 a))(h1:W.cell? (p,1)=some (.int .i64 b))(hp:p<W.heap.size) :
  Calls Tryz.prog 110 #[.slice ao l.length c,.func (.func 49) #[] #[.pointer p]] W λ e w'=>∃z:Int,e= .returned (.int .i64 z)/\(0<=z↔∃q∈l,q.has a b=true)/\Below W W w':=by
 have HH:=zH (zA hr (zA hok (zA h0 h1)));clear hr hok h0 h1
 go_enter Tryz.func110,Tryz.ntmps110
 go_wp2_with fail
 go_loopw [8] (λ v wr=>∃i:Nat,v= .int .i64 i/\i<=l.length/\Hid (∀q∈l.take i,q.has a b=false)/\Hid (Below W W wr)) (λ v _=>1000-(intOf v).toNat)
 case atStart=>exact⟨0,rfl,aY _,zH (λ q hq=>by cases hq),zH (aV _ _)⟩
 obtain⟨i,rfl,hi,HN,HB⟩:=hrel;by_cases hlt:i<l.length
 ·obtain⟨q,hq⟩:∃q,l[i]?=some q:=⟨_,bL hlt⟩;obtain⟨hr,hok,h0,h1⟩:=HH.out;have hr2:RX wr ao c l:=hr.ae HB.out.size (λ b hb=>HB.out.block b (hr.lt hb));obtain⟨rb,rfl,d0,d1,d2,d3⟩:=hr2.four hq;have q1:(i:Int)<l.length:=by omega
  have hqm:=eZ hq;have HC:=zH (xnu q (hok q hqm) a b p ha hb wr (by rw[<-h0];exact gq (HB.out.block p hp)) (by rw[<-h1];exact gq (HB.out.block p hp)) (bZ hp HB.out.size))
  have htk:l.take (i+1)=l.take i++[q]:=by
   rw[List.take_succ_eq_append_getElem hlt];congr 2;exact aZ ((bL hlt).symm.trans hq)
  have HQ:=zH (zA hqm htk);clear hr hok h0 h1 hr2 hq hqm htk
  go_wp2_with fail
  refine HC.out.mono ?_;rintro e w' ⟨rfl,hbl⟩;have HB2:=zH (HB.out.trans (hbl.mono HB.out.size));clear HC hbl
  cases hv:q.has a b with
  | true=>
   have HV:=zH hv;clear hv;go_wp2;go_ret;exact⟨i,rfl,⟨λ _=>⟨q,HQ.out.1,HV.out⟩,λ _=>by omega⟩,HB2.out⟩
  | false=>
   have HV:Hid (∀y∈l.take (i+1),y.has a b=false):=zH (λ y hy=>by
    rw[HQ.out.2]at hy;rcases dD.1 hy with hy|hy
    ·exact HN.out y hy
    rw[bz.1 hy];exact hv)
   clear hv;go_wp2;go_roundw
   case rel=>exact⟨i+1,by go_num,by omega,HV,HB2⟩
   case measure=>simp only[intOf];omega
 obtain rfl:i=l.length:=by omega
 go_wp2;go_ret
 refine⟨-1,rfl,⟨λ h=>by omega,λ ⟨q,hq,hv⟩=>?_⟩,HB.out⟩;have:=HN.out q (by rw[fH];exact hq);rw[this]at hv;cases hv
theorem xj5{W:World}{ao:Option Addr}{c a b p:Nat}{l:List Rc}(hr:RX W ao c l)(hok:∀q∈l,q.ok)(hl:l.length<=700)(ha:a<100000)(hb:b<100000)(h0:W.cell? p=some (.int .i64 a))(h1:W.cell? (p,1)=some (.int .i64 b))(hp:p<W.heap.size) :
  Calls Tryz.prog 48 #[.slice ao l.length c,.func (.func 49) #[] #[.pointer p]] W λ e w'=>e= .returned (.bool (l.any λ q=>q.has a b))/\Below W W w':=by
 have HI:=zH (xq4 hr hok hl ha hb h0 h1 hp);clear hr hok h0 h1;obtain⟨v,hv⟩:∃v,v=l.any λ q=>q.has a b:=⟨_,rfl⟩;rw[<-hv];have HV:=zH hv;clear hv
 go_enter Tryz.func48,Tryz.ntmps48
 go_wp2_with fail
 refine HI.out.mono ?_;rintro e w' ⟨z,rfl,hz,hbl⟩;have HB:=zH hbl
 have hv2:v=decide (0<=z):=by
  rw[HV.out];by_cases h:0<=z
  ·rw[decide_eq_true h];obtain⟨q,h1,h2⟩:=hz.1 h;exact List.any_eq_true.2 ⟨q,h1,h2⟩
  rw[decide_eq_false h,Bool.eq_false_iff];intro h3;obtain⟨q,h1,h2⟩:=List.any_eq_true.1 h3;exact h (hz.2 ⟨q,h1,h2⟩)
 clear hz hbl HI HV;subst hv2;go_wp2;go_ret;exact⟨rfl,HB.out⟩
theorem xth{W:World}{ao:Option Addr}{c:Nat}{l:List UInt64}(h:NR W ao c (az l))(hl:l.length<1000000)(v:UInt64) :
  ∃g' c' W',(Builtin.append_ #[88,88] 88 #[.slice ao l.length c,.slice W 1 1]).run Tryz.prog (W.alloc (.cells #[.int .u64 (v.toNat:Int)] 77))= .ok (.slice (some ⟨g',0,none⟩) (l.length+1) c') W'/\NR W' (some ⟨g',0,none⟩) c' (az (l++[v]))/\Only g' W W'/\(aK ao g'\/W.heap.size<=g'):=by
 obtain⟨g',c',W',h1,h2,h3,h4⟩:=CY h hl v;exact⟨g',c',W',h1,.inr ⟨g',rfl,h2⟩,h3,h4⟩
def uq(a b:Nat)(X:List dF)(bs:List UInt64)(i:Nat)(ks:List UInt64):Prop:=
 ∃ess:List (List EM),ess.length=i/\(∀(j:Nat) (es:List EM),ess[j]?=some es->∃kk,bs[j]?=some kk/\es.map iI=gF kk.toNat X)/\ks=ess.flatMap (eH a b)
theorem uq.step{a b:Nat}{X:List dF}{bs:List UInt64}{i:Nat}{ks:List UInt64}(h:uq a b X bs i ks){kk:UInt64}{es:List EM}(hk:bs[i]?=some kk)(he:es.map iI=gF kk.toNat X):uq a b X bs (i+1) (ks++eH a b es):=by
 obtain⟨ess,h1,h2,h3⟩:=h;refine⟨ess++[es],by rw[zl,h1];rfl,λ j es' hj=>?_,by rw[h3,List.flatMap_append];simp⟩;by_cases e:j<ess.length
 ·rw[bI e]at hj;exact h2 j es' hj
 rw[bP (by omega)]at hj
 have e0:j-ess.length=0:=by
  by_cases e1:j-ess.length=0
  ·exact e1
  have:=(dE.1 hj).1;simp only[dn,List.length_nil]at this;omega
 rw[e0]at hj;have e2:es=es':=by simpa using hj
 subst e2;exact⟨kk,by rw[show j=i by omega];exact hk,he⟩
theorem uq.two{a b:Nat}{X:List dF}{b1 b2:UInt64}{ks:List UInt64}(h:uq a b X [b1,b2] 2 ks):∃es1 es2,es1.map iI=gF b1.toNat X/\es2.map iI=gF b2.toNat X/\ks=eH a b es1++eH a b es2:=by
 obtain⟨ess,h1,h2,h3⟩:=h
 obtain⟨es1,es2,rfl⟩:∃es1 es2,ess=[es1,es2]:=by
  match ess,h1 with
  | [x,y],_=>exact⟨x,y,rfl⟩
 obtain⟨k1,e1,f1⟩:=h2 0 es1 rfl;obtain⟨k2,e2,f2⟩:=h2 1 es2 rfl;have UR:b1=k1:=by simpa using e1
 have e2':b2=k2:=by simpa using e2
 subst UR e2';exact⟨es1,es2,f1,f2,by rw[h3];simp⟩
section
variable{E:Nat->Prop}{W W':World}{P D Dp T1 T2 H k q r1 r2 root n a b rc:Nat}{A:AP}{ex:List Nat}{Ec:Nat->List UInt8}{X:List dF}{F:Nat->List UInt8}
theorem xny(h:DZ E W P D Dp T1 T2 H k A q r1 r2 root)(di:DI A ex Ec r1 r2 root F (gX X))(hX:oq X)(ha:a<100000)(hb:b<100000)(hk:k+20000<900000000) :
  Calls Tryz.prog 13 #[.pointer Dp,.agg #[.int .i64 a,.int .i64 b]] W λ e w'=>∃ao c,e= .returned (.tuple #[.slice ao (gI a b X).length c,.int .i64 0])/\CX w' ao c ((gI a b X).map λ x=>l5 x.1)/\(∀j,aK ao j->W.heap.size<=j)/\PZ (λ j=>E j\/aK ao j) w' P D A (k+20000)/\Kept E W w':=by
 obtain⟨w0,hw0⟩:∃w0,w0=W.alloc (.cells #[.int .i64 a,.int .i64 b] 25):=⟨_,rfl⟩;have hbl:Below W W w0:=hw0▸(aV _ _).alloc (aO _) _;have hbx:ay w0 W #[.int .i64 a,.int .i64 b]:=hw0▸ay.new W _ _;have d0:=hbx.c0;have d1:=hbx.c1;obtain⟨bk,hbk⟩:∃bk:UInt64,bk=UInt64.ofNat (bX (a/16) (b/16)):=⟨_,rfl⟩;have wh:bk.toNat=bX (a/16) (b/16):=by rw[hbk,UInt64.toNat_ofNat'];unfold bX;omega
 obtain⟨wk,hwk⟩:∃wk:UInt64,wk=UInt64.ofNat qG:=⟨_,rfl⟩;have su:wk.toNat=qG:=by rw[hwk];rfl
 have IL:Hid (∀w,Calls Tryz.prog 46 #[.int .i64 a,.int .i64 b] w λ e w'=>e= .returned (.int .u64 (bk.toNat:Int))/\w'=w):=zH (λ w=>by rw[hbk];exact xq3 a b ha hb w);have HH:=zH (zA h (zA di (zA hX (zA hbl (zA hbx (zA wh su))))));clear h di hX hbl hbx hbk wh hwk su;subst hw0
 go_enter Tryz.func13,Tryz.ntmps13
 go_wp2_with fail
 refine(IL.out _).mono ?_;rintro e w5 ⟨rfl,rfl⟩;clear IL
 go_wp2_with fail
 obtain⟨bs,hbs⟩:∃bs:List UInt64,bs=[bk,wk]:=⟨_,rfl⟩;obtain⟨wl,hwl⟩:∃wl,wl=(W.alloc (.cells #[.int .i64 a,.int .i64 b] 25)).alloc (.cells #[.int .u64 (bk.toNat:Int),.int .u64 18446744073709551615] 77):=⟨_,rfl⟩
 have HL:Hid (Below W W wl/\wl.heap.size=W.heap.size+2/\wl.cell? W.heap.size=some (.int .i64 a)/\wl.cell? (W.heap.size,1)=some (.int .i64 b)/\∀(i:Nat) (kk:UInt64),bs[i]?=some kk->wl.cell? ⟨W.heap.size+1,i,none⟩=some (.int .u64 (kk.toNat:Int))):=by
  obtain⟨_,_,_,hbl,hbx,_,su⟩:=HH.out;obtain⟨w0,hw0⟩:∃w0,w0=W.alloc (.cells #[.int .i64 a,.int .i64 b] 25):=⟨_,rfl⟩;have hs0:w0.heap.size=W.heap.size+1:=by rw[hw0];simp
  rw[<-hw0]at hwl hbl hbx;have hb2:Below w0 w0 wl:=hwl▸(aV _ _).alloc (aO _) _;have hx2:ay wl w0 #[.int .u64 (bk.toNat:Int),.int .u64 18446744073709551615]:=hwl▸ay.new w0 _ _;rw[hs0]at hx2;have yg:=hbx.next hb2;refine zH ⟨hbl.trans (hb2.mono hbl.size),by rw[hwl];simp[hs0],yg.cell 0 _ rfl,yg.cell 1 _ rfl,λ i kk hk=>?_⟩;rw[hbs]at hk
  match i,hk with
  | 0,hk=>
   have:bk=kk:=by simpa using hk
   rw[<-this];exact hx2.cell 0 _ rfl
  | 1,hk=>
   have:wk=kk:=by simpa using hk
   rw[<-this,show((wk.toNat:Nat):Int)=18446744073709551615 by rw[su];rfl];exact hx2.cell 1 _ rfl
  | n+2,hk=>simp at hk
 have HB:=zH hbs;have yG:=zH hwl;clear hbs hwl d0 d1
 go_loopw [6,25] (λ kv iv wr=>∃(i:Nat) (ao:Option Addr) (c:Nat) (ks:List UInt64),kv= .slice ao ks.length c/\iv= .int .i64 i/\i<=2/\ks.length<=40*i/\Hid (∃E':Nat->Prop,DZ E' wr P D Dp T1 T2 H (k+6000*i) A q r1 r2 root/\(∀j,E j->E' j)/\E' W.heap.size/\E' (W.heap.size+1)/\(∀j,aK ao j->E' j/\W.heap.size+2<=j)/\Kept (λ j=>E j\/j=W.heap.size\/j=W.heap.size+1) wl wr/\NR wr ao c (az ks)/\uq a b X bs i ks)) (λ _ iv _=>10-(intOf iv).toNat)
 case atStart=>
  refine⟨0,none,0,[],rfl,rfl,aY _,aY _,zH ⟨λ j=>E j\/j=W.heap.size\/j=W.heap.size+1,?_,λ j hj=>.inl hj,.inr (.inl rfl),.inr (.inr rfl),λ j hj=>(by cases hj),?_,.inl ⟨rfl,rfl,rfl⟩,⟨[],rfl,λ j es hj=>(by cases hj),rfl⟩⟩⟩
  ·rw[<-yG.out];refine HH.out.1.wide HL.out.1 (λ j hj=>?_) (λ j hj=>.inl hj);have:=HL.out.2.1;rcases hj with hj|hj|hj
   ·exact .inl hj
   ·exact .inr ⟨by omega,by omega⟩
   exact .inr ⟨by omega,by omega⟩
  rw[<-yG.out];exact Kept.refl _ _
 obtain⟨i,ao,c,ks,rfl,rfl,hi,hks,HI⟩:=hrel;by_cases hlt:i<2
 ·obtain⟨E',hz,nT,hE0,hE1,hao,hkp,hnr,hga⟩:=HI.out;obtain⟨uu,hszW,EJ,dd1,EK⟩:=HL.out;obtain⟨h,di,hX,_,_,wh,su⟩:=HH.out;obtain⟨kk,hkk⟩:∃kk,bs[i]?=some kk:=⟨_,bL (by rw[HB.out];exact hlt)⟩;have cd:wr.cell? ⟨W.heap.size+1,i,none⟩=some (.int .u64 (kk.toNat:Int)):=by rw[<-EK i kk hkk];exact gq (hkp.block _ (.inr (.inr rfl)))
  have d3:=hz.bd.c3;have q1:(i:Int)<2:=by omega
  obtain⟨L,hL⟩:∃L,L=gF kk.toNat X:=⟨_,rfl⟩;have hgl:=ED hX kk.toNat;obtain⟨BD,hLn,_⟩:=Mw hX kk.toNat;have xm:=zH (xw2 hz di kk (by show(fC (gF kk.toNat X)).length<=4000;omega) (by omega));rw[show gX X kk.toNat=fC L by rw[hL];rfl]at xm;rw[<-hL]at BD hLn hgl;have IW:=zH (λ w=>U1 w L BD (by omega));have HJ:=zH (zA hz (zA nT (zA hE0 (zA hE1 (zA hao (zA hkp (zA hnr (zA hga (zA hkk (zA hL (zA BD hLn)))))))))));clear hz nT hE0 hE1 hao hkp hnr hga hkk hL BD hLn h di hX wh su uu hszW EJ dd1 EK HI
  go_wp2_with fail
  refine xm.out.mono ?_;rintro e wa ⟨n,rfl,pa,ka⟩;have M4:=zH (zA pa ka);clear pa ka xm
  go_wp2_with fail
  refine(IW.out wa).mono ?_;rintro e wb ⟨eo,ec,es,rfl,hes,hE,hbb⟩;have HE:=zH (zA hes (zA hE hbb))
  have hel:es.length<=40:=by
   have h1:=HJ.out.2.2.2.2.2.2.2.2.2.2.2;rw[<-hes,df]at h1;exact h1
  have HQ:Hid (wb.cell? W.heap.size=some (.int .i64 a)/\wb.cell? (W.heap.size,1)=some (.int .i64 b)/\W.heap.size<wb.heap.size/\¬aK ao W.heap.size/\∀g,aK ao g->g<wa.heap.size):=by
   obtain⟨pa,ka⟩:=M4.out;obtain⟨hz,nT,hE0,hE1,hao,hkp,hnr,_⟩:=HJ.out;obtain⟨uu,hszW,EJ,dd1,EK⟩:=HL.out;have h1:=hkp.block W (.inr (.inl rfl));have h2:=ka.block W hE0;have hlt:W.heap.size<wl.heap.size:=by omega
   have h3:=hbb.block W (bZ hlt (aP hkp.size ka.size));refine zH ⟨?_,?_,bZ hlt (aP hkp.size (aP ka.size hbb.size)),λ e=>by have:=(hao _ e).2;omega,λ g hg=>bZ (hnr.lt hg) ka.size⟩
   ·rw[<-EJ];exact gq (h3.trans (h2.trans h1))
   rw[<-dd1];exact gq (h3.trans (h2.trans h1))
  clear hes hE hbb IW
  go_wp2_with fail
  go_loopw [6,53] (λ kv jv wr2=>∃(j:Nat) (lS:Option Addr) (c2:Nat),kv= .slice lS (ks++eH a b (es.take j)).length c2/\jv= .int .i64 j/\j<=es.length/\Hid (NR wr2 lS c2 (az (ks++eH a b (es.take j)))/\(∀g,aK lS g->aK ao g\/wb.heap.size<=g)/\Kept (λ g=>g<wb.heap.size/\¬aK ao g) wb wr2)) (λ _ jv _=>100-(intOf jv).toNat)
  case atStart=>
   have e0:ks++eH a b (es.take 0)=ks:=by rw[jW];exact jL _
   refine⟨0,ao,c,by rw[e0],rfl,aY _,zH ⟨?_,λ g hg=>.inl hg,Kept.refl _ _⟩⟩;rw[e0];obtain⟨_,_,hbb⟩:=HE.out;obtain⟨pa,ka⟩:=M4.out;obtain⟨hz,nT,hE0,hE1,hao,hkp,hnr,_⟩:=HJ.out;exact hnr.ae (aP ka.size hbb.size) (λ g hg=>(hbb.block g (bZ (hnr.lt hg) ka.size)).trans (ka.block g (hao g hg).1))
  obtain⟨j,lS,c2,rfl,rfl,hj,HK⟩:=hrel;by_cases hjl:j<es.length
  ·obtain⟨x,hx⟩:∃x,es[j]?=some x:=⟨_,bL hjl⟩;obtain⟨hes,hE,hbb⟩:=HE.out;obtain⟨EJ,dd1,M5,PK,EL⟩:=HQ.out;obtain⟨hn2,ha2,hk2⟩:=HK.out;have hE2:EX wa wr eo ec es:=hE.kept (hk2.mono (λ g hg=>⟨hg.1,λ e=>by have:=EL g e;omega⟩));obtain⟨g,rfl,c0,c1⟩:=hE2.two hx;have q2:(j:Int)<es.length:=by omega
   have hxm:=eZ hx;have hgood:=HJ.out.2.2.2.2.2.2.2.2.2.2.1.good (iI x) (by rw[<-hes];exact bQ.2 ⟨x,hxm,rfl⟩);obtain⟨wx,hwx⟩:∃wx,wx=wr.alloc (.cells #[.int .u64 (x.k.toNat:Int),.slice x.ro x.l.length x.rc] 104):=⟨_,rfl⟩;have hbx:Below wr wr wx:=hwx▸(aV _ _).alloc (aO _) _;have hxb:ay wx wr #[.int .u64 (x.k.toNat:Int),.slice x.ro x.l.length x.rc]:=hwx▸ay.new wr _ _;have b1:=hxb.c1;have PL:W.heap.size<wr.heap.size:=bZ M5 hk2.size;have hblk:wx.heap[W.heap.size]?=wb.heap[W.heap.size]?:=(hbx.block _ PL).trans (hk2.block _ ⟨M5,PK⟩);have M6:=zH (xj5 (W:=wx) (p:=W.heap.size) (a:=a) (b:=b) ((hE2.sub x hxm).ae hbx.size (λ g hg=>hbx.block g ((hE2.sub x hxm).lt hg))) hgood.1 hgood.2 ha hb (by rw[<-EJ];exact gq hblk) (by rw[<-dd1];exact gq hblk) (bZ PL hbx.size));rw[show(x.l.any λ q=>q.has a b)=yz a b x from rfl]at M6;have HM:=zH (zA hn2 (zA ha2 (zA hk2 (zA hbx hxb))));have hst:=xtf (a:=a) (b:=b) hx;have HST:=zH hst
   have hkl:(eH a b (es.take j)).length<=40:=by
    have:=UB (a:=a) (b:=b) (es.take j);rw[zt]at this;omega
   clear hes hE hbb EJ dd1 M5 PK EL hn2 ha2 hk2 hE2 hxm hgood hbx hxb PL hblk hst HK hx;subst hwx
   go_wp2_with fail
   refine M6.out.mono ?_;rintro e w4 ⟨rfl,hb4⟩;obtain⟨hn2,ha2,hk2,hbx,hxb⟩:=HM.out
   cases hv:yz a b x with
   | false=>
    have qV:Hid (NR w4 lS c2 (az (ks++eH a b (es.take (j+1))))/\(∀g,aK lS g->aK ao g\/wb.heap.size<=g)/\Kept (λ g=>g<wb.heap.size/\¬aK ao g) wb w4):=by
     have e:=HST.out;rw[hv]at e;have hb5:Below wr wr w4:=hbx.trans (hb4.mono hbx.size);refine zH ⟨?_,ha2,⟨hb5.os.trans hk2.os,hb5.tape.trans hk2.tape,hb5.output.trans hk2.output,aP hk2.size hb5.size,λ g hg=>(hb5.block g (bZ hg.1 hk2.size)).trans (hk2.block g hg)⟩⟩;rw[e];exact hn2.ae hb5.size (λ g hg=>hb5.block g (hn2.lt hg))
    have e2:eH a b (es.take (j+1))=eH a b (es.take j):=by
     have e:=HST.out;rw[hv]at e;exact e
    clear hn2 ha2 hk2 hbx hxb hb4 HM M6 HST hv;go_wp2;go_roundw
    case rel=>exact⟨j+1,lS,c2,by rw[e2,zl],by go_num,by omega,qV⟩
    case measure=>simp only[intOf];omega
   | true=>
    have e2:ks++eH a b (es.take (j+1))=(ks++eH a b (es.take j))++[x.k]:=by
     have e:=HST.out;rw[hv]at e;rw[e,cO];rfl
    have hb5:Below wr wr w4:=hbx.trans (hb4.mono hbx.size);have b0:=(hxb.next hb4).c0;have tK:NR w4 lS c2 (az (ks++eH a b (es.take j))):=hn2.ae hb5.size (λ g hg=>hb5.block g (hn2.lt hg));obtain⟨g',c',w5,ea,r5,o5,hg5⟩:=xth tK (by rw[zl];omega) x.k
    have qV:Hid (NR w5 g' c' (az (ks++eH a b (es.take (j+1))))/\(∀g,aK g' g->aK ao g\/wb.heap.size<=g)/\Kept (λ g=>g<wb.heap.size/\¬aK ao g) wb w5):=by
     have hsz:wb.heap.size<=w4.heap.size:=aP hk2.size hb5.size
     have hgg:aK ao g'\/wb.heap.size<=g':=by
      rcases hg5 with h|h
      ·exact ha2 g' h
      exact .inr (aP hsz h)
     refine zH ⟨by rw[e2];exact r5,λ q hq=>by rw[gz hq];exact hgg,⟨o5.os.trans (hb5.os.trans hk2.os),o5.tape.trans (hb5.tape.trans hk2.tape),o5.output.trans (hb5.output.trans hk2.output),aP hsz o5.size,λ q hq=>(o5.block q (bZ hq.1 hsz) (λ e=>?_)).trans ((hb5.block q (bZ hq.1 hk2.size)).trans (hk2.block q hq))⟩⟩;subst e;rcases hgg with h|h
     ·exact hq.2 h
     exact absurd hq.1 (by omega)
    have e3:(ks++eH a b (es.take (j+1))).length=ks.length+(eH a b (es.take j)).length+1:=by
     rw[e2,zl,zl];rfl
    rw[zl]at ea;clear hn2 ha2 hk2 hbx hxb hb4 HM M6 HST hv tK r5 o5 hg5 hb5 e2
    go_wp2_with (at_builtin;refine UK.lH ea rfl rfl rfl rfl rfl ?_)
    go_wp2;go_roundw
    case rel=>exact⟨j+1,some ⟨g',0,none⟩,c',by rw[e3],by go_num,by omega,qV⟩
    case measure=>simp only[intOf];omega
  obtain rfl:j=es.length:=by omega
  have HN3:Hid (∃Jl:Nat->Prop,DZ Jl wr P D Dp T1 T2 H (k+6000*(i+1)) A q r1 r2 root/\(∀j,E j->Jl j)/\Jl W.heap.size/\Jl (W.heap.size+1)/\(∀j,aK lS j->Jl j/\W.heap.size+2<=j)/\Kept (λ j=>E j\/j=W.heap.size\/j=W.heap.size+1) wl wr/\NR wr lS c2 (az (ks++eH a b es))/\uq a b X bs (i+1) (ks++eH a b es)):=by
   obtain⟨hes,hE,hbb⟩:=HE.out;obtain⟨hn2,ha2,hk2⟩:=HK.out;obtain⟨pa,ka⟩:=M4.out;obtain⟨hz,nT,hE0,hE1,hao,hkp,hnr,hga,hkk,hL,_⟩:=HJ.out;obtain⟨EJ,dd1,M5,PK,EL⟩:=HQ.out;obtain⟨uu,hszW,_,_,_⟩:=HL.out;obtain⟨h,di,hX,_⟩:=HH.out;rw[fH]at hn2;have hout:∀j,j<wa.heap.size->¬aK ao j->wr.heap[j]?=wa.heap[j]?:=λ j hj hn=>(hk2.block j ⟨bZ hj hbb.size,hn⟩).trans (hbb.block j hj)
   have pK:∀j,(E j\/j=W.heap.size\/j=W.heap.size+1)->¬aK ao j/\j<wa.heap.size:=λ j hj=>by
    rcases hj with hj|hj
    ·have h1:=h.pz.there j hj;exact⟨λ e=>by have:=(hao j e).2;omega,by have:=hkp.size;have:=ka.size;have:=uu.size;omega⟩
    exact⟨λ e=>by have:=(hao j e).2;omega,by have:=hkp.size;have:=ka.size;omega⟩
   have Jm:∀j,(E j\/j=W.heap.size\/j=W.heap.size+1)->E' j:=λ j hj=>by
    rcases hj with hj|rfl|rfl
    ·exact nT j hj
    ·exact hE0
    exact hE1
   have hza:=hz.of pa ka;have Jn:Kept (λ j=>E j\/j=W.heap.size\/j=W.heap.size+1) wa wr:=⟨hk2.os.trans hbb.os,hk2.tape.trans hbb.tape,hk2.output.trans hbb.output,aP hbb.size hk2.size,λ j hj=>hout j (pK j hj).2 (pK j hj).1⟩
   have htab:¬aK ao 0 :=λ e=>by
    have h1:=(hao _ e).2;have h2:=h.pz.tab.lt;omega
   have hpz:=hza.pz.over (W':=wr) (R:=λ j=>aK ao j) (λ j hj=>(hao j hj).1) htab (aP hbb.size hk2.size) hout (T:=λ j=>(E j\/j=W.heap.size\/j=W.heap.size+1)\/aK lS j) (λ j hj=>by
    rcases hj with hj|hj
    ·exact .inl (Jm j hj)
    rcases ha2 j hj with h1|h1
    ·exact .inl (hao j h1).1
    exact .inr ⟨aP hbb.size h1,hn2.lt hj⟩)
   refine zH ⟨_,⟨hpz.up (by omega),hza.bd.ae (Jn.block _ (.inl h.md)),.inl (.inl h.md),hza.b1.ae (Jn.block _ (.inl h.m1)),.inl (.inl h.m1),hza.b2.ae (Jn.block _ (.inl h.m2)),.inl (.inl h.m2),hza.bh.ae (Jn.block _ (.inl h.mh)),.inl (.inl h.mh)⟩,λ j hj=>.inl (.inl hj),.inl (.inr (.inl rfl)),.inl (.inr (.inr rfl)),λ j hj=>⟨.inr hj,?_⟩,hkp.trans ((ka.mono Jm).trans Jn),hn2,hga.step hkk (by rw[hes,hL])⟩;rcases ha2 j hj with h1|h1
   ·exact(hao j h1).2
   have:=hkp.size;have:=ka.size;have:=hbb.size;omega
  have hl3:(ks++eH a b es).length<=40*(i+1):=by
   have:=UB (a:=a) (b:=b) es;rw[zl];omega
  have e3:(ks++eH a b (es.take es.length)).length=(ks++eH a b es).length:=by rw[fH]
  rw[e3];clear e3 HK HE M4 HJ HQ;go_wp2;go_roundw
  case rel=>exact⟨i+1,lS,c2,_,rfl,by go_num,by omega,hl3,HN3⟩
  case measure=>simp only[intOf];omega
 obtain rfl:i=2:=by omega
 obtain⟨wo,hwo⟩:∃wo,wo=wr:=⟨_,rfl⟩;subst hwo;obtain⟨E',hz,nT,hE0,hE1,hao,hkp,hnr,hga⟩:=HI.out;have M7:=zH (So.rW hnr (by omega))
 have hcl:ks.length<=c:=by
  rcases hnr with⟨_,hv,rfl⟩|⟨g,_,r⟩
  ·have:=congrArg List.length hv;rw[dA]at this;simp only[List.length_nil]at this;omega
  have:=r.le;rw[dA]at this;exact this
 have HJ:=zH (zA hz (zA nT (zA hao (zA hkp (zA hga hnr)))));clear hz nT hE0 hE1 hao hkp hnr hga HI
 go_wp2_with fail
 refine M7.out.mono ?_;rintro e w2 ⟨rfl,ls,hso,hr2,hk2⟩;have PN:=So.rZ (c:=c) hr2 (by rw[hso.len];exact hcl) (by rw[hso.len];omega) hso.up;rw[hso.len]at PN;have UT:=zH PN;have HS2:=zH (zA hso hk2);clear hso hr2 hk2 M7 PN
 go_wp2_with fail
 refine UT.out.mono ?_;rintro e wc ⟨l2,rfl,hco,hr3,hk3⟩
 have hl2:l2.length<=80:=by
  have h1:=hco.len;have h2:=HS2.out.1.len;omega
 have qY:=zH (zA hco (zA hr3 hk3));clear hco hr3 hk3 UT
 go_wp2_with fail
 go_loopw [15,73] (λ ov jv wr2=>∃(m:Nat) (bo:Option Addr) (bc:Nat),ov= .slice bo m bc/\jv= .int .i64 m/\m<=l2.length/\Hid (CX wr2 bo bc ((l2.take m).map λ x=>l5 x.toNat)/\(∀g,aK bo g->wc.heap.size<=g)/\Below wc wc wr2)) (λ _ jv _=>100-(intOf jv).toNat)
 case atStart=>exact⟨0,none,0,rfl,rfl,aY _,zH ⟨.inl ⟨rfl,rfl,rfl⟩,λ g hg=>(by cases hg),aV _ _⟩⟩
 obtain⟨m,bo,bc,rfl,rfl,hm,HK⟩:=hrel;by_cases qI:m<l2.length
 ·obtain⟨kk,hkk⟩:∃kk,l2[m]?=some kk:=⟨_,bL qI⟩;obtain⟨hcx,hbn,hbw⟩:=HK.out;obtain⟨hco,hr3,hk3⟩:=qY.out;obtain⟨g,rfl,cd⟩:=NR.PG (hr3.ae hbw.size (λ g hg=>hbw.block g (hr3.lt hg))) hkk;have q1:(m:Int)<l2.length:=by omega
  have Df:l2[m]=kk:=aZ ((bL qI).symm.trans hkk)
  have htk:(l2.take (m+1)).map (λ x=>l5 x.toNat)=(l2.take m).map (λ x=>l5 x.toNat)++[l5 kk.toNat]:=by
   rw[List.take_succ_eq_append_getElem qI,Df,dO];rfl
  have hpo:=xwv kk wr;obtain⟨x1,hx1⟩:∃x1,x1=kk.toNat/4294967296:=⟨_,rfl⟩;obtain⟨x2,hx2⟩:∃x2,x2=kk.toNat%4294967296:=⟨_,rfl⟩;rw[<-hx1,<-hx2]at hpo;have UU:=zH hpo;rw[show l5 kk.toNat=(x1,x2) by rw[hx1,hx2];rfl]at htk;have HM:=zH (zA hcx (zA hbn (zA hbw htk)));clear hcx hbn hbw hco hr3 hk3 hkk Df htk HK hpo hx1 hx2
  go_wp2_with fail
  refine UU.out.mono ?_;rintro e w4 ⟨rfl,hb4⟩;obtain⟨hcx,hbn,hbw,htk⟩:=HM.out;have hln:((l2.take m).map λ x=>l5 x.toNat).length=m:=by rw[df,zt];omega
  have Jo:CX w4 bo bc ((l2.take m).map λ x=>l5 x.toNat):=hcx.ae hb4.size (λ g hg=>hb4.block g (hcx.lt hg));obtain⟨g',c',w5,ea,r5,hg5,o5⟩:=Jo.push (by rw[hln];omega) (x1,x2);rw[hln]at ea;have hb5:Below wc wc w4:=hbw.trans (hb4.mono hbw.size)
  have hgn:wc.heap.size<=g':=by
   rcases hg5 with h|h
   ·exact hbn g' h
   exact aP hb5.size h
  have qV:Hid (CX w5 g' c' ((l2.take (m+1)).map λ x=>l5 x.toNat)/\(∀g,aK g' g->wc.heap.size<=g)/\Below wc wc w5):=zH ⟨by rw[htk];exact r5,λ q hq=>by rw[gz hq];exact hgn,hb5.trans (o5.below hb5.size hgn)⟩;clear hcx hbn hbw htk hln Jo r5 hg5 o5 hb5 hgn hb4 HM UU
  go_wp2_with (at_builtin;refine UK.lH ea rfl rfl rfl rfl rfl ?_)
  go_wp2;go_roundw
  case rel=>exact⟨m+1,some ⟨g',0,none⟩,c',by go_num,by go_num,by omega,qV⟩
  case measure=>simp only[intOf];omega
 obtain rfl:m=l2.length:=by omega
 go_wp2;go_ret2
 obtain⟨hcx,hbn,hbw⟩:=HK.out;obtain⟨hco,hr3,hk3⟩:=qY.out;obtain⟨hso,hk2⟩:=HS2.out;obtain⟨hz,nT,hao,hkp,hga,hnr⟩:=HJ.out;obtain⟨uu,hszW,_,_,_⟩:=HL.out;obtain⟨h,di,hX,aag,_,wh,su⟩:=HH.out;rw[HB.out]at hga;obtain⟨es1,es2,e1,e2,e3⟩:=hga.two;rw[wh]at e1;rw[su]at e2;have has:=ych hX.ok.up e1 e2 (e3▸hso) hco;rw[fH]at hcx
 have EN:l2.map (λ x=>l5 x.toNat)=(gI a b X).map (λ x=>l5 x.1):=by
  have:=congrArg (List.map l5) has;rw[List.map_map,List.map_map]at this;exact this
 have aD:l2.length=(gI a b X).length:=by
  have:=congrArg List.length has;rw[df,df]at this;exact this
 rw[EN]at hcx;have hkb:∀j,j<wo.heap.size->¬aK ao j->wr.heap[j]?=wo.heap[j]?:=λ j hj hn=>(hbw.block j (bZ hj (aP hk2.size hk3.size))).trans ((hk3.block j ⟨bZ hj hk2.size,hn⟩).trans (hk2.block j ⟨hj,hn⟩));have Jp:wo.heap.size<=wr.heap.size:=aP hk2.size (aP hk3.size hbw.size)
 have pK:∀j,E j->¬aK ao j/\j<wo.heap.size:=λ j hj=>by
  have h1:=h.pz.there j hj;exact⟨λ e=>by have:=(hao j e).2;omega,by have:=hkp.size;have:=uu.size;omega⟩
 have htab:¬aK ao 0 :=λ e=>by
  have h1:=(hao _ e).2;have h2:=h.pz.tab.lt;omega
 have hpz:=hz.pz.over (W':=wr) (R:=λ j=>aK ao j) (λ j hj=>(hao j hj).1) htab Jp hkb (T:=λ j=>E j\/aK bo j) (λ j hj=>by
  rcases hj with hj|hj
  ·exact .inl (nT j hj)
  exact .inr ⟨aP (aP hk2.size hk3.size) (hbn j hj),hcx.lt hj⟩)
 have kE:Kept E wo wr:=⟨hbw.os.trans (hk3.os.trans hk2.os),hbw.tape.trans (hk3.tape.trans hk2.tape),hbw.output.trans (hk3.output.trans hk2.output),Jp,λ j hj=>hkb j (pK j hj).2 (pK j hj).1⟩;have kW:Kept E W wl:=h.pz.kept uu;refine⟨bo,bc,by rw[aD];rfl,hcx,λ j hj=>?_,hpz.up (by omega),kW.trans ((hkp.mono (λ j hj=>.inl hj)).trans kE)⟩;have h1:=hbn j hj;have h2:=hkp.size;have h3:=hk2.size;have h4:=hk3.size;omega
end
open Go.RowKit
open SR (aM aW total)
open SL (hole add trim room live)
open Go.BigFrame
section
variable{Fo:Nat->Prop}{Co:Nat->List UInt8}{E F:Nat->Prop}{W W':World}{P D k fb db cap pg root H:Nat}{A B:AP}{s:List UInt8}
theorem xxb(h:PZ E W P D A k)(hk:k+2<900000000)(hf:¬A.Full) :
  Calls Tryz.prog 87 #[.pointer P] W λ e w'=>∃T,e= .returned (.tuple #[.pointer (some ⟨T,0,none⟩),.int .i64 0])/\ay w' T (qm P A.next)/\W.heap.size<=T/\PZ (λ j=>E j\/j=T) w' P D A.take (k+2)/\Kept E W w':=by
 have HP:=zH (GA h hk hf);clear h
 go_enter_defers Tryz.func87,Tryz.ntmps87
 go_wp2_with fail
 refine HP.out.mono ?_;rintro e w1 ⟨fb,db,cap,rfl,p1,k1⟩;have HG:=zH (GD p1);have H1:=zH (zA p1 k1);clear HP p1 k1
 go_wp2_with fail
 refine HG.out.mono ?_;rintro e w2 ⟨rfl,rfl⟩;obtain⟨p1,k1⟩:=H1.out;have ba:Below w2 w2 (w2.alloc (.cells #[.pointer P,.int .i64 A.next] 230)):=(aV _ _).alloc (aO _) _;have sz:(w2.alloc (.cells #[.pointer P,.int .i64 A.next] 230)).heap.size=w2.heap.size+1:=by simp
 have p3:=p1.wide ba (T:=λ j=>E j\/j=w2.heap.size) (λ j hj=>by
  rcases hj with hj|hj
  ·exact .inl hj
  exact .inr (by omega))
 have k3:=k1.trans (p1.kept ba);have bx:=ay.new w2 #[.pointer P,.int .i64 A.next] 230;have HU:=zH (BF .returning p3);have H3:=zH (zA k3 (zA bx k1.size));clear HG H1 p1 k1 ba p3 k3 bx sz;go_wp2;refine leaves_cons (f:=65) (args:= #[.pointer fb]) (by simp) (by simp[go_sem]) ?_;refine HU.out.mono ?_;rintro e u' w4 ⟨rfl,rfl,p4,k4⟩;obtain⟨k3,bx,hs⟩:=H3.out;refine⟨_,results_tmp2 rfl _ _ _,?_⟩;exact⟨w2.heap.size,rfl,bx.ae (k4.block _ (.inr rfl)),hs,p4,k3.trans (k4.mono (λ j hj=>.inl hj))⟩
theorem UX(o:Nat)(h:o+4<=504):dG (UK.bF 504) o=w32 0:=by
 unfold dG
 have e:((UK.bF 504).drop o).take 4=aI 0:=by
  unfold UK.bF;rw[List.drop_replicate,List.take_replicate,gH (by omega)];rfl
 rw[e,CK];rfl
end
open DP (Rc dF lg dU fC bX gF gI qG TH TT)
theorem UW{W:World}{T P:Nat}{rt:Int}(h:ay W T #[.pointer P,.int .i64 rt]) :
  Calls Tryz.prog 84 #[.pointer T] W λ e w'=>e= .returned (.int .i64 rt)/\w'=W:=by
 have c1:=h.c1;clear h
 go_enter Tryz.func84,Tryz.ntmps84
 go_wp2;go_ret
 exact⟨rfl,rfl⟩
theorem xnz{W:World}{H P root:Nat}(h:ay W H (qm P root)) :
  Calls Tryz.prog 89 #[.pointer H] W λ e w'=>e= .returned (.int .i64 root)/\w'=W:=by
 have c1:=h.c1;clear h
 go_enter Tryz.func89,Tryz.ntmps89
 go_wp2;go_ret
 exact⟨rfl,rfl⟩
def eL:List UInt8:=pM (UK.bF 504) [] []
def G9(M:Int):AP:=(yH M).take.ak 1 eL
def Ah(M:Int):AP:=(G9 M).take.ak 2 eL
def Dn(M:Int):AP:=(Ah M).take.take
section
variable{M:Int}{B:AP}
structure NB(M:Int)(B:AP):Prop where
 op:B.op=none
 au:B.au=5
 free:B.free=[]
 aC:B.aC=pF M
 c:∀p,p≠4->B.c p=(Dn M).c p
theorem ybl:NB M (Dn M):=⟨rfl,rfl,rfl,rfl,λ _ _=>rfl⟩
theorem NB.keep(h:NB M B):B.keep 4=B:=by
 obtain⟨au,aC,free,c,op⟩:=B;obtain rfl:op=none:=h.op;rfl
theorem NB.put(h:NB M B)(s:List UInt8):NB M (B.put 4 s):=⟨h.op,h.au,h.free,h.aC,λ p hp=>by
 show bS B.c 4 s p=_;unfold bS;rw[if_neg (λ e=>hp e.symm)];exact h.c p hp⟩
theorem NB.has(h:NB M B)(p:Nat):B.Has p↔1<=p/\p<5:=by
 unfold AP.Has AP.bV;rw[h.op,h.au,h.free];exact⟨λ ⟨a,b,_,_⟩=>⟨a,b⟩,λ ⟨a,b⟩=>⟨a,b,List.not_mem_nil,List.not_mem_nil⟩⟩
theorem ybm:(Dn M).c 1=eL:=by
 show bS (Ah M).take.c 4 (UK.bF 504) 1=_;unfold bS;rw[if_neg (by decide)];show bS (Ah M).c 3 (UK.bF 504) 1=_;unfold bS;rw[if_neg (by decide)];show((G9 M).take.ak 2 eL).c 1=_;rw[AP.aL,if_neg (by decide)];show bS (G9 M).c 2 (UK.bF 504) 1=_;unfold bS;rw[if_neg (by decide)];show((yH M).take.ak 1 eL).c 1=_;rw[AP.aL,if_pos rfl]
theorem ybn:(Dn M).c 2=eL:=by
 show bS (Ah M).take.c 4 (UK.bF 504) 2=_;unfold bS;rw[if_neg (by decide)];show bS (Ah M).c 3 (UK.bF 504) 2=_;unfold bS;rw[if_neg (by decide)];show((G9 M).take.ak 2 eL).c 2=_;rw[AP.aL,if_pos rfl]
theorem ybo:(Dn M).c 3=UK.bF 504:=by
 show bS (Ah M).take.c 4 (UK.bF 504) 3=_;unfold bS;rw[if_neg (by decide)];show bS (Ah M).c 3 (UK.bF 504) 3=_;unfold bS;rw[if_pos rfl]
theorem NB.good(h:NB M B)(h5:5<=pF M)(h6:pF M<=60000):B.Good:=by
 refine⟨by rw[h.au];omega,by rw[h.au,h.aC];omega,by rw[h.aC];exact h6,by rw[h.free];exact List.nodup_nil,λ p hp=>?_,?_,λ g hg=>?_⟩
 ·rw[h.free]at hp;cases hp
 ·unfold AP.bV;rw[h.op];exact List.nodup_nil
 unfold AP.bV at hg;rw[h.op]at hg;cases hg
theorem NB.ti(h:NB M B){p:Nat}(hp:p=1\/p=2):TI B p [] [p]:=by
 have hfit:Fits ⟨true,[],[],[]⟩:=⟨λ _=>⟨aY _,rfl,rfl⟩,(λ h=>by cases h)⟩
 have hc:B.c p=aS (UK.bF 504) ⟨true,[],[],[]⟩:=by
  rw[h.c p (by omega)];rcases hp with rfl|rfl
  ·rw[ybm];rfl
  rw[ybn];rfl
 have hnd:aB B p=some ⟨true,[],[],[]⟩:=by
  unfold aB;rw[hc];exact EO _ _ (by rw[UK.jm];omega) hfit
 exact⟨⟨0,⟨p,[],[p]⟩,⟨[],[],hnd,rfl,λ a b x y _ hx=>(by simp at hx),rfl,rfl⟩,rfl,rfl,rfl⟩,List.pairwise_singleton _ _,λ q hq=>(h.has q).2 (by rw[bz.1 hq];omega)⟩
theorem NB.hi(h:NB M B):HI (B.fe (fo [4] [1] [2])) 3 0 [] (λ _=>[]) []:=by
 have hc:(B.fe (fo [4] [1] [2])).c 3=UK.bF 504:=(h.c 3 (by decide)).trans ybo;refine⟨by simp[nK],λ p=>?_,by rw[hc];exact UX 0 (by omega),by rw[hc];exact UX 4 (by omega),by rw[hc];exact UK.jm 504,.inl rfl,λ p hp=>(by cases hp),λ p hp=>(by cases hp),λ p hp=>(by cases hp),λ t ht=>(by cases ht),List.Pairwise.nil,λ t ht=>(by cases ht)⟩;show B.Has p/\¬fo [4] [1] [2] p↔p∈[3];rw[h.has];unfold fo;simp only[bz];omega
theorem ybp:fX []=λ _=>[]:=rfl
theorem ybq:gX []=λ _=>[]:=rfl
theorem NB.di(h:NB M B)(h5:5<=pF M)(h6:pF M<=60000):DI B [4] B.c 1 2 3 (fX []) (gX []):=by
 refine⟨[],[],[1],[2],0,[],λ _=>[],[],⟨h.good h5 h6,h.ti (.inl rfl),h.ti (.inr rfl),λ p hp=>⟨(h.has p).2 (by rw[bz.1 hp];omega),rfl⟩,by decide,h.hi,aY _⟩,?_,rfl⟩;rw[ybp,ybq];exact⟨⟨λ y hy=>(by cases hy),λ k _ h=>absurd rfl h⟩,⟨λ y hy=>(by cases hy),λ k _ h=>absurd rfl h⟩,λ y hy=>(by cases hy),List.Pairwise.nil,List.Pairwise.nil,List.Pairwise.nil⟩
end
section
variable{E:Nat->Prop}{W W':World}{P D k:Nat}{M:Int}
def PO(E:Nat->Prop)(W W':World)(P D K:Nat)(M:Int)(e:Ending):Prop:=
 ∃Dp T1 T2 H B,e= .returned (.tuple #[.pointer (some ⟨Dp,0,none⟩),.int .i64 0])/\NB M B/\DZ (λ j=>E j\/j=Dp\/j=T1\/j=T2\/j=H) W' P D Dp T1 T2 H K B 4 1 2 3/\(W.heap.size<=Dp/\W.heap.size<=T1/\W.heap.size<=T2/\W.heap.size<=H)/\Kept E W W'
theorem xw4(h:PZ E W P D (yH M) k)(hk:k+100<900000000)(h6:6<=pF M) :
  Calls Tryz.prog 36 #[.pointer P] W λ e w'=>PO E W w' P D (k+30) M e:=by
 have f0:¬(yH M).Full:=λ h=>by
  have h1:pF M<=((1:Nat):Int):=h.1;omega
 have f1:¬(G9 M).Full:=λ h=>by
  have h1:pF M<=((2:Nat):Int):=h.1;omega
 have f2:¬(Ah M).Full:=λ h=>by
  have h1:pF M<=((3:Nat):Int):=h.1;omega
 have f3:¬(Ah M).take.Full:=λ h=>by
  have h1:pF M<=((4:Nat):Int):=h.1;omega
 have HT1:=zH (UY h (by omega) f0);have hs:Hid (∀j,E j->j<W.heap.size):=zH h.there;clear h f0
 go_enter_defers Tryz.func36,Tryz.ntmps36
 go_wp2_with fail
 refine HT1.out.mono ?_;rintro e w1 ⟨T1,N1,M1,rfl,b1,n1,n2,n3,p1,k1⟩;replace p1:PZ (λ j=>E j\/(N1<=j/\j<M1)) w1 P D (G9 M) (k+3):=p1;have HT2:=zH (UY p1 (by omega) f1);have H1:=zH (zA (show ay w1 T1 #[.pointer P,.int .i64 (1:Nat)]from b1) (zA n1 (zA n2 (zA n3 k1))));clear HT1 b1 n1 n2 n3 p1 k1 f1
 go_wp2_with fail
 refine HT2.out.mono ?_;rintro e w2 ⟨T2,N2,M2,rfl,b2,n1,n2,n3,p2,k2⟩;replace p2:PZ (λ j=>(E j\/(N1<=j/\j<M1))\/(N2<=j/\j<M2)) w2 P D (Ah M) (k+6):=p2;have HH:=zH (xxb p2 (by omega) f2);have H2:=zH (zA (show ay w2 T2 #[.pointer P,.int .i64 (2:Nat)]from b2) (zA n1 (zA n2 (zA n3 k2))));clear HT2 b2 n1 n2 n3 p2 k2 f2
 go_wp2_with fail
 refine HH.out.mono ?_;rintro e w3 ⟨H,rfl,b3,n1,p3,k3⟩;have UZ:=zH (GA p3 (by omega) f3);have H3:=zH (zA (show ay w3 H (qm P 3)from b3) (zA n1 k3));clear HH b3 n1 p3 k3 f3
 go_wp2_with fail
 refine UZ.out.mono ?_;rintro e w4 ⟨fb,db,cap,rfl,p4,k4⟩;replace p4:PF (λ j=>((E j\/(N1<=j/\j<M1))\/(N2<=j/\j<M2))\/j=H) w4 P D (Dn M) (k+10) fb db cap 4 false:=p4;obtain⟨b1,n1,n2,n3,k1⟩:=H1.out;obtain⟨b2,m1,m2,m3,k2⟩:=H2.out;obtain⟨b3,q1,k3⟩:=H3.out;have e1:T1<w1.heap.size:=b1.lt;have e2:T2<w2.heap.size:=b2.lt;have x1:ay w4 T1 #[.pointer P,.int .i64 (1:Nat)]:=((b1.ae (k2.block T1 (.inr ⟨n2,n3⟩))).ae (k3.block T1 (.inl (.inr ⟨n2,n3⟩)))).ae (k4.block T1 (.inl (.inl (.inr ⟨n2,n3⟩))));have x2:ay w4 T2 #[.pointer P,.int .i64 (2:Nat)]:=(b2.ae (k3.block T2 (.inr ⟨m2,m3⟩))).ae (k4.block T2 (.inl (.inr ⟨m2,m3⟩)));have x3:ay w4 H (qm P 3):=b3.ae (k4.block H (.inr rfl));have kE:Kept E W w4:=k1.trans ((k2.mono (λ j hj=>.inl hj)).trans ((k3.mono (λ j hj=>.inl (.inl hj))).trans (k4.mono (λ j hj=>.inl (.inl (.inl hj))))));obtain⟨E',hE'⟩:∃E':Nat->Prop,E'=λ j=>E j\/j=T1\/j=T2\/j=H:=⟨_,rfl⟩
 have M8:PF E' w4 P D (Dn M) (k+10) fb db cap 4 false:=p4.less (λ j hj=>by
  rw[hE']at hj;rcases hj with hj|rfl|rfl|rfl
  ·exact .inl (.inl (.inl hj))
  ·exact .inl (.inl (.inr ⟨n2,n3⟩))
  ·exact .inl (.inr ⟨m2,m3⟩)
  exact .inr rfl)
 have HR1:=zH (UW x1);have HR2:=zH (UW x2);have HR3:=zH (xnz x3);have HX:=zH (zA hE' (zA M8 (zA x1 (zA x2 (zA x3 (zA kE (zA (show W.heap.size<=T1/\W.heap.size<=T2/\W.heap.size<=H from⟨by omega,by have:=k1.size;omega,by have:=k1.size;have:=k2.size;omega⟩) (show W.heap.size<=w4.heap.size from kE.size))))))));clear UZ H1 H2 H3 p4 k4 b1 n1 n2 n3 k1 b2 m1 m2 m3 k2 b3 q1 k3 e1 e2 x1 x2 x3 kE hE' M8
 go_wp2_with fail
 refine HR1.out.mono ?_;rintro e w5 ⟨rfl,rfl⟩
 go_wp2_with fail
 refine HR2.out.mono ?_;rintro e w5 ⟨rfl,rfl⟩
 go_wp2_with fail
 refine HR3.out.mono ?_;rintro e w5 ⟨rfl,rfl⟩;clear HR1 HR2 HR3
 go_wp2_with fail
 obtain⟨wl,hwl⟩:∃wl,wl=w5.alloc (.cells #[.int .i64 1,.int .i64 2,.int .i64 3] 3):=⟨_,rfl⟩;have yG:=zH hwl;have hbl:Below w5 w5 wl:=hwl▸(aV _ _).alloc (aO _) _;have hbx:ay wl w5 #[.int .i64 1,.int .i64 2,.int .i64 3]:=hwl▸ay.new w5 _ _;have hsz:wl.heap.size=w5.heap.size+1:=by rw[hwl];simp
 have HLC:Hid (∀i:Nat,i<3->wl.cell? ⟨w5.heap.size,i,none⟩=some (.int .i64 ((i+1:Nat):Int))):=zH (λ i hi=>by
  match i,hi with
  | 0,_=>exact hbx.cell 0 _ rfl
  | 1,_=>exact hbx.cell 1 _ rfl
  | 2,_=>exact hbx.cell 2 _ rfl)
 have PP:=zH (zA hbl hsz);clear hwl hbl hbx hsz
 go_loopw [52] (λ iv wr=>∃(i:Nat) (B:AP) (dy:Bool),iv= .int .i64 i/\i<=3/\Hid (NB M B/\PF (λ j=>E' j\/j=w5.heap.size) wr P D B (k+10+i) fb db cap 4 dy/\Kept (λ j=>E' j\/j=w5.heap.size) wl wr)) (λ iv _=>10-(intOf iv).toNat)
 case atStart=>
  refine⟨0,Dn M,false,rfl,aY _,zH ⟨ybl,?_,?_⟩⟩
  ·rw[<-yG.out];refine HX.out.2.1.wide PP.out.1 (λ j hj=>?_);have:=PP.out.2;rcases hj with hj|hj
   ·exact .inl hj
   exact .inr ⟨by omega,by omega⟩
  rw[<-yG.out];exact Kept.refl _ _
 clear yG;obtain⟨i,B,dy,rfl,hi,HI⟩:=hrel;by_cases hlt:i<3
 ·obtain⟨hnb,lq,hkp⟩:=HI.out;have cd:wr.cell? (w5.heap.size,i)=some (.int .i64 ((i+1:Nat):Int)):=by rw[<-HLC.out i hlt];exact gq (hkp.block _ (.inr rfl))
  obtain⟨n,hn⟩:∃n,n=i+1:=⟨_,rfl⟩;rw[<-hn]at cd;have q1:(i:Int)<3:=by omega
  have HE:=zH (yI lq (by omega))
  have hcap:504<=cap:=by
   obtain⟨y',_,q2,_,q4,_⟩:=lq.bytes;exact q4
  have HU:((UInt32.ofNat n).toNat:Int)=(n:Int):=by rw[UInt32.toNat_ofNat'];omega
  have HW:IntKind.u32.wrap (n:Int)=(n:Int):=by rw[IntKind.wrap_u32];omega
  have HV:=zH (zA HU HW);obtain⟨o,ho⟩:∃o:Nat,o=4*i:=⟨_,rfl⟩;have i1:wrap64 (4*(i:Int))=(o:Int):=by unfold wrap64;omega
  have i2:(o:Int)<=504:=by omega
  have i3:(o:Int)<=(cap:Int):=by omega
  have i4:¬(cap=o):=by omega
  have HM:=zH (zA hnb hkp);clear hnb lq hkp HU HI
  go_wp2_with fail
  refine HE.out.mono ?_;rintro e w6 ⟨rfl,p6,k6⟩;have hnb:=HM.out.1;rw[hnb.keep]at p6;obtain⟨y,y1,y2,y3,y4,y5⟩:=p6.bytes;have M9:=zH (Eh y1 o (504-o) (cap-o) (by omega) (by omega) (by omega) (UInt32.ofNat n));rw[HV.out.1]at M9;have Va:=zH (zA p6 (zA k6 y2));clear p6 k6 y1 y2 y3 y5 hnb HE
  go_wp2_with fail
  subst ho hn;rw[show((i+1:Nat):Int)=(i:Int)+1 by omega]at M9;refine M9.out.mono ?_;rintro e w7 ⟨rfl,b7,o7⟩
  have HN:Hid (NB M (B.put 4 ((UK.wr y (4*i) (aI (UInt32.ofNat (i+1)))).take 504))/\PF (λ j=>E' j\/j=w5.heap.size) w7 P D (B.put 4 ((UK.wr y (4*i) (aI (UInt32.ofNat (i+1)))).take 504)) (k+10+(i+1)) fb db cap 4 true/\Kept (λ j=>E' j\/j=w5.heap.size) wl w7):=by
   obtain⟨p6,k6,y2⟩:=Va.out;obtain⟨hnb,hkp⟩:=HM.out;have hle:(UK.wr y (4*i) (aI (UInt32.ofNat (i+1)))).length=cap:=by rw[UK.iW _ _ _ (by show 4*i+4<=_;omega)];exact y2
   obtain⟨p7,k7⟩:=p6.write o7 b7 hle;exact zH ⟨hnb.put _,p7,hkp.trans (k6.trans k7)⟩
  clear b7 o7 M9 Va HM;go_wp2;go_roundw
  case rel=>exact⟨i+1,_,true,by go_num,by omega,HN⟩
  case measure=>simp only[intOf];omega
 obtain rfl:i=3:=by omega
 obtain⟨hnb,lq,hkp⟩:=HI.out;obtain⟨wx,hwx⟩:∃wx,wx=wr:=⟨_,rfl⟩;subst hwx;have Vb:=zH (GD lq);have HM:=zH (zA hnb (zA lq hkp));clear hnb lq hkp HI
 go_wp2_with fail
 refine Vb.out.mono ?_;rintro e w6 ⟨rfl,qX⟩;rw[qX];clear qX w6 Vb;obtain⟨hnb,lq,hkp⟩:=HM.out;obtain⟨w9,MB⟩:∃w9,w9=wx.alloc (.cells #[.pointer P,.int .i64 4,.pointer T1,.pointer T2,.pointer H] 84):=⟨_,rfl⟩;have PR:Below wx wx w9:=MB▸(aV _ _).alloc (aO _) _;have MC:ay w9 wx #[.pointer P,.int .i64 4,.pointer T1,.pointer T2,.pointer H]:=MB▸ay.new wx _ _;have Vd:w9.heap.size=wx.heap.size+1:=by rw[MB];simp
 have p9:=lq.wide PR (T:=λ j=>E' j\/j=wx.heap.size) (λ j hj=>by
  rcases hj with hj|hj
  ·exact .inl (.inl hj)
  exact .inr ⟨by omega,by omega⟩)
 have HUP:=zH (BF .returning p9);have k9:=lq.kept PR;have HF:=zH (zA hnb (zA MC (zA (hkp.trans k9) hkp.size)));clear hnb lq hkp HM p9 k9 PR MC Vd;subst MB;go_wp2;refine leaves_cons (f:=65) (args:= #[.pointer fb]) (by simp) (by simp[go_sem]) ?_;refine HUP.out.mono ?_;rintro e u' wb ⟨rfl,rfl,pb,kb⟩;refine⟨_,results_tmp2 rfl _ _ _,?_⟩;obtain⟨hnb,MC,hk9,Vd⟩:=HF.out;obtain⟨hE',M8,x1,x2,x3,kE,hle,hle2⟩:=HX.out;obtain⟨hbl,hsz⟩:=PP.out;have kl:Kept E' w5 wl:=M8.kept hbl;have ka:=kl.trans ((hk9.mono (λ j hj=>.inl hj)).trans (kb.mono (λ j hj=>.inl hj)));have t1:E' T1:=by rw[hE'];exact .inr (.inl rfl)
 have t2:E' T2:=by rw[hE'];exact .inr (.inr (.inl rfl))
 have t3:E' H:=by rw[hE'];exact .inr (.inr (.inr rfl))
 refine⟨wx.heap.size,T1,T2,H,B,rfl,hnb,⟨(pb.up (by omega)).less (λ j hj=>?_),MC.ae (kb.block _ (.inr rfl)),.inr (.inl rfl),x1.ae (ka.block T1 t1),.inr (.inr (.inl rfl)),x2.ae (ka.block T2 t2),.inr (.inr (.inr (.inl rfl))),x3.ae (ka.block H t3),.inr (.inr (.inr (.inr rfl)))⟩,⟨?_,hle.1,hle.2.1,hle.2.2⟩,kE.trans (ka.mono (λ j hj=>by rw[hE'];exact .inl hj))⟩
 ·rw[hE'];rcases hj with hj|hj|hj|hj|hj
  ·exact .inl (.inl hj)
  ·exact .inr hj
  ·exact .inl (.inr (.inl hj))
  ·exact .inl (.inr (.inr (.inl hj)))
  exact .inl (.inr (.inr (.inr hj)))
 have:=hbl.size;omega
end
end Go.Proofs.YtgpmiliahonaoaaGreatDoor
