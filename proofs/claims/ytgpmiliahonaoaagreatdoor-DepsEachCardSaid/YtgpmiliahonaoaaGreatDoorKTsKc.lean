/- Facts on texts and trees on pages. -/
import Derived.Test.YtgpmiliahonaoaaGreatDoorKTsJc
set_option maxRecDepth 100000
set_option maxHeartbeats 8000000
set_option linter.unusedSimpArgs false
namespace Go.Proofs.YtgpmiliahonaoaaGreatDoor
open Go.RowKit
open UK (str aF nth Only Row ay)
open Go.BigFrame
section
variable{E:Nat->Prop}{W W':World}{P D T rt k pg N nb kc vc ac:Nat}{A:AP}{ka va aa:Option Addr}
theorem xyj{w4:World}{ag:List UInt64}{ax:List Nat}{m n gk ga:Nat}(tK:aU N w4 nb ⟨false,ag,[],ax⟩ gk va ga kc vc ac)(hkn:ag.length=n)(hcn:ax.length=n+1)(zQ:n<=100)(Af:m<n) :
  (∀(wa:World) (_:Below w4 w4 wa),Calls Tryz.prog 215 #[.slice gk n kc,.int .i64 m,.int .i64 ((m:Int)+1)] wa λ e w'=>e= .returned (.slice gk (n-1) kc)/\eD N w4 w' nb ⟨false,ag,[],ax⟩ gk va ga kc vc ac (ag.take m++ag.drop (m+1)) gk kc/\w'.cell? (nb,1)=some (.slice gk n kc)/\w'.cell? (nb,3)=some (.slice ga (n+1) ac)) /\
  (∀(wb:World) (_:eD N w4 wb nb ⟨false,ag,[],ax⟩ gk va ga kc vc ac (ag.take m++ag.drop (m+1)) gk kc),Calls Tryz.prog 259 #[.slice ga (n+1) ac,.int .i64 ((m:Int)+1),.int .i64 ((m:Int)+2)] wb λ e w'=>e= .returned (.slice ga n ac)/\sQ N w4 ((w'.setCell (nb,1) (.slice gk (n-1) kc)).setCell (nb,3) (.slice ga n ac)) nb gk va ga (ag.take m++ag.drop (m+1)) (ax.take (m+1)++ax.drop (m+2))/\w'.cell? (nb,1)=some (.slice gk n kc)/\w'.cell? (nb,3)=some (.slice ga (n+1) ac)/\w'.frozen? ⟨nb,1,none⟩=false/\w'.frozen? ⟨nb,3,none⟩=false):=by
 have hNs:N<=w4.heap.size:=Nat.le_of_lt (Nat.lt_of_le_of_lt tK.ge tK.box.lt)
 have YC:Row w4 gk kc (az ag):=by
  rcases tK.k with hz|⟨g,e,r⟩
  ·cases hz.1
  injection e with e;injection e with e;rw[e];exact r
 have e1:(ag.take m++ag.drop (m+1)).length=n-1:=by simp;omega
 have e2:(ax.take (m+1)++ax.drop (m+2)).length=n:=by simp;omega
 refine⟨λ wa ba=>?_,λ wb mm=>?_⟩
 ·skip
  have hd:=Sm (YC.below ba YC.lt) (show ag.length<=1000 by omega) (show m<ag.length by omega);rw[hkn]at hd;refine hd.mono (λ e w' ⟨he,r,o⟩=>?_);have mm:=tK.wJ hNs ba r o (.inl rfl);have bb:=mm.box;dsimp only at bb;rw[hkn,hcn]at bb;exact⟨he,mm,bb.cell 1 _ rfl,bb.cell 3 _ rfl⟩
 skip
 have rb:Row wb ga ac (ints ax):=by
  rcases mm.a with hz|⟨g,e,r⟩
  ·cases hz.1
  injection e with e;injection e with e;rw[e];exact r
 have hd:=xof rb (show ax.length<=1000 by omega) (show m+1<ax.length by omega);rw[hcn]at hd;refine hd.mono (λ e w' ⟨he,r,o⟩=>?_);have hdd:=(mm.zB tK r o (.inl rfl)).2.2.1;dsimp only at hdd;rw[hkn,hcn]at hdd;exact⟨he,XN tK mm r o (.inl rfl) e1 e2,hdd.cell 1 _ rfl,hdd.cell 3 _ rfl,hdd.free 1,hdd.free 3⟩
theorem xyk{ag:List UInt64}{ax:List Nat}{i m n ca cb:Nat}{κ:UInt64}{xa xb:Nd}(p:PZ E W P D A k)(hk:k+40<900000000)(hb:ay W T #[.pointer P,.int .i64 rt])(hT:E T)
  (hn:aU N W nb ⟨false,ag,[],ax⟩ ka va aa kc vc ac) (hE:∀g,qj ka va aa nb g->E g) (hTR:¬qj ka va aa nb T) (htab:¬qj ka va aa nb 0) (ok:pu A pg ag ax m ca cb κ xa xb) (hkn:ag.length=n) (hcn:ax.length=n+1) (h1:1<=n) (zQ:n<=100) (hi:i<=n) (hm:m=wQ (n+1) i) :
  Calls Tryz.prog 217 #[.pointer T,.pointer nb,.int .i64 i] W λ e w'=>e= .returned (.int .i64 0) /\
   ((gN xa xb κ).2.2.2=false->Ik E W w' P D T rt nb (qj ka va aa nb) ((A.ak ca (aS (A.c ca) (gN xa xb κ).1)).ak cb (aS ((A.ak ca (aS (A.c ca) (gN xa xb κ).1)).c cb) (gN xa xb κ).2.1)) (k+20) ⟨false,ag.set m (gN xa xb κ).2.2.1,[],ax⟩) /\
   ((gN xa xb κ).2.2.2=true->Ik E W w' P D T rt nb (qj ka va aa nb) ((A.ak ca (aS (A.c ca) (gN xa xb κ).1)).give cb) (k+20) ⟨false,ag.take m++ag.drop (m+1),[],ax.take (m+1)++ax.drop (m+2)⟩):=by
 obtain⟨gk,rfl,rk⟩:∃g,ka=some ⟨g,0,none⟩/\Row W g kc (az ag):=by
  rcases hn.k with hz|h2
  ·have:=congrArg List.length hz.2.1;rw[dA]at this;exact absurd (show ag.length=0 from this) (by omega)
  exact h2
 obtain⟨ga,rfl,ra⟩:∃g,aa=some ⟨g,0,none⟩/\Row W g ac (ints ax):=by
  rcases hn.a with hz|h2
  ·have:=congrArg List.length hz.2.1;rw[gQ]at this;exact absurd (show ax.length=0 from this) (by omega)
  exact h2
 have hEk:=hE gk (.inl rfl);have hEa:=hE ga (.inr (.inr (.inl rfl)));have pK:=hE nb (.inr (.inr (.inr rfl)));have hga:ga≠gk:=λ e=>hn.ka gk rfl (by rw[<-e];rfl);have hgn:nb≠gk:=λ e=>(hn.new gk (.inl rfl)).2 e.symm
 have SI:∀w,Kept E W w->w.cell? (nb,1)=some (.slice gk n kc)/\w.cell? (nb,3)=some (.slice ga (n+1) ac)/\w.cell? (gk,m)=some (.int .u64 (κ.toNat:Int))/\w.cell? (ga,m)=some (.int .i64 (ca:Int))/\w.cell? (ga,m+1)=some (.int .i64 (cb:Int))/\w.frozen? ⟨gk,m,none⟩=false:=λ w kw=>by
  have b:=hn.box.ae (kw.block nb pK);rw[hkn,hcn]at b;have r:=rk.ae kw.size (kw.block gk hEk);have r2:=ra.ae kw.size (kw.block ga hEa);refine⟨b.cell 1 _ rfl,b.cell 3 _ rfl,r.at' m _ (tH _ _ _ ok.k),r2.at' m _ (KM _ _ _ ok.ka),r2.at' (m+1) _ (KM _ _ _ ok.kb),r.free m ?_⟩;have:=r.le;rw[dA]at this;have:=(dE.1 ok.k).1;omega
 have Af:m<n:=by have:=(dE.1 ok.k).1;omega
 have qI:m<=1000:=by omega
 have hPm:(i=n/\m=n-1)\/(i≠n/\m=i):=by
  rw[hm];unfold wQ
  split<;>omega
 obtain⟨⟨xa',xb',dM,one⟩,hev⟩:∃x,gN xa xb κ=x:=⟨_,rfl⟩;have hC:=xr0 p (by omega) hb hT hn hE hTR htab ok;rw[hev]at hC ⊢;dsimp only at hC ⊢;have HC:=zH hC;have Lx:=zH SI;have HX:=zH (zA zQ (zA p (zA hb (zA hT (zA hn (zA hE (zA hTR (zA htab (zA ok (zA hkn hcn))))))))));obtain⟨x1,x3,y0,z0,z1,_⟩:=SI W (Kept.refl _ _);have j1:(m:Int)<((n:Int)+1):=by omega
 have j2:(m:Int)+1<((n:Int)+1):=by omega
 have j3:(m:Int)<(n:Int):=by omega
 have j4:((m:Int)+1).toNat=m+1:=by omega
 have j5:(0:Int)<=(m:Int)+1:=by omega
 have j6:(m:Int)+1=((m+1:Nat):Int):=rfl;have j7:(m:Int)+2=((m+2:Nat):Int):=rfl;have j8:((n+1:Nat):Int)-1=(n:Int):=by omega
 have j10:(n:Int)+1-1=(n:Int):=by omega
 have hA:i=n->(n:Int)-1=(m:Int):=λ h=>by omega
 have hB:i≠n->(i:Int)≠(n:Int)/\m=i:=λ h=>by omega
 have l1:m+1<=1000:=by omega
 have l2:m+2<=1000:=by omega
 have l3:n<=1000:=by omega
 have HI:=zH (zA hA hB);have HKK:=zH (λ (kk:Nat) (h:kk<=k+7+1)=>(show kk<=k+20 by omega));have hkz:k+20<900000000:=by omega
 have SK:k+7+20<900000000:=by omega
 clear hC hev hPm hm hi hA hB p hb hT hn hE hTR htab ok hkn hcn h1 zQ SI rk ra hEk hEa pK hk;have v1:wrap64 ((m:Int)+1)=(m:Int)+1:=by rw[j6];exact AA _ l1
 have v2:IntKind.i64.wrap ((m:Int)+1)=(m:Int)+1:=by rw[j6];exact AB _ l1
 have v3:wrap64 ((m:Int)+2)=(m:Int)+2:=by rw[j7];exact AA _ l2
 have v4:IntKind.i64.wrap ((m:Int)+2)=(m:Int)+2:=by rw[j7];exact AB _ l2
 have v5:wrap64 ((n:Int)+1-1)=(n:Int):=by rw[j10];exact AA _ l3
 have v6:IntKind.i64.wrap ((n:Int)+1-1)=(n:Int):=by rw[j10];exact AB _ l3
 have v7:wrap64 (n:Int)=(n:Int):=AA _ l3;have v8:IntKind.i64.wrap (n:Int)=(n:Int):=AB _ l3;have v9:wrap64 (m:Int)=(m:Int):=AA _ qI;have v10:IntKind.i64.wrap (m:Int)=(m:Int):=AB _ qI;clear j6 j7 j8 j10 l1 l2 l3 qI
 go_enter Tryz.func217,Tryz.ntmps217
 go_upto_if 21 with(fail)
 go_cut [2] (λ iv wx=>iv= .int .i64 (m:Int)/\wx=W)
 case first=>
  by_cases hin:i=n
  ·have q1:=HI.out.1 hin;have q0:((i:Int)==(n:Int))=true:=by rw[hin];exact beq_self_eq_true _
   have q2:wrap64 ((i:Int)-1)=(m:Int):=by rw[hin,q1];exact v9
   have q3:IntKind.i64.wrap ((i:Int)-1)=(m:Int):=by rw[hin,q1];exact v10
   clear q1 hin v1 v2 v3 v4 v5 v6 v7 v8 v9 v10 x1 x3 y0 z0 z1 j1 j2 j3 j4 j5
   go_wp2_with fail
   go_meet
   case rel=>exact⟨rfl,rfl⟩
  obtain⟨q1,q2⟩:=HI.out.2 hin;subst q2;have q3:((m:Int)==(n:Int))=false:=beq_eq_false_iff_ne.2 q1;clear v1 v2 v3 v4 v5 v6 v7 v8 v9 v10 x1 x3 y0 z0 z1 j1 j2 j3 j4 j5
  go_wp2_with fail
  go_meet
  case rel=>exact⟨rfl,rfl⟩
 case rest=>
 obtain⟨rfl,rfl⟩:=hcut;clear HI
 go_wp2_with fail
 refine HC.out.mono ?_;rintro e w1 ⟨a,rfl,k1,hl2⟩;replace hl2:=zH hl2;obtain⟨SB,x13,y10,z10,z11,_⟩:=Lx.out w1 k1;clear k1 HC
 go_wp2_with fail
 refine hl2.out.mono ?_;rintro e w2 ⟨b,rfl,k2,ca0,cb0,hev⟩;replace hev:=zH hev;obtain⟨x21,x23,y20,z20,z21,_⟩:=Lx.out w2 k2;clear k2 hl2
 go_wp2_with fail
 go_quiet (fail)
 have hll:(xa.leaf != xa.leaf)=false:=by simp
 go_wp2_with fail
 clear SB x13 y10 z10 z11 x21 x23 y20 z20 z21 ca0 cb0 x1 x3 y0 z0 z1 hll;refine(hev.out _).mono ?_;rintro e w3 ⟨rfl,k3,hst⟩;replace hst:=zH hst;obtain⟨x31,x33,y30,z30,z31,_⟩:=Lx.out w3 k3;clear k3 hev
 go_wp2_with fail
 clear x31 x33 y30 z30 z31;refine hst.out.mono ?_;rintro e w4 ⟨rfl,k4,hf,ht⟩;obtain⟨x41,x43,YD,z40,z41,f40⟩:=Lx.out w4 k4;clear hst
 cases one with
 | false=>
  have h5:=hf rfl;have HQ:=zH h5;have on:Only gk w4 (w4.setCell (gk,m) (.int .u64 (dM.toNat:Int))):=(Only.refl gk w4).set m _;have c3:=on.cell x43 hgn;have c4:=on.cell z41 hga;clear hf ht h5 k4 on v3 v4 v5 v6 v7 v8 v9 v10
  go_upto_region 16 with(fail)
  go_cut [] (λ wx=>wx=w4.setCell (gk,m) (.int .u64 (dM.toNat:Int)))
  case first=>
   go_wp2_with fail
   go_meet
   case rel=>exact rfl
  case rest=>
  generalize w4.setCell (gk,m) (.int .u64 (dM.toNat:Int))=w5 at hcut c3 c4 HQ;subst hcut;clear x41 x43 YD z40 z41 f40
  go_wp2_with fail
  refine HQ.out.mono ?_;rintro e w5 ⟨rfl,hM⟩;have HG:=zH hM;clear hM HQ;go_wp2;go_ret;exact⟨rfl,HG.out⟩
 | true=>
  have p4:=ht rfl;obtain⟨zQ,p,hb,hT,hn,hE,hTR,htab,ok,hkn,hcn⟩:=HX.out
  have tK:aU N w4 nb ⟨false,ag,[],ax⟩ gk va ga kc vc ac:=
   ⟨hn.box.ae (k4.block nb (hE nb (.inr (.inr (.inr rfl))))),hn.k.ae k4.size (λ j hj=>k4.block j (hE j (.inl hj))),hn.v.ae k4.size (λ j hj=>k4.block j (hE j (.inr (.inl hj)))),hn.a.ae k4.size (λ j hj=>k4.block j (hE j (.inr (.inr (.inl hj))))),hn.ge,hn.new,hn.kv,hn.ka,hn.va⟩
  have YE:=zH (λ (wc:World) hcut=>xvt (w4:=w4) (wc:=wc) (ka:=some ⟨gk,0,none⟩) (va:=va) (aa:=some ⟨ga,0,none⟩) (nb:=nb) (N:=N) (l:=ag.take m++ag.drop (m+1)) (cs:=ax.take (m+1)++ax.drop (m+2)) (q:=cb) hb hT p4 SK k4 hE hTR htab (AP.aA.2 ok.hb) p.there hcut);obtain⟨hI1,hI2⟩:=xyj (m:=m) tK hkn hcn zQ Af;have HI1:=zH hI1;have HI2:=zH hI2;have hS1:w4.drew.cell? (nb,1)=some (.slice gk n kc)/\w4.drew.cell? (nb,3)=some (.slice ga (n+1) ac):=⟨x41,x43⟩;have Ii:Below w4 w4 w4.drew:=(aV _ _).drew;clear p4 p hb hT hn hE hTR htab ok hkn hcn tK hI1 hI2 hf ht k4 HX Lx
  go_upto_region 19 with(fail)
  go_cut [] (λ wx=>sQ N w4 wx nb gk va ga (ag.take m++ag.drop (m+1)) (ax.take (m+1)++ax.drop (m+2)))
  case first=>
   clear v5 v6 v7 v8 v9 v10;refine wp_region_any (by kernel_rfl) ?_;refine zT 0 ?_;refine zT 1 ?_;refine zT 2 ?_;refine zT 3 ?_;refine zT 4 ?_;refine zT 6 ?_;refine zT 7 ?_;refine zT 8 ?_;refine zT 10 ?_;refine zT 11 ?_;refine zT 12 ?_;refine zT 14 ?_;refine zT 15 ?_;refine zT 16 ?_;refine zT 17 ?_;refine zV (w:=w4.drew) (λ w'=>w'.cell? (nb,1)=some (.slice gk n kc)/\w'.cell? (nb,3)=some (.slice ga (n+1) ac)) 19 (by exact hS1) λ hS0=>?_;refine zU 5 hS0 ?_;refine zU 13 hS0 ?_;clear hS0;refine zL 9 λ K hK=>?_;go_simp;refine(HI1.out _ Ii).mono ?_;rintro e w9 ⟨rfl,mm,s1,s2⟩
   (try dsimp only)
   refine zK hK ?_ (λ _=>⟨s1,s2⟩);refine zL 18 λ K hK=>?_;go_simp;refine(HI2.out _ mm).mono ?_;rintro e w18 ⟨rfl,l2,t1,t2,q1,q2⟩
   (try dsimp only)
   refine zK hK ?_ (λ _=>⟨t1,t2⟩);refine zM 19 ?_;refine zM 20 ?_;refine zM 21 ?_;refine zM 22 ?_;refine zM 23 ?_;refine zM 24 ?_;refine wz (by kernel_rfl) ?_ _
   go_wp2_with fail
   go_meet
   case rel=>exact l2
  obtain⟨hG,ct⟩:=YE.out _ hcut;have HG:=zH hG;clear hG hcut YE HI1 HI2 hS1 Ii x41 x43 YD z40 z41 f40
  go_wp2_with fail
  refine HG.out.mono ?_;rintro e w5 ⟨rfl,L,H,kk,m1,m2,m3,m4⟩;have HM:=zH (zA m1 (zA m2 (zA m3 m4)));clear m1 m2 m3 m4 HG;go_wp2;go_ret;obtain⟨m1,m2,m3,m4⟩:=HM.out;exact⟨rfl,L,H,kk,m1,m2,HKK.out kk m3,m4⟩
end
end Go.Proofs.YtgpmiliahonaoaaGreatDoor
