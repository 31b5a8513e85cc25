/- Facts on rows of numbers on pages. -/
import Derived.Test.YtlipgbnnbefhjaaGreatDoorKTreeLc
set_option maxRecDepth 100000
set_option maxHeartbeats 8000000
set_option linter.unusedSimpArgs false
namespace Go.Proofs.YtlipgbnnbefhjaaGreatDoor
open Go.RowKit
open UK (str aO nth Only Row aI w32)
open Go.BigFrame
section
variable{E:Nat->Prop}{W W' w2 wc:World}{P D T k k0 pg N M nb kc vc ac:Nat}{A:AP}{x:Nd}{ka va aa:Option Addr}
theorem xyf{wb w:World}{ks vs l m:List UInt64}{g c g2 c2 a b:Nat}(h:bz N W nb {leaf:=true,ai:=ks,vals:=vs,ah:=[]} ka va none kc vc 0)
  (m1:fQ N W wb nb {leaf:=true,ai:=ks,vals:=vs,ah:=[]} ka va none kc vc 0 l g c) (r:Row w g2 c2 (aF m)) (o:Only g2 wb w) (hg:aK va g2\/wb.heap.size<=g2) (e1:l.length=a) (e2:m.length=b) :
  wD N W ((w.setCell (nb,1) (.slice g a c)).setCell (nb,2) (.slice g2 b c2)) nb ka va l m:=by
 obtain⟨d1,d2,_,_⟩:=m1.done h r o hg;rw[e1,e2]at d1 d2;refine⟨_,_,_,_,d1,d2,λ j hj=>?_,λ j hj=>?_⟩
 ·rw[gF hj];exact m1.own
 rw[gF hj];rcases hg with h1|h1
 ·exact .inl h1
 exact .inr (bf m1.kept.size h1)
theorem ZE{S:Nat->Prop}{W:World}{nb:Nat}(hn:jN S W nb x)(hl:x.leaf=true) :
  Calls Tryz.prog 130 #[.pointer nb] W λ e w'=>e= .returned (.bool (decide (x.ai.length<15)))/\w'=W:=by
 obtain⟨kv,vv,av,b,hb,⟨ao,c,rfl,_,_⟩,_,_⟩:=hn;rw[cz]at b;rw[hl]at b;have c0:=b.c0;have c1:=b.c1;have d1:decide ((x.ai.length:Int)<15)=decide (x.ai.length<15):=decide_eq_decide.2 (by omega);clear b
 go_enter Tryz.func130,Tryz.ntmps130
 go_wp2;go_ret
 first|exact⟨rfl,rfl⟩|exact⟨by rw[<-d1];rfl,rfl⟩
def ybr(E:Nat->Prop)(W w':World)(P D T root:Nat)(A:AP)(k pg:Nat)(ks vs:List UInt64)(key:UInt64)(e:Ending):Prop:=
 ∃i:Nat,e= .returned (.tuple #[.bool true,.bool (decide (ks.length-1<15)),.int .i64 0])/\i<ks.length/\fP ks key i/\bL E w' P D T root (A.az pg (kQ (A.c pg) (ks.take i++ks.drop (i+1)) (vs.take i++vs.drop (i+1)))) k/\Kept E W w'
theorem xvn{rt:Nat}{ks vs:List UInt64}(h:bL E W P D T rt A k)(hk:k+5<900000000)(hl:mQ A pg ks vs)(hn:ks.length<=30)(key:UInt64)(hin:key∈ks)(deep:Nat)(hd:deep<=20) :
  Calls Tryz.prog 105 #[.pointer T,.int .i64 pg,.int .u64 key.toNat,.int .i64 deep] W λ e w'=>ybr E W w' P D T rt A (k+5) pg ks vs key e:=by
 have HL:=zH (ZJ h.pz (by omega) h.box hl.has hl.head);have HH:=zH (zA h hl);clear h hl
 go_enter Tryz.func105,Tryz.ntmps105
 go_wp2_with fail
 refine HL.out.mono ?_;rintro e w1 ⟨N,M,nb,ka,va,kc,vc,rfl,hN,hM,⟨bi,gV,fT⟩,p1,k1⟩;obtain⟨h,hl⟩:=HH.out;rw[hl.ai,hl.vals]at bi;have b0:=bi.box.c0;have b1:=bi.box.c1;have b2:=bi.box.c2;have hS:=J3 (bi.k.win (S:=λ _=>True) (λ _ _=>trivial)) hl.up (show ks.length<=1000 by omega) key;rw[cz]at hS;rw[decide_eq_true hin]at hS;have HS:=zH hS;have H1:=zH (zA hN (zA hM (zA bi (zA gV (zA fT (zA p1 k1))))));clear HL bi gV fT p1 k1 hS hN hM
 go_wp2_with fail
 refine HS.out.mono ?_;rintro e w2 ⟨i,rfl,hst,rfl⟩;obtain⟨hN,hM,bi,gV,fT,p1,k1⟩:=H1.out;have hlv:=hl.len
 have hi:i<ks.length:=by
  rcases Nat.lt_or_ge i ks.length with h1|h1
  ·exact h1
  obtain rfl:i=ks.length:=by have:=hst.le;omega
  exact absurd hin hst.none
 have hNs:N<=w2.heap.size:=by have:=bi.ge;omega
 obtain⟨g,rfl,rk⟩:∃g,ka=some ⟨g,0,none⟩/\Row w2 g kc (aF ks):=by
  rcases bi.k with hz|h1
  ·have:=congrArg List.length hz.2.1;rw[cz]at this;exact absurd (show ks.length=0 from this) (by omega)
  exact h1
 obtain⟨g2,rfl,rv⟩:∃g,va=some ⟨g,0,none⟩/\Row w2 g vc (aF vs):=by
  rcases bi.v with hz|h1
  ·have:=congrArg List.length hz.2.1;rw[cz]at this;exact absurd (show vs.length=0 from this) (by omega)
  exact h1
 have e1:(ks.take i++ks.drop (i+1)).length=ks.length-1:=by simp;omega
 have e2:(vs.take i++vs.drop (i+1)).length=vs.length-1:=by simp;omega
 have HI1:=zH (λ (wa:World) (ba:Below w2 w2 wa)=>(show Calls Tryz.prog 64 #[.slice g ks.length kc,.int .i64 i,.int .i64 ((i:Int)+1)] wa λ e w'=>e= .returned (.slice g (ks.length-1) kc)/\fQ N w2 w' nb {leaf:=true,ai:=ks,vals:=vs,ah:=[]} g g2 none kc vc 0 (ks.take i++ks.drop (i+1)) g kc/\w'.cell? (nb,1)=some (.slice g ks.length kc)/\w'.cell? (nb,2)=some (.slice g2 vs.length vc)from
  (Pe (rk.below ba rk.lt) (show ks.length<=1000 by omega) hi).mono (λ e w' ⟨he,r,o⟩=>
   have m:=bi.yK hNs ba r o (.inl rfl)
   ⟨he,m,m.box.cell 1 _ rfl,m.box.cell 2 _ rfl⟩)))
 have HI2:=zH (λ (wb:World) (m:fQ N w2 wb nb {leaf:=true,ai:=ks,vals:=vs,ah:=[]} g g2 none kc vc 0 (ks.take i++ks.drop (i+1)) g kc)=>(show Calls Tryz.prog 64 #[.slice g2 vs.length vc,.int .i64 i,.int .i64 ((i:Int)+1)] wb λ e w'=>e= .returned (.slice g2 (vs.length-1) vc)/\wD N w2 ((w'.setCell (nb,1) (.slice g (ks.length-1) kc)).setCell (nb,2) (.slice g2 (vs.length-1) vc)) nb g g2 (ks.take i++ks.drop (i+1)) (vs.take i++vs.drop (i+1))/\w'.cell? (nb,1)=some (.slice g ks.length kc)/\w'.cell? (nb,2)=some (.slice g2 vs.length vc)/\w'.frozen? ⟨nb,1,none⟩=false/\w'.frozen? ⟨nb,2,none⟩=false from by
  obtain⟨g',e',rv2⟩:∃g',some (⟨g2,0,none⟩:Addr)=some ⟨g',0,none⟩/\Row wb g' vc (aF vs):=by
   rcases m.v with hz|h1
   ·have:=congrArg List.length hz.2.1;rw[cz]at this;exact absurd (show vs.length=0 from this) (by omega)
   exact h1
  injection e' with e';injection e' with e';subst e'
  refine(Pe rv2 (show vs.length<=1000 by omega) (show i<vs.length by omega)).mono (λ e w' ⟨he,r,o⟩=>?_);have hd:=(m.done bi r o (.inl rfl)).2.2.1;exact⟨he,xyf bi m r o (.inl rfl) e1 e2,hd.cell 1 _ rfl,hd.cell 2 _ rfl,hd.free 1,hd.free 2⟩))
 have HI:=zH (zA hi (zA hlv (zA hst (zA e1 e2))));have f1:IntKind.i64.wrap ((i:Int)+1)=(i:Int)+1:=IntWalk.i64_in _ (by omega);clear bi fT p1 k1 hst HS hlv e1 e2 rk rv
 go_upto_region 10 with(fail)
 go_cut [] (λ wx=>wD N w2 wx nb g g2 (ks.take i++ks.drop (i+1)) (vs.take i++vs.drop (i+1)))
 case first=>
  go_region_law
   (first
    | (have hm:=m1;clear hm;go_simp;go_at_call 64;refine(HI2.out _ m1).mono ?_;rintro e w4 ⟨rfl,l2,s1,s2,q1,q2⟩)
    | ((fail_if_success (have hm:=m1));go_simp;go_at_call 64;refine(HI1.out _ ?_).mono ?_;(repeat (first|with_reducible exact aP _ _|with_reducible apply gQ));rintro e w3 ⟨rfl,m1,t1,t2⟩))
  all_goals
   go_wp2_with fail
   go_meet
   case rel=>exact l2
 obtain⟨hN,hM,bi,gV,fT,p1,k1⟩:=H1.out;obtain⟨h,hl⟩:=HH.out;obtain⟨p2,hr,hbx,k2⟩:=ZK h hN bi gV fT p1 k1 hcut;obtain⟨hi,hlv,hst,e1,e2⟩:=HI.out;have hP:=ZE hr rfl;rw[show(ks.take i++ks.drop (i+1)).length=ks.length-1 from e1]at hP;have HF:=zH hP;have HS2:=zH (λ (m:Nat)=>xr3 (p2.next (UK.aG (aP _ _) m)) (by omega) (show aI (wc.drewN m) T _ from hbx) hl.has (show jN _ (wc.drewN m) nb _ from hr) rfl (show(ks.take i++ks.drop (i+1)).length<=30 by omega) (e2.trans (by rw[hlv];exact e1.symm)))
 have HB:=zH (λ (w':World) (m:Nat) (p3:PZ (λ j=>E j\/(N<=j/\j<M)\/(w2.heap.size<=j/\j<wc.heap.size)) w' P D (A.az pg (kQ (A.c pg) (ks.take i++ks.drop (i+1)) (vs.take i++vs.drop (i+1)))) (k+2+3)) (k3:Kept (λ j=>E j\/(N<=j/\j<M)\/(w2.heap.size<=j/\j<wc.heap.size)) (wc.drewN m) w')=>(show ybr E W w' P D T rt A (k+5) pg ks vs key (.returned (.tuple #[.bool true,.bool (decide (ks.length-1<15)),.int .i64 0]))from
  ⟨i,rfl,hi,hst,⟨p3.less (λ _ hj=>.inl hj),(show aI (wc.drewN m) T _ from hbx).af (k3.block T (.inl h.mem)),h.mem⟩,(k2.trans ((p2.less (λ _ hj=>.inl hj)).kept (UK.aG (aP _ _) m))).trans (k3.mono (λ _ hj=>.inl hj))⟩))
 clear H1 HH hcut hN hM bi gV fT p1 k1 h hl p2 hr hbx k2 hlv hst e1 e2 HI HI1 HI2 hP
 go_wp2_with fail
 refine HF.out.mono ?_;rintro e w5 ⟨rfl,rfl⟩
 go_wp2_with fail
 refine(HS2.out 0).mono ?_;rintro e w6 ⟨rfl,p3,k3⟩;go_wp2
 go_ret3
 exact HB.out _ 0 p3 k3
end
theorem fP.sorted{ks:List UInt64}{key:UInt64}{i:Nat}(h:fP ks key i)(hs:jV ks)(hno:key∉ks):jV (ks.take i++key::ks.drop i):=by
 have hle:=h.le
 have at':∀(a:Nat) (x:UInt64),(ks.take i++key::ks.drop i)[a]?=some x->(a<i/\ks[a]?=some x)\/(a=i/\x=key)\/(i<a/\ks[a-1]?=some x):=λ a x hx=>by
  rcases Nat.lt_trichotomy a i with h1|h1|h1
  ·rw[dM (by rw[zt];omega),iO h1]at hx;exact .inl ⟨h1,hx⟩
  ·subst h1;rw[dF (by rw[zt];omega),zt,show a-min a ks.length=0 by omega]at hx;exact .inr (.inl ⟨rfl,by simpa using hx.symm⟩)
  rw[dF (by rw[zt];omega),zt,show a-min i ks.length=(a-1-i)+1 by omega,qJ,iC,show i+(a-1-i)=a-1 by omega]at hx;exact .inr (.inr ⟨h1,hx⟩)
 intro a b x y hab hx hy;rcases at' a x hx with⟨h1,e1⟩|⟨h1,e1⟩|⟨h1,e1⟩<;>rcases at' b y hy with⟨h2,e2⟩|⟨h2,e2⟩|⟨h2,e2⟩
 ·exact hs a b x y hab e1 e2
 ·subst e2;exact h.below a x h1 e1
 ·exact hs a (b-1) x y (by omega) e1 e2
 ·omega
 ·omega
 ·subst e1;have h3:=h.above (b-1) y (by omega) e2;rcases Nat.lt_or_ge x.toNat y.toNat with h4|h4
  ·exact h4
  exact absurd (fe e2) (by rw[UInt64.toNat_inj.1 (show y.toNat=x.toNat by omega)];exact hno)
 ·omega
 ·omega
 exact hs (a-1) (b-1) x y (by omega) e1 e2
theorem jV.drop_one{ks:List UInt64}(hs:jV ks)(i:Nat)(hi:i<ks.length):jV (ks.take i++ks.drop (i+1)):=by
 have at':∀(a:Nat) (x:UInt64),(ks.take i++ks.drop (i+1))[a]?=some x->(a<i/\ks[a]?=some x)\/(i<=a/\ks[a+1]?=some x):=λ a x hx=>by
  rcases Nat.lt_or_ge a i with h1|h1
  ·rw[dM (by rw[zt];omega),iO h1]at hx;exact .inl ⟨h1,hx⟩
  rw[dF (by rw[zt];omega),zt,iC,show i+1+(a-min i ks.length)=a+1 by omega]at hx;exact .inr ⟨h1,hx⟩
 intro a b x y hab hx hy;rcases at' a x hx with⟨h1,e1⟩|⟨h1,e1⟩<;>rcases at' b y hy with⟨h2,e2⟩|⟨h2,e2⟩
 ·exact hs a b x y hab e1 e2
 ·exact hs a (b+1) x y (by omega) e1 e2
 ·omega
 exact hs (a+1) (b+1) x y (by omega) e1 e2
section
variable{E:Nat->Prop}{W W' w2 wc:World}{P D T k:Nat}{A:AP}
structure LT(E:Nat->Prop)(W:World)(P D T rt:Nat)(A:AP)(k:Nat)(ks vs:List UInt64):Prop where
 at':bL E W P D T rt A k
 leaf:mQ A rt ks vs
 len:(A.c rt).length=504
end
section
variable{E:Nat->Prop}{W W' w2 wc:World}{P D T k:Nat}{A:AP}
theorem xvo(n:Int):Clean (lK n) 1:=by
 refine⟨(Ok.new n).fit,(Ok.new n).so,W9 n,(Kc n).wl,λ p h1 h2=>by omega,λ i hi=>?_⟩;rw[(Kc n).free]at hi;exact absurd hi (qh _)
def iT(pages:Int):AP:={aj:=1,ax:=iE pages,free:=[],c:=λ p=>jM (lK pages).x p,op:=none}
theorem LT.less{E':Nat->Prop}{rt:Nat}{ks vs:List UInt64}(h:LT E W P D T rt A k ks vs)(hE:∀j,E' j->E j)(hT:E' T):LT E' W P D T rt A k ks vs:=
 ⟨⟨h.at'.pz.less hE,h.at'.box,hT⟩,h.leaf,h.len⟩
end
open UK (str aO nth Only)
def aH(A:AP)(p:Nat):Option Nd:=mO (A.c p)
def qK(x:Nd):Bool:=decide (30<x.ai.length)||decide (40<x.ah.length)
def nu(x:Nd):Nd×Nd×UInt64:=
 if x.leaf then(⟨true,x.ai.take (x.ai.length/2),x.vals.take (x.ai.length/2),[]⟩,⟨true,x.ai.drop (x.ai.length/2),x.vals.drop (x.ai.length/2),[]⟩,x.ai.getD (x.ai.length/2) 0)
 else(⟨false,x.ai.take (x.ah.length/2-1),[],x.ah.take (x.ah.length/2)⟩,⟨false,x.ai.drop (x.ah.length/2),[],x.ah.drop (x.ah.length/2)⟩,x.ai.getD (x.ah.length/2-1) 0)
inductive jW(A:AP)(pg:Nat)(x:Nd):AP->Nat->UInt64->Int->Prop
 | one:qK x=false->jW A pg x (A.az pg (bg (A.c pg) x)) 0 0 0
 | none:qK x=true->A.Full->jW A pg x (A.az pg (bg (A.c pg) (nu x).1)) 0 (nu x).2.2 6
 | two:qK x=true->¬A.Full->jW A pg x ((A.az pg (bg (A.c pg) (nu x).1)).take.az A.next (bg (UK.bW 504) (nu x).2.1)) A.next (nu x).2.2 0
inductive kY(k v:UInt64):Nat->AP->Nat->AP->Nat->UInt64->Int->Prop
 | found {A:AP} {pg i:Nat} {ks vs:List UInt64}:aH A pg=some ⟨true,ks,vs,[]⟩->ks[i]?=some k->kY k v 0 A pg (A.az pg (bg (A.c pg) ⟨true,ks,vs.set i v,[]⟩)) 0 0 0
 | leaf {A B:AP} {pg i more:Nat} {ks vs:List UInt64} {κ:UInt64} {e:Int}:aH A pg=some ⟨true,ks,vs,[]⟩->fP ks k i->k∉ks->jW A pg ⟨true,ks.take i++k::ks.drop i,vs.take i++v::vs.drop i,[]⟩ B more κ e->kY k v 0 A pg B more κ e
 | stop {d:Nat} {A B:AP} {pg i c more:Nat} {ai:List UInt64} {ah:List Nat} {κ:UInt64} {e:Int}:aH A pg=some ⟨false,ai,[],ah⟩->dU ai k i->ah[i]?=some c->kY k v d A c B more κ e->(e≠0\/more=0)->kY k v (d+1) A pg B 0 0 e
 | up {d:Nat} {A B1 B:AP} {pg i c iY more:Nat} {ai:List UInt64} {ah:List Nat} {nL κ:UInt64} {e:Int}:aH A pg=some ⟨false,ai,[],ah⟩->dU ai k i->ah[i]?=some c->kY k v d A c B1 iY nL 0->iY≠0 ->
   jW B1 pg ⟨false,ai.take i++nL::ai.drop i,[],ah.take (i+1)++iY::ah.drop (i+1)⟩ B more κ e->kY k v (d+1) A pg B more κ e
structure mD(A B:AP)(ps new:List Nat):Prop where
 reach:A.Reach B
 eY:new.Nodup
 fresh:∀p∈new,¬A.Has p
 has:∀p,B.Has p↔A.Has p\/p∈new
 same:∀p,A.Has p->p∉ps->B.c p=A.c p
 ay:B.ay+new.length=A.ay
 fq:∀p,B.Has p->(B.c p).length=504
theorem mD.trans{A B C:AP}{ps ps2 new DX:List Nat}(h:mD A B ps new)(g:mD B C ps2 DX)(hs:∀p∈ps2,p∈ps\/p∈new):mD A C ps (new++DX):=by
 refine⟨h.reach.trans g.reach,?_,?_,λ p=>?_,λ p hp hn=>?_,?_,g.fq⟩
 ·rw[bF];exact⟨h.eY,g.eY,λ a ha b hb e=>g.fresh b hb ((h.has b).2 (.inr (e▸ha)))⟩
 ·intro p hp;rcases cB.1 hp with hp|hp
  ·exact h.fresh p hp
  exact λ ha=>g.fresh p hp ((h.has p).2 (.inl ha))
 ·rw[g.has,h.has,cB,or_assoc]
 ·rw[g.same p ((h.has p).2 (.inl hp)) (λ hm=>?_),h.same p hp hn];rcases hs p hm with h1|h1
  ·exact hn h1
  exact h.fresh p h1 hp
 have:=h.ay;have:=g.ay;rw[zl];omega
theorem mD.wider{A B:AP}{ps ps2 new:List Nat}(h:mD A B ps new)(hs:∀p∈ps,p∈ps2):mD A B ps2 new:=⟨h.reach,h.eY,h.fresh,h.has,λ p hp hn=>h.same p hp (λ hm=>hn (hs p hm)),h.ay,h.fq⟩
theorem mD.az{A:AP}{pg:Nat}{s:List UInt8}(hp:A.Has pg)(hc:∀p,A.Has p->(A.c p).length=504)(hs:s.length=504):mD A (A.az pg s) [pg] []:=by
 refine⟨(AP.Reach.refl A).az hp s,List.nodup_nil,λ _ h=>(by cases h),λ p=>by rw[AP.bu];simp,λ p _ hn=>?_,?_,λ p hp'=>?_⟩
 ·rw[AP.bG,if_neg];simp at hn;exact λ e=>hn e.symm
 ·rw[AP.ji];rfl
 rw[AP.bG]
 split
 ·exact hs
 exact hc p (AP.bu.1 hp')
theorem mD.take{A:AP}{s:List UInt8}(hg:A.Good)(hf:¬A.Full)(hc:∀p,A.Has p->(A.c p).length=504)(hs:s.length=504):mD A (A.take.az A.next s) [] [A.next]:=by
 have hgr:=(AP.Grown.nil A).cons hg hf s;refine⟨hgr.reach,by simp,hgr.new,hgr.has,λ p hp _=>hgr.same p hp,hgr.ay,λ p hp=>?_⟩;rcases(hgr.has p).1 hp with h1|h1
 ·rw[hgr.same p h1];exact hc p h1
 rw[bQ.1 h1,AP.bG,if_pos rfl];exact hs
theorem mD.good{A B:AP}{ps new:List Nat}(h:mD A B ps new)(g:A.Good):B.Good:=h.reach.good g
def oL(x:Nd):Prop:=(x.leaf=true->x.vals.length=x.ai.length/\x.ah=[]/\x.ai.length<=31)/\(x.leaf=false->x.ah.length=x.ai.length+1/\x.vals=[]/\2<=x.ah.length/\x.ah.length<=41/\∀k∈x.ah,k<4294967296)
theorem oL.fits{x:Nd}(h:oL x)(hf:qK x=false):Fits x:=by
 unfold qK at hf;simp only[Bool.or_eq_false_iff,decide_eq_false_iff_not]at hf;refine⟨λ hl=>?_,λ hl=>?_⟩
 ·obtain⟨h1,h2,_⟩:=h.1 hl;exact⟨by omega,h1,h2⟩
 obtain⟨h1,h2,h3,h4,h5⟩:=h.2 hl;exact⟨h1,h3,by omega,h2,h5⟩
theorem J4{ai vals:List UInt64}{ah:List Nat}{n:Nat}(h:ai.length/2=n):nu ⟨true,ai,vals,ah⟩=(⟨true,ai.take n,vals.take n,[]⟩,⟨true,ai.drop n,vals.drop n,[]⟩,ai.getD n 0):=by
 unfold nu;rw[if_pos rfl];dsimp only;rw[h]
theorem J5{ai vals:List UInt64}{ah:List Nat}{n:Nat}(h:ah.length/2=n):nu ⟨false,ai,vals,ah⟩=(⟨false,ai.take (n-1),[],ah.take n⟩,⟨false,ai.drop n,[],ah.drop n⟩,ai.getD (n-1) 0):=by
 unfold nu;rw[if_neg (by simp)];dsimp only;rw[h]
theorem oL.split{x:Nd}(h:oL x)(hf:qK x=true):Fits (nu x).1/\Fits (nu x).2.1/\tJ (nu x).1/\tJ (nu x).2.1/\(nu x).1.leaf=x.leaf/\(nu x).2.1.leaf=x.leaf:=by
 unfold qK at hf;simp only[Bool.or_eq_true,decide_eq_true_eq]at hf;obtain⟨lf,ai,vals,ah⟩:=x
 cases lf with
 | true=>
  obtain⟨h1,h2,h3⟩:=h.1 rfl;dsimp only at h1 h2 h3 hf;subst h2;have h31:ai.length=31:=by simp at hf;omega
  rw[J4 (n:=15) (by omega)];have l1:(ai.take 15).length=15:=by rw[zt];omega
  have l2:(ai.drop 15).length=16:=by rw[zd];omega
  have v1:(vals.take 15).length=15:=by rw[zt];omega
  have v2:(vals.drop 15).length=16:=by rw[zd];omega
  exact⟨⟨λ _=>⟨by dsimp only;omega,by dsimp only;omega,rfl⟩,(λ h=>by cases h)⟩,⟨λ _=>⟨by dsimp only;omega,by dsimp only;omega,rfl⟩,(λ h=>by cases h)⟩,⟨λ _=>by dsimp only;omega,(λ h=>by cases h)⟩,⟨λ _=>by dsimp only;omega,(λ h=>by cases h)⟩,rfl,rfl⟩
 | false=>
  obtain⟨h1,h2,h3,h4,h5⟩:=h.2 rfl;dsimp only at h1 h2 h3 h4 h5 hf;obtain⟨n,hn⟩:∃n,ah.length/2=n:=⟨_,rfl⟩;rw[J5 hn];have l1:(ai.take (n-1)).length=n-1:=by rw[zt];omega
  have l2:(ai.drop n).length=ai.length-n:=by rw[zd]
  have v1:(ah.take n).length=n:=by rw[zt];omega
  have v2:(ah.drop n).length=ah.length-n:=by rw[zd]
  exact⟨⟨(λ h=>by cases h),λ _=>⟨by dsimp only;omega,by dsimp only;omega,by dsimp only;omega,rfl,λ k hk=>h5 k (fI hk)⟩⟩,⟨(λ h=>by cases h),λ _=>⟨by dsimp only;omega,by dsimp only;omega,by dsimp only;omega,rfl,λ k hk=>h5 k (fA hk)⟩⟩,
   ⟨(λ h=>by cases h),λ _=>by dsimp only;omega⟩,⟨(λ h=>by cases h),λ _=>by dsimp only;omega⟩,rfl,rfl⟩
theorem J8:(UK.bW 504).length=504:=ko
theorem jW.out{A B:AP}{pg more:Nat}{x:Nd}{κ:UInt64}(h:jW A pg x B more κ 0)(hx:oL x)(hp:A.Has pg)(hg:A.Good)(hc:∀p,A.Has p->(A.c p).length=504) :
  ∃new,mD A B [pg] new/\((more=0/\new=[]/\qK x=false/\aH B pg=some x)\/(more≠0/\more<=60000/\new=[more]/\qK x=true/\κ=(nu x).2.2/\aH B pg=some (nu x).1/\aH B more=some (nu x).2.1)):=by
 have hpl:=hc pg hp
 cases h with
 | one hf=>
  have hfit:=hx.fits hf;refine⟨[],mD.az hp hc (by rw[uY _ _ (by omega) hfit,hpl]),.inl ⟨rfl,rfl,hf,?_⟩⟩;unfold aH;rw[AP.bG,if_pos rfl];exact GZ _ _ (by omega) hfit
 | two hf hfull=>
  obtain⟨f1,f2,_⟩:=hx.split hf;have c1:mD A (A.az pg (bg (A.c pg) (nu x).1)) [pg] []:=mD.az hp hc (by rw[uY _ _ (by omega) f1,hpl]);have hg1:=c1.good hg;have c2:mD (A.az pg (bg (A.c pg) (nu x).1)) ((A.az pg (bg (A.c pg) (nu x).1)).take.az A.next (bg (UK.bW 504) (nu x).2.1)) [] [A.next]:=mD.take hg1 hfull c1.fq (by rw[uY _ _ (by rw[J8];omega) f2,J8]);have hnx:=hg.next hfull;have hne:A.next≠pg:=λ e=>hnx.1 (e▸hp);refine⟨[A.next],by simpa using c1.trans c2 (λ p hp=>by cases hp),.inr ⟨by omega,hnx.2.2,rfl,hf,rfl,?_,?_⟩⟩
  ·unfold aH;rw[c2.same pg (AP.bu.2 hp) (by simp),AP.bG,if_pos rfl];exact GZ _ _ (by omega) f1
  unfold aH;rw[AP.bG,if_pos rfl];exact GZ _ _ (by rw[J8];omega) f2
theorem tJ.grow{x y:Nd}(h:tJ x)(hl:y.leaf=x.leaf)(h1:x.ai.length<=y.ai.length)(h2:x.ah.length<=y.ah.length):tJ y:=
 ⟨λ e=>bf (h.1 (hl.symm.trans e)) h1,λ e=>bf (h.2 (hl.symm.trans e)) h2⟩
theorem Vh{ks vs:List UInt64}(hs:jV ks){h:Nat}(hh:h<ks.length):(∀x∈(ks.take h).zip (vs.take h),x.1.toNat<(ks.getD h 0).toNat)/\(∀x∈(ks.drop h).zip (vs.drop h),(ks.getD h 0).toNat<=x.1.toNat):=by
 have hk:ks[h]?=some (ks.getD h 0):=by rw[fK,di hh];rfl
 refine⟨λ x hx=>?_,λ x hx=>?_⟩
 ·obtain⟨j,hj,ui⟩:=jb (List.of_mem_zip hx).1;rw[zt]at hj;rw[List.getElem_take]at ui;exact hs j h _ _ (by omega) (by rw[di (by omega),ui]) hk
 obtain⟨j,hj,ui⟩:=jb (List.of_mem_zip hx).1;rw[zd]at hj;rw[List.getElem_drop]at ui;rcases Nat.eq_zero_or_pos j with h0|h0
 ·subst h0;rw[<-ui,fK,di hh];exact aZ _
 have:=hs h (h+j) _ x.1 (by omega) hk (by rw[di (by omega),ui]);omega
theorem jV.take{ks:List UInt64}(h:jV ks)(n:Nat):jV (ks.take n):=λ a b x y hab hx hy=>by
 have h1:=(dn.1 hx).1;have h2:=(dn.1 hy).1;rw[zt]at h1 h2;rw[iO (by omega)]at hx hy;exact h a b x y hab hx hy
theorem jV.drop{ks:List UInt64}(h:jV ks)(n:Nat):jV (ks.drop n):=λ a b x y hab hx hy=>by
 rw[iC]at hx hy;exact h (n+a) (n+b) x y (by omega) hx hy
structure Ib(A B:AP)(d:Nat)(s:Sb)(l:List KV)(more:Nat)(κ:UInt64)(new:List Nat):Prop where
 gG:mD A B s.ps new
 few:new.length<=d+1
 one:more=0->∃t,Tr (aH B) d t/\t.pg=s.pg/\t.l=l/\t.ps.Nodup/\(∀p,p∈t.ps↔p∈s.ps\/p∈new)/\(jk (aH A) s.pg->jk (aH B) s.pg)/\(∀x,aH A s.pg=some x->x.leaf=false->∃y,aH B s.pg=some y/\y.leaf=false)
 two:more≠0->more<=60000/\∃t u,Tr (aH B) d t/\Tr (aH B) d u/\t.pg=s.pg/\u.pg=more/\t.l++u.l=l/\(∀x∈t.l,x.1.toNat<κ.toNat)/\(∀x∈u.l,κ.toNat<=x.1.toNat)/\jk (aH B) s.pg/\jk (aH B) more/\(t.ps++u.ps).Nodup/\(∀p,p∈t.ps++u.ps↔p∈s.ps\/p∈new)
theorem MR{a b c c' new:List Nat}(h:(a++(c++b)).Nodup)(hc:c'.Nodup)(hm:∀p∈c',p∈c\/p∈new)(hn:∀p∈new,p∉a/\p∉b):(a++(c'++b)).Nodup:=by
 rw[bF,bF]at h ⊢;obtain⟨h1,⟨h2,h3,h4⟩,h5⟩:=h;refine⟨h1,⟨hc,h3,λ p hp q hq e=>?_⟩,λ p hp q hq e=>?_⟩
 ·rcases hm p hp with h6|h6
  ·exact h4 p h6 q hq e
  exact(hn p h6).2 (e▸hq)
 rcases cB.1 hq with hq|hq
 ·rcases hm q hq with h6|h6
  ·exact h5 p hp q (bR _ h6) e
  exact(hn q h6).1 (e▸hp)
 exact h5 p hp q (fE _ hq) e
theorem Tr.gG{A B:AP}{ps new:List Nat}{d:Nat}{s:Sb}(hT:Tr (aH A) d s)(hc:mD A B ps new)(hh:∀p∈s.ps,A.Has p)(hd:∀p∈s.ps,p∉ps):Tr (aH B) d s/\(jk (aH A) s.pg->jk (aH B) s.pg):=by
 have hsame:∀p∈s.ps,aH B p=aH A p:=λ p hp=>by unfold aH;rw[hc.same p (hh p hp) (hd p hp)]
 refine⟨Tr.same d s hT hsame,λ ⟨x,h1,h2⟩=>⟨x,(hsame _ hT.mem).trans h1,h2⟩⟩
theorem Pz{ae:List Sb}{i c:Nat}(h:(ae.map Sb.pg)[i]?=some c):∃t,ae[i]?=some t/\t.pg=c:=by
 rw[dW]at h;obtain⟨t,ht,e⟩:=Option.map_eq_some_iff.1 h;exact⟨t,ht,e⟩
structure eH(A:AP)(d:Nat)(s:Sb)(ai:List UInt64)(ae:List Sb)(i:Nat)(t:Sb):Prop where
 nd:aH A s.pg=some ⟨false,ai,[],ae.map Sb.pg⟩
 jZ:jF (λ t=>Tr (aH A) d t/\jk (aH A) t.pg) ai ae
 l:s.l=il ae
 ps:s.ps=s.pg::dZ ae
 at_:ae[i]?=some t
section
variable{A B:AP}{d i:Nat}{s t:Sb}{ai:List UInt64}{ae:List Sb}{k:UInt64}
theorem eH.mem(h:eH A d s ai ae i t):t∈ae:=fe h.at_
theorem eH.sub(h:eH A d s ai ae i t):∀p∈t.ps,p∈s.ps:=λ p hp=>by rw[h.ps];exact eu _ (yO h.mem hp)
theorem eH.nodup(h:eH A d s ai ae i t)(hn:s.ps.Nodup):((s.pg::dZ (ae.take i))++(t.ps++dZ (ae.drop (i+1)))).Nodup:=by
 rw[h.ps,J9 h.at_]at hn;exact hn
theorem eH.tn(h:eH A d s ai ae i t)(hn:s.ps.Nodup):t.ps.Nodup:=(bF.1 (bF.1 (h.nodup hn)).2.1).1
theorem eH.oO(h:eH A d s ai ae i t)(hn:s.ps.Nodup):s.pg∉t.ps:=λ hm=>(bF.1 (h.nodup hn)).2.2 s.pg (by simp) s.pg (by simp[hm]) rfl
theorem eH.lo(h:eH A d s ai ae i t){p:Nat}(hp:p∈s.pg::dZ (ae.take i)):p∈s.ps:=by
 rw[h.ps,J9 h.at_];rcases aX.1 hp with e|e
 ·simp[e]
 simp[e]
theorem eH.hi(h:eH A d s ai ae i t){p:Nat}(hp:p∈dZ (ae.drop (i+1))):p∈s.ps:=by
 rw[h.ps,J9 h.at_];simp[hp]
theorem eH.other(h:eH A d s ai ae i t)(hn:s.ps.Nodup):∀u∈ae.take i++ae.drop (i+1),∀p∈u.ps,p∉t.ps/\p≠s.pg/\p∈s.ps:=by
 have hd:=h.nodup hn;rw[bF,bF]at hd;obtain⟨h1,⟨h2,h3,h4⟩,h5⟩:=hd;intro u hu p hp;rcases cB.1 hu with hu|hu
 ·have hm:=yO hu hp;exact⟨λ ht=>h5 p (by simp[hm]) p (by simp[ht]) rfl,λ e=>(dL.1 h1).1 (e▸hm),by rw[h.ps];exact eu _ (yO (fI hu) hp)⟩
 have hm:=yO hu hp;exact⟨λ ht=>h4 p ht p hm rfl,λ e=>h5 s.pg (by simp) p (by simp[hm]) e.symm,by rw[h.ps];exact eu _ (yO (fA hu) hp)⟩
end
theorem Tr.kid{A:AP}{d i c:Nat}{s:Sb}{ai:List UInt64}{ah:List Nat}(hT:Tr (aH A) (d+1) s)(hn:aH A s.pg=some ⟨false,ai,[],ah⟩)(hk:ah[i]?=some c):∃ae t,eH A d s ai ae i t/\t.pg=c/\ah=ae.map Sb.pg/\Tr (aH A) d t/\jk (aH A) t.pg:=by
 obtain⟨keys',ae,h1,h2,h3,h4⟩:=hT;rw[hn]at h1
 injection bC h1 with _ e1 _ e2
 subst e1 e2;obtain⟨t,ht,e⟩:=Pz hk;obtain⟨a,b⟩:=h2.all t (fe ht);exact⟨ae,t,⟨hn,h2,h3,h4,ht⟩,e,rfl,a,b⟩
theorem ZN{ae:List Sb}{i:Nat}{t t' u:Sb}(h:ae[i]?=some t)(e:t'.pg=t.pg):(ae.take i++t'::u::ae.drop (i+1)).map Sb.pg=(ae.map Sb.pg).take (i+1)++u.pg::(ae.map Sb.pg).drop (i+1):=by
 have hi:=(dn.1 h).1
 have e1:(ae.map Sb.pg).take (i+1)=(ae.map Sb.pg).take i++[t.pg]:=by
  rw[ow,dW,h];rfl
 rw[e1,jr,List.map_cons,List.map_cons,e,List.map_take,List.map_drop,dH];rfl
theorem F6{ae:List Sb}{i:Nat}{t t':Sb}(h:ae[i]?=some t)(e:t'.pg=t.pg):(ae.take i++t'::ae.drop (i+1)).map Sb.pg=ae.map Sb.pg:=by
 conv=>rhs;rw[Ia h]
 rw[jr,jr,List.map_cons,List.map_cons,e]
theorem η{a b c new:List Nat}{p:Nat}:(p∈a++(c++b)\/p∈new)↔(p∈a\/p∈b)\/(p∈c\/p∈new):=by
 simp only[cB]
 constructor
 ·rintro((h|h|h)|h)
  ·exact .inl (.inl h)
  ·exact .inr (.inl h)
  ·exact .inl (.inr h)
  exact .inr (.inr h)
 rintro((h|h)|h|h)
 ·exact .inl (.inl h)
 ·exact .inl (.inr (.inr h))
 ·exact .inl (.inr (.inl h))
 exact .inr h
theorem P5{a b c:List Nat}{p:Nat}:p∈a++(c++b)↔(p∈a\/p∈b)\/p∈c:=by
 simp only[cB]
 constructor
 ·rintro(h|h|h)
  ·exact .inl (.inl h)
  ·exact .inr h
  exact .inl (.inr h)
 rintro((h|h)|h)
 ·exact .inl h
 ·exact .inr (.inr h)
 exact .inr (.inl h)
theorem Gs{k v:UInt64}{d:Nat}{A B:AP}{pg more:Nat}{κ:UInt64}{e:Int}(h:kY k v d A pg B more κ e):e=0->∀s,Tr (aH A) d s->s.pg=pg->s.ps.Nodup->(∀p∈s.ps,A.Has p)->A.Good->(∀p,A.Has p->(A.c p).length=504)->∃new,Ib A B d s (fZ s.l k v) more κ new:=by
 induction h with
 | @found A pg i ks vs hn hk=>
  intro _ s hT cK hnd hh hg hc;subst cK;obtain⟨ks',vs',h1,h2,h3,h4,h5⟩:=hT;rw[hn]at h1
  injection bC h1 with _ e1 e2 _
  subst e1 e2;have hp:=hh s.pg (by rw[h5];simp);have hf0:=mE hn;have hfit:Fits ⟨true,ks,vs.set i v,[]⟩:=⟨λ _=>⟨(hf0.leaf rfl).1,by simpa using h2,rfl⟩,(λ h=>by cases h)⟩
  have nJ:aH (A.az s.pg (bg (A.c s.pg) ⟨true,ks,vs.set i v,[]⟩)) s.pg=some ⟨true,ks,vs.set i v,[]⟩:=by
   unfold aH;rw[AP.bG,if_pos rfl];exact GZ _ _ (by rw[hc _ hp];omega) hfit
  refine⟨[],⟨by rw[h5];exact mD.az hp hc (by rw[uY _ _ (by rw[hc _ hp];omega) hfit,hc _ hp]),by simp,λ _=>⟨⟨s.pg,ks.zip (vs.set i v),[s.pg]⟩,⟨ks,vs.set i v,nJ,by simpa using h2,h3,rfl,rfl⟩,rfl,?_,by simp,λ p=>by rw[h5];simp,?_,λ x hx hl=>?_⟩,λ h=>absurd rfl h⟩⟩
  ·rw[h4];exact(xx9 h3 hk h2).symm
  ·rintro⟨x,hx,hf⟩;rw[hn]at hx;obtain rfl:=bC hx;exact⟨_,nJ,hf⟩
  rw[hn]at hx;obtain rfl:=bC hx
  cases hl
 | @leaf A B pg i more ks vs κ e hn hst hno hset=>
  intro he s hT cK hnd hh hg hc;subst cK he;obtain⟨ks',vs',h1,h2,h3,h4,h5⟩:=hT;rw[hn]at h1
  injection bC h1 with _ e1 e2 _
  subst e1 e2;have hp:=hh s.pg (by rw[h5];simp);have hf0:=(mE hn).leaf rfl;dsimp only at hf0;have hle:=hst.le;have hlk:(ks.take i++k::ks.drop i).length=ks.length+1:=by simp;omega
  have hlv:(vs.take i++v::vs.drop i).length=ks.length+1:=by simp;omega
  have hsort:jV (ks.take i++k::ks.drop i):=fP.sorted hst h3 hno;have hok:oL ⟨true,ks.take i++k::ks.drop i,vs.take i++v::vs.drop i,[]⟩:=⟨λ _=>⟨by dsimp only;omega,rfl,by dsimp only;omega⟩,(λ h=>by cases h)⟩;have hins:=xx8 (v:=v) hst h2 hno;obtain⟨new,jE,hcase⟩:=hset.out hok hp hg hc;rcases hcase with⟨rfl,rfl,hfl,hB⟩|⟨hm0,Pw,rfl,hfl,rfl,hB1,hB2⟩
  ·refine⟨[],⟨by rw[h5];exact jE,by simp,λ _=>⟨⟨s.pg,_,[s.pg]⟩,⟨_,_,hB,by omega,hsort,rfl,rfl⟩,rfl,?_,by simp,λ p=>by rw[h5];simp,?_,λ x hx hl=>?_⟩,λ h=>absurd rfl h⟩⟩
   ·rw[h4];exact hins.symm
   ·rintro⟨x,hx,hf⟩;rw[hn]at hx;obtain rfl:=bC hx;exact⟨_,hB,hf.grow rfl (by dsimp only;omega) (aZ _)⟩
   rw[hn]at hx;obtain rfl:=bC hx
   cases hl
  obtain⟨f1,f2,Cx,Ic,_,_⟩:=hok.split hfl;have hmp:more≠s.pg:=λ e=>jE.fresh more (by simp) (e▸hp)
  have h31:ks.length+1=31:=by
   unfold qK at hfl;simp only[Bool.or_eq_true,decide_eq_true_eq,hlk,List.length_nil]at hfl;omega
  refine⟨[more],⟨by rw[h5];exact jE,by simp,λ h=>absurd h hm0,λ _=>⟨Pw,⟨s.pg,((ks.take i++k::ks.drop i).take 15).zip ((vs.take i++v::vs.drop i).take 15),[s.pg]⟩,⟨more,((ks.take i++k::ks.drop i).drop 15).zip ((vs.take i++v::vs.drop i).drop 15),[more]⟩,?_,?_,rfl,rfl,?_,?_,?_,⟨_,hB1,Cx⟩,⟨_,hB2,Ic⟩,?_,λ p=>by rw[h5];simp⟩⟩⟩
  ·refine⟨_,_,by rw[hB1,J4 (n:=15) (by omega)],?_,hsort.take 15,rfl,rfl⟩;rw[zt,zt];omega
  ·refine⟨_,_,by rw[hB2,J4 (n:=15) (by omega)],?_,hsort.drop 15,rfl,rfl⟩;rw[zd,zd];omega
  ·rw[<-List.zip_append (by rw[zt,zt];omega),gm,gm,h4];exact hins.symm
  ·have:=(Vh (vs:=vs.take i++v::vs.drop i) hsort (h:=15) (by omega)).1;rw[J4 (n:=15) (by omega)];exact this
  ·have:=(Vh (vs:=vs.take i++v::vs.drop i) hsort (h:=15) (by omega)).2;rw[J4 (n:=15) (by omega)];exact this
  simp[eU hmp]
 | @stop d A B pg i c more ai ah κ e hn hix eP hrec hor ih=>
  intro he s hT cK hnd hh hg hc;subst cK he;obtain rfl:more=0:=by rcases hor with h|h;exact absurd rfl h;exact h
  obtain⟨ae,t,hK,hpt,rfl,ng,qb⟩:=hT.kid hn eP;obtain⟨new,hO⟩:=ih rfl t ng hpt (hK.tn hnd) (λ p hp=>hh p (hK.sub p hp)) hg hc;obtain⟨t',hT',gU,hl',hn',hm',MS,_⟩:=hO.one rfl;have jE:=hO.gG.wider hK.sub
  have jX:=(hK.jZ.imp (Q:=λ _=>True) (λ _ _ _=>trivial)).set hK.at_ hix (t:=t') (λ x hx=>by
   rw[hl']at hx;rcases ZU hx with h|h
   ·exact .inl h
   exact .inr (by rw[h])) trivial
  have hother:∀u∈ae.take i++ae.drop (i+1),Tr (aH B) d u/\jk (aH B) u.pg:=λ u hu=>by
   have DY:u∈ae:=by
    rcases cB.1 hu with h|h
    ·exact fI h
    exact fA h
   obtain⟨a,b⟩:=hK.jZ.all u DY;have ho:=hK.other hnd u hu;obtain⟨a',b'⟩:=Tr.gG a hO.gG (λ p hp=>hh p (ho p hp).2.2) (λ p hp=>(ho p hp).1);exact⟨a',b' b⟩
  have rG:aH B s.pg=aH A s.pg:=by unfold aH;rw[hO.gG.same s.pg (hh _ hT.mem) (hK.oO hnd)]
  refine⟨new,⟨jE,bf hO.few (by omega),λ _=>⟨⟨s.pg,il (ae.take i++t'::ae.drop (i+1)),s.pg::dZ (ae.take i++t'::ae.drop (i+1))⟩,⟨ai,ae.take i++t'::ae.drop (i+1),?_,⟨jX.len,jX.ord,λ u hu=>?_⟩,rfl,rfl⟩,rfl,?_,?_,λ p=>?_,λ ⟨x,hx,hf⟩=>⟨x,rG.trans hx,hf⟩,λ x hx hl=>⟨x,rG.trans hx,hl⟩⟩,λ h=>absurd rfl h⟩⟩
  ·dsimp only;rw[rG,hn,F6 hK.at_ (gU.trans rfl)]
  ·rcases cB.1 hu with h|h
   ·exact hother u (by simp[h])
   rcases aX.1 h with rfl|h
   ·rw[gU];exact⟨hT',MS qb⟩
   exact hother u (by simp[h])
  ·dsimp only;rw[hK.l,Dm hK.at_,Cw,vM,hl',Py (ET (hK.jZ.left hK.at_ hix.below)) (Jo (hK.jZ.right hK.at_ hix.above))]
  ·have:=MR (hK.nodup hnd) hn' (λ p hp=>(hm' p).1 hp) (λ p hp=>⟨λ hx=>hO.gG.fresh p hp (hh p (hK.lo hx)),λ hx=>hO.gG.fresh p hp (hh p (hK.hi hx))⟩);rw[vL,wH];exact this
  dsimp only;rw[hK.ps,J9 hK.at_,vL,wH,<-jA,<-jA,P5,η,hm' p]
 | @up d A B1 B pg i c iY more ai ah nL κ e hn hix eP hrec hm1 hset ih=>
  intro he s hT cK hnd hh hg hc;subst cK he;obtain⟨ae,t,hK,hpt,rfl,ng,qb⟩:=hT.kid hn eP;obtain⟨wG,hO⟩:=ih rfl t ng hpt (hK.tn hnd) (λ p hp=>hh p (hK.sub p hp)) hg hc;obtain⟨Pw,t',u',hT',Vb,gU,Bp,hl',hlt,hge,hF1,hF2,hn',hm'⟩:=hO.two hm1;have MU:=hO.gG.wider hK.sub
  have hin:∀x∈t'.l++u'.l,x∈t.l\/x.1=k:=λ x hx=>by
   rw[hl']at hx;rcases ZU hx with h|h
   ·exact .inl h
   exact .inr (by rw[h])
  have ht0:t'.l≠[]:=λ h0=>by have:=hT'.many _ _ (by rw[gU];exact hF1);rw[h0]at this;simp at this
  have hu0:u'.l≠[]:=λ h0=>by have:=Vb.many _ _ (by rw[Bp];exact hF2);rw[h0]at this;simp at this
  have jX:=(hK.jZ.imp (Q:=λ _=>True) (λ _ _ _=>trivial)).ins hK.at_ hix (t:=t') (u:=u') (κ:=nL) (λ x hx=>hin x (by simp[hx])) (λ x hx=>hin x (by simp[hx])) hlt hge ht0 hu0 trivial trivial;have hf0:=(mE hn).inner rfl;dsimp only at hf0;obtain⟨z1,z2,z3,_,z5⟩:=hf0;have hi:=(dn.1 hK.at_).1;have y9:=ZN (t':=t') (u:=u') hK.at_ gU;rw[Bp]at y9
  have hkl:((ae.map Sb.pg).take (i+1)++iY::(ae.map Sb.pg).drop (i+1)).length=(ae.map Sb.pg).length+1:=by
   rw[<-y9];simp;omega
  have abl:aH B1 s.pg=aH A s.pg:=by unfold aH;rw[hO.gG.same s.pg (hh _ hT.mem) (hK.oO hnd)]
  have hok:oL ⟨false,ai.take i++nL::ai.drop i,[],(ae.map Sb.pg).take (i+1)++iY::(ae.map Sb.pg).drop (i+1)⟩:=by
   refine⟨(λ h=>by cases h),λ _=>⟨?_,rfl,?_,?_,λ q hq=>?_⟩⟩
   ·dsimp only;rw[hkl];simp;simp at z1;omega
   ·dsimp only;rw[hkl];omega
   ·dsimp only;rw[hkl];omega
   rcases cB.1 hq with h|h
   ·exact z5 q (fI h)
   rcases aX.1 h with rfl|h
   ·omega
   exact z5 q (fA h)
  have Vi:B1.Has s.pg:=(hO.gG.has _).2 (.inl (hh _ hT.mem));obtain⟨DX,Bq,hcase⟩:=hset.out hok Vi (hO.gG.good hg) hO.gG.fq;have jE:mD A B s.ps (wG++DX):=MU.trans Bq (λ p hp=>.inl (by rw[bQ.1 hp];exact hT.mem))
  -- the ah stand behind the write
  have xK:∀p,(p∈s.ps\/p∈wG)->B1.Has p:=λ p hp=>(hO.gG.has p).2 (by rcases hp with h|h;exact .inl (hh p h);exact .inr h)
  have hall:∀w∈ae.take i++t'::u'::ae.drop (i+1),Tr (aH B) d w/\jk (aH B) w.pg:=λ w hw=>by
   have hB1:(Tr (aH B1) d w/\jk (aH B1) w.pg)/\∀p∈w.ps,B1.Has p/\p≠s.pg:=by
    have hoth:∀u∈ae.take i++ae.drop (i+1),(Tr (aH B1) d u/\jk (aH B1) u.pg)/\∀p∈u.ps,B1.Has p/\p≠s.pg:=λ u hu=>by
     have DY:u∈ae:=by
      rcases cB.1 hu with h|h
      ·exact fI h
      exact fA h
     obtain⟨a,b⟩:=hK.jZ.all u DY;have ho:=hK.other hnd u hu;obtain⟨a',b'⟩:=Tr.gG a hO.gG (λ p hp=>hh p (ho p hp).2.2) (λ p hp=>(ho p hp).1);exact⟨⟨a',b' b⟩,λ p hp=>⟨xK p (.inl (ho p hp).2.2),(ho p hp).2.1⟩⟩
    have hnew:∀p∈t'.ps++u'.ps,B1.Has p/\p≠s.pg:=λ p hp=>by
     rcases(hm' p).1 hp with h|h
     ·exact⟨xK p (.inl (hK.sub p h)),λ e=>hK.oO hnd (e▸h)⟩
     exact⟨xK p (.inr h),λ e=>hO.gG.fresh p h (e▸hh _ hT.mem)⟩
    rcases cB.1 hw with h|h
    ·exact hoth w (by simp[h])
    rcases aX.1 h with rfl|h
    ·exact⟨⟨hT',by rw[gU];exact hF1⟩,λ p hp=>hnew p (by simp[hp])⟩
    rcases aX.1 h with rfl|h
    ·exact⟨⟨Vb,by rw[Bp];exact hF2⟩,λ p hp=>hnew p (by simp[hp])⟩
    exact hoth w (by simp[h])
   obtain⟨⟨a,b⟩,c⟩:=hB1;obtain⟨a',b'⟩:=Tr.gG a Bq (λ p hp=>(c p hp).1) (λ p hp=>by simpa using(c p hp).2);exact⟨a',b' b⟩
  have hl2:il (ae.take i++t'::u'::ae.drop (i+1))=fZ s.l k v:=by
   rw[hK.l,Dm hK.at_,Cw,vM,vM,Py (ET (hK.jZ.left hK.at_ hix.below)) (Jo (hK.jZ.right hK.at_ hix.above)),<-hl',dH]
  have wJ:(s.pg::dZ (ae.take i++t'::u'::ae.drop (i+1))).Nodup/\∀p,p∈s.pg::dZ (ae.take i++t'::u'::ae.drop (i+1))↔p∈s.ps\/p∈wG:=by
   have e1:s.pg::dZ (ae.take i++t'::u'::ae.drop (i+1))=(s.pg::dZ (ae.take i))++((t'.ps++u'.ps)++dZ (ae.drop (i+1))):=by
    rw[vL,wH,wH,dH];rfl
   rw[e1];refine⟨MR (hK.nodup hnd) hn' (λ p hp=>(hm' p).1 hp) (λ p hp=>⟨λ hx=>hO.gG.fresh p hp (hh p (hK.lo hx)),λ hx=>hO.gG.fresh p hp (hh p (hK.hi hx))⟩),λ p=>?_⟩;rw[hK.ps,J9 hK.at_,<-jA,P5,η,hm' p]
  rcases hcase with⟨rfl,rfl,hfl,hB⟩|⟨hm0,Vj,rfl,hfl,rfl,DZ,hB2'⟩
  ·rw[jw]at jE;refine⟨wG,⟨jE,bf hO.few (by omega),λ _=>⟨⟨s.pg,il (ae.take i++t'::u'::ae.drop (i+1)),s.pg::dZ (ae.take i++t'::u'::ae.drop (i+1))⟩,⟨_,_,by rw[hB,y9],⟨jX.len,jX.ord,hall⟩,rfl,rfl⟩,rfl,hl2,wJ.1,wJ.2,?_,λ x hx hl=>⟨_,hB,rfl⟩⟩,λ h=>absurd rfl h⟩⟩;rintro⟨x,hx,hf⟩;rw[hn]at hx;obtain rfl:=bC hx;exact⟨_,hB,hf.grow rfl (by dsimp only;simp;omega) (by dsimp only;rw[hkl];omega)⟩
  obtain⟨f1,f2,Cx,Ic,_,_⟩:=hok.split hfl
  have h41:32<=(ae.map Sb.pg).length+1/\(ae.map Sb.pg).length+1<=41:=by
   unfold qK at hfl;simp only[Bool.or_eq_true,decide_eq_true_eq,hkl]at hfl;rw[zl,dw,zt,zd]at hfl;simp at z1 z3 hfl ⊢;omega
  have hS:(ae.take i++t'::u'::ae.drop (i+1)).length=(ae.map Sb.pg).length+1:=by rw[<-hkl,<-y9,kg]
  have hKl:(ai.take i++nL::ai.drop i).length=(ae.map Sb.pg).length:=by have:=jX.len;omega
  generalize hss:ae.take i++t'::u'::ae.drop (i+1)=ss at jX hall hl2 wJ y9 hS;generalize hkk:ai.take i++nL::ai.drop i=kk at jX hKl DZ hB2' Cx Ic;rw[<-y9]at DZ hB2' Cx Ic;obtain⟨n,hnn⟩:∃n,(ss.map Sb.pg).length/2=n:=⟨_,rfl⟩;have θ:(ss.map Sb.pg).length=(ae.map Sb.pg).length+1:=by rw[kg];exact hS
  have ek:kk=kk.take (n-1)++kk.getD (n-1) 0::kk.drop n:=by
   have:=gm (n-1) kk;rw[nY (by omega),show n-1+1=n by omega]at this;rw[fK,di (by omega)];exact this.symm
  have es:ss=ss.take n++ss.drop n:=(gm n ss).symm
  have hin2:jF (λ w=>Tr (aH B) d w/\jk (aH B) w.pg) (kk.take (n-1)++kk.getD (n-1) 0::kk.drop n) (ss.take n++ss.drop n):=by
   rw[<-ek,<-es];exact⟨jX.len,jX.ord,hall⟩
  obtain⟨i1,i2,i3,i4⟩:=hin2.F5 (by rw[zt,zt];omega);have fD:=hO.few;refine⟨wG++[more],⟨jE,by rw[zl];simp;omega,λ h=>absurd h hm0,λ _=>⟨Vj,⟨s.pg,il (ss.take n),s.pg::dZ (ss.take n)⟩,⟨more,il (ss.drop n),more::dZ (ss.drop n)⟩,⟨kk.take (n-1),ss.take n,?_,i1,rfl,rfl⟩,⟨kk.drop n,ss.drop n,?_,i2,rfl,rfl⟩,rfl,rfl,?_,?_,?_,⟨_,DZ,Cx⟩,⟨_,hB2',Ic⟩,?_,λ p=>?_⟩⟩⟩
  ·dsimp only;rw[DZ,J5 hnn,List.map_take]
  ·dsimp only;rw[hB2',J5 hnn,List.map_drop]
  ·dsimp only;rw[<-Cw,<-es,hl2]
  ·dsimp only;rw[<-y9,J5 hnn];exact i3
  ·dsimp only;rw[<-y9,J5 hnn];exact i4
  ·dsimp only
   have hm:more∉s.pg::dZ ss:=λ hx=>by
    have:=(wJ.2 more).1 hx;exact Bq.fresh more (by simp) (xK more this)
   rw[es,vL]at wJ hm;rw[bF];have h0:=wJ.1;rw[<-jA,bF]at h0;refine⟨h0.1,dL.2 ⟨λ hx=>hm (by simp[hx]),h0.2.1⟩,λ a ha b hb e=>?_⟩;rcases aX.1 hb with rfl|hb
   ·exact hm (by rw[<-e,<-jA];exact bR _ ha)
   exact h0.2.2 a ha b hb e
  dsimp only;have h0:=wJ.2 p;rw[es,vL]at h0;simp only[cB,aX,List.not_mem_nil,or_false]at h0 ⊢
  constructor
  ·rintro((h|h)|h|h)
   ·rcases h0.1 (.inl h)with h|h
    ·exact .inl h
    exact .inr (.inl h)
   ·rcases h0.1 (.inr (.inl h))with h|h
    ·exact .inl h
    exact .inr (.inl h)
   ·exact .inr (.inr h)
   rcases h0.1 (.inr (.inr h))with h|h
   ·exact .inl h
   exact .inr (.inl h)
  rintro(h|h|h)
  ·rcases h0.2 (.inl h)with h|h|h
   ·exact .inl (.inl h)
   ·exact .inl (.inr h)
   exact .inr (.inr h)
  ·rcases h0.2 (.inr h)with h|h|h
   ·exact .inl (.inl h)
   ·exact .inl (.inr h)
   exact .inr (.inr h)
  exact .inr (.inl h)
def iB(a b:Nd)(κ:UInt64):Nd×Nd×UInt64×Bool:=
 if a.leaf then
  if a.ai.length+b.ai.length<=30 then(⟨true,a.ai++b.ai,a.vals++b.vals,[]⟩,b,0,true)
  else(⟨true,(a.ai++b.ai).take ((a.ai++b.ai).length/2),(a.vals++b.vals).take ((a.ai++b.ai).length/2),[]⟩,⟨true,(a.ai++b.ai).drop ((a.ai++b.ai).length/2),(a.vals++b.vals).drop ((a.ai++b.ai).length/2),[]⟩,(a.ai++b.ai).getD ((a.ai++b.ai).length/2) 0,false)
 else
  if (a.ah++b.ah).length<=40 then(⟨false,a.ai++κ::b.ai,[],a.ah++b.ah⟩,b,0,true)
  else(⟨false,(a.ai++κ::b.ai).take ((a.ah++b.ah).length/2-1),[],(a.ah++b.ah).take ((a.ah++b.ah).length/2)⟩,⟨false,(a.ai++κ::b.ai).drop ((a.ah++b.ah).length/2),[],(a.ah++b.ah).drop ((a.ah++b.ah).length/2)⟩,(a.ai++κ::b.ai).getD ((a.ah++b.ah).length/2-1) 0,false)
def yP(n i:Nat):Nat:=if i=n-1 then i-1 else i
inductive fB(k:UInt64):Nat->AP->Nat->AP->Bool->Bool->Prop
 | none {A:AP} {pg:Nat} {ks vs:List UInt64}:aH A pg=some ⟨true,ks,vs,[]⟩->k∉ks->fB k 0 A pg A false false
 | leaf {A:AP} {pg i:Nat} {ks vs:List UInt64}:aH A pg=some ⟨true,ks,vs,[]⟩->ks[i]?=some k->fB k 0 A pg (A.az pg (bg (A.c pg) ⟨true,ks.take i++ks.drop (i+1),vs.take i++vs.drop (i+1),[]⟩)) true (decide (ks.length-1<15))
 | MV {d:Nat} {A B:AP} {pg i c:Nat} {ai:List UInt64} {ah:List Nat} {was:Bool}:aH A pg=some ⟨false,ai,[],ah⟩->dU ai k i->ah[i]?=some c->fB k d A c B was false->fB k (d+1) A pg B was false
 | even {d:Nat} {A B1 B2:AP} {pg i c m ca cb:Nat} {ai:List UInt64} {ah:List Nat} {was:Bool} {a b a' b':Nd} {κ eG:UInt64}:aH A pg=some ⟨false,ai,[],ah⟩->dU ai k i->ah[i]?=some c->fB k d A c B1 was true ->
   m=yP ah.length i->ah[m]?=some ca->ah[m+1]?=some cb->ai[m]?=some κ->aH B1 ca=some a->aH B1 cb=some b->iB a b κ=(a',b',eG,false)->B2=(B1.az ca (bg (B1.c ca) a')).az cb (bg ((B1.az ca (bg (B1.c ca) a')).c cb) b') ->
   fB k (d+1) A pg (B2.az pg (bg (B2.c pg) ⟨false,ai.set m eG,[],ah⟩)) was (decide (ah.length<20))
 | join {d:Nat} {A B1 B2:AP} {pg i c m ca cb:Nat} {ai:List UInt64} {ah:List Nat} {was:Bool} {a b a' b':Nd} {κ eG:UInt64}:aH A pg=some ⟨false,ai,[],ah⟩->dU ai k i->ah[i]?=some c->fB k d A c B1 was true ->
   m=yP ah.length i->ah[m]?=some ca->ah[m+1]?=some cb->ai[m]?=some κ->aH B1 ca=some a->aH B1 cb=some b->iB a b κ=(a',b',eG,true)->B2=(B1.az ca (bg (B1.c ca) a')).give cb->ah.length≠2 ->
   fB k (d+1) A pg (B2.az pg (bg (B2.c pg) ⟨false,ai.take m++ai.drop (m+1),[],ah.take (m+1)++ah.drop (m+2)⟩)) was (decide (ah.length-1<20))
 | lift {d:Nat} {A B1 B2:AP} {pg i c m ca cb:Nat} {ai:List UInt64} {ah:List Nat} {was:Bool} {a b a' b':Nd} {κ eG:UInt64}:aH A pg=some ⟨false,ai,[],ah⟩->dU ai k i->ah[i]?=some c->fB k d A c B1 was true ->
   m=yP ah.length i->ah[m]?=some ca->ah[m+1]?=some cb->ai[m]?=some κ->aH B1 ca=some a->aH B1 cb=some b->iB a b κ=(a',b',eG,true)->B2=(B1.az ca (bg (B1.c ca) a')).give cb->ah.length=2 ->
   fB k (d+1) A pg ((B2.az pg (bg (B2.c pg) a')).give ca) was true
structure dP(A B:AP)(ps gone:List Nat):Prop where
 reach:A.Reach B
 has:∀p,B.Has p↔A.Has p/\p∉gone
 same:∀p,B.Has p->p∉ps->B.c p=A.c p
 ay:A.ay<=B.ay/\(A.op=none->B.ay=A.ay+gone.length)
 fq:∀p,B.Has p->(B.c p).length=504
 shut:B.op=none↔A.op=none
theorem xyb(A:AP)(p:Nat)(s:List UInt8):(A.az p s).op=none↔A.op=none:=by
 show(A.keep p).op=none↔_;unfold AP.keep
 cases h:A.op<;>simp
theorem yaj(A:AP)(p:Nat):(A.give p).op=none↔A.op=none:=by
 unfold AP.give
 cases A.op<;>simp
theorem dP.trans{A B C:AP}{ps ps2 gone F7:List Nat}(h:dP A B ps gone)(g:dP B C ps2 F7)(hs:∀p∈ps2,p∈ps):dP A C ps (gone++F7):=by
 refine⟨h.reach.trans g.reach,λ p=>?_,λ p hp hn=>?_,⟨bf h.ay.1 g.ay.1,λ ho=>?_⟩,g.fq,g.shut.trans h.shut⟩
 ·rw[g.has,h.has,cB]
  constructor
  ·rintro⟨⟨a,b⟩,c⟩;exact⟨a,λ d=>by rcases d with d|d;exact b d;exact c d⟩
  rintro⟨a,b⟩;exact⟨⟨a,λ d=>b (.inl d)⟩,λ d=>b (.inr d)⟩
 ·rw[g.same p hp (λ hm=>hn (hs p hm)),h.same p ((g.has p).1 hp).1 hn]
 have:=h.ay.2 ho;have:=g.ay.2 (h.shut.2 ho);rw[zl];omega
theorem dP.wider{A B:AP}{ps ps2 gone:List Nat}(h:dP A B ps gone)(hs:∀p∈ps,p∈ps2):dP A B ps2 gone:=⟨h.reach,h.has,λ p hp hn=>h.same p hp (λ hm=>hn (hs p hm)),h.ay,h.fq,h.shut⟩
theorem dP.good{A B:AP}{ps gone:List Nat}(h:dP A B ps gone)(g:A.Good):B.Good:=h.reach.good g
theorem dP.refl{A:AP}(hc:∀p,A.Has p->(A.c p).length=504)(ps:List Nat):dP A A ps []:=⟨AP.Reach.refl A,λ p=>by simp,λ _ _ _=>rfl,⟨aZ _,λ _=>rfl⟩,hc,Iff.rfl⟩
theorem dP.az{A:AP}{pg:Nat}{s:List UInt8}(hp:A.Has pg)(hc:∀p,A.Has p->(A.c p).length=504)(hs:s.length=504):dP A (A.az pg s) [pg] []:=by
 refine⟨(AP.Reach.refl A).az hp s,λ p=>by rw[AP.bu];simp,λ p _ hn=>?_,⟨aZ _,λ _=>rfl⟩,λ p hp'=>?_,xyb A pg s⟩
 ·rw[AP.bG,if_neg];simp at hn;exact λ e=>hn e.symm
 rw[AP.bG]
 split
 ·exact hs
 exact hc p (AP.bu.1 hp')
theorem dP.give{A:AP}{pg:Nat}(hg:A.Good)(hp:A.Has pg)(hc:∀p,A.Has p->(A.c p).length=504):dP A (A.give pg) [] [pg]:=by
 obtain⟨_,h2,h3,h4⟩:=hg.give hp;refine⟨(AP.Reach.refl A).give hp,λ p=>by rw[h2];simp,λ p _ _=>by rw[AP.mr],⟨h3,h4⟩,λ p hp'=>?_,yaj A pg⟩;rw[AP.mr];exact hc p ((h2 p).1 hp').1
theorem Tr.Vk{A B:AP}{ps gone:List Nat}{d:Nat}{s:Sb}(hT:Tr (aH A) d s)(hc:dP A B ps gone)(hh:∀p∈s.ps,B.Has p)(hd:∀p∈s.ps,p∉ps):Tr (aH B) d s/\(jk (aH A) s.pg->jk (aH B) s.pg):=by
 have hsame:∀p∈s.ps,aH B p=aH A p:=λ p hp=>by unfold aH;rw[hc.same p (hh p hp) (hd p hp)]
 refine⟨Tr.same d s hT hsame,λ ⟨x,h1,h2⟩=>⟨x,(hsame _ hT.mem).trans h1,h2⟩⟩
/-! ## two ah side by side -/
theorem P6{α:Type}{l:List α}{m:Nat}{a b:α}(h:l[m]?=some a)(h2:l[m+1]?=some b):l=l.take m++a::b::l.drop (m+2):=by
 have h1:=Ia h;have h3:(l.drop (m+1))[0]?=some b:=by rw[iC];exact h2
 have h4:=Ia h3;rw[jH,gH,List.drop_drop]at h4
 conv=>lhs;rw[h1,h4]
theorem jF.Ie{P:Sb->Prop}{ai:List UInt64}{ae:List Sb}{m:Nat}{a b:Sb}{κ:UInt64}(h:jF P ai ae)(ha:ae[m]?=some a)(hb:ae[m+1]?=some b)(hk:ai[m]?=some κ) :
  qM ai ae=nQ (ai.take m) (ae.take m)++ .s a:: .k κ:: .s b::mR (ai.drop (m+1)) (ae.drop (m+2)):=by
 have hl:=h.len;have h1:=(dn.1 hb).1
 conv=>lhs;rw[P6 ha hb,Ia hk]
 exact F4 _ _ (κ::ai.drop (m+1)) a (b::ae.drop (m+2)) (by rw[zt,zt];omega) (by rw[dw,dw,zd,zd];omega)
theorem It.Br{it:It}{a b c:Sb}(h1:It.R it (.s a))(h2:It.R it (.s b))(hc:∀x∈c.l,x∈a.l\/x∈b.l):It.R it (.s c):=by
 cases it with
 | s u=>
  intro x hx y hy;rcases hc y hy with h|h
  ·exact h1 x hx y h
  exact h2 x hx y h
 | k κ=>
  intro y hy;rcases hc y hy with h|h
  ·exact h1 y h
  exact h2 y h
theorem It.wK{it:It}{a b c:Sb}(h1:It.R (.s a) it)(h2:It.R (.s b) it)(hc:∀x∈c.l,x∈a.l\/x∈b.l):It.R (.s c) it:=by
 cases it with
 | s u=>
  intro x hx y hy;rcases hc x hx with h|h
  ·exact h1 x h y hy
  exact h2 x h y hy
 | k κ=>
  intro y hy;rcases hc y hy with h|h
  ·exact h1 y h
  exact h2 y h
section
variable{P:Sb->Prop}{ai:List UInt64}{ae:List Sb}{m:Nat}{a b:Sb}{κ:UInt64}
theorem jF.one(h:jF P ai ae)(ha:ae[m]?=some a)(hb:ae[m+1]?=some b)(hk:ai[m]?=some κ){c:Sb}(hc:c.l=a.l++b.l)(hp:P c):jF P (ai.take m++ai.drop (m+1)) (ae.take m++c::ae.drop (m+2)):=by
 have hl:=h.len;have h1:=(dn.1 hb).1;have ho:=h.ord;rw[h.Ie ha hb hk]at ho;simp only[List.pairwise_append,gN]at ho;obtain⟨o1,⟨oa,ok,ob,o2⟩,o3⟩:=ho;have hcm:∀x∈c.l,x∈a.l\/x∈b.l:=λ x hx=>by rw[hc]at hx;exact cB.1 hx
 refine⟨by rw[zl,zl,dw,zt,zd,zt,zd];omega,?_,λ u hu=>?_⟩
 ·rw[F4 _ _ _ _ _ (by rw[zt,zt];omega) (by rw[zd,zd];omega),List.pairwise_append,gN];refine⟨o1,⟨λ it hit=>It.wK (oa it (by simp[hit])) (ob it hit) hcm,o2⟩,λ it hit it' qN=>?_⟩;rcases aX.1 qN with rfl|qN
  ·exact It.Br (o3 it hit _ (by simp)) (o3 it hit _ (by simp)) hcm
  exact o3 it hit it' (by simp[qN])
 rcases cB.1 hu with hu|hu
 ·exact h.all u (fI hu)
 rcases aX.1 hu with rfl|hu
 ·exact hp
 exact h.all u (fA hu)
theorem jF.share(h:jF P ai ae)(ha:ae[m]?=some a)(hb:ae[m+1]?=some b)(hk:ai[m]?=some κ){c e:Sb}{eG:UInt64}(hce:c.l++e.l=a.l++b.l)(hc0:c.l≠[])(he0:e.l≠[])(Ea:∀x∈c.l,x.1.toNat<eG.toNat)(Eb:∀x∈e.l,eG.toNat<=x.1.toNat)(hpc:P c)(hpe:P e) :
  jF P (ai.set m eG) (ae.take m++c::e::ae.drop (m+2)):=by
 have hl:=h.len;have h1:=(dn.1 hb).1;have hkl:=(dn.1 hk).1;have ho:=h.ord;rw[h.Ie ha hb hk]at ho;simp only[List.pairwise_append,gN]at ho;obtain⟨o1,⟨oa,ok,ob,o2⟩,o3⟩:=ho;have hcm:∀x∈c.l,x∈a.l\/x∈b.l:=λ x hx=>cB.1 (by rw[<-hce];simp[hx]);have hem:∀x∈e.l,x∈a.l\/x∈b.l:=λ x hx=>cB.1 (by rw[<-hce];simp[hx]);obtain⟨xc,P7⟩:=wI _ hc0;obtain⟨xe,hxe⟩:=wI _ he0;have ek:ai.set m eG=ai.take m++eG::ai.drop (m+1):=by rw[List.set_eq_take_append_cons_drop,if_pos hkl]
 have La:∀it∈nQ (ai.take m) (ae.take m),It.R it (.s c)/\It.R it (.k eG)/\It.R it (.s e):=λ it hit=>by
  have q1:=It.Br (o3 it hit _ (by simp)) (o3 it hit (.s b) (by simp)) hcm;have q2:=It.Br (o3 it hit (.s a) (by simp)) (o3 it hit (.s b) (by simp)) hem;refine⟨q1,?_,q2⟩
  cases it with
  | s u=>exact λ x hx=>by have:=q1 x hx xc P7;have:=Ea xc P7;omega
  | k nL=>
   have:=q1 xc P7;have:=Ea xc P7;show nL.toNat<eG.toNat;omega
 have Ra:∀it∈mR (ai.drop (m+1)) (ae.drop (m+2)),It.R (.s c) it/\It.R (.k eG) it/\It.R (.s e) it:=λ it hit=>by
  have q1:=It.wK (oa it (by simp[hit])) (ob it hit) hcm;have q2:=It.wK (oa it (by simp[hit])) (ob it hit) hem;refine⟨q1,?_,q2⟩
  cases it with
  | s u=>exact λ x hx=>by have:=q2 xe hxe x hx;have:=Eb xe hxe;omega
  | k nL=>
   have:=q2 xe hxe;have:=Eb xe hxe;show eG.toNat<nL.toNat;omega
 rw[ek];refine⟨by rw[zl,zl,dw,dw,dw,zt,zd,zt,zd];omega,?_,λ u hu=>?_⟩
 ·rw[F4 _ _ (eG::ai.drop (m+1)) c (e::ae.drop (m+2)) (by rw[zt,zt];omega) (by rw[dw,dw,zd,zd];omega)];show(nQ (ai.take m) (ae.take m)++ .s c:: .k eG:: .s e::mR (ai.drop (m+1)) (ae.drop (m+2))).Pairwise It.R;simp only[List.pairwise_append,gN];refine⟨o1,⟨λ it hit=>?_,λ it hit=>?_,λ it hit=>(Ra it hit).2.2,o2⟩,λ it hit it' qN=>?_⟩
  ·rcases aX.1 hit with rfl|hit
   ·exact Ea
   rcases aX.1 hit with rfl|hit
   ·exact λ x hx y hy=>by have:=Ea x hx;have:=Eb y hy;omega
   exact(Ra it hit).1
  ·rcases aX.1 hit with rfl|hit
   ·exact Eb
   exact(Ra it hit).2.1
  rcases aX.1 qN with rfl|qN
  ·exact(La it hit).1
  rcases aX.1 qN with rfl|qN
  ·exact(La it hit).2.1
  rcases aX.1 qN with rfl|qN
  ·exact(La it hit).2.2
  exact o3 it hit it' (by simp[qN])
 rcases cB.1 hu with hu|hu
 ·exact h.all u (fI hu)
 rcases aX.1 hu with rfl|hu
 ·exact hpc
 rcases aX.1 hu with rfl|hu
 ·exact hpe
 exact h.all u (fA hu)
end
theorem jV.app{a b:List UInt64}(ha:jV a)(hb:jV b)(h:∀x∈a,∀y∈b,x.toNat<y.toNat):jV (a++b):=by
 intro i j x y hij hx hy;by_cases h1:j<a.length
 ·rw[dM (by omega)]at hx;rw[dM h1]at hy;exact ha i j x y hij hx hy
 rw[dF (by omega)]at hy;by_cases h2:i<a.length
 ·rw[dM h2]at hx;exact h x (fe hx) y (fe hy)
 rw[dF (by omega)]at hx;exact hb (i-a.length) (j-a.length) x y (by omega) hx hy
theorem Vl{ks vs:List UInt64}(hv:vs.length=ks.length){x:UInt64}(hx:x∈ks):∃v,(x,v)∈ks.zip vs:=by
 obtain⟨i,hi,e⟩:=jb hx;refine⟨vs[i]'(by omega),?_⟩;rw[<-e];exact List.mem_of_getElem (i:=i) (h:=by rw[List.length_zip];omega) (by rw[List.getElem_zip])
theorem ξ:∀(ks vs:List UInt64) (n:Nat),(ks.take n).zip (vs.take n)++(ks.drop n).zip (vs.drop n)=ks.zip vs
 | ks,vs,0=>by simp
 | [],vs,n+1=>by simp
 | k::ks,[],n+1=>by simp
 | k::ks,v::vs,n+1=>by
  have:=ξ ks vs n;simp only[List.take_succ_cons,List.drop_succ_cons,List.zip_cons_cons,jA,this]
theorem π{ks vs:List UInt64}(hv:vs.length=ks.length)(h:0<ks.length):ks.zip vs≠[]:=λ e=>by
 have:=congrArg List.length e;rw[List.length_zip,List.length_nil]at this;omega
def Vm(xa xb:Nd):Prop:=(xa.leaf=true->29<=xa.ai.length+xb.ai.length)/\(xa.leaf=false->31<=xa.ah.length+xb.ah.length)
theorem P8{f:Nat->Option Nd}{d:Nat}{a b:Sb}{κ eG:UInt64}{xa xb x y:Nd}{one:Bool}(ha:Tr f d a)(hb:Tr f d b)(hab:(a.ps++b.ps).Nodup)(hxa:f a.pg=some xa)(hxb:f b.pg=some xb)(fa:Fits xa)(fb:Fits xb)
  (hl:∀x∈a.l,x.1.toNat<κ.toNat) (hr:∀x∈b.l,κ.toNat<=x.1.toNat) (hn:Vm xa xb) (he:iB xa xb κ=(x,y,eG,one)) :
  (one=true->Fits x/\tJ x/\∀g:Nat->Option Nd,g a.pg=some x->(∀p∈a.ps++b.ps,p≠a.pg->p≠b.pg->g p=f p)->∃c,Tr g d c/\c.pg=a.pg/\c.l=a.l++b.l/\c.ps.Nodup/\∀p,p∈c.ps↔p∈a.ps++b.ps/\p≠b.pg) /\
  (one=false->Fits x/\Fits y/\tJ x/\tJ y/\∀g:Nat->Option Nd,g a.pg=some x->g b.pg=some y->(∀p∈a.ps++b.ps,p≠a.pg->p≠b.pg->g p=f p)->∃c e,Tr g d c/\Tr g d e/\c.pg=a.pg/\e.pg=b.pg/\c.l++e.l=a.l++b.l/\c.l≠[]/\e.l≠[] /\
   (∀x∈c.l,x.1.toNat<eG.toNat)/\(∀x∈e.l,eG.toNat<=x.1.toNat)/\(c.ps++e.ps).Nodup/\∀p,p∈c.ps++e.ps↔p∈a.ps++b.ps):=by
 cases d with
 | zero=>
  obtain⟨ka,va,a1,a2,a3,a4,a5⟩:=ha;obtain⟨kb,vb,b1,b2,b3,b4,b5⟩:=hb;rw[a1]at hxa;rw[b1]at hxb;obtain rfl:=bC hxa;obtain rfl:=bC hxb;obtain⟨fa1,_,_⟩:=fa.leaf rfl;obtain⟨P9,_,_⟩:=fb.leaf rfl;have h29:=hn.1 rfl;dsimp only at fa1 P9 h29;have cK:a.pg≠b.pg:=λ e=>by rw[a5,b5,e]at hab;simp at hab
  have hsort:jV (ka++kb):=a3.app b3 (λ u hu w hw=>by
   obtain⟨v1,h1⟩:=Vl a2 hu;obtain⟨v2,h2⟩:=Vl b2 hw;have:=hl _ (a4▸h1);have:=hr _ (b4▸h2);dsimp only at *;omega)
  have hz:(ka++kb).zip (va++vb)=a.l++b.l:=by rw[List.zip_append a2.symm,a4,b4]
  unfold iB at he;rw[if_pos rfl]at he;dsimp only at he;have hvl:(va++vb).length=(ka++kb).length:=by rw[zl,zl];omega
  have hkl:(ka++kb).length=ka.length+kb.length:=zl;by_cases hc:ka.length+kb.length<=30
  ·rw[if_pos hc]at he;obtain⟨rfl,rfl,rfl,rfl⟩:_/\_/\_/\_:=by simpa using he
   refine⟨λ _=>⟨⟨λ _=>⟨by dsimp only;omega,hvl,rfl⟩,(λ h=>by cases h)⟩,⟨λ _=>by dsimp only;omega,(λ h=>by cases h)⟩,λ g hg _=>⟨⟨a.pg,(ka++kb).zip (va++vb),[a.pg]⟩,⟨_,_,hg,hvl,hsort,rfl,rfl⟩,rfl,hz,by simp,λ p=>?_⟩⟩,(λ h=>by cases h)⟩;rw[a5,b5];simp
   constructor
   ·rintro rfl;exact⟨.inl rfl,cK⟩
   rintro⟨rfl|rfl,h⟩
   ·rfl
   exact absurd rfl h
  rw[if_neg hc]at he;obtain⟨rfl,rfl,rfl,rfl⟩:_/\_/\_/\_:=by simpa only[Prod.mk.injEq]using he
  obtain⟨n,hnn⟩:∃n,(ka++kb).length/2=n:=⟨_,rfl⟩;rw[hnn];have hh:=Vh (vs:=va++vb) hsort (h:=n) (by omega);have e1:((va++vb).take n).length=((ka++kb).take n).length:=by rw[zt,zt];omega
  have e2:((va++vb).drop n).length=((ka++kb).drop n).length:=by rw[zd,zd];omega
  have l1:((ka++kb).take n).length=n:=by rw[zt];omega
  have l2:((ka++kb).drop n).length=ka.length+kb.length-n:=by rw[zd];omega
  refine⟨(λ h=>by cases h),λ _=>⟨⟨λ _=>⟨by dsimp only;omega,e1,rfl⟩,(λ h=>by cases h)⟩,⟨λ _=>⟨by dsimp only;omega,e2,rfl⟩,(λ h=>by cases h)⟩,⟨λ _=>by dsimp only;omega,(λ h=>by cases h)⟩,⟨λ _=>by dsimp only;omega,(λ h=>by cases h)⟩,λ g hg hg2 _=>
   ⟨⟨a.pg,((ka++kb).take n).zip ((va++vb).take n),[a.pg]⟩,⟨b.pg,((ka++kb).drop n).zip ((va++vb).drop n),[b.pg]⟩,⟨_,_,hg,e1,hsort.take n,rfl,rfl⟩,⟨_,_,hg2,e2,hsort.drop n,rfl,rfl⟩,rfl,rfl,(ξ _ _ _).trans hz,π e1 (by omega),π e2 (by omega),hh.1,hh.2,by simp[cK],λ p=>by rw[a5,b5]⟩⟩⟩
 | succ d=>
  obtain⟨ka,sa,a1,a2,a3,a4⟩:=ha;obtain⟨kb,sb,b1,b2,b3,b4⟩:=hb;rw[a1]at hxa;rw[b1]at hxb;obtain rfl:=bC hxa;obtain rfl:=bC hxb;obtain⟨fa1,fa2,fa3,_,fa5⟩:=fa.inner rfl;obtain⟨P9,υ,χ,_,ψ⟩:=fb.inner rfl;have h31:=hn.2 rfl;dsimp only at fa1 fa2 fa3 fa5 P9 υ χ ψ h31;rw[kg]at fa1 fa2 fa3 P9 υ χ;rw[kg,kg]at h31;rw[a4,b4]at hab;have cK:a.pg≠b.pg:=λ e=>(bF.1 hab).2.2 a.pg (by simp) b.pg (by simp) e;have hap:a.pg∉dZ sa:=(dL.1 (bF.1 hab).1).1;have hbp:b.pg∉dZ sb:=(dL.1 (bF.1 hab).2.1).1;have MW:a.pg∉dZ sb:=λ h=>(bF.1 hab).2.2 a.pg (by simp) a.pg (by simp[h]) rfl;have Ig:b.pg∉dZ sa:=λ h=>(bF.1 hab).2.2 b.pg (by simp[h]) b.pg (by simp) rfl;have ne1:∀s∈sa,s.l≠[]:=λ s hs h0=>by have:=(a2.all s hs).1.many _ _ (a2.all s hs).2;rw[h0]at this;simp at this
  have ω:∀s∈sb,s.l≠[]:=λ s hs h0=>by have:=(b2.all s hs).1.many _ _ (b2.all s hs).2;rw[h0]at this;simp at this
  have hj:=a2.join b2 (κ:=κ) ne1 ω (by rw[<-a3];exact hl) (by rw[<-b3];exact hr);have hfl:il (sa++sb)=a.l++b.l:=by rw[Cw,a3,b3]
  have hfp:dZ (sa++sb)=dZ sa++dZ sb:=vL _ _;have hsl:(sa++sb).length=sa.length+sb.length:=zl;have o7:(sa.map Sb.pg++sb.map Sb.pg).length=sa.length+sb.length:=by rw[zl,kg,kg]
  have hkl:(ka++κ::kb).length=ka.length+kb.length+1:=by rw[zl,dw];omega
  have hmp:sa.map Sb.pg++sb.map Sb.pg=(sa++sb).map Sb.pg:=jr.symm
  have Ih:∀k∈sa.map Sb.pg++sb.map Sb.pg,k<4294967296:=λ k hk=>by
   rcases cB.1 hk with h|h
   ·exact fa5 k h
   exact ψ k h
  have hkeep:∀g:Nat->Option Nd,(∀p∈a.ps++b.ps,p≠a.pg->p≠b.pg->g p=f p)->jF (λ t=>Tr g d t/\jk g t.pg) (ka++κ::kb) (sa++sb):=λ g hg=>hj.imp (λ s hs ⟨hT,x,hx,hF⟩=>by
   have hps:∀p∈s.ps,g p=f p:=λ p hp=>by
    have hm:p∈dZ sa++dZ sb:=by rw[<-hfp];exact yO hs hp
    refine hg p ?_ ?_ ?_
    ·rw[a4,b4];rcases cB.1 hm with h|h
     ·simp[h]
     simp[h]
    ·rintro rfl;rcases cB.1 hm with h|h
     ·exact hap h
     exact MW h
    rintro rfl;rcases cB.1 hm with h|h
    ·exact Ig h
    exact hbp h
   exact⟨Tr.same d s hT hps,x,(hps _ hT.mem).trans hx,hF⟩)
  have hnd:(a.pg::b.pg::dZ (sa++sb)).Nodup:=by
   rw[hfp];refine dL.2 ⟨?_,dL.2 ⟨?_,?_⟩⟩
   ·simp[cK,hap,MW]
   ·simp[hbp,Ig]
   have:=hab;rw[bF]at this ⊢;obtain⟨q1,q2,q3⟩:=this;exact⟨(dL.1 q1).2,(dL.1 q2).2,λ u hu w hw=>q3 u (by simp[hu]) w (by simp[hw])⟩
  unfold iB at he;rw[if_neg (by simp)]at he;dsimp only at he;by_cases hc:(sa.map Sb.pg++sb.map Sb.pg).length<=40
  ·rw[if_pos hc]at he;obtain⟨rfl,rfl,rfl,rfl⟩:_/\_/\_/\_:=by simpa only[Prod.mk.injEq]using he
   refine⟨λ _=>⟨⟨(λ h=>by cases h),λ _=>⟨by dsimp only;omega,by dsimp only;omega,hc,rfl,Ih⟩⟩,⟨(λ h=>by cases h),λ _=>by dsimp only;omega⟩,λ g hg hs=>⟨⟨a.pg,il (sa++sb),a.pg::dZ (sa++sb)⟩,⟨_,_,by rw[<-hmp];exact hg,hkeep g hs,rfl,rfl⟩,rfl,hfl,?_,λ p=>?_⟩⟩,(λ h=>by cases h)⟩
   ·have:=dL.1 hnd;exact dL.2 ⟨λ h=>this.1 (by simp[h]),(dL.1 this.2).2⟩
   rw[a4,b4];dsimp only;rw[hfp];simp only[aX,cB]
   constructor
   ·rintro(rfl|h|h)
    ·exact⟨.inl (.inl rfl),cK⟩
    ·exact⟨.inl (.inr h),λ e=>Ig (e▸h)⟩
    exact⟨.inr (.inr h),λ e=>hbp (e▸h)⟩
   rintro⟨(h|h)|h|h,hn⟩
   ·exact .inl h
   ·exact .inr (.inl h)
   ·exact absurd h hn
   exact .inr (.inr h)
  rw[if_neg hc]at he;obtain⟨rfl,rfl,rfl,rfl⟩:_/\_/\_/\_:=by simpa only[Prod.mk.injEq]using he
  obtain⟨n,hnn⟩:∃n,(sa.map Sb.pg++sb.map Sb.pg).length/2=n:=⟨_,rfl⟩;rw[hnn]
  have ek:ka++κ::kb=(ka++κ::kb).take (n-1)++(ka++κ::kb).getD (n-1) 0::(ka++κ::kb).drop n:=by
   have:=gm (n-1) (ka++κ::kb);rw[nY (by omega),show n-1+1=n by omega]at this;rw[fK,di (by omega)];exact this.symm
  have es:sa++sb=(sa++sb).take n++(sa++sb).drop n:=(gm n _).symm;have l1:((sa++sb).take n).length=n:=by rw[zt];omega
  have l2:((sa++sb).drop n).length=sa.length+sb.length-n:=by rw[zd];omega
  have m1:((sa.map Sb.pg++sb.map Sb.pg).take n).length=n:=by rw[zt];omega
  have m2:((sa.map Sb.pg++sb.map Sb.pg).drop n).length=sa.length+sb.length-n:=by rw[zd];omega
  have k1:((ka++κ::kb).take (n-1)).length=n-1:=by rw[zt];omega
  have k2:((ka++κ::kb).drop n).length=ka.length+kb.length+1-n:=by rw[zd];omega
  refine⟨(λ h=>by cases h),λ _=>⟨⟨(λ h=>by cases h),λ _=>⟨by dsimp only;omega,by dsimp only;omega,by dsimp only;omega,rfl,λ k hk=>Ih k (fI hk)⟩⟩,⟨(λ h=>by cases h),λ _=>⟨by dsimp only;omega,by dsimp only;omega,by dsimp only;omega,rfl,λ k hk=>Ih k (fA hk)⟩⟩,
   ⟨(λ h=>by cases h),λ _=>by dsimp only;omega⟩,⟨(λ h=>by cases h),λ _=>by dsimp only;omega⟩,λ g hg hg2 hs=>?_⟩⟩
  have hin:=hkeep g hs;rw[ek,es]at hin;obtain⟨i1,i2,i3,i4⟩:=hin.F5 (by rw[l1,k1];omega)
  have aR:∀(l:List Sb),(∀s∈l,s∈sa++sb)->0<l.length->il l≠[]:=λ l hl h0 e=>by
   obtain⟨s,hs⟩:=List.exists_mem_of_length_pos h0;have hs2:=hl s hs
   have:s.l≠[]:=by
    rcases cB.1 hs2 with h|h
    ·exact ne1 s h
    exact ω s h
   obtain⟨z,hz⟩:=wI _ this;have:z∈il l:=List.mem_flatMap.2 ⟨s,hs,hz⟩;rw[e]at this
   cases this
  refine⟨⟨a.pg,il ((sa++sb).take n),a.pg::dZ ((sa++sb).take n)⟩,⟨b.pg,il ((sa++sb).drop n),b.pg::dZ ((sa++sb).drop n)⟩,⟨_,_,by rw[List.map_take,<-hmp];exact hg,i1,rfl,rfl⟩,⟨_,_,by rw[List.map_drop,<-hmp];exact hg2,i2,rfl,rfl⟩,rfl,rfl,?_,aR _ (λ s hs=>fI hs) (by omega),aR _ (λ s hs=>fA hs) (by omega),i3,i4,?_,λ p=>?_⟩
  ·dsimp only;rw[<-Cw,<-es,hfl]
  ·dsimp only;rw[es,vL]at hnd;have q:=dL.1 hnd;have q2:=dL.1 q.2;have q3:=bF.1 q2.2;rw[bF];refine⟨dL.2 ⟨λ h=>q.1 (by simp[h]),q3.1⟩,dL.2 ⟨λ h=>q2.1 (by simp[h]),q3.2.1⟩,λ u hu w hw e=>?_⟩;rcases aX.1 hu with rfl|hu
   ·rcases aX.1 hw with rfl|hw
    ·exact cK e
    exact q.1 (by rw[e];simp[hw])
   rcases aX.1 hw with rfl|hw
   ·exact q2.1 (by rw[<-e];simp[hu])
   exact q3.2.2 u hu w hw e
  dsimp only;rw[a4,b4]
  have hm:p∈dZ sa\/p∈dZ sb↔p∈dZ ((sa++sb).take n)\/p∈dZ ((sa++sb).drop n):=by
   rw[<-cB,<-cB,<-hfp,<-vL,<-es]
  simp only[aX,cB]
  constructor
  ·rintro((h|h)|h|h)
   ·exact .inl (.inl h)
   ·rcases hm.2 (.inl h)with h|h
    ·exact .inl (.inr h)
    exact .inr (.inr h)
   ·exact .inr (.inl h)
   rcases hm.2 (.inr h)with h|h
   ·exact .inl (.inr h)
   exact .inr (.inr h)
  rintro((h|h)|h|h)
  ·exact .inl (.inl h)
  ·rcases hm.1 (.inl h)with h|h
   ·exact .inl (.inr h)
   exact .inr (.inr h)
  ·exact .inr (.inl h)
  rcases hm.1 (.inr h)with h|h
  ·exact .inl (.inr h)
  exact .inr (.inr h)
end Go.Proofs.YtlipgbnnbefhjaaGreatDoor
