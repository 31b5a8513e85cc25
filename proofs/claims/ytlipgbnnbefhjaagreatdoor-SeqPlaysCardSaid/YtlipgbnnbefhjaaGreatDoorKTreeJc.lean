/- Facts on rows of numbers on pages. -/
import Derived.Test.YtlipgbnnbefhjaaGreatDoorKTreeCc
import Derived.Shelf.Spec.SlicesInsert
set_option maxRecDepth 100000
set_option maxHeartbeats 8000000
set_option linter.unusedSimpArgs false
namespace Go.Proofs.YtlipgbnnbefhjaaGreatDoor
open Go.RowKit
open UK (str aO nth Only Row aI w32)
open Go.BigFrame
def Vr(y:List UInt8)(n:Nat):Prop:=nth y 0=1/\(nth y 1).toNat=n/\n<=30
def zn(N M:Nat)(W:World)(nb:Nat)(x:Nd)(ka va aa:Option Addr)(kc vc ac:Nat):Prop:=bz N W nb x ka va aa kc vc ac/\nb<M/\∀g,aK ka g\/aK va g\/aK aa g->g<M
section
variable{E:Nat->Prop}{W W':World}{P D T k pg n:Nat}{root:Int}{A:AP}
theorem KT(y:List UInt8)(i:Nat)(h:i<504):nth (y.take 504) i=nth y i:=by
 unfold nth;rw[fK,fK,iO h]
theorem Ow(y:List UInt8)(o:Nat)(h:o+8<=504):oQ (y.take 504) o=oQ y o:=by
 unfold oQ;rw[List.drop_take,List.take_take,List.drop_take,List.take_take,lH (by omega),lH (by omega)]
theorem Z6(y:List UInt8)(n:Nat)(hn:n<=30):qI (y.take 504) n=qI y n:=by
 unfold qI;refine List.map_congr_left (λ i hi=>?_);have:=rq.1 hi;exact Ow y _ (by omega)
theorem Z7(y:List UInt8)(n:Nat)(hn:n<=30):rW (y.take 504) n=rW y n:=by
 unfold rW;refine List.map_congr_left (λ i hi=>?_);have:=rq.1 hi;exact Ow y _ (by omega)
def ybq(E:Nat->Prop)(W w':World)(P D:Nat)(A:AP)(k pg n:Nat)(e:Ending):Prop:=
 ∃N M nb ka va kc vc,e= .returned (.tuple #[.pointer (some ⟨nb,0,none⟩),.int .i64 0])/\W.heap.size<=N/\M<=w'.heap.size/\zn N M w' nb {leaf:=true,ai:=qI (A.c pg) n,vals:=rW (A.c pg) n,ah:=[]} ka va none kc vc 0/\PZ (λ j=>E j\/(N<=j/\j<M)) w' P D A k/\Kept E W w'
theorem ZJ(h:PZ E W P D A k)(hk:k+2<900000000)(hb:aI W T #[.pointer P,.int .i64 root])(hp:A.Has pg)(hy:Vr (A.c pg) n) :
  Calls Tryz.prog 73 #[.pointer T,.int .i64 pg] W λ e w'=>ybq E W w' P D A (k+2) pg n e:=by
 have c0:=hb.c0;have HP:=zH (CS h hk pg hp);clear h hb
 go_enter_defers Tryz.func73,Tryz.ntmps73
 go_wp2_with fail
 refine HP.out.mono ?_;rintro e w1 ⟨fb,db,cap,rfl,p1,k1⟩;have HB:=zH (Oe p1);obtain⟨y,y1,y2,y3,y4,y5⟩:=p1.bytes;obtain⟨h0,h1,h2⟩:=hy;rw[<-y3]at h0 h1;rw[KT _ _ (by omega)]at h0 h1;have hD:=ZA y1 y2 y4 h0 h1 h2;have Cf:=Z6 y n h2;have Vs:=Z7 y n h2;rw[y3]at Cf Vs;rw[<-Cf,<-Vs]at hD;have HD:=zH hD;have H1:=zH (zA p1 k1);clear HP p1 k1 y1 y2 y3 y4 y5 h0 h1 Cf Vs hD c0
 go_wp2_with fail
 refine HB.out.mono ?_;rintro e w2 ⟨rfl,rfl⟩
 go_wp2_with fail
 refine HD.out.mono ?_;rintro e w3 ⟨nb,ka,va,kc,vc,rfl,hn,hbl⟩;obtain⟨p1,k1⟩:=H1.out
 have hlt:∀g,aK ka g\/aK va g\/aK none g->g<w3.heap.size:=λ g hg=>by
  rcases hg with h|h|h
  ·exact hn.k.lt h
  ·exact hn.v.lt h
  cases h
 have hnb:=hn.box.lt;have p3:=p1.wide hbl (T:=λ j=>E j\/(w2.heap.size<=j/\j<w3.heap.size)) (λ j hj=>hj);have k3:=k1.trans (p1.kept hbl);have hs2:=k1.size;have HU:=zH (sK .returning p3);have HN:=zH (zA hn (zA hlt (zA hnb (zA k3 hs2))));clear HB HD H1 p1 k1 hn hbl hlt hnb p3 k3 hs2;go_wp2;refine leaves_cons (f:=51) (args:= #[.pointer fb]) (by simp) (by simp[go_sem]) ?_;refine HU.out.mono ?_;rintro e u' w4 ⟨rfl,rfl,p4,k4⟩;obtain⟨hn,hlt,hnb,k3,hs2⟩:=HN.out;refine⟨_,results_tmp2 rfl _ _ _,?_⟩;refine⟨w2.heap.size,w3.heap.size,nb,ka,va,kc,vc,rfl,hs2,k4.size,⟨hn.af k4.size (λ g h1 h2=>k4.block g (.inr ⟨h1,h2⟩)),hnb,hlt⟩,p4,k3.trans (k4.mono (λ j hj=>.inl hj))⟩
theorem dY.kept{v:Value}{vs:List Value}(h:dY E W v vs)(hk:Kept E W W'):dY E W' v vs:=by
 obtain⟨ao,c,a,b,d⟩:=h;refine⟨ao,c,a,b,λ j u hj=>?_⟩;obtain⟨g,o,e1,e2,e3⟩:=d j u hj;exact⟨g,o,e1,e2,(mh (a:=⟨g,o+j,none⟩) (hk.block g e2)).trans e3⟩
theorem jN.kept{nb:Nat}{x:Nd}(h:jN E W nb x)(hk:Kept E W W'):jN E W' nb x:=by
 obtain⟨kv,vv,av,b,hb,h1,h2,h3⟩:=h;exact⟨kv,vv,av,b.af (hk.block nb hb),hb,h1.kept hk,h2.kept hk,h3.kept hk⟩
theorem BJ(x:List UInt8)(a n:Nat)(s:List UInt8)(h:a+s.length<=n)(hn:n<=x.length):(UK.wr x a s).take n=UK.wr (x.take n) a s:=by
 unfold UK.wr;rw[kU,zt,lH (by omega),eZ (by rw[zt];omega),kU,eZ (l:=s) (by omega),List.take_take,lH (by omega),List.drop_take,show n-a-s.length=n-(a+s.length) by omega]
theorem UH(y:List UInt8)(ks vs:List UInt64)(hk:ks.length<=30)(hv:vs.length=ks.length)(hy:504<=y.length):(kQ y ks vs).take 504=kQ (y.take 504) ks vs:=by
 unfold kQ;rw[BJ _ _ _ _ (by rw[JA _ _ hv];omega) (by rw[bB,bB];exact hy),List.take_set,List.take_set]
theorem UG(y:List UInt8)(ks vs:List UInt64)(hk:ks.length<=30)(hv:vs.length=ks.length)(hy:504<=y.length):(kQ y ks vs).length=y.length:=by
 unfold kQ;rw[UK.lm _ _ _ (by rw[JA _ _ hv,bB,bB];omega),bB,bB]
theorem xr3{nb:Nat}{x:Nd}(h:PZ E W P D A k)(hk:k+3<900000000)(hb:aI W T #[.pointer P,.int .i64 root])(hp:A.Has pg)(hn:jN E W nb x)(hl:x.leaf=true)(hx:x.ai.length<=30)(hv:x.vals.length=x.ai.length) :
  Calls Tryz.prog 97 #[.pointer T,.int .i64 pg,.pointer nb] W λ e w'=>e= .returned (.int .i64 0)/\PZ E w' P D (A.az pg (kQ (A.c pg) x.ai x.vals)) (k+3)/\Kept E W w':=by
 have c0:=hb.c0;have HP:=zH (CS h (by omega) pg hp);clear h hb
 go_enter_defers Tryz.func97,Tryz.ntmps97
 go_wp2_with fail
 refine HP.out.mono ?_;rintro e w1 ⟨fb,db,cap,rfl,p1,k1⟩;have HE:=zH (BN p1 (by omega));have wY:=zH (zA (hn.kept k1) k1);clear HP p1 k1 c0 hn
 go_wp2_with fail
 refine HE.out.mono ?_;rintro e w2 ⟨rfl,p2,k2⟩;obtain⟨bi,k1⟩:=wY.out;have hn2:=bi.kept k2;obtain⟨y,y1,y2,y3,y4,y5⟩:=p2.bytes;have HX:=zH (UL hn2 hl hx hv y1 y2 y4 y5);have hy3:y.take 504=A.c pg:=y3;have htk:=UH y x.ai x.vals hx hv (by omega);rw[hy3]at htk;have hle:=UG y x.ai x.vals hx hv (by omega);have H2:=zH (zA p2 (zA (k1.trans k2) (zA htk (hle.trans y2))));clear HE wY bi hn2 k1 k2 p2 y1 y2 y3 y4 y5 hy3 htk hle
 go_wp2_with fail
 refine HX.out.mono ?_;rintro e w3 ⟨rfl,b3,o3⟩;obtain⟨p2,k2,htk,hle⟩:=H2.out;obtain⟨p3,k3⟩:=p2.write o3 b3 hle;rw[htk]at p3;have HU:=zH (sK .returning p3);have K3:=zH (k2.trans k3);clear HX H2 p2 k2 htk hle p3 k3 b3 o3;go_wp2;refine leaves_cons (f:=51) (args:= #[.pointer fb]) (by simp) (by simp[go_sem]) ?_;refine HU.out.mono ?_;rintro e u' w4 ⟨rfl,rfl,p4,k4⟩;refine⟨_,results_tmp rfl _ _ _,rfl,p4,K3.out.trans k4⟩
theorem xye(h:PZ E W P D A k)(hk:k+3<900000000)(hf:¬A.Full) :
  Calls Tryz.prog 54 #[.pointer P] W λ e w'=>∃T N M,e= .returned (.tuple #[.pointer (some ⟨T,0,none⟩),.int .i64 0])/\aI w' T #[.pointer P,.int .i64 A.next]/\W.heap.size<=N/\N<=T/\T<M/\PZ (λ j=>E j\/(N<=j/\j<M)) w' P D (A.take.az A.next (kQ (UK.bW 504) [] [])) (k+3)/\Kept E W w':=by
 have HP:=zH (Og h (by omega) hf);clear h
 go_enter_defers Tryz.func54,Tryz.ntmps54
 go_wp2_with fail
 refine HP.out.mono ?_;rintro e w1 ⟨fb,db,cap,rfl,p1,k1⟩;have HG:=zH (yf p1);have H1:=zH (zA p1 k1);clear HP p1 k1
 go_wp2_with fail
 refine HG.out.mono ?_;rintro e w2 ⟨rfl,rfl⟩;obtain⟨p1,k1⟩:=H1.out;have ba:Below w2 w2 (w2.alloc (.cells #[.pointer P,.int .i64 A.next] 126)):=(aP _ _).alloc (aZ _) _;have sz:(w2.alloc (.cells #[.pointer P,.int .i64 A.next] 126)).heap.size=w2.heap.size+1:=by simp
 have p3:=p1.wide ba (T:=λ j=>E j\/(w2.heap.size<=j/\j<w2.heap.size+1)) (λ j hj=>by rw[sz];exact hj);have k3:=k1.trans (p1.kept ba);have bx:=aI.new w2 #[.pointer P,.int .i64 A.next] 126;have HE:=zH (BN p3 (by omega));have hs1:=k1.size;have H3:=zH (zA k3 (zA bx hs1));clear HG H1 p1 k1 ba p3 k3 bx sz hs1
 go_wp2_with fail
 refine HE.out.mono ?_;rintro e w4 ⟨rfl,p4,k4⟩;obtain⟨k3,bx,hs1⟩:=H3.out;have b5:Below w4 w4 (w4.alloc (.cells #[.bool true,.slice none 0 0,.slice none 0 0,.slice none 0 0] 131)):=(aP _ _).alloc (aZ _) _;have p5:=p4.next b5;obtain⟨y,y1,y2,y3,y4,y5⟩:=p5.bytes
 have U8:db<w4.heap.size:=by
  obtain⟨y',q1,_⟩:=p4.bytes;exact q1.lt
 have hnr:jN (λ j=>j=w4.heap.size) (w4.alloc (.cells #[.bool true,.slice none 0 0,.slice none 0 0,.slice none 0 0] 131)) w4 {leaf:=true,ai:=[],vals:=[],ah:=[]}:=
  ⟨.slice none 0 0,.slice none 0 0,.slice none 0 0,aI.new w4 _ _,rfl,⟨none,0,rfl,aZ _,λ j u hj=>by cases hj⟩,⟨none,0,rfl,aZ _,λ j u hj=>by cases hj⟩,⟨none,0,rfl,aZ _,λ j u hj=>by cases hj⟩⟩
 have HX:=zH (UL hnr rfl (by decide) rfl y1 y2 y4 (by show ¬db=w4.heap.size;omega));have hy3:y.take 504=UK.bW 504:=y3.trans (by show dI A.c A.next (UK.bW 504) A.next=_;unfold dI;rw[if_pos rfl]);have htk:=UH y [] [] (by decide) rfl (by omega);rw[hy3]at htk;have hle:=UG y [] [] (by decide) rfl (by omega);have Nf:=bx.af (k4.block _ (.inr ⟨aZ _,Nat.lt_succ_self _⟩));have H5:=zH (zA p5 (zA ((k3.trans (k4.mono (λ j hj=>.inl hj))).trans ((p4.kept b5).mono (λ j hj=>.inl hj))) (zA htk (zA (hle.trans y2) (zA (Nf.next b5) hs1)))));clear HE H3 k3 bx p4 k4 b5 p5 y1 y2 y3 y4 y5 hnr hy3 htk hle Nf hs1 U8
 go_wp2_with fail
 refine HX.out.mono ?_;rintro e w6 ⟨rfl,b6,o6⟩;obtain⟨p5,k5,htk,hle,bx5,hs1⟩:=H5.out;obtain⟨p6,k6⟩:=p5.write o6 b6 hle;rw[htk]at p6;have HU:=zH (sK .returning p6);have H6:=zH (zA (k5.trans (k6.mono (λ j hj=>.inl hj))) (zA (bx5.af (k6.block _ (.inr ⟨aZ _,Nat.lt_succ_self _⟩))) hs1));clear HX H5 p5 k5 htk hle bx5 p6 k6 b6 o6 hs1;go_wp2;refine leaves_cons (f:=51) (args:= #[.pointer fb]) (by simp) (by simp[go_sem]) ?_;refine HU.out.mono ?_;rintro e u' w7 ⟨rfl,rfl,p7,k7⟩;obtain⟨k6,bx6,hs1⟩:=H6.out;refine⟨_,results_tmp2 rfl _ _ _,?_⟩;exact⟨w2.heap.size,w2.heap.size,w2.heap.size+1,rfl,bx6.af (k7.block _ (.inr ⟨aZ _,Nat.lt_succ_self _⟩)),hs1,aZ _,Nat.lt_succ_self _,p7,k6.trans (k7.mono (λ j hj=>.inl hj))⟩
end
def jV(l:List UInt64):Prop:=∀(a b:Nat) (x y:UInt64),a<b->l[a]?=some x->l[b]?=some y->x.toNat<y.toNat
structure fP(l:List UInt64)(k:UInt64)(i:Nat):Prop where
 le:i<=l.length
 below:∀(j:Nat) (x:UInt64),j<i->l[j]?=some x->x.toNat<k.toNat
 above:∀(j:Nat) (x:UInt64),i<=j->l[j]?=some x->k.toNat<=x.toNat
theorem xqc(a b:UInt64)(w:World) :
  Calls Tryz.prog 116 #[.int .u64 a.toNat,.int .u64 b.toNat] w λ e w'=>e= .returned (.bool (decide (a.toNat<b.toNat)))/\w'=w:=by
 go_enter Tryz.func116,Tryz.ntmps116
 go_wp2;go_ret
 exact⟨rfl,rfl⟩
theorem yal(a:UInt64)(w:World) :
  Calls Tryz.prog 117 #[.int .u64 a.toNat] w λ e w'=>e= .returned (.bool false)/\w'=w:=by
 go_enter Tryz.func117,Tryz.ntmps117
 go_wp2;go_ret
 exact⟨rfl,rfl⟩
theorem fP.mem{l:List UInt64}{k x:UInt64}{i:Nat}(h:fP l k i)(hs:jV l)(hx:l[i]?=some x):(k∈l)↔x.toNat=k.toNat:=by
 constructor
 ·intro hm;obtain⟨j,hj,e⟩:=jb hm;have hj':l[j]?=some k:=by rw[di hj,e]
  have h1:=h.above i x (aZ _) hx;by_cases hlt:j<i
  ·have:=h.below j k hlt hj';omega
  by_cases e2:i=j
  ·subst e2;rw[hx]at hj';rw[bC hj']
  have:=hs i j x k (by omega) hx hj';omega
 intro e;rw[<-UInt64.toNat_inj.1 e];exact fe hx
theorem fP.none{l:List UInt64}{k:UInt64}(h:fP l k l.length):k∉l:=λ hm=>by
 obtain⟨j,hj,e⟩:=jb hm;have:=h.below j k hj (by rw[di hj,e]);omega
theorem J3{W:World}{S:Nat->Prop}{v:Value}{l:List UInt64}(h:dY S W v (aF l))(hs:jV l)(hl:l.length<=1000)(k:UInt64) :
  Calls Tryz.prog 74 #[v,.int .u64 k.toNat] W λ e w'=>∃i:Nat,e= .returned (.tuple #[.int .i64 i,.bool (decide (k∈l))])/\fP l k i/\w'=W:=by
 obtain⟨ao,c,rfl,hc,hr⟩:=h;rw[cz]at hc ⊢;have HS:=zH hs;clear hs
 go_enter Tryz.func74,Tryz.ntmps74
 go_wp2_with fail
 go_loopw [7,8] (λ iv jv wr=>∃i j:Nat,iv= .int .i64 i/\jv= .int .i64 j/\i<=j/\j<=l.length/\Hid (∀(a:Nat) (x:UInt64),a<i->l[a]?=some x->x.toNat<k.toNat)/\Hid (∀(a:Nat) (x:UInt64),j<=a->l[a]?=some x->k.toNat<=x.toNat)/\wr=W) (λ iv jv _=>(intOf jv).toNat-(intOf iv).toNat)
 case atStart=>exact⟨0,l.length,rfl,rfl,bY _,aZ _,(λ a x h=>absurd h (qh _)),(λ a x h hx=>by rw[ny h]at hx;cases hx),rfl⟩
 obtain⟨i,j,rfl,rfl,hij,hj,hb,ha,rfl⟩:=hrel;by_cases hlt:i<j
 ·obtain⟨x,hx⟩:∃x,l[(i+j)/2]?=some x:=⟨_,di (by omega)⟩;obtain⟨g,o,rfl,_,cx⟩:=hr _ _ (qx _ _ _ hx);have h1:((i:Int)+(j:Int))/2=(((i+j)/2:Nat):Int):=by omega
  have ES:(i+j)/2<l.length:=by omega
  have hm1:i<=(i+j)/2:=by omega
  have hm2:(i+j)/2<j:=by omega
  generalize hm:(i+j)/2=m at hx cx h1 ES hm1 hm2;clear hr;by_cases hlx:x.toNat<k.toNat
  ·have HX:=zH (λ (a:Nat) (z:UInt64) (haz:a<m+1) (hz:l[a]?=some z)=>(show z.toNat<k.toNat by
    by_cases e:a=m
    ·subst e;rw[hx]at hz;rw[<-bC hz];exact hlx
    have:=HS.out a m z x (by omega) hz hx;omega))
   have HL:=xqc x k wr;rw[decide_eq_true hlx]at HL;have HL2:=zH HL;clear hx hm HL hlx hb
   go_wp2_with fail
   refine HL2.out.mono ?_;rintro e w' ⟨rfl,rfl⟩;clear HL2;go_wp2;go_roundw
   case rel=>exact⟨m+1,j,by go_num,rfl,by omega,hj,HX.out,ha,trivial⟩
   case measure=>simp[intOf];omega
  have HX:=zH (λ (a:Nat) (z:UInt64) (haz:m<=a) (hz:l[a]?=some z)=>(show k.toNat<=z.toNat by
   by_cases e:a=m
   ·subst e;rw[hx]at hz;rw[<-bC hz];omega
   have:=HS.out m a x z (by omega) hx hz;omega))
  have HL:=xqc x k wr;rw[decide_eq_false hlx]at HL;have HL2:=zH HL;clear hx hm HL hlx ha
  go_wp2_with fail
  refine HL2.out.mono ?_;rintro e w' ⟨rfl,rfl⟩;clear HL2;go_wp2;go_roundw
  case rel=>exact⟨i,m,rfl,rfl,by omega,by omega,hb,HX.out,trivial⟩
  case measure=>simp[intOf];omega
 obtain rfl:i=j:=by omega
 have hst:fP l k i:=⟨hj,hb.out,ha.out⟩;have HST:=zH hst;by_cases hil:i<l.length
 ·obtain⟨x,hx⟩:∃x,l[i]?=some x:=⟨_,di hil⟩;obtain⟨g,o,rfl,_,cx⟩:=hr _ _ (qx _ _ _ hx);have hmem:=hst.mem HS.out hx;have hd:decide ((i:Int)<(l.length:Int))=true:=decide_eq_true (by omega);have Aq:(i:Int)<(l.length:Int):=by omega
  have hii:decide ((i:Int)<(i:Int))=false:=decide_eq_false (by omega);have hn:=λ w=>yal x w;clear hr hx hst hb ha hij;by_cases he:x.toNat=k.toNat
  ·have hk:decide (k∈l)=true:=decide_eq_true (hmem.2 he);have HK:=zH hk;have hbq:((x.toNat:Int)==(k.toNat:Int))=true:=by rw[he];exact beq_self_eq_true _
   clear hmem hk he
   go_wp2_with fail
   go_ret2;exact⟨i,by rw[HK.out]<;>rfl,HST.out,rfl⟩
  have hk:decide (k∈l)=false:=decide_eq_false (λ h=>he (hmem.1 h));have HK:=zH hk;have hbq:((x.toNat:Int)==(k.toNat:Int))=false:=beq_eq_false_iff_ne.2 (by omega);clear hmem hk he
  go_wp2_with fail
  refine(hn _).mono ?_;rintro e w' ⟨rfl,rfl⟩;go_wp2;go_ret2;exact⟨i,by rw[HK.out]<;>rfl,HST.out,rfl⟩
 obtain rfl:i=l.length:=by omega
 have hd:decide ((l.length:Int)<(l.length:Int))=false:=decide_eq_false (by omega);have HK:=zH (decide_eq_false hst.none);clear hst hb ha hr hij
 go_wp2_with fail
 go_ret2;exact⟨l.length,by rw[HK.out]<;>rfl,HST.out,rfl⟩
namespace UK
theorem ZB{P:Program}{t tn ty e:TypeId}{i:TypeInfo}{z:Value}{k kn:IntKind}(ht:P.underlying t=some (.slice e))(htn:P.underlying tn=some (.int kn))(hi:P.info? e=some i)(hz:i.zero=some z)(hs1:i.size=1)(h16:i.bytes<=16)(hzc:z.cells= #[z])
  {W:World} {g c:Nat} {vs:List Value} (h:Row W g c vs) (n:Nat) (h0:0<n) (hg:c<vs.length+n) (aJ:vs.length+n<=1000000000) :
  ∃c' W',(Builtin.append_ #[t,tn] ty #[.slice g vs.length c,.int k n]).run P W= .ok (.slice W (vs.length+n) c') W'/\Row W' W c' (vs++List.replicate n z)/\Below W W W':=by
 have hn:n≠0:=by omega
 have hw:IntKind.i64.wrap (n:Int)=n:=by rw[bN];omega
 have h63':¬(9223372036854775807<((vs.length:Int)+(n:Int))):=by omega
 have abn:n*i.bytes<=n*16:=Nat.mul_le_mul_left n h16
 have h48i:¬(281474976710656<(n:Int)*(i.bytes:Int)):=by
  rw[<-Int.natCast_mul];omega
 have hneg:¬((n:Int)<0):=by omega
 have hf:¬(vs.length+n<=c):=by omega
 have h48':¬(281474976710656<Builtin.nextslicecap (vs.length+n) c*i.bytes):=by
  have hfit:(vs.length+n)*i.bytes<=140737488355328:=bf (Nat.mul_le_mul aJ h16) (by decide);have:=growslice_fits (show c<vs.length+n by omega) hfit;omega
 have hold:(Builtin.firstCells 1 vs.length (.slice g vs.length c)).run P W.drew= .ok vs.toArray W.drew:=
  run_firstCells_some W.drew 1 vs.length ⟨g,0,none⟩ vs.length c vs (by rw[zm]) (λ j v hj=>by
   have hjl:j<vs.length:=(dn.1 hj).1;rw[uh,gq];exact(h.holds j hjl).trans hj)
 have hge:=grownCap_ge W (vs.length+n) c e
 have hrep:∀m,Builtin.zeroCells #[z] m=(List.replicate m z).toArray:=λ m=>by
  apply Array.ext';apply List.ext_getElem?;intro j;by_cases hj:j<m
  ·simp[Builtin.zeroCells,hj,Nat.mod_one]
  simp[Builtin.zeroCells,hj]
 have hcells:vs.toArray++((List.replicate n z).toArray++(List.replicate (grownCap W (vs.length+n) c e-(vs.length+n)) z).toArray)=(vs++List.replicate (grownCap W (vs.length+n) c e-vs.length) z).toArray:=by
  apply Array.ext';rw[Array.toList_append,Array.toList_append];simp only[List.replicate_append_replicate];rw[show n+(grownCap W (vs.length+n) c e-(vs.length+n))=grownCap W (vs.length+n) c e-vs.length by omega]
 have hb:=aI.new W.drew (vs++List.replicate (grownCap W (vs.length+n) c e-vs.length) z).toArray e;refine⟨grownCap W (vs.length+n) c e,W.drew.alloc (.cells (vs++List.replicate (grownCap W (vs.length+n) c e-vs.length) z).toArray e),?_,?_,(aP W W).drew.alloc (aZ _) _⟩
 ·rw[<-hcells,<-hrep,<-hrep];unfold grownCap at *;simp[Builtin.append_,run_underlying ht,run_underlying htn,sizeOf,typeInfo,zeroValue,hi,hz,hzc,hs1,asInt,asIntOf,hw,hn,hneg,h48i,hf,h63',h48',Question.forced,hold,newRow]
 have hr:=hb.row
 have hsz:(vs++List.replicate (grownCap W (vs.length+n) c e-vs.length) z).toArray.size=grownCap W (vs.length+n) c e:=by
  rw[List.size_toArray,zl,ko];omega
 rw[hsz]at hr;have:=hr.take (vs.length+n)
 have e1:(vs++List.replicate (grownCap W (vs.length+n) c e-vs.length) z).toArray.toList.take (vs.length+n)=vs++List.replicate n z:=by
  show(vs++List.replicate (grownCap W (vs.length+n) c e-vs.length) z).take (vs.length+n)=_;rw[kU,eZ (by omega),show vs.length+n-vs.length=n by omega,List.take_replicate,lH (by omega)]
 rw[e1]at this;exact this
end UK
def Ij(W w':World)(ao:Option Addr)(l:List UInt64)(e:Ending):Prop:=
 ∃g' c',e= .returned (.slice (some ⟨g',0,none⟩) l.length c')/\Row w' g' c' (aF l)/\UK.Only g' W w'/\(aK ao g'\/W.heap.size<=g')
theorem Row.shape{W:World}{g c:Nat}{vs:List Value}(h:Row W g c vs)(hc:0<c):∃t k,W.shape? g=some (t,k)/\k≠0:=by
 have h0:=(h.there 0 hc).1;unfold World.cell? at h0;unfold World.shape?
 cases hg:W.heap[g]? with
 | none=>simp only[hg]at h0;cases h0
 | some o=>
  simp only[hg]at h0
  cases o with
  | cells cs t fr=>
   refine⟨t,cs.size,rfl,λ e=>?_⟩;simp only at h0;rw[Array.getElem?_eq_none (by omega)]at h0;simp at h0
  | _=>simp at h0
theorem xr4{W:World}{ao:Option Addr}{c vb:Nat}{l:List UInt64}(h:NR W ao c (aF l))(hl:l.length<=1000)(v:UInt64)(hv:aI W vb #[.int .u64 (v.toNat:Int)]) :
  Calls Tryz.prog 61 #[.slice ao l.length c,.int .i64 l.length,.slice vb 1 1] W λ e w'=>Ij W w' ao (l++[v]) e:=by
 have aJ:=cz l
 obtain⟨g',c',W',e,r,o⟩:=UK.MI (P:=Tryz.prog) (t:=27) (tx:=27) (ty:=27) Tryz.underlying27 (i:=Tryz.t32) rfl rfl rfl (show(8:Nat)<=16 by omega) rfl h (x:=.slice vb 1 1) (m:=[.int .u64 (v.toNat:Int)]) (by simp) (Src.ofSlice W Tryz.underlying27 ⟨vb,0,none⟩ 1 1 _ rfl (λ j u hj=>by
   have hj0:j=0:=by
    by_cases hc:j<1
    ·omega
    rw[ny (by simp;omega)]at hj;cases hj
   subst hj0;rw[UK.uh,gq,hv.cell 0 _ rfl]
   exact hj) (λ u hu=>by
    obtain rfl:=bQ.1 hu;rfl)) (by rw[aJ];simp;omega)
 rw[zl,aJ]at e;have el:(aF l++[.int .u64 (v.toNat:Int)])=aF (l++[v]):=by unfold aF;rw[jr];rfl
 rw[el]at r;have HF:Hid (∃g' c',(Value.slice (some ⟨g',0,none⟩) (l.length+1) c'=Value.slice (some ⟨g',0,none⟩) (l.length+1) c')/\True):=⟨0,0,rfl,trivial⟩;have HR:=zH (zA r o);replace e:(Builtin.append_ #[27,27] 27 #[.slice ao l.length c,.slice vb 1 1]).run Tryz.prog W= .ok (.slice (some ⟨g',0,none⟩) (l.length+1) c') W':=e;clear r o hv el HF
 have fin:Ij W W' ao (l++[v]) (.returned (.slice g' (l.length+1) c')):=by
  refine⟨g',c',by rw[zl];rfl,HR.out.1,?_⟩;rcases HR.out.2 with⟨a,b⟩|⟨a,b⟩
  ·exact⟨b,.inl a⟩
  exact⟨Only.of_below b,.inr (by omega)⟩
 have HF:=zH fin;clear fin HR;rcases h with⟨rfl,hn,rfl⟩|⟨g,rfl,r⟩
 ·have hl0:l=[]:=by
   have:=congrArg List.length hn;rw[aJ]at this;exact pE.1 this
  subst hl0;clear hn aJ
  go_enter Tryz.func61,Tryz.ntmps61
  go_wp2_with (at_builtin;refine UK.pV e rfl rfl rfl rfl rfl ?_)
  go_ret;exact HF.out
 have hle:=r.le;rw[aJ]at hle;clear r aJ
 go_enter Tryz.func61,Tryz.ntmps61
 go_wp2_with (at_builtin;refine UK.pV e rfl rfl rfl rfl rfl ?_)
 all_goals
  go_ret;exact HF.out
theorem xni{W:World}{g c vb i:Nat}{l:List UInt64}(h:Row W g c (aF l))(hl:l.length<=1000)(hi:i<l.length)(aY:l.length+1<=c)(v:UInt64)(hv:aI W vb #[.int .u64 (v.toNat:Int)])(hne:vb≠g) :
  Calls Tryz.prog 61 #[.slice g l.length c,.int .i64 i,.slice vb 1 1] W λ e w'=>Ij W w' g (l.take i++v::l.drop i) e:=by
 have aJ:=cz l;obtain⟨n,hn⟩:∃n,n=l.length:=⟨_,rfl⟩;obtain⟨tB,kB,hsb,hkB⟩:=Row.shape h (by omega)
 obtain⟨tA,kA,hsa,hfa,hfe⟩:∃tA kA,W.shape? vb=some (tA,kA)/\W.frozen? ⟨vb,0,none⟩=false/\W.frozen? {block:=vb,off:=kA}=false:=by
  obtain⟨t,hb⟩:=hv;exact⟨t,1,by unfold World.shape?;rw[hb];rfl,by unfold World.frozen?;rw[hb];rfl,by unfold World.frozen?;rw[hb];rfl⟩
 have hov:∀lb cb,(callFunc 93 #[.slice vb 1 1,.slice (g,i+1) lb cb]).run Tryz.prog W= .ok (.value (.bool false)) W:=λ lb cb=>by
  rw[run_callFunc_extern Tryz.func93 (by kernel_rfl) (by kernel_rfl) (by kernel_rfl) (e:=Extern.SlicesOverlaps.overlaps #[27,27] #[4]) (by kernel_rfl),
   Lib.run_overlaps_apart W 27 4 32 Tryz.underlying27 1 (λ w=>by kernel_rfl) ⟨vb,0,none⟩ ⟨g,i+1,none⟩ 1 1 lb cb hne tA tB kA kB hsa hsb hkB hfa hfe]
  rfl
 have hsz:(Tryz.prog.info? 32).map (·.size)=some 1:=by kernel_rfl
 have hcs:∀j u,(aF l)[j]?=some u->W.cell? (g,j)=some u:=λ j u hj=>h.at' j u hj
 have h1c:∀m:List UInt64,∀u∈aF m,u.oneCell'=true:=λ m u hu=>by
  unfold aF at hu;obtain⟨x,_,rfl⟩:=gT.1 hu;rfl
 have hdr:(aF l).drop i=aF (l.drop i):=by unfold aF;rw[List.map_drop]
 have hdl:(aF (l.drop i)).length=n-i:=by rw[cz,zd,hn]
 have r1:Row (W.drew.setCells g (i+1) (aF (l.drop i))) g c (aF (l.take (i+1)++l.drop i)):=(h.drewN 1).setCells (i+1) (aF (l.drop i)) (by rw[hdl];omega) _ (by rw[cz,zl,zt,zd];omega)
  (λ j hj=>by
   unfold aF;rw[dW,dW,dF (by rw[zt];omega),zt,show i+1+j-min (i+1) l.length=j by omega])
  (λ j hj hh=>by
   rw[cz,zl,zt,zd]at hj;rw[hdl]at hh;have hji:j<i+1:=by omega
   refine⟨by rw[aJ];omega,?_⟩;unfold aF;rw[dW,dW,dM (by rw[zt];omega),iO hji])
 have o1:Only g W (W.drew.setCells g (i+1) (aF (l.drop i))):=UK.Only.setCells _ _ (Only.refl g W).drew
 have hcp1:∀ty dc sc,(Builtin.copy_ #[27,27] ty #[.slice (g,i+1) (n-i) dc,.slice (g,i) (n+1-i) sc]).run Tryz.prog W.drew= .ok (goInt (aF (l.drop i)).length) (W.drew.setCells g (i+1) (aF (l.drop i))):=λ ty dc sc=>
  run_copy_cells W.drew _ _ ty 32 g (i+1) (n-i) dc ⟨g,i,none⟩ (n+1-i) sc (aF (l.drop i)) Tryz.underlying27 hsz (by rw[hdl];simp only[Nat.min_def];split<;>omega)
   (λ j u hj=>by rw[UK.uh];exact hcs (i+j) u (by rw[<-hdr,iC]at hj;exact hj))
   (λ j hj=>(h.there _ (by rw[hdl]at hj;omega)).1) (λ j hj=>(h.there _ (by rw[hdl]at hj;omega)).2) (h1c _)
 generalize hW1:W.drew.setCells g (i+1) (aF (l.drop i))=W1 at r1 o1 hcp1;have hv1:=hv.only o1 hne
 have hcp2:∀ty dc,(Builtin.copy_ #[27,27] ty #[.slice (g,i) (n+1-i) dc,.slice vb 1 1]).run Tryz.prog W1= .ok (goInt [Value.int .u64 (v.toNat:Int)].length) (W1.setCells g i [Value.int .u64 (v.toNat:Int)]):=λ ty dc=>
  run_copy_cells W1 _ _ ty 32 g i (n+1-i) dc ⟨vb,0,none⟩ 1 1 [Value.int .u64 (v.toNat:Int)] Tryz.underlying27 hsz (by simp only[Nat.min_def,gI];split<;>omega)
   (λ j u hj=>by
    have hj0:j=0:=by
     by_cases hc:j<1
     ·omega
     rw[ny (by simp;omega)]at hj;cases hj
    subst hj0;rw[UK.uh,gq,hv1.cell 0 _ rfl];exact hj)
   (λ j hj=>(r1.there _ (by simp at hj;omega)).1) (λ j hj=>(r1.there _ (by simp at hj;omega)).2) (λ u hu=>by
    obtain rfl:=bQ.1 hu;rfl)
 have r2:Row (W1.setCells g i [Value.int .u64 (v.toNat:Int)]) g c (aF (l.take i++v::l.drop i)):=r1.setCells i [Value.int .u64 (v.toNat:Int)] (by simp;omega) _ (by rw[cz,zl,zt,dw,zd];omega)
  (λ j hj=>by
   have hj0:j=0:=by simpa using hj
   subst hj0;unfold aF;rw[dW,dF (by rw[zt];omega),zt,show i+0-min i l.length=0 by omega];rfl)
  (λ j hj hh=>by
   rw[cz,zl,zt,dw,zd]at hj;simp only[gI]at hh;refine⟨by rw[cz,zl,zt,zd];omega,?_⟩;unfold aF;rw[dW,dW]
   congr 1
   rcases hh with hh|hh
   ·rw[dM (by rw[zt];omega),dM (by rw[zt];omega),iO hh,iO (by omega)]
   rw[dF (by rw[zt];omega),dF (by rw[zt];omega),zt,zt,show j-min i l.length=(j-(i+1))+1 by omega,qJ,show j-min (i+1) l.length=j-(i+1) by omega])
 have o2:Only g W (W1.setCells g i [Value.int .u64 (v.toNat:Int)]):=UK.Only.setCells _ _ o1
 have fin:Ij W (W1.setCells g i [Value.int .u64 (v.toNat:Int)]) g (l.take i++v::l.drop i) (.returned (.slice g (n+1) c)):=
  ⟨g,c,by rw[zl,zt,dw,zd,show min i l.length+(l.length-i+1)=n+1 by omega],r2,o2,.inl rfl⟩
 have HF:=zH fin;have hz2:¬((i:Int)=(n:Int)):=by omega
 have hin:i<=n:=by omega
 have hb3:(i:Int)<=(n:Int)+1:=by omega
 have hw1:IntKind.i64.wrap ((i:Int)+1)=(i:Int)+1:=by rw[bN];omega
 have hw2:IntKind.i64.wrap ((n:Int)+1)=(n:Int)+1:=by rw[bN];omega
 have hb1:(0:Int)<=(i:Int)+1:=by omega
 have htn:((i:Int)+1).toNat=i+1:=by omega
 have hb2:¬(c=i+1):=by omega
 have hb4:¬(c=i):=by omega
 have hb5:((n:Int)+1).toNat=n+1:=by omega
 have hrm:¬((c:Int)<(n:Int)+1):=by omega
 rw[<-hn]at hl hi aY ⊢;clear hn hW1 aJ;clear fin r1 r2 o1 o2 hv hv1 h hcs h1c hdr hdl hsa hsb hfa hfe hsz;have H2:=zH hcp2;have H1:=zH hcp1;clear hcp1 hcp2
 go_enter Tryz.func61,Tryz.ntmps61
 go_wp2_with (simp only[hov])
 go_region_law (refine step_copy_runI rfl _ _ 27 27 rfl (.slice (g,i+1) (n-i) (c-(i+1))) (.slice (g,i) (n+1-i) (c-i)) (by simp[Act.eval,Act.put]) (by simp[Act.eval,Act.put]) (H1.out 3 (c-(i+1)) (c-i)) ?_)
 have Hf:=H2.out 3 (c-i);go_wp2;go_ret;exact HF.out
theorem xo2{W:World}{g c vb i:Nat}{l:List UInt64}(h:Row W g c (aF l))(hl:l.length<=1000)(hi:i<l.length)(aY:c<l.length+1)(v:UInt64)(hv:aI W vb #[.int .u64 (v.toNat:Int)]) :
  Calls Tryz.prog 61 #[.slice g l.length c,.int .i64 i,.slice vb 1 1] W λ e w'=>Ij W w' g (l.take i++v::l.drop i) e:=by
 have aJ:=cz l;obtain⟨n,hn⟩:∃n,n=l.length:=⟨_,rfl⟩;have hle:=h.le;rw[aJ]at hle;have hsz:(Tryz.prog.info? 32).map (·.size)=some 1:=by kernel_rfl
 have h1c:∀m:List UInt64,∀u∈aF m,u.oneCell'=true:=λ m u hu=>by
  unfold aF at hu;obtain⟨x,_,rfl⟩:=gT.1 hu;rfl
 have hdr:(aF l).drop i=aF (l.drop i):=by unfold aF;rw[List.map_drop]
 have htk:(aF l).take i=aF (l.take i):=by unfold aF;rw[List.map_take]
 have hdl:(aF (l.drop i)).length=n-i:=by rw[cz,zd,hn]
 have htl:(aF (l.take i)).length=i:=by rw[cz,zt];omega
 have r0:=h.take i;rw[htk]at r0;obtain⟨c',W1,e1,r1,b1⟩:=UK.ZB (P:=Tryz.prog) (t:=27) (tn:=3) (ty:=27) (k:=.i64) (kn:=.i64) (i:=Tryz.t32) Tryz.underlying27 Tryz.underlying3 rfl rfl rfl (show(8:Nat)<=16 by omega) rfl r0 (n+1-i) (by omega) (by rw[htl];omega) (by rw[htl];omega);rw[htl,show i+(n+1-i)=n+1 by omega,show((n+1-i:Nat):Int)=(n:Int)+1-(i:Int) by omega]at e1;have tF:Below W W W1:=b1;have MJ:(aF (l.take i)++List.replicate (n+1-i) (Value.int .u64 0)).length=n+1:=by rw[zl,htl,ko];omega
 have hc1:n+1<=c':=by have:=r1.le;omega
 have hv1:=hv.below tF hv.lt
 have hcp1:∀ty dc,(Builtin.copy_ #[27,27] ty #[.slice (W.heap.size,i) (n+1-i) dc,.slice vb 1 1]).run Tryz.prog W1= .ok (goInt [Value.int .u64 (v.toNat:Int)].length) (W1.setCells W i [Value.int .u64 (v.toNat:Int)]):=λ ty dc=>
  run_copy_cells W1 _ _ ty 32 W.heap.size i (n+1-i) dc ⟨vb,0,none⟩ 1 1 [Value.int .u64 (v.toNat:Int)] Tryz.underlying27 hsz (by simp only[Nat.min_def,gI];split<;>omega)
   (λ j u hj=>by
    have hj0:j=0:=by
     by_cases hc:j<1
     ·omega
     rw[ny (by simp;omega)]at hj;cases hj
    subst hj0;rw[UK.uh,gq,hv1.cell 0 _ rfl];exact hj)
   (λ j hj=>(r1.there _ (by simp at hj;omega)).1) (λ j hj=>(r1.there _ (by simp at hj;omega)).2) (λ u hu=>by
    obtain rfl:=bQ.1 hu;rfl)
 have r2:Row (W1.setCells W i [Value.int .u64 (v.toNat:Int)]) W c' (aF (l.take i)++Value.int .u64 (v.toNat:Int)::List.replicate (n-i) (Value.int .u64 0)):=r1.setCells i [Value.int .u64 (v.toNat:Int)] (by simp;omega) _ (by rw[zl,htl,dw,ko];omega)
  (λ j hj=>by
   have hj0:j=0:=by simpa using hj
   subst hj0;rw[dF (by rw[htl];omega),htl,show i+0-i=0 by omega];rfl)
  (λ j hj hh=>by
   rw[zl,htl,dw,ko]at hj;simp only[gI]at hh;refine⟨by rw[MJ];omega,?_⟩;rcases hh with hh|hh
   ·rw[dM (by rw[htl];omega),dM (by rw[htl];omega)]
   rw[dF (by rw[htl];omega),dF (by rw[htl];omega),htl,show j-i=(j-(i+1))+1 by omega,qJ,show n+1-i=(n-i)+1 by omega,List.replicate_succ,qJ])
 have b2:Below W W (W1.setCells W i [Value.int .u64 (v.toNat:Int)]):=tF.trans ((UK.Only.setCells _ _ (Only.refl W W1)).below tF.size (aZ _));generalize hW2:W1.setCells W i [Value.int .u64 (v.toNat:Int)]=W2 at r2 b2 hcp1;have h2:=h.below b2 h.lt
 have hcp2:∀ty dc sc,(Builtin.copy_ #[27,27] ty #[.slice (W.heap.size,i+1) (n-i) dc,.slice (g,i) (n-i) sc]).run Tryz.prog W2.drew= .ok (goInt (aF (l.drop i)).length) (W2.drew.setCells W (i+1) (aF (l.drop i))):=λ ty dc sc=>
  run_copy_cells W2.drew _ _ ty 32 W.heap.size (i+1) (n-i) dc ⟨g,i,none⟩ (n-i) sc (aF (l.drop i)) Tryz.underlying27 hsz (by rw[hdl];simp only[Nat.min_def];split<;>omega)
   (λ j u hj=>by rw[UK.uh];exact h2.at' (i+j) u (by rw[<-hdr,iC]at hj;exact hj))
   (λ j hj=>(r2.there _ (by rw[hdl]at hj;omega)).1) (λ j hj=>(r2.there _ (by rw[hdl]at hj;omega)).2) (h1c _)
 have ef:aF (l.take i++v::l.drop i)=aF (l.take i)++Value.int .u64 (v.toNat:Int)::aF (l.drop i):=by unfold aF;rw[jr,List.map_cons]
 have r3:Row (W2.drew.setCells W (i+1) (aF (l.drop i))) W c' (aF (l.take i++v::l.drop i)):=by
  rw[ef];refine(r2.drewN 1).setCells (i+1) (aF (l.drop i)) (by rw[hdl];omega) _ (by rw[zl,htl,dw,hdl];omega) (λ j hj=>?_) (λ j hj hh=>?_)
  ·rw[dF (by rw[htl];omega),htl,show i+1+j-i=j+1 by omega,qJ]
  rw[zl,htl,dw,hdl]at hj;rw[hdl]at hh;have hji:j<i+1:=by omega
  refine⟨by rw[zl,htl,dw,ko];omega,?_⟩;by_cases e:j=i
  ·subst e;rw[dF (by rw[htl];omega),dF (by rw[htl];omega),htl,iF];rfl
  rw[dM (by rw[htl];omega),dM (by rw[htl];omega)]
 have b3:Below W W (W2.drew.setCells W (i+1) (aF (l.drop i))):=b2.trans ((UK.Only.setCells _ _ (Only.refl W W2).drew).below b2.size (aZ _))
 have fin:Ij W (W2.drew.setCells W (i+1) (aF (l.drop i))) g (l.take i++v::l.drop i) (.returned (.slice W (n+1) c')):=
  ⟨W.heap.size,c',by rw[zl,zt,dw,zd,show min i l.length+(l.length-i+1)=n+1 by omega],r3,Only.of_below b3,.inr (aZ _)⟩
 have HF:=zH fin;have E1:=zH e1;have H1:=zH hcp1;have H2:=zH hcp2;have hz2:¬((i:Int)=(n:Int)):=by omega
 have hin:i<=n:=by omega
 have hb3:(i:Int)<=(n:Int)+1:=by omega
 have hw1:IntKind.i64.wrap ((i:Int)+1)=(i:Int)+1:=by rw[bN];omega
 have hw2:IntKind.i64.wrap ((n:Int)+1)=(n:Int)+1:=by rw[bN];omega
 have hw3:IntKind.i64.wrap ((n:Int)+1-(i:Int))=(n:Int)+1-(i:Int):=by rw[bN];omega
 have hb1:(0:Int)<=(i:Int)+1:=by omega
 have htn:((i:Int)+1).toNat=i+1:=by omega
 have hb2:¬(c'=i+1):=by omega
 have hb4:¬(c=i):=by omega
 have hb5:¬(c'=i):=by omega
 have hrm:(c:Int)<(n:Int)+1:=by omega
 have hic:(i:Int)<=(c:Int):=by omega
 rw[<-hn]at hl hi aY hle ⊢;clear fin r0 r1 r2 r3 b1 b2 b3 tF hv hv1 h h2 h1c hdr htk hdl htl hsz e1 hcp1 hcp2 hn aJ ef MJ hW2
 go_enter Tryz.func61,Tryz.ntmps61
 have Hf:=H1.out 3 (c'-i)
 go_wp2_with (at_builtin;refine UK.pV E1.out rfl rfl rfl rfl rfl ?_)
 go_region_law (refine step_copy_runI rfl _ _ 27 27 rfl (.slice (W.heap.size,i+1) (n-i) (c'-(i+1))) (.slice (g,i) (n-i) (c-i)) (by simp[Act.eval,Act.put]) (by simp[Act.eval,Act.put]) (H2.out 3 (c'-(i+1)) (c-i)) ?_)
 go_wp2;go_ret
 exact HF.out
theorem OL{W:World}{ao:Option Addr}{c vb i:Nat}{l:List UInt64}(h:NR W ao c (aF l))(hl:l.length<=1000)(hi:i<=l.length)(v:UInt64)(hv:aI W vb #[.int .u64 (v.toNat:Int)])(hne:¬aK ao vb) :
  Calls Tryz.prog 61 #[.slice ao l.length c,.int .i64 i,.slice vb 1 1] W λ e w'=>Ij W w' ao (l.take i++v::l.drop i) e:=by
 by_cases e:i=l.length
 ·subst e;rw[mi,List.drop_length];exact xr4 h hl v hv
 rcases h with⟨_,h0,_⟩|⟨g,rfl,r⟩
 ·have:=congrArg List.length h0;rw[cz]at this;have:l.length=0:=this;omega
 by_cases hr:l.length+1<=c
 ·exact xni r hl (by omega) hr v hv (λ e=>hne (by rw[e];rfl))
 exact xo2 r hl (by omega) (by omega) v hv
open Go.RowKit
open UK (str aO nth Only Row aI w32)
open Go.BigFrame
theorem Pe{W:World}{g c i:Nat}{l:List UInt64}(h:Row W g c (aF l))(hl:l.length<=1000)(hi:i<l.length) :
  Calls Tryz.prog 64 #[.slice g l.length c,.int .i64 i,.int .i64 ((i:Int)+1)] W λ e w'=>e= .returned (.slice g (l.length-1) c)/\Row w' g c (aF (l.take i++l.drop (i+1)))/\Only g W w':=by
 have aJ:=cz l;have hle:=h.le;rw[aJ]at hle;obtain⟨n,hn⟩:∃n,n=l.length:=⟨_,rfl⟩;have hz2:¬((i:Int)=(i:Int)+1):=by omega
 have hb2:¬(c=i):=by omega
 have htn:((i:Int)+1).toNat=i+1:=by omega
 have hb1:(0:Int)<=(i:Int)+1:=by omega
 have hin:(i:Int)+1<=(n:Int):=by omega
 have hic:i<=c:=by omega
 have Hg:i+1<=n:=by omega
 have hsz:(Tryz.prog.info? 32).map (·.size)=some 1:=by kernel_rfl
 have h1c:∀m:List UInt64,∀u∈aF m,u.oneCell'=true:=λ m u hu=>by
  unfold aF at hu;obtain⟨x,_,rfl⟩:=gT.1 hu;rfl
 have hdr:(aF l).drop (i+1)=aF (l.drop (i+1)):=by unfold aF;rw[List.map_drop]
 have hdl:(aF (l.drop (i+1))).length=n-(i+1):=by rw[cz,zd,hn]
 have h0:=h.drewN 1
 have happ:∀ao,(ao=(⟨g,i+1,none⟩:Addr)\/i+1=n)->∀sc,(Builtin.append_ #[27,27] 27 #[.slice g i c,.slice (some ao) (n-(i+1)) sc]).run Tryz.prog W.drew= .ok (.slice g (n-1) c) (W.drew.setCells g i (aF (l.drop (i+1)))):=λ ao hao sc=>by
  have hs:Src Tryz.prog 1 27 (.slice (some ao) (n-(i+1)) sc) (n-(i+1)) (aF (l.drop (i+1))) W.drew:=Src.ofSlice W.drew Tryz.underlying27 ao (n-(i+1)) sc _ (by rw[hdl,zm]) (λ j u hj=>by
   rcases hao with rfl|e
   ·rw[UK.uh];exact h0.at' (i+1+j) u (by rw[<-hdr,iC]at hj;exact hj)
   have:j<(aF (l.drop (i+1))).length:=(dn.1 hj).1;rw[hdl]at this;omega) (h1c _)
  have hr:=run_append_room_src (P:=Tryz.prog) W.drew 27 27 27 32 Tryz.t32 Tryz.underlying27 rfl g 0 i c _ _ _ hs (by omega) (λ j hj=>(h0.there _ (by rw[hdl]at hj;show 0+i*1+j<c;omega)).1) (λ j hj=>(h0.there _ (by rw[hdl]at hj;show 0+i*1+j<c;omega)).2);rw[show i+(n-(i+1))=n-1 by omega,show 0+i*Tryz.t32.size=i by show 0+i*1=i;omega]at hr;exact hr
 have r1:Row (W.drew.setCells g i (aF (l.drop (i+1)))) g c (aF (l.take i++l.drop (i+1))++(aF l).drop (n-1)):=h0.setCells i (aF (l.drop (i+1))) (by rw[hdl];omega) _ (by rw[zl,cz,zl,zt,zd,zd,aJ];omega)
  (λ j hj=>by
   rw[hdl]at hj;rw[dM (by rw[cz,zl,zt,zd];omega)];unfold aF;rw[dW,dW,dF (by rw[zt];omega),zt,show i+j-min i l.length=j by omega])
  (λ j hj hh=>by
   rw[zl,cz,zl,zt,zd,zd,aJ]at hj;rw[hdl]at hh;refine⟨by rw[aJ];omega,?_⟩;rcases hh with hh|hh
   ·rw[dM (by rw[cz,zl,zt,zd];omega)];unfold aF;rw[dW,dW,dM (by rw[zt];omega),iO hh]
   rw[dF (by rw[cz,zl,zt,zd];omega),cz,zl,zt,zd,iC]
   congr 1
   omega)
 have o1:Only g W (W.drew.setCells g i (aF (l.drop (i+1)))):=UK.Only.setCells _ _ (Only.refl g W).drew;generalize hW1:W.drew.setCells g i (aF (l.drop (i+1)))=W1 at r1 o1 happ;have Hl:(Builtin.clear_ #[27] 0 #[.slice (g,n-1) 1 (c-(n-1))]).run Tryz.prog W1= .ok (.tuple #[]) (W1.setCells g (n-1) (List.replicate 1 (Value.int .u64 0))):=Lib.run_clear_slice (P:=Tryz.prog) W1 27 32 0 (.int .u64 0) Tryz.underlying27 (λ w=>by kernel_rfl) rfl rfl g (n-1) 1 (c-(n-1)) (by omega) (λ j hj=>(r1.there _ (by omega)).1) (λ j hj=>(r1.there _ (by omega)).2)
 have fin:Row (W1.setCells g (n-1) (List.replicate 1 (Value.int .u64 0))) g c (aF (l.take i++l.drop (i+1)))/\Only g W (W1.setCells g (n-1) (List.replicate 1 (Value.int .u64 0))):=by
  have hlf:(aF (l.take i++l.drop (i+1))).length=n-1:=by rw[cz,zl,zt,zd];omega
  have rk:Row (W1.setCells g (n-1) (List.replicate 1 (Value.int .u64 0))) g c (aF (l.take i++l.drop (i+1))++[Value.int .u64 0]):=r1.setCells (n-1) (List.replicate 1 (Value.int .u64 0)) (by rw[ko];omega) _ (by rw[zl,hlf];simp;omega) (λ j hj=>by
   have hj0:j=0:=by simpa using hj
   subst hj0;rw[dF (by rw[hlf];omega),hlf,show n-1+0-(n-1)=0 by omega];rfl) (λ j hj hh=>by
   rw[zl,hlf]at hj;simp only[ko,gI]at hj hh;refine⟨by rw[zl,hlf];omega,?_⟩;rw[dM (by rw[hlf];omega),dM (by rw[hlf];omega)])
  have rt:=rk.take (n-1);rw[kU,eZ (by rw[hlf];omega),hlf,iF,jH,jw]at rt;exact⟨rt,UK.Only.setCells _ _ o1⟩
 have HF:=zH fin;have HA:=zH happ;clear fin r1 o1 h0 hdr hdl h1c hsz happ h hW1;rw[<-hn]at hl hi hle ⊢;clear hn aJ;have bi:n-(n-1)=1:=by omega
 have hz3:((i:Int)==(i:Int)+1)=false:=beq_eq_false_iff_ne.2 hz2;have Hm:¬(c=n-1):=by omega
 have hnn:((n-1:Nat):Int)<=(n:Int):=by omega
 by_cases hce:c=i+1
 ·obtain rfl:n=i+1:=by omega
  subst hce
  have e1:(Builtin.append_ #[27,27] 27 #[.slice g i (i+1),.slice g 0 0]).run Tryz.prog W.drew= .ok (.slice g i (i+1)) W1:=by
   have:=HA.out ⟨g,0,none⟩ (.inr rfl) 0;rw[iF,Nat.add_sub_cancel]at this;exact this
  rw[Nat.add_sub_cancel,uG]at Hl;rw[Nat.add_sub_cancel]at HF ⊢;have E1:=zH e1;have UO:¬(i+1=i):=by omega
  clear HA e1 bi Hm hnn hin hic Hg hi hle hz2;have hii:(i:Int)<=(i:Int)+1:=by omega
  go_enter Tryz.func64,Tryz.ntmps64
  go_wp2_with fail
  go_region_law (refine UK.aB E1.out rfl rfl rfl (by simp[Act.eval,Act.put]) (by simp[Act.eval,Act.put]) ?_)
  go_wp2;go_ret
  exact⟨rfl,HF.out⟩
 go_enter Tryz.func64,Tryz.ntmps64
 go_wp2_with fail
 go_region_law (refine UK.aB (HA.out ⟨g,i+1,none⟩ (.inl rfl) (c-(i+1))) rfl rfl rfl (by simp[Act.eval,Act.put]) (by simp[Act.eval,Act.put]) ?_)
 go_wp2;go_ret
 exact⟨rfl,HF.out⟩
theorem Ov{x:List UInt8}{o:Nat}{k:UInt64}{r:List UInt8}(h:x.drop o=b64 k++r):oQ x o=k:=by
 have h4:x.drop (o+4)=aW (UK.lQ k)++r:=by
  rw[<-List.drop_drop,h];rfl
 unfold oQ;rw[h,h4];show UK.vg (fC (aW (UK.kW k))) (fC (aW (UK.lQ k)))=k;rw[Em,Em,UK.xr0]
theorem Vt:∀(ks vs:List UInt64) (i:Nat) (k v:UInt64),ks[i]?=some k->vs[i]?=some v->∃r,(qY ks vs).drop (16*i)=b64 k++(b64 v++r)
 | a::ks,b::vs,0,k,v,hk,hv=>by
  obtain rfl:a=k:=by simpa using hk
  obtain rfl:b=v:=by simpa using hv
  exact⟨qY ks vs,rfl⟩
 | a::ks,b::vs,i+1,k,v,hk,hv=>by
  obtain⟨r,hr⟩:=Vt ks vs i k v (by simpa using hk) (by simpa using hv);refine⟨r,?_⟩;show(b64 a++(b64 b++qY ks vs)).drop (16*(i+1))=_;rw[show 16*(i+1)=8+(8+16*i) by omega,<-List.drop_drop,<-List.drop_drop];exact hr
 | [],_,_,_,_,hk,_=>by simp at hk
 | _::_,[],_,_,_,_,hv=>by simp at hv
theorem xif(y:List UInt8)(ks vs:List UInt64)(o:Nat)(hy:504<=y.length)(ho:o<=(qY ks vs).length):(kQ y ks vs).drop (4+o)=(qY ks vs).drop o++((y.set 0 1).set 1 (UInt8.ofNat ks.length)).drop (4+(qY ks vs).length):=by
 unfold kQ UK.wr;have h4:(((y.set 0 1).set 1 (UInt8.ofNat ks.length)).take 4).length=4:=by rw[zt,bB,bB];omega
 rw[List.drop_append,h4,kz (by rw[h4];omega),gH,show 4+o-4=o by omega,kR ho]
theorem Z0(y:List UInt8)(ks vs:List UInt64)(hy:504<=y.length)(hv:vs.length=ks.length):qI (kQ y ks vs) ks.length=ks:=by
 refine List.ext_getElem (by rw[Cs]) (λ i h1 h2=>?_);have hk:ks[i]?=some ks[i]:=di h2;have hvv:vs[i]?=some (vs[i]'(by omega)):=di (by omega);obtain⟨r,hr⟩:=Vt ks vs i _ _ hk hvv;have hl:=JA ks vs hv;simp only[qI,List.getElem_map,List.getElem_range];have:=xif y ks vs (16*i) hy (by omega);rw[hr,dH]at this;exact Ov this
theorem Z4(y:List UInt8)(ks vs:List UInt64)(hy:504<=y.length)(hv:vs.length=ks.length):rW (kQ y ks vs) ks.length=vs:=by
 refine List.ext_getElem (by rw[Fx,hv]) (λ i h1 h2=>?_);have hk:ks[i]?=some (ks[i]'(by omega)):=di (by omega);have hvv:vs[i]?=some vs[i]:=di h2;obtain⟨r,hr⟩:=Vt ks vs i _ _ hk hvv;have hl:=JA ks vs hv;simp only[rW,List.getElem_map,List.getElem_range];have:=xif y ks vs (16*i) hy (by rw[Fx]at h1;omega);rw[hr]at this;refine Ov (r:=r++((y.set 0 1).set 1 (UInt8.ofNat ks.length)).drop (4+(qY ks vs).length)) ?_;rw[show 12+16*i=(4+16*i)+8 by omega,<-List.drop_drop,this];show((b64 vs[i])++r)++_=_;rw[dH]
theorem Zz(y:List UInt8)(ks vs:List UInt64)(hy:504<=y.length)(hk:ks.length<=30):Vr (kQ y ks vs) ks.length:=by
 have h:∀i,i<4->nth (kQ y ks vs) i=nth ((y.set 0 1).set 1 (UInt8.ofNat ks.length)) i:=λ i hi=>by
  unfold kQ UK.wr nth;rw[fK,fK,dM (by rw[zt,bB,bB];omega),iO hi]
 refine⟨?_,?_,hk⟩
 ·rw[h 0 (by omega)];unfold nth;rw[fK,List.getElem?_set_ne (by omega),List.getElem?_set_self (by omega)];rfl
 rw[h 1 (by omega)];unfold nth;rw[fK,List.getElem?_set_self (by rw[bB];omega)];show(UInt8.ofNat ks.length).toNat=_;rw[UInt8.toNat_ofNat'];omega
structure mQ(A:AP)(pg:Nat)(ks vs:List UInt64):Prop where
 has:A.Has pg
 head:Vr (A.c pg) ks.length
 ai:qI (A.c pg) ks.length=ks
 vals:rW (A.c pg) ks.length=vs
 up:jV ks
theorem mQ.len{A:AP}{pg:Nat}{ks vs:List UInt64}(h:mQ A pg ks vs):vs.length=ks.length:=by rw[<-h.vals,Fx]
theorem mQ.az{A:AP}{pg:Nat}{ks vs:List UInt64}{y:List UInt8}(hh:A.Has pg)(hy:y.length=504)(hv:vs.length=ks.length)(hk:ks.length<=30)(hs:jV ks):mQ (A.az pg (kQ y ks vs)) pg ks vs:=by
 have e:(A.az pg (kQ y ks vs)).c pg=kQ y ks vs:=by rw[AP.bG,if_pos rfl]
 refine⟨AP.bu.2 hh,?_,?_,?_,hs⟩
 ·rw[e];exact Zz y ks vs (by omega) hk
 ·rw[e];exact Z0 y ks vs (by omega) hv
 rw[e];exact Z4 y ks vs (by omega) hv
section
variable{E:Nat->Prop}{W W':World}{P D T k pg N M nb kc vc ac:Nat}{root:Int}{A:AP}{x:Nd}{ka va aa:Option Addr}
theorem NR.win{S:Nat->Prop}{ao:Option Addr}{c:Nat}{vs:List Value}(h:NR W ao c vs)(hS:∀g,aK ao g->S g):dY S W (.slice ao vs.length c) vs:=by
 rcases h with⟨rfl,rfl,rfl⟩|⟨g,rfl,r⟩
 ·exact⟨none,0,rfl,aZ _,λ j u hj=>by cases hj⟩
 exact⟨_,c,rfl,r.le,λ j u hj=>⟨g,0,rfl,hS g rfl,by rw[gq];exact r.at' j u hj⟩⟩
theorem bz.reads{S:Nat->Prop}(h:bz N W nb x ka va aa kc vc ac)(hnb:S nb)(hS:∀g,aK ka g\/aK va g\/aK aa g->S g):jN S W nb x:=
 ⟨_,_,_,h.box,hnb,by have:=h.k.win (λ g hg=>hS g (.inl hg));rw[cz]at this;exact this,by have:=h.v.win (λ g hg=>hS g (.inr (.inl hg)));rw[cz]at this;exact this,by have:=h.a.win (λ g hg=>hS g (.inr (.inr hg)));rw[dx]at this;exact this⟩
theorem gW{a w:World}(h:Below a.heap.size a w)(o:Obj):Below a.heap.size a (w.alloc o):=h.alloc h.size o
theorem gQ{a w:World}(h:Below a.heap.size a w):Below a.heap.size a w.drew:=h.drew
theorem dQ{w:World}{cs:Array Value}{vb:Nat}(h:aI w vb cs):aI w.drew vb cs:=h
theorem dS{w:World}{cs:Array Value}{vb:Nat}(h:aI w vb cs)(o:Obj):aI (w.alloc o) vb cs:=h.alloc o
theorem mG{w:World}{cs:Array Value}{t:TypeId}{vb:Nat}(h:vb=w.heap.size):aI (w.alloc (.cells cs t)) vb cs:=by rw[h];exact aI.new w cs t
structure fQ(N:Nat)(W w:World)(nb:Nat)(x:Nd)(ka va aa:Option Addr)(kc vc ac:Nat)(l:List UInt64)(g c:Nat):Prop where
 row:Row w g c (aF l)
 v:NR w va vc (aF x.vals)
 a:NR w aa ac (ints x.ah)
 box:aI w nb #[.bool x.leaf,.slice ka x.ai.length kc,.slice va x.vals.length vc,.slice aa x.ah.length ac]
 ge:N<=g
 ne:g≠nb
 gv:¬aK va g
 ga:¬aK aa g
 kept:Kept (λ j=>j<W.heap.size/\¬(aK ka j\/aK va j\/j=nb)) W w
 own:aK ka g\/W.heap.size<=g
theorem fQ.next{l:List UInt64}{g c:Nat}{w w':World}(h:fQ N W w nb x ka va aa kc vc ac l g c)(hb:Below w w w'):fQ N W w' nb x ka va aa kc vc ac l g c:=
 ⟨h.row.below hb h.row.lt,h.v.af hb.size (λ j hj=>hb.block j (h.v.lt hj)),h.a.af hb.size (λ j hj=>hb.block j (h.a.lt hj)),h.box.next hb,h.ge,h.ne,h.gv,h.ga,h.kept.trans (Kept.of_below hb (λ _ hj=>bS hj.1 h.kept.size)),h.own⟩
theorem bz.yK{l:List UInt64}{g c:Nat}{wa w:World}(h:bz N W nb x ka va aa kc vc ac)(hN:N<=W.heap.size)(ba:Below W W wa)(r:Row w g c (aF l))(o:Only g wa w)(hg:aK ka g\/wa.heap.size<=g):fQ N W w nb x ka va aa kc vc ac l g c:=by
 have hA:=h.next ba;have hs:=ba.size;have hnb:=h.box.lt
 have hne:N<=g/\g≠nb:=by
  rcases hg with h1|h1
  ·exact h.new g (.inl h1)
  exact⟨by omega,by omega⟩
 have gv:¬aK va g:=by
  rcases hg with h1|h1
  ·exact h.kv g h1
  exact λ e=>by have:=h.v.lt e;omega
 have ga:¬aK aa g:=by
  rcases hg with h1|h1
  ·exact h.ka g h1
  exact λ e=>by have:=h.a.lt e;omega
 refine⟨r,hA.v.only o gv,hA.a.only o ga,hA.box.only o hne.2.symm,hne.1,hne.2,gv,ga,⟨o.os.trans ba.os,o.tape.trans ba.tape,o.output.trans ba.output,bf hs o.size,λ j hj=>?_⟩,?_⟩
 ·refine(o.block j (bS hj.1 hs) (λ e=>?_)).trans (ba.block j hj.1);subst e;rcases hg with h1|h1
  ·exact hj.2 (.inl h1)
  have:=hj.1;omega
 rcases hg with h1|h1
 ·exact .inl h1
 exact .inr (by omega)
theorem fQ.done{l m:List UInt64}{g c g2 c2:Nat}{wb w:World}(h:fQ N W wb nb x ka va aa kc vc ac l g c)(hv0:bz N W nb x ka va aa kc vc ac)(r:Row w g2 c2 (aF m))(o:Only g2 wb w)(hg:aK va g2\/wb.heap.size<=g2) :
  bz N ((w.setCell (nb,1) (.slice g l.length c)).setCell (nb,2) (.slice g2 m.length c2)) nb {x with ai:=l,vals:=m} g g2 aa c c2 ac /\
  Kept (λ j=>j<W.heap.size/\¬(aK ka j\/aK va j\/j=nb)) W ((w.setCell (nb,1) (.slice g l.length c)).setCell (nb,2) (.slice g2 m.length c2)) /\
  aI w nb #[.bool x.leaf,.slice ka x.ai.length kc,.slice va x.vals.length vc,.slice aa x.ah.length ac]/\g2≠nb:=by
 have hgl:=h.row.lt;have hnl:=h.box.lt;have hks:=h.kept.size;have hWn:=hv0.box.lt;have hNg:=hv0.ge
 have hne:N<=g2/\g2≠nb:=by
  rcases hg with h1|h1
  ·exact hv0.new g2 (.inr (.inl h1))
  exact⟨by omega,by omega⟩
 have g12:g2≠g:=by
  rcases hg with h1|h1
  ·exact λ e=>h.gv (e▸h1)
  omega
 have ga:¬aK aa g2:=by
  rcases hg with h1|h1
  ·exact hv0.va g2 h1
  exact λ e=>by have:=h.a.lt e;omega
 have r1:=h.row.only o g12.symm;have a1:=h.a.only o ga;have b1:=h.box.only o hne.2.symm;have o2:Only nb w ((w.setCell (nb,1) (.slice g l.length c)).setCell (nb,2) (.slice g2 m.length c2)):=((Only.refl nb w).set 1 _).set 2 _;have b2:=(b1.set 1 (.slice g l.length c)).set 2 (.slice g2 m.length c2);generalize (w.setCell (nb,1) (.slice g l.length c)).setCell (nb,2) (.slice g2 m.length c2)=w3 at o2 b2 ⊢;refine⟨⟨by simpa using b2,.inr ⟨g,rfl,r1.only o2 h.ne⟩,.inr ⟨g2,rfl,r.only o2 hne.2⟩,a1.only o2 (λ e=>(hv0.new nb (.inr (.inr e))).2 rfl),hv0.ge,λ j hj=>?_,λ _ hj e=>?_,λ _ hj e=>?_,λ _ hj e=>?_⟩,⟨(o2.os.trans o.os).trans h.kept.os,(o2.tape.trans o.tape).trans h.kept.tape,(o2.output.trans o.output).trans h.kept.output,bf (bf hks o.size) o2.size,λ j hj=>?_⟩,b1,hne.2⟩
 ·rcases hj with hj|hj|hj
  ·rw[gF hj];exact⟨h.ge,h.ne⟩
  ·rw[gF hj];exact hne
  exact hv0.new j (.inr (.inr hj))
 ·have e1:=gF hj;have e2:=gF e;exact g12 (by omega)
 ·rw[gF hj]at e;exact h.ga e
 ·rw[gF hj]at e;exact ga e
 have hjb:j<wb.heap.size:=bS hj.1 hks;refine((o2.block j (bS hjb o.size) (λ e=>hj.2 (.inr (.inr e)))).trans (o.block j hjb (λ e=>?_))).trans (h.kept.block j hj);subst e;rcases hg with h1|h1
 ·exact hj.2 (.inr (.inl h1))
 omega
structure bL(E:Nat->Prop)(W:World)(P D T root:Nat)(A:AP)(k:Nat):Prop where
 pz:PZ E W P D A k
 box:aI W T #[.pointer P,.int .i64 root]
 mem:E T
def wD(N:Nat)(W w:World)(nb:Nat)(ka va:Option Addr)(l m:List UInt64):Prop:=
 ∃uZ MK c c2,bz N w nb {leaf:=true,ai:=l,vals:=m,ah:=[]} uZ MK none c c2 0/\Kept (λ j=>j<W.heap.size/\¬(aK ka j\/aK va j\/j=nb)) W w/\(∀j,aK uZ j->aK ka j\/W.heap.size<=j)/\(∀j,aK MK j->aK va j\/W.heap.size<=j)
theorem yam{wb w:World}{ks vs:List UInt64}{i g c g2 c2:Nat}{key v:UInt64}(h:bz N W nb {leaf:=true,ai:=ks,vals:=vs,ah:=[]} ka va none kc vc 0)(hi:i<=ks.length)(hlv:vs.length=ks.length)
  (m:fQ N W wb nb {leaf:=true,ai:=ks,vals:=vs,ah:=[]} ka va none kc vc 0 (ks.take i++key::ks.drop i) g c) (r:Row w g2 c2 (aF (vs.take i++v::vs.drop i))) (o:Only g2 wb w) (hg:aK va g2\/wb.heap.size<=g2) :
  wD N W ((w.setCell (nb,1) (.slice g (ks.length+1) c)).setCell (nb,2) (.slice g2 (ks.length+1) c2)) nb ka va (ks.take i++key::ks.drop i) (vs.take i++v::vs.drop i):=by
 obtain⟨d1,d2,_,_⟩:=m.done h r o hg;have e1:(ks.take i++key::ks.drop i).length=ks.length+1:=by simp;omega
 have e2:(vs.take i++v::vs.drop i).length=ks.length+1:=by simp;omega
 rw[e1,e2]at d1 d2;refine⟨_,_,_,_,d1,d2,λ j hj=>?_,λ j hj=>?_⟩
 ·rw[gF hj];exact m.own
 rw[gF hj];rcases hg with h1|h1
 ·exact .inl h1
 exact .inr (bf m.kept.size h1)
end
section
variable{E:Nat->Prop}{W W' w2 wc:World}{P D T k k0 pg N M nb kc vc ac:Nat}{rt:Nat}{A:AP}{x:Nd}{ka va aa:Option Addr}
theorem J7{ao:Option Addr}{c:Nat}{vs:List Value}{j:Nat}(h:NR W ao c vs)(hj:aK ao j):j<W.heap.size:=h.lt hj
theorem ZK{ks vs l m:List UInt64}(h:bL E W P D T rt A k0)(hN:W.heap.size<=N)(bi:bz N w2 nb {leaf:=true,ai:=ks,vals:=vs,ah:=[]} ka va none kc vc 0)(gV:nb<M)(fT:∀g,aK ka g\/aK va g\/aK none g->g<M)
  (p1:PZ (λ j=>E j\/N<=j/\j<M) w2 P D A k) (k1:Kept E W w2) (hp:wD N w2 wc nb ka va l m) :
  PZ (λ j=>E j\/(N<=j/\j<M)\/(w2.heap.size<=j/\j<wc.heap.size)) wc P D A k/\jN (λ j=>E j\/(N<=j/\j<M)\/(w2.heap.size<=j/\j<wc.heap.size)) wc nb {leaf:=true,ai:=l,vals:=m,ah:=[]}/\aI wc T #[.pointer P,.int .i64 rt]/\Kept E W wc:=by
 obtain⟨uZ,MK,c,c2,hn2,k2,hoa,jY⟩:=hp
 have hR:∀j,aK ka j\/aK va j\/j=nb->N<=j/\j<M:=λ j hj=>by
  rcases hj with hj|hj|rfl
  ·exact⟨(bi.new j (.inl hj)).1,fT j (.inl hj)⟩
  ·exact⟨(bi.new j (.inr (.inl hj))).1,fT j (.inr (.inl hj))⟩
  exact⟨bi.ge,gV⟩
 have hE:=h.pz.there;have kE:Kept E w2 wc:=k2.mono (λ j hj=>⟨bS (hE j hj) k1.size,λ hr=>by have:=(hR j hr).1;have:=hE j hj;omega⟩);refine⟨p1.over (R:=λ j=>aK ka j\/aK va j\/j=nb) (λ j hj=>.inr (hR j hj)) (λ hr=>by have:=(hR _ hr).1;have:=h.pz.tab.lt;omega) k2.size (λ j hj hr=>k2.block j ⟨hj,hr⟩) (λ j hj=>?_),hn2.reads (.inr (.inl ⟨bi.ge,gV⟩)) (λ g hg=>?_),(h.box.af (k1.block T h.mem)).af (kE.block T h.mem),k1.trans kE⟩
 ·rcases hj with hj|hj|hj
  ·exact .inl (.inl hj)
  ·exact .inl (.inr hj)
  exact .inr hj
 rcases hg with hg|hg|hg
 ·rcases hoa g hg with h1|h1
  ·exact .inr (.inl (hR g (.inl h1)))
  exact .inr (.inr ⟨h1,J7 hn2.k hg⟩)
 ·rcases jY g hg with h1|h1
  ·exact .inr (.inl (hR g (.inr (.inl h1))))
  exact .inr (.inr ⟨h1,J7 hn2.v hg⟩)
 cases hg
end
end Go.Proofs.YtlipgbnnbefhjaaGreatDoor
