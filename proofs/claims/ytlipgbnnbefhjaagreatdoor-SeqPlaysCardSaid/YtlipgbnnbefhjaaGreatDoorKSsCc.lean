/- Facts on rows of numbers on pages. -/
import Derived.Test.YtlipgbnnbefhjaaGreatDoorKSqZc
import Derived.Deep.Upon
set_option maxRecDepth 100000
set_option maxHeartbeats 8000000
set_option linter.unusedSimpArgs false
namespace Go.Proofs.YtlipgbnnbefhjaaGreatDoor
open Go.RowKit
open UK (str aO nth Only Row aI)
section
variable{B E F:Nat->Prop}{W W':World}{P D Q T rt aC k nb e:Nat}{A:AP}{n:Sn}{qs:List Nat}{m:List KV}{C:List bV}{s t:SS}{ka va aa:Option Addr}{kc vc ac:Nat}{ae:List SS}
theorem Jl{α:Type}{l:List α}{i:Nat}{a:α}(h:l[i]?=some a):l=l.take i++a::l.drop (i+1):=by
 obtain⟨hi,he⟩:=dn.1 h;rw[<-he,List.getElem_cons_drop,gm]
theorem ZI.down{i:Nat}(h:ZI A rt aC m qs C (e+1) s n)(hat:aU A s.pg=some n)(hb:Body (e+1) (aL C) n ae)(hs:s=aM s.pg n ae)(hk:∀t∈ae,eT (aU A) e s.pg t)(dR:C≠[]->dD n)(fO:2<=ae.length)(hi:ae[i]?=some t) :
  ∃x,aU A t.pg=some x/\dD x/\ZI A rt aC m qs (⟨s.pg,ae.take i,ae.drop (i+1),t.l.length⟩::C) e t x:=by
 rcases hb with⟨h0,_⟩|⟨_,rfl⟩
 ·exact absurd h0 (Nat.succ_ne_zero _)
 obtain⟨x,hx,hn,hf⟩:=hk t (fe hi);have hcut:=Jl hi;rw[EO]at hs
 have qC:(⟨s.pg,ae.take i,ae.drop (i+1),t.l.length⟩:bV).part t=s:=by
  rw[bV.lC];show jC s.pg (ae.take i++t::ae.drop (i+1))=s;rw[<-hcut,<-hs]
 have hil:=(dn.1 hi).1;have hl1:(ae.take i).length=i:=by rw[zt];omega
 have hl2:(ae.drop (i+1)).length=ae.length-(i+1):=by rw[zd]
 refine⟨x,hx,hf,⟨?_,?_,hn,⟨?_,λ u hu=>?_,?_,λ hC=>?_,h.cx⟩,h.root⟩⟩
 ·have:=h.rp.perm (P':=t.ps++aT (⟨s.pg,ae.take i,ae.drop (i+1),t.l.length⟩::C)) (by
   have h2:=KU (⟨s.pg,ae.take i,ae.drop (i+1),t.l.length⟩:bV) C t;rw[qC]at h2;exact h2)
  exact this
 ·have h2:=RN (⟨s.pg,ae.take i,ae.drop (i+1),t.l.length⟩:bV) C t;rw[qC]at h2;rw[<-h2];exact h.rv
 ·show aU A s.pg=some (bV.node ⟨s.pg,ae.take i,ae.drop (i+1),t.l.length⟩ (aL C) t.pg t.l.length);rw[bV.xk,hat];show some (bO (aL C) ae)=some (bO (aL C) (ae.take i++t::ae.drop (i+1)));rw[<-hcut]
 ·refine hk u ?_;rcases cB.1 hu with h1|h1
  ·exact fI h1
  exact fA h1
 ·show 1<=(ae.take i).length+(ae.drop (i+1)).length;omega
 show 19<=(ae.take i).length+(ae.drop (i+1)).length;have:=dR hC;unfold dD at this;rw[(EP (aL C) ae).1,(EP (aL C) ae).2.1]at this;omega
theorem xln(ae:List SS)(i:Nat):((dm ae).take i).sum=(bP (cu (ae.take i))).length:=by
 rw[<-Jf];unfold dm;rw[List.map_take]
theorem TN{f:Nat->Option Sn}{e up:Nat}(hd:∀t,eT f e up t->2^e<=t.ps.length):∀(ae:List SS),(∀t∈ae,eT f e up t)->ae.length*2^e<=(bI ae).length
 | [],_=>by simp
 | t::r,h=>by
  have h1:=hd t (h t (gZ ..));have h2:=TN hd r (λ u hu=>h u (eu _ hu));rw[Ao,zl,dw,Nat.add_mul];omega
theorem eT.deep{f:Nat->Option Sn}:∀(e up:Nat) (t:SS),eT f e up t->2^e<=t.ps.length
 | 0,up,t,⟨x,_,hn,_⟩=>by
  rw[hn.ps];simp
 | e+1,up,t,⟨x,_,hn,hf⟩=>by
  obtain⟨ae,rfl,h2,h3,h4⟩:=hn;have h5:=TN (λ u=>eT.deep e t.pg u) ae h2
  have h6:2<=ae.length:=by
   unfold dD Sn.ax Sn.size at hf;simp[bJ]at hf;omega
  have h7:2*2^e<=ae.length*2^e:=Nat.mul_le_mul_right _ h6;rw[h4,dw,Nat.pow_succ];omega
theorem RI.deep{d:Nat}(h:RI A rt aC m qs d s n):d<=16:=by
 cases d with
 | zero=>omega
 | succ d=>
  obtain⟨ae,rfl,h2,h3,h4⟩:=h.zi.ni;have h5:=TN (λ u=>eT.deep d s.pg u) ae h2
  have h6:2<=ae.length:=by
   have:=h.two rfl
   simpa[bJ]using this
  have h7:2*2^d<=ae.length*2^d:=Nat.mul_le_mul_right _ h6;have h8:=OA h.zi.rp.rD (λ p hp=>h.zi.rp.dO hp) h.zi.rp.good;rw[zl,h4,dw]at h8;refine Nat.le_of_not_lt (λ hlt=>?_);have h9:2^16<=2^d:=Nat.pow_le_pow_right (by omega) (by omega);have:(2:Nat)^16=65536:=by decide
  omega
structure dX(A:AP)(rt aC:Nat)(m:List KV)(qs:List Nat)(d:Nat)(s0:SS)(i j:Nat)(C:List bV)(s:SS)(n:Sn)(r:Nat):Prop where
 zi:∃e,e+j=d/\ZI A rt aC m qs C e s n
 len:C.length=j
 at_:aU A s.pg=some n
 Jm:C≠[]->dD n
 two:n.leaf=false->2<=n.ah.length
 lv:dE C s.lv=s0.lv
 pm:(s.ps++aT C).Perm s0.ps
 pre:(ig C).length+r=i
 last:r<s.l.length\/kV C=[]
theorem dX.start{d i:Nat}{s0:SS}{n0:Sn}(h:RI A rt aC m qs d s0 n0):dX A rt aC m qs d s0 i 0 [] s0 n0 i:=
 ⟨⟨d,rfl,h.zi⟩,rfl,h.at_,λ hC=>absurd rfl hC,h.two,rfl,by simp[aT],by simp[ig],.inr rfl⟩
theorem dX.leaf{d i j r:Nat}{s0:SS}(h:dX A rt aC m qs d s0 i j C s n r)(hl:n.leaf=true):∃aA,n=⟨true,aL C,aA,[],[]⟩/\s=⟨s.pg,[(s.pg,aA)],[s.pg]⟩/\ZI A rt aC m qs C 0 s n/\j=d:=by
 obtain⟨e,he,hz⟩:=h.zi;obtain rfl:=hz.ni.leaf.1 hl;obtain⟨aA,h1,h2,h3⟩:=id hz.ni;exact⟨aA,h1,by cases s;simp only at h2 h3;subst h2 h3;rfl,hz,by omega⟩
theorem dX.inner{d i j r:Nat}{s0:SS}(h:dX A rt aC m qs d s0 i j C s n r)(hl:n.leaf=false):j<d/\∃ae,n=bO (aL C) ae/\s=jC s.pg ae/\2<=ae.length/\ae.length<=40/\(∀κ q,κ<ae.length->((dm ae).take κ).sum+q=r->(∀t,ae[κ]?=some t->q<t.l.length\/κ+1=ae.length)->∃t x,ae[κ]?=some t/\dX A rt aC m qs d s0 i (j+1) (⟨s.pg,ae.take κ,ae.drop (κ+1),t.l.length⟩::C) t x q):=by
 obtain⟨e,he,hz⟩:=h.zi
 cases e with
 | zero=>
  have:=hz.ni.leaf.2 rfl;rw[hl]at this
  cases this
 | succ e=>
  obtain⟨ae,hb,hk,hs⟩:=hz.ni.body;obtain⟨_,_,hn⟩:=hb.size;have mZ:=h.two hl;rw[hb.ah.1]at mZ;have hkl:(bJ ae).length=ae.length:=by simp[bJ]
  have hx:=nT h.at_;have kD:=(hx.inner hl).1;rw[hb.ah.1,hkl]at kD
  have hno:n=bO (aL C) ae:=by
   rcases hb with⟨h0,_⟩|⟨_,h1⟩
   ·exact absurd h0 (Nat.succ_ne_zero _)
   exact h1
  have hsp:s=jC s.pg ae:=by
   have:=hs;rw[hno,EO]at this;exact this
  refine⟨by omega,ae,hno,hsp,by omega,kD,λ κ q dK hsum hlast=>?_⟩;obtain⟨t,ht⟩:∃t,ae[κ]?=some t:=⟨_,di dK⟩;obtain⟨x,hx,hf,hz2⟩:=hz.down h.at_ hb hs hk h.Jm (by omega) ht
  have qC:(⟨s.pg,ae.take κ,ae.drop (κ+1),t.l.length⟩:bV).part t=s:=by
   rw[bV.lC];show jC s.pg (ae.take κ++t::ae.drop (κ+1))=s;rw[<-Jl ht,<-hsp]
  have hsl:s.l=bP (cu (ae.take κ))++(t.l++bP (cu (ae.drop (κ+1)))):=by
   have h1:s.l=bP (cu ae):=by rw[hsp];rfl
   rw[h1,Jl ht,BS,Cb,Gq,Gq];rw[<-Jl ht];rfl
  have hll:=congrArg List.length hsl;rw[zl,zl]at hll;rw[xln]at hsum;refine⟨t,x,ht,⟨⟨e,by omega,hz2⟩,by simp[h.len],hx,λ _=>hf,λ hxl=>?_,?_,?_,?_,?_⟩⟩
  ·have:dD x:=hf;unfold dD Sn.ax Sn.size at this;rw[hxl,((nT hx).inner hxl).2.2.1]at this;simp at this;omega
  ·rw[<-h.lv,<-qC];rfl
  ·have h2:=KU (⟨s.pg,ae.take κ,ae.drop (κ+1),t.l.length⟩:bV) C t;rw[qC]at h2;exact h2.symm.trans h.pm
  ·have:=h.pre;show(ig C++bP (cu (ae.take κ))).length+q=i;rw[zl];omega
  rcases hlast t ht with h1|h1
  ·exact .inl h1
  have hd:ae.drop (κ+1)=[]:=kz (by omega);rcases h.last with h2|h2
  ·left
   rw[hd]at hll;simp[cu,bP]at hll;simp[cu,bP]at hsum;omega
  right
  show bP (cu (ae.drop (κ+1)))++kV C=[];rw[hd,h2];rfl
end
section
variable{B E F:Nat->Prop}{W W':World}{P D Q T rt aC k nb e:Nat}{A:AP}{n n0:Sn}{qs:List Nat}{m:List KV}{C:List bV}{s s0:SS}{ka va aa:Option Addr}{kc vc ac:Nat}
def Y1(F:Nat->Prop)(W w':World)(P D Q T rt aC k:Nat)(A:AP)(m:List KV)(qs:List Nat)(d:Nat)(s0:SS)(i:Nat)(e:Ending):Prop:=
 ∃B nb ka va aa kc vc ac C pg aA r,e= .returned (.tuple #[.pointer (some ⟨nb,0,none⟩),.int .i64 (pg:Nat),.int .i64 (r:Nat),.int .i64 0])/\(∀j,B j->W.heap.size<=j)/\eD B w' nb ⟨true,aL C,aA,[],[]⟩ ka va aa kc vc ac/\aD (λ j=>F j\/B j) w' P D Q T rt aC A (k+40)/\Kept F W w'/\dX A rt aC m qs d s0 i d C ⟨pg,[(pg,aA)],[pg]⟩ ⟨true,aL C,aA,[],[]⟩ r
theorem OI{d i:Nat}(h:aD F W P D Q T rt aC A k)(hr:RI A rt aC m qs d s0 n0)(hk:k+100<900000000)(hi:i<9223372036854775808) :
  Calls Tryz.prog 34 #[.pointer Q,.int .i64 (i:Int)] W (λ e w'=>Y1 F W w' P D Q T rt aC k A m qs d s0 i e):=by
 have hdp:=hr.deep;have c1:=h.box.c1;have HST:Hid (∃C s n,rt=s.pg/\aD F W P D Q T rt aC A (k+2*0)/\Kept F W W/\dX A rt aC m qs d s0 i 0 C s n i):=zH ⟨[],s0,n0,hr.zi.root.symm,h,Kept.of_below (aP _ _) h.pz.there,dX.start hr⟩;have HH:=zH h;have hc0:=h.pz.there;clear h hr
 go_enter Tryz.func34,Tryz.ntmps34
 go_wp2_with fail
 go_loopw [16,8,1] (λ ix pv iv wr=>∃j lD r:Nat,ix= .int .i64 j/\pv= .int .i64 lD/\iv= .int .i64 r/\j<=17/\r<=i/\Hid (∃C s n,lD=s.pg/\aD F wr P D Q T rt aC A (k+2*j)/\Kept F W wr/\dX A rt aC m qs d s0 i j C s n r)) (λ ix _ _ _=>21-(intOf ix).toNat)
 case atStart=>exact⟨0,rt,i,rfl,rfl,rfl,by omega,aZ _,HST⟩
 clear HST;obtain⟨j,lD,r,rfl,rfl,rfl,hj,uf,hI⟩:=hrel;obtain⟨C,s,n,rfl,hs,kp,hz⟩:=hI.out;obtain⟨e,he,hzz⟩:=hz.zi;have hj2:(j:Int)<20:=by omega
 have HL:=zH (xh hs (by omega) hzz.has hz.at_);have H1:=zH (zA hs (zA kp hz));clear hI hs kp hz hzz he c1
 go_wp2_with fail
 refine HL.out.mono ?_;rintro e' w1 ⟨B,nb,ka,va,aa,kc,vc,ac,rfl,hB,hb,hs1,k1⟩;obtain⟨hs,kp,hz⟩:=H1.out;have d0:=hb.1.box.c0;have nV:=kp.trans k1;have hlf:=hz.leaf;have hin:=hz.inner
 cases hl:n.leaf with
 | true=>
  obtain⟨aA,hn,hsp,hz0,hjd⟩:=hlf hl;rw[hl]at d0
  have hF:Y1 F W w1 P D Q T rt aC k A m qs d s0 i (.returned (.tuple #[.pointer nb,.int .i64 (s.pg:Nat),.int .i64 (r:Nat),.int .i64 0])):=by
   refine⟨B,nb,ka,va,aa,kc,vc,ac,C,s.pg,aA,r,rfl,λ j hj=>bf kp.size (hB j hj).1,by rw[<-hn];exact hb,hs1.up (by omega),nV,?_⟩;rw[<-hn,<-hsp];rw[hjd]at hz;exact hz
  have HF:=zH hF;clear HL H1 hB hb hs1 k1 hs kp hz nV hlf hin hn hsp hz0 hF hjd hl;go_wp2;refine bodyPost_ret (xnm rfl _ _ _) rfl ?_;exact HF.out
 | false=>
  obtain⟨hjd,ae,hn,hsp,h2,kD,hst⟩:=hin hl;have e3:n.ah=bJ ae:=by rw[hn];rfl
  have e4:n.au=dm ae:=by rw[hn];rfl
  have hkl:n.ah.length=ae.length:=by rw[e3];simp[bJ]
  have hcl:n.au.length=ae.length:=by rw[e4];simp[dm]
  rw[hl]at d0
  obtain⟨g3,rfl,r3⟩:∃g,va=some ⟨g,0,none⟩/\Row w1 g vc (ints n.ah):=by
   rcases hb.1.v with⟨_,h2',_⟩|⟨g,h1,h2'⟩
   ·have:=congrArg List.length h2';rw[dx,hkl]at this;simp only[List.length_nil]at this;omega
   exact⟨g,h1,h2'⟩
  obtain⟨g4,rfl,r4⟩:∃g,aa=some ⟨g,0,none⟩/\Row w1 g ac (ints n.au):=by
   rcases hb.1.a with⟨_,h2',_⟩|⟨g,h1,h2'⟩
   ·have:=congrArg List.length h2';rw[dx,hcl]at this;simp only[List.length_nil]at this;omega
   exact⟨g,h1,h2'⟩
  have d3:w1.cell? (nb,3)=some (.slice g3 ae.length vc):=by rw[<-hkl];exact hb.1.box.cell 3 _ rfl
  have d4:w1.cell? (nb,4)=some (.slice g4 ae.length ac):=by rw[<-hcl];exact hb.1.box.cell 4 _ rfl
  have hk3:∀κ t,ae[κ]?=some t->w1.cell? ⟨g3,κ,none⟩=some (.int .i64 (t.pg:Int)):=λ κ t ht=>r3.at' κ _ (qw _ _ _ (by rw[e3];unfold bJ;rw[dW,ht];rfl));have hk4:∀κ t,ae[κ]?=some t->w1.cell? ⟨g4,κ,none⟩=some (.int .i64 (t.l.length:Int)):=λ κ t ht=>r4.at' κ _ (qw _ _ _ (by rw[e4];unfold dm;rw[dW,ht];rfl));have HK:=zH (zA hk3 hk4);have HN:=zH (zA hst (zA (hs1.less (E':=F) hs.mem hs.fH (λ _ h=>.inl h)) nV));have hw:IntKind.i64.wrap ((ae.length:Int)-1)=(ae.length:Int)-1:=by rw[bN];omega
  clear HL H1 hB hb hs1 k1 hs kp hz nV hlf hin hn hsp hl hst e3 e4 hkl hcl r3 r4 hk3 hk4
  go_wp2_with fail
  go_loopw [11,1] (λ kv iv wx=>∃κ q:Nat,kv= .int .i64 κ/\iv= .int .i64 q/\κ<ae.length/\((dm ae).take κ).sum+q=r/\wx=w1) (λ kv _ _=>41-(intOf kv).toNat)
  case atStart=>exact⟨0,r,rfl,rfl,by omega,by simp,rfl⟩
  obtain⟨κ,q,rfl,rfl,dK,hsum,rfl⟩:=hrel;obtain⟨t,ht⟩:∃t,ae[κ]?=some t:=⟨_,di dK⟩;have ck4:=HK.out.2 κ t ht;have XW:=HK.out.1 κ t ht;have hts:(dm ae)[κ]?=some t.l.length:=by unfold dm;rw[dW,ht];rfl
  have hsn:=RP _ _ _ hts;have aau:(κ:Int)<(ae.length:Int):=by omega
  by_cases hgo:κ+1<ae.length/\t.l.length<=q
  ·have g1:(κ:Int)<(ae.length:Int)-1:=by omega
   have g2:(t.l.length:Int)<=(q:Int):=by omega
   have hw2:IntKind.i64.wrap ((q:Int)-(t.l.length:Int))=((q-t.l.length:Nat):Int):=by rw[bN];omega
   have HS:=zH (show((dm ae).take (κ+1)).sum+(q-t.l.length)=r from by omega);clear hsum hsn hts;have aav:=hgo.1;clear hgo;go_wp2;go_roundw
   case rel=>exact⟨κ+1,q-t.l.length,by go_num,by first|rfl|(rw[hw2])|simp[hw2],by omega,HS.out,trivial⟩
   case measure=>simp[intOf];omega
  obtain⟨t',x,ht',hz'⟩:=HN.out.1 κ q dK hsum (λ u hu=>by
   rw[ht]at hu;obtain rfl:=bC hu;omega)
  rw[ht]at ht';obtain rfl:=bC ht';have HF:Hid (∃C s n,t.pg=s.pg/\aD F wr P D Q T rt aC A (k+2*(j+1))/\Kept F W wr/\dX A rt aC m qs d s0 i (j+1) C s n q):=zH ⟨_,_,_,rfl,HN.out.2.1.up (by omega),HN.out.2.2,hz'⟩;have hq:q<=r:=by omega
  have hne:((ae.length:Int)==0)=false:=beq_eq_false_iff_ne.2 (by omega);clear hsum hsn hts ht hz';by_cases h1:κ+1<ae.length
  ·have g1:(κ:Int)<(ae.length:Int)-1:=by omega
   have g2:¬(t.l.length:Int)<=(q:Int):=by omega
   clear hgo h1;go_wp2;go_roundw
   case rel=>exact⟨j+1,t.pg,q,by go_num,rfl,rfl,by omega,by omega,HF⟩
   case measure=>simp[intOf];omega
  have g1:¬(κ:Int)<(ae.length:Int)-1:=by omega
  clear hgo h1;go_wp2;go_roundw
  case rel=>exact⟨j+1,t.pg,q,by go_num,rfl,rfl,by omega,by omega,HF⟩
  case measure=>simp[intOf];omega
end
theorem xiv{α:Type}{a b c:List α}{r i:Nat}(hi:a.length+r=i)(hr:r<=b.length):(a++b++c).take i=a++b.take r/\(a++b++c).drop i=b.drop r++c:=by
 subst hi;rw[dH];refine⟨?_,?_⟩
 ·rw[kU,eZ (by omega),uG,lZ hr]
 rw[List.drop_append,kz (by omega),uG,kR hr,gH]
section
variable{B E F:Nat->Prop}{W W':World}{P D Q T rt aC k nb e d i r pg:Nat}{A A':AP}{n n0:Sn}{qs:List Nat}{m:List KV}{C:List bV}{s s0:SS}{ka va aa:Option Addr}{kc vc ac:Nat}{aA:List UInt64}
theorem dX.nums(h:dX A rt aC m qs d s0 i d C ⟨pg,[(pg,aA)],[pg]⟩ n r):s0.l=ig C++aA++kV C:=by
 have h1:=congrArg bP h.lv;rw[sQ]at h1;have h2:bP [(pg,aA)]=aA:=by simp[bP]
 rw[h2]at h1;exact h1.symm
theorem dX.place(h:dX A rt aC m qs d s0 i d C ⟨pg,[(pg,aA)],[pg]⟩ n r):(r<=aA.length->i<=s0.l.length)/\(aA.length<r->s0.l.length<i)/\(r<aA.length↔i<s0.l.length):=by
 have h1:=congrArg List.length h.nums;have h2:=h.pre;have h3:=h.last;rw[zl,zl]at h1;have h4:(⟨pg,[(pg,aA)],[pg]⟩:SS).l.length=aA.length:=by simp[SS.l,bP]
 rw[h4]at h3;refine⟨λ h=>by omega,λ h=>?_,?_⟩
 ·rcases h3 with h3|h3
  ·omega
  rw[h3]at h1;simp only[List.length_nil]at h1;omega
 rcases h3 with h3|h3
 ·omega
 rw[h3]at h1;simp only[List.length_nil]at h1;omega
theorem dX.ins{id:UInt64}(h:dX A rt aC m qs d s0 i d C ⟨pg,[(pg,aA)],[pg]⟩ ⟨true,aL C,aA,[],[]⟩ r)(hz:ZI A rt aC m qs C 0 ⟨pg,[(pg,aA)],[pg]⟩ ⟨true,aL C,aA,[],[]⟩)(hr:r<=aA.length)(hid:id∉s0.l)(hp:nE A A' aC (fZ m id (UInt64.ofNat pg)) qs) :
  ∃bK,ZI A' rt aC (fZ m id (UInt64.ofNat pg)) bK C 0 ⟨pg,[(pg,aA.take r++id::aA.drop r)],[pg]⟩ ⟨true,aL C,aA.take r++id::aA.drop r,[],[]⟩/\A.Reach A'/\A'.ay+bK.length=A.ay+qs.length/\bP (dE C [(pg,aA.take r++id::aA.drop r)])=s0.l.take i++id::s0.l.drop i:=by
 obtain⟨bK,h1,h2,h3,h4⟩:=hz.rp.put hp;have hX:=h.nums;have hV:=hz.rv
 have G8:id∉bP (dE C [(pg,aA)]):=by
  have h5:=congrArg bP h.lv;dsimp only at h5;rw[h5];exact hid
 have rH:bP (dE C [(pg,aA.take r++id::aA.drop r)])=ig C++(aA.take r++id::aA.drop r)++kV C:=by rw[sQ];simp[bP]
 have xB:bP (dE C [(pg,aA)])=ig C++aA++kV C:=by rw[sQ];simp[bP]
 have hperm:(bP (dE C [(pg,aA.take r++id::aA.drop r)])).Perm (id::bP (dE C [(pg,aA)])):=by
  rw[rH,xB,List.perm_iff_count];intro x;have e1:aA.count x=(aA.take r).count x+(aA.drop r).count x:=by rw[<-List.count_append,gm]
  simp only[List.count_append,List.count_cons];omega
 refine⟨bK,⟨h1,⟨λ x hx j hj=>?_,λ y hy=>?_,?_⟩,⟨_,rfl,rfl,rfl⟩,hz.cx.same _ _ _ (λ p hp=>yj (h3 p (fE _ hp))),hz.root⟩,h2,h4,?_⟩
 ·rw[RO];rcases(yV C _).1 hx with h5|h5
  ·obtain rfl:x=(pg,aA.take r++id::aA.drop r):=by simpa using h5
   have hj2:j=id\/j∈aA:=by
    have OJ:j∈aA.take r++id::aA.drop r:=hj;simp only[cB,aX]at OJ;rcases OJ with h6|h6|h6
    ·exact .inr (fI h6)
    ·exact .inl h6
    exact .inr (fA h6)
   rcases hj2 with rfl|hj2
   ·exact .inr rfl
   refine .inl ⟨hV.pl (pg,aA) ((yV C _).2 (.inl (by simp))) j hj2,λ e=>G8 ?_⟩;have e:j=id:=e;rw[<-e,xB];exact bR _ (fE _ hj2)
  have h6:x∈dE C [(pg,aA)]:=(yV C _).2 (.inr h5);exact .inl ⟨hV.pl x h6 j hj,λ e=>G8 (by have e:j=id:=e;rw[<-e];exact Ji.2 ⟨x,h6,hj⟩)⟩
 ·rw[hperm.mem_iff,aX];rcases RO.1 hy with⟨h5,_⟩|rfl
  ·exact .inr (hV.ky y h5)
  exact .inl rfl
 ·rw[hperm.nodup_iff,dL];exact⟨G8,hV.uq⟩
 obtain⟨e1,e2⟩:=xiv (c:=kV C) h.pre hr;rw[rH,hX,e1,e2];simp only[dH,jA]
theorem xz1{w wa:World}{vb r:Nat}{id:UInt64}{x:Sn}(hb:eD B w nb x ka va aa kc vc ac)(hl:x.aA.length<=1000)(hi:r<=x.aA.length)(ba:Below w w wa)(hv:aI wa vb #[.int .u64 (id.toNat:Int)])(hvb:w.heap.size<=vb) :
  Calls Tryz.prog 61 #[.slice ka x.aA.length kc,.int .i64 (r:Int),.slice vb 1 1] wa λ e w'=>∃g c,e= .returned (.slice (some ⟨g,0,none⟩) (x.aA.length+1) c)/\w'.frozen? ⟨nb,2,none⟩=false/\(∃v,w'.cell? (nb,2)=some v)/\(∃B',(∀j,B' j↔B j\/(w.heap.size<=j/\j<(w'.setCell (nb,2) (.slice (some ⟨g,0,none⟩) (x.aA.length+1) c)).heap.size))/\eD B' (w'.setCell (nb,2) (.slice (some ⟨g,0,none⟩) (x.aA.length+1) c)) nb {x with aA:=x.aA.take r++id::x.aA.drop r} (some ⟨g,0,none⟩) va aa c vc ac/\Kept (λ j=>j<w.heap.size/\¬B j) w (w'.setCell (nb,2) (.slice (some ⟨g,0,none⟩) (x.aA.length+1) c))):=by
 have qA:=hb.kept ba.size (λ g _ hg=>ba.block g hg);refine(OL qA.1.k hl hi id hv (λ e=>by have:=hb.1.k.lt e;omega)).mono ?_;rintro e w' ⟨g,c,rfl,r2,o,hg⟩;have aJ:(x.aA.take r++id::x.aA.drop r).length=x.aA.length+1:=by simp only[zl,zt,dw,zd];omega
 have hg2:aK ka g\/wa.heap.size<=g:=hg;obtain⟨h1,h2⟩:=qA.uD r2 o hg2
 have hgn:nb≠g:=by
  rcases hg2 with h|h
  ·exact λ e=>(hb.1.new g (.inl h)).2 e.symm
  have:=qA.1.box.lt;omega
 have hbx:=qA.1.box.only o hgn;rw[aJ]at h1 h2;refine⟨g,c,by rw[aJ],hbx.free 2,⟨_,hbx.cell 2 _ rfl⟩,_,λ j=>Iff.rfl,h1.mono (λ j hj=>?_),(Kept.of_below ba (λ j (hj:j<w.heap.size/\¬B j)=>hj.1)).trans (h2.mono (λ j hj=>⟨bS hj.1 ba.size,hj.2⟩))⟩;rcases hj with hj|hj
 ·exact .inl hj
 exact .inr ⟨bf ba.size hj.1,hj.2⟩
theorem df.val{V:List LV}{m:List KV}(h:df V m)(hr:rC m)(id:UInt64):(id∈bP V->∃x∈V,id∈x.2/\iV m id=some (id,UInt64.ofNat x.1))/\(id∉bP V->iV m id=none):=by
 refine⟨λ hi=>?_,λ hi=>xty (λ y hy e=>hi (e▸h.ky y hy))⟩;obtain⟨x,hx,hix⟩:=Ji.1 hi;exact⟨x,hx,hix,xw5 hr (h.pl x hx id hix)⟩
def Ay(E:Nat->Prop)(W w':World)(P D Q T rt aC k:Nat)(A:AP)(qs:List Nat)(s:SS)(i:Int)(id:UInt64)(e:Ending):Prop:=
 ∃er:Int,e= .returned (.int .i64 er)/\((er=1/\(i<0\/(s.l.length:Int)<i)/\aD E w' P D Q T rt aC A k/\Kept E W w') \/
  (er=5/\0<=i/\i<=s.l.length/\id∈s.l/\aD E w' P D Q T rt aC A k/\Kept E W w') \/
  (er=0/\∃ι:Nat,i=ι/\ι<=s.l.length/\id∉s.l/\mF E W w' P D Q T rt aC k A (A.ay+s.ps.length+qs.length) (s.l.take ι++id::s.l.drop ι)))
theorem xxe{w4:World}{ι:Nat}{id:UInt64}{B4:Nat->Prop}(hQ:E Q)(hT:E T)(dG:∀j,B4 j->¬E j)(eF:¬B4 0)(h:aD (λ j=>E j\/B4 j) w4 P D Q T rt aC A' (k+1190))(kp:Kept E W w4)(hn:eD B4 w4 nb ⟨true,aL C,aA.take r++id::aA.drop r,[],[]⟩ ka va aa kc vc ac)(hk:k+200000<800000000)
  (hz:dX A rt aC m qs d s0 ι d C ⟨pg,[(pg,aA)],[pg]⟩ ⟨true,aL C,aA,[],[]⟩ r) (hr:r<=aA.length) (hd:d<=16) (hid:id∉s0.l) (hp:nE A A' aC (fZ m id (UInt64.ofNat pg)) qs) (aY:m.length+1100<=14*(A.ay+qs.length)) :
  Calls Tryz.prog 63 #[.pointer Q,.int .i64 pg,.pointer nb] w4 λ e' w'=>e'= .returned (.int .i64 0)/\mF E W w' P D Q T rt aC (k+70000) A (A.ay+s0.ps.length+qs.length) (s0.l.take ι++id::s0.l.drop ι):=by
 obtain⟨_,_,_,hzi,_⟩:=hz.leaf rfl;obtain⟨bK,z1,z2,z3,z4⟩:=hz.ins hzi hr hid hp;have h48:=((nT hz.at_).leaf rfl).1;dsimp only at h48;have hsz:(⟨true,aL C,aA.take r++id::aA.drop r,[],[]⟩:Sn).size=aA.length+1:=by simp[Sn.size];omega
 have hil:(aA.take r++id::aA.drop r).length=aA.length+1:=by simp;omega
 have o7:=Ye (X:=m) id (UInt64.ofNat pg);have hpm:=hz.pm.length_eq;rw[zl]at hpm;dsimp only at hpm;refine(xxd hQ hT dG eF h hn z1 (by rw[hsz];show _<=48+1;omega) (λ hC=>?_) (λ hl=>by cases hl) (by rw[hz.len];omega) (by omega) (by omega)).mono ?_
 ·have:=hz.Jm hC;unfold dD Sn.ax Sn.size at this;unfold dD;rw[hsz];simp at this;show 48/2<=_;omega
 rintro e' w' ⟨rfl,hR⟩;refine⟨rfl,hR.from kp z2 ?_ ?_ z4⟩
 ·show k+1190+1100*(aA.take r++id::aA.drop r).length+9000<=_;rw[hil];omega
 dsimp only;omega
end
section
variable{B E F:Nat->Prop}{W W':World}{P D Q T rt aC k nb e d:Nat}{A A':AP}{n n0:Sn}{qs:List Nat}{m:List KV}{C:List bV}{s s0:SS}
theorem aD.sV{W2:World}{k2:Nat}(h:aD E W P D Q T rt aC A k)(ht:bL E W2 P D T aC A' k2)(kp:Kept E W W2):aD E W2 P D Q T rt aC A' k2:=h.step ht.pz kp
end
section
variable{B E F:Nat->Prop}{W W':World}{P D Q T rt aC k nb e d:Nat}{A A':AP}{n n0:Sn}{qs:List Nat}{m:List KV}{C:List bV}{s s0:SS}
theorem dX.Az{i r pg:Nat}{aA:List UInt64}(h:dX A rt aC m qs d s0 i d C ⟨pg,[(pg,aA)],[pg]⟩ n r)(hr:r<aA.length):s0.l[i]?=aA[r]?:=by
 rw[h.nums,dH,dF (by have:=h.pre;omega),dM (by have:=h.pre;omega)]
 congr 1
 have:=h.pre;omega
def ql(l:List UInt64)(i:Int):Value:=if 0<=i then(match l[i.toNat]? with|some x=>.tuple #[.int .u64 (x.toNat:Int),.int .i64 0]|none=>.tuple #[.int .u64 0,.int .i64 1]) else .tuple #[.int .u64 0,.int .i64 1]
theorem Xh(h:aD E W P D Q T rt aC A k)(hr:RI A rt aC m qs d s0 n0)(hk:k+100<900000000)(i:Int)(hi:i<9223372036854775808) :
  Calls Tryz.prog 9 #[.pointer Q,.int .i64 i] W λ e w'=>e= .returned (ql s0.l i)/\aD E w' P D Q T rt aC A (k+40)/\Kept E W w':=by
 by_cases hi0:i<0
 ·have HF:Hid (aD E W P D Q T rt aC A (k+40)/\Kept E W W):=zH ⟨h.up (by omega),Kept.of_below (aP _ _) h.pz.there⟩;unfold ql;rw[if_neg (by omega)];clear h hr
  go_enter Tryz.func9,Tryz.ntmps9
  go_wp2;go_ret2
  exact⟨rfl,HF.out⟩
 obtain⟨ι,rfl⟩:∃ι:Nat,i=ι:=⟨i.toNat,by omega⟩;unfold ql;rw[if_pos (by omega),show((ι:Nat):Int).toNat=ι by omega];have HD:=zH (OI h hr (by omega) (show ι<9223372036854775808 by omega));have HQ:=zH (zA h.mem h.fH);obtain⟨o,ho⟩:∃o,s0.l[ι]?=o:=⟨_,rfl⟩;rw[ho];have HO:=zH ho;clear h hr ho
 go_enter Tryz.func9,Tryz.ntmps9
 go_wp2_with fail
 refine HD.out.mono ?_;rintro e w2 ⟨B,nb,ka,va,aa,kc,vc,ac,C,pg,aA,r,rfl,hB,hb,hs2,k2,hz⟩;clear HD;have d2:=hb.1.box.c2;have HF:Hid (aD E w2 P D Q T rt aC A (k+40)/\Kept E W w2):=zH ⟨hs2.less HQ.out.1 HQ.out.2 (λ _ hj=>.inl hj),k2⟩;have hp3:=hz.place.2.2;by_cases hrl:r<aA.length
 ·obtain⟨x,hx⟩:∃x,aA[r]?=some x:=⟨_,di hrl⟩;have ho:o=some x:=by rw[<-HO.out,hz.Az hrl,hx]
  subst ho;obtain⟨iv,kv,cv,hbx,_,⟨ia,ic,hsl,hic,hii⟩,_⟩:=hb.reads;obtain⟨g,o,hg,_,ck⟩:=hii r _ (qx _ _ _ hx);have e2:iv= .slice ka aA.length kc:=bC ((hbx.cell 2 _ rfl).symm.trans d2);rw[hsl,cz]at e2
  injection e2 with e3 e4 e5
  subst e3;subst hg;have hrl2:(r:Int)<(aA.length:Int):=by omega
  clear hB hb hs2 k2 hz hp3 hbx hii hic hsl e4 e5 hx hi hi0;go_wp2;go_ret2;exact⟨rfl,HF.out⟩
 have hn:s0.l[ι]?=none:=ny (by have:=hp3;omega);have ho:o=none:=by rw[<-HO.out,hn]
 subst ho;have hrl2:(aA.length:Int)<=(r:Int):=by omega
 clear hB hb hs2 k2 hz hp3 hn hrl hi hi0 HO;go_wp2;go_ret2;exact⟨rfl,HF.out⟩
theorem Ob(h:aD E W P D Q T rt aC A k)(hr:RI A rt aC m qs d s0 n0)(hk:k+100<900000000) :
  Calls Tryz.prog 8 #[.pointer Q] W λ e w'=>e= .returned (.tuple #[.int .i64 (s0.l.length:Int),.int .i64 0])/\aD E w' P D Q T rt aC A (k+40)/\Kept E W w':=by
 have c1:=h.box.c1;have hrt:s0.pg=rt:=hr.zi.root;have hat:=hr.at_;rw[hrt]at hat;have HL:=zH (xh h (by omega) (by rw[<-hrt];exact hr.zi.has) hat);have HQ:=zH (zA h.mem (zA h.fH (zA (nT hat).ok hr.zi.ni.count)));clear h hr hat
 go_enter Tryz.func8,Tryz.ntmps8
 go_wp2_with fail
 refine HL.out.mono ?_;rintro e w1 ⟨B,nb,ka,va,aa,kc,vc,ac,rfl,hB,hb,hs1,k1⟩;have HC:=zH (yY hb.reads HQ.out.2.2.1);have HF:Hid (aD E w1 P D Q T rt aC A (k+40)/\Kept E W w1):=zH ⟨(hs1.less HQ.out.1 HQ.out.2.1 (λ _ hj=>.inl hj)).up (by omega),k1⟩;clear HL hB hb hs1 k1 c1
 go_wp2_with fail
 refine HC.out.mono ?_;rintro e w2 ⟨rfl,rfl⟩;clear HC;rw[HQ.out.2.2.2];go_wp2;go_ret2;exact⟨rfl,HF.out⟩
end
section
variable{B E F:Nat->Prop}{W W':World}{P D Q T rt aC k nb e d:Nat}{A A':AP}{n n0:Sn}{qs:List Nat}{m:List KV}{s s0:SS}
theorem ZI.find{x:LV}:∀(e:Nat) (C:List bV) (s:SS) (n:Sn),ZI A rt aC m qs C e s n->aU A s.pg=some n->(C≠[]->dD n)->(n.leaf=false->2<=n.ah.length)->x∈s.lv ->
  ∃C',aU A x.1=some ⟨true,aL C',x.2,[],[]⟩/\ZI A rt aC m qs C' 0 ⟨x.1,[x],[x.1]⟩ ⟨true,aL C',x.2,[],[]⟩/\dE C' [x]=dE C s.lv/\C'.length=C.length+e
 | 0,C,s,n,hz,hat,_,_,hx=>by
  obtain⟨aA,rfl,h2,h3⟩:=id hz.ni;rw[h2]at hx;obtain rfl:x=(s.pg,aA):=by simpa using hx
  have hs:s=⟨s.pg,[(s.pg,aA)],[s.pg]⟩:=by cases s;simp only at h2 h3;subst h2 h3;rfl
  refine⟨C,hat,?_,by rw[h2],rfl⟩;rw[<-hs];exact hz
 | e+1,C,s,n,hz,hat,dR,fO,hx=>by
  obtain⟨ae,hb,hk,hs⟩:=hz.ni.body
  have hnl:n.leaf=false:=by
   cases hl:n.leaf with
   | false=>rfl
   | true=>have:=hz.ni.leaf.1 hl;omega
  have mZ:=fO hnl;rw[hb.ah.1]at mZ;have hkl:(bJ ae).length=ae.length:=by simp[bJ]
  have hno:n=bO (aL C) ae:=by
   rcases hb with⟨h0,_⟩|⟨_,h1⟩
   ·exact absurd h0 (Nat.succ_ne_zero _)
   exact h1
  have hsp:s=jC s.pg ae:=by
   have:=hs;rw[hno,EO]at this;exact this
  have hx2:x∈cu ae:=by rw[hsp]at hx;exact hx
  obtain⟨t,ht,hxt⟩:=List.mem_flatMap.1 hx2;obtain⟨i,hi⟩:=List.getElem?_of_mem ht;obtain⟨y,hy,hf,hz2⟩:=hz.down hat hb hs hk dR (by omega) hi
  obtain⟨C',h1,h2,h3,h4⟩:=ZI.find e _ t y hz2 hy (λ _=>hf) (λ hl=>by
   have:=hf;unfold dD Sn.ax Sn.size at this;rw[hl,((nT hy).inner hl).2.2.1]at this;simp at this;omega) hxt
  refine⟨C',h1,h2,?_,by rw[h4,dw];omega⟩;rw[h3]
  have qC:(⟨s.pg,ae.take i,ae.drop (i+1),t.l.length⟩:bV).part t=s:=by
   rw[bV.lC];show jC s.pg (ae.take i++t::ae.drop (i+1))=s;rw[<-Jl hi,<-hsp]
  have h2:=RN (⟨s.pg,ae.take i,ae.drop (i+1),t.l.length⟩:bV) C t;rw[qC]at h2;exact h2.symm
def TP(F:Nat->Prop)(W wr:World)(P D Q T rt aC k:Nat)(A:AP)(d tot j ι pg nb:Nat):Prop:=
 ∃C y F',C.length+j=d/\ι+(ig C).length=tot/\(∀i,F i->F' i)/\aD F' wr P D Q T rt aC A (k+2*j)/\Kept F W wr/\gK F' wr nb y/\y.up=aL C/\Ctx (aU A) C j pg/\(pg::aT C).Nodup/\∀p∈aT C,A.Has p
theorem xz3{f:Nat->Option Sn}{fr:bV}{C:List bV}{e pg:Nat}(h:Ctx f (fr::C) e pg)(hn:(pg::aT (fr::C)).Nodup):pg∉bJ fr.L:=λ hm=>by
 obtain⟨t,ht,he⟩:=tZ hm;obtain⟨_,_,hk,_⟩:=h.2.1 t (bR _ ht);rw[dL]at hn;exact hn.1 (by simp only[aT,aX,cB];exact .inr (.inl (.inl (kP.2 ⟨t,ht,he▸hk.mem⟩))))
theorem ybe{fr:bV}{C:List bV}{pg:Nat}(hn:(pg::aT (fr::C)).Nodup):(fr.pg::aT C).Nodup:=by
 have h1:=(dL.1 hn).2;show(fr.pg::aT C).Nodup;have h2:(fr.pg::(bI fr.L++bI fr.R++aT C)).Nodup:=h1;obtain⟨a,b⟩:=dL.1 h2;exact dL.2 ⟨λ h=>a (fE _ h),(bF.1 b).2.1⟩
theorem Rl(h:aD E W P D Q T rt aC A k)(hr:RI A rt aC m qs d s0 n0)(hk:k+200<900000000)(id:UInt64) :
  Calls Tryz.prog 10 #[.pointer Q,.int .u64 id.toNat] W λ e w'=>((id∉s0.l/\e= .returned (.tuple #[.int .i64 0,.int .i64 4]))\/∃ι:Nat,s0.l[ι]?=some id/\e= .returned (.tuple #[.int .i64 ι,.int .i64 0]))/\aD E w' P D Q T rt aC A (k+100)/\Kept E W w':=by
 have hdp:=hr.deep;have hti:=hr.zi.rp.tree;have hval:=hr.zi.rv.val hti.rise id;have HG:=zH (Y3 h.tree (by omega) hti hr.zi.rp.good id);have c2:=h.box.c2;have HH:=zH (zA h (zA hr hval));clear h hr hval hti
 go_enter Tryz.func10,Tryz.ntmps10
 go_wp2_with fail
 refine HG.out.mono ?_;rintro e w1 ⟨rfl,ht1,k1⟩;obtain⟨h,hr,hv1,hv2⟩:=HH.out;have hs1:=h.sV ht1 k1;by_cases hm:id∈s0.l
 ·obtain⟨x,hx,hix,G9⟩:=hv1 hm;rw[G9];obtain⟨C,hat,hz,hpl,aJ⟩:=ZI.find d [] s0 n0 hr.zi hr.at_ (λ hC=>absurd rfl hC) hr.two hx;obtain⟨pg,aA⟩:=x;dsimp only at hix G9 hat hz hpl;have gM:=hz.Ap;dsimp only at gM;obtain⟨κ,dK⟩:=List.getElem?_of_mem hix;have hkl:=(dn.1 dK).1;have h48:=((nT hat).leaf rfl).1;dsimp only at h48
  have Lv:aA.Nodup:=by
   have:=hz.rv.uq;rw[sQ]at this;have e1:bP [(pg,aA)]=aA:=by simp[bP]
   rw[e1]at this;exact(bF.1 (bF.1 this).1).2.1
  have qD:∀i y,i<κ->aA[i]?=some y->y≠id:=λ i y hi hy e=>by
   subst e;obtain⟨hi1,hi2⟩:=dn.1 hy;obtain⟨_,hk2⟩:=dn.1 dK;exact List.pairwise_iff_getElem.1 Lv i κ hi1 hkl hi (by rw[hi2,hk2])
  have rH:s0.l=ig C++aA++kV C:=by
   have h1:=congrArg bP hpl;rw[sQ]at h1;have e1:bP [(pg,aA)]=aA:=by simp[bP]
   rw[e1]at h1;exact h1.symm
  have qE:s0.l[κ+(ig C).length]?=some id:=by
   rw[rH,dH,dF (by omega),dM (by omega),<-dK]
   congr 1
   omega
  have htot:κ+(ig C).length<2000000:=by
   have h1:=hz.len;have h2:=hz.few;have e1:(⟨pg,[(pg,aA)],[pg]⟩:SS).l.length=aA.length:=by simp[SS.l,bP]
   omega
  have ry:((UInt64.ofNat pg).toNat:Int)=(pg:Int):=by rw[UInt64.toNat_ofNat_of_lt' (by show pg<18446744073709551616;omega)]
  have hpw:IntKind.i64.wrap (pg:Int)=(pg:Int):=by rw[bN];omega
  have HL:=zH (xh hs1 (by omega) hz.has hat);have iA:(pg::aT C).Nodup:=hz.rp.rD;have hhas:∀p∈aT C,A.Has p:=λ p hp=>hz.rp.dO (fE _ hp);have H1:=zH (zA hs1 (zA k1 (zA qE (zA qD (zA dK (zA hz.cx (zA iA hhas)))))));have A7:C.length=d:=by simpa using aJ
  clear HG HH h hr hv1 hv2 ht1 k1 hs1 c2 hm hx hix G9 hat hz hpl aJ Lv qD rH qE iA hhas dK;unfold OM;dsimp only;rw[ry];have hp0:(0:Int)<=(pg:Int):=by omega
  clear gM ry;obtain⟨tot,Ce⟩:∃tot,κ+(ig C).length=tot:=⟨_,rfl⟩;rw[Ce]at H1 htot;have Y4:=zH Ce;clear Ce
  go_wp2_with fail
  refine HL.out.mono ?_;rintro e w2 ⟨B,nb,ka,va,aa,kc,vc,ac,rfl,hB,hb,hs2,k2⟩;obtain⟨hs1,k1,qE,qD,dK,hcx,iA,hhas⟩:=H1.out;have d2:=hb.1.box.c2;have hwk:=hb.1.k.win (S:=λ _=>True) (λ _ _=>trivial);rw[cz]at hwk;have HX:=zH (xt4 hwk (by dsimp only;omega) dK qD);have HST:Hid (TP E W w2 P D Q T rt aC (k+52) A d tot 0 κ pg nb):=zH ⟨C,_,_,by omega,Y4.out,λ _ hj=>.inl hj,hs2,k1.trans k2,hb.reads.mono (T:=λ j=>E j\/B j) (λ _ hj=>.inr hj),rfl,hcx,iA,hhas⟩;have nK:=zH (zA hs1.mem (zA hs1.fH qE));clear HL H1 hB hb hs2 k2 hs1 k1 qE qD dK hcx iA hhas hwk
  go_wp2_with fail
  refine HX.out.mono ?_;rintro e w3 ⟨rfl,rfl⟩;clear HX d2 Y4
  go_wp2_with fail
  go_loopw [55,11,9,10] (λ ix iv pv nv wr=>∃j ι lD nb':Nat,ix= .int .i64 j/\iv= .int .i64 ι/\pv= .int .i64 lD/\nv= .pointer nb'/\j<=17/\Hid (TP E W wr P D Q T rt aC (k+52) A d tot j ι lD nb')) (λ ix _ _ _ _=>21-(intOf ix).toNat)
  case atStart=>exact⟨0,κ,pg,nb,rfl,rfl,rfl,rfl,by omega,HST⟩
  clear HST;obtain⟨j,ι,lD,nb',rfl,rfl,rfl,rfl,hj,hI⟩:=hrel;obtain⟨C1,y,F1,hjd,Ce,jO,hs,kp,hnr,hup,hcx,iA,hhas⟩:=hI.out;have hj2:(j:Int)<20:=by omega
  have uH:=hnr;obtain⟨iv,kv,cv,hb,hnb,_⟩:=uH;rw[hup]at hb;have c1:=hb.c1
  cases C1 with
  | nil=>
   have c1':wr.cell? (nb',1)=some (.int .i64 0):=c1;have hti:ι=tot:=by simpa[ig]using Ce
   have HF:Hid (aD E wr P D Q T rt aC A (k+100)/\Kept E W wr):=zH ⟨(hs.less nK.out.1 nK.out.2.1 jO).up (by omega),kp⟩;clear hI hs kp hnr hcx iA hhas hb jO c1 hup Ce;subst hti;go_wp2;go_ret2;exact⟨.inr ⟨ι,nK.out.2.2,rfl⟩,HF.out⟩
  | cons fr C2=>
   have Gi:=hhas fr.pg (by simp[aT]);have hfp:1<=fr.pg:=Gi.1;have c1':wr.cell? (nb',1)=some (.int .i64 (fr.pg:Int)):=c1;have hne:((fr.pg:Int)==0)=false:=beq_eq_false_iff_ne.2 (by omega);have Lx:=hcx.1;have HL:=zH (xh hs (by omega) Gi Lx);have H1:=zH (zA hjd (zA Ce (zA jO (zA hs (zA kp (zA hnr (zA hb (zA hnb (zA hcx (zA iA hhas))))))))));clear hI hs kp hnr hcx iA hhas hb jO c1 hup Ce hjd Gi Lx hnb
   go_wp2_with fail
   refine HL.out.mono ?_;rintro e w4 ⟨B8,lF,lU,lT,lV,mH,lW,kH,rfl,xA,qW,rQ,k8⟩;obtain⟨hjd,Ce,jO,hs,kp,hnr,hb,hnb,hcx,iA,hhas⟩:=H1.out;have hx0:=nT hcx.1;have kD:=(hx0.inner rfl).1;have yz:(fr.node (aL C2) lD fr.c).ah.length=fr.L.length+fr.R.length+1:=by simp[bV.node,bJ];omega
   have qy:(fr.node (aL C2) lD fr.c).au.length=fr.L.length+fr.R.length+1:=by simp[bV.node,dm];omega
   have hL:(bJ fr.L).length=fr.L.length:=by simp[bJ]
   have Y5:(dm fr.L).length=fr.L.length:=by simp[dm]
   have L6:=xz3 hcx iA
   have j1:(fr.node (aL C2) lD fr.c).ah[fr.L.length]?=some lD:=by
    show(bJ fr.L++lD::bJ fr.R)[fr.L.length]?=_;rw[dF (by omega),hL,iF];rfl
   have j2:∀i y,i<fr.L.length->(fr.node (aL C2) lD fr.c).ah[i]?=some y->y≠lD:=λ i y hi hy e=>by
    have hy2:(bJ fr.L++lD::bJ fr.R)[i]?=some y:=hy;rw[dM (by omega)]at hy2;exact L6 (e▸fe hy2)
   obtain⟨g,rfl,ra⟩:∃g,lV=some ⟨g,0,none⟩/\Row w4 g kH (ints (fr.node (aL C2) lD fr.c).au):=by
    rcases qW.1.a with⟨_,h2,_⟩|⟨g,h1,h2⟩
    ·have:=congrArg List.length h2;rw[dx,qy]at this;simp at this
    exact⟨g,h1,h2⟩
   have d3:=qW.1.box.c3;have d4:=qW.1.box.c4;rw[qy]at d4;have hwk:=qW.1.v.win (S:=λ _=>True) (λ _ _=>trivial);rw[dx]at hwk;have Di:=zH (O8 hwk (by omega) j1 j2)
   have hcc:∀(κ c:Nat),(dm fr.L)[κ]?=some c->w4.cell? ⟨g,κ,none⟩=some (.int .i64 (c:Int)):=λ κ c hc=>ra.at' κ _ (qw _ _ _ (by
    show(dm fr.L++fr.c::dm fr.R)[κ]?=_;rw[dM (by have:=(dn.1 hc).1;omega)];exact hc))
   have Gl:=zH hcc;have hrl:=ra.le;rw[dx,qy]at hrl;have c3:=(hb.af (k8.block nb' hnb)).c1
   have hpre:(ig (fr::C2)).length=(ig C2).length+(dm fr.L).sum:=by
    rw[Jf];show(ig C2++bP (cu fr.L)).length=_;rw[zl]
   have L8:ι+(dm fr.L).sum+(ig C2).length=tot:=by omega
   have xX:Hid (TP E W w4 P D Q T rt aC (k+52) A d tot (j+1) (ι+(dm fr.L).sum) fr.pg lF):=zH ⟨C2,_,_,by simp only[dw]at hjd;omega,L8,λ i hi=>.inl (jO i hi),rQ.up (by omega),kp.trans (k8.mono jO),qW.reads.mono (T:=λ i=>F1 i\/B8 i) (λ _ hi=>.inr hi),rfl,hcx.2.2.2.2,ybe iA,λ p hp=>hhas p (by simp[aT,hp])⟩
   have hSL:Hid (∀κ,((dm fr.L).take κ).sum<=(dm fr.L).sum):=zH (λ κ=>by
    conv=>rhs;rw[<-gm κ (dm fr.L),List.sum_append]
    omega)
   have Aq:fr.L.length<=kH:=by omega
   have aaw:(fr.L.length:Int)<=(kH:Int):=by omega
   have aax:(0:Int)<=(fr.L.length:Int):=by omega
   have aay:ι+(dm fr.L).sum<2000000:=by omega
   have aaz:¬(kH=0):=by omega
   have aa0:fr.L.length<=40:=by omega
   have aa3:j+1<=17:=by simp only[dw]at hjd;omega
   clear HL H1 xA qW rQ k8 hjd Ce jO hs kp hnr hb hnb hcx iA hhas hx0 yz qy hL L6 j1 j2 ra hwk hcc hrl hpre L8 c1'
   go_wp2_with fail
   refine Di.out.mono ?_;rintro e w5 ⟨rfl,rfl⟩;clear Di d3
   go_wp2_with fail
   go_loopw [90,11] (λ kv iv wx=>∃κ:Nat,kv= .int .i64 κ/\κ<=fr.L.length/\iv= .int .i64 ((ι:Int)+(((dm fr.L).take κ).sum:Nat))/\wx=w5) (λ kv _ _=>41-(intOf kv).toNat)
   case atStart=>exact⟨0,rfl,by omega,by simp,rfl⟩
   obtain⟨κ,rfl,dK,rfl,rfl⟩:=hrel;by_cases hlt:κ<fr.L.length
   ·obtain⟨c,hc⟩:∃c,(dm fr.L)[κ]?=some c:=⟨_,di (by omega)⟩;have ck:=Gl.out κ c hc;have hsn:=RP _ _ _ hc;have hle:=hSL.out (κ+1);have e1:IntKind.i64.wrap ((ι:Int)+(((dm fr.L).take κ).sum:Nat)+(c:Int))=(ι:Int)+(((dm fr.L).take (κ+1)).sum:Nat):=by rw[bN];omega
    have e2:wrap64 ((ι:Int)+(((dm fr.L).take κ).sum:Nat)+(c:Int))=(ι:Int)+(((dm fr.L).take (κ+1)).sum:Nat):=by unfold wrap64;omega
    have hlt2:(κ:Int)<(fr.L.length:Int):=by omega
    clear hsn hle hc;have HE:=zH (zA e1 e2);clear e1 e2;go_wp2;go_roundw
    case rel=>exact⟨κ+1,by go_num,by omega,by first|rfl|(rw[HE.out.1])|(rw[HE.out.2]),trivial⟩
    case measure=>simp[intOf];omega
   obtain rfl:κ=fr.L.length:=by omega
   rw[<-Y5,mi];rw[Y5];have hlt2:¬((fr.L.length:Nat):Int)<(fr.L.length:Int):=by omega
   go_wp2;go_roundw
   case rel=>exact⟨j+1,ι+(dm fr.L).sum,fr.pg,lF,by go_num,rfl,rfl,rfl,by omega,xX⟩
   case measure=>simp[intOf];omega
 have hn:=hv2 hm;rw[hn];have HF:Hid (aD E w1 P D Q T rt aC A (k+100)/\Kept E W w1):=zH ⟨hs1.up (by omega),k1⟩;have HM:=zH hm;clear HG HH h hr hv1 hv2 ht1 k1 hs1 hm hn;unfold OM;dsimp only;go_wp2;go_ret2;exact⟨.inl ⟨HM.out,rfl⟩,HF.out⟩
end
section
variable{B E F:Nat->Prop}{W W':World}{P D Q T rt aC k nb e d:Nat}{A A':AP}{n n0:Sn}{qs:List Nat}{m:List KV}{s s0:SS}
theorem xrj{X pre aA Y6:List UInt64}{φ l r tk:Nat}(hX:X=pre++aA++Y6)(hp:pre.length+r=φ+l)(hr:r+tk<=aA.length):(X.drop φ).take l++(aA.drop r).take tk=(X.drop φ).take (l+tk):=by
 rw[List.take_add,List.drop_drop]
 congr 1
 obtain⟨_,e2⟩:=xiv (c:=Y6) hp (show r<=aA.length by omega);rw[hX,e2,lZ (by rw[zd];omega)]
def TQ(E:Nat->Prop)(W wr:World)(P D Q T rt aC k:Nat)(A:AP)(X:List UInt64)(φ l:Nat)(ao:Option Addr)(c:Nat):Prop:=
 ((X.drop φ).take l).length=l/\NR wr ao c (aF ((X.drop φ).take l))/\(∀g,aK ao g->W.heap.size<=g)/\aD (λ j=>E j\/aK ao j) wr P D Q T rt aC A (k+40*l)/\Kept E W wr
def TR(E:Nat->Prop)(W w':World)(P D Q T rt aC k:Nat)(A:AP)(l:List UInt64)(e:Ending):Prop:=
 ∃ao c,e= .returned (.tuple #[.slice ao l.length c,.int .i64 0])/\NR w' ao c (aF l)/\(∀g,aK ao g->W.heap.size<=g)/\aD (λ j=>E j\/aK ao j) w' P D Q T rt aC A k/\Kept E W w'
theorem xug(h:aD E W P D Q T rt aC A k)(hr:RI A rt aC m qs d s0 n0)(hX:s0.l.length<=50000)(hk:k+3000000<900000000)(φ ν:Nat)(hφ:φ<9223372036854775808)(uz:ν<9223372036854775808) :
  Calls Tryz.prog 38 #[.pointer Q,.int .i64 φ,.int .i64 ν] W λ e w'=>TR E W w' P D Q T rt aC (k+40*s0.l.length+40) A ((s0.l.drop φ).take ν) e:=by
 have HST:Hid (TQ E W W P D Q T rt aC k A s0.l φ 0 none 0):=zH ⟨by simp,by rw[jH];exact NR.nil,(λ g hg=>by cases hg),h.less h.mem h.fH |> λ _=>h.wide (E':=λ j=>E j\/aK none j) (aP _ _) (λ j hj=>hj.imp id (λ e=>by cases e)) (λ j hj=>.inl hj),Kept.of_below (aP _ _) h.pz.there⟩;have HR:=zH (zA hr (zA hX (zA h.mem (zA h.fH (zA h.pz.there h.pz.tab.lt)))));have HB:=zH (zA hφ (zA uz hk));have n1:¬(φ:Int)<0:=by omega
 have n2:¬(ν:Int)<0:=by omega
 clear h hr hX hφ uz hk
 go_enter Tryz.func38,Tryz.ntmps38
 go_wp2_with fail
 go_loopw [8] (λ ov wr=>∃(l:Nat) (ao:Option Addr) (c:Nat),ov= .slice ao l c/\l<=ν/\Hid (TQ E W wr P D Q T rt aC k A s0.l φ l ao c)) (λ ov _=>match ov with| .slice _ l _=>50001-l|_=>0)
 case atStart=>exact⟨0,none,0,rfl,by omega,HST⟩
 clear HST;obtain⟨l,ao,c,rfl,hl,hI⟩:=hrel;obtain⟨hll,hnr,hnew,hs,kp⟩:=hI.out;obtain⟨hr,hX,hQ,hT,hEl,htab⟩:=HR.out;obtain⟨hφ,uz,hk⟩:=HB.out
 have Jn:l<=s0.l.length-φ:=by
  rw[zt,zd]at hll;omega
 by_cases hlt:l<ν
 ·have hsum:φ+l<9223372036854775808:=by omega
  have HD:=zH (OI hs hr (by omega) hsum);have hw0:IntKind.i64.wrap ((φ:Int)+(l:Int))=((φ+l:Nat):Int):=by rw[bN];omega
  have hlt2:(l:Int)<(ν:Int):=by omega
  have H1:=zH (zA hll (zA hnr (zA hnew (zA hs (zA kp (zA Jn hlt))))));clear hI hll hnr hnew hs kp hr hX hQ hT hEl htab hφ uz hk Jn hsum hlt
  go_wp2_with fail
  refine HD.out.mono ?_;rintro e w2 ⟨B,nb,ka,va,aa,kc,vc,ac,C,pg,aA,r,rfl,hB,hb,hs2,k2,hz⟩;clear HD;have d2:=hb.1.box.c2;obtain⟨hll,hnr,hnew,hs,kp,Jn,hlt⟩:=H1.out;obtain⟨hr,hX,hQ,hT,hEl,htab⟩:=HR.out;obtain⟨hφ,uz,hk⟩:=HB.out;have hp3:=hz.place.2.2;have h48:=((nT hz.at_).leaf rfl).1;dsimp only at h48;have uH:NR w2 ao c (aF ((s0.l.drop φ).take l)):=hnr.af k2.size (λ g hg=>k2.block g (.inr hg));have Dl:aD (λ j=>E j\/aK ao j) w2 P D Q T rt aC A (k+40*l+40):=hs2.less (.inl hQ) (.inl hT) (λ j hj=>.inl hj);have gy:Kept E W w2:=kp.trans (k2.mono (λ j hj=>.inl hj));by_cases hrl:r<aA.length
  ·obtain⟨tk,htk⟩:∃tk,min (aA.length-r) (ν-l)=tk:=⟨_,rfl⟩;have TS:1<=tk/\tk<=aA.length-r/\tk<=ν-l:=by omega
   obtain⟨g,rfl,rk⟩:∃g,ka=some ⟨g,0,none⟩/\Row w2 g kc (aF aA):=by
    rcases hb.1.k with⟨_,h2,_⟩|⟨g,h1,h2⟩
    ·have:=congrArg List.length h2;rw[cz]at this;simp only[List.length_nil]at this;omega
    exact⟨g,h1,h2⟩
   have hkc:=rk.le;rw[cz]at hkc
   have hwin:dY (λ _=>True) w2 (.slice (g,0+r) ((aA.drop r).take tk).length (kc-r)) (aF ((aA.drop r).take tk)):=by
    have w0:=sU (S:=λ _=>True) rk trivial;rw[cz]at w0;have w1:=w0.drop r (by omega);have w3:=w1.take tk (by omega);rw[BV,BZ]at w3;rw[show((aA.drop r).take tk).length=tk by rw[zt,zd];omega];exact w3
   have htl:((aA.drop r).take tk).length=tk:=by rw[zt,zd];omega
   obtain⟨g',c',w3,hrun,hrow,cO⟩:=ER uH hwin (by omega) (by rw[htl,hll];omega);rw[htl,hll,gq]at hrun;have hmore:=xrj hz.nums hz.pre (show r+tk<=aA.length by omega);rw[hmore]at hrow
   have ES:∀(ts:Array TypeId) (t:TypeId) (w:World),(Builtin.min_ ts t #[.int .i64 ((aA.length-r:Nat):Int),.int .i64 ((ν-l:Nat):Int)]).run Tryz.prog w= .ok (.int .i64 (tk:Int)) w:=λ ts t w=>by
    rw[run_min_int2]
    congr 2
    by_cases h:((ν-l:Nat):Int)<((aA.length-r:Nat):Int)
    ·rw[if_pos h];omega
    rw[if_neg h];omega
   have HF:Hid (TQ E W w3 P D Q T rt aC k A s0.l φ (l+tk) g' c'):=by
    have A7:((s0.l.drop φ).take (l+tk)).length=l+tk:=by
     rw[<-hmore,zl,htl,hll]
    have hge:W.heap.size<=w2.heap.size:=gy.size
    have hgn:W.heap.size<=g':=by
     rcases cO with⟨h1,_⟩|⟨h1,_⟩
     ·exact hnew g' h1
     omega
    have OO:∀j,E j->j<W.heap.size:=hEl
    have hkk:Kept (λ j=>j<w2.heap.size/\¬aK ao j) w2 w3:=by
     rcases cO with⟨h1,ho⟩|⟨h1,hbl⟩
     ·exact⟨ho.os,ho.tape,ho.output,ho.size,λ j hj=>ho.block j hj.1 (λ e=>hj.2 (e▸h1))⟩
     exact Kept.of_below hbl (λ j hj=>hj.1)
    have hown:=Dl.own (B:=aK ao) (λ j hj=>.inr hj) (λ hb=>by have:=hnew _ hb;have:=OO Q hQ;omega) (λ hb=>by have:=hnew _ hb;have:=OO T hT;omega) (λ hb=>by have:=hnew _ hb;omega) hkk;have hgl:=hrow.lt;refine zH ⟨A7,.inr ⟨g',rfl,hrow⟩,λ g hg=>by rw[gF hg];exact hgn,(hown.less (.inl hQ) (.inl hT) (λ j hj=>?_)).up (by omega),gy.trans (hkk.mono (λ j hj=>⟨bS (OO j hj) hge,λ hb=>by have:=hnew j hb;have:=OO j hj;omega⟩))⟩;rcases hj with hj|hj
    ·exact .inl (.inl hj)
    rw[gF hj];rcases cO with⟨h1,_⟩|⟨h1,_⟩
    ·exact .inl (.inr h1)
    exact .inr ⟨by omega,hgl⟩
   have hw1:IntKind.i64.wrap ((aA.length:Int)-(r:Int))=((aA.length-r:Nat):Int):=by rw[bN];omega
   have hw2:IntKind.i64.wrap ((ν:Int)-(l:Int))=((ν-l:Nat):Int):=by rw[bN];omega
   have hw3:IntKind.i64.wrap ((r:Int)+(tk:Int))=((r+tk:Nat):Int):=by rw[bN];omega
   have q0:¬(aA.length:Int)<=(r:Int):=by omega
   have q1:(r:Int)<=((r+tk:Nat):Int):=by omega
   have q2:((r+tk:Nat):Int)<=(kc:Int):=by omega
   have q3:¬(kc=r):=by omega
   have q4:r<=kc:=by omega
   have q5:r+tk<=kc:=by omega
   have q6:r+tk-r=tk:=by omega
   have hlk:l+tk<=ν/\1<=tk/\l<=50000:=by omega
   have Ev:=zH hlk;clear H1 hB hb hs2 k2 hz hll hnr hnew hs kp Jn hlt hr hX hQ hT hEl htab hφ uz hk hp3 h48 uH Dl gy htk TS rk hkc hwin htl hrow cO hmore hlk hrl
   go_wp2_with (at_builtin;refine UK.pV hrun rfl rfl rfl rfl ?OP ?_;(focus (simp[Act.eval])))
   clear hrun ES d2;go_wp2;go_roundw
   case rel=>exact⟨l+tk,some ⟨g',0,none⟩,c',rfl,Ev.out.1,HF⟩
   case measure=>have:=Ev.out;show 50001-(l+tk)<50001-l;omega
  have hend:(s0.l.drop φ).take l=(s0.l.drop φ).take ν:=by
   have h1:(s0.l.drop φ).length<=l:=by rw[zd];omega
   rw[eZ h1,eZ (by omega)]
  have HF:Hid (TR E W w2 P D Q T rt aC (k+40*s0.l.length+40) A ((s0.l.drop φ).take ν) (.returned (.tuple #[.slice ao l c,.int .i64 0]))):=by
   rw[<-hend];exact zH ⟨ao,c,by rw[hll],uH,hnew,Dl.up (by omega),gy⟩
  have hrl2:(aA.length:Int)<=(r:Int):=by omega
  clear H1 hB hb hs2 k2 hz hll hnr hnew hs kp Jn hlt hr hX hQ hT hEl htab hφ uz hk hp3 h48 uH Dl gy hrl hend hlt2;go_wp2;go_ret2;exact HF.out
 obtain rfl:l=ν:=by omega
 have HF:Hid (TR E W wr P D Q T rt aC (k+40*s0.l.length+40) A ((s0.l.drop φ).take l) (.returned (.tuple #[.slice ao l c,.int .i64 0]))):=zH ⟨ao,c,by rw[hll],hnr,hnew,hs.up (by omega),kp⟩;have hlt2:¬(l:Int)<(l:Int):=by omega
 clear hI hll hnr hnew hs kp hr hX hQ hT hEl htab hφ uz hk Jn hlt;go_wp2;go_ret2;exact HF.out
end
section
variable{W:World}
set_option maxRecDepth 100000
theorem xuh{ao:Option Addr}{c:Nat}{l:List Nat}(h:NR W ao c (ints l))(hl:l.length<=1000) :
  Calls Tryz.prog 126 #[.slice ao l.length c] W λ e w'=>∃cZ c',e= .returned (.slice cZ l.length c')/\NR w' cZ c' (ints l)/\(∀g,aK cZ g->W.heap.size<=g)/\Below W W w':=by
 by_cases h0:0<l.length
 ·have hw:=h.win (S:=λ g=>aK ao g) (λ _ hg=>hg);rw[dx]at hw;refine(Lj hw (λ g hg=>h.lt hg) h0 hl).mono ?_;rintro e w' ⟨g',c',rfl,r,hg,hb⟩;exact⟨some ⟨g',0,none⟩,c',rfl,.inr ⟨g',rfl,r⟩,λ g hg2=>by rw[gF hg2];exact hg,hb⟩
 obtain rfl:l=[]:=pE.1 (by omega);rcases h with⟨rfl,_,rfl⟩|⟨g,rfl,r⟩
 ·have hnil:(binOp .eql 73 (.slice none 0 0) (.slice none 0 0)).run Tryz.prog W= .ok (.bool true) W:=Lib.run_eql_slice_nil W _ _ none 0 0 0 0 Tryz.underlying73
  go_enter Tryz.func126,Tryz.ntmps126
  go_wp2;go_ret
  exact⟨none,0,rfl,NR.nil,λ g hg=>(by cases hg),aP _ _⟩
 have hnil:∀W l c,(binOp .eql 73 (.slice g l c) (.slice none 0 0)).run Tryz.prog W= .ok (.bool false) W:=λ W l c=>Lib.run_eql_slice_nil W _ _ _ _ _ _ _ Tryz.underlying73
 have hrun:(Builtin.append_ #[73,73] 73 #[.slice W 0 0,.slice g 0 c]).run Tryz.prog (W.alloc (.cells #[] 3))= .ok (.slice W 0 0) (W.alloc (.cells #[] 3)):=
  run_append_nothing _ _ _ _ _ Tryz.t3 Tryz.underlying73 rfl _ _ _ (aZ _) _ (Src.ofSlice _ Tryz.underlying73 _ 0 _ [] (by simp) (by simp) (by simp))
 have hb:Below W W (W.alloc (.cells #[] 3)):=(aP _ _).alloc (aZ _) _;clear r
 go_enter Tryz.func126,Tryz.ntmps126
 go_wp2_with (at_builtin;refine UK.pV hrun rfl rfl rfl rfl rfl ?_)
 go_wp2;go_ret
 exact⟨some ⟨W.heap.size,0,none⟩,0,rfl,L9 W _,λ g hg=>by rw[gF hg];exact aZ _,hb⟩
theorem xz4{ao bo:Option Addr}{c d:Nat}{us vs:List Nat}(h:NR W ao c (ints us))(h2:NR W bo d (ints vs))(hl:us.length+vs.length<=1000) :
  ∃cZ c' W',(Builtin.append_ #[73,73] 73 #[.slice ao us.length c,.slice bo vs.length d]).run Tryz.prog W= .ok (.slice cZ (us.length+vs.length) c') W'/\NR W' cZ c' (ints (us++vs))/\(∀g,aK cZ g->aK ao g\/W.heap.size<=g)/\Kept (λ j=>j<W.heap.size/\¬aK ao j) W W':=by
 by_cases h0:0<vs.length
 ·have hw:=h2.win (S:=λ g=>aK bo g) (λ _ hg=>hg);rw[dx]at hw;obtain⟨g',c',W',e,r,o⟩:=TT h hw h0 (by omega);refine⟨some ⟨g',0,none⟩,c',W',e,.inr ⟨g',rfl,r⟩,λ g hg=>?_,?_⟩
  ·rw[gF hg];rcases o with⟨h1,_⟩|⟨h1,_⟩
   ·exact .inl h1
   exact .inr (Nat.le_of_eq h1.symm)
  rcases o with⟨h1,ho⟩|⟨_,hb⟩
  ·exact⟨ho.os,ho.tape,ho.output,ho.size,λ j hj=>ho.block j hj.1 (λ e=>hj.2 (e▸h1))⟩
  exact Kept.of_below hb (λ j hj=>hj.1)
 obtain rfl:vs=[]:=pE.1 (by omega)
 have hle:us.length<=c:=by
  rcases h with⟨_,hv,_⟩|⟨_,_,r⟩
  ·have:=congrArg List.length hv;rw[dx]at this;simp only[List.length_nil]at this;omega
  have:=r.le;rw[dx]at this;exact this
 have hsrc:Src Tryz.prog 1 73 (.slice bo 0 d) 0 [] W:=by
  rcases h2 with⟨rfl,_,_⟩|⟨g,rfl,_⟩
  ·exact Src.ofNil _ Tryz.underlying73 _
  exact Src.ofSlice _ Tryz.underlying73 _ 0 _ [] (by simp) (by simp) (by simp)
 refine⟨ao,c,W,?_,by rw[jw];exact h,λ g hg=>.inl hg,Kept.of_below (aP _ _) (λ j hj=>hj.1)⟩;exact run_append_nothing _ _ _ _ _ Tryz.t3 Tryz.underlying73 rfl _ _ _ hle _ hsrc
theorem xui{ao:Option Addr}{c:Nat}{l:List UInt64}(h:NR W ao c (aF l))(hl:l.length<=1000) :
  Calls Tryz.prog 125 #[.slice ao l.length c] W λ e w'=>∃cZ c',e= .returned (.slice cZ l.length c')/\NR w' cZ c' (aF l)/\(∀g,aK cZ g->W.heap.size<=g)/\Below W W w':=by
 by_cases h0:0<l.length
 ·have hw:=h.win (S:=λ g=>aK ao g) (λ _ hg=>hg);rw[cz]at hw;refine(EK hw (λ g hg=>h.lt hg) h0 hl).mono ?_;rintro e w' ⟨g',c',rfl,r,hg,hb⟩;exact⟨some ⟨g',0,none⟩,c',rfl,.inr ⟨g',rfl,r⟩,λ g hg2=>by rw[gF hg2];exact hg,hb⟩
 obtain rfl:l=[]:=pE.1 (by omega);rcases h with⟨rfl,_,rfl⟩|⟨g,rfl,r⟩
 ·have hnil:(binOp .eql 27 (.slice none 0 0) (.slice none 0 0)).run Tryz.prog W= .ok (.bool true) W:=Lib.run_eql_slice_nil W _ _ none 0 0 0 0 Tryz.underlying27
  go_enter Tryz.func125,Tryz.ntmps125
  go_wp2;go_ret
  exact⟨none,0,rfl,NR.nil,λ g hg=>(by cases hg),aP _ _⟩
 have hnil:∀W l c,(binOp .eql 27 (.slice g l c) (.slice none 0 0)).run Tryz.prog W= .ok (.bool false) W:=λ W l c=>Lib.run_eql_slice_nil W _ _ _ _ _ _ _ Tryz.underlying27
 have hrun:(Builtin.append_ #[27,27] 27 #[.slice W 0 0,.slice g 0 c]).run Tryz.prog (W.alloc (.cells #[] 32))= .ok (.slice W 0 0) (W.alloc (.cells #[] 32)):=
  run_append_nothing _ _ _ _ _ Tryz.t32 Tryz.underlying27 rfl _ _ _ (aZ _) _ (Src.ofSlice _ Tryz.underlying27 _ 0 _ [] (by simp) (by simp) (by simp))
 have hb:Below W W (W.alloc (.cells #[] 32)):=(aP _ _).alloc (aZ _) _;clear r
 go_enter Tryz.func125,Tryz.ntmps125
 go_wp2_with (at_builtin;refine UK.pV hrun rfl rfl rfl rfl rfl ?_)
 go_wp2;go_ret
 exact⟨some ⟨W.heap.size,0,none⟩,0,rfl,L9 W _,λ g hg=>by rw[gF hg];exact aZ _,hb⟩
theorem xz5{ao bo:Option Addr}{c d:Nat}{us vs:List UInt64}(h:NR W ao c (aF us))(h2:NR W bo d (aF vs))(hl:us.length+vs.length<=1000) :
  ∃cZ c' W',(Builtin.append_ #[27,27] 27 #[.slice ao us.length c,.slice bo vs.length d]).run Tryz.prog W= .ok (.slice cZ (us.length+vs.length) c') W'/\NR W' cZ c' (aF (us++vs))/\(∀g,aK cZ g->aK ao g\/W.heap.size<=g)/\Kept (λ j=>j<W.heap.size/\¬aK ao j) W W':=by
 by_cases h0:0<vs.length
 ·have hw:=h2.win (S:=λ g=>aK bo g) (λ _ hg=>hg);rw[cz]at hw;obtain⟨g',c',W',e,r,o⟩:=ER h hw h0 (by omega);refine⟨some ⟨g',0,none⟩,c',W',e,.inr ⟨g',rfl,r⟩,λ g hg=>?_,?_⟩
  ·rw[gF hg];rcases o with⟨h1,_⟩|⟨h1,_⟩
   ·exact .inl h1
   exact .inr (Nat.le_of_eq h1.symm)
  rcases o with⟨h1,ho⟩|⟨_,hb⟩
  ·exact⟨ho.os,ho.tape,ho.output,ho.size,λ j hj=>ho.block j hj.1 (λ e=>hj.2 (e▸h1))⟩
  exact Kept.of_below hb (λ j hj=>hj.1)
 obtain rfl:vs=[]:=pE.1 (by omega)
 have hle:us.length<=c:=by
  rcases h with⟨_,hv,_⟩|⟨_,_,r⟩
  ·have:=congrArg List.length hv;rw[cz]at this;simp only[List.length_nil]at this;omega
  have:=r.le;rw[cz]at this;exact this
 have hsrc:Src Tryz.prog 1 27 (.slice bo 0 d) 0 [] W:=by
  rcases h2 with⟨rfl,_,_⟩|⟨g,rfl,_⟩
  ·exact Src.ofNil _ Tryz.underlying27 _
  exact Src.ofSlice _ Tryz.underlying27 _ 0 _ [] (by simp) (by simp) (by simp)
 refine⟨ao,c,W,?_,by rw[jw];exact h,λ g hg=>.inl hg,Kept.of_below (aP _ _) (λ j hj=>hj.1)⟩;exact run_append_nothing _ _ _ _ _ Tryz.t32 Tryz.underlying27 rfl _ _ _ hle _ hsrc
end
theorem OQ{k v:UInt64}{d:Nat}{A B:AP}{pg more:Nat}{κ:UInt64}{e:Int}(h:kY k v d A pg B more κ e):∀s,Tr (aH A) d s->s.pg=pg->s.ps.Nodup->(∃x∈s.l,x.1=k)->more=0/\e=0/\B.ay=A.ay:=by
 induction h with
 | @found A pg i ks vs hn hk=>
  intro s _ _ _ _;exact⟨rfl,rfl,by rw[AP.ji]⟩
 | @leaf A B pg i more ks vs κ e hn hst hno hset=>
  intro s hT cK hnd hx;subst cK;obtain⟨ks',vs',h1,h2,h3,h4,h5⟩:=hT;rw[hn]at h1
  injection bC h1 with _ e1 e2 _
  subst e1 e2;obtain⟨x,hx,rfl⟩:=hx;rw[h4]at hx;exact absurd (List.of_mem_zip hx).1 hno
 | @stop d A B pg i c more ai ah κ e hn hix eP hrec hor ih=>
  intro s hT cK hnd hx;subst cK;obtain⟨ae,t,hK,hpt,rfl,ng,qb⟩:=hT.kid hn eP
  have h1:=ih t ng hpt (hK.tn hnd) (by
   obtain⟨x,hx,rfl⟩:=hx;rw[hK.l,Dm hK.at_]at hx;rcases cB.1 hx with h|h
   ·have:=ET (hK.jZ.left hK.at_ hix.below) x h;omega
   rcases cB.1 h with h|h
   ·exact⟨x,h,rfl⟩
   have:=Jo (hK.jZ.right hK.at_ hix.above) x h;omega)
  exact⟨rfl,h1.2.1,h1.2.2⟩
 | @up d A B1 B pg i c iY more ai ah nL κ e hn hix eP hrec hm1 hset ih=>
  intro s hT cK hnd hx;subst cK;obtain⟨ae,t,hK,hpt,rfl,ng,qb⟩:=hT.kid hn eP
  have h1:=ih t ng hpt (hK.tn hnd) (by
   obtain⟨x,hx,rfl⟩:=hx;rw[hK.l,Dm hK.at_]at hx;rcases cB.1 hx with h|h
   ·have:=ET (hK.jZ.left hK.at_ hix.below) x h;omega
   rcases cB.1 h with h|h
   ·exact⟨x,h,rfl⟩
   have:=Jo (hK.jZ.right hK.at_ hix.above) x h;omega)
  exact absurd h1.1 hm1
theorem xuj{k v:UInt64}{rt d:Nat}{A B:AP}{e:Int}(h:sS k v rt d A B e)(s:Sb)(hT:Tr (aH A) d s)(cK:s.pg=rt)(hn:s.ps.Nodup)(hx:∃x∈s.l,x.1=k):e=0/\B.ay=A.ay:=by
 cases h with
 | @same B κ hp=>exact⟨rfl,(OQ hp s hT cK hn hx).2.2⟩
 | @bad more B κ e hp he=>exact absurd (OQ hp s hT cK hn hx).2.1 he
 | @full more B κ hp hm hf=>exact absurd (OQ hp s hT cK hn hx).1 hm
 | @grow more B B2 κ x hp hm hf hx2 hB2=>exact absurd (OQ hp s hT cK hn hx).1 hm
def ybf(E:Nat->Prop)(W w':World)(P D T rt:Nat)(A:AP)(K:Nat)(l:List KV)(key v:UInt64)(ps:List Nat)(e:Ending):Prop:=
 ∃(B:AP) (er:Int) (kk:Nat),e= .returned (.int .i64 er)/\((er=0/\nE A B rt (fZ l key v) ps)\/(er=6/\A.Reach B/\A.ay<=20))/\((∃x∈l,x.1=key)->er=0/\B.ay=A.ay)/\bL E w' P D T rt B kk/\kk<=K/\Kept E W w'
section
variable{E:Nat->Prop}{W:World}{P D T k rt:Nat}{A:AP}{l:List KV}{ps:List Nat}
theorem xrk(h:bL E W P D T rt A k)(hk:k+1100<900000000)(ht:TI A rt l ps)(hg:A.Good)(hc:∀p,A.Has p->(A.c p).length=504)(key v:UInt64) :
  Calls Tryz.prog 62 #[.pointer T,.int .u64 key.toNat,.int .u64 v.toNat] W λ e w'=>ybf E W w' P D T rt A (k+1100) l key v ps e:=by
 obtain⟨d,s,hT,cK,rfl,rfl⟩:=ht.ex;exact(Sa h hk hT cK ht hg hc key v).mono λ e w' ⟨B,er,kk,he,hs,hq⟩=>⟨B,er,kk,he,Sc hs hT cK ht hg hc,λ hh=>xuj hs s hT cK ht.eY hh,hq⟩
end
section
variable{E:Nat->Prop}{W:World}{P D Q T rt aC k nb page fr tt:Nat}{A:AP}{x:Sn}{Pg qs:List Nat}{m:List KV}
theorem xof(h:aD E W P D Q T rt aC A k)(hp:bZ A rt aC Pg m qs)(hn:gK E W nb x)(hl:x.leaf=true)(hft:fr<=tt)(hto:tt<=x.aA.length)(iy:x.aA.length<=100)(uE:page<4294967296)(hk:k+1100*(tt-fr)+1200<900000000)(hkeys:∀i∈(x.aA.take tt).drop fr,∃y∈m,y.1=i) :
  Calls Tryz.prog 127 #[.pointer Q,.int .i64 page,.pointer nb,.int .i64 fr,.int .i64 tt] W λ e w'=>e= .returned (.int .i64 0)/\∃B bK k',aD E w' P D Q T rt aC B k'/\k'<=k+1100*(tt-fr)/\Kept E W w'/\bZ B rt aC Pg (iW m ((x.aA.take tt).drop fr) (UInt64.ofNat page)) bK/\A.Reach B/\(∀p∈Pg,B.c p=A.c p)/\B.ay=A.ay/\bK.length=qs.length:=by
 have ry:((UInt64.ofNat page).toNat:Int)=(page:Int):=by rw[UInt64.toNat_ofNat_of_lt' (by show page<18446744073709551616;omega)]
 have hpw:IntKind.u64.wrap (page:Int)=(page:Int):=by rw[IntKind.wrap_u64];omega
 have hp0:(0:Int)<=(page:Int):=by omega
 have HST:Hid (∃B bK k',aD E W P D Q T rt aC B k'/\k'<=k+1100*(fr-fr)/\Kept E W W/\bZ B rt aC Pg (iW m ((x.aA.take fr).drop fr) (UInt64.ofNat page)) bK/\A.Reach B/\(∀p∈Pg,B.c p=A.c p)/\B.ay=A.ay/\bK.length=qs.length):=zH ⟨A,qs,k,h,by omega,Kept.of_below (aP _ _) h.pz.there,by rw[kz (by rw[zt];omega)];exact hp,AP.Reach.refl A,λ _ _=>rfl,rfl,rfl⟩;have HN:=zH hn;have Lc:=zH ry;have HKY:=zH hkeys;clear h hp hn ry hkeys
 go_enter Tryz.func127,Tryz.ntmps127
 go_wp2_with fail
 go_loopw [11] (λ ix wr=>∃i:Nat,ix= .int .i64 i/\fr<=i/\i<=tt/\∃B bK k',aD E wr P D Q T rt aC B k'/\k'<=k+1100*(i-fr)/\Kept E W wr/\bZ B rt aC Pg (iW m ((x.aA.take i).drop fr) (UInt64.ofNat page)) bK/\A.Reach B/\(∀p∈Pg,B.c p=A.c p)/\B.ay=A.ay/\bK.length=qs.length) (λ ix _=>101-(intOf ix).toNat)
 case atStart=>exact⟨fr,rfl,aZ _,hft,HST.out⟩
 clear HST;obtain⟨i,rfl,hfi,hit,B,rE,k1,hs,hk1,kp,jB,hre,hsm,hro⟩:=hrel;obtain⟨iv,kv,cv,hb,hnb,⟨ia,ic,rfl,hic,hii⟩,_⟩:=HN.out.kept kp;rw[cz,hl]at hb;rw[cz]at hic;have c0:=hb.c0;by_cases hlt:i<tt
 ·obtain⟨id,hid⟩:∃id,x.aA[i]?=some id:=⟨_,di (by omega)⟩;obtain⟨g,o,rfl,_,ck⟩:=hii i _ (qx _ _ _ hid);have c2:=hb.c2;have q2:=hs.box.c2;have hsn:=Sg (fr:=fr) hid hfi
  have Cf:∃y∈iW m ((x.aA.take i).drop fr) (UInt64.ofNat page),y.1=id:=by
   have hmem:id∈(x.aA.take tt).drop fr:=by
    refine List.mem_iff_getElem?.2 ⟨i-fr,?_⟩;rw[iC,iO (by omega),show fr+(i-fr)=i by omega];exact hid
   obtain⟨y,hy,rfl⟩:=HKY.out id hmem;by_cases hin:y.1∈(x.aA.take i).drop fr
   ·exact⟨(y.1,UInt64.ofNat page),(Gr _ _).2 (.inl ⟨hin,rfl⟩),rfl⟩
   exact⟨y,(Gr _ _).2 (.inr ⟨hin,hy⟩),rfl⟩
  have hs1:=hs.next (W':=wr.drew) (aP _ _).drew;have hput:=xrk hs1.tree (by omega) jB.tree jB.good jB.len id (UInt64.ofNat page);rw[Lc.out]at hput;have Ai:=zH hput;have HX:=zH (zA hs1 (zA (kp.trans (Kept.of_below (aP _ _).drew hs.pz.there)) (zA jB (zA hre (zA hsm (zA hro (zA hsn Cf)))))));have i1:(i:Int)<(tt:Int):=by omega
  have i2:i<x.aA.length:=by omega
  clear hs kp jB hre hsm hro hb hii hid hsn Cf hs1 hput
  go_wp2_with fail
  go_region_with (first|(go_at_call 62;refine Ai.out.mono ?_;rintro e w2 ⟨B2,er,kk,rfl,hor,hkx,ht2,hkk,gy⟩;obtain⟨hs1,CY,jB,hre,hsm,hro,hsn,Cf⟩:=HX.out;obtain⟨hk0,hkr⟩:=hkx Cf;obtain⟨rfl,hpo⟩|⟨h6,_,hno⟩:=hor;rotate_left;(exfalso;omega);replace hkr:=zH hkr;replace ht2:=zH ht2;replace gy:=zH gy;replace hpo:=zH hpo;clear hs1 CY jB hre hsm hro hsn Cf hk0 hkx))
  all_goals
   clear Ai c0 c2 q2 ck;go_wp2;go_roundw
   case rel=>
    obtain⟨hs1,CY,jB,hre,hsm,hro,hsn,Cf⟩:=HX.out;have aa4:=hkr.out;obtain⟨EJ,r2,CZ,Jg,Ld⟩:=jB.put hpo.out;refine⟨i+1,by go_num,by omega,by omega,B2,EJ,kk,hs1.step ht2.out.pz gy.out,by omega,CY.trans gy.out,?_,hre.trans CZ,λ p hp=>(Jg p hp).trans (hsm p hp),by omega,by omega⟩;rw[hsn,Yf];exact r2
   case measure=>simp[intOf];omega
 obtain rfl:i=tt:=by omega
 have HF:=zH (show ∃B bK k',aD E wr P D Q T rt aC B k'/\k'<=k+1100*(i-fr)/\Kept E W wr/\bZ B rt aC Pg (iW m ((x.aA.take i).drop fr) (UInt64.ofNat page)) bK/\A.Reach B/\(∀p∈Pg,B.c p=A.c p)/\B.ay=A.ay/\bK.length=qs.length from⟨B,rE,k1,hs,hk1,kp,jB,hre,hsm,hro⟩);clear hs kp jB hre hsm hro hb hii c0;go_wp2;go_ret;exact⟨rfl,HF.out⟩
end
end Go.Proofs.YtlipgbnnbefhjaaGreatDoor
