/- Facts on rows of numbers on pages. -/
import Derived.Test.YtlipgbnnbefhjaaGreatDoorKStBc
import Derived.Test.YtlipgbnnbefhjaaGreatDoorKStWc
set_option maxRecDepth 100000
set_option maxHeartbeats 8000000
set_option linter.unusedSimpArgs false
namespace Go.Proofs.YtlipgbnnbefhjaaGreatDoor
open Go.RowKit
open UK (str aO nth Only Row aI)
section
variable{E F:Nat->Prop}{W W':World}{P D Q T rt aC k nb e d:Nat}{A A':AP}{n n0:Sn}{qs:List Nat}{m:List KV}{s s0:SS}{X R Z:List UInt64}
def xE(l:Nat)(φ ν τ:Int):Prop:=φ<0\/ν<0\/(l:Int)<ν\/(l:Int)-ν<φ\/τ<0\/(l:Int)-ν<τ
def GJ(E:Nat->Prop)(W w':World)(P D Q T rt aC k:Nat)(A:AP)(X:List UInt64)(φ ν τ:Int)(e:Ending):Prop:=
 (xE X.length φ ν τ/\e= .returned (.int .i64 1)/\aD E w' P D Q T rt aC A k/\Kept E W w')\/(¬xE X.length φ ν τ/\e= .returned (.int .i64 0)/\Mq E W w' P D Q T rt aC k A (uR X φ.toNat ν.toNat τ.toNat))
def Pf(A:AP)(l:Nat):Prop:=36*l+24760<=308*A.ay\/(l<=20/\6<=A.ay)
theorem yb5{A2:AP}{L l ml p q:Nat}(aY:Pf A L)(h1:l<=L)(h2:22*p<=l+22)(h3:ml=l)(h4:14*q<=l+14)(hro:A.ay+2<=A2.ay+p+q):Ms A2 l ml q:=by
 unfold Pf at aY;unfold Ms;omega
theorem xxl(h:aD E W P D Q T rt aC A k)(hr:RI A rt aC m qs d s0 n0)(hX:s0.l.length<=1000)(hk:k+220000*s0.l.length+1000000<790000000)(aY:Pf A s0.l.length)(φ ν τ:Int) :
  Calls Tryz.prog 27 #[.pointer Q,.int .i64 φ,.int .i64 ν,.int .i64 τ] W λ e w'=>GJ E W w' P D Q T rt aC (k+100+220000*s0.l.length) A s0.l φ ν τ e:=by
 have HL:=zH (Ob h hr (by omega));have HH:=zH (zA h (zA hr (zA hk aY)));clear h hr aY hk
 go_enter Tryz.func27,Tryz.ntmps27
 go_wp2_with fail
 refine HL.out.mono ?_;rintro e w1 ⟨rfl,hs1,k1⟩;clear HL;have H1:=zH (zA hs1 k1);have HB:Hid (xE s0.l.length φ ν τ->GJ E W w1 P D Q T rt aC (k+100+220000*s0.l.length) A s0.l φ ν τ (.returned (.int .i64 1))):=zH (λ hb=>.inl ⟨hb,rfl,hs1.up (by omega),k1⟩);clear hs1 k1;by_cases q1:φ<0
 ·have HF:=zH (HB.out (.inl q1));clear HB HH H1;go_wp2;go_ret;exact HF.out
 by_cases q2:ν<0
 ·have HF:=zH (HB.out (.inr (.inl q2)));clear HB HH H1;go_wp2;go_ret;exact HF.out
 by_cases q3:(s0.l.length:Int)<ν
 ·have HF:=zH (HB.out (.inr (.inr (.inl q3))));clear HB HH H1;go_wp2;go_ret;exact HF.out
 have hw0:IntKind.i64.wrap ((s0.l.length:Int)-ν)=(s0.l.length:Int)-ν:=by rw[bN];omega
 by_cases q4:(s0.l.length:Int)-ν<φ
 ·have HF:=zH (HB.out (.inr (.inr (.inr (.inl q4)))));clear HB HH H1;go_wp2;go_ret;exact HF.out
 by_cases q5:τ<0
 ·have HF:=zH (HB.out (.inr (.inr (.inr (.inr (.inl q5))))));clear HB HH H1;go_wp2;go_ret;exact HF.out
 by_cases q6:(s0.l.length:Int)-ν<τ
 ·have HF:=zH (HB.out (.inr (.inr (.inr (.inr (.inr q6))))));clear HB HH H1;go_wp2;go_ret;exact HF.out
 have hgood:¬xE s0.l.length φ ν τ:=by unfold xE;omega
 have HF:Hid (∀w',Mq E W w' P D Q T rt aC (k+100+220000*s0.l.length) A (uR s0.l φ.toNat ν.toNat τ.toNat)->GJ E W w' P D Q T rt aC (k+100+220000*s0.l.length) A s0.l φ ν τ (.returned (.int .i64 0))):=zH (λ w' hm=>.inr ⟨hgood,rfl,hm⟩);clear hgood HB;obtain⟨f,rfl⟩:∃f:Nat,φ=f:=⟨φ.toNat,by omega⟩;obtain⟨v,rfl⟩:∃v:Nat,ν=v:=⟨ν.toNat,by omega⟩;obtain⟨t,rfl⟩:∃t:Nat,τ=t:=⟨τ.toNat,by omega⟩;rw[show((f:Nat):Int).toNat=f by omega,show((v:Nat):Int).toNat=v by omega,show((t:Nat):Int).toNat=t by omega]at HF;have HN:=zH (show f+v<=s0.l.length/\t+v<=s0.l.length by omega)
 have HST:Hid (Bc E W w1 P D Q T rt aC (k+40) A s0.l f 0 none 0):=by
  obtain⟨hs1,k1⟩:=H1.out;obtain⟨h,hr,hk,aY⟩:=HH.out;have h0:s0.l.take f++s0.l.drop (f+0)=s0.l:=by rw[iP,gm]
  exact zH ⟨A,m,qs,d,s0,n0,hs1.less (.inl hs1.mem) (.inl hs1.fH) (λ j hj=>hj.elim id (λ e=>by cases e)),k1,hr,h0.symm,by rw[jH];exact NR.nil,by simp,(λ g hg=>by cases hg),AP.Reach.refl A,aZ _⟩
 clear H1
 go_upto_region 6 with(fail)
 go_cut [11] (λ ov wx=>ov= .slice none 0 0/\wx=w1)
 case first=>
  clear HST HF HH
  go_wp2_with fail
  go_meet
  case rel=>exact⟨rfl,rfl⟩
 case rest=>
 obtain⟨rfl,rfl⟩:=hcut;clear q1 q2 q3 q4 q5 q6 hw0
 go_wp2_with fail
 go_loopw [55,11] (λ ix ov wr=>∃(j:Nat) (ao:Option Addr) (c:Nat),ix= .int .i64 j/\ov= .slice ao j c/\j<=v/\Hid (Bc E W wr P D Q T rt aC (k+40) A s0.l f j ao c)) (λ ix _ _=>v+1-(intOf ix).toNat)
 case atStart=>exact⟨0,none,0,rfl,rfl,bY _,HST⟩
 clear HST;obtain⟨j,ao,c,rfl,rfl,hj,hI⟩:=hrel;obtain⟨A1,m1,rE,e1,s1,n1,hs,kp,uf,hl,hnr,aJ,hnew,hre,hro⟩:=hI.out;obtain⟨h,hr,hk,aY⟩:=HH.out;by_cases hlt:j<v
 ·have Mr:=HN.out.1;have hlt2:(j:Int)<(v:Int):=by omega
  have hll:s1.l.length+j=s0.l.length:=by rw[hl,zl,zt,zd];omega
  obtain⟨id,hid⟩:∃id,s0.l[f+j]?=some id:=⟨_,di (by omega)⟩
  have hat:s1.l[f]?=some id:=by
   have hl1:(s0.l.take f).length=f:=by rw[zt];omega
   rw[hl,dF (by omega),hl1,iF,iC,iP,hid]
  have HD:=zH (YX hs uf (by omega) (f:Int) (by omega));have HX:=zH (zA hs (zA kp (zA uf (zA hl (zA hnr (zA aJ (zA hnew (zA hre (zA hro (zA hid (zA hat hll)))))))))));clear hI hs kp uf hl hnr aJ hnew hre hro h hr hk aY Mr hll hid hat hlt
  go_wp2_with fail
  refine HD.out.mono ?_;rintro e w2 ⟨vv,er,rfl,hor⟩;clear HD;obtain⟨hs,kp,uf,hl,hnr,aJ,hnew,hre,hro,hid,hat,hll⟩:=HX.out;obtain⟨h,hr,hk,aY⟩:=HH.out;have hN1:=HN.out;rcases hor with⟨_,_,hbd,_⟩|⟨rfl,ι,id2,xG,yw,rfl,hd⟩
  ·exfalso;have:=(dn.1 hat).1;omega
  obtain rfl:ι=f:=by omega
  obtain rfl:id2=id:=bC (yw.symm.trans hat);obtain⟨g',c2,W',e1,hnext⟩:=Bc.next (k:=k+40) (λ i hi=>h.pz.there i hi) h.mem h.fH h.pz.tab.lt hid hl kp hnr aJ hnew hX hre hro (by have:=hd;exact this);have xX:=zH hnext;clear HX hs kp uf hl hnr aJ hnew hre hro hid hat hll h hr hk aY hd hnext hN1 xG yw
  go_wp2_with (at_builtin;refine UK.pV e1 rfl rfl rfl rfl rfl ?_)
  clear e1;go_wp2;go_roundw
  case rel=>exact⟨j+1,some ⟨g',0,none⟩,c2,by go_num,rfl,by omega,xX⟩
  case measure=>simp[intOf];omega
 obtain rfl:j=v:=by omega
 have hlt2:¬(j:Int)<(j:Int):=by omega
 obtain⟨Fj,Fp,GK,GL⟩:=xup hr.uniq f j HN.out.1
 have HST:Hid (yG E W wr P D Q T rt aC (k+40+150000*j) A (s0.l.take f++s0.l.drop (f+j)) ((s0.l.drop f).take j) t 0 ao c):=by
  have hp:=uf.pages;exact zH ⟨A1,m1,rE,e1,s1,n1,hs,kp,uf,by rw[hl,jH,jw,gm],hnr,hnew,hre,by omega⟩
 have Ur:=zH (zA Fj (zA Fp (zA GK GL)));clear hI hs kp uf hl hnr aJ hnew hre hro h hr hk aY Fj Fp GK GL
 go_wp2_with fail
 go_loopw [73] (λ ix wr=>∃i:Nat,ix= .int .i64 i/\i<=j/\Hid (yG E W wr P D Q T rt aC (k+40+150000*j) A (s0.l.take f++s0.l.drop (f+j)) ((s0.l.drop f).take j) t i ao c)) (λ ix _=>j+1-(intOf ix).toNat)
 case atStart=>exact⟨0,rfl,bY _,HST⟩
 clear HST;obtain⟨i,rfl,hi,hI⟩:=hrel;obtain⟨A2,m2,EJ,e2,s2,n2,hs,kp,uf,hl,hnr,hnew,hre,hro⟩:=hI.out;obtain⟨h,hr,hk,aY⟩:=HH.out;obtain⟨Fj,Fp,GK,GL⟩:=Ur.out;by_cases hlt:i<j
 ·obtain⟨id,hid⟩:∃id,((s0.l.drop f).take j)[i]?=some id:=⟨_,di (by omega)⟩
  obtain⟨g,rfl,Ri⟩:∃g,ao=some ⟨g,0,none⟩/\Row wr g c (aF ((s0.l.drop f).take j)):=by
   rcases hnr with⟨_,h2,_⟩|h1
   ·have:=congrArg List.length h2;rw[cz]at this;simp only[List.length_nil]at this;omega
   exact h1
  have ck:wr.cell? (g,i)=some (.int .u64 (id.toNat:Int)):=Ri.at' i _ (qx _ _ _ hid);have hnot:id∉s2.l:=by rw[hl];exact xuq hid Fp Fj
  have hll:s2.l.length+j=s0.l.length+i:=by rw[hl];simp only[zl,zt,zd]at *;omega
  have cK:=uf.pages;have Mt:=HN.out.2;have HI:=zH (Zb hs uf (by omega) (yb5 aY (by omega) (by omega) (by omega) (by omega) hro) (((t+i:Nat):Int)) (by omega) id);have hw3:IntKind.i64.wrap ((t:Int)+(i:Int))=((t+i:Nat):Int):=by rw[bN];omega
  have hil:(i:Int)<(j:Int):=by omega
  have Us:i<=1000:=by omega
  have HX:=zH (zA hs (zA kp (zA uf (zA hl (zA hnr (zA hnew (zA hre (zA hro (zA hid (zA hnot (zA hll Mt)))))))))));clear hI hs kp uf hl hnr hnew hre hro h hr hk aY hid hnot hll cK Mt Fj Fp GK GL Ri hlt
  go_wp2_with fail
  refine HI.out.mono ?_;rintro e w3 ⟨er,rfl,hor⟩;clear HI ck;obtain⟨hs,kp,uf,hl,hnr,hnew,hre,hro,hid,hnot,hll,Mt⟩:=HX.out;obtain⟨Fj,Fp,GK,GL⟩:=Ur.out;rcases hor with⟨_,hbd,_⟩|⟨_,_,_,hin,_⟩|⟨rfl,ι,xG,_,_,hd⟩
  ·exfalso;omega
  ·exact absurd hin hnot
  obtain rfl:ι=t+i:=by omega
  have xX:Hid (yG E W w3 P D Q T rt aC (k+40+150000*j) A (s0.l.take f++s0.l.drop (f+j)) ((s0.l.drop f).take j) t (i+1) g c):=zH (yG.next (k:=k+40+150000*j) hid (by omega) hl kp hnr hnew hre hro hd);clear HX hs kp uf hl hnr hnew hre hro hid hnot hll Mt Fj Fp GK GL hd xG;go_wp2;go_roundw
  case rel=>exact⟨i+1,by go_num,by omega,xX⟩
  case measure=>simp[intOf];omega
 obtain rfl:i=j:=by omega
 have hil:¬(i:Int)<(i:Int):=by omega
 have hN1:=HN.out;have HE:=zH (HF.out wr ⟨A2,m2,EJ,e2,s2,n2,(hs.less h.mem h.fH (λ j hj=>.inl hj)).up (by omega),kp,uf,by rw[hl,eZ (l:=(s0.l.drop f).take i) (by omega)];rfl,hre,hro⟩);clear hI hs kp uf hl hnr hnew hre hro h hr hk aY Fj Fp GK GL HF Ur HN HH hN1;go_wp2;go_ret;exact HE.out
end
end Go.Proofs.YtlipgbnnbefhjaaGreatDoor
