/- Facts on rows of numbers on pages. -/
import Derived.Test.YtlipgbnnbefhjaaGreatDoorKSsHc
import Derived.Test.YtlipgbnnbefhjaaGreatDoorKSsLc
import Derived.Test.YtlipgbnnbefhjaaGreatDoorKSsMc
set_option maxRecDepth 100000
set_option maxHeartbeats 8000000
set_option linter.unusedSimpArgs false
namespace Go.Proofs.YtlipgbnnbefhjaaGreatDoor
open Go.RowKit
open UK (str aO nth Only Row aI)
section
variable{B0 E:Nat->Prop}{W:World}{P D Q T rt aC k fU EY e dh:Nat}{A:AP}{qs:List Nat}{m:List KV}{C:List bV}{X Y S1 S2:List SS}{t1 t2:SS}{n1 n2:Sn}{ka va aa:Option Addr}{kc vc ac:Nat}
theorem ybj{κ N:Nat}(hQ:E Q)(hT:E T)(dG:∀j,B0 j->¬E j)(eF:¬B0 0)(h:aD (λ j=>E j\/B0 j) W P D Q T rt aC A k)(hb0:eD B0 W fU (bO (aL C) (X++t1::t2::Y)) ka va aa kc vc ac)(dK:X.length=κ)(hN:(X++t1::t2::Y).length=N)(kD:N<=40)(z:mI A rt aC m qs C e dh X Y t1 t2 n1 n2 S1 S2)(hk:k+200000<900000000) :
  Calls Tryz.prog 107 #[.pointer Q,.int .i64 EY,.pointer fU,.int .i64 κ] W λ e' w'=>e'= .returned (.int .i64 0)/\AA E W w' P D Q T rt aC (k+224+1100*(n1.aA.length+n2.aA.length)) A C e dh fU (X++t1::t2::Y):=by
 by_cases Cj:n1.size+n2.size<=n1.ax
 ·exact ybg Cj hQ hT dG eF h hb0 dK hN kD z hk
 cases hl:n1.leaf with
 | true=>exact ybh ⟨Cj,hl⟩ hQ hT dG eF h hb0 dK hN kD z hk
 | false=>exact ybi ⟨Cj,hl⟩ hQ hT dG eF h hb0 dK hN kD z hk
end
def mK(E:Nat->Prop)(W w':World)(P D Q T rt aC k:Nat)(A:AP)(l:List UInt64):Prop:=
 ∃A' m' bK e' s' n',aD E w' P D Q T rt aC A' k/\Kept E W w'/\RI A' rt aC m' bK e' s' n'/\s'.l=l/\A.Reach A'/\A.ay<=A'.ay
section
variable{A B:AP}{rt aC e:Nat}{m:List KV}{qs bK:List Nat}{C:List bV}{fr:bV}{s t:SS}{n x:Sn}{S:List SS}
theorem bA.YR(h:bA x):bA {x with up:=0}:=⟨by show(0:Nat)<4294967296;omega,h.leaf,h.inner⟩
structure Dy(A:AP)(rt e:Nat)(t:SS)(x:Sn)(S:List SS):Prop where
 at_:aU A t.pg=some x
 body:Body e rt x S
 is:t=aM t.pg x S
 ah:∀u∈S,eT (aU A) (e-1) t.pg u
 Jm:dD x
theorem ZI.one(h:ZI A rt aC m qs [] e s n)(hl:n.leaf=false)(h1:n.ah.length=1):∃e' t x S,e=e'+1/\s=jC rt [t]/\n=bO 0 [t]/\Dy A rt e' t x S:=by
 obtain⟨ae,hb,hk,hs⟩:=h.ni.body;have hrt:s.pg=rt:=h.root;rcases hb with⟨_,_,aA,rfl⟩|⟨h0,rfl⟩
 ·cases hl
 obtain⟨e',rfl⟩:∃e',e=e'+1:=⟨e-1,by omega⟩;have hl1:ae.length=1:=by simpa[bO,bJ]using h1
 obtain⟨t,rfl⟩:=List.length_eq_one_iff.1 hl1;rw[EO,hrt]at hs;obtain⟨x,hx,hn,hf⟩:=hk t (gZ ..);rw[hrt]at hn;obtain⟨S,b1,b2,b3⟩:=hn.body;exact⟨e',t,x,S,rfl,hs,rfl,hx,b1,b3,b2,hf⟩
theorem ZI.lg(h:ZI A rt aC m qs [] (e+1) (jC rt [t]) (bO 0 [t]))(z:Dy A rt e t x S):bZ A rt aC (rt::t.ps) m qs/\t.ps=t.pg::bI S/\rt∉t.ps/\t.pg∉bI S/\(bI S).Nodup/\(∀p∈bJ S,p∈bI S)/\t.pg<60000/\rt<60000:=by
 have e1:t.ps=t.pg::bI S:=congrArg SS.ps z.is;have e2:(jC rt [t]).ps++aT []=rt::t.ps:=by simp[jC,bI,aT]
 have hr:=h.rp;rw[e2]at hr;have hn:=hr.rD;rw[dL]at hn;have hn2:=hn.2;rw[e1,dL]at hn2
 have hsm:∀p∈rt::t.ps,p<60000:=λ p hp=>by
  have h1:=hr.dO hp;have h2:=hr.good.ax;have h3:=hr.good.few;have h4:=h1.2.1;omega
 refine⟨hr,e1,hn.1,hn2.1,hn2.2,λ p hp=>?_,hsm _ (by rw[e1];simp),hsm _ (by simp)⟩;obtain⟨u,hu,rfl⟩:=tZ hp;obtain⟨y,_,hy,_⟩:=z.ah u hu;exact kP.2 ⟨u,hu,hy.mem⟩
theorem ZI.Dz(h:ZI A rt aC m qs [] (e+1) (jC rt [t]) (bO 0 [t]))(z:Dy A rt e t x S)(jB:bZ B rt aC (rt::t.ps) (iW m x.aA (UInt64.ofNat rt)) bK)
  (hw:vG (A.az rt (encS (A.c rt) {x with up:=0})) B (rt::t.ps) (bJ S) rt) :
  RI (B.give t.pg) rt aC (iW m x.aA (UInt64.ofNat rt)) bK e (aM rt {x with up:=0} S) {x with up:=0}/\B.Reach (B.give t.pg)/\B.ay<=(B.give t.pg).ay/\(aM rt {x with up:=0} S).l=(jC rt [t]).l:=by
 obtain⟨hr,e1,a1,a2,a3,a4,a5,a6⟩:=h.lg z;have hx:=nT z.at_;have hx0:=hx.YR;have hb0:Body e 0 {x with up:=0} S:=z.body.qo 0;have aJ:=hr.len rt (hr.dO (gZ ..));have hrk:rt∉bJ S:=λ hh=>a1 (by rw[e1];exact eu _ (a4 _ hh));obtain⟨r1,r2,r3,r4⟩:=hr.az (gZ ..) (s:=encS (A.c rt) {x with up:=0}) (by rw[Ah _ _ (by omega) hx0,aJ]) (λ _=>Jd _ _ (by omega) hx0)
 have hat:aU B rt=some {x with up:=0}:=by
  unfold aU;rw[hw rt (gZ ..),if_neg hrk,AP.bG,if_pos rfl,ED _ _ (by omega) hx0]
 have hsub:∀p∈bI S,p∈rt::t.ps:=λ p hp=>eu _ (by rw[e1];exact eu _ hp);have hnd:=Lp (λ u hu=>by obtain⟨y,_,hy,_⟩:=z.ah u hu;exact hy.ps) a3;have hk1:∀u∈S,eT (aU (A.az rt (encS (A.c rt) {x with up:=0}))) (e-1) t.pg u:=λ u hu=>(z.ah u hu).same (λ p hp=>yj (r4 p (λ ee=>a1 (by rw[e1,<-ee];exact eu _ (kP.2 ⟨u,hu,hp⟩)))));have hk2:∀u∈S,eT (aU B) (e-1) rt u:=λ u hu=>(hk1 u hu).turn hw (λ p hp=>hsub p (kP.2 ⟨u,hu,hp⟩)) (gT.2 ⟨u,hu,rfl⟩) (hnd.2 u hu) (λ p hp=>Nat.le_of_eq (r1.len p (r1.dO hp)).symm) (by omega);have hG:∀q,(B.give t.pg).c q=B.c q:=λ q=>congrFun (AP.mr t.pg) q;have hne:t.pg≠rt:=λ ee=>a1 (by rw[e1,ee];simp)
 have hperm:(rt::t.ps).Perm (t.pg::(rt::bI S)):=by
  rw[e1];exact List.Perm.swap ..
 obtain⟨g1,g2,g3,g4⟩:=(jB.perm hperm).give hne
 have hlv:df (aM rt {x with up:=0} S).lv (iW m x.aA (UInt64.ofNat rt))/\bP (aM rt {x with up:=0} S).lv=bP t.lv:=by
  have hv:df t.lv m:=by
   have h1:=h.rv;have h2:dE [] (jC rt [t]).lv=t.lv:=by simp[dE,jC,cu]
   rw[h2]at h1;exact h1
  have q1:=congrArg SS.lv z.is;rcases z.body with⟨_,rfl,aA,rfl⟩|⟨_,rfl⟩
  ·have q2:t.lv=[]++(t.pg,aA)::[]:=by rw[q1];simp[aM,cu]
   have q3:(aM rt {(⟨true,rt,aA,[],[]⟩:Sn)with up:=0} []).lv=[]++(rt,aA)::[]:=by simp[aM,cu]
   rw[q2]at hv;rw[q2,q3];exact⟨df.move (C:=[]) hv,by simp[bP]⟩
  have q2:t.lv=cu S:=by rw[q1];simp[aM,bO]
  have q3:(aM rt {bO rt S with up:=0} S).lv=cu S:=by simp[aM,bO]
  rw[q2]at hv;rw[q2,q3];exact⟨hv,rfl⟩
 have hps:(aM rt {x with up:=0} S).ps++aT []=rt::bI S:=by simp[aM,aT]
 refine⟨⟨⟨by rw[hps];exact g1,hlv.1,?_,trivial,rfl⟩,?_,λ hl=>?_⟩,g2,g3,?_⟩
 ·exact hb0.is (λ u hu=>(hk2 u hu).same (λ p _=>yj (hG p)))
 ·show aU (B.give t.pg) rt=_;rw[yj (hG rt)];exact hat
 ·have hf:=z.Jm;have hl2:x.leaf=false:=hl;have hi:=(hx.inner hl2).2.2.1;unfold dD Sn.ax Sn.size at hf;rw[hl2,hi]at hf;simp at hf;show 2<=x.ah.length;omega
 show bP (aM rt {x with up:=0} S).lv=bP (jC rt [t]).lv;rw[hlv.2];simp[jC,cu]
theorem ZI.pair(h:ZI A rt aC m qs (fr::C) e s n)(hat:aU A s.pg=some n)(hp:n.ax/2<=n.size+1)(hlt:n.size<n.ax/2):∃X Y t1 t2 n1 n2 S1 S2,fr.L++s::fr.R=X++t1::t2::Y/\X.length=min fr.L.length (fr.L.length+fr.R.length+1-2)/\mI A rt aC m qs C e fr.pg X Y t1 t2 n1 n2 S1 S2/\n1.aA.length+n2.aA.length<=71/\(e≠0->n1.aA.length+n2.aA.length=0):=by
 obtain⟨c1,c2,c3,c4,c5,c6⟩:=h.above;obtain⟨S,hb,hk,hs⟩:=h.ni.body;have hup:aL (fr::C)=fr.pg:=rfl;rw[hup]at hb
 have jB:bZ A rt aC (fr.pg::bI (fr.L++s::fr.R)++aT C) m qs:=by
  have h1:=h.rp.perm (KU fr C s).symm;rw[bV.lC]at h1;exact h1
 have Jr:df (dE C (cu (fr.L++s::fr.R))) m:=by
  have h1:=h.rv;rw[<-RN,bV.lC]at h1;exact h1
 have zP:n.ax=48\/n.ax=40:=by unfold Sn.ax;split<;>simp
 have yF:∀(u:Sn) (U:List SS) (up:Nat),Body e up u U->e≠0->u.aA.length=0:=λ u U up hu he=>by
  rcases hu with⟨h0,_⟩|⟨_,rfl⟩
  ·exact absurd h0 he
  rfl
 have hmo:∀(u:Sn) (U:List SS) (up:Nat),Body e up u U->u.ax=n.ax:=λ u U up hu=>by
  rcases hu with⟨h0,_,_,rfl⟩|⟨h0,rfl⟩
  ·rcases hb with⟨_,_,_,rfl⟩|⟨h1,_⟩
   ·rfl
   omega
  rcases hb with⟨h1,_,_,_⟩|⟨_,rfl⟩
  ·omega
  rfl
 have hfx:∀{p:Nat} {u:Sn},aU A p=some u->u.aA.length<=48:=λ {p u} hu=>by
  have hx:=nT hu
  cases hl:u.leaf with
  | true=>exact(hx.leaf hl).1
  | false=>rw[(hx.inner hl).2.2.1];simp
 have hni:n.aA.length<=23:=by
  have hx:=nT hat
  cases hl:n.leaf with
  | true=>
   unfold Sn.size Sn.ax at hlt;rw[hl]at hlt;simp at hlt;omega
  | false=>rw[(hx.inner hl).2.2.1];simp
 cases hR:fr.R with
 | cons r R=>
  rw[hR]at jB Jr c3;obtain⟨x,hx,hn2,hf2⟩:=c3 r (by simp);obtain⟨S2,d1,d2,d3⟩:=hn2.body;refine⟨fr.L,R,s,r,n,x,S,S2,rfl,by simp only[dw];omega,⟨jB,Jr,λ t ht=>c3 t ?_,hat,hx,hb,d1,hs,d3,hk,d2,c6,h.root,?_⟩,by have:=hfx hx;omega,λ he=>by rw[yF _ _ _ hb he,yF _ _ _ d1 he]⟩
  ·rcases cB.1 ht with h1|h1
   ·exact bR _ h1
   exact fE _ (eu _ h1)
  have:=hmo _ _ _ d1;unfold dD at hf2;omega
 | nil=>
  rw[hR]at jB Jr c3 c4;have hL:fr.L≠[]:=λ e=>by rw[e]at c4;simp at c4
  obtain⟨X,r,Uh⟩:∃X r,fr.L=X++[r]:=⟨_,_,(List.dropLast_concat_getLast hL).symm⟩;rw[Uh]at jB Jr c3;obtain⟨x,hx,hn2,hf2⟩:=c3 r (by simp);obtain⟨S2,d1,d2,d3⟩:=hn2.body;have hre:(X++[r])++s::[]=X++r::s::[]:=by simp
  rw[hre]at jB Jr;refine⟨X,[],r,s,x,n,S2,S,by rw[Uh];exact hre,by rw[Uh];simp,⟨jB,Jr,λ t ht=>c3 t ?_,hx,hat,d1,hb,d3,hs,d2,hk,c6,h.root,?_⟩,by have:=hfx hx;omega,λ he=>by rw[yF _ _ _ hb he,yF _ _ _ d1 he]⟩
  ·rcases cB.1 ht with h1|h1
   ·simp[h1]
   cases h1
  have:=hmo _ _ _ d1;unfold dD at hf2;omega
end
section
variable{B E F:Nat->Prop}{W W':World}{P D Q T rt aC k nb e:Nat}{A:AP}{n x:Sn}{qs:List Nat}{m:List KV}{s t:SS}{S:List SS}{ka va aa:Option Addr}{kc vc ac:Nat}
theorem mK.from{W0:World}{A0 A1:AP}{k1 k2:Nat}{l1 l2:List UInt64}(h:mK E W W' P D Q T rt aC k1 A1 l1)(kp:Kept E W0 W)(re:A0.Reach A1)(ro:A0.ay<=A1.ay)(hk:k1<=k2)(hl:l1=l2):mK E W0 W' P D Q T rt aC k2 A0 l2:=by
 obtain⟨A',m',bK,e',s',n',a1,a2,a3,a4,a5,a6⟩:=h;exact⟨A',m',bK,e',s',n',a1.up hk,kp.trans a2,a3,a4.trans hl,re.trans a5,bf ro a6⟩
theorem mK.less{l:List UInt64}(h:mK F W W' P D Q T rt aC k A l)(hQ:E Q)(hT:E T)(xz:∀j,E j->F j):mK E W W' P D Q T rt aC k A l:=by
 obtain⟨A',m',bK,e',s',n',a1,a2,a3,a4,a5,a6⟩:=h;exact⟨A',m',bK,e',s',n',a1.less hQ hT xz,a2.mono xz,a3,a4,a5,a6⟩
theorem xrl(h:aD F W P D Q T rt aC A k)(hk:k+70000<900000000)(hz:ZI A rt aC m qs [] (e+1) (jC rt [t]) (bO 0 [t]))(z:Dy A rt e t x S)(hn:gK F W nb {x with up:=0}) :
  Calls Tryz.prog 99 #[.pointer Q,.int .i64 rt,.pointer nb] W λ e' w1=>e'= .returned (.int .i64 0)/\(∀q,(w1.drewN q).cell? (Q,1)=some (.int .i64 (rt:Int))) /\
   ∀q1,Calls Tryz.prog 90 #[.pointer nb] (w1.drewN q1) λ e' w2=>e'= .returned (.int .i64 (x.size:Int))/\w2.cell? (Q,1)=some (.int .i64 (rt:Int)) /\
    Calls Tryz.prog 127 #[.pointer Q,.int .i64 rt,.pointer nb,.int .i64 0,.int .i64 x.size] w2 λ e' w3=>e'= .returned (.int .i64 0)/\w3.cell? Q=some (.pointer P) /\
     Calls Tryz.prog 68 #[.pointer P,.int .i64 t.pg] w3 λ e' w4=>e'= .returned (.int .i64 0)/\mK F W w4 P D Q T rt aC (k+300+1100*x.aA.length) A (jC rt [t]).l:=by
 obtain⟨hr,e1,a1,a2,a3,a4,a5,a6⟩:=hz.lg z;have hx0:=(nT z.at_).YR;have hb0:Body e 0 {x with up:=0} S:=z.body.qo 0;have aJ:=hr.len rt (hr.dO (gZ ..))
 have hil:x.aA.length<=48:=by
  have hx:=nT z.at_
  cases hl:x.leaf with
  | true=>exact(hx.leaf hl).1
  | false=>rw[(hx.inner hl).2.2.1];simp
 obtain⟨r1,r2,r3,r4⟩:=hr.az (gZ ..) (s:=encS (A.c rt) {x with up:=0}) (by rw[Ah _ _ (by omega) hx0,aJ]) (λ _=>Jd _ _ (by omega) hx0);have hnd:=Lp (λ u hu=>by obtain⟨y,_,hy,_⟩:=z.ah u hu;exact hy.ps) a3;refine(Dc h (by omega) (hr.dO (gZ ..)) hn hx0).mono ?_;rintro e' w1 ⟨rfl,hs1,k1⟩;refine⟨rfl,λ q=>hs1.box.cell 1 _ rfl,λ q1=>?_⟩;have YS:=UK.aG (aP w1 w1) q1;have Ml:=hs1.next YS;have YT:Kept F W (w1.drewN q1):=k1.trans (Kept.of_below YS hs1.pz.there);refine(tX (hn.kept YT) hx0.ok).mono ?_;rintro e' w2 ⟨rfl,q,rfl⟩;have bq:=UK.aG (aP (w1.drewN q1).heap.size (w1.drewN q1)) q;have hs2:=Ml.next bq;have k2:=YT.trans (Kept.of_below bq Ml.pz.there);refine⟨rfl,hs2.box.cell 1 _ rfl,?_⟩
 have hkeys:∀i∈(({x with up:=0}:Sn).aA.take ({x with up:=0}:Sn).size).drop 0,∃y∈m,y.1=i:=λ i hi=>by
  rw[lL]at hi;have hi2:i∈x.aA:=fI hi;have hv:=hz.rv;rcases z.body with⟨_,rfl,aA,rfl⟩|⟨_,rfl⟩
  ·have q1:=congrArg SS.lv z.is
   have q2:(jC rt [t]).lv=[(t.pg,aA)]:=by
    show cu [t]=_;have:t.lv=[(t.pg,aA)]:=by rw[q1];simp[aM,cu]
    simp[cu,this]
   rw[q2]at hv;exact⟨_,hv.pl (t.pg,aA) (by simp[dE]) i hi2,rfl⟩
  cases hi2
 have htk:({x with up:=0}:Sn).aA.take ({x with up:=0}:Sn).size=x.aA/\S.take ({x with up:=0}:Sn).size=S:=by
  rcases z.body with⟨_,rfl,aA,rfl⟩|⟨_,rfl⟩
  ·simp[Sn.size]
  simp[Sn.size,bO,bJ]
 have hA:=OX (page:=rt) (fr:=0) (tt:=({x with up:=0}:Sn).size) hs2 r1 (hn.kept k2) hx0 hb0 (bY _) (aZ _) (λ c hc=>eu _ (by rw[e1];exact eu _ (a4 c hc))) hnd.1 (by omega) (by omega) hkeys;rw[htk.1,htk.2,lL,lL]at hA;refine hA.mono ?_;rintro e' w3 ⟨rfl,B,bK,k',hs3,hk3,k3,rp,re,ad,ro,_⟩;obtain⟨z1,z2,z3,z4⟩:=hz.Dz z rp ad;refine⟨rfl,hs3.box.cell 0 _ rfl,(IW hs3.pz (by have:({x with up:=0}:Sn).aA.length=x.aA.length:=rfl;omega) t.pg (rp.dO (eu _ (by rw[e1];exact gZ ..)))).mono ?_⟩;rintro e' w4 ⟨rfl,p4,k4⟩;exact⟨rfl,_,_,_,_,_,_,(hs3.step p4 k4).up (by have:({x with up:=0}:Sn).aA.length=x.aA.length:=rfl;omega),(k2.trans k3).trans k4,z1,z4,(r2.trans re).trans z2,by omega⟩
theorem xum(h:aD F W P D Q T rt aC A k)(hk:k+80000<900000000)(hz:ZI A rt aC m qs [] e s n)(hat:aU A s.pg=some n)(hone:n.leaf=false->1<=n.ah.length)(hn:gK F W nb n) :
  Calls Tryz.prog 106 #[.pointer Q,.pointer nb] W λ e' w'=>e'= .returned (.int .i64 0)/\mK F W w' P D Q T rt aC (k+54000) A s.l:=by
 obtain⟨ka,va,aa,hbx,hnb,wk,wv,wa⟩:=id hn
 have D5:Hid ((n.leaf=true\/2<=n.ah.length)->mK F W W P D Q T rt aC (k+54000) A s.l):=zH (λ ho=>⟨A,m,qs,e,s,n,h.up (by omega),Kept.of_below (aP _ _) h.pz.there,⟨hz,hat,λ hl=>by
  rcases ho with ho|ho
  ·rw[hl]at ho;cases ho
  exact ho⟩,rfl,AP.Reach.refl A,aZ _⟩)
 have c0:=hbx.cell 0 _ rfl;have c3:=hbx.cell 3 _ rfl
 cases hl:n.leaf with
 | true=>
  rw[hl]at c0;have HF:=zH (D5.out (.inl hl));clear D5 h hz hat hone hn hbx hnb wk wv wa c3 hl
  go_enter Tryz.func106,Tryz.ntmps106
  go_wp2;go_ret
  exact⟨rfl,HF.out⟩
 | false=>
  rw[hl]at c0;have kD:=((nT hat).inner hl).1;by_cases h2:2<=n.ah.length
  ·have HF:=zH (D5.out (.inr h2));have i1:(1:Int)<(n.ah.length:Int):=by omega
   obtain⟨vo,vc,rfl,_⟩:=wv;rw[dx]at c3;clear D5 h hz hat hone hn hbx hnb wk wa hl h2
   go_enter Tryz.func106,Tryz.ntmps106
   go_wp2;go_ret
   exact⟨rfl,HF.out⟩
  have h1:n.ah.length=1:=by have:=hone hl;omega
  obtain⟨e',t,x,S,rfl,rfl,rfl,z⟩:=hz.one hl h1;obtain⟨vo,vc,rfl,_,hvv⟩:=wv;rw[dx,h1]at c3;obtain⟨g,o,rfl,_,ck⟩:=hvv 0 _ (qw _ 0 t.pg rfl);rw[iP]at ck;obtain⟨_,_,_,_,_,_,a5,a6⟩:=hz.lg z;have i1:¬((1:Nat):Int)>1:=by omega
  have cK:A.Has t.pg:=(hz.lg z).1.dO (eu _ (by rw[(hz.lg z).2.1];exact gZ ..));have HL:=zH (xh h (by omega) cK z.at_);have HZ:=zH (zA h (zA hz z));have q1:=h.box.c1;clear h hz hat hone hn hbx hnb wk wa hl h2 kD D5 hvv z h1 cK
  go_enter Tryz.func106,Tryz.ntmps106
  go_wp2_with fail
  refine HL.out.mono ?_;rintro e2 w1 ⟨B,lF,lU,lT,lV,mH,lW,kH,rfl,hB,hb,hs1,k1⟩;clear HL c0 c3 ck q1;obtain⟨h,hz,z⟩:=HZ.out;have d1:=hb.1.box.c1;have f1:=hb.1.box.free 1;obtain⟨hb2,k2⟩:=hb.fM 0;have kN:=h.pz.there;have hs2:=(hs1.own (B:=B) (λ j hj=>.inr hj) (λ hq=>by have:=hB Q hq;have:=kN Q h.mem;omega) (λ hq=>by have:=hB T hq;have:=kN T h.fH;omega) (λ ht=>by have:=hB _ ht;have:=h.pz.tab.lt;omega) k2).less (E':=λ j=>F j\/B j) (.inl h.mem) (.inl h.fH) (λ j hj=>.inl hj);have gy:Kept F W (w1.setCell (lF,1) (.int .i64 ((0:Nat):Int))):=k1.trans (k2.mono (λ j hj=>⟨bS (kN j hj) k1.size,λ hb=>by have:=hB j hb;have:=kN j hj;omega⟩));have Ui:=zH (xrl hs2 (by omega) hz z (hb2.reads.mono (T:=λ j=>F j\/B j) (λ g hg=>.inr hg)));have q2:=hs2.box.c1
  have hil:x.aA.length<=48:=by
   have hx:=nT z.at_
   cases hl:x.leaf with
   | true=>exact(hx.leaf hl).1
   | false=>rw[(hx.inner hl).2.2.1];simp
  have H2:=zH (zA hs2 (zA gy (zA h.mem h.fH)));have e0:((0:Nat):Int)=0:=rfl;rw[e0]at Ui q2 H2;clear hB hb hs1 k1 h hz z hb2 k2 kN hs2 gy HZ e0
  go_wp2_with fail
  clear d1 f1;generalize w1.setCell (lF,1) (.int .i64 0)=w2 at *;refine Ui.out.mono ?_;rintro e2 w3 ⟨rfl,q3,h3⟩;have H3:=zH h3;have q30:w3.cell? (Q,1)=some (.int .i64 (rt:Int)):=q3 0;clear Ui h3 q2
  go_wp2_with fail
  go_region_with (first|(go_at_call 90;refine(H3.out 1).mono ?_;rintro e2 w4 ⟨rfl,q4,h4⟩;replace h4:=zH h4)|(go_at_call 127;refine h4.out.mono ?_;rintro e2 w5 ⟨rfl,q5,h5⟩;replace h5:=zH h5))
  all_goals
   go_wp2_with fail
   refine h5.out.mono ?_;rintro e2 w6 ⟨rfl,h6⟩;have H6:=zH h6;clear h5 h6;go_wp2;go_ret;obtain⟨hs2,gy,hQ,hT⟩:=H2.out;exact⟨rfl,(H6.out.less hQ hT (λ j hj=>.inl hj)).from gy (AP.Reach.refl A) (aZ _) (by omega) rfl⟩
end
section
variable{B B' E F:Nat->Prop}{W W' wr:World}{P D Q T rt aC k nb nb' e K kk:Nat}{A A':AP}{n n':Sn}{qs bK:List Nat}{m m':List KV}{s s':SS}{C C':List bV}{l:List UInt64}{ka va aa:Option Addr}{kc vc ac:Nat}
def AY(E:Nat->Prop)(W wr:World)(P D Q T rt aC k:Nat)(A:AP)(C:List bV)(l:List UInt64)(j lD nb':Nat):Prop:=
 ∃C' s' n' B' A' m' bK kk ka va aa kc vc ac,lD=s'.pg/\j+C'.length=C.length/\(∀i,B' i->¬E i)/\¬B' 0 /\aD (λ i=>E i\/B' i) wr P D Q T rt aC A' kk/\kk<=k+80000+400*j/\(j=0->kk<=k)/\Kept E W wr/\eD B' wr nb' n' ka va aa kc vc ac/\ZI A' rt aC m' bK C' j s' n'/\n'.size<=n'.ax/\(C'≠[]->n'.ax/2<=n'.size+1)/\(n'.leaf=false->1<=n'.ah.length)/\bP (dE C' s'.lv)=l/\A.Reach A'/\A.ay<=A'.ay
theorem xxi(hQ:E Q)(hT:E T)(hC:C'≠[])(h:aD (λ i=>E i\/B' i) wr P D Q T rt aC A' kk)(kp:Kept E W wr)(hz:ZI A' rt aC m' bK C' e s' n')(hat:aU A' s'.pg=some n')(dR:dD n')(hn:gK (λ i=>E i\/B' i) wr nb' n')(aJ:C'.length<=19)(hre:A.Reach A')(hro:A.ay<=A'.ay)(hN:bP (dE C' s'.lv)=l)(hkk:kk+100<=K)(hk:kk+200<900000000) :
  Calls Tryz.prog 100 #[.pointer Q,.int .i64 s'.pg,.pointer nb'] wr λ e' w'=>e'= .returned (.int .i64 0)/\mK E W w' P D Q T rt aC K A l:=by
 refine(Yn h hz hat (λ _=>dR) hn aJ hk).mono ?_;rintro e' w' ⟨rfl,s2,n2,B,a1,a2,a3,a4,a5,a6,a7,a8,a9⟩;refine⟨rfl,B,m',bK,_,s2,n2,(a1.up hkk).less hQ hT (λ j hj=>.inl hj),kp.trans (a2.mono (λ j hj=>.inl hj)),⟨a3,a4,λ hl=>?_⟩,?_,hre.trans a7,by omega⟩
 ·rcases a9 with⟨h1,_⟩|⟨_,h2⟩
  ·exact absurd h1 hC
  exact h2
 show bP s2.lv=l;rw[a5,hN]
theorem xun(hQ:E Q)(hT:E T)(h:aD (λ i=>E i\/B' i) wr P D Q T rt aC A' kk)(kp:Kept E W wr)(hz:ZI A' rt aC m' bK [] e s' n')(hat:aU A' s'.pg=some n')(hone:n'.leaf=false->1<=n'.ah.length)(hn:gK (λ i=>E i\/B' i) wr nb' n')(hre:A.Reach A')(hro:A.ay<=A'.ay)(hN:bP (dE [] s'.lv)=l)(hkk:kk+54000<=K)(hk:kk+80000<900000000) :
  Calls Tryz.prog 106 #[.pointer Q,.pointer nb'] wr λ e' w'=>e'= .returned (.int .i64 0)/\mK E W w' P D Q T rt aC K A l:=by
 refine(xum h hk hz hat hone hn).mono ?_;rintro e' w' ⟨rfl,hr⟩;exact⟨rfl,(hr.less hQ hT (λ j hj=>.inl hj)).from kp hre hro hkk hN⟩
theorem AY.next{w1 w2 w3 w4:World}{j lF g:Nat}{s1:SS}{n1:Sn}{fr:bV}{C2:List bV}{B1 B0:Nat->Prop}{A1:AP}(hQ:E Q)(hT:E T)
  (aJ:j+(fr::C2).length=C.length) (_hBE:∀i,B1 i->¬E i) (hs:aD (λ i=>E i\/B1 i) wr P D Q T rt aC A1 kk) (hk:kk+300000<900000000) (hkk:kk<=k+80000+400*j+3) (hk0:j=0->kk<=k+3) (kp:Kept E W wr) (hz:ZI A1 rt aC m qs (fr::C2) j s1 n1) (hat:aU A1 s1.pg=some n1) (hp:n1.ax/2<=n1.size+1) (hlt:n1.size<n1.ax/2) (hN:bP (dE (fr::C2) s1.lv)=l) (hre:A.Reach A1) (hro:A.ay<=A1.ay)
  (hB:∀i,B0 i->wr.heap.size<=i/\i<w1.heap.size) (hb:eD B0 w1 lF (fr.node (aL C2) s1.pg fr.c) ka va g kc vc ac) (hs1:aD (λ i=>(E i\/B1 i)\/B0 i) w1 P D Q T rt aC A1 (kk+2)) (k1:Kept (λ i=>E i\/B1 i) wr w1) (hw2:Below w1 w1 w2) (hw3:w3=w2.setCell (g,fr.L.length) (.int .i64 ((n1.count:Nat):Int))) (hw4:Below w3 w3 w4) :
  Kept (λ i=>E i\/B1 i) wr w4/\eD B0 w3 lF (fr.node (aL C2) s1.pg s1.l.length) ka va g kc vc ac/\Calls Tryz.prog 107 #[.pointer Q,.int .i64 fr.pg,.pointer lF,.int .i64 ((min fr.L.length (fr.L.length+fr.R.length+1-2):Nat):Int)] w4 (λ e' w'=>e'= .returned (.int .i64 0)/\AY E W w' P D Q T rt aC k A C l (j+1) fr.pg lF/\Kept (λ i=>E i\/B1 i) wr w'):=by
 have hb2:=hb.kept hw2.size (λ i _ hi=>hw2.block i hi);have hix:=hz.index;obtain⟨hb3,hk3⟩:=hb2.dI (c:=n1.count) fr.L.length (by rw[hix.2.2.2];omega);rw[<-hw3]at hb3 hk3;have hs2:=hs1.next hw2;have kN:=hs.pz.there;have hs3:=(hs2.own (B:=B0) (λ i hi=>.inr hi) (λ hq=>by have:=hB Q hq;have:=kN Q hs.mem;omega) (λ hq=>by have:=hB T hq;have:=kN T hs.fH;omega) (λ ht=>by have:=hB _ ht;have:=hs.pz.tab.lt;omega) hk3).less (E':=λ i=>(E i\/B1 i)\/B0 i) (.inl (.inl hQ)) (.inl (.inl hT)) (λ i hi=>.inl hi);rw[hz.ni.count,bV.set]at hb3;have k13:Kept (λ i=>E i\/B1 i) wr w3:=k1.trans ((Kept.of_below hw2 hs1.pz.there).mono (λ i hi=>.inl hi) |>.trans (hk3.mono (λ i hi=>⟨bS (hs1.pz.there i (.inl hi)) hw2.size,λ hb0=>by have:=hB i hb0;have:=kN i hi;omega⟩)));have hs4:=hs3.next hw4;have hb4:=hb3.kept hw4.size (λ i _ hi=>hw4.block i hi);have k14:Kept (λ i=>E i\/B1 i) wr w4:=k13.trans (Kept.of_below hw4 (λ i hi=>hs3.pz.there i (.inl hi)));refine⟨k14,hb3,?_⟩;obtain⟨X,Y,t1,t2,n2,n3,S1,S2,Uj,yB,z,hid,yF⟩:=hz.pair hat hp hlt;have kD:=(hz.xw.inner rfl).1;have hnk:=hz.index.2.2.1;have hkl:(fr.node (aL C2) s1.pg s1.l.length).ah.length=(fr.node (aL C2) s1.pg fr.c).ah.length:=rfl;have hNl:(X++t1::t2::Y).length=fr.L.length+fr.R.length+1:=by rw[<-Uj];simp only[zl,dw];omega
 rw[bV.xk,Uj]at hb4;refine(ybj (E:=λ i=>E i\/B1 i) (.inl hQ) (.inl hT) (λ i h1 h2=>by have:=hB i h1;have:=kN i h2;omega) (λ ht=>by have:=hB _ ht;have:=hs.pz.tab.lt;omega) hs4 hb4 yB hNl (by omega) z (by omega)).mono ?_;rintro e' w' ⟨rfl,B5,ka5,FV,aa5,kc5,YI,ac5,ae,A5,m5,qs5,b1,b2,b3,b4,b5,b6,b7,b8,b9,b10,b11⟩;have hne:∀i,E i\/B5 i->(E i\/B1 i)\/B5 i:=λ i hi=>hi.elim (λ h=>.inl (.inl h)) (λ h=>.inr h);have hsz:=EP (aL C2) ae;have hmo:(bO (aL C2) ae).ax=40:=rfl;have hss:(bO (aL C2) ae).size=ae.length:=hsz.1
 have Gt:kk+2+224+1100*(n2.aA.length+n3.aA.length)<=k+80000+400*(j+1):=by
  by_cases hj:j=0
  ·have:=hk0 hj;omega
  rw[yF hj];omega
 refine⟨rfl,⟨C2,jC fr.pg ae,bO (aL C2) ae,B5,A5,m5,qs5,_,ka5,FV,aa5,kc5,YI,ac5,rfl,by simp only[dw]at aJ;omega,λ i hi he=>b1 i hi (.inl he),b2,(b4.less (.inl hQ) (.inl hT) hne),Gt,λ h=>absurd h (Nat.succ_ne_zero _),kp.trans ((k14.trans b5).mono (λ i hi=>.inl hi)),b3,b6,by omega,λ hC=>?_,λ _=>?_,?_,hre.trans b8,by omega⟩,k14.trans b5⟩
 ·have:=hz.above.2.2.2.2.1 hC;omega
 ·have:=hz.above.2.2.2.1;have yz:(bO (aL C2) ae).ah.length=ae.length:=by simp[bO,bJ]
  omega
 rw[<-hN]
 have e1:bP (dE C2 (jC fr.pg ae).lv)=bP (dE C2 (cu (X++t1::t2::Y))):=by
  rw[sQ,sQ];show ig C2++bP (cu ae)++kV C2=_;rw[b7]
 rw[e1,<-Uj];show bP (dE C2 (jC fr.pg (fr.L++s1::fr.R)).lv)=_;rw[<-bV.lC];rfl
end
section
variable{B E F:Nat->Prop}{W W':World}{P D Q T rt aC k nb e:Nat}{A:AP}{n:Sn}{qs:List Nat}{m:List KV}{s:SS}{C:List bV}{ka va aa:Option Addr}{kc vc ac:Nat}
theorem xrm(hQ:E Q)(hT:E T)(dG:∀i,B i->¬E i)(eF:¬B 0)(h:aD (λ i=>E i\/B i) W P D Q T rt aC A k)(hn:eD B W nb n ka va aa kc vc ac)(hz:ZI A rt aC m qs C 0 s n)(hsz:n.size<=n.ax)(hpo:C≠[]->n.ax/2<=n.size+1)(hone:n.leaf=false->1<=n.ah.length)(hd:C.length<=17)(hk:k+500000<900000000) :
  Calls Tryz.prog 66 #[.pointer Q,.int .i64 s.pg,.pointer nb] W λ e' w'=>e'= .returned (.int .i64 0)/\mK E W w' P D Q T rt aC (k+145000) A (bP (dE C s.lv)):=by
 have HST:Hid (AY E W W P D Q T rt aC k A C (bP (dE C s.lv)) 0 s.pg nb):=zH ⟨C,s,n,B,A,m,qs,k,ka,va,aa,kc,vc,ac,rfl,by omega,dG,eF,h,by omega,λ _=>aZ _,Kept.of_below (aP _ _) (λ j hj=>h.pz.there j (.inl hj)),hn,hz,hsz,hpo,hone,rfl,AP.Reach.refl A,aZ _⟩;have EQ:=zH (zA hQ hT);clear h hn hz hsz hpo hone dG eF hQ hT;generalize s.pg=Df at *;generalize bP (dE C s.lv)=l at *
 go_enter Tryz.func66,Tryz.ntmps66
 go_wp2_with fail
 go_loopw [12,1,2] (λ ix pv nv wr=>∃j lD nb':Nat,ix= .int .i64 j/\pv= .int .i64 lD/\nv= .pointer nb'/\j<=18/\Hid (AY E W wr P D Q T rt aC k A C l j lD nb')) (λ ix _ _ _=>21-(intOf ix).toNat)
 case atStart=>exact⟨0,Df,nb,rfl,rfl,rfl,by omega,HST⟩
 clear HST;obtain⟨j,lD,xx,rfl,rfl,rfl,hj,hI⟩:=hrel;obtain⟨C1,s1,n1,B1,A1,m1,rE,kk,ka,va,aa,kc,vc,ac,rfl,aJ,dG,eF,hs,hkk,hk0,kp,hn,hz,hsz,hpo,hone,hN,hre,hro⟩:=hI.out;have hj2:(j:Int)<20:=by omega
 have hx:=hz.fits hsz;obtain⟨z1,z2,z3,z4,z5⟩:=hz.store hx;have HS:=zH (Dc hs (by omega) hz.has (hn.reads.mono (T:=λ i=>E i\/B1 i) (λ g hg=>.inr hg)) hx);have HX:=zH (zA aJ (zA dG (zA eF (zA hkk (zA hk0 (zA kp (zA hn (zA z1 (zA z2 (zA (hre.trans z3) (zA (bf hro (Nat.le_of_eq z4.symm)) (zA hpo (zA hone (zA hN hx))))))))))))));clear hI hs hkk hk0 kp hn hz hsz hpo hone hN hre hro dG eF aJ hx z1 z2 z3 z4 z5;generalize A1.az s1.pg (encS (A1.c s1.pg) n1)=A2 at HS HX
 go_wp2_with fail
 refine HS.out.mono ?_;rintro e' w1 ⟨rfl,hs1,k1⟩;clear HS;obtain⟨aJ,dG,eF,hkk,hk0,kp,hn,hz,hat,hre,hro,hpo,hone,hN,hx⟩:=HX.out;obtain⟨hQ,hT⟩:=EQ.out;have q1:=hs1.box.c1;have nV:=kp.trans (k1.mono (λ i hi=>.inl hi));have bi:=hn.by k1 (λ g hg=>.inr hg)
 have hr1:=bi.reads.mono (T:=λ i=>E i\/B1 i) (λ g hg=>.inr hg)
 cases C1 with
 | nil=>
  have hrt:s1.pg=rt:=hz.root;have HR:=zH (xun (K:=k+145000) hQ hT hs1 nV hz hat hone hr1 hre hro hN (by omega) (by omega));rw[hrt];clear HX hs1 k1 aJ dG eF hkk hk0 kp hn hz hat hre hro hpo hone hN hx hQ hT nV bi hr1 hrt
  go_wp2_with fail
  refine HR.out.mono ?_;rintro e' w3 ⟨rfl,h3⟩;have H3:=zH h3;clear HR h3;go_wp2;go_ret;exact⟨rfl,H3.out⟩
 | cons fr C2=>
  have hnr:=hz.qa;have hne:((s1.pg:Int)==(rt:Int))=false:=beq_eq_false_iff_ne.2 (by omega);have HZ:=zH (tX hr1 hx.ok);have HM:=zH (λ q=>EG (bi.reads.kept (Kept.of_below (UK.aG (aP w1 w1) q) (λ i hi=>hs1.pz.there i (.inr hi)))));have Mm:=zH (zA hs1 (zA nV bi));have hmo:n1.ax=48\/n1.ax=40:=by unfold Sn.ax;split<;>simp
  have HJ:=zH (show j<=17 by simp only[dw]at aJ;omega);have hms:n1.ax<=48:=by omega
  clear hs1 k1 aJ dG eF hkk hk0 kp hn hz hat hre hro hpo hone hN hx hQ hT nV bi hr1 hnr
  go_wp2_with fail
  refine HZ.out.mono ?_;rintro e' w2 ⟨rfl,q,rfl⟩;clear HZ
  go_wp2_with fail
  refine(HM.out q).mono ?_;rintro e' w2 ⟨rfl,rfl⟩;clear HM q1;obtain⟨hs1,nV,bi⟩:=Mm.out;obtain⟨aJ,dG,eF,hkk,hk0,kp,hn,hz,hat,hre,hro,hpo,hone,hN,hx⟩:=HX.out;obtain⟨hQ,hT⟩:=EQ.out;have bq:Below w1 w1 (w1.drewN q):=UK.aG (aP _ _) q;have hs2:=hs1.next bq;have gy:=nV.trans (Kept.of_below bq (λ i hi=>hs1.pz.there i (.inl hi)));have hn2:=bi.kept bq.size (λ g _ hg=>bq.block g hg);have hr2:=hn2.reads.mono (T:=λ i=>E i\/B1 i) (λ g hg=>.inr hg);obtain⟨h0,hh0⟩:∃h0,n1.ax/2=h0:=⟨_,rfl⟩;have hq2:Int.tdiv (n1.ax:Int) 2=(h0:Int):=by rw[yD (by omega)];omega
  have hq3:(n1.ax:Int)/2=(h0:Int):=by omega
  have hw3:IntKind.i64.wrap (h0:Int)=(h0:Int):=yE _ (by omega);have HH0:=zH hh0;clear hh0;clear hs1 nV bi bq Mm;generalize w1.drewN q=w2 at *;by_cases hle0:h0<=n1.size
  ·have hle2:(h0:Int)<=(n1.size:Int):=by omega
   have dR:n1.ax/2<=n1.size:=by rw[HH0.out];exact hle0
   have HR:=zH (xxi (K:=k+145000) hQ hT (by simp) hs2 gy hz hat dR hr2 (by omega) hre hro hN (by omega) (by omega));clear HX aJ dG eF hkk hk0 kp hn hz hat hre hro hpo hone hN hx hQ hT hs2 gy hn2 hr2 hmo hms dR
   go_wp2_with fail
   refine HR.out.mono ?_;rintro e' w3 ⟨rfl,h3⟩;have H3:=zH h3;clear HR h3;go_wp2;go_ret;exact⟨rfl,H3.out⟩
  have hlt2:¬(h0:Int)<=(n1.size:Int):=by omega
  have dR:n1.size<n1.ax/2:=by rw[HH0.out];omega
  have Uk:=zH dR;obtain⟨Lm,hp1,hp2⟩:=hz.xn;obtain⟨hi1,hi2,hi3,hi4⟩:=hz.index;have hup:=hz.up;have hLR:=hz.above.2.2.2.1;have kD:=(hz.above.2.1.inner rfl).1;have HL:=zH (xh hs2 (by omega) Lm hz.above.1);have hb2:=hn2.1.box;rw[hup]at hb2;have c2:=hb2.c1;have hnb:E xx\/B1 xx:=.inr (hn2.2 xx (.inl rfl));have H2:=zH (zA hs2 (zA gy (zA hn2 (zA hr2 (zA hb2 hnb)))));clear hs2 gy hn2 hr2 hb2 hnb aJ dG eF hkk hk0 kp hn hz hat hre hro hpo hone hN hx hQ hT Lm hup hmo dR
  go_wp2_with fail
  refine HL.out.mono ?_;rintro e' w3 ⟨B0,lF,lU,lT,lV,mH,lW,kH,rfl,hB,hsb,hs3,k3⟩;clear HL;obtain⟨hs2,gy,hn2,hr2,hb2,hnb⟩:=H2.out;obtain⟨aJ,dG,eF,hkk,hk0,kp,hn,hz,hat,hre,hro,hpo,hone,hN,hx⟩:=HX.out;obtain⟨hQ,hT⟩:=EQ.out;have d3:=hsb.1.box.c3;have d4:=hsb.1.box.c4
  obtain⟨g,rfl,ra⟩:∃g,lV=some ⟨g,0,none⟩/\Row w3 g kH (ints (fr.node (aL C2) s1.pg fr.c).au):=by
   rcases hsb.1.a with⟨_,h2,_⟩|⟨g,h1,h2⟩
   ·have:=congrArg List.length h2;rw[dx,hi4]at this;simp at this
   exact⟨g,h1,h2⟩
  have hwk:=hsb.1.v.win (S:=λ _=>True) (λ _ _=>trivial);rw[dx]at hwk;have Di:=zH (O8 hwk (by omega) hi1 hi2);have oH:=hr2.kept k3;have HC:=zH (yY (oH.kept (Kept.of_below (hBd w3) (λ i hi=>hs3.pz.there i (.inl hi)))) hx.ok);have HS:=zH (λ (w4 w5 w6:World) (h2:Below w3 w3 w4) (h3:w5=w4.setCell (g,fr.L.length) (.int .i64 ((n1.count:Nat):Int))) (h4:Below w5 w5 w6)=>AY.next (j:=j) (k:=k) (kk:=kk+3) hQ hT aJ dG hs2 (by omega) (by omega) (λ h=>by have:=hk0 h;omega) gy hz hat (hpo (by simp)) Uk.out hN hre hro hB hsb hs3 k3 h2 h3 h4);have hcr:=ra.at' fr.L.length (.int .i64 (fr.c:Int)) (qw _ _ _ (bV.qz fr _ _ _));have hrl:=ra.le;rw[dx,hi4]at hrl;have hfr:=ra.free fr.L.length (by omega);rw[hi4]at d4;have IE:=zH hi3;have HK3:=zH hi3;have hil:(fr.L.length:Int)<((fr.L.length+fr.R.length+1:Nat):Int):=by omega
  have Aq:fr.L.length<fr.L.length+fr.R.length+1:=by omega
  have YU:2<=(fr.node (aL C2) s1.pg fr.c).ah.length/\(fr.node (aL C2) s1.pg fr.c).ah.length<=40:=by omega
  generalize (fr.node (aL C2) s1.pg fr.c).ah.length=KL at d3 Di IE YU;obtain⟨aba,YV⟩:=YU;have g1:¬(fr.L.length:Int)<0:=by omega
  have g2:¬(KL:Int)<2:=by omega
  have pK:=zH (zA hb2 hnb);clear H2 hB hsb hs3 k3 hs2 gy hn2 hr2 hb2 hnb aJ dG eF hkk hk0 kp hn hz hat hre hro hpo hone hN hx hQ hT hi1 hi2 hi3 hi4 hwk oH ra c2 kD
  go_wp2_with fail
  refine Di.out.mono ?_;rintro e' w4 ⟨rfl,rfl⟩;clear Di
  go_upto_region 16 with(fail)
  go_cut [] (λ wx=>Hid (wx=(w4.setCell (g,fr.L.length) (.int .i64 ((n1.count:Nat):Int))).drew))
  case first=>
   go_wp2_with fail
   go_region_with (first|(go_at_call 33;refine HC.out.mono ?_;rintro e' w5 ⟨rfl,rfl⟩))
   all_goals
    go_wp2_with fail
    go_meet
    case rel=>exact zH rfl
  obtain⟨wx,hwx⟩:∃wx,wx=wc:=⟨_,rfl⟩;subst hwx;have YW:=hcut.out;have Pd:Below wx wx wx.drew:=(aP _ _).drew;obtain⟨k5,hb5,Ul⟩:=HS.out w4.drew wx wx.drew (hBd w4) (by rw[YW];rfl) Pd;have c5:=(pK.out.1.af (k5.block xx pK.out.2)).c1;have hb6:=hb5.kept Pd.size (λ i _ hi=>Pd.block i hi)
  have d5:wx.drew.cell? (lF,3)=some (.slice lT KL lW):=by
   have:=hb6.1.box.cell 3 _ rfl;have e3:(fr.node (aL C2) s1.pg s1.l.length).ah.length=KL:=HK3.out.trans IE.out.symm;rw[e3]at this;exact this
  have xD:IntKind.i64.wrap ((KL:Int)-2)=((KL-2:Nat):Int):=by rw[bN];omega
  have ES:∀(ts:Array TypeId) (t:TypeId) (w:World),(Builtin.min_ ts t #[.int .i64 (fr.L.length:Int),.int .i64 ((KL-2:Nat):Int)]).run Tryz.prog w= .ok (.int .i64 ((min fr.L.length (KL-2):Nat):Int)) w:=λ ts t w=>by
   rw[run_min_int2]
   congr 2
   by_cases h:((KL-2:Nat):Int)<(fr.L.length:Int)
   ·rw[if_pos h];omega
   rw[if_neg h];omega
  rw[<-IE.out]at Ul;have Um:=zH Ul;clear HS HC hcr hfr d3 d4 YW k5 hb5 Ul hb6 hcut g2 hil Aq Pd;generalize min fr.L.length (KL-2)=κ at ES Um
  go_wp2_with fail
  go_still_tail 14,(by kernel_rfl)
  change wpList _ _ _ _ _ wx.drew
  go_wp2_with fail
  refine Um.out.mono ?_;rintro e' w6 ⟨rfl,hI2,k7⟩;have HI2:=zH hI2;have c6:=(pK.out.1.af (k7.block xx pK.out.2)).c1;clear Um hI2 k7 c5 d5 ES;go_wp2;go_roundw
  case rel=>
   have hjj:j<=17:=HJ.out;exact⟨j+1,fr.pg,lF,by go_num,rfl,rfl,by omega,HI2⟩
  case measure=>simp[intOf];omega
end
section
variable{B E F:Nat->Prop}{W W':World}{P D Q T rt aC k nb e d i r pg:Nat}{A A':AP}{n n0:Sn}{qs:List Nat}{m:List KV}{C:List bV}{s s0:SS}{ka va aa:Option Addr}{kc vc ac:Nat}{aA:List UInt64}
theorem dX.num{id:UInt64}(h:dX A rt aC m qs d s0 i d C ⟨pg,[(pg,aA)],[pg]⟩ n r)(hr:aA[r]?=some id):s0.l[i]?=some id:=by
 have hp:=h.pre;rw[h.nums,<-hp];have hl:=(dn.1 hr).1;rw[dH,dF (by omega),uG,dM hl,hr]
theorem dX.del{id:UInt64}(h:dX A rt aC m qs d s0 i d C ⟨pg,[(pg,aA)],[pg]⟩ ⟨true,aL C,aA,[],[]⟩ r)(hz:ZI A rt aC m qs C 0 ⟨pg,[(pg,aA)],[pg]⟩ ⟨true,aL C,aA,[],[]⟩)(hr:aA[r]?=some id)(hp:ou A A' aC (kC m id) qs) :
  ∃bK,ZI A' rt aC (kC m id) bK C 0 ⟨pg,[(pg,aA.take r++aA.drop (r+1))],[pg]⟩ ⟨true,aL C,aA.take r++aA.drop (r+1),[],[]⟩/\A.Reach A'/\A.ay<=A'.ay/\bP (dE C [(pg,aA.take r++aA.drop (r+1))])=s0.l.take i++s0.l.drop (i+1):=by
 obtain⟨bK,h1,h2,h3,h4⟩:=hz.rp.drop hp;have hX:=h.nums;have hV:=hz.rv;have hl:=(dn.1 hr).1;have jd:aA=aA.take r++id::aA.drop (r+1):=Jl hr;have rH:bP (dE C [(pg,aA.take r++aA.drop (r+1))])=ig C++(aA.take r++aA.drop (r+1))++kV C:=by rw[sQ];simp[bP]
 have xB:bP (dE C [(pg,aA)])=ig C++aA++kV C:=by rw[sQ];simp[bP]
 have hperm:(bP (dE C [(pg,aA)])).Perm (id::bP (dE C [(pg,aA.take r++aA.drop (r+1))])):=by
  rw[rH,xB,List.perm_iff_count];intro x;have e1:=congrArg (List.count x) jd;simp only[List.count_append,List.count_cons]at e1 ⊢;omega
 have EM:=hV.uq;have GI:(bP (dE C [(pg,aA)])).Nodup:=EM;rw[hperm.nodup_iff,dL]at GI;refine⟨bK,⟨h1,⟨λ x hx j hj=>?_,λ y hy=>?_,GI.2⟩,⟨_,rfl,rfl,rfl⟩,hz.cx.same _ _ _ (λ p gM=>yj (h3 p (fE _ gM))),hz.root⟩,h2,h4,?_⟩
 ·rw[XR];have hne:j≠id:=λ e=>GI.1 (by rw[<-e];exact Ji.2 ⟨x,hx,hj⟩);refine⟨?_,hne⟩;rcases(yV C _).1 hx with h5|h5
  ·obtain rfl:x=(pg,aA.take r++aA.drop (r+1)):=by simpa using h5
   refine hV.pl (pg,aA) ((yV C _).2 (.inl (by simp))) j ?_;have OJ:j∈aA.take r++aA.drop (r+1):=hj;rcases cB.1 OJ with h6|h6
   ·exact fI h6
   exact fA h6
  exact hV.pl x ((yV C _).2 (.inr h5)) j hj
 ·obtain⟨h5,h6⟩:=XR.1 hy;have h7:y.1∈bP (dE C [(pg,aA)]):=hV.ky y h5;rw[hperm.mem_iff,aX]at h7;rcases h7 with h7|h7
  ·exact absurd h7 h6
  exact h7
 have hpre:=h.pre;rw[rH,hX];obtain⟨e1,_⟩:=xiv (a:=ig C) (b:=aA) (c:=kV C) hpre (by omega);obtain⟨_,e2⟩:=xiv (a:=ig C) (b:=aA) (c:=kV C) (r:=r+1) (i:=i+1) (by omega) (by omega);rw[e1,e2];simp only[dH]
def D6(E:Nat->Prop)(W w':World)(P D Q T rt aC k1 k:Nat)(A:AP)(s:SS)(i:Int)(e:Ending):Prop:=
 ∃(v er:Int),e= .returned (.tuple #[.int .u64 v,.int .i64 er])/\((er=1/\v=0/\(i<0\/(s.l.length:Int)<=i)/\aD E w' P D Q T rt aC A k1/\Kept E W w') \/
  (er=0/\∃(ι:Nat) (id:UInt64),i=ι/\s.l[ι]?=some id/\v=id.toNat/\mK E W w' P D Q T rt aC k A (s.l.take ι++s.l.drop (ι+1))))
theorem xz6{w wa:World}{g r:Nat}{x:Sn}(hb:eD B w nb x g va aa kc vc ac)(hl:x.aA.length<=1000)(hi:r<x.aA.length)(ba:Below w w wa) :
  Calls Tryz.prog 64 #[.slice g x.aA.length kc,.int .i64 (r:Int),.int .i64 ((r:Int)+1)] wa λ e w'=>e= .returned (.slice g (x.aA.length-1) kc)/\w'.frozen? ⟨nb,2,none⟩=false/\(∃v,w'.cell? (nb,2)=some v)/\eD B (w'.setCell (nb,2) (.slice g (x.aA.length-1) kc)) nb {x with aA:=x.aA.take r++x.aA.drop (r+1)} g va aa kc vc ac/\Kept (λ j=>j<w.heap.size/\¬B j) w (w'.setCell (nb,2) (.slice g (x.aA.length-1) kc)):=by
 have qA:=hb.kept ba.size (λ g _ hg=>ba.block g hg);have hgg:aK (some ⟨g,0,none⟩) g:=rfl
 obtain⟨g2,e2,rk⟩:∃g',some (⟨g,0,none⟩:Addr)=some ⟨g',0,none⟩/\Row wa g' kc (aF x.aA):=by
  rcases qA.1.k with hz|h1
  ·have:=congrArg List.length hz.2.1;rw[cz]at this;exact absurd (show x.aA.length=0 from this) (by omega)
  exact h1
 injection e2 with e2
 injection e2 with e2
 subst e2;refine(Pe rk hl hi).mono ?_;rintro e w' ⟨rfl,r2,o⟩;have aJ:(x.aA.take r++x.aA.drop (r+1)).length=x.aA.length-1:=by simp only[zl,zt,zd];omega
 obtain⟨h1,h2⟩:=qA.uD r2 o (.inl hgg);have hbx:=qA.1.box.only o (λ e=>(hb.1.new g (.inl hgg)).2 e.symm);rw[aJ]at h1 h2;refine⟨rfl,hbx.free 2,⟨_,hbx.cell 2 _ rfl⟩,⟨h1.1,λ q hq=>?_⟩,(Kept.of_below ba (λ j (hj:j<w.heap.size/\¬B j)=>hj.1)).trans (h2.mono (λ j hj=>⟨bS hj.1 ba.size,hj.2⟩))⟩;exact hb.2 q hq
theorem xxj{w4:World}{ι:Nat}{id:UInt64}{B4:Nat->Prop}(hQ:E Q)(hT:E T)(dG:∀j,B4 j->¬E j)(eF:¬B4 0)(h:aD (λ j=>E j\/B4 j) w4 P D Q T rt aC A' (k+1190))(kp:Kept E W w4)(hn:eD B4 w4 nb ⟨true,aL C,aA.take r++aA.drop (r+1),[],[]⟩ ka va aa kc vc ac)(hk:k+600000<900000000)
  (hz:dX A rt aC m qs d s0 ι d C ⟨pg,[(pg,aA)],[pg]⟩ ⟨true,aL C,aA,[],[]⟩ r) (hr:aA[r]?=some id) (hd:d<=16) (hp:ou A A' aC (kC m id) qs) :
  Calls Tryz.prog 66 #[.pointer Q,.int .i64 pg,.pointer nb] w4 λ e' w'=>e'= .returned (.int .i64 0)/\mK E W w' P D Q T rt aC (k+150000) A (s0.l.take ι++s0.l.drop (ι+1)):=by
 obtain⟨_,_,_,hzi,_⟩:=hz.leaf rfl;obtain⟨bK,z1,z2,z3,z4⟩:=hz.del hzi hr hp;have h48:=((nT hz.at_).leaf rfl).1;dsimp only at h48;have hl:=(dn.1 hr).1;have hsz:(⟨true,aL C,aA.take r++aA.drop (r+1),[],[]⟩:Sn).size=aA.length-1:=by simp[Sn.size];omega
 refine(xrm hQ hT dG eF h hn z1 (by rw[hsz];show _<=48;omega) (λ hC=>?_) (λ hl=>by cases hl) (by rw[hz.len];omega) (by omega)).mono ?_
 ·have:=hz.Jm hC;unfold dD Sn.ax Sn.size at this;rw[hsz];simp at this;show 48/2<=_;omega
 rintro e' w' ⟨rfl,hR⟩;exact⟨rfl,hR.from kp z2 z3 (by omega) z4⟩
end
section
variable{B E F:Nat->Prop}{W W':World}{P D Q T rt aC k nb e d:Nat}{A A':AP}{n n0:Sn}{qs:List Nat}{m:List KV}{C:List bV}{s s0:SS}
theorem YX(h:aD E W P D Q T rt aC A k)(hr:RI A rt aC m qs d s0 n0)(hk:k+700000<900000000)(i:Int)(hi:i<9223372036854775808) :
  Calls Tryz.prog 25 #[.pointer Q,.int .i64 i] W λ e w'=>D6 E W w' P D Q T rt aC (k+100) (k+150000) A s0 i e:=by
 by_cases hi0:i<0
 ·have HF:Hid (D6 E W W P D Q T rt aC (k+100) (k+150000) A s0 i (.returned (.tuple #[.int .u64 0,.int .i64 1]))):=zH ⟨0,1,rfl,.inl ⟨rfl,rfl,.inl hi0,h.up (by omega),Kept.of_below (aP _ _) h.pz.there⟩⟩;clear h hr
  go_enter Tryz.func25,Tryz.ntmps25
  go_wp2;go_ret2
  exact HF.out
 obtain⟨ι,rfl⟩:∃ι:Nat,i=ι:=⟨i.toNat,by omega⟩;have hdp:=hr.deep;have HD:=zH (OI h hr (by omega) (show ι<9223372036854775808 by omega));have HH:=zH (zA h hr);clear h hr
 go_enter Tryz.func25,Tryz.ntmps25
 go_wp2_with fail
 refine HD.out.mono ?_;rintro e w2 ⟨B,nb,ka,va,aa,kc,vc,ac,C,pg,aA,r,rfl,hB,hb,hs2,k2,hz⟩;clear HD;obtain⟨h,hr⟩:=HH.out;have hE2:aD E w2 P D Q T rt aC A (k+40):=hs2.less h.mem h.fH (λ _ hj=>.inl hj);obtain⟨hp1,hp2,hp3⟩:=hz.place;have h48:=((nT hz.at_).leaf rfl).1;dsimp only at h48;have d2:=hb.1.box.c2;by_cases hrl:aA.length<=r
 ·have HF:Hid (D6 E W w2 P D Q T rt aC (k+100) (k+150000) A s0 ι (.returned (.tuple #[.int .u64 0,.int .i64 1]))):=zH ⟨0,1,rfl,.inl ⟨rfl,rfl,.inr (by omega),hE2.up (by omega),k2⟩⟩;have hrl2:(aA.length:Int)<=(r:Int):=by omega
  clear HH hB hb hs2 k2 hz h hr hE2 hp1 hp2 hp3 hrl;go_wp2;go_ret2;exact HF.out
 have hrl2:¬(aA.length:Int)<=(r:Int):=by omega
 have hrl3:(r:Int)<(aA.length:Int):=by omega
 have Un:r<aA.length:=by omega
 obtain⟨id,hid⟩:∃id,aA[r]?=some id:=⟨_,di Un⟩
 obtain⟨g,rfl,rk⟩:∃g,ka=some ⟨g,0,none⟩/\Row w2 g kc (aF aA):=by
  rcases hb.1.k with hz2|h1
  ·have:=congrArg List.length hz2.2.1;rw[cz]at this;exact absurd (show aA.length=0 from this) (by omega)
  exact h1
 have k3:∀q,(w2.drewN q).cell? (g,r)=some (.int .u64 (id.toNat:Int)):=λ q=>rk.at' r _ (qx _ _ _ hid);have k4:w2.cell? (g,r)=some (.int .u64 (id.toNat:Int)):=k3 0;have HI:=zH (λ (wa:World) (ba:Below w2 w2 wa)=>xz6 hb (show aA.length<=1000 by omega) (r:=r) (show r<aA.length by omega) ba);have H2:=zH (zA hB (zA hs2 (zA k2 (zA hz (zA hid hb)))));have hw1:IntKind.i64.wrap ((r:Int)+1)=(r:Int)+1:=by rw[bN];omega
 have hrs:r<=48:=by omega
 clear hB hb hs2 k2 hz h hr hE2 hp1 hp2 hp3 hid rk
 go_wp2_with fail
 refine(HI.out _ ?_).mono ?_
 ·(repeat (first|with_reducible exact aP _ _|with_reducible apply gW|with_reducible apply gQ))
 rintro e w3 ⟨rfl,hfz,⟨v3,hc3⟩,hb3,k5⟩;have H3:=zH (zA hb3 k5);clear HI d2 hb3 k5 k3 k4;obtain⟨hB,hs2,k2,hz,hid,hb⟩:=H2.out;obtain⟨h,hr⟩:=HH.out;obtain⟨hb3,k5⟩:=H3.out;have hEl:∀j,E j->j<W.heap.size:=h.pz.there;have dG:∀j,B j->¬E j:=λ j hb he=>by have:=hB j hb;have:=hEl j he;omega
 have eF:¬B 0 :=λ hb=>by have:=hB _ hb;have:=h.pz.tab.lt;omega
 have hs3:=hs2.own (B:=B) (λ j hj=>.inr hj) (λ hb=>dG Q hb h.mem) (λ hb=>dG T hb h.fH) eF k5;have vP:Kept E W (w3.setCell (nb,2) (.slice g (aA.length-1) kc)):=k2.trans (k5.mono (λ j hj=>⟨bS (hEl j hj) k2.size,λ hb=>dG j hb hj⟩));have mM:aD (λ j=>E j\/B j) (w3.setCell (nb,2) (.slice g (aA.length-1) kc)) P D Q T rt aC A (k+40):=hs3.less (.inl h.mem) (.inl h.fH) (λ j hj=>.inl hj);have hq2:=mM.box.c2;have hti:=hr.zi.rp.tree;have Ai:=zH (xoc mM.tree (by omega) hti hr.zi.rp.good hr.zi.rp.len id);have H4:=zH (zA mM (zA vP (zA hb3 (zA dG eF))));clear hB hs2 k2 hz hid h hr hb3 k5 hEl dG eF hs3 vP mM hti hb
 go_wp2_with fail
 clear hfz hc3;generalize w3.setCell (nb,2) (.slice g (aA.length-1) kc)=w4 at *;refine Ai.out.mono ?_;rintro e w5 ⟨rfl,A5,hgo,Mo,k6⟩;obtain⟨mM,vP,hb3,dG,eF⟩:=H4.out;obtain⟨h,hr⟩:=HH.out;obtain⟨hB,hs2,k2,hz,hid,hb⟩:=H2.out;have HL:=zH (xxj h.mem h.fH dG eF ((mM.sV Mo k6).up (k':=k+1190) (by omega)) (vP.trans (k6.mono (λ j hj=>.inl hj))) (hb3.by k6 (λ j hj=>.inr hj)) (by omega) hz hid hdp hgo);have Uo:=zH (hz.num hid);generalize yo m id=hv at *;clear Ai H4 HH H2 H3 mM vP hb3 dG eF h hr hB hs2 k2 hz hid hb Mo k6 hgo hq2
 go_wp2_with fail
 refine HL.out.mono ?_;rintro e w6 ⟨rfl,hR⟩;have HF:Hid (D6 E W w6 P D Q T rt aC (k+100) (k+150000) A s0 ι (.returned (.tuple #[.int .u64 (id.toNat:Int),.int .i64 0]))):=zH ⟨_,0,rfl,.inr ⟨rfl,ι,id,rfl,Uo.out,rfl,hR⟩⟩;clear HL hR;go_wp2;go_ret2;exact HF.out
end
theorem Uq{f:Nat->Option Sn}{e up:Nat}(hd:∀t,eT f e up t->22*t.ps.length+2<=t.l.length):∀(ae:List SS),(∀t∈ae,eT f e up t)->22*(bI ae).length+2*ae.length<=(bP (cu ae)).length
 | [],_=>by simp[bI]
 | t::r,h=>by
  have h1:=hd t (h t (gZ ..));have h2:=Uq hd r (λ u hu=>h u (eu _ hu));have h3:(bP (cu (t::r))).length=t.l.length+(bP (cu r)).length:=by rw[Cb,Gq,zl];rfl
  rw[Ao,zl,dw,h3];omega
theorem eT.YY{f:Nat->Option Sn}:∀(e up:Nat) (t:SS),eT f e up t->22*t.ps.length+2<=t.l.length
 | 0,up,t,⟨x,_,hn,hf⟩=>by
  obtain⟨aA,rfl,h2,h3⟩:=hn;have h4:t.l=aA:=by unfold SS.l;rw[h2];simp[bP]
  unfold dD Sn.ax Sn.size at hf;simp at hf;rw[h3,h4];simp only[dw,List.length_nil];omega
 | e+1,up,t,⟨x,_,hn,hf⟩=>by
  obtain⟨ae,rfl,h2,h3,h4⟩:=hn;have h5:=Uq (λ u=>eT.YY e t.pg u) ae h2
  have h6:20<=ae.length:=by
   unfold dD Sn.ax Sn.size at hf;simp[bJ]at hf;omega
  have h7:t.l=bP (cu ae):=by unfold SS.l;rw[h3]
  rw[h4,h7,dw];omega
section
variable{A:AP}{rt aC d:Nat}{m:List KV}{qs:List Nat}{s:SS}{n:Sn}
theorem RI.pages(h:RI A rt aC m qs d s n):22*s.ps.length<=s.l.length+22/\m.length=s.l.length/\14*qs.length<=s.l.length+14/\1<=s.ps.length/\1<=qs.length:=by
 have hc:=h.zi.rv.count h.zi.rp.tree.rise;have hm:m.length=s.l.length:=hc.symm;have AZ:=h.zi.rp.tree.many;have hq:1<=qs.length:=List.length_pos_of_mem h.zi.rp.tree.root;refine⟨?_,hm,by omega,by rw[h.zi.ni.ps];simp,hq⟩
 cases d with
 | zero=>
  obtain⟨aA,h1,h2,h3⟩:=h.zi.ni;rw[h3];simp only[dw,List.length_nil];omega
 | succ d=>
  obtain⟨ae,h1,h2,h3,h4⟩:=h.zi.ni;have h5:=Uq (λ u=>eT.YY d s.pg u) ae h2;have h7:s.l=bP (cu ae):=by unfold SS.l;rw[h3]
  rw[h4,h7,dw];omega
end
section
variable{W wr:World}{ao:Option Addr}{c:Nat}{Y:List UInt64}
theorem YZ{S:Nat->Prop}{w:World}{g:Nat}{x:UInt64}(h:aI w g #[.int .u64 (x.toNat:Int)])(hg:S g):dY S w (.slice g 1 1) (aF [x]):=by
 refine⟨_,1,rfl,aZ _,λ j u hj=>⟨g,0,rfl,hg,?_⟩⟩;rw[gq];refine h.cell j u ?_
 simpa[aF]using hj
theorem xxk(x:UInt64)(q1:NR wr ao c (aF Y))(hY:Y.length+1<=100000) :
  ∃g' c2 W',(Builtin.append_ #[27,27] 27 #[.slice ao Y.length c,.slice wr 1 1]).run Tryz.prog (wr.alloc (.cells #[.int .u64 (x.toNat:Int)] 32))= .ok (.slice (some ⟨g',0,none⟩) (Y.length+1) c2) W'/\Row W' g' c2 (aF (Y++[x]))/\(aK ao g'\/wr.heap.size<=g')/\Kept (λ j=>j<wr.heap.size/\¬aK ao j) wr W':=by
 have a1:Below wr wr (wr.alloc (.cells #[.int .u64 (x.toNat:Int)] 32)):=(aP _ _).alloc (aZ _) _;have hs1:(wr.alloc (.cells #[.int .u64 (x.toNat:Int)] 32)).heap.size=wr.heap.size+1:=by simp
 have x2:=aI.new wr #[.int .u64 (x.toNat:Int)] 32;have q2:=q1.af (W':=wr.alloc (.cells #[.int .u64 (x.toNat:Int)] 32)) a1.size (λ g hg=>a1.block g (q1.lt hg));obtain⟨g',c2,W',e1,r1,o1⟩:=ER (vs:=[x]) q2 (YZ (S:=λ _=>True) x2 trivial) (by simp) hY;refine⟨g',c2,W',e1,r1,?_,?_⟩
 ·rcases o1 with⟨h1,_⟩|⟨h1,_⟩
  ·exact .inl h1
  exact .inr (by rw[h1,hs1];omega)
 refine(Kept.of_below a1 (λ j (hj:j<wr.heap.size/\¬aK ao j)=>hj.1)).trans ?_;rcases o1 with⟨h1,ho⟩|⟨h1,hb⟩
 ·exact⟨ho.os,ho.tape,ho.output,ho.size,λ j hj=>ho.block j (by omega) (λ e=>hj.2 (e▸h1))⟩
 exact Kept.of_below hb (λ j hj=>by rw[hs1];omega)
end
section
variable{E:Nat->Prop}{W W':World}{P D T rt aC k:Nat}{A:AP}
theorem xoh(P:Nat)(rt:Int)(W:World) :
  Calls Tryz.prog 53 #[.pointer P,.int .i64 rt] W λ e w'=>e= .returned (.pointer W)/\w'=W.alloc (.cells #[.pointer P,.int .i64 rt] 126):=by
 go_enter Tryz.func53,Tryz.ntmps53
 go_wp2;go_ret
 exact⟨rfl,rfl⟩
theorem xls{P:Nat}{rt:Int}(h:aI W T #[.pointer P,.int .i64 rt]) :
  Calls Tryz.prog 59 #[.pointer T] W λ e w'=>e= .returned (.int .i64 rt)/\w'=W:=by
 have c1:=h.c1;clear h
 go_enter Tryz.func59,Tryz.ntmps59
 go_wp2;go_ret
 exact⟨rfl,rfl⟩
def GM(E:Nat->Prop)(W w':World)(P D rt aC k:Nat)(A:AP)(e:Ending):Prop:=
 ∃Q T,e= .returned (.tuple #[.pointer (some ⟨Q,0,none⟩),.int .i64 0])/\W.heap.size<=Q/\W.heap.size<=T/\Q≠T/\aD (λ j=>E j\/j=Q\/j=T) w' P D Q T rt aC A k/\Kept E W w'
theorem WZ(h:PZ E W P D A k)(hk:k+2<900000000)(hp:A.Has rt)(ht:n32 (A.c rt) 496=aC) :
  Calls Tryz.prog 19 #[.pointer P,.int .i64 rt] W λ e w'=>GM E W w' P D rt aC (k+2) A e:=by
 have HP:=zH (CS h hk rt hp);have HT:=zH ht;clear h ht
 go_enter_defers Tryz.func19,Tryz.ntmps19
 go_wp2_with fail
 refine HP.out.mono ?_;rintro e w1 ⟨fb,db,cap,rfl,p1,k1⟩;have HB:=zH (Oe p1);obtain⟨y,y1,y2,y3,y4,y5⟩:=p1.bytes;have hy:n32 y 496=aC:=by rw[<-Ot y 496 (by omega),y3];exact HT.out
 have g4:Calls Tryz.prog 48 #[.slice (db,496) 8 (cap-496)] w1 λ e w'=>e= .returned (.int .u32 ((n32 y 496:Nat):Int))/\∃m,w'=w1.drewN m:=EI y1 496 8 (cap-496) (by omega) (by omega);have htl:=CW y 496;rw[hy]at g4 htl;have hu0:(0:Int)<=(aC:Int):=by omega
 have uw:IntKind.i64.wrap (aC:Int)=(aC:Int):=by rw[bN];omega
 have i3:¬(cap=496):=by omega
 have i4:496<=cap:=by omega
 have i5:(496:Int)<=(cap:Int):=by omega
 have HG:=zH g4;have H1:=zH (zA p1 k1);clear HP p1 k1 y1 y2 y3 y4 y5 hy g4
 go_wp2_with fail
 refine HB.out.mono ?_;rintro e wa ⟨rfl,rfl⟩;clear HB
 go_wp2_with fail
 refine HG.out.mono ?_;rintro e w2 ⟨rfl,q,hw2⟩;obtain⟨p1,k1⟩:=H1.out;have b2:Below wa wa w2:=by rw[hw2];exact UK.aG (aP _ _) q
 clear HG hw2;have p2:=p1.next b2;have k2:=k1.trans (p1.kept b2);have H2:=zH (zA p2 k2);clear H1 p1 k1 b2 p2 k2
 go_wp2_with fail
 refine(xoh P aC w2).mono ?_;rintro e w3 ⟨rfl,hw3⟩;obtain⟨p2,k2⟩:=H2.out;have b3:Below w2 w2 w3:=by rw[hw3];exact(aP _ _).alloc (aZ _) _
 have z3:w3.heap.size=w2.heap.size+1:=by rw[hw3];simp
 have x3:aI w3 w2 #[.pointer P,.int .i64 (aC:Int)]:=by rw[hw3];exact aI.new w2 _ _
 clear hw3;have b4:Below w3 w3 (w3.alloc (.cells #[.pointer P,.int .i64 (rt:Int),.pointer w2] 70)):=(aP _ _).alloc (aZ _) _;have z4:(w3.alloc (.cells #[.pointer P,.int .i64 (rt:Int),.pointer w2] 70)).heap.size=w2.heap.size+2:=by simp[z3]
 have x4:=aI.new w3 #[.pointer P,.int .i64 (rt:Int),.pointer w2] 70;have Ut:=b3.trans (b4.mono b3.size);have p4:=p2.wide Ut (T:=λ j=>E j\/(w2.heap.size<=j/\j<w2.heap.size+2)) (λ j hj=>by rw[z4];exact hj);have k4:=k2.trans (p2.kept Ut);have x34:=x3.next b4;have HU:=zH (sK .returning p4);have H4:=zH (zA x34 (zA x4 (zA k4 k2.size)));have Z3:=zH z3;clear H2 p2 k2 b3 x3 b4 x4 Ut p4 k4 x34 z3 z4;go_wp2;refine leaves_cons (f:=51) (args:= #[.pointer fb]) (by simp) (by simp[go_sem]) ?_;refine HU.out.mono ?_;rintro e u' w5 ⟨rfl,rfl,p5,k5⟩;obtain⟨x3,x4,k4,hs2⟩:=H4.out;refine⟨_,results_tmp2 rfl _ _ _,?_⟩;have z3:=Z3.out;have hs:aD (λ j=>E j\/(w2.heap.size<=j/\j<w2.heap.size+2)) w5 P D w3 w2 rt aC A (k+2):=⟨p5,x4.af (k5.block _ (.inr ⟨by omega,by omega⟩)),x3.af (k5.block _ (.inr ⟨by omega,by omega⟩)),.inr ⟨by omega,by omega⟩,.inr ⟨by omega,by omega⟩⟩;exact⟨w3.heap.size,w2.heap.size,rfl,by omega,hs2,by omega,hs.less (.inr (.inl rfl)) (.inr (.inr rfl)) (λ j hj=>hj.imp id (λ h=>by omega)),k4.trans (k5.mono (λ j hj=>.inl hj))⟩
end
def uR(X:List UInt64)(f v t:Nat):List UInt64:=(X.take f++X.drop (f+v)).take t++(X.drop f).take v++(X.take f++X.drop (f+v)).drop t
section
variable{E F:Nat->Prop}{W W':World}{P D Q T rt aC k nb e d:Nat}{A A':AP}{n n0:Sn}{qs:List Nat}{m:List KV}{s s0:SS}{X R Z:List UInt64}
theorem RI.uniq(h:RI A rt aC m qs d s n):s.l.Nodup:=h.zi.rv.uq
def Bc(E:Nat->Prop)(W wr:World)(P D Q T rt aC k:Nat)(A:AP)(X:List UInt64)(f j:Nat)(ao:Option Addr)(c:Nat):Prop:=
 ∃A' m' bK e' s' n',aD (λ i=>E i\/aK ao i) wr P D Q T rt aC A' (k+150000*j)/\Kept E W wr/\RI A' rt aC m' bK e' s' n'/\s'.l=X.take f++X.drop (f+j)/\NR wr ao c (aF ((X.drop f).take j))/\((X.drop f).take j).length=j/\(∀g,aK ao g->W.heap.size<=g)/\A.Reach A'/\A.ay<=A'.ay
def yG(E:Nat->Prop)(W wr:World)(P D Q T rt aC k:Nat)(A:AP)(R Z:List UInt64)(t j:Nat)(ao:Option Addr)(c:Nat):Prop:=
 ∃A' m' bK e' s' n',aD (λ i=>E i\/aK ao i) wr P D Q T rt aC A' (k+70000*j)/\Kept E W wr/\RI A' rt aC m' bK e' s' n'/\s'.l=R.take t++Z.take j++R.drop t/\NR wr ao c (aF Z)/\(∀g,aK ao g->W.heap.size<=g)/\A.Reach A'/\A.ay+2<=A'.ay+s'.ps.length+bK.length
def Mq(E:Nat->Prop)(W w':World)(P D Q T rt aC k:Nat)(A:AP)(l:List UInt64):Prop:=
 ∃A' m' bK e' s' n',aD E w' P D Q T rt aC A' k/\Kept E W w'/\RI A' rt aC m' bK e' s' n'/\s'.l=l/\A.Reach A'/\A.ay+2<=A'.ay+s'.ps.length+bK.length
theorem Bc.next{wr w2:World}{f j:Nat}{ao:Option Addr}{c:Nat}{id:UInt64}{A1:AP}{s1:SS}(hE:∀i,E i->i<W.heap.size)(hQ:E Q)(hT:E T)(htab:0 <W.heap.size)(hid:X[f+j]?=some id)(hl:s1.l=X.take f++X.drop (f+j))(kp:Kept E W wr)(hnr:NR wr ao c (aF ((X.drop f).take j)))(aJ:((X.drop f).take j).length=j)(hnew:∀g,aK ao g->W.heap.size<=g)(hX:X.length<=1000)(hre:A.Reach A1)(hro:A.ay<=A1.ay)
  (hd:mK (λ i=>E i\/aK ao i) wr w2 P D Q T rt aC (k+150000*j+150000) A1 (s1.l.take f++s1.l.drop (f+1))) :
  ∃g' c2 W',(Builtin.append_ #[27,27] 27 #[.slice ao j c,.slice w2 1 1]).run Tryz.prog (w2.alloc (.cells #[.int .u64 (id.toNat:Int)] 32))= .ok (.slice (some ⟨g',0,none⟩) (j+1) c2) W'/\Bc E W W' P D Q T rt aC k A X f (j+1) (some ⟨g',0,none⟩) c2:=by
 obtain⟨A',m',bK,e',s',n',a1,a2,a3,a4,a5,a6⟩:=hd;have hfl:=(dn.1 hid).1;have uH:=hnr.af a2.size (λ g hg=>a2.block g (.inr hg));obtain⟨g',c2,W',e1,r1,hg,hk⟩:=xxk id uH (by omega);rw[aJ]at e1;have htk:(X.drop f).take (j+1)=(X.drop f).take j++[id]:=by rw[ow,iC,hid];rfl
 have hgW:W.heap.size<=g':=by
  rcases hg with h|h
  ·exact hnew _ h
  exact bf kp.size (bf a2.size h)
 have hW2:W.heap.size<=w2.heap.size:=bf kp.size a2.size;have hown:=a1.own (B:=aK ao) (λ i hi=>.inr hi) (λ hb=>by have:=hnew _ hb;have:=hE Q hQ;omega) (λ hb=>by have:=hnew _ hb;have:=hE T hT;omega) (λ hb=>by have:=hnew _ hb;omega) hk;have hgl:=r1.lt;refine⟨g',c2,W',e1,A',m',bK,e',s',n',(aD.less (E':=λ i=>E i\/aK g' i) hown (.inl hQ) (.inl hT) (λ i hi=>?_)).up (by omega),?_,a3,?_,.inr ⟨g',rfl,by rw[htk];exact r1⟩,by rw[htk,zl,aJ];rfl,λ g hg2=>by rw[gF hg2];exact hgW,hre.trans a5,bf hro a6⟩
 ·rcases hi with hi|hi
  ·exact .inl (.inl hi)
  rw[gF hi];rcases hg with h|h
  ·exact .inl (.inr h)
  exact .inr ⟨h,hgl⟩
 ·exact(kp.trans (a2.mono (λ i hi=>.inl hi))).trans (hk.mono (λ i hi=>⟨bS (hE i hi) hW2,λ hb=>by have:=hnew i hb;have:=hE i hi;omega⟩))
 have hl1:(X.take f).length=f:=by rw[zt];omega
 rw[a4,hl,List.take_left' hl1,List.drop_append,kz (by omega),hl1,uG,gH,List.drop_drop,Nat.add_assoc]
theorem yG.next{wr w2:World}{t j:Nat}{ao:Option Addr}{c:Nat}{id:UInt64}{A1:AP}{s1:SS}{rE:List Nat}(hid:Z[j]?=some id)(ht:t<=R.length)(hl:s1.l=R.take t++Z.take j++R.drop t)(kp:Kept E W wr)(hnr:NR wr ao c (aF Z))(hnew:∀g,aK ao g->W.heap.size<=g)(hre:A.Reach A1)(hro:A.ay+2<=A1.ay+s1.ps.length+rE.length)
  (hd:mF (λ i=>E i\/aK ao i) wr w2 P D Q T rt aC (k+70000*j+70000) A1 (A1.ay+s1.ps.length+rE.length) (s1.l.take (t+j)++id::s1.l.drop (t+j))) :
  yG E W w2 P D Q T rt aC k A R Z t (j+1) ao c:=by
 obtain⟨A',m',bK,e',s',n',a1,a2,a3,a4,a5,a6⟩:=hd;have hjl:=(dn.1 hid).1;have hl1:(R.take t++Z.take j).length=t+j:=by rw[zl,zt,zt];omega
 refine⟨A',m',bK,e',s',n',a1.up (by omega),kp.trans (a2.mono (λ i hi=>.inl hi)),a3,?_,hnr.af a2.size (λ g hg=>a2.block g (.inr hg)),hnew,hre.trans a5,by omega⟩;rw[a4,hl,List.take_left' hl1,List.drop_left' hl1,ow,hid];simp
theorem xup{X:List UInt64}(h:X.Nodup)(f v:Nat)(Mr:f+v<=X.length):(∀x∈(X.drop f).take v,x∉X.take f++X.drop (f+v))/\((X.drop f).take v).Nodup/\((X.drop f).take v).length=v/\(X.take f++X.drop (f+v)).length+v=X.length:=by
 have e:X=X.take f++((X.drop f).take v++X.drop (f+v)):=by
  rw[<-List.drop_drop,gm,gm]
 have h2:=h;rw[e]at h2;obtain⟨a1,a2,a3⟩:=bF.1 h2;obtain⟨b1,b2,b3⟩:=bF.1 a2;refine⟨λ x hx hm=>?_,b1,by rw[zt,zd];omega,by rw[zl,zt,zd];omega⟩;rcases cB.1 hm with h4|h4
 ·exact a3 x h4 x (bR _ hx) rfl
 exact b3 x hx x h4 rfl
theorem xuq{R Z:List UInt64}{j t:Nat}{id:UInt64}(hid:Z[j]?=some id)(hZ:Z.Nodup)(Za:∀x∈Z,x∉R):id∉R.take t++Z.take j++R.drop t:=λ hm=>by
 have hmz:=fe hid;rcases cB.1 hm with hm|hm
 ·rcases cB.1 hm with hm|hm
  ·exact Za id hmz (fI hm)
  obtain⟨i,hi⟩:=List.getElem?_of_mem hm;rw[List.getElem?_take]at hi
  split at hi
  ·rename_i hij
   have h1:=(dn.1 hi);have h2:=(dn.1 hid);have:=(List.getElem_inj hZ).1 (h1.2.trans h2.2.symm);omega
  cases hi
 exact Za id hmz (fA hm)
end
end Go.Proofs.YtlipgbnnbefhjaaGreatDoor
