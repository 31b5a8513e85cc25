/- Facts on rows of numbers on pages. -/
import Derived.Test.YtlipgbnnbefhjaaGreatDoorKSsCc
set_option maxRecDepth 100000
set_option maxHeartbeats 8000000
set_option linter.unusedSimpArgs false
namespace Go.Proofs.YtlipgbnnbefhjaaGreatDoor
open Go.RowKit
open UK (str aO nth Only Row aI)
theorem xxv{ae:List Sb}{t:Sb}(h:t∈ae):t.ps.length<=(dZ ae).length:=by
 induction ae with
 | nil=>cases h
 | cons x r ih=>
  have e:(dZ (x::r)).length=x.ps.length+(dZ r).length:=by simp[dZ]
  rw[e];rcases aX.1 h with rfl|h
  ·omega
  have:=ih h;omega
theorem Tr.path{f:Nat->Option Nd}:∀(d:Nat) (s:Sb),Tr f d s->d+1<=s.ps.length
 | 0,s,⟨ks,vs,h1,h2,h3,h4,h5⟩=>by rw[h5];simp
 | d+1,s,⟨ai,ae,h1,h2,h3,h4⟩=>by
  have h5:=h2.len
  obtain⟨t,ht⟩:∃t,t∈ae:=by
   cases ae with
   | nil=>simp at h5
   | cons t r=>exact⟨t,by simp⟩
  have h6:=Tr.path d t (h2.all t ht).1;have h7:=xxv ht;rw[h4,dw];omega
theorem xxw{k v:UInt64}{rt d:Nat}{A B:AP}{e:Int}{s:Sb}(h:sS k v rt d A B e)(hT:Tr (aH A) d s)(cK:s.pg=rt)(ht:TI A rt s.l s.ps)(hg:A.Good)(hc:∀p,A.Has p->(A.c p).length=504) :
  (e=0/\nE A B rt (fZ s.l k v) s.ps)\/(e=6/\A.Reach B/\A.ay<=20/\A.ay<=s.ps.length+1):=by
 have hp:=Tr.path d s hT;rcases Sc h hT cK ht hg hc with h0|⟨h1,h2,h3⟩
 ·exact .inl h0
 refine .inr ⟨h1,h2,h3,?_⟩
 cases h with
 | same _=>exact absurd h1 (by decide)
 | @bad more B κ e hp2 he=>
  have:=(Zu hp2 he s hT cK ht.eY ht.has hg hc).2.2;omega
 | @full more B κ hp2 hm hf=>
  obtain⟨new,hO⟩:=Gs hp2 rfl s hT cK ht.eY ht.has hg hc;have h4:=hO.gG.ay;have h5:=(hO.gG.good hg).full.1 hf;have h6:=hO.few;omega
 | grow _ _ _ _ _=>exact absurd h1 (by decide)
def ybn(E:Nat->Prop)(W w':World)(P D T rt:Nat)(A:AP)(K:Nat)(l:List KV)(ps:List Nat)(e:Ending):Prop:=
 ∃(B:AP) (er:Int) (kk:Nat),e= .returned (.int .i64 er)/\((er=0/\nE A B rt l ps)\/(er=6/\A.Reach B/\A.ay<=20/\A.ay<=ps.length+1))/\bL E w' P D T rt B kk/\kk<=K/\Kept E W w'
section
variable{E:Nat->Prop}{W:World}{P D T k rt:Nat}{A:AP}{l:List KV}{ps:List Nat}
theorem xrq(h:bL E W P D T rt A k)(hk:k+1100<900000000)(ht:TI A rt l ps)(hg:A.Good)(hc:∀p,A.Has p->(A.c p).length=504)(key v:UInt64) :
  Calls Tryz.prog 62 #[.pointer T,.int .u64 key.toNat,.int .u64 v.toNat] W λ e w'=>ybn E W w' P D T rt A (k+1100) (fZ l key v) ps e:=by
 obtain⟨d,s,hT,cK,rfl,rfl⟩:=ht.ex;exact(Sa h hk hT cK ht hg hc key v).mono λ e w' ⟨B,er,kk,he,hs,hq⟩=>⟨B,er,kk,he,xxw hs hT cK ht hg hc,hq⟩
end
def Ms(A:AP)(l ml q:Nat):Prop:=ml+1100<=14*(A.ay+q)\/(l<=20/\4<=A.ay)
section
variable{B E F:Nat->Prop}{W W':World}{P D Q T rt aC k nb e d i r pg:Nat}{A A':AP}{n n0:Sn}{qs:List Nat}{m:List KV}{C:List bV}{s s0:SS}{ka va aa:Option Addr}{kc vc ac:Nat}{aA:List UInt64}
theorem xrr(hQ:E Q)(hT:E T)(h:aD (λ i=>E i\/B i) W P D Q T rt aC A k)(hn:eD B W nb n ka va aa kc vc ac)(hz:ZI A rt aC m qs C e s n)(hsz:n.size<=n.ax)(dR:C≠[]->dD n)(fO:n.leaf=false->2<=n.ah.length)(hd:C.length<=19)(hk:k+100000<800000000) :
  Calls Tryz.prog 63 #[.pointer Q,.int .i64 s.pg,.pointer nb] W λ e' w'=>e'= .returned (.int .i64 0)/\mF E W w' P D Q T rt aC (k+1100*n.aA.length+9000) A (A.ay+(s.ps.length+(aT C).length)+qs.length) (bP (dE C s.lv)):=by
 have HZ:=zH (tX (hn.reads.mono (T:=λ i=>E i\/B i) (λ g hg=>.inr hg)) (hz.Ar (by omega)));have HM:=zH (λ q=>EG (hn.reads.kept (Kept.of_below (UK.aG (aP W W) q) (λ i hi=>h.pz.there i (.inr hi)))));have hle2:(n.size:Int)<=(n.ax:Int):=by omega
 have HX:=zH (zA hQ (zA hT (zA h (zA hn (zA hz (zA hsz (zA dR (zA fO (zA hd hk)))))))));clear h hn hz hsz dR fO hQ hT hd hk;obtain⟨Df,qH⟩:∃x,s.pg=x:=⟨_,rfl⟩;rw[qH];replace qH:=zH qH
 go_enter Tryz.func63,Tryz.ntmps63
 go_wp2_with fail
 go_loopw [14,1,2] (λ ix pv nv wr=>ix= .int .i64 0/\pv= .int .i64 Df/\nv= .pointer nb/\wr=W) (λ _ _ _ _=>0)
 case atStart=>exact⟨rfl,rfl,rfl,rfl⟩
 obtain⟨rfl,rfl,rfl,rfl⟩:=hrel
 go_wp2_with fail
 refine HZ.out.mono ?_;rintro e' w2 ⟨rfl,q,rfl⟩;clear HZ
 go_wp2_with fail
 refine(HM.out q).mono ?_;rintro e' w2 ⟨rfl,rfl⟩;clear HM
 have HG:Hid (Calls Tryz.prog 99 #[.pointer Q,.int .i64 Df,.pointer nb] (wr.drewN q) λ e' w'=>e'= .returned (.int .i64 0) /\
  Calls Tryz.prog 100 #[.pointer Q,.int .i64 Df,.pointer nb] w' λ e' w'=>e'= .returned (.int .i64 0)/\mF E wr w' P D Q T rt aC (k+1100*n.aA.length+9000) A (A.ay+(s.ps.length+(aT C).length)+qs.length) (bP (dE C s.lv))):=by
  obtain⟨hQ,hT,hs0,hn0,hz,hsz,dR,fO,hd,hk⟩:=HX.out;have bq:Below wr wr (wr.drewN q):=UK.aG (aP _ _) q;have hs:=hs0.next bq;have kp:=Kept.of_below bq (λ i (hi:E i)=>hs0.pz.there i (.inl hi));have hn:=hn0.kept bq.size (λ g _ hg=>bq.block g hg);rw[<-qH.out];exact zH (Yw (A:=A) (W:=wr) (K:=k+1100*n.aA.length+9000) hQ hT hd hs (by omega) (by omega) kp (hn.reads.mono (T:=λ i=>E i\/B i) (λ g hg=>.inr hg)) hz (hz.fits hsz) dR fO (AP.Reach.refl A))
 clear HX
 go_wp2_with fail
 refine HG.out.mono ?_;rintro e' w3 ⟨rfl,h3⟩;replace h3:=zH h3;clear HG
 go_wp2_with fail
 refine h3.out.mono ?_;rintro e' w4 ⟨rfl,h4⟩;have H4:=zH h4;clear h3 h4;go_wp2;go_ret;exact⟨rfl,H4.out⟩
theorem xu0{w4:World}{ι:Nat}{id:UInt64}{B4:Nat->Prop}(hQ:E Q)(hT:E T)(dG:∀j,B4 j->¬E j)(eF:¬B4 0)(h:aD (λ j=>E j\/B4 j) w4 P D Q T rt aC A' (k+1190))(kp:Kept E W w4)(hn:eD B4 w4 nb ⟨true,aL C,aA.take r++id::aA.drop r,[],[]⟩ ka va aa kc vc ac)(hk:k+200000<800000000)
  (hz:dX A rt aC m qs d s0 ι d C ⟨pg,[(pg,aA)],[pg]⟩ ⟨true,aL C,aA,[],[]⟩ r) (hr:r<=aA.length) (hd:d<=16) (hid:id∉s0.l) (hp:nE A A' aC (fZ m id (UInt64.ofNat pg)) qs) (aY:Ms A s0.l.length m.length qs.length) :
  Calls Tryz.prog 63 #[.pointer Q,.int .i64 pg,.pointer nb] w4 λ e' w'=>e'= .returned (.int .i64 0)/\mF E W w' P D Q T rt aC (k+70000) A (A.ay+s0.ps.length+qs.length) (s0.l.take ι++id::s0.l.drop ι):=by
 rcases aY with aY|aY
 ·exact xxe hQ hT dG eF h kp hn hk hz hr hd hid hp aY
 obtain⟨_,_,_,hzi,_⟩:=hz.leaf rfl;obtain⟨bK,z1,z2,z3,z4⟩:=hz.ins hzi hr hid hp;have h48:=((nT hz.at_).leaf rfl).1;dsimp only at h48;have hsz:(⟨true,aL C,aA.take r++id::aA.drop r,[],[]⟩:Sn).size=aA.length+1:=by simp[Sn.size];omega
 have hil:(aA.take r++id::aA.drop r).length=aA.length+1:=by simp;omega
 have aJ:=congrArg List.length hz.nums;rw[zl,zl]at aJ;have hpm:=hz.pm.length_eq;rw[zl]at hpm;dsimp only at hpm;refine(xrr hQ hT h hn z1 (by rw[hsz];show _<=48;omega) (λ hC=>?_) (λ hl=>by cases hl) (by rw[hz.len];omega) (by omega)).mono ?_
 ·have:=hz.Jm hC;unfold dD Sn.ax Sn.size at this;unfold dD;rw[hsz];simp at this;show 48/2<=_;omega
 rintro e' w' ⟨rfl,hR⟩;refine⟨rfl,hR.from kp z2 ?_ ?_ z4⟩
 ·show k+1190+1100*(aA.take r++id::aA.drop r).length+9000<=_;rw[hil];omega
 dsimp only;omega
theorem Zb(h:aD E W P D Q T rt aC A k)(hr:RI A rt aC m qs d s0 n0)(hk:k+300000<800000000)(aY:Ms A s0.l.length m.length qs.length)(i:Int)(hi:i<4611686018427387904)(id:UInt64) :
  Calls Tryz.prog 23 #[.pointer Q,.int .i64 i,.int .u64 id.toNat] W λ e w'=>Ay E W w' P D Q T rt aC (k+70000) A qs s0 i id e:=by
 by_cases hi0:i<0
 ·have HF:Hid (Ay E W W P D Q T rt aC (k+70000) A qs s0 i id (.returned (.int .i64 1))):=zH ⟨1,rfl,.inl ⟨rfl,.inl hi0,h.up (by omega),Kept.of_below (aP _ _) h.pz.there⟩⟩;clear h hr aY
  go_enter Tryz.func23,Tryz.ntmps23
  go_wp2;go_ret
  exact HF.out
 obtain⟨ι,rfl⟩:∃ι:Nat,i=ι:=⟨i.toNat,by omega⟩;have hdp:=hr.deep;have hti:=hr.zi.rp.tree;have hval:=hr.zi.rv.val hti.rise id;have hG:=Y3 h.tree (by omega) hti hr.zi.rp.good id;have c2:=h.box.c2;have HG:=zH hG;have HH:=zH (zA h (zA hr (zA aY hval)));clear h hr aY hval hti hG
 go_enter Tryz.func23,Tryz.ntmps23
 go_wp2_with fail
 refine HG.out.mono ?_;rintro e w1 ⟨rfl,ht1,k1⟩;obtain⟨h,hr,aY,hv1,hv2⟩:=HH.out;have hs1:=h.sV ht1 k1;have HD:=zH (OI hs1 hr (by omega) (show ι<9223372036854775808 by omega));have H1:=zH (zA hs1 k1)
 obtain⟨th,v0,hth,hmem⟩:∃(th:Bool) (v0:Nat),OM (iV m id)= .tuple #[.int .u64 v0,.bool th,.int .i64 0]/\(th=true↔id∈s0.l):=by
  by_cases hm:id∈s0.l
  ·obtain⟨x,_,_,hx⟩:=hv1 hm;rw[hx];exact⟨true,_,rfl,by simp[hm]⟩
  rw[hv2 hm];exact⟨false,0,rfl,by simp[hm]⟩
 rw[hth];have HM:=zH hmem;clear HG h hr aY hv1 hv2 ht1 k1 hs1 c2 hth hmem
 go_wp2_with fail
 refine HD.out.mono ?_;rintro e w2 ⟨B,nb,ka,va,aa,kc,vc,ac,C,pg,aA,r,rfl,hB,hb,hs2,k2,hz⟩;clear HD;obtain⟨hs1,k1⟩:=H1.out;have hE2:aD E w2 P D Q T rt aC A (k+50+40):=hs2.less hs1.mem hs1.fH (λ _ hj=>.inl hj);have gy:=k1.trans k2;obtain⟨hp1,hp2,_⟩:=hz.place;have h48:=((nT hz.at_).leaf rfl).1;dsimp only at h48;have d2:=hb.1.box.c2;by_cases hrl:aA.length<r
 ·have HF:Hid (Ay E W w2 P D Q T rt aC (k+70000) A qs s0 ι id (.returned (.int .i64 1))):=zH ⟨1,rfl,.inl ⟨rfl,.inr (by have:=hp2 hrl;omega),hE2.up (by omega),gy⟩⟩;have hrl2:(aA.length:Int)<(r:Int):=by omega
  clear HH HM hB hb hs2 k2 hz hs1 k1 hE2 gy hp1 hp2 H1 hrl;go_wp2;go_ret;exact HF.out
 have hrl2:¬(aA.length:Int)<(r:Int):=by omega
 have hle:=hp1 (by omega)
 cases th with
 | true=>
  have HF:Hid (Ay E W w2 P D Q T rt aC (k+70000) A qs s0 ι id (.returned (.int .i64 5))):=zH ⟨5,rfl,.inr (.inl ⟨rfl,by omega,by omega,HM.out.1 rfl,hE2.up (by omega),gy⟩)⟩;clear HH HM hB hb hs2 k2 hz hs1 k1 hE2 gy hp1 hp2 H1;go_wp2;go_ret;exact HF.out
 | false=>
  have hid:id∉s0.l:=λ hm=>by have:=HM.out.2 hm;cases this
  have HI:=zH (λ (wa:World) (vb:Nat) (ba:Below w2 w2 wa) (hv:aI wa vb #[.int .u64 (id.toNat:Int)]) (hvb:w2.heap.size<=vb)=>xz1 hb (show aA.length<=1000 by omega) (r:=r) (show r<=aA.length by omega) ba hv hvb);have H2:=zH (zA hB (zA hs2 (zA k2 (zA hz hid))));clear hB hb hs2 k2 hz hs1 k1 hE2 hp1 hp2 hid;have abd:r<=48:=by omega
  have hrl:r<=aA.length:=by omega
  go_wp2_with fail
  refine(HI.out _ _ ?_ ?_ ?_).mono ?_
  ·(repeat (first|with_reducible exact aP _ _|with_reducible apply gW|with_reducible apply gQ))
  ·(repeat (first|(focus ((with_reducible refine mG ?_);simp;done))|with_reducible apply dQ|with_reducible apply dS))
  ·exact aZ _
  rintro e w3 ⟨g,c,rfl,hfz,⟨v3,hc3⟩,B3,hB3,hb3,k3⟩;have H3:=zH (zA hB3 (zA hb3 k3));clear HI d2 hB3 hb3 k3;obtain⟨hB,hs2,k2,hz,hid⟩:=H2.out;obtain⟨hs1,k1⟩:=H1.out;obtain⟨hB3,hb3,k3⟩:=H3.out;have hEl:∀j,E j->j<w1.heap.size:=hs1.pz.there;have dG:∀j,B j->¬E j:=λ j hb he=>by have:=hB j hb;have:=hEl j he;omega
  have eF:¬B 0 :=λ hb=>by have:=hB _ hb;have:=hs1.pz.tab.lt;omega
  have hs3:=hs2.own (B:=B) (λ j hj=>.inr hj) (λ hb=>dG Q hb hs1.mem) (λ hb=>dG T hb hs1.fH) eF k3;have vP:Kept E W (w3.setCell (nb,2) (.slice g (aA.length+1) c)):=gy.trans (k3.mono (λ j hj=>⟨bS (hEl j hj) k2.size,λ hb=>dG j hb hj⟩))
  have mM:aD (λ j=>E j\/B3 j) (w3.setCell (nb,2) (.slice g (aA.length+1) c)) P D Q T rt aC A (k+50+40):=hs3.less (.inl hs1.mem) (.inl hs1.fH) (λ j hj=>by
   rcases hj with hj|hj
   ·exact .inl (.inl hj)
   rcases(hB3 j).1 hj with hj|hj
   ·exact .inl (.inr hj)
   exact .inr hj)
  have Bj:∀j,B3 j->¬E j:=λ j hb he=>by
   rcases(hB3 j).1 hb with hj|hj
   ·exact dG j hj he
   have:=hEl j he;have:=k2.size;omega
  have Bl:¬B3 0 :=λ hb=>by
   rcases(hB3 _).1 hb with hj|hj
   ·exact eF hj
   have:=hs2.pz.tab.lt;omega
  have hq2:=mM.box.c2;obtain⟨_,hr,aY,_⟩:=HH.out;have hti:=hr.zi.rp.tree
  have abe:pg<60000:=by
   obtain⟨e,_,hzz⟩:=hz.zi;exact hzz.Ap.2
  have ry:((UInt64.ofNat pg).toNat:Int)=(pg:Int):=by rw[UInt64.toNat_ofNat_of_lt' (by show pg<18446744073709551616;omega)]
  have hpw:IntKind.u64.wrap (pg:Int)=(pg:Int):=by rw[IntKind.wrap_u64];omega
  have hput:=xrq mM.tree (by omega) hti hr.zi.rp.good hr.zi.rp.len id (UInt64.ofNat pg);rw[ry]at hput;have Ai:=zH hput;have H4:=zH (zA mM (zA vP (zA hb3 (zA Bj Bl))));clear hB hs2 k2 hz hid hs1 k1 hB3 hb3 k3 hEl dG eF hs3 vP mM Bj Bl hr aY hti hput gy ry;have hp0:(0:Int)<=(pg:Int):=by omega
  go_wp2_with fail
  clear hfz hc3;generalize w3.setCell (nb,2) (.slice g (aA.length+1) c)=w4 at *;refine Ai.out.mono ?_;rintro e w5 ⟨A5,er,kk,rfl,hor,Mo,hkk,k5⟩;obtain⟨mM,vP,hb3,Bj,Bl⟩:=H4.out;obtain⟨h0,hr,aY,_⟩:=HH.out;obtain⟨hB,hs2,k2,hz,hid⟩:=H2.out;have rP:=hr.zi.rp.tree.many;obtain⟨rfl,hpo⟩|⟨_,_,hno,iK⟩:=hor
  ·have HL:=zH (xu0 h0.mem h0.fH Bj Bl ((mM.sV Mo k5).up (k':=k+1190) (by omega)) (vP.trans (k5.mono (λ j hj=>.inl hj))) (hb3.by k5 (λ j hj=>.inr hj)) (by omega) hz (by omega) hdp hid hpo aY);have Uo:=zH hid;clear Ai H4 HH H2 H1 H3 HM mM vP hb3 Bj Bl h0 hr aY hB hs2 k2 hz hid rP Mo k5 hpo hq2
   go_wp2_with fail
   refine HL.out.mono ?_;rintro e w6 ⟨rfl,hR⟩;have HF:Hid (Ay E W w6 P D Q T rt aC (k+70000) A qs s0 ι id (.returned (.int .i64 0))):=zH ⟨0,rfl,.inr (.inr ⟨rfl,ι,rfl,hle,Uo.out,hR⟩)⟩;clear HL hR;go_wp2;go_ret;exact HF.out
  exfalso;have o7:=hr.zi.rv.count hr.zi.rp.tree.rise;have abf:s0.l.length=m.length:=o7;rcases aY with aY|aY
  ·omega
  omega
end
end Go.Proofs.YtlipgbnnbefhjaaGreatDoor
