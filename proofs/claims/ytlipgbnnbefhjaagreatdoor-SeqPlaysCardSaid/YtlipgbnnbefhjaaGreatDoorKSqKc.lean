/- Facts on rows of numbers on pages. -/
import Derived.Test.YtlipgbnnbefhjaaGreatDoorKSqGc
set_option maxRecDepth 100000
set_option maxHeartbeats 8000000
set_option linter.unusedSimpArgs false
namespace Go.Proofs.YtlipgbnnbefhjaaGreatDoor
open Go.RowKit
open UK (str aO nth Only Row aI)
def SnM(N M:Nat)(W:World)(nb:Nat)(x:Sn)(ka va aa:Option Addr)(kc vc ac:Nat):Prop:=lS N W nb x ka va aa kc vc ac/\nb<M/\∀g,aK ka g\/aK va g\/aK aa g->g<M
theorem gK.kept{S:Nat->Prop}{W W':World}{nb:Nat}{x:Sn}(h:gK S W nb x)(k:Kept S W W'):gK S W' nb x:=by
 obtain⟨iv,kv,cv,hb,hn,h1,h2,h3⟩:=h;exact⟨iv,kv,cv,hb.af (k.block nb hn),hn,h1.kept k,h2.kept k,h3.kept k⟩
theorem gK.mono{S T:Nat->Prop}{W:World}{nb:Nat}{x:Sn}(h:gK S W nb x)(hT:∀g,S g->T g):gK T W nb x:=by
 obtain⟨iv,kv,cv,hb,hn,h1,h2,h3⟩:=h;exact⟨iv,kv,cv,hb,hT _ hn,h1.mono hT,h2.mono hT,h3.mono hT⟩
section
variable{E:Nat->Prop}{W W':World}{P D T k pg n:Nat}{root:Int}{tv:Value}{A:AP}{x:Sn}
def xzx(E:Nat->Prop)(W w':World)(P D:Nat)(A:AP)(k:Nat)(x:Sn)(e:Ending):Prop:=
 ∃N M nb ka va aa kc vc ac,e= .returned (.tuple #[.pointer (some ⟨nb,0,none⟩),.int .i64 0])/\W.heap.size<=N/\M<=w'.heap.size/\SnM N M w' nb x ka va aa kc vc ac/\PZ (λ j=>E j\/(N<=j/\j<M)) w' P D A k/\Kept E W w'
theorem ya9(h:PZ E W P D A k)(hk:k+2<900000000)(hb:aI W T #[.pointer P,.int .i64 root,tv])(hp:A.Has pg)(hy:aU A pg=some x) :
  Calls Tryz.prog 32 #[.pointer T,.int .i64 pg] W λ e w'=>xzx E W w' P D A (k+2) x e:=by
 have c0:=hb.c0;have HP:=zH (CS h hk pg hp);clear h hb
 go_enter_defers Tryz.func32,Tryz.ntmps32
 go_wp2_with fail
 refine HP.out.mono ?_;rintro e w1 ⟨fb,db,cap,rfl,p1,k1⟩;have HB:=zH (Oe p1);obtain⟨y,y1,y2,y3,y4,y5⟩:=p1.bytes
 have hy2:jT y=some x:=by
  rw[<-xtx,y3];exact hy
 have hD:=xw7 y1 y2 y4 hy2;have HD:=zH hD;have H1:=zH (zA p1 k1);clear HP p1 k1 y1 y2 y3 y4 y5 hy2 hD c0
 go_wp2_with fail
 refine HB.out.mono ?_;rintro e w2 ⟨rfl,rfl⟩
 go_wp2_with fail
 refine HD.out.mono ?_;rintro e w3 ⟨nb,ka,va,aa,kc,vc,ac,rfl,hn,hbl⟩;obtain⟨p1,k1⟩:=H1.out
 have hlt:∀g,aK ka g\/aK va g\/aK aa g->g<w3.heap.size:=λ g hg=>by
  rcases hg with h|h|h
  ·exact hn.k.lt h
  ·exact hn.v.lt h
  exact hn.a.lt h
 have hnb:=hn.box.lt;have p3:=p1.wide hbl (T:=λ j=>E j\/(w2.heap.size<=j/\j<w3.heap.size)) (λ j hj=>hj);have k3:=k1.trans (p1.kept hbl);have hs2:=k1.size;have HU:=zH (sK .returning p3);have HN:=zH (zA hn (zA hlt (zA hnb (zA k3 hs2))));clear HB HD H1 p1 k1 hn hbl hlt hnb p3 k3 hs2;go_wp2;refine leaves_cons (f:=51) (args:= #[.pointer fb]) (by simp) (by simp[go_sem]) ?_;refine HU.out.mono ?_;rintro e u' w4 ⟨rfl,rfl,p4,k4⟩;obtain⟨hn,hlt,hnb,k3,hs2⟩:=HN.out;refine⟨_,results_tmp2 rfl _ _ _,?_⟩;refine⟨w2.heap.size,w3.heap.size,nb,ka,va,aa,kc,vc,ac,rfl,hs2,k4.size,⟨hn.af k4.size (λ g h1 h2=>k4.block g (.inr ⟨h1,h2⟩)),hnb,hlt⟩,p4,k3.trans (k4.mono (λ j hj=>.inl hj))⟩
theorem xzy{nb:Nat}{x:Sn}(h:PZ E W P D A k)(hk:k+3<900000000)(hb:aI W T #[.pointer P,.int .i64 root,tv])(hp:A.Has pg)(hn:gK E W nb x)(hx:bA x) :
  Calls Tryz.prog 99 #[.pointer T,.int .i64 pg,.pointer nb] W λ e w'=>e= .returned (.int .i64 0)/\PZ E w' P D (A.az pg (encS (A.c pg) x)) (k+3)/\Kept E W w':=by
 have c0:=hb.c0;have HP:=zH (CS h (by omega) pg hp);clear h hb
 go_enter_defers Tryz.func99,Tryz.ntmps99
 go_wp2_with fail
 refine HP.out.mono ?_;rintro e w1 ⟨fb,db,cap,rfl,p1,k1⟩;have HE:=zH (BN p1 (by omega));have wY:=zH (zA (hn.kept k1) k1);clear HP p1 k1 c0 hn
 go_wp2_with fail
 refine HE.out.mono ?_;rintro e w2 ⟨rfl,p2,k2⟩;obtain⟨bi,k1⟩:=wY.out;have hn2:=bi.kept k2;obtain⟨y,y1,y2,y3,y4,y5⟩:=p2.bytes;have HX:=zH (RQ hn2 hx y1 y2 y4 y5);have hy3:y.take 504=A.c pg:=y3;have htk:=RL y x (by omega) hx;rw[hy3]at htk;have hle:=Ah y x (by omega) hx;have H2:=zH (zA p2 (zA (k1.trans k2) (zA htk (hle.trans y2))));clear HE wY bi hn2 k1 k2 p2 y1 y2 y3 y4 y5 hy3 htk hle
 go_wp2_with fail
 refine HX.out.mono ?_;rintro e w3 ⟨rfl,b3,o3⟩;obtain⟨p2,k2,htk,hle⟩:=H2.out;obtain⟨p3,k3⟩:=p2.write o3 b3 hle;rw[htk]at p3;have HU:=zH (sK .returning p3);have K3:=zH (k2.trans k3);clear HX H2 p2 k2 htk hle p3 k3 b3 o3;go_wp2;refine leaves_cons (f:=51) (args:= #[.pointer fb]) (by simp) (by simp[go_sem]) ?_;refine HU.out.mono ?_;rintro e u' w4 ⟨rfl,rfl,p4,k4⟩;refine⟨_,results_tmp rfl _ _ _,rfl,p4,K3.out.trans k4⟩
end
section
variable{E:Nat->Prop}{W W':World}{P D T k rt:Nat}{A:AP}{l:List KV}{ps:List Nat}
def OM:Option KV->Value
 | some x=>.tuple #[.int .u64 x.2.toNat,.bool true,.int .i64 0]
 | none=>.tuple #[.int .u64 0,.bool false,.int .i64 0]
theorem Y3(h:bL E W P D T rt A k)(hk:k+50<900000000)(ht:TI A rt l ps)(hg:A.Good)(key:UInt64) :
  Calls Tryz.prog 35 #[.pointer T,.int .u64 key.toNat] W λ e w'=>e= .returned (OM (iV l key))/\bL E w' P D T rt A (k+50)/\Kept E W w':=by
 obtain⟨d,s,hT,rfl,rfl,rfl⟩:=ht.ex;have yt:=O6 hT ht.eY ht.has hg;have t1:=h.box.c1;have HH:=zH (zA h (zA hT ht));clear h hT ht
 go_enter Tryz.func35,Tryz.ntmps35
 go_wp2_with fail
 go_loopw [7,16] (λ pv iv wr=>∃(j dt:Nat) (t:Sb),pv= .int .i64 t.pg/\iv= .int .i64 j/\j+dt<=16/\At A dt t/\iV s.l key=iV t.l key/\PZ E wr P D A (k+2*j)/\Kept E W wr) (λ _ iv _=>20-(intOf iv).toNat)
 case atStart=>
  obtain⟨h,hT,ht⟩:=HH.out;exact⟨0,d,s,rfl,rfl,by omega,⟨hT,ht.has⟩,rfl,h.pz,Kept.refl _ _⟩
 clear t1;obtain⟨j,dt,t,rfl,rfl,hj,hAt,hv,hp,hkp⟩:=hrel;obtain⟨h,hT,ht⟩:=HH.out;have hb:=h.box.af (hkp.block T h.mem);have abu:(j:Int)<20:=by omega
 have hjw:IntKind.i64.wrap ((j:Int)+1)=(j:Int)+1:=by rw[bN];omega
 have abv:wrap64 ((j:Int)+1)=(j:Int)+1:=by unfold wrap64;omega
 have cK:=hAt.has _ hAt.tr.mem
 cases dt with
 | zero=>
  obtain⟨ks,vs,h1,h2,h3,h4,h5⟩:=hAt.tr;have hfit:=(mE h1).leaf rfl;have HL:=zH (BU hp (by omega) hb cK h1);have HX:=zH (zA hv (zA h2 (zA h3 (zA h4 (zA hkp (zA hb (show ks.length<=30 from hfit.1)))))));clear hAt hp hb cK h1 h2 h3 h4 h5 hkp hv hfit h hT ht yt
  go_wp2_with fail
  refine HL.out.mono ?_;rintro e w1 ⟨N,M,nb,ka,va,aa,kc,vc,ac,rfl,hN,hM,⟨bi,gV,fT⟩,p1,k1⟩;obtain⟨hv,h2,h3,h4,hkp,hb,Nr⟩:=HX.out;have b0:=bi.box.c0;have b1:=bi.box.c1;have b2:=bi.box.c2;have hS:=J3 (bi.k.win (S:=λ _=>True) (λ _ _=>trivial)) h3 (show ks.length<=1000 by omega) key;rw[cz]at hS;have hF:bL E w1 P D T s.pg A (k+50)/\Kept E W w1:=⟨⟨(p1.less (λ _ hj=>.inl hj)).up (by omega),hb.af (k1.block T HH.out.1.mem),HH.out.1.mem⟩,hkp.trans k1⟩;have HF:=zH hF;have HVV:=zH bi.v;have HV4:=zH (show iV s.l key=iV (ks.zip vs) key by rw[hv,h4]);by_cases hm:key∈ks
  ·rw[decide_eq_true hm]at hS;have HS:=zH hS;have HM:=zH (zA hm (zA h3 h2));clear HL HX bi gV fT p1 k1 hS hN hM hv h2 h3 h4 hkp hb Nr hF hm
   go_wp2_with fail
   refine HS.out.mono ?_;rintro e w2 ⟨i,rfl,hst,rfl⟩;obtain⟨hm,h3,h2⟩:=HM.out;obtain⟨v,VF,hval⟩:=xqf h3 h2 (hst.found h3 hm);obtain⟨dN,c2,q2,hc2,hr2⟩:=HVV.out.win (S:=λ _=>True) (λ _ _=>trivial);obtain⟨g2,o2,rfl,_,cy⟩:=hr2 _ _ (qx _ _ _ VF)
   injection q2 with q5 q6 q7
   subst q5;have hii:(i:Int)<(vs.length:Int):=Int.ofNat_lt.2 (dn.1 VF).1;have HVA:=zH (HV4.out.trans hval);clear hval VF hr2 hm h3 h2 hst HS HM q6 q7 hc2
   go_wp2_with fail
   go_ret3
   rw[HVA.out];exact⟨rfl,HF.out⟩
  rw[decide_eq_false hm]at hS;have HS:=zH hS;have HM:=zH (HV4.out.trans (yap (vs:=vs) hm));clear HL HX bi gV fT p1 k1 hS hN hM hv h2 h3 h4 hkp hb Nr hF hm
  go_wp2_with fail
  refine HS.out.mono ?_;rintro e w2 ⟨i,rfl,hst,rfl⟩;clear hst HS;go_wp2
  go_ret3
  rw[HM.out];exact⟨rfl,HF.out⟩
 | succ dt=>
  obtain⟨ai,ae,h1,h2,h3,h4⟩:=hAt.tr;have hfit:=(mE h1).inner rfl;dsimp only at hfit;obtain⟨i,hki⟩:=Pv ai h2.up key;have aJ:=h2.len;have hle:=hki.le;obtain⟨u,hu⟩:∃u,ae[i]?=some u:=⟨_,di (by omega)⟩;have hcc:(ae.map Sb.pg)[i]?=some u.pg:=by rw[dW,hu];rfl
  have hK:eH A dt t ai ae i u:=⟨h1,h2,h3,h4,hu⟩;have eP:=hAt.kid hK;have hval:=hK.val hki;have HL:=zH (BU hp (by omega) hb cK h1);have HX:=zH (zA hkp (zA eP.1 (zA (hv.trans hval) (zA h2.up (zA hki hcc)))));have hls:(ae.map Sb.pg).length=ai.length+1:=hfit.1;have hil:i<ai.length+1:=by omega
  have hkl:ai.length<=100:=by omega
  clear hAt hp hb cK h1 h2 h3 h4 hkp hv hfit h hT ht yt hK eP hval aJ hu hcc hki hle
  go_wp2_with fail
  refine HL.out.mono ?_;rintro e w1 ⟨N,M,nb,ka,va,aa,kc,vc,ac,rfl,hN,hM,⟨bi,gV,fT⟩,p1,k1⟩;obtain⟨hkp,eP,hval,hup,hki,hcc⟩:=HX.out;have bx:=bi.box;dsimp only at bx;rw[hls]at bx;have b0:=bx.c0;have b3:=bx.c3
  obtain⟨ga,rfl,ra⟩:∃ga,aa=some ⟨ga,0,none⟩/\Row w1 ga ac (ints (ae.map Sb.pg)):=by
   rcases bi.a with⟨_,h2,_⟩|⟨g,h1,h2⟩
   ·have:=congrArg List.length h2;rw[dx]at this;exact absurd this (by show(ae.map Sb.pg).length≠0;omega)
   exact⟨g,h1,h2⟩
  have cc:w1.cell? (ga,i)=some (.int .i64 (u.pg:Int)):=ra.at' i _ (qw _ _ _ hcc);have hnr:∀q,jN (λ _=>True) (w1.drewN q) nb ⟨false,ai,[],ae.map Sb.pg⟩:=λ q=>(bi.next (UK.aG (aP _ _) q)).wins.1.reads (λ _ _=>trivial) trivial;have hKd:∀q,Calls Tryz.prog 75 #[.pointer nb,.int .u64 key.toNat] (w1.drewN q) λ e w'=>e= .returned (.int .i64 (i:Int))/\w'=w1.drewN q:=λ q=>(UR (hnr q) hup (show ai.length<=1000 by omega) key).mono (λ e w' ⟨i2,he,hk2,hw⟩=>⟨by rw[he,hki.inj hk2],hw.symm⟩);have hii:(i:Int)<((ai.length:Int)+1):=by omega
  have HF:=zH (λ (q:Nat)=>(show At A dt u/\iV s.l key=iV u.l key/\PZ E (w1.drewN q) P D A (k+2*(j+1))/\Kept E W (w1.drewN q)from
   ⟨eP,hval,((p1.less (T:=E) (λ _ hj=>.inl hj)).next (UK.aG (aP _ _) q)).up (by omega),(hkp.trans k1).trans ((p1.less (T:=E) (λ _ hj=>.inl hj)).kept (UK.aG (aP _ _) q))⟩))
  clear HL HX bi gV fT p1 k1 hN hM hkp eP hval hup hki hcc ra hnr bx hls
  go_wp2_with fail
  go_quiet (first|(go_at_call 75;with_reducible exact Calls.quiet_of_same (hKd _)))
  go_wp2;go_roundw
  case rel=>exact⟨j+1,dt,u,rfl,by go_num,by omega,HF.out _⟩
  case measure=>simp[intOf];omega
end
section
variable{E:Nat->Prop}{W:World}{P D T k rt:Nat}{A:AP}{l:List KV}{ps:List Nat}
theorem xoc(h:bL E W P D T rt A k)(hk:k+1100<900000000)(ht:TI A rt l ps)(hg:A.Good)(hc:∀p,A.Has p->(A.c p).length=504)(key:UInt64) :
  Calls Tryz.prog 65 #[.pointer T,.int .u64 key.toNat] W λ e w'=>e= .returned (.tuple #[.bool (yo l key),.int .i64 0])/\∃B,ou A B rt (kC l key) ps/\bL E w' P D T rt B (k+1100)/\Kept E W w':=by
 obtain⟨d,s,hT,rfl,rfl,rfl⟩:=ht.ex;have yt:=O6 hT ht.eY ht.has hg;have hP:=XY key d s 0 h (by omega) hT ht.eY ht.has hg hc (by omega)
 have HP:=zH (hP.mono (R':=λ e w'=>∃(B:AP) (was iw:Bool),e= .returned (.tuple #[.bool was,.bool iw,.int .i64 0])/\was=yo s.l key/\(ou A B s.pg (kC s.l key) s.ps/\bL E w' P D T s.pg B (k+1100)/\Kept E W w')) (λ e w' ⟨B,was,iw,kk,he,hs,lu,hkk,hkp⟩=>(by
  obtain⟨h1,h2⟩:=xym hs hT ht.eY ht.has hg hc;refine⟨B,was,iw,he,?_,h1,⟨lu.pz.up (by omega),lu.box,lu.mem⟩,hkp⟩;rw[Bool.eq_iff_iff,h2,xyn])))
 have t1:=h.box.c1;clear h ht hP hT hg hc yt hk
 go_enter Tryz.func65,Tryz.ntmps65
 go_wp2_with fail
 refine HP.out.mono ?_;rintro e w1 ⟨B,was,iw,rfl,hw,hX⟩;have HX:=zH hX;clear HP t1 hX;subst hw;obtain⟨q,hq⟩:∃q,yo s.l key=q:=⟨_,rfl⟩;rw[hq];have HQ:=zH hq;clear hq
 cases q with
 | false=>
  go_wp2;go_ret2
  rw[HQ.out];exact⟨rfl,B,HX.out⟩
 | true=>
  go_wp2;go_ret2
  rw[HQ.out];exact⟨rfl,B,HX.out⟩
def XZ(E:Nat->Prop)(W w':World)(P D T rt d:Nat)(A:AP)(K:Nat)(key v:UInt64)(e:Ending):Prop:=
 ∃(B:AP) (er:Int) (kk:Nat),e= .returned (.int .i64 er)/\sS key v rt d A B er/\bL E w' P D T rt B kk/\kk<=K/\Kept E W w'
theorem Sa{d:Nat}{s:Sb}(h:bL E W P D T rt A k)(hk:k+1100<900000000)(hT:Tr (aH A) d s)(cK:s.pg=rt)(ht:TI A rt s.l s.ps)(hg:A.Good)(hc:∀p,A.Has p->(A.c p).length=504)(key v:UInt64) :
  Calls Tryz.prog 62 #[.pointer T,.int .u64 key.toNat,.int .u64 v.toNat] W λ e w'=>XZ E W w' P D T rt d A (k+1100) key v e:=by
 have yt:=O6 hT ht.eY ht.has hg;have hP:=Ya key v d s 0 h (by omega) hT ht.eY ht.has hg hc (by omega);rw[cK]at hP;have HP:=zH hP;have HH:=zH (zA h (zA hT (zA cK (zA ht (zA hg hc)))));have t1:=h.box.c1;have HB:=zH (λ (w':World) (B:AP) (er:Int) (kk:Nat) (hs:sS key v rt d A B er) (lu:bL E w' P D T rt B kk) (hkk:kk<=k+1100) (hkp:Kept E W w')=>(show XZ E W w' P D T rt d A (k+1100) key v (.returned (.int .i64 er))from⟨B,er,kk,rfl,hs,lu,hkk,hkp⟩));clear h ht hP hT hg hc cK
 go_enter Tryz.func62,Tryz.ntmps62
 go_wp2_with fail
 refine HP.out.mono ?_;rintro e w1 ⟨B,more,κ,er,kk,rfl,hps,lu,hkk,hkp⟩;by_cases he:er=0
 ·by_cases hm:more=0
  ·subst he hm;have HG:=zH (HB.out w1 B 0 kk (.same hps) lu (by omega) hkp);clear HP HH HB t1 hps lu hkk hkp;go_wp2;go_ret;exact HG.out
  subst he;obtain⟨h,hT,cK,ht,hg,hc⟩:=HH.out;have hm0:(more==0)=false:=beq_eq_false_iff_ne.2 hm;have hm1:((more:Int)==0)=false:=beq_eq_false_iff_ne.2 (by omega);obtain⟨new,hO⟩:=Gs hps rfl s hT cK ht.eY ht.has hg hc;have hrt:B.Has rt:=(hO.gG.has rt).2 (.inl (by rw[<-cK];exact ht.has _ hT.mem));obtain⟨_,_,_,_,_,_,_,_,_,_,⟨x,hx,_⟩,_⟩:=hO.two hm;rw[cK]at hx;have HL:=zH (BU lu.pz (by omega) lu.box hrt hx);have Yb:=lu.box.c1;have H1:=zH (zA lu (zA hkp (zA hps (zA hx hrt))));have HF:=zH (show κ=κ/\B.Good/\more<4294967296/\(∀p,B.Has p->(B.c p).length=504)from⟨rfl,hO.gG.good hg,by have:=(hO.two hm).1;omega,hO.gG.fq⟩);clear HP t1 hps lu hkp hO hrt hx h hT cK ht hg hc HH
  go_wp2_with fail
  refine HL.out.mono ?_;rintro e w2 ⟨N,M,nb,ka,va,aa,kc,vc,ac,rfl,hN,hM,bi,p2,k2⟩;obtain⟨lu,hkp,hps,hx,hrt⟩:=H1.out;have hr:jN (λ j=>E j\/(N<=j/\j<M)) w2 nb x:=bi.wins.reads (λ g hg=>.inr ⟨hg.1,hg.2.1⟩) (.inr ⟨bi.1.ge,bi.2.1⟩);have hb2:=lu.box.af (k2.block T lu.mem);by_cases hF:B.Full
  ·have HN:=zH (Yc (nb:=nb) p2 (by omega) hb2 hF);have HG:=zH (λ (w':World) (p3:PZ (λ j=>E j\/N<=j/\j<M) w' P D B (kk+2+3)) (k3:Kept (λ j=>E j\/N<=j/\j<M) w2 w')=>HB.out w' B 6 (kk+2+3) (.full hps hm hF) ⟨p3.less (λ _ hj=>.inl hj),hb2.af (k3.block T (.inl lu.mem)),lu.mem⟩ (by omega) ((hkp.trans k2).trans (k3.mono (λ _ hj=>.inl hj))));clear HL hN hM bi p2 k2 lu hkp hps hx hrt hr hb2 H1 HB HF Yb
   go_wp2_with fail
   refine HN.out.mono ?_;rintro e w3 ⟨rfl,p3,k3⟩;have HQ:=zH (HG.out w3 p3 k3);clear p3 k3 HG HN;go_wp2;go_ret;exact HQ.out
  have HN:=zH (Yd p2 (by omega) hb2 hF hr (mE hx));have HG:=zH (λ (w3:World) (p3:PZ (λ j=>E j\/N<=j/\j<M) w3 P D (B.take.az B.next (bg (UK.bW 504) x)) (kk+2+3)) (k3:Kept (λ j=>E j\/N<=j/\j<M) w2 w3)=>xyo (E:=E) (N:=N) (M:=M) (P:=P) (D:=D) (T:=T) (rt:=rt) (κ:=κ) (more:=more) lu hkp k2 p3 k3 HF.out.2.1 hF hrt HF.out.2.2.1 (by omega));have HR:=zH (λ (w':World) kx h1 h2 h3=>HB.out w' ((B.take.az B.next (bg (UK.bW 504) x)).az rt (bg ((B.take.az B.next (bg (UK.bW 504) x)).c rt) ⟨false,[κ],[],[B.next,more]⟩)) 0 kx (.grow hps hm hF hx rfl) h1 h2 h3);have Gt:kk+2+3+3<=k+1100:=by omega
  clear HL hN hM bi p2 k2 lu hkp hps hx hrt hr hb2 H1 HB HF Yb
  go_wp2_with fail
  refine HN.out.mono ?_;rintro e w3 ⟨rfl,p3,k3⟩;obtain⟨t13,hS⟩:=HG.out w3 p3 k3;have HS:=zH hS;clear p3 k3 HG HN hS
  go_wp2_with fail
  refine HS.out.mono ?_;rintro e w4 ⟨rfl,h1,h2⟩;have HQ:=zH (HR.out w4 _ h1 Gt h2);clear h1 h2 HS HR;go_wp2;go_ret;exact HQ.out
 have HG:=zH (HB.out w1 B er kk (.bad hps he) lu (by omega) hkp);have he2:(er==0)=false:=beq_eq_false_iff_ne.2 he;clear HP HH HB t1 hps lu hkk hkp;go_wp2;go_ret;exact HG.out
theorem xrd(h:bL E W P D T rt A k)(hk:k+1100<900000000)(ht:TI A rt l ps)(hg:A.Good)(hc:∀p,A.Has p->(A.c p).length=504)(key v:UInt64) :
  Calls Tryz.prog 62 #[.pointer T,.int .u64 key.toNat,.int .u64 v.toNat] W λ e w'=>yb6 E W w' P D T rt A (k+1100) (fZ l key v) ps e:=by
 obtain⟨d,s,hT,cK,rfl,rfl⟩:=ht.ex;exact(Sa h hk hT cK ht hg hc key v).mono λ e w' ⟨B,er,kk,he,hs,hq⟩=>⟨B,er,kk,he,Sc hs hT cK ht hg hc,hq⟩
end
structure aD(E:Nat->Prop)(W:World)(P D Q T rt aC:Nat)(A:AP)(k:Nat):Prop where
 pz:PZ E W P D A k
 box:aI W Q #[.pointer P,.int .i64 (rt:Int),.pointer T]
 tb:aI W T #[.pointer P,.int .i64 (aC:Int)]
 mem:E Q
 fH:E T
section
variable{E E':Nat->Prop}{W W':World}{P D Q T rt aC k k':Nat}{A B:AP}
theorem aD.tree(h:aD E W P D Q T rt aC A k):bL E W P D T aC A k:=⟨h.pz,h.tb,h.fH⟩
theorem aD.step(h:aD E W P D Q T rt aC A k)(hp:PZ E W' P D B k')(kp:Kept E W W'):aD E W' P D Q T rt aC B k':=
 ⟨hp,h.box.af (kp.block Q h.mem),h.tb.af (kp.block T h.fH),h.mem,h.fH⟩
theorem aD.wide(h:aD E W P D Q T rt aC A k)(hb:Below W W W')(hT:∀j,E' j->E j\/(W.heap.size<=j/\j<W'.heap.size))(hE:∀j,E j->E' j):aD E' W' P D Q T rt aC A k:=
 ⟨h.pz.wide hb hT,h.box.next hb,h.tb.next hb,hE _ h.mem,hE _ h.fH⟩
theorem aD.next(h:aD E W P D Q T rt aC A k)(hb:Below W W W'):aD E W' P D Q T rt aC A k:=h.wide hb (λ _ hj=>.inl hj) (λ _ hj=>hj)
theorem aD.less(h:aD E W P D Q T rt aC A k)(hQ:E' Q)(hT:E' T)(hE:∀j,E' j->E j):aD E' W P D Q T rt aC A k:=⟨h.pz.less hE,h.box,h.tb,hQ,hT⟩
theorem aD.up(h:aD E W P D Q T rt aC A k)(hk:k<=k'):aD E W P D Q T rt aC A k':=⟨h.pz.up hk,h.box,h.tb,h.mem,h.fH⟩
end
theorem Ye{X:List KV}(k v:UInt64):(fZ X k v).length<=X.length+1:=by
 have e:∀l:List KV,(l.filter (λ x=>decide (x.1.toNat<k.toNat))).length+(l.filter (λ x=>decide (k.toNat<x.1.toNat))).length<=l.length:=by
  intro l
  induction l with
  | nil=>simp
  | cons a r ih=>
   simp only[List.filter_cons];by_cases h1:a.1.toNat<k.toNat
   ·have h2:¬k.toNat<a.1.toNat:=by omega
    simp only[h1,h2,decide_true,decide_false,if_true,dw];simp only[vR,if_false];omega
   by_cases h2:k.toNat<a.1.toNat<;>simp only[h1,h2,decide_true,decide_false,if_true,vR,if_false,dw]<;>omega
 have:=e X;unfold fZ;rw[zl,dw];exact Nat.succ_le_succ this
theorem Sd(v:UInt64):∀(aA:List UInt64) (m:List KV),(iW m aA v).length<=m.length+aA.length
 | [],m=>by simp[iW]
 | i::aA,m=>by
  have h1:=Sd v aA (fZ m i v);have h2:=Ye (X:=m) i v;show(iW (fZ m i v) aA v).length<=_;rw[dw];omega
theorem Yf(m:List KV)(l:List UInt64)(i v:UInt64):iW m (l++[i]) v=fZ (iW m l v) i v:=by
 unfold iW;rw[List.foldl_append];rfl
theorem Sg{α:Type}{l:List α}{i fr:Nat}{a:α}(h:l[i]?=some a)(hf:fr<=i):(l.take (i+1)).drop fr=(l.take i).drop fr++[a]:=by
 have hi:=(dn.1 h).1;rw[ow,h,kR (by rw[zt];omega)];rfl
section
variable{E:Nat->Prop}{W:World}{P D Q T rt aC k nb page fr tt:Nat}{A:AP}{x:Sn}{Pg qs:List Nat}{m:List KV}
theorem xre(h:aD E W P D Q T rt aC A k)(hp:bZ A rt aC Pg m qs)(hn:gK E W nb x)(hl:x.leaf=true)(hft:fr<=tt)(hto:tt<=x.aA.length)(iy:x.aA.length<=100)(uE:page<4294967296)(hk:k+1100*(tt-fr)+1200<900000000)(aY:m.length+500<=14*(A.ay+qs.length)) :
  Calls Tryz.prog 127 #[.pointer Q,.int .i64 page,.pointer nb,.int .i64 fr,.int .i64 tt] W λ e w'=>e= .returned (.int .i64 0)/\∃B bK k',aD E w' P D Q T rt aC B k'/\k'<=k+1100*(tt-fr)/\Kept E W w'/\bZ B rt aC Pg (iW m ((x.aA.take tt).drop fr) (UInt64.ofNat page)) bK/\A.Reach B/\(∀p∈Pg,B.c p=A.c p)/\B.ay+bK.length=A.ay+qs.length:=by
 have ry:((UInt64.ofNat page).toNat:Int)=(page:Int):=by rw[UInt64.toNat_ofNat_of_lt' (by show page<18446744073709551616;omega)]
 have hpw:IntKind.u64.wrap (page:Int)=(page:Int):=by rw[IntKind.wrap_u64];omega
 have hp0:(0:Int)<=(page:Int):=by omega
 have HST:Hid (∃B bK k',aD E W P D Q T rt aC B k'/\k'<=k+1100*(fr-fr)/\Kept E W W/\bZ B rt aC Pg (iW m ((x.aA.take fr).drop fr) (UInt64.ofNat page)) bK/\A.Reach B/\(∀p∈Pg,B.c p=A.c p)/\B.ay+bK.length=A.ay+qs.length):=zH ⟨A,qs,k,h,by omega,Kept.of_below (aP _ _) h.pz.there,by rw[kz (by rw[zt];omega)];exact hp,AP.Reach.refl A,λ _ _=>rfl,rfl⟩;have HN:=zH hn;have Lc:=zH ry;clear h hp hn ry
 go_enter Tryz.func127,Tryz.ntmps127
 go_wp2_with fail
 go_loopw [11] (λ ix wr=>∃i:Nat,ix= .int .i64 i/\fr<=i/\i<=tt/\∃B bK k',aD E wr P D Q T rt aC B k'/\k'<=k+1100*(i-fr)/\Kept E W wr/\bZ B rt aC Pg (iW m ((x.aA.take i).drop fr) (UInt64.ofNat page)) bK/\A.Reach B/\(∀p∈Pg,B.c p=A.c p)/\B.ay+bK.length=A.ay+qs.length) (λ ix _=>101-(intOf ix).toNat)
 case atStart=>exact⟨fr,rfl,aZ _,hft,HST.out⟩
 clear HST;obtain⟨i,rfl,hfi,hit,B,rE,k1,hs,hk1,kp,jB,hre,hsm,hro⟩:=hrel;obtain⟨iv,kv,cv,hb,hnb,⟨ia,ic,rfl,hic,hii⟩,_⟩:=HN.out.kept kp;rw[cz,hl]at hb;rw[cz]at hic;have c0:=hb.c0;by_cases hlt:i<tt
 ·obtain⟨id,hid⟩:∃id,x.aA[i]?=some id:=⟨_,di (by omega)⟩;obtain⟨g,o,rfl,_,ck⟩:=hii i _ (qx _ _ _ hid);have c2:=hb.c2;have q2:=hs.box.c2;have hsn:=Sg (fr:=fr) hid hfi;have aJ:=Sd (UInt64.ofNat page) ((x.aA.take i).drop fr) m;rw[zd,zt]at aJ;have rP:=jB.tree.many;have oz:20<B.ay:=by omega
  have hs1:=hs.next (W':=wr.drew) (aP _ _).drew;have hput:=xrd hs1.tree (by omega) jB.tree jB.good jB.len id (UInt64.ofNat page);rw[Lc.out]at hput;have Ai:=zH hput;have HX:=zH (zA hs1 (zA (kp.trans (Kept.of_below (aP _ _).drew hs.pz.there)) (zA jB (zA hre (zA hsm (zA hro (zA hsn oz)))))));have i1:(i:Int)<(tt:Int):=by omega
  have i2:i<x.aA.length:=by omega
  clear hs kp jB hre hsm hro hb hii hid hsn aJ rP oz hs1 hput
  go_wp2_with fail
  go_region_with (first|(go_at_call 62;refine Ai.out.mono ?_;rintro e w2 ⟨B2,er,kk,rfl,hor,ht2,hkk,gy⟩;obtain⟨hs1,CY,jB,hre,hsm,hro,hsn,oz⟩:=HX.out;obtain⟨rfl,hpo⟩|⟨_,_,hno⟩:=hor;rotate_left;(exfalso;omega);replace ht2:=zH ht2;replace gy:=zH gy;replace hpo:=zH hpo;clear hs1 CY jB hre hsm hro hsn oz))
  all_goals
   clear Ai c0 c2 q2 ck;go_wp2;go_roundw
   case rel=>
    obtain⟨hs1,CY,jB,hre,hsm,hro,hsn,oz⟩:=HX.out;obtain⟨EJ,r2,CZ,Jg,Ld⟩:=jB.put hpo.out;refine⟨i+1,by go_num,by omega,by omega,B2,EJ,kk,hs1.step ht2.out.pz gy.out,by omega,CY.trans gy.out,?_,hre.trans CZ,λ p hp=>(Jg p hp).trans (hsm p hp),by omega⟩;rw[hsn,Yf];exact r2
   case measure=>simp[intOf];omega
 obtain rfl:i=tt:=by omega
 have HF:=zH (show ∃B bK k',aD E wr P D Q T rt aC B k'/\k'<=k+1100*(i-fr)/\Kept E W wr/\bZ B rt aC Pg (iW m ((x.aA.take i).drop fr) (UInt64.ofNat page)) bK/\A.Reach B/\(∀p∈Pg,B.c p=A.c p)/\B.ay+bK.length=A.ay+qs.length from⟨B,rE,k1,hs,hk1,kp,jB,hre,hsm,hro⟩);clear hs kp jB hre hsm hro hb hii c0;go_wp2;go_ret;exact⟨rfl,HF.out⟩
end
theorem xrf(y:List UInt8)(p:Nat)(hy:504<=y.length):(fM y p).take 504=fM (y.take 504) p:=BJ _ _ _ _ (by show 4+4<=504;omega) hy
section
variable{E:Nat->Prop}{W:World}{P D Q T rt aC k nb page fr tt:Nat}{A:AP}{x:Sn}{Pg qs:List Nat}{m:List KV}
structure nG(A B:AP)(l:List Nat)(page:Nat):Prop where
 reach:A.Reach B
 ay:B.ay=A.ay
 c:∀p,B.c p=if p∈l then fM (A.c p) page else A.c p
theorem nG.step{B:AP}{l:List Nat}{c:Nat}(h:nG A B l page)(hr:bZ B rt aC Pg m qs)(hc:c∈Pg)(hn:c∉l):bZ (B.az c (fM (B.c c) page)) rt aC Pg m qs/\nG A (B.az c (fM (B.c c) page)) (l++[c]) page:=by
 have hl:=hr.len c (hr.dO hc);obtain⟨h1,h2,h3,h4⟩:=hr.az hc (s:=fM (B.c c) page) (by rw[XO _ _ (by omega),hl]) (λ e=>by rw[xrb _ _ (by omega),e]);refine⟨h1,h.reach.trans h2,h3.trans h.ay,λ p=>?_⟩;have e0:B.c c=A.c c:=by rw[h.c,if_neg hn]
 by_cases hp:p=c
 ·subst hp;rw[AP.bG,if_pos rfl,e0,if_pos (by simp)]
 rw[h4 p hp,h.c];simp only[cB,bQ,hp,or_false]
theorem Yg(h:aD E W P D Q T rt aC A k)(hp:bZ A rt aC Pg m qs)(hn:gK E W nb x)(hl:x.leaf=false)(hft:fr<=tt)(hto:tt<=x.ah.length)(iy:x.ah.length<=100)(hsub:∀c∈x.ah,c∈Pg)(hnd:x.ah.Nodup)(uE:page<4294967296)(hk:k+3*(tt-fr)+10<900000000) :
  Calls Tryz.prog 127 #[.pointer Q,.int .i64 page,.pointer nb,.int .i64 fr,.int .i64 tt] W λ e w'=>e= .returned (.int .i64 0)/\∃B k',aD E w' P D Q T rt aC B k'/\k'<=k+3*(tt-fr)/\Kept E W w'/\bZ B rt aC Pg m qs/\nG A B ((x.ah.take tt).drop fr) page:=by
 have ry:((UInt32.ofNat page).toNat:Int)=(page:Int):=by rw[sP];omega
 have hpw:IntKind.u32.wrap (page:Int)=(page:Int):=by rw[IntKind.wrap_u32];omega
 have hp0:(0:Int)<=(page:Int):=by omega
 have HST:Hid (∃B k',aD E W P D Q T rt aC B k'/\k'<=k+3*(fr-fr)/\Kept E W W/\bZ B rt aC Pg m qs/\nG A B ((x.ah.take fr).drop fr) page):=zH ⟨A,k,h,by omega,Kept.of_below (aP _ _) h.pz.there,hp,AP.Reach.refl A,rfl,λ p=>by rw[kz (by rw[zt];omega)];simp⟩;have HN:=zH hn;have Lc:=zH ry;have HS:=zH (zA hsub hnd);clear h hp hn ry hsub hnd
 go_enter Tryz.func127,Tryz.ntmps127
 go_wp2_with fail
 go_loopw [11] (λ ix wr=>∃i:Nat,ix= .int .i64 i/\fr<=i/\i<=tt/\∃B k',aD E wr P D Q T rt aC B k'/\k'<=k+3*(i-fr)/\Kept E W wr/\bZ B rt aC Pg m qs/\nG A B ((x.ah.take i).drop fr) page) (λ ix _=>101-(intOf ix).toNat)
 case atStart=>exact⟨fr,rfl,aZ _,hft,HST.out⟩
 clear HST;obtain⟨i,rfl,hfi,hit,B,k1,hs,hk1,kp,jB,had⟩:=hrel;obtain⟨iv,kv,cv,hb,hnb,_,⟨ka,kc,rfl,hkc,hkk⟩,_⟩:=HN.out.kept kp;rw[dx,hl]at hb;rw[dx]at hkc;have c0:=hb.c0;by_cases hlt:i<tt
 ·obtain⟨c,hid⟩:∃c,x.ah[i]?=some c:=⟨_,di (by omega)⟩;obtain⟨g,o,rfl,_,ck⟩:=hkk i _ (qw _ _ _ hid);have c2:=hb.c3;have q2:=hs.box.c0;obtain⟨hsub,hnd⟩:=HS.out;have hcP:=hsub c (fe hid);have hsn:=Sg (fr:=fr) hid hfi
  have hnl:c∉(x.ah.take i).drop fr:=λ hm=>by
   have h1:=fA hm;obtain⟨j,hj,e⟩:=jb h1;rw[zt]at hj;rw[List.getElem_take]at e;have h2:=(dn.1 hid);exact List.pairwise_iff_getElem.1 hnd j i (by omega) h2.1 (by omega) (by rw[e,h2.2])
  obtain⟨Da,Aj⟩:=had.step jB hcP hnl;rw[<-hsn]at Aj;have hs1:=hs.next (W':=wr.drew) (aP _ _).drew;have Yh:=zH (CS hs1.pz (by omega) c (jB.dO hcP));have HX:=zH (zA hs1 (zA (kp.trans (Kept.of_below (aP _ _).drew hs.pz.there)) (zA Da Aj)));have i1:(i:Int)<(tt:Int):=by omega
  have i2:i<x.ah.length:=by omega
  clear hs kp jB hb hkk hid hsn hs1 Da Aj hsub hnd hcP hnl had
  go_wp2_with fail
  go_region_with (first|(go_at_call 50;refine Yh.out.mono ?_;rintro e w2 ⟨fb,db,cap,rfl,p2,k2⟩;replace p2:=zH p2;replace k2:=zH k2))
  all_goals
   have HE:=zH (BN p2.out (by omega));clear Yh c0 c2 q2 ck
   go_wp2_with fail
   refine HE.out.mono ?_;rintro e w3 ⟨rfl,p3,k3⟩;obtain⟨y,y1,y2,y3,y4,y5⟩:=p3.bytes;have P1:=sD y1 4 500 (cap-4) (by omega) (by omega) (by omega) (UInt32.ofNat page);rw[Lc.out,show UK.wr y 4 (aW (UInt32.ofNat page))=fM y page from rfl]at P1;have htk:=xrf y page (by omega);have hy3:y.take 504=B.c c:=y3;rw[hy3]at htk;have hle:=XO y page (by omega);have sI:=zH P1;have H3:=zH (zA p3 (zA (k2.out.trans k3) (zA htk (hle.trans y2))));have i3:¬(cap=4):=by omega
   clear HE P1 p3 k3 y1 y2 y3 y4 y5 hy3 htk hle
   go_wp2_with fail
   refine sI.out.mono ?_;rintro e w4 ⟨rfl,b4,o4⟩;obtain⟨p3,k3,htk,hle⟩:=H3.out;obtain⟨p4,k4⟩:=p3.write o4 b4 hle;rw[htk]at p4;have HU:=zH (Rt p4);have K4:=zH (k3.trans k4);clear sI H3 p3 k3 htk hle p4 k4 b4 o4
   go_wp2_with fail
   refine HU.out.mono ?_;rintro e w5 ⟨rfl,p5,k5⟩;have HF:=zH (zA p5 (K4.out.trans k5));clear HU K4 p5 k5;go_wp2;go_roundw
   case rel=>
    obtain⟨hs1,CY,Da,Aj⟩:=HX.out;exact⟨i+1,by go_num,by omega,by omega,_,_,hs1.step HF.out.1 HF.out.2,by omega,CY.trans HF.out.2,Da,Aj⟩
   case measure=>simp[intOf];omega
 obtain rfl:i=tt:=by omega
 have HF:=zH (show ∃B k',aD E wr P D Q T rt aC B k'/\k'<=k+3*(i-fr)/\Kept E W wr/\bZ B rt aC Pg m qs/\nG A B ((x.ah.take i).drop fr) page from⟨B,k1,hs,hk1,kp,jB,had⟩);clear hs kp jB had hb hkk c0;go_wp2;go_ret;exact⟨rfl,HF.out⟩
end
end Go.Proofs.YtlipgbnnbefhjaaGreatDoor
