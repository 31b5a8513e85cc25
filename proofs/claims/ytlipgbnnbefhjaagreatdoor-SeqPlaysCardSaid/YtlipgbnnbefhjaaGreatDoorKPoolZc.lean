/- Facts on rows of numbers on pages. -/
import Derived.Test.YtlipgbnnbefhjaaGreatDoorKPoolVc
import Derived.Deep.OwnRows
set_option maxRecDepth 100000
set_option maxHeartbeats 8000000
set_option linter.unusedSimpArgs false
namespace Go.Proofs.YtlipgbnnbefhjaaGreatDoor
open Go.RowKit
open UK (str aO nth Only Row aI jR)
open Go.BigFrame
section
variable{E:Nat->Prop}{W W':World}{P D FB M aj k n:Nat}{kp:Int}{q:Pl}{d d':Dk}{c:Nat->List UInt8}
theorem xwy{p:Int}(f:Fit d aj)(hh:bn d aj p=true)(he:IG d aj p=0):(II d aj p).length=504:=by
 obtain⟨m,rfl,hm⟩:=FR (by rw[hh];decide);have h3:=BK hm;unfold IG at he;unfold II;rw[hh]at he ⊢;rw[if_neg (by decide)]at he ⊢;by_cases hz:d.rl=0
 ·rw[if_pos hz]at he;exact absurd he (by decide)
 rw[if_neg hz]at he ⊢;rw[Int.toNat_natCast]at he ⊢
 have hok:okB d.x m=true:=by
  cases hb:okB d.x m with
  | true=>rfl
  | false=>unfold zI at he;rw[hb]at he;exact absurd he (by decide)
 rw[JM hok];unfold oV;rw[zt,zd,f.len];omega
theorem xwz(d:Dk)(aj:Nat)(p a:Int):bn (Ew d aj p) aj a=bn d aj a:=by
 unfold Ew
 split
 ·rfl
 split<;>rfl
theorem Om(h:PD E W P D FB M q d aj)(page:Int)(cK:(Lit.int .i64 page).wf=true) :
  (∃(i:Nat) (f:Fr),q.ag[i]?=some (some f)/\f.page=page/\(Instr.lookup 84 (.map (some M)) (.int .i64 page) true).run Tryz.prog W= .ok (.tuple #[.int .i64 (i:Int),.bool true]) W) \/
  ((∀(i:Nat) (f:Fr),q.ag[i]?=some (some f)->f.page≠page)/\(Instr.lookup 84 (.map (some M)) (.int .i64 page) true).run Tryz.prog W= .ok (.tuple #[.int .i64 0,.bool false]) W):=by
 obtain⟨g,hg,hm⟩:=h.pool.map;have hlk:=hm.get (t:=84) Tryz.underlying3 Tryz.underlying3 Tryz.underlying84 (λ w=>by kernel_rfl) page cK
 cases EA:g page with
 | none=>
  rw[EA]at hlk;exact .inr ⟨λ i f hi=>hg.no EA hi,hlk⟩
 | some v=>
  rw[EA]at hlk;obtain⟨j,rfl,fr,hj,hf⟩:=(hg page v).1 EA;exact .inl ⟨j,fr,hj,hf,hlk⟩
theorem R6(h:Clean d aj){p:Nat}(hh:bn d aj (p:Int)=true)(s:List UInt8)(hs:s.length=504):BL d aj (p:Int) s=0/\xY d aj (p:Int) s=xV d p s:=by
 have hwl:d.wl≠0:=by rw[h.wl];decide
 unfold BL xY;have ha:¬bn d aj (p:Int)=false:=by rw[hh];decide
 have hb:¬s.length≠504:=by omega
 rw[if_neg ha,if_neg ha,if_neg hb,if_neg hb,if_neg hwl,Int.toNat_natCast];exact⟨by unfold jf;rw[if_neg hwl],rfl⟩
def yb1(E:Nat->Prop)(W w':World)(P D FB M n:Nat)(kp:Int)(q:Pl)(d:Dk)(aj k:Nat)(c:Nat->List UInt8)(e:Ending):Prop:=
 ∃(i:Nat) (q':Pl) (d':Dk),e= .returned (.tuple #[.int .i64 i,.int .i64 0])/\q'.ag[i]?=some none/\PS E w' P D FB M n kp q' d' aj (k+1) c/\Kept E W w'/\q'.op=q.op/\d'.free=d.free/\d'.ax=d.ax/\tV q' q/\∀p,bn d' aj p=bn d aj p
theorem R7(h:PS E W P D FB M n kp q d aj k c)(hk:k<900000000)(hkp:0<=kp/\kp<n) :
  Calls Tryz.prog 85 #[.pointer P] W λ e w'=>yb1 E W w' P D FB M n kp q d aj k c e:=by
 refine(xtg h.pd h.ok h.kL hk).mono ?_;rintro e w' ⟨i,e0,q',d',rfl,p1,k1,o1,ok1,CU,aJ,hfw,vF,hz,hx1,hx2,hx3⟩;have hpl:=h.ok.ak;have hpn:=h.ak;have hl:=h.len;obtain⟨b,hb,hst⟩:=Xr q.ag (λ i f hi=>(h.ok.pos i f hi).1) (by omega);have hne:=xn8 q.ag q.hand b h.ok.hand hb hst;have hcs:=h.calm.wS h.ok.hand (2*q.ag.length) q.hand q.ak q.op;obtain⟨so1,wW,X8⟩:=Oj (2*q.ag.length) q h.ok;have hmk:=Oc (2*q.ag.length) q.ag q.hand h.ok.hand;generalize jP (2*q.ag.length) q.ag q.hand=r at hx1 hx2 hx3 hne hcs so1 wW X8 hmk
 cases hr:r.1 with
 | none=>exact absurd hr hne
 | some j=>
  obtain⟨o,ho,_⟩:=X8 j hr
  have EB:∀(j:Nat) (g:Fr),q'.ag[j]?=some (some g)->bn d' aj g.page=true:=λ j g hj=>by
   obtain⟨g0,h0,he⟩:=hfw j g hj;rw[vF,<-he];exact h.held j g0 h0
  by_cases hcl:∀f:Fr,r.2.1[j]?=some (some f)->f.bH=false
  ·obtain⟨rfl,rfl,rfl,rfl⟩:=hx2 j hr hcl;refine⟨i,_,d',rfl,hz rfl,⟨p1,o1,ok1,EB,CU.trans hpn,aJ.trans hl,?_,(h.up (jy k)).lim⟩,k1,rfl,rfl,rfl,hfw,vF⟩
   cases o with
   | none=>
    have e:r.2.1.set i none=r.2.1:=Xy ho;rw[e];exact hcs.same _ _ _
   | some f=>exact hcs.forget ho (hcl f ho) _ _ _
  obtain⟨f,hf,IR⟩:∃f:Fr,r.2.1[j]?=some (some f)/\f.bH=true:=by
   cases o with
   | none=>exact absurd (λ f hf=>by rw[ho]at hf;cases hf) hcl
   | some f=>
    refine⟨f,ho,?_⟩
    cases IR:f.bH
    ·exact absurd (λ g hg=>by rw[ho]at hg;rw[<-bC (bC hg)];exact IR) hcl
    rfl
  obtain⟨f0,hf0,hfe⟩:=hmk j f hf;have cK:f.page=f0.page:=by rcases hfe with rfl|rfl<;>rfl
  have Ko:f.data=f0.data:=by rcases hfe with rfl|rfl<;>rfl
  have Gi:bn d aj f.page=true:=by rw[cK];exact h.held j f0 hf0
  obtain⟨p,hp,hp1,hp2,hp3⟩:=h.calm.nat Gi;have hdl:f.data.length=504:=by rw[Ko];exact(h.pd.pool.each j f0 hf0).len
  rw[hp]at Gi;obtain⟨w1,w2⟩:=R6 h.calm.clean Gi f.data hdl;rw[<-hp]at w1 w2;obtain⟨rfl,rfl,rfl,rfl⟩:=hx3 j f hr hf IR w1;have ry:=h.kL.puts;refine⟨i,_,_,rfl,hz rfl,⟨p1,o1,ok1,EB,CU.trans hpn,aJ.trans hl,?_,(h.up (jy k)).lim⟩,k1,rfl,?_,?_,hfw,vF⟩
  ·rw[w2];exact hcs.write (by omega) hf hp hp2 hp3 hdl _ _ _
  ·rw[w2];rfl
  rw[w2];rfl
def Ga(E:Nat->Prop)(W w':World)(P D FB M n:Nat)(kp:Int)(q:Pl)(d:Dk)(aj k:Nat)(c:Nat->List UInt8)(page:Int)(e:Ending):Prop:=
 ∃(i:Nat) (f:Fr) (q':Pl) (d':Dk),e= .returned (.tuple #[.pointer f.blk,.int .i64 0])/\q'.ag[i]?=some (some f)/\f.page=page/\0<f.ak/\PS E w' P D FB M n (kp+1) q' d' aj (k+2) c/\Kept E W w'/\q'.op=q.op/\d'.free=d.free/\d'.ax=d.ax
theorem xtk(h:PS E W P D FB M n kp q d aj k c)(hkp:0<=kp/\kp<1000000)(page:Int)(cK:(Lit.int .i64 page).wf=true)(hh:bn d aj page=true)(hg:page∉bU q.op){i:Nat}{f:Fr}(hi:q.ag[i]?=some (some f))(hf:f.page=page)(hfp:f.ak<1000000) :
  Calls Tryz.prog 50 #[.pointer P,.int .i64 page] W λ e w'=>Ga E W w' P D FB M n kp q d aj k c page e:=by
 have c0:=h.pd.pool.box.c0;have hhas:=NJ h.pd.dd page;rw[hh]at hhas;have hl:=(dn.1 hi).1;have fD:=h.ok.few
 go_enter Tryz.func50,Tryz.ntmps50
 go_wp2_with fail
 refine hhas.mono ?_;rintro e w1 ⟨rfl,x,rfl⟩;obtain⟨h1,k1⟩:=h.looks x;generalize W.drewN x=w1 at h1 k1 ⊢;clear h hhas c0;have hb:=h1.pd.pool.box;have c1:=hb.c1;have c2:=hb.c2;obtain⟨ao,nn,cc,hv,hcn⟩:=IY h1.pd.pool page;have c8:=hb.c8;rw[hv]at c8;rw[decide_eq_false hg]at hcn;clear hv;have c4:=hb.c4;have f4:=hb.free 4;have cF:w1.cell? (FB,i)=some (.pointer f.blk):=h1.pd.frame hi;have hfr:=h1.pd.pool.each i f hi;have d3:=hfr.box.c3;have d4:=hfr.box.c4;have e3:=hfr.box.free 3;have e4:=hfr.box.free 4;have hpos:=h1.ok.pos i f hi
 have hlk:(Instr.lookup 84 (.map (some M)) (.int .i64 page) true).run Tryz.prog w1= .ok (.tuple #[.int .i64 (i:Int),.bool true]) w1:=by
  rcases Om h1.pd page cK with⟨j,g,hj,hg,hr⟩|⟨hno,_⟩
  ·obtain⟨mf,ha,_⟩:=h1.pd.pool.map;rw[ha.inj hi hj (hf.trans hg.symm)];exact hr
  exact absurd hf (hno i f hi)
 have hne:f.blk≠P:=(h1.pd.pool.off i (some f) f.blk hi (.inl rfl)).1;have p2:=h1.pd.flag (g:={f with ak:=f.ak+1,used:=true}) hi ⟨rfl,rfl,rfl,rfl,rfl⟩ (((Only.refl f.blk w1).set 3 (.int .i64 (f.ak+1))).set 4 (.bool true)) ((hfr.box.set 3 (.int .i64 (f.ak+1))).set 4 (.bool true));have hb2:=p2.1.pool.box;have p3:=p2.1.own ((Only.refl P _).set 4 (.int .i64 (q.ak+1))) (hand:=q.hand) (ak:=q.ak+1) (hb2.set 4 (.int .i64 (q.ak+1)))
 have s3:=h1.flag (g:={f with ak:=f.ak+1,used:=true}) hi ⟨rfl,rfl,rfl,rfl,rfl⟩ (λ hh=>hh) (by show 0<=f.ak+1/\f.ak+1<=1000000;omega) (by
  rw[show q.ak-f.ak+({f with ak:=f.ak+1,used:=true}:Fr).ak=q.ak+1 by show q.ak-f.ak+(f.ak+1)=_;omega];exact p3.1)
 rw[show kp-f.ak+({f with ak:=f.ak+1,used:=true}:Fr).ak=kp+1 by show kp-f.ak+(f.ak+1)=_;omega,show q.ak-f.ak+({f with ak:=f.ak+1,used:=true}:Fr).ak=q.ak+1 by show q.ak-f.ak+(f.ak+1)=_;omega]at s3;have HF:=zH (zA s3 ((k1.trans p2.2).trans p3.2));have R5:0<=q.ak/\q.ak<1000000:=by rw[h1.ak];exact hkp
 obtain⟨aag,KD⟩:=R5;have HP:=zH hf;clear p2 p3 s3 hb2 hfr hb h1 k1 hf
 go_wp2_with fail
 refine hcn.mono ?_;rintro e w2 ⟨rfl,rfl⟩;go_wp2;go_ret2;exact⟨i,{f with ak:=f.ak+1,used:=true},_,d,rfl,by show(q.ag.set i _)[i]?=_;rw[gB _ _ _ _ hl,if_pos rfl],HP.out,by show 0<f.ak+1;omega,HF.out.1.up (by omega),HF.out.2,rfl,rfl,rfl⟩
theorem xtl(h:Clean d aj){p:Nat}(hp1:1<=p)(hp:p<aj)(hh:bn d aj (p:Int)=true):IG d aj (p:Int)=0/\II d aj (p:Int)=jM d.x p/\Ew d aj (p:Int)=Er d:=by
 have hrl:d.rl≠0:=by rw[h.rl];decide
 unfold IG II Ew;have ha:¬bn d aj (p:Int)=false:=by rw[hh];decide
 rw[if_neg ha,if_neg ha,if_neg ha,if_neg hrl,if_neg hrl,if_neg hrl,Int.toNat_natCast];exact⟨by unfold zI;rw[h.ok p hp1 hp];rfl,rfl,rfl⟩
theorem xtm(h:PS E W P D FB M n kp q d aj k c)(hk:k+2<900000000)(hkp:0<=kp/\kp<n)(page:Int)(cK:(Lit.int .i64 page).wf=true)(hh:bn d aj page=true)(hg:page∉bU q.op)(hno:∀(i:Nat) (f:Fr),q.ag[i]?=some (some f)->f.page≠page) :
  Calls Tryz.prog 50 #[.pointer P,.int .i64 page] W λ e w'=>Ga E W w' P D FB M n kp q d aj k c page e:=by
 have c0:=h.pd.pool.box.c0;have hhas:=NJ h.pd.dd page;rw[hh]at hhas;have yT:=zH hno;have HH:=zH hh;have fD:=h.ok.few;have hln:=h.len;clear hno hh
 go_enter Tryz.func50,Tryz.ntmps50
 go_wp2_with fail
 refine hhas.mono ?_;rintro e w1 ⟨rfl,x,rfl⟩;obtain⟨h1,k1⟩:=h.looks x;generalize W.drewN x=w1 at h1 k1 ⊢;clear h hhas c0;have hb:=h1.pd.pool.box;have c2:=hb.c2;obtain⟨ao,nn,cc,hv,hcn⟩:=IY h1.pd.pool page;have c8:=hb.c8;rw[hv]at c8;rw[decide_eq_false hg]at hcn
 have hlk:(Instr.lookup 84 (.map (some M)) (.int .i64 page) true).run Tryz.prog w1= .ok (.tuple #[.int .i64 0,.bool false]) w1:=by
  rcases Om h1.pd page cK with⟨j,g,hj,hg,_⟩|⟨_,hr⟩
  ·exact absurd hg (yT.out j g hj)
  exact hr
 have HR:=zH (R7 h1 (by omega) hkp);clear hb hv
 go_wp2_with fail
 refine hcn.mono ?_;rintro e w2 ⟨rfl,rfl⟩
 go_wp2_with fail
 refine HR.out.mono ?_;rintro e w3 ⟨i,q',d',rfl,hi3,s3,k3,hop,hfr,hmo,hfw,vF⟩
 have Gj:∀(j:Nat) (g:Fr),q'.ag[j]?=some (some g)->g.page≠page:=λ j g hj=>by
  obtain⟨g0,h0,he⟩:=hfw j g hj;rw[<-he];exact yT.out j g0 h0
 have hh3:bn d' aj page=true:=by rw[vF];exact HH.out
 obtain⟨p,rfl,hp1,hp2,hp3⟩:∃p:Nat,page=p/\1<=p/\p<aj/\p∉d'.free:=by
  rw[s3.calm.clean.so.lN,decide_eq_true_eq]at hh3;exact⟨page.toNat,by omega,by omega,by omega,hh3.2.2⟩
 obtain⟨re,rs,rd⟩:=xtl s3.calm.clean hp1 hp2 hh3;have Oo:=zH (xs9 s3.pd.dd s3.kL (by omega) (p:Int));rw[re,rs,rd]at Oo;have hc:jM d'.x p=c p:=s3.calm.off p hp1 hp2 hp3 (λ j g hj hg=>absurd hg (Gj j g hj))
 have hcl:(c p).length=504:=by
  have:=xwy s3.pd.dd.fit hh3 re;rw[rs,hc]at this;exact this
 rw[hc]at Oo;have hre:=s3.kL.reads;have hokr:Ok (Er d') aj (k+2):=by have:=s3.kL.read (by omega) (p:Int);rw[rd]at this;exact this
 have HR3:=zH (zA hop (zA hfr hmo));have BQ:=zH (s3.calm.read (by omega));have R8:=zH Gj;have HI:=zH hi3;have c0:=s3.pd.pool.box.c0;have R9:=zH (λ a=>xwz d' aj (p:Int) a);rw[rd]at R9;have wX:=zH (zA s3 (k1.trans k3));clear HR hcn c2 c8 hlk k1 k3 hfw vF s3 Gj hh3 hop hfr hmo hi3 re rs rd hc hre
 go_wp2_with fail
 refine Oo.out.mono ?_;rintro e w4 ⟨rfl,d4,k4⟩;have p4:=wX.out.1.pd.disk d4 k4;have s4:PS E w4 P D FB M n kp q' (Er d') aj (k+2) c:=⟨p4,wX.out.1.ok,hokr,λ j g hj=>by rw[R9.out];exact wX.out.1.held j g hj,wX.out.1.ak,wX.out.1.len,BQ.out,(wX.out.1.up (jy _)).lim⟩;have BR:=zH (zA s4 (wX.out.2.trans (k4.mono (λ j hj=>.inl hj))));have HL:=zH (X7 p4 BR.out.1.ok (by rw[BR.out.1.ak];omega) HI.out (p:Int) cK R8.out (c p) hcl);clear Oo c0 d4 k4 p4 s4 hokr;generalize hcc:c p=cp at HL hcl;have Gl:=zH hcc;clear hcc
 go_wp2_with fail
 refine HL.out.mono ?_;rintro e w5 ⟨f,rfl,kr,CV,Ac,_,_,p5,k5⟩;have hil:=(dn.1 HI.out).1;have hpo:=BR.out.1.ok.set HI.out (u:=some f) (λ y hy=>by rw[<-bC hy,Ac];omega);rw[show q'.ak-iH none+iH (some f)=q'.ak+1 by show q'.ak-0+f.ak=_;omega]at hpo
 have s5:PS E w5 P D FB M n (kp+1) {ag:=q'.ag.set i (some f),hand:=q'.hand,ak:=q'.ak+1,op:=q'.op} (Er d') aj (k+2) c:=⟨p5,hpo,BR.out.1.kL,λ j g hj=>by
  replace hj:(q'.ag.set i (some f))[j]?=some (some g):=hj;rw[gB _ _ _ _ hil]at hj;by_cases e:i=j
  ·rw[if_pos e]at hj;rw[<-bC (bC hj),kr,R9.out,wX.out.1.calm.clean.so.lN,decide_eq_true_eq];exact⟨by omega,by omega,by rw[Int.toNat_natCast];exact hp3⟩
  rw[if_neg e]at hj;exact BR.out.1.held j g hj,by show q'.ak+1=_;rw[BR.out.1.ak],by show(q'.ag.set i _).length=n;rw[bB];exact BR.out.1.len,BR.out.1.calm.lay HI.out (by rw[CV,kr,Int.toNat_natCast];exact Gl.out.symm) _ _ _,BR.out.1.lim⟩
 have X9:=zH (zA s5 (BR.out.2.trans k5));have Kz:=zH (zA Ac kr);clear s5 k5 p5 hpo HL kr Ac CV;go_wp2;go_ret2;exact⟨i,f,_,Er d',rfl,by show(q'.ag.set i _)[i]?=_;rw[gB _ _ _ _ hil,if_pos rfl],Kz.out.2,by rw[Kz.out.1];decide,X9.out.1,X9.out.2,HR3.out.1,HR3.out.2.1,HR3.out.2.2⟩
end
open UK (str aO nth Only Row aI jR ol)
section
variable{E:Nat->Prop}{W W':World}{P D FB M aj k n:Nat}{kp:Int}{q:Pl}{d d':Dk}{c:Nat->List UInt8}
theorem xw0(o:Ok d aj k)(hk:k<900000000):(∀a,bn d aj a=true->bn (tD d aj) (tC d aj) a=true)/\(tE d aj=0->bn d aj (tP d aj:Nat)=false/\bn (tD d aj) (tC d aj) (tP d aj:Nat)=true):=by
 have wW:=(o.take hk).so;have so:=o.so;have hone:=o.fit.one;rcases NT d aj with⟨_,_,a,b,e,c⟩|⟨_,_,a,b,e,c⟩|⟨_,_,hf,a,b,e,c⟩|⟨_,l,p,hl,a,b,e,c⟩
 ·rw[e,c,a];exact⟨λ _ h=>h,λ h=>absurd h (by decide)⟩
 ·rw[e,c,a];exact⟨λ _ h=>h,λ h=>absurd h (by decide)⟩
 ·rw[e,c]at wW ⊢;rw[b];refine⟨λ x hx=>?_,λ _=>⟨?_,?_⟩⟩
  ·rw[so.lN,decide_eq_true_eq]at hx;rw[wW.lN,decide_eq_true_eq];exact⟨hx.1,by omega,hx.2.2⟩
  ·rw[so.lN,decide_eq_false_iff_not];omega
  rw[wW.lN,decide_eq_true_eq];refine⟨by omega,by omega,?_⟩;show _∉d.free;rw[hf];intro hh;cases hh
 rw[e,c]at wW ⊢;rw[b];have hpm:p∈d.free:=by rw[hl];exact fE _ (bQ.2 rfl)
 have hp:=o.fit.free p hpm;have hnd:=so.nodup;rw[hl]at hnd;have hpl:p∉l:=λ hm=>(bF.1 hnd).2.2 p hm p (bQ.2 rfl) rfl;refine⟨λ x hx=>?_,λ _=>⟨?_,?_⟩⟩
 ·rw[so.lN,decide_eq_true_eq]at hx;rw[wW.lN,decide_eq_true_eq];refine⟨hx.1,hx.2.1,λ hm=>hx.2.2 ?_⟩;rw[hl];exact bR _ hm
 ·rw[so.lN,decide_eq_false_iff_not,Int.toNat_natCast];exact λ hh=>hh.2.2 hpm
 rw[wW.lN,decide_eq_true_eq,Int.toNat_natCast];exact⟨by omega,by omega,hpl⟩
theorem xzu(w:World):(Instr.makeSlice 88 (.int .i64 504) (.int .i64 504)).run Tryz.prog w= .ok (.slice w 504 504) (w.alloc (.cells (UK.tO (UK.bW 504)) 5)):=by kernel_rfl
theorem ib.only{g:Nat}{ao:Option Addr}{n:Nat}{l:List Int}(h:ib W ao n l)(ho:Only g W W')(hn:¬aK ao g):ib W' ao n l:=
 h.af ho.size (λ j hj=>ho.block j (h.lt hj) (λ e=>hn (e▸hj)))
theorem gF{a b:Nat}(h:aK a b):b=a:=(congrArg Addr.block (bC h)).symm
theorem ib.push{ao:Option Addr}{m:Nat}{l:List Int}(h:ib W ao m l)(hl:l.length<1000000000)(v:Int) :
  ∃g' c' W',(Builtin.append_ #[73,73] 73 #[.slice ao l.length m,.slice W 1 1]).run Tryz.prog (W.alloc (.cells #[.int .i64 v] 3))= .ok (.slice (some ⟨g',0,none⟩) (l.length+1) c') W'/\Row W' g' c' (zX (l++[v]))/\Only g' W W'/\(aK ao g'\/W.heap.size<=g'):=by
 have ha:(ao=none/\zX l=[]/\m=0)\/∃g,ao=some ⟨g,0,none⟩/\Row W g m (zX l):=by
  rcases h with⟨a,b,e⟩|h
  ·exact .inl ⟨a,by rw[b];rfl,e⟩
  exact .inr h
 have aJ:(zX l).length=l.length:=kg _;obtain⟨g',c',W',e,r,o,hg⟩:=UK.I9 (P:=Tryz.prog) (t:=73) (ty:=73) Tryz.underlying73 (i:=Tryz.t3) rfl rfl rfl (show(8:Nat)<=16 by omega) rfl ha (.int .i64 v) rfl (by rw[aJ];omega);rw[aJ]at e;exact⟨g',c',W',e,by unfold zX at *;rw[jr];exact r,o,hg⟩
theorem PD.made(h:PD E W P D FB M q d aj){o:jQ}(hq:q.op=some o){g' c':Nat}{w1:World}(v:Int)(hv:(Lit.int .i64 v).wf=true)(r:Row w1 g' c' (zX (o.made++[v])))(ho:Only g' W w1)(hg:aK o.mo g'\/W.heap.size<=g')(hl:o.made.length<1000000000) :
  PD E (w1.setCell (P,7) (.slice g' (o.made.length+1) c')) P D FB M {ag:=q.ag,hand:=q.hand,ak:=q.ak,op:=some {o with mo:=some ⟨g',0,none⟩,mc:=c',made:=o.made++[v]}} d aj/\Kept E W (w1.setCell (P,7) (.slice g' (o.made.length+1) c'))/\aI w1 P (pF D FB q.ag.length M q.hand q.ak q.op):=by
 have hp:=h.pool;have hi:=hp.op o hq;have zY:=hp.box.lt;have Ad:∀j,jJ (some o) j->jJ q.op j:=λ j hj=>by rw[hq];exact hj
 have hoff:∀j,jJ (some o) j->j≠P:=λ j hj=>(hp.iU j (Ad j hj)).1
 have KG:P≠g':=by
  rcases hg with h1|h1
  ·exact(hoff g' (.inr (.inl h1))).symm
  omega
 have hwl:=hi.was.lt
 have hwg:o.wb≠g':=by
  rcases hg with h1|h1
  ·exact λ e=>hi.wm (e▸h1)
  omega
 have hgg:¬aK o.go g':=by
  rcases hg with h1|h1
  ·exact hi.mg g' h1
  exact λ e=>by have:=hi.gone.lt e;omega
 have o2:Only P w1 (w1.setCell (P,7) (.slice g' (o.made.length+1) c')):=(Only.refl P w1).set 7 _;have hbx:=hp.box.only ho KG;have hb:=hbx.set 7 (.slice g' (o.made.length+1) c');generalize w1.setCell (P,7) (.slice g' (o.made.length+1) c')=w2 at o2 hb ⊢;refine(λ hfin:PD E w2 P D FB M {ag:=q.ag,hand:=q.hand,ak:=q.ak,op:=some {o with mo:=some ⟨g',0,none⟩,mc:=c',made:=o.made++[v]}} d aj/\Kept E W w2=>⟨hfin.1,hfin.2,hbx⟩) ?_;refine h.uC (o2.os.trans ho.os) (o2.tape.trans ho.tape) (o2.output.trans ho.output) (bf ho.size o2.size) ?_ (λ x hx=>?_) (λ j hj=>?_) (λ j hj RA hjo=>?_)
 ·rw[hq]at hb
  have e:(pF D FB q.ag.length M q.hand q.ak (some o)).set! 7 (.slice g' (o.made.length+1) c')=pF D FB q.ag.length M q.hand q.ak (some {o with mo:=some ⟨g',0,none⟩,mc:=c',made:=o.made++[v]}):=by
   have el:(o.made++[v]).length=o.made.length+1:=by simp
   simp[yg,uA,Gb,IX,el]
  rw[e]at hb;exact hb
 ·obtain rfl:=bC hx;refine⟨(hi.was.af (ho.block _ hwl hwg)).af (o2.block _ (bS hwl ho.size) (hoff _ (.inl rfl))),.inr ⟨g',rfl,r.only o2 KG.symm⟩,(hi.gone.only ho hgg).only o2 (λ e=>hoff P (.inr (.inr e)) rfl),λ e=>hwg (gF e),hi.wg,λ j hj=>by rw[gF hj];exact hgg,λ p hp=>?_,hi.wU,⟨hi.few.1,by show(o.made++[v]).length<=_;rw[zl,gI];omega,hi.few.2.2⟩⟩;rcases cB.1 hp with hp|hp
  ·exact hi.wT p hp
  rw[bQ.1 hp];exact hv
 ·rcases hj with hj|hj|hj
  ·exact .inl (Ad j (.inl hj))
  ·rw[gF hj];rcases hg with h1|h1
   ·exact .inl (Ad _ (.inr (.inl h1)))
   exact .inr h1
  exact .inl (Ad j (.inr (.inr hj)))
 refine(o2.block j (bS hj ho.size) RA).trans (ho.block j hj (λ e=>?_));rcases hg with h1|h1
 ·exact hjo (e▸Ad g' (.inr (.inl h1)))
 omega
theorem PD.gone(h:PD E W P D FB M q d aj){o:jQ}(hq:q.op=some o){g' c':Nat}{w1:World}(v:Int)(hv:(Lit.int .i64 v).wf=true)(r:Row w1 g' c' (zX (o.gone++[v])))(ho:Only g' W w1)(hg:aK o.go g'\/W.heap.size<=g')(hl:o.gone.length<1000000000) :
  PD E (w1.setCell (P,8) (.slice g' (o.gone.length+1) c')) P D FB M {ag:=q.ag,hand:=q.hand,ak:=q.ak,op:=some {o with go:=some ⟨g',0,none⟩,gc:=c',gone:=o.gone++[v]}} d aj/\Kept E W (w1.setCell (P,8) (.slice g' (o.gone.length+1) c'))/\aI w1 P (pF D FB q.ag.length M q.hand q.ak q.op):=by
 have hp:=h.pool;have hi:=hp.op o hq;have zY:=hp.box.lt;have Ad:∀j,jJ (some o) j->jJ q.op j:=λ j hj=>by rw[hq];exact hj
 have hoff:∀j,jJ (some o) j->j≠P:=λ j hj=>(hp.iU j (Ad j hj)).1
 have KG:P≠g':=by
  rcases hg with h1|h1
  ·exact(hoff g' (.inr (.inr h1))).symm
  omega
 have hwl:=hi.was.lt
 have hwg:o.wb≠g':=by
  rcases hg with h1|h1
  ·exact λ e=>hi.wg (e▸h1)
  omega
 have hgg:¬aK o.mo g':=by
  rcases hg with h1|h1
  ·exact λ e=>hi.mg g' e h1
  exact λ e=>by have:=hi.made.lt e;omega
 have o2:Only P w1 (w1.setCell (P,8) (.slice g' (o.gone.length+1) c')):=(Only.refl P w1).set 8 _;have hbx:=hp.box.only ho KG;have hb:=hbx.set 8 (.slice g' (o.gone.length+1) c');generalize w1.setCell (P,8) (.slice g' (o.gone.length+1) c')=w2 at o2 hb ⊢;refine(λ hfin:PD E w2 P D FB M {ag:=q.ag,hand:=q.hand,ak:=q.ak,op:=some {o with go:=some ⟨g',0,none⟩,gc:=c',gone:=o.gone++[v]}} d aj/\Kept E W w2=>⟨hfin.1,hfin.2,hbx⟩) ?_;refine h.uC (o2.os.trans ho.os) (o2.tape.trans ho.tape) (o2.output.trans ho.output) (bf ho.size o2.size) ?_ (λ x hx=>?_) (λ j hj=>?_) (λ j hj RA hjo=>?_)
 ·rw[hq]at hb
  have e:(pF D FB q.ag.length M q.hand q.ak (some o)).set! 8 (.slice g' (o.gone.length+1) c')=pF D FB q.ag.length M q.hand q.ak (some {o with go:=some ⟨g',0,none⟩,gc:=c',gone:=o.gone++[v]}):=by
   have el:(o.gone++[v]).length=o.gone.length+1:=by simp
   simp[yg,uA,Gb,IX,el]
  rw[e]at hb;exact hb
 ·obtain rfl:=bC hx;refine⟨(hi.was.af (ho.block _ hwl hwg)).af (o2.block _ (bS hwl ho.size) (hoff _ (.inl rfl))),(hi.made.only ho hgg).only o2 (λ e=>hoff P (.inr (.inl e)) rfl),.inr ⟨g',rfl,r.only o2 KG.symm⟩,hi.wm,λ e=>hwg (gF e),λ j hj e=>hgg (gF e▸hj),hi.wT,λ p hp=>?_,⟨hi.few.1,hi.few.2.1,by show(o.gone++[v]).length<=_;rw[zl,gI];omega⟩⟩;rcases cB.1 hp with hp|hp
  ·exact hi.wU p hp
  rw[bQ.1 hp];exact hv
 ·rcases hj with hj|hj|hj
  ·exact .inl (Ad j (.inl hj))
  ·exact .inl (Ad j (.inr (.inl hj)))
  rw[gF hj];rcases hg with h1|h1
  ·exact .inl (Ad _ (.inr (.inr h1)))
  exact .inr h1
 refine(o2.block j (bS hj ho.size) RA).trans (ho.block j hj (λ e=>?_));rcases hg with h1|h1
 ·exact hjo (e▸Ad g' (.inr (.inr h1)))
 omega
def BO(d:Dk)(aj:Nat):Prop:=d.ax<=aj/\d.free=[]
theorem xtn(h:Calm q d aj c)(h3:d.puts+1<1000000000)(hf:¬BO d aj)(hh:∀(i:Nat) (f:Fr),q.ag[i]?=some (some f)->bn d aj f.page=true):tE d aj=0/\Calm q (tD d aj) (tC d aj) (dI c (tP d aj) (UK.bW 504)):=by
 have hwl:d.wl≠0:=by rw[h.clean.wl];decide
 rcases NT d aj with⟨a,b,_⟩|⟨_,a,_⟩|⟨hm,_,hfr,a,b,e,c⟩|⟨_,l,p,hl,a,b,e,c⟩
 ·exact absurd ⟨a,b⟩ hf
 ·exact absurd a hwl
 ·rw[a,b,e,c];exact⟨rfl,h.takeN h3 hfr hm hh⟩
 rw[a,b,e,c];exact⟨rfl,h.gP h3 hl hh⟩
def Oq(o o':Option jQ)(p:Int):Prop:=(o=none/\o'=none)\/∃x y,o=some x/\o'=some y/\y.was=x.was/\y.wn=x.wn/\y.made=x.made++[p]/\y.gone=x.gone
def KI(o o':Option jQ)(p:Int):Prop:=∃x y,o=some x/\o'=some y/\y.was=x.was/\y.wn=x.wn/\y.made=x.made/\y.gone=x.gone++[p]
def yb2(E:Nat->Prop)(W w':World)(P D FB M n:Nat)(kp:Int)(q:Pl)(d:Dk)(aj k:Nat)(c:Nat->List UInt8)(e:Ending):Prop:=
 ∃(q':Pl) (d':Dk),e= .returned (.tuple #[.pointer none,.int .i64 6])/\PS E w' P D FB M n kp q' d' aj (k+2) c/\Kept E W w'/\q'.op=q.op/\d'.free=d.free/\d'.ax=d.ax
def yb3(E:Nat->Prop)(W w':World)(P D FB M n:Nat)(kp:Int)(q:Pl)(d:Dk)(aj k:Nat)(c:Nat->List UInt8)(e:Ending):Prop:=
 ∃(i:Nat) (f:Fr) (q':Pl) (d':Dk),e= .returned (.tuple #[.pointer f.blk,.int .i64 0])/\q'.ag[i]?=some (some f)/\f.page=(tP d aj:Nat)/\0<f.ak/\PS E w' P D FB M n (kp+1) q' d' (tC d aj) (k+2) (dI c (tP d aj) (UK.bW 504))/\Kept E W w'/\Oq q.op q'.op (tP d aj:Nat)/\d'.free=(tD d aj).free/\d'.ax=d.ax
theorem ya7{d d':Dk}(hf:d'.free=d.free)(hm:d'.ax=d.ax)(hw:d'.wl=d.wl)(aj:Nat):tE d' aj=tE d aj/\tP d' aj=tP d aj/\tC d' aj=tC d aj/\(tD d' aj).free=(tD d aj).free/\(tD d' aj).ax=(tD d aj).ax:=by
 unfold tE tP tC tD;rw[hf,hm,hw];refine⟨rfl,rfl,rfl,?_,?_⟩
 all_goals
  split
  ·first|rfl|exact hf|exact hm
  split
  ·first|rfl|exact hf|exact hm
  split
  ·first|rfl|exact hf|exact hm
  first|rfl|exact hm
theorem xtp(h:PS E W P D FB M n kp q d aj k c)(hk:k+2<900000000)(hkp:0<=kp/\kp<n)(hf:BO d aj) :
  Calls Tryz.prog 55 #[.pointer P] W λ e w'=>yb2 E W w' P D FB M n kp q d aj k c e:=by
 have HR:=zH (R7 h (by omega) hkp);clear h
 go_enter Tryz.func55,Tryz.ntmps55
 go_wp2_with fail
 refine HR.out.mono ?_;rintro e w3 ⟨i,q',d',rfl,hi3,s3,k3,hop,hfr,hmo,hfw,vF⟩;have hf2:d'.ax<=aj/\d'.free=[]:=by rw[hfr,hmo];exact hf
 have hT:=WO s3.pd.dd s3.kL (by omega);have e1:tE d' aj=6:=by unfold tE;rw[if_pos hf2]
 have e2:tP d' aj=0:=by unfold tP;rw[if_pos hf2]
 have e3:tD d' aj=d':=by unfold tD;rw[if_pos hf2]
 have e4:tC d' aj=aj:=by unfold tC;rw[if_pos hf2]
 rw[e1,e2,e3,e4]at hT;have HT:=zH hT;have c0:=s3.pd.pool.box.c0;have wX:=zH (zA s3 (zA k3 (zA hop (zA hfr hmo))));clear HR hT s3 k3 hop hfr hmo hfw vF hi3 hf2 e1 e2 e3 e4
 go_wp2_with fail
 refine HT.out.mono ?_;rintro e w4 ⟨rfl,d4,k4⟩;obtain⟨s3,k3,hop,hfr,hmo⟩:=wX.out;have s4:PS E w4 P D FB M n kp q' d' aj (k+2) c:=(show PS E w4 P D FB M n kp q' d' aj (k+1) c from⟨s3.pd.disk d4 k4,s3.ok,s3.kL,s3.held,s3.ak,s3.len,s3.calm,s3.lim⟩).up (by omega);have HF:=zH (zA s4 (zA (k3.trans (k4.mono (λ j hj=>.inl hj))) (zA hop (zA hfr hmo))));clear HT wX s3 s4 d4 k4 k3 hop hfr hmo c0;go_wp2;go_ret2;exact⟨q',d',rfl,HF.out.1,HF.out.2.1,HF.out.2.2.1,HF.out.2.2.2.1,HF.out.2.2.2.2⟩
theorem Oq.lim{o o':Option jQ}{p:Int}(h:Oq o o' p)(hl:∀x,o=some x->x.wn<=k/\x.made.length<=k/\x.gone.length<=k):∀x,o'=some x->x.wn<=k+1/\x.made.length<=k+1/\x.gone.length<=k+1:=λ x hx=>by
 rcases h with⟨_,h⟩|⟨a,b,ha,hb,h1,h2,h3,h4⟩
 ·rw[h]at hx;cases hx
 rw[hb]at hx;have:=hl a ha;rw[<-bC hx,h2,h3,h4,zl,gI];omega
theorem KI.lim{o o':Option jQ}{p:Int}(h:KI o o' p)(hl:∀x,o=some x->x.wn<=k/\x.made.length<=k/\x.gone.length<=k):∀x,o'=some x->x.wn<=k+1/\x.made.length<=k+1/\x.gone.length<=k+1:=λ x hx=>by
 obtain⟨a,b,ha,hb,h1,h2,h3,h4⟩:=h;rw[hb]at hx;have:=hl a ha;rw[<-bC hx,h2,h3,h4,zl,gI];omega
theorem XA(h:PS E W P D FB M n kp q d aj k c)(hkp:0<=kp/\kp<1000000){i:Nat}(hi:q.ag[i]?=some none)(p:Nat)(hp:bn d aj (p:Int)=true)(hno:∀(j:Nat) (g:Fr),q.ag[j]?=some (some g)->g.page≠(p:Int))(hcp:c p=UK.bW 504)(hpw:p<60000) :
  Calls Tryz.prog 87 #[.pointer P,.int .i64 i,.int .i64 p,.string (str (UK.bW 504))] W λ e w'=>∃f:Fr,e= .returned (.pointer f.blk)/\f.page=p/\0<f.ak/\PS E w' P D FB M n (kp+1) {ag:=q.ag.set i (some f),hand:=q.hand,ak:=q.ak+1,op:=q.op} d aj k c/\Kept E W w':=by
 refine(X7 h.pd h.ok (by rw[h.ak];omega) hi (p:Int) (WalkArith.wf_i64 (by omega)) hno (UK.bW 504) (UK.lI 504)).mono ?_;rintro e w5 ⟨f,rfl,kr,CV,Ac,IR,hfu,p5,k5⟩;have hil:=(dn.1 hi).1;have hpo:=h.ok.set hi (u:=some f) (λ y hy=>by rw[<-bC hy,Ac];omega);rw[show q.ak-iH none+iH (some f)=q.ak+1 by show q.ak-0+f.ak=_;omega]at hpo;refine⟨f,rfl,kr,by omega,⟨p5,hpo,h.kL,λ j g hj=>?_,by show q.ak+1=_;rw[h.ak],by show(q.ag.set i _).length=n;rw[bB];exact h.len,h.calm.lay hi (by rw[CV,kr,Int.toNat_natCast,hcp]) _ _ _,h.lim⟩,k5⟩;replace hj:(q.ag.set i (some f))[j]?=some (some g):=hj;rw[gB _ _ _ _ hil]at hj;by_cases e:i=j
 ·rw[if_pos e]at hj;rw[<-bC (bC hj),kr];exact hp
 rw[if_neg e]at hj;exact h.held j g hj
theorem xtq(h:PS E W P D FB M n kp q d aj k c)(hk:k+2<900000000)(hkp:0<=kp/\kp<n)(hf:¬BO d aj) :
  Calls Tryz.prog 55 #[.pointer P] W λ e w'=>yb3 E W w' P D FB M n kp q d aj k c e:=by
 have HR:=zH (R7 h (by omega) hkp);have hmk:=xzu;have fD:=h.ok.few;have hln:=h.len;have Gm:=zH h.calm.clean.wl;have hz2:((UK.bW 504).drop 0).take 504=UK.bW 504:=by rw[lL,eZ (by rw[UK.lI];omega)]
 have hcv:=λ w:World=>UK.Cz (P:=Tryz.prog) (src:=88) (dst:=9) Tryz.underlying88 Tryz.underlying5 Tryz.underlying9 (Wj w (UK.bW 504)) 0 504 504 (by rw[UK.lI];omega);rw[hz2]at hcv;clear h hz2
 go_enter Tryz.func55,Tryz.ntmps55
 go_wp2_with fail
 refine HR.out.mono ?_;rintro e w3 ⟨i,q',d',rfl,hi3,s3,k3,hop,hfr,hmo,hfw,vF⟩;have hf2:¬BO d' aj:=by unfold BO;rw[hfr,hmo];exact hf
 have ry:=s3.kL.puts;obtain⟨t0,t1⟩:=xtn s3.calm (by omega) hf2 s3.held;obtain⟨e1,e2,e3,e4,e5⟩:=ya7 hfr hmo (by rw[s3.calm.clean.wl,Gm.out]) aj;have hth:=xw0 s3.kL (by omega);have hT:=WO s3.pd.dd s3.kL (by omega);have sO:=s3.kL.take (by omega);have rA:=hth.2 t0;have XB:=sO.fit.few;have Ae:=rA.2;rw[sO.so.lN,decide_eq_true_eq]at Ae;rw[t0]at hT;have oq:(tD d' aj).ax=d.ax:=by rw[e5,<-hmo];exact(show(tD d aj).ax=d.ax by unfold tD;split;rfl;split;rfl;split<;>rfl).trans hmo.symm
 have HE:=zH (zA e2 (zA e3 (zA e4 (zA oq hop))));have HI:=zH hi3;clear HR hop hfr hmo hfw vF hi3 e1 e2 e3 e4 e5 oq t0;generalize htp:tP d' aj=tp at hT rA Ae t1 HE;generalize htd:tD d' aj=td at hT hth rA Ae sO t1 HE;generalize htc:tC d' aj=tc at hT hth rA Ae sO t1 HE XB;have HT:=zH hT;have hpw:tp<60000:=by omega
 have hno:∀(j:Nat) (g:Fr),q'.ag[j]?=some (some g)->g.page≠(tp:Int):=λ j g hj hg=>by
  have:=s3.held j g hj;rw[hg,rA.1]at this;cases this
 have c0:=s3.pd.pool.box.c0;have RB:=zH s3.lim;have wX:=zH (zA s3 (zA k3 (zA sO (zA t1 (zA hth rA)))));have yT:=zH hno;clear hT s3 k3 sO t1 hth rA Ae hf2 htp htd htc hno XB
 go_wp2_with fail
 refine HT.out.mono ?_;rintro e w4 ⟨rfl,d4,k4⟩;obtain⟨s3,k3,sO,t1,hth,rA⟩:=wX.out;have s4:PS E w4 P D FB M n kp q' td tc (k+2) (dI c tp (UK.bW 504)):=⟨s3.pd.disk d4 k4,s3.ok,sO,λ j g hj=>hth.1 _ (s3.held j g hj),s3.ak,s3.len,t1,(s3.up (jy _)).lim⟩;have K4:=zH (k3.trans (k4.mono (λ j hj=>.inl hj)));have XC:=zH rA.2;have c5:=s4.pd.pool.box.c5;have c7:=s4.pd.pool.box.c7;have XD:dI c tp (UK.bW 504) tp=UK.bW 504:=by unfold dI;rw[if_pos rfl]
 have Ja:=zH XD;clear wX HT s3 k3 sO t1 hth rA d4 k4 c0 XD
 cases hq:q'.op with
 | none=>
  rw[hq]at c5;simp only[yg,Option.isSome_none]at c5;have hb4:Below w4 w4 (w4.alloc (.cells (UK.tO (UK.bW 504)) 5)):=(aP _ _).alloc (aZ _) _;have HL:=zH (XA (s4.next hb4) ⟨hkp.1,by omega⟩ HI.out tp XC.out yT.out Ja.out hpw);have K5:=zH (K4.out.trans (s4.Ab hb4));have HQ:=zH hq;have Af:=hmk w4;have yh:=hcv w4;clear c7 s4 hb4 hq hmk hcv;have HC:=zH (rfl:dI c tp (UK.bW 504)=dI c tp (UK.bW 504));generalize hcc:dI c tp (UK.bW 504)=cc at HL Ja;have Gl:=zH hcc;clear hcc HC Ja;generalize UK.bW 504=zz at yh HL Af K5
  go_wp2_with fail
  refine HL.out.mono ?_;rintro e w5 ⟨f,rfl,kr,hfp,s5,k5⟩;have HF:=zH (zA kr (zA hfp (zA s5 (K5.out.trans k5))));clear HL K5 yh Af kr hfp s5 k5;go_wp2;go_ret2;obtain⟨kr,hfp,s5,k5⟩:=HF.out;obtain⟨e2,e3,e4,oq,hop⟩:=HE.out;rw[<-Gl.out]at s5;rw[e2,e3]at s5;exact⟨i,f,_,td,rfl,by show(q'.ag.set i _)[i]?=_;rw[gB _ _ _ _ (dn.1 HI.out).1,if_pos rfl],by rw[kr,e2],hfp,s5,k5,.inl ⟨by rw[<-hop];exact HQ.out,HQ.out⟩,e4,oq⟩
 | some o=>
  rw[hq]at c5 c7;simp only[yg,Gb,Option.isSome_some]at c5 c7;have ho:=s4.pd.pool.op o hq;have hlim:=s4.lim o hq;obtain⟨g',c',w5,happ,r5,o5,hg5⟩:=ho.made.push (by omega) (tp:Int);obtain⟨p6,k6,b5⟩:=s4.pd.made hq (tp:Int) (WalkArith.wf_i64 (by omega)) r5 o5 hg5 (by omega);have f7:=b5.free 7;have c7':=b5.c7;have hl3:=RB.out o hq
  have s6:=s4.op (op':=some {o with mo:=some ⟨g',0,none⟩,mc:=c',made:=o.made++[(tp:Int)]}) (λ x hx=>by
   rw[<-bC hx];show o.wn<=_/\(o.made++[(tp:Int)]).length<=_/\o.gone.length<=_;rw[zl,gI];omega) p6
  have HM:Hid (Oq q'.op (some {o with mo:=some ⟨g',0,none⟩,mc:=c',made:=o.made++[(tp:Int)]}) (tp:Int)):=.inr ⟨o,_,hq,rfl,rfl,rfl,rfl,rfl⟩;generalize Jb:w5.setCell (P,7) (.slice g' (o.made.length+1) c')=w6 at s6 k6;have hb4:Below w6 w6 (w6.alloc (.cells (UK.tO (UK.bW 504)) 5)):=(aP _ _).alloc (aZ _) _;have HL:=zH (XA (s6.next hb4) ⟨hkp.1,by omega⟩ HI.out tp XC.out yT.out Ja.out hpw);have K5:=zH ((K4.out.trans k6).trans (s6.Ab hb4));have Af:=hmk w6;have yh:=hcv w6;clear s4 hb4 hq hmk hcv p6 b5 r5 o5 hg5 hlim hl3 ho k6 s6;generalize hcc:dI c tp (UK.bW 504)=cc at HL Ja;have Gl:=zH hcc;clear hcc Ja;generalize UK.bW 504=zz at yh HL Af K5;have KJ:w6.heap.size=w5.heap.size:=by rw[<-Jb];simp[World.setCell]
  rw[KJ]at yh;subst Jb;clear KJ
  go_wp2_with (at_builtin;refine UK.pV happ rfl rfl rfl rfl rfl ?_)
  refine HL.out.mono ?_;rintro e w7 ⟨f,rfl,kr,hfp,s7,k7⟩;have HF:=zH (zA kr (zA hfp (zA s7 (K5.out.trans k7))));clear HL K5 yh Af kr hfp s7 k7 happ c7' f7 c5 c7;go_wp2;go_ret2;obtain⟨kr,hfp,s5,k5⟩:=HF.out;obtain⟨e2,e3,e4,oq,hop⟩:=HE.out;rw[<-Gl.out]at s5;rw[e2,e3]at s5;refine⟨i,f,_,td,rfl,by show(q'.ag.set i _)[i]?=_;rw[gB _ _ _ _ (dn.1 HI.out).1,if_pos rfl],by rw[kr,e2],hfp,s5,k5,?_,e4,oq⟩;have hm:=HM.out;rw[hop,e2]at hm;exact hm
end
section
variable{E:Nat->Prop}{W W':World}{P D FB M aj k n:Nat}{kp:Int}{q:Pl}{d d':Dk}{c:Nat->List UInt8}
theorem xtr(h:Clean d aj){p:Nat}(hh:bn d aj (p:Int)=true):IJ d aj (p:Int)=0/\Ex d aj (p:Int)=ul d p:=by
 have hwl:d.wl≠0:=by rw[h.wl];decide
 unfold IJ Ex;have ha:¬bn d aj (p:Int)=false:=by rw[hh];decide
 rw[if_neg ha,if_neg ha,if_neg hwl,Int.toNat_natCast];exact⟨by unfold jf;rw[if_neg hwl],rfl⟩
theorem xw2(o:Ok d aj k)(hk:k<900000000)(p:Int)(a:Int)(ha:bn d aj a=true)(hne:IJ d aj p=0->a≠p):bn (Ex d aj p) aj a=true:=by
 have wW:=(o.give hk p).so;have so:=o.so;unfold IJ at hne;unfold Ex at wW ⊢;by_cases hh:bn d aj p=false
 ·rw[if_pos hh]at wW ⊢;exact ha
 rw[if_neg hh]at wW hne ⊢;by_cases hz:d.wl=0
 ·rw[if_pos hz];exact ha
 rw[if_neg hz]at wW ⊢;have h0:jf d.wl=0:=by unfold jf;rw[if_neg hz]
 obtain⟨m,rfl,hm⟩:=FR hh;rw[so.lN,decide_eq_true_eq]at ha;rw[wW.lN,decide_eq_true_eq];refine⟨ha.1,ha.2.1,λ hmem=>?_⟩;have hmem:a.toNat∈d.free++[(m:Int).toNat]:=hmem;rcases cB.1 hmem with hx|hx
 ·exact ha.2.2 hx
 have:=bQ.1 hx;rw[Int.toNat_natCast]at this;exact hne h0 (by omega)
theorem xts(h:PS E W P D FB M n kp q d aj k c){page:Int}(hk:k+1<900000000){o:jQ}(hq:q.op=some o)(hq0:∀(i:Nat) (f:Fr),q.ag[i]?=some (some f)->f.page=page->f.ak<=0)(cK:(Lit.int .i64 page).wf=true)(hh:bn d aj page=true)(hg:page∉bU q.op) :
  Calls Tryz.prog 68 #[.pointer P,.int .i64 page] W λ e w'=>e= .returned (.int .i64 0)/\∃op',KI q.op op' page/\PS E w' P D FB M n kp {ag:=q.ag,hand:=q.hand,ak:=q.ak,op:=op'} d aj (k+1) c/\Kept E W w':=by
 have hb:=h.pd.pool.box;have c2:=hb.c2;have c0:=hb.c0;have c1:=hb.c1;have hhas:=NJ h.pd.dd page;have fD:=h.ok.few;rw[hh]at hhas;rcases Om h.pd page cK with⟨i,f,hi,hf,hlk⟩|⟨hno,hlk⟩
 ·have hfr:=h.pd.pool.each i f hi;have hil:=(dn.1 hi).1;have cF:W.cell? (FB,i)=some (.pointer f.blk):=h.pd.frame hi;have d3:=hfr.box.c3;have hfp:=hq0 i f hi hf;have HF:=zH hf;clear hf;generalize Ag:f.ak=fp at d3 hfp;have KM:=zH Ag;clear Ag hfr hb
  go_enter Tryz.func68,Tryz.ntmps68
  go_wp2_with fail
  refine hhas.mono ?_;rintro e w1 ⟨rfl,x,rfl⟩;obtain⟨h1,k1⟩:=h.looks x;generalize W.drewN x=w1 at h1 k1 ⊢;obtain⟨ao,nn,cc,hv,hcn⟩:=IY h1.pd.pool page;have c8:=h1.pd.pool.box.c8;have c5:=h1.pd.pool.box.c5;have c0:=h1.pd.pool.box.c0;rw[hv]at c8;rw[decide_eq_false hg]at hcn;clear hhas
  go_wp2_with fail
  refine hcn.mono ?_;rintro e w2 ⟨rfl,rfl⟩;rw[hq]at c5 hv;simp only[yg,Option.isSome_some]at c5;obtain⟨e1,e2,e3⟩:=Value.slice.inj hv;subst e1 e2 e3;clear hv;have ho:=h1.pd.pool.op o hq;have hlim:=h1.lim o hq;obtain⟨g',c',w5,happ,r5,o5,hg5⟩:=ho.gone.push (by omega) page;obtain⟨p6,k6,b5⟩:=h1.pd.gone hq page cK r5 o5 hg5 (by omega);have f8:=b5.free 8;have c8':=b5.c8
  have s6:=(h1.up (jy k)).op (op':=some {o with go:=some ⟨g',0,none⟩,gc:=c',gone:=o.gone++[page]}) (λ x hx=>by
   rw[<-bC hx];show o.wn<=_/\o.made.length<=_/\(o.gone++[page]).length<=_;rw[zl,gI];omega) p6
  have HM:Hid (KI q.op (some {o with go:=some ⟨g',0,none⟩,gc:=c',gone:=o.gone++[page]}) page):=⟨o,_,hq,rfl,rfl,rfl,rfl,rfl⟩;have HS:=zH (zA s6 (k1.trans k6));clear ho hlim r5 o5 hg5 p6 k6 b5 s6 h1 k1 hq h
  go_wp2_with (at_builtin;refine UK.pV happ rfl rfl rfl rfl rfl ?_)
  go_ret;exact⟨rfl,_,HM.out,HS.out.1,HS.out.2⟩
 clear hb hno
 go_enter Tryz.func68,Tryz.ntmps68
 go_wp2_with fail
 refine hhas.mono ?_;rintro e w1 ⟨rfl,x,rfl⟩;obtain⟨h1,k1⟩:=h.looks x;generalize W.drewN x=w1 at h1 k1 ⊢;obtain⟨ao,nn,cc,hv,hcn⟩:=IY h1.pd.pool page;have c8:=h1.pd.pool.box.c8;have c5:=h1.pd.pool.box.c5;have c0:=h1.pd.pool.box.c0;rw[hv]at c8;rw[decide_eq_false hg]at hcn;clear hhas
 go_wp2_with fail
 refine hcn.mono ?_;rintro e w2 ⟨rfl,rfl⟩;rw[hq]at c5 hv;simp only[yg,Option.isSome_some]at c5;obtain⟨e1,e2,e3⟩:=Value.slice.inj hv;subst e1 e2 e3;clear hv;have ho:=h1.pd.pool.op o hq;have hlim:=h1.lim o hq;obtain⟨g',c',w5,happ,r5,o5,hg5⟩:=ho.gone.push (by omega) page;obtain⟨p6,k6,b5⟩:=h1.pd.gone hq page cK r5 o5 hg5 (by omega);have f8:=b5.free 8;have c8':=b5.c8
 have s6:=(h1.up (jy k)).op (op':=some {o with go:=some ⟨g',0,none⟩,gc:=c',gone:=o.gone++[page]}) (λ x hx=>by
  rw[<-bC hx];show o.wn<=_/\o.made.length<=_/\(o.gone++[page]).length<=_;rw[zl,gI];omega) p6
 have HM:Hid (KI q.op (some {o with go:=some ⟨g',0,none⟩,gc:=c',gone:=o.gone++[page]}) page):=⟨o,_,hq,rfl,rfl,rfl,rfl,rfl⟩;have HS:=zH (zA s6 (k1.trans k6));clear ho hlim r5 o5 hg5 p6 k6 b5 s6 h1 k1 hq h
 go_wp2_with (at_builtin;refine UK.pV happ rfl rfl rfl rfl rfl ?_)
 go_ret;exact⟨rfl,_,HM.out,HS.out.1,HS.out.2⟩
def yb4(E:Nat->Prop)(W w':World)(P D FB M n:Nat)(kp:Int)(d:Dk)(aj k:Nat)(c:Nat->List UInt8)(page:Int)(e:Ending):Prop:=
 ∃(q':Pl) (d':Dk),e= .returned (.int .i64 0)/\PS E w' P D FB M n kp q' d' aj (k+1) c/\Kept E W w'/\q'.op=none/\d'.free=d.free++[page.toNat]/\d'.ax=d.ax
theorem xtt(h:PS E W P D FB M n kp q d aj k c){page:Int}(hk:k+1<900000000)(hq:q.op=none)(hq0:∀(i:Nat) (f:Fr),q.ag[i]?=some (some f)->f.page=page->f.ak<=0)(cK:(Lit.int .i64 page).wf=true)(hh:bn d aj page=true) :
  Calls Tryz.prog 68 #[.pointer P,.int .i64 page] W λ e w'=>yb4 E W w' P D FB M n kp d aj k c page e:=by
 have hg:page∉bU q.op:=by rw[hq];exact List.not_mem_nil
 obtain⟨p,rfl,hp1,hp2,hp3⟩:∃p:Nat,page=p/\1<=p/\p<aj/\p∉d.free:=by
  have hh:=hh;rw[h.calm.clean.so.lN,decide_eq_true_eq]at hh;exact⟨page.toNat,by omega,by omega,by omega,hh.2.2⟩
 obtain⟨re,rd⟩:=xtr h.calm.clean hh;have ry:=h.kL.puts;have hgh:=λ a ha hne=>xw2 h.kL (by omega) (p:Int) a ha hne;have Gn:=h.kL.give (by omega) (p:Int);rw[rd]at hgh Gn;have XE:=zH hgh;have XF:=zH Gn
 have HG:=zH (λ (w:World) (hw:PS E w P D FB M n kp q d aj k c)=>(show Calls Tryz.prog 108 #[.pointer D,.int .i64 (p:Int)] w λ e w'=>e= .returned (.int .i64 0)/\DD (λ k=>E k\/jK P FB M q.ag q.op k) w' D (ul d p) aj/\Kept (λ k=>E k\/jK P FB M q.ag q.op k) w w' by
  have:=xs8 hw.pd.dd hw.kL (by omega) (p:Int);rw[re,rd]at this;exact this))
 clear re rd hgh Gn;have hb:=h.pd.pool.box;have c2:=hb.c2;have c0:=hb.c0;have c1:=hb.c1;have hhas:=NJ h.pd.dd (p:Int);have fD:=h.ok.few;rw[hh]at hhas;rcases Om h.pd (p:Int) cK with⟨i,f,hi,hf,hlk⟩|⟨hno,hlk⟩
 ·have hfr:=h.pd.pool.each i f hi;have hil:=(dn.1 hi).1;have cF:W.cell? (FB,i)=some (.pointer f.blk):=h.pd.frame hi;have d3:=hfr.box.c3;have hfp:=hq0 i f hi hf;have HF:=zH hf;clear hf;generalize Ag:f.ak=fp at d3 hfp;have KM:=zH Ag;clear Ag hfr hb
  go_enter Tryz.func68,Tryz.ntmps68
  go_wp2_with fail
  refine hhas.mono ?_;rintro e w1 ⟨rfl,x,rfl⟩;obtain⟨h1,k1⟩:=h.looks x;generalize W.drewN x=w1 at h1 k1 ⊢;obtain⟨ao,nn,cc,hv,hcn⟩:=IY h1.pd.pool (p:Int);have c8:=h1.pd.pool.box.c8;have c5:=h1.pd.pool.box.c5;have c0:=h1.pd.pool.box.c0;rw[hv]at c8;rw[decide_eq_false hg]at hcn;clear hhas
  go_wp2_with fail
  refine hcn.mono ?_;rintro e w2 ⟨rfl,rfl⟩;rw[hq]at c5;simp only[yg,Option.isSome_none]at c5;have KN:=zH (HG.out _ h1);have KO:=zH (zA h1 (zA k1 hq));clear HG hv hcn h h1 k1 hq
  go_wp2_with fail
  refine KN.out.mono ?_;rintro e w3 ⟨rfl,KP,k3⟩;obtain⟨h1,k1,hq⟩:=KO.out;have p3:=h1.pd.disk KP k3;have K3:=zH (k1.trans (k3.mono (λ j hj=>.inl hj)));have HR:=zH (R4 p3 h1.ok hi);have hpo:=h1.ok.set hi (u:=none) (λ g hg=>by cases hg);rw[show q.ak-iH (some f)+iH none=q.ak by show q.ak-f.ak+0=_;have:=KM.out;have:=(h1.ok.pos i f hi).1;omega]at hpo
  have s4:∀w4,PD E w4 P D FB M {q with ag:=q.ag.set i none} (ul d p) aj->PS E w4 P D FB M n kp {q with ag:=q.ag.set i none} (ul d p) aj (k+1) c:=λ w4 p4=>by
   refine⟨p4,hpo,XF.out,λ j g hj=>?_,h1.ak,by show(q.ag.set i none).length=n;rw[bB];exact h1.len,h1.calm.give (by omega) p hp1 hp2 hp3 (λ j g hj=>?_) (λ j g hj hne=>?_) _ _ _,(h1.up (jy k)).lim⟩
   ·replace hj:(q.ag.set i none)[j]?=some (some g):=hj;rw[gB _ _ _ _ hil]at hj;by_cases e:i=j
    ·rw[if_pos e]at hj;cases hj
    rw[if_neg e]at hj;exact XE.out _ (h1.held j g hj) (λ _ gM=>e (h1.inj hi hj (by rw[HF.out,gM])))
   ·rw[gB _ _ _ _ hil]at hj;by_cases e:i=j
    ·rw[if_pos e]at hj;cases hj
    rw[if_neg e]at hj;exact hj
   rw[gB _ _ _ _ hil,if_neg (λ e=>?_)]
   ·exact hj
   subst e;rw[hi]at hj;rw[<-bC (bC hj)]at hne;exact hne HF.out
  have HS:=zH s4;have HQ:=zH hq;rw[HF.out]at HR;clear KN KO h1 k1 hq p3 hpo s4 KP k3
  go_wp2_with fail
  refine HR.out.mono ?_;rintro e w4 ⟨rfl,p4,k4⟩;have S4:=zH (HS.out w4 p4);have K4:=zH (K3.out.trans k4);clear HR HS K3 p4 k4;go_wp2;go_ret;exact⟨_,ul d p,rfl,S4.out,K4.out,HQ.out,rfl,rfl⟩
 have yT:=zH hno;clear hb hno
 go_enter Tryz.func68,Tryz.ntmps68
 go_wp2_with fail
 refine hhas.mono ?_;rintro e w1 ⟨rfl,x,rfl⟩;obtain⟨h1,k1⟩:=h.looks x;generalize W.drewN x=w1 at h1 k1 ⊢;obtain⟨ao,nn,cc,hv,hcn⟩:=IY h1.pd.pool (p:Int);have c8:=h1.pd.pool.box.c8;have c5:=h1.pd.pool.box.c5;have c0:=h1.pd.pool.box.c0;rw[hv]at c8;rw[decide_eq_false hg]at hcn;clear hhas
 go_wp2_with fail
 refine hcn.mono ?_;rintro e w2 ⟨rfl,rfl⟩;rw[hq]at c5;simp only[yg,Option.isSome_none]at c5;have KN:=zH (HG.out _ h1);have KO:=zH (zA h1 (zA k1 hq));clear HG hv hcn h h1 k1 hq
 go_wp2_with fail
 refine KN.out.mono ?_;rintro e w3 ⟨rfl,KP,k3⟩;obtain⟨h1,k1,hq⟩:=KO.out;have p3:=h1.pd.disk KP k3;have K3:=zH (k1.trans (k3.mono (λ j hj=>.inl hj)));have HR:=zH (xte p3 (p:Int) cK yT.out);have s4:PS E w3 P D FB M n kp q (ul d p) aj (k+1) c:=⟨p3,h1.ok,XF.out,λ j g hj=>XE.out _ (h1.held j g hj) (λ _=>yT.out j g hj),h1.ak,h1.len,h1.calm.give (by omega) p hp1 hp2 hp3 (λ j g hj=>hj) (λ j g hj _=>hj) _ _ _,(h1.up (jy k)).lim⟩;have HS:=zH s4;have HQ:=zH hq;clear KN KO h1 k1 hq p3 s4 KP k3
 go_wp2_with fail
 refine HR.out.mono ?_;rintro e w4 ⟨rfl,rfl⟩;clear HR;go_wp2;go_ret;exact⟨_,ul d p,rfl,HS.out,K3.out,HQ.out,rfl,rfl⟩
end
section
variable{E:Nat->Prop}{W W':World}{P D FB M aj k n:Nat}{kp:Int}{q:Pl}{d d':Dk}{c:Nat->List UInt8}
theorem PS.az(h:PS E W P D FB M n kp q d aj k c)(hk:k<900000000){i:Nat}{f:Fr}{w1:World}(hi:q.ag[i]?=some (some f)){m:Nat}(hm:f.page=m)(hm2:m<aj)(C9:m∉d.free)(p:PD E w1 P D FB M {q with ag:=q.ag.set i (some {f with bH:=false})} (xV d m f.data) aj) :
  PS E w1 P D FB M n kp {q with ag:=q.ag.set i (some {f with bH:=false})} (xV d m f.data) aj (k+1) c:=by
 have hl:=(dn.1 hi).1;have hpo:=h.ok.set hi (u:=some {f with bH:=false}) (λ g hg=>by rw[<-bC hg];exact h.ok.pos i f hi);rw[show q.ak-iH (some f)+iH (some {f with bH:=false})=q.ak by show q.ak-f.ak+f.ak=q.ak;omega]at hpo;have ry:=h.kL.puts;have hfl:=(h.pd.pool.each i f hi).len;have hok:=h.kL.write hk f.page f.data;have hhas:bn d aj (m:Int)=true:=by rw[<-hm];exact h.held i f hi
 rw[hm,(R6 h.calm.clean hhas f.data hfl).2]at hok;refine⟨p,hpo,hok,λ j g hj=>?_,h.ak,by show(q.ag.set i _).length=n;rw[bB];exact h.len,h.calm.az (by omega) hi hm hm2 C9 hfl _ _ _,(h.up (jy k)).lim⟩;replace hj:(q.ag.set i (some {f with bH:=false}))[j]?=some (some g):=hj;rw[gB _ _ _ _ hl]at hj;show bn d aj g.page=true;by_cases e:i=j
 ·rw[if_pos e]at hj;rw[<-bC (bC hj)];exact h.held i f hi
 rw[if_neg e]at hj;exact h.held j g hj
theorem DD.grow{S T:Nat->Prop}(h:DD S W D d aj)(hb:Below W W W')(hT:∀k,T k->S k\/(W.heap.size<=k/\k<W'.heap.size)):DD T W' D d aj:=by
 obtain⟨⟨own,ho,B,bc,fo,fc,I,ic,y,hd⟩,ft,hS⟩:=h;refine⟨⟨λ k=>own k/\k<W.heap.size,λ k hk ht=>?_,B,bc,fo,fc,I,ic,y,hd.tight.below hb⟩,ft,λ k hk=>?_⟩
 ·rcases hT k ht with h1|h1
  ·exact ho k hk.1 h1
  exact absurd hk.2 (by omega)
 rcases hT k hk with h1|h1
 ·exact bS (hS k h1) hb.size
 exact h1.2
abbrev pI(n:Nat):Pl:={ag:=List.replicate n none,hand:=0,ak:=0,op:=none}
theorem xtu(hd:DD E W D d aj)(ok:Ok d aj k)(cl:Clean d aj)(n:Nat)(hn:1<=n/\n<=1000)(t1 t2:TypeId) :
  PS E (((W.alloc (.cells (madeCells #[.pointer none] n) t1)).alloc (.map #[] 0)).alloc (.cells (pF D W n (W.heap.size+1) 0 0 none) t2)) (W.heap.size+2) D W (W.heap.size+1) n 0 (pI n) d aj k (λ p=>jM d.x p):=by
 have aJ:(pI n).ag.length=n:=ko
 have hnone:∀(i:Nat) (o:Option Fr),(pI n).ag[i]?=some o->o=none:=λ i o h=>by
  have:=fe h;exact(List.mem_replicate.1 this).2
 have hcf:cntF (pI n).ag=0:=by unfold cntF;rw[List.filter_eq_nil_iff.2 (λ a ha=>by rw[(List.mem_replicate.1 ha).2];decide)];rfl
 have JU:u6 (pI n).ag=0:=by
  show u6 (List.replicate n none)=0;clear aJ hnone hcf hn
  induction n with
  | zero=>rfl
  | succ m ih=>rw[List.replicate_succ,IU,ih];rfl
 have r1:=UK.pU W (madeCells #[.pointer none] n) t1;rw[size_madeCells,toList_madeCells_one]at r1;have m1:=jR.new (P:=Tryz.prog) (K:=3) (E:=3) (W.alloc (.cells (madeCells #[.pointer none] n) t1));have s1:(W.alloc (.cells (madeCells #[.pointer none] n) t1)).heap.size=W.heap.size+1:=by simp
 rw[s1]at m1;have s2:((W.alloc (.cells (madeCells #[.pointer none] n) t1)).alloc (.map #[] 0)).heap.size=W.heap.size+2:=by simp
 have b3:=aI.new ((W.alloc (.cells (madeCells #[.pointer none] n) t1)).alloc (.map #[] 0)) (pF D W n (W.heap.size+1) 0 0 none) t2;rw[s2]at b3;have hB:Below W W (((W.alloc (.cells (madeCells #[.pointer none] n) t1)).alloc (.map #[] 0)).alloc (.cells (pF D W n (W.heap.size+1) 0 0 none) t2)):=(((aP _ _).alloc (aZ _) _).alloc (by simp) _).alloc (by simp;omega) _;have hs3:(((W.alloc (.cells (madeCells #[.pointer none] n) t1)).alloc (.map #[] 0)).alloc (.cells (pF D W n (W.heap.size+1) 0 0 none) t2)).heap.size=W.heap.size+3:=by simp
 have hM:jR Tryz.prog 3 3 (((W.alloc (.cells (madeCells #[.pointer none] n) t1)).alloc (.map #[] 0)).alloc (.cells (pF D W n (W.heap.size+1) 0 0 none) t2)) (W.heap.size+1) 0 (λ _=>none) 0:=m1.af (Below.heap_alloc _ _ _ (by rw[s2];omega));have hR:=((r1.alloc (.map #[] 0)).alloc (.cells (pF D W n (W.heap.size+1) 0 0 none) t2));generalize ((W.alloc (.cells (madeCells #[.pointer none] n) t1)).alloc (.map #[] 0)).alloc (.cells (pF D W n (W.heap.size+1) 0 0 none) t2)=V at b3 hB hs3 hM hR ⊢
 have hpb:∀b,jK (W.heap.size+2) W (W.heap.size+1) (pI n).ag none b->W.heap.size<=b/\b<V.heap.size:=λ b hb=>by
  rcases hb with rfl|rfl|rfl|ho|⟨i,o,hi,ho⟩
  ·omega
  ·omega
  ·omega
  ·exact absurd ho id
  have e:=hnone i o hi;subst e;exact absurd ho id
 have hno:∀(i:Nat) (f:Fr),(pI n).ag[i]?=some (some f)->False:=λ i f hi=>by have:=hnone i _ hi;cases this
 have htl:=hd.tab.lt;have RD:aI V (W.heap.size+2) (pF D W (pI n).ag.length (W.heap.size+1) 0 0 none):=by rw[aJ];exact b3
 have hat:fV V (W.heap.size+2) D W (W.heap.size+1) (pI n):=by
  refine⟨RD,?_,⟨λ _=>none,(λ p i=>⟨(λ h0=>by cases h0),(λ hh=>by obtain⟨j,_,fr,hj,_⟩:=hh;exact absurd hj (hno _ _))⟩),?_⟩,(λ i f hi=>absurd hi (hno i f)),by omega,by omega,by omega,(λ i o b hi ho=>by have e:=hnone i o hi;subst e;exact absurd ho id),(λ i j o u b _ hi _ ho=>by have e:=hnone i o hi;subst e;exact absurd ho id),(λ x hx=>by cases hx),(λ b hb=>absurd hb id),(λ i o b _ _ hb=>absurd hb id),(λ b hb=>by have:=hpb b hb;omega)⟩
  ·rw[aJ];simpa[pX]using hR
  rw[hcf];exact hM
 refine⟨⟨hat,?_,λ b hb hh=>?_⟩,⟨JU.symm,(λ i f hi=>absurd hi (hno i f)),(by rw[aJ];exact hn.1),(by rw[aJ];exact hn.2)⟩,ok,(λ j g hj=>absurd hj (hno j g)),rfl,aJ,⟨cl,λ i f hi=>absurd hi (hno i f),λ p _ _ _ _=>rfl⟩,λ o ho=>by cases ho⟩
 ·refine hd.grow hB (λ b hb=>?_);rcases hb with hb|hb
  ·exact .inl hb
  exact .inr (hpb b hb)
 have:=hpb b hh;have:=hd.there b hb;omega
theorem Xu(hd:DD E W D d aj)(ok:Ok d aj k)(cl:Clean d aj)(n:Nat)(hn:1<=n/\n<=1000)(hand:Int) :
  Calls Tryz.prog 18 #[.pointer D,.int .i64 n,.int .i64 hand] W λ e w'=>∃P FB M q,e= .returned (.pointer (some ⟨P,0,none⟩))/\PS E w' P D FB M n 0 q d aj k (λ p=>jM d.x p)/\Kept E W w'/\q.op=none:=by
 have hmk:=run_make_row (P:=Tryz.prog) 83 92 Tryz.t92 (.pointer none) Tryz.underlying83 rfl rfl rfl rfl .i64 .i64 n (show 8*n<=281474976710656 by omega) (by omega);have hm:=xtu hd ok cl n hn 92 87;have hB:Below W W (((W.alloc (.cells (madeCells #[.pointer none] n) 92)).alloc (.map #[] 0)).alloc (.cells (pF D W n (W.heap.size+1) 0 0 none) 87)):=(((aP _ _).alloc (aZ _) _).alloc (by simp) _).alloc (by simp;omega) _;have HM:=zH hm;have HK:=zH (Kept.of_below (S:=E) hB (λ j hj=>hd.there j hj));have HH:=zH (xwu hm.pd hm.ok hand);obtain⟨bi,hn2⟩:=hn;clear hm hB;simp only[pF,yg,uA,Gb,IX,Option.isSome_none]at HM HK HH
 go_enter Tryz.func18,Tryz.ntmps18
 have hmm:∀w:World,(Instr.makeMap 84 none).run Tryz.prog w= .ok (.map (some w)) (w.alloc (.map #[] 0)):=run_makeMap _
 go_wp2_with fail
 refine HH.out.mono ?_;rintro e w2 ⟨rfl,p2,k2⟩;have HS:=zH (show PS E w2 (W.heap.size+2) D W (W.heap.size+1) n 0 {pI n with hand:=BP hand (pI n).ag.length} d aj k (λ p=>jM d.x p)from⟨p2,⟨HM.out.ok.ak,HM.out.ok.pos,(Xw hand (pI n).ag.length (by have:=HM.out.ok.hand;omega)).2.1,HM.out.ok.few⟩,HM.out.kL,HM.out.held,HM.out.ak,HM.out.len,HM.out.calm.same _ _ _,λ o ho=>by cases ho⟩);have K2:=zH (HK.out.trans k2);clear HH HM HK p2 k2 hmk hmm;go_wp2;go_ret;exact⟨W.heap.size+2,W.heap.size,W.heap.size+1,_,rfl,HS.out,K2.out,rfl⟩
end
end Go.Proofs.YtlipgbnnbefhjaaGreatDoor
