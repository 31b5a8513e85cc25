/- Facts on texts and trees on pages. -/
import Derived.Test.YtgpmiliahonaoaaGreatDoorKPoolWc
import Derived.Deep.OwnRows
set_option maxRecDepth 100000
set_option maxHeartbeats 8000000
set_option linter.unusedSimpArgs false
namespace Go.Proofs.YtgpmiliahonaoaaGreatDoor
open Go.RowKit
open UK (str aF nth Only Row ay kG sK)
open Go.BigFrame
section
variable{E:Nat->Prop}{W W':World}{P D FB M au k n:Nat}{kp:Int}{q:Pl}{d d':Dk}{c:Nat->List UInt8}
theorem xxn(o:Ok d au k)(hk:k<900000000):(∀a,aX d au a=true->aX (tD d au) (tC d au) a=true)/\(tE d au=0->aX d au (tP d au:Nat)=false/\aX (tD d au) (tC d au) (tP d au:Nat)=true):=by
 have vz:=(o.take hk).so;have so:=o.so;have hone:=o.fit.one;rcases Me d au with⟨_,_,a,b,e,c⟩|⟨_,_,a,b,e,c⟩|⟨_,_,hf,a,b,e,c⟩|⟨_,l,p,hl,a,b,e,c⟩
 ·rw[e,c,a];exact⟨λ _ h=>h,λ h=>absurd h (by decide)⟩
 ·rw[e,c,a];exact⟨λ _ h=>h,λ h=>absurd h (by decide)⟩
 ·rw[e,c]at vz ⊢;rw[b];refine⟨λ x hx=>?_,λ _=>⟨?_,?_⟩⟩
  ·rw[so.kP,decide_eq_true_eq]at hx;rw[vz.kP,decide_eq_true_eq];exact⟨hx.1,by omega,hx.2.2⟩
  ·rw[so.kP,decide_eq_false_iff_not];omega
  rw[vz.kP,decide_eq_true_eq];refine⟨by omega,by omega,?_⟩;show _∉d.free;rw[hf];intro hh;cases hh
 rw[e,c]at vz ⊢;rw[b];have hpm:p∈d.free:=by rw[hl];exact lI _ (bz.2 rfl)
 have hp:=o.fit.free p hpm;have hnd:=so.nodup;rw[hl]at hnd;have hpl:p∉l:=λ hm=>(bN.1 hnd).2.2 p hm p (bz.2 rfl) rfl;refine⟨λ x hx=>?_,λ _=>⟨?_,?_⟩⟩
 ·rw[so.kP,decide_eq_true_eq]at hx;rw[vz.kP,decide_eq_true_eq];refine⟨hx.1,hx.2.1,λ hm=>hx.2.2 ?_⟩;rw[hl];exact eF _ hm
 ·rw[so.kP,decide_eq_false_iff_not,Int.toNat_natCast];exact λ hh=>hh.2.2 hpm
 rw[vz.kP,decide_eq_true_eq,Int.toNat_natCast];exact⟨by omega,by omega,hpl⟩
theorem yaf(w:World):(Instr.makeSlice 94 (.int .i64 504) (.int .i64 504)).run Tryz.prog w= .ok (.slice w 504 504) (w.alloc (.cells (UK.pE (UK.bF 504)) 5)):=by kernel_rfl
theorem kC.only{g:Nat}{ao:Option Addr}{n:Nat}{l:List Int}(h:kC W ao n l)(ho:Only g W W')(hn:¬aK ao g):kC W' ao n l:=
 h.ae ho.size (λ j hj=>ho.block j (h.lt hj) (λ e=>hn (e▸hj)))
theorem gz{a b:Nat}(h:aK a b):b=a:=(congrArg Addr.block (aZ h)).symm
theorem kC.push{ao:Option Addr}{m:Nat}{l:List Int}(h:kC W ao m l)(hl:l.length<1000000000)(v:Int) :
  ∃g' c' W',(Builtin.append_ #[57,57] 57 #[.slice ao l.length m,.slice W 1 1]).run Tryz.prog (W.alloc (.cells #[.int .i64 v] 3))= .ok (.slice (some ⟨g',0,none⟩) (l.length+1) c') W'/\Row W' g' c' (Cb (l++[v]))/\Only g' W W'/\(aK ao g'\/W.heap.size<=g'):=by
 have ha:(ao=none/\Cb l=[]/\m=0)\/∃g,ao=some ⟨g,0,none⟩/\Row W g m (Cb l):=by
  rcases h with⟨a,b,e⟩|h
  ·exact .inl ⟨a,by rw[b];rfl,e⟩
  exact .inr h
 have aD:(Cb l).length=l.length:=df _;obtain⟨g',c',W',e,r,o,hg⟩:=UK.Gf (P:=Tryz.prog) (t:=57) (ty:=57) Tryz.underlying57 (i:=Tryz.t3) rfl rfl rfl (show(8:Nat)<=16 by omega) rfl ha (.int .i64 v) rfl (by rw[aD];omega);rw[aD]at e;exact⟨g',c',W',e,by unfold Cb at *;rw[dO];exact r,o,hg⟩
theorem PD.made(h:PD E W P D FB M q d au){o:kz}(hq:q.op=some o){g' c':Nat}{w1:World}(v:Int)(hv:(Lit.int .i64 v).wf=true)(r:Row w1 g' c' (Cb (o.made++[v])))(ho:Only g' W w1)(hg:aK o.mo g'\/W.heap.size<=g')(hl:o.made.length<1000000000) :
  PD E (w1.setCell (P,7) (.slice g' (o.made.length+1) c')) P D FB M {af:=q.af,hand:=q.hand,ah:=q.ah,op:=some {o with mo:=some ⟨g',0,none⟩,mc:=c',made:=o.made++[v]}} d au/\Kept E W (w1.setCell (P,7) (.slice g' (o.made.length+1) c'))/\ay w1 P (nW D FB q.af.length M q.hand q.ah q.op):=by
 have hp:=h.pool;have hi:=hp.op o hq;have Ka:=hp.box.lt;have zk:∀j,sN (some o) j->sN q.op j:=λ j hj=>by rw[hq];exact hj
 have hoff:∀j,sN (some o) j->j≠P:=λ j hj=>(hp.jk j (zk j hj)).1
 have Ko:P≠g':=by
  rcases hg with h1|h1
  ·exact(hoff g' (.inr (.inl h1))).symm
  omega
 have hwl:=hi.was.lt
 have hwg:o.wb≠g':=by
  rcases hg with h1|h1
  ·exact λ e=>hi.wm (e▸h1)
  omega
 have hgg:¬aK o.go g':=by
  rcases hg with h1|h1
  ·exact hi.mg g' h1
  exact λ e=>by have:=hi.gone.lt e;omega
 have o2:Only P w1 (w1.setCell (P,7) (.slice g' (o.made.length+1) c')):=(Only.refl P w1).set 7 _;have hbx:=hp.box.only ho Ko;have hb:=hbx.set 7 (.slice g' (o.made.length+1) c');generalize w1.setCell (P,7) (.slice g' (o.made.length+1) c')=w2 at o2 hb ⊢;refine(λ hfin:PD E w2 P D FB M {af:=q.af,hand:=q.hand,ah:=q.ah,op:=some {o with mo:=some ⟨g',0,none⟩,mc:=c',made:=o.made++[v]}} d au/\Kept E W w2=>⟨hfin.1,hfin.2,hbx⟩) ?_;refine h.zh (o2.os.trans ho.os) (o2.tape.trans ho.tape) (o2.output.trans ho.output) (aP ho.size o2.size) ?_ (λ x hx=>?_) (λ j hj=>?_) (λ j hj QN hjo=>?_)
 ·rw[hq]at hb
  have e:(nW D FB q.af.length M q.hand q.ah (some o)).set! 7 (.slice g' (o.made.length+1) c')=nW D FB q.af.length M q.hand q.ah (some {o with mo:=some ⟨g',0,none⟩,mc:=c',made:=o.made++[v]}):=by
   have el:(o.made++[v]).length=o.made.length+1:=by simp
   simp[xy,uA,He,JZ,el]
  rw[e]at hb;exact hb
 ·obtain rfl:=aZ hx;refine⟨(hi.was.ae (ho.block _ hwl hwg)).ae (o2.block _ (bZ hwl ho.size) (hoff _ (.inl rfl))),.inr ⟨g',rfl,r.only o2 Ko.symm⟩,(hi.gone.only ho hgg).only o2 (λ e=>hoff P (.inr (.inr e)) rfl),λ e=>hwg (gz e),hi.wg,λ j hj=>by rw[gz hj];exact hgg,λ p hp=>?_,hi.vo,⟨hi.few.1,by show(o.made++[v]).length<=_;rw[zl,iE];omega,hi.few.2.2⟩⟩;rcases dD.1 hp with hp|hp
  ·exact hi.vk p hp
  rw[bz.1 hp];exact hv
 ·rcases hj with hj|hj|hj
  ·exact .inl (zk j (.inl hj))
  ·rw[gz hj];rcases hg with h1|h1
   ·exact .inl (zk _ (.inr (.inl h1)))
   exact .inr h1
  exact .inl (zk j (.inr (.inr hj)))
 refine(o2.block j (bZ hj ho.size) QN).trans (ho.block j hj (λ e=>?_));rcases hg with h1|h1
 ·exact hjo (e▸zk g' (.inr (.inl h1)))
 omega
theorem PD.gone(h:PD E W P D FB M q d au){o:kz}(hq:q.op=some o){g' c':Nat}{w1:World}(v:Int)(hv:(Lit.int .i64 v).wf=true)(r:Row w1 g' c' (Cb (o.gone++[v])))(ho:Only g' W w1)(hg:aK o.go g'\/W.heap.size<=g')(hl:o.gone.length<1000000000) :
  PD E (w1.setCell (P,8) (.slice g' (o.gone.length+1) c')) P D FB M {af:=q.af,hand:=q.hand,ah:=q.ah,op:=some {o with go:=some ⟨g',0,none⟩,gc:=c',gone:=o.gone++[v]}} d au/\Kept E W (w1.setCell (P,8) (.slice g' (o.gone.length+1) c'))/\ay w1 P (nW D FB q.af.length M q.hand q.ah q.op):=by
 have hp:=h.pool;have hi:=hp.op o hq;have Ka:=hp.box.lt;have zk:∀j,sN (some o) j->sN q.op j:=λ j hj=>by rw[hq];exact hj
 have hoff:∀j,sN (some o) j->j≠P:=λ j hj=>(hp.jk j (zk j hj)).1
 have Ko:P≠g':=by
  rcases hg with h1|h1
  ·exact(hoff g' (.inr (.inr h1))).symm
  omega
 have hwl:=hi.was.lt
 have hwg:o.wb≠g':=by
  rcases hg with h1|h1
  ·exact λ e=>hi.wg (e▸h1)
  omega
 have hgg:¬aK o.mo g':=by
  rcases hg with h1|h1
  ·exact λ e=>hi.mg g' e h1
  exact λ e=>by have:=hi.made.lt e;omega
 have o2:Only P w1 (w1.setCell (P,8) (.slice g' (o.gone.length+1) c')):=(Only.refl P w1).set 8 _;have hbx:=hp.box.only ho Ko;have hb:=hbx.set 8 (.slice g' (o.gone.length+1) c');generalize w1.setCell (P,8) (.slice g' (o.gone.length+1) c')=w2 at o2 hb ⊢;refine(λ hfin:PD E w2 P D FB M {af:=q.af,hand:=q.hand,ah:=q.ah,op:=some {o with go:=some ⟨g',0,none⟩,gc:=c',gone:=o.gone++[v]}} d au/\Kept E W w2=>⟨hfin.1,hfin.2,hbx⟩) ?_;refine h.zh (o2.os.trans ho.os) (o2.tape.trans ho.tape) (o2.output.trans ho.output) (aP ho.size o2.size) ?_ (λ x hx=>?_) (λ j hj=>?_) (λ j hj QN hjo=>?_)
 ·rw[hq]at hb
  have e:(nW D FB q.af.length M q.hand q.ah (some o)).set! 8 (.slice g' (o.gone.length+1) c')=nW D FB q.af.length M q.hand q.ah (some {o with go:=some ⟨g',0,none⟩,gc:=c',gone:=o.gone++[v]}):=by
   have el:(o.gone++[v]).length=o.gone.length+1:=by simp
   simp[xy,uA,He,JZ,el]
  rw[e]at hb;exact hb
 ·obtain rfl:=aZ hx;refine⟨(hi.was.ae (ho.block _ hwl hwg)).ae (o2.block _ (bZ hwl ho.size) (hoff _ (.inl rfl))),(hi.made.only ho hgg).only o2 (λ e=>hoff P (.inr (.inl e)) rfl),.inr ⟨g',rfl,r.only o2 Ko.symm⟩,hi.wm,λ e=>hwg (gz e),λ j hj e=>hgg (gz e▸hj),hi.vk,λ p hp=>?_,⟨hi.few.1,hi.few.2.1,by show(o.gone++[v]).length<=_;rw[zl,iE];omega⟩⟩;rcases dD.1 hp with hp|hp
  ·exact hi.vo p hp
  rw[bz.1 hp];exact hv
 ·rcases hj with hj|hj|hj
  ·exact .inl (zk j (.inl hj))
  ·exact .inl (zk j (.inr (.inl hj)))
  rw[gz hj];rcases hg with h1|h1
  ·exact .inl (zk _ (.inr (.inr h1)))
  exact .inr h1
 refine(o2.block j (bZ hj ho.size) QN).trans (ho.block j hj (λ e=>?_));rcases hg with h1|h1
 ·exact hjo (e▸zk g' (.inr (.inr h1)))
 omega
def Al(d:Dk)(au:Nat):Prop:=d.aC<=au/\d.free=[]
theorem xuk(h:Calm q d au c)(h3:d.puts+1<1000000000)(hf:¬Al d au)(hh:∀(i:Nat) (f:Fr),q.af[i]?=some (some f)->aX d au f.page=true):tE d au=0/\Calm q (tD d au) (tC d au) (bS c (tP d au) (UK.bF 504)):=by
 have hwl:d.wl≠0:=by rw[h.clean.wl];decide
 rcases Me d au with⟨a,b,_⟩|⟨_,a,_⟩|⟨hm,_,hfr,a,b,e,c⟩|⟨_,l,p,hl,a,b,e,c⟩
 ·exact absurd ⟨a,b⟩ hf
 ·exact absurd a hwl
 ·rw[a,b,e,c];exact⟨rfl,h.takeN h3 hfr hm hh⟩
 rw[a,b,e,c];exact⟨rfl,h.gL h3 hl hh⟩
def WH(o o':Option kz)(p:Int):Prop:=(o=none/\o'=none)\/∃x y,o=some x/\o'=some y/\y.was=x.was/\y.wn=x.wn/\y.made=x.made++[p]/\y.gone=x.gone
def QO(o o':Option kz)(p:Int):Prop:=∃x y,o=some x/\o'=some y/\y.was=x.was/\y.wn=x.wn/\y.made=x.made/\y.gone=x.gone++[p]
def ycv(E:Nat->Prop)(W w':World)(P D FB M n:Nat)(kp:Int)(q:Pl)(d:Dk)(au k:Nat)(c:Nat->List UInt8)(e:Ending):Prop:=
 ∃(q':Pl) (d':Dk),e= .returned (.tuple #[.pointer none,.int .i64 6])/\PS E w' P D FB M n kp q' d' au (k+2) c/\Kept E W w'/\q'.op=q.op/\d'.free=d.free/\d'.aC=d.aC
def ycw(E:Nat->Prop)(W w':World)(P D FB M n:Nat)(kp:Int)(q:Pl)(d:Dk)(au k:Nat)(c:Nat->List UInt8)(e:Ending):Prop:=
 ∃(i:Nat) (f:Fr) (q':Pl) (d':Dk),e= .returned (.tuple #[.pointer f.blk,.int .i64 0])/\q'.af[i]?=some (some f)/\f.page=(tP d au:Nat)/\0<f.ah/\PS E w' P D FB M n (kp+1) q' d' (tC d au) (k+2) (bS c (tP d au) (UK.bF 504))/\Kept E W w'/\WH q.op q'.op (tP d au:Nat)/\d'.free=(tD d au).free/\d'.aC=d.aC
theorem yb1{d d':Dk}(hf:d'.free=d.free)(hm:d'.aC=d.aC)(hw:d'.wl=d.wl)(au:Nat):tE d' au=tE d au/\tP d' au=tP d au/\tC d' au=tC d au/\(tD d' au).free=(tD d au).free/\(tD d' au).aC=(tD d au).aC:=by
 unfold tE tP tC tD;rw[hf,hm,hw];refine⟨rfl,rfl,rfl,?_,?_⟩
 all_goals
  split
  ·first|rfl|exact hf|exact hm
  split
  ·first|rfl|exact hf|exact hm
  split
  ·first|rfl|exact hf|exact hm
  first|rfl|exact hm
theorem xul(h:PS E W P D FB M n kp q d au k c)(hk:k+2<900000000)(hkp:0<=kp/\kp<n)(hf:Al d au) :
  Calls Tryz.prog 88 #[.pointer P] W λ e w'=>ycv E W w' P D FB M n kp q d au k c e:=by
 have HR:=zH (QJ h (by omega) hkp);clear h
 go_enter Tryz.func88,Tryz.ntmps88
 go_wp2_with fail
 refine HR.out.mono ?_;rintro e w3 ⟨i,q',d',rfl,hi3,s3,k3,hop,hfr,hmo,hfw,Ao⟩;have hf2:d'.aC<=au/\d'.free=[]:=by rw[hfr,hmo];exact hf
 have hT:=TA s3.pd.dd s3.l6 (by omega);have e1:tE d' au=6:=by unfold tE;rw[if_pos hf2]
 have e2:tP d' au=0:=by unfold tP;rw[if_pos hf2]
 have e3:tD d' au=d':=by unfold tD;rw[if_pos hf2]
 have e4:tC d' au=au:=by unfold tC;rw[if_pos hf2]
 rw[e1,e2,e3,e4]at hT;have HT:=zH hT;have c0:=s3.pd.pool.box.c0;have qY:=zH (zA s3 (zA k3 (zA hop (zA hfr hmo))));clear HR hT s3 k3 hop hfr hmo hfw Ao hi3 hf2 e1 e2 e3 e4
 go_wp2_with fail
 refine HT.out.mono ?_;rintro e w4 ⟨rfl,d4,k4⟩;obtain⟨s3,k3,hop,hfr,hmo⟩:=qY.out;have s4:PS E w4 P D FB M n kp q' d' au (k+2) c:=(show PS E w4 P D FB M n kp q' d' au (k+1) c from⟨s3.pd.disk d4 k4,s3.ok,s3.l6,s3.held,s3.ah,s3.len,s3.calm,s3.lim⟩).up (by omega);have HF:=zH (zA s4 (zA (k3.trans (k4.mono (λ j hj=>.inl hj))) (zA hop (zA hfr hmo))));clear HT qY s3 s4 d4 k4 k3 hop hfr hmo c0;go_wp2;go_ret2;exact⟨q',d',rfl,HF.out.1,HF.out.2.1,HF.out.2.2.1,HF.out.2.2.2.1,HF.out.2.2.2.2⟩
theorem WI(h:PS E W P D FB M n kp q d au k c)(hkp:0<=kp/\kp<1000000){i:Nat}(hi:q.af[i]?=some none)(p:Nat)(hp:aX d au (p:Int)=true)(hno:∀(j:Nat) (g:Fr),q.af[j]?=some (some g)->g.page≠(p:Int))(hcp:c p=UK.bF 504)(hpw:p<60000) :
  Calls Tryz.prog 130 #[.pointer P,.int .i64 i,.int .i64 p,.string (str (UK.bF 504))] W λ e w'=>∃f:Fr,e= .returned (.pointer f.blk)/\f.page=p/\0<f.ah/\PS E w' P D FB M n (kp+1) {af:=q.af.set i (some f),hand:=q.hand,ah:=q.ah+1,op:=q.op} d au k c/\Kept E W w':=by
 refine(WB h.pd h.ok (by rw[h.ah];omega) hi (p:Int) (WalkArith.wf_i64 (by omega)) hno (UK.bF 504) (UK.jm 504)).mono ?_;rintro e w5 ⟨f,rfl,jT,Ce,zi,GZ,hfu,p5,k5⟩;have hil:=(dE.1 hi).1;have hpo:=h.ok.set hi (u:=some f) (λ y hy=>by rw[<-aZ hy,zi];omega);rw[show q.ah-iH none+iH (some f)=q.ah+1 by show q.ah-0+f.ah=_;omega]at hpo;refine⟨f,rfl,jT,by omega,⟨p5,hpo,h.l6,λ j g hj=>?_,by show q.ah+1=_;rw[h.ah],by show(q.af.set i _).length=n;rw[aQ];exact h.len,h.calm.lay hi (by rw[Ce,jT,Int.toNat_natCast,hcp]) _ _ _,h.lim⟩,k5⟩;replace hj:(q.af.set i (some f))[j]?=some (some g):=hj;rw[fJ _ _ _ _ hil]at hj;by_cases e:i=j
 ·rw[if_pos e]at hj;rw[<-aZ (aZ hj),jT];exact hp
 rw[if_neg e]at hj;exact h.held j g hj
theorem xum(h:PS E W P D FB M n kp q d au k c)(hk:k+2<900000000)(hkp:0<=kp/\kp<n)(hf:¬Al d au) :
  Calls Tryz.prog 88 #[.pointer P] W λ e w'=>ycw E W w' P D FB M n kp q d au k c e:=by
 have HR:=zH (QJ h (by omega) hkp);have hmk:=yaf;have il:=h.ok.few;have hln:=h.len;have yG:=zH h.calm.clean.wl;have hz2:((UK.bF 504).drop 0).take 504=UK.bF 504:=by rw[List.drop_zero,fO (by rw[UK.jm];omega)]
 have hcv:=λ w:World=>UK.tY (P:=Tryz.prog) (src:=94) (dst:=9) Tryz.underlying94 Tryz.underlying5 Tryz.underlying9 (Tp w (UK.bF 504)) 0 504 504 (by rw[UK.jm];omega);rw[hz2]at hcv;clear h hz2
 go_enter Tryz.func88,Tryz.ntmps88
 go_wp2_with fail
 refine HR.out.mono ?_;rintro e w3 ⟨i,q',d',rfl,hi3,s3,k3,hop,hfr,hmo,hfw,Ao⟩;have hf2:¬Al d' au:=by unfold Al;rw[hfr,hmo];exact hf
 have Nq:=s3.l6.puts;obtain⟨t0,t1⟩:=xuk s3.calm (by omega) hf2 s3.held;obtain⟨e1,e2,e3,e4,e5⟩:=yb1 hfr hmo (by rw[s3.calm.clean.wl,yG.out]) au;have hth:=xxn s3.l6 (by omega);have hT:=TA s3.pd.dd s3.l6 (by omega);have ry:=s3.l6.take (by omega);have qi:=hth.2 t0;have WJ:=ry.fit.few;have zm:=qi.2;rw[ry.so.kP,decide_eq_true_eq]at zm;rw[t0]at hT;have wF:(tD d' au).aC=d.aC:=by rw[e5,<-hmo];exact(show(tD d au).aC=d.aC by unfold tD;split;rfl;split;rfl;split<;>rfl).trans hmo.symm
 have HE:=zH (zA e2 (zA e3 (zA e4 (zA wF hop))));have HI:=zH hi3;clear HR hop hfr hmo hfw Ao hi3 e1 e2 e3 e4 e5 wF t0;generalize htp:tP d' au=tp at hT qi zm t1 HE;generalize htd:tD d' au=td at hT hth qi zm ry t1 HE;generalize htc:tC d' au=tc at hT hth qi zm ry t1 HE WJ;have HT:=zH hT;have hpw:tp<60000:=by omega
 have hno:∀(j:Nat) (g:Fr),q'.af[j]?=some (some g)->g.page≠(tp:Int):=λ j g hj hg=>by
  have:=s3.held j g hj;rw[hg,qi.1]at this;cases this
 have c0:=s3.pd.pool.box.c0;have QP:=zH s3.lim;have qY:=zH (zA s3 (zA k3 (zA ry (zA t1 (zA hth qi)))));have yR:=zH hno;clear hT s3 k3 ry t1 hth qi zm hf2 htp htd htc hno WJ
 go_wp2_with fail
 refine HT.out.mono ?_;rintro e w4 ⟨rfl,d4,k4⟩;obtain⟨s3,k3,ry,t1,hth,qi⟩:=qY.out;have s4:PS E w4 P D FB M n kp q' td tc (k+2) (bS c tp (UK.bF 504)):=⟨s3.pd.disk d4 k4,s3.ok,ry,λ j g hj=>hth.1 _ (s3.held j g hj),s3.ah,s3.len,t1,(s3.up (Nat.le_succ _)).lim⟩;have K4:=zH (k3.trans (k4.mono (λ j hj=>.inl hj)));have WK:=zH qi.2;have c5:=s4.pd.pool.box.c5;have c7:=s4.pd.pool.box.c7;have WL:bS c tp (UK.bF 504) tp=UK.bF 504:=by unfold bS;rw[if_pos rfl]
 have Hl:=zH WL;clear qY HT s3 k3 ry t1 hth qi d4 k4 c0 WL
 cases hq:q'.op with
 | none=>
  rw[hq]at c5;simp only[xy,Option.isSome_none]at c5;have hb4:Below w4 w4 (w4.alloc (.cells (UK.pE (UK.bF 504)) 5)):=(aV _ _).alloc (aO _) _;have HL:=zH (WI (s4.next hb4) ⟨hkp.1,by omega⟩ HI.out tp WK.out yR.out Hl.out hpw);have K5:=zH (K4.out.trans (s4.zg hb4));have HQ:=zH hq;have zn:=hmk w4;have wG:=hcv w4;clear c7 s4 hb4 hq hmk hcv;have HC:=zH (rfl:bS c tp (UK.bF 504)=bS c tp (UK.bF 504));generalize hcc:bS c tp (UK.bF 504)=cc at HL Hl;have Kn:=zH hcc;clear hcc HC Hl;generalize UK.bF 504=zz at wG HL zn K5
  go_wp2_with fail
  refine HL.out.mono ?_;rintro e w5 ⟨f,rfl,jT,hfp,s5,k5⟩;have HF:=zH (zA jT (zA hfp (zA s5 (K5.out.trans k5))));clear HL K5 wG zn jT hfp s5 k5;go_wp2;go_ret2;obtain⟨jT,hfp,s5,k5⟩:=HF.out;obtain⟨e2,e3,e4,wF,hop⟩:=HE.out;rw[<-Kn.out]at s5;rw[e2,e3]at s5;exact⟨i,f,_,td,rfl,by show(q'.af.set i _)[i]?=_;rw[fJ _ _ _ _ (dE.1 HI.out).1,if_pos rfl],by rw[jT,e2],hfp,s5,k5,.inl ⟨by rw[<-hop];exact HQ.out,HQ.out⟩,e4,wF⟩
 | some o=>
  rw[hq]at c5 c7;simp only[xy,He,Option.isSome_some]at c5 c7;have ho:=s4.pd.pool.op o hq;have hlim:=s4.lim o hq;obtain⟨g',c',w5,happ,r5,o5,hg5⟩:=ho.made.push (by omega) (tp:Int);obtain⟨p6,k6,b5⟩:=s4.pd.made hq (tp:Int) (WalkArith.wf_i64 (by omega)) r5 o5 hg5 (by omega);have f7:=b5.free 7;have c7':=b5.c7;have hl3:=QP.out o hq
  have s6:=s4.op (op':=some {o with mo:=some ⟨g',0,none⟩,mc:=c',made:=o.made++[(tp:Int)]}) (λ x hx=>by
   rw[<-aZ hx];show o.wn<=_/\(o.made++[(tp:Int)]).length<=_/\o.gone.length<=_;rw[zl,iE];omega) p6
  have HM:Hid (WH q'.op (some {o with mo:=some ⟨g',0,none⟩,mc:=c',made:=o.made++[(tp:Int)]}) (tp:Int)):=.inr ⟨o,_,hq,rfl,rfl,rfl,rfl,rfl⟩;generalize qX:w5.setCell (P,7) (.slice g' (o.made.length+1) c')=w6 at s6 k6;have hb4:Below w6 w6 (w6.alloc (.cells (UK.pE (UK.bF 504)) 5)):=(aV _ _).alloc (aO _) _;have HL:=zH (WI (s6.next hb4) ⟨hkp.1,by omega⟩ HI.out tp WK.out yR.out Hl.out hpw);have K5:=zH ((K4.out.trans k6).trans (s6.zg hb4));have zn:=hmk w6;have wG:=hcv w6;clear s4 hb4 hq hmk hcv p6 b5 r5 o5 hg5 hlim hl3 ho k6 s6;generalize hcc:bS c tp (UK.bF 504)=cc at HL Hl;have Kn:=zH hcc;clear hcc Hl;generalize UK.bF 504=zz at wG HL zn K5;have BZ:w6.heap.size=w5.heap.size:=by rw[<-qX];simp[World.setCell]
  rw[BZ]at wG;subst qX;clear BZ
  go_wp2_with (at_builtin;refine UK.lH happ rfl rfl rfl rfl rfl ?_)
  refine HL.out.mono ?_;rintro e w7 ⟨f,rfl,jT,hfp,s7,k7⟩;have HF:=zH (zA jT (zA hfp (zA s7 (K5.out.trans k7))));clear HL K5 wG zn jT hfp s7 k7 happ c7' f7 c5 c7;go_wp2;go_ret2;obtain⟨jT,hfp,s5,k5⟩:=HF.out;obtain⟨e2,e3,e4,wF,hop⟩:=HE.out;rw[<-Kn.out]at s5;rw[e2,e3]at s5;refine⟨i,f,_,td,rfl,by show(q'.af.set i _)[i]?=_;rw[fJ _ _ _ _ (dE.1 HI.out).1,if_pos rfl],by rw[jT,e2],hfp,s5,k5,?_,e4,wF⟩;have hm:=HM.out;rw[hop,e2]at hm;exact hm
end
section
variable{E:Nat->Prop}{W W':World}{P D FB M au k n:Nat}{kp:Int}{q:Pl}{d d':Dk}{c:Nat->List UInt8}
theorem xun(h:Clean d au){p:Nat}(hh:aX d au (p:Int)=true):Gl d au (p:Int)=0/\CV d au (p:Int)=tu d p:=by
 have hwl:d.wl≠0:=by rw[h.wl];decide
 unfold Gl CV;have ha:¬aX d au (p:Int)=false:=by rw[hh];decide
 rw[if_neg ha,if_neg ha,if_neg hwl,Int.toNat_natCast];exact⟨by unfold iU;rw[if_neg hwl],rfl⟩
theorem xxo(o:Ok d au k)(hk:k<900000000)(p:Int)(a:Int)(ha:aX d au a=true)(hne:Gl d au p=0->a≠p):aX (CV d au p) au a=true:=by
 have vz:=(o.give hk p).so;have so:=o.so;unfold Gl at hne;unfold CV at vz ⊢;by_cases hh:aX d au p=false
 ·rw[if_pos hh]at vz ⊢;exact ha
 rw[if_neg hh]at vz hne ⊢;by_cases hz:d.wl=0
 ·rw[if_pos hz];exact ha
 rw[if_neg hz]at vz ⊢;have h0:iU d.wl=0:=by unfold iU;rw[if_neg hz]
 obtain⟨m,rfl,hm⟩:=En hh;rw[so.kP,decide_eq_true_eq]at ha;rw[vz.kP,decide_eq_true_eq];refine⟨ha.1,ha.2.1,λ hmem=>?_⟩;have hmem:a.toNat∈d.free++[(m:Int).toNat]:=hmem;rcases dD.1 hmem with hx|hx
 ·exact ha.2.2 hx
 have:=bz.1 hx;rw[Int.toNat_natCast]at this;exact hne h0 (by omega)
theorem xuo(h:PS E W P D FB M n kp q d au k c){page:Int}(hk:k+1<900000000){o:kz}(hq:q.op=some o)(hq0:∀(i:Nat) (f:Fr),q.af[i]?=some (some f)->f.page=page->f.ah<=0)(cZ:(Lit.int .i64 page).wf=true)(hh:aX d au page=true)(hg:page∉bV q.op) :
  Calls Tryz.prog 60 #[.pointer P,.int .i64 page] W λ e w'=>e= .returned (.int .i64 0)/\∃op',QO q.op op' page/\PS E w' P D FB M n kp {af:=q.af,hand:=q.hand,ah:=q.ah,op:=op'} d au (k+1) c/\Kept E W w':=by
 have hb:=h.pd.pool.box;have c2:=hb.c2;have c0:=hb.c0;have c1:=hb.c1;have hhas:=LP h.pd.dd page;have il:=h.ok.few;rw[hh]at hhas;rcases Np h.pd page cZ with⟨i,f,hi,hf,hlk⟩|⟨hno,hlk⟩
 ·have hfr:=h.pd.pool.each i f hi;have hil:=(dE.1 hi).1;have cF:W.cell? (FB,i)=some (.pointer f.blk):=h.pd.frame hi;have d3:=hfr.box.c3;have hfp:=hq0 i f hi hf;have HF:=zH hf;clear hf;generalize zo:f.ah=fp at d3 hfp;have Kq:=zH zo;clear zo hfr hb
  go_enter Tryz.func60,Tryz.ntmps60
  go_wp2_with fail
  refine hhas.mono ?_;rintro e w1 ⟨rfl,x,rfl⟩;obtain⟨h1,k1⟩:=h.looks x;generalize W.drewN x=w1 at h1 k1 ⊢;obtain⟨ao,nn,cc,hv,hcn⟩:=Hf h1.pd.pool page;have c8:=h1.pd.pool.box.c8;have c5:=h1.pd.pool.box.c5;have c0:=h1.pd.pool.box.c0;rw[hv]at c8;rw[decide_eq_false hg]at hcn;clear hhas
  go_wp2_with fail
  refine hcn.mono ?_;rintro e w2 ⟨rfl,rfl⟩;rw[hq]at c5 hv;simp only[xy,Option.isSome_some]at c5;obtain⟨e1,e2,e3⟩:=Value.slice.inj hv;subst e1 e2 e3;clear hv;have ho:=h1.pd.pool.op o hq;have hlim:=h1.lim o hq;obtain⟨g',c',w5,happ,r5,o5,hg5⟩:=ho.gone.push (by omega) page;obtain⟨p6,k6,b5⟩:=h1.pd.gone hq page cZ r5 o5 hg5 (by omega);have f8:=b5.free 8;have c8':=b5.c8
  have s6:=(h1.up (Nat.le_succ k)).op (op':=some {o with go:=some ⟨g',0,none⟩,gc:=c',gone:=o.gone++[page]}) (λ x hx=>by
   rw[<-aZ hx];show o.wn<=_/\o.made.length<=_/\(o.gone++[page]).length<=_;rw[zl,iE];omega) p6
  have HM:Hid (QO q.op (some {o with go:=some ⟨g',0,none⟩,gc:=c',gone:=o.gone++[page]}) page):=⟨o,_,hq,rfl,rfl,rfl,rfl,rfl⟩;have HS:=zH (zA s6 (k1.trans k6));clear ho hlim r5 o5 hg5 p6 k6 b5 s6 h1 k1 hq h
  go_wp2_with (at_builtin;refine UK.lH happ rfl rfl rfl rfl rfl ?_)
  go_ret;exact⟨rfl,_,HM.out,HS.out.1,HS.out.2⟩
 clear hb hno
 go_enter Tryz.func60,Tryz.ntmps60
 go_wp2_with fail
 refine hhas.mono ?_;rintro e w1 ⟨rfl,x,rfl⟩;obtain⟨h1,k1⟩:=h.looks x;generalize W.drewN x=w1 at h1 k1 ⊢;obtain⟨ao,nn,cc,hv,hcn⟩:=Hf h1.pd.pool page;have c8:=h1.pd.pool.box.c8;have c5:=h1.pd.pool.box.c5;have c0:=h1.pd.pool.box.c0;rw[hv]at c8;rw[decide_eq_false hg]at hcn;clear hhas
 go_wp2_with fail
 refine hcn.mono ?_;rintro e w2 ⟨rfl,rfl⟩;rw[hq]at c5 hv;simp only[xy,Option.isSome_some]at c5;obtain⟨e1,e2,e3⟩:=Value.slice.inj hv;subst e1 e2 e3;clear hv;have ho:=h1.pd.pool.op o hq;have hlim:=h1.lim o hq;obtain⟨g',c',w5,happ,r5,o5,hg5⟩:=ho.gone.push (by omega) page;obtain⟨p6,k6,b5⟩:=h1.pd.gone hq page cZ r5 o5 hg5 (by omega);have f8:=b5.free 8;have c8':=b5.c8
 have s6:=(h1.up (Nat.le_succ k)).op (op':=some {o with go:=some ⟨g',0,none⟩,gc:=c',gone:=o.gone++[page]}) (λ x hx=>by
  rw[<-aZ hx];show o.wn<=_/\o.made.length<=_/\(o.gone++[page]).length<=_;rw[zl,iE];omega) p6
 have HM:Hid (QO q.op (some {o with go:=some ⟨g',0,none⟩,gc:=c',gone:=o.gone++[page]}) page):=⟨o,_,hq,rfl,rfl,rfl,rfl,rfl⟩;have HS:=zH (zA s6 (k1.trans k6));clear ho hlim r5 o5 hg5 p6 k6 b5 s6 h1 k1 hq h
 go_wp2_with (at_builtin;refine UK.lH happ rfl rfl rfl rfl rfl ?_)
 go_ret;exact⟨rfl,_,HM.out,HS.out.1,HS.out.2⟩
def ycx(E:Nat->Prop)(W w':World)(P D FB M n:Nat)(kp:Int)(d:Dk)(au k:Nat)(c:Nat->List UInt8)(page:Int)(e:Ending):Prop:=
 ∃(q':Pl) (d':Dk),e= .returned (.int .i64 0)/\PS E w' P D FB M n kp q' d' au (k+1) c/\Kept E W w'/\q'.op=none/\d'.free=d.free++[page.toNat]/\d'.aC=d.aC
theorem xup(h:PS E W P D FB M n kp q d au k c){page:Int}(hk:k+1<900000000)(hq:q.op=none)(hq0:∀(i:Nat) (f:Fr),q.af[i]?=some (some f)->f.page=page->f.ah<=0)(cZ:(Lit.int .i64 page).wf=true)(hh:aX d au page=true) :
  Calls Tryz.prog 60 #[.pointer P,.int .i64 page] W λ e w'=>ycx E W w' P D FB M n kp d au k c page e:=by
 have hg:page∉bV q.op:=by rw[hq];exact List.not_mem_nil
 obtain⟨p,rfl,hp1,hp2,hp3⟩:∃p:Nat,page=p/\1<=p/\p<au/\p∉d.free:=by
  have hh:=hh;rw[h.calm.clean.so.kP,decide_eq_true_eq]at hh;exact⟨page.toNat,by omega,by omega,by omega,hh.2.2⟩
 obtain⟨re,rd⟩:=xun h.calm.clean hh;have Nq:=h.l6.puts;have hgh:=λ a ha hne=>xxo h.l6 (by omega) (p:Int) a ha hne;have Fq:=h.l6.give (by omega) (p:Int);rw[rd]at hgh Fq;have WM:=zH hgh;have Dc:=zH Fq
 have HG:=zH (λ (w:World) (hw:PS E w P D FB M n kp q d au k c)=>(show Calls Tryz.prog 123 #[.pointer D,.int .i64 (p:Int)] w λ e w'=>e= .returned (.int .i64 0)/\DD (λ k=>E k\/ji P FB M q.af q.op k) w' D (tu d p) au/\Kept (λ k=>E k\/ji P FB M q.af q.op k) w w' by
  have:=xst hw.pd.dd hw.l6 (by omega) (p:Int);rw[re,rd]at this;exact this))
 clear re rd hgh Fq;have hb:=h.pd.pool.box;have c2:=hb.c2;have c0:=hb.c0;have c1:=hb.c1;have hhas:=LP h.pd.dd (p:Int);have il:=h.ok.few;rw[hh]at hhas;rcases Np h.pd (p:Int) cZ with⟨i,f,hi,hf,hlk⟩|⟨hno,hlk⟩
 ·have hfr:=h.pd.pool.each i f hi;have hil:=(dE.1 hi).1;have cF:W.cell? (FB,i)=some (.pointer f.blk):=h.pd.frame hi;have d3:=hfr.box.c3;have hfp:=hq0 i f hi hf;have HF:=zH hf;clear hf;generalize zo:f.ah=fp at d3 hfp;have Kq:=zH zo;clear zo hfr hb
  go_enter Tryz.func60,Tryz.ntmps60
  go_wp2_with fail
  refine hhas.mono ?_;rintro e w1 ⟨rfl,x,rfl⟩;obtain⟨h1,k1⟩:=h.looks x;generalize W.drewN x=w1 at h1 k1 ⊢;obtain⟨ao,nn,cc,hv,hcn⟩:=Hf h1.pd.pool (p:Int);have c8:=h1.pd.pool.box.c8;have c5:=h1.pd.pool.box.c5;have c0:=h1.pd.pool.box.c0;rw[hv]at c8;rw[decide_eq_false hg]at hcn;clear hhas
  go_wp2_with fail
  refine hcn.mono ?_;rintro e w2 ⟨rfl,rfl⟩;rw[hq]at c5;simp only[xy,Option.isSome_none]at c5;have Kr:=zH (HG.out _ h1);have Kt:=zH (zA h1 (zA k1 hq));clear HG hv hcn h h1 k1 hq
  go_wp2_with fail
  refine Kr.out.mono ?_;rintro e w3 ⟨rfl,Ku,k3⟩;obtain⟨h1,k1,hq⟩:=Kt.out;have p3:=h1.pd.disk Ku k3;have K3:=zH (k1.trans (k3.mono (λ j hj=>.inl hj)));have HR:=zH (QH p3 h1.ok hi);have hpo:=h1.ok.set hi (u:=none) (λ g hg=>by cases hg);rw[show q.ah-iH (some f)+iH none=q.ah by show q.ah-f.ah+0=_;have:=Kq.out;have:=(h1.ok.pos i f hi).1;omega]at hpo
  have s4:∀w4,PD E w4 P D FB M {q with af:=q.af.set i none} (tu d p) au->PS E w4 P D FB M n kp {q with af:=q.af.set i none} (tu d p) au (k+1) c:=λ w4 p4=>by
   refine⟨p4,hpo,Dc.out,λ j g hj=>?_,h1.ah,by show(q.af.set i none).length=n;rw[aQ];exact h1.len,h1.calm.give (by omega) p hp1 hp2 hp3 (λ j g hj=>?_) (λ j g hj hne=>?_) _ _ _,(h1.up (Nat.le_succ k)).lim⟩
   ·replace hj:(q.af.set i none)[j]?=some (some g):=hj;rw[fJ _ _ _ _ hil]at hj;by_cases e:i=j
    ·rw[if_pos e]at hj;cases hj
    rw[if_neg e]at hj;exact WM.out _ (h1.held j g hj) (λ _ QQ=>e (h1.inj hi hj (by rw[HF.out,QQ])))
   ·rw[fJ _ _ _ _ hil]at hj;by_cases e:i=j
    ·rw[if_pos e]at hj;cases hj
    rw[if_neg e]at hj;exact hj
   rw[fJ _ _ _ _ hil,if_neg (λ e=>?_)]
   ·exact hj
   subst e;rw[hi]at hj;rw[<-aZ (aZ hj)]at hne;exact hne HF.out
  have HS:=zH s4;have HQ:=zH hq;rw[HF.out]at HR;clear Kr Kt h1 k1 hq p3 hpo s4 Ku k3
  go_wp2_with fail
  refine HR.out.mono ?_;rintro e w4 ⟨rfl,p4,k4⟩;have S4:=zH (HS.out w4 p4);have K4:=zH (K3.out.trans k4);clear HR HS K3 p4 k4;go_wp2;go_ret;exact⟨_,tu d p,rfl,S4.out,K4.out,HQ.out,rfl,rfl⟩
 have yR:=zH hno;clear hb hno
 go_enter Tryz.func60,Tryz.ntmps60
 go_wp2_with fail
 refine hhas.mono ?_;rintro e w1 ⟨rfl,x,rfl⟩;obtain⟨h1,k1⟩:=h.looks x;generalize W.drewN x=w1 at h1 k1 ⊢;obtain⟨ao,nn,cc,hv,hcn⟩:=Hf h1.pd.pool (p:Int);have c8:=h1.pd.pool.box.c8;have c5:=h1.pd.pool.box.c5;have c0:=h1.pd.pool.box.c0;rw[hv]at c8;rw[decide_eq_false hg]at hcn;clear hhas
 go_wp2_with fail
 refine hcn.mono ?_;rintro e w2 ⟨rfl,rfl⟩;rw[hq]at c5;simp only[xy,Option.isSome_none]at c5;have Kr:=zH (HG.out _ h1);have Kt:=zH (zA h1 (zA k1 hq));clear HG hv hcn h h1 k1 hq
 go_wp2_with fail
 refine Kr.out.mono ?_;rintro e w3 ⟨rfl,Ku,k3⟩;obtain⟨h1,k1,hq⟩:=Kt.out;have p3:=h1.pd.disk Ku k3;have K3:=zH (k1.trans (k3.mono (λ j hj=>.inl hj)));have HR:=zH (xub p3 (p:Int) cZ yR.out);have s4:PS E w3 P D FB M n kp q (tu d p) au (k+1) c:=⟨p3,h1.ok,Dc.out,λ j g hj=>WM.out _ (h1.held j g hj) (λ _=>yR.out j g hj),h1.ah,h1.len,h1.calm.give (by omega) p hp1 hp2 hp3 (λ j g hj=>hj) (λ j g hj _=>hj) _ _ _,(h1.up (Nat.le_succ k)).lim⟩;have HS:=zH s4;have HQ:=zH hq;clear Kr Kt h1 k1 hq p3 s4 Ku k3
 go_wp2_with fail
 refine HR.out.mono ?_;rintro e w4 ⟨rfl,rfl⟩;clear HR;go_wp2;go_ret;exact⟨_,tu d p,rfl,HS.out,K3.out,HQ.out,rfl,rfl⟩
end
section
variable{E:Nat->Prop}{W W':World}{P D FB M au k n:Nat}{kp:Int}{q:Pl}{d d':Dk}{c:Nat->List UInt8}
theorem DD.grow{S T:Nat->Prop}(h:DD S W D d au)(hb:Below W W W')(hT:∀k,T k->S k\/(W.heap.size<=k/\k<W'.heap.size)):DD T W' D d au:=by
 obtain⟨⟨own,ho,B,bc,fo,fc,I,ic,y,hd⟩,ft,hS⟩:=h;refine⟨⟨λ k=>own k/\k<W.heap.size,λ k hk ht=>?_,B,bc,fo,fc,I,ic,y,hd.tight.below hb⟩,ft,λ k hk=>?_⟩
 ·rcases hT k ht with h1|h1
  ·exact ho k hk.1 h1
  exact absurd hk.2 (by omega)
 rcases hT k hk with h1|h1
 ·exact bZ (hS k h1) hb.size
 exact h1.2
abbrev nP(n:Nat):Pl:={af:=List.replicate n none,hand:=0,ah:=0,op:=none}
theorem xuq(hd:DD E W D d au)(ok:Ok d au k)(cl:Clean d au)(n:Nat)(hn:1<=n/\n<=1000)(t1 t2:TypeId) :
  PS E (((W.alloc (.cells (madeCells #[.pointer none] n) t1)).alloc (.map #[] 0)).alloc (.cells (nW D W n (W.heap.size+1) 0 0 none) t2)) (W.heap.size+2) D W (W.heap.size+1) n 0 (nP n) d au k (λ p=>jX d.x p):=by
 have aD:(nP n).af.length=n:=gY
 have hnone:∀(i:Nat) (o:Option Fr),(nP n).af[i]?=some o->o=none:=λ i o h=>by
  have:=eZ h;exact(List.mem_replicate.1 this).2
 have hcf:cntF (nP n).af=0:=by unfold cntF;rw[List.filter_eq_nil_iff.2 (λ a ha=>by rw[(List.mem_replicate.1 ha).2];decide)];rfl
 have lq:sJ (nP n).af=0:=by
  show sJ (List.replicate n none)=0;clear aD hnone hcf hn
  induction n with
  | zero=>rfl
  | succ m ih=>rw[List.replicate_succ,Ha,ih];rfl
 have r1:=UK.Gd W (madeCells #[.pointer none] n) t1;rw[size_madeCells,toList_madeCells_one]at r1;have m1:=kG.new (P:=Tryz.prog) (K:=3) (E:=3) (W.alloc (.cells (madeCells #[.pointer none] n) t1));have s1:(W.alloc (.cells (madeCells #[.pointer none] n) t1)).heap.size=W.heap.size+1:=by simp
 rw[s1]at m1;have s2:((W.alloc (.cells (madeCells #[.pointer none] n) t1)).alloc (.map #[] 0)).heap.size=W.heap.size+2:=by simp
 have b3:=ay.new ((W.alloc (.cells (madeCells #[.pointer none] n) t1)).alloc (.map #[] 0)) (nW D W n (W.heap.size+1) 0 0 none) t2;rw[s2]at b3;have hB:Below W W (((W.alloc (.cells (madeCells #[.pointer none] n) t1)).alloc (.map #[] 0)).alloc (.cells (nW D W n (W.heap.size+1) 0 0 none) t2)):=(((aV _ _).alloc (aO _) _).alloc (by simp) _).alloc (by simp;omega) _;have hs3:(((W.alloc (.cells (madeCells #[.pointer none] n) t1)).alloc (.map #[] 0)).alloc (.cells (nW D W n (W.heap.size+1) 0 0 none) t2)).heap.size=W.heap.size+3:=by simp
 have hM:kG Tryz.prog 3 3 (((W.alloc (.cells (madeCells #[.pointer none] n) t1)).alloc (.map #[] 0)).alloc (.cells (nW D W n (W.heap.size+1) 0 0 none) t2)) (W.heap.size+1) 0 (λ _=>none) 0:=m1.ae (Below.heap_alloc _ _ _ (by rw[s2];omega));have hR:=((r1.alloc (.map #[] 0)).alloc (.cells (nW D W n (W.heap.size+1) 0 0 none) t2));generalize ((W.alloc (.cells (madeCells #[.pointer none] n) t1)).alloc (.map #[] 0)).alloc (.cells (nW D W n (W.heap.size+1) 0 0 none) t2)=V at b3 hB hs3 hM hR ⊢
 have hpb:∀b,ji (W.heap.size+2) W (W.heap.size+1) (nP n).af none b->W.heap.size<=b/\b<V.heap.size:=λ b hb=>by
  rcases hb with rfl|rfl|rfl|ho|⟨i,o,hi,ho⟩
  ·omega
  ·omega
  ·omega
  ·exact absurd ho id
  have e:=hnone i o hi;subst e;exact absurd ho id
 have hno:∀(i:Nat) (f:Fr),(nP n).af[i]?=some (some f)->False:=λ i f hi=>by have:=hnone i _ hi;cases this
 have htl:=hd.tab.lt;have QR:ay V (W.heap.size+2) (nW D W (nP n).af.length (W.heap.size+1) 0 0 none):=by rw[aD];exact b3
 have hat:fA V (W.heap.size+2) D W (W.heap.size+1) (nP n):=by
  refine⟨QR,?_,⟨λ _=>none,(λ p i=>⟨(λ h0=>by cases h0),(λ hh=>by obtain⟨j,_,fr,hj,_⟩:=hh;exact absurd hj (hno _ _))⟩),?_⟩,(λ i f hi=>absurd hi (hno i f)),by omega,by omega,by omega,(λ i o b hi ho=>by have e:=hnone i o hi;subst e;exact absurd ho id),(λ i j o u b _ hi _ ho=>by have e:=hnone i o hi;subst e;exact absurd ho id),(λ x hx=>by cases hx),(λ b hb=>absurd hb id),(λ i o b _ _ hb=>absurd hb id),(λ b hb=>by have:=hpb b hb;omega)⟩
  ·rw[aD];simpa[qh]using hR
  rw[hcf];exact hM
 refine⟨⟨hat,?_,λ b hb hh=>?_⟩,⟨lq.symm,(λ i f hi=>absurd hi (hno i f)),(by rw[aD];exact hn.1),(by rw[aD];exact hn.2)⟩,ok,(λ j g hj=>absurd hj (hno j g)),rfl,aD,⟨cl,λ i f hi=>absurd hi (hno i f),λ p _ _ _ _=>rfl⟩,λ o ho=>by cases ho⟩
 ·refine hd.grow hB (λ b hb=>?_);rcases hb with hb|hb
  ·exact .inl hb
  exact .inr (hpb b hb)
 have:=hpb b hh;have:=hd.there b hb;omega
theorem xxp(hd:DD E W D d au)(ok:Ok d au k)(cl:Clean d au)(n:Nat)(hn:1<=n/\n<=1000)(hand:Int) :
  Calls Tryz.prog 35 #[.pointer D,.int .i64 n,.int .i64 hand] W λ e w'=>∃P FB M q,e= .returned (.pointer (some ⟨P,0,none⟩))/\PS E w' P D FB M n 0 q d au k (λ p=>jX d.x p)/\Kept E W w'/\q.op=none:=by
 have hmk:=run_make_row (P:=Tryz.prog) 110 124 Tryz.t124 (.pointer none) Tryz.underlying110 rfl rfl rfl rfl .i64 .i64 n (show 8*n<=281474976710656 by omega) (by omega);have hm:=xuq hd ok cl n hn 124 114;have hB:Below W W (((W.alloc (.cells (madeCells #[.pointer none] n) 124)).alloc (.map #[] 0)).alloc (.cells (nW D W n (W.heap.size+1) 0 0 none) 114)):=(((aV _ _).alloc (aO _) _).alloc (by simp) _).alloc (by simp;omega) _;have HM:=zH hm;have HK:=zH (Kept.of_below (S:=E) hB (λ j hj=>hd.there j hj));have HH:=zH (xxh hm.pd hm.ok hand);obtain⟨bi,hn2⟩:=hn;clear hm hB;simp only[nW,xy,uA,He,JZ,Option.isSome_none]at HM HK HH
 go_enter Tryz.func35,Tryz.ntmps35
 have hmm:∀w:World,(Instr.makeMap 111 none).run Tryz.prog w= .ok (.map (some w)) (w.alloc (.map #[] 0)):=run_makeMap _
 go_wp2_with fail
 refine HH.out.mono ?_;rintro e w2 ⟨rfl,p2,k2⟩;have HS:=zH (show PS E w2 (W.heap.size+2) D W (W.heap.size+1) n 0 {nP n with hand:=Am hand (nP n).af.length} d au k (λ p=>jX d.x p)from⟨p2,⟨HM.out.ok.ah,HM.out.ok.pos,(Ww hand (nP n).af.length (by have:=HM.out.ok.hand;omega)).2.1,HM.out.ok.few⟩,HM.out.l6,HM.out.held,HM.out.ah,HM.out.len,HM.out.calm.same _ _ _,λ o ho=>by cases ho⟩);have K2:=zH (HK.out.trans k2);clear HH HM HK p2 k2 hmk hmm;go_wp2;go_ret;exact⟨W.heap.size+2,W.heap.size,W.heap.size+1,_,rfl,HS.out,K2.out,rfl⟩
end
end Go.Proofs.YtgpmiliahonaoaaGreatDoor
