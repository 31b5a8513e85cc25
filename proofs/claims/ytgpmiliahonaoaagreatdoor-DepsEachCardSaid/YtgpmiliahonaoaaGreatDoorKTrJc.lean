/- Facts on texts and trees on pages. -/
import Derived.Test.YtgpmiliahonaoaaGreatDoorKTrGc
set_option maxRecDepth 100000
set_option maxHeartbeats 8000000
set_option linter.unusedSimpArgs false
namespace Go.Proofs.YtgpmiliahonaoaaGreatDoor
open Go.RowKit
open UK (str aF nth Only Row ay)
section
variable{S:Nat->Prop}{W W':World}{nb:Nat}{x:Nd}
theorem AA(k:Nat)(h:k<=1000):wrap64 (k:Int)=(k:Int):=by unfold wrap64;omega
theorem AB(k:Nat)(h:k<=1000):IntKind.i64.wrap (k:Int)=(k:Int):=by rw[dJ];omega
theorem xoh{ag:List UInt64}{ax:List Nat}{n m h:Nat}(hn:A7 S W nb ⟨false,ag,[],ax⟩)(hS:∀g,S g->g<W.heap.size/\g≠nb)(hl:ag.length=n)(hv:ax.length=m)(hm:m=n+1)(hm2:m<=1000)(hh:m/2=h)(h2:2<=h) :
  Calls Tryz.prog 238 #[.pointer nb] W (Fx S W nb ⟨false,ag,[],ax⟩):=by
 obtain⟨kv,av,vv,b,hk,ha,hvv⟩:=hn;dsimp only at b hk hvv ha;have hhn:h<n:=by omega
 have hhm:h<m:=by omega
 obtain⟨g1,o1,d1,rfl,hd1,_⟩:=hk.shape (by rw[dA];omega);obtain⟨g2,o2,d2,rfl,hd2,_⟩:=hvv.shape (by rw[gQ];omega);rw[dA,hl]at b hk hd1;rw[gQ,hv]at b hvv hd2;have hwr2:wrap64 ((h-1:Nat):Int)=((h-1:Nat):Int):=AA _ (by omega)
 have Fz:wrap64 ((h:Int)-1)=((h-1:Nat):Int):=by
  have e:(h:Int)-1=((h-1:Nat):Int):=(Int.ofNat_sub (show 1<=h by omega)).symm;rw[e];exact hwr2
 have F3:IntKind.i64.wrap ((h:Int)-1)=((h-1:Nat):Int):=by
  have e:(h:Int)-1=((h-1:Nat):Int):=(Int.ofNat_sub (show 1<=h by omega)).symm;rw[e];exact AB _ (by omega)
 have hc1:((h-1:Nat):Int)<=(d1:Int):=Int.ofNat_le.2 (by omega);have hc2:(h:Int)<=(d2:Int):=Int.ofNat_le.2 (by omega);have hc3:((h-1:Nat):Int)<(n:Int):=Int.ofNat_lt.2 (by omega);have hc4:(0:Int)<=((h-1:Nat):Int):=Int.natCast_nonneg _;have BJ:h-1<n:=by omega
 have H9:=zH (zA F3 (zA Fz (zA hwr2 (zA hc1 (zA hc2 (zA hc3 (zA hc4 BJ)))))));clear F3 Fz hwr2 hc1 hc2 hc3 hc4 BJ;have b0:=b.c0;have b1:=b.c1;have b3:=b.c3;have hb:=b
 have k2:fV S W (.slice (g1,o1+h) (ag.drop h).length (d1-h)) (az (ag.drop h)):=by
  have:=hk.drop h (by omega);rw[Ht]at this;rw[zd,hl];exact this
 have v2:fV S W (.slice (g2,o2+h) (ax.drop h).length (d2-h)) (ints (ax.drop h)):=by
  have:=hvv.drop h (by omega);rw[XE]at this;rw[zd,hv];exact this
 have k1:fV S W (.slice (g1,o1) (h-1) d1) (az (ag.take (h-1))):=by
  have:=hk.take (h-1) (by omega);rw[Hu]at this;exact this
 have v1:fV S W (.slice (g2,o2) h d2) (ints (ax.take h)):=by
  have:=hvv.take h (by omega);rw[XF]at this;exact this
 have hlk:(ag.drop h).length=n-h:=by rw[zd,hl]
 have hlv:(ax.drop h).length=m-h:=by rw[zd,hv]
 obtain⟨q,hqe⟩:∃q:UInt64,q=ag.getD (h-1) 0:=⟨_,rfl⟩
 have c8:W.cell? (g1,o1+(h-1))=some (.int .u64 (q.toNat:Int))/\g1<W.heap.size:=by
  obtain⟨ao,c',e,_,hv8⟩:=hk
  obtain⟨g',o',e2,hg,hc⟩:=hv8 (h-1) (.int .u64 (q.toNat:Int)) (tH _ _ _ (by
   rw[hqe,fE,bL (by omega)];rfl))
  injection e with e _ _
  rw[e2]at e
  injection e with e
  injection e with e4 e5
  subst e4 e5;exact⟨hc,(hS _ hg).1⟩
 have C8:=zH c8;have HQ:=zH hqe;clear c8 hqe;have z8:∀g,S g->g<W.heap.size:=λ g hg=>(hS g hg).1
 have hC:=((Hr (W:=W.drew) (k2.below (hBd W) z8) z8 (by omega) (by omega)).mono (R':=λ e w'=>∃ga ca,e= .returned (.slice (some ⟨ga,0,none⟩) (n-h) ca)/\ay w' nb #[.bool false,.slice (g1,o1) n d1,av,.slice (g2,o2) m d2] /\
  Calls Tryz.prog 266 #[.slice (g2,o2+h) (m-h) (d2-h)] w' (λ e w''=>∃gb cb,e= .returned (.slice (some ⟨gb,0,none⟩) (m-h) cb)/\ay w'' nb #[.bool false,.slice (g1,o1) n d1,av,.slice (g2,o2) m d2] /\
   Row w'' ga ca (az (ag.drop h))/\Row w'' gb cb (ints (ax.drop h))/\W.heap.size<=ga/\W.heap.size<=gb/\ga≠gb/\Below W W w'')) (λ e w' ⟨ga,ca,he,r1,hga,R9⟩=>by
  have bl:Below W W w':=(hBd W).trans R9;rw[hlk]at he;refine⟨ga,ca,he,hb.next bl,?_⟩;have hlt:∀g,S g->g<w'.heap.size:=λ g hg=>bZ (z8 g hg) bl.size;have:=XD (v2.below bl z8) hlt (by omega) (by omega);rw[hlv]at this;refine this.mono (λ e w'' ⟨gb,cb,he,r2,hgb,qB⟩=>?_);have KQ:Below W W w'':=bl.trans (qB.mono bl.size);rw[hlv]at he;have:=r1.lt;exact⟨gb,cb,he,hb.next KQ,r1.ae qB.size (qB.block _ r1.lt),r2,hga,by have:=bl.size;omega,by omega,KQ⟩))
 rw[hlk]at hC;have HC:=zH hC;have HK:=zH (zA hb (zA k1 (zA v1 ha)));clear b hk hvv ha k1 k2 v1 v2 hlk hlv hb hC;have hq:Int.tdiv (m:Int) 2=(h:Int):=by rw[mM (by omega)];omega
 have hq2:(m:Int)/2=(h:Int):=by omega
 have hm':Hid (m=n+1/\m/2=h/\m<=1000):=⟨hm,hh,hm2⟩;have hi0:(0:Int)<=(h:Int):=by omega
 have hi1:(h:Int)<=(n:Int):=by omega
 have hi2:(h:Int)<=(m:Int):=by omega
 have hwr:wrap64 (h:Int)=(h:Int):=AA _ (by omega);have hne1:¬(d1=h):=by omega
 have hne2:¬(d2=h):=by omega
 clear hm hh hm2
 go_enter Tryz.func238,Tryz.ntmps238
 go_wp2_with fail
 go_region_held (λ w:World=>w.cell? (nb,1)=some (.slice (g1,o1) n d1)/\w.cell? (nb,3)=some (.slice (g2,o2) m d2)) (first|exact⟨b1,b3⟩|exact⟨m1,m2⟩|exact⟨n1,n2⟩|exact⟨q1,q2⟩) (first
  | (go_at_call 265;refine HC.out.mono ?_;rintro e w3 ⟨ga,ca,rfl,y1,y2⟩;have m1:=y1.cell 1 _ rfl;have m2:=y1.cell 3 _ rfl;replace y1:=zH y1;replace y2:=zH y2)
  | (go_at_call 266;refine y2.out.mono ?_;rintro e w4 ⟨gb,cb,rfl,z1,z2⟩;have n1:=z1.cell 1 _ rfl;have n2:=z1.cell 3 _ rfl;have q1:=(z1.alloc (.cells #[.bool false,.slice ga (n-h) ca,.slice none 0 0,.slice gb (m-h) cb] 212)).cell 1 _ rfl;have q2:=(z1.alloc (.cells #[.bool false,.slice ga (n-h) ca,.slice none 0 0,.slice gb (m-h) cb] 212)).cell 3 _ rfl;replace z1:=zH z1;replace z2:=zH z2))
 obtain⟨r1,r2,hga,hgb,wI,bl⟩:=z2.out;have hbx:=z1.out.alloc (.cells #[.bool false,.slice ga (n-h) ca,.slice none 0 0,.slice gb (m-h) cb] 212);have hmx:ay (w4.alloc (.cells #[.bool false,.slice ga (n-h) ca,.slice none 0 0,.slice gb (m-h) cb] 212)) w4 #[.bool false,.slice ga (n-h) ca,.slice none 0 0,.slice gb (m-h) cb]:=tQ rfl;have tT:=bl.alloc bl.size (.cells #[.bool false,.slice ga (n-h) ca,.slice none 0 0,.slice gb (m-h) cb] 212);have bw:Below w4 w4 (w4.alloc (.cells #[.bool false,.slice ga (n-h) ca,.slice none 0 0,.slice gb (m-h) cb] 212)):=(aV _ _).alloc (aO _) _;have rz:ga<w4.heap.size:=r1.lt;have r9:gb<w4.heap.size:=r2.lt;replace r1:=r1.ae bw.size (bw.block _ r1.lt);replace r2:=r2.ae bw.size (bw.block _ r2.lt);have hms:W.heap.size<=w4.heap.size:=bl.size;have hnm:nb<w4.heap.size:=z1.out.lt;generalize hmb:w4.heap.size=mb at hmx hms hnm rz r9;generalize Dz:w4.alloc (.cells #[.bool false,.slice ga (n-h) ca,.slice none 0 0,.slice gb (m-h) cb] 212)=w5 at hbx hmx tT r1 r2;clear y1 y2 z1 z2 m1 m2 n1 n2 HC b0 b1 b3 q1 q2 bw;have q1:=hbx.cell 1 _ rfl;have q2:=hbx.cell 3 _ rfl;have f1:=hbx.free 1;have f2:=hbx.free 3;have q8:w5.cell? (g1,o1+(h-1))=some (.int .u64 (q.toNat:Int)):=(tT.cell (p:=⟨g1,o1+(h-1),none⟩) C8.out.2).trans C8.out.1;obtain⟨F3,Fz,hwr2,hc1,hc2,hc3,hc4,BJ⟩:=H9.out;have H5:=zH (zA hbx (zA hmx (zA tT (zA r1 (zA r2 (zA hms hnm))))));have H6:=zH (zA rz (zA r9 (zA hga (zA hgb (zA wI hS)))));clear hbx hmx tT r1 r2 hms hnm C8 rz r9 hga hgb wI hS z8 Dz hmb
 go_wp2_with fail
 go_region_law (fail)
 all_goals
  obtain⟨hbx,hmx,tT,r1,r2,hms,hnm⟩:=H5.out;obtain⟨rz,r9,hga,hgb,wI,hS⟩:=H6.out;obtain⟨Fy,k1,v1,ha⟩:=HK.out;have o5:Only nb W ((w5.setCell (nb,1) (.slice (g1,o1) (h-1) d1)).setCell (nb,3) (.slice (g2,o2) h d2)).drew:=(((Only.of_below tT).set 1 _).set 3 _).drew;have o6:Only nb w5 ((w5.setCell (nb,1) (.slice (g1,o1) (h-1) d1)).setCell (nb,3) (.slice (g2,o2) h d2)).drew:=(((Only.refl nb w5).set 1 _).set 3 _).drew;have hby:ay ((w5.setCell (nb,1) (.slice (g1,o1) (h-1) d1)).setCell (nb,3) (.slice (g2,o2) h d2)).drew nb #[.bool false,.slice (g1,o1) (h-1) d1,av,.slice (g2,o2) h d2]:=(hbx.set 1 _).set 3 _;have A8:=hmx.only o6 (Nat.ne_of_gt hnm);have hgn:ga≠nb:=λ e=>lu nb (bZ Fy.lt (e▸hga));have hgn2:gb≠nb:=λ e=>lu nb (bZ Fy.lt (e▸hgb));have A9:=r1.only o6 hgn;have Cn:=r2.only o6 hgn2;generalize ((w5.setCell (nb,1) (.slice (g1,o1) (h-1) d1)).setCell (nb,3) (.slice (g2,o2) h d2)).drew=w6 at o5 o6 hby A8 A9 Cn;have hlk:(az (ag.drop h)).length=n-h:=by rw[dA,zd,hl]
  have hlv:(ints (ax.drop h)).length=m-h:=by rw[gQ,zd,hv]
  have sG:=A8.lt
  have fin:Fx S W nb ⟨false,ag,[],ax⟩ (.returned (.tuple #[.pointer mb,.int .u64 (q.toNat:Int)])) w6:=by
   rw[HQ.out];unfold Fx;rw[Hy (show ax.length/2=h by rw[hv];exact hm'.out.2.1)];refine⟨mb,rfl,⟨_,_,_,hby,k1.only o5 hS,ha.only o5 hS,v1.only o5 hS⟩,⟨_,_,_,A8,?_,XG,?_⟩,hms,sG,o5⟩
   ·have:=vE (S:=λ g=>W.heap.size<=g/\g<w6.heap.size/\g≠mb) A9 ⟨hga,A9.lt,Nat.ne_of_lt rz⟩;rw[hlk]at this;exact this
   have:=vE (S:=λ g=>W.heap.size<=g/\g<w6.heap.size/\g≠mb) Cn ⟨hgb,Cn.lt,Nat.ne_of_lt r9⟩;rw[hlv]at this;exact this
  have HF:=zH fin;clear hbx hmx tT r1 r2 hms hnm Fy k1 v1 ha o5 o6 hby A8 A9 Cn fin hlk hlv H5 H6 HK sG rz r9 hgn hgn2 f1 f2 q1 q2 q8 hga hgb wI hS HQ hl hv;go_wp2;go_ret2;exact HF.out
end
section
variable{S:Nat->Prop}{W W':World}{nb N M:Nat}{x:Nd}
theorem xvb(hn:A7 S W nb x)(hS:∀g,S g->g<W.heap.size/\g≠nb)(ok:mX x)(hf:oP x=true) :
  Calls Tryz.prog 238 #[.pointer nb] W (Fx S W nb x):=by
 unfold oP at hf;simp only[Bool.or_eq_true,decide_eq_true_eq]at hf;obtain⟨lf,ag,vals,ax⟩:=x
 cases lf with
 | true=>
  obtain⟨h1,h2,h3⟩:=ok.1 rfl;dsimp only at h1 h2 h3 hf;subst h2;have h31:ag.length=31:=by simp at hf;omega
  exact xrs hn hS h31 (by omega)
 | false=>
  obtain⟨h1,h2,h3,h4,_⟩:=ok.2 rfl;dsimp only at h1 h2 h3 h4 hf;subst h2;have h31:31<=ag.length:=by omega
  exact xoh hn hS rfl rfl h1 (by omega) rfl (by omega)
theorem xH.wins{ka va aa:Option Addr}{kc vc ac:Nat}(h:xH N M W nb x ka va aa kc vc ac):A7 (λ g=>N<=g/\g<M/\g≠nb) W nb x:=by
 obtain⟨h1,h2,h3⟩:=h;refine⟨_,_,_,h1.box,?_,?_,?_⟩
 ·have:=h1.k.win (S:=λ g=>N<=g/\g<M/\g≠nb) (λ g hg=>⟨(h1.new g (.inl hg)).1,h3 g (.inl hg),(h1.new g (.inl hg)).2⟩);rw[dA]at this;exact this
 ·have:=h1.v.win (S:=λ g=>N<=g/\g<M/\g≠nb) (λ g hg=>⟨(h1.new g (.inr (.inl hg))).1,h3 g (.inr (.inl hg)),(h1.new g (.inr (.inl hg))).2⟩);rw[dA]at this;exact this
 have:=h1.a.win (S:=λ g=>N<=g/\g<M/\g≠nb) (λ g hg=>⟨(h1.new g (.inr (.inr hg))).1,h3 g (.inr (.inr hg)),(h1.new g (.inr (.inr hg))).2⟩);rw[gQ]at this;exact this
end
section
variable{E S:Nat->Prop}{W W':World}{P D T k pg nb N M:Nat}{root:Int}{A:AP}{x:Nd}
theorem aU.wins{ka va aa:Option Addr}{kc vc ac:Nat}(h:aU N W nb x ka va aa kc vc ac):A7 (λ g=>aK ka g\/aK va g\/aK aa g) W nb x/\∀g,(aK ka g\/aK va g\/aK aa g)->g<W.heap.size/\g≠nb:=by
 refine⟨⟨_,_,_,h.box,?_,?_,?_⟩,λ g hg=>⟨?_,(h.new g hg).2⟩⟩
 ·have:=h.k.win (S:=λ g=>aK ka g\/aK va g\/aK aa g) (λ g hg=>.inl hg);rw[dA]at this;exact this
 ·have:=h.v.win (S:=λ g=>aK ka g\/aK va g\/aK aa g) (λ g hg=>.inr (.inl hg));rw[dA]at this;exact this
 ·have:=h.a.win (S:=λ g=>aK ka g\/aK va g\/aK aa g) (λ g hg=>.inr (.inr hg));rw[gQ]at this;exact this
 rcases hg with hg|hg|hg
 ·exact h.k.lt hg
 ·exact h.v.lt hg
 exact h.a.lt hg
theorem A7.reads(h:A7 S W nb x)(hs:∀g,S g->E g)(hnb:E nb):jD E W nb x:=by
 obtain⟨kv,vv,av,b,h1,h2,h3⟩:=h;exact⟨kv,vv,av,b,hnb,h1.mono hs,h2.mono hs,h3.mono hs⟩
theorem jD.vF(h:jD E W nb x)(hk:Kept E W W'):jD E W' nb x:=by
 obtain⟨kv,vv,av,b,hnb,h1,h2,h3⟩:=h;exact⟨kv,vv,av,b.ae (hk.block nb hnb),hnb,h1.kept hk,h2.kept hk,h3.kept hk⟩
theorem XH(p:PZ E W P D A k)(hk:k+6<900000000)(hb:ay W T #[.pointer P,.int .i64 root])(hT:E T)(xq:T≠nb)(hp:A.Has pg)(hn:A7 S W nb x)(DK:∀g,S g->E g)(hSn:∀g,S g->g≠nb)(hE:∀g,E g->g<W.heap.size)(hnb:E nb)(htab:nb≠0)(ok:mX x)(hf:oP x=true) :
  Calls Tryz.prog 238 #[.pointer nb] W λ e w5=>∃mb,e= .returned (.tuple #[.pointer (some ⟨mb,0,none⟩),.int .u64 ((lK x).2.2.toNat:Int)]) /\
   Calls Tryz.prog 150 #[.pointer T,.int .i64 pg,.pointer nb] w5 λ e w6=>e= .returned (.int .i64 0) /\
    Calls Tryz.prog 181 #[.pointer T,.pointer mb] w6 λ e w7=>∃(B:AP) (more:Nat) (er:Int),e= .returned (.tuple #[.int .i64 more,.int .i64 er])/\jE A pg x B more (lK x).2.2 er/\PZ E w7 P D B (k+6)/\Kept (λ j=>E j/\j≠nb) W w7:=by
 obtain⟨f1,f2,_⟩:=ok.split hf;refine(xvb hn (λ g hg=>⟨hE g (DK g hg),hSn g hg⟩) ok hf).mono ?_;rintro e w5 ⟨mb,rfl,n1,n2,hmb,qI,o⟩;refine⟨mb,rfl,?_⟩;have p5:PZ (λ j=>E j\/(W.heap.size<=j/\j<w5.heap.size)) w5 P D A k:=p.over (R:=λ j=>j=nb) (T:=λ j=>E j\/(W.heap.size<=j/\j<w5.heap.size)) (λ j hj=>by rw[hj];exact hnb) (λ h=>htab h.symm) o.size (λ j hj hr=>o.block j hj hr) (λ j hj=>hj);have b5:=hb.only o xq;have k5:Kept (λ j=>E j/\j≠nb) W w5:=⟨o.os,o.tape,o.output,o.size,λ j hj=>o.block j (hE j hj.1) hj.2⟩;have r1:=n1.reads (E:=λ j=>E j\/(W.heap.size<=j/\j<w5.heap.size)) (λ g hg=>.inl (DK g hg)) (.inl hnb);have r2:=n2.reads (E:=λ j=>E j\/(W.heap.size<=j/\j<w5.heap.size)) (λ g hg=>.inr ⟨hg.1,hg.2.1⟩) (.inr ⟨hmb,qI⟩);refine(cB p5 (by omega) b5 hp r1 f1).mono ?_;rintro e w6 ⟨rfl,p6,k6⟩;refine⟨rfl,?_⟩;have b6:=b5.ae (k6.block T (.inl hT));have r3:=r2.vF k6;have XI:=k5.trans (k6.mono (T:=λ j=>E j/\j≠nb) (λ j hj=>.inl hj.1));by_cases hF:A.Full
 ·refine(X6 p6 (by omega) b6 hF).mono ?_;rintro e w7 ⟨rfl,p7,k7⟩;exact⟨_,0,6,rfl,.none hf hF,p7.less (λ _ hj=>.inl hj),XI.trans (k7.mono (λ j hj=>.inl hj.1))⟩
 refine(X5 p6 (by omega) b6 hF r3 f2).mono ?_;rintro e w7 ⟨rfl,p7,k7⟩;exact⟨_,A.next,0,rfl,.two hf hF,p7.less (λ _ hj=>.inl hj),XI.trans (k7.mono (λ j hj=>.inl hj.1))⟩
end
end Go.Proofs.YtgpmiliahonaoaaGreatDoor
