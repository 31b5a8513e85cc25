/- Facts on rows of numbers on pages. -/
import Derived.Test.YtlipgbnnbefhjaaGreatDoorKTrGc
set_option maxRecDepth 100000
set_option maxHeartbeats 8000000
set_option linter.unusedSimpArgs false
namespace Go.Proofs.YtlipgbnnbefhjaaGreatDoor
open Go.RowKit
open UK (str aO nth Only Row aI)
section
variable{S:Nat->Prop}{W W':World}{nb:Nat}{x:Nd}
theorem Cu(k:Nat)(h:k<=1000):wrap64 (k:Int)=(k:Int):=by unfold wrap64;omega
theorem yE(k:Nat)(h:k<=1000):IntKind.i64.wrap (k:Int)=(k:Int):=by rw[bN];omega
theorem xov{ai:List UInt64}{ah:List Nat}{n m h:Nat}(hn:zo S W nb ⟨false,ai,[],ah⟩)(hS:∀g,S g->g<W.heap.size/\g≠nb)(hl:ai.length=n)(hv:ah.length=m)(hm:m=n+1)(hm2:m<=1000)(hh:m/2=h)(h2:2<=h) :
  Calls Tryz.prog 124 #[.pointer nb] W (Ho S W nb ⟨false,ai,[],ah⟩):=by
 obtain⟨kv,av,vv,b,hk,ha,hvv⟩:=hn;dsimp only at b hk hvv ha;have hhn:h<n:=by omega
 have hhm:h<m:=by omega
 obtain⟨g1,o1,d1,rfl,hd1,_⟩:=hk.shape (by rw[cz];omega);obtain⟨g2,o2,d2,rfl,hd2,_⟩:=hvv.shape (by rw[dx];omega);rw[cz,hl]at b hk hd1;rw[dx,hv]at b hvv hd2;have hwr2:wrap64 ((h-1:Nat):Int)=((h-1:Nat):Int):=Cu _ (by omega)
 have Hr:wrap64 ((h:Int)-1)=((h-1:Nat):Int):=by
  have e:(h:Int)-1=((h-1:Nat):Int):=(Int.ofNat_sub (show 1<=h by omega)).symm;rw[e];exact hwr2
 have Ht:IntKind.i64.wrap ((h:Int)-1)=((h-1:Nat):Int):=by
  have e:(h:Int)-1=((h-1:Nat):Int):=(Int.ofNat_sub (show 1<=h by omega)).symm;rw[e];exact yE _ (by omega)
 have hc1:((h-1:Nat):Int)<=(d1:Int):=Int.ofNat_le.2 (by omega);have hc2:(h:Int)<=(d2:Int):=Int.ofNat_le.2 (by omega);have hc3:((h-1:Nat):Int)<(n:Int):=Int.ofNat_lt.2 (by omega);have hc4:(0:Int)<=((h-1:Nat):Int):=Int.natCast_nonneg _;have UW:h-1<n:=by omega
 have H9:=zH (zA Ht (zA Hr (zA hwr2 (zA hc1 (zA hc2 (zA hc3 (zA hc4 UW)))))));clear Ht Hr hwr2 hc1 hc2 hc3 hc4 UW;have b0:=b.c0;have b1:=b.c1;have b3:=b.c3;have hb:=b
 have k2:dY S W (.slice (g1,o1+h) (ai.drop h).length (d1-h)) (aF (ai.drop h)):=by
  have:=hk.drop h (by omega);rw[BV]at this;rw[zd,hl];exact this
 have v2:dY S W (.slice (g2,o2+h) (ah.drop h).length (d2-h)) (ints (ah.drop h)):=by
  have:=hvv.drop h (by omega);rw[Lh]at this;rw[zd,hv];exact this
 have k1:dY S W (.slice (g1,o1) (h-1) d1) (aF (ai.take (h-1))):=by
  have:=hk.take (h-1) (by omega);rw[BZ]at this;exact this
 have v1:dY S W (.slice (g2,o2) h d2) (ints (ah.take h)):=by
  have:=hvv.take h (by omega);rw[Li]at this;exact this
 have hlk:(ai.drop h).length=n-h:=by rw[zd,hl]
 have hlv:(ah.drop h).length=m-h:=by rw[zd,hv]
 obtain⟨q,hqe⟩:∃q:UInt64,q=ai.getD (h-1) 0:=⟨_,rfl⟩
 have c8:W.cell? (g1,o1+(h-1))=some (.int .u64 (q.toNat:Int))/\g1<W.heap.size:=by
  obtain⟨ao,c',e,_,hv8⟩:=hk
  obtain⟨g',o',e2,hg,hc⟩:=hv8 (h-1) (.int .u64 (q.toNat:Int)) (qx _ _ _ (by
   rw[hqe,fK,di (by omega)];rfl))
  injection e with e _ _
  rw[e2]at e
  injection e with e
  injection e with e4 e5
  subst e4 e5;exact⟨hc,(hS _ hg).1⟩
 have C8:=zH c8;have HQ:=zH hqe;clear c8 hqe;have tY:∀g,S g->g<W.heap.size:=λ g hg=>(hS g hg).1
 have hC:=((EK (W:=W.drew) (k2.below (hBd W) tY) tY (by omega) (by omega)).mono (R':=λ e w'=>∃ga ca,e= .returned (.slice (some ⟨ga,0,none⟩) (n-h) ca)/\aI w' nb #[.bool false,.slice (g1,o1) n d1,av,.slice (g2,o2) m d2] /\
  Calls Tryz.prog 126 #[.slice (g2,o2+h) (m-h) (d2-h)] w' (λ e w''=>∃gb cb,e= .returned (.slice (some ⟨gb,0,none⟩) (m-h) cb)/\aI w'' nb #[.bool false,.slice (g1,o1) n d1,av,.slice (g2,o2) m d2] /\
   Row w'' ga ca (aF (ai.drop h))/\Row w'' gb cb (ints (ah.drop h))/\W.heap.size<=ga/\W.heap.size<=gb/\ga≠gb/\Below W W w'')) (λ e w' ⟨ga,ca,he,r1,hga,UU⟩=>by
  have bl:Below W W w':=(hBd W).trans UU;rw[hlk]at he;refine⟨ga,ca,he,hb.next bl,?_⟩;have hlt:∀g,S g->g<w'.heap.size:=λ g hg=>bS (tY g hg) bl.size;have:=Lj (v2.below bl tY) hlt (by omega) (by omega);rw[hlv]at this;refine this.mono (λ e w'' ⟨gb,cb,he,r2,hgb,rY⟩=>?_);have wZ:Below W W w'':=bl.trans (rY.mono bl.size);rw[hlv]at he;have:=r1.lt;exact⟨gb,cb,he,hb.next wZ,r1.af rY.size (rY.block _ r1.lt),r2,hga,by have:=bl.size;omega,by omega,wZ⟩))
 rw[hlk]at hC;have HC:=zH hC;have HK:=zH (zA hb (zA k1 (zA v1 ha)));clear b hk hvv ha k1 k2 v1 v2 hlk hlv hb hC;have hq:Int.tdiv (m:Int) 2=(h:Int):=by rw[yD (by omega)];omega
 have hq2:(m:Int)/2=(h:Int):=by omega
 have hm':Hid (m=n+1/\m/2=h/\m<=1000):=⟨hm,hh,hm2⟩;have hi0:(0:Int)<=(h:Int):=by omega
 have hi1:(h:Int)<=(n:Int):=by omega
 have hi2:(h:Int)<=(m:Int):=by omega
 have hwr:wrap64 (h:Int)=(h:Int):=Cu _ (by omega);have hne1:¬(d1=h):=by omega
 have hne2:¬(d2=h):=by omega
 clear hm hh hm2
 go_enter Tryz.func124,Tryz.ntmps124
 go_wp2_with fail
 go_region_held (λ w:World=>w.cell? (nb,1)=some (.slice (g1,o1) n d1)/\w.cell? (nb,3)=some (.slice (g2,o2) m d2)) (first|exact⟨b1,b3⟩|exact⟨m1,m2⟩|exact⟨n1,n2⟩|exact⟨q1,q2⟩) (first
  | (go_at_call 125;refine HC.out.mono ?_;rintro e w3 ⟨ga,ca,rfl,y1,y2⟩;have m1:=y1.cell 1 _ rfl;have m2:=y1.cell 3 _ rfl;replace y1:=zH y1;replace y2:=zH y2)
  | (go_at_call 126;refine y2.out.mono ?_;rintro e w4 ⟨gb,cb,rfl,z1,z2⟩;have n1:=z1.cell 1 _ rfl;have n2:=z1.cell 3 _ rfl;have q1:=(z1.alloc (.cells #[.bool false,.slice ga (n-h) ca,.slice none 0 0,.slice gb (m-h) cb] 131)).cell 1 _ rfl;have q2:=(z1.alloc (.cells #[.bool false,.slice ga (n-h) ca,.slice none 0 0,.slice gb (m-h) cb] 131)).cell 3 _ rfl;replace z1:=zH z1;replace z2:=zH z2))
 obtain⟨r1,r2,hga,hgb,yJ,bl⟩:=z2.out;have hbx:=z1.out.alloc (.cells #[.bool false,.slice ga (n-h) ca,.slice none 0 0,.slice gb (m-h) cb] 131);have hmx:aI (w4.alloc (.cells #[.bool false,.slice ga (n-h) ca,.slice none 0 0,.slice gb (m-h) cb] 131)) w4 #[.bool false,.slice ga (n-h) ca,.slice none 0 0,.slice gb (m-h) cb]:=mG rfl;have vJ:=bl.alloc bl.size (.cells #[.bool false,.slice ga (n-h) ca,.slice none 0 0,.slice gb (m-h) cb] 131);have bw:Below w4 w4 (w4.alloc (.cells #[.bool false,.slice ga (n-h) ca,.slice none 0 0,.slice gb (m-h) cb] 131)):=(aP _ _).alloc (aZ _) _;have nI:ga<w4.heap.size:=r1.lt;have tH:gb<w4.heap.size:=r2.lt;replace r1:=r1.af bw.size (bw.block _ r1.lt);replace r2:=r2.af bw.size (bw.block _ r2.lt);have hms:W.heap.size<=w4.heap.size:=bl.size;have hnm:nb<w4.heap.size:=z1.out.lt;generalize hmb:w4.heap.size=mb at hmx hms hnm nI tH;generalize xD:w4.alloc (.cells #[.bool false,.slice ga (n-h) ca,.slice none 0 0,.slice gb (m-h) cb] 131)=w5 at hbx hmx vJ r1 r2;clear y1 y2 z1 z2 m1 m2 n1 n2 HC b0 b1 b3 q1 q2 bw;have q1:=hbx.cell 1 _ rfl;have q2:=hbx.cell 3 _ rfl;have f1:=hbx.free 1;have f2:=hbx.free 3;have q8:w5.cell? (g1,o1+(h-1))=some (.int .u64 (q.toNat:Int)):=(vJ.cell (p:=⟨g1,o1+(h-1),none⟩) C8.out.2).trans C8.out.1;obtain⟨Ht,Hr,hwr2,hc1,hc2,hc3,hc4,UW⟩:=H9.out;have H5:=zH (zA hbx (zA hmx (zA vJ (zA r1 (zA r2 (zA hms hnm))))));have H6:=zH (zA nI (zA tH (zA hga (zA hgb (zA yJ hS)))));clear hbx hmx vJ r1 r2 hms hnm C8 nI tH hga hgb yJ hS tY xD hmb
 go_wp2_with fail
 go_region_law (fail)
 all_goals
  obtain⟨hbx,hmx,vJ,r1,r2,hms,hnm⟩:=H5.out;obtain⟨nI,tH,hga,hgb,yJ,hS⟩:=H6.out;obtain⟨Hq,k1,v1,ha⟩:=HK.out;have o5:Only nb W ((w5.setCell (nb,1) (.slice (g1,o1) (h-1) d1)).setCell (nb,3) (.slice (g2,o2) h d2)).drew:=(((Only.of_below vJ).set 1 _).set 3 _).drew;have o6:Only nb w5 ((w5.setCell (nb,1) (.slice (g1,o1) (h-1) d1)).setCell (nb,3) (.slice (g2,o2) h d2)).drew:=(((Only.refl nb w5).set 1 _).set 3 _).drew;have hby:aI ((w5.setCell (nb,1) (.slice (g1,o1) (h-1) d1)).setCell (nb,3) (.slice (g2,o2) h d2)).drew nb #[.bool false,.slice (g1,o1) (h-1) d1,av,.slice (g2,o2) h d2]:=(hbx.set 1 _).set 3 _;have AZ:=hmx.only o6 (Nat.ne_of_gt hnm);have hgn:ga≠nb:=λ e=>jc nb (bS Hq.lt (e▸hga));have hgn2:gb≠nb:=λ e=>jc nb (bS Hq.lt (e▸hgb));have Ct:=r1.only o6 hgn;have DN:=r2.only o6 hgn2;generalize ((w5.setCell (nb,1) (.slice (g1,o1) (h-1) d1)).setCell (nb,3) (.slice (g2,o2) h d2)).drew=w6 at o5 o6 hby AZ Ct DN;have hlk:(aF (ai.drop h)).length=n-h:=by rw[cz,zd,hl]
  have hlv:(ints (ah.drop h)).length=m-h:=by rw[dx,zd,hv]
  have Bn:=AZ.lt
  have fin:Ho S W nb ⟨false,ai,[],ah⟩ (.returned (.tuple #[.pointer mb,.int .u64 (q.toNat:Int)])) w6:=by
   rw[HQ.out];unfold Ho;rw[J5 (show ah.length/2=h by rw[hv];exact hm'.out.2.1)];refine⟨mb,rfl,⟨_,_,_,hby,k1.only o5 hS,ha.only o5 hS,v1.only o5 hS⟩,⟨_,_,_,AZ,?_,Db,?_⟩,hms,Bn,o5⟩
   ·have:=sU (S:=λ g=>W.heap.size<=g/\g<w6.heap.size/\g≠mb) Ct ⟨hga,Ct.lt,Nat.ne_of_lt nI⟩;rw[hlk]at this;exact this
   have:=sU (S:=λ g=>W.heap.size<=g/\g<w6.heap.size/\g≠mb) DN ⟨hgb,DN.lt,Nat.ne_of_lt tH⟩;rw[hlv]at this;exact this
  have HF:=zH fin;clear hbx hmx vJ r1 r2 hms hnm Hq k1 v1 ha o5 o6 hby AZ Ct DN fin hlk hlv H5 H6 HK Bn nI tH hgn hgn2 f1 f2 q1 q2 q8 hga hgb yJ hS HQ hl hv;go_wp2;go_ret2;exact HF.out
end
section
variable{S:Nat->Prop}{W W':World}{nb N M:Nat}{x:Nd}
theorem xvc(hn:zo S W nb x)(hS:∀g,S g->g<W.heap.size/\g≠nb)(ok:oL x)(hf:qK x=true) :
  Calls Tryz.prog 124 #[.pointer nb] W (Ho S W nb x):=by
 unfold qK at hf;simp only[Bool.or_eq_true,decide_eq_true_eq]at hf;obtain⟨lf,ai,vals,ah⟩:=x
 cases lf with
 | true=>
  obtain⟨h1,h2,h3⟩:=ok.1 rfl;dsimp only at h1 h2 h3 hf;subst h2;have h31:ai.length=31:=by simp at hf;omega
  exact xrz hn hS h31 (by omega)
 | false=>
  obtain⟨h1,h2,h3,h4,_⟩:=ok.2 rfl;dsimp only at h1 h2 h3 h4 hf;subst h2;have h31:31<=ai.length:=by omega
  exact xov hn hS rfl rfl h1 (by omega) rfl (by omega)
theorem zn.wins{ka va aa:Option Addr}{kc vc ac:Nat}(h:zn N M W nb x ka va aa kc vc ac):zo (λ g=>N<=g/\g<M/\g≠nb) W nb x:=by
 obtain⟨h1,h2,h3⟩:=h;refine⟨_,_,_,h1.box,?_,?_,?_⟩
 ·have:=h1.k.win (S:=λ g=>N<=g/\g<M/\g≠nb) (λ g hg=>⟨(h1.new g (.inl hg)).1,h3 g (.inl hg),(h1.new g (.inl hg)).2⟩);rw[cz]at this;exact this
 ·have:=h1.v.win (S:=λ g=>N<=g/\g<M/\g≠nb) (λ g hg=>⟨(h1.new g (.inr (.inl hg))).1,h3 g (.inr (.inl hg)),(h1.new g (.inr (.inl hg))).2⟩);rw[cz]at this;exact this
 have:=h1.a.win (S:=λ g=>N<=g/\g<M/\g≠nb) (λ g hg=>⟨(h1.new g (.inr (.inr hg))).1,h3 g (.inr (.inr hg)),(h1.new g (.inr (.inr hg))).2⟩);rw[dx]at this;exact this
end
section
variable{E S:Nat->Prop}{W W':World}{P D T k pg nb N M:Nat}{root:Int}{A:AP}{x:Nd}
theorem bz.wins{ka va aa:Option Addr}{kc vc ac:Nat}(h:bz N W nb x ka va aa kc vc ac):zo (λ g=>aK ka g\/aK va g\/aK aa g) W nb x/\∀g,(aK ka g\/aK va g\/aK aa g)->g<W.heap.size/\g≠nb:=by
 refine⟨⟨_,_,_,h.box,?_,?_,?_⟩,λ g hg=>⟨?_,(h.new g hg).2⟩⟩
 ·have:=h.k.win (S:=λ g=>aK ka g\/aK va g\/aK aa g) (λ g hg=>.inl hg);rw[cz]at this;exact this
 ·have:=h.v.win (S:=λ g=>aK ka g\/aK va g\/aK aa g) (λ g hg=>.inr (.inl hg));rw[cz]at this;exact this
 ·have:=h.a.win (S:=λ g=>aK ka g\/aK va g\/aK aa g) (λ g hg=>.inr (.inr hg));rw[dx]at this;exact this
 rcases hg with hg|hg|hg
 ·exact h.k.lt hg
 ·exact h.v.lt hg
 exact h.a.lt hg
theorem zo.reads(h:zo S W nb x)(hs:∀g,S g->E g)(hnb:E nb):jN E W nb x:=by
 obtain⟨kv,vv,av,b,h1,h2,h3⟩:=h;exact⟨kv,vv,av,b,hnb,h1.mono hs,h2.mono hs,h3.mono hs⟩
theorem jN.xJ(h:jN E W nb x)(hk:Kept E W W'):jN E W' nb x:=by
 obtain⟨kv,vv,av,b,hnb,h1,h2,h3⟩:=h;exact⟨kv,vv,av,b.af (hk.block nb hnb),hnb,h1.kept hk,h2.kept hk,h3.kept hk⟩
theorem ZF(p:PZ E W P D A k)(hk:k+6<900000000)(hb:aI W T #[.pointer P,.int .i64 root])(hT:E T)(Hu:T≠nb)(hp:A.Has pg)(hn:zo S W nb x)(Fy:∀g,S g->E g)(hSn:∀g,S g->g≠nb)(hE:∀g,E g->g<W.heap.size)(hnb:E nb)(htab:nb≠0)(ok:oL x)(hf:qK x=true) :
  Calls Tryz.prog 124 #[.pointer nb] W λ e w5=>∃mb,e= .returned (.tuple #[.pointer (some ⟨mb,0,none⟩),.int .u64 ((nu x).2.2.toNat:Int)]) /\
   Calls Tryz.prog 97 #[.pointer T,.int .i64 pg,.pointer nb] w5 λ e w6=>e= .returned (.int .i64 0) /\
    Calls Tryz.prog 96 #[.pointer T,.pointer mb] w6 λ e w7=>∃(B:AP) (more:Nat) (er:Int),e= .returned (.tuple #[.int .i64 more,.int .i64 er])/\jW A pg x B more (nu x).2.2 er/\PZ E w7 P D B (k+6)/\Kept (λ j=>E j/\j≠nb) W w7:=by
 obtain⟨f1,f2,_⟩:=ok.split hf;refine(xvc hn (λ g hg=>⟨hE g (Fy g hg),hSn g hg⟩) ok hf).mono ?_;rintro e w5 ⟨mb,rfl,n1,n2,hmb,o7,o⟩;refine⟨mb,rfl,?_⟩;have p5:PZ (λ j=>E j\/(W.heap.size<=j/\j<w5.heap.size)) w5 P D A k:=p.over (R:=λ j=>j=nb) (T:=λ j=>E j\/(W.heap.size<=j/\j<w5.heap.size)) (λ j hj=>by rw[hj];exact hnb) (λ h=>htab h.symm) o.size (λ j hj hr=>o.block j hj hr) (λ j hj=>hj);have b5:=hb.only o Hu;have k5:Kept (λ j=>E j/\j≠nb) W w5:=⟨o.os,o.tape,o.output,o.size,λ j hj=>o.block j (hE j hj.1) hj.2⟩;have r1:=n1.reads (E:=λ j=>E j\/(W.heap.size<=j/\j<w5.heap.size)) (λ g hg=>.inl (Fy g hg)) (.inl hnb);have r2:=n2.reads (E:=λ j=>E j\/(W.heap.size<=j/\j<w5.heap.size)) (λ g hg=>.inr ⟨hg.1,hg.2.1⟩) (.inr ⟨hmb,o7⟩);refine(DJ p5 (by omega) b5 hp r1 f1).mono ?_;rintro e w6 ⟨rfl,p6,k6⟩;refine⟨rfl,?_⟩;have b6:=b5.af (k6.block T (.inl hT));have r3:=r2.xJ k6;have ZG:=k5.trans (k6.mono (T:=λ j=>E j/\j≠nb) (λ j hj=>.inl hj.1));by_cases hF:A.Full
 ·refine(Yc p6 (by omega) b6 hF).mono ?_;rintro e w7 ⟨rfl,p7,k7⟩;exact⟨_,0,6,rfl,.none hf hF,p7.less (λ _ hj=>.inl hj),ZG.trans (k7.mono (λ j hj=>.inl hj.1))⟩
 refine(Yd p6 (by omega) b6 hF r3 f2).mono ?_;rintro e w7 ⟨rfl,p7,k7⟩;exact⟨_,A.next,0,rfl,.two hf hF,p7.less (λ _ hj=>.inl hj),ZG.trans (k7.mono (λ j hj=>.inl hj.1))⟩
end
end Go.Proofs.YtlipgbnnbefhjaaGreatDoor
