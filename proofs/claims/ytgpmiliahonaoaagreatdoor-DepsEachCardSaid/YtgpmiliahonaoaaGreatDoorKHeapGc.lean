/- Facts on texts and trees on pages. -/
import Derived.Test.YtgpmiliahonaoaaGreatDoorKHeapPc
set_option maxRecDepth 100000
set_option maxHeartbeats 8000000
set_option linter.unusedSimpArgs false
namespace Go.Proofs.YtgpmiliahonaoaaGreatDoor
open Go.RowKit
open UK (str aF nth Only Row ay w32)
open Go.BigFrame
theorem yJ{f:FuncId}{fn:Func}(hf:Tryz.prog.funcs[f]?=some fn)(hname:(fn.name== "runtime.NumGoroutine")=false)(hb:fn.body.isSome=true)(args:Array Value)(w:World):(callFunc f args).run Tryz.prog w= .ok (.enter f args) w:=by
 have h1:fn.name≠ "runtime.NumGoroutine" :=by simpa using hname
 obtain⟨c,hc⟩:=Option.isSome_iff_exists.1 hb;simp[callFunc,hf,h1,hc]
section
variable{E F:Nat->Prop}{W W':World}{P D k fb db cap pg:Nat}{A:AP}
theorem BK{N:Nat}{kV:Array Value}{R:AP->Nat->Int->World->Prop}(eN:∀args w,(callFunc N args).run Tryz.prog w= .ok (.enter N args) w)(h:PZ E W P D A k)(hk:k+2<900000000)(hp:A.Has pg)(Vp:∀j,F j->E j)
  (hcl:∀(fb db cap:Nat) (w:World),PF E w P D A (k+2) fb db cap pg false->Kept E W w->Calls Tryz.prog N (#[.pointer fb]++kV) w λ e w'=>∃(r:Int) (A':AP) (k':Nat) (dy:Bool),e= .returned (.int .i64 r)/\PF E w' P D A' k' fb db cap pg dy/\Kept F w w'/\R A' k' r w') :
  Calls Tryz.prog 169 #[.pointer P,.int .i64 pg,.func (.func N) #[] kV] W λ e w'=>∃(r:Int) (A':AP) (k':Nat) (w1:World),e= .returned (.int .i64 r)/\R A' k' r w1/\PZ E w' P D A' k'/\Kept E w1 w'/\Kept F W w':=by
 have HP:=zH (Jt h hk pg hp);clear h
 go_enter_defers Tryz.func169,Tryz.ntmps169
 go_wp2_with fail
 refine HP.out.mono ?_;rintro e w1 ⟨fb,db,cap,rfl,p1,k1⟩;have HC:=zH (hcl fb db cap w1 p1 k1);have HK:=zH (k1.mono Vp);clear HP p1 k1 hcl
 go_wp2_with fail
 refine HC.out.mono ?_;rintro e w2 ⟨r,A',k',dy,rfl,p2,k2,hr⟩;have HU:=zH (BF .returning p2);have HX:=zH (zA hr (HK.out.trans k2));clear HC HK p2 k2 hr;go_wp2;refine leaves_cons (f:=65) (args:= #[.pointer fb]) (by simp) (by simp[go_sem]) ?_;refine HU.out.mono ?_;rintro e u' w3 ⟨rfl,rfl,p3,k3⟩;refine⟨_,results_tmp rfl _ _ _,?_⟩;exact⟨r,A',k',w2,rfl,HX.out.1,p3,k3,HX.out.2.trans (k3.mono Vp)⟩
end
theorem UK.ay.drew{W:World}{g:Nat}{cs:Array Value}(h:ay W g cs):ay W.drew g cs:=h.ae rfl
theorem UK.ay.drewN{W:World}{g:Nat}{cs:Array Value}(h:ay W g cs)(n:Nat):ay (W.drewN n) g cs:=h.ae rfl
section
variable{E F:Nat->Prop}{W W':World}{P D k fb db cap pg root H c1 c2:Nat}{A:AP}{v1 v2:Value}
theorem Qa{B:Nat}{x:List UInt8}(h:aF W B x)(o n c:Nat)(hn:4<=n)(ho:o+n<=x.length) :
  Calls Tryz.prog 212 #[.slice (B,o) n c] W λ e w'=>e= .returned (.int .i64 (dG x o).toNat)/\Below W W w':=by
 have HG:=zH (Ti h o n c hn ho);have hl:=UK.Vq (dI ((x.drop o).take 4));have hw:IntKind.i64.wrap ((dI ((x.drop o).take 4)).toNat:Int)=((dI ((x.drop o).take 4)).toNat:Int):=by rw[dJ];omega
 unfold dG;generalize dI ((x.drop o).take 4)=u at HG hl hw ⊢
 go_enter Tryz.func212,Tryz.ntmps212
 go_wp2_with fail
 refine HG.out.mono ?_;rintro e w1 ⟨rfl,hb⟩;have HB:=zH hb;clear HG hb;go_wp2;go_ret;exact⟨by first|rfl|rw[hw]<;>rfl,HB.out⟩
theorem Ju{B:Nat}{x:List UInt8}(h:aF W B x)(o n c:Nat)(hn:4<=n)(ho:o+n<=x.length)(hl:n<=100000000)(v:Nat) :
  Calls Tryz.prog 226 #[.slice (B,o) n c,.int .i64 v] W λ e w'=>e= .returned (.tuple #[])/\aF w' B (UK.wr x o (aI (w32 v)))/\Only B W w':=by
 have HG:=zH (Eh h o n c hn ho hl (w32 v));have hw:IntKind.u32.wrap (v:Int)=((w32 v).toNat:Int):=by rw[IntKind.wrap_u32,UK.Ga]
 have hw2:=UK.Ga v
 go_enter Tryz.func226,Tryz.ntmps226
 go_wp2_with fail
 refine HG.out.mono ?_;rintro e w1 ⟨rfl,hb,ho⟩;have HB:=zH (zA hb ho);clear HG hb ho;go_wp2
 go_end0
 exact⟨rfl,HB.out⟩
theorem Vr(y:List UInt8)(o n m:Nat)(h:o+n<=m):((y.take m).drop o).take n=(y.drop o).take n:=by
 rw[List.drop_take,kL,gH (by omega)]
theorem Qb(y:List UInt8)(o m:Nat)(h:o+4<=m):dG (y.take m) o=dG y o:=by unfold dG;rw[Vr y o 4 m h]
theorem PF.two{dy:Bool}(h:PF E W P D A k fb db cap pg dy)(h1:E c1)(h2:E c2)(t1:0 ≠c1)(t2:0 ≠c2)(a b:Value):PF E ((W.setCell c1 a).setCell c2 b) P D A k fb db cap pg dy/\Kept (λ j=>E j/\j≠c1/\j≠c2) W ((W.setCell c1 a).setCell c2 b):=by
 have o1:Only c1 W (W.setCell c1 a):=(Only.refl c1 W).set 0 a;have o2:Only c2 (W.setCell c1 a) ((W.setCell c1 a).setCell c2 b):=(Only.refl c2 _).set 0 b
 have hk:∀j,j<W.heap.size->¬(j=c1\/j=c2)->((W.setCell c1 a).setCell c2 b).heap[j]?=W.heap[j]?:=λ j hj hn=>
  (o2.block j (bZ hj o1.size) (λ e=>hn (.inr e))).trans (o1.block j hj (λ e=>hn (.inl e)))
 refine⟨h.over (R:=λ j=>j=c1\/j=c2) (λ j hj=>by rcases hj with rfl|rfl<;>assumption) (λ hj=>by rcases hj with e|e;exact t1 e;exact t2 e) (aP o1.size o2.size) hk (λ _ hj=>.inl hj),?_⟩;exact⟨o2.os.trans o1.os,o2.tape.trans o1.tape,o2.output.trans o1.output,aP o1.size o2.size,λ j hj=>hk j (h.there j hj.1) (λ hh=>hh.elim hj.2.1 hj.2.2)⟩
theorem xq5(h:PF E W P D A k fb db cap pg false)(b1:ay W c1 #[v1])(b2:ay W c2 #[v2])(h1:E c1)(h2:E c2)(hne:c1≠c2)(t1:0 ≠c1)(t2:0 ≠c2) :
  Calls Tryz.prog 219 #[.pointer fb,.pointer c1,.pointer c2] W λ e w'=>e= .returned (.int .i64 0)/\PF E w' P D A k fb db cap pg false/\ay w' c1 #[.int .i64 (dG (A.c pg) 0).toNat]/\ay w' c2 #[.int .i64 (dG (A.c pg) 4).toNat]/\Kept (λ j=>E j/\j≠c1/\j≠c2) W w':=by
 have HB:=zH (yK h);obtain⟨y,y1,y2,y3,y4,y5⟩:=h.bytes;have e0:dG (A.c pg) 0=dG y 0:=by rw[<-y3];exact Qb y 0 504 (by decide)
 have e4:dG (A.c pg) 4=dG y 4:=by rw[<-y3];exact Qb y 4 504 (by decide)
 rw[e0,e4];have HW0:=zH (Qa y1 0 504 cap (by omega) (by omega));have H0:=zH (zA h (zA y1 (zA b1 b2)));have hcap:=zH (zA y2 y4);clear h y1 b1 b2 e0 e4 y3 y5;generalize hu0:dG y 0=u0 at HW0 ⊢;generalize Vs:dG y 4=u4 at ⊢;have Vt:=zH Vs;clear hu0 Vs
 go_enter Tryz.func219,Tryz.ntmps219
 go_wp2_with fail
 refine HB.out.mono ?_;rintro e w1 ⟨rfl,rfl⟩
 go_wp2_with fail
 refine HW0.out.mono ?_;rintro e w2 ⟨rfl,hb2⟩;obtain⟨h,y1,b1,b2⟩:=H0.out;have h':=h.next hb2;have k2:=h.kept hb2;have HB2:=zH (yK h');have Qc:=zH (Qa (y1.below hb2 y1.lt) 4 500 (cap-4) (by omega) (by have:=hcap.out;omega));rw[Vt.out]at Qc;have H2:=zH (zA h' (zA (b1.next hb2) (zA (b2.next hb2) k2)));have hi1:(4:Int)<=504:=by omega
 have hi2:(4:Int)<=cap:=by have:=hcap.out;omega
 have hi3:¬(cap=4):=by have:=hcap.out;omega
 clear HB HW0 H0 Vt h y1 b1 b2 h' k2 hb2
 go_wp2_with fail
 refine HB2.out.mono ?_;rintro e w3 ⟨rfl,rfl⟩
 go_wp2_with fail
 refine Qc.out.mono ?_;rintro e w4 ⟨rfl,hb4⟩;obtain⟨h,b1,b2,k2⟩:=H2.out;have h4:=h.next hb4;have b14:=b1.next hb4;have qw:=b2.next hb4;have k4:=k2.trans (h.kept hb4);have d1:=b14.cell 0 _ rfl;have d2:=qw.cell 0 _ rfl;have f1:=b14.free 0;have f2:=qw.free 0;have HE:=zH (h4.two h1 h2 t1 t2 (.int .i64 u0.toNat) (.int .i64 u4.toNat));have HC:=zH (zA (((b14.set 0 (.int .i64 u0.toNat)).far (b:=c2) (j:=0) (.int .i64 u4.toNat) hne)) (zA ((qw.far (b:=c1) (j:=0) (.int .i64 u0.toNat) hne.symm).set 0 (.int .i64 u4.toNat)) k4));clear HB2 Qc H2 h b1 b2 k2 hb4 h4 b14 qw k4;go_wp2;go_ret;obtain⟨q1,q2⟩:=HE.out;obtain⟨q3,q4,q5⟩:=HC.out;exact⟨rfl,q1,q3,q4,(q5.mono (λ _ hj=>hj.1)).trans q2⟩
end
section
variable{E F:Nat->Prop}{W W':World}{P D k fb db cap pg root H c1 c2:Nat}{A:AP}{v1 v2:Value}
abbrev qm(P root:Nat):Array Value:= #[.pointer P,.int .i64 root]
theorem Qd(h:PZ E W P D A k)(hk:k+2<900000000)(hb:ay W H (qm P root))(hr:A.Has root) :
  Calls Tryz.prog 168 #[.pointer H] W λ e w'=>e= .returned (.tuple #[.int .i64 (dG (A.c root) 0).toNat,.int .i64 (dG (A.c root) 4).toNat,.int .i64 0])/\PZ E w' P D A (k+2)/\Kept E W w':=by
 have c0:=hb.c0;have c1:=hb.c1;have ht:=h.tab.lt;have a1:Below W W (W.alloc (.cells #[.int .i64 0] 3)):=(aV _ _).alloc (aO _) _;have hs1:(W.alloc (.cells #[.int .i64 0] 3)).heap.size=W.heap.size+1:=by simp
 have x1:=ay.new W #[.int .i64 0] 3;have a2:=a1.alloc (by omega) (.cells #[.int .i64 0] 3);have hs2:((W.alloc (.cells #[.int .i64 0] 3)).alloc (.cells #[.int .i64 0] 3)).heap.size=W.heap.size+2:=by simp
 have x2:=ay.new (W.alloc (.cells #[.int .i64 0] 3)) #[.int .i64 0] 3;rw[hs1]at x2;have lY:=x1.alloc (.cells #[.int .i64 0] 3);generalize hw2:(W.alloc (.cells #[.int .i64 0] 3)).alloc (.cells #[.int .i64 0] 3)=w2 at a2 hs2 x2 lY
 have p2:=(h.wide a2 (T:=λ j=>E j\/j=W.heap.size\/j=W.heap.size+1) (λ j hj=>by
  rcases hj with hj|hj|hj
  ·exact .inl hj
  ·exact .inr (by omega)
  exact .inr (by omega))).next (aV _ _).drew
 have k2:Kept E W w2.drew:=h.kept a2.drew;have d0:=(hb.below a2 hb.lt).c0;have d1:=(hb.below a2 hb.lt).c1
 have HW:=zH (BK (N:=219) (kV:= #[.pointer W,.pointer (some ⟨W.heap.size+1,0,none⟩)]) (F:=E)
  (R:=λ A' k' r w'=>A'=A/\k'=k+2/\r=0/\ay w' W #[.int .i64 (dG (A.c root) 0).toNat]/\ay w' (W.heap.size+1) #[.int .i64 (dG (A.c root) 4).toNat])
  (yJ Tryz.func219 (by kernel_rfl) (by kernel_rfl)) p2 hk hr (λ j hj=>.inl hj) (λ fb db cap w hp hkk=>by
   refine(xq5 hp ((lY.drew).ae (hkk.block _ (.inr (.inl rfl)))) ((x2.drew).ae (hkk.block _ (.inr (.inr rfl)))) (.inr (.inl rfl)) (.inr (.inr rfl)) (by omega) (by omega) (by omega)).mono ?_;rintro e w' ⟨he,q1,q2,q3,q4⟩;exact⟨0,A,k+2,false,he,q1,q4.mono (λ j hj=>⟨.inl hj,by have:=h.there j hj;omega,by have:=h.there j hj;omega⟩),rfl,rfl,rfl,q2,q3⟩))
 have HW2:=zH hw2;have K2:=zH k2;clear hw2 hs1 hs2 h hb x1 x2 lY p2 k2 a1 a2 ht hr
 go_enter Tryz.func168,Tryz.ntmps168
 go_wp2_with fail
 rw[HW2.out]
 go_still_tail 9,(by kernel_rfl)
 change wpList _ _ _ _ _ w2.drew
 go_wp2_with fail
 refine HW.out.mono ?_;rintro e w3 ⟨r,A',k',w1,rfl,⟨rfl,rfl,rfl,y1,y2⟩,p3,k3,k4⟩;have z1:=(y1.ae (k3.block _ (.inr (.inl rfl)))).cell 0 _ rfl;have z2:=(y2.ae (k3.block _ (.inr (.inr rfl)))).cell 0 _ rfl;have K3:=zH (zA (p3.less (T:=E) (λ j hj=>.inl hj)) (K2.out.trans k4));clear HW K2 y1 y2 p3 k3 k4;go_wp2
 go_quiet (fail)
 go_wp2
 go_ret3
 obtain⟨p3,k3⟩:=K3.out;have bd:Below w3 w3 (w3.drewN nq):=UK.dK (aV _ _) nq;exact⟨rfl,p3.next bd,k3.trans (p3.kept bd)⟩
theorem Jv{dy:Bool}(h:PF E W P D A k fb db cap pg dy)(hk:k<900000000) :
  Calls Tryz.prog 64 #[.pointer fb] W λ e w'=>e= .returned (.slice db 504 cap)/\PF E w' P D (A.keep pg) (k+1) fb db cap pg true/\Kept E W w'/\∃y,aF w' db y/\y.length=cap/\y.take 504=A.c pg/\504<=cap/\¬E db:=
 (yI h hk).mono λ _ _ ⟨he,p,kk⟩=>⟨he,p,kk,p.bytes⟩
theorem PF.word(h:PF E W P D (A.keep pg) k fb db cap pg true)(ho:Only db W W'){o:Nat}(GI:o+4<=504){v:Nat}{y:List UInt8}(hyl:y.length=cap)(hc:504<=cap)(BL:y.take 504=A.c pg)(hy:aF W' db (UK.wr y o (aI (w32 v)))) :
  PF E W' P D (A.ak pg (UK.wr (A.c pg) o (aI (w32 v)))) k fb db cap pg true/\Kept E W W':=by
 have hl:(UK.wr y o (aI (w32 v))).length=cap:=(UK.iW _ _ _ (by show o+4<=_;omega)).trans hyl;have:=h.write ho hy hl;rw[show(UK.wr y o (aI (w32 v))).take 504=UK.wr (A.c pg) o (aI (w32 v)) by rw[<-BL];exact Vu y o 504 (aI (w32 v)) (by show o+4<=_;omega) (by omega)]at this;exact this
theorem xj8{p n:Nat}(h:PF E W P D A k fb db cap pg false)(hk:k+2<900000000)(b1:ay W c1 #[.int .i64 p])(b2:ay W c2 #[.int .i64 n])(h1:E c1)(h2:E c2) :
  Calls Tryz.prog 225 #[.pointer fb,.pointer c1,.pointer c2] W λ e w'=>e= .returned (.int .i64 0)/\PF E w' P D (A.ak pg (jQ (A.c pg) p n)) (k+2) fb db cap pg true/\Kept E W w':=by
 have bd:Below W W W.drew:=(aV _ _).drew;have hp0:=h.next bd;have hk0:=h.kept bd;have aD:=h.dR;have d1:=b1.drew.c0;have HE:=zH ((Jv hp0 (by omega)).mono (R':=λ e w'=>e= .returned (.slice db 504 cap)/\w'.cell? c1=some (.int .i64 p)/\(PF E w' P D (A.keep pg) (k+1) fb db cap pg true/\Kept E W.drew w'/\∃y,aF w' db y/\y.length=cap/\y.take 504=A.c pg/\504<=cap/\¬E db)) (λ _ _ ⟨a,b,c,d⟩=>⟨a,(b1.drew.ae (c.block _ h1)).cell 0 _ rfl,b,c,d⟩));have HB:=zH (zA b1.drew (zA b2.drew (zA hk0 aD)));clear h b1 b2 hp0 hk0 aD
 go_enter Tryz.func225,Tryz.ntmps225
 go_wp2_with fail
 go_region_with (first
  | (go_at_call 64;refine HE.out.mono ?_;rintro e w3 ⟨rfl,d3,p3,k3,y,y1,y2,y3,y4,y5⟩;replace p3:=zH p3;replace k3:=zH k3)
  | (go_at_call 226;refine(Ju y1 0 504 cap (by omega) (by omega) (by omega) p).mono ?_;rintro e w4 ⟨rfl,z1,o4⟩;replace z1:=zH z1;replace o4:=zH o4))
 all_goals
  obtain⟨b1,b2,k0,aD⟩:=HB.out;obtain⟨p4,k4⟩:=p3.out.word o4.out (o:=0) (by omega) y2 y4 y3 z1.out;have ER:Below w4 w4 w4.drew:=(aV _ _).drew;have b14:=(b1.ae (k3.out.block _ h1)).ae (k4.block _ h1);have qw:=((b2.ae (k3.out.block _ h2)).ae (k4.block _ h2)).drew;have p5:=p4.next ER;have k5:=((k0.trans k3.out).trans k4).trans (p4.kept ER);have e5:=qw.c0;have HE2:=zH ((Jv p5 (by omega)).mono (R':=λ e w'=>e= .returned (.slice db 504 cap)/\w'.cell? c2=some (.int .i64 n)/\(PF E w' P D ((A.ak pg (UK.wr (A.c pg) 0 (aI (w32 p)))).keep pg) (k+2) fb db cap pg true/\Kept E w4.drew w'/\∃y,aF w' db y/\y.length=cap/\y.take 504=(A.ak pg (UK.wr (A.c pg) 0 (aI (w32 p)))).c pg/\504<=cap/\¬E db)) (λ _ _ ⟨a,b,c,d⟩=>⟨a,(qw.ae (c.block _ h2)).cell 0 _ rfl,b,c,d⟩));have HB2:=zH (zA k5 aD);have i1:(4:Int)<=504:=by omega
  have i2:(4:Int)<=cap:=by omega
  have i3:¬(cap=4):=by omega
  clear HE HB b1 b2 k0 aD p4 k4 ER b14 qw p5 k5 p3 k3 z1 o4 y1 y2 y3 y5 d1 d3 bd
  go_wp2_with fail
  go_region_with (first
   | (go_at_call 64;refine HE2.out.mono ?_;rintro e w6 ⟨rfl,d6,p6,k6,z,t1,t2,t3,t4,t5⟩;replace p6:=zH p6;replace k6:=zH k6)
   | (go_at_call 226;refine(Ju t1 4 500 (cap-4) (by omega) (by omega) (by omega) n).mono ?_;rintro e w7 ⟨rfl,z7,o7⟩;replace z7:=zH z7;replace o7:=zH o7))
  all_goals
   obtain⟨k5,aD⟩:=HB2.out;obtain⟨p8,k8⟩:=p6.out.word o7.out (o:=4) (by omega) t2 t4 t3 z7.out;rw[AP.ku,AP.aL,if_pos rfl]at p8;have H8:=zH (zA p8 ((k5.trans k6.out).trans k8));clear HE2 HB2 k5 aD p8 k8 p6 k6 z7 o7 t1 t2 t3 t5 d6;go_wp2;go_ret;exact⟨rfl,H8.out⟩
end
open SR (aM aW total)
open SL (hole add trim room live)
theorem SR.aM.yL{x y:List UInt8}{l:List (List UInt8)}(h:aM x l)(hy:504<=y.length)(e:∀i,i<504->nth y i=nth x i):aM y l:=by
 have hf:=h.few;have hl:=h.mQ;have hl2:=h.oz;have e2:∀a,a+1<504->SR.two y a=SR.two x a:=λ a ha=>by unfold SR.two;rw[e a (by omega),e (a+1) ha]
 have BM:SR.low y=SR.low x:=e2 2 (by omega);have yM:∀i,i<l.length->SR.pos y i=SR.pos x i:=λ i hi=>e2 _ (by omega);have Jw:∀i,i<l.length->SR.ext y i=SR.ext x i:=λ i hi=>e2 _ (by omega);refine⟨hy,by rw[e2 0 (by omega)];exact h.len,by rw[BM];exact hl,by rw[BM];exact hl2,λ h0=>by rw[BM];exact h.none h0,λ i hi h0=>?_,λ i hi h0=>?_,λ i hi k hk=>?_,λ i j hi hj hij h1 h2=>?_,h.sum⟩
 ·rw[yM i hi,Jw i hi];exact h.hole i hi h0
 ·rw[yM i hi,Jw i hi,BM];exact h.there i hi h0
 ·have:=h.inside hi;rw[yM i hi,e _ (by omega)];exact h.bytes i hi k hk
 rw[yM i hi,yM j hj];exact h.apart i j hi hj hij h1 h2
theorem Vv(y:List UInt8)(n i:Nat)(h:i<n):nth (y.take n) i=nth y i:=by
 unfold nth;rw[fE,fE,eX h]
theorem SR.aM.cut{y:List UInt8}{l:List (List UInt8)}(h:aM y l):aM (y.take 504) l:=h.yL (by have:=h.size;rw[zt];omega) (λ i hi=>Vv y 504 i hi)
theorem SR.aM.nz{y z:List UInt8}{l:List (List UInt8)}(h:aM z l)(hy:504<=y.length)(e:y.take 504=z):aM y l:=h.yL hy (λ i hi=>by rw[<-e,Vv y 504 i hi])
section
variable{E F:Nat->Prop}{W W':World}{P D k fb db cap pg root H c1 c2 c3:Nat}{A:AP}{v1 v2:Value}{rec:List UInt8}{L:List (List UInt8)}
theorem Dq(h:PZ E W P D A k)(hk:k+4<900000000)(hb:ay W H (qm P root))(hr:A.Has root)(p n:Nat) :
  Calls Tryz.prog 173 #[.pointer H,.int .i64 p,.int .i64 n] W λ e w'=>e= .returned (.int .i64 0)/\PZ E w' P D (A.ak root (jQ (A.c root) p n)) (k+4)/\Kept E W w':=by
 have c0:=hb.c0;have c1:=hb.c1;have a1:Below W W (W.alloc (.cells #[.int .i64 p] 3)):=(aV _ _).alloc (aO _) _;have hs1:(W.alloc (.cells #[.int .i64 p] 3)).heap.size=W.heap.size+1:=by simp
 have x1:=ay.new W #[.int .i64 p] 3;have a2:=a1.alloc (by omega) (.cells #[.int .i64 n] 3);have hs2:((W.alloc (.cells #[.int .i64 p] 3)).alloc (.cells #[.int .i64 n] 3)).heap.size=W.heap.size+2:=by simp
 have x2:=ay.new (W.alloc (.cells #[.int .i64 p] 3)) #[.int .i64 n] 3;rw[hs1]at x2;have lY:=x1.alloc (.cells #[.int .i64 n] 3);generalize hw2:(W.alloc (.cells #[.int .i64 p] 3)).alloc (.cells #[.int .i64 n] 3)=w2 at a2 hs2 x2 lY
 have p2:=(h.wide a2 (T:=λ j=>E j\/j=W.heap.size\/j=W.heap.size+1) (λ j hj=>by
  rcases hj with hj|hj|hj
  ·exact .inl hj
  ·exact .inr (by omega)
  exact .inr (by omega))).next (aV _ _).drew
 have k2:Kept E W w2.drew:=h.kept a2.drew;have d0:=(hb.below a2 hb.lt).c0;have d1:=(hb.below a2 hb.lt).c1
 have HW:=zH (BK (N:=225) (kV:= #[.pointer W,.pointer (some ⟨W.heap.size+1,0,none⟩)]) (F:=E)
  (R:=λ A' k' r _=>A'=A.ak root (jQ (A.c root) p n)/\k'=k+4/\r=0)
  (yJ Tryz.func225 (by kernel_rfl) (by kernel_rfl)) p2 (by omega) hr (λ j hj=>.inl hj) (λ fb db cap w hp hkk=>by
   refine(xj8 hp (by omega) ((lY.drew).ae (hkk.block _ (.inr (.inl rfl)))) ((x2.drew).ae (hkk.block _ (.inr (.inr rfl)))) (.inr (.inl rfl)) (.inr (.inr rfl))).mono ?_;rintro e w' ⟨he,q1,q4⟩;exact⟨0,_,k+4,true,he,q1,q4.mono (λ j hj=>.inl hj),rfl,rfl,rfl⟩))
 have HW2:=zH hw2;have K2:=zH k2;clear hw2 hs1 hs2 h hb x1 x2 lY p2 k2 a1 a2 hr
 go_enter Tryz.func173,Tryz.ntmps173
 go_wp2_with fail
 rw[HW2.out]
 go_still_tail 9,(by kernel_rfl)
 change wpList _ _ _ _ _ w2.drew
 go_wp2_with fail
 refine HW.out.mono ?_;rintro e w3 ⟨r,A',k',w1,rfl,⟨rfl,rfl,rfl⟩,p3,k3,k4⟩;have K3:=zH (zA (p3.less (T:=E) (λ j hj=>.inl hj)) (K2.out.trans k4));clear HW K2 p3 k3 k4;go_wp2;go_ret;exact⟨rfl,K3.out⟩
theorem PF.Qe{dy:Bool}(h:PF E W P D A k fb db cap pg dy)(h1:E c1)(h2:E c2)(t1:0 ≠c1)(t2:0 ≠c2)(hne:c1≠c2)(b1:ay W c1 #[v1])(b2:ay W c2 #[v2])(a b:Value) :
  PF E ((W.setCell c1 a).setCell c2 b) P D A k fb db cap pg dy/\Kept (λ j=>E j/\j≠c1/\j≠c2) W ((W.setCell c1 a).setCell c2 b)/\ay ((W.setCell c1 a).setCell c2 b) c1 #[a]/\ay ((W.setCell c1 a).setCell c2 b) c2 #[b]:=by
 obtain⟨q1,q2⟩:=h.two h1 h2 t1 t2 a b;exact⟨q1,q2,(b1.set 0 a).far (b:=c2) (j:=0) b hne,(b2.far (b:=c1) (j:=0) a hne.symm).set 0 b⟩
theorem Vw(h:PF E W P D A k fb db cap pg false)(hr:aM (A.c pg) L)(b1:ay W c1 #[.string (str rec)]) :
  Calls Tryz.prog 229 #[.slice db 504 cap] W λ e w'=>e= .returned (.int .i64 (room L))/\w'.cell? c1=some (.string (str rec))/\PF E w' P D A k fb db cap pg false/\Kept E W w':=by
 obtain⟨y,y1,y2,y3,y4,y5⟩:=h.bytes;exact(SL.fu db y L cap W y1 (hr.nz (by omega) y3)).mono λ e w' ⟨he,hb⟩=>⟨he,(b1.next hb).cell 0 _ rfl,h.next hb,h.kept hb⟩
theorem xz5(h:PF E W P D A k fb db cap pg false)(hr:aM (A.c pg) L)(b1:ay W c1 #[.string (str rec)])(hn:room L<rec.length) :
  Calls Tryz.prog 228 #[.pointer fb,.pointer c1,.pointer c2,.pointer c3] W λ e w'=>e= .returned (.int .i64 0)/\PF E w' P D A k fb db cap pg false/\Kept E W w':=by
 have bd:Below W W W.drew:=(aV _ _).drew;have p0:=h.next bd;have k0:=h.kept bd;have d1:=b1.drew.c0;have HB:=zH (yK p0);have HR:=zH (Vw p0 hr b1.drew);have K0:=zH k0;clear h p0 k0 b1 bd
 go_enter Tryz.func228,Tryz.ntmps228
 go_wp2_with fail
 go_region_with (first
  | (go_at_call 116;refine HB.out.mono ?_;rintro e w3 ⟨rfl,rfl⟩)
  | (go_at_call 229;refine HR.out.mono ?_;rintro e w4 ⟨rfl,d4,p4,k4⟩;replace p4:=zH p4;replace k4:=zH k4))
 all_goals
  have H8:=zH (zA p4.out (K0.out.trans k4.out));have hd:decide ((rec.length:Int)<=room L)=false:=decide_eq_false (by omega);clear HB HR K0 p4 k4;go_wp2;go_ret;exact⟨rfl,H8.out⟩
theorem xts(h:PF E W P D (A.keep pg) k fb db cap pg true)(hr:aM (A.c pg) L)(h2:E c2)(h3:E c3)(b2:ay W c2 #[v1])(b3:ay W c3 #[v2])(hs:rec≠[])(hrm:(rec.length:Int)<=room L) :
  Calls Tryz.prog 177 #[.slice db 504 cap,.string (str rec)] W λ e w'=>e= .returned (.tuple #[.int .i64 (hole L:Nat),.bool true])/\w'.cell? c2=some v1/\w'.frozen? ⟨c2,0,none⟩=false/\w'.cell? c3=some v2/\w'.frozen? ⟨c3,0,none⟩=false/\ay w' c2 #[v1]/\ay w' c3 #[v2]/\(∃z,aM z (add L rec)/\z.length=504/\PF E w' P D (A.ak pg z) k fb db cap pg true)/\Kept E W w':=by
 obtain⟨y,y1,y2,y3,y4,y5⟩:=h.bytes;have y3:y.take 504=A.c pg:=y3;refine(SL.uY db y L cap (by omega) rec W y1 (hr.nz (by omega) y3) hs hrm).mono ?_;rintro e w' ⟨he,⟨z,z1,z2,z3⟩,o⟩;have hne2:c2≠db:=λ e=>y5 (e▸h2);have ES:c3≠db:=λ e=>y5 (e▸h3);have q2:=b2.only o hne2;have q3:=b3.only o ES;obtain⟨p,kk⟩:=h.write o z1 (z3.trans y2);exact⟨he,q2.cell 0 _ rfl,q2.free 0,q3.cell 0 _ rfl,q3.free 0,q2,q3,⟨z.take 504,z2.cut,by rw[zt];omega,p⟩,kk⟩
theorem xw6(h:PF E W P D A k fb db cap pg false)(hk:k<900000000)(hr:aM (A.c pg) L)(b1:ay W c1 #[.string (str rec)])(b2:ay W c2 #[v1])(b3:ay W c3 #[v2])(h1:E c1)(h2:E c2)(h3:E c3)(hne:c2≠c3)(t2:0 ≠c2)(t3:0 ≠c3)(hs:rec≠[])(hrm:(rec.length:Int)<=room L) :
  Calls Tryz.prog 228 #[.pointer fb,.pointer c1,.pointer c2,.pointer c3] W λ e w'=>e= .returned (.int .i64 0)/\(∃z,aM z (add L rec)/\z.length=504/\PF E w' P D (A.ak pg z) (k+1) fb db cap pg true)/\ay w' c2 #[.int .i64 (hole L:Nat)]/\ay w' c3 #[.bool true]/\Kept (λ j=>E j/\j≠c2/\j≠c3) W w':=by
 have bd:Below W W W.drew:=(aV _ _).drew;have p0:=h.next bd;have k0:=h.kept bd;have d1:=b1.drew.c0;have HB:=zH (yK p0);have HR:=zH (Vw p0 hr b1.drew);have K0:=zH (zA k0 (zA b1.drew (zA b2.drew b3.drew)));have HRR:=zH hr;clear h p0 k0 b1 b2 b3 bd hr
 go_enter Tryz.func228,Tryz.ntmps228
 go_wp2_with fail
 go_region_with (first
  | (go_at_call 116;refine HB.out.mono ?_;rintro e w3 ⟨rfl,rfl⟩)
  | (go_at_call 229;refine HR.out.mono ?_;rintro e w4 ⟨rfl,d4,p4,k4⟩;replace p4:=zH p4;replace k4:=zH k4))
 all_goals
  have ER:Below w4 w4 w4.drew:=(aV _ _).drew;obtain⟨k0,b1,b2,b3⟩:=K0.out;have b14:=(b1.ae (k4.out.block _ h1)).drew;have qw:=(b2.ae (k4.out.block _ h2)).drew;have Jy:=(b3.ae (k4.out.block _ h3)).drew;have e4:=b14.c0;have k5:=(k0.trans k4.out).trans (p4.out.kept ER);have HE:=zH ((Jv (p4.out.next ER) hk).mono (R':=λ e w'=>e= .returned (.slice db 504 cap)/\w'.cell? c1=some (.string (str rec))/\PF E w' P D (A.keep pg) (k+1) fb db cap pg true/\Kept E w4.drew w'/\ay w' c2 #[v1]/\ay w' c3 #[v2]) (λ _ _ ⟨a,b,c,d⟩=>⟨a,(b14.ae (c.block _ h1)).cell 0 _ rfl,b,c,qw.ae (c.block _ h2),Jy.ae (c.block _ h3)⟩));have K5:=zH k5;have hd:decide ((rec.length:Int)<=room L)=true:=decide_eq_true hrm;clear HB HR K0 p4 k4 k0 b1 b2 b3 b14 qw Jy k5 d1 d4 ER
  go_wp2_with fail
  go_region_with (first
   | (go_at_call 64;refine HE.out.mono ?_;rintro e w6 ⟨rfl,d6,p6,k6,BN,MH⟩;replace p6:=zH p6;replace k6:=zH k6;replace BN:=zH BN;replace MH:=zH MH)
   | (go_at_call 177;refine(xts p6.out HRR.out h2 h3 BN.out MH.out hs hrm).mono ?_;rintro e w7 ⟨rfl,d7,f7,g7,j7,MI,MJ,z7,k7⟩;replace z7:=zH z7;replace k7:=zH k7;replace MI:=zH MI;replace MJ:=zH MJ))
  all_goals
   have HF:=zH (show ∃z,aM z (add L rec)/\z.length=504/\PF E ((w7.setCell c2 (.int .i64 (hole L:Nat))).setCell c3 (.bool true)) P D (A.ak pg z) (k+1) fb db cap pg true/\ay ((w7.setCell c2 (.int .i64 (hole L:Nat))).setCell c3 (.bool true)) c2 #[.int .i64 (hole L:Nat)]/\ay ((w7.setCell c2 (.int .i64 (hole L:Nat))).setCell c3 (.bool true)) c3 #[.bool true]/\Kept (λ j=>E j/\j≠c2/\j≠c3) W ((w7.setCell c2 (.int .i64 (hole L:Nat))).setCell c3 (.bool true))from by
    obtain⟨z,z1,z2,z3⟩:=z7.out;obtain⟨q1,q2,q3,q4⟩:=z3.Qe h2 h3 t2 t3 hne MI.out MJ.out (.int .i64 (hole L:Nat)) (.bool true);exact⟨z,z1,z2,q1,q3,q4,((K5.out.trans (k6.out.trans k7.out)).mono (λ _ hj=>hj.1)).trans q2⟩)
   clear HE HRR K5 p6 k6 BN MH z7 k7 MI MJ d6 d7 f7 g7 j7 e4;go_wp2;go_ret;obtain⟨z,z1,z2,q1,q3,q4,q5⟩:=HF.out;exact⟨rfl,⟨z,z1,z2,q1⟩,q3,q4,q5⟩
end
section
variable{E F:Nat->Prop}{W W':World}{P D k fb db cap pg root H c1 c2 c3:Nat}{A:AP}{v1 v2:Value}{rec:List UInt8}{L:List (List UInt8)}
def ycl(E:Nat->Prop)(W W':World)(P D:Nat)(A:AP)(k pg:Nat)(L:List (List UInt8))(rec:List UInt8)(e:Ending):Prop:=
 ((rec.length:Int)<=room L/\e= .returned (.tuple #[.int .i64 (hole L:Nat),.bool true,.int .i64 0])/\∃z,aM z (add L rec)/\z.length=504/\PZ E W' P D (A.ak pg z) (k+3)/\Kept E W W') \/
 (room L<rec.length/\e= .returned (.tuple #[.int .i64 0,.bool false,.int .i64 0])/\PZ E W' P D A (k+3)/\Kept E W W')
theorem Vx(h:PZ E W P D A k)(hk:k+3<900000000)(hb:ay W H (qm P root))(hp:A.Has pg)(hr:aM (A.c pg) L)(hs:rec≠[]) :
  Calls Tryz.prog 175 #[.pointer H,.int .i64 pg,.string (str rec)] W λ e w'=>ycl E W w' P D A k pg L rec e:=by
 have c0:=hb.c0;have ht:=h.tab.lt;have a1:Below W W (W.alloc (.cells #[.string (str rec)] 9)):=(aV _ _).alloc (aO _) _;have hs1:(W.alloc (.cells #[.string (str rec)] 9)).heap.size=W.heap.size+1:=by simp
 have x1:=ay.new W #[.string (str rec)] 9;generalize uZ:W.alloc (.cells #[.string (str rec)] 9)=wa at a1 hs1 x1;have a2:=a1.alloc (by omega) (.cells #[.int .i64 0] 3);have hs2:(wa.alloc (.cells #[.int .i64 0] 3)).heap.size=W.heap.size+2:=by simp[hs1]
 have x2:=ay.new wa #[.int .i64 0] 3;rw[hs1]at x2;have lY:=x1.alloc (.cells #[.int .i64 0] 3);generalize hwb:wa.alloc (.cells #[.int .i64 0] 3)=wb at a2 hs2 x2 lY;have a3:=a2.alloc (by omega) (.cells #[.bool false] 4);have hs3:(wb.alloc (.cells #[.bool false] 4)).heap.size=W.heap.size+3:=by simp[hs2]
 have x3:=ay.new wb #[.bool false] 4;rw[hs2]at x3;have Jz:=x2.alloc (.cells #[.bool false] 4);have yN:=lY.alloc (.cells #[.bool false] 4);generalize hwc:wb.alloc (.cells #[.bool false] 4)=wc at a3 hs3 x3 Jz yN
 have p2:=h.wide a3 (T:=λ j=>E j\/j=W.heap.size\/j=W.heap.size+1\/j=W.heap.size+2) (λ j hj=>by
  rcases hj with hj|hj|hj|hj
  ·exact .inl hj
  ·exact .inr (by omega)
  ·exact .inr (by omega)
  exact .inr (by omega))
 have k2:Kept E W wc:=h.kept a3
 have oC:Hid (((W.alloc (.cells #[.string (str rec)] 9)).alloc (.cells #[.int .i64 0] 3)).alloc (.cells #[.bool false] 4)=wc):=by
  show _=_;rw[uZ,hwb,hwc]
 have hE0:=h.there;have d0:=(hb.below a3 hb.lt).c0;have d0x:(((W.alloc (.cells #[.string (str rec)] 9)).alloc (.cells #[.int .i64 0] 3)).alloc (.cells #[.bool false] 4)).cell? H=some (.pointer P):=by rw[oC.out];exact d0
 have BG:=zH k2;by_cases hfit:(rec.length:Int)<=room L
 ·have HW:=zH (BK (N:=228) (kV:= #[.pointer W,.pointer (some ⟨W.heap.size+1,0,none⟩),.pointer (some ⟨W.heap.size+2,0,none⟩)]) (F:=E)
   (R:=λ A' k' r w'=>∃z,aM z (add L rec)/\z.length=504/\A'=A.ak pg z/\k'=k+3/\r=0/\ay w' (W.heap.size+1) #[.int .i64 (hole L:Nat)]/\ay w' (W.heap.size+2) #[.bool true])
   (yJ Tryz.func228 (by kernel_rfl) (by kernel_rfl)) p2 (by omega) hp (λ j hj=>.inl hj) (λ fb db cap w lq hkk=>by
    refine(xw6 lq (by omega) hr (yN.ae (hkk.block _ (.inr (.inl rfl)))) (Jz.ae (hkk.block _ (.inr (.inr (.inl rfl))))) (x3.ae (hkk.block _ (.inr (.inr (.inr rfl))))) (.inr (.inl rfl)) (.inr (.inr (.inl rfl))) (.inr (.inr (.inr rfl))) (by omega) (by omega) (by omega) hs hfit).mono ?_;rintro e w' ⟨he,⟨z,z1,z2,q1⟩,q2,q3,q4⟩;exact⟨0,_,k+3,true,he,q1,q4.mono (λ j hj=>⟨.inl hj,by have:=hE0 j hj;omega,by have:=hE0 j hj;omega⟩),z,z1,z2,rfl,rfl,rfl,q2,q3⟩))
  have HF:=zH hfit;clear h hb x1 lY yN x2 Jz x3 p2 k2 a1 a2 a3 hp hr hs1 hs2 hs3 uZ hwb hwc hE0 ht hfit
  go_enter Tryz.func175,Tryz.ntmps175
  go_wp2_with fail
  rw[oC.out];refine HW.out.mono ?_;rintro e w3 ⟨r,A',k',w1,rfl,⟨z,z1,z2,rfl,rfl,rfl,y2,y3⟩,p3,k3,k4⟩;have d2:w3.cell? ⟨W.heap.size+1,0,none⟩=some (.int .i64 (hole L:Nat)):=(y2.ae (k3.block _ (.inr (.inr (.inl rfl))))).cell 0 _ rfl;have d3:w3.cell? ⟨W.heap.size+2,0,none⟩=some (.bool true):=(y3.ae (k3.block _ (.inr (.inr (.inr rfl))))).cell 0 _ rfl;have K3:=zH (zA (p3.less (T:=E) (λ j hj=>.inl hj)) (BG.out.trans k4));have HZ:=zH (zA z1 z2);clear HW y2 y3 p3 k3 k4 z1 z2;go_wp2
  go_quiet (fail)
  go_wp2
  go_ret3
  obtain⟨p3,k3⟩:=K3.out;have bd:Below w3 w3 (w3.drewN nq):=UK.dK (aV _ _) nq;exact .inl ⟨HF.out,rfl,z,HZ.out.1,HZ.out.2,p3.next bd,k3.trans (p3.kept bd)⟩
 have hlt:room L<rec.length:=by omega
 have HW:=zH (BK (N:=228) (kV:= #[.pointer W,.pointer (some ⟨W.heap.size+1,0,none⟩),.pointer (some ⟨W.heap.size+2,0,none⟩)]) (F:=λ j=>E j\/j=W.heap.size\/j=W.heap.size+1\/j=W.heap.size+2)
  (R:=λ A' k' r _=>A'=A/\k'=k+2/\r=0)
  (yJ Tryz.func228 (by kernel_rfl) (by kernel_rfl)) p2 (by omega) hp (λ j hj=>hj) (λ fb db cap w lq hkk=>by
   refine(xz5 lq hr (yN.ae (hkk.block _ (.inr (.inl rfl)))) hlt).mono ?_;rintro e w' ⟨he,q1,q4⟩;exact⟨0,_,k+2,false,he,q1,q4,rfl,rfl,rfl⟩))
 have HX:=zH (zA Jz x3);have HF:=zH hlt;clear h hb x1 lY yN x2 Jz x3 p2 k2 a1 a2 a3 hp hr hs1 hs2 hs3 uZ hwb hwc hE0 ht hfit hlt
 go_enter Tryz.func175,Tryz.ntmps175
 go_wp2_with fail
 rw[oC.out];refine HW.out.mono ?_;rintro e w3 ⟨r,A',k',w1,rfl,⟨rfl,rfl,rfl⟩,p3,k3,k4⟩;have d2:w3.cell? ⟨W.heap.size+1,0,none⟩=some (.int .i64 0):=(HX.out.1.ae (k4.block _ (.inr (.inr (.inl rfl))))).cell 0 _ rfl;have d3:w3.cell? ⟨W.heap.size+2,0,none⟩=some (.bool false):=(HX.out.2.ae (k4.block _ (.inr (.inr (.inr rfl))))).cell 0 _ rfl;have K3:=zH (zA ((p3.less (T:=E) (λ j hj=>.inl hj)).up (show k+2<=k+3 by omega)) (BG.out.trans (k4.mono (λ j hj=>.inl hj))));clear HW HX p3 k3 k4;go_wp2
 go_quiet (fail)
 go_wp2
 go_ret3
 obtain⟨p3,k3⟩:=K3.out;have bd:Below w3 w3 (w3.drewN nq):=UK.dK (aV _ _) nq;exact .inr ⟨HF.out,rfl,p3.next bd,k3.trans (p3.kept bd)⟩
end
theorem PF.lay{E:Nat->Prop}{W W':World}{P D k fb db cap pg:Nat}{A:AP}(h:PF E W P D (A.keep pg) k fb db cap pg true)(ho:Only db W W'){o:Nat}{s:List UInt8}(GI:o+s.length<=504){y:List UInt8}(hyl:y.length=cap)(hc:504<=cap)(BL:y.take 504=A.c pg)(hy:aF W' db (UK.wr y o s)) :
  PF E W' P D (A.ak pg (UK.wr (A.c pg) o s)) k fb db cap pg true/\Kept E W W':=by
 have hl:(UK.wr y o s).length=cap:=(UK.iW _ _ _ (by omega)).trans hyl;have:=h.write ho hy hl;rw[show(UK.wr y o s).take 504=UK.wr (A.c pg) o s by rw[<-BL];exact Vu y o 504 s GI (by omega)]at this;exact this
def GJ(next:Nat)(part:List UInt8):List UInt8:=UK.wr (UK.wr (UK.bF 504) 0 (aI (w32 next))) 4 part
theorem xw7(next:Nat)(part:List UInt8)(h:part.length<=500):dG (GJ next part) 0=w32 next/\((GJ next part).drop 4).take part.length=part:=by
 have h1:(UK.wr (UK.bF 504) 0 (aI (w32 next))).length=504:=(UK.iW _ _ _ (by show 0+4<=_;rw[UK.jm];omega)).trans (UK.jm 504);unfold GJ;refine⟨?_,UK.O0 _ _ _ (by omega)⟩;rw[Vy _ _ _ (by omega) 0 (.inl (by omega))];exact Qf _ _ _ (by rw[UK.jm];omega)
def J2(len tw n:Nat):Prop:=(tw=len/\n=0)\/∃m,tw=500*m/\len<=500*(m+n)/\500*(m+n)<len+500/\1<=n
theorem J2.step{len tw n:Nat}(h:J2 len tw n)(ht:0<tw):J2 len ((tw-1)/500*500) (n+1)/\(tw-1)/500*500<tw/\tw-(tw-1)/500*500<=500/\(tw=len\/tw=(tw-1)/500*500+500)/\500*n<len/\tw<=len:=by
 have hd:=Nat.div_add_mod (tw-1) 500;have hm:=jr (tw-1) (show 0<500 by omega);rcases h with⟨rfl,rfl⟩|⟨m,rfl,h1,h2,h3⟩
 ·exact⟨.inr ⟨(tw-1)/500,by omega,by omega,by omega,by omega⟩,by omega,by omega,.inl rfl,by omega,by omega⟩
 have e:(500*m-1)/500=m-1:=by omega
 rw[e];exact⟨.inr ⟨m-1,by omega,by omega,by omega,by omega⟩,by omega,by omega,.inr (by omega),by omega,by omega⟩
theorem xtt{A B:AP}{ch:List Nat}{s:List UInt8}{tw fr:Nat}(h:AP.Grown A B ch)(g:B.Good)(hf:¬B.Full)(hc:oF B.c (s.drop tw) ch)(h1:fr<tw)(h2:tw<=s.length)(h3:tw-fr<=500)(h4:tw=s.length\/tw=fr+500) :
  oF (B.take.ak B.next (GJ (ch.headD 0) ((s.take tw).drop fr))).c (s.drop fr) (B.next::ch):=by
 have hn:=(g.next hf).1;have hpl:((s.take tw).drop fr).length=tw-fr:=by rw[zd,zt];omega
 obtain⟨l1,l2⟩:=xw7 (ch.headD 0) ((s.take tw).drop fr) (by omega);rw[hpl]at l2;have hsl:(s.drop fr).length=s.length-fr:=zd;refine⟨λ e=>?_,?_,?_,?_⟩
 ·have:=congrArg List.length e;rw[hsl,List.length_nil]at this;omega
 ·rw[AP.aL,if_pos rfl];exact l1
 ·rw[AP.aL,if_pos rfl,hsl,show min (s.length-fr) 500=tw-fr by omega,l2];rcases h4 with rfl|rfl
  ·rw[fH,fO (by omega)]
  rw[List.drop_take,show fr+500-fr=500 by omega]
 have e:(s.drop fr).drop 500=s.drop tw:=by
  rw[jV];rcases h4 with rfl|rfl
  ·rw[List.drop_length,List.drop_eq_nil_of_le (by omega)]
  rfl
 rw[e];refine hc.same (λ p hp=>?_);have hne:B.next≠p:=λ e=>hn ((h.has _).2 (.inr (e▸hp)));rw[AP.aL,if_neg hne];show bS B.c B.next (UK.bF 504) p=_;unfold bS;rw[if_neg hne]
section
variable{E F:Nat->Prop}{W W':World}{P D k fb db cap pg root H:Nat}{A:AP}{s:List UInt8}
def ybu(E:Nat->Prop)(W W':World)(P D:Nat)(A:AP)(k:Nat)(s:List UInt8)(e:Ending):Prop:=
 (∃ch B,e= .returned (.tuple #[.int .i64 (ch.headD 0:Nat),.int .i64 0])/\AP.Grown A B ch/\oF B.c s ch/\500*ch.length<s.length+500/\PZ E W' P D B (k+(s.length+10))/\Kept E W W') \/
 (∃B,e= .returned (.tuple #[.int .i64 0,.int .i64 6])/\A.Reach B/\500*A.bu<s.length/\PZ E W' P D B (k+(s.length+10))/\Kept E W W')
theorem xtu(h:PZ E W P D A k)(hg:A.Good)(hk:k+(s.length+10)<900000000)(hb:ay W H (qm P root))(hH:E H)(hs:s.length<=400000) :
  Calls Tryz.prog 227 #[.pointer H,.string (str s)] W λ e w'=>ybu E W w' P D A k s e:=by
 have HST:=zH (show ∃(ch:List Nat) (B:AP) (tw:Nat),tw=s.length/\AP.Grown A B ch/\oF B.c (s.drop tw) ch/\J2 s.length tw ch.length/\PZ E W P D B (k+4*ch.length)/\Kept E W W/\ch=[]from⟨[],A,s.length,rfl,AP.Grown.nil A,List.drop_length,.inl ⟨rfl,rfl⟩,h,h.kept (aV _ _),rfl⟩);have HB:=zH hb;clear h hb
 go_enter Tryz.func227,Tryz.ntmps227
 go_wp2_with fail
 go_loopw [6,7] (λ nx tv wr=>∃(ch:List Nat) (B:AP) (tw:Nat),nx= .int .i64 (ch.headD 0:Nat)/\tv= .int .i64 tw/\AP.Grown A B ch/\oF B.c (s.drop tw) ch/\J2 s.length tw ch.length/\PZ E wr P D B (k+4*ch.length)/\Kept E W wr) (λ _ tv _=>(intOf tv).toNat)
 case atStart=>
  obtain⟨ch,B,tw,rfl,q1,q2,q3,q4,q5,rfl⟩:=HST.out;exact⟨[],B,s.length,rfl,rfl,q1,q2,q3,q4,q5⟩
 clear HST;obtain⟨ch,B,tw,rfl,rfl,q1,q2,q3,q4,q5⟩:=hrel;have hls:=λ hf fr h1 h2 h3 h4=>xtt (fr:=fr) q1 (q1.reach.good hg) hf q2 h1 h2 h3 h4;generalize hhd:ch.headD 0=hd at hls ⊢;have GK:=zH hhd;clear hhd;have c0:=(HB.out.ae (q5.block _ hH)).c0;by_cases ht:0<tw
 ·obtain⟨r1,r2,r3,r4,r5,r6⟩:=q3.step ht;have e1:((tw:Int)-1)/500*500=(((tw-1)/500*500:Nat):Int):=by omega
  have e2:((tw:Int)-1).tdiv 500*500=(((tw-1)/500*500:Nat):Int):=by
   rw[mM (by omega)];exact e1
  generalize Dr:(tw-1)/500*500=from_ at r1 r2 r3 r4 e1 e2;by_cases hf:B.Full
  ·have HT:=zH (Qg q4 (by omega) hf);have HQ:=zH (zA q1 (zA q5 (zA r5 (((q1.reach.good hg).full).1 hf))));clear q1 q2 q3 q4 q5 r1 Dr hf
   go_wp2_with fail
   refine HT.out.mono ?_;rintro e w1 ⟨rfl,p1,k1⟩;have HP:=zH (zA p1 k1);clear HT p1 k1;go_wp2;go_ret2;obtain⟨q1,q5,r5,hz⟩:=HQ.out;have:=q1.bu;exact .inr ⟨B,rfl,q1.reach,by omega,HP.out.1.up (by omega),q5.trans HP.out.2⟩
  have HT:=zH (GA q4 (by omega) hf);have hgb:=q1.reach.good hg;have HQ:=zH (zA (q1.cons hgb hf (GJ hd ((s.take tw).drop from_))) (zA (hls hf from_ r2 r6 r3 r4) (zA r1 q5)));have hpl:((s.take tw).drop from_).length=tw-from_:=by rw[zd,zt];omega
  have MK:=zH hpl;have i1:(from_:Int)<=tw:=by omega
  have i2:(tw:Int)<=s.length:=by omega
  have i3:(4:Int)<=504:=by omega
  clear q1 q2 q3 q4 q5 hgb hpl hf r1 Dr hls
  go_wp2_with fail
  refine HT.out.mono ?_;rintro e w1 ⟨fb,db,cap,rfl,p1,k1⟩;have HE:=zH (Jv p1 (by omega));have K1:=zH k1;clear HT p1 k1
  go_wp2_with fail
  refine HE.out.mono ?_;rintro e w2 ⟨rfl,p2,k2,y,y1,y2,y3,y4,y5⟩;have HS:=zH (Ju y1 0 504 cap (by omega) (by omega) (by omega) hd);have H2:=zH (zA p2 (zA (K1.out.trans k2) (zA y2 (zA y4 y3))));clear HE K1 p2 k2 y1 y2 y3 y4 y5
  go_wp2_with fail
  refine HS.out.mono ?_;rintro e w3 ⟨rfl,b3,o3⟩;obtain⟨p2,k2,y2,y4,y3⟩:=H2.out;obtain⟨p3,k3⟩:=p2.word o3 (o:=0) (by omega) y2 y4 y3 b3;have Qh:Below w3 w3 w3.drew:=(aV _ _).drew;have HE2:=zH (Jv (p3.next Qh) (by omega));have K3:=zH ((k2.trans k3).trans (p3.kept Qh));have i4:(4:Int)<=cap:=by omega
  have i5:¬(cap=4):=by omega
  clear HS H2 p2 k2 y2 y3 b3 o3 p3 k3 Qh
  go_wp2_with fail
  go_region_with (first
   | (go_at_call 64;refine HE2.out.mono ?_;rintro e w6 ⟨rfl,p6,k6,z,t1,t2,t3,t4,t5⟩;replace p6:=zH p6;replace k6:=zH k6;replace t3:=zH t3;have hcp:=UK.Ei (P:=Tryz.prog) (dT:=94) (sT:=9) (ty:=3) Tryz.underlying94 (λ w=>by kernel_rfl) t1 4 500 (cap-4) ((s.take tw).drop from_) (by rw[MK.out];omega) (by rw[MK.out];omega)))
  all_goals
   have hb6:=t1.setCells ((s.take tw).drop from_) 4 (by rw[MK.out];omega);have Qi:=(Only.refl db w6).setCells (UK.cellsOf ((s.take tw).drop from_)) (o:=4);obtain⟨p7,k7⟩:=p6.out.lay (o:=4) (s:=(s.take tw).drop from_) Qi (by rw[MK.out];omega) t2 t4 t3.out hb6;rw[AP.ku,AP.aL,if_pos rfl,show B.take.c B.next=UK.bF 504 by show bS B.c B.next (UK.bF 504) B.next=_;unfold bS;rw[if_pos rfl]]at p7;replace p7:PF E (w6.setCells db 4 (UK.cellsOf ((s.take tw).drop from_))) P D (B.take.ak B.next (GJ hd ((s.take tw).drop from_))) (k+4*ch.length+2+1+1) fb db cap B.next true:=p7;generalize w6.setCells db 4 (UK.cellsOf ((s.take tw).drop from_))=w7 at p7 k7 hcp hb6 Qi ⊢;have HG:=zH (GD p7);have HU:=zH (Vz p7);have K7:=zH ((K3.out.trans k6.out).trans k7);clear HE2 K3 p6 k6 t1 t2 t3 t5 hcp hb6 Qi p7 k7
   go_wp2_with fail
   refine HG.out.mono ?_;rintro e w8 ⟨rfl,rfl⟩
   go_wp2_with fail
   refine HU.out.mono ?_;rintro e w9 ⟨rfl,p9,k9⟩;obtain⟨g1,g2,g3,g4⟩:=HQ.out;have H9:=zH (zA g1 (zA g2 (zA g3 (zA (p9.up (show k+4*ch.length+2+1+1<=k+4*(ch.length+1) by omega)) (g4.trans (K7.out.trans k9))))));clear HG HU K7 p9 k9 g1 g2 g3 g4 HQ;go_wp2;go_roundw
   case rel=>
    obtain⟨g1,g2,g3,g4,g5⟩:=H9.out;exact⟨B.next::ch,_,from_,rfl,rfl,g1,g2,g3,g4,g5⟩
   case measure=>simp[intOf];omega
 obtain rfl:tw=0:=by omega
 have hl:500*ch.length<s.length+500:=by
  rcases q3 with⟨a,b⟩|⟨m,a,b,c,d⟩
  ·omega
  have:m=0:=by omega
  subst this;omega
 rw[List.drop_zero]at q2;have HQ:=zH (zA q1 (zA q2 (zA hl (zA q4 q5))));clear q1 q2 q3 q4 q5 hls hl;go_wp2;go_ret2;obtain⟨q1,q2,hl,q4,q5⟩:=HQ.out;exact .inl ⟨ch,B,by rw[GK.out]<;>rfl,q1,q2,hl,q4.up (by omega),q5⟩
end
def bY(s:List UInt8)(ch:List Nat):List UInt8:=if s.length<=300 then 0::s else 1::(aI (w32 s.length)++aI (w32 (ch.headD 0)))
def J3(c:Nat->List UInt8)(s:List UInt8)(ch:List Nat):Prop:=if s.length<=300 then ch=[] else oF c s ch
theorem ML(s:List UInt8)(ch:List Nat):bY s ch≠[]:=by unfold bY;split<;>exact List.cons_ne_nil _ _
theorem V3(s:List UInt8)(ch:List Nat):(bY s ch).length<=301:=by
 unfold bY
 split
 ·rw[dn];omega
 show 9<=301;decide
theorem ycm(w:World):(Instr.makeSlice 94 (.int .i64 9) (.int .i64 9)).run Tryz.prog w= .ok (.slice w 9 9) (w.alloc (.cells (UK.pE (UK.bF 9)) 5)):=by kernel_rfl
theorem Qj(w:World):aF (w.alloc (.cells (UK.pE (UK.bF 9)) 5)) w (UK.bF 9):=by
 refine⟨5,(0,0),?_,λ i _ hh=>absurd hh.2 (jO _)⟩;show(w.heap.push _)[w.heap.size]?=_;rw[pW]
theorem oG(w:World):aF (w.alloc (.cells #[.int .u8 0] 5)) w [0]:=by
 refine⟨5,(0,0),?_,λ i _ hh=>absurd hh.2 (jO _)⟩;show(w.heap.push _)[w.heap.size]?=_;rw[pW];rfl
section
variable{E F:Nat->Prop}{W W':World}{P D k fb db cap pg root H:Nat}{A:AP}{s:List UInt8}
def Qk(E:Nat->Prop)(W W':World)(P D:Nat)(A:AP)(k:Nat)(s:List UInt8)(e:Ending):Prop:=
 (∃ch B,e= .returned (.tuple #[.string (str (bY s ch)),.int .i64 0])/\AP.Grown A B ch/\J3 B.c s ch/\500*ch.length<s.length+500/\PZ E W' P D B (k+(s.length+10))/\Kept E W W') \/
 (∃B,e= .returned (.tuple #[.string (str []),.int .i64 6])/\A.Reach B/\500*A.bu<s.length/\300<s.length/\PZ E W' P D B (k+(s.length+10))/\Kept E W W')
theorem xl6(h:PZ E W P D A k)(hs:s.length<=300) :
  Calls Tryz.prog 174 #[.pointer H,.string (str s)] W λ e w'=>Qk E W w' P D A k s e:=by
 have a1:Below W W (W.alloc (.cells #[.int .u8 0] 5)):=(aV _ _).alloc (aO _) _;have HC:=UK.tY (P:=Tryz.prog) (src:=94) (dst:=9) Tryz.underlying94 Tryz.underlying5 Tryz.underlying9 (oG W) 0 1 1 (by decide);replace HC:(convert 94 9 (.slice W 1 1)).run Tryz.prog (W.alloc (.cells #[.int .u8 0] 5))= .ok (.string (str [0])) (W.alloc (.cells #[.int .u8 0] 5)):=HC;have HP:=zH (zA (h.next a1) (h.kept a1));have i1:(s.length:Int)<=300:=by omega
 have HL:=zH hs;clear h a1 hs
 go_enter Tryz.func174,Tryz.ntmps174
 go_wp2;go_ret2
 refine .inl ⟨[],A,?_,AP.Grown.nil A,?_,by simp,HP.out.1.up (by omega),HP.out.2⟩
 ·unfold bY;rw[if_pos HL.out]<;>rfl
 unfold J3;rw[if_pos HL.out]
theorem xn0(h:PZ E W P D A k)(hg:A.Good)(hk:k+(s.length+10)<900000000)(hb:ay W H (qm P root))(hH:E H)(hs:300<s.length)(hs2:s.length<=400000) :
  Calls Tryz.prog 174 #[.pointer H,.string (str s)] W λ e w'=>Qk E W w' P D A k s e:=by
 have Ql:=zH (xtu h hg hk hb hH hs2);have i1:¬(s.length:Int)<=300:=by omega
 have HL:=zH hs;clear h hb hs
 go_enter Tryz.func174,Tryz.ntmps174
 go_wp2_with fail
 refine Ql.out.mono ?_;rintro e w1 (⟨ch,B,rfl,q1,q2,q3,q4,q5⟩|⟨B,rfl,q1,q2,q4,q5⟩)
 ·have a1:Below w1 w1 (w1.alloc (.cells (UK.pE (UK.bF 9)) 5)):=(aV _ _).alloc (aO _) _;have HM:=ycm w1;have n9:=Qj w1;have s9:=n9.set 0 1;have d9:=n9.cell (i:=0) (by decide);have f9:=n9.free (i:=0) (by decide);generalize uZ:w1.alloc (.cells (UK.pE (UK.bF 9)) 5)=wa at a1 HM n9 s9 d9 f9;have o9:=(Only.refl w1 wa).set 0 (.int .u8 ((1:UInt8).toNat:Int));have a2:=a1.trans (o9.below a1.size (aO _));have HS:=zH (Ju s9 1 8 8 (by omega) (by rw[aQ,UK.jm];omega) (by omega) s.length);generalize hhd:ch.headD 0=hd;have GK:=zH hhd;have HQ:=zH (zA q1 (zA q2 (zA q3 (zA q4 (zA q5 a2)))));clear Ql q1 q2 q3 q4 q5 n9 s9 o9 a1 a2 uZ hhd
  go_wp2_with fail
  refine HS.out.mono ?_;rintro e w2 ⟨rfl,b2,o2⟩;have HS2:=zH (Ju b2 5 4 4 (by omega) (by rw[UK.iW _ _ _ (by show 1+4<=_;rw[aQ,UK.jm];omega),aQ,UK.jm];omega) (by omega) hd);have HO:=zH o2;clear HS b2 o2 d9 f9
  go_wp2_with fail
  refine HS2.out.mono ?_;rintro e w3 ⟨rfl,b3,o3⟩
  have e9:UK.wr (UK.wr ((UK.bF 9).set 0 1) 1 (aI (w32 s.length))) 5 (aI (w32 hd))=1::(aI (w32 s.length)++aI (w32 hd)):=by
   have:=UK.zW ((UK.bF 9).set 0 1) 1 (aI (w32 s.length)) (aI (w32 hd)) (by rw[aQ,UK.jm];omega);rw[show 1+(aI (w32 s.length)).length=5 from rfl]at this;rw[this];rfl
  rw[e9]at b3;have HC:=UK.tY (P:=Tryz.prog) (src:=94) (dst:=9) Tryz.underlying94 Tryz.underlying5 Tryz.underlying9 b3 0 9 9 (by show 0+9<=9;decide);replace HC:(convert 94 9 (.slice w1 9 9)).run Tryz.prog w3= .ok (.string (str (1::(aI (w32 s.length)++aI (w32 hd))))) w3:=HC
  have HX:=zH (show ∃B,A.Grown B ch/\oF B.c s ch/\500*ch.length<s.length+500/\PZ E w3 P D B (k+(s.length+10))/\Kept E W w3 from by
   obtain⟨q1,q2,q3,q4,q5,a2⟩:=HQ.out;have a3:=(a2.trans (HO.out.below a2.size (aO _))).trans (o3.below (aP a2.size HO.out.size) (aO _));exact⟨B,q1,q2,q3,q4.next a3,q5.trans (q4.kept a3)⟩)
  clear HS2 HO HQ b3 o3;go_wp2;go_ret2;obtain⟨B,q1,q2,q3,q4,q5⟩:=HX.out;have hn:¬s.length<=300:=by have:=HL.out;omega
  refine .inl ⟨ch,B,?_,q1,?_,q3,q4,q5⟩
  ·unfold bY;rw[if_neg hn,GK.out]<;>rfl
  unfold J3;rw[if_neg hn];exact q2
 have HQ:=zH (zA q1 (zA q2 (zA q4 q5)));clear Ql q1 q2 q4 q5;go_wp2;go_ret2;obtain⟨q1,q2,q4,q5⟩:=HQ.out;exact .inr ⟨B,rfl,q1,q2,HL.out,q4,q5⟩
theorem xq7(h:PZ E W P D A k)(hg:A.Good)(hk:k+(s.length+10)<900000000)(hb:ay W H (qm P root))(hH:E H)(hs2:s.length<=400000) :
  Calls Tryz.prog 174 #[.pointer H,.string (str s)] W λ e w'=>Qk E W w' P D A k s e:=by
 by_cases hs:s.length<=300
 ·exact xl6 h hs
 exact xn0 h hg hk hb hH (by omega) hs2
end
end Go.Proofs.YtgpmiliahonaoaaGreatDoor
