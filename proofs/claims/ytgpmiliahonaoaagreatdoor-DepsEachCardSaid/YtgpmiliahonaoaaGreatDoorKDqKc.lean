/- Facts on texts and trees on pages. -/
import Derived.Test.YtgpmiliahonaoaaGreatDoorKTsMc
import Derived.Test.YtgpmiliahonaoaaGreatDoorKTrOc
set_option maxRecDepth 100000
set_option maxHeartbeats 8000000
set_option linter.unusedSimpArgs false
namespace Go.Proofs.YtgpmiliahonaoaaGreatDoor
open Go.RowKit
open UK (str aF nth Only Row ay)
theorem XR{P D T rt:Nat}(key v:UInt64):∀(d:Nat) {E:Nat->Prop} {W:World} {A:AP} {k:Nat} (s:Sb) (deep:Nat),bJ E W P D T rt A k->k+8*d+8<900000000->Tr (aB A) d s->s.ps.Nodup->(∀p∈s.ps,A.Has p)->A.Good->(∀p,A.Has p->(A.c p).length=504)->deep+d<=20 ->
  Calls Tryz.prog 180 #[.pointer T,.int .i64 s.pg,.int .u64 key.toNat,.int .u64 v.toNat,.int .i64 deep] W λ e w'=>oU E W w' P D T rt A (k+8*d+8) s.pg d key v e
 | 0,E,W,A,k,s,deep,h,hk,hT,hnd,hh,hg,hc,hd=>by
  obtain⟨ks,vs,h1,h2,h3,h4,h5⟩:=hT;have hp:=hh s.pg (by rw[h5];simp);have hl:=(lJ h1).leaf rfl;by_cases hm:key∈ks
  ·exact xvc h (by omega) hp h1 h3 h2 hl.1 key v hm deep (by omega)
  exact xx4 h (by omega) hp h1 h3 key v hm deep (by omega)
 | d+1,E,W,A,k,s,deep,h,hk,hT,hnd,hh,hg,hc,hd=>by
  have hT':=id hT;obtain⟨ag,aj,h1,h2,h3,h4⟩:=hT;have hf:=(lJ h1).inner rfl;dsimp only at hf;obtain⟨i,hki⟩:=NI ag h2.up key;have aD:=h2.len;have hle:=hki.le;obtain⟨t,ht⟩:∃t,aj[i]?=some t:=⟨_,bL (by omega)⟩;have hcc:(aj.map Sb.pg)[i]?=some t.pg:=by rw[dL,ht];rfl
  obtain⟨KX,t',hK,hpt,hmap,nH,pU⟩:=hT'.kid h1 hcc;have e:k+8*(d+1)+8=k+(8*d+8)+8:=by omega
  rw[e];refine xvf (K0:=8*d+8) h (by omega) (hh _ hT'.mem) h1 h2.up (by omega) hf.1 key v deep (by omega) hki hcc (λ E1 w1 g1=>?_) (λ B more κ er hps=>yaw hT' hnd hh hg hc h1 hcc hki hps);have hrec:=XR key v d (E:=E1) (W:=w1) t' (deep+1) g1 (by omega) nH (hK.tn hnd) (λ p hp=>hh p (hK.sub p hp)) hg hc (by omega);rw[hpt]at hrec;rw[show k+2+(8*d+8)=k+2+8*d+8 by omega];exact hrec
theorem YI{P D T rt:Nat}(key:UInt64):∀(d:Nat) {E:Nat->Prop} {W:World} {A:AP} {k:Nat} (s:Sb) (deep:Nat),bJ E W P D T rt A k->k+60*d+60<900000000->Tr (aB A) d s->s.ps.Nodup->(∀p∈s.ps,A.Has p)->A.Good->(∀p,A.Has p->(A.c p).length=504)->deep+d<=20 ->
  Calls Tryz.prog 166 #[.pointer T,.int .i64 s.pg,.int .u64 key.toNat,.int .i64 deep] W λ e w'=>Ed E W w' P D T rt A (k+60*d+60) s.pg d key e
 | 0,E,W,A,k,s,deep,h,hk,hT,hnd,hh,hg,hc,hd=>by
  obtain⟨ks,vs,h1,h2,h3,h4,h5⟩:=hT;have hp:=hh s.pg (by rw[h5];simp);have hl:=(lJ h1).leaf rfl;by_cases hm:key∈ks
  ·exact(xr1 h (by omega) hp h1 h3 hl.1 key hm deep (by omega)).mono (λ e w' ⟨B,was,gJ,kk,he,hs,ht,hkk,hkp⟩=>⟨B,was,gJ,kk,he,hs,ht,by omega,hkp⟩)
  exact(xvx h (by omega) hp h1 h3 hl.1 key hm deep (by omega)).mono (λ e w' ⟨B,was,gJ,kk,he,hs,ht,hkk,hkp⟩=>⟨B,was,gJ,kk,he,hs,ht,by omega,hkp⟩)
 | d+1,E,W,A,k,s,deep,h,hk,hT,hnd,hh,hg,hc,hd=>by
  have hT':=id hT;obtain⟨ag,aj,h1,h2,h3,h4⟩:=hT;have hf:=(lJ h1).inner rfl;dsimp only at hf;obtain⟨i,hki⟩:=NI ag h2.up key;have aD:=h2.len;have hle:=hki.le;obtain⟨t,ht⟩:∃t,aj[i]?=some t:=⟨_,bL (by omega)⟩;have hcc:(aj.map Sb.pg)[i]?=some t.pg:=by rw[dL,ht];rfl
  obtain⟨KX,t',hK,hpt,hmap,nH,pU⟩:=hT'.kid h1 hcc;have e:k+60*(d+1)+60=k+(60*d+60)+60:=by omega
  rw[e];refine xr2 (K0:=60*d+60) h (by omega) (hh _ hT'.mem) h1 h2.up (by omega) (by omega) hf.1 key deep (by omega) hki hcc (λ E1 w1 g1=>?_) (λ B was hps=>xvs hT' hnd hh hg hc h1 hki hcc hps);have hrec:=YI key d (E:=E1) (W:=w1) t' (deep+1) g1 (by omega) nH (hK.tn hnd) (λ p hp=>hh p (hK.sub p hp)) hg hc (by omega);rw[hpt]at hrec;rw[show k+2+(60*d+60)=k+2+60*d+60 by omega];exact hrec
structure qN(A B:AP)(rt:Nat)(l:List KV)(ps:List Nat):Prop where
 ex:∃gone ps',dH A B ps gone/\TI B rt l ps'/\(∀p,p∈ps'↔p∈ps/\p∉gone)/\(∀p∈gone,p∈ps)/\gone.Nodup
theorem xym{k:UInt64}{d:Nat}{A B:AP}{was gJ:Bool}{s:Sb}(h:dZ k d A s.pg B was gJ)(hT:Tr (aB A) d s)(hnd:s.ps.Nodup)(hh:∀p∈s.ps,A.Has p)(hg:A.Good)(hc:∀p,A.Has p->(A.c p).length=504) :
  qN A B s.pg (kg s.l k) s.ps/\(was=true↔∃x∈s.l,x.1=k):=by
 obtain⟨gone,hO⟩:=Y1 h s hT rfl hnd hh hg hc;obtain⟨d',t,h1,h2,h3,h4,h5,_⟩:=hO.tree;refine⟨⟨gone,t.ps,hO.fD,⟨⟨d',t,h1,h2,h3,rfl⟩,h4,λ p hp=>?_⟩,h5,λ p hp=>(hO.sub p hp).1,hO.ib⟩,hO.was⟩;obtain⟨a,b⟩:=(h5 p).1 hp;exact(hO.fD.has p).2 ⟨hh p a,b⟩
section
variable{E:Nat->Prop}{W:World}{P D T k rt:Nat}{A:AP}{l:List KV}{ps:List Nat}
def zR(l:List KV)(k:UInt64):Bool:=l.any λ x=>x.1==k
theorem xyn{l:List KV}{k:UInt64}:zR l k=true↔∃x∈l,x.1=k:=by simp[zR]
def YJ(E:Nat->Prop)(W w':World)(P D T rt:Nat)(A:AP)(K:Nat)(l:List KV)(ps:List Nat)(e:Ending):Prop:=
 ∃(B:AP) (er:Int) (kk:Nat),e= .returned (.int .i64 er)/\((er=0/\yj A B rt l ps)\/(er=6/\A.Reach B/\A.bu<=20))/\bJ E w' P D T rt B kk/\kk<=K/\Kept E W w'
theorem xk6(h:bJ E W P D T rt A k)(hk:k+2000<900000000)(ht:TI A rt l ps)(hg:A.Good)(hc:∀p,A.Has p->(A.c p).length=504)(key:UInt64) :
  Calls Tryz.prog 102 #[.pointer T,.int .u64 key.toNat] W λ e w'=>e= .returned (.tuple #[.bool (zR l key),.int .i64 0])/\∃B,qN A B rt (kg l key) ps/\bJ E w' P D T rt B (k+2000)/\Kept E W w':=by
 obtain⟨d,s,hT,rfl,rfl,rfl⟩:=ht.ex;have wN:=NK hT ht.ib ht.has hg;have hP:=YI key d s 0 h (by omega) hT ht.ib ht.has hg hc (by omega)
 have HP:=zH (hP.mono (R':=λ e w'=>∃(B:AP) (was gJ:Bool),e= .returned (.tuple #[.bool was,.bool gJ,.int .i64 0])/\was=zR s.l key/\(qN A B s.pg (kg s.l key) s.ps/\bJ E w' P D T s.pg B (k+2000)/\Kept E W w')) (λ e w' ⟨B,was,gJ,kk,he,hs,kK,hkk,hkp⟩=>(by
  obtain⟨h1,h2⟩:=xym hs hT ht.ib ht.has hg hc;refine⟨B,was,gJ,he,?_,h1,⟨kK.pz.up (by omega),kK.box,kK.mem⟩,hkp⟩;rw[Bool.eq_iff_iff,h2,xyn])))
 have t1:=h.box.c1;clear h ht hP hT hg hc wN hk
 go_enter Tryz.func102,Tryz.ntmps102
 go_wp2_with fail
 refine HP.out.mono ?_;rintro e w1 ⟨B,was,gJ,rfl,hw,hX⟩;have HX:=zH hX;clear HP t1 hX;subst hw;obtain⟨q,hq⟩:∃q,zR s.l key=q:=⟨_,rfl⟩;rw[hq];have HQ:=zH hq;clear hq
 cases q with
 | false=>
  go_wp2;go_ret2
  rw[HQ.out];exact⟨rfl,B,HX.out⟩
 | true=>
  go_wp2;go_ret2
  rw[HQ.out];exact⟨rfl,B,HX.out⟩
theorem xyo{w1 w2 w3:World}{N M more kk:Nat}{B:AP}{κ:UInt64}{s0:List UInt8}(kK:bJ E w1 P D T rt B kk)(hkp:Kept E W w1)(k2:Kept E w1 w2)(p3:PZ (λ j=>E j\/N<=j/\j<M) w3 P D (B.take.ak B.next s0) (kk+2+3))(k3:Kept (λ j=>E j\/N<=j/\j<M) w2 w3)(hg:B.Good)(hF:¬B.Full)(hrt:B.Has rt)(hmo:more<4294967296)(hk:kk+8<900000000) :
  w3.cell? (T,1)=some (.int .i64 rt)/\Calls Tryz.prog 150 #[.pointer T,.int .i64 rt,.pointer (some ⟨w3.heap.size+1+1,0,none⟩)] (((w3.alloc (.cells #[.int .u64 (κ.toNat:Int)] 77)).alloc (.cells #[.int .i64 B.next,.int .i64 more] 3)).alloc (.cells #[.bool false,.slice w3 1 1,.slice none 0 0,.slice (some ⟨w3.heap.size+1,0,none⟩) 2 2] 212)) λ e w'=>e= .returned (.int .i64 0)/\bJ E w' P D T rt ((B.take.ak B.next s0).ak rt (aS ((B.take.ak B.next s0).c rt) ⟨false,[κ],[],[B.next,more]⟩)) (kk+2+3+3)/\Kept E W w':=by
 have hE:=kK.pz.there;have hs2:=k2.size;have hs3:=k3.size;have k13:Kept E w1 w3:=k2.trans (k3.mono (λ _ hj=>.inl hj));have hb3:=kK.box.ae (k13.block T kK.mem);refine⟨hb3.cell 1 _ rfl,?_⟩;have b1:=ay.new w3 #[.int .u64 (κ.toNat:Int)] 77;have z1:(w3.alloc (.cells #[.int .u64 (κ.toNat:Int)] 77)).heap.size=w3.heap.size+1:=by simp
 have l1:Below w3 w3 (w3.alloc (.cells #[.int .u64 (κ.toNat:Int)] 77)):=(aV _ _).alloc (aO _) _;generalize w3.alloc (.cells #[.int .u64 (κ.toNat:Int)] 77)=w4 at b1 z1 l1 ⊢;have b2:=ay.new w4 #[.int .i64 B.next,.int .i64 more] 3;have z2:(w4.alloc (.cells #[.int .i64 B.next,.int .i64 more] 3)).heap.size=w4.heap.size+1:=by simp
 have l2:Below w4 w4 (w4.alloc (.cells #[.int .i64 B.next,.int .i64 more] 3)):=(aV _ _).alloc (aO _) _;generalize w4.alloc (.cells #[.int .i64 B.next,.int .i64 more] 3)=w5 at b2 z2 l2 ⊢;have b3:=ay.new w5 #[.bool false,.slice w3 1 1,.slice none 0 0,.slice (some ⟨w3.heap.size+1,0,none⟩) 2 2] 212;have z3:(w5.alloc (.cells #[.bool false,.slice w3 1 1,.slice none 0 0,.slice (some ⟨w3.heap.size+1,0,none⟩) 2 2] 212)).heap.size=w5.heap.size+1:=by simp
 have l3:Below w5 w5 (w5.alloc (.cells #[.bool false,.slice w3 1 1,.slice none 0 0,.slice (some ⟨w3.heap.size+1,0,none⟩) 2 2] 212)):=(aV _ _).alloc (aO _) _;generalize w5.alloc (.cells #[.bool false,.slice w3 1 1,.slice none 0 0,.slice (some ⟨w3.heap.size+1,0,none⟩) 2 2] 212)=w6 at b3 z3 l3 ⊢;have b1':=(b1.next l2).next l3;have b2':=b2.next l3;have YK:Below w3 w3 w6:=(l1.trans (l2.mono (by omega))).trans (l3.mono (by omega));rw[z1]at b2';rw[show w5.heap.size=w3.heap.size+1+1 by omega]at b3
 have p6:PZ (λ j=>E j\/(w3.heap.size<=j/\j<w6.heap.size)) w6 P D (B.take.ak B.next s0) (kk+2+3):=p3.wide YK (λ j hj=>by
  rcases hj with h|h
  ·exact .inl (.inl h)
  exact .inr h)
 have hr:jD (λ j=>E j\/(w3.heap.size<=j/\j<w6.heap.size)) w6 (w3.heap.size+1+1) ⟨false,[κ],[],[B.next,more]⟩:=by
  refine⟨_,_,_,b3,.inr ⟨by omega,by omega⟩,⟨_,1,rfl,aO _,λ j u hj=>⟨w3.heap.size,0,rfl,.inr ⟨by omega,by omega⟩,?_⟩⟩,⟨none,0,rfl,aO _,λ j u hj=>(by cases hj)⟩,⟨_,2,rfl,aO _,λ j u hj=>⟨w3.heap.size+1,0,rfl,.inr ⟨by omega,by omega⟩,?_⟩⟩⟩
  ·match j,hj with
   | 0,h=>exact(b1'.cell 0 _ rfl).trans h
   | j+1,h=>cases h
  match j,hj with
  | 0,h=>exact(b2'.cell 0 _ rfl).trans h
  | 1,h=>exact(b2'.cell 1 _ rfl).trans h
  | j+2,h=>cases h
 have hnx:=hg.next hF
 have hfit:Fits ⟨false,[κ],[],[B.next,more]⟩:=⟨(λ h=>by cases h),λ _=>⟨rfl,by simp,by simp,rfl,λ q hq=>by
  rcases aN.1 hq with rfl|hq
  ·omega
  rw[bz.1 hq];exact hmo⟩⟩
 have YL:Kept E w3 w6:=Kept.of_below YK (λ j hj=>by have:=hE j hj;omega);have hb6:=hb3.ae (YL.block T kK.mem);have SN:(B.take.ak B.next s0).Has rt:=AP.aA.2 (((hg.take hF).2.1 rt).2 (.inl hrt));refine(cB p6 (by omega) hb6 SN hr hfit).mono ?_;rintro e w7 ⟨rfl,p7,k7⟩;exact⟨rfl,⟨p7.less (λ _ hj=>.inl hj),hb6.ae (k7.block T (.inl kK.mem)),kK.mem⟩,((hkp.trans k13).trans YL).trans (k7.mono (λ _ hj=>.inl hj))⟩
theorem Us(h:bJ E W P D T rt A k)(hk:k+2000<900000000)(ht:TI A rt l ps)(hg:A.Good)(hc:∀p,A.Has p->(A.c p).length=504)(key v:UInt64) :
  Calls Tryz.prog 106 #[.pointer T,.int .u64 key.toNat,.int .u64 v.toNat] W λ e w'=>YJ E W w' P D T rt A (k+2000) (jd l key v) ps e:=by
 obtain⟨d,s,hT,cZ,rfl,rfl⟩:=ht.ex;have wN:=NK hT ht.ib ht.has hg;have hP:=XR key v d s 0 h (by omega) hT ht.ib ht.has hg hc (by omega);rw[cZ]at hP;have HP:=zH hP;have HH:=zH (zA h (zA hT (zA cZ (zA ht (zA hg hc)))));have t1:=h.box.c1
 have HB:=zH (λ (w':World) (B:AP) (er:Int) (kk:Nat) (hs:wL key v rt d A B er) (kK:bJ E w' P D T rt B kk) (hkk:kk<=k+2000) (hkp:Kept E W w')=>(show YJ E W w' P D T rt A (k+2000) (jd s.l key v) s.ps (.returned (.int .i64 er))from
  ⟨B,er,kk,rfl,yay hs hT cZ ht hg hc,kK,hkk,hkp⟩))
 clear h ht hP hT hg hc cZ
 go_enter Tryz.func106,Tryz.ntmps106
 go_wp2_with fail
 refine HP.out.mono ?_;rintro e w1 ⟨B,more,κ,er,kk,rfl,hps,kK,hkk,hkp⟩;by_cases he:er=0
 ·by_cases hm:more=0
  ·subst he hm;have HG:=zH (HB.out w1 B 0 kk (.same hps) kK (by omega) hkp);clear HP HH HB t1 hps kK hkk hkp;go_wp2;go_ret;exact HG.out
  subst he;obtain⟨h,hT,cZ,ht,hg,hc⟩:=HH.out;have hm0:(more==0)=false:=beq_eq_false_iff_ne.2 hm;have hm1:((more:Int)==0)=false:=beq_eq_false_iff_ne.2 (by omega);obtain⟨new,hO⟩:=Ib hps rfl s hT cZ ht.ib ht.has hg hc;have hrt:B.Has rt:=(hO.fD.has rt).2 (.inl (by rw[<-cZ];exact ht.has _ hT.mem));obtain⟨_,_,_,_,_,_,_,_,_,_,⟨x,hx,_⟩,_⟩:=hO.two hm;rw[cZ]at hx;have HL:=zH (Az kK.pz (by omega) kK.box hrt hx);have YM:=kK.box.c1;have H1:=zH (zA kK (zA hkp (zA hps (zA hx hrt))));have HF:=zH (show κ=κ/\B.Good/\more<4294967296/\(∀p,B.Has p->(B.c p).length=504)from⟨rfl,hO.fD.good hg,by have:=(hO.two hm).1;omega,hO.fD.dR⟩);clear HP t1 hps kK hkp hO hrt hx h hT cZ ht hg hc HH
  go_wp2_with fail
  refine HL.out.mono ?_;rintro e w2 ⟨N,M,nb,ka,va,aa,kc,vc,ac,rfl,hN,hM,bi,p2,k2⟩;obtain⟨kK,hkp,hps,hx,hrt⟩:=H1.out;have hr:jD (λ j=>E j\/(N<=j/\j<M)) w2 nb x:=bi.wins.reads (λ g hg=>.inr ⟨hg.1,hg.2.1⟩) (.inr ⟨bi.1.ge,bi.2.1⟩);have hb2:=kK.box.ae (k2.block T kK.mem);by_cases hF:B.Full
  ·have HN:=zH (X6 (nb:=nb) p2 (by omega) hb2 hF);have HG:=zH (λ (w':World) (p3:PZ (λ j=>E j\/N<=j/\j<M) w' P D B (kk+2+3)) (k3:Kept (λ j=>E j\/N<=j/\j<M) w2 w')=>HB.out w' B 6 (kk+2+3) (.full hps hm hF) ⟨p3.less (λ _ hj=>.inl hj),hb2.ae (k3.block T (.inl kK.mem)),kK.mem⟩ (by omega) ((hkp.trans k2).trans (k3.mono (λ _ hj=>.inl hj))));clear HL hN hM bi p2 k2 kK hkp hps hx hrt hr hb2 H1 HB HF YM
   go_wp2_with fail
   refine HN.out.mono ?_;rintro e w3 ⟨rfl,p3,k3⟩;have HQ:=zH (HG.out w3 p3 k3);clear p3 k3 HG HN;go_wp2;go_ret;exact HQ.out
  have HN:=zH (X5 p2 (by omega) hb2 hF hr (lJ hx));have HG:=zH (λ (w3:World) (p3:PZ (λ j=>E j\/N<=j/\j<M) w3 P D (B.take.ak B.next (aS (UK.bF 504) x)) (kk+2+3)) (k3:Kept (λ j=>E j\/N<=j/\j<M) w2 w3)=>xyo (E:=E) (N:=N) (M:=M) (P:=P) (D:=D) (T:=T) (rt:=rt) (κ:=κ) (more:=more) kK hkp k2 p3 k3 HF.out.2.1 hF hrt HF.out.2.2.1 (by omega));have HR:=zH (λ (w':World) kx h1 h2 h3=>HB.out w' ((B.take.ak B.next (aS (UK.bF 504) x)).ak rt (aS ((B.take.ak B.next (aS (UK.bF 504) x)).c rt) ⟨false,[κ],[],[B.next,more]⟩)) 0 kx (.grow hps hm hF hx rfl) h1 h2 h3);have SQ:kk+2+3+3<=k+2000:=by omega
  clear HL hN hM bi p2 k2 kK hkp hps hx hrt hr hb2 H1 HB HF YM
  go_wp2_with fail
  refine HN.out.mono ?_;rintro e w3 ⟨rfl,p3,k3⟩;obtain⟨t13,hS⟩:=HG.out w3 p3 k3;have HS:=zH hS;clear p3 k3 HG HN hS
  go_wp2_with fail
  refine HS.out.mono ?_;rintro e w4 ⟨rfl,h1,h2⟩;have HQ:=zH (HR.out w4 _ h1 SQ h2);clear h1 h2 HS HR;go_wp2;go_ret;exact HQ.out
 have HG:=zH (HB.out w1 B er kk (.bad hps he) kK (by omega) hkp);have he2:(er==0)=false:=beq_eq_false_iff_ne.2 he;clear HP HH HB t1 hps kK hkk hkp;go_wp2;go_ret;exact HG.out
end
section
variable{E:Nat->Prop}{W W':World}{P D T k rt:Nat}{A:AP}{l:List KV}{ps:List Nat}
def Pv:Option KV->Value
 | some x=>.tuple #[.int .u64 x.2.toNat,.bool true,.int .i64 0]
 | none=>.tuple #[.int .u64 0,.bool false,.int .i64 0]
theorem xm2(h:bJ E W P D T rt A k)(hk:k+50<900000000)(ht:TI A rt l ps)(hg:A.Good)(key:UInt64) :
  Calls Tryz.prog 92 #[.pointer T,.int .u64 key.toNat] W λ e w'=>e= .returned (Pv (iF l key))/\bJ E w' P D T rt A (k+50)/\Kept E W w':=by
 obtain⟨d,s,hT,rfl,rfl,rfl⟩:=ht.ex;have wN:=NK hT ht.ib ht.has hg;have t1:=h.box.c1;have HH:=zH (zA h (zA hT ht));clear h hT ht
 go_enter Tryz.func92,Tryz.ntmps92
 go_wp2_with fail
 go_loopw [7,16] (λ pv iv wr=>∃(j dt:Nat) (t:Sb),pv= .int .i64 t.pg/\iv= .int .i64 j/\j+dt<=16/\At A dt t/\iF s.l key=iF t.l key/\PZ E wr P D A (k+2*j)/\Kept E W wr) (λ _ iv _=>20-(intOf iv).toNat)
 case atStart=>
  obtain⟨h,hT,ht⟩:=HH.out;exact⟨0,d,s,rfl,rfl,by omega,⟨hT,ht.has⟩,rfl,h.pz,Kept.refl _ _⟩
 clear t1;obtain⟨j,dt,t,rfl,rfl,hj,hAt,hv,hp,hkp⟩:=hrel;obtain⟨h,hT,ht⟩:=HH.out;have hb:=h.box.ae (hkp.block T h.mem);have aaw:(j:Int)<20:=by omega
 have hjw:IntKind.i64.wrap ((j:Int)+1)=(j:Int)+1:=by rw[dJ];omega
 have aax:wrap64 ((j:Int)+1)=(j:Int)+1:=by unfold wrap64;omega
 have cZ:=hAt.has _ hAt.tr.mem
 cases dt with
 | zero=>
  obtain⟨ks,vs,h1,h2,h3,h4,h5⟩:=hAt.tr;have hfit:=(lJ h1).leaf rfl;have HL:=zH (Az hp (by omega) hb cZ h1);have HX:=zH (zA hv (zA h2 (zA h3 (zA h4 (zA hkp (zA hb (show ks.length<=30 from hfit.1)))))));clear hAt hp hb cZ h1 h2 h3 h4 h5 hkp hv hfit h hT ht wN
  go_wp2_with fail
  refine HL.out.mono ?_;rintro e w1 ⟨N,M,nb,ka,va,aa,kc,vc,ac,rfl,hN,hM,⟨bi,gG,dV⟩,p1,k1⟩;obtain⟨hv,h2,h3,h4,hkp,hb,L8⟩:=HX.out;have b0:=bi.box.c0;have b1:=bi.box.c1;have b2:=bi.box.c2;have hS:=Hq (bi.k.win (S:=λ _=>True) (λ _ _=>trivial)) h3 (show ks.length<=1000 by omega) key;rw[dA]at hS;have hF:bJ E w1 P D T s.pg A (k+50)/\Kept E W w1:=⟨⟨(p1.less (λ _ hj=>.inl hj)).up (by omega),hb.ae (k1.block T HH.out.1.mem),HH.out.1.mem⟩,hkp.trans k1⟩;have HF:=zH hF;have HVV:=zH bi.v;have Nv:=zH (show iF s.l key=iF (ks.zip vs) key by rw[hv,h4]);by_cases hm:key∈ks
  ·rw[decide_eq_true hm]at hS;have HS:=zH hS;have HM:=zH (zA hm (zA h3 h2));clear HL HX bi gG dV p1 k1 hS hN hM hv h2 h3 h4 hkp hb L8 hF hm
   go_wp2_with fail
   refine HS.out.mono ?_;rintro e w2 ⟨i,rfl,hst,rfl⟩;obtain⟨hm,h3,h2⟩:=HM.out;obtain⟨v,SV,hval⟩:=YN h3 h2 (hst.found h3 hm);obtain⟨lS,c2,q2,hc2,hr2⟩:=HVV.out.win (S:=λ _=>True) (λ _ _=>trivial);obtain⟨g2,o2,rfl,_,cy⟩:=hr2 _ _ (tH _ _ _ SV)
   injection q2 with q5 q6 q7
   subst q5;have hii:(i:Int)<(vs.length:Int):=Int.ofNat_lt.2 (dE.1 SV).1;have HVA:=zH (Nv.out.trans hval);clear hval SV hr2 hm h3 h2 hst HS HM q6 q7 hc2
   go_wp2_with fail
   go_ret3
   rw[HVA.out];exact⟨rfl,HF.out⟩
  rw[decide_eq_false hm]at hS;have HS:=zH hS;have HM:=zH (Nv.out.trans (ya5 (vs:=vs) hm));clear HL HX bi gG dV p1 k1 hS hN hM hv h2 h3 h4 hkp hb L8 hF hm
  go_wp2_with fail
  refine HS.out.mono ?_;rintro e w2 ⟨i,rfl,hst,rfl⟩;clear hst HS;go_wp2
  go_ret3
  rw[HM.out];exact⟨rfl,HF.out⟩
 | succ dt=>
  obtain⟨ag,aj,h1,h2,h3,h4⟩:=hAt.tr;have hfit:=(lJ h1).inner rfl;dsimp only at hfit;obtain⟨i,hki⟩:=NI ag h2.up key;have aD:=h2.len;have hle:=hki.le;obtain⟨u,hu⟩:∃u,aj[i]?=some u:=⟨_,bL (by omega)⟩;have hcc:(aj.map Sb.pg)[i]?=some u.pg:=by rw[dL,hu];rfl
  have hK:eu A dt t ag aj i u:=⟨h1,h2,h3,h4,hu⟩;have gD:=hAt.kid hK;have hval:=hK.val hki;have HL:=zH (Az hp (by omega) hb cZ h1);have HX:=zH (zA hkp (zA gD.1 (zA (hv.trans hval) (zA h2.up (zA hki hcc)))));have hls:(aj.map Sb.pg).length=ag.length+1:=hfit.1;have hil:i<ag.length+1:=by omega
  have hkl:ag.length<=100:=by omega
  clear hAt hp hb cZ h1 h2 h3 h4 hkp hv hfit h hT ht wN hK gD hval aD hu hcc hki hle
  go_wp2_with fail
  refine HL.out.mono ?_;rintro e w1 ⟨N,M,nb,ka,va,aa,kc,vc,ac,rfl,hN,hM,⟨bi,gG,dV⟩,p1,k1⟩;obtain⟨hkp,gD,hval,hup,hki,hcc⟩:=HX.out;have bx:=bi.box;dsimp only at bx;rw[hls]at bx;have b0:=bx.c0;have b3:=bx.c3
  obtain⟨ga,rfl,ra⟩:∃ga,aa=some ⟨ga,0,none⟩/\Row w1 ga ac (ints (aj.map Sb.pg)):=by
   rcases bi.a with⟨_,h2,_⟩|⟨g,h1,h2⟩
   ·have:=congrArg List.length h2;rw[gQ]at this;exact absurd this (by show(aj.map Sb.pg).length≠0;omega)
   exact⟨g,h1,h2⟩
  have cc:w1.cell? (ga,i)=some (.int .i64 (u.pg:Int)):=ra.at' i _ (KM _ _ _ hcc);have hnr:∀q,jD (λ _=>True) (w1.drewN q) nb ⟨false,ag,[],aj.map Sb.pg⟩:=λ q=>(bi.next (UK.dK (aV _ _) q)).wins.1.reads (λ _ _=>trivial) trivial;have hKd:∀q,Calls Tryz.prog 158 #[.pointer nb,.int .u64 key.toNat] (w1.drewN q) λ e w'=>e= .returned (.int .i64 (i:Int))/\w'=w1.drewN q:=λ q=>(R7 (hnr q) hup (show ag.length<=1000 by omega) key).mono (λ e w' ⟨i2,he,hk2,hw⟩=>⟨by rw[he,hki.inj hk2],hw.symm⟩);have hii:(i:Int)<((ag.length:Int)+1):=by omega
  have HF:=zH (λ (q:Nat)=>(show At A dt u/\iF s.l key=iF u.l key/\PZ E (w1.drewN q) P D A (k+2*(j+1))/\Kept E W (w1.drewN q)from
   ⟨gD,hval,((p1.less (T:=E) (λ _ hj=>.inl hj)).next (UK.dK (aV _ _) q)).up (by omega),(hkp.trans k1).trans ((p1.less (T:=E) (λ _ hj=>.inl hj)).kept (UK.dK (aV _ _) q))⟩))
  clear HL HX bi gG dV p1 k1 hN hM hkp gD hval hup hki hcc ra hnr bx hls
  go_wp2_with fail
  go_quiet (first|(go_at_call 158;with_reducible exact Calls.quiet_of_same (hKd _)))
  go_wp2;go_roundw
  case rel=>exact⟨j+1,dt,u,rfl,by go_num,by omega,HF.out _⟩
  case measure=>simp[intOf];omega
end
open UK (str aF nth Only)
structure Sn where
 leaf:Bool
 up:Nat
 wW:List UInt64
 ax:List Nat
 Fv:List Nat
abbrev LV:=Nat×List UInt64
structure SS where
 pg:Nat
 lv:List LV
 ps:List Nat
def lvN(lv:List LV):List UInt64:=lv.flatMap (·.2)
def SS.l(s:SS):List UInt64:=lvN s.lv
def Xo(aj:List SS):List LV:=aj.flatMap SS.lv
def Xp(aj:List SS):List Nat:=aj.flatMap SS.ps
def Xq(aj:List SS):List Nat:=aj.map SS.pg
def Xr(aj:List SS):List Nat:=aj.map (λ t=>t.l.length)
def Sn.size(x:Sn):Nat:=x.wW.length+x.ax.length
def Sn.aC(x:Sn):Nat:=if x.leaf then 48 else 40
def Sn.count(x:Sn):Nat:=if x.leaf then x.wW.length else x.Fv.sum
structure NA where
 pg:Nat
 L:List SS
 R:List SS
 c:Nat
def NA.node(fr:NA)(up pg c:Nat):Sn:=⟨false,up,[],Xq fr.L++pg::Xq fr.R,Xr fr.L++c::Xr fr.R⟩
def NA.part(fr:NA)(s:SS):SS:=⟨fr.pg,Xo fr.L++s.lv++Xo fr.R,fr.pg::(Xp fr.L++s.ps++Xp fr.R)⟩
theorem CW{l:List KV}{k v:UInt64}{x:KV}:x∈jd l k v↔(x∈l/\x.1≠k)\/x=(k,v):=by
 unfold jd;simp only[dD,List.mem_filter,aN,decide_eq_true_eq]
 constructor
 ·rintro(⟨h,h2⟩|rfl|⟨h,h2⟩)
  ·exact .inl ⟨h,λ e=>by rw[e]at h2;omega⟩
  ·exact .inr rfl
  exact .inl ⟨h,λ e=>by rw[e]at h2;omega⟩
 rintro(⟨h,h2⟩|h)
 ·have hne:x.1.toNat≠k.toNat:=λ e=>h2 (UInt64.toNat.inj e);rcases Nat.lt_or_gt_of_ne hne with h3|h3
  ·exact .inl ⟨h,h3⟩
  exact .inr (.inr ⟨h,h3⟩)
 exact .inr (.inl h)
theorem OO{l:List KV}{k:UInt64}{x:KV}:x∈kg l k↔x∈l/\x.1≠k:=by
 unfold kg;simp only[List.mem_filter,decide_eq_true_eq]
theorem xxy{l:List KV}(hr:kQ l){x:KV}(h:x∈l):iF l x.1=some x:=by
 induction l with
 | nil=>cases h
 | cons a r ih=>
  obtain⟨h1,h2⟩:=bR.1 hr;unfold iF;rcases aN.1 h with rfl|h
  ·rw[List.find?_cons_of_pos (by simp)]
  have:=h1 x h;rw[List.find?_cons_of_neg (by simp;intro e;rw[e]at this;omega)];exact ih h2 h
theorem xu3{l:List KV}{k:UInt64}(h:∀x∈l,x.1≠k):iF l k=none:=List.find?_eq_none.2 (λ x hx=>by simpa using h x hx)
end Go.Proofs.YtgpmiliahonaoaaGreatDoor
namespace Go.Proofs.YtgpmiliahonaoaaGreatDoor.DP
abbrev tF:=List (Nat×List UInt8)
structure TT(l:List KV)(X:tF)(F:Nat->List UInt8):Prop where
 some_:∀y∈l,F y.1.toNat≠[]/\(y.2.toNat,F y.1.toNat)∈X/\y.2.toNat≠0
 all:∀k,k<2^64->F k≠[]->∃y∈l,y.1.toNat=k
structure TH(l m:List KV)(X:tF)(F G:Nat->List UInt8):Prop where
 one:TT l X F
 two:TT m X G
 wW:∀y∈l,∀z∈m,y.2≠z.2
 inl:l.Pairwise λ y z=>y.2≠z.2
 Gm:m.Pairwise λ y z=>y.2≠z.2
 Gn:X.Pairwise λ s t=>s.1≠t.1
theorem TH.swap{l m:List KV}{X:tF}{F G:Nat->List UInt8}(h:TH l m X F G):TH m l X G F:=⟨h.two,h.one,λ y hy z hz e=>h.wW z hz y hy e.symm,h.Gm,h.inl,h.Gn⟩
def bO(F:Nat->List UInt8)(k:Nat)(s:List UInt8):Nat->List UInt8:=λ j=>if j=k then s else F j
theorem xwk{l:List KV}(h:kQ l){x y:KV}(hx:x∈l)(hy:y∈l)(e:x.1=y.1):x=y:=by
 induction l with
 | nil=>cases hx
 | cons a t ih=>
  obtain⟨h1,h2⟩:=bR.1 h;rcases aN.1 hx with rfl|hx'<;>rcases aN.1 hy with rfl|hy'
  ·rfl
  ·have:=h1 y hy';rw[e]at this;omega
  ·have:=h1 x hx';rw[e]at this;omega
  exact ih h2 hx' hy'
theorem Mf{α:Type}{R:α->α->Prop}(hs:∀a b,R a b->R b a){l:List α}(h:l.Pairwise R){x y:α}(hx:x∈l)(hy:y∈l)(hn:x≠y):R x y:=by
 induction l with
 | nil=>cases hx
 | cons a t ih=>
  obtain⟨h1,h2⟩:=bR.1 h;rcases aN.1 hx with rfl|hx'<;>rcases aN.1 hy with rfl|hy'
  ·exact absurd rfl hn
  ·exact h1 y hy'
  ·exact hs _ _ (h1 x hx')
  exact ih h2 hx' hy'
theorem TE{l:List KV}(hi:l.Pairwise λ y z=>y.2≠z.2){k v:UInt64}(hv:∀y∈l,y.1≠k->y.2≠v):(jd l k v).Pairwise λ y z=>y.2≠z.2:=by
 unfold jd;rw[List.pairwise_append,bR]
 have hlt:∀a∈l.filter (λ x=>decide (x.1.toNat<k.toNat)),a.2≠v:=λ a ha=>by
  obtain⟨h1,h2⟩:=List.mem_filter.1 ha;exact hv a h1 (λ e=>by rw[e]at h2;simp at h2)
 have hgt:∀a∈l.filter (λ x=>decide (k.toNat<x.1.toNat)),a.2≠v:=λ a ha=>by
  obtain⟨h1,h2⟩:=List.mem_filter.1 ha;exact hv a h1 (λ e=>by rw[e]at h2;simp at h2)
 refine⟨hi.filter _,⟨λ a ha=>(hgt a ha).symm,hi.filter _⟩,λ a ha b hb=>?_⟩;rcases aN.1 hb with rfl|hb
 ·exact hlt a ha
 obtain⟨h1,h2⟩:=List.mem_filter.1 ha;obtain⟨h3,h4⟩:=List.mem_filter.1 hb;refine Mf (λ a b (hab:a.2≠b.2)=>hab.symm) hi h1 h3 (λ e=>?_);rw[e]at h2;simp only[decide_eq_true_eq]at h2 h4;omega
theorem TH.put{l m:List KV}{X:tF}{F G:Nat->List UInt8}(h:TH l m X F G){k v:UInt64}{s:List UInt8}(hs:s≠[])(hv:v.toNat≠0)(hno:F k.toNat=[])(hfr:∀t∈X,t.1≠v.toNat) :
  TH (jd l k v) m ((v.toNat,s)::X) (bO F k.toNat s) G:=by
 have hk:∀y∈l,y.1≠k:=λ y hy e=>(h.one.some_ y hy).1 (by rw[e];exact hno);have hvl:∀y∈l,y.2≠v:=λ y hy e=>hfr _ (h.one.some_ y hy).2.1 (by rw[e]);have Ep:∀y∈m,y.2≠v:=λ y hy e=>hfr _ (h.two.some_ y hy).2.1 (by rw[e]);refine⟨⟨λ y hy=>?_,λ j hj hF=>?_⟩,⟨λ y hy=>?_,h.two.all⟩,λ y hy z hz=>?_,TE h.inl (λ y hy _=>hvl y hy),h.Gm,bR.2 ⟨λ t ht=>(hfr t ht).symm,h.Gn⟩⟩
 ·rcases CW.1 hy with⟨hy,hne⟩|rfl
  ·have hn:y.1.toNat≠k.toNat:=λ e=>hne (mJ.1 e);obtain⟨a,b,c⟩:=h.one.some_ y hy;simp only[bO,if_neg hn];exact⟨a,cu _ b,c⟩
  simp only[bO,if_pos];exact⟨hs,aT ..,hv⟩
 ·by_cases e:j=k.toNat
  ·exact⟨(k,v),CW.2 (.inr rfl),e.symm⟩
  simp only[bO,if_neg e]at hF;obtain⟨y,hy,rfl⟩:=h.one.all j hj hF;exact⟨y,CW.2 (.inl ⟨hy,hk y hy⟩),rfl⟩
 ·obtain⟨a,b,c⟩:=h.two.some_ y hy;exact⟨a,cu _ b,c⟩
 rcases CW.1 hy with⟨hy,_⟩|rfl
 ·exact h.wW y hy z hz
 exact(Ep z hz).symm
theorem TH.set{l m:List KV}{X:tF}{F G:Nat->List UInt8}{k v u:UInt64}{s t:List UInt8}(h:TH l m ((u.toNat,t)::X) F G)(hk:(k,u)∈l)(hs:s≠[])(hv:v.toNat≠0)(hfr:∀t∈X,t.1≠v.toNat) :
  TH (jd l k v) m ((v.toNat,s)::X) (bO F k.toNat s) G:=by
 have hX:∀y∈l,y.1≠k->(y.2.toNat,F y.1.toNat)∈X:=λ y hy hne=>by
  rcases aN.1 (h.one.some_ y hy).2.1 with e|e
  ·have e2:y.2=u:=mJ.1 (Prod.mk.inj e).1;exact absurd e2 (Mf (λ a b (hab:a.2≠b.2)=>hab.symm) h.inl hy hk (λ e3=>hne (by rw[e3])))
  exact e
 have TF:∀y∈m,(y.2.toNat,G y.1.toNat)∈X:=λ y hy=>by
  rcases aN.1 (h.two.some_ y hy).2.1 with e|e
  ·have e2:y.2=u:=mJ.1 (Prod.mk.inj e).1;exact absurd e2 (λ e3=>h.wW _ hk y hy e3.symm)
  exact e
 have hvl:∀y∈l,y.1≠k->y.2≠v:=λ y hy hne e=>hfr _ (hX y hy hne) (by rw[e]);have Ep:∀y∈m,y.2≠v:=λ y hy e=>hfr _ (TF y hy) (by rw[e]);refine⟨⟨λ y hy=>?_,λ j hj hF=>?_⟩,⟨λ y hy=>?_,h.two.all⟩,λ y hy z hz=>?_,TE h.inl hvl,h.Gm,bR.2 ⟨λ t ht=>(hfr t ht).symm,(bR.1 h.Gn).2⟩⟩
 ·rcases CW.1 hy with⟨hy,hne⟩|rfl
  ·have hn:y.1.toNat≠k.toNat:=λ e=>hne (mJ.1 e);obtain⟨a,b,c⟩:=h.one.some_ y hy;simp only[bO,if_neg hn];exact⟨a,cu _ (hX y hy hne),c⟩
  simp only[bO,if_pos];exact⟨hs,aT ..,hv⟩
 ·by_cases e:j=k.toNat
  ·exact⟨(k,v),CW.2 (.inr rfl),e.symm⟩
  simp only[bO,if_neg e]at hF;obtain⟨y,hy,rfl⟩:=h.one.all j hj hF;exact⟨y,CW.2 (.inl ⟨hy,λ e2=>e (by rw[e2])⟩),rfl⟩
 ·obtain⟨a,b,c⟩:=h.two.some_ y hy;exact⟨a,cu _ (TF y hy),c⟩
 rcases CW.1 hy with⟨hy,_⟩|rfl
 ·exact h.wW y hy z hz
 exact(Ep z hz).symm
theorem TH.stay{l m:List KV}{X:tF}{F G:Nat->List UInt8}{k u:UInt64}{s t:List UInt8}(h:TH l m ((u.toNat,t)::X) F G)(hl:kQ l)(hk:(k,u)∈l)(hs:s≠[]) :
  TH l m ((u.toNat,s)::X) (bO F k.toNat s) G:=by
 have h0:=bR.1 h.Gn;refine⟨⟨λ y hy=>?_,λ j hj hF=>?_⟩,⟨λ y hy=>?_,h.two.all⟩,h.wW,h.inl,h.Gm,bR.2 ⟨λ t ht=>h0.1 t ht,h0.2⟩⟩
 ·obtain⟨a,b,c⟩:=h.one.some_ y hy;by_cases e:y.1=k
  ·have e3:y=(k,u):=xwk hl hy hk e;subst e3;simp only[bO,if_pos];exact⟨hs,aT ..,c⟩
  have hn:y.1.toNat≠k.toNat:=λ e2=>e (mJ.1 e2);simp only[bO,if_neg hn];refine⟨a,?_,c⟩;rcases aN.1 b with e2|e2
  ·have e3:y.2=u:=mJ.1 (Prod.mk.inj e2).1;exact absurd e3 (Mf (λ a b (hab:a.2≠b.2)=>hab.symm) h.inl hy hk (λ e4=>e (by rw[e4])))
  exact cu _ e2
 ·by_cases e:j=k.toNat
  ·exact⟨(k,u),hk,e.symm⟩
  simp only[bO,if_neg e]at hF;exact h.one.all j hj hF
 obtain⟨a,b,c⟩:=h.two.some_ y hy;refine⟨a,?_,c⟩;rcases aN.1 b with e2|e2
 ·have e3:y.2=u:=mJ.1 (Prod.mk.inj e2).1;exact absurd e3 (λ e4=>h.wW _ hk y hy e4.symm)
 exact cu _ e2
theorem TH.drop{l m:List KV}{X:tF}{F G:Nat->List UInt8}{k u:UInt64}{t:List UInt8}(h:TH l m ((u.toNat,t)::X) F G)(hk:(k,u)∈l) :
  TH (kg l k) m X (bO F k.toNat []) G:=by
 refine⟨⟨λ y hy=>?_,λ j hj hF=>?_⟩,⟨λ y hy=>?_,h.two.all⟩,λ y hy z hz=>h.wW y (OO.1 hy).1 z hz,?_,h.Gm,(bR.1 h.Gn).2⟩
 ·obtain⟨hy,hne⟩:=OO.1 hy;obtain⟨a,b,c⟩:=h.one.some_ y hy;have hn:y.1.toNat≠k.toNat:=λ e=>hne (mJ.1 e);simp only[bO,if_neg hn];refine⟨a,?_,c⟩;rcases aN.1 b with e2|e2
  ·have e3:y.2=u:=mJ.1 (Prod.mk.inj e2).1;exact absurd e3 (Mf (λ a b (hab:a.2≠b.2)=>hab.symm) h.inl hy hk (λ e4=>hne (by rw[e4])))
  exact e2
 ·by_cases e:j=k.toNat
  ·simp only[bO,if_pos e]at hF;exact absurd rfl hF
  simp only[bO,if_neg e]at hF;obtain⟨y,hy,rfl⟩:=h.one.all j hj hF;exact⟨y,OO.2 ⟨hy,λ e2=>e (by rw[e2])⟩,rfl⟩
 ·obtain⟨a,b,c⟩:=h.two.some_ y hy;refine⟨a,?_,c⟩;rcases aN.1 b with e2|e2
  ·have e3:y.2=u:=mJ.1 (Prod.mk.inj e2).1;exact absurd e3 (λ e4=>h.wW _ hk y hy e4.symm)
  exact e2
 unfold kg;exact h.inl.filter _
end Go.Proofs.YtgpmiliahonaoaaGreatDoor.DP
namespace Go.Proofs.YtgpmiliahonaoaaGreatDoor
open Go.RowKit
open UK (str aF nth Only Row ay w32)
open DP (tF TT TH bO)
theorem xs8{A B:AP}{p:Nat}(h:B.c p=A.c p):aB B p=aB A p:=by unfold aB;rw[h]
theorem TI.like{A B:AP}{rt:Nat}{l:List KV}{ps:List Nat}(h:TI A rt l ps)(hc:∀p∈ps,B.c p=A.c p)(hh:∀p∈ps,B.Has p):TI B rt l ps:=by
 obtain⟨⟨d,s,h1,h2,h3,h4⟩,h5,h6⟩:=h;exact⟨⟨d,s,Tr.same d s h1 (λ p hp=>xs8 (hc p (h4▸hp))),h2,h3,h4⟩,h5,hh⟩
def fo(ex dw ps2:List Nat):Nat->Prop:=λ p=>p∈ex\/p∈dw\/p∈ps2
theorem xzu(ex dw ps2:List Nat):fo ex ps2 dw=fo ex dw ps2:=by
 funext p
 exact propext (or_congr Iff.rfl or_comm)
structure DM(A:AP)(ex:List Nat)(Ec:Nat->List UInt8)(r1 r2 root:Nat)(l1 l2:List KV)(dw ps2:List Nat)(pg:Nat)(rp:List Nat)(L:Nat->List (List UInt8))(X:List HT):Prop where
 good:A.Good
 t1:TI A r1 l1 dw
 t2:TI A r2 l2 ps2
 Ac:∀p∈ex,A.Has p/\A.c p=Ec p
 ib:(ex++(dw++ps2)).Nodup
 hi:HI (A.fe (fo ex dw ps2)) root pg rp L X
 few:X.length<=1000000
section
variable{A B:AP}{ex dw ps2 rp:List Nat}{Ec:Nat->List UInt8}{r1 r2 root pg:Nat}{l1 l2:List KV}{L:Nat->List (List UInt8)}{X Y:List HT}
theorem DM.swap(h:DM A ex Ec r1 r2 root l1 l2 dw ps2 pg rp L X):DM A ex Ec r2 r1 root l2 l1 ps2 dw pg rp L X:=
 ⟨h.good,h.t2,h.t1,h.Ac,(List.perm_append_comm.append_left ex).nodup_iff.1 h.ib,by rw[xzu];exact h.hi,h.few⟩
theorem DM.fos(h:DM A ex Ec r1 r2 root l1 l2 dw ps2 pg rp L X){p:Nat}(hp:fo ex dw ps2 p):A.Has p:=by
 rcases hp with hp|hp|hp
 ·exact(h.Ac p hp).1
 ·exact h.t1.has p hp
 exact h.t2.has p hp
theorem DM.perm(h:DM A ex Ec r1 r2 root l1 l2 dw ps2 pg rp L X)(hp:X.Perm Y):DM A ex Ec r1 r2 root l1 l2 dw ps2 pg rp L Y:=
 ⟨h.good,h.t1,h.t2,h.Ac,h.ib,h.hi.perm hp,by rw[<-hp.length_eq];exact h.few⟩
theorem DM.far(h:DM A ex Ec r1 r2 root l1 l2 dw ps2 pg rp L X):pJ (fo ex dw ps2) A.c A:=λ _ hp=>⟨h.fos hp,rfl⟩
theorem DM.heap(h:DM A ex Ec r1 r2 root l1 l2 dw ps2 pg rp L X){xh:Nat}{rp':List Nat}{L':Nat->List (List UInt8)}(hr:A.Reach B)(hi:HI (B.fe (fo ex dw ps2)) root xh rp' L' Y)(hf:pJ (fo ex dw ps2) A.c B)(hY:Y.length<=1000000) :
  DM B ex Ec r1 r2 root l1 l2 dw ps2 xh rp' L' Y:=
 ⟨hr.good h.good,h.t1.like (λ p hp=>(hf p (.inr (.inl hp))).2) (λ p hp=>(hf p (.inr (.inl hp))).1),h.t2.like (λ p hp=>(hf p (.inr (.inr hp))).2) (λ p hp=>(hf p (.inr (.inr hp))).1),
  λ p hp=>⟨(hf p (.inl hp)).1,(hf p (.inl hp)).2.trans (h.Ac p hp).2⟩,h.ib,hi,hY⟩
theorem DM.put{l:List KV}(h:DM A ex Ec r1 r2 root l1 l2 dw ps2 pg rp L X)(hp:yj A B r1 l dw):∃ps,DM B ex Ec r1 r2 root l l2 ps ps2 pg rp L X/\A.Reach B:=by
 obtain⟨new,ps,hc,hT,hm,_⟩:=hp.ex;have hn:=bN.1 h.ib;have hn2:=bN.1 hn.2.1;have Bw:∀p∈ps2,B.Has p:=λ p hp=>(hc.has p).2 (.inl (h.t2.has p hp));have h21:∀p∈ps2,p∉dw:=λ p h2 h1=>hn2.2.2 p h1 p h2 rfl;have he1:∀p∈ex,p∉dw:=λ p h2 h1=>hn.2.2 p h2 p (eF _ h1) rfl;refine⟨ps,⟨hc.reach.good h.good,hT,h.t2.like (λ p hp=>hc.same p (h.t2.has p hp) (h21 p hp)) Bw,λ p hp=>⟨(hc.has p).2 (.inl (h.Ac p hp).1),(hc.same p (h.Ac p hp).1 (he1 p hp)).trans (h.Ac p hp).2⟩,?_,?_,h.few⟩,hc.reach⟩
 ·rw[bN];refine⟨hn.1,?_,λ a ha b hb e=>?_⟩
  ·rw[bN];refine⟨hT.ib,hn2.2.1,λ a ha b hb e=>?_⟩;rcases(hm a).1 ha with h1|h1
   ·exact hn2.2.2 a h1 b hb e
   exact hc.fresh a h1 (e▸h.t2.has b hb)
  rcases dD.1 hb with hb|hb
  ·rcases(hm b).1 hb with h1|h1
   ·exact hn.2.2 a ha b (eF _ h1) e
   exact hc.fresh b h1 (e▸(h.Ac a ha).1)
  exact hn.2.2 a ha b (lI _ hb) e
 refine h.hi.same (λ p=>?_) (λ p hp=>?_)
 ·show B.Has p/\¬fo ex ps ps2 p↔A.Has p/\¬fo ex dw ps2 p;unfold fo;rw[hm,hc.has]
  constructor
  ·rintro⟨h1|h1,h2⟩
   ·exact⟨h1,λ h3=>h2 (h3.imp id (Or.imp .inl id))⟩
   exact absurd (.inr (.inl (.inr h1))) h2
  rintro⟨h1,h2⟩;refine⟨.inl h1,λ h3=>?_⟩;rcases h3 with h3|(h3|h3)|h3
  ·exact h2 (.inl h3)
  ·exact h2 (.inr (.inl h3))
  ·exact hc.fresh p h3 h1
  exact h2 (.inr (.inr h3))
 exact hc.same p hp.1 (λ h1=>hp.2 (.inr (.inl h1)))
theorem DM.drop{l:List KV}(h:DM A ex Ec r1 r2 root l1 l2 dw ps2 pg rp L X)(hp:qN A B r1 l dw):∃ps,DM B ex Ec r1 r2 root l l2 ps ps2 pg rp L X/\A.Reach B:=by
 obtain⟨gone,ps,hc,hT,hm,hs,_⟩:=hp.ex;have hn:=bN.1 h.ib;have hn2:=bN.1 hn.2.1;have h21:∀p∈ps2,p∉dw:=λ p h2 h1=>hn2.2.2 p h1 p h2 rfl;have he1:∀p∈ex,p∉dw:=λ p h2 h1=>hn.2.2 p h2 p (eF _ h1) rfl;have Bw:∀p∈ps2,B.Has p:=λ p hp=>(hc.has p).2 ⟨h.t2.has p hp,λ hg=>h21 p hp (hs p hg)⟩;have Un:∀p∈ex,B.Has p:=λ p hp=>(hc.has p).2 ⟨(h.Ac p hp).1,λ hg=>he1 p hp (hs p hg)⟩;refine⟨ps,⟨hc.reach.good h.good,hT,h.t2.like (λ p hp=>hc.same p (Bw p hp) (h21 p hp)) Bw,λ p hp=>⟨Un p hp,(hc.same p (Un p hp) (he1 p hp)).trans (h.Ac p hp).2⟩,?_,?_,h.few⟩,hc.reach⟩
 ·rw[bN];refine⟨hn.1,?_,λ a ha b hb e=>?_⟩
  ·rw[bN];exact⟨hT.ib,hn2.2.1,λ a ha b hb e=>hn2.2.2 a ((hm a).1 ha).1 b hb e⟩
  rcases dD.1 hb with hb|hb
  ·exact hn.2.2 a ha b (eF _ ((hm b).1 hb).1) e
  exact hn.2.2 a ha b (lI _ hb) e
 have hkey:∀p,B.Has p/\¬fo ex ps ps2 p↔A.Has p/\¬fo ex dw ps2 p:=λ p=>by
  unfold fo;rw[hm,hc.has]
  constructor
  ·rintro⟨⟨h1,h2⟩,h3⟩;refine⟨h1,λ h4=>?_⟩;rcases h4 with h4|h4|h4
   ·exact h3 (.inl h4)
   ·exact h3 (.inr (.inl ⟨h4,h2⟩))
   exact h3 (.inr (.inr h4))
  rintro⟨h1,h2⟩;exact⟨⟨h1,λ hg=>h2 (.inr (.inl (hs p hg)))⟩,λ h3=>h2 (h3.imp id (Or.imp And.left id))⟩
 exact h.hi.same hkey (λ p hp=>hc.same p ((hkey p).2 hp).1 (λ h1=>hp.2 (.inr (.inl h1))))
def qO(X:List HT):tF:=X.map λ t=>(bK t,t.s)
theorem TH.perm{X Y:tF}{F G:Nat->List UInt8}(h:TH l1 l2 X F G)(hp:X.Perm Y):TH l1 l2 Y F G:=
 ⟨⟨λ y hy=>⟨(h.one.some_ y hy).1,hp.mem_iff.1 (h.one.some_ y hy).2.1,(h.one.some_ y hy).2.2⟩,h.one.all⟩,⟨λ y hy=>⟨(h.two.some_ y hy).1,hp.mem_iff.1 (h.two.some_ y hy).2.1,(h.two.some_ y hy).2.2⟩,h.two.all⟩,h.wW,h.inl,h.Gm,(hp.pairwise_iff (λ {_ _} a b=>a b.symm)).1 h.Gn⟩
theorem HI.num{A:Pg}(h:HI A root pg rp L X){t u:HT}(ht:t∈X)(hu:u∈X)(e:bK t=bK u):t.pg=u.pg/\t.i=u.i:=by
 have h1:=h.slot ht;have h2:=h.slot hu;unfold bK at e;omega
theorem HI.E5{A:Pg}{t:HT}(h:HI A root pg rp L (t::X)):∀u∈X,bK u≠bK t:=λ u hu e=>
 (bR.1 h.inj).1 u hu (by
  have:=h.num (aT ..) (cu _ hu) e.symm;exact this)
theorem DM.ol(h:DM A ex Ec r1 r2 root l1 l2 dw ps2 pg rp L X){t:HT}(ht:t∈X):0<bK t/\bK t<2^64:=by
 have h1:=(h.hi.nS (h.hi.each t ht).1).1;have h2:=h.hi.slot ht;have h3:1<=t.pg:=h1.1;have h4:t.pg<A.au:=h1.2.1;have h5:=h.good.aC;have h6:=h.good.few;unfold bK;omega
def wT(s:List UInt8):Nat:=1+(if s.length<=300 then 0 else(s.length+499)/500)
def wS(s:List UInt8):Nat:=if s=[] then 0 else wT s
theorem Di{s:List UInt8}(h:s≠[]):wS s=wT s:=if_neg h
def wt(X:List HT):Nat:=(X.map λ t=>wT t.s).sum
theorem yl(t:HT)(X:List HT):wt (t::X)=wT t.s+wt X:=rfl
theorem Uo(hp:X.Perm Y):wt X=wt Y:=(hp.map _).sum_nat
end
open Go.BigFrame
section
variable{E:Nat->Prop}{W W':World}{P D Dp T H k rt r1 r2 root pg:Nat}{A B:AP}{ex dw ps2 rp:List Nat}{Ec:Nat->List UInt8}{l1 l2:List KV}{L:Nat->List (List UInt8)}{X:List HT}{F G:Nat->List UInt8}
structure LZ(E:Nat->Prop)(W:World)(P D Dp T H k:Nat)(A:AP)(rt root:Nat):Prop where
 pz:PZ E W P D A k
 hd:W.cell? (Dp,4)=some (.pointer H)
 md:E Dp
 bt:ay W T #[.pointer P,.int .i64 rt]
 mt:E T
 bh:ay W H (qm P root)
 mh:E H
theorem LZ.of{j:Nat}(h:LZ E W P D Dp T H k A rt root)(p:PZ E W' P D B j)(kp:Kept E W W'):LZ E W' P D Dp T H j B rt root:=
 ⟨p,by rw[<-h.hd];exact gq (kp.block Dp h.md),h.md,h.bt.ae (kp.block T h.mt),h.mt,h.bh.ae (kp.block H h.mh),h.mh⟩
theorem LZ.tree(h:LZ E W P D Dp T H k A rt root):bJ E W P D T rt A k:=⟨h.pz,h.bt,h.mt⟩
theorem LZ.heap(h:LZ E W P D Dp T H k A r1 root)(m:DM A ex Ec r1 r2 root l1 l2 dw ps2 pg rp L X):HZ (fo ex dw ps2) A.c E W P D H k A root pg rp L X:=
 ⟨h.pz,m.good,h.bh,h.mh,m.hi,m.few,m.far⟩
theorem PZ.dR(h:PZ E W P D A k){p:Nat}(hp:A.Has p):(A.c p).length=504:=by
 obtain⟨FB,M,n,q,d,h1,hn,his⟩:=h;by_cases hx:∃(i:Nat) (f:Fr),q.af[i]?=some (some f)/\f.page=(p:Nat)
 ·obtain⟨i,f,hi,hf⟩:=hx;have e:=h1.calm.at_ i f hi;rw[hf,Int.toNat_natCast]at e;rw[<-e];exact(h1.pd.pool.each i f hi).len
 have e:=h1.calm.off p hp.1 hp.2.1 (by rw[his.free];exact hp.2.2.1) (λ i f hi hf=>absurd ⟨i,f,hi,hf⟩ hx);rw[<-e];have hok:=h1.calm.clean.ok p hp.1 hp.2.1;have hl:=h1.calm.clean.fit.len;have hlt:=hp.2.1;unfold jX;rw[if_pos hok,Be,zd,LU (by omega)]
def rX(l1:List KV)(X:List HT)(F:Nat->List UInt8)(key:UInt64)(n:Nat):Prop:=
 (F key.toNat=[]/\n=0/\∀y∈l1,y.1≠key)\/∃(v:UInt64) (t:HT),(key,v)∈l1/\t∈X/\v.toNat=bK t/\t.s=F key.toNat/\n=bK t/\F key.toNat≠[]
theorem TH.ways(th:TH l1 l2 (qO X) F G)(hr:kQ l1)(key:UInt64) :
  (F key.toNat=[]/\iF l1 key=none/\∀y∈l1,y.1≠key)\/∃(v:UInt64) (t:HT),(key,v)∈l1/\iF l1 key=some (key,v)/\t∈X/\v.toNat=bK t/\t.s=F key.toNat/\F key.toNat≠[]:=by
 by_cases h:F key.toNat=[]
 ·have hn:∀y∈l1,y.1≠key:=λ y hy e=>(th.one.some_ y hy).1 (by rw[e];exact h);exact .inl ⟨h,xu3 hn,hn⟩
 obtain⟨y,hy,e⟩:=th.one.all _ key.toNat_lt h;have e':y.1=key:=mJ.1 e;obtain⟨h1,h2,_⟩:=th.one.some_ y hy;obtain⟨t,ht,et⟩:=bQ.1 h2;have e3:=(Prod.mk.inj et);have hy2:(key,y.2)=y:=by rw[<-e']
 refine .inr ⟨y.2,t,hy2▸hy,?_,ht,e3.1.symm,by rw[e3.2,e],h⟩;rw[hy2,<-e'];exact xxy hr hy
theorem Pt(h:LZ E W P D Dp T H k A r1 root)(m:DM A ex Ec r1 r2 root l1 l2 dw ps2 pg rp L X)(th:TH l1 l2 (qO X) F G)(key:UInt64)(hk:k+((F key.toNat).length+100)<900000000) :
  Calls Tryz.prog 38 #[.pointer Dp,.pointer T,.int .u64 key.toNat] W λ e w'=>∃n:Nat,e= .returned (.tuple #[.string (str (F key.toNat)),.int .u64 (n:Nat),.int .i64 0])/\rX l1 X F key n/\PZ E w' P D A (k+((F key.toNat).length+100))/\Kept E W w':=by
 have HG:=zH (xm2 h.tree (by omega) m.t1 m.good key);rcases TH.ways th m.t1.rise key with⟨hF,hv,hn⟩|⟨v,t,hm,hv,ht,hid,hts,hne⟩
 ·have HN:=zH (show rX l1 X F key 0 from .inl ⟨hF,rfl,hn⟩);rw[hv]at HG;rw[hF]at hk ⊢;clear h m th hF hv hn
  go_enter Tryz.func38,Tryz.ntmps38
  go_wp2_with fail
  refine HG.out.mono ?_;rintro e w1 ⟨rfl,h1,k1⟩;have HX:=zH (zA h1.pz k1);clear HG h1 k1;unfold Pv;go_wp2
  go_ret3
  exact⟨0,rfl,HN.out,HX.out.1.up (by omega),HX.out.2⟩
 have HN:=zH (show rX l1 X F key (bK t)from .inr ⟨v,t,hm,ht,hid,hts,rfl,hne⟩);rw[hv]at HG;have HL:=zH (zA h (zA m ht));rw[<-hts]at hk ⊢;clear h m th hv hm ht hne hts
 go_enter Tryz.func38,Tryz.ntmps38
 go_wp2_with fail
 refine HG.out.mono ?_;rintro e w1 ⟨rfl,h1,k1⟩;obtain⟨h,m,ht⟩:=HL.out;have h2:=h.of h1.pz k1;have IM:=zH (xz8 (h2.heap m) ht (by omega));have d4:=h2.hd;have HX:=zH k1;clear HG h1 k1 h m ht h2 HL;unfold Pv;simp only[hid]
 go_wp2_with fail
 refine IM.out.mono ?_;rintro e w2 ⟨rfl,p2,k2⟩;have HY:=zH (zA p2 (HX.out.trans k2));clear IM p2 k2 HX;go_wp2
 go_ret3
 exact⟨bK t,rfl,HN.out,HY.out.1.up (by omega),HY.out.2⟩
end
section
variable{E:Nat->Prop}{W W':World}{P D Dp T H k rt r1 r2 root pg n K:Nat}{A B:AP}{ex dw ps2 rp:List Nat}{Ec:Nat->List UInt8}{l1 l2:List KV}{L:Nat->List (List UInt8)}{X:List HT}{F G:Nat->List UInt8}{s:List UInt8}
def Low(A:AP)(n:Nat):Prop:=A.bu<=20\/500*A.bu<n+500
def vT(E:Nat->Prop)(W W':World)(P D K:Nat)(A:AP)(ex:List Nat)(Ec:Nat->List UInt8)(r1 r2 root:Nat)(l2:List KV)(ps2:List Nat)(X:List HT)(F G:Nat->List UInt8)(key:UInt64)(s:List UInt8):Prop:=
 ∃B l1 dw pg rp L X',DM B ex Ec r1 r2 root l1 l2 dw ps2 pg rp L X'/\TH l1 l2 (qO X') (bO F key.toNat s) G/\wt X'+wS (F key.toNat)=wt X+wS s/\A.Reach B/\PZ E W' P D B K/\Kept E W W'
def xk(E:Nat->Prop)(W W':World)(P D K:Nat)(A:AP)(ex dw ps2:List Nat)(root m:Nat)(n:Nat):Prop:=
 ∃B B1 pg rp L X',A.Reach B1/\HI (B1.fe (fo ex dw ps2)) root pg rp L X'/\wt X'<=m/\Low B1 n/\A.Reach B/\PZ E W' P D B K/\Kept E W W'
theorem xwp(h:F k=[]):bO F k []=F:=by
 funext j
 unfold DP.bO
 split
 ·rename_i e;rw[e];exact h.symm
 rfl
theorem Pw(t:HT)(X:List HT):qO (t::X)=(bK t,t.s)::qO X:=rfl
theorem Uq{A:Pg}{t:HT}(h:HI A root pg rp L (t::X)){v:UInt64}(hv:v.toNat=bK t):∀u∈qO X,u.1≠v.toNat:=λ u hu=>by
 obtain⟨x,hx,rfl⟩:=bQ.1 hu;rw[hv];exact h.E5 x hx
theorem Mm{n:Nat}(h:n<2^64):∃v:UInt64,v.toNat=n:=⟨UInt64.ofNat n,by rw[UInt64.toNat_ofNat'];exact wV h⟩
theorem Px(h:s≠[]):s.isEmpty=false:=by cases s with
 | nil=>exact absurd rfl h
 | cons a b=>rfl
theorem xnk(W:World)(p t kv:Value) :
  Calls Tryz.prog 43 #[p,t,kv,.int .u64 0,.string (str [])] W λ e w'=>e= .returned (.int .i64 0)/\w'=W:=by
 go_enter Tryz.func43,Tryz.ntmps43
 go_wp2;go_ret
 exact⟨rfl,rfl⟩
theorem xnl(h:LZ E W P D Dp T H k A r1 root)(m:DM A ex Ec r1 r2 root l1 l2 dw ps2 pg rp L X)(th:TH l1 l2 (qO X) F G){key v:UInt64}{t:HT}(hm:(key,v)∈l1)(ht:t∈X)(hv:v.toNat=bK t)(hts:t.s=F key.toNat)(hk:k+(t.s.length+2200)<900000000) :
  Calls Tryz.prog 43 #[.pointer Dp,.pointer T,.int .u64 key.toNat,.int .u64 (bK t:Nat),.string (str [])] W λ e w'=>e= .returned (.int .i64 0)/\vT E W w' P D (k+(t.s.length+2200)) A ex Ec r1 r2 root l2 ps2 X F G key []:=by
 have hpos:=(m.ol ht).1;have HD:=zH (xk6 h.tree (by omega) m.t1 m.good (λ p hp=>h.pz.dR hp) key);have HL:=zH (zA h (zA m (zA th (zA hm (zA ht (zA hv hts))))));clear h m th hm ht hts;have hp1:¬((bK t:Nat):Int)=0:=by omega
 have hp2:(((bK t:Nat):Int)==0)=false:=by simp;omega
 go_enter Tryz.func43,Tryz.ntmps43
 go_wp2_with fail
 refine HD.out.mono ?_;rintro e w1 ⟨rfl,B,hB,h1,k1⟩;obtain⟨h,m,th,hm,ht,hv,hts⟩:=HL.out;obtain⟨ps,mB,rB⟩:=m.drop hB;have h2:=h.of h1.pz k1;obtain⟨a,b,rfl⟩:=List.append_of_mem ht;have hp:(a++t::b).Perm (t::(a++b)):=List.perm_middle;have mC:=mB.perm hp;have Ur:=zH (Mo (h2.heap mC) (by omega));have d4:=h2.hd;have HX:=zH (zA mC (zA rB (zA k1 (zA (TH.perm th (hp.map _)) (zA (Uo hp) (zA h2.mh h2.md))))));clear HD h1 k1 h m th hm ht h2 mB mC rB hB hts
 go_wp2_with fail
 refine Ur.out.mono ?_;rintro e w2 ⟨C,rp',L',rfl,hz,rC,k2⟩;have HY:=zH (zA hz (zA rC k2));clear Ur hz rC k2;go_wp2;go_ret;obtain⟨hz,rC,k2⟩:=HY.out;obtain⟨mC,rB,k1,IP,hw,_,_⟩:=HX.out;obtain⟨_,_,_,hm,_,hv,hts⟩:=HL.out;refine⟨rfl,C,_,ps,_,rp',L',a++b,mC.heap rC hz.hi hz.far hz.few,?_,?_,rB.trans rC,hz.pz.up (by omega),k1.trans k2⟩
 ·have IQ:TH l1 l2 ((v.toNat,t.s)::qO (a++b)) F G:=by rw[hv];exact IP
  exact TH.drop IQ hm
 rw[hw,yl,hts,Di (show F key.toNat≠[]from(IP.one.some_ _ hm).1)];show _=_+0;omega
theorem xq0(h:LZ E W P D Dp T H k A r1 root)(m:DM A ex Ec r1 r2 root l1 l2 dw ps2 pg rp L X)(th:TH l1 l2 (qO X) F G){key:UInt64}(hF:F key.toNat=[])(hs:s≠[])(hs4:s.length<=400000)(hX:X.length<1000000)(hk:k+(s.length+2200)<900000000) :
  Calls Tryz.prog 43 #[.pointer Dp,.pointer T,.int .u64 key.toNat,.int .u64 0,.string (str s)] W λ e w'=>(e= .returned (.int .i64 0)/\vT E W w' P D (k+(s.length+2200)) A ex Ec r1 r2 root l2 ps2 X F G key s)\/(e= .returned (.int .i64 6)/\xk E W w' P D (k+(s.length+2200)) A ex dw ps2 root (wt X+wS s) s.length):=by
 have hie:=Px hs;have HP:=zH (Mq (s:=s) (h.heap m) (by omega) hs4 hX);have d4:=h.hd;have HL:=zH (zA h (zA m (zA th (zA hF hs))));clear h m th hF hs
 go_enter Tryz.func43,Tryz.ntmps43
 go_wp2_with fail
 refine HP.out.mono ?_;rintro e w1 (⟨t,B,xh,rp',L',rfl,hts,hz,rB,k1⟩|⟨B,rfl,rB,hro,p1,k1⟩)
 ·obtain⟨h,m,th,hF,hs⟩:=HL.out;have mB:=m.heap rB hz.hi hz.far hz.few;obtain⟨hpos,h64⟩:=mB.ol (aT ..);obtain⟨v,hv⟩:=Mm h64;have h2:=h.of hz.pz k1;have HT:=zH (Us h2.tree (by omega) mB.t1 mB.good (λ p hp=>hz.pz.dR hp) key v);rw[hv]at HT;have hfr:=Uq mB.hi hv;have HX:=zH (zA mB (zA rB (zA k1 (zA hv (zA hfr hts)))));clear HP h m th hF hs mB rB hz h2 hv hfr k1 hts;have hp1:¬((bK t:Nat):Int)=0:=by omega
  have hp2:(((bK t:Nat):Int)==0)=false:=by simp;omega
  go_wp2_with fail
  refine HT.out.mono ?_;rintro e w2 ⟨C,er,kk,rfl,Bz,h3,hkk,k2⟩;have HY:=zH (zA Bz (zA h3 k2));clear HT Bz h3 k2;go_wp2;go_ret;obtain⟨h,m,th,hF,hs⟩:=HL.out;obtain⟨mB,rB,k1,hv,hfr,hts⟩:=HX.out;obtain⟨Bz,h3,k2⟩:=HY.out;rcases Bz with⟨rfl,hC⟩|⟨rfl,rC,hlo⟩
  ·obtain⟨ps,mC,rC⟩:=mB.put hC;refine .inl ⟨rfl,C,_,ps,_,_,_,_,mC,?_,?_,rB.trans rC,h3.pz.up (by omega),k1.trans k2⟩
   ·have:=TH.put (k:=key) (v:=v) (s:=s) th hs (by omega) hF hfr;rw[Pw,hts,<-hv];exact this
   rw[yl,hF,hts,Di hs];show _+0=_;omega
  exact .inr ⟨rfl,C,B,_,_,_,_,rB,mB.hi,by rw[yl,hts,Di hs];omega,.inl hlo,rB.trans rC,h3.pz.up (by omega),k1.trans k2⟩
 have HX:=zH (zA rB (zA hro (zA p1 k1)));clear HP rB hro p1 k1;go_wp2;go_ret;obtain⟨rB,hro,p1,k1⟩:=HX.out;exact .inr ⟨rfl,B,A,_,_,_,_,AP.Reach.refl _,HL.out.2.1.hi,by omega,.inr hro,rB,p1.up (by omega),k1⟩
theorem xq1(h:LZ E W P D Dp T H k A r1 root)(m:DM A ex Ec r1 r2 root l1 l2 dw ps2 pg rp L X)(th:TH l1 l2 (qO X) F G){key v:UInt64}{t:HT}(hm:(key,v)∈l1)(ht:t∈X)(hv:v.toNat=bK t)(hts:t.s=F key.toNat)(hs:s≠[])(hs4:s.length<=400000)(hk:k+(t.s.length+s.length+2200)<900000000) :
  Calls Tryz.prog 43 #[.pointer Dp,.pointer T,.int .u64 key.toNat,.int .u64 (bK t:Nat),.string (str s)] W λ e w'=>(e= .returned (.int .i64 0)/\vT E W w' P D (k+(t.s.length+s.length+2200)) A ex Ec r1 r2 root l2 ps2 X F G key s)\/(e= .returned (.int .i64 6)/\xk E W w' P D (k+(t.s.length+s.length+2200)) A ex dw ps2 root (wt X+wS s) s.length):=by
 have hie:=Px hs;have hpos:=(m.ol ht).1;obtain⟨a,b,hab⟩:=List.append_of_mem ht;have hp:X.Perm (t::(a++b)):=by rw[hab];exact List.perm_middle
 have m2:=m.perm hp;have IP:=TH.perm th (hp.map λ t=>(bK t,t.s));have hw:=Uo hp;have HP:=zH (xxe (s:=s) (h.heap m2) (by omega) hs4);have d4:=h.hd;obtain⟨n,hn⟩:∃n,n=bK t:=⟨_,rfl⟩;rw[<-hn]at hpos HP ⊢;have HL:=zH (zA h (zA m2 (zA IP (zA hm (zA hv (zA hts (zA hs (zA hw hn))))))));clear h m th hm ht hv hts hs m2 IP hw hab hp hn;have hp1:¬(n:Int)=0:=by omega
 have hp2:((n:Int)==0)=false:=by simp;omega
 go_enter Tryz.func43,Tryz.ntmps43
 go_wp2_with fail
 refine HP.out.mono ?_;rintro e w1 (⟨u,B,xh,rp',L',rfl,qb,hz,rB,k1⟩|⟨B1,B,Ut,Uu,L1,rfl,hi1,Mr,rB,hro,p1,k1⟩)
 ·obtain⟨h,m,th,hm,hv,hts,hs,hw,hn⟩:=HL.out;have mB:=m.heap rB hz.hi hz.far hz.few;have h64:=(mB.ol (aT ..)).2;by_cases hnu:bK u=n
  ·have hq1:((bK u:Nat):Int)=(n:Int):=by omega
   have HX:=zH (zA mB (zA rB (zA k1 (zA qb (zA hnu hz.pz)))));clear HP h m th hm hv hts hs mB rB hz k1 qb hw hn;rw[hnu];clear hnu hq1;go_wp2;go_ret;obtain⟨h,m,th,hm,hv,hts,hs,hw,hn⟩:=HL.out;obtain⟨mB,rB,k1,qb,hnu,pz⟩:=HX.out;refine .inl ⟨rfl,B,_,dw,_,_,_,_,mB,?_,?_,rB,pz.up (by omega),k1⟩
   ·have IQ:TH l1 l2 ((v.toNat,t.s)::qO (a++b)) F G:=by rw[hv];exact th
    have:=TH.stay IQ mB.t1.rise hm hs;rw[Pw,qb,hnu,hn,<-hv];exact this
   rw[yl,hw,yl,qb,hts,Di hs,Di (show F key.toNat≠[]from(th.one.some_ _ hm).1)];omega
  obtain⟨x,hx⟩:=Mm h64;have h2:=h.of hz.pz k1;have HT:=zH (Us h2.tree (by omega) mB.t1 mB.good (λ p hp=>hz.pz.dR hp) key x);rw[hx]at HT;have hfr:=Uq mB.hi hx;have hxp:x.toNat≠0:=by have:=(mB.ol (aT ..)).1;omega
  have HX:=zH (zA mB (zA rB (zA k1 (zA qb (zA hx (zA hfr hxp))))));clear HP h m th hm hv hts hs mB rB hz k1 qb hw hn h2 hx hfr hxp;have hq1:¬((bK u:Nat):Int)=(n:Int):=by omega
  have hq2:(((bK u:Nat):Int)==(n:Int))=false:=by simp;omega
  go_wp2_with fail
  refine HT.out.mono ?_;rintro e w2 ⟨C,er,kk,rfl,Bz,h3,hkk,k2⟩;have HY:=zH (zA Bz (zA h3 k2));clear HT Bz h3 k2;go_wp2;go_ret;obtain⟨h,m,th,hm,hv,hts,hs,hw,hn⟩:=HL.out;obtain⟨mB,rB,k1,qb,hx,hfr,hxp⟩:=HX.out;obtain⟨Bz,h3,k2⟩:=HY.out;rcases Bz with⟨rfl,hC⟩|⟨rfl,rC,hlo⟩
  ·obtain⟨ps,mC,rC⟩:=mB.put hC;refine .inl ⟨rfl,C,_,ps,_,_,_,_,mC,?_,?_,rB.trans rC,h3.pz.up (by omega),k1.trans k2⟩
   ·have IQ:TH l1 l2 ((v.toNat,t.s)::qO (a++b)) F G:=by rw[hv];exact th
    have:=TH.set (s:=s) IQ hm hs hxp hfr;rw[Pw,qb,<-hx];exact this
   rw[yl,hw,yl,qb,hts,Di hs,Di (show F key.toNat≠[]from(th.one.some_ _ hm).1)];omega
  exact .inr ⟨rfl,C,B,_,_,_,_,rB,mB.hi,by rw[yl,hw,yl,qb,Di hs];omega,.inl hlo,rB.trans rC,h3.pz.up (by omega),k1.trans k2⟩
 have HX:=zH (zA hi1 (zA Mr (zA rB (zA hro (zA p1 k1)))));clear HP hi1 Mr rB hro p1 k1;go_wp2;go_ret;obtain⟨hi1,Mr,rB,hro,p1,k1⟩:=HX.out;have hw:=HL.out.2.2.2.2.2.2.2.1;exact .inr ⟨rfl,B,B1,_,_,_,_,Mr,hi1,by rw[hw,yl];omega,.inr hro,rB,p1.up (by omega),k1⟩
end
section
variable{E:Nat->Prop}{W W':World}{P D Dp T H k rt r1 r2 root pg n K:Nat}{A B:AP}{ex dw ps2 rp:List Nat}{Ec:Nat->List UInt8}{l1 l2:List KV}{L:Nat->List (List UInt8)}{X:List HT}{F G:Nat->List UInt8}{s:List UInt8}
theorem vT.up{J:Nat}{key:UInt64}(h:vT E W W' P D J A ex Ec r1 r2 root l2 ps2 X F G key s)(hk:J<=K):vT E W W' P D K A ex Ec r1 r2 root l2 ps2 X F G key s:=by
 obtain⟨B,l,ps,q,rp,L,Y,h1,h2,h3,h4,h5,h6⟩:=h;exact⟨B,l,ps,q,rp,L,Y,h1,h2,h3,h4,h5.up hk,h6⟩
theorem xk.up{J m:Nat}(h:xk E W W' P D J A ex dw ps2 root m n)(hk:J<=K):xk E W W' P D K A ex dw ps2 root m n:=by
 obtain⟨B,B1,q,rp,L,Y,h1,h2,h3,h4,h5,h6,h7⟩:=h;exact⟨B,B1,q,rp,L,Y,h1,h2,h3,h4,h5,h6.up hk,h7⟩
theorem Uv(h:LZ E W P D Dp T H k A r1 root)(m:DM A ex Ec r1 r2 root l1 l2 dw ps2 pg rp L X)(th:TH l1 l2 (qO X) F G){key:UInt64}(hid:rX l1 X F key n)(hs4:s.length<=400000)(hX:X.length<1000000)(hk:k+((F key.toNat).length+s.length+2200)<900000000) :
  Calls Tryz.prog 43 #[.pointer Dp,.pointer T,.int .u64 key.toNat,.int .u64 (n:Nat),.string (str s)] W λ e w'=>(e= .returned (.int .i64 0)/\vT E W w' P D (k+((F key.toNat).length+s.length+2200)) A ex Ec r1 r2 root l2 ps2 X F G key s)\/(e= .returned (.int .i64 6)/\xk E W w' P D (k+((F key.toNat).length+s.length+2200)) A ex dw ps2 root (wt X+wS s) s.length):=by
 rcases hid with⟨hF,rfl,hn⟩|⟨v,t,hm,ht,hv,hts,rfl,hne⟩
 ·by_cases hs:s=[]
  ·subst hs;refine(xnk W _ _ _).mono ?_;rintro e w' ⟨rfl,rfl⟩;exact .inl ⟨rfl,A,l1,dw,pg,rp,L,X,m,by rw[xwp hF];exact th,by rw[hF],AP.Reach.refl _,h.pz.up (by omega),Kept.refl _ _⟩
  refine(xq0 h m th hF hs hs4 hX (by omega)).mono ?_;rintro e w' (⟨a,b⟩|⟨a,b⟩)
  ·exact .inl ⟨a,b.up (by omega)⟩
  exact .inr ⟨a,b.up (by omega)⟩
 rw[<-hts]at hk ⊢;by_cases hs:s=[]
 ·subst hs;refine(xnl h m th hm ht hv hts (by omega)).mono ?_;rintro e w' ⟨a,b⟩;exact .inl ⟨a,b.up (by omega)⟩
 refine(xq1 h m th hm ht hv hts hs hs4 (by omega)).mono ?_;rintro e w' (⟨a,b⟩|⟨a,b⟩)
 ·exact .inl ⟨a,b.up (by omega)⟩
 exact .inr ⟨a,b.up (by omega)⟩
end
open Go.RowKit Go.BigFrame
open UK (str aF nth Only Row ay)
open DP (Rc dF bf lg dU fC)
theorem IV{k:Nat}{l:List Rc}:∀(a b:List dF),(∀x∈a,x.1<k)->bf k l (a++b)=a++bf k l b
 | [],_,_=>rfl
 | x::a,b,h=>by
  have ih:=IV (k:=k) (l:=l) a b (λ y hy=>h y (cu _ hy));rw[lV,lV,<-ih];show DP.bf k l (x::(a++b))=_;rw[DP.bf,if_pos (h x (aT ..))]
theorem Uz{k:Nat}{l l0:List Rc}(b:List dF):bf k l ((k,l0)::b)=if l=[] then b else(k,l)::b:=by
 rw[DP.bf,if_neg (lu _),if_pos rfl]
section
variable{W w':World}{N c g' c' i:Nat}{ao:Option Addr}{es es':List EM}{k:UInt64}
theorem EX.turn(h:EX N W ao c es)(x:EM)(hx:RX W x.ro x.rc x.l)(hn:∀b,aK x.ro b->N<=b/\¬aK ao b)(hes:∀y∈es',y∈es\/y=x)(r:Row w' g' (2*c') (fl es'))(o:Only g' W w')(hg:aK ao g'\/W.heap.size<=g')(hN:N<=W.heap.size):EX N w' g' c' es':=by
 have key:∀y∈es',RX W y.ro y.rc y.l/\∀b,aK y.ro b->N<=b/\¬aK ao b:=λ y hy=>by
  rcases hes y hy with hy|rfl
  ·exact⟨h.sub y hy,h.qK y hy⟩
  exact⟨hx,hn⟩
 have far:∀y∈es',∀b,aK y.ro b->b≠g':=λ y hy b hb e=>by
  subst e;rcases hg with hg|hg
  ·exact((key y hy).2 b hb).2 hg
  have:=(key y hy).1.lt hb;omega
 refine⟨.inr ⟨g',rfl,r⟩,λ y hy=>(key y hy).1.ae o.size (λ b hb=>o.block b ((key y hy).1.lt hb) (far y hy b hb)),λ b hb=>?_,λ y hy b hb=>⟨((key y hy).2 b hb).1,λ e=>far y hy b hb (gz e)⟩⟩;have e:=gz hb;subst e;rcases hg with hg|hg
 ·exact h.new _ hg
 omega
theorem U0{α:Type}{l:List α}{i:Nat}{x:α}(h:l[i]?=some x):l=l.take i++x::l.drop (i+1):=by
 obtain⟨h1,h2⟩:=dE.1 h;rw[<-h2,<-lm h1,iq]
theorem iO.ahead(h:iO es k i):∀x∈(es.take i).map iI,x.1<k.toNat:=λ x hx=>by
 obtain⟨y,hy,rfl⟩:=bQ.1 hx;obtain⟨j,hj,e⟩:=gB hy;rw[zt]at hj;have hji:j<i:=by omega
 refine h.below j y hji ?_;rw[<-e,List.getElem_take,bL]
theorem P7(h:tJ es k i=true):∃x,es[i]?=some x/\x.k=k:=by
 unfold tJ at h
 cases hx:es[i]? with
 | none=>rw[hx]at h;cases h
 | some x=>rw[hx]at h;exact⟨x,rfl,of_decide_eq_true h⟩
theorem Dj.of(hu:lg (es.map iI)):Dj es:=λ a b x y hab hx hy=>by
 unfold DP.lg at hu;rw[List.pairwise_map]at hu;have h1:=dE.1 hx;have h2:=dE.1 hy;have:=List.pairwise_iff_getElem.1 hu a b h1.1 h2.1 hab;rw[h1.2,h2.2]at this;exact this
theorem iO.behind(h:iO es k i)(hs:Dj es)(hn:tJ es k i=false):∀x∈(es.drop i).map iI,k.toNat<x.1:=λ x hx=>by
 obtain⟨y,hy,rfl⟩:=bQ.1 hx;obtain⟨j,hj,e⟩:=gB hy;rw[zd]at hj;rw[List.getElem_drop]at e;have hy2:es[i+j]?=some y:=by rw[<-e,bL]
 have h1:=h.above (i+j) y (by omega) hy2
 have h2:y.k.toNat≠k.toNat:=λ e2=>by
  by_cases hj0:j=0
  ·subst hj0;rw[jN]at hy2;unfold tJ at hn;rw[hy2]at hn;exact absurd (mJ.1 e2) (of_decide_eq_false hn)
  have hil:i<es.length:=by omega
  have h3:=hs i (i+j) es[i] y (by omega) (bL hil) hy2;have h4:=h.above i es[i] (aO _) (bL hil);omega
 show k.toNat<y.k.toNat;omega
theorem xwr(h:iO es k i)(he:tJ es k i=true):(es.take i++es.drop (i+1)).map iI=bf k.toNat [] (es.map iI):=by
 obtain⟨x,hx,hk⟩:=P7 he
 have h2:es.map iI=(es.take i).map iI++(k.toNat,x.l)::(es.drop (i+1)).map iI:=by
  conv=>lhs;rw[U0 hx]
  rw[dO,je,<-hk];rfl
 rw[h2,IV _ _ h.ahead,Uz,if_pos rfl,dO]
theorem xzv(h:iO es k i)(he:tJ es k i=true){x:EM}(hx:es[i]?=some x){ro:Option Addr}{rc:Nat}{l:List Rc}(hl:l≠[]):(es.set i ⟨x.k,ro,rc,l⟩).map iI=bf k.toNat l (es.map iI):=by
 obtain⟨y,hy,hk⟩:=P7 he;obtain rfl:y=x:=aZ (hy.symm.trans hx);have hil:=(dE.1 hx).1
 have h2:es.map iI=(es.take i).map iI++(k.toNat,y.l)::(es.drop (i+1)).map iI:=by
  conv=>lhs;rw[U0 hx]
  rw[dO,je,<-hk];rfl
 rw[h2,IV _ _ h.ahead,Uz,if_neg hl,List.set_eq_take_append_cons_drop,if_pos hil,dO,je,<-hk];rfl
theorem xzw(h:iO es k i)(hs:Dj es)(he:tJ es k i=false){ro:Option Addr}{rc:Nat}{l:List Rc}(hl:l≠[]):(es.take i++(⟨k,ro,rc,l⟩:EM)::es.drop i).map iI=bf k.toNat l (es.map iI):=by
 have h2:es.map iI=(es.take i).map iI++(es.drop i).map iI:=by rw[<-dO,iq]
 rw[h2,IV _ _ h.ahead,DP.iZ hl (h.behind hs he),dO,je];rfl
theorem xws(h:iO es k i)(hs:Dj es)(he:tJ es k i=false):es.map iI=bf k.toNat [] (es.map iI):=by
 have h2:es.map iI=(es.take i).map iI++(es.drop i).map iI:=by rw[<-dO,iq]
 rw[h2,IV _ _ h.ahead,DP.fQ (h.behind hs he)]
end
section
variable{E:Nat->Prop}{W W' W0:World}{P D root m n K r1 r2:Nat}{A:AP}{ex dw ps2:List Nat}{Ec:Nat->List UInt8}{l2:List KV}{X:List HT}{F G:Nat->List UInt8}{s:List UInt8}{key:UInt64}
theorem vT.after(h:vT E W W' P D K A ex Ec r1 r2 root l2 ps2 X F G key s)(hk:Kept E W0 W):vT E W0 W' P D K A ex Ec r1 r2 root l2 ps2 X F G key s:=by
 obtain⟨B,l,ps,q,rp,L,Y,h1,h2,h3,h4,h5,h6⟩:=h;exact⟨B,l,ps,q,rp,L,Y,h1,h2,h3,h4,h5,hk.trans h6⟩
theorem xk.after(h:xk E W W' P D K A ex dw ps2 root m n)(hk:Kept E W0 W):xk E W0 W' P D K A ex dw ps2 root m n:=by
 obtain⟨B,B1,q,rp,L,Y,h1,h2,h3,h4,h5,h6,h7⟩:=h;exact⟨B,B1,q,rp,L,Y,h1,h2,h3,h4,h5,h6,hk.trans h7⟩
end
open DP (Rc dF bf lg dU fC TH bO)
theorem U1(W:World)(L:List dF)(hok:dU L)(aD:(fC L).length<1000000) :
  Calls Tryz.prog 47 #[.string (str (fC L))] W λ e w'=>Ew W w' L e:=by
 by_cases h:L=[]
 ·subst h;exact xlq W
 exact xls W L h hok aD
section
variable{E:Nat->Prop}{W W' w1 w4:World}{P D Dp T H k k1 rt r1 r2 root pg n K N c:Nat}{A B:AP}{ex dw ps2 rp:List Nat}{Ec:Nat->List UInt8}{l1 l2:List KV}{L:Nat->List (List UInt8)}{X:List HT}{F G:Nat->List UInt8}{b:UInt64}{ao:Option Addr}{es:List EM}{Q:List dF}
def qQ(E:Nat->Prop)(W W':World)(P D K:Nat)(A:AP)(ex dw:List Nat)(Ec:Nat->List UInt8)(r1 r2 root:Nat)(l2:List KV)(ps2:List Nat)(X:List HT)(F G:Nat->List UInt8)(b:UInt64)(s:List UInt8)(e:Ending):Prop:=
 (e= .returned (.int .i64 0)/\vT E W W' P D K A ex Ec r1 r2 root l2 ps2 X F G b s)\/(e= .returned (.int .i64 6)/\xk E W W' P D K A ex dw ps2 root (wt X+wS s) s.length)
theorem xwt(h1:LZ E w1 P D Dp T H k1 A r1 root)(hd:w1.cell? (Dp,3)=some (.pointer T))(m:DM A ex Ec r1 r2 root l1 l2 dw ps2 pg rp L X)(th:TH l1 l2 (qO X) F G)(hid:rX l1 X F b n)(hb4:Below w1 w1 w4)(hE:EX N w4 ao c es)(hmap:es.map iI=Q)(hok:dU Q)(aD:(fC Q).length<=400000)(hX:X.length<1000000)(hk:k1+((F b.toNat).length+(fC Q).length+2200)<900000000)(k0:Kept E W w1) :
  w4.drew.cell? (Dp,3)=some (.pointer T)/\Calls Tryz.prog 101 #[.slice ao es.length c] w4.drew λ e w5=>e= .returned (.string (str (fC Q)))/\w5.cell? (Dp,3)=some (.pointer T) /\
   Calls Tryz.prog 43 #[.pointer Dp,.pointer T,.int .u64 b.toNat,.int .u64 (n:Nat),.string (str (fC Q))] w5 λ e w'=>qQ E W w' P D (k1+((F b.toNat).length+(fC Q).length+2200)) A ex dw Ec r1 r2 root l2 ps2 X F G b (fC Q) e:=by
 subst hmap;have hb5:Below w1 w1 w4.drew:=hb4.trans ((aV _ _).drew)
 have hat:∀w,Kept E w1 w->w.cell? (Dp,3)=some (.pointer T):=λ w kw=>by
  rw[<-hd];exact gq (kw.block Dp h1.md)
 refine⟨hat _ (h1.pz.kept hb5),(xnh (hE.next (aV _ _).drew) hok (by omega)).mono ?_⟩;rintro e w5 ⟨rfl,hb⟩;have hb6:Below w1 w1 w5:=hb5.trans (hb.mono hb5.size);have k6:=h1.pz.kept hb6;have h5:=h1.of (h1.pz.next hb6) k6;refine⟨rfl,hat _ k6,(Uv h5 m th hid aD hX hk).mono ?_⟩;rintro e w' (⟨a,s⟩|⟨a,s⟩)
 ·exact .inl ⟨a,s.after (k0.trans k6)⟩
 exact .inr ⟨a,s.after (k0.trans k6)⟩
end
end Go.Proofs.YtgpmiliahonaoaaGreatDoor
