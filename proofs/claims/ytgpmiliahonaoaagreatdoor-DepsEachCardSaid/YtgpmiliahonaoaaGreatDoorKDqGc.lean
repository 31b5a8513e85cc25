/- Facts on texts and trees on pages. -/
import Derived.Test.YtgpmiliahonaoaaGreatDoorKDpOc
import Derived.Lib.SlicesDelete
set_option maxRecDepth 100000
set_option maxHeartbeats 8000000
set_option linter.unusedSimpArgs false
namespace Go.Proofs.YtgpmiliahonaoaaGreatDoor
open Go.RowKit
open UK (str aF nth Only Row ay)
open DP (bn pG jH Rc)
open Go.BigFrame
def CZ(q:Rc):Nat->Array Value
 | 0=> #[.int .i64 0,.int .i64 0,.int .i64 0,.int .i64 0]
 | 1=> #[.int .i64 q.r,.int .i64 0,.int .i64 0,.int .i64 0]
 | 2=> #[.int .i64 q.r,.int .i64 q.c,.int .i64 0,.int .i64 0]
 | 3=> #[.int .i64 q.r,.int .i64 q.c,.int .i64 q.h,.int .i64 0]
 | _=> #[.int .i64 q.r,.int .i64 q.c,.int .i64 q.h,.int .i64 q.w]
theorem xqw{q:Rc}{k z:Nat}(hk:k<4)(hz:(fI q)[k]?=some z):(CZ q k).set! k (.int .i64 z)=CZ q (k+1):=by
 rcases(show k=0\/k=1\/k=2\/k=3 by omega)with rfl|rfl|rfl|rfl<;>(simp[fI]at hz;subst hz;simp[CZ])
theorem xlp{q:Rc}{k:Nat}(hk:k<4):(CZ q k)[k]?=some (.int .i64 0):=by
 rcases(show k=0\/k=1\/k=2\/k=3 by omega)with rfl|rfl|rfl|rfl<;>rfl
section
variable{W W':World}{r at_:Nat}{s rest:List UInt8}{l:List Rc}
def yc(W w:World)(r:Nat)(s rest:List UInt8)(l:List Rc)(i:Nat)(ao:Option Addr)(c:Nat):Prop:=
 ∃at_,ay w r (kR s at_ 0)/\s.drop at_=(l.drop i).flatMap pG++rest/\RX w ao c (l.take i)/\(∀b,aK ao b->W.heap.size<=b)/\Kept (λ j=>j<W.heap.size/\j≠r) W w
def OZ(W w:World)(r:Nat)(s rest:List UInt8)(l:List Rc)(e:Ending):Prop:=∃ao c,e= .returned (.slice ao l.length c)/\yc W w r s rest l l.length ao c
theorem TU(h:ay W r (kR s at_ 0))(hs:s.drop at_=jH l++rest)(hl:s.length<1000000)(hn:l.length<=700)(hok:∀q∈l,q.ok) :
  Calls Tryz.prog 39 #[.pointer r] W λ e w'=>OZ W w' r s rest l e:=by
 unfold jH at hs;rw[cO]at hs;have HC:=zH (IE h l.length (by omega) _ hs hl)
 have hs2:s.drop (at_+(bn l.length).length)=l.flatMap pG++rest:=by
  rw[<-jV,hs,List.drop_left]
 have HK:=zH (zA hok (zA hl (zA h.lt hs2)));have q0:¬(700:Int)<l.length:=by omega
 clear h hs hok hs2 hl
 go_enter Tryz.func39,Tryz.ntmps39
 go_wp2_with fail
 refine HC.out.mono ?_;rintro e w1 ⟨rfl,hb,ho⟩;have HB:=zH (show yc W w1 r s rest l 0 none 0 from⟨_,hb,by simpa using HK.out.2.2.2,.inl ⟨rfl,by simp,rfl⟩,λ b hb=>(by cases hb),⟨ho.os,ho.tape,ho.output,ho.size,λ j hj=>ho.block j hj.1 hj.2⟩⟩);clear hb ho HC
 go_wp2_with fail
 go_loopw [3,4] (λ v3 v4 wr=>∃(i d:Nat) (ao:Option Addr) (c:Nat),v3= .slice ao i c/\v4= .int .u64 d/\i+d=l.length/\yc W wr r s rest l i ao c) (λ _ v4 _=>(intOf v4).toNat)
 case atStart=>exact⟨0,l.length,none,0,rfl,by go_num,by omega,HB.out⟩
 clear HB;obtain⟨i,d,ao,c,rfl,rfl,hid,hI⟩:=hrel;obtain⟨at2,hb,hs,hr,ha,hkp⟩:=hI;obtain⟨hok,hl,OY,_⟩:=HK.out;have HE:=zH (xzr hb);by_cases hd:d=0
 ·subst hd;obtain rfl:i=l.length:=by omega
  have HX:=zH (show yc W wr r s rest l l.length ao c from⟨at2,hb,hs,hr,ha,hkp⟩);clear hb hs hr ha hkp hok hl HK;go_wp2;go_ret;exact⟨ao,c,rfl,HX.out⟩
 obtain⟨d,rfl⟩:∃d',d=d'+1:=⟨d-1,by omega⟩;have hlt:i<l.length:=by omega
 obtain⟨q,hq⟩:∃q,l[i]?=some q:=⟨_,bL hlt⟩;have hqo:=hok q (eZ hq);have Gt:l[i]=q:=aZ ((bL hlt).symm.trans hq);rw[lm hlt,Gt,iL,TQ,cO]at hs;have htk:l.take (i+1)=l.take i++[q]:=by rw[List.take_succ_eq_append_getElem hlt,Gt]
 have q1:(0:Int)<(d:Int)+1:=by omega
 have hbl:Below wr wr (wr.alloc (.cells (CZ q 0) 166)):=(aV _ _).alloc (aO _) _;have hbn:=ay.new wr (CZ q 0) 166;obtain⟨t,ht⟩:∃t,t=wr.heap.size:=⟨_,rfl⟩;have htr:t≠r:=by have:=hb.lt;omega
 have hbr:=hb.next hbl;have HX:=zH (zA hr (zA ha (zA hkp (zA htk hqo))));have HY:=zH (zA hbr (zA (ht▸hbn) (zA hs hbl)));clear hb hs hr ha hkp hok htk Gt hbl hbn hbr hqo
 go_wp2_with fail
 refine HE.out.mono ?_;rintro e w2 ⟨rfl,rfl⟩;obtain⟨wo,hwo⟩:∃wo,wo=w2:=⟨_,rfl⟩;subst hwo
 go_wp2_with fail
 go_loopw [19] (λ kv wr=>∃k at3:Nat,kv= .int .i64 k/\k<=4/\Hid (s.drop at3=((fI q).drop k).flatMap bn++((l.drop (i+1)).flatMap pG++rest)/\ay wr r (kR s at3 0)/\ay wr t (CZ q k)/\Kept (λ j=>j<wo.heap.size/\j≠r) wo wr)) (λ kv _=>5-(intOf kv).toNat)
 case atStart=>exact⟨0,at2,rfl,by omega,zH ⟨HY.out.2.2.1,HY.out.1,HY.out.2.1,Kept.of_below HY.out.2.2.2 (λ j hj=>hj.1)⟩⟩
 clear HY HE;obtain⟨k,at3,rfl,hk4,HI⟩:=hrel;obtain⟨hs,hb,hbt,hkq⟩:=HI.out;by_cases pY:k<4
 ·have hln:(fI q).length=4:=rfl;obtain⟨z,hz⟩:∃z,(fI q)[k]?=some z:=⟨_,bL (by rw[hln];exact pY)⟩
  have hz2:z<=3000:=by
   have:=HX.out.2.2.2.2;unfold Rc.ok at this;have hm:=eZ hz;simp only[fI,aN,List.not_mem_nil,or_false]at hm;omega
  have hgz:(fI q)[k]'(by rw[hln];exact pY)=z:=aZ ((bL (by rw[hln];exact pY)).symm.trans hz);have e9:(fI q).drop k=z::(fI q).drop (k+1):=by rw[lm (l:=fI q) (by rw[hln];exact pY),hgz]
  rw[e9,iL,cO]at hs;have HU:=zH (IE hb z (by omega) _ hs hl)
  have hs3:s.drop (at3+(bn z).length)=((fI q).drop (k+1)).flatMap bn++((l.drop (i+1)).flatMap pG++rest):=by
   rw[<-jV,hs,List.drop_left]
  have HZ:=zH (zA hbt (zA hkq hs3));have q4:(k:Int)<4:=by omega
  have q5:¬(3000:Int)<z:=by omega
  have q8:(if (3000:Int)<(z:Int) then(3000:Int) else(z:Int))=(z:Int):=if_neg q5;have q9:min (z:Int) 3000=(z:Int):=by omega
  have HS:=zH (xqw pY hz);have HT:=zH (xlp (q:=q) pY);clear hs hb hbt hkq HI hs3 hz hgz
  go_wp2_with fail
  refine HU.out.mono ?_;rintro e w4 ⟨rfl,hb4,Da⟩;have Bp:=HZ.out.1.only Da htr;have c1:w4.cell? (t,k)=some (.int .i64 0):=Bp.cell k _ HT.out;have f1:=Bp.free k;have Ev:=Bp.set k (.int .i64 z);rw[HS.out]at Ev;have o5:Only t w4 (w4.setCell (t,k) (.int .i64 z)):=(Only.refl t w4).set k _
  have HW:=zH (show ay (w4.setCell (t,k) (.int .i64 z)) r (kR s (at3+(bn z).length) 0)/\ay (w4.setCell (t,k) (.int .i64 z)) t (CZ q (k+1))/\Kept (λ j=>j<wo.heap.size/\j≠r) wo (w4.setCell (t,k) (.int .i64 z))from⟨hb4.only o5 htr.symm,Ev,HZ.out.2.1.trans ⟨o5.os.trans Da.os,o5.tape.trans Da.tape,o5.output.trans Da.output,aP Da.size o5.size,λ j hj=>by
   have hjw:=HZ.out.2.1.size;exact(o5.block j (by have:=Da.size;omega) (by omega)).trans (Da.block j (by omega) hj.2)⟩⟩)
  have wZ:=zH HZ.out.2.2;clear hb4 Da Bp Ev o5 HU HZ HS HT;rw[ht]at c1 f1 HW;go_wp2;go_roundw
  case rel=>exact⟨k+1,at3+(bn z).length,by go_num,by omega,zH ⟨wZ.out,HW.out.1,by rw[ht];exact HW.out.2.1,HW.out.2.2⟩⟩
  case measure=>simp only[intOf];omega
 obtain rfl:k=4:=by omega
 have hs4:s.drop at3=(l.drop (i+1)).flatMap pG++rest:=by simpa[fI]using hs
 have d0:wr.cell? wo.heap.size=some (.int .i64 q.r):=ht▸hbt.cell 0 _ rfl;have d1:wr.cell? (wo.heap.size,1)=some (.int .i64 q.c):=ht▸hbt.cell 1 _ rfl;have d2:wr.cell? (wo.heap.size,2)=some (.int .i64 q.h):=ht▸hbt.cell 2 _ rfl;have d3:wr.cell? (wo.heap.size,3)=some (.int .i64 q.w):=ht▸hbt.cell 3 _ rfl;obtain⟨hr,ha,hkp,htk,hqo⟩:=HX.out;have hsz:=hkp.size;have hr2:RX wr ao c (l.take i):=hr.ae hkq.size (λ b hb=>hkq.block b ⟨hr.lt hb,λ e=>by have:=ha b hb;omega⟩);obtain⟨g',c',w3,e1,r3,hg3,o3⟩:=hr2.push (by rw[zt];omega) q;rw[show(l.take i).length=i by rw[zt];omega]at e1;rw[<-htk]at r3
 have hg4:W.heap.size<=g':=by
  rcases hg3 with hg|hg
  ·exact ha g' hg
  have:=hkq.size;omega
 have HI2:=zH (show yc W w3 r s rest l (i+1) g' c' from⟨at3,hb.only o3 (by omega),hs4,r3,λ b hb=>by rw[gz hb];exact hg4,
  ⟨o3.os.trans (hkq.os.trans hkp.os),o3.tape.trans (hkq.tape.trans hkp.tape),o3.output.trans (hkq.output.trans hkp.output),aP hsz (aP hkq.size o3.size),λ j hj=>by
   have:=hkq.size;exact((o3.block j (by omega) (by omega)).trans (hkq.block j ⟨by omega,hj.2⟩)).trans (hkp.block j hj)⟩⟩)
 clear hs hb hbt hkq HI hr ha hkp htk hqo hr2 r3 o3 hg3 hs4
 go_wp2_with (at_builtin;refine UK.lH e1 rfl rfl rfl rfl rfl ?_)
 go_wp2;go_roundw
 case rel=>exact⟨i+1,d,_,c',by go_num,by go_num,by omega,HI2.out⟩
 case measure=>simp only[intOf];omega
end
open DP (bn pG jH pI fC Rc dF)
structure EM where
 k:UInt64
 ro:Option Addr
 rc:Nat
 l:List Rc
def jw(x:EM):List Value:=[.int .u64 (x.k.toNat:Int),.slice x.ro x.l.length x.rc]
theorem Gu(x:EM):(jw x).length=2:=rfl
theorem IG(x:EM):∀v∈jw x,v.oneCell'=true:=by
 intro v hv;simp only[jw,aN,List.not_mem_nil,or_false]at hv;rcases hv with rfl|rfl<;>rfl
def iI(x:EM):dF:=(x.k.toNat,x.l)
structure EX(N:Nat)(W:World)(ao:Option Addr)(c:Nat)(es:List EM):Prop where
 row:NX 2 jw W ao c es
 sub:∀x∈es,RX W x.ro x.rc x.l
 new:∀b,aK ao b->N<=b
 qK:∀x∈es,∀b,aK x.ro b->N<=b/\¬aK ao b
section
variable{N:Nat}{W W':World}{ao:Option Addr}{c:Nat}{es:List EM}{r at_:Nat}{s rest:List UInt8}
theorem EX.next(h:EX N W ao c es)(hb:Below W W W'):EX N W' ao c es:=
 ⟨h.row.ae hb.size (λ b hs=>hb.block b (h.row.lt hs)),λ x hx=>(h.sub x hx).ae hb.size (λ b hs=>hb.block b ((h.sub x hx).lt hs)),h.new,h.qK⟩
theorem EX.kept(h:EX N W ao c es)(hb:Kept (λ j=>j<W.heap.size/\N<=j) W W'):EX N W' ao c es:=
 ⟨h.row.ae hb.size (λ b hs=>hb.block b ⟨h.row.lt hs,h.new b hs⟩),λ x hx=>(h.sub x hx).ae hb.size (λ b hs=>hb.block b ⟨(h.sub x hx).lt hs,(h.qK x hx b hs).1⟩),h.new,h.qK⟩
theorem EX.less{M:Nat}(h:EX N W ao c es)(hm:M<=N):EX M W ao c es:=⟨h.row,h.sub,λ b hb=>aP hm (h.new b hb),λ x hx b hb=>⟨aP hm (h.qK x hx b hb).1,(h.qK x hx b hb).2⟩⟩
theorem EX.two(h:EX N W ao c es){j:Nat}{x:EM}(hj:es[j]?=some x):∃g,ao=some ⟨g,0,none⟩/\W.cell? ⟨g,j*2,none⟩=some (.int .u64 (x.k.toNat:Int))/\W.cell? ⟨g,j*2+1,none⟩=some (.slice x.ro x.l.length x.rc):=by
 obtain⟨g,e,hc⟩:=h.row.at_ Gu hj;exact⟨g,e,hc 0 _ rfl,hc 1 _ rfl⟩
theorem TV{α:Type}{q:Nat}{enc:α->List Value}(hq:∀x,(enc x).length=q):∀(l:List α) (j t:Nat) (x y:α) (v:Value),l[j]?=some x->t<q->enc y=(enc x).set t v->(l.set j y).flatMap enc=(l.flatMap enc).set (j*q+t) v
 | [],_,_,_,_,_,h,_,_=>by cases h
 | u::l,0,t,x,y,v,h,ht,he=>by
  obtain rfl:u=x:=by simpa using h
  rw[z0,iL,iL,he,Nat.zero_mul,eG,List.set_append_left _ _ (by rw[hq];exact ht)]
 | u::l,j+1,t,x,y,v,h,ht,he=>by
  have ih:=TV hq l j t x y v (by simpa using h) ht he;have e:(j+1)*q+t=q+(j*q+t):=by rw[Nat.succ_mul];omega
  rw[z1,iL,iL,ih,e,List.set_append_right _ _ (by rw[hq];omega),hq,qJ]
theorem EX.store{g j:Nat}{x:EM}{ro:Option Addr}{rc:Nat}{l:List Rc}(h:EX N W g c es)(hj:es[j]?=some x)(hr:RX W ro rc l)(hn:∀b,aK ro b->N<=b/\b≠g) :
  W.cell? (g,j*2+1)=some (.slice x.ro x.l.length x.rc)/\W.frozen? ⟨g,j*2+1,none⟩=false/\EX N (W.setCell (g,j*2+1) (.slice ro l.length rc)) g c (es.set j ⟨x.k,ro,rc,l⟩)/\Only g W (W.setCell (g,j*2+1) (.slice ro l.length rc)):=by
 obtain⟨g2,e,d0,d1⟩:=h.two hj
 injection e with e;injection e with e;subst e
 have hjl:=(dE.1 hj).1;have o:Only g W (W.setCell (g,j*2+1) (.slice ro l.length rc)):=(Only.refl g W).set _ _;have hlt:j*2+1<(es.flatMap jw).length:=by rw[Mh Gu];omega
 have hrow:Row W g (2*c) (es.flatMap jw):=by
  rcases h.row with⟨a,_⟩|⟨g2,a,r⟩
  ·cases a
  injection a with a;injection a with a;subst a;exact r
 have hfr:W.frozen? ⟨g,j*2+1,none⟩=false:=hrow.free _ (bZ hlt hrow.le);refine⟨d1,hfr,⟨.inr ⟨g,rfl,?_⟩,λ y hy=>?_,h.new,λ y hy=>?_⟩,o⟩
 ·rw[TV Gu es j 1 x ⟨x.k,ro,rc,l⟩ (.slice ro l.length rc) hj (by omega) rfl];exact hrow.set _ _ hlt
 ·rcases List.mem_or_eq_of_mem_set hy with hy|rfl
  ·exact(h.sub y hy).ae o.size (λ b hb=>o.block b ((h.sub y hy).lt hb) (λ e=>(h.qK y hy b hb).2 (e▸rfl)))
  exact hr.ae o.size (λ b hb=>o.block b (hr.lt hb) (hn b hb).2)
 rcases List.mem_or_eq_of_mem_set hy with hy|rfl
 ·exact h.qK y hy
 exact λ b hb=>⟨(hn b hb).1,λ e=>(hn b hb).2 (gz e)⟩
theorem xs0(h:ay W r (kR [] 0 0)) :
  Calls Tryz.prog 94 #[.pointer r] W λ e w'=>e= .returned (.int .u64 0)/\ay w' r (kR [] 0 2)/\Only r W w':=by
 have c0:∀m,(W.drewN m).cell? r=some (.string (str [])):=λ m=>h.cell 0 _ rfl;have c1:∀m,(W.drewN m).cell? (r,1)=some (.int .i64 0):=λ m=>h.cell 1 _ rfl;have c2:∀m,(W.drewN m).cell? (r,2)=some (.int .i64 0):=λ m=>h.cell 2 _ rfl;have f2:∀m,(W.drewN m).frozen? ⟨r,2,none⟩=false:=λ m=>h.free 2;have c2':=h.c2;have HH:=zH h
 have HF:∀m,Calls Tryz.prog 162 #[.pointer r,.int .i64 2] (W.drewN m) λ e w'=>e= .returned (.tuple #[])/\w'=(W.drewN m).setCell (r,2) (.int .i64 2):=λ m=>by
  have c3:=c2 m;have f3:=f2 m;clear c0 c1 c2 f2 c2' h
  go_enter Tryz.func162,Tryz.ntmps162
  go_wp2
  go_end0
  exact⟨rfl,rfl⟩
 clear h
 go_enter Tryz.func94,Tryz.ntmps94
 go_wp2_with fail
 go_loopw [3,4] (λ kv ki wr=>kv= .int .u64 0/\ki= .int .i64 0/\wr=W) (λ _ _ _=>0)
 case atStart=>exact⟨rfl,rfl,rfl⟩
 obtain⟨rfl,rfl,rfl⟩:=hrel
 go_wp2_with fail
 go_quiet (fail)
 go_wp2_with fail
 refine(HF nq).mono ?_;rintro e w2 ⟨rfl,rfl⟩
 have hb:ay ((wr.drewN nq).setCell (r,2) (.int .i64 2)) r (kR [] 0 2):=by
  have:=(show ay (wr.drewN nq) r #[.string (str []),.int .i64 0,.int .i64 0]from HH.out).set 2 (.int .i64 2);simp only[Array.set!_eq_setIfInBounds,zS,z0,z1]at this;exact this
 have ho:Only r wr ((wr.drewN nq).setCell (r,2) (.int .i64 2)):=((Only.refl r wr).drewN nq).set 2 _;have HX:=zH (zA hb ho);clear hb ho HF HH c0 c1 c2 f2 c2';go_wp2;go_ret;exact⟨rfl,HX.out⟩
theorem xqx(h:ay W r (kR [] 0 0))(aC:Nat) :
  Calls Tryz.prog 182 #[.pointer r,.int .i64 aC] W λ e w'=>e= .returned (.int .i64 0)/\ay w' r (kR [] 0 2)/\Only r W w':=by
 have HU:=zH (xs0 h);clear h
 go_enter Tryz.func182,Tryz.ntmps182
 go_wp2_with fail
 refine HU.out.mono ?_;rintro e w1 ⟨rfl,hb,ho⟩;have c2:=hb.c2;have HX:=zH (zA hb ho);clear hb ho HU;go_wp2;go_ret;exact⟨rfl,HX.out⟩
theorem xng(h:ay W r (kR [] 0 0))(aC:Nat) :
  Calls Tryz.prog 108 #[.pointer r,.int .i64 aC] W λ e w'=>e= .returned (.slice none 0 0)/\ay w' r (kR [] 0 2)/\Only r W w':=by
 have HU:=zH (xqx h aC);clear h
 go_enter Tryz.func108,Tryz.ntmps108
 go_wp2_with fail
 refine HU.out.mono ?_;rintro e w1 ⟨rfl,hb,ho⟩;have c2:=hb.c2;have HX:=zH (zA hb ho);clear hb ho HU
 go_wp2_with fail
 go_loopw [6,7] (λ v6 v7 wr=>v6= .slice none 0 0/\v7= .int .i64 0/\wr=w1) (λ _ _ _=>0)
 case atStart=>exact⟨rfl,rfl,rfl⟩
 obtain⟨rfl,rfl,rfl⟩:=hrel;go_wp2;go_ret;exact⟨rfl,HX.out⟩
end
end Go.Proofs.YtgpmiliahonaoaaGreatDoor
namespace Go.Proofs.YtgpmiliahonaoaaGreatDoor.DP
def ng(X:List dF)(k:Nat):List Rc:=((X.find? λ x=>x.1==k).map (·.2)).getD []
theorem uT{X:List dF}(h:lg X){x:dF}(hx:x∈X):ng X x.1=x.2:=by
 unfold ng
 have:X.find? (λ y=>y.1==x.1)=some x:=by
  induction X with
  | nil=>cases hx
  | cons a X ih=>
   obtain⟨h1,h2⟩:=bR.1 h;rw[List.find?_cons];rcases aN.1 hx with rfl|hx'
   ·simp
   have:=h1 x hx';have hne:(a.1==x.1)=false:=by simp;omega
   rw[hne];exact ih h2 hx'
 rw[this];rfl
theorem qH{X:List dF}{k:Nat}(h:∀x∈X,x.1≠k):ng X k=[]:=by
 unfold ng;rw[List.find?_eq_none.2 (λ x hx=>by simpa using h x hx)];rfl
theorem vO{k:Nat}{X:List dF}(hno:∀x∈X,x.1≠k)(h:lg X):bf k [] X=X:=by
 induction X with
 | nil=>rfl
 | cons x xs ih=>
  have:=hno x (aT ..);unfold bf;by_cases h1:x.1<k
  ·rw[if_pos h1,ih (λ y hy=>hno y (cu _ hy)) (bR.1 h).2]
  rw[if_neg h1,if_neg this,if_pos rfl]
theorem Bh{k:Nat}{l:List Rc}{X:List dF}(hX:∀x∈X,x.2≠[]):∀x∈bf k l X,x.2≠[]:=λ x hx=>by
 rcases jZ hx with h|⟨rfl,h⟩
 ·exact hX x h
 exact h
theorem Bi{X:List dF}(h:lg X){k:Nat}{l:List Rc}(j:Nat):ng (bf k l X) j=if j=k then l else ng X j:=by
 induction X with
 | nil=>
  unfold bf;by_cases hl:l=[]
  ·rw[if_pos hl];subst hl;by_cases hj:j=k<;>simp[hj,ng]
  rw[if_neg hl];by_cases hj:j=k
  ·simp[hj,ng]
  have:(k==j)=false:=by simp;omega
  simp[hj,ng,this]
 | cons x xs ih=>
  obtain⟨h1,h2⟩:=bR.1 h
  have hc:∀(y:dF) (ys:List dF),ng (y::ys) j=if y.1=j then y.2 else ng ys j:=λ y ys=>by
   unfold ng;rw[List.find?_cons];by_cases hy:y.1=j
   ·simp[hy]
   have:(y.1==j)=false:=by simpa using hy
   simp[hy,this]
  unfold bf;by_cases a:x.1<k
  ·rw[if_pos a,hc,hc,ih h2];by_cases hxj:x.1=j
   ·rw[if_pos hxj,if_neg (by omega),if_pos hxj]
   rw[if_neg hxj,if_neg hxj]
  rw[if_neg a];by_cases b:x.1=k
  ·rw[if_pos b];by_cases hl:l=[]
   ·rw[if_pos hl,hc];by_cases hj:j=k
    ·rw[if_pos hj,hl];exact qH (λ y hy=>by have:=h1 y hy;omega)
    rw[if_neg hj,if_neg (by omega)]
   rw[if_neg hl,hc,hc];by_cases hj:j=k
   ·rw[if_pos hj,if_pos hj.symm]
   rw[if_neg hj,if_neg (by omega),if_neg (by omega)]
  rw[if_neg b];by_cases hl:l=[]
  ·rw[if_pos hl];by_cases hj:j=k
   ·rw[if_pos hj,hl]
    exact qH (λ y hy=>by
     rcases aN.1 hy with rfl|hy
     ·omega
     have:=h1 y hy;omega)
   rw[if_neg hj]
  rw[if_neg hl,hc];by_cases hj:j=k
  ·rw[if_pos hj,if_pos hj.symm]
  rw[if_neg hj,if_neg (show ¬k=j by omega)]
theorem ybc:∀{l m:List Nat},Up l->Up m->(∀x,x∈l↔x∈m)->l=m:=by
 intro l
 induction l with
 | nil=>
  intro m _ _ h
  cases m with
  | nil=>rfl
  | cons b m=>exact absurd ((h b).2 (aT ..)) List.not_mem_nil
 | cons a l ih=>
  intro m hl hm h
  cases m with
  | nil=>exact absurd ((h a).1 (aT ..)) List.not_mem_nil
  | cons b m=>
   obtain⟨a1,a2⟩:=bR.1 hl;obtain⟨b1,b2⟩:=bR.1 hm
   have hab:a=b:=by
    rcases aN.1 ((h a).1 (aT ..))with e|e
    ·exact e
    rcases aN.1 ((h b).2 (aT ..))with e2|e2
    ·exact e2.symm
    have:=b1 a e;have:=a1 b e2;omega
   subst hab
   congr 1
   refine ih a2 b2 (λ x=>⟨λ hx=>?_,λ hx=>?_⟩)
   ·rcases aN.1 ((h x).1 (cu _ hx))with e|e
    ·have:=a1 x hx;omega
    exact e
   rcases aN.1 ((h x).2 (cu _ hx))with e|e
   ·have:=b1 x hx;omega
   exact e
theorem uU{X:List dF}(h:lg X):Up (X.map (·.1)):=by
 unfold Up;rw[List.pairwise_map];exact h
theorem ybd{a b:Nat}{X:List dF}(h:lg X):Up ((gI a b X).map (·.1)):=uU (h.filter _)
theorem xY{a b:Nat}{X:List dF}(h:lg X){K:List Nat}(hK:Up K)
  (hm:∀k,k∈K↔(∃y∈gF (bX (a/16) (b/16)) X,y.1=k/\(y.2.any λ q=>q.has a b)=true)\/∃y∈gF qG X,y.1=k/\(y.2.any λ q=>q.has a b)=true):K=(gI a b X).map (·.1):=by
 refine ybc hK (ybd h) (λ k=>?_);rw[hm k,<-xzn]
 constructor
 ·rintro⟨x,hx,rfl⟩;exact bQ.2 ⟨x,hx,rfl⟩
 intro hk;obtain⟨x,hx,e⟩:=bQ.1 hk;exact⟨x,hx,e⟩
theorem vP{X:List dF}{k:Nat}{l:List Rc}(h:lg X)(hk:∀x∈X,x.1<2^64-1)(hk2:k<2^64-1)(hg:∀x∈X,(∀q∈x.2,q.ok)/\x.2.length<=700)(hg2:(∀q∈l,q.ok)/\l.length<=700) :
  lg (bf k l X)/\(∀x∈bf k l X,x.1<2^64-1)/\∀x∈bf k l X,(∀q∈x.2,q.ok)/\x.2.length<=700:=by
 refine⟨xzm h,λ x hx=>?_,λ x hx=>?_⟩
 ·rcases jZ hx with h1|⟨rfl,_⟩
  ·exact hk x h1
  exact hk2
 rcases jZ hx with h1|⟨rfl,_⟩
 ·exact hg x h1
 exact hg2
theorem xZ{k:Nat}{l:List Rc}(X:List dF):(bf k l X).length<=X.length+1:=by
 induction X with
 | nil=>unfold bf;split<;>simp
 | cons x xs ih=>unfold bf;split<;>(try split)<;>(try split)<;>simp only[dn]<;>omega
theorem mK(b:Nat)(l:List Rc):(share b l).length<=l.length:=List.length_filter_le ..
theorem Bj(b:Nat)(X:List dF):(gF b X).length<=X.length:=List.length_filterMap_le ..
end Go.Proofs.YtgpmiliahonaoaaGreatDoor.DP
namespace Go.Proofs.YtgpmiliahonaoaaGreatDoor
open Go.RowKit
open UK (str aF nth Only Row ay)
open DP (bn pG jH pI fC Rc dF dU)
open Go.BigFrame
section
variable{N:Nat}{W W':World}{ao:Option Addr}{c:Nat}{es:List EM}{r at_:Nat}{s rest:List UInt8}
def Ew(W w:World)(L:List dF)(e:Ending):Prop:=∃ao c es,e= .returned (.tuple #[.slice ao es.length c,.int .i64 0])/\es.map iI=L/\EX W w ao c es/\Below W W w
theorem xlq(W:World) :
  Calls Tryz.prog 47 #[.string (str [])] W λ e w'=>Ew W w' [] e:=by
 have HR:=zH (OX [] W)
 go_enter Tryz.func47,Tryz.ntmps47
 go_wp2_with fail
 refine HR.out.mono ?_;rintro e w1 ⟨rfl,hb,hbl⟩;have HS:=zH (xng hb 60000);have HB:=zH hbl;clear HR hb hbl
 go_wp2_with fail
 refine HS.out.mono ?_;rintro e w2 ⟨rfl,hb,ho⟩;have HX:=zH (HB.out.trans (ho.below HB.out.size (aO _)));clear HS hb ho HB
 go_wp2_with fail
 go_loopw [5,14] (λ u v wr=>u= .slice none 0 0/\v= .int .i64 0/\wr=w2) (λ _ _ _=>0)
 case atStart=>exact⟨rfl,rfl,rfl⟩
 obtain⟨rfl,rfl,rfl⟩:=hrel
 go_wp2_with fail
 go_loopw [26] (λ v w3=>v= .int .i64 0/\w3=wr) (λ _ _=>0)
 case atStart=>exact⟨rfl,rfl⟩
 obtain⟨rfl,rfl⟩:=hrel;go_wp2;go_ret2;exact⟨none,0,[],rfl,rfl,⟨.inl ⟨rfl,rfl,rfl⟩,λ x hx=>absurd hx List.not_mem_nil,λ b hb=>(by cases hb),λ x hx=>absurd hx List.not_mem_nil⟩,HX.out⟩
def Mi(L:List dF):List UInt64:=L.map λ x=>UInt64.ofNat x.1
theorem xs1{L:List dF}(h:∀x∈L,x.1<2^64-1):(Mi L).map UInt64.toNat=L.map (·.1):=by
 unfold Mi;rw[List.map_map];refine List.map_congr_left (λ x hx=>?_);show(UInt64.ofNat x.1).toNat=x.1;rw[UInt64.toNat_ofNat'];have:=h x hx;omega
def Db(k:UInt64):EM:=⟨k,none,0,[]⟩
theorem xls(W:World)(L:List dF)(hL:L≠[])(hok:dU L)(aD:(fC L).length<1000000) :
  Calls Tryz.prog 47 #[.string (str (fC L))] W λ e w'=>Ew W w' L e:=by
 obtain⟨s,hs⟩:∃s,s=fC L:=⟨_,rfl⟩;obtain⟨kl,hkl⟩:∃kl,kl=Mi L:=⟨_,rfl⟩;have hkn:kl.map UInt64.toNat=L.map (·.1):=hkl▸xs1 hok.key;have rT:kl.length=L.length:=by rw[hkl];unfold Mi;rw[df]
 have hs0:s.drop 0=pI (kl.map UInt64.toNat)++L.flatMap λ x=>jH x.2:=by
  rw[hs,hkn];unfold fC;rw[if_neg hL];rfl
 have hup:kl.Pairwise λ x y=>x.toNat<y.toNat:=by
  have:=DP.uU hok.up;unfold DP.Up at this;rw[<-hkn,List.pairwise_map]at this;exact this
 have rU:∀x∈kl,x.toNat<2^64-1:=λ x hx=>by
  have:x.toNat∈L.map (·.1):=by rw[<-hkn];exact bQ.2 ⟨x,hx,rfl⟩
  obtain⟨y,hy,e⟩:=bQ.1 this;rw[<-e];exact hok.key y hy
 have yf:s≠[]:=by rw[hs];exact DP.xX hL
 have hsl:s.length<1000000:=by rw[hs];exact aD
 have hn16:=hok.few;rw[<-hs];have HR:=zH (OX s W);have uf:=zH (zA hs0 (zA hup (zA rU (zA yf hsl))));have Dc:=zH (zA hok hkn);have HLEN:=zH hsl;have TW:=zH rT;have Mj:=zH yf;have aab:kl.length<=16000:=by omega
 clear hs0 hup rU yf hs aD hkn hok hkl hsl rT hn16
 go_enter Tryz.func47,Tryz.ntmps47
 go_wp2_with fail
 refine HR.out.mono ?_;rintro e w1 ⟨rfl,hb,hbl⟩;obtain⟨hs0,hup,rU,yf,hsl2⟩:=uf.out;have HS:=zH (xnf hb hs0 hsl2 (by omega) 60000 (by omega) (by omega) hup rU);have HB:=zH hbl;clear HR hb hbl hs0 hup rU yf hsl2
 go_wp2_with fail
 refine HS.out.mono ?_;rintro e w2 ⟨Aa,c1,rfl,at2,hb,hd,hr1,ha1,II⟩;rw[TK,jM]at hd;rw[fH]at hr1;have HX:=zH (zA hb (zA hd (zA hr1 (zA ha1 II))));clear HS hb hd hr1 ha1 II
 go_wp2_with fail
 go_loopw [5,14] (λ u v wr=>∃(i:Nat) (ao:Option Addr) (c:Nat),u= .slice ao i c/\v= .int .i64 i/\i<=kl.length/\Hid (NX 2 jw wr ao c ((kl.take i).map Db)/\(∀b,aK ao b->w2.heap.size<=b)/\Kept (λ j=>j<w2.heap.size) w2 wr)) (λ _ v _=>20001-(intOf v).toNat)
 case atStart=>exact⟨0,none,0,rfl,rfl,aY _,zH ⟨.inl ⟨rfl,by simp,rfl⟩,λ b hb=>(by cases hb),Kept.refl _ _⟩⟩
 obtain⟨i,ao,c,rfl,rfl,hi,HI⟩:=hrel;obtain⟨hr,ha,hkp⟩:=HI.out;have hr1:=HX.out.2.2.1;by_cases hlt:i<kl.length
 ·have hgi:kl[i]?=some (kl.getD i 0):=by simp[List.getD,hlt]
  obtain⟨x,hx⟩:∃x,x=kl.getD i 0:=⟨_,rfl⟩;rw[<-hx]at hgi
  obtain⟨kb,hkb,hrow⟩:∃kb,Aa=some ⟨kb,0,none⟩/\Row w2 kb c1 (az kl):=by
   rcases hr1 with⟨_,hv,_⟩|⟨kb,e,r⟩
   ·exfalso;have:=congrArg List.length hv;rw[dA]at this;simp only[List.length_nil]at this;omega
   exact⟨kb,e,r⟩
  subst hkb;have hrow2:Row wr kb c1 (az kl):=hrow.ae hkp.size (hkp.block kb hrow.lt);have d0:wr.cell? (kb,i)=some (.int .u64 (x.toNat:Int)):=hrow2.at' i _ (tH _ _ _ hgi);have q1:(i:Int)<kl.length:=by omega
  obtain⟨g',c',w3,e1,r3,hg3,o3⟩:=NX.push (P:=Tryz.prog) (enc:=jw) Tryz.underlying100 (i:=Tryz.t104) rfl rfl rfl (show(32:Nat)<=64 by omega) rfl Gu IG hr (by rw[df,zt];omega) (Db x);rw[show((kl.take i).map Db).length=i by rw[df,zt];omega]at e1
  have hsn:(kl.take i).map Db++[Db x]=(kl.take (i+1)).map Db:=by
   rw[List.take_succ_eq_append_getElem hlt,dO,List.map_singleton,show kl[i]=x by rw[hx];simp[List.getD,hlt]]
  rw[hsn]at r3;have e2:(Builtin.append_ #[100,100] 100 #[.slice ao i c,.slice wr 1 1]).run Tryz.prog (wr.alloc (.cells #[.int .u64 (x.toNat:Int),.slice none 0 0] 104))= .ok (.slice g' (i+1) c') w3:=e1
  have hg4:w2.heap.size<=g':=by
   rcases hg3 with hg|hg
   ·exact ha g' hg
   exact aP hkp.size hg
  have HY:=zH (zA r3 (zA hg4 (hkp.trans ⟨o3.os,o3.tape,o3.output,o3.size,λ j hj=>o3.block j (bZ hj hkp.size) (by omega)⟩)));clear hr ha hkp HI hr1 hrow hrow2 e1 r3 hg3 o3 hg4 hsn hx hgi
  go_wp2_with (at_builtin;refine UK.lH e2 rfl rfl rfl rfl rfl ?_)
  go_wp2;go_roundw
  case rel=>exact⟨i+1,_,c',by go_num,by go_num,by omega,zH ⟨HY.out.1,λ b hb=>by rw[gz hb];exact HY.out.2.1,HY.out.2.2⟩⟩
  case measure=>simp only[intOf];omega
 obtain rfl:i=kl.length:=by omega
 rw[fH]at hr;have HZ:=zH (zA hr (zA ha hkp));clear hr ha hkp HI hr1 hi;obtain⟨R,hR⟩:∃R,R=W.heap.size:=⟨_,rfl⟩;have hW2:R+1<=w2.heap.size:=by have:=HX.out.1.lt;omega
 obtain⟨wo,hwo⟩:∃wo,wo=wr:=⟨_,rfl⟩;subst hwo
 have H0:=zH (show EX (R+1) wo ao c (kl.map Db)/\ay wo R (kR s at2 0)/\Kept (λ j=>j<R) W wo from
  ⟨⟨HZ.out.1,λ x hx=>by
    obtain⟨k,_,rfl⟩:=bQ.1 hx;exact .inl ⟨rfl,rfl,rfl⟩,λ b hb=>aP hW2 (HZ.out.2.1 b hb),λ x hx b hb=>by
    obtain⟨k,_,rfl⟩:=bQ.1 hx
    cases hb⟩,hR▸HX.out.1.ae (HZ.out.2.2.block _ HX.out.1.lt),by
   have h1:=HB.out;have h2:=HX.out.2.2.2.2;have hs1:=h1.size;rw[hR];exact((Kept.of_below h1 (λ j hj=>hj)).trans (h2.mono (λ j hj=>⟨bZ hj hs1,Nat.ne_of_lt hj⟩))).trans (HZ.out.2.2.mono (λ j hj=>bZ hj (aP hs1 h2.size)))⟩)
 have H1:=zH HX.out.2.1;clear HZ HX HB uf
 go_wp2_with fail
 go_loopw [26] (λ v wr=>∃(i:Nat) (es:List EM) (at3:Nat),v= .int .i64 i/\i<=kl.length/\Hid (es.map (·.k)=kl/\(es.take i).map iI=L.take i/\EX (R+1) wr ao c es/\ay wr R (kR s at3 0)/\(s.drop at3=(L.drop i).flatMap λ x=>jH x.2)/\Kept (λ j=>j<R) W wr)) (λ v _=>20001-(intOf v).toNat)
 case atStart=>exact⟨0,kl.map Db,at2,rfl,aY _,zH ⟨by rw[List.map_map];exact List.map_id kl,rfl,H0.out.1,H0.out.2.1,H1.out,H0.out.2.2⟩⟩
 clear H0 H1;obtain⟨i,es,at3,rfl,hi,HI⟩:=hrel;obtain⟨De,het,hE,hb,hd,hkp⟩:=HI.out;have hel:es.length=kl.length:=by rw[<-De,df]
 have rT:=TW.out;by_cases hlt:i<kl.length
 ·obtain⟨x,hx⟩:∃x,es[i]?=some x:=⟨_,bL (by omega)⟩;obtain⟨y,hy⟩:∃y,L[i]?=some y:=⟨_,bL (by omega)⟩;have Pb:=eZ hy;obtain⟨hok,hkn⟩:=Dc.out
  have hxy:x.k.toNat=y.1:=by
   have h1:(kl.map UInt64.toNat)[i]?=some x.k.toNat:=by rw[<-De,dL,dL,hx];rfl
   rw[hkn,dL,hy]at h1;exact(aZ h1).symm
  have Ab:i<L.length:=by omega
  have IJ:L[i]=y:=aZ ((bL Ab).symm.trans hy);have hsl:=HLEN.out;rw[lm Ab,IJ,iL]at hd;have HG:=zH (TU hb hd hsl (hok.good y Pb).2 (hok.good y Pb).1);rw[hR]at HG;obtain⟨g,rfl,_,_⟩:=hE.two hx;have hgR:R+1<=g:=hE.new g rfl;have q1:(i:Int)<kl.length:=by omega
  have HQ:=zH (zA De (zA het (zA hE (zA hkp (zA hx (zA hxy hy))))));clear De het hE hb hd hkp HI hx hy Pb hok hkn hxy IJ hsl rT hel Ab
  go_wp2_with fail
  refine HG.out.mono ?_;rintro e w4 ⟨ro,rc,rfl,at4,hb4,hd4,hr4,TY,hk4⟩;rw[<-hR]at hb4;simp only[<-hR]at hk4;obtain⟨De,het,hE,hkp,hx,hxy,hy⟩:=HQ.out;rw[List.drop_eq_nil_of_le (aO _),List.flatMap_nil,jM]at hd4;rw[fH]at hr4;have hgl:g<wr.heap.size:=hE.row.lt rfl;have ni:EX (R+1) w4 g c es:=hE.kept (hk4.mono (λ j hj=>⟨hj.1,by omega⟩));have hRl:R<wr.heap.size:=by omega
  obtain⟨c1',f1',Gv,o5⟩:=ni.store hx hr4 (λ b hb=>by have:=TY b hb;exact⟨by omega,by omega⟩);have Ab:i<L.length:=by have:=TW.out;omega
  have IJ:L[i]=y:=aZ ((bL Ab).symm.trans hy)
  have HN:=zH (show(es.set i ⟨x.k,ro,rc,y.2⟩).map (·.k)=kl/\((es.set i ⟨x.k,ro,rc,y.2⟩).take (i+1)).map iI=L.take (i+1)/\EX (R+1) (w4.setCell (g,i*2+1) (.slice ro y.2.length rc)) g c (es.set i ⟨x.k,ro,rc,y.2⟩)/\ay (w4.setCell (g,i*2+1) (.slice ro y.2.length rc)) R (kR s at4 0)/\(s.drop at4=(L.drop (i+1)).flatMap λ x=>jH x.2)/\Kept (λ j=>j<R) W (w4.setCell (g,i*2+1) (.slice ro y.2.length rc))from by
   have hil:=(dE.1 hx).1;have hgx:es[i]=x:=aZ ((bL hil).symm.trans hx);refine⟨?_,?_,Gv,hb4.only o5 (by omega),hd4,?_⟩
   ·rw[List.map_set,show x.k=(es.map (·.k))[i]'(by rw[df];exact hil) by rw[List.getElem_map,hgx],List.set_getElem_self];exact De
   ·rw[List.take_succ_eq_append_getElem (by rw[aQ];exact hil),dO,List.take_set_of_le (aO _),het,List.take_succ_eq_append_getElem Ab,List.getElem_set_self,IJ]
    congr 1
    show [(x.k.toNat,y.2)]=[y];rw[hxy]
   refine hkp.trans ⟨o5.os.trans hk4.os,o5.tape.trans hk4.tape,o5.output.trans hk4.output,aP hk4.size o5.size,λ j hj=>?_⟩;have h4s:=hk4.size;exact(o5.block j (by omega) (by omega)).trans (hk4.block j ⟨by omega,by omega⟩))
  clear De het hE hkp hx hxy IJ hy ni Gv o5 hb4 hd4 hr4 TY hk4 HG HQ hgR hRl hgl Ab;go_wp2;go_roundw
  case rel=>exact⟨i+1,_,at4,by go_num,by omega,HN⟩
  case measure=>simp only[intOf];omega
 obtain rfl:i=kl.length:=by omega
 rw[rT,List.drop_eq_nil_of_le (aO _),List.flatMap_nil]at hd
 have hge:s.length<=at3:=by
  have:=congrArg List.length hd;rw[zd]at this;simp only[List.length_nil]at this;omega
 have HD:=zH (xwl hb hge);rw[hR]at HD;rw[rT,fH,<-rT,<-hel,fH]at het;have HF:=zH (zA het (zA hE hkp))
 have hie:s.isEmpty=false:=by
  have:=Mj.out
  cases s with
  | nil=>exact absurd rfl this
  | cons a b=>rfl
 have Bq:=zH hel;clear De het hE hb hd hkp HI hge hel rT
 go_wp2_with fail
 refine HD.out.mono ?_;rintro e w4 ⟨rfl,nq,rfl⟩;go_wp2;go_ret2;rw[<-Bq.out];exact⟨ao,c,es,rfl,HF.out.1,(HF.out.2.1.next (UK.dK (aV _ _) nq)).less (by omega),UK.dK ⟨HF.out.2.2.os,HF.out.2.2.tape,HF.out.2.2.output,HF.out.2.2.size,λ j hj=>HF.out.2.2.block j (by omega)⟩ nq⟩
end
def xg(es:List EM)(i:Nat):List UInt64:=(es.take i).map (·.k)++List.replicate (es.length-i) 0
theorem xs2(es:List EM){i:Nat}(hi:i<=es.length):(xg es i).length=es.length:=by
 unfold xg;rw[zl,df,zt,gY];omega
theorem xs3{es:List EM}{i:Nat}{x:EM}(hx:es[i]?=some x):(xg es i).set i x.k=xg es (i+1):=by
 obtain⟨hi,e⟩:=dE.1 hx;unfold xg;obtain⟨d,hd⟩:∃d,es.length-i=d+1:=⟨es.length-i-1,by omega⟩;have hl:((es.take i).map (·.k)).length=i:=by rw[df,zt];omega
 rw[List.set_append_right _ _ (by omega),hl,kN,hd,List.replicate_succ,z0,List.take_succ_eq_append_getElem hi,dO,e,show es.length-(i+1)=d by omega,cO];rfl
theorem xs4(es:List EM):xg es es.length=es.map (·.k):=by
 unfold xg;rw[fH,kN];simp
section
variable{N:Nat}{W W':World}{ao:Option Addr}{c:Nat}{es:List EM}
theorem gW.same{S:Nat->Prop}{g c:Nat}{a:Option Addr}{m:List UInt8}(h:gW S W g a c m)(hb:Below W W W'):gW S W' g a c m:=
 ⟨h.box.next hb,h.row.ae hb.size (λ j hj=>hb.block j (h.row.lt hj)),h.out,h.own,λ j hj=>bZ (h.low j hj) hb.size⟩
theorem Gd(W:World)(cs:List Value)(t:TypeId):Row (W.alloc (.cells cs.toArray t)) W cs.length cs:=by
 have e1:=World.cell?_alloc_new W cs.toArray t;refine⟨by simp,aO _,λ j hj=>?_,λ j hj=>⟨?_,World.frozen?_alloc_new W _ _ j⟩⟩
 ·exact(e1 j).trans (by rw[List.getElem?_toArray])
 have e2:(W.alloc (.cells cs.toArray t)).cell? (W.heap.size,j)=_:=e1 j;rw[e2,List.getElem?_toArray,bL hj];rfl
theorem xwn(n:Nat):madeCells #[Value.int .u64 0] n=(az (List.replicate n 0)).toArray:=by
 apply Array.ext_getElem?;intro i;by_cases h:i<n
 ·simp[madeCells,az,h,Nat.mod_one]
 simp[madeCells,az,h,Nat.mod_one]
theorem xnh(h:EX N W ao c es)(hok:dU (es.map iI))(aD:(fC (es.map iI)).length<800000) :
  Calls Tryz.prog 101 #[.slice ao es.length c] W λ e w'=>e= .returned (.string (str (fC (es.map iI))))/\Below W W w':=by
 by_cases h0:es=[]
 ·subst h0
  go_enter Tryz.func101,Tryz.ntmps101
  go_wp2;go_ret
  exact⟨rfl,aV _ _⟩
 have hpos:0<es.length:=List.length_pos_iff.2 h0;have hn16:es.length<=16000:=by have:=hok.few;rwa [df]at this
 have hmk:=run_make_row (P:=Tryz.prog) 88 77 Tryz.t77 (.int .u64 0) Tryz.underlying88 rfl rfl rfl rfl .i64 .i64 es.length (show 8*es.length<=281474976710656 by omega) (by omega);obtain⟨wb,hwb⟩:∃wb,wb=W.heap.size:=⟨_,rfl⟩;have hE:=zH h;have Dc:=zH (zA hok aD);have HP:=zH h0;have i0:((es.length:Int)==0)=false:=beq_eq_false_iff_ne.2 (by omega);clear h hok aD h0
 go_enter Tryz.func101,Tryz.ntmps101
 go_wp2_with fail
 go_loopw [17] (λ v wr=>∃i:Nat,v= .int .i64 i/\i<=es.length/\Hid (ay wr W #[.slice none 0 0]/\Row wr (W.heap.size+1) es.length (az (xg es i))/\Below W W wr)) (λ v _=>20001-(intOf v).toNat)
 case atStart=>
  refine⟨0,rfl,aY _,zH ⟨?_,?_,?_⟩⟩
  ·exact(ay.new W #[.slice none 0 0] 96).next ((aV _ _).alloc (aO _) _)
  ·have hrw:=Gd (W.alloc (.cells #[.slice none 0 0] 96)) (az (List.replicate es.length 0)) 77;rw[<-xwn,dA,gY,show(W.alloc (.cells #[.slice none 0 0] 96)).heap.size=W.heap.size+1 by simp]at hrw;exact hrw
  exact((aV _ _).alloc (aO _) _).alloc (by simp) _
 obtain⟨i,rfl,hi,HI⟩:=hrel;obtain⟨hb,hk,hbl⟩:=HI.out;by_cases hlt:i<es.length
 ·obtain⟨x,hx⟩:∃x,es[i]?=some x:=⟨_,bL hlt⟩;have hE2:=hE.out.next hbl;obtain⟨g,rfl,d0,d1⟩:=hE2.two hx;have q1:(i:Int)<es.length:=by omega
  have ba:Below wr wr (wr.alloc (.cells #[.int .u64 (x.k.toNat:Int),.slice x.ro x.l.length x.rc] 104)):=(aV _ _).alloc (aO _) _;have hk2:=hk.below ba hk.lt;have hkl:i<(az (xg es i)).length:=by rw[dA,xs2 es hi];exact hlt
  obtain⟨v0,hv0⟩:∃v0,(az (xg es i))[i]?=some v0:=⟨_,bL hkl⟩;have ck:=hk2.at' i v0 hv0;have fk:=hk2.free i hlt;have hk3:=hk2.set i (.int .u64 (x.k.toNat:Int)) hkl
  have e3:(az (xg es i)).set i (.int .u64 (x.k.toNat:Int))=az (xg es (i+1)):=by
   rw[<-xs3 hx];unfold az;rw[List.map_set]
  rw[e3]at hk3;have o3:Only (W.heap.size+1) (wr.alloc (.cells #[.int .u64 (x.k.toNat:Int),.slice x.ro x.l.length x.rc] 104)) ((wr.alloc (.cells #[.int .u64 (x.k.toNat:Int),.slice x.ro x.l.length x.rc] 104)).setCell ⟨W.heap.size+1,i,none⟩ (.int .u64 (x.k.toNat:Int))):=(Only.refl _ _).set i _;have HN:=zH (zA ((hb.next ba).only o3 (by omega)) (zA hk3 ((hbl.trans (ba.mono hbl.size)).trans (o3.below (by have:=hbl.size;have:=ba.size;omega) (by omega)))));clear hb hk hbl HI hE2 ba hk2 hk3 e3 o3 hkl hx hv0;go_wp2;go_roundw
  case rel=>exact⟨i+1,by go_num,by omega,HN⟩
  case measure=>simp only[intOf];omega
 obtain rfl:i=es.length:=by omega
 rw[xs4]at hk;obtain⟨wA,hwA⟩:∃wA,wA=wr:=⟨_,rfl⟩;subst hwA;obtain⟨S,hS⟩:∃S:Nat->Prop,S=λ j=>j<wA.heap.size/\j≠W.heap.size:=⟨_,rfl⟩;have hw0:gW S wA W none 0 []:=⟨hb,.inl ⟨rfl,rfl,rfl⟩,λ e=>by rw[hS]at e;exact e.2 rfl,λ j hj=>(by cases hj),λ j hj=>by rw[hS]at hj;exact hj.1⟩
 have TZ:∀j,aK (some (⟨W.heap.size+1,0,none⟩:Addr)) j->S j:=λ j hj=>by
  rw[hS,gz hj];exact⟨hk.lt,by omega⟩
 have hup:(es.map (·.k)).Pairwise λ x y=>x.toNat<y.toNat:=by
  have:=Dc.out.1.up;unfold DP.lg at this;rw[List.pairwise_map]at this;rw[List.pairwise_map];exact this
 have Pd:=zH (xne (ko:=some ⟨W.heap.size+1,0,none⟩) (kc:=es.length) hw0 (.inr ⟨_,rfl,hk⟩) TZ hup (by rw[df];omega) (by rw[df];simp only[List.length_nil];omega));have HA:=zH (zA hbl hS);clear hb hk hbl HI hw0 TZ hup;rw[df]at Pd
 go_wp2_with fail
 refine Pd.out.mono ?_;rintro e w3 ⟨rfl,Aa,c1,hw1,hk1⟩;rw[jM]at hw1;have HW:=zH (zA hw1 hk1);clear hw1 hk1 Pd
 go_wp2_with fail
 go_loopw [32] (λ v wr=>∃(i:Nat) (lS:Option Addr) (c2:Nat),v= .int .i64 i/\i<=es.length/\Hid (gW S wr W lS c2 (pI ((es.map (·.k)).map UInt64.toNat)++(es.take i).flatMap λ x=>jH x.l)/\Kept S wA wr)) (λ v _=>20001-(intOf v).toNat)
 case atStart=>exact⟨0,Aa,c1,rfl,aY _,zH ⟨by simpa using HW.out.1,HW.out.2⟩⟩
 clear HW;obtain⟨i,lS,c2,rfl,hi,HI⟩:=hrel;obtain⟨hw,hkp⟩:=HI.out;have hbl:=HA.out.1;have hS:=HA.out.2;have hE2:=hE.out.next hbl;have qL:EX N wr ao c es:=⟨hE2.row.ae hkp.size (λ b hb=>hkp.block b (by rw[hS];exact⟨hE2.row.lt hb,by have:=hE.out.row.lt hb;omega⟩)),λ x hx=>(hE2.sub x hx).ae hkp.size (λ b hb=>hkp.block b (by rw[hS];exact⟨(hE2.sub x hx).lt hb,by have:=(hE.out.sub x hx).lt hb;omega⟩)),hE2.new,hE2.qK⟩;have hel:(es.map iI).flatMap (λ x=>jH x.2)=es.flatMap λ x=>jH x.l:=by rw[List.flatMap_map];rfl
 have Ex:(es.map (·.k)).map UInt64.toNat=(es.map iI).map (·.1):=by rw[List.map_map,List.map_map];rfl
 have htx:fC (es.map iI)=pI ((es.map (·.k)).map UInt64.toNat)++es.flatMap λ x=>jH x.l:=by
  unfold fC;rw[if_neg (by rw[List.map_eq_nil_iff];exact HP.out),hel,Ex]
 have aD:=Dc.out.2;rw[htx,zl]at aD;by_cases hlt:i<es.length
 ·obtain⟨x,hx⟩:∃x,es[i]?=some x:=⟨_,bL hlt⟩;have hxm:=eZ hx;have hgx:es[i]=x:=aZ ((bL hlt).symm.trans hx);obtain⟨g,rfl,d0,d1⟩:=qL.two hx;have q1:(i:Int)<es.length:=by omega
  have ba:Below wr wr (wr.alloc (.cells #[.int .u64 (x.k.toNat:Int),.slice x.ro x.l.length x.rc] 104)):=(aV _ _).alloc (aO _) _
  have hsub:(es.take (i+1)).flatMap (λ x=>jH x.l)=(es.take i).flatMap (λ x=>jH x.l)++jH x.l:=by
   rw[List.take_succ_eq_append_getElem hlt,hgx,List.flatMap_append];simp
  have hle:((es.take (i+1)).flatMap λ x=>jH x.l).length<=(es.flatMap λ x=>jH x.l).length:=by
   have e:=congrArg (λ l:List EM=>(l.flatMap λ x=>jH x.l).length) (iq (i+1) es);simp only[List.flatMap_append,zl]at e;omega
  have hgood:=Dc.out.1.good (iI x) (bQ.2 ⟨x,hxm,rfl⟩)
  have HU:=zH (TR (hw.same ba) ((qL.sub x hxm).ae ba.size (λ b hb=>ba.block b ((qL.sub x hxm).lt hb))) (λ b hb=>by rw[hS];exact⟨(hE2.sub x hxm).lt hb,by have:=(hE.out.sub x hxm).lt hb;omega⟩) hgood.1 hgood.2 (by
   rw[hsub]at hle;simp only[zl]at hle ⊢;omega))
  have HN:=zH (zA hsub (zA hkp (Kept.of_below (S:=S) ba (λ j hj=>bZ (by rw[hS]at hj;exact hj.1) hkp.size))));clear hw hkp HI hbl hE2 qL hel Ex htx aD hx hxm hgx ba hsub hle hgood hS
  go_wp2_with fail
  refine HU.out.mono ?_;rintro e w4 ⟨rfl,Bo,c3,hw3,hk3⟩;have HY:=zH (zA hw3 (HN.out.2.1.trans (HN.out.2.2.trans hk3)));clear hw3 hk3 HU;go_wp2;go_roundw
  case rel=>exact⟨i+1,Bo,c3,by go_num,by omega,zH ⟨by rw[HN.out.1,<-cO];exact HY.out.1,HY.out.2⟩⟩
  case measure=>simp only[intOf];omega
 obtain rfl:i=es.length:=by omega
 rw[fH,<-htx]at hw;have HB:=zH (TG hw (DP.xX (by rw[ne_eq,List.map_eq_nil_iff];exact HP.out)));have HF:=zH (show Below W W wr from⟨hkp.os.trans hbl.os,hkp.tape.trans hbl.tape,hkp.output.trans hbl.output,aP hbl.size hkp.size,λ j hj=>(hkp.block j (by rw[hS];exact⟨bZ hj hbl.size,Nat.ne_of_lt hj⟩)).trans (hbl.block j hj)⟩);clear hw hkp HI hbl hE2 qL hel Ex htx aD hS
 go_wp2_with fail
 refine HB.out.mono ?_;rintro e w4 ⟨rfl,rfl⟩;go_wp2;go_ret;exact⟨rfl,HF.out⟩
end
open DP (Rc dF)
section
variable{W:World}
def qP(a k:UInt64):Int:=if a.toNat<k.toNat then -1 else if k.toNat<a.toNat then 1 else 0
theorem Uw(W:World)(x:EM)(k:UInt64) :
  Calls Tryz.prog 98 #[.agg #[.int .u64 (x.k.toNat:Int),.slice x.ro x.l.length x.rc],.int .u64 (k.toNat:Int)] W λ e w'=>e= .returned (.int .i64 (qP x.k k))/\Below W W w':=by
 obtain⟨w1,hw1⟩:∃w1,w1=W.alloc (.cells #[.int .u64 (x.k.toNat:Int),.slice x.ro x.l.length x.rc] 104):=⟨_,rfl⟩;have hbx:ay w1 W #[.int .u64 (x.k.toNat:Int),.slice x.ro x.l.length x.rc]:=hw1▸ay.new W _ _;have hbl:Below W W w1:=hw1▸(aV _ _).alloc (aO _) _;have c0:=hbx.c0;have HB:=zH hbl;clear hbx hbl;unfold qP;by_cases h1:x.k.toNat<k.toNat
 ·rw[if_pos h1]
  go_enter Tryz.func98,Tryz.ntmps98
  go_wp2_with (simp only[<-hw1])
  all_goals (go_ret;exact⟨rfl,HB.out⟩)
 rw[if_neg h1];by_cases h2:k.toNat<x.k.toNat
 ·rw[if_pos h2]
  go_enter Tryz.func98,Tryz.ntmps98
  go_wp2_with (simp only[<-hw1])
  all_goals (go_ret;exact⟨rfl,HB.out⟩)
 rw[if_neg h2]
 go_enter Tryz.func98,Tryz.ntmps98
 go_wp2_with (simp only[<-hw1])
 all_goals (go_ret;exact⟨rfl,HB.out⟩)
structure iO(es:List EM)(k:UInt64)(i:Nat):Prop where
 le:i<=es.length
 below:∀(j:Nat) (x:EM),j<i->es[j]?=some x->x.k.toNat<k.toNat
 above:∀(j:Nat) (x:EM),i<=j->es[j]?=some x->k.toNat<=x.k.toNat
def Dj(es:List EM):Prop:=∀(a b:Nat) (x y:EM),a<b->es[a]?=some x->es[b]?=some y->x.k.toNat<y.k.toNat
def tJ(es:List EM)(k:UInt64)(i:Nat):Bool:=match es[i]? with
 | some x=>decide (x.k=k)
 | none=>false
theorem xnm{N c:Nat}{ao:Option Addr}{es:List EM}(h:EX N W ao c es)(hs:Dj es)(hl:es.length<=100000)(k:UInt64) :
  Calls Tryz.prog 97 #[.slice ao es.length c,.int .u64 (k.toNat:Int),.func (.func 98) #[] #[]] W λ e w'=>∃i:Nat,e= .returned (.tuple #[.int .i64 i,.bool (tJ es k i)])/\iO es k i/\Below W W w':=by
 have HS:=zH hs;have HH:=zH h;clear hs h
 go_enter Tryz.func97,Tryz.ntmps97
 go_wp2_with fail
 go_loopw [9,10] (λ iv jv wr=>∃i j:Nat,iv= .int .i64 i/\jv= .int .i64 j/\i<=j/\j<=es.length/\Hid (∀(a:Nat) (x:EM),a<i->es[a]?=some x->x.k.toNat<k.toNat)/\Hid (∀(a:Nat) (x:EM),j<=a->es[a]?=some x->k.toNat<=x.k.toNat)/\Hid (Below W W wr)) (λ iv jv _=>(intOf jv).toNat-(intOf iv).toNat)
 case atStart=>exact⟨0,es.length,rfl,rfl,aY _,aO _,(λ a x h=>absurd h (jO _)),(λ a x h hx=>by rw[jo h]at hx;cases hx),zH (aV _ _)⟩
 obtain⟨i,j,rfl,rfl,hij,hj,hb,ha,HB⟩:=hrel;by_cases hlt:i<j
 ·obtain⟨x,hx⟩:∃x,es[(i+j)/2]?=some x:=⟨_,bL (by omega)⟩;obtain⟨g,rfl,d0,d1⟩:=(HH.out.next HB.out).two hx;have h1:((i:Int)+(j:Int))/2=(((i+j)/2:Nat):Int):=by omega
  have Dl:(i+j)/2<es.length:=by omega
  have hm1:i<=(i+j)/2:=by omega
  have hm2:(i+j)/2<j:=by omega
  generalize hm:(i+j)/2=m at hx d0 d1 h1 Dl hm1 hm2;have HC:=Uw wr x k;by_cases hlx:x.k.toNat<k.toNat
  ·have HX:=zH (λ (a:Nat) (z:EM) (haz:a<m+1) (hz:es[a]?=some z)=>(show z.k.toNat<k.toNat by
    by_cases e:a=m
    ·subst e;rw[hx]at hz;rw[<-aZ hz];exact hlx
    have:=HS.out a m z x (by omega) hz hx;omega))
   rw[show qP x.k k= -1 from if_pos hlx]at HC;have HL2:=zH HC;clear hx hm HC hlx hb
   go_wp2_with fail
   refine HL2.out.mono ?_;rintro e w' ⟨rfl,hbl⟩;have HB2:=zH (HB.out.trans (hbl.mono HB.out.size));clear HL2 hbl;go_wp2;go_roundw
   case rel=>exact⟨m+1,j,by go_num,rfl,by omega,hj,HX.out,ha,HB2⟩
   case measure=>simp[intOf];omega
  have HX:=zH (λ (a:Nat) (z:EM) (haz:m<=a) (hz:es[a]?=some z)=>(show k.toNat<=z.k.toNat by
   by_cases e:a=m
   ·subst e;rw[hx]at hz;rw[<-aZ hz];omega
   have:=HS.out m a x z (by omega) hx hz;omega))
  obtain⟨n,hn,hnn⟩:∃n:Nat,qP x.k k=(n:Int)/\n<=1:=by
   unfold qP;rw[if_neg hlx]
   split
   ·exact⟨1,rfl,aO _⟩
   exact⟨0,rfl,aY _⟩
  rw[hn]at HC;have HL2:=zH HC;have hn0:¬(n:Int)<0:=by omega
  clear hx hm HC hlx ha hn
  go_wp2_with fail
  refine HL2.out.mono ?_;rintro e w' ⟨rfl,hbl⟩;have HB2:=zH (HB.out.trans (hbl.mono HB.out.size));clear HL2 hbl;go_wp2;go_roundw
  case rel=>exact⟨i,m,rfl,rfl,by omega,by omega,hb,HX.out,HB2⟩
  case measure=>simp[intOf];omega
 obtain rfl:i=j:=by omega
 have hst:iO es k i:=⟨hj,hb.out,ha.out⟩;have HST:=zH hst;by_cases hil:i<es.length
 ·obtain⟨x,hx⟩:∃x,es[i]?=some x:=⟨_,bL hil⟩;obtain⟨g,rfl,d0,d1⟩:=(HH.out.next HB.out).two hx;have BA:(i:Int)<(es.length:Int):=by omega
  have HC:=Uw wr x k;have hi2:tJ es k i=decide (x.k=k):=by unfold tJ;rw[hx]
  have hge:=hst.above i x (aO _) hx;clear hst hb ha hij hlt;by_cases he:x.k=k
  ·rw[show qP x.k k=0 by unfold qP;rw[he,if_neg (lu _),if_neg (lu _)]]at HC;have HL2:=zH HC;rw[decide_eq_true he]at hi2;have HI:=zH hi2;have hii:¬(i:Int)<(i:Int):=by omega
   clear HC hi2 he hge hx
   go_wp2_with fail
   refine HL2.out.mono ?_;rintro e w' ⟨rfl,hbl⟩;have HB2:=zH (HB.out.trans (hbl.mono HB.out.size));clear HL2 hbl;go_wp2;go_ret2;exact⟨i,by rw[HI.out]<;>rfl,HST.out,HB2.out⟩
  rw[show qP x.k k=1 by
   have:x.k.toNat≠k.toNat:=λ e=>he (mJ.1 e);unfold qP;rw[if_neg (by omega),if_pos (by omega)]]at HC
  have HL2:=zH HC;rw[decide_eq_false he]at hi2;have HI:=zH hi2;have hii:¬(i:Int)<(i:Int):=by omega
  clear HC hi2 he hge hx
  go_wp2_with fail
  refine HL2.out.mono ?_;rintro e w' ⟨rfl,hbl⟩;have HB2:=zH (HB.out.trans (hbl.mono HB.out.size));clear HL2 hbl;go_wp2;go_ret2;exact⟨i,by rw[HI.out]<;>rfl,HST.out,HB2.out⟩
 obtain rfl:i=es.length:=by omega
 have HI:=zH (show tJ es k es.length=false by unfold tJ;rw[jo (aO _)]);have hd:¬((es.length:Int)<(es.length:Int)):=by omega
 clear hst hb ha hij hil hlt
 go_wp2_with fail
 go_ret2;exact⟨es.length,by rw[HI.out]<;>rfl,HST.out,HB.out⟩
end
open Go.RowKit Go.BigFrame
def fl(es:List EM):List Value:=es.flatMap jw
theorem jI(es:List EM):(fl es).length=2*es.length:=Mh Gu es
theorem ym(a b:List EM):fl (a++b)=fl a++fl b:=List.flatMap_append
theorem Pz(x:EM)(b:List EM):fl (x::b)=jw x++fl b:=rfl
theorem IR(es:List EM)(i:Nat):fl (es.take i)=(fl es).take (2*i):=by
 by_cases h:i<=es.length
 ·have h2:fl es=fl (es.take i)++fl (es.drop i):=by rw[<-ym,iq]
  have h3:(fl (es.take i)).length=2*i:=by rw[jI,zt,gH h]
  have h4:=congrArg (List.take (2*i)) h2;rw[qE (by omega),fO (l:=fl (es.take i)) (by omega)]at h4;exact h4.symm
 rw[fO (l:=es) (by omega),fO (l:=fl es) (by rw[jI];omega)]
theorem P5(es:List EM)(i:Nat):fl (es.drop i)=(fl es).drop (2*i):=by
 by_cases h:i<=es.length
 ·have h2:fl es=fl (es.take i)++fl (es.drop i):=by rw[<-ym,iq]
  have h3:(fl (es.take i)).length=2*i:=by rw[jI,zt,gH h]
  have h4:=congrArg (List.drop (2*i)) h2;rw[List.drop_append_of_le_length (by omega),(List.drop_eq_nil_of_le (by omega):(fl (es.take i)).drop (2*i)=[])]at h4;exact h4.symm
 rw[(List.drop_eq_nil_of_le (by omega):es.drop i=[]),(List.drop_eq_nil_of_le (by rw[jI];omega):(fl es).drop (2*i)=[])];rfl
theorem P6(es:List EM):∀v∈fl es,v.oneCell'=true:=λ v hv=>by
 obtain⟨x,_,hx⟩:=List.mem_flatMap.1 hv;exact IG x v hx
def zE:List Value:=[.int .u64 0,.slice none 0 0]
theorem xnq{W:World}{g c i:Nat}{l:List EM}(h:Row W g (2*c) (fl l))(hl:l.length<=100000)(hi:i<l.length) :
  Calls Tryz.prog 99 #[.slice g l.length c,.int .i64 i,.int .i64 ((i:Int)+1)] W λ e w'=>e= .returned (.slice g (l.length-1) c)/\Row w' g (2*c) (fl (l.take i++l.drop (i+1)))/\Only g W w':=by
 have aD:=jI l;have hle:=h.le;rw[aD]at hle;obtain⟨n,hn⟩:∃n,n=l.length:=⟨_,rfl⟩;have hz2:¬((i:Int)=(i:Int)+1):=by omega
 have hb2:¬(c=i):=by omega
 have htn:((i:Int)+1).toNat=i+1:=by omega
 have hb1:(0:Int)<=(i:Int)+1:=by omega
 have hin:(i:Int)+1<=(n:Int):=by omega
 have hic:i<=c:=by omega
 have yn:i+1<=n:=by omega
 have hsz:(Tryz.prog.info? 104).map (·.size)=some 2:=by kernel_rfl
 have hdl:(fl (l.drop (i+1))).length=2*(n-(i+1)):=by rw[jI,zd,hn]
 have hdr:=P5 l (i+1);have h0:=h.drewN 1
 have happ:∀ao,(ao=(⟨g,(i+1)*2,none⟩:Addr)\/i+1=n)->∀sc,(Builtin.append_ #[100,100] 100 #[.slice g i c,.slice (some ao) (n-(i+1)) sc]).run Tryz.prog W.drew= .ok (.slice g (n-1) c) (W.drew.setCells g (i*2) (fl (l.drop (i+1)))):=λ ao hao sc=>by
  have hs:Src Tryz.prog 2 100 (.slice (some ao) (n-(i+1)) sc) (n-(i+1)) (fl (l.drop (i+1))) W.drew:=Src.ofSlice W.drew Tryz.underlying100 ao (n-(i+1)) sc _ (by rw[hdl,Nat.mul_comm]) (λ j u hj=>by
   rcases hao with rfl|e
   ·rw[UK.lQ];exact h0.at' ((i+1)*2+j) u (by rw[hdr,eY]at hj;rw[Nat.mul_comm];exact hj)
   have:j<(fl (l.drop (i+1))).length:=(dE.1 hj).1;rw[hdl]at this;omega) (P6 _)
  have hr:=run_append_room_src (P:=Tryz.prog) W.drew 100 100 100 104 Tryz.t104 Tryz.underlying100 rfl g 0 i c _ _ _ hs (by omega) (λ j hj=>(h0.there _ (by rw[hdl]at hj;show 0+i*2+j<2*c;omega)).1) (λ j hj=>(h0.there _ (by rw[hdl]at hj;show 0+i*2+j<2*c;omega)).2);rw[show i+(n-(i+1))=n-1 by omega,show 0+i*Tryz.t104.size=i*2 by show 0+i*2=i*2;omega]at hr;exact hr
 have r1:Row (W.drew.setCells g (i*2) (fl (l.drop (i+1)))) g (2*c) (fl (l.take i++l.drop (i+1))++(fl l).drop (2*(n-1))):=h0.setCells (i*2) (fl (l.drop (i+1))) (by rw[hdl];omega) _ (by rw[zl,jI,zl,zt,zd,zd,aD];omega)
  (λ j hj=>by
   rw[hdl]at hj;rw[bI (by rw[jI,zl,zt,zd];omega),ym,bP (by rw[jI,zt];omega),jI,zt,show i*2+j-2*min i l.length=j by omega])
  (λ j hj hh=>by
   rw[zl,jI,zl,zt,zd,zd,aD]at hj;rw[hdl]at hh;refine⟨by rw[aD];omega,?_⟩;rcases hh with hh|hh
   ·rw[bI (by rw[jI,zl,zt,zd];omega),ym,bI (by rw[jI,zt];omega),IR,eX (by omega)]
   rw[bP (by rw[jI,zl,zt,zd];omega),jI,zl,zt,zd,eY]
   congr 1
   omega)
 have o1:Only g W (W.drew.setCells g (i*2) (fl (l.drop (i+1)))):=UK.Only.setCells _ _ (Only.refl g W).drew;generalize hW1:W.drew.setCells g (i*2) (fl (l.drop (i+1)))=W1 at r1 o1 happ;have yo:(Builtin.clear_ #[100] 0 #[.slice (g,(n-1)*2) 1 (c-(n-1))]).run Tryz.prog W1= .ok (.tuple #[]) (W1.setCells g ((n-1)*2) zE):=UK.xnn (P:=Tryz.prog) W1 100 104 0 (.agg #[.int .u64 0,.slice none 0 0]) Tryz.underlying100 (λ w=>by kernel_rfl) (by decide) g ((n-1)*2) (c-(n-1)) (λ j hj=>(r1.there _ (by have:j<2:=hj;omega)).1) (λ j hj=>(r1.there _ (by have:j<2:=hj;omega)).2);have hlf:(fl (l.take i++l.drop (i+1))).length=2*(n-1):=by rw[jI,zl,zt,zd];omega
 have fin:Row (W1.setCells g ((n-1)*2) zE) g (2*c) (fl (l.take i++l.drop (i+1)))/\Only g W (W1.setCells g ((n-1)*2) zE):=by
  have rk:Row (W1.setCells g ((n-1)*2) zE) g (2*c) (fl (l.take i++l.drop (i+1))++zE):=r1.setCells ((n-1)*2) zE (by show(n-1)*2+2<=_;omega) _ (by rw[zl,hlf];show 2*(n-1)+2<=_;omega) (λ j hj=>by
   rw[bP (by rw[hlf];omega),hlf,show(n-1)*2+j-2*(n-1)=j by omega]) (λ j hj hh=>by
   rw[zl,hlf]at hj;have hj2:j<2*(n-1)+2:=hj;have Bw:j<(n-1)*2\/(n-1)*2+2<=j:=hh;have Gy:j<2*(n-1):=by omega
   refine⟨by rw[zl,hlf];omega,?_⟩;rw[bI (by rw[hlf];exact Gy),bI (by rw[hlf];exact Gy)])
  have:=rk.take (2*(n-1));rw[qE (by rw[hlf];exact aO _),fO (by rw[hlf];exact aO _)]at this;exact⟨this,UK.Only.setCells _ _ o1⟩
 have HF:=zH fin;have HA:=zH happ;clear fin r1 o1 h0 hdr hdl hsz happ h hW1 hlf;rw[<-hn]at hl hi hle ⊢;have hnc:(n:Int)<=(c:Int):=by omega
 clear hn aD hle;have bi:n-(n-1)=1:=by omega
 have hz3:((i:Int)==(i:Int)+1)=false:=beq_eq_false_iff_ne.2 hz2;have yt:¬(c=n-1):=by omega
 have hnn:((n-1:Nat):Int)<=(n:Int):=by omega
 by_cases hce:c=i+1
 ·obtain rfl:n=i+1:=by omega
  subst hce
  have e1:(Builtin.append_ #[100,100] 100 #[.slice g i (i+1),.slice g 0 0]).run Tryz.prog W.drew= .ok (.slice g i (i+1)) W1:=by
   have:=HA.out ⟨g,0,none⟩ (.inr rfl) 0;rw[kN,Nat.add_sub_cancel]at this;exact this
  rw[Nat.add_sub_cancel,qJ]at yo;rw[Nat.add_sub_cancel]at HF ⊢;have E1:=zH e1;have IU:¬(i+1=i):=by omega
  clear HA e1 bi yt hnn hin hic yn hi hz2;have hii:(i:Int)<=(i:Int)+1:=by omega
  go_enter Tryz.func99,Tryz.ntmps99
  go_wp2_with fail
  go_region_law (refine UK.aG E1.out rfl rfl rfl (by simp[Act.eval,Act.put]) (by simp[Act.eval,Act.put]) ?_)
  go_wp2;go_ret
  exact⟨rfl,HF.out⟩
 go_enter Tryz.func99,Tryz.ntmps99
 go_wp2_with fail
 go_region_law (refine UK.aG (HA.out ⟨g,(i+1)*2,none⟩ (.inl rfl) (c-(i+1))) rfl rfl rfl (by simp[Act.eval,Act.put]) (by simp[Act.eval,Act.put]) ?_)
 go_wp2;go_ret
 exact⟨rfl,HF.out⟩
end Go.Proofs.YtgpmiliahonaoaaGreatDoor
