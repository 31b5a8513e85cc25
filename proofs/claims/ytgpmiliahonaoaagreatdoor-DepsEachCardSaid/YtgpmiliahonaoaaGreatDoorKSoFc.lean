/- Facts on texts and trees on pages. -/
import Derived.Test.YtgpmiliahonaoaaGreatDoorKTreeFc
import Derived.Deep.CutBlock
set_option maxRecDepth 100000
set_option maxHeartbeats 8000000
set_option linter.unusedSimpArgs false
namespace Go.Proofs.YtgpmiliahonaoaaGreatDoor
open Go.RowKit Go.BigFrame
open UK (str aF nth Only Row ay)
namespace UK
theorem Ms{P:Program}(w:World)(dT sT ty elem:TypeId)(q b o dLen dCap:Nat)(a:Addr)(sLen sCap:Nat)(cs:List Value)
  (hu:P.underlying dT=some (.slice elem)) (hs:(P.info? elem).map (·.size)=some q) (hn:cs.length=Nat.min sLen dLen*q)
  (hsrc:∀j v,cs[j]?=some v->w.cell? (a.add j)=some v) (hc:∀j,j<cs.length->(w.cell? ⟨b,o+j,none⟩).isSome=true) (hf:∀j,j<cs.length->w.frozen? ⟨b,o+j,none⟩=false) (h1:∀v∈cs,v.oneCell'=true) :
  (Builtin.copy_ #[dT,sT] ty #[.slice (b,o) dLen dCap,.slice (some a) sLen sCap]).run P w= .ok (goInt (Nat.min sLen dLen)) (w.setCells b o cs):=by
 have hl:=run_firstCells_some (P:=P) w q (Nat.min sLen dLen) a sLen sCap cs hn hsrc;have hst:=run_storeCells_cells (P:=P) b o cs 0 w (by simpa using hc) (by simpa using hf) h1
 cases hq:P.info? elem with
 | none=>simp[hq]at hs
 | some i=>
  have hi:i.size=q:=by simpa[hq]using hs
  generalize hm:Nat.min sLen dLen=m at hl hn ⊢;simp[Builtin.copy_,run_underlying hu,Builtin.lenOf,sizeOf,typeInfo,hq,hi,hm,hl,hst]
theorem Ad(z:Array Value)(n:Nat):(Builtin.zeroCells z n).size=n*z.size:=by simp[Builtin.zeroCells]
theorem Ux(z:Array Value):Builtin.zeroCells z 1=z:=by
 apply Array.ext
 ·simp[Builtin.zeroCells]
 intro i h1 h2;simp[Builtin.zeroCells,wV h2,h2]
theorem xj2(z:Array Value)(n m:Nat):Builtin.zeroCells z (n+m)=Builtin.zeroCells z n++Builtin.zeroCells z m:=by
 apply Array.ext
 ·rw[Array.size_append,Ad,Ad,Ad,Nat.add_mul]
 intro i h1 h2;rw[Array.getElem_append]
 split
 ·simp[Builtin.zeroCells]
 rename_i h3
 rw[Ad]at h3;simp only[Builtin.zeroCells,Array.getElem_map,Array.getElem_range,Array.size_map,Array.size_range]
 congr 1
 rw[show i=(i-n*z.size)+n*z.size by omega,Nat.add_mul_mod_self_right,Nat.add_sub_cancel]
theorem xnn{P:Program}(w:World)(t e ty:TypeId)(z:Value)(ht:P.underlying t=some (.slice e))(hv:∀w,(zeroValue e).run P w= .ok z w)(h1:∀v∈z.cells.toList,v.oneCell'=true)(b o c:Nat)
  (hc:∀j,j<z.cells.size->(w.cell? ⟨b,o+j,none⟩).isSome=true) (hf:∀j,j<z.cells.size->w.frozen? ⟨b,o+j,none⟩=false) :
  (Builtin.clear_ #[t] ty #[.slice (b,o) 1 c]).run P w= .ok (.tuple #[]) (w.setCells b o z.cells.toList):=by
 have hst:=run_storeCells_cells (P:=P) b o z.cells.toList 0 w (by simpa using hc) (by simpa using hf) h1;simp only[jN]at hst;simp[Builtin.clear_,run_underlying ht,hv,Ux,hst]
theorem xl0{P:Program}{t tn ty e:TypeId}{i:TypeInfo}{z:Value}{kn:IntKind}{q:Nat}(ht:P.underlying t=some (.slice e))(htn:P.underlying tn=some (.int kn))(hi:P.info? e=some i)(hz:i.zero=some z)(hs1:i.size=q)(h0q:0<q)(h16:i.bytes<=64)(hzs:z.cells.size=q)
  {W:World} {g c m:Nat} {vs:List Value} (h:Row W g (q*c) vs) (hm:vs.length=q*m) (n:Nat) (h0:0<n) (hg:c<m+n) (aD:m+n<=1000000000) :
  ∃c' W',(Builtin.append_ #[t,tn] ty #[.slice g m c,.int .i64 n]).run P W= .ok (.slice W (m+n) c') W'/\Row W' W (q*c') (vs++(Builtin.zeroCells z.cells n).toList)/\m+n<=c'/\Below W W W':=by
 have hn:n≠0:=by omega
 have hw:IntKind.i64.wrap (n:Int)=n:=by rw[dJ];omega
 have h63':¬(9223372036854775807<((m:Int)+(n:Int))):=by omega
 have Py:n*i.bytes<=n*64:=Nat.mul_le_mul_left n h16
 have h48i:¬(281474976710656<(n:Int)*(i.bytes:Int)):=by
  rw[<-Int.natCast_mul];omega
 have hneg:¬((n:Int)<0):=by omega
 have hf:¬(m+n<=c):=by omega
 have h48':¬(281474976710656<Builtin.nextslicecap (m+n) c*i.bytes):=by
  have hfit:(m+n)*i.bytes<=140737488355328:=aP (Nat.mul_le_mul aD h16) (by decide);have:=growslice_fits (show c<m+n by omega) hfit;omega
 have hold:(Builtin.firstCells q m (.slice g m c)).run P W.drew= .ok vs.toArray W.drew:=
  run_firstCells_some W.drew q m ⟨g,0,none⟩ m c vs (by rw[hm,Nat.mul_comm]) (λ j v hj=>by
   have hjl:j<vs.length:=(dE.1 hj).1;rw[lQ,eG];exact(h.holds j hjl).trans hj)
 have hge:=grownCap_ge W (m+n) c e
 have hn2:¬(n*q=0):=by
  have:=Nat.mul_pos h0 h0q;omega
 obtain⟨d,hd⟩:∃d,grownCap W (m+n) c e=m+n+d:=⟨grownCap W (m+n) c e-(m+n),by omega⟩;have hb:=ay.new W.drew (vs.toArray++Builtin.zeroCells z.cells n++Builtin.zeroCells z.cells d) e;refine⟨m+n+d,W.drew.alloc (.cells (vs.toArray++Builtin.zeroCells z.cells n++Builtin.zeroCells z.cells d) e),?_,?_,Nat.le_add_right _ _,(aV W W).drew.alloc (aO _) _⟩
 ·have hd2:grownCap W (m+n) c e-(m+n)=d:=by omega
  rw[<-hd];rw[<-hd2];unfold grownCap at *;have hq0:¬q=0:=by omega
  simp[Builtin.append_,run_underlying ht,run_underlying htn,sizeOf,typeInfo,zeroValue,hi,hz,hs1,asInt,asIntOf,hw,hn2,hneg,h48i,hf,h63',h48',Question.forced,hold,newRow]
 have hr:=hb.row
 have hsz:(vs.toArray++Builtin.zeroCells z.cells n++Builtin.zeroCells z.cells d).size=q*(m+n+d):=by
  rw[Array.size_append,Array.size_append,List.size_toArray,Ad,Ad,hzs,hm,Nat.mul_add,Nat.mul_add,Nat.mul_comm n q,Nat.mul_comm d q]
 rw[hsz]at hr;have:=hr.take (q*(m+n))
 have e1:(vs.toArray++Builtin.zeroCells z.cells n++Builtin.zeroCells z.cells d).toList.take (q*(m+n))=vs++(Builtin.zeroCells z.cells n).toList:=by
  rw[Array.toList_append,qE]
  ·rw[Array.toList_append,fO];show(vs++(Builtin.zeroCells z.cells n).toList).length<=_;rw[zl,show(Builtin.zeroCells z.cells n).toList.length=n*q by rw[Array.length_toList,Ad,hzs],hm,Nat.mul_add,Nat.mul_comm n q];omega
  rw[Array.length_toList,Array.size_append,Ad,hzs,Nat.mul_add,Nat.mul_comm n q];show _<=vs.length+_;omega
 rw[e1]at this;exact this
end UK
open Go.RowKit
open UK (Only)
namespace So
def swp(f:Nat->UInt64)(i j:Nat):Nat->UInt64:=λ k=>if k=i then f j else if k=j then f i else f k
theorem xG(f:Nat->UInt64)(i j:Nat):swp f i j i=f j:=by simp[swp]
theorem Fu(f:Nat->UInt64)(i j:Nat):swp f i j j=f i:=by unfold swp;by_cases h:j=i<;>simp[h]
theorem mq{f:Nat->UInt64}{i j k:Nat}(h1:k≠i)(h2:k≠j):swp f i j k=f k:=by simp[swp,h1,h2]
inductive Sh(a b:Nat)(f:Nat->UInt64):(Nat->UInt64)->Prop
 | refl:Sh a b f f
 | swap {g:Nat->UInt64} {i j:Nat} (h:Sh a b f g) (hi:a<=i/\i<b) (hj:a<=j/\j<b):Sh a b f (swp g i j)
variable{a b c d i j:Nat}{f g h:Nat->UInt64}
theorem Sh.trans(h1:Sh a b f g)(h2:Sh a b g h):Sh a b f h:=by
 induction h2 with
 | refl=>exact h1
 | swap _ hi hj ih=>exact ih.swap hi hj
theorem Sh.wide(h1:Sh a b f g)(hc:c<=a)(hd:b<=d):Sh c d f g:=by
 induction h1 with
 | refl=>exact .refl
 | swap _ hi hj ih=>exact ih.swap ⟨by omega,by omega⟩ ⟨by omega,by omega⟩
theorem Sh.out(h1:Sh a b f g){k:Nat}(hk:k<a\/b<=k):g k=f k:=by
 induction h1 with
 | refl=>rfl
 | swap _ hi hj ih=>rw[mq (by omega) (by omega)];exact ih
theorem Sh.all(h1:Sh a b f g){P:UInt64->Prop}(hP:∀k,a<=k->k<b->P (f k)):∀k,a<=k->k<b->P (g k):=by
 induction h1 with
 | refl=>exact hP
 | @swap g i j _ hi hj ih=>
  intro k h1 h2;unfold swp
  split
  ·exact ih j hj.1 hj.2
  split
  ·exact ih i hi.1 hi.2
  exact ih k h1 h2
theorem Sh.zx(h1:Sh a b f g){P:UInt64->Prop}(hP:∀k,a<=k->k<b->P (g k)):∀k,a<=k->k<b->P (f k):=by
 induction h1 with
 | refl=>exact hP
 | @swap g i j _ hi hj ih=>
  refine ih (λ k h1 h2=>?_);by_cases e:k=i
  ·subst e;have:=hP j hj.1 hj.2;rw[Fu]at this;exact this
  by_cases e2:k=j
  ·subst e2;have:=hP i hi.1 hi.2;rw[xG]at this;exact this
  have:=hP k h1 h2;rw[mq e e2]at this;exact this
def lh(a b:Nat)(f:Nat->UInt64):Prop:=∀i j,a<=i->i<j->j<b->(f i).toNat<=(f j).toNat
structure Ins(a i j:Nat)(f:Nat->UInt64):Prop where
 rest:∀x y,a<=x->x<y->y<=i->x≠j->y≠j->(f x).toNat<=(f y).toNat
 over:∀y,j<y->y<=i->(f j).toNat<=(f y).toNat
theorem Ins.start(h:lh a i f):Ins a i i f:=⟨λ x y h1 h2 h3 h4 h5=>h x y h1 h2 (by omega),λ y h1 h2=>by omega⟩
theorem Ins.step(h:Ins a i (j+1) f)(hj:a<=j)(hji:j+1<=i)(hl:(f (j+1)).toNat<(f j).toNat):Ins a i j (swp f (j+1) j):=by
 refine⟨λ x y h1 h2 h3 h4 h5=>?_,λ y h1 h2=>?_⟩
 ·by_cases e1:x=j+1
  ·subst e1;rw[xG,mq (by omega) (by omega)];exact h.rest j y hj (by omega) h3 (by omega) (by omega)
  by_cases e2:y=j+1
  ·subst e2;rw[xG,mq e1 h4];exact h.rest x j h1 (by omega) (by omega) e1 (by omega)
  rw[mq e1 h4,mq e2 h5];exact h.rest x y h1 h2 h3 e1 e2
 rw[Fu];by_cases e:y=j+1
 ·subst e;rw[xG];omega
 rw[mq e (by omega)];exact h.over y (by omega) h2
theorem Ins.done(h:Ins a i j f)(hj:a<=j)(hji:j<=i)(hl:j=a\/∃k,j=k+1/\¬(f j).toNat<(f k).toNat):lh a (i+1) f:=by
 intro x y h1 h2 h3;by_cases e1:x=j
 ·subst e1;exact h.over y h2 (by omega)
 by_cases e2:y=j
 ·subst e2;rcases hl with hl|⟨k,hk,hl⟩
  ·omega
  by_cases e3:x=k
  ·subst e3;omega
  have:=h.rest x k h1 (by omega) (by omega) e1 (by omega);omega
 exact h.rest x y h1 h2 (by omega) e1 e2
structure dC(W:World)(g n:Nat)(f:Nat->UInt64):Prop where
 lt:g<W.heap.size
 cell:∀j,j<n->W.cell? ⟨g,j,none⟩=some (.int .u64 ((f j).toNat:Int))
 free:∀j,j<n->W.frozen? ⟨g,j,none⟩=false
theorem dC.ae{W W':World}{g n:Nat}{f:Nat->UInt64}(h:dC W g n f)(hs:W.heap.size<=W'.heap.size)(hb:W'.heap[g]?=W.heap[g]?):dC W' g n f:=
 ⟨bZ h.lt hs,λ j hj=>(gq (a:=⟨g,j,none⟩) hb).trans (h.cell j hj),λ j hj=>(World.frozen?_of_block (a:=⟨g,j,none⟩) hb).trans (h.free j hj)⟩
theorem dC.drewN{W:World}{g n:Nat}{f:Nat->UInt64}(h:dC W g n f)(m:Nat):dC (W.drewN m) g n f:=h.ae (aO _) rfl
theorem dC.set{W:World}{g n:Nat}{f:Nat->UInt64}(h:dC W g n f){i:Nat}(hi:i<n)(v:UInt64):dC (W.setCell (g,i) (.int .u64 (v.toNat:Int))) g n (λ k=>if k=i then v else f k):=by
 refine⟨by simpa[World.setCell]using h.lt,λ j hj=>?_,λ j hj=>?_⟩
 ·by_cases e:j=i
  ·subst e;simp only[if_pos];exact World.cell?_setCell_same _ _ _ (h.cell j hj)
  simp only[if_neg e];rw[World.cell?_setCell_other _ _ _ _ (λ h=>e (by injection h;omega))];exact h.cell j hj
 rw[World.frozen?_setCell];exact h.free j hj
theorem dC.swap{W:World}{g n:Nat}{f:Nat->UInt64}(h:dC W g n f){i j:Nat}(hi:i<n)(hj:j<n) :
  dC ((W.setCell (g,i) (.int .u64 ((f j).toNat:Int))).setCell (g,j) (.int .u64 ((f i).toNat:Int))) g n (swp f i j):=by
 have:=(h.set hi (f j)).set hj (f i);refine⟨this.lt,λ k hk=>?_,this.free⟩;rw[this.cell k hk];unfold swp;by_cases e1:k=j
 ·by_cases e2:k=i
  ·simp[e1,<-e2]
  simp[e1,show ¬j=i by omega]
 by_cases e2:k=i
 ·simp[e2,show ¬i=j by omega]
 simp[e1,e2]
theorem vC(a b:UInt64)(w:World) :
  Calls Tryz.prog 190 #[.int .u64 a.toNat,.int .u64 b.toNat] w λ e w'=>e= .returned (.bool (decide (a.toNat<b.toNat)))/\w'=w:=by
 go_enter Tryz.func190,Tryz.ntmps190
 go_wp2;go_ret
 exact⟨rfl,rfl⟩
theorem dC.two{W:World}{B n i j:Nat}(h:dC W B n f)(hi:i<n)(hj:j<n) :
  W.cell? (B,i)=some (.int .u64 ((f i).toNat:Int))/\W.cell? (B,j)=some (.int .u64 ((f j).toNat:Int))/\W.frozen? ⟨B,i,none⟩=false/\W.frozen? ⟨B,j,none⟩=false /\
  W.drew.cell? (B,i)=some (.int .u64 ((f i).toNat:Int))/\W.drew.cell? (B,j)=some (.int .u64 ((f j).toNat:Int))/\W.drew.frozen? ⟨B,i,none⟩=false/\W.drew.frozen? ⟨B,j,none⟩=false /\
  (W.setCell (B,i) (.int .u64 ((f j).toNat:Int))).cell? (B,j)=some (.int .u64 ((f j).toNat:Int))/\(W.setCell (B,i) (.int .u64 ((f j).toNat:Int))).drew.cell? (B,j)=some (.int .u64 ((f j).toNat:Int)):=by
 have hc:(W.setCell (B,i) (.int .u64 ((f j).toNat:Int))).cell? (B,j)=some (.int .u64 ((f j).toNat:Int)):=by
  rw[(h.set hi (f j)).cell j hj]
  split<;>rfl
 exact⟨h.cell i hi,h.cell j hj,h.free i hi,h.free j hj,h.cell i hi,h.cell j hj,h.free i hi,h.free j hj,hc,hc⟩
theorem dC.swapped{W0 W:World}{B n i j:Nat}(h:dC W B n f)(ho:Only B W0 W)(hi:i<n)(hj:j<n) :
  dC ((W.setCell (B,i) (.int .u64 ((f j).toNat:Int))).setCell (B,j) (.int .u64 ((f i).toNat:Int))).drew B n (swp f i j)/\Only B W0 ((W.setCell (B,i) (.int .u64 ((f j).toNat:Int))).setCell (B,j) (.int .u64 ((f i).toNat:Int))).drew:=
 ⟨(h.swap hi hj).drewN 1,((ho.set i _).set j _).drewN 1⟩
theorem dC.at_{W0 W:World}{B n:Nat}(h:dC W B n f)(ho:Only B W0 W)(nq:Nat):∃w2,w2=W.drewN nq/\dC w2 B n f/\Only B W0 w2:=⟨_,rfl,h.drewN nq,ho.drewN nq⟩
theorem yal{W:World}{B n cap:Nat}(h:dC W B n f)(hab:a<=b)(hb:b<=n)(hn:n<=1000000) :
  Calls Tryz.prog 184 #[.slice B n cap,.int .i64 a,.int .i64 b] W λ e w'=>e= .returned (.tuple #[])/\∃f',Sh a b f f'/\lh a b f'/\dC w' B n f'/\Only B W w':=by
 go_enter Tryz.func184,Tryz.ntmps184
 go_wp2_with fail
 go_loopw [6] (λ kv wr=>∃(i:Nat) (f':Nat->UInt64),kv= .int .i64 i/\a+1<=i/\(i<=b\/i=a+1)/\Sh a b f f'/\lh a i f'/\dC wr B n f'/\Only B W wr) (λ kv _=>1000002-(intOf kv).toNat)
 case atStart=>exact⟨a+1,f,by go_num,aO _,.inr rfl,.refl,λ x y h1 h2 h3=>by omega,h,Only.refl _ _⟩
 obtain⟨i,f1,rfl,hi1,hi2,hs,hr,hu,ho⟩:=hrel;clear h;by_cases hlt:i<b
 ·have i1:(i:Int)<b:=by omega
  go_wp2_with fail
  go_loopw [7] (λ kv w1=>∃(j:Nat) (f2:Nat->UInt64),kv= .int .i64 j/\a<=j/\j<=i/\Sh a b f f2/\Ins a i j f2/\dC w1 B n f2/\Only B W w1) (λ kv _=>(intOf kv).toNat)
  case atStart=>exact⟨i,f1,rfl,by omega,aO _,hs,Ins.start hr,hu,ho⟩
  clear hu ho hs hr;obtain⟨j,f2,rfl,hj1,hj2,hs,hr,hu,ho⟩:=hrel;by_cases hja:j=a
  ·subst hja;have HX:=zH (zA hs (zA (hr.done (aO _) hj2 (.inl rfl)) (zA hu ho)));clear hs hr hu ho
   go_wp2_with fail
   go_quiet (fail)
   go_wp2;go_roundw
   case rel=>exact⟨i+1,f2,by go_num,by omega,.inl (by omega),HX.out.1,HX.out.2.1,HX.out.2.2.1.drewN _,HX.out.2.2.2.drewN _⟩
   case measure=>simp[intOf];omega
  obtain⟨k,rfl⟩:∃k,j=k+1:=⟨j-1,by omega⟩;have c1:=λ m=>(hu.drewN m).cell (k+1) (by omega);have c2:=λ m=>(hu.drewN m).cell k (by omega);have g1:(a:Int)<(k:Int)+1:=by omega
  have e1:wrap64 ((k:Int)+1-1)=(k:Int):=by unfold wrap64;omega
  have e2:((k:Int)+1<n):=by omega
  have e3:((k:Int)<n):=by omega
  have hL:=λ m=>vC (f2 (k+1)) (f2 k) (wr.drewN m);have HX:=zH (zA hs (zA hr (zA hu ho)));clear hs hr hu ho;by_cases hl:(f2 (k+1)).toNat<(f2 k).toNat
  ·rw[decide_eq_true hl]at hL
   go_wp2_with fail
   go_quiet (first|(go_at_call 190;refine Calls.quiet_of_same (hL _)))
   obtain⟨hs,hr,hu,ho⟩:=HX.out;obtain⟨w2,hw2,hu2,ho2⟩:=hu.at_ ho nq;rw[<-hw2];obtain⟨c1,c2,d1,d2,c3,c4,d3,d4,c5,c6⟩:=hu2.two (i:=k+1) (j:=k) (by omega) (by omega);have HU:=zH (hu2.swapped ho2 (i:=k+1) (j:=k) (by omega) (by omega));clear hw2 hu2 ho2 hu ho hL hs hr
   go_wp2_with fail
   go_region
   go_wp2;go_roundw
   case rel=>exact⟨k,_,by go_num,by omega,by omega,HX.out.1.swap (i:=k+1) (j:=k) ⟨by omega,by omega⟩ ⟨by omega,by omega⟩,HX.out.2.1.step (by omega) hj2 hl,HU.out.1,HU.out.2⟩
   case measure=>simp[intOf]
  rw[decide_eq_false hl]at hL
  go_wp2_with fail
  go_quiet (first|(go_at_call 190;refine Calls.quiet_of_same (hL _)))
  go_wp2;go_roundw
  case rel=>exact⟨i+1,f2,by go_num,by omega,.inl (by omega),HX.out.1,HX.out.2.1.done hj1 hj2 (.inr ⟨k,rfl,hl⟩),HX.out.2.2.1.drewN _,HX.out.2.2.2.drewN _⟩
  case measure=>simp[intOf];omega
 have i1:¬(i:Int)<b:=by omega
 go_wp2
 go_end0
 exact⟨rfl,f1,hs,λ x y h1 h2 h3=>hr x y h1 h2 (by omega),hu,ho⟩
end So
open Go.RowKit
open UK (Only)
open Go.BigFrame
namespace So
variable{a b c d i j:Nat}{f g h:Nat->UInt64}
def Hp(o lo hi:Nat)(f:Nat->UInt64):Prop:=∀k c,lo<=k->(c=2*k+1\/c=2*k+2)->c<hi->(f (o+c)).toNat<=(f (o+k)).toNat
structure Ch(o lo hi r:Nat)(f:Nat->UInt64):Prop where
 rest:∀k c,lo<=k->k≠r->(c=2*k+1\/c=2*k+2)->c<hi->(f (o+c)).toNat<=(f (o+k)).toNat
 KG:∀k c,lo<=k->(r=2*k+1\/r=2*k+2)->(c=2*r+1\/c=2*r+2)->c<hi->(f (o+c)).toNat<=(f (o+k)).toNat
variable{o lo hi r:Nat}
theorem Ch.start(h:Hp o (lo+1) hi f):Ch o lo hi lo f:=⟨λ k c h1 h2 h3 h4=>h k c (by omega) h3 h4,λ k c h1 h2 _ _=>by omega⟩
theorem Ch.done(h:Ch o lo hi r f)(hc:∀c,(c=2*r+1\/c=2*r+2)->c<hi->(f (o+c)).toNat<=(f (o+r)).toNat):Hp o lo hi f:=λ k c h1 h2 h3=>by
 by_cases e:k=r
 ·subst e;exact hc c h2 h3
 exact h.rest k c h1 e h2 h3
theorem Ch.step(h:Ch o lo hi r f)(hr:lo<=r){c:Nat}(hc:c=2*r+1\/c=2*r+2)(hch:c<hi)(hl:(f (o+r)).toNat<(f (o+c)).toNat)
  (hm:∀c',(c'=2*r+1\/c'=2*r+2)->c'<hi->(f (o+c')).toNat<=(f (o+c)).toNat):Ch o lo hi c (swp f (o+r) (o+c)):=by
 refine⟨λ k x h1 h2 h3 h4=>?_,λ k x h1 h2 h3 h4=>?_⟩
 ·by_cases e:k=r
  ·subst e;rw[xG];by_cases e2:x=c
   ·subst e2;rw[Fu];omega
   rw[mq (by omega) (by omega)];exact hm x h3 h4
  rw[mq (f:=f) (k:=o+k) (by omega) (by omega)];by_cases e2:x=r
  ·subst e2;rw[xG];exact h.KG k c h1 h3 hc hch
  rw[mq (by omega) (by omega)];exact h.rest k x h1 e h3 h4
 have e:k=r:=by omega
 subst e;rw[xG,mq (by omega) (by omega)];exact h.rest c x (by omega) (by omega) h3 h4
theorem Hp.top(h:Hp o 0 hi f):∀k,k<hi->(f (o+k)).toNat<=(f o).toNat:=by
 intro k
 induction k using Nat.strongRecOn with
 | ind k ih=>
  intro hk;by_cases e:k=0
  ·subst e;exact aO _
  have h1:=h ((k-1)/2) k (aY _) (by omega) hk;have h2:=ih ((k-1)/2) (by omega) (by omega);omega
theorem Xf{W:World}{B n cap:Nat}(h:dC W B n f)(hn:n<=1000000)(hh:o+hi<=n)(hlo:lo<=hi)(hp:Hp o (lo+1) hi f) :
  Calls Tryz.prog 239 #[.slice B n cap,.int .i64 lo,.int .i64 hi,.int .i64 o] W λ e w'=>e= .returned (.tuple #[])/\∃f',Sh o (o+hi) f f'/\Hp o lo hi f'/\dC w' B n f'/\Only B W w':=by
 go_enter Tryz.func239,Tryz.ntmps239
 go_wp2_with fail
 go_loopw [8] (λ kv wr=>∃(r:Nat) (f':Nat->UInt64),kv= .int .i64 r/\lo<=r/\r<=hi/\Sh o (o+hi) f f'/\Ch o lo hi r f'/\dC wr B n f'/\Only B W wr) (λ kv _=>1000002-(intOf kv).toNat)
 case atStart=>exact⟨lo,f,rfl,aO _,hlo,.refl,Ch.start hp,h,Only.refl _ _⟩
 obtain⟨r,f1,rfl,hr1,hr2,hs,hx,hu,ho⟩:=hrel;clear h hp;have w2:wrap64 (2*(r:Int))=2*(r:Int):=by unfold wrap64;omega
 by_cases h0:¬2*r+1<hi
 ·have w1:wrap64 (2*(r:Int)+1)=2*(r:Int)+1:=by unfold wrap64;omega
  have i1:(hi:Int)<=2*(r:Int)+1:=by omega
  go_wp2
  go_end0
  exact⟨rfl,f1,hs,hx.done (λ c h1 h2=>by omega),hu,ho⟩
 replace h0:=Decidable.of_not_not h0;obtain⟨ch,hch⟩:∃ch:Nat,ch=2*r+1:=⟨_,rfl⟩;have w1:wrap64 (2*(r:Int)+1)=(ch:Int):=by unfold wrap64;omega
 have w1':2*(r:Int)+1=(ch:Int):=by omega
 have w1k:IntKind.i64.wrap (2*(r:Int)+1)=(ch:Int):=by rw[dJ];omega
 by_cases h1:ch<hi
 ·have i1:¬(hi:Int)<=(ch:Int):=by omega
  have HX:=zH (zA hs (zA hx (zA hu ho)));have HC:=zH hch;have i2:(o:Int)+ch<n:=by omega
  clear hs hx ho hch
  go_upto_region 3 with(fail)
  go_cut [36] (λ v wx=>∃(t:Bool) (nq:Nat),v= .bool t/\Hid (t=true↔ch+1<hi/\(f1 (o+ch)).toNat<(f1 (o+ch+1)).toNat)/\wx=wr.drewN nq)
  case first=>
   by_cases h2:ch+1<hi
   ·have i3:(ch:Int)+1<hi:=by omega
    have i4:(o:Int)+ch+1<n:=by omega
    have c1:=λ m=>(hu.drewN m).cell (o+ch) (by omega);have c2:=λ m=>(hu.drewN m).cell (o+ch+1) (by omega);have hL:=λ m=>vC (f1 (o+ch)) (f1 (o+ch+1)) (wr.drewN m);clear hu;by_cases hl:(f1 (o+ch)).toNat<(f1 (o+ch+1)).toNat
    ·rw[decide_eq_true hl]at hL
     go_wp2_with fail
     go_quiet (first|(go_at_call 190;refine Calls.quiet_of_same (hL _)))
     go_wp2;go_meet
     case rel=>exact⟨true,nq,rfl,zH ⟨λ _=>⟨h2,hl⟩,λ _=>rfl⟩,rfl⟩
    rw[decide_eq_false hl]at hL
    go_wp2_with fail
    go_quiet (first|(go_at_call 190;refine Calls.quiet_of_same (hL _)))
    go_wp2;go_meet
    case rel=>exact⟨false,nq,rfl,zH ⟨λ h=>(by cases h),λ h=>absurd h.2 hl⟩,rfl⟩
   have i3:decide ((ch:Int)+1<hi)=false:=decide_eq_false (by omega);have i4:(hi:Int)<=(ch:Int)+1:=by omega
   go_wp2_with fail
   go_quiet (fail)
   go_wp2;go_meet
   case rel=>exact⟨false,nq,rfl,zH ⟨λ h=>(by cases h),λ h=>absurd h.1 h2⟩,rfl⟩
  case rest=>
  obtain⟨t,nq,rfl,hT,rfl⟩:=hcut
  go_upto_if 36 with(fail)
  go_cut [9] (λ v wx=>∃c:Nat,v= .int .i64 c/\Hid ((c=2*r+1\/c=2*r+2)/\c<hi/\∀c',(c'=2*r+1\/c'=2*r+2)->c'<hi->(f1 (o+c')).toNat<=(f1 (o+c)).toNat)/\wx=wr.drewN nq)
  case first=>
   cases t with
   | true=>
    obtain⟨h2,hl⟩:=hT.out.1 rfl
    go_wp2_with fail
    go_meet
    case rel=>exact⟨ch+1,by go_num,zH ⟨.inr (by rw[HC.out]),h2,λ c' h3 h4=>by
      have:=HC.out;by_cases e:c'=ch
      ·rw[e];exact Nat.le_of_lt hl
      rw[show c'=ch+1 by omega];exact aO _⟩,rfl⟩
   | false=>
    go_wp2_with fail
    go_meet
    case rel=>exact⟨ch,by go_num,zH ⟨by have:=HC.out;omega,h1,λ c' h3 h4=>by
      have:=HC.out;by_cases e:c'=ch
      ·rw[e];exact aO _
      have e2:c'=ch+1:=by omega
      rw[e2]at h4 ⊢;exact Nat.le_of_not_lt (λ hl=>by have:=hT.out.2 ⟨h4,hl⟩;cases this)⟩,rfl⟩
  obtain⟨c,rfl,hC,hw⟩:=hcut;obtain⟨hs,hx,hu,ho⟩:=HX.out;obtain⟨hc1,hc2,hc3⟩:=hC.out;have hu2:dC wc B n f1:=hw▸hu.drewN _;have ho2:Only B W wc:=hw▸ho.drewN _;have c1:=λ m=>(hu2.drewN m).cell (o+r) (by omega);have c2:=λ m=>(hu2.drewN m).cell (o+c) (by omega);have hL:=λ m=>vC (f1 (o+r)) (f1 (o+c)) (wc.drewN m);have i2:(o:Int)+c<n:=by omega
  have i3:(o:Int)+r<n:=by omega
  have hrh:r<hi:=by omega
  have wY:=zH (zA hu2 (zA ho2 (zA hc1 (zA hc2 hc3))));clear hs hx hu ho hC hc1 hc2 hc3 hw hu2 ho2 w1 w1' w1k HC h1 i1 hT nq;by_cases hl:(f1 (o+r)).toNat<(f1 (o+c)).toNat
  ·rw[decide_eq_true hl]at hL
   go_wp2_with fail
   go_quiet (first|(go_at_call 190;refine Calls.quiet_of_same (hL _)))
   obtain⟨hu,ho,hc1,hc2,hc3⟩:=wY.out;obtain⟨w2,hw2,hu2,ho2⟩:=hu.at_ ho nq;rw[<-hw2];obtain⟨c1,c2,d1,d2,c3,c4,d3,d4,c5,c6⟩:=hu2.two (i:=o+r) (j:=o+c) (by omega) (by omega);have HU:=zH (hu2.swapped ho2 (i:=o+r) (j:=o+c) (by omega) (by omega));have HC:=zH (zA hc1 (zA hc2 hc3));clear hw2 hu2 ho2 hu ho hL hc1 hc2 hc3
   go_wp2_with fail
   go_region
   go_wp2;go_roundw
   case rel=>exact⟨c,_,by go_num,by have:=HC.out.1;omega,by have:=HC.out.2.1;omega,HX.out.1.swap (i:=o+r) (j:=o+c) ⟨by omega,by omega⟩ ⟨by omega,by have:=HC.out.2.1;omega⟩,HX.out.2.1.step hr1 HC.out.1 HC.out.2.1 hl HC.out.2.2,HU.out.1,HU.out.2⟩
   case measure=>have:=HC.out.1;have:=HC.out.2.1;simp only[intOf];omega
  rw[decide_eq_false hl]at hL
  go_wp2_with fail
  go_quiet (first|(go_at_call 190;refine Calls.quiet_of_same (hL _)))
  go_wp2;refine bodyPost_ret (results_none rfl _ _ _) rfl ?_
  exact⟨rfl,f1,HX.out.1,HX.out.2.1.done (λ c' h3 h4=>by have:=wY.out.2.2.2.2 c' h3 h4;omega),wY.out.1.drewN _,wY.out.2.1.drewN _⟩
 exact absurd (hch▸h0) h1
theorem xxt{f':Nat->UInt64}{m:Nat}(hm:m+1<=hi)(h:Hp a 0 (m+1) f)(hs:∀i j,i<j->m+1<=j->j<hi->(f (a+i)).toNat<=(f (a+j)).toNat)(hsh:Sh a (a+m) (swp f a (a+m)) f') :
  ∀i j,i<j->m<=j->j<hi->(f' (a+i)).toNat<=(f' (a+j)).toNat:=by
 intro i j h1 h2 h3;have ej:f' (a+j)=swp f a (a+m) (a+j):=hsh.out (.inr (by omega));have top:(f' (a+j)).toNat≥(f' (a+j)).toNat:=aO _
 have key:∀k,a<=k->k<a+m->(swp f a (a+m) k).toNat<=(f' (a+j)).toNat:=by
  intro k k1 k2;obtain⟨x,rfl⟩:∃x,k=a+x:=⟨k-a,by omega⟩;rw[ej];by_cases e:j=m
  ·subst e;rw[Fu];by_cases e2:x=0
   ·subst e2;by_cases e3:j=0
    ·omega
    have e4:swp f a (a+j) (a+0)=f (a+j):=xG f a (a+j);rw[e4];exact h.top j (by omega)
   rw[mq (by omega) (by omega)];exact h.top x (by omega)
  rw[mq (k:=a+j) (by omega) (by omega)];by_cases e2:x=0
  ·subst e2;have e4:swp f a (a+m) (a+0)=f (a+m):=xG f a (a+m);rw[e4];exact hs m j (by omega) (by omega) h3
  rw[mq (by omega) (by omega)];exact hs x j (by omega) (by omega) h3
 by_cases hi':i<m
 ·exact hsh.all (P:=λ v=>v.toNat<=(f' (a+j)).toNat) key (a+i) (by omega) (by omega)
 have ei:f' (a+i)=swp f a (a+m) (a+i):=hsh.out (.inr (by omega));rw[ei,ej];by_cases e:i=m
 ·subst e;rw[Fu,mq (k:=a+j) (by omega) (by omega)];have:=hs 0 j (by omega) (by omega) h3;exact this
 rw[mq (by omega) (by omega),mq (k:=a+j) (by omega) (by omega)];exact hs i j h1 (by omega) h3
theorem Hp.pop{m:Nat}(h:Hp a 0 (m+1) f):Hp a 1 m (swp f a (a+m)):=λ k c h1 h2 h3=>by
 rw[mq (k:=a+c) (by omega) (by omega),mq (k:=a+k) (by omega) (by omega)];exact h k c (by omega) h2 (by omega)
theorem xxu{W:World}{B n cap:Nat}(h:dC W B n f)(hn:n<=1000000)(hab:a<=b)(hb:b<=n) :
  Calls Tryz.prog 185 #[.slice B n cap,.int .i64 a,.int .i64 b] W λ e w'=>e= .returned (.tuple #[])/\∃f',Sh a b f f'/\lh a b f'/\dC w' B n f'/\Only B W w':=by
 obtain⟨hi,hhi⟩:∃hi,b=a+hi:=⟨b-a,by omega⟩;obtain⟨m0,hm0⟩:∃m0:Nat,m0=if hi=0 then 1 else(hi-1)/2+1:=⟨_,rfl⟩
 have e1:(b:Int)-(a:Int)=(hi:Int):=by omega
 have e2:wrap64 ((b:Int)-(a:Int))=(hi:Int):=by rw[e1];unfold wrap64;omega
 have e3:((hi:Int)-1).tdiv 2=(m0:Int)-1:=by
  rw[hm0]
  split
  ·next h0=>rw[h0];rfl
  next h0=>rw[mM (by omega)];omega
 have hm1:m0<=hi+1:=by rw[hm0];split<;>omega
 have hp0:Hp a m0 hi f:=λ k c h1 h2 h3=>by
  rw[hm0]at h1
  split at h1<;>omega
 have HB:=zH hhi;have e4:wrap64 ((hi:Int)-1)=(hi:Int)-1:=by unfold wrap64;omega
 have e5:wrap64 ((m0:Int)-1)=(m0:Int)-1:=by unfold wrap64;omega
 have hlh:hi<=n:=by omega
 clear hm0 hhi
 go_enter Tryz.func185,Tryz.ntmps185
 go_wp2_with fail
 go_loopw [9] (λ kv wr=>∃(m:Nat) (f':Nat->UInt64),kv= .int .i64 ((m:Int)-1)/\m<=hi+1/\Sh a b f f'/\Hp a m hi f'/\dC wr B n f'/\Only B W wr) (λ kv _=>(intOf kv+1).toNat)
 case atStart=>exact⟨m0,f,rfl,hm1,.refl,hp0,h,Only.refl _ _⟩
 clear h hp0 e1 e2 e3 e5;obtain⟨m,f1,Ci,hm,hs,hp,hu,ho⟩:=hrel
 cases m with
 | zero=>
  rw[show((0:Nat):Int)-1= -1 from rfl]at Ci;subst Ci
  go_wp2_with fail
  go_loopw [10] (λ kv wr=>∃(m:Nat) (f':Nat->UInt64),kv= .int .i64 ((m:Int)-1)/\m<=hi/\Sh a b f f'/\Hp a 0 m f'/\Hid (∀i j,i<j->m<=j->j<hi->(f' (a+i)).toNat<=(f' (a+j)).toNat)/\dC wr B n f'/\Only B W wr) (λ kv _=>(intOf kv+1).toNat)
  case atStart=>exact⟨hi,f1,rfl,aO _,hs,hp,zH (λ i j h1 h2 h3=>by omega),hu,ho⟩
  clear hm hs hp hu ho;obtain⟨m,f2,Ci,hm,hs,hp,hq,hu,ho⟩:=hrel
  cases m with
  | zero=>
   rw[show((0:Nat):Int)-1= -1 from rfl]at Ci;subst Ci;go_wp2
   go_end0
   refine⟨rfl,f2,hs,λ x y h1 h2 h3=>?_,hu,ho⟩;have hb2:=HB.out;have:=hq.out (x-a) (y-a) (by omega) (aY _) (by omega);rw[show a+(x-a)=x by omega,show a+(y-a)=y by omega]at this;exact this
  | succ m=>
   rw[show(((m+1:Nat)):Int)-1=(m:Int) by omega]at Ci;subst Ci;have hb2:=HB.out;obtain⟨c1,c2,d1,d2,c3,c4,d3,d4,c5,c6⟩:=hu.two (i:=a) (j:=a+m) (by omega) (by omega);have hsw:=hu.swapped ho (i:=a) (j:=a+m) (by omega) (by omega);have i1:(a:Int)+m<n:=by omega
   have i2:(a:Int)<n:=by omega
   have HX:=zH (zA hs (zA hp (zA hq.out hsw)));clear hs hp hq hu ho hsw hb2
   go_wp2_with fail
   go_region
   obtain⟨hs,hp,hq,hsw,hso⟩:=HX.out;have HS:=zH (Xf (o:=a) (lo:=0) (hi:=m) (cap:=cap) hsw hn (by omega) (aY _) hp.pop);have HO:=zH hso;clear hs hp hq hsw hso c1 c2 d1 d2 c3 c4 d3 d4 c5 c6
   go_wp2_with fail
   refine HS.out.mono ?_;rintro e w3 ⟨rfl,f3,hs3,hp3,hu3,ho3⟩;have HY:=zH (zA hs3 (zA hp3 (zA hu3 (HO.out.trans ho3))));clear hs3 hp3 hu3 ho3 HS HO;go_wp2;go_roundw
   case rel=>
    obtain⟨hs,hp,hq,_⟩:=HX.out;have hb2:=HB.out;exact⟨m,f3,by go_num,by omega,(hs.swap (i:=a) (j:=a+m) ⟨aO _,by omega⟩ ⟨by omega,by omega⟩).trans (HY.out.1.wide (aO _) (by omega)),HY.out.2.1,zH (xxt hm hp hq HY.out.1),HY.out.2.2.1,HY.out.2.2.2⟩
   case measure=>simp only[intOf];omega
 | succ m=>
  rw[show(((m+1:Nat)):Int)-1=(m:Int) by omega]at Ci;subst Ci;have hb2:=HB.out;have HS:=zH (Xf (o:=a) (lo:=m) (hi:=hi) (cap:=cap) hu hn (by omega) (by omega) hp);have HX:=zH (zA hs ho);clear hs hp hu ho hb2
  go_wp2_with fail
  refine HS.out.mono ?_;rintro e w3 ⟨rfl,f3,hs3,hp3,hu3,ho3⟩;have HY:=zH (zA hs3 (zA hp3 (zA hu3 (HX.out.2.trans ho3))));clear hs3 hp3 hu3 ho3 HS;go_wp2;go_roundw
  case rel=>
   have hb2:=HB.out;exact⟨m,f3,by go_num,by omega,HX.out.1.trans (HY.out.1.wide (aO _) (by omega)),HY.out.2.1,HY.out.2.2.1,HY.out.2.2.2⟩
  case measure=>simp only[intOf];omega
end So
open Go.RowKit
open UK (Only)
open Go.BigFrame
namespace So
variable{a b c d i j:Nat}{f g h:Nat->UInt64}
structure Part(up:UInt64->UInt64->Prop)(a b i j:Nat)(f:Nat->UInt64):Prop where
 ai:a<i
 ij:i<=j+1
 jb:j<b
 lo:∀k,a<k->k<i->up (f k) (f a)
 hi:∀k,j<k->k<b->¬up (f k) (f a)
variable{up:UInt64->UInt64->Prop}
theorem Part.start(h:a<b):Part up a b (a+1) (b-1) f:=⟨by omega,by omega,by omega,λ k h1 h2=>by omega,λ k h1 h2=>by omega⟩
theorem Part.Re(h:Part up a b i j f)(hij:i<=j)(hu:up (f i) (f a)):Part up a b (i+1) j f:=⟨by have:=h.ai;omega,by omega,h.jb,λ k h1 h2=>by
 by_cases e:k=i
 ·subst e;exact hu
 exact h.lo k h1 (by omega),h.hi⟩
theorem Part.down(h:Part up a b i (j+1) f)(hij:i<=j+1)(hu:¬up (f (j+1)) (f a)):Part up a b i j f:=⟨h.ai,hij,by have:=h.jb;omega,h.lo,λ k h1 h2=>by
 by_cases e:k=j+1
 ·subst e;exact hu
 exact h.hi k (by omega) h2⟩
theorem Part.cross(h:Part up a b i (j+1) f)(hij:i<=j+1)(h1:¬up (f i) (f a))(h2:up (f (j+1)) (f a)):Part up a b (i+1) j (swp f i (j+1)):=by
 have hne:i≠j+1:=λ e=>h1 (by rw[e];exact h2);have ha:=h.ai;have ea:swp f i (j+1) a=f a:=mq (by omega) (by omega);refine⟨by omega,by omega,by have:=h.jb;omega,λ k k1 k2=>?_,λ k k1 k2=>?_⟩
 ·rw[ea];by_cases e:k=i
  ·subst e;rw[xG];exact h2
  rw[mq e (by omega)];exact h.lo k k1 (by omega)
 rw[ea];by_cases e:k=j+1
 ·subst e;rw[Fu];exact h1
 rw[mq (by omega) e];exact h.hi k (by omega) k2
theorem Part.done(h:Part up a b i j f)(hij:j<i):(∀k,a<=k->k<j->up (swp f j a k) (swp f j a j))/\(∀k,j<k->k<b->¬up (swp f j a k) (swp f j a j))/\a<=j:=by
 have ha:=h.ai;have hji:=h.ij;have ej:swp f j a j=f a:=xG f j a;refine⟨λ k k1 k2=>?_,λ k k1 k2=>?_,by omega⟩
 ·rw[ej];by_cases e:k=a
  ·subst e;rw[Fu];exact h.lo j (by omega) (by omega)
  rw[mq (by omega) e];exact h.lo k (by omega) (by omega)
 rw[ej,mq (by omega) (by omega)];exact h.hi k k1 k2
def vD(x p:UInt64):Prop:=x.toNat<p.toNat
def D9(x p:UInt64):Prop:=¬p.toNat<x.toNat
theorem xxv{W:World}{B n cap p:Nat}(h:dC W B n f)(hn:n<=1000000)(hap:a<=p)(hpb:p<b)(hb:b<=n) :
  Calls Tryz.prog 192 #[.slice B n cap,.int .i64 a,.int .i64 b,.int .i64 p] W λ e w'=>∃(m:Nat) (t:Bool) (f':Nat->UInt64),e= .returned (.tuple #[.int .i64 m,.bool t])/\a<=m/\m<b/\Sh a b f f'/\(∀k,a<=k->k<m->(f' k).toNat<(f' m).toNat)/\(∀k,m<k->k<b->(f' m).toNat<=(f' k).toNat)/\dC w' B n f'/\Only B W w':=by
 obtain⟨j,hj⟩:∃j,j=b-1:=⟨_,rfl⟩;have e1:(b:Int)-1=(j:Int):=by omega
 have e2:wrap64 ((b:Int)-1)=(j:Int):=by unfold wrap64;omega
 have i1:(a:Int)<n:=by omega
 have i2:(p:Int)<n:=by omega
 have hu:=h;have ho:=Only.refl B W;have HP:=zH (show Part vD a b (a+1) j (swp f a p)from hj▸Part.start (by omega));have HS:=zH (Sh.swap (a:=a) (b:=b) (f:=f) .refl (i:=a) (j:=p) ⟨aO _,by omega⟩ ⟨hap,hpb⟩);have hb1:j<n:=by omega
 have ha1:a+1<=j+1:=by omega
 clear h hj
 go_enter Tryz.func192,Tryz.ntmps192
 obtain⟨c1,c2,d1,d2,c3,c4,d3,d4,c5,c6⟩:=hu.two (i:=a) (j:=p) (by omega) (by omega);have HU:=zH (hu.swapped ho (i:=a) (j:=p) (by omega) (by omega));clear hu ho
 go_wp2_with fail
 go_region
 obtain⟨hu,ho⟩:=HU.out;clear HU c1 c2 d1 d2 c3 c4 d3 d4 c5 c6;obtain⟨f1,hf1⟩:∃f1,f1=swp f a p:=⟨_,rfl⟩;rw[<-hf1]at HP HS hu;clear hf1 i2 hap hpb
 go_upto_block 0 with(fail)
 go_cut [10] (λ v wx=>∃i1:Nat,v= .int .i64 i1/\a+1<=i1/\Hid (Part vD a b i1 j f1/\(j<i1\/¬vD (f1 i1) (f1 a)))/\dC wx B n f1/\Only B W wx)
 case first=>
  go_wp2_with fail
  go_loopw [10] (λ v wr=>∃i1:Nat,v= .int .i64 i1/\a+1<=i1/\Part vD a b i1 j f1/\dC wr B n f1/\Only B W wr) (λ v _=>1000002-(intOf v).toNat)
  case atStart=>exact⟨a+1,by go_num,aO _,HP.out,hu,ho⟩
  clear hu ho HP;obtain⟨i1,rfl,hi1,hp,hu,ho⟩:=hrel;have p1:=hp.ai;have p2:=hp.ij;have p3:=hp.jb;by_cases hij:i1<=j
  ·have q1:(i1:Int)<=j:=by omega
   have q2:(i1:Int)<n:=by omega
   have q4:(a:Int)<n:=by omega
   have c1:=λ m=>(hu.drewN m).cell i1 (by omega);have c2:=λ m=>(hu.drewN m).cell a (by omega);have hL:=λ m=>vC (f1 i1) (f1 a) (wr.drewN m);have HX:=zH (zA hp (zA hu ho));clear hp hu ho p1 p2 p3;by_cases hl:(f1 i1).toNat<(f1 a).toNat
   ·rw[decide_eq_true hl]at hL
    go_wp2_with fail
    go_quiet (first|(go_at_call 190;refine Calls.quiet_of_same (hL _)))
    go_wp2;go_roundw
    case rel=>exact⟨i1+1,by go_num,by omega,HX.out.1.Re hij hl,HX.out.2.1.drewN _,HX.out.2.2.drewN _⟩
    case measure=>simp only[intOf];omega
   rw[decide_eq_false hl]at hL
   go_wp2_with fail
   go_quiet (first|(go_at_call 190;refine Calls.quiet_of_same (hL _)))
   go_wp2;go_meet
   case rel=>exact⟨i1,by go_num,hi1,zH ⟨HX.out.1,.inr hl⟩,HX.out.2.1.drewN _,HX.out.2.2.drewN _⟩
  have q1:decide ((i1:Int)<=(j:Int))=false:=decide_eq_false (by omega);have q2:(j:Int)<(i1:Int):=by omega
  have HX:=zH (zA hp (zA hu ho));clear hp hu ho p1 p2 p3
  go_wp2_with fail
  go_quiet (fail)
  go_wp2;go_meet
  case rel=>exact⟨i1,by go_num,hi1,zH ⟨HX.out.1,.inl (by omega)⟩,HX.out.2.1.drewN _,HX.out.2.2.drewN _⟩
 case rest=>
 obtain⟨i2,rfl,hi1,hS,hu,ho⟩:=hcut;have HI:=zH hS.out.2;have HP:=zH hS.out.1;clear hS
 go_upto_block 2 with(fail)
 go_cut [11] (λ v wx=>∃j1:Nat,v= .int .i64 j1/\j1<=j/\Hid (Part vD a b i2 j1 f1/\(j1<i2\/vD (f1 j1) (f1 a)))/\dC wx B n f1/\Only B W wx)
 case first=>
  go_wp2_with fail
  go_loopw [11] (λ v wr=>∃j1:Nat,v= .int .i64 j1/\j1<=j/\Part vD a b i2 j1 f1/\dC wr B n f1/\Only B W wr) (λ v _=>(intOf v).toNat)
  case atStart=>exact⟨j,by go_num,aO _,HP.out,hu,ho⟩
  clear hu ho HP;obtain⟨j1,rfl,hj1,hp,hu,ho⟩:=hrel;have p1:=hp.ai;have p2:=hp.ij;have p3:=hp.jb;by_cases hij:i2<=j1
  ·obtain⟨k,rfl⟩:∃k,j1=k+1:=⟨j1-1,by omega⟩;have i1:(i2:Int)<=(k:Int)+1:=by omega
   have i2:(k:Int)+1<n:=by omega
   have i4:(a:Int)<n:=by omega
   have e1:wrap64 ((k:Int)+1-1)=(k:Int):=by unfold wrap64;omega
   have c1:=λ m=>(hu.drewN m).cell (k+1) (by omega);have c2:=λ m=>(hu.drewN m).cell a (by omega);have hL:=λ m=>vC (f1 (k+1)) (f1 a) (wr.drewN m);have HX:=zH (zA hp (zA hu ho));clear hp hu ho p1 p2 p3;by_cases hl:(f1 (k+1)).toNat<(f1 a).toNat
   ·rw[decide_eq_true hl]at hL
    go_wp2_with fail
    go_quiet (first|(go_at_call 190;refine Calls.quiet_of_same (hL _)))
    go_wp2;go_meet
    case rel=>exact⟨k+1,by go_num,hj1,zH ⟨HX.out.1,.inr hl⟩,HX.out.2.1.drewN _,HX.out.2.2.drewN _⟩
   rw[decide_eq_false hl]at hL
   go_wp2_with fail
   go_quiet (first|(go_at_call 190;refine Calls.quiet_of_same (hL _)))
   go_wp2;go_roundw
   case rel=>exact⟨k,by go_num,by omega,HX.out.1.down (by omega) hl,HX.out.2.1.drewN _,HX.out.2.2.drewN _⟩
   case measure=>simp only[intOf];omega
  have q1:decide ((i2:Int)<=(j1:Int))=false:=decide_eq_false (by omega);have q2:(j1:Int)<(i2:Int):=by omega
  have HX:=zH (zA hp (zA hu ho));clear hp hu ho p1 p2 p3
  go_wp2_with fail
  go_quiet (fail)
  go_wp2;go_meet
  case rel=>exact⟨j1,by go_num,hj1,zH ⟨HX.out.1,.inl (by omega)⟩,HX.out.2.1.drewN _,HX.out.2.2.drewN _⟩
 case rest=>
 obtain⟨j1,rfl,hj1,hS,hu,ho⟩:=hcut;have HI2:=zH (zA HI.out hS.out.2);have HP:=zH hS.out.1;clear hS HI;have p1:=HP.out.ai;have p2:=HP.out.ij;have p3:=HP.out.jb;by_cases hij:j1<i2
 ·skip
  have q1:(j1:Int)<(i2:Int):=by omega
  have q2:(j1:Int)<n:=by omega
  have q3:(a:Int)<n:=by omega
  have HD:=zH (zA (HP.out.done hij) (HS.out.swap (i:=j1) (j:=a) ⟨by omega,by omega⟩ ⟨by omega,by omega⟩));clear HP HS HI2 p1;obtain⟨c1,c2,d1,d2,c3,c4,d3,d4,c5,c6⟩:=hu.two (i:=j1) (j:=a) (by omega) (by omega);have HU:=zH (hu.swapped ho (i:=j1) (j:=a) (by omega) (by omega));clear hu ho
  go_wp2_with fail
  go_region
  obtain⟨hu,ho⟩:=HU.out;clear HU c1 c2 d1 d2 c3 c4 d3 d4 c5 c6;go_wp2;go_ret2;exact⟨j1,true,_,rfl,HD.out.1.2.2,p3,HD.out.2,HD.out.1.1,λ k h1 h2=>Nat.le_of_not_lt (HD.out.1.2.1 k h1 h2),hu,ho⟩
 skip
 obtain⟨k,rfl⟩:∃k,j1=k+1:=⟨j1-1,by omega⟩;have q1:(i2:Int)<=(k:Int)+1:=by omega
 have q1':¬(k:Int)+1<(i2:Int):=by omega
 have q2:(k:Int)+1<n:=by omega
 have q3:(i2:Int)<n:=by omega
 have e1:wrap64 ((k:Int)+1-1)=(k:Int):=by unfold wrap64;omega
 have HC:=zH (zA (HP.out.cross (by omega) (HI2.out.1.resolve_left (by omega)) (HI2.out.2.resolve_left (by omega))) (HS.out.swap (i:=i2) (j:=k+1) ⟨by omega,by omega⟩ ⟨by omega,by omega⟩));clear HP HS HI2;obtain⟨c1,c2,d1,d2,c3,c4,d3,d4,c5,c6⟩:=hu.two (i:=i2) (j:=k+1) (by omega) (by omega);have HU:=zH (hu.swapped ho (i:=i2) (j:=k+1) (by omega) (by omega));clear hu ho
 go_wp2_with fail
 go_region
 obtain⟨hu,ho⟩:=HU.out;clear HU c1 c2 d1 d2 c3 c4 d3 d4 c5 c6;have hk1:k+1<=n:=by omega
 have q5:(i2:Int)+1<=1000001:=by omega
 clear p1 p2 p3 hij hj1 hi1 q1 q1' q2 q3
 go_wp2_with fail
 go_loopw [10,11] (λ v u wr=>∃(i j:Nat) (f2:Nat->UInt64),v= .int .i64 i/\u= .int .i64 j/\Part vD a b i j f2/\Sh a b f f2/\dC wr B n f2/\Only B W wr) (λ v _ _=>1000002-(intOf v).toNat)
 case atStart=>exact⟨i2+1,k,_,by go_num,by go_num,HC.out.1,HC.out.2,hu,ho⟩
 clear hu ho HC hk1 e1;obtain⟨i,j,f2,rfl,rfl,hp,hs,hu,ho⟩:=hrel;have HS:=zH hs;have HP:=zH hp;have hb1:j<n:=by have:=hp.jb;omega
 clear hp hs
 go_upto_block 6 with(fail)
 go_cut [10] (λ v wx=>∃i1:Nat,v= .int .i64 i1/\i<=i1/\Hid (Part vD a b i1 j f2/\(j<i1\/¬vD (f2 i1) (f2 a)))/\dC wx B n f2/\Only B W wx)
 case first=>
  go_wp2_with fail
  go_loopw [10] (λ v wr=>∃i1:Nat,v= .int .i64 i1/\i<=i1/\Part vD a b i1 j f2/\dC wr B n f2/\Only B W wr) (λ v _=>1000002-(intOf v).toNat)
  case atStart=>exact⟨i,by go_num,aO _,HP.out,hu,ho⟩
  clear hu ho HP;obtain⟨i1,rfl,hi1,hp,hu,ho⟩:=hrel;have p1:=hp.ai;have p2:=hp.ij;have p3:=hp.jb;by_cases hij:i1<=j
  ·have q1:(i1:Int)<=j:=by omega
   have q2:(i1:Int)<n:=by omega
   have q4:(a:Int)<n:=by omega
   have c1:=λ m=>(hu.drewN m).cell i1 (by omega);have c2:=λ m=>(hu.drewN m).cell a (by omega);have hL:=λ m=>vC (f2 i1) (f2 a) (wr.drewN m);have HX:=zH (zA hp (zA hu ho));clear hp hu ho p1 p2 p3;by_cases hl:(f2 i1).toNat<(f2 a).toNat
   ·rw[decide_eq_true hl]at hL
    go_wp2_with fail
    go_quiet (first|(go_at_call 190;refine Calls.quiet_of_same (hL _)))
    go_wp2;go_roundw
    case rel=>exact⟨i1+1,by go_num,by omega,HX.out.1.Re hij hl,HX.out.2.1.drewN _,HX.out.2.2.drewN _⟩
    case measure=>simp only[intOf];omega
   rw[decide_eq_false hl]at hL
   go_wp2_with fail
   go_quiet (first|(go_at_call 190;refine Calls.quiet_of_same (hL _)))
   go_wp2;go_meet
   case rel=>exact⟨i1,by go_num,hi1,zH ⟨HX.out.1,.inr hl⟩,HX.out.2.1.drewN _,HX.out.2.2.drewN _⟩
  have q1:decide ((i1:Int)<=(j:Int))=false:=decide_eq_false (by omega);have q2:(j:Int)<(i1:Int):=by omega
  have HX:=zH (zA hp (zA hu ho));clear hp hu ho p1 p2 p3
  go_wp2_with fail
  go_quiet (fail)
  go_wp2;go_meet
  case rel=>exact⟨i1,by go_num,hi1,zH ⟨HX.out.1,.inl (by omega)⟩,HX.out.2.1.drewN _,HX.out.2.2.drewN _⟩
 case rest=>
 obtain⟨i2,rfl,hi1,hS,hu,ho⟩:=hcut;have HI:=zH hS.out.2;have HP:=zH hS.out.1;clear hS
 go_upto_block 8 with(fail)
 go_cut [11] (λ v wx=>∃j1:Nat,v= .int .i64 j1/\j1<=j/\Hid (Part vD a b i2 j1 f2/\(j1<i2\/vD (f2 j1) (f2 a)))/\dC wx B n f2/\Only B W wx)
 case first=>
  go_wp2_with fail
  go_loopw [11] (λ v wr=>∃j1:Nat,v= .int .i64 j1/\j1<=j/\Part vD a b i2 j1 f2/\dC wr B n f2/\Only B W wr) (λ v _=>(intOf v).toNat)
  case atStart=>exact⟨j,by go_num,aO _,HP.out,hu,ho⟩
  clear hu ho HP;obtain⟨j1,rfl,hj1,hp,hu,ho⟩:=hrel;have p1:=hp.ai;have p2:=hp.ij;have p3:=hp.jb;by_cases hij:i2<=j1
  ·obtain⟨k,rfl⟩:∃k,j1=k+1:=⟨j1-1,by omega⟩;have i1:(i2:Int)<=(k:Int)+1:=by omega
   have i2:(k:Int)+1<n:=by omega
   have i4:(a:Int)<n:=by omega
   have e1:wrap64 ((k:Int)+1-1)=(k:Int):=by unfold wrap64;omega
   have c1:=λ m=>(hu.drewN m).cell (k+1) (by omega);have c2:=λ m=>(hu.drewN m).cell a (by omega);have hL:=λ m=>vC (f2 (k+1)) (f2 a) (wr.drewN m);have HX:=zH (zA hp (zA hu ho));clear hp hu ho p1 p2 p3;by_cases hl:(f2 (k+1)).toNat<(f2 a).toNat
   ·rw[decide_eq_true hl]at hL
    go_wp2_with fail
    go_quiet (first|(go_at_call 190;refine Calls.quiet_of_same (hL _)))
    go_wp2;go_meet
    case rel=>exact⟨k+1,by go_num,hj1,zH ⟨HX.out.1,.inr hl⟩,HX.out.2.1.drewN _,HX.out.2.2.drewN _⟩
   rw[decide_eq_false hl]at hL
   go_wp2_with fail
   go_quiet (first|(go_at_call 190;refine Calls.quiet_of_same (hL _)))
   go_wp2;go_roundw
   case rel=>exact⟨k,by go_num,by omega,HX.out.1.down (by omega) hl,HX.out.2.1.drewN _,HX.out.2.2.drewN _⟩
   case measure=>simp only[intOf];omega
  have q1:decide ((i2:Int)<=(j1:Int))=false:=decide_eq_false (by omega);have q2:(j1:Int)<(i2:Int):=by omega
  have HX:=zH (zA hp (zA hu ho));clear hp hu ho p1 p2 p3
  go_wp2_with fail
  go_quiet (fail)
  go_wp2;go_meet
  case rel=>exact⟨j1,by go_num,hj1,zH ⟨HX.out.1,.inl (by omega)⟩,HX.out.2.1.drewN _,HX.out.2.2.drewN _⟩
 case rest=>
 obtain⟨j1,rfl,hj1,hS,hu,ho⟩:=hcut;have HI2:=zH (zA HI.out hS.out.2);have HP:=zH hS.out.1;clear hS HI;have p1:=HP.out.ai;have p2:=HP.out.ij;have p3:=HP.out.jb;by_cases hij:j1<i2
 ·skip
  have q1:(j1:Int)<(i2:Int):=by omega
  have q2:(j1:Int)<n:=by omega
  have q3:(a:Int)<n:=by omega
  have HD:=zH (zA (HP.out.done hij) (HS.out.swap (i:=j1) (j:=a) ⟨by omega,by omega⟩ ⟨by omega,by omega⟩));clear HP HS HI2 p1;obtain⟨c1,c2,d1,d2,c3,c4,d3,d4,c5,c6⟩:=hu.two (i:=j1) (j:=a) (by omega) (by omega);have HU:=zH (hu.swapped ho (i:=j1) (j:=a) (by omega) (by omega));clear hu ho
  go_wp2_with fail
  go_region
  obtain⟨hu,ho⟩:=HU.out;clear HU c1 c2 d1 d2 c3 c4 d3 d4 c5 c6;go_wp2;go_ret2;exact⟨j1,false,_,rfl,HD.out.1.2.2,p3,HD.out.2,HD.out.1.1,λ k h1 h2=>Nat.le_of_not_lt (HD.out.1.2.1 k h1 h2),hu,ho⟩
 skip
 obtain⟨k,rfl⟩:∃k,j1=k+1:=⟨j1-1,by omega⟩;have q1:(i2:Int)<=(k:Int)+1:=by omega
 have q1':¬(k:Int)+1<(i2:Int):=by omega
 have q2:(k:Int)+1<n:=by omega
 have q3:(i2:Int)<n:=by omega
 have e1:wrap64 ((k:Int)+1-1)=(k:Int):=by unfold wrap64;omega
 have HC:=zH (zA (HP.out.cross (by omega) (HI2.out.1.resolve_left (by omega)) (HI2.out.2.resolve_left (by omega))) (HS.out.swap (i:=i2) (j:=k+1) ⟨by omega,by omega⟩ ⟨by omega,by omega⟩));clear HP HS HI2;obtain⟨c1,c2,d1,d2,c3,c4,d3,d4,c5,c6⟩:=hu.two (i:=i2) (j:=k+1) (by omega) (by omega);have HU:=zH (hu.swapped ho (i:=i2) (j:=k+1) (by omega) (by omega));clear hu ho
 go_wp2_with fail
 go_region
 obtain⟨hu,ho⟩:=HU.out;clear HU c1 c2 d1 d2 c3 c4 d3 d4 c5 c6;go_wp2;go_roundw
 case rel=>exact⟨i2+1,k,_,by go_num,by go_num,HC.out.1,HC.out.2,hu,ho⟩
 case measure=>simp only[intOf];omega
end So
open Go.RowKit
open UK (Only)
open Go.BigFrame
namespace So
variable{a b c d i j:Nat}{f g h:Nat->UInt64}
theorem xrl{W:World}{B n cap p:Nat}(h:dC W B n f)(hn:n<=1000000)(hap:a<=p)(hpb:p<b)(hb:b<=n) :
  Calls Tryz.prog 191 #[.slice B n cap,.int .i64 a,.int .i64 b,.int .i64 p] W λ e w'=>∃(m:Nat) (f':Nat->UInt64),e= .returned (.int .i64 m)/\a<m/\m<=b/\Sh a b f f'/\(∀k,a<=k->k<m->(f' k).toNat<=(f' a).toNat)/\(∀k,m<=k->k<b->(f' a).toNat<(f' k).toNat)/\f' a=f p/\dC w' B n f'/\Only B W w':=by
 obtain⟨j,hj⟩:∃j,j=b-1:=⟨_,rfl⟩;have e1:(b:Int)-1=(j:Int):=by omega
 have e2:wrap64 ((b:Int)-1)=(j:Int):=by unfold wrap64;omega
 have i1:(a:Int)<n:=by omega
 have i2:(p:Int)<n:=by omega
 have hu:=h;have ho:=Only.refl B W;have HP:=zH (show Part D9 a b (a+1) j (swp f a p)from hj▸Part.start (by omega));have HS:=zH (zA (Sh.swap (a:=a) (b:=b) (f:=f) .refl (i:=a) (j:=p) ⟨aO _,by omega⟩ ⟨hap,hpb⟩) (xG f a p));have hb1:j<n:=by omega
 have ha1:a+1<=j+1:=by omega
 have ha2:a+1<=n:=by omega
 clear h hj
 go_enter Tryz.func191,Tryz.ntmps191
 obtain⟨c1,c2,d1,d2,c3,c4,d3,d4,c5,c6⟩:=hu.two (i:=a) (j:=p) (by omega) (by omega);have HU:=zH (hu.swapped ho (i:=a) (j:=p) (by omega) (by omega));clear hu ho
 go_wp2_with fail
 go_region
 obtain⟨hu,ho⟩:=HU.out;clear HU c1 c2 d1 d2 c3 c4 d3 d4 c5 c6;obtain⟨f1,hf1⟩:∃f1,f1=swp f a p:=⟨_,rfl⟩;rw[<-hf1]at HP HS hu;clear hf1 i2 hap hpb ha1
 go_wp2_with fail
 go_loopw [9,10] (λ v u wr=>∃(i j:Nat) (f2:Nat->UInt64),v= .int .i64 i/\u= .int .i64 j/\Part D9 a b i j f2/\Hid (Sh a b f f2/\f2 a=f p)/\dC wr B n f2/\Only B W wr) (λ v _ _=>1000002-(intOf v).toNat)
 case atStart=>exact⟨a+1,j,f1,by go_num,by go_num,HP.out,HS,hu,ho⟩
 clear hu ho HP HS hb1 e1 e2 f1;obtain⟨i,j,f2,rfl,rfl,hp,HS,hu,ho⟩:=hrel;have HP:=zH hp;have hb1:j<n:=by have:=hp.jb;omega
 clear hp
 go_upto_block 2 with(fail)
 go_cut [9] (λ v wx=>∃i1:Nat,v= .int .i64 i1/\i<=i1/\Hid (Part D9 a b i1 j f2/\(j<i1\/¬D9 (f2 i1) (f2 a)))/\dC wx B n f2/\Only B W wx)
 case first=>
  go_wp2_with fail
  go_loopw [9] (λ v wr=>∃i1:Nat,v= .int .i64 i1/\i<=i1/\Part D9 a b i1 j f2/\dC wr B n f2/\Only B W wr) (λ v _=>1000002-(intOf v).toNat)
  case atStart=>exact⟨i,by go_num,aO _,HP.out,hu,ho⟩
  clear hu ho HP;obtain⟨i1,rfl,hi1,hp,hu,ho⟩:=hrel;have p1:=hp.ai;have p2:=hp.ij;have p3:=hp.jb;by_cases hij:i1<=j
  ·have q1:(i1:Int)<=j:=by omega
   have q2:(i1:Int)<n:=by omega
   have q4:(a:Int)<n:=by omega
   have c1:=λ m=>(hu.drewN m).cell i1 (by omega);have c2:=λ m=>(hu.drewN m).cell a (by omega);have hL:=λ m=>vC (f2 a) (f2 i1) (wr.drewN m);have HX:=zH (zA hp (zA hu ho));clear hp hu ho p1 p2 p3;by_cases hl:(f2 a).toNat<(f2 i1).toNat
   ·rw[decide_eq_true hl]at hL
    go_wp2_with fail
    go_quiet (first|(go_at_call 190;refine Calls.quiet_of_same (hL _)))
    go_wp2;go_meet
    case rel=>exact⟨i1,by go_num,hi1,zH ⟨HX.out.1,.inr (λ h=>h hl)⟩,HX.out.2.1.drewN _,HX.out.2.2.drewN _⟩
   rw[decide_eq_false hl]at hL
   go_wp2_with fail
   go_quiet (first|(go_at_call 190;refine Calls.quiet_of_same (hL _)))
   go_wp2;go_roundw
   case rel=>exact⟨i1+1,by go_num,by omega,HX.out.1.Re hij (λ h=>hl h),HX.out.2.1.drewN _,HX.out.2.2.drewN _⟩
   case measure=>simp only[intOf];omega
  have q1:decide ((i1:Int)<=(j:Int))=false:=decide_eq_false (by omega);have q2:(j:Int)<(i1:Int):=by omega
  have HX:=zH (zA hp (zA hu ho));clear hp hu ho p1 p2 p3
  go_wp2_with fail
  go_quiet (fail)
  go_wp2;go_meet
  case rel=>exact⟨i1,by go_num,hi1,zH ⟨HX.out.1,.inl (by omega)⟩,HX.out.2.1.drewN _,HX.out.2.2.drewN _⟩
 case rest=>
 obtain⟨i2,rfl,hi1,hS,hu,ho⟩:=hcut;have HI:=zH hS.out.2;have HP:=zH hS.out.1;clear hS
 go_upto_block 4 with(fail)
 go_cut [10] (λ v wx=>∃j1:Nat,v= .int .i64 j1/\j1<=j/\Hid (Part D9 a b i2 j1 f2/\(j1<i2\/D9 (f2 j1) (f2 a)))/\dC wx B n f2/\Only B W wx)
 case first=>
  go_wp2_with fail
  go_loopw [10] (λ v wr=>∃j1:Nat,v= .int .i64 j1/\j1<=j/\Part D9 a b i2 j1 f2/\dC wr B n f2/\Only B W wr) (λ v _=>(intOf v).toNat)
  case atStart=>exact⟨j,by go_num,aO _,HP.out,hu,ho⟩
  clear hu ho HP;obtain⟨j1,rfl,hj1,hp,hu,ho⟩:=hrel;have p1:=hp.ai;have p2:=hp.ij;have p3:=hp.jb;by_cases hij:i2<=j1
  ·obtain⟨k,rfl⟩:∃k,j1=k+1:=⟨j1-1,by omega⟩;have i1:(i2:Int)<=(k:Int)+1:=by omega
   have i2:(k:Int)+1<n:=by omega
   have i4:(a:Int)<n:=by omega
   have e1:wrap64 ((k:Int)+1-1)=(k:Int):=by unfold wrap64;omega
   have c1:=λ m=>(hu.drewN m).cell (k+1) (by omega);have c2:=λ m=>(hu.drewN m).cell a (by omega);have hL:=λ m=>vC (f2 a) (f2 (k+1)) (wr.drewN m);have HX:=zH (zA hp (zA hu ho));clear hp hu ho p1 p2 p3;by_cases hl:(f2 a).toNat<(f2 (k+1)).toNat
   ·rw[decide_eq_true hl]at hL
    go_wp2_with fail
    go_quiet (first|(go_at_call 190;refine Calls.quiet_of_same (hL _)))
    go_wp2;go_roundw
    case rel=>exact⟨k,by go_num,by omega,HX.out.1.down (by omega) (λ h=>h hl),HX.out.2.1.drewN _,HX.out.2.2.drewN _⟩
    case measure=>simp only[intOf];omega
   rw[decide_eq_false hl]at hL
   go_wp2_with fail
   go_quiet (first|(go_at_call 190;refine Calls.quiet_of_same (hL _)))
   go_wp2;go_meet
   case rel=>exact⟨k+1,by go_num,hj1,zH ⟨HX.out.1,.inr (λ h=>hl h)⟩,HX.out.2.1.drewN _,HX.out.2.2.drewN _⟩
  have q1:decide ((i2:Int)<=(j1:Int))=false:=decide_eq_false (by omega);have q2:(j1:Int)<(i2:Int):=by omega
  have HX:=zH (zA hp (zA hu ho));clear hp hu ho p1 p2 p3
  go_wp2_with fail
  go_quiet (fail)
  go_wp2;go_meet
  case rel=>exact⟨j1,by go_num,hj1,zH ⟨HX.out.1,.inl (by omega)⟩,HX.out.2.1.drewN _,HX.out.2.2.drewN _⟩
 case rest=>
 obtain⟨j1,rfl,hj1,hS,hu,ho⟩:=hcut;have HI2:=zH (zA HI.out hS.out.2);have HP:=zH hS.out.1;clear hS HI;have p1:=HP.out.ai;have p2:=HP.out.ij;have p3:=HP.out.jb;by_cases hij:j1<i2
 ·have q1:(j1:Int)<(i2:Int):=by omega
  have HD:=zH HP.out;clear HP HI2;go_wp2;go_ret
  exact⟨i2,f2,rfl,p1,by omega,HS.out.1,λ k h1 h2=>by
   by_cases e:k=a
   ·subst e;exact aO _
   exact Nat.le_of_not_lt (HD.out.lo k (by omega) h2),λ k h1 h2=>Decidable.of_not_not (HD.out.hi k (by omega) h2),HS.out.2,hu,ho⟩
 obtain⟨k,rfl⟩:∃k,j1=k+1:=⟨j1-1,by omega⟩;have q1:(i2:Int)<=(k:Int)+1:=by omega
 have q1':¬(k:Int)+1<(i2:Int):=by omega
 have q2:(k:Int)+1<n:=by omega
 have q3:(i2:Int)<n:=by omega
 have e1:wrap64 ((k:Int)+1-1)=(k:Int):=by unfold wrap64;omega
 have HC:=zH (zA (HP.out.cross (by omega) (HI2.out.1.resolve_left (by omega)) (HI2.out.2.resolve_left (by omega))) (zA (HS.out.1.swap (i:=i2) (j:=k+1) ⟨by omega,by omega⟩ ⟨by omega,by omega⟩) ((mq (f:=f2) (i:=i2) (j:=k+1) (k:=a) (by omega) (by omega)).trans HS.out.2)));clear HP HS HI2;obtain⟨c1,c2,d1,d2,c3,c4,d3,d4,c5,c6⟩:=hu.two (i:=i2) (j:=k+1) (by omega) (by omega);have HU:=zH (hu.swapped ho (i:=i2) (j:=k+1) (by omega) (by omega));clear hu ho
 go_wp2_with fail
 go_region
 obtain⟨hu,ho⟩:=HU.out;clear HU c1 c2 d1 d2 c3 c4 d3 d4 c5 c6;go_wp2;go_roundw
 case rel=>exact⟨i2+1,k,_,by go_num,by go_num,HC.out.1,zH HC.out.2,hu,ho⟩
 case measure=>simp only[intOf];omega
end So
open Go.RowKit
open UK (Only ay)
open Go.BigFrame
namespace So
variable{a b c d i j:Nat}{f g h:Nat->UInt64}
theorem yam{W:World}{B n cap:Nat}(h:dC W B n f)(hn:n<=1000000)(hab:a<b)(hb:b<=n) :
  Calls Tryz.prog 188 #[.slice B n cap,.int .i64 a,.int .i64 b] W λ e w'=>e= .returned (.tuple #[])/\∃f',Sh a b f f'/\dC w' B n f'/\Only B W w':=by
 obtain⟨j0,hj⟩:∃j,j=b-1:=⟨_,rfl⟩;have e1:(b:Int)-1=(j0:Int):=by omega
 have e2:wrap64 ((b:Int)-1)=(j0:Int):=by unfold wrap64;omega
 have hb1:j0<b:=by omega
 have ha1:a<=j0+1:=by omega
 clear hj
 go_enter Tryz.func188,Tryz.ntmps188
 go_wp2_with fail
 go_loopw [6,7] (λ v u wr=>∃(i j:Nat) (f2:Nat->UInt64),v= .int .i64 i/\u= .int .i64 j/\a<=i/\j<b/\Sh a b f f2/\dC wr B n f2/\Only B W wr) (λ _ u _=>(intOf u).toNat)
 case atStart=>exact⟨a,j0,f,by go_num,by go_num,aO _,hb1,.refl,h,Only.refl _ _⟩
 clear h hb1 ha1 e1 e2;obtain⟨i,j,f2,rfl,rfl,hi,hj,hs,hu,ho⟩:=hrel;by_cases hij:i<j
 ·obtain⟨k,rfl⟩:∃k,j=k+1:=⟨j-1,by omega⟩;have q1:(i:Int)<(k:Int)+1:=by omega
  have q2:(k:Int)+1<n:=by omega
  have q3:(i:Int)<n:=by omega
  have e1:wrap64 ((k:Int)+1-1)=(k:Int):=by unfold wrap64;omega
  obtain⟨c1,c2,d1,d2,c3,c4,d3,d4,c5,c6⟩:=hu.two (i:=i) (j:=k+1) (by omega) (by omega);have HU:=zH (zA (hs.swap (i:=i) (j:=k+1) ⟨by omega,by omega⟩ ⟨by omega,by omega⟩) (hu.swapped ho (i:=i) (j:=k+1) (by omega) (by omega)));clear hu ho hs
  go_wp2_with fail
  go_region
  go_wp2;go_roundw
  case rel=>exact⟨i+1,k,_,by go_num,by go_num,by omega,by omega,HU.out.1,HU.out.2.1,HU.out.2.2⟩
  case measure=>simp only[intOf];omega
 have q1:¬(i:Int)<(j:Int):=by omega
 go_wp2
 go_end0
 exact⟨rfl,f2,hs,hu,ho⟩
def Rf(W w:World)(s k x y:Nat)(e:Ending):Prop:=∃x' y' k':Nat,e= .returned (.tuple #[.int .i64 x',.int .i64 y'])/\((x'=x/\y'=y)\/(x'=y/\y'=x))/\k'<=k+1/\ay w s #[.int .i64 k']/\Only s W w
theorem Rh{W:World}{B n cap s k x y:Nat}(h:dC W B n f)(hs:ay W s #[.int .i64 k])(hk:k<=1000)(hx:x<n)(hy:y<n) :
  Calls Tryz.prog 267 #[.slice B n cap,.int .i64 x,.int .i64 y,.pointer s] W λ e w'=>Rf W w' s k x y e:=by
 have c1:=λ m=>(h.drewN m).cell x hx;have c2:=λ m=>(h.drewN m).cell y hy;have q1:(x:Int)<n:=by omega
 have q2:(y:Int)<n:=by omega
 have hL:=λ m=>vC (f y) (f x) (W.drewN m);have HS:=zH hs;have d1:∀m,(W.drewN m).cell? s=some (.int .i64 k):=λ m=>hs.cell 0 _ rfl;have d2:∀m,(W.drewN m).frozen? ⟨s,0,none⟩=false:=λ m=>hs.free 0;clear h hs;by_cases hl:(f y).toNat<(f x).toNat
 ·rw[decide_eq_true hl]at hL
  go_enter Tryz.func267,Tryz.ntmps267
  go_wp2_with fail
  go_quiet (first|(go_at_call 190;refine Calls.quiet_of_same (hL _)))
  go_wp2;go_ret2
  refine⟨y,x,k+1,rfl,.inr ⟨rfl,rfl⟩,aO _,?_,((Only.refl s W).drewN _).set 0 _⟩;have hb:ay (W.drewN nq) s #[.int .i64 k]:=HS.out;have:=hb.set 0 (.int .i64 ((k+1:Nat):Int))
  simpa using this
 rw[decide_eq_false hl]at hL
 go_enter Tryz.func267,Tryz.ntmps267
 go_wp2_with fail
 go_quiet (first|(go_at_call 190;refine Calls.quiet_of_same (hL _)))
 go_wp2;go_ret2
 exact⟨x,y,k,rfl,.inl ⟨rfl,rfl⟩,Nat.le_succ _,HS.out,(Only.refl s W).drewN _⟩
theorem Xg{W:World}{B n cap s k x y z:Nat}(h:dC W B n f)(hs:ay W s #[.int .i64 k])(hk:k<=900)(hx:x<n)(hy:y<n)(hz:z<n)(hne:B≠s) :
  Calls Tryz.prog 243 #[.slice B n cap,.int .i64 x,.int .i64 y,.int .i64 z,.pointer s] W λ e w'=>∃m k':Nat,e= .returned (.int .i64 m)/\(m=x\/m=y\/m=z)/\k'<=k+3/\ay w' s #[.int .i64 k']/\Only s W w':=by
 have H1:=zH (Rh (cap:=cap) h hs (by omega) hx hy);have HH:=zH h;clear h hs
 go_enter Tryz.func243,Tryz.ntmps243
 go_wp2_with fail
 refine H1.out.mono ?_;rintro e w1 ⟨x1,y1,k1,rfl,hp1,hk1,hb1,ho1⟩;have u1:dC w1 B n f:=HH.out.ae ho1.size (ho1.block B HH.out.lt hne);have H2:=zH (Rh (cap:=cap) (x:=y1) (y:=z) u1 hb1 (by omega) (by omega) hz);have N8:=zH (zA u1 ho1);clear u1 hb1 ho1 H1
 go_wp2_with fail
 refine H2.out.mono ?_;rintro e w2 ⟨y2,z2,k2,rfl,hp2,hk2,hb2,ho2⟩;have u2:dC w2 B n f:=N8.out.1.ae ho2.size (ho2.block B N8.out.1.lt hne);have H3:=zH (Rh (cap:=cap) (x:=x1) (y:=y2) u2 hb2 (by omega) (by omega) (by omega));have Xh:=zH (N8.out.2.trans ho2);clear u2 hb2 ho2 H2
 go_wp2_with fail
 refine H3.out.mono ?_;rintro e w3 ⟨x3,y3,k3,rfl,hp3,hk3,hb3,ho3⟩;have H4:=zH (zA hb3 (Xh.out.trans ho3));clear hb3 ho3 H3 Xh N8;go_wp2;go_ret;exact⟨y3,k3,rfl,by omega,by omega,H4.out.1,H4.out.2⟩
theorem Ri{W:World}{B n cap s k x:Nat}(h:dC W B n f)(hs:ay W s #[.int .i64 k])(hn:n<=1000000)(hk:k<=900)(hx:1<=x)(hy:x+1<n)(hne:B≠s) :
  Calls Tryz.prog 242 #[.slice B n cap,.int .i64 x,.pointer s] W λ e w'=>∃m k':Nat,e= .returned (.int .i64 m)/\(x<=m+1/\m<=x+1)/\k'<=k+3/\ay w' s #[.int .i64 k']/\Only s W w':=by
 obtain⟨x0,rfl⟩:∃x0,x=x0+1:=⟨x-1,by omega⟩;have e1:wrap64 ((x0:Int)+1-1)=(x0:Int):=by unfold wrap64;omega
 have e2:wrap64 ((x0:Int)+1+1)=(x0:Int)+1+1:=by unfold wrap64;omega
 have H1:=zH (Xg (cap:=cap) (x:=x0) (y:=x0+1) (z:=x0+1+1) h hs hk (by omega) (by omega) (by omega) hne);clear h hs
 go_enter Tryz.func242,Tryz.ntmps242
 go_wp2_with fail
 refine H1.out.mono ?_;rintro e w1 ⟨m,k1,rfl,hm,hk1,hb1,ho1⟩;have H4:=zH (zA hb1 ho1);clear hb1 ho1 H1;go_wp2;go_ret;exact⟨m,k1,rfl,by omega,hk1,H4.out.1,H4.out.2⟩
end So
open Go.RowKit
open UK (Only ay)
open Go.BigFrame
namespace So
variable{a b c d i j:Nat}{f g h:Nat->UInt64}
theorem xu1{W:World}{B n cap:Nat}(h:dC W B n f)(hn:n<=1000000)(hab:a+13<=b)(hb:b<=n) :
  Calls Tryz.prog 187 #[.slice B n cap,.int .i64 a,.int .i64 b] W λ e w'=>∃m t:Nat,e= .returned (.tuple #[.int .i64 m,.int .i64 t])/\a<=m/\m<b/\t<=2/\Below W W w':=by
 obtain⟨l,hl⟩:∃l,l=b-a:=⟨_,rfl⟩;obtain⟨q,hq⟩:∃q,q=l/4:=⟨_,rfl⟩;have e1:(b:Int)-(a:Int)=(l:Int):=by omega
 have e3:(l:Int).tdiv 4=(q:Int):=by rw[mM (by omega)];omega
 have e4:(l:Int)/4=(q:Int):=by omega
 have hq1:3<=q:=by omega
 have hq2:a+4*q<=b:=by omega
 have hl8:(8:Int)<=l:=by omega
 have EZ:(l:Int)<=1000000:=by omega
 have hq3:(q:Int)<=250000:=by omega
 have hbl:Below W W (W.alloc (.cells #[.int .i64 0] 3)):=(aV _ _).alloc (aO _) _;have u0:dC (W.alloc (.cells #[.int .i64 0] 3)) B n f:=h.ae hbl.size (hbl.block B h.lt);have b0:=UK.ay.new W #[.int .i64 0] 3;have pQ:B≠W.heap.size:=Nat.ne_of_lt h.lt;have HU:=zH (zA u0 (zA b0 (zA hbl pQ)));have HL:=zH (zA hl hq);clear h u0 b0 hbl pQ hl hq
 go_enter Tryz.func187,Tryz.ntmps187
 go_upto_if 34 with(fail)
 go_cut [10,11,12] (λ u v w wx=>∃x y z k:Nat,u= .int .i64 x/\v= .int .i64 y/\w= .int .i64 z/\Hid (a<=x/\x<b/\a<=y/\y<b/\a<=z/\z<b/\k<=9)/\Hid (dC wx B n f/\ay wx W #[.int .i64 k]/\Below W W wx))
 case first=>
  by_cases h50:50<=l
  ·have i1:(50:Int)<=l:=by omega
   obtain⟨u0,b0,hbl,pQ⟩:=HU.out;have H1:=zH (Ri (cap:=cap) (x:=a+q) u0 b0 hn (aY _) (by omega) (by omega) pQ);have H0:=zH (zA u0 (zA hbl pQ));clear u0 b0 hbl pQ
   go_wp2_with fail
   refine H1.out.mono ?_;rintro e w1 ⟨x,k1,rfl,hx,hk1,b1,o1⟩;obtain⟨u0,hbl,pQ⟩:=H0.out;have u1:=u0.ae o1.size (o1.block B u0.lt pQ);have H2:=zH (Ri (cap:=cap) (x:=a+q*2) u1 b1 hn (by omega) (by omega) (by omega) pQ);have HA:=zH (zA u1 (zA (hbl.trans (o1.below hbl.size (aO _))) pQ));clear u0 hbl pQ u1 b1 o1 H0 H1
   go_wp2_with fail
   refine H2.out.mono ?_;rintro e w2 ⟨y,k2,rfl,hy,hk2,b2,o2⟩;obtain⟨u1,hbl,pQ⟩:=HA.out;have u2:=u1.ae o2.size (o2.block B u1.lt pQ);have H3:=zH (Ri (cap:=cap) (x:=a+q*3) u2 b2 hn (by omega) (by omega) (by omega) pQ);have HC:=zH (zA u2 (zA (hbl.trans (o2.below hbl.size (aO _))) pQ));clear u1 hbl pQ u2 b2 o2 HA H2
   go_wp2_with fail
   refine H3.out.mono ?_;rintro e w3 ⟨z,k3,rfl,hz,hk3,b3,o3⟩;obtain⟨u2,hbl,pQ⟩:=HC.out;have HD:=zH (zA (u2.ae o3.size (o3.block B u2.lt pQ)) (zA b3 (hbl.trans (o3.below hbl.size (aO _)))));clear u2 hbl pQ b3 o3 HC H3;go_wp2;go_meet
   case rel=>exact⟨x,y,z,k3,rfl,rfl,rfl,zH ⟨by omega,by omega,by omega,by omega,by omega,by omega,by omega⟩,HD⟩
  have i1:¬(50:Int)<=l:=by omega
  go_wp2;go_meet
  case rel=>exact⟨a+q,a+q*2,a+q*3,0,by go_num,by go_num,by go_num,zH ⟨by omega,by omega,by omega,by omega,by omega,by omega,by omega⟩,zH ⟨HU.out.1,HU.out.2.1,HU.out.2.2.1⟩⟩
 case rest=>
 obtain⟨x,y,z,k,rfl,rfl,rfl,Rj,hX⟩:=hcut;obtain⟨x1,x2,y1,y2,z1,z2,hk⟩:=Rj.out;obtain⟨u1,b1,hbl⟩:=hX.out;have pQ:=HU.out.2.2.2;have H1:=zH (Xg (cap:=cap) (x:=x) (y:=y) (z:=z) u1 b1 (by omega) (by omega) (by omega) (by omega) pQ);have HB:=zH hbl;clear u1 b1 hbl pQ hX HU
 go_wp2_with fail
 refine H1.out.mono ?_;rintro e w1 ⟨m,k1,rfl,hm,hk1,b1,o1⟩;have HZ:=zH (HB.out.trans (o1.below HB.out.size (aO _)));have c1:=b1.c0;clear b1 o1 H1 HB;have hm1:a<=m:=by omega
 have hm2:m<b:=by omega
 by_cases h0:k1=0
 ·subst h0;go_wp2;go_ret2;exact⟨m,1,rfl,hm1,hm2,by omega,HZ.out⟩
 have i0:((k1:Int)==0)=false:=beq_eq_false_iff_ne.2 (by omega);by_cases h12:k1=12
 ·subst h12;go_wp2;go_ret2;exact⟨m,2,rfl,hm1,hm2,by omega,HZ.out⟩
 have i12:((k1:Int)==12)=false:=beq_eq_false_iff_ne.2 (by omega);go_wp2;go_ret2;exact⟨m,0,rfl,hm1,hm2,by omega,HZ.out⟩
end So
end Go.Proofs.YtgpmiliahonaoaaGreatDoor
