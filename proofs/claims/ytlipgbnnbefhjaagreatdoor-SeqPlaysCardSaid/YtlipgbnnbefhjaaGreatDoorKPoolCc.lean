/- Facts on rows of numbers on pages. -/
import Derived.Test.YtlipgbnnbefhjaaGreatDoorKDiskRc
import Derived.Maps.OwnSet
import Derived.Maps.StringElems
set_option maxRecDepth 100000
set_option maxHeartbeats 8000000
set_option linter.unusedSimpArgs false
namespace Go.Proofs.YtlipgbnnbefhjaaGreatDoor
open Go.RowKit Go.ChangeMaps
namespace UK
def jR(P:Program)(K E:TypeId)(W:World)(M n:Nat)(f:Int->Option Int)(c:Nat):Prop:=
 ∃D:DataW Unit,W.ownsMap P K (plainElem P E) M n D/\(∀k,Maps.has D (.int .i64 k)=(f k).isSome)/\(∀k v,f k=some v->D.atKey (.int .i64 k) (.lit (.int .i64 0))= .lit (.int .i64 v))/\Maps.size D=c
namespace jR
variable{P:Program}{K E t:TypeId}{W W':World}{M n c:Nat}{f:Int->Option Int}
theorem new(W:World):jR P K E (W.alloc (.map #[] 0)) W 0 (λ _=>none) 0:=
 ⟨.map [],World.ownsMap_made _ _ _ _,λ _=>rfl,(λ _ _ h=>by cases h),rfl⟩
theorem lt(h:jR P K E W M n f c):M<W.heap.size:=by
 obtain⟨D,h,_⟩:=h;exact h.lt
theorem af(h:jR P K E W M n f c)(hb:W'.heap[M]?=W.heap[M]?):jR P K E W' M n f c:=by
 obtain⟨D,⟨es,cl,h1,h2,h3,h4⟩,r⟩:=h;exact⟨D,⟨es,cl,hb.trans h1,h2,h3,h4⟩,r⟩
theorem below{m:Nat}(h:jR P K E W M n f c)(hb:Below m W W')(hm:M<m):jR P K E W' M n f c:=h.af (hb.block M hm)
theorem only{B:Nat}(h:jR P K E W M n f c)(ho:Only B W W')(hm:M≠B):jR P K E W' M n f c:=h.af (ho.block M h.lt hm)
theorem get(h:jR P K E W M n f c)(hK:P.underlying K=some (.int .i64))(hE:P.underlying E=some (.int .i64))(ht:P.underlying t=some (.map K E))(hz:∀w,(zeroValue E).run P w= .ok (.int .i64 0) w)(k:Int)(hk:(Lit.int .i64 k).wf=true) :
  (Instr.lookup t (.map (some M)) (.int .i64 k) true).run P W= .ok (.tuple #[.int .i64 ((f k).getD 0),.bool (f k).isSome]) W:=by
 obtain⟨D,h,hh,ha,_⟩:=h;obtain⟨v,ps,hrun,hv⟩:=h.look_ok (Maps.int_keyed hK) ht (hz W) (plainElem_int hE (by decide)) (Maps.keyOf_int_mk hK hk);obtain⟨a,rfl,hc,_⟩:=plainElem_int_inv hE hv;simp only[Prod.mk.injEq]at hc;rw[hrun,hh k]
 cases hf:f k with
 | none=>
  have h1:Maps.has D (.int .i64 k)=false:=by rw[hh k,hf];rfl
  rw[Maps.atKey_of_not_has h1]at hc;have:=hc.1;simp only[DataW.lit.injEq,Lit.int.injEq,true_and]at this;rw[<-this];rfl
 | some b=>
  rw[ha k b hf]at hc;have:=hc.1;simp only[DataW.lit.injEq,Lit.int.injEq,true_and]at this;rw[<-this];rfl
theorem len(h:jR P K E W M n f c)(ht:P.underlying t=some (.map K E))(ty:TypeId):(Builtin.len_ #[t] ty #[.map (some M)]).run P W= .ok (.int .i64 c) W:=by
 obtain⟨D,h,_,_,hs⟩:=h;rw[h.len ht ty,hs]
theorem ja(h:W.mapTurned W' M):Only M W W':=by
 have g:=h;obtain⟨es,cl,es',cl',hb,rfl⟩:=h;exact⟨rfl,rfl,rfl,Nat.le_of_eq (by simp[setBlock]),λ i _ hi=>heap_setBlock_other hb _ hi⟩
theorem put(h:jR P K E W M n f c)(hK:P.underlying K=some (.int .i64))(hE:P.underlying E=some (.int .i64))(ht:P.underlying t=some (.map K E))(hn:n<maxLen)(k v:Int)(hk:(Lit.int .i64 k).wf=true)(hv:(Lit.int .i64 v).wf=true) :
  ∃W',(Instr.mapUpdate t (.map (some M)) (.int .i64 k) (.int .i64 v)).run P W= .ok () W'/\jR P K E W' M (n+1) (λ j=>if j=k then some v else f j) (if (f k).isSome then c else c+1)/\Only M W W':=by
 obtain⟨D,h,hh,ha,hs⟩:=h;obtain⟨W',hrun,h',ht'⟩:=h.store (Maps.int_keyed hK) ht hn (Maps.keyOf_int_mk hK hk) (plainElem_int hE hv);have hkl:WideAt.IsKeyLit (.int .i64 k):=trivial;refine⟨W',hrun,⟨_,h',λ j=>?_,λ j b hj=>?_,?_⟩,ja ht'⟩
 ·by_cases e:j=k
  ·subst e;rw[Maps.has_put_same h.isMap hkl];simp
  rw[Maps.has_put_other (by simpa using e),hh j];show _=(if j=k then some v else f j).isSome;rw[if_neg e]
 ·replace hj:(if j=k then some v else f j)=some b:=hj;by_cases e:j=k
  ·subst e;rw[if_pos rfl]at hj;rw[Maps.atKey_put_same h.isMap hkl,<-bC hj]
  rw[if_neg e]at hj;rw[Maps.atKey_put_other (by simpa using e),ha j b hj]
 rw[Maps.size_put (h.tidy (Maps.int_keyed hK)),hh k,hs]
theorem del(h:jR P K E W M n f c)(hK:P.underlying K=some (.int .i64))(ht:P.underlying t=some (.map K E))(k:Int)(hk:(Lit.int .i64 k).wf=true)(ty:TypeId) :
  ∃W',(Builtin.delete_ #[t,K] ty #[.map (some M),.int .i64 k]).run P W= .ok (.tuple #[]) W'/\jR P K E W' M n (λ j=>if j=k then none else f j) (if (f k).isSome then c-1 else c)/\Only M W W':=by
 obtain⟨D,h,hh,ha,hs⟩:=h;obtain⟨W',hrun,h',ht'⟩:=h.drop (Maps.int_keyed hK) ht (Maps.keyOf_int_mk hK hk) ty;refine⟨W',hrun,⟨_,h',λ j=>?_,λ j b hj=>?_,?_⟩,ja ht'⟩
 ·by_cases e:j=k
  ·subst e;rw[Maps.has_del_same];simp
  rw[Maps.has_del_other (by simpa using e),hh j];show _=(if j=k then none else f j).isSome;rw[if_neg e]
 ·replace hj:(if j=k then none else f j)=some b:=hj;by_cases e:j=k
  ·rw[if_pos e]at hj;cases hj
  rw[if_neg e]at hj;rw[Maps.atKey_del_other (by simpa using e),ha j b hj]
 have:=Maps.size_del (h.tidy (Maps.int_keyed hK)) (k:=.int .i64 k);rw[hh k,hs]at this;by_cases e:(f k).isSome=true
 ·rw[if_pos e]at this ⊢;omega
 rw[if_neg e]at this ⊢;omega
theorem tight(h:jR P K E W M n f c):jR P K E W M c f c:=by
 obtain⟨D,⟨es,cl,h1,h2,h3,h4⟩,a,b,hs⟩:=h;refine⟨D,⟨es,cl,h1,h2,?_,h4⟩,a,b,hs⟩;rw[<-hs,h4];simp[Maps.size,length_sorted]
end jR
def ol(P:Program)(K E:TypeId)(W:World)(M n:Nat)(f:Int->Option (List UInt8))(c:Nat):Prop:=
 ∃D:DataW Unit,W.ownsMap P K (plainElem P E) M n D/\(∀k,Maps.has D (.int .i64 k)=(f k).isSome)/\(∀k v,f k=some v->D.atKey (.int .i64 k) (.lit (.string []))= .lit (.string v))/\Maps.size D=c
namespace ol
variable{P:Program}{K E t:TypeId}{W W':World}{M n c:Nat}{f:Int->Option (List UInt8)}
theorem new(W:World):ol P K E (W.alloc (.map #[] 0)) W 0 (λ _=>none) 0:=
 ⟨.map [],World.ownsMap_made _ _ _ _,λ _=>rfl,(λ _ _ h=>by cases h),rfl⟩
theorem lt(h:ol P K E W M n f c):M<W.heap.size:=by
 obtain⟨D,h,_⟩:=h;exact h.lt
theorem af(h:ol P K E W M n f c)(hb:W'.heap[M]?=W.heap[M]?):ol P K E W' M n f c:=by
 obtain⟨D,⟨es,cl,h1,h2,h3,h4⟩,r⟩:=h;exact⟨D,⟨es,cl,hb.trans h1,h2,h3,h4⟩,r⟩
theorem get(h:ol P K E W M n f c)(hK:P.underlying K=some (.int .i64))(hE:P.underlying E=some .string)(ht:P.underlying t=some (.map K E))(hz:∀w,(zeroValue E).run P w= .ok (.string (str [])) w)(k:Int)(hk:(Lit.int .i64 k).wf=true) :
  (Instr.lookup t (.map (some M)) (.int .i64 k) true).run P W= .ok (.tuple #[.string (str ((f k).getD [])),.bool (f k).isSome]) W:=by
 obtain⟨D,h,hh,ha,_⟩:=h;obtain⟨v,ps,hrun,hv⟩:=h.look_ok (Maps.int_keyed hK) ht (hz W) (plainElem_string hE (by simp[gL])) (Maps.keyOf_int_mk hK hk);obtain⟨s,rfl,hc,_⟩:=plainElem_string_inv hE hv;simp only[Prod.mk.injEq]at hc;rw[hrun,hh k,xqh s];have hc1:=hc.1
 cases hf:f k with
 | none=>
  have h1:Maps.has D (.int .i64 k)=false:=by rw[hh k,hf];rfl
  rw[Maps.atKey_of_not_has h1]at hc1;simp only[DataW.lit.injEq,Lit.string.injEq]at hc1;rw[<-hc1];rfl
 | some b=>
  rw[nS]at hc1;rw[ha k b hf]at hc1;simp only[DataW.lit.injEq,Lit.string.injEq]at hc1;rw[<-hc1];rfl
theorem put(h:ol P K E W M n f c)(hK:P.underlying K=some (.int .i64))(hE:P.underlying E=some .string)(ht:P.underlying t=some (.map K E))(hn:n<maxLen)(k:Int)(v:List UInt8)(hk:(Lit.int .i64 k).wf=true)(hv:v.length<=maxLen) :
  ∃W',(Instr.mapUpdate t (.map (some M)) (.int .i64 k) (.string (str v))).run P W= .ok () W'/\ol P K E W' M (n+1) (λ j=>if j=k then some v else f j) (if (f k).isSome then c else c+1)/\Only M W W':=by
 obtain⟨D,h,hh,ha,hs⟩:=h;obtain⟨W',hrun,h',ht'⟩:=h.store (Maps.int_keyed hK) ht hn (Maps.keyOf_int_mk hK hk) (plainElem_string hE (s:=str v) (by rw[gL];exact hv));rw[nS]at h';have hkl:WideAt.IsKeyLit (.int .i64 k):=trivial;refine⟨W',hrun,⟨_,h',λ j=>?_,λ j b hj=>?_,?_⟩,jR.ja ht'⟩
 ·by_cases e:j=k
  ·subst e;rw[Maps.has_put_same h.isMap hkl];simp
  rw[Maps.has_put_other (by simpa using e),hh j];show _=(if j=k then some v else f j).isSome;rw[if_neg e]
 ·replace hj:(if j=k then some v else f j)=some b:=hj;by_cases e:j=k
  ·subst e;rw[if_pos rfl]at hj;rw[Maps.atKey_put_same h.isMap hkl,<-bC hj]
  rw[if_neg e]at hj;rw[Maps.atKey_put_other (by simpa using e),ha j b hj]
 rw[Maps.size_put (h.tidy (Maps.int_keyed hK)),hh k,hs]
theorem tight(h:ol P K E W M n f c):ol P K E W M c f c:=by
 obtain⟨D,⟨es,cl,h1,h2,h3,h4⟩,a,b,hs⟩:=h;refine⟨D,⟨es,cl,h1,h2,?_,h4⟩,a,b,hs⟩;rw[<-hs,h4];simp[Maps.size,length_sorted]
end ol
end UK
open Go.RowKit
open UK (str aO nth Only Row aI)
structure Fr where
 blk:Nat
 db:Nat
 cap:Nat
 page:Int
 data:List UInt8
 ak:Int
 used:Bool
 bH:Bool
def jP:Nat->List (Option Fr)->Nat->Option Nat×List (Option Fr)×Nat
 | 0,l,h=>(none,l,h)
 | n+1,l,h=>match l.getD h none with
  | none=>(some h,l,(h+1)%l.length)
  | some f=>if 0<f.ak then jP n l ((h+1)%l.length) else if f.used=true then jP n (l.set h (some {f with used:=false})) ((h+1)%l.length) else(some h,l,(h+1)%l.length)
theorem IP(n:Nat){l:List (Option Fr)}{h:Nat}(hh:l[h]?=some none):jP (n+1) l h=(some h,l,(h+1)%l.length):=by
 have e:l.getD h none=none:=by rw[fK,hh];rfl
 simp only[jP,e]
theorem IQ(n:Nat){l:List (Option Fr)}{h:Nat}{f:Fr}(hh:l[h]?=some (some f)):jP (n+1) l h=if 0<f.ak then jP n l ((h+1)%l.length) else if f.used=true then jP n (l.set h (some {f with used:=false})) ((h+1)%l.length) else(some h,l,(h+1)%l.length):=by
 have e:l.getD h none=some f:=by rw[fK,hh];rfl
 simp only[jP,e]
def jS(l:List (Option Fr))(f:Int->Option Int):Prop:=∀p i,f p=some i↔∃j:Nat,i=j/\∃fr,l[j]?=some (some fr)/\fr.page=p
def cntF(l:List (Option Fr)):Nat:=(l.filter Option.isSome).length
def u6:List (Option Fr)->Int
 | []=>0
 | none::l=>u6 l
 | some f::l=>f.ak+u6 l
theorem jS.at_{l:List (Option Fr)}{f:Int->Option Int}(h:jS l f){j:Nat}{fr:Fr}(hj:l[j]?=some (some fr)):f fr.page=some (j:Int):=(h _ _).2 ⟨j,rfl,fr,hj,rfl⟩
theorem jS.inj{l:List (Option Fr)}{f:Int->Option Int}(h:jS l f){i j:Nat}{a b:Fr}(hi:l[i]?=some (some a))(hj:l[j]?=some (some b))(e:a.page=b.page):i=j:=by
 have h1:=h.at_ hi;have h2:=h.at_ hj;rw[e,h2]at h1;have:=bC h1;omega
theorem jS.no{l:List (Option Fr)}{f:Int->Option Int}(h:jS l f){p:Int}(hp:f p=none){j:Nat}{fr:Fr}(hj:l[j]?=some (some fr)):fr.page≠p:=λ e=>by
 have:=h.at_ hj;rw[e,hp]at this;cases this
theorem gB(l:List (Option Fr))(i j:Nat)(o:Option Fr)(hi:i<l.length):(l.set i o)[j]?=if i=j then some o else l[j]?:=by
 rw[List.getElem?_set];by_cases e:i=j
 ·rw[if_pos e,if_pos e,if_pos hi]
 rw[if_neg e,if_neg e]
theorem jS.forget{l:List (Option Fr)}{f:Int->Option Int}(h:jS l f){i:Nat}{fr:Fr}(hi:l[i]?=some (some fr)):jS (l.set i none) (λ p=>if p=fr.page then none else f p):=by
 have hl:=(dn.1 hi).1;intro p q;show(if p=fr.page then none else f p)=some q↔_;by_cases e:p=fr.page
 ·rw[if_pos e]
  constructor
  ·intro h0;cases h0
  rintro⟨j,_,g,hj,hg⟩;rw[gB l i j _ hl]at hj;by_cases e2:i=j
  ·rw[if_pos e2]at hj;cases hj
  rw[if_neg e2]at hj;exact absurd (h.inj hi hj (by rw[hg,e])) e2
 rw[if_neg e,h p q]
 constructor
 ·rintro⟨j,hq,g,hj,hg⟩;refine⟨j,hq,g,?_,hg⟩;rw[gB l i j _ hl,if_neg (λ e2=>?_)]
  ·exact hj
  subst e2;rw[hi]at hj;have:=bC (bC hj);exact e (by rw[<-hg,this])
 rintro⟨j,hq,g,hj,hg⟩;rw[gB l i j _ hl]at hj;by_cases e2:i=j
 ·rw[if_pos e2]at hj;cases hj
 rw[if_neg e2]at hj;exact⟨j,hq,g,hj,hg⟩
theorem jS.lay{l:List (Option Fr)}{f:Int->Option Int}(h:jS l f){i:Nat}(hi:l[i]?=some none){fr:Fr}(hp:f fr.page=none):jS (l.set i (some fr)) (λ p=>if p=fr.page then some (i:Int) else f p):=by
 have hl:=(dn.1 hi).1;intro p q;show(if p=fr.page then some (i:Int) else f p)=some q↔_;by_cases e:p=fr.page
 ·rw[if_pos e]
  constructor
  ·intro h0;exact⟨i,(bC h0).symm,fr,by rw[gB l i i _ hl,if_pos rfl],e.symm⟩
  rintro⟨j,hq,g,hj,hg⟩;rw[gB l i j _ hl]at hj;by_cases e2:i=j
  ·rw[hq,e2]
  rw[if_neg e2]at hj;exact absurd (hg.trans e) (h.no hp hj)
 rw[if_neg e,h p q]
 constructor
 ·rintro⟨j,hq,g,hj,hg⟩;refine⟨j,hq,g,?_,hg⟩;rw[gB l i j _ hl,if_neg (λ e2=>?_)]
  ·exact hj
  subst e2;rw[hi]at hj;cases hj
 rintro⟨j,hq,g,hj,hg⟩;rw[gB l i j _ hl]at hj;by_cases e2:i=j
 ·rw[if_pos e2]at hj;have:=bC (bC hj);exact absurd (by rw[<-hg,<-this]) e
 rw[if_neg e2]at hj;exact⟨j,hq,g,hj,hg⟩
theorem jS.turn{l:List (Option Fr)}{f:Int->Option Int}(h:jS l f){i:Nat}{a b:Fr}(hi:l[i]?=some (some a))(hp:b.page=a.page):jS (l.set i (some b)) f:=by
 have hl:=(dn.1 hi).1;intro p q;rw[h p q]
 constructor
 ·rintro⟨j,hq,g,hj,hg⟩;by_cases e2:i=j
  ·subst e2;rw[hi]at hj;have:=bC (bC hj);exact⟨i,hq,b,by rw[gB l i i _ hl,if_pos rfl],by rw[hp,this,hg]⟩
  exact⟨j,hq,g,by rw[gB l i j _ hl,if_neg e2];exact hj,hg⟩
 rintro⟨j,hq,g,hj,hg⟩;rw[gB l i j _ hl]at hj;by_cases e2:i=j
 ·rw[if_pos e2]at hj;have:=bC (bC hj);subst e2;exact⟨i,hq,a,hi,by rw[<-hp,this,hg]⟩
 rw[if_neg e2]at hj;exact⟨j,hq,g,hj,hg⟩
theorem Oh(o:Option Fr)(l:List (Option Fr)):cntF (o::l)=(if o.isSome then 1 else 0)+cntF l:=by
 unfold cntF
 cases o with
 | none=>simp
 | some f=>simp;omega
theorem Kr:∀(l:List (Option Fr)) (i:Nat) (a b:Option Fr),l[i]?=some a->cntF (l.set i b)+(if a.isSome then 1 else 0)=cntF l+(if b.isSome then 1 else 0)
 | [],i,a,b,h=>by cases h
 | o::l,0,a,b,h=>by
  obtain rfl:o=a:=by simpa using h
  rw[z0,Oh,Oh];omega
 | o::l,i+1,a,b,h=>by
  rw[z1,Oh,Oh];have:=Kr l i a b (by simpa using h);omega
theorem xzr(l:List (Option Fr)):cntF l<=l.length:=List.length_filter_le _ _
def iH(o:Option Fr):Int:=match o with
 | none=>0
 | some f=>f.ak
theorem IU(o:Option Fr)(l:List (Option Fr)):u6 (o::l)=iH o+u6 l:=by
 cases o<;>simp[u6,iH]
theorem Rv:∀(l:List (Option Fr)) (i:Nat) (a b:Option Fr),l[i]?=some a->u6 (l.set i b)=u6 l-iH a+iH b
 | [],i,a,b,h=>by cases h
 | o::l,0,a,b,h=>by
  obtain rfl:o=a:=by simpa using h
  rw[z0,IU,IU];omega
 | o::l,i+1,a,b,h=>by
  rw[z1,IU,IU];have:=Rv l i a b (by simpa using h);omega
open UK (str aO nth Only Row aI jR ol)
structure jQ where
 wb:Nat
 was:Int->Option (List UInt8)
 wn:Nat
 mo:Option Addr
 mc:Nat
 made:List Int
 go:Option Addr
 gc:Nat
 gone:List Int
structure Pl where
 ag:List (Option Fr)
 hand:Nat
 ak:Int
 op:Option jQ
def yg(o:Option jQ):Value:=.bool o.isSome
def uA:Option jQ->Value
 | none=>.map none
 | some o=>.map (some o.wb)
def Gb:Option jQ->Value
 | none=>.slice none 0 0
 | some o=>.slice o.mo o.made.length o.mc
def IX:Option jQ->Value
 | none=>.slice none 0 0
 | some o=>.slice o.go o.gone.length o.gc
def zX(l:List Int):List Value:=l.map λ i=>.int .i64 i
def ib(W:World)(ao:Option Addr)(c:Nat)(l:List Int):Prop:=(ao=none/\l=[]/\c=0)\/∃g,ao=some ⟨g,0,none⟩/\Row W g c (zX l)
def aK(ao:Option Addr)(k:Nat):Prop:=ao=some ⟨k,0,none⟩
def jJ(o:Option jQ)(k:Nat):Prop:=match o with
 | none=>False
 | some o=>k=o.wb\/aK o.mo k\/aK o.go k
structure Kt(W:World)(o:jQ):Prop where
 was:ol Tryz.prog 3 9 W o.wb o.wn o.was o.wn
 made:ib W o.mo o.mc o.made
 gone:ib W o.go o.gc o.gone
 wm:¬aK o.mo o.wb
 wg:¬aK o.go o.wb
 mg:∀k,aK o.mo k->¬aK o.go k
 wT:∀p∈o.made,(Lit.int .i64 p).wf=true
 wU:∀p∈o.gone,(Lit.int .i64 p).wf=true
 few:o.wn<=1000000000/\o.made.length<=1000000000/\o.gone.length<=1000000000
def vQ(W:World)(o:Option jQ):Prop:=∀x,o=some x->Kt W x
def pX(o:Option Fr):Value:=match o with
 | none=>.pointer none
 | some f=>.pointer f.blk
abbrev Oi(P:Nat)(f:Fr):Array Value:= #[.pointer P,.int .i64 f.page,.slice f.db 504 f.cap,.int .i64 f.ak,.bool f.used,.bool f.bH]
abbrev pF(D FB k M:Nat)(hand:Nat)(ak:Int)(o:Option jQ):Array Value:= #[.pointer D,.slice FB k k,.map (some M),.int .i64 hand,.int .i64 ak,yg o,uA o,Gb o,IX o]
structure sM(W:World)(P:Nat)(f:Fr):Prop where
 box:aI W f.blk (Oi P f)
 bytes:∃y,aO W f.db y/\y.length=f.cap/\y.take 504=f.data
 len:f.data.length=504
 cap:504<=f.cap
 page:(Lit.int .i64 f.page).wf=true
 ne:f.blk≠f.db
def oo(o:Option Fr)(k:Nat):Prop:=match o with
 | none=>False
 | some f=>k=f.blk\/k=f.db
def jK(P FB M:Nat)(l:List (Option Fr))(op:Option jQ)(k:Nat):Prop:=k=P\/k=FB\/k=M\/jJ op k\/∃(i:Nat) (o:Option Fr),l[i]?=some o/\oo o k
structure fV(W:World)(P D FB M:Nat)(q:Pl):Prop where
 box:aI W P (pF D FB q.ag.length M q.hand q.ak q.op)
 uB:Row W FB q.ag.length (q.ag.map pX)
 map:∃f,jS q.ag f/\jR Tryz.prog 3 3 W M (cntF q.ag) f (cntF q.ag)
 each:∀(i:Nat) (f:Fr),q.ag[i]?=some (some f)->sM W P f
 PF:P≠FB
 PM:P≠M
 FM:FB≠M
 off:∀(i:Nat) (o:Option Fr) (k:Nat),q.ag[i]?=some o->oo o k->k≠P/\k≠FB/\k≠M
 two:∀(i j:Nat) (o u:Option Fr) (k:Nat),i≠j->q.ag[i]?=some o->q.ag[j]?=some u->oo o k->¬oo u k
 op:vQ W q.op
 iU:∀k,jJ q.op k->k≠P/\k≠FB/\k≠M
 nD:∀(i:Nat) (o:Option Fr) (k:Nat),q.ag[i]?=some o->oo o k->¬jJ q.op k
 tab:∀(k:Nat),jK P FB M q.ag q.op k->0 ≠k
structure PD(E:Nat->Prop)(W:World)(P D FB M:Nat)(q:Pl)(d:Dk)(aj:Nat):Prop where
 pool:fV W P D FB M q
 dd:DD (λ k=>E k\/jK P FB M q.ag q.op k) W D d aj
 far:∀k,E k->¬jK P FB M q.ag q.op k
section
variable{E:Nat->Prop}{W W':World}{P D FB M aj:Nat}{q:Pl}{d d':Dk}
theorem sM.af{f:Fr}(h:sM W P f)(h1:W'.heap[f.blk]?=W.heap[f.blk]?)(h2:W'.heap[f.db]?=W.heap[f.db]?):sM W' P f:=by
 obtain⟨y,a,b,c⟩:=h.bytes;exact⟨h.box.af h1,⟨y,a.af h2,b,c⟩,h.len,h.cap,h.page,h.ne⟩
theorem sM.lt{f:Fr}(h:sM W P f){k:Nat}(hk:oo (some f) k):k<W.heap.size:=by
 obtain⟨y,a,_⟩:=h.bytes;rcases hk with rfl|rfl
 ·exact h.box.lt
 exact a.lt
theorem ib.lt{ao:Option Addr}{c:Nat}{l:List Int}(h:ib W ao c l){k:Nat}(hk:aK ao k):k<W.heap.size:=by
 rcases h with⟨h,_⟩|⟨g,h,r⟩
 ·rw[aK,h]at hk;cases hk
 rw[aK,h]at hk;have:=Addr.mk.inj (bC hk);rw[<-this.1];exact r.lt
theorem ib.af{ao:Option Addr}{c:Nat}{l:List Int}(h:ib W ao c l)(hs:W.heap.size<=W'.heap.size)(hb:∀k,aK ao k->W'.heap[k]?=W.heap[k]?):ib W' ao c l:=by
 rcases h with h|⟨g,h,r⟩
 ·exact .inl h
 exact .inr ⟨g,h,r.af hs (hb g h)⟩
theorem vQ.lt{o:Option jQ}(h:vQ W o){k:Nat}(hk:jJ o k):k<W.heap.size:=by
 cases o with
 | none=>exact absurd hk id
 | some x=>
  have hx:=h x rfl;rcases hk with rfl|hk|hk
  ·exact hx.was.lt
  ·exact hx.made.lt hk
  exact hx.gone.lt hk
theorem vQ.af{o:Option jQ}(h:vQ W o)(hs:W.heap.size<=W'.heap.size)(hb:∀k,jJ o k->W'.heap[k]?=W.heap[k]?):vQ W' o:=λ x hx=>by
 subst hx;have h1:=h x rfl;exact⟨h1.was.af (hb _ (.inl rfl)),h1.made.af hs (λ k hk=>hb k (.inr (.inl hk))),h1.gone.af hs (λ k hk=>hb k (.inr (.inr hk))),h1.wm,h1.wg,h1.mg,h1.wT,h1.wU,h1.few⟩
theorem fV.yS(h:fV W P D FB M q){i:Nat}{o:Option Fr}(hi:q.ag[i]?=some o){k:Nat}(hk:oo o k):k<W.heap.size:=by
 cases o with
 | none=>exact absurd hk id
 | some f=>exact(h.each i f hi).lt hk
theorem fV.lt(h:fV W P D FB M q){k:Nat}(hk:jK P FB M q.ag q.op k):k<W.heap.size:=by
 rcases hk with rfl|rfl|rfl|ho|⟨i,o,hi,ho⟩
 ·exact h.box.lt
 ·exact h.uB.lt
 ·obtain⟨f,_,hm⟩:=h.map;exact hm.lt
 ·exact h.op.lt ho
 exact h.yS hi ho
theorem fV.kept(h:fV W P D FB M q)(hs:W.heap.size<=W'.heap.size)(hb:∀k,jK P FB M q.ag q.op k->W'.heap[k]?=W.heap[k]?):fV W' P D FB M q:=by
 obtain⟨f,hf,hm⟩:=h.map
 exact⟨h.box.af (hb _ (.inl rfl)),h.uB.af hs (hb _ (.inr (.inl rfl))),⟨f,hf,hm.af (hb _ (.inr (.inr (.inl rfl))))⟩,
  λ i g hi=>(h.each i g hi).af (hb _ (.inr (.inr (.inr (.inr ⟨i,_,hi,.inl rfl⟩))))) (hb _ (.inr (.inr (.inr (.inr ⟨i,_,hi,.inr rfl⟩))))),h.PF,h.PM,h.FM,h.off,h.two,h.op.af hs (λ k hk=>hb k (.inr (.inr (.inr (.inl hk))))),h.iU,h.nD,h.tab⟩
theorem PD.next(h:PD E W P D FB M q d aj)(hb:Below W W W'):PD E W' P D FB M q d aj:=
 ⟨h.pool.kept hb.size (λ k hk=>hb.block k (h.pool.lt hk)),h.dd.below hb,h.far⟩
theorem PD.disk(h:PD E W P D FB M q d aj){cnt':Nat}(hd:DD (λ k=>E k\/jK P FB M q.ag q.op k) W' D d' cnt')(hk:Kept (λ k=>E k\/jK P FB M q.ag q.op k) W W'):PD E W' P D FB M q d' cnt':=
 ⟨h.pool.kept hk.size (λ k hp=>hk.block k (.inr hp)),hd,h.far⟩
theorem Rw(l:List (Option Fr))(i:Nat)(o:Option Fr)(h:l[i]?=some o):(l.map pX)[i]?=some (pX o):=by
 rw[dW,h];rfl
theorem Xv(l:List (Option Fr))(i:Nat)(o u:Option Fr)(h:l[i]?=some o)(e:pX u=pX o):(l.set i u).map pX=l.map pX:=by
 refine List.ext_getElem? (λ j=>?_);have hl:=(dn.1 h).1;rw[dW,dW,gB l i j _ hl];by_cases e2:i=j
 ·subst e2;rw[if_pos rfl,h];simp[e]
 rw[if_neg e2]
theorem map_set(l:List (Option Fr))(i:Nat)(u:Option Fr):(l.set i u).map pX=(l.map pX).set i (pX u):=List.map_set
theorem fV.sN{i:Nat}{o o':Option Fr}{hand:Nat}{ak:Int}(h:fV W P D FB M q)(hi:q.ag[i]?=some o)(_ht:0 <W.heap.size)(hP:aI W' P (pF D FB q.ag.length M hand ak q.op))(hs:W.heap.size<=W'.heap.size)(Rx:∀k,jJ q.op k->W'.heap[k]?=W.heap[k]?)
  (hFB:Row W' FB q.ag.length ((q.ag.set i o').map pX)) (hM:∃f,jS (q.ag.set i o') f/\jR Tryz.prog 3 3 W' M (cntF (q.ag.set i o')) f (cntF (q.ag.set i o')))
  (hkeep:∀(j:Nat) (u:Option Fr) (k:Nat),j≠i->q.ag[j]?=some u->oo u k->W'.heap[k]?=W.heap[k]?) (hnew:∀f,o'=some f->sM W' P f) (hown:∀k,oo o' k->oo o k\/W.heap.size<=k) :
  fV W' P D FB M {ag:=q.ag.set i o',hand:=hand,ak:=ak,op:=q.op}:=by
 have hl:=(dn.1 hi).1;have zY:=h.box.lt;have kN:=h.uB.lt;have Ry:M<W.heap.size:=h.lt (.inr (.inr (.inl rfl)))
 have hoff:∀k,oo o' k->k≠P/\k≠FB/\k≠M:=λ k hk=>by
  rcases hown k hk with h1|h1
  ·exact h.off i o k hi h1
  exact⟨by omega,by omega,by omega⟩
 have fO:∀j u k,j≠i->q.ag[j]?=some u->oo o' k->¬oo u k:=λ j u k hj hu hk hh=>by
  rcases hown k hk with h1|h1
  ·exact h.two i j o u k (eU hj) hi hu h1 hh
  have:=h.yS hu hh;omega
 refine⟨by show aI _ _ (pF _ _ (q.ag.set i o').length _ _ _ _);rw[bB];exact hP,by show Row _ _ (q.ag.set i o').length _;rw[bB];exact hFB,hM,λ j f hj=>?_,h.PF,h.PM,h.FM,λ j u k hj hk=>?_,λ a b u v k hab ha hb hk hh=>?_,h.op.af hs Rx,h.iU,λ j u k hj hk hh=>?_,λ k hk=>?_⟩
 ·have hj:(q.ag.set i o')[j]?=some (some f):=hj;rw[gB _ _ _ _ hl]at hj;by_cases e:i=j
  ·rw[if_pos e]at hj;exact hnew f (bC hj)
  rw[if_neg e]at hj;exact(h.each j f hj).af (hkeep j _ _ (eU e) hj (.inl rfl)) (hkeep j _ _ (eU e) hj (.inr rfl))
 ·have hj:(q.ag.set i o')[j]?=some u:=hj;rw[gB _ _ _ _ hl]at hj;by_cases e:i=j
  ·rw[if_pos e]at hj;rw[<-bC hj]at hk;exact hoff k hk
  rw[if_neg e]at hj;exact h.off j u k hj hk
 ·have ha:(q.ag.set i o')[a]?=some u:=ha;have hb:(q.ag.set i o')[b]?=some v:=hb;rw[gB _ _ _ _ hl]at ha hb;by_cases e:i=a
  ·rw[if_pos e]at ha;rw[if_neg (λ e2=>hab (e.symm.trans e2))]at hb;rw[<-bC ha]at hk;exact fO b v k (λ e2=>hab (e.symm.trans e2.symm)) hb hk hh
  rw[if_neg e]at ha;by_cases e2:i=b
  ·rw[if_pos e2]at hb;rw[<-bC hb]at hh;exact fO a u k (eU e) ha hh hk
  rw[if_neg e2]at hb;exact h.two a b u v k hab ha hb hk hh
 ·have hj:(q.ag.set i o')[j]?=some u:=hj;rw[gB _ _ _ _ hl]at hj;by_cases e:i=j
  ·rw[if_pos e]at hj;rw[<-bC hj]at hk;rcases hown k hk with h1|h1
   ·exact h.nD i o k hi h1 hh
   have:=h.op.lt hh;omega
  rw[if_neg e]at hj;exact h.nD j u k hj hk hh
 rcases hk with hk|hk|hk|hk|⟨j,u,hj,hk⟩
 ·exact h.tab k (.inl hk)
 ·exact h.tab k (.inr (.inl hk))
 ·exact h.tab k (.inr (.inr (.inl hk)))
 ·exact h.tab k (.inr (.inr (.inr (.inl hk))))
 have hj:(q.ag.set i o')[j]?=some u:=hj;rw[gB _ _ _ _ hl]at hj;by_cases e:i=j
 ·rw[if_pos e]at hj;rw[<-bC hj]at hk;rcases hown k hk with h1|h1
  ·exact h.tab k (.inr (.inr (.inr (.inr ⟨i,o,hi,h1⟩))))
  omega
 rw[if_neg e]at hj;exact h.tab k (.inr (.inr (.inr (.inr ⟨j,u,hj,hk⟩))))
theorem jK.sN{i:Nat}{o o':Option Fr}{l:List (Option Fr)}{op:Option jQ}{n k:Nat}(hi:l[i]?=some o)(hown:∀k,oo o' k->oo o k\/n<=k)(h:jK P FB M (l.set i o') op k):jK P FB M l op k\/n<=k:=by
 have hl:=(dn.1 hi).1;rcases h with h|h|h|h|⟨j,u,hj,hk⟩
 ·exact .inl (.inl h)
 ·exact .inl (.inr (.inl h))
 ·exact .inl (.inr (.inr (.inl h)))
 ·exact .inl (.inr (.inr (.inr (.inl h))))
 rw[gB _ _ _ _ hl]at hj;by_cases e:i=j
 ·rw[if_pos e]at hj;rw[<-bC hj]at hk;rcases hown k hk with h1|h1
  ·exact .inl (.inr (.inr (.inr (.inr ⟨i,o,hi,h1⟩))))
  exact .inr h1
 rw[if_neg e]at hj;exact .inl (.inr (.inr (.inr (.inr ⟨j,u,hj,hk⟩))))
theorem PD.moves{q':Pl}(h:PD E W P D FB M q d aj)(m:Moves (jK P FB M q.ag q.op) (jK P FB M q'.ag q'.op) W W')(hp:fV W' P D FB M q'):PD E W' P D FB M q' d aj/\Kept E W W':=by
 obtain⟨⟨own,hown,B,bc,fo,fc,I,ic,y,hd⟩,hf,hS⟩:=h.dd;have hE:∀k,E k->W'.heap[k]?=W.heap[k]?:=λ k hk=>m.block k (hS k (.inl hk)) (h.far k hk);have hd2:=hd.tight;have hown2:∀k,(own k/\k<W.heap.size)->W'.heap[k]?=W.heap[k]?:=λ k hk=>m.block k hk.2 (λ hh=>hown k hk.1 (.inr hh));have htlt:=hd.tab.lt
 have htab:jG W':=by
  have hb:=m.block _ htlt (λ hh=>h.pool.tab _ hh rfl);intro c;exact(mh (a:=⟨_,_,none⟩) hb).trans (hd.tab c)
 refine⟨⟨hp,⟨⟨λ k=>own k/\k<W.heap.size,λ k hk hh=>?_,B,bc,fo,fc,I,ic,y,?_⟩,hf,λ k hk=>?_⟩,λ k hk hh=>?_⟩,⟨m.os,m.tape,m.output,m.size,hE⟩⟩
 ·rcases hh with hh|hh
  ·exact hown k hk.1 (.inl hh)
  rcases m.owns k hh with h1|h1
  ·exact hown k hk.1 (.inr h1)
  have:=hk.2;omega
 ·refine⟨hd2.cells.af m.size (hown2 _ hd2.oD),hd2.bytes.af (hown2 _ hd2.oB),hd2.lJ,hd2.le,hd2.pre,?_,hd2.flags.af m.size (hown2 _ hd2.oI),hd2.DB,hd2.DI,hd2.BI,hd2.oD,hd2.oB,hd2.oI,htab,hd2.gX⟩;rcases hd2.fw with h0|⟨F,e1,r,n1,n2,n3,n4⟩
  ·exact .inl h0
  exact .inr ⟨F,e1,r.af m.size (hown2 _ n4),n1,n2,n3,n4⟩
 ·rcases hk with hk|hk
  ·exact bS (hS k (.inl hk)) m.size
  exact hp.lt hk
 rcases m.owns k hh with h1|h1
 ·exact h.far k hk h1
 have:=hS k (.inl hk);omega
structure pG(q:Pl):Prop where
 ak:q.ak=u6 q.ag
 pos:∀(i:Nat) (f:Fr),q.ag[i]?=some (some f)->0<=f.ak/\f.ak<=1000000
 hand:q.hand<q.ag.length
 few:q.ag.length<=1000
theorem Oj:∀(n:Nat) (q:Pl),pG q->pG {ag:=(jP n q.ag q.hand).2.1,hand:=(jP n q.ag q.hand).2.2,ak:=q.ak,op:=q.op}/\(jP n q.ag q.hand).2.1.length=q.ag.length /\
  ∀i,(jP n q.ag q.hand).1=some i->∃o,(jP n q.ag q.hand).2.1[i]?=some o/\∀f,o=some f->f.ak=0
 | 0,q,h=>⟨h,rfl,λ i hi=>by cases hi⟩
 | n+1,q,h=>by
  have hh:=h.hand;have hmod:(q.hand+1)%q.ag.length<q.ag.length:=mq _ (by omega);obtain⟨o,ho⟩:∃o,q.ag[q.hand]?=some o:=⟨_,di hh⟩
  cases o with
  | none=>
   rw[IP n ho];exact⟨⟨h.ak,h.pos,hmod,h.few⟩,rfl,λ i hi=>⟨none,by rw[<-bC hi];exact ho,λ f hf=>by cases hf⟩⟩
  | some f=>
   rw[IQ n ho];by_cases hp:0<f.ak
   ·rw[if_pos hp];exact Oj n {q with hand:=(q.hand+1)%q.ag.length} ⟨h.ak,h.pos,hmod,h.few⟩
   rw[if_neg hp];by_cases hu:f.used=true
   ·rw[if_pos hu];have hl:=(dn.1 ho).1;have h2:=Oj n {q with ag:=q.ag.set q.hand (some {f with used:=false}),hand:=(q.hand+1)%q.ag.length} ⟨?_,λ i g hi=>?_,?_,?_⟩
    ·simp only[bB]at h2;exact h2
    ·show q.ak=u6 (q.ag.set q.hand _);rw[Rv _ _ _ _ ho];have:=h.ak;simp only[iH];omega
    ·have hi:(q.ag.set q.hand (some {f with used:=false}))[i]?=some (some g):=hi;rw[gB _ _ _ _ hl]at hi;by_cases e:q.hand=i
     ·rw[if_pos e]at hi;rw[<-bC (bC hi)];exact h.pos _ f ho
     rw[if_neg e]at hi;exact h.pos i g hi
    ·show _<(q.ag.set q.hand _).length;rw[bB];exact hmod
    show(q.ag.set q.hand _).length<=_;rw[bB];exact h.few
   rw[if_neg hu];refine⟨⟨h.ak,h.pos,hmod,h.few⟩,rfl,λ i hi=>⟨some f,by rw[<-bC hi];exact ho,λ g hg=>?_⟩⟩;have:=h.pos _ f ho;rw[<-bC hg];omega
theorem pG.set{q:Pl}(h:pG q){i:Nat}{o u:Option Fr}(hi:q.ag[i]?=some o)(hu:∀f,u=some f->0<=f.ak/\f.ak<=1000000):pG {ag:=q.ag.set i u,hand:=q.hand,ak:=q.ak-iH o+iH u,op:=q.op}:=by
 have hl:=(dn.1 hi).1;refine⟨?_,λ j g hj=>?_,?_,?_⟩
 ·show _=u6 (q.ag.set i u);rw[Rv _ _ _ _ hi,<-h.ak]
 ·have hj:(q.ag.set i u)[j]?=some (some g):=hj;rw[gB _ _ _ _ hl]at hj;by_cases e:i=j
  ·rw[if_pos e]at hj;exact hu g (bC hj)
  rw[if_neg e]at hj;exact h.pos j g hj
 ·show _<(q.ag.set i u).length;rw[bB];exact h.hand
 show(q.ag.set i u).length<=_;rw[bB];exact h.few
def tV(q' q:Pl):Prop:=∀(j:Nat) (g:Fr),q'.ag[j]?=some (some g)->∃g0:Fr,q.ag[j]?=some (some g0)/\g0.page=g.page
theorem tV.refl(q:Pl):tV q q:=λ _ g h=>⟨g,h,rfl⟩
theorem tV.trans{a b c:Pl}(h:tV a b)(k:tV b c):tV a c:=λ j g hg=>by
 obtain⟨g1,h1,e1⟩:=h j g hg;obtain⟨g2,h2,e2⟩:=k j g1 h1;exact⟨g2,h2,e2.trans e1⟩
theorem tV.set{q:Pl}{i:Nat}{f g:Fr}(hi:q.ag[i]?=some (some f))(hp:g.page=f.page)(hand:Nat)(ak:Int):tV {ag:=q.ag.set i (some g),hand:=hand,ak:=ak,op:=q.op} q:=λ j u hj=>by
 have hl:=(dn.1 hi).1;replace hj:(q.ag.set i (some g))[j]?=some (some u):=hj;rw[gB _ _ _ _ hl]at hj;by_cases e:i=j
 ·rw[if_pos e]at hj;subst e;exact⟨f,hi,by rw[<-bC (bC hj),hp]⟩
 rw[if_neg e]at hj;exact⟨u,hj,rfl⟩
theorem tV.empty{q:Pl}{i:Nat}{o:Option Fr}(hi:q.ag[i]?=some o)(hand:Nat)(ak:Int):tV {ag:=q.ag.set i none,hand:=hand,ak:=ak,op:=q.op} q:=λ j u hj=>by
 have hl:=(dn.1 hi).1;replace hj:(q.ag.set i none)[j]?=some (some u):=hj;rw[gB _ _ _ _ hl]at hj;by_cases e:i=j
 ·rw[if_pos e]at hj;cases hj
 rw[if_neg e]at hj;exact⟨u,hj,rfl⟩
theorem Rz(op:Option jQ):∀(n:Nat) (l:List (Option Fr)) (h:Nat) (hand:Nat) (ak:Int) (hand':Nat) (Ku:Int),h<l.length->tV {ag:=(jP n l h).2.1,hand:=hand,ak:=ak,op:=op} {ag:=l,hand:=hand',ak:=Ku,op:=op}
 | 0,l,h,_,_,_,_,_=>λ j g hg=>⟨g,hg,rfl⟩
 | n+1,l,h,a,b,a',b',hh=>by
  have hmod:(h+1)%l.length<l.length:=mq _ (by omega);obtain⟨o,ho⟩:∃o,l[h]?=some o:=⟨_,di hh⟩
  cases o with
  | none=>rw[IP n ho];exact λ j g hg=>⟨g,hg,rfl⟩
  | some f=>
   rw[IQ n ho];by_cases hp:0<f.ak
   ·rw[if_pos hp];exact Rz op n l _ a b a' b' hmod
   rw[if_neg hp];by_cases hu:f.used=true
   ·rw[if_pos hu];exact(Rz op n _ _ a b a' b' (by rw[bB];exact hmod)).trans (tV.set (q:={ag:=l,hand:=a',ak:=b',op:=op}) (g:={f with used:=false}) ho rfl a' b')
   rw[if_neg hu];exact λ j g hg=>⟨g,hg,rfl⟩
end
def Rn(o:Option Fr):Prop:=∀f,o=some f->¬0<f.ak/\f.used=false
def Ro(o:Option Fr):Prop:=∀f,o=some f->¬0<f.ak
theorem Xm(n:Nat){l:List (Option Fr)}{h:Nat}(hh:h<l.length) :
  (jP (n+1) l h).1≠none\/∃(f:Fr) (l':List (Option Fr)),l[h]?=some (some f)/\jP (n+1) l h=jP n l' ((h+1)%l.length)/\((0<f.ak/\l'=l)\/(¬0<f.ak/\f.used=true/\l'=l.set h (some {f with used:=false}))):=by
 cases ho:l[h]? with
 | none=>exact absurd ho (by rw[di hh];exact λ h=>by cases h)
 | some o=>
  cases o with
  | none=>left;rw[IP n ho];exact λ h=>by cases h
  | some f=>
   rw[IQ n ho];by_cases hp:0<f.ak
   ·right
    exact⟨f,l,rfl,by rw[if_pos hp],.inl ⟨hp,rfl⟩⟩
   by_cases hu:f.used=true
   ·right
    exact⟨f,_,rfl,by rw[if_neg hp,if_pos hu],.inr ⟨hp,hu,rfl⟩⟩
   left
   rw[if_neg hp,if_neg hu];exact λ h=>by cases h
theorem Xn:∀(j n:Nat) (l:List (Option Fr)) (h i:Nat),h<l.length->(h+j)%l.length=i->j<l.length->(∀o,l[i]?=some o->Rn o)->j+1<=n->(jP n l h).1≠none
 | j,0,_,_,_,_,_,_,_,hn=>absurd hn (by omega)
 | j,n+1,l,h,i,hh,hi,hj,hr,hn=>by
  rcases Xm n hh with h1|⟨f,l',hf,he,hc⟩
  ·exact h1
  have hil:i<l.length:=by rw[<-hi];exact mq _ (by omega)
  by_cases e:h=i
  ·subst e;obtain⟨r1,r2⟩:=hr _ hf f rfl;rcases hc with⟨hp,_⟩|⟨_,hu,_⟩
   ·exact absurd hp r1
   rw[r2]at hu;cases hu
  have hj0:j≠0:=λ e0=>by
   subst e0;rw[iP,Nat.mod_eq_of_lt hh]at hi;exact e hi
  have hl':l'.length=l.length:=by
   rcases hc with⟨_,rfl⟩|⟨_,_,rfl⟩
   ·rfl
   exact bB
  rw[he];rw[<-hl'];refine Xn (j-1) n l' ((h+1)%l'.length) i (mq _ (by omega)) ?_ (by omega) (λ o ho=>?_) (by omega)
  ·rw[hl',<-hi,Nat.mod_add_mod]
   congr 1
   omega
  rcases hc with⟨_,rfl⟩|⟨_,_,rfl⟩
  ·exact hr o ho
  rw[gB _ _ _ _ hh,if_neg e]at ho;exact hr o ho
theorem Xo:∀(j n:Nat) (l:List (Option Fr)) (h i:Nat),h<l.length->(h+j)%l.length=i->j<l.length->(∀o,l[i]?=some o->Ro o)->j+1+l.length<=n->(jP n l h).1≠none
 | j,0,_,_,_,_,_,_,_,hn=>absurd hn (by omega)
 | j,n+1,l,h,i,hh,hi,hj,hr,hn=>by
  rcases Xm n hh with h1|⟨f,l',hf,he,hc⟩
  ·exact h1
  have hil:i<l.length:=by rw[<-hi];exact mq _ (by omega)
  have hl':l'.length=l.length:=by
   rcases hc with⟨_,rfl⟩|⟨_,_,rfl⟩
   ·rfl
   exact bB
  by_cases e:h=i
  ·subst e;have r1:=hr _ hf f rfl;rcases hc with⟨hp,_⟩|⟨_,hu,rfl⟩
   ·exact absurd hp r1
   rw[he,<-hl'];refine Xn (l.length-1) n _ _ h (mq _ (by omega)) ?_ (by omega) (λ o ho=>?_) (by omega)
   ·rw[hl',Nat.mod_add_mod,show h+1+(l.length-1)=h+l.length by omega,Nat.add_mod_right,Nat.mod_eq_of_lt hh]
   rw[gB _ _ _ _ hh,if_pos rfl]at ho;intro g hg;rw[<-bC ho]at hg;rw[<-bC hg];exact⟨r1,rfl⟩
  have hj0:j≠0:=λ e0=>by
   subst e0;rw[iP,Nat.mod_eq_of_lt hh]at hi;exact e hi
  rw[he,<-hl'];refine Xo (j-1) n l' ((h+1)%l'.length) i (mq _ (by omega)) ?_ (by omega) (λ o ho=>?_) (by omega)
  ·rw[hl',<-hi,Nat.mod_add_mod]
   congr 1
   omega
  rcases hc with⟨_,rfl⟩|⟨_,_,rfl⟩
  ·exact hr o ho
  rw[gB _ _ _ _ hh,if_neg e]at ho;exact hr o ho
theorem xn8(l:List (Option Fr))(h i:Nat)(hh:h<l.length)(hi:i<l.length)(hr:∀o,l[i]?=some o->Ro o):(jP (2*l.length) l h).1≠none:=by
 refine Xo ((i+l.length-h)%l.length) (2*l.length) l h i hh ?_ (mq _ (by omega)) hr ?_
 ·rw[Nat.add_mod_mod,show h+(i+l.length-h)=i+l.length by omega,Nat.add_mod_right,Nat.mod_eq_of_lt hi]
 have:=mq (i+l.length-h) (show 0<l.length by omega);omega
theorem Oc:∀(n:Nat) (l:List (Option Fr)) (h:Nat),h<l.length->∀(i:Nat) (g:Fr),(jP n l h).2.1[i]?=some (some g)->∃f:Fr,l[i]?=some (some f)/\(g=f\/g={f with used:=false})
 | 0,_,_,_,_,g,hg=>⟨g,hg,.inl rfl⟩
 | n+1,l,h,hh,i,g,hg=>by
  have ho:∃o,l[h]?=some o:=⟨_,di hh⟩;obtain⟨o,ho⟩:=ho
  cases o with
  | none=>rw[IP n ho]at hg;exact⟨g,hg,.inl rfl⟩
  | some f=>
   rw[IQ n ho]at hg;by_cases hp:0<f.ak
   ·rw[if_pos hp]at hg;exact Oc n l _ (mq _ (by omega)) i g hg
   rw[if_neg hp]at hg;by_cases hu:f.used=true
   ·rw[if_pos hu]at hg;obtain⟨f2,h2,h3⟩:=Oc n (l.set h (some {f with used:=false})) _ (by rw[bB];exact mq _ (by omega)) i g hg;rw[gB _ _ _ _ hh]at h2;by_cases e:h=i
    ·subst e;rw[if_pos rfl]at h2;have e2:=bC (bC h2);subst e2;exact⟨f,ho,.inr (by rcases h3 with rfl|rfl<;>rfl)⟩
    rw[if_neg e]at h2;exact⟨f2,h2,h3⟩
   rw[if_neg hu]at hg;exact⟨g,hg,.inl rfl⟩
theorem Od:∀(n:Nat) (l:List (Option Fr)) (h:Nat),h<l.length->∀(i:Nat) (f:Fr),l[i]?=some (some f)->∃g:Fr,(jP n l h).2.1[i]?=some (some g)/\(g=f\/g={f with used:=false})
 | 0,_,_,_,_,f,hf=>⟨f,hf,.inl rfl⟩
 | n+1,l,h,hh,i,f,hf=>by
  have ho:∃o,l[h]?=some o:=⟨_,di hh⟩;obtain⟨o,ho⟩:=ho
  cases o with
  | none=>rw[IP n ho];exact⟨f,hf,.inl rfl⟩
  | some u=>
   rw[IQ n ho];by_cases hp:0<u.ak
   ·rw[if_pos hp];exact Od n l _ (mq _ (by omega)) i f hf
   rw[if_neg hp];by_cases hu:u.used=true
   ·rw[if_pos hu];by_cases e:h=i
    ·subst e;rw[ho]at hf;have e2:=bC (bC hf);subst e2;obtain⟨g,h2,h3⟩:=Od n (l.set h (some {u with used:=false})) ((h+1)%l.length) (by rw[bB];exact mq _ (by omega)) h {u with used:=false} (by rw[gB _ _ _ _ hh,if_pos rfl]);exact⟨g,h2,.inr (by rcases h3 with rfl|rfl<;>rfl)⟩
    exact Od n (l.set h (some {u with used:=false})) ((h+1)%l.length) (by rw[bB];exact mq _ (by omega)) i f (by rw[gB _ _ _ _ hh,if_neg e];exact hf)
   rw[if_neg hu];exact⟨f,hf,.inl rfl⟩
structure Calm(q:Pl)(d:Dk)(aj:Nat)(c:Nat->List UInt8):Prop where
 clean:Clean d aj
 at_:∀(i:Nat) (f:Fr),q.ag[i]?=some (some f)->f.data=c f.page.toNat
 off:∀p,1<=p->p<aj->p∉d.free->(∀(i:Nat) (f:Fr),q.ag[i]?=some (some f)->f.page=(p:Nat)->f.bH=false)->jM d.x p=c p
section
variable{q:Pl}{d:Dk}{aj:Nat}{c:Nat->List UInt8}
theorem Calm.forget(h:Calm q d aj c){i:Nat}{f:Fr}(hi:q.ag[i]?=some (some f))(hd:f.bH=false)(hand:Nat)(ak:Int)(op:Option jQ):Calm {ag:=q.ag.set i none,hand:=hand,ak:=ak,op:=op} d aj c:=by
 have hl:=(dn.1 hi).1;refine⟨h.clean,λ j g hj=>?_,λ p h1 h2 h3 h4=>h.off p h1 h2 h3 (λ j g hj hg=>?_)⟩
 ·replace hj:(q.ag.set i none)[j]?=some (some g):=hj;rw[gB _ _ _ _ hl]at hj;by_cases e:i=j
  ·rw[if_pos e]at hj;cases hj
  rw[if_neg e]at hj;exact h.at_ j g hj
 by_cases e:i=j
 ·subst e;rw[hi]at hj;rw[<-bC (bC hj)];exact hd
 exact h4 j g (by show(q.ag.set i none)[j]?=_;rw[gB _ _ _ _ hl,if_neg e];exact hj) hg
theorem Calm.wS(h:Calm q d aj c)(hh:q.hand<q.ag.length)(n:Nat)(hand:Nat)(ak:Int)(op:Option jQ):Calm {ag:=(jP n q.ag q.hand).2.1,hand:=hand,ak:=ak,op:=op} d aj c:=by
 refine⟨h.clean,λ i g hg=>?_,λ p h1 h2 h3 h4=>h.off p h1 h2 h3 (λ i f hf hp=>?_)⟩
 ·obtain⟨f,hf,e⟩:=Oc n q.ag q.hand hh i g hg;have:=h.at_ i f hf;rcases e with rfl|rfl<;>exact this
 obtain⟨g,hg,e⟩:=Od n q.ag q.hand hh i f hf;have:=h4 i g hg (by rcases e with rfl|rfl<;>exact hp);rcases e with rfl|rfl<;>exact this
theorem Rp(hc:Clean d aj)(p r:Nat)(hp:p<aj)(hr:r<aj)(s:List UInt8)(hs:s.length=504):jM (xV d p s).x r=if p=r then s else jM d.x r:=by
 have hx:=hc.fit.len;have h6:=hc.fit.few;by_cases e:p=r
 ·subst e;rw[if_pos rfl];exact(Wu d.x p (by omega) s hs (by omega)).1
 rw[if_neg e];have e2:iG (UK.wr d.x (512*p) (jm p s)) r=iG d.x r:=by rw[Es d.x p r _ (zB p s (by omega)) (by omega) (by omega),if_neg e]
 show jM (UK.wr d.x (512*p) (jm p s)) r=_;unfold jM;rw[zN,zN,CK,CK,e2]
theorem Calm.write(h:Calm q d aj c)(h3:d.puts+1<1000000000){i:Nat}{f:Fr}(hi:q.ag[i]?=some (some f)){p:Nat}(hp:f.page=(p:Nat))(hlt:p<aj)(hfr:p∉d.free)(aJ:f.data.length=504)(hand:Nat)(ak:Int)(op:Option jQ):Calm {ag:=q.ag.set i none,hand:=hand,ak:=ak,op:=op} (xV d p f.data) aj c:=by
 have hl:=(dn.1 hi).1;refine⟨h.clean.write h3 p hlt hfr f.data (by omega),λ j g hj=>?_,λ r h1 h2 hr h4=>?_⟩
 ·replace hj:(q.ag.set i none)[j]?=some (some g):=hj;rw[gB _ _ _ _ hl]at hj;by_cases e:i=j
  ·rw[if_pos e]at hj;cases hj
  rw[if_neg e]at hj;exact h.at_ j g hj
 rw[Rp h.clean p r hlt h2 f.data aJ];by_cases e:p=r
 ·subst e;rw[if_pos rfl];have:=h.at_ i f hi;rw[hp,Int.toNat_natCast]at this;exact this
 rw[if_neg e];refine h.off r h1 h2 hr (λ j g hj hg=>?_)
 have hji:i≠j:=λ e2=>by
  subst e2;rw[hi]at hj;have e3:=bC (bC hj);subst e3;rw[hp]at hg;exact e (by omega)
 exact h4 j g (by show(q.ag.set i none)[j]?=_;rw[gB _ _ _ _ hl,if_neg hji];exact hj) hg
theorem Calm.lay(h:Calm q d aj c){i:Nat}(hi:q.ag[i]?=some none){f:Fr}(hf:f.data=c f.page.toNat)(hand:Nat)(ak:Int)(op:Option jQ):Calm {ag:=q.ag.set i (some f),hand:=hand,ak:=ak,op:=op} d aj c:=by
 have hl:=(dn.1 hi).1;refine⟨h.clean,λ j g hj=>?_,λ p h1 h2 h3 h4=>h.off p h1 h2 h3 (λ j g hj hg=>?_)⟩
 ·replace hj:(q.ag.set i (some f))[j]?=some (some g):=hj;rw[gB _ _ _ _ hl]at hj;by_cases e:i=j
  ·rw[if_pos e]at hj;rw[<-bC (bC hj)];exact hf
  rw[if_neg e]at hj;exact h.at_ j g hj
 have e:i≠j:=λ e=>by subst e;rw[hi]at hj;cases hj
 exact h4 j g (by show(q.ag.set i (some f))[j]?=_;rw[gB _ _ _ _ hl,if_neg e];exact hj) hg
theorem Xp(p:Nat):jm p []=jm p (UK.bW 504):=by
 have e:qZ p []=qZ p (UK.bW 504):=by
  have h1:([]:List UInt8)++UK.bW (504-([]:List UInt8).length)=UK.bW 504++UK.bW (504-(UK.bW 504).length):=by
   rw[UK.lI,iF,gH,List.length_nil,Nat.sub_zero];exact(jw _).symm
  unfold qZ;rw[h1]
 unfold jm;rw[e]
theorem xq0(hc:Clean d aj){l:List Nat}{p:Nat}(hl:d.free=l++[p])(r:Nat)(hr:r<aj):jM (gP d l p).x r=if p=r then UK.bW 504 else jM d.x r:=by
 have hp:=hc.fit.free p (by rw[hl];exact fE _ (bQ.2 rfl));have e:=Rp hc p r hp.2 hr (UK.bW 504) (UK.lI 504);show jM (UK.wr d.x (512*p) (jm p [])) r=_;rw[Xp];exact e
def dI(c:Nat->List UInt8)(p:Nat)(s:List UInt8):Nat->List UInt8:=λ r=>if p=r then s else c r
theorem Calm.nat(h:Calm q d aj c){f:Fr}(hh:bn d aj f.page=true):∃p:Nat,f.page=p/\1<=p/\p<aj/\p∉d.free:=by
 rw[h.clean.so.lN,decide_eq_true_eq]at hh;exact⟨f.page.toNat,by omega,by omega,by omega,hh.2.2⟩
theorem Calm.gP(h:Calm q d aj c)(h3:d.puts+1<1000000000){l:List Nat}{p:Nat}(hl:d.free=l++[p])(hh:∀(i:Nat) (f:Fr),q.ag[i]?=some (some f)->bn d aj f.page=true):Calm q (gP d l p) aj (dI c p (UK.bW 504)):=by
 have hpm:p∈d.free:=by rw[hl];exact fE _ (bQ.2 rfl)
 refine⟨h.clean.gP h3 l p hl,λ i f hi=>?_,λ r h1 h2 hr h4=>?_⟩
 ·obtain⟨a,ha,_,_,hf⟩:=h.nat (hh i f hi);have:=h.at_ i f hi;unfold dI;rw[ha,Int.toNat_natCast]at this ⊢;have hne:¬p=a:=λ e=>by subst e;exact hf hpm
  rw[if_neg hne];exact this
 rw[xq0 h.clean hl r h2];unfold dI;by_cases e:p=r
 ·rw[if_pos e,if_pos e]
 rw[if_neg e,if_neg e];refine h.off r h1 h2 (λ hm=>?_) h4;rw[hl]at hm;rcases cB.1 hm with hm|hm
 ·exact hr hm
 exact e (bQ.1 hm).symm
theorem Xq(hc:Clean d aj)(p r:Nat)(hp:p<aj)(hr:r<aj)(s:List UInt8)(hs:s.length<=504)(e:p≠r):jM (UK.wr d.x (512*p) (jm p s)) r=jM d.x r:=by
 have hx:=hc.fit.len;have e2:iG (UK.wr d.x (512*p) (jm p s)) r=iG d.x r:=by rw[Es d.x p r _ (zB p s hs) (by omega) (by omega),if_neg e]
 unfold jM;rw[zN,zN,CK,CK,e2]
theorem xq1(hc:Clean d aj)(hm:aj<60000)(r:Nat)(hr:r<aj+1):jM (takeN d aj).x r=if aj=r then UK.bW 504 else jM d.x r:=by
 have hx:=hc.fit.len;have hx2:(d.x++UK.bW 512).length=512*(aj+1):=by rw[zl,UK.lI];omega
 show jM (UK.wr (d.x++UK.bW 512) (512*aj) (jm aj [])) r=_;by_cases e:aj=r
 ·subst e;rw[if_pos rfl,Xp];exact(Wu _ aj (by omega) (UK.bW 504) (UK.lI 504) (by omega)).1
 rw[if_neg e];have e2:iG (UK.wr (d.x++UK.bW 512) (512*aj) (jm aj [])) r=iG (d.x++UK.bW 512) r:=by rw[Es _ aj r _ (zB aj [] (by decide)) (by omega) (by omega),if_neg e]
 have e3:iG (d.x++UK.bW 512) r=iG d.x r:=by
  unfold iG;rw[kR (by omega),lZ (by rw[zd];omega)]
 unfold jM;rw[zN,zN,CK,CK,e2,e3]
theorem Calm.takeN(h:Calm q d aj c)(h3:d.puts+1<1000000000)(hl:d.free=[])(hm:(aj:Int)<d.ax)(hh:∀(i:Nat) (f:Fr),q.ag[i]?=some (some f)->bn d aj f.page=true):Calm q (takeN d aj) (aj+1) (dI c aj (UK.bW 504)):=by
 have hmo:=h.clean.fit.ax;refine⟨h.clean.takeN h3 hl hm,λ i f hi=>?_,λ r h1 h2 hr h4=>?_⟩
 ·obtain⟨a,ha,_,hlt,hf⟩:=h.nat (hh i f hi);have:=h.at_ i f hi;unfold dI;rw[ha,Int.toNat_natCast]at this ⊢;rw[if_neg (by omega)];exact this
 rw[xq1 h.clean (by omega) r h2];unfold dI;by_cases e:aj=r
 ·rw[if_pos e,if_pos e]
 rw[if_neg e,if_neg e];exact h.off r h1 (by omega) (by rw[hl];exact List.not_mem_nil) h4
theorem Calm.turn(h:Calm q d aj c){i:Nat}{f g:Fr}(hi:q.ag[i]?=some (some f))(hp:g.page=f.page)(Ko:g.data=f.data)(hd:f.bH=true->g.bH=true)(hand:Nat)(ak:Int)(op:Option jQ):Calm {ag:=q.ag.set i (some g),hand:=hand,ak:=ak,op:=op} d aj c:=by
 have hl:=(dn.1 hi).1;refine⟨h.clean,λ j u hj=>?_,λ p h1 h2 h3 h4=>h.off p h1 h2 h3 (λ j u hj hu=>?_)⟩
 ·replace hj:(q.ag.set i (some g))[j]?=some (some u):=hj;rw[gB _ _ _ _ hl]at hj;by_cases e:i=j
  ·rw[if_pos e]at hj;rw[<-bC (bC hj),Ko,hp];exact h.at_ i f hi
  rw[if_neg e]at hj;exact h.at_ j u hj
 by_cases e:i=j
 ·subst e;rw[hi]at hj;have e2:=bC (bC hj);subst e2;have:=h4 i g (by show(q.ag.set i (some g))[i]?=_;rw[gB _ _ _ _ hl,if_pos rfl]) (hp.trans hu)
  cases IR:f.bH
  ·rfl
  rw[hd IR]at this;cases this
 exact h4 j u (by show(q.ag.set i (some g))[j]?=_;rw[gB _ _ _ _ hl,if_neg e];exact hj) hu
theorem Calm.same(h:Calm q d aj c)(hand:Nat)(ak:Int)(op:Option jQ):Calm {ag:=q.ag,hand:=hand,ak:=ak,op:=op} d aj c:=⟨h.clean,h.at_,h.off⟩
theorem Calm.Rq(h:Calm q d aj c){i:Nat}{f:Fr}(hi:q.ag[i]?=some (some f))(hd:f.bH=true)(hhas:∀(j:Nat) (g:Fr),q.ag[j]?=some (some g)->bn d aj g.page=true)(hinj:∀(j:Nat) (g:Fr),q.ag[j]?=some (some g)->g.page=f.page->i=j)(s:List UInt8)(hand:Nat)(ak:Int)(op:Option jQ) :
  Calm {ag:=q.ag.set i (some {f with data:=s}),hand:=hand,ak:=ak,op:=op} d aj (dI c f.page.toNat s):=by
 have hl:=(dn.1 hi).1;obtain⟨p,hp,hp1,_,_⟩:=h.nat (hhas i f hi);refine⟨h.clean,λ j u hj=>?_,λ r h1 h2 h3 h4=>?_⟩
 ·replace hj:(q.ag.set i (some {f with data:=s}))[j]?=some (some u):=hj;rw[gB _ _ _ _ hl]at hj;unfold dI;by_cases e:i=j
  ·rw[if_pos e]at hj;rw[<-bC (bC hj)];show s=if f.page.toNat=f.page.toNat then s else _
   rw[if_pos rfl]
  rw[if_neg e]at hj;obtain⟨a,ha,_,_,_⟩:=h.nat (hhas j u hj);rw[if_neg (λ e2=>e (hinj j u hj (by omega)))];exact h.at_ j u hj
 unfold dI;by_cases e:f.page.toNat=r
 ·have:=h4 i {f with data:=s} (by show(q.ag.set i _)[i]?=_;rw[gB _ _ _ _ hl,if_pos rfl]) (by show f.page=_;omega);rw[show({f with data:=s}:Fr).bH=f.bH from rfl,hd]at this
  cases this
 rw[if_neg e];refine h.off r h1 h2 h3 (λ j u hj hu=>?_);by_cases e2:i=j
 ·subst e2;rw[hi]at hj;have e3:=bC (bC hj);subst e3;omega
 exact h4 j u (by show(q.ag.set i _)[j]?=_;rw[gB _ _ _ _ hl,if_neg e2];exact hj) hu
theorem Calm.give(h:Calm q d aj c)(h3:d.puts+1<1000000000)(p:Nat)(h1:1<=p)(hp:p<aj)(hf:p∉d.free){l:List (Option Fr)}(hsub:∀(j:Nat) (g:Fr),l[j]?=some (some g)->q.ag[j]?=some (some g))(hkeep:∀(j:Nat) (g:Fr),q.ag[j]?=some (some g)->g.page≠(p:Nat)->l[j]?=some (some g))(hand:Nat)(ak:Int)(op:Option jQ) :
  Calm {ag:=l,hand:=hand,ak:=ak,op:=op} (ul d p) aj c:=by
 refine⟨h.clean.give h3 p h1 hp hf,λ j g hj=>h.at_ j g (hsub j g hj),λ r hr1 hr2 hr3 h4=>?_⟩;have hr3:r∉d.free++[p]:=hr3;have hne:p≠r:=λ e=>hr3 (by rw[e];exact fE _ (bQ.2 rfl));refine(Xq h.clean p r hp hr2 _ (by rw[iD];decide) hne).trans (h.off r hr1 hr2 (λ hm=>hr3 (bR _ hm)) (λ j g hj hg=>h4 j g (hkeep j g hj (by omega)) hg))
theorem Calm.az(h:Calm q d aj c)(h3:d.puts+1<1000000000){i:Nat}{f:Fr}(hi:q.ag[i]?=some (some f)){p:Nat}(hp:f.page=(p:Nat))(hlt:p<aj)(hfr:p∉d.free)(aJ:f.data.length=504)(hand:Nat)(ak:Int)(op:Option jQ):Calm {ag:=q.ag.set i (some {f with bH:=false}),hand:=hand,ak:=ak,op:=op} (xV d p f.data) aj c:=by
 have hl:=(dn.1 hi).1;refine⟨h.clean.write h3 p hlt hfr f.data (by omega),λ j g hj=>?_,λ r h1 h2 hr h4=>?_⟩
 ·replace hj:(q.ag.set i (some {f with bH:=false}))[j]?=some (some g):=hj;rw[gB _ _ _ _ hl]at hj;by_cases e:i=j
  ·rw[if_pos e]at hj;rw[<-bC (bC hj)];exact h.at_ i f hi
  rw[if_neg e]at hj;exact h.at_ j g hj
 rw[Rp h.clean p r hlt h2 f.data aJ];by_cases e:p=r
 ·subst e;rw[if_pos rfl];have:=h.at_ i f hi;rw[hp,Int.toNat_natCast]at this;exact this
 rw[if_neg e];refine h.off r h1 h2 hr (λ j g hj hg=>?_)
 have hji:i≠j:=λ e2=>by
  subst e2;rw[hi]at hj;have e3:=bC (bC hj);subst e3;rw[hp]at hg;exact e (by omega)
 exact h4 j g (by show(q.ag.set i _)[j]?=_;rw[gB _ _ _ _ hl,if_neg hji];exact hj) hg
theorem Calm.read(h:Calm q d aj c)(h3:d.reads+1<1000000000):Calm q (Er d) aj c:=
 ⟨h.clean.same (Qs h.clean.fit h3) rfl rfl rfl (by show iQ d.rl= -1;rw[h.clean.rl];rfl) h.clean.wl,h.at_,h.off⟩
theorem Xr:∀(l:List (Option Fr)),(∀(i:Nat) (f:Fr),l[i]?=some (some f)->0<=f.ak)->u6 l<l.length->∃i,i<l.length/\∀o,l[i]?=some o->Ro o
 | [],_,h=>absurd h (by decide)
 | none::l,_,_=>⟨0,by simp,λ o ho f hf=>by
   rw[<-bC ho]at hf;cases hf⟩
 | some f::l,hpos,h=>by
  by_cases hp:0<f.ak
  ·obtain⟨i,hi,hs⟩:=Xr l (λ j g hj=>hpos (j+1) g hj) (by
    have:u6 (some f::l)=f.ak+u6 l:=rfl;rw[this,dw]at h;omega)
   exact⟨i+1,by rw[dw];omega,λ o ho=>hs o ho⟩
  exact⟨0,by simp,λ o ho g hg=>by
   rw[<-bC ho]at hg;rw[<-bC hg];exact hp⟩
end
end Go.Proofs.YtlipgbnnbefhjaaGreatDoor
