/- Facts on texts and trees on pages. -/
import Derived.Test.YtgpmiliahonaoaaGreatDoorKTreeCc
import Derived.Shelf.Spec.SlicesInsert
set_option maxRecDepth 100000
set_option maxHeartbeats 8000000
set_option linter.unusedSimpArgs false
namespace Go.Proofs.YtgpmiliahonaoaaGreatDoor.DP
structure Rc where
 r:Nat
 c:Nat
 h:Nat
 w:Nat
 deriving DecidableEq
def Rc.ok(q:Rc):Prop:=1<=q.h/\1<=q.w/\q.r+q.h<=3000/\q.c+q.w<=700
def Rc.has(q:Rc)(a b:Nat):Bool:=decide (q.r<=a/\a<q.r+q.h/\q.c<=b/\b<q.c+q.w)
def bX(a b:Nat):Nat:=a*4294967296+b
def qG:Nat:=18446744073709551615
def Rc.nr(q:Rc):Nat:=(q.r+q.h-1)/16-q.r/16+1
def Rc.nc(q:Rc):Nat:=(q.c+q.w-1)/16-q.c/16+1
def Rc.nR(q:Rc):List Nat:=
 if 64<q.nr*q.nc then [qG] else(List.range q.nr).flatMap λ i=>(List.range q.nc).map λ k=>bX (q.r/16+i) (q.c/16+k)
theorem TB{q:Rc}(hn:¬64<q.nr*q.nc){b:Nat}:b∈q.nR↔∃i k,i<q.nr/\k<q.nc/\b=bX (q.r/16+i) (q.c/16+k):=by
 unfold Rc.nR;rw[if_neg hn];simp only[List.mem_flatMap,bQ,jY]
 constructor
 ·rintro⟨i,hi,k,hk,rfl⟩;exact⟨i,k,hi,hk,rfl⟩
 rintro⟨i,k,hi,hk,rfl⟩;exact⟨i,hi,k,hk,rfl⟩
theorem Rc.ok.small{q:Rc}(h:q.ok):q.r/16+q.nr<=188/\q.c/16+q.nc<=44:=by
 obtain⟨h1,h2,h3,h4⟩:=h;unfold Rc.nr Rc.nc;omega
theorem tZ{q:Rc}(h:q.ok){b:Nat}(hb:b∈q.nR):b=qG\/b<188*4294967296:=by
 by_cases hn:64<q.nr*q.nc
 ·unfold Rc.nR at hb;rw[if_pos hn]at hb;exact .inl (by simpa using hb)
 obtain⟨i,k,hi,hk,rfl⟩:=(TB hn).1 hb;have:=h.small
 right;unfold bX;omega
theorem xzl{q:Rc}{a b:Nat}(h:q.has a b=true):qG∈q.nR\/bX (a/16) (b/16)∈q.nR:=by
 unfold Rc.has at h;have h:=of_decide_eq_true h;by_cases hn:64<q.nr*q.nc
 ·left;unfold Rc.nR;rw[if_pos hn];simp
 right
 refine(TB hn).2 ⟨a/16-q.r/16,b/16-q.c/16,?_,?_,?_⟩
 ·unfold Rc.nr;omega
 ·unfold Rc.nc;omega
 rw[show q.r/16+(a/16-q.r/16)=a/16 by omega,show q.c/16+(b/16-q.c/16)=b/16 by omega]
def Up(l:List Nat):Prop:=l.Pairwise (·< ·)
theorem Eo{q:Rc}(h:q.ok):Up q.nR:=by
 unfold Rc.nR Up
 split
 ·simp
 rw[List.pairwise_flatMap];have:=h.small;refine⟨λ i hi=>?_,?_⟩
 ·rw[List.pairwise_map];exact List.pairwise_lt_range.imp λ hab=>by unfold bX;omega
 refine List.pairwise_lt_range.imp_of_mem λ {i j} hi hj hij x hx y hy=>?_;simp only[bQ,jY]at hx hy hi hj;obtain⟨k,hk,rfl⟩:=hx;obtain⟨k',hk',rfl⟩:=hy;unfold bX;omega
def share(b:Nat)(l:List Rc):List Rc:=l.filter λ q=>decide (b∈q.nR)
abbrev dF:=Nat×List Rc
def bf(k:Nat)(l:List Rc):List dF->List dF
 | []=>if l=[] then [] else [(k,l)]
 | x::xs=>if x.1<k then x::bf k l xs else if x.1=k then(if l=[] then xs else(k,l)::xs) else(if l=[] then x::xs else(k,l)::x::xs)
def lg(X:List dF):Prop:=X.Pairwise λ a b=>a.1<b.1
def gF(b:Nat)(X:List dF):List dF:=X.filterMap λ x=>if share b x.2=[] then none else some (x.1,share b x.2)
theorem jZ{k:Nat}{l:List Rc}{X:List dF}{y:dF}(h:y∈bf k l X):y∈X\/(y=(k,l)/\l≠[]):=by
 induction X with
 | nil=>unfold bf at h;split at h<;>simp_all
 | cons x xs ih=>
  unfold bf at h
  split at h
  ·rcases aN.1 h with rfl|h
   ·exact .inl (aT ..)
   rcases ih h with h|h
   ·exact .inl (cu _ h)
   exact .inr h
  split at h
  ·split at h
   ·exact .inl (cu _ h)
   rcases aN.1 h with rfl|h
   ·exact .inr ⟨rfl,by assumption⟩
   exact .inl (cu _ h)
  split at h
  ·exact .inl h
  rcases aN.1 h with rfl|h
  ·exact .inr ⟨rfl,by assumption⟩
  exact .inl h
theorem xzm{k:Nat}{l:List Rc}{X:List dF}(h:lg X):lg (bf k l X):=by
 induction X with
 | nil=>unfold bf;split<;>simp[lg]
 | cons x xs ih=>
  obtain⟨h1,h2⟩:=bR.1 h;unfold bf
  split
  ·refine bR.2 ⟨λ y hy=>?_,ih h2⟩;rcases jZ hy with hy|⟨rfl,_⟩
   ·exact h1 y hy
   assumption
  split
  ·split
   ·exact h2
   refine bR.2 ⟨λ y hy=>?_,h2⟩;have:=h1 y hy;simp only;omega
  split
  ·exact h
  refine bR.2 ⟨λ y hy=>?_,h⟩;rcases aN.1 hy with rfl|hy
  ·simp only;omega
  have:=h1 y hy;simp only;omega
theorem gV{b:Nat}{X:List dF}{y:dF}:y∈gF b X↔∃x∈X,share b x.2≠[]/\y=(x.1,share b x.2):=by
 unfold gF;rw[List.mem_filterMap]
 constructor
 ·rintro⟨x,hx,h⟩
  split at h
  ·cases h
  exact⟨x,hx,by assumption,(aZ h).symm⟩
 rintro⟨x,hx,h,rfl⟩;exact⟨x,hx,by rw[if_neg h]⟩
theorem xS{b:Nat}{X:List dF}(h:lg X):lg (gF b X):=by
 unfold gF lg;rw[List.pairwise_filterMap];refine h.imp λ {x y} hxy a ha a' ha'=>?_
 split at ha
 ·cases ha
 split at ha'
 ·cases ha'
 rw[<-aZ ha,<-aZ ha'];exact hxy
theorem fQ{k:Nat}{X:List dF}(h:∀x∈X,k<x.1):bf k [] X=X:=by
 cases X with
 | nil=>rfl
 | cons x xs=>
  have:=h x (aT ..);unfold bf;rw[if_neg (by omega),if_neg (by omega),if_pos rfl]
theorem iZ{k:Nat}{l:List Rc}{X:List dF}(hl:l≠[])(h:∀x∈X,k<x.1):bf k l X=(k,l)::X:=by
 cases X with
 | nil=>unfold bf;rw[if_neg hl]
 | cons x xs=>
  have:=h x (aT ..);unfold bf;rw[if_neg (by omega),if_neg (by omega),if_neg hl]
theorem uP(b k:Nat)(l:List Rc){X:List dF}(h:lg X):gF b (bf k l X)=bf k (share b l) (gF b X):=by
 have hs:∀(l:List Rc),l=[]->share b l=[]:=λ l h=>by subst h;rfl
 have hin:∀(xs:List dF),(∀y∈xs,k<y.1)->∀y∈gF b xs,k<y.1:=λ xs hx y hy=>by
  obtain⟨x,hx',_,rfl⟩:=gV.1 hy;exact hx x hx'
 induction X with
 | nil=>
  show gF b (bf k l [])=bf k (share b l) [];unfold bf;by_cases hl:l=[]
  ·rw[if_pos hl,if_pos (hs l hl)];rfl
  rw[if_neg hl];by_cases h2:share b l=[]<;>simp[gF,h2]
 | cons x xs ih=>
  obtain⟨h1,h2⟩:=bR.1 h
  have hc:∀(y:dF) (ys:List dF),gF b (y::ys)=if share b y.2=[] then gF b ys else(y.1,share b y.2)::gF b ys:=λ y ys=>by
   unfold gF;rw[List.filterMap_cons];split<;>simp_all
  by_cases hxk:x.1<k
  ·have e1:bf k l (x::xs)=x::bf k l xs:=by rw[bf,if_pos hxk]
   rw[e1,hc,hc,ih h2];by_cases hsx:share b x.2=[]
   ·rw[if_pos hsx,if_pos hsx]
   rw[if_neg hsx,if_neg hsx,bf,if_pos hxk]
  by_cases hxe:x.1=k
  ·have hgt:∀y∈xs,k<y.1:=λ y hy=>hxe▸h1 y hy;have e1:bf k l (x::xs)=if l=[] then xs else(k,l)::xs:=by rw[bf,if_neg hxk,if_pos hxe]
   have e2:bf k (share b l) (gF b (x::xs))=bf k (share b l) (gF b xs):=by
    rw[hc];by_cases hsx:share b x.2=[]
    ·rw[if_pos hsx]
    rw[if_neg hsx,bf,if_neg hxk,if_pos hxe];by_cases hsl:share b l=[]
    ·rw[if_pos hsl,hsl,fQ (hin xs hgt)]
    rw[if_neg hsl,iZ hsl (hin xs hgt)]
   rw[e1,e2];by_cases hl:l=[]
   ·rw[if_pos hl,hs l hl,fQ (hin xs hgt)]
   rw[if_neg hl,hc];by_cases hsl:share b l=[]
   ·rw[if_pos hsl,hsl,fQ (hin xs hgt)]
   rw[if_neg hsl,iZ hsl (hin xs hgt)]
  have hgt:∀y∈x::xs,k<y.1:=λ y hy=>by
   rcases aN.1 hy with rfl|hy
   ·omega
   have:=h1 y hy;omega
  by_cases hl:l=[]
  ·rw[hl,fQ hgt,hs [] rfl,fQ (hin _ hgt)]
  rw[iZ hl hgt,hc];by_cases hsl:share b l=[]
  ·rw[if_pos hsl,hsl,fQ (hin _ hgt)]
  rw[if_neg hsl,iZ hsl (hin _ hgt)]
def gI(a b:Nat)(X:List dF):List dF:=X.filter λ x=>x.2.any λ q=>q.has a b
theorem xzn{a b:Nat}{X:List dF}{k:Nat} :
  (∃x∈gI a b X,x.1=k)↔(∃y∈gF (bX (a/16) (b/16)) X,y.1=k/\(y.2.any λ q=>q.has a b)=true)\/∃y∈gF qG X,y.1=k/\(y.2.any λ q=>q.has a b)=true:=by
 have hsh:∀(c:Nat) (l:List Rc) (q:Rc),q∈l->c∈q.nR->q∈share c l:=λ c l q hq hc=>List.mem_filter.2 ⟨hq,by simpa using hc⟩
 constructor
 ·rintro⟨x,hx,rfl⟩;obtain⟨TC,hany⟩:=List.mem_filter.1 hx;obtain⟨q,hq,hh⟩:=List.any_eq_true.1 hany;rcases xzl hh with hb|hb
  ·have hm:=hsh _ _ q hq hb;exact .inr ⟨(x.1,share qG x.2),gV.2 ⟨x,TC,List.ne_nil_of_mem hm,rfl⟩,rfl,List.any_eq_true.2 ⟨q,hm,hh⟩⟩
  have hm:=hsh _ _ q hq hb;exact .inl ⟨(x.1,share _ x.2),gV.2 ⟨x,TC,List.ne_nil_of_mem hm,rfl⟩,rfl,List.any_eq_true.2 ⟨q,hm,hh⟩⟩
 have key:∀c,(∃y∈gF c X,y.1=k/\(y.2.any λ q=>q.has a b)=true)->∃x∈gI a b X,x.1=k:=by
  rintro c ⟨y,hy,rfl,hany⟩;obtain⟨x,hx,_,rfl⟩:=gV.1 hy;obtain⟨q,hq,hh⟩:=List.any_eq_true.1 hany;exact⟨x,List.mem_filter.2 ⟨hx,List.any_eq_true.2 ⟨q,(List.mem_filter.1 hq).1,hh⟩⟩,rfl⟩
 rintro(h|h)
 ·exact key _ h
 exact key _ h
def bn(u:Nat):List UInt8:=if h:u<128 then [UInt8.ofNat u] else UInt8.ofNat (u%128+128)::bn (u/128)
termination_by u
decreasing_by omega
theorem fT{u:Nat}(h:u<128):bn u=[UInt8.ofNat u]:=by rw[bn,dif_pos h]
theorem ja{u:Nat}(h:¬u<128):bn u=UInt8.ofNat (u%128+128)::bn (u/128):=by rw[bn,dif_neg h]
theorem OM(u:Nat):bn u≠[]:=by
 by_cases h:u<128
 ·rw[fT h];simp
 rw[ja h];simp
theorem TD(n:Nat):∀u,u<128^n->0<n->(bn u).length<=n:=by
 induction n with
 | zero=>intro u _ h;omega
 | succ n ih=>
  intro u hu _;by_cases h:u<128
  ·rw[fT h];simp
  rw[ja h,dn]
  have h2:u/128<128^n:=by
   rw[Nat.div_lt_iff_lt_mul (by omega)];rw[Nat.pow_succ]at hu;exact hu
  have hn:0<n:=by
   rcases Nat.eq_zero_or_pos n with h0|h0
   ·subst h0;simp at hu;omega
   exact h0
  have:=ih _ h2 hn;omega
theorem fU{u:Nat}(h:u<2^64):(bn u).length<=10:=TD 10 u (by omega) (by omega)
theorem jc(u:Nat):0<(bn u).length:=List.length_pos_iff.2 (OM u)
theorem xzo:∀(i u:Nat),i<(bn u).length->(bn u)[i]?=some (UInt8.ofNat (u/128^i%128+if i+1<(bn u).length then 128 else 0)):=by
 intro i
 induction i with
 | zero=>
  intro u hi;by_cases h:u<128
  ·rw[fT h];simp[wV h]
  have:=jc (u/128);rw[ja h];simp only[dn,List.getElem?_cons_zero,Nat.pow_zero,Nat.div_one];rw[if_pos (by omega)]
 | succ i ih=>
  intro u hi;by_cases h:u<128
  ·rw[fT h]at hi;simp at hi
  rw[ja h]at hi ⊢;simp only[dn,nI]at hi ⊢;rw[ih (u/128) (by omega),Nat.div_div_eq_div_mul,show 128*128^i=128^(i+1) by rw[Nat.pow_succ,Nat.mul_comm]];by_cases h2:i+1<(bn (u/128)).length
  ·rw[if_pos h2,if_pos (by omega)]
  rw[if_neg h2,if_neg (by omega)]
theorem rR:∀(n u:Nat),n=(bn u).length->u<128^n/\(1<n->0<u/128^(n-1)):=by
 intro n
 induction n with
 | zero=>intro u h;have:=jc u;omega
 | succ n ih=>
  intro u h;by_cases hu:u<128
  ·rw[fT hu]at h;have:n=0:=by simpa using h
   subst this;exact⟨by simpa using hu,λ h=>by omega⟩
  rw[ja hu,dn]at h;obtain⟨h1,h2⟩:=ih (u/128) (by omega);have hp:=jc (u/128);refine⟨?_,λ _=>?_⟩
  ·rw[Nat.div_lt_iff_lt_mul (by omega)]at h1;rw[Nat.pow_succ];exact h1
  by_cases hn:1<n
  ·have:=h2 hn;rw[Nat.div_div_eq_div_mul,show 128*128^(n-1)=128^n by rw[Nat.mul_comm,<-Nat.pow_succ];congr 1;omega]at this;exact this
  have:n=1:=by omega
  subst this;show 0<u/128^1;rw[Nat.pow_one];omega
theorem I9:∀y:Fin 256,(y.val ||| 128)=y.val%128+128:=by decide +kernel
theorem Er:∀y:Fin 256,(y.val &&& 127)=y.val%128:=by decide +kernel
theorem OP(i:Nat):(128:Nat)^i=2^(7*i):=by rw[Nat.pow_mul]
structure xU(u n i c:Nat):Prop where
 is:c=u/128^i%128+if i+1<n then 128 else 0
 lt:c<256
 nine:i=9->c<=1
 some_:0<i->c≠0
 last:c<128↔i+1=n
 few:i<=9
theorem IA{u:Nat}(hu:u<2^64){i:Nat}(hi:i<(bn u).length):∃c:UInt8,(bn u)[i]?=some c/\xU u (bn u).length i c.toNat:=by
 have h10:=fU hu;obtain⟨e1,e2⟩:=rR _ u rfl;have hm:u/128^i%128<128:=jr _ (by omega);have hcl:(u/128^i%128+if i+1<(bn u).length then 128 else 0)<256:=by split<;>omega
 refine⟨_,xzo i u hi,?_⟩;rw[UInt8.toNat_ofNat_of_lt' (by simpa using hcl)];refine⟨rfl,hcl,λ h9=>?_,λ h0=>?_,?_,by omega⟩
 ·subst h9;have hn:(bn u).length=10:=by omega
  rw[if_neg (by omega)]
  have:u/128^9<=1:=by
   have h1:u/128^9<2:=by
    rw[Nat.div_lt_iff_lt_mul (by omega)];omega
   omega
  have:=Nat.mod_le (u/128^9) 128;omega
 ·by_cases hl:i+1<(bn u).length
  ·rw[if_pos hl];omega
  rw[if_neg hl];have hi2:i=(bn u).length-1:=by omega
  have hp:=e2 (by omega);rw[<-hi2]at hp
  have hlt:u/128^i<128:=by
   rw[Nat.div_lt_iff_lt_mul (Nat.pow_pos (by omega))]
   have:128*128^i=128^(bn u).length:=by
    rw[Nat.mul_comm,<-Nat.pow_succ];congr 1;omega
   omega
  rw[wV hlt];omega
 constructor
 ·intro h;by_cases hl:i+1<(bn u).length
  ·rw[if_pos hl]at h;omega
  omega
 intro h;rw[if_neg (by omega)];omega
theorem xV(u i c:Nat)(hc:c%128=u/128^i%128):u%128^i |||(c%128*2^(7*i))=u%128^(i+1):=by
 have hlt:u%128^i<2^(7*i):=by rw[<-OP];exact jr _ (Nat.pow_pos (by omega))
 rw[Nat.or_comm,Nat.mul_comm,<-Nat.two_pow_add_eq_or_of_lt hlt,hc,<-OP,Nat.pow_succ,Nat.mod_mul];omega
theorem Es{u i c n:Nat}(hu:u<2^64)(h:xU u n i c):c%128*2^(7*i)<2^64:=by
 have hc:c%128=u/128^i%128:=by
  rw[h.is];split<;>omega
 rw[hc,<-OP];have h1:u/128^i%128*128^i<=u/128^i*128^i:=Nat.mul_le_mul_right _ (Nat.mod_le _ _);have h2:u/128^i*128^i<=u:=Nat.div_mul_le_self _ _;omega
theorem gy{u:Nat}(h:u<16384):(bn u).length<=2:=TD 2 u (by omega) (by omega)
def pG(q:Rc):List UInt8:=bn q.r++(bn q.c++(bn q.h++bn q.w))
def jH(l:List Rc):List UInt8:=bn l.length++l.flatMap pG
def wX:Nat->List Nat->List UInt8
 | _,[]=>[]
 | p,u::l=>bn (u-p-1)++wX u l
def pI:List Nat->List UInt8
 | []=>bn 0
 | u::l=>bn (l.length+1)++(bn u++wX u l)
def fC(l:List dF):List UInt8:=if l=[] then [] else pI (l.map (·.1))++l.flatMap λ x=>jH x.2
theorem uQ{q:Rc}(h:q.ok):(pG q).length<=8:=by
 obtain⟨h1,h2,h3,h4⟩:=h;unfold pG;have a:=gy (u:=q.r) (by omega);have b:=gy (u:=q.c) (by omega);have c:=gy (u:=q.h) (by omega);have d:=gy (u:=q.w) (by omega);simp only[zl];omega
theorem xW(l:List Rc):jH l≠[]:=by
 unfold jH;intro h;exact OM _ (List.append_eq_nil_iff.1 h).1
theorem lM{α:Type}{f:α->List UInt8}{n:Nat}{l:List α}(h:∀x∈l,(f x).length<=n):(l.flatMap f).length<=n*l.length:=by
 induction l with
 | nil=>simp
 | cons x l ih=>
  rw[iL,zl,dn,Nat.mul_succ];have:=h x (aT ..);have:=ih (λ y hy=>h y (cu _ hy));omega
theorem uR{l:List Rc}(h:∀q∈l,q.ok)(hl:l.length<16384):(jH l).length<=2+8*l.length:=by
 unfold jH;rw[zl];have:=gy hl;have:=lM (f:=pG) (λ q hq=>uQ (h q hq));omega
theorem xzp:∀(l:List Nat) (p:Nat),(∀x∈l,x<2^64)->(wX p l).length<=10*l.length:=by
 intro l
 induction l with
 | nil=>intro p _;simp[wX]
 | cons u l ih=>
  intro p h;unfold wX;rw[zl,dn,Nat.mul_succ];have:=h u (aT ..);have:=fU (u:=u-p-1) (by omega);have:=ih u (λ y hy=>h y (cu _ hy));omega
theorem uS{l:List Nat}(h:∀x∈l,x<2^64)(hl:l.length<16384):(pI l).length<=2+10*l.length:=by
 cases l with
 | nil=>
  unfold pI;have:=gy (u:=0) (by omega);omega
 | cons u l=>
  unfold pI;rw[dn]at hl;have:=gy hl;have:=fU (h u (aT ..));have:=xzp l u (λ y hy=>h y (cu _ hy));simp only[zl,dn];omega
theorem xX{l:List dF}(h:l≠[]):fC l≠[]:=by
 unfold fC;rw[if_neg h];intro h2;have:=(List.append_eq_nil_iff.1 h2).1
 cases hm:l.map (·.1)with
 | nil=>exact h (List.map_eq_nil_iff.1 hm)
 | cons u t=>
  rw[hm]at this;unfold pI at this;exact OM _ (List.append_eq_nil_iff.1 this).1
structure dU(l:List dF):Prop where
 up:lg l
 key:∀x∈l,x.1<2^64-1
 good:∀x∈l,(∀q∈x.2,q.ok)/\x.2.length<=700
 few:l.length<=16000
theorem Bg{l:List dF}(h:dU l){m:Nat}(hm:∀x∈l,x.2.length<=m):(fC l).length<=2+(12+8*m)*l.length:=by
 unfold fC
 split
 ·exact aY _
 rw[zl]
 have h1:=uS (l:=l.map (·.1)) (λ x hx=>by
  obtain⟨y,hy,rfl⟩:=bQ.1 hx;have:=h.key y hy;omega) (by rw[df];have:=h.few;omega)
 rw[df]at h1
 have h2:=lM (f:=λ x:dF=>jH x.2) (n:=2+8*m) (l:=l) (λ x hx=>by
  have a:=uR (h.good x hx).1 (by have:=(h.good x hx).2;omega);have b:=hm x hx;omega)
 have e:(12+8*m)*l.length=10*l.length+(2+8*m)*l.length:=by
  rw[<-Nat.add_mul];congr 1;omega
 omega
end Go.Proofs.YtgpmiliahonaoaaGreatDoor.DP
namespace Go.Proofs.YtgpmiliahonaoaaGreatDoor
open Go.RowKit
open UK (str aF nth Only Row ay)
namespace UK
theorem TM{P:Program}{t tx ty e:TypeId}{i:TypeInfo}{z:Value}{q:Nat}(ht:P.underlying t=some (.slice e))(hi:P.info? e=some i)(hz:i.zero=some z)(h1:i.size=q)(h16:i.bytes<=64)(hzs:z.cells.size=q)
  {W:World} {ao:Option Addr} {c n k:Nat} {vs:List Value} (hn:vs.length=q*n) (h:(ao=none/\vs=[]/\c=0/\n=0)\/∃g,ao=some ⟨g,0,none⟩/\Row W g (q*c) vs) {x:Value} {m:List Value} (hk:m.length=q*k) (hm0:0<k) (hs:Src P q tx x k m W) (aD:n+k<=1000000000) :
  ∃g' c' W',(Builtin.append_ #[t,tx] ty #[.slice ao n c,x]).run P W= .ok (.slice (some ⟨g',0,none⟩) (n+k) c') W'/\Row W' g' (q*c') (vs++m)/\((ao=some ⟨g',0,none⟩/\Only g' W W')\/(g'=W.heap.size/\Below W W W')):=by
 have Ep:(vs++m).length=q*(n+k):=by rw[zl,hn,hk,Nat.mul_add]
 have hgrow:c<n+k->(Builtin.firstCells i.size n (.slice ao n c)).run P W.drew= .ok vs.toArray W.drew ->
   ∃g' c' W',(Builtin.append_ #[t,tx] ty #[.slice ao n c,x]).run P W= .ok (.slice (some ⟨g',0,none⟩) (n+k) c') W'/\Row W' g' (q*c') (vs++m)/\((ao=some ⟨g',0,none⟩/\Only g' W W')\/(g'=W.heap.size/\Below W W W')):=by
  intro hg hold;have hfit:(n+k)*i.bytes<=140737488355328:=aP (Nat.mul_le_mul aD h16) (by decide);have hrun:=run_append_grow_src (P:=P) W t tx ty e i z ht hi hz ao n c vs hold x k m (by rw[h1];exact hs) hg (by omega) (growslice_fits hg hfit);have hge:=grownCap_ge W (n+k) c e;have e1:=World.cell?_alloc_new W.drew ((vs++m).toArray++Builtin.zeroCells z.cells (grownCap W (n+k) c e-(n+k))) e;obtain⟨d,hd⟩:∃d,grownCap W (n+k) c e=n+k+d:=⟨grownCap W (n+k) c e-(n+k),by omega⟩
  have hsz:((vs++m).toArray++Builtin.zeroCells z.cells (grownCap W (n+k) c e-(n+k))).size=q*grownCap W (n+k) c e:=by
   rw[Array.size_append,List.size_toArray,Ep,size_zeroCells,hzs,hd,show n+k+d-(n+k)=d by omega,Nat.mul_add q (n+k) d,Nat.mul_comm d q]
  refine⟨W.heap.size,_,_,hrun,⟨by simp,?_,λ j hj=>?_,λ j hj=>⟨?_,World.frozen?_alloc_new W.drew _ _ j⟩⟩,.inr ⟨rfl,(aV W W).drew.alloc (aO _) _⟩⟩
  ·rw[Ep];exact Nat.mul_le_mul_left _ hge
  ·refine Eq.trans (e1 j) ?_;rw[Array.getElem?_append_left (by simp only[List.size_toArray];exact hj),List.getElem?_toArray]
  have e2:(W.drew.alloc (.cells ((vs++m).toArray++Builtin.zeroCells z.cells (grownCap W (n+k) c e-(n+k))) e)).cell? (W.heap.size,j)=_:=e1 j;rw[e2,Array.getElem?_eq_getElem (by rw[hsz];exact hj)];rfl
 rcases h with⟨rfl,rfl,rfl,rfl⟩|⟨g,rfl,h⟩
 ·exact hgrow (by omega) (run_firstCells_none W.drew i.size 0 0 0)
 have hle:=h.le;by_cases hf:n+k<=c
 ·have hm1:q*(n+k)<=q*c:=Nat.mul_le_mul_left _ hf;have hm2:n*q=vs.length:=by rw[hn,Nat.mul_comm]
  rw[<-Ep,zl]at hm1
  have hr:=run_append_room_src (P:=P) W t tx ty e i ht hi g 0 n c x k m (by rw[h1];exact hs) hf
   (λ j hj=>by rw[h1];exact(h.there _ (by rw[hm2];omega)).1) (λ j hj=>by rw[h1];exact(h.there _ (by rw[hm2];omega)).2)
  rw[h1,eG,hm2]at hr;refine⟨g,c,_,hr,h.setCells vs.length m (by omega) (vs++m) (by rw[zl];omega) (λ j hj=>?_) (λ j hj hc=>?_),.inl ⟨rfl,Only.setCells _ _ (Only.refl _ _)⟩⟩
  ·rw[bP (by omega),qJ]
  rw[zl]at hj;exact⟨by omega,by rw[bI (by omega)]⟩
 exact hgrow (by omega) (run_firstCells_some W.drew i.size n ⟨g,0,none⟩ n c vs (by rw[h1,hn,Nat.mul_comm]) (λ j v hj=>by
  have hjl:j<vs.length:=(dE.1 hj).1;rw[lQ,eG];exact(h.holds j hjl).trans hj))
end UK
def NX{α:Type}(q:Nat)(enc:α->List Value)(W:World)(ao:Option Addr)(c:Nat)(l:List α):Prop:=(ao=none/\l=[]/\c=0)\/∃g,ao=some ⟨g,0,none⟩/\Row W g (q*c) (l.flatMap enc)
section
variable{α:Type}{q:Nat}{enc:α->List Value}{W W':World}{ao:Option Addr}{c:Nat}{l:List α}
theorem Mh(h:∀x,(enc x).length=q)(l:List α):(l.flatMap enc).length=q*l.length:=by
 induction l with
 | nil=>simp
 | cons x l ih=>rw[iL,zl,h,ih,dn,Nat.mul_succ];omega
theorem TN(h:∀x,(enc x).length=q):∀(l:List α) (j:Nat) (x:α),l[j]?=some x->∀i,i<q->(l.flatMap enc)[j*q+i]?=(enc x)[i]?
 | [],_,_,h=>by cases h
 | u::l,0,x,hx=>λ i hi=>by
  obtain rfl:u=x:=by simpa using hx
  rw[iL,Nat.zero_mul,eG,bI (by rw[h];exact hi)]
 | u::l,j+1,x,hx=>λ i hi=>by
  have ih:=TN h l j x (by simpa using hx) i hi;rw[iL,bP (by rw[h,Nat.succ_mul];omega),h,<-ih]
  congr 1
  rw[Nat.succ_mul];omega
theorem NX.ae(h:NX q enc W ao c l)(hs:W.heap.size<=W'.heap.size)(hb:∀b,aK ao b->W'.heap[b]?=W.heap[b]?):NX q enc W' ao c l:=by
 rcases h with h|⟨g,e,r⟩
 ·exact .inl h
 exact .inr ⟨g,e,r.ae hs (hb g e)⟩
theorem NX.lt(h:NX q enc W ao c l){b:Nat}(hb:aK ao b):b<W.heap.size:=by
 rcases h with⟨h,_⟩|⟨g,e,r⟩
 ·rw[aK,h]at hb;cases hb
 rw[aK,e]at hb;have:=Addr.mk.inj (aZ hb);rw[<-this.1];exact r.lt
theorem NX.le(hq:∀x,(enc x).length=q)(h0:0<q)(h:NX q enc W ao c l):l.length<=c:=by
 rcases h with⟨_,rfl,rfl⟩|⟨g,e,r⟩
 ·exact aO _
 have:=r.le;rw[Mh hq]at this;exact Nat.le_of_mul_le_mul_left this h0
theorem NX.at_(hq:∀x,(enc x).length=q)(h:NX q enc W ao c l){j:Nat}{x:α}(hj:l[j]?=some x):∃g,ao=some ⟨g,0,none⟩/\∀i v,(enc x)[i]?=some v->W.cell? ⟨g,j*q+i,none⟩=some v:=by
 rcases h with⟨_,rfl,_⟩|⟨g,e,r⟩
 ·cases hj
 refine⟨g,e,λ i v hv=>?_⟩;have hi:i<q:=by rw[<-hq x];exact(dE.1 hv).1
 refine r.at' _ _ ?_;rw[TN hq l j x hj i hi];exact hv
theorem NX.push{P:Program}{t e:TypeId}{i:TypeInfo}{z:Value}(ht:P.underlying t=some (.slice e))(hi:P.info? e=some i)(hz:i.zero=some z)(h1:i.size=q)(h16:i.bytes<=64)(hzs:z.cells.size=q)
  (hq:∀x,(enc x).length=q) (hone:∀x,∀v∈enc x,v.oneCell'=true) (h:NX q enc W ao c l) (hl:l.length<=1000000) (x:α) :
  ∃g' c' W',(Builtin.append_ #[t,t] t #[.slice ao l.length c,.slice W 1 1]).run P (W.alloc (.cells (enc x).toArray e))= .ok (.slice (some ⟨g',0,none⟩) (l.length+1) c') W'/\NX q enc W' (some ⟨g',0,none⟩) c' (l++[x])/\(aK ao g'\/W.heap.size<=g')/\Only g' W W':=by
 have hs:(W.alloc (.cells (enc x).toArray e)).heap.size=W.heap.size+1:=by simp
 have hsrc:Src P q t (.slice W 1 1) 1 (enc x) (W.alloc (.cells (enc x).toArray e)):=Src.ofSlice _ ht ⟨W.heap.size,0,none⟩ 1 1 (enc x) (by rw[hq,Nat.one_mul]) (λ j u hj=>by
  rw[UK.lQ,eG];refine(World.cell?_alloc_new W (enc x).toArray e j).trans ?_;rw[List.getElem?_toArray];exact hj) (λ u hu=>hone x u hu)
 have hb:Below W W (W.alloc (.cells (enc x).toArray e)):=(aV _ _).alloc (aO _) _
 obtain⟨g',c',W',e1,r,o⟩:=UK.TM (tx:=t) (ty:=t) ht hi hz h1 h16 hzs (W:=W.alloc (.cells (enc x).toArray e)) (ao:=ao) (c:=c) (n:=l.length) (k:=1) (vs:=l.flatMap enc) (Mh hq l) (by
  rcases h with⟨a,b,c⟩|⟨g,a,r⟩
  ·exact .inl ⟨a,by rw[b];rfl,c,by rw[b];rfl⟩
  exact .inr ⟨g,a,r.alloc _⟩) (m:=enc x) (by rw[hq,vQ]) (Nat.lt_succ_self 0) hsrc (by omega)
 have el:l.flatMap enc++enc x=(l++[x]).flatMap enc:=by simp
 rw[el]at r;refine⟨g',c',W',e1,.inr ⟨g',rfl,r⟩,?_,?_⟩
 ·rcases o with⟨a,_⟩|⟨a,_⟩
  ·exact .inl a
  exact .inr (by rw[a,hs];omega)
 rcases o with⟨_,o⟩|⟨a,b⟩
 ·exact((Only.refl g' W).alloc _).trans o
 exact((Only.refl g' W).alloc _).trans (Only.of_below b)
end
def Gr(r:DP.Rc):List Value:=[.int .i64 r.r,.int .i64 r.c,.int .i64 r.h,.int .i64 r.w]
theorem TP(r:DP.Rc):(Gr r).length=4:=rfl
theorem xsy(r:DP.Rc):∀v∈Gr r,v.oneCell'=true:=by
 intro v hv;simp only[Gr,aN,List.not_mem_nil,or_false]at hv;rcases hv with rfl|rfl|rfl|rfl<;>rfl
abbrev RX(W:World)(ao:Option Addr)(c:Nat)(l:List DP.Rc):Prop:=NX 4 Gr W ao c l
theorem RX.four{W:World}{ao:Option Addr}{c:Nat}{l:List DP.Rc}(h:RX W ao c l){j:Nat}{x:DP.Rc}(hj:l[j]?=some x):∃g,ao=some ⟨g,0,none⟩/\W.cell? ⟨g,j*4,none⟩=some (.int .i64 x.r)/\W.cell? ⟨g,j*4+1,none⟩=some (.int .i64 x.c)/\W.cell? ⟨g,j*4+2,none⟩=some (.int .i64 x.h)/\W.cell? ⟨g,j*4+3,none⟩=some (.int .i64 x.w):=by
 obtain⟨g,e,hc⟩:=h.at_ TP hj;exact⟨g,e,hc 0 _ rfl,hc 1 _ rfl,hc 2 _ rfl,hc 3 _ rfl⟩
theorem RX.push{W:World}{ao:Option Addr}{c:Nat}{l:List DP.Rc}(h:RX W ao c l)(hl:l.length<=1000000)(x:DP.Rc) :
  ∃g' c' W',(Builtin.append_ #[33,33] 33 #[.slice ao l.length c,.slice W 1 1]).run Tryz.prog (W.alloc (.cells #[.int .i64 x.r,.int .i64 x.c,.int .i64 x.h,.int .i64 x.w] 23))= .ok (.slice (some ⟨g',0,none⟩) (l.length+1) c') W'/\RX W' (some ⟨g',0,none⟩) c' (l++[x])/\(aK ao g'\/W.heap.size<=g')/\Only g' W W':=
 NX.push (enc:=Gr) Tryz.underlying33 (i:=Tryz.t23) rfl rfl rfl (show(32:Nat)<=64 by omega) rfl TP xsy h hl x
open Go.RowKit
open UK (str aF nth Only Row ay w32)
open Go.BigFrame
def Sj(y:List UInt8)(n:Nat):Prop:=nth y 0=1/\(nth y 1).toNat=n/\n<=30
def xH(N M:Nat)(W:World)(nb:Nat)(x:Nd)(ka va aa:Option Addr)(kc vc ac:Nat):Prop:=aU N W nb x ka va aa kc vc ac/\nb<M/\∀g,aK ka g\/aK va g\/aK aa g->g<M
section
variable{E:Nat->Prop}{W W':World}{P D T k pg n:Nat}{root:Int}{A:AP}
theorem Rs(y:List UInt8)(i:Nat)(h:i<504):nth (y.take 504) i=nth y i:=by
 unfold nth;rw[fE,fE,eX h]
theorem Rt(y:List UInt8)(o:Nat)(h:o+8<=504):qz (y.take 504) o=qz y o:=by
 unfold qz;rw[List.drop_take,kL,List.drop_take,kL,gH (by omega),gH (by omega)]
theorem Xx(y:List UInt8)(n:Nat)(hn:n<=30):oM (y.take 504) n=oM y n:=by
 unfold oM;refine List.map_congr_left (λ i hi=>?_);have:=jY.1 hi;exact Rt y _ (by omega)
theorem Xy(y:List UInt8)(n:Nat)(hn:n<=30):q9 (y.take 504) n=q9 y n:=by
 unfold q9;refine List.map_congr_left (λ i hi=>?_);have:=jY.1 hi;exact Rt y _ (by omega)
def yb7(E:Nat->Prop)(W w':World)(P D:Nat)(A:AP)(k pg n:Nat)(e:Ending):Prop:=
 ∃N M nb ka va kc vc,e= .returned (.tuple #[.pointer (some ⟨nb,0,none⟩),.int .i64 0])/\W.heap.size<=N/\M<=w'.heap.size/\xH N M w' nb {leaf:=true,ag:=oM (A.c pg) n,vals:=q9 (A.c pg) n,ax:=[]} ka va none kc vc 0/\PZ (λ j=>E j\/(N<=j/\j<M)) w' P D A k/\Kept E W w'
theorem XK(h:PZ E W P D A k)(hk:k+2<900000000)(hb:ay W T #[.pointer P,.int .i64 root])(hp:A.Has pg)(hy:Sj (A.c pg) n) :
  Calls Tryz.prog 156 #[.pointer T,.int .i64 pg] W λ e w'=>yb7 E W w' P D A (k+2) pg n e:=by
 have c0:=hb.c0;have HP:=zH (Jt h hk pg hp);clear h hb
 go_enter_defers Tryz.func156,Tryz.ntmps156
 go_wp2_with fail
 refine HP.out.mono ?_;rintro e w1 ⟨fb,db,cap,rfl,p1,k1⟩;have HB:=zH (yK p1);obtain⟨y,y1,y2,y3,y4,y5⟩:=p1.bytes;obtain⟨h0,h1,h2⟩:=hy;rw[<-y3]at h0 h1;rw[Rs _ _ (by omega)]at h0 h1;have hD:=X4 y1 y2 y4 h0 h1 h2;have Sk:=Xx y n h2;have Sl:=Xy y n h2;rw[y3]at Sk Sl;rw[<-Sk,<-Sl]at hD;have HD:=zH hD;have H1:=zH (zA p1 k1);clear HP p1 k1 y1 y2 y3 y4 y5 h0 h1 Sk Sl hD c0
 go_wp2_with fail
 refine HB.out.mono ?_;rintro e w2 ⟨rfl,rfl⟩
 go_wp2_with fail
 refine HD.out.mono ?_;rintro e w3 ⟨nb,ka,va,kc,vc,rfl,hn,hbl⟩;obtain⟨p1,k1⟩:=H1.out
 have hlt:∀g,aK ka g\/aK va g\/aK none g->g<w3.heap.size:=λ g hg=>by
  rcases hg with h|h|h
  ·exact hn.k.lt h
  ·exact hn.v.lt h
  cases h
 have hnb:=hn.box.lt;have p3:=p1.wide hbl (T:=λ j=>E j\/(w2.heap.size<=j/\j<w3.heap.size)) (λ j hj=>hj);have k3:=k1.trans (p1.kept hbl);have hs2:=k1.size;have HU:=zH (BF .returning p3);have HN:=zH (zA hn (zA hlt (zA hnb (zA k3 hs2))));clear HB HD H1 p1 k1 hn hbl hlt hnb p3 k3 hs2;go_wp2;refine leaves_cons (f:=65) (args:= #[.pointer fb]) (by simp) (by simp[go_sem]) ?_;refine HU.out.mono ?_;rintro e u' w4 ⟨rfl,rfl,p4,k4⟩;obtain⟨hn,hlt,hnb,k3,hs2⟩:=HN.out;refine⟨_,results_tmp2 rfl _ _ _,?_⟩;refine⟨w2.heap.size,w3.heap.size,nb,ka,va,kc,vc,rfl,hs2,k4.size,⟨hn.ae k4.size (λ g h1 h2=>k4.block g (.inr ⟨h1,h2⟩)),hnb,hlt⟩,p4,k3.trans (k4.mono (λ j hj=>.inl hj))⟩
theorem fV.kept{v:Value}{vs:List Value}(h:fV E W v vs)(hk:Kept E W W'):fV E W' v vs:=by
 obtain⟨ao,c,a,b,d⟩:=h;refine⟨ao,c,a,b,λ j u hj=>?_⟩;obtain⟨g,o,e1,e2,e3⟩:=d j u hj;exact⟨g,o,e1,e2,(gq (a:=⟨g,o+j,none⟩) (hk.block g e2)).trans e3⟩
theorem jD.kept{nb:Nat}{x:Nd}(h:jD E W nb x)(hk:Kept E W W'):jD E W' nb x:=by
 obtain⟨kv,vv,av,b,hb,h1,h2,h3⟩:=h;exact⟨kv,vv,av,b.ae (hk.block nb hb),hb,h1.kept hk,h2.kept hk,h3.kept hk⟩
theorem I1(x:List UInt8)(a n:Nat)(s:List UInt8)(h:a+s.length<=n)(hn:n<=x.length):(UK.wr x a s).take n=UK.wr (x.take n) a s:=by
 unfold UK.wr;rw[List.take_append,zt,gH (by omega),fO (by rw[zt];omega),List.take_append,fO (l:=s) (by omega),kL,gH (by omega),List.drop_take,show n-a-s.length=n-(a+s.length) by omega]
theorem Rq(y:List UInt8)(ks vs:List UInt64)(hk:ks.length<=30)(hv:vs.length=ks.length)(hy:504<=y.length):(pM y ks vs).take 504=pM (y.take 504) ks vs:=by
 unfold pM;rw[I1 _ _ _ _ (by rw[Ig _ _ hv];omega) (by rw[aQ,aQ];exact hy),List.take_set,List.take_set]
theorem Rp(y:List UInt8)(ks vs:List UInt64)(hk:ks.length<=30)(hv:vs.length=ks.length)(hy:504<=y.length):(pM y ks vs).length=y.length:=by
 unfold pM;rw[UK.iW _ _ _ (by rw[Ig _ _ hv,aQ,aQ];omega),aQ,aQ]
theorem xrw{nb:Nat}{x:Nd}(h:PZ E W P D A k)(hk:k+3<900000000)(hb:ay W T #[.pointer P,.int .i64 root])(hp:A.Has pg)(hn:jD E W nb x)(hl:x.leaf=true)(hx:x.ag.length<=30)(hv:x.vals.length=x.ag.length) :
  Calls Tryz.prog 150 #[.pointer T,.int .i64 pg,.pointer nb] W λ e w'=>e= .returned (.int .i64 0)/\PZ E w' P D (A.ak pg (pM (A.c pg) x.ag x.vals)) (k+3)/\Kept E W w':=by
 have c0:=hb.c0;have HP:=zH (Jt h (by omega) pg hp);clear h hb
 go_enter_defers Tryz.func150,Tryz.ntmps150
 go_wp2_with fail
 refine HP.out.mono ?_;rintro e w1 ⟨fb,db,cap,rfl,p1,k1⟩;have HE:=zH (yI p1 (by omega));have rM:=zH (zA (hn.kept k1) k1);clear HP p1 k1 c0 hn
 go_wp2_with fail
 refine HE.out.mono ?_;rintro e w2 ⟨rfl,p2,k2⟩;obtain⟨bi,k1⟩:=rM.out;have hn2:=bi.kept k2;obtain⟨y,y1,y2,y3,y4,y5⟩:=p2.bytes;have HX:=zH (Rx hn2 hl hx hv y1 y2 y4 y5);have hy3:y.take 504=A.c pg:=y3;have htk:=Rq y x.ag x.vals hx hv (by omega);rw[hy3]at htk;have hle:=Rp y x.ag x.vals hx hv (by omega);have H2:=zH (zA p2 (zA (k1.trans k2) (zA htk (hle.trans y2))));clear HE rM bi hn2 k1 k2 p2 y1 y2 y3 y4 y5 hy3 htk hle
 go_wp2_with fail
 refine HX.out.mono ?_;rintro e w3 ⟨rfl,b3,o3⟩;obtain⟨p2,k2,htk,hle⟩:=H2.out;obtain⟨p3,k3⟩:=p2.write o3 b3 hle;rw[htk]at p3;have HU:=zH (BF .returning p3);have K3:=zH (k2.trans k3);clear HX H2 p2 k2 htk hle p3 k3 b3 o3;go_wp2;refine leaves_cons (f:=65) (args:= #[.pointer fb]) (by simp) (by simp[go_sem]) ?_;refine HU.out.mono ?_;rintro e u' w4 ⟨rfl,rfl,p4,k4⟩;refine⟨_,results_tmp rfl _ _ _,rfl,p4,K3.out.trans k4⟩
theorem UY(h:PZ E W P D A k)(hk:k+3<900000000)(hf:¬A.Full) :
  Calls Tryz.prog 77 #[.pointer P] W λ e w'=>∃T N M,e= .returned (.tuple #[.pointer (some ⟨T,0,none⟩),.int .i64 0])/\ay w' T #[.pointer P,.int .i64 A.next]/\W.heap.size<=N/\N<=T/\T<M/\PZ (λ j=>E j\/(N<=j/\j<M)) w' P D (A.take.ak A.next (pM (UK.bF 504) [] [])) (k+3)/\Kept E W w':=by
 have HP:=zH (GA h (by omega) hf);clear h
 go_enter_defers Tryz.func77,Tryz.ntmps77
 go_wp2_with fail
 refine HP.out.mono ?_;rintro e w1 ⟨fb,db,cap,rfl,p1,k1⟩;have HG:=zH (GD p1);have H1:=zH (zA p1 k1);clear HP p1 k1
 go_wp2_with fail
 refine HG.out.mono ?_;rintro e w2 ⟨rfl,rfl⟩;obtain⟨p1,k1⟩:=H1.out;have ba:Below w2 w2 (w2.alloc (.cells #[.pointer P,.int .i64 A.next] 208)):=(aV _ _).alloc (aO _) _;have sz:(w2.alloc (.cells #[.pointer P,.int .i64 A.next] 208)).heap.size=w2.heap.size+1:=by simp
 have p3:=p1.wide ba (T:=λ j=>E j\/(w2.heap.size<=j/\j<w2.heap.size+1)) (λ j hj=>by rw[sz];exact hj);have k3:=k1.trans (p1.kept ba);have bx:=ay.new w2 #[.pointer P,.int .i64 A.next] 208;have HE:=zH (yI p3 (by omega));have hs1:=k1.size;have H3:=zH (zA k3 (zA bx hs1));clear HG H1 p1 k1 ba p3 k3 bx sz hs1
 go_wp2_with fail
 refine HE.out.mono ?_;rintro e w4 ⟨rfl,p4,k4⟩;obtain⟨k3,bx,hs1⟩:=H3.out;have b5:Below w4 w4 (w4.alloc (.cells #[.bool true,.slice none 0 0,.slice none 0 0,.slice none 0 0] 212)):=(aV _ _).alloc (aO _) _;have p5:=p4.next b5;obtain⟨y,y1,y2,y3,y4,y5⟩:=p5.bytes
 have Pk:db<w4.heap.size:=by
  obtain⟨y',q1,_⟩:=p4.bytes;exact q1.lt
 have hnr:jD (λ j=>j=w4.heap.size) (w4.alloc (.cells #[.bool true,.slice none 0 0,.slice none 0 0,.slice none 0 0] 212)) w4 {leaf:=true,ag:=[],vals:=[],ax:=[]}:=
  ⟨.slice none 0 0,.slice none 0 0,.slice none 0 0,ay.new w4 _ _,rfl,⟨none,0,rfl,aO _,λ j u hj=>by cases hj⟩,⟨none,0,rfl,aO _,λ j u hj=>by cases hj⟩,⟨none,0,rfl,aO _,λ j u hj=>by cases hj⟩⟩
 have HX:=zH (Rx hnr rfl (by decide) rfl y1 y2 y4 (by show ¬db=w4.heap.size;omega));have hy3:y.take 504=UK.bF 504:=y3.trans (by show bS A.c A.next (UK.bF 504) A.next=_;unfold bS;rw[if_pos rfl]);have htk:=Rq y [] [] (by decide) rfl (by omega);rw[hy3]at htk;have hle:=Rp y [] [] (by decide) rfl (by omega);have yh:=bx.ae (k4.block _ (.inr ⟨aO _,Nat.lt_succ_self _⟩));have H5:=zH (zA p5 (zA ((k3.trans (k4.mono (λ j hj=>.inl hj))).trans ((p4.kept b5).mono (λ j hj=>.inl hj))) (zA htk (zA (hle.trans y2) (zA (yh.next b5) hs1)))));clear HE H3 k3 bx p4 k4 b5 p5 y1 y2 y3 y4 y5 hnr hy3 htk hle yh hs1 Pk
 go_wp2_with fail
 refine HX.out.mono ?_;rintro e w6 ⟨rfl,b6,o6⟩;obtain⟨p5,k5,htk,hle,Yw,hs1⟩:=H5.out;obtain⟨p6,k6⟩:=p5.write o6 b6 hle;rw[htk]at p6;have HU:=zH (BF .returning p6);have H6:=zH (zA (k5.trans (k6.mono (λ j hj=>.inl hj))) (zA (Yw.ae (k6.block _ (.inr ⟨aO _,Nat.lt_succ_self _⟩))) hs1));clear HX H5 p5 k5 htk hle Yw p6 k6 b6 o6 hs1;go_wp2;refine leaves_cons (f:=65) (args:= #[.pointer fb]) (by simp) (by simp[go_sem]) ?_;refine HU.out.mono ?_;rintro e u' w7 ⟨rfl,rfl,p7,k7⟩;obtain⟨k6,bx6,hs1⟩:=H6.out;refine⟨_,results_tmp2 rfl _ _ _,?_⟩;exact⟨w2.heap.size,w2.heap.size,w2.heap.size+1,rfl,bx6.ae (k7.block _ (.inr ⟨aO _,Nat.lt_succ_self _⟩)),hs1,aO _,Nat.lt_succ_self _,p7,k6.trans (k7.mono (λ j hj=>.inl hj))⟩
end
def jK(l:List UInt64):Prop:=∀(a b:Nat) (x y:UInt64),a<b->l[a]?=some x->l[b]?=some y->x.toNat<y.toNat
structure eB(l:List UInt64)(k:UInt64)(i:Nat):Prop where
 le:i<=l.length
 below:∀(j:Nat) (x:UInt64),j<i->l[j]?=some x->x.toNat<k.toNat
 above:∀(j:Nat) (x:UInt64),i<=j->l[j]?=some x->k.toNat<=x.toNat
theorem Yx(a b:UInt64)(w:World) :
  Calls Tryz.prog 190 #[.int .u64 a.toNat,.int .u64 b.toNat] w λ e w'=>e= .returned (.bool (decide (a.toNat<b.toNat)))/\w'=w:=by
 go_enter Tryz.func190,Tryz.ntmps190
 go_wp2;go_ret
 exact⟨rfl,rfl⟩
theorem ya1(a:UInt64)(w:World) :
  Calls Tryz.prog 208 #[.int .u64 a.toNat] w λ e w'=>e= .returned (.bool false)/\w'=w:=by
 go_enter Tryz.func208,Tryz.ntmps208
 go_wp2;go_ret
 exact⟨rfl,rfl⟩
theorem eB.mem{l:List UInt64}{k x:UInt64}{i:Nat}(h:eB l k i)(hs:jK l)(hx:l[i]?=some x):(k∈l)↔x.toNat=k.toNat:=by
 constructor
 ·intro hm;obtain⟨j,hj,e⟩:=gB hm;have hj':l[j]?=some k:=by rw[bL hj,e]
  have h1:=h.above i x (aO _) hx;by_cases hlt:j<i
  ·have:=h.below j k hlt hj';omega
  by_cases e2:i=j
  ·subst e2;rw[hx]at hj';rw[aZ hj']
  have:=hs i j x k (by omega) hx hj';omega
 intro e;rw[<-mJ.1 e];exact eZ hx
theorem eB.none{l:List UInt64}{k:UInt64}(h:eB l k l.length):k∉l:=λ hm=>by
 obtain⟨j,hj,e⟩:=gB hm;have:=h.below j k hj (by rw[bL hj,e]);omega
theorem Hq{W:World}{S:Nat->Prop}{v:Value}{l:List UInt64}(h:fV S W v (az l))(hs:jK l)(hl:l.length<=1000)(k:UInt64) :
  Calls Tryz.prog 157 #[v,.int .u64 k.toNat] W λ e w'=>∃i:Nat,e= .returned (.tuple #[.int .i64 i,.bool (decide (k∈l))])/\eB l k i/\w'=W:=by
 obtain⟨ao,c,rfl,hc,hr⟩:=h;rw[dA]at hc ⊢;have HS:=zH hs;clear hs
 go_enter Tryz.func157,Tryz.ntmps157
 go_wp2_with fail
 go_loopw [7,8] (λ iv jv wr=>∃i j:Nat,iv= .int .i64 i/\jv= .int .i64 j/\i<=j/\j<=l.length/\Hid (∀(a:Nat) (x:UInt64),a<i->l[a]?=some x->x.toNat<k.toNat)/\Hid (∀(a:Nat) (x:UInt64),j<=a->l[a]?=some x->k.toNat<=x.toNat)/\wr=W) (λ iv jv _=>(intOf jv).toNat-(intOf iv).toNat)
 case atStart=>exact⟨0,l.length,rfl,rfl,aY _,aO _,(λ a x h=>absurd h (jO _)),(λ a x h hx=>by rw[jo h]at hx;cases hx),rfl⟩
 obtain⟨i,j,rfl,rfl,hij,hj,hb,ha,rfl⟩:=hrel;by_cases hlt:i<j
 ·obtain⟨x,hx⟩:∃x,l[(i+j)/2]?=some x:=⟨_,bL (by omega)⟩;obtain⟨g,o,rfl,_,cx⟩:=hr _ _ (tH _ _ _ hx);have h1:((i:Int)+(j:Int))/2=(((i+j)/2:Nat):Int):=by omega
  have Dl:(i+j)/2<l.length:=by omega
  have hm1:i<=(i+j)/2:=by omega
  have hm2:(i+j)/2<j:=by omega
  generalize hm:(i+j)/2=m at hx cx h1 Dl hm1 hm2;clear hr;by_cases hlx:x.toNat<k.toNat
  ·have HX:=zH (λ (a:Nat) (z:UInt64) (haz:a<m+1) (hz:l[a]?=some z)=>(show z.toNat<k.toNat by
    by_cases e:a=m
    ·subst e;rw[hx]at hz;rw[<-aZ hz];exact hlx
    have:=HS.out a m z x (by omega) hz hx;omega))
   have HL:=Yx x k wr;rw[decide_eq_true hlx]at HL;have HL2:=zH HL;clear hx hm HL hlx hb
   go_wp2_with fail
   refine HL2.out.mono ?_;rintro e w' ⟨rfl,rfl⟩;clear HL2;go_wp2;go_roundw
   case rel=>exact⟨m+1,j,by go_num,rfl,by omega,hj,HX.out,ha,trivial⟩
   case measure=>simp[intOf];omega
  have HX:=zH (λ (a:Nat) (z:UInt64) (haz:m<=a) (hz:l[a]?=some z)=>(show k.toNat<=z.toNat by
   by_cases e:a=m
   ·subst e;rw[hx]at hz;rw[<-aZ hz];omega
   have:=HS.out m a x z (by omega) hx hz;omega))
  have HL:=Yx x k wr;rw[decide_eq_false hlx]at HL;have HL2:=zH HL;clear hx hm HL hlx ha
  go_wp2_with fail
  refine HL2.out.mono ?_;rintro e w' ⟨rfl,rfl⟩;clear HL2;go_wp2;go_roundw
  case rel=>exact⟨i,m,rfl,rfl,by omega,by omega,hb,HX.out,trivial⟩
  case measure=>simp[intOf];omega
 obtain rfl:i=j:=by omega
 have hst:eB l k i:=⟨hj,hb.out,ha.out⟩;have HST:=zH hst;by_cases hil:i<l.length
 ·obtain⟨x,hx⟩:∃x,l[i]?=some x:=⟨_,bL hil⟩;obtain⟨g,o,rfl,_,cx⟩:=hr _ _ (tH _ _ _ hx);have hmem:=hst.mem HS.out hx;have hd:decide ((i:Int)<(l.length:Int))=true:=decide_eq_true (by omega);have BA:(i:Int)<(l.length:Int):=by omega
  have hii:decide ((i:Int)<(i:Int))=false:=decide_eq_false (by omega);have hn:=λ w=>ya1 x w;clear hr hx hst hb ha hij;by_cases he:x.toNat=k.toNat
  ·have hk:decide (k∈l)=true:=decide_eq_true (hmem.2 he);have HK:=zH hk;have hbq:((x.toNat:Int)==(k.toNat:Int))=true:=by rw[he];exact beq_self_eq_true _
   clear hmem hk he
   go_wp2_with fail
   go_ret2;exact⟨i,by rw[HK.out]<;>rfl,HST.out,rfl⟩
  have hk:decide (k∈l)=false:=decide_eq_false (λ h=>he (hmem.1 h));have HK:=zH hk;have hbq:((x.toNat:Int)==(k.toNat:Int))=false:=beq_eq_false_iff_ne.2 (by omega);clear hmem hk he
  go_wp2_with fail
  refine(hn _).mono ?_;rintro e w' ⟨rfl,rfl⟩;go_wp2;go_ret2;exact⟨i,by rw[HK.out]<;>rfl,HST.out,rfl⟩
 obtain rfl:i=l.length:=by omega
 have hd:decide ((l.length:Int)<(l.length:Int))=false:=decide_eq_false (by omega);have HK:=zH (decide_eq_false hst.none);clear hst hb ha hr hij
 go_wp2_with fail
 go_ret2;exact⟨l.length,by rw[HK.out]<;>rfl,HST.out,rfl⟩
namespace UK
theorem X7{P:Program}{t tn ty e:TypeId}{i:TypeInfo}{z:Value}{k kn:IntKind}(ht:P.underlying t=some (.slice e))(htn:P.underlying tn=some (.int kn))(hi:P.info? e=some i)(hz:i.zero=some z)(hs1:i.size=1)(h16:i.bytes<=16)(hzc:z.cells= #[z])
  {W:World} {g c:Nat} {vs:List Value} (h:Row W g c vs) (n:Nat) (h0:0<n) (hg:c<vs.length+n) (aD:vs.length+n<=1000000000) :
  ∃c' W',(Builtin.append_ #[t,tn] ty #[.slice g vs.length c,.int k n]).run P W= .ok (.slice W (vs.length+n) c') W'/\Row W' W c' (vs++List.replicate n z)/\Below W W W':=by
 have hn:n≠0:=by omega
 have hw:IntKind.i64.wrap (n:Int)=n:=by rw[dJ];omega
 have h63':¬(9223372036854775807<((vs.length:Int)+(n:Int))):=by omega
 have Py:n*i.bytes<=n*16:=Nat.mul_le_mul_left n h16
 have h48i:¬(281474976710656<(n:Int)*(i.bytes:Int)):=by
  rw[<-Int.natCast_mul];omega
 have hneg:¬((n:Int)<0):=by omega
 have hf:¬(vs.length+n<=c):=by omega
 have h48':¬(281474976710656<Builtin.nextslicecap (vs.length+n) c*i.bytes):=by
  have hfit:(vs.length+n)*i.bytes<=140737488355328:=aP (Nat.mul_le_mul aD h16) (by decide);have:=growslice_fits (show c<vs.length+n by omega) hfit;omega
 have hold:(Builtin.firstCells 1 vs.length (.slice g vs.length c)).run P W.drew= .ok vs.toArray W.drew:=
  run_firstCells_some W.drew 1 vs.length ⟨g,0,none⟩ vs.length c vs (by rw[vQ]) (λ j v hj=>by
   have hjl:j<vs.length:=(dE.1 hj).1;rw[lQ,eG];exact(h.holds j hjl).trans hj)
 have hge:=grownCap_ge W (vs.length+n) c e
 have hrep:∀m,Builtin.zeroCells #[z] m=(List.replicate m z).toArray:=λ m=>by
  apply Array.ext';apply List.ext_getElem?;intro j;by_cases hj:j<m
  ·simp[Builtin.zeroCells,hj,Nat.mod_one]
  simp[Builtin.zeroCells,hj]
 have qm:vs.toArray++((List.replicate n z).toArray++(List.replicate (grownCap W (vs.length+n) c e-(vs.length+n)) z).toArray)=(vs++List.replicate (grownCap W (vs.length+n) c e-vs.length) z).toArray:=by
  apply Array.ext';rw[Array.toList_append,Array.toList_append];simp only[List.replicate_append_replicate];rw[show n+(grownCap W (vs.length+n) c e-(vs.length+n))=grownCap W (vs.length+n) c e-vs.length by omega]
 have hb:=ay.new W.drew (vs++List.replicate (grownCap W (vs.length+n) c e-vs.length) z).toArray e;refine⟨grownCap W (vs.length+n) c e,W.drew.alloc (.cells (vs++List.replicate (grownCap W (vs.length+n) c e-vs.length) z).toArray e),?_,?_,(aV W W).drew.alloc (aO _) _⟩
 ·rw[<-qm,<-hrep,<-hrep];unfold grownCap at *;simp[Builtin.append_,run_underlying ht,run_underlying htn,sizeOf,typeInfo,zeroValue,hi,hz,hzc,hs1,asInt,asIntOf,hw,hn,hneg,h48i,hf,h63',h48',Question.forced,hold,newRow]
 have hr:=hb.row
 have hsz:(vs++List.replicate (grownCap W (vs.length+n) c e-vs.length) z).toArray.size=grownCap W (vs.length+n) c e:=by
  rw[List.size_toArray,zl,gY];omega
 rw[hsz]at hr;have:=hr.take (vs.length+n)
 have e1:(vs++List.replicate (grownCap W (vs.length+n) c e-vs.length) z).toArray.toList.take (vs.length+n)=vs++List.replicate n z:=by
  show(vs++List.replicate (grownCap W (vs.length+n) c e-vs.length) z).take (vs.length+n)=_;rw[List.take_append,fO (by omega),show vs.length+n-vs.length=n by omega,List.take_replicate,gH (by omega)]
 rw[e1]at this;exact this
end UK
def FI(W w':World)(ao:Option Addr)(l:List UInt64)(e:Ending):Prop:=
 ∃g' c',e= .returned (.slice (some ⟨g',0,none⟩) l.length c')/\Row w' g' c' (az l)/\UK.Only g' W w'/\(aK ao g'\/W.heap.size<=g')
theorem Row.shape{W:World}{g c:Nat}{vs:List Value}(h:Row W g c vs)(hc:0<c):∃t k,W.shape? g=some (t,k)/\k≠0:=by
 have h0:=(h.there 0 hc).1;unfold World.cell? at h0;unfold World.shape?
 cases hg:W.heap[g]? with
 | none=>simp only[hg]at h0;cases h0
 | some o=>
  simp only[hg]at h0
  cases o with
  | cells cs t fr=>
   refine⟨t,cs.size,rfl,λ e=>?_⟩;simp only at h0;rw[Array.getElem?_eq_none (by omega)]at h0;simp at h0
  | _=>simp at h0
theorem xrx{W:World}{ao:Option Addr}{c vb:Nat}{l:List UInt64}(h:NR W ao c (az l))(hl:l.length<=1000)(v:UInt64)(hv:ay W vb #[.int .u64 (v.toNat:Int)]) :
  Calls Tryz.prog 235 #[.slice ao l.length c,.int .i64 l.length,.slice vb 1 1] W λ e w'=>FI W w' ao (l++[v]) e:=by
 have aD:=dA l
 obtain⟨g',c',W',e,r,o⟩:=UK.GQ (P:=Tryz.prog) (t:=88) (tx:=88) (ty:=88) Tryz.underlying88 (i:=Tryz.t77) rfl rfl rfl (show(8:Nat)<=16 by omega) rfl h (x:=.slice vb 1 1) (m:=[.int .u64 (v.toNat:Int)]) (by simp) (Src.ofSlice W Tryz.underlying88 ⟨vb,0,none⟩ 1 1 _ rfl (λ j u hj=>by
   have hj0:j=0:=by
    by_cases hc:j<1
    ·omega
    rw[jo (by simp;omega)]at hj;cases hj
   subst hj0;rw[UK.lQ,eG,hv.cell 0 _ rfl]
   exact hj) (λ u hu=>by
    obtain rfl:=bz.1 hu;rfl)) (by rw[aD];simp;omega)
 rw[zl,aD]at e;have el:(az l++[.int .u64 (v.toNat:Int)])=az (l++[v]):=by unfold az;rw[dO];rfl
 rw[el]at r;have HF:Hid (∃g' c',(Value.slice (some ⟨g',0,none⟩) (l.length+1) c'=Value.slice (some ⟨g',0,none⟩) (l.length+1) c')/\True):=⟨0,0,rfl,trivial⟩;have HR:=zH (zA r o);replace e:(Builtin.append_ #[88,88] 88 #[.slice ao l.length c,.slice vb 1 1]).run Tryz.prog W= .ok (.slice (some ⟨g',0,none⟩) (l.length+1) c') W':=e;clear r o hv el HF
 have fin:FI W W' ao (l++[v]) (.returned (.slice g' (l.length+1) c')):=by
  refine⟨g',c',by rw[zl];rfl,HR.out.1,?_⟩;rcases HR.out.2 with⟨a,b⟩|⟨a,b⟩
  ·exact⟨b,.inl a⟩
  exact⟨Only.of_below b,.inr (by omega)⟩
 have HF:=zH fin;clear fin HR;rcases h with⟨rfl,hn,rfl⟩|⟨g,rfl,r⟩
 ·have hl0:l=[]:=by
   have:=congrArg List.length hn;rw[aD]at this;exact List.length_eq_zero_iff.1 this
  subst hl0;clear hn aD
  go_enter Tryz.func235,Tryz.ntmps235
  go_wp2_with (at_builtin;refine UK.lH e rfl rfl rfl rfl rfl ?_)
  go_ret;exact HF.out
 have hle:=r.le;rw[aD]at hle;clear r aD
 go_enter Tryz.func235,Tryz.ntmps235
 go_wp2_with (at_builtin;refine UK.lH e rfl rfl rfl rfl rfl ?_)
 all_goals
  go_ret;exact HF.out
theorem xmu{W:World}{g c vb i:Nat}{l:List UInt64}(h:Row W g c (az l))(hl:l.length<=1000)(hi:i<l.length)(jJ:l.length+1<=c)(v:UInt64)(hv:ay W vb #[.int .u64 (v.toNat:Int)])(hne:vb≠g) :
  Calls Tryz.prog 235 #[.slice g l.length c,.int .i64 i,.slice vb 1 1] W λ e w'=>FI W w' g (l.take i++v::l.drop i) e:=by
 have aD:=dA l;obtain⟨n,hn⟩:∃n,n=l.length:=⟨_,rfl⟩;obtain⟨tB,kB,hsb,hkB⟩:=Row.shape h (by omega)
 obtain⟨tA,kA,hsa,hfa,hfe⟩:∃tA kA,W.shape? vb=some (tA,kA)/\W.frozen? ⟨vb,0,none⟩=false/\W.frozen? {block:=vb,off:=kA}=false:=by
  obtain⟨t,hb⟩:=hv;exact⟨t,1,by unfold World.shape?;rw[hb];rfl,by unfold World.frozen?;rw[hb];rfl,by unfold World.frozen?;rw[hb];rfl⟩
 have hov:∀lb cb,(callFunc 261 #[.slice vb 1 1,.slice (g,i+1) lb cb]).run Tryz.prog W= .ok (.value (.bool false)) W:=λ lb cb=>by
  rw[run_callFunc_extern Tryz.func261 (by kernel_rfl) (by kernel_rfl) (by kernel_rfl) (e:=Extern.SlicesOverlaps.overlaps #[88,88] #[4]) (by kernel_rfl),
   Lib.run_overlaps_apart W 88 4 77 Tryz.underlying88 1 (λ w=>by kernel_rfl) ⟨vb,0,none⟩ ⟨g,i+1,none⟩ 1 1 lb cb hne tA tB kA kB hsa hsb hkB hfa hfe]
  rfl
 have hsz:(Tryz.prog.info? 77).map (·.size)=some 1:=by kernel_rfl
 have hcs:∀j u,(az l)[j]?=some u->W.cell? (g,j)=some u:=λ j u hj=>h.at' j u hj
 have h1c:∀m:List UInt64,∀u∈az m,u.oneCell'=true:=λ m u hu=>by
  unfold az at hu;obtain⟨x,_,rfl⟩:=bQ.1 hu;rfl
 have hdr:(az l).drop i=az (l.drop i):=by unfold az;rw[List.map_drop]
 have hdl:(az (l.drop i)).length=n-i:=by rw[dA,zd,hn]
 have r1:Row (W.drew.setCells g (i+1) (az (l.drop i))) g c (az (l.take (i+1)++l.drop i)):=(h.drewN 1).setCells (i+1) (az (l.drop i)) (by rw[hdl];omega) _ (by rw[dA,zl,zt,zd];omega)
  (λ j hj=>by
   unfold az;rw[dL,dL,bP (by rw[zt];omega),zt,show i+1+j-min (i+1) l.length=j by omega])
  (λ j hj hh=>by
   rw[dA,zl,zt,zd]at hj;rw[hdl]at hh;have hji:j<i+1:=by omega
   refine⟨by rw[aD];omega,?_⟩;unfold az;rw[dL,dL,bI (by rw[zt];omega),eX hji])
 have o1:Only g W (W.drew.setCells g (i+1) (az (l.drop i))):=UK.Only.setCells _ _ (Only.refl g W).drew
 have hcp1:∀ty dc sc,(Builtin.copy_ #[88,88] ty #[.slice (g,i+1) (n-i) dc,.slice (g,i) (n+1-i) sc]).run Tryz.prog W.drew= .ok (goInt (az (l.drop i)).length) (W.drew.setCells g (i+1) (az (l.drop i))):=λ ty dc sc=>
  run_copy_cells W.drew _ _ ty 77 g (i+1) (n-i) dc ⟨g,i,none⟩ (n+1-i) sc (az (l.drop i)) Tryz.underlying88 hsz (by rw[hdl];simp only[Nat.min_def];split<;>omega)
   (λ j u hj=>by rw[UK.lQ];exact hcs (i+j) u (by rw[<-hdr,eY]at hj;exact hj))
   (λ j hj=>(h.there _ (by rw[hdl]at hj;omega)).1) (λ j hj=>(h.there _ (by rw[hdl]at hj;omega)).2) (h1c _)
 generalize hW1:W.drew.setCells g (i+1) (az (l.drop i))=W1 at r1 o1 hcp1;have hv1:=hv.only o1 hne
 have hcp2:∀ty dc,(Builtin.copy_ #[88,88] ty #[.slice (g,i) (n+1-i) dc,.slice vb 1 1]).run Tryz.prog W1= .ok (goInt [Value.int .u64 (v.toNat:Int)].length) (W1.setCells g i [Value.int .u64 (v.toNat:Int)]):=λ ty dc=>
  run_copy_cells W1 _ _ ty 77 g i (n+1-i) dc ⟨vb,0,none⟩ 1 1 [Value.int .u64 (v.toNat:Int)] Tryz.underlying88 hsz (by simp only[Nat.min_def,iE];split<;>omega)
   (λ j u hj=>by
    have hj0:j=0:=by
     by_cases hc:j<1
     ·omega
     rw[jo (by simp;omega)]at hj;cases hj
    subst hj0;rw[UK.lQ,eG,hv1.cell 0 _ rfl];exact hj)
   (λ j hj=>(r1.there _ (by simp at hj;omega)).1) (λ j hj=>(r1.there _ (by simp at hj;omega)).2) (λ u hu=>by
    obtain rfl:=bz.1 hu;rfl)
 have r2:Row (W1.setCells g i [Value.int .u64 (v.toNat:Int)]) g c (az (l.take i++v::l.drop i)):=r1.setCells i [Value.int .u64 (v.toNat:Int)] (by simp;omega) _ (by rw[dA,zl,zt,dn,zd];omega)
  (λ j hj=>by
   have hj0:j=0:=by simpa using hj
   subst hj0;unfold az;rw[dL,bP (by rw[zt];omega),zt,show i+0-min i l.length=0 by omega];rfl)
  (λ j hj hh=>by
   rw[dA,zl,zt,dn,zd]at hj;simp only[iE]at hh;refine⟨by rw[dA,zl,zt,zd];omega,?_⟩;unfold az;rw[dL,dL]
   congr 1
   rcases hh with hh|hh
   ·rw[bI (by rw[zt];omega),bI (by rw[zt];omega),eX hh,eX (by omega)]
   rw[bP (by rw[zt];omega),bP (by rw[zt];omega),zt,zt,show j-min i l.length=(j-(i+1))+1 by omega,nI,show j-min (i+1) l.length=j-(i+1) by omega])
 have o2:Only g W (W1.setCells g i [Value.int .u64 (v.toNat:Int)]):=UK.Only.setCells _ _ o1
 have fin:FI W (W1.setCells g i [Value.int .u64 (v.toNat:Int)]) g (l.take i++v::l.drop i) (.returned (.slice g (n+1) c)):=
  ⟨g,c,by rw[zl,zt,dn,zd,show min i l.length+(l.length-i+1)=n+1 by omega],r2,o2,.inl rfl⟩
 have HF:=zH fin;have hz2:¬((i:Int)=(n:Int)):=by omega
 have hin:i<=n:=by omega
 have hb3:(i:Int)<=(n:Int)+1:=by omega
 have hw1:IntKind.i64.wrap ((i:Int)+1)=(i:Int)+1:=by rw[dJ];omega
 have hw2:IntKind.i64.wrap ((n:Int)+1)=(n:Int)+1:=by rw[dJ];omega
 have hb1:(0:Int)<=(i:Int)+1:=by omega
 have htn:((i:Int)+1).toNat=i+1:=by omega
 have hb2:¬(c=i+1):=by omega
 have hb4:¬(c=i):=by omega
 have hb5:((n:Int)+1).toNat=n+1:=by omega
 have hrm:¬((c:Int)<(n:Int)+1):=by omega
 rw[<-hn]at hl hi jJ ⊢;clear hn hW1 aD;clear fin r1 r2 o1 o2 hv hv1 h hcs h1c hdr hdl hsa hsb hfa hfe hsz;have H2:=zH hcp2;have H1:=zH hcp1;clear hcp1 hcp2
 go_enter Tryz.func235,Tryz.ntmps235
 go_wp2_with (simp only[hov])
 go_region_law (refine step_copy_runI rfl _ _ 88 88 rfl (.slice (g,i+1) (n-i) (c-(i+1))) (.slice (g,i) (n+1-i) (c-i)) (by simp[Act.eval,Act.put]) (by simp[Act.eval,Act.put]) (H1.out 3 (c-(i+1)) (c-i)) ?_)
 have yu:=H2.out 3 (c-i);go_wp2;go_ret;exact HF.out
theorem xop{W:World}{g c vb i:Nat}{l:List UInt64}(h:Row W g c (az l))(hl:l.length<=1000)(hi:i<l.length)(jJ:c<l.length+1)(v:UInt64)(hv:ay W vb #[.int .u64 (v.toNat:Int)]) :
  Calls Tryz.prog 235 #[.slice g l.length c,.int .i64 i,.slice vb 1 1] W λ e w'=>FI W w' g (l.take i++v::l.drop i) e:=by
 have aD:=dA l;obtain⟨n,hn⟩:∃n,n=l.length:=⟨_,rfl⟩;have hle:=h.le;rw[aD]at hle;have hsz:(Tryz.prog.info? 77).map (·.size)=some 1:=by kernel_rfl
 have h1c:∀m:List UInt64,∀u∈az m,u.oneCell'=true:=λ m u hu=>by
  unfold az at hu;obtain⟨x,_,rfl⟩:=bQ.1 hu;rfl
 have hdr:(az l).drop i=az (l.drop i):=by unfold az;rw[List.map_drop]
 have htk:(az l).take i=az (l.take i):=by unfold az;rw[List.map_take]
 have hdl:(az (l.drop i)).length=n-i:=by rw[dA,zd,hn]
 have htl:(az (l.take i)).length=i:=by rw[dA,zt];omega
 have r0:=h.take i;rw[htk]at r0;obtain⟨c',W1,e1,r1,b1⟩:=UK.X7 (P:=Tryz.prog) (t:=88) (tn:=3) (ty:=88) (k:=.i64) (kn:=.i64) (i:=Tryz.t77) Tryz.underlying88 Tryz.underlying3 rfl rfl rfl (show(8:Nat)<=16 by omega) rfl r0 (n+1-i) (by omega) (by rw[htl];omega) (by rw[htl];omega);rw[htl,show i+(n+1-i)=n+1 by omega,show((n+1-i:Nat):Int)=(n:Int)+1-(i:Int) by omega]at e1;have lU:Below W W W1:=b1;have KP:(az (l.take i)++List.replicate (n+1-i) (Value.int .u64 0)).length=n+1:=by rw[zl,htl,gY];omega
 have hc1:n+1<=c':=by have:=r1.le;omega
 have hv1:=hv.below lU hv.lt
 have hcp1:∀ty dc,(Builtin.copy_ #[88,88] ty #[.slice (W.heap.size,i) (n+1-i) dc,.slice vb 1 1]).run Tryz.prog W1= .ok (goInt [Value.int .u64 (v.toNat:Int)].length) (W1.setCells W i [Value.int .u64 (v.toNat:Int)]):=λ ty dc=>
  run_copy_cells W1 _ _ ty 77 W.heap.size i (n+1-i) dc ⟨vb,0,none⟩ 1 1 [Value.int .u64 (v.toNat:Int)] Tryz.underlying88 hsz (by simp only[Nat.min_def,iE];split<;>omega)
   (λ j u hj=>by
    have hj0:j=0:=by
     by_cases hc:j<1
     ·omega
     rw[jo (by simp;omega)]at hj;cases hj
    subst hj0;rw[UK.lQ,eG,hv1.cell 0 _ rfl];exact hj)
   (λ j hj=>(r1.there _ (by simp at hj;omega)).1) (λ j hj=>(r1.there _ (by simp at hj;omega)).2) (λ u hu=>by
    obtain rfl:=bz.1 hu;rfl)
 have r2:Row (W1.setCells W i [Value.int .u64 (v.toNat:Int)]) W c' (az (l.take i)++Value.int .u64 (v.toNat:Int)::List.replicate (n-i) (Value.int .u64 0)):=r1.setCells i [Value.int .u64 (v.toNat:Int)] (by simp;omega) _ (by rw[zl,htl,dn,gY];omega)
  (λ j hj=>by
   have hj0:j=0:=by simpa using hj
   subst hj0;rw[bP (by rw[htl];omega),htl,show i+0-i=0 by omega];rfl)
  (λ j hj hh=>by
   rw[zl,htl,dn,gY]at hj;simp only[iE]at hh;refine⟨by rw[KP];omega,?_⟩;rcases hh with hh|hh
   ·rw[bI (by rw[htl];omega),bI (by rw[htl];omega)]
   rw[bP (by rw[htl];omega),bP (by rw[htl];omega),htl,show j-i=(j-(i+1))+1 by omega,nI,show n+1-i=(n-i)+1 by omega,List.replicate_succ,nI])
 have b2:Below W W (W1.setCells W i [Value.int .u64 (v.toNat:Int)]):=lU.trans ((UK.Only.setCells _ _ (Only.refl W W1)).below lU.size (aO _));generalize hW2:W1.setCells W i [Value.int .u64 (v.toNat:Int)]=W2 at r2 b2 hcp1;have h2:=h.below b2 h.lt
 have hcp2:∀ty dc sc,(Builtin.copy_ #[88,88] ty #[.slice (W.heap.size,i+1) (n-i) dc,.slice (g,i) (n-i) sc]).run Tryz.prog W2.drew= .ok (goInt (az (l.drop i)).length) (W2.drew.setCells W (i+1) (az (l.drop i))):=λ ty dc sc=>
  run_copy_cells W2.drew _ _ ty 77 W.heap.size (i+1) (n-i) dc ⟨g,i,none⟩ (n-i) sc (az (l.drop i)) Tryz.underlying88 hsz (by rw[hdl];simp only[Nat.min_def];split<;>omega)
   (λ j u hj=>by rw[UK.lQ];exact h2.at' (i+j) u (by rw[<-hdr,eY]at hj;exact hj))
   (λ j hj=>(r2.there _ (by rw[hdl]at hj;omega)).1) (λ j hj=>(r2.there _ (by rw[hdl]at hj;omega)).2) (h1c _)
 have ef:az (l.take i++v::l.drop i)=az (l.take i)++Value.int .u64 (v.toNat:Int)::az (l.drop i):=by unfold az;rw[dO,je]
 have r3:Row (W2.drew.setCells W (i+1) (az (l.drop i))) W c' (az (l.take i++v::l.drop i)):=by
  rw[ef];refine(r2.drewN 1).setCells (i+1) (az (l.drop i)) (by rw[hdl];omega) _ (by rw[zl,htl,dn,hdl];omega) (λ j hj=>?_) (λ j hj hh=>?_)
  ·rw[bP (by rw[htl];omega),htl,show i+1+j-i=j+1 by omega,nI]
  rw[zl,htl,dn,hdl]at hj;rw[hdl]at hh;have hji:j<i+1:=by omega
  refine⟨by rw[zl,htl,dn,gY];omega,?_⟩;by_cases e:j=i
  ·subst e;rw[bP (by rw[htl];omega),bP (by rw[htl];omega),htl,kN];rfl
  rw[bI (by rw[htl];omega),bI (by rw[htl];omega)]
 have b3:Below W W (W2.drew.setCells W (i+1) (az (l.drop i))):=b2.trans ((UK.Only.setCells _ _ (Only.refl W W2).drew).below b2.size (aO _))
 have fin:FI W (W2.drew.setCells W (i+1) (az (l.drop i))) g (l.take i++v::l.drop i) (.returned (.slice W (n+1) c')):=
  ⟨W.heap.size,c',by rw[zl,zt,dn,zd,show min i l.length+(l.length-i+1)=n+1 by omega],r3,Only.of_below b3,.inr (aO _)⟩
 have HF:=zH fin;have E1:=zH e1;have H1:=zH hcp1;have H2:=zH hcp2;have hz2:¬((i:Int)=(n:Int)):=by omega
 have hin:i<=n:=by omega
 have hb3:(i:Int)<=(n:Int)+1:=by omega
 have hw1:IntKind.i64.wrap ((i:Int)+1)=(i:Int)+1:=by rw[dJ];omega
 have hw2:IntKind.i64.wrap ((n:Int)+1)=(n:Int)+1:=by rw[dJ];omega
 have hw3:IntKind.i64.wrap ((n:Int)+1-(i:Int))=(n:Int)+1-(i:Int):=by rw[dJ];omega
 have hb1:(0:Int)<=(i:Int)+1:=by omega
 have htn:((i:Int)+1).toNat=i+1:=by omega
 have hb2:¬(c'=i+1):=by omega
 have hb4:¬(c=i):=by omega
 have hb5:¬(c'=i):=by omega
 have hrm:(c:Int)<(n:Int)+1:=by omega
 have hic:(i:Int)<=(c:Int):=by omega
 rw[<-hn]at hl hi jJ hle ⊢;clear fin r0 r1 r2 r3 b1 b2 b3 lU hv hv1 h h2 h1c hdr htk hdl htl hsz e1 hcp1 hcp2 hn aD ef KP hW2
 go_enter Tryz.func235,Tryz.ntmps235
 have yu:=H1.out 3 (c'-i)
 go_wp2_with (at_builtin;refine UK.lH E1.out rfl rfl rfl rfl rfl ?_)
 go_region_law (refine step_copy_runI rfl _ _ 88 88 rfl (.slice (W.heap.size,i+1) (n-i) (c'-(i+1))) (.slice (g,i) (n-i) (c-i)) (by simp[Act.eval,Act.put]) (by simp[Act.eval,Act.put]) (H2.out 3 (c'-(i+1)) (c-i)) ?_)
 go_wp2;go_ret
 exact HF.out
theorem RA{W:World}{ao:Option Addr}{c vb i:Nat}{l:List UInt64}(h:NR W ao c (az l))(hl:l.length<=1000)(hi:i<=l.length)(v:UInt64)(hv:ay W vb #[.int .u64 (v.toNat:Int)])(hne:¬aK ao vb) :
  Calls Tryz.prog 235 #[.slice ao l.length c,.int .i64 i,.slice vb 1 1] W λ e w'=>FI W w' ao (l.take i++v::l.drop i) e:=by
 by_cases e:i=l.length
 ·subst e;rw[fH,List.drop_length];exact xrx h hl v hv
 rcases h with⟨_,h0,_⟩|⟨g,rfl,r⟩
 ·have:=congrArg List.length h0;rw[dA]at this;have:l.length=0:=this;omega
 by_cases hr:l.length+1<=c
 ·exact xmu r hl (by omega) hr v hv (λ e=>hne (by rw[e];rfl))
 exact xop r hl (by omega) (by omega) v hv
end Go.Proofs.YtgpmiliahonaoaaGreatDoor
