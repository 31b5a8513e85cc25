/- Facts on texts on pages. -/
import Derived.Test.YtgpmiliahonaoaaGreatDoorRows
import Derived.WalkKit
import Derived.WalkSpells
import Derived.WalkLawsBesides
import Derived.Laws.IdiomStrings
import Derived.Outline
import Derived.Lib.Hide
import Derived.Deep.QuietTactic
import Derived.BigQuiet
import Derived.Laws.IdiomCopy
import Derived.Lib.LazyBuf
import Derived.Deep.AppendSrc
import Derived.OwnWalk
import Derived.Laws.Rows
import Derived.Laws.Tables
import Derived.Maps.OwnSet
import Derived.Maps.StringElems
import Derived.BigRegion
set_option maxRecDepth 100000
set_option maxHeartbeats 8000000
set_option linter.unusedSimpArgs false
open List renaming length->Y
open Go.Value renaming bool->a6,int->V,pointer->aq,slice->ad,string->a8,tuple->a9
open Or renaming inl->O,inr->al
open Go.Ending renaming returned->aw
open Go.IntKind renaming i64->U
open Go.Proofs.Tryz
namespace Go.Proofs.YtgpmiliahonaoaaGreatDoor
open Go.RowKit
variable{a b p c d e f g h i j:Prop}
theorem zS.{u}{b:Type u}(l:List b)(i:Nat)(a:b):l.toArray.setIfInBounds i a=(l.set i a).toArray:=List.setIfInBounds_toArray l i a
theorem z0.{u}{b:Type u}{x:b}{c:List b}{a:b}:(x::c).set 0 a=a::c:=rfl
theorem z1.{u}{b:Type u}{x:b}{c:List b}{i:Nat}{a:b}:(x::c).set (i+1) a=x::c.set i a:=rfl
theorem zA(x:a)(y:b):a/\b:=⟨x,y⟩
theorem zH(h:p):RowKit.Hid p:=h
theorem aE.{u}{c:Prop}{h:Decidable c}(n:¬c){a:Sort u}{t e:a}:(ite c t e)=e:=if_neg n
theorem be.{u}{c:Prop}{h:Decidable c}(n:c){a:Sort u}{t e:a}:(ite c t e)=t:=if_pos n
theorem Z(h:p:=by omega):p:=h
theorem bg(c:a)(b1:b):RowKit.Hid (a/\b):=⟨c,b1⟩
theorem bm(e:a)(b1:b)(d:c):RowKit.Hid (a/\b/\c):=⟨e,b1,d⟩
theorem cj(g:a)(b1:b)(e:c)(f:d):a/\b/\c/\d:=⟨g,b1,e,f⟩
theorem bp(g:a)(b1:b)(e:c)(f:d):RowKit.Hid (a/\b/\c/\d):=⟨g,b1,e,f⟩
theorem br(i:a)(b1:b)(f:c)(g:d)(h:e):RowKit.Hid (a/\b/\c/\d/\e):=⟨i,b1,f,g,h⟩
theorem bw(i:a)(b1:b)(g:c)(k:d)(h:e)(j:f):RowKit.Hid (a/\b/\c/\d/\e/\f):=⟨i,b1,g,k,h,j⟩
theorem bs(k:a)(b1:b)(h:c)(m:d)(j:e)(l:f)(i:g):RowKit.Hid (a/\b/\c/\d/\e/\f/\g):=⟨k,b1,h,m,j,l,i⟩
theorem b9(m:a)(b1:b)(i:c)(o:d)(k:e)(n:f)(j:g)(l:h):RowKit.Hid (a/\b/\c/\d/\e/\f/\g/\h):=⟨m,b1,i,o,k,n,j,l⟩
theorem bT(o:a)(b1:b)(j:c)(q:d)(l:e)(p:f)(k:g)(n:h)(m:i):RowKit.Hid (a/\b/\c/\d/\e/\f/\g/\h/\i):=⟨o,b1,j,q,l,p,k,n,m⟩
theorem cf(q:a)(b1:b)(k:c)(s:d)(m:e)(r:f)(l:g)(p:h)(o:i)(n:j):RowKit.Hid (a/\b/\c/\d/\e/\f/\g/\h/\i/\j):=⟨q,b1,k,s,m,r,l,p,o,n⟩
theorem bH{k:Prop}(s:a)(b1:b)(l:c)(u:d)(n:e)(t:f)(m:g)(q:h)(p:i)(o:j)(r:k):RowKit.Hid (a/\b/\c/\d/\e/\f/\g/\h/\i/\j/\k):=⟨s,b1,l,u,n,t,m,q,p,o,r⟩
theorem cg{k l:Prop}(t:a)(b1:b)(m:c)(v:d)(o:e)(u:f)(n:g)(r:h)(q:i)(p:j)(s:k)(w:l):RowKit.Hid (a/\b/\c/\d/\e/\f/\g/\h/\i/\j/\k/\l):=⟨t,b1,m,v,o,u,n,r,q,p,s,w⟩
theorem cB{a b c:Nat}(h:a<b)(k:b<=c):a<c:=Nat.lt_of_lt_of_le h k
theorem zl.{u}{c:Type u}{a b:List c}:(a++b).length=Y a+Y b:=List.length_append
theorem zt.{u}{a:Type u}{i:Nat}{l:List a}:(l.take i).length=min i (Y l):=List.length_take
theorem zd.{u}{a:Type u}{i:Nat}{l:List a}:(l.drop i).length=Y l-i:=List.length_drop
theorem dz.{c}:∀{b:Type c} {i:Nat} {a:b} {l:List b},l[i]?=some a↔∃(h:i<Y l),l[i]=a:=@List.getElem?_eq_some_iff
theorem bK.{a}:∀{b:Type a} {l:List b} {i:Nat} (h:i<Y l),l[i]?=some l[i]:=@List.getElem?_eq_getElem
theorem bf.{u}:∀{b:Type u} {val a:b},some val=some a->val=a:=@Option.some.inj
theorem aU:∀(B:Nat) (w:World),Below B w w:=@Go.RowKit.Below.refl
theorem aH:∀(n:Nat),n<=n:=@Nat.le_refl
theorem dm.{c}:∀{b:Type c} {a:b} {s t:List b},a∈s++t↔a∈s\/a∈t:=@List.mem_append
theorem fV.{c}:∀{b:Type c} {l:List b} {i:Nat} {a:b},l.getD i a=l[i]?.getD a:=@List.getD_eq_getElem?_getD
theorem dF.{u}:∀{b:Type u} {a:b} {c:List b},(a::c).length=Y c+1:=@List.length_cons
theorem lL.{u}:∀{a:Type u} {b:a} (d:List a) {c:List a},b∈c->b∈d++c:=@List.mem_append_right
theorem bN.{f}:∀{e:Type f} {c d:List e},(c++d).Nodup↔c.Nodup/\d.Nodup/\∀(a:e),a∈c->∀(b:e),b∈d->a≠b:=@List.nodup_append
theorem fw.{u}:∀{b:Type u} {a:b} {c:List b} (d:List b),a∈c->a∈c++d:=@List.mem_append_left
theorem bZ.{c}:∀{d:Type c} {a b:List d} {i:Nat},Y a<=i->(a++b)[i]?=b[i-Y a]?:=@List.getElem?_append_right
theorem aV.{u}:∀{b:Type u} {c:List b} {i:Nat} {a:b},(c.set i a).length=Y c:=@List.length_set
theorem aN.{d}:∀{c:Type d} {b:c} {l:List c} {a:c},a∈b::l↔a=b\/a∈l:=@List.mem_cons
theorem bu.{c}:∀{d:Type c} {a b:d},a∈[b]↔a=b:=@List.mem_singleton
theorem bR.{b}:∀{d:Type b} {a c:List d} {i:Nat},i<Y a->(a++c)[i]?=a[i]?:=@List.getElem?_append_left
theorem dM:∀(n:Int),IntKind.i64.wrap n=(n+9223372036854775808)%18446744073709551616-9223372036854775808:=@Go.IntKind.wrap_i64
theorem aT:∀{n m k:Nat},n<=m->m<=k->n<=k:=@Nat.le_trans
theorem cO.{u}:∀{d:Type u} (c b a:List d),c++b++a=c++(b++a):=@List.append_assoc
theorem cK.{c}:∀{b:Type c} (y:b) {a:b} {l:List b},a∈l->a∈y::l:=@List.mem_cons_of_mem
theorem jQ.{c}:∀{b:Type c} {a:b} {i:Nat} {l:List b},a∈List.drop i l->a∈l:=@List.mem_of_mem_drop
theorem fQ.{a}:∀{b:Type a} {i:Nat} {l:List b},Y l<=i->List.take i l=l:=@List.take_of_length_le
theorem dL.{c,d}:∀{a:Type c} {b:Type d} {f:a->b} {l:List a} {i:Nat},(List.map f l)[i]?=Option.map f l[i]?:=@List.getElem?_map
theorem dU.{c}:∀{b:Type c} {l:List b} {i:Nat} {a:b},l[i]?=some a->a∈l:=@List.mem_of_getElem?
theorem jw.{c}:∀{b:Type c} {i:Nat} {a:b} {l:List b},a∈List.take i l->a∈l:=@List.mem_of_mem_take
theorem gZ.{a}:∀{b:Type a} (i:Nat) (l:List b),List.take i l++List.drop i l=l:=@List.take_append_drop
theorem eD.{c}:∀{b:Type c} {a:b} {l:List b},(a::l).Nodup↔¬a∈l/\l.Nodup:=@List.nodup_cons
theorem gI.{u}:∀{b:Type u} {a:b},[a].length=1:=@List.length_singleton
theorem fT.{a}:∀{b:Type a} {l:List b} {i j:Nat},i<j->(List.take j l)[i]?=l[i]?:=@List.getElem?_take_of_lt
theorem aR:∀(n:Nat),0<=n:=@Nat.zero_le
theorem cu.{u}:∀{b:Type u} {R:b->b->Prop} {a:b} {l:List b},List.Pairwise R (a::l)↔(∀(c:b),c∈l->R a c)/\List.Pairwise R l:=@List.pairwise_cons
theorem bI.{c}:∀{b:Type c} {a:b} {l:List b},a∈a::l:=@List.mem_cons_self
theorem eP.{b}:∀{c:Type b} {a:List c} {i j:Nat},(List.drop i a)[j]?=a[i+j]?:=@List.getElem?_drop
theorem iQ.{u}:∀{b:Type u} (a:List b),[]++a=a:=@List.nil_append
theorem qN.{b}:∀{d:Type b} {a c:List d} {i:Nat},i<=Y a->List.take i (a++c)=List.take i a:=@List.take_append_of_le_length
theorem fU.{c}:∀{b:Type c} {a:b} {l:List b},a∈l->∃(i:Nat),∃(h:i<Y l),l[i]=a:=@List.getElem_of_mem
theorem iM.{u}:∀{b:Type u} {n:Nat} {a:b},(List.replicate n a).length=n:=@List.length_replicate
theorem lS.{u}:∀{c:Type u} {a:c} {d b:List c},a::d++b=a::(d++b):=@List.cons_append
theorem fB:∀(n:Nat),0+n=n:=@Nat.zero_add
theorem bL.{e,g}:∀{c:Type e} {d:Type g} {b:d} {f:c->d} {l:List c},b∈List.map f l↔∃(a:c),a∈l/\f a=b:=@List.mem_map
theorem jY.{a}:∀{b:Type a} {i:Nat} {l:List b} (h:i<Y l),List.drop i l=l[i]::List.drop (i+1) l:=@List.drop_eq_getElem_cons
theorem jl.{u}:∀{b:Type u} (a:List b),a++[]=a:=@List.append_nil
theorem ja.{a}:∀{b:Type a} {l:List b} {i:Nat},Y l<=i->l[i]?=none:=@List.getElem?_eq_none
theorem dI.{e,g}:∀{a:Type e} {d:Type g} {f:a->d} {c b:List a},List.map f (c++b)=List.map f c++List.map f b:=@List.map_append
theorem mE:∀(n:Nat),¬n<n:=@Nat.lt_irrefl
theorem oH.{c}:∀{b:Type c} {a:b} {i:Nat} {l:List b},(a::l)[i+1]?=l[i]?:=@List.getElem?_cons_succ
theorem bS.{d,e}:∀{a:Type d} {c:Type e} {b:List a} (f:a->c),(List.map f b).length=Y b:=@List.length_map
theorem l7:∀(n:Nat),n-n=0:=@Nat.sub_self
theorem eB:∀{w b:World} {a:Addr},b.1[a.block]?=w.1[a.block]?->b.cell? a=w.cell? a:=@Go.World.cell?_of_block
theorem kU.{u}:∀{a:Type u} {l:List a},List.take 0 l=[]:=@List.take_zero
theorem kg:∀(n:Nat),n+0=n:=@Nat.add_zero
theorem gV:∀{a b:Nat},a<=b->min a b=a:=@Nat.min_eq_left
theorem dY.{a}:∀{b:Type a} {l:List b},List.take (Y l) l=l:=@List.take_length
theorem sw:∀(n m:Nat),n+m-n=m:=@Nat.add_sub_cancel_left
theorem lK.{a}:∀{b:Type a} {i j:Nat} {l:List b},List.take i (List.take j l)=List.take (min i j) l:=@List.take_take
theorem sN.{b}:∀{a:Type b} (l:List a),l≠[]->∃(x:a),x∈l:=@List.exists_mem_of_ne_nil
theorem dJ.{u}:∀{c:Sort u} {a b:c},a≠b->b≠a:=@Ne.symm
theorem qO.{c}:∀{b:Type c} {a:Array b} {x:b},(a.push x)[a.size]?=some x:=@Array.getElem?_push_size
theorem nP:∀{a b:Int},0<=a->a.tdiv b=a/b:=@Int.tdiv_eq_ediv_of_nonneg
theorem jr.{u,v}:∀{b:Type u} {c:Type v} {f:b->c} {a:b} {l:List b},List.map f (a::l)=f a::List.map f l:=@List.map_cons
theorem lq.{a}:∀{b:Type a} {i j:Nat} {l:List b},List.drop i (List.drop j l)=List.drop (j+i) l:=@List.drop_drop
theorem tZ.{c}:∀{b:Type c} (R:b->b->Prop) (a:b),List.Pairwise R [a]:=@List.pairwise_singleton
theorem jq.{u,v}:∀{a:Type u} {c:Type v} {x:a} {b:List a} {f:a->List c},List.flatMap f (x::b)=f x++List.flatMap f b:=@List.flatMap_cons
theorem ky:∀{m n:Nat},m∈List.range n↔m<n:=@List.mem_range
theorem jI:∀(n:Nat),¬n<0:=@Nat.not_lt_zero
theorem kz:∀(x:Nat) {y:Nat},0<y->x%y<y:=@Nat.mod_lt
theorem xX:∀(n:Nat),n*1=n:=@Nat.mul_one
theorem mX:∀(n:Int),IntKind.u64.wrap n=n%18446744073709551616:=@Go.IntKind.wrap_u64
theorem mV:∀{a b:UInt64},a.toNat=b.toNat↔a=b:=@UInt64.toNat_inj
theorem jP.{b}:∀{a:Type b} {R:a->a->Prop} {l:List a},List.Pairwise R l↔∀(i j:Nat) (_hi:i<Y l) (_hj:j<Y l),i<j->R l[i] l[j]:=@List.pairwise_iff_getElem
theorem yu:∀(n m:Nat),n<m\/n≥m:=@Nat.lt_or_ge
theorem yT:∀{a b:Nat},a<b->a%b=a:=@Nat.mod_eq_of_lt
instance:Coe Nat Addr:=⟨λ b=>⟨b,0,none⟩⟩
instance (a b:Nat):CoeDep (Nat×Nat) (a,b) Addr:=⟨⟨a,b,none⟩⟩
instance (a b:Nat):CoeDep (Nat×Nat) (a,b) (Option Addr):=⟨some ⟨a,b,none⟩⟩
instance:Coe World Nat:=⟨λ w=>w.1.size⟩
end Go.Proofs.YtgpmiliahonaoaaGreatDoor
namespace Go.Proofs.YtgpmiliahonaoaaGreatDoor.UK
open Go.RowKit
variable{W W' a w:World}{B i n C:Nat}{x:List UInt8}{P:Program}
def xr(a b:UInt32):UInt32:=a ^^^ b
def jZ(a b:UInt32):UInt32:=a ||| b
def nt(a:UInt32):UInt32:= ~~~a
def pG(a:UInt32):UInt32:=a &&& 15
def GA(a:UInt32):UInt32:=a/16
def poly:UInt32:=2197175160
def hf(a:UInt32):UInt32:=a/2
def ej(a:UInt8):UInt8:=a/2
def R9(a:UInt32):UInt32:=a/256
def OW(a b:UInt32):Bool:=a.toNat%2 != b.toNat%2
def Sj(a b:UInt8):UInt8:=a ^^^ b
def wide(b:UInt8):UInt32:=b.toUInt32
def nL(c:UInt32)(i:Nat):UInt8:=UInt8.ofNat (c.toNat/256^i)
def shl(b:UInt32)(i:Nat):UInt32:=UInt32.ofNat (b.toNat*256^i)
@[go_sem] theorem aa5 (b:UInt32):(b.toNat:Int)*256%4294967296=((shl b 1).toNat:Int):=by simp[shl]
@[go_sem] theorem aa6 (b:UInt32):(b.toNat:Int)*65536%4294967296=((shl b 2).toNat:Int):=by simp[shl]
@[go_sem] theorem aa7 (b:UInt32):(b.toNat:Int)*16777216%4294967296=((shl b 3).toNat:Int):=by simp[shl]
@[go_sem] theorem WM (a:UInt32):(a.toNat:Int)/2=((hf a).toNat:Int):=by simp[hf]
@[go_sem] theorem aae (a:UInt8):(a.toNat:Int)/2=((ej a).toNat:Int):=by simp[ej]
@[go_sem] theorem Lc (a:UInt32):(a.toNat:Int)/256=((R9 a).toNat:Int):=by simp[R9]
@[go_sem] theorem Ld (a:UInt32):nL (R9 a) 0=nL a 1:=by simp[nL,R9]
@[go_sem] theorem OX (a b:UInt32):((a.toNat:Int)%2 !=(b.toNat:Int)%2)=OW a b:=by
 have h:((a.toNat:Int)%2=(b.toNat:Int)%2)↔(a.toNat%2=b.toNat%2):=Z
 unfold OW bne
 congr 1
 rw[Bool.eq_iff_iff,beq_iff_eq,beq_iff_eq,h]
@[go_sem] theorem Jz (u:UInt32) (k:Nat):(u.toNat:Int)/2^(8*k)%256=((nL u k).toNat:Int):=by
 rw[show(2:Int)^(8*k)=((256^k:Nat):Int) by rw[Int.pow_mul];norm_cast];simp[nL]
theorem G0(a b:UInt32):((a.toNat:Int) !=(b.toNat:Int))=!(a==b):=by
 unfold bne
 congr 1
 rw[Bool.eq_iff_iff,beq_iff_eq,beq_iff_eq];exact⟨λ h=>UInt32.toNat_inj.1 Z,λ h=>by rw[h]⟩
theorem ZA(b:UInt32):(b.toNat:Int)<4294967296:=by have:=b.toNat_lt;omega
@[go_sem] theorem OY (b:UInt8):(b.toNat:Int)%4294967296=((wide b).toNat:Int):=by simp[wide];have:=b.toNat_lt;omega
@[go_sem] theorem RA (b:UInt8):(b.toNat:Int)%256=(b.toNat:Int):=by have:=b.toNat_lt;omega
@[go_sem] theorem Le (b:UInt32):(b.toNat:Int)%4294967296=(b.toNat:Int):=by have:=b.toNat_lt;omega
@[go_sem] theorem OZ (b:UInt32):(b.toNat:Int)%256=((nL b 0).toNat:Int):=by simp[nL]
@[go_sem] theorem Lf (b:UInt32):(b.toNat:Int)/256%256=((nL b 1).toNat:Int):=by simp[nL]
@[go_sem] theorem Lg (b:UInt32):(b.toNat:Int)/65536%256=((nL b 2).toNat:Int):=by simp[nL]
@[go_sem] theorem Lh (b:UInt32):(b.toNat:Int)/16777216%256=((nL b 3).toNat:Int):=by simp[nL]
@[go_sem] theorem EZ (a b:UInt32):bits .xor .u32 (a.toNat:Int) (b.toNat:Int)=((xr a b).toNat:Int):=by
 rw[u32_xor_nat _ _ a.toNat_lt b.toNat_lt,xr,UInt32.toNat_xor]
@[go_sem] theorem WN (a b:UInt8):bits .xor .u8 (a.toNat:Int) (b.toNat:Int)=((Sj a b).toNat:Int):=by
 rw[u8_xor_nat _ _ a.toNat_lt b.toNat_lt,Sj,UInt8.toNat_xor]
@[go_sem] theorem WO (a b:UInt32):bits .or .u32 (a.toNat:Int) (b.toNat:Int)=((jZ a b).toNat:Int):=by
 rw[u32_or_nat _ _ a.toNat_lt b.toNat_lt,jZ,UInt32.toNat_or]
@[go_sem] theorem RB (a:UInt32):bits .xor .u32 IntKind.u32.max (a.toNat:Int)=((nt a).toNat:Int):=by
 have:IntKind.u32.max=(((4294967295:UInt32).toNat:Nat):Int):=by decide
 rw[this,u32_xor_nat _ _ (by decide) a.toNat_lt,<-UInt32.toNat_xor,nt];rw[show(4294967295:UInt32) ^^^ a= ~~~a from by apply UInt32.toBitVec_inj.1;simp[<-BitVec.allOnes_xor]]
@[go_sem] theorem RD (a:UInt32):(4294967295-(a.toNat:Int))%4294967296=((nt a).toNat:Int):=by
 have:=a.toNat_lt;rw[nt,UInt32.toNat_not];simp only[UInt32.size];omega
@[go_sem] theorem Pb (a:UInt32):bits .xor .u32 (a.toNat:Int) 2197175160=((xr a poly).toNat:Int):=EZ a poly
@[go_sem] theorem Li (a:UInt32):bits .and .u32 (a.toNat:Int) 15=((pG a).toNat:Int):=by
 rw[show(15:Int)=((15:UInt32).toNat:Int) by decide];rw[u32_and_nat _ _ a.toNat_lt (by decide),pG,UInt32.toNat_and]
@[go_sem] theorem Lj (a:UInt32):(a.toNat:Int)/16=((GA a).toNat:Int):=by
 simp[GA]
theorem Xj(a:UInt32):((pG a).toNat:Int)<16:=by
 have:(pG a).toNat<=15:=by rw[pG,UInt32.toNat_and];exact Nat.and_le_right
 omega
def nth(l:List UInt8)(i:Nat):UInt8:=l.getD i 0
def str(l:List UInt8):ByteArray:=⟨l.toArray⟩
theorem cH(s:ByteArray):s=str s.data.toList:=by simp[str]
@[go_sem] theorem eG (l:List UInt8):(str l).size=Y l:=by simp[str,ByteArray.size]
@[go_sem] theorem G7 (l:List UInt8) (a b:Nat):(str l).extract a b=str ((l.take b).drop a):=by
 apply ByteArray.ext;simp[str,ByteArray.data_extract,List.drop_take]
@[go_sem] theorem vS (l m:List UInt8):str l++str m=str (l++m):=by
 apply ByteArray.ext;simp[str]
@[go_sem] theorem lF (l:List UInt8):(str l).data.toList=l:=by simp[str]
@[go_sem] theorem J2 (l:List UInt8):(str l).toList=l:=ByteArray.toList_mk l
@[go_sem] theorem RF (l:List UInt8) (i:Nat) (h:i<(str l).size):(str l)[i]'h=nth l i:=by
 have a:i<Y l:=by simpa[eG]using h
 show(str l).data[i]=_;simp[str,nth,List.getD,a]
@[go_sem] theorem WQ (l:List UInt8):ByteArray.mk l.toArray=str l:=rfl
structure Kept(I:World->Prop) where
 w:World
 h:I w
def qE(l:List UInt8):Array Value:=(l.map λ b=>V .u8 (b.toNat:Int)).toArray
def aF(W:World)(B:Nat)(x:List UInt8):Prop:=∃e a,W.1[B]?=some (.cells (qE x) e a)/\∀i,i<Y x->¬(a.1<=i/\i<a.2)
theorem ff(x:List UInt8)(i:Nat)(h:i<Y x):(qE x)[i]?=some (V .u8 ((nth x i).toNat:Int)):=by
 simp[qE,nth,List.getD,h]
theorem aF.cell(h:aF W B x)(a:i<Y x):W.cell? (B,i)=some (V .u8 ((nth x i).toNat:Int)):=by
 obtain⟨e,c,b,_⟩:=h;unfold World.cell?;simp only[b];exact ff x i a
theorem aF.free(h:aF W B x)(a:i<Y x):W.frozen? ⟨B,i,none⟩=false:=by
 obtain⟨e,c,b,hf⟩:=h;unfold World.frozen?;simp only[b];have:=hf i a;simp only[Bool.and_eq_false_iff,decide_eq_false_iff_not];omega
theorem aF.lt(h:aF W B x):B<W.1.size:=by
 obtain⟨e,b,a,_⟩:=h;exact(Array.getElem?_eq_some_iff.1 a).1
theorem aF.ae(h:aF W B x)(c:W'.1[B]?=W.1[B]?):aF W' B x:=by
 obtain⟨e,b,a,hf⟩:=h;exact⟨e,b,c.trans a,hf⟩
theorem aF.set(h:aF W B x)(i:Nat)(v:UInt8):aF (W.setCell (B,i) (V .u8 (v.toNat:Int))) B (x.set i v):=by
 obtain⟨e,a,c,hf⟩:=h;refine⟨e,a,?_,λ j b=>hf j (by simpa using b)⟩;simp only[World.setCell,Array.getElem?_modify,if_true,c,Option.map_some]
 congr 2
 simp[qE,List.map_set]
theorem aF.drew(h:aF W B x):aF W.drew B x:=h
theorem aF.drewN(h:aF W B x)(n:Nat):aF (W.drewN n) B x:=h
theorem aF.below(h:aF W B x)(b:Below n W W')(a:B<n):aF W' B x:=h.ae (b.block B a)
theorem aF.alloc(h:aF W B x)(o:Obj):aF (W.alloc o) B x:=h.ae (Below.heap_alloc W o B h.lt)
theorem aF.far(h:aF W B x)(a:Addr)(v:Value)(b:B≠a.block):aF (W.setCell a v) B x:=h.ae (Below.heap_setCell W a v B b)
theorem vB{src dst e:TypeId}(i:P.underlying src=some (.slice e))(c:P.underlying e=some (.int .u8))(hd:P.underlying dst=some .string)(h:aF W B x)(o n cap:Nat)(k:o+n<=Y x) :
  (convert src dst (ad (B,o) n cap)).run P W= .ok (a8 (str ((x.drop o).take n))) W:=by
 have g:((x.drop o).take n).length=n:=by rw[zt,zd];omega
 have a:=run_convert_bytes_back (P:=P) W src dst e ⟨B,o,none⟩ cap ((x.drop o).take n) i c hd (λ j l=>by
  have b:(⟨B,o,none⟩:Addr).add j=⟨B,o+j,none⟩:=by
   unfold Addr.add;by_cases d:j=0<;>simp[d]
  rw[b,h.cell Z];have f:o+j<Y x:=Z
  simp[nth,List.getD,f])
 rw[g]at a;exact a
theorem ZZ{src dst e:TypeId}(d:P.underlying src=some .string)(hd:P.underlying dst=some (.slice e))(c:P.underlying e=some (.int .u8))(W:World)(l:List UInt8) :
  ∃cap o,Y l<=cap/\(convert src dst (a8 (str l))).run P W= .ok (ad W (Y l) cap) (W.drew.alloc o)/\aF (W.drew.alloc o) W (l++List.replicate (cap-Y l) 0):=by
 have h:=run_bytes_of_string (P:=P) W src dst e (str l) d hd c;rw[eG]at h;have a:=grownCap_ge W (Y l) 0 e;refine⟨grownCap W (Y l) 0 e,_,a,h,e,((bytesRow (str l) (grownCap W (Y l) 0 e)).size,(bytesRow (str l) (grownCap W (Y l) 0 e)).size+1),?_,?_⟩
 ·show(W.drew.1.push _)[W.1.size]?=_;rw[show W.1.size=W.drew.1.size from rfl,qO];simp[bytesRow,str,qE,ByteArray.size]
 intro i b;simp[bytesRow,str,ByteArray.size]at b ⊢;omega
theorem dN(h:Below B a w)(n:Nat):Below B a (w.drewN n):=⟨h.os,h.tape,h.output,h.size,h.block⟩
structure Only(B:Nat)(w w':World):Prop where
 os:w'.os=w.os
 tape:w'.tape=w.tape
 output:w'.output=w.output
 size:w.1.size<=w'.1.size
 block:∀k,k<w.1.size->k≠B->w'.1[k]?=w.1[k]?
namespace Only
variable{b c:World}
theorem refl(B:Nat)(w:World):Only B w w:=⟨rfl,rfl,rfl,aH _,λ _ _ _=>rfl⟩
theorem trans(h:Only B a b)(k:Only B b c):Only B a c:=
 ⟨k.os.trans h.os,k.tape.trans h.tape,k.output.trans h.output,aT h.size k.size,λ i d e=>(k.block i (cB d h.size) e).trans (h.block i d e)⟩
theorem drew(h:Only B a w):Only B a w.drew:=⟨h.os,h.tape,h.output,h.size,h.block⟩
theorem drewN(h:Only B a w)(n:Nat):Only B a (w.drewN n):=⟨h.os,h.tape,h.output,h.size,h.block⟩
theorem alloc(h:Only B a w)(o:Obj):Only B a (w.alloc o):=
 ⟨h.os,h.tape,h.output,aT h.size (by simp),λ i b c=>(Below.heap_alloc w o i (cB b h.size)).trans (h.block i b c)⟩
theorem set(h:Only B a w)(i:Nat)(v:Value):Only B a (w.setCell (B,i) v):=
 ⟨h.os,h.tape,h.output,by simpa[World.setCell]using h.size,λ k c b=>(Below.heap_setCell w _ v k b).trans (h.block k c b)⟩
theorem of_below(h:Below a.1.size a w):Only B a w:=⟨h.os,h.tape,h.output,h.size,λ k b _=>h.block k b⟩
theorem below(h:Only B a w)(c:n<=a.1.size)(d:n<=B):Below n a w:=⟨h.os,h.tape,h.output,h.size,λ k b=>h.block k Z Z⟩
theorem bytes(h:Only B a w)(b:aF a C x)(c:C≠B):aF w C x:=b.ae (h.block C b.lt c)
end Only
open Go.RowKit
def wr(x:List UInt8)(a:Nat)(s:List UInt8):List UInt8:=x.take a++(s++x.drop (a+Y s))
theorem jF(x:List UInt8)(a:Nat)(s:List UInt8)(h:a+Y s<=Y x):(wr x a s).length=Y x:=by
 simp[wr];omega
def cellsOf(s:List UInt8):List Value:=s.map λ b=>V .u8 (b.toNat:Int)
theorem wA(x:List UInt8)(a:Nat)(v:UInt8)(s:List UInt8)(h:a<Y x):wr (x.set a v) (a+1) s=wr x a (v::s):=by
 unfold wr
 have b:(x.set a v).take (a+1)=x.take a++[v]:=by
  rw[List.take_succ_eq_append_getElem (by simpa using h),List.take_set_of_le (aH _)];simp
 have c:(x.set a v).drop (a+1+Y s)=x.drop (a+(Y s+1)):=by
  rw[List.drop_set_of_lt Z,show a+1+Y s=a+(Y s+1) from Z]
 rw[b,c];simp
theorem aF.setCells{B:Nat}:∀(s:List UInt8) (o:Nat) {W:World} {x:List UInt8},aF W B x->o+Y s<=Y x->aF (W.setCells B o (cellsOf s)) B (wr x o s)
 | [],o,W,x,h,_=>by
  have:wr x o []=x:=by simp[wr]
  rw[this];exact h
 | v::s,o,W,x,h,b=>by
  simp only[dF]at b;have a:=aF.setCells s (o+1) (h.set o v) (by rw[aV];omega);rw[wA x o v s Z]at a;exact a
theorem Only.setCells{B:Nat}{a:World}:∀(s:List Value) (o:Nat) {w:World},Only B a w->Only B a (w.setCells B o s)
 | [],_,_,h=>h
 | v::s,o,_,h=>Only.setCells s (o+1) (h.set o v)
theorem Fh{dT sT ty elem:TypeId}(c:P.underlying dT=some (.slice elem))(d:∀w,(Go.sizeOf elem).run P w= .ok 1 w)(h:aF W B x)(o dLen dCap:Nat)(s:List UInt8)(hd:Y s<=dLen)(e:o+Y s<=Y x) :
  (Builtin.copy_ #[dT,sT] ty #[ad (B,o) dLen dCap,a8 (str s)]).run P W= .ok (goInt (Y s:Nat)) (W.setCells B o (cellsOf s)):=by
 have b:=run_copy_string (P:=P) W dT sT ty elem B o dLen dCap (str s) c d (by rw[eG];exact hd) (λ j a=>by
  rw[eG]at a;rw[h.cell Z];rfl) (λ j a=>by
  rw[eG]at a;exact h.free Z)
 rw[eG,lF]at b;exact b
def bM(n:Nat):List UInt8:=List.replicate n 0
theorem kr(n:Nat):(bM n).length=n:=iM
theorem BA(n i:Nat):nth (bM n) i=0:=by
 unfold nth bM List.getD;rw[List.getElem?_replicate]
 split<;>rfl
theorem Pd(n:Nat):(Builtin.zeroCells (V .u8 0).cells n).toList=cellsOf (List.replicate n 0):=by
 apply List.ext_getElem?;intro i;by_cases h:i<n
 ·simp[Builtin.zeroCells,Value.cells,cellsOf,h,Nat.mod_one]
 simp[Builtin.zeroCells,Value.cells,cellsOf,h]
theorem Pp{t ty elem:TypeId}(e:P.underlying t=some (.slice elem))(i:∀w,(zeroValue elem).run P w= .ok (V .u8 0) w)(h:aF W B x)(o n c:Nat)(k:o+n<=Y x) :
  (Builtin.clear_ #[t] ty #[ad (B,o) n c]).run P W= .ok (a9 #[]) (W.setCells B o (cellsOf (bM n))):=by
 unfold bM;have d:(cellsOf (List.replicate n 0)).length=n:=by simp[cellsOf]
 have f:=run_storeCells_cells (P:=P) B o (cellsOf (List.replicate n 0)) 0 W (by
  intro j a;rw[d]at a;rw[kg,h.cell Z];rfl) (by
  intro j a;rw[d]at a;rw[kg];exact h.free Z) (by
  intro v g;simp only[cellsOf,bL]at g;obtain⟨b,_,rfl⟩:=g;rfl)
 rw[<-Pd]at f ⊢
 cases n with
 | zero=>simp[Builtin.clear_,run_underlying e,Builtin.zeroCells,World.setCells]
 | succ n=>
  simp only[Builtin.clear_];simp[run_underlying e,i];rw[f];simp
end Go.Proofs.YtgpmiliahonaoaaGreatDoor.UK
namespace Go.Proofs.YtgpmiliahonaoaaGreatDoor
open Go.RowKit
variable{W W' w:World}{g c n B:Nat}{vs m:List Value}{P:Program}{z x:Value}{ao:Option Addr}{ops:Array Oper}{rest:List Oper}{o:Oper}{a:Act}{Q:Exit->Act->World->Prop}{y:List UInt8}{d:Array Value}{e:Func}{p:Tmp}
namespace UK
structure Row(W:World)(g c:Nat)(vs:List Value):Prop where
 lt:g<W.1.size
 le:Y vs<=c
 holds:∀j,j<Y vs->W.cell? (g,j)=vs[j]?
 there:∀j,j<c->(W.cell? (g,j)).isSome=true/\W.frozen? ⟨g,j,none⟩=false
theorem mY(b off n:Nat):(⟨b,off,none⟩:Addr).add n=⟨b,off+n,none⟩:=by
 unfold Addr.add;split<;>simp_all
namespace Row
theorem ae(h:Row W g c vs)(d:W.1.size<=W'.1.size)(b:W'.1[g]?=W.1[g]?):Row W' g c vs:=
 ⟨cB h.lt d,h.le,λ j a=>(eB (a:=⟨g,j,none⟩) b).trans (h.holds j a),
  λ j a=>⟨by rw[eB (a:=⟨g,j,none⟩) b];exact(h.there j a).1,(World.frozen?_of_block (a:=⟨g,j,none⟩) b).trans (h.there j a).2⟩⟩
theorem drewN(h:Row W g c vs)(n:Nat):Row (W.drewN n) g c vs:=h.ae (aH _) rfl
theorem below(h:Row W g c vs)(a:Below n W W')(b:g<n):Row W' g c vs:=h.ae a.size (a.block g b)
theorem only(h:Row W g c vs)(a:Only B W W')(b:g≠B):Row W' g c vs:=h.ae a.size (a.block g h.lt b)
theorem alloc(h:Row W g c vs)(o:Obj):Row (W.alloc o) g c vs:=h.ae (by simp) (Below.heap_alloc W o g h.lt)
theorem at'(h:Row W g c vs)(j:Nat)(v:Value)(a:vs[j]?=some v):W.cell? (g,j)=some v:=by
 have b:j<Y vs:=(dz.1 a).1;rw[h.holds j b,a]
theorem free(h:Row W g c vs)(j:Nat)(a:j<c):W.frozen? ⟨g,j,none⟩=false:=(h.there j a).2
theorem take(h:Row W g c vs)(n:Nat):Row W g c (vs.take n):=by
 refine⟨h.lt,by rw[zt];have:=h.le;omega,λ j a=>?_,h.there⟩;rw[zt]at a;rw[h.holds j Z,fT Z]
theorem setCells(h:Row W g c vs)(o:Nat)(m:List Value)(p:o+Y m<=c)(k:List Value)(i:Y k<=c)(n:∀j,j<Y m->k[o+j]?=m[j]?)(f:∀j,j<Y k->j<o\/o+Y m<=j->j<Y vs/\k[j]?=vs[j]?) :
  Row (W.setCells g o m) g c k:=by
 have l:∀j,j<Y m->(W.cell? (g,o+j)).isSome=true:=λ j a=>(h.there _ Z).1;have e:=World.cell?_setCells_in g m o W l;have d:∀j,j<o\/o+Y m<=j->(W.setCells g o m).cell? (g,j)=W.cell? (g,j):=λ j a=>World.cell?_setCells_out g m o W ⟨g,j,none⟩ (λ _ _=>a);refine⟨cB h.lt (Only.setCells m o (Only.refl g W)).size,i,λ j a=>?_,λ j a=>⟨?_,by rw[World.frozen?_setCells];exact(h.there j a).2⟩⟩
 ·by_cases b:j<o\/o+Y m<=j
  ·rw[d j b,h.holds j (f j a b).1,(f j a b).2]
  have:=e (j-o) Z;rw[show o+(j-o)=j from Z]at this;rw[this,<-bK,<-n (j-o) Z,show o+(j-o)=j from Z]
 by_cases b:j<o\/o+Y m<=j
 ·rw[d j b];exact(h.there j a).1
 have:=e (j-o) Z;rw[show o+(j-o)=j from Z]at this;rw[this];rfl
theorem set(h:Row W g c vs)(i:Nat)(v:Value)(e:i<Y vs):Row (W.setCell (g,i) v) g c (vs.set i v):=by
 have d:=h.le;refine h.setCells i [v] (by simp;omega) (vs.set i v) (by simpa using d) (λ j a=>?_) (λ j a b=>?_)
 ·obtain rfl:j=0:=by simpa using a
  simp[e]
 simp only[aV]at a;simp only[gI]at b;refine⟨a,?_⟩;rw[List.getElem?_set_ne Z]
end Row
theorem Km{t tx ty e:TypeId}{i:TypeInfo}(o:P.underlying t=some (.slice e))(p:P.info? e=some i)(D:i.zero=some z)(d:i.size=1)(B:i.bytes<=16)(u:z.cells.size=1)(h:(ao=none/\vs=[]/\c=0)\/∃g,ao=some ⟨g,0,none⟩/\Row W g c vs)(A:0<Y m)(n:Src P 1 tx x (Y m) m W)(C:Y vs+Y m<=1000000000) :
  ∃b f W',(Builtin.append_ #[t,tx] ty #[ad ao (Y vs) c,x]).run P W= .ok (ad (some ⟨b,0,none⟩) (vs++m).length f) W'/\Row W' b f (vs++m)/\((ao=some ⟨b,0,none⟩/\Only b W W')\/(b=W.1.size/\Below W W W')):=by
 rw[zl]
 have q:c<Y vs+Y m->(Builtin.firstCells i.size (Y vs) (ad ao (Y vs) c)).run P W.drew= .ok vs.toArray W.drew ->
   ∃b f W',(Builtin.append_ #[t,tx] ty #[ad ao (Y vs) c,x]).run P W= .ok (ad (some ⟨b,0,none⟩) (Y vs+Y m) f) W'/\Row W' b f (vs++m)/\((ao=some ⟨b,0,none⟩/\Only b W W')\/(b=W.1.size/\Below W W W')):=by
  intro k G;have F:(Y vs+Y m)*i.bytes<=140737488355328:=aT (Nat.mul_le_mul C B) (by decide);have w:=run_append_grow_src (P:=P) W t tx ty e i z o p D ao (Y vs) c vs G x (Y m) m (by rw[d];exact n) k Z (growslice_fits k F);have s:=grownCap_ge W (Y vs+Y m) c e;have r:=World.cell?_alloc_new W.drew ((vs++m).toArray++Builtin.zeroCells z.cells (grownCap W (Y vs+Y m) c e-(Y vs+Y m))) e;refine⟨W.1.size,_,_,w,⟨by simp,by rw[zl];exact s,λ j a=>?_,λ j a=>⟨?_,World.frozen?_alloc_new W.drew _ _ j⟩⟩,al ⟨rfl,(aU W W).drew.alloc (aH _) _⟩⟩
  ·refine Eq.trans (r j) ?_;rw[Array.getElem?_append_left (by simp only[List.size_toArray];exact a),List.getElem?_toArray]
  have E:((vs++m).toArray++Builtin.zeroCells z.cells (grownCap W (Y vs+Y m) c e-(Y vs+Y m))).size=grownCap W (Y vs+Y m) c e:=by
   rw[Array.size_append,List.size_toArray,zl,size_zeroCells,u,xX];omega
  have H:(W.drew.alloc (.cells ((vs++m).toArray++Builtin.zeroCells z.cells (grownCap W (Y vs+Y m) c e-(Y vs+Y m))) e)).cell? (W.1.size,j)=_:=r j;rw[H,Array.getElem?_eq_getElem (by rw[E];exact a)];rfl
 rcases h with⟨rfl,rfl,rfl⟩|⟨g,rfl,h⟩
 ·exact q (by simpa using A) (run_firstCells_none W.drew i.size 0 0 0)
 have I:=h.le;by_cases hf:Y vs+Y m<=c
 ·have l:=run_append_room_src (P:=P) W t tx ty e i o p g 0 (Y vs) c x (Y m) m (by rw[d];exact n) hf
   (λ j a=>by rw[d];exact(h.there _ Z).1) (λ j a=>by rw[d];exact(h.there _ Z).2)
  rw[d,fB,xX]at l;refine⟨g,c,_,l,h.setCells (Y vs) m hf (vs++m) (by rw[zl];exact hf) (λ j a=>?_) (λ j a J=>?_),O ⟨rfl,Only.setCells _ _ (Only.refl _ _)⟩⟩
  ·rw[bZ Z,sw]
  rw[zl]at a;exact⟨Z,by rw[bR Z]⟩
 exact q Z (run_firstCells_some W.drew i.size (Y vs) ⟨g,0,none⟩ (Y vs) c vs (by rw[d,xX]) (λ j v a=>by
  have y:j<Y vs:=(dz.1 a).1;rw[mY,fB];exact(h.holds j y).trans a))
theorem jm{t g e:TypeId}{b d f:Value}{c:World}(j:(Builtin.append_ #[t,g] e #[b,d]).run P w= .ok f c){s x:Operand}(h:o.guard=none)(p:o.op=Op.call {callee:=Callee.builtin Builtin.append,args:= #[s,x],argTypes:= #[t,g]})(l:o.type=e)(n:a.eval s=b)(k:a.eval x=d)(i:wpList P ops Q rest (a.put o.dst f) c) :
  wpList P ops Q (o::rest) a w:=by
 refine wpList_plain h λ K m=>?_;subst l;unfold Oper.wp;simp[execOp,p,resolve,invoke,builtin,n,k,j,Result.andThen];exact m _ _ i
end UK
open Go.RowKit
namespace UK
theorem Ee(y:List UInt8)(n m:Nat)(s:List UInt8)(b:Y s=m)(h:n+m<=Y y):(wr y n s).take (n+m)=y.take n++s:=by
 unfold wr;have a:(y.take n).length=n:=by rw[zt];omega
 rw[List.take_append,a,fQ (l:=y.take n) Z,show n+m-n=m from Z,List.take_append,fQ (l:=s) Z,b,l7,kU,jl]
theorem bG(s:List UInt8):(cellsOf s).length=Y s:=by simp[cellsOf]
theorem wh{t tn ty e:TypeId}{i:TypeInfo}{k kn:IntKind}(r:P.underlying t=some (.slice e))(E:P.underlying tn=some (.int kn))(s:P.info? e=some i)(q:i.zero=some (V .u8 0))(o:i.size=1)(u:i.bytes=1){a:Nat}{x:List UInt8}(h:aF W B y)(L:Y y=a)(M:Y x<=a)(p:y.take (Y x)=x)(n:Nat)(Q:0<n)(N:Y x+n<=100000000) :
  ∃d bc' f W',(Builtin.append_ #[t,tn] ty #[ad B (Y x) a,V k n]).run P W= .ok (ad (some ⟨d,0,none⟩) (Y x+n) bc') W'/\aF W' d f/\Y f=bc'/\Y x+n<=bc'/\f.take (Y x+n)=x++bM n/\((d=B/\Only B W W')\/(d=W.1.size/\Below W W W')):=by
 have w:n≠0:=Z
 have D:IntKind.i64.wrap (n:Int)=n:=by rw[dM];omega
 have I:¬(9223372036854775807<((Y x:Int)+(n:Int))):=Z
 have A:¬(281474976710656<(n:Int)):=Z
 have z:¬((n:Int)<0):=Z
 have C:(cellsOf (bM n)).length=n:=by rw[bG,kr]
 by_cases hf:Y x+n<=a
 ·have g:=run_storeCells_cells (P:=P) B (Y x) (cellsOf (bM n)) 0 W (by
   intro j c;rw[C]at c;rw[kg,h.cell Z];rfl) (by
   intro j c;rw[C]at c;rw[kg];exact h.free Z) (by
   intro v m;simp only[cellsOf,bL]at m;obtain⟨b,_,rfl⟩:=m;rfl)
  rw[show cellsOf (bM n)=(Builtin.zeroCells (V .u8 0).cells n).toList from(Pd n).symm]at g;refine⟨B,a,wr y (Y x) (bM n),W.setCells B (Y x) (cellsOf (bM n)),?_,h.setCells _ _ (by rw[kr];omega),by rw[jF _ _ _ (by rw[kr];omega)];exact L,hf,?_,O ⟨rfl,Only.setCells _ _ (Only.refl _ _)⟩⟩
  ·rw[show cellsOf (bM n)=(Builtin.zeroCells (V .u8 0).cells n).toList from(Pd n).symm];simp only[kg]at g;simp[Builtin.append_,run_underlying r,run_underlying E,sizeOf,typeInfo,zeroValue,s,q,o,u,asInt,asIntOf,D,w,z,A,hf,mY,g]
  rw[Ee y (Y x) n (bM n) (kr n) Z,p]
 have H:¬(281474976710656<Builtin.nextslicecap (Y x+n) a):=by
  have:=growslice_fits (show a<Y x+n from Z) (show(Y x+n)*1<=140737488355328 from Z);omega
 have J:(Builtin.firstCells 1 (Y x) (ad B (Y x) a)).run P W.drew= .ok (cellsOf x).toArray W.drew:=
  run_firstCells_some W.drew 1 (Y x) ⟨B,0,none⟩ (Y x) a (cellsOf x) (by rw[bG,xX]) (λ j v c=>by
   have l:j<Y x:=by have:=(dz.1 c).1;rwa [bG]at this
   rw[mY,fB,h.drew.cell Z]
   have K:nth y j=nth x j:=by
    unfold nth;rw[fV,fV]
    conv=>rhs;rw[<-p]
    rw[fT l]
   rw[K,<-ff x j l];unfold qE;rw[List.getElem?_toArray];exact c)
 have F:=grownCap_ge W (Y x+n) a e;refine⟨W.1.size,grownCap W (Y x+n) a e,x++bM (grownCap W (Y x+n) a e-Y x),W.drew.alloc (.cells (qE (x++bM (grownCap W (Y x+n) a e-Y x))) e),?_,?_,?_,F,?_,al ⟨rfl,(aU W W).drew.alloc (aH _) _⟩⟩
 ·have rG:(cellsOf x).toArray++(Builtin.zeroCells (V .u8 0).cells n++Builtin.zeroCells (V .u8 0).cells (grownCap W (Y x+n) a e-(Y x+n)))=qE (x++bM (grownCap W (Y x+n) a e-Y x)):=by
   apply Array.ext';rw[Array.toList_append,Array.toList_append,Pd,Pd];unfold qE cellsOf bM;simp only[dI,List.map_replicate,List.replicate_append_replicate];rw[show n+(grownCap W (Y x+n) a e-(Y x+n))=grownCap W (Y x+n) a e-Y x from Z]
  rw[<-rG];unfold grownCap at *;simp[Builtin.append_,run_underlying r,run_underlying E,sizeOf,typeInfo,zeroValue,s,q,o,u,asInt,asIntOf,D,w,z,A,hf,I,H,Question.forced,J,newRow]
 ·refine⟨e,(0,0),?_,λ i _ G=>absurd G.2 (jI _)⟩;show(W.drew.1.push _)[W.1.size]?=_;rw[show W.1.size=W.drew.1.size from rfl,qO]
 ·rw[zl,kr];omega
 rw[List.take_append,fQ Z,show Y x+n-Y x=n from Z];unfold bM;rw[List.take_replicate,gV Z]
theorem J8{t ty e:TypeId}{i:TypeInfo}(m:P.underlying t=some (.slice e))(C:P.info? e=some i)(B:i.zero=some z)(p:i.size=1)(w:i.bytes<=16)(n:z.cells.size=1)(h:(ao=none/\vs=[]/\c=0)\/∃g,ao=some ⟨g,0,none⟩/\Row W g c vs)(v:Value)(s:v.oneCell'=true)(x:Y vs+1<=1000000000) :
  ∃d f W',(Builtin.append_ #[t,t] ty #[ad ao (Y vs) c,ad W 1 1]).run P (W.alloc (.cells #[v] e))= .ok (ad (some ⟨d,0,none⟩) (Y vs+1) f) W'/\Row W' d f (vs++[v])/\Only d W W'/\(ao=some ⟨d,0,none⟩\/W.1.size<=d):=by
 have q:(ao=none/\vs=[]/\c=0)\/∃g,ao=some ⟨g,0,none⟩/\Row (W.alloc (.cells #[v] e)) g c vs:=by
  rcases h with h|⟨g,k,h⟩
  ·exact O h
  exact al ⟨g,k,h.alloc _⟩
 obtain⟨d,f,W',k,r,o⟩:=Km (P:=P) (t:=t) (tx:=t) (ty:=ty) m C B p w n q (x:=ad W 1 1) (m:=[v]) (by simp) (Src.ofSlice _ m ⟨W.1.size,0,none⟩ 1 1 [v] rfl (λ j u l=>by
   have D:j=0:=by
    by_cases E:j<1
    ·omega
    rw[ja (by simp;omega)]at l;cases l
   subst D;rw[mY,fB];refine(World.cell?_alloc_new W #[v] e 0).trans ?_
   exact l) (λ u y=>by
    obtain rfl:=bu.1 y;exact s)) (by simpa using x)
 rw[zl]at k;refine⟨d,f,W',k,r,?_⟩;rcases o with⟨a,o⟩|⟨a,b⟩
 ·exact⟨((Only.refl d W).alloc _).trans o,O a⟩
 have A:(W.alloc (.cells #[v] e)).1.size=W.1.size+1:=by simp
 exact⟨((Only.refl d W).alloc _).trans (Only.of_below b),al (by rw[a,A];omega)⟩
end UK
open Go.RowKit
namespace UK
def ay(W:World)(g:Nat)(d:Array Value):Prop:=∃t,W.1[g]?=some (.cells d t (0,0))
namespace ay
theorem new(W:World)(d:Array Value)(t:TypeId):ay (W.alloc (.cells d t)) W d:=⟨t,by
 show(W.1.push _)[W.1.size]?=_;rw[qO]⟩
theorem lt(h:ay W g d):g<W.1.size:=by
 obtain⟨t,a⟩:=h;exact(Array.getElem?_eq_some_iff.1 a).1
theorem ae(h:ay W g d)(b:W'.1[g]?=W.1[g]?):ay W' g d:=by
 obtain⟨t,a⟩:=h;exact⟨t,b.trans a⟩
theorem below(h:ay W g d)(b:Below n W W')(a:g<n):ay W' g d:=h.ae (b.block g a)
theorem next(h:ay W g d)(a:Below W W W'):ay W' g d:=h.below a h.lt
theorem only(h:ay W g d)(b:Only B W W')(a:g≠B):ay W' g d:=h.ae (b.block g h.lt a)
theorem alloc(h:ay W g d)(o:Obj):ay (W.alloc o) g d:=h.ae (Below.heap_alloc W o g h.lt)
theorem far(h:ay W g d){b j:Nat}(v:Value)(a:g≠b):ay (W.setCell (b,j) v) g d:=h.ae (Below.heap_setCell W _ v g a)
theorem set(h:ay W g d)(j:Nat)(v:Value):ay (W.setCell (g,j) v) g (d.set! j v):=by
 obtain⟨t,a⟩:=h;refine⟨t,?_⟩;simp only[World.setCell,Array.getElem?_modify,if_true,a,Option.map_some]
 congr 2
theorem cell(h:ay W g d)(j:Nat)(v:Value)(a:d[j]?=some v):W.cell? (g,j)=some v:=by
 obtain⟨t,b⟩:=h;unfold World.cell?;simp only[b];exact a
theorem free(h:ay W g d)(j:Nat):W.frozen? ⟨g,j,none⟩=false:=by
 obtain⟨t,a⟩:=h;unfold World.frozen?;simp only[a];simp
theorem row(h:ay W g d):Row W g d.size d.toList:=by
 refine⟨h.lt,by simp,λ j a=>?_,λ j a=>⟨?_,h.free j⟩⟩
 ·have b:j<d.size:=by simpa using a
  rw[h.cell j d[j] (Array.getElem?_eq_getElem b),Array.getElem?_toList,Array.getElem?_eq_getElem b]
 rw[h.cell j d[j] (Array.getElem?_eq_getElem a)];rfl
theorem load{a:TypeId}{b:TypeDesc}(h:ay W g d)(e:P.underlying a=some b)(hd:(match b with| .struct _| .array _ _=>true|_=>false)=true)(c:(P.info? a).map (·.size)=some d.size) :
  (loadVar a ⟨g,0,none⟩).run P W= .ok (.agg d) W:=by
 obtain⟨t,f⟩:=h;exact run_loadVar_row W g t a d (0,0) b f e hd c
end ay
theorem Yv{ty:TypeId}(h:e.results= #[.cell p ty])(tmps:Array Value){a:TypeDesc}(b:ay w g d)(c:tmps.getD p undef=aq g)(i:P.underlying ty=some a)(hd:(match a with| .struct _| .array _ _=>true|_=>false)=true)(f:(P.info? ty).map (·.size)=some d.size) :
  (results e tmps).run P w= .ok (.agg d) w:=by
 obtain⟨t,b⟩:=b;exact results_cell_row h tmps w g t d (0,0) a c b i hd f
theorem Uf{u:Tmp}{a:TypeId}(h:e.results= #[.cell p a,.tmp u])(tmps:Array Value){b:TypeDesc}(k:ay w g d)(c:tmps.getD p undef=aq g)(j:P.underlying a=some b)(hd:(match b with| .struct _| .array _ _=>true|_=>false)=true)(f:(P.info? a).map (·.size)=some d.size) :
  (results e tmps).run P w= .ok (a9 #[.agg d,tmps.getD u undef]) w:=by
 have i:tmps[p]?.getD undef=aq g:=by simpa using c
 simp[results,h,i,asAddr,k.load j hd f]
end UK
end Go.Proofs.YtgpmiliahonaoaaGreatDoor
namespace Go.Proofs.YtgpmiliahonaoaaGreatDoor.UK
open Go.RowKit
variable{B i:Nat}{x:List Bool}
def bl(x:List Bool):Array Value:=(x.map a6).toArray
def Bv(W:World)(B:Nat)(x:List Bool):Prop:=∃e,W.1[B]?=some (.cells (bl x) e (0,0))
def tr(x:List Bool)(i:Nat):Bool:=x.getD i false
namespace Bv
variable{W a:World}
theorem cell(h:Bv W B x)(a:i<Y x):W.cell? (B,i)=some (a6 (tr x i)):=by
 obtain⟨e,b⟩:=h;unfold World.cell?;simp only[b];simp[bl,tr,List.getD,a]
theorem free(h:Bv W B x)(i:Nat):W.frozen? ⟨B,i,none⟩=false:=by
 obtain⟨e,a⟩:=h;unfold World.frozen?;simp only[a];simp
theorem set(h:Bv W B x)(i:Nat)(v:Bool):Bv (W.setCell (B,i) (a6 v)) B (x.set i v):=by
 obtain⟨e,a⟩:=h;refine⟨e,?_⟩;simp only[World.setCell,Array.getElem?_modify,if_true,a,Option.map_some]
 congr 2
 simp[bl,List.map_set]
theorem drewN(h:Bv W B x)(n:Nat):Bv (W.drewN n) B x:=h
end Bv
theorem l6(x:List Bool)(a i:Nat)(v:Bool):tr (x.set a v) i=if a=i/\a<Y x then v else tr x i:=by
 unfold tr List.getD;rw[List.getElem?_set];by_cases h:a=i
 ·subst h;by_cases b:a<Y x
  ·simp[b]
  simp[b]
 simp[h]
theorem G3(W:World)(n:Nat)(e:TypeId)(c:Array Value)(a:c=bl (List.replicate n false)):Bv (W.alloc (.cells c e)) W (List.replicate n false):=by
 refine⟨e,?_⟩;show(W.1.push _)[W.1.size]?=_;rw[qO,a]
theorem nf(n i:Nat):tr (List.replicate n false) i=false:=by
 unfold tr List.getD;rw[List.getElem?_replicate]
 split<;>rfl
end Go.Proofs.YtgpmiliahonaoaaGreatDoor.UK
namespace Go.Proofs.YtgpmiliahonaoaaGreatDoor
open Go.RowKit
variable{W W' w w':World}{g M n c B D p G:Nat}{r u:List Value}{P:Program}{f:Int->Option (List UInt8)}{x y:List UInt8}
section
variable{e h j l m z F H L:Value}
theorem UK.ay.c0(h:UK.ay W g (List.toArray (e::r))):W.cell? g=some e:=h.cell 0 _ (by simp)
theorem UK.ay.d0(h:UK.ay W g (List.toArray (e::r))):∀q,(W.drewN q).cell? g=some e:=λ q=>h.cell 0 _ (by simp)
theorem UK.ay.c1(a:UK.ay W g (List.toArray (e::h::r))):W.cell? (g,1)=some h:=a.cell 1 _ (by simp)
theorem UK.ay.d1(a:UK.ay W g (List.toArray (e::h::r))):∀q,(W.drewN q).cell? (g,1)=some h:=λ q=>a.cell 1 _ (by simp)
theorem UK.ay.c2(a:UK.ay W g (List.toArray (e::h::j::r))):W.cell? (g,2)=some j:=a.cell 2 _ (by simp)
theorem UK.ay.d2(a:UK.ay W g (List.toArray (e::h::j::r))):∀q,(W.drewN q).cell? (g,2)=some j:=λ q=>a.cell 2 _ (by simp)
theorem UK.ay.c3(a:UK.ay W g (List.toArray (e::h::j::l::r))):W.cell? (g,3)=some l:=a.cell 3 _ (by simp)
theorem UK.ay.d3(a:UK.ay W g (List.toArray (e::h::j::l::r))):∀q,(W.drewN q).cell? (g,3)=some l:=λ q=>a.cell 3 _ (by simp)
theorem UK.ay.c4(a:UK.ay W g (List.toArray (e::h::j::l::m::r))):W.cell? (g,4)=some m:=a.cell 4 _ (by simp)
theorem UK.ay.d4(a:UK.ay W g (List.toArray (e::h::j::l::m::r))):∀q,(W.drewN q).cell? (g,4)=some m:=λ q=>a.cell 4 _ (by simp)
theorem UK.ay.c5(a:UK.ay W g (List.toArray (e::h::j::l::m::z::r))):W.cell? (g,5)=some z:=a.cell 5 _ (by simp)
theorem UK.ay.c6(a:UK.ay W g (List.toArray (e::h::j::l::m::z::F::r))):W.cell? (g,6)=some F:=a.cell 6 _ (by simp)
theorem UK.ay.c7(a:UK.ay W g (List.toArray (e::h::j::l::m::z::F::H::r))):W.cell? (g,7)=some H:=a.cell 7 _ (by simp)
theorem UK.ay.c8(a:UK.ay W g (List.toArray (e::h::j::l::m::z::F::H::L::r))):W.cell? (g,8)=some L:=a.cell 8 _ (by simp)
end
open Go.RowKit Go.ChangeMaps
namespace UK
def kX(P:Program)(K E:TypeId)(W:World)(M n:Nat)(f:Int->Option Int)(c:Nat):Prop:=
 ∃D:DataW Unit,W.ownsMap P K (plainElem P E) M n D/\(∀k,Maps.has D (.int .i64 k)=(f k).isSome)/\(∀k v,f k=some v->D.atKey (.int .i64 k) (.lit (.int .i64 0))= .lit (.int .i64 v))/\Maps.size D=c
namespace kX
variable{K E t:TypeId}{f:Int->Option Int}
theorem new(W:World):kX P K E (W.alloc (.map #[] 0)) W 0 (λ _=>none) 0:=
 ⟨.map [],World.ownsMap_made _ _ _ _,λ _=>rfl,(λ _ _ h=>by cases h),rfl⟩
theorem lt(h:kX P K E W M n f c):M<W.1.size:=by
 obtain⟨D,h,_⟩:=h;exact h.lt
theorem ae(h:kX P K E W M n f c)(e:W'.1[M]?=W.1[M]?):kX P K E W' M n f c:=by
 obtain⟨D,⟨i,j,b,d,g,a⟩,r⟩:=h;exact⟨D,⟨i,j,e.trans b,d,g,a⟩,r⟩
theorem only(h:kX P K E W M n f c)(b:Only B W W')(a:M≠B):kX P K E W' M n f c:=h.ae (b.block M h.lt a)
theorem get(h:kX P K E W M n f c)(i:P.underlying K=some (.int .i64))(g:P.underlying E=some (.int .i64))(j:P.underlying t=some (.map K E))(r:∀w,(zeroValue E).run P w= .ok (.int .i64 0) w)(k:Int)(m:(Lit.int .i64 k).wf=true) :
  (Instr.lookup t (.map (some M)) (.int .i64 k) true).run P W= .ok (.tuple #[.int .i64 ((f k).getD 0),.bool (f k).isSome]) W:=by
 obtain⟨D,h,e,p,_⟩:=h;obtain⟨v,s,l,q⟩:=h.look_ok (Maps.int_keyed i) j (r W) (plainElem_int g (by decide)) (Maps.keyOf_int_mk i m);obtain⟨a,rfl,d,_⟩:=plainElem_int_inv g q;simp only[Prod.mk.injEq]at d;rw[l,e k]
 cases hf:f k with
 | none=>
  have o:Maps.has D (.int .i64 k)=false:=by rw[e k,hf];rfl
  rw[Maps.atKey_of_not_has o]at d;have:=d.1;simp only[DataW.lit.injEq,Lit.int.injEq,true_and]at this;rw[<-this];rfl
 | some b=>
  rw[p k b hf]at d;have:=d.1;simp only[DataW.lit.injEq,Lit.int.injEq,true_and]at this;rw[<-this];rfl
theorem gq(h:W.mapTurned W' M):Only M W W':=by
 have g:=h;obtain⟨c,d,es',cl',b,rfl⟩:=h;exact⟨rfl,rfl,rfl,Nat.le_of_eq (by simp[setBlock]),λ i _ a=>heap_setBlock_other b _ a⟩
theorem put(h:kX P K E W M n f c)(d:P.underlying K=some (.int .i64))(o:P.underlying E=some (.int .i64))(m:P.underlying t=some (.map K E))(s:n<maxLen)(k v:Int)(q:(Lit.int .i64 k).wf=true)(w:(Lit.int .i64 v).wf=true) :
  ∃W',(Instr.mapUpdate t (.map (some M)) (.int .i64 k) (.int .i64 v)).run P W= .ok () W'/\kX P K E W' M (n+1) (λ j=>if j=k then some v else f j) (if (f k).isSome then c else c+1)/\Only M W W':=by
 obtain⟨D,h,g,u,x⟩:=h;obtain⟨W',p,l,r⟩:=h.store (Maps.int_keyed d) m s (Maps.keyOf_int_mk d q) (plainElem_int o w);have i:WideAt.IsKeyLit (.int .i64 k):=trivial;refine⟨W',p,⟨_,l,λ j=>?_,λ j b a=>?_,?_⟩,gq r⟩
 ·by_cases e:j=k
  ·subst e;rw[Maps.has_put_same h.isMap i];simp
  rw[Maps.has_put_other (by simpa using e),g j];show _=(if j=k then some v else f j).isSome;rw[aE e]
 ·replace a:(if j=k then some v else f j)=some b:=a;by_cases e:j=k
  ·subst e;rw[be rfl]at a;rw[Maps.atKey_put_same h.isMap i,<-bf a]
  rw[aE e]at a;rw[Maps.atKey_put_other (by simpa using e),u j b a]
 rw[Maps.size_put (h.tidy (Maps.int_keyed d)),g k,x]
theorem del(h:kX P K E W M n f c)(d:P.underlying K=some (.int .i64))(m:P.underlying t=some (.map K E))(k:Int)(p:(Lit.int .i64 k).wf=true)(g:TypeId) :
  ∃W',(Builtin.delete_ #[t,K] g #[.map (some M),.int .i64 k]).run P W= .ok (.tuple #[]) W'/\kX P K E W' M n (λ j=>if j=k then none else f j) (if (f k).isSome then c-1 else c)/\Only M W W':=by
 obtain⟨D,h,i,r,s⟩:=h;obtain⟨W',o,l,q⟩:=h.drop (Maps.int_keyed d) m (Maps.keyOf_int_mk d p) g;refine⟨W',o,⟨_,l,λ j=>?_,λ j b a=>?_,?_⟩,gq q⟩
 ·by_cases e:j=k
  ·subst e;rw[Maps.has_del_same];simp
  rw[Maps.has_del_other (by simpa using e),i j];show _=(if j=k then none else f j).isSome;rw[aE e]
 ·replace a:(if j=k then none else f j)=some b:=a;by_cases e:j=k
  ·rw[be e]at a;cases a
  rw[aE e]at a;rw[Maps.atKey_del_other (by simpa using e),r j b a]
 have:=Maps.size_del (h.tidy (Maps.int_keyed d)) (k:=.int .i64 k);rw[i k,s]at this;by_cases e:(f k).isSome=true
 ·rw[be e]at this ⊢;omega
 rw[aE e]at this ⊢;omega
theorem tight(h:kX P K E W M n f c):kX P K E W M c f c:=by
 obtain⟨D,⟨j,k,g,i,l,d⟩,a,b,e⟩:=h;refine⟨D,⟨j,k,g,i,?_,d⟩,a,b,e⟩;rw[<-e,d];simp[Maps.size,length_sorted]
end kX
def nW(P:Program)(K E:TypeId)(W:World)(M n:Nat)(f:Int->Option (List UInt8))(c:Nat):Prop:=
 ∃D:DataW Unit,W.ownsMap P K (plainElem P E) M n D/\(∀k,Maps.has D (.int .i64 k)=(f k).isSome)/\(∀k v,f k=some v->D.atKey (.int .i64 k) (.lit (.string []))= .lit (.string v))/\Maps.size D=c
namespace nW
variable{K E t:TypeId}
theorem new(W:World):nW P K E (W.alloc (.map #[] 0)) W 0 (λ _=>none) 0:=
 ⟨.map [],World.ownsMap_made _ _ _ _,λ _=>rfl,(λ _ _ h=>by cases h),rfl⟩
theorem lt(h:nW P K E W M n f c):M<W.1.size:=by
 obtain⟨D,h,_⟩:=h;exact h.lt
theorem ae(h:nW P K E W M n f c)(e:W'.1[M]?=W.1[M]?):nW P K E W' M n f c:=by
 obtain⟨D,⟨i,j,b,d,g,a⟩,r⟩:=h;exact⟨D,⟨i,j,e.trans b,d,g,a⟩,r⟩
theorem get(h:nW P K E W M n f c)(i:P.underlying K=some (.int .i64))(g:P.underlying E=some .string)(j:P.underlying t=some (.map K E))(r:∀w,(zeroValue E).run P w= .ok (.string (str [])) w)(k:Int)(m:(Lit.int .i64 k).wf=true) :
  (Instr.lookup t (.map (some M)) (.int .i64 k) true).run P W= .ok (.tuple #[.string (str ((f k).getD [])),.bool (f k).isSome]) W:=by
 obtain⟨D,h,d,p,_⟩:=h;obtain⟨v,u,l,q⟩:=h.look_ok (Maps.int_keyed i) j (r W) (plainElem_string g (by simp[eG])) (Maps.keyOf_int_mk i m);obtain⟨s,rfl,e,_⟩:=plainElem_string_inv g q;simp only[Prod.mk.injEq]at e;rw[l,d k,cH s];have a:=e.1
 cases hf:f k with
 | none=>
  have o:Maps.has D (.int .i64 k)=false:=by rw[d k,hf];rfl
  rw[Maps.atKey_of_not_has o]at a;simp only[DataW.lit.injEq,Lit.string.injEq]at a;rw[<-a];rfl
 | some b=>
  rw[lF]at a;rw[p k b hf]at a;simp only[DataW.lit.injEq,Lit.string.injEq]at a;rw[<-a];rfl
theorem put(h:nW P K E W M n f c)(d:P.underlying K=some (.int .i64))(o:P.underlying E=some .string)(m:P.underlying t=some (.map K E))(s:n<maxLen)(k:Int)(v:List UInt8)(q:(Lit.int .i64 k).wf=true)(w:v.length<=maxLen) :
  ∃W',(Instr.mapUpdate t (.map (some M)) (.int .i64 k) (.string (str v))).run P W= .ok () W'/\nW P K E W' M (n+1) (λ j=>if j=k then some v else f j) (if (f k).isSome then c else c+1)/\Only M W W':=by
 obtain⟨D,h,i,u,x⟩:=h;obtain⟨W',p,g,r⟩:=h.store (Maps.int_keyed d) m s (Maps.keyOf_int_mk d q) (plainElem_string o (s:=str v) (by rw[eG];exact w));rw[lF]at g;have l:WideAt.IsKeyLit (.int .i64 k):=trivial;refine⟨W',p,⟨_,g,λ j=>?_,λ j b a=>?_,?_⟩,kX.gq r⟩
 ·by_cases e:j=k
  ·subst e;rw[Maps.has_put_same h.isMap l];simp
  rw[Maps.has_put_other (by simpa using e),i j];show _=(if j=k then some v else f j).isSome;rw[aE e]
 ·replace a:(if j=k then some v else f j)=some b:=a;by_cases e:j=k
  ·subst e;rw[be rfl]at a;rw[Maps.atKey_put_same h.isMap l,<-bf a]
  rw[aE e]at a;rw[Maps.atKey_put_other (by simpa using e),u j b a]
 rw[Maps.size_put (h.tidy (Maps.int_keyed d)),i k,x]
theorem tight(h:nW P K E W M n f c):nW P K E W M c f c:=by
 obtain⟨D,⟨j,k,g,i,l,d⟩,a,b,e⟩:=h;refine⟨D,⟨j,k,g,i,?_,d⟩,a,b,e⟩;rw[<-e,d];simp[Maps.size,length_sorted]
end nW
end UK
open Go.RowKit
open UK (str)
def tab(i:UInt32):UInt32:= #[0x00000000,0x105ec76f,0x20bd8ede,0x30e349b1,0x417b1dbc,0x5125dad3,0x61c69362,0x7198540d,0x82f63b78,0x92a8fc17,0xa24bb5a6,0xb21572c9,0xc38d26c4,0xd3d3e1ab,0xe330a81a,0xf36e6f75].getD i.toNat 0
def half(c:UInt32):UInt32:=UK.xr (UK.GA c) (tab (UK.pG c))
def RP(c:UInt32)(b:UInt8):UInt32:=half (half (UK.xr c (UK.wide b)))
def zx(c:UInt32)(l:List UInt8):UInt32:=l.foldl RP c
def iP(c:UInt32)(l:List UInt8):UInt32:=UK.nt (zx (UK.nt c) l)
def aJ(c:UInt32):List UInt8:=[UK.nL c 0,UK.nL c 1,UK.nL c 2,UK.nL c 3]
theorem kG(c:UInt32)(l:List UInt8)(k:Nat)(h:k<Y l):zx c (l.take (k+1))=RP (zx c (l.take k)) (UK.nth l k):=by
 rw[List.take_succ_eq_append_getElem h];unfold zx;rw[List.foldl_append];simp[UK.nth,List.getD,h]
def lY(w:World):Prop:=∀c:UInt32,w.cell? ⟨0,(UK.pG c).toNat,none⟩=some (V .u32 ((tab (UK.pG c)).toNat:Int))
theorem pw(c:UInt32)(b:UInt8)(w:World)(a:lY w) :
  Calls prog 272 #[V .u32 c.toNat,V .u8 b.toNat] w λ e w'=>e=aw (V .u32 (RP c b).toNat)/\w=w':=by
 unfold lY at a;have d:=UK.Xj
 go_enter func272,ntmps272
 go_wp2;go_ret
 exact⟨rfl,rfl⟩
theorem l5(c:UInt32)(l:List UInt8)(w:World)(a:lY w)(d:Y l<=maxLen) :
  Calls prog 256 #[V .u32 c.toNat,a8 (str l)] w λ e w'=>e=aw (V .u32 (iP c l).toNat)/\w=w':=by
 unfold maxLen at d
 go_enter func256,ntmps256
 go_wp2
 go_loop [5,11] (λ x i=>∃k:Nat,k<=Y l/\i=V U k/\x=V .u32 (zx (UK.nt c) (l.take k)).toNat) (λ _ i=>Y l-(intOf i).toNat)
 case atStart=>exact⟨0,aR _,rfl,rfl⟩
 obtain⟨k,g,rfl,rfl⟩:=hrel;by_cases b:k<Y l
 ·have f:=zH (kG (UK.nt c) l k b)
  go_wp2_with (go_at_call 272;refine(pw _ _ _ a).mono ?_;rintro e w' ⟨rfl,rfl⟩)
  go_round
  case rel=>exact⟨k+1,Z,by go_num,by rw[f.out]⟩
  case measure=>simp[intOf];omega
 go_wp2;go_ret
 exact⟨by rw[fQ Z];rfl,rfl⟩
theorem zY(W:World)(a b c d:UInt8) :
  (convert 94 9 (ad W 4 4)).run prog (W.alloc (.cells #[V .u8 a.toNat,V .u8 b.toNat,V .u8 c.toNat,V .u8 d.toNat] 5)) =
   .ok (a8 (str [a,b,c,d])) (W.alloc (.cells #[V .u8 a.toNat,V .u8 b.toNat,V .u8 c.toNat,V .u8 d.toNat] 5)):=by
 have h:=run_convert_bytes_back (P:=prog) (W.alloc (.cells #[V .u8 a.toNat,V .u8 b.toNat,V .u8 c.toNat,V .u8 d.toNat] 5)) 94 9 5 ⟨W.1.size,0,none⟩ 4 [a,b,c,d] underlying94 underlying5 underlying9;refine h (λ j f=>?_);have e:j<4:=by simpa using f
 match j,e with
 | 0,_|1,_|2,_|3,_=>simp[Addr.add,World.cell?,World.alloc,-World.alloc_eq]
theorem eO(c:UInt32)(w:World) :
  Calls prog 205 #[V .u32 c.toNat] w λ e w'=>e=aw (a8 (str (aJ c)))/\Below w w w':=by
 have a:=zY
 go_enter func205,ntmps205
 go_wp2;go_ret
 exact⟨rfl,(aU _ _).alloc (aH _) _⟩
def dS(l:List UInt8):UInt32:=
 UK.jZ (UK.jZ (UK.jZ (UK.wide (UK.nth l 0)) (UK.shl (UK.wide (UK.nth l 1)) 1)) (UK.shl (UK.wide (UK.nth l 2)) 2)) (UK.shl (UK.wide (UK.nth l 3)) 3)
theorem BY(l:List UInt8)(w:World)(h:Y l=4) :
  Calls prog 255 #[a8 (str l)] w λ e w'=>e=aw (a9 #[V .u32 (dS l).toNat,a6 true])/\∃n,w'=w.drewN n:=by
 have a:(0:Int)<Y l:=Z
 have a:(1:Int)<Y l:=Z
 have a:(2:Int)<Y l:=Z
 have a:(3:Int)<Y l:=Z
 have b:((Y l:Int)==4)=true:=by rw[h];rfl
 clear h
 go_enter func255,ntmps255
 go_wp2
 go_quiet (fail)
 go_wp2;go_ret2
 exact⟨rfl,_,rfl⟩
theorem lY.lt(h:lY w):0 <w.1.size:=by
 have a:=h 0;unfold World.cell? at a;by_cases b:0 <w.1.size
 ·exact b
 rw[Array.getElem?_eq_none Z]at a;cases a
theorem lY.below(h:lY w)(a:Below w w w'):lY w':=λ c=>by
 rw[a.cell (p:=⟨_,_,none⟩) h.lt];exact h c
theorem lY.drewN(h:lY w)(n:Nat):lY (w.drewN n):=λ c=>h c
theorem add_zero(l:List UInt8)(w:World)(a:lY w)(b:Y l<=maxLen) :
  Calls prog 256 #[V .u32 0,a8 (str l)] w λ e w'=>e=aw (V .u32 (iP 0 l).toNat)/\w=w':=
 l5 0 l w a b
theorem RQ(l:List UInt8)(w:World)(a:lY w)(b:Y l<=maxLen) :
  Calls prog 206 #[a8 (str l)] w λ e w'=>e=aw (V .u32 (iP 0 l).toNat)/\w=w':=by
 go_enter func206,ntmps206
 go_wp2_with (go_at_call 256;refine(add_zero _ _ a b).mono ?_;rintro e w' ⟨rfl,rfl⟩)
 go_ret;exact⟨rfl,rfl⟩
def kh(l:List UInt8):Bool:=decide (4<=Y l/\dS (l.drop (Y l-4))=iP 0 (l.take (Y l-4)))
def yel(l:List UInt8):List UInt8:=if kh l then l.take (Y l-4) else []
def b1(x:UInt32):UInt32:=(x >>> 1) ^^^(if x.toNat%2=1 then UK.poly else 0)
theorem RS{a b:UInt32}(k:Nat)(d:b.toNat%2^k=0)(c:a.toNat<2^k):(UK.jZ a b).toNat=a.toNat+b.toNat:=by
 rw[UK.jZ,UInt32.toNat_or,Nat.or_comm,nat_join k _ _ d c];omega
theorem Iy(b:UInt8):(UK.wide b).toNat=b.toNat:=by simp[UK.wide]
theorem RU(b:UInt8)(i:Nat)(h:i<4):(UK.shl (UK.wide b) i).toNat=b.toNat*256^i:=by
 have:=b.toNat_lt
 match i,h with
 | 0,_=>simp[UK.shl,UK.wide]
 | 1,_|2,_|3,_=>simp[UK.shl,UK.wide];omega
theorem J0(l:List UInt8):(dS l).toNat=(UK.nth l 0).toNat+256*(UK.nth l 1).toNat+65536*(UK.nth l 2).toNat+16777216*(UK.nth l 3).toNat:=by
 have h:=(UK.nth l 0).toNat_lt;have i:=(UK.nth l 1).toNat_lt;have j:=(UK.nth l 2).toNat_lt;have k:=(UK.nth l 3).toNat_lt;have a:=RU (UK.nth l 1) 1 (by decide);have c:=RU (UK.nth l 2) 2 (by decide);have f:=RU (UK.nth l 3) 3 (by decide);have b:=Iy (UK.nth l 0);unfold dS;have d:=RS (a:=UK.wide (UK.nth l 0)) (b:=UK.shl (UK.wide (UK.nth l 1)) 1) 8 (by rw[a];omega) (by rw[b];omega);have e:=RS (a:=UK.jZ (UK.wide (UK.nth l 0)) (UK.shl (UK.wide (UK.nth l 1)) 1)) (b:=UK.shl (UK.wide (UK.nth l 2)) 2) 16 (by rw[c];omega) (by rw[d,b,a];omega);have g:=RS (a:=UK.jZ (UK.jZ (UK.wide (UK.nth l 0)) (UK.shl (UK.wide (UK.nth l 1)) 1)) (UK.shl (UK.wide (UK.nth l 2)) 2)) (b:=UK.shl (UK.wide (UK.nth l 3)) 3) 24 (by rw[f];omega) (by rw[e,d,b,a,c];omega);rw[g,e,d,b,a,c,f];omega
theorem zj(c:UInt32)(i:Nat):(UK.nL c i).toNat=c.toNat/256^i%256:=by simp[UK.nL]
theorem Fg(c:UInt32):dS (aJ c)=c:=by
 apply UInt32.toNat_inj.1;rw[J0];have a:=c.toNat_lt;show(UK.nL c 0).toNat+256*(UK.nL c 1).toNat+65536*(UK.nL c 2).toNat+16777216*(UK.nL c 3).toNat=_;simp only[zj];omega
open UK (str aF nth Only wr)
open Go.BigFrame
namespace UK
theorem tI(x:List UInt8)(a:Nat)(s:List UInt8)(v:UInt8)(h:a+Y s<Y x):(wr x a s).set (a+Y s) v=wr x a (s++[v]):=by
 unfold wr;have b:(x.take a).length=a:=by rw[zt];omega
 rw[List.set_append_right _ _ Z,b,List.set_append_right _ _ Z,show a+Y s-a-Y s=0 from Z];rw[jY h,z0,cO,zl];rfl
theorem CC(x:List UInt8)(a:Nat)(s:List UInt8)(h:a<=Y x):(wr x a s).take (a+Y s)=x.take a++s:=by
 unfold wr;have b:(x.take a).length=a:=by rw[zt];omega
 rw[<-cO,List.take_left' (by rw[zl,b])]
theorem B2(x:List UInt8)(a:Nat)(s:List UInt8)(k:Nat)(h:a<=Y x):(wr x a s).drop (a+Y s+k)=x.drop (a+Y s+k):=by
 unfold wr;have b:(x.take a).length=a:=by rw[zt];omega
 rw[<-cO,List.drop_append,List.drop_eq_nil_of_le (by rw[zl,b];omega),iQ,zl,b,show a+Y s+k-(a+Y s)=k from Z,lq]
theorem BV(x:List UInt8)(a:Nat)(s t:List UInt8)(h:a<=Y x):wr (wr x a s) (a+Y s) t=wr x a (s++t):=by
 conv=>lhs;unfold wr
 have e:=CC x a s h;have f:=B2 x a s (Y t) h;unfold wr at e f ⊢;rw[e,f,zl,cO,cO,Nat.add_assoc]
theorem oA(x:List UInt8)(a:Nat)(b t:List UInt8)(h:a+Y b<=Y x):wr (wr x (a+Y b) t) a b=wr x a (b++t):=by
 unfold wr;have c:(x.take (a+Y b)).length=a+Y b:=by rw[zt];omega
 rw[qN Z,lK,gV Z,List.drop_append_of_le_length Z,List.drop_eq_nil_of_le Z,iQ,zl,cO,Nat.add_assoc]
theorem RV(x:List UInt8)(a:Nat)(s:List UInt8)(h:a<=Y x):((wr x a s).drop a).take (Y s)=s:=by
 unfold wr;have b:(x.take a).length=a:=by rw[zt];omega
 rw[List.drop_left' b,List.take_left' rfl]
theorem Po(x:List UInt8)(a:Nat):wr x a []=x:=by simp[wr]
def w32(p:Nat):UInt32:=UInt32.ofNat p
theorem J5(p:Nat):(p:Int)%4294967296=((w32 p).toNat:Int):=by
 simp[w32]
theorem zy(h:lY w)(d:Only B w w')(a:0 ≠B):lY w':=λ c=>by
 have b:=h.lt;rw[<-h c];exact eB (a:=⟨0,_,none⟩) (d.block _ b a)
end UK
open UK (w32)
theorem pH(v:UInt32)(k:Nat)(h:k<4):(aJ v).take (k+1)=(aJ v).take k++[UK.nL v k]:=by
 match k,h with
 | 0,_|1,_|2,_|3,_=>rfl
theorem GD(h:aF W B x)(o n c:Nat)(t:4<=n)(w:o+n<=Y x)(s:n<=100000000)(v:UInt32) :
  Calls prog 90 #[ad (B,o) n c,V .u32 v.toNat] W λ e w'=>e=aw (a9 #[])/\aF w' B (UK.wr x o (aJ v))/\Only B W w':=by
 have f:(aJ v).length=4:=rfl
 go_enter func90,ntmps90
 go_wp2_with fail
 go_loopw [5] (λ i g=>∃k:Nat,k<=4/\i=V U k/\aF g B (UK.wr x o ((aJ v).take k))/\Only B W g) (λ i _=>4-(intOf i).toNat)
 case atStart=>exact⟨0,aR _,rfl,by rw[kU,UK.Po];exact h,Only.refl _ _⟩
 obtain⟨k,r,rfl,a,l⟩:=hrel;by_cases p:k<4
 ·have b:((aJ v).take k).length=k:=by rw[zt,f];omega
  have q:(UK.wr x o ((aJ v).take k)).length=Y x:=UK.jF _ _ _ (by rw[b];omega);have u:=a.cell (i:=o+k) Z;have hf:=a.free (i:=o+k) Z;have j:=a.set (o+k) (UK.nL v k);have d:=UK.tI x o ((aJ v).take k) (UK.nL v k) (by rw[b];omega);rw[b]at d;rw[d,<-pH v k p]at j;have m:=l.set (o+k) (V .u8 ((UK.nL v k).toNat:Int));clear d q b f;go_wp2;go_roundw
  case rel=>exact⟨k+1,Z,by go_num,j,m⟩
  case measure=>simp[intOf];omega
 obtain rfl:k=4:=Z
 go_wp2
 go_end0
 exact⟨rfl,a,l⟩
theorem Xl(h:aF W B x)(o n c:Nat)(f:4<=n)(l:o+n<=Y x) :
  Calls prog 115 #[ad (B,o) n c] W λ e w'=>e=aw (V .u32 (dS ((x.drop o).take 4)).toNat)/\Below W W w':=by
 have k:=h.cell (i:=o) Z;have d:=h.cell (i:=o+1) Z;have i:=h.cell (i:=o+2) Z;have g:=h.cell (i:=o+3) Z
 have a:Hid (dS ((x.drop o).take 4)=UK.jZ (UK.jZ (UK.jZ (UK.wide (nth x o)) (UK.shl (UK.wide (nth x (o+1))) 1)) (UK.shl (UK.wide (nth x (o+2))) 2)) (UK.shl (UK.wide (nth x (o+3))) 3)):=by
  show _=_;unfold dS
  have e:∀j,j<4->nth ((x.drop o).take 4) j=nth x (o+j):=λ j b=>by
   simp only[nth,fV];rw[fT b,eP]
  rw[e 0 Z,e 1 Z,e 2 Z,e 3 Z,kg]
 go_enter func115,ntmps115
 go_wp2
 go_quiet (fail)
 go_wp2;go_ret
 exact⟨by rw[a.out]<;>rfl,UK.dN (aU _ _) _⟩
theorem RY(v:UInt32)(w:World) :
  Calls prog 153 #[V .u32 v.toNat] w λ e w'=>e=aw (a8 (str (aJ v)))/\Below w w w':=by
 go_enter func153,ntmps153
 go_wp2_with fail
 have f:aF (w.alloc (.cells #[V .u8 0,V .u8 0,V .u8 0,V .u8 0] 275)) w (UK.bM 4):=by
  refine⟨275,(0,0),?_,λ i _ h=>absurd h.2 (jI _)⟩;show(w.1.push _)[w.1.size]?=_;rw[qO];rfl
 have j:(UK.bM 4).length=4:=UK.kr 4;refine(GD f 0 4 4 Z Z Z v).mono ?_;rintro e k ⟨rfl,a,g⟩;have d:UK.wr (UK.bM 4) 0 (aJ v)=aJ v:=rfl;rw[d]at a;have c:=UK.vB (P:=prog) (src:=94) (dst:=9) underlying94 underlying5 underlying9 a 0 4 4 (by show 0+4<=4;omega);have b:((aJ v).drop 0).take 4=aJ v:=rfl;rw[b]at c;go_wp2;go_ret;exact⟨rfl,((aU _ _).alloc (aH _) _).trans (g.below (by simp) (aH _))⟩
def qP(p:Nat)(s:List UInt8):List UInt8:=aJ (w32 p)++(s++UK.bM (504-Y s))
def jJ(p:Nat)(s:List UInt8):List UInt8:=aJ (iP 0 (qP p s))++qP p s
theorem iG(h2:aF W B x)(n c p:Nat)(s:List UInt8)(hd:W.cell? D=some (ad B n c))(hn:n<=Y x)(hc:n<=c)(aY:n<=100000000)(hp:512*(p+1)<=n)(T:Y s<=504)(ht:lY W)(hB:0 ≠B) :
  Calls prog 152 #[aq D,V U p,a8 (str s)] W λ e w'=>e=aw (a9 #[])/\aF w' B (UK.wr x (512*p) (jJ p s))/\Only B W w':=by
 have L:=zH (show(p:Int)=((w32 p).toNat:Int) by rw[<-UK.J5 p];omega);have hq:(p+1)*512-p*512=512:=Z
 go_enter func152,ntmps152
 go_wp2_with fail
 obtain⟨o,X⟩:∃o,p*512=o:=⟨_,rfl⟩;rw[X];have h0:(p+1)*512-o=512:=Z
 rw[h0];have z:=GD h2 (o+4) 508 (c-o-4) Z Z Z (w32 p);rw[<-L.out]at z;refine z.mono ?_;rintro e P ⟨rfl,t,F⟩;have K:(UK.wr x (o+4) (aJ (w32 p))).length=Y x:=UK.jF _ _ _ (by show o+4+4<=_;omega);have h1:=λ a=>UK.Fh (P:=prog) (dT:=94) (sT:=9) (ty:=3) underlying94 (λ w=>by kernel_rfl) t (o+8) 504 a s T Z;have g:=t.setCells s (o+8) Z;have y:=F.trans (Only.setCells (UK.cellsOf s) (o+8) (Only.refl B P));have E:=UK.jF (UK.wr x (o+4) (aJ (w32 p))) (o+8) s Z;rw[K]at E;obtain⟨h,HW2⟩:∃h,P.setCells B (o+8) (UK.cellsOf s)=h:=⟨_,rfl⟩;rw[HW2]at g y;rw[HW2]at h1;have J:=λ a=>UK.Pp (P:=prog) (t:=94) (ty:=0) underlying94 (λ w=>by kernel_rfl) g (o+(8+Y s)) (512-(8+Y s)) a Z;have b:=g.setCells (UK.bM (512-(8+Y s))) (o+(8+Y s)) (by rw[UK.kr];omega);have m:=y.trans (Only.setCells (UK.cellsOf (UK.bM (512-(8+Y s)))) (o+(8+Y s)) (Only.refl B h));have A:=UK.jF (UK.wr (UK.wr x (o+4) (aJ (w32 p))) (o+8) s) (o+(8+Y s)) (UK.bM (512-(8+Y s))) (by rw[UK.kr];omega);rw[E]at A;obtain⟨f,HW3⟩:∃f,h.setCells B (o+(8+Y s)) (UK.cellsOf (UK.bM (512-(8+Y s))))=f:=⟨_,rfl⟩;rw[HW3]at b m;rw[HW3]at J
 have u:Y s=504->∀a,(Builtin.clear_ #[94] 0 #[ad (B,o) (512-(8+Y s)) a]).run prog h= .ok (a9 #[]) f:=λ e a=>by
  have this:=UK.Pp (P:=prog) (t:=94) (ty:=0) underlying94 (λ w=>by kernel_rfl) g o (512-(8+Y s)) a Z;rw[<-HW3];have e0:512-(8+Y s)=0:=Z
  rw[e0]at this ⊢;exact this
 clear HW2 HW3
 have H:Hid (UK.wr (UK.wr (UK.wr x (o+4) (aJ (w32 p))) (o+8) s) (o+(8+Y s)) (UK.bM (512-(8+Y s)))=UK.wr x (o+4) (qP p s)):=by
  show _=_;have I:(aJ (w32 p)).length=4:=rfl;have Q:=UK.BV x (o+4) (aJ (w32 p)) s Z;have R:=UK.BV x (o+4) (aJ (w32 p)++s) (UK.bM (512-(8+Y s))) Z;rw[I,show o+4+4=o+8 from Z]at Q;rw[zl,I,show o+4+(4+Y s)=o+(8+Y s) from Z]at R;rw[Q,R];unfold qP;rw[cO,show 512-(8+Y s)=504-Y s from Z]
 rw[H.out]at b A
 have q:(qP p s).length=508:=by
  unfold qP;rw[zl,zl,UK.kr];show 4+_=_;omega
 have G:Hid (((UK.wr x (o+4) (qP p s)).drop (o+4)).take 508=qP p s):=by
  have:=UK.RV x (o+4) (qP p s) Z
  rwa [q]at this
 have N:=λ a=>UK.vB (P:=prog) (src:=94) (dst:=9) underlying94 underlying5 underlying9 b (o+4) 508 a Z;rw[G.out]at N
 have C:Hid (UK.wr (UK.wr x (o+4) (qP p s)) o (aJ (iP 0 (qP p s)))=UK.wr x (512*p) (jJ p s)):=by
  show _=_;rw[show 512*p=o from Z];exact UK.oA x o (aJ (iP 0 (qP p s))) (qP p s) (by show o+4<=_;omega)
 have O:=UK.zy ht m hB;clear t g F y K E z L H G;generalize qP p s=r at b A q N C;by_cases h3:c-o=8+Y s
 ·have M:Y s=504:=Z
  have h4:=u M;clear J u M
  go_wp2_with fail
  refine(RQ r f O (by rw[q];decide)).mono ?_;rintro e w' ⟨rfl,rfl⟩
  go_wp2_with fail
  refine(eO (iP 0 r) f).mono ?_;rintro e j ⟨rfl,l⟩;have i:=b.below l b.lt;have v:=λ a=>UK.Fh (P:=prog) (dT:=94) (sT:=9) (ty:=3) underlying94 (λ w=>by kernel_rfl) i o 512 a (aJ (iP 0 r)) (by show 4<=_;omega) (by show o+4<=_;omega);have d:=i.setCells (aJ (iP 0 r)) o (by show o+4<=_;omega);have k:=(m.trans (Only.of_below l)).trans (Only.setCells (UK.cellsOf (aJ (iP 0 r))) o (Only.refl B j));rw[C.out]at d;generalize j.setCells B o (UK.cellsOf (aJ (iP 0 r)))=S at v d k;go_wp2
  go_end0
  exact⟨rfl,d,k⟩
 clear u
 go_wp2_with fail
 refine(RQ r f O (by rw[q];decide)).mono ?_;rintro e w' ⟨rfl,rfl⟩
 go_wp2_with fail
 refine(eO (iP 0 r) f).mono ?_;rintro e j ⟨rfl,l⟩;have i:=b.below l b.lt;have v:=λ a=>UK.Fh (P:=prog) (dT:=94) (sT:=9) (ty:=3) underlying94 (λ w=>by kernel_rfl) i o 512 a (aJ (iP 0 r)) (by show 4<=_;omega) (by show o+4<=_;omega);have d:=i.setCells (aJ (iP 0 r)) o (by show o+4<=_;omega);have k:=(m.trans (Only.of_below l)).trans (Only.setCells (UK.cellsOf (aJ (iP 0 r))) o (Only.refl B j));rw[C.out]at d;generalize j.setCells B o (UK.cellsOf (aJ (iP 0 r)))=S at v d k;go_wp2
 go_end0
 exact⟨rfl,d,k⟩
open Go.RowKit
open UK (str aF nth Only w32)
open Go.BigFrame
def okB(x:List UInt8)(p:Nat):Bool:=decide (dS ((x.drop (512*p)).take 4)=iP 0 ((x.drop (512*p+4)).take 508))&&decide (((dS ((x.drop (512*p+4)).take 4)).toNat:Int)=p)
def Db(x:List UInt8)(p:Nat):List UInt8:=(x.drop (512*p+8)).take 504
def lu(x:List UInt8)(p:Nat):List UInt8:=if okB x p then Db x p else []
theorem RZ(h:okB x p=true):lu x p=Db x p:=by unfold lu;rw[h];rfl
theorem Sa(h:okB x p=false):lu x p=[]:=by unfold lu;rw[h];rfl
theorem mu(h:aF W B x)(n c p:Nat)(hd:W.cell? D=some (ad B n c))(R:n<=Y x)(T:n<=c)(N:n<=100000000)(P:512*(p+1)<=n)(I:lY W) :
  Calls prog 200 #[aq D,V U p] W λ e w'=>e=aw (a9 #[a8 (str (lu x p)),a6 (okB x p)])/\Below W W w':=by
 obtain⟨o,Q⟩:∃o,p*512=o:=⟨_,rfl⟩;have X:(p+1)*512-o=512:=Z
 have K:=λ L=>UK.vB (P:=prog) (src:=94) (dst:=9) underlying94 underlying5 underlying9 h o 4 L Z;have E:((x.drop o).take 4).length=4:=by rw[zt,zd];omega
 have y:((x.drop (o+4)).take 508).length=508:=by rw[zt,zd];omega
 have d:Hid (okB x p=(decide (dS ((x.drop o).take 4)=iP 0 ((x.drop (o+4)).take 508))&&decide (((dS ((x.drop (o+4)).take 4)).toNat:Int)=p))):=by
  show _=_;unfold okB;rw[show 512*p=o from Z]
 have G:Hid (Db x p=(x.drop (o+8)).take 504):=by
  show _=_;unfold Db;rw[show 512*p=o from Z]
 have A:=λ w g=>Xl (W:=w) (B:=B) (x:=x) g (o+4) 508 (c-o-4) Z Z;have v:=λ (w:World) (g:aF w B x)=>UK.vB (P:=prog) (src:=94) (dst:=9) underlying94 underlying5 underlying9 g (o+4) 508 (c-o-4) Z;have C:=λ (w:World) (g:aF w B x)=>UK.vB (P:=prog) (src:=94) (dst:=9) underlying94 underlying5 underlying9 g (o+8) 504 (c-o-8) Z;generalize (x.drop o).take 4=a at K E d;generalize (x.drop (o+4)).take 508=r at v y d;generalize dS ((x.drop (o+4)).take 4)=u at A d;generalize (x.drop (o+8)).take 504=s at C G
 go_enter func200,ntmps200
 go_wp2_with fail
 refine(BY a W E).mono ?_;rintro e w' ⟨rfl,k,rfl⟩;have l:=v _ (h.drewN k)
 go_wp2_with fail
 refine(RQ r _ (I.drewN k) (by rw[y];decide)).mono ?_;rintro e w' ⟨rfl,rfl⟩;have b1:=UK.dN (aU W W) k;have i:=h.drewN k;generalize W.drewN k=J at i b1 l ⊢;generalize dS a=q at d ⊢;generalize iP 0 r=z at d ⊢;by_cases j:q=z
 ·subst j
  go_wp2_with fail
  refine(A J i).mono ?_;rintro e O ⟨rfl,m⟩;have H:=i.below m i.lt;have M:=C _ H;have t:=b1.trans (m.mono b1.size);by_cases f:(u.toNat:Int)=p
  ·have b:Hid (okB x p=true):=by show _=_;rw[d.out,decide_eq_true f];simp
   have F:((u.toNat:Int)==p)=true:=beq_iff_eq.2 f;clear f l;go_wp2;go_ret2;exact⟨by rw[RZ b.out,b.out,G.out]<;>rfl,t⟩
  have b:Hid (okB x p=false):=by show _=_;rw[d.out,decide_eq_false f,Bool.and_false]
  have F:((u.toNat:Int)==p)=false:=beq_eq_false_iff_ne.2 f;clear f l M;go_wp2;go_ret2;exact⟨by rw[Sa b.out,b.out]<;>rfl,t⟩
 have b:Hid (okB x p=false):=by show _=_;rw[d.out,decide_eq_false j,Bool.false_and]
 have F:(q==z)=false:=beq_eq_false_iff_ne.2 j;have S:=UK.G0;clear j;go_wp2;go_ret2;exact⟨by rw[Sa b.out,b.out]<;>rfl,b1⟩
open UK (str aF nth Only w32 Row)
structure Dk where
 x:List UInt8
 aA:Int
 free:List Nat
 gH:List Bool
 rl:Int
 wl:Int
 reads:Int
 puts:Int
variable{d:Dk}
def ints(l:List Nat):List Value:=l.map λ (n:Nat)=>V U (n:Int)
def Dc(l:List Bool):List Value:=l.map a6
theorem iC(l:List Nat):(ints l).length=Y l:=by simp[ints]
theorem Ll(l:List Bool):(Dc l).length=Y l:=by simp[Dc]
def Dk.vals(d:Dk)(B b:Nat)(fo:Option Addr)(c I a:Nat):List Value:=
 [ad B (Y d.x) b,V U d.aA,ad fo (Y d.free) c,ad I (Y d.gH) a,V U d.rl,V U d.wl,V U d.reads,V U d.puts]
structure aK(W:World)(own:Nat->Prop)(D B bc:Nat)(fo:Option Addr)(fc I ic:Nat)(y:List UInt8)(d:Dk):Prop where
 cells:Row W D 8 (d.vals B bc fo fc I ic)
 bytes:aF W B y
 nM:Y y=bc
 le:Y d.x<=bc
 pre:y.take (Y d.x)=d.x
 fI:(fo=none/\d.free=[]/\fc=0)\/∃F,fo=some ⟨F,0,none⟩/\Row W F fc (ints d.free)/\F≠D/\F≠B/\F≠I/\own F
 flags:Row W I ic (Dc d.gH)
 DB:D≠B
 DI:D≠I
 BI:B≠I
 oD:own D
 oB:own B
 oI:own I
 tab:lY W
 iD:¬own 0
def jK(W:World)(own:Nat->Prop)(D:Nat)(d:Dk):Prop:=∃B b fo c I a y,aK W own D B b fo c I a y d
structure Moves(own own':Nat->Prop)(W W':World):Prop where
 os:W'.os=W.os
 tape:W'.tape=W.tape
 output:W'.output=W.output
 size:W.1.size<=W'.1.size
 block:∀k,k<W.1.size->¬own k->W'.1[k]?=W.1[k]?
 owns:∀k,own' k->own k\/W.1.size<=k
namespace Moves
variable{o J o'':Nat->Prop}{A B C:World}
theorem trans(h:Moves o J A B)(k:Moves J o'' B C):Moves o o'' A C:=
 ⟨k.os.trans h.os,k.tape.trans h.tape,k.output.trans h.output,aT h.size k.size,
  λ i b c=>(k.block i (cB b h.size) (λ d=>by rcases h.owns i d with a|a;exact c a;omega)).trans (h.block i b c),
  λ i b=>by
   rcases k.owns i b with a|a
   ·exact h.owns i a
   exact al (aT h.size a)⟩
theorem of_below(h:Below A.1.size A B):Moves o o A B:=⟨h.os,h.tape,h.output,h.size,λ k a _=>h.block k a,λ _ h=>O h⟩
theorem bQ(h:Only G A B)(c:o G):Moves o o A B:=⟨h.os,h.tape,h.output,h.size,λ k a b=>h.block k a (λ e=>b (e▸c)),λ _ h=>O h⟩
theorem below(h:Moves o J A B)(d:n<=A.1.size)(b:∀k,o k->n<=k):Below n A B:=
 ⟨h.os,h.tape,h.output,h.size,λ k c=>h.block k Z (λ a=>by have:=b k a;omega)⟩
end Moves
def iX(n:Int):Int:=if n=0 then -1 else if 0<n then n-1 else n
def jG(n:Int):Int:=if n=0 then 7 else 0
theorem BX(h:Row W D 8 u)(j:Nat)(n:Int)(f:u[j]?=some (V U n))(g: -1<=n/\n<=9223372036854775807) :
  Calls prog 151 #[aq D,aq (D,j)] W λ e w'=>e=aw (V U (jG n))/\Row w' D 8 (u.set j (V U (iX n)))/\Only D W w':=by
 have s:=h.at' j _ f;have l:j<Y u:=(dz.1 f).1;have hf:=h.free j (by have:=h.le;omega);have c:=h.set j (V U (iX n)) l;have d:=(Only.refl D W).set j (V U (iX n));have q:=g.1;have t:=g.2;clear g;by_cases a:n=0
 ·have k:Hid (jG n=7):=by show _=_;unfold jG;rw[be a]
  have b:Hid (iX n= -1):=by show _=_;unfold iX;rw[be a]
  rw[b.out]at c d;rw[k.out,b.out];subst a
  go_enter func151,ntmps151
  go_wp2;go_ret
  exact⟨rfl,c,d⟩
 have r:(n==0)=false:=beq_eq_false_iff_ne.2 a;have k:Hid (jG n=0):=by show _=_;unfold jG;rw[aE a]
 rw[k.out];by_cases m:0<n
 ·have b:Hid (iX n=n-1):=by show _=_;unfold iX;rw[aE a,be m]
  rw[b.out]at c d;rw[b.out];clear a
  go_enter func151,ntmps151
  go_wp2;go_ret
  exact⟨rfl,c,d⟩
 have b:Hid (iX n=n):=by show _=_;unfold iX;rw[aE a,aE m]
 have p:u.set j (V U n)=u:=by
  refine List.ext_getElem? (λ i=>?_);by_cases o:i=j
  ·subst o;rw[List.getElem?_set_self l,f]
  rw[List.getElem?_set_ne Z]
 rw[b.out,p];clear a
 go_enter func151,ntmps151
 go_wp2;go_ret
 exact⟨rfl,h,Only.refl _ _⟩
open Go.RowKit
open UK (str aF nth Only w32 Row)
open Go.BigFrame
structure Fit(d:Dk)(au:Nat):Prop where
 len:Y d.x=512*au
 flags:Y d.gH=au
 one:1<=au
 few:au<=60000
 aA:2<=d.aA/\d.aA<=60000/\(au:Int)<=d.aA
 free:∀p,p∈d.free->1<=p/\p<au
 eQ:Y d.free<=au
 rl: -1<=d.rl/\d.rl<=9223372036854775807
 wl: -1<=d.wl/\d.wl<=9223372036854775807
 reads:0<=d.reads/\d.reads<1000000000
 puts:0<=d.puts/\d.puts<1000000000
section
variable{own:Nat->Prop}{bc fc I ic au:Nat}{fo:Option Addr}
theorem aK.below(h:aK W own D B bc fo fc I ic y d)(a:Below W W W'):aK W' own D B bc fo fc I ic y d:=by
 refine⟨h.cells.below a h.cells.lt,h.bytes.below a h.bytes.lt,h.nM,h.le,h.pre,?_,h.flags.below a h.flags.lt,h.DB,h.DI,h.BI,h.oD,h.oB,h.oI,h.tab.below a,h.iD⟩;rcases h.fI with c|⟨F,e,b,r⟩
 ·exact O c
 exact al ⟨F,e,b.below a b.lt,r⟩
theorem aK.drewN(h:aK W own D B bc fo fc I ic y d)(n:Nat):aK (W.drewN n) own D B bc fo fc I ic y d:=h.below (UK.dN (aU _ _) n)
theorem J6(h:aK W own D B bc fo fc I ic y d)(f:Fit d au) :
  Calls prog 74 #[aq D] W λ e w'=>e=aw (V U au)/\w'=W:=by
 have a:=h.cells.at' 0 _ rfl;rw[f.len]at a;have b:=f.few
 go_enter func74,ntmps74
 go_wp2;go_ret
 exact⟨by simp,rfl⟩
theorem fZ(h:aK W own D B bc fo fc I ic y d)(f:Fit d au) :
  Calls prog 24 #[aq D] W λ e w'=>e=aw (V U (d.aA-au+Y d.free))/\∃q,w'=W.drewN q:=by
 have a:=λ q=>(h.drewN q).cells.at' 1 _ rfl;have k:=λ q=>(h.drewN q).cells.at' 2 _ rfl;have c1':=h.cells.at' 1 _ rfl;have c2':=h.cells.at' 2 _ rfl;have b:=f.few;have i:=f.aA.1;have g:=f.aA.2.1;have j:=f.aA.2.2;have c:=f.eQ
 go_enter func24,ntmps24
 go_wp2_with fail
 go_quiet (refine Calls.quiet_of_same (J6 (h.drewN _) f))
 go_wp2;go_ret
 exact⟨rfl,_,rfl⟩
def bF(d:Dk)(au:Nat)(p:Int):Bool:=decide (1<=p/\p<au)&&!(d.gH.getD p.toNat false)
theorem Sc(l:List Bool)(k:Nat)(h:k<Y l):(Dc l)[k]?=some (a6 (l.getD k false)):=by
 simp[Dc,bK h,fV]
theorem Xm(l:List Nat)(k:Nat)(h:k<Y l):(ints l)[k]?=some (V U ((l.getD k 0:Nat):Int)):=by
 simp[ints,bK h,fV]
theorem zB(h:aK W own D B bc fo fc I ic y d)(f:Fit d au)(p:Int) :
  Calls prog 121 #[aq D,V U p] W λ e w'=>e=aw (a6 (bF d au p))/\∃q,w'=W.drewN q:=by
 by_cases g:1<=p
 ·by_cases i:p<au
  ·obtain⟨k,rfl⟩:∃k:Nat,p=k:=⟨p.toNat,Z⟩;have j:k<Y d.gH:=by rw[f.flags];omega
   have o:=h.cells.at' 3 _ rfl;have l:=h.flags.at' k _ (Sc d.gH k j);have c:Hid (bF d au k=!(d.gH.getD k false)):=by show _=_;unfold bF;rw[decide_eq_true ⟨g,i⟩,Int.toNat_natCast,Bool.true_and]
   rw[c.out];generalize d.gH.getD k false=b at l;have n:=f.few
   go_enter func121,ntmps121
   go_wp2_with fail
   refine(J6 h f).mono ?_;rintro e w' ⟨rfl,rfl⟩;go_wp2;go_ret;exact⟨rfl,0,rfl⟩
  have c:Hid (bF d au p=false):=by show _=_;unfold bF;rw[decide_eq_false (λ a=>i a.2)];rfl
  rw[c.out];have m:(au:Int)<=p:=Z
  clear i
  go_enter func121,ntmps121
  go_wp2_with fail
  refine(J6 h f).mono ?_;rintro e w' ⟨rfl,rfl⟩;go_wp2;go_ret;exact⟨rfl,0,rfl⟩
 have c:Hid (bF d au p=false):=by show _=_;unfold bF;rw[decide_eq_false (λ a=>g a.1)];rfl
 rw[c.out];have m:p<1:=Z
 clear g
 go_enter func121,ntmps121
 go_wp2;go_ret
 exact⟨rfl,0,rfl⟩
def tN(d:Dk)(i:Nat):List UInt8:=aJ (if i=0 then w32 4294967295 else w32 (d.free.getD (i-1) 0))
theorem pI(h:aK W own D B bc fo fc I ic y d)(f:Fit d au)(i:Nat)(l:i<=Y d.free) :
  Calls prog 154 #[aq D,V U i] W λ e w'=>e=aw (a8 (str (tN d i)))/\Below W W w':=by
 by_cases j:i=0
 ·subst j;have g:Hid (tN d 0=aJ (w32 4294967295)):=rfl;have a:=λ w=>RY (w32 4294967295) w;rw[show((w32 4294967295).toNat:Int)=4294967295 from rfl]at a
  go_enter func154,ntmps154
  go_wp2_with fail
  refine(a _).mono ?_;rintro e w' ⟨rfl,b⟩;go_wp2;go_ret;exact⟨by rw[g.out]<;>rfl,b⟩
 obtain⟨k,rfl⟩:∃k,i=k+1:=⟨i-1,Z⟩;have g:Hid (tN d (k+1)=aJ (w32 (d.free.getD k 0))):=by show _=_;unfold tN;rw[aE j,Nat.add_sub_cancel]
 have s:=h.cells.at' 2 _ rfl;rcases h.fI with⟨_,hf,_⟩|⟨F,rfl,n,_⟩
 ·rw[hf]at l;simp at l
 have m:=n.at' k _ (Xm d.free k Z);have c:=f.free (d.free.getD k 0) (by rw[fV,bK Z];exact List.getElem_mem _);have p:=f.few;obtain⟨q,o⟩:∃q,Hid (d.free.getD k 0=q):=⟨_,rfl⟩;rw[o.out]at m c g;have a:=λ w=>RY (w32 q) w;rw[show((w32 q).toNat:Int)=q by rw[<-UK.J5 q];omega]at a;have v:=c.1;have u:=c.2;have t:k<60000:=by have:=f.eQ;omega
 have r:k<Y d.free:=Z
 clear c j
 go_enter func154,ntmps154
 go_wp2_with fail
 refine(a _).mono ?_;rintro e w' ⟨rfl,b⟩;go_wp2;go_ret;exact⟨by rw[g.out]<;>rfl,b⟩
end
theorem UK.Lm(y:List UInt8)(a n:Nat)(s:List UInt8)(h:a+Y s<=n)(f:n<=Y y):(UK.wr y a s).take n=UK.wr (y.take n) a s:=by
 unfold UK.wr;have c:(y.take a).length=a:=by rw[zt];omega
 have b:(y.take a).take n=y.take a:=by rw[lK,Nat.min_eq_right Z]
 have e:s.take (n-a)=s:=fQ Z;have d:(y.take n).take a=y.take a:=by rw[lK,gV Z]
 rw[List.take_append,c,List.take_append,b,e,d,List.drop_take,show n-a-Y s=n-(a+Y s) from Z]
section
variable{own:Nat->Prop}{bc fc I ic au:Nat}{fo:Option Addr}{d':Dk}
theorem aK.Lp(h:aK W own D B bc fo fc I ic y d):0 ≠D:=λ e=>h.iD (e▸h.oD)
theorem aK.Xn(h:aK W own D B bc fo fc I ic y d):0 ≠B:=λ e=>h.iD (e▸h.oB)
theorem aK.gW(h:aK W own D B bc fo fc I ic y d)(k:Row W' D 8 (d'.vals B bc fo fc I ic))(f:Only D W W')(g:d'.x=d.x)(hf:d'.free=d.free)(j:d'.gH=d.gH):aK W' own D B bc fo fc I ic y d':=by
 refine⟨k,f.bytes h.bytes (λ e=>h.DB e.symm),h.nM,by rw[g];exact h.le,by rw[g];exact h.pre,?_,by rw[j];exact h.flags.only f (λ e=>h.DI e.symm),h.DB,h.DI,h.BI,h.oD,h.oB,h.oI,UK.zy h.tab f h.Lp,h.iD⟩;rcases h.fI with⟨a,b,c⟩|⟨F,e,r,i,l,n,m⟩
 ·exact O ⟨a,by rw[hf];exact b,c⟩
 exact al ⟨F,e,by rw[hf];exact r.only f i,i,l,n,m⟩
theorem aK.Lr(h:aK W own D B bc fo fc I ic y d)(a:Nat)(s:List UInt8)(o:aF W' B (UK.wr y a s))(f:Only B W W')(i:a+Y s<=Y d.x):aK W' own D B bc fo fc I ic (UK.wr y a s) {d with x:=UK.wr d.x a s}:=by
 have p:=h.le;have m:=h.nM;have g:=UK.jF d.x a s i;refine⟨?_,o,by rw[UK.jF _ _ _ Z];exact m,by show(UK.wr d.x a s).length<=_;omega,?_,?_,h.flags.only f (λ e=>h.BI e.symm),h.DB,h.DI,h.BI,h.oD,h.oB,h.oI,UK.zy h.tab f h.Xn,h.iD⟩
 ·have:=h.cells.only f h.DB;unfold Dk.vals at this ⊢;show Row W' D 8 [ad B (UK.wr d.x a s).length bc,_,_,_,_,_,_,_];rw[g];exact this
 ·show(UK.wr y a s).take (UK.wr d.x a s).length=_;rw[g,UK.Lm y a _ s i Z,h.pre]
 rcases h.fI with⟨a,b,c⟩|⟨F,e,r,l,j,k,n⟩
 ·exact O ⟨a,b,c⟩
 exact al ⟨F,e,r.only f j,l,j,k,n⟩
structure Dat(W w:World)(own:Nat->Prop)(D B bc:Nat)(fo:Option Addr)(fc I ic:Nat)(y:List UInt8)(d:Dk)(au:Nat):Prop where
 at_:aK w own D B bc fo fc I ic y d
 fit:Fit d au
 moves:Moves own own W w
theorem Dat.below(h:Dat W w own D B bc fo fc I ic y d au)(a:Below w w w'):Dat W w' own D B bc fo fc I ic y d au:=⟨h.at_.below a,h.fit,h.moves.trans (Moves.of_below a)⟩
theorem Dat.drew(h:Dat W w own D B bc fo fc I ic y d au):Dat W w.drew own D B bc fo fc I ic y d au:=h.below (aU _ _).drew
theorem C4(h:Dat W w own D B bc fo fc I ic y d au) :
  Calls prog 74 #[aq D] w λ e w'=>e=aw (V U au)/\w'=w:=J6 h.at_ h.fit
theorem vr(k:Nat)(h:k<=60000):IntKind.u32.wrap (k:Int)=(k:Int):=by
 show(k:Int)%4294967296=k;omega
theorem yc(h:Dat W w own D B bc fo fc I ic y d au)(k:Nat)(c:k<=60000) :
  Calls prog 153 #[V .u32 k] w λ e w'=>e=aw (a8 (str (aJ (w32 k))))/\Dat W w' own D B bc fo fc I ic y d au:=by
 have:=RY (w32 k) w;rw[show((w32 k).toNat:Int)=k by rw[<-UK.J5 k];omega]at this;exact this.mono λ _ _ ⟨a,b⟩=>⟨a,h.below b⟩
theorem Xo(h:Dat W w own D B bc fo fc I ic y d au)(i:Nat)(a:i<=Y d.free) :
  Calls prog 154 #[aq D,V U i] w λ e w'=>e=aw (a8 (str (tN d i)))/\Dat W w' own D B bc fo fc I ic y d au:=
 (pI h.at_ h.fit i a).mono λ _ _ ⟨b,c⟩=>⟨b,h.below c⟩
theorem BZ(p:Nat)(s:List UInt8)(h:Y s<=504):(jJ p s).length=512:=by
 unfold jJ qP;rw[zl,zl,zl,UK.kr];show 4+(4+_)=_;omega
theorem Ls(h:Dat W w own D B bc fo fc I ic y d au)(p:Nat)(s:List UInt8)(n:p<au)(b:Y s<=504) :
  Calls prog 152 #[aq D,V U p,a8 (str s)] w λ e w'=>e=aw (a9 #[])/\∃j,Dat W w' own D B bc fo fc I ic j {d with x:=UK.wr d.x (512*p) (jJ p s)} au:=by
 have f:=h.fit;have k:=f.len;have hf:=f.few;have a:=h.at_;have g:=a.le;have o:=a.nM;have l:=UK.jF d.x (512*p) (jJ p s) (by rw[BZ p s b];omega);refine(iG a.bytes (Y d.x) bc p s (a.cells.at' 0 _ rfl) Z g Z Z b a.tab a.Xn).mono λ _ _ ⟨i,m,c⟩=>⟨i,UK.wr y (512*p) (jJ p s),?_,?_,h.moves.trans (Moves.bQ c a.oB)⟩
 ·exact a.Lr (512*p) (jJ p s) m c (by rw[BZ p s b];omega)
 exact⟨l.trans k,f.flags,f.one,f.few,f.aA,f.free,f.eQ,f.rl,f.wl,f.reads,f.puts⟩
@[go_sem] theorem Fq (v:UInt32):(aJ v).length=4:=rfl
@[go_sem] theorem iI (d:Dk) (i:Nat):(tN d i).length=4:=rfl
def J7(d:Dk)(au:Nat):List UInt8:=[84,65,66,85,76,65,82,49]++(aJ (w32 au)++tN d (Y d.free))
theorem Xp(d:Dk)(au:Nat):(J7 d au).length=16:=rfl
def De(d:Dk)(au:Nat):Dk:=if d.wl=0 then {d with wl:= -1} else {d with wl:=iX d.wl,puts:=d.puts+1,x:=UK.wr d.x 0 (jJ 0 (J7 d au))}
theorem zC(n:Int)(h: -1<=n/\n<=9223372036854775807): -1<=iX n/\iX n<=9223372036854775807:=by
 unfold iX
 split
 ·omega
 split<;>omega
theorem yq(h:aK W own D B bc fo fc I ic y d)(f:Fit d au)(s:d.puts+1<1000000000) :
  Calls prog 85 #[aq D] W λ e w'=>e=aw (V U (jG d.wl))/\jK w' own D (De d au)/\Moves own own W w':=by
 have u:=zH s;clear s;have g:=BX h.cells 5 d.wl rfl f.wl;have L:=f.puts.1;have K:=f.puts.2;by_cases a:d.wl=0
 ·have i:Hid (jG d.wl=7):=by show _=_;unfold jG;rw[be a]
  have C:Hid (iX d.wl= -1):=by show _=_;unfold iX;rw[be a]
  have n:Hid (De d au={d with wl:= -1}):=by show _=_;unfold De;rw[be a]
  rw[i.out,C.out]at g;rw[i.out,n.out];clear a
  go_enter func85,ntmps85
  go_wp2_with fail
  refine g.mono ?_;rintro e j ⟨rfl,k,b⟩;go_wp2;go_ret;exact⟨rfl,⟨B,bc,fo,fc,I,ic,y,h.gW (d':={d with wl:= -1}) k b rfl rfl rfl⟩,Moves.bQ b h.oD⟩
 have i:Hid (jG d.wl=0):=by show _=_;unfold jG;rw[aE a]
 have n:Hid (De d au={d with wl:=iX d.wl,puts:=d.puts+1,x:=UK.wr d.x 0 (jJ 0 (J7 d au))}):=by show _=_;unfold De;rw[aE a]
 rw[i.out]at g;rw[i.out,n.out];clear a
 go_enter func85,ntmps85
 go_wp2_with fail
 refine g.mono ?_;rintro e j ⟨rfl,k,b⟩;have c:=h.gW (d':={d with wl:=iX d.wl}) k b rfl rfl rfl;have x:=zC d.wl f.wl;have v:=c.cells.at' 7 _ rfl;have w:=c.cells.free 7 Z;have p:=c.cells.set 7 (V U (d.puts+1)) (by show 7<8;omega);have m:=(Only.refl D j).set 7 (V U (d.puts+1));have o:=c.gW (d':={d with wl:=iX d.wl,puts:=d.puts+1}) p m rfl rfl rfl;have z:Fit {d with wl:=iX d.wl,puts:=d.puts+1} au:=⟨f.len,f.flags,f.one,f.few,f.aA,f.free,f.eQ,f.rl,x,f.reads,by show 0<=d.puts+1/\_;exact⟨Z,u.out⟩⟩;have l:Dat W (j.setCell (D,7) (V U (d.puts+1))) own D B bc fo fc I ic y {d with wl:=iX d.wl,puts:=d.puts+1} au:=⟨o,z,(Moves.bQ b h.oD).trans (Moves.bQ m h.oD)⟩
 go_wp2_with fail
 generalize j.setCell (D,7) (V U (d.puts+1))=E at l ⊢;have hd:=l.drew;have J:=hd.at_.cells.at' 2 _ rfl;have q:=f.few;have A:0<au:=f.one;clear l c o g v w k p b m
 go_region_with (first
  | (go_at_call 74;refine(C4 hd).mono ?_;rintro e w' ⟨rfl,rfl⟩)
  | (go_at_call 153;rw[vr au q];refine(yc hd au q).mono ?_;rintro e F ⟨rfl,hd⟩;have c2':=hd.at_.cells.at' 2 _ rfl)
  | (go_at_call 154;refine(Xo hd (Y d.free) (aH _)).mono ?_;rintro e G ⟨rfl,hd⟩;have c2':=hd.at_.cells.at' 2 _ rfl)
  | (go_at_call 152;refine(Ls hd 0 (J7 d au) A (by rw[Xp];decide)).mono ?_;rintro e H ⟨rfl,t,r⟩))
 all_goals
  go_wp2;go_ret
  exact⟨rfl,⟨B,bc,fo,fc,I,ic,t,r.at_⟩,r.moves⟩
end
theorem UK.zF(W:World)(a:Array Value)(e:TypeId):Row (W.alloc (.cells a e)) W a.size a.toList:=by
 refine⟨by simp,by simp,λ j b=>?_,λ j b=>⟨?_,World.frozen?_alloc_new W _ _ j⟩⟩
 ·rw[World.cell?_alloc_new W a e j,Array.getElem?_toList]
 rw[World.cell?_alloc_new W a e j,Array.getElem?_eq_getElem b];rfl
theorem Ju(w:World):(Instr.makeSlice 94 (V U 512) (V U 512)).run prog w= .ok (ad w 512 512) (w.alloc (.cells (UK.qE (UK.bM 512)) 5)):=by kernel_rfl
def pK(pages:Int):Int:=min (max pages 2) 60000
theorem Sd(p m:Int)(h:(p<2/\m=2)\/(60000<p/\m=60000)\/(2<=p/\p<=60000/\m=p)):pK p=m:=by
 unfold pK;rcases h with⟨h,rfl⟩|⟨h,rfl⟩|⟨a,b,rfl⟩
 ·rw[Int.max_eq_right Z];rfl
 ·rw[Int.max_eq_left Z,Int.min_eq_right Z]
 rw[Int.max_eq_left Z,Int.min_eq_left Z]
def xS(pages:Int):Dk:={x:=UK.bM 512,aA:=pK pages,free:=[],gH:=[false],rl:= -1,wl:= -1,reads:=0,puts:=0}
def nN(pages:Int):Dk:=De (xS pages) 1
theorem Sg(pages:Int):Fit (xS pages) 1:=by
 refine⟨UK.kr 512,rfl,Z,Z,?_,(λ p h=>absurd h (by simp[xS])),(by simp[xS]),(by simp[xS]),(by simp[xS]),(by simp[xS]),(by simp[xS])⟩;show 2<=pK pages/\pK pages<=60000/\(1:Int)<=pK pages;unfold pK;omega
theorem pJ(w:World):(Instr.makeSlice 140 (V U 1) (V U 1)).run prog w= .ok (ad w 1 1) (w.alloc (.cells #[a6 false] 4)):=by kernel_rfl
def Ps(W:World)(m:Int):World:=
 ((W.alloc (.cells #[ad (some ⟨W.1.size+1,0,none⟩) 512 512,V U m,ad none 0 0,ad (some ⟨W.1.size+1+1,0,none⟩) 1 1,V U (-1),V U (-1),V U 0,V U 0] 142)).alloc (.cells (UK.qE (UK.bM 512)) 5)).alloc (.cells #[a6 false] 4)
theorem Si(W:World)(m:Int):Below W W (Ps W m):=(((aU _ _).alloc (aH _) _).alloc (by simp) _).alloc (by simp;omega) _
theorem Xq(V:World)(x:List UInt8):aF (V.alloc (.cells (UK.qE x) 5)) V.1.size x:=by
 refine⟨5,(0,0),?_,λ i _ h=>absurd h.2 (jI _)⟩;show(V.1.push _)[V.1.size]?=_;rw[qO]
theorem I2(W:World)(m:Int)(a:lY W):aK (Ps W m) (λ k=>W.1.size<=k) W (W.1.size+1) 512 none 0 (W.1.size+1+1) 1 (UK.bM 512) {xS 0 with aA:=m}:=by
 have f:=a.lt;refine⟨?_,?_,UK.kr 512,?_,?_,O ⟨rfl,rfl,rfl⟩,?_,Z,Z,Z,aH _,Z,Z,a.below (Si W m),Z⟩
 ·have d:=((UK.zF W #[ad (some ⟨W.1.size+1,0,none⟩) 512 512,V U m,ad none 0 0,ad (some ⟨W.1.size+1+1,0,none⟩) 1 1,V U (-1),V U (-1),V U 0,V U 0] 142).alloc (.cells (UK.qE (UK.bM 512)) 5)).alloc (.cells #[a6 false] 4);show Row (Ps W m) W 8 [ad (some ⟨W.1.size+1,0,none⟩) (UK.bM 512).length 512,V U m,ad none 0 0,ad (some ⟨W.1.size+1+1,0,none⟩) 1 1,V U (-1),V U (-1),V U 0,V U 0];rw[UK.kr];exact d
 ·refine aF.alloc (B:=W.1.size+1) ?_ _;have b:=Xq (W.alloc (.cells #[ad (some ⟨W.1.size+1,0,none⟩) 512 512,V U m,ad none 0 0,ad (some ⟨W.1.size+1+1,0,none⟩) 1 1,V U (-1),V U (-1),V U 0,V U 0] 142)) (UK.bM 512);have e:(W.alloc (.cells #[ad (some ⟨W.1.size+1,0,none⟩) 512 512,V U m,ad none 0 0,ad (some ⟨W.1.size+1+1,0,none⟩) 1 1,V U (-1),V U (-1),V U 0,V U 0] 142)).1.size=W.1.size+1:=by simp
  rw[e]at b;exact b
 ·show(UK.bM 512).length<=512;rw[UK.kr];exact aH _
 ·exact dY
 have c:=UK.zF ((W.alloc (.cells #[ad (some ⟨W.1.size+1,0,none⟩) 512 512,V U m,ad none 0 0,ad (some ⟨W.1.size+1+1,0,none⟩) 1 1,V U (-1),V U (-1),V U 0,V U 0] 142)).alloc (.cells (UK.qE (UK.bM 512)) 5)) #[a6 false] 4;have e:((W.alloc (.cells #[ad (some ⟨W.1.size+1,0,none⟩) 512 512,V U m,ad none 0 0,ad (some ⟨W.1.size+1+1,0,none⟩) 1 1,V U (-1),V U (-1),V U 0,V U 0] 142)).alloc (.cells (UK.qE (UK.bM 512)) 5)).1.size=W.1.size+1+1:=by simp
 rw[e]at c;exact c
theorem BW(W:World)(pages:Int)(a:lY W)(m:Int)(c:pK pages=m) :
  Calls prog 85 #[aq W] (Ps W m) λ e w'=>e=aw (V U 0)/\jK w' (λ k=>W.1.size<=k) W (nN pages)/\Below W W w':=by
 subst c;refine(yq (I2 W (pK pages) a) (Sg pages) (by show(0:Int)+1<1000000000;omega)).mono λ _ _ ⟨b,hd,d⟩=>⟨b,hd,(Si W _).trans (d.below (Si W _).size (λ _ h=>h))⟩
theorem GO(W:World)(pages:Int)(c:lY W) :
  Calls prog 34 #[V U pages] W λ e w'=>e=aw (aq W)/\jK w' (λ k=>W.1.size<=k) W (nN pages)/\Below W W w':=by
 have d:=Ju;have f:=pJ;have b:=zH (BW W pages c)
 go_enter func34,ntmps34
 go_wp2_with fail
 ·refine(b.out 60000 (Sd _ _ Z)).mono ?_;rintro e w' ⟨rfl,hd,a⟩;go_wp2;go_ret;exact⟨rfl,hd,a⟩
 ·refine(b.out 2 (Sd _ _ Z)).mono ?_;rintro e w' ⟨rfl,hd,a⟩;go_wp2;go_ret;exact⟨rfl,hd,a⟩
 refine(b.out pages (Sd _ _ Z)).mono ?_;rintro e w' ⟨rfl,hd,a⟩;go_wp2;go_ret;exact⟨rfl,hd,a⟩
