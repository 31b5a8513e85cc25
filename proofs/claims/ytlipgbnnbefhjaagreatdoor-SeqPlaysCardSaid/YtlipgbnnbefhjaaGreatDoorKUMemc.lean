/- Facts on rows of numbers on pages. -/
import Derived.BigQuiet
import Derived.Deep.QuietTactic
import Derived.Laws.IdiomStrings
import Derived.Lib.Hide
import Derived.Outline
import Derived.Test.YtlipgbnnbefhjaaGreatDoorRows
import Derived.WalkKit
import Derived.WalkLawsBesides
import Derived.WalkSpells
import Derived.ChangeSame
import Derived.Deep.Fields
import Derived.Deep.Slices
import Derived.ProofKit
import Derived.Deep.AppendSrc
import Derived.Laws.IdiomCopy
import Derived.Laws.Rows
import Derived.Laws.Tables
import Derived.Lib.LazyBuf
import Derived.OwnWalk
set_option maxRecDepth 100000
set_option maxHeartbeats 8000000
set_option linter.unusedSimpArgs false
namespace Go.Proofs.YtlipgbnnbefhjaaGreatDoor
open Go.RowKit
section
theorem zS.{u}{α:Type u}(l:List α)(i:Nat)(a:α):l.toArray.setIfInBounds i a=(l.set i a).toArray:=List.setIfInBounds_toArray l i a
theorem z0.{u}{α:Type u}{x:α}{xs:List α}{a:α}:(x::xs).set 0 a=a::xs:=rfl
theorem z1.{u}{α:Type u}{x:α}{xs:List α}{i:Nat}{a:α}:(x::xs).set (i+1) a=x::xs.set i a:=rfl
theorem zA{a b:Prop}(x:a)(y:b):a/\b:=⟨x,y⟩
theorem zH{p:Prop}(h:p):RowKit.Hid p:=h
theorem bS{a b c:Nat}(h:a<b)(k:b<=c):a<c:=Nat.lt_of_lt_of_le h k
theorem zl.{u}{α:Type u}{a b:List α}:(a++b).length=a.length+b.length:=List.length_append
theorem zt.{u}{α:Type u}{i:Nat}{l:List α}:(l.take i).length=min i l.length:=List.length_take
theorem zd.{u}{α:Type u}{i:Nat}{l:List α}:(l.drop i).length=l.length-i:=List.length_drop
theorem dn.{fu}:∀{α:Type fu} {i:Nat} {a:α} {l:List α},l[i]?=some a↔∃(h:i<l.length),l[i]=a:=@List.getElem?_eq_some_iff
theorem di.{fu}:∀{α:Type fu} {l:List α} {i:Nat} (h:i<l.length),l[i]?=some l[i]:=@List.getElem?_eq_getElem
theorem bC.{u}:∀{α:Type u} {val FI:α},some val=some FI->val=FI:=@Option.some.inj
theorem aP:∀(B:Nat) (w:World),Below B w w:=@Go.RowKit.Below.refl
theorem aZ:∀(n:Nat),n<=n:=@Nat.le_refl
theorem cB.{fu}:∀{α:Type fu} {a:α} {s t:List α},a∈s++t↔a∈s\/a∈t:=@List.mem_append
theorem fK.{fu}:∀{α:Type fu} {l:List α} {i:Nat} {a:α},l.getD i a=l[i]?.getD a:=@List.getD_eq_getElem?_getD
theorem dw.{u}:∀{α:Type u} {a:α} {ls:List α},(a::ls).length=ls.length+1:=@List.length_cons
theorem fE.{u}:∀{α:Type u} {b:α} (ls:List α) {bs:List α},b∈bs->b∈ls++bs:=@List.mem_append_right
theorem bF.{fu}:∀{α:Type fu} {l₁ l₂:List α},(l₁++l₂).Nodup↔l₁.Nodup/\l₂.Nodup/\∀(a:α),a∈l₁->∀(b:α),b∈l₂->a≠b:=@List.nodup_append
theorem bR.{u}:∀{α:Type u} {a:α} {ls:List α} (bs:List α),a∈ls->a∈ls++bs:=@List.mem_append_left
theorem dF.{fu}:∀{α:Type fu} {l₁ l₂:List α} {i:Nat},l₁.length<=i->(l₁++l₂)[i]?=l₂[i-l₁.length]?:=@List.getElem?_append_right
theorem bB.{u}:∀{α:Type u} {ls:List α} {i:Nat} {a:α},(ls.set i a).length=ls.length:=@List.length_set
theorem aX.{fu}:∀{α:Type fu} {b:α} {l:List α} {a:α},a∈b::l↔a=b\/a∈l:=@List.mem_cons
theorem bQ.{fu}:∀{α:Type fu} {a b:α},a∈[b]↔a=b:=@List.mem_singleton
theorem dM.{fu}:∀{α:Type fu} {l₁ l₂:List α} {i:Nat},i<l₁.length->(l₁++l₂)[i]?=l₁[i]?:=@List.getElem?_append_left
theorem bN:∀(n:Int),IntKind.i64.wrap n=(n+9223372036854775808)%18446744073709551616-9223372036854775808:=@Go.IntKind.wrap_i64
theorem bf:∀{n m k:Nat},n<=m->m<=k->n<=k:=@Nat.le_trans
theorem dH.{u}:∀{α:Type u} (ls bs cs:List α),ls++bs++cs=ls++(bs++cs):=@List.append_assoc
theorem eu.{fu}:∀{α:Type fu} (y:α) {a:α} {l:List α},a∈l->a∈y::l:=@List.mem_cons_of_mem
theorem fA.{fu}:∀{α:Type fu} {a:α} {i:Nat} {l:List α},a∈List.drop i l->a∈l:=@List.mem_of_mem_drop
theorem eZ.{fu}:∀{α:Type fu} {i:Nat} {l:List α},l.length<=i->List.take i l=l:=@List.take_of_length_le
theorem dW.{fu,Iu}:∀{α:Type fu} {β:Type Iu} {f:α->β} {l:List α} {i:Nat},(List.map f l)[i]?=Option.map f l[i]?:=@List.getElem?_map
theorem fe.{fu}:∀{α:Type fu} {l:List α} {i:Nat} {a:α},l[i]?=some a->a∈l:=@List.mem_of_getElem?
theorem fI.{fu}:∀{α:Type fu} {i:Nat} {a:α} {l:List α},a∈List.take i l->a∈l:=@List.mem_of_mem_take
theorem gm.{fu}:∀{α:Type fu} (i:Nat) (l:List α),List.take i l++List.drop i l=l:=@List.take_append_drop
theorem dL.{fu}:∀{α:Type fu} {a:α} {l:List α},(a::l).Nodup↔¬a∈l/\l.Nodup:=@List.nodup_cons
theorem gI.{u}:∀{α:Type u} {a:α},[a].length=1:=@List.length_singleton
theorem iO.{fu}:∀{α:Type fu} {l:List α} {i j:Nat},i<j->(List.take j l)[i]?=l[i]?:=@List.getElem?_take_of_lt
theorem bY:∀(n:Nat),0<=n:=@Nat.zero_le
theorem gN.{u}:∀{α:Type u} {R:α->α->Prop} {a:α} {l:List α},List.Pairwise R (a::l)↔(∀(a':α),a'∈l->R a a')/\List.Pairwise R l:=@List.pairwise_cons
theorem kR.{fu}:∀{α:Type fu} {l₁ l₂:List α} {i:Nat},i<=l₁.length->List.drop i (l₁++l₂)=List.drop i l₁++l₂:=@List.drop_append_of_le_length
theorem gZ.{fu}:∀{α:Type fu} {a:α} {l:List α},a∈a::l:=@List.mem_cons_self
theorem iC.{fu}:∀{α:Type fu} {xs:List α} {i j:Nat},(List.drop i xs)[j]?=xs[i+j]?:=@List.getElem?_drop
theorem gH.{u}:∀{α:Type u} (ls:List α),[]++ls=ls:=@List.nil_append
theorem lZ.{fu}:∀{α:Type fu} {l₁ l₂:List α} {i:Nat},i<=l₁.length->List.take i (l₁++l₂)=List.take i l₁:=@List.take_append_of_le_length
theorem jb.{fu}:∀{α:Type fu} {a:α} {l:List α},a∈l->∃(i:Nat),∃(h:i<l.length),l[i]=a:=@List.getElem_of_mem
theorem ko.{u}:∀{α:Type u} {n:Nat} {a:α},(List.replicate n a).length=n:=@List.length_replicate
theorem kz.{fu}:∀{α:Type fu} {i:Nat} {l:List α},l.length<=i->List.drop i l=[]:=@List.drop_of_length_le
theorem jA.{u}:∀{α:Type u} {a:α} {ls bs:List α},a::ls++bs=a::(ls++bs):=@List.cons_append
theorem gq:∀(n:Nat),0+n=n:=@Nat.zero_add
theorem gT.{fu,Iu}:∀{α:Type fu} {β:Type Iu} {b:β} {f:α->β} {l:List α},b∈List.map f l↔∃(a:α),a∈l/\f a=b:=@List.mem_map
theorem nY.{fu}:∀{α:Type fu} {i:Nat} {l:List α} (h:i<l.length),List.drop i l=l[i]::List.drop (i+1) l:=@List.drop_eq_getElem_cons
theorem jw.{u}:∀{α:Type u} (ls:List α),ls++[]=ls:=@List.append_nil
theorem pE.{fu}:∀{α:Type fu} {l:List α},l.length=0↔l=[]:=@List.length_eq_zero_iff
theorem ny.{fu}:∀{α:Type fu} {l:List α} {i:Nat},l.length<=i->l[i]?=none:=@List.getElem?_eq_none
theorem jr.{fu,Iu}:∀{α:Type fu} {β:Type Iu} {f:α->β} {l₁ l₂:List α},List.map f (l₁++l₂)=List.map f l₁++List.map f l₂:=@List.map_append
theorem jc:∀(n:Nat),¬n<n:=@Nat.lt_irrefl
theorem qJ.{fu}:∀{α:Type fu} {a:α} {i:Nat} {l:List α},(a::l)[i+1]?=l[i]?:=@List.getElem?_cons_succ
theorem kg.{fu,Iu}:∀{α:Type fu} {β:Type Iu} {ls:List α} (f:α->β),(List.map f ls).length=ls.length:=@List.length_map
theorem iF:∀(n:Nat),n-n=0:=@Nat.sub_self
theorem kU.{fu}:∀{α:Type fu} {l₁ l₂:List α} {i:Nat},List.take i (l₁++l₂)=List.take i l₁++List.take (i-l₁.length) l₂:=@List.take_append
theorem su.{fu}:∀{α:Type fu} {i:Nat} {b:α} {xs:Array α},xs[i]?=some b↔∃(h:i<xs.size),xs[i]=b:=@Array.getElem?_eq_some_iff
theorem mh:∀{w w':World} {a:Addr},w'.heap[a.block]?=w.heap[a.block]?->w'.cell? a=w.cell? a:=@Go.World.cell?_of_block
theorem jH.{u}:∀{α:Type u} {l:List α},List.take 0 l=[]:=@List.take_zero
theorem iP:∀(n:Nat),n+0=n:=@Nat.add_zero
theorem lH:∀{a b:Nat},a<=b->min a b=a:=@Nat.min_eq_left
theorem mi.{fu}:∀{α:Type fu} {l:List α},List.take l.length l=l:=@List.take_length
theorem ow.{fu}:∀{α:Type fu} {l:List α} {i:Nat},List.take (i+1) l=List.take i l++l[i]?.toList:=@List.take_add_one
theorem jy:∀(n:Nat),n<=n.succ:=@Nat.le_succ
theorem uG:∀(n m:Nat),n+m-n=m:=@Nat.add_sub_cancel_left
theorem wI.{fu}:∀{α:Type fu} (l:List α),l≠[]->∃(x:α),x∈l:=@List.exists_mem_of_ne_nil
theorem eU.{u}:∀{α:Sort u} {a b:α},a≠b->b≠a:=@Ne.symm
theorem sF.{fu}:∀{α:Type fu} {xs:Array α} {x:α},(xs.push x)[xs.size]?=some x:=@Array.getElem?_push_size
theorem sP:∀{n:Nat},(UInt32.ofNat n).toNat=n%2^32:=@UInt32.toNat_ofNat'
theorem yD:∀{a b:Int},0<=a->a.tdiv b=a/b:=@Int.tdiv_eq_ediv_of_nonneg
theorem lL.{u}:∀{α:Type u} {l:List α},List.drop 0 l=l:=@List.drop_zero
theorem rq:∀{m n:Nat},m∈List.range n↔m<n:=@List.mem_range
theorem qh:∀(n:Nat),¬n<0:=@Nat.not_lt_zero
theorem mq:∀(x:Nat) {y:Nat},0<y->x%y<y:=@Nat.mod_lt
theorem vR:(false=true)=False:=@Bool.false_eq_true
theorem zm:∀(n:Nat),n*1=n:=@Nat.mul_one
instance:Coe Nat Addr:=⟨λ b=>⟨b,0,none⟩⟩
instance (a b:Nat):CoeDep (Nat×Nat) (a,b) Addr:=⟨⟨a,b,none⟩⟩
instance (a b:Nat):CoeDep (Nat×Nat) (a,b) (Option Addr):=⟨some ⟨a,b,none⟩⟩
instance:Coe World Nat:=⟨λ w=>w.heap.size⟩
end
end Go.Proofs.YtlipgbnnbefhjaaGreatDoor
namespace Go.Proofs.YtlipgbnnbefhjaaGreatDoor.UK
open Go.RowKit
def xr(a b:UInt32):UInt32:=a ^^^ b
def lG(a b:UInt32):UInt32:=a ||| b
def nt(a:UInt32):UInt32:= ~~~a
def uk(a:UInt32):UInt32:=a &&& 15
def FL(a:UInt32):UInt32:=a/16
def poly:UInt32:=2197175160
def hf(a:UInt32):UInt32:=a/2
def hf8(a:UInt8):UInt8:=a/2
def PU(a:UInt32):UInt32:=a/256
def Ns(a b:UInt32):Bool:=a.toNat%2 != b.toNat%2
def xr8(a b:UInt8):UInt8:=a ^^^ b
def wide(b:UInt8):UInt32:=b.toUInt32
def og(c:UInt32)(i:Nat):UInt8:=UInt8.ofNat (c.toNat/256^i)
def shl(b:UInt32)(i:Nat):UInt32:=UInt32.ofNat (b.toNat*256^i)
@[go_sem] theorem abw (b:UInt32):(b.toNat:Int)*256%4294967296=((shl b 1).toNat:Int):=by simp[shl]
@[go_sem] theorem abx (b:UInt32):(b.toNat:Int)*65536%4294967296=((shl b 2).toNat:Int):=by simp[shl]
@[go_sem] theorem aby (b:UInt32):(b.toNat:Int)*16777216%4294967296=((shl b 3).toNat:Int):=by simp[shl]
@[go_sem] theorem VG (a:UInt32):(a.toNat:Int)/2=((hf a).toNat:Int):=by simp[hf]
@[go_sem] theorem aab (a:UInt8):(a.toNat:Int)/2=((hf8 a).toNat:Int):=by simp[hf8]
@[go_sem] theorem JE (a:UInt32):(a.toNat:Int)/256=((PU a).toNat:Int):=by simp[PU]
@[go_sem] theorem JF (a:UInt32):og (PU a) 0=og a 1:=by simp[og,PU]
@[go_sem] theorem Nt (a b:UInt32):((a.toNat:Int)%2 !=(b.toNat:Int)%2)=Ns a b:=by
 have h:((a.toNat:Int)%2=(b.toNat:Int)%2)↔(a.toNat%2=b.toNat%2):=by omega
 unfold Ns bne
 congr 1
 rw[Bool.eq_iff_iff,beq_iff_eq,beq_iff_eq,h]
@[go_sem] theorem Iw (u:UInt32) (k:Nat):(u.toNat:Int)/2^(8*k)%256=((og u k).toNat:Int):=by
 rw[show(2:Int)^(8*k)=((256^k:Nat):Int) by rw[Int.pow_mul];norm_cast];simp[og]
theorem ybu(a b:UInt32):((a.toNat:Int) !=(b.toNat:Int))=!(a==b):=by
 unfold bne
 congr 1
 rw[Bool.eq_iff_iff,beq_iff_eq,beq_iff_eq];exact⟨λ h=>UInt32.toNat_inj.1 (by omega),λ h=>by rw[h]⟩
@[go_sem] theorem Nu (b:UInt8):(b.toNat:Int)%4294967296=((wide b).toNat:Int):=by simp[wide];have:=b.toNat_lt;omega
@[go_sem] theorem PV (b:UInt8):(b.toNat:Int)%256=(b.toNat:Int):=by have:=b.toNat_lt;omega
@[go_sem] theorem JG (b:UInt32):(b.toNat:Int)%4294967296=(b.toNat:Int):=by have:=b.toNat_lt;omega
@[go_sem] theorem Nv (b:UInt32):(b.toNat:Int)%256=((og b 0).toNat:Int):=by simp[og]
@[go_sem] theorem JH (b:UInt32):(b.toNat:Int)/256%256=((og b 1).toNat:Int):=by simp[og]
@[go_sem] theorem JI (b:UInt32):(b.toNat:Int)/65536%256=((og b 2).toNat:Int):=by simp[og]
@[go_sem] theorem JJ (b:UInt32):(b.toNat:Int)/16777216%256=((og b 3).toNat:Int):=by simp[og]
@[go_sem] theorem Eh (a b:UInt32):bits .xor .u32 (a.toNat:Int) (b.toNat:Int)=((xr a b).toNat:Int):=by
 rw[u32_xor_nat _ _ a.toNat_lt b.toNat_lt,xr,UInt32.toNat_xor]
@[go_sem] theorem VH (a b:UInt8):bits .xor .u8 (a.toNat:Int) (b.toNat:Int)=((xr8 a b).toNat:Int):=by
 rw[u8_xor_nat _ _ a.toNat_lt b.toNat_lt,xr8,UInt8.toNat_xor]
@[go_sem] theorem VI (a b:UInt32):bits .or .u32 (a.toNat:Int) (b.toNat:Int)=((lG a b).toNat:Int):=by
 rw[u32_or_nat _ _ a.toNat_lt b.toNat_lt,lG,UInt32.toNat_or]
@[go_sem] theorem PW (a:UInt32):bits .xor .u32 IntKind.u32.max (a.toNat:Int)=((nt a).toNat:Int):=by
 have:IntKind.u32.max=(((4294967295:UInt32).toNat:Nat):Int):=by decide
 rw[this,u32_xor_nat _ _ (by decide) a.toNat_lt,<-UInt32.toNat_xor,nt];rw[show(4294967295:UInt32) ^^^ a= ~~~a from by apply UInt32.toBitVec_inj.1;simp[<-BitVec.allOnes_xor]]
@[go_sem] theorem PX (a:UInt32):(4294967295-(a.toNat:Int))%4294967296=((nt a).toNat:Int):=by
 have:=a.toNat_lt;rw[nt,UInt32.toNat_not];simp only[UInt32.size];omega
@[go_sem] theorem Nw (a:UInt32):bits .xor .u32 (a.toNat:Int) 2197175160=((xr a poly).toNat:Int):=Eh a poly
@[go_sem] theorem JK (a:UInt32):bits .and .u32 (a.toNat:Int) 15=((uk a).toNat:Int):=by
 rw[show(15:Int)=((15:UInt32).toNat:Int) by decide];rw[u32_and_nat _ _ a.toNat_lt (by decide),uk,UInt32.toNat_and]
@[go_sem] theorem JL (a:UInt32):(a.toNat:Int)/16=((FL a).toNat:Int):=by
 simp[FL]
theorem xyr(a:UInt32):((uk a).toNat:Int)<16:=by
 have:(uk a).toNat<=15:=by rw[uk,UInt32.toNat_and];exact Nat.and_le_right
 omega
/-! ## strings as lists of bytes -/
def nth(l:List UInt8)(i:Nat):UInt8:=l.getD i 0
def str(l:List UInt8):ByteArray:=⟨l.toArray⟩
theorem xqh(s:ByteArray):s=str s.data.toList:=by simp[str]
@[go_sem] theorem gL (l:List UInt8):(str l).size=l.length:=by simp[str,ByteArray.size]
@[go_sem] theorem FJ (l:List UInt8) (a b:Nat):(str l).extract a b=str ((l.take b).drop a):=by
 apply ByteArray.ext;simp[str,ByteArray.data_extract,List.drop_take]
@[go_sem] theorem Iy (l m:List UInt8):str l++str m=str (l++m):=by
 apply ByteArray.ext;simp[str]
@[go_sem] theorem nS (l:List UInt8):(str l).data.toList=l:=by simp[str]
@[go_sem] theorem Iz (l:List UInt8):(str l).toList=l:=ByteArray.toList_mk l
@[go_sem] theorem PY (l:List UInt8) (i:Nat) (h:i<(str l).size):(str l)[i]'h=nth l i:=by
 have h':i<l.length:=by simpa[gL]using h
 show(str l).data[i]=_;simp[str,nth,List.getD,h']
@[go_sem] theorem VJ (l:List UInt8):ByteArray.mk l.toArray=str l:=rfl
/-! ## a region that draws its order,over a class of worlds -/
structure Kept(I:World->Prop) where
 w:World
 h:I w
end Go.Proofs.YtlipgbnnbefhjaaGreatDoor.UK
namespace Go.Proofs.YtlipgbnnbefhjaaGreatDoor.A9
open Go.RowKit Go.ChangeShapes Go.WideShapes Go.Deep
open UK (str)
section
variable{H:Type}{enc:TypeId×Value->H}{P:Program}{w:World}{base:Nat}{spare:Nat->Bool}{held:Bool}
theorem xhn{t e:TypeId}{fs:Array Field}{fuel:Nat}{cs:List Value}{x:DataW H×List MemPlace}(ht:P.underlying t=some (.slice e))(he:P.underlying e=some (.struct fs))
  (hone:oneCellFields P fs=true) (hC:P.cellsOf e=fs.size) (h:DataW.trod enc P w base spare held fuel t cs=some x) :
  (cs=[.slice none 0 0]/\x=(.nil,[])) \/
  ∃(a:Addr) (len cap m:Nat) (D:Nat->DataW H) (Pl:Nat->List MemPlace),cs=[.slice (some a) len cap]/\base<=a.block/\len<=cap/\cap<=maxLen/\m=(if spare a.block then cap else len) /\
   x=(.slice ((List.range len).map D) ((List.range (m-len)).map λ j=>D (len+j)),MemPlace.row a (m*fs.size)++(List.range m).flatMap Pl) /\
   ∀i,i<m->∃(ys:List (DataW H×List MemPlace)) (n:Nat),D i= .agg (ys.map (·.1))/\Pl i=ys.flatMap (·.2)/\ys.length=fs.size /\
    ∀(j:Nat) (f:Field),fs[j]?=some f->∃(v:Value) (y:DataW H×List MemPlace),w.cell? (a.add (i*fs.size+j))=some v/\ys[j]?=some y/\DataW.trod enc P w base spare held n f.type [v]=some y:=by
 rcases open_slice ht h with h0|⟨a,len,cap,m,n,D,Pl,hcs,hb,hl,hm,hmm,hx,hi⟩
 ·exact .inl h0
 refine .inr ⟨a,len,cap,m,D,Pl,hcs,hb,hl,hm,hmm,by rw[hC]at hx;exact hx,λ i him=>?_⟩;obtain⟨cs',hc,ht'⟩:=hi i him;rw[hC]at hc;obtain⟨ys,n',hn',hy,aJ,hyl,hf⟩:=DataW.trod_struct he ht';obtain⟨_,hcl,hat⟩:=World.cells?_some hc;simp only[Prod.mk.injEq]at hy;refine⟨ys,n',hy.1,hy.2,hyl,λ j f hj=>?_⟩;obtain⟨ho,hk⟩:=hone_of hone j f hj;have hjl:j<fs.size:=(su.1 hj).1;have hcell:=hat j hjl;have hv:cs'[j]?=some (cs'[j]'(by omega)):=di (by omega);have h1:=hf j f hj;rw[ho,hk]at h1
 have hone':(cs'.drop j).take 1=[cs'[j]'(by omega)]:=by
  rw[nY (by omega)];rfl
 rw[hone']at h1;have hys:ys[j]?=some (ys[j]'(by omega)):=di (by omega);refine⟨_,_,?_,hys,h1.trans hys⟩;rw[<-Go.Deep.add_add,hcell,hv]
end
theorem yay{a:Int}(h:(Lit.int .u64 a).wf=true):∃u:UInt64,a=(u.toNat:Int):=by
 simp[Lit.wf,IntKind.min,IntKind.max,IntKind.signed,IntKind.bits]at h;exact⟨UInt64.ofNat a.toNat,by simp;omega⟩
theorem sw{a:Int}(h:(Lit.int .i64 a).wf=true): -9223372036854775808<=a/\a<9223372036854775808:=by
 simp[Lit.wf,IntKind.min,IntKind.max,IntKind.signed,IntKind.bits]at h;omega
structure lY(W:World)(b off len:Nat)(kd ii nn tt:Nat->Int)(id:Nat->UInt64):Prop where
 c0:∀i,i<len->W.cell? (b,off+i*5)=some (.int .i64 (kd i))
 c1:∀i,i<len->W.cell? (b,off+i*5+1)=some (.int .i64 (ii i))
 c2:∀i,i<len->W.cell? (b,off+i*5+2)=some (.int .i64 (nn i))
 c3:∀i,i<len->W.cell? (b,off+i*5+3)=some (.int .i64 (tt i))
 c4:∀i,i<len->W.cell? (b,off+i*5+4)=some (.int .u64 (id i).toNat)
 w1:∀i,i<len-> -9223372036854775808<=ii i/\ii i<9223372036854775808
theorem xqi:Tryz.prog.underlying 34 =some (.struct #[{name:= "Kind",type:=3,offset:=0,embedded:=false,tag:= "",pkgPath:= "",byteOffset:=0},{name:= "I",type:=3,offset:=1,embedded:=false,tag:= "",pkgPath:= "",byteOffset:=8},{name:= "N",type:=3,offset:=2,embedded:=false,tag:= "",pkgPath:= "",byteOffset:=16},{name:= "To",type:=3,offset:=3,embedded:=false,tag:= "",pkgPath:= "",byteOffset:=24},{name:= "Id",type:=32,offset:=4,embedded:=false,tag:= "",pkgPath:= "",byteOffset:=32}]):=by kernel_rfl
theorem xzb:oneCellFields Tryz.prog #[{name:= "Kind",type:=3,offset:=0,embedded:=false,tag:= "",pkgPath:= "",byteOffset:=0},{name:= "I",type:=3,offset:=1,embedded:=false,tag:= "",pkgPath:= "",byteOffset:=8},{name:= "N",type:=3,offset:=2,embedded:=false,tag:= "",pkgPath:= "",byteOffset:=16},{name:= "To",type:=3,offset:=3,embedded:=false,tag:= "",pkgPath:= "",byteOffset:=24},{name:= "Id",type:=32,offset:=4,embedded:=false,tag:= "",pkgPath:= "",byteOffset:=32}]=true:=by kernel_rfl
theorem xsf:Tryz.prog.cellsOf 34 =5:=by kernel_rfl
theorem xsg{w:World}{a:Addr}{v:Value}(h:w.cell? a=some v):a.spot=none:=by
 unfold World.cell? at h
 split at h
 ·split at h
  ·cases h
  rename_i hs;simpa using hs
 cases h
theorem yaz(b off n:Nat):(⟨b,off,none⟩:Addr).add n=⟨b,off+n,none⟩:=by
 unfold Addr.add;by_cases hn:n=0<;>simp[hn]
theorem nZ{H:Type}{enc:TypeId×Value->H}{base:Nat}{d:DataW H}{p:List MemPlace}(W:World)(v:Value)(hok:Value.okWide Tryz.prog W .any base 22 v)(h:DataW.Trod enc Tryz.prog W 0 (λ _=>true) true 22 v d p) :
  (∃ao cap,v= .slice ao 0 cap)\/∃b off len cap kd ii nn tt id,v= .slice (some ⟨b,off,none⟩) len cap/\lY W b off len kd ii nn tt id/\b<W.heap.size/\len<=maxLen:=by
 obtain⟨a0,zu,cap0,rfl⟩:=okWide_slice Tryz.underlying22 hok;obtain⟨fuel,hf⟩:=h;rcases xhn Tryz.underlying22 xqi xzb xsf hf with⟨hcs,_⟩|⟨a,len,cap,m,D,Pl,hcs,hb,hl,hm,hmm,hx,hi⟩
 ·simp only[Value.cells,List.cons.injEq,and_true]at hcs;obtain⟨rfl,rfl,rfl⟩:=Value.slice.inj hcs;exact .inl ⟨none,0,rfl⟩
 simp only[Value.cells,List.cons.injEq,and_true]at hcs;obtain⟨rfl,rfl,rfl⟩:=Value.slice.inj hcs;by_cases hl0:zu=0
 ·subst hl0;exact .inl ⟨_,_,rfl⟩
 have hmc:m=cap0:=by rw[hmm];rfl
 have hcell:∀i,i<zu->∃(k0 k1 k2 k3:Int) (s4:UInt64),W.cell? (a.add (i*5))=some (.int .i64 k0)/\W.cell? (a.add (i*5+1))=some (.int .i64 k1)/\W.cell? (a.add (i*5+2))=some (.int .i64 k2)/\W.cell? (a.add (i*5+3))=some (.int .i64 k3)/\W.cell? (a.add (i*5+4))=some (.int .u64 s4.toNat)/\ -9223372036854775808<=k1/\k1<9223372036854775808:=λ i hil=>by
  obtain⟨ys,n,_,_,_,hj⟩:=hi i (by omega);obtain⟨v0,y0,h0,_,t0⟩:=hj 0 _ rfl;obtain⟨v1,y1,h1,_,t1⟩:=hj 1 _ rfl;obtain⟨v2,y2,h2,_,t2⟩:=hj 2 _ rfl;obtain⟨v3,y3,h3,_,t3⟩:=hj 3 _ rfl;obtain⟨v4,y4,h4,_,t4⟩:=hj 4 _ rfl;obtain⟨k0,e0,_,_⟩:=DataW.trod_int Tryz.underlying3 t0;obtain⟨k1,e1,_,w1⟩:=DataW.trod_int Tryz.underlying3 t1;obtain⟨k2,e2,_,_⟩:=DataW.trod_int Tryz.underlying3 t2;obtain⟨k3,e3,_,_⟩:=DataW.trod_int Tryz.underlying3 t3;obtain⟨s4,e4,_,w4⟩:=DataW.trod_int Tryz.underlying32 t4;simp only[List.cons.injEq,and_true]at e0 e1 e2 e3 e4;subst e0 e1 e2 e3 e4;obtain⟨u4,rfl⟩:=yay w4;exact⟨k0,k1,k2,k3,u4,h0,h1,h2,h3,h4,sw w1⟩
 have hsp:a.spot=none:=by
  obtain⟨k0,_,_,_,_,h0,_⟩:=hcell 0 (by omega);have e:a.add (0*5)=a:=by simp[Addr.add]
  rw[e]at h0;exact xsg h0
 obtain⟨b,off,sp⟩:=a;simp only at hsp;subst hsp;simp only[yaz,<-Nat.add_assoc]at hcell
 have hch:∀i,∃q:Int×Int×Int×Int×UInt64,i<zu->W.cell? (b,off+i*5)=some (.int .i64 q.1)/\W.cell? (b,off+i*5+1)=some (.int .i64 q.2.1)/\W.cell? (b,off+i*5+2)=some (.int .i64 q.2.2.1)/\W.cell? (b,off+i*5+3)=some (.int .i64 q.2.2.2.1)/\W.cell? (b,off+i*5+4)=some (.int .u64 q.2.2.2.2.toNat)/\ -9223372036854775808<=q.2.1/\q.2.1<9223372036854775808:=λ i=>by
  by_cases h:i<zu
  ·obtain⟨k0,k1,k2,k3,s4,h'⟩:=hcell i h;exact⟨(k0,k1,k2,k3,s4),λ _=>h'⟩
  exact⟨(0,0,0,0,0),λ h'=>absurd h' h⟩
 obtain⟨f,hf'⟩:=Classical.axiomOfChoice hch;exact .inr ⟨b,off,zu,cap0,λ i=>(f i).1,λ i=>(f i).2.1,λ i=>(f i).2.2.1,λ i=>(f i).2.2.2.1,λ i=>(f i).2.2.2.2,rfl,⟨λ i h=>(hf' i h).1,λ i h=>(hf' i h).2.1,λ i h=>(hf' i h).2.2.1,λ i h=>(hf' i h).2.2.2.1,λ i h=>(hf' i h).2.2.2.2.1,λ i h=>(hf' i h).2.2.2.2.2⟩,block_lt_of_cell (hf' 0 (by omega)).1,by omega⟩
end Go.Proofs.YtlipgbnnbefhjaaGreatDoor.A9
namespace Go.Proofs.YtlipgbnnbefhjaaGreatDoor
open Go.RowKit
open UK (str)
def tab(i:UInt32):UInt32:= #[0x00000000,0x105ec76f,0x20bd8ede,0x30e349b1,0x417b1dbc,0x5125dad3,0x61c69362,0x7198540d,0x82f63b78,0x92a8fc17,0xa24bb5a6,0xb21572c9,0xc38d26c4,0xd3d3e1ab,0xe330a81a,0xf36e6f75].getD i.toNat 0
def half(c:UInt32):UInt32:=UK.xr (UK.FL c) (tab (UK.uk c))
def Qe(c:UInt32)(b:UInt8):UInt32:=half (half (UK.xr c (UK.wide b)))
def zw(c:UInt32)(l:List UInt8):UInt32:=l.foldl Qe c
def iN(c:UInt32)(l:List UInt8):UInt32:=UK.nt (zw (UK.nt c) l)
def aW(c:UInt32):List UInt8:=[UK.og c 0,UK.og c 1,UK.og c 2,UK.og c 3]
theorem xsh(c:UInt32)(l:List UInt8)(k:Nat)(h:k<l.length):zw c (l.take (k+1))=Qe (zw c (l.take k)) (UK.nth l k):=by
 rw[List.take_succ_eq_append_getElem h];unfold zw;rw[List.foldl_append];simp[UK.nth,List.getD,h]
def jG(w:World):Prop:=∀c:UInt32,w.cell? ⟨0,(UK.uk c).toNat,none⟩=some (.int .u32 ((tab (UK.uk c)).toNat:Int))
theorem xv5(c:UInt32)(b:UInt8)(w:World)(ht:jG w) :
  Calls Tryz.prog 138 #[.int .u32 c.toNat,.int .u8 b.toNat] w λ e w'=>e= .returned (.int .u32 (Qe c b).toNat)/\w=w':=by
 unfold jG at ht;have h5:=UK.xyr
 go_enter Tryz.func138,Tryz.ntmps138
 go_wp2;go_ret
 exact⟨rfl,rfl⟩
theorem xzd(c:UInt32)(l:List UInt8)(w:World)(ht:jG w)(hs:l.length<=maxLen) :
  Calls Tryz.prog 119 #[.int .u32 c.toNat,.string (str l)] w λ e w'=>e= .returned (.int .u32 (iN c l).toNat)/\w=w':=by
 unfold maxLen at hs
 go_enter Tryz.func119,Tryz.ntmps119
 go_wp2
 go_loop [5,11] (λ x i=>∃k:Nat,k<=l.length/\i= .int .i64 k/\x= .int .u32 (zw (UK.nt c) (l.take k)).toNat) (λ _ i=>l.length-(intOf i).toNat)
 case atStart=>exact⟨0,bY _,rfl,rfl⟩
 obtain⟨k,hk,rfl,rfl⟩:=hrel;by_cases hlt:k<l.length
 ·have HS:=zH (xsh (UK.nt c) l k hlt)
  go_wp2_with (go_at_call 138;refine(xv5 _ _ _ ht).mono ?_;rintro e w' ⟨rfl,rfl⟩)
  go_round
  case rel=>exact⟨k+1,by omega,by go_num,by rw[HS.out]⟩
  case measure=>simp[intOf];omega
 go_wp2;go_ret
 exact⟨by rw[eZ (by omega)];rfl,rfl⟩
theorem xv6(W:World)(a b c d:UInt8) :
  (convert 88 9 (.slice W 4 4)).run Tryz.prog (W.alloc (.cells #[.int .u8 a.toNat,.int .u8 b.toNat,.int .u8 c.toNat,.int .u8 d.toNat] 5)) =
   .ok (.string (str [a,b,c,d])) (W.alloc (.cells #[.int .u8 a.toNat,.int .u8 b.toNat,.int .u8 c.toNat,.int .u8 d.toNat] 5)):=by
 have h:=run_convert_bytes_back (P:=Tryz.prog) (W.alloc (.cells #[.int .u8 a.toNat,.int .u8 b.toNat,.int .u8 c.toNat,.int .u8 d.toNat] 5)) 88 9 5 ⟨W.heap.size,0,none⟩ 4 [a,b,c,d] Tryz.underlying88 Tryz.underlying5 Tryz.underlying9;refine h (λ j hj=>?_);have hj':j<4:=by simpa using hj
 match j,hj' with
 | 0,_|1,_|2,_|3,_=>simp[Addr.add,World.cell?,World.alloc,-World.alloc_eq]
theorem VW(c:UInt32)(w:World) :
  Calls Tryz.prog 118 #[.int .u32 c.toNat] w λ e w'=>e= .returned (.string (str (aW c)))/\Below w w w':=by
 have hcv:=xv6
 go_enter Tryz.func118,Tryz.ntmps118
 go_wp2;go_ret
 exact⟨rfl,(aP _ _).alloc (aZ _) _⟩
def fC(l:List UInt8):UInt32:=
 UK.lG (UK.lG (UK.lG (UK.wide (UK.nth l 0)) (UK.shl (UK.wide (UK.nth l 1)) 1)) (UK.shl (UK.wide (UK.nth l 2)) 2)) (UK.shl (UK.wide (UK.nth l 3)) 3)
theorem xv7(l:List UInt8)(w:World)(h:l.length=4) :
  Calls Tryz.prog 80 #[.string (str l)] w λ e w'=>e= .returned (.tuple #[.int .u32 (fC l).toNat,.bool true])/\∃n,w'=w.drewN n:=by
 have h1:(0:Int)<l.length:=by omega
 have h1:(1:Int)<l.length:=by omega
 have h1:(2:Int)<l.length:=by omega
 have h1:(3:Int)<l.length:=by omega
 have h2:((l.length:Int)==4)=true:=by rw[h];rfl
 clear h
 go_enter Tryz.func80,Tryz.ntmps80
 go_wp2
 go_quiet (fail)
 go_wp2;go_ret2
 exact⟨rfl,_,rfl⟩
theorem jG.lt{w:World}(h:jG w):0 <w.heap.size:=by
 have h0:=h 0;unfold World.cell? at h0;by_cases hl:0 <w.heap.size
 ·exact hl
 rw[Array.getElem?_eq_none (by omega)]at h0;cases h0
theorem jG.below{w w':World}(h:jG w)(hb:Below w w w'):jG w':=λ c=>by
 rw[hb.cell (p:=⟨_,_,none⟩) h.lt];exact h c
theorem jG.drewN{w:World}(h:jG w)(n:Nat):jG (w.drewN n):=λ c=>h c
theorem aG{B:Nat}{a w:World}(h:Below B a w)(n:Nat):Below B a (w.drewN n):=⟨h.os,h.tape,h.output,h.size,h.block⟩
theorem add_zero(l:List UInt8)(w:World)(ht:jG w)(hs:l.length<=maxLen) :
  Calls Tryz.prog 119 #[.int .u32 0,.string (str l)] w λ e w'=>e= .returned (.int .u32 (iN 0 l).toNat)/\w=w':=
 xzd 0 l w ht hs
theorem Qf(l:List UInt8)(w:World)(ht:jG w)(hs:l.length<=maxLen) :
  Calls Tryz.prog 81 #[.string (str l)] w λ e w'=>e= .returned (.int .u32 (iN 0 l).toNat)/\w=w':=by
 go_enter Tryz.func81,Tryz.ntmps81
 go_wp2_with (go_at_call 119;refine(add_zero _ _ ht hs).mono ?_;rintro e w' ⟨rfl,rfl⟩)
 go_ret;exact⟨rfl,rfl⟩
def b1(x:UInt32):UInt32:=(x >>> 1) ^^^(if x.toNat%2=1 then UK.poly else 0)
/-! ## four bytes and their number -/
theorem Qg{a b:UInt32}(k:Nat)(hb:b.toNat%2^k=0)(ha:a.toNat<2^k):(UK.lG a b).toNat=a.toNat+b.toNat:=by
 rw[UK.lG,UInt32.toNat_or,Nat.or_comm,nat_join k _ _ hb ha];omega
theorem xqj(b:UInt8):(UK.wide b).toNat=b.toNat:=by simp[UK.wide]
theorem Qh(b:UInt8)(i:Nat)(h:i<4):(UK.shl (UK.wide b) i).toNat=b.toNat*256^i:=by
 have:=b.toNat_lt
 match i,h with
 | 0,_=>simp[UK.shl,UK.wide]
 | 1,_|2,_|3,_=>simp[UK.shl,UK.wide];omega
theorem xqk(l:List UInt8):(fC l).toNat=(UK.nth l 0).toNat+256*(UK.nth l 1).toNat+65536*(UK.nth l 2).toNat+16777216*(UK.nth l 3).toNat:=by
 have h0:=(UK.nth l 0).toNat_lt;have h1:=(UK.nth l 1).toNat_lt;have h2:=(UK.nth l 2).toNat_lt;have h3:=(UK.nth l 3).toNat_lt;have e1:=Qh (UK.nth l 1) 1 (by decide);have e2:=Qh (UK.nth l 2) 2 (by decide);have e3:=Qh (UK.nth l 3) 3 (by decide);have e0:=xqj (UK.nth l 0);unfold fC;have s1:=Qg (a:=UK.wide (UK.nth l 0)) (b:=UK.shl (UK.wide (UK.nth l 1)) 1) 8 (by rw[e1];omega) (by rw[e0];omega);have s2:=Qg (a:=UK.lG (UK.wide (UK.nth l 0)) (UK.shl (UK.wide (UK.nth l 1)) 1)) (b:=UK.shl (UK.wide (UK.nth l 2)) 2) 16 (by rw[e2];omega) (by rw[s1,e0,e1];omega);have s3:=Qg (a:=UK.lG (UK.lG (UK.wide (UK.nth l 0)) (UK.shl (UK.wide (UK.nth l 1)) 1)) (UK.shl (UK.wide (UK.nth l 2)) 2)) (b:=UK.shl (UK.wide (UK.nth l 3)) 3) 24 (by rw[e3];omega) (by rw[s2,s1,e0,e1,e2];omega);rw[s3,s2,s1,e0,e1,e2,e3];omega
theorem xmd(c:UInt32)(i:Nat):(UK.og c i).toNat=c.toNat/256^i%256:=by simp[UK.og]
theorem Em(c:UInt32):fC (aW c)=c:=by
 apply UInt32.toNat_inj.1;rw[xqk];have hc:=c.toNat_lt;show(UK.og c 0).toNat+256*(UK.og c 1).toNat+65536*(UK.og c 2).toNat+16777216*(UK.og c 3).toNat=_;simp only[xmd];omega
/-! ## what differs has another sum -/
end Go.Proofs.YtlipgbnnbefhjaaGreatDoor
namespace Go.Proofs.YtlipgbnnbefhjaaGreatDoor.UK
open Go.RowKit
def tO(l:List UInt8):Array Value:=(l.map λ b=>Value.int .u8 (b.toNat:Int)).toArray
def aO(W:World)(B:Nat)(x:List UInt8):Prop:=∃e fr,W.heap[B]?=some (.cells (tO x) e fr)/\∀i,i<x.length->¬(fr.1<=i/\i<fr.2)
theorem xk3(x:List UInt8)(i:Nat)(h:i<x.length):(tO x)[i]?=some (.int .u8 ((nth x i).toNat:Int)):=by
 simp[tO,nth,List.getD,h]
theorem aO.cell{W:World}{B:Nat}{x:List UInt8}(h:aO W B x){i:Nat}(hi:i<x.length):W.cell? (B,i)=some (.int .u8 ((nth x i).toNat:Int)):=by
 obtain⟨e,fr,hb,_⟩:=h;unfold World.cell?;simp only[hb];exact xk3 x i hi
theorem aO.free{W:World}{B:Nat}{x:List UInt8}(h:aO W B x){i:Nat}(hi:i<x.length):W.frozen? ⟨B,i,none⟩=false:=by
 obtain⟨e,fr,hb,hf⟩:=h;unfold World.frozen?;simp only[hb];have:=hf i hi;simp only[Bool.and_eq_false_iff,decide_eq_false_iff_not];omega
theorem aO.lt{W:World}{B:Nat}{x:List UInt8}(h:aO W B x):B<W.heap.size:=by
 obtain⟨e,fr,hb,_⟩:=h;exact(su.1 hb).1
theorem aO.af{W W':World}{B:Nat}{x:List UInt8}(h:aO W B x)(hb:W'.heap[B]?=W.heap[B]?):aO W' B x:=by
 obtain⟨e,fr,hc,hf⟩:=h;exact⟨e,fr,hb.trans hc,hf⟩
theorem aO.set{W:World}{B:Nat}{x:List UInt8}(h:aO W B x)(i:Nat)(v:UInt8):aO (W.setCell (B,i) (.int .u8 (v.toNat:Int))) B (x.set i v):=by
 obtain⟨e,fr,hb,hf⟩:=h;refine⟨e,fr,?_,λ j hj=>hf j (by simpa using hj)⟩;simp only[World.setCell,Array.getElem?_modify,if_true,hb,Option.map_some]
 congr 2
 simp[tO,List.map_set]
theorem aO.drew{W:World}{B:Nat}{x:List UInt8}(h:aO W B x):aO W.drew B x:=h
theorem aO.drewN{W:World}{B:Nat}{x:List UInt8}(h:aO W B x)(n:Nat):aO (W.drewN n) B x:=h
theorem aO.below{W W':World}{B n:Nat}{x:List UInt8}(h:aO W B x)(hb:Below n W W')(hn:B<n):aO W' B x:=h.af (hb.block B hn)
theorem aO.alloc{W:World}{B:Nat}{x:List UInt8}(h:aO W B x)(o:Obj):aO (W.alloc o) B x:=h.af (Below.heap_alloc W o B h.lt)
theorem aO.far{W:World}{B:Nat}{x:List UInt8}(h:aO W B x)(a:Addr)(v:Value)(hne:B≠a.block):aO (W.setCell a v) B x:=h.af (Below.heap_setCell W a v B hne)
theorem Cz{P:Program}{src dst e:TypeId}(hs:P.underlying src=some (.slice e))(he:P.underlying e=some (.int .u8))(hd:P.underlying dst=some .string){W:World}{B:Nat}{x:List UInt8}(h:aO W B x)(o n cap:Nat)(hn:o+n<=x.length) :
  (convert src dst (.slice (B,o) n cap)).run P W= .ok (.string (str ((x.drop o).take n))) W:=by
 have hl:((x.drop o).take n).length=n:=by rw[zt,zd];omega
 have h1:=run_convert_bytes_back (P:=P) W src dst e ⟨B,o,none⟩ cap ((x.drop o).take n) hs he hd (λ j hj=>by
  have e1:(⟨B,o,none⟩:Addr).add j=⟨B,o+j,none⟩:=by
   unfold Addr.add;by_cases hj0:j=0<;>simp[hj0]
  rw[e1,h.cell (by omega)];have hj2:o+j<x.length:=by omega
  simp[nth,List.getD,hj2])
 rw[hl]at h1;exact h1
theorem Q4{P:Program}{src dst e:TypeId}(hs:P.underlying src=some .string)(hd:P.underlying dst=some (.slice e))(he:P.underlying e=some (.int .u8))(W:World)(l:List UInt8) :
  ∃cap o,l.length<=cap/\(convert src dst (.string (str l))).run P W= .ok (.slice W l.length cap) (W.drew.alloc o)/\aO (W.drew.alloc o) W (l++List.replicate (cap-l.length) 0):=by
 have h:=run_bytes_of_string (P:=P) W src dst e (str l) hs hd he;rw[gL]at h;have hc:=grownCap_ge W l.length 0 e;refine⟨grownCap W l.length 0 e,_,hc,h,e,((bytesRow (str l) (grownCap W l.length 0 e)).size,(bytesRow (str l) (grownCap W l.length 0 e)).size+1),?_,?_⟩
 ·show(W.drew.heap.push _)[W.heap.size]?=_;rw[show W.heap.size=W.drew.heap.size from rfl,sF];simp[bytesRow,str,tO,ByteArray.size]
 intro i hi;simp[bytesRow,str,ByteArray.size]at hi ⊢;omega
theorem aG{B:Nat}{a w:World}(h:Below B a w)(n:Nat):Below B a (w.drewN n):=⟨h.os,h.tape,h.output,h.size,h.block⟩
structure Only(B:Nat)(w w':World):Prop where
 os:w'.os=w.os
 tape:w'.tape=w.tape
 output:w'.output=w.output
 size:w.heap.size<=w'.heap.size
 block:∀k,k<w.heap.size->k≠B->w'.heap[k]?=w.heap[k]?
namespace Only
variable{B:Nat}{a b c w:World}
theorem refl(B:Nat)(w:World):Only B w w:=⟨rfl,rfl,rfl,aZ _,λ _ _ _=>rfl⟩
theorem trans(h:Only B a b)(k:Only B b c):Only B a c:=
 ⟨k.os.trans h.os,k.tape.trans h.tape,k.output.trans h.output,bf h.size k.size,λ i hi hn=>(k.block i (bS hi h.size) hn).trans (h.block i hi hn)⟩
theorem drew(h:Only B a w):Only B a w.drew:=⟨h.os,h.tape,h.output,h.size,h.block⟩
theorem drewN(h:Only B a w)(n:Nat):Only B a (w.drewN n):=⟨h.os,h.tape,h.output,h.size,h.block⟩
theorem alloc(h:Only B a w)(o:Obj):Only B a (w.alloc o):=
 ⟨h.os,h.tape,h.output,bf h.size (by simp),λ i hi hn=>(Below.heap_alloc w o i (bS hi h.size)).trans (h.block i hi hn)⟩
theorem set(h:Only B a w)(i:Nat)(v:Value):Only B a (w.setCell (B,i) v):=
 ⟨h.os,h.tape,h.output,by simpa[World.setCell]using h.size,λ k hk hn=>(Below.heap_setCell w _ v k hn).trans (h.block k hk hn)⟩
theorem vX(h:Only B a w){p:Addr}(hp:a.heap.size<=p.block)(v:Value):Only B a (w.setCell p v):=
 ⟨h.os,h.tape,h.output,by simpa[World.setCell]using h.size,λ k hk hn=>(Below.heap_setCell w _ v k (by omega)).trans (h.block k hk hn)⟩
theorem of_below(h:Below a.heap.size a w):Only B a w:=⟨h.os,h.tape,h.output,h.size,λ k hk _=>h.block k hk⟩
theorem below(h:Only B a w){n:Nat}(hn:n<=a.heap.size)(hB:n<=B):Below n a w:=⟨h.os,h.tape,h.output,h.size,λ k hk=>h.block k (by omega) (by omega)⟩
theorem bytes{C:Nat}{x:List UInt8}(h:Only B a w)(hx:aO a C x)(hne:C≠B):aO w C x:=hx.af (h.block C hx.lt hne)
end Only
open Go.RowKit
def wr(x:List UInt8)(a:Nat)(s:List UInt8):List UInt8:=x.take a++(s++x.drop (a+s.length))
theorem lm(x:List UInt8)(a:Nat)(s:List UInt8)(h:a+s.length<=x.length):(wr x a s).length=x.length:=by
 simp[wr];omega
def cellsOf(s:List UInt8):List Value:=s.map λ b=>Value.int .u8 (b.toNat:Int)
theorem yaq(x:List UInt8)(a:Nat)(v:UInt8)(s:List UInt8)(h:a<x.length):wr (x.set a v) (a+1) s=wr x a (v::s):=by
 unfold wr
 have e1:(x.set a v).take (a+1)=x.take a++[v]:=by
  rw[List.take_succ_eq_append_getElem (by simpa using h),List.take_set_of_le (aZ _)];simp
 have e2:(x.set a v).drop (a+1+s.length)=x.drop (a+(s.length+1)):=by
  rw[List.drop_set_of_lt (by omega),show a+1+s.length=a+(s.length+1) by omega]
 rw[e1,e2];simp
theorem aO.setCells{B:Nat}:∀(s:List UInt8) (o:Nat) {W:World} {x:List UInt8},aO W B x->o+s.length<=x.length->aO (W.setCells B o (cellsOf s)) B (wr x o s)
 | [],o,W,x,h,_=>by
  have:wr x o []=x:=by simp[wr]
  rw[this];exact h
 | v::s,o,W,x,h,hl=>by
  simp only[dw]at hl;have h1:=aO.setCells s (o+1) (h.set o v) (by rw[bB];omega);rw[yaq x o v s (by omega)]at h1;exact h1
theorem Only.setCells{B:Nat}{a:World}:∀(s:List Value) (o:Nat) {w:World},Only B a w->Only B a (w.setCells B o s)
 | [],_,_,h=>h
 | v::s,o,_,h=>Only.setCells s (o+1) (h.set o v)
theorem NE{P:Program}{dT sT ty elem:TypeId}(hu:P.underlying dT=some (.slice elem))(hz:∀w,(Go.sizeOf elem).run P w= .ok 1 w){W:World}{B:Nat}{x:List UInt8}(h:aO W B x)(o dLen dCap:Nat)(s:List UInt8)(hd:s.length<=dLen)(ho:o+s.length<=x.length) :
  (Builtin.copy_ #[dT,sT] ty #[.slice (B,o) dLen dCap,.string (str s)]).run P W= .ok (goInt (s.length:Nat)) (W.setCells B o (cellsOf s)):=by
 have h1:=run_copy_string (P:=P) W dT sT ty elem B o dLen dCap (str s) hu hz (by rw[gL];exact hd) (λ j hj=>by
  rw[gL]at hj;rw[h.cell (by omega)];rfl) (λ j hj=>by
  rw[gL]at hj;exact h.free (by omega))
 rw[gL,nS]at h1;exact h1
def bW(n:Nat):List UInt8:=List.replicate n 0
theorem lI(n:Nat):(bW n).length=n:=ko
theorem Ny(n:Nat):(Builtin.zeroCells (Value.int .u8 0).cells n).toList=cellsOf (List.replicate n 0):=by
 apply List.ext_getElem?;intro i;by_cases h:i<n
 ·simp[Builtin.zeroCells,Value.cells,cellsOf,h,Nat.mod_one]
 simp[Builtin.zeroCells,Value.cells,cellsOf,h]
theorem VZ{P:Program}{t ty elem:TypeId}(hu:P.underlying t=some (.slice elem))(hz:∀w,(zeroValue elem).run P w= .ok (.int .u8 0) w){W:World}{B:Nat}{x:List UInt8}(h:aO W B x)(o n c:Nat)(ho:o+n<=x.length) :
  (Builtin.clear_ #[t] ty #[.slice (B,o) n c]).run P W= .ok (.tuple #[]) (W.setCells B o (cellsOf (bW n))):=by
 unfold bW;have hl:(cellsOf (List.replicate n 0)).length=n:=by simp[cellsOf]
 have hst:=run_storeCells_cells (P:=P) B o (cellsOf (List.replicate n 0)) 0 W (by
  intro j hj;rw[hl]at hj;rw[iP,h.cell (by omega)];rfl) (by
  intro j hj;rw[hl]at hj;rw[iP];exact h.free (by omega)) (by
  intro v hv;simp only[cellsOf,gT]at hv;obtain⟨b,_,rfl⟩:=hv;rfl)
 rw[<-Ny]at hst ⊢
 cases n with
 | zero=>simp[Builtin.clear_,run_underlying hu,Builtin.zeroCells,World.setCells]
 | succ n=>
  simp only[Builtin.clear_];simp[run_underlying hu,hz];rw[hst];simp
end Go.Proofs.YtlipgbnnbefhjaaGreatDoor.UK
namespace Go.Proofs.YtlipgbnnbefhjaaGreatDoor
open Go.RowKit
namespace UK
structure Row(W:World)(g c:Nat)(vs:List Value):Prop where
 lt:g<W.heap.size
 le:vs.length<=c
 holds:∀j,j<vs.length->W.cell? (g,j)=vs[j]?
 there:∀j,j<c->(W.cell? (g,j)).isSome=true/\W.frozen? ⟨g,j,none⟩=false
theorem uh(b off n:Nat):(⟨b,off,none⟩:Addr).add n=⟨b,off+n,none⟩:=by
 unfold Addr.add;split<;>simp_all
namespace Row
variable{W W':World}{g c:Nat}{vs:List Value}
theorem af(h:Row W g c vs)(hs:W.heap.size<=W'.heap.size)(hb:W'.heap[g]?=W.heap[g]?):Row W' g c vs:=
 ⟨bS h.lt hs,h.le,λ j hj=>(mh (a:=⟨g,j,none⟩) hb).trans (h.holds j hj),
  λ j hj=>⟨by rw[mh (a:=⟨g,j,none⟩) hb];exact(h.there j hj).1,(World.frozen?_of_block (a:=⟨g,j,none⟩) hb).trans (h.there j hj).2⟩⟩
theorem drewN(h:Row W g c vs)(n:Nat):Row (W.drewN n) g c vs:=h.af (aZ _) rfl
theorem below{n:Nat}(h:Row W g c vs)(hb:Below n W W')(hn:g<n):Row W' g c vs:=h.af hb.size (hb.block g hn)
theorem only{B:Nat}(h:Row W g c vs)(ho:Only B W W')(hn:g≠B):Row W' g c vs:=h.af ho.size (ho.block g h.lt hn)
theorem alloc(h:Row W g c vs)(o:Obj):Row (W.alloc o) g c vs:=h.af (by simp) (Below.heap_alloc W o g h.lt)
theorem at'(h:Row W g c vs)(j:Nat)(v:Value)(hv:vs[j]?=some v):W.cell? (g,j)=some v:=by
 have hj:j<vs.length:=(dn.1 hv).1;rw[h.holds j hj,hv]
theorem free(h:Row W g c vs)(j:Nat)(hj:j<c):W.frozen? ⟨g,j,none⟩=false:=(h.there j hj).2
theorem take(h:Row W g c vs)(n:Nat):Row W g c (vs.take n):=by
 refine⟨h.lt,by rw[zt];have:=h.le;omega,λ j hj=>?_,h.there⟩;rw[zt]at hj;rw[h.holds j (by omega),iO (by omega)]
theorem setCells(h:Row W g c vs)(o:Nat)(m:List Value)(hm:o+m.length<=c)(k:List Value)(hk:k.length<=c)
  (hin:∀j,j<m.length->k[o+j]?=m[j]?) (hout:∀j,j<k.length->j<o\/o+m.length<=j->j<vs.length/\k[j]?=vs[j]?) :
  Row (W.setCells g o m) g c k:=by
 have hs:∀j,j<m.length->(W.cell? (g,o+j)).isSome=true:=λ j hj=>(h.there _ (by omega)).1;have ci:=World.cell?_setCells_in g m o W hs;have co:∀j,j<o\/o+m.length<=j->(W.setCells g o m).cell? (g,j)=W.cell? (g,j):=λ j hj=>World.cell?_setCells_out g m o W ⟨g,j,none⟩ (λ _ _=>hj);refine⟨bS h.lt (Only.setCells m o (Only.refl g W)).size,hk,λ j hj=>?_,λ j hj=>⟨?_,by rw[World.frozen?_setCells];exact(h.there j hj).2⟩⟩
 ·by_cases hc:j<o\/o+m.length<=j
  ·rw[co j hc,h.holds j (hout j hj hc).1,(hout j hj hc).2]
  have:=ci (j-o) (by omega);rw[show o+(j-o)=j by omega]at this;rw[this,<-di,<-hin (j-o) (by omega),show o+(j-o)=j by omega]
 by_cases hc:j<o\/o+m.length<=j
 ·rw[co j hc];exact(h.there j hj).1
 have:=ci (j-o) (by omega);rw[show o+(j-o)=j by omega]at this;rw[this];rfl
theorem set(h:Row W g c vs)(i:Nat)(v:Value)(hi:i<vs.length):Row (W.setCell (g,i) v) g c (vs.set i v):=by
 have hle:=h.le;refine h.setCells i [v] (by simp;omega) (vs.set i v) (by simpa using hle) (λ j hj=>?_) (λ j hj hc=>?_)
 ·obtain rfl:j=0:=by simpa using hj
  simp[hi]
 simp only[bB]at hj;simp only[gI]at hc;refine⟨hj,?_⟩;rw[List.getElem?_set_ne (by omega)]
end Row
theorem MI{P:Program}{t tx ty e:TypeId}{i:TypeInfo}{z:Value}(ht:P.underlying t=some (.slice e))(hi:P.info? e=some i)(hz:i.zero=some z)(h1:i.size=1)(h16:i.bytes<=16)(hzs:z.cells.size=1)
  {W:World} {ao:Option Addr} {c:Nat} {vs:List Value} (h:(ao=none/\vs=[]/\c=0)\/∃g,ao=some ⟨g,0,none⟩/\Row W g c vs) {x:Value} {m:List Value} (hm0:0<m.length) (hs:Src P 1 tx x m.length m W) (aJ:vs.length+m.length<=1000000000) :
  ∃g' c' W',(Builtin.append_ #[t,tx] ty #[.slice ao vs.length c,x]).run P W= .ok (.slice (some ⟨g',0,none⟩) (vs++m).length c') W'/\Row W' g' c' (vs++m)/\((ao=some ⟨g',0,none⟩/\Only g' W W')\/(g'=W.heap.size/\Below W W W')):=by
 rw[zl]
 have hgrow:c<vs.length+m.length->(Builtin.firstCells i.size vs.length (.slice ao vs.length c)).run P W.drew= .ok vs.toArray W.drew ->
   ∃g' c' W',(Builtin.append_ #[t,tx] ty #[.slice ao vs.length c,x]).run P W= .ok (.slice (some ⟨g',0,none⟩) (vs.length+m.length) c') W'/\Row W' g' c' (vs++m)/\((ao=some ⟨g',0,none⟩/\Only g' W W')\/(g'=W.heap.size/\Below W W W')):=by
  intro hg hold;have hfit:(vs.length+m.length)*i.bytes<=140737488355328:=bf (Nat.mul_le_mul aJ h16) (by decide);have hrun:=run_append_grow_src (P:=P) W t tx ty e i z ht hi hz ao vs.length c vs hold x m.length m (by rw[h1];exact hs) hg (by omega) (growslice_fits hg hfit);have hge:=grownCap_ge W (vs.length+m.length) c e;have e1:=World.cell?_alloc_new W.drew ((vs++m).toArray++Builtin.zeroCells z.cells (grownCap W (vs.length+m.length) c e-(vs.length+m.length))) e;refine⟨W.heap.size,_,_,hrun,⟨by simp,by rw[zl];exact hge,λ j hj=>?_,λ j hj=>⟨?_,World.frozen?_alloc_new W.drew _ _ j⟩⟩,.inr ⟨rfl,(aP W W).drew.alloc (aZ _) _⟩⟩
  ·refine Eq.trans (e1 j) ?_;rw[Array.getElem?_append_left (by simp only[List.size_toArray];exact hj),List.getElem?_toArray]
  have hsz:((vs++m).toArray++Builtin.zeroCells z.cells (grownCap W (vs.length+m.length) c e-(vs.length+m.length))).size=grownCap W (vs.length+m.length) c e:=by
   rw[Array.size_append,List.size_toArray,zl,size_zeroCells,hzs,zm];omega
  have e2:(W.drew.alloc (.cells ((vs++m).toArray++Builtin.zeroCells z.cells (grownCap W (vs.length+m.length) c e-(vs.length+m.length))) e)).cell? (W.heap.size,j)=_:=e1 j;rw[e2,Array.getElem?_eq_getElem (by rw[hsz];exact hj)];rfl
 rcases h with⟨rfl,rfl,rfl⟩|⟨g,rfl,h⟩
 ·exact hgrow (by simpa using hm0) (run_firstCells_none W.drew i.size 0 0 0)
 have hle:=h.le;by_cases hf:vs.length+m.length<=c
 ·have hr:=run_append_room_src (P:=P) W t tx ty e i ht hi g 0 vs.length c x m.length m (by rw[h1];exact hs) hf
   (λ j hj=>by rw[h1];exact(h.there _ (by omega)).1) (λ j hj=>by rw[h1];exact(h.there _ (by omega)).2)
  rw[h1,gq,zm]at hr;refine⟨g,c,_,hr,h.setCells vs.length m hf (vs++m) (by rw[zl];exact hf) (λ j hj=>?_) (λ j hj hc=>?_),.inl ⟨rfl,Only.setCells _ _ (Only.refl _ _)⟩⟩
  ·rw[dF (by omega),uG]
  rw[zl]at hj;exact⟨by omega,by rw[dM (by omega)]⟩
 exact hgrow (by omega) (run_firstCells_some W.drew i.size vs.length ⟨g,0,none⟩ vs.length c vs (by rw[h1,zm]) (λ j v hj=>by
  have hjl:j<vs.length:=(dn.1 hj).1;rw[uh,gq];exact(h.holds j hjl).trans hj))
theorem pV{P:Program}{t tx ty:TypeId}{sv xv v':Value}{w w':World}(hr:(Builtin.append_ #[t,tx] ty #[sv,xv]).run P w= .ok v' w'){ops:Array Oper}{rest:List Oper}{o:Oper}{a:Act}{Q:Exit->Act->World->Prop}{s x:Operand}
  (hg:o.guard=none) (hop:o.op=Op.call {callee:=Callee.builtin Builtin.append,args:= #[s,x],argTypes:= #[t,tx]}) (hty:o.type=ty) (hs:a.eval s=sv) (hx:a.eval x=xv) (hK:wpList P ops Q rest (a.put o.dst v') w') :
  wpList P ops Q (o::rest) a w:=by
 refine wpList_plain hg λ K hK'=>?_;subst hty;unfold Oper.wp;simp[execOp,hop,resolve,invoke,builtin,hs,hx,hr,Result.andThen];exact hK' _ _ hK
end UK
open Go.RowKit
namespace UK
theorem ybv(y:List UInt8)(n m:Nat)(s:List UInt8)(hs:s.length=m)(h:n+m<=y.length):(wr y n s).take (n+m)=y.take n++s:=by
 unfold wr;have h1:(y.take n).length=n:=by rw[zt];omega
 rw[kU,h1,eZ (l:=y.take n) (by omega),show n+m-n=m by omega,kU,eZ (l:=s) (by omega),hs,iF,jH,jw]
theorem VK(s:List UInt8):(cellsOf s).length=s.length:=by simp[cellsOf]
theorem xsb{P:Program}{t tn ty e:TypeId}{i:TypeInfo}{k kn:IntKind}(ht:P.underlying t=some (.slice e))(htn:P.underlying tn=some (.int kn))(hi:P.info? e=some i)(hz:i.zero=some (.int .u8 0))(hs1:i.size=1)(hb1:i.bytes=1)
  {W:World} {B bc:Nat} {x y:List UInt8} (h:aO W B y) (hyl:y.length=bc) (hle:x.length<=bc) (hpre:y.take x.length=x) (n:Nat) (h0:0<n) (aJ:x.length+n<=100000000) :
  ∃B' bc' y' W',(Builtin.append_ #[t,tn] ty #[.slice B x.length bc,.int k n]).run P W= .ok (.slice (some ⟨B',0,none⟩) (x.length+n) bc') W'/\aO W' B' y'/\y'.length=bc'/\x.length+n<=bc'/\y'.take (x.length+n)=x++bW n/\((B'=B/\Only B W W')\/(B'=W.heap.size/\Below W W W')):=by
 have hn:n≠0:=by omega
 have hw:IntKind.i64.wrap (n:Int)=n:=by rw[bN];omega
 have h63':¬(9223372036854775807<((x.length:Int)+(n:Int))):=by omega
 have h48i:¬(281474976710656<(n:Int)):=by omega
 have hneg:¬((n:Int)<0):=by omega
 have hzl:(cellsOf (bW n)).length=n:=by rw[VK,lI]
 by_cases hf:x.length+n<=bc
 ·have hst:=run_storeCells_cells (P:=P) B x.length (cellsOf (bW n)) 0 W (by
   intro j hj;rw[hzl]at hj;rw[iP,h.cell (by omega)];rfl) (by
   intro j hj;rw[hzl]at hj;rw[iP];exact h.free (by omega)) (by
   intro v hv;simp only[cellsOf,gT]at hv;obtain⟨b,_,rfl⟩:=hv;rfl)
  rw[show cellsOf (bW n)=(Builtin.zeroCells (Value.int .u8 0).cells n).toList from(Ny n).symm]at hst;refine⟨B,bc,wr y x.length (bW n),W.setCells B x.length (cellsOf (bW n)),?_,h.setCells _ _ (by rw[lI];omega),by rw[lm _ _ _ (by rw[lI];omega)];exact hyl,hf,?_,.inl ⟨rfl,Only.setCells _ _ (Only.refl _ _)⟩⟩
  ·rw[show cellsOf (bW n)=(Builtin.zeroCells (Value.int .u8 0).cells n).toList from(Ny n).symm];simp only[iP]at hst;simp[Builtin.append_,run_underlying ht,run_underlying htn,sizeOf,typeInfo,zeroValue,hi,hz,hs1,hb1,asInt,asIntOf,hw,hn,hneg,h48i,hf,uh,hst]
  rw[ybv y x.length n (bW n) (lI n) (by omega),hpre]
 have h48':¬(281474976710656<Builtin.nextslicecap (x.length+n) bc):=by
  have:=growslice_fits (show bc<x.length+n by omega) (show(x.length+n)*1<=140737488355328 by omega);omega
 have hold:(Builtin.firstCells 1 x.length (.slice B x.length bc)).run P W.drew= .ok (cellsOf x).toArray W.drew:=
  run_firstCells_some W.drew 1 x.length ⟨B,0,none⟩ x.length bc (cellsOf x) (by rw[VK,zm]) (λ j v hj=>by
   have hjl:j<x.length:=by have:=(dn.1 hj).1;rwa [VK]at this
   rw[uh,gq,h.drew.cell (by omega)]
   have e1:nth y j=nth x j:=by
    unfold nth;rw[fK,fK]
    conv=>rhs;rw[<-hpre]
    rw[iO hjl]
   rw[e1,<-xk3 x j hjl];unfold tO;rw[List.getElem?_toArray];exact hj)
 have hge:=grownCap_ge W (x.length+n) bc e;refine⟨W.heap.size,grownCap W (x.length+n) bc e,x++bW (grownCap W (x.length+n) bc e-x.length),W.drew.alloc (.cells (tO (x++bW (grownCap W (x.length+n) bc e-x.length))) e),?_,?_,?_,hge,?_,.inr ⟨rfl,(aP W W).drew.alloc (aZ _) _⟩⟩
 ·have hcells:(cellsOf x).toArray++(Builtin.zeroCells (Value.int .u8 0).cells n++Builtin.zeroCells (Value.int .u8 0).cells (grownCap W (x.length+n) bc e-(x.length+n)))=tO (x++bW (grownCap W (x.length+n) bc e-x.length)):=by
   apply Array.ext';rw[Array.toList_append,Array.toList_append,Ny,Ny];unfold tO cellsOf bW;simp only[jr,List.map_replicate,List.replicate_append_replicate];rw[show n+(grownCap W (x.length+n) bc e-(x.length+n))=grownCap W (x.length+n) bc e-x.length by omega]
  rw[<-hcells];unfold grownCap at *;simp[Builtin.append_,run_underlying ht,run_underlying htn,sizeOf,typeInfo,zeroValue,hi,hz,hs1,hb1,asInt,asIntOf,hw,hn,hneg,h48i,hf,h63',h48',Question.forced,hold,newRow]
 ·refine⟨e,(0,0),?_,λ i _ hh=>absurd hh.2 (qh _)⟩;show(W.drew.heap.push _)[W.heap.size]?=_;rw[show W.heap.size=W.drew.heap.size from rfl,sF]
 ·rw[zl,lI];omega
 rw[kU,eZ (by omega),show x.length+n-x.length=n by omega];unfold bW;rw[List.take_replicate,lH (by omega)]
theorem I9{P:Program}{t ty e:TypeId}{i:TypeInfo}{z:Value}(ht:P.underlying t=some (.slice e))(hi:P.info? e=some i)(hz:i.zero=some z)(h1:i.size=1)(h16:i.bytes<=16)(hzs:z.cells.size=1)
  {W:World} {ao:Option Addr} {c:Nat} {vs:List Value} (h:(ao=none/\vs=[]/\c=0)\/∃g,ao=some ⟨g,0,none⟩/\Row W g c vs) (v:Value) (hv:v.oneCell'=true) (aJ:vs.length+1<=1000000000) :
  ∃g' c' W',(Builtin.append_ #[t,t] ty #[.slice ao vs.length c,.slice W 1 1]).run P (W.alloc (.cells #[v] e))= .ok (.slice (some ⟨g',0,none⟩) (vs.length+1) c') W'/\Row W' g' c' (vs++[v])/\Only g' W W'/\(ao=some ⟨g',0,none⟩\/W.heap.size<=g'):=by
 have ha:(ao=none/\vs=[]/\c=0)\/∃g,ao=some ⟨g,0,none⟩/\Row (W.alloc (.cells #[v] e)) g c vs:=by
  rcases h with h|⟨g,e1,h⟩
  ·exact .inl h
  exact .inr ⟨g,e1,h.alloc _⟩
 obtain⟨g',c',W',e1,r,o⟩:=MI (P:=P) (t:=t) (tx:=t) (ty:=ty) ht hi hz h1 h16 hzs ha (x:=.slice W 1 1) (m:=[v]) (by simp) (Src.ofSlice _ ht ⟨W.heap.size,0,none⟩ 1 1 [v] rfl (λ j u hj=>by
   have hj0:j=0:=by
    by_cases hc:j<1
    ·omega
    rw[ny (by simp;omega)]at hj;cases hj
   subst hj0;rw[uh,gq];refine(World.cell?_alloc_new W #[v] e 0).trans ?_
   exact hj) (λ u hu=>by
    obtain rfl:=bQ.1 hu;exact hv)) (by simpa using aJ)
 rw[zl]at e1;refine⟨g',c',W',e1,r,?_⟩;rcases o with⟨a,o⟩|⟨a,b⟩
 ·exact⟨((Only.refl g' W).alloc _).trans o,.inl a⟩
 have hs:(W.alloc (.cells #[v] e)).heap.size=W.heap.size+1:=by simp
 exact⟨((Only.refl g' W).alloc _).trans (Only.of_below b),.inr (by rw[a,hs];omega)⟩
end UK
open Go.RowKit
namespace UK
def aI(W:World)(g:Nat)(cs:Array Value):Prop:=∃t,W.heap[g]?=some (.cells cs t (0,0))
namespace aI
variable{W W':World}{g:Nat}{cs:Array Value}
theorem new(W:World)(cs:Array Value)(t:TypeId):aI (W.alloc (.cells cs t)) W cs:=⟨t,by
 show(W.heap.push _)[W.heap.size]?=_;rw[sF]⟩
theorem lt(h:aI W g cs):g<W.heap.size:=by
 obtain⟨t,hb⟩:=h;exact(su.1 hb).1
theorem af(h:aI W g cs)(hb:W'.heap[g]?=W.heap[g]?):aI W' g cs:=by
 obtain⟨t,hc⟩:=h;exact⟨t,hb.trans hc⟩
theorem below{n:Nat}(h:aI W g cs)(hb:Below n W W')(hn:g<n):aI W' g cs:=h.af (hb.block g hn)
theorem next(h:aI W g cs)(hb:Below W W W'):aI W' g cs:=h.below hb h.lt
theorem only{B:Nat}(h:aI W g cs)(ho:Only B W W')(hn:g≠B):aI W' g cs:=h.af (ho.block g h.lt hn)
theorem alloc(h:aI W g cs)(o:Obj):aI (W.alloc o) g cs:=h.af (Below.heap_alloc W o g h.lt)
theorem far(h:aI W g cs){b j:Nat}(v:Value)(hn:g≠b):aI (W.setCell (b,j) v) g cs:=h.af (Below.heap_setCell W _ v g hn)
theorem set(h:aI W g cs)(j:Nat)(v:Value):aI (W.setCell (g,j) v) g (cs.set! j v):=by
 obtain⟨t,hb⟩:=h;refine⟨t,?_⟩;simp only[World.setCell,Array.getElem?_modify,if_true,hb,Option.map_some]
 congr 2
theorem cell(h:aI W g cs)(j:Nat)(v:Value)(hv:cs[j]?=some v):W.cell? (g,j)=some v:=by
 obtain⟨t,hb⟩:=h;unfold World.cell?;simp only[hb];exact hv
theorem free(h:aI W g cs)(j:Nat):W.frozen? ⟨g,j,none⟩=false:=by
 obtain⟨t,hb⟩:=h;unfold World.frozen?;simp only[hb];simp
theorem row(h:aI W g cs):Row W g cs.size cs.toList:=by
 refine⟨h.lt,by simp,λ j hj=>?_,λ j hj=>⟨?_,h.free j⟩⟩
 ·have hj':j<cs.size:=by simpa using hj
  rw[h.cell j cs[j] (Array.getElem?_eq_getElem hj'),Array.getElem?_toList,Array.getElem?_eq_getElem hj']
 rw[h.cell j cs[j] (Array.getElem?_eq_getElem hj)];rfl
theorem load{P:Program}{ty:TypeId}{d:TypeDesc}(h:aI W g cs)(hu:P.underlying ty=some d)(hd:(match d with| .struct _| .array _ _=>true|_=>false)=true)(hi:(P.info? ty).map (·.size)=some cs.size) :
  (loadVar ty ⟨g,0,none⟩).run P W= .ok (.agg cs) W:=by
 obtain⟨t,hb⟩:=h;exact run_loadVar_row W g t ty cs (0,0) d hb hu hd hi
end aI
theorem zk{P:Program}{fn:Func}{p u:Tmp}{ty:TypeId}(h:fn.results= #[.cell p ty,.tmp u])(tmps:Array Value){w:World}{g:Nat}{cs:Array Value}{d:TypeDesc}(hb:aI w g cs)
  (hp:tmps.getD p undef= .pointer g) (hu:P.underlying ty=some d) (hd:(match d with| .struct _| .array _ _=>true|_=>false)=true) (hi:(P.info? ty).map (·.size)=some cs.size) :
  (results fn tmps).run P w= .ok (.tuple #[.agg cs,tmps.getD u undef]) w:=by
 have hp':tmps[p]?.getD undef= .pointer g:=by simpa using hp
 simp[results,h,hp',asAddr,hb.load hu hd hi]
end UK
end Go.Proofs.YtlipgbnnbefhjaaGreatDoor
namespace Go.Proofs.YtlipgbnnbefhjaaGreatDoor.UK
open Go.RowKit
def bl(x:List Bool):Array Value:=(x.map Value.bool).toArray
def yQ(W:World)(B:Nat)(x:List Bool):Prop:=∃e,W.heap[B]?=some (.cells (bl x) e (0,0))
def tr(x:List Bool)(i:Nat):Bool:=x.getD i false
namespace yQ
variable{W W':World}{B:Nat}{x:List Bool}
theorem lt(h:yQ W B x):B<W.heap.size:=by
 obtain⟨e,hb⟩:=h;exact(su.1 hb).1
theorem cell(h:yQ W B x){i:Nat}(hi:i<x.length):W.cell? (B,i)=some (.bool (tr x i)):=by
 obtain⟨e,hb⟩:=h;unfold World.cell?;simp only[hb];simp[bl,tr,List.getD,hi]
theorem free(h:yQ W B x)(i:Nat):W.frozen? ⟨B,i,none⟩=false:=by
 obtain⟨e,hb⟩:=h;unfold World.frozen?;simp only[hb];simp
theorem af(h:yQ W B x)(hb:W'.heap[B]?=W.heap[B]?):yQ W' B x:=by
 obtain⟨e,hc⟩:=h;exact⟨e,hb.trans hc⟩
theorem set(h:yQ W B x)(i:Nat)(v:Bool):yQ (W.setCell (B,i) (.bool v)) B (x.set i v):=by
 obtain⟨e,hb⟩:=h;refine⟨e,?_⟩;simp only[World.setCell,Array.getElem?_modify,if_true,hb,Option.map_some]
 congr 2
 simp[bl,List.map_set]
theorem drewN(h:yQ W B x)(n:Nat):yQ (W.drewN n) B x:=h
theorem below{n:Nat}(h:yQ W B x)(hb:Below n W W')(hn:B<n):yQ W' B x:=h.af (hb.block B hn)
end yQ
end Go.Proofs.YtlipgbnnbefhjaaGreatDoor.UK
namespace Go.Proofs.YtlipgbnnbefhjaaGreatDoor
open Go.RowKit
section
variable{W:World}{g:Nat}{r:List Value}{x0 x1 x2 x3 x4 x5 x6 x7 x8:Value}
theorem UK.aI.c0(h:UK.aI W g (List.toArray (x0::r))):W.cell? g=some x0:=h.cell 0 _ (by simp)
theorem UK.aI.d0(h:UK.aI W g (List.toArray (x0::r))):∀q,(W.drewN q).cell? g=some x0:=λ q=>h.cell 0 _ (by simp)
theorem UK.aI.c1(h:UK.aI W g (List.toArray (x0::x1::r))):W.cell? (g,1)=some x1:=h.cell 1 _ (by simp)
theorem UK.aI.d1(h:UK.aI W g (List.toArray (x0::x1::r))):∀q,(W.drewN q).cell? (g,1)=some x1:=λ q=>h.cell 1 _ (by simp)
theorem UK.aI.c2(h:UK.aI W g (List.toArray (x0::x1::x2::r))):W.cell? (g,2)=some x2:=h.cell 2 _ (by simp)
theorem UK.aI.d2(h:UK.aI W g (List.toArray (x0::x1::x2::r))):∀q,(W.drewN q).cell? (g,2)=some x2:=λ q=>h.cell 2 _ (by simp)
theorem UK.aI.c3(h:UK.aI W g (List.toArray (x0::x1::x2::x3::r))):W.cell? (g,3)=some x3:=h.cell 3 _ (by simp)
theorem UK.aI.d3(h:UK.aI W g (List.toArray (x0::x1::x2::x3::r))):∀q,(W.drewN q).cell? (g,3)=some x3:=λ q=>h.cell 3 _ (by simp)
theorem UK.aI.c4(h:UK.aI W g (List.toArray (x0::x1::x2::x3::x4::r))):W.cell? (g,4)=some x4:=h.cell 4 _ (by simp)
theorem UK.aI.d4(h:UK.aI W g (List.toArray (x0::x1::x2::x3::x4::r))):∀q,(W.drewN q).cell? (g,4)=some x4:=λ q=>h.cell 4 _ (by simp)
theorem UK.aI.c5(h:UK.aI W g (List.toArray (x0::x1::x2::x3::x4::x5::r))):W.cell? (g,5)=some x5:=h.cell 5 _ (by simp)
theorem UK.aI.c6(h:UK.aI W g (List.toArray (x0::x1::x2::x3::x4::x5::x6::r))):W.cell? (g,6)=some x6:=h.cell 6 _ (by simp)
theorem UK.aI.c7(h:UK.aI W g (List.toArray (x0::x1::x2::x3::x4::x5::x6::x7::r))):W.cell? (g,7)=some x7:=h.cell 7 _ (by simp)
theorem UK.aI.c8(h:UK.aI W g (List.toArray (x0::x1::x2::x3::x4::x5::x6::x7::x8::r))):W.cell? (g,8)=some x8:=h.cell 8 _ (by simp)
end
end Go.Proofs.YtlipgbnnbefhjaaGreatDoor
