/- Facts on texts and trees on pages. -/
import Derived.Test.YtgpmiliahonaoaaGreatDoorRows
import Derived.WalkKit
import Derived.WalkSpells
import Derived.WalkLawsBesides
import Derived.Laws.IdiomStrings
import Derived.Outline
import Derived.Lib.Hide
import Derived.Deep.QuietTactic
import Derived.BigQuiet
import Derived.Laws.IdiomCopy
import Derived.Lib.LazyBuf
import Derived.Deep.AppendSrc
import Derived.OwnWalk
import Derived.Laws.Rows
import Derived.Laws.Tables
import Derived.Maps.OwnSet
import Derived.Maps.StringElems
set_option maxRecDepth 100000
set_option maxHeartbeats 8000000
set_option linter.unusedSimpArgs false
namespace Go.Proofs.YtgpmiliahonaoaaGreatDoor
open Go.RowKit
section
theorem zS.{u}{α:Type u}(l:List α)(i:Nat)(a:α):l.toArray.setIfInBounds i a=(l.set i a).toArray:=List.setIfInBounds_toArray l i a
theorem z0.{u}{α:Type u}{x:α}{xs:List α}{a:α}:(x::xs).set 0 a=a::xs:=rfl
theorem z1.{u}{α:Type u}{x:α}{xs:List α}{i:Nat}{a:α}:(x::xs).set (i+1) a=x::xs.set i a:=rfl
theorem zA{a b:Prop}(x:a)(y:b):a/\b:=⟨x,y⟩
theorem zH{p:Prop}(h:p):RowKit.Hid p:=h
theorem bZ{a b c:Nat}(h:a<b)(k:b<=c):a<c:=Nat.lt_of_lt_of_le h k
theorem zl.{u}{α:Type u}{a b:List α}:(a++b).length=a.length+b.length:=List.length_append
theorem zt.{u}{α:Type u}{i:Nat}{l:List α}:(l.take i).length=min i l.length:=List.length_take
theorem zd.{u}{α:Type u}{i:Nat}{l:List α}:(l.drop i).length=l.length-i:=List.length_drop
theorem dE.{eP}:∀{α:Type eP} {i:Nat} {a:α} {l:List α},l[i]?=some a↔∃(h:i<l.length),l[i]=a:=@List.getElem?_eq_some_iff
theorem bL.{eP}:∀{α:Type eP} {l:List α} {i:Nat} (h:i<l.length),l[i]?=some l[i]:=@List.getElem?_eq_getElem
theorem aZ.{u}:∀{α:Type u} {val Ee:α},some val=some Ee->val=Ee:=@Option.some.inj
theorem aV:∀(B:Nat) (w:World),Below B w w:=@Go.RowKit.Below.refl
theorem aO:∀(n:Nat),n<=n:=@Nat.le_refl
theorem dD.{eP}:∀{α:Type eP} {a:α} {s t:List α},a∈s++t↔a∈s\/a∈t:=@List.mem_append
theorem fE.{eP}:∀{α:Type eP} {l:List α} {i:Nat} {a:α},l.getD i a=l[i]?.getD a:=@List.getD_eq_getElem?_getD
theorem dn.{u}:∀{α:Type u} {a:α} {ls:List α},(a::ls).length=ls.length+1:=@List.length_cons
theorem lI.{u}:∀{α:Type u} {b:α} (ls:List α) {bs:List α},b∈bs->b∈ls++bs:=@List.mem_append_right
theorem bN.{eP}:∀{α:Type eP} {l₁ l₂:List α},(l₁++l₂).Nodup↔l₁.Nodup/\l₂.Nodup/\∀(a:α),a∈l₁->∀(b:α),b∈l₂->a≠b:=@List.nodup_append
theorem eF.{u}:∀{α:Type u} {a:α} {ls:List α} (bs:List α),a∈ls->a∈ls++bs:=@List.mem_append_left
theorem bP.{eP}:∀{α:Type eP} {l₁ l₂:List α} {i:Nat},l₁.length<=i->(l₁++l₂)[i]?=l₂[i-l₁.length]?:=@List.getElem?_append_right
theorem aQ.{u}:∀{α:Type u} {ls:List α} {i:Nat} {a:α},(ls.set i a).length=ls.length:=@List.length_set
theorem aN.{eP}:∀{α:Type eP} {b:α} {l:List α} {a:α},a∈b::l↔a=b\/a∈l:=@List.mem_cons
theorem bz.{eP}:∀{α:Type eP} {a b:α},a∈[b]↔a=b:=@List.mem_singleton
theorem bI.{eP}:∀{α:Type eP} {l₁ l₂:List α} {i:Nat},i<l₁.length->(l₁++l₂)[i]?=l₁[i]?:=@List.getElem?_append_left
theorem dJ:∀(n:Int),IntKind.i64.wrap n=(n+9223372036854775808)%18446744073709551616-9223372036854775808:=@Go.IntKind.wrap_i64
theorem aP:∀{n m k:Nat},n<=m->m<=k->n<=k:=@Nat.le_trans
theorem cO.{u}:∀{α:Type u} (ls bs cs:List α),ls++bs++cs=ls++(bs++cs):=@List.append_assoc
theorem cu.{eP}:∀{α:Type eP} (y:α) {a:α} {l:List α},a∈l->a∈y::l:=@List.mem_cons_of_mem
theorem jf.{eP}:∀{α:Type eP} {a:α} {i:Nat} {l:List α},a∈List.drop i l->a∈l:=@List.mem_of_mem_drop
theorem fO.{eP}:∀{α:Type eP} {i:Nat} {l:List α},l.length<=i->List.take i l=l:=@List.take_of_length_le
theorem dL.{eP,FX}:∀{α:Type eP} {β:Type FX} {f:α->β} {l:List α} {i:Nat},(List.map f l)[i]?=Option.map f l[i]?:=@List.getElem?_map
theorem eZ.{eP}:∀{α:Type eP} {l:List α} {i:Nat} {a:α},l[i]?=some a->a∈l:=@List.mem_of_getElem?
theorem iM.{eP}:∀{α:Type eP} {i:Nat} {a:α} {l:List α},a∈List.take i l->a∈l:=@List.mem_of_mem_take
theorem iq.{eP}:∀{α:Type eP} (i:Nat) (l:List α),List.take i l++List.drop i l=l:=@List.take_append_drop
theorem dW.{eP}:∀{α:Type eP} {a:α} {l:List α},(a::l).Nodup↔¬a∈l/\l.Nodup:=@List.nodup_cons
theorem iE.{u}:∀{α:Type u} {a:α},[a].length=1:=@List.length_singleton
theorem eX.{eP}:∀{α:Type eP} {l:List α} {i j:Nat},i<j->(List.take j l)[i]?=l[i]?:=@List.getElem?_take_of_lt
theorem aY:∀(n:Nat),0<=n:=@Nat.zero_le
theorem bR.{u}:∀{α:Type u} {R:α->α->Prop} {a:α} {l:List α},List.Pairwise R (a::l)↔(∀(a':α),a'∈l->R a a')/\List.Pairwise R l:=@List.pairwise_cons
theorem aT.{eP}:∀{α:Type eP} {a:α} {l:List α},a∈a::l:=@List.mem_cons_self
theorem eY.{eP}:∀{α:Type eP} {xs:List α} {i j:Nat},(List.drop i xs)[j]?=xs[i+j]?:=@List.getElem?_drop
theorem jM.{u}:∀{α:Type u} (ls:List α),[]++ls=ls:=@List.nil_append
theorem qE.{eP}:∀{α:Type eP} {l₁ l₂:List α} {i:Nat},i<=l₁.length->List.take i (l₁++l₂)=List.take i l₁:=@List.take_append_of_le_length
theorem gB.{eP}:∀{α:Type eP} {a:α} {l:List α},a∈l->∃(i:Nat),∃(h:i<l.length),l[i]=a:=@List.getElem_of_mem
theorem gY.{u}:∀{α:Type u} {n:Nat} {a:α},(List.replicate n a).length=n:=@List.length_replicate
theorem lV.{u}:∀{α:Type u} {a:α} {ls bs:List α},a::ls++bs=a::(ls++bs):=@List.cons_append
theorem eG:∀(n:Nat),0+n=n:=@Nat.zero_add
theorem bQ.{eP,FX}:∀{α:Type eP} {β:Type FX} {b:β} {f:α->β} {l:List α},b∈List.map f l↔∃(a:α),a∈l/\f a=b:=@List.mem_map
theorem lm.{eP}:∀{α:Type eP} {i:Nat} {l:List α} (h:i<l.length),List.drop i l=l[i]::List.drop (i+1) l:=@List.drop_eq_getElem_cons
theorem jL.{u}:∀{α:Type u} (ls:List α),ls++[]=ls:=@List.append_nil
theorem jo.{eP}:∀{α:Type eP} {l:List α} {i:Nat},l.length<=i->l[i]?=none:=@List.getElem?_eq_none
theorem dO.{eP,FX}:∀{α:Type eP} {β:Type FX} {f:α->β} {l₁ l₂:List α},List.map f (l₁++l₂)=List.map f l₁++List.map f l₂:=@List.map_append
theorem lu:∀(n:Nat),¬n<n:=@Nat.lt_irrefl
theorem nI.{eP}:∀{α:Type eP} {a:α} {i:Nat} {l:List α},(a::l)[i+1]?=l[i]?:=@List.getElem?_cons_succ
theorem df.{eP,FX}:∀{α:Type eP} {β:Type FX} {ls:List α} (f:α->β),(List.map f ls).length=ls.length:=@List.length_map
theorem kN:∀(n:Nat),n-n=0:=@Nat.sub_self
theorem gq:∀{w w':World} {a:Addr},w'.heap[a.block]?=w.heap[a.block]?->w'.cell? a=w.cell? a:=@Go.World.cell?_of_block
theorem jW.{u}:∀{α:Type u} {l:List α},List.take 0 l=[]:=@List.take_zero
theorem jN:∀(n:Nat),n+0=n:=@Nat.add_zero
theorem gH:∀{a b:Nat},a<=b->min a b=a:=@Nat.min_eq_left
theorem fH.{eP}:∀{α:Type eP} {l:List α},List.take l.length l=l:=@List.take_length
theorem qJ:∀(n m:Nat),n+m-n=m:=@Nat.add_sub_cancel_left
theorem kL.{eP}:∀{α:Type eP} {i j:Nat} {l:List α},List.take i (List.take j l)=List.take (min i j) l:=@List.take_take
theorem qW.{eP}:∀{α:Type eP} (l:List α),l≠[]->∃(x:α),x∈l:=@List.exists_mem_of_ne_nil
theorem dz.{u}:∀{α:Sort u} {a b:α},a≠b->b≠a:=@Ne.symm
theorem pW.{eP}:∀{α:Type eP} {xs:Array α} {x:α},(xs.push x)[xs.size]?=some x:=@Array.getElem?_push_size
theorem mM:∀{a b:Int},0<=a->a.tdiv b=a/b:=@Int.tdiv_eq_ediv_of_nonneg
theorem je.{u,v}:∀{α:Type u} {β:Type v} {f:α->β} {a:α} {l:List α},List.map f (a::l)=f a::List.map f l:=@List.map_cons
theorem jV.{eP}:∀{α:Type eP} {i j:Nat} {l:List α},List.drop i (List.drop j l)=List.drop (j+i) l:=@List.drop_drop
theorem iL.{u,v}:∀{α:Type u} {β:Type v} {x:α} {xs:List α} {f:α->List β},List.flatMap f (x::xs)=f x++List.flatMap f xs:=@List.flatMap_cons
theorem jY:∀{m n:Nat},m∈List.range n↔m<n:=@List.mem_range
theorem jO:∀(n:Nat),¬n<0:=@Nat.not_lt_zero
theorem jr:∀(x:Nat) {y:Nat},0<y->x%y<y:=@Nat.mod_lt
theorem vQ:∀(n:Nat),n*1=n:=@Nat.mul_one
theorem lN:∀(n:Int),IntKind.u64.wrap n=n%18446744073709551616:=@Go.IntKind.wrap_u64
theorem mJ:∀{a b:UInt64},a.toNat=b.toNat↔a=b:=@UInt64.toNat_inj
theorem xii:∀(n m:Nat),n<m\/n≥m:=@Nat.lt_or_ge
theorem wV:∀{a b:Nat},a<b->a%b=a:=@Nat.mod_eq_of_lt
instance:Coe Nat Addr:=⟨λ b=>⟨b,0,none⟩⟩
instance (a b:Nat):CoeDep (Nat×Nat) (a,b) Addr:=⟨⟨a,b,none⟩⟩
instance (a b:Nat):CoeDep (Nat×Nat) (a,b) (Option Addr):=⟨some ⟨a,b,none⟩⟩
instance:Coe World Nat:=⟨λ w=>w.heap.size⟩
end
end Go.Proofs.YtgpmiliahonaoaaGreatDoor
namespace Go.Proofs.YtgpmiliahonaoaaGreatDoor.UK
open Go.RowKit
def xr(a b:UInt32):UInt32:=a ^^^ b
def jl(a b:UInt32):UInt32:=a ||| b
def nt(a:UInt32):UInt32:= ~~~a
def nZ(a:UInt32):UInt32:=a &&& 15
def Eg(a:UInt32):UInt32:=a/16
def poly:UInt32:=2197175160
def hf(a:UInt32):UInt32:=a/2
def YO(a:UInt8):UInt8:=a/2
def Om(a:UInt32):UInt32:=a/256
def L9(a b:UInt32):Bool:=a.toNat%2 != b.toNat%2
def OA(a b:UInt8):UInt8:=a ^^^ b
def wide(b:UInt8):UInt32:=b.toUInt32
def mG(c:UInt32)(i:Nat):UInt8:=UInt8.ofNat (c.toNat/256^i)
def shl(b:UInt32)(i:Nat):UInt32:=UInt32.ofNat (b.toNat*256^i)
@[go_sem] theorem aay (b:UInt32):(b.toNat:Int)*256%4294967296=((shl b 1).toNat:Int):=by simp[shl]
@[go_sem] theorem aaz (b:UInt32):(b.toNat:Int)*65536%4294967296=((shl b 2).toNat:Int):=by simp[shl]
@[go_sem] theorem aa0 (b:UInt32):(b.toNat:Int)*16777216%4294967296=((shl b 3).toNat:Int):=by simp[shl]
@[go_sem] theorem SX (a:UInt32):(a.toNat:Int)/2=((hf a).toNat:Int):=by simp[hf]
@[go_sem] theorem YP (a:UInt8):(a.toNat:Int)/2=((YO a).toNat:Int):=by simp[YO]
@[go_sem] theorem Im (a:UInt32):(a.toNat:Int)/256=((Om a).toNat:Int):=by simp[Om]
@[go_sem] theorem Io (a:UInt32):mG (Om a) 0=mG a 1:=by simp[mG,Om]
@[go_sem] theorem LA (a b:UInt32):((a.toNat:Int)%2 !=(b.toNat:Int)%2)=L9 a b:=by
 have h:((a.toNat:Int)%2=(b.toNat:Int)%2)↔(a.toNat%2=b.toNat%2):=by omega
 unfold L9 bne
 congr 1
 rw[Bool.eq_iff_iff,beq_iff_eq,beq_iff_eq,h]
@[go_sem] theorem FY (u:UInt32) (k:Nat):(u.toNat:Int)/2^(8*k)%256=((mG u k).toNat:Int):=by
 rw[show(2:Int)^(8*k)=((256^k:Nat):Int) by rw[Int.pow_mul];norm_cast];simp[mG]
theorem Zn(a b:UInt32):((a.toNat:Int) !=(b.toNat:Int))=!(a==b):=by
 unfold bne
 congr 1
 rw[Bool.eq_iff_iff,beq_iff_eq,beq_iff_eq];exact⟨λ h=>UInt32.toNat_inj.1 (by omega),λ h=>by rw[h]⟩
theorem Vq(b:UInt32):(b.toNat:Int)<4294967296:=by have:=b.toNat_lt;omega
@[go_sem] theorem LB (b:UInt8):(b.toNat:Int)%4294967296=((wide b).toNat:Int):=by simp[wide];have:=b.toNat_lt;omega
@[go_sem] theorem Oo (b:UInt8):(b.toNat:Int)%256=(b.toNat:Int):=by have:=b.toNat_lt;omega
@[go_sem] theorem Ip (b:UInt32):(b.toNat:Int)%4294967296=(b.toNat:Int):=by have:=b.toNat_lt;omega
@[go_sem] theorem LC (b:UInt32):(b.toNat:Int)%256=((mG b 0).toNat:Int):=by simp[mG]
@[go_sem] theorem Iq (b:UInt32):(b.toNat:Int)/256%256=((mG b 1).toNat:Int):=by simp[mG]
@[go_sem] theorem Ir (b:UInt32):(b.toNat:Int)/65536%256=((mG b 2).toNat:Int):=by simp[mG]
@[go_sem] theorem Iu (b:UInt32):(b.toNat:Int)/16777216%256=((mG b 3).toNat:Int):=by simp[mG]
@[go_sem] theorem CJ (a b:UInt32):bits .xor .u32 (a.toNat:Int) (b.toNat:Int)=((xr a b).toNat:Int):=by
 rw[u32_xor_nat _ _ a.toNat_lt b.toNat_lt,xr,UInt32.toNat_xor]
@[go_sem] theorem SY (a b:UInt8):bits .xor .u8 (a.toNat:Int) (b.toNat:Int)=((OA a b).toNat:Int):=by
 rw[u8_xor_nat _ _ a.toNat_lt b.toNat_lt,OA,UInt8.toNat_xor]
@[go_sem] theorem Ta (a b:UInt32):bits .or .u32 (a.toNat:Int) (b.toNat:Int)=((jl a b).toNat:Int):=by
 rw[u32_or_nat _ _ a.toNat_lt b.toNat_lt,jl,UInt32.toNat_or]
@[go_sem] theorem Oq (a:UInt32):bits .xor .u32 IntKind.u32.max (a.toNat:Int)=((nt a).toNat:Int):=by
 have:IntKind.u32.max=(((4294967295:UInt32).toNat:Nat):Int):=by decide
 rw[this,u32_xor_nat _ _ (by decide) a.toNat_lt,<-UInt32.toNat_xor,nt];rw[show(4294967295:UInt32) ^^^ a= ~~~a from by apply UInt32.toBitVec_inj.1;simp[<-BitVec.allOnes_xor]]
@[go_sem] theorem Ot (a:UInt32):(4294967295-(a.toNat:Int))%4294967296=((nt a).toNat:Int):=by
 have:=a.toNat_lt;rw[nt,UInt32.toNat_not];simp only[UInt32.size];omega
@[go_sem] theorem LD (a:UInt32):bits .xor .u32 (a.toNat:Int) 2197175160=((xr a poly).toNat:Int):=CJ a poly
@[go_sem] theorem Iw (a:UInt32):bits .and .u32 (a.toNat:Int) 15=((nZ a).toNat:Int):=by
 rw[show(15:Int)=((15:UInt32).toNat:Int) by decide];rw[u32_and_nat _ _ a.toNat_lt (by decide),nZ,UInt32.toNat_and]
@[go_sem] theorem Iy (a:UInt32):(a.toNat:Int)/16=((Eg a).toNat:Int):=by
 simp[Eg]
theorem Tf(a:UInt32):((nZ a).toNat:Int)<16:=by
 have:(nZ a).toNat<=15:=by rw[nZ,UInt32.toNat_and];exact Nat.and_le_right
 omega
/-! ## strings as lists of bytes -/
def nth(l:List UInt8)(i:Nat):UInt8:=l.getD i 0
def str(l:List UInt8):ByteArray:=⟨l.toArray⟩
theorem xyr(s:ByteArray):s=str s.data.toList:=by simp[str]
@[go_sem] theorem dY (l:List UInt8):(str l).size=l.length:=by simp[str,ByteArray.size]
@[go_sem] theorem Ef (l:List UInt8) (a b:Nat):(str l).extract a b=str ((l.take b).drop a):=by
 apply ByteArray.ext;simp[str,ByteArray.data_extract,List.drop_take]
@[go_sem] theorem uz (l m:List UInt8):str l++str m=str (l++m):=by
 apply ByteArray.ext;simp[str]
@[go_sem] theorem mi (l:List UInt8):(str l).data.toList=l:=by simp[str]
@[go_sem] theorem FZ (l:List UInt8):(str l).toList=l:=ByteArray.toList_mk l
@[go_sem] theorem Ou (l:List UInt8) (i:Nat) (h:i<(str l).size):(str l)[i]'h=nth l i:=by
 have h':i<l.length:=by simpa[dY]using h
 show(str l).data[i]=_;simp[str,nth,List.getD,h']
@[go_sem] theorem Tc (l:List UInt8):ByteArray.mk l.toArray=str l:=rfl
/-! ## a region that draws its order,over a class of worlds -/
structure Kept(I:World->Prop) where
 w:World
 h:I w
def pE(l:List UInt8):Array Value:=(l.map λ b=>Value.int .u8 (b.toNat:Int)).toArray
def aF(W:World)(B:Nat)(x:List UInt8):Prop:=∃e fr,W.heap[B]?=some (.cells (pE x) e fr)/\∀i,i<x.length->¬(fr.1<=i/\i<fr.2)
theorem YQ(x:List UInt8)(i:Nat)(h:i<x.length):(pE x)[i]?=some (.int .u8 ((nth x i).toNat:Int)):=by
 simp[pE,nth,List.getD,h]
theorem aF.cell{W:World}{B:Nat}{x:List UInt8}(h:aF W B x){i:Nat}(hi:i<x.length):W.cell? (B,i)=some (.int .u8 ((nth x i).toNat:Int)):=by
 obtain⟨e,fr,hb,_⟩:=h;unfold World.cell?;simp only[hb];exact YQ x i hi
theorem aF.free{W:World}{B:Nat}{x:List UInt8}(h:aF W B x){i:Nat}(hi:i<x.length):W.frozen? ⟨B,i,none⟩=false:=by
 obtain⟨e,fr,hb,hf⟩:=h;unfold World.frozen?;simp only[hb];have:=hf i hi;simp only[Bool.and_eq_false_iff,decide_eq_false_iff_not];omega
theorem aF.lt{W:World}{B:Nat}{x:List UInt8}(h:aF W B x):B<W.heap.size:=by
 obtain⟨e,fr,hb,_⟩:=h;exact(Array.getElem?_eq_some_iff.1 hb).1
theorem aF.ae{W W':World}{B:Nat}{x:List UInt8}(h:aF W B x)(hb:W'.heap[B]?=W.heap[B]?):aF W' B x:=by
 obtain⟨e,fr,hc,hf⟩:=h;exact⟨e,fr,hb.trans hc,hf⟩
theorem aF.set{W:World}{B:Nat}{x:List UInt8}(h:aF W B x)(i:Nat)(v:UInt8):aF (W.setCell (B,i) (.int .u8 (v.toNat:Int))) B (x.set i v):=by
 obtain⟨e,fr,hb,hf⟩:=h;refine⟨e,fr,?_,λ j hj=>hf j (by simpa using hj)⟩;simp only[World.setCell,Array.getElem?_modify,if_true,hb,Option.map_some]
 congr 2
 simp[pE,List.map_set]
theorem aF.drew{W:World}{B:Nat}{x:List UInt8}(h:aF W B x):aF W.drew B x:=h
theorem aF.drewN{W:World}{B:Nat}{x:List UInt8}(h:aF W B x)(n:Nat):aF (W.drewN n) B x:=h
theorem aF.below{W W':World}{B n:Nat}{x:List UInt8}(h:aF W B x)(hb:Below n W W')(hn:B<n):aF W' B x:=h.ae (hb.block B hn)
theorem aF.alloc{W:World}{B:Nat}{x:List UInt8}(h:aF W B x)(o:Obj):aF (W.alloc o) B x:=h.ae (Below.heap_alloc W o B h.lt)
theorem aF.far{W:World}{B:Nat}{x:List UInt8}(h:aF W B x)(a:Addr)(v:Value)(hne:B≠a.block):aF (W.setCell a v) B x:=h.ae (Below.heap_setCell W a v B hne)
theorem tY{P:Program}{src dst e:TypeId}(hs:P.underlying src=some (.slice e))(he:P.underlying e=some (.int .u8))(hd:P.underlying dst=some .string){W:World}{B:Nat}{x:List UInt8}(h:aF W B x)(o n cap:Nat)(hn:o+n<=x.length) :
  (convert src dst (.slice (B,o) n cap)).run P W= .ok (.string (str ((x.drop o).take n))) W:=by
 have hl:((x.drop o).take n).length=n:=by rw[zt,zd];omega
 have h1:=run_convert_bytes_back (P:=P) W src dst e ⟨B,o,none⟩ cap ((x.drop o).take n) hs he hd (λ j hj=>by
  have e1:(⟨B,o,none⟩:Addr).add j=⟨B,o+j,none⟩:=by
   unfold Addr.add;by_cases hj0:j=0<;>simp[hj0]
  rw[e1,h.cell (by omega)];have hj2:o+j<x.length:=by omega
  simp[nth,List.getD,hj2])
 rw[hl]at h1;exact h1
theorem VG{P:Program}{src dst e:TypeId}(hs:P.underlying src=some .string)(hd:P.underlying dst=some (.slice e))(he:P.underlying e=some (.int .u8))(W:World)(l:List UInt8) :
  ∃cap o,l.length<=cap/\(convert src dst (.string (str l))).run P W= .ok (.slice W l.length cap) (W.drew.alloc o)/\aF (W.drew.alloc o) W (l++List.replicate (cap-l.length) 0):=by
 have h:=run_bytes_of_string (P:=P) W src dst e (str l) hs hd he;rw[dY]at h;have hc:=grownCap_ge W l.length 0 e;refine⟨grownCap W l.length 0 e,_,hc,h,e,((bytesRow (str l) (grownCap W l.length 0 e)).size,(bytesRow (str l) (grownCap W l.length 0 e)).size+1),?_,?_⟩
 ·show(W.drew.heap.push _)[W.heap.size]?=_;rw[show W.heap.size=W.drew.heap.size from rfl,pW];simp[bytesRow,str,pE,ByteArray.size]
 intro i hi;simp[bytesRow,str,ByteArray.size]at hi ⊢;omega
theorem dK{B:Nat}{a w:World}(h:Below B a w)(n:Nat):Below B a (w.drewN n):=⟨h.os,h.tape,h.output,h.size,h.block⟩
structure Only(B:Nat)(w w':World):Prop where
 os:w'.os=w.os
 tape:w'.tape=w.tape
 output:w'.output=w.output
 size:w.heap.size<=w'.heap.size
 block:∀k,k<w.heap.size->k≠B->w'.heap[k]?=w.heap[k]?
namespace Only
variable{B:Nat}{a b c w:World}
theorem refl(B:Nat)(w:World):Only B w w:=⟨rfl,rfl,rfl,aO _,λ _ _ _=>rfl⟩
theorem trans(h:Only B a b)(k:Only B b c):Only B a c:=
 ⟨k.os.trans h.os,k.tape.trans h.tape,k.output.trans h.output,aP h.size k.size,λ i hi hn=>(k.block i (bZ hi h.size) hn).trans (h.block i hi hn)⟩
theorem drew(h:Only B a w):Only B a w.drew:=⟨h.os,h.tape,h.output,h.size,h.block⟩
theorem drewN(h:Only B a w)(n:Nat):Only B a (w.drewN n):=⟨h.os,h.tape,h.output,h.size,h.block⟩
theorem alloc(h:Only B a w)(o:Obj):Only B a (w.alloc o):=
 ⟨h.os,h.tape,h.output,aP h.size (by simp),λ i hi hn=>(Below.heap_alloc w o i (bZ hi h.size)).trans (h.block i hi hn)⟩
theorem set(h:Only B a w)(i:Nat)(v:Value):Only B a (w.setCell (B,i) v):=
 ⟨h.os,h.tape,h.output,by simpa[World.setCell]using h.size,λ k hk hn=>(Below.heap_setCell w _ v k hn).trans (h.block k hk hn)⟩
theorem of_below(h:Below a.heap.size a w):Only B a w:=⟨h.os,h.tape,h.output,h.size,λ k hk _=>h.block k hk⟩
theorem below(h:Only B a w){n:Nat}(hn:n<=a.heap.size)(hB:n<=B):Below n a w:=⟨h.os,h.tape,h.output,h.size,λ k hk=>h.block k (by omega) (by omega)⟩
theorem bytes{C:Nat}{x:List UInt8}(h:Only B a w)(hx:aF a C x)(hne:C≠B):aF w C x:=hx.ae (h.block C hx.lt hne)
end Only
open Go.RowKit
def wr(x:List UInt8)(a:Nat)(s:List UInt8):List UInt8:=x.take a++(s++x.drop (a+s.length))
theorem iW(x:List UInt8)(a:Nat)(s:List UInt8)(h:a+s.length<=x.length):(wr x a s).length=x.length:=by
 simp[wr];omega
def cellsOf(s:List UInt8):List Value:=s.map λ b=>Value.int .u8 (b.toNat:Int)
theorem ya6(x:List UInt8)(a:Nat)(v:UInt8)(s:List UInt8)(h:a<x.length):wr (x.set a v) (a+1) s=wr x a (v::s):=by
 unfold wr
 have e1:(x.set a v).take (a+1)=x.take a++[v]:=by
  rw[List.take_succ_eq_append_getElem (by simpa using h),List.take_set_of_le (aO _)];simp
 have e2:(x.set a v).drop (a+1+s.length)=x.drop (a+(s.length+1)):=by
  rw[List.drop_set_of_lt (by omega),show a+1+s.length=a+(s.length+1) by omega]
 rw[e1,e2];simp
theorem aF.setCells{B:Nat}:∀(s:List UInt8) (o:Nat) {W:World} {x:List UInt8},aF W B x->o+s.length<=x.length->aF (W.setCells B o (cellsOf s)) B (wr x o s)
 | [],o,W,x,h,_=>by
  have:wr x o []=x:=by simp[wr]
  rw[this];exact h
 | v::s,o,W,x,h,hl=>by
  simp only[dn]at hl;have h1:=aF.setCells s (o+1) (h.set o v) (by rw[aQ];omega);rw[ya6 x o v s (by omega)]at h1;exact h1
theorem Only.setCells{B:Nat}{a:World}:∀(s:List Value) (o:Nat) {w:World},Only B a w->Only B a (w.setCells B o s)
 | [],_,_,h=>h
 | v::s,o,_,h=>Only.setCells s (o+1) (h.set o v)
theorem Ei{P:Program}{dT sT ty elem:TypeId}(hu:P.underlying dT=some (.slice elem))(hz:∀w,(Go.sizeOf elem).run P w= .ok 1 w){W:World}{B:Nat}{x:List UInt8}(h:aF W B x)(o dLen dCap:Nat)(s:List UInt8)(hd:s.length<=dLen)(ho:o+s.length<=x.length) :
  (Builtin.copy_ #[dT,sT] ty #[.slice (B,o) dLen dCap,.string (str s)]).run P W= .ok (goInt (s.length:Nat)) (W.setCells B o (cellsOf s)):=by
 have h1:=run_copy_string (P:=P) W dT sT ty elem B o dLen dCap (str s) hu hz (by rw[dY];exact hd) (λ j hj=>by
  rw[dY]at hj;rw[h.cell (by omega)];rfl) (λ j hj=>by
  rw[dY]at hj;exact h.free (by omega))
 rw[dY,mi]at h1;exact h1
def bF(n:Nat):List UInt8:=List.replicate n 0
theorem jm(n:Nat):(bF n).length=n:=gY
theorem xvz(n i:Nat):nth (bF n) i=0:=by
 unfold nth bF List.getD;rw[List.getElem?_replicate]
 split<;>rfl
theorem LF(n:Nat):(Builtin.zeroCells (Value.int .u8 0).cells n).toList=cellsOf (List.replicate n 0):=by
 apply List.ext_getElem?;intro i;by_cases h:i<n
 ·simp[Builtin.zeroCells,Value.cells,cellsOf,h,Nat.mod_one]
 simp[Builtin.zeroCells,Value.cells,cellsOf,h]
theorem LH{P:Program}{t ty elem:TypeId}(hu:P.underlying t=some (.slice elem))(hz:∀w,(zeroValue elem).run P w= .ok (.int .u8 0) w){W:World}{B:Nat}{x:List UInt8}(h:aF W B x)(o n c:Nat)(ho:o+n<=x.length) :
  (Builtin.clear_ #[t] ty #[.slice (B,o) n c]).run P W= .ok (.tuple #[]) (W.setCells B o (cellsOf (bF n))):=by
 unfold bF;have hl:(cellsOf (List.replicate n 0)).length=n:=by simp[cellsOf]
 have hst:=run_storeCells_cells (P:=P) B o (cellsOf (List.replicate n 0)) 0 W (by
  intro j hj;rw[hl]at hj;rw[jN,h.cell (by omega)];rfl) (by
  intro j hj;rw[hl]at hj;rw[jN];exact h.free (by omega)) (by
  intro v hv;simp only[cellsOf,bQ]at hv;obtain⟨b,_,rfl⟩:=hv;rfl)
 rw[<-LF]at hst ⊢
 cases n with
 | zero=>simp[Builtin.clear_,run_underlying hu,Builtin.zeroCells,World.setCells]
 | succ n=>
  simp only[Builtin.clear_];simp[run_underlying hu,hz];rw[hst];simp
end Go.Proofs.YtgpmiliahonaoaaGreatDoor.UK
namespace Go.Proofs.YtgpmiliahonaoaaGreatDoor
open Go.RowKit
namespace UK
structure Row(W:World)(g c:Nat)(vs:List Value):Prop where
 lt:g<W.heap.size
 le:vs.length<=c
 holds:∀j,j<vs.length->W.cell? (g,j)=vs[j]?
 there:∀j,j<c->(W.cell? (g,j)).isSome=true/\W.frozen? ⟨g,j,none⟩=false
theorem lQ(b off n:Nat):(⟨b,off,none⟩:Addr).add n=⟨b,off+n,none⟩:=by
 unfold Addr.add;split<;>simp_all
namespace Row
variable{W W':World}{g c:Nat}{vs:List Value}
theorem ae(h:Row W g c vs)(hs:W.heap.size<=W'.heap.size)(hb:W'.heap[g]?=W.heap[g]?):Row W' g c vs:=
 ⟨bZ h.lt hs,h.le,λ j hj=>(gq (a:=⟨g,j,none⟩) hb).trans (h.holds j hj),
  λ j hj=>⟨by rw[gq (a:=⟨g,j,none⟩) hb];exact(h.there j hj).1,(World.frozen?_of_block (a:=⟨g,j,none⟩) hb).trans (h.there j hj).2⟩⟩
theorem drewN(h:Row W g c vs)(n:Nat):Row (W.drewN n) g c vs:=h.ae (aO _) rfl
theorem below{n:Nat}(h:Row W g c vs)(hb:Below n W W')(hn:g<n):Row W' g c vs:=h.ae hb.size (hb.block g hn)
theorem only{B:Nat}(h:Row W g c vs)(ho:Only B W W')(hn:g≠B):Row W' g c vs:=h.ae ho.size (ho.block g h.lt hn)
theorem alloc(h:Row W g c vs)(o:Obj):Row (W.alloc o) g c vs:=h.ae (by simp) (Below.heap_alloc W o g h.lt)
theorem at'(h:Row W g c vs)(j:Nat)(v:Value)(hv:vs[j]?=some v):W.cell? (g,j)=some v:=by
 have hj:j<vs.length:=(dE.1 hv).1;rw[h.holds j hj,hv]
theorem free(h:Row W g c vs)(j:Nat)(hj:j<c):W.frozen? ⟨g,j,none⟩=false:=(h.there j hj).2
theorem take(h:Row W g c vs)(n:Nat):Row W g c (vs.take n):=by
 refine⟨h.lt,by rw[zt];have:=h.le;omega,λ j hj=>?_,h.there⟩;rw[zt]at hj;rw[h.holds j (by omega),eX (by omega)]
theorem setCells(h:Row W g c vs)(o:Nat)(m:List Value)(hm:o+m.length<=c)(k:List Value)(hk:k.length<=c)
  (hin:∀j,j<m.length->k[o+j]?=m[j]?) (hout:∀j,j<k.length->j<o\/o+m.length<=j->j<vs.length/\k[j]?=vs[j]?) :
  Row (W.setCells g o m) g c k:=by
 have hs:∀j,j<m.length->(W.cell? (g,o+j)).isSome=true:=λ j hj=>(h.there _ (by omega)).1;have ci:=World.cell?_setCells_in g m o W hs;have co:∀j,j<o\/o+m.length<=j->(W.setCells g o m).cell? (g,j)=W.cell? (g,j):=λ j hj=>World.cell?_setCells_out g m o W ⟨g,j,none⟩ (λ _ _=>hj);refine⟨bZ h.lt (Only.setCells m o (Only.refl g W)).size,hk,λ j hj=>?_,λ j hj=>⟨?_,by rw[World.frozen?_setCells];exact(h.there j hj).2⟩⟩
 ·by_cases hc:j<o\/o+m.length<=j
  ·rw[co j hc,h.holds j (hout j hj hc).1,(hout j hj hc).2]
  have:=ci (j-o) (by omega);rw[show o+(j-o)=j by omega]at this;rw[this,<-bL,<-hin (j-o) (by omega),show o+(j-o)=j by omega]
 by_cases hc:j<o\/o+m.length<=j
 ·rw[co j hc];exact(h.there j hj).1
 have:=ci (j-o) (by omega);rw[show o+(j-o)=j by omega]at this;rw[this];rfl
theorem set(h:Row W g c vs)(i:Nat)(v:Value)(hi:i<vs.length):Row (W.setCell (g,i) v) g c (vs.set i v):=by
 have hle:=h.le;refine h.setCells i [v] (by simp;omega) (vs.set i v) (by simpa using hle) (λ j hj=>?_) (λ j hj hc=>?_)
 ·obtain rfl:j=0:=by simpa using hj
  simp[hi]
 simp only[aQ]at hj;simp only[iE]at hc;refine⟨hj,?_⟩;rw[List.getElem?_set_ne (by omega)]
end Row
theorem GQ{P:Program}{t tx ty e:TypeId}{i:TypeInfo}{z:Value}(ht:P.underlying t=some (.slice e))(hi:P.info? e=some i)(hz:i.zero=some z)(h1:i.size=1)(h16:i.bytes<=16)(hzs:z.cells.size=1)
  {W:World} {ao:Option Addr} {c:Nat} {vs:List Value} (h:(ao=none/\vs=[]/\c=0)\/∃g,ao=some ⟨g,0,none⟩/\Row W g c vs) {x:Value} {m:List Value} (hm0:0<m.length) (hs:Src P 1 tx x m.length m W) (aD:vs.length+m.length<=1000000000) :
  ∃g' c' W',(Builtin.append_ #[t,tx] ty #[.slice ao vs.length c,x]).run P W= .ok (.slice (some ⟨g',0,none⟩) (vs++m).length c') W'/\Row W' g' c' (vs++m)/\((ao=some ⟨g',0,none⟩/\Only g' W W')\/(g'=W.heap.size/\Below W W W')):=by
 rw[zl]
 have hgrow:c<vs.length+m.length->(Builtin.firstCells i.size vs.length (.slice ao vs.length c)).run P W.drew= .ok vs.toArray W.drew ->
   ∃g' c' W',(Builtin.append_ #[t,tx] ty #[.slice ao vs.length c,x]).run P W= .ok (.slice (some ⟨g',0,none⟩) (vs.length+m.length) c') W'/\Row W' g' c' (vs++m)/\((ao=some ⟨g',0,none⟩/\Only g' W W')\/(g'=W.heap.size/\Below W W W')):=by
  intro hg hold;have hfit:(vs.length+m.length)*i.bytes<=140737488355328:=aP (Nat.mul_le_mul aD h16) (by decide);have hrun:=run_append_grow_src (P:=P) W t tx ty e i z ht hi hz ao vs.length c vs hold x m.length m (by rw[h1];exact hs) hg (by omega) (growslice_fits hg hfit);have hge:=grownCap_ge W (vs.length+m.length) c e;have e1:=World.cell?_alloc_new W.drew ((vs++m).toArray++Builtin.zeroCells z.cells (grownCap W (vs.length+m.length) c e-(vs.length+m.length))) e;refine⟨W.heap.size,_,_,hrun,⟨by simp,by rw[zl];exact hge,λ j hj=>?_,λ j hj=>⟨?_,World.frozen?_alloc_new W.drew _ _ j⟩⟩,.inr ⟨rfl,(aV W W).drew.alloc (aO _) _⟩⟩
  ·refine Eq.trans (e1 j) ?_;rw[Array.getElem?_append_left (by simp only[List.size_toArray];exact hj),List.getElem?_toArray]
  have hsz:((vs++m).toArray++Builtin.zeroCells z.cells (grownCap W (vs.length+m.length) c e-(vs.length+m.length))).size=grownCap W (vs.length+m.length) c e:=by
   rw[Array.size_append,List.size_toArray,zl,size_zeroCells,hzs,vQ];omega
  have e2:(W.drew.alloc (.cells ((vs++m).toArray++Builtin.zeroCells z.cells (grownCap W (vs.length+m.length) c e-(vs.length+m.length))) e)).cell? (W.heap.size,j)=_:=e1 j;rw[e2,Array.getElem?_eq_getElem (by rw[hsz];exact hj)];rfl
 rcases h with⟨rfl,rfl,rfl⟩|⟨g,rfl,h⟩
 ·exact hgrow (by simpa using hm0) (run_firstCells_none W.drew i.size 0 0 0)
 have hle:=h.le;by_cases hf:vs.length+m.length<=c
 ·have hr:=run_append_room_src (P:=P) W t tx ty e i ht hi g 0 vs.length c x m.length m (by rw[h1];exact hs) hf
   (λ j hj=>by rw[h1];exact(h.there _ (by omega)).1) (λ j hj=>by rw[h1];exact(h.there _ (by omega)).2)
  rw[h1,eG,vQ]at hr;refine⟨g,c,_,hr,h.setCells vs.length m hf (vs++m) (by rw[zl];exact hf) (λ j hj=>?_) (λ j hj hc=>?_),.inl ⟨rfl,Only.setCells _ _ (Only.refl _ _)⟩⟩
  ·rw[bP (by omega),qJ]
  rw[zl]at hj;exact⟨by omega,by rw[bI (by omega)]⟩
 exact hgrow (by omega) (run_firstCells_some W.drew i.size vs.length ⟨g,0,none⟩ vs.length c vs (by rw[h1,vQ]) (λ j v hj=>by
  have hjl:j<vs.length:=(dE.1 hj).1;rw[lQ,eG];exact(h.holds j hjl).trans hj))
theorem lH{P:Program}{t tx ty:TypeId}{sv xv v':Value}{w w':World}(hr:(Builtin.append_ #[t,tx] ty #[sv,xv]).run P w= .ok v' w'){ops:Array Oper}{rest:List Oper}{o:Oper}{a:Act}{Q:Exit->Act->World->Prop}{s x:Operand}
  (hg:o.guard=none) (hop:o.op=Op.call {callee:=Callee.builtin Builtin.append,args:= #[s,x],argTypes:= #[t,tx]}) (hty:o.type=ty) (hs:a.eval s=sv) (hx:a.eval x=xv) (hK:wpList P ops Q rest (a.put o.dst v') w') :
  wpList P ops Q (o::rest) a w:=by
 refine wpList_plain hg λ K hK'=>?_;subst hty;unfold Oper.wp;simp[execOp,hop,resolve,invoke,builtin,hs,hx,hr,Result.andThen];exact hK' _ _ hK
end UK
open Go.RowKit
namespace UK
theorem ycd(y:List UInt8)(n m:Nat)(s:List UInt8)(hs:s.length=m)(h:n+m<=y.length):(wr y n s).take (n+m)=y.take n++s:=by
 unfold wr;have h1:(y.take n).length=n:=by rw[zt];omega
 rw[List.take_append,h1,fO (l:=y.take n) (by omega),show n+m-n=m by omega,List.take_append,fO (l:=s) (by omega),hs,kN,jW,jL]
theorem bg(s:List UInt8):(cellsOf s).length=s.length:=by simp[cellsOf]
theorem ZI{P:Program}{t tn ty e:TypeId}{i:TypeInfo}{k kn:IntKind}(ht:P.underlying t=some (.slice e))(htn:P.underlying tn=some (.int kn))(hi:P.info? e=some i)(hz:i.zero=some (.int .u8 0))(hs1:i.size=1)(hb1:i.bytes=1)
  {W:World} {B bc:Nat} {x y:List UInt8} (h:aF W B y) (hyl:y.length=bc) (hle:x.length<=bc) (hpre:y.take x.length=x) (n:Nat) (h0:0<n) (aD:x.length+n<=100000000) :
  ∃B' bc' y' W',(Builtin.append_ #[t,tn] ty #[.slice B x.length bc,.int k n]).run P W= .ok (.slice (some ⟨B',0,none⟩) (x.length+n) bc') W'/\aF W' B' y'/\y'.length=bc'/\x.length+n<=bc'/\y'.take (x.length+n)=x++bF n/\((B'=B/\Only B W W')\/(B'=W.heap.size/\Below W W W')):=by
 have hn:n≠0:=by omega
 have hw:IntKind.i64.wrap (n:Int)=n:=by rw[dJ];omega
 have h63':¬(9223372036854775807<((x.length:Int)+(n:Int))):=by omega
 have h48i:¬(281474976710656<(n:Int)):=by omega
 have hneg:¬((n:Int)<0):=by omega
 have hzl:(cellsOf (bF n)).length=n:=by rw[bg,jm]
 by_cases hf:x.length+n<=bc
 ·have hst:=run_storeCells_cells (P:=P) B x.length (cellsOf (bF n)) 0 W (by
   intro j hj;rw[hzl]at hj;rw[jN,h.cell (by omega)];rfl) (by
   intro j hj;rw[hzl]at hj;rw[jN];exact h.free (by omega)) (by
   intro v hv;simp only[cellsOf,bQ]at hv;obtain⟨b,_,rfl⟩:=hv;rfl)
  rw[show cellsOf (bF n)=(Builtin.zeroCells (Value.int .u8 0).cells n).toList from(LF n).symm]at hst;refine⟨B,bc,wr y x.length (bF n),W.setCells B x.length (cellsOf (bF n)),?_,h.setCells _ _ (by rw[jm];omega),by rw[iW _ _ _ (by rw[jm];omega)];exact hyl,hf,?_,.inl ⟨rfl,Only.setCells _ _ (Only.refl _ _)⟩⟩
  ·rw[show cellsOf (bF n)=(Builtin.zeroCells (Value.int .u8 0).cells n).toList from(LF n).symm];simp only[jN]at hst;simp[Builtin.append_,run_underlying ht,run_underlying htn,sizeOf,typeInfo,zeroValue,hi,hz,hs1,hb1,asInt,asIntOf,hw,hn,hneg,h48i,hf,lQ,hst]
  rw[ycd y x.length n (bF n) (jm n) (by omega),hpre]
 have h48':¬(281474976710656<Builtin.nextslicecap (x.length+n) bc):=by
  have:=growslice_fits (show bc<x.length+n by omega) (show(x.length+n)*1<=140737488355328 by omega);omega
 have hold:(Builtin.firstCells 1 x.length (.slice B x.length bc)).run P W.drew= .ok (cellsOf x).toArray W.drew:=
  run_firstCells_some W.drew 1 x.length ⟨B,0,none⟩ x.length bc (cellsOf x) (by rw[bg,vQ]) (λ j v hj=>by
   have hjl:j<x.length:=by have:=(dE.1 hj).1;rwa [bg]at this
   rw[lQ,eG,h.drew.cell (by omega)]
   have e1:nth y j=nth x j:=by
    unfold nth;rw[fE,fE]
    conv=>rhs;rw[<-hpre]
    rw[eX hjl]
   rw[e1,<-YQ x j hjl];unfold pE;rw[List.getElem?_toArray];exact hj)
 have hge:=grownCap_ge W (x.length+n) bc e;refine⟨W.heap.size,grownCap W (x.length+n) bc e,x++bF (grownCap W (x.length+n) bc e-x.length),W.drew.alloc (.cells (pE (x++bF (grownCap W (x.length+n) bc e-x.length))) e),?_,?_,?_,hge,?_,.inr ⟨rfl,(aV W W).drew.alloc (aO _) _⟩⟩
 ·have qm:(cellsOf x).toArray++(Builtin.zeroCells (Value.int .u8 0).cells n++Builtin.zeroCells (Value.int .u8 0).cells (grownCap W (x.length+n) bc e-(x.length+n)))=pE (x++bF (grownCap W (x.length+n) bc e-x.length)):=by
   apply Array.ext';rw[Array.toList_append,Array.toList_append,LF,LF];unfold pE cellsOf bF;simp only[dO,List.map_replicate,List.replicate_append_replicate];rw[show n+(grownCap W (x.length+n) bc e-(x.length+n))=grownCap W (x.length+n) bc e-x.length by omega]
  rw[<-qm];unfold grownCap at *;simp[Builtin.append_,run_underlying ht,run_underlying htn,sizeOf,typeInfo,zeroValue,hi,hz,hs1,hb1,asInt,asIntOf,hw,hn,hneg,h48i,hf,h63',h48',Question.forced,hold,newRow]
 ·refine⟨e,(0,0),?_,λ i _ hh=>absurd hh.2 (jO _)⟩;show(W.drew.heap.push _)[W.heap.size]?=_;rw[show W.heap.size=W.drew.heap.size from rfl,pW]
 ·rw[zl,jm];omega
 rw[List.take_append,fO (by omega),show x.length+n-x.length=n by omega];unfold bF;rw[List.take_replicate,gH (by omega)]
theorem Gf{P:Program}{t ty e:TypeId}{i:TypeInfo}{z:Value}(ht:P.underlying t=some (.slice e))(hi:P.info? e=some i)(hz:i.zero=some z)(h1:i.size=1)(h16:i.bytes<=16)(hzs:z.cells.size=1)
  {W:World} {ao:Option Addr} {c:Nat} {vs:List Value} (h:(ao=none/\vs=[]/\c=0)\/∃g,ao=some ⟨g,0,none⟩/\Row W g c vs) (v:Value) (hv:v.oneCell'=true) (aD:vs.length+1<=1000000000) :
  ∃g' c' W',(Builtin.append_ #[t,t] ty #[.slice ao vs.length c,.slice W 1 1]).run P (W.alloc (.cells #[v] e))= .ok (.slice (some ⟨g',0,none⟩) (vs.length+1) c') W'/\Row W' g' c' (vs++[v])/\Only g' W W'/\(ao=some ⟨g',0,none⟩\/W.heap.size<=g'):=by
 have ha:(ao=none/\vs=[]/\c=0)\/∃g,ao=some ⟨g,0,none⟩/\Row (W.alloc (.cells #[v] e)) g c vs:=by
  rcases h with h|⟨g,e1,h⟩
  ·exact .inl h
  exact .inr ⟨g,e1,h.alloc _⟩
 obtain⟨g',c',W',e1,r,o⟩:=GQ (P:=P) (t:=t) (tx:=t) (ty:=ty) ht hi hz h1 h16 hzs ha (x:=.slice W 1 1) (m:=[v]) (by simp) (Src.ofSlice _ ht ⟨W.heap.size,0,none⟩ 1 1 [v] rfl (λ j u hj=>by
   have hj0:j=0:=by
    by_cases hc:j<1
    ·omega
    rw[jo (by simp;omega)]at hj;cases hj
   subst hj0;rw[lQ,eG];refine(World.cell?_alloc_new W #[v] e 0).trans ?_
   exact hj) (λ u hu=>by
    obtain rfl:=bz.1 hu;exact hv)) (by simpa using aD)
 rw[zl]at e1;refine⟨g',c',W',e1,r,?_⟩;rcases o with⟨a,o⟩|⟨a,b⟩
 ·exact⟨((Only.refl g' W).alloc _).trans o,.inl a⟩
 have hs:(W.alloc (.cells #[v] e)).heap.size=W.heap.size+1:=by simp
 exact⟨((Only.refl g' W).alloc _).trans (Only.of_below b),.inr (by rw[a,hs];omega)⟩
end UK
open Go.RowKit
namespace UK
def ay(W:World)(g:Nat)(cs:Array Value):Prop:=∃t,W.heap[g]?=some (.cells cs t (0,0))
namespace ay
variable{W W':World}{g:Nat}{cs:Array Value}
theorem new(W:World)(cs:Array Value)(t:TypeId):ay (W.alloc (.cells cs t)) W cs:=⟨t,by
 show(W.heap.push _)[W.heap.size]?=_;rw[pW]⟩
theorem lt(h:ay W g cs):g<W.heap.size:=by
 obtain⟨t,hb⟩:=h;exact(Array.getElem?_eq_some_iff.1 hb).1
theorem ae(h:ay W g cs)(hb:W'.heap[g]?=W.heap[g]?):ay W' g cs:=by
 obtain⟨t,hc⟩:=h;exact⟨t,hb.trans hc⟩
theorem below{n:Nat}(h:ay W g cs)(hb:Below n W W')(hn:g<n):ay W' g cs:=h.ae (hb.block g hn)
theorem next(h:ay W g cs)(hb:Below W W W'):ay W' g cs:=h.below hb h.lt
theorem only{B:Nat}(h:ay W g cs)(ho:Only B W W')(hn:g≠B):ay W' g cs:=h.ae (ho.block g h.lt hn)
theorem alloc(h:ay W g cs)(o:Obj):ay (W.alloc o) g cs:=h.ae (Below.heap_alloc W o g h.lt)
theorem far(h:ay W g cs){b j:Nat}(v:Value)(hn:g≠b):ay (W.setCell (b,j) v) g cs:=h.ae (Below.heap_setCell W _ v g hn)
theorem set(h:ay W g cs)(j:Nat)(v:Value):ay (W.setCell (g,j) v) g (cs.set! j v):=by
 obtain⟨t,hb⟩:=h;refine⟨t,?_⟩;simp only[World.setCell,Array.getElem?_modify,if_true,hb,Option.map_some]
 congr 2
theorem cell(h:ay W g cs)(j:Nat)(v:Value)(hv:cs[j]?=some v):W.cell? (g,j)=some v:=by
 obtain⟨t,hb⟩:=h;unfold World.cell?;simp only[hb];exact hv
theorem free(h:ay W g cs)(j:Nat):W.frozen? ⟨g,j,none⟩=false:=by
 obtain⟨t,hb⟩:=h;unfold World.frozen?;simp only[hb];simp
theorem row(h:ay W g cs):Row W g cs.size cs.toList:=by
 refine⟨h.lt,by simp,λ j hj=>?_,λ j hj=>⟨?_,h.free j⟩⟩
 ·have hj':j<cs.size:=by simpa using hj
  rw[h.cell j cs[j] (Array.getElem?_eq_getElem hj'),Array.getElem?_toList,Array.getElem?_eq_getElem hj']
 rw[h.cell j cs[j] (Array.getElem?_eq_getElem hj)];rfl
end ay
theorem U3{P:Program}{fn:Func}{p:Tmp}{ty:TypeId}(h:fn.results= #[.cell p ty])(tmps:Array Value){w:World}{g:Nat}{cs:Array Value}{d:TypeDesc}(hb:ay w g cs)
  (hp:tmps.getD p undef= .pointer g) (hu:P.underlying ty=some d) (hd:(match d with| .struct _| .array _ _=>true|_=>false)=true) (hi:(P.info? ty).map (·.size)=some cs.size) :
  (results fn tmps).run P w= .ok (.agg cs) w:=by
 obtain⟨t,hb⟩:=hb;exact results_cell_row h tmps w g t cs (0,0) d hp hb hu hd hi
end UK
end Go.Proofs.YtgpmiliahonaoaaGreatDoor
namespace Go.Proofs.YtgpmiliahonaoaaGreatDoor.UK
open Go.RowKit
def bl(x:List Bool):Array Value:=(x.map Value.bool).toArray
def zw(W:World)(B:Nat)(x:List Bool):Prop:=∃e,W.heap[B]?=some (.cells (bl x) e (0,0))
def tr(x:List Bool)(i:Nat):Bool:=x.getD i false
namespace zw
variable{W W':World}{B:Nat}{x:List Bool}
theorem cell(h:zw W B x){i:Nat}(hi:i<x.length):W.cell? (B,i)=some (.bool (tr x i)):=by
 obtain⟨e,hb⟩:=h;unfold World.cell?;simp only[hb];simp[bl,tr,List.getD,hi]
theorem free(h:zw W B x)(i:Nat):W.frozen? ⟨B,i,none⟩=false:=by
 obtain⟨e,hb⟩:=h;unfold World.frozen?;simp only[hb];simp
theorem set(h:zw W B x)(i:Nat)(v:Bool):zw (W.setCell (B,i) (.bool v)) B (x.set i v):=by
 obtain⟨e,hb⟩:=h;refine⟨e,?_⟩;simp only[World.setCell,Array.getElem?_modify,if_true,hb,Option.map_some]
 congr 2
 simp[bl,List.map_set]
theorem drewN(h:zw W B x)(n:Nat):zw (W.drewN n) B x:=h
end zw
theorem yce(x:List Bool)(a i:Nat)(v:Bool):tr (x.set a v) i=if a=i/\a<x.length then v else tr x i:=by
 unfold tr List.getD;rw[List.getElem?_set];by_cases h:a=i
 ·subst h;by_cases h2:a<x.length
  ·simp[h2]
  simp[h2]
 simp[h]
theorem xv1(W:World)(n:Nat)(e:TypeId)(c:Array Value)(hc:c=bl (List.replicate n false)):zw (W.alloc (.cells c e)) W (List.replicate n false):=by
 refine⟨e,?_⟩;show(W.heap.push _)[W.heap.size]?=_;rw[pW,hc]
theorem xm4(n i:Nat):tr (List.replicate n false) i=false:=by
 unfold tr List.getD;rw[List.getElem?_replicate]
 split<;>rfl
end Go.Proofs.YtgpmiliahonaoaaGreatDoor.UK
namespace Go.Proofs.YtgpmiliahonaoaaGreatDoor
open Go.RowKit
section
variable{W:World}{g:Nat}{r:List Value}{x0 x1 x2 x3 x4 x5 x6 x7 x8:Value}
theorem UK.ay.c0(h:UK.ay W g (List.toArray (x0::r))):W.cell? g=some x0:=h.cell 0 _ (by simp)
theorem UK.ay.d0(h:UK.ay W g (List.toArray (x0::r))):∀q,(W.drewN q).cell? g=some x0:=λ q=>h.cell 0 _ (by simp)
theorem UK.ay.c1(h:UK.ay W g (List.toArray (x0::x1::r))):W.cell? (g,1)=some x1:=h.cell 1 _ (by simp)
theorem UK.ay.d1(h:UK.ay W g (List.toArray (x0::x1::r))):∀q,(W.drewN q).cell? (g,1)=some x1:=λ q=>h.cell 1 _ (by simp)
theorem UK.ay.c2(h:UK.ay W g (List.toArray (x0::x1::x2::r))):W.cell? (g,2)=some x2:=h.cell 2 _ (by simp)
theorem UK.ay.d2(h:UK.ay W g (List.toArray (x0::x1::x2::r))):∀q,(W.drewN q).cell? (g,2)=some x2:=λ q=>h.cell 2 _ (by simp)
theorem UK.ay.c3(h:UK.ay W g (List.toArray (x0::x1::x2::x3::r))):W.cell? (g,3)=some x3:=h.cell 3 _ (by simp)
theorem UK.ay.d3(h:UK.ay W g (List.toArray (x0::x1::x2::x3::r))):∀q,(W.drewN q).cell? (g,3)=some x3:=λ q=>h.cell 3 _ (by simp)
theorem UK.ay.c4(h:UK.ay W g (List.toArray (x0::x1::x2::x3::x4::r))):W.cell? (g,4)=some x4:=h.cell 4 _ (by simp)
theorem UK.ay.d4(h:UK.ay W g (List.toArray (x0::x1::x2::x3::x4::r))):∀q,(W.drewN q).cell? (g,4)=some x4:=λ q=>h.cell 4 _ (by simp)
theorem UK.ay.c5(h:UK.ay W g (List.toArray (x0::x1::x2::x3::x4::x5::r))):W.cell? (g,5)=some x5:=h.cell 5 _ (by simp)
theorem UK.ay.c6(h:UK.ay W g (List.toArray (x0::x1::x2::x3::x4::x5::x6::r))):W.cell? (g,6)=some x6:=h.cell 6 _ (by simp)
theorem UK.ay.c7(h:UK.ay W g (List.toArray (x0::x1::x2::x3::x4::x5::x6::x7::r))):W.cell? (g,7)=some x7:=h.cell 7 _ (by simp)
theorem UK.ay.c8(h:UK.ay W g (List.toArray (x0::x1::x2::x3::x4::x5::x6::x7::x8::r))):W.cell? (g,8)=some x8:=h.cell 8 _ (by simp)
end
open Go.RowKit Go.ChangeMaps
namespace UK
def kG(P:Program)(K E:TypeId)(W:World)(M n:Nat)(f:Int->Option Int)(c:Nat):Prop:=
 ∃D:DataW Unit,W.ownsMap P K (plainElem P E) M n D/\(∀k,Maps.has D (.int .i64 k)=(f k).isSome)/\(∀k v,f k=some v->D.atKey (.int .i64 k) (.lit (.int .i64 0))= .lit (.int .i64 v))/\Maps.size D=c
namespace kG
variable{P:Program}{K E t:TypeId}{W W':World}{M n c:Nat}{f:Int->Option Int}
theorem new(W:World):kG P K E (W.alloc (.map #[] 0)) W 0 (λ _=>none) 0:=
 ⟨.map [],World.ownsMap_made _ _ _ _,λ _=>rfl,(λ _ _ h=>by cases h),rfl⟩
theorem lt(h:kG P K E W M n f c):M<W.heap.size:=by
 obtain⟨D,h,_⟩:=h;exact h.lt
theorem ae(h:kG P K E W M n f c)(hb:W'.heap[M]?=W.heap[M]?):kG P K E W' M n f c:=by
 obtain⟨D,⟨es,cl,h1,h2,h3,h4⟩,r⟩:=h;exact⟨D,⟨es,cl,hb.trans h1,h2,h3,h4⟩,r⟩
theorem only{B:Nat}(h:kG P K E W M n f c)(ho:Only B W W')(hm:M≠B):kG P K E W' M n f c:=h.ae (ho.block M h.lt hm)
theorem get(h:kG P K E W M n f c)(hK:P.underlying K=some (.int .i64))(hE:P.underlying E=some (.int .i64))(ht:P.underlying t=some (.map K E))(hz:∀w,(zeroValue E).run P w= .ok (.int .i64 0) w)(k:Int)(hk:(Lit.int .i64 k).wf=true) :
  (Instr.lookup t (.map (some M)) (.int .i64 k) true).run P W= .ok (.tuple #[.int .i64 ((f k).getD 0),.bool (f k).isSome]) W:=by
 obtain⟨D,h,hh,ha,_⟩:=h;obtain⟨v,ps,hrun,hv⟩:=h.look_ok (Maps.int_keyed hK) ht (hz W) (plainElem_int hE (by decide)) (Maps.keyOf_int_mk hK hk);obtain⟨a,rfl,hc,_⟩:=plainElem_int_inv hE hv;simp only[Prod.mk.injEq]at hc;rw[hrun,hh k]
 cases hf:f k with
 | none=>
  have h1:Maps.has D (.int .i64 k)=false:=by rw[hh k,hf];rfl
  rw[Maps.atKey_of_not_has h1]at hc;have:=hc.1;simp only[DataW.lit.injEq,Lit.int.injEq,true_and]at this;rw[<-this];rfl
 | some b=>
  rw[ha k b hf]at hc;have:=hc.1;simp only[DataW.lit.injEq,Lit.int.injEq,true_and]at this;rw[<-this];rfl
theorem fw(h:W.mapTurned W' M):Only M W W':=by
 have g:=h;obtain⟨es,cl,es',cl',hb,rfl⟩:=h;exact⟨rfl,rfl,rfl,Nat.le_of_eq (by simp[setBlock]),λ i _ hi=>heap_setBlock_other hb _ hi⟩
theorem put(h:kG P K E W M n f c)(hK:P.underlying K=some (.int .i64))(hE:P.underlying E=some (.int .i64))(ht:P.underlying t=some (.map K E))(hn:n<maxLen)(k v:Int)(hk:(Lit.int .i64 k).wf=true)(hv:(Lit.int .i64 v).wf=true) :
  ∃W',(Instr.mapUpdate t (.map (some M)) (.int .i64 k) (.int .i64 v)).run P W= .ok () W'/\kG P K E W' M (n+1) (λ j=>if j=k then some v else f j) (if (f k).isSome then c else c+1)/\Only M W W':=by
 obtain⟨D,h,hh,ha,hs⟩:=h;obtain⟨W',hrun,h',ht'⟩:=h.store (Maps.int_keyed hK) ht hn (Maps.keyOf_int_mk hK hk) (plainElem_int hE hv);have hkl:WideAt.IsKeyLit (.int .i64 k):=trivial;refine⟨W',hrun,⟨_,h',λ j=>?_,λ j b hj=>?_,?_⟩,fw ht'⟩
 ·by_cases e:j=k
  ·subst e;rw[Maps.has_put_same h.isMap hkl];simp
  rw[Maps.has_put_other (by simpa using e),hh j];show _=(if j=k then some v else f j).isSome;rw[if_neg e]
 ·replace hj:(if j=k then some v else f j)=some b:=hj;by_cases e:j=k
  ·subst e;rw[if_pos rfl]at hj;rw[Maps.atKey_put_same h.isMap hkl,<-aZ hj]
  rw[if_neg e]at hj;rw[Maps.atKey_put_other (by simpa using e),ha j b hj]
 rw[Maps.size_put (h.tidy (Maps.int_keyed hK)),hh k,hs]
theorem del(h:kG P K E W M n f c)(hK:P.underlying K=some (.int .i64))(ht:P.underlying t=some (.map K E))(k:Int)(hk:(Lit.int .i64 k).wf=true)(ty:TypeId) :
  ∃W',(Builtin.delete_ #[t,K] ty #[.map (some M),.int .i64 k]).run P W= .ok (.tuple #[]) W'/\kG P K E W' M n (λ j=>if j=k then none else f j) (if (f k).isSome then c-1 else c)/\Only M W W':=by
 obtain⟨D,h,hh,ha,hs⟩:=h;obtain⟨W',hrun,h',ht'⟩:=h.drop (Maps.int_keyed hK) ht (Maps.keyOf_int_mk hK hk) ty;refine⟨W',hrun,⟨_,h',λ j=>?_,λ j b hj=>?_,?_⟩,fw ht'⟩
 ·by_cases e:j=k
  ·subst e;rw[Maps.has_del_same];simp
  rw[Maps.has_del_other (by simpa using e),hh j];show _=(if j=k then none else f j).isSome;rw[if_neg e]
 ·replace hj:(if j=k then none else f j)=some b:=hj;by_cases e:j=k
  ·rw[if_pos e]at hj;cases hj
  rw[if_neg e]at hj;rw[Maps.atKey_del_other (by simpa using e),ha j b hj]
 have:=Maps.size_del (h.tidy (Maps.int_keyed hK)) (k:=.int .i64 k);rw[hh k,hs]at this;by_cases e:(f k).isSome=true
 ·rw[if_pos e]at this ⊢;omega
 rw[if_neg e]at this ⊢;omega
theorem tight(h:kG P K E W M n f c):kG P K E W M c f c:=by
 obtain⟨D,⟨es,cl,h1,h2,h3,h4⟩,a,b,hs⟩:=h;refine⟨D,⟨es,cl,h1,h2,?_,h4⟩,a,b,hs⟩;rw[<-hs,h4];simp[Maps.size,length_sorted]
end kG
def sK(P:Program)(K E:TypeId)(W:World)(M n:Nat)(f:Int->Option (List UInt8))(c:Nat):Prop:=
 ∃D:DataW Unit,W.ownsMap P K (plainElem P E) M n D/\(∀k,Maps.has D (.int .i64 k)=(f k).isSome)/\(∀k v,f k=some v->D.atKey (.int .i64 k) (.lit (.string []))= .lit (.string v))/\Maps.size D=c
namespace sK
variable{P:Program}{K E t:TypeId}{W W':World}{M n c:Nat}{f:Int->Option (List UInt8)}
theorem lt(h:sK P K E W M n f c):M<W.heap.size:=by
 obtain⟨D,h,_⟩:=h;exact h.lt
theorem ae(h:sK P K E W M n f c)(hb:W'.heap[M]?=W.heap[M]?):sK P K E W' M n f c:=by
 obtain⟨D,⟨es,cl,h1,h2,h3,h4⟩,r⟩:=h;exact⟨D,⟨es,cl,hb.trans h1,h2,h3,h4⟩,r⟩
theorem get(h:sK P K E W M n f c)(hK:P.underlying K=some (.int .i64))(hE:P.underlying E=some .string)(ht:P.underlying t=some (.map K E))(hz:∀w,(zeroValue E).run P w= .ok (.string (str [])) w)(k:Int)(hk:(Lit.int .i64 k).wf=true) :
  (Instr.lookup t (.map (some M)) (.int .i64 k) true).run P W= .ok (.tuple #[.string (str ((f k).getD [])),.bool (f k).isSome]) W:=by
 obtain⟨D,h,hh,ha,_⟩:=h;obtain⟨v,ps,hrun,hv⟩:=h.look_ok (Maps.int_keyed hK) ht (hz W) (plainElem_string hE (by simp[dY])) (Maps.keyOf_int_mk hK hk);obtain⟨s,rfl,hc,_⟩:=plainElem_string_inv hE hv;simp only[Prod.mk.injEq]at hc;rw[hrun,hh k,xyr s];have hc1:=hc.1
 cases hf:f k with
 | none=>
  have h1:Maps.has D (.int .i64 k)=false:=by rw[hh k,hf];rfl
  rw[Maps.atKey_of_not_has h1]at hc1;simp only[DataW.lit.injEq,Lit.string.injEq]at hc1;rw[<-hc1];rfl
 | some b=>
  rw[mi]at hc1;rw[ha k b hf]at hc1;simp only[DataW.lit.injEq,Lit.string.injEq]at hc1;rw[<-hc1];rfl
theorem put(h:sK P K E W M n f c)(hK:P.underlying K=some (.int .i64))(hE:P.underlying E=some .string)(ht:P.underlying t=some (.map K E))(hn:n<maxLen)(k:Int)(v:List UInt8)(hk:(Lit.int .i64 k).wf=true)(hv:v.length<=maxLen) :
  ∃W',(Instr.mapUpdate t (.map (some M)) (.int .i64 k) (.string (str v))).run P W= .ok () W'/\sK P K E W' M (n+1) (λ j=>if j=k then some v else f j) (if (f k).isSome then c else c+1)/\Only M W W':=by
 obtain⟨D,h,hh,ha,hs⟩:=h;obtain⟨W',hrun,h',ht'⟩:=h.store (Maps.int_keyed hK) ht hn (Maps.keyOf_int_mk hK hk) (plainElem_string hE (s:=str v) (by rw[dY];exact hv));rw[mi]at h';have hkl:WideAt.IsKeyLit (.int .i64 k):=trivial;refine⟨W',hrun,⟨_,h',λ j=>?_,λ j b hj=>?_,?_⟩,kG.fw ht'⟩
 ·by_cases e:j=k
  ·subst e;rw[Maps.has_put_same h.isMap hkl];simp
  rw[Maps.has_put_other (by simpa using e),hh j];show _=(if j=k then some v else f j).isSome;rw[if_neg e]
 ·replace hj:(if j=k then some v else f j)=some b:=hj;by_cases e:j=k
  ·subst e;rw[if_pos rfl]at hj;rw[Maps.atKey_put_same h.isMap hkl,<-aZ hj]
  rw[if_neg e]at hj;rw[Maps.atKey_put_other (by simpa using e),ha j b hj]
 rw[Maps.size_put (h.tidy (Maps.int_keyed hK)),hh k,hs]
theorem tight(h:sK P K E W M n f c):sK P K E W M c f c:=by
 obtain⟨D,⟨es,cl,h1,h2,h3,h4⟩,a,b,hs⟩:=h;refine⟨D,⟨es,cl,h1,h2,?_,h4⟩,a,b,hs⟩;rw[<-hs,h4];simp[Maps.size,length_sorted]
end sK
end UK
open Go.RowKit
open UK (str)
def tab(i:UInt32):UInt32:= #[0x00000000,0x105ec76f,0x20bd8ede,0x30e349b1,0x417b1dbc,0x5125dad3,0x61c69362,0x7198540d,0x82f63b78,0x92a8fc17,0xa24bb5a6,0xb21572c9,0xc38d26c4,0xd3d3e1ab,0xe330a81a,0xf36e6f75].getD i.toNat 0
def half(c:UInt32):UInt32:=UK.xr (UK.Eg c) (tab (UK.nZ c))
def Ow(c:UInt32)(b:UInt8):UInt32:=half (half (UK.xr c (UK.wide b)))
def xJ(c:UInt32)(l:List UInt8):UInt32:=l.foldl Ow c
def ik(c:UInt32)(l:List UInt8):UInt32:=UK.nt (xJ (UK.nt c) l)
def aI(c:UInt32):List UInt8:=[UK.mG c 0,UK.mG c 1,UK.mG c 2,UK.mG c 3]
theorem YX(c:UInt32)(l:List UInt8)(k:Nat)(h:k<l.length):xJ c (l.take (k+1))=Ow (xJ c (l.take k)) (UK.nth l k):=by
 rw[List.take_succ_eq_append_getElem h];unfold xJ;rw[List.foldl_append];simp[UK.nth,List.getD,h]
def kD(w:World):Prop:=∀c:UInt32,w.cell? ⟨0,(UK.nZ c).toNat,none⟩=some (.int .u32 ((tab (UK.nZ c)).toNat:Int))
theorem YY(c:UInt32)(b:UInt8)(w:World)(ht:kD w) :
  Calls Tryz.prog 272 #[.int .u32 c.toNat,.int .u8 b.toNat] w λ e w'=>e= .returned (.int .u32 (Ow c b).toNat)/\w=w':=by
 unfold kD at ht;have h5:=UK.Tf
 go_enter Tryz.func272,Tryz.ntmps272
 go_wp2;go_ret
 exact⟨rfl,rfl⟩
theorem YZ(c:UInt32)(l:List UInt8)(w:World)(ht:kD w)(hs:l.length<=maxLen) :
  Calls Tryz.prog 256 #[.int .u32 c.toNat,.string (str l)] w λ e w'=>e= .returned (.int .u32 (ik c l).toNat)/\w=w':=by
 unfold maxLen at hs
 go_enter Tryz.func256,Tryz.ntmps256
 go_wp2
 go_loop [5,11] (λ x i=>∃k:Nat,k<=l.length/\i= .int .i64 k/\x= .int .u32 (xJ (UK.nt c) (l.take k)).toNat) (λ _ i=>l.length-(intOf i).toNat)
 case atStart=>exact⟨0,aY _,rfl,rfl⟩
 obtain⟨k,hk,rfl,rfl⟩:=hrel;by_cases hlt:k<l.length
 ·have HS:=zH (YX (UK.nt c) l k hlt)
  go_wp2_with (go_at_call 272;refine(YY _ _ _ ht).mono ?_;rintro e w' ⟨rfl,rfl⟩)
  go_round
  case rel=>exact⟨k+1,by omega,by go_num,by rw[HS.out]⟩
  case measure=>simp[intOf];omega
 go_wp2;go_ret
 exact⟨by rw[fO (by omega)];rfl,rfl⟩
theorem Za(W:World)(a b c d:UInt8) :
  (convert 94 9 (.slice W 4 4)).run Tryz.prog (W.alloc (.cells #[.int .u8 a.toNat,.int .u8 b.toNat,.int .u8 c.toNat,.int .u8 d.toNat] 5)) =
   .ok (.string (str [a,b,c,d])) (W.alloc (.cells #[.int .u8 a.toNat,.int .u8 b.toNat,.int .u8 c.toNat,.int .u8 d.toNat] 5)):=by
 have h:=run_convert_bytes_back (P:=Tryz.prog) (W.alloc (.cells #[.int .u8 a.toNat,.int .u8 b.toNat,.int .u8 c.toNat,.int .u8 d.toNat] 5)) 94 9 5 ⟨W.heap.size,0,none⟩ 4 [a,b,c,d] Tryz.underlying94 Tryz.underlying5 Tryz.underlying9;refine h (λ j hj=>?_);have hj':j<4:=by simpa using hj
 match j,hj' with
 | 0,_|1,_|2,_|3,_=>simp[Addr.add,World.cell?,World.alloc,-World.alloc_eq]
theorem dQ(c:UInt32)(w:World) :
  Calls Tryz.prog 205 #[.int .u32 c.toNat] w λ e w'=>e= .returned (.string (str (aI c)))/\Below w w w':=by
 have hcv:=Za
 go_enter Tryz.func205,Tryz.ntmps205
 go_wp2;go_ret
 exact⟨rfl,(aV _ _).alloc (aO _) _⟩
def dI(l:List UInt8):UInt32:=
 UK.jl (UK.jl (UK.jl (UK.wide (UK.nth l 0)) (UK.shl (UK.wide (UK.nth l 1)) 1)) (UK.shl (UK.wide (UK.nth l 2)) 2)) (UK.shl (UK.wide (UK.nth l 3)) 3)
theorem Zb(l:List UInt8)(w:World)(h:l.length=4) :
  Calls Tryz.prog 255 #[.string (str l)] w λ e w'=>e= .returned (.tuple #[.int .u32 (dI l).toNat,.bool true])/\∃n,w'=w.drewN n:=by
 have h1:(0:Int)<l.length:=by omega
 have h1:(1:Int)<l.length:=by omega
 have h1:(2:Int)<l.length:=by omega
 have h1:(3:Int)<l.length:=by omega
 have h2:((l.length:Int)==4)=true:=by rw[h];rfl
 clear h
 go_enter Tryz.func255,Tryz.ntmps255
 go_wp2
 go_quiet (fail)
 go_wp2;go_ret2
 exact⟨rfl,_,rfl⟩
theorem kD.lt{w:World}(h:kD w):0 <w.heap.size:=by
 have h0:=h 0;unfold World.cell? at h0;by_cases hl:0 <w.heap.size
 ·exact hl
 rw[Array.getElem?_eq_none (by omega)]at h0;cases h0
theorem kD.below{w w':World}(h:kD w)(hb:Below w w w'):kD w':=λ c=>by
 rw[hb.cell (p:=⟨_,_,none⟩) h.lt];exact h c
theorem kD.drewN{w:World}(h:kD w)(n:Nat):kD (w.drewN n):=λ c=>h c
theorem add_zero(l:List UInt8)(w:World)(ht:kD w)(hs:l.length<=maxLen) :
  Calls Tryz.prog 256 #[.int .u32 0,.string (str l)] w λ e w'=>e= .returned (.int .u32 (ik 0 l).toNat)/\w=w':=
 YZ 0 l w ht hs
theorem Ox(l:List UInt8)(w:World)(ht:kD w)(hs:l.length<=maxLen) :
  Calls Tryz.prog 206 #[.string (str l)] w λ e w'=>e= .returned (.int .u32 (ik 0 l).toNat)/\w=w':=by
 go_enter Tryz.func206,Tryz.ntmps206
 go_wp2_with (go_at_call 256;refine(add_zero _ _ ht hs).mono ?_;rintro e w' ⟨rfl,rfl⟩)
 go_ret;exact⟨rfl,rfl⟩
def Zc(l:List UInt8):Bool:=decide (4<=l.length/\dI (l.drop (l.length-4))=ik 0 (l.take (l.length-4)))
def ya8(l:List UInt8):List UInt8:=if Zc l then l.take (l.length-4) else []
def b1(x:UInt32):UInt32:=(x >>> 1) ^^^(if x.toNat%2=1 then UK.poly else 0)
/-! ## four bytes and their number -/
theorem Oy{a b:UInt32}(k:Nat)(hb:b.toNat%2^k=0)(ha:a.toNat<2^k):(UK.jl a b).toNat=a.toNat+b.toNat:=by
 rw[UK.jl,UInt32.toNat_or,Nat.or_comm,nat_join k _ _ hb ha];omega
theorem Zd(b:UInt8):(UK.wide b).toNat=b.toNat:=by simp[UK.wide]
theorem Oz(b:UInt8)(i:Nat)(h:i<4):(UK.shl (UK.wide b) i).toNat=b.toNat*256^i:=by
 have:=b.toNat_lt
 match i,h with
 | 0,_=>simp[UK.shl,UK.wide]
 | 1,_|2,_|3,_=>simp[UK.shl,UK.wide];omega
theorem Ze(l:List UInt8):(dI l).toNat=(UK.nth l 0).toNat+256*(UK.nth l 1).toNat+65536*(UK.nth l 2).toNat+16777216*(UK.nth l 3).toNat:=by
 have h0:=(UK.nth l 0).toNat_lt;have h1:=(UK.nth l 1).toNat_lt;have h2:=(UK.nth l 2).toNat_lt;have h3:=(UK.nth l 3).toNat_lt;have e1:=Oz (UK.nth l 1) 1 (by decide);have e2:=Oz (UK.nth l 2) 2 (by decide);have e3:=Oz (UK.nth l 3) 3 (by decide);have e0:=Zd (UK.nth l 0);unfold dI;have s1:=Oy (a:=UK.wide (UK.nth l 0)) (b:=UK.shl (UK.wide (UK.nth l 1)) 1) 8 (by rw[e1];omega) (by rw[e0];omega);have s2:=Oy (a:=UK.jl (UK.wide (UK.nth l 0)) (UK.shl (UK.wide (UK.nth l 1)) 1)) (b:=UK.shl (UK.wide (UK.nth l 2)) 2) 16 (by rw[e2];omega) (by rw[s1,e0,e1];omega);have s3:=Oy (a:=UK.jl (UK.jl (UK.wide (UK.nth l 0)) (UK.shl (UK.wide (UK.nth l 1)) 1)) (UK.shl (UK.wide (UK.nth l 2)) 2)) (b:=UK.shl (UK.wide (UK.nth l 3)) 3) 24 (by rw[e3];omega) (by rw[s2,s1,e0,e1,e2];omega);rw[s3,s2,s1,e0,e1,e2,e3];omega
theorem Zf(c:UInt32)(i:Nat):(UK.mG c i).toNat=c.toNat/256^i%256:=by simp[UK.mG]
theorem CK(c:UInt32):dI (aI c)=c:=by
 apply UInt32.toNat_inj.1;rw[Ze];have hc:=c.toNat_lt;show(UK.mG c 0).toNat+256*(UK.mG c 1).toNat+65536*(UK.mG c 2).toNat+16777216*(UK.mG c 3).toNat=_;simp only[Zf];omega
/-! ## what differs has another sum -/
end Go.Proofs.YtgpmiliahonaoaaGreatDoor
