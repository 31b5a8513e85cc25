/- Facts on texts on pages. -/
import Derived.Test.YtgpmiliahonaoaaGreatDoorKSlotAc
set_option maxRecDepth 100000
set_option maxHeartbeats 8000000
set_option linter.unusedSimpArgs false
open List renaming length->Y
open Go.Value renaming bool->a6,int->V,pointer->aq,slice->ad,string->a8,tuple->a9
open Go.IntKind renaming i64->U,u64->a7
open Go.Ending renaming returned->aw
open Or renaming inl->O,inr->al
open Go.Proofs.Tryz
namespace Go.Proofs.YtgpmiliahonaoaaGreatDoor.SL
open Go.RowKit
open UK (str aF nth Only)
open Go.BigFrame
open SR (aO bz total)
variable{W0 W:World}{B:Nat}{l:List (List UInt8)}
def QN:List Bool:=List.replicate 504 false
theorem mQ(w:World):(zeroValue 305).run prog w= .ok (.agg (UK.bl QN)) w:=by kernel_rfl
def Met(x:List UInt8)(l:List (List UInt8))(k:Nat)(v:List Bool):Prop:=∀j,UK.tr v j=true->∃i,i<k/\i<Y l/\bz l i≠[]/\SR.pos x i<=j/\j<SR.pos x i+(bz l i).length
theorem AY(B:Nat)(x:List UInt8)(l:List (List UInt8))(c:Nat)(W:World)(h:aF W B x)(r:aO x l)(hb:l=[]\/bz l (Y l-1)≠[]) :
  Calls prog 210 #[ad B 504 c] W λ e g=>e=aw (a6 true)/\Below W W g:=by
 have HZ:=mQ;have hf:=r.few;have hs:=r.nV;have x0:=r.qc
 go_enter func210,ntmps210
 go_wp2_with fail
 refine(qI B x l c W h r).mono ?_;rintro e g ⟨rfl,f,rfl⟩;have b1:Below W W (W.drewN f):=UK.dN (aU _ _) f;generalize W.drewN f=w1 at b1 ⊢
 go_wp2_with fail
 refine(CF B x c _ (h.below b1 h.lt) r.size).mono ?_;rintro e g ⟨rfl,o,rfl⟩;have K:=UK.dN b1 o;generalize w1.drewN o=w2 at K ⊢
 go_wp2_with fail
 refine(CF B x c _ (h.below K h.lt) r.size).mono ?_;rintro e g ⟨rfl,k3,rfl⟩;have C:=UK.dN K k3;generalize w2.drewN k3=Q at C ⊢;have M:=C.size;have hv:=UK.G3 Q 504 305 (UK.bl QN) rfl;have H:=C.alloc M (.cells (UK.bl QN) 305);have HV:=zH hv;clear hv
 go_wp2_with fail
 have D:=HV.out;generalize Q.alloc (.cells (UK.bl QN) 305)=w4 at H D ⊢;obtain⟨S,hS,HS⟩:∃S,W.1.size<=S/\Hid (Q.1.size=S):=⟨_,M,rfl⟩;rw[HS.out]at D ⊢;have NZ:Met x l 0 (List.replicate 504 false):=λ j a=>by rw[UK.nf]at a;cases a
 have h0:(List.replicate 504 false).length=504:=iM;have h4:=zH h0;generalize List.replicate 504 false=v0 at D NZ h4;clear HV M C h0;refine(qI B x l c _ (h.below H h.lt) r).mono ?_;rintro e g ⟨rfl,L,rfl⟩;have b5:=UK.dN H L;have h6:=D.drewN L;generalize w4.drewN L=w5 at b5 h6 ⊢
 go_wp2_with fail
 have d1:decide ((SR.low x:Int)<4+4*(Y l:Int))=false:=by rw[decide_eq_false_iff_not];omega
 have d2:decide ((504:Int)<(SR.low x:Int))=false:=by rw[decide_eq_false_iff_not];omega
 simp only[d1,d2,Bool.or_false];have x1:=r.size
 go_loopw [27] (λ i wr=>∃(k:Nat) (v:List Bool),k<=Y l/\i=V U k/\Hid (Y v=504)/\Met x l k v/\UK.Bv wr S v/\Below W W wr) (λ i _=>Y l-(intOf i).toNat)
 case atStart=>exact⟨0,v0,aR _,rfl,h4,NZ,h6,b5⟩
 obtain⟨k,v,hk,rfl,Oa,F,T,u⟩:=hrel;have E:=h.below u h.lt;by_cases t:k<Y l
 ·by_cases m:bz l k=[]
  ·have h7:k+1<Y l:=by
    rcases hb with z|z
    ·rw[z]at t;simp at t
    by_cases he:k+1=Y l
    ·rw[<-he,Nat.add_sub_cancel]at z;exact absurd m z
    omega
   have x2:((k:Int)==(Y l:Int)-1)=false:=by rw[beq_eq_false_iff_ne];omega
   have U1:Met x l (k+1) v:=λ j a=>by
    obtain⟨i,d,h2⟩:=F j a;exact⟨i,Z,h2⟩
   have P:=zH (Kz B x l c k _ E r t m);clear m
   go_wp2_with fail
   refine P.out.mono ?_;rintro e g ⟨rfl,f,rfl⟩;have s:=UK.dN u f;have y:=T.drewN f;generalize World.drewN _ f=X at s y ⊢
   go_wp2_with fail
   refine(qI B x l c _ (h.below s h.lt) r).mono ?_;rintro e g ⟨rfl,o,rfl⟩;go_wp2;go_roundw
   case rel=>exact⟨k+1,v,Z,by go_num,Oa,U1,y.drewN _,UK.dN s _⟩
   case measure=>simp[intOf];omega
  have G:=r.there k t m;have hw:0<(bz l k).length:=List.length_pos_iff.2 m;have hp:0<SR.pos x k:=Z
  have hr:SR.low x<=SR.pos x k:=G.1;have ho:SR.pos x k+(bz l k).length<=504:=G.2.1;have hu:((SR.pos x k:Int)==0)=false:=by rw[beq_eq_false_iff_ne];omega
  have hy:(((bz l k).length:Int)==0)=false:=by rw[beq_eq_false_iff_ne];omega
  have P:=zH (Ex B x l c k _ E r t)
  have hn:Hid (∀j,SR.pos x k<=j->j<SR.pos x k+(bz l k).length->UK.tr v j=false):=λ j d h2=>by
   cases a:UK.tr v j
   ·rfl
   obtain⟨i,hi,N,hl,x3,hz⟩:=F j a;have:=r.apart i k N t Z hl m;omega
  have hh:Hid (∀b:List Bool,(∀j,UK.tr b j=true->UK.tr v j=true\/(SR.pos x k<=j/\j<SR.pos x k+(bz l k).length))->Met x l (k+1) b):=λ b hj j a=>by
   rcases hj j a with d|d
   ·obtain⟨i,hi,N⟩:=F j d;exact⟨i,Z,N⟩
   exact⟨k,Z,t,m,d⟩
  clear m G F;generalize (bz l k).length=n at *;generalize SR.pos x k=p at *
  go_wp2_with fail
  refine P.out.mono ?_;rintro e g ⟨rfl,f,rfl⟩;have s:=UK.dN u f;have y:=T.drewN f;generalize World.drewN _ f=X at s y ⊢
  go_wp2_with fail
  refine(CF B x c _ (h.below s h.lt) r.size).mono ?_;rintro e g ⟨rfl,o,rfl⟩;have mF:=UK.dN s o;have h1:=y.drewN o;generalize X.drewN o=w7 at mF h1 ⊢
  go_wp2_with fail
  have d3:decide (p<SR.low x)=false:=by rw[decide_eq_false_iff_not];omega
  have d4:decide ((504:Int)<(p:Int)+(n:Int))=false:=by rw[decide_eq_false_iff_not];omega
  simp only[d3,d4,Bool.or_false]
  go_loopw [7] (λ i wr=>∃(q:Nat) (b:List Bool),p<=q/\q<=p+n/\i=V U q/\Hid (Y b=504)/\Hid (∀j,UK.tr b j=true->UK.tr v j=true\/(p<=j/\j<q))/\UK.Bv wr S b/\Below W W wr) (λ i _=>p+n-(intOf i).toNat)
  case atStart=>exact⟨p,v,aH _,Z,rfl,Oa,λ j a=>O a,h1,mF⟩
  obtain⟨q,b,hg,hx,rfl,J,I,A,wR⟩:=hrel;by_cases Vk:q<p+n
  ·have h8:=A.cell (i:=q) (by rw[J.out];omega)
   have CG:UK.tr b q=false:=by
    cases hq:UK.tr b q
    ·rfl
    rcases I.out q hq with d|d
    ·rw[hn.out q hg Vk]at d;cases d
    omega
   rw[CG]at h8;have ht:=A.free q;have sO:=zH (A.set q true);have N7:Hid ((b.set q true).length=504):=by show _=_;rw[aV];exact J.out
   have QO:Hid (∀j,UK.tr (b.set q true) j=true->UK.tr v j=true\/(p<=j/\j<q+1)):=λ j a=>by
    rw[UK.l6]at a;by_cases hc:q=j/\q<Y b
    ·exact al Z
    rw[aE hc]at a;rcases I.out j a with d|d
    ·exact O d
    exact al Z
   have x4:(q:Int)<504:=Z
   have hm:(q:Int)<(p:Int)+n:=Z
   clear CG;go_wp2;go_roundw
   case rel=>exact⟨q+1,b.set q true,Z,Z,by go_num,N7,QO,sO.out,wR.setCell hS _⟩
   case measure=>simp[intOf];omega
  have ha:q=p+n:=Z
  have h9:=hh.out b (λ j a=>by
   rcases I.out j a with d|d
   ·exact O d
   exact al Z)
  have hm:¬(q:Int)<(p:Int)+n:=Z
  clear ha;go_wp2;go_roundw
  case rel=>exact⟨k+1,b,Z,by go_num,J,h9,A,wR⟩
  case measure=>simp[intOf];omega
 have h7:k=Y l:=Z
 go_wp2_with fail
 refine(qI B x l c _ E r).mono ?_;rintro e g ⟨rfl,f,rfl⟩;by_cases w:l=[]
 ·have R:=r.none w;have h3:Y l=0:=by rw[w];rfl
  have Vl:=zH R;rw[h3];clear R w;have h5:=CF B x c _ (E.drewN f) r.size;rw[Vl.out]at h5
  go_wp2_with fail
  refine h5.mono ?_;rintro e g ⟨rfl,o,rfl⟩;go_wp2;go_ret;exact⟨rfl,UK.dN u _⟩
 have h3:0<Y l:=List.length_pos_iff.2 w;clear w;go_wp2;go_ret;exact⟨rfl,UK.dN u _⟩
structure Ob(W0 W:World)(B:Nat)(l:List (List UInt8)):Prop where
 new:W0.1.size<=B
 below:Below W0 W0 W
 page:∃x,aF W B x/\aO x l
namespace Ob
variable{a:World}
end Ob
theorem nz(l:List (List UInt8))(j:Nat):bz (trim l) j=bz l j:=by
 unfold trim;by_cases h:j<kept l (Y l)
 ·exact Ky l _ j h
 have b:=cY l (Y l);rw[SR.gU _ _ (by rw[zt];omega)];by_cases a:j<Y l
 ·exact((ev l (Y l)).1 j Z a).symm
 exact(SR.gU _ _ Z).symm
theorem cM(l:List (List UInt8)):(trim l).length=kept l (Y l):=by
 unfold trim;rw[zt];exact gV (cY _ _)
theorem rP(l:List (List UInt8)):trim l=[]\/bz (trim l) ((trim l).length-1)≠[]:=by
 by_cases h:kept l (Y l)=0
 ·exact O (List.length_eq_zero_iff.1 (by rw[cM];exact h))
 refine al ?_;rw[nz,cM];exact(ev l (Y l)).2 Z
theorem oW(l:List (List UInt8))(s:List UInt8)(j:Nat):bz (add l s) j=if j=hole l then s else bz l j:=by
 have c:=oZ l;unfold add;by_cases h:hole l<Y l
 ·rw[be h,SR.fH];by_cases a:j=hole l
  ·rw[be ⟨a.symm,h⟩,be a]
  rw[aE Z,aE a]
 rw[aE h];unfold bz List.getD;by_cases a:j<Y l
 ·rw[bR a,aE Z]
 rw[bZ Z];by_cases b:j=Y l
 ·subst b;rw[be Z];simp
 rw[aE Z,ja (by simp;omega),ja Z]
theorem AR(l:List (List UInt8))(s:List UInt8)(d:s≠[])(h:l=[]\/bz l (Y l-1)≠[]):add l s=[]\/bz (add l s) ((add l s).length-1)≠[]:=by
 refine al ?_;rw[oW];by_cases b:(add l s).length-1=hole l
 ·rw[be b];exact d
 rw[aE b];have e:=oZ l;by_cases a:hole l<Y l
 ·have c:(add l s).length=Y l:=by unfold add;rw[be a];simp
  rw[c];rcases h with h|h
  ·rw[h]at a;simp at a
  exact h
 exfalso;apply b;unfold add;rw[aE a];simp;omega
end Go.Proofs.YtgpmiliahonaoaaGreatDoor.SL
namespace Go.Proofs.YtgpmiliahonaoaaGreatDoor
open Go.RowKit
open UK (str aF nth Only Row ay w32)
open SR (aO bz total)
open SL (hole add trim room live)
variable{n root pg p q P D k h d cap N g H c1 c2 o v e:Nat}{A B:AP}{rp ch:List Nat}{L M:Nat->List (List UInt8)}{y x z rec s:List UInt8}{f:FuncId}{G:Func}{E F Fo:Nat->Prop}{W W' w:World}{mH I:Array Value}{R:AP->Nat->Int->World->Prop}{r C:Value}{m:Bool}{l:List (List UInt8)}{Co:Nat->List UInt8}
def dO(y:List UInt8)(o:Nat):UInt32:=dS ((y.drop o).take 4)
theorem Q0(x:List UInt8)(a:Nat)(s:List UInt8)(h:a+Y s<=Y x)(i:Nat):(UK.wr x a s)[i]?=if i<a then x[i]? else if i<a+Y s then s[i-a]? else x[i]?:=by
 have d:(x.take a).length=a:=by rw[zt];omega
 unfold UK.wr;by_cases b:i<a
 ·rw[bR Z,List.getElem?_take,be b,be b]
 rw[bZ Z,d,aE b];by_cases c:i<a+Y s
 ·rw[bR Z,be c]
 rw[bZ Z,eP,aE c]
 congr 1
 omega
theorem ZM(x:List UInt8)(o n i:Nat):((x.drop o).take n)[i]?=if i<n then x[o+i]? else none:=by
 by_cases h:i<n
 ·rw[fT h,eP,be h]
 rw[aE h,ja (by rw[zt];omega)]
theorem pA(x:List UInt8)(a:Nat)(s:List UInt8)(h:a+Y s<=Y x)(o n:Nat)(d:o+n<=a\/a+Y s<=o):((UK.wr x a s).drop o).take n=(x.drop o).take n:=by
 apply List.ext_getElem?;intro i;rw[ZM,ZM];by_cases b:i<n
 ·rw[be b,be b,Q0 _ _ _ h];by_cases c:o+i<a
  ·rw[be c]
  rw[aE c,aE Z]
 rw[aE b,aE b]
theorem ZG(x:List UInt8)(a n:Nat)(s:List UInt8)(h:a+Y s<=n)(b:n<=Y x):(UK.wr x a s).take n=UK.wr (x.take n) a s:=by
 unfold UK.wr;rw[List.take_append,zt,gV Z,fQ (by rw[zt];omega),List.take_append,fQ (l:=s) Z,lK,gV Z,List.drop_take,show n-a-Y s=n-(a+Y s) from Z]
theorem Uj(x:List UInt8)(a:Nat)(v:UInt32)(h:a+4<=Y x):dO (UK.wr x a (aJ v)) a=v:=by
 unfold dO;have:=UK.RV x a (aJ v) Z;rw[show(aJ v).length=4 from rfl]at this;rw[this,Fg]
theorem ZK(x:List UInt8)(a:Nat)(s:List UInt8)(h:a+Y s<=Y x)(o:Nat)(b:o+4<=a\/a+Y s<=o):dO (UK.wr x a s) o=dO x o:=by
 unfold dO;rw[pA x a s h o 4 b]
def lG(y:List UInt8)(p n:Nat):List UInt8:=UK.wr (UK.wr y 0 (aJ (w32 p))) 4 (aJ (w32 n))
theorem Q3(y:List UInt8)(p n:Nat)(h:Y y=504):(lG y p n).length=504:=by
 unfold lG;have a:(UK.wr y 0 (aJ (w32 p))).length=504:=(UK.jF _ _ _ (by show 0+4<=_;omega)).trans h;rw[UK.jF _ _ _ (by show 4+4<=_;omega)];exact a
theorem Q4(y:List UInt8)(p n:Nat)(h:Y y=504):dO (lG y p n) 0=w32 p/\dO (lG y p n) 4=w32 n:=by
 have a:(UK.wr y 0 (aJ (w32 p))).length=504:=(UK.jF _ _ _ (by show 0+4<=_;omega)).trans h;unfold lG;refine⟨?_,Uj _ _ _ Z⟩;rw[ZK _ _ _ (by show 4+4<=_;omega) 0 (O (by decide))];exact Uj _ _ _ Z
theorem sl(x:List UInt8)(a:Nat)(s t:List UInt8)(h:a+Y s<=Y x)(e:Y t=Y s):UK.wr (UK.wr x a s) a t=UK.wr x a t:=by
 have d:=UK.jF x a s h;apply List.ext_getElem?;intro i;rw[Q0 (UK.wr x a s) a t Z,Q0 x a t Z,Q0 x a s h];by_cases b:i<a
 ·rw[be b,be b,be b]
 rw[aE b,aE b,aE b];by_cases c:i<a+Y t
 ·rw[be c,be c]
 rw[aE c,aE c,aE Z]
theorem wC(y:List UInt8)(p n m:Nat)(h:Y y=504):lG (lG y p n) p m=lG y p m:=by
 have a:∀p n,lG y p n=UK.wr y 0 (aJ (w32 p)++aJ (w32 n)):=λ p n=>UK.BV y 0 (aJ (w32 p)) (aJ (w32 n)) (aR _);have b:lG (lG y p n) p m=UK.wr (lG y p n) 0 (aJ (w32 p)++aJ (w32 m)):=UK.BV (lG y p n) 0 (aJ (w32 p)) (aJ (w32 m)) (aR _);rw[b,a p n,a p m];exact sl y 0 _ _ (by show 0+8<=_;omega) rfl
theorem Nc(h:n<4294967296):(w32 n).toNat=n:=by
 unfold w32;rw[UInt32.toNat_ofNat'];omega
def qd(c:Nat->List UInt8):List UInt8->List Nat->Prop
 | s,[]=>s=[]
 | s,p::a=>s≠[]/\dO (c p) 0=w32 (a.headD 0)/\((c p).drop 4).take (min (Y s) 500)=s.take 500/\qd c (s.drop 500) a
theorem qd.same{c a:Nat->List UInt8}:∀{ch:List Nat} {s:List UInt8},qd c s ch->(∀p,p∈ch->a p=c p)->qd a s ch
 | [],_,h,_=>h
 | p::k,s,⟨f,d,i,j⟩,b=>by
  have e:=b p (bI ..);exact⟨f,by rw[e];exact d,by rw[e];exact i,j.same (λ q g=>b q (cK _ g))⟩
theorem qd.few{c:Nat->List UInt8}:∀{ch:List Nat} {s:List UInt8},qd c s ch->500*Y ch<=Y s+499
 | [],_,_=>by simp
 | p::d,s,⟨g,h,i,e⟩=>by
  have:=e.few;rw[zd]at this;have j:0<Y s:=List.length_pos_iff.2 g;rw[dF];by_cases f:Y s<=500
  ·have:d=[]:=by
    cases d with
    | nil=>rfl
    | cons a b=>exact absurd (List.drop_eq_nil_of_le f) e.1
   rw[this,List.length_nil];omega
  omega
structure HT where
 pg:Nat
 i:Nat
 s:List UInt8
 ch:List Nat
variable{X:List HT}{t:HT}
def En(t:HT):List UInt8:=if Y t.s<=300 then 0::t.s else 1::(aJ (w32 (Y t.s))++aJ (w32 (t.ch.headD 0)))
theorem FU(t:HT):En t≠[]:=by unfold En;split<;>exact List.cons_ne_nil _ _
def qX(c:Nat->List UInt8)(t:HT):Prop:=if Y t.s<=300 then t.ch=[] else qd c t.s t.ch
theorem qX.same{c b:Nat->List UInt8}{t:HT}(h:qX c t)(d:∀p,p∈t.ch->b p=c p):qX b t:=by
 unfold qX at h ⊢
 split
 ·next a=>rw[be a]at h;exact h
 next a=>rw[aE a]at h;exact h.same d
def Iw(l:List (List UInt8)):Prop:=l=[]\/bz l (Y l-1)≠[]
def oK(X:List HT):List Nat:=X.flatMap HT.ch
theorem Cg(t:HT)(X:List HT):oK (t::X)=t.ch++oK X:=by unfold oK;rw[jq]
def kj(a b:HT):Prop:=¬(a.pg=b.pg/\a.i=b.i)
structure Pg where
 Has:Nat->Prop
 c:Nat->List UInt8
structure HI(A:Pg)(root pg:Nat)(rp:List Nat)(L:Nat->List (List UInt8))(X:List HT):Prop where
 pages:(root::(rp++oK X)).Nodup
 has:∀p,A.Has p↔p∈root::(rp++oK X)
 Kb:dO (A.c root) 0=w32 pg
 wn:dO (A.c root) 4=w32 (Y X)
 ny:(A.c root).length=504
 cur:pg=0\/pg∈rp
 recs:∀p,p∈rp->aO (A.c p) (L p)/\Iw (L p)
 used:∀p,p∈rp->p≠pg->L p≠[]
 at_:∀p,p∈rp->∀i,bz (L p) i≠[]->∃t,t∈X/\t.pg=p/\t.i=i
 each:∀t,t∈X->t.pg∈rp/\bz (L t.pg) t.i=En t/\Y t.s<=400000
 inj:X.Pairwise kj
 long:∀t,t∈X->qX A.c t
namespace HI
variable{A B:Pg}{J:List HT}
theorem iU(h:HI A root pg rp L X):A.Has root:=(h.has root).2 (bI ..)
theorem eH(h:HI A root pg rp L X)(a:p∈rp):A.Has p/\p≠root:=by
 refine⟨(h.has p).2 (cK _ (fw _ a)),λ e=>?_⟩;subst e;exact(eD.1 h.pages).1 (fw _ a)
theorem iy(h:HI A root pg rp L X)(c:t∈X)(b:p∈t.ch):A.Has p/\p≠root/\p∉rp:=by
 have a:p∈oK X:=List.mem_flatMap.2 ⟨t,c,b⟩;refine⟨(h.has p).2 (cK _ (lL _ a)),λ e=>?_,λ e=>?_⟩
 ·subst e;exact(eD.1 h.pages).1 (lL _ a)
 exact(bN.1 (eD.1 h.pages).2).2.2 p e p a rfl
theorem slot(h:HI A root pg rp L X)(b:t∈X):t.i<(L t.pg).length/\(L t.pg).length<=125:=by
 obtain⟨c,a,_⟩:=h.each t b;refine⟨?_,(h.recs _ c).1.few⟩;by_cases d:t.i<(L t.pg).length
 ·exact d
 rw[SR.gU _ _ Z]at a;exact absurd a.symm (FU t)
theorem perm(h:HI A root pg rp L X)(c:X.Perm J):HI A root pg rp L J:=by
 have l:(oK X).Perm (oK J):=c.flatMap_right _;have f:(root::(rp++oK X)).Perm (root::(rp++oK J)):=(l.append_left rp).cons root
 exact⟨f.nodup_iff.1 h.pages,λ p=>(h.has p).trans f.mem_iff,h.Kb,by rw[<-c.length_eq];exact h.wn,h.ny,h.cur,h.recs,h.used,
  λ p j i g=>by obtain⟨t,a,b⟩:=h.at_ p j i g;exact⟨t,c.mem_iff.1 a,b⟩,λ t d=>h.each t (c.mem_iff.2 d),
  (c.pairwise_iff (λ {a b} k e=>k ⟨e.1.symm,e.2.symm⟩)).1 h.inj,λ t d=>h.long t (c.mem_iff.2 d)⟩
theorem same(h:HI A root pg rp L X)(d:∀p,B.Has p↔A.Has p)(a:∀p,A.Has p->B.c p=A.c p):HI B root pg rp L X:=
 ⟨h.pages,λ p=>(d p).trans (h.has p),by rw[a root h.iU];exact h.Kb,by rw[a root h.iU];exact h.wn,by rw[a root h.iU];exact h.ny,h.cur,λ p b=>by rw[a p (h.eH b).1];exact h.recs p b,h.used,h.at_,h.each,h.inj,
  λ t c=>(h.long t c).same (λ p b=>a p (h.iy c b).1)⟩
theorem Nf(h:HI A root pg rp L X)(e:∀p,p∈rp->M p=L p):HI A root pg rp M X:=
 ⟨h.pages,h.has,h.Kb,h.wn,h.ny,h.cur,λ p a=>by rw[e p a];exact h.recs p a,λ p a c=>by rw[e p a];exact h.used p a c,λ p a i d=>h.at_ p a i (by rw[<-e p a];exact d),λ t b=>by rw[e _ (h.each t b).1];exact h.each t b,h.inj,h.long⟩
theorem put(h:HI A root pg rp L X)(k:t.pg=pg)(m:pg∈rp)(n:t.i=hole (L pg))(I:Y t.s<=400000)(z:qX B.c t)(J:t.ch.Nodup)(w:∀p,p∈t.ch->¬A.Has p)(E:∀p,B.Has p↔A.Has p\/p∈t.ch)(F:aO y (add (L pg) (En t)))(G:B.c pg=y)(o:B.c root=lG (A.c root) pg (Y X+1))(l:∀p,A.Has p->p≠pg->p≠root->B.c p=A.c p) :
  HI B root pg rp (λ p=>if p=pg then add (L pg) (En t) else L p) (t::X):=by
 have D:=FU t
 have r:bz (L pg) (hole (L pg))=[]:=by
  by_cases l:hole (L pg)<(L pg).length
  ·exact(SL.rO (L pg)).2 l
  exact SR.gU _ _ Z
 obtain⟨C,K⟩:=Q4 (A.c root) pg (Y X+1) h.ny;have v:=h.pages;refine⟨?_,λ p=>?_,by rw[o];exact C,by rw[o];exact K,by rw[o];exact Q3 _ _ _ h.ny,al m,λ p d=>?_,λ p d s=>?_,λ p d i g=>?_,λ u f=>?_,?_,λ u f=>?_⟩
 ·rw[Cg]
  have H:(root::(rp++(t.ch++oK X))).Perm (t.ch++(root::(rp++oK X))):=by
   refine List.Perm.trans ?_ (List.perm_middle (l₁:=t.ch)).symm;refine List.Perm.cons _ ?_;rw[<-cO,<-cO];exact List.Perm.append_right _ List.perm_append_comm
  refine H.nodup_iff.2 (bN.2 ⟨J,v,λ a x b M e=>?_⟩);subst e;exact w a x ((h.has a).2 M)
 ·rw[E,h.has,Cg];simp only[aN,dm]
  constructor
  ·rintro((a|a|a)|a)
   ·exact O a
   ·exact al (O a)
   ·exact al (al (al a))
   exact al (al (O a))
  rintro(a|a|a|a)
  ·exact O (O a)
  ·exact O (al (O a))
  ·exact al a
  exact O (al (al a))
 ·by_cases e:p=pg
  ·subst e;rw[G];simp only[if_true];exact⟨F,SL.AR _ _ D (h.recs p d).2⟩
  simp only[aE e];rw[l p (h.eH d).1 e (h.eH d).2];exact h.recs p d
 ·simp only[aE s];exact h.used p d s
 ·by_cases e:p=pg
  ·subst e;simp only[if_true]at g;rw[SL.oW]at g;by_cases j:i=hole (L p)
   ·exact⟨t,bI ..,k,by rw[n,j]⟩
   rw[aE j]at g;obtain⟨u,a,b⟩:=h.at_ p d i g;exact⟨u,cK _ a,b⟩
  simp only[aE e]at g;obtain⟨u,a,b⟩:=h.at_ p d i g;exact⟨u,cK _ a,b⟩
 ·rcases aN.1 f with rfl|f
  ·refine⟨by rw[k];exact m,?_,I⟩;rw[k,be rfl,SL.oW,be n]
  obtain⟨a,b,c⟩:=h.each u f;refine⟨a,?_,c⟩;by_cases e:u.pg=pg
  ·rw[be e,SL.oW,aE (λ j=>?_)]
   ·rw[<-e];exact b
   rw[e,j,r]at b;exact FU u b.symm
  rw[aE e];exact b
 ·refine cu.2 ⟨λ u f q=>?_,h.inj⟩;obtain⟨a,b,_⟩:=h.each u f;rw[<-q.1,<-q.2,k,n,r]at b;exact FU u b.symm
 rcases aN.1 f with rfl|f
 ·exact z
 refine(h.long u f).same (λ p d=>?_);obtain⟨a,b,c⟩:=h.iy f d;exact l p a (λ e=>c (e▸m)) b
theorem fresh(h:HI A root pg rp L X)(k:¬A.Has q)(v:∀p,B.Has p↔A.Has p\/p=q)(w:aO y [])(r:pg∈rp->L pg≠[])(z:B.c q=y)(j:B.c root=lG (A.c root) q (Y X))(l:∀p,A.Has p->p≠root->B.c p=A.c p) :
  HI B root q (rp++[q]) (λ p=>if p=q then [] else L p) X:=by
 obtain⟨s,C⟩:=Q4 (A.c root) q (Y X) h.ny;have o:∀p,p∈rp->p≠q:=λ p t e=>k (e▸(h.eH t).1)
 have n:(root::(rp++[q]++oK X)).Perm (q::(root::(rp++oK X))):=by
  rw[cO,List.singleton_append];exact(List.Perm.cons root List.perm_middle).trans (List.Perm.swap ..)
 refine⟨n.nodup_iff.2 (eD.2 ⟨λ x=>k ((h.has q).2 x),h.pages⟩),λ p=>?_,by rw[j];exact s,by rw[j];exact C,by rw[j];exact Q3 _ _ _ h.ny,al (lL _ (bu.2 rfl)),λ p d=>?_,λ p d m=>?_,λ p d i f=>?_,λ u g=>?_,h.inj,λ u g=>?_⟩
 ·rw[v,h.has,n.mem_iff,aN (b:=q)];exact Or.comm
 ·by_cases e:p=q
  ·subst e;rw[z];simp only[if_true];exact⟨w,O rfl⟩
  simp only[aE e];rcases dm.1 d with d|d
  ·rw[l p (h.eH d).1 (h.eH d).2];exact h.recs p d
  exact absurd (bu.1 d) e
 ·simp only[aE m];rcases dm.1 d with d|d
  ·by_cases e:p=pg
   ·subst e;exact r d
   exact h.used p d e
  exact absurd (bu.1 d) m
 ·by_cases e:p=q
  ·subst e;simp only[if_true]at f;rw[SR.gU _ _ (aR _)]at f;exact absurd rfl f
  simp only[aE e]at f;rcases dm.1 d with d|d
  ·exact h.at_ p d i f
  exact absurd (bu.1 d) e
 ·obtain⟨a,b,c⟩:=h.each u g;exact⟨fw _ a,by rw[aE (o _ a)];exact b,c⟩
 refine(h.long u g).same (λ p d=>?_);obtain⟨a,b,c⟩:=h.iy g d;exact l p a b
theorem drop(h:HI A root pg rp L (t::X))(l:∀p,B.Has p↔A.Has p/\p∉t.ch)(E:aO y (trim ((L t.pg).set t.i [])))(D:t.pg≠pg->trim ((L t.pg).set t.i [])≠[])(F:B.c t.pg=y)(n:B.c root=lG (A.c root) pg (Y X))(s:∀p,B.Has p->p≠t.pg->p≠root->B.c p=A.c p) :
  HI B root pg rp (λ p=>if p=t.pg then trim ((L t.pg).set t.i []) else L p) X:=by
 obtain⟨z,H⟩:=Q4 (A.c root) pg (Y X) h.ny;obtain⟨C,I,_⟩:=h.each t (bI ..);have G:=(h.slot (bI (a:=t) (l:=X))).1
 have x:(root::(rp++(t.ch++oK X))).Perm (t.ch++(root::(rp++oK X))):=by
  refine List.Perm.trans ?_ (List.perm_middle (l₁:=t.ch)).symm;refine List.Perm.cons _ ?_;rw[<-cO,<-cO];exact List.Perm.append_right _ List.perm_append_comm
 have v:=h.pages;rw[Cg]at v;have o:=bN.1 (x.nodup_iff.1 v);have r:∀p,p∈rp->B.Has p/\p≠root:=λ p j=>⟨(l p).2 ⟨(h.eH j).1,λ m=>(h.iy (bI ..) m).2.2 j⟩,(h.eH j).2⟩;refine⟨o.2.1,λ p=>?_,by rw[n];exact z,by rw[n];exact H,by rw[n];exact Q3 _ _ _ h.ny,h.cur,λ p d=>?_,λ p d w=>?_,λ p d i f=>?_,λ u g=>?_,(cu.1 h.inj).2,λ u g=>?_⟩
 ·rw[l,h.has,Cg,x.mem_iff,dm]
  constructor
  ·rintro⟨a|a,b⟩
   ·exact absurd a b
   exact a
  intro a;exact⟨al a,λ b=>o.2.2 p b p a rfl⟩
 ·by_cases e:p=t.pg
  ·subst e;rw[F];simp only[if_true];exact⟨E,SL.rP _⟩
  simp only[aE e];rw[s p (r p d).1 e (r p d).2];exact h.recs p d
 ·by_cases e:p=t.pg
  ·subst e;simp only[if_true];exact D w
  simp only[aE e];exact h.used p d w
 ·by_cases e:p=t.pg
  ·subst e;simp only[if_true]at f;rw[SL.nz,SR.fH]at f;by_cases k:t.i=i
   ·rw[be ⟨k,G⟩]at f;exact absurd rfl f
   rw[aE (λ q=>k q.1)]at f;obtain⟨u,a,b,c⟩:=h.at_ t.pg d i f;rcases aN.1 a with rfl|a
   ·exact absurd c k
   exact⟨u,a,b,c⟩
  simp only[aE e]at f;obtain⟨u,a,b,c⟩:=h.at_ p d i f;rcases aN.1 a with rfl|a
  ·exact absurd b.symm e
  exact⟨u,a,b,c⟩
 ·obtain⟨a,b,c⟩:=h.each u (cK _ g);refine⟨a,?_,c⟩;by_cases e:u.pg=t.pg
  ·rw[be e,SL.nz,SR.fH,aE (λ q=>?_)]
   ·rw[<-e];exact b
   exact(cu.1 h.inj).1 u g ⟨e.symm,q.1⟩
  rw[aE e];exact b
 refine(h.long u (cK _ g)).same (λ p d=>?_);obtain⟨a,b,c⟩:=h.iy (cK _ g) d;refine s p ((l p).2 ⟨a,λ m=>?_⟩) (λ e=>c (e▸C)) b;exact o.2.2 p m p (cK _ (lL _ (List.mem_flatMap.2 ⟨u,g,d⟩))) rfl
theorem AU(h:HI A root pg rp L (t::X))(m:∀p,B.Has p↔A.Has p/\p∉t.ch/\p≠t.pg)(z:t.pg≠pg)(G:trim ((L t.pg).set t.i [])=[])(o:B.c root=lG (A.c root) pg (Y X))(w:∀p,B.Has p->p≠root->B.c p=A.c p) :
  HI B root pg (rp.erase t.pg) L X:=by
 obtain⟨D,I⟩:=Q4 (A.c root) pg (Y X) h.ny;obtain⟨s,M,_⟩:=h.each t (bI ..);have N:=(h.slot (bI (a:=t) (l:=X))).1;have H:=eD.1 h.pages;have l:=bN.1 H.2;have r:=h.pages;rw[Cg]at r
 have y:(root::(rp++(t.ch++oK X))).Perm (t.ch++(t.pg::(root::(rp.erase t.pg++oK X)))):=by
  have C:rp.Perm (t.pg::rp.erase t.pg):=List.perm_cons_erase s;refine List.Perm.trans (List.Perm.cons root (List.Perm.append_right _ C)) ?_;refine List.Perm.trans ?_ (List.perm_middle (l₁:=t.ch)).symm;refine List.Perm.trans (List.Perm.swap ..) (List.Perm.cons _ ?_);refine List.Perm.trans ?_ (List.perm_middle (l₁:=t.ch)).symm;refine List.Perm.cons _ ?_;show(rp.erase t.pg++(t.ch++oK X)).Perm _;rw[<-cO,<-cO];exact List.Perm.append_right _ List.perm_append_comm
 have q:=bN.1 (y.nodup_iff.1 r);have x:=eD.1 q.2.1;have g:∀p,p∈rp.erase t.pg->p∈rp/\p≠t.pg:=λ p k=>((l.1.mem_erase_iff).1 k).symm
 have v:∀p,p∈rp.erase t.pg->B.Has p/\p≠root:=λ p k=>
  ⟨(m p).2 ⟨(h.eH (g p k).1).1,λ n=>(h.iy (bI ..) n).2.2 (g p k).1,(g p k).2⟩,(h.eH (g p k).1).2⟩
 have E:∀u,u∈X->u.pg≠t.pg:=λ u f e=>by
  obtain⟨a,b,_⟩:=h.each u (cK _ f);have j:bz (trim ((L t.pg).set t.i [])) u.i=[]:=by rw[G];exact SR.gU _ _ (aR _)
  rw[SL.nz,SR.fH,aE (λ K=>(cu.1 h.inj).1 u f ⟨e.symm,K.1⟩),<-e,b]at j;exact FU u j
 refine⟨x.2,λ p=>?_,by rw[o];exact D,by rw[o];exact I,by rw[o];exact Q3 _ _ _ h.ny,?_,λ p d=>?_,λ p d J=>h.used p (g p d).1 J,λ p d i F=>?_,λ u f=>?_,(cu.1 h.inj).2,λ u f=>?_⟩
 ·rw[m,h.has,Cg,y.mem_iff,dm,aN]
  constructor
  ·rintro⟨a|a|a,b,c⟩
   ·exact absurd a b
   ·exact absurd a c
   exact a
  intro a;exact⟨al (al a),λ b=>q.2.2 p b p (cK _ a) rfl,λ e=>x.1 (e▸a)⟩
 ·rcases h.cur with j|j
  ·exact O j
  exact al ((l.1.mem_erase_iff).2 ⟨λ e=>z e.symm,j⟩)
 ·rw[w p (v p d).1 (v p d).2];exact h.recs p (g p d).1
 ·obtain⟨u,a,b,c⟩:=h.at_ p (g p d).1 i F;rcases aN.1 a with rfl|a
  ·exact absurd b.symm (g p d).2
  exact⟨u,a,b,c⟩
 ·obtain⟨a,b,c⟩:=h.each u (cK _ f);exact⟨(l.1.mem_erase_iff).2 ⟨E u f,a⟩,b,c⟩
 refine(h.long u (cK _ f)).same (λ p d=>?_);obtain⟨a,b,c⟩:=h.iy (cK _ f) d;refine w p ((m p).2 ⟨a,λ n=>?_,λ e=>c (e▸s)⟩) b;exact q.2.2 p n p (cK _ (cK _ (lL _ (List.mem_flatMap.2 ⟨u,f,d⟩)))) rfl
theorem swap{t u:HT}(h:HI A root pg rp L (t::X)){y:List UInt8}(F:∀p,B.Has p↔A.Has p)(j:u.pg=t.pg)(l:u.i=t.i)(z:t.ch=[])(w:u.ch=[])(J:Y u.s<=300)
  (G:aO y ((L t.pg).set t.i (En u))) (H:B.c t.pg=y) (r:∀p,A.Has p->p≠t.pg->B.c p=A.c p) :
  HI B root pg rp (λ p=>if p=t.pg then(L t.pg).set t.i (En u) else L p) (u::X):=by
 obtain⟨n,N,_⟩:=h.each t (bI ..);have o:=(h.slot (bI (a:=t) (l:=X))).1;have I:t.pg≠root:=(h.eH n).2;have D:=FU u;have s:=r root h.iU I.symm;have x:oK (u::X)=oK (t::X):=by rw[Cg,Cg,z,w]
 have E:(u::X).length=(t::X).length:=rfl;refine⟨by rw[x];exact h.pages,λ p=>by rw[x];exact(F p).trans (h.has p),by rw[s];exact h.Kb,by rw[s,E];exact h.wn,by rw[s];exact h.ny,h.cur,λ p f=>?_,λ p f M=>?_,λ p f i g=>?_,λ v d=>?_,?_,λ v d=>?_⟩
 ·by_cases e:p=t.pg
  ·subst e;rw[H];simp only[if_true];refine⟨G,al ?_⟩;rw[aV,SR.fH];by_cases k:t.i=(L t.pg).length-1/\t.i<(L t.pg).length
   ·rw[be k];exact D
   rw[aE k];rcases(h.recs _ f).2 with q|q
   ·rw[q]at o;exact absurd o (jI _)
   exact q
  simp only[aE e];rw[r p (h.eH f).1 e];exact h.recs p f
 ·by_cases e:p=t.pg
  ·subst e;simp only[if_true];intro K;have C:=congrArg List.length K;rw[aV,List.length_nil]at C;omega
  simp only[aE e];exact h.used p f M
 ·by_cases e:p=t.pg
  ·subst e;simp only[if_true]at g;rw[SR.fH]at g;by_cases k:t.i=i/\t.i<(L t.pg).length
   ·exact⟨u,bI ..,j,l.trans k.1⟩
   rw[aE k]at g;obtain⟨v,a,b,c⟩:=h.at_ t.pg f i g;rcases aN.1 a with rfl|a
   ·exact⟨u,bI ..,j,l.trans c⟩
   exact⟨v,cK _ a,b,c⟩
  simp only[aE e]at g;obtain⟨v,a,b,c⟩:=h.at_ p f i g;rcases aN.1 a with rfl|a
  ·exact absurd b.symm e
  exact⟨v,cK _ a,b,c⟩
 ·rcases aN.1 d with rfl|d
  ·refine⟨by rw[j];exact n,?_,Z⟩;rw[j,l,be rfl,SR.fH,be ⟨rfl,o⟩]
  obtain⟨a,b,c⟩:=h.each v (cK _ d);refine⟨a,?_,c⟩;by_cases e:v.pg=t.pg
  ·rw[be e,SR.fH,aE (λ m=>(cu.1 h.inj).1 v d ⟨e.symm,m.1⟩),<-e];exact b
  rw[aE e];exact b
 ·obtain⟨a,b⟩:=cu.1 h.inj;exact cu.2 ⟨λ v d m=>a v d ⟨j.symm.trans m.1,l.symm.trans m.2⟩,b⟩
 rcases aN.1 d with rfl|d
 ·unfold qX;rw[be J];exact w
 refine(h.long v (cK _ d)).same (λ p f=>?_);obtain⟨a,b,c⟩:=h.iy (cK _ d) f;exact r p a (λ e=>c (e▸n))
end HI
open Go.RowKit
open UK (str aF nth Only Row ay w32)
open Go.BigFrame
theorem Cr(hf:prog.funcs[f]?=some G)(d:(G.name== "runtime.NumGoroutine")=false)(b:G.body.isSome=true)(args:Array Value)(w:World):(callFunc f args).run prog w= .ok (.enter f args) w:=by
 have a:G.name≠ "runtime.NumGoroutine" :=by simpa using d
 obtain⟨c,e⟩:=Option.isSome_iff_exists.1 b;simp[callFunc,hf,a,e]
theorem FR(I:∀args w,(callFunc N args).run prog w= .ok (.enter N args) w)(p:PZ E W P D A k)(C:k+2<900000000)(z:A.Has pg)(s:∀j,F j->E j)(n:∀(h d cap:Nat) (w:World),PF E w P D A (k+2) h d cap pg false->Kept E W w->Calls prog N (#[aq h]++mH) w λ e b=>∃(r:Int) (c:AP) (a:Nat) (m:Bool),e=aw (V U r)/\PF E b P D c a h d cap pg m/\Kept F w b/\R c a r b) :
  Calls prog 169 #[aq P,V U pg,.func (.func N) #[] mH] W λ e b=>∃(r:Int) (c:AP) (a:Nat) (f:World),e=aw (V U r)/\R c a r f/\PZ E b P D c a/\Kept E f b/\Kept F W b:=by
 have i:=zH (Ke p C pg z);clear p
 go_enter_defers func169,ntmps169
 go_wp2_with fail
 refine i.out.mono ?_;rintro e f ⟨h,d,cap,rfl,y,g⟩;have q:=zH (n h d cap f y g);have x:=zH (g.mono s);clear i y g n
 go_wp2_with fail
 refine q.out.mono ?_;rintro e G ⟨r,c,a,m,rfl,o,t,u⟩;have B:=zH (DT .returning o);have v:=bg u (x.out.trans t);clear q x o t u;go_wp2;refine leaves_cons (f:=65) (args:= #[aq h]) (by simp) (by simp[go_sem]) ?_;refine B.out.mono ?_;rintro e K J ⟨rfl,rfl,H,l⟩;refine⟨_,results_tmp rfl _ _ _,?_⟩;exact⟨r,c,a,G,rfl,v.out.1,H,l,v.out.2.trans (l.mono s)⟩
theorem UK.ay.drew(h:ay W g I):ay W.drew g I:=h.ae rfl
theorem UK.ay.drewN(h:ay W g I)(n:Nat):ay (W.drewN n) g I:=h.ae rfl
theorem Ug{B:Nat}(h:aF W B x)(o n c:Nat)(f:4<=n)(i:o+n<=Y x) :
  Calls prog 212 #[ad (B,o) n c] W λ e g=>e=aw (V U (dO x o).toNat)/\Below W W g:=by
 have a:=zH (Xl h o n c f i);have j:=UK.ZA (dS ((x.drop o).take 4));have d:IntKind.i64.wrap ((dS ((x.drop o).take 4)).toNat:Int)=((dS ((x.drop o).take 4)).toNat:Int):=by rw[dM];omega
 unfold dO;generalize dS ((x.drop o).take 4)=u at a j d ⊢
 go_enter func212,ntmps212
 go_wp2_with fail
 refine a.out.mono ?_;rintro e l ⟨rfl,b⟩;have k:=zH b;clear a b;go_wp2;go_ret;exact⟨by first|rfl|rw[d]<;>rfl,k.out⟩
theorem MQ{B:Nat}(h:aF W B x)(o n c:Nat)(g:4<=n)(a:o+n<=Y x)(i:n<=100000000)(v:Nat) :
  Calls prog 226 #[ad (B,o) n c,V U v] W λ e f=>e=aw (a9 #[])/\aF f B (UK.wr x o (aJ (w32 v)))/\Only B W f:=by
 have b:=zH (GD h o n c g a i (w32 v));have k:IntKind.u32.wrap (v:Int)=((w32 v).toNat:Int):=by rw[IntKind.wrap_u32,UK.J5]
 have m:=UK.J5 v
 go_enter func226,ntmps226
 go_wp2_with fail
 refine b.out.mono ?_;rintro e l ⟨rfl,d,a⟩;have j:=bg d a;clear b d a;go_wp2
 go_end0
 exact⟨rfl,j.out⟩
theorem ZB(y:List UInt8)(o n m:Nat)(h:o+n<=m):((y.take m).drop o).take n=(y.drop o).take n:=by
 rw[List.drop_take,lK,gV Z]
theorem xiv(y:List UInt8)(o m:Nat)(h:o+4<=m):dO (y.take m) o=dO y o:=by unfold dO;rw[ZB y o 4 m h]
theorem PF.two(i:PF E W P D A k h d cap pg m)(s:E c1)(r:E c2)(o:0 ≠c1)(q:0 ≠c2)(a b:Value):PF E ((W.setCell c1 a).setCell c2 b) P D A k h d cap pg m/\Kept (λ j=>E j/\j≠c1/\j≠c2) W ((W.setCell c1 a).setCell c2 b):=by
 have f:Only c1 W (W.setCell c1 a):=(Only.refl c1 W).set 0 a;have g:Only c2 (W.setCell c1 a) ((W.setCell c1 a).setCell c2 b):=(Only.refl c2 _).set 0 b
 have n:∀j,j<W.1.size->¬(j=c1\/j=c2)->((W.setCell c1 a).setCell c2 b).1[j]?=W.1[j]?:=λ j c l=>
  (g.block j (cB c f.size) (λ e=>l (al e))).trans (f.block j c (λ e=>l (O e)))
 refine⟨i.over (R:=λ j=>j=c1\/j=c2) (λ j c=>by rcases c with rfl|rfl<;>assumption) (λ c=>by rcases c with e|e;exact o e;exact q e) (aT f.size g.size) n (λ _ c=>O c),?_⟩;exact⟨g.os.trans f.os,g.tape.trans f.tape,g.output.trans f.output,aT f.size g.size,λ j c=>n j (i.there j c.1) (λ p=>p.elim c.2.1 c.2.2)⟩
theorem sG(a:PF E W P D A k h d cap pg false)(b1:ay W c1 #[r])(b:ay W c2 #[C])(J:E c1)(S:E c2)(v:c1≠c2)(t1:0 ≠c1)(O:0 ≠c2) :
  Calls prog 219 #[aq h,aq c1,aq c2] W λ e m=>e=aw (V U 0)/\PF E m P D A k h d cap pg false/\ay m c1 #[V U (dO (A.c pg) 0).toNat]/\ay m c2 #[V U (dO (A.c pg) 4).toNat]/\Kept (λ j=>E j/\j≠c1/\j≠c2) W m:=by
 have u:=zH (AB a);obtain⟨y,c,Q,t,T,L⟩:=a.bytes;have B:dO (A.c pg) 0=dO y 0:=by rw[<-t];exact xiv y 0 504 (by decide)
 have x:dO (A.c pg) 4=dO y 4:=by rw[<-t];exact xiv y 4 504 (by decide)
 rw[B,x];have HW0:=zH (Ug c 0 504 cap Z Z);have F:=bp a c b1 b;have o:=bg Q T;clear a c b1 b B x t L;generalize K:dO y 0=n at HW0 ⊢;generalize w:dO y 4=s at ⊢;have z:=zH w;clear K w
 go_enter func219,ntmps219
 go_wp2_with fail
 refine u.out.mono ?_;rintro e w1 ⟨rfl,rfl⟩
 go_wp2_with fail
 refine HW0.out.mono ?_;rintro e w2 ⟨rfl,f⟩;obtain⟨a,c,b1,b⟩:=F.out;have q:=a.next f;have i:=a.kept f;have HB2:=zH (AB q);have p:=zH (Ug (c.below f c.lt) 4 500 (cap-4) Z (by have:=o.out;omega));rw[z.out]at p;have G:=bp q (b1.next f) (b.next f) i;have h2:(4:Int)<=504:=Z
 have h1:(4:Int)<=cap:=by have:=o.out;omega
 have h0:¬(cap=4):=by have:=o.out;omega
 clear u HW0 F z a c b1 b q i f
 go_wp2_with fail
 refine HB2.out.mono ?_;rintro e w3 ⟨rfl,rfl⟩
 go_wp2_with fail
 refine p.out.mono ?_;rintro e w4 ⟨rfl,g⟩;obtain⟨a,b1,b,i⟩:=G.out;have I:=a.next g;have b14:=b1.next g;have l:=b.next g;have H:=i.trans (a.kept g);have d1:=b14.cell 0 _ rfl;have d2:=l.cell 0 _ rfl;have f1:=b14.free 0;have f2:=l.free 0;have Y:=zH (I.two J S t1 O (V U n.toNat) (V U s.toNat));have N:=bm (((b14.set 0 (V U n.toNat)).far (b:=c2) (j:=0) (V U s.toNat) v)) ((l.far (b:=c1) (j:=0) (V U n.toNat) v.symm).set 0 (V U s.toNat)) H;clear HB2 p G a b1 b i g I b14 l H;go_wp2;go_ret;obtain⟨R,M⟩:=Y.out;obtain⟨q3,X,q5⟩:=N.out;exact⟨rfl,R,q3,X,(q5.mono (λ _ hj=>hj.1)).trans M⟩
abbrev rG(P root:Nat):Array Value:= #[aq P,V U root]
theorem ZF(f:PZ E W P D A k)(Y:k+2<900000000)(b:ay W H (rG P root))(C:A.Has root) :
  Calls prog 168 #[aq H] W λ e g=>e=aw (a9 #[V U (dO (A.c root) 0).toNat,V U (dO (A.c root) 4).toNat,V U 0])/\PZ E g P D A (k+2)/\Kept E W g:=by
 have c0:=b.c0;have c1:=b.c1;have N:=f.tab.lt;have v:Below W W (W.alloc (.cells #[V U 0] 3)):=(aU _ _).alloc (aH _) _;have u:(W.alloc (.cells #[V U 0] 3)).1.size=W.1.size+1:=by simp
 have I:=ay.new W #[V U 0] 3;have c:=v.alloc Z (.cells #[V U 0] 3);have J:((W.alloc (.cells #[V U 0] 3)).alloc (.cells #[V U 0] 3)).1.size=W.1.size+2:=by simp
 have m:=ay.new (W.alloc (.cells #[V U 0] 3)) #[V U 0] 3;rw[u]at m;have n:=I.alloc (.cells #[V U 0] 3);generalize t:(W.alloc (.cells #[V U 0] 3)).alloc (.cells #[V U 0] 3)=L at c J m n
 have s:=(f.wide c (T:=λ j=>E j\/j=W.1.size\/j=W.1.size+1) (λ j a=>by
  rcases a with a|a|a
  ·exact O a
  ·exact al Z
  exact al Z)).next (aU _ _).drew
 have B:Kept E W L.drew:=f.kept c.drew;have d0:=(b.below c b.lt).c0;have d1:=(b.below c b.lt).c1
 have G:=zH (FR (N:=219) (mH:= #[aq W,aq (some ⟨W.1.size+1,0,none⟩)]) (F:=E)
  (R:=λ M x r g=>M=A/\x=k+2/\r=0/\ay g W #[V U (dO (A.c root) 0).toNat]/\ay g (W.1.size+1) #[V U (dO (A.c root) 4).toNat])
  (Cr func219 (by kernel_rfl) (by kernel_rfl)) s Y C (λ j a=>O a) (λ h d cap w Q F=>by
   refine(sG Q ((n.drew).ae (F.block _ (al (O rfl)))) ((m.drew).ae (F.block _ (al (al rfl)))) (al (O rfl)) (al (al rfl)) Z Z Z).mono ?_;rintro e g ⟨X,S,R,q3,T⟩;exact⟨0,A,k+2,false,X,S,T.mono (λ j a=>⟨O a,by have:=f.there j a;omega,by have:=f.there j a;omega⟩),rfl,rfl,rfl,R,q3⟩))
 have HW2:=zH t;have z:=zH B;clear t u J f b I m n s B v c N C
 go_enter func168,ntmps168
 go_wp2_with fail
 rw[HW2.out]
 go_still_tail 9,(by kernel_rfl)
 change wpList _ _ _ _ _ L.drew
 go_wp2_with fail
 refine G.out.mono ?_;rintro e o ⟨r,M,x,w1,rfl,⟨rfl,rfl,rfl,p,y⟩,l,i,K⟩;have z1:=(p.ae (i.block _ (al (O rfl)))).cell 0 _ rfl;have z2:=(y.ae (i.block _ (al (al rfl)))).cell 0 _ rfl;have K3:=bg (l.less (T:=E) (λ j a=>O a)) (z.out.trans K);clear G z p y l i K;go_wp2
 go_quiet (fail)
 go_wp2
 go_ret3
 obtain⟨l,i⟩:=K3.out;have q:Below o o (o.drewN nq):=UK.dN (aU _ _) nq;exact⟨rfl,l.next q,i.trans (l.kept q)⟩
theorem MR(b:PF E W P D A k h d cap pg m)(f:k<900000000) :
  Calls prog 64 #[aq h] W λ e a=>e=aw (ad d 504 cap)/\PF E a P D (A.keep pg) (k+1) h d cap pg true/\Kept E W a/\∃y,aF a d y/\Y y=cap/\y.take 504=A.c pg/\504<=cap/\¬E d:=
 (zi b f).mono λ _ _ ⟨c,p,g⟩=>⟨c,p,g,p.bytes⟩
theorem PF.word(a:PF E W P D (A.keep pg) k h d cap pg true)(e:Only d W W')(i:o+4<=504)(c:Y y=cap)(j:504<=cap)(b:y.take 504=A.c pg)(g:aF W' d (UK.wr y o (aJ (w32 v)))) :
  PF E W' P D (A.ax pg (UK.wr (A.c pg) o (aJ (w32 v)))) k h d cap pg true/\Kept E W W':=by
 have f:(UK.wr y o (aJ (w32 v))).length=cap:=(UK.jF _ _ _ (by show o+4<=_;omega)).trans c;have:=a.write e g f;rw[show(UK.wr y o (aJ (w32 v))).take 504=UK.wr (A.c pg) o (aJ (w32 v)) by rw[<-b];exact ZG y o 504 (aJ (w32 v)) (by show o+4<=_;omega) Z]at this;exact this
theorem pc(q:PF E W P D A k h d cap pg false)(hk:k+2<900000000)(b1:ay W c1 #[V U p])(l:ay W c2 #[V U n])(B:E c1)(I:E c2) :
  Calls prog 225 #[aq h,aq c1,aq c2] W λ e f=>e=aw (V U 0)/\PF E f P D (A.ax pg (lG (A.c pg) p n)) (k+2) h d cap pg true/\Kept E W f:=by
 have F:Below W W W.drew:=(aU _ _).drew;have T:=q.next F;have Q:=q.kept F;have g:=q.dV;have d1:=b1.drew.c0;have R:=zH ((MR T Z).mono (R':=λ e f=>e=aw (ad d 504 cap)/\f.cell? c1=some (V U p)/\(PF E f P D (A.keep pg) (k+1) h d cap pg true/\Kept E W.drew f/\∃y,aF f d y/\Y y=cap/\y.take 504=A.c pg/\504<=cap/\¬E d)) (λ _ _ ⟨a,b,c,x⟩=>⟨a,(b1.drew.ae (c.block _ B)).cell 0 _ rfl,b,c,x⟩));have L:=bp b1.drew l.drew Q g;clear q b1 l T Q g
 go_enter func225,ntmps225
 go_wp2_with fail
 go_region_with (first
  | (go_at_call 64;refine R.out.mono ?_;rintro e w3 ⟨rfl,d3,w,i,y,K,O,y3,y4,y5⟩;replace w:=zH w;replace i:=zH i)
  | (go_at_call 226;refine(MQ K 0 504 cap Z Z Z p).mono ?_;rintro e s ⟨rfl,z1,r⟩;replace z1:=zH z1;replace r:=zH r))
 all_goals
  obtain⟨b1,l,k0,g⟩:=L.out;obtain⟨H,t⟩:=w.out.word r.out (o:=0) Z O y4 y3 z1.out;have J:Below s s s.drew:=(aU _ _).drew;have b14:=(b1.ae (i.out.block _ B)).ae (t.block _ B);have C:=((l.ae (i.out.block _ I)).ae (t.block _ I)).drew;have X:=H.next J;have j:=((k0.trans i.out).trans t).trans (H.kept J);have e5:=C.c0;have HE2:=zH ((MR X Z).mono (R':=λ e f=>e=aw (ad d 504 cap)/\f.cell? c2=some (V U n)/\(PF E f P D ((A.ax pg (UK.wr (A.c pg) 0 (aJ (w32 p)))).keep pg) (k+2) h d cap pg true/\Kept E s.drew f/\∃y,aF f d y/\Y y=cap/\y.take 504=(A.ax pg (UK.wr (A.c pg) 0 (aJ (w32 p)))).c pg/\504<=cap/\¬E d)) (λ _ _ ⟨a,b,c,x⟩=>⟨a,(C.ae (c.block _ I)).cell 0 _ rfl,b,c,x⟩));have HB2:=bg j g;have i1:(4:Int)<=504:=Z
  have i2:(4:Int)<=cap:=Z
  have i3:¬(cap=4):=Z
  clear R L b1 l k0 g H t J b14 C X j w i z1 r K O y3 y5 d1 d3 F
  go_wp2_with fail
  go_region_with (first
   | (go_at_call 64;refine HE2.out.mono ?_;rintro e w6 ⟨rfl,d6,u,m,z,S,N,t3,t4,t5⟩;replace u:=zH u;replace m:=zH m)
   | (go_at_call 226;refine(MQ S 4 500 (cap-4) Z Z Z n).mono ?_;rintro e w7 ⟨rfl,v,o⟩;replace v:=zH v;replace o:=zH o))
  all_goals
   obtain⟨j,g⟩:=HB2.out;obtain⟨G,M⟩:=u.out.word o.out (o:=4) Z N t4 t3 v.out;rw[AP.lD,AP.aL,be rfl]at G;have H8:=bg G ((j.trans m.out).trans M);clear HE2 HB2 j g G M u m v o S N t3 t5 d6;go_wp2;go_ret;exact⟨rfl,H8.out⟩
open SR (aO bz total)
open SL (hole add trim room live)
theorem SR.aO.AJ(h:aO x l)(u:504<=Y y)(e:∀i,i<504->nth y i=nth x i):aO y l:=by
 have hf:=h.few;have t:=h.nV;have v:=h.qc;have g:∀a,a+1<504->SR.two y a=SR.two x a:=λ a o=>by unfold SR.two;rw[e a Z,e (a+1) o]
 have f:SR.low y=SR.low x:=g 2 Z;have d:∀i,i<Y l->SR.pos y i=SR.pos x i:=λ i b=>g _ Z;have m:∀i,i<Y l->SR.ext y i=SR.ext x i:=λ i b=>g _ Z;refine⟨u,by rw[g 0 Z];exact h.len,by rw[f];exact t,by rw[f];exact v,λ c=>by rw[f];exact h.none c,λ i b c=>?_,λ i b c=>?_,λ i b k s=>?_,λ i j b n q p r=>?_,h.sum⟩
 ·rw[d i b,m i b];exact h.hole i b c
 ·rw[d i b,m i b,f];exact h.there i b c
 ·have:=h.inside b;rw[d i b,e _ Z];exact h.bytes i b k s
 rw[d i b,d j n];exact h.apart i j b n q p r
theorem ZH(y:List UInt8)(n i:Nat)(h:i<n):nth (y.take n) i=nth y i:=by
 unfold nth;rw[fV,fV,fT h]
theorem SR.aO.cut(h:aO y l):aO (y.take 504) l:=h.AJ (by have:=h.size;rw[zt];omega) (λ i a=>ZH y 504 i a)
theorem SR.aO.oz(h:aO z l)(b:504<=Y y)(e:y.take 504=z):aO y l:=h.AJ b (λ i a=>by rw[<-e,ZH y 504 i a])
section
variable{c3:Nat}{L:List (List UInt8)}
theorem MU(i:PZ E W P D A k)(hk:k+4<900000000)(b:ay W H (rG P root))(x:A.Has root)(p n:Nat) :
  Calls prog 173 #[aq H,V U p,V U n] W λ e l=>e=aw (V U 0)/\PZ E l P D (A.ax root (lG (A.c root) p n)) (k+4)/\Kept E W l:=by
 have X:=b.c0;have c1:=b.c1;have s:Below W W (W.alloc (.cells #[V U p] 3)):=(aU _ _).alloc (aH _) _;have q:(W.alloc (.cells #[V U p] 3)).1.size=W.1.size+1:=by simp
 have B:=ay.new W #[V U p] 3;have c:=s.alloc Z (.cells #[V U n] 3);have C:((W.alloc (.cells #[V U p] 3)).alloc (.cells #[V U n] 3)).1.size=W.1.size+2:=by simp
 have f:=ay.new (W.alloc (.cells #[V U p] 3)) #[V U n] 3;rw[q]at f;have g:=B.alloc (.cells #[V U n] 3);generalize o:(W.alloc (.cells #[V U p] 3)).alloc (.cells #[V U n] 3)=G at c C f g
 have m:=(i.wide c (T:=λ j=>E j\/j=W.1.size\/j=W.1.size+1) (λ j a=>by
  rcases a with a|a|a
  ·exact O a
  ·exact al Z
  exact al Z)).next (aU _ _).drew
 have v:Kept E W G.drew:=i.kept c.drew;have T:=(b.below c b.lt).c0;have d1:=(b.below c b.lt).c1
 have z:=zH (FR (N:=225) (mH:= #[aq W,aq (some ⟨W.1.size+1,0,none⟩)]) (F:=E)
  (R:=λ I t r _=>I=A.ax root (lG (A.c root) p n)/\t=k+4/\r=0)
  (Cr func225 (by kernel_rfl) (by kernel_rfl)) m Z x (λ j a=>O a) (λ h d cap w L y=>by
   refine(pc L Z ((g.drew).ae (y.block _ (al (O rfl)))) ((f.drew).ae (y.block _ (al (al rfl)))) (al (O rfl)) (al (al rfl))).mono ?_;rintro e l ⟨Q,M,N⟩;exact⟨0,_,k+4,true,Q,M,N.mono (λ j a=>O a),rfl,rfl,rfl⟩))
 have HW2:=zH o;have u:=zH v;clear o q C i b B f g m v s c x
 go_enter func173,ntmps173
 go_wp2_with fail
 rw[HW2.out]
 go_still_tail 9,(by kernel_rfl)
 change wpList _ _ _ _ _ G.drew
 go_wp2_with fail
 refine z.out.mono ?_;rintro e Y ⟨r,I,t,S,rfl,⟨rfl,rfl,rfl⟩,J,K,F⟩;have R:=bg (J.less (T:=E) (λ j a=>O a)) (u.out.trans F);clear z u J K F;go_wp2;go_ret;exact⟨rfl,R.out⟩
theorem PF.Ui(e:PF E W P D A k h d cap pg m)(n:E c1)(f:E c2)(i:0 ≠c1)(l:0 ≠c2)(c:c1≠c2)(b1:ay W c1 #[r])(o:ay W c2 #[C])(a b:Value) :
  PF E ((W.setCell c1 a).setCell c2 b) P D A k h d cap pg m/\Kept (λ j=>E j/\j≠c1/\j≠c2) W ((W.setCell c1 a).setCell c2 b)/\ay ((W.setCell c1 a).setCell c2 b) c1 #[a]/\ay ((W.setCell c1 a).setCell c2 b) c2 #[b]:=by
 obtain⟨p,g⟩:=e.two n f i l a b;exact⟨p,g,(b1.set 0 a).far (b:=c2) (j:=0) b c,(o.far (b:=c1) (j:=0) a c.symm).set 0 b⟩
theorem ZI(b:PF E W P D A k h d cap pg false)(i:aO (A.c pg) L)(b1:ay W c1 #[a8 (str rec)]) :
  Calls prog 229 #[ad d 504 cap] W λ e a=>e=aw (V U (room L))/\a.cell? c1=some (a8 (str rec))/\PF E a P D A k h d cap pg false/\Kept E W a:=by
 obtain⟨y,f,m,j,l,n⟩:=b.bytes;exact(SL.fZ d y L cap W f (i.oz Z j)).mono λ e a ⟨g,c⟩=>⟨g,(b1.next c).cell 0 _ rfl,b.next c,b.kept c⟩
theorem Cl(c:PF E W P D A k h d cap pg false)(p:aO (A.c pg) L)(b1:ay W c1 #[a8 (str rec)])(q:room L<Y rec) :
  Calls prog 228 #[aq h,aq c1,aq c2,aq c3] W λ e j=>e=aw (V U 0)/\PF E j P D A k h d cap pg false/\Kept E W j:=by
 have g:Below W W W.drew:=(aU _ _).drew;have f:=c.next g;have m:=c.kept g;have s:=b1.drew.c0;have n:=zH (AB f);have i:=zH (ZI f p b1.drew);have l:=zH m;clear c f m b1 g
 go_enter func228,ntmps228
 go_wp2_with fail
 go_region_with (first
  | (go_at_call 116;refine n.out.mono ?_;rintro e t ⟨rfl,rfl⟩)
  | (go_at_call 229;refine i.out.mono ?_;rintro e u ⟨rfl,r,a,b⟩;replace a:=zH a;replace b:=zH b))
 all_goals
  have o:=bg a.out (l.out.trans b.out);have hd:decide ((Y rec:Int)<=room L)=false:=decide_eq_false Z;clear n i l a b;go_wp2;go_ret;exact⟨rfl,o.out⟩
theorem A3(i:PF E W P D (A.keep pg) k h d cap pg true)(t:aO (A.c pg) L)(u:E c2)(x:E c3)(B:ay W c2 #[r])(j:ay W c3 #[C])(H:rec≠[])(v:(Y rec:Int)<=room L) :
  Calls prog 177 #[ad d 504 cap,a8 (str rec)] W λ e a=>e=aw (a9 #[V U (hole L:Nat),a6 true])/\a.cell? c2=some r/\a.frozen? ⟨c2,0,none⟩=false/\a.cell? c3=some C/\a.frozen? ⟨c3,0,none⟩=false/\ay a c2 #[r]/\ay a c3 #[C]/\(∃z,aO z (add L rec)/\Y z=504/\PF E a P D (A.ax pg z) k h d cap pg true)/\Kept E W a:=by
 obtain⟨y,m,s,f,I,g⟩:=i.bytes;have f:y.take 504=A.c pg:=f;refine(SL.wX d y L cap Z rec W m (t.oz Z f) H v).mono ?_;rintro e a ⟨w,⟨z,z1,G,q⟩,o⟩;have n:c2≠d:=λ e=>g (e▸u);have l:c3≠d:=λ e=>g (e▸x);have b:=B.only o n;have c:=j.only o l;obtain⟨p,F⟩:=i.write o z1 (q.trans s);exact⟨w,b.cell 0 _ rfl,b.free 0,c.cell 0 _ rfl,c.free 0,b,c,⟨z.take 504,G.cut,by rw[zt];omega,p⟩,F⟩
theorem Jx(F:PF E W P D A k h d cap pg false)(hk:k<900000000)(G:aO (A.c pg) L)(b1:ay W c1 #[a8 (str rec)])(i:ay W c2 #[r])(f:ay W c3 #[C])(O:E c1)(u:E c2)(w:E c3)(h2:c2≠c3)(t2:0 ≠c2)(t3:0 ≠c3)(hs:rec≠[])(h0:(Y rec:Int)<=room L) :
  Calls prog 228 #[aq h,aq c1,aq c2,aq c3] W λ e a=>e=aw (V U 0)/\(∃z,aO z (add L rec)/\Y z=504/\PF E a P D (A.ax pg z) (k+1) h d cap pg true)/\ay a c2 #[V U (hole L:Nat)]/\ay a c3 #[a6 true]/\Kept (λ j=>E j/\j≠c2/\j≠c3) W a:=by
 have B:Below W W W.drew:=(aU _ _).drew;have I:=F.next B;have l:=F.kept B;have d1:=b1.drew.c0;have R:=zH (AB I);have X:=zH (ZI I G b1.drew);have S:=bp l b1.drew i.drew f.drew;have HRR:=zH G;clear F I l b1 i f B G
 go_enter func228,ntmps228
 go_wp2_with fail
 go_region_with (first
  | (go_at_call 116;refine R.out.mono ?_;rintro e w3 ⟨rfl,rfl⟩)
  | (go_at_call 229;refine X.out.mono ?_;rintro e t ⟨rfl,d4,g,b⟩;replace g:=zH g;replace b:=zH b))
 all_goals
  have N:Below t t t.drew:=(aU _ _).drew;obtain⟨l,b1,i,f⟩:=S.out;have b14:=(b1.ae (b.out.block _ O)).drew;have Q:=(i.ae (b.out.block _ u)).drew;have T:=(f.ae (b.out.block _ w)).drew;have e4:=b14.c0;have k5:=(l.trans b.out).trans (g.out.kept N);have HE:=zH ((MR (g.out.next N) hk).mono (R':=λ e a=>e=aw (ad d 504 cap)/\a.cell? c1=some (a8 (str rec))/\PF E a P D (A.keep pg) (k+1) h d cap pg true/\Kept E t.drew a/\ay a c2 #[r]/\ay a c3 #[C]) (λ _ _ ⟨h3,h1,c,h4⟩=>⟨h3,(b14.ae (c.block _ O)).cell 0 _ rfl,h1,c,Q.ae (c.block _ u),T.ae (c.block _ w)⟩));have Z:=zH k5;have hd:decide ((Y rec:Int)<=room L)=true:=decide_eq_true h0;clear R X S g b l b1 i f b14 Q T k5 d1 d4 N
  go_wp2_with fail
  go_region_with (first
   | (go_at_call 64;refine HE.out.mono ?_;rintro e w6 ⟨rfl,d6,x,m,q,o⟩;replace x:=zH x;replace m:=zH m;replace q:=zH q;replace o:=zH o)
   | (go_at_call 177;refine(A3 x.out HRR.out u w q.out o.out hs h0).mono ?_;rintro e s ⟨rfl,d7,f7,g7,j7,v,p,y,n⟩;replace y:=zH y;replace n:=zH n;replace v:=zH v;replace p:=zH p))
  all_goals
   have HF:=zH (show ∃z,aO z (add L rec)/\Y z=504/\PF E ((s.setCell c2 (V U (hole L:Nat))).setCell c3 (a6 true)) P D (A.ax pg z) (k+1) h d cap pg true/\ay ((s.setCell c2 (V U (hole L:Nat))).setCell c3 (a6 true)) c2 #[V U (hole L:Nat)]/\ay ((s.setCell c2 (V U (hole L:Nat))).setCell c3 (a6 true)) c3 #[a6 true]/\Kept (λ j=>E j/\j≠c2/\j≠c3) W ((s.setCell c2 (V U (hole L:Nat))).setCell c3 (a6 true))from by
    obtain⟨z,z1,M,z3⟩:=y.out;obtain⟨H,q2,K,J⟩:=z3.Ui u w t2 t3 h2 v.out p.out (V U (hole L:Nat)) (a6 true);exact⟨z,z1,M,H,K,J,((Z.out.trans (m.out.trans n.out)).mono (λ _ hj=>hj.1)).trans q2⟩)
   clear HE HRR Z x m q o y n v p d6 d7 f7 g7 j7 e4;go_wp2;go_ret;obtain⟨z,z1,M,H,K,J,q5⟩:=HF.out;exact⟨rfl,⟨z,z1,M,H⟩,K,J,q5⟩
end
section
variable{c3:Nat}{L:List (List UInt8)}
def G9(E:Nat->Prop)(W W':World)(P D:Nat)(A:AP)(k pg:Nat)(L:List (List UInt8))(rec:List UInt8)(e:Ending):Prop:=
 ((Y rec:Int)<=room L/\e=aw (a9 #[V U (hole L:Nat),a6 true,V U 0])/\∃z,aO z (add L rec)/\Y z=504/\PZ E W' P D (A.ax pg z) (k+3)/\Kept E W W') \/
 (room L<Y rec/\e=aw (a9 #[V U 0,a6 false,V U 0])/\PZ E W' P D A (k+3)/\Kept E W W')
theorem ZJ(m:PZ E W P D A k)(hk:k+3<900000000)(B:ay W H (rG P root))(J:A.Has pg)(N:aO (A.c pg) L)(hs:rec≠[]) :
  Calls prog 175 #[aq H,V U pg,a8 (str rec)] W λ e n=>G9 E W n P D A k pg L rec e:=by
 have c0:=B.c0;have ht:=m.tab.lt;have K:Below W W (W.alloc (.cells #[a8 (str rec)] 9)):=(aU _ _).alloc (aH _) _;have s:(W.alloc (.cells #[a8 (str rec)] 9)).1.size=W.1.size+1:=by simp
 have R:=ay.new W #[a8 (str rec)] 9;generalize fO:W.alloc (.cells #[a8 (str rec)] 9)=T at K s R;have F:=K.alloc Z (.cells #[V U 0] 3);have y:(T.alloc (.cells #[V U 0] 3)).1.size=W.1.size+2:=by simp[s]
 have t:=ay.new T #[V U 0] 3;rw[s]at t;have I:=R.alloc (.cells #[V U 0] 3);generalize h0:T.alloc (.cells #[V U 0] 3)=wb at F y t I;have i:=F.alloc Z (.cells #[a6 false] 4);have h3:(wb.alloc (.cells #[a6 false] 4)).1.size=W.1.size+3:=by simp[y]
 have l:=ay.new wb #[a6 false] 4;rw[y]at l;have o:=t.alloc (.cells #[a6 false] 4);have q:=I.alloc (.cells #[a6 false] 4);generalize h1:wb.alloc (.cells #[a6 false] 4)=wc at i h3 l o q
 have G:=m.wide i (T:=λ j=>E j\/j=W.1.size\/j=W.1.size+1\/j=W.1.size+2) (λ j a=>by
  rcases a with a|a|a|a
  ·exact O a
  ·exact al Z
  ·exact al Z
  exact al Z)
 have k2:Kept E W wc:=m.kept i
 have ve:Hid (((W.alloc (.cells #[a8 (str rec)] 9)).alloc (.cells #[V U 0] 3)).alloc (.cells #[a6 false] 4)=wc):=by
  show _=_;rw[fO,h0,h1]
 have M:=m.there;have d0:=(B.below i B.lt).c0;have h4:(((W.alloc (.cells #[a8 (str rec)] 9)).alloc (.cells #[V U 0] 3)).alloc (.cells #[a6 false] 4)).cell? H=some (aq P):=by rw[ve.out];exact d0
 have DU:=zH k2;by_cases Q:(Y rec:Int)<=room L
 ·have x:=zH (FR (N:=228) (mH:= #[aq W,aq (some ⟨W.1.size+1,0,none⟩),aq (some ⟨W.1.size+2,0,none⟩)]) (F:=E)
   (R:=λ C u r n=>∃z,aO z (add L rec)/\Y z=504/\C=A.ax pg z/\u=k+3/\r=0/\ay n (W.1.size+1) #[V U (hole L:Nat)]/\ay n (W.1.size+2) #[a6 true])
   (Cr func228 (by kernel_rfl) (by kernel_rfl)) G Z J (λ j a=>O a) (λ h d cap w mr v=>by
    refine(Jx mr Z N (q.ae (v.block _ (al (O rfl)))) (o.ae (v.block _ (al (al (O rfl))))) (l.ae (v.block _ (al (al (al rfl))))) (al (O rfl)) (al (al (O rfl))) (al (al (al rfl))) Z Z Z hs Q).mono ?_;rintro e n ⟨he,⟨z,z1,S,q1⟩,q2,q3,q4⟩;exact⟨0,_,k+3,true,he,q1,q4.mono (λ j a=>⟨O a,by have:=M j a;omega,by have:=M j a;omega⟩),z,z1,S,rfl,rfl,rfl,q2,q3⟩))
  have X:=zH Q;clear m B R I q t o l G k2 K F i J N s y h3 fO h0 h1 M ht Q
  go_enter func175,ntmps175
  go_wp2_with fail
  rw[ve.out];refine x.out.mono ?_;rintro e b ⟨r,C,u,w1,rfl,⟨z,z1,S,rfl,rfl,rfl,y2,y3⟩,c,f,g⟩;have d2:b.cell? ⟨W.1.size+1,0,none⟩=some (V U (hole L:Nat)):=(y2.ae (f.block _ (al (al (O rfl))))).cell 0 _ rfl;have d3:b.cell? ⟨W.1.size+2,0,none⟩=some (a6 true):=(y3.ae (f.block _ (al (al (al rfl))))).cell 0 _ rfl;have K3:=bg (c.less (T:=E) (λ j a=>O a)) (DU.out.trans g);have HZ:=bg z1 S;clear x y2 y3 c f g z1 S;go_wp2
  go_quiet (fail)
  go_wp2
  go_ret3
  obtain⟨c,f⟩:=K3.out;have p:Below b b (b.drewN nq):=UK.dN (aU _ _) nq;exact O ⟨X.out,rfl,z,HZ.out.1,HZ.out.2,c.next p,f.trans (c.kept p)⟩
 have h2:room L<Y rec:=Z
 have x:=zH (FR (N:=228) (mH:= #[aq W,aq (some ⟨W.1.size+1,0,none⟩),aq (some ⟨W.1.size+2,0,none⟩)]) (F:=λ j=>E j\/j=W.1.size\/j=W.1.size+1\/j=W.1.size+2)
  (R:=λ C u r _=>C=A/\u=k+2/\r=0)
  (Cr func228 (by kernel_rfl) (by kernel_rfl)) G Z J (λ j a=>a) (λ h d cap w mr v=>by
   refine(Cl mr N (q.ae (v.block _ (al (O rfl)))) h2).mono ?_;rintro e n ⟨he,q1,q4⟩;exact⟨0,_,k+2,false,he,q1,q4,rfl,rfl,rfl⟩))
 have HX:=bg o l;have X:=zH h2;clear m B R I q t o l G k2 K F i J N s y h3 fO h0 h1 M ht Q h2
 go_enter func175,ntmps175
 go_wp2_with fail
 rw[ve.out];refine x.out.mono ?_;rintro e b ⟨r,C,u,w1,rfl,⟨rfl,rfl,rfl⟩,c,f,g⟩;have d2:b.cell? ⟨W.1.size+1,0,none⟩=some (V U 0):=(HX.out.1.ae (g.block _ (al (al (O rfl))))).cell 0 _ rfl;have d3:b.cell? ⟨W.1.size+2,0,none⟩=some (a6 false):=(HX.out.2.ae (g.block _ (al (al (al rfl))))).cell 0 _ rfl;have K3:=bg ((c.less (T:=E) (λ j a=>O a)).up (show k+2<=k+3 from Z)) (DU.out.trans (g.mono (λ j a=>O a)));clear x HX c f g;go_wp2
 go_quiet (fail)
 go_wp2
 go_ret3
 obtain⟨c,f⟩:=K3.out;have p:Below b b (b.drewN nq):=UK.dN (aU _ _) nq;exact al ⟨X.out,rfl,c.next p,f.trans (c.kept p)⟩
end
theorem PF.lay(a:PF E W P D (A.keep pg) k h d cap pg true)(f:Only d W W')(c:o+Y s<=504)(e:Y y=cap)(j:504<=cap)(b:y.take 504=A.c pg)(i:aF W' d (UK.wr y o s)) :
  PF E W' P D (A.ax pg (UK.wr (A.c pg) o s)) k h d cap pg true/\Kept E W W':=by
 have g:(UK.wr y o s).length=cap:=(UK.jF _ _ _ Z).trans e;have:=a.write f i g;rw[show(UK.wr y o s).take 504=UK.wr (A.c pg) o s by rw[<-b];exact ZG y o 504 s c Z]at this;exact this
def Kh(next:Nat)(part:List UInt8):List UInt8:=UK.wr (UK.wr (UK.bM 504) 0 (aJ (w32 next))) 4 part
theorem wj(next:Nat)(part:List UInt8)(h:Y part<=500):dO (Kh next part) 0=w32 next/\((Kh next part).drop 4).take (Y part)=part:=by
 have a:(UK.wr (UK.bM 504) 0 (aJ (w32 next))).length=504:=(UK.jF _ _ _ (by show 0+4<=_;rw[UK.kr];omega)).trans (UK.kr 504);unfold Kh;refine⟨?_,UK.RV _ _ _ Z⟩;rw[ZK _ _ _ Z 0 (O Z)];exact Uj _ _ _ (by rw[UK.kr];omega)
def MX(len e n:Nat):Prop:=(e=len/\n=0)\/∃m,e=500*m/\len<=500*(m+n)/\500*(m+n)<len+500/\1<=n
theorem MX.step{len:Nat}(h:MX len e n)(d:0<e):MX len ((e-1)/500*500) (n+1)/\(e-1)/500*500<e/\e-(e-1)/500*500<=500/\(e=len\/e=(e-1)/500*500+500)/\500*n<len/\e<=len:=by
 have hd:=Nat.div_add_mod (e-1) 500;have c:=kz (e-1) (show 0<500 from Z);rcases h with⟨rfl,rfl⟩|⟨m,rfl,f,b,g⟩
 ·exact⟨al ⟨(e-1)/500,Z,Z,Z,Z⟩,Z,Z,O rfl,Z,Z⟩
 have a:(500*m-1)/500=m-1:=Z
 rw[a];exact⟨al ⟨m-1,Z,Z,Z,Z⟩,Z,Z,al Z,Z,Z⟩
theorem oe{fr:Nat}(h:AP.Grown A B ch)(g:B.Good)(hf:¬B.Full)(m:qd B.c (s.drop e) ch)(o:fr<e)(n:e<=Y s)(q:e-fr<=500)(f:e=Y s\/e=fr+500) :
  qd (B.take.ax B.next (Kh (ch.headD 0) ((s.take e).drop fr))).c (s.drop fr) (B.next::ch):=by
 have i:=(g.next hf).1;have l:((s.take e).drop fr).length=e-fr:=by rw[zd,zt];omega
 obtain⟨k,b⟩:=wj (ch.headD 0) ((s.take e).drop fr) Z;rw[l]at b;have c:(s.drop fr).length=Y s-fr:=zd;refine⟨λ a=>?_,?_,?_,?_⟩
 ·have:=congrArg List.length a;rw[c,List.length_nil]at this;omega
 ·rw[AP.aL,be rfl];exact k
 ·rw[AP.aL,be rfl,c,show min (Y s-fr) 500=e-fr from Z,b];rcases f with rfl|rfl
  ·rw[dY,fQ Z]
  rw[List.drop_take,show fr+500-fr=500 from Z]
 have a:(s.drop fr).drop 500=s.drop e:=by
  rw[lq];rcases f with rfl|rfl
  ·rw[List.drop_length,List.drop_eq_nil_of_le Z]
  rfl
 rw[a];refine m.same (λ p j=>?_);have d:B.next≠p:=λ a=>i ((h.has _).2 (al (a▸j)));rw[AP.aL,aE d];show bX B.c B.next (UK.bM 504) p=_;unfold bX;rw[aE d]
def tj(E:Nat->Prop)(W W':World)(P D:Nat)(A:AP)(k:Nat)(s:List UInt8)(e:Ending):Prop:=
 (∃ch B,e=aw (a9 #[V U (ch.headD 0:Nat),V U 0])/\AP.Grown A B ch/\qd B.c s ch/\500*Y ch<Y s+500/\PZ E W' P D B (k+(Y s+10))/\Kept E W W') \/
 (∃B,e=aw (a9 #[V U 0,V U 6])/\A.Reach B/\500*A.aQ<Y s/\PZ E W' P D B (k+(Y s+10))/\Kept E W W')
theorem nm(h0:PZ E W P D A k)(Q:A.Good)(hk:k+(Y s+10)<900000000)(hb:ay W H (rG P root))(hH:E H)(hs:Y s<=400000) :
  Calls prog 227 #[aq H,a8 (str s)] W λ g w'=>tj E W w' P D A k s g:=by
 have HST:=zH (show ∃(ch:List Nat) (B:AP) (e:Nat),e=Y s/\AP.Grown A B ch/\qd B.c (s.drop e) ch/\MX (Y s) e (Y ch)/\PZ E W P D B (k+4*Y ch)/\Kept E W W/\ch=[]from⟨[],A,Y s,rfl,AP.Grown.nil A,List.drop_length,O ⟨rfl,rfl⟩,h0,h0.kept (aU _ _),rfl⟩);have HB:=zH hb;clear h0 hb
 go_enter func227,ntmps227
 go_wp2_with fail
 go_loopw [6,7] (λ nx M wr=>∃(ch:List Nat) (B:AP) (e:Nat),nx=V U (ch.headD 0:Nat)/\M=V U e/\AP.Grown A B ch/\qd B.c (s.drop e) ch/\MX (Y s) e (Y ch)/\PZ E wr P D B (k+4*Y ch)/\Kept E W wr) (λ _ M _=>(intOf M).toNat)
 case atStart=>
  obtain⟨ch,B,e,rfl,a,c,j,f,b,rfl⟩:=HST.out;exact⟨[],B,Y s,rfl,rfl,a,c,j,f,b⟩
 clear HST;obtain⟨ch,B,e,rfl,rfl,a,c,j,f,b⟩:=hrel;have K:=λ hf fr h1 h2 h3 h4=>oe (fr:=fr) a (a.reach.good Q) hf c h1 h2 h3 h4;generalize h5:ch.headD 0=hd at K ⊢;have Ki:=zH h5;clear h5;have c0:=(HB.out.ae (b.block _ hH)).c0;by_cases ht:0<e
 ·obtain⟨t,r2,r3,r4,r5,r6⟩:=j.step ht;have e1:((e:Int)-1)/500*500=(((e-1)/500*500:Nat):Int):=Z
  have e2:((e:Int)-1).tdiv 500*500=(((e-1)/500*500:Nat):Int):=by
   rw[nP Z];exact e1
  generalize FT:(e-1)/500*500=from_ at t r2 r3 r4 e1 e2;by_cases hf:B.Full
  ·have HT:=zH (Uk f Z hf);have l:=bp a b r5 (((a.reach.good Q).full).1 hf);clear a c j f b t FT hf
   go_wp2_with fail
   refine HT.out.mono ?_;rintro g w1 ⟨rfl,r,n⟩;have HP:=bg r n;clear HT r n;go_wp2;go_ret2;obtain⟨a,b,r5,hz⟩:=l.out;have:=a.aQ;exact al ⟨B,rfl,a.reach,Z,HP.out.1.up Z,b.trans HP.out.2⟩
  have HT:=zH (JV f Z hf);have h7:=a.reach.good Q;have l:=bp (a.cons h7 hf (Kh hd ((s.take e).drop from_))) (K hf from_ r2 r6 r3 r4) t b;have h6:((s.take e).drop from_).length=e-from_:=by rw[zd,zt];omega
  have G:=zH h6;have i1:(from_:Int)<=e:=Z
  have i2:(e:Int)<=Y s:=Z
  have i3:(4:Int)<=504:=Z
  clear a c j f b h7 h6 hf t FT K
  go_wp2_with fail
  refine HT.out.mono ?_;rintro g w1 ⟨h,d,cap,rfl,r,n⟩;have HE:=zH (MR r Z);have K1:=zH n;clear HT r n
  go_wp2_with fail
  refine HE.out.mono ?_;rintro g w2 ⟨rfl,m,q,y,y1,p,o,I,y5⟩;have HS:=zH (MQ y1 0 504 cap Z Z Z hd);have H2:=br m (K1.out.trans q) p I o;clear HE K1 m q y1 p o I y5
  go_wp2_with fail
  refine HS.out.mono ?_;rintro g w3 ⟨rfl,b3,o3⟩;obtain⟨m,q,p,I,o⟩:=H2.out;obtain⟨p3,k3⟩:=m.word o3 (o:=0) Z p I o b3;have T:Below w3 w3 w3.drew:=(aU _ _).drew;have HE2:=zH (MR (p3.next T) Z);have K3:=zH ((q.trans k3).trans (p3.kept T));have i4:(4:Int)<=cap:=Z
  have i5:¬(cap=4):=Z
  clear HS H2 m q p o b3 o3 p3 k3 T
  go_wp2_with fail
  go_region_with (first
   | (go_at_call 64;refine HE2.out.mono ?_;rintro g R ⟨rfl,C,F,z,X,t2,t3,t4,t5⟩;replace C:=zH C;replace F:=zH F;replace t3:=zH t3;have h8:=UK.Fh (P:=prog) (dT:=94) (sT:=9) (ty:=3) underlying94 (λ w=>by kernel_rfl) X 4 500 (cap-4) ((s.take e).drop from_) (by rw[G.out];omega) (by rw[G.out];omega)))
  all_goals
   have S:=X.setCells ((s.take e).drop from_) 4 (by rw[G.out];omega);have Iu:=(Only.refl d R).setCells (UK.cellsOf ((s.take e).drop from_)) (o:=4);obtain⟨i,N⟩:=C.out.lay (o:=4) (s:=(s.take e).drop from_) Iu (by rw[G.out];omega) t2 t4 t3.out S;rw[AP.lD,AP.aL,be rfl,show B.take.c B.next=UK.bM 504 by show bX B.c B.next (UK.bM 504) B.next=_;unfold bX;rw[be rfl]]at i;replace i:PF E (R.setCells d 4 (UK.cellsOf ((s.take e).drop from_))) P D (B.take.ax B.next (Kh hd ((s.take e).drop from_))) (k+4*Y ch+2+1+1) h d cap B.next true:=i;generalize R.setCells d 4 (UK.cellsOf ((s.take e).drop from_))=w7 at i N h8 S Iu ⊢;have HG:=zH (JW i);have HU:=zH (Um i);have K7:=zH ((K3.out.trans F.out).trans N);clear HE2 K3 C F X t2 t3 t5 h8 S Iu i N
   go_wp2_with fail
   refine HG.out.mono ?_;rintro g w8 ⟨rfl,rfl⟩
   go_wp2_with fail
   refine HU.out.mono ?_;rintro g w9 ⟨rfl,p9,k9⟩;obtain⟨u,J,L,v⟩:=l.out;have H9:=br u J L (p9.up (show k+4*Y ch+2+1+1<=k+4*(Y ch+1) from Z)) (v.trans (K7.out.trans k9));clear HG HU K7 p9 k9 u J L v l;go_wp2;go_roundw
   case rel=>
    obtain⟨u,J,L,v,g5⟩:=H9.out;exact⟨B.next::ch,_,from_,rfl,rfl,u,J,L,v,g5⟩
   case measure=>simp[intOf];omega
 obtain rfl:e=0:=Z
 have x:500*Y ch<Y s+500:=by
  rcases j with⟨hc,h9⟩|⟨ha,hc,h9,hg,he⟩
  ·omega
  have:ha=0:=Z
  subst this;omega
 rw[List.drop_zero]at c;have l:=br a c x f b;clear a c j f b K x;go_wp2;go_ret2;obtain⟨a,c,x,f,b⟩:=l.out;exact O ⟨ch,B,by rw[Ki.out]<;>rfl,a,c,x,f.up Z,b⟩
def dx(s:List UInt8)(ch:List Nat):List UInt8:=if Y s<=300 then 0::s else 1::(aJ (w32 (Y s))++aJ (w32 (ch.headD 0)))
def MZ(c:Nat->List UInt8)(s:List UInt8)(ch:List Nat):Prop:=if Y s<=300 then ch=[] else qd c s ch
theorem Qz(s:List UInt8)(ch:List Nat):dx s ch≠[]:=by unfold dx;split<;>exact List.cons_ne_nil _ _
theorem ZL(s:List UInt8)(ch:List Nat):(dx s ch).length<=301:=by
 unfold dx
 split
 ·rw[dF];omega
 show 9<=301;decide
theorem AD(w:World):(Instr.makeSlice 94 (V U 9) (V U 9)).run prog w= .ok (ad w 9 9) (w.alloc (.cells (UK.qE (UK.bM 9)) 5)):=by kernel_rfl
theorem Un(w:World):aF (w.alloc (.cells (UK.qE (UK.bM 9)) 5)) w (UK.bM 9):=by
 refine⟨5,(0,0),?_,λ i _ a=>absurd a.2 (jI _)⟩;show(w.heap.push _)[w.1.size]?=_;rw[qO]
theorem qf(w:World):aF (w.alloc (.cells #[V .u8 0] 5)) w [0]:=by
 refine⟨5,(0,0),?_,λ i _ a=>absurd a.2 (jI _)⟩;show(w.heap.push _)[w.1.size]?=_;rw[qO];rfl
def Uo(E:Nat->Prop)(W W':World)(P D:Nat)(A:AP)(k:Nat)(s:List UInt8)(e:Ending):Prop:=
 (∃ch B,e=aw (a9 #[a8 (str (dx s ch)),V U 0])/\AP.Grown A B ch/\MZ B.c s ch/\500*Y ch<Y s+500/\PZ E W' P D B (k+(Y s+10))/\Kept E W W') \/
 (∃B,e=aw (a9 #[a8 (str []),V U 6])/\A.Reach B/\500*A.aQ<Y s/\300<Y s/\PZ E W' P D B (k+(Y s+10))/\Kept E W W')
theorem IP(h:PZ E W P D A k)(f:Y s<=300) :
  Calls prog 174 #[aq H,a8 (str s)] W λ e g=>Uo E W g P D A k s e:=by
 have a:Below W W (W.alloc (.cells #[V .u8 0] 5)):=(aU _ _).alloc (aH _) _;have c:=UK.vB (P:=prog) (src:=94) (dst:=9) underlying94 underlying5 underlying9 (qf W) 0 1 1 (by decide);replace c:(convert 94 9 (ad W 1 1)).run prog (W.alloc (.cells #[V .u8 0] 5))= .ok (a8 (str [0])) (W.alloc (.cells #[V .u8 0] 5)):=c;have b:=bg (h.next a) (h.kept a);have i:(Y s:Int)<=300:=Z
 have d:=zH f;clear h a f
 go_enter func174,ntmps174
 go_wp2;go_ret2
 refine O ⟨[],A,?_,AP.Grown.nil A,?_,by simp,b.out.1.up Z,b.out.2⟩
 ·unfold dx;rw[be d.out]<;>rfl
 unfold MZ;rw[be d.out]
theorem sZ(h:PZ E W P D A k)(N:A.Good)(U:k+(Y s+10)<900000000)(J:ay W H (rG P root))(hH:E H)(L:300<Y s)(X:Y s<=400000) :
  Calls prog 174 #[aq H,a8 (str s)] W λ e S=>Uo E W S P D A k s e:=by
 have p:=zH (nm h N U J hH X);have i1:¬(Y s:Int)<=300:=Z
 have K:=zH L;clear h J L
 go_enter func174,ntmps174
 go_wp2_with fail
 refine p.out.mono ?_;rintro e f (⟨ch,B,rfl,c,b,i,a,d⟩|⟨B,rfl,c,b,a,d⟩)
 ·have m:Below f f (f.alloc (.cells (UK.qE (UK.bM 9)) 5)):=(aU _ _).alloc (aH _) _;have Q:=AD f;have j:=Un f;have r:=j.set 0 1;have I:=j.cell (i:=0) (by decide);have z:=j.free (i:=0) (by decide);generalize T:f.alloc (.cells (UK.qE (UK.bM 9)) 5)=M at m Q j r I z;have x:=(Only.refl f M).set 0 (V .u8 ((1:UInt8).toNat:Int));have g:=m.trans (x.below m.size (aH _));have F:=zH (MQ r 1 8 8 Z (by rw[aV,UK.kr];omega) Z (Y s));generalize G:ch.headD 0=hd;have R:=zH G;have l:=bw c b i a d g;clear p c b i a d j r x m g T G
  go_wp2_with fail
  refine F.out.mono ?_;rintro e w2 ⟨rfl,C,u⟩;have HS2:=zH (MQ C 5 4 4 Z (by rw[UK.jF _ _ _ (by show 1+4<=_;rw[aV,UK.kr];omega),aV,UK.kr];omega) Z hd);have q:=zH u;clear F C u I z
  go_wp2_with fail
  refine HS2.out.mono ?_;rintro e n ⟨rfl,o,v⟩
  have e9:UK.wr (UK.wr ((UK.bM 9).set 0 1) 1 (aJ (w32 (Y s)))) 5 (aJ (w32 hd))=1::(aJ (w32 (Y s))++aJ (w32 hd)):=by
   have:=UK.BV ((UK.bM 9).set 0 1) 1 (aJ (w32 (Y s))) (aJ (w32 hd)) (by rw[aV,UK.kr];omega);rw[show 1+(aJ (w32 (Y s))).length=5 from rfl]at this;rw[this];rfl
  rw[e9]at o;have y:=UK.vB (P:=prog) (src:=94) (dst:=9) underlying94 underlying5 underlying9 o 0 9 9 (by show 0+9<=9;decide);replace y:(convert 94 9 (ad f 9 9)).run prog n= .ok (a8 (str (1::(aJ (w32 (Y s))++aJ (w32 hd))))) n:=y
  have HX:=zH (show ∃B,A.Grown B ch/\qd B.c s ch/\500*Y ch<Y s+500/\PZ E n P D B (k+(Y s+10))/\Kept E W n from by
   obtain⟨c,b,i,a,d,g⟩:=l.out;have w:=(g.trans (q.out.below g.size (aH _))).trans (v.below (aT g.size q.out.size) (aH _));exact⟨B,c,b,i,a.next w,d.trans (a.kept w)⟩)
  clear HS2 q l o v;go_wp2;go_ret2;obtain⟨B,c,b,i,a,d⟩:=HX.out;have t:¬Y s<=300:=by have:=K.out;omega
  refine O ⟨ch,B,?_,c,?_,i,a,d⟩
  ·unfold dx;rw[aE t,R.out]<;>rfl
  unfold MZ;rw[aE t];exact b
 have l:=bp c b a d;clear p c b a d;go_wp2;go_ret2;obtain⟨c,b,a,d⟩:=l.out;exact al ⟨B,rfl,c,b,K.out,a,d⟩
theorem EJ(h:PZ E W P D A k)(a:A.Good)(d:k+(Y s+10)<900000000)(b:ay W H (rG P root))(g:E H)(f:Y s<=400000) :
  Calls prog 174 #[aq H,a8 (str s)] W λ e c=>Uo E W c P D A k s e:=by
 by_cases i:Y s<=300
 ·exact IP h i
 exact sZ h a d b g Z f
def AP.fJ(A:AP)(Fo:Nat->Prop):Pg:=⟨λ p=>A.Has p/\¬Fo p,A.c⟩
def pQ(Fo:Nat->Prop)(Co:Nat->List UInt8)(A:AP):Prop:=∀p,Fo p->A.Has p/\A.c p=Co p
theorem pQ.ax(h:pQ Fo Co A)(b:¬Fo q)(z:List UInt8):pQ Fo Co (A.ax q z):=λ p a=>
 ⟨AP.aC.2 (h p a).1,by rw[AP.aL,aE (show ¬q=p from λ e=>b (e▸a))];exact(h p a).2⟩
theorem pQ.grown(h:pQ Fo Co A)(g:AP.Grown A B ch):pQ Fo Co B:=λ p a=>⟨(g.has p).2 (O (h p a).1),(g.same p (h p a).1).trans (h p a).2⟩
theorem pQ.take(h:pQ Fo Co A)(b:A.Good)(hf:¬A.Full):pQ Fo Co A.take:=λ p a=>
 ⟨((b.take hf).2.1 p).2 (O (h p a).1),by
  show bX A.c A.next (UK.bM 504) p=_;unfold bX;rw[aE (show ¬A.next=p from λ e=>(b.next hf).1 (e▸(h p a).1))];exact(h p a).2⟩
theorem pQ.next(h:pQ Fo Co A)(b:A.Good)(hf:¬A.Full):¬Fo A.next:=λ a=>(b.next hf).1 (h _ a).1
theorem pQ.give(h:pQ Fo Co A)(c:A.Good)(d:A.Has q)(b:¬Fo q):pQ Fo Co (A.give q):=λ p a=>
 ⟨((c.give d).2.1 p).2 ⟨(h p a).1,λ e=>b (e▸a)⟩,by rw[AP.kH];exact(h p a).2⟩
theorem pQ.like(h:pQ Fo Co A)(c:B.c=A.c)(b:∀p,Fo p->B.Has p):pQ Fo Co B:=λ p a=>⟨b p a,by rw[c];exact(h p a).2⟩
theorem HI.jR(h:HI (A.fJ Fo) root pg rp L X):A.Has root:=h.iU.1
theorem HI.uC(h:HI (A.fJ Fo) root pg rp L X):¬Fo root:=h.iU.2
theorem HI.rF(h:HI (A.fJ Fo) root pg rp L X)(a:p∈rp):A.Has p/\p≠root:=⟨(h.eH a).1.1,(h.eH a).2⟩
theorem HI.Kj(h:HI (A.fJ Fo) root pg rp L X)(a:p∈rp):¬Fo p:=(h.eH a).1.2
theorem HI.Ct(h:HI (A.fJ Fo) root pg rp L X)(b:t∈X)(a:p∈t.ch):A.Has p/\p≠root/\p∉rp:=⟨(h.iy b a).1.1,(h.iy b a).2⟩
theorem HI.Ur(h:HI (A.fJ Fo) root pg rp L X)(b:t∈X)(a:p∈t.ch):¬Fo p:=(h.iy b a).1.2
structure HZ(Fo:Nat->Prop)(Co:Nat->List UInt8)(E:Nat->Prop)(W:World)(P D H k:Nat)(A:AP)(root pg:Nat)(rp:List Nat)(L:Nat->List (List UInt8))(X:List HT):Prop where
 pz:PZ E W P D A k
 good:A.Good
 box:ay W H (rG P root)
 mem:E H
 hi:HI (A.fJ Fo) root pg rp L X
 few:Y X<=1000000
 far:pQ Fo Co A
theorem ZN:room []=496:=rfl
theorem ZO(s:List UInt8):add [] s=[s]:=rfl
theorem HI.FW(h:HI (A.fJ Fo) root pg rp L X)(g:A.Good):pg<=60000:=by
 rcases h.cur with a|a
 ·omega
 have b:A.Has pg:=(h.rF a).1;have:=b.2.1;have:=g.aA;have:=g.few;omega
theorem HI.vR{A:Pg}(_:HI A root pg rp L X)(b:Y rec<=301)(a:room (L pg)<Y rec):L pg≠[]:=λ e=>by
 rw[e,ZN]at a;omega
theorem Dg(l:pQ Fo Co A)(h:HI (A.fJ Fo) root pg rp L X)(d:pg∈rp)(c:AP.Grown A B ch)(q:MZ B.c s ch)(u:Y s<=400000)(o:aO z (add (L pg) (dx s ch))) :
  HI (((B.ax pg z).ax root (lG ((B.ax pg z).c root) pg (Y X+1))).fJ Fo) root pg rp (λ p=>if p=pg then add (L pg) (dx s ch) else L p) (⟨pg,hole (L pg),s,ch⟩::X):=by
 obtain⟨f,j⟩:=h.rF d;have k:A.Has root:=h.jR;replace f:A.Has pg:=f;have r:(B.ax pg z).c root=A.c root:=by rw[AP.aL,aE j];exact c.same root k
 refine h.put (t:=⟨pg,hole (L pg),s,ch⟩) (y:=z) rfl d rfl u ?_ c.fA (λ p d g=>c.new p d g.1) (λ p=>?_) o ?_ ?_ (λ p g m n=>?_)
 ·refine qX.same (c:=B.c) q (λ p t=>?_);have i:=c.new p t;show((B.ax pg z).ax root _).c p=_;rw[AP.aL,aE (show ¬root=p from λ e=>i (e▸k)),AP.aL,aE (show ¬pg=p from λ e=>i (e▸f))]
 ·show((B.ax pg z).ax root _).Has p/\¬Fo p↔(A.Has p/\¬Fo p)\/p∈ch;rw[AP.aC,AP.aC,c.has p]
  constructor
  ·rintro⟨a|a,b⟩
   ·exact O ⟨a,b⟩
   exact al a
  rintro(⟨a,b⟩|a)
  ·exact⟨O a,b⟩
  exact⟨al a,λ hf=>c.new p a (l p hf).1⟩
 ·show((B.ax pg z).ax root _).c pg=z;rw[AP.aL,aE (dJ j),AP.aL,be rfl]
 ·show((B.ax pg z).ax root _).c root=_;rw[AP.aL,be rfl,r];rfl
 show((B.ax pg z).ax root _).c p=A.c p;rw[AP.aL,aE (dJ n),AP.aL,aE (dJ m)];exact c.same p g.1
theorem Ft(n:pQ Fo Co A)(h:HI (A.fJ Fo) root pg rp L X)(d:AP.Grown A B ch)(u:A.Good)(hf:¬B.Full)(F:MZ B.c s ch)(H:Y s<=400000)(x:pg∈rp->room (L pg)<(dx s ch).length){z1:List UInt8}(G:aO z1 [])(E:aO z [dx s ch]) :
  HI (((B.take.ax B.next z).ax root (lG ((B.take.ax B.next z).c root) B.next (Y X+1))).fJ Fo) root B.next (rp++[B.next]) (λ p=>if p=B.next then [dx s ch] else L p) (⟨B.next,0,s,ch⟩::X):=by
 have l:A.Has root:=h.jR;have o:=d.reach.good u;obtain⟨_,y,_⟩:=o.take hf;have m:=(o.next hf).1;have g:¬A.Has B.next:=λ f=>m ((d.has _).2 (O f));have i:B.next≠root:=λ e=>g (e▸l);have r:∀p,p∈ch->p≠B.next:=λ p c e=>m ((d.has _).2 (al (e▸c)))
 have j:∀p,p≠B.next->(B.take.ax B.next z).c p=B.c p:=λ p c=>by
  rw[AP.aL,aE (dJ c)];show bX B.c B.next (UK.bM 504) p=_;unfold bX;rw[aE (dJ c)]
 have w:=HI.fresh (B:=⟨λ p=>(A.Has p/\¬Fo p)\/p=B.next,λ p=>if p=B.next then z1 else if p=root then lG (A.c root) B.next (Y X) else A.c p⟩) h (q:=B.next) (y:=z1) (λ f=>g f.1) (λ p=>Iff.rfl) G (λ c=>h.vR (ZL s ch) (x c)) (be rfl) (by show(if root=B.next then _ else _)=_;rw[aE (dJ i),be rfl];rfl) (λ p c D=>by
  show(if p=B.next then _ else _)=_;rw[aE (show ¬p=B.next from λ e=>g (e▸c.1)),aE D];rfl)
 have C:=HI.put (B:=(((B.take.ax B.next z).ax root (lG ((B.take.ax B.next z).c root) B.next (Y X+1))).fJ Fo)) w (t:=⟨B.next,0,s,ch⟩) (y:=z) rfl (lL _ (bu.2 rfl)) (by rw[be rfl];rfl) H (by
   refine qX.same (c:=B.c) F (λ p q=>?_);have v:=d.new p q;show((B.take.ax B.next z).ax root _).c p=_;rw[AP.aL,aE (show ¬root=p from λ e=>v (e▸l)),j p (r p q)])
  d.fA (λ p c f=>f.elim (λ f=>d.new p c f.1) (r p c)) (λ p=>by
   show((B.take.ax B.next z).ax root _).Has p/\¬Fo p↔_;rw[AP.aC,AP.aC,y,d.has];show _↔((A.Has p/\¬Fo p)\/p=B.next)\/p∈ch
   constructor
   ·rintro⟨(a|a)|a,b⟩
    ·exact O (O ⟨a,b⟩)
    ·exact al a
    exact O (al a)
   ·rintro((⟨a,b⟩|a)|a)
    ·exact⟨O (O a),b⟩
    ·exact⟨al a,λ hf=>g (a▸(n p hf).1)⟩
    exact⟨O (al a),λ hf=>d.new p a (n p hf).1⟩) (by rw[be rfl,ZO];exact E) (by
   show((B.take.ax B.next z).ax root _).c B.next=z;rw[AP.aL,aE (dJ i),AP.aL,be rfl]) (by
   show((B.take.ax B.next z).ax root _).c root=lG (if root=B.next then _ else _) _ _;rw[AP.aL,be rfl,j root (dJ i),d.same root l,aE (dJ i),be rfl];exact(wC (A.c root) B.next (Y X) (Y X+1) h.ny).symm) (λ p c k t=>by
   show((B.take.ax B.next z).ax root _).c p=if p=B.next then _ else if p=root then _ else _
   rw[AP.aL,aE (dJ t),j p k,aE k,aE t];exact d.same p (c.elim (λ h=>h.1) (λ e=>absurd e k)))
 refine C.Nf (λ p _=>?_);by_cases e:p=B.next
 ·rw[be e,be e,be rfl,ZO];rfl
 rw[aE e,aE e,aE e]
def bP(t:HT):Nat:=t.pg*256+t.i
theorem HI.words(h:HI (A.fJ Fo) root pg rp L X)(g:A.Good)(c:Y X<=1000000):(dO (A.c root) 0).toNat=pg/\(dO (A.c root) 4).toNat=Y X:=by
 have a:dO (A.c root) 0=w32 pg:=h.Kb;have b:dO (A.c root) 4=w32 (Y X):=h.wn;have:=h.FW g;rw[a,b,Nc Z,Nc Z];exact⟨rfl,rfl⟩
theorem ZP(p i:Nat)(d:p<=60000)(c:i<256):bits .or a7 (IntKind.u64.wrap (IntKind.u64.wrap (p:Int)*256)) (IntKind.u64.wrap (i:Int))=((p*256+i:Nat):Int):=by
 have b:IntKind.u64.wrap (IntKind.u64.wrap (p:Int)*256)=((p*256:Nat):Int):=by rw[mX,mX];omega
 have a:IntKind.u64.wrap (i:Int)=(i:Int):=by rw[mX];omega
 rw[b,a,u64_or_nat _ _ Z Z];have h:=Nat.two_pow_add_eq_or_of_lt (b:=i) (i:=8) c p;rw[show p*256=2^8*p from Z,<-h]
def Fi(Fo:Nat->Prop)(Co:Nat->List UInt8)(E:Nat->Prop)(W W':World)(P D H k:Nat)(A:AP)(root:Nat)(s:List UInt8)(X:List HT)(e:Ending):Prop:=
 (∃t B b rp' a,e=aw (a9 #[V a7 (bP t:Nat),V U 0])/\t.s=s/\HZ Fo Co E W' P D H (k+(Y s+30)) B root b rp' a (t::X)/\A.Reach B/\Kept E W W') \/
 (∃B,e=aw (a9 #[V a7 0,V U 6])/\A.Reach B/\500*A.aQ<Y s+500/\PZ E W' P D B (k+(Y s+30))/\Kept E W W')
theorem IS(b:PF E w P D (B.keep q) k h d cap q true) :
  Calls prog 176 #[ad d 504 cap] w λ e a=>e=aw (a9 #[])/\(∃z,aO z []/\PF E a P D (B.ax q z) k h d cap q true)/\Kept E w a:=by
 obtain⟨y,f,i,n,m,r⟩:=b.bytes;refine(SL.AV d y cap w f Z).mono ?_;rintro e a ⟨l,⟨z,z1,j,c⟩,o⟩;obtain⟨p,g⟩:=b.write o z1 (c.trans i);exact⟨l,⟨z.take 504,j.cut,p⟩,g⟩
theorem Ed(c:PF E w P D (B.keep q) k h d cap q true)(s:aO (B.c q) l)(t:rec≠[])(g:(Y rec:Int)<=room l) :
  Calls prog 177 #[ad d 504 cap,a8 (str rec)] w λ e a=>e=aw (a9 #[V U (hole l:Nat),a6 true])/\(∃z,aO z (add l rec)/\PF E a P D (B.ax q z) k h d cap q true)/\Kept E w a:=by
 obtain⟨y,i,j,b,u,v⟩:=c.bytes;have b:y.take 504=B.c q:=b;refine(SL.wX d y l cap Z rec w i (s.oz Z b) t g).mono ?_;rintro e a ⟨r,⟨z,z1,m,f⟩,o⟩;obtain⟨p,n⟩:=c.write o z1 (f.trans j);exact⟨r,⟨z.take 504,m.cut,p⟩,n⟩
theorem Yi(c:HZ Fo Co E W P D H k A root pg rp L X)(hk:k+(Y s+30)<900000000)(hs:Y s<=400000)(hX:Y X<1000000) :
  Calls prog 104 #[aq H,a8 (str s)] W λ e w'=>Fi Fo Co E W w' P D H k A root s X e:=by
 have I1:=zH (EJ c.pz c.good Z c.box c.mem hs);have b:=zH c;have i1:(Y s:Int)<=400000:=Z
 clear c
 go_enter func104,ntmps104
 go_wp2_with fail
 refine I1.out.mono ?_;rintro e w1 (⟨ch,B,rfl,a,g,i,v,f⟩|⟨B,rfl,a,g,i,v,f⟩)
 ·have c:=b.out;have h0:A.Has root:=c.hi.jR;have h4:B.Has root:=(a.has _).2 (O h0);have n:=c.box.ae (f.block H c.mem);obtain⟨Ni,wd2⟩:=c.hi.words c.good Z;have V:=ZF v Z n h4;rw[a.same root h0,Ni,wd2]at V;have HST:=zH V;have ha:=ZL s ch
  have qg:pg=0\/(0<pg/\pg∈rp/\((dx s ch).length:Int)<=room (L pg))\/(0<pg/\pg∈rp/\room (L pg)<(dx s ch).length):=by
   rcases c.hi.cur with e|e
   ·exact O e
   have y:0<pg:=by
    have:A.Has pg:=(c.hi.rF e).1;exact this.1
   by_cases hf:((dx s ch).length:Int)<=room (L pg)
   ·exact al (O ⟨y,e,hf⟩)
   exact al (al ⟨y,e,Z⟩)
  have o:=bp a g i f;have HL:=zH ha;generalize K:dx s ch=rec at qg ha ⊢;have G:=zH K;clear I1 a g i v f V h4 h0 n Ni wd2 c K
  go_wp2_with fail
  refine HST.out.mono ?_;rintro e w2 ⟨rfl,j,m⟩;rcases qg with rfl|⟨y,q,h8⟩|⟨y,q,h2⟩
  rotate_left
  ·-- there is room
   have c:=b.out;obtain⟨a,g,i,f⟩:=o.out;have n:=(c.box.ae (f.block H c.mem)).ae (m.block H c.mem);have w:A.Has pg:=(c.hi.rF q).1;have J:aO (B.c pg) (L pg):=by rw[a.same pg w];exact(c.hi.recs pg q).1
   have r:=zH (ZJ j Z n ((a.has _).2 (O w)) J (G.out▸Qz s ch:rec≠[]));have l:=zH h8;have I:=zH q;have Q:=zH m;clear j m a g i f c n w J h8 q HST
   go_wp2_with fail
   refine r.out.mono ?_;rintro e w3 (⟨_,rfl,z,z1,z2,p3,M⟩|⟨T,_⟩)
   ·have c:=b.out;obtain⟨a,g,i,f⟩:=o.out;have h1:=(f.trans Q.out).trans M;have n:=c.box.ae (h1.block H c.mem);have u:=MU p3 Z n (AP.aC.2 ((a.has _).2 (O c.hi.jR))) pg (Y X+1);rw[show((Y X+1:Nat):Int)=(Y X:Int)+1 from Z]at u;have C:=zH u;have R:=bm z1 z2 h1;clear r Q p3 M z1 z2 c a g i f h1 n u
    go_wp2_with fail
    refine C.out.mono ?_;rintro e w4 ⟨rfl,t,p⟩;have F:=bg t p;clear C t p;go_wp2;go_ret2;obtain⟨a,g,i,f⟩:=o.out;refine O ⟨⟨pg,hole (L pg),s,ch⟩,_,pg,rp,_,?_,rfl,⟨F.out.1.up Z,?_,?_,?_,Dg b.out.far b.out.hi I.out a g hs (by rw[G.out];exact R.out.1),?_,((b.out.far.grown a).ax (b.out.hi.Kj I.out) _).ax b.out.hi.uC _⟩,?_,?_⟩
    ·have iH:=R.out.1.few;have hh:=SL.oZ (L pg);have Cs:=(b.out.hi.recs pg I.out).1.few;simp only[Ending.returned.injEq,Value.tuple.injEq];simp;exact ZP pg (hole (L pg)) (b.out.hi.FW b.out.good) Z
    ·exact((a.reach.ax ((a.has _).2 (O (b.out.hi.rF I.out).1)) z).ax (AP.aC.2 ((a.has _).2 (O b.out.hi.jR))) _).good b.out.good
    ·exact b.out.box.ae ((R.out.2.2.trans F.out.2).block H b.out.mem)
    ·exact b.out.mem
    ·show Y X+1<=_;omega
    ·exact(a.reach.ax ((a.has _).2 (O (b.out.hi.rF I.out).1)) z).ax (AP.aC.2 ((a.has _).2 (O b.out.hi.jR))) _
    exact R.out.2.2.trans F.out.2
   exact absurd T (by have:=l.out;omega)
  -- there is none
  focus
   have c:=b.out;obtain⟨a,g,i,f⟩:=o.out;have n:=(c.box.ae (f.block H c.mem)).ae (m.block H c.mem);have w:A.Has pg:=(c.hi.rF q).1;have J:aO (B.c pg) (L pg):=by rw[a.same pg w];exact(c.hi.recs pg q).1
   have r:=zH (ZJ j Z n ((a.has _).2 (O w)) J (G.out▸Qz s ch:rec≠[]));have AX:=zH (show pg∈rp->room (L pg)<(dx s ch).length from λ _=>by rw[G.out];exact h2);have l:=zH h2;have Q:=zH m;clear j m a g i f c n w J h2 q HST
   go_wp2_with fail
   refine r.out.mono ?_;rintro e w2 (⟨T,_⟩|⟨_,rfl,j,M⟩)
   ·exact absurd T (by have:=l.out;omega)
   have m:=Q.out.trans M;replace j:=j.up (show k+(Y s+10)+2+3<=k+(Y s+15) from Z);clear r l Q M
  rotate_left
  have AX:=zH (show 0∈rp->room (L 0)<(dx s ch).length from λ y=>by
   have:A.Has 0:=(b.out.hi.rF y).1;exact absurd this.1 Z)
  replace j:=j.up (show k+(Y s+10)+2<=k+(Y s+15) from Z);clear HST
  all_goals
   have c0:w2.cell? H=some (aq P):=(b.out.box.ae ((o.out.2.2.2.trans m).block H b.out.mem)).cell 0 _ rfl;by_cases hf:B.Full
   ·have HT:=zH (Uk j Z hf);have h7:=((o.out.1.reach.good b.out.good).full).1 hf;have H0:=bg h7 m;clear j m hf h7
    go_wp2_with fail
    refine HT.out.mono ?_;rintro e w4 ⟨rfl,t,p⟩;have F:=bg t p;clear HT t p;go_wp2;go_ret2;obtain⟨a,g,i,f⟩:=o.out;have:=a.aQ;have hg:=H0.out.1;exact al ⟨B,rfl,a.reach,Z,F.out.1.up Z,(f.trans H0.out.2).trans F.out.2⟩
   have HT:=zH (JV j Z hf);have l:=bg hf m;clear j m hf
   go_wp2_with fail
   refine HT.out.mono ?_;rintro e w4 ⟨h,d,cap,rfl,t,p⟩;have HE:=zH (zi t Z);have K4:=zH (l.out.2.trans p);clear HT t p
   go_wp2_with fail
   refine HE.out.mono ?_;rintro e w5 ⟨rfl,p5,k5⟩;have HI:=zH (IS p5);have K5:=zH (K4.out.trans k5);clear HE K4 p5 k5
   go_wp2_with fail
   refine HI.out.mono ?_;rintro e w6 ⟨rfl,⟨z1,h5,U⟩,k6⟩;have HG:=zH (JW U);have HE2:=zH (zi U Z);have K6:=zH (K5.out.trans k6);have HZ1:=zH h5;clear HI K5 U k6 h5
   go_wp2_with fail
   refine HG.out.mono ?_;rintro e w7 ⟨rfl,rfl⟩;clear HG
   go_wp2_with fail
   refine HE2.out.mono ?_;rintro e w8 ⟨rfl,p8,k8⟩;have r:=zH (Ed (l:=[]) p8 (by rw[AP.aL,be rfl];exact HZ1.out) (G.out▸Qz s ch:rec≠[]) (by rw[ZN];omega));have K8:=zH (K6.out.trans k8);clear HE2 K6 p8 k8
   go_wp2_with fail
   refine r.out.mono ?_;rintro e w9 ⟨rfl,⟨z,hz,p9⟩,k9⟩;rw[AP.lD]at p9;have HU:=zH (Um p9);have K9:=bg hz (K8.out.trans k9);clear r K8 p9 k9 hz
   go_wp2_with fail
   refine HU.out.mono ?_;rintro e yA ⟨rfl,ZQ,k10⟩;obtain⟨a,g,i,f⟩:=o.out;have x:=a.reach.good b.out.good;obtain⟨h9,N,h6⟩:=x.take l.out.1;have hn:=x.next l.out.1;have h3:=(f.trans K9.out.2).trans k10;have u:=MU ZQ Z (b.out.box.ae (h3.block H b.out.mem)) (AP.aC.2 ((N _).2 (O ((a.has _).2 (O b.out.hi.jR))))) B.next (Y X+1);rw[show((Y X+1:Nat):Int)=(Y X:Int)+1 from Z]at u;have C:=zH u;have ZR:=zH h3;have Qm:=hn.2.2;generalize S:B.next=nx at C Qm ⊢;have he:=zH S;clear HU ZQ k10 a g i f x h9 N h6 hn h3 u S
   go_wp2_with fail
   refine C.out.mono ?_;rintro e hi ⟨rfl,ZT,k11⟩;have Us:=bg ZT k11;clear C ZT k11;go_wp2;go_ret2;obtain⟨a,g,i,f⟩:=o.out;have S:=he.out;subst S;have x:=a.reach.good b.out.good;obtain⟨h9,N,h6⟩:=x.take l.out.1;have K:=((a.reach.take l.out.1).ax ((N _).2 (al rfl)) z).ax (AP.aC.2 ((N _).2 (O ((a.has _).2 (O b.out.hi.jR))))) (lG ((B.take.ax B.next z).c root) B.next (Y X+1));have hc:=K9.out.1;rw[<-G.out]at hc;refine O ⟨⟨B.next,0,s,ch⟩,_,B.next,_,_,?_,rfl,⟨Us.out.1.up Z,K.good b.out.good,b.out.box.ae ((ZR.out.trans Us.out.2).block H b.out.mem),b.out.mem,Ft b.out.far b.out.hi a b.out.good l.out.1 g hs AX.out HZ1.out hc,?_,(((b.out.far.grown a).take x l.out.1).ax ((b.out.far.grown a).next x l.out.1) _).ax b.out.hi.uC _⟩,K,ZR.out.trans Us.out.2⟩
   ·have e0:IntKind.u64.wrap (B.next:Int)=(B.next:Int):=by rw[mX];omega
    have hb:=ZP B.next 0 Qm Z;have e1:IntKind.u64.wrap ((B.next:Int)*256)=(B.next:Int)*256:=by rw[mX];omega
    rw[e0,e1]at hb;simp only[Ending.returned.injEq,Value.tuple.injEq];simp;exact hb
   show Y X+1<=_;omega
 have o:=br a g i v f;clear I1 a g i v f;go_wp2;go_ret2;obtain⟨a,g,i,v,f⟩:=o.out;exact al ⟨B,rfl,a,Z,v.up Z,f⟩
