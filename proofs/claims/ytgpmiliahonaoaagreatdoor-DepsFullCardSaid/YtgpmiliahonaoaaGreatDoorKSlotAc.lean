/- Facts on texts on pages. -/
import Derived.Test.YtgpmiliahonaoaaGreatDoorKDpSc
import Derived.Lib.SlicesDelete
set_option maxRecDepth 100000
set_option maxHeartbeats 8000000
set_option linter.unusedSimpArgs false
open Go.Value renaming bool->a6,int->V,slice->ad,string->a8,tuple->a9
open Go.IntKind renaming i64->U,u64->a7
open Go.Ending renaming returned->aw
open List renaming length->Y
open Or renaming inl->O,inr->al
open Go.Proofs.Tryz
namespace Go.Proofs.YtgpmiliahonaoaaGreatDoor
open Go.RowKit
open UK (str aF nth Only Row ay)
open DP (Rc bU)
open Go.BigFrame
variable{W:World}{c g i b n j:Nat}{d:Option Addr}{es l:List EM}
def sI(a k:UInt64):Int:=if a.toNat<k.toNat then -1 else if k.toNat<a.toNat then 1 else 0
theorem Yo(W:World)(x:EM)(k:UInt64) :
  Calls prog 98 #[.agg #[V a7 (x.k.toNat:Int),ad x.ro (Y x.l) x.rc],V a7 (k.toNat:Int)] W λ e i=>e=aw (V U (sI x.k k))/\Below W W i:=by
 obtain⟨b,a⟩:∃b,b=W.alloc (.cells #[V a7 (x.k.toNat:Int),ad x.ro (Y x.l) x.rc] 104):=⟨_,rfl⟩;have h:ay b W #[V a7 (x.k.toNat:Int),ad x.ro (Y x.l) x.rc]:=a▸ay.new W _ _;have g:Below W W b:=a▸(aU _ _).alloc (aH _) _;have j:=h.c0;have c:=zH g;clear h g;unfold sI;by_cases f:x.k.toNat<k.toNat
 ·rw[be f]
  go_enter func98,ntmps98
  go_wp2_with (simp only[<-a])
  all_goals (go_ret;exact⟨rfl,c.out⟩)
 rw[aE f];by_cases d:k.toNat<x.k.toNat
 ·rw[be d]
  go_enter func98,ntmps98
  go_wp2_with (simp only[<-a])
  all_goals (go_ret;exact⟨rfl,c.out⟩)
 rw[aE d]
 go_enter func98,ntmps98
 go_wp2_with (simp only[<-a])
 all_goals (go_ret;exact⟨rfl,c.out⟩)
structure jA(es:List EM)(k:UInt64)(i:Nat):Prop where
 le:i<=Y es
 below:∀(j:Nat) (x:EM),j<i->es[j]?=some x->x.k.toNat<k.toNat
 above:∀(j:Nat) (x:EM),i<=j->es[j]?=some x->k.toNat<=x.k.toNat
def FD(es:List EM):Prop:=∀(a b:Nat) (x y:EM),a<b->es[a]?=some x->es[b]?=some y->x.k.toNat<y.k.toNat
def uX(es:List EM)(k:UInt64)(i:Nat):Bool:=match es[i]? with
 | some x=>decide (x.k=k)
 | none=>false
theorem Gv{N:Nat}(h:EX N W d c es)(O:FD es)(hl:Y es<=100000)(k:UInt64) :
  Calls prog 97 #[ad d (Y es) c,V a7 (k.toNat:Int),.func (.func 98) #[] #[]] W λ e t=>∃i:Nat,e=aw (a9 #[V U i,a6 (uX es k i)])/\jA es k i/\Below W W t:=by
 have I:=zH O;have H:=zH h;clear O h
 go_enter func97,ntmps97
 go_wp2_with fail
 go_loopw [9,10] (λ A y wr=>∃i j:Nat,A=V U i/\y=V U j/\i<=j/\j<=Y es/\Hid (∀(a:Nat) (x:EM),a<i->es[a]?=some x->x.k.toNat<k.toNat)/\Hid (∀(a:Nat) (x:EM),j<=a->es[a]?=some x->k.toNat<=x.k.toNat)/\Hid (Below W W wr)) (λ A y _=>(intOf y).toNat-(intOf A).toNat)
 case atStart=>exact⟨0,Y es,rfl,rfl,aR _,aH _,(λ a x h=>absurd h (jI _)),(λ a x h b=>by rw[ja h]at b;cases b),zH (aU _ _)⟩
 obtain⟨i,j,rfl,rfl,F,M,v,s,l⟩:=hrel;by_cases K:i<j
 ·obtain⟨x,b⟩:∃x,es[(i+j)/2]?=some x:=⟨_,bK Z⟩;obtain⟨g,rfl,D,J⟩:=(H.out.next l.out).two b;have Q:((i:Int)+(j:Int))/2=(((i+j)/2:Nat):Int):=Z
  have T:(i+j)/2<Y es:=Z
  have S:i<=(i+j)/2:=Z
  have X:(i+j)/2<j:=Z
  generalize G:(i+j)/2=m at b D J Q T S X;have f:=Yo wr x k;by_cases u:x.k.toNat<k.toNat
  ·have B:=zH (λ (a:Nat) (z:EM) (R:a<m+1) (p:es[a]?=some z)=>(show z.k.toNat<k.toNat by
    by_cases e:a=m
    ·subst e;rw[b]at p;rw[<-bf p];exact u
    have:=I.out a m z x Z p b;omega))
   rw[show sI x.k k= -1 from be u]at f;have HL2:=zH f;clear b G f u v
   go_wp2_with fail
   refine HL2.out.mono ?_;rintro e t ⟨rfl,o⟩;have HB2:=zH (l.out.trans (o.mono l.out.size));clear HL2 o;go_wp2;go_roundw
   case rel=>exact⟨m+1,j,by go_num,rfl,Z,M,B.out,s,HB2⟩
   case measure=>simp[intOf];omega
  have B:=zH (λ (a:Nat) (z:EM) (R:m<=a) (p:es[a]?=some z)=>(show k.toNat<=z.k.toNat by
   by_cases e:a=m
   ·subst e;rw[b]at p;rw[<-bf p];omega
   have:=I.out m a x z Z b p;omega))
  obtain⟨n,C,h0⟩:∃n:Nat,sI x.k k=(n:Int)/\n<=1:=by
   unfold sI;rw[aE u]
   split
   ·exact⟨1,rfl,aH _⟩
   exact⟨0,rfl,aR _⟩
  rw[C]at f;have HL2:=zH f;have h1:¬(n:Int)<0:=Z
  clear b G f u s C
  go_wp2_with fail
  refine HL2.out.mono ?_;rintro e t ⟨rfl,o⟩;have HB2:=zH (l.out.trans (o.mono l.out.size));clear HL2 o;go_wp2;go_roundw
  case rel=>exact⟨i,m,rfl,rfl,Z,Z,v,B.out,HB2⟩
  case measure=>simp[intOf];omega
 obtain rfl:i=j:=Z
 have w:jA es k i:=⟨M,v.out,s.out⟩;have HST:=zH w;by_cases E:i<Y es
 ·obtain⟨x,b⟩:∃x,es[i]?=some x:=⟨_,bK E⟩;obtain⟨g,rfl,D,J⟩:=(H.out.next l.out).two b;have DF:(i:Int)<(Y es:Int):=Z
  have f:=Yo wr x k;have q:uX es k i=decide (x.k=k):=by unfold uX;rw[b]
  have L:=w.above i x (aH _) b;clear w v s F K;by_cases r:x.k=k
  ·rw[show sI x.k k=0 by unfold sI;rw[r,aE (mE _),aE (mE _)]]at f;have HL2:=zH f;rw[decide_eq_true r]at q;have HI:=zH q;have P:¬(i:Int)<(i:Int):=Z
   clear f q r L b
   go_wp2_with fail
   refine HL2.out.mono ?_;rintro e t ⟨rfl,o⟩;have HB2:=zH (l.out.trans (o.mono l.out.size));clear HL2 o;go_wp2;go_ret2;exact⟨i,by rw[HI.out]<;>rfl,HST.out,HB2.out⟩
  rw[show sI x.k k=1 by
   have:x.k.toNat≠k.toNat:=λ e=>r (mV.1 e);unfold sI;rw[aE Z,be Z]]at f
  have HL2:=zH f;rw[decide_eq_false r]at q;have HI:=zH q;have P:¬(i:Int)<(i:Int):=Z
  clear f q r L b
  go_wp2_with fail
  refine HL2.out.mono ?_;rintro e t ⟨rfl,o⟩;have HB2:=zH (l.out.trans (o.mono l.out.size));clear HL2 o;go_wp2;go_ret2;exact⟨i,by rw[HI.out]<;>rfl,HST.out,HB2.out⟩
 obtain rfl:i=Y es:=Z
 have HI:=zH (show uX es k (Y es)=false by unfold uX;rw[ja (aH _)]);have hd:¬((Y es:Int)<(Y es:Int)):=Z
 clear w v s F E K
 go_wp2_with fail
 go_ret2;exact⟨Y es,by rw[HI.out]<;>rfl,HST.out,l.out⟩
open Go.RowKit Go.BigFrame
def fl(es:List EM):List Value:=es.flatMap kC
theorem kQ(es:List EM):(fl es).length=2*Y es:=PH JL es
theorem Ad(a b:List EM):fl (a++b)=fl a++fl b:=List.flatMap_append
theorem Tp(x:EM)(b:List EM):fl (x::b)=kC x++fl b:=rfl
theorem LM(es:List EM)(i:Nat):fl (es.take i)=(fl es).take (2*i):=by
 by_cases h:i<=Y es
 ·have b:fl es=fl (es.take i)++fl (es.drop i):=by rw[<-Ad,gZ]
  have c:(fl (es.take i)).length=2*i:=by rw[kQ,zt,gV h]
  have a:=congrArg (List.take (2*i)) b;rw[qN Z,fQ (l:=fl (es.take i)) Z]at a;exact a.symm
 rw[fQ (l:=es) Z,fQ (l:=fl es) (by rw[kQ];omega)]
theorem Tq(es:List EM)(i:Nat):fl (es.drop i)=(fl es).drop (2*i):=by
 by_cases h:i<=Y es
 ·have b:fl es=fl (es.take i)++fl (es.drop i):=by rw[<-Ad,gZ]
  have c:(fl (es.take i)).length=2*i:=by rw[kQ,zt,gV h]
  have a:=congrArg (List.drop (2*i)) b;rw[List.drop_append_of_le_length Z,(List.drop_eq_nil_of_le Z:(fl (es.take i)).drop (2*i)=[])]at a;exact a.symm
 rw[(List.drop_eq_nil_of_le Z:es.drop i=[]),(List.drop_eq_nil_of_le (by rw[kQ];omega):(fl es).drop (2*i)=[])];rfl
theorem Tt(es:List EM):∀v∈fl es,v.oneCell'=true:=λ v a=>by
 obtain⟨x,_,b⟩:=List.mem_flatMap.1 a;exact LC x v b
def zE:List Value:=[V a7 0,ad none 0 0]
theorem la(h:Row W g (2*c) (fl l))(Q:Y l<=100000)(E:i<Y l) :
  Calls prog 99 #[ad g (Y l) c,V U i,V U ((i:Int)+1)] W λ e C=>e=aw (ad g (Y l-1) c)/\Row C g (2*c) (fl (l.take i++l.drop (i+1)))/\Only g W C:=by
 have o:=kQ l;have y:=h.le;rw[o]at y;obtain⟨n,s⟩:∃n,n=Y l:=⟨_,rfl⟩;have F:¬((i:Int)=(i:Int)+1):=Z
 have h3:¬(c=i):=Z
 have h6:((i:Int)+1).toNat=i+1:=Z
 have h7:(0:Int)<=(i:Int)+1:=Z
 have P:(i:Int)+1<=(n:Int):=Z
 have S:i<=c:=Z
 have G:i+1<=n:=Z
 have H:(prog.info? 104).map (·.size)=some 2:=by kernel_rfl
 have f:(fl (l.drop (i+1))).length=2*(n-(i+1)):=by rw[kQ,zd,s]
 have B:=Tq l (i+1);have q:=h.drewN 1
 have x:∀d,(d=(⟨g,(i+1)*2,none⟩:Addr)\/i+1=n)->∀r,(Builtin.append_ #[100,100] 100 #[ad g i c,ad (some d) (n-(i+1)) r]).run prog W.drew= .ok (ad g (n-1) c) (W.drew.setCells g (i*2) (fl (l.drop (i+1)))):=λ d L r=>by
  have X:Src prog 2 100 (ad (some d) (n-(i+1)) r) (n-(i+1)) (fl (l.drop (i+1))) W.drew:=Src.ofSlice W.drew underlying100 d (n-(i+1)) r _ (by rw[f,Nat.mul_comm]) (λ j u a=>by
   rcases L with rfl|e
   ·rw[UK.mY];exact q.at' ((i+1)*2+j) u (by rw[B,eP]at a;rw[Nat.mul_comm];exact a)
   have:j<(fl (l.drop (i+1))).length:=(dz.1 a).1;rw[f]at this;omega) (Tt _)
  have D:=run_append_room_src (P:=prog) W.drew 100 100 100 104 t104 underlying100 rfl g 0 i c _ _ _ X Z (λ j a=>(q.there _ (by rw[f]at a;show 0+i*2+j<2*c;omega)).1) (λ j a=>(q.there _ (by rw[f]at a;show 0+i*2+j<2*c;omega)).2);rw[show i+(n-(i+1))=n-1 from Z,show 0+i*t104.size=i*2 by show 0+i*2=i*2;omega]at D;exact D
 have p:Row (W.drew.setCells g (i*2) (fl (l.drop (i+1)))) g (2*c) (fl (l.take i++l.drop (i+1))++(fl l).drop (2*(n-1))):=q.setCells (i*2) (fl (l.drop (i+1))) (by rw[f];omega) _ (by rw[zl,kQ,zl,zt,zd,zd,o];omega)
  (λ j a=>by
   rw[f]at a;rw[bR (by rw[kQ,zl,zt,zd];omega),Ad,bZ (by rw[kQ,zt];omega),kQ,zt,show i*2+j-2*min i (Y l)=j from Z])
  (λ j a m=>by
   rw[zl,kQ,zl,zt,zd,zd,o]at a;rw[f]at m;refine⟨by rw[o];omega,?_⟩;rcases m with m|m
   ·rw[bR (by rw[kQ,zl,zt,zd];omega),Ad,bR (by rw[kQ,zt];omega),LM,fT Z]
   rw[bZ (by rw[kQ,zl,zt,zd];omega),kQ,zl,zt,zd,eP]
   congr 1
   omega)
 have t:Only g W (W.drew.setCells g (i*2) (fl (l.drop (i+1)))):=UK.Only.setCells _ _ (Only.refl g W).drew;generalize K:W.drew.setCells g (i*2) (fl (l.drop (i+1)))=k at p t x;have T:(Builtin.clear_ #[100] 0 #[ad (g,(n-1)*2) 1 (c-(n-1))]).run prog k= .ok (a9 #[]) (k.setCells g ((n-1)*2) zE):=UK.IF (P:=prog) k 100 104 0 (.agg #[V a7 0,ad none 0 0]) underlying100 (λ h4=>by kernel_rfl) (by decide) g ((n-1)*2) (c-(n-1)) (λ j a=>(p.there _ (by have:j<2:=a;omega)).1) (λ j a=>(p.there _ (by have:j<2:=a;omega)).2);have b:(fl (l.take i++l.drop (i+1))).length=2*(n-1):=by rw[kQ,zl,zt,zd];omega
 have fin:Row (k.setCells g ((n-1)*2) zE) g (2*c) (fl (l.take i++l.drop (i+1)))/\Only g W (k.setCells g ((n-1)*2) zE):=by
  have I:Row (k.setCells g ((n-1)*2) zE) g (2*c) (fl (l.take i++l.drop (i+1))++zE):=p.setCells ((n-1)*2) zE (by show(n-1)*2+2<=_;omega) _ (by rw[zl,b];show 2*(n-1)+2<=_;omega) (λ j a=>by
   rw[bZ (by rw[b];omega),b,show(n-1)*2+j-2*(n-1)=j from Z]) (λ j a m=>by
   rw[zl,b]at a;have h2:j<2*(n-1)+2:=a;have D7:j<(n-1)*2\/(n-1)*2+2<=j:=m;have A:j<2*(n-1):=Z
   refine⟨by rw[zl,b];omega,?_⟩;rw[bR (by rw[b];exact A),bR (by rw[b];exact A)])
  have:=I.take (2*(n-1));rw[qN (by rw[b];exact aH _),fQ (by rw[b];exact aH _)]at this;exact⟨this,UK.Only.setCells _ _ t⟩
 have w:=zH fin;have v:=zH x;clear fin p t q B f H x h K b;rw[<-s]at Q E y ⊢;have h8:(n:Int)<=(c:Int):=Z
 clear s o y;have M:n-(n-1)=1:=Z
 have h5:((i:Int)==(i:Int)+1)=false:=beq_eq_false_iff_ne.2 F;have N:¬(c=n-1):=Z
 have J:((n-1:Nat):Int)<=(n:Int):=Z
 by_cases h0:c=i+1
 ·obtain rfl:n=i+1:=Z
  subst h0
  have z:(Builtin.append_ #[100,100] 100 #[ad g i (i+1),ad g 0 0]).run prog W.drew= .ok (ad g i (i+1)) k:=by
   have:=v.out ⟨g,0,none⟩ (al rfl) 0;rw[l7,Nat.add_sub_cancel]at this;exact this
  rw[Nat.add_sub_cancel,sw]at T;rw[Nat.add_sub_cancel]at w ⊢;have R:=zH z;have LP:¬(i+1=i):=Z
  clear v z M N J P S G E F;have h1:(i:Int)<=(i:Int)+1:=Z
  go_enter func99,ntmps99
  go_wp2_with fail
  go_region_law (refine UK.aM R.out rfl rfl rfl (by simp[Act.eval,Act.put]) (by simp[Act.eval,Act.put]) ?_)
  go_wp2;go_ret
  exact⟨rfl,w.out⟩
 go_enter func99,ntmps99
 go_wp2_with fail
 go_region_law (refine UK.aM (v.out ⟨g,(i+1)*2,none⟩ (O rfl) (c-(i+1))) rfl rfl rfl (by simp[Act.eval,Act.put]) (by simp[Act.eval,Act.put]) ?_)
 go_wp2;go_ret
 exact⟨rfl,w.out⟩
def Hf(W c:World)(d:Option Addr)(l:List EM)(e:Ending):Prop:=
 ∃a b,e=aw (ad (some ⟨a,0,none⟩) (Y l) b)/\Row c a (2*b) (fl l)/\UK.Only a W c/\(aG d a\/W.1.size<=a)
theorem tm{W:World}{d:Option Addr}{c b:Nat}{l:List EM}(h:NX 2 kC W d c l)(B:Y l<=100000)(v:EM)(q:ay W b (kC v).toArray) :
  Calls prog 100 #[ad d (Y l) c,V U (Y l),ad b 1 1] W λ e x=>Hf W x d (l++[v]) e:=by
 have i:=kQ l;have A:Y l<=c:=h.le JL Z
 have s:Src prog 2 100 (ad b 1 1) 1 (kC v) W:=Src.ofSlice W underlying100 ⟨b,0,none⟩ 1 1 (kC v) rfl (λ j u z=>by
  rw[UK.mY,fB];exact q.cell j u (by rw[List.getElem?_toArray];exact z)) (LC v)
 obtain⟨n,p,y,e,r,o⟩:=UK.XG (P:=prog) (t:=100) (tx:=100) (ty:=100) (q:=2) (n:=Y l) (k:=1) (vs:=fl l) underlying100 (i:=t104) rfl rfl rfl (show(32:Nat)<=64 from Z) rfl i
  (by
   rcases h with⟨a,f,c⟩|⟨g,a,f⟩
   ·subst f;exact O ⟨a,rfl,c,rfl⟩
   exact al ⟨g,a,f⟩) (m:=kC v) rfl Z s Z
 have t:fl l++kC v=fl (l++[v]):=by rw[Ad];rfl
 rw[t]at r;have k:=bg r o;clear r o q t s
 have fin:Hf W y d (l++[v]) (aw (ad n (Y l+1) p)):=by
  refine⟨n,p,by rw[zl];rfl,k.out.1,?_⟩;rcases k.out.2 with⟨a,f⟩|⟨a,f⟩
  ·exact⟨f,O a⟩
  exact⟨Only.of_below f,al Z⟩
 have m:=zH fin;clear fin k;rcases h with⟨rfl,w,rfl⟩|⟨g,rfl,r⟩
 ·subst w;clear i
  go_enter func100,ntmps100
  go_wp2_with (at_builtin;refine UK.jm e rfl rfl rfl rfl rfl ?_)
  go_ret;exact m.out
 clear r i
 go_enter func100,ntmps100
 go_wp2_with (at_builtin;refine UK.jm e rfl rfl rfl rfl rfl ?_)
 all_goals
  go_ret;exact m.out
theorem C0(h:Row W g (2*c) (fl l))(hl:Y l<=100000)(hi:i<Y l)(kR:Y l+1<=c)(v:EM)(B:ay W b (kC v).toArray)(J:b≠g) :
  Calls prog 100 #[ad g (Y l) c,V U i,ad b 1 1] W λ e w'=>Hf W w' g (l.take i++v::l.drop i) e:=by
 have K:=kQ l;obtain⟨n,s⟩:∃n,n=Y l:=⟨_,rfl⟩;obtain⟨tB,T,N,h2⟩:=Row.shape h Z
 obtain⟨A,r,M,Q,F⟩:∃A r,W.shape? b=some (A,r)/\W.frozen? ⟨b,0,none⟩=false/\W.frozen? {block:=b,off:=r}=false:=by
  obtain⟨h3,E⟩:=B;exact⟨h3,2,by unfold World.shape?;rw[E];rfl,by unfold World.frozen?;rw[E];rfl,by unfold World.frozen?;rw[E];rfl⟩
 have h0:∀D y,(callFunc 163 #[ad b 1 1,ad (g,(i+1)*2) D y]).run prog W= .ok (.value (a6 false)) W:=λ D y=>by
  rw[run_callFunc_extern func163 (by kernel_rfl) (by kernel_rfl) (by kernel_rfl) (e:=Extern.SlicesOverlaps.overlaps #[100,100] #[4]) (by kernel_rfl),
   Lib.run_overlaps_apart W 100 4 104 underlying100 2 (λ h8=>by kernel_rfl) ⟨b,0,none⟩ ⟨g,(i+1)*2,none⟩ 1 1 D y J A tB r T M N h2 Q F]
  rfl
 have t:(prog.info? 104).map (·.size)=some 2:=by kernel_rfl
 have R:∀j u,(fl l)[j]?=some u->W.cell? ⟨g,j,none⟩=some u:=λ j u a=>h.at' j u a;have I:=Tq l i;have m:(fl (l.drop i)).length=2*(n-i):=by rw[kQ,zd,s]
 have o:Row (W.drew.setCells g ((i+1)*2) (fl (l.drop i))) g (2*c) (fl (l.take (i+1)++l.drop i)):=(h.drewN 1).setCells ((i+1)*2) (fl (l.drop i)) (by rw[m];omega) _ (by rw[kQ,zl,zt,zd];omega)
  (λ j a=>by
   rw[Ad,bZ (by rw[kQ,zt];omega),kQ,zt,show(i+1)*2+j-2*min (i+1) (Y l)=j from Z])
  (λ j a p=>by
   rw[kQ,zl,zt,zd]at a;rw[m]at p;have h4:j<2*(i+1):=Z
   refine⟨by rw[K];omega,?_⟩;rw[Ad,bR (by rw[kQ,zt];omega),LM,fT h4])
 have q:Only g W (W.drew.setCells g ((i+1)*2) (fl (l.drop i))):=UK.Only.setCells _ _ (Only.refl g W).drew;have w:Nat.min (n+1-i) (n-i)=n-i:=Nat.min_eq_right Z
 have z:∀d f x,(Builtin.copy_ #[100,100] d #[ad (g,(i+1)*2) (n-i) f,ad (g,i*2) (n+1-i) x]).run prog W.drew= .ok (goInt ((n-i:Nat):Int)) (W.drew.setCells g ((i+1)*2) (fl (l.drop i))):=λ d f x=>by
  have:=UK.PV (P:=prog) W.drew 100 100 d 104 2 g ((i+1)*2) (n-i) f ⟨g,i*2,none⟩ (n+1-i) x (fl (l.drop i)) underlying100 t (by rw[m,w];omega)
   (λ j u a=>by rw[UK.mY];exact R (i*2+j) u (by rw[I,eP]at a;rw[Nat.mul_comm];exact a))
   (λ j a=>(h.there _ (by rw[m]at a;omega)).1) (λ j a=>(h.there _ (by rw[m]at a;omega)).2) (Tt _)
  rw[w]at this;exact this
 generalize h1:W.drew.setCells g ((i+1)*2) (fl (l.drop i))=k at o q z;have H:=B.only q J;have C:Nat.min 1 (n+1-i)=1:=gV Z
 have P:∀d f,(Builtin.copy_ #[100,100] d #[ad (g,i*2) (n+1-i) f,ad b 1 1]).run prog k= .ok (goInt 1) (k.setCells g (i*2) (kC v)):=λ d f=>by
  have:=UK.PV (P:=prog) k 100 100 d 104 2 g (i*2) (n+1-i) f ⟨b,0,none⟩ 1 1 (kC v) underlying100 t (by rw[C];rfl)
   (λ j u a=>by rw[UK.mY,fB];exact H.cell j u (by rw[List.getElem?_toArray];exact a))
   (λ j a=>(o.there _ (by have:j<2:=a;omega)).1) (λ j a=>(o.there _ (by have:j<2:=a;omega)).2) (LC v)
  rw[C]at this;exact this
 have L:Row (k.setCells g (i*2) (kC v)) g (2*c) (fl (l.take i++v::l.drop i)):=o.setCells (i*2) (kC v) (by show i*2+2<=_;omega) _ (by rw[kQ,zl,zt,dF,zd];omega)
  (λ j a=>by
   have h5:j<2:=a;rw[Ad,bZ (by rw[kQ,zt];omega),kQ,zt,show i*2+j-2*min i (Y l)=j from Z,Tp,bR (by exact a)])
  (λ j a p=>by
   rw[kQ,zl,zt,dF,zd]at a;have S:j<i*2\/i*2+2<=j:=p;refine⟨by rw[kQ,zl,zt,zd];omega,?_⟩;rw[Ad,Ad];rcases S with p|p
   ·rw[bR (by rw[kQ,zt];omega),bR (by rw[kQ,zt];omega),LM,LM,fT Z,fT Z]
   rw[bZ (by rw[kQ,zt];omega),bZ (by rw[kQ,zt];omega),kQ,kQ,zt,zt,Tp,bZ (by show 2<=_;omega)];show(fl (l.drop i))[_-2]?=_
   congr 1
   omega)
 have G:Only g W (k.setCells g (i*2) (kC v)):=UK.Only.setCells _ _ q
 have fin:Hf W (k.setCells g (i*2) (kC v)) g (l.take i++v::l.drop i) (aw (ad g (n+1) c)):=
  ⟨g,c,by rw[zl,zt,dF,zd,show min i (Y l)+(Y l-i+1)=n+1 from Z],L,G,O rfl⟩
 have X:=zH fin;have hg:¬((i:Int)=(n:Int)):=Z
 have hh:i<=n:=Z
 have h9:(i:Int)<=(n:Int)+1:=Z
 have hb:IntKind.i64.wrap ((i:Int)+1)=(i:Int)+1:=by rw[dM];omega
 have ha:IntKind.i64.wrap ((n:Int)+1)=(n:Int)+1:=by rw[dM];omega
 have hk:(0:Int)<=(i:Int)+1:=Z
 have hj:((i:Int)+1).toNat=i+1:=Z
 have h6:¬(c=i+1):=Z
 have hc:¬(c=i):=Z
 have h7:((n:Int)+1).toNat=n+1:=Z
 have he:¬((c:Int)<(n:Int)+1):=Z
 rw[<-s]at hl hi kR ⊢;clear s h1 K;clear fin o L q G B H h R I m M N Q F t w C;have H2:=zH P;have H1:=zH z;clear z P
 go_enter func100,ntmps100
 go_wp2_with (simp only[h0])
 go_region_law (refine step_copy_runI rfl _ _ 100 100 rfl (ad (g,(i+1)*2) (n-i) (c-(i+1))) (ad (g,i*2) (n+1-i) (c-i)) (by simp[Act.eval,Act.put]) (by simp[Act.eval,Act.put]) (H1.out 3 (c-(i+1)) (c-i)) ?_)
 have Ag:=H2.out 3 (c-i);go_wp2;go_ret;exact X.out
theorem JP{c:Type}{a b:List c}(h:Y a=n)(d:n<=j):(a++b)[j]?=b[j-n]?:=by rw[bZ Z,h]
theorem yes{c:Type}{a b:List c}(h:Y a=n)(d:j<n):(a++b)[j]?=a[j]?:=bR Z
theorem rh(n:Nat):(Builtin.zeroCells (Value.agg #[V a7 0,ad none 0 0]).cells (n+1)).toList=zE++(Builtin.zeroCells (Value.agg #[V a7 0,ad none 0 0]).cells n).toList:=by
 rw[Nat.add_comm,UK.pf,UK.Yp,Array.toList_append];rfl
theorem yet(n:Nat):(Builtin.zeroCells (Value.agg #[V a7 0,ad none 0 0]).cells n).toList.length=2*n:=by
 rw[Array.length_toList,UK.Ce,Nat.mul_comm];rfl
theorem CI(h:Row W g (2*c) (fl l))(hl:Y l<=100000)(hi:i<Y l)(kR:c<Y l+1)(v:EM)(H:ay W b (kC v).toArray) :
  Calls prog 100 #[ad g (Y l) c,V U i,ad b 1 1] W λ e w'=>Hf W w' g (l.take i++v::l.drop i) e:=by
 have O:=kQ l;obtain⟨n,B⟩:∃n,n=Y l:=⟨_,rfl⟩;have R:=h.le;rw[O]at R;have C:(prog.info? 104).map (·.size)=some 2:=by kernel_rfl
 have N:=Tq l i;have m:(fl (l.drop i)).length=2*(n-i):=by rw[kQ,zd,B]
 have d:(fl (l.take i)).length=2*i:=by rw[kQ,zt];omega
 have K:=h.take (2*i);rw[<-LM]at K;obtain⟨f,k,z,o,h0,b1⟩:=UK.vT (P:=prog) (t:=100) (tn:=3) (ty:=100) (kn:=U) (i:=t104) (q:=2) underlying100 underlying3 rfl rfl rfl Z (show(32:Nat)<=64 from Z) rfl K d (n+1-i) Z Z Z;rw[show i+(n+1-i)=n+1 from Z]at z h0;rw[show((n+1-i:Nat):Int)=(n:Int)+1-(i:Int) from Z]at z;rw[show n+1-i=(n-i)+1 from Z,rh]at o;have s:=yet (n-i);obtain⟨A,J⟩:∃A,A=(Builtin.zeroCells (Value.agg #[V a7 0,ad none 0 0]).cells (n-i)).toList:=⟨_,rfl⟩;rw[<-J]at s;replace o:Row k W (2*f) (fl (l.take i)++(zE++A)):=by rw[J];exact o
 clear J;have y:Below W W k:=b1;have M:=H.below y H.lt;have I:Nat.min 1 (n+1-i)=1:=gV Z
 have F:∀q r,(Builtin.copy_ #[100,100] q #[ad (W.1.size,i*2) (n+1-i) r,ad b 1 1]).run prog k= .ok (goInt 1) (k.setCells W (i*2) (kC v)):=λ q r=>by
  have:=UK.PV (P:=prog) k 100 100 q 104 2 W (i*2) (n+1-i) r ⟨b,0,none⟩ 1 1 (kC v) underlying100 C (by rw[I];rfl)
   (λ j u a=>by rw[UK.mY,fB];exact M.cell j u (by rw[List.getElem?_toArray];exact a))
   (λ j a=>(o.there _ (by have:j<2:=a;omega)).1) (λ j a=>(o.there _ (by have:j<2:=a;omega)).2) (LC v)
  rw[I]at this;exact this
 have t:Row (k.setCells W (i*2) (kC v)) W (2*f) (fl (l.take i)++(kC v++A)):=o.setCells (i*2) (kC v) (by show i*2+2<=_;omega) _ (by rw[zl,d,zl,s];show 2*i+(2+_)<=_;omega)
  (λ j a=>by
   have h2:j<2:=a;rw[bZ (by rw[d];omega),d,show i*2+j-2*i=j from Z,bR (by exact a)])
  (λ j a w=>by
   rw[zl,d,zl,s]at a;have D:j<2*i+(2+2*(n-i)):=a;have T:j<i*2\/i*2+2<=j:=w;refine⟨by rw[zl,d,zl,s];exact D,?_⟩;rcases T with w|w
   ·rw[bR (by rw[d];omega),bR (by rw[d];omega)]
   rw[JP d Z,JP d Z,JP (a:=kC v) (n:=2) rfl Z,JP (a:=zE) (n:=2) rfl Z])
 have x:Below W W (k.setCells W (i*2) (kC v)):=y.trans ((UK.Only.setCells _ _ (Only.refl W k)).below y.size (aH _));generalize h1:k.setCells W (i*2) (kC v)=p at t x F;have Q:=h.below x h.lt;have G:Nat.min (n-i) (n-i)=n-i:=Nat.min_self _
 have P:∀q r E,(Builtin.copy_ #[100,100] q #[ad (W.1.size,(i+1)*2) (n-i) r,ad (g,i*2) (n-i) E]).run prog p.drew= .ok (goInt ((n-i:Nat):Int)) (p.drew.setCells W ((i+1)*2) (fl (l.drop i))):=λ q r E=>by
  have:=UK.PV (P:=prog) p.drew 100 100 q 104 2 W ((i+1)*2) (n-i) r ⟨g,i*2,none⟩ (n-i) E (fl (l.drop i)) underlying100 C (by rw[m,G];omega)
   (λ j u a=>by rw[UK.mY];exact Q.at' (i*2+j) u (by rw[N,eP]at a;rw[Nat.mul_comm];exact a))
   (λ j a=>(t.there _ (by rw[m]at a;omega)).1) (λ j a=>(t.there _ (by rw[m]at a;omega)).2) (Tt _)
  rw[G]at this;exact this
 have S:Row (p.drew.setCells W ((i+1)*2) (fl (l.drop i))) W (2*f) (fl (l.take i++v::l.drop i)):=by
  rw[Ad,Tp];refine(t.drewN 1).setCells ((i+1)*2) (fl (l.drop i)) (by rw[m];omega) _ (by rw[zl,d,zl,m];show 2*i+(2+_)<=_;omega) (λ j a=>?_) (λ j a w=>?_)
  ·rw[bZ (by rw[d];omega),d,bZ (by show 2<=_;omega)];show(fl (l.drop i))[_-2]?=_
   congr 1
   omega
  rw[zl,d,zl,m]at a;have D:j<2*i+(2+2*(n-i)):=a;rw[m]at w;have hh:j<(i+1)*2:=Z
  refine⟨by rw[zl,d,zl,s];exact D,?_⟩;by_cases e:j<2*i
  ·rw[bR (by rw[d];omega),bR (by rw[d];omega)]
  rw[JP d Z,JP d Z,yes (a:=kC v) (n:=2) rfl Z,yes (a:=kC v) (n:=2) rfl Z]
 have L:Below W W (p.drew.setCells W ((i+1)*2) (fl (l.drop i))):=x.trans ((UK.Only.setCells _ _ (Only.refl W p).drew).below x.size (aH _))
 have fin:Hf W (p.drew.setCells W ((i+1)*2) (fl (l.drop i))) g (l.take i++v::l.drop i) (aw (ad W (n+1) f)):=
  ⟨W.1.size,f,by rw[zl,zt,dF,zd,show min i (Y l)+(Y l-i+1)=n+1 from Z],S,Only.of_below L,al (aH _)⟩
 have X:=zH fin;have E1:=zH z;have H1:=zH F;have H2:=zH P;have ha:¬((i:Int)=(n:Int)):=Z
 have hb:i<=n:=Z
 have h6:(i:Int)<=(n:Int)+1:=Z
 have h8:IntKind.i64.wrap ((i:Int)+1)=(i:Int)+1:=by rw[dM];omega
 have h5:IntKind.i64.wrap ((n:Int)+1)=(n:Int)+1:=by rw[dM];omega
 have hj:IntKind.i64.wrap ((n:Int)+1-(i:Int))=(n:Int)+1-(i:Int):=by rw[dM];omega
 have hg:(0:Int)<=(i:Int)+1:=Z
 have hc:((i:Int)+1).toNat=i+1:=Z
 have h3:¬(f=i+1):=Z
 have h7:¬(c=i):=Z
 have h4:¬(f=i):=Z
 have h9:(c:Int)<(n:Int)+1:=Z
 have he:(i:Int)<=(c:Int):=Z
 rw[<-B]at hl hi kR ⊢;clear fin K o t S b1 x L y H M h Q N m d C z F P B O h1 R s I G
 go_enter func100,ntmps100
 have Ag:=H1.out 3 (f-i)
 go_wp2_with (at_builtin;refine UK.jm E1.out rfl rfl rfl rfl rfl ?_)
 go_region_law (refine step_copy_runI rfl _ _ 100 100 rfl (ad (W.1.size,(i+1)*2) (n-i) (f-(i+1))) (ad (g,i*2) (n-i) (c-i)) (by simp[Act.eval,Act.put]) (by simp[Act.eval,Act.put]) (H2.out 3 (f-(i+1)) (c-i)) ?_)
 go_wp2;go_ret
 exact X.out
theorem rm(h:NX 2 kC W d c l)(a:Y l<=100000)(n:i<=Y l)(v:EM)(f:ay W b (kC v).toArray)(o:¬aG d b) :
  Calls prog 100 #[ad d (Y l) c,V U i,ad b 1 1] W λ e k=>Hf W k d (l.take i++v::l.drop i) e:=by
 by_cases e:i=Y l
 ·subst e;rw[dY,List.drop_length];exact tm h a v f
 rcases h with⟨_,j,_⟩|⟨g,rfl,r⟩
 ·subst j;simp only[List.length_nil]at n e;omega
 by_cases m:Y l+1<=c
 ·exact C0 r a Z m v f (λ e=>o (by rw[e];rfl))
 exact CI r a Z Z v f
end Go.Proofs.YtgpmiliahonaoaaGreatDoor
namespace Go.Proofs.YtgpmiliahonaoaaGreatDoor.SR
open UK (nth wr jF)
variable{x z:List UInt8}{l:List (List UInt8)}{i k:Nat}
theorem hW(x:List UInt8)(a i:Nat)(v:UInt8):nth (x.set a v) i=if a=i/\a<Y x then v else nth x i:=by
 unfold nth List.getD;rw[List.getElem?_set];by_cases h:a=i
 ·subst h;by_cases b:a<Y x
  ·simp[b]
  simp[b]
 simp[h]
def two(x:List UInt8)(a:Nat):Nat:=(nth x a).toNat+256*(nth x (a+1)).toNat
def put(x:List UInt8)(a n:Nat):List UInt8:=(x.set a (UInt8.ofNat n)).set (a+1) (UInt8.ofNat (n/256))
def lay(x:List UInt8)(i a n:Nat):List UInt8:=put (put x (4+4*i) a) (4+4*i+2) n
theorem aI(x:List UInt8)(a n:Nat):(put x a n).length=Y x:=by simp[put]
theorem df(x:List UInt8)(i a n:Nat):(lay x i a n).length=Y x:=by simp[lay,aI]
theorem Oc(x:List UInt8)(a n i:Nat)(h:a+1<Y x):nth (put x a n) i=if i=a then UInt8.ofNat n else if i=a+1 then UInt8.ofNat (n/256) else nth x i:=by
 unfold put;rw[hW,hW];simp only[aV];by_cases b:i=a
 ·rw[aE Z,be ⟨b.symm,Z⟩,be b]
 by_cases c:i=a+1
 ·rw[be ⟨c.symm,h⟩,aE b,be c]
 rw[aE Z,aE Z,aE b,aE c]
theorem dE(x:List UInt8)(a n:Nat)(h:a+1<Y x)(b:n<65536):two (put x a n) a=n:=by
 unfold two;rw[Oc x a n a h,Oc x a n (a+1) h,be rfl,aE Z,be rfl];simp;omega
theorem aW(x:List UInt8)(a n b:Nat)(h:a+1<Y x)(c:b+1<a\/a+1<b):two (put x a n) b=two x b:=by
 unfold two;rw[Oc x a n b h,Oc x a n (b+1) h,aE Z,aE Z,aE Z,aE Z]
theorem fP(x:List UInt8)(a n i:Nat)(h:a+1<Y x)(b:i<a\/a+1<i):nth (put x a n) i=nth x i:=by
 rw[Oc x a n i h,aE Z,aE Z]
theorem ku(x:List UInt8)(a:Nat)(s:List UInt8)(h:a+Y s<=Y x)(i:Nat):nth (wr x a s) i=if a<=i/\i<a+Y s then nth s (i-a) else nth x i:=by
 have c:(x.take a).length=a:=by rw[zt];omega
 unfold nth List.getD wr;by_cases b:i<a
 ·rw[bR Z,List.getElem?_take,be b,aE Z]
 rw[bZ Z,c];by_cases d:i<a+Y s
 ·rw[bR Z,be Z]
 rw[bZ Z,eP,aE Z]
 congr 2
 omega
theorem CJ(x:List UInt8)(a:Nat)(s:List UInt8)(h:a+Y s<=Y x)(b:Nat)(c:b+1<a\/a+Y s<=b):two (wr x a s) b=two x b:=by
 unfold two;rw[ku x a s h,ku x a s h,aE Z,aE Z]
def pos(x:List UInt8)(i:Nat):Nat:=two x (4+4*i)
def ext(x:List UInt8)(i:Nat):Nat:=two x (4+4*i+2)
def low(x:List UInt8):Nat:=two x 2
theorem QP(x:List UInt8)(i a n:Nat)(h:4+4*i+3<Y x)(b:a<65536):pos (lay x i a n) i=a:=by
 unfold pos lay;rw[aW _ _ _ _ (by rw[aI];omega) Z,dE _ _ _ Z b]
theorem QQ(x:List UInt8)(i a n:Nat)(h:4+4*i+3<Y x)(b:n<65536):ext (lay x i a n) i=n:=by
 unfold ext lay;rw[dE _ _ _ (by rw[aI];omega) b]
theorem IQ(x:List UInt8)(i a n b:Nat)(h:4+4*i+3<Y x)(c:b+1<4+4*i\/4+4*i+3<b):two (lay x i a n) b=two x b:=by
 unfold lay;rw[aW _ _ _ _ (by rw[aI];omega) Z,aW _ _ _ _ Z Z]
theorem Gf(x:List UInt8)(i a n j:Nat)(h:4+4*i+3<Y x)(b:j≠i):pos (lay x i a n) j=pos x j:=IQ _ _ _ _ _ h Z
theorem Od(x:List UInt8)(i a n j:Nat)(h:4+4*i+3<Y x)(b:j≠i):ext (lay x i a n) j=ext x j:=IQ _ _ _ _ _ h Z
theorem QR(x:List UInt8)(i a n:Nat)(h:4+4*i+3<Y x):low (lay x i a n)=low x:=IQ _ _ _ _ _ h Z
theorem QS(x:List UInt8)(i a n k:Nat)(h:4+4*i+3<Y x)(b:k<4+4*i\/4+4*i+3<k):nth (lay x i a n) k=nth x k:=by
 unfold lay;rw[fP _ _ _ _ (by rw[aI];omega) Z,fP _ _ _ _ Z Z]
def total:List (List UInt8)->Nat
 | []=>0
 | s::l=>Y s+total l
theorem gu(l m:List (List UInt8)):total (l++m)=total l+total m:=by
 induction l with
 | nil=>simp[total]
 | cons s l a=>simp[total,a];omega
def bz(l:List (List UInt8))(i:Nat):List UInt8:=l.getD i []
theorem nZ(l:List (List UInt8))(i:Nat)(s:List UInt8)(h:i<Y l):total (l.set i s)+(bz l i).length=total l+Y s:=by
 induction l generalizing i with
 | nil=>simp at h
 | cons t l a=>
  cases i with
  | zero=>simp[total,bz];omega
  | succ i=>
   simp only[z1,total];have:=a i (by simpa using h);simp only[bz,List.getD_cons_succ]at this ⊢;omega
theorem dG(l:List (List UInt8))(k:Nat):total (l.take k)<=total l:=by
 conv=>rhs;rw[<-gZ k l,gu]
 omega
theorem dD(l:List (List UInt8))(k:Nat)(h:k<Y l):total (l.take (k+1))=total (l.take k)+(bz l k).length:=by
 rw[List.take_succ_eq_append_getElem h,gu];simp[total,bz,h]
theorem fH(l:List (List UInt8))(i j:Nat)(s:List UInt8):bz (l.set i s) j=if i=j/\i<Y l then s else bz l j:=by
 unfold bz List.getD;rw[List.getElem?_set];by_cases h:i=j
 ·subst h;by_cases a:i<Y l<;>simp[a]
 simp[h]
theorem gU(l:List (List UInt8))(i:Nat)(h:Y l<=i):bz l i=[]:=by
 unfold bz List.getD;rw[ja h];rfl
theorem jC(l:List (List UInt8))(i:Nat):(bz l i).length<=total l:=by
 by_cases h:i<Y l
 ·have a:=dD l i h;have b:=dG l (i+1);omega
 rw[gU l i Z];simp
structure aO(x:List UInt8)(l:List (List UInt8)):Prop where
 size:504<=Y x
 len:two x 0=Y l
 nV:4+4*Y l<=low x
 qc:low x<=504
 none:l=[]->low x=504
 hole:∀i,i<Y l->bz l i=[]->pos x i=0/\ext x i=0
 there:∀i,i<Y l->bz l i≠[]->low x<=pos x i/\pos x i+(bz l i).length<=504/\ext x i=(bz l i).length
 bytes:∀i,i<Y l->∀k,k<(bz l i).length->nth x (pos x i+k)=nth (bz l i) k
 apart:∀i j,i<Y l->j<Y l->i≠j->bz l i≠[]->bz l j≠[]->pos x i+(bz l i).length<=pos x j\/pos x j+(bz l j).length<=pos x i
 sum:4+4*Y l+total l<=504
namespace aO
theorem Bt(h:aO x l)(b:i<Y l):ext x i=(bz l i).length:=by
 by_cases a:bz l i=[]
 ·rw[(h.hole i b a).2,a];rfl
 exact(h.there i b a).2.2
theorem few(h:aO x l):Y l<=125:=by have:=h.nV;have:=h.qc;omega
theorem inside(h:aO x l)(b:i<Y l):pos x i+(bz l i).length<=504:=by
 by_cases a:bz l i=[]
 ·rw[(h.hole i b a).1,a];simp
 exact(h.there i b a).2.1
theorem init(y:List UInt8)(e:504<=Y y)(d:∀i,i<504->nth y i=0):aO (put y 2 504) []:=by
 have c:two (put y 2 504) 0=0:=by
  rw[aW _ _ _ _ Z Z];simp[two,d]
 have b:low (put y 2 504)=504:=dE _ _ _ Z (by decide);refine⟨by rw[aI];exact e,c,by rw[b];decide,by rw[b];decide,λ _=>b,?_,?_,?_,?_,by simp[total]⟩
 ·intro i a;simp at a
 ·intro i a;simp at a
 ·intro i a;simp at a
 intro i j a;simp at a
theorem drop(h:aO x l)(q:i<Y l):aO (lay x i 0 0) (l.set i []):=by
 have hf:=h.few;have v:=h.size;have b:4+4*i+3<Y x:=Z
 have n:∀j,bz (l.set i []) j≠[]->j≠i/\bz (l.set i []) j=bz l j:=λ j a=>by
  rw[fH]at a ⊢;by_cases o:i=j/\i<Y l
  ·rw[be o]at a;exact absurd rfl a
  rw[aE o];exact⟨λ e=>o ⟨e.symm,q⟩,rfl⟩
 have r:=nZ l i [] q;refine⟨by rw[df];exact v,?_,?_,?_,?_,?_,?_,?_,?_,?_⟩
 ·rw[IQ _ _ _ _ _ b Z,aV];exact h.len
 ·rw[QR _ _ _ _ b,aV];exact h.nV
 ·rw[QR _ _ _ _ b];exact h.qc
 ·intro m;have:(l.set i []).length=0:=by rw[m];rfl
  rw[aV]at this;omega
 ·intro j a m;rw[aV]at a;by_cases d:j=i
  ·subst d;exact⟨QP _ _ _ _ b (by decide),QQ _ _ _ _ b (by decide)⟩
  rw[Gf _ _ _ _ _ b d,Od _ _ _ _ _ b d];rw[fH,aE Z]at m;exact h.hole j a m
 ·intro j a c;rw[aV]at a;obtain⟨d,g⟩:=n j c;rw[g]at c ⊢;rw[QR _ _ _ _ b,Gf _ _ _ _ _ b d,Od _ _ _ _ _ b d];exact h.there j a c
 ·intro j a k f;rw[aV]at a
  have c:bz (l.set i []) j≠[]:=by
   intro m;rw[m]at f;simp at f
  obtain⟨d,g⟩:=n j c;rw[g]at f ⊢;have w:=h.there j a (by rw[<-g];exact c);have y:=h.nV;rw[Gf _ _ _ _ _ b d,QS _ _ _ _ _ b Z];exact h.bytes j a k f
 ·intro j k a f u c p;rw[aV]at a f;obtain⟨d,g⟩:=n j c;obtain⟨t,s⟩:=n k p;rw[g]at c ⊢;rw[s]at p ⊢;rw[Gf _ _ _ _ _ b d,Gf _ _ _ _ _ b t];exact h.apart j k a f u c p
 rw[aV];have:=h.sum;simp at r;omega
theorem grow(h:aO x l)(v:4+4*(Y l+1)<=low x)(z:4+4*(Y l+1)+total l<=504):aO (lay (put x 0 (Y l+1)) (Y l) 0 0) (l++[[]]):=by
 have hf:=h.few;have t:=h.size;have w:=h.qc;have e:4+4*Y l+3<(put x 0 (Y l+1)).length:=by rw[aI];omega
 have n:low (lay (put x 0 (Y l+1)) (Y l) 0 0)=low x:=by
  rw[QR _ _ _ _ e];exact aW _ _ _ _ Z Z
 have f:∀j,bz (l++[[]]) j=bz l j:=λ j=>by
  unfold bz List.getD;by_cases b:j<Y l
  ·rw[bR b]
  rw[bZ Z,ja (l:=l) Z];by_cases r:j-Y l=0
  ·rw[r];rfl
  rw[ja (by simp;omega)]
 have i:∀j,j<Y l->pos (lay (put x 0 (Y l+1)) (Y l) 0 0) j=pos x j:=λ j b=>by
  rw[Gf _ _ _ _ _ e Z];exact aW _ _ _ _ Z Z
 have q:∀j,j<Y l->ext (lay (put x 0 (Y l+1)) (Y l) 0 0) j=ext x j:=λ j b=>by
  rw[Od _ _ _ _ _ e Z];exact aW _ _ _ _ Z Z
 have m:∀j,bz (l++[[]]) j≠[]->j<Y l:=λ j b=>by
  rw[f]at b;by_cases s:j<Y l
  ·exact s
  rw[gU l j Z]at b;exact absurd rfl b
 refine⟨by rw[df,aI];exact t,?_,?_,?_,?_,?_,?_,?_,?_,?_⟩
 ·rw[IQ _ _ _ _ _ e Z,dE _ _ _ Z Z];simp
 ·rw[n];simpa using v
 ·rw[n];exact w
 ·intro c;simp at c
 ·intro j b c;simp only[zl,dF,List.length_nil]at b;by_cases a:j<Y l
  ·rw[i j a,q j a];rw[f]at c;exact h.hole j a c
  obtain rfl:j=Y l:=Z
  exact⟨QP _ _ _ _ e (by decide),QQ _ _ _ _ e (by decide)⟩
 ·intro j _ d;have a:=m j d;rw[f]at d ⊢;rw[n,i j a,q j a];exact h.there j a d
 ·intro j _ k g;have a:=m j (by intro c;rw[c]at g;simp at g);rw[f]at g ⊢;have y:=h.there j a (by intro c;rw[c]at g;simp at g);rw[i j a,QS _ _ _ _ _ e Z,fP _ _ _ _ Z Z];exact h.bytes j a k g
 ·intro j k _ _ u d o;have a:=m j d;have p:=m k o;rw[f]at d o ⊢;rw[f,i j a,i k p];exact h.apart j k a p u d o
 rw[gu];simp[total];omega
theorem store(h:aO x l)(w:i<Y l)(I:bz l i=[])(s:List UInt8)(A:s≠[])(N:4+4*Y l+Y s<=low x)(L:4+4*Y l+total l+Y s<=504) :
  aO (put (lay (wr x (low x-Y s) s) i (low x-Y s) (Y s)) 2 (low x-Y s)) (l.set i s):=by
 have hf:=h.few;have D:=h.size;have O:=h.qc;have M:0<Y s:=List.length_pos_iff.2 A;generalize K:low x-Y s=a;have n:a+Y s<=Y x:=Z
 have E:(wr x a s).length=Y x:=jF _ _ _ n;have o:4+4*i+3<(wr x a s).length:=Z
 have f:2+1<(lay (wr x a s) i a (Y s)).length:=by rw[df];omega
 have u:low (put (lay (wr x a s) i a (Y s)) 2 a)=a:=dE _ _ _ f Z
 have t:pos (put (lay (wr x a s) i a (Y s)) 2 a) i=a:=by
  show two _ _=_;rw[aW _ _ _ _ f Z];exact QP _ _ _ _ o Z
 have F:ext (put (lay (wr x a s) i a (Y s)) 2 a) i=Y s:=by
  show two _ _=_;rw[aW _ _ _ _ f Z];exact QQ _ _ _ _ o Z
 have g:∀j,j≠i->j<Y l->pos (put (lay (wr x a s) i a (Y s)) 2 a) j=pos x j:=λ j b C=>by
  show two _ _=_;rw[aW _ _ _ _ f Z];show pos _ _=_;rw[Gf _ _ _ _ _ o b];exact CJ _ _ _ n _ Z
 have y:∀j,j≠i->j<Y l->ext (put (lay (wr x a s) i a (Y s)) 2 a) j=ext x j:=λ j b C=>by
  show two _ _=_;rw[aW _ _ _ _ f Z];show ext _ _=_;rw[Od _ _ _ _ _ o b];exact CJ _ _ _ n _ Z
 have q:∀j,bz (l.set i s) j=if j=i then s else bz l j:=λ j=>by
  rw[fH];by_cases b:j=i
  ·rw[be ⟨b.symm,w⟩,be b]
  rw[aE Z,aE b]
 have z:∀k,4+4*Y l<=k->nth (put (lay (wr x a s) i a (Y s)) 2 a) k=nth (wr x a s) k:=λ k d=>by
  rw[fP _ _ _ _ f Z,QS _ _ _ _ _ o Z]
 have v:=nZ l i s w;refine⟨by rw[aI,df,E];exact D,?_,?_,?_,?_,?_,?_,?_,?_,?_⟩
 ·rw[aW _ _ _ _ f Z,IQ _ _ _ _ _ o Z,CJ _ _ _ n _ Z,aV];exact h.len
 ·rw[u,aV];omega
 ·rw[u];omega
 ·intro B;have:(l.set i s).length=0:=by rw[B];rfl
  rw[aV]at this;omega
 ·intro j b p;rw[aV]at b;rw[q]at p;by_cases c:j=i
  ·rw[be c]at p;exact absurd p A
  rw[aE c]at p;rw[g j c b,y j c b];exact h.hole j b p
 ·intro j b e;rw[aV]at b;rw[q]at e ⊢;rw[u];by_cases c:j=i
  ·subst c;rw[be rfl,t,F];exact⟨aH _,Z,rfl⟩
  rw[aE c]at e ⊢;rw[g j c b,y j c b];have:=h.there j b e;exact⟨Z,this.2⟩
 ·intro j b k d;rw[aV]at b;rw[q]at d ⊢;by_cases c:j=i
  ·subst c;rw[be rfl]at d ⊢;rw[t,z _ Z,ku _ _ _ n,be Z,sw]
  rw[aE c]at d ⊢;have J:=h.there j b (by intro H;rw[H]at d;simp at d);rw[g j c b,z _ Z,ku _ _ _ n,aE Z];exact h.bytes j b k d
 ·intro j k b d G e r;rw[aV]at b d;rw[q]at e r ⊢;rw[q k];by_cases c:j=i
  ·have m:k≠i:=Z
   rw[aE m]at r ⊢;subst c;rw[be rfl,t,g k m d];have:=h.there k d r;omega
  rw[aE c]at e ⊢;rw[g j c b];have:=h.there j b e;by_cases m:k=i
  ·subst m;rw[be rfl,t];omega
  rw[aE m]at r ⊢;rw[g k m d];exact h.apart j k b d G e r
 rw[aV];rw[I]at v;simp at v;omega
end aO
structure iW(x:List UInt8)(l:List (List UInt8))(k:Nat)(z:List UInt8):Prop where
 length:z.length=x.length
 len:two z 0=l.length
 later:∀i,k<=i->i<l.length->pos z i=pos x i/\ext z i=ext x i
 hole:∀i,i<k->i<l.length->bz l i=[]->pos z i=0/\ext z i=0
 there:∀i,i<k->i<l.length->bz l i≠[]->pos z i=504-total (l.take (i+1))/\ext z i=(bz l i).length
 bytes:∀i,i<k->i<l.length->∀j,j<(bz l i).length->nth z (504-total (l.take (i+1))+j)=nth (bz l i) j
namespace iW
theorem start(h:aO x l):iW x l 0 x:=
 ⟨rfl,h.len,λ _ _ _=>⟨rfl,rfl⟩,λ _ a=>absurd a (jI _),λ _ a=>absurd a (jI _),λ _ a=>absurd a (jI _)⟩
theorem skip(p:iW x l k z)(h:aO x l)(m:k<l.length)(g:bz l k=[]):iW x l (k+1) z:=by
 refine⟨p.length,p.len,λ i f a=>p.later i Z a,λ i f a c=>?_,λ i f a c=>?_,λ i f a j d=>?_⟩
 ·by_cases b:i<k
  ·exact p.hole i b a c
  obtain rfl:i=k:=Z
  have:=p.later i (aH _) a;rw[this.1,this.2];exact h.hole i a g
 ·have b:i≠k:=λ e=>c (by rw[e];exact g);exact p.there i Z a c
 refine p.bytes i ?_ a j d;by_cases b:i=k
 ·subst b;rw[g]at d;simp at d
 omega
theorem step(p:iW x l k z)(h:aO x l)(A:k<l.length)(u:bz l k≠[]) :
  iW x l (k+1) (lay (wr z (504-total (l.take (k+1))) (bz l k)) k (504-total (l.take (k+1))) (bz l k).length):=by
 have hf:=h.few;have D:=h.size;have E:=h.sum;have B:=dD l k A;have H:=dG l (k+1);have G:0<(bz l k).length:=List.length_pos_iff.2 u;generalize t:504-total (l.take (k+1))=a;generalize n:bz l k=s at *;have g:a+s.length<=z.length:=by rw[p.length];omega
 have y:(wr z a s).length=x.length:=by rw[jF _ _ _ g,p.length]
 have d:4+4*k+3<(wr z a s).length:=Z
 have o:∀j,j≠k->j<l.length->pos (lay (wr z a s) k a s.length) j=pos z j:=λ j f v=>by
  rw[Gf _ _ _ _ _ d f];exact CJ _ _ _ g _ Z
 have r:∀j,j≠k->j<l.length->ext (lay (wr z a s) k a s.length) j=ext z j:=λ j f v=>by
  rw[Od _ _ _ _ _ d f];exact CJ _ _ _ g _ Z
 refine⟨by rw[df,y],?_,λ i q b=>?_,λ i q b m=>?_,λ i q b m=>?_,λ i q b j f=>?_⟩
 ·rw[IQ _ _ _ _ _ d Z,CJ _ _ _ g _ Z];exact p.len
 ·rw[o i Z b,r i Z b];exact p.later i Z b
 ·have c:i≠k:=λ e=>u (by rw[<-n,<-e];exact m);rw[o i c b,r i c b];exact p.hole i Z b m
 ·by_cases c:i=k
  ·subst c;rw[QP _ _ _ _ d Z,QQ _ _ _ _ d Z,n];exact⟨t.symm,rfl⟩
  rw[o i c b,r i c b];exact p.there i Z b m
 have C:=dG l (i+1);have F:=dD l i b;rw[QS _ _ _ _ _ d Z,ku _ _ _ g];by_cases c:i=k
 ·subst c;rw[t,be (by rw[n]at f;omega),sw,n]
 have I:total (l.take (i+1))+s.length<=total (l.take (k+1)):=by
  have w:l.take (i+1)=(l.take k).take (i+1):=by rw[lK,gV Z]
  have:=dG (l.take k) (i+1);rw[<-w]at this;omega
 rw[aE Z];exact p.bytes i Z b j f
theorem done(p:iW x l l.length z)(h:aO x l):aO (wr (put z 2 (504-total l)) (4+4*l.length) (List.replicate (504-total l-(4+4*l.length)) 0)) l/\low (wr (put z 2 (504-total l)) (4+4*l.length) (List.replicate (504-total l-(4+4*l.length)) 0))=504-total l:=by
 have hf:=h.few;have y:=h.size;have A:=h.sum;have o:2+1<z.length:=by rw[p.length];omega
 generalize G:504-total l-(4+4*l.length)=n;have f:4+4*l.length+(List.replicate n (0:UInt8)).length<=(put z 2 (504-total l)).length:=by rw[aI,p.length,iM];omega
 have I:(List.replicate n (0:UInt8)).length=n:=iM
 have g:low (wr (put z 2 (504-total l)) (4+4*l.length) (List.replicate n 0))=504-total l:=by
  show two _ _=_;rw[CJ _ _ _ f _ Z,dE _ _ _ o Z]
 have m:∀j,j<l.length->pos (wr (put z 2 (504-total l)) (4+4*l.length) (List.replicate n 0)) j=pos z j:=λ j d=>by
  show two _ _=_;rw[CJ _ _ _ f _ Z,aW _ _ _ _ o Z];rfl
 have s:∀j,j<l.length->ext (wr (put z 2 (504-total l)) (4+4*l.length) (List.replicate n 0)) j=ext z j:=λ j d=>by
  show two _ _=_;rw[CJ _ _ _ f _ Z,aW _ _ _ _ o Z];rfl
 have q:∀i,i<l.length->bz l i≠[]->pos z i+(bz l i).length<=504/\504-total l<=pos z i/\pos z i+total (l.take (i+1))=504:=λ i c e=>by
  have k:=(p.there i c c e).1;have D:=dD l i c;have t:=dG l (i+1);omega
 refine⟨⟨?_,?_,?_,?_,?_,?_,?_,?_,?_,A⟩,g⟩
 ·rw[jF _ _ _ f,aI,p.length];exact y
 ·rw[CJ _ _ _ f _ Z,aW _ _ _ _ o Z];exact p.len
 ·rw[g];omega
 ·rw[g];omega
 ·intro C;rw[g,C];simp[total]
 ·intro i c r;rw[m i c,s i c];exact p.hole i c c r
 ·intro i c e;have k:=q i c e;rw[g,m i c,s i c];exact⟨k.2.1,k.1,(p.there i c c e).2⟩
 ·intro i c j d;have e:bz l i≠[]:=by intro r;rw[r]at d;simp at d
  have k:=q i c e;rw[m i c,ku _ _ _ f,aE Z,fP _ _ _ _ o Z,(p.there i c c e).1];exact p.bytes i c c j d
 intro i j c d J v B;have k:=q i c v;have D:=q j d B;rw[m i c,m j d]
 have u:∀a b,a<b->b<l.length->total (l.take (a+1))+(bz l b).length<=total (l.take (b+1)):=λ a b H F=>by
  have w:l.take (a+1)=(l.take b).take (a+1):=by rw[lK,gV Z]
  have t:=dG (l.take b) (a+1);rw[<-w]at t;have:=dD l b F;omega
 rcases yu i j with E|K
 ·have:=u i j E d;omega
 have:=u j i Z c;omega
end iW
end Go.Proofs.YtgpmiliahonaoaaGreatDoor.SR
namespace Go.Proofs.YtgpmiliahonaoaaGreatDoor.SL
open Go.RowKit
open UK (str aF nth Only)
open Go.BigFrame
variable{k:IntKind}{x:List UInt8}{l:List (List UInt8)}{i:Nat}
theorem E2(p q:UInt8):bits .or U (p.toNat:Int) ((q.toNat:Int)*256)=((p.toNat+256*q.toNat:Nat):Int):=by
 have a:=p.toNat_lt;have b:=q.toNat_lt;show IntKind.i64.wrap ((BitVec.ofInt 64 (p.toNat:Int) ||| BitVec.ofInt 64 ((q.toNat:Int)*256)).toNat:Int)=_;rw[show((q.toNat:Int)*256)=((q.toNat*256:Nat):Int) from Z,BitVec.ofInt_natCast,BitVec.ofInt_natCast,BitVec.toNat_or,BitVec.toNat_ofNat,BitVec.toNat_ofNat,yT Z,yT Z,dM,Nat.or_comm,nat_join 8 _ _ Z Z];omega
def b8(n:Nat):UInt8:=UInt8.ofNat n
theorem oQ{a b:Int}(h:a=b):Ending.returned (V k a)=aw (V k b):=by rw[h]
theorem ef(p:UInt8):wrap64 (p.toNat:Int)=(p.toNat:Int):=by
 have a:=p.toNat_lt;unfold wrap64;omega
theorem mN(p q:UInt8):bits .or U (wrap64 (p.toNat:Int)) (wrap64 (wrap64 (q.toNat:Int)*256))=((p.toNat+256*q.toNat:Nat):Int):=by
 have a:=q.toNat_lt;have e:wrap64 ((q.toNat:Int)*256)=(q.toNat:Int)*256:=by unfold wrap64;omega
 rw[ef,ef,e,E2]
theorem QM(B:Nat)(x:List UInt8)(c:Nat)(a:Int)(W:World)(h:aF W B x)(f:504<=Y x)(b:0<=a)(j:a+1<504) :
  Calls prog 260 #[ad B 504 c,V U a] W λ e d=>e=aw (V U (SR.two x a.toNat:Nat))/\∃k,d=W.drewN k:=by
 obtain⟨a,rfl⟩:=Int.eq_ofNat_of_zero_le b;rw[Int.toNat_natCast];have o:=h.cell (i:=a) Z;have l:=h.cell (i:=a+1) Z;have g:(a:Int)<504:=Z
 have m:(a:Int)+1<504:=Z
 have p:IntKind.i64.wrap ((a:Int)+1)=(a:Int)+1:=IntWalk.i64_in _ Z;have i:(0:Int)<=(a:Int)+1:=Z
 have n:((a:Int)+1).toNat=a+1:=Z
 go_enter func260,ntmps260
 go_wp2
 go_quiet (fail)
 go_wp2;go_ret
 exact⟨oQ (mN _ _),_,rfl⟩
theorem eO(B:Nat)(x:List UInt8)(c:Nat)(a m:Int)(W:World)(h:aF W B x)(j:504<=Y x)(f:0<=a)(k:a+1<504)(d:0<=m)(q:m<65536) :
  Calls prog 224 #[ad B 504 c,V U a,V U m] W λ e b=>e=aw (a9 #[])/\aF b B (SR.put x a.toNat m.toNat)/\Only B W b:=by
 obtain⟨a,rfl⟩:=Int.eq_ofNat_of_zero_le f;obtain⟨m,rfl⟩:=Int.eq_ofNat_of_zero_le d;rw[Int.toNat_natCast,Int.toNat_natCast];have s:=h.cell (i:=a) Z;have l:=h.cell (i:=a+1) Z;have n:=h.free (i:=a) Z;have t:=h.free (i:=a+1) Z;have p:(a:Int)<504:=Z
 have r:(a:Int)+1<504:=Z
 have u:((m:Int)%256)=((b8 m).toNat:Int):=by simp[b8]
 have o:((m:Int)/256)=((b8 (m/256)).toNat:Int):=by simp[b8];omega
 have i:=zH ((h.set a (b8 m)).set (a+1) (b8 (m/256)));have g:=zH (((Only.refl B W).set a (V .u8 ((b8 m).toNat:Int))).set (a+1) (V .u8 ((b8 (m/256)).toNat:Int)))
 go_enter func224,ntmps224
 go_wp2
 go_end0
 exact⟨rfl,i.out,g.out⟩
theorem fx(B:Nat)(x:List UInt8)(c:Nat)(W:World)(h:aF W B x)(b:504<=Y x) :
  Calls prog 222 #[ad B 504 c] W λ e a=>e=aw (V U (SR.two x 0:Nat))/\∃k,a=W.drewN k:=by
 go_enter func222,ntmps222
 go_wp2_with fail
 refine(QM B x c _ W h b Z Z).mono ?_;rintro e a ⟨rfl,k,rfl⟩;go_wp2;go_ret;exact⟨rfl,_,rfl⟩
theorem CF(B:Nat)(x:List UInt8)(c:Nat)(W:World)(h:aF W B x)(b:504<=Y x) :
  Calls prog 231 #[ad B 504 c] W λ e a=>e=aw (V U (SR.low x:Nat))/\∃k,a=W.drewN k:=by
 go_enter func231,ntmps231
 go_wp2_with fail
 refine(QM B x c _ W h b Z Z).mono ?_;rintro e a ⟨rfl,k,rfl⟩;go_wp2;go_ret;exact⟨rfl,_,rfl⟩
theorem Vd(B:Nat)(x:List UInt8)(c:Nat)(i:Int)(W:World)(h:aF W B x)(b:504<=Y x)(f:0<=i)(j:4+4*i+3<504) :
  Calls prog 223 #[ad B 504 c,V U i] W λ e a=>e=aw (a9 #[V U (SR.pos x i.toNat:Nat),V U (SR.ext x i.toNat:Nat)])/\∃k,a=W.drewN k:=by
 obtain⟨i,rfl⟩:=Int.eq_ofNat_of_zero_le f;rw[Int.toNat_natCast]
 go_enter func223,ntmps223
 go_wp2_with fail
 refine(QM B x c _ W h b Z Z).mono ?_;rintro e a ⟨rfl,d,rfl⟩
 go_wp2_with fail
 refine(QM B x c _ _ (h.drewN d) b Z Z).mono ?_;rintro e a ⟨rfl,g,rfl⟩;rw[show(4+4*(i:Int)).toNat=4+4*i from Z,show(4+4*(i:Int)+2).toNat=4+4*i+2 from Z];go_wp2;go_ret2;exact⟨rfl,_,rfl⟩
theorem iG(B:Nat)(x:List UInt8)(c:Nat)(i a n:Int)(W:World)(h:aF W B x)(b:504<=Y x)(r:0<=i)(s:4+4*i+3<504)(o:0<=a)(k:a<65536)(q:0<=n)(p:n<65536) :
  Calls prog 221 #[ad B 504 c,V U i,V U a,V U n] W λ e d=>e=aw (a9 #[])/\aF d B (SR.lay x i.toNat a.toNat n.toNat)/\Only B W d:=by
 obtain⟨i,rfl⟩:=Int.eq_ofNat_of_zero_le r;rw[Int.toNat_natCast]
 go_enter func221,ntmps221
 go_wp2_with fail
 refine(eO B x c _ _ W h b Z Z o k).mono ?_;rintro e m ⟨rfl,l,g⟩
 go_wp2_with fail
 refine(eO B _ c _ _ m l (by rw[SR.aI];exact b) Z Z q p).mono ?_;rintro e t ⟨rfl,f,j⟩;rw[show(4+4*(i:Int)).toNat=4+4*i from Z,show(4+4*(i:Int)+2).toNat=4+4*i+2 from Z]at f;go_wp2
 go_end0
 exact⟨rfl,f,g.trans j⟩
open SR (aO bz total)
def live:List (List UInt8)->Nat
 | []=>0
 | s::l=>(if s=[] then 0 else 1)+live l
theorem oC(l m:List (List UInt8)):live (l++m)=live l+live m:=by
 induction l with
 | nil=>simp[live]
 | cons s l a=>simp[live,a];omega
theorem By(l:List (List UInt8))(k:Nat)(h:k<Y l):live (l.take (k+1))=live (l.take k)+if bz l k=[] then 0 else 1:=by
 rw[List.take_succ_eq_append_getElem h,oC];simp[live,bz,h]
theorem GM(l:List (List UInt8)):live l<=Y l:=by
 induction l with
 | nil=>simp[live]
 | cons s l a=>simp only[live,dF];split<;>omega
def hole:List (List UInt8)->Nat
 | []=>0
 | s::l=>if s=[] then 0 else hole l+1
theorem oZ(l:List (List UInt8)):hole l<=Y l:=by
 induction l with
 | nil=>simp[hole]
 | cons s l a=>simp only[hole,dF];split<;>omega
theorem eS(l:List (List UInt8))(k:Nat)(a:k<=Y l)(h:∀j,j<k->bz l j≠[])(b:k<Y l->bz l k=[]):hole l=k:=by
 induction l generalizing k with
 | nil=>simp at a;subst a;rfl
 | cons s l c=>
  cases k with
  | zero=>
   have:s=[]:=b (by simp);simp[hole,this]
  | succ k=>
   have e:s≠[]:=h 0 Z;simp only[hole,aE e];rw[c k (by simpa using a) (λ j f=>h (j+1) Z) (λ d=>b (by simpa using d))]
theorem rO(l:List (List UInt8)):(∀j,j<hole l->bz l j≠[])/\(hole l<Y l->bz l (hole l)=[]):=by
 induction l with
 | nil=>simp[hole]
 | cons s l b=>
  by_cases a:s=[]
  ·simp[hole,a,bz]
  simp only[hole,aE a,dF];refine⟨λ j c=>?_,λ h=>b.2 Z⟩
  cases j with
  | zero=>exact a
  | succ j=>exact b.1 j Z
def room(l:List (List UInt8)):Int:=500-4*Y l-total l-(if hole l=Y l then 4 else 0)
theorem Kz(B:Nat)(x:List UInt8)(l:List (List UInt8))(c i:Nat)(W:World)(h:aF W B x)(r:aO x l)(a:i<Y l)(b:bz l i=[]) :
  Calls prog 223 #[ad B 504 c,V U i] W λ e d=>e=aw (a9 #[V U 0,V U 0])/\∃k,d=W.drewN k:=by
 have hf:=r.few;have:=Vd B x c i W h r.size Z Z;rw[Int.toNat_natCast,(r.hole i a b).1,(r.hole i a b).2]at this;exact this
theorem Ex(B:Nat)(x:List UInt8)(l:List (List UInt8))(c i:Nat)(W:World)(h:aF W B x)(r:aO x l)(b:i<Y l) :
  Calls prog 223 #[ad B 504 c,V U i] W λ e a=>e=aw (a9 #[V U (SR.pos x i:Nat),V U ((bz l i).length:Nat)])/\∃k,a=W.drewN k:=by
 have hf:=r.few;have:=Vd B x c i W h r.size Z Z;rw[Int.toNat_natCast,r.Bt b]at this;exact this
theorem qI(B:Nat)(x:List UInt8)(l:List (List UInt8))(c:Nat)(W:World)(h:aF W B x)(r:aO x l) :
  Calls prog 222 #[ad B 504 c] W λ e a=>e=aw (V U (Y l))/\∃k,a=W.drewN k:=by
 have:=fx B x c W h r.size
 rwa [r.len]at this
theorem Bd(B:Nat)(x:List UInt8)(l:List (List UInt8))(c:Nat)(W:World)(h:aF W B x)(r:aO x l) :
  Calls prog 172 #[ad B 504 c] W λ e b=>e=aw (V U (live l:Nat))/\Below W W b:=by
 have hf:=r.few
 go_enter func172,ntmps172
 go_wp2_with fail
 refine(qI B x l c W h r).mono ?_;rintro e b ⟨rfl,t,rfl⟩
 go_wp2_with fail
 go_loopw [3,9] (λ n i wr=>∃k:Nat,k<=Y l/\i=V U k/\n=V U (live (l.take k):Nat)/\Below W W wr) (λ _ i _=>Y l-(intOf i).toNat)
 case atStart=>exact⟨0,aR _,rfl,rfl,UK.dN (aU _ _) _⟩
 obtain⟨k,q,rfl,rfl,f⟩:=hrel;have g:=h.below f h.lt;by_cases d:k<Y l
 ·have o:=GM (l.take k);rw[zt]at o;have HT:=zH (By l k d);by_cases a:bz l k=[]
  ·have HT2:Hid (live (l.take (k+1))=live (l.take k)):=by show _=_;rw[HT.out,be a];rfl
   go_wp2_with fail
   refine(Kz B x l c k _ g r d a).mono ?_;rintro e b ⟨rfl,m,rfl⟩;clear a;go_wp2;go_roundw
   case rel=>exact⟨k+1,Z,by go_num,by rw[HT2.out],UK.dN f _⟩
   case measure=>simp[intOf];omega
  have HT2:Hid (live (l.take (k+1))=live (l.take k)+1):=by show _=_;rw[HT.out,aE a]
  have j:=(r.there k d a).1;have p:=r.nV;have s:0<SR.pos x k:=Z
  clear j
  go_wp2_with fail
  refine(Ex B x l c k _ g r d).mono ?_;rintro e b ⟨rfl,m,rfl⟩;clear a;go_wp2;go_roundw
  case rel=>exact⟨k+1,Z,by go_num,by rw[HT2.out];go_num,UK.dN f _⟩
  case measure=>simp[intOf];omega
 go_wp2;go_ret
 exact⟨by rw[fQ Z]<;>rfl,f⟩
theorem Vg(B:Nat)(x:List UInt8)(l:List (List UInt8))(c:Nat)(W:World)(h:aF W B x)(r:aO x l) :
  Calls prog 234 #[ad B 504 c] W λ e b=>e=aw (V U (total l:Nat))/\Below W W b:=by
 have hf:=r.few;have o:=r.sum
 go_enter func234,ntmps234
 go_wp2_with fail
 refine(qI B x l c W h r).mono ?_;rintro e b ⟨rfl,v,rfl⟩
 go_wp2_with fail
 go_loopw [3,9] (λ n i wr=>∃k:Nat,k<=Y l/\i=V U k/\n=V U (total (l.take k):Nat)/\Below W W wr) (λ _ i _=>Y l-(intOf i).toNat)
 case atStart=>exact⟨0,aR _,rfl,rfl,UK.dN (aU _ _) _⟩
 obtain⟨k,q,rfl,rfl,f⟩:=hrel;have g:=h.below f h.lt;by_cases d:k<Y l
 ·have s:=SR.dG l k;have u:=SR.jC l k;have HT:=zH (SR.dD l k d);by_cases a:bz l k=[]
  ·have HT2:Hid (total (l.take (k+1))=total (l.take k)):=by show _=_;rw[HT.out,a];rfl
   go_wp2_with fail
   refine(Kz B x l c k _ g r d a).mono ?_;rintro e b ⟨rfl,m,rfl⟩;clear a;go_wp2;go_roundw
   case rel=>exact⟨k+1,Z,by go_num,by rw[HT2.out],UK.dN f _⟩
   case measure=>simp[intOf];omega
  have j:=(r.there k d a).1;have p:=r.nV;have t:0<SR.pos x k:=Z
  clear j
  go_wp2_with fail
  refine(Ex B x l c k _ g r d).mono ?_;rintro e b ⟨rfl,m,rfl⟩;clear a;go_wp2;go_roundw
  case rel=>exact⟨k+1,Z,by go_num,by rw[HT.out];go_num,UK.dN f _⟩
  case measure=>simp[intOf];omega
 go_wp2;go_ret
 exact⟨by rw[fQ Z]<;>rfl,f⟩
theorem gP(B:Nat)(x:List UInt8)(l:List (List UInt8))(c:Nat)(W:World)(h:aF W B x)(r:aO x l) :
  Calls prog 230 #[ad B 504 c] W λ e b=>e=aw (V U (hole l:Nat))/\Below W W b:=by
 have hf:=r.few
 go_enter func230,ntmps230
 go_wp2_with fail
 refine(qI B x l c W h r).mono ?_;rintro e b ⟨rfl,A,rfl⟩
 go_wp2_with fail
 go_loopw [8] (λ i wr=>∃k:Nat,k<=Y l/\i=V U k/\Hid (∀j,j<k->bz l j≠[])/\Below W W wr) (λ i _=>Y l-(intOf i).toNat)
 case atStart=>exact⟨0,aR _,rfl,λ j s=>absurd s (jI _),UK.dN (aU _ _) _⟩
 obtain⟨k,q,rfl,g,f⟩:=hrel;have m:=h.below f h.lt;by_cases d:k<Y l
 ·by_cases a:bz l k=[]
  ·have n:=zH (eS l k q g.out (λ _=>a))
   go_wp2_with fail
   refine(Kz B x l c k _ m r d a).mono ?_;rintro e b ⟨rfl,p,rfl⟩;clear a;go_wp2;go_ret;exact⟨by rw[n.out]<;>rfl,UK.dN f _⟩
  have HJ2:Hid (∀j,j<k+1->bz l j≠[]):=λ j s=>by
   by_cases u:j=k
   ·rw[u];exact a
   exact g.out j Z
  have t:=(r.there k d a).1;have w:=r.nV;have z:0<SR.pos x k:=Z
  have y:((SR.pos x k:Int)==0)=false:=by rw[beq_eq_false_iff_ne];omega
  clear t
  go_wp2_with fail
  refine(Ex B x l c k _ m r d).mono ?_;rintro e b ⟨rfl,p,rfl⟩;clear a;go_wp2;go_roundw
  case rel=>exact⟨k+1,Z,by go_num,HJ2,UK.dN f _⟩
  case measure=>simp[intOf];omega
 have n:=zH (eS l k q g.out (λ h=>absurd h d));have o:k=Y l:=Z
 have v:=zH o;clear o
 go_wp2_with fail
 refine(qI B x l c _ m r).mono ?_;rintro e b ⟨rfl,p,rfl⟩;go_wp2;go_ret;exact⟨by rw[n.out,v.out]<;>rfl,UK.dN f _⟩
theorem fZ(B:Nat)(x:List UInt8)(l:List (List UInt8))(c:Nat)(W:World)(h:aF W B x)(r:aO x l) :
  Calls prog 229 #[ad B 504 c] W λ e b=>e=aw (V U (room l))/\Below W W b:=by
 have hf:=r.few;have q:=r.sum
 go_enter func229,ntmps229
 go_wp2_with fail
 refine(qI B x l c W h r).mono ?_;rintro e b ⟨rfl,f,rfl⟩;have b1:Below W W (W.drewN f):=UK.dN (aU _ _) f;generalize W.drewN f=i at b1 ⊢;have k:=h.below b1 h.lt
 go_wp2_with fail
 refine(Vg B x l c i k r).mono ?_;rintro e p ⟨rfl,n⟩;have b12:=b1.trans (n.mono b1.size);have o:=h.below b12 h.lt
 go_wp2_with fail
 refine(gP B x l c p o r).mono ?_;rintro e m ⟨rfl,g⟩;have b13:=b12.trans (g.mono b12.size);have j:=h.below b13 h.lt
 go_wp2_with fail
 refine(qI B x l c m j r).mono ?_;rintro e b ⟨rfl,s,rfl⟩;by_cases a:hole l=Y l
 ·have d:Hid (room l=500-4*Y l-total l-4):=by show _=_;unfold room;rw[be a]
  rw[a];clear a;go_wp2;go_ret;exact⟨by rw[d.out]<;>rfl,UK.dN b13 _⟩
 have d:Hid (room l=500-4*Y l-total l):=by show _=_;unfold room;rw[aE a];omega
 have t:((hole l:Int)==(Y l:Int))=false:=by rw[beq_eq_false_iff_ne];omega
 clear a;go_wp2;go_ret;exact⟨by rw[d.out]<;>rfl,UK.dN b13 _⟩
def hasB(l:List (List UInt8))(i:Int):Bool:=decide (0<=i/\i<Y l/\bz l i.toNat≠[])
theorem ng(B:Nat)(x:List UInt8)(l:List (List UInt8))(c:Nat)(i:Int)(W:World)(h:aF W B x)(r:aO x l) :
  Calls prog 220 #[ad B 504 c,V U i] W λ e d=>e=aw (a6 (hasB l i))/\Below W W d:=by
 have hf:=r.few;by_cases o:i<0
 ·have a:Hid (hasB l i=false):=by show _=_;unfold hasB;simp;omega
  go_enter func220,ntmps220
  go_wp2;go_ret
  exact⟨by rw[a.out]<;>rfl,aU _ _⟩
 obtain⟨i,rfl⟩:=Int.eq_ofNat_of_zero_le (by omega:0<=i);by_cases f:i<Y l
 ·by_cases b:bz l i=[]
  ·have a:Hid (hasB l i=false):=by show _=_;unfold hasB;simp[b]
   go_enter func220,ntmps220
   go_wp2_with fail
   refine(qI B x l c W h r).mono ?_;rintro e d ⟨rfl,g,rfl⟩
   go_wp2_with fail
   refine(Kz B x l c i _ (h.drewN g) r f b).mono ?_;rintro e d ⟨rfl,k,rfl⟩;clear b;go_wp2;go_ret;exact⟨by rw[a.out]<;>rfl,UK.dN (aU _ _) _⟩
  have a:Hid (hasB l i=true):=by show _=_;unfold hasB;simp[b,f]
  have j:=(r.there i f b).1;have m:=r.nV;have n:0<SR.pos x i:=Z
  clear j
  go_enter func220,ntmps220
  go_wp2_with fail
  refine(qI B x l c W h r).mono ?_;rintro e d ⟨rfl,g,rfl⟩
  go_wp2_with fail
  refine(Ex B x l c i _ (h.drewN g) r f).mono ?_;rintro e d ⟨rfl,k,rfl⟩;clear b;go_wp2;go_ret;exact⟨by rw[a.out]<;>rfl,UK.dN (aU _ _) _⟩
 have a:Hid (hasB l i=false):=by show _=_;unfold hasB;simp;omega
 go_enter func220,ntmps220
 go_wp2_with fail
 refine(qI B x l c W h r).mono ?_;rintro e d ⟨rfl,g,rfl⟩;go_wp2;go_ret;exact⟨by rw[a.out]<;>rfl,UK.dN (aU _ _) _⟩
theorem I4(B:Nat)(x:List UInt8)(l:List (List UInt8))(c:Nat)(i:Int)(W:World)(h:aF W B x)(r:aO x l)(b:hasB l i=false) :
  Calls prog 211 #[ad B 504 c,V U i] W λ e d=>e=aw (a9 #[a8 (str []),a6 false])/\Below W W d:=by
 have a:=λ W h=>ng B x l c i W h r;rw[b]at a;have g:=zH a;clear a b
 go_enter func211,ntmps211
 go_wp2_with fail
 refine(g.out W h).mono ?_;rintro e d ⟨rfl,f⟩;go_wp2;go_ret2;exact⟨rfl,f⟩
theorem ft(r:aO x l)(c:i<Y l)(d:bz l i≠[]):(x.drop (SR.pos x i)).take (bz l i).length=bz l i:=by
 have f:=r.size;have e:=r.there i c d;apply List.ext_getElem?;intro k;rw[List.getElem?_take];by_cases a:k<(bz l i).length
 ·rw[be a,eP];have b:=r.bytes i c k a;unfold nth List.getD at b;rw[bK (by omega:SR.pos x i+k<Y x),bK a]at b;rw[bK (by omega:SR.pos x i+k<Y x),bK a]
  simpa using b
 rw[aE a,ja Z]
theorem Ep(B:Nat)(x:List UInt8)(l:List (List UInt8))(c:Nat)(A:504<=c)(i:Nat)(W:World)(h:aF W B x)(r:aO x l)(b:i<Y l)(a:bz l i≠[]) :
  Calls prog 211 #[ad B 504 c,V U i] W λ e m=>e=aw (a9 #[a8 (str (bz l i)),a6 true])/\Below W W m:=by
 have v:=r.size;have d:=λ W h=>ng B x l c i W h r;have f:hasB l i=true:=by unfold hasB;simp[b,a]
 rw[f]at d;have q:=zH d;clear d f;have g:=r.there i b a;have k:=ft r b a;have t:=zH k;clear k;have C:SR.pos x i+(bz l i).length<=c:=Z
 have w:SR.pos x i+(bz l i).length<=504:=g.2.1;have D:0<(bz l i).length:=List.length_pos_iff.2 a;have y:¬c=SR.pos x i:=Z
 have p:SR.pos x i+(bz l i).length<=Y x:=Z
 have z:=zH a;clear g a
 go_enter func211,ntmps211
 go_wp2_with fail
 refine(q.out W h).mono ?_;rintro e u ⟨rfl,n⟩;have j:=h.below n h.lt
 go_wp2_with fail
 refine(Ex B x l c i _ j r b).mono ?_;rintro e m ⟨rfl,s,rfl⟩;have o:=UK.vB (P:=prog) (src:=94) (dst:=9) underlying94 underlying5 underlying9 (j.drewN s) (SR.pos x i) (bz l i).length (c-SR.pos x i) p;rw[t.out]at o;go_wp2;go_ret2;exact⟨rfl,UK.dN n _⟩
theorem du(B:Nat)(x:List UInt8)(l:List (List UInt8))(c:Nat)(hc:504<=c)(W:World)(h:aF W B x)(r:aO x l)(kR:4+4*l.length<504) :
  Calls prog 232 #[ad B 504 c] W λ e j=>e=aw (a9 #[])/\(∃t,aF j B t/\aO t l/\SR.low t=504-total l/\t.length=x.length)/\Only B W j:=by
 have hb:=r.size;have P:=UK.vB (P:=prog) (src:=94) (dst:=9) underlying94 underlying5 underlying9 h 0 504 c Z;rw[List.drop_zero]at P
 go_enter func232,ntmps232
 go_wp2_with fail
 refine(qI B x l c W h r).mono ?_;rintro e j ⟨rfl,k0,rfl⟩
 go_wp2_with fail
 obtain⟨y,J⟩:∃y,Hid (x.take 504=y):=⟨_,rfl⟩;have S:y.length=504:=by rw[<-J.out,zt];omega
 rw[J.out];have h5:=zH S;clear S P
 go_loopw [3,11] (λ n i wr=>∃(k e:Nat) (z:List UInt8),k<=l.length/\e<=504/\i=V U k/\n=V U e/\Hid (e+total (l.take k)=504)/\SR.iW x l k z/\aF wr B z/\Only B W wr) (λ _ i _=>l.length-(intOf i).toNat)
 case atStart=>exact⟨0,504,x,aR _,Z,rfl,rfl,rfl,SR.iW.start r,h.drewN _,(Only.refl _ _).drewN _⟩
 obtain⟨k,a,z,hk,hl,rfl,rfl,o,f,q,D⟩:=hrel;have R:504<=z.length:=by rw[f.length];exact hb
 have hf:=r.few;by_cases d:k<l.length
 ·have N:=Vd B z c k wr q R Z Z;rw[Int.toNat_natCast,(f.later k (aH _) d).1,(f.later k (aH _) d).2,r.Bt d]at N;have CB:=zH N;clear N;have F:=SR.dD l k d;have h8:=SR.dG l (k+1);have I:=r.sum;by_cases b:bz l k=[]
  ·have E:=(r.hole k d b).1;have Ve:=zH (E▸b▸CB.out);have A:=zH (f.skip r d b);have HT:Hid (a+total (l.take (k+1))=504):=by show _=_;rw[F,b];exact o.out
   clear b E F
   go_wp2_with fail
   refine Ve.out.mono ?_;rintro e j ⟨rfl,v,rfl⟩;go_wp2;go_roundw
   case rel=>exact⟨k+1,a,z,Z,Z,by go_num,rfl,HT.out,A.out,q.drewN _,D.drewN _⟩
   case measure=>simp[intOf];omega
  have Q:=r.there k d b;have hm:=r.nV;have E:0<SR.pos x k:=Z
  have h7:SR.pos x k+(bz l k).length<=504:=Q.2.1;have hr:((SR.pos x k:Int)==0)=false:=by rw[beq_eq_false_iff_ne];omega
  have hq:0<(bz l k).length:=List.length_pos_iff.2 b;have ht:(bz l k).length<=a:=by have:=o.out;omega
  have HT:Hid (a-(bz l k).length+total (l.take (k+1))=504):=by show _=_;have:=o.out;omega
  have T:504-total (l.take (k+1))=a-(bz l k).length:=by have:=HT.out;omega
  have O:=f.step r d b;rw[T]at O;have A:=zH O
  have hp:List.drop (SR.pos x k) (List.take (SR.pos x k+(bz l k).length) y)=bz l k:=by
   rw[<-J.out,lK,gV h7,List.drop_take,sw];exact ft r d b
  have NY:4+4*l.length<=a-(bz l k).length:=by have:=o.out;omega
  generalize hs:bz l k=s at *;generalize Va:SR.pos x k=p at *;have hg:=λ n=>UK.Fh (P:=prog) (dT:=94) (sT:=9) (ty:=3) underlying94 (λ he=>by kernel_rfl) (q.drewN n) (a-s.length) (504-(a-s.length)) (c-(a-s.length)) s Z Z;have h1:=λ n=>(q.drewN n).setCells s (a-s.length) Z;have h2:=λ n=>(D.drewN n).setCells (UK.cellsOf s) (o:=a-s.length);have HB2:=zH h1;have wI:=zH h2;have hn:=UK.jF z (a-s.length) s Z;have ha:(a:Int)-s.length<=504:=Z
  have Y:(0:Int)<=(a:Int)-s.length:=Z
  have hh:¬c=a-s.length:=Z
  have ho:(p:Int)+s.length<=y.length:=by have:=h5.out;omega
  have hu:p+s.length<=y.length:=Z
  clear h1 h2 O F h8 I b Q hs Va T
  go_wp2_with fail
  refine CB.out.mono ?_;rintro e j ⟨rfl,v,rfl⟩
  go_wp2_with fail
  go_region
  have g:=HB2.out (v+1);have w:=wI.out (v+1);generalize (wr.drewN (v+1)).setCells B (a-s.length) (UK.cellsOf s)=M at g w ⊢;have h3:((a:Int)-s.length).toNat=a-s.length:=Z
  have Dy:=zH h3;clear h3 hg
  go_wp2_with fail
  refine(iG B _ c k _ _ M g Z Z Z Y Z Z Z).mono ?_;rintro e w4 ⟨rfl,m,u⟩;rw[Dy.out,Int.toNat_natCast,Int.toNat_natCast]at m;go_wp2;go_roundw
  case rel=>exact⟨k+1,a-s.length,_,Z,Z,by go_num,by rw[show((a-s.length:Nat):Int)=(a:Int)-s.length from Z],HT.out,A.out,m,w.trans u⟩
  case measure=>simp[intOf];omega
 have C:k=l.length:=Z
 have K:a=504-total l:=by have:=o.out;rw[C,fQ (aH _)]at this;omega
 have G:=(C▸f:SR.iW x l l.length z).done r;rw[<-K]at G;have HD:=zH G;have h9:=zH K;have I:=r.sum;have NY:4+4*l.length<=a:=Z
 have X:SR.two z 0=l.length:=f.len;have h6:=zH X;have h0:z.length=x.length:=f.length;have hi:=zH h0;clear C K G X h0 I
 go_wp2_with fail
 refine(eO B z c _ _ wr q R Z Z Z Z).mono ?_;rintro e M ⟨rfl,g,w⟩;rw[Int.toNat_natCast,show(2:Int).toNat=2 from rfl]at g;have H:=fx B _ c M g (by rw[SR.aI];omega);rw[SR.aW _ _ _ _ Z Z,h6.out]at H
 go_wp2_with fail
 refine H.mono ?_;rintro e j ⟨rfl,L,rfl⟩;have hj:=UK.Pp (P:=prog) (t:=94) (ty:=0) underlying94 (λ he=>by kernel_rfl) (g.drewN L) (4+4*l.length) (a-(4+4*l.length)) (c-(4+4*l.length)) (by rw[SR.aI];omega);have m:=(g.drewN L).setCells (UK.bM (a-(4+4*l.length))) (4+4*l.length) (by rw[SR.aI,UK.kr];omega);have u:=((D.trans w).drewN L).setCells (UK.cellsOf (UK.bM (a-(4+4*l.length)))) (o:=4+4*l.length);have B4:=zH m;have O4:=zH u
 have h4:(UK.wr (SR.put z 2 a) (4+4*l.length) (UK.bM (a-(4+4*l.length)))).length=x.length:=by
  rw[UK.jF _ _ _ (by rw[SR.aI,UK.kr];omega),SR.aI,hi.out]
 have J9:=zH h4;clear m u H h4;have ha:(4:Int)+4*l.length<=a:=Z
 have Y:¬c=4+4*l.length:=Z
 have hh:(a:Int)<=c:=Z
 go_wp2
 go_end0
 exact⟨rfl,⟨_,B4.out,HD.out.1,HD.out.2.trans h9.out,J9.out⟩,O4.out⟩
theorem cZ(B:Nat)(x:List UInt8)(l:List (List UInt8))(c:Nat)(hc:504<=c)(i:Nat)(s:List UInt8)(W:World)(h:aF W B x)(r:aO x l)(O:i<Y l)(Q:bz l i=[])(M:s≠[])(h2:4+4*Y l+total l+Y s<=504) :
  Calls prog 233 #[ad B 504 c,V U i,a8 (str s)] W λ e b=>e=aw (a9 #[])/\(∃E,aF b B E/\aO E (l.set i s)/\Y E=Y x)/\Only B W b:=by
 have hf:=r.few;have h4:=r.qc;have h3:0<Y s:=List.length_pos_iff.2 M;have N:=zH M;have P:=zH Q;clear M Q;by_cases S:4+4*Y l+Y s<=SR.low x
 ·obtain⟨a,f,K,A,R⟩:∃a,aO a l/\4+4*Y l+Y s<=SR.low a/\Y a=Y x/\∀n,aF (W.drewN n) B a:=⟨x,r,S,rfl,λ n=>h.drewN n⟩;have HB1:=zH R;clear R
  go_enter func233,ntmps233
  go_wp2_with fail
  refine(CF B x c W h r.size).mono ?_;rintro e b ⟨rfl,d,rfl⟩
  go_wp2_with fail
  refine(qI B x l c _ (h.drewN d) r).mono ?_;rintro e b ⟨rfl,k,rfl⟩
  go_wp2_with fail
  have b1:=HB1.out (d+k);have y:=(Only.refl B W).drewN (d+k);generalize W.drewN (d+k)=j at b1 y ⊢;have X:=f.qc;have C:=f.size;have v:=f.store O P.out s N.out K Z;have J:=zH v;have I:=λ n=>UK.Fh (P:=prog) (dT:=94) (sT:=9) (ty:=3) underlying94 (λ w=>by kernel_rfl) (b1.drewN n) (SR.low a-Y s) (504-(SR.low a-Y s)) (c-(SR.low a-Y s)) s Z Z;have HB2:=zH (λ n=>(b1.drewN n).setCells s (SR.low a-Y s) Z);have F:=zH (λ n=>(y.drewN n).setCells (UK.cellsOf s) (o:=SR.low a-Y s));have h1:(SR.low a:Int)-Y s<=504:=Z
  have t:(0:Int)<=(SR.low a:Int)-Y s:=Z
  have h0:¬c=SR.low a-Y s:=Z
  have D:(UK.wr a (SR.low a-Y s) s).length=Y a:=UK.jF _ _ _ Z;have u:Hid (((SR.low a:Int)-Y s).toNat=SR.low a-Y s):=by show _=_;omega
  clear v;refine(CF B a c j b1 C).mono ?_;rintro e b ⟨rfl,g,rfl⟩
  go_wp2_with fail
  have m:=HB2.out g;have o:=F.out g;generalize (j.drewN g).setCells B (SR.low a-Y s) (UK.cellsOf s)=L at m o ⊢;clear I;refine(iG B _ c i _ _ L m Z Z Z t Z Z Z).mono ?_;rintro e H ⟨rfl,p,G⟩;rw[u.out,Int.toNat_natCast,Int.toNat_natCast]at p
  go_wp2_with fail
  refine(eO B _ c _ _ H p (by rw[SR.df];omega) Z Z t Z).mono ?_;rintro e w5 ⟨rfl,q,z⟩;rw[u.out,show(2:Int).toNat=2 from rfl]at q;go_wp2
  go_end0
  exact⟨rfl,⟨_,q,J.out,by rw[SR.aI,SR.df,D];exact A⟩,(o.trans G).trans z⟩
 go_enter func233,ntmps233
 go_wp2_with fail
 refine(CF B x c W h r.size).mono ?_;rintro e b ⟨rfl,d,rfl⟩
 go_wp2_with fail
 refine(qI B x l c _ (h.drewN d) r).mono ?_;rintro e b ⟨rfl,k,rfl⟩
 go_wp2_with fail
 refine(du B x l c hc _ (h.drewN (d+k)) r Z).mono ?_;rintro e j ⟨rfl,⟨a,b1,f,T,A⟩,o0⟩;have K:4+4*Y l+Y s<=SR.low a:=Z
 have y:Only B W j:=((Only.refl B W).drewN (d+k)).trans o0;clear T
 go_wp2_with fail
 have X:=f.qc;have C:=f.size;have v:=f.store O P.out s N.out K Z;have J:=zH v;have I:=λ n=>UK.Fh (P:=prog) (dT:=94) (sT:=9) (ty:=3) underlying94 (λ w=>by kernel_rfl) (b1.drewN n) (SR.low a-Y s) (504-(SR.low a-Y s)) (c-(SR.low a-Y s)) s Z Z;have HB2:=zH (λ n=>(b1.drewN n).setCells s (SR.low a-Y s) Z);have F:=zH (λ n=>(y.drewN n).setCells (UK.cellsOf s) (o:=SR.low a-Y s));have h1:(SR.low a:Int)-Y s<=504:=Z
 have t:(0:Int)<=(SR.low a:Int)-Y s:=Z
 have h0:¬c=SR.low a-Y s:=Z
 have D:(UK.wr a (SR.low a-Y s) s).length=Y a:=UK.jF _ _ _ Z;have u:Hid (((SR.low a:Int)-Y s).toNat=SR.low a-Y s):=by show _=_;omega
 clear v;refine(CF B a c j b1 C).mono ?_;rintro e b ⟨rfl,g,rfl⟩
 go_wp2_with fail
 have m:=HB2.out g;have o:=F.out g;generalize (j.drewN g).setCells B (SR.low a-Y s) (UK.cellsOf s)=L at m o ⊢;clear I;refine(iG B _ c i _ _ L m Z Z Z t Z Z Z).mono ?_;rintro e H ⟨rfl,p,G⟩;rw[u.out,Int.toNat_natCast,Int.toNat_natCast]at p
 go_wp2_with fail
 refine(eO B _ c _ _ H p (by rw[SR.df];omega) Z Z t Z).mono ?_;rintro e w5 ⟨rfl,q,z⟩;rw[u.out,show(2:Int).toNat=2 from rfl]at q;go_wp2
 go_end0
 exact⟨rfl,⟨_,q,J.out,by rw[SR.aI,SR.df,D];exact A⟩,(o.trans G).trans z⟩
open UK (nth)
def add(l:List (List UInt8))(s:List UInt8):List (List UInt8):=if hole l<Y l then l.set (hole l) s else l++[s]
theorem oY(l:List (List UInt8))(s:List UInt8)(h:hole l<Y l):add l s=l.set (hole l) s:=by unfold add;rw[be h]
theorem eE(l:List (List UInt8))(s:List UInt8)(h:hole l=Y l):add l s=(l++[[]]).set (Y l) s:=by
 unfold add;rw[aE Z,List.set_append_right _ _ (aH _)];simp
theorem eh(l:List (List UInt8)):bz (l++[[]]) (Y l)=[]:=by simp[bz]
def kept(l:List (List UInt8)):Nat->Nat
 | 0=>0
 | n+1=>if bz l n=[] then kept l n else n+1
theorem cY(l:List (List UInt8))(n:Nat):kept l n<=n:=by
 induction n with
 | zero=>simp[kept]
 | succ n a=>simp only[kept];split<;>omega
theorem cC(l:List (List UInt8))(m n:Nat)(f:m<=n)(h:∀j,m<=j->j<n->bz l j=[])(d:0<m->bz l (m-1)≠[]):kept l n=m:=by
 induction n with
 | zero=>simp[kept];omega
 | succ n c=>
  by_cases a:m=n+1
  ·subst a;have:=d Z;simp only[Nat.add_sub_cancel]at this;simp[kept,this]
  simp only[kept];rw[be (h n Z Z),c Z (λ j b e=>h j b Z)]
theorem ev(l:List (List UInt8))(n:Nat):(∀j,kept l n<=j->j<n->bz l j=[])/\(0<kept l n->bz l (kept l n-1)≠[]):=by
 induction n with
 | zero=>simp[kept]
 | succ n b=>
  by_cases h:bz l n=[]
  ·simp only[kept,be h];refine⟨λ j a c=>?_,b.2⟩;by_cases d:j=n
   ·rw[d];exact h
   exact b.1 j a Z
  simp only[kept,aE h];exact⟨λ j a c=>Z,λ _=>by simpa using h⟩
def trim(l:List (List UInt8)):List (List UInt8):=l.take (kept l (Y l))
theorem Ky(l:List (List UInt8))(n j:Nat)(h:j<n):bz (l.take n) j=bz l j:=by
 unfold bz List.getD;rw[List.getElem?_take,be h]
theorem qk(l:List (List UInt8))(n:Nat)(h:∀j,n<=j->bz l j=[]):total (l.take n)=total l:=by
 induction l generalizing n with
 | nil=>simp
 | cons s l a=>
  cases n with
  | zero=>
   have b:s=[]:=h 0 (aH _);have:=a 0 (λ j _=>h (j+1) Z);simp[total]at this ⊢;rw[b,<-this];rfl
  | succ n=>
   have:=a n (λ j c=>h (j+1) Z);simp[total,this]
theorem yy(h:aO x l)(n:Nat)(A:n<=Y l)(D:0<n)(y:∀j,n<=j->j<Y l->bz l j=[]):aO (SR.put x 0 n) (l.take n):=by
 have hf:=h.few;have u:=h.size
 have v:∀j,n<=j->bz l j=[]:=λ j m=>by
  by_cases z:j<Y l
  ·exact y j m z
  exact SR.gU l j Z
 have c:(l.take n).length=n:=by rw[zt];omega
 have p:∀b,2<=b->SR.two (SR.put x 0 n) b=SR.two x b:=λ b C=>SR.aW _ _ _ _ Z Z;have d:∀i,SR.pos (SR.put x 0 n) i=SR.pos x i:=λ i=>p _ Z;have t:∀i,SR.ext (SR.put x 0 n) i=SR.ext x i:=λ i=>p _ Z;have o:SR.low (SR.put x 0 n)=SR.low x:=p _ Z;refine⟨by rw[SR.aI];exact u,?_,?_,?_,?_,?_,?_,?_,?_,?_⟩
 ·rw[c];exact SR.dE _ _ _ Z Z
 ·rw[o,c];have:=h.nV;omega
 ·rw[o];exact h.qc
 ·intro g;have:(l.take n).length=0:=by rw[g];rfl
  omega
 ·intro i a g;rw[c]at a;rw[Ky l n i a]at g;rw[d,t];exact h.hole i Z g
 ·intro i a r;rw[c]at a;rw[Ky l n i a]at r ⊢;rw[d,t,o];exact h.there i Z r
 ·intro i a k f;rw[c]at a;rw[Ky l n i a]at f ⊢;have B:=h.there i Z (by intro e;rw[e]at f;simp at f);have:=h.nV;rw[d,SR.fP _ _ _ _ Z Z];exact h.bytes i Z k f
 ·intro i j a m w q s;rw[c]at a m;rw[Ky l n i a]at q ⊢;rw[Ky l n j m]at s ⊢;rw[d,d];exact h.apart i j Z Z w q s
 rw[c,qk l n v];have:=h.sum;omega
theorem pZ(h:aO x l):aO (SR.put (SR.put x 0 0) 2 504) []:=by
 have d:=h.size
 have c:SR.two (SR.put (SR.put x 0 0) 2 504) 0=0:=by
  rw[SR.aW _ _ _ _ (by rw[SR.aI];omega) Z];exact SR.dE _ _ _ Z (by decide)
 have b:SR.low (SR.put (SR.put x 0 0) 2 504)=504:=SR.dE _ _ _ (by rw[SR.aI];omega) (by decide);refine⟨by rw[SR.aI,SR.aI];exact d,c,by rw[b];decide,by rw[b];decide,λ _=>b,?_,?_,?_,?_,by simp[total]⟩
 ·intro i a;simp at a
 ·intro i a;simp at a
 ·intro i a;simp at a
 intro i j a;simp at a
theorem B3(l:List (List UInt8))(h:hole l<Y l):room l=500-4*Y l-total l:=by unfold room;rw[aE Z];omega
theorem vp(l:List (List UInt8))(h:hole l=Y l):room l=496-4*Y l-total l:=by unfold room;rw[be h];omega
theorem AV(B:Nat)(x:List UInt8)(c:Nat)(W:World)(h:aF W B x)(p:504<=Y x) :
  Calls prog 176 #[ad B 504 c] W λ e g=>e=aw (a9 #[])/\(∃a,aF g B a/\aO a []/\Y a=Y x)/\Only B W g:=by
 have q:=UK.Pp (P:=prog) (t:=94) (ty:=0) underlying94 (λ w=>by kernel_rfl) h 0 504 c Z;have f:=h.setCells (UK.bM 504) 0 (by rw[UK.kr];omega);have j:=(Only.refl B W).setCells (UK.cellsOf (UK.bM 504)) (o:=0);have d:(UK.wr x 0 (UK.bM 504)).length=Y x:=UK.jF _ _ _ (by rw[UK.kr];omega)
 have b:=aO.init (UK.wr x 0 (UK.bM 504)) Z (λ i b=>by
  rw[SR.ku _ _ _ (by rw[UK.kr];omega),be (by rw[UK.kr];omega)];exact UK.BA _ _)
 have HI:=zH b;have n:=zH f;have o:=zH j;have k:=zH d;clear b f j d
 go_enter func176,ntmps176
 go_wp2_with fail
 refine(eO B _ c _ _ _ n.out (by rw[k.out];exact p) Z Z Z Z).mono ?_;rintro e r ⟨rfl,l,m⟩;go_wp2
 go_end0
 exact⟨rfl,⟨_,l,HI.out,by rw[SR.aI,k.out]⟩,o.out.trans m⟩
theorem wX(B:Nat)(x:List UInt8)(l:List (List UInt8))(c:Nat)(D:504<=c)(s:List UInt8)(W:World)(h:aF W B x)(r:aO x l)(F:s≠[])(hr:(Y s:Int)<=room l) :
  Calls prog 177 #[ad B 504 c,a8 (str s)] W λ e g=>e=aw (a9 #[V U (hole l:Nat),a6 true])/\(∃I,aF g B I/\aO I (add l s)/\Y I=Y x)/\Only B W g:=by
 have hf:=r.few;have h7:=r.qc;have h3:0<Y s:=List.length_pos_iff.2 F;have K:=zH F;have h4:s.isEmpty=false:=by cases s;exact absurd rfl F;rfl
 have h6:=oZ l;have h2:¬room l<Y s:=Z
 clear F;by_cases a:hole l=Y l
 ·have A:=vp l a;have S:4+4*(Y l+1)+total l+Y s<=504:=Z
  have HR:=zH A;clear A;replace a:=zH a;by_cases h0:4+4*(Y l+1)<=SR.low x
  ·obtain⟨b,o,P,H,d⟩:∃b,aO b l/\4+4*(Y l+1)<=SR.low b/\Y b=Y x/\∀w,Below W W w->aF w B b:=⟨x,r,h0,rfl,λ w hb=>h.below hb h.lt⟩;have HB1:=zH d;clear d
   go_enter func177,ntmps177
   go_wp2_with fail
   refine(fZ B x l c W h r).mono ?_;rintro e n ⟨rfl,b1⟩
   go_wp2_with fail
   refine(gP B x l c n (h.below b1 h.lt) r).mono ?_;rintro e j ⟨rfl,v⟩;have b12:=b1.trans (v.mono b1.size);rw[a.out]
   go_wp2_with fail
   refine(qI B x l c j (h.below b12 h.lt) r).mono ?_;rintro e g ⟨rfl,i,rfl⟩;have b13:=UK.dN b12 i
   go_wp2_with fail
   refine(CF B x c _ (h.below b13 h.lt) r.size).mono ?_;rintro e g ⟨rfl,y,rfl⟩
   go_wp2_with fail
   have b14:=UK.dN b13 y;have d:=HB1.out _ b14;have m:=Only.of_below (B:=B) b14;simp only[World.drewN_drewN]at d m ⊢;generalize j.drewN (i+y)=C at d m ⊢;have q:=o.grow P Z;have Q:=zH q;have G:=o.size;clear q;refine(eO B b c _ _ C d G Z Z Z Z).mono ?_;rintro e N ⟨rfl,p,M⟩;rw[show(0:Int).toNat=0 from rfl,show((Y l:Int)+1).toNat=Y l+1 from Z]at p
   go_wp2_with fail
   refine(iG B _ c _ _ _ N p (by rw[SR.aI];omega) Z Z Z Z Z Z).mono ?_;rintro e z ⟨rfl,f,k⟩;rw[Int.toNat_natCast,show(0:Int).toNat=0 from rfl]at f
   go_wp2_with fail
   refine(cZ B _ (l++[[]]) c D (Y l) s z f Q.out (by rw[zl];simp) (eh l) K.out (by rw[zl,SR.gu];simp[total];omega)).mono ?_;rintro e w6 ⟨rfl,⟨L,J,t,u⟩,O⟩;rw[<-eE l s a.out]at t;rw[SR.df,SR.aI]at u;go_wp2;go_ret2;exact⟨by rw[a.out]<;>rfl,⟨L,J,t,by rw[u];exact H⟩,((m.trans M).trans k).trans O⟩
  go_enter func177,ntmps177
  go_wp2_with fail
  refine(fZ B x l c W h r).mono ?_;rintro e n ⟨rfl,b1⟩
  go_wp2_with fail
  refine(gP B x l c n (h.below b1 h.lt) r).mono ?_;rintro e j ⟨rfl,v⟩;have b12:=b1.trans (v.mono b1.size);rw[a.out]
  go_wp2_with fail
  refine(qI B x l c j (h.below b12 h.lt) r).mono ?_;rintro e g ⟨rfl,i,rfl⟩;have b13:=UK.dN b12 i
  go_wp2_with fail
  refine(CF B x c _ (h.below b13 h.lt) r.size).mono ?_;rintro e g ⟨rfl,y,rfl⟩
  go_wp2_with fail
  have b14:=UK.dN b13 y;have X:=h.below b14 h.lt;have T:=Only.of_below (B:=B) b14;simp only[World.drewN_drewN]at X T ⊢;refine(du B x l c D _ X r Z).mono ?_;rintro e C ⟨rfl,⟨b,d,o,Bu,H⟩,o0⟩;have P:4+4*(Y l+1)<=SR.low b:=Z
  have m:Only B W C:=T.trans o0;clear Bu
  go_wp2_with fail
  have q:=o.grow P Z;have Q:=zH q;have G:=o.size;clear q;refine(eO B b c _ _ C d G Z Z Z Z).mono ?_;rintro e N ⟨rfl,p,M⟩;rw[show(0:Int).toNat=0 from rfl,show((Y l:Int)+1).toNat=Y l+1 from Z]at p
  go_wp2_with fail
  refine(iG B _ c _ _ _ N p (by rw[SR.aI];omega) Z Z Z Z Z Z).mono ?_;rintro e z ⟨rfl,f,k⟩;rw[Int.toNat_natCast,show(0:Int).toNat=0 from rfl]at f
  go_wp2_with fail
  refine(cZ B _ (l++[[]]) c D (Y l) s z f Q.out (by rw[zl];simp) (eh l) K.out (by rw[zl,SR.gu];simp[total];omega)).mono ?_;rintro e w6 ⟨rfl,⟨L,J,t,u⟩,O⟩;rw[<-eE l s a.out]at t;rw[SR.df,SR.aI]at u;go_wp2;go_ret2;exact⟨by rw[a.out]<;>rfl,⟨L,J,t,by rw[u];exact H⟩,((m.trans M).trans k).trans O⟩
 have E:hole l<Y l:=Z
 have A:=B3 l E;have S:4+4*Y l+total l+Y s<=504:=Z
 have h5:((hole l:Int)==(Y l:Int))=false:=by rw[beq_eq_false_iff_ne];omega
 have HA:=zH (oY l s E);have HZ:=zH ((rO l).2 E);clear A a
 go_enter func177,ntmps177
 go_wp2_with fail
 refine(fZ B x l c W h r).mono ?_;rintro e n ⟨rfl,b1⟩
 go_wp2_with fail
 refine(gP B x l c n (h.below b1 h.lt) r).mono ?_;rintro e j ⟨rfl,v⟩;have b12:=b1.trans (v.mono b1.size)
 go_wp2_with fail
 refine(qI B x l c j (h.below b12 h.lt) r).mono ?_;rintro e g ⟨rfl,i,rfl⟩;have b13:=UK.dN b12 i
 go_wp2_with fail
 refine(cZ B x l c D (hole l) s _ (h.below b13 h.lt) r E HZ.out K.out S).mono ?_;rintro e z ⟨rfl,⟨x5,f,R,h1⟩,k⟩;rw[<-HA.out]at R;go_wp2;go_ret2;exact⟨rfl,⟨x5,f,R,h1⟩,(Only.of_below b13).trans k⟩
theorem F7(l:List (List UInt8))(k:Nat)(a:k<Y l)(b:bz l k≠[]):hasB l k=true:=by
 unfold hasB;simp[a,b]
theorem Vf(B:Nat)(x:List UInt8)(l:List (List UInt8))(c k:Nat)(W:World)(h:aF W B x)(r:aO x l)(b:k<Y l)(a:bz l k≠[]) :
  Calls prog 220 #[ad B 504 c,V U k] W λ e d=>e=aw (a6 true)/\Below W W d:=by
 have:=ng B x l c k W h r
 rwa [F7 l k b a]at this
theorem Et(B:Nat)(x:List UInt8)(l:List (List UInt8))(c k:Nat)(s:List UInt8)(W:World)(h:aF W B x)(r:aO x l)(f:k<Y l)(j:bz l k≠[])(n:s≠[])(q:504+(bz l k).length<4+4*Y l+total l+Y s) :
  Calls prog 179 #[ad B 504 c,V U k,a8 (str s)] W λ e b=>e=aw (a6 false)/\Below W W b:=by
 have hf:=r.few;have t:=r.sum;have H:=zH (Vf B x l c k W h r f j);have y:=SR.jC l k;have u:s.isEmpty=false:=by cases s;exact absurd rfl n;rfl
 have z:(500:Int)-4*Y l-total l+(bz l k).length<Y s:=Z
 clear j n
 go_enter func179,ntmps179
 go_wp2_with fail
 refine H.out.mono ?_;rintro e g ⟨rfl,b1⟩
 go_wp2_with fail
 refine(Ex B x l c k g (h.below b1 h.lt) r f).mono ?_;rintro e b ⟨rfl,m,rfl⟩;have d:=UK.dN b1 m;generalize g.drewN m=p at d ⊢
 go_wp2_with fail
 refine(qI B x l c _ (h.below d h.lt) r).mono ?_;rintro e b ⟨rfl,i,rfl⟩;have a:=UK.dN d i;generalize p.drewN i=w at a ⊢
 go_wp2_with fail
 refine(Vg B x l c _ (h.below a h.lt) r).mono ?_;rintro e v ⟨rfl,o⟩;go_wp2;go_ret;exact⟨rfl,a.trans (o.mono a.size)⟩
theorem Es(B:Nat)(x:List UInt8)(l:List (List UInt8))(c:Nat)(G:504<=c)(k:Nat)(s:List UInt8)(W:World)(h:aF W B x)(r:aO x l)(a:k<Y l)(p:bz l k≠[])(i:s≠[])(O:4+4*Y l+total l+Y s<=504+(bz l k).length) :
  Calls prog 179 #[ad B 504 c,V U k,a8 (str s)] W λ e d=>e=aw (a6 true)/\(∃f,aF d B f/\aO f (l.set k s)/\Y f=Y x)/\Only B W d:=by
 have hf:=r.few;have L:=r.sum;have H:=zH (Vf B x l c k W h r a p);have R:=SR.jC l k;have M:s.isEmpty=false:=by cases s;exact absurd rfl i;rfl
 have P:¬(500:Int)-4*Y l-total l+(bz l k).length<Y s:=Z
 have A:=zH i;have y:=zH (r.drop a);have u:=SR.nZ l k [] a;rw[List.length_nil]at u;have v:=r.size;clear p i
 go_enter func179,ntmps179
 go_wp2_with fail
 refine H.out.mono ?_;rintro e j ⟨rfl,b1⟩
 go_wp2_with fail
 refine(Ex B x l c k j (h.below b1 h.lt) r a).mono ?_;rintro e d ⟨rfl,t,rfl⟩;have g:=UK.dN b1 t;generalize j.drewN t=J at g ⊢
 go_wp2_with fail
 refine(qI B x l c _ (h.below g h.lt) r).mono ?_;rintro e d ⟨rfl,o,rfl⟩;have b:=UK.dN g o;generalize J.drewN o=Q at b ⊢
 go_wp2_with fail
 refine(Vg B x l c _ (h.below b h.lt) r).mono ?_;rintro e D ⟨rfl,z⟩;have n:=b.trans (z.mono b.size)
 go_wp2_with fail
 refine(iG B x c _ _ _ D (h.below n h.lt) v Z Z Z Z Z Z).mono ?_;rintro e K ⟨rfl,m,F⟩;rw[Int.toNat_natCast,show(0:Int).toNat=0 from rfl]at m
 go_wp2_with fail
 refine(cZ B _ (l.set k []) c G k s K m y.out (by rw[aV];exact a) (by rw[SR.fH,be ⟨rfl,a⟩]) A.out (by rw[aV];omega)).mono ?_;rintro e N ⟨rfl,⟨I,E,q,C⟩,w⟩;rw[List.set_set]at q;go_wp2;go_ret;exact⟨rfl,⟨I,E,q,by rw[C,SR.df]⟩,((Only.of_below n).trans F).trans w⟩
theorem Bc(B:Nat)(x:List UInt8)(l:List (List UInt8))(c k:Nat)(W:World)(h:aF W B x)(r:aO x l)(i:k<Y l)(A:bz l k≠[]) :
  Calls prog 171 #[ad B 504 c,V U k] W λ e f=>e=aw (a6 true)/\(∃v,aF f B v/\aO v (trim (l.set k []))/\Y v=Y x)/\Only B W f:=by
 have hf:=r.few;have H:=zH (Vf B x l c k W h r i A);have O:=r.size;have a:=r.drop i;have F:(SR.lay x k 0 0).length=Y x:=SR.df _ _ _ _;generalize T:l.set k []=m at *;generalize E:SR.lay x k 0 0=b at *;have h0:=zH E;have M:=zH F;clear A E T F;have h5:=a.few;have h2:=a.nV;have t:=a.size
 go_enter func171,ntmps171
 go_wp2_with fail
 refine H.out.mono ?_;rintro e P ⟨rfl,b1⟩
 go_wp2_with fail
 refine(iG B x c _ _ _ P (h.below b1 h.lt) O Z Z Z Z Z Z).mono ?_;rintro e D ⟨rfl,p,X⟩;rw[Int.toNat_natCast,show(0:Int).toNat=0 from rfl,h0.out]at p
 go_wp2_with fail
 refine(qI B b m c D p a).mono ?_;rintro e f ⟨rfl,k1,rfl⟩
 go_wp2_with fail
 go_loopw [5] (λ n wr=>∃q:Nat,q<=Y m/\n=V U q/\Hid (∀j,q<=j->j<Y m->bz m j=[])/\Below D D wr) (λ n _=>(intOf n).toNat)
 case atStart=>exact⟨Y m,aH _,rfl,λ j i A=>absurd i Z,UK.dN (aU _ _) _⟩
 obtain⟨q,L,rfl,o,C⟩:=hrel;have s:=p.below C p.lt;have I:Only B W _:=((Only.of_below (B:=B) b1).trans X).trans (Only.of_below C)
 cases q with
 | zero=>
  have J:kept m (Y m)=0:=cC m 0 (Y m) (aR _) o.out (λ h=>absurd h (mE _));have HT:Hid (trim m=[]):=by show _=_;unfold trim;rw[J];rfl
  have z:=zH (pZ a);clear J
  go_wp2_with fail
  refine(eO B b c _ _ _ s t Z Z Z Z).mono ?_;rintro e G ⟨rfl,g,u⟩;rw[show(0:Int).toNat=0 from rfl]at g
  go_wp2_with fail
  refine(eO B _ c _ _ G g (by rw[SR.aI];exact t) Z Z Z Z).mono ?_;rintro e w8 ⟨rfl,b8,S⟩;go_wp2;go_ret;exact⟨rfl,⟨_,b8,by rw[HT.out];exact z.out,by rw[SR.aI,SR.aI];exact M.out⟩,(I.trans u).trans S⟩
 | succ q=>
  by_cases d:bz m q=[]
  ·have HJ2:Hid (∀j,q<=j->j<Y m->bz m j=[]):=λ j h3 N=>by
    by_cases Q:j=q
    ·rw[Q];exact d
    exact o.out j Z N
   have w:=zH (Kz B b m c q _ s a Z d);clear d
   go_wp2_with fail
   refine w.out.mono ?_;rintro e f ⟨rfl,y,rfl⟩;go_wp2;go_roundw
   case rel=>exact⟨q,Z,by go_num,HJ2,UK.dN C _⟩
   case measure=>simp[intOf]
  have K:kept m (Y m)=q+1:=cC m (q+1) (Y m) L o.out (λ _=>by simpa using d);have HT:Hid (trim m=m.take (q+1)):=by show _=_;unfold trim;rw[K]
  have z:=zH (yy a (q+1) L Z o.out);have w:=zH (Ex B b m c q _ s a Z);have R:=(a.there q Z d).1;have h4:0<SR.pos b q:=Z
  clear K d R
  go_wp2_with fail
  refine w.out.mono ?_;rintro e f ⟨rfl,y,rfl⟩
  go_wp2_with fail
  refine(eO B b c _ _ _ (s.drewN y) t Z Z Z Z).mono ?_;rintro e G ⟨rfl,g,u⟩;rw[show(0:Int).toNat=0 from rfl,show((q:Int)+1).toNat=q+1 from Z]at g;have h1:((q:Int)+1==0)=false:=by rw[beq_eq_false_iff_ne];omega
  go_wp2;go_ret
  exact⟨rfl,⟨_,g,by rw[HT.out];exact z.out,by rw[SR.aI];exact M.out⟩,(I.drewN y).trans u⟩
end Go.Proofs.YtgpmiliahonaoaaGreatDoor.SL
