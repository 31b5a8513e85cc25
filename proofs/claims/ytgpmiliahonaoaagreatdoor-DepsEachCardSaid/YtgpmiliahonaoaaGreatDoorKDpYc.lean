/- Facts on texts and trees on pages. -/
import Derived.Test.YtgpmiliahonaoaaGreatDoorKDqLc
set_option maxRecDepth 100000
set_option maxHeartbeats 8000000
set_option linter.unusedSimpArgs false
namespace Go.Proofs.YtgpmiliahonaoaaGreatDoor
open Go.RowKit
open UK (str aF nth Only Row ay w32)
open DP (tF TT TH bO)
theorem xnw:AP.Moves (λ B=>B.op=none):=⟨λ X p s h hp=>by show(X.keep p).op=none;unfold AP.keep;rw[h];rfl,λ X p h hp=>by unfold AP.keep;rw[h];rfl,λ X h hf=>by show X.op.map _=none;rw[h];rfl,λ X p h hp=>by unfold AP.give;rw[h]⟩
theorem xnx(m:Int):AP.Moves (λ B=>B.aC=m):=⟨λ X p s h hp=>h,λ X p h hp=>h,λ X h hf=>h,λ X p h hp=>by
 unfold AP.give
 cases X.op<;>exact h⟩
theorem AP.Reach.yx{A B:AP}(h:A.Reach B)(e:A.op=none):B.op=none:=h _ xnw e
theorem AP.Reach.qo{A B:AP}(h:A.Reach B):B.aC=A.aC:=h _ (xnx A.aC) rfl
theorem AP.Good.EB{A:AP}(g:A.Good)(e:A.op=none){l:List Nat}(hl:∀p,A.Has p->p∈l):A.aC<=(A.bu:Int)+l.length+1:=by
 have hg0:A.bV=[]:=by unfold AP.bV;rw[e]
 have h2:=(List.nodup_range' .. :(List.range' 1 (A.au-1)).Nodup).length_le_of_subset (l₂:=l++A.free) (λ x hx=>by
  rw[List.mem_range'_1]at hx;rw[dD];by_cases hf:x∈A.free
  ·exact .inr hf
  refine .inl (hl x ⟨by omega,by omega,hf,?_⟩);rw[hg0];exact List.not_mem_nil)
 rw[zl,List.length_range']at h2;have:=g.one;have:=g.aC;unfold AP.bu;omega
theorem xzx{c:Nat->List UInt8}{X:List HT}(hl:∀t,t∈X->qc c t):(nK X).length+X.length<=wt X:=by
 induction X with
 | nil=>exact aO _
 | cons t X ih=>
  have h1:=ih (λ u hu=>hl u (cu _ hu));have h2:=hl t (aT ..);rw[Ae,yl,zl,dn];unfold qc at h2;unfold wT
  split at h2
  ·rename_i h3
   rw[if_pos h3,h2,List.length_nil];omega
  rename_i h3
  have h4:=h2.few;rw[if_neg h3];omega
theorem HI.vX{A:Pg}{root pg:Nat}{rp:List Nat}{L:Nat->List (List UInt8)}{X:List HT}(h:HI A root pg rp L X):rp.length+(nK X).length<=wt X+1:=by
 have hnd:=(bN.1 (dW.1 h.pages).2).1
 have h1:=hnd.length_le_of_subset (l₂:=pg::X.map HT.pg) (λ p hp=>by
  by_cases e:p=pg
  ·rw[e];exact aT ..
  have hu:=h.used p hp e;rcases(h.recs p hp).2 with h0|h0
  ·exact absurd h0 hu
  obtain⟨t,a,b,_⟩:=h.at_ p hp _ h0;exact cu _ (bQ.2 ⟨t,a,b⟩))
 rw[dn,df]at h1;have:=xzx h.long;omega
section
variable{A B B1:AP}{ex dw ps2 rp:List Nat}{Ec:Nat->List UInt8}{r1 r2 root pg m n:Nat}{l1 l2:List KV}{L:Nat->List (List UInt8)}{X Y:List HT}{F G:Nat->List UInt8}
theorem xwx(hg:A.Good)(e:A.op=none)(hi:HI (A.fe (fo ex dw ps2)) root pg rp L X):(A.aC:Int)<=A.bu+ex.length+dw.length+ps2.length+wt X+3:=by
 have hc:=hg.EB e (l:=(ex++(dw++ps2))++(root::(rp++nK X))) (λ p hA=>by
  rw[dD,<-hi.has p];by_cases hq:fo ex dw ps2 p
  ·left
   unfold fo at hq;rw[dD,dD];exact hq
  exact .inr ⟨hA,hq⟩)
 have:=hi.vX;rw[zl,zl,zl,dn,zl]at hc;omega
theorem DM.IZ(h:DM A ex Ec r1 r2 root l1 l2 dw ps2 pg rp L X)(hm:A.aC<=3900):X.length<1000000:=by
 have hnd:(X.map bK).Nodup:=by
  rw[List.nodup_iff_pairwise_ne,List.pairwise_map];refine h.hi.inj.imp_of_mem (λ {a b} ha hb hab e=>hab (h.hi.num ha hb e))
 have h1:=hnd.length_le_of_subset (l₂:=List.range 998400) (λ x hx=>by
  obtain⟨t,ht,rfl⟩:=bQ.1 hx;have a:=(h.hi.nS (h.hi.each t ht).1).1;have b:=h.hi.slot ht;have h4:t.pg<A.au:=a.2.1;have h5:=h.good.aC;rw[jY];unfold bK;omega)
 rw[df,List.length_range]at h1;omega
end
theorem U5(h:Nat->Nat)(K:List Nat):(K.map h).sum=((K.filter λ k=>decide (h k≠0)).map h).sum:=by
 induction K with
 | nil=>rfl
 | cons k K ih=>
  rw[je,List.sum_cons,List.filter_cons,ih];by_cases e:h k=0
  ·simp[e]
  simp[e]
theorem U6{h:Nat->Nat}{K K':List Nat}(n1:K.Nodup)(n2:K'.Nodup)(hs:∀k,h k≠0->(k∈K↔k∈K')):(K.map h).sum=(K'.map h).sum:=by
 rw[U5 h K,U5 h K']
 have hp:(K.filter λ k=>decide (h k≠0)).Perm (K'.filter λ k=>decide (h k≠0)):=(List.perm_ext_iff_of_nodup (n1.filter _) (n2.filter _)).2 (λ k=>by
  rw[List.mem_filter,List.mem_filter]
  constructor
  ·rintro⟨a,b⟩;exact⟨(hs k (of_decide_eq_true b)).1 a,b⟩
  rintro⟨a,b⟩;exact⟨(hs k (of_decide_eq_true b)).2 a,b⟩)
 exact(hp.map _).sum_nat
def tot(l:List KV)(F:Nat->List UInt8):Nat:=(l.map λ y=>wS (F y.1.toNat)).sum
theorem Mv{l:List KV}(h:kQ l):(l.map λ y=>y.1.toNat).Nodup:=by
 rw[List.nodup_iff_pairwise_ne,List.pairwise_map];exact h.imp (λ {a b} hab e=>by omega)
theorem U7(l:List KV)(F:Nat->List UInt8):tot l F=((l.map λ y=>y.1.toNat).map λ k=>wS (F k)).sum:=by
 unfold tot;rw[List.map_map];rfl
theorem U8{s:List UInt8}(h:wS s≠0):s≠[]:=λ e=>h (by rw[e];rfl)
theorem xzy{l l':List KV}{X X':tF}{F:Nat->List UInt8}{k:Nat}{s:List UInt8}(r:kQ l)(r':kQ l')(t:TT l X F)(t':TT l' X' (bO F k s))(hk:k<2^64):tot l' (bO F k s)+wS (F k)=tot l F+wS s:=by
 have hn:=Mv r;have hn':=Mv r'
 have hlt:∀(m:List KV) (j:Nat),j∈m.map (λ y=>y.1.toNat)->j<2^64:=λ m j hj=>by
  obtain⟨y,_,rfl⟩:=bQ.1 hj;exact y.1.toNat_lt
 rw[U7,U7]
 have hin:∀j,j<2^64->F j≠[]->j∈l.map λ y=>y.1.toNat:=λ j hj hF=>by
  obtain⟨y,hy,e⟩:=t.all j hj hF;exact bQ.2 ⟨y,hy,e⟩
 have hin':∀j,j<2^64->bO F k s j≠[]->j∈l'.map λ y=>y.1.toNat:=λ j hj hF=>by
  obtain⟨y,hy,e⟩:=t'.all j hj hF;exact bQ.2 ⟨y,hy,e⟩
 have hlt':=hlt l';replace hlt:=hlt l;generalize l.map (λ y=>y.1.toNat)=K at *;generalize l'.map (λ y=>y.1.toNat)=K' at *;have hn0:(k::K.filter λ j=>decide (j≠k)).Nodup:=dW.2 ⟨λ h=>by simp at h,hn.filter _⟩;have hs:∀j,j≠k->bO F k s j=F j:=λ j hj=>if_neg hj
 have a:=U6 (h:=λ j=>wS (F j)) hn hn0 (λ j hj=>by
  have hF:=U8 hj;rw[aN,List.mem_filter]
  constructor
  ·intro h;by_cases e:j=k
   ·exact .inl e
   exact .inr ⟨h,decide_eq_true e⟩
  rintro(e|e)
  ·subst e;exact hin j hk hF
  exact e.1)
 have b:=U6 (h:=λ j=>wS (bO F k s j)) hn' hn0 (λ j hj=>by
  have hF:=U8 hj;rw[aN,List.mem_filter]
  constructor
  ·intro h;by_cases e:j=k
   ·exact .inl e
   exact .inr ⟨hin j (hlt' j h) (by rw[hs j e]at hF;exact hF),decide_eq_true e⟩
  rintro(e|e)
  ·subst e;exact hin' j hk hF
  exact hin' j (hlt j e.1) hF)
 rw[a,b,je,je,List.sum_cons,List.sum_cons];have c:(K.filter λ j=>decide (j≠k)).map (λ j=>wS (bO F k s j))=(K.filter λ j=>decide (j≠k)).map (λ j=>wS (F j)):=List.map_congr_left (λ j hj=>by rw[hs j (of_decide_eq_true (List.mem_filter.1 hj).2)]);rw[c,show bO F k s k=s from if_pos rfl];omega
section
variable{E:Nat->Prop}{W W':World}{P D Dp T T1 T2 H k rt q r1 r2 root pg n m K:Nat}{A B:AP}{ex dw ps2 rp:List Nat}{Ec:Nat->List UInt8}{l1 l2:List KV}{L:Nat->List (List UInt8)}{X:List HT}{F G:Nat->List UInt8}{s:List UInt8}{key:UInt64}
def DL(A:AP)(ex:List Nat)(Ec:Nat->List UInt8)(r1 r2 root:Nat)(F G:Nat->List UInt8)(l1:List KV):Prop:=
 ∃l2 dw ps2 pg rp L X,DM A ex Ec r1 r2 root l1 l2 dw ps2 pg rp L X/\TH l1 l2 (qO X) F G/\wt X=tot l1 F+tot l2 G
def DI(A:AP)(ex:List Nat)(Ec:Nat->List UInt8)(r1 r2 root:Nat)(F G:Nat->List UInt8):Prop:=∃l1,DL A ex Ec r1 r2 root F G l1
def uk(A:AP)(ex:List Nat)(F G:Nat->List UInt8)(s:List UInt8):Prop:=
 ∃(B1:AP) (l1 l2:List KV),A.Reach B1/\Low B1 s.length/\kQ l1/\kQ l2/\(∀y∈l1,F y.1.toNat≠[])/\(∀y∈l2,G y.1.toNat≠[])/\(A.op=none->14*A.aC<=14*((B1.bu+ex.length+tot l1 F+tot l2 G+wS s+3:Nat):Int)+l1.length+l2.length+28)
theorem uk.swap(h:uk A ex F G s):uk A ex G F s:=by
 obtain⟨B1,l1,l2,h1,h2,h3,h4,h5,h6,h7⟩:=h;exact⟨B1,l2,l1,h1,h2,h4,h3,h6,h5,λ e=>by have:=h7 e;omega⟩
theorem vT.dl(h:vT E W W' P D K A ex Ec r1 r2 root l2 ps2 X F G key s)(m:DM A ex Ec r1 r2 root l1 l2 dw ps2 pg rp L X)(th:TH l1 l2 (qO X) F G)(hw:wt X=tot l1 F+tot l2 G):∃B l,DL B ex Ec r1 r2 root (bO F key.toNat s) G l/\DL B ex Ec r2 r1 root G (bO F key.toNat s) l2/\A.Reach B/\PZ E W' P D B K/\Kept E W W':=by
 obtain⟨B,l,ps,xh,rp',L',X',h1,h2,h3,h4,h5,h6⟩:=h;have:=xzy m.t1.rise h1.t1.rise th.one h2.one key.toNat_lt;exact⟨B,l,⟨l2,ps,ps2,xh,rp',L',X',h1,h2,by omega⟩,⟨l,ps2,ps,xh,rp',L',X',h1.swap,h2.swap,by omega⟩,h4,h5,h6⟩
theorem xk.lack(h:xk E W W' P D K A ex dw ps2 root (wt X+wS s) s.length)(m:DM A ex Ec r1 r2 root l1 l2 dw ps2 pg rp L X)(th:TH l1 l2 (qO X) F G)(hw:wt X=tot l1 F+tot l2 G):∃B,uk A ex F G s/\A.Reach B/\PZ E W' P D B K/\Kept E W W':=by
 obtain⟨B,B1,xh,rp',L',X',h1,h2,h3,h4,h5,h6,h7⟩:=h;refine⟨B,⟨B1,l1,l2,h1,h4,m.t1.rise,m.t2.rise,λ y hy=>(th.one.some_ y hy).1,λ y hy=>(th.two.some_ y hy).1,λ e=>?_⟩,h5,h6,h7⟩;have a:=xwx (h1.good m.good) (h1.yx e) h2;rw[h1.qo]at a;have b:=m.t1.many;have c:=m.t2.many;omega
structure DZ(E:Nat->Prop)(W:World)(P D Dp T1 T2 H k:Nat)(A:AP)(q r1 r2 root:Nat):Prop where
 pz:PZ E W P D A k
 bd:ay W Dp #[.pointer P,.int .i64 q,.pointer T1,.pointer T2,.pointer H]
 md:E Dp
 b1:ay W T1 #[.pointer P,.int .i64 r1]
 m1:E T1
 b2:ay W T2 #[.pointer P,.int .i64 r2]
 m2:E T2
 bh:ay W H (qm P root)
 mh:E H
theorem DZ.of{j:Nat}(h:DZ E W P D Dp T1 T2 H k A q r1 r2 root)(p:PZ E W' P D B j)(kp:Kept E W W'):DZ E W' P D Dp T1 T2 H j B q r1 r2 root:=
 ⟨p,h.bd.ae (kp.block Dp h.md),h.md,h.b1.ae (kp.block T1 h.m1),h.m1,h.b2.ae (kp.block T2 h.m2),h.m2,h.bh.ae (kp.block H h.mh),h.mh⟩
theorem DZ.wide(h:DZ E W P D Dp T1 T2 H k A q r1 r2 root)(hb:Below W W W'){T:Nat->Prop}(hT:∀j,T j->E j\/(W.heap.size<=j/\j<W'.heap.size))(hE:∀j,E j->T j):DZ T W' P D Dp T1 T2 H k A q r1 r2 root:=
 have kp:=h.pz.kept hb
 ⟨h.pz.wide hb hT,h.bd.ae (kp.block Dp h.md),hE _ h.md,h.b1.ae (kp.block T1 h.m1),hE _ h.m1,h.b2.ae (kp.block T2 h.m2),hE _ h.m2,h.bh.ae (kp.block H h.mh),hE _ h.mh⟩
theorem DZ.less(h:DZ E W P D Dp T1 T2 H k A q r1 r2 root){T:Nat->Prop}(hT:∀j,T j->E j)(a:T Dp)(b:T T1)(c:T T2)(d:T H):DZ T W P D Dp T1 T2 H k A q r1 r2 root:=
 ⟨h.pz.less hT,h.bd,a,h.b1,b,h.b2,c,h.bh,d⟩
theorem DZ.next(h:DZ E W P D Dp T1 T2 H k A q r1 r2 root)(hb:Below W W W'):DZ E W' P D Dp T1 T2 H k A q r1 r2 root:=h.of (h.pz.next hb) (h.pz.kept hb)
theorem DZ.up(h:DZ E W P D Dp T1 T2 H k A q r1 r2 root)(hk:k<=K):DZ E W P D Dp T1 T2 H K A q r1 r2 root:=⟨h.pz.up hk,h.bd,h.md,h.b1,h.m1,h.b2,h.m2,h.bh,h.mh⟩
theorem DZ.one(h:DZ E W P D Dp T1 T2 H k A q r1 r2 root):LZ E W P D Dp T1 H k A r1 root:=⟨h.pz,h.bd.cell 4 _ rfl,h.md,h.b1,h.m1,h.bh,h.mh⟩
theorem DZ.two(h:DZ E W P D Dp T1 T2 H k A q r1 r2 root):LZ E W P D Dp T2 H k A r2 root:=⟨h.pz,h.bd.cell 4 _ rfl,h.md,h.b2,h.m2,h.bh,h.mh⟩
end
open UK (str aF nth Only Row ay)
open DP (Rc bX qG)
open Go.BigFrame
section
variable{W:World}
theorem Pe(a b:Nat)(ha:a<100000)(hb:b<100000)(W:World) :
  Calls Tryz.prog 37 #[.int .i64 a,.int .i64 b] W λ e w'=>e= .returned (.int .u64 ((UInt64.ofNat (bX a b)).toNat:Int))/\w'=W:=by
 have h1:(UInt64.ofNat (bX a b)).toNat=bX a b:=by rw[UInt64.toNat_ofNat'];unfold bX;omega
 rw[h1]
 have e0:(a*4294967296) ||| b=bX a b:=by
  have:=Nat.two_pow_add_eq_or_of_lt (i:=32) (b:=b) (by omega) a;unfold bX;rw[show(2:Nat)^32=4294967296 from rfl,Nat.mul_comm 4294967296 a]at this;exact this.symm
 have e1:bits .or .u64 ((a:Int)*4294967296) (b:Int)=((bX a b:Nat):Int):=by
  have:=u64_or_nat (a*4294967296) b (by omega) (by omega);rw[e0]at this;rw[<-this]
  congr 1
 have e2:IntKind.u64.wrap (a:Int)=(a:Int):=by rw[lN];omega
 have e3:IntKind.u64.wrap (b:Int)=(b:Int):=by rw[lN];omega
 have e4:IntKind.u64.wrap ((a:Int)*4294967296)=(a:Int)*4294967296:=by rw[lN];omega
 clear h1 e0
 go_enter Tryz.func37,Tryz.ntmps37
 go_wp2;go_ret
 exact⟨rfl,rfl⟩
def jP(q:Rc)(i k:Nat):List UInt64:=(List.range k).map λ k=>UInt64.ofNat (bX (q.r/16+i) (q.c/16+k))
def qM(q:Rc)(i:Nat):List UInt64:=(List.range i).flatMap λ i=>jP q i q.nc
def gZ(q:Rc):List UInt64:=q.nR.map UInt64.ofNat
theorem xs5(q:Rc)(i k:Nat):jP q i (k+1)=jP q i k++[UInt64.ofNat (bX (q.r/16+i) (q.c/16+k))]:=by
 unfold jP;rw[List.range_succ,dO];rfl
theorem Ua(q:Rc)(i:Nat):qM q (i+1)=qM q i++jP q i q.nc:=by
 unfold qM;rw[List.range_succ,List.flatMap_append];simp
theorem Ub(q:Rc)(i:Nat):(qM q i).length=i*q.nc:=by
 induction i with
 | zero=>simp[qM]
 | succ i ih=>rw[Ua,zl,ih,Nat.succ_mul];simp[jP]
theorem Uc{q:Rc}(h:¬64<q.nr*q.nc):gZ q=qM q q.nr:=by
 unfold gZ DP.Rc.nR qM jP;rw[if_neg h,List.map_flatMap]
 congr 1
 funext i
 rw[List.map_map];rfl
theorem Ud{q:Rc}(h:64<q.nr*q.nc):gZ q=[UInt64.ofNat qG]:=by
 unfold gZ DP.Rc.nR;rw[if_pos h];rfl
theorem xwo(W:World)(l:List UInt64)(t:TypeId):Row (W.alloc (.cells (az l).toArray t)) W l.length (az l):=by
 have e1:=World.cell?_alloc_new W (az l).toArray t;refine⟨by simp,by rw[dA];exact aO _,λ j hj=>?_,λ j hj=>⟨?_,World.frozen?_alloc_new W _ _ j⟩⟩
 ·exact(e1 j).trans (by rw[List.getElem?_toArray])
 have e2:(W.alloc (.cells (az l).toArray t)).cell? (W.heap.size,j)=_:=e1 j;rw[e2,List.getElem?_toArray,bL (by rw[dA];exact hj)];rfl
def Pf(W w:World)(q:Rc)(e:Ending):Prop:=∃ao c,e= .returned (.slice ao (gZ q).length c)/\NR w ao c (az (gZ q))/\(∀b,aK ao b->W.heap.size<=b)/\Below W W w
theorem xnj(q:Rc)(hq:q.ok)(W:World) :
  Calls Tryz.prog 96 #[.agg #[.int .i64 q.r,.int .i64 q.c,.int .i64 q.h,.int .i64 q.w]] W λ e w'=>Pf W w' q e:=by
 obtain⟨x1,x2,x3,x4⟩:=hq;obtain⟨w1,hw1⟩:∃w1,w1=W.alloc (.cells #[.int .i64 q.r,.int .i64 q.c,.int .i64 q.h,.int .i64 q.w] 23):=⟨_,rfl⟩;have hbx:ay w1 W #[.int .i64 q.r,.int .i64 q.c,.int .i64 q.h,.int .i64 q.w]:=hw1▸ay.new W _ _;have hbl:Below W W w1:=hw1▸(aV _ _).alloc (aO _) _;have c0:∀m,(w1.drewN m).cell? W.heap.size=some (.int .i64 q.r):=λ m=>hbx.cell 0 _ rfl;have c1:∀m,(w1.drewN m).cell? (W.heap.size,1)=some (.int .i64 q.c):=λ m=>hbx.cell 1 _ rfl;have c2:∀m,(w1.drewN m).cell? (W.heap.size,2)=some (.int .i64 q.h):=λ m=>hbx.cell 2 _ rfl;have c3:∀m,(w1.drewN m).cell? (W.heap.size,3)=some (.int .i64 q.w):=λ m=>hbx.cell 3 _ rfl
 go_enter Tryz.func96,Tryz.ntmps96
 obtain⟨R0,hR0⟩:∃R0,R0=q.r/16:=⟨_,rfl⟩;obtain⟨C0,hC0⟩:∃C0,C0=q.c/16:=⟨_,rfl⟩;obtain⟨RE,Br⟩:∃RE,RE=(q.r+q.h-1)/16:=⟨_,rfl⟩;obtain⟨CE,Ue⟩:∃CE,CE=(q.c+q.w-1)/16:=⟨_,rfl⟩;obtain⟨nr,hnr⟩:∃nr,nr=q.nr:=⟨_,rfl⟩;obtain⟨nc,hnc⟩:∃nc,nc=q.nc:=⟨_,rfl⟩;have k1:RE+1=R0+nr:=by rw[hnr,hR0,Br];unfold Rc.nr;omega
 have k2:CE+1=C0+nc:=by rw[hnc,hC0,Ue];unfold Rc.nc;omega
 have t1:(q.r:Int).tdiv 16=(R0:Int):=by rw[mM (by omega)];omega
 have t2:(q.c:Int).tdiv 16=(C0:Int):=by rw[mM (by omega)];omega
 have t3:((q.r:Int)+q.h-1).tdiv 16=(RE:Int):=by rw[mM (by omega)];omega
 have t4:((q.c:Int)+q.w-1).tdiv 16=(CE:Int):=by rw[mM (by omega)];omega
 have t5:(q.r:Int)/16=(R0:Int):=by omega
 have t6:(q.c:Int)/16=(C0:Int):=by omega
 have t7:((q.r:Int)+q.h-1)/16=(RE:Int):=by omega
 have t8:((q.c:Int)+q.w-1)/16=(CE:Int):=by omega
 have u1:(RE:Int)-R0+1=(nr:Int):=by omega
 have u2:(CE:Int)-C0+1=(nc:Int):=by omega
 have r1:R0+nr<=188:=by omega
 have r2:C0+nc<=44:=by omega
 have r3:RE<=188:=by omega
 have r4:CE<=44:=by omega
 have HN:=zH (zA hR0 (zA hC0 (zA hnr hnc)));clear hR0 hC0 Br Ue hnr hnc k1 k2
 go_wp2_with fail
 rw[<-hw1]
 go_quiet (fail)
 obtain⟨w2,hw2⟩:∃w2,w2=w1.drewN nq:=⟨_,rfl⟩;have c0:∀m,(w2.drewN m).cell? W.heap.size=some (.int .i64 q.r):=λ m=>by rw[hw2];exact c0 (nq+m)
 have c1:∀m,(w2.drewN m).cell? (W.heap.size,1)=some (.int .i64 q.c):=λ m=>by rw[hw2];exact c1 (nq+m)
 have c2:∀m,(w2.drewN m).cell? (W.heap.size,2)=some (.int .i64 q.h):=λ m=>by rw[hw2];exact c2 (nq+m)
 have c3:∀m,(w2.drewN m).cell? (W.heap.size,3)=some (.int .i64 q.w):=λ m=>by rw[hw2];exact c3 (nq+m)
 have ug:Below W W w2:=by rw[hw2];exact UK.dK hbl nq
 rw[<-hw2];clear hw2 hbl hbx hw1
 go_wp2_with fail
 go_quiet (fail)
 obtain⟨w3,hw3⟩:∃w3,w3=w2.drewN nq:=⟨_,rfl⟩;have vR:Below W W w3:=by rw[hw3];exact UK.dK ug nq
 rw[<-hw3];obtain⟨pr,hpr⟩:∃pr,pr=nr*nc:=⟨_,rfl⟩;have p1:(nr:Int)*(nc:Int)=(pr:Int):=by rw[hpr];exact(Int.natCast_mul nr nc).symm
 have p2:pr<=188*44:=by rw[hpr];exact Nat.mul_le_mul (by omega) (by omega)
 clear hw3 ug c0 c1 c2 c3 t1 t2 t3 t4 t5 t6 t7 t8 u1 u2 r3 r4;by_cases h64:64<pr
 ·have q1:(64:Int)<pr:=by omega
  have hb4:Below W W (w3.alloc (.cells #[.int .u64 18446744073709551615] 77)):=vR.alloc vR.size _;have hrw:=xwo w3 [18446744073709551615] 77;have HX:=zH (zA hb4 hrw);have HY:=zH (zA vR.size (zA hpr h64));clear hb4 hrw vR hpr h64;go_wp2;go_ret;have hb:gZ q=[UInt64.ofNat qG]:=Ud (by rw[<-HN.out.2.2.1,<-HN.out.2.2.2,<-HY.out.2.1];exact HY.out.2.2);refine⟨some ⟨w3.heap.size,0,none⟩,1,by rw[hb];rfl,.inr ⟨w3.heap.size,rfl,?_⟩,λ b hb=>by rw[gz hb];exact HY.out.1,HX.out.1⟩;rw[hb];exact HX.out.2
 have q1:¬(64:Int)<pr:=by omega
 have hbk:gZ q=qM q nr:=by rw[HN.out.2.2.1];exact Uc (by rw[<-HN.out.2.2.1,<-HN.out.2.2.2,<-hpr];exact h64)
 have HB:=zH hbk;have aac:=zH hpr;clear hbk hpr h64
 go_wp2_with fail
 go_loopw [7,42] (λ u v wr=>∃(i:Nat) (ao:Option Addr) (c:Nat),u= .slice ao (qM q i).length c/\v= .int .i64 i/\i<=nr/\Hid (NR wr ao c (az (qM q i))/\(∀b,aK ao b->W.heap.size<=b)/\Below W W wr)) (λ _ v _=>20001-(intOf v).toNat)
 case atStart=>exact⟨0,none,0,rfl,rfl,aY _,zH ⟨.inl ⟨rfl,rfl,rfl⟩,λ b hb=>(by cases hb),vR⟩⟩
 clear vR;obtain⟨i,ao,c,rfl,rfl,hi,HI⟩:=hrel;by_cases hlt:i<nr
 ·have q2:(i:Int)<nr:=by omega
  obtain⟨wo,hwo⟩:∃wo,wo=wr:=⟨_,rfl⟩;subst hwo
  go_wp2_with fail
  go_loopw [7,46] (λ u v wr=>∃(k n:Nat) (ao:Option Addr) (c:Nat),u= .slice ao n c/\v= .int .i64 k/\k<=nc/\Hid (n=(qM q i++jP q i k).length/\NR wr ao c (az (qM q i++jP q i k))/\(∀b,aK ao b->W.heap.size<=b)/\Below W W wr)) (λ _ v _=>20001-(intOf v).toNat)
  case atStart=>exact⟨0,(qM q i).length,ao,c,rfl,rfl,aY _,zH ⟨by simp[jP],by simpa[jP]using HI.out.1,HI.out.2.1,HI.out.2.2⟩⟩
  clear HI;obtain⟨k,n,lS,c2,rfl,rfl,hk,HJ⟩:=hrel;by_cases hkt:k<nc
  ·have q3:(k:Int)<nc:=by omega
   obtain⟨hn,hr,ha,hb⟩:=HJ.out
   have aD:(qM q i++jP q i k).length<1000000:=by
    rw[zl,Ub,<-HN.out.2.2.2];have h1:i*nc<=188*44:=Nat.mul_le_mul (by omega) (by omega);have h2:(jP q i k).length=k:=by simp[jP]
    omega
   obtain⟨z,hz⟩:∃z,z=UInt64.ofNat (bX (R0+i) (C0+k)):=⟨_,rfl⟩;have hK:=Pe (R0+i) (C0+k) (by omega) (by omega) wr;rw[<-hz]at hK;obtain⟨g',c',w5,e1,r5,o5,hg5⟩:=CY hr aD z
   have hsn:qM q i++jP q i k++[z]=qM q i++jP q i (k+1):=by
    rw[xs5,<-cO,hz,HN.out.1,HN.out.2.1]
   rw[hsn]at r5;rw[<-hn]at e1
   have Ph:W.heap.size<=g':=by
    rcases hg5 with hg|hg
    ·exact ha g' hg
    exact aP hb.size hg
   have HY:=zH (zA (show n+1=(qM q i++jP q i (k+1)).length by rw[<-hsn,zl,<-hn];rfl) (zA r5 (zA Ph (hb.trans (o5.below hb.size Ph)))));have HK:=zH hK;clear hn hr ha hb HJ aD hK r5 o5 hg5 Ph hsn hz
   go_wp2_with fail
   refine HK.out.mono ?_;rintro e w6 ⟨rfl,rfl⟩
   go_wp2_with (at_builtin;refine UK.lH e1 rfl rfl rfl rfl rfl ?_)
   go_wp2;go_roundw
   case rel=>exact⟨k+1,n+1,_,c',by go_num,by go_num,by omega,zH ⟨HY.out.1,.inr ⟨g',rfl,HY.out.2.1⟩,λ b hb=>by rw[gz hb];exact HY.out.2.2.1,HY.out.2.2.2⟩⟩
   case measure=>simp only[intOf];omega
  obtain rfl:k=nc:=by omega
  have q3:¬(k:Int)<k:=by omega
  have hs:qM q i++jP q i k=qM q (i+1):=by rw[Ua,<-HN.out.2.2.2]
  have HK:=HJ.out;rw[hs]at HK;have HZ:=zH HK;clear HJ HK hs;go_wp2;go_roundw
  case rel=>exact⟨i+1,lS,c2,by rw[<-HZ.out.1],by go_num,by omega,zH ⟨HZ.out.2.1,HZ.out.2.2.1,HZ.out.2.2.2⟩⟩
  case measure=>simp only[intOf];omega
 obtain rfl:i=nr:=by omega
 have q2:¬(i:Int)<i:=by omega
 go_wp2;go_ret
 exact⟨ao,c,by rw[HB.out];rfl,by rw[HB.out];exact HI.out.1,HI.out.2.1,HI.out.2.2⟩
end
open Go.RowKit Go.ChangeMaps
open DP (Rc)
structure Hd where
 a:Option Nat
 n:Nat
 c:Nat
def Hd.addr(h:Hd):Option Addr:=h.a.map λ g=>⟨g,0,none⟩
def Hd.val(h:Hd):Value:=.slice h.addr h.n h.c
def nJ(h:Hd):DataW Unit:=match h.a with
 | none=>.agg [.lit (.int .i64 h.n),.lit (.int .i64 h.c)]
 | some g=>.agg [.lit (.int .i64 g),.lit (.int .i64 h.n),.lit (.int .i64 h.c)]
def Mk:Value->Option (DataW Unit×List MemPlace)
 | .slice none n c=>some (nJ ⟨none,n,c⟩,[])
 | .slice (some (Addr.mk g 0 none)) n c=>some (nJ ⟨some g,n,c⟩,[])
 | _=>none
theorem Uf(h:Hd):Mk h.val=some (nJ h,[]):=by
 rcases h with⟨a,n,c⟩
 cases a<;>rfl
theorem Ug{h k:Hd}(e:nJ h=nJ k):h=k:=by
 rcases h with⟨a,n,c⟩;rcases k with⟨b,m,d⟩
 cases a<;>cases b<;>simp[nJ]at e<;>(simp;omega)
theorem xzs{v:Value}{h:Hd}{ps:List MemPlace}(e:Mk v=some (nJ h,ps)):v=h.val:=by
 unfold Mk at e
 split at e
 ·have:=Ug (Prod.mk.inj (aZ e)).1;rw[<-this];rfl
 ·have:=Ug (Prod.mk.inj (aZ e)).1;rw[<-this];rfl
 cases e
def mO(P:Program)(K:TypeId)(W:World)(M n:Nat)(hd:UInt64->Hd):Prop:=
 ∃D:DataW Unit,W.ownsMap P K Mk M n D/\∀k:UInt64,D.atKey (.int .u64 (k.toNat:Int)) (nJ ⟨none,0,0⟩)=nJ (hd k)
theorem Uh(k:UInt64):(Lit.int .u64 (k.toNat:Int)).wf=true:=by
 have:=k.toNat_lt;have h1:IntKind.u64.min=0:=by decide
 have h2:IntKind.u64.max=18446744073709551615:=by decide
 show(decide (IntKind.u64.min<=(k.toNat:Int))&&decide ((k.toNat:Int)<=IntKind.u64.max))=true;rw[h1,h2,decide_eq_true (by omega),decide_eq_true (by omega)];rfl
namespace mO
variable{P:Program}{K E t:TypeId}{W W':World}{M n:Nat}{hd:UInt64->Hd}
theorem new(W:World):mO P K (W.alloc (.map #[] 0)) W 0 (λ _=>⟨none,0,0⟩):=
 ⟨.map [],World.ownsMap_made _ _ _ _,λ _=>rfl⟩
theorem lt(h:mO P K W M n hd):M<W.heap.size:=by
 obtain⟨D,h,_⟩:=h;exact h.lt
theorem ae(h:mO P K W M n hd)(hb:W'.heap[M]?=W.heap[M]?):mO P K W' M n hd:=by
 obtain⟨D,⟨es,cl,h1,h2,h3,h4⟩,r⟩:=h;exact⟨D,⟨es,cl,hb.trans h1,h2,h3,h4⟩,r⟩
theorem get(h:mO P K W M n hd)(hK:P.underlying K=some (.int .u64))(ht:P.underlying t=some (.map K E))(hz:∀w,(zeroValue E).run P w= .ok (.slice none 0 0) w)(k:UInt64) :
  (Instr.lookup t (.map (some M)) (.int .u64 (k.toNat:Int)) false).run P W= .ok (hd k).val W:=by
 obtain⟨D,h,ha⟩:=h;obtain⟨v,ps,hrun,hv⟩:=h.lookup (Maps.int_keyed hK) ht (hz W) (Uf ⟨none,0,0⟩) (Maps.keyOf_int_mk hK (Uh k));rw[ha k]at hv;rw[hrun,xzs hv]
theorem put(h:mO P K W M n hd)(hK:P.underlying K=some (.int .u64))(ht:P.underlying t=some (.map K E))(hn:n<maxLen)(k:UInt64)(x:Hd) :
  ∃W',(Instr.mapUpdate t (.map (some M)) (.int .u64 (k.toNat:Int)) x.val).run P W= .ok () W'/\mO P K W' M (n+1) (λ j=>if j=k then x else hd j)/\Only M W W':=by
 obtain⟨D,h,ha⟩:=h;obtain⟨W',hrun,h',ht'⟩:=h.store (Maps.int_keyed hK) ht hn (Maps.keyOf_int_mk hK (Uh k)) (Uf x);have hkl:WideAt.IsKeyLit (.int .u64 (k.toNat:Int)):=trivial;refine⟨W',hrun,⟨_,h',λ j=>?_⟩,UK.kG.fw ht'⟩;by_cases e:j=k
 ·subst e;rw[Maps.atKey_put_same h.isMap hkl];show nJ x=nJ (if j=j then x else hd j);rw[if_pos rfl]
 show _=nJ (if j=k then x else hd j);rw[if_neg e,Maps.atKey_put_other,ha j];intro e2;apply e;have:(j.toNat:Int)=(k.toNat:Int):=by simpa using e2
 exact mJ.1 (by omega)
end mO
open Go.RowKit Go.ChangeMaps
open UK (str aF nth Only Row ay)
open DP (Rc)
def kU(b:UInt64)(ps:List (UInt64×Rc)):List Rc:=(ps.filter λ p=>p.1==b).map (·.2)
theorem Ui(b d:UInt64)(q:Rc)(ps:List (UInt64×Rc)):kU b (ps++[(d,q)])=if b=d then kU b ps++[q] else kU b ps:=by
 unfold kU;rw[List.filter_append,dO];by_cases h:b=d
 ·subst h;simp
 have:(d==b)=false:=by simp;exact λ e=>h e.symm
 simp[h,this]
theorem Uj{b:UInt64}{ps:List (UInt64×Rc)}:kU b ps=[]↔b∉ps.map (·.1):=by
 unfold kU;rw[List.map_eq_nil_iff,List.filter_eq_nil_iff]
 constructor
 ·intro h hm;obtain⟨p,hp,e⟩:=bQ.1 hm;exact h p hp (by simpa using e)
 intro h p hp e;exact h (bQ.2 ⟨p,hp,by simpa using e⟩)
structure ShM(S:Nat->Prop)(N:Nat)(w:World)(M:Nat)(ps:List (UInt64×Rc))(ao:Option Addr)(c:Nat)(ks:List UInt64)(n:Nat)(hd:UInt64->Hd):Prop where
 ag:NR w ao c (az ks)
 map:mO Tryz.prog 77 w M n hd
 list:∀b,RX w (hd b).addr (hd b).c (kU b ps)/\(hd b).n=(kU b ps).length
 uh:∀b,(hd b).a=none↔kU b ps=[]
 own:∀b j,(hd b).a=some j->N<=j/\j≠M/\¬aK ao j/\¬S j/\∀d,d≠b->(hd d).a≠some j
 qa:∀j,aK ao j->N<=j/\j≠M/\¬S j
 rV:N<=M/\¬S M
 low:∀j,S j->j<w.heap.size
section
variable{S:Nat->Prop}{N M n c:Nat}{w w':World}{ps:List (UInt64×Rc)}{ao:Option Addr}{ks:List UInt64}{hd:UInt64->Hd}
theorem uV{h:Hd}{j:Nat}:aK h.addr j↔h.a=some j:=by
 rcases h with⟨a,n,c⟩
 cases a with
 | none=>exact⟨λ e=>(by cases e),λ e=>(by cases e)⟩
 | some g=>exact⟨λ e=>congrArg some (gz e).symm,λ e=>by cases e;rfl⟩
theorem ShM.key{w1:World}{g' c':Nat}{b:UInt64}(h:ShM S N w M ps ao c ks n hd)(r:Row w1 g' c' (az (ks++[b])))(o:Only g' w w1)(hg:aK ao g'\/w.heap.size<=g')(hN:N<=w.heap.size) :
  ShM S N w1 M ps g' c' (ks++[b]) n hd/\Kept (λ j=>S j\/j<N) w w1:=by
 have hM:=h.map.lt
 have dV:g'≠M:=by
  rcases hg with hg|hg
  ·exact(h.qa g' hg).2.1
  omega
 have hgN:N<=g':=by
  rcases hg with hg|hg
  ·exact(h.qa g' hg).1
  omega
 have Bt:¬S g':=by
  rcases hg with hg|hg
  ·exact(h.qa g' hg).2.2
  exact λ e=>by have:=h.low g' e;omega
 have hgl:∀b,(hd b).a≠some g':=λ b e=>by
  rcases hg with hg|hg
  ·exact(h.own b g' e).2.2.1 hg
  have:=(h.list b).1.lt (uV.2 e);omega
 refine⟨⟨.inr ⟨g',rfl,r⟩,h.map.ae (o.block M hM dV.symm),λ b=>⟨(h.list b).1.ae o.size (λ j hj=>o.block j ((h.list b).1.lt hj) (λ e=>hgl b (by rw[<-e];exact uV.1 hj))),(h.list b).2⟩,h.uh,λ b j hj=>?_,λ j hj=>?_,h.rV,λ j hj=>bZ (h.low j hj) o.size⟩,⟨o.os,o.tape,o.output,o.size,λ j hj=>?_⟩⟩
 ·obtain⟨a1,a2,a3,a4,a5⟩:=h.own b j hj;exact⟨a1,a2,λ e=>hgl b (by rw[hj,gz e]),a4,a5⟩
 ·rw[gz hj];exact⟨hgN,dV,Bt⟩
 rcases hj with hj|hj
 ·exact o.block j (h.low j hj) (λ e=>Bt (e▸hj))
 exact o.block j (by omega) (by omega)
theorem ShM.Pj{w1 w2:World}{g' c':Nat}{b:UInt64}{q:Rc}(h:ShM S N w M ps ao c ks n hd)(r:RX w1 g' c' (kU b ps++[q]))(o:Only g' w w1)(hg:aK (hd b).addr g'\/w.heap.size<=g')(hN:N<=w.heap.size)
  (hm:mO Tryz.prog 77 w2 M (n+1) (λ j=>if j=b then⟨some g',(kU b ps).length+1,c'⟩ else hd j)) (o2:Only M w1 w2) :
  ShM S N w2 M (ps++[(b,q)]) ao c ks (n+1) (λ j=>if j=b then⟨some g',(kU b ps).length+1,c'⟩ else hd j)/\Kept (λ j=>S j\/j<N) w w2:=by
 have hM:=h.map.lt
 have dV:g'≠M:=by
  rcases hg with hg|hg
  ·exact(h.own b g' (uV.1 hg)).2.1
  omega
 have hgN:N<=g':=by
  rcases hg with hg|hg
  ·exact(h.own b g' (uV.1 hg)).1
  omega
 have Bt:¬S g':=by
  rcases hg with hg|hg
  ·exact(h.own b g' (uV.1 hg)).2.2.2.1
  exact λ e=>by have:=h.low g' e;omega
 have Df:¬aK ao g':=λ e=>by
  rcases hg with hg|hg
  ·exact(h.own b g' (uV.1 hg)).2.2.1 e
  have:=h.ag.lt e;omega
 have hgl:∀d,d≠b->(hd d).a≠some g':=λ d Pk e=>by
  rcases hg with hg|hg
  ·exact(h.own b g' (uV.1 hg)).2.2.2.2 d Pk e
  have:=(h.list d).1.lt (uV.2 e);omega
 have kb:∀j,j<w.heap.size->j≠g'->j≠M->w2.heap[j]?=w.heap[j]?:=λ j h1 h2 h3=>(o2.block j (bZ h1 o.size) h3).trans (o.block j h1 h2);have hsz:=aP o.size o2.size;refine⟨⟨h.ag.ae hsz (λ j hj=>kb j (h.ag.lt hj) (λ e=>Df (e▸hj)) (h.qa j hj).2.1),hm,λ d=>?_,λ d=>?_,λ d j hj=>?_,h.qa,h.rV,λ j hj=>bZ (h.low j hj) hsz⟩,⟨o2.os.trans o.os,o2.tape.trans o.tape,o2.output.trans o.output,hsz,λ j hj=>?_⟩⟩
 ·rw[Ui];by_cases e:d=b
  ·subst e;simp only[if_pos];exact⟨r.ae o2.size (λ j hj=>o2.block j (r.lt hj) (by rw[gz hj];exact dV)),by simp⟩
  simp only[if_neg e];exact⟨(h.list d).1.ae hsz (λ j hj=>kb j ((h.list d).1.lt hj) (λ e2=>hgl d e (by rw[<-e2];exact uV.1 hj)) (h.own d j (uV.1 hj)).2.1),(h.list d).2⟩
 ·rw[Ui];by_cases e:d=b
  ·simp only[if_pos e];simp
  simp only[if_neg e];exact h.uh d
 ·by_cases e:d=b
  ·subst e;simp only[if_pos]at hj;obtain rfl:g'=j:=aZ hj;refine⟨hgN,dV,Df,Bt,λ d2 h2=>?_⟩;simp only[if_neg h2];exact hgl d2 h2
  simp only[if_neg e]at hj;obtain⟨a1,a2,a3,a4,a5⟩:=h.own d j hj;refine⟨a1,a2,a3,a4,λ d2 h2=>?_⟩;by_cases e2:d2=b
  ·simp only[if_pos e2];exact λ e3=>hgl d e (by rw[hj];exact e3.symm)
  simp only[if_neg e2];exact a5 d2 h2
 rcases hj with hj|hj
 ·exact kb j (h.low j hj) (λ e=>Bt (e▸hj)) (λ e=>h.rV.2 (e▸hj))
 exact kb j (by omega) (by omega) (by have:=h.rV.1;omega)
theorem ShM.wide{T:Nat->Prop}(h:ShM S N w M ps ao c ks n hd)(hb:Below w w w')(hT:∀j,T j->w.heap.size<=j/\j<w'.heap.size):ShM (λ j=>S j\/T j) N w' M ps ao c ks n hd:=by
 have hM:=h.map.lt;refine⟨h.ag.ae hb.size (λ j hj=>hb.block j (h.ag.lt hj)),h.map.ae (hb.block M hM),λ b=>⟨(h.list b).1.ae hb.size (λ j hj=>hb.block j ((h.list b).1.lt hj)),(h.list b).2⟩,h.uh,λ b j hj=>?_,λ j hj=>?_,⟨h.rV.1,λ e=>e.elim h.rV.2 (λ e=>by have:=hT M e;omega)⟩,λ j hj=>?_⟩
 ·obtain⟨a1,a2,a3,a4,a5⟩:=h.own b j hj;exact⟨a1,a2,a3,λ e=>e.elim a4 (λ e=>by have:=hT j e;have:=(h.list b).1.lt (uV.2 hj);omega),a5⟩
 ·obtain⟨a1,a2,a3⟩:=h.qa j hj;exact⟨a1,a2,λ e=>e.elim a3 (λ e=>by have:=hT j e;have:=h.ag.lt hj;omega)⟩
 rcases hj with hj|hj
 ·exact bZ (h.low j hj) hb.size
 exact(hT j hj).2
theorem ShM.less{T:Nat->Prop}(h:ShM S N w M ps ao c ks n hd)(hT:∀j,T j->S j):ShM T N w M ps ao c ks n hd:=
 ⟨h.ag,h.map,h.list,h.uh,λ b j hj=>by
  obtain⟨a1,a2,a3,a4,a5⟩:=h.own b j hj;exact⟨a1,a2,a3,λ e=>a4 (hT j e),a5⟩,λ j hj=>by
  obtain⟨a1,a2,a3⟩:=h.qa j hj;exact⟨a1,a2,λ e=>a3 (hT j e)⟩,⟨h.rV.1,λ e=>h.rV.2 (hT M e)⟩,λ j hj=>h.low j (hT j hj)⟩
end
open DP (Rc share)
open Go.BigFrame
def nk(q:Rc):List (UInt64×Rc):=(gZ q).map λ b=>(b,q)
def lT(l:List Rc):List (UInt64×Rc):=l.flatMap nk
theorem IK(q:Rc):(gZ q).length<=64:=by
 by_cases hw:64<q.nr*q.nc
 ·rw[Ud hw];exact Nat.le_of_lt (by decide)
 rw[Uc hw,Ub];omega
theorem Pm(l:List Rc):(lT l).length<=64*l.length:=by
 induction l with
 | nil=>simp[lT]
 | cons q l ih=>
  have h1:=IK q;have h2:=ih;unfold lT at h2 ⊢;rw[iL,zl,dn,Nat.mul_succ];unfold nk;rw[df];unfold nk at h2;omega
theorem Pn{q:Rc}(h:q.ok):(gZ q).map UInt64.toNat=q.nR:=by
 unfold gZ;rw[List.map_map];refine(List.map_congr_left (λ x hx=>?_)).trans (List.map_id _);show(UInt64.ofNat x).toNat=x;rw[UInt64.toNat_ofNat'];rcases DP.tZ h hx with e|e
 ·rw[e];decide
 omega
theorem Ml{q:Rc}(h:q.ok){b:UInt64}:b∈gZ q↔b.toNat∈q.nR:=by
 rw[<-Pn h,bQ];exact⟨λ e=>⟨b,e,rfl⟩,λ ⟨x,hx,e⟩=>mJ.1 e▸hx⟩
theorem xqy{q:Rc}(h:q.ok):(gZ q).Nodup:=by
 have h1:=DP.Eo h;unfold DP.Up at h1;rw[<-Pn h,List.pairwise_map]at h1;exact h1.imp (λ hlt e=>by rw[e]at hlt;omega)
theorem Uk(b:UInt64)(ps qs:List (UInt64×Rc)):kU b (ps++qs)=kU b ps++kU b qs:=by
 unfold kU;rw[List.filter_append,dO]
theorem xqz{q:Rc}(h:q.ok)(b:UInt64):kU b (nk q)=if b.toNat∈q.nR then [q] else []:=by
 have key:∀l:List UInt64,l.Nodup->kU b (l.map λ x=>(x,q))=if b∈l then [q] else []:=by
  intro l
  induction l with
  | nil=>intro _;rfl
  | cons x l ih=>
   intro hn;obtain⟨h1,h2⟩:=dW.1 hn;have e:((x::l).map λ x=>(x,q))=[(x,q)]++l.map λ x=>(x,q):=rfl;rw[e,Uk,ih h2];by_cases hx:x=b
   ·subst hx;simp[kU,h1]
   have hx':¬b=x:=λ e=>hx e.symm;simp[kU,hx,hx']
 unfold nk;rw[key _ (xqy h)];by_cases hb:b∈gZ q
 ·rw[if_pos hb,if_pos ((Ml h).1 hb)]
 rw[if_neg hb,if_neg (λ e=>hb ((Ml h).2 e))]
theorem Po{l:List Rc}(h:∀q∈l,q.ok)(b:UInt64):kU b (lT l)=share b.toNat l:=by
 induction l with
 | nil=>rfl
 | cons q l ih=>
  have e:lT (q::l)=nk q++lT l:=by unfold lT;rw[iL]
  rw[e,Uk,xqz (h q (aT ..)),ih (λ x hx=>h x (cu _ hx))];unfold share;rw[List.filter_cons];by_cases hb:b.toNat∈q.nR<;>simp[hb]
theorem Ul{l:List Rc}(h:∀q∈l,q.ok)(b:UInt64):b∈(lT l).map (·.1)↔∃q∈l,b.toNat∈q.nR:=by
 unfold lT nk;rw[List.map_flatMap,List.mem_flatMap]
 constructor
 ·rintro⟨q,hq,hb⟩;rw[List.map_map]at hb;obtain⟨x,hx,rfl⟩:=bQ.1 hb;exact⟨q,hq,(Ml (h q hq)).1 hx⟩
 rintro⟨q,hq,hb⟩;refine⟨q,hq,?_⟩;rw[List.map_map];exact bQ.2 ⟨b,(Ml (h q hq)).2 hb,rfl⟩
def Dh(ks:List UInt64)(ps:List (UInt64×Rc)):Prop:=ks.Nodup/\(∀b,b∈ks↔b∈ps.map (·.1))/\ks.length<=ps.length
theorem Dh.old{ks:List UInt64}{ps:List (UInt64×Rc)}{b:UInt64}{q:Rc}(h:Dh ks ps)(hb:kU b ps≠[]):Dh ks (ps++[(b,q)]):=by
 obtain⟨h1,h2,h3⟩:=h;have hm:b∈ps.map (·.1):=Decidable.of_not_not (λ e=>hb (Uj.2 e));refine⟨h1,λ d=>?_,by rw[zl];omega⟩;rw[dO,dD,h2 d]
 constructor
 ·exact .inl
 rintro(e|e)
 ·exact e
 simp only[je,List.map_nil,bz]at e;rw[e];exact hm
theorem Dh.new{ks:List UInt64}{ps:List (UInt64×Rc)}{b:UInt64}{q:Rc}(h:Dh ks ps)(hb:kU b ps=[]):Dh (ks++[b]) (ps++[(b,q)]):=by
 obtain⟨h1,h2,h3⟩:=h;have hm:b∉ks:=λ e=>Uj.1 hb ((h2 b).1 e);refine⟨bN.2 ⟨h1,by simp,λ x hx y hy=>?_⟩,λ d=>?_,by rw[zl,zl];simp only[dn,List.length_nil];omega⟩
 ·rw[bz.1 hy];exact λ e=>hm (e▸hx)
 rw[dO,dD,dD,h2 d];rfl
def xzt(W w:World)(l:List Rc)(e:Ending):Prop:=
 ∃ao c ks n hd M,e= .returned (.tuple #[.slice ao ks.length c,.map (some M)])/\NR w ao ks.length (az ks)/\(ks.Pairwise λ x y=>x.toNat<y.toNat)/\(∀b:UInt64,b∈ks↔∃q∈l,b.toNat∈q.nR)/\mO Tryz.prog 77 w M n hd /\
  (∀b,RX w (hd b).addr (hd b).c (share b.toNat l)/\(hd b).n=(share b.toNat l).length/\((hd b).a=none↔share b.toNat l=[])/\∀j,(hd b).a=some j->W.heap.size<=j)/\(∀j,aK ao j->W.heap.size<=j)/\W.heap.size<=M/\Below W W w
section
variable{W:World}{ro:Option Addr}{rc:Nat}{l:List Rc}
theorem ShM.run{S:Nat->Prop}{N M n c:Nat}{w:World}{ps:List (UInt64×Rc)}{ao:Option Addr}{ks:List UInt64}{hd:UInt64->Hd}(h:ShM S N w M ps ao c ks n hd)(hN:N<=w.heap.size)(hn:n<=100000)(b:UInt64)(q:Rc)(hl:(kU b ps).length<=1000000) :
  ∃g' c' w4 w5 hd',(Builtin.append_ #[33,33] 33 #[.slice (hd b).addr (kU b ps).length (hd b).c,.slice w 1 1]).run Tryz.prog (w.alloc (.cells #[.int .i64 q.r,.int .i64 q.c,.int .i64 q.h,.int .i64 q.w] 23))= .ok (.slice (some ⟨g',0,none⟩) ((kU b ps).length+1) c') w4 /\
   (Instr.mapUpdate 89 (.map (some M)) (.int .u64 (b.toNat:Int)) (.slice g' ((kU b ps).length+1) c')).run Tryz.prog w4= .ok () w5/\ShM S N w5 M (ps++[(b,q)]) ao c ks (n+1) hd'/\Kept (λ j=>S j\/j<N) w w5:=by
 obtain⟨g',c',w4,e1,r4,hg,o4⟩:=(h.list b).1.push hl q
 have dV:g'≠M:=by
  rcases hg with hg|hg
  ·exact(h.own b g' (uV.1 hg)).2.1
  have:=h.map.lt;omega
 have Pp:=h.map.ae (o4.block M h.map.lt dV.symm);obtain⟨w5,e5,hm5,o5⟩:=Pp.put (t:=89) (E:=33) Tryz.underlying77 Tryz.underlying89 (Nat.lt_of_le_of_lt hn (by decide)) b ⟨some g',(kU b ps).length+1,c'⟩;obtain⟨k1,k2⟩:=h.Pj r4 o4 hg hN hm5 o5;exact⟨g',c',w4,w5,_,e1,e5,k1,k2⟩
theorem ShM.get{S:Nat->Prop}{N M n c:Nat}{w:World}{ps:List (UInt64×Rc)}{ao:Option Addr}{ks:List UInt64}{hd:UInt64->Hd}(h:ShM S N w M ps ao c ks n hd)(b:UInt64) :
  (Instr.lookup 89 (.map (some M)) (.int .u64 (b.toNat:Int)) false).run Tryz.prog w= .ok (.slice (hd b).addr (kU b ps).length (hd b).c) w:=by
 have:=h.map.get (t:=89) (E:=33) Tryz.underlying77 Tryz.underlying89 Tryz.zeroValue33 b;rw[this];unfold Hd.val;rw[(h.list b).2]
theorem Bu{w:World}{B:Nat}{q:Rc}(h:ay w B #[.int .i64 q.r,.int .i64 q.c,.int .i64 q.h,.int .i64 q.w]):w.cell? B=some (.int .i64 q.r)/\w.cell? (B,1)=some (.int .i64 q.c)/\w.cell? (B,2)=some (.int .i64 q.h)/\w.cell? (B,3)=some (.int .i64 q.w):=
 ⟨h.cell 0 _ rfl,h.cell 1 _ rfl,h.cell 2 _ rfl,h.cell 3 _ rfl⟩
theorem Um(hr:RX W ro rc l)(hok:∀q∈l,q.ok)(hl:l.length<=700) :
  Calls Tryz.prog 41 #[.slice ro l.length rc] W λ e w'=>xzt W w' l e:=by
 have hmm:∀w:World,(Instr.makeMap 89 none).run Tryz.prog w= .ok (.map (some w)) (w.alloc (.map #[] 0)):=run_makeMap _;have hb0:Below W W (W.alloc (.map #[] 0)):=(aV _ _).alloc (aO _) _;have hs0:(W.alloc (.map #[] 0)).heap.size=W.heap.size+1:=by simp
 have h0:ShM (λ _=>False) W (W.alloc (.map #[] 0)) W [] none 0 [] 0 (λ _=>⟨none,0,0⟩):=
  ⟨.inl ⟨rfl,rfl,rfl⟩,mO.new W,λ b=>⟨.inl ⟨rfl,rfl,rfl⟩,rfl⟩,λ b=>⟨λ _=>rfl,λ _=>rfl⟩,λ b j hj=>(by cases hj),λ j hj=>(by cases hj),⟨aO _,id⟩,λ j hj=>hj.elim⟩
 have H0:=zH (zA h0 hb0);have HR:=zH (zA hr hok);clear hr hok h0 hb0 hs0
 go_enter Tryz.func41,Tryz.ntmps41
 go_wp2_with fail
 go_loopw [5,13] (λ u v wr=>∃(i c n:Nat) (ao:Option Addr) (ks:List UInt64) (hd:UInt64->Hd),u= .slice ao ks.length c/\v= .int .i64 i/\i<=l.length/\Hid (ShM (λ _=>False) W wr W (lT (l.take i)) ao c ks n hd/\Dh ks (lT (l.take i))/\n=(lT (l.take i)).length/\Below W W wr)) (λ _ v _=>20001-(intOf v).toNat)
 case atStart=>exact⟨0,0,0,none,[],λ _=>⟨none,0,0⟩,rfl,rfl,aY _,zH ⟨H0.out.1,⟨List.nodup_nil,λ b=>Iff.rfl,aO _⟩,rfl,H0.out.2⟩⟩
 clear H0 hmm;obtain⟨i,c,n,ao,ks,hd,rfl,rfl,hi,HI⟩:=hrel;by_cases hlt:i<l.length
 ·obtain⟨q,hq⟩:∃q,l[i]?=some q:=⟨_,bL hlt⟩;obtain⟨hM,hK,hn,hbl⟩:=HI.out;obtain⟨hr,hok⟩:=HR.out;have hqo:=hok q (eZ hq);have Gt:l[i]=q:=aZ ((bL hlt).symm.trans hq);have hr2:RX wr ro rc l:=hr.ae hbl.size (λ b hb=>hbl.block b (hr.lt hb));obtain⟨rb,rfl,d0,d1,d2,d3⟩:=hr2.four hq;have q1:(i:Int)<l.length:=by omega
  obtain⟨wo,hwo⟩:∃wo,wo=wr:=⟨_,rfl⟩;subst hwo;have hb1:Below wo wo (wo.alloc (.cells #[.int .i64 q.r,.int .i64 q.c,.int .i64 q.h,.int .i64 q.w] 23)):=(aV _ _).alloc (aO _) _;have hbx:=ay.new wo #[.int .i64 q.r,.int .i64 q.c,.int .i64 q.h,.int .i64 q.w] 23;have hs1:(wo.alloc (.cells #[.int .i64 q.r,.int .i64 q.c,.int .i64 q.h,.int .i64 q.w] 23)).heap.size=wo.heap.size+1:=by simp
  have IL:=zH (xnj q hqo (wo.alloc (.cells #[.int .i64 q.r,.int .i64 q.c,.int .i64 q.h,.int .i64 q.w] 23)))
  have htk:lT (l.take (i+1))=lT (l.take i)++nk q:=by
   unfold lT;rw[List.take_succ_eq_append_getElem hlt,Gt,List.flatMap_append];simp
  have HX:=zH (zA hM (zA hK (zA hn (zA hbl (zA hb1 (zA hbx hs1))))));have HT:=zH (zA htk hqo);clear hM hK hn hbl hr hok hqo Gt hr2 hq hb1 hbx hs1 HI htk
  go_wp2_with fail
  refine IL.out.mono ?_;rintro e w2 ⟨bo,bc,rfl,hb2,hbn,ug⟩;obtain⟨hM,hK,hn,hbl,hb1,hbx,hs1⟩:=HX.out;have hB:=hb1.trans (ug.mono hb1.size);have hsz2:=ug.size;obtain⟨S,hS⟩:∃S:Nat->Prop,S=λ j=>False\/(j=wo.heap.size\/aK bo j):=⟨_,rfl⟩
  have hM2:ShM S W w2 W (lT (l.take i)) ao c ks n hd:=by
   rw[hS];refine hM.wide hB (λ j hj=>?_);rcases hj with rfl|hj
   ·omega
   have:=hbn j hj;have:=hb2.lt hj;omega
  have yg:=hbx.below ug (by omega);have Gw:W.heap.size<=w2.heap.size:=by have:=hbl.size;omega
  have HY:=zH (zA hM2 (zA hK hn));have HZ:=zH (zA (hbl.trans (hB.mono hbl.size)) (zA yg (zA hb2 (zA hS Gw))));clear hM hK hn hbl hb1 hbx hs1 hB hsz2 hM2 yg hb2 hbn ug IL HX hS d0 d1 d2 d3 Gw
  go_wp2_with fail
  go_loopw [5,20] (λ u v wr=>∃(k c n:Nat) (ao:Option Addr) (ks:List UInt64) (hd:UInt64->Hd),u= .slice ao ks.length c/\v= .int .i64 k/\k<=(gZ q).length/\Hid (ShM S W wr W (lT (l.take i)++(nk q).take k) ao c ks n hd/\Dh ks (lT (l.take i)++(nk q).take k)/\n=(lT (l.take i)++(nk q).take k).length/\Kept (λ j=>S j\/j<W.heap.size) w2 wr)) (λ _ v _=>20001-(intOf v).toNat)
  case atStart=>exact⟨0,c,n,ao,ks,hd,rfl,rfl,aY _,zH ⟨by simpa using HY.out.1,by simpa using HY.out.2.1,by simpa using HY.out.2.2,Kept.refl _ _⟩⟩
  clear HY;obtain⟨k,c,n,ao,ks,hd,rfl,rfl,hk,HJ⟩:=hrel;obtain⟨hM,hK,hn,hkp⟩:=HJ.out;obtain⟨vS,hbx,hbr,hS,Gw⟩:=HZ.out;by_cases hkt:k<(gZ q).length
  ·obtain⟨b,hb⟩:∃b,(gZ q)[k]?=some b:=⟨_,bL hkt⟩;have hgb:(gZ q)[k]=b:=aZ ((bL hkt).symm.trans hb)
   obtain⟨bb,hbb,hrow⟩:∃bb,bo=some ⟨bb,0,none⟩/\Row w2 bb bc (az (gZ q)):=by
    rcases hbr with⟨_,hv,_⟩|⟨bb,e,r⟩
    ·exfalso;have:=congrArg List.length hv;rw[dA]at this;simp only[List.length_nil]at this;omega
    exact⟨bb,e,r⟩
   have hrow2:Row wr bb bc (az (gZ q)):=hrow.ae hkp.size (hkp.block bb (.inl (by rw[hS,hbb];exact .inr (.inr rfl))));have d9:wr.cell? (bb,k)=some (.int .u64 (b.toNat:Int)):=hrow2.at' k _ (tH _ _ _ hb);have q3:(k:Int)<(gZ q).length:=by omega
   have Pq:W.heap.size<=wr.heap.size:=aP Gw hkp.size;have Bv:=hbx.ae (hkp.block _ (.inl (by rw[hS];exact .inr (.inl rfl))))
   have hpl:(lT (l.take i)++(nk q).take k).length<=60000:=by
    have h1:=Pm (l.take i);have h2:=IK q;rw[zl,zt]at *;unfold nk;rw[df];omega
   have hsn:lT (l.take i)++(nk q).take k++[(b,q)]=lT (l.take i)++(nk q).take (k+1):=by
    rw[cO]
    congr 1
    rw[List.take_succ_eq_append_getElem (by unfold nk;rw[df];exact hkt)]
    congr 2
    unfold nk;rw[List.getElem_map,hgb]
   subst hbb;have hnn:n<=60000:=by omega
   have Gx:=zH (zA hkt (IK q));have CO:k<64:=by have:=IK q;omega
   clear hkt hb hgb hrow hrow2 vS hbr hpl
   cases ui:(hd b).a with
   | none=>
    have hsel:=(hM.uh b).1 ui;have e1:=hM.get b
    have hhd:(hd b).addr=none/\(hd b).c=0:=by
     rcases(hM.list b).1 with⟨a1,_,a2⟩|⟨g,a1,_⟩
     ·exact⟨a1,a2⟩
     unfold Hd.addr at a1;rw[ui]at a1;cases a1
    rw[hhd.1,hhd.2,hsel]at e1;have hks:ks.length<1000000:=by have:=hK.2.2;omega
    obtain⟨g',c',w3,e2,r3,o3,hg3⟩:=CY hM.ag hks b;obtain⟨Ps,hk3⟩:=hM.key (b:=b) r3 o3 hg3 Pq;have e3:=Ps.get b;rw[hhd.1,hhd.2,hsel]at e3;have hN3:=aP Pq hk3.size;obtain⟨g4,c4,w4,w5,hd5,e4,e5,Ey,hk5⟩:=Ps.run hN3 (by omega) b q (by rw[hsel];exact aY _);rw[hhd.1,hhd.2,hsel]at e4;rw[hsel]at e5;simp only[List.length_nil,eG]at e1 e3 e4 e5;have yh:=Bv.ae (hk3.block _ (.inl (by rw[hS];exact .inr (.inl rfl))));obtain⟨d0,d1,d2,d3⟩:=Bu yh;have Ez:=hK.new (q:=q) hsel;rw[hsn]at Ey Ez;have HF:=zH (zA Ey (zA Ez (zA (show n+1=(lT (l.take i)++(nk q).take (k+1)).length by rw[<-hsn,zl,<-hn];rfl) ((hkp.trans hk3).trans hk5))));have hnil:∀W,(binOp .eql 33 (.slice none 0 0) (.slice none 0 0)).run Tryz.prog W= .ok (.bool true) W:=λ W=>Lib.run_eql_slice_nil W _ _ none 0 0 0 0 Tryz.underlying33;clear hM hK hn hkp HJ Ps hk3 Ey hk5 Ez hbx Bv yh r3 o3 hg3 hS hsn hsel hhd ui
    go_wp2_with (at_builtin;first|refine UK.lH e2 rfl rfl rfl rfl rfl ?_|refine UK.lH e4 rfl rfl rfl rfl rfl ?_)
    go_wp2;go_roundw
    case rel=>exact⟨k+1,c',n+1,_,ks++[b],hd5,by rw[zl];rfl,by go_num,by have:=Gx.out.1;omega,HF⟩
    case measure=>simp only[intOf];have:=Gx.out.1;have:=Gx.out.2;omega
   | some g=>
    have hsel:kU b (lT (l.take i)++(nk q).take k)≠[]:=λ e=>by rw[(hM.uh b).2 e]at ui;cases ui
    have e1:=hM.get b;have hhd:(hd b).addr=some ⟨g,0,none⟩:=by unfold Hd.addr;rw[ui];rfl
    obtain⟨g4,c4,w4,w5,hd5,e4,e5,Ey,hk5⟩:=hM.run Pq (by omega) b q (by
     have:(kU b (lT (l.take i)++(nk q).take k)).length<=(lT (l.take i)++(nk q).take k).length:=by
      unfold kU;rw[df];exact List.length_filter_le ..
     omega)
    obtain⟨x,hx⟩:∃x,x=(kU b (lT (l.take i)++(nk q).take k)).length:=⟨_,rfl⟩;rw[hhd,<-hx]at e1 e4;rw[<-hx]at e5;obtain⟨cc,hcc⟩:∃cc,cc=(hd b).c:=⟨_,rfl⟩;rw[<-hcc]at e1 e4;obtain⟨d0,d1,d2,d3⟩:=Bu Bv;have Ez:=hK.old (q:=q) hsel;rw[hsn]at Ey Ez;have HF:=zH (zA Ey (zA Ez (zA (show n+1=(lT (l.take i)++(nk q).take (k+1)).length by rw[<-hsn,zl,<-hn];rfl) (hkp.trans hk5))));have hnil:∀W n c,(binOp .eql 33 (.slice g n c) (.slice none 0 0)).run Tryz.prog W= .ok (.bool false) W:=λ W n c=>Lib.run_eql_slice_nil W _ _ _ _ _ _ _ Tryz.underlying33;clear hM hK hn hkp HJ Ey hk5 Ez hbx Bv hS hsn hsel hhd ui hx hcc
    go_wp2_with (at_builtin;refine UK.lH e4 rfl rfl rfl rfl rfl ?_)
    go_wp2;go_roundw
    case rel=>exact⟨k+1,c,n+1,_,ks,hd5,rfl,by go_num,by have:=Gx.out.1;omega,HF⟩
    case measure=>simp only[intOf];have:=Gx.out.1;have:=Gx.out.2;omega
  obtain rfl:k=(gZ q).length:=by omega
  have htk:(nk q).take (gZ q).length=nk q:=fO (by unfold nk;rw[df];exact aO _);rw[htk,<-HT.out.1]at hM hK hn;have hF:Below W W wr:=⟨hkp.os.trans vS.os,hkp.tape.trans vS.tape,hkp.output.trans vS.output,aP Gw hkp.size,λ j hj=>(hkp.block j (.inr hj)).trans (vS.block j hj)⟩;have HF:=zH (zA (hM.less (T:=λ _=>False) (λ j hj=>hj.elim)) (zA hK (zA hn hF)));clear hM hK hn hkp HJ vS hbx hbr hS Gw htk hF;go_wp2;go_roundw
  case rel=>exact⟨i+1,c,n,ao,ks,hd,rfl,by go_num,by omega,HF⟩
  case measure=>simp only[intOf];omega
 obtain rfl:i=l.length:=by omega
 obtain⟨hM,hK,hn,hbl⟩:=HI.out;rw[fH]at hM hK hn;have hpl:=Pm l;have HS:=zH (So.rW hM.ag (by have:=hK.2.2;omega));have HF:=zH (zA hM (zA hK hbl));clear hM hK hn hbl HI hpl
 go_wp2_with fail
 refine HS.out.mono ?_;rintro e w2 ⟨rfl,iN,hso,hr2,hk2⟩;have HG:=zH (zA hso (zA hr2 hk2));clear hso hr2 hk2 HS;go_wp2;go_ret2;obtain⟨hso,hr2,hk2⟩:=HG.out;obtain⟨hM,hK,hbl⟩:=HF.out;obtain⟨_,hok⟩:=HR.out;refine⟨ao,c,iN,n,hd,W.heap.size,by rw[hso.len];rfl,by rw[hso.len];exact hr2,?_,λ b=>?_,hM.map.ae (hk2.block _ ⟨hM.map.lt,λ e=>(hM.qa _ e).2.1 rfl⟩),λ b=>⟨?_,?_,?_,λ j hj=>(hM.own b j hj).1⟩,λ j hj=>(hM.qa j hj).1,aO _,?_⟩
 ·have h1:=hso.ib hK.1;rw[List.nodup_iff_pairwise_ne]at h1;exact(hso.up.and h1).imp (λ ⟨h2,h3⟩=>Nat.lt_of_le_of_ne h2 (λ e=>h3 (mJ.1 e)))
 ·rw[hso.mem,hK.2.1,Ul hok]
 ·rw[<-Po hok];exact(hM.list b).1.ae hk2.size (λ j hj=>hk2.block j ⟨(hM.list b).1.lt hj,λ e=>(hM.own b j (uV.1 hj)).2.2.1 e⟩)
 ·rw[<-Po hok];exact(hM.list b).2
 ·rw[<-Po hok];exact hM.uh b
 exact⟨hk2.os.trans hbl.os,hk2.tape.trans hbl.tape,hk2.output.trans hbl.output,aP hbl.size hk2.size,λ j hj=>(hk2.block j ⟨bZ hj hbl.size,λ e=>by have:=(hM.qa j e).1;omega⟩).trans (hbl.block j hj)⟩
end
end Go.Proofs.YtgpmiliahonaoaaGreatDoor
