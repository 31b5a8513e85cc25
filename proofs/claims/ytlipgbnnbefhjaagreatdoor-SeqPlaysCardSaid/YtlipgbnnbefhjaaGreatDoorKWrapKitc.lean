/- Facts on rows of numbers on pages. -/
import Derived.Test.YtlipgbnnbefhjaaGreatDoorKStSc
import Derived.Test.YtlipgbnnbefhjaaGreatDoorKStJc
import Derived.LoopIn
import Derived.LoopNIn
import Derived.OwnWalkIn
import Derived.RangeFuncBound
import Derived.RangeFuncCalls
import Derived.RangeFuncLeaves
import Derived.RangeFuncNested
import Derived.TacticsInMore
import Derived.Deep.DeepHandedRow
import Derived.LaidOnce
import Derived.Lib.LaidTab
import Derived.OpenShut
import Derived.Test.YtlipgbnnbefhjaaGreatDoorCards
import Derived.Test.YtlipgbnnbefhjaaGreatDoorTie
set_option maxRecDepth 100000
set_option maxHeartbeats 8000000
set_option linter.unusedSimpArgs false
namespace Go.Proofs.YtlipgbnnbefhjaaGreatDoor
namespace AP
variable{A A0 B X:AP}{o:AO}
def In(A:AP)(p:Nat):Prop:=1<=p/\p<A.aj/\p∉A.free
def jl(A:AP):AP:={A with op:=none}
theorem iq(h:A.op=none)(p:Nat):A.Has p↔A.In p:=by
 have hg:A.bU=[]:=by unfold AP.bU;rw[h]
 unfold AP.Has AP.In;rw[hg];exact⟨λ ⟨a,b,c,_⟩=>⟨a,b,c⟩,λ ⟨a,b,c⟩=>⟨a,b,c,List.not_mem_nil⟩⟩
theorem Has.VL{p:Nat}(h:A.Has p):A.In p:=⟨h.1,h.2.1,h.2.2.1⟩
theorem Good.jl(h:A.Good):A.jl.Good:=⟨h.one,h.ax,h.few,h.eY,h.free,List.nodup_nil,λ _ hg=>absurd hg List.not_mem_nil⟩
theorem Good.Ei(h:A.Good)(hf:¬A.Full):(∀p,A.take.In p↔A.In p\/p=A.next)/\A.take.ay+1=A.ay/\¬A.In A.next:=by
 have hf':¬A.jl.Full:=hf;obtain⟨_,h2,h3⟩:=h.jl.take hf';refine⟨λ p=>?_,h3,λ hi=>(h.jl.next hf').1 ((iq rfl _).2 hi)⟩;have:=h2 p;rw[iq rfl p,iq (A:=A.jl) rfl p]at this;exact this
structure Since(A0 B:AP)(o:AO):Prop where
 shut:A0.op=none
 op:B.op=some o
 good:B.Good
 ax:B.ax=A0.ax
 eY:o.made.Nodup
 made:∀g,g∈o.made->∃m:Nat,g=m/\¬A0.Has m
 has:∀p:Nat,B.In p↔A0.Has p\/(p:Int)∈o.made
 was:∀(p:Int) (s:List UInt8),o.was p=some s->∃m:Nat,p=m/\A0.Has m/\s=A0.c m
 same:∀m:Nat,A0.Has m->o.was m=none->B.c m=A0.c m
 ay:B.ay+o.made.length=A0.ay
def oJ(A0 B:AP):Prop:=∃o,Since A0 B o
def begun(A:AP):AP:={A with op:=some {was:=λ _=>none,made:=[],gone:=[]}}
theorem Good.begun(h:A.Good):A.begun.Good:=⟨h.one,h.ax,h.few,h.eY,h.free,List.nodup_nil,λ _ hg=>absurd hg List.not_mem_nil⟩
theorem Since.start(h:A.Good)(hs:A.op=none):oJ A A.begun:=
 ⟨_,hs,rfl,h.begun,rfl,List.nodup_nil,λ _ hg=>absurd hg List.not_mem_nil,λ p=>⟨λ hi=>.inl ((iq hs p).2 hi),λ hh=>hh.elim (λ h=>(iq hs p).1 h) (λ h=>absurd h List.not_mem_nil)⟩,λ _ _ h=>(by cases h),λ _ _ _=>rfl,rfl⟩
theorem Since.put(h:Since A0 B o){p:Nat}(hp:A0.Has p->o.was p≠none)(s:List UInt8):Since A0 (B.put p s) o:=
 ⟨h.shut,h.op,⟨h.good.one,h.good.ax,h.good.few,h.good.eY,h.good.free,h.good.pu,h.good.gone⟩,h.ax,h.eY,h.made,h.has,h.was,λ m hm hw=>by
  show dI B.c p s m=_;unfold dI;by_cases e:p=m
  ·subst e;exact absurd hw (hp hm)
  rw[if_neg e];exact h.same m hm hw,h.ay⟩
theorem Since.keep(h:Since A0 B o){p:Nat}(hp:B.Has p):∃o',Since A0 (B.keep p) o'/\(A0.Has p->o'.was p≠none):=by
 by_cases hc:(p:Int)∈o.made\/(o.was p).isSome=true
 ·have e:B.keep p=B:=by
   unfold AP.keep;rw[h.op];show {B with op:=some (if _ then _ else _)}=B;rw[if_pos hc,<-h.op]
  rw[e];refine⟨o,h,λ hh hn=>?_⟩;rcases hc with hc|hc
  ·obtain⟨m,e,hm⟩:=h.made _ hc;have:p=m:=by omega
   exact hm (this▸hh)
  rw[hn]at hc;cases hc
 have e:B.keep p={B with op:=some {o with was:=λ j=>if j=p then some (B.c p) else o.was j}}:=by
  unfold AP.keep;rw[h.op];show {B with op:=some (if _ then _ else _)}=_;rw[if_neg hc]
 have hA:A0.Has p:=((h.has p).1 hp.VL).resolve_right (λ hm=>hc (.inl hm))
 have hw:o.was p=none:=by
  cases hw:o.was p with
  | none=>rfl
  | some s=>exact absurd (.inr (by rw[hw];rfl)) hc
 have hcp:=h.same p hA hw;rw[e];refine⟨_,⟨h.shut,rfl,?_,h.ax,h.eY,h.made,h.has,λ q s hq=>?_,λ m hm hn=>?_,h.ay⟩,λ _ hn=>?_⟩
 ·have hg:=h.good.keep p;rw[e]at hg;exact hg
 ·replace hq:(if q=(p:Int) then some (B.c p) else o.was q)=some s:=hq;by_cases eq:q=(p:Int)
  ·rw[if_pos eq]at hq;exact⟨p,eq,hA,(bC hq).symm.trans hcp⟩
  rw[if_neg eq]at hq;exact h.was q s hq
 ·replace hn:(if (m:Int)=(p:Int) then some (B.c p) else o.was m)=none:=hn;by_cases eq:(m:Int)=(p:Int)
  ·rw[if_pos eq]at hn;cases hn
  rw[if_neg eq]at hn;exact h.same m hm hn
 replace hn:(if (p:Int)=(p:Int) then some (B.c p) else o.was p)=none:=hn;rw[if_pos rfl]at hn;cases hn
theorem xo3(A0:AP):AP.Moves (oJ A0):=by
 refine⟨λ X p s ⟨o,h⟩ hp=>?_,λ X p ⟨o,h⟩ hp=>?_,λ X ⟨o,h⟩ hf=>?_,λ X p ⟨o,h⟩ hp=>?_⟩
 ·obtain⟨o',h',hw⟩:=h.keep hp;exact⟨o',h'.put hw s⟩
 ·obtain⟨o',h',_⟩:=h.keep hp;exact⟨o',h'⟩
 ·obtain⟨t1,t2,t3⟩:=h.good.Ei hf;have hnm:(X.next:Int)∉o.made:=λ hm=>t3 ((h.has _).2 (.inr hm));have yC:¬A0.Has X.next:=λ hm=>t3 ((h.has _).2 (.inl hm));refine⟨{o with made:=o.made++[(X.next:Int)]},h.shut,by show X.op.map _=_;rw[h.op];rfl,(h.good.take hf).1,h.ax,?_,λ g hg=>?_,λ p=>?_,h.was,λ m hm hn=>?_,?_⟩
  ·exact bF.2 ⟨h.eY,List.pairwise_singleton _ _,λ a ha b hb=>by rw[bQ.1 hb];exact λ e=>hnm (e▸ha)⟩
  ·rcases cB.1 hg with hg|hg
   ·exact h.made g hg
   exact⟨X.next,bQ.1 hg,yC⟩
  ·show _↔_\/(p:Int)∈o.made++[(X.next:Int)];rw[t1,h.has,cB,bQ]
   constructor
   ·rintro((a|a)|a)
    ·exact .inl a
    ·exact .inr (.inl a)
    exact .inr (.inr (by rw[a]))
   rintro(a|a|a)
   ·exact .inl (.inl a)
   ·exact .inl (.inr a)
   exact .inr (by omega)
  ·show dI X.c X.next (UK.bW 504) m=_;unfold dI;rw[if_neg (λ e:X.next=m=>yC (by rw[e];exact hm))];exact h.same m hm hn
  show X.take.ay+(o.made++[(X.next:Int)]).length=_;rw[zl,gI,<-h.ay];omega
 have e:X.give p={X with op:=some {o with gone:=o.gone++[(p:Int)]}}:=by unfold AP.give;rw[h.op]
 have hg:=(h.good.give hp).1;rw[e]at hg ⊢;exact⟨_,h.shut,rfl,hg,h.ax,h.eY,h.made,h.has,h.was,h.same,h.ay⟩
theorem Reach.since{A0 B C:AP}(h:oJ A0 B)(r:B.Reach C):oJ A0 C:=r _ (xo3 A0) h
end AP
open Go.RowKit
open UK (str aO nth Only Row aI jR ol)
open Go.BigFrame
section
variable{E:Nat->Prop}{W W':World}{P D FB M aj k n:Nat}{A B:AP}{o:AO}
theorem ib.at_{W:World}{ao:Option Addr}{c:Nat}{l:List Int}(h:ib W ao c l){i:Nat}{x:Int}(hi:l[i]?=some x):∃g,ao=some ⟨g,0,none⟩/\W.cell? ⟨g,i,none⟩=some (.int .i64 x):=by
 rcases h with⟨_,rfl,_⟩|⟨g,e,r⟩
 ·cases hi
 exact⟨g,e,r.at' i _ (by unfold zX;rw[dW,hi];rfl)⟩
theorem ib.kept{S:Nat->Prop}{W W':World}{ao:Option Addr}{c:Nat}{l:List Int}(h:ib W ao c l)(hk:Kept S W W')(hS:∀j,aK ao j->S j):ib W' ao c l:=by
 rcases h with h0|⟨g,e,r⟩
 ·exact .inl h0
 exact .inr ⟨g,e,r.af hk.size (hk.block g (hS g e))⟩
structure Given(B C:AP)(pre:List Int):Prop where
 op:C.op=none
 good:C.Good
 has:∀p:Nat,C.Has p↔B.In p/\(p:Int)∉pre
 c:∀p,C.c p=B.c p
 ax:C.ax=B.ax
 ay:C.ay=B.ay+pre.length
theorem Given.start(g:B.Good):Given B B.jl []:=
 ⟨rfl,g.jl,λ p=>⟨λ h=>⟨(AP.iq (A:=B.jl) rfl p).1 h,List.not_mem_nil⟩,λ h=>(AP.iq (A:=B.jl) rfl p).2 h.1⟩,λ _=>rfl,rfl,rfl⟩
theorem Given.step{C:AP}{pre:List Int}(h:Given B C pre){m:Nat}(hm:B.In m)(hn:(m:Int)∉pre):C.Has m/\Given B (C.give m) (pre++[(m:Int)]):=by
 have hh:=(h.has m).2 ⟨hm,hn⟩;obtain⟨g1,g2,g3,g4⟩:=h.good.give hh;have e:C.give m={C with free:=C.free++[m]}:=by unfold AP.give;rw[h.op]
 refine⟨hh,⟨by rw[e];exact h.op,g1,λ p=>?_,λ p=>by rw[AP.mr];exact h.c p,by rw[e];exact h.ax,?_⟩⟩
 ·rw[g2,h.has,cB,bQ,not_or]
  constructor
  ·rintro⟨⟨a,b⟩,c⟩;exact⟨a,b,λ e=>c (by omega)⟩
  rintro⟨a,b,c⟩;exact⟨⟨a,b⟩,λ e=>c (by rw[e])⟩
 rw[g4 h.op,h.ay,zl,gI];omega
end
structure oP(B C:AP)(o:AO)(pre:List Int):Prop where
 op:C.op=none
 aj:C.aj=B.aj
 free:C.free=B.free
 ax:C.ax=B.ax
 c:∀p:Nat,C.c p=if (p:Int)∈pre then(o.was p).getD [] else B.c p
theorem oP.start(B:AP)(o:AO):oP B B.jl o []:=⟨rfl,rfl,rfl,rfl,λ _=>rfl⟩
theorem oP.step{B C:AP}{o:AO}{pre:List Int}(h:oP B C o pre){m:Nat}{s:List UInt8}(hs:o.was m=some s):oP B (C.put m s) o (pre++[(m:Int)]):=by
 refine⟨h.op,h.aj,h.free,h.ax,λ p=>?_⟩;show dI C.c m s p=_;unfold dI;by_cases e:m=p
 ·subst e;rw[if_pos rfl,if_pos (fE _ (bQ.2 rfl)),hs];rfl
 rw[if_neg e,h.c p]
 have hx:((p:Int)∈pre++[(m:Int)])↔(p:Int)∈pre:=by
  rw[cB,bQ];exact⟨λ a=>a.resolve_right (λ a=>e (by omega)),.inl⟩
 by_cases e2:(p:Int)∈pre
 ·rw[if_pos e2,if_pos (hx.2 e2)]
 rw[if_neg e2,if_neg (λ a=>e2 (hx.1 a))]
theorem oP.VL{B C:AP}{o:AO}{pre:List Int}(h:oP B C o pre)(p:Nat):C.Has p↔B.In p:=by
 rw[AP.iq h.op];unfold AP.In;rw[h.aj,h.free]
attribute [local go_sem] Oper.semAt_some
section
variable{E:Nat->Prop}{W W':World}{P D k n:Nat}{A B A0:AP}{o:AO}
theorem xj9(W:World)(r:Nat)(o:Obj):Only r W (W.putObj r o):=⟨rfl,rfl,rfl,by simp[World.putObj],λ i _ hn=>World.putObj_heap_other hn⟩
def BF(E:Nat->Prop)(wq:World)(P D:Nat)(C:AP)(kk:Nat)(pre:List (Int×Int))(w:World):Prop:=
 ∃C2,PZ (λ j=>E j\/j=wq.heap.size\/j=wq.heap.size+1) w P D C2 (kk+pre.length)/\Given C C2 (pre.map Prod.snd)/\Kept E wq w
theorem BF.start{wq:World}{C:AP}{kk:Nat}(hz:PZ E wq P D C kk)(g:C.Good)(ho:C.op=none)(d o:Obj):BF E wq P D C kk [] ((wq.alloc d).alloc o):=by
 have hb:Below wq wq ((wq.alloc d).alloc o):=((aP _ _).alloc (aZ _) _).alloc (by simp) _;have hsz:((wq.alloc d).alloc o).heap.size=wq.heap.size+2:=by simp
 have e:C.jl=C:=by unfold AP.jl;rw[<-ho]
 have hg:=Given.start g;rw[e]at hg
 exact⟨C,hz.wide hb (λ j hj=>by
  rcases hj with hj|hj|hj
  ·exact .inl hj
  ·exact .inr (by omega)
  exact .inr (by omega)),hg,hz.kept hb⟩
theorem BF.put{wq w:World}{C:AP}{kk:Nat}{pre:List (Int×Int)}(h:BF E wq P D C kk pre w)(hE:∀j,E j->j<wq.heap.size)(ht:0 <wq.heap.size){r:Nat}(hr:r=wq.heap.size\/r=wq.heap.size+1)(o:Obj):BF E wq P D C kk pre (w.putObj r o):=by
 obtain⟨C2,hz,hg,hk⟩:=h;have ho:=xj9 w r o;refine⟨C2,hz.over (R:=λ j=>j=r) (λ j hj=>?_) (λ e=>?_) ho.size (λ j hj hn=>ho.block j hj hn) (λ j hj=>.inl hj),hg,hk.trans ⟨ho.os,ho.tape,ho.output,ho.size,λ j hj=>ho.block j (bS (hE j hj) hk.size) (λ e=>?_)⟩⟩
 ·rcases hr with rfl|rfl
  ·exact .inr (.inl hj)
  exact .inr (.inr hj)
 ·have:0 =r:=e;rcases hr with rfl|rfl<;>omega
 have:=hE j hj;rcases hr with rfl|rfl<;>omega
theorem BF.step{wq w:World}{C:AP}{kk:Nat}{pre:List (Int×Int)}(h:BF E wq P D C kk pre w)(hk:kk+pre.length+1<900000000){m:Nat}(hm:C.In m)(hn:(m:Int)∉pre.map Prod.snd)(i:Int) :
  Calls Tryz.prog 68 #[.pointer P,.int .i64 m] w λ e w'=>e= .returned (.int .i64 0)/\(w'.heap[wq.heap.size]?=w.heap[wq.heap.size]?/\w'.heap[wq.heap.size+1]?=w.heap[wq.heap.size+1]?)/\BF E wq P D C kk (pre++[(i,(m:Int))]) w':=by
 obtain⟨C2,hz,hg,hkk⟩:=h;obtain⟨hh,hg2⟩:=hg.step hm hn;refine(IW hz hk m hh).mono ?_;rintro e w' ⟨he,p,k'⟩;refine⟨he,⟨k'.block _ (.inr (.inl rfl)),k'.block _ (.inr (.inr rfl))⟩,C2.give m,?_,?_,hkk.trans (k'.mono (λ j hj=>.inl hj))⟩
 ·rw[zl,gI];exact p
 rw[jr];exact hg2
theorem oP.good{B C:AP}{o:AO}{pre:List Int}(h:oP B C o pre)(g:B.Good):C.Good:=by
 have hg:C.bU=[]:=by unfold AP.bU;rw[h.op]
 refine⟨by rw[h.aj];exact g.one,by rw[h.aj,h.ax];exact g.ax,by rw[h.ax];exact g.few,by rw[h.free];exact g.eY,?_,by rw[hg];exact List.nodup_nil,λ x hx=>by rw[hg]at hx;cases hx⟩;rw[h.free,h.aj];exact g.free
end
open UK (str aO nth Only Row aI)
theorem IM:∀(l m:List Nat),l.Nodup->(∀x,x∈l->x∈m)->l.length<=m.length
 | [],m,_,_=>bY _
 | a::l,m,h,hs=>by
  obtain⟨h1,h2⟩:=dL.1 h;have ha:=hs a (gZ ..);have:=IM l (m.erase a) h2 (λ x hx=>(List.mem_erase_of_ne (show x≠a from λ e=>h1 (e▸hx))).2 (hs x (eu _ hx)));rw[List.length_erase_of_mem ha]at this;have hm:0<m.length:=List.length_pos_of_mem ha;rw[dw];omega
theorem xok(m:Int):AP.Moves (λ B=>B.ax=m):=⟨λ X p s h hp=>h,λ X p h hp=>h,λ X h hf=>h,λ X p h hp=>by
 unfold AP.give
 cases X.op<;>exact h⟩
theorem AP.Reach.Fv{A B:AP}(h:A.Reach B):B.ax=A.ax:=h _ (xok A.ax) rfl
theorem xol:AP.Moves (λ B=>B.op≠none):=⟨λ X p s h hp=>by
  show(AP.az X p s).op≠none;unfold AP.az AP.put AP.keep
  cases ho:X.op with
  | none=>exact absurd ho h
  | some o=>simp,λ X p h hp=>by
  unfold AP.keep
  cases ho:X.op with
  | none=>exact absurd ho h
  | some o=>simp,λ X h hf=>by
  unfold AP.take
  cases ho:X.op with
  | none=>exact absurd ho h
  | some o=>simp,λ X p h hp=>by
  unfold AP.give
  cases ho:X.op with
  | none=>exact absurd ho h
  | some o=>simp⟩
theorem xom:AP.Moves (λ B=>B.op=none):=⟨λ X p s h hp=>by
  show(AP.az X p s).op=none;unfold AP.az AP.put AP.keep;simp[h],λ X p h hp=>by
  unfold AP.keep;simp[h],λ X h hf=>by
  unfold AP.take;simp[h],λ X p h hp=>by
  unfold AP.give;simp[h]⟩
theorem AP.Reach.Fw{A B:AP}(h:A.Reach B):B.op≠none↔A.op≠none:=
 ⟨λ hb ha=>hb (h _ xom ha),λ ha=>h _ xol ha⟩
theorem AP.Good.Bi{A:AP}(g:A.Good)(e:A.op=none){l:List Nat}(hn:l.Nodup)(hl:∀p,A.Has p↔p∈l):(A.ay:Int)+l.length=A.ax-1:=by
 have hg0:A.bU=[]:=by unfold AP.bU;rw[e]
 have hh:∀p,A.Has p↔1<=p/\p<A.aj/\p∉A.free:=λ p=>by
  unfold AP.Has;rw[hg0];exact⟨λ ⟨a,b,c,_⟩=>⟨a,b,c⟩,λ ⟨a,b,c⟩=>⟨a,b,c,List.not_mem_nil⟩⟩
 have h1:=IM (l++A.free) (List.range' 1 (A.aj-1)) (bF.2 ⟨hn,g.eY,λ a ha b hb e=>by
  subst e;exact((hh a).1 ((hl a).2 ha)).2.2 hb⟩) (λ x hx=>by
  rw[List.mem_range'_1];rcases cB.1 hx with hx|hx
  ·have:=(hh x).1 ((hl x).2 hx);omega
  have:=g.free x hx;omega)
 have h2:=IM (List.range' 1 (A.aj-1)) (l++A.free) (List.nodup_range' ..) (λ x hx=>by
  rw[List.mem_range'_1]at hx;rw[cB];by_cases hf:x∈A.free
  ·exact .inr hf
  exact .inl ((hl x).1 ((hh x).2 ⟨by omega,by omega,hf⟩)))
 rw[zl,List.length_range']at h1 h2;have:=g.one;have:=g.ax;unfold AP.ay;omega
section
variable{A B A0:AP}{X Y:List UInt64}{p:Nat}{M a b:Nat}{op:Bool}
theorem SI.count(h:SI A X p)(e:A.op=none)(hm:A.ax=(M:Int)):A.ay+p+1=M:=by
 obtain⟨m,qs,d,s,n,hr,rfl,rfl⟩:=h;have h1:=hr.zi.rp.good.Bi e hr.zi.rp.eY hr.zi.rp.has;have h2:(aT []).length=0:=rfl;rw[hm]at h1;simp only[zl,aT,List.length_nil,iP]at h1;omega
theorem SI.uniq{Z:List UInt64}{q:Nat}(h:SI A X p)(h2:SI A Z q):p=q:=by
 obtain⟨m,qs,d,s,n,hr,rfl,rfl⟩:=h;obtain⟨m',bK,d',s',n',hr',rfl,rfl⟩:=h2;have e1:aT []=[]:=rfl;have n1:=hr.zi.rp.eY;have n2:=hr'.zi.rp.eY;have i1:=hr.zi.rp.has;have i2:=hr'.zi.rp.has;have l1:=IM _ _ n1 (λ x hx=>(i2 x).1 ((i1 x).2 hx));have l2:=IM _ _ n2 (λ x hx=>(i1 x).1 ((i2 x).2 hx));simp only[zl,e1,List.length_nil,iP]at l1 l2;omega
theorem SI.same(h:SI A X p)(hg:B.Good)(hh:∀p,B.Has p↔A.Has p)(hc:∀p,A.Has p->B.c p=A.c p):SI B X p:=by
 obtain⟨m,qs,d,s,n,hr,rfl,rfl⟩:=h;have hP:∀q∈s.ps++aT [],A.Has q:=λ q hq=>hr.zi.rp.dO hq;have hps:∀q∈s.ps,A.Has q:=λ q hq=>hP q (bR _ hq);refine⟨m,qs,d,s,n,⟨⟨⟨hr.zi.rp.eY,λ q=>(hh q).trans (hr.zi.rp.has q),hr.zi.rp.tree.same (λ q hq=>hc q (hr.zi.rp.tree.has q hq)) (λ q hq=>(hh q).2 (hr.zi.rp.tree.has q hq)),hg,λ q hq=>by rw[hc q ((hh q).1 hq)];exact hr.zi.rp.len q ((hh q).1 hq),by rw[hc 2 (hr.zi.rp.dO hr.zi.rp.yX)];exact hr.zi.rp.aC,hr.zi.rp.yX⟩,hr.zi.rv,hr.zi.ni.same _ _ _ _ (λ q hq=>yj (hc q (hps q (List.mem_of_mem_tail hq)))),trivial,hr.zi.root⟩,?_,hr.two⟩,rfl,rfl⟩;rw[yj (hc s.pg hr.zi.has)];exact hr.at_
def V9(a b:Nat):Nat:=b*(2160*a+616)
structure oK(M:Nat)(A:AP)(X:List UInt64)(a:Nat):Prop where
 si:∃p,SI A X p
 ax:A.ax=(M:Int)
 few:X.length<=60*a
structure sJ(M a b:Nat)(A:AP)(X:List UInt64)(A0:AP)(Y:List UInt64)(op:Bool):Prop where
 now:oK M A X a
 room:∀p,SI A X p->308*M<=308*(A.ay+p+1)+V9 a b
 shut:op=true↔A.op≠none
 was:op=true->AP.oJ A0 A/\oK M A0 Y a/\A0.op=none
theorem UC{a a' b b':Nat}(h:a<=a')(h2:b<=b'):V9 a b<=V9 a' b':=by
 unfold V9;exact Nat.mul_le_mul h2 (by omega)
theorem yab(a b:Nat):V9 a (b+1)=V9 a b+(2160*a+616):=by
 unfold V9;rw[Nat.succ_mul]
theorem oK.up{a':Nat}(h:oK M A X a)(ha:a<=a'):oK M A X a':=⟨h.si,h.ax,by have:=h.few;omega⟩
theorem oK.same(h:oK M A X a)(hg:B.Good)(hh:∀p,B.Has p↔A.Has p)(hc:∀p,A.Has p->B.c p=A.c p)(hm:B.ax=A.ax):oK M B X a:=by
 obtain⟨p,hp⟩:=h.si;exact⟨⟨p,hp.same hg hh hc⟩,hm.trans h.ax,h.few⟩
theorem sJ.up{a' b':Nat}(h:sJ M a b A X A0 Y op)(ha:a<=a')(hb:b<=b'):sJ M a' b' A X A0 Y op:=
 ⟨h.now.up ha,λ p hp=>bf (h.room p hp) (Nat.add_le_add_left (UC ha hb) _),h.shut,λ e=>⟨(h.was e).1,(h.was e).2.1.up ha,(h.was e).2.2⟩⟩
theorem oK.shut(h:oK M A X a)(e:A.op=none)(b:Nat)(A0:AP)(Y:List UInt64):sJ M a b A X A0 Y false:=
 ⟨h,λ p hp=>by have:=hp.count e h.ax;omega,by simp[e],λ h=>by cases h⟩
theorem sJ.reach{X':List UInt64}{p p':Nat}(h:sJ M a b A X A0 Y op)(hp:SI A X p)(hs:SI B X' p')(hr:A.Reach B)(hx:X'.length<=60*a)(hro:308*(A.ay+p)<=308*(B.ay+p')+(2160*a+616)):sJ M a (b+1) B X' A0 Y op:=by
 refine⟨⟨⟨p',hs⟩,hr.Fv.trans h.now.ax,hx⟩,λ q hq=>?_,h.shut.trans hr.Fw.symm,λ e=>⟨AP.Reach.since (h.was e).1 hr,(h.was e).2⟩⟩;have h1:=h.room p hp;rw[yab];have h2:=hs.uniq hq;omega
end
theorem tT.imp{S:Nat->Prop}{W w':World}{P D K K':Nat}{R R':AP->List UInt64->List UInt64->Bool->Prop}{e:Ending}(h:tT S W w' P D K R e)(hk:K<=K')(hq:∀A X Y op,R A X Y op->R' A X Y op):tT S W w' P D K' R' e:=by
 obtain⟨Q,T,ao,c,X,bo,d,Y,op,A,k,h1,h2,h3,h4,h5⟩:=h;exact⟨Q,T,ao,c,X,bo,d,Y,op,A,k,h1,h2,bf h3 hk,h4,hq _ _ _ _ h5⟩
def T9(a b:Nat):Nat:=5200000*a+b*(13200000*a+700000)
theorem ybm(a b:Nat):T9 a b+5200000<=T9 (a+1) b:=by
 have h1:b*(13200000*a+700000)<=b*(13200000*(a+1)+700000):=Nat.mul_le_mul_left b (Nat.add_le_add_right (Nat.mul_le_mul_left _ (jy a)) _);have h2:=Nat.add_le_add_left h1 (5200000*a+5200000);unfold T9;rw[Nat.mul_succ,Nat.add_right_comm];exact h2
theorem Zt(a b:Nat):T9 a b+(13200000*a+700000)=T9 a (b+1):=by
 have h1:(b+1)*(13200000*a+700000)=b*(13200000*a+700000)+(13200000*a+700000):=Nat.succ_mul b _;unfold T9;rw[h1,Nat.add_assoc]
theorem Kn:∀a,a<16->∀b,b<16->a+b<=15->T9 a b<=786000000:=by decide
section
variable{S:Nat->Prop}{W:World}{P D Q T k c d M a b:Nat}{A A0:AP}{X Y:List UInt64}{ao bo:Option Addr}{op:Bool}
theorem WR(h:jg S W P D Q T ao c X bo d Y A k)(hS:∀j,S j->j<W.heap.size)(kd ii nn tt:Int)(id:UInt64)(hi1: -9223372036854775808<=ii)(hi2:ii<9223372036854775808)(hl:sJ M a b A X A0 Y op)(hab:a+b<=14)(hV:V9 a b+4320*(a+1)+26000<=308*M)(hk:k<=T9 a b+100000)(hkd:kd=1\/kd=2\/kd=3) :
  Calls Tryz.prog 7 #[.agg (dV P Q ao X.length c bo Y.length d op),.agg (kK kd ii nn tt id)] W λ e w'=>∃a' b',a'+b'<=a+b+1/\tT S W w' P D (T9 a' b'+0) (λ A' X' Y' op'=>op'=op/\∃UD,sJ M a' b' A' X' UD Y' op') e:=by
 obtain⟨p,hsi⟩:=hl.now.si;have fD:=hl.now.few;have cK:=hsi.pages;have aY:=hl.room p hsi;have htop:=Kn a (by omega) b (by omega) (by omega);have ho:=Zt a b;have MF:=Kn a (by omega) (b+1) (by omega) (by omega);have hti:=ybm a b;rcases hkd with rfl|rfl|rfl
 ·refine(xxr h hS (λ i A' X'=>∃p',SI A' X' p'/\A.Reach A'/\A'.ay+p'=A.ay+p/\X'.length<=X.length+i) ⟨p,hsi,AP.Reach.refl A,rfl,by omega⟩ (λ i A' X' hp hi=>?_) (by omega) hi1).mono λ e w' he=>⟨a+1,b,by omega,he.imp (by omega) ?_⟩
  ·obtain⟨p',h1,h2,h3,h4⟩:=hp;have Cr:=(Cn nn).1;refine⟨p',h1,by omega,by omega,λ B p2 X2 g1 g2 g3 g4=>⟨p2,g1,h2.trans g2,by omega,by omega⟩⟩
  rintro A' X' Y' op' ⟨⟨i,hi,p',h1,h2,h3,h4⟩,rfl,rfl⟩;have Cr:=(Cn nn).1;refine⟨rfl,A0,⟨⟨p',h1⟩,h2.Fv.trans hl.now.ax,by omega⟩,λ q hq=>?_,hl.shut.trans h2.Fw.symm,λ e=>⟨AP.Reach.since (hl.was e).1 h2,(hl.was e).2.1.up (jy _),(hl.was e).2.2⟩⟩;have h5:=h1.uniq hq;have h6:=UC (Nat.le_add_right a 1) (aZ b);omega
 ·refine(xuu h hS (λ i A' X'=>∃p',SI A' X' p'/\A.Reach A'/\A.ay<=A'.ay/\X'.length<=X.length) ⟨p,hsi,AP.Reach.refl A,aZ _,aZ _⟩ (60*a) fD (by omega) (λ i A' X' hp hi=>?_) (by omega) hi2).mono λ e w' he=>⟨a,b+1,by omega,he.imp (by omega) ?_⟩
  ·obtain⟨p',h1,h2,h3,h4⟩:=hp;exact⟨p',h1,λ B p2 X2 g1 g2 g3 g4=>⟨p2,g1,h2.trans g2,by omega,by omega⟩⟩
  rintro A' X' Y' op' ⟨⟨p',h1,h2,h3,h4⟩,rfl,rfl⟩;exact⟨rfl,A0,hl.reach hsi h1 h2 (by omega) (by omega)⟩
 refine(xuv h hS hsi (by omega) (by omega) (by omega)).mono λ e w' he=>⟨a,b+1,by omega,he.imp (by omega) ?_⟩;rintro A' X' Y' op' ⟨⟨p',h1,h2,h3,h4⟩,rfl,rfl⟩;exact⟨rfl,A0,hl.reach hsi h1 h2 (by omega) (by omega)⟩
end
section
variable{M:Int}
theorem UE(p:Nat):(kJ (iT M)).Has p↔p∈[2,1]:=by
 have h:(kJ (iT M)).Has p↔(((iT M).take.az 1 (kQ (UK.bW 504) [] [])).take).Has p:=AP.bu.trans AP.bu;rw[h,aX,bQ]
 constructor
 ·rintro⟨h1,h2,_,_⟩;have h3:p<3:=h2;omega
 intro hp;exact⟨by omega,by show p<3;omega,by show p∉([]:List Nat);simp,by show(p:Int)∉([]:List Int);simp⟩
theorem Zv:(kJ (iT M)).c 1=bg (UK.bW 504) ⟨true,[],[],[]⟩:=by
 show((AP.az _ 2 _).az 2 _).c 1=_;rw[AP.bG,if_neg (by decide),AP.bG,if_neg (by decide)];show dI ((iT M).take.az 1 (kQ (UK.bW 504) [] [])).c 2 (UK.bW 504) 1=_;unfold dI;rw[if_neg (by decide),AP.bG,if_pos rfl];rfl
theorem UF:(kJ (iT M)).c 2=M6 1:=by
 show((AP.az _ 2 _).az 2 _).c 2=_;rw[AP.bG,if_pos rfl];rfl
theorem xu2:jT (M6 1)=some yH:=by kernel_rfl
theorem xrs:n32 (M6 1) 496=1:=by kernel_rfl
theorem xu3:(M6 1).length=504:=by kernel_rfl
theorem xxx(p:Nat)(h:(kJ (iT M)).Has p):((kJ (iT M)).c p).length=504:=by
 rcases aX.1 ((UE p).1 h)with rfl|h
 ·rw[UF];exact xu3
 obtain rfl:=bQ.1 h;rw[Zv,uY _ _ (by rw[UK.lI];omega) ⟨λ _=>⟨bY _,rfl,rfl⟩,(λ h=>by cases h)⟩];exact UK.lI 504
theorem yac:TI (kJ (iT M)) 1 [] [1]:=by
 have hfit:Fits ⟨true,[],[],[]⟩:=⟨λ _=>⟨bY _,rfl,rfl⟩,(λ h=>by cases h)⟩
 have hnd:aH (kJ (iT M)) 1=some ⟨true,[],[],[]⟩:=by
  unfold aH;rw[Zv];exact GZ _ _ (by rw[UK.lI];omega) hfit
 exact⟨⟨0,⟨1,[],[1]⟩,⟨[],[],hnd,rfl,λ a b x y _ hx=>(by simp at hx),rfl,rfl⟩,rfl,rfl,rfl⟩,List.pairwise_singleton _ _,λ p hp=>(UE p).2 (by rw[bQ.1 hp];simp)⟩
theorem xu4:(kJ (iT M)).ax=iE M:=rfl
theorem Zw:(kJ (iT M)).op=none:=rfl
theorem xu6(h5:5<=iE M)(h6:iE M<=60000):(kJ (iT M)).Good:=
 ⟨by show 1<=3;omega,by show((3:Nat):Int)<=iE M;omega,h6,List.nodup_nil,λ p hp=>absurd hp List.not_mem_nil,List.nodup_nil,λ g hg=>absurd hg List.not_mem_nil⟩
theorem Zx(h5:5<=iE M)(h6:iE M<=60000):SI (kJ (iT M)) [] 2:=
 ⟨[],[1],0,⟨2,[(2,[])],[2]⟩,yH,⟨⟨⟨by decide,UE,yac,xu6 h5 h6,xxx,by rw[UF];exact xrs,by decide⟩,⟨λ x hx i hi=>(by obtain rfl:=bQ.1 hx;cases hi),λ y hy=>(by cases hy),List.nodup_nil⟩,⟨[],rfl,rfl,rfl⟩,trivial,rfl⟩,by show jT _=_;rw[UF];exact xu2,λ h=>by cases h⟩,rfl,rfl⟩
theorem QE{N:Nat}(hM:iE M=(N:Int))(h5:5<=N)(h6:N<=60000)(A0:AP)(Y:List UInt64):sJ N 0 0 (kJ (iT M)) [] A0 Y false:=
 oK.shut ⟨⟨2,Zx (by omega) (by omega)⟩,xu4.trans hM,aZ _⟩ Zw 0 A0 Y
end
theorem NW(W:World)(ht:jG W)(S:Nat->Prop)(hS:∀j,S j->j<W.heap.size)(M fr:Nat)(hM:iE (M:Int)=(M:Int))(h5:5<=M)(hfr:1<=fr/\fr<=1000) :
  Calls Tryz.prog 6 #[.int .i64 M,.int .i64 fr] W λ e w'=>∃P D Q T,e= .returned (.tuple #[.pointer (some ⟨P,0,none⟩),.pointer (some ⟨Q,0,none⟩)])/\aD (λ j=>S j\/j=Q\/j=T) w' P D Q T 2 1 (kJ (iT M)) 10/\W.heap.size<=Q/\W.heap.size<=T/\Q≠T/\Kept S W w':=by
 have HD:=zH (ya1 W M ht S hS);have HM:=zH hM;clear hM
 go_enter Tryz.func6,Tryz.ntmps6
 go_wp2_with fail
 refine HD.out.mono ?_;rintro e w1 ⟨rfl,hd,hb⟩;have HP:=zH (Xu hd (Ok.new M) (xvo M) fr hfr 0);have k0:Kept S W w1:=Kept.of_below hb hS;have HK:=zH k0;clear HD hd hb k0
 go_wp2_with fail
 refine HP.out.mono ?_;rintro e w2 ⟨P,FB,M2,q,rfl,hps,hk2,hop⟩;have st:=Kc M;have hpz:PZ S w2 P W (iT M) 0:=⟨FB,M2,fr,q,lK M,hps,hfr.1,⟨st.free,st.ax,by rw[hop];rfl⟩⟩
 have hnf:¬(iT M).Full:=by
  intro h;have h1:iE M<=((1:Nat):Int):=h.1;rw[HM.out]at h1;omega
 have MG:¬((iT M).take.az 1 (kQ (UK.bW 504) [] [])).Full:=by
  intro h;have h1:iE M<=((2:Nat):Int):=h.1;rw[HM.out]at h1;omega
 have HT:=zH (xz9 hpz (by omega) hnf MG (by show 1<4294967296;omega));have yu:=zH (HK.out.trans hk2);clear HP HK hps hk2 hop st hpz hnf MG
 go_wp2_with fail
 refine HT.out.mono ?_;rintro e w3 ⟨Q,T,rfl,hQ,hT,Zy,vH,hk3⟩;have HX:Hid (aD (λ j=>S j\/j=Q\/j=T) w3 P W Q T 2 1 (kJ (iT M)) 10/\W.heap.size<=Q/\W.heap.size<=T/\Q≠T/\Kept S W w3):=zH ⟨vH,bf yu.out.size hQ,bf yu.out.size hT,Zy,yu.out.trans hk3⟩;clear HT yu hQ hT Zy vH hk3;go_wp2;go_ret2;exact⟨P,_,Q,T,rfl,HX.out⟩
theorem UK.aI.size_eq{w:World}{g:Nat}{a b:Array Value}(h:aI w g a)(h':aI w g b):a=b:=by
 obtain⟨t,h1⟩:=h;obtain⟨u,h2⟩:=h';rw[h1]at h2;simp only[Option.some.injEq,Obj.cells.injEq]at h2;exact h2.1
theorem NR.five{w w2:World}{g c:Nat}{ao:Option Addr}{X:List UInt64}{p p1 p2 p3 p4:Value}{q:Option Addr}{a0 a1 a2 a3 a4:Value}(h:NR w ao c (aF X))(hb:aI w g #[p,p1,p2,p3,p4])(hp:p= .pointer q)(h2:aI w2 g #[a0,a1,a2,a3,a4])(o:Only g w w2):NR w2 ao c (aF X):=by
 rcases h with h|⟨r,rfl,hr⟩
 ·exact .inl h
 refine .inr ⟨r,rfl,?_⟩;by_cases he:r=g
 ·subst he
  have hX:X=[]:=by
   cases X with
   | nil=>rfl
   | cons x X=>
    have h1:=hr.holds 0 (by rw[cz];simp);rw[hb.cell 0 p rfl,hp,qx _ 0 x rfl]at h1;simp at h1
  subst hX;refine⟨h2.lt,hr.le,λ j hj=>absurd hj (by rw[cz];simp),λ j hj=>⟨?_,h2.free j⟩⟩;have h3:=(hr.there j hj).1
  have hj5:j<5:=by
   by_cases hj:j<5
   ·exact hj
   obtain⟨t,ht⟩:=hb;unfold World.cell? at h3;simp only[ht]at h3;rw[Array.getElem?_eq_none (by simp;omega)]at h3
   cases h3
  match j,hj5 with
  | 0,_=>rw[h2.cell 0 _ rfl];rfl
  | 1,_=>rw[h2.cell 1 _ rfl];rfl
  | 2,_=>rw[h2.cell 2 _ rfl];rfl
  | 3,_=>rw[h2.cell 3 _ rfl];rfl
  | 4,_=>rw[h2.cell 4 _ rfl];rfl
 exact hr.af o.size (o.block r hr.lt he)
section
variable{S:Nat->Prop}{W w w2:World}{P D Q T k c d g:Nat}{A:AP}{X Y:List UInt64}{ao bo:Option Addr}{op:Bool}
theorem jg.five{p p1 p2 p3 p4:Value}{q:Option Addr}{a0 a1 a2 a3 a4:Value}(h:jg S w P D Q T ao c X bo d Y A k)(hS:S g)(hg:g≠0)(hb:aI w g #[p,p1,p2,p3,p4])(hp:p= .pointer q)(h2:aI w2 g #[a0,a1,a2,a3,a4])(o:Only g w w2):jg S w2 P D Q T ao c X bo d Y A k:=by
 have hT:T≠g:=λ e=>by
  subst e;have:=UK.aI.size_eq hb h.sq.tb;have:=congrArg Array.size this;simp at this
 have hQ:Q≠g:=λ e=>by
  subst e;have:=UK.aI.size_eq hb h.sq.box;have:=congrArg Array.size this;simp at this
 exact⟨h.sq.rU (h.sq.pz.over (R:=λ j=>j=g) (λ j hj=>by rw[hj];exact .inl hS) (λ e=>hg e.symm) o.size (λ j hj hr=>o.block j hj hr) (λ _ hj=>.inl hj)) o hQ hT (.inr (.inl rfl)) (.inr (.inr (.inl rfl))),h.px.five hb hp h2 o,h.py.five hb hp h2 o⟩
theorem jg.wide{S':Nat->Prop}(h:jg S w P D Q T ao c X bo d Y A k)(hb:Below w w w2)(hS:∀j,S' j->S j\/(w.heap.size<=j/\j<w2.heap.size)):jg S' w2 P D Q T ao c X bo d Y A k:=
 ⟨⟨h.sq.pz.wide hb (λ j hj=>by
  rcases hj with hj|hj
  ·rcases hS j hj with h1|h1
   ·exact .inl (.inl h1)
   exact .inr h1
  exact .inl (.inr hj)),h.sq.box.next hb,h.sq.tb.next hb,.inr (.inl rfl),.inr (.inr (.inl rfl))⟩,h.px.af hb.size (λ g hg=>hb.block g (h.px.lt hg)),h.py.af hb.size (λ g hg=>hb.block g (h.py.lt hg))⟩
theorem jg.call{m:Nat}{B:AP}(h:jg S w P D Q T ao c X bo d Y A k)(ht:aD (uT S Q T ao bo) w2 P D Q T 2 1 B m)(kp:Kept (uT S Q T ao bo) w w2):jg S w2 P D Q T ao c X bo d Y B m:=
 ⟨ht,h.px.af kp.size (λ b hb=>kp.block b (.inr (.inr (.inr (.inl hb))))),h.py.af kp.size (λ b hb=>kp.block b (.inr (.inr (.inr (.inr hb)))))⟩
end
def xZ(R:AP->List UInt64->List UInt64->Bool->Prop)(S0:Nat->Prop)(W w:World)(P D rb K:Nat):Prop:=
 ∃(Q T:Nat) (ao:Option Addr) (c:Nat) (X:List UInt64) (bo:Option Addr) (d:Nat) (Y:List UInt64) (op:Bool) (A:AP) (k:Nat),
  aI w rb (dV P Q ao X.length c bo Y.length d op)/\jg (λ b=>S0 b\/b=rb) w P D Q T ao c X bo d Y A k/\k<=K/\R A X Y op/\Kept S0 W w/\W.heap.size<=rb
def FT(R:AP->List UInt64->List UInt64->Bool->Prop)(S0:Nat->Prop)(W w:World)(P D rb q K Q T:Nat)(ao:Option Addr)(n c:Nat)(bo:Option Addr)(m d:Nat)(op:Bool):Prop:=
 ∃(X Y:List UInt64) (A:AP) (k:Nat),X.length=n/\Y.length=m /\
  jg (λ b=>S0 b\/b=rb) w P D Q T ao c X bo d Y A k/\k<=K/\R A X Y op/\Kept S0 W w/\W.heap.size<=rb/\q≠rb /\
  ∃Q0 Ki n0 c0 Kj m0 d0 Kk,aI w rb (dV P Q0 Ki n0 c0 Kj m0 d0 Kk)
section
variable{S0:Nat->Prop}{R:AP->List UInt64->List UInt64->Bool->Prop}{W w w2 w3:World}{P D Q T k c d g rb q n m K:Nat}{A:AP}{X Y:List UInt64}{ao bo:Option Addr}{op:Bool}
theorem FT.turn(hS0:∀j,S0 j->j<W.heap.size)(h:FT R S0 W w P D rb q K Q T ao n c bo m d op)(ht:0 <W.heap.size):∃(X Y:List UInt64) (A:AP) (k:Nat),X.length=n/\Y.length=m /\
  aI (UK.dJ w rb (.pointer P) (.pointer Q) (.slice ao n c) (.slice bo m d) (.bool op)) rb (dV P Q ao n c bo m d op) /\
  jg (λ b=>S0 b\/b=rb) (UK.dJ w rb (.pointer P) (.pointer Q) (.slice ao n c) (.slice bo m d) (.bool op)) P D Q T ao c X bo d Y A k/\k<=K/\R A X Y op /\
  Kept S0 W (UK.dJ w rb (.pointer P) (.pointer Q) (.slice ao n c) (.slice bo m d) (.bool op)):=by
 obtain⟨X,Y,A,k,rfl,rfl,hr,hk,hR,kp,hw,hq,T0,Ki,n0,c0,Kj,m0,d0,Kk,hb⟩:=h;have o:=UK.Only.dJ w rb (.pointer P) (.pointer Q) (.slice ao X.length c) (.slice bo Y.length d) (.bool op);have b2:=hb.dJ (.pointer P) (.pointer Q) (.slice ao X.length c) (.slice bo Y.length d) (.bool op);refine⟨X,Y,A,k,rfl,rfl,b2,hr.five (.inr rfl) (by omega) hb rfl b2 o,hk,hR,kp.trans ⟨o.os,o.tape,o.output,o.size,λ j hj=>o.block j (bS (hS0 j hj) kp.size) (by have:=hS0 j hj;omega)⟩⟩
theorem QG{ι:Type}{K:ι->Nat}{R2:ι->AP->List UInt64->List UInt64->Bool->Prop}{a:Value}(hS0:∀j,S0 j->j<W.heap.size)(hb:aI w rb (dV P Q ao X.length c bo Y.length d op))(hr:jg (λ b=>S0 b\/b=rb) w P D Q T ao c X bo d Y A k)(kp:Kept S0 W w)(hw:W.heap.size<=rb)(_ht:0 <W.heap.size)
  (hD:∀(S:Nat->Prop) (w1:World),jg S w1 P D Q T ao c X bo d Y A k->(∀j,S j->j<w1.heap.size)->Calls Tryz.prog 7 #[.agg (dV P Q ao X.length c bo Y.length d op),a] w1 λ e w'=>∃x,tT S w1 w' P D (K x) (R2 x) e) :
  Calls Tryz.prog 7 #[.agg (dV P Q ao X.length c bo Y.length d op),a] (w.alloc (.cells pQ 29)).drew λ e w3=>∃x Q2 T2 dN n2 c2 iL m2 d2 iM,e= .returned (.tuple #[.agg (dV P Q2 dN n2 c2 iL m2 d2 iM),.bool true])/\aI w3 w pQ/\FT (R2 x) S0 W (UK.dJ w3 w (.pointer P) (.pointer (some ⟨Q2,0,none⟩)) (.slice dN n2 c2) (.slice iL m2 d2) (.bool iM)) P D rb w (K x) Q2 T2 dN n2 c2 iL m2 d2 iM:=by
 have a1:Below w w (w.alloc (.cells pQ 29)).drew:=((aP _ _).alloc (aZ _) _).drew;have x1:aI (w.alloc (.cells pQ 29)).drew w pQ:=(aI.new w pQ 29).af rfl;have hs:(w.alloc (.cells pQ 29)).drew.heap.size=w.heap.size+1:=by simp
 generalize (w.alloc (.cells pQ 29)).drew=wa at a1 x1 hs;have Ha:=hb.lt
 have hr1:jg (λ b=>(S0 b\/b=rb)\/b=w.heap.size) wa P D Q T ao c X bo d Y A k:=hr.wide a1 (λ j hj=>by
  rcases hj with hj|hj
  ·exact .inl hj
  exact .inr (by omega))
 refine(hD _ wa hr1 (λ j hj=>?_)).mono ?_
 ·have:=kp.size;rcases hj with(hj|hj)|hj
  ·have:=hS0 j hj;omega
  ·omega
  omega
 rintro e w3 ⟨x,Q2,T2,dN,c2,X2,iL,d2,Y2,iM,A2,k2,he,hr3,hk2,k3,hR2⟩;have x3:=x1.af (k3.block _ (.inr rfl));have b3:=(hb.below a1 Ha).af (k3.block rb (.inl (.inr rfl)));have o:=UK.Only.dJ w3 w (.pointer P) (.pointer Q2) (.slice dN X2.length c2) (.slice iL Y2.length d2) (.bool iM);have x4:=x3.dJ (.pointer P) (.pointer Q2) (.slice dN X2.length c2) (.slice iL Y2.length d2) (.bool iM);have Hd:=kp.size;have hr4:=hr3.five (.inr rfl) (by omega) x3 rfl x4 o;have k13:Kept S0 W w3:=(kp.trans (Kept.of_below a1 (λ j hj=>bS (hS0 j hj) Hd))).trans (k3.mono (λ j hj=>.inl (.inl hj)));have k14:Kept S0 W (UK.dJ w3 w (.pointer P) (.pointer Q2) (.slice dN X2.length c2) (.slice iL Y2.length d2) (.bool iM)):=k13.trans ⟨o.os,o.tape,o.output,o.size,λ j hj=>o.block j (bS (hS0 j hj) k13.size) (by have:=hS0 j hj;omega)⟩;exact⟨x,Q2,T2,dN,X2.length,c2,iL,Y2.length,d2,iM,he,x3,X2,Y2,A2,k2,rfl,rfl,hr4.wide (aP _ _) (λ j hj=>.inl (.inl hj)),hk2,hR2,k14,hw,by omega,Q,ao,X.length,c,bo,Y.length,d,op,b3.only o (by omega)⟩
theorem QH{ι:Type}{K:ι->Nat}{R2:ι->AP->List UInt64->List UInt64->Bool->Prop}{a:Value}(hS0:∀j,S0 j->j<W.heap.size)(hb:aI w rb (dV P Q ao X.length c bo Y.length d op))(hr:jg (λ b=>S0 b\/b=rb) w P D Q T ao c X bo d Y A k)(kp:Kept S0 W w)(hw:W.heap.size<=rb)
  (hD:∀(S:Nat->Prop) (w1:World),jg S w1 P D Q T ao c X bo d Y A k->(∀j,S j->j<w1.heap.size)->Calls Tryz.prog 7 #[.agg (dV P Q ao X.length c bo Y.length d op),a] w1 λ e w'=>∃x,tT S w1 w' P D (K x) (R2 x) e) :
  Calls Tryz.prog 7 #[.agg (dV P Q ao X.length c bo Y.length d op),a] w.drew λ e w3=>∃x Q2 T2 dN n2 c2 iL m2 d2 iM,e= .returned (.tuple #[.agg (dV P Q2 dN n2 c2 iL m2 d2 iM),.bool true])/\w.heap.size<=w3.heap.size/\∀cs ty,FT (R2 x) S0 W (w3.alloc (.cells cs ty)) P D rb w3 (K x) Q2 T2 dN n2 c2 iL m2 d2 iM:=by
 have a1:Below w w w.drew:=(aP _ _).drew;have hs:w.drew.heap.size=w.heap.size:=rfl;generalize w.drew=wa at a1 hs;have Ha:=hb.lt;have hr1:jg (λ b=>S0 b\/b=rb) wa P D Q T ao c X bo d Y A k:=hr.wide a1 (λ j hj=>.inl hj);refine(hD _ wa hr1 (λ j hj=>?_)).mono ?_
 ·have:=kp.size;rcases hj with hj|hj
  ·have:=hS0 j hj;omega
  omega
 rintro e w3 ⟨x,Q2,T2,dN,c2,X2,iL,d2,Y2,iM,A2,k2,he,hr3,hk2,k3,hR2⟩;have b3:=(hb.below a1 Ha).af (k3.block rb (.inr rfl));have Hd:=kp.size;have k13:Kept S0 W w3:=(kp.trans (Kept.of_below a1 (λ j hj=>bS (hS0 j hj) Hd))).trans (k3.mono (λ j hj=>.inl hj));have hs3:=k3.size;refine⟨x,Q2,T2,dN,X2.length,c2,iL,Y2.length,d2,iM,he,by omega,λ cs ty=>?_⟩;have a4:Below w3 w3 (w3.alloc (.cells cs ty)):=(aP _ _).alloc (aZ _) _;exact⟨X2,Y2,A2,k2,rfl,rfl,hr3.wide a4 (λ j hj=>.inl hj),hk2,hR2,k13.trans (Kept.of_below a4 (λ j hj=>bS (hS0 j hj) k13.size)),hw,by omega,Q,ao,X.length,c,bo,Y.length,d,op,b3.next a4⟩
end
section
variable{E:Nat->Prop}{W:World}{P D k:Nat}{A:AP}
theorem WX(h:PZ E W P D A k) :
  Calls Tryz.prog 13 #[.pointer P] W λ e w'=>e= .returned (.pointer D)/\w'=W:=by
 obtain⟨FB,M,n,q,d,h1,r⟩:=h;have c0:=h1.pd.pool.box.c0;clear h1 r
 go_enter Tryz.func13,Tryz.ntmps13
 go_wp2;go_ret
 exact⟨rfl,rfl⟩
end
def Aw(E:Nat->Prop)(W:World)(P D Q T:Nat)(X:List UInt64)(j:Nat):Prop:=∃A k p,aD E W P D Q T 2 1 A k/\SI A X p/\k<=j*1000000/\15<=A.ay
section
variable{E:Nat->Prop}{W:World}{P D Q T j:Nat}{X:List UInt64}
theorem Pp(h:Aw E W P D Q T X j)(hX:X.length<=5)(hj:j<=100)(i:Int)(hi:i<1000)(id:UInt64) :
  Calls Tryz.prog 23 #[.pointer Q,.int .i64 i,.int .u64 id.toNat] W λ e w'=>e= .returned (.int .i64 (nO X i id).1)/\Aw E w' P D Q T (nO X i id).2 (j+1)/\Kept E W w':=by
 obtain⟨A,k,p,h1,h2,h3,h4⟩:=h;refine(SI.insert h1 h2 (by omega) (.inr ⟨by omega,by omega⟩) i (by omega) id).mono ?_;rintro e w' ⟨rfl,B,p',g1,g2,g3,g4,g5⟩;have l1:=Ze X i id;have l2:=g3.pages;have l3:=h2.pages;exact⟨rfl,⟨B,_,p',g1,g3,by omega,by omega⟩,g2⟩
theorem yad(h:Aw E W P D Q T X j)(hX:X.length<=5)(hj:j<=100)(i:Int)(hi:i<1000) :
  Calls Tryz.prog 25 #[.pointer Q,.int .i64 i] W λ e w'=>e= .returned (.tuple #[.int .u64 (je X i).2.1,.int .i64 (je X i).1])/\Aw E w' P D Q T (je X i).2.2 (j+1)/\Kept E W w':=by
 obtain⟨A,k,p,h1,h2,h3,h4⟩:=h;refine(SI.drop h1 h2 (by omega) i (by omega)).mono ?_;rintro e w' ⟨rfl,B,p',g1,g2,g3,g4,g5⟩;exact⟨rfl,⟨B,_,p',g1,g3,by omega,by omega⟩,g2⟩
theorem yae(h:Aw E W P D Q T X j)(hX:X.length<=5)(hj:j<=100)(φ ν τ:Int) :
  Calls Tryz.prog 27 #[.pointer Q,.int .i64 φ,.int .i64 ν,.int .i64 τ] W λ e w'=>e= .returned (.int .i64 (lh X φ ν τ).1)/\Aw E w' P D Q T (lh X φ ν τ).2 (j+2)/\Kept E W w':=by
 obtain⟨A,k,p,h1,h2,h3,h4⟩:=h;refine(SI.move h1 h2 (by omega) (by omega) (.inr ⟨by omega,by omega⟩) φ ν τ).mono ?_;rintro e w' ⟨rfl,B,p',g1,g2,g3,g4,g5⟩;have l1:=Zf X φ ν τ;have l2:=g3.pages;exact⟨rfl,⟨B,_,p',g1,g3,by omega,by omega⟩,g2⟩
theorem yaf(h:Aw E W P D Q T X j)(hj:j<=100)(id:UInt64) :
  Calls Tryz.prog 10 #[.pointer Q,.int .u64 id.toNat] W λ e w'=>((id∉X/\e= .returned (.tuple #[.int .i64 0,.int .i64 4]))\/∃ι:Nat,X[ι]?=some id/\e= .returned (.tuple #[.int .i64 ι,.int .i64 0]))/\Aw E w' P D Q T X (j+1)/\Kept E W w':=by
 obtain⟨A,k,p,h1,h2,h3,h4⟩:=h;have h20:=h2;obtain⟨m,qs,d,s,n,hr,rfl,rfl⟩:=h2;refine(Rl h1 hr (by omega) id).mono ?_;rintro e w' ⟨g1,g2,g3⟩;exact⟨g1,⟨A,_,_,g2,h20,by omega,h4⟩,g3⟩
theorem ybo(h:Aw E W P D Q T X j)(hj:j<=100) :
  Calls Tryz.prog 8 #[.pointer Q] W λ e w'=>e= .returned (.tuple #[.int .i64 (X.length:Int),.int .i64 0])/\Aw E w' P D Q T X (j+1)/\Kept E W w':=by
 obtain⟨A,k,p,h1,h2,h3,h4⟩:=h;have h20:=h2;obtain⟨m,qs,d,s,n,hr,rfl,rfl⟩:=h2;refine(Ob h1 hr (by omega)).mono ?_;rintro e w' ⟨g1,g2,g3⟩;exact⟨g1,⟨A,_,_,g2,h20,by omega,h4⟩,g3⟩
theorem ybp:lh [8,9,7] 0 1 2=(0,[9,7,8]):=by
 unfold lh;rw[if_neg (by unfold xE;simp)];rfl
theorem yag(W:World)(ht:jG W)(S:Nat->Prop)(hS:∀j,S j->j<W.heap.size) :
  Calls Tryz.prog 6 #[.int .i64 20,.int .i64 2] W λ e w'=>∃P D Q T,e= .returned (.tuple #[.pointer (some ⟨P,0,none⟩),.pointer (some ⟨Q,0,none⟩)])/\Aw (λ j=>S j\/j=Q\/j=T) w' P D Q T [] 1/\Kept S W w':=by
 refine(NW W ht S hS 20 2 rfl (by omega) (by omega)).mono ?_;rintro e w' ⟨P,D,Q,T,rfl,h1,h2,h3,h4,h5⟩;have hs:=Zx (M:=((20:Nat):Int)) (by show(5:Int)<=20;omega) (by show(20:Int)<=60000;omega);have hc:=hs.count (M:=20) Zw rfl;exact⟨P,D,Q,T,rfl,⟨_,_,2,h1,hs,by omega,by omega⟩,h5⟩
end
theorem NZ(W:World)(ht:jG W)(S:Nat->Prop)(hS:∀j,S j->j<W.heap.size) :
  Calls Tryz.prog 11 #[] W λ e w'=>e= .returned (.bool true)/\Kept S W w':=by
 have HM:=zH (yag W ht S hS)
 go_enter Tryz.func11,Tryz.ntmps11
 go_wp2_with fail
 refine HM.out.mono ?_;rintro e w1 ⟨P,D,Q,T,rfl,l1,k1⟩;have h1:=Pp l1 (by decide) (by omega) 0 (by omega) 7;rw[show((7:UInt64).toNat:Int)=7 from rfl]at h1;have H1:=zH h1;have K1:=zH k1;clear HM l1 k1 h1
 go_wp2_with fail
 refine H1.out.mono ?_;rintro e w2 ⟨he,l2,k2⟩;obtain rfl:e= .returned (.int .i64 0):=he;replace l2:Aw (λ j=>S j\/j=Q\/j=T) w2 P D Q T [7] 2:=l2;have h2:=Pp l2 (by decide) (by omega) 0 (by omega) 8;rw[show((8:UInt64).toNat:Int)=8 from rfl]at h2;have H2:=zH h2;have K2:=zH (K1.out.trans (k2.mono (λ _ hj=>.inl hj)));clear H1 K1 l2 k2 h2
 go_wp2_with fail
 refine H2.out.mono ?_;rintro e w3 ⟨he,l3,k3⟩;obtain rfl:e= .returned (.int .i64 0):=he;replace l3:Aw (λ j=>S j\/j=Q\/j=T) w3 P D Q T [8,7] 3:=l3;have h3:=Pp l3 (by decide) (by omega) 1 (by omega) 9;rw[show((9:UInt64).toNat:Int)=9 from rfl]at h3;have H3:=zH h3;have K3:=zH (K2.out.trans (k3.mono (λ _ hj=>.inl hj)));clear H2 K2 l3 k3 h3
 go_wp2_with fail
 refine H3.out.mono ?_;rintro e w4 ⟨he,l4,k4⟩;obtain rfl:e= .returned (.int .i64 0):=he;replace l4:Aw (λ j=>S j\/j=Q\/j=T) w4 P D Q T [8,9,7] 4:=l4;have h4:=yaf l4 (by omega) 7;rw[show((7:UInt64).toNat:Int)=7 from rfl]at h4;have H4:=zH h4;have K4:=zH (K3.out.trans (k4.mono (λ _ hj=>.inl hj)));clear H3 K3 l4 k4 h4
 go_wp2_with fail
 refine H4.out.mono ?_;rintro e w5 ⟨he,l5,k5⟩
 obtain rfl:e= .returned (.tuple #[.int .i64 2,.int .i64 0]):=by
  rcases he with⟨hn,_⟩|⟨ι,xG,rfl⟩
  ·exact absurd (by decide) hn
  match ι,xG with
  | 0,xG=>exact absurd xG (by decide)
  | 1,xG=>exact absurd xG (by decide)
  | 2,_=>rfl
  | n+3,xG=>simp at xG
 have H5:=zH (yae l5 (by decide) (by omega) 0 1 2);have K5:=zH (K4.out.trans (k5.mono (λ _ hj=>.inl hj)));clear H4 K4 l5 k5
 go_wp2_with fail
 refine H5.out.mono ?_;rw[ybp];rintro e w6 ⟨he,l6,k6⟩;obtain rfl:e= .returned (.int .i64 0):=he;replace l6:Aw (λ j=>S j\/j=Q\/j=T) w6 P D Q T [9,7,8] 7:=l6;have H6:=zH (yad l6 (by decide) (by omega) 1 (by omega));have K6:=zH (K5.out.trans (k6.mono (λ _ hj=>.inl hj)));clear H5 K5 l6 k6
 go_wp2_with fail
 refine H6.out.mono ?_;rintro e w7 ⟨he,l7,k7⟩;obtain rfl:e= .returned (.tuple #[.int .u64 7,.int .i64 0]):=he;replace l7:Aw (λ j=>S j\/j=Q\/j=T) w7 P D Q T [9,8] 8:=l7;have H7:=zH (ybo l7 (by omega));have K7:=zH (K6.out.trans (k7.mono (λ _ hj=>.inl hj)));clear H6 K6 l7 k7
 go_wp2_with fail
 refine H7.out.mono ?_;rintro e w8 ⟨he,l8,k8⟩;obtain rfl:e= .returned (.tuple #[.int .i64 2,.int .i64 0]):=he;have h8:=Pp l8 (by decide) (by omega) 0 (by omega) 9;rw[show((9:UInt64).toNat:Int)=9 from rfl]at h8;have H8:=zH h8;have K8:=zH (K7.out.trans (k8.mono (λ _ hj=>.inl hj)));clear H7 K7 l8 k8 h8
 go_wp2_with fail
 refine H8.out.mono ?_;rintro e w9 ⟨he,l9,k9⟩;obtain rfl:e= .returned (.int .i64 5):=he;have K9:=zH (K8.out.trans (k9.mono (λ _ hj=>.inl hj)));clear H8 K8 l9 k9;go_wp2;go_ret;exact⟨rfl,K9.out⟩
def RX(M n:Nat)(x:Nat×Nat)(A:AP)(X Y:List UInt64)(op:Bool):Prop:=x.1+x.2<=n/\∃A0,sJ M x.1 x.2 A X A0 Y op
def KX(x:Nat×Nat):Nat:=T9 x.1 x.2
section
variable{W w w2:World}{P D Q T M:Nat}
theorem QD{S0:Nat->Prop}{B:World}{A:AP}{R:AP->List UInt64->List UInt64->Bool->Prop}(hl:R A [] [] false)(hS0:∀j,S0 j->j<W.heap.size\/j=Q\/j=T)(hS1:∀j,S0 j->j<B.heap.size)(hs:aD (λ j=>j<W.heap.size\/j=Q\/j=T) w P D Q T 2 1 A 10)(k1:Kept S0 B w)(b:Below w w w2) :
  xZ R S0 B (w2.alloc (.cells (dV P Q none 0 0 none 0 0 false) 29)) P D w2 10:=by
 have a2:Below w2 w2 (w2.alloc (.cells (dV P Q none 0 0 none 0 0 false) 29)):=(aP _ _).alloc (aZ _) _;have s2:(w2.alloc (.cells (dV P Q none 0 0 none 0 0 false) 29)).heap.size=w2.heap.size+1:=by simp
 have x2:=aI.new w2 (dV P Q none 0 0 none 0 0 false) 29;have b13:Below w w (w2.alloc (.cells (dV P Q none 0 0 none 0 0 false) 29)):=b.trans (a2.mono b.size);have Rj:=b.size;refine⟨Q,T,none,0,[],none,0,[],false,A,10,x2,⟨⟨hs.pz.wide b13 (λ j hj=>?_),hs.box.next b13,hs.tb.next b13,.inr (.inl rfl),.inr (.inr (.inl rfl))⟩,.inl ⟨rfl,rfl,rfl⟩,.inl ⟨rfl,rfl,rfl⟩⟩,aZ _,hl,k1.trans (Kept.of_below b13 (λ j hj=>bS (hS1 j hj) k1.size)),bf k1.size Rj⟩;rcases hj with(hj|hj)|hj|hj|hj|hj
 ·exact .inl (hS0 j hj)
 ·exact .inr (by omega)
 ·exact .inl (.inr (.inl hj))
 ·exact .inl (.inr (.inr hj))
 ·cases hj
 cases hj
theorem RX.si{n:Nat}{x:Nat×Nat}{A:AP}{X Y:List UInt64}{op:Bool}(h:RX M n x A X Y op):∃p,SI A X p:=h.2.elim λ _ h=>h.now.si
theorem RX.few{n:Nat}{x:Nat×Nat}{A:AP}{X Y:List UInt64}{op:Bool}(h:RX M n x A X Y op):X.length<=60*n:=by
 obtain⟨h1,A0,h2⟩:=h;have:=h2.now.few;omega
theorem QI{n:Nat}{x:Nat×Nat}{A:AP}{X Y:List UInt64}{op:Bool}(h:RX M n x A X Y op)(hn:n<=15):KX x<=786000000:=by
 have:=h.1;exact Kn x.1 (by omega) x.2 (by omega) (by omega)
end
open Go.ChangeShapes Go.WideShapes Go.ChangeAt Go.RowKit
open Go.ChangeMaps (open_string)
section
variable{H:Type}{enc:TypeId×Value->H}{P:Program}
theorem yb9{f:Func}{s:ChangeSpec}{apart fresh handsOn again:Bool}{W W':World}{args:Array Value}{v:Value}{ds gs:List (DataW H)}{before pa pv:List MemPlace}
  (hW:DataW.Whole enc P f.params.toList s.vars apart W args.toList ds gs before)
  (hres:∀(b:Nat) (sp:Nat->Bool) (hd:Bool),DataW.TrodAll enc P W' b sp hd f.resultTypes.toList (v.resultList f.resultTypes.size) (s.fn H (ds++gs)).results [])
  (hargs:∀sp:Nat->Bool,(∀p∈before,sp p.block=true)->DataW.TrodAll enc P W' 0 sp true f.params.toList args.toList (s.fn H (ds++gs)).args pa)
  (hvars:∀sp:Nat->Bool,(∀p∈before,sp p.block=true)->DataW.TrodVars enc P W' sp s.vars (s.fn H (ds++gs)).vars pv)
  (hps:before=pa++pv) (hb:Below W W W')
  (hok:∀(j:Nat) (t:TypeId) (r:Value),f.resultTypes[j]?=some t->(v.resultList f.resultTypes.size)[j]?=some r->Value.okWide P W' .any 0 t r) :
  s.post enc P f apart fresh handsOn again W args v W':=by
 have hlt:∀p∈before,p.block<W.heap.size:=λ p hp=>hW.lt p hp;have hold:∀p∈before,(λ b=>decide (b<W.heap.size)) p.block=true:=λ p hp=>by simpa using hlt p hp
 refine⟨ds,gs,before,[],pa,pv,hW,hres _ _ _,hargs _ hold,hvars _ hold,World.keptBut_mono (λ p hp=>⟨hp,?_⟩) (hb.frame (·∈before)),λ _=>?_⟩
 ·rw[hps,cB]at hp;exact Or.inr hp
 obtain⟨_,_,_,_,_,hz,hn⟩:=hW;refine⟨hok,_,_,([]++pa)++pv,⟨[]++pa,pv,trodAll_append (hargs _ (λ _ _=>rfl)) (hres _ _ _),hvars _ (λ _ _=>rfl),rfl,?_,?_⟩,?_⟩
 ·intro b off hp;have hin:MemPlace.cell b off∈before:=by rw[hps];simpa using hp
  rw[hb.frozen (hlt _ hin)];exact hz b off hin
 ·intro ha;have:=hn ha;rw[hps]at this
  simpa using this
 intro p hp _;rw[hps]
 simpa using hp
end
section
variable{H:Type}{enc:TypeId×Value->H}{P:Program}{w:World}{base:Nat}{sp:Nat->Bool}{held:Bool}
theorem ycb{r:Reach}{b0:Nat}{t:TypeId}{k:IntKind}{v:Value}{d:DataW H}{ps:List MemPlace}(ht:P.underlying t=some (.int k))(hval:Value.okWide P w r b0 t v)(hd:DataW.Trod enc P w base sp held t v d ps) :
  ∃n,v= .int k n/\(Lit.int k n).wf=true:=by
 obtain⟨n,h,_,_,hw⟩:=open_int ht hval hd;exact⟨n,h,hw⟩
end
theorem own:ownKnob Tryz.prog.godebug=none:=by kernel_rfl
theorem laidOut:laidOutB Tryz.prog=true:=by kernel_rfl
theorem gTab:Tryz.prog.globalNamed "tabular/check.table" =some 0 :=by kernel_rfl
theorem gTabType:(Tryz.prog.globals[0]?).map (·.type)=some 201 :=by kernel_rfl
theorem cellsTab:Tryz.prog.cellsOf 201 =16:=by kernel_rfl
theorem cellsU32:Tryz.prog.cellsOf 98 =1:=by kernel_rfl
def ycd:List Int:=[0,274646895,549293790,820201905,1098587580,1361435347,1640403810,1905808397,2197175160,2460548119,2722870694,2987750089,3280807620,3553878443,3811616794,4084100981]
theorem yce:∀i:Fin 16,ycd.getD i.val 0=((tab (UInt32.ofNat i.val)).toNat:Int):=by decide +kernel
theorem ycc{W:World}(h:Lib.TabIs Tryz.prog W "tabular/check.table" .u32 ycd):jG W:=λ c=>by
 have hlo:(UK.uk c).toNat<16:=by
  have:=UK.xyr c;omega
 have h1:=h.cell gTab (UK.uk c).toNat (by simpa[ycd]using hlo);have h2:=yce ⟨(UK.uk c).toNat,hlo⟩;simp only[UInt32.ofNat_toNat]at h2;rw[h1,h2]
noncomputable def yb8(os:Os):World:=
 {World.holding Tryz.prog os ⟨#[],#[],[]⟩with heap:=(World.holding Tryz.prog os ⟨#[],#[],[]⟩).heap.modify 0 λ
   | .cells _ t frozen=>.cells #[.int .u32 0,.int .u32 274646895,.int .u32 549293790,.int .u32 820201905,.int .u32 1098587580,.int .u32 1361435347,.int .u32 1640403810,.int .u32 1905808397,.int .u32 2197175160,.int .u32 2460548119,.int .u32 2722870694,.int .u32 2987750089,.int .u32 3280807620,.int .u32 3553878443,.int .u32 3811616794,.int .u32 4084100981] t frozen
   | o=>o}
theorem yca{W:World}{rest:List (String×DataW Unit)}(h:laidMet Tryz.prog (("tabular/check.table",Rows.laid_tabular_check_table)::rest) W):jG W:=
 ycc (Lib.tabIs_of_head (rest:=rest) gTab gTabType Tryz.underlying201 Tryz.underlying98 cellsU32 cellsTab h)
end Go.Proofs.YtlipgbnnbefhjaaGreatDoor
