/- Facts on rows of numbers on pages. -/
import Derived.Test.YtlipgbnnbefhjaaGreatDoorKPoolZc
import Derived.Deep.RegionLaw
set_option maxRecDepth 100000
set_option maxHeartbeats 8000000
set_option linter.unusedSimpArgs false
namespace Go.Proofs.YtlipgbnnbefhjaaGreatDoor
open Go.RowKit
open UK (str aO nth Only Row aI jR ol)
open Go.BigFrame
structure AO where
 was:Int->Option (List UInt8)
 made:List Int
 gone:List Int
structure AP where
 aj:Nat
 ax:Int
 free:List Nat
 c:Nat->List UInt8
 op:Option AO
def u7(o:Option jQ):Option AO:=o.map λ x=>{was:=x.was,made:=x.made,gone:=x.gone}
namespace AP
def bU(A:AP):List Int:=match A.op with
 | none=>[]
 | some o=>o.gone
def Has(A:AP)(p:Nat):Prop:=1<=p/\p<A.aj/\p∉A.free/\(p:Int)∉A.bU
def Full(A:AP):Prop:=A.ax<=A.aj/\A.free=[]
def next(A:AP):Nat:=if A.free=[] then A.aj else A.free.getLastD 0
def put(A:AP)(p:Nat)(s:List UInt8):AP:={A with c:=dI A.c p s}
def keep(A:AP)(p:Nat):AP:={A with op:=A.op.map λ o=>if (p:Int)∈o.made\/(o.was p).isSome=true then o else {o with was:=λ j=>if j=p then some (A.c p) else o.was j}}
def take(A:AP):AP:={A with aj:=if A.free=[] then A.aj+1 else A.aj,free:=A.free.dropLast,c:=dI A.c A.next (UK.bW 504),op:=A.op.map λ o=>{o with made:=o.made++[(A.next:Int)]}}
def give(A:AP)(p:Nat):AP:=match A.op with
 | none=>{A with free:=A.free++[p]}
 | some o=>{A with op:=some {o with gone:=o.gone++[(p:Int)]}}
end AP
structure Is(A:AP)(q:Pl)(d:Dk):Prop where
 free:d.free=A.free
 ax:d.ax=A.ax
 op:u7 q.op=A.op
def PZ(E:Nat->Prop)(W:World)(P D:Nat)(A:AP)(k:Nat):Prop:=∃FB M n q d,PS E W P D FB M n 0 q d A.aj k A.c/\1<=n/\Is A q d
def PF(E:Nat->Prop)(W:World)(P D:Nat)(A:AP)(k fb db cap pg:Nat)(dy:Bool):Prop:=
 ∃(FB M n:Nat) (q:Pl) (d:Dk) (i:Nat) (f:Fr),PS E W P D FB M n 1 q d A.aj k A.c/\1<=n/\Is A q d/\q.ag[i]?=some (some f)/\f.blk=fb/\f.db=db/\f.cap=cap/\f.page=(pg:Nat)/\0<f.ak/\(dy=true->f.bH=true)
theorem Rs:∀(l:List (Option Fr)),(∀(i:Nat) (f:Fr),l[i]?=some (some f)->0<=f.ak)->0<=u6 l/\(u6 l=0->∀(i:Nat) (f:Fr),l[i]?=some (some f)->f.ak=0)
 | [],_=>⟨Int.le_refl _,λ _ i f h=>by cases h⟩
 | o::l,h=>by
  obtain⟨h1,h2⟩:=Rs l (λ i f hi=>h (i+1) f hi)
  have ho:0<=iH o:=by
   cases o with
   | none=>exact Int.le_refl _
   | some f=>exact h 0 f rfl
  rw[IU];refine⟨by omega,λ hz i f hi=>?_⟩
  cases i with
  | zero=>
   have e:o=some f:=bC hi;subst e;have:iH (some f)=f.ak:=rfl;omega
  | succ j=>exact h2 (by omega) j f hi
section
variable{E:Nat->Prop}{W W':World}{P D k fb db cap pg:Nat}{A:AP}{dy:Bool}
theorem PS.wide{FB M n aj:Nat}{kp:Int}{q:Pl}{d:Dk}{c:Nat->List UInt8}(h:PS E W P D FB M n kp q d aj k c)(hb:Below W W W'){T:Nat->Prop}(hT:∀j,T j->E j\/(W.heap.size<=j/\j<W'.heap.size)):PS T W' P D FB M n kp q d aj k c:=by
 refine⟨⟨h.pd.pool.kept hb.size (λ j hj=>hb.block j (h.pd.pool.lt hj)),h.pd.dd.grow hb (λ j hj=>?_),λ j hj hp=>?_⟩,h.ok,h.kL,h.held,h.ak,h.len,h.calm,h.lim⟩
 ·rcases hj with hj|hj
  ·rcases hT j hj with h1|h1
   ·exact .inl (.inl h1)
   exact .inr h1
  exact .inl (.inr hj)
 rcases hT j hj with h1|h1
 ·exact h.pd.far j h1 hp
 have:=h.pd.pool.lt hp;omega
theorem PZ.wide(h:PZ E W P D A k)(hb:Below W W W'){T:Nat->Prop}(hT:∀j,T j->E j\/(W.heap.size<=j/\j<W'.heap.size)):PZ T W' P D A k:=by
 obtain⟨FB,M,n,q,d,h1,r⟩:=h;exact⟨FB,M,n,q,d,h1.wide hb hT,r⟩
theorem PZ.less(h:PZ E W P D A k){T:Nat->Prop}(hT:∀j,T j->E j):PZ T W P D A k:=h.wide (aP _ _) (λ j hj=>.inl (hT j hj))
theorem PZ.next(h:PZ E W P D A k)(hb:Below W W W'):PZ E W' P D A k:=h.wide hb (λ _ hj=>.inl hj)
theorem PF.wide(h:PF E W P D A k fb db cap pg dy)(hb:Below W W W'){T:Nat->Prop}(hT:∀j,T j->E j\/(W.heap.size<=j/\j<W'.heap.size)):PF T W' P D A k fb db cap pg dy:=by
 obtain⟨FB,M,n,q,d,i,f,h1,r⟩:=h;exact⟨FB,M,n,q,d,i,f,h1.wide hb hT,r⟩
theorem PF.less(h:PF E W P D A k fb db cap pg dy){T:Nat->Prop}(hT:∀j,T j->E j):PF T W P D A k fb db cap pg dy:=h.wide (aP _ _) (λ j hj=>.inl (hT j hj))
theorem PF.next(h:PF E W P D A k fb db cap pg dy)(hb:Below W W W'):PF E W' P D A k fb db cap pg dy:=h.wide hb (λ _ hj=>.inl hj)
theorem DD.over{S:Nat->Prop}{aj:Nat}{d:Dk}(h:DD S W D d aj){R:Nat->Prop}(hRS:∀j,R j->S j)(FZ:¬R 0)(hs:W.heap.size<=W'.heap.size)(hk:∀j,j<W.heap.size->¬R j->W'.heap[j]?=W.heap[j]?){T:Nat->Prop}(hT:∀j,T j->S j\/(W.heap.size<=j/\j<W'.heap.size)):DD T W' D d aj:=by
 obtain⟨⟨own,ho,B,bc,fo,fc,I,ic,y,hd⟩,ft,hS⟩:=h;have hd2:=hd.tight;have hown2:∀k,(own k/\k<W.heap.size)->W'.heap[k]?=W.heap[k]?:=λ k hj=>hk k hj.2 (λ hr=>ho k hj.1 (hRS k hr));have htab:jG W':=λ c=>(mh (a:=⟨_,_,none⟩) (hk _ hd.tab.lt FZ)).trans (hd.tab c);refine⟨⟨λ k=>own k/\k<W.heap.size,λ k hk ht=>?_,B,bc,fo,fc,I,ic,y,?_⟩,ft,λ k hk=>?_⟩
 ·rcases hT k ht with h1|h1
  ·exact ho k hk.1 h1
  exact absurd hk.2 (by omega)
 ·refine⟨hd2.cells.af hs (hown2 _ hd2.oD),hd2.bytes.af (hown2 _ hd2.oB),hd2.lJ,hd2.le,hd2.pre,?_,hd2.flags.af hs (hown2 _ hd2.oI),hd2.DB,hd2.DI,hd2.BI,hd2.oD,hd2.oB,hd2.oI,htab,hd2.gX⟩;rcases hd2.fw with h0|⟨F,e1,r,n1,n2,n3,n4⟩
  ·exact .inl h0
  exact .inr ⟨F,e1,r.af hs (hown2 _ n4),n1,n2,n3,n4⟩
 rcases hT k hk with h1|h1
 ·exact bS (hS k h1) hs
 exact h1.2
theorem PS.over{FB M n aj:Nat}{kp:Int}{q:Pl}{d:Dk}{c:Nat->List UInt8}(h:PS E W P D FB M n kp q d aj k c){R:Nat->Prop}(IV:∀j,R j->E j)(FZ:¬R 0)(hs:W.heap.size<=W'.heap.size)(hk:∀j,j<W.heap.size->¬R j->W'.heap[j]?=W.heap[j]?){T:Nat->Prop}(hT:∀j,T j->E j\/(W.heap.size<=j/\j<W'.heap.size)):PS T W' P D FB M n kp q d aj k c:=by
 refine⟨⟨h.pd.pool.kept hs (λ j hj=>hk j (h.pd.pool.lt hj) (λ hr=>h.pd.far j (IV j hr) hj)),h.pd.dd.over (λ j hj=>.inl (IV j hj)) FZ hs hk (λ j hj=>?_),λ j hj hp=>?_⟩,h.ok,h.kL,h.held,h.ak,h.len,h.calm,h.lim⟩
 ·rcases hj with hj|hj
  ·rcases hT j hj with h1|h1
   ·exact .inl (.inl h1)
   exact .inr h1
  exact .inl (.inr hj)
 rcases hT j hj with h1|h1
 ·exact h.pd.far j h1 hp
 have:=h.pd.pool.lt hp;omega
theorem PZ.over(h:PZ E W P D A k){R:Nat->Prop}(IV:∀j,R j->E j)(FZ:¬R 0)(hs:W.heap.size<=W'.heap.size)(hk:∀j,j<W.heap.size->¬R j->W'.heap[j]?=W.heap[j]?){T:Nat->Prop}(hT:∀j,T j->E j\/(W.heap.size<=j/\j<W'.heap.size)):PZ T W' P D A k:=by
 obtain⟨FB,M,n,q,d,h1,r⟩:=h;exact⟨FB,M,n,q,d,h1.over IV FZ hs hk hT,r⟩
theorem PZ.there(h:PZ E W P D A k):∀j,E j->j<W.heap.size:=by
 obtain⟨FB,M,n,q,d,h1,r⟩:=h;exact λ j hj=>h1.pd.dd.there j (.inl hj)
theorem PF.there(h:PF E W P D A k fb db cap pg dy):∀j,E j->j<W.heap.size:=by
 obtain⟨FB,M,n,q,d,i,f,h1,r⟩:=h;exact λ j hj=>h1.pd.dd.there j (.inl hj)
theorem PZ.kept(h:PZ E W P D A k)(hb:Below W W W'):Kept E W W':=Kept.of_below hb h.there
theorem PF.kept(h:PF E W P D A k fb db cap pg dy)(hb:Below W W W'):Kept E W W':=Kept.of_below hb h.there
theorem PZ.up{m:Nat}(h:PZ E W P D A k)(hm:k<=m):PZ E W P D A m:=by
 obtain⟨FB,M,n,q,d,h1,r⟩:=h;exact⟨FB,M,n,q,d,h1.up hm,r⟩
theorem PF.up{m:Nat}(h:PF E W P D A k fb db cap pg dy)(hm:k<=m):PF E W P D A m fb db cap pg dy:=by
 obtain⟨FB,M,n,q,d,i,f,h1,r⟩:=h;exact⟨FB,M,n,q,d,i,f,h1.up hm,r⟩
theorem PZ.tab(h:PZ E W P D A k):jG W:=by
 obtain⟨FB,M,n,q,d,h1,r⟩:=h;exact h1.pd.dd.tab
theorem PF.bytes(h:PF E W P D A k fb db cap pg dy):∃y,aO W db y/\y.length=cap/\y.take 504=A.c pg/\504<=cap/\¬E db:=by
 obtain⟨FB,M,n,q,d,i,f,h1,_,_,hi,rfl,rfl,rfl,hp,_⟩:=h;have hfr:=h1.pd.pool.each i f hi;obtain⟨y,a,b,e⟩:=hfr.bytes;refine⟨y,a,b,e.trans ?_,hfr.cap,λ he=>h1.pd.far _ he (.inr (.inr (.inr (.inr ⟨i,some f,hi,.inr rfl⟩))))⟩;have:=h1.calm.at_ i f hi;rw[hp,Int.toNat_natCast]at this;exact this
theorem PF.fq(h:PF E W P D A k fb db cap pg dy):(A.c pg).length=504:=by
 obtain⟨y,_,h1,h2,h3,_⟩:=h.bytes;rw[<-h2,zt];omega
theorem PF.write(h:PF E W P D A k fb db cap pg true)(ho:Only db W W'){y:List UInt8}(hy:aO W' db y)(hyl:y.length=cap):PF E W' P D (A.put pg (y.take 504)) k fb db cap pg true/\Kept E W W':=by
 obtain⟨FB,M,n,q,d,i,f,h1,hn,his,hi,rfl,rfl,rfl,hp,hpi,hd⟩:=h;have hl:=(dn.1 hi).1;obtain⟨a,b⟩:=h1.bytes hi (hd rfl) ho hy hyl;rw[show f.page.toNat=pg by omega]at a;exact⟨⟨FB,M,n,_,d,i,{f with data:=y.take 504},a,hn,⟨his.free,his.ax,his.op⟩,by show(q.ag.set i _)[i]?=_;rw[gB _ _ _ _ hl,if_pos rfl],rfl,rfl,rfl,hp,hpi,λ _=>hd rfl⟩,b⟩
theorem Is.has{q:Pl}{d:Dk}{aj:Nat}{c:Nat->List UInt8}(h:Is A q d)(hc:Calm q d aj c)(hcnt:A.aj=aj)(p:Int):(∃m:Nat,p=m/\A.Has m)↔bn d aj p=true/\p∉bU q.op:=by
 have hg:bU q.op=A.bU:=by
  have:=h.op;unfold AP.bU;rw[<-this];unfold bU u7
  cases q.op<;>rfl
 rw[hc.clean.so.lN,decide_eq_true_eq,hg,h.free];unfold AP.Has
 constructor
 ·rintro⟨m,rfl,h1,h2,h3,h4⟩;rw[Int.toNat_natCast];exact⟨⟨by omega,by omega,h3⟩,h4⟩
 rintro⟨⟨h1,h2,h3⟩,h4⟩;exact⟨p.toNat,by omega,by omega,by omega,h3,by rw[show((p.toNat:Nat):Int)=p by omega];exact h4⟩
theorem CS(h:PZ E W P D A k)(hk:k+2<900000000)(p:Nat)(hp:A.Has p) :
  Calls Tryz.prog 50 #[.pointer P,.int .i64 p] W λ e w'=>∃fb db cap,e= .returned (.tuple #[.pointer (some ⟨fb,0,none⟩),.int .i64 0])/\PF E w' P D A (k+2) fb db cap p false/\Kept E W w':=by
 obtain⟨FB,M,n,q,d,h1,hn,his⟩:=h;obtain⟨hh,hg⟩:=(his.has h1.calm rfl (p:Int)).1 ⟨p,rfl,hp⟩;have hpw:(Lit.int .i64 (p:Int)).wf=true:=WalkArith.wf_i64 (by have:=hp.2.1;have:=h1.kL.fit.few;omega)
 have hc:Calls Tryz.prog 50 #[.pointer P,.int .i64 p] W λ e w'=>Ga E W w' P D FB M n 0 q d A.aj k A.c p e:=by
  by_cases hx:∃(i:Nat) (f:Fr),q.ag[i]?=some (some f)/\f.page=p
  ·obtain⟨i,f,hi,hf⟩:=hx;refine xtk h1 ⟨by omega,by omega⟩ (p:Int) hpw hh hg hi hf ?_;have h0:=(Rs q.ag (λ i f hi=>(h1.ok.pos i f hi).1)).2 (by rw[<-h1.ok.ak];exact h1.ak) i f hi;omega
  exact xtm h1 hk ⟨by omega,by omega⟩ (p:Int) hpw hh hg (λ i f hi hf=>hx ⟨i,f,hi,hf⟩)
 refine hc.mono ?_;rintro e w' ⟨i,f,q',d',rfl,hi,hf,hfp,s,kk,hop,hfr,hmo⟩;exact⟨f.blk,f.db,f.cap,rfl,⟨FB,M,n,q',d',i,f,s,hn,⟨hfr.trans his.free,hmo.trans his.ax,by rw[hop];exact his.op⟩,hi,rfl,rfl,rfl,hf,hfp,λ hh=>by cases hh⟩,kk⟩
theorem yf(h:PF E W P D A k fb db cap pg dy) :
  Calls Tryz.prog 60 #[.pointer fb] W λ e w'=>e= .returned (.int .i64 pg)/\w'=W:=by
 obtain⟨FB,M,n,q,d,i,f,h1,hn,his,hi,rfl,rfl,rfl,hp,hpi,hd⟩:=h;have:=xwt (h1.pd.pool.each i f hi);rw[hp]at this;exact this
theorem Oe(h:PF E W P D A k fb db cap pg dy) :
  Calls Tryz.prog 52 #[.pointer fb] W λ e w'=>e= .returned (.slice db 504 cap)/\w'=W:=by
 obtain⟨FB,M,n,q,d,i,f,h1,hn,his,hi,rfl,rfl,rfl,hp,hpi,hd⟩:=h;have c2:=(h1.pd.pool.each i f hi).box.c2;clear h1 hi
 go_enter Tryz.func52,Tryz.ntmps52
 go_wp2;go_ret
 exact⟨rfl,rfl⟩
theorem xzp{q:Pl}{f:Fr}(h:u7 q.op=A.op)(hp:f.page=(pg:Nat))(hd:f.data=A.c pg):u7 (xii q.op f.page f.data)=(A.keep pg).op:=by
 unfold AP.keep;rw[hp,hd];show _=A.op.map _;rw[<-h];unfold u7 xii
 cases q.op with
 | none=>rfl
 | some o=>
  show Option.map _ (if _ then _ else _)=_;simp only[Option.map_some];by_cases hc:(pg:Int)∈o.made\/(o.was pg).isSome=true
  ·rw[if_pos hc,if_pos hc];rfl
  rw[if_neg hc,if_neg hc];rfl
theorem BN(h:PF E W P D A k fb db cap pg dy)(hk:k<900000000) :
  Calls Tryz.prog 57 #[.pointer fb] W λ e w'=>e= .returned (.slice db 504 cap)/\PF E w' P D (A.keep pg) (k+1) fb db cap pg true/\Kept E W w':=by
 obtain⟨FB,M,n,q,d,i,f,h1,hn,his,hi,rfl,rfl,rfl,hp,hpi,hd⟩:=h;have hl:=(dn.1 hi).1
 have Ko:f.data=A.c pg:=by
  have:=h1.calm.at_ i f hi;rw[hp,Int.toNat_natCast]at this;exact this
 refine(xwx h1 hi hk).mono ?_;rintro e w' ⟨a,s,kk⟩;exact⟨a,⟨FB,M,n,_,d,i,{f with bH:=true},s,hn,⟨his.free,his.ax,xzp his.op hp Ko⟩,by show(q.ag.set i _)[i]?=_;rw[gB _ _ _ _ hl,if_pos rfl],rfl,rfl,rfl,hp,hpi,λ _=>rfl⟩,kk⟩
theorem Rt(h:PF E W P D A k fb db cap pg dy) :
  Calls Tryz.prog 51 #[.pointer fb] W λ e w'=>e= .returned (.tuple #[])/\PZ E w' P D A k/\Kept E W w':=by
 obtain⟨FB,M,n,q,d,i,f,h1,hn,his,hi,rfl,rfl,rfl,hp,hpi,hd⟩:=h;refine(xti h1 hi hpi ⟨by omega,by omega⟩).mono ?_;rintro e w' ⟨a,s,kk⟩;exact⟨a,⟨FB,M,n,_,d,s,hn,⟨his.free,his.ax,his.op⟩⟩,kk⟩
theorem sK(u:FrameMode)(h:PF E W P D A k fb db cap pg dy) :
  CallsD Tryz.prog 51 #[.pointer fb] u W λ e u' w'=>u'=u/\(e= .returned (.tuple #[])/\PZ E w' P D A k/\Kept E W w'):=by
 obtain⟨FB,M,n,q,d,i,f,h1,hn,his,hi,rfl,rfl,rfl,hp,hpi,hd⟩:=h;refine(xoa u h1 hi hpi ⟨by omega,by omega⟩).mono ?_;rintro e u' w' ⟨hu,a,s,kk⟩;exact⟨hu,a,⟨FB,M,n,_,d,s,hn,⟨his.free,his.ax,his.op⟩⟩,kk⟩
theorem xzq(d:Dk)(aj:Nat)(hf:¬BO d aj)(hw:d.wl≠0):tP d aj=(if d.free=[] then aj else d.free.getLastD 0)/\tC d aj=(if d.free=[] then aj+1 else aj)/\(tD d aj).free=d.free.dropLast:=by
 unfold BO at hf;unfold tP tC tD;rw[if_neg hf,if_neg hf,if_neg hf,if_neg hw,if_neg hw,if_neg hw];refine⟨rfl,rfl,?_⟩;by_cases h:d.free=[]
 ·rw[if_pos h,h];exact h
 rw[if_neg h];rfl
theorem Og(h:PZ E W P D A k)(hk:k+2<900000000)(hf:¬A.Full) :
  Calls Tryz.prog 55 #[.pointer P] W λ e w'=>∃fb db cap,e= .returned (.tuple #[.pointer (some ⟨fb,0,none⟩),.int .i64 0])/\PF E w' P D A.take (k+2) fb db cap A.next false/\Kept E W w':=by
 obtain⟨FB,M,n,q,d,h1,hn,his⟩:=h;have hf2:¬BO d A.aj:=by unfold BO;rw[his.free,his.ax];exact hf
 obtain⟨t1,t2,t3⟩:=xzq d A.aj hf2 (by rw[h1.calm.clean.wl];decide);rw[his.free]at t1 t2 t3;refine(xtq h1 hk ⟨by omega,by omega⟩ hf2).mono ?_;rintro e w' ⟨i,f,q',d',rfl,hi,hf,hfp,s,kk,hm,hfr,hmo⟩;rw[t1,t2]at s;refine⟨f.blk,f.db,f.cap,rfl,⟨FB,M,n,q',d',i,f,s,hn,⟨hfr.trans t3,hmo.trans his.ax,?_⟩,hi,rfl,rfl,rfl,by rw[hf,t1];rfl,hfp,λ hh=>by cases hh⟩,kk⟩;show _=A.op.map _;rw[<-his.op];rcases hm with⟨a,b⟩|⟨x,y,a,b,e1,e2,e3,e4⟩
 ·rw[a,b];rfl
 rw[a,b];unfold u7;simp only[Option.map_some];rw[e1,e3,e4,t1];rfl
theorem xq3(h:PZ E W P D A k)(hk:k+2<900000000)(hf:A.Full) :
  Calls Tryz.prog 55 #[.pointer P] W λ e w'=>e= .returned (.tuple #[.pointer none,.int .i64 6])/\PZ E w' P D A (k+2)/\Kept E W w':=by
 obtain⟨FB,M,n,q,d,h1,hn,his⟩:=h;refine(xtp h1 hk ⟨by omega,by omega⟩ (by unfold BO;rw[his.free,his.ax];exact hf)).mono ?_;rintro e w' ⟨q',d',rfl,s,kk,hop,hfr,hmo⟩;exact⟨rfl,⟨FB,M,n,q',d',s,hn,⟨hfr.trans his.free,hmo.trans his.ax,by rw[hop];exact his.op⟩⟩,kk⟩
theorem PS.rest{FB M n aj:Nat}{q:Pl}{d:Dk}{c:Nat->List UInt8}(h:PS E W P D FB M n 0 q d aj k c)(i:Nat)(f:Fr)(hi:q.ag[i]?=some (some f)):f.ak=0:=
 (Rs q.ag (λ i f hi=>(h.ok.pos i f hi).1)).2 (by rw[<-h.ok.ak];exact h.ak) i f hi
theorem IW(h:PZ E W P D A k)(hk:k+1<900000000)(p:Nat)(hp:A.Has p) :
  Calls Tryz.prog 68 #[.pointer P,.int .i64 p] W λ e w'=>e= .returned (.int .i64 0)/\PZ E w' P D (A.give p) (k+1)/\Kept E W w':=by
 obtain⟨FB,M,n,q,d,h1,hn,his⟩:=h;obtain⟨hh,hg⟩:=(his.has h1.calm rfl (p:Int)).1 ⟨p,rfl,hp⟩;have hpw:(Lit.int .i64 (p:Int)).wf=true:=WalkArith.wf_i64 (by have:=hp.2.1;have:=h1.kL.fit.few;omega);have hq0:∀(i:Nat) (f:Fr),q.ag[i]?=some (some f)->f.page=p->f.ak<=0:=λ i f hi _=>by have:=h1.rest i f hi;omega
 have ho:=his.op
 cases hq:q.op with
 | none=>
  refine(xtt h1 hk hq hq0 hpw hh).mono ?_;rintro e w' ⟨q',d',rfl,s,kk,hop,hfr,hmo⟩;rw[hq]at ho;have e0:A.op=none:=ho.symm;have e1:A.give p={A with free:=A.free++[p]}:=by unfold AP.give;rw[e0]
  rw[e1];exact⟨rfl,⟨FB,M,n,q',d',s,hn,⟨by rw[hfr,his.free,Int.toNat_natCast],hmo.trans his.ax,by rw[hop];exact e0.symm⟩⟩,kk⟩
 | some o=>
  refine(xts h1 hk hq hq0 hpw hh hg).mono ?_;rintro e w' ⟨rfl,op',hgo,s,kk⟩;rw[hq]at ho;have e0:A.op=some {was:=o.was,made:=o.made,gone:=o.gone}:=ho.symm;have e1:A.give p={A with op:=some {was:=o.was,made:=o.made,gone:=o.gone++[(p:Int)]}}:=by unfold AP.give;rw[e0]
  rw[e1];refine⟨rfl,⟨FB,M,n,_,d,s,hn,⟨his.free,his.ax,?_⟩⟩,kk⟩;obtain⟨x,y,a,b,f1,_,f3,f4⟩:=hgo;rw[hq]at a;obtain rfl:=bC a;show u7 op'=_;rw[b];unfold u7;simp only[Option.map_some];rw[f1,f3,f4]
end
open Go.RowKit
open UK (str aO nth Only Row aI)
def AP.az(A:AP)(pg:Nat)(s:List UInt8):AP:=(A.keep pg).put pg s
theorem AP.om(A:AP)(pg:Nat):(A.keep pg).bU=A.bU:=by
 unfold AP.keep AP.bU
 cases ho:A.op with
 | none=>simp
 | some o=>
  simp only[Option.map_some]
  split<;>rfl
theorem AP.zW{A:AP}{pg:Nat}{p:Nat}:(A.keep pg).Has p↔A.Has p:=by
 unfold AP.Has;rw[AP.om];rfl
theorem AP.bu{A:AP}{pg:Nat}{s:List UInt8}{p:Nat}:(A.az pg s).Has p↔A.Has p:=AP.zW (A:=A) (pg:=pg) (p:=p)
theorem AP.bG{A:AP}{pg:Nat}{s:List UInt8}{p:Nat}:(A.az pg s).c p=if pg=p then s else A.c p:=rfl
structure AP.Good(A:AP):Prop where
 one:1<=A.aj
 ax:(A.aj:Int)<=A.ax
 few:A.ax<=60000
 eY:A.free.Nodup
 free:∀p,p∈A.free->1<=p/\p<A.aj
 pu:A.bU.Nodup
 gone:∀g,g∈A.bU->∃m:Nat,g=m/\1<=m/\m<A.aj/\m∉A.free
def AP.ay(A:AP):Nat:=(A.ax-A.aj).toNat+A.free.length
namespace AP
variable{A:AP}
theorem Good.full(h:A.Good):A.Full↔A.ay=0:=by
 unfold AP.Full AP.ay;have:=h.ax;rw[<-pE];omega
theorem Good.next(h:A.Good)(hf:¬A.Full):¬A.Has A.next/\1<=A.next/\A.next<=60000:=by
 have h1:=h.one;have h2:=h.ax;have h3:=h.few;unfold AP.next;by_cases e:A.free=[]
 ·rw[if_pos e];have:¬A.ax<=A.aj:=λ h5=>hf ⟨h5,e⟩;exact⟨λ h4=>absurd h4.2.1 (by omega),by omega,by omega⟩
 rw[if_neg e]
 have hm:A.free.getLastD 0∈A.free:=by
  rw[List.getLastD_eq_getLast?,List.getLast?_eq_some_getLast e];exact List.getLast_mem e
 have:=h.free _ hm;exact⟨λ h4=>h4.2.2.1 hm,by omega,by omega⟩
theorem xq4{l:List Nat}(e:l≠[]):l=l.dropLast++[l.getLastD 0]:=by
 rw[List.getLastD_eq_getLast?,List.getLast?_eq_some_getLast e];exact(List.dropLast_concat_getLast e).symm
theorem xq5:A.take.bU=A.bU:=by
 unfold AP.take AP.bU
 cases A.op<;>rfl
theorem Good.take(h:A.Good)(hf:¬A.Full):A.take.Good/\(∀p,A.take.Has p↔A.Has p\/p=A.next)/\A.take.ay+1=A.ay:=by
 have h1:=h.one;have h2:=h.ax;have h3:=h.few;have hg:=xq5 (A:=A);by_cases e:A.free=[]
 ·have hlt:(A.aj:Int)<A.ax:=by
   have:¬A.ax<=A.aj:=λ h5=>hf ⟨h5,e⟩;omega
  have ec:A.take.aj=A.aj+1:=by show(if A.free=[] then _ else _)=_;rw[if_pos e]
  have ef:A.take.free=[]:=by show A.free.dropLast=[];rw[e];rfl
  have en:A.next=A.aj:=by unfold AP.next;rw[if_pos e]
  refine⟨⟨by omega,by rw[ec];show _<=A.ax;omega,h3,by rw[ef];exact List.nodup_nil,λ p hp=>(by rw[ef]at hp;cases hp),by rw[hg];exact h.pu,λ g hgm=>?_⟩,λ p=>?_,?_⟩
  ·rw[hg]at hgm;obtain⟨m,a,b,c,d⟩:=h.gone g hgm;exact⟨m,a,b,by omega,by rw[ef];exact List.not_mem_nil⟩
  ·unfold AP.Has;rw[ec,ef,hg,en,e]
   constructor
   ·rintro⟨a,b,c,d⟩;by_cases e2:p=A.aj
    ·exact .inr e2
    exact .inl ⟨a,by omega,c,d⟩
   rintro(⟨a,b,c,d⟩|rfl)
   ·exact⟨a,by omega,c,d⟩
   refine⟨h1,by omega,List.not_mem_nil,λ hm=>?_⟩;obtain⟨m,a,b,c,d⟩:=h.gone _ hm;omega
  unfold AP.ay;rw[ec,ef,e];show((A.ax-((A.aj+1:Nat):Int)).toNat+0)+1=_;show _=(A.ax-A.aj).toNat+0;omega
 have hs:=xq4 e;generalize hp0:A.free.getLastD 0=p0 at hs;generalize hl0:A.free.dropLast=l0 at hs;have ec:A.take.aj=A.aj:=by show(if A.free=[] then _ else _)=_;rw[if_neg e]
 have ef:A.take.free=l0:=hl0;have en:A.next=p0:=by unfold AP.next;rw[if_neg e];exact hp0
 have hnd:=h.eY;rw[hs,bF]at hnd;have Kq:p0∈A.free:=by rw[hs];exact fE _ (bQ.2 rfl)
 have Ru:p0∉l0:=λ hm=>hnd.2.2 p0 hm p0 (bQ.2 rfl) rfl;have hb:=h.free p0 Kq;refine⟨⟨by omega,by rw[ec];exact h2,h3,by rw[ef];exact hnd.1,λ p hp=>?_,by rw[hg];exact h.pu,λ g hgm=>?_⟩,λ p=>?_,?_⟩
 ·rw[ef]at hp;rw[ec];exact h.free p (by rw[hs];exact bR _ hp)
 ·rw[hg]at hgm;obtain⟨m,a,b,c,d⟩:=h.gone g hgm;exact⟨m,a,b,by omega,by rw[ef];exact λ hm=>d (by rw[hs];exact bR _ hm)⟩
 ·unfold AP.Has;rw[ec,ef,hg,en,hs];simp only[cB,bQ]
  constructor
  ·rintro⟨a,b,c,d⟩;by_cases e2:p=p0
   ·exact .inr e2
   exact .inl ⟨a,b,λ hh=>hh.elim c e2,d⟩
  rintro(⟨a,b,c,d⟩|rfl)
  ·exact⟨a,b,λ hm=>c (.inl hm),d⟩
  refine⟨hb.1,hb.2,Ru,λ hm=>?_⟩;obtain⟨m,a,_,_,d⟩:=h.gone _ hm;have:p=m:=by omega
  subst this;exact d Kq
 unfold AP.ay;rw[ec,ef,hs,zl];show(A.ax-A.aj).toNat+l0.length+1=(A.ax-A.aj).toNat+(l0.length+1);omega
theorem Good.az(h:A.Good)(p:Nat)(s:List UInt8):(A.az p s).Good:=by
 have hg:(A.az p s).bU=A.bU:=AP.om A p;exact⟨h.one,h.ax,h.few,h.eY,h.free,by rw[hg];exact h.pu,by rw[hg];exact h.gone⟩
theorem ji(p:Nat)(s:List UInt8):(A.az p s).ay=A.ay:=rfl
theorem Good.keep(h:A.Good)(p:Nat):(A.keep p).Good:=by
 have hg:(A.keep p).bU=A.bU:=AP.om A p;exact⟨h.one,h.ax,h.few,h.eY,h.free,by rw[hg];exact h.pu,by rw[hg];exact h.gone⟩
theorem mr(p:Nat):(A.give p).c=A.c:=by
 unfold AP.give
 cases A.op<;>rfl
theorem Good.give(h:A.Good){p:Nat}(hp:A.Has p):(A.give p).Good/\(∀q,(A.give p).Has q↔A.Has q/\q≠p)/\A.ay<=(A.give p).ay/\(A.op=none->(A.give p).ay=A.ay+1):=by
 obtain⟨p1,p2,p3,p4⟩:=hp
 cases ho:A.op with
 | none=>
  have eg:A.give p={A with free:=A.free++[p]}:=by unfold AP.give;rw[ho]
  have hg0:A.bU=[]:=by unfold AP.bU;rw[ho]
  have hg:({A with free:=A.free++[p]}:AP).bU=[]:=by unfold AP.bU;show(match A.op with|none=>[]|some o=>o.gone)=[];rw[ho]
  rw[eg];refine⟨⟨h.one,h.ax,h.few,?_,λ q hq=>?_,by rw[hg];exact List.nodup_nil,λ g hgm=>(by rw[hg]at hgm;cases hgm)⟩,λ q=>?_,?_,λ _=>?_⟩
  ·exact bF.2 ⟨h.eY,List.pairwise_singleton _ _,λ a ha b hb=>by rw[bQ.1 hb];exact λ e=>p3 (e▸ha)⟩
  ·rcases cB.1 hq with hq|hq
   ·exact h.free q hq
   rw[bQ.1 hq];exact⟨p1,p2⟩
  ·unfold AP.Has;rw[hg,hg0];show 1<=q/\q<A.aj/\q∉A.free++[p]/\_↔_;simp only[cB,bQ,not_or]
   constructor
   ·rintro⟨a,b,⟨c,d⟩,e⟩;exact⟨⟨a,b,c,e⟩,d⟩
   rintro⟨⟨a,b,c,e⟩,d⟩;exact⟨a,b,⟨c,d⟩,e⟩
  ·unfold AP.ay;show _<=(A.ax-A.aj).toNat+(A.free++[p]).length;rw[zl];omega
  unfold AP.ay;show(A.ax-A.aj).toNat+(A.free++[p]).length=_;rw[zl];show _+(_+1)=_;omega
 | some o=>
  have eg:A.give p={A with op:=some {o with gone:=o.gone++[(p:Int)]}}:=by unfold AP.give;rw[ho]
  have hg0:A.bU=o.gone:=by unfold AP.bU;rw[ho]
  have hg:({A with op:=some {o with gone:=o.gone++[(p:Int)]}}:AP).bU=o.gone++[(p:Int)]:=rfl;rw[hg0]at p4;have hgn:=h.pu;have hgo:=h.gone;rw[hg0]at hgn hgo;rw[eg];refine⟨⟨h.one,h.ax,h.few,h.eY,h.free,?_,λ g hgm=>?_⟩,λ q=>?_,aZ _,λ e=>by cases e⟩
  ·rw[hg];exact bF.2 ⟨hgn,List.pairwise_singleton _ _,λ a ha b hb=>by rw[bQ.1 hb];exact λ e=>p4 (e▸ha)⟩
  ·rw[hg]at hgm;rcases cB.1 hgm with hgm|hgm
   ·exact hgo g hgm
   exact⟨p,bQ.1 hgm,p1,p2,p3⟩
  unfold AP.Has;rw[hg,hg0];show 1<=q/\q<A.aj/\q∉A.free/\_↔_;simp only[cB,bQ,not_or]
  constructor
  ·rintro⟨a,b,c,d,e⟩;exact⟨⟨a,b,c,d⟩,λ e2=>e (by rw[e2])⟩
  rintro⟨⟨a,b,c,d⟩,e⟩;exact⟨a,b,c,d,λ e2=>e (by omega)⟩
end AP
structure AP.Moves(Q:AP->Prop):Prop where
 az:∀(X:AP) (p:Nat) (s:List UInt8),Q X->X.Has p->Q (X.az p s)
 keep:∀(X:AP) (p:Nat),Q X->X.Has p->Q (X.keep p)
 take:∀X:AP,Q X->¬X.Full->Q X.take
 give:∀(X:AP) (p:Nat),Q X->X.Has p->Q (X.give p)
def AP.Reach(A B:AP):Prop:=∀Q:AP->Prop,AP.Moves Q->Q A->Q B
namespace AP
theorem Reach.refl(A:AP):A.Reach A:=λ _ _ h=>h
theorem Reach.trans{A B C:AP}(h:A.Reach B)(k:B.Reach C):A.Reach C:=λ Q m a=>k Q m (h Q m a)
theorem Reach.az{A B:AP}(h:A.Reach B){p:Nat}(hp:B.Has p)(s:List UInt8):A.Reach (B.az p s):=λ Q m a=>m.az B p s (h Q m a) hp
theorem Reach.keep{A B:AP}(h:A.Reach B){p:Nat}(hp:B.Has p):A.Reach (B.keep p):=λ Q m a=>m.keep B p (h Q m a) hp
theorem Reach.take{A B:AP}(h:A.Reach B)(hf:¬B.Full):A.Reach B.take:=λ Q m a=>m.take B (h Q m a) hf
theorem Reach.give{A B:AP}(h:A.Reach B){p:Nat}(hp:B.Has p):A.Reach (B.give p):=λ Q m a=>m.give B p (h Q m a) hp
theorem xq6:Moves Good:=⟨λ _ _ _ h _=>h.az _ _,λ _ _ h _=>h.keep _,λ _ h hf=>(h.take hf).1,λ _ _ h hp=>(h.give hp).1⟩
theorem Reach.good{A B:AP}(h:A.Reach B)(g:A.Good):B.Good:=h Good xq6 g
structure Grown(A B:AP)(ch:List Nat):Prop where
 reach:A.Reach B
 eY:ch.Nodup
 new:∀p,p∈ch->¬A.Has p
 has:∀p,B.Has p↔A.Has p\/p∈ch
 same:∀p,A.Has p->B.c p=A.c p
 ay:B.ay+ch.length=A.ay
theorem Grown.nil(A:AP):Grown A A []:=⟨Reach.refl A,List.nodup_nil,λ _ h=>absurd h List.not_mem_nil,λ p=>by simp,λ _ _=>rfl,rfl⟩
theorem Grown.cons{A B:AP}{ch:List Nat}(h:Grown A B ch)(g:B.Good)(hf:¬B.Full)(s:List UInt8):Grown A (B.take.az B.next s) (B.next::ch):=by
 obtain⟨_,h2,h3⟩:=g.take hf;have hn:=(g.next hf).1
 have hc:∀p,B.Has p->(B.take.az B.next s).c p=B.c p:=λ p hp=>by
  have hne:B.next≠p:=λ e=>hn (e▸hp);rw[AP.bG,if_neg hne];show dI B.c B.next (UK.bW 504) p=_;unfold dI;rw[if_neg hne]
 refine⟨(h.reach.take hf).az ((h2 _).2 (.inr rfl)) s,dL.2 ⟨λ hm=>hn ((h.has _).2 (.inr hm)),h.eY⟩,λ p hp hA=>?_,λ p=>?_,λ p hp=>?_,?_⟩
 ·rcases aX.1 hp with rfl|hp
  ·exact hn ((h.has _).2 (.inl hA))
  exact h.new p hp hA
 ·rw[AP.bu,h2,h.has,aX]
  constructor
  ·rintro((a|a)|a)
   ·exact .inl a
   ·exact .inr (.inr a)
   exact .inr (.inl a)
  rintro(a|a|a)
  ·exact .inl (.inl a)
  ·exact .inr a
  exact .inl (.inr a)
 ·rw[hc p ((h.has p).2 (.inl hp))];exact h.same p hp
 have:=h.ay;rw[AP.ji,dw];omega
end AP
theorem PF.over{E:Nat->Prop}{W W':World}{P D k fb db cap pg:Nat}{A:AP}{dy:Bool}(h:PF E W P D A k fb db cap pg dy){R:Nat->Prop}(IV:∀j,R j->E j)(FZ:¬R 0)(hs:W.heap.size<=W'.heap.size)(hk:∀j,j<W.heap.size->¬R j->W'.heap[j]?=W.heap[j]?){T:Nat->Prop}(hT:∀j,T j->E j\/(W.heap.size<=j/\j<W'.heap.size)):PF T W' P D A k fb db cap pg dy:=by
 obtain⟨FB,M,n,q,d,i,f,h1,r⟩:=h;exact⟨FB,M,n,q,d,i,f,h1.over IV FZ hs hk hT,r⟩
open Go.RowKit
open UK (str aO nth Only Row aI w32)
open Go.BigFrame
namespace UK
def kW(v:UInt64):UInt32:=v.toUInt32
def lQ(v:UInt64):UInt32:=UInt32.ofNat (v.toNat/4294967296)
def vg(a b:UInt32):UInt64:=UInt64.ofNat (a.toNat+b.toNat*4294967296)
@[go_sem] theorem PH (v:UInt64):(v.toNat:Int)%4294967296=((kW v).toNat:Int):=by
 unfold kW;rw[UInt64.toNat_toUInt32];omega
theorem xp9(v:UInt64):(lQ v).toNat=v.toNat/4294967296:=by
 have:=v.toNat_lt;unfold lQ;rw[sP];omega
@[go_sem] theorem PI (v:UInt64):(v.toNat:Int)/4294967296=((lQ v).toNat:Int):=by
 rw[xp9];omega
theorem xqa(a b:UInt32):(vg a b).toNat=a.toNat+b.toNat*4294967296:=by
 have:=a.toNat_lt;have:=b.toNat_lt;unfold vg;rw[UInt64.toNat_ofNat'];omega
theorem xr0(v:UInt64):vg (kW v) (lQ v)=v:=by
 apply UInt64.toNat_inj.1;rw[xqa,xp9];have:(kW v).toNat=v.toNat%4294967296:=by unfold kW;rw[UInt64.toNat_toUInt32]
 omega
theorem xo0(a b:Nat)(ha:a<4294967296):a ||| b*4294967296=a+b*4294967296:=by
 have h:=Nat.two_pow_add_eq_or_of_lt (b:=a) (i:=32) ha b;rw[Nat.or_comm,show b*4294967296=2^32*b by rw[Nat.mul_comm],<-h,Nat.add_comm]
def Bu(b:UInt32):UInt64:=UInt64.ofNat (b.toNat*4294967296)
theorem xqb(b:UInt32):(Bu b).toNat=b.toNat*4294967296:=by
 have:=b.toNat_lt;unfold Bu;rw[UInt64.toNat_ofNat'];omega
@[go_sem] theorem sj (b:UInt32):(b.toNat:Int)%18446744073709551616=(b.toNat:Int):=by have:=b.toNat_lt;omega
@[go_sem] theorem Ed (b:UInt32):(b.toNat:Int)*4294967296%18446744073709551616=((Bu b).toNat:Int):=by
 have:=b.toNat_lt;rw[xqb];omega
@[go_sem] theorem Ii (a b:UInt32):bits .or .u64 (a.toNat:Int) ((Bu b).toNat:Int)=((vg a b).toNat:Int):=by
 have h1:=a.toNat_lt;have h2:=b.toNat_lt;rw[u64_or_nat _ _ (by omega) (Bu b).toNat_lt,xqb,xqa,xo0 _ _ h1]
end UK
theorem Oy{W:World}{B:Nat}{x:List UInt8}(h:aO W B x)(o n c:Nat)(hn:8<=n)(ho:o+n<=x.length)(hl:n<=100000000)(hc:n<=c)(v:UInt64) :
  Calls Tryz.prog 91 #[.slice (B,o) n c,.int .u64 v.toNat] W λ e w'=>e= .returned (.tuple #[])/\aO w' B (UK.wr x o (aW (UK.kW v)++aW (UK.lQ v)))/\Only B W w':=by
 have H1:=zH (sD h o n c (by omega) ho hl (UK.kW v));have hl1:(UK.wr x o (aW (UK.kW v))).length=x.length:=UK.lm _ _ _ (by show o+4<=_;omega);have hw2:UK.wr (UK.wr x o (aW (UK.kW v))) (o+4) (aW (UK.lQ v))=UK.wr x o (aW (UK.kW v)++aW (UK.lQ v)):=UK.BG x o (aW (UK.kW v)) (aW (UK.lQ v)) (by omega);have Gd:=zH (zA hl1 hw2);clear hl1 hw2
 go_enter Tryz.func91,Tryz.ntmps91
 go_wp2_with fail
 refine H1.out.mono ?_;rintro e w1 ⟨rfl,h1,o1⟩;have H2:=zH (sD h1 (o+4) (n-4) (c-4) (by omega) (by rw[Gd.out.1];omega) (by omega) (UK.lQ v));clear H1
 go_wp2_with fail
 refine H2.out.mono ?_;rintro e w2 ⟨rfl,h2,o2⟩;clear H2;rw[Gd.out.2]at h2;go_wp2
 go_end0
 exact⟨rfl,h2,o1.trans o2⟩
theorem EI{W:World}{B:Nat}{x:List UInt8}(h:aO W B x)(o n c:Nat)(hn:4<=n)(ho:o+n<=x.length) :
  Calls Tryz.prog 48 #[.slice (B,o) n c] W λ e w'=>e= .returned (.int .u32 (fC ((x.drop o).take 4)).toNat)/\∃m,w'=W.drewN m:=by
 have c0:=h.cell (i:=o) (by omega);have c1:=h.cell (i:=o+1) (by omega);have c2:=h.cell (i:=o+2) (by omega);have c3:=h.cell (i:=o+3) (by omega)
 have hg:Hid (fC ((x.drop o).take 4)=UK.lG (UK.lG (UK.lG (UK.wide (nth x o)) (UK.shl (UK.wide (nth x (o+1))) 1)) (UK.shl (UK.wide (nth x (o+2))) 2)) (UK.shl (UK.wide (nth x (o+3))) 3)):=by
  show _=_;unfold fC
  have e:∀j,j<4->nth ((x.drop o).take 4) j=nth x (o+j):=λ j hj=>by
   simp only[nth,fK];rw[iO hj,iC]
  rw[e 0 (by omega),e 1 (by omega),e 2 (by omega),e 3 (by omega),iP]
 go_enter Tryz.func48,Tryz.ntmps48
 go_wp2
 go_quiet (fail)
 go_wp2;go_ret
 exact⟨by rw[hg.out]<;>rfl,_,rfl⟩
theorem O4{W:World}{B:Nat}{x:List UInt8}(h:aO W B x)(o n c:Nat)(hn:8<=n)(ho:o+n<=x.length)(hc:n<=c) :
  Calls Tryz.prog 114 #[.slice (B,o) n c] W λ e w'=>e= .returned (.int .u64 (UK.vg (fC ((x.drop o).take 4)) (fC ((x.drop (o+4)).take 4))).toNat)/\∃m,w'=W.drewN m:=by
 have g1:=λ x=>EI (h.drewN x) o n c (by omega) ho;have g2:=λ x=>EI (h.drewN x) (o+4) (n-4) (c-4) (by omega) (by omega);generalize fC ((x.drop o).take 4)=u at g1 ⊢;generalize fC ((x.drop (o+4)).take 4)=v at g2 ⊢
 have HE:Hid (bits BinOp.or IntKind.u64 (IntKind.u64.wrap u.toNat) (IntKind.u64.wrap (IntKind.u64.wrap v.toNat*4294967296))=((UK.vg u v).toNat:Int)):=by
  show _=_;rw[IntKind.wrap_u64,IntKind.wrap_u64,IntKind.wrap_u64,UK.sj,UK.sj,UK.Ed,UK.Ii]
 go_enter Tryz.func114,Tryz.ntmps114
 go_wp2_with fail
 go_quiet (first|(go_at_call 48;with_reducible exact Calls.quiet_of (g1 _))|(go_at_call 48;with_reducible exact Calls.quiet_of (g2 _)))
 go_wp2;go_ret
 exact⟨by rw[HE.out]<;>rfl,_,rfl⟩
open Go.RowKit
open UK (str aO nth Only Row aI w32)
open Go.BigFrame
structure Nd where
 leaf:Bool
 ai:List UInt64
 vals:List UInt64
 ah:List Nat
def aF(l:List UInt64):List Value:=l.map λ v=>.int .u64 (v.toNat:Int)
theorem cz(l:List UInt64):(aF l).length=l.length:=kg _
theorem qx(l:List UInt64)(i:Nat)(v:UInt64)(h:l[i]?=some v):(aF l)[i]?=some (.int .u64 (v.toNat:Int)):=by unfold aF;rw[dW,h];rfl
def dY(S:Nat->Prop)(W:World)(v:Value)(vs:List Value):Prop:=∃ao c,v= .slice ao vs.length c/\vs.length<=c/\∀j u,vs[j]?=some u->∃g o,ao=some ⟨g,o,none⟩/\S g/\W.cell? ⟨g,o+j,none⟩=some u
def jN(S:Nat->Prop)(W:World)(nb:Nat)(x:Nd):Prop:=∃kv vv av,aI W nb #[.bool x.leaf,kv,vv,av]/\S nb/\dY S W kv (aF x.ai)/\dY S W vv (aF x.vals)/\dY S W av (ints x.ah)
def b64(v:UInt64):List UInt8:=aW (UK.kW v)++aW (UK.lQ v)
theorem PK(v:UInt64):(b64 v).length=8:=rfl
def qY:List UInt64->List UInt64->List UInt8
 | k::ks,v::vs=>b64 k++(b64 v++qY ks vs)
 | _,_=>[]
def kQ(y:List UInt8)(ks vs:List UInt64):List UInt8:=UK.wr ((y.set 0 1).set 1 (UInt8.ofNat ks.length)) 4 (qY ks vs)
theorem JA:∀(ks vs:List UInt64),vs.length=ks.length->(qY ks vs).length=16*ks.length
 | [],[],_=>rfl
 | k::ks,v::vs,h=>by
  have:=JA ks vs (by simpa using h);show(b64 k++(b64 v++qY ks vs)).length=_;rw[zl,zl,PK,PK,this,dw];omega
 | [],_::_,h=>by cases h
 | _::_,[],h=>by cases h
theorem xkx:∀(ks vs:List UInt64) (j:Nat) (k v:UInt64),ks[j]?=some k->vs[j]?=some v->qY (ks.take (j+1)) (vs.take (j+1))=qY (ks.take j) (vs.take j)++(b64 k++b64 v)
 | a::ks,b::vs,0,k,v,hk,hv=>by
  obtain rfl:a=k:=by simpa using hk
  obtain rfl:b=v:=by simpa using hv
  show b64 a++(b64 b++qY (ks.take 0) (vs.take 0))=_;rw[jH,jH];show b64 a++(b64 b++[])=[]++_;rw[jw,gH]
 | a::ks,b::vs,j+1,k,v,hk,hv=>by
  have:=xkx ks vs j k v (by simpa using hk) (by simpa using hv);show b64 a++(b64 b++qY (ks.take (j+1)) (vs.take (j+1)))=b64 a++(b64 b++qY (ks.take j) (vs.take j))++_;rw[this];simp only[dH]
 | [],_,_,_,_,hk,_=>by simp at hk
 | _::_,[],_,_,_,_,hv=>by simp at hv
theorem UK.Only.cell{B:Nat}{a w:World}(h:Only B a w){g i:Nat}{v:Value}(hc:a.cell? (g,i)=some v)(hn:g≠B):w.cell? (g,i)=some v:=by
 have hl:g<a.heap.size:=by
  refine Nat.lt_of_not_le (λ hge=>?_);unfold World.cell? at hc;rw[Array.getElem?_eq_none hge]at hc
  cases hc
 exact(mh (a:=⟨g,i,none⟩) (h.block g hl hn)).trans hc
theorem UL{S:Nat->Prop}{W:World}{nb db cap:Nat}{y:List UInt8}{x:Nd}(h:jN S W nb x)(hl:x.leaf=true)(hn:x.ai.length<=30)(hv:x.vals.length=x.ai.length)(hy:aO W db y)(hyl:y.length=cap)(hc:504<=cap)(hS:¬S db) :
  Calls Tryz.prog 88 #[.slice db 504 cap,.pointer nb] W λ e w'=>e= .returned (.tuple #[])/\aO w' db (kQ y x.ai x.vals)/\Only db W w':=by
 obtain⟨kv,vv,av,hb,hnb,⟨ka,kc,rfl,hkc,hk⟩,⟨va,vc,rfl,hvc,hvv⟩,_⟩:=h;rw[cz,cz,hl,hv]at hb;rw[cz]at hkc hvc;rw[hv]at hvc;have c0:=hb.c0;have c1:=hb.c1;have c2:=hb.c2;have hne:nb≠db:=λ e=>hS (e▸hnb);have d0:=hy.cell (i:=0) (by omega);have d1:=hy.cell (i:=1) (by omega);have f0:=hy.free (i:=0) (by omega);have f1:=hy.free (i:=1) (by omega);have he:((UInt8.ofNat x.ai.length).toNat:Int)=x.ai.length:=by rw[UInt8.toNat_ofNat'];omega
 have h2:=(hy.set 0 1).set 1 (UInt8.ofNat x.ai.length);have o2:=((Only.refl db W).set 0 (.int .u8 ((1:UInt8).toNat:Int))).set 1 (.int .u8 ((UInt8.ofNat x.ai.length).toNat:Int));rw[he,show((1:UInt8).toNat:Int)=1 from rfl]at h2 o2;have H2:=zH (zA h2 o2);have HB:=zH hb;clear he h2 o2 hb
 go_enter Tryz.func88,Tryz.ntmps88
 go_wp2_with fail
 obtain⟨hb2,ho2⟩:=H2.out;have hy2:((y.set 0 1).set 1 (UInt8.ofNat x.ai.length)).length=cap:=by rw[bB,bB];exact hyl
 generalize MH:(y.set 0 1).set 1 (UInt8.ofNat x.ai.length)=y2 at hb2 hy2;have UJ:=zH MH;clear MH H2
 go_loopw [29] (λ ix wr=>∃j:Nat,ix= .int .i64 j/\j<=x.ai.length/\aO wr db (UK.wr y2 4 (qY (x.ai.take j) (x.vals.take j)))/\Only db W wr) (λ ix _=>31-(intOf ix).toNat)
 case atStart=>exact⟨0,rfl,bY _,by rw[jH,jH];show aO _ _ (UK.wr y2 4 []);rw[UK.I5];exact hb2,ho2⟩
 clear hb2 ho2 hy c0 c1 d0 d1 f0 f1;obtain⟨j,rfl,hj,hb,ho⟩:=hrel;by_cases hlt:j<x.ai.length
 ·obtain⟨kx,hkx⟩:∃k,x.ai[j]?=some k:=⟨_,di hlt⟩;obtain⟨vx,G9⟩:∃v,x.vals[j]?=some v:=⟨_,di (by omega)⟩;obtain⟨g,o,rfl,hg,ck⟩:=hk j _ (qx _ _ _ hkx);obtain⟨g2,o2,rfl,hg2,cv⟩:=hvv j _ (qx _ _ _ G9);have hgd:g≠db:=λ e=>hS (e▸hg);have Vq:g2≠db:=λ e=>hS (e▸hg2);replace ck:=ho.cell ck hgd;have hlb:(qY (x.ai.take j) (x.vals.take j)).length=16*j:=by rw[JA _ _ (by rw[zt,zt];omega),zt];omega
  have hw1:(UK.wr y2 4 (qY (x.ai.take j) (x.vals.take j))).length=cap:=by rw[UK.lm _ _ _ (by omega)];exact hy2
  have ha1:=UK.BG y2 4 (qY (x.ai.take j) (x.vals.take j)) (b64 kx) (by omega);rw[hlb]at ha1;have ha2:=UK.BG y2 4 (qY (x.ai.take j) (x.vals.take j)++b64 kx) (b64 vx) (by omega);rw[zl,hlb,PK,show 4+(16*j+8)=12+16*j by omega]at ha2;have hw2:(UK.wr y2 4 (qY (x.ai.take j) (x.vals.take j)++b64 kx)).length=cap:=by rw[UK.lm _ _ _ (by rw[zl,hlb,PK];omega)];exact hy2
  have hsn:=xkx x.ai x.vals j kx vx hkx G9;have P1:=Oy hb (4+16*j) (504-(4+16*j)) (cap-(4+16*j)) (by omega) (by omega) (by omega) (by omega) kx;rw[show aW (UK.kW kx)++aW (UK.lQ kx)=b64 kx from rfl,ha1]at P1;have sI:=zH P1;have HX:=zH (zA ha2 (zA hw2 (zA hsn (zA cv ho))));clear P1 ha1 ha2 hw1 hw2 hsn hlb hk hvv hkx G9 hb cv c2
  go_wp2_with fail
  refine sI.out.mono ?_;rintro e w1 ⟨rfl,b1,o1⟩;obtain⟨ha2,hw2,hsn,cv,ho⟩:=HX.out;have PL:=ho.trans o1;have cv1:=PL.cell cv Vq;have c2:w1.cell? (nb,2)=some (.slice (g2,o2) x.ai.length vc):=PL.cell (HB.out.cell 2 _ rfl) hne;have P2:=Oy (b1.drew) (12+16*j) (504-(12+16*j)) (cap-(12+16*j)) (by omega) (by omega) (by omega) (by omega) vx;rw[show aW (UK.kW vx)++aW (UK.lQ vx)=b64 vx from rfl,ha2,dH,<-hsn]at P2;have KW:=zH P2;have KY:=zH PL;clear sI HX P2 ha2 hw2 hsn cv ho b1 o1 PL ck
  go_wp2_with fail
  have i1:(j:Int)<(x.ai.length:Int):=by omega
  have i2:(12:Int)+16*j<=504:=by omega
  have i3:¬(cap=12+16*j):=by omega
  have i4:(12+16*(j:Int)).toNat=12+16*j:=by omega
  have i5:(0:Int)<=12+16*(j:Int):=by omega
  have n1:IntKind.i64.wrap (16*(j:Int))=16*(j:Int):=by rw[bN];omega
  have n2:IntKind.i64.wrap (12+16*(j:Int))=12+16*(j:Int):=by rw[bN];omega
  go_still_tail 12,(by kernel_rfl)
  change wpList _ _ _ _ _ w1.drew
  go_wp2_with fail
  refine KW.out.mono ?_;rintro e w2 ⟨rfl,b2,o2'⟩;have HF:=zH (zA b2 (KY.out.drew.trans o2'));clear KW KY b2 o2' c2 cv1;go_wp2;go_roundw
  case rel=>exact⟨j+1,by go_num,by omega,HF.out.1,HF.out.2⟩
  case measure=>simp[intOf];omega
 obtain rfl:j=x.ai.length:=by omega
 rw[mi,<-hv,mi]at hb;go_wp2;refine bodyPost_ret (results_none rfl _ _ _) rfl ?_;refine⟨rfl,?_,ho⟩;unfold kQ;rw[UJ.out];exact hb
def oQ(y:List UInt8)(o:Nat):UInt64:=UK.vg (fC ((y.drop o).take 4)) (fC ((y.drop (o+4)).take 4))
def qI(y:List UInt8)(n:Nat):List UInt64:=(List.range n).map λ i=>oQ y (4+16*i)
def rW(y:List UInt8)(n:Nat):List UInt64:=(List.range n).map λ i=>oQ y (12+16*i)
theorem Cs(y:List UInt8)(n:Nat):(qI y n).length=n:=by simp[qI]
theorem Fx(y:List UInt8)(n:Nat):(rW y n).length=n:=by simp[rW]
theorem xr1(y:List UInt8)(n:Nat):qI y (n+1)=qI y n++[oQ y (4+16*n)]:=by simp[qI,List.range_succ]
theorem xr2(y:List UInt8)(n:Nat):rW y (n+1)=rW y n++[oQ y (12+16*n)]:=by simp[rW,List.range_succ]
def NR(W:World)(ao:Option Addr)(c:Nat)(vs:List Value):Prop:=(ao=none/\vs=[]/\c=0)\/∃g,ao=some ⟨g,0,none⟩/\Row W g c vs
structure bz(N:Nat)(W:World)(nb:Nat)(x:Nd)(ka va aa:Option Addr)(kc vc ac:Nat):Prop where
 box:aI W nb #[.bool x.leaf,.slice ka x.ai.length kc,.slice va x.vals.length vc,.slice aa x.ah.length ac]
 k:NR W ka kc (aF x.ai)
 v:NR W va vc (aF x.vals)
 a:NR W aa ac (ints x.ah)
 ge:N<=nb
 new:∀g,aK ka g\/aK va g\/aK aa g->N<=g/\g≠nb
 kv:∀g,aK ka g->¬aK va g
 ka:∀g,aK ka g->¬aK aa g
 va:∀g,aK va g->¬aK aa g
section
variable{W W':World}{N nb kc vc ac:Nat}{ka va aa:Option Addr}{x:Nd}
theorem NR.nil:NR W none 0 []:=.inl ⟨rfl,rfl,rfl⟩
theorem NR.lt{ao:Option Addr}{c:Nat}{vs:List Value}(h:NR W ao c vs){g:Nat}(hg:aK ao g):g<W.heap.size:=by
 rcases h with⟨h,_⟩|⟨b,h,r⟩
 ·rw[aK,h]at hg;cases hg
 rw[h]at hg;rw[gF hg];exact r.lt
theorem NR.af{ao:Option Addr}{c:Nat}{vs:List Value}(h:NR W ao c vs)(hs:W.heap.size<=W'.heap.size)(hb:∀g,aK ao g->W'.heap[g]?=W.heap[g]?):NR W' ao c vs:=by
 rcases h with h|⟨b,h,r⟩
 ·exact .inl h
 exact .inr ⟨b,h,r.af hs (hb b h)⟩
theorem NR.only{ao:Option Addr}{c B:Nat}{vs:List Value}(h:NR W ao c vs)(ho:Only B W W')(hn:¬aK ao B):NR W' ao c vs:=h.af ho.size (λ g hg=>ho.block g (h.lt hg) (λ e=>hn (e▸hg)))
theorem bz.af(h:bz N W nb x ka va aa kc vc ac)(hs:W.heap.size<=W'.heap.size)(hb:∀g,N<=g->g<W.heap.size->W'.heap[g]?=W.heap[g]?):bz N W' nb x ka va aa kc vc ac:=
 ⟨h.box.af (hb nb h.ge h.box.lt),h.k.af hs (λ g hg=>hb g (h.new g (.inl hg)).1 (h.k.lt hg)),h.v.af hs (λ g hg=>hb g (h.new g (.inr (.inl hg))).1 (h.v.lt hg)),h.a.af hs (λ g hg=>hb g (h.new g (.inr (.inr hg))).1 (h.a.lt hg)),h.ge,h.new,h.kv,h.ka,h.va⟩
theorem bz.next(h:bz N W nb x ka va aa kc vc ac)(hb:Below W W W'):bz N W' nb x ka va aa kc vc ac:=h.af hb.size (λ g _ hg=>hb.block g hg)
theorem bz.uD(h:bz N W nb x ka va aa kc vc ac){g' c':Nat}{w1:World}{l:List UInt64}(r:Row w1 g' c' (aF l))(o:Only g' W w1)(hg:aK ka g'\/W.heap.size<=g')(hN:N<=W.heap.size) :
  bz N (w1.setCell (nb,1) (.slice g' l.length c')) nb {x with ai:=l} g' va aa c' vc ac/\Below N W (w1.setCell (nb,1) (.slice g' l.length c'))/\aI w1 nb #[.bool x.leaf,.slice ka x.ai.length kc,.slice va x.vals.length vc,.slice aa x.ah.length ac]:=by
 have hgn:N<=g'/\g'≠nb:=by
  rcases hg with h1|h1
  ·exact h.new g' (.inl h1)
  have:=h.box.lt;omega
 have hx1:¬aK va g':=by
  rcases hg with h1|h1
  ·exact h.kv g' h1
  exact λ e=>by have:=h.v.lt e;omega
 have hx2:¬aK aa g':=by
  rcases hg with h1|h1
  ·exact h.ka g' h1
  exact λ e=>by have:=h.a.lt e;omega
 have hb1:=h.box.only o hgn.2.symm;have o2:=(Only.refl nb w1).set 1 (.slice g' l.length c');have hb2:=hb1.set 1 (.slice g' l.length c');have ob:Below N W (w1.setCell (nb,1) (.slice g' l.length c')):=(o.below hN hgn.1).trans (o2.below (bf hN o.size) h.ge);generalize w1.setCell (nb,1) (.slice g' l.length c')=w2 at o2 hb2 ob ⊢;refine⟨⟨?_,.inr ⟨g',rfl,r.only o2 hgn.2⟩,(h.v.only o hx1).only o2 (λ e=>(h.new nb (.inr (.inl e))).2 rfl),(h.a.only o hx2).only o2 (λ e=>(h.new nb (.inr (.inr e))).2 rfl),h.ge,λ j hj=>?_,λ j hj e=>hx1 (gF hj▸e),λ j hj e=>hx2 (gF hj▸e),h.va⟩,ob,hb1⟩
 ·simpa using hb2
 rcases hj with hj|hj|hj
 ·rw[gF hj];exact hgn
 ·exact h.new j (.inr (.inl hj))
 exact h.new j (.inr (.inr hj))
theorem bz.yl(h:bz N W nb x ka va aa kc vc ac){g' c':Nat}{w1:World}{l:List UInt64}(r:Row w1 g' c' (aF l))(o:Only g' W w1)(hg:aK va g'\/W.heap.size<=g')(hN:N<=W.heap.size) :
  bz N (w1.setCell (nb,2) (.slice g' l.length c')) nb {x with vals:=l} ka g' aa kc c' ac/\Below N W (w1.setCell (nb,2) (.slice g' l.length c'))/\aI w1 nb #[.bool x.leaf,.slice ka x.ai.length kc,.slice va x.vals.length vc,.slice aa x.ah.length ac]:=by
 have hgn:N<=g'/\g'≠nb:=by
  rcases hg with h1|h1
  ·exact h.new g' (.inr (.inl h1))
  have:=h.box.lt;omega
 have hx1:¬aK ka g':=by
  rcases hg with h1|h1
  ·exact λ e=>h.kv g' e h1
  exact λ e=>by have:=h.k.lt e;omega
 have hx2:¬aK aa g':=by
  rcases hg with h1|h1
  ·exact h.va g' h1
  exact λ e=>by have:=h.a.lt e;omega
 have hb1:=h.box.only o hgn.2.symm;have o2:=(Only.refl nb w1).set 2 (.slice g' l.length c');have hb2:=hb1.set 2 (.slice g' l.length c');have ob:Below N W (w1.setCell (nb,2) (.slice g' l.length c')):=(o.below hN hgn.1).trans (o2.below (bf hN o.size) h.ge);generalize w1.setCell (nb,2) (.slice g' l.length c')=w2 at o2 hb2 ob ⊢;refine⟨⟨?_,(h.k.only o hx1).only o2 (λ e=>(h.new nb (.inl e)).2 rfl),.inr ⟨g',rfl,r.only o2 hgn.2⟩,(h.a.only o hx2).only o2 (λ e=>(h.new nb (.inr (.inr e))).2 rfl),h.ge,λ j hj=>?_,λ j hj e=>hx1 (gF e▸hj),h.ka,λ j hj e=>hx2 (gF hj▸e)⟩,ob,hb1⟩
 ·simpa using hb2
 rcases hj with hj|hj|hj
 ·exact h.new j (.inl hj)
 ·rw[gF hj];exact hgn
 exact h.new j (.inr (.inr hj))
theorem bz.yn(h:bz N W nb x ka va aa kc vc ac){g' c':Nat}{w1:World}{l:List Nat}(r:Row w1 g' c' (ints l))(o:Only g' W w1)(hg:aK aa g'\/W.heap.size<=g')(hN:N<=W.heap.size) :
  bz N (w1.setCell (nb,3) (.slice g' l.length c')) nb {x with ah:=l} ka va g' kc vc c'/\Below N W (w1.setCell (nb,3) (.slice g' l.length c'))/\aI w1 nb #[.bool x.leaf,.slice ka x.ai.length kc,.slice va x.vals.length vc,.slice aa x.ah.length ac]:=by
 have hgn:N<=g'/\g'≠nb:=by
  rcases hg with h1|h1
  ·exact h.new g' (.inr (.inr h1))
  have:=h.box.lt;omega
 have hx1:¬aK ka g':=by
  rcases hg with h1|h1
  ·exact λ e=>h.ka g' e h1
  exact λ e=>by have:=h.k.lt e;omega
 have hx2:¬aK va g':=by
  rcases hg with h1|h1
  ·exact λ e=>h.va g' e h1
  exact λ e=>by have:=h.v.lt e;omega
 have hb1:=h.box.only o hgn.2.symm;have o2:=(Only.refl nb w1).set 3 (.slice g' l.length c');have hb2:=hb1.set 3 (.slice g' l.length c');have ob:Below N W (w1.setCell (nb,3) (.slice g' l.length c')):=(o.below hN hgn.1).trans (o2.below (bf hN o.size) h.ge);generalize w1.setCell (nb,3) (.slice g' l.length c')=w2 at o2 hb2 ob ⊢;refine⟨⟨?_,(h.k.only o hx1).only o2 (λ e=>(h.new nb (.inl e)).2 rfl),(h.v.only o hx2).only o2 (λ e=>(h.new nb (.inr (.inl e))).2 rfl),.inr ⟨g',rfl,r.only o2 hgn.2⟩,h.ge,λ j hj=>?_,h.kv,λ j hj e=>hx1 (gF e▸hj),λ j hj e=>hx2 (gF e▸hj)⟩,ob,hb1⟩
 ·simpa using hb2
 rcases hj with hj|hj|hj
 ·exact h.new j (.inl hj)
 ·exact h.new j (.inr (.inl hj))
 rw[gF hj];exact hgn
theorem O5{ao:Option Addr}{c:Nat}{l:List UInt64}(h:NR W ao c (aF l))(hl:l.length<1000000)(v:UInt64) :
  ∃g' c' W',(Builtin.append_ #[27,27] 27 #[.slice ao l.length c,.slice W 1 1]).run Tryz.prog (W.alloc (.cells #[.int .u64 (v.toNat:Int)] 32))= .ok (.slice (some ⟨g',0,none⟩) (l.length+1) c') W'/\Row W' g' c' (aF (l++[v]))/\Only g' W W'/\(aK ao g'\/W.heap.size<=g'):=by
 have aJ:(aF l).length=l.length:=cz l;obtain⟨g',c',W',e,r,o,hg⟩:=UK.I9 (P:=Tryz.prog) (t:=27) (ty:=27) Tryz.underlying27 (i:=Tryz.t32) rfl rfl rfl (show(8:Nat)<=16 by omega) rfl h (.int .u64 (v.toNat:Int)) rfl (by rw[aJ];omega);rw[aJ]at e;exact⟨g',c',W',e,by unfold aF at *;rw[jr];exact r,o,hg⟩
end
theorem UK.aB{P:Program}{t tx ty:TypeId}{sv xv v':Value}{w w':World}(hr:(Builtin.append_ #[t,tx] ty #[sv,xv]).run P w= .ok v' w'){ops:Array Oper}{o:Oper}{a:Act}{K:Act->World->Prop}{Q:Exit->Act->World->Prop}{E:Prop}{s x:Operand}
  (hg:o.guard=none) (hop:o.op=Op.call {callee:=Callee.builtin Builtin.append,args:= #[s,x],argTypes:= #[t,tx]}) (hty:o.type=ty) (hs:a.eval s=sv) (hx:a.eval x=xv) (hK:K (a.put o.dst v') w') :
  if Region.wanted o (yielded ops a.tmps)=true then Oper.wp P o a w K Q else E:=by
 have hw:Region.wanted o (yielded ops a.tmps)=true:=by simp[Region.wanted,hg]
 rw[if_pos hw];subst hty;unfold Oper.wp;simp[execOp,hop,resolve,invoke,builtin,hs,hx,hr,Result.andThen];exact hK
theorem ZA{W:World}{db cap n:Nat}{y:List UInt8}(hy:aO W db y)(hyl:y.length=cap)(hc:504<=cap)(h0:nth y 0=1)(h1:(nth y 1).toNat=n)(hn:n<=30) :
  Calls Tryz.prog 115 #[.slice db 504 cap] W λ e w'=>∃nb ka va kc vc,e= .returned (.tuple #[.pointer (some ⟨nb,0,none⟩),.int .i64 0])/\bz W w' nb {leaf:=true,ai:=qI y n,vals:=rW y n,ah:=[]} ka va none kc vc 0/\Below W W w':=by
 have d0:=hy.cell (i:=0) (by omega);have d1:=hy.cell (i:=1) (by omega);rw[h0]at d0;rw[show((nth y 1).toNat:Int)=n by omega]at d1;replace d0:W.cell? db=some (.int .u8 1):=d0;have hdl:db<W.heap.size:=hy.lt;have hbx:=aI.new W #[.bool true,.slice none 0 0,.slice none 0 0,.slice none 0 0] 131
 have hn0:bz W (W.alloc (.cells #[.bool true,.slice none 0 0,.slice none 0 0,.slice none 0 0] 131)) W {leaf:=true,ai:=qI y 0,vals:=rW y 0,ah:=[]} none none none 0 0 0:=
  ⟨hbx,NR.nil,NR.nil,NR.nil,aZ _,λ g hg=>(by rcases hg with h|h|h<;>cases h),λ g h=>(by cases h),λ g h=>(by cases h),λ g h=>(by cases h)⟩
 have hb0:Below W W (W.alloc (.cells #[.bool true,.slice none 0 0,.slice none 0 0,.slice none 0 0] 131)):=(aP _ _).alloc (aZ _) _;have Nc:(n:Int)<=30:=by omega
 have abm:decide ((n:Int)<=30)=true:=decide_eq_true Nc;clear hbx Nc
 go_enter Tryz.func115,Tryz.ntmps115
 go_wp2_with fail
 go_loopw [26] (λ ix wr=>∃(j:Nat) (ka va:Option Addr) (kc vc:Nat),ix= .int .i64 j/\j<=n/\bz W wr W {leaf:=true,ai:=qI y j,vals:=rW y j,ah:=[]} ka va none kc vc 0/\Below W W wr) (λ ix _=>31-(intOf ix).toNat)
 case atStart=>exact⟨0,none,none,0,0,rfl,bY _,hn0,hb0⟩
 clear hn0 hb0 d0 d1;obtain⟨j,ka,va,kc,vc,rfl,hj,hno,hbl⟩:=hrel;by_cases hlt:j<n
 ·have vV:=hy.below hbl hdl;have hN:=hbl.size;have c1:wr.cell? (W.heap.size,1)=some (.slice ka j kc):=by rw[hno.box.cell 1 _ rfl];show some (Value.slice ka (qI y j).length kc)=_;rw[Cs]
  have g1:Calls Tryz.prog 114 #[.slice (db,4+16*j) (504-(4+16*j)) (cap-(4+16*j))] wr.drew λ e w'=>e= .returned (.int .u64 ((oQ y (4+16*j)).toNat:Int))/\∃m,w'=wr.drew.drewN m:=O4 (vV.drew) (4+16*j) (504-(4+16*j)) (cap-(4+16*j)) (by omega) (by omega) (by omega);have c1a:∀x o,((wr.drewN x).alloc o).cell? (W.heap.size,1)=some (.slice ka j kc):=λ x o=>by rw[((hno.box.af (W':=wr.drewN x) rfl).alloc o).cell 1 _ rfl];show some (Value.slice ka (qI y j).length kc)=_;rw[Cs]
  have G1:=zH g1
  have hap:∀m,∃p:Nat×Nat×World,(Builtin.append_ #[27,27] 27 #[.slice ka j kc,.slice wr 1 1]).run Tryz.prog ((wr.drewN m).alloc (.cells #[.int .u64 ((oQ y (4+16*j)).toNat:Int)] 32))= .ok (.slice p.1 (j+1) p.2.1) p.2.2/\p.2.2.cell? (W.heap.size,1)=some (.slice ka j kc)/\p.2.2.frozen? ⟨W.heap.size,1,none⟩=false /\
    bz W (p.2.2.setCell (W.heap.size,1) (.slice p.1 (j+1) p.2.1)) W {leaf:=true,ai:=qI y (j+1),vals:=rW y j,ah:=[]} p.1 va none p.2.1 vc 0/\Below W W (p.2.2.setCell (W.heap.size,1) (.slice p.1 (j+1) p.2.1)):=λ m=>by
   have iK:=hno.next (W':=wr.drewN m) (UK.aG (aP _ _) m);obtain⟨g',c',w',e,r,o,hg⟩:=O5 iK.k (by rw[Cs];omega) (oQ y (4+16*j));rw[Cs]at e;obtain⟨q1,q2,q3⟩:=iK.uD r o hg hN;rw[<-xr1,Cs]at q1 q2;refine⟨(g',c',w'),e,?_,q3.free 1,q1,(hbl.trans (UK.aG (aP _ _) m)).trans q2⟩;rw[q3.cell 1 _ rfl];show some (Value.slice ka (qI y j).length kc)=_;rw[Cs]
  obtain⟨G,hG⟩:=Classical.skolem.1 hap;have HG:=zH hG;have cG:=λ m=>(hG m).2.1;have fG:=λ m=>(hG m).2.2.1;clear hap hG g1;have n1:IntKind.i64.wrap (16*(j:Int))=16*(j:Int):=by rw[bN];omega
  have n2:IntKind.i64.wrap (4+16*(j:Int))=4+16*(j:Int):=by rw[bN];omega
  have i2:(4:Int)+16*j<=504:=by omega
  have i3:¬(cap=4+16*j):=by omega
  have i4:(4+16*(j:Int)).toNat=4+16*j:=by omega
  have i5:(0:Int)<=4+16*(j:Int):=by omega
  go_upto_region 7 with(fail)
  go_cut [] (λ wx=>∃(uZ:Option Addr) (Fg:Nat),bz W wx W {leaf:=true,ai:=qI y (j+1),vals:=rW y j,ah:=[]} uZ va none Fg vc 0/\Below W W wx)
  case first=>
   go_region_law (first|(refine UK.aB (HG.out _).1 rfl rfl rfl (by simp[Act.eval]) (by simp[Act.eval]) ?_)|(go_simp;go_at_call 114;refine G1.out.mono ?_;rintro e w2 ⟨rfl,m,rfl⟩))
   all_goals
    go_wp2_with fail
    go_meet
    case rel=>exact⟨_,_,(HG.out _).2.2.2.1,(HG.out _).2.2.2.2⟩
  clear G1 HG cG fG c1 c1a hno hbl vV hN;obtain⟨uZ,Fg,hno,hbl⟩:=hcut;have vV:=hy.below hbl hdl;have hN:=hbl.size;have hc2:∀w1,aI w1 W #[.bool true,.slice uZ (qI y (j+1)).length Fg,.slice va (rW y j).length vc,.slice none 0 0]->w1.cell? (W.heap.size,2)=some (.slice va j vc):=λ w1 hb=>(hb.cell 2 _ rfl).trans (by rw[Fx];rfl);have c2:=hc2 _ hno.box;have c2a:∀x o,((wc.drewN x).alloc o).cell? (W.heap.size,2)=some (.slice va j vc):=λ x o=>hc2 _ ((hno.box.af (W':=wc.drewN x) rfl).alloc o);have g1:Calls Tryz.prog 114 #[.slice (db,12+16*j) (504-(12+16*j)) (cap-(12+16*j))] wc.drew λ e w'=>e= .returned (.int .u64 ((oQ y (12+16*j)).toNat:Int))/\∃m,w'=wc.drew.drewN m:=O4 (vV.drew) (12+16*j) (504-(12+16*j)) (cap-(12+16*j)) (by omega) (by omega) (by omega);have G1:=zH g1
  have hap:∀m,∃p:Nat×Nat×World,(Builtin.append_ #[27,27] 27 #[.slice va j vc,.slice wc 1 1]).run Tryz.prog ((wc.drewN m).alloc (.cells #[.int .u64 ((oQ y (12+16*j)).toNat:Int)] 32))= .ok (.slice p.1 (j+1) p.2.1) p.2.2/\p.2.2.cell? (W.heap.size,2)=some (.slice va j vc)/\p.2.2.frozen? ⟨W.heap.size,2,none⟩=false /\
    bz W (p.2.2.setCell (W.heap.size,2) (.slice p.1 (j+1) p.2.1)) W {leaf:=true,ai:=qI y (j+1),vals:=rW y (j+1),ah:=[]} uZ p.1 none Fg p.2.1 0/\Below W W (p.2.2.setCell (W.heap.size,2) (.slice p.1 (j+1) p.2.1)):=λ m=>by
   have iK:=hno.next (W':=wc.drewN m) (UK.aG (aP _ _) m);obtain⟨g',c',w',e,r,o,hg⟩:=O5 iK.v (by rw[Fx];omega) (oQ y (12+16*j));rw[Fx]at e;obtain⟨q1,q2,q3⟩:=iK.yl r o hg hN;rw[<-xr2,Fx]at q1 q2;exact⟨(g',c',w'),e,hc2 _ q3,q3.free 2,q1,(hbl.trans (UK.aG (aP _ _) m)).trans q2⟩
  obtain⟨G,hG⟩:=Classical.skolem.1 hap;have HG:=zH hG;have cG:=λ m=>(hG m).2.1;have fG:=λ m=>(hG m).2.2.1;clear hap hG g1 hc2 i2 i3 i4 i5 n2;have n2:IntKind.i64.wrap (12+16*(j:Int))=12+16*(j:Int):=by rw[bN];omega
  have i2:(12:Int)+16*j<=504:=by omega
  have i3:¬(cap=12+16*j):=by omega
  have i4:(12+16*(j:Int)).toNat=12+16*j:=by omega
  have i5:(0:Int)<=12+16*(j:Int):=by omega
  go_wp2_with fail
  go_region_law (first|(refine UK.aB (HG.out _).1 rfl rfl rfl (by simp[Act.eval]) (by simp[Act.eval]) ?_)|(go_simp;go_at_call 114;refine G1.out.mono ?_;rintro e w2 ⟨rfl,m,rfl⟩))
  all_goals
   go_wp2;go_roundw
   case rel=>exact⟨j+1,_,_,_,_,by go_num,by omega,(HG.out _).2.2.2.1,(HG.out _).2.2.2.2⟩
   case measure=>simp[intOf];omega
 obtain rfl:j=n:=by omega
 go_wp2;go_ret2
 exact⟨W.heap.size,ka,va,kc,vc,rfl,hno,hbl⟩
end Go.Proofs.YtlipgbnnbefhjaaGreatDoor
