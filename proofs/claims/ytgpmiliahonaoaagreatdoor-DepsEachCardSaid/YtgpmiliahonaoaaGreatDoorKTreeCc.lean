/- Facts on texts and trees on pages. -/
import Derived.Test.YtgpmiliahonaoaaGreatDoorKPoolZc
import Derived.Deep.RegionLaw
set_option maxRecDepth 100000
set_option maxHeartbeats 8000000
set_option linter.unusedSimpArgs false
namespace Go.Proofs.YtgpmiliahonaoaaGreatDoor
open Go.RowKit
open UK (str aF nth Only Row ay kG sK)
open Go.BigFrame
structure AO where
 was:Int->Option (List UInt8)
 made:List Int
 gone:List Int
structure AP where
 au:Nat
 aC:Int
 free:List Nat
 c:Nat->List UInt8
 op:Option AO
def sM(o:Option kz):Option AO:=o.map λ x=>{was:=x.was,made:=x.made,gone:=x.gone}
namespace AP
def bV(A:AP):List Int:=match A.op with
 | none=>[]
 | some o=>o.gone
def Has(A:AP)(p:Nat):Prop:=1<=p/\p<A.au/\p∉A.free/\(p:Int)∉A.bV
def Full(A:AP):Prop:=A.aC<=A.au/\A.free=[]
def next(A:AP):Nat:=if A.free=[] then A.au else A.free.getLastD 0
def put(A:AP)(p:Nat)(s:List UInt8):AP:={A with c:=bS A.c p s}
def keep(A:AP)(p:Nat):AP:={A with op:=A.op.map λ o=>if (p:Int)∈o.made\/(o.was p).isSome=true then o else {o with was:=λ j=>if j=p then some (A.c p) else o.was j}}
def take(A:AP):AP:={A with au:=if A.free=[] then A.au+1 else A.au,free:=A.free.dropLast,c:=bS A.c A.next (UK.bF 504),op:=A.op.map λ o=>{o with made:=o.made++[(A.next:Int)]}}
def give(A:AP)(p:Nat):AP:=match A.op with
 | none=>{A with free:=A.free++[p]}
 | some o=>{A with op:=some {o with gone:=o.gone++[(p:Int)]}}
end AP
structure Is(A:AP)(q:Pl)(d:Dk):Prop where
 free:d.free=A.free
 aC:d.aC=A.aC
 op:sM q.op=A.op
def PZ(E:Nat->Prop)(W:World)(P D:Nat)(A:AP)(k:Nat):Prop:=∃FB M n q d,PS E W P D FB M n 0 q d A.au k A.c/\1<=n/\Is A q d
def PF(E:Nat->Prop)(W:World)(P D:Nat)(A:AP)(k fb db cap pg:Nat)(dy:Bool):Prop:=
 ∃(FB M n:Nat) (q:Pl) (d:Dk) (i:Nat) (f:Fr),PS E W P D FB M n 1 q d A.au k A.c/\1<=n/\Is A q d/\q.af[i]?=some (some f)/\f.blk=fb/\f.db=db/\f.cap=cap/\f.page=(pg:Nat)/\0<f.ah/\(dy=true->f.bM=true)
theorem Q8:∀(l:List (Option Fr)),(∀(i:Nat) (f:Fr),l[i]?=some (some f)->0<=f.ah)->0<=sJ l/\(sJ l=0->∀(i:Nat) (f:Fr),l[i]?=some (some f)->f.ah=0)
 | [],_=>⟨Int.le_refl _,λ _ i f h=>by cases h⟩
 | o::l,h=>by
  obtain⟨h1,h2⟩:=Q8 l (λ i f hi=>h (i+1) f hi)
  have ho:0<=iH o:=by
   cases o with
   | none=>exact Int.le_refl _
   | some f=>exact h 0 f rfl
  rw[Ha];refine⟨by omega,λ hz i f hi=>?_⟩
  cases i with
  | zero=>
   have e:o=some f:=aZ hi;subst e;have:iH (some f)=f.ah:=rfl;omega
  | succ j=>exact h2 (by omega) j f hi
section
variable{E:Nat->Prop}{W W':World}{P D k fb db cap pg:Nat}{A:AP}{dy:Bool}
theorem PS.wide{FB M n au:Nat}{kp:Int}{q:Pl}{d:Dk}{c:Nat->List UInt8}(h:PS E W P D FB M n kp q d au k c)(hb:Below W W W'){T:Nat->Prop}(hT:∀j,T j->E j\/(W.heap.size<=j/\j<W'.heap.size)):PS T W' P D FB M n kp q d au k c:=by
 refine⟨⟨h.pd.pool.kept hb.size (λ j hj=>hb.block j (h.pd.pool.lt hj)),h.pd.dd.grow hb (λ j hj=>?_),λ j hj hp=>?_⟩,h.ok,h.l6,h.held,h.ah,h.len,h.calm,h.lim⟩
 ·rcases hj with hj|hj
  ·rcases hT j hj with h1|h1
   ·exact .inl (.inl h1)
   exact .inr h1
  exact .inl (.inr hj)
 rcases hT j hj with h1|h1
 ·exact h.pd.far j h1 hp
 have:=h.pd.pool.lt hp;omega
theorem PZ.wide(h:PZ E W P D A k)(hb:Below W W W'){T:Nat->Prop}(hT:∀j,T j->E j\/(W.heap.size<=j/\j<W'.heap.size)):PZ T W' P D A k:=by
 obtain⟨FB,M,n,q,d,h1,r⟩:=h;exact⟨FB,M,n,q,d,h1.wide hb hT,r⟩
theorem PZ.less(h:PZ E W P D A k){T:Nat->Prop}(hT:∀j,T j->E j):PZ T W P D A k:=h.wide (aV _ _) (λ j hj=>.inl (hT j hj))
theorem PZ.next(h:PZ E W P D A k)(hb:Below W W W'):PZ E W' P D A k:=h.wide hb (λ _ hj=>.inl hj)
theorem PF.wide(h:PF E W P D A k fb db cap pg dy)(hb:Below W W W'){T:Nat->Prop}(hT:∀j,T j->E j\/(W.heap.size<=j/\j<W'.heap.size)):PF T W' P D A k fb db cap pg dy:=by
 obtain⟨FB,M,n,q,d,i,f,h1,r⟩:=h;exact⟨FB,M,n,q,d,i,f,h1.wide hb hT,r⟩
theorem PF.less(h:PF E W P D A k fb db cap pg dy){T:Nat->Prop}(hT:∀j,T j->E j):PF T W P D A k fb db cap pg dy:=h.wide (aV _ _) (λ j hj=>.inl (hT j hj))
theorem PF.next(h:PF E W P D A k fb db cap pg dy)(hb:Below W W W'):PF E W' P D A k fb db cap pg dy:=h.wide hb (λ _ hj=>.inl hj)
theorem DD.over{S:Nat->Prop}{au:Nat}{d:Dk}(h:DD S W D d au){R:Nat->Prop}(hRS:∀j,R j->S j)(Fe:¬R 0)(hs:W.heap.size<=W'.heap.size)(hk:∀j,j<W.heap.size->¬R j->W'.heap[j]?=W.heap[j]?){T:Nat->Prop}(hT:∀j,T j->S j\/(W.heap.size<=j/\j<W'.heap.size)):DD T W' D d au:=by
 obtain⟨⟨own,ho,B,bc,fo,fc,I,ic,y,hd⟩,ft,hS⟩:=h;have hd2:=hd.tight;have hown2:∀k,(own k/\k<W.heap.size)->W'.heap[k]?=W.heap[k]?:=λ k hj=>hk k hj.2 (λ hr=>ho k hj.1 (hRS k hr));have htab:kD W':=λ c=>(gq (a:=⟨_,_,none⟩) (hk _ hd.tab.lt Fe)).trans (hd.tab c);refine⟨⟨λ k=>own k/\k<W.heap.size,λ k hk ht=>?_,B,bc,fo,fc,I,ic,y,?_⟩,ft,λ k hk=>?_⟩
 ·rcases hT k ht with h1|h1
  ·exact ho k hk.1 h1
  exact absurd hk.2 (by omega)
 ·refine⟨hd2.cells.ae hs (hown2 _ hd2.oD),hd2.bytes.ae (hown2 _ hd2.oB),hd2.mH,hd2.le,hd2.pre,?_,hd2.flags.ae hs (hown2 _ hd2.oI),hd2.DB,hd2.DI,hd2.BI,hd2.oD,hd2.oB,hd2.oI,htab,hd2.gK⟩;rcases hd2.eT with h0|⟨F,e1,r,n1,n2,n3,n4⟩
  ·exact .inl h0
  exact .inr ⟨F,e1,r.ae hs (hown2 _ n4),n1,n2,n3,n4⟩
 rcases hT k hk with h1|h1
 ·exact bZ (hS k h1) hs
 exact h1.2
theorem PS.over{FB M n au:Nat}{kp:Int}{q:Pl}{d:Dk}{c:Nat->List UInt8}(h:PS E W P D FB M n kp q d au k c){R:Nat->Prop}(Br:∀j,R j->E j)(Fe:¬R 0)(hs:W.heap.size<=W'.heap.size)(hk:∀j,j<W.heap.size->¬R j->W'.heap[j]?=W.heap[j]?){T:Nat->Prop}(hT:∀j,T j->E j\/(W.heap.size<=j/\j<W'.heap.size)):PS T W' P D FB M n kp q d au k c:=by
 refine⟨⟨h.pd.pool.kept hs (λ j hj=>hk j (h.pd.pool.lt hj) (λ hr=>h.pd.far j (Br j hr) hj)),h.pd.dd.over (λ j hj=>.inl (Br j hj)) Fe hs hk (λ j hj=>?_),λ j hj hp=>?_⟩,h.ok,h.l6,h.held,h.ah,h.len,h.calm,h.lim⟩
 ·rcases hj with hj|hj
  ·rcases hT j hj with h1|h1
   ·exact .inl (.inl h1)
   exact .inr h1
  exact .inl (.inr hj)
 rcases hT j hj with h1|h1
 ·exact h.pd.far j h1 hp
 have:=h.pd.pool.lt hp;omega
theorem PZ.over(h:PZ E W P D A k){R:Nat->Prop}(Br:∀j,R j->E j)(Fe:¬R 0)(hs:W.heap.size<=W'.heap.size)(hk:∀j,j<W.heap.size->¬R j->W'.heap[j]?=W.heap[j]?){T:Nat->Prop}(hT:∀j,T j->E j\/(W.heap.size<=j/\j<W'.heap.size)):PZ T W' P D A k:=by
 obtain⟨FB,M,n,q,d,h1,r⟩:=h;exact⟨FB,M,n,q,d,h1.over Br Fe hs hk hT,r⟩
theorem PZ.there(h:PZ E W P D A k):∀j,E j->j<W.heap.size:=by
 obtain⟨FB,M,n,q,d,h1,r⟩:=h;exact λ j hj=>h1.pd.dd.there j (.inl hj)
theorem PF.there(h:PF E W P D A k fb db cap pg dy):∀j,E j->j<W.heap.size:=by
 obtain⟨FB,M,n,q,d,i,f,h1,r⟩:=h;exact λ j hj=>h1.pd.dd.there j (.inl hj)
theorem PZ.kept(h:PZ E W P D A k)(hb:Below W W W'):Kept E W W':=Kept.of_below hb h.there
theorem PF.kept(h:PF E W P D A k fb db cap pg dy)(hb:Below W W W'):Kept E W W':=Kept.of_below hb h.there
theorem PZ.up{m:Nat}(h:PZ E W P D A k)(hm:k<=m):PZ E W P D A m:=by
 obtain⟨FB,M,n,q,d,h1,r⟩:=h;exact⟨FB,M,n,q,d,h1.up hm,r⟩
theorem PZ.tab(h:PZ E W P D A k):kD W:=by
 obtain⟨FB,M,n,q,d,h1,r⟩:=h;exact h1.pd.dd.tab
theorem PF.bytes(h:PF E W P D A k fb db cap pg dy):∃y,aF W db y/\y.length=cap/\y.take 504=A.c pg/\504<=cap/\¬E db:=by
 obtain⟨FB,M,n,q,d,i,f,h1,_,_,hi,rfl,rfl,rfl,hp,_⟩:=h;have hfr:=h1.pd.pool.each i f hi;obtain⟨y,a,b,e⟩:=hfr.bytes;refine⟨y,a,b,e.trans ?_,hfr.cap,λ he=>h1.pd.far _ he (.inr (.inr (.inr (.inr ⟨i,some f,hi,.inr rfl⟩))))⟩;have:=h1.calm.at_ i f hi;rw[hp,Int.toNat_natCast]at this;exact this
theorem PF.dR(h:PF E W P D A k fb db cap pg dy):(A.c pg).length=504:=by
 obtain⟨y,_,h1,h2,h3,_⟩:=h.bytes;rw[<-h2,zt];omega
theorem PF.write(h:PF E W P D A k fb db cap pg true)(ho:Only db W W'){y:List UInt8}(hy:aF W' db y)(hyl:y.length=cap):PF E W' P D (A.put pg (y.take 504)) k fb db cap pg true/\Kept E W W':=by
 obtain⟨FB,M,n,q,d,i,f,h1,hn,his,hi,rfl,rfl,rfl,hp,hpi,hd⟩:=h;have hl:=(dE.1 hi).1;obtain⟨a,b⟩:=h1.bytes hi (hd rfl) ho hy hyl;rw[show f.page.toNat=pg by omega]at a;exact⟨⟨FB,M,n,_,d,i,{f with data:=y.take 504},a,hn,⟨his.free,his.aC,his.op⟩,by show(q.af.set i _)[i]?=_;rw[fJ _ _ _ _ hl,if_pos rfl],rfl,rfl,rfl,hp,hpi,λ _=>hd rfl⟩,b⟩
theorem Is.has{q:Pl}{d:Dk}{au:Nat}{c:Nat->List UInt8}(h:Is A q d)(hc:Calm q d au c)(hcnt:A.au=au)(p:Int):(∃m:Nat,p=m/\A.Has m)↔aX d au p=true/\p∉bV q.op:=by
 have hg:bV q.op=A.bV:=by
  have:=h.op;unfold AP.bV;rw[<-this];unfold bV sM
  cases q.op<;>rfl
 rw[hc.clean.so.kP,decide_eq_true_eq,hg,h.free];unfold AP.Has
 constructor
 ·rintro⟨m,rfl,h1,h2,h3,h4⟩;rw[Int.toNat_natCast];exact⟨⟨by omega,by omega,h3⟩,h4⟩
 rintro⟨⟨h1,h2,h3⟩,h4⟩;exact⟨p.toNat,by omega,by omega,by omega,h3,by rw[show((p.toNat:Nat):Int)=p by omega];exact h4⟩
theorem Jt(h:PZ E W P D A k)(hk:k+2<900000000)(p:Nat)(hp:A.Has p) :
  Calls Tryz.prog 63 #[.pointer P,.int .i64 p] W λ e w'=>∃fb db cap,e= .returned (.tuple #[.pointer (some ⟨fb,0,none⟩),.int .i64 0])/\PF E w' P D A (k+2) fb db cap p false/\Kept E W w':=by
 obtain⟨FB,M,n,q,d,h1,hn,his⟩:=h;obtain⟨hh,hg⟩:=(his.has h1.calm rfl (p:Int)).1 ⟨p,rfl,hp⟩;have hpw:(Lit.int .i64 (p:Int)).wf=true:=WalkArith.wf_i64 (by have:=hp.2.1;have:=h1.l6.fit.few;omega)
 have hc:Calls Tryz.prog 63 #[.pointer P,.int .i64 p] W λ e w'=>Ff E W w' P D FB M n 0 q d A.au k A.c p e:=by
  by_cases hx:∃(i:Nat) (f:Fr),q.af[i]?=some (some f)/\f.page=p
  ·obtain⟨i,f,hi,hf⟩:=hx;refine xuh h1 ⟨by omega,by omega⟩ (p:Int) hpw hh hg hi hf ?_;have h0:=(Q8 q.af (λ i f hi=>(h1.ok.pos i f hi).1)).2 (by rw[<-h1.ok.ah];exact h1.ah) i f hi;omega
  exact xuj h1 hk ⟨by omega,by omega⟩ (p:Int) hpw hh hg (λ i f hi hf=>hx ⟨i,f,hi,hf⟩)
 refine hc.mono ?_;rintro e w' ⟨i,f,q',d',rfl,hi,hf,hfp,s,kk,hop,hfr,hmo⟩;exact⟨f.blk,f.db,f.cap,rfl,⟨FB,M,n,q',d',i,f,s,hn,⟨hfr.trans his.free,hmo.trans his.aC,by rw[hop];exact his.op⟩,hi,rfl,rfl,rfl,hf,hfp,λ hh=>by cases hh⟩,kk⟩
theorem GD(h:PF E W P D A k fb db cap pg dy) :
  Calls Tryz.prog 91 #[.pointer fb] W λ e w'=>e= .returned (.int .i64 pg)/\w'=W:=by
 obtain⟨FB,M,n,q,d,i,f,h1,hn,his,hi,rfl,rfl,rfl,hp,hpi,hd⟩:=h;have:=xxg (h1.pd.pool.each i f hi);rw[hp]at this;exact this
theorem yK(h:PF E W P D A k fb db cap pg dy) :
  Calls Tryz.prog 116 #[.pointer fb] W λ e w'=>e= .returned (.slice db 504 cap)/\w'=W:=by
 obtain⟨FB,M,n,q,d,i,f,h1,hn,his,hi,rfl,rfl,rfl,hp,hpi,hd⟩:=h;have c2:=(h1.pd.pool.each i f hi).box.c2;clear h1 hi
 go_enter Tryz.func116,Tryz.ntmps116
 go_wp2;go_ret
 exact⟨rfl,rfl⟩
theorem yaa{q:Pl}{f:Fr}(h:sM q.op=A.op)(hp:f.page=(pg:Nat))(hd:f.data=A.c pg):sM (xw q.op f.page f.data)=(A.keep pg).op:=by
 unfold AP.keep;rw[hp,hd];show _=A.op.map _;rw[<-h];unfold sM xw
 cases q.op with
 | none=>rfl
 | some o=>
  show Option.map _ (if _ then _ else _)=_;simp only[Option.map_some];by_cases hc:(pg:Int)∈o.made\/(o.was pg).isSome=true
  ·rw[if_pos hc,if_pos hc];rfl
  rw[if_neg hc,if_neg hc];rfl
theorem yI(h:PF E W P D A k fb db cap pg dy)(hk:k<900000000) :
  Calls Tryz.prog 64 #[.pointer fb] W λ e w'=>e= .returned (.slice db 504 cap)/\PF E w' P D (A.keep pg) (k+1) fb db cap pg true/\Kept E W w':=by
 obtain⟨FB,M,n,q,d,i,f,h1,hn,his,hi,rfl,rfl,rfl,hp,hpi,hd⟩:=h;have hl:=(dE.1 hi).1
 have JW:f.data=A.c pg:=by
  have:=h1.calm.at_ i f hi;rw[hp,Int.toNat_natCast]at this;exact this
 refine(xxk h1 hi hk).mono ?_;rintro e w' ⟨a,s,kk⟩;exact⟨a,⟨FB,M,n,_,d,i,{f with bM:=true},s,hn,⟨his.free,his.aC,yaa his.op hp JW⟩,by show(q.af.set i _)[i]?=_;rw[fJ _ _ _ _ hl,if_pos rfl],rfl,rfl,rfl,hp,hpi,λ _=>rfl⟩,kk⟩
theorem Vz(h:PF E W P D A k fb db cap pg dy) :
  Calls Tryz.prog 65 #[.pointer fb] W λ e w'=>e= .returned (.tuple #[])/\PZ E w' P D A k/\Kept E W w':=by
 obtain⟨FB,M,n,q,d,i,f,h1,hn,his,hi,rfl,rfl,rfl,hp,hpi,hd⟩:=h;refine(xuf h1 hi hpi ⟨by omega,by omega⟩).mono ?_;rintro e w' ⟨a,s,kk⟩;exact⟨a,⟨FB,M,n,_,d,s,hn,⟨his.free,his.aC,his.op⟩⟩,kk⟩
theorem BF(u:FrameMode)(h:PF E W P D A k fb db cap pg dy) :
  CallsD Tryz.prog 65 #[.pointer fb] u W λ e u' w'=>u'=u/\(e= .returned (.tuple #[])/\PZ E w' P D A k/\Kept E W w'):=by
 obtain⟨FB,M,n,q,d,i,f,h1,hn,his,hi,rfl,rfl,rfl,hp,hpi,hd⟩:=h;refine(xn9 u h1 hi hpi ⟨by omega,by omega⟩).mono ?_;rintro e u' w' ⟨hu,a,s,kk⟩;exact⟨hu,a,⟨FB,M,n,_,d,s,hn,⟨his.free,his.aC,his.op⟩⟩,kk⟩
theorem yab(d:Dk)(au:Nat)(hf:¬Al d au)(hw:d.wl≠0):tP d au=(if d.free=[] then au else d.free.getLastD 0)/\tC d au=(if d.free=[] then au+1 else au)/\(tD d au).free=d.free.dropLast:=by
 unfold Al at hf;unfold tP tC tD;rw[if_neg hf,if_neg hf,if_neg hf,if_neg hw,if_neg hw,if_neg hw];refine⟨rfl,rfl,?_⟩;by_cases h:d.free=[]
 ·rw[if_pos h,h];exact h
 rw[if_neg h];rfl
theorem GA(h:PZ E W P D A k)(hk:k+2<900000000)(hf:¬A.Full) :
  Calls Tryz.prog 88 #[.pointer P] W λ e w'=>∃fb db cap,e= .returned (.tuple #[.pointer (some ⟨fb,0,none⟩),.int .i64 0])/\PF E w' P D A.take (k+2) fb db cap A.next false/\Kept E W w':=by
 obtain⟨FB,M,n,q,d,h1,hn,his⟩:=h;have hf2:¬Al d A.au:=by unfold Al;rw[his.free,his.aC];exact hf
 obtain⟨t1,t2,t3⟩:=yab d A.au hf2 (by rw[h1.calm.clean.wl];decide);rw[his.free]at t1 t2 t3;refine(xum h1 hk ⟨by omega,by omega⟩ hf2).mono ?_;rintro e w' ⟨i,f,q',d',rfl,hi,hf,hfp,s,kk,hm,hfr,hmo⟩;rw[t1,t2]at s;refine⟨f.blk,f.db,f.cap,rfl,⟨FB,M,n,q',d',i,f,s,hn,⟨hfr.trans t3,hmo.trans his.aC,?_⟩,hi,rfl,rfl,rfl,by rw[hf,t1];rfl,hfp,λ hh=>by cases hh⟩,kk⟩;show _=A.op.map _;rw[<-his.op];rcases hm with⟨a,b⟩|⟨x,y,a,b,e1,e2,e3,e4⟩
 ·rw[a,b];rfl
 rw[a,b];unfold sM;simp only[Option.map_some];rw[e1,e3,e4,t1];rfl
theorem Qg(h:PZ E W P D A k)(hk:k+2<900000000)(hf:A.Full) :
  Calls Tryz.prog 88 #[.pointer P] W λ e w'=>e= .returned (.tuple #[.pointer none,.int .i64 6])/\PZ E w' P D A (k+2)/\Kept E W w':=by
 obtain⟨FB,M,n,q,d,h1,hn,his⟩:=h;refine(xul h1 hk ⟨by omega,by omega⟩ (by unfold Al;rw[his.free,his.aC];exact hf)).mono ?_;rintro e w' ⟨q',d',rfl,s,kk,hop,hfr,hmo⟩;exact⟨rfl,⟨FB,M,n,q',d',s,hn,⟨hfr.trans his.free,hmo.trans his.aC,by rw[hop];exact his.op⟩⟩,kk⟩
theorem PS.rest{FB M n au:Nat}{q:Pl}{d:Dk}{c:Nat->List UInt8}(h:PS E W P D FB M n 0 q d au k c)(i:Nat)(f:Fr)(hi:q.af[i]?=some (some f)):f.ah=0:=
 (Q8 q.af (λ i f hi=>(h.ok.pos i f hi).1)).2 (by rw[<-h.ok.ah];exact h.ah) i f hi
theorem JI(h:PZ E W P D A k)(hk:k+1<900000000)(p:Nat)(hp:A.Has p) :
  Calls Tryz.prog 60 #[.pointer P,.int .i64 p] W λ e w'=>e= .returned (.int .i64 0)/\PZ E w' P D (A.give p) (k+1)/\Kept E W w':=by
 obtain⟨FB,M,n,q,d,h1,hn,his⟩:=h;obtain⟨hh,hg⟩:=(his.has h1.calm rfl (p:Int)).1 ⟨p,rfl,hp⟩;have hpw:(Lit.int .i64 (p:Int)).wf=true:=WalkArith.wf_i64 (by have:=hp.2.1;have:=h1.l6.fit.few;omega);have hq0:∀(i:Nat) (f:Fr),q.af[i]?=some (some f)->f.page=p->f.ah<=0:=λ i f hi _=>by have:=h1.rest i f hi;omega
 have ho:=his.op
 cases hq:q.op with
 | none=>
  refine(xup h1 hk hq hq0 hpw hh).mono ?_;rintro e w' ⟨q',d',rfl,s,kk,hop,hfr,hmo⟩;rw[hq]at ho;have e0:A.op=none:=ho.symm;have e1:A.give p={A with free:=A.free++[p]}:=by unfold AP.give;rw[e0]
  rw[e1];exact⟨rfl,⟨FB,M,n,q',d',s,hn,⟨by rw[hfr,his.free,Int.toNat_natCast],hmo.trans his.aC,by rw[hop];exact e0.symm⟩⟩,kk⟩
 | some o=>
  refine(xuo h1 hk hq hq0 hpw hh hg).mono ?_;rintro e w' ⟨rfl,op',hgo,s,kk⟩;rw[hq]at ho;have e0:A.op=some {was:=o.was,made:=o.made,gone:=o.gone}:=ho.symm;have e1:A.give p={A with op:=some {was:=o.was,made:=o.made,gone:=o.gone++[(p:Int)]}}:=by unfold AP.give;rw[e0]
  rw[e1];refine⟨rfl,⟨FB,M,n,_,d,s,hn,⟨his.free,his.aC,?_⟩⟩,kk⟩;obtain⟨x,y,a,b,f1,_,f3,f4⟩:=hgo;rw[hq]at a;obtain rfl:=aZ a;show sM op'=_;rw[b];unfold sM;simp only[Option.map_some];rw[f1,f3,f4]
end
open Go.RowKit
open UK (str aF nth Only Row ay)
def AP.ak(A:AP)(pg:Nat)(s:List UInt8):AP:=(A.keep pg).put pg s
theorem AP.mU(A:AP)(pg:Nat):(A.keep pg).bV=A.bV:=by
 unfold AP.keep AP.bV
 cases ho:A.op with
 | none=>simp
 | some o=>
  simp only[Option.map_some]
  split<;>rfl
theorem AP.oK{A:AP}{pg:Nat}{p:Nat}:(A.keep pg).Has p↔A.Has p:=by
 unfold AP.Has;rw[AP.mU];rfl
theorem AP.aA{A:AP}{pg:Nat}{s:List UInt8}{p:Nat}:(A.ak pg s).Has p↔A.Has p:=AP.oK (A:=A) (pg:=pg) (p:=p)
theorem AP.aL{A:AP}{pg:Nat}{s:List UInt8}{p:Nat}:(A.ak pg s).c p=if pg=p then s else A.c p:=rfl
theorem AP.Ca(A:AP)(p:Nat)(s t:List UInt8):(A.put p s).put p t=A.put p t:=by
 have e:bS (bS A.c p s) p t=bS A.c p t:=by
  funext r
  unfold bS;by_cases h:p=r
  ·rw[if_pos h,if_pos h]
  rw[if_neg h,if_neg h,if_neg h]
 unfold AP.put;rw[e]
theorem AP.u7(A:AP)(p:Nat)(s:List UInt8):(A.ak p s).keep p=A.ak p s:=by
 unfold AP.ak AP.keep AP.put
 cases ho:A.op with
 | none=>simp
 | some o=>
  simp only[Option.map_some];by_cases h:(p:Int)∈o.made\/(o.was p).isSome=true
  ·simp only[if_pos h]
  simp only[if_neg h]
  congr 2
  rw[if_pos];exact .inr (by simp)
theorem AP.ku(A:AP)(p:Nat)(s t:List UInt8):(A.ak p s).ak p t=A.ak p t:=by
 show((A.ak p s).keep p).put p t=_;rw[AP.u7];exact AP.Ca _ p s t
structure AP.Good(A:AP):Prop where
 one:1<=A.au
 aC:(A.au:Int)<=A.aC
 few:A.aC<=60000
 ib:A.free.Nodup
 free:∀p,p∈A.free->1<=p/\p<A.au
 qg:A.bV.Nodup
 gone:∀g,g∈A.bV->∃m:Nat,g=m/\1<=m/\m<A.au/\m∉A.free
def AP.bu(A:AP):Nat:=(A.aC-A.au).toNat+A.free.length
namespace AP
variable{A:AP}
theorem Good.full(h:A.Good):A.Full↔A.bu=0:=by
 unfold AP.Full AP.bu;have:=h.aC;rw[<-List.length_eq_zero_iff];omega
theorem Good.next(h:A.Good)(hf:¬A.Full):¬A.Has A.next/\1<=A.next/\A.next<=60000:=by
 have h1:=h.one;have h2:=h.aC;have h3:=h.few;unfold AP.next;by_cases e:A.free=[]
 ·rw[if_pos e];have:¬A.aC<=A.au:=λ h5=>hf ⟨h5,e⟩;exact⟨λ h4=>absurd h4.2.1 (by omega),by omega,by omega⟩
 rw[if_neg e]
 have hm:A.free.getLastD 0∈A.free:=by
  rw[List.getLastD_eq_getLast?,List.getLast?_eq_some_getLast e];exact List.getLast_mem e
 have:=h.free _ hm;exact⟨λ h4=>h4.2.2.1 hm,by omega,by omega⟩
theorem xre{l:List Nat}(e:l≠[]):l=l.dropLast++[l.getLastD 0]:=by
 rw[List.getLastD_eq_getLast?,List.getLast?_eq_some_getLast e];exact(List.dropLast_concat_getLast e).symm
theorem xrf:A.take.bV=A.bV:=by
 unfold AP.take AP.bV
 cases A.op<;>rfl
theorem Good.take(h:A.Good)(hf:¬A.Full):A.take.Good/\(∀p,A.take.Has p↔A.Has p\/p=A.next)/\A.take.bu+1=A.bu:=by
 have h1:=h.one;have h2:=h.aC;have h3:=h.few;have hg:=xrf (A:=A);by_cases e:A.free=[]
 ·have hlt:(A.au:Int)<A.aC:=by
   have:¬A.aC<=A.au:=λ h5=>hf ⟨h5,e⟩;omega
  have ec:A.take.au=A.au+1:=by show(if A.free=[] then _ else _)=_;rw[if_pos e]
  have ef:A.take.free=[]:=by show A.free.dropLast=[];rw[e];rfl
  have en:A.next=A.au:=by unfold AP.next;rw[if_pos e]
  refine⟨⟨by omega,by rw[ec];show _<=A.aC;omega,h3,by rw[ef];exact List.nodup_nil,λ p hp=>(by rw[ef]at hp;cases hp),by rw[hg];exact h.qg,λ g hgm=>?_⟩,λ p=>?_,?_⟩
  ·rw[hg]at hgm;obtain⟨m,a,b,c,d⟩:=h.gone g hgm;exact⟨m,a,b,by omega,by rw[ef];exact List.not_mem_nil⟩
  ·unfold AP.Has;rw[ec,ef,hg,en,e]
   constructor
   ·rintro⟨a,b,c,d⟩;by_cases e2:p=A.au
    ·exact .inr e2
    exact .inl ⟨a,by omega,c,d⟩
   rintro(⟨a,b,c,d⟩|rfl)
   ·exact⟨a,by omega,c,d⟩
   refine⟨h1,by omega,List.not_mem_nil,λ hm=>?_⟩;obtain⟨m,a,b,c,d⟩:=h.gone _ hm;omega
  unfold AP.bu;rw[ec,ef,e];show((A.aC-((A.au+1:Nat):Int)).toNat+0)+1=_;show _=(A.aC-A.au).toNat+0;omega
 have hs:=xre e;generalize hp0:A.free.getLastD 0=p0 at hs;generalize hl0:A.free.dropLast=l0 at hs;have ec:A.take.au=A.au:=by show(if A.free=[] then _ else _)=_;rw[if_neg e]
 have ef:A.take.free=l0:=hl0;have en:A.next=p0:=by unfold AP.next;rw[if_neg e];exact hp0
 have hnd:=h.ib;rw[hs,bN]at hnd;have JX:p0∈A.free:=by rw[hs];exact lI _ (bz.2 rfl)
 have Q9:p0∉l0:=λ hm=>hnd.2.2 p0 hm p0 (bz.2 rfl) rfl;have hb:=h.free p0 JX;refine⟨⟨by omega,by rw[ec];exact h2,h3,by rw[ef];exact hnd.1,λ p hp=>?_,by rw[hg];exact h.qg,λ g hgm=>?_⟩,λ p=>?_,?_⟩
 ·rw[ef]at hp;rw[ec];exact h.free p (by rw[hs];exact eF _ hp)
 ·rw[hg]at hgm;obtain⟨m,a,b,c,d⟩:=h.gone g hgm;exact⟨m,a,b,by omega,by rw[ef];exact λ hm=>d (by rw[hs];exact eF _ hm)⟩
 ·unfold AP.Has;rw[ec,ef,hg,en,hs];simp only[dD,bz]
  constructor
  ·rintro⟨a,b,c,d⟩;by_cases e2:p=p0
   ·exact .inr e2
   exact .inl ⟨a,b,λ hh=>hh.elim c e2,d⟩
  rintro(⟨a,b,c,d⟩|rfl)
  ·exact⟨a,b,λ hm=>c (.inl hm),d⟩
  refine⟨hb.1,hb.2,Q9,λ hm=>?_⟩;obtain⟨m,a,_,_,d⟩:=h.gone _ hm;have:p=m:=by omega
  subst this;exact d JX
 unfold AP.bu;rw[ec,ef,hs,zl];show(A.aC-A.au).toNat+l0.length+1=(A.aC-A.au).toNat+(l0.length+1);omega
theorem Good.ak(h:A.Good)(p:Nat)(s:List UInt8):(A.ak p s).Good:=by
 have hg:(A.ak p s).bV=A.bV:=AP.mU A p;exact⟨h.one,h.aC,h.few,h.ib,h.free,by rw[hg];exact h.qg,by rw[hg];exact h.gone⟩
theorem nE(p:Nat)(s:List UInt8):(A.ak p s).bu=A.bu:=rfl
theorem Good.keep(h:A.Good)(p:Nat):(A.keep p).Good:=by
 have hg:(A.keep p).bV=A.bV:=AP.mU A p;exact⟨h.one,h.aC,h.few,h.ib,h.free,by rw[hg];exact h.qg,by rw[hg];exact h.gone⟩
theorem ky(p:Nat):(A.give p).c=A.c:=by
 unfold AP.give
 cases A.op<;>rfl
theorem Good.give(h:A.Good){p:Nat}(hp:A.Has p):(A.give p).Good/\(∀q,(A.give p).Has q↔A.Has q/\q≠p)/\A.bu<=(A.give p).bu/\(A.op=none->(A.give p).bu=A.bu+1):=by
 obtain⟨p1,p2,p3,p4⟩:=hp
 cases ho:A.op with
 | none=>
  have eg:A.give p={A with free:=A.free++[p]}:=by unfold AP.give;rw[ho]
  have hg0:A.bV=[]:=by unfold AP.bV;rw[ho]
  have hg:({A with free:=A.free++[p]}:AP).bV=[]:=by unfold AP.bV;show(match A.op with|none=>[]|some o=>o.gone)=[];rw[ho]
  rw[eg];refine⟨⟨h.one,h.aC,h.few,?_,λ q hq=>?_,by rw[hg];exact List.nodup_nil,λ g hgm=>(by rw[hg]at hgm;cases hgm)⟩,λ q=>?_,?_,λ _=>?_⟩
  ·exact bN.2 ⟨h.ib,List.pairwise_singleton _ _,λ a ha b hb=>by rw[bz.1 hb];exact λ e=>p3 (e▸ha)⟩
  ·rcases dD.1 hq with hq|hq
   ·exact h.free q hq
   rw[bz.1 hq];exact⟨p1,p2⟩
  ·unfold AP.Has;rw[hg,hg0];show 1<=q/\q<A.au/\q∉A.free++[p]/\_↔_;simp only[dD,bz,not_or]
   constructor
   ·rintro⟨a,b,⟨c,d⟩,e⟩;exact⟨⟨a,b,c,e⟩,d⟩
   rintro⟨⟨a,b,c,e⟩,d⟩;exact⟨a,b,⟨c,d⟩,e⟩
  ·unfold AP.bu;show _<=(A.aC-A.au).toNat+(A.free++[p]).length;rw[zl];omega
  unfold AP.bu;show(A.aC-A.au).toNat+(A.free++[p]).length=_;rw[zl];show _+(_+1)=_;omega
 | some o=>
  have eg:A.give p={A with op:=some {o with gone:=o.gone++[(p:Int)]}}:=by unfold AP.give;rw[ho]
  have hg0:A.bV=o.gone:=by unfold AP.bV;rw[ho]
  have hg:({A with op:=some {o with gone:=o.gone++[(p:Int)]}}:AP).bV=o.gone++[(p:Int)]:=rfl;rw[hg0]at p4;have hgn:=h.qg;have hgo:=h.gone;rw[hg0]at hgn hgo;rw[eg];refine⟨⟨h.one,h.aC,h.few,h.ib,h.free,?_,λ g hgm=>?_⟩,λ q=>?_,aO _,λ e=>by cases e⟩
  ·rw[hg];exact bN.2 ⟨hgn,List.pairwise_singleton _ _,λ a ha b hb=>by rw[bz.1 hb];exact λ e=>p4 (e▸ha)⟩
  ·rw[hg]at hgm;rcases dD.1 hgm with hgm|hgm
   ·exact hgo g hgm
   exact⟨p,bz.1 hgm,p1,p2,p3⟩
  unfold AP.Has;rw[hg,hg0];show 1<=q/\q<A.au/\q∉A.free/\_↔_;simp only[dD,bz,not_or]
  constructor
  ·rintro⟨a,b,c,d,e⟩;exact⟨⟨a,b,c,d⟩,λ e2=>e (by rw[e2])⟩
  rintro⟨⟨a,b,c,d⟩,e⟩;exact⟨a,b,c,d,λ e2=>e (by omega)⟩
end AP
structure AP.Moves(Q:AP->Prop):Prop where
 ak:∀(X:AP) (p:Nat) (s:List UInt8),Q X->X.Has p->Q (X.ak p s)
 keep:∀(X:AP) (p:Nat),Q X->X.Has p->Q (X.keep p)
 take:∀X:AP,Q X->¬X.Full->Q X.take
 give:∀(X:AP) (p:Nat),Q X->X.Has p->Q (X.give p)
def AP.Reach(A B:AP):Prop:=∀Q:AP->Prop,AP.Moves Q->Q A->Q B
namespace AP
theorem Reach.refl(A:AP):A.Reach A:=λ _ _ h=>h
theorem Reach.trans{A B C:AP}(h:A.Reach B)(k:B.Reach C):A.Reach C:=λ Q m a=>k Q m (h Q m a)
theorem Reach.ak{A B:AP}(h:A.Reach B){p:Nat}(hp:B.Has p)(s:List UInt8):A.Reach (B.ak p s):=λ Q m a=>m.ak B p s (h Q m a) hp
theorem Reach.keep{A B:AP}(h:A.Reach B){p:Nat}(hp:B.Has p):A.Reach (B.keep p):=λ Q m a=>m.keep B p (h Q m a) hp
theorem Reach.take{A B:AP}(h:A.Reach B)(hf:¬B.Full):A.Reach B.take:=λ Q m a=>m.take B (h Q m a) hf
theorem Reach.give{A B:AP}(h:A.Reach B){p:Nat}(hp:B.Has p):A.Reach (B.give p):=λ Q m a=>m.give B p (h Q m a) hp
theorem xrg:Moves Good:=⟨λ _ _ _ h _=>h.ak _ _,λ _ _ h _=>h.keep _,λ _ h hf=>(h.take hf).1,λ _ _ h hp=>(h.give hp).1⟩
theorem Reach.good{A B:AP}(h:A.Reach B)(g:A.Good):B.Good:=h Good xrg g
structure Grown(A B:AP)(ch:List Nat):Prop where
 reach:A.Reach B
 ib:ch.Nodup
 new:∀p,p∈ch->¬A.Has p
 has:∀p,B.Has p↔A.Has p\/p∈ch
 same:∀p,A.Has p->B.c p=A.c p
 bu:B.bu+ch.length=A.bu
theorem Grown.nil(A:AP):Grown A A []:=⟨Reach.refl A,List.nodup_nil,λ _ h=>absurd h List.not_mem_nil,λ p=>by simp,λ _ _=>rfl,rfl⟩
theorem Grown.cons{A B:AP}{ch:List Nat}(h:Grown A B ch)(g:B.Good)(hf:¬B.Full)(s:List UInt8):Grown A (B.take.ak B.next s) (B.next::ch):=by
 obtain⟨_,h2,h3⟩:=g.take hf;have hn:=(g.next hf).1
 have hc:∀p,B.Has p->(B.take.ak B.next s).c p=B.c p:=λ p hp=>by
  have hne:B.next≠p:=λ e=>hn (e▸hp);rw[AP.aL,if_neg hne];show bS B.c B.next (UK.bF 504) p=_;unfold bS;rw[if_neg hne]
 refine⟨(h.reach.take hf).ak ((h2 _).2 (.inr rfl)) s,dW.2 ⟨λ hm=>hn ((h.has _).2 (.inr hm)),h.ib⟩,λ p hp hA=>?_,λ p=>?_,λ p hp=>?_,?_⟩
 ·rcases aN.1 hp with rfl|hp
  ·exact hn ((h.has _).2 (.inl hA))
  exact h.new p hp hA
 ·rw[AP.aA,h2,h.has,aN]
  constructor
  ·rintro((a|a)|a)
   ·exact .inl a
   ·exact .inr (.inr a)
   exact .inr (.inl a)
  rintro(a|a|a)
  ·exact .inl (.inl a)
  ·exact .inr a
  exact .inl (.inr a)
 ·rw[hc p ((h.has p).2 (.inl hp))];exact h.same p hp
 have:=h.bu;rw[AP.nE,dn];omega
end AP
theorem PF.over{E:Nat->Prop}{W W':World}{P D k fb db cap pg:Nat}{A:AP}{dy:Bool}(h:PF E W P D A k fb db cap pg dy){R:Nat->Prop}(Br:∀j,R j->E j)(Fe:¬R 0)(hs:W.heap.size<=W'.heap.size)(hk:∀j,j<W.heap.size->¬R j->W'.heap[j]?=W.heap[j]?){T:Nat->Prop}(hT:∀j,T j->E j\/(W.heap.size<=j/\j<W'.heap.size)):PF T W' P D A k fb db cap pg dy:=by
 obtain⟨FB,M,n,q,d,i,f,h1,r⟩:=h;exact⟨FB,M,n,q,d,i,f,h1.over Br Fe hs hk hT,r⟩
open Go.RowKit
open UK (str aF nth Only Row ay w32)
open Go.BigFrame
namespace UK
def kY(v:UInt64):UInt32:=v.toUInt32
def l8(v:UInt64):UInt32:=UInt32.ofNat (v.toNat/4294967296)
def sS(a b:UInt32):UInt64:=UInt64.ofNat (a.toNat+b.toNat*4294967296)
@[go_sem] theorem Oa (v:UInt64):(v.toNat:Int)%4294967296=((kY v).toNat:Int):=by
 unfold kY;rw[UInt64.toNat_toUInt32];omega
theorem P8(v:UInt64):(l8 v).toNat=v.toNat/4294967296:=by
 have:=v.toNat_lt;unfold l8;rw[UInt32.toNat_ofNat'];omega
@[go_sem] theorem Ob (v:UInt64):(v.toNat:Int)/4294967296=((l8 v).toNat:Int):=by
 rw[P8];omega
theorem Yo(a b:UInt32):(sS a b).toNat=a.toNat+b.toNat*4294967296:=by
 have:=a.toNat_lt;have:=b.toNat_lt;unfold sS;rw[UInt64.toNat_ofNat'];omega
theorem xrt(v:UInt64):sS (kY v) (l8 v)=v:=by
 apply mJ.1;rw[Yo,P8];have:(kY v).toNat=v.toNat%4294967296:=by unfold kY;rw[UInt64.toNat_toUInt32]
 omega
theorem xol(a b:Nat)(ha:a<4294967296):a ||| b*4294967296=a+b*4294967296:=by
 have h:=Nat.two_pow_add_eq_or_of_lt (b:=a) (i:=32) ha b;rw[Nat.or_comm,show b*4294967296=2^32*b by rw[Nat.mul_comm],<-h,Nat.add_comm]
def zI(b:UInt32):UInt64:=UInt64.ofNat (b.toNat*4294967296)
theorem Yp(b:UInt32):(zI b).toNat=b.toNat*4294967296:=by
 have:=b.toNat_lt;unfold zI;rw[UInt64.toNat_ofNat'];omega
@[go_sem] theorem qD (b:UInt32):(b.toNat:Int)%18446744073709551616=(b.toNat:Int):=by have:=b.toNat_lt;omega
@[go_sem] theorem Cz (b:UInt32):(b.toNat:Int)*4294967296%18446744073709551616=((zI b).toNat:Int):=by
 have:=b.toNat_lt;rw[Yp];omega
@[go_sem] theorem FH (a b:UInt32):bits .or .u64 (a.toNat:Int) ((zI b).toNat:Int)=((sS a b).toNat:Int):=by
 have h1:=a.toNat_lt;have h2:=b.toNat_lt;rw[u64_or_nat _ _ (by omega) (zI b).toNat_lt,Yp,Yo,xol _ _ h1]
end UK
theorem Rw{W:World}{B:Nat}{x:List UInt8}(h:aF W B x)(o n c:Nat)(hn:8<=n)(ho:o+n<=x.length)(hl:n<=100000000)(hc:n<=c)(v:UInt64) :
  Calls Tryz.prog 201 #[.slice (B,o) n c,.int .u64 v.toNat] W λ e w'=>e= .returned (.tuple #[])/\aF w' B (UK.wr x o (aI (UK.kY v)++aI (UK.l8 v)))/\Only B W w':=by
 have H1:=zH (Eh h o n c (by omega) ho hl (UK.kY v));have hl1:(UK.wr x o (aI (UK.kY v))).length=x.length:=UK.iW _ _ _ (by show o+4<=_;omega);have hw2:UK.wr (UK.wr x o (aI (UK.kY v))) (o+4) (aI (UK.l8 v))=UK.wr x o (aI (UK.kY v)++aI (UK.l8 v)):=UK.zW x o (aI (UK.kY v)) (aI (UK.l8 v)) (by omega);have qR:=zH (zA hl1 hw2);clear hl1 hw2
 go_enter Tryz.func201,Tryz.ntmps201
 go_wp2_with fail
 refine H1.out.mono ?_;rintro e w1 ⟨rfl,h1,o1⟩;have H2:=zH (Eh h1 (o+4) (n-4) (c-4) (by omega) (by rw[qR.out.1];omega) (by omega) (UK.l8 v));clear H1
 go_wp2_with fail
 refine H2.out.mono ?_;rintro e w2 ⟨rfl,h2,o2⟩;clear H2;rw[qR.out.2]at h2;go_wp2
 go_end0
 exact⟨rfl,h2,o1.trans o2⟩
theorem R3{W:World}{B:Nat}{x:List UInt8}(h:aF W B x)(o n c:Nat)(hn:4<=n)(ho:o+n<=x.length) :
  Calls Tryz.prog 115 #[.slice (B,o) n c] W λ e w'=>e= .returned (.int .u32 (dI ((x.drop o).take 4)).toNat)/\∃m,w'=W.drewN m:=by
 have c0:=h.cell (i:=o) (by omega);have c1:=h.cell (i:=o+1) (by omega);have c2:=h.cell (i:=o+2) (by omega);have c3:=h.cell (i:=o+3) (by omega)
 have hg:Hid (dI ((x.drop o).take 4)=UK.jl (UK.jl (UK.jl (UK.wide (nth x o)) (UK.shl (UK.wide (nth x (o+1))) 1)) (UK.shl (UK.wide (nth x (o+2))) 2)) (UK.shl (UK.wide (nth x (o+3))) 3)):=by
  show _=_;unfold dI
  have e:∀j,j<4->nth ((x.drop o).take 4) j=nth x (o+j):=λ j hj=>by
   simp only[nth,fE];rw[eX hj,eY]
  rw[e 0 (by omega),e 1 (by omega),e 2 (by omega),e 3 (by omega),jN]
 go_enter Tryz.func115,Tryz.ntmps115
 go_wp2
 go_quiet (fail)
 go_wp2;go_ret
 exact⟨by rw[hg.out]<;>rfl,_,rfl⟩
theorem R5{W:World}{B:Nat}{x:List UInt8}(h:aF W B x)(o n c:Nat)(hn:8<=n)(ho:o+n<=x.length)(hc:n<=c) :
  Calls Tryz.prog 202 #[.slice (B,o) n c] W λ e w'=>e= .returned (.int .u64 (UK.sS (dI ((x.drop o).take 4)) (dI ((x.drop (o+4)).take 4))).toNat)/\∃m,w'=W.drewN m:=by
 have g1:=λ x=>R3 (h.drewN x) o n c (by omega) ho;have g2:=λ x=>R3 (h.drewN x) (o+4) (n-4) (c-4) (by omega) (by omega);generalize dI ((x.drop o).take 4)=u at g1 ⊢;generalize dI ((x.drop (o+4)).take 4)=v at g2 ⊢
 have HE:Hid (bits BinOp.or IntKind.u64 (IntKind.u64.wrap u.toNat) (IntKind.u64.wrap (IntKind.u64.wrap v.toNat*4294967296))=((UK.sS u v).toNat:Int)):=by
  show _=_;rw[lN,lN,lN,UK.qD,UK.qD,UK.Cz,UK.FH]
 go_enter Tryz.func202,Tryz.ntmps202
 go_wp2_with fail
 go_quiet (first|(go_at_call 115;with_reducible exact Calls.quiet_of (g1 _))|(go_at_call 115;with_reducible exact Calls.quiet_of (g2 _)))
 go_wp2;go_ret
 exact⟨by rw[HE.out]<;>rfl,_,rfl⟩
open Go.RowKit
open UK (str aF nth Only Row ay w32)
open Go.BigFrame
structure Nd where
 leaf:Bool
 ag:List UInt64
 vals:List UInt64
 ax:List Nat
def az(l:List UInt64):List Value:=l.map λ v=>.int .u64 (v.toNat:Int)
theorem dA(l:List UInt64):(az l).length=l.length:=df _
theorem tH(l:List UInt64)(i:Nat)(v:UInt64)(h:l[i]?=some v):(az l)[i]?=some (.int .u64 (v.toNat:Int)):=by unfold az;rw[dL,h];rfl
def fV(S:Nat->Prop)(W:World)(v:Value)(vs:List Value):Prop:=∃ao c,v= .slice ao vs.length c/\vs.length<=c/\∀j u,vs[j]?=some u->∃g o,ao=some ⟨g,o,none⟩/\S g/\W.cell? ⟨g,o+j,none⟩=some u
def jD(S:Nat->Prop)(W:World)(nb:Nat)(x:Nd):Prop:=∃kv vv av,ay W nb #[.bool x.leaf,kv,vv,av]/\S nb/\fV S W kv (az x.ag)/\fV S W vv (az x.vals)/\fV S W av (ints x.ax)
def b64(v:UInt64):List UInt8:=aI (UK.kY v)++aI (UK.l8 v)
theorem Oc(v:UInt64):(b64 v).length=8:=rfl
def pV:List UInt64->List UInt64->List UInt8
 | k::ks,v::vs=>b64 k++(b64 v++pV ks vs)
 | _,_=>[]
def pM(y:List UInt8)(ks vs:List UInt64):List UInt8:=UK.wr ((y.set 0 1).set 1 (UInt8.ofNat ks.length)) 4 (pV ks vs)
theorem Ig:∀(ks vs:List UInt64),vs.length=ks.length->(pV ks vs).length=16*ks.length
 | [],[],_=>rfl
 | k::ks,v::vs,h=>by
  have:=Ig ks vs (by simpa using h);show(b64 k++(b64 v++pV ks vs)).length=_;rw[zl,zl,Oc,Oc,this,dn];omega
 | [],_::_,h=>by cases h
 | _::_,[],h=>by cases h
theorem Yq:∀(ks vs:List UInt64) (j:Nat) (k v:UInt64),ks[j]?=some k->vs[j]?=some v->pV (ks.take (j+1)) (vs.take (j+1))=pV (ks.take j) (vs.take j)++(b64 k++b64 v)
 | a::ks,b::vs,0,k,v,hk,hv=>by
  obtain rfl:a=k:=by simpa using hk
  obtain rfl:b=v:=by simpa using hv
  show b64 a++(b64 b++pV (ks.take 0) (vs.take 0))=_;rw[jW,jW];show b64 a++(b64 b++[])=[]++_;rw[jL,jM]
 | a::ks,b::vs,j+1,k,v,hk,hv=>by
  have:=Yq ks vs j k v (by simpa using hk) (by simpa using hv);show b64 a++(b64 b++pV (ks.take (j+1)) (vs.take (j+1)))=b64 a++(b64 b++pV (ks.take j) (vs.take j))++_;rw[this];simp only[cO]
 | [],_,_,_,_,hk,_=>by simp at hk
 | _::_,[],_,_,_,_,hv=>by simp at hv
theorem UK.Only.cell{B:Nat}{a w:World}(h:Only B a w){g i:Nat}{v:Value}(hc:a.cell? (g,i)=some v)(hn:g≠B):w.cell? (g,i)=some v:=by
 have hl:g<a.heap.size:=by
  refine Nat.lt_of_not_le (λ hge=>?_);unfold World.cell? at hc;rw[Array.getElem?_eq_none hge]at hc
  cases hc
 exact(gq (a:=⟨g,i,none⟩) (h.block g hl hn)).trans hc
theorem Rx{S:Nat->Prop}{W:World}{nb db cap:Nat}{y:List UInt8}{x:Nd}(h:jD S W nb x)(hl:x.leaf=true)(hn:x.ag.length<=30)(hv:x.vals.length=x.ag.length)(hy:aF W db y)(hyl:y.length=cap)(hc:504<=cap)(hS:¬S db) :
  Calls Tryz.prog 134 #[.slice db 504 cap,.pointer nb] W λ e w'=>e= .returned (.tuple #[])/\aF w' db (pM y x.ag x.vals)/\Only db W w':=by
 obtain⟨kv,vv,av,hb,hnb,⟨ka,kc,rfl,hkc,hk⟩,⟨va,vc,rfl,Yr,hvv⟩,_⟩:=h;rw[dA,dA,hl,hv]at hb;rw[dA]at hkc Yr;rw[hv]at Yr;have c0:=hb.c0;have c1:=hb.c1;have c2:=hb.c2;have hne:nb≠db:=λ e=>hS (e▸hnb);have d0:=hy.cell (i:=0) (by omega);have d1:=hy.cell (i:=1) (by omega);have f0:=hy.free (i:=0) (by omega);have f1:=hy.free (i:=1) (by omega);have he:((UInt8.ofNat x.ag.length).toNat:Int)=x.ag.length:=by rw[UInt8.toNat_ofNat'];omega
 have h2:=(hy.set 0 1).set 1 (UInt8.ofNat x.ag.length);have o2:=((Only.refl db W).set 0 (.int .u8 ((1:UInt8).toNat:Int))).set 1 (.int .u8 ((UInt8.ofNat x.ag.length).toNat:Int));rw[he,show((1:UInt8).toNat:Int)=1 from rfl]at h2 o2;have H2:=zH (zA h2 o2);have HB:=zH hb;clear he h2 o2 hb
 go_enter Tryz.func134,Tryz.ntmps134
 go_wp2_with fail
 obtain⟨hb2,ho2⟩:=H2.out;have hy2:((y.set 0 1).set 1 (UInt8.ofNat x.ag.length)).length=cap:=by rw[aQ,aQ];exact hyl
 generalize KN:(y.set 0 1).set 1 (UInt8.ofNat x.ag.length)=y2 at hb2 hy2;have Rv:=zH KN;clear KN H2
 go_loopw [29] (λ ix wr=>∃j:Nat,ix= .int .i64 j/\j<=x.ag.length/\aF wr db (UK.wr y2 4 (pV (x.ag.take j) (x.vals.take j)))/\Only db W wr) (λ ix _=>31-(intOf ix).toNat)
 case atStart=>exact⟨0,rfl,aY _,by rw[jW,jW];show aF _ _ (UK.wr y2 4 []);rw[UK.LG];exact hb2,ho2⟩
 clear hb2 ho2 hy c0 c1 d0 d1 f0 f1;obtain⟨j,rfl,hj,hb,ho⟩:=hrel;by_cases hlt:j<x.ag.length
 ·obtain⟨kx,hkx⟩:∃k,x.ag[j]?=some k:=⟨_,bL hlt⟩;obtain⟨vx,Sd⟩:∃v,x.vals[j]?=some v:=⟨_,bL (by omega)⟩;obtain⟨g,o,rfl,hg,ck⟩:=hk j _ (tH _ _ _ hkx);obtain⟨g2,o2,rfl,hg2,cv⟩:=hvv j _ (tH _ _ _ Sd);have hgd:g≠db:=λ e=>hS (e▸hg);have Sg:g2≠db:=λ e=>hS (e▸hg2);replace ck:=ho.cell ck hgd;have hlb:(pV (x.ag.take j) (x.vals.take j)).length=16*j:=by rw[Ig _ _ (by rw[zt,zt];omega),zt];omega
  have hw1:(UK.wr y2 4 (pV (x.ag.take j) (x.vals.take j))).length=cap:=by rw[UK.iW _ _ _ (by omega)];exact hy2
  have ha1:=UK.zW y2 4 (pV (x.ag.take j) (x.vals.take j)) (b64 kx) (by omega);rw[hlb]at ha1;have ha2:=UK.zW y2 4 (pV (x.ag.take j) (x.vals.take j)++b64 kx) (b64 vx) (by omega);rw[zl,hlb,Oc,show 4+(16*j+8)=12+16*j by omega]at ha2;have hw2:(UK.wr y2 4 (pV (x.ag.take j) (x.vals.take j)++b64 kx)).length=cap:=by rw[UK.iW _ _ _ (by rw[zl,hlb,Oc];omega)];exact hy2
  have hsn:=Yq x.ag x.vals j kx vx hkx Sd;have P1:=Rw hb (4+16*j) (504-(4+16*j)) (cap-(4+16*j)) (by omega) (by omega) (by omega) (by omega) kx;rw[show aI (UK.kY kx)++aI (UK.l8 kx)=b64 kx from rfl,ha1]at P1;have DF:=zH P1;have HX:=zH (zA ha2 (zA hw2 (zA hsn (zA cv ho))));clear P1 ha1 ha2 hw1 hw2 hsn hlb hk hvv hkx Sd hb cv c2
  go_wp2_with fail
  refine DF.out.mono ?_;rintro e w1 ⟨rfl,b1,o1⟩;obtain⟨ha2,hw2,hsn,cv,ho⟩:=HX.out;have Od:=ho.trans o1;have cv1:=Od.cell cv Sg;have c2:w1.cell? (nb,2)=some (.slice (g2,o2) x.ag.length vc):=Od.cell (HB.out.cell 2 _ rfl) hne;have P2:=Rw (b1.drew) (12+16*j) (504-(12+16*j)) (cap-(12+16*j)) (by omega) (by omega) (by omega) (by omega) vx;rw[show aI (UK.kY vx)++aI (UK.l8 vx)=b64 vx from rfl,ha2,cO,<-hsn]at P2;have Yt:=zH P2;have Yu:=zH Od;clear DF HX P2 ha2 hw2 hsn cv ho b1 o1 Od ck
  go_wp2_with fail
  have i1:(j:Int)<(x.ag.length:Int):=by omega
  have i2:(12:Int)+16*j<=504:=by omega
  have i3:¬(cap=12+16*j):=by omega
  have i4:(12+16*(j:Int)).toNat=12+16*j:=by omega
  have i5:(0:Int)<=12+16*(j:Int):=by omega
  have n1:IntKind.i64.wrap (16*(j:Int))=16*(j:Int):=by rw[dJ];omega
  have n2:IntKind.i64.wrap (12+16*(j:Int))=12+16*(j:Int):=by rw[dJ];omega
  go_still_tail 12,(by kernel_rfl)
  change wpList _ _ _ _ _ w1.drew
  go_wp2_with fail
  refine Yt.out.mono ?_;rintro e w2 ⟨rfl,b2,Yv⟩;have HF:=zH (zA b2 (Yu.out.drew.trans Yv));clear Yt Yu b2 Yv c2 cv1;go_wp2;go_roundw
  case rel=>exact⟨j+1,by go_num,by omega,HF.out.1,HF.out.2⟩
  case measure=>simp[intOf];omega
 obtain rfl:j=x.ag.length:=by omega
 rw[fH,<-hv,fH]at hb;go_wp2;refine bodyPost_ret (results_none rfl _ _ _) rfl ?_;refine⟨rfl,?_,ho⟩;unfold pM;rw[Rv.out];exact hb
def qz(y:List UInt8)(o:Nat):UInt64:=UK.sS (dI ((y.drop o).take 4)) (dI ((y.drop (o+4)).take 4))
def oM(y:List UInt8)(n:Nat):List UInt64:=(List.range n).map λ i=>qz y (4+16*i)
def q9(y:List UInt8)(n:Nat):List UInt64:=(List.range n).map λ i=>qz y (12+16*i)
theorem Ay(y:List UInt8)(n:Nat):(oM y n).length=n:=by simp[oM]
theorem DC(y:List UInt8)(n:Nat):(q9 y n).length=n:=by simp[q9]
theorem xru(y:List UInt8)(n:Nat):oM y (n+1)=oM y n++[qz y (4+16*n)]:=by simp[oM,List.range_succ]
theorem xrv(y:List UInt8)(n:Nat):q9 y (n+1)=q9 y n++[qz y (12+16*n)]:=by simp[q9,List.range_succ]
def NR(W:World)(ao:Option Addr)(c:Nat)(vs:List Value):Prop:=(ao=none/\vs=[]/\c=0)\/∃g,ao=some ⟨g,0,none⟩/\Row W g c vs
structure aU(N:Nat)(W:World)(nb:Nat)(x:Nd)(ka va aa:Option Addr)(kc vc ac:Nat):Prop where
 box:ay W nb #[.bool x.leaf,.slice ka x.ag.length kc,.slice va x.vals.length vc,.slice aa x.ax.length ac]
 k:NR W ka kc (az x.ag)
 v:NR W va vc (az x.vals)
 a:NR W aa ac (ints x.ax)
 ge:N<=nb
 new:∀g,aK ka g\/aK va g\/aK aa g->N<=g/\g≠nb
 kv:∀g,aK ka g->¬aK va g
 ka:∀g,aK ka g->¬aK aa g
 va:∀g,aK va g->¬aK aa g
section
variable{W W':World}{N nb kc vc ac:Nat}{ka va aa:Option Addr}{x:Nd}
theorem NR.nil:NR W none 0 []:=.inl ⟨rfl,rfl,rfl⟩
theorem NR.lt{ao:Option Addr}{c:Nat}{vs:List Value}(h:NR W ao c vs){g:Nat}(hg:aK ao g):g<W.heap.size:=by
 rcases h with⟨h,_⟩|⟨b,h,r⟩
 ·rw[aK,h]at hg;cases hg
 rw[h]at hg;rw[gz hg];exact r.lt
theorem NR.ae{ao:Option Addr}{c:Nat}{vs:List Value}(h:NR W ao c vs)(hs:W.heap.size<=W'.heap.size)(hb:∀g,aK ao g->W'.heap[g]?=W.heap[g]?):NR W' ao c vs:=by
 rcases h with h|⟨b,h,r⟩
 ·exact .inl h
 exact .inr ⟨b,h,r.ae hs (hb b h)⟩
theorem NR.only{ao:Option Addr}{c B:Nat}{vs:List Value}(h:NR W ao c vs)(ho:Only B W W')(hn:¬aK ao B):NR W' ao c vs:=h.ae ho.size (λ g hg=>ho.block g (h.lt hg) (λ e=>hn (e▸hg)))
theorem aU.ae(h:aU N W nb x ka va aa kc vc ac)(hs:W.heap.size<=W'.heap.size)(hb:∀g,N<=g->g<W.heap.size->W'.heap[g]?=W.heap[g]?):aU N W' nb x ka va aa kc vc ac:=
 ⟨h.box.ae (hb nb h.ge h.box.lt),h.k.ae hs (λ g hg=>hb g (h.new g (.inl hg)).1 (h.k.lt hg)),h.v.ae hs (λ g hg=>hb g (h.new g (.inr (.inl hg))).1 (h.v.lt hg)),h.a.ae hs (λ g hg=>hb g (h.new g (.inr (.inr hg))).1 (h.a.lt hg)),h.ge,h.new,h.kv,h.ka,h.va⟩
theorem aU.next(h:aU N W nb x ka va aa kc vc ac)(hb:Below W W W'):aU N W' nb x ka va aa kc vc ac:=h.ae hb.size (λ g _ hg=>hb.block g hg)
theorem aU.KO(h:aU N W nb x ka va aa kc vc ac){g' c':Nat}{w1:World}{l:List UInt64}(r:Row w1 g' c' (az l))(o:Only g' W w1)(hg:aK ka g'\/W.heap.size<=g')(hN:N<=W.heap.size) :
  aU N (w1.setCell (nb,1) (.slice g' l.length c')) nb {x with ag:=l} g' va aa c' vc ac/\Below N W (w1.setCell (nb,1) (.slice g' l.length c'))/\ay w1 nb #[.bool x.leaf,.slice ka x.ag.length kc,.slice va x.vals.length vc,.slice aa x.ax.length ac]:=by
 have hgn:N<=g'/\g'≠nb:=by
  rcases hg with h1|h1
  ·exact h.new g' (.inl h1)
  have:=h.box.lt;omega
 have hx1:¬aK va g':=by
  rcases hg with h1|h1
  ·exact h.kv g' h1
  exact λ e=>by have:=h.v.lt e;omega
 have hx2:¬aK aa g':=by
  rcases hg with h1|h1
  ·exact h.ka g' h1
  exact λ e=>by have:=h.a.lt e;omega
 have hb1:=h.box.only o hgn.2.symm;have o2:=(Only.refl nb w1).set 1 (.slice g' l.length c');have hb2:=hb1.set 1 (.slice g' l.length c');have ob:Below N W (w1.setCell (nb,1) (.slice g' l.length c')):=(o.below hN hgn.1).trans (o2.below (aP hN o.size) h.ge);generalize w1.setCell (nb,1) (.slice g' l.length c')=w2 at o2 hb2 ob ⊢;refine⟨⟨?_,.inr ⟨g',rfl,r.only o2 hgn.2⟩,(h.v.only o hx1).only o2 (λ e=>(h.new nb (.inr (.inl e))).2 rfl),(h.a.only o hx2).only o2 (λ e=>(h.new nb (.inr (.inr e))).2 rfl),h.ge,λ j hj=>?_,λ j hj e=>hx1 (gz hj▸e),λ j hj e=>hx2 (gz hj▸e),h.va⟩,ob,hb1⟩
 ·simpa using hb2
 rcases hj with hj|hj|hj
 ·rw[gz hj];exact hgn
 ·exact h.new j (.inr (.inl hj))
 exact h.new j (.inr (.inr hj))
theorem aU.Si(h:aU N W nb x ka va aa kc vc ac){g' c':Nat}{w1:World}{l:List UInt64}(r:Row w1 g' c' (az l))(o:Only g' W w1)(hg:aK va g'\/W.heap.size<=g')(hN:N<=W.heap.size) :
  aU N (w1.setCell (nb,2) (.slice g' l.length c')) nb {x with vals:=l} ka g' aa kc c' ac/\Below N W (w1.setCell (nb,2) (.slice g' l.length c'))/\ay w1 nb #[.bool x.leaf,.slice ka x.ag.length kc,.slice va x.vals.length vc,.slice aa x.ax.length ac]:=by
 have hgn:N<=g'/\g'≠nb:=by
  rcases hg with h1|h1
  ·exact h.new g' (.inr (.inl h1))
  have:=h.box.lt;omega
 have hx1:¬aK ka g':=by
  rcases hg with h1|h1
  ·exact λ e=>h.kv g' e h1
  exact λ e=>by have:=h.k.lt e;omega
 have hx2:¬aK aa g':=by
  rcases hg with h1|h1
  ·exact h.va g' h1
  exact λ e=>by have:=h.a.lt e;omega
 have hb1:=h.box.only o hgn.2.symm;have o2:=(Only.refl nb w1).set 2 (.slice g' l.length c');have hb2:=hb1.set 2 (.slice g' l.length c');have ob:Below N W (w1.setCell (nb,2) (.slice g' l.length c')):=(o.below hN hgn.1).trans (o2.below (aP hN o.size) h.ge);generalize w1.setCell (nb,2) (.slice g' l.length c')=w2 at o2 hb2 ob ⊢;refine⟨⟨?_,(h.k.only o hx1).only o2 (λ e=>(h.new nb (.inl e)).2 rfl),.inr ⟨g',rfl,r.only o2 hgn.2⟩,(h.a.only o hx2).only o2 (λ e=>(h.new nb (.inr (.inr e))).2 rfl),h.ge,λ j hj=>?_,λ j hj e=>hx1 (gz e▸hj),h.ka,λ j hj e=>hx2 (gz hj▸e)⟩,ob,hb1⟩
 ·simpa using hb2
 rcases hj with hj|hj|hj
 ·exact h.new j (.inl hj)
 ·rw[gz hj];exact hgn
 exact h.new j (.inr (.inr hj))
theorem aU.R4(h:aU N W nb x ka va aa kc vc ac){g' c':Nat}{w1:World}{l:List Nat}(r:Row w1 g' c' (ints l))(o:Only g' W w1)(hg:aK aa g'\/W.heap.size<=g')(hN:N<=W.heap.size) :
  aU N (w1.setCell (nb,3) (.slice g' l.length c')) nb {x with ax:=l} ka va g' kc vc c'/\Below N W (w1.setCell (nb,3) (.slice g' l.length c'))/\ay w1 nb #[.bool x.leaf,.slice ka x.ag.length kc,.slice va x.vals.length vc,.slice aa x.ax.length ac]:=by
 have hgn:N<=g'/\g'≠nb:=by
  rcases hg with h1|h1
  ·exact h.new g' (.inr (.inr h1))
  have:=h.box.lt;omega
 have hx1:¬aK ka g':=by
  rcases hg with h1|h1
  ·exact λ e=>h.ka g' e h1
  exact λ e=>by have:=h.k.lt e;omega
 have hx2:¬aK va g':=by
  rcases hg with h1|h1
  ·exact λ e=>h.va g' e h1
  exact λ e=>by have:=h.v.lt e;omega
 have hb1:=h.box.only o hgn.2.symm;have o2:=(Only.refl nb w1).set 3 (.slice g' l.length c');have hb2:=hb1.set 3 (.slice g' l.length c');have ob:Below N W (w1.setCell (nb,3) (.slice g' l.length c')):=(o.below hN hgn.1).trans (o2.below (aP hN o.size) h.ge);generalize w1.setCell (nb,3) (.slice g' l.length c')=w2 at o2 hb2 ob ⊢;refine⟨⟨?_,(h.k.only o hx1).only o2 (λ e=>(h.new nb (.inl e)).2 rfl),(h.v.only o hx2).only o2 (λ e=>(h.new nb (.inr (.inl e))).2 rfl),.inr ⟨g',rfl,r.only o2 hgn.2⟩,h.ge,λ j hj=>?_,h.kv,λ j hj e=>hx1 (gz e▸hj),λ j hj e=>hx2 (gz e▸hj)⟩,ob,hb1⟩
 ·simpa using hb2
 rcases hj with hj|hj|hj
 ·exact h.new j (.inl hj)
 ·exact h.new j (.inr (.inl hj))
 rw[gz hj];exact hgn
theorem CY{ao:Option Addr}{c:Nat}{l:List UInt64}(h:NR W ao c (az l))(hl:l.length<1000000)(v:UInt64) :
  ∃g' c' W',(Builtin.append_ #[88,88] 88 #[.slice ao l.length c,.slice W 1 1]).run Tryz.prog (W.alloc (.cells #[.int .u64 (v.toNat:Int)] 77))= .ok (.slice (some ⟨g',0,none⟩) (l.length+1) c') W'/\Row W' g' c' (az (l++[v]))/\Only g' W W'/\(aK ao g'\/W.heap.size<=g'):=by
 have aD:(az l).length=l.length:=dA l;obtain⟨g',c',W',e,r,o,hg⟩:=UK.Gf (P:=Tryz.prog) (t:=88) (ty:=88) Tryz.underlying88 (i:=Tryz.t77) rfl rfl rfl (show(8:Nat)<=16 by omega) rfl h (.int .u64 (v.toNat:Int)) rfl (by rw[aD];omega);rw[aD]at e;exact⟨g',c',W',e,by unfold az at *;rw[dO];exact r,o,hg⟩
end
theorem UK.aG{P:Program}{t tx ty:TypeId}{sv xv v':Value}{w w':World}(hr:(Builtin.append_ #[t,tx] ty #[sv,xv]).run P w= .ok v' w'){ops:Array Oper}{o:Oper}{a:Act}{K:Act->World->Prop}{Q:Exit->Act->World->Prop}{E:Prop}{s x:Operand}
  (hg:o.guard=none) (hop:o.op=Op.call {callee:=Callee.builtin Builtin.append,args:= #[s,x],argTypes:= #[t,tx]}) (hty:o.type=ty) (hs:a.eval s=sv) (hx:a.eval x=xv) (hK:K (a.put o.dst v') w') :
  if Region.wanted o (yielded ops a.tmps)=true then Oper.wp P o a w K Q else E:=by
 have hw:Region.wanted o (yielded ops a.tmps)=true:=by simp[Region.wanted,hg]
 rw[if_pos hw];subst hty;unfold Oper.wp;simp[execOp,hop,resolve,invoke,builtin,hs,hx,hr,Result.andThen];exact hK
theorem X4{W:World}{db cap n:Nat}{y:List UInt8}(hy:aF W db y)(hyl:y.length=cap)(hc:504<=cap)(h0:nth y 0=1)(h1:(nth y 1).toNat=n)(hn:n<=30) :
  Calls Tryz.prog 207 #[.slice db 504 cap] W λ e w'=>∃nb ka va kc vc,e= .returned (.tuple #[.pointer (some ⟨nb,0,none⟩),.int .i64 0])/\aU W w' nb {leaf:=true,ag:=oM y n,vals:=q9 y n,ax:=[]} ka va none kc vc 0/\Below W W w':=by
 have d0:=hy.cell (i:=0) (by omega);have d1:=hy.cell (i:=1) (by omega);rw[h0]at d0;rw[show((nth y 1).toNat:Int)=n by omega]at d1;replace d0:W.cell? db=some (.int .u8 1):=d0;have hdl:db<W.heap.size:=hy.lt;have hbx:=ay.new W #[.bool true,.slice none 0 0,.slice none 0 0,.slice none 0 0] 212
 have hn0:aU W (W.alloc (.cells #[.bool true,.slice none 0 0,.slice none 0 0,.slice none 0 0] 212)) W {leaf:=true,ag:=oM y 0,vals:=q9 y 0,ax:=[]} none none none 0 0 0:=
  ⟨hbx,NR.nil,NR.nil,NR.nil,aO _,λ g hg=>(by rcases hg with h|h|h<;>cases h),λ g h=>(by cases h),λ g h=>(by cases h),λ g h=>(by cases h)⟩
 have hb0:Below W W (W.alloc (.cells #[.bool true,.slice none 0 0,.slice none 0 0,.slice none 0 0] 212)):=(aV _ _).alloc (aO _) _;have Lj:(n:Int)<=30:=by omega
 have aau:decide ((n:Int)<=30)=true:=decide_eq_true Lj;clear hbx Lj
 go_enter Tryz.func207,Tryz.ntmps207
 go_wp2_with fail
 go_loopw [26] (λ ix wr=>∃(j:Nat) (ka va:Option Addr) (kc vc:Nat),ix= .int .i64 j/\j<=n/\aU W wr W {leaf:=true,ag:=oM y j,vals:=q9 y j,ax:=[]} ka va none kc vc 0/\Below W W wr) (λ ix _=>31-(intOf ix).toNat)
 case atStart=>exact⟨0,none,none,0,0,rfl,aY _,hn0,hb0⟩
 clear hn0 hb0 d0 d1;obtain⟨j,ka,va,kc,vc,rfl,hj,hno,hbl⟩:=hrel;by_cases hlt:j<n
 ·have DJ:=hy.below hbl hdl;have hN:=hbl.size;have c1:wr.cell? (W.heap.size,1)=some (.slice ka j kc):=by rw[hno.box.cell 1 _ rfl];show some (Value.slice ka (oM y j).length kc)=_;rw[Ay]
  have g1:Calls Tryz.prog 202 #[.slice (db,4+16*j) (504-(4+16*j)) (cap-(4+16*j))] wr.drew λ e w'=>e= .returned (.int .u64 ((qz y (4+16*j)).toNat:Int))/\∃m,w'=wr.drew.drewN m:=R5 (DJ.drew) (4+16*j) (504-(4+16*j)) (cap-(4+16*j)) (by omega) (by omega) (by omega);have c1a:∀x o,((wr.drewN x).alloc o).cell? (W.heap.size,1)=some (.slice ka j kc):=λ x o=>by rw[((hno.box.ae (W':=wr.drewN x) rfl).alloc o).cell 1 _ rfl];show some (Value.slice ka (oM y j).length kc)=_;rw[Ay]
  have G1:=zH g1
  have hap:∀m,∃p:Nat×Nat×World,(Builtin.append_ #[88,88] 88 #[.slice ka j kc,.slice wr 1 1]).run Tryz.prog ((wr.drewN m).alloc (.cells #[.int .u64 ((qz y (4+16*j)).toNat:Int)] 77))= .ok (.slice p.1 (j+1) p.2.1) p.2.2/\p.2.2.cell? (W.heap.size,1)=some (.slice ka j kc)/\p.2.2.frozen? ⟨W.heap.size,1,none⟩=false /\
    aU W (p.2.2.setCell (W.heap.size,1) (.slice p.1 (j+1) p.2.1)) W {leaf:=true,ag:=oM y (j+1),vals:=q9 y j,ax:=[]} p.1 va none p.2.1 vc 0/\Below W W (p.2.2.setCell (W.heap.size,1) (.slice p.1 (j+1) p.2.1)):=λ m=>by
   have oO:=hno.next (W':=wr.drewN m) (UK.dK (aV _ _) m);obtain⟨g',c',w',e,r,o,hg⟩:=CY oO.k (by rw[Ay];omega) (qz y (4+16*j));rw[Ay]at e;obtain⟨q1,q2,q3⟩:=oO.KO r o hg hN;rw[<-xru,Ay]at q1 q2;refine⟨(g',c',w'),e,?_,q3.free 1,q1,(hbl.trans (UK.dK (aV _ _) m)).trans q2⟩;rw[q3.cell 1 _ rfl];show some (Value.slice ka (oM y j).length kc)=_;rw[Ay]
  obtain⟨G,hG⟩:=Classical.skolem.1 hap;have HG:=zH hG;have cG:=λ m=>(hG m).2.1;have fG:=λ m=>(hG m).2.2.1;clear hap hG g1;have n1:IntKind.i64.wrap (16*(j:Int))=16*(j:Int):=by rw[dJ];omega
  have n2:IntKind.i64.wrap (4+16*(j:Int))=4+16*(j:Int):=by rw[dJ];omega
  have i2:(4:Int)+16*j<=504:=by omega
  have i3:¬(cap=4+16*j):=by omega
  have i4:(4+16*(j:Int)).toNat=4+16*j:=by omega
  have i5:(0:Int)<=4+16*(j:Int):=by omega
  go_upto_region 7 with(fail)
  go_cut [] (λ wx=>∃(sP:Option Addr) (Oe:Nat),aU W wx W {leaf:=true,ag:=oM y (j+1),vals:=q9 y j,ax:=[]} sP va none Oe vc 0/\Below W W wx)
  case first=>
   go_region_law (first|(refine UK.aG (HG.out _).1 rfl rfl rfl (by simp[Act.eval]) (by simp[Act.eval]) ?_)|(go_simp;go_at_call 202;refine G1.out.mono ?_;rintro e w2 ⟨rfl,m,rfl⟩))
   all_goals
    go_wp2_with fail
    go_meet
    case rel=>exact⟨_,_,(HG.out _).2.2.2.1,(HG.out _).2.2.2.2⟩
  clear G1 HG cG fG c1 c1a hno hbl DJ hN;obtain⟨sP,Oe,hno,hbl⟩:=hcut;have DJ:=hy.below hbl hdl;have hN:=hbl.size;have hc2:∀w1,ay w1 W #[.bool true,.slice sP (oM y (j+1)).length Oe,.slice va (q9 y j).length vc,.slice none 0 0]->w1.cell? (W.heap.size,2)=some (.slice va j vc):=λ w1 hb=>(hb.cell 2 _ rfl).trans (by rw[DC];rfl);have c2:=hc2 _ hno.box;have c2a:∀x o,((wc.drewN x).alloc o).cell? (W.heap.size,2)=some (.slice va j vc):=λ x o=>hc2 _ ((hno.box.ae (W':=wc.drewN x) rfl).alloc o);have g1:Calls Tryz.prog 202 #[.slice (db,12+16*j) (504-(12+16*j)) (cap-(12+16*j))] wc.drew λ e w'=>e= .returned (.int .u64 ((qz y (12+16*j)).toNat:Int))/\∃m,w'=wc.drew.drewN m:=R5 (DJ.drew) (12+16*j) (504-(12+16*j)) (cap-(12+16*j)) (by omega) (by omega) (by omega);have G1:=zH g1
  have hap:∀m,∃p:Nat×Nat×World,(Builtin.append_ #[88,88] 88 #[.slice va j vc,.slice wc 1 1]).run Tryz.prog ((wc.drewN m).alloc (.cells #[.int .u64 ((qz y (12+16*j)).toNat:Int)] 77))= .ok (.slice p.1 (j+1) p.2.1) p.2.2/\p.2.2.cell? (W.heap.size,2)=some (.slice va j vc)/\p.2.2.frozen? ⟨W.heap.size,2,none⟩=false /\
    aU W (p.2.2.setCell (W.heap.size,2) (.slice p.1 (j+1) p.2.1)) W {leaf:=true,ag:=oM y (j+1),vals:=q9 y (j+1),ax:=[]} sP p.1 none Oe p.2.1 0/\Below W W (p.2.2.setCell (W.heap.size,2) (.slice p.1 (j+1) p.2.1)):=λ m=>by
   have oO:=hno.next (W':=wc.drewN m) (UK.dK (aV _ _) m);obtain⟨g',c',w',e,r,o,hg⟩:=CY oO.v (by rw[DC];omega) (qz y (12+16*j));rw[DC]at e;obtain⟨q1,q2,q3⟩:=oO.Si r o hg hN;rw[<-xrv,DC]at q1 q2;exact⟨(g',c',w'),e,hc2 _ q3,q3.free 2,q1,(hbl.trans (UK.dK (aV _ _) m)).trans q2⟩
  obtain⟨G,hG⟩:=Classical.skolem.1 hap;have HG:=zH hG;have cG:=λ m=>(hG m).2.1;have fG:=λ m=>(hG m).2.2.1;clear hap hG g1 hc2 i2 i3 i4 i5 n2;have n2:IntKind.i64.wrap (12+16*(j:Int))=12+16*(j:Int):=by rw[dJ];omega
  have i2:(12:Int)+16*j<=504:=by omega
  have i3:¬(cap=12+16*j):=by omega
  have i4:(12+16*(j:Int)).toNat=12+16*j:=by omega
  have i5:(0:Int)<=12+16*(j:Int):=by omega
  go_wp2_with fail
  go_region_law (first|(refine UK.aG (HG.out _).1 rfl rfl rfl (by simp[Act.eval]) (by simp[Act.eval]) ?_)|(go_simp;go_at_call 202;refine G1.out.mono ?_;rintro e w2 ⟨rfl,m,rfl⟩))
  all_goals
   go_wp2;go_roundw
   case rel=>exact⟨j+1,_,_,_,_,by go_num,by omega,(HG.out _).2.2.2.1,(HG.out _).2.2.2.2⟩
   case measure=>simp[intOf];omega
 obtain rfl:j=n:=by omega
 go_wp2;go_ret2
 exact⟨W.heap.size,ka,va,kc,vc,rfl,hno,hbl⟩
end Go.Proofs.YtgpmiliahonaoaaGreatDoor
