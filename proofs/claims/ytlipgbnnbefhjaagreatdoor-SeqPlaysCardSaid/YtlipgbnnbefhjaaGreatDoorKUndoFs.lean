/- Facts on rows of numbers on pages. -/
import Derived.Test.YtlipgbnnbefhjaaGreatDoorKWrapKitc
import Derived.Test.YtlipgbnnbefhjaaGreatDoorShelf
set_option maxRecDepth 100000
set_option maxHeartbeats 8000000
set_option linter.unusedSimpArgs false
namespace Go.Proofs.YtlipgbnnbefhjaaGreatDoor
open Go.RowKit
open UK (str aO nth Only w32 Row)
open Go.BigFrame
namespace Kept
variable{S T:Nat->Prop}{A B C:World}
end Kept
section
variable{S:Nat->Prop}{W W':World}{D aj:Nat}{d:Dk}
/- the calls -/
theorem xzk(h:DD S W D d aj) :
  Calls Tryz.prog 14 #[.pointer D] W λ e w'=>e= .returned (.int .i64 (d.ax-aj+d.free.length))/\∃q,w'=W.drewN q:=by
 have f:=h.fit;obtain⟨⟨own,ho,B,bc,fo,fc,I,ic,y,hd⟩,ft⟩:=h;exact JP hd f
end
open Go.RowKit
open UK (str aO nth Only Row aI)
section
variable{S E E':Nat->Prop}{W W' w w':World}{P D Q T k k' c d rb:Nat}{A B:AP}{X Y:List UInt64}{ao bo:Option Addr}{op:Bool}{av:Array Value}
def U4(S:Nat->Prop)(W w':World)(rb:Nat)(av:Array Value)(P D Q T:Nat)(ao:Option Addr)(c:Nat)(X:List UInt64)(bo:Option Addr)(d:Nat)(Y:List UInt64)(op:Bool)(K:Nat)(R:Int->AP->Prop)(e:Ending):Prop:=
 ∃(er:Int) (B:AP),e= .returned (.int .i64 er)/\nk S w' rb av P D Q T ao c X bo d Y op B K/\Kept S W w'/\R er B
end
namespace AP
variable{A A0 B X:AP}{o:AO}
structure ll(A0 C:AP):Prop where
 op:C.op=none
 good:C.Good
 has:∀p,C.Has p↔A0.Has p
 c:∀p,A0.Has p->C.c p=A0.c p
 ay:C.ay=A0.ay
 ax:C.ax=A0.ax
theorem xj8:∀(l m:List Nat),l.Nodup->(∀x,x∈l->x∈m)->l.length<=m.length
 | [],m,_,_=>bY _
 | a::l,m,h,hs=>by
  obtain⟨h1,h2⟩:=dL.1 h;have ha:=hs a (gZ ..);have:=xj8 l (m.erase a) h2 (λ x hx=>(List.mem_erase_of_ne (show x≠a from λ e=>h1 (e▸hx))).2 (hs x (eu _ hx)));rw[List.length_erase_of_mem ha]at this;have hm:0<m.length:=List.length_pos_of_mem ha;rw[dw];omega
theorem qP{l:List Int}{n:Nat}(hn:l.Nodup)(h:∀g,g∈l->∃m:Nat,g=m/\m<n):l.length<=n:=by
 have h1:(l.map Int.toNat).Nodup:=by
  refine List.pairwise_map.2 (List.Pairwise.imp_of_mem (λ {a b} ha hb hne e=>?_) hn);obtain⟨m,rfl,_⟩:=h a ha;obtain⟨k,rfl,_⟩:=h b hb;exact hne (by have e:m=k:=e;rw[e])
 have h3:=xj8 (l.map Int.toNat) (List.range n) h1 (λ x hx=>by
  obtain⟨g,hg,rfl⟩:=gT.1 hx;obtain⟨m,rfl,hm⟩:=h g hg;rw[rq];simpa using hm)
 rw[kg,List.length_range]at h3;exact h3
theorem Since.Ej(h:Since A0 B o){g:Int}(hg:g∈o.made):∃m:Nat,g=m/\1<=m/\m<B.aj:=by
 obtain⟨m,rfl,_⟩:=h.made g hg;have:=(h.has m).2 (.inr hg);exact⟨m,rfl,this.1,this.2.1⟩
theorem Since.BB(h:Since A0 B o):o.made.length<=60000:=by
 have h1:=qP h.eY (λ g hg=>(h.Ej hg).imp λ m ⟨a,_,b⟩=>⟨a,b⟩);have:=h.good.ax;have:=h.good.few;omega
end AP
open Go.RowKit
open UK (str aO nth Only Row aI jR ol)
open Go.BigFrame
section
variable{E:Nat->Prop}{W W':World}{P D FB M aj k n:Nat}{kp:Int}{q:Pl}{d d':Dk}{c:Nat->List UInt8}{A B:AP}{o:AO}
theorem PD.Nz(h:PD E W P D FB M q d aj)(ho:Only P W W')(hb:aI W' P (pF D FB q.ag.length M q.hand q.ak none)) :
  PD (λ j=>E j\/jJ q.op j) W' P D FB M {ag:=q.ag,hand:=q.hand,ak:=q.ak,op:=none} d aj/\Kept (λ j=>E j\/jJ q.op j) W W':=by
 have hp:=h.pool;have hEl:=λ j (hj:E j)=>h.dd.there j (.inl hj);have hOl:=λ j (hj:jJ q.op j)=>hp.lt (.inr (.inr (.inr (.inl hj))));have hEP:∀j,E j->j≠P:=λ j hj e=>h.far j hj (.inl e);obtain⟨h1,_⟩:=h.uC (op':=none) ho.os ho.tape ho.output ho.size hb (λ x hx=>by cases hx) (λ j hj=>absurd hj id) (λ j hj hn _=>ho.block j hj hn);refine⟨⟨h1.pool,?_,λ j hj hn=>?_⟩,⟨ho.os,ho.tape,ho.output,ho.size,λ j hj=>?_⟩⟩
 ·refine h.dd.over (R:=λ j=>j=P) (λ j hj=>.inr (.inl hj)) (λ e=>?_) ho.size (λ j hj hn=>ho.block j hj hn) (λ j hj=>.inl ?_)
  ·exact hp.tab P (.inl rfl) e
  rcases hj with(hj|hj)|hj
  ·exact .inl hj
  ·exact .inr (.inr (.inr (.inr (.inl hj))))
  rcases hj with hj|hj|hj|hj|hj
  ·exact .inr (.inl hj)
  ·exact .inr (.inr (.inl hj))
  ·exact .inr (.inr (.inr (.inl hj)))
  ·exact absurd hj id
  exact .inr (.inr (.inr (.inr (.inr hj))))
 ·rcases hj with hj|hj
  ·refine h.far j hj ?_;rcases hn with hn|hn|hn|hn|hn
   ·exact .inl hn
   ·exact .inr (.inl hn)
   ·exact .inr (.inr (.inl hn))
   ·exact absurd hn id
   exact .inr (.inr (.inr (.inr hn)))
  obtain⟨a,b,e⟩:=hp.iU j hj;rcases hn with hn|hn|hn|hn|⟨i,f,hi,hn⟩
  ·exact a hn
  ·exact b hn
  ·exact e hn
  ·exact hn
  exact hp.nD i f j hi hn hj
 rcases hj with hj|hj
 ·exact ho.block j (hEl j hj) (hEP j hj)
 exact ho.block j (hOl j hj) (hp.iU j hj).1
theorem xys(h:PS E W P D FB M n kp q d aj k c) :
  Calls Tryz.prog 67 #[.pointer P] W λ e w'=>e= .returned (.tuple #[])/\PS (λ j=>E j\/jJ q.op j) w' P D FB M n kp {ag:=q.ag,hand:=q.hand,ak:=q.ak,op:=none} d aj k c/\Kept (λ j=>E j\/jJ q.op j) W w':=by
 have hx:=h.pd.pool.box;have hf:=hx.free;have c5:=hx.cell 5 _ rfl;have c6:=hx.cell 6 _ rfl;have c7:=hx.cell 7 _ rfl;have c8:=hx.cell 8 _ rfl;have hb:=((((hx.set 5 (.bool false)).set 6 (.map none)).set 7 (.slice none 0 0)).set 8 (.slice none 0 0));have ho:Only P W _:=(((((Only.refl P W).set 5 (.bool false)).set 6 (.map none)).set 7 (.slice none 0 0)).set 8 (.slice none 0 0));have HX:=zH (zA h (zA hb ho));generalize yg q.op=x5 at c5;generalize uA q.op=x6 at c6;generalize Gb q.op=x7 at c7;generalize IX q.op=x8 at c8;clear h hx hb ho
 go_enter Tryz.func67,Tryz.ntmps67
 go_wp2_with fail
 go_end0
 obtain⟨h,hb,ho⟩:=HX.out;obtain⟨p4,k4⟩:=h.pd.Nz ho hb;exact⟨rfl,⟨p4,⟨h.ok.ak,h.ok.pos,h.ok.hand,h.ok.few⟩,h.kL,h.held,h.ak,h.len,h.calm.same _ _ _,λ x hx=>by cases hx⟩,k4⟩
theorem xo4(h:PZ E W P D A k)(ho:A.op≠none) :
  Calls Tryz.prog 29 #[.pointer P] W λ e w'=>e= .returned (.int .i64 14)/\w'=W:=by
 obtain⟨FB,M,n,q,d,h1,hn,his⟩:=h
 have c5:W.cell? (P,5)=some (.bool true):=by
  rw[h1.pd.pool.box.cell 5 _ rfl];have:=his.op
  cases hq:q.op with
  | none=>rw[hq]at this;exact absurd this.symm ho
  | some x=>rfl
 clear h1 his
 go_enter Tryz.func29,Tryz.ntmps29
 go_wp2;go_ret
 exact⟨rfl,rfl⟩
theorem xyt(h:PZ E W P D A k)(ho:A.op=none) :
  Calls Tryz.prog 29 #[.pointer P] W λ e w'=>e= .returned (.int .i64 0)/\PZ E w' P D A.begun k/\Kept E W w':=by
 obtain⟨FB,M,n,q,d,h1,hn,his⟩:=h
 have hq:q.op=none:=by
  have:=his.op
  cases hq:q.op with
  | none=>rfl
  | some x=>rw[hq,ho]at this;cases this
 have hx:=h1.pd.pool.box;have hf:=hx.free;have c5:W.cell? (P,5)=some (.bool false):=by rw[hx.cell 5 _ rfl,hq];rfl
 have c6:W.cell? (P,6)=some (.map none):=by rw[hx.cell 6 _ rfl,hq];rfl
 have c7:W.cell? (P,7)=some (.slice none 0 0):=by rw[hx.cell 7 _ rfl,hq];rfl
 have c8:W.cell? (P,8)=some (.slice none 0 0):=by rw[hx.cell 8 _ rfl,hq];rfl
 have zY:P<W.heap.size:=hx.lt;have hmm:∀w:World,(Instr.makeMap 85 none).run Tryz.prog w= .ok (.map (some w)) (w.alloc (.map #[] 0)):=run_makeMap _;have HX:=zH (zA h1 (zA hn his));clear h1 hx his
 go_enter Tryz.func29,Tryz.ntmps29
 go_wp2_with fail
 go_ret;obtain⟨h1,hn,his⟩:=HX.out;have hx:=h1.pd.pool.box;have hb0:=((((hx.set 5 (.bool true)).set 6 (.map (some W))).set 7 (.slice none 0 0)).set 8 (.slice none 0 0));have ho0:Only P W _:=(((((Only.refl P W).set 5 (.bool true)).set 6 (.map (some W))).set 7 (.slice none 0 0)).set 8 (.slice none 0 0));have hs0:((((W.setCell (P,5) (.bool true)).setCell (P,6) (.map (some W))).setCell (P,7) (.slice none 0 0)).setCell (P,8) (.slice none 0 0)).heap.size=W.heap.size:=by simp
 generalize (((W.setCell (P,5) (.bool true)).setCell (P,6) (.map (some W))).setCell (P,7) (.slice none 0 0)).setCell (P,8) (.slice none 0 0)=w4 at hb0 ho0 hs0 ⊢;have hm:=ol.new (P:=Tryz.prog) (K:=3) (E:=9) w4;rw[hs0]at hm;have hb4:=hb0.alloc (.map #[] 0);have N7:=ho0.alloc (.map #[] 0)
 obtain⟨p4,k4⟩:=h1.pd.uC (W':=w4.alloc (.map #[] 0)) (op':=some {wb:=W.heap.size,was:=λ _=>none,wn:=0,mo:=none,mc:=0,made:=[],go:=none,gc:=0,gone:=[]}) N7.os N7.tape N7.output N7.size (by rw[hq]at hb4;exact hb4)
  (λ y hy=>by
   cases hy
   exact⟨hm,.inl ⟨rfl,rfl,rfl⟩,.inl ⟨rfl,rfl,rfl⟩,(λ h=>by cases h),(λ h=>by cases h),(λ j h=>by cases h),(λ p h=>absurd h List.not_mem_nil),(λ p h=>absurd h List.not_mem_nil),bY _,bY _,bY _⟩)
  (λ j hj=>by
   rcases hj with hj|hj|hj
   ·exact .inr (by rw[hj];exact aZ _)
   ·cases hj
   cases hj)
  (λ j hj hn _=>N7.block j hj hn)
 have s4:=h1.op (λ y hy=>by cases hy;exact⟨bY _,bY _,bY _⟩) p4;exact⟨rfl,⟨FB,M,n,_,d,s4,hn,⟨his.free,his.ax,rfl⟩⟩,k4⟩
end
section
variable{E:Nat->Prop}{W W':World}{P D FB M aj k n:Nat}{A B:AP}{o:AO}
theorem xv0(h:PZ E W P D B k)(ho:B.op=some o) :
  ∃x:jQ,(o.was=x.was/\o.made=x.made/\o.gone=x.gone)/\Kt W x/\W.cell? (P,5)=some (.bool true)/\W.cell? (P,6)=some (.map (some x.wb))/\W.cell? (P,7)=some (.slice x.mo x.made.length x.mc)/\W.cell? (P,8)=some (.slice x.go x.gone.length x.gc) /\
   Calls Tryz.prog 67 #[.pointer P] W λ e w'=>e= .returned (.tuple #[])/\PZ (λ j=>E j\/jJ (some x) j) w' P D B.jl k/\Kept (λ j=>E j\/jJ (some x) j) W w':=by
 obtain⟨FB,M,n,q,d,h1,hn,his⟩:=h;have hop:=his.op
 cases hq:q.op with
 | none=>rw[hq,ho]at hop;cases hop
 | some x=>
  rw[hq,ho]at hop;have e:=bC hop;have hx:=h1.pd.pool.box;have hE:=xys h1;rw[hq]at hE hx;refine⟨x,by rw[<-e];exact⟨rfl,rfl,rfl⟩,h1.pd.pool.op x hq,hx.cell 5 _ rfl,hx.cell 6 _ rfl,hx.cell 7 _ rfl,hx.cell 8 _ rfl,hE.mono ?_⟩;rintro e w' ⟨a,s,kk⟩;exact⟨a,⟨FB,M,n,_,d,s,hn,⟨his.free,his.ax,rfl⟩⟩,kk⟩
structure Done(B C:AP):Prop where
 op:C.op=none
 good:C.Good
 has:∀p,C.Has p↔B.Has p
 c:∀p,C.c p=B.c p
 ax:C.ax=B.ax
 ay:B.ay<=C.ay
theorem xnt(h:PZ E W P D A k)(ho:A.op=none) :
  Calls Tryz.prog 30 #[.pointer P] W λ e w'=>e= .returned (.int .i64 14)/\w'=W:=by
 obtain⟨FB,M,n,q,d,h1,hn,his⟩:=h
 have c5:W.cell? (P,5)=some (.bool false):=by
  rw[h1.pd.pool.box.cell 5 _ rfl];have:=his.op
  cases hq:q.op with
  | none=>rfl
  | some x=>rw[hq,ho]at this;cases this
 clear h1 his
 go_enter Tryz.func30,Tryz.ntmps30
 go_wp2;go_ret
 exact⟨rfl,rfl⟩
theorem ib.BC{W:World}{ao:Option Addr}{c:Nat}{l:List Int}(h:ib W ao c l):l.length<=c:=by
 rcases h with⟨_,rfl,rfl⟩|⟨g,e,r⟩
 ·exact aZ _
 have:=r.le;unfold zX at this;rw[kg]at this;exact this
theorem xnu{l:List Int}{i:Nat}{x:Int}(h:l[i]?=some x):l.take (i+1)=l.take i++[x]:=by rw[ow,h];rfl
theorem xnv{l:List Int}(hn:l.Nodup){i:Nat}{x:Int}(h:l[i]?=some x):x∉l.take i:=by
 have h1:=(gm i l).symm;rw[h1]at hn;have h2:x∈l.drop i:=fe (i:=0) (by rw[iC];exact h);exact λ hm=>(bF.1 hn).2.2 x hm x h2 rfl
theorem xv1(h:PZ E W P D B k)(ho:B.op=some o)(g:B.Good)(hk:k+60000<900000000) :
  Calls Tryz.prog 30 #[.pointer P] W λ e w'=>e= .returned (.int .i64 0)/\∃C,PZ E w' P D C (k+60000)/\Done B C/\Kept E W w':=by
 obtain⟨x,⟨_,_,eg⟩,hop,c5,_,_,c8,hend⟩:=xv0 h ho;have hgl:B.bU=x.gone:=by unfold AP.bU;rw[ho];exact eg
 have hnd:x.gone.Nodup:=by rw[<-hgl];exact g.pu
 have hin:∀y,y∈x.gone->∃m:Nat,y=m/\B.In m:=λ y hy=>by
  rw[<-hgl]at hy;exact g.gone y hy
 have aJ:x.gone.length<=60000:=by
  have h1:=AP.qP (n:=B.aj) hnd (λ y hy=>(hin y hy).imp λ m ⟨a,b⟩=>⟨a,b.2.1⟩);have:=g.ax;have:=g.few;omega
 have hle:=hop.gone.BC;have HE:=zH hend;have HG:=zH (Given.start g);have HS:=zH hop.gone;have HN:=zH (zA hnd (zA hin (zA hgl g)));have hgc:=hop.gone;clear h hop hend hnd hin eg hgl HS;have HS:=zH hgc;generalize hxg:x.go=xg at c8 HS;have HO:=zH (λ j (hj:aK xg j)=>(show jJ (some x) j from .inr (.inr (by rw[hxg];exact hj))));clear hxg hgc
 go_enter Tryz.func30,Tryz.ntmps30
 go_wp2_with fail
 refine HE.out.mono ?_;rintro e w2 ⟨rfl,p2,k2⟩;have H2:=zH (zA p2 (zA (HS.out.kept k2 (λ j hj=>.inr (HO.out j hj))) k2));clear HE p2 k2 c5 c8
 go_wp2_with fail
 go_loopw [20] (λ iv wr=>∃i:Nat,iv= .int .i64 i/\i<=x.gone.length/\∃C,PZ (λ j=>E j\/jJ (some x) j) wr P D C (k+i)/\Given B C (x.gone.take i)/\ib wr xg x.gc x.gone/\Kept (λ j=>E j\/jJ (some x) j) W wr) (λ iv _=>60001-(Go.RowKit.intOf iv).toNat)
 case atStart=>exact⟨0,rfl,bY _,_,H2.out.1,HG.out,H2.out.2.1,H2.out.2.2⟩
 clear H2 HG;obtain⟨i,rfl,hi,C,hz,hg,hs,hkk⟩:=hrel;by_cases hlt:i<x.gone.length
 ·obtain⟨y,hy⟩:∃y,x.gone[i]?=some y:=⟨_,di hlt⟩;obtain⟨hnd,hin,_,_⟩:=HN.out;obtain⟨m,rfl,hm⟩:=hin y (fe hy);obtain⟨hh,hg2⟩:=hg.step hm (xnv hnd hy);rw[<-xnu hy]at hg2;obtain⟨gb,rfl,hc⟩:=hs.at_ hy;have HP:=zH (IW hz (by omega) m hh);have HX:=zH (zA hg2 (zA hs hkk));have hil:(i:Int)<(x.gone.length:Int):=by omega
  clear hz hg hs hkk hnd hin hh hg2 hm hy
  go_wp2_with fail
  refine HP.out.mono ?_;rintro e w3 ⟨rfl,p3,k3⟩;obtain⟨hg2,hs,hkk⟩:=HX.out;have HR:Hid (PZ (λ j=>E j\/jJ (some x) j) w3 P D (C.give m) (k+(i+1))/\Given B (C.give m) (x.gone.take (i+1))/\ib w3 gb x.gc x.gone/\Kept (λ j=>E j\/jJ (some x) j) W w3):=⟨p3,hg2,hs.kept k3 (λ j hj=>.inr (HO.out j hj)),hkk.trans k3⟩;clear HP HX p3 k3 hg2 hs hkk hc
  go_wp2_with fail
  go_roundw
  case rel=>exact⟨i+1,by go_num,by omega,_,HR.out⟩
  case measure=>simp[Go.RowKit.intOf];omega
 have hge:¬(i:Int)<(x.gone.length:Int):=by omega
 have HR:=zH (zA hz (zA hg hkk));clear hz hg hs hkk;go_wp2;go_ret;obtain⟨hz,hg,hkk⟩:=HR.out;obtain⟨_,_,hgl,g⟩:=HN.out;rw[eZ (by omega)]at hg;refine⟨rfl,C,(hz.less (λ j hj=>.inl hj)).up (by omega),⟨hg.op,hg.good,λ p=>?_,hg.c,hg.ax,by rw[hg.ay];exact Nat.le_add_right _ _⟩,hkk.mono (λ j hj=>.inl hj)⟩;rw[hg.has,<-hgl];unfold AP.Has AP.In;exact⟨λ ⟨⟨a,b,c⟩,d⟩=>⟨a,b,c,d⟩,λ ⟨a,b,c,d⟩=>⟨⟨a,b,c⟩,d⟩⟩
end
open UK (str aO nth Only Row aI)
section
variable{S:Nat->Prop}{W W':World}{P D Q T k c d:Nat}{A:AP}{X Y:List UInt64}{ao bo:Option Addr}{op:Bool}
theorem xro{ii nn tt:Int}{iu:UInt64}(h:jg S W P D Q T ao c X bo d Y A k)(hS:∀j,S j->j<W.heap.size)(_hk:k+400000<900000000)(hop:op=true↔A.op≠none) :
  Calls Tryz.prog 7 #[.agg (dV P Q ao X.length c bo Y.length d op),.agg (kK 4 ii nn tt iu)] W λ e w'=>tT S W w' P D (k+400000) (λ A' X' Y' op'=>X'=X/\op'=true/\(op=false->A'=A.begun/\Y'=X)/\(op=true->A'=A/\Y'=Y)) e:=by
 have ug:=zH hop;clear hop;obtain⟨hb,hbel⟩:=h.boxed (op:=op) 4 ii nn tt iu;have a0:=hb.act.c0;have a1:=hb.act.c2;obtain⟨n,hn⟩:∃n,n=uW nn:=⟨_,rfl⟩;obtain⟨lM,hne⟩:=Cn nn;rw[<-hn]at lM hne;have HE:=zH hne;have Be:=zH hn;have HB:=zH (zA hb hbel);have HJ:=zH hS;generalize hW3:((W.alloc (.cells (dV P Q ao X.length c bo Y.length d op) 29)).alloc (.cells (kK 4 ii nn tt iu) 34)).alloc (.cells pQ 29)=w3 at HB a0 a1;have HW3:=zH hW3;rw[<-hW3]at a0 a1;clear h hb hbel hS hn hW3 hne
 go_enter Tryz.func7,Tryz.ntmps7
 go_upto_region 1 with(fail)
 go_cut [6] (λ nv wx=>nv= .int .i64 (n:Int)/\wx=w3)
 case first=>
  go_wp2_with fail
  go_meet
  case rel=>exact⟨by rw[HE.out],HW3.out⟩
 case rest=>
 obtain⟨rfl,rfl⟩:=hcut;clear a0 a1;have a0:=HB.out.1.act.c0;have hrb:=HB.out.1;have hkp:Kept S W wc:=Kept.of_below HB.out.2 HJ.out;have hth:=hrb.rm.sq.pz.there;have bd:Below wc wc wc.drew:=(aP _ _).drew
 have hC:Calls Tryz.prog 29 #[.pointer P] wc.drew λ e w'=>U4 S W w' W (kK 4 ii nn tt iu) P D Q T ao c X bo d Y op k (λ er B=>(op=false->er=0/\B=A.begun)/\(op=true->er=14/\B=A)) e:=by
  have td:=hrb.rm.sq.next bd;have hrd:=hrb.next (td) (Kept.of_below bd hth);have hkd:=hkp.trans (Kept.of_below bd (λ j hj=>hth j (.inl (.inl hj))))
  cases nP:op with
  | false=>
   have ho:A.op=none:=Classical.byContradiction (λ hn=>by have:=ug.out.2 hn;rw[nP]at this;cases this);refine(xyt td.pz ho).mono ?_;rintro e w2 ⟨rfl,p2,k2⟩;rw[nP]at hrd;exact⟨0,A.begun,rfl,hrd.next (td.step p2 k2) k2,hkd.trans (k2.mono (λ j hj=>.inl (.inl hj))),λ _=>⟨rfl,rfl⟩,(λ h=>by cases h)⟩
  | true=>
   have ho:A.op≠none:=ug.out.1 nP;refine(xo4 td.pz ho).mono ?_;rintro e w2 ⟨rfl,rfl⟩;rw[nP]at hrd;exact⟨14,A,rfl,hrd,hkd,(λ h=>by cases h),λ _=>⟨rfl,rfl⟩⟩
 have HC:=zH hC;have hS1:wc.drew.cell? W.heap.size=some (.pointer P)/\wc.drew.cell? (W.heap.size,4)=some (.bool op):=⟨hrb.box.cell 0 _ rfl,hrb.box.cell 4 _ rfl⟩;clear hC hrb hkp hth bd HE HW3
 go_wp2_with fail
 go_upto_region 28 with(fail)
 go_cut [145] (λ bv wx=>bv= .bool false/\∃B,nk S wx W (kK 4 ii nn tt iu) P D Q T ao c X bo d Y op B k/\Kept S W wx/\(op=false->B=A.begun)/\(op=true->B=A))
 case first=>
  refine wp_region_any (by kernel_rfl) ?_;refine zT 0 ?_;refine zT 4 ?_;refine zV (w:=wc.drew) (λ w'=>w'.cell? W.heap.size=some (.pointer P)/\w'.cell? (W.heap.size,4)=some (.bool op)) 99 (by exact hS1) λ hS0=>?_;refine zU 1 hS0 ?_;refine zU 5 hS0 ?_;clear hS0;refine zL 2 λ K hK=>?_;go_simp;refine HC.out.mono ?_;rintro e w2 ⟨er,B,rfl,hrb,hkp,hq⟩
  (try dsimp only)
  refine zK hK ?_ (λ _=>⟨hrb.box.cell 0 _ rfl,hrb.box.cell 4 _ rfl⟩);refine zM 3 ?_ (λ _=>⟨hrb.box.cell 0 _ rfl,hrb.box.cell 4 _ rfl⟩);refine zM 6 ?_ (λ _=>⟨hrb.box.cell 0 _ rfl,hrb.box.cell 4 _ rfl⟩);refine iR (by kernel_rfl) ?_ _
  go_wp2_with fail
  go_meet;refine⟨?_,B,hrb,hkp,λ h=>(hq.1 h).2,λ h=>(hq.2 h).2⟩
  cases op with
  | false=>rw[(hq.1 rfl).1];rfl
  | true=>rw[(hq.2 rfl).1];rfl
 obtain⟨rfl,B,hrb,hkp,q1,q2⟩:=hcut;have c2:=hrb.box.c2;have c3:=hrb.box.c3;have c4:=hrb.box.c4;have f2:=hrb.box.free 2;have f3:=hrb.box.free 3;have f4:=hrb.box.free 4;clear HC hS1
 cases op with
 | false=>
  obtain rfl:=q1 rfl;clear q1 q2;have o:Only W wc ((wc.setCell (W.heap.size,3) (.slice ao X.length c)).setCell (W.heap.size,4) (.bool true)):=(((Only.refl _ _).set 3 _).set 4 _)
  have bx:aI ((wc.setCell (W.heap.size,3) (.slice ao X.length c)).setCell (W.heap.size,4) (.bool true)) W (dV P Q ao X.length c ao X.length c true):=by
   have:=((hrb.box.set 3 (.slice ao X.length c)).set 4 (.bool true))
   simpa[dV]using this
  have eQ:=hrb.turn o bx hrb.rm.px hrb.rm.px (λ b hb=>.inl (hb.elim (λ h=>h) (λ h=>h)));have hk2:Kept S W ((wc.setCell (W.heap.size,3) (.slice ao X.length c)).setCell (W.heap.size,4) (.bool true)):=hkp.trans ⟨o.os,o.tape,o.output,o.size,λ j hj=>o.block j (bS (HJ.out j hj) hkp.size) (by have:=HJ.out j hj;omega)⟩;have y1:=eQ.box;have y3:=eQ.res;have n0:=y1.c0;have n1:=y1.c1;have n2:=y1.c2;have n3:=y1.c3;have n4:=y1.c4;have m0:=y3.c0;have m1:=y3.c1;have m2:=y3.c2;have m3:=y3.c3;have m4:=y3.c4;have mf:∀j,((wc.setCell (W.heap.size,3) (.slice ao X.length c)).setCell (W.heap.size,4) (.bool true)).frozen? ⟨W.heap.size+2,j,none⟩=false:=y3.free;have HD:=zH (eQ.done (R:=λ A' X' Y' op'=>X'=X/\op'=true/\A'=A.begun/\Y'=X) (show k<=k+400000 by omega) hk2 HJ.out ⟨rfl,rfl,rfl,rfl⟩);have HY:=zH y3;clear hrb hkp eQ hk2 y1 y3 o bx ug HB
  go_wp2_with fail
  refine bodyPost_ret (UK.zk rfl _ (HY.out.dJ _ _ _ _ _) rfl zg rfl zh) rfl ?_;exact HD.out
 | true=>
  obtain rfl:=q2 rfl;clear q1 q2;have o:Only W wc (wc.setCell (W.heap.size,4) (.bool true)):=((Only.refl _ _).set 4 _)
  have bx:aI (wc.setCell (W.heap.size,4) (.bool true)) W (dV P Q ao X.length c bo Y.length d true):=by
   have:=(hrb.box.set 4 (.bool true))
   simpa[dV]using this
  have eQ:=hrb.turn o bx hrb.rm.px hrb.rm.py (λ b hb=>hb);have hk2:Kept S W (wc.setCell (W.heap.size,4) (.bool true)):=hkp.trans ⟨o.os,o.tape,o.output,o.size,λ j hj=>o.block j (bS (HJ.out j hj) hkp.size) (by have:=HJ.out j hj;omega)⟩;have y1:=eQ.box;have y3:=eQ.res;have n0:=y1.c0;have n1:=y1.c1;have n2:=y1.c2;have n3:=y1.c3;have n4:=y1.c4;have m0:=y3.c0;have m1:=y3.c1;have m2:=y3.c2;have m3:=y3.c3;have m4:=y3.c4;have mf:∀j,(wc.setCell (W.heap.size,4) (.bool true)).frozen? ⟨W.heap.size+2,j,none⟩=false:=y3.free;have HD:=zH (eQ.done (R:=λ A' X' Y' op'=>X'=X/\op'=true/\A'=B/\Y'=Y) (show k<=k+400000 by omega) hk2 HJ.out ⟨rfl,rfl,rfl,rfl⟩);have HY:=zH y3;clear hrb hkp eQ hk2 y1 y3 o bx ug HB
  go_wp2_with fail
  refine bodyPost_ret (UK.zk rfl _ (HY.out.dJ _ _ _ _ _) rfl zg rfl zh) rfl ?_;exact HD.out
end
section
variable{S:Nat->Prop}{W W':World}{P D Q T k c d:Nat}{A:AP}{X Y:List UInt64}{ao bo:Option Addr}{op:Bool}
theorem xoj{ii nn tt:Int}{iu:UInt64}(h:jg S W P D Q T ao c X bo d Y A k)(hS:∀j,S j->j<W.heap.size)(hk:k+400000<900000000)(hop:op=true↔A.op≠none)(hg:A.Good) :
  Calls Tryz.prog 7 #[.agg (dV P Q ao X.length c bo Y.length d op),.agg (kK 5 ii nn tt iu)] W λ e w'=>tT S W w' P D (k+400000) (λ A' X' Y' op'=>X'=X/\Y'=Y/\op'=false/\(op=false->A'=A)/\(op=true->Done A A')) e:=by
 have ug:=zH hop;have Po:=zH hg;clear hop hg;obtain⟨hb,hbel⟩:=h.boxed (op:=op) 5 ii nn tt iu;have a0:=hb.act.c0;have a1:=hb.act.c2;obtain⟨n,hn⟩:∃n,n=uW nn:=⟨_,rfl⟩;obtain⟨lM,hne⟩:=Cn nn;rw[<-hn]at lM hne;have HE:=zH hne;have Be:=zH hn;have HB:=zH (zA hb hbel);have HJ:=zH hS;generalize hW3:((W.alloc (.cells (dV P Q ao X.length c bo Y.length d op) 29)).alloc (.cells (kK 5 ii nn tt iu) 34)).alloc (.cells pQ 29)=w3 at HB a0 a1;have HW3:=zH hW3;rw[<-hW3]at a0 a1;clear h hb hbel hS hn hW3 hne
 go_enter Tryz.func7,Tryz.ntmps7
 go_upto_region 1 with(fail)
 go_cut [6] (λ nv wx=>nv= .int .i64 (n:Int)/\wx=w3)
 case first=>
  go_wp2_with fail
  go_meet
  case rel=>exact⟨by rw[HE.out],HW3.out⟩
 case rest=>
 obtain⟨rfl,rfl⟩:=hcut;clear a0 a1;have a0:=HB.out.1.act.c0;have hrb:=HB.out.1;have hkp:Kept S W wc:=Kept.of_below HB.out.2 HJ.out;have hth:=hrb.rm.sq.pz.there;have bd:Below wc wc wc.drew:=(aP _ _).drew
 have hC:Calls Tryz.prog 30 #[.pointer P] wc.drew λ e w'=>U4 S W w' W (kK 5 ii nn tt iu) P D Q T ao c X bo d Y op (k+60000) (λ er B=>(op=false->er=14/\B=A)/\(op=true->er=0/\Done A B)) e:=by
  have td:=hrb.rm.sq.next bd;have hrd:=hrb.next (td.up (show k<=k+60000 by omega)) (Kept.of_below bd hth);have hkd:=hkp.trans (Kept.of_below bd (λ j hj=>hth j (.inl (.inl hj))))
  cases nP:op with
  | false=>
   have ho:A.op=none:=Classical.byContradiction (λ hn=>by have:=ug.out.2 hn;rw[nP]at this;cases this);refine(xnt td.pz ho).mono ?_;rintro e w2 ⟨rfl,rfl⟩;rw[nP]at hrd;exact⟨14,A,rfl,hrd,hkd,λ _=>⟨rfl,rfl⟩,(λ h=>by cases h)⟩
  | true=>
   obtain⟨o,ho⟩:=Option.ne_none_iff_exists'.1 (ug.out.1 nP);refine(xv1 td.pz ho Po.out (by omega)).mono ?_;rintro e w2 ⟨rfl,C,p2,hdn,k2⟩;rw[nP]at hrd;exact⟨0,C,rfl,hrd.next (td.step p2 k2) k2,hkd.trans (k2.mono (λ j hj=>.inl (.inl hj))),(λ h=>by cases h),λ _=>⟨rfl,hdn⟩⟩
 have HC:=zH hC;have hS1:wc.drew.cell? W.heap.size=some (.pointer P)/\wc.drew.cell? (W.heap.size,4)=some (.bool op):=⟨hrb.box.cell 0 _ rfl,hrb.box.cell 4 _ rfl⟩;clear hC hrb hkp hth bd HE HW3
 go_wp2_with fail
 go_upto_region 34 with(fail)
 go_cut [162] (λ bv wx=>bv= .bool false/\∃B,nk S wx W (kK 5 ii nn tt iu) P D Q T ao c X bo d Y op B (k+60000)/\Kept S W wx/\(op=false->B=A)/\(op=true->Done A B))
 case first=>
  refine wp_region_any (by kernel_rfl) ?_;refine zT 0 ?_;refine zT 4 ?_;refine zV (w:=wc.drew) (λ w'=>w'.cell? W.heap.size=some (.pointer P)/\w'.cell? (W.heap.size,4)=some (.bool op)) 99 (by exact hS1) λ hS0=>?_;refine zU 1 hS0 ?_;refine zU 5 hS0 ?_;clear hS0;refine zL 2 λ K hK=>?_;go_simp;refine HC.out.mono ?_;rintro e w2 ⟨er,B,rfl,hrb,hkp,hq⟩
  (try dsimp only)
  refine zK hK ?_ (λ _=>⟨hrb.box.cell 0 _ rfl,hrb.box.cell 4 _ rfl⟩);refine zM 3 ?_ (λ _=>⟨hrb.box.cell 0 _ rfl,hrb.box.cell 4 _ rfl⟩);refine zM 6 ?_ (λ _=>⟨hrb.box.cell 0 _ rfl,hrb.box.cell 4 _ rfl⟩);refine iR (by kernel_rfl) ?_ _
  go_wp2_with fail
  go_meet;refine⟨?_,B,hrb,hkp,λ h=>(hq.1 h).2,λ h=>(hq.2 h).2⟩
  cases op with
  | false=>rw[(hq.1 rfl).1];rfl
  | true=>rw[(hq.2 rfl).1];rfl
 obtain⟨rfl,B,hrb,hkp,q1,q2⟩:=hcut;have c2:=hrb.box.c2;have c3:=hrb.box.c3;have c4:=hrb.box.c4;have f2:=hrb.box.free 2;have f3:=hrb.box.free 3;have f4:=hrb.box.free 4;clear HC hS1
 cases op with
 | false=>
  obtain rfl:=q1 rfl;clear q1 q2;have o:Only W wc (wc.setCell (W.heap.size,4) (.bool false)):=((Only.refl _ _).set 4 _)
  have bx:aI (wc.setCell (W.heap.size,4) (.bool false)) W (dV P Q ao X.length c bo Y.length d false):=by
   have:=(hrb.box.set 4 (.bool false))
   simpa[dV]using this
  have eQ:=hrb.turn o bx hrb.rm.px hrb.rm.py (λ b hb=>hb);have hk2:Kept S W (wc.setCell (W.heap.size,4) (.bool false)):=hkp.trans ⟨o.os,o.tape,o.output,o.size,λ j hj=>o.block j (bS (HJ.out j hj) hkp.size) (by have:=HJ.out j hj;omega)⟩;have y1:=eQ.box;have y3:=eQ.res;have n0:=y1.c0;have n1:=y1.c1;have n2:=y1.c2;have n3:=y1.c3;have n4:=y1.c4;have m0:=y3.c0;have m1:=y3.c1;have m2:=y3.c2;have m3:=y3.c3;have m4:=y3.c4;have mf:∀j,(wc.setCell (W.heap.size,4) (.bool false)).frozen? ⟨W.heap.size+2,j,none⟩=false:=y3.free;have HD:=zH (eQ.done (R:=λ A' X' Y' op'=>X'=X/\Y'=Y/\op'=false/\A'=B) (show k+60000<=k+400000 by omega) hk2 HJ.out ⟨rfl,rfl,rfl,rfl⟩);have HY:=zH y3;clear hrb hkp eQ hk2 y1 y3 o bx ug HB
  go_wp2_with fail
  refine bodyPost_ret (UK.zk rfl _ (HY.out.dJ _ _ _ _ _) rfl zg rfl zh) rfl ?_;exact HD.out
 | true=>
  have hdn:=q2 rfl;clear q1 q2;have o:Only W wc (wc.setCell (W.heap.size,4) (.bool false)):=((Only.refl _ _).set 4 _)
  have bx:aI (wc.setCell (W.heap.size,4) (.bool false)) W (dV P Q ao X.length c bo Y.length d false):=by
   have:=(hrb.box.set 4 (.bool false))
   simpa[dV]using this
  have eQ:=hrb.turn o bx hrb.rm.px hrb.rm.py (λ b hb=>hb);have hk2:Kept S W (wc.setCell (W.heap.size,4) (.bool false)):=hkp.trans ⟨o.os,o.tape,o.output,o.size,λ j hj=>o.block j (bS (HJ.out j hj) hkp.size) (by have:=HJ.out j hj;omega)⟩;have y1:=eQ.box;have y3:=eQ.res;have n0:=y1.c0;have n1:=y1.c1;have n2:=y1.c2;have n3:=y1.c3;have n4:=y1.c4;have m0:=y3.c0;have m1:=y3.c1;have m2:=y3.c2;have m3:=y3.c3;have m4:=y3.c4;have mf:∀j,(wc.setCell (W.heap.size,4) (.bool false)).frozen? ⟨W.heap.size+2,j,none⟩=false:=y3.free;have HD:=zH (eQ.done (R:=λ A' X' Y' op'=>X'=X/\Y'=Y/\op'=false/\Done A A') (show k+60000<=k+400000 by omega) hk2 HJ.out ⟨rfl,rfl,rfl,hdn⟩);have HY:=zH y3;clear hrb hkp eQ hk2 y1 y3 o bx ug HB
  go_wp2_with fail
  refine bodyPost_ret (UK.zk rfl _ (HY.out.dJ _ _ _ _ _) rfl zg rfl zh) rfl ?_;exact HD.out
end
theorem UK.vD{P:Program}{α:Type}{g:Operand}{ps:Array Tmp}{assign body:Code}{Q:Exit->Act->World->Prop}{a:Act}{w:World}{n gf:Nat}{lb:Array Value}
  (hg:a.eval g= .func (.func gf) #[] lb) (eg:∀args w,(callFunc gf args).run P w= .ok (.enter gf args) w)
  (enc:α->Array Value) (hps:∀x,(enc x).size=ps.size) (zs:List α) (I:List α->World->Prop)
  (h0:∀o,I [] ((w.alloc (.deferred (some []))).alloc o))
  (hput:∀pre W o,I pre W->w.heap.size+1<W.heap.size->I pre (W.putObj (w.heap.size+1) o)) (a₁:α->Act)
  (hassign:∀(l:Nat) (x:α) (W:World) (K:Act->World->Prop),K (a₁ x) W ->
   assign.wpIn (Fence.wide.inRound l) n P (Exit.then K (λ _ _ _=>False)) {tmps:=(ps.zip (enc x)).foldl (λ t (p,v)=>t.setIfInBounds p v) a.tmps,defers:=[]} W)
  (hbody:∀(l:Nat) (pre:List α) (x:α) (W:World),I pre W->pre++[x] <+: zs ->
   body.wpIn (Fence.wide.inRound l) n P (λ e _ W'=>e= .normal/\(W'.heap[w.heap.size]?=W.heap[w.heap.size]?/\W'.heap[w.heap.size+1]?=W.heap[w.heap.size+1]?)/\I (pre++[x]) W') (a₁ x) W)
  (N8:∀(l:Nat) (J:List α->World->Prop) (W:World),(∀pre x W1,J pre W1->pre++[x] <+: zs->YieldAt Fence.wide n P l (enc x) W1 λ e W'=>e= .returned (.bool true)/\J (pre++[x]) W')->(∀pre W1,J pre W1->I pre W1)->J [] W ->
   CallsIn Fence.wide (n+1) P gf (#[.func (.yield l) #[] #[]]++lb) W λ e W'=>(∃v,e= .returned v)/\J zs W')
  (hdone:∀W,I zs W->W.heap[w.heap.size]?=some (.deferred (some []))->Q .normal {a with defers:={target:=.collected w,args:= #[]}::a.defers} W) :
  (Code.rangeFunc g ps assign body).wp P Q a w:=by
 refine(wpIn_wide (n:=n+2)).1 ?_;refine wpIn_rangeFunc ?_;intro fn hfn;obtain⟨rec,hrec⟩:∃rec:LoopState->Option Code->Loop,rec=λ st pe=>{state:=st,pending:=pe,fn,tmps:=a.tmps,params:=ps,assign,body,defers:=w.heap.size}:=⟨_,rfl⟩;obtain⟨W1,hW1⟩:∃W1,(w.alloc (.deferred (some []))).alloc (.loop (rec .ready none))=W1:=⟨_,rfl⟩
 have hL1:W1.heap[w.heap.size+1]?=some (.loop (rec .ready none)):=by
  rw[<-hW1];have:=World.alloc_heap_new (w.alloc (.deferred (some []))) (.loop (rec .ready none));rwa [World.size_alloc]at this
 have hK1:W1.heap[w.heap.size]?=some (.deferred (some [])):=by
  rw[<-hW1];exact(Below.heap_alloc _ _ _ (by simp)).trans (World.alloc_heap_new w _)
 have hI1:I [] W1:=by rw[<-hW1];exact h0 _
 refine⟨w.heap.size+1,[{target:=.collected w,args:= #[]}],W1,{target:=.fn (.func gf) lb,args:= #[.func (.yield (w.heap.size+1)) #[] #[]]},W1,gf,
  #[.func (.yield (w.heap.size+1)) #[] #[]]++lb,W1,?_,?_,?_,?_,λ h=>absurd h (by simp[Fence.wide]),?_⟩
 ·rw[<-hW1,hrec];exact run_enterLoop_outer _ _ _ _ _
 ·simp only[resolve,hg];simp[go_sem]
 ·intro f' hf';trivial
 ·simp[invoke,go_sem,eg]
 refine(N8 (w.heap.size+1) (λ pre W=>I pre W/\W.heap[w.heap.size+1]?=some (.loop (rec .ready none))/\W.heap[w.heap.size]?=some (.deferred (some []))) W1 ?_ (λ pre W h=>h.1) ⟨hI1,hL1,hK1⟩).mono ?_
 ·rintro pre x W ⟨hi,hl,hk⟩ hx;have hlt:w.heap.size+1<W.heap.size:=(su.1 hl).1;have hy:=run_yield (P:=P) (args:=enc x) hl (by rw[hrec];exact hps x);rw[hrec]at hy;refine⟨fn,_,assign,body,hy,roundIn_of_wpIn hfn (hassign _ x W _ ⟨_,run_beginRound hl (by rw[hrec]),?_⟩)⟩;have hl2:(W.putObj (w.heap.size+1) (.loop {rec .ready none with state:=.busy})).heap[w.heap.size+1]?=some (.loop {rec .ready none with state:=.busy}):=World.putObj_heap_same hlt;have hk2:(W.putObj (w.heap.size+1) (.loop {rec .ready none with state:=.busy})).heap[w.heap.size]?=some (.deferred (some [])):=(World.putObj_heap_other (by omega)).trans hk;refine wpIn_mono (hbody _ pre x _ (hput _ _ _ hi hlt) hx) ?_;rintro e a3 W3 ⟨rfl,⟨hb1,hb2⟩,hi3⟩;have hl3:=hb2.trans hl2;have hk3:=hb1.trans hk2;have hlt3:w.heap.size+1<W3.heap.size:=(su.1 hl3).1;have hr:=run_endRound (P:=P) none hl3;refine⟨_,_,hr,rfl,hput _ _ _ hi3 hlt3,?_,(World.putObj_heap_other (by omega)).trans hk3⟩;rw[World.putObj_heap_same hlt3,hrec];rfl
 rintro e W2 ⟨⟨v,rfl⟩,hi,hl,hk⟩;have hlt:w.heap.size+1<W2.heap.size:=(su.1 hl).1;exact⟨none,_,by have:=run_endLoop (P:=P) hl (by rw[hrec];simp);rw[hrec]at this;exact this,hdone _ (hput _ _ _ hi hlt) ((World.putObj_heap_other (by omega)).trans hk)⟩
def uj(zs:List Int):List (Int×Int):=(List.range zs.length).map λ k=>(((zs.length-1-k:Nat):Int),zs.getD (zs.length-1-k) 0)
theorem VM(zs:List Int):(uj zs).length=zs.length:=by simp[uj]
theorem xv2(zs:List Int)(k:Nat)(hk:k<zs.length):(uj zs)[k]?=some (((zs.length-1-k:Nat):Int),zs.getD (zs.length-1-k) 0):=by
 unfold uj;rw[dW,List.getElem?_range hk];rfl
theorem xsc(zs:List Int)(k:Nat)(hk:k<zs.length):(uj zs).take (k+1)=(uj zs).take k++[(((zs.length-1-k:Nat):Int),zs.getD (zs.length-1-k) 0)]:=by
 rw[ow,xv2 zs k hk];rfl
abbrev I1(x:Int×Int):Array Value:= #[.int .i64 x.1,.int .i64 x.2]
attribute [local go_sem] Oper.semAt_some
theorem yar(n l Bs:Nat)(ao:Option Addr)(c:Nat)(zs:List Int)(hz:zs.length<=1000000000)(J:List (Int×Int)->World->Prop)(W:World)
  (hY:∀pre x W1,J pre W1->pre++[x] <+: uj zs->YieldAt Fence.wide n Tryz.prog l (I1 x) W1 λ e W'=>e= .returned (.bool true)/\J (pre++[x]) W')
  (hJ:∀pre W1,J pre W1->W1.cell? Bs=some (.slice ao zs.length c)/\∀j,j<zs.length->∃g,ao=some ⟨g,0,none⟩/\W1.cell? ⟨g,j,none⟩=some (.int .i64 (zs.getD j 0)))
  (h0:J [] W) :
  CallsIn Fence.wide (n+1) Tryz.prog 113 (#[.func (.yield l) #[] #[]]++ #[.pointer Bs]) W λ e W'=>(∃v,e= .returned v)/\J (uj zs) W':=by
 refine callsIn_of_wp Tryz.func113 rfl trivial ?_ rfl;simp only[Tryz.ntmps113,List.size_toArray,dw,List.length_nil,Nat.reduceAdd,Nat.reduceSub,Array.replicate_succ,Array.replicate_zero,List.push_toArray,List.append_toArray,gH,jA];have hb:=(hJ [] W h0).1
 gi_wp2
 gi_loopw [3] (λ iv wr=>∃m:Nat,m<=zs.length/\iv= .int .i64 ((m:Int)-1)/\J ((uj zs).take (zs.length-m)) wr) (λ iv _=>((Go.RowKit.intOf iv)+1).toNat)
 case atStart=>exact⟨zs.length,aZ _,rfl,by rw[iF];exact h0⟩
 clear hb;obtain⟨m,hm,rfl,hj⟩:=hrel;rcases m with _|m
 ·rw[show(((0:Nat):Int)-1)= -1 from by omega];rw[Nat.sub_zero,<-VM,mi]at hj
  gi_wp2
  go_end0
  exact⟨⟨_,rfl⟩,hj⟩
 rw[show(((m+1:Nat):Int)-1)=(m:Int)from by omega];have hk:zs.length-(m+1)<zs.length:=by omega
 have hsn:=xsc zs (zs.length-(m+1)) hk;rw[show zs.length-1-(zs.length-(m+1))=m by omega,show zs.length-(m+1)+1=zs.length-m by omega]at hsn;obtain⟨fn,tmps,assign,body,hy,hR⟩:=hY _ ((m:Int),zs.getD m 0) wr hj (by rw[<-hsn];exact List.take_prefix _ _);obtain⟨hc1,hc2⟩:=hJ _ wr hj;obtain⟨g,rfl,hc3⟩:=hc2 m (by omega);dsimp only[I1]at hy;simp only[fK]at hy hc3;rw[<-hsn]at hR;have o7:(m:Int)<(zs.length:Int):=by omega
 have HR:=zH hR;clear hsn hR hc2 hj
 gi_wp2
 refine HR.out.mono ?_;rintro e W3 ⟨rfl,hJ3⟩;have H3:=zH hJ3;clear hJ3 HR hy hc1 hc3
 gi_wp2
 go_roundw
 case rel=>exact⟨m,by omega,rfl,H3.out⟩
 case measure=>simp[Go.RowKit.intOf]
open Go.RowKit Go.Maps Go.Sort Go.Shelf
open UK (str aO nth Only Row aI ol)
theorem UK.ol.VN{P:Program}{K E t:TypeId}{W:World}{M n c:Nat}{f:Int->Option (List UInt8)}(h:ol P K E W M n f c)(hK:P.underlying K=some (.int .i64))(hE:P.underlying E=some .string)(ht:P.underlying t=some (.map K E))(hz:∀w,(zeroValue E).run P w= .ok (.string (str [])) w)(k:Int)(hk:(Lit.int .i64 k).wf=true) :
  (Instr.lookup t (.map (some M)) (.int .i64 k) false).run P W= .ok (.string (str ((f k).getD []))) W:=by
 obtain⟨D,h,hh,ha,_⟩:=h;obtain⟨v,ps,hrun,hv⟩:=h.lookup (Maps.int_keyed hK) ht (hz W) (plainElem_string hE (by simp[UK.gL])) (Maps.keyOf_int_mk hK hk);obtain⟨s,rfl,hc,_⟩:=plainElem_string_inv hE hv;simp only[Prod.mk.injEq]at hc;rw[hrun,UK.xqh s];have hc1:=hc.1
 cases hf:f k with
 | none=>
  have h1:Maps.has D (.int .i64 k)=false:=by rw[hh k,hf];rfl
  rw[Maps.atKey_of_not_has h1]at hc1;simp only[DataW.lit.injEq,Lit.string.injEq]at hc1;rw[<-hc1];rfl
 | some b=>
  rw[UK.nS]at hc1;rw[ha k b hf]at hc1;simp only[DataW.lit.injEq,Lit.string.injEq]at hc1;rw[<-hc1];rfl
theorem xyu(m:Nat):AnyZI.SortsIn Tryz.prog Tryz.sortedA_ren Fence.wide m:=
 ⟨λ blk off cap ss W hH hblk hsz=>callsIn_wide.2 (AnyM.slices_Sort_int Tryz.sortA blk off cap ss W hH hblk hsz),
  λ p cap W=>callsIn_wide.2 (AnyM.slices_Sort_int_none Tryz.sortA p cap W)⟩
theorem yas(mb:Option Nat)(W:World) :
  Calls Tryz.prog 70 #[.map mb] W λ e w'=>e= .returned (.func (.func 112) #[] #[.pointer W])/\w'=W.alloc (.cells #[.map mb] 85):=
 (callsIn_wide (n:=6)).1 (AnyZI.keys_in Tryz.keysA Fence.wide 6 trivial rfl mb W)
theorem xsd{H:Type}{w:World}{R:Value->Option (DataW H×List MemPlace)}{P:Program}{k:TypeId}{b n:Nat}{D:DataW H}(hown:w.ownsMap P k R b n D)(K:Keyed P k)(hk:P.underlying k=some (.int .i64)):(intKeys D).Nodup/\∀x,x∈intKeys D↔Maps.has D (.int .i64 x)=true:=by
 obtain⟨es,hD,hpw,_⟩:=hown.entries K;obtain⟨es',hD',hko⟩:=hown.keysOf;obtain rfl:es=es':=by rw[hD]at hD';simpa using hD'
 subst hD;have hk2:∀p∈es,∃x,p.1= .int .i64 x:=λ p hp=>by obtain⟨v,hv⟩:=hko p hp;obtain⟨x,_,hx,_⟩:=Maps.keyOf_i64 hk hv;exact⟨x,hx⟩
 constructor
 ·show(es.map λ p=>Go.intOf p.1).Nodup;refine List.pairwise_map.2 (hpw.imp_of_mem λ {p q} hp' hq' hne e=>hne ?_);obtain⟨a,ha⟩:=hk2 p hp';obtain⟨b,hb⟩:=hk2 q hq';rw[ha,hb]at e ⊢;exact congrArg _ e
 intro x;rw[has_eq,List.any_eq_true];show x∈es.map (λ p=>Go.intOf p.1)↔_;rw[gT]
 constructor
 ·rintro⟨p,hp',rfl⟩;obtain⟨a,ha⟩:=hk2 p hp';exact⟨p,hp',by rw[ha];simp[Lit.sameKey,Go.intOf]⟩
 rintro⟨p,hp',hs⟩;obtain⟨a,ha⟩:=hk2 p hp';rw[ha]at hs;exact⟨p,hp',by rw[ha];simpa[Lit.sameKey,Go.intOf]using hs⟩
def yb7(W w':World)(f:Int->Option (List UInt8))(c:Nat)(e:Ending):Prop:=
 ∃(ao:Option Addr) (cc:Nat) (ks:List Int),e= .returned (.slice ao ks.length cc)/\ks.Nodup/\(∀x,x∈ks↔(f x).isSome=true)/\ks.length=c/\(∀x,x∈ks->(Lit.int .i64 x).wf=true) /\
  (∀(j:Nat) (x:Int),ks[j]?=some x->∃g,ao=some ⟨g,0,none⟩/\W.heap.size<=g/\g<w'.heap.size/\w'.cell? ⟨g,j,none⟩=some (.int .i64 x))/\Below W W w'
theorem xo5{W:World}{wb n c:Nat}{f:Int->Option (List UInt8)}(h:ol Tryz.prog 3 9 W wb n f c)(hc:c<=1000000000) :
  Calls Tryz.prog 69 #[.func (.func 112) #[] #[.pointer W]] (W.alloc (.cells #[.map (some wb)] 85)) λ e w'=>yb7 W w' f c e:=by
 obtain⟨D0,hown,hh,_,hs⟩:=h;have hbl:=hown.lt
 have hseq:SeqGives Fence.wide 2 Tryz.prog 112 #[.pointer W] encZ (λ ss=>ss.Perm (intKeys D0)) (Maps.size D0) (W.alloc (.cells #[.map (some wb)] 85)):=
  AnyZI.keys_gives (ρ:=Tryz.keysA_ren) {Tryz.keysA with} Fence.wide _ trivial rfl (by omega) W wb n D0 _ (by simp) (by simp) (by
   obtain⟨es,clock,hb,Ft,hs,hD⟩:=hown;exact⟨es,clock,(Below.heap_alloc _ _ wb hbl).trans hb,Ft,hs,hD⟩)
 have cS:=AnyZI.sorted_in Tryz.sortedA Fence.wide 5 trivial trivial trivial trivial rfl (by omega) (xyu _) (enters_of Tryz.func111 (by kernel_rfl) rfl) 112 #[.pointer W] trivial (enters_of Tryz.func112 (by kernel_rfl) rfl) _ _ (show Maps.size D0<=maxLen by rw[hs];unfold maxLen;omega) (by rw[hs];omega) _ hseq;change CallsIn _ _ Tryz.prog 69 _ _ _ at cS;refine(callsIn_wide.1 cS).mono ?_;rintro e w' ⟨v,ss,rfl,hS,hrow,hnil,hb⟩;obtain⟨bi,hn2⟩:=xsd hown (Maps.int_keyed Tryz.underlying3) Tryz.underlying3;have hp:(ss.mergeSort (λ x y=>decide (x<=y))).Perm (intKeys D0):=(List.mergeSort_perm _ _).trans hS;have aJ:(ss.mergeSort (λ x y=>decide (x<=y))).length=ss.length:=(List.mergeSort_perm _ _).length_eq;have hbW:Below W W w':=((aP _ W).alloc (aZ _) _).trans (hb.mono (by simp));have hks:∀x,x∈ss.mergeSort (λ x y=>decide (x<=y))↔(f x).isSome=true:=λ x=>by rw[hp.mem_iff,hn2,hh]
 have hkl:(ss.mergeSort (λ x y=>decide (x<=y))).length=c:=by
  rw[hp.length_eq,<-hs];obtain⟨es,rfl,_⟩:=hown.keysOf;simp[intKeys,Maps.size]
 have FK:∀x,x∈ss.mergeSort (λ x y=>decide (x<=y))->(Lit.int .i64 x).wf=true:=λ x hx=>intKeys_wf hown Tryz.underlying3 x (hp.mem_iff.1 hx);have N9:(ss.mergeSort (λ x y=>decide (x<=y))).Nodup:=hp.nodup_iff.2 bi;obtain⟨hl,hr⟩:=hrow;rcases hr with⟨rfl,h0⟩|⟨g,cap,cur,rfl,hg,hgb,hle,hcm,hsz,VO⟩
 ·refine⟨none,0,ss.mergeSort (λ x y=>decide (x<=y)),by rw[aJ,h0],N9,hks,hkl,FK,λ j x hj=>?_,hbW⟩;have:=(dn.1 hj).1;omega
 refine⟨some ⟨g,0,none⟩,cap,ss.mergeSort (λ x y=>decide (x<=y)),by rw[aJ],N9,hks,hkl,FK,λ j x hj=>⟨g,rfl,?_,?_,?_⟩,hbW⟩
 ·simp at hg;omega
 ·exact(su.1 hgb).1
 have h1:(cur.toList.take (ss.length*1))[j]?=some (encZ x):=by rw[VO,dW,hj];rfl
 rw[List.getElem?_take]at h1
 split at h1
 ·simp only[World.cell?,hgb]
  simpa using h1
 cases h1
def yat(n:Nat)(fn:Func)(R:Ending->World->Prop):Exit->Act->World->Prop
 | .ret,a,w=>LeavesInM Fence.wide n Tryz.prog fn a.tmps R a.defers .returning w
 | _,_,_=>False
theorem xv3{A:AP}(h:A.op=none)(p:Nat):A.keep p=A:=by
 unfold AP.keep;rw[h];show {A with op:=none}=A;rw[<-h]
theorem yau(y s:List UInt8)(h:s.length=504):(UK.wr y 0 s).take 504=s:=by
 unfold UK.wr;rw[jH,gH,lZ (by omega),eZ (by omega)]
theorem yav(ao:Option Addr)(l c:Nat)(W:World) :
  Calls Tryz.prog 71 #[.slice ao l c] W λ e w'=>e= .returned (.func (.func 113) #[] #[.pointer W])/\w'=W.alloc (.cells #[.slice ao l c] 73):=by
 go_enter Tryz.func71,Tryz.ntmps71
 go_wp2;go_ret
 exact⟨rfl,rfl⟩
attribute [local go_sem] Oper.semAt_some
section
variable{E:Nat->Prop}{W W':World}{P D k n:Nat}{A B A0:AP}{o:AO}
theorem PZ.xR(h:PZ E W P D A k):P<W.heap.size:=by
 obtain⟨FB,M,n,q,d,h1,_⟩:=h;exact h1.pd.pool.box.lt
theorem El{S:Nat->Prop}{a w:World}{b i:Nat}{v:Value}(h:Kept S a w)(hb:S b)(hc:a.cell? (b,i)=some v):w.cell? (b,i)=some v:=(mh (a:=⟨b,i,none⟩) (h.block b hb)).trans hc
theorem VP(zs:List Int):(uj zs).map Prod.snd=zs.reverse:=by
 refine List.ext_getElem (by simp[uj]) (λ i h1 h2=>?_);have hi:i<zs.length:=by simpa[uj]using h1
 rw[List.getElem_reverse];simp only[uj,List.getElem_map,List.getElem_range];rw[fK,di (by omega)];rfl
theorem xyv{zs:List Int}(hn:zs.Nodup){pre:List (Int×Int)}{x:Int×Int}(h:pre++[x] <+: uj zs):x.2∈zs/\x.2∉pre.map Prod.snd:=by
 obtain⟨r,hr⟩:=h;have h1:(uj zs).map Prod.snd=pre.map Prod.snd++(x.2::r.map Prod.snd):=by rw[<-hr];simp
 rw[VP]at h1;have h2:(pre.map Prod.snd++(x.2::r.map Prod.snd)).Nodup:=by rw[<-h1];exact(List.reverse_perm zs).nodup_iff.2 hn
 refine⟨List.mem_reverse.1 (by rw[h1];exact fE _ (gZ ..)),λ hm=>(bF.1 h2).2.2 _ hm _ (gZ ..) rfl⟩
theorem yaw{zs:List Int}{pre:List (Int×Int)}{x:Int×Int}(h:pre++[x] <+: uj zs):pre.length<zs.length:=by
 have:=h.length_le;rw[zl,gI,VM]at this;omega
theorem xv4{A0 B C C2:AP}{o:AO}{ks:List Int}(hs:AP.Since A0 B o)(hb:oP B C o ks)(hk:∀y,y∈ks↔(o.was y).isSome=true)(hg:Given C C2 o.made.reverse):AP.ll A0 C2:=by
 have hin:∀p,C.In p↔B.In p:=λ p=>by unfold AP.In;rw[hb.aj,hb.free]
 refine⟨hg.op,hg.good,λ p=>?_,λ p hp=>?_,?_,by rw[hg.ax,hb.ax,hs.ax]⟩
 ·rw[hg.has,hin,hs.has,List.mem_reverse]
  constructor
  ·rintro⟨a|a,b⟩
   ·exact a
   exact absurd a b
  intro hp;refine⟨.inl hp,λ hm=>?_⟩;obtain⟨m,e,hm2⟩:=hs.made _ hm;have:p=m:=by omega
  exact hm2 (this▸hp)
 ·rw[hg.c,hb.c]
  cases hw:o.was p with
  | none=>
   rw[if_neg (λ hm=>by rw[hk,hw]at hm;cases hm)];exact hs.same p hp hw
  | some s=>
   rw[if_pos ((hk _).2 (by rw[hw];rfl))];obtain⟨m,e,_,hs2⟩:=hs.was _ _ hw;have:p=m:=by omega
   subst this;exact hs2
 rw[hg.ay,List.length_reverse,<-hs.ay];unfold AP.ay;rw[hb.aj,hb.free,hb.ax]
theorem xse(h:PZ E W P D A k)(ho:A.op=none) :
  Calls Tryz.prog 31 #[.pointer P] W λ e w'=>e= .returned (.int .i64 14)/\PZ E w' P D A k/\Kept E W w':=by
 have c5:W.cell? (P,5)=some (.bool false):=by
  obtain⟨FB,M,n,q,d,h1,hn,his⟩:=h;rw[h1.pd.pool.box.cell 5 _ rfl];have:=his.op
  cases hq:q.op with
  | none=>rfl
  | some x=>rw[hq,ho]at this;cases this
 have zY:=h.xR;have a2:Below W W ((W.alloc (.cells #[.pointer P] 23)).alloc (.cells #[.int .i64 14] 35)):=((aP _ _).alloc (aZ _) _).alloc (by simp) _;have xr:=aI.new (W.alloc (.cells #[.pointer P] 23)) #[.int .i64 14] 35;rw[show(W.alloc (.cells #[.pointer P] 23)).heap.size=W.heap.size+1 by simp]at xr;have HR:=zH (zA (h.next a2) (h.kept a2));have c2:=xr.cell 0 _ rfl;clear h
 go_enter Tryz.func31,Tryz.ntmps31
 go_wp2_with fail
 generalize (W.alloc (.cells #[.pointer P] 23)).alloc (.cells #[.int .i64 14] 35)=wf at c2 HR ⊢;exact bodyPost_ret (v:=.int .i64 14) (by simp[results,Tryz.results31,go_sem,c2]) rfl ⟨rfl,HR.out⟩
theorem yax(h:PZ E W P D B k)(hs:AP.Since A0 B o)(hl:∀m,A0.Has m->(A0.c m).length=504)(hk:k+300000<900000000) :
  Calls Tryz.prog 31 #[.pointer P] W λ e w'=>e= .returned (.int .i64 0)/\∃C,PZ E w' P D C (k+300000)/\AP.ll A0 C/\Kept E W w':=by
 have zY:=h.xR;have a2:Below W W ((W.alloc (.cells #[.pointer P] 23)).alloc (.cells #[.int .i64 0] 35)):=((aP _ _).alloc (aZ _) _).alloc (by simp) _;have z2:((W.alloc (.cells #[.pointer P] 23)).alloc (.cells #[.int .i64 0] 35)).heap.size=W.heap.size+2:=by simp
 have xp:=(aI.new W #[.pointer P] 23).alloc (.cells #[.int .i64 0] 35);have xr:=aI.new (W.alloc (.cells #[.pointer P] 23)) #[.int .i64 0] 35;rw[show(W.alloc (.cells #[.pointer P] 23)).heap.size=W.heap.size+1 by simp]at xr;generalize jh:(W.alloc (.cells #[.pointer P] 23)).alloc (.cells #[.int .i64 0] 35)=wa at a2 z2 xp xr;have BM:Hid ((W.alloc (.cells #[.pointer P] 23)).alloc (.cells #[.int .i64 0] 35)=wa):=jh
 have p1:PZ (λ j=>E j\/j=W.heap.size\/j=W.heap.size+1) wa.drew P D B k:=h.wide a2.drew (λ j hj=>by
  have hsz:wa.drew.heap.size=W.heap.size+2:=z2;rcases hj with hj|hj|hj
  ·exact .inl hj
  ·exact .inr (by omega)
  exact .inr (by omega))
 have k1:Kept E W wa.drew:=h.kept a2.drew;obtain⟨x,⟨ew,em,eg⟩,hop,d5,d6,d7,d8,hend⟩:=xv0 p1 hs.op;have c5:W.cell? (P,5)=some (.bool true):=(mh (a:=⟨P,5,none⟩) (a2.drew.block P zY)).symm.trans d5;have c6:W.cell? (P,6)=some (.map (some x.wb)):=(mh (a:=⟨P,6,none⟩) (a2.drew.block P zY)).symm.trans d6;have c7:W.cell? (P,7)=some (.slice x.mo x.made.length x.mc):=(mh (a:=⟨P,7,none⟩) (a2.drew.block P zY)).symm.trans d7;have Qa:=zH h.there;have HTL:=zH h.tab.lt;have HE:=zH hend;have ug:=zH hop;have HK1:=zH k1;have HX:=zH (zA (show aI wa.drew W #[.pointer P]from xp) (show aI wa.drew (W.heap.size+1) #[.int .i64 0]from xr));have Qb:=zH (zA ew (zA em hs));have hmc:=hop.made.BC;generalize hxm:x.mo=xm at c7;have HXM:=zH hxm;clear h p1 hend hop k1 xp xr d5 d6 d7 d8 ew em eg hs a2 z2 jh hxm;refine(callsIn_wide (n:=9)).1 ?_;refine callsIn_of_wp_marks Tryz.func31 rfl trivial ?_ rfl;refine wpIn_mono (Q:=yat 9 Tryz.f31 (λ e w'=>e= .returned (.int .i64 0)/\∃C,PZ E w' P D C (k+300000)/\AP.ll A0 C/\Kept E W w')) ?_ (λ e a w hq=>by cases e<;>first|exact hq|exact hq.elim);refine wpIn_wide.2 ?_;simp only[Tryz.ntmps31,List.size_toArray,dw,List.length_nil,Nat.reduceAdd,Nat.reduceSub,Array.replicate_succ,Array.replicate_zero,List.push_toArray,List.append_toArray,gH,jA]
 go_wp2_with fail
 go_region
 go_wp2_with fail
 rw[BM.out];refine HE.out.mono ?_;rintro e w2 ⟨rfl,p2,k2⟩;have NA:=ug.out.was.af (k2.block _ (.inr (.inl rfl)));have fD:=ug.out.few.1;have HKS:=zH (xo5 NA (by omega));have HKF:=zH (yas (some x.wb) w2);have H2:=zH (zA p2 k2);clear HE p2 k2 NA c5 c6 c7
 go_wp2_with fail
 refine HKF.out.mono ?_;rintro e w3 ⟨rfl,hw3⟩;subst hw3
 go_wp2_with fail
 refine HKS.out.mono ?_;rintro e w4 ⟨ao,cc,ks,rfl,hnd,hmem,hkl,FK,hkc,b4⟩;obtain⟨p2,k2⟩:=H2.out;have p4:=p2.wide b4 (T:=λ j=>((E j\/j=W.heap.size\/j=W.heap.size+1)\/jJ (some x) j)\/(w2.heap.size<=j/\j<w4.heap.size)) (λ j hj=>hj.elim .inl .inr);have k24:=p2.kept b4;have H4:=zH (zA p4 (zA k2 k24));have HB:=zH (oP.start B o);have Qc:=zH (zA hnd (zA hmem (zA hkl (zA FK hkc))))
 have hkn:ks.length<=60000:=by
  obtain⟨ew,em,hs⟩:=Qb.out
  have h1:=AP.qP (n:=B.aj) hnd (λ y hy=>by
   obtain⟨s,hsw⟩:=Option.isSome_iff_exists.1 ((hmem y).1 hy);obtain⟨m,rfl,hm,_⟩:=hs.was y s (by rw[ew];exact hsw);exact⟨m,rfl,((hs.has m).2 (.inl hm)).2.1⟩)
  have:=hs.good.ax;have:=hs.good.few;omega
 clear HKF HKS H2 p2 k2 p4 k24 b4 hnd hmem hkl FK hkc
 go_wp2_with fail
 go_loopw [31] (λ iv wr=>∃i:Nat,iv= .int .i64 i/\i<=ks.length/\∃C,PZ (λ j=>((E j\/j=W.heap.size\/j=W.heap.size+1)\/jJ (some x) j)\/(w2.heap.size<=j/\j<w4.heap.size)) wr P D C (k+3*i)/\oP B C o (ks.take i)/\Kept (λ j=>((E j\/j=W.heap.size\/j=W.heap.size+1)\/jJ (some x) j)\/(w2.heap.size<=j/\j<w4.heap.size)) w4 wr) (λ iv _=>60001-(Go.RowKit.intOf iv).toNat)
 case atStart=>exact⟨0,rfl,bY _,_,H4.out.1,HB.out,Kept.refl _ _⟩
 obtain⟨i,rfl,hi,C,hz,hb,hk4⟩:=hrel;obtain⟨hnd,hmem,hkl,FK,hkc⟩:=Qc.out;obtain⟨_,k2,k24⟩:=H4.out;obtain⟨ew,em,hs⟩:=Qb.out;have yp:=((HX.out.1.af (k2.block _ (.inl (.inr (.inl rfl))))).af (k24.block _ (.inl (.inr (.inl rfl))))).af (hk4.block _ (.inl (.inl (.inr (.inl rfl)))));have b0:=yp.c0;by_cases hlt:i<ks.length
 ·obtain⟨y,hy⟩:∃y,ks[i]?=some y:=⟨_,di hlt⟩;obtain⟨g,rfl,hg1,hg2,hgc⟩:=hkc i y hy;have hyc:wr.cell? (g,i)=some (.int .i64 y):=El hk4 (.inr ⟨hg1,hg2⟩) hgc;have hw1:=(hmem y).1 (fe hy);obtain⟨s,hsw⟩:=Option.isSome_iff_exists.1 hw1;have hso:o.was y=some s:=by rw[ew];exact hsw
  obtain⟨m,rfl,hm,hsc⟩:=hs.was y s hso;have hin:B.In m:=(hs.has m).2 (.inl hm);have hsl:s.length=504:=by rw[hsc];exact hl m hm
  have HPI:=zH (CS hz (by omega) m ((hb.VL m).2 hin));have hil:(i:Int)<(ks.length:Int):=by omega
  have VQ:=zH (zA hz (zA hb hk4));have NB:=zH (zA hso (zA hsl hy));clear hz hb hk4 hkc hmem hnd hkl FK k2 k24 hs ew em yp hgc hw1 hm hsc hin hg1 hg2 hy
  go_wp2_with fail
  refine HPI.out.mono ?_;rintro e w5 ⟨fb,db,cap,rfl,f5,k5⟩;have VR:Below w5 w5 w5.drew:=(aP _ _).drew;have f5d:=f5.next VR;have GX:=k5.trans (f5.kept VR)
  have I4:∀w,Kept (λ j=>((E j\/j=W.heap.size\/j=W.heap.size+1)\/jJ (some x) j)\/(w2.heap.size<=j/\j<w4.heap.size)) wr w->(Instr.lookup 85 (.map (some x.wb)) (.int .i64 (m:Int)) false).run Tryz.prog w= .ok (.string (str s)) w:=λ w hk=>by
   have hm:=(((ug.out.was.af (H4.out.2.1.block _ (.inr (.inl rfl)))).af (H4.out.2.2.block _ (.inr (.inl rfl)))).af (VQ.out.2.2.block _ (.inl (.inr (.inl rfl))))).af (hk.block _ (.inl (.inr (.inl rfl))));have:=UK.ol.VN hm Tryz.underlying3 Tryz.underlying9 Tryz.underlying85 (λ w=>by kernel_rfl) (m:Int) (Qc.out.2.2.2.1 _ (fe NB.out.2.2));rw[hsw]at this;exact this
  have lk5:=I4 _ GX;have HED:=zH (BN f5d (by omega));have HWF:=zH I4;have K5:=zH GX;clear HPI f5 k5 hyc b0 f5d GX VR I4
  go_wp2_with fail
  go_region_with (first
   | (go_at_call 57;refine HED.out.mono ?_;rintro e w6 ⟨rfl,f6,k6⟩;obtain⟨yb,y1,y2,y3,y4,y5⟩:=f6.bytes;have lk6:=HWF.out w6 (K5.out.trans k6);have hcp:=UK.NE (P:=Tryz.prog) (dT:=88) (sT:=9) (ty:=3) Tryz.underlying88 (λ w=>by kernel_rfl) y1 0 504 cap s (by rw[NB.out.2.1];exact aZ _) (by rw[NB.out.2.1];omega);replace f6:=zH f6;replace k6:=zH k6;replace y1:=zH y1;replace y2:=zH y2;replace y3:=zH y3))
  all_goals
   obtain⟨hso,hsl,hy⟩:=NB.out;obtain⟨hz,hb,hk4⟩:=VQ.out;have y1':=y1.out;have y2':=y2.out;have hb6:=y1'.setCells s 0 (by rw[hsl];omega);have VS:=(Only.refl db w6).setCells (UK.cellsOf s) (o:=0);obtain⟨p7,k7⟩:=f6.out.write VS hb6 ((UK.lm _ _ _ (by rw[hsl];omega)).trans y2');rw[yau yb s hsl,xv3 hb.op]at p7;have hb2:=hb.step (s:=s) hso;rw[<-xnu hy]at hb2;generalize w6.setCells db 0 (UK.cellsOf s)=w7 at p7 k7 hcp hb6 VS ⊢;have HU:=zH (Rt p7);have D5:=zH (zA hb2 (hk4.trans ((K5.out.trans k6.out).trans k7)));clear HED HWF K5 f6 k6 y1 y2 y3 y4 y5 y1' y2' hcp hb6 VS p7 k7 hso hsl hy hz hb hk4 lk5 lk6 hb2
   go_wp2_with fail
   refine HU.out.mono ?_;rintro e w8 ⟨rfl,p8,k8⟩;have HR:Hid (PZ (λ j=>((E j\/j=W.heap.size\/j=W.heap.size+1)\/jJ (some x) j)\/(w2.heap.size<=j/\j<w4.heap.size)) w8 P D (C.put m s) (k+3*(i+1))/\oP B (C.put m s) o (ks.take (i+1))/\Kept (λ j=>((E j\/j=W.heap.size\/j=W.heap.size+1)\/jJ (some x) j)\/(w2.heap.size<=j/\j<w4.heap.size)) w4 w8):=⟨p8,D5.out.1,D5.out.2.trans k8⟩;clear HU D5 p8 k8 NB VQ
   go_wp2_with fail
   go_roundw
   case rel=>exact⟨i+1,by go_num,by omega,_,HR.out⟩
   case measure=>simp[Go.RowKit.intOf];omega
 have hge:¬(i:Int)<(ks.length:Int):=by omega
 have qV:=zH (zA hz (zA hb hk4));clear hz hb hk4 hnd hmem hkl FK hkc k2 k24 ew em hs yp
 go_wp2_with fail
 refine(yav _ _ _ _).mono ?_;rintro e w5 ⟨rfl,xD⟩;subst xD;have bq:Below wr wr (wr.alloc (.cells #[.slice xm x.made.length x.mc] 73)):=(aP _ _).alloc (aZ _) _;have sq:(wr.alloc (.cells #[.slice xm x.made.length x.mc] 73)).heap.size=wr.heap.size+1:=by simp
 have xq:=aI.new wr #[.slice xm x.made.length x.mc] 73;generalize hwq:wr.alloc (.cells #[.slice xm x.made.length x.mc] 73)=wq at bq sq xq;clear hwq
 go_wp2_with fail
 obtain⟨hz,hb,hk4⟩:=qV.out;obtain⟨ew,em,hs⟩:=Qb.out;obtain⟨_,k2,k24⟩:=H4.out
 have Qd:=hz.wide bq (T:=λ j=>(((E j\/j=W.heap.size\/j=W.heap.size+1)\/jJ (some x) j)\/(w2.heap.size<=j/\j<w4.heap.size))\/j=wr.heap.size) (λ j hj=>by
  rcases hj with hj|hj
  ·exact .inl hj
  exact .inr (by omega))
 have kq:=hz.kept bq;have HB0:=zH (El kq (.inl (.inl (.inr (.inl rfl)))) b0);have VT:=zH (xq.cell 0 _ rfl)
 have VU:=zH (λ (j:Nat) (hj:j<x.made.length)=>by
  have hy:x.made[j]?=some x.made[j]:=di hj;obtain⟨g,e,hc⟩:=ug.out.made.at_ hy;have NC:jJ (some x) g:=.inr (.inl e);have c1:=El kq (.inl (.inr NC)) (El hk4 (.inl (.inr NC)) (El k24 (.inr NC) (El k2 (.inr NC) hc)));exact(show ∃g,xm=some ⟨g,0,none⟩/\jJ (some x) g/\wq.cell? ⟨g,j,none⟩=some (.int .i64 (x.made.getD j 0))from⟨g,by rw[<-HXM.out,e],NC,by rw[fK,hy];exact c1⟩))
 have HI0:=zH (λ d o=>BF.start Qd (hb.good hs.good) hb.op d o);have VV:=zH (zA Qd.there Qd.tab.lt);have o7:x.made.length<=60000:=by rw[<-em];exact hs.BB
 have HST:=zH (λ (pre:List (Int×Int)) (y:Int×Int) (w:World) (hI:BF (λ j=>(((E j\/j=W.heap.size\/j=W.heap.size+1)\/jJ (some x) j)\/(w2.heap.size<=j/\j<w4.heap.size))\/j=wr.heap.size) wq P D C (k+3*i) pre w) (hx:pre++[y] <+: uj x.made)=>by
  obtain⟨hm1,hm2⟩:=xyv (by rw[<-em];exact hs.eY) hx;obtain⟨m,e,hmA⟩:=hs.made y.2 (by rw[em];exact hm1);have hmB:B.In m:=(hs.has m).2 (.inr (by rw[em,<-e];exact hm1));have hmC:C.In m:=by have:=hmB;unfold AP.In at this ⊢;rw[hb.aj,hb.free];exact this
  have:=hI.step (by have:=yaw hx;omega) hmC (by rw[<-e];exact hm2) y.1;rw[<-e]at this;exact this)
 have HUN:=zH (λ C2 (hg:Given C C2 x.made.reverse)=>xv4 hs (by rw[eZ (by omega)]at hb;exact hb) (λ y=>by rw[ew];exact(Qc.out.2.1 y)) (by rw[em];exact hg));have HRQ:=zH (((((HX.out.2.af (k2.block _ (.inl (.inr (.inr rfl))))).af (k24.block _ (.inl (.inr (.inr rfl))))).af (hk4.block _ (.inl (.inl (.inr (.inr rfl)))))).af (kq.block _ (.inl (.inl (.inr (.inr rfl)))))).lt);have HKW:=zH (zA k2 (zA k24 (zA hk4 kq)));clear hz hb hk4 ew em hs k2 k24 Qd kq xq bq sq b0 qV Qb H4 HB Qc HXM;refine UK.vD (n:=3) (enc:=I1) (zs:=uj x.made) (I:=BF (λ j=>(((E j\/j=W.heap.size\/j=W.heap.size+1)\/jJ (some x) j)\/(w2.heap.size<=j/\j<w4.heap.size))\/j=wr.heap.size) wq P D C (k+3*i)) (lb:= #[.pointer wr]) (gf:=113) (a₁:=?a1) rfl (enters_of Tryz.func113 (by kernel_rfl) rfl) (λ _=>rfl) ?start ?put ?assign ?body ?iter ?done
 case assign=>
  intro l y w K hK
  gi_wp2
  exact hK
 case start=>exact λ o=>HI0.out _ o
 case put=>exact λ pre w o h hl=>h.put VV.out.1 VV.out.2 (.inr rfl) o
 case iter=>
  intro l J w hY hJ h0;refine yar 3 l wr xm x.mc x.made (by omega) J w hY (λ pre w1 hj=>?_) h0;obtain⟨_,_,_,hk⟩:=hJ pre w1 hj;refine⟨El hk (.inr rfl) VT.out,λ j hj=>?_⟩;obtain⟨g,e,hO,hc⟩:=VU.out j hj;exact⟨g,e,El hk (.inl (.inl (.inr hO))) hc⟩
 case body=>
  rintro l pre ⟨yi,ym⟩ w hI hx;have HG:=zH (HST.out pre (yi,ym) w hI hx);obtain⟨_,_,_,hk⟩:=hI;have b1:w.cell? W.heap.size=some (.pointer P):=El hk (.inl (.inl (.inl (.inr (.inl rfl))))) HB0.out;clear hk hx HST HI0 VV VT VU HB0
  gi_wp2_with fail
  refine⟨trivial,?_⟩;refine(CallsIn.inRound l (callsIn_wide.2 HG.out)).mono ?_;rintro e w5 ⟨rfl,h1⟩;have H1:=zH h1;clear HG h1
  gi_wp2
  exact H1.out
 intro w hI hD;have hI0:=hI;obtain⟨C2,hz,hg,hk⟩:=hI;rw[VP]at hg;obtain⟨k2,k24,k4,kq⟩:=HKW.out;have yr:=((((HX.out.2.af (k2.block _ (.inl (.inr (.inr rfl))))).af (k24.block _ (.inl (.inr (.inr rfl))))).af (k4.block _ (.inl (.inl (.inr (.inr rfl)))))).af (kq.block _ (.inl (.inl (.inr (.inr rfl)))))).af (hk.block _ (.inl (.inl (.inl (.inr (.inr rfl))))));have r0:=yr.c0;have rf:=yr.free 0;have HI:=zH (zA hI0 (zA hD yr));clear hI0 hz hg hk k2 k24 k4 kq yr hD HST HI0 VT VU HB0
 go_wp2_with fail
 obtain⟨⟨C2,hz,hg,hk⟩,hD,yr⟩:=HI.out;obtain⟨k2,k24,k4,kq⟩:=HKW.out;rw[VP]at hg;have hrl:W.heap.size+1<wq.heap.size:=HRQ.out;have hWs:W.heap.size<=wq.heap.size:=by omega
 have o1:Only (W.heap.size+1) w (w.setCell ⟨W.heap.size+1,0,none⟩ (.int .i64 0)):=(Only.refl _ _).set 0 _;have y1:=yr.set 0 (.int .i64 0);have hD1:(w.setCell ⟨W.heap.size+1,0,none⟩ (.int .i64 0)).heap[wq.heap.size]?=some (.deferred (some [])):=(o1.block _ (su.1 hD).1 (by omega)).trans hD;have z1:=hz.over (R:=λ j=>j=W.heap.size+1) (λ j hj=>.inl (.inl (.inl (.inl (.inr (.inr hj)))))) (λ e=>by have e2:0 =W.heap.size+1:=e;have:=HTL.out;omega) o1.size (λ j hj hn=>o1.block j hj hn) (T:=λ j=>(((((E j\/j=W.heap.size\/j=W.heap.size+1)\/jJ (some x) j)\/(w2.heap.size<=j/\j<w4.heap.size))\/j=wr.heap.size)\/j=wq.heap.size\/j=wq.heap.size+1)) (λ j hj=>.inl hj);have kE:Kept E W (w.setCell ⟨W.heap.size+1,0,none⟩ (.int .i64 0)):=(((((HK1.out.trans (k2.mono (λ j hj=>.inl (.inl hj)))).trans (k24.mono (λ j hj=>.inl (.inl hj)))).trans (k4.mono (λ j hj=>.inl (.inl (.inl hj))))).trans (kq.mono (λ j hj=>.inl (.inl (.inl hj))))).trans (hk.mono (λ j hj=>.inl (.inl (.inl (.inl hj)))))).trans ⟨o1.os,o1.tape,o1.output,o1.size,λ j hj=>o1.block j (bS (Qa.out j hj) (bf hWs hk.size)) (by have:=Qa.out j hj;omega)⟩;generalize w.setCell ⟨W.heap.size+1,0,none⟩ (.int .i64 0)=wf at o1 y1 hD1 z1 kE ⊢;have o2:=xj9 wf wq (.deferred none);have z2:=z1.over (R:=λ j=>j=wq.heap.size) (λ j hj=>.inr (.inl hj)) (λ e=>by have e2:0 =wq.heap.size:=e;have:=HTL.out;omega) o2.size (λ j hj hn=>o2.block j hj hn) (T:=E) (λ j hj=>.inl (.inl (.inl (.inl (.inl (.inl hj))))));have y2:=y1.af (o2.block _ y1.lt (by omega));have c2:=y2.c0;have k2':Kept E W (wf.putObj wq (.deferred none)):=kE.trans ⟨o2.os,o2.tape,o2.output,o2.size,λ j hj=>o2.block j (bS (Qa.out j hj) kE.size) (by have:=Qa.out j hj;omega)⟩;refine⟨by simp,.inl ⟨_,_,rfl,run_takeDeferred hD1,?_⟩⟩;generalize wf.putObj wq (.deferred none)=wg at z2 c2 k2' ⊢;refine⟨_,(by simp[results,Tryz.results31,go_sem,c2]:(results Tryz.f31 _).run Tryz.prog wg= .ok (.int .i64 0) wg),rfl,C2,z2.up ?_,HUN.out C2 hg,k2'⟩;rw[VM];omega
end
end Go.Proofs.YtlipgbnnbefhjaaGreatDoor
