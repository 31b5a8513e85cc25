/- Facts on rows of numbers on pages. -/
import Derived.Test.YtlipgbnnbefhjaaGreatDoorKPoolCc
import Derived.Deep.DeepCutAuto
import Derived.Deep.RegionWith
import Derived.StillTailTactics
import Derived.Defers
set_option maxRecDepth 100000
set_option maxHeartbeats 8000000
set_option linter.unusedSimpArgs false
namespace Go.Proofs.YtlipgbnnbefhjaaGreatDoor
open Go.RowKit
open UK (str aO nth Only Row aI jR)
open Go.BigFrame
namespace UK
theorem xht{P:Program}{t k ty:TypeId}{mv kv v':Value}{w w':World}(hr:(Builtin.delete_ #[t,k] ty #[mv,kv]).run P w= .ok v' w'){ops:Array Oper}{rest:List Oper}{o:Oper}{a:Act}{Q:Exit->Act->World->Prop}{m x:Operand}
  (hg:o.guard=none) (hop:o.op=Op.call {callee:=Callee.builtin Builtin.delete,args:= #[m,x],argTypes:= #[t,k]}) (hty:o.type=ty) (hm:a.eval m=mv) (hx:a.eval x=kv) (hK:wpList P ops Q rest (a.put o.dst v') w') :
  wpList P ops Q (o::rest) a w:=by
 refine wpList_plain hg λ K hK'=>?_;subst hty;unfold Oper.wp;simp[execOp,hop,resolve,invoke,builtin,hm,hx,hr,Result.andThen];exact hK' _ _ hK
end UK
section
variable{E:Nat->Prop}{W W':World}{P D FB M aj:Nat}{q:Pl}{d d':Dk}
theorem xq7(h:fV W P D FB M q) :
  Calls Tryz.prog 39 #[.pointer P] W λ e w'=>e= .returned (.int .i64 q.ak)/\w'=W:=by
 have c4:=h.box.cell 4 _ rfl
 go_enter Tryz.func39,Tryz.ntmps39
 go_wp2;go_ret
 exact⟨rfl,rfl⟩
theorem xwt{f:Fr}(h:sM W P f) :
  Calls Tryz.prog 60 #[.pointer f.blk] W λ e w'=>e= .returned (.int .i64 f.page)/\w'=W:=by
 have c1:=h.box.cell 1 _ rfl
 go_enter Tryz.func60,Tryz.ntmps60
 go_wp2;go_ret
 exact⟨rfl,rfl⟩
theorem xtd{ao:Option Addr}{c:Nat}{l:List Int}(h:ib W ao c l)(hl:l.length<=1000000000)(v:Int) :
  Calls Tryz.prog 37 #[.slice ao l.length c,.int .i64 v] W λ e w'=>∃i:Int,e= .returned (.int .i64 i)/\(0<=i↔v∈l)/\w'=W:=by
 go_enter Tryz.func37,Tryz.ntmps37
 go_wp2_with fail
 go_loopw [8] (λ ix wr=>∃j:Nat,ix= .int .i64 j/\j<=l.length/\(∀(i:Nat) (x:Int),i<j->l[i]?=some x->x≠v)/\wr=W) (λ ix _=>1000000001-(intOf ix).toNat)
 case atStart=>exact⟨0,rfl,bY _,λ i x hi=>absurd hi (qh _),rfl⟩
 obtain⟨j,rfl,hj,hno,rfl⟩:=hrel;by_cases hlt:j<l.length
 ·obtain⟨x,hx⟩:∃x,l[j]?=some x:=⟨_,di hlt⟩;rcases h with⟨_,rfl,_⟩|⟨g,rfl,r⟩
  ·exact absurd hlt (qh _)
  have cx:=r.at' j (.int .i64 x) (by unfold zX;rw[dW,hx];rfl);clear r;by_cases e:v=x
  ·subst e;have HM:=zH (fe hx);clear hno hx;go_wp2;go_ret;exact⟨j,rfl,⟨λ _=>HM.out,λ _=>by omega⟩,rfl⟩
  have hb:(v==x)=false:=beq_eq_false_iff_ne.2 e
  have HN:=zH (λ (i:Nat) (y:Int) (hi:i<j+1) (hy:l[i]?=some y)=>(show y≠v by
   by_cases e2:i=j
   ·subst e2;rw[hx]at hy;rw[<-bC hy];exact λ e3=>e e3.symm
   exact hno i y (by omega) hy))
  clear hno hx e;go_wp2;go_roundw
  case rel=>exact⟨j+1,by go_num,by omega,HN.out,trivial⟩
  case measure=>simp[intOf];omega
 have HN:=zH (λ (hm:v∈l)=>(show False by
  obtain⟨i,hi,he⟩:=jb hm;exact hno i v (by omega) (by rw[di hi,he]) rfl))
 clear hno h;go_wp2;go_ret;exact⟨-1,rfl,⟨λ h=>absurd h (by decide),λ h=>(HN.out h).elim⟩,rfl⟩
theorem R3{ao:Option Addr}{c:Nat}{l:List Int}(h:ib W ao c l)(hl:l.length<=1000000000)(v:Int) :
  Calls Tryz.prog 84 #[.slice ao l.length c,.int .i64 v] W λ e w'=>e= .returned (.bool (decide (v∈l)))/\w'=W:=by
 have hi:=xtd h hl v;generalize hn:l.length=n at hi ⊢;clear hn
 go_enter Tryz.func84,Tryz.ntmps84
 go_wp2_with fail
 refine hi.mono ?_;rintro e w' ⟨i,rfl,hm,rfl⟩;have e:decide (0<=i)=decide (v∈l):=decide_eq_decide.2 hm;have HE:=zH e;clear e hm;go_wp2;go_ret;exact⟨by rw[<-HE.out];rfl,rfl⟩
theorem ib.nil:ib W none 0 []:=.inl ⟨rfl,rfl,rfl⟩
def bU(o:Option jQ):List Int:=match o with
 | none=>[]
 | some x=>x.gone
theorem IY(h:fV W P D FB M q)(v:Int):∃(ao:Option Addr) (n c:Nat),IX q.op= .slice ao n c/\Calls Tryz.prog 84 #[.slice ao n c,.int .i64 v] W λ e w'=>e= .returned (.bool (decide (v∈bU q.op)))/\w'=W:=by
 have ho:=h.op
 cases hq:q.op with
 | none=>exact⟨none,0,0,rfl,R3 (ib.nil (W:=W)) (by decide) v⟩
 | some x=>exact⟨x.go,_,x.gc,rfl,R3 (ho x hq).gone (ho x hq).few.2.2 v⟩
theorem PD.own(h:PD E W P D FB M q d aj){hand:Nat}{ak:Int}(ho:Only P W W')(hb:aI W' P (pF D FB q.ag.length M hand ak q.op)):PD E W' P D FB M {ag:=q.ag,hand:=hand,ak:=ak,op:=q.op} d aj/\Kept E W W':=by
 have hp:=h.pool;obtain⟨f,hf,hm⟩:=hp.map;refine h.moves (q':={ag:=q.ag,hand:=hand,ak:=ak,op:=q.op}) (Moves.bX ho (.inl rfl)) ⟨hb,hp.uB.only ho hp.PF.symm,⟨f,hf,hm.only ho hp.PM.symm⟩,λ i g hi=>?_,hp.PF,hp.PM,hp.FM,hp.off,hp.two,hp.op.af ho.size (λ k hk=>ho.block k (hp.op.lt hk) (hp.iU k hk).1),hp.iU,hp.nD,hp.tab⟩;have h1:=hp.off i (some g) g.blk hi (.inl rfl);have h2:=hp.off i (some g) g.db hi (.inr rfl);exact(hp.each i g hi).af (ho.block _ (hp.yS hi (.inl rfl)) h1.1) (ho.block _ (hp.yS hi (.inr rfl)) h2.1)
def BP(n:Int)(k:Nat):Nat:=(n%(k:Int)).toNat
theorem Xw(n:Int)(k:Nat)(hk:0<k):n.tmod k%(k:Int)=(BP n k:Int)/\BP n k<k/\ -(k:Int)<n.tmod k/\n.tmod k<k:=by
 have h1:=Int.emod_nonneg n (show(k:Int)≠0 by omega);have h2:=Int.emod_lt_of_pos n (show(0:Int)<k by omega)
 have h3:n.tmod k=if 0<=n\/n%k=0 then n%k else n%k-k:=by
  rw[Int.tmod_eq_emod];by_cases hh:0<=n\/(k:Int) ∣ n
  ·rw[if_pos hh,if_pos (by rcases hh with a|a;exact .inl a;exact .inr (Int.emod_eq_zero_of_dvd a))];omega
  rw[if_neg hh,if_neg (by rintro(a|a);exact hh (.inl a);exact hh (.inr (Int.dvd_of_emod_eq_zero a)))];omega
 refine⟨?_,by unfold BP;omega,?_,?_⟩
 ·have h4:n.tmod k%(k:Int)=n%k:=by
   rw[h3]
   split
   ·exact Int.emod_emod_of_dvd n (Int.dvd_refl _)
   rw[Int.sub_emod_right];exact Int.emod_emod_of_dvd n (Int.dvd_refl _)
  rw[h4];unfold BP;omega
 ·rw[h3];split<;>omega
 rw[h3];split<;>omega
theorem xwu(h:PD E W P D FB M q d aj)(o:pG q)(n:Int) :
  Calls Tryz.prog 49 #[.pointer P,.int .i64 n] W λ e w'=>e= .returned (.tuple #[])/\PD E w' P D FB M {q with hand:=BP n q.ag.length} d aj/\Kept E W w':=by
 have hb:=h.pool.box;have c1:=hb.cell 1 _ rfl;have c3:=hb.cell 3 _ rfl;have f3:=hb.free 3;have hb2:=hb.set 3 (.int .i64 (BP n q.ag.length:Nat));have Xx:=h.own ((Only.refl P W).set 3 (.int .i64 (BP n q.ag.length:Nat))) (hand:=BP n q.ag.length) (ak:=q.ak) hb2;have hk:=o.few;have hh:=o.hand;obtain⟨h1,h2,h3,h4⟩:=Xw n q.ag.length (by omega);have hk0:1<=q.ag.length:=by omega
 generalize q.ag.length=k at *;have H1:=zH h1;clear h1;generalize BP n k=hn at *;have h5:0<=n.tmod k+k:=by omega
 clear hb hb2
 go_enter Tryz.func49,Tryz.ntmps49
 go_wp2;rw[H1.out]
 go_end0
 exact⟨rfl,Xx.1,Xx.2⟩
end
open Go.RowKit
open UK (str aO nth Only Row aI jR)
open Go.BigFrame
section
variable{E:Nat->Prop}{W W':World}{P D FB M aj k:Nat}{q:Pl}{d d':Dk}
structure Same(f g:Fr):Prop where
 blk:g.blk=f.blk
 db:g.db=f.db
 cap:g.cap=f.cap
 page:g.page=f.page
 data:g.data=f.data
theorem Same.oo{f g:Fr}(h:Same f g)(j:Nat):oo (some g) j↔oo (some f) j:=by
 show(j=g.blk\/j=g.db)↔(j=f.blk\/j=f.db);rw[h.blk,h.db]
theorem PD.flag(h:PD E W P D FB M q d aj){i:Nat}{f g:Fr}(hi:q.ag[i]?=some (some f))(hs:Same f g)(ho:Only f.blk W W')(hb:aI W' f.blk (Oi P g)):PD E W' P D FB M {q with ag:=q.ag.set i (some g)} d aj/\Kept E W W':=by
 have hp:=h.pool;have hl:=(dn.1 hi).1;obtain⟨mf,hf,hm⟩:=hp.map;have hoff:=hp.off i (some f) f.blk hi (.inl rfl);have hfr:=hp.each i f hi
 have hc:cntF (q.ag.set i (some g))=cntF q.ag:=by
  have:=Kr q.ag i (some f) (some g) hi
  simpa using this
 have hlt:=hp.yS hi (.inl rfl);refine h.moves (q':={q with ag:=q.ag.set i (some g)}) ⟨ho.os,ho.tape,ho.output,ho.size,λ j hj hn=>ho.block j hj (λ e=>hn (e▸ .inr (.inr (.inr (.inr ⟨i,some f,hi,.inl rfl⟩))))),λ j hj=>.inl ?_⟩ ?_
 ·rcases jK.sN (n:=W.heap.size) hi (λ j hj=>.inl ((hs.oo j).1 hj)) hj with h1|h1
  ·exact h1
  exfalso
  have:jK P FB M q.ag q.op j:=by
   rcases hj with a|a|a|a|⟨b,u,hb2,hk⟩
   ·exact .inl a
   ·exact .inr (.inl a)
   ·exact .inr (.inr (.inl a))
   ·exact .inr (.inr (.inr (.inl a)))
   have hb2:(q.ag.set i (some g))[b]?=some u:=hb2;rw[gB _ _ _ _ hl]at hb2;by_cases e:i=b
   ·rw[if_pos e]at hb2;rw[<-bC hb2]at hk;exact .inr (.inr (.inr (.inr ⟨i,some f,hi,(hs.oo j).1 hk⟩)))
   rw[if_neg e]at hb2;exact .inr (.inr (.inr (.inr ⟨b,u,hb2,hk⟩)))
  have:=hp.lt this;omega
 refine hp.sN hi h.dd.tab.lt (hp.box.af (ho.block _ hp.box.lt hoff.1.symm)) ho.size (λ k hk=>ho.block k (hp.op.lt hk) (λ e=>hp.nD i (some f) _ hi (.inl rfl) (e▸hk))) ?_ ⟨mf,hf.turn hi hs.page,by rw[hc];exact hm.only ho hoff.2.2.symm⟩ (λ j u b hj hu hb2=>?_) (λ g' hg'=>?_) (λ j hj=>.inl ((hs.oo j).1 hj))
 ·rw[Xv _ _ _ _ hi (by unfold pX;simp only;rw[hs.blk])];exact hp.uB.only ho hoff.2.1.symm
 ·have hlt2:=hp.yS hu hb2;refine ho.block b hlt2 (λ e=>?_);subst e;exact hp.two i j (some f) u _ (eU hj) hi hu (.inl rfl) hb2
 obtain rfl:=bC hg';obtain⟨y,a,b,c⟩:=hfr.bytes;exact⟨by rw[hs.blk];exact hb,⟨y,by rw[hs.db];exact ho.bytes a hfr.ne.symm,by rw[hs.cap];exact b,by rw[hs.data];exact c⟩,by rw[hs.data];exact hfr.len,by rw[hs.cap];exact hfr.cap,by rw[hs.page];exact hfr.page,by rw[hs.blk,hs.db];exact hfr.ne⟩
theorem PD.frame(h:PD E W P D FB M q d aj){i:Nat}{o:Option Fr}(hi:q.ag[i]?=some o):W.cell? (FB,i)=some (pX o):=h.pool.uB.at' i _ (Rw _ _ _ hi)
theorem xq8{Q:Exit->Act->World->Prop}{a:Act}{w:World}(R:World->Prop)(hR:R w)(h:∀w',R w'->Q .normal a w'):Q .normal a w:=h w hR
def wS(q:Pl)(r:Option Nat×List (Option Fr)×Nat):Pl:={ag:=r.2.1,hand:=r.2.2,ak:=q.ak,op:=q.op}
def Gc(r:Option Nat):Int:=match r with
 | none=> -1
 | some i=>i
def xzs(E:Nat->Prop)(W wr:World)(P D FB M:Nat)(q:Pl)(d:Dk)(aj:Nat)(ix:Value):Prop:=
 ∃(m:Nat) (l:List (Option Fr)) (h:Nat),ix= .int .i64 m/\m<=2*q.ag.length/\Hid (jP (2*q.ag.length) q.ag q.hand=jP (2*q.ag.length-m) l h)/\PD E wr P D FB M {ag:=l,hand:=h,ak:=q.ak,op:=q.op} d aj/\Kept E W wr/\Hid (l.length=q.ag.length)/\h<q.ag.length
theorem xq9(h:PD E W P D FB M q d aj)(o:pG q) :
  Calls Tryz.prog 121 #[.pointer P] W λ e w'=>e= .returned (.int .i64 (Gc (jP (2*q.ag.length) q.ag q.hand).1))/\PD E w' P D FB M (wS q (jP (2*q.ag.length) q.ag q.hand)) d aj/\Kept E W w':=by
 have hb:=h.pool.box;have c1:=hb.cell 1 _ rfl;have hk:=o.few;have hh:=o.hand;clear hb
 go_enter Tryz.func121,Tryz.ntmps121
 go_wp2_with fail
 go_loopw [11] (λ ix wr=>xzs E W wr P D FB M q d aj ix) (λ ix _=>2001-(intOf ix).toNat)
 case atStart=>exact⟨0,q.ag,q.hand,rfl,bY _,rfl,h,Kept.refl _ _,rfl,hh⟩
 clear h;obtain⟨m,l,h,rfl,hm,HS,p1,k1,HL,hhk⟩:=hrel;have hb:=p1.pool.box;have HL2:=HL.out;have hpc:pF D FB l.length M h q.ak q.op=pF D FB q.ag.length M h q.ak q.op:=by rw[HL2]
 simp only at hb;rw[hpc]at hb;have c1:=hb.cell 1 _ rfl;have c3:=hb.cell 3 _ rfl;have f3:=hb.free 3;by_cases hlt:m<2*q.ag.length
 ·obtain⟨n,hn⟩:∃n,2*q.ag.length-m=n+1:=⟨2*q.ag.length-m-1,by omega⟩;have hn2:2*q.ag.length-(m+1)=n:=by omega
  rw[hn]at HS;obtain⟨o1,ho1⟩:∃o1,l[h]?=some o1:=⟨_,di (by omega)⟩
  have p2:=p1.own ((Only.refl P wr).set 3 (.int .i64 (((h+1)%l.length:Nat):Int))) (hand:=(h+1)%l.length) (ak:=q.ak) (by
   have:=hb.set 3 (.int .i64 (((h+1)%l.length:Nat):Int));rw[show l.length=q.ag.length from HL2];rw[show l.length=q.ag.length from HL2]at this;exact this)
  have k2:=k1.trans p2.2;have HM:Hid (((h:Int)+1)%(q.ag.length:Int)=(((h+1)%l.length:Nat):Int)):=by show _=_;rw[HL2,Int.natCast_emod,Int.natCast_add];rfl
  have hmod:(h+1)%l.length<q.ag.length:=by rw[HL2];exact mq _ (by omega)
  go_wp2_with fail
  go_region
  rw[HM.out];refine xq8 (λ w'=>PD E w' P D FB M {ag:=l,hand:=(h+1)%l.length,ak:=q.ak,op:=q.op} d aj/\Kept E W w') ⟨p2.1.next (aP _ _).drew,k2.trans (Kept.of_below (aP _ _).drew (λ j hj=>p2.1.dd.there j (.inl hj)))⟩ ?_;clear p2 k2 c1 c3 f3 hb p1 k1 HM;rintro w2 ⟨p2,k2⟩;have cf:=p2.frame ho1;have c1:=p2.pool.box.cell 1 _ rfl;simp only at c1;rw[HL2]at c1;have E9:=zH hn2;clear hn hn2 hpc HL2
  cases o1 with
  | none=>
   have zZ:Hid (jP (2*q.ag.length) q.ag q.hand=(some h,l,(h+1)%l.length)):=HS.out.trans (IP n ho1);clear HS;generalize (h+1)%l.length=h2 at p2 zZ hmod;simp only[pX]at cf;go_wp2;go_ret;exact⟨by rw[zZ.out]<;>rfl,by rw[zZ.out];exact p2,k2⟩
  | some f=>
   have zZ:Hid (jP (2*q.ag.length) q.ag q.hand=_):=HS.out.trans (IQ n ho1);clear HS;generalize (h+1)%l.length=h2 at p2 zZ hmod;simp only[pX]at cf;have hfr:=p2.pool.each h f ho1;have c3:=hfr.box.c3;have c4:=hfr.box.c4;have f4:=hfr.box.free 4;by_cases hp:0<f.ak
   ·have HE:Hid (jP (2*q.ag.length) q.ag q.hand=jP (2*q.ag.length-(m+1)) l h2):=by show _=_;rw[zZ.out,if_pos hp,E9.out]
    clear zZ;generalize f.ak=fp at c3 hp;go_wp2;go_roundw
    case rel=>exact⟨m+1,l,h2,by go_num,by omega,HE,p2,k2,HL,hmod⟩
    case measure=>simp[intOf];omega
   have hbx:=hfr.box.set 4 (.bool false);have hset:=p2.flag (g:={f with used:=false}) ho1 ⟨rfl,rfl,rfl,rfl,rfl⟩ ((Only.refl f.blk w2).set 4 (.bool false)) hbx
   cases hu:f.used
   ·have HE:Hid (jP (2*q.ag.length) q.ag q.hand=(some h,l,h2)):=by show _=_;rw[zZ.out,if_neg hp,hu];rfl
    rw[hu]at c4;clear zZ hset hbx hu;generalize f.ak=fp at c3 hp;go_wp2;go_ret;exact⟨by rw[HE.out]<;>rfl,by rw[HE.out];exact p2,k2⟩
   have HE:Hid (jP (2*q.ag.length) q.ag q.hand=jP (2*q.ag.length-(m+1)) (l.set h (some {f with used:=false})) h2):=by show _=_;rw[zZ.out,if_neg hp,if_pos hu,E9.out]
   rw[hu]at c4;have hk3:=k2.trans hset.2;have hp3:=hset.1;have HL3:Hid ((l.set h (some {f with used:=false})).length=q.ag.length):=by show _=_;rw[bB];exact HL.out
   clear zZ hset hbx hu;generalize f.ak=fp at c3 hp;go_wp2;go_roundw
   case rel=>exact⟨m+1,_,h2,by go_num,by omega,HE,hp3,hk3,HL3,hmod⟩
   case measure=>simp[intOf];omega
 have HE:Hid (jP (2*q.ag.length) q.ag q.hand=(none,l,h)):=by
  show _=_;rw[HS.out,show 2*q.ag.length-m=0 by omega];rfl
 go_wp2;go_ret
 exact⟨by rw[HE.out]<;>rfl,by rw[HE.out];exact p1,k1⟩
end
section
variable{E:Nat->Prop}{W W':World}{P D FB M aj k:Nat}{q:Pl}{d d':Dk}
theorem Xy{l:List (Option Fr)}{i:Nat}{o:Option Fr}(h:l[i]?=some o):l.set i o=l:=by
 refine List.ext_getElem? (λ j=>?_);rw[gB l i j o (dn.1 h).1];by_cases e:i=j
 ·rw[if_pos e,<-e,h]
 rw[if_neg e]
theorem Xz(h:PD E W P D FB M q d aj){i:Nat}{f:Fr}(hi:q.ag[i]?=some (some f))(hd:f.bH=false) :
  Calls Tryz.prog 43 #[.pointer P,.pointer f.blk] W λ e w'=>e= .returned (.int .i64 0)/\w'=W:=by
 have hfr:=h.pool.each i f hi;have c5:=hfr.box.c5;rw[hd]at c5
 go_enter Tryz.func43,Tryz.ntmps43
 go_wp2;go_ret
 exact⟨rfl,rfl⟩
theorem X0(h:PD E W P D FB M q d aj){i:Nat}{f:Fr}(hi:q.ag[i]?=some (some f))(hd:f.bH=true)(o:Ok d aj k)(hk:k<900000000) :
  Calls Tryz.prog 43 #[.pointer P,.pointer f.blk] W λ e w'=>e= .returned (.int .i64 (BL d aj f.page f.data))/\PD E w' P D FB M {q with ag:=q.ag.set i (some {f with bH:=(BL d aj f.page f.data != 0)})} (xY d aj f.page f.data) aj/\Kept E W w':=by
 have hfr:=h.pool.each i f hi;have h1:=h.next (aP W W).drew;have Kv:=h1.pool.each i f hi;have c0:=h.pool.box.c0;have c1:=hfr.box.c1;have c2:=hfr.box.c2;have c5:=hfr.box.c5;rw[hd]at c5;obtain⟨y,hy,hyl,Kw⟩:=Kv.bytes;have hcap:=hfr.cap;have hcv:=UK.Cz (P:=Tryz.prog) (src:=88) (dst:=9) Tryz.underlying88 Tryz.underlying5 Tryz.underlying9 hy 0 504 f.cap (by omega);rw[lL,Kw]at hcv;have HW:=zH (xqz h1.dd o hk f.page f.data);have HE:=zH h1;generalize hre:BL d aj f.page f.data=re at HW;generalize xY d aj f.page f.data=rd at HW;have hb5:=λ w (hw:PD E w P D FB M q rd aj)=>hw.flag (g:={f with bH:=(re != 0)}) hi ⟨rfl,rfl,rfl,rfl,rfl⟩ ((Only.refl f.blk w).set 5 (.bool (re != 0))) ((hw.pool.each i f hi).box.set 5 (.bool (re != 0)));have HB5:=zH hb5;clear h1 hfr Kv hb5 hy hyl Kw hre
 go_enter Tryz.func43,Tryz.ntmps43
 go_wp2_with fail
 go_still_tail 13,(by kernel_rfl)
 change wpList _ _ _ _ _ W.drew
 go_wp2_with fail
 refine HW.out.mono ?_;rintro e w2 ⟨rfl,d2,k2⟩;have h2:=HE.out.disk d2 k2;have hfr2:=h2.pool.each i f hi;have c5:=hfr2.box.c5;have f5:=hfr2.box.free 5;have HF:=zH (HB5.out w2 h2);have k3:=Kept.of_below (S:=E) (aP W W).drew (λ j hj=>h.dd.there j (.inl hj));clear HW HE hcv c0 c1 c2 h2 hfr2 d2;go_wp2;go_ret;exact⟨rfl,HF.out.1,(k3.trans (k2.mono (λ j hj=>.inl hj))).trans HF.out.2⟩
theorem PD.empty(h:PD E W P D FB M q d aj){i:Nat}{f:Fr}(hi:q.ag[i]?=some (some f)){W1 W2:World}(o1:Only FB W W1)(r1:Row W1 FB q.ag.length ((q.ag.set i none).map pX))(o2:Only M W1 W2)
  (hm:∃g,jS (q.ag.set i none) g/\jR Tryz.prog 3 3 W2 M (cntF (q.ag.set i none)) g (cntF (q.ag.set i none))):PD E W2 P D FB M {q with ag:=q.ag.set i none} d aj/\Kept E W W2:=by
 have hp:=h.pool;have hoff:=λ (j:Nat) (u:Option Fr) (b:Nat) hj hb=>hp.off j u b hj hb;have hkeep:∀b,b<W.heap.size->b≠FB->b≠M->W2.heap[b]?=W.heap[b]?:=λ b hb h1 h2=>(o2.block b (bS hb o1.size) h2).trans (o1.block b hb h1);refine h.moves (q':={q with ag:=q.ag.set i none}) ⟨o2.os.trans o1.os,o2.tape.trans o1.tape,o2.output.trans o1.output,bf o1.size o2.size,λ b hb hn=>hkeep b hb (λ e=>hn (.inr (.inl e))) (λ e=>hn (.inr (.inr (.inl e)))),λ b hb=>?_⟩ ?_
 ·rcases jK.sN (n:=W.heap.size) hi (λ j hj=>absurd hj id) hb with h1|h1
  ·exact .inl h1
  exact .inr h1
 exact hp.sN hi h.dd.tab.lt (hp.box.af (hkeep P hp.box.lt hp.PF hp.PM)) (bf o1.size o2.size) (λ k hk=>hkeep k (hp.op.lt hk) (hp.iU k hk).2.1 (hp.iU k hk).2.2) (r1.only o2 hp.FM) hm (λ j u b _ hu hb=>hkeep b (hp.yS hu hb) (hoff j u b hu hb).2.1 (hoff j u b hu hb).2.2) (λ g hg=>by cases hg) (λ b hb=>absurd hb id)
theorem R4(h:PD E W P D FB M q d aj)(o:pG q){i:Nat}{f:Fr}(hi:q.ag[i]?=some (some f)) :
  Calls Tryz.prog 109 #[.pointer P,.int .i64 f.page] W λ e w'=>e= .returned (.tuple #[])/\PD E w' P D FB M {q with ag:=q.ag.set i none} d aj/\Kept E W w':=by
 have hp:=h.pool;have hl:=(dn.1 hi).1;have cK:=(hp.each i f hi).page;have c1:=hp.box.c1;have c2:=hp.box.c2;obtain⟨g,hg,hm⟩:=hp.map;have hgf:g f.page=some (i:Int):=hg.at_ hi;have hlk:=hm.get (t:=84) Tryz.underlying3 Tryz.underlying3 Tryz.underlying84 (λ w=>by kernel_rfl) f.page cK;rw[hgf]at hlk;have hlk2:(Instr.lookup 84 (.map (some M)) (.int .i64 f.page) true).run Tryz.prog W= .ok (.tuple #[.int .i64 (i:Int),.bool true]) W:=hlk;have cF:=hp.uB.at' i _ (Rw _ _ _ hi);have fF:=hp.uB.free i hl;have o1:=(Only.refl FB W).set i (.pointer none);have r1:=hp.uB.set i (.pointer none) (by rw[kg];exact hl);have hm1:=hm.only o1 hp.FM.symm;obtain⟨W2,hdel,hm2,o2⟩:=hm1.del Tryz.underlying3 Tryz.underlying84 f.page cK 0;rw[hgf]at hm2;have hc:=Kr q.ag i (some f) none hi;simp only[Option.isSome_some,Option.isSome_none,if_true,vR,if_false]at hc hm2;rw[show cntF q.ag-1=cntF (q.ag.set i none) by omega]at hm2;have r2:Row (W.setCell (FB,i) (.pointer none)) FB q.ag.length ((q.ag.set i none).map pX):=by rw[map_set];exact r1
 have HF:=zH (h.empty hi o1 r2 o2 ⟨_,hg.forget hi,hm2.tight⟩);have c2':=(hp.box.only o1 hp.PF).c2;have hk:=o.few;clear hlk hm hm1 hm2 r1 r2 o1 o2 hc hgf hg
 go_enter Tryz.func109,Tryz.ntmps109
 go_wp2_with (at_delete;refine UK.xht hdel rfl rfl rfl rfl rfl ?_)
 go_end0
 exact⟨rfl,HF.out.1,HF.out.2⟩
theorem xte(h:PD E W P D FB M q d aj)(p:Int)(cK:(Lit.int .i64 p).wf=true)(hno:∀(i:Nat) (f:Fr),q.ag[i]?=some (some f)->f.page≠p) :
  Calls Tryz.prog 109 #[.pointer P,.int .i64 p] W λ e w'=>e= .returned (.tuple #[])/\w'=W:=by
 have hp:=h.pool;have c2:=hp.box.c2;obtain⟨g,hg,hm⟩:=hp.map
 have hgf:g p=none:=by
  cases EA:g p with
  | none=>rfl
  | some i=>
   obtain⟨j,_,fr,hj,hf⟩:=(hg p i).1 EA;exact absurd hf (hno j fr hj)
 have hlk:=hm.get (t:=84) Tryz.underlying3 Tryz.underlying3 Tryz.underlying84 (λ w=>by kernel_rfl) p cK;rw[hgf]at hlk;have hlk2:(Instr.lookup 84 (.map (some M)) (.int .i64 p) true).run Tryz.prog W= .ok (.tuple #[.int .i64 0,.bool false]) W:=hlk;clear hlk hm hgf hg
 go_enter Tryz.func109,Tryz.ntmps109
 go_wp2
 go_end0
 exact⟨rfl,rfl⟩
def ybz(q:Pl)(d:Dk)(aj:Nat)(r:Option Nat×List (Option Fr)×Nat)(i:Nat)(e0:Int)(q':Pl)(d':Dk):Prop:=
 (r.1=none->e0=9/\d'=d/\q'={ag:=r.2.1,hand:=r.2.2,ak:=q.ak,op:=q.op}) /\
 (∀j,r.1=some j->(∀f:Fr,r.2.1[j]?=some (some f)->f.bH=false)->i=j/\e0=0/\d'=d/\q'={ag:=r.2.1.set j none,hand:=r.2.2,ak:=q.ak,op:=q.op}) /\
 ∀(j:Nat) (f:Fr),r.1=some j->r.2.1[j]?=some (some f)->f.bH=true->BL d aj f.page f.data=0->i=j/\e0=0/\d'=xY d aj f.page f.data/\q'={ag:=r.2.1.set j none,hand:=r.2.2,ak:=q.ak,op:=q.op}
def X3(E:Nat->Prop)(W w':World)(P D FB M:Nat)(q:Pl)(d:Dk)(aj k:Nat)(e:Ending):Prop:=
 ∃(i:Nat) (e0:Int) (q':Pl) (d':Dk),e= .returned (.tuple #[.int .i64 i,.int .i64 e0])/\PD E w' P D FB M q' d' aj/\Kept E W w'/\pG q'/\Ok d' aj (k+1)/\q'.ak=q.ak/\q'.ag.length=q.ag.length/\tV q' q/\(∀p,bn d' aj p=bn d aj p)/\(e0=0->q'.ag[i]?=some none) /\
  ybz q d aj (jP (2*q.ag.length) q.ag q.hand) i e0 q' d'
theorem xtf(d:Dk)(aj:Nat)(p:Int)(s:List UInt8)(a:Int):bn (xY d aj p s) aj a=bn d aj a:=by
 unfold xY
 split
 ·rfl
 split
 ·rfl
 split<;>rfl
theorem xtg(h:PD E W P D FB M q d aj)(o:pG q)(ok:Ok d aj k)(hk:k<900000000) :
  Calls Tryz.prog 85 #[.pointer P] W λ e w'=>X3 E W w' P D FB M q d aj k e:=by
 have hv:=xq9 h o;have hso:=Oj (2*q.ag.length) q o;have Ky:=Rz q.op (2*q.ag.length) q.ag q.hand (jP (2*q.ag.length) q.ag q.hand).2.2 q.ak q.hand q.ak o.hand;unfold wS at hv;unfold X3;generalize jP (2*q.ag.length) q.ag q.hand=r at hv hso Ky ⊢;obtain⟨v,l,hd⟩:=r;simp only at hv hso Ky;obtain⟨o1,hl1,hi1⟩:=hso;have Aa:tV {ag:=l,hand:=hd,ak:=q.ak,op:=q.op} q:=Ky;have fD:=o1.few;simp only at fD
 cases v with
 | none=>
  have HV:=zH hv;clear hv Ky hi1;simp only[Gc]at HV
  go_enter Tryz.func85,Tryz.ntmps85
  go_wp2_with fail
  refine HV.out.mono ?_;rintro e w1 ⟨rfl,p1,k1⟩;go_wp2;go_ret2;exact⟨0,9,_,d,rfl,p1,k1,o1,ok.more,rfl,hl1,Aa,λ _=>rfl,λ h0=>absurd h0 (by decide),λ _=>⟨rfl,rfl,rfl⟩,(λ j hj=>by cases hj),λ j f hj=>by cases hj⟩
 | some i=>
  obtain⟨ob,jY,hidle⟩:=hi1 i rfl;have hil:i<l.length:=(dn.1 jY).1;have HV:=zH hv;clear hv Ky hi1;simp only[Gc]at HV;have Gd:=zH hl1;clear hl1
  cases ob with
  | none=>
   go_enter Tryz.func85,Tryz.ntmps85
   go_wp2_with fail
   refine HV.out.mono ?_;rintro e w1 ⟨rfl,p1,k1⟩;have c1:=p1.pool.box.c1;have cF:w1.cell? (FB,i)=some (.pointer none):=p1.frame jY;clear HV;go_wp2;go_ret2
   exact⟨i,0,_,d,rfl,p1,k1,o1,ok.more,rfl,Gd.out,Aa,λ _=>rfl,λ _=>jY,λ hj=>(by cases hj),(λ j hj _=>by
    obtain rfl:=bC hj;exact⟨rfl,rfl,rfl,by rw[Xy jY]⟩),λ j f hj hf=>by
    obtain rfl:=bC hj;rw[jY]at hf;cases hf⟩
  | some f=>
   have hfp:f.ak=0:=hidle f rfl;have Kz:=zH hfp;clear hfp hidle
   cases hdy:f.bH
   ·have IZ:=zH hdy;clear hdy
    go_enter Tryz.func85,Tryz.ntmps85
    go_wp2_with fail
    refine HV.out.mono ?_;rintro e w1 ⟨rfl,p1,k1⟩;have c1:=p1.pool.box.c1;have cF:w1.cell? (FB,i)=some (.pointer f.blk):=p1.frame jY;have cp:=(p1.pool.each i f jY).box.c1;have X4:=zH (Xz p1 jY IZ.out);have KA:=zH (R4 p1 o1 jY);have hpo:=o1.set jY (u:=none) (λ g hg=>by cases hg);simp only[iH,Kz.out,Int.sub_zero,Int.add_zero]at hpo;clear HV
    go_wp2_with fail
    refine X4.out.mono ?_;rintro e w2 ⟨rfl,rfl⟩
    go_wp2_with fail
    refine KA.out.mono ?_;rintro e w3 ⟨rfl,p3,k3⟩;clear X4 KA;go_wp2;go_ret2
    exact⟨i,0,_,d,rfl,p3,k1.trans k3,hpo,ok.more,rfl,by show(l.set i none).length=_;rw[bB];exact Gd.out,(tV.empty (q:={ag:=l,hand:=hd,ak:=q.ak,op:=q.op}) jY _ _).trans Aa,λ _=>rfl,λ _=>by show(l.set i none)[i]?=_;rw[gB _ _ _ _ hil,if_pos rfl],λ hj=>(by cases hj),(λ j hj _=>by
     obtain rfl:=bC hj;exact⟨rfl,rfl,rfl,rfl⟩),λ j g hj hg hd=>by
     obtain rfl:=bC hj;rw[jY]at hg;obtain rfl:=bC (bC hg);rw[IZ.out]at hd;cases hd⟩
   have IZ:=zH hdy;clear hdy
   go_enter Tryz.func85,Tryz.ntmps85
   go_wp2_with fail
   refine HV.out.mono ?_;rintro e w1 ⟨rfl,p1,k1⟩;have c1:=p1.pool.box.c1;have cF:w1.cell? (FB,i)=some (.pointer f.blk):=p1.frame jY;have KC:=zH (X0 p1 jY IZ.out ok hk);have hok2:=ok.write hk f.page f.data;have Ol:=λ a=>xtf d aj f.page f.data a;generalize hE0:BL d aj f.page f.data=e0 at KC;generalize hD2:xY d aj f.page f.data=d2 at KC hok2 Ol;have HE0:=zH hE0;have HD2:=zH hD2;clear hE0 hD2;have hpo:=o1.set jY (u:=some {f with bH:=(e0 != 0)}) (λ g hg=>by rw[<-bC hg];exact o1.pos i f jY);rw[show({ag:=l,hand:=hd,ak:=q.ak,op:=q.op}:Pl).ak-iH (some f)+iH (some {f with bH:=(e0 != 0)})=q.ak by show q.ak-f.ak+f.ak=q.ak;omega]at hpo;have X5:=zH Ol;clear HV Ol
   go_wp2_with fail
   refine KC.out.mono ?_;rintro e w2 ⟨rfl,p2,k2⟩;have Gf:(l.set i (some {f with bH:=(e0 != 0)}))[i]?=some (some {f with bH:=(e0 != 0)}):=by rw[gB _ _ _ _ hil,if_pos rfl]
   have hfw:=(tV.set (q:={ag:=l,hand:=hd,ak:=q.ak,op:=q.op}) jY (g:={f with bH:=(e0 != 0)}) rfl hd q.ak).trans Aa;by_cases he:e0=0
   ·subst he;have cp:=(p2.pool.each i _ Gf).box.c1;have KA:=zH (R4 p2 hpo Gf);have Gg:=hpo.set Gf (u:=none) (λ g hg=>by cases hg);rw[show q.ak-iH (some {f with bH:=((0:Int) != 0)})+iH none=q.ak by show q.ak-f.ak+0=q.ak;have:=Kz.out;omega]at Gg;simp only[List.set_set]at Gg;clear KC
    go_wp2_with fail
    refine KA.out.mono ?_;rintro e w3 ⟨rfl,p3,k3⟩;simp only[List.set_set]at p3;clear KA;go_wp2;go_ret2
    exact⟨i,0,_,d2,rfl,p3,(k1.trans k2).trans k3,Gg,hok2,rfl,by show(l.set i none).length=_;rw[bB];exact Gd.out,(tV.empty (q:={ag:=l,hand:=hd,ak:=q.ak,op:=q.op}) jY _ _).trans Aa,X5.out,λ _=>by show(l.set i none)[i]?=_;rw[gB _ _ _ _ hil,if_pos rfl],λ hj=>(by cases hj),(λ j hj hc=>by
     obtain rfl:=bC hj;have:=hc f jY;rw[IZ.out]at this;cases this),λ j g hj hg _ _=>by
     obtain rfl:=bC hj;rw[jY]at hg;obtain rfl:=bC (bC hg);exact⟨rfl,rfl,HD2.out.symm,rfl⟩⟩
   have hb1:(e0==0)=false:=beq_eq_false_iff_ne.2 he;have X6:=zH he;clear KC he;go_wp2;go_ret2
   exact⟨0,e0,_,d2,rfl,p2,k1.trans k2,hpo,hok2,rfl,by show(l.set i _).length=_;rw[bB];exact Gd.out,hfw,X5.out,λ h0=>absurd h0 X6.out,λ hj=>(by cases hj),(λ j hj hc=>by
    obtain rfl:=bC hj;have:=hc f jY;rw[IZ.out]at this;cases this),λ j g hj hg _ hz=>by
    obtain rfl:=bC hj;rw[jY]at hg;obtain rfl:=bC (bC hg);rw[HE0.out]at hz;exact absurd hz X6.out⟩
end
section
variable{E:Nat->Prop}{W W':World}{P D FB M aj k:Nat}{q:Pl}{d d':Dk}
theorem xwv{P:Program}{Q:Exit->Act->World->Prop}{a:Act}{c:Code}{w:World}(R:World->Prop)(hR:R w)(h:∀w',R w'->c.wp P Q a w'):c.wp P Q a w:=h w hR
structure Half(W w:World)(P FB:Nat)(l:List (Option Fr))(i:Nat)(f:Fr):Prop where
 only:Only FB W w
 row:Row w FB l.length ((l.set i (some f)).map pX)
 new:sM w P f
theorem xth(hr:Row W FB q.ag.length (q.ag.map pX)){i:Nat}(hil:i<q.ag.length){s:List UInt8}(hs:s.length=504)(page:Int)(cK:(Lit.int .i64 page).wf=true){cap:Nat}{o:Obj}(hcap:504<=cap)
  (hy:aO (W.drew.alloc o) W (s++List.replicate (cap-s.length) 0)) (t:TypeId) (f:Fr) (hf:f={blk:=W.heap.size+1,db:=W.heap.size,cap:=cap,page:=page,data:=s,ak:=1,used:=true,bH:=false}) :
  Half W (((W.setCell (FB,i) (.pointer (some ⟨W.heap.size+1,0,none⟩))).alloc o).alloc (.cells (Oi P f) t)).drew P FB q.ag i f:=by
 have o1:=(Only.refl FB W).set i (.pointer (some ⟨W.heap.size+1,0,none⟩));have r1:=hr.set i (.pointer (some ⟨W.heap.size+1,0,none⟩)) (by rw[kg];exact hil);have hsz:(W.setCell (FB,i) (.pointer (some ⟨W.heap.size+1,0,none⟩))).heap.size=W.heap.size:=by simp[World.setCell]
 generalize W.setCell (FB,i) (.pointer (some ⟨W.heap.size+1,0,none⟩))=w1 at o1 r1 hsz
 have y1:aO (w1.alloc o) W (s++List.replicate (cap-s.length) 0):=hy.af (by
  have e1:(w1.alloc o).heap[w1.heap.size]?=some o:=by
   show(w1.heap.push _)[w1.heap.size]?=_;rw[sF]
  have e2:(W.drew.alloc o).heap[W.drew.heap.size]?=some o:=by
   show(W.drew.heap.push _)[W.drew.heap.size]?=_;rw[sF]
  rw[hsz]at e1;exact e1.trans e2.symm)
 have hs2:(w1.alloc o).heap.size=W.heap.size+1:=by simp[hsz]
 have hb:=aI.new (w1.alloc o) (Oi P f) t;rw[hs2]at hb;refine⟨((o1.alloc o).alloc _).drew,?_,⟨?_,⟨s++List.replicate (cap-s.length) 0,?_,?_,?_⟩,?_,?_,?_,?_⟩⟩
 ·rw[map_set];have e3:pX (some f)= .pointer (some ⟨W.heap.size+1,0,none⟩):=by rw[hf];rfl
  rw[e3];exact((r1.alloc o).alloc _).drewN 1
 ·rw[show f.blk=W.heap.size+1 by rw[hf]];exact hb.af rfl
 ·rw[show f.db=W.heap.size by rw[hf]];exact(y1.alloc _).drewN 1
 ·rw[show f.cap=cap by rw[hf],zl,ko];omega
 ·rw[show f.data=s by rw[hf],List.take_left' hs]
 ·rw[show f.data=s by rw[hf]];exact hs
 ·rw[show f.cap=cap by rw[hf]];exact hcap
 ·rw[show f.page=page by rw[hf]];exact cK
 rw[hf];show W.heap.size+1≠W.heap.size;omega
def yb0(E:Nat->Prop)(W w':World)(P D FB M:Nat)(q:Pl)(d:Dk)(aj i:Nat)(page:Int)(s:List UInt8)(e:Ending):Prop:=
 ∃f:Fr,e= .returned (.pointer f.blk)/\f.page=page/\f.data=s/\f.ak=1/\f.bH=false/\f.used=true/\PD E w' P D FB M {ag:=q.ag.set i (some f),hand:=q.hand,ak:=q.ak+1,op:=q.op} d aj/\Kept E W w'
theorem PD.laid(h:PD E W P D FB M q d aj){i:Nat}(hi:q.ag[i]?=some none){f:Fr}{w1 w2 w3:World}{ak:Int}(hh:Half W w1 P FB q.ag i f)(hnew:f.blk=W.heap.size+1/\f.db=W.heap.size)(o2:Only M w1 w2)(o3:Only P w2 w3)
  (hm:∃g,jS (q.ag.set i (some f)) g/\jR Tryz.prog 3 3 w2 M (cntF (q.ag.set i (some f))) g (cntF (q.ag.set i (some f)))) (hb:aI w3 P (pF D FB q.ag.length M q.hand ak q.op)) :
  PD E w3 P D FB M {ag:=q.ag.set i (some f),hand:=q.hand,ak:=ak,op:=q.op} d aj/\Kept E W w3:=by
 have hp:=h.pool;have o1:=hh.only
 have hkeep:∀b,b<W.heap.size->b≠FB->b≠M->b≠P->w3.heap[b]?=W.heap[b]?:=λ b hb h1 h2 h3=>
  ((o3.block b (bS hb (bf o1.size o2.size)) h3).trans (o2.block b (bS hb o1.size) h2)).trans (o1.block b hb h1)
 have hown:∀b,oo (some f) b->oo none b\/W.heap.size<=b:=λ b hb=>by
  rcases hb with rfl|rfl
  ·exact .inr (by omega)
  exact .inr (by omega)
 have hsz:W.heap.size<=w3.heap.size:=bf (bf o1.size o2.size) o3.size;have zY:=hp.box.lt;have kN:=hp.uB.lt;have Ry:M<W.heap.size:=hp.lt (.inr (.inr (.inl rfl)));refine h.moves (q':={ag:=q.ag.set i (some f),hand:=q.hand,ak:=ak,op:=q.op}) ⟨(o3.os.trans o2.os).trans o1.os,(o3.tape.trans o2.tape).trans o1.tape,(o3.output.trans o2.output).trans o1.output,hsz,λ b hb hn=>hkeep b hb (λ e=>hn (.inr (.inl e))) (λ e=>hn (.inr (.inr (.inl e)))) (λ e=>hn (.inl e)),λ b hb=>jK.sN hi hown hb⟩ ?_;obtain⟨g,hg,hm⟩:=hm;refine hp.sN hi h.dd.tab.lt hb hsz (λ k hk=>hkeep k (hp.op.lt hk) (hp.iU k hk).2.1 (hp.iU k hk).2.2 (hp.iU k hk).1) ((hh.row.only o2 hp.FM).only o3 hp.PF.symm) ⟨g,hg,hm.only o3 hp.PM.symm⟩ (λ j u b _ hu hb=>?_) (λ f' hf'=>?_) hown
 ·have:=hp.off j u b hu hb;exact hkeep b (hp.yS hu hb) this.2.1 this.2.2 this.1
 obtain rfl:=bC hf'
 have e1:∀b,oo (some f) b->w3.heap[b]?=w1.heap[b]?:=λ b hb=>by
  have hb1:=hh.new.lt hb;have hge:=hown b hb
  have aaf:W.heap.size<=b:=by
   rcases hge with x|x
   ·exact absurd x id
   exact x
  exact(o3.block b (bS hb1 o2.size) (by omega)).trans (o2.block b hb1 (by omega))
 exact hh.new.af (e1 _ (.inl rfl)) (e1 _ (.inr rfl))
theorem X7(h:PD E W P D FB M q d aj)(o:pG q)(CU:0<=q.ak/\q.ak<=1000000){i:Nat}(hi:q.ag[i]?=some none)(page:Int)(cK:(Lit.int .i64 page).wf=true)(hno:∀(i:Nat) (f:Fr),q.ag[i]?=some (some f)->f.page≠page)(s:List UInt8)(hs:s.length=504) :
  Calls Tryz.prog 87 #[.pointer P,.int .i64 i,.int .i64 page,.string (str s)] W λ e w'=>yb0 E W w' P D FB M q d aj i page s e:=by
 have hp:=h.pool;have hl:=(dn.1 hi).1;have c1:=hp.box.c1;obtain⟨cap,ob,hcap,hcv,hy⟩:=UK.Q4 (P:=Tryz.prog) (src:=9) (dst:=88) Tryz.underlying9 Tryz.underlying88 Tryz.underlying5 W s;rw[hs]at hcap hcv;obtain⟨f,HF⟩:∃f:Fr,Hid (f={blk:=W.heap.size+1,db:=W.heap.size,cap:=cap,page:=page,data:=s,ak:=1,used:=true,bH:=false}):=⟨_,rfl⟩;have HH:=zH (xth (P:=P) hp.uB hl hs page cK hcap hy 136 f HF.out);have cF:=hp.uB.at' i _ (Rw _ _ _ hi);have fF:=hp.uB.free i hl;have zY:=hp.box.lt;have kN:=hp.uB.lt;have hk:=o.few;clear hy
 go_enter Tryz.func87,Tryz.ntmps87
 go_upto_region 3 with(fail)
 refine xwv (λ w'=>Half W w' P FB q.ag i f) (by have e:=HH.out;rw[HF.out]at e ⊢;exact e) ?_;intro w1 hh;obtain⟨g,hg,hm⟩:=hp.map
 have hgf:g page=none:=by
  cases EA:g page with
  | none=>rfl
  | some b=>
   obtain⟨j,_,fr,hj,hf⟩:=(hg page b).1 EA;exact absurd hf (hno j fr hj)
 have hm1:=hm.only hh.only hp.FM.symm;obtain⟨w2,hput,hm2,o2⟩:=hm1.put (t:=84) Tryz.underlying3 Tryz.underlying3 Tryz.underlying84 (by have:=xzr q.ag;unfold maxLen;omega) page i cK (WalkArith.wf_i64 (by omega));rw[hgf]at hm2;have hc:=Kr q.ag i none (some f) hi;simp only[Option.isSome_some,Option.isSome_none,if_true,vR,if_false]at hc hm2;rw[show cntF q.ag+1=cntF (q.ag.set i (some f)) by omega]at hm2;have hfp:f.page=page:=by rw[HF.out]
 have Gh:=hg.lay hi (fr:=f) (by rw[hfp];exact hgf);rw[hfp]at Gh;have b1:=hp.box.only hh.only hp.PF;have b2:=b1.only o2 hp.PM;have c2:=b1.c2;have c4:=b2.c4;have f4:=b2.free 4;have HFin:=zH (h.laid hi hh (by rw[HF.out];exact⟨rfl,rfl⟩) o2 ((Only.refl P w2).set 4 (.int .i64 (q.ak+1))) ⟨_,Gh,hm2.tight⟩ (ak:=q.ak+1) (b2.set 4 (.int .i64 (q.ak+1))));obtain⟨hp1,hp2⟩:=CU;clear HH hm hm1 hm2 Gh hgf hg hc b1 b2 hcv cF fF c1 hno hh;go_wp2;go_ret;exact⟨f,by rw[HF.out]<;>rfl,hfp,by rw[HF.out],by rw[HF.out],by rw[HF.out],by rw[HF.out],HFin.out.1,HFin.out.2⟩
end
open UK (str aO nth Only Row aI jR ol)
section
variable{E:Nat->Prop}{W W':World}{P D FB M aj k n:Nat}{kp:Int}{q:Pl}{d d':Dk}{c:Nat->List UInt8}
structure PS(E:Nat->Prop)(W:World)(P D FB M n:Nat)(kp:Int)(q:Pl)(d:Dk)(aj k:Nat)(c:Nat->List UInt8):Prop where
 pd:PD E W P D FB M q d aj
 ok:pG q
 kL:Ok d aj k
 held:∀(j:Nat) (g:Fr),q.ag[j]?=some (some g)->bn d aj g.page=true
 ak:q.ak=kp
 len:q.ag.length=n
 calm:Calm q d aj c
 lim:∀o,q.op=some o->o.wn<=k/\o.made.length<=k/\o.gone.length<=k
theorem PS.next(h:PS E W P D FB M n kp q d aj k c)(hb:Below W W W'):PS E W' P D FB M n kp q d aj k c:=⟨h.pd.next hb,h.ok,h.kL,h.held,h.ak,h.len,h.calm,h.lim⟩
theorem PS.Ab(h:PS E W P D FB M n kp q d aj k c)(hb:Below W W W'):Kept E W W':=Kept.of_below hb (λ j hj=>h.pd.dd.there j (.inl hj))
theorem PS.up{m:Nat}(h:PS E W P D FB M n kp q d aj k c)(hm:k<=m):PS E W P D FB M n kp q d aj m c:=
 ⟨h.pd,h.ok,⟨h.kL.fit,h.kL.so,by have:=h.kL.puts;omega,by have:=h.kL.reads;omega⟩,h.held,h.ak,h.len,h.calm,λ o ho=>by have:=h.lim o ho;omega⟩
theorem PS.looks(h:PS E W P D FB M n kp q d aj k c)(x:Nat):PS E (W.drewN x) P D FB M n kp q d aj k c/\Kept E W (W.drewN x):=
 have hb:Below W W (W.drewN x):=UK.aG (aP _ _) x
 ⟨h.next hb,h.Ab hb⟩
theorem PS.inj(h:PS E W P D FB M n kp q d aj k c){i j:Nat}{f g:Fr}(hi:q.ag[i]?=some (some f))(hj:q.ag[j]?=some (some g))(e:f.page=g.page):i=j:=by
 obtain⟨mf,ha,_⟩:=h.pd.pool.map;exact ha.inj hi hj e
theorem PS.flag{i:Nat}{f g:Fr}{w1:World}(h:PS E W P D FB M n kp q d aj k c)(hi:q.ag[i]?=some (some f))(hs:Same f g)(hd:f.bH=true->g.bH=true)(hg:0<=g.ak/\g.ak<=1000000)(h1:PD E w1 P D FB M {ag:=q.ag.set i (some g),hand:=q.hand,ak:=q.ak-f.ak+g.ak,op:=q.op} d aj) :
  PS E w1 P D FB M n (kp-f.ak+g.ak) {ag:=q.ag.set i (some g),hand:=q.hand,ak:=q.ak-f.ak+g.ak,op:=q.op} d aj k c:=by
 have hl:=(dn.1 hi).1;refine⟨h1,h.ok.set hi (u:=some g) (λ x hx=>by rw[<-bC hx];exact hg),h.kL,λ j u hj=>?_,by rw[<-h.ak],by show(q.ag.set i _).length=n;rw[bB];exact h.len,h.calm.turn hi hs.page hs.data hd _ _ _,h.lim⟩;replace hj:(q.ag.set i (some g))[j]?=some (some u):=hj;rw[gB _ _ _ _ hl]at hj;by_cases e:i=j
 ·rw[if_pos e]at hj;rw[<-bC (bC hj),hs.page];exact h.held i f hi
 rw[if_neg e]at hj;exact h.held j u hj
theorem xti(h:PS E W P D FB M n kp q d aj k c){i:Nat}{f:Fr}(hi:q.ag[i]?=some (some f))(hp:0<f.ak)(hkp:0<kp/\kp<=1000000) :
  Calls Tryz.prog 51 #[.pointer f.blk] W λ e w'=>e= .returned (.tuple #[])/\PS E w' P D FB M n (kp-1) {ag:=q.ag.set i (some {f with ak:=f.ak-1}),hand:=q.hand,ak:=q.ak-1,op:=q.op} d aj k c/\Kept E W w':=by
 have hfr:=h.pd.pool.each i f hi;have hpos:=h.ok.pos i f hi;have c0:=hfr.box.c0;have c3:=hfr.box.c3;have f3:=hfr.box.free 3;have h1:=h.pd.flag (g:={f with ak:=f.ak-1}) hi ⟨rfl,rfl,rfl,rfl,rfl⟩ ((Only.refl f.blk W).set 3 (.int .i64 (f.ak-1))) (hfr.box.set 3 (.int .i64 (f.ak-1)));have hb1:=h1.1.pool.box;have aJ:(q.ag.set i (some {f with ak:=f.ak-1})).length=q.ag.length:=bB;simp only at hb1;have c4:=hb1.c4;have f4:=hb1.free 4;have h2:=h1.1.own ((Only.refl P _).set 4 (.int .i64 (q.ak-1))) (hand:=q.hand) (ak:=q.ak-1) (hb1.set 4 (.int .i64 (q.ak-1)))
 have h3:=h.flag (g:={f with ak:=f.ak-1}) hi ⟨rfl,rfl,rfl,rfl,rfl⟩ (λ hh=>hh) (by show 0<=f.ak-1/\f.ak-1<=1000000;omega) (w1:=(W.setCell (f.blk,3) (.int .i64 (f.ak-1))).setCell (P,4) (.int .i64 (q.ak-1))) (by
  rw[show q.ak-f.ak+({f with ak:=f.ak-1}:Fr).ak=q.ak-1 by show q.ak-f.ak+(f.ak-1)=_;omega];exact h2.1)
 rw[show kp-f.ak+({f with ak:=f.ak-1}:Fr).ak=kp-1 by show kp-f.ak+(f.ak-1)=_;omega,show q.ak-f.ak+({f with ak:=f.ak-1}:Fr).ak=q.ak-1 by show q.ak-f.ak+(f.ak-1)=_;omega]at h3;have HF:=zH (zA h3 (h1.2.trans h2.2));have R5:0<q.ak:=by rw[h.ak];exact hkp.1
 have KD:q.ak<=1000000:=by rw[h.ak];exact hkp.2
 have hne:f.blk≠P:=(h.pd.pool.off i (some f) f.blk hi (.inl rfl)).1;clear h1 h2 h3 hb1 hfr aJ
 go_enter Tryz.func51,Tryz.ntmps51
 go_wp2
 go_end0
 exact⟨rfl,HF.out.1,HF.out.2⟩
theorem xoa(u:FrameMode)(h:PS E W P D FB M n kp q d aj k c){i:Nat}{f:Fr}(hi:q.ag[i]?=some (some f))(hp:0<f.ak)(hkp:0<kp/\kp<=1000000) :
  CallsD Tryz.prog 51 #[.pointer f.blk] u W λ e u' w'=>u'=u/\(e= .returned (.tuple #[])/\PS E w' P D FB M n (kp-1) {ag:=q.ag.set i (some {f with ak:=f.ak-1}),hand:=q.hand,ak:=q.ak-1,op:=q.op} d aj k c/\Kept E W w'):=by
 have hfr:=h.pd.pool.each i f hi;have hpos:=h.ok.pos i f hi;have c0:=hfr.box.c0;have c3:=hfr.box.c3;have f3:=hfr.box.free 3;have h1:=h.pd.flag (g:={f with ak:=f.ak-1}) hi ⟨rfl,rfl,rfl,rfl,rfl⟩ ((Only.refl f.blk W).set 3 (.int .i64 (f.ak-1))) (hfr.box.set 3 (.int .i64 (f.ak-1)));have hb1:=h1.1.pool.box;have aJ:(q.ag.set i (some {f with ak:=f.ak-1})).length=q.ag.length:=bB;simp only at hb1;have c4:=hb1.c4;have f4:=hb1.free 4;have h2:=h1.1.own ((Only.refl P _).set 4 (.int .i64 (q.ak-1))) (hand:=q.hand) (ak:=q.ak-1) (hb1.set 4 (.int .i64 (q.ak-1)))
 have h3:=h.flag (g:={f with ak:=f.ak-1}) hi ⟨rfl,rfl,rfl,rfl,rfl⟩ (λ hh=>hh) (by show 0<=f.ak-1/\f.ak-1<=1000000;omega) (w1:=(W.setCell (f.blk,3) (.int .i64 (f.ak-1))).setCell (P,4) (.int .i64 (q.ak-1))) (by
  rw[show q.ak-f.ak+({f with ak:=f.ak-1}:Fr).ak=q.ak-1 by show q.ak-f.ak+(f.ak-1)=_;omega];exact h2.1)
 rw[show kp-f.ak+({f with ak:=f.ak-1}:Fr).ak=kp-1 by show kp-f.ak+(f.ak-1)=_;omega,show q.ak-f.ak+({f with ak:=f.ak-1}:Fr).ak=q.ak-1 by show q.ak-f.ak+(f.ak-1)=_;omega]at h3;have HF:=zH (zA h3 (h1.2.trans h2.2));have R5:0<q.ak:=by rw[h.ak];exact hkp.1
 have KD:q.ak<=1000000:=by rw[h.ak];exact hkp.2
 have hne:f.blk≠P:=(h.pd.pool.off i (some f) f.blk hi (.inl rfl)).1;clear h1 h2 h3 hb1 hfr aJ
 go_enter_d Tryz.func51,Tryz.ntmps51
 go_wp2
 go_end0
 exact⟨rfl,HF.out.1,HF.out.2⟩
theorem PD.uC(h:PD E W P D FB M q d aj){op':Option jQ}(hos:W'.os=W.os)(KE:W'.tape=W.tape)(hout:W'.output=W.output)(hsz:W.heap.size<=W'.heap.size)(hb:aI W' P (pF D FB q.ag.length M q.hand q.ak op'))(hop:vQ W' op')(hown:∀j,jJ op' j->jJ q.op j\/W.heap.size<=j)
  (hk:∀j,j<W.heap.size->j≠P->¬jJ q.op j->W'.heap[j]?=W.heap[j]?):PD E W' P D FB M {ag:=q.ag,hand:=q.hand,ak:=q.ak,op:=op'} d aj/\Kept E W W':=by
 have hp:=h.pool;obtain⟨f,hf,hm⟩:=hp.map;have zY:=hp.box.lt;have kN:=hp.uB.lt;have Ry:M<W.heap.size:=hp.lt (.inr (.inr (.inl rfl)));have hno:∀j,jJ q.op j->j≠P/\j≠FB/\j≠M:=hp.iU;have CQ:∀(i:Nat) (o:Option Fr) (j:Nat),q.ag[i]?=some o->oo o j->W'.heap[j]?=W.heap[j]?:=λ i o j hi ho=>hk j (hp.yS hi ho) (hp.off i o j hi ho).1 (hp.nD i o j hi ho);refine h.moves (q':={ag:=q.ag,hand:=q.hand,ak:=q.ak,op:=op'}) ⟨hos,KE,hout,hsz,λ j hj hn=>hk j hj (λ e=>hn (.inl e)) (λ e=>hn (.inr (.inr (.inr (.inl e))))),λ j hj=>?_⟩ ⟨hb,hp.uB.af hsz (hk FB kN hp.PF.symm (λ e=>(hno FB e).2.1 rfl)),⟨f,hf,hm.af (hk M Ry hp.PM.symm (λ e=>(hno M e).2.2 rfl))⟩,λ i g hi=>(hp.each i g hi).af (CQ i _ _ hi (.inl rfl)) (CQ i _ _ hi (.inr rfl)),hp.PF,hp.PM,hp.FM,hp.off,hp.two,hop,λ j hj=>?_,λ i o j hi ho hj=>?_,λ j hj=>?_⟩
 ·rcases hj with hj|hj|hj|hj|hj
  ·exact .inl (.inl hj)
  ·exact .inl (.inr (.inl hj))
  ·exact .inl (.inr (.inr (.inl hj)))
  ·rcases hown j hj with h1|h1
   ·exact .inl (.inr (.inr (.inr (.inl h1))))
   exact .inr h1
  exact .inl (.inr (.inr (.inr (.inr hj))))
 ·rcases hown j hj with h1|h1
  ·exact hno j h1
  exact⟨by omega,by omega,by omega⟩
 ·rcases hown j hj with h1|h1
  ·exact hp.nD i o j hi ho h1
  have:=hp.yS hi ho;omega
 rcases hj with hj|hj|hj|hj|hj
 ·exact hp.tab j (.inl hj)
 ·exact hp.tab j (.inr (.inl hj))
 ·exact hp.tab j (.inr (.inr (.inl hj)))
 ·rcases hown j hj with h1|h1
  ·exact hp.tab j (.inr (.inr (.inr (.inl h1))))
  have:=h.dd.tab.lt;omega
 exact hp.tab j (.inr (.inr (.inr (.inr hj))))
theorem PS.op{op':Option jQ}(h:PS E W P D FB M n kp q d aj k c)(hl:∀o,op'=some o->o.wn<=k/\o.made.length<=k/\o.gone.length<=k)(hp:PD E W' P D FB M {ag:=q.ag,hand:=q.hand,ak:=q.ak,op:=op'} d aj):PS E W' P D FB M n kp {ag:=q.ag,hand:=q.hand,ak:=q.ak,op:=op'} d aj k c:=
 ⟨hp,⟨h.ok.ak,h.ok.pos,h.ok.hand,h.ok.few⟩,h.kL,h.held,h.ak,h.len,h.calm.same _ _ _,hl⟩
def xii(o:Option jQ)(p:Int)(s:List UInt8):Option jQ:=match o with
 | none=>none
 | some o=>if p∈o.made\/(o.was p).isSome=true then some o else some {o with was:=λ j=>if j=p then some s else o.was j,wn:=o.wn+1}
def xzt(o:Option jQ):Prop:=∀x,o=some x->x.wn<1000000000
theorem xtj{o:Option jQ}{p:Int}{s:List UInt8}(h:∀x,o=some x->x.wn<=k/\x.made.length<=k/\x.gone.length<=k):∀x,xii o p s=some x->x.wn<=k+1/\x.made.length<=k+1/\x.gone.length<=k+1:=λ x hx=>by
 unfold xii at hx
 cases o with
 | none=>cases hx
 | some o=>
  have h1:=h o rfl;replace hx:(if p∈o.made\/(o.was p).isSome=true then some o else some {o with was:=λ j=>if j=p then some s else o.was j,wn:=o.wn+1})=some x:=hx
  split at hx
  ·rw[<-bC hx];omega
  rw[<-bC hx];show o.wn+1<=_/\o.made.length<=_/\o.gone.length<=_;omega
theorem xww(h:PD E W P D FB M q d aj){i:Nat}{f:Fr}(hi:q.ag[i]?=some (some f))(hw:xzt q.op) :
  Calls Tryz.prog 92 #[.pointer P,.pointer f.blk] W λ e w'=>e= .returned (.tuple #[])/\PD E w' P D FB M {ag:=q.ag,hand:=q.hand,ak:=q.ak,op:=xii q.op f.page f.data} d aj/\Kept E W w':=by
 have wV:∀x,PD E (W.drewN x) P D FB M q d aj/\Kept E W (W.drewN x):=λ x=>
  have hb:Below W W (W.drewN x):=UK.aG (aP _ _) x
  ⟨h.next hb,Kept.of_below hb (λ j hj=>h.dd.there j (.inl hj))⟩
 have c5:=h.pool.box.c5;have c6:=h.pool.box.c6;have c7:=h.pool.box.c7;have hfr:=h.pool.each i f hi;have b1:=hfr.box.c1;have b2:=hfr.box.c2
 cases hq:q.op with
 | none=>
  rw[hq]at c5;simp only[yg,Option.isSome_none]at c5
  go_enter Tryz.func92,Tryz.ntmps92
  go_wp2
  go_quiet (fail)
  go_wp2;refine bodyPost_ret (results_none rfl _ _ _) rfl ?_
  refine⟨rfl,?_,(wV _).2⟩;have h2:=(wV nq).1;rw[show q={ag:=q.ag,hand:=q.hand,ak:=q.ak,op:=none} by rw[<-hq]]at h2;exact h2
 | some o=>
  have ho:=h.pool.op o hq;have hwn:=hw o hq;rw[hq]at c5 c6 c7;simp only[yg,uA,Gb,Option.isSome_some]at c5 c6 c7;have HD:=zH wV;have hcn:=λ x=>R3 (ho.made.af (W':=W.drewN x) (aZ _) (λ _ _=>rfl)) ho.few.2.1 f.page;clear wV;by_cases hm:f.page∈o.made
  ·have HK:Hid (xii (some o) f.page f.data=some o):=by show _=_;unfold xii;show(if _ then _ else _)=_;rw[if_pos (.inl hm)]
   rw[decide_eq_true hm]at hcn;clear hm
   go_enter Tryz.func92,Tryz.ntmps92
   go_wp2
   go_quiet (first|(go_at_call 84;exact Calls.quiet_of_same (hcn _)))
   go_wp2;refine bodyPost_ret (results_none rfl _ _ _) rfl ?_
   refine⟨rfl,?_,(HD.out _).2⟩;have h2:=(HD.out nq).1;rw[HK.out];rw[show q={ag:=q.ag,hand:=q.hand,ak:=q.ak,op:=some o} by rw[<-hq]]at h2;exact h2
  rw[decide_eq_false hm]at hcn
  go_enter Tryz.func92,Tryz.ntmps92
  go_wp2
  go_quiet (first|(go_at_call 84;exact Calls.quiet_of_same (hcn _)))
  obtain⟨p1,k1⟩:=HD.out nq;generalize W.drewN nq=w1 at p1 k1 ⊢;have ho:=p1.pool.op o hq;have c6:=p1.pool.box.c6;rw[hq]at c6;simp only[uA]at c6;have hfr:=p1.pool.each i f hi;have b1:=hfr.box.c1;have b2:=hfr.box.c2;have hlk:=λ x=>(ho.was.af (W':=w1.drewN x) rfl).get (t:=85) Tryz.underlying3 Tryz.underlying9 Tryz.underlying85 (λ w=>by kernel_rfl) f.page hfr.page
  have hd1:∀x,PD E (w1.drewN x) P D FB M q d aj/\Kept E W (w1.drewN x):=λ x=>
   have hb:Below w1 w1 (w1.drewN x):=UK.aG (aP _ _) x
   ⟨p1.next hb,k1.trans (Kept.of_below hb (λ j hj=>p1.dd.there j (.inl hj)))⟩
  have KH:=zH (zA hd1 (zA hq hm));clear hcn HD h hm c7 c5 hd1
  cases hw0:o.was f.page with
  | some s=>
   rw[hw0]at hlk;have hlk2:∀x,(Instr.lookup 85 (.map (some o.wb)) (.int .i64 f.page) true).run Tryz.prog (w1.drewN x)= .ok (.tuple #[.string (UK.str s),.bool true]) (w1.drewN x):=hlk;have HW0:=zH hw0;clear hlk hw0 ho hfr p1 hq;go_wp2
   go_quiet (fail)
   go_wp2
   go_end0
   obtain⟨hd,hq,hm⟩:=KH.out;refine⟨rfl,?_,(hd _).2⟩
   have e:xii (some o) f.page f.data=some o:=by
    show(if _ then _ else _)=_;rw[if_pos (.inr (by rw[HW0.out];rfl))]
   rw[e];have p1:=(hd nq).1;rw[show q={ag:=q.ag,hand:=q.hand,ak:=q.ak,op:=some o} by rw[<-hq]]at p1;exact p1
  | none=>
   rw[hw0]at hlk;have hlk2:∀x,(Instr.lookup 85 (.map (some o.wb)) (.int .i64 f.page) true).run Tryz.prog (w1.drewN x)= .ok (.tuple #[.string (UK.str []),.bool false]) (w1.drewN x):=hlk;have HW0:=zH hw0;clear hlk hw0 ho hfr p1 hq;go_wp2
   go_quiet (fail)
   obtain⟨hd,hq,hm⟩:=KH.out;obtain⟨p1,k1⟩:=hd nq;generalize w1.drewN nq=w2 at p1 k1 ⊢;clear hd hlk2 b1 b2 c6 KH;have c6:=p1.pool.box.c6;rw[hq]at c6;simp only[uA]at c6;have hfr:=p1.pool.each i f hi;have b1:=hfr.box.c1;have b2:=hfr.box.c2;have ho:=p1.pool.op o hq;obtain⟨y,hy,hyl,Kw⟩:=hfr.bytes;have hcap:=hfr.cap;have hcv:=UK.Cz (P:=Tryz.prog) (src:=88) (dst:=9) Tryz.underlying88 Tryz.underlying5 Tryz.underlying9 hy.drew 0 504 f.cap (by omega);rw[lL,Kw]at hcv;obtain⟨w3,hput,C9,o3⟩:=(ho.was.af (W':=w2.drew) rfl).put (t:=85) Tryz.underlying3 Tryz.underlying9 Tryz.underlying85 (by unfold maxLen;omega) f.page f.data hfr.page (by rw[hfr.len];decide);rw[HW0.out]at C9
   have KF:Hid (PD E w3 P D FB M {ag:=q.ag,hand:=q.hand,ak:=q.ak,op:=xii (some o) f.page f.data} d aj/\Kept E W w3):=by
    show _/\_;have o4:Only o.wb w2 w3:=(Only.refl o.wb w2).drew.trans o3
    have e:xii (some o) f.page f.data=some {o with was:=λ j=>if j=f.page then some f.data else o.was j,wn:=o.wn+1}:=by
     show(if _ then _ else _)=_;rw[if_neg (by rw[HW0.out];rintro(a|a);exact hm a;cases a)]
    have hwb:jJ q.op o.wb:=by rw[hq];exact .inl rfl
    have hPw:P≠o.wb:=((p1.pool.iU _ hwb).1).symm;rw[e]
    have h2:=p1.uC (W':=w3) (op':=some {o with was:=λ j=>if j=f.page then some f.data else o.was j,wn:=o.wn+1}) o4.os o4.tape o4.output o4.size (by
     have hb:=p1.pool.box.only o4 hPw;rw[hq]at hb;exact hb) (λ x hx=>by
     obtain rfl:=bC hx;refine⟨?_,ho.made.af o4.size (λ j hj=>o4.block j (ho.made.lt hj) (λ e=>ho.wm (e▸hj))),ho.gone.af o4.size (λ j hj=>o4.block j (ho.gone.lt hj) (λ e=>ho.wg (e▸hj))),ho.wm,ho.wg,ho.mg,ho.wT,ho.wU,⟨by show o.wn+1<=_;omega,ho.few.2⟩⟩;exact C9.tight) (λ j hj=>.inl (by rw[hq];exact hj)) (λ j hj _ hjo=>o4.block j hj (λ e=>hjo (e▸hwb)))
    exact⟨h2.1,k1.trans h2.2⟩
   clear C9 o3 ho hy hyl Kw hcap hm p1 hfr k1;go_wp2
   go_region
   go_end0
   exact⟨rfl,KF.out.1,KF.out.2⟩
theorem xwx(h:PS E W P D FB M n kp q d aj k c){i:Nat}{f:Fr}(hi:q.ag[i]?=some (some f))(hk:k<900000000) :
  Calls Tryz.prog 57 #[.pointer f.blk] W λ e w'=>e= .returned (.slice f.db 504 f.cap)/\PS E w' P D FB M n kp {ag:=q.ag.set i (some {f with bH:=true}),hand:=q.hand,ak:=q.ak,op:=xii q.op f.page f.data} d aj (k+1) c/\Kept E W w':=by
 have hfr:=h.pd.pool.each i f hi;have hpos:=h.ok.pos i f hi;have c0:=hfr.box.c0;have hkeep:=xww h.pd hi (λ x hx=>by have:=h.lim x hx;omega);have hlim:=xtj (p:=f.page) (s:=f.data) h.lim;generalize xii q.op f.page f.data=op' at hkeep hlim ⊢
 have hst:∀w1,PD E w1 P D FB M {ag:=q.ag,hand:=q.hand,ak:=q.ak,op:=op'} d aj->PS E (w1.setCell (f.blk,5) (.bool true)) P D FB M n kp {ag:=q.ag.set i (some {f with bH:=true}),hand:=q.hand,ak:=q.ak,op:=op'} d aj (k+1) c/\Kept E w1 (w1.setCell (f.blk,5) (.bool true))/\w1.cell? (f.blk,5)=some (.bool f.bH)/\w1.frozen? ⟨f.blk,5,none⟩=false/\(w1.setCell (f.blk,5) (.bool true)).cell? (f.blk,2)=some (.slice f.db 504 f.cap):=λ w1 p1=>by
  have hx:=(h.up (jy k)).op hlim p1;have hbx:=(hx.pd.pool.each i f hi).box;have h1:=hx.pd.flag (g:={f with bH:=true}) hi ⟨rfl,rfl,rfl,rfl,rfl⟩ ((Only.refl f.blk _).set 5 (.bool true)) (hbx.set 5 (.bool true))
  have h3:=hx.flag (g:={f with bH:=true}) hi ⟨rfl,rfl,rfl,rfl,rfl⟩ (λ _=>rfl) hpos (by
   show PD E _ P D FB M {ag:=q.ag.set i (some {f with bH:=true}),hand:=q.hand,ak:=q.ak-f.ak+f.ak,op:=op'} d aj;rw[show q.ak-f.ak+f.ak=q.ak by omega];exact h1.1)
  replace h3:PS E (w1.setCell (f.blk,5) (.bool true)) P D FB M n (kp-f.ak+f.ak) {ag:=q.ag.set i (some {f with bH:=true}),hand:=q.hand,ak:=q.ak-f.ak+f.ak,op:=op'} d aj (k+1) c:=h3;rw[show q.ak-f.ak+f.ak=q.ak by omega,show kp-f.ak+f.ak=kp by omega]at h3;exact⟨h3,h1.2,hbx.cell 5 _ rfl,hbx.free 5,(hbx.set 5 (.bool true)).cell 2 _ rfl⟩
 have HST:=zH hst;clear hst hfr hpos
 go_enter Tryz.func57,Tryz.ntmps57
 go_wp2_with fail
 refine hkeep.mono ?_;rintro e w1 ⟨rfl,p1,k1⟩;obtain⟨s1,k2,c5,f5,c2⟩:=HST.out w1 p1;have HS:=zH s1;have HK:=zH (k1.trans k2);clear HST hkeep p1 s1 k1 k2 c0;go_wp2;go_ret;exact⟨rfl,HS.out,HK.out⟩
theorem PS.bytes(h:PS E W P D FB M n kp q d aj k c){i:Nat}{f:Fr}(hi:q.ag[i]?=some (some f))(hd:f.bH=true)(ho:Only f.db W W'){y:List UInt8}(hy:aO W' f.db y)(hyl:y.length=f.cap) :
  PS E W' P D FB M n kp {ag:=q.ag.set i (some {f with data:=y.take 504}),hand:=q.hand,ak:=q.ak,op:=q.op} d aj k (dI c f.page.toNat (y.take 504))/\Kept E W W':=by
 have hp:=h.pd.pool;have hl:=(dn.1 hi).1;have hfr:=hp.each i f hi;have hcap:=hfr.cap;obtain⟨mf,hf,hm⟩:=hp.map;have hoff:=hp.off i (some f) f.db hi (.inr rfl)
 have hc:cntF (q.ag.set i (some {f with data:=y.take 504}))=cntF q.ag:=by
  have:=Kr q.ag i (some f) (some {f with data:=y.take 504}) hi
  simpa using this
 have hown:∀b',oo (some {f with data:=y.take 504}) b'->oo (some f) b'\/W.heap.size<=b':=λ b' hb=>.inl hb
 have hmv:=h.pd.moves (q':={ag:=q.ag.set i (some {f with data:=y.take 504}),hand:=q.hand,ak:=q.ak,op:=q.op}) (W':=W') ⟨ho.os,ho.tape,ho.output,ho.size,λ c hc hn=>ho.block c hc (λ e=>hn (e▸ .inr (.inr (.inr (.inr ⟨i,some f,hi,.inr rfl⟩))))),λ c hc=>jK.sN hi hown hc⟩ (by
  refine hp.sN hi h.pd.dd.tab.lt (hp.box.af (ho.block _ hp.box.lt hoff.1.symm)) ho.size (λ b hb=>ho.block b (hp.op.lt hb) (λ e=>hp.nD i (some f) _ hi (.inr rfl) (e▸hb))) ?_ ⟨mf,hf.turn hi rfl,by rw[hc];exact hm.only ho hoff.2.2.symm⟩ (λ a u c ha hu hc2=>?_) (λ g' hg'=>?_) hown
  ·rw[Xv q.ag i (some f) (some {f with data:=y.take 504}) hi rfl];exact hp.uB.only ho hoff.2.1.symm
  ·have hlt2:=hp.yS hu hc2;refine ho.block c hlt2 (λ e=>?_);subst e;exact hp.two i a (some f) u _ (eU ha) hi hu (.inr rfl) hc2
  obtain rfl:=bC hg';exact⟨hfr.box.af (ho.block _ (hp.yS hi (.inl rfl)) hfr.ne),⟨y,hy,hyl,rfl⟩,by show(y.take 504).length=_;rw[zt];omega,hfr.cap,hfr.page,hfr.ne⟩)
 refine⟨⟨hmv.1,?_,h.kL,λ a u ha=>?_,h.ak,by show(q.ag.set i _).length=n;rw[bB];exact h.len,h.calm.Rq hi hd h.held (λ j g hj e=>h.inj hi hj e.symm) (y.take 504) _ _ _,h.lim⟩,hmv.2⟩
 ·have:=h.ok.set hi (u:=some {f with data:=y.take 504}) (λ x hx=>by rw[<-bC hx];exact h.ok.pos i f hi);rw[show q.ak-iH (some f)+iH (some {f with data:=y.take 504})=q.ak by show q.ak-f.ak+f.ak=q.ak;omega]at this;exact this
 replace ha:(q.ag.set i (some {f with data:=y.take 504}))[a]?=some (some u):=ha;rw[gB _ _ _ _ hl]at ha;by_cases e:i=a
 ·rw[if_pos e]at ha;rw[<-bC (bC ha)];exact h.held i f hi
 rw[if_neg e]at ha;exact h.held a u ha
end
end Go.Proofs.YtlipgbnnbefhjaaGreatDoor
