/- Facts on texts and trees on pages. -/
import Derived.Test.YtgpmiliahonaoaaGreatDoorKPoolQc
import Derived.Deep.RegionWith
import Derived.Deep.DeepCutAuto
import Derived.StillTailTactics
set_option maxRecDepth 100000
set_option maxHeartbeats 8000000
set_option linter.unusedSimpArgs false
namespace Go.Proofs.YtgpmiliahonaoaaGreatDoor
open Go.RowKit
open UK (str aF nth Only w32 Row)
open Go.BigFrame
structure Sound(d:Dk)(au:Nat):Prop where
 mark:∀p,p<au->d.fP.getD p false=decide (p∈d.free)
 nodup:d.free.Nodup
theorem OL:∀(n:Nat) (l:List Nat),l.Nodup->(∀x,x∈l->x<n)->l.length<=n
 | 0,[],_,_=>aO _
 | 0,x::_,_,h=>absurd (h x (aT ..)) (jO _)
 | n+1,l,hn,h=>by
  by_cases hm:n∈l
  ·have h1:=OL n (l.erase n) (hn.erase n) (λ x hx=>by
    have h2:=h x (List.mem_of_mem_erase hx);have h3:x≠n:=λ e=>by subst e;exact hn.not_mem_erase hx
    omega)
   rw[List.length_erase_of_mem hm]at h1;omega
  have h1:=OL n l hn (λ x hx=>by
   have h2:=h x hx;have h3:x≠n:=λ e=>by subst e;exact hm hx
   omega)
  omega
section
variable{d:Dk}{au:Nat}
theorem Sound.has(s:Sound d au)(p:Nat):aX d au p=decide (1<=p/\p<au/\p∉d.free):=by
 unfold aX;rw[Int.toNat_natCast];by_cases h:1<=p/\p<au
 ·rw[decide_eq_true (show(1:Int)<=(p:Int)/\(p:Int)<au by omega),Bool.true_and,s.mark p h.2];by_cases hm:p∈d.free<;>simp[hm,h.1,h.2]
 rw[decide_eq_false (show ¬((1:Int)<=(p:Int)/\(p:Int)<au) by omega),Bool.false_and];exact(decide_eq_false (λ h'=>h ⟨h'.1,h'.2.1⟩)).symm
theorem Sound.kP(s:Sound d au)(p:Int):aX d au p=decide (1<=p/\p<au/\p.toNat∉d.free):=by
 by_cases h:1<=p
 ·obtain⟨k,rfl⟩:∃k:Nat,p=k:=⟨p.toNat,by omega⟩;rw[s.has k,Int.toNat_natCast];exact decide_eq_decide.2 ⟨λ ⟨a,b,c⟩=>⟨by omega,by omega,c⟩,λ ⟨a,b,c⟩=>⟨by omega,by omega,c⟩⟩
 unfold aX;rw[decide_eq_false (λ h'=>h h'.1),Bool.false_and];exact(decide_eq_false (λ h'=>h h'.1)).symm
theorem Sound.less(s:Sound d au)(f:Fit d au){p:Nat}(hp:p<au)(hm:p∉d.free):d.free.length<au:=by
 have:=OL au (d.free++[p]) (bN.2 ⟨s.nodup,List.pairwise_singleton _ _,λ a ha b hb=>by
  rw[bz.1 hb]
  intro e;subst e;exact hm ha⟩) (λ x hx=>by
   rcases dD.1 hx with hx|hx
   ·exact(f.free x hx).2
   rw[bz.1 hx];exact hp)
 rw[zl]at this;exact this
theorem Sound.of_same{d':Dk}(s:Sound d au)(h1:d'.free=d.free)(h2:d'.fP=d.fP):Sound d' au:=⟨by rw[h1,h2];exact s.mark,by rw[h1];exact s.nodup⟩
theorem T9(l:List Bool)(i j:Nat)(b:Bool)(hi:i<l.length):(l.set i b).getD j false=if i=j then b else l.getD j false:=by
 rw[fE,fE,List.getElem?_set];by_cases h:i=j
 ·subst h;rw[if_pos rfl,if_pos rfl,if_pos hi];rfl
 rw[if_neg h,if_neg h]
theorem Sound.give(s:Sound d au)(f:Fit d au){p:Nat}(hp:p<au)(hm:p∉d.free):Sound (tu d p) au:=by
 refine⟨λ q hq=>?_,bN.2 ⟨s.nodup,List.pairwise_singleton _ _,λ a ha b hb=>by
  rw[bz.1 hb];intro e;subst e;exact hm ha⟩⟩
 show(d.fP.set p true).getD q false=decide (q∈d.free++[p]);rw[T9 _ _ _ _ (by rw[f.flags];exact hp)];by_cases h:p=q
 ·subst h;simp
 rw[if_neg h,s.mark q hq];simp[dz h]
theorem Sound.gL(s:Sound d au)(f:Fit d au){l:List Nat}{p:Nat}(hl:d.free=l++[p]):Sound (gL d l p) au:=by
 have hn:=s.nodup;rw[hl]at hn;have hn2:=bN.1 hn;have hp:=f.free p (by rw[hl];exact lI _ (bz.2 rfl));refine⟨λ q hq=>?_,hn2.1⟩;show(d.fP.set p false).getD q false=decide (q∈l);rw[T9 _ _ _ _ (by rw[f.flags];exact hp.2)];by_cases h:p=q
 ·subst h;rw[if_pos rfl];exact(decide_eq_false (λ hm=>hn2.2.2 p hm p (bz.2 rfl) rfl)).symm
 rw[if_neg h,s.mark q hq,hl];simp[dz h]
theorem Sound.takeN(s:Sound d au)(f:Fit d au)(hl:d.free=[]):Sound (takeN d au) (au+1):=by
 refine⟨λ q hq=>?_,s.nodup⟩;show(d.fP++[false]).getD q false=decide (q∈d.free);rw[hl,fE];by_cases h:q<au
 ·rw[bI (by rw[f.flags];exact h),<-fE,s.mark q h,hl]
 have e:q=d.fP.length:=by rw[f.flags];omega
 rw[e,bP (aO _),kN];simp
end
structure Still(d:Dk)(aC:Int)(free:List Nat)(puts:Int):Prop where
 aC:d.aC=aC
 free:d.free=free
 wl:d.wl= -1
 puts:d.puts=puts
theorem Mc(pages:Int):mI pages={vN pages with wl:= -1,puts:=1,x:=UK.wr (vN pages).x 0 (iX 0 (Gc (vN pages) 1))}:=by
 unfold mI AZ;rw[if_neg (show ¬(vN pages).wl=0 by show ¬(-1:Int)=0;omega)];rfl
theorem xzk(pages:Int):(mI pages).rl= -1:=by rw[Mc];rfl
theorem xqp(pages:Int):(mI pages).reads=0:=by rw[Mc];rfl
theorem Md(pages:Int):Still (mI pages) (pF pages) [] 1:=by rw[Mc];exact⟨rfl,rfl,rfl,rfl⟩
theorem xqq(pages:Int):Sound (mI pages) 1:=by
 rw[Mc];refine⟨λ p hp=>?_,List.Pairwise.nil⟩;obtain rfl:p=0:=by omega
 rfl
section
variable{d:Dk}{aC:Int}{free:List Nat}{puts:Int}
end
def Bf(d:Dk)(au:Nat)(p:Int)(s:List UInt8):Int:=if aX d au p=false then 4 else if s.length≠504 then 1 else iU d.wl
def wU(d:Dk)(au:Nat)(p:Int)(s:List UInt8):Dk:=if aX d au p=false then d else if s.length≠504 then d else if d.wl=0 then {d with wl:= -1} else CQ d p.toNat s
def Gi(d:Dk)(au:Nat)(p:Int):Int:=if aX d au p=false then 4 else if d.rl=0 then 7 else xP d.x p.toNat
def Gj(d:Dk)(au:Nat)(p:Int):List UInt8:=if aX d au p=false then [] else if d.rl=0 then [] else jX d.x p.toNat
def CU(d:Dk)(au:Nat)(p:Int):Dk:=if aX d au p=false then d else if d.rl=0 then {d with rl:= -1} else CS d
def Gl(d:Dk)(au:Nat)(p:Int):Int:=if aX d au p=false then 4 else iU d.wl
def CV(d:Dk)(au:Nat)(p:Int):Dk:=if aX d au p=false then d else if d.wl=0 then {d with wl:= -1} else tu d p.toNat
structure Ok(d:Dk)(au:Nat)(k:Nat):Prop where
 fit:Fit d au
 so:Sound d au
 puts:d.puts<=k+1
 reads:d.reads<=k
def tE(d:Dk)(au:Nat):Int:=if d.aC<=au/\d.free=[] then 6 else if d.wl=0 then 7 else 0
def tP(d:Dk)(au:Nat):Nat:=if d.aC<=au/\d.free=[] then 0 else if d.wl=0 then 0 else if d.free=[] then au else d.free.getLastD 0
def tD(d:Dk)(au:Nat):Dk:=if d.aC<=au/\d.free=[] then d else if d.wl=0 then {d with wl:= -1} else if d.free=[] then takeN d au else gL d d.free.dropLast (d.free.getLastD 0)
def tC(d:Dk)(au:Nat):Nat:=if d.aC<=au/\d.free=[] then au else if d.wl=0 then au else if d.free=[] then au+1 else au
theorem Me(d:Dk)(au:Nat) :
  (d.aC<=au/\d.free=[]/\tE d au=6/\tP d au=0/\tD d au=d/\tC d au=au) \/
  (((au:Int)<d.aC\/0<d.free.length)/\d.wl=0/\tE d au=7/\tP d au=0/\tD d au={d with wl:= -1}/\tC d au=au) \/
  ((au:Int)<d.aC/\d.wl≠0/\d.free=[]/\tE d au=0/\tP d au=au/\tD d au=takeN d au/\tC d au=au+1) \/
  (d.wl≠0/\∃l p,d.free=l++[p]/\tE d au=0/\tP d au=p/\tD d au=gL d l p/\tC d au=au):=by
 by_cases h1:d.aC<=au/\d.free=[]
 ·exact .inl ⟨h1.1,h1.2,by unfold tE;rw[if_pos h1],by unfold tP;rw[if_pos h1],by unfold tD;rw[if_pos h1],by unfold tC;rw[if_pos h1]⟩
 have hor:(au:Int)<d.aC\/0<d.free.length:=by
  by_cases hm:d.aC<=au
  ·exact .inr (List.length_pos_iff.2 (λ e=>h1 ⟨hm,e⟩))
  exact .inl (by omega)
 by_cases h2:d.wl=0
 ·exact .inr (.inl ⟨hor,h2,by unfold tE;rw[if_neg h1,if_pos h2],by unfold tP;rw[if_neg h1,if_pos h2],by unfold tD;rw[if_neg h1,if_pos h2],by unfold tC;rw[if_neg h1,if_pos h2]⟩)
 by_cases h3:d.free=[]
 ·refine .inr (.inr (.inl ⟨?_,h2,h3,by unfold tE;rw[if_neg h1,if_neg h2],by unfold tP;rw[if_neg h1,if_neg h2,if_pos h3],by unfold tD;rw[if_neg h1,if_neg h2,if_pos h3],by unfold tC;rw[if_neg h1,if_neg h2,if_pos h3]⟩));rcases hor with h|h
  ·exact h
  rw[h3]at h;simp at h
 refine .inr (.inr (.inr ⟨h2,d.free.dropLast,d.free.getLastD 0,?_,by unfold tE;rw[if_neg h1,if_neg h2],by unfold tP;rw[if_neg h1,if_neg h2,if_neg h3],by unfold tD;rw[if_neg h1,if_neg h2,if_neg h3],by unfold tC;rw[if_neg h1,if_neg h2,if_neg h3]⟩));have:=List.dropLast_concat_getLast h3;rw[List.getLastD_eq_getLast?,List.getLast?_eq_some_getLast h3];exact this.symm
section
variable{S:Nat->Prop}{N k:Nat}{W w:World}{D au gp cp fc:Nat}{fo:Option Addr}{d:Dk}
theorem Ok.take(h:Ok d au k)(hk:k<900000000):Ok (tD d au) (tC d au) (k+1):=by
 have hp:=h.puts;have hr:=h.reads;have h3:d.puts+1<1000000000:=by omega
 rcases Me d au with⟨_,_,_,_,e,c⟩|⟨_,_,_,_,e,c⟩|⟨hm,_,hf,_,_,e,c⟩|⟨_,l,p,hl,_,_,e,c⟩
 ·rw[e,c];exact⟨h.fit,h.so,by omega,by omega⟩
 ·rw[e,c];exact⟨Gh h.fit (-1) (by omega),h.so.of_same rfl rfl,by show d.puts<=_;omega,by show d.reads<=_;omega⟩
 ·rw[e,c];exact⟨OH h.fit h3 hf hm,h.so.takeN h.fit hf,by show d.puts+1<=_;omega,by show d.reads<=_;omega⟩
 rw[e,c];exact⟨OG h.fit h3 l p hl,h.so.gL h.fit hl,by show d.puts+1<=_;omega,by show d.reads<=_;omega⟩
theorem TA(h:DD S W D d au)(o:Ok d au k)(hk:k<900000000) :
  Calls Tryz.prog 155 #[.pointer D] W λ e w'=>e= .returned (.tuple #[.int .i64 (tP d au),.int .i64 (tE d au)])/\DD S w' D (tD d au) (tC d au)/\Kept S W w':=by
 have hp:=o.puts;have h3:d.puts+1<1000000000:=by omega
 have CL:=o.fit.aC.2.2;rcases Me d au with⟨hm,hf,a,b,e,c⟩|⟨hor,hz,a,b,e,c⟩|⟨hm,hz,hf,a,b,e,c⟩|⟨hz,l,p,hl,a,b,e,c⟩
 ·rw[a,b,e,c];exact ZP h (by rw[hf,List.length_nil];omega)
 ·rw[a,b,e,c];exact ZQ h (by omega) hz
 ·rw[a,b,e,c];exact ZT h h3 hf hm hz
 rw[a,b,e,c];exact ZR h h3 l p hl hz
theorem En{p:Int}(hh:¬aX d au p=false):∃q:Nat,p=q/\aX d au (q:Int)=true:=by
 have h1:aX d au p=true:=by simpa using hh
 have h2:1<=p:=by unfold aX at h1;rw[Bool.and_eq_true,decide_eq_true_eq]at h1;omega
 exact⟨p.toNat,by omega,by rw[show((p.toNat:Nat):Int)=p by omega];exact h1⟩
theorem Ok.free(h:Ok d au k){q:Nat}(hh:aX d au (q:Int)=true):q<au/\q∉d.free/\d.free.length<au:=by
 rw[h.so.has q,decide_eq_true_eq]at hh;exact⟨hh.2.1,hh.2.2,h.so.less h.fit hh.2.1 hh.2.2⟩
theorem xst(h:DD S W D d au)(o:Ok d au k)(hk:k<900000000)(p:Int) :
  Calls Tryz.prog 123 #[.pointer D,.int .i64 p] W λ e w'=>e= .returned (.int .i64 (Gl d au p))/\DD S w' D (CV d au p) au/\Kept S W w':=by
 have hp:=o.puts;unfold Gl CV;by_cases hh:aX d au p=false
 ·rw[if_pos hh,if_pos hh];exact ZU h p hh
 rw[if_neg hh,if_neg hh];obtain⟨q,rfl,hq⟩:=En hh;by_cases hz:d.wl=0
 ·rw[if_pos hz,show iU d.wl=7 by unfold iU;rw[if_pos hz]];exact ZV h q hq hz
 rw[if_neg hz,show iU d.wl=0 by unfold iU;rw[if_neg hz]];exact ZW h (by omega) q hq (o.free hq).2.2 hz
theorem Ok.give(h:Ok d au k)(hk:k<900000000)(p:Int):Ok (CV d au p) au (k+1):=by
 have hp:=h.puts;have hr:=h.reads;unfold CV;by_cases hh:aX d au p=false
 ·rw[if_pos hh];exact⟨h.fit,h.so,by omega,by omega⟩
 rw[if_neg hh];obtain⟨q,rfl,hq⟩:=En hh;by_cases hz:d.wl=0
 ·rw[if_pos hz];exact⟨Gh h.fit (-1) (by omega),h.so.of_same rfl rfl,by show d.puts<=_;omega,by show d.reads<=_;omega⟩
 rw[if_neg hz];exact⟨OE h.fit (by omega) q (zZ hq).1 (zZ hq).2.1 (h.free hq).2.2,h.so.give h.fit (h.free hq).1 (h.free hq).2.1,by show d.puts+1<=_;omega,by show d.reads<=_;omega⟩
theorem xsu(h:DD S W D d au)(o:Ok d au k)(hk:k<900000000)(p:Int) :
  Calls Tryz.prog 129 #[.pointer D,.int .i64 p] W λ e w'=>e= .returned (.tuple #[.string (str (Gj d au p)),.int .i64 (Gi d au p)])/\DD S w' D (CU d au p) au/\Kept S W w':=by
 have hr:=o.reads;unfold Gj Gi CU;by_cases hh:aX d au p=false
 ·rw[if_pos hh,if_pos hh,if_pos hh];exact ZX h p hh
 rw[if_neg hh,if_neg hh,if_neg hh];obtain⟨q,rfl,hq⟩:=En hh;by_cases hz:d.rl=0
 ·rw[if_pos hz,if_pos hz,if_pos hz];exact ZY h q hq hz
 rw[if_neg hz,if_neg hz,if_neg hz];exact ZZ h (by omega) q hq hz
theorem Ok.read(h:Ok d au k)(hk:k<900000000)(p:Int):Ok (CU d au p) au (k+1):=by
 have hp:=h.puts;have hr:=h.reads;unfold CU;by_cases hh:aX d au p=false
 ·rw[if_pos hh];exact⟨h.fit,h.so,by omega,by omega⟩
 rw[if_neg hh];by_cases hz:d.rl=0
 ·rw[if_pos hz];exact⟨Tu h.fit (-1) (by omega),h.so.of_same rfl rfl,by show d.puts<=_;omega,by show d.reads<=_;omega⟩
 rw[if_neg hz];exact⟨OD h.fit (by omega),h.so.of_same rfl rfl,by show d.puts<=_;omega,by show d.reads+1<=_;omega⟩
theorem xqr(h:DD S W D d au)(o:Ok d au k)(hk:k<900000000)(p:Int)(s:List UInt8) :
  Calls Tryz.prog 254 #[.pointer D,.int .i64 p,.string (str s)] W λ e w'=>e= .returned (.int .i64 (Bf d au p s))/\DD S w' D (wU d au p s) au/\Kept S W w':=by
 have hp:=o.puts;unfold Bf wU;by_cases hh:aX d au p=false
 ·rw[if_pos hh,if_pos hh];exact δ h p hh s
 rw[if_neg hh,if_neg hh];obtain⟨q,rfl,hq⟩:=En hh;by_cases hs:s.length≠504
 ·rw[if_pos hs,if_pos hs];exact ζ h q hq s hs
 rw[if_neg hs,if_neg hs];by_cases hz:d.wl=0
 ·rw[if_pos hz,show iU d.wl=7 by unfold iU;rw[if_pos hz]];exact η h q hq hz s (by omega)
 rw[if_neg hz,show iU d.wl=0 by unfold iU;rw[if_neg hz]];exact θ h (by omega) q hq hz s (by omega)
theorem Ok.write(h:Ok d au k)(hk:k<900000000)(p:Int)(s:List UInt8):Ok (wU d au p s) au (k+1):=by
 have hp:=h.puts;have hr:=h.reads;unfold wU;by_cases hh:aX d au p=false
 ·rw[if_pos hh];exact⟨h.fit,h.so,by omega,by omega⟩
 rw[if_neg hh];obtain⟨q,rfl,hq⟩:=En hh;by_cases hs:s.length≠504
 ·rw[if_pos hs];exact⟨h.fit,h.so,by omega,by omega⟩
 rw[if_neg hs];by_cases hz:d.wl=0
 ·rw[if_pos hz];exact⟨Gh h.fit (-1) (by omega),h.so.of_same rfl rfl,by show d.puts<=_;omega,by show d.reads<=_;omega⟩
 rw[if_neg hz];exact⟨OC h.fit (by omega) q (zZ hq).2.1 s (by omega),h.so.of_same rfl rfl,by show d.puts+1<=_;omega,by show d.reads<=_;omega⟩
theorem Ok.more(h:Ok d au k):Ok d au (k+1):=⟨h.fit,h.so,by have:=h.puts;omega,by have:=h.reads;omega⟩
theorem Ok.new(n:Int):Ok (mI n) 1 0:=
 ⟨Tt (O8 n) (by show(0:Int)+1<_;omega),xqq n,by rw[(Md n).puts];omega,by rw[xqp];omega⟩
def sB(au:Nat)(n:Int):Bool:=decide (0<=n/\n<512*(au:Int))
def sD(d:Dk)(au:Nat)(n:Int)(b:UInt8):Dk:=if 0<=n/\n<512*(au:Int) then ZM d n.toNat b else d
end
open UK (str aF nth Only Row ay kG)
namespace UK
theorem xga{P:Program}{t k ty:TypeId}{mv kv v':Value}{w w':World}(hr:(Builtin.delete_ #[t,k] ty #[mv,kv]).run P w= .ok v' w'){ops:Array Oper}{rest:List Oper}{o:Oper}{a:Act}{Q:Exit->Act->World->Prop}{m x:Operand}
  (hg:o.guard=none) (hop:o.op=Op.call {callee:=Callee.builtin Builtin.delete,args:= #[m,x],argTypes:= #[t,k]}) (hty:o.type=ty) (hm:a.eval m=mv) (hx:a.eval x=kv) (hK:wpList P ops Q rest (a.put o.dst v') w') :
  wpList P ops Q (o::rest) a w:=by
 refine wpList_plain hg λ K hK'=>?_;subst hty;unfold Oper.wp;simp[execOp,hop,resolve,invoke,builtin,hm,hx,hr,Result.andThen];exact hK' _ _ hK
end UK
section
variable{E:Nat->Prop}{W W':World}{P D FB M au:Nat}{q:Pl}{d d':Dk}
theorem xxg{f:Fr}(h:ru W P f) :
  Calls Tryz.prog 91 #[.pointer f.blk] W λ e w'=>e= .returned (.int .i64 f.page)/\w'=W:=by
 have c1:=h.box.cell 1 _ rfl
 go_enter Tryz.func91,Tryz.ntmps91
 go_wp2;go_ret
 exact⟨rfl,rfl⟩
theorem xua{ao:Option Addr}{c:Nat}{l:List Int}(h:kC W ao c l)(hl:l.length<=1000000000)(v:Int) :
  Calls Tryz.prog 195 #[.slice ao l.length c,.int .i64 v] W λ e w'=>∃i:Int,e= .returned (.int .i64 i)/\(0<=i↔v∈l)/\w'=W:=by
 go_enter Tryz.func195,Tryz.ntmps195
 go_wp2_with fail
 go_loopw [8] (λ ix wr=>∃j:Nat,ix= .int .i64 j/\j<=l.length/\(∀(i:Nat) (x:Int),i<j->l[i]?=some x->x≠v)/\wr=W) (λ ix _=>1000000001-(intOf ix).toNat)
 case atStart=>exact⟨0,rfl,aY _,λ i x hi=>absurd hi (jO _),rfl⟩
 obtain⟨j,rfl,hj,hno,rfl⟩:=hrel;by_cases hlt:j<l.length
 ·obtain⟨x,hx⟩:∃x,l[j]?=some x:=⟨_,bL hlt⟩;rcases h with⟨_,rfl,_⟩|⟨g,rfl,r⟩
  ·exact absurd hlt (jO _)
  have cx:=r.at' j (.int .i64 x) (by unfold Cb;rw[dL,hx];rfl);clear r;by_cases e:v=x
  ·subst e;have HM:=zH (eZ hx);clear hno hx;go_wp2;go_ret;exact⟨j,rfl,⟨λ _=>HM.out,λ _=>by omega⟩,rfl⟩
  have hb:(v==x)=false:=beq_eq_false_iff_ne.2 e
  have HN:=zH (λ (i:Nat) (y:Int) (hi:i<j+1) (hy:l[i]?=some y)=>(show y≠v by
   by_cases e2:i=j
   ·subst e2;rw[hx]at hy;rw[<-aZ hy];exact λ e3=>e e3.symm
   exact hno i y (by omega) hy))
  clear hno hx e;go_wp2;go_roundw
  case rel=>exact⟨j+1,by go_num,by omega,HN.out,trivial⟩
  case measure=>simp[intOf];omega
 have HN:=zH (λ (hm:v∈l)=>(show False by
  obtain⟨i,hi,he⟩:=gB hm;exact hno i v (by omega) (by rw[bL hi,he]) rfl))
 clear hno h;go_wp2;go_ret;exact⟨-1,rfl,⟨λ h=>absurd h (by decide),λ h=>(HN.out h).elim⟩,rfl⟩
theorem QG{ao:Option Addr}{c:Nat}{l:List Int}(h:kC W ao c l)(hl:l.length<=1000000000)(v:Int) :
  Calls Tryz.prog 122 #[.slice ao l.length c,.int .i64 v] W λ e w'=>e= .returned (.bool (decide (v∈l)))/\w'=W:=by
 have hi:=xua h hl v;generalize hn:l.length=n at hi ⊢;clear hn
 go_enter Tryz.func122,Tryz.ntmps122
 go_wp2_with fail
 refine hi.mono ?_;rintro e w' ⟨i,rfl,hm,rfl⟩;have e:decide (0<=i)=decide (v∈l):=decide_eq_decide.2 hm;have HE:=zH e;clear e hm;go_wp2;go_ret;exact⟨by rw[<-HE.out];rfl,rfl⟩
theorem kC.nil:kC W none 0 []:=.inl ⟨rfl,rfl,rfl⟩
def bV(o:Option kz):List Int:=match o with
 | none=>[]
 | some x=>x.gone
theorem Hf(h:fA W P D FB M q)(v:Int):∃(ao:Option Addr) (n c:Nat),JZ q.op= .slice ao n c/\Calls Tryz.prog 122 #[.slice ao n c,.int .i64 v] W λ e w'=>e= .returned (.bool (decide (v∈bV q.op)))/\w'=W:=by
 have ho:=h.op
 cases hq:q.op with
 | none=>exact⟨none,0,0,rfl,QG (kC.nil (W:=W)) (by decide) v⟩
 | some x=>exact⟨x.go,_,x.gc,rfl,QG (ho x hq).gone (ho x hq).few.2.2 v⟩
theorem PD.own(h:PD E W P D FB M q d au){hand:Nat}{ah:Int}(ho:Only P W W')(hb:ay W' P (nW D FB q.af.length M hand ah q.op)):PD E W' P D FB M {af:=q.af,hand:=hand,ah:=ah,op:=q.op} d au/\Kept E W W':=by
 have hp:=h.pool;obtain⟨f,hf,hm⟩:=hp.map;refine h.moves (q':={af:=q.af,hand:=hand,ah:=ah,op:=q.op}) (Moves.bG ho (.inl rfl)) ⟨hb,hp.sO.only ho hp.PF.symm,⟨f,hf,hm.only ho hp.PM.symm⟩,λ i g hi=>?_,hp.PF,hp.PM,hp.FM,hp.off,hp.two,hp.op.ae ho.size (λ k hk=>ho.block k (hp.op.lt hk) (hp.jk k hk).1),hp.jk,hp.nG,hp.tab⟩;have h1:=hp.off i (some g) g.blk hi (.inl rfl);have h2:=hp.off i (some g) g.db hi (.inr rfl);exact(hp.each i g hi).ae (ho.block _ (hp.xz hi (.inl rfl)) h1.1) (ho.block _ (hp.xz hi (.inr rfl)) h2.1)
def Am(n:Int)(k:Nat):Nat:=(n%(k:Int)).toNat
theorem Ww(n:Int)(k:Nat)(hk:0<k):n.tmod k%(k:Int)=(Am n k:Int)/\Am n k<k/\ -(k:Int)<n.tmod k/\n.tmod k<k:=by
 have h1:=Int.emod_nonneg n (show(k:Int)≠0 by omega);have h2:=Int.emod_lt_of_pos n (show(0:Int)<k by omega)
 have h3:n.tmod k=if 0<=n\/n%k=0 then n%k else n%k-k:=by
  rw[Int.tmod_eq_emod];by_cases hh:0<=n\/(k:Int) ∣ n
  ·rw[if_pos hh,if_pos (by rcases hh with a|a;exact .inl a;exact .inr (Int.emod_eq_zero_of_dvd a))];omega
  rw[if_neg hh,if_neg (by rintro(a|a);exact hh (.inl a);exact hh (.inr (Int.dvd_of_emod_eq_zero a)))];omega
 refine⟨?_,by unfold Am;omega,?_,?_⟩
 ·have h4:n.tmod k%(k:Int)=n%k:=by
   rw[h3]
   split
   ·exact Int.emod_emod_of_dvd n (Int.dvd_refl _)
   rw[Int.sub_emod_right];exact Int.emod_emod_of_dvd n (Int.dvd_refl _)
  rw[h4];unfold Am;omega
 ·rw[h3];split<;>omega
 rw[h3];split<;>omega
theorem xxh(h:PD E W P D FB M q d au)(o:nO q)(n:Int) :
  Calls Tryz.prog 86 #[.pointer P,.int .i64 n] W λ e w'=>e= .returned (.tuple #[])/\PD E w' P D FB M {q with hand:=Am n q.af.length} d au/\Kept E W w':=by
 have hb:=h.pool.box;have c1:=hb.cell 1 _ rfl;have c3:=hb.cell 3 _ rfl;have f3:=hb.free 3;have hb2:=hb.set 3 (.int .i64 (Am n q.af.length:Nat));have Wx:=h.own ((Only.refl P W).set 3 (.int .i64 (Am n q.af.length:Nat))) (hand:=Am n q.af.length) (ah:=q.ah) hb2;have hk:=o.few;have hh:=o.hand;obtain⟨h1,h2,h3,h4⟩:=Ww n q.af.length (by omega);have hk0:1<=q.af.length:=by omega
 generalize q.af.length=k at *;have H1:=zH h1;clear h1;generalize Am n k=hn at *;have h5:0<=n.tmod k+k:=by omega
 clear hb hb2
 go_enter Tryz.func86,Tryz.ntmps86
 go_wp2;rw[H1.out]
 go_end0
 exact⟨rfl,Wx.1,Wx.2⟩
end
open Go.RowKit
open UK (str aF nth Only Row ay kG)
open Go.BigFrame
section
variable{E:Nat->Prop}{W W':World}{P D FB M au k:Nat}{q:Pl}{d d':Dk}
structure Same(f g:Fr):Prop where
 blk:g.blk=f.blk
 db:g.db=f.db
 cap:g.cap=f.cap
 page:g.page=f.page
 data:g.data=f.data
theorem Same.mV{f g:Fr}(h:Same f g)(j:Nat):mV (some g) j↔mV (some f) j:=by
 show(j=g.blk\/j=g.db)↔(j=f.blk\/j=f.db);rw[h.blk,h.db]
theorem PD.flag(h:PD E W P D FB M q d au){i:Nat}{f g:Fr}(hi:q.af[i]?=some (some f))(hs:Same f g)(ho:Only f.blk W W')(hb:ay W' f.blk (Nj P g)):PD E W' P D FB M {q with af:=q.af.set i (some g)} d au/\Kept E W W':=by
 have hp:=h.pool;have hl:=(dE.1 hi).1;obtain⟨mf,hf,hm⟩:=hp.map;have hoff:=hp.off i (some f) f.blk hi (.inl rfl);have hfr:=hp.each i f hi
 have hc:cntF (q.af.set i (some g))=cntF q.af:=by
  have:=JY q.af i (some f) (some g) hi
  simpa using this
 have hlt:=hp.xz hi (.inl rfl);refine h.moves (q':={q with af:=q.af.set i (some g)}) ⟨ho.os,ho.tape,ho.output,ho.size,λ j hj hn=>ho.block j hj (λ e=>hn (e▸ .inr (.inr (.inr (.inr ⟨i,some f,hi,.inl rfl⟩))))),λ j hj=>.inl ?_⟩ ?_
 ·rcases ji.bO (n:=W.heap.size) hi (λ j hj=>.inl ((hs.mV j).1 hj)) hj with h1|h1
  ·exact h1
  exfalso
  have:ji P FB M q.af q.op j:=by
   rcases hj with a|a|a|a|⟨b,u,hb2,hk⟩
   ·exact .inl a
   ·exact .inr (.inl a)
   ·exact .inr (.inr (.inl a))
   ·exact .inr (.inr (.inr (.inl a)))
   have hb2:(q.af.set i (some g))[b]?=some u:=hb2;rw[fJ _ _ _ _ hl]at hb2;by_cases e:i=b
   ·rw[if_pos e]at hb2;rw[<-aZ hb2]at hk;exact .inr (.inr (.inr (.inr ⟨i,some f,hi,(hs.mV j).1 hk⟩)))
   rw[if_neg e]at hb2;exact .inr (.inr (.inr (.inr ⟨b,u,hb2,hk⟩)))
  have:=hp.lt this;omega
 refine hp.bO hi h.dd.tab.lt (hp.box.ae (ho.block _ hp.box.lt hoff.1.symm)) ho.size (λ k hk=>ho.block k (hp.op.lt hk) (λ e=>hp.nG i (some f) _ hi (.inl rfl) (e▸hk))) ?_ ⟨mf,hf.turn hi hs.page,by rw[hc];exact hm.only ho hoff.2.2.symm⟩ (λ j u b hj hu hb2=>?_) (λ g' hg'=>?_) (λ j hj=>.inl ((hs.mV j).1 hj))
 ·rw[Wv _ _ _ _ hi (by unfold qh;simp only;rw[hs.blk])];exact hp.sO.only ho hoff.2.1.symm
 ·have hlt2:=hp.xz hu hb2;refine ho.block b hlt2 (λ e=>?_);subst e;exact hp.two i j (some f) u _ (dz hj) hi hu (.inl rfl) hb2
 obtain rfl:=aZ hg';obtain⟨y,a,b,c⟩:=hfr.bytes;exact⟨by rw[hs.blk];exact hb,⟨y,by rw[hs.db];exact ho.bytes a hfr.ne.symm,by rw[hs.cap];exact b,by rw[hs.data];exact c⟩,by rw[hs.data];exact hfr.len,by rw[hs.cap];exact hfr.cap,by rw[hs.page];exact hfr.page,by rw[hs.blk,hs.db];exact hfr.ne⟩
theorem PD.frame(h:PD E W P D FB M q d au){i:Nat}{o:Option Fr}(hi:q.af[i]?=some o):W.cell? (FB,i)=some (qh o):=h.pool.sO.at' i _ (QC _ _ _ hi)
theorem xrh{Q:Exit->Act->World->Prop}{a:Act}{w:World}(R:World->Prop)(hR:R w)(h:∀w',R w'->Q .normal a w'):Q .normal a w:=h w hR
def vg(q:Pl)(r:Option Nat×List (Option Fr)×Nat):Pl:={af:=r.2.1,hand:=r.2.2,ah:=q.ah,op:=q.op}
def Fg(r:Option Nat):Int:=match r with
 | none=> -1
 | some i=>i
def yad(E:Nat->Prop)(W wr:World)(P D FB M:Nat)(q:Pl)(d:Dk)(au:Nat)(ix:Value):Prop:=
 ∃(m:Nat) (l:List (Option Fr)) (h:Nat),ix= .int .i64 m/\m<=2*q.af.length/\Hid (jB (2*q.af.length) q.af q.hand=jB (2*q.af.length-m) l h)/\PD E wr P D FB M {af:=l,hand:=h,ah:=q.ah,op:=q.op} d au/\Kept E W wr/\Hid (l.length=q.af.length)/\h<q.af.length
theorem xri(h:PD E W P D FB M q d au)(o:nO q) :
  Calls Tryz.prog 198 #[.pointer P] W λ e w'=>e= .returned (.int .i64 (Fg (jB (2*q.af.length) q.af q.hand).1))/\PD E w' P D FB M (vg q (jB (2*q.af.length) q.af q.hand)) d au/\Kept E W w':=by
 have hb:=h.pool.box;have c1:=hb.cell 1 _ rfl;have hk:=o.few;have hh:=o.hand;clear hb
 go_enter Tryz.func198,Tryz.ntmps198
 go_wp2_with fail
 go_loopw [11] (λ ix wr=>yad E W wr P D FB M q d au ix) (λ ix _=>2001-(intOf ix).toNat)
 case atStart=>exact⟨0,q.af,q.hand,rfl,aY _,rfl,h,Kept.refl _ _,rfl,hh⟩
 clear h;obtain⟨m,l,h,rfl,hm,HS,p1,k1,HL,hhk⟩:=hrel;have hb:=p1.pool.box;have HL2:=HL.out;have hpc:nW D FB l.length M h q.ah q.op=nW D FB q.af.length M h q.ah q.op:=by rw[HL2]
 simp only at hb;rw[hpc]at hb;have c1:=hb.cell 1 _ rfl;have c3:=hb.cell 3 _ rfl;have f3:=hb.free 3;by_cases hlt:m<2*q.af.length
 ·obtain⟨n,hn⟩:∃n,2*q.af.length-m=n+1:=⟨2*q.af.length-m-1,by omega⟩;have hn2:2*q.af.length-(m+1)=n:=by omega
  rw[hn]at HS;obtain⟨o1,ho1⟩:∃o1,l[h]?=some o1:=⟨_,bL (by omega)⟩
  have p2:=p1.own ((Only.refl P wr).set 3 (.int .i64 (((h+1)%l.length:Nat):Int))) (hand:=(h+1)%l.length) (ah:=q.ah) (by
   have:=hb.set 3 (.int .i64 (((h+1)%l.length:Nat):Int));rw[show l.length=q.af.length from HL2];rw[show l.length=q.af.length from HL2]at this;exact this)
  have k2:=k1.trans p2.2;have HM:Hid (((h:Int)+1)%(q.af.length:Int)=(((h+1)%l.length:Nat):Int)):=by show _=_;rw[HL2,Int.natCast_emod,Int.natCast_add];rfl
  have hmod:(h+1)%l.length<q.af.length:=by rw[HL2];exact jr _ (by omega)
  go_wp2_with fail
  go_region
  rw[HM.out];refine xrh (λ w'=>PD E w' P D FB M {af:=l,hand:=(h+1)%l.length,ah:=q.ah,op:=q.op} d au/\Kept E W w') ⟨p2.1.next (aV _ _).drew,k2.trans (Kept.of_below (aV _ _).drew (λ j hj=>p2.1.dd.there j (.inl hj)))⟩ ?_;clear p2 k2 c1 c3 f3 hb p1 k1 HM;rintro w2 ⟨p2,k2⟩;have cf:=p2.frame ho1;have c1:=p2.pool.box.cell 1 _ rfl;simp only at c1;rw[HL2]at c1;have qV:=zH hn2;clear hn hn2 hpc HL2
  cases o1 with
  | none=>
   have ze:Hid (jB (2*q.af.length) q.af q.hand=(some h,l,(h+1)%l.length)):=HS.out.trans (GX n ho1);clear HS;generalize (h+1)%l.length=h2 at p2 ze hmod;simp only[qh]at cf;go_wp2;go_ret;exact⟨by rw[ze.out]<;>rfl,by rw[ze.out];exact p2,k2⟩
  | some f=>
   have ze:Hid (jB (2*q.af.length) q.af q.hand=_):=HS.out.trans (GY n ho1);clear HS;generalize (h+1)%l.length=h2 at p2 ze hmod;simp only[qh]at cf;have hfr:=p2.pool.each h f ho1;have c3:=hfr.box.c3;have c4:=hfr.box.c4;have f4:=hfr.box.free 4;by_cases hp:0<f.ah
   ·have HE:Hid (jB (2*q.af.length) q.af q.hand=jB (2*q.af.length-(m+1)) l h2):=by show _=_;rw[ze.out,if_pos hp,qV.out]
    clear ze;generalize f.ah=fp at c3 hp;go_wp2;go_roundw
    case rel=>exact⟨m+1,l,h2,by go_num,by omega,HE,p2,k2,HL,hmod⟩
    case measure=>simp[intOf];omega
   have hbx:=hfr.box.set 4 (.bool false);have hset:=p2.flag (g:={f with used:=false}) ho1 ⟨rfl,rfl,rfl,rfl,rfl⟩ ((Only.refl f.blk w2).set 4 (.bool false)) hbx
   cases hu:f.used
   ·have HE:Hid (jB (2*q.af.length) q.af q.hand=(some h,l,h2)):=by show _=_;rw[ze.out,if_neg hp,hu];rfl
    rw[hu]at c4;clear ze hset hbx hu;generalize f.ah=fp at c3 hp;go_wp2;go_ret;exact⟨by rw[HE.out]<;>rfl,by rw[HE.out];exact p2,k2⟩
   have HE:Hid (jB (2*q.af.length) q.af q.hand=jB (2*q.af.length-(m+1)) (l.set h (some {f with used:=false})) h2):=by show _=_;rw[ze.out,if_neg hp,if_pos hu,qV.out]
   rw[hu]at c4;have hk3:=k2.trans hset.2;have hp3:=hset.1;have Ke:Hid ((l.set h (some {f with used:=false})).length=q.af.length):=by show _=_;rw[aQ];exact HL.out
   clear ze hset hbx hu;generalize f.ah=fp at c3 hp;go_wp2;go_roundw
   case rel=>exact⟨m+1,_,h2,by go_num,by omega,HE,hp3,hk3,Ke,hmod⟩
   case measure=>simp[intOf];omega
 have HE:Hid (jB (2*q.af.length) q.af q.hand=(none,l,h)):=by
  show _=_;rw[HS.out,show 2*q.af.length-m=0 by omega];rfl
 go_wp2;go_ret
 exact⟨by rw[HE.out]<;>rfl,by rw[HE.out];exact p1,k1⟩
end
section
variable{E:Nat->Prop}{W W':World}{P D FB M au k:Nat}{q:Pl}{d d':Dk}
theorem Wy{l:List (Option Fr)}{i:Nat}{o:Option Fr}(h:l[i]?=some o):l.set i o=l:=by
 refine List.ext_getElem? (λ j=>?_);rw[fJ l i j o (dE.1 h).1];by_cases e:i=j
 ·rw[if_pos e,<-e,h]
 rw[if_neg e]
theorem xn7(h:PD E W P D FB M q d au){i:Nat}{f:Fr}(hi:q.af[i]?=some (some f))(hd:f.bM=false) :
  Calls Tryz.prog 199 #[.pointer P,.pointer f.blk] W λ e w'=>e= .returned (.int .i64 0)/\w'=W:=by
 have hfr:=h.pool.each i f hi;have c5:=hfr.box.c5;rw[hd]at c5
 go_enter Tryz.func199,Tryz.ntmps199
 go_wp2;go_ret
 exact⟨rfl,rfl⟩
theorem xn8(h:PD E W P D FB M q d au){i:Nat}{f:Fr}(hi:q.af[i]?=some (some f))(hd:f.bM=true)(o:Ok d au k)(hk:k<900000000) :
  Calls Tryz.prog 199 #[.pointer P,.pointer f.blk] W λ e w'=>e= .returned (.int .i64 (Bf d au f.page f.data))/\PD E w' P D FB M {q with af:=q.af.set i (some {f with bM:=(Bf d au f.page f.data != 0)})} (wU d au f.page f.data) au/\Kept E W w':=by
 have hfr:=h.pool.each i f hi;have h1:=h.next (aV W W).drew;have Kg:=h1.pool.each i f hi;have c0:=h.pool.box.c0;have c1:=hfr.box.c1;have c2:=hfr.box.c2;have c5:=hfr.box.c5;rw[hd]at c5;obtain⟨y,hy,hyl,BL⟩:=Kg.bytes;have hcap:=hfr.cap;have hcv:=UK.tY (P:=Tryz.prog) (src:=94) (dst:=9) Tryz.underlying94 Tryz.underlying5 Tryz.underlying9 hy 0 504 f.cap (by omega);rw[List.drop_zero,BL]at hcv;have HW:=zH (xqr h1.dd o hk f.page f.data);have HE:=zH h1;generalize hre:Bf d au f.page f.data=re at HW;generalize wU d au f.page f.data=rd at HW;have hb5:=λ w (hw:PD E w P D FB M q rd au)=>hw.flag (g:={f with bM:=(re != 0)}) hi ⟨rfl,rfl,rfl,rfl,rfl⟩ ((Only.refl f.blk w).set 5 (.bool (re != 0))) ((hw.pool.each i f hi).box.set 5 (.bool (re != 0)));have HB5:=zH hb5;clear h1 hfr Kg hb5 hy hyl BL hre
 go_enter Tryz.func199,Tryz.ntmps199
 go_wp2_with fail
 go_still_tail 13,(by kernel_rfl)
 change wpList _ _ _ _ _ W.drew
 go_wp2_with fail
 refine HW.out.mono ?_;rintro e w2 ⟨rfl,d2,k2⟩;have h2:=HE.out.disk d2 k2;have hfr2:=h2.pool.each i f hi;have c5:=hfr2.box.c5;have f5:=hfr2.box.free 5;have HF:=zH (HB5.out w2 h2);have k3:=Kept.of_below (S:=E) (aV W W).drew (λ j hj=>h.dd.there j (.inl hj));clear HW HE hcv c0 c1 c2 h2 hfr2 d2;go_wp2;go_ret;exact⟨rfl,HF.out.1,(k3.trans (k2.mono (λ j hj=>.inl hj))).trans HF.out.2⟩
theorem PD.empty(h:PD E W P D FB M q d au){i:Nat}{f:Fr}(hi:q.af[i]?=some (some f)){W1 W2:World}(o1:Only FB W W1)(r1:Row W1 FB q.af.length ((q.af.set i none).map qh))(o2:Only M W1 W2)
  (hm:∃g,jC (q.af.set i none) g/\kG Tryz.prog 3 3 W2 M (cntF (q.af.set i none)) g (cntF (q.af.set i none))):PD E W2 P D FB M {q with af:=q.af.set i none} d au/\Kept E W W2:=by
 have hp:=h.pool;have hoff:=λ (j:Nat) (u:Option Fr) (b:Nat) hj hb=>hp.off j u b hj hb;have hkeep:∀b,b<W.heap.size->b≠FB->b≠M->W2.heap[b]?=W.heap[b]?:=λ b hb h1 h2=>(o2.block b (bZ hb o1.size) h2).trans (o1.block b hb h1);refine h.moves (q':={q with af:=q.af.set i none}) ⟨o2.os.trans o1.os,o2.tape.trans o1.tape,o2.output.trans o1.output,aP o1.size o2.size,λ b hb hn=>hkeep b hb (λ e=>hn (.inr (.inl e))) (λ e=>hn (.inr (.inr (.inl e)))),λ b hb=>?_⟩ ?_
 ·rcases ji.bO (n:=W.heap.size) hi (λ j hj=>absurd hj id) hb with h1|h1
  ·exact .inl h1
  exact .inr h1
 exact hp.bO hi h.dd.tab.lt (hp.box.ae (hkeep P hp.box.lt hp.PF hp.PM)) (aP o1.size o2.size) (λ k hk=>hkeep k (hp.op.lt hk) (hp.jk k hk).2.1 (hp.jk k hk).2.2) (r1.only o2 hp.FM) hm (λ j u b _ hu hb=>hkeep b (hp.xz hu hb) (hoff j u b hu hb).2.1 (hoff j u b hu hb).2.2) (λ g hg=>by cases hg) (λ b hb=>absurd hb id)
theorem QH(h:PD E W P D FB M q d au)(o:nO q){i:Nat}{f:Fr}(hi:q.af[i]?=some (some f)) :
  Calls Tryz.prog 124 #[.pointer P,.int .i64 f.page] W λ e w'=>e= .returned (.tuple #[])/\PD E w' P D FB M {q with af:=q.af.set i none} d au/\Kept E W w':=by
 have hp:=h.pool;have hl:=(dE.1 hi).1;have cZ:=(hp.each i f hi).page;have c1:=hp.box.c1;have c2:=hp.box.c2;obtain⟨g,hg,hm⟩:=hp.map;have hgf:g f.page=some (i:Int):=hg.at_ hi;have hlk:=hm.get (t:=111) Tryz.underlying3 Tryz.underlying3 Tryz.underlying111 (λ w=>by kernel_rfl) f.page cZ;rw[hgf]at hlk;have hlk2:(Instr.lookup 111 (.map (some M)) (.int .i64 f.page) true).run Tryz.prog W= .ok (.tuple #[.int .i64 (i:Int),.bool true]) W:=hlk;have cF:=hp.sO.at' i _ (QC _ _ _ hi);have fF:=hp.sO.free i hl;have o1:=(Only.refl FB W).set i (.pointer none);have r1:=hp.sO.set i (.pointer none) (by rw[df];exact hl);have hm1:=hm.only o1 hp.FM.symm;obtain⟨W2,hdel,hm2,o2⟩:=hm1.del Tryz.underlying3 Tryz.underlying111 f.page cZ 0;rw[hgf]at hm2;have hc:=JY q.af i (some f) none hi;simp only[Option.isSome_some,Option.isSome_none,if_true,Bool.false_eq_true,if_false]at hc hm2;rw[show cntF q.af-1=cntF (q.af.set i none) by omega]at hm2;have r2:Row (W.setCell (FB,i) (.pointer none)) FB q.af.length ((q.af.set i none).map qh):=by rw[map_set];exact r1
 have HF:=zH (h.empty hi o1 r2 o2 ⟨_,hg.forget hi,hm2.tight⟩);have c2':=(hp.box.only o1 hp.PF).c2;have hk:=o.few;clear hlk hm hm1 hm2 r1 r2 o1 o2 hc hgf hg
 go_enter Tryz.func124,Tryz.ntmps124
 go_wp2_with (at_delete;refine UK.xga hdel rfl rfl rfl rfl rfl ?_)
 go_end0
 exact⟨rfl,HF.out.1,HF.out.2⟩
theorem xub(h:PD E W P D FB M q d au)(p:Int)(cZ:(Lit.int .i64 p).wf=true)(hno:∀(i:Nat) (f:Fr),q.af[i]?=some (some f)->f.page≠p) :
  Calls Tryz.prog 124 #[.pointer P,.int .i64 p] W λ e w'=>e= .returned (.tuple #[])/\w'=W:=by
 have hp:=h.pool;have c2:=hp.box.c2;obtain⟨g,hg,hm⟩:=hp.map
 have hgf:g p=none:=by
  cases u6:g p with
  | none=>rfl
  | some i=>
   obtain⟨j,_,fr,hj,hf⟩:=(hg p i).1 u6;exact absurd hf (hno j fr hj)
 have hlk:=hm.get (t:=111) Tryz.underlying3 Tryz.underlying3 Tryz.underlying111 (λ w=>by kernel_rfl) p cZ;rw[hgf]at hlk;have hlk2:(Instr.lookup 111 (.map (some M)) (.int .i64 p) true).run Tryz.prog W= .ok (.tuple #[.int .i64 0,.bool false]) W:=hlk;clear hlk hm hgf hg
 go_enter Tryz.func124,Tryz.ntmps124
 go_wp2
 go_end0
 exact⟨rfl,rfl⟩
def ycs(q:Pl)(d:Dk)(au:Nat)(r:Option Nat×List (Option Fr)×Nat)(i:Nat)(e0:Int)(q':Pl)(d':Dk):Prop:=
 (r.1=none->e0=9/\d'=d/\q'={af:=r.2.1,hand:=r.2.2,ah:=q.ah,op:=q.op}) /\
 (∀j,r.1=some j->(∀f:Fr,r.2.1[j]?=some (some f)->f.bM=false)->i=j/\e0=0/\d'=d/\q'={af:=r.2.1.set j none,hand:=r.2.2,ah:=q.ah,op:=q.op}) /\
 ∀(j:Nat) (f:Fr),r.1=some j->r.2.1[j]?=some (some f)->f.bM=true->Bf d au f.page f.data=0->i=j/\e0=0/\d'=wU d au f.page f.data/\q'={af:=r.2.1.set j none,hand:=r.2.2,ah:=q.ah,op:=q.op}
def Wz(E:Nat->Prop)(W w':World)(P D FB M:Nat)(q:Pl)(d:Dk)(au k:Nat)(e:Ending):Prop:=
 ∃(i:Nat) (e0:Int) (q':Pl) (d':Dk),e= .returned (.tuple #[.int .i64 i,.int .i64 e0])/\PD E w' P D FB M q' d' au/\Kept E W w'/\nO q'/\Ok d' au (k+1)/\q'.ah=q.ah/\q'.af.length=q.af.length/\tL q' q/\(∀p,aX d' au p=aX d au p)/\(e0=0->q'.af[i]?=some none) /\
  ycs q d au (jB (2*q.af.length) q.af q.hand) i e0 q' d'
theorem xuc(d:Dk)(au:Nat)(p:Int)(s:List UInt8)(a:Int):aX (wU d au p s) au a=aX d au a:=by
 unfold wU
 split
 ·rfl
 split
 ·rfl
 split<;>rfl
theorem xud(h:PD E W P D FB M q d au)(o:nO q)(ok:Ok d au k)(hk:k<900000000) :
  Calls Tryz.prog 128 #[.pointer P] W λ e w'=>Wz E W w' P D FB M q d au k e:=by
 have hv:=xri h o;have hso:=Nl (2*q.af.length) q o;have Kh:=QF q.op (2*q.af.length) q.af q.hand (jB (2*q.af.length) q.af q.hand).2.2 q.ah q.hand q.ah o.hand;unfold vg at hv;unfold Wz;generalize jB (2*q.af.length) q.af q.hand=r at hv hso Kh ⊢;obtain⟨v,l,hd⟩:=r;simp only at hv hso Kh;obtain⟨o1,hl1,hi1⟩:=hso;have zf:tL {af:=l,hand:=hd,ah:=q.ah,op:=q.op} q:=Kh;have il:=o1.few;simp only at il
 cases v with
 | none=>
  have HV:=zH hv;clear hv Kh hi1;simp only[Fg]at HV
  go_enter Tryz.func128,Tryz.ntmps128
  go_wp2_with fail
  refine HV.out.mono ?_;rintro e w1 ⟨rfl,p1,k1⟩;go_wp2;go_ret2;exact⟨0,9,_,d,rfl,p1,k1,o1,ok.more,rfl,hl1,zf,λ _=>rfl,λ h0=>absurd h0 (by decide),λ _=>⟨rfl,rfl,rfl⟩,(λ j hj=>by cases hj),λ j f hj=>by cases hj⟩
 | some i=>
  obtain⟨ob,kJ,hidle⟩:=hi1 i rfl;have hil:i<l.length:=(dE.1 kJ).1;have HV:=zH hv;clear hv Kh hi1;simp only[Fg]at HV;have qR:=zH hl1;clear hl1
  cases ob with
  | none=>
   go_enter Tryz.func128,Tryz.ntmps128
   go_wp2_with fail
   refine HV.out.mono ?_;rintro e w1 ⟨rfl,p1,k1⟩;have c1:=p1.pool.box.c1;have cF:w1.cell? (FB,i)=some (.pointer none):=p1.frame kJ;clear HV;go_wp2;go_ret2
   exact⟨i,0,_,d,rfl,p1,k1,o1,ok.more,rfl,qR.out,zf,λ _=>rfl,λ _=>kJ,λ hj=>(by cases hj),(λ j hj _=>by
    obtain rfl:=aZ hj;exact⟨rfl,rfl,rfl,by rw[Wy kJ]⟩),λ j f hj hf=>by
    obtain rfl:=aZ hj;rw[kJ]at hf;cases hf⟩
  | some f=>
   have hfp:f.ah=0:=hidle f rfl;have Ki:=zH hfp;clear hfp hidle
   cases hdy:f.bM
   ·have Hg:=zH hdy;clear hdy
    go_enter Tryz.func128,Tryz.ntmps128
    go_wp2_with fail
    refine HV.out.mono ?_;rintro e w1 ⟨rfl,p1,k1⟩;have c1:=p1.pool.box.c1;have cF:w1.cell? (FB,i)=some (.pointer f.blk):=p1.frame kJ;have cp:=(p1.pool.each i f kJ).box.c1;have W9:=zH (xn7 p1 kJ Hg.out);have Kj:=zH (QH p1 o1 kJ);have hpo:=o1.set kJ (u:=none) (λ g hg=>by cases hg);simp only[iH,Ki.out,Int.sub_zero,Int.add_zero]at hpo;clear HV
    go_wp2_with fail
    refine W9.out.mono ?_;rintro e w2 ⟨rfl,rfl⟩
    go_wp2_with fail
    refine Kj.out.mono ?_;rintro e w3 ⟨rfl,p3,k3⟩;clear W9 Kj;go_wp2;go_ret2
    exact⟨i,0,_,d,rfl,p3,k1.trans k3,hpo,ok.more,rfl,by show(l.set i none).length=_;rw[aQ];exact qR.out,(tL.empty (q:={af:=l,hand:=hd,ah:=q.ah,op:=q.op}) kJ _ _).trans zf,λ _=>rfl,λ _=>by show(l.set i none)[i]?=_;rw[fJ _ _ _ _ hil,if_pos rfl],λ hj=>(by cases hj),(λ j hj _=>by
     obtain rfl:=aZ hj;exact⟨rfl,rfl,rfl,rfl⟩),λ j g hj hg hd=>by
     obtain rfl:=aZ hj;rw[kJ]at hg;obtain rfl:=aZ (aZ hg);rw[Hg.out]at hd;cases hd⟩
   have Hg:=zH hdy;clear hdy
   go_enter Tryz.func128,Tryz.ntmps128
   go_wp2_with fail
   refine HV.out.mono ?_;rintro e w1 ⟨rfl,p1,k1⟩;have c1:=p1.pool.box.c1;have cF:w1.cell? (FB,i)=some (.pointer f.blk):=p1.frame kJ;have Kk:=zH (xn8 p1 kJ Hg.out ok hk);have hok2:=ok.write hk f.page f.data;have Nn:=λ a=>xuc d au f.page f.data a;generalize hE0:Bf d au f.page f.data=e0 at Kk;generalize hD2:wU d au f.page f.data=d2 at Kk hok2 Nn;have HE0:=zH hE0;have HD2:=zH hD2;clear hE0 hD2;have hpo:=o1.set kJ (u:=some {f with bM:=(e0 != 0)}) (λ g hg=>by rw[<-aZ hg];exact o1.pos i f kJ);rw[show({af:=l,hand:=hd,ah:=q.ah,op:=q.op}:Pl).ah-iH (some f)+iH (some {f with bM:=(e0 != 0)})=q.ah by show q.ah-f.ah+f.ah=q.ah;omega]at hpo;have WA:=zH Nn;clear HV Nn
   go_wp2_with fail
   refine Kk.out.mono ?_;rintro e w2 ⟨rfl,p2,k2⟩;have Fh:(l.set i (some {f with bM:=(e0 != 0)}))[i]?=some (some {f with bM:=(e0 != 0)}):=by rw[fJ _ _ _ _ hil,if_pos rfl]
   have hfw:=(tL.set (q:={af:=l,hand:=hd,ah:=q.ah,op:=q.op}) kJ (g:={f with bM:=(e0 != 0)}) rfl hd q.ah).trans zf;by_cases he:e0=0
   ·subst he;have cp:=(p2.pool.each i _ Fh).box.c1;have Kj:=zH (QH p2 hpo Fh);have Fj:=hpo.set Fh (u:=none) (λ g hg=>by cases hg);rw[show q.ah-iH (some {f with bM:=((0:Int) != 0)})+iH none=q.ah by show q.ah-f.ah+0=q.ah;have:=Ki.out;omega]at Fj;simp only[List.set_set]at Fj;clear Kk
    go_wp2_with fail
    refine Kj.out.mono ?_;rintro e w3 ⟨rfl,p3,k3⟩;simp only[List.set_set]at p3;clear Kj;go_wp2;go_ret2
    exact⟨i,0,_,d2,rfl,p3,(k1.trans k2).trans k3,Fj,hok2,rfl,by show(l.set i none).length=_;rw[aQ];exact qR.out,(tL.empty (q:={af:=l,hand:=hd,ah:=q.ah,op:=q.op}) kJ _ _).trans zf,WA.out,λ _=>by show(l.set i none)[i]?=_;rw[fJ _ _ _ _ hil,if_pos rfl],λ hj=>(by cases hj),(λ j hj hc=>by
     obtain rfl:=aZ hj;have:=hc f kJ;rw[Hg.out]at this;cases this),λ j g hj hg _ _=>by
     obtain rfl:=aZ hj;rw[kJ]at hg;obtain rfl:=aZ (aZ hg);exact⟨rfl,rfl,HD2.out.symm,rfl⟩⟩
   have hb1:(e0==0)=false:=beq_eq_false_iff_ne.2 he;have Mj:=zH he;clear Kk he;go_wp2;go_ret2
   exact⟨0,e0,_,d2,rfl,p2,k1.trans k2,hpo,hok2,rfl,by show(l.set i _).length=_;rw[aQ];exact qR.out,hfw,WA.out,λ h0=>absurd h0 Mj.out,λ hj=>(by cases hj),(λ j hj hc=>by
    obtain rfl:=aZ hj;have:=hc f kJ;rw[Hg.out]at this;cases this),λ j g hj hg _ hz=>by
    obtain rfl:=aZ hj;rw[kJ]at hg;obtain rfl:=aZ (aZ hg);rw[HE0.out]at hz;exact absurd hz Mj.out⟩
end
section
variable{E:Nat->Prop}{W W':World}{P D FB M au k:Nat}{q:Pl}{d d':Dk}
theorem xxi{P:Program}{Q:Exit->Act->World->Prop}{a:Act}{c:Code}{w:World}(R:World->Prop)(hR:R w)(h:∀w',R w'->c.wp P Q a w'):c.wp P Q a w:=h w hR
structure Half(W w:World)(P FB:Nat)(l:List (Option Fr))(i:Nat)(f:Fr):Prop where
 only:Only FB W w
 row:Row w FB l.length ((l.set i (some f)).map qh)
 new:ru w P f
theorem xue(hr:Row W FB q.af.length (q.af.map qh)){i:Nat}(hil:i<q.af.length){s:List UInt8}(hs:s.length=504)(page:Int)(cZ:(Lit.int .i64 page).wf=true){cap:Nat}{o:Obj}(hcap:504<=cap)
  (hy:aF (W.drew.alloc o) W (s++List.replicate (cap-s.length) 0)) (t:TypeId) (f:Fr) (hf:f={blk:=W.heap.size+1,db:=W.heap.size,cap:=cap,page:=page,data:=s,ah:=1,used:=true,bM:=false}) :
  Half W (((W.setCell (FB,i) (.pointer (some ⟨W.heap.size+1,0,none⟩))).alloc o).alloc (.cells (Nj P f) t)).drew P FB q.af i f:=by
 have o1:=(Only.refl FB W).set i (.pointer (some ⟨W.heap.size+1,0,none⟩));have r1:=hr.set i (.pointer (some ⟨W.heap.size+1,0,none⟩)) (by rw[df];exact hil);have hsz:(W.setCell (FB,i) (.pointer (some ⟨W.heap.size+1,0,none⟩))).heap.size=W.heap.size:=by simp[World.setCell]
 generalize W.setCell (FB,i) (.pointer (some ⟨W.heap.size+1,0,none⟩))=w1 at o1 r1 hsz
 have y1:aF (w1.alloc o) W (s++List.replicate (cap-s.length) 0):=hy.ae (by
  have e1:(w1.alloc o).heap[w1.heap.size]?=some o:=by
   show(w1.heap.push _)[w1.heap.size]?=_;rw[pW]
  have e2:(W.drew.alloc o).heap[W.drew.heap.size]?=some o:=by
   show(W.drew.heap.push _)[W.drew.heap.size]?=_;rw[pW]
  rw[hsz]at e1;exact e1.trans e2.symm)
 have hs2:(w1.alloc o).heap.size=W.heap.size+1:=by simp[hsz]
 have hb:=ay.new (w1.alloc o) (Nj P f) t;rw[hs2]at hb;refine⟨((o1.alloc o).alloc _).drew,?_,⟨?_,⟨s++List.replicate (cap-s.length) 0,?_,?_,?_⟩,?_,?_,?_,?_⟩⟩
 ·rw[map_set];have e3:qh (some f)= .pointer (some ⟨W.heap.size+1,0,none⟩):=by rw[hf];rfl
  rw[e3];exact((r1.alloc o).alloc _).drewN 1
 ·rw[show f.blk=W.heap.size+1 by rw[hf]];exact hb.ae rfl
 ·rw[show f.db=W.heap.size by rw[hf]];exact(y1.alloc _).drewN 1
 ·rw[show f.cap=cap by rw[hf],zl,gY];omega
 ·rw[show f.data=s by rw[hf],List.take_left' hs]
 ·rw[show f.data=s by rw[hf]];exact hs
 ·rw[show f.cap=cap by rw[hf]];exact hcap
 ·rw[show f.page=page by rw[hf]];exact cZ
 rw[hf];show W.heap.size+1≠W.heap.size;omega
def yct(E:Nat->Prop)(W w':World)(P D FB M:Nat)(q:Pl)(d:Dk)(au i:Nat)(page:Int)(s:List UInt8)(e:Ending):Prop:=
 ∃f:Fr,e= .returned (.pointer f.blk)/\f.page=page/\f.data=s/\f.ah=1/\f.bM=false/\f.used=true/\PD E w' P D FB M {af:=q.af.set i (some f),hand:=q.hand,ah:=q.ah+1,op:=q.op} d au/\Kept E W w'
theorem PD.laid(h:PD E W P D FB M q d au){i:Nat}(hi:q.af[i]?=some none){f:Fr}{w1 w2 w3:World}{ah:Int}(hh:Half W w1 P FB q.af i f)(hnew:f.blk=W.heap.size+1/\f.db=W.heap.size)(o2:Only M w1 w2)(o3:Only P w2 w3)
  (hm:∃g,jC (q.af.set i (some f)) g/\kG Tryz.prog 3 3 w2 M (cntF (q.af.set i (some f))) g (cntF (q.af.set i (some f)))) (hb:ay w3 P (nW D FB q.af.length M q.hand ah q.op)) :
  PD E w3 P D FB M {af:=q.af.set i (some f),hand:=q.hand,ah:=ah,op:=q.op} d au/\Kept E W w3:=by
 have hp:=h.pool;have o1:=hh.only
 have hkeep:∀b,b<W.heap.size->b≠FB->b≠M->b≠P->w3.heap[b]?=W.heap[b]?:=λ b hb h1 h2 h3=>
  ((o3.block b (bZ hb (aP o1.size o2.size)) h3).trans (o2.block b (bZ hb o1.size) h2)).trans (o1.block b hb h1)
 have hown:∀b,mV (some f) b->mV none b\/W.heap.size<=b:=λ b hb=>by
  rcases hb with rfl|rfl
  ·exact .inr (by omega)
  exact .inr (by omega)
 have hsz:W.heap.size<=w3.heap.size:=aP (aP o1.size o2.size) o3.size;have Ka:=hp.box.lt;have Nk:=hp.sO.lt;have QE:M<W.heap.size:=hp.lt (.inr (.inr (.inl rfl)));refine h.moves (q':={af:=q.af.set i (some f),hand:=q.hand,ah:=ah,op:=q.op}) ⟨(o3.os.trans o2.os).trans o1.os,(o3.tape.trans o2.tape).trans o1.tape,(o3.output.trans o2.output).trans o1.output,hsz,λ b hb hn=>hkeep b hb (λ e=>hn (.inr (.inl e))) (λ e=>hn (.inr (.inr (.inl e)))) (λ e=>hn (.inl e)),λ b hb=>ji.bO hi hown hb⟩ ?_;obtain⟨g,hg,hm⟩:=hm;refine hp.bO hi h.dd.tab.lt hb hsz (λ k hk=>hkeep k (hp.op.lt hk) (hp.jk k hk).2.1 (hp.jk k hk).2.2 (hp.jk k hk).1) ((hh.row.only o2 hp.FM).only o3 hp.PF.symm) ⟨g,hg,hm.only o3 hp.PM.symm⟩ (λ j u b _ hu hb=>?_) (λ f' hf'=>?_) hown
 ·have:=hp.off j u b hu hb;exact hkeep b (hp.xz hu hb) this.2.1 this.2.2 this.1
 obtain rfl:=aZ hf'
 have e1:∀b,mV (some f) b->w3.heap[b]?=w1.heap[b]?:=λ b hb=>by
  have hb1:=hh.new.lt hb;have hge:=hown b hb
  have aak:W.heap.size<=b:=by
   rcases hge with x|x
   ·exact absurd x id
   exact x
  exact(o3.block b (bZ hb1 o2.size) (by omega)).trans (o2.block b hb1 (by omega))
 exact hh.new.ae (e1 _ (.inl rfl)) (e1 _ (.inr rfl))
theorem WB(h:PD E W P D FB M q d au)(o:nO q)(Cc:0<=q.ah/\q.ah<=1000000){i:Nat}(hi:q.af[i]?=some none)(page:Int)(cZ:(Lit.int .i64 page).wf=true)(hno:∀(i:Nat) (f:Fr),q.af[i]?=some (some f)->f.page≠page)(s:List UInt8)(hs:s.length=504) :
  Calls Tryz.prog 130 #[.pointer P,.int .i64 i,.int .i64 page,.string (str s)] W λ e w'=>yct E W w' P D FB M q d au i page s e:=by
 have hp:=h.pool;have hl:=(dE.1 hi).1;have c1:=hp.box.c1;obtain⟨cap,ob,hcap,hcv,hy⟩:=UK.VG (P:=Tryz.prog) (src:=9) (dst:=94) Tryz.underlying9 Tryz.underlying94 Tryz.underlying5 W s;rw[hs]at hcap hcv;obtain⟨f,HF⟩:∃f:Fr,Hid (f={blk:=W.heap.size+1,db:=W.heap.size,cap:=cap,page:=page,data:=s,ah:=1,used:=true,bM:=false}):=⟨_,rfl⟩;have HH:=zH (xue (P:=P) hp.sO hl hs page cZ hcap hy 198 f HF.out);have cF:=hp.sO.at' i _ (QC _ _ _ hi);have fF:=hp.sO.free i hl;have Ka:=hp.box.lt;have Nk:=hp.sO.lt;have hk:=o.few;clear hy
 go_enter Tryz.func130,Tryz.ntmps130
 go_upto_region 3 with(fail)
 refine xxi (λ w'=>Half W w' P FB q.af i f) (by have e:=HH.out;rw[HF.out]at e ⊢;exact e) ?_;intro w1 hh;obtain⟨g,hg,hm⟩:=hp.map
 have hgf:g page=none:=by
  cases u6:g page with
  | none=>rfl
  | some b=>
   obtain⟨j,_,fr,hj,hf⟩:=(hg page b).1 u6;exact absurd hf (hno j fr hj)
 have hm1:=hm.only hh.only hp.FM.symm;obtain⟨w2,hput,hm2,o2⟩:=hm1.put (t:=111) Tryz.underlying3 Tryz.underlying3 Tryz.underlying111 (by have:=yac q.af;unfold maxLen;omega) page i cZ (WalkArith.wf_i64 (by omega));rw[hgf]at hm2;have hc:=JY q.af i none (some f) hi;simp only[Option.isSome_some,Option.isSome_none,if_true,Bool.false_eq_true,if_false]at hc hm2;rw[show cntF q.af+1=cntF (q.af.set i (some f)) by omega]at hm2;have hfp:f.page=page:=by rw[HF.out]
 have vY:=hg.lay hi (fr:=f) (by rw[hfp];exact hgf);rw[hfp]at vY;have b1:=hp.box.only hh.only hp.PF;have b2:=b1.only o2 hp.PM;have c2:=b1.c2;have c4:=b2.c4;have f4:=b2.free 4;have HFin:=zH (h.laid hi hh (by rw[HF.out];exact⟨rfl,rfl⟩) o2 ((Only.refl P w2).set 4 (.int .i64 (q.ah+1))) ⟨_,vY,hm2.tight⟩ (ah:=q.ah+1) (b2.set 4 (.int .i64 (q.ah+1))));obtain⟨hp1,hp2⟩:=Cc;clear HH hm hm1 hm2 vY hgf hg hc b1 b2 hcv cF fF c1 hno hh;go_wp2;go_ret;exact⟨f,by rw[HF.out]<;>rfl,hfp,by rw[HF.out],by rw[HF.out],by rw[HF.out],by rw[HF.out],HFin.out.1,HFin.out.2⟩
end
open UK (nth w32)
def gU(x:List UInt8)(p:Nat):List UInt8:=(x.drop (512*p)).take 512
def LQ(g:List UInt8)(p:Nat):Bool:=decide (dI (g.take 4)=ik 0 (g.drop 4))&&decide (((dI ((g.drop 4).take 4)).toNat:Int)=p)
theorem LU{x:List UInt8}{p:Nat}(h:512*(p+1)<=x.length):(gU x p).length=512:=by
 unfold gU;rw[zt,zd];omega
theorem xR(x:List UInt8)(p:Nat):okB x p=LQ (gU x p) p:=by
 unfold okB LQ gU;rw[kL,List.drop_take,kL,jV];rfl
theorem Be(x:List UInt8)(p:Nat):AX x p=(gU x p).drop 8:=by
 unfold AX gU;rw[List.drop_take,jV]
theorem ι(l:List UInt8)(n i:Nat)(h:i<n):nth (l.take n) i=nth l i:=by
 unfold nth;rw[fE,fE,eX h]
theorem ν(l:List UInt8)(n i:Nat):nth (l.drop n) i=nth l (n+i):=by
 unfold nth;rw[fE,fE,eY]
theorem ξ{l m:List UInt8}(hl:l.length=m.length)(h:∀i,i<l.length->nth l i=nth m i):l=m:=by
 refine List.ext_getElem? (λ i=>?_);by_cases hi:i<l.length
 ·have:=h i hi;unfold nth at this;rw[fE,fE,bL hi,bL (by omega)]at this;rw[bL hi,bL (by omega)];exact congrArg some this
 rw[jo (by omega),jo (by omega)]
theorem jq(x:List UInt8)(a:Nat)(s:List UInt8)(i:Nat)(h:a+s.length<=x.length):nth (UK.wr x a s) i=if a<=i/\i<a+s.length then nth s (i-a) else nth x i:=by
 unfold UK.wr nth;have h1:(x.take a).length=a:=by rw[zt];omega
 rw[fE,fE,fE,List.getElem?_append,List.getElem?_append,h1,eY];by_cases h2:i<a
 ·rw[if_pos h2,if_neg (by omega),eX h2]
 rw[if_neg h2];by_cases h3:i-a<s.length
 ·rw[if_pos h3,if_pos (by omega)]
 rw[if_neg h3,if_neg (by omega),show a+s.length+(i-a-s.length)=i by omega]
theorem Tv(x:List UInt8)(p i:Nat)(h:i<512):nth (gU x p) i=nth x (512*p+i):=by
 unfold gU;rw[ι _ _ _ h,ν]
theorem El(x:List UInt8)(p q:Nat)(s:List UInt8)(hs:s.length=512)(h:512*(p+1)<=x.length)(hq:512*(q+1)<=x.length):gU (UK.wr x (512*p) s) q=if p=q then s else gU x q:=by
 have hw:=UK.iW x (512*p) s (by omega);refine ξ ?_ (λ i hi=>?_)
 ·rw[LU (by omega)]
  split
  ·exact hs.symm
  exact(LU hq).symm
 rw[LU (by omega)]at hi;rw[Tv _ _ _ hi,jq _ _ _ _ (by omega)];by_cases e:p=q
 ·subst e;rw[if_pos (by omega),if_pos rfl,show 512*p+i-512*p=i by omega]
 rw[if_neg (by omega),if_neg e,Tv _ _ _ hi]
theorem π(p:Nat)(s:List UInt8)(hs:s.length=504):iX p s=aI (ik 0 (aI (w32 p)++s))++(aI (w32 p)++s):=by
 unfold iX pX;rw[show 504-s.length=0 by omega];show aI (ik 0 (aI (w32 p)++(s++[])))++(aI (w32 p)++(s++[]))=_;rw[jL]
theorem Tw(c:UInt32)(l:List UInt8):(aI c++l).take 4=aI c:=rfl
theorem τ(c:UInt32)(l:List UInt8):(aI c++l).drop 4=l:=rfl
theorem Tx(p:Nat)(hp:p<=60000)(s:List UInt8):LQ (iX p s) p=true:=by
 unfold LQ iX;rw[Tw,τ,CK];unfold pX;rw[Tw,CK];rw[decide_eq_true rfl,Bool.true_and,decide_eq_true_eq,<-UK.Ga p];omega
theorem υ(p:Nat)(s:List UInt8)(hs:s.length=504):(iX p s).drop 8=s:=by
 rw[π p s hs];rfl
theorem Ty(x:List UInt8)(p:Nat)(hp:p<=60000)(s:List UInt8)(hs:s.length=504)(h:512*(p+1)<=x.length):jX (UK.wr x (512*p) (iX p s)) p=s/\xP (UK.wr x (512*p) (iX p s)) p=0:=by
 have e:gU (UK.wr x (512*p) (iX p s)) p=iX p s:=by rw[El x p p _ (zY p s (by omega)) h h,if_pos rfl]
 have ok:okB (UK.wr x (512*p) (iX p s)) p=true:=by rw[xR,e];exact Tx p hp s
 unfold xP;rw[O3 ok,ok,Be,e,υ p s hs];exact⟨rfl,rfl⟩
open UK (str aF nth Only w32 Row)
def Em(x:List UInt8)(q:Nat):List UInt8:=(AX x q).take 4
structure Clean(d:Dk)(au:Nat):Prop where
 fit:Fit d au
 so:Sound d au
 rl:d.rl= -1
 wl:d.wl= -1
 ok:∀p,1<=p->p<au->okB d.x p=true
 link:∀i,i<d.free.length->Em d.x (d.free.getD i 0)=rJ d i
theorem OI(x:List UInt8)(p:Nat):Em x p=((gU x p).drop 8).take 4:=by unfold Em;rw[Be]
theorem χ(p:Nat)(s:List UInt8)(hs:4<=s.length):((iX p s).drop 8).take 4=s.take 4:=by
 unfold iX pX;show List.take 4 (List.drop 4 ((aI (w32 p))++(s++UK.bF (504-s.length))))=_;show List.take 4 (s++UK.bF (504-s.length))=_;rw[qE hs]
theorem LW(x:List UInt8)(au p q:Nat)(s:List UInt8)(hx:x.length=512*au)(h6:au<=60000)(hp:p<au)(hq:q<au)(hs:s.length<=504)(h:q≠p->okB x q=true):okB (UK.wr x (512*p) (iX p s)) q=true:=by
 rw[xR,El x p q _ (zY p s hs) (by omega) (by omega)];by_cases e:p=q
 ·rw[if_pos e,<-e];exact Tx p (by omega) s
 rw[if_neg e,<-xR];exact h (λ e2=>e e2.symm)
theorem OJ(x:List UInt8)(au p q:Nat)(s:List UInt8)(hx:x.length=512*au)(hp:p<au)(hq:q<au)(hs:s.length<=504)(e:p≠q):Em (UK.wr x (512*p) (iX p s)) q=Em x q:=by
 rw[OI,OI,El x p q _ (zY p s hs) (by omega) (by omega),if_neg e]
theorem ψ(x:List UInt8)(au p:Nat)(s:List UInt8)(hx:x.length=512*au)(hp:p<au)(h4:4<=s.length)(hs:s.length<=504):Em (UK.wr x (512*p) (iX p s)) p=s.take 4:=by
 rw[OI,El x p p _ (zY p s hs) (by omega) (by omega),if_pos rfl,χ p s h4]
theorem Tz{d d':Dk}(h:d'.free=d.free)(i:Nat):rJ d' i=rJ d i:=by unfold rJ;rw[h]
theorem LX{l:List Nat}{i:Nat}(h:i<l.length):l.getD i 0∈l:=by
 rw[fE,bL h];exact List.getElem_mem _
theorem LY{d:Dk}(h:d.wl= -1):iC d.wl= -1:=by rw[h];rfl
theorem Clean.write{d:Dk}{au:Nat}(h:Clean d au)(h3:d.puts+1<1000000000)(p:Nat)(hp:p<au)(hf:p∉d.free)(s:List UInt8)(hs:s.length<=504):Clean (CQ d p s) au:=by
 refine⟨OC h.fit h3 p hp s hs,h.so.of_same rfl rfl,h.rl,LY h.wl,λ q h1 h2=>LW d.x au p q s h.fit.len h.fit.few hp h2 hs (λ _=>h.ok q h1 h2),λ i hi=>?_⟩;have hm:=LX (show i<d.free.length from hi);refine(OJ d.x au p _ s h.fit.len hp (h.fit.free _ hm).2 hs (λ e=>hf (e▸hm))).trans ?_;exact(h.link i hi).trans (Tz rfl i).symm
theorem Clean.give{d:Dk}{au:Nat}(h:Clean d au)(h3:d.puts+1<1000000000)(p:Nat)(h1:1<=p)(hp:p<au)(hf:p∉d.free):Clean (tu d p) au:=by
 have hl:=h.so.less h.fit hp hf;have hnl:(rJ d d.free.length).length=4:=gT _ _;refine⟨OE h.fit h3 p h1 hp hl,h.so.give h.fit hp hf,h.rl,LY h.wl,λ q a b=>LW d.x au p q _ h.fit.len h.fit.few hp b (by omega) (λ _=>h.ok q a b),λ i hi=>?_⟩
 have hi2:i<d.free.length+1:=by
  have:i<(d.free++[p]).length:=hi
  rwa [zl]at this
 by_cases e:i=d.free.length
 ·subst e
  have e1:(tu d p).free.getD d.free.length 0=p:=by
   show(d.free++[p]).getD d.free.length 0=p;rw[fE,bP (aO _),kN];rfl
  rw[e1];refine(ψ d.x au p _ h.fit.len hp (by omega) (by omega)).trans ?_;rw[fO (by omega)];unfold rJ;by_cases e0:d.free.length=0
  ·rw[if_pos e0,if_pos e0]
  rw[if_neg e0,if_neg e0];show _=aI (w32 ((d.free++[p]).getD _ 0));rw[fE,fE,bI (by omega)]
 have hil:i<d.free.length:=by omega
 have e1:(tu d p).free.getD i 0=d.free.getD i 0:=by
  show(d.free++[p]).getD i 0=_;rw[fE,fE,bI hil]
 have hm:=LX hil;rw[e1];refine(OJ d.x au p _ _ h.fit.len hp (h.fit.free _ hm).2 (by omega) (λ e=>hf (e▸hm))).trans ((h.link i hil).trans ?_);unfold rJ;by_cases e0:i=0
 ·rw[if_pos e0,if_pos e0]
 rw[if_neg e0,if_neg e0];show _=aI (w32 ((d.free++[p]).getD _ 0));rw[fE,fE,bI (by omega)]
theorem Clean.gL{d:Dk}{au:Nat}(h:Clean d au)(h3:d.puts+1<1000000000)(l:List Nat)(p:Nat)(hl:d.free=l++[p]):Clean (gL d l p) au:=by
 have hpm:p∈d.free:=by rw[hl];exact lI _ (bz.2 rfl)
 have hp:=h.fit.free p hpm;have hnd:=h.so.nodup;rw[hl]at hnd;have hpl:p∉l:=λ hm=>(bN.1 hnd).2.2 p hm p (bz.2 rfl) rfl;refine⟨OG h.fit h3 l p hl,h.so.gL h.fit hl,h.rl,LY h.wl,λ q a b=>LW d.x au p q _ h.fit.len h.fit.few hp.2 b (by decide) (λ _=>h.ok q a b),λ i hi=>?_⟩;have hil:i<l.length:=hi;have hdl:d.free.length=l.length+1:=by rw[hl,zl];rfl
 have e1:l.getD i 0=d.free.getD i 0:=by
  rw[hl,fE,fE,bI hil]
 have hm:=LX (show i<d.free.length by omega);show Em _ (l.getD i 0)=_;have hne:p≠l.getD i 0:=λ e=>hpl (e▸LX hil);refine(OJ d.x au p _ _ h.fit.len hp.2 (by rw[e1];exact(h.fit.free _ hm).2) (by decide) hne).trans ?_;rw[e1];refine(h.link i (by omega)).trans ?_;unfold rJ;by_cases e0:i=0
 ·rw[if_pos e0,if_pos e0]
 rw[if_neg e0,if_neg e0];show _=aI (w32 (l.getD _ 0));rw[hl,fE,fE,bI (by omega)]
theorem ω(x z:List UInt8)(p:Nat)(h:512*(p+1)<=x.length):okB (x++z) p=okB x p:=by
 have e:gU (x++z) p=gU x p:=by
  unfold gU;rw[List.drop_append_of_le_length (by omega),qE (by rw[zd];omega)]
 rw[xR,xR,e]
theorem Clean.takeN{d:Dk}{au:Nat}(h:Clean d au)(h3:d.puts+1<1000000000)(hl:d.free=[])(hm:(au:Int)<d.aC):Clean (takeN d au) (au+1):=by
 have hx:(d.x++UK.bF 512).length=512*(au+1):=by rw[zl,UK.jm,h.fit.len];omega
 refine⟨OH h.fit h3 hl hm,h.so.takeN h.fit hl,h.rl,LY h.wl,λ q a b=>?_,λ i hi=>?_⟩
 ·refine LW _ (au+1) au q _ hx (by have:=h.fit.aC.2.1;omega) (by omega) b (by decide) (λ e=>?_);rw[ω _ _ _ (by rw[h.fit.len];omega)];exact h.ok q a (by omega)
 have hi':i<d.free.length:=hi;rw[hl]at hi';exact absurd hi' (jO _)
theorem Clean.same{d d':Dk}{au:Nat}(h:Clean d au)(f:Fit d' au)(hx:d'.x=d.x)(hf:d'.free=d.free)(hi:d'.fP=d.fP)(hr:d'.rl= -1)(hw:d'.wl= -1):Clean d' au:=
 ⟨f,h.so.of_same hf hi,hr,hw,by rw[hx];exact h.ok,λ i hil=>by rw[hx,hf,Tz hf];rw[hf]at hil;exact h.link i hil⟩
end Go.Proofs.YtgpmiliahonaoaaGreatDoor
