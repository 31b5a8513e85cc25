/- Facts on rows of numbers on pages. -/
import Derived.Test.YtlipgbnnbefhjaaGreatDoorKPoolEb
set_option maxRecDepth 100000
set_option maxHeartbeats 8000000
set_option linter.unusedSimpArgs false
namespace Go.Proofs.YtlipgbnnbefhjaaGreatDoor
open Go.RowKit
open UK (str aO nth Only w32 Row)
open Go.BigFrame
/- strings.CutPrefix -/
theorem xqw(a m:List UInt8)(h:m.length<=a.length)(_hs:a.length<=100000)(W:World) :
  Calls Tryz.prog 120 #[.string (str a),.string (str m)] W λ e w'=>e= .returned (.bool (decide (a.take m.length=m)))/\w'=W:=by
 have HB:Hid ((a.take m.length==m)=decide (a.take m.length=m)):=by
  show _=_;rw[Bool.eq_iff_iff,beq_iff_eq,decide_eq_true_eq]
 generalize decide (a.take m.length=m)=b at HB ⊢
 go_enter Tryz.func120,Tryz.ntmps120
 go_wp2;go_ret
 exact⟨by rw[<-HB.out]<;>rfl,rfl⟩
theorem xqx(a m:List UInt8)(h:m.length<=a.length)(hs:a.length<=100000)(W:World) :
  Calls Tryz.prog 82 #[.string (str a),.string (str m)] W λ e w'=>e= .returned (.tuple #[.string (str (if a.take m.length=m then a.drop m.length else a)),.bool (decide (a.take m.length=m))])/\w'=W:=by
 have hp:=λ w=>xqw a m h hs w;by_cases hm:a.take m.length=m
 ·rw[if_pos hm,decide_eq_true hm];simp only[decide_eq_true hm]at hp;clear hm
  go_enter Tryz.func82,Tryz.ntmps82
  go_wp2_with fail
  refine(hp _).mono ?_;rintro e w' ⟨rfl,rfl⟩;go_wp2;go_ret2;exact⟨by simp,rfl⟩
 rw[if_neg hm,decide_eq_false hm];simp only[decide_eq_false hm]at hp;clear hm
 go_enter Tryz.func82,Tryz.ntmps82
 go_wp2_with fail
 refine(hp _).mono ?_;rintro e w' ⟨rfl,rfl⟩;go_wp2;go_ret2;exact⟨rfl,rfl⟩
theorem Wz(a m:List UInt8)(h:m.length<=a.length)(hs:a.length<=100000)(W:World) :
  Calls Tryz.prog 46 #[.string (str a),.string (str m)] W λ e w'=>e= .returned (.tuple #[.string (str (if a.take m.length=m then a.drop m.length else a)),.bool (decide (a.take m.length=m))])/\w'=W:=by
 have hp:=λ w=>xqx a m h hs w;generalize (if a.take m.length=m then a.drop m.length else a)=r at hp ⊢;generalize decide (a.take m.length=m)=b at hp ⊢
 go_enter Tryz.func46,Tryz.ntmps46
 go_wp2_with fail
 refine(hp _).mono ?_;rintro e w' ⟨rfl,rfl⟩;go_wp2;go_ret2;exact⟨rfl,rfl⟩
theorem xzm(a m:List UInt8)(h:m.length<=a.length)(hs:a.length<=100000)(hm:¬a.take m.length=m)(W:World) :
  Calls Tryz.prog 46 #[.string (str a),.string (str m)] W λ e w'=>e= .returned (.tuple #[.string (str a),.bool false])/\w'=W:=by
 have:=Wz a m h hs W;rw[if_neg hm,decide_eq_false hm]at this;exact this
theorem xwn(a m:List UInt8)(h:m.length<=a.length)(hs:a.length<=100000)(hm:a.take m.length=m)(W:World) :
  Calls Tryz.prog 46 #[.string (str a),.string (str m)] W λ e w'=>e= .returned (.tuple #[.string (str (a.drop m.length)),.bool true])/\w'=W:=by
 have:=Wz a m h hs W;rw[if_pos hm,decide_eq_true hm]at this;exact this
section
variable{W w w1:World}{own:Nat->Prop}{D B bc fc I lc:Nat}{fo lo:Option Addr}{s y:List UInt8}{ax:Int}{lf l fl:List Nat}
abbrev FP(s:List UInt8)(ax:Int)(lf fl:List Nat):Dk:={x:=s,ax:=ax,free:=fl,gu:=pW (s.length/512) lf,rl:= -1,wl:= -1,reads:=0,puts:=0}
structure OS(W w:World)(own:Nat->Prop)(D B bc:Nat)(fo:Option Addr)(fc I:Nat)(y s:List UInt8)(ax:Int)(lf fl l:List Nat)(lo:Option Addr)(lc:Nat):Prop where
 at_:aN w own D B bc fo fc I (s.length/512) y (FP s ax lf fl)
 row:(lo=none/\l=[]/\lc=0)\/∃g,lo=some ⟨g,0,none⟩/\Row w g lc (ints l)/\¬own g/\W.heap.size<=g
 pq:Below W W w
 low:∀k,own k->W.heap.size<=k
 bnd:∀k,own k->k<w.heap.size
theorem OS.next(h:OS W w own D B bc fo fc I y s ax lf fl l lo lc)(hb:Below w w w1):OS W w1 own D B bc fo fc I y s ax lf fl l lo lc:=by
 refine⟨h.at_.below hb,?_,h.pq.trans (hb.mono h.pq.size),h.low,λ k hk=>bS (h.bnd k hk) hb.size⟩;rcases h.row with h0|⟨g,e,r,n1,n2⟩
 ·exact .inl h0
 exact .inr ⟨g,e,r.below hb r.lt,n1,n2⟩
theorem OS.look(h:OS W w own D B bc fo fc I y s ax lf fl l lo lc)(p:Nat)(hp:512*(p+1)<=s.length)(hs:s.length<=100000000) :
  Calls Tryz.prog 45 #[.pointer D,.int .i64 p] w λ e w'=>e= .returned (.tuple #[.string (str (jM s p)),.bool (okB s p)])/\OS W w' own D B bc fo fc I y s ax lf fl l lo lc:=by
 have hpre:=Wm h.at_ p hp;have hle:=h.at_.le;have hyl:=h.at_.lJ;refine(Wd h.at_.bytes s.length bc p (h.at_.cells.at' 0 _ rfl) (by rw[hyl];exact hle) hle hs hp h.at_.tab).mono ?_;rintro e w' ⟨rfl,hb⟩;refine⟨?_,h.next hb⟩;rw[hpre.1,hpre.2]
theorem OS.word(h:OS W w own D B bc fo fc I y s ax lf fl l lo lc)(v:UInt32) :
  Calls Tryz.prog 47 #[.int .u32 v.toNat] w λ e w'=>e= .returned (.string (str (aW v)))/\OS W w' own D B bc fo fc I y s ax lf fl l lo lc:=(ND v w).mono λ _ _ ⟨a,b⟩=>⟨a,h.next b⟩
theorem OS.flag(h:OS W w own D B bc fo fc I y s ax lf fl l lo lc)(p:Nat)(hp:p<s.length/512):OS W (w.setCell (I,p) (.bool true)) own D B bc fo fc I y s ax (lf++[p]) fl l lo lc:=by
 have h1:=h.at_.vO p true (by rw[FO];exact hp);have o:=(Only.refl I w).set p (.bool true);refine⟨?_,?_,h.pq.setCell (h.low _ h.at_.oI) _,h.low,λ k hk=>bS (h.bnd k hk) o.size⟩
 ·simp only[FP]at h1 ⊢;rw[xqs]at h1;exact h1
 rcases h.row with h0|⟨g,e,r,n1,n2⟩
 ·exact .inl h0
 exact .inr ⟨g,e,r.only o (λ e2=>n1 (e2▸h.at_.oI)),n1,n2⟩
theorem OS.push(h:OS W w own D B bc fo fc I y s ax lf fl l lo lc)(ht:jG W)(p:Nat)(hl:l.length<=60000) :
  ∃g' c' w',(Builtin.append_ #[73,73] 73 #[.slice lo l.length lc,.slice w 1 1]).run Tryz.prog (w.alloc (.cells #[.int .i64 (p:Int)] 3))= .ok (.slice (some ⟨g',0,none⟩) (l.length+1) c') w'/\OS W w' own D B bc fo fc I y s ax lf fl (l++[p]) (some ⟨g',0,none⟩) c':=by
 have ha:(lo=none/\ints l=[]/\lc=0)\/∃g,lo=some ⟨g,0,none⟩/\Row w g lc (ints l):=by
  rcases h.row with⟨a,b,c⟩|⟨F,e,r,_⟩
  ·exact .inl ⟨a,by rw[b];rfl,c⟩
  exact .inr ⟨F,e,r⟩
 obtain⟨g',c',W',e,r,o,hg⟩:=UK.I9 (P:=Tryz.prog) (t:=73) (ty:=73) Tryz.underlying73 (i:=Tryz.t3) rfl rfl rfl (show(8:Nat)<=16 by omega) rfl ha (.int .i64 (p:Int)) rfl (by rw[dx];omega);rw[dx]at e
 have hn:¬own g'/\W.heap.size<=g':=by
  rcases hg with hg|hg
  ·rcases h.row with⟨a,_⟩|⟨F,e2,_,n1,n2⟩
   ·rw[a]at hg;cases hg
   rw[e2]at hg;obtain rfl:F=g':=congrArg Addr.block (bC hg);exact⟨n1,n2⟩
  exact⟨λ hk=>by have:=h.bnd _ hk;omega,bf h.pq.size hg⟩
 have htl:=ht.lt;refine⟨g',c',W',e,h.at_.only o hn.1 (by omega),.inr ⟨g',rfl,by unfold ints at *;rw[jr];exact r,hn.1,hn.2⟩,h.pq.trans (o.below h.pq.size hn.2),h.low,λ k hk=>bS (h.bnd k hk) o.size⟩
theorem OS.free(h:OS W w own D B bc fo fc I y s ax lf fl l lo lc)(p:Nat)(hl:fl.length<=60000) :
  ∃g' c' w',(Builtin.append_ #[73,73] 73 #[.slice fo fl.length fc,.slice w 1 1]).run Tryz.prog (w.alloc (.cells #[.int .i64 (p:Int)] 3))= .ok (.slice (some ⟨g',0,none⟩) (fl.length+1) c') w'/\w'.cell? (D,2)=some (.slice fo fl.length fc)/\w'.frozen? ⟨D,2,none⟩=false /\
   OS W (w'.setCell (D,2) (.slice g' (fl.length+1) c')) (also own g') D B bc g' c' I y s ax lf (fl++[p]) l lo lc:=by
 obtain⟨g',c',w6,e6,r6,o6,k1,k2,k3,k4⟩:=Wn h.at_ p hl;have h7:=h.at_.zJ r6 o6 k2 k3 k4 k1
 have hgW:W.heap.size<=g':=by
  rcases k1 with k1|k1
  ·exact h.low _ k1
  exact bf h.pq.size k1
 rw[zl,gI]at h7;refine⟨g',c',w6,e6,(h.at_.cells.only o6 k2.symm).at' 2 _ rfl,(h.at_.cells.only o6 k2.symm).free 2 (by omega),h7,?_,(h.pq.trans (o6.below h.pq.size hgW)).setCell (h.low _ h.at_.oD) _,λ k hk=>?_,λ k hk=>?_⟩
 ·rcases h.row with h0|⟨g,e,r,n1,n2⟩
  ·exact .inl h0
  have hgg:g≠g':=λ e2=>by
   rcases k1 with k1|k1
   ·exact n1 (e2▸k1)
   have:=r.lt;omega
  have hgD:g≠D:=λ e2=>n1 (e2▸h.at_.oD)
  exact .inr ⟨g,e,(r.only o6 hgg).only ((Only.refl D w6).set 2 _) hgD,λ hh=>by
   rcases hh with hh|hh
   ·exact n1 hh
   exact hgg hh,n2⟩
 ·rcases hk with hk|rfl
  ·exact h.low k hk
  exact hgW
 have hsz:(w6.setCell (D,2) (.slice g' (fl.length+1) c')).heap.size=w6.heap.size:=by simp[World.setCell]
 rw[hsz];rcases hk with hk|rfl
 ·exact bS (h.bnd k hk) o6.size
 exact r6.lt
theorem OS.start{CL:Nat->Prop}{B0 bc0 I0 Q3:Nat}{y0:List UInt8}{pages:Int}(ht:jG W)(h:aN w CL D B0 bc0 fo fc I0 Q3 y0 (lK pages))(hb:Below W W w)(hlow:∀k,CL k->W.heap.size<=k)
  (cap:Nat) (o:Obj) (hcap:s.length<=cap) (hy:aO (w.drew.alloc o) w y) (hyl:y.length=cap) (hpre:y.take s.length=s) (v0 v3:Value)
  (hv0:v0= .slice w s.length cap) (hv3:v3= .slice (some ⟨w.heap.size+1,0,none⟩) (s.length/512) (s.length/512)) :
  ∃own,OS W (((((w.setCell D v0).setCell (D,3) v3).setCell (D,7) (.int .i64 0)).alloc o).alloc (.cells (madeCells #[.bool false] (s.length/512)) 4)).drew own D w cap fo fc (w.heap.size+1) y s (iE pages) [] [] [] none 0:=by
 subst hv0 hv3;have hst:=Kc pages;have hfr:(lK pages).free=[]:=hst.free;have r4:=((h.cells.set 0 (.slice w s.length cap) (by show 0<8;omega)).set 3 (.slice (some ⟨w.heap.size+1,0,none⟩) (s.length/512) (s.length/512)) (by show 3<8;omega)).set 7 (.int .i64 0) (by show 7<8;omega);have o3:=(((Only.refl D w).set 0 (.slice w s.length cap)).set 3 (.slice (some ⟨w.heap.size+1,0,none⟩) (s.length/512) (s.length/512))).set 7 (.int .i64 0)
 have hfo:fo=none/\fc=0\/∃F,fo=some ⟨F,0,none⟩/\Row w F fc []/\F≠D/\CL F:=by
  rcases h.fw with⟨a,_,c⟩|⟨F,e,r,n1,_,_,n4⟩
  ·exact .inl ⟨a,c⟩
  rw[hfr]at r;exact .inr ⟨F,e,r,n1,n4⟩
 have hF:∀F,fo=some ⟨F,0,none⟩->Row w F fc []/\F≠D/\CL F:=λ F e=>by
  rcases hfo with⟨a,_⟩|⟨F',e',r,n1,n4⟩
  ·rw[a]at e;cases e
  rw[e']at e;obtain rfl:F'=F:=congrArg Addr.block (bC e);exact⟨r,n1,n4⟩
 have q1:=λ F e=>(hF F e).1.only o3 (hF F e).2.1;have t1:=UK.xS (ht.below hb) o3 (λ e=>by have:=ht.lt;have:=hlow _ h.oD;omega);have B1:=((hb.setCell (p:=⟨D,0,none⟩) (hlow _ h.oD) (.slice w s.length cap)).setCell (p:=⟨D,3,none⟩) (hlow _ h.oD) (.slice (some ⟨w.heap.size+1,0,none⟩) (s.length/512) (s.length/512))).setCell (p:=⟨D,7,none⟩) (hlow _ h.oD) (.int .i64 0);have hsz:(((w.setCell D (.slice w s.length cap)).setCell (D,3) (.slice (some ⟨w.heap.size+1,0,none⟩) (s.length/512) (s.length/512))).setCell (D,7) (.int .i64 0)).heap.size=w.heap.size:=by simp[World.setCell]
 generalize ((w.setCell D (.slice w s.length cap)).setCell (D,3) (.slice (some ⟨w.heap.size+1,0,none⟩) (s.length/512) (s.length/512))).setCell (D,7) (.int .i64 0)=w1 at r4 o3 q1 t1 B1 hsz ⊢
 have y2:aO (w1.alloc o) w y:=hy.af (by
  have e1:(w1.alloc o).heap[w1.heap.size]?=some o:=by
   show(w1.heap.push _)[w1.heap.size]?=_;rw[sF]
  have e2:(w.drew.alloc o).heap[w.drew.heap.size]?=some o:=by
   show(w.drew.heap.push _)[w.drew.heap.size]?=_;rw[sF]
  rw[hsz]at e1;exact e1.trans e2.symm)
 have s2:(w1.alloc o).heap.size=w.heap.size+1:=by simp[hsz]
 have B2:=B1.alloc B1.size o;have b2:Below w1 w1 (w1.alloc o):=(aP _ _).alloc (aZ _) _;have hDlt:=h.cells.lt;have r5:=r4.below b2 (by omega);have q2:=λ F e=>(q1 F e).below b2 (q1 F e).lt;have t2:=t1.below b2;generalize w1.alloc o=w2 at r5 q2 t2 y2 s2 B2 ⊢;have i2:=UK.pU w2 (madeCells #[.bool false] (s.length/512)) 4;rw[s2,size_madeCells,toList_madeCells_one]at i2;have b3:Below w2 w2 (w2.alloc (.cells (madeCells #[.bool false] (s.length/512)) 4)).drew:=((aP _ _).alloc (aZ _) _).drew;have B3:=(B2.alloc B2.size (.cells (madeCells #[.bool false] (s.length/512)) 4)).drew;have i3:=i2.drewN 1;have r6:=r5.below b3 (by omega);have q3:=λ F e=>(q2 F e).below b3 (q2 F e).lt;have t3:=t2.below b3;have y3:=y2.below b3 (by omega)
 have s3:(w2.alloc (.cells (madeCells #[.bool false] (s.length/512)) 4)).drew.heap.size=w.heap.size+2:=by
  show(w2.alloc _).heap.size=_;simp[s2]
 have i4:Row (w2.alloc (.cells (madeCells #[.bool false] (s.length/512)) 4)).drew (w.heap.size+1) (s.length/512) (List.replicate (s.length/512) (.bool false)):=i3;clear i2 i3;generalize (w2.alloc (.cells (madeCells #[.bool false] (s.length/512)) 4)).drew=w3 at r6 y3 i4 B3 t3 s3 q3 ⊢;have htl:=ht.lt;have hWD:=hlow _ h.oD;have hWw:=hb.size;have hF2:∀F,fo=some ⟨F,0,none⟩->F<w.heap.size/\F≠D/\W.heap.size<=F:=λ F e=>⟨(hF F e).1.lt,(hF F e).2.1,hlow _ (hF F e).2.2⟩;refine⟨λ k=>k=D\/k=w.heap.size\/k=w.heap.size+1\/fo=some ⟨k,0,none⟩,⟨?_,y3,hyl,hcap,hpre,?_,?_,by omega,by omega,by omega,.inl rfl,.inr (.inl rfl),.inr (.inr (.inl rfl)),t3,?_⟩,.inl ⟨rfl,rfl,rfl⟩,?_,?_,?_⟩
 ·have e1:(((((lK pages).vals B0 bc0 fo fc I0 Q3).set 0 (.slice w s.length cap)).set 3 (.slice (some ⟨w.heap.size+1,0,none⟩) (s.length/512) (s.length/512))).set 7 (.int .i64 0))=(FP s (iE pages) [] []).vals w cap fo fc (w.heap.size+1) (s.length/512):=by
   simp[Dk.vals,hfr,hst.ax,hst.wl,W9,WA,FO]
  rw[e1]at r6;exact r6
 ·rcases hfo with⟨a,c⟩|⟨F,e,r,n1,n4⟩
  ·exact .inl ⟨a,rfl,c⟩
  refine .inr ⟨F,e,?_,n1,by have:=(hF2 F e).1;omega,by have:=(hF2 F e).1;omega,.inr (.inr (.inr e))⟩;exact q3 F e
 ·show Row _ _ _ (zx (pW (s.length/512) []));rw[xqr]
  simpa[zx]using i4
 ·rintro(e|e|e|e)
  ·omega
  ·omega
  ·omega
  have:=(hF2 _ e).2.2;omega
 ·exact B3
 ·rintro k (rfl|rfl|rfl|e)
  ·exact hWD
  ·exact hWw
  ·omega
  exact(hF2 _ e).2.2
 rintro k (rfl|rfl|rfl|e)
 ·omega
 ·omega
 ·omega
 have:=(hF2 _ e).1;omega
end
theorem UK.oh{P:Program}{t tx ty:TypeId}{sv xv v':Value}{w w':World}(hr:(Builtin.append_ #[t,tx] ty #[sv,xv]).run P w= .ok v' w'){ops:Array Oper}{o:Oper}{a:Act}{K:Act->World->Prop}{Q:Exit->Act->World->Prop}{E:Prop}{s x:Operand}
  (hg:o.guard=none) (hop:o.op=Op.call {callee:=Callee.builtin Builtin.append,args:= #[s,x],argTypes:= #[t,tx]}) (hty:o.type=ty) (hs:a.eval s=sv) (hx:a.eval x=xv) (hK:K (a.put o.dst v') w') :
  if Region.wanted o (yielded ops a.tmps)=true then Oper.wp P o a w K Q else E:=by
 have hw:Region.wanted o (yielded ops a.tmps)=true:=by simp[Region.wanted,hg]
 rw[if_pos hw];subst hty;unfold Oper.wp;simp[execOp,hop,resolve,invoke,builtin,hs,hx,hr,Result.andThen];exact hK
theorem UK.uo{P:Program}{f:FuncId}{args:Array Value}{w:World}{Q:Ending->World->Prop}(R:World->Prop)(hR:R w)(h:∀w',R w'->Calls P f args w' Q):Calls P f args w Q:=h w hR
theorem xn6(p:Int):(p<2/\iE p=2)\/(60000<p/\iE p=60000)\/(2<=p/\p<=60000/\iE p=p):=by
 unfold iE;omega
section
variable{W:World}
def Ke:Value->Nat
 | .slice _ n _=>n
 | _=>0
def xwo(W w:World)(own:Nat->Prop)(D B bc:Nat)(fo:Option Addr)(fc I:Nat)(y s:List UInt8)(pages:Int)(n:Nat)(lv pv:Value):Prop:=
 ∃(l:List Nat) (lo:Option Addr) (lc:Nat) (p:List UInt8),lv= .slice lo l.length lc/\pv= .string (str p)/\Hid (p.length=4)/\OS W w own D B bc fo fc I y s (iE pages) l [] l lo lc/\gJ n l/\Hid (qQ s pages=sH s n (n+1-l.length) l p)
def Laid(W w:World)(D B bc I:Nat)(y s:List UInt8)(pages:Int)(l:List Nat)(lo:Option Addr)(lc:Nat)(iv:Value):Prop:=
 ∃(i:Int) (own:Nat->Prop) (fo:Option Addr) (fc:Nat) (fl:List Nat),iv= .int .i64 i/\ -1<=i/\i<l.length/\Hid (fl=(l.drop (i+1).toNat).reverse)/\OS W w own D B bc fo fc I y s (iE pages) l fl l lo lc
theorem ya3{w:World}{g:Nat}{p r:List UInt8}(h:aO w g (p++r))(hp:p.length=4)(c:Nat) :
  Calls Tryz.prog 48 #[.slice g p.length c] w λ e w'=>e= .returned (.int .u32 (nz p:Nat))/\Below w w w':=by
 have:=VY h 0 p.length c (by omega) (by rw[zl];omega);rw[lL,lZ (by omega),eZ (by omega)]at this;exact this
theorem xwp(p:List UInt8):nz p<4294967296:=(fC p).toNat_lt
def WB(W w':World)(s:List UInt8)(pages:Int)(e:Ending):Prop:=
 ((qQ s pages).1=0/\∃own D,e= .returned (.tuple #[.pointer (some ⟨D,0,none⟩),.int .i64 0])/\jo w' own D (Ka s pages)/\(∀k,own k->W.heap.size<=k/\k<w'.heap.size)/\Below W W w') \/
 ((qQ s pages).1≠0/\e= .returned (.tuple #[.pointer none,.int .i64 (qQ s pages).1])/\Below W W w')
theorem xwq(s:List UInt8)(pages:Int)(W:World)(ht:jG W)(n:Nat)(hn:s.length=512*n)(h1:1<=n)(h3:(n:Int)<=iE pages) :
  Calls Tryz.prog 16 #[.string (str s),.int .i64 pages] W λ e w'=>WB W w' s pages e:=by
 have hcl:=xn6 pages;have lM:n<=60000:=by rcases hcl with h|h|h<;>omega
 have hdiv:s.length/512=n:=by omega
 have e1:((s.length:Nat):Int)/512=(n:Int):=by omega
 have e2:((s.length:Nat):Int)%512=0:=by omega
 have h4:¬(n:Int)<1:=by omega
 have HN:=zH hn;have xW:=zH hdiv;have WC:=zH h3;have HCL:=zH hcl;have hnew:=Wl W pages ht;clear hdiv hn hcl h3
 go_enter Tryz.func16,Tryz.ntmps16
 go_upto_region 2 with(fail)
 go_cut [34] (λ c wx=>c= .bool false/\W=wx)
 case first=>
  rcases HCL.out with⟨a,b⟩|⟨a,b⟩|⟨a,c,b⟩
  all_goals
   have h3:=WC.out;rw[b]at h3;clear b;go_wp2;go_meet
   case rel=>exact⟨congrArg Value.bool (decide_eq_false (by omega)),rfl⟩
 obtain⟨rfl,rfl⟩:=hcut;clear e1 e2 h4
 go_wp2_with fail
 refine hnew.mono ?_;rintro e w1 ⟨rfl,⟨B0,bc0,fo,fc,I0,Q3,y0,hd⟩,hb⟩;obtain⟨cap,o,hcap,hcv,hy⟩:=UK.Q4 (P:=Tryz.prog) (src:=9) (dst:=88) Tryz.underlying9 Tryz.underlying88 Tryz.underlying5 w1 s;have hmk:=run_make_row (P:=Tryz.prog) 89 4 Tryz.t4 (.bool false) Tryz.underlying89 rfl rfl rfl rfl .i64 .i64 n (show 1*n<=281474976710656 by omega) (by omega);have c0:=hd.cells.at' 0 _ rfl;have c3:=hd.cells.at' 3 _ rfl;have c7:=hd.cells.at' 7 _ rfl;have f0:=hd.cells.free 0 (by omega);have f3:=hd.cells.free 3 (by omega);have f7:=hd.cells.free 7 (by omega);have hlt:=hd.cells.lt;obtain⟨own,hst⟩:=OS.start (s:=s) (pages:=pages) ht hd hb (λ k hk=>hk) cap o hcap hy (by rw[zl,ko];omega) (by rw[List.take_left'];rfl) _ _ rfl rfl;rw[xW.out]at hst;have HS:=zH hst;clear hst hy hnew
 go_wp2_with fail
 refine UK.uo (λ w'=>∃own B bc fo fc I y,OS W w' own W B bc fo fc I y s (iE pages) [] [] [] none 0) ⟨own,_,_,_,_,_,_,HS.out⟩ ?_;clear HS hd c0 c3 c7 f0 f3 f7 hcv hmk hlt hcap hb;rintro w4 ⟨own,B,bc,fo,fc,I,y,h4⟩;have hs1:s.length<=100000000:=by have:=HN.out;omega
 have hs2:512*(0+1)<=s.length:=by have:=HN.out;omega
 have Et:Hid (qQ s pages=if okB s 0=false then(8,[]) else if (oV s 0).take 8≠Qx\/((oV s 0).drop 8).take 4≠aW (w32 n) then(3,[]) else sH s n (n+1) [] (((oV s 0).drop 12).take 4)):=by
  show _=_;unfold qQ;rw[xW.out,if_neg (by have:=HN.out;have:=WC.out;omega)]
 have hl:=h4.look 0 hs2 hs1;have hll:(oV s 0).length=504:=by unfold oV;rw[zt,zd];omega
 by_cases hok:okB s 0=false
 ·have HE:Hid (qQ s pages=(8,[])):=by show _=_;rw[Et.out,if_pos hok]
  rw[hok,JN hok]at hl;refine hl.mono ?_;rintro e w5 ⟨rfl,h5⟩;clear hl hok Et;go_wp2;go_ret2;exact .inr ⟨by rw[HE.out];decide,by rw[HE.out]<;>rfl,h5.pq⟩
 have hok2:okB s 0=true:=by simpa using hok
 rw[hok2,JM hok2]at hl;rw[if_neg hok]at Et;refine hl.mono ?_;rintro e w5 ⟨rfl,h5⟩;clear hl hok hok2 h4;generalize oV s 0=head at hll Et ⊢;by_cases hm:head.take 8=Qx
 ·have hcp:=λ w=>xwn head [84,65,66,85,76,65,82,49] (by rw[hll];decide) (by omega) hm w;have WE:head.drop (List.length ([84,65,66,85,76,65,82,49]:List UInt8))=head.drop 8:=rfl;rw[WE]at hcp
  have zQ:Hid (qQ s pages=if (head.drop 8).take 4≠aW (w32 n) then(3,[]) else sH s n (n+1) [] (((head.drop 8).take 8).drop 4)):=by
   show _=_;rw[Et.out];have e8:(head.drop 12).take 4=((head.drop 8).take 8).drop 4:=by rw[List.drop_take,List.drop_drop]
   rw[e8];by_cases hw:(head.drop 8).take 4=aW (w32 n)
   ·rw[if_neg (by rintro(a|a);exact a hm;exact a hw),if_neg (by simpa using hw)]
   rw[if_pos (.inr hw),if_pos hw]
  have hrl:(head.drop 8).length=496:=by rw[zd,hll]
  clear Et hm WE
  go_wp2_with fail
  refine(hcp _).mono ?_;clear hcp hll;generalize head.drop 8=rest at hrl zQ ⊢;rintro e w6 ⟨rfl,rfl⟩;have hwn:=λ k:UK.Kept (λ w'=>OS W w' own W B bc fo fc I y s (iE pages) [] [] [] none 0)=>k.h.word (w32 n);rw[show((w32 n).toNat:Int)=n by rw[<-UK.I6 n];omega]at hwn
  haveI:Nonempty (UK.Kept λ w'=>OS W w' own W B bc fo fc I y s (iE pages) [] [] [] none 0):=⟨⟨_,h5⟩⟩
  have HW:=zH hwn;clear hwn;by_cases hwq:rest.take 4=aW (w32 n)
  ·obtain⟨p0,Q5⟩:∃p0,Hid ((rest.take 8).drop 4=p0):=⟨_,rfl⟩;have HE:Hid (qQ s pages=sH s n (n+1) [] p0):=by show _=_;rw[zQ.out,if_neg (by simpa using hwq),Q5.out]
   have hp0:p0.length=4:=by rw[<-Q5.out,zd,zt,hrl];decide
   have hb1:(rest.take 4==aW (w32 n))=true:=beq_iff_eq.2 hwq;clear zQ hwq;generalize aW (w32 n)=wn at HW hb1
   go_wp2_with fail
   refine UK.Q6 (λ w'=>OS W w' own W B bc fo fc I y s (iE pages) [] [] [] none 0) (by kernel_rfl) (by kernel_rfl) (h5.next (aP _ _).drew) ?_
   repeat (go_big_quiet_step (exact UK.WG (HW.out _) (λ _ _ hh=>hh)))
   refine wpQuiet_nil ?_;rintro⟨w8,h8⟩;clear HW hb1 h5;have sI:=zH hp0;clear hp0
   go_wp2_with fail
   go_loopw [11,12] (λ lv pv wr=>xwo W wr own W B bc fo fc I y s pages n lv pv) (λ lv _ _=>n+1-Ke lv)
   case atStart=>exact⟨[],none,0,p0,rfl,by rw[Q5.out],sI,h8,gJ.nil n,HE⟩
   obtain⟨l,lo,lc,p,rfl,rfl,HP4,hl,how,HC⟩:=hrel;have fD:=how.few h1;have hwd:=hl.word (w32 4294967295);rw[show((w32 4294967295).toNat:Int)=4294967295 from rfl]at hwd;obtain⟨en,Q7⟩:∃en,Hid (aW (w32 4294967295)=en):=⟨_,rfl⟩;rw[Q7.out]at hwd;clear h8;by_cases hpe:p=en
   ·have lq:Hid (qQ s pages=(0,l)):=HC.out.trans (Wx s n (n+1) l p (by omega) (hpe.trans Q7.out.symm));have hb1:(p==en)=true:=beq_iff_eq.2 hpe;clear hpe HC
    go_wp2_with fail
    refine hwd.mono ?_;rintro e w9 ⟨rfl,h9⟩;clear hwd hl
    go_wp2_with fail
    go_loopw [16] (λ iv wr=>Laid W wr W B bc I y s pages l lo lc iv) (λ iv _=>(intOf iv+1).toNat)
    case atStart=>exact⟨_,own,fo,fc,[],rfl,by omega,by omega,by show []=_;rw[show((l.length:Int)-1+1).toNat=l.length by omega,List.drop_length];rfl,h9⟩
    clear h9;obtain⟨i,own',WH,WI,fl,rfl,hi1,hi2,HF,h9⟩:=hrel;by_cases hi0:0<=i
    ·obtain⟨k,rfl⟩:∃k:Nat,i=k:=⟨i.toNat,by omega⟩;have hkl:k<l.length:=by omega
     have hfl:fl.length<=60000:=by rw[HF.out,List.length_reverse,zd];omega
     rcases h9.row with⟨_,hl0,_⟩|⟨g,rfl,r,n1,n2⟩
     ·rw[hl0]at hkl;exact absurd hkl (qh _)
     have ck:=r.at' k _ (Qk l k hkl);have h10:=h9.next (aP _ _).drew;obtain⟨g',c',CO,e14,c2,f2,NP⟩:=h10.free (l.getD k 0) hfl
     have HG:Hid (fl++[l.getD k 0]=(l.drop k).reverse):=by
      show _=_;rw[HF.out,show((k:Int)+1).toNat=k+1 by omega,fK,di hkl];rw[nY hkl,List.reverse_cons];rfl
     have d2:=h9.at_.cells.at' 2 _ rfl;have WJ:=(h9.next ((aP _ _).alloc (aZ _) (.cells #[.int .i64 ((l.getD k 0:Nat):Int)] 3))).at_.cells.at' 2 _ rfl;generalize l.getD k 0=q at ck e14 NP HG WJ;have e15:(Builtin.append_ #[73,73] 73 #[.slice WH fl.length WI,.slice wr 1 1]).run Tryz.prog (wr.alloc (.cells #[.int .i64 (q:Int)] 3)).drew= .ok (.slice g' (fl.length+1) c') CO:=e14;clear e14
     go_wp2_with fail
     go_region_law (refine UK.oh e15 rfl rfl rfl (by simp[Act.eval]) (by simp[Act.eval]) ?_)
     all_goals
      clear d2 WJ ck c2 f2 e15 h10 h9 r n1 n2;go_wp2;go_roundw
      case rel=>exact⟨(k:Int)-1,_,_,_,_,rfl,by omega,by omega,by show _=_;rw[show((k:Int)-1+1).toNat=k by omega];exact HG.out,NP⟩
      case measure=>simp[intOf]
    obtain rfl:i= -1:=by omega
    have HF2:Hid (fl=l.reverse):=by show _=_;rw[HF.out];rfl
    clear hi0 hi1 hi2;go_wp2;go_ret2;refine .inl ⟨by rw[lq.out],own',W.heap.size,rfl,⟨B,bc,WH,WI,I,s.length/512,y,?_⟩,λ k hk=>⟨h9.low k hk,h9.bnd k hk⟩,h9.pq⟩;have:=h9.at_;unfold Ka;rw[lq.out];rw[HF2.out]at this;exact this
   have hb1:(p==en)=false:=beq_eq_false_iff_ne.2 hpe;have Q8:Hid (p≠aW (w32 4294967295)):=λ e=>hpe (e.trans Q7.out);clear hpe
   go_wp2_with fail
   refine hwd.mono ?_;rintro e w9 ⟨rfl,h9⟩;clear hwd hl;obtain⟨Q9,o9,_,QA,WK⟩:=UK.Q4 (P:=Tryz.prog) (src:=9) (dst:=88) Tryz.underlying9 Tryz.underlying88 Tryz.underlying5 w9 p;have h10:=h9.next (((aP _ _).drew).alloc (aZ _) o9);have HU:=zH (ya3 WK HP4.out Q9);have FQ:=xwp p;obtain⟨k,HK⟩:∃k,Hid (nz p=k):=⟨_,rfl⟩;rw[HK.out]at HU FQ;clear WK
   go_wp2_with fail
   refine HU.out.mono ?_;rintro e IC ⟨rfl,b11⟩;have h11:=h10.next b11;clear HU QA h9 h10 b11;have c3:=h11.at_.cells.at' 3 _ rfl;have hil:(pW (s.length/512) l).length=n:=(FO _ _).trans xW.out;by_cases hbad:k<1\/n<=k\/k∈l
   ·have lq:Hid (qQ s pages=(3,[])):=HC.out.trans (xqt s n (n+1) l p (by omega) Q8.out (by rw[HK.out];exact hbad));have Eu:∀w',OS W w' own W B bc fo fc I y s (iE pages) l [] l lo lc->WB W w' s pages (.returned (.tuple #[.pointer none,.int .i64 3])):=λ w' h'=>.inr ⟨by rw[lq.out];decide,by rw[lq.out]<;>rfl,h'.pq⟩;have HX:=zH Eu;clear Eu;by_cases ha:k<1
    ·go_wp2;go_ret2
     exact HX.out _ h11
    by_cases hb:n<=k
    ·go_wp2;go_ret2
     exact HX.out _ h11
    have hkl:k∈l:=by
     rcases hbad with h|h|h
     ·exact absurd h ha
     ·exact absurd h hb
     exact h
    have hfl:=h11.at_.flags.at' k _ (I8 _ k (by show k<(pW (s.length/512) l).length;omega));have CP:(pW (s.length/512) l).getD k false=true:=by rw[Qy _ _ _ (by rw[xW.out];omega)];exact decide_eq_true hkl
    simp only[CP]at hfl;clear hbad hkl CP;go_wp2;go_ret2;exact HX.out _ h11
   have ha:1<=k:=by omega
   have hb:k<n:=by omega
   have hkl:k∉l:=λ h=>hbad (.inr (.inr h));have hfl:=h11.at_.flags.at' k _ (I8 _ k (by show k<(pW (s.length/512) l).length;omega));have CP:(pW (s.length/512) l).getD k false=false:=by rw[Qy _ _ _ (by rw[xW.out];omega)];exact decide_eq_false hkl
   simp only[CP]at hfl;have HOW:=zH (how.snoc ha hb hkl);have IE:=zH hkl;have hlk:=h11.look k (by have:=HN.out;omega) hs1;clear hbad hkl CP;by_cases hok:okB s k=false
   ·have lq:Hid (qQ s pages=(8,[])):=HC.out.trans (xn4 s n (n+1) l p (by omega) Q8.out (by rw[HK.out];exact ha) (by rw[HK.out];exact hb) (by rw[HK.out];exact IE.out) (by rw[HK.out];exact hok));rw[hok,JN hok]at hlk;have Ev:=zH hlk;clear hlk hok
    go_wp2_with fail
    refine Ev.out.mono ?_;rintro e tQ ⟨rfl,h12⟩;go_wp2;go_ret2;exact .inr ⟨by rw[lq.out];decide,by rw[lq.out]<;>rfl,h12.pq⟩
   have hok2:okB s k=true:=by simpa using hok
   have lq:Hid (qQ s pages=sH s n (n+1-(l++[k]).length) (l++[k]) (wR s k)):=by
    have:=Ww s n (n+1) l p (by omega) Q8.out (by rw[HK.out];exact ha) (by rw[HK.out];exact hb) (by rw[HK.out];exact IE.out) (by rw[HK.out];exact hok2);rw[HK.out]at this;exact HC.out.trans this
   rw[hok2,JM hok2]at hlk;have hll:(oV s k).length=504:=by unfold oV;rw[zt,zd];have:=HN.out;omega
   have WL:=zH hll;have Ev:=zH hlk;have xX:Hid ((oV s k).take 4=wR s k):=rfl;have QB:4<=(oV s k).length:=by omega
   generalize oV s k=g at Ev xX WL QB;clear hlk hok hok2 hll
   go_wp2_with fail
   refine Ev.out.mono ?_;rintro e tQ ⟨rfl,h12⟩;clear hfl c3;have c3:=h12.at_.cells.at' 3 _ rfl;have hile:=h12.at_.flags.le;have hkc:k<s.length/512:=by rw[xW.out];exact hb
   have fp:=h12.at_.flags.free k hkc;have cp:=h12.at_.flags.at' k _ (I8 _ k (by show k<(pW (s.length/512) l).length;omega));have WM:=h12.flag k hkc;obtain⟨g',c',CO,e14,NP⟩:=WM.push ht k (by omega);rw[show(tQ.setCell (I,k) (.bool true)).heap.size=tQ.heap.size by simp[World.setCell]]at e14;clear h12 WM hile h11 Ev
   go_wp2_with (at_builtin;refine UK.pV e14 rfl rfl rfl rfl rfl ?_)
   go_roundw
   case rel=>exact⟨l++[k],some ⟨g',0,none⟩,c',wR s k,by rw[zl]<;>rfl,by first|rw[xX.out]|rfl,by show(wR s k).length=4;rw[<-xX.out,zt,WL.out];decide,NP,HOW.out,lq⟩
   case measure=>simp[Ke];omega
  have HE:Hid (qQ s pages=(3,[])):=by show _=_;rw[zQ.out,if_pos hwq]
  have hb1:(rest.take 4==aW (w32 n))=false:=beq_eq_false_iff_ne.2 hwq;clear zQ hwq;generalize aW (w32 n)=wn at HW hb1
  go_wp2_with fail
  refine UK.Q6 (λ w'=>OS W w' own W B bc fo fc I y s (iE pages) [] [] [] none 0) (by kernel_rfl) (by kernel_rfl) (h5.next (aP _ _).drew) ?_
  repeat (go_big_quiet_step (exact UK.WG (HW.out _) (λ _ _ hh=>hh)))
  refine wpQuiet_nil ?_;rintro⟨w8,h8⟩;go_wp2;go_ret2;exact .inr ⟨by rw[HE.out];decide,by rw[HE.out]<;>rfl,h8.pq⟩
 have HE:Hid (qQ s pages=(3,[])):=by show _=_;rw[Et.out,if_pos (.inl hm)]
 have hm2:¬List.take (List.length [84,65,66,85,76,65,82,49]) head=[84,65,66,85,76,65,82,49]:=hm;have hcp:=λ w=>xzm head [84,65,66,85,76,65,82,49] (by rw[hll];decide) (by omega) hm2 w;clear hm hm2 Et
 go_wp2_with fail
 refine(hcp _).mono ?_;rintro e w6 ⟨rfl,rfl⟩
 go_wp2_with fail
 refine UK.Q6 (λ w'=>OS W w' own W B bc fo fc I y s (iE pages) [] [] [] none 0) (by kernel_rfl) (by kernel_rfl) (h5.next (aP _ _).drew) ?_
 haveI:Nonempty (UK.Kept λ w'=>OS W w' own W B bc fo fc I y s (iE pages) [] [] [] none 0):=⟨⟨_,h5⟩⟩
 repeat (go_big_quiet_step (fail))
 refine wpQuiet_nil ?_;rintro⟨w8,h8⟩;go_wp2;go_ret2;exact .inr ⟨by rw[HE.out];decide,by rw[HE.out]<;>rfl,h8.pq⟩
end
end Go.Proofs.YtlipgbnnbefhjaaGreatDoor
