/- Facts on texts and trees on pages. -/
import Derived.Test.YtgpmiliahonaoaaGreatDoorKDiskGc
set_option maxRecDepth 100000
set_option maxHeartbeats 8000000
set_option linter.unusedSimpArgs false
namespace Go.Proofs.YtgpmiliahonaoaaGreatDoor
open Go.RowKit
open UK (str aF nth Only w32 Row)
open Go.BigFrame
section
variable{W W':World}{own:Nat->Prop}{D B bc fc I ic au:Nat}{fo:Option Addr}{y:List UInt8}{d:Dk}
def also(own:Nat->Prop)(g:Nat)(k:Nat):Prop:=own k\/k=g
theorem Moves.qF{g:Nat}(ho:Only g W W')(hg:own g\/W.heap.size<=g):Moves own (also own g) W W':=
 ⟨ho.os,ho.tape,ho.output,ho.size,λ k hk hn=>ho.block k hk (λ e=>by subst e;rcases hg with h|h;exact hn h;omega),λ k hk=>by
  rcases hk with h|rfl
  ·exact .inl h
  exact hg⟩
theorem ZA(h:aJ W own D B bc fo fc I ic y d)(p:Nat)(hl:d.free.length<=60000) :
  ∃g' c' W',(Builtin.append_ #[57,57] 57 #[.slice fo d.free.length fc,.slice W 1 1]).run Tryz.prog (W.alloc (.cells #[.int .i64 (p:Int)] 3))= .ok (.slice (some ⟨g',0,none⟩) (d.free.length+1) c') W'/\Row W' g' c' (ints (d.free++[p]))/\Only g' W W'/\(own g'\/W.heap.size<=g')/\g'≠D/\g'≠B/\g'≠I:=by
 have ha:(fo=none/\ints d.free=[]/\fc=0)\/∃g,fo=some ⟨g,0,none⟩/\Row W g fc (ints d.free):=by
  rcases h.eT with⟨a,b,c⟩|⟨F,e,r,_⟩
  ·exact .inl ⟨a,by rw[b];rfl,c⟩
  exact .inr ⟨F,e,r⟩
 obtain⟨g',c',W',e,r,o,hg⟩:=UK.Gf (P:=Tryz.prog) (t:=57) (ty:=57) Tryz.underlying57 (i:=Tryz.t3) rfl rfl rfl (show(8:Nat)<=16 by omega) rfl ha (.int .i64 (p:Int)) rfl (by rw[gQ];omega);rw[gQ]at e;refine⟨g',c',W',e,by unfold ints at *;rw[dO];exact r,o,?_⟩;rcases hg with hg|hg
 ·rcases h.eT with⟨a,_⟩|⟨F,e2,_,n1,n2,n3,n4⟩
  ·rw[a]at hg;cases hg
  rw[e2]at hg;obtain rfl:F=g':=congrArg Addr.block (aZ hg);exact⟨.inl n4,n1,n2,n3⟩
 have:=h.cells.lt;have:=h.bytes.lt;have:=h.flags.lt;exact⟨.inr hg,by omega,by omega,by omega⟩
theorem aJ.Ej(h:aJ W own D B bc fo fc I ic y d){g' c':Nat}{l:List Nat}(hr:Row W' g' c' (ints l))(ho:Only g' W W')(h1:g'≠D)(h2:g'≠B)(h3:g'≠I)(h4:own g'\/W.heap.size<=g') :
  aJ (W'.setCell (D,2) (.slice g' l.length c')) (also own g') D B bc g' c' I ic y {d with free:=l}:=by
 have hc:=(h.cells.only ho h1.symm).set 2 (.slice g' l.length c') (by show 2<8;omega);have o2:=(Only.refl D W').set 2 (.slice g' l.length c');have htl:=h.tab.lt
 have hnt:0 ≠g':=λ e=>by
  rcases h4 with h4|h4
  ·exact h.gK (e▸h4)
  omega
 refine⟨hc,o2.bytes (ho.bytes h.bytes h2.symm) h.DB.symm,h.mH,h.le,h.pre,.inr ⟨g',rfl,hr.only o2 h1,h1,h2,h3,.inr rfl⟩,(h.flags.only ho h3.symm).only o2 h.DI.symm,h.DB,h.DI,h.BI,.inl h.oD,.inl h.oB,.inl h.oI,?_,λ hh=>?_⟩
 ·exact UK.xK (UK.xK h.tab ho hnt) o2 h.I4
 rcases hh with hh|hh
 ·exact h.gK hh
 exact hnt hh
theorem aJ.xQ(h:aJ W own D B bc fo fc I ic y d)(p:Nat)(b:Bool)(hp:p<d.fP.length) :
  aJ (W.setCell (I,p) (.bool b)) own D B bc fo fc I ic y {d with fP:=d.fP.set p b}:=by
 have hr:=h.flags.set p (.bool b) (by rw[Iz];exact hp);have o:=(Only.refl I W).set p (.bool b);have hnt:0 ≠I:=λ e=>h.gK (e▸h.oI);refine⟨?_,o.bytes h.bytes h.BI,h.mH,h.le,h.pre,?_,by unfold AY at hr ⊢;rw[List.map_set];exact hr,h.DB,h.DI,h.BI,h.oD,h.oB,h.oI,UK.xK h.tab o hnt,h.gK⟩
 ·have hc:=h.cells.only o h.DI;unfold Dk.vals at hc ⊢;rw[aQ];exact hc
 rcases h.eT with h0|⟨F,e,r,n1,n2,n3,n4⟩
 ·exact .inl h0
 exact .inr ⟨F,e,r.only o n3,n1,n2,n3,n4⟩
def tu(d:Dk)(p:Nat):Dk:={d with wl:=iC d.wl,puts:=d.puts+1,x:=UK.wr d.x (512*p) (iX p (rJ d d.free.length)),free:=d.free++[p],fP:=d.fP.set p true}
def rQ(d:Dk):Dk:={d with wl:=iC d.wl,puts:=d.puts+1}
theorem ZB(h:aJ W own D B bc fo fc I ic y d)(f:Fit d au)(hq3:d.puts+1<1000000000)(p:Nat)(hp:p<au)(hh:aX d au p=true)(h0:d.wl≠0) :
  Calls Tryz.prog 123 #[.pointer D,.int .i64 p] W λ e w'=>e= .returned (.int .i64 0)/\∃own',iY w' own' D (tu d p)/\Moves own own' W w':=by
 have hc:=xM h f p;rw[hh]at hc;have HE:Hid (iU d.wl=0):=by show _=_;unfold iU;rw[if_neg h0]
 have xO:=zH hq3;have hq1:=f.puts.1;have hq2:=f.puts.2;have oh:=xN d.wl f.wl;have il:=f.few;have hfl:=f.dS;have hil:=f.flags;clear h0 hq3
 go_enter Tryz.func123,Tryz.ntmps123
 go_wp2_with fail
 refine hc.mono ?_;rintro e w' ⟨rfl,q,rfl⟩;have h1:=h.drewN q;have m1:=Moves.of_below (o:=own) (UK.dK (aV W W) q);generalize W.drewN q=w1 at h1 m1 ⊢;have bW:=zX h1.cells 5 d.wl rfl f.wl;rw[HE.out]at bW
 go_wp2_with fail
 refine bW.mono ?_;rintro e w2 ⟨rfl,r1,o1⟩;have h2:=h1.gu (d':={d with wl:=iC d.wl}) r1 o1 rfl rfl rfl;have c7:=h2.cells.at' 7 _ rfl;have f7:=h2.cells.free 7 (by omega);have r3:=h2.cells.set 7 (.int .i64 (d.puts+1)) (by show 7<8;omega);have o3:=(Only.refl D w2).set 7 (.int .i64 (d.puts+1));have h3:=h2.gu (d':=rQ d) r3 o3 rfl rfl rfl;have m3:=(m1.trans (Moves.bG o1 h.oD)).trans (Moves.bG o3 h.oD)
 have d3:Dat W (w2.setCell (D,7) (.int .i64 (d.puts+1))) own D B bc fo fc I ic y (rQ d) au:=
  ⟨h3,⟨f.len,f.flags,f.one,f.few,f.aC,f.free,f.dS,f.rl,oh,f.reads,by show 0<=d.puts+1/\_;exact⟨by omega,xO.out⟩⟩,m3⟩
 have c2:=d3.at_.cells.at' 2 _ rfl
 go_wp2_with fail
 refine(Tm d3 d.free.length (aO _)).mono ?_;rintro e w4 ⟨rfl,d4⟩
 go_wp2_with fail
 refine(I6 d4 p (rJ (rQ d) d.free.length) hp (by rw[gT];decide)).mono ?_;rintro e w5 ⟨rfl,y5,d5⟩;have h5:=d5.at_;have m5:=d5.moves;clear hc bW h1 h2 h3 d3 d4 d5 r1 o1 r3 o3 m1 m3 c7 f7 c2;have c2:=h5.cells.at' 2 _ rfl;obtain⟨g',c',w6,e6,r6,o6,k1,k2,k3,k4⟩:=ZA h5 p (by show d.free.length<=60000;omega);have h7:=h5.Ej r6 o6 k2 k3 k4 k1;have m7:=(m5.trans (Moves.qF o6 k1)).trans (Moves.bG ((Only.refl D w6).set 2 (.slice g' (d.free.length+1) c')) (.inl h.oD));have f2:w6.frozen? ⟨D,2,none⟩=false:=(h5.cells.only o6 k2.symm).free 2 (by omega);have c2':=(h5.cells.only o6 k2.symm).at' 2 _ rfl;rw[zl,iE]at h7;have hpl:p<d.fP.length:=by omega
 have h8:=h7.xQ p true hpl;have m8:=m7.trans (Moves.bG ((Only.refl I _).set p (.bool true)) (show also own g' I from .inl h.oI));have c3:=h7.cells.at' 3 _ rfl;have fp:=h7.flags.free p (by have:=h7.flags.le;rw[Iz]at this;exact bZ hpl this);have cp:=h7.flags.at' p _ (O6 d.fP p hpl);clear h7 m7 h5 m5
 go_wp2_with (at_builtin;refine UK.lH e6 rfl rfl rfl rfl rfl ?_)
 go_ret;exact⟨rfl,also own g',⟨B,bc,_,c',I,ic,y5,h8⟩,m8⟩
end
section
variable{W W':World}{own:Nat->Prop}{D B bc fc I ic au:Nat}{fo:Option Addr}{y:List UInt8}{d:Dk}
theorem ZC(h:aJ W own D B bc fo fc I ic y d)(f:Fit d au)(hr:d.aC-au+d.free.length=0) :
  Calls Tryz.prog 155 #[.pointer D] W λ e w'=>e= .returned (.tuple #[.int .i64 0,.int .i64 6])/\iY w' own D d/\Moves own own W w':=by
 have hc:=fu h f;rw[hr]at hc
 go_enter Tryz.func155,Tryz.ntmps155
 go_wp2_with fail
 refine hc.mono ?_;rintro e w' ⟨rfl,q,rfl⟩;go_wp2;go_ret2;exact⟨rfl,⟨B,bc,fo,fc,I,ic,y,h.drewN q⟩,Moves.of_below (UK.dK (aV _ _) q)⟩
theorem ZE(h:aJ W own D B bc fo fc I ic y d)(f:Fit d au)(hr:0<d.aC-au+d.free.length)(h0:d.wl=0) :
  Calls Tryz.prog 155 #[.pointer D] W λ e w'=>e= .returned (.tuple #[.int .i64 0,.int .i64 7])/\iY w' own D {d with wl:= -1}/\Moves own own W w':=by
 have hc:=fu h f;obtain⟨r,HR⟩:∃r,Hid (d.aC-au+d.free.length=r):=⟨_,rfl⟩;rw[HR.out]at hc hr;have HE:Hid (iU d.wl=7):=by show _=_;unfold iU;rw[if_pos h0]
 have HN:Hid (iC d.wl= -1):=by show _=_;unfold iC;rw[if_pos h0]
 clear h0
 go_enter Tryz.func155,Tryz.ntmps155
 go_wp2_with fail
 refine hc.mono ?_;rintro e w' ⟨rfl,q,rfl⟩;have h1:=h.drewN q;have m1:=Moves.of_below (o:=own) (UK.dK (aV W W) q);generalize W.drewN q=w1 at h1 m1 ⊢;have bW:=zX h1.cells 5 d.wl rfl f.wl;rw[HE.out,HN.out]at bW
 go_wp2_with fail
 refine bW.mono ?_;rintro e w2 ⟨rfl,r1,o1⟩;go_wp2;go_ret2;exact⟨rfl,⟨B,bc,fo,fc,I,ic,y,h1.gu (d':={d with wl:= -1}) r1 o1 rfl rfl rfl⟩,m1.trans (Moves.bG o1 h.oD)⟩
theorem aJ.Ba(h:aJ W own D B bc fo fc I ic y d){l:List Nat}{p F:Nat}(hl:d.free=l++[p])(hF:fo=some ⟨F,0,none⟩) :
  aJ (W.setCell (D,2) (.slice fo l.length fc)) own D B bc fo fc I ic y {d with free:=l}:=by
 have hc:=h.cells.set 2 (.slice fo l.length fc) (by show 2<8;omega);have o:=(Only.refl D W).set 2 (.slice fo l.length fc);refine⟨hc,o.bytes h.bytes h.DB.symm,h.mH,h.le,h.pre,?_,h.flags.only o h.DI.symm,h.DB,h.DI,h.BI,h.oD,h.oB,h.oI,UK.xK h.tab o h.I4,h.gK⟩;rcases h.eT with⟨a,_⟩|⟨F',e,r,n1,n2,n3,n4⟩
 ·rw[a]at hF;cases hF
 have:=(r.only o n1).take l.length;rw[hl]at this;refine .inr ⟨F',e,?_,n1,n2,n3,n4⟩;unfold ints at this ⊢;rw[dO,List.take_append,df,kN,jW,jL,fO (by rw[df];exact aO _)]at this;exact this
theorem ZF(l:List Nat)(p:Nat):(l++[p]).getD l.length 0=p:=by
 rw[fE,bP (aO _),kN];rfl
def gL(d:Dk)(l:List Nat)(p:Nat):Dk:={d with wl:=iC d.wl,puts:=d.puts+1,x:=UK.wr d.x (512*p) (iX p []),free:=l,fP:=d.fP.set p false}
theorem ZG(h:aJ W own D B bc fo fc I ic y d)(f:Fit d au)(hq3:d.puts+1<1000000000)(l:List Nat)(p:Nat)(hl:d.free=l++[p])(h0:d.wl≠0) :
  Calls Tryz.prog 155 #[.pointer D] W λ e w'=>e= .returned (.tuple #[.int .i64 p,.int .i64 0])/\iY w' own D (gL d l p)/\Moves own own W w':=by
 have hc:=fu h f;have aD:d.free.length=l.length+1:=by rw[hl,zl];rfl
 obtain⟨r,HR⟩:∃r,Hid (d.aC-au+d.free.length=r):=⟨_,rfl⟩;have hr:0<r:=by have:=HR.out;have:=f.aC.2.2;omega
 rw[HR.out]at hc;have HE:Hid (iU d.wl=0):=by show _=_;unfold iU;rw[if_neg h0]
 have xO:=zH hq3;have hq1:=f.puts.1;have hq2:=f.puts.2;have oh:=xN d.wl f.wl;have il:=f.few;have hfl:=f.dS;have hil:=f.flags;have lq:=f.free p (by rw[hl];exact lI _ (bz.2 rfl));have HL:=zH hl;have HLen:=zH aD
 obtain⟨F,HF⟩:∃F,Hid (fo=some ⟨F,0,none⟩):=by
  rcases h.eT with⟨_,b,_⟩|⟨F,e,_⟩
  ·rw[hl]at b;simp at b
  exact⟨F,e⟩
 have hll:l.length<60000:=by omega
 clear h0 hq3 hl aD
 go_enter Tryz.func155,Tryz.ntmps155
 go_wp2_with fail
 refine hc.mono ?_;rintro e w' ⟨rfl,q,rfl⟩;have h1:=h.drewN q;have m1:=Moves.of_below (o:=own) (UK.dK (aV W W) q);generalize W.drewN q=w1 at h1 m1 ⊢;have bW:=zX h1.cells 5 d.wl rfl f.wl;rw[HE.out]at bW
 go_wp2_with fail
 refine bW.mono ?_;rintro e w2 ⟨rfl,r1,o1⟩;have h2:=h1.gu (d':={d with wl:=iC d.wl}) r1 o1 rfl rfl rfl;have c7:=h2.cells.at' 7 _ rfl;have f7:=h2.cells.free 7 (by omega);have r3:=h2.cells.set 7 (.int .i64 (d.puts+1)) (by show 7<8;omega);have o3:=(Only.refl D w2).set 7 (.int .i64 (d.puts+1));have h3:=h2.gu (d':=rQ d) r3 o3 rfl rfl rfl;have m3:=(m1.trans (Moves.bG o1 h.oD)).trans (Moves.bG o3 h.oD);have f3:Fit (rQ d) au:=⟨f.len,f.flags,f.one,f.few,f.aC,f.free,f.dS,f.rl,oh,f.reads,by show 0<=d.puts+1/\_;exact⟨by omega,xO.out⟩⟩
 go_wp2_with fail
 generalize w2.setCell (D,7) (.int .i64 (d.puts+1))=w3 at h3 m3 ⊢;clear h2 c7 f7 r3 o3 r1 o1 bW hc m1 h1;refine(Gb h3 f3).mono ?_;rintro e w' ⟨rfl,rfl⟩;have c2:=h3.cells.at' 2 _ rfl;have f2:=h3.cells.free 2 (by omega);rw[show(rQ d).free.length=l.length+1 from HLen.out,HF.out]at c2
 have hrow:Row w' F fc (ints d.free):=by
  rcases h3.eT with⟨a,_⟩|⟨F',e,r,_⟩
  ·rw[HF.out]at a;cases a
  rw[HF.out]at e;obtain rfl:F=F':=congrArg Addr.block (aZ e);exact r
 have cl:=hrow.at' l.length _ (Tj d.free l.length (by have:=HLen.out;omega));rw[HL.out,ZF]at cl;have hfc:l.length<fc:=by have:=hrow.le;rw[gQ,HLen.out]at this;omega
 have h4:=h3.Ba (l:=l) (p:=p) HL.out HF.out;have m4:=m3.trans (Moves.bG ((Only.refl D w').set 2 (.slice fo l.length fc)) h.oD);rw[HF.out]at h4 m4;have hpl:p<d.fP.length:=by omega
 have c3:=h4.cells.at' 3 _ rfl;have fp:=h4.flags.free p (by have:=h4.flags.le;rw[Iz]at this;exact bZ hpl this);have cp:=h4.flags.at' p _ (O6 d.fP p hpl);have h5:=h4.xQ p false hpl;have m5:=m4.trans (Moves.bG ((Only.refl I _).set p (.bool false)) h.oI);have f5:Fit {rQ d with free:=l,fP:=d.fP.set p false} au:=⟨f.len,by rw[aQ];exact f.flags,f.one,f.few,f.aC,λ k hk=>f.free k (by rw[HL.out];exact eF _ hk),by show l.length<=au;have:=HLen.out;omega,f.rl,oh,f.reads,by show 0<=d.puts+1/\_;exact⟨by omega,xO.out⟩⟩;have d5:Dat W _ own D B bc F fc I ic y {rQ d with free:=l,fP:=d.fP.set p false} au:=⟨h5,f5,m5⟩;have hrow':=zH hrow;clear h4 m4 h5 m5 hrow;have hp1:=lq.1;have hp2:=lq.2;clear lq
 go_wp2_with fail
 refine(I6 d5 p [] (by omega) (by decide)).mono ?_;rintro e w6 ⟨rfl,y6,d6⟩;go_wp2;go_ret2;exact⟨rfl,⟨B,bc,_,fc,I,ic,y6,d6.at_⟩,d6.moves⟩
end
section
variable{W W':World}{own:Nat->Prop}{D B bc fc I ic au:Nat}{fo:Option Addr}{y:List UInt8}{d:Dk}
theorem aJ.CR(h:aJ W own D B bc fo fc I ic y d){g:Nat}(h4:own g\/W.heap.size<=g):0 ≠g:=λ e=>by
 have:=h.tab.lt;rcases h4 with h4|h4
 ·exact h.gK (e▸h4)
 omega
theorem aJ.Bb(h:aJ W own D B bc fo fc I ic y d){B' bc':Nat}{y' x':List UInt8}(hb:aF W' B' y')(hyl:y'.length=bc')(hle:x'.length<=bc')(hp:y'.take x'.length=x')(ho:Only B' W W')(hB:B'=B\/W.heap.size<=B') :
  aJ (W'.setCell D (.slice B' x'.length bc')) (also own B') D B' bc' fo fc I ic y' {d with x:=x'}:=by
 have l1:=h.cells.lt;have l2:=h.bytes.lt;have l3:=h.flags.lt
 have h1:B'≠D:=by
  rcases hB with rfl|hB
  ·exact h.DB.symm
  omega
 have h3:B'≠I:=by
  rcases hB with rfl|hB
  ·exact h.BI
  omega
 have h4:own B'\/W.heap.size<=B':=by
  rcases hB with rfl|hB
  ·exact .inl h.oB
  exact .inr hB
 have hc:=(h.cells.only ho h1.symm).set 0 (.slice B' x'.length bc') (by show 0<8;omega);have o2:=(Only.refl D W').set 0 (.slice B' x'.length bc');have hnt:=h.CR h4;refine⟨hc,o2.bytes hb h1,hyl,hle,hp,?_,(h.flags.only ho h3.symm).only o2 h.DI.symm,h1.symm,h.DI,h3,.inl h.oD,.inr rfl,.inl h.oI,UK.xK (UK.xK h.tab ho hnt) o2 h.I4,λ hh=>?_⟩
 ·rcases h.eT with h0|⟨F,e,r,n1,n2,n3,n4⟩
  ·exact .inl h0
  have hF:F≠B':=by
   have:=r.lt;rcases hB with rfl|hB
   ·exact n2
   omega
  exact .inr ⟨F,e,(r.only ho hF).only o2 n1,n1,hF,n3,.inl n4⟩
 rcases hh with hh|hh
 ·exact h.gK hh
 exact hnt hh
theorem aJ.Bc(h:aJ W own D B bc fo fc I ic y d){I' Bd:Nat}{l:List Bool}(hr:Row W' I' Bd (AY l))(ho:Only I' W W')(hI:I'=I\/W.heap.size<=I') :
  aJ (W'.setCell (D,3) (.slice I' l.length Bd)) (also own I') D B bc fo fc I' Bd y {d with fP:=l}:=by
 have l1:=h.cells.lt;have l2:=h.bytes.lt;have l3:=h.flags.lt
 have h1:I'≠D:=by
  rcases hI with rfl|hI
  ·exact h.DI.symm
  omega
 have h3:I'≠B:=by
  rcases hI with rfl|hI
  ·exact h.BI.symm
  omega
 have h4:own I'\/W.heap.size<=I':=by
  rcases hI with rfl|hI
  ·exact .inl h.oI
  exact .inr hI
 have hc:=(h.cells.only ho h1.symm).set 3 (.slice I' l.length Bd) (by show 3<8;omega);have o2:=(Only.refl D W').set 3 (.slice I' l.length Bd);have hnt:=h.CR h4;refine⟨hc,o2.bytes (ho.bytes h.bytes h3.symm) h.DB.symm,h.mH,h.le,h.pre,?_,hr.only o2 h1,h.DB,h1.symm,h3.symm,.inl h.oD,.inl h.oB,.inr rfl,UK.xK (UK.xK h.tab ho hnt) o2 h.I4,λ hh=>?_⟩
 ·rcases h.eT with h0|⟨F,e,r,n1,n2,n3,n4⟩
  ·exact .inl h0
  have hF:F≠I':=by
   have:=r.lt;rcases hI with rfl|hI
   ·exact n3
   omega
  exact .inr ⟨F,e,(r.only ho hF).only o2 n1,n1,n2,hF,.inl n4⟩
 rcases hh with hh|hh
 ·exact h.gK hh
 exact hnt hh
theorem ZH(h:aJ W own D B bc fo fc I ic y d)(hl:d.x.length<=40000000) :
  ∃B' bc' y' W',(Builtin.append_ #[94,3] 94 #[.slice B d.x.length bc,.int .i64 512]).run Tryz.prog W= .ok (.slice (some ⟨B',0,none⟩) (d.x.length+512) bc') W'/\aF W' B' y'/\y'.length=bc'/\d.x.length+512<=bc'/\y'.take (d.x.length+512)=d.x++UK.bF 512/\Only B' W W'/\(B'=B\/W.heap.size<=B'):=by
 obtain⟨B',bc',y',W',e,b,c,g,k,o⟩:=UK.ZI (P:=Tryz.prog) (t:=94) (tn:=3) (ty:=94) (k:=.i64) (kn:=.i64) Tryz.underlying94 Tryz.underlying3 (i:=Tryz.t5) rfl rfl rfl rfl h.bytes h.mH h.le h.pre 512 (by omega) (by omega);refine⟨B',bc',y',W',e,b,c,g,k,?_⟩;rcases o with⟨a,o⟩|⟨a,o⟩
 ·exact⟨a▸o,.inl a⟩
 exact⟨Only.of_below o,.inr (by omega)⟩
theorem ZJ(h:aJ W own D B bc fo fc I ic y d)(b:Bool)(hl:d.fP.length<=60000) :
  ∃g' c' W',(Builtin.append_ #[140,140] 140 #[.slice I d.fP.length ic,.slice W 1 1]).run Tryz.prog (W.alloc (.cells #[.bool b] 4))= .ok (.slice (some ⟨g',0,none⟩) (d.fP.length+1) c') W'/\Row W' g' c' (AY (d.fP++[b]))/\Only g' W W'/\(g'=I\/W.heap.size<=g'):=by
 obtain⟨g',c',W',e,r,o,hg⟩:=UK.Gf (P:=Tryz.prog) (t:=140) (ty:=140) Tryz.underlying140 (i:=Tryz.t4) rfl rfl rfl (show(1:Nat)<=16 by omega) rfl (.inr ⟨I,rfl,h.flags⟩) (.bool b) rfl (by rw[Iz];omega);rw[Iz]at e;refine⟨g',c',W',e,by unfold AY at *;rw[dO];exact r,o,?_⟩;rcases hg with hg|hg
 ·exact .inl (congrArg Addr.block (aZ hg)).symm
 exact .inr hg
def takeN(d:Dk)(au:Nat):Dk:={d with wl:=iC d.wl,puts:=d.puts+1,x:=UK.wr (d.x++UK.bF 512) (512*au) (iX au []),fP:=d.fP++[false]}
theorem ZK(h:aJ W own D B bc fo fc I ic y d)(f:Fit d au)(hq3:d.puts+1<1000000000)(hl:d.free=[])(hm:(au:Int)<d.aC)(h0:d.wl≠0) :
  Calls Tryz.prog 155 #[.pointer D] W λ e w'=>e= .returned (.tuple #[.int .i64 au,.int .i64 0])/\∃own',iY w' own' D (takeN d au)/\Moves own own' W w':=by
 have hc:=fu h f;have aD:d.free.length=0:=by rw[hl];rfl
 obtain⟨r,HR⟩:∃r,Hid (d.aC-au+d.free.length=r):=⟨_,rfl⟩;have hr:0<r:=by have:=HR.out;omega
 rw[HR.out]at hc;have HE:Hid (iU d.wl=0):=by show _=_;unfold iU;rw[if_neg h0]
 have xO:=zH hq3;have hq1:=f.puts.1;have hq2:=f.puts.2;have oh:=xN d.wl f.wl;have il:=f.few;have hm2:=f.aC.2.1;have Tq:au<60000:=by omega
 have LM:=zH f.flags;have Gg:=zH f.len;have HL:=zH hl;have HLen:=zH aD;have HM:=zH hm;clear h0 hq3 hl aD hm hm2
 go_enter Tryz.func155,Tryz.ntmps155
 go_wp2_with fail
 refine hc.mono ?_;rintro e w' ⟨rfl,q,rfl⟩;have h1:=h.drewN q;have m1:=Moves.of_below (o:=own) (UK.dK (aV W W) q);generalize W.drewN q=w1 at h1 m1 ⊢;have bW:=zX h1.cells 5 d.wl rfl f.wl;rw[HE.out]at bW
 go_wp2_with fail
 refine bW.mono ?_;rintro e w2 ⟨rfl,r1,o1⟩;have h2:=h1.gu (d':={d with wl:=iC d.wl}) r1 o1 rfl rfl rfl;have c7:=h2.cells.at' 7 _ rfl;have f7:=h2.cells.free 7 (by omega);have r3:=h2.cells.set 7 (.int .i64 (d.puts+1)) (by show 7<8;omega);have o3:=(Only.refl D w2).set 7 (.int .i64 (d.puts+1));have h3:=h2.gu (d':=rQ d) r3 o3 rfl rfl rfl;have m3:=(m1.trans (Moves.bG o1 h.oD)).trans (Moves.bG o3 h.oD);have f3:Fit (rQ d) au:=⟨f.len,f.flags,f.one,f.few,f.aC,f.free,f.dS,f.rl,oh,f.reads,by show 0<=d.puts+1/\_;exact⟨by omega,xO.out⟩⟩
 go_wp2_with fail
 generalize w2.setCell (D,7) (.int .i64 (d.puts+1))=w3 at h3 m3 ⊢;clear h2 c7 f7 r3 o3 r1 o1 bW hc m1 h1;refine(Gb h3 f3).mono ?_;rintro e w' ⟨rfl,rfl⟩;have c2:=h3.cells.at' 2 _ rfl;rw[show(rQ d).free.length=0 from HLen.out]at c2;have c0:=h3.cells.at' 0 _ rfl;rw[show(rQ d).x.length=512*au from Gg.out]at c0;obtain⟨B',bc',y',w4,e4,b4,l4,k4,p4,o4,n4⟩:=ZH h3 (by show d.x.length<=_;rw[Gg.out];omega);have hx2:(d.x++UK.bF 512).length=512*au+512:=by rw[zl,UK.jm,Gg.out]
 have e4':=e4;rw[show(rQ d).x.length=512*au from Gg.out]at e4' k4 p4;have h5:=h3.Bb (x':=d.x++UK.bF 512) b4 l4 (by omega) (by rw[hx2];exact p4) o4 n4;rw[hx2]at h5;have hB1:B'≠D:=h5.DB.symm
 have hB2:own B'\/w'.heap.size<=B':=by
  rcases n4 with rfl|n4
  ·exact .inl h.oB
  exact .inr n4
 have f0:=(h3.cells.only o4 hB1.symm).free 0 (by omega);have c0':=(h3.cells.only o4 hB1.symm).at' 0 _ rfl;have m5:=(m3.trans (Moves.qF o4 hB2)).trans (Moves.bG ((Only.refl D w4).set 0 (.slice B' (512*au+512) bc')) (show also own B' D from .inl h.oD));have c3:=h5.cells.at' 3 _ rfl;rw[show(rQ d).fP.length=au from LM.out]at c3;obtain⟨I',Bd,w6,e6,r6,o6,n6⟩:=ZJ h5 false (by show d.fP.length<=_;rw[LM.out];omega);have hi2:(d.fP++[false]).length=au+1:=by rw[zl,LM.out];rfl
 have h7:=h5.Bc (l:=d.fP++[false]) r6 o6 n6;rw[hi2]at h7;have hI1:I'≠D:=h7.DI.symm
 have hI2:also own B' I'\/(w4.setCell D (.slice B' (512*au+512) bc')).heap.size<=I':=by
  rcases n6 with rfl|n6
  ·exact .inl (.inl h.oI)
  exact .inr n6
 have f3':=(h5.cells.only o6 hI1.symm).free 3 (by omega);have c3':=(h5.cells.only o6 hI1.symm).at' 3 _ rfl;have m7:=(m5.trans (Moves.qF o6 hI2)).trans (Moves.bG ((Only.refl D w6).set 3 (.slice I' (au+1) Bd)) (show also (also own B') I' D from .inl (.inl h.oD)));rw[show({rQ d with x:=d.x++UK.bF 512}:Dk).fP.length=au from LM.out]at e6;rw[show(w4.setCell D (.slice B' (512*au+512) bc')).heap.size=w4.heap.size by simp]at e6
 have f7:Fit {rQ d with x:=d.x++UK.bF 512,fP:=d.fP++[false]} (au+1):=⟨by rw[hx2];omega,hi2,by omega,by omega,⟨f.aC.1,f.aC.2.1,by show((au+1:Nat):Int)<=d.aC;have:=HM.out;omega⟩,(λ k hk=>by
   have hk':k∈d.free:=hk;rw[HL.out]at hk'
   cases hk'),by show d.free.length<=_;rw[HL.out];exact aY _,f.rl,oh,f.reads,by show 0<=d.puts+1/\_;exact⟨by omega,xO.out⟩⟩
 have d7:Dat _ _ (also (also own B') I') D B' bc' fo fc I' Bd y' {rQ d with x:=d.x++UK.bF 512,fP:=d.fP++[false]} (au+1):=⟨h7,f7,Moves.of_below (aV _ _)⟩;clear h5 m5 h7 e4 hx2 hi2
 go_wp2_with (first|(at_builtin;refine UK.lH e4' rfl rfl rfl rfl rfl ?_)|(at_builtin;refine UK.lH e6 rfl rfl rfl rfl rfl ?_))
 refine(I6 d7 au [] (by omega) (by decide)).mono ?_;rintro e w8 ⟨rfl,y8,d8⟩;go_wp2;go_ret2;exact⟨rfl,_,⟨B',bc',_,fc,I',Bd,y8,d8.at_⟩,m7.trans d8.moves⟩
end
section
variable{W W':World}{own:Nat->Prop}{D B bc fc I ic au:Nat}{fo:Option Addr}{y:List UInt8}{d:Dk}
theorem ZL(h:aJ W own D B bc fo fc I ic y d)(f:Fit d au)(p:Int)(hh:aX d au p=true)(s:List UInt8)(hs:s.length≠504) :
  Calls Tryz.prog 254 #[.pointer D,.int .i64 p,.string (str s)] W λ e w'=>e= .returned (.int .i64 1)/\iY w' own D d/\Moves own own W w':=by
 have hc:=xM h f p;rw[hh]at hc;have hs2:(((s.length:Nat):Int)==504)=false:=beq_eq_false_iff_ne.2 (by omega)
 go_enter Tryz.func254,Tryz.ntmps254
 go_wp2_with fail
 refine hc.mono ?_;rintro e w' ⟨rfl,q,rfl⟩;go_wp2;go_ret;exact⟨rfl,⟨B,bc,fo,fc,I,ic,y,h.drewN q⟩,Moves.of_below (UK.dK (aV _ _) q)⟩
def ZM(d:Dk)(k:Nat)(b:UInt8):Dk:={d with x:=d.x.set k (UK.OA (nth d.x k) b)}
end
structure Kept(S:Nat->Prop)(W W':World):Prop where
 os:W'.os=W.os
 tape:W'.tape=W.tape
 output:W'.output=W.output
 size:W.heap.size<=W'.heap.size
 block:∀k,S k->W'.heap[k]?=W.heap[k]?
namespace Kept
variable{S T:Nat->Prop}{A B C:World}
theorem refl(S:Nat->Prop)(A:World):Kept S A A:=⟨rfl,rfl,rfl,aO _,λ _ _=>rfl⟩
theorem trans(h:Kept S A B)(k:Kept S B C):Kept S A C:=⟨k.os.trans h.os,k.tape.trans h.tape,k.output.trans h.output,aP h.size k.size,λ i hi=>(k.block i hi).trans (h.block i hi)⟩
theorem mono(h:Kept S A B)(hS:∀k,T k->S k):Kept T A B:=⟨h.os,h.tape,h.output,h.size,λ i hi=>h.block i (hS i hi)⟩
theorem of_below{n:Nat}(h:Below n A B)(hS:∀k,S k->k<n):Kept S A B:=⟨h.os,h.tape,h.output,h.size,λ i hi=>h.block i (hS i hi)⟩
end Kept
def DD(S:Nat->Prop)(W:World)(D:Nat)(d:Dk)(au:Nat):Prop:=(∃own,(∀k,own k->¬S k)/\iY W own D d)/\Fit d au/\∀k,S k->k<W.heap.size
section
variable{S:Nat->Prop}{W W':World}{D au:Nat}{d:Dk}
theorem DD.fit(h:DD S W D d au):Fit d au:=h.2.1
theorem DD.there(h:DD S W D d au):∀k,S k->k<W.heap.size:=h.2.2
theorem DD.tab(h:DD S W D d au):kD W:=by
 obtain⟨⟨own,ho,B,bc,fo,fc,I,ic,y,h⟩,f⟩:=h;exact h.tab
theorem DD.OB{f:Nat}{args:Array Value}{r:Value}{d':Dk}{cnt':Nat}(h:DD S W D d au)
  (hc:∀own B bc fo fc I ic y,aJ W own D B bc fo fc I ic y d->Calls Tryz.prog f args W λ e w'=>e= .returned r/\∃own',iY w' own' D d'/\Moves own own' W w') (hf:Fit d au->Fit d' cnt') :
  Calls Tryz.prog f args W λ e w'=>e= .returned r/\DD S w' D d' cnt'/\Kept S W w':=by
 obtain⟨⟨own,ho,B,bc,fo,fc,I,ic,y,hd⟩,ft,hS⟩:=h;refine(hc own B bc fo fc I ic y hd).mono ?_;rintro e w' ⟨rfl,own',hd',m⟩
 exact⟨rfl,⟨⟨own',λ k hk hs=>by
  rcases m.owns k hk with h1|h1
  ·exact ho k h1 hs
  have:=hS k hs;omega,hd'⟩,hf ft,λ k hk=>bZ (hS k hk) m.size⟩,⟨m.os,m.tape,m.output,m.size,λ k hk=>m.block k (hS k hk) (λ h=>ho k h hk)⟩⟩
theorem DD.jG{f:Nat}{args:Array Value}{r:Value}{d':Dk}{cnt':Nat}(h:DD S W D d au)
  (hc:∀own B bc fo fc I ic y,aJ W own D B bc fo fc I ic y d->Calls Tryz.prog f args W λ e w'=>e= .returned r/\iY w' own D d'/\Moves own own W w') (hf:Fit d au->Fit d' cnt') :
  Calls Tryz.prog f args W λ e w'=>e= .returned r/\DD S w' D d' cnt'/\Kept S W w':=
 h.OB (λ own B bc fo fc I ic y hd=>(hc own B bc fo fc I ic y hd).mono λ _ _ ⟨a,b,c⟩=>⟨a,own,b,c⟩) hf
theorem DD.below(h:DD S W D d au)(hb:Below W W W'):DD S W' D d au:=by
 obtain⟨⟨own,ho,B,bc,fo,fc,I,ic,y,hd⟩,ft,hS⟩:=h;exact⟨⟨own,ho,B,bc,fo,fc,I,ic,y,hd.below hb⟩,ft,λ k hk=>bZ (hS k hk) hb.size⟩
theorem aJ.tight{own:Nat->Prop}{B bc fc I ic:Nat}{fo:Option Addr}{y:List UInt8}(h:aJ W own D B bc fo fc I ic y d):aJ W (λ k=>own k/\k<W.heap.size) D B bc fo fc I ic y d:=by
 refine⟨h.cells,h.bytes,h.mH,h.le,h.pre,?_,h.flags,h.DB,h.DI,h.BI,⟨h.oD,h.cells.lt⟩,⟨h.oB,h.bytes.lt⟩,⟨h.oI,h.flags.lt⟩,h.tab,λ hh=>h.gK hh.1⟩;rcases h.eT with h0|⟨F,e1,r,n1,n2,n3,n4⟩
 ·exact .inl h0
 exact .inr ⟨F,e1,r,n1,n2,n3,n4,r.lt⟩
theorem I7(x:List UInt8)(p:Nat)(s:List UInt8)(hs:s.length<=504)(h:512*(p+1)<=x.length):(UK.wr x (512*p) (iX p s)).length=x.length:=
 UK.iW _ _ _ (by rw[zY p s hs];omega)
theorem I8(f:Fit d au)(h3:d.puts+1<1000000000):0<=d.puts+1/\d.puts+1<1000000000:=by have:=f.puts;omega
theorem ZN(f:Fit d au)(h3:d.reads+1<1000000000):0<=d.reads+1/\d.reads+1<1000000000:=by have:=f.reads;omega
theorem OC(f:Fit d au)(h3:d.puts+1<1000000000)(p:Nat)(hp:p<au)(s:List UInt8)(hs:s.length<=504):Fit (CQ d p s) au:=
 ⟨(I7 d.x p s hs (by rw[f.len];omega)).trans f.len,f.flags,f.one,f.few,f.aC,f.free,f.dS,f.rl,xN _ f.wl,f.reads,I8 f h3⟩
theorem Tt(f:Fit d au)(h3:d.puts+1<1000000000):Fit (AZ d au) au:=by
 unfold AZ
 split
 ·exact⟨f.len,f.flags,f.one,f.few,f.aC,f.free,f.dS,f.rl,(by show(-1:Int)<= -1/\(-1:Int)<=_;omega),f.reads,f.puts⟩
 have:=I7 d.x 0 (Gc d au) (by rw[Tn];decide) (by rw[f.len];have:=f.one;omega);exact⟨this.trans f.len,f.flags,f.one,f.few,f.aC,f.free,f.dS,f.rl,xN _ f.wl,f.reads,I8 f h3⟩
theorem Tu(f:Fit d au)(k:Int)(hk: -1<=k/\k<=9223372036854775807):Fit {d with rl:=k} au:=⟨f.len,f.flags,f.one,f.few,f.aC,f.free,f.dS,hk,f.wl,f.reads,f.puts⟩
theorem Gh(f:Fit d au)(k:Int)(hk: -1<=k/\k<=9223372036854775807):Fit {d with wl:=k} au:=⟨f.len,f.flags,f.one,f.few,f.aC,f.free,f.dS,f.rl,hk,f.reads,f.puts⟩
theorem OD(f:Fit d au)(h3:d.reads+1<1000000000):Fit {d with rl:=iC d.rl,reads:=d.reads+1} au:=⟨f.len,f.flags,f.one,f.few,f.aC,f.free,f.dS,xN _ f.rl,f.wl,ZN f h3,f.puts⟩
theorem OE(f:Fit d au)(h3:d.puts+1<1000000000)(p:Nat)(h1:1<=p)(hp:p<au)(hl:d.free.length<au):Fit (tu d p) au:=
 ⟨(I7 d.x p (rJ d d.free.length) (by rw[gT];decide) (by rw[f.len];omega)).trans f.len,by show(d.fP.set p true).length=au;rw[aQ];exact f.flags,f.one,f.few,f.aC,λ k hk=>by
   rcases dD.1 hk with hk|hk
   ·exact f.free k hk
   rw[bz.1 hk];exact⟨h1,hp⟩,by show(d.free++[p]).length<=au;rw[zl];exact hl,f.rl,xN _ f.wl,f.reads,I8 f h3⟩
theorem OG(f:Fit d au)(h3:d.puts+1<1000000000)(l:List Nat)(p:Nat)(hl:d.free=l++[p]):Fit (gL d l p) au:=by
 have hp:=f.free p (by rw[hl];exact lI _ (bz.2 rfl));have hll:l.length+1<=au:=by have:=f.dS;rw[hl,zl]at this;exact this
 exact⟨(I7 d.x p [] (by decide) (by rw[f.len];omega)).trans f.len,by show(d.fP.set p false).length=au;rw[aQ];exact f.flags,f.one,f.few,f.aC,λ k hk=>f.free k (by rw[hl];exact eF _ hk),by show l.length<=au;omega,f.rl,xN _ f.wl,f.reads,I8 f h3⟩
theorem OH(f:Fit d au)(h3:d.puts+1<1000000000)(hl:d.free=[])(hm:(au:Int)<d.aC):Fit (takeN d au) (au+1):=by
 have hx:(d.x++UK.bF 512).length=512*(au+1):=by rw[zl,UK.jm,f.len];omega
 refine⟨(I7 _ au [] (by decide) (by rw[hx];omega)).trans hx,by show(d.fP++[false]).length=_;rw[zl,f.flags];rfl,by omega,?_,⟨f.aC.1,f.aC.2.1,by show((au+1:Nat):Int)<=d.aC;omega⟩,λ k hk=>?_,?_,f.rl,xN _ f.wl,f.reads,I8 f h3⟩
 ·have:=f.aC.2.1;omega
 ·have hk':k∈d.free:=hk;rw[hl]at hk';cases hk'
 show d.free.length<=_;rw[hl];exact aY _
/- the calls -/
theorem ZO(W:World)(pages:Int)(ht:kD W)(S:Nat->Prop)(hS:∀k,S k->k<W.heap.size) :
  Calls Tryz.prog 34 #[.int .i64 pages] W λ e w'=>e= .returned (.pointer W)/\DD S w' W (mI pages) 1/\Below W W w':=
 (Zx W pages ht).mono λ _ _ ⟨a,b,c⟩=>⟨a,⟨⟨_,λ k hk hs=>by have:=hS k hs;omega,b⟩,Tt (O8 pages) (by show(0:Int)+1<_;omega),λ k hk=>bZ (hS k hk) c.size⟩,c⟩
theorem ZP(h:DD S W D d au)(hr:d.aC-au+d.free.length=0) :
  Calls Tryz.prog 155 #[.pointer D] W λ e w'=>e= .returned (.tuple #[.int .i64 0,.int .i64 6])/\DD S w' D d au/\Kept S W w':=
 h.jG (λ _ _ _ _ _ _ _ _ hd=>ZC hd h.fit hr) id
theorem ZQ(h:DD S W D d au)(hr:0<d.aC-au+d.free.length)(h0:d.wl=0) :
  Calls Tryz.prog 155 #[.pointer D] W λ e w'=>e= .returned (.tuple #[.int .i64 0,.int .i64 7])/\DD S w' D {d with wl:= -1} au/\Kept S W w':=
 h.jG (λ _ _ _ _ _ _ _ _ hd=>ZE hd h.fit hr h0) (λ f=>Gh f (-1) (by omega))
theorem ZR(h:DD S W D d au)(h3:d.puts+1<1000000000)(l:List Nat)(p:Nat)(hl:d.free=l++[p])(h0:d.wl≠0) :
  Calls Tryz.prog 155 #[.pointer D] W λ e w'=>e= .returned (.tuple #[.int .i64 p,.int .i64 0])/\DD S w' D (gL d l p) au/\Kept S W w':=
 h.jG (λ _ _ _ _ _ _ _ _ hd=>ZG hd h.fit h3 l p hl h0) (λ f=>OG f h3 l p hl)
theorem ZT(h:DD S W D d au)(h3:d.puts+1<1000000000)(hl:d.free=[])(hm:(au:Int)<d.aC)(h0:d.wl≠0) :
  Calls Tryz.prog 155 #[.pointer D] W λ e w'=>e= .returned (.tuple #[.int .i64 au,.int .i64 0])/\DD S w' D (takeN d au) (au+1)/\Kept S W w':=
 h.OB (λ _ _ _ _ _ _ _ _ hd=>ZK hd h.fit h3 hl hm h0) (λ f=>OH f h3 hl hm)
theorem ZU(h:DD S W D d au)(p:Int)(hh:aX d au p=false) :
  Calls Tryz.prog 123 #[.pointer D,.int .i64 p] W λ e w'=>e= .returned (.int .i64 4)/\DD S w' D d au/\Kept S W w':=
 h.jG (λ _ _ _ _ _ _ _ _ hd=>Z8 hd h.fit p hh) id
theorem ZV(h:DD S W D d au)(p:Int)(hh:aX d au p=true)(h0:d.wl=0) :
  Calls Tryz.prog 123 #[.pointer D,.int .i64 p] W λ e w'=>e= .returned (.int .i64 7)/\DD S w' D {d with wl:= -1} au/\Kept S W w':=
 h.jG (λ _ _ _ _ _ _ _ _ hd=>Z9 hd h.fit p hh h0) (λ f=>Gh f (-1) (by omega))
theorem zZ{p:Nat}(hh:aX d au p=true):1<=p/\p<au/\d.fP.getD p false=false:=by
 unfold aX at hh;rw[Bool.and_eq_true,decide_eq_true_eq,Bool.not_eq_true',Int.toNat_natCast]at hh;exact⟨by omega,by omega,hh.2⟩
theorem ZW(h:DD S W D d au)(h3:d.puts+1<1000000000)(p:Nat)(hh:aX d au p=true)(hl:d.free.length<au)(h0:d.wl≠0) :
  Calls Tryz.prog 123 #[.pointer D,.int .i64 p] W λ e w'=>e= .returned (.int .i64 0)/\DD S w' D (tu d p) au/\Kept S W w':=
 h.OB (λ _ _ _ _ _ _ _ _ hd=>ZB hd h.fit h3 p (zZ hh).2.1 hh h0) (λ f=>OE f h3 p (zZ hh).1 (zZ hh).2.1 hl)
theorem ZX(h:DD S W D d au)(p:Int)(hh:aX d au p=false) :
  Calls Tryz.prog 129 #[.pointer D,.int .i64 p] W λ e w'=>e= .returned (.tuple #[.string (str []),.int .i64 4])/\DD S w' D d au/\Kept S W w':=
 h.jG (λ _ _ _ _ _ _ _ _ hd=>Zz hd h.fit p hh) id
theorem ZY(h:DD S W D d au)(p:Int)(hh:aX d au p=true)(h0:d.rl=0) :
  Calls Tryz.prog 129 #[.pointer D,.int .i64 p] W λ e w'=>e= .returned (.tuple #[.string (str []),.int .i64 7])/\DD S w' D {d with rl:= -1} au/\Kept S W w':=
 h.jG (λ _ _ _ _ _ _ _ _ hd=>Z0 hd h.fit p hh h0) (λ f=>Tu f (-1) (by omega))
def CS(d:Dk):Dk:={d with rl:=iC d.rl,reads:=d.reads+1}
theorem ZZ(h:DD S W D d au)(h3:d.reads+1<1000000000)(p:Nat)(hh:aX d au p=true)(h0:d.rl≠0) :
  Calls Tryz.prog 129 #[.pointer D,.int .i64 p] W λ e w'=>e= .returned (.tuple #[.string (str (jX d.x p)),.int .i64 (xP d.x p)])/\DD S w' D (CS d) au/\Kept S W w':=
 h.jG (λ _ _ _ _ _ _ _ _ hd=>Z4 hd h.fit p (zZ hh).2.1 hh h0) (λ f=>OD f h3)
theorem δ(h:DD S W D d au)(p:Int)(hh:aX d au p=false)(s:List UInt8) :
  Calls Tryz.prog 254 #[.pointer D,.int .i64 p,.string (str s)] W λ e w'=>e= .returned (.int .i64 4)/\DD S w' D d au/\Kept S W w':=
 h.jG (λ _ _ _ _ _ _ _ _ hd=>Z6 hd h.fit p hh s) id
theorem ζ(h:DD S W D d au)(p:Int)(hh:aX d au p=true)(s:List UInt8)(hs:s.length≠504) :
  Calls Tryz.prog 254 #[.pointer D,.int .i64 p,.string (str s)] W λ e w'=>e= .returned (.int .i64 1)/\DD S w' D d au/\Kept S W w':=
 h.jG (λ _ _ _ _ _ _ _ _ hd=>ZL hd h.fit p hh s hs) id
theorem η(h:DD S W D d au)(p:Int)(hh:aX d au p=true)(h0:d.wl=0)(s:List UInt8)(hs:s.length=504) :
  Calls Tryz.prog 254 #[.pointer D,.int .i64 p,.string (str s)] W λ e w'=>e= .returned (.int .i64 7)/\DD S w' D {d with wl:= -1} au/\Kept S W w':=
 h.jG (λ _ _ _ _ _ _ _ _ hd=>Z7 hd h.fit p hh h0 s hs) (λ f=>Gh f (-1) (by omega))
theorem θ(h:DD S W D d au)(h3:d.puts+1<1000000000)(p:Nat)(hh:aX d au p=true)(h0:d.wl≠0)(s:List UInt8)(hs:s.length=504) :
  Calls Tryz.prog 254 #[.pointer D,.int .i64 p,.string (str s)] W λ e w'=>e= .returned (.int .i64 0)/\DD S w' D (CQ d p s) au/\Kept S W w':=
 h.jG (λ _ _ _ _ _ _ _ _ hd=>Z5 hd h.fit h3 p (zZ hh).2.1 hh h0 s hs) (λ f=>OC f h3 p (zZ hh).2.1 s (by omega))
theorem LP(h:DD S W D d au)(p:Int) :
  Calls Tryz.prog 121 #[.pointer D,.int .i64 p] W λ e w'=>e= .returned (.bool (aX d au p))/\∃q,w'=W.drewN q:=by
 have f:=h.fit;obtain⟨⟨own,ho,B,bc,fo,fc,I,ic,y,hd⟩,ft⟩:=h;exact xM hd f p
end
open Go.RowKit
open UK (str aF nth Only Row ay)
structure Fr where
 blk:Nat
 db:Nat
 cap:Nat
 page:Int
 data:List UInt8
 ah:Int
 used:Bool
 bM:Bool
def jB:Nat->List (Option Fr)->Nat->Option Nat×List (Option Fr)×Nat
 | 0,l,h=>(none,l,h)
 | n+1,l,h=>match l.getD h none with
  | none=>(some h,l,(h+1)%l.length)
  | some f=>if 0<f.ah then jB n l ((h+1)%l.length) else if f.used=true then jB n (l.set h (some {f with used:=false})) ((h+1)%l.length) else(some h,l,(h+1)%l.length)
theorem GX(n:Nat){l:List (Option Fr)}{h:Nat}(hh:l[h]?=some none):jB (n+1) l h=(some h,l,(h+1)%l.length):=by
 have e:l.getD h none=none:=by rw[fE,hh];rfl
 simp only[jB,e]
theorem GY(n:Nat){l:List (Option Fr)}{h:Nat}{f:Fr}(hh:l[h]?=some (some f)):jB (n+1) l h=if 0<f.ah then jB n l ((h+1)%l.length) else if f.used=true then jB n (l.set h (some {f with used:=false})) ((h+1)%l.length) else(some h,l,(h+1)%l.length):=by
 have e:l.getD h none=some f:=by rw[fE,hh];rfl
 simp only[jB,e]
def jC(l:List (Option Fr))(f:Int->Option Int):Prop:=∀p i,f p=some i↔∃j:Nat,i=j/\∃fr,l[j]?=some (some fr)/\fr.page=p
def cntF(l:List (Option Fr)):Nat:=(l.filter Option.isSome).length
def sJ:List (Option Fr)->Int
 | []=>0
 | none::l=>sJ l
 | some f::l=>f.ah+sJ l
theorem jC.at_{l:List (Option Fr)}{f:Int->Option Int}(h:jC l f){j:Nat}{fr:Fr}(hj:l[j]?=some (some fr)):f fr.page=some (j:Int):=(h _ _).2 ⟨j,rfl,fr,hj,rfl⟩
theorem jC.inj{l:List (Option Fr)}{f:Int->Option Int}(h:jC l f){i j:Nat}{a b:Fr}(hi:l[i]?=some (some a))(hj:l[j]?=some (some b))(e:a.page=b.page):i=j:=by
 have h1:=h.at_ hi;have h2:=h.at_ hj;rw[e,h2]at h1;have:=aZ h1;omega
theorem jC.no{l:List (Option Fr)}{f:Int->Option Int}(h:jC l f){p:Int}(hp:f p=none){j:Nat}{fr:Fr}(hj:l[j]?=some (some fr)):fr.page≠p:=λ e=>by
 have:=h.at_ hj;rw[e,hp]at this;cases this
theorem fJ(l:List (Option Fr))(i j:Nat)(o:Option Fr)(hi:i<l.length):(l.set i o)[j]?=if i=j then some o else l[j]?:=by
 rw[List.getElem?_set];by_cases e:i=j
 ·rw[if_pos e,if_pos e,if_pos hi]
 rw[if_neg e,if_neg e]
theorem jC.forget{l:List (Option Fr)}{f:Int->Option Int}(h:jC l f){i:Nat}{fr:Fr}(hi:l[i]?=some (some fr)):jC (l.set i none) (λ p=>if p=fr.page then none else f p):=by
 have hl:=(dE.1 hi).1;intro p q;show(if p=fr.page then none else f p)=some q↔_;by_cases e:p=fr.page
 ·rw[if_pos e]
  constructor
  ·intro h0;cases h0
  rintro⟨j,_,g,hj,hg⟩;rw[fJ l i j _ hl]at hj;by_cases e2:i=j
  ·rw[if_pos e2]at hj;cases hj
  rw[if_neg e2]at hj;exact absurd (h.inj hi hj (by rw[hg,e])) e2
 rw[if_neg e,h p q]
 constructor
 ·rintro⟨j,hq,g,hj,hg⟩;refine⟨j,hq,g,?_,hg⟩;rw[fJ l i j _ hl,if_neg (λ e2=>?_)]
  ·exact hj
  subst e2;rw[hi]at hj;have:=aZ (aZ hj);exact e (by rw[<-hg,this])
 rintro⟨j,hq,g,hj,hg⟩;rw[fJ l i j _ hl]at hj;by_cases e2:i=j
 ·rw[if_pos e2]at hj;cases hj
 rw[if_neg e2]at hj;exact⟨j,hq,g,hj,hg⟩
theorem jC.lay{l:List (Option Fr)}{f:Int->Option Int}(h:jC l f){i:Nat}(hi:l[i]?=some none){fr:Fr}(hp:f fr.page=none):jC (l.set i (some fr)) (λ p=>if p=fr.page then some (i:Int) else f p):=by
 have hl:=(dE.1 hi).1;intro p q;show(if p=fr.page then some (i:Int) else f p)=some q↔_;by_cases e:p=fr.page
 ·rw[if_pos e]
  constructor
  ·intro h0;exact⟨i,(aZ h0).symm,fr,by rw[fJ l i i _ hl,if_pos rfl],e.symm⟩
  rintro⟨j,hq,g,hj,hg⟩;rw[fJ l i j _ hl]at hj;by_cases e2:i=j
  ·rw[hq,e2]
  rw[if_neg e2]at hj;exact absurd (hg.trans e) (h.no hp hj)
 rw[if_neg e,h p q]
 constructor
 ·rintro⟨j,hq,g,hj,hg⟩;refine⟨j,hq,g,?_,hg⟩;rw[fJ l i j _ hl,if_neg (λ e2=>?_)]
  ·exact hj
  subst e2;rw[hi]at hj;cases hj
 rintro⟨j,hq,g,hj,hg⟩;rw[fJ l i j _ hl]at hj;by_cases e2:i=j
 ·rw[if_pos e2]at hj;have:=aZ (aZ hj);exact absurd (by rw[<-hg,<-this]) e
 rw[if_neg e2]at hj;exact⟨j,hq,g,hj,hg⟩
theorem jC.turn{l:List (Option Fr)}{f:Int->Option Int}(h:jC l f){i:Nat}{a b:Fr}(hi:l[i]?=some (some a))(hp:b.page=a.page):jC (l.set i (some b)) f:=by
 have hl:=(dE.1 hi).1;intro p q;rw[h p q]
 constructor
 ·rintro⟨j,hq,g,hj,hg⟩;by_cases e2:i=j
  ·subst e2;rw[hi]at hj;have:=aZ (aZ hj);exact⟨i,hq,b,by rw[fJ l i i _ hl,if_pos rfl],by rw[hp,this,hg]⟩
  exact⟨j,hq,g,by rw[fJ l i j _ hl,if_neg e2];exact hj,hg⟩
 rintro⟨j,hq,g,hj,hg⟩;rw[fJ l i j _ hl]at hj;by_cases e2:i=j
 ·rw[if_pos e2]at hj;have:=aZ (aZ hj);subst e2;exact⟨i,hq,a,hi,by rw[<-hp,this,hg]⟩
 rw[if_neg e2]at hj;exact⟨j,hq,g,hj,hg⟩
theorem Ni(o:Option Fr)(l:List (Option Fr)):cntF (o::l)=(if o.isSome then 1 else 0)+cntF l:=by
 unfold cntF
 cases o with
 | none=>simp
 | some f=>simp;omega
theorem JY:∀(l:List (Option Fr)) (i:Nat) (a b:Option Fr),l[i]?=some a->cntF (l.set i b)+(if a.isSome then 1 else 0)=cntF l+(if b.isSome then 1 else 0)
 | [],i,a,b,h=>by cases h
 | o::l,0,a,b,h=>by
  obtain rfl:o=a:=by simpa using h
  rw[z0,Ni,Ni];omega
 | o::l,i+1,a,b,h=>by
  rw[z1,Ni,Ni];have:=JY l i a b (by simpa using h);omega
theorem yac(l:List (Option Fr)):cntF l<=l.length:=List.length_filter_le _ _
def iH(o:Option Fr):Int:=match o with
 | none=>0
 | some f=>f.ah
theorem Ha(o:Option Fr)(l:List (Option Fr)):sJ (o::l)=iH o+sJ l:=by
 cases o<;>simp[sJ,iH]
theorem QA:∀(l:List (Option Fr)) (i:Nat) (a b:Option Fr),l[i]?=some a->sJ (l.set i b)=sJ l-iH a+iH b
 | [],i,a,b,h=>by cases h
 | o::l,0,a,b,h=>by
  obtain rfl:o=a:=by simpa using h
  rw[z0,Ha,Ha];omega
 | o::l,i+1,a,b,h=>by
  rw[z1,Ha,Ha];have:=QA l i a b (by simpa using h);omega
open UK (str aF nth Only Row ay kG sK)
structure kz where
 wb:Nat
 was:Int->Option (List UInt8)
 wn:Nat
 mo:Option Addr
 mc:Nat
 made:List Int
 go:Option Addr
 gc:Nat
 gone:List Int
structure Pl where
 af:List (Option Fr)
 hand:Nat
 ah:Int
 op:Option kz
def xy(o:Option kz):Value:=.bool o.isSome
def uA:Option kz->Value
 | none=>.map none
 | some o=>.map (some o.wb)
def He:Option kz->Value
 | none=>.slice none 0 0
 | some o=>.slice o.mo o.made.length o.mc
def JZ:Option kz->Value
 | none=>.slice none 0 0
 | some o=>.slice o.go o.gone.length o.gc
def Cb(l:List Int):List Value:=l.map λ i=>.int .i64 i
def kC(W:World)(ao:Option Addr)(c:Nat)(l:List Int):Prop:=(ao=none/\l=[]/\c=0)\/∃g,ao=some ⟨g,0,none⟩/\Row W g c (Cb l)
def aK(ao:Option Addr)(k:Nat):Prop:=ao=some ⟨k,0,none⟩
def sN(o:Option kz)(k:Nat):Prop:=match o with
 | none=>False
 | some o=>k=o.wb\/aK o.mo k\/aK o.go k
structure QB(W:World)(o:kz):Prop where
 was:sK Tryz.prog 3 9 W o.wb o.wn o.was o.wn
 made:kC W o.mo o.mc o.made
 gone:kC W o.go o.gc o.gone
 wm:¬aK o.mo o.wb
 wg:¬aK o.go o.wb
 mg:∀k,aK o.mo k->¬aK o.go k
 vk:∀p∈o.made,(Lit.int .i64 p).wf=true
 vo:∀p∈o.gone,(Lit.int .i64 p).wf=true
 few:o.wn<=1000000000/\o.made.length<=1000000000/\o.gone.length<=1000000000
def uB(W:World)(o:Option kz):Prop:=∀x,o=some x->QB W x
def qh(o:Option Fr):Value:=match o with
 | none=>.pointer none
 | some f=>.pointer f.blk
abbrev Nj(P:Nat)(f:Fr):Array Value:= #[.pointer P,.int .i64 f.page,.slice f.db 504 f.cap,.int .i64 f.ah,.bool f.used,.bool f.bM]
abbrev nW(D FB k M:Nat)(hand:Nat)(ah:Int)(o:Option kz):Array Value:= #[.pointer D,.slice FB k k,.map (some M),.int .i64 hand,.int .i64 ah,xy o,uA o,He o,JZ o]
structure ru(W:World)(P:Nat)(f:Fr):Prop where
 box:ay W f.blk (Nj P f)
 bytes:∃y,aF W f.db y/\y.length=f.cap/\y.take 504=f.data
 len:f.data.length=504
 cap:504<=f.cap
 page:(Lit.int .i64 f.page).wf=true
 ne:f.blk≠f.db
def mV(o:Option Fr)(k:Nat):Prop:=match o with
 | none=>False
 | some f=>k=f.blk\/k=f.db
def ji(P FB M:Nat)(l:List (Option Fr))(op:Option kz)(k:Nat):Prop:=k=P\/k=FB\/k=M\/sN op k\/∃(i:Nat) (o:Option Fr),l[i]?=some o/\mV o k
structure fA(W:World)(P D FB M:Nat)(q:Pl):Prop where
 box:ay W P (nW D FB q.af.length M q.hand q.ah q.op)
 sO:Row W FB q.af.length (q.af.map qh)
 map:∃f,jC q.af f/\kG Tryz.prog 3 3 W M (cntF q.af) f (cntF q.af)
 each:∀(i:Nat) (f:Fr),q.af[i]?=some (some f)->ru W P f
 PF:P≠FB
 PM:P≠M
 FM:FB≠M
 off:∀(i:Nat) (o:Option Fr) (k:Nat),q.af[i]?=some o->mV o k->k≠P/\k≠FB/\k≠M
 two:∀(i j:Nat) (o u:Option Fr) (k:Nat),i≠j->q.af[i]?=some o->q.af[j]?=some u->mV o k->¬mV u k
 op:uB W q.op
 jk:∀k,sN q.op k->k≠P/\k≠FB/\k≠M
 nG:∀(i:Nat) (o:Option Fr) (k:Nat),q.af[i]?=some o->mV o k->¬sN q.op k
 tab:∀(k:Nat),ji P FB M q.af q.op k->0 ≠k
structure PD(E:Nat->Prop)(W:World)(P D FB M:Nat)(q:Pl)(d:Dk)(au:Nat):Prop where
 pool:fA W P D FB M q
 dd:DD (λ k=>E k\/ji P FB M q.af q.op k) W D d au
 far:∀k,E k->¬ji P FB M q.af q.op k
section
variable{E:Nat->Prop}{W W':World}{P D FB M au:Nat}{q:Pl}{d d':Dk}
theorem ru.ae{f:Fr}(h:ru W P f)(h1:W'.heap[f.blk]?=W.heap[f.blk]?)(h2:W'.heap[f.db]?=W.heap[f.db]?):ru W' P f:=by
 obtain⟨y,a,b,c⟩:=h.bytes;exact⟨h.box.ae h1,⟨y,a.ae h2,b,c⟩,h.len,h.cap,h.page,h.ne⟩
theorem ru.lt{f:Fr}(h:ru W P f){k:Nat}(hk:mV (some f) k):k<W.heap.size:=by
 obtain⟨y,a,_⟩:=h.bytes;rcases hk with rfl|rfl
 ·exact h.box.lt
 exact a.lt
theorem kC.lt{ao:Option Addr}{c:Nat}{l:List Int}(h:kC W ao c l){k:Nat}(hk:aK ao k):k<W.heap.size:=by
 rcases h with⟨h,_⟩|⟨g,h,r⟩
 ·rw[aK,h]at hk;cases hk
 rw[aK,h]at hk;have:=Addr.mk.inj (aZ hk);rw[<-this.1];exact r.lt
theorem kC.ae{ao:Option Addr}{c:Nat}{l:List Int}(h:kC W ao c l)(hs:W.heap.size<=W'.heap.size)(hb:∀k,aK ao k->W'.heap[k]?=W.heap[k]?):kC W' ao c l:=by
 rcases h with h|⟨g,h,r⟩
 ·exact .inl h
 exact .inr ⟨g,h,r.ae hs (hb g h)⟩
theorem uB.lt{o:Option kz}(h:uB W o){k:Nat}(hk:sN o k):k<W.heap.size:=by
 cases o with
 | none=>exact absurd hk id
 | some x=>
  have hx:=h x rfl;rcases hk with rfl|hk|hk
  ·exact hx.was.lt
  ·exact hx.made.lt hk
  exact hx.gone.lt hk
theorem uB.ae{o:Option kz}(h:uB W o)(hs:W.heap.size<=W'.heap.size)(hb:∀k,sN o k->W'.heap[k]?=W.heap[k]?):uB W' o:=λ x hx=>by
 subst hx;have h1:=h x rfl;exact⟨h1.was.ae (hb _ (.inl rfl)),h1.made.ae hs (λ k hk=>hb k (.inr (.inl hk))),h1.gone.ae hs (λ k hk=>hb k (.inr (.inr hk))),h1.wm,h1.wg,h1.mg,h1.vk,h1.vo,h1.few⟩
theorem fA.xz(h:fA W P D FB M q){i:Nat}{o:Option Fr}(hi:q.af[i]?=some o){k:Nat}(hk:mV o k):k<W.heap.size:=by
 cases o with
 | none=>exact absurd hk id
 | some f=>exact(h.each i f hi).lt hk
theorem fA.lt(h:fA W P D FB M q){k:Nat}(hk:ji P FB M q.af q.op k):k<W.heap.size:=by
 rcases hk with rfl|rfl|rfl|ho|⟨i,o,hi,ho⟩
 ·exact h.box.lt
 ·exact h.sO.lt
 ·obtain⟨f,_,hm⟩:=h.map;exact hm.lt
 ·exact h.op.lt ho
 exact h.xz hi ho
theorem fA.kept(h:fA W P D FB M q)(hs:W.heap.size<=W'.heap.size)(hb:∀k,ji P FB M q.af q.op k->W'.heap[k]?=W.heap[k]?):fA W' P D FB M q:=by
 obtain⟨f,hf,hm⟩:=h.map
 exact⟨h.box.ae (hb _ (.inl rfl)),h.sO.ae hs (hb _ (.inr (.inl rfl))),⟨f,hf,hm.ae (hb _ (.inr (.inr (.inl rfl))))⟩,
  λ i g hi=>(h.each i g hi).ae (hb _ (.inr (.inr (.inr (.inr ⟨i,_,hi,.inl rfl⟩))))) (hb _ (.inr (.inr (.inr (.inr ⟨i,_,hi,.inr rfl⟩))))),h.PF,h.PM,h.FM,h.off,h.two,h.op.ae hs (λ k hk=>hb k (.inr (.inr (.inr (.inl hk))))),h.jk,h.nG,h.tab⟩
theorem PD.next(h:PD E W P D FB M q d au)(hb:Below W W W'):PD E W' P D FB M q d au:=
 ⟨h.pool.kept hb.size (λ k hk=>hb.block k (h.pool.lt hk)),h.dd.below hb,h.far⟩
theorem PD.disk(h:PD E W P D FB M q d au){cnt':Nat}(hd:DD (λ k=>E k\/ji P FB M q.af q.op k) W' D d' cnt')(hk:Kept (λ k=>E k\/ji P FB M q.af q.op k) W W'):PD E W' P D FB M q d' cnt':=
 ⟨h.pool.kept hk.size (λ k hp=>hk.block k (.inr hp)),hd,h.far⟩
theorem QC(l:List (Option Fr))(i:Nat)(o:Option Fr)(h:l[i]?=some o):(l.map qh)[i]?=some (qh o):=by
 rw[dL,h];rfl
theorem Wv(l:List (Option Fr))(i:Nat)(o u:Option Fr)(h:l[i]?=some o)(e:qh u=qh o):(l.set i u).map qh=l.map qh:=by
 refine List.ext_getElem? (λ j=>?_);have hl:=(dE.1 h).1;rw[dL,dL,fJ l i j _ hl];by_cases e2:i=j
 ·subst e2;rw[if_pos rfl,h];simp[e]
 rw[if_neg e2]
theorem map_set(l:List (Option Fr))(i:Nat)(u:Option Fr):(l.set i u).map qh=(l.map qh).set i (qh u):=List.map_set
theorem fA.bO{i:Nat}{o o':Option Fr}{hand:Nat}{ah:Int}(h:fA W P D FB M q)(hi:q.af[i]?=some o)(_ht:0 <W.heap.size)(hP:ay W' P (nW D FB q.af.length M hand ah q.op))(hs:W.heap.size<=W'.heap.size)(QD:∀k,sN q.op k->W'.heap[k]?=W.heap[k]?)
  (hFB:Row W' FB q.af.length ((q.af.set i o').map qh)) (hM:∃f,jC (q.af.set i o') f/\kG Tryz.prog 3 3 W' M (cntF (q.af.set i o')) f (cntF (q.af.set i o')))
  (hkeep:∀(j:Nat) (u:Option Fr) (k:Nat),j≠i->q.af[j]?=some u->mV u k->W'.heap[k]?=W.heap[k]?) (hnew:∀f,o'=some f->ru W' P f) (hown:∀k,mV o' k->mV o k\/W.heap.size<=k) :
  fA W' P D FB M {af:=q.af.set i o',hand:=hand,ah:=ah,op:=q.op}:=by
 have hl:=(dE.1 hi).1;have Ka:=h.box.lt;have Nk:=h.sO.lt;have QE:M<W.heap.size:=h.lt (.inr (.inr (.inl rfl)))
 have hoff:∀k,mV o' k->k≠P/\k≠FB/\k≠M:=λ k hk=>by
  rcases hown k hk with h1|h1
  ·exact h.off i o k hi h1
  exact⟨by omega,by omega,by omega⟩
 have Kb:∀j u k,j≠i->q.af[j]?=some u->mV o' k->¬mV u k:=λ j u k hj hu hk hh=>by
  rcases hown k hk with h1|h1
  ·exact h.two i j o u k (dz hj) hi hu h1 hh
  have:=h.xz hu hh;omega
 refine⟨by show ay _ _ (nW _ _ (q.af.set i o').length _ _ _ _);rw[aQ];exact hP,by show Row _ _ (q.af.set i o').length _;rw[aQ];exact hFB,hM,λ j f hj=>?_,h.PF,h.PM,h.FM,λ j u k hj hk=>?_,λ a b u v k hab ha hb hk hh=>?_,h.op.ae hs QD,h.jk,λ j u k hj hk hh=>?_,λ k hk=>?_⟩
 ·have hj:(q.af.set i o')[j]?=some (some f):=hj;rw[fJ _ _ _ _ hl]at hj;by_cases e:i=j
  ·rw[if_pos e]at hj;exact hnew f (aZ hj)
  rw[if_neg e]at hj;exact(h.each j f hj).ae (hkeep j _ _ (dz e) hj (.inl rfl)) (hkeep j _ _ (dz e) hj (.inr rfl))
 ·have hj:(q.af.set i o')[j]?=some u:=hj;rw[fJ _ _ _ _ hl]at hj;by_cases e:i=j
  ·rw[if_pos e]at hj;rw[<-aZ hj]at hk;exact hoff k hk
  rw[if_neg e]at hj;exact h.off j u k hj hk
 ·have ha:(q.af.set i o')[a]?=some u:=ha;have hb:(q.af.set i o')[b]?=some v:=hb;rw[fJ _ _ _ _ hl]at ha hb;by_cases e:i=a
  ·rw[if_pos e]at ha;rw[if_neg (λ e2=>hab (e.symm.trans e2))]at hb;rw[<-aZ ha]at hk;exact Kb b v k (λ e2=>hab (e.symm.trans e2.symm)) hb hk hh
  rw[if_neg e]at ha;by_cases e2:i=b
  ·rw[if_pos e2]at hb;rw[<-aZ hb]at hh;exact Kb a u k (dz e) ha hh hk
  rw[if_neg e2]at hb;exact h.two a b u v k hab ha hb hk hh
 ·have hj:(q.af.set i o')[j]?=some u:=hj;rw[fJ _ _ _ _ hl]at hj;by_cases e:i=j
  ·rw[if_pos e]at hj;rw[<-aZ hj]at hk;rcases hown k hk with h1|h1
   ·exact h.nG i o k hi h1 hh
   have:=h.op.lt hh;omega
  rw[if_neg e]at hj;exact h.nG j u k hj hk hh
 rcases hk with hk|hk|hk|hk|⟨j,u,hj,hk⟩
 ·exact h.tab k (.inl hk)
 ·exact h.tab k (.inr (.inl hk))
 ·exact h.tab k (.inr (.inr (.inl hk)))
 ·exact h.tab k (.inr (.inr (.inr (.inl hk))))
 have hj:(q.af.set i o')[j]?=some u:=hj;rw[fJ _ _ _ _ hl]at hj;by_cases e:i=j
 ·rw[if_pos e]at hj;rw[<-aZ hj]at hk;rcases hown k hk with h1|h1
  ·exact h.tab k (.inr (.inr (.inr (.inr ⟨i,o,hi,h1⟩))))
  omega
 rw[if_neg e]at hj;exact h.tab k (.inr (.inr (.inr (.inr ⟨j,u,hj,hk⟩))))
theorem ji.bO{i:Nat}{o o':Option Fr}{l:List (Option Fr)}{op:Option kz}{n k:Nat}(hi:l[i]?=some o)(hown:∀k,mV o' k->mV o k\/n<=k)(h:ji P FB M (l.set i o') op k):ji P FB M l op k\/n<=k:=by
 have hl:=(dE.1 hi).1;rcases h with h|h|h|h|⟨j,u,hj,hk⟩
 ·exact .inl (.inl h)
 ·exact .inl (.inr (.inl h))
 ·exact .inl (.inr (.inr (.inl h)))
 ·exact .inl (.inr (.inr (.inr (.inl h))))
 rw[fJ _ _ _ _ hl]at hj;by_cases e:i=j
 ·rw[if_pos e]at hj;rw[<-aZ hj]at hk;rcases hown k hk with h1|h1
  ·exact .inl (.inr (.inr (.inr (.inr ⟨i,o,hi,h1⟩))))
  exact .inr h1
 rw[if_neg e]at hj;exact .inl (.inr (.inr (.inr (.inr ⟨j,u,hj,hk⟩))))
theorem PD.moves{q':Pl}(h:PD E W P D FB M q d au)(m:Moves (ji P FB M q.af q.op) (ji P FB M q'.af q'.op) W W')(hp:fA W' P D FB M q'):PD E W' P D FB M q' d au/\Kept E W W':=by
 obtain⟨⟨own,hown,B,bc,fo,fc,I,ic,y,hd⟩,hf,hS⟩:=h.dd;have hE:∀k,E k->W'.heap[k]?=W.heap[k]?:=λ k hk=>m.block k (hS k (.inl hk)) (h.far k hk);have hd2:=hd.tight;have hown2:∀k,(own k/\k<W.heap.size)->W'.heap[k]?=W.heap[k]?:=λ k hk=>m.block k hk.2 (λ hh=>hown k hk.1 (.inr hh));have htlt:=hd.tab.lt
 have htab:kD W':=by
  have hb:=m.block _ htlt (λ hh=>h.pool.tab _ hh rfl);intro c;exact(gq (a:=⟨_,_,none⟩) hb).trans (hd.tab c)
 refine⟨⟨hp,⟨⟨λ k=>own k/\k<W.heap.size,λ k hk hh=>?_,B,bc,fo,fc,I,ic,y,?_⟩,hf,λ k hk=>?_⟩,λ k hk hh=>?_⟩,⟨m.os,m.tape,m.output,m.size,hE⟩⟩
 ·rcases hh with hh|hh
  ·exact hown k hk.1 (.inl hh)
  rcases m.owns k hh with h1|h1
  ·exact hown k hk.1 (.inr h1)
  have:=hk.2;omega
 ·refine⟨hd2.cells.ae m.size (hown2 _ hd2.oD),hd2.bytes.ae (hown2 _ hd2.oB),hd2.mH,hd2.le,hd2.pre,?_,hd2.flags.ae m.size (hown2 _ hd2.oI),hd2.DB,hd2.DI,hd2.BI,hd2.oD,hd2.oB,hd2.oI,htab,hd2.gK⟩;rcases hd2.eT with h0|⟨F,e1,r,n1,n2,n3,n4⟩
  ·exact .inl h0
  exact .inr ⟨F,e1,r.ae m.size (hown2 _ n4),n1,n2,n3,n4⟩
 ·rcases hk with hk|hk
  ·exact bZ (hS k (.inl hk)) m.size
  exact hp.lt hk
 rcases m.owns k hh with h1|h1
 ·exact h.far k hk h1
 have:=hS k (.inl hk);omega
structure nO(q:Pl):Prop where
 ah:q.ah=sJ q.af
 pos:∀(i:Nat) (f:Fr),q.af[i]?=some (some f)->0<=f.ah/\f.ah<=1000000
 hand:q.hand<q.af.length
 few:q.af.length<=1000
theorem Nl:∀(n:Nat) (q:Pl),nO q->nO {af:=(jB n q.af q.hand).2.1,hand:=(jB n q.af q.hand).2.2,ah:=q.ah,op:=q.op}/\(jB n q.af q.hand).2.1.length=q.af.length /\
  ∀i,(jB n q.af q.hand).1=some i->∃o,(jB n q.af q.hand).2.1[i]?=some o/\∀f,o=some f->f.ah=0
 | 0,q,h=>⟨h,rfl,λ i hi=>by cases hi⟩
 | n+1,q,h=>by
  have hh:=h.hand;have hmod:(q.hand+1)%q.af.length<q.af.length:=jr _ (by omega);obtain⟨o,ho⟩:∃o,q.af[q.hand]?=some o:=⟨_,bL hh⟩
  cases o with
  | none=>
   rw[GX n ho];exact⟨⟨h.ah,h.pos,hmod,h.few⟩,rfl,λ i hi=>⟨none,by rw[<-aZ hi];exact ho,λ f hf=>by cases hf⟩⟩
  | some f=>
   rw[GY n ho];by_cases hp:0<f.ah
   ·rw[if_pos hp];exact Nl n {q with hand:=(q.hand+1)%q.af.length} ⟨h.ah,h.pos,hmod,h.few⟩
   rw[if_neg hp];by_cases hu:f.used=true
   ·rw[if_pos hu];have hl:=(dE.1 ho).1;have h2:=Nl n {q with af:=q.af.set q.hand (some {f with used:=false}),hand:=(q.hand+1)%q.af.length} ⟨?_,λ i g hi=>?_,?_,?_⟩
    ·simp only[aQ]at h2;exact h2
    ·show q.ah=sJ (q.af.set q.hand _);rw[QA _ _ _ _ ho];have:=h.ah;simp only[iH];omega
    ·have hi:(q.af.set q.hand (some {f with used:=false}))[i]?=some (some g):=hi;rw[fJ _ _ _ _ hl]at hi;by_cases e:q.hand=i
     ·rw[if_pos e]at hi;rw[<-aZ (aZ hi)];exact h.pos _ f ho
     rw[if_neg e]at hi;exact h.pos i g hi
    ·show _<(q.af.set q.hand _).length;rw[aQ];exact hmod
    show(q.af.set q.hand _).length<=_;rw[aQ];exact h.few
   rw[if_neg hu];refine⟨⟨h.ah,h.pos,hmod,h.few⟩,rfl,λ i hi=>⟨some f,by rw[<-aZ hi];exact ho,λ g hg=>?_⟩⟩;have:=h.pos _ f ho;rw[<-aZ hg];omega
theorem nO.set{q:Pl}(h:nO q){i:Nat}{o u:Option Fr}(hi:q.af[i]?=some o)(hu:∀f,u=some f->0<=f.ah/\f.ah<=1000000):nO {af:=q.af.set i u,hand:=q.hand,ah:=q.ah-iH o+iH u,op:=q.op}:=by
 have hl:=(dE.1 hi).1;refine⟨?_,λ j g hj=>?_,?_,?_⟩
 ·show _=sJ (q.af.set i u);rw[QA _ _ _ _ hi,<-h.ah]
 ·have hj:(q.af.set i u)[j]?=some (some g):=hj;rw[fJ _ _ _ _ hl]at hj;by_cases e:i=j
  ·rw[if_pos e]at hj;exact hu g (aZ hj)
  rw[if_neg e]at hj;exact h.pos j g hj
 ·show _<(q.af.set i u).length;rw[aQ];exact h.hand
 show(q.af.set i u).length<=_;rw[aQ];exact h.few
def tL(q' q:Pl):Prop:=∀(j:Nat) (g:Fr),q'.af[j]?=some (some g)->∃g0:Fr,q.af[j]?=some (some g0)/\g0.page=g.page
theorem tL.trans{a b c:Pl}(h:tL a b)(k:tL b c):tL a c:=λ j g hg=>by
 obtain⟨g1,h1,e1⟩:=h j g hg;obtain⟨g2,h2,e2⟩:=k j g1 h1;exact⟨g2,h2,e2.trans e1⟩
theorem tL.set{q:Pl}{i:Nat}{f g:Fr}(hi:q.af[i]?=some (some f))(hp:g.page=f.page)(hand:Nat)(ah:Int):tL {af:=q.af.set i (some g),hand:=hand,ah:=ah,op:=q.op} q:=λ j u hj=>by
 have hl:=(dE.1 hi).1;replace hj:(q.af.set i (some g))[j]?=some (some u):=hj;rw[fJ _ _ _ _ hl]at hj;by_cases e:i=j
 ·rw[if_pos e]at hj;subst e;exact⟨f,hi,by rw[<-aZ (aZ hj),hp]⟩
 rw[if_neg e]at hj;exact⟨u,hj,rfl⟩
theorem tL.empty{q:Pl}{i:Nat}{o:Option Fr}(hi:q.af[i]?=some o)(hand:Nat)(ah:Int):tL {af:=q.af.set i none,hand:=hand,ah:=ah,op:=q.op} q:=λ j u hj=>by
 have hl:=(dE.1 hi).1;replace hj:(q.af.set i none)[j]?=some (some u):=hj;rw[fJ _ _ _ _ hl]at hj;by_cases e:i=j
 ·rw[if_pos e]at hj;cases hj
 rw[if_neg e]at hj;exact⟨u,hj,rfl⟩
theorem QF(op:Option kz):∀(n:Nat) (l:List (Option Fr)) (h:Nat) (hand:Nat) (ah:Int) (hand':Nat) (Kc:Int),h<l.length->tL {af:=(jB n l h).2.1,hand:=hand,ah:=ah,op:=op} {af:=l,hand:=hand',ah:=Kc,op:=op}
 | 0,l,h,_,_,_,_,_=>λ j g hg=>⟨g,hg,rfl⟩
 | n+1,l,h,a,b,a',b',hh=>by
  have hmod:(h+1)%l.length<l.length:=jr _ (by omega);obtain⟨o,ho⟩:∃o,l[h]?=some o:=⟨_,bL hh⟩
  cases o with
  | none=>rw[GX n ho];exact λ j g hg=>⟨g,hg,rfl⟩
  | some f=>
   rw[GY n ho];by_cases hp:0<f.ah
   ·rw[if_pos hp];exact QF op n l _ a b a' b' hmod
   rw[if_neg hp];by_cases hu:f.used=true
   ·rw[if_pos hu];exact(QF op n _ _ a b a' b' (by rw[aQ];exact hmod)).trans (tL.set (q:={af:=l,hand:=a',ah:=b',op:=op}) (g:={f with used:=false}) ho rfl a' b')
   rw[if_neg hu];exact λ j g hg=>⟨g,hg,rfl⟩
end
end Go.Proofs.YtgpmiliahonaoaaGreatDoor
