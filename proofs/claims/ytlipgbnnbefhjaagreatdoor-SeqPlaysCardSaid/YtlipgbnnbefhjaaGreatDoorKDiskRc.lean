/- Facts on rows of numbers on pages. -/
import Derived.Test.YtlipgbnnbefhjaaGreatDoorKDiskGc
set_option maxRecDepth 100000
set_option maxHeartbeats 8000000
set_option linter.unusedSimpArgs false
namespace Go.Proofs.YtlipgbnnbefhjaaGreatDoor
open Go.RowKit
open UK (str aO nth Only w32 Row)
open Go.BigFrame
section
variable{W W':World}{own:Nat->Prop}{D B bc fc I ic aj:Nat}{fo:Option Addr}{y:List UInt8}{d:Dk}
def also(own:Nat->Prop)(g:Nat)(k:Nat):Prop:=own k\/k=g
theorem Moves.sG{g:Nat}(ho:Only g W W')(hg:own g\/W.heap.size<=g):Moves own (also own g) W W':=
 ⟨ho.os,ho.tape,ho.output,ho.size,λ k hk hn=>ho.block k hk (λ e=>by subst e;rcases hg with h|h;exact hn h;omega),λ k hk=>by
  rcases hk with h|rfl
  ·exact .inl h
  exact hg⟩
theorem Wn(h:aN W own D B bc fo fc I ic y d)(p:Nat)(hl:d.free.length<=60000) :
  ∃g' c' W',(Builtin.append_ #[73,73] 73 #[.slice fo d.free.length fc,.slice W 1 1]).run Tryz.prog (W.alloc (.cells #[.int .i64 (p:Int)] 3))= .ok (.slice (some ⟨g',0,none⟩) (d.free.length+1) c') W'/\Row W' g' c' (ints (d.free++[p]))/\Only g' W W'/\(own g'\/W.heap.size<=g')/\g'≠D/\g'≠B/\g'≠I:=by
 have ha:(fo=none/\ints d.free=[]/\fc=0)\/∃g,fo=some ⟨g,0,none⟩/\Row W g fc (ints d.free):=by
  rcases h.fw with⟨a,b,c⟩|⟨F,e,r,_⟩
  ·exact .inl ⟨a,by rw[b];rfl,c⟩
  exact .inr ⟨F,e,r⟩
 obtain⟨g',c',W',e,r,o,hg⟩:=UK.I9 (P:=Tryz.prog) (t:=73) (ty:=73) Tryz.underlying73 (i:=Tryz.t3) rfl rfl rfl (show(8:Nat)<=16 by omega) rfl ha (.int .i64 (p:Int)) rfl (by rw[dx];omega);rw[dx]at e;refine⟨g',c',W',e,by unfold ints at *;rw[jr];exact r,o,?_⟩;rcases hg with hg|hg
 ·rcases h.fw with⟨a,_⟩|⟨F,e2,_,n1,n2,n3,n4⟩
  ·rw[a]at hg;cases hg
  rw[e2]at hg;obtain rfl:F=g':=congrArg Addr.block (bC hg);exact⟨.inl n4,n1,n2,n3⟩
 have:=h.cells.lt;have:=h.bytes.lt;have:=h.flags.lt;exact⟨.inr hg,by omega,by omega,by omega⟩
theorem aN.zJ(h:aN W own D B bc fo fc I ic y d){g' c':Nat}{l:List Nat}(hr:Row W' g' c' (ints l))(ho:Only g' W W')(h1:g'≠D)(h2:g'≠B)(h3:g'≠I)(h4:own g'\/W.heap.size<=g') :
  aN (W'.setCell (D,2) (.slice g' l.length c')) (also own g') D B bc g' c' I ic y {d with free:=l}:=by
 have hc:=(h.cells.only ho h1.symm).set 2 (.slice g' l.length c') (by show 2<8;omega);have o2:=(Only.refl D W').set 2 (.slice g' l.length c');have htl:=h.tab.lt
 have hnt:0 ≠g':=λ e=>by
  rcases h4 with h4|h4
  ·exact h.gX (e▸h4)
  omega
 refine⟨hc,o2.bytes (ho.bytes h.bytes h2.symm) h.DB.symm,h.lJ,h.le,h.pre,.inr ⟨g',rfl,hr.only o2 h1,h1,h2,h3,.inr rfl⟩,(h.flags.only ho h3.symm).only o2 h.DI.symm,h.DB,h.DI,h.BI,.inl h.oD,.inl h.oB,.inl h.oI,?_,λ hh=>?_⟩
 ·exact UK.xS (UK.xS h.tab ho hnt) o2 h.JQ
 rcases hh with hh|hh
 ·exact h.gX hh
 exact hnt hh
theorem aN.vO(h:aN W own D B bc fo fc I ic y d)(p:Nat)(b:Bool)(hp:p<d.gu.length) :
  aN (W.setCell (I,p) (.bool b)) own D B bc fo fc I ic y {d with gu:=d.gu.set p b}:=by
 have hr:=h.flags.set p (.bool b) (by rw[JO];exact hp);have o:=(Only.refl I W).set p (.bool b);have hnt:0 ≠I:=λ e=>h.gX (e▸h.oI);refine⟨?_,o.bytes h.bytes h.BI,h.lJ,h.le,h.pre,?_,by unfold zx at hr ⊢;rw[List.map_set];exact hr,h.DB,h.DI,h.BI,h.oD,h.oB,h.oI,UK.xS h.tab o hnt,h.gX⟩
 ·have hc:=h.cells.only o h.DI;unfold Dk.vals at hc ⊢;rw[bB];exact hc
 rcases h.fw with h0|⟨F,e,r,n1,n2,n3,n4⟩
 ·exact .inl h0
 exact .inr ⟨F,e,r.only o n3,n1,n2,n3,n4⟩
def ul(d:Dk)(p:Nat):Dk:={d with wl:=iQ d.wl,puts:=d.puts+1,x:=UK.wr d.x (512*p) (jm p (oZ d d.free.length)),free:=d.free++[p],gu:=d.gu.set p true}
def um(d:Dk):Dk:={d with wl:=iQ d.wl,puts:=d.puts+1}
theorem xwd(h:aN W own D B bc fo fc I ic y d)(f:Fit d aj)(hq3:d.puts+1<1000000000)(p:Nat)(hp:p<aj)(hh:bn d aj p=true)(h0:d.wl≠0) :
  Calls Tryz.prog 108 #[.pointer D,.int .i64 p] W λ e w'=>e= .returned (.int .i64 0)/\∃own',jo w' own' D (ul d p)/\Moves own own' W w':=by
 have hc:=zy h f p;rw[hh]at hc;have HE:Hid (jf d.wl=0):=by show _=_;unfold jf;rw[if_neg h0]
 have zF:=zH hq3;have hq1:=f.puts.1;have hq2:=f.puts.2;have qi:=zD d.wl f.wl;have fD:=f.few;have hfl:=f.eO;have hil:=f.flags;clear h0 hq3
 go_enter Tryz.func108,Tryz.ntmps108
 go_wp2_with fail
 refine hc.mono ?_;rintro e w' ⟨rfl,q,rfl⟩;have h1:=h.drewN q;have m1:=Moves.of_below (o:=own) (UK.aG (aP W W) q);generalize W.drewN q=w1 at h1 m1 ⊢;have dA:=BH h1.cells 5 d.wl rfl f.wl;rw[HE.out]at dA
 go_wp2_with fail
 refine dA.mono ?_;rintro e w2 ⟨rfl,r1,o1⟩;have h2:=h1.gY (d':={d with wl:=iQ d.wl}) r1 o1 rfl rfl rfl;have c7:=h2.cells.at' 7 _ rfl;have f7:=h2.cells.free 7 (by omega);have r3:=h2.cells.set 7 (.int .i64 (d.puts+1)) (by show 7<8;omega);have o3:=(Only.refl D w2).set 7 (.int .i64 (d.puts+1));have h3:=h2.gY (d':=um d) r3 o3 rfl rfl rfl;have m3:=(m1.trans (Moves.bX o1 h.oD)).trans (Moves.bX o3 h.oD)
 have d3:Dat W (w2.setCell (D,7) (.int .i64 (d.puts+1))) own D B bc fo fc I ic y (um d) aj:=
  ⟨h3,⟨f.len,f.flags,f.one,f.few,f.ax,f.free,f.eO,f.rl,qi,f.reads,by show 0<=d.puts+1/\_;exact⟨by omega,zF.out⟩⟩,m3⟩
 have c2:=d3.at_.cells.at' 2 _ rfl
 go_wp2_with fail
 refine(Wh d3 d.free.length (aZ _)).mono ?_;rintro e w4 ⟨rfl,d4⟩
 go_wp2_with fail
 refine(JS d4 p (oZ (um d) d.free.length) hp (by rw[iD];decide)).mono ?_;rintro e w5 ⟨rfl,y5,d5⟩;have h5:=d5.at_;have m5:=d5.moves;clear hc dA h1 h2 h3 d3 d4 d5 r1 o1 r3 o3 m1 m3 c7 f7 c2;have c2:=h5.cells.at' 2 _ rfl;obtain⟨g',c',w6,e6,r6,o6,k1,k2,k3,k4⟩:=Wn h5 p (by show d.free.length<=60000;omega);have h7:=h5.zJ r6 o6 k2 k3 k4 k1;have m7:=(m5.trans (Moves.sG o6 k1)).trans (Moves.bX ((Only.refl D w6).set 2 (.slice g' (d.free.length+1) c')) (.inl h.oD));have f2:w6.frozen? ⟨D,2,none⟩=false:=(h5.cells.only o6 k2.symm).free 2 (by omega);have c2':=(h5.cells.only o6 k2.symm).at' 2 _ rfl;rw[zl,gI]at h7;have hpl:p<d.gu.length:=by omega
 have h8:=h7.vO p true hpl;have m8:=m7.trans (Moves.bX ((Only.refl I _).set p (.bool true)) (show also own g' I from .inl h.oI));have c3:=h7.cells.at' 3 _ rfl;have fp:=h7.flags.free p (by have:=h7.flags.le;rw[JO]at this;exact bS hpl this);have cp:=h7.flags.at' p _ (I8 d.gu p hpl);clear h7 m7 h5 m5
 go_wp2_with (at_builtin;refine UK.pV e6 rfl rfl rfl rfl rfl ?_)
 go_ret;exact⟨rfl,also own g',⟨B,bc,_,c',I,ic,y5,h8⟩,m8⟩
end
section
variable{W W':World}{own:Nat->Prop}{D B bc fc I ic aj:Nat}{fo:Option Addr}{y:List UInt8}{d:Dk}
theorem xsu(h:aN W own D B bc fo fc I ic y d)(f:Fit d aj)(hr:d.ax-aj+d.free.length=0) :
  Calls Tryz.prog 89 #[.pointer D] W λ e w'=>e= .returned (.tuple #[.int .i64 0,.int .i64 6])/\jo w' own D d/\Moves own own W w':=by
 have hc:=JP h f;rw[hr]at hc
 go_enter Tryz.func89,Tryz.ntmps89
 go_wp2_with fail
 refine hc.mono ?_;rintro e w' ⟨rfl,q,rfl⟩;go_wp2;go_ret2;exact⟨rfl,⟨B,bc,fo,fc,I,ic,y,h.drewN q⟩,Moves.of_below (UK.aG (aP _ _) q)⟩
theorem xsv(h:aN W own D B bc fo fc I ic y d)(f:Fit d aj)(hr:0<d.ax-aj+d.free.length)(h0:d.wl=0) :
  Calls Tryz.prog 89 #[.pointer D] W λ e w'=>e= .returned (.tuple #[.int .i64 0,.int .i64 7])/\jo w' own D {d with wl:= -1}/\Moves own own W w':=by
 have hc:=JP h f;obtain⟨r,HR⟩:∃r,Hid (d.ax-aj+d.free.length=r):=⟨_,rfl⟩;rw[HR.out]at hc hr;have HE:Hid (jf d.wl=7):=by show _=_;unfold jf;rw[if_pos h0]
 have HN:Hid (iQ d.wl= -1):=by show _=_;unfold iQ;rw[if_pos h0]
 clear h0
 go_enter Tryz.func89,Tryz.ntmps89
 go_wp2_with fail
 refine hc.mono ?_;rintro e w' ⟨rfl,q,rfl⟩;have h1:=h.drewN q;have m1:=Moves.of_below (o:=own) (UK.aG (aP W W) q);generalize W.drewN q=w1 at h1 m1 ⊢;have dA:=BH h1.cells 5 d.wl rfl f.wl;rw[HE.out,HN.out]at dA
 go_wp2_with fail
 refine dA.mono ?_;rintro e w2 ⟨rfl,r1,o1⟩;go_wp2;go_ret2;exact⟨rfl,⟨B,bc,fo,fc,I,ic,y,h1.gY (d':={d with wl:= -1}) r1 o1 rfl rfl rfl⟩,m1.trans (Moves.bX o1 h.oD)⟩
theorem aN.CB(h:aN W own D B bc fo fc I ic y d){l:List Nat}{p F:Nat}(hl:d.free=l++[p])(hF:fo=some ⟨F,0,none⟩) :
  aN (W.setCell (D,2) (.slice fo l.length fc)) own D B bc fo fc I ic y {d with free:=l}:=by
 have hc:=h.cells.set 2 (.slice fo l.length fc) (by show 2<8;omega);have o:=(Only.refl D W).set 2 (.slice fo l.length fc);refine⟨hc,o.bytes h.bytes h.DB.symm,h.lJ,h.le,h.pre,?_,h.flags.only o h.DI.symm,h.DB,h.DI,h.BI,h.oD,h.oB,h.oI,UK.xS h.tab o h.JQ,h.gX⟩;rcases h.fw with⟨a,_⟩|⟨F',e,r,n1,n2,n3,n4⟩
 ·rw[a]at hF;cases hF
 have:=(r.only o n1).take l.length;rw[hl]at this;refine .inr ⟨F',e,?_,n1,n2,n3,n4⟩;unfold ints at this ⊢;rw[jr,kU,kg,iF,jH,jw,eZ (by rw[kg];exact aZ _)]at this;exact this
theorem xwe(l:List Nat)(p:Nat):(l++[p]).getD l.length 0=p:=by
 rw[fK,dF (aZ _),iF];rfl
def gP(d:Dk)(l:List Nat)(p:Nat):Dk:={d with wl:=iQ d.wl,puts:=d.puts+1,x:=UK.wr d.x (512*p) (jm p []),free:=l,gu:=d.gu.set p false}
theorem xsw(h:aN W own D B bc fo fc I ic y d)(f:Fit d aj)(hq3:d.puts+1<1000000000)(l:List Nat)(p:Nat)(hl:d.free=l++[p])(h0:d.wl≠0) :
  Calls Tryz.prog 89 #[.pointer D] W λ e w'=>e= .returned (.tuple #[.int .i64 p,.int .i64 0])/\jo w' own D (gP d l p)/\Moves own own W w':=by
 have hc:=JP h f;have aJ:d.free.length=l.length+1:=by rw[hl,zl];rfl
 obtain⟨r,HR⟩:∃r,Hid (d.ax-aj+d.free.length=r):=⟨_,rfl⟩;have hr:0<r:=by have:=HR.out;have:=f.ax.2.2;omega
 rw[HR.out]at hc;have HE:Hid (jf d.wl=0):=by show _=_;unfold jf;rw[if_neg h0]
 have zF:=zH hq3;have hq1:=f.puts.1;have hq2:=f.puts.2;have qi:=zD d.wl f.wl;have fD:=f.few;have hfl:=f.eO;have hil:=f.flags;have JU:=f.free p (by rw[hl];exact fE _ (bQ.2 rfl));have HL:=zH hl;have HLen:=zH aJ
 obtain⟨F,HF⟩:∃F,Hid (fo=some ⟨F,0,none⟩):=by
  rcases h.fw with⟨_,b,_⟩|⟨F,e,_⟩
  ·rw[hl]at b;simp at b
  exact⟨F,e⟩
 have hll:l.length<60000:=by omega
 clear h0 hq3 hl aJ
 go_enter Tryz.func89,Tryz.ntmps89
 go_wp2_with fail
 refine hc.mono ?_;rintro e w' ⟨rfl,q,rfl⟩;have h1:=h.drewN q;have m1:=Moves.of_below (o:=own) (UK.aG (aP W W) q);generalize W.drewN q=w1 at h1 m1 ⊢;have dA:=BH h1.cells 5 d.wl rfl f.wl;rw[HE.out]at dA
 go_wp2_with fail
 refine dA.mono ?_;rintro e w2 ⟨rfl,r1,o1⟩;have h2:=h1.gY (d':={d with wl:=iQ d.wl}) r1 o1 rfl rfl rfl;have c7:=h2.cells.at' 7 _ rfl;have f7:=h2.cells.free 7 (by omega);have r3:=h2.cells.set 7 (.int .i64 (d.puts+1)) (by show 7<8;omega);have o3:=(Only.refl D w2).set 7 (.int .i64 (d.puts+1));have h3:=h2.gY (d':=um d) r3 o3 rfl rfl rfl;have m3:=(m1.trans (Moves.bX o1 h.oD)).trans (Moves.bX o3 h.oD);have f3:Fit (um d) aj:=⟨f.len,f.flags,f.one,f.few,f.ax,f.free,f.eO,f.rl,qi,f.reads,by show 0<=d.puts+1/\_;exact⟨by omega,zF.out⟩⟩
 go_wp2_with fail
 generalize w2.setCell (D,7) (.int .i64 (d.puts+1))=w3 at h3 m3 ⊢;clear h2 c7 f7 r3 o3 r1 o1 dA hc m1 h1;refine(I7 h3 f3).mono ?_;rintro e w' ⟨rfl,rfl⟩;have c2:=h3.cells.at' 2 _ rfl;have f2:=h3.cells.free 2 (by omega);rw[show(um d).free.length=l.length+1 from HLen.out,HF.out]at c2
 have hrow:Row w' F fc (ints d.free):=by
  rcases h3.fw with⟨a,_⟩|⟨F',e,r,_⟩
  ·rw[HF.out]at a;cases a
  rw[HF.out]at e;obtain rfl:F=F':=congrArg Addr.block (bC e);exact r
 have cl:=hrow.at' l.length _ (Qk d.free l.length (by have:=HLen.out;omega));rw[HL.out,xwe]at cl;have hfc:l.length<fc:=by have:=hrow.le;rw[dx,HLen.out]at this;omega
 have h4:=h3.CB (l:=l) (p:=p) HL.out HF.out;have m4:=m3.trans (Moves.bX ((Only.refl D w').set 2 (.slice fo l.length fc)) h.oD);rw[HF.out]at h4 m4;have hpl:p<d.gu.length:=by omega
 have c3:=h4.cells.at' 3 _ rfl;have fp:=h4.flags.free p (by have:=h4.flags.le;rw[JO]at this;exact bS hpl this);have cp:=h4.flags.at' p _ (I8 d.gu p hpl);have h5:=h4.vO p false hpl;have m5:=m4.trans (Moves.bX ((Only.refl I _).set p (.bool false)) h.oI);have f5:Fit {um d with free:=l,gu:=d.gu.set p false} aj:=⟨f.len,by rw[bB];exact f.flags,f.one,f.few,f.ax,λ k hk=>f.free k (by rw[HL.out];exact bR _ hk),by show l.length<=aj;have:=HLen.out;omega,f.rl,qi,f.reads,by show 0<=d.puts+1/\_;exact⟨by omega,zF.out⟩⟩;have d5:Dat W _ own D B bc F fc I ic y {um d with free:=l,gu:=d.gu.set p false} aj:=⟨h5,f5,m5⟩;have hrow':=zH hrow;clear h4 m4 h5 m5 hrow;have hp1:=JU.1;have hp2:=JU.2;clear JU
 go_wp2_with fail
 refine(JS d5 p [] (by omega) (by decide)).mono ?_;rintro e w6 ⟨rfl,y6,d6⟩;go_wp2;go_ret2;exact⟨rfl,⟨B,bc,_,fc,I,ic,y6,d6.at_⟩,d6.moves⟩
end
section
variable{W W':World}{own:Nat->Prop}{D B bc fc I ic aj:Nat}{fo:Option Addr}{y:List UInt8}{d:Dk}
theorem aN.Ep(h:aN W own D B bc fo fc I ic y d){g:Nat}(h4:own g\/W.heap.size<=g):0 ≠g:=λ e=>by
 have:=h.tab.lt;rcases h4 with h4|h4
 ·exact h.gX (e▸h4)
 omega
theorem aN.CE(h:aN W own D B bc fo fc I ic y d){B' bc':Nat}{y' x':List UInt8}(hb:aO W' B' y')(hyl:y'.length=bc')(hle:x'.length<=bc')(hp:y'.take x'.length=x')(ho:Only B' W W')(hB:B'=B\/W.heap.size<=B') :
  aN (W'.setCell D (.slice B' x'.length bc')) (also own B') D B' bc' fo fc I ic y' {d with x:=x'}:=by
 have l1:=h.cells.lt;have l2:=h.bytes.lt;have l3:=h.flags.lt
 have h1:B'≠D:=by
  rcases hB with rfl|hB
  ·exact h.DB.symm
  omega
 have h3:B'≠I:=by
  rcases hB with rfl|hB
  ·exact h.BI
  omega
 have h4:own B'\/W.heap.size<=B':=by
  rcases hB with rfl|hB
  ·exact .inl h.oB
  exact .inr hB
 have hc:=(h.cells.only ho h1.symm).set 0 (.slice B' x'.length bc') (by show 0<8;omega);have o2:=(Only.refl D W').set 0 (.slice B' x'.length bc');have hnt:=h.Ep h4;refine⟨hc,o2.bytes hb h1,hyl,hle,hp,?_,(h.flags.only ho h3.symm).only o2 h.DI.symm,h1.symm,h.DI,h3,.inl h.oD,.inr rfl,.inl h.oI,UK.xS (UK.xS h.tab ho hnt) o2 h.JQ,λ hh=>?_⟩
 ·rcases h.fw with h0|⟨F,e,r,n1,n2,n3,n4⟩
  ·exact .inl h0
  have hF:F≠B':=by
   have:=r.lt;rcases hB with rfl|hB
   ·exact n2
   omega
  exact .inr ⟨F,e,(r.only ho hF).only o2 n1,n1,hF,n3,.inl n4⟩
 rcases hh with hh|hh
 ·exact h.gX hh
 exact hnt hh
theorem aN.CF(h:aN W own D B bc fo fc I ic y d){I' CG:Nat}{l:List Bool}(hr:Row W' I' CG (zx l))(ho:Only I' W W')(hI:I'=I\/W.heap.size<=I') :
  aN (W'.setCell (D,3) (.slice I' l.length CG)) (also own I') D B bc fo fc I' CG y {d with gu:=l}:=by
 have l1:=h.cells.lt;have l2:=h.bytes.lt;have l3:=h.flags.lt
 have h1:I'≠D:=by
  rcases hI with rfl|hI
  ·exact h.DI.symm
  omega
 have h3:I'≠B:=by
  rcases hI with rfl|hI
  ·exact h.BI.symm
  omega
 have h4:own I'\/W.heap.size<=I':=by
  rcases hI with rfl|hI
  ·exact .inl h.oI
  exact .inr hI
 have hc:=(h.cells.only ho h1.symm).set 3 (.slice I' l.length CG) (by show 3<8;omega);have o2:=(Only.refl D W').set 3 (.slice I' l.length CG);have hnt:=h.Ep h4;refine⟨hc,o2.bytes (ho.bytes h.bytes h3.symm) h.DB.symm,h.lJ,h.le,h.pre,?_,hr.only o2 h1,h.DB,h1.symm,h3.symm,.inl h.oD,.inl h.oB,.inr rfl,UK.xS (UK.xS h.tab ho hnt) o2 h.JQ,λ hh=>?_⟩
 ·rcases h.fw with h0|⟨F,e,r,n1,n2,n3,n4⟩
  ·exact .inl h0
  have hF:F≠I':=by
   have:=r.lt;rcases hI with rfl|hI
   ·exact n3
   omega
  exact .inr ⟨F,e,(r.only ho hF).only o2 n1,n1,n2,hF,.inl n4⟩
 rcases hh with hh|hh
 ·exact h.gX hh
 exact hnt hh
theorem xsx(h:aN W own D B bc fo fc I ic y d)(hl:d.x.length<=40000000) :
  ∃B' bc' y' W',(Builtin.append_ #[88,3] 88 #[.slice B d.x.length bc,.int .i64 512]).run Tryz.prog W= .ok (.slice (some ⟨B',0,none⟩) (d.x.length+512) bc') W'/\aO W' B' y'/\y'.length=bc'/\d.x.length+512<=bc'/\y'.take (d.x.length+512)=d.x++UK.bW 512/\Only B' W W'/\(B'=B\/W.heap.size<=B'):=by
 obtain⟨B',bc',y',W',e,b,c,g,k,o⟩:=UK.xsb (P:=Tryz.prog) (t:=88) (tn:=3) (ty:=88) (k:=.i64) (kn:=.i64) Tryz.underlying88 Tryz.underlying3 (i:=Tryz.t5) rfl rfl rfl rfl h.bytes h.lJ h.le h.pre 512 (by omega) (by omega);refine⟨B',bc',y',W',e,b,c,g,k,?_⟩;rcases o with⟨a,o⟩|⟨a,o⟩
 ·exact⟨a▸o,.inl a⟩
 exact⟨Only.of_below o,.inr (by omega)⟩
theorem xsy(h:aN W own D B bc fo fc I ic y d)(b:Bool)(hl:d.gu.length<=60000) :
  ∃g' c' W',(Builtin.append_ #[89,89] 89 #[.slice I d.gu.length ic,.slice W 1 1]).run Tryz.prog (W.alloc (.cells #[.bool b] 4))= .ok (.slice (some ⟨g',0,none⟩) (d.gu.length+1) c') W'/\Row W' g' c' (zx (d.gu++[b]))/\Only g' W W'/\(g'=I\/W.heap.size<=g'):=by
 obtain⟨g',c',W',e,r,o,hg⟩:=UK.I9 (P:=Tryz.prog) (t:=89) (ty:=89) Tryz.underlying89 (i:=Tryz.t4) rfl rfl rfl (show(1:Nat)<=16 by omega) rfl (.inr ⟨I,rfl,h.flags⟩) (.bool b) rfl (by rw[JO];omega);rw[JO]at e;refine⟨g',c',W',e,by unfold zx at *;rw[jr];exact r,o,?_⟩;rcases hg with hg|hg
 ·exact .inl (congrArg Addr.block (bC hg)).symm
 exact .inr hg
def takeN(d:Dk)(aj:Nat):Dk:={d with wl:=iQ d.wl,puts:=d.puts+1,x:=UK.wr (d.x++UK.bW 512) (512*aj) (jm aj []),gu:=d.gu++[false]}
theorem xwf(h:aN W own D B bc fo fc I ic y d)(f:Fit d aj)(hq3:d.puts+1<1000000000)(hl:d.free=[])(hm:(aj:Int)<d.ax)(h0:d.wl≠0) :
  Calls Tryz.prog 89 #[.pointer D] W λ e w'=>e= .returned (.tuple #[.int .i64 aj,.int .i64 0])/\∃own',jo w' own' D (takeN d aj)/\Moves own own' W w':=by
 have hc:=JP h f;have aJ:d.free.length=0:=by rw[hl];rfl
 obtain⟨r,HR⟩:∃r,Hid (d.ax-aj+d.free.length=r):=⟨_,rfl⟩;have hr:0<r:=by have:=HR.out;omega
 rw[HR.out]at hc;have HE:Hid (jf d.wl=0):=by show _=_;unfold jf;rw[if_neg h0]
 have zF:=zH hq3;have hq1:=f.puts.1;have hq2:=f.puts.2;have qi:=zD d.wl f.wl;have fD:=f.few;have hm2:=f.ax.2.1;have Wo:aj<60000:=by omega
 have NI:=zH f.flags;have JV:=zH f.len;have HL:=zH hl;have HLen:=zH aJ;have HM:=zH hm;clear h0 hq3 hl aJ hm hm2
 go_enter Tryz.func89,Tryz.ntmps89
 go_wp2_with fail
 refine hc.mono ?_;rintro e w' ⟨rfl,q,rfl⟩;have h1:=h.drewN q;have m1:=Moves.of_below (o:=own) (UK.aG (aP W W) q);generalize W.drewN q=w1 at h1 m1 ⊢;have dA:=BH h1.cells 5 d.wl rfl f.wl;rw[HE.out]at dA
 go_wp2_with fail
 refine dA.mono ?_;rintro e w2 ⟨rfl,r1,o1⟩;have h2:=h1.gY (d':={d with wl:=iQ d.wl}) r1 o1 rfl rfl rfl;have c7:=h2.cells.at' 7 _ rfl;have f7:=h2.cells.free 7 (by omega);have r3:=h2.cells.set 7 (.int .i64 (d.puts+1)) (by show 7<8;omega);have o3:=(Only.refl D w2).set 7 (.int .i64 (d.puts+1));have h3:=h2.gY (d':=um d) r3 o3 rfl rfl rfl;have m3:=(m1.trans (Moves.bX o1 h.oD)).trans (Moves.bX o3 h.oD);have f3:Fit (um d) aj:=⟨f.len,f.flags,f.one,f.few,f.ax,f.free,f.eO,f.rl,qi,f.reads,by show 0<=d.puts+1/\_;exact⟨by omega,zF.out⟩⟩
 go_wp2_with fail
 generalize w2.setCell (D,7) (.int .i64 (d.puts+1))=w3 at h3 m3 ⊢;clear h2 c7 f7 r3 o3 r1 o1 dA hc m1 h1;refine(I7 h3 f3).mono ?_;rintro e w' ⟨rfl,rfl⟩;have c2:=h3.cells.at' 2 _ rfl;rw[show(um d).free.length=0 from HLen.out]at c2;have c0:=h3.cells.at' 0 _ rfl;rw[show(um d).x.length=512*aj from JV.out]at c0;obtain⟨B',bc',y',w4,e4,b4,l4,k4,p4,o4,n4⟩:=xsx h3 (by show d.x.length<=_;rw[JV.out];omega);have hx2:(d.x++UK.bW 512).length=512*aj+512:=by rw[zl,UK.lI,JV.out]
 have e4':=e4;rw[show(um d).x.length=512*aj from JV.out]at e4' k4 p4;have h5:=h3.CE (x':=d.x++UK.bW 512) b4 l4 (by omega) (by rw[hx2];exact p4) o4 n4;rw[hx2]at h5;have hB1:B'≠D:=h5.DB.symm
 have hB2:own B'\/w'.heap.size<=B':=by
  rcases n4 with rfl|n4
  ·exact .inl h.oB
  exact .inr n4
 have f0:=(h3.cells.only o4 hB1.symm).free 0 (by omega);have c0':=(h3.cells.only o4 hB1.symm).at' 0 _ rfl;have m5:=(m3.trans (Moves.sG o4 hB2)).trans (Moves.bX ((Only.refl D w4).set 0 (.slice B' (512*aj+512) bc')) (show also own B' D from .inl h.oD));have c3:=h5.cells.at' 3 _ rfl;rw[show(um d).gu.length=aj from NI.out]at c3;obtain⟨I',CG,w6,e6,r6,o6,n6⟩:=xsy h5 false (by show d.gu.length<=_;rw[NI.out];omega);have hi2:(d.gu++[false]).length=aj+1:=by rw[zl,NI.out];rfl
 have h7:=h5.CF (l:=d.gu++[false]) r6 o6 n6;rw[hi2]at h7;have hI1:I'≠D:=h7.DI.symm
 have hI2:also own B' I'\/(w4.setCell D (.slice B' (512*aj+512) bc')).heap.size<=I':=by
  rcases n6 with rfl|n6
  ·exact .inl (.inl h.oI)
  exact .inr n6
 have f3':=(h5.cells.only o6 hI1.symm).free 3 (by omega);have c3':=(h5.cells.only o6 hI1.symm).at' 3 _ rfl;have m7:=(m5.trans (Moves.sG o6 hI2)).trans (Moves.bX ((Only.refl D w6).set 3 (.slice I' (aj+1) CG)) (show also (also own B') I' D from .inl (.inl h.oD)));rw[show({um d with x:=d.x++UK.bW 512}:Dk).gu.length=aj from NI.out]at e6;rw[show(w4.setCell D (.slice B' (512*aj+512) bc')).heap.size=w4.heap.size by simp]at e6
 have f7:Fit {um d with x:=d.x++UK.bW 512,gu:=d.gu++[false]} (aj+1):=⟨by rw[hx2];omega,hi2,by omega,by omega,⟨f.ax.1,f.ax.2.1,by show((aj+1:Nat):Int)<=d.ax;have:=HM.out;omega⟩,(λ k hk=>by
   have hk':k∈d.free:=hk;rw[HL.out]at hk'
   cases hk'),by show d.free.length<=_;rw[HL.out];exact bY _,f.rl,qi,f.reads,by show 0<=d.puts+1/\_;exact⟨by omega,zF.out⟩⟩
 have d7:Dat _ _ (also (also own B') I') D B' bc' fo fc I' CG y' {um d with x:=d.x++UK.bW 512,gu:=d.gu++[false]} (aj+1):=⟨h7,f7,Moves.of_below (aP _ _)⟩;clear h5 m5 h7 e4 hx2 hi2
 go_wp2_with (first|(at_builtin;refine UK.pV e4' rfl rfl rfl rfl rfl ?_)|(at_builtin;refine UK.pV e6 rfl rfl rfl rfl rfl ?_))
 refine(JS d7 aj [] (by omega) (by decide)).mono ?_;rintro e w8 ⟨rfl,y8,d8⟩;go_wp2;go_ret2;exact⟨rfl,_,⟨B',bc',_,fc,I',CG,y8,d8.at_⟩,m7.trans d8.moves⟩
end
section
variable{W W':World}{own:Nat->Prop}{D B bc fc I ic aj:Nat}{fo:Option Addr}{y:List UInt8}{d:Dk}
theorem xsz(h:aN W own D B bc fo fc I ic y d)(f:Fit d aj)(p:Int)(hh:bn d aj p=true)(s:List UInt8)(hs:s.length≠504) :
  Calls Tryz.prog 76 #[.pointer D,.int .i64 p,.string (str s)] W λ e w'=>e= .returned (.int .i64 1)/\jo w' own D d/\Moves own own W w':=by
 have hc:=zy h f p;rw[hh]at hc;have hs2:(((s.length:Nat):Int)==504)=false:=beq_eq_false_iff_ne.2 (by omega)
 go_enter Tryz.func76,Tryz.ntmps76
 go_wp2_with fail
 refine hc.mono ?_;rintro e w' ⟨rfl,q,rfl⟩;go_wp2;go_ret;exact⟨rfl,⟨B,bc,fo,fc,I,ic,y,h.drewN q⟩,Moves.of_below (UK.aG (aP _ _) q)⟩
end
structure Kept(S:Nat->Prop)(W W':World):Prop where
 os:W'.os=W.os
 tape:W'.tape=W.tape
 output:W'.output=W.output
 size:W.heap.size<=W'.heap.size
 block:∀k,S k->W'.heap[k]?=W.heap[k]?
namespace Kept
variable{S T:Nat->Prop}{A B C:World}
theorem refl(S:Nat->Prop)(A:World):Kept S A A:=⟨rfl,rfl,rfl,aZ _,λ _ _=>rfl⟩
theorem trans(h:Kept S A B)(k:Kept S B C):Kept S A C:=⟨k.os.trans h.os,k.tape.trans h.tape,k.output.trans h.output,bf h.size k.size,λ i hi=>(k.block i hi).trans (h.block i hi)⟩
theorem mono(h:Kept S A B)(hS:∀k,T k->S k):Kept T A B:=⟨h.os,h.tape,h.output,h.size,λ i hi=>h.block i (hS i hi)⟩
theorem of_below{n:Nat}(h:Below n A B)(hS:∀k,S k->k<n):Kept S A B:=⟨h.os,h.tape,h.output,h.size,λ i hi=>h.block i (hS i hi)⟩
theorem bX{g:Nat}(h:Only g A B)(hS:∀k,S k->k<A.heap.size/\k≠g):Kept S A B:=⟨h.os,h.tape,h.output,h.size,λ i hi=>h.block i (hS i hi).1 (hS i hi).2⟩
theorem below{n:Nat}(h:Kept S A B)(hS:∀k,k<n->S k):Below n A B:=⟨h.os,h.tape,h.output,h.size,λ i hi=>h.block i (hS i hi)⟩
theorem row{g c:Nat}{vs:List Value}(h:Kept S A B)(r:Row A g c vs)(hg:S g):Row B g c vs:=r.af h.size (h.block g hg)
end Kept
def DD(S:Nat->Prop)(W:World)(D:Nat)(d:Dk)(aj:Nat):Prop:=(∃own,(∀k,own k->¬S k)/\jo W own D d)/\Fit d aj/\∀k,S k->k<W.heap.size
section
variable{S:Nat->Prop}{W W':World}{D aj:Nat}{d:Dk}
theorem DD.fit(h:DD S W D d aj):Fit d aj:=h.2.1
theorem DD.there(h:DD S W D d aj):∀k,S k->k<W.heap.size:=h.2.2
theorem DD.lt(h:DD S W D d aj):D<W.heap.size:=by
 obtain⟨⟨own,ho,B,bc,fo,fc,I,ic,y,h⟩,f⟩:=h;exact h.cells.lt
theorem DD.tab(h:DD S W D d aj):jG W:=by
 obtain⟨⟨own,ho,B,bc,fo,fc,I,ic,y,h⟩,f⟩:=h;exact h.tab
theorem DD.Qp{f:Nat}{args:Array Value}{r:Value}{d':Dk}{cnt':Nat}(h:DD S W D d aj)
  (hc:∀own B bc fo fc I ic y,aN W own D B bc fo fc I ic y d->Calls Tryz.prog f args W λ e w'=>e= .returned r/\∃own',jo w' own' D d'/\Moves own own' W w') (hf:Fit d aj->Fit d' cnt') :
  Calls Tryz.prog f args W λ e w'=>e= .returned r/\DD S w' D d' cnt'/\Kept S W w':=by
 obtain⟨⟨own,ho,B,bc,fo,fc,I,ic,y,hd⟩,ft,hS⟩:=h;refine(hc own B bc fo fc I ic y hd).mono ?_;rintro e w' ⟨rfl,own',hd',m⟩
 exact⟨rfl,⟨⟨own',λ k hk hs=>by
  rcases m.owns k hk with h1|h1
  ·exact ho k h1 hs
  have:=hS k hs;omega,hd'⟩,hf ft,λ k hk=>bS (hS k hk) m.size⟩,⟨m.os,m.tape,m.output,m.size,λ k hk=>m.block k (hS k hk) (λ h=>ho k h hk)⟩⟩
theorem DD.jI{f:Nat}{args:Array Value}{r:Value}{d':Dk}{cnt':Nat}(h:DD S W D d aj)
  (hc:∀own B bc fo fc I ic y,aN W own D B bc fo fc I ic y d->Calls Tryz.prog f args W λ e w'=>e= .returned r/\jo w' own D d'/\Moves own own W w') (hf:Fit d aj->Fit d' cnt') :
  Calls Tryz.prog f args W λ e w'=>e= .returned r/\DD S w' D d' cnt'/\Kept S W w':=
 h.Qp (λ own B bc fo fc I ic y hd=>(hc own B bc fo fc I ic y hd).mono λ _ _ ⟨a,b,c⟩=>⟨a,own,b,c⟩) hf
theorem DD.below(h:DD S W D d aj)(hb:Below W W W'):DD S W' D d aj:=by
 obtain⟨⟨own,ho,B,bc,fo,fc,I,ic,y,hd⟩,ft,hS⟩:=h;exact⟨⟨own,ho,B,bc,fo,fc,I,ic,y,hd.below hb⟩,ft,λ k hk=>bS (hS k hk) hb.size⟩
theorem DD.drewN(h:DD S W D d aj)(q:Nat):DD S (W.drewN q) D d aj:=h.below (UK.aG (aP _ _) q)
theorem DD.less{T:Nat->Prop}(h:DD S W D d aj)(hT:∀k,T k->S k):DD T W D d aj:=by
 obtain⟨⟨own,ho,hd⟩,ft,hS⟩:=h;exact⟨⟨own,λ k hk ht=>ho k hk (hT k ht),hd⟩,ft,λ k hk=>hS k (hT k hk)⟩
theorem aN.only{own:Nat->Prop}{B bc fc I ic:Nat}{fo:Option Addr}{y:List UInt8}{g:Nat}(h:aN W own D B bc fo fc I ic y d)(ho:Only g W W')(hg:¬own g)(hn:0 ≠g):aN W' own D B bc fo fc I ic y d:=by
 have e:∀k,own k->k≠g:=λ k hk he=>hg (he▸hk);refine⟨h.cells.only ho (e _ h.oD),ho.bytes h.bytes (e _ h.oB),h.lJ,h.le,h.pre,?_,h.flags.only ho (e _ h.oI),h.DB,h.DI,h.BI,h.oD,h.oB,h.oI,UK.xS h.tab ho hn,h.gX⟩;rcases h.fw with h0|⟨F,e1,r,n1,n2,n3,n4⟩
 ·exact .inl h0
 exact .inr ⟨F,e1,r.only ho (e _ n4),n1,n2,n3,n4⟩
theorem aN.tight{own:Nat->Prop}{B bc fc I ic:Nat}{fo:Option Addr}{y:List UInt8}(h:aN W own D B bc fo fc I ic y d):aN W (λ k=>own k/\k<W.heap.size) D B bc fo fc I ic y d:=by
 refine⟨h.cells,h.bytes,h.lJ,h.le,h.pre,?_,h.flags,h.DB,h.DI,h.BI,⟨h.oD,h.cells.lt⟩,⟨h.oB,h.bytes.lt⟩,⟨h.oI,h.flags.lt⟩,h.tab,λ hh=>h.gX hh.1⟩;rcases h.fw with h0|⟨F,e1,r,n1,n2,n3,n4⟩
 ·exact .inl h0
 exact .inr ⟨F,e1,r,n1,n2,n3,n4,r.lt⟩
theorem DD.push{g:Nat}(h:DD S W D d aj)(ho:Only g W W')(hg:S g\/W.heap.size<=g)(hlt:g<W'.heap.size)(hn:0 ≠g):DD (also S g) W' D d aj:=by
 obtain⟨⟨own,hown,B,bc,fo,fc,I,ic,y,hd⟩,ft,hS⟩:=h
 have CJ:¬(own g/\g<W.heap.size):=λ hh=>by
  rcases hg with hg|hg
  ·exact hown g hh.1 hg
  omega
 refine⟨⟨λ k=>own k/\k<W.heap.size,λ k hk hs=>?_,B,bc,fo,fc,I,ic,y,hd.tight.only ho CJ hn⟩,ft,λ k hk=>?_⟩
 ·rcases hs with hs|rfl
  ·exact hown k hk.1 hs
  exact CJ hk
 rcases hk with hk|rfl
 ·exact bS (hS k hk) ho.size
 exact hlt
theorem JX(x:List UInt8)(p:Nat)(s:List UInt8)(hs:s.length<=504)(h:512*(p+1)<=x.length):(UK.wr x (512*p) (jm p s)).length=x.length:=
 UK.lm _ _ _ (by rw[zB p s hs];omega)
theorem JY(f:Fit d aj)(h3:d.puts+1<1000000000):0<=d.puts+1/\d.puts+1<1000000000:=by have:=f.puts;omega
theorem xqn(f:Fit d aj)(h3:d.reads+1<1000000000):0<=d.reads+1/\d.reads+1<1000000000:=by have:=f.reads;omega
theorem Qq(f:Fit d aj)(h3:d.puts+1<1000000000)(p:Nat)(hp:p<aj)(s:List UInt8)(hs:s.length<=504):Fit (xV d p s) aj:=
 ⟨(JX d.x p s hs (by rw[f.len];omega)).trans f.len,f.flags,f.one,f.few,f.ax,f.free,f.eO,f.rl,zD _ f.wl,f.reads,JY f h3⟩
theorem JZ(f:Fit d aj)(h3:d.puts+1<1000000000):Fit (jq d aj) aj:=by
 unfold jq
 split
 ·exact⟨f.len,f.flags,f.one,f.few,f.ax,f.free,f.eO,f.rl,(by show(-1:Int)<= -1/\(-1:Int)<=_;omega),f.reads,f.puts⟩
 have:=JX d.x 0 (zC d aj) (by rw[NG];decide) (by rw[f.len];have:=f.one;omega);exact⟨this.trans f.len,f.flags,f.one,f.few,f.ax,f.free,f.eO,f.rl,zD _ f.wl,f.reads,JY f h3⟩
theorem Qr(f:Fit d aj)(k:Int)(hk: -1<=k/\k<=9223372036854775807):Fit {d with rl:=k} aj:=⟨f.len,f.flags,f.one,f.few,f.ax,f.free,f.eO,hk,f.wl,f.reads,f.puts⟩
theorem FN(f:Fit d aj)(k:Int)(hk: -1<=k/\k<=9223372036854775807):Fit {d with wl:=k} aj:=⟨f.len,f.flags,f.one,f.few,f.ax,f.free,f.eO,f.rl,hk,f.reads,f.puts⟩
theorem Qs(f:Fit d aj)(h3:d.reads+1<1000000000):Fit {d with rl:=iQ d.rl,reads:=d.reads+1} aj:=⟨f.len,f.flags,f.one,f.few,f.ax,f.free,f.eO,zD _ f.rl,f.wl,xqn f h3,f.puts⟩
theorem Qt(f:Fit d aj)(h3:d.puts+1<1000000000)(p:Nat)(h1:1<=p)(hp:p<aj)(hl:d.free.length<aj):Fit (ul d p) aj:=
 ⟨(JX d.x p (oZ d d.free.length) (by rw[iD];decide) (by rw[f.len];omega)).trans f.len,by show(d.gu.set p true).length=aj;rw[bB];exact f.flags,f.one,f.few,f.ax,λ k hk=>by
   rcases cB.1 hk with hk|hk
   ·exact f.free k hk
   rw[bQ.1 hk];exact⟨h1,hp⟩,by show(d.free++[p]).length<=aj;rw[zl];exact hl,f.rl,zD _ f.wl,f.reads,JY f h3⟩
theorem Qu(f:Fit d aj)(h3:d.puts+1<1000000000)(l:List Nat)(p:Nat)(hl:d.free=l++[p]):Fit (gP d l p) aj:=by
 have hp:=f.free p (by rw[hl];exact fE _ (bQ.2 rfl));have hll:l.length+1<=aj:=by have:=f.eO;rw[hl,zl]at this;exact this
 exact⟨(JX d.x p [] (by decide) (by rw[f.len];omega)).trans f.len,by show(d.gu.set p false).length=aj;rw[bB];exact f.flags,f.one,f.few,f.ax,λ k hk=>f.free k (by rw[hl];exact bR _ hk),by show l.length<=aj;omega,f.rl,zD _ f.wl,f.reads,JY f h3⟩
theorem Qv(f:Fit d aj)(h3:d.puts+1<1000000000)(hl:d.free=[])(hm:(aj:Int)<d.ax):Fit (takeN d aj) (aj+1):=by
 have hx:(d.x++UK.bW 512).length=512*(aj+1):=by rw[zl,UK.lI,f.len];omega
 refine⟨(JX _ aj [] (by decide) (by rw[hx];omega)).trans hx,by show(d.gu++[false]).length=_;rw[zl,f.flags];rfl,by omega,?_,⟨f.ax.1,f.ax.2.1,by show((aj+1:Nat):Int)<=d.ax;omega⟩,λ k hk=>?_,?_,f.rl,zD _ f.wl,f.reads,JY f h3⟩
 ·have:=f.ax.2.1;omega
 ·have hk':k∈d.free:=hk;rw[hl]at hk';cases hk'
 show d.free.length<=_;rw[hl];exact bY _
theorem Wp(k:Int)(h:k<=9223372036854775807): -1<=zG k/\zG k<=9223372036854775807:=by unfold zG;omega
/- the calls -/
theorem ya1(W:World)(pages:Int)(ht:jG W)(S:Nat->Prop)(hS:∀k,S k->k<W.heap.size) :
  Calls Tryz.prog 21 #[.int .i64 pages] W λ e w'=>e= .returned (.pointer W)/\DD S w' W (lK pages) 1/\Below W W w':=
 (Wl W pages ht).mono λ _ _ ⟨a,b,c⟩=>⟨a,⟨⟨_,λ k hk hs=>by have:=hS k hs;omega,b⟩,JZ (Qn pages) (by show(0:Int)+1<_;omega),λ k hk=>bS (hS k hk) c.size⟩,c⟩
theorem xmi(h:DD S W D d aj)(hr:d.ax-aj+d.free.length=0) :
  Calls Tryz.prog 89 #[.pointer D] W λ e w'=>e= .returned (.tuple #[.int .i64 0,.int .i64 6])/\DD S w' D d aj/\Kept S W w':=
 h.jI (λ _ _ _ _ _ _ _ _ hd=>xsu hd h.fit hr) id
theorem xmj(h:DD S W D d aj)(hr:0<d.ax-aj+d.free.length)(h0:d.wl=0) :
  Calls Tryz.prog 89 #[.pointer D] W λ e w'=>e= .returned (.tuple #[.int .i64 0,.int .i64 7])/\DD S w' D {d with wl:= -1} aj/\Kept S W w':=
 h.jI (λ _ _ _ _ _ _ _ _ hd=>xsv hd h.fit hr h0) (λ f=>FN f (-1) (by omega))
theorem xmk(h:DD S W D d aj)(h3:d.puts+1<1000000000)(l:List Nat)(p:Nat)(hl:d.free=l++[p])(h0:d.wl≠0) :
  Calls Tryz.prog 89 #[.pointer D] W λ e w'=>e= .returned (.tuple #[.int .i64 p,.int .i64 0])/\DD S w' D (gP d l p) aj/\Kept S W w':=
 h.jI (λ _ _ _ _ _ _ _ _ hd=>xsw hd h.fit h3 l p hl h0) (λ f=>Qu f h3 l p hl)
theorem xnz(h:DD S W D d aj)(h3:d.puts+1<1000000000)(hl:d.free=[])(hm:(aj:Int)<d.ax)(h0:d.wl≠0) :
  Calls Tryz.prog 89 #[.pointer D] W λ e w'=>e= .returned (.tuple #[.int .i64 aj,.int .i64 0])/\DD S w' D (takeN d aj) (aj+1)/\Kept S W w':=
 h.Qp (λ _ _ _ _ _ _ _ _ hd=>xwf hd h.fit h3 hl hm h0) (λ f=>Qv f h3 hl hm)
theorem xqo(h:DD S W D d aj)(p:Int)(hh:bn d aj p=false) :
  Calls Tryz.prog 108 #[.pointer D,.int .i64 p] W λ e w'=>e= .returned (.int .i64 4)/\DD S w' D d aj/\Kept S W w':=
 h.jI (λ _ _ _ _ _ _ _ _ hd=>xzj hd h.fit p hh) id
theorem xml(h:DD S W D d aj)(p:Int)(hh:bn d aj p=true)(h0:d.wl=0) :
  Calls Tryz.prog 108 #[.pointer D,.int .i64 p] W λ e w'=>e= .returned (.int .i64 7)/\DD S w' D {d with wl:= -1} aj/\Kept S W w':=
 h.jI (λ _ _ _ _ _ _ _ _ hd=>xst hd h.fit p hh h0) (λ f=>FN f (-1) (by omega))
theorem BK{p:Nat}(hh:bn d aj p=true):1<=p/\p<aj/\d.gu.getD p false=false:=by
 unfold bn at hh;rw[Bool.and_eq_true,decide_eq_true_eq,Bool.not_eq_true',Int.toNat_natCast]at hh;exact⟨by omega,by omega,hh.2⟩
theorem xn0(h:DD S W D d aj)(h3:d.puts+1<1000000000)(p:Nat)(hh:bn d aj p=true)(hl:d.free.length<aj)(h0:d.wl≠0) :
  Calls Tryz.prog 108 #[.pointer D,.int .i64 p] W λ e w'=>e= .returned (.int .i64 0)/\DD S w' D (ul d p) aj/\Kept S W w':=
 h.Qp (λ _ _ _ _ _ _ _ _ hd=>xwd hd h.fit h3 p (BK hh).2.1 hh h0) (λ f=>Qt f h3 p (BK hh).1 (BK hh).2.1 hl)
theorem xqp(h:DD S W D d aj)(p:Int)(hh:bn d aj p=false) :
  Calls Tryz.prog 86 #[.pointer D,.int .i64 p] W λ e w'=>e= .returned (.tuple #[.string (str []),.int .i64 4])/\DD S w' D d aj/\Kept S W w':=
 h.jI (λ _ _ _ _ _ _ _ _ hd=>xzi hd h.fit p hh) id
theorem xmm(h:DD S W D d aj)(p:Int)(hh:bn d aj p=true)(h0:d.rl=0) :
  Calls Tryz.prog 86 #[.pointer D,.int .i64 p] W λ e w'=>e= .returned (.tuple #[.string (str []),.int .i64 7])/\DD S w' D {d with rl:= -1} aj/\Kept S W w':=
 h.jI (λ _ _ _ _ _ _ _ _ hd=>xsr hd h.fit p hh h0) (λ f=>Qr f (-1) (by omega))
def Er(d:Dk):Dk:={d with rl:=iQ d.rl,reads:=d.reads+1}
theorem xn1(h:DD S W D d aj)(h3:d.reads+1<1000000000)(p:Nat)(hh:bn d aj p=true)(h0:d.rl≠0) :
  Calls Tryz.prog 86 #[.pointer D,.int .i64 p] W λ e w'=>e= .returned (.tuple #[.string (str (jM d.x p)),.int .i64 (zI d.x p)])/\DD S w' D (Er d) aj/\Kept S W w':=
 h.jI (λ _ _ _ _ _ _ _ _ hd=>xwb hd h.fit p (BK hh).2.1 hh h0) (λ f=>Qs f h3)
theorem xn2(h:DD S W D d aj)(p:Int)(hh:bn d aj p=false)(s:List UInt8) :
  Calls Tryz.prog 76 #[.pointer D,.int .i64 p,.string (str s)] W λ e w'=>e= .returned (.int .i64 4)/\DD S w' D d aj/\Kept S W w':=
 h.jI (λ _ _ _ _ _ _ _ _ hd=>xwc hd h.fit p hh s) id
theorem xmo(h:DD S W D d aj)(p:Int)(hh:bn d aj p=true)(s:List UInt8)(hs:s.length≠504) :
  Calls Tryz.prog 76 #[.pointer D,.int .i64 p,.string (str s)] W λ e w'=>e= .returned (.int .i64 1)/\DD S w' D d aj/\Kept S W w':=
 h.jI (λ _ _ _ _ _ _ _ _ hd=>xsz hd h.fit p hh s hs) id
theorem xk8(h:DD S W D d aj)(p:Int)(hh:bn d aj p=true)(h0:d.wl=0)(s:List UInt8)(hs:s.length=504) :
  Calls Tryz.prog 76 #[.pointer D,.int .i64 p,.string (str s)] W λ e w'=>e= .returned (.int .i64 7)/\DD S w' D {d with wl:= -1} aj/\Kept S W w':=
 h.jI (λ _ _ _ _ _ _ _ _ hd=>xqm hd h.fit p hh h0 s hs) (λ f=>FN f (-1) (by omega))
theorem xmp(h:DD S W D d aj)(h3:d.puts+1<1000000000)(p:Nat)(hh:bn d aj p=true)(h0:d.wl≠0)(s:List UInt8)(hs:s.length=504) :
  Calls Tryz.prog 76 #[.pointer D,.int .i64 p,.string (str s)] W λ e w'=>e= .returned (.int .i64 0)/\DD S w' D (xV d p s) aj/\Kept S W w':=
 h.jI (λ _ _ _ _ _ _ _ _ hd=>xss hd h.fit h3 p (BK hh).2.1 hh h0 s hs) (λ f=>Qq f h3 p (BK hh).2.1 s (by omega))
theorem NJ(h:DD S W D d aj)(p:Int) :
  Calls Tryz.prog 83 #[.pointer D,.int .i64 p] W λ e w'=>e= .returned (.bool (bn d aj p))/\∃q,w'=W.drewN q:=by
 have f:=h.fit;obtain⟨⟨own,ho,B,bc,fo,fc,I,ic,y,hd⟩,ft⟩:=h;exact zy hd f p
end
open Go.RowKit
open UK (str aO nth Only w32 Row)
open Go.BigFrame
structure Sound(d:Dk)(aj:Nat):Prop where
 mark:∀p,p<aj->d.gu.getD p false=decide (p∈d.free)
 nodup:d.free.Nodup
theorem NL:∀(n:Nat) (l:List Nat),l.Nodup->(∀x,x∈l->x<n)->l.length<=n
 | 0,[],_,_=>aZ _
 | 0,x::_,_,h=>absurd (h x (gZ ..)) (qh _)
 | n+1,l,hn,h=>by
  by_cases hm:n∈l
  ·have h1:=NL n (l.erase n) (hn.erase n) (λ x hx=>by
    have h2:=h x (List.mem_of_mem_erase hx);have h3:x≠n:=λ e=>by subst e;exact hn.not_mem_erase hx
    omega)
   rw[List.length_erase_of_mem hm]at h1;omega
  have h1:=NL n l hn (λ x hx=>by
   have h2:=h x hx;have h3:x≠n:=λ e=>by subst e;exact hm hx
   omega)
  omega
section
variable{d:Dk}{aj:Nat}
theorem Sound.has(s:Sound d aj)(p:Nat):bn d aj p=decide (1<=p/\p<aj/\p∉d.free):=by
 unfold bn;rw[Int.toNat_natCast];by_cases h:1<=p/\p<aj
 ·rw[decide_eq_true (show(1:Int)<=(p:Int)/\(p:Int)<aj by omega),Bool.true_and,s.mark p h.2];by_cases hm:p∈d.free<;>simp[hm,h.1,h.2]
 rw[decide_eq_false (show ¬((1:Int)<=(p:Int)/\(p:Int)<aj) by omega),Bool.false_and];exact(decide_eq_false (λ h'=>h ⟨h'.1,h'.2.1⟩)).symm
theorem Sound.lN(s:Sound d aj)(p:Int):bn d aj p=decide (1<=p/\p<aj/\p.toNat∉d.free):=by
 by_cases h:1<=p
 ·obtain⟨k,rfl⟩:∃k:Nat,p=k:=⟨p.toNat,by omega⟩;rw[s.has k,Int.toNat_natCast];exact decide_eq_decide.2 ⟨λ ⟨a,b,c⟩=>⟨by omega,by omega,c⟩,λ ⟨a,b,c⟩=>⟨by omega,by omega,c⟩⟩
 unfold bn;rw[decide_eq_false (λ h'=>h h'.1),Bool.false_and];exact(decide_eq_false (λ h'=>h h'.1)).symm
theorem Sound.less(s:Sound d aj)(f:Fit d aj){p:Nat}(hp:p<aj)(hm:p∉d.free):d.free.length<aj:=by
 have:=NL aj (d.free++[p]) (bF.2 ⟨s.nodup,List.pairwise_singleton _ _,λ a ha b hb=>by
  rw[bQ.1 hb]
  intro e;subst e;exact hm ha⟩) (λ x hx=>by
   rcases cB.1 hx with hx|hx
   ·exact(f.free x hx).2
   rw[bQ.1 hx];exact hp)
 rw[zl]at this;exact this
theorem Sound.of_same{d':Dk}(s:Sound d aj)(h1:d'.free=d.free)(h2:d'.gu=d.gu):Sound d' aj:=⟨by rw[h1,h2];exact s.mark,by rw[h1];exact s.nodup⟩
theorem WN(l:List Bool)(i j:Nat)(b:Bool)(hi:i<l.length):(l.set i b).getD j false=if i=j then b else l.getD j false:=by
 rw[fK,fK,List.getElem?_set];by_cases h:i=j
 ·subst h;rw[if_pos rfl,if_pos rfl,if_pos hi];rfl
 rw[if_neg h,if_neg h]
theorem Sound.give(s:Sound d aj)(f:Fit d aj){p:Nat}(hp:p<aj)(hm:p∉d.free):Sound (ul d p) aj:=by
 refine⟨λ q hq=>?_,bF.2 ⟨s.nodup,List.pairwise_singleton _ _,λ a ha b hb=>by
  rw[bQ.1 hb];intro e;subst e;exact hm ha⟩⟩
 show(d.gu.set p true).getD q false=decide (q∈d.free++[p]);rw[WN _ _ _ _ (by rw[f.flags];exact hp)];by_cases h:p=q
 ·subst h;simp
 rw[if_neg h,s.mark q hq];simp[eU h]
theorem Sound.gP(s:Sound d aj)(f:Fit d aj){l:List Nat}{p:Nat}(hl:d.free=l++[p]):Sound (gP d l p) aj:=by
 have hn:=s.nodup;rw[hl]at hn;have hn2:=bF.1 hn;have hp:=f.free p (by rw[hl];exact fE _ (bQ.2 rfl));refine⟨λ q hq=>?_,hn2.1⟩;show(d.gu.set p false).getD q false=decide (q∈l);rw[WN _ _ _ _ (by rw[f.flags];exact hp.2)];by_cases h:p=q
 ·subst h;rw[if_pos rfl];exact(decide_eq_false (λ hm=>hn2.2.2 p hm p (bQ.2 rfl) rfl)).symm
 rw[if_neg h,s.mark q hq,hl];simp[eU h]
theorem Sound.takeN(s:Sound d aj)(f:Fit d aj)(hl:d.free=[]):Sound (takeN d aj) (aj+1):=by
 refine⟨λ q hq=>?_,s.nodup⟩;show(d.gu++[false]).getD q false=decide (q∈d.free);rw[hl,fK];by_cases h:q<aj
 ·rw[dM (by rw[f.flags];exact h),<-fK,s.mark q h,hl]
 have e:q=d.gu.length:=by rw[f.flags];omega
 rw[e,dF (aZ _),iF];simp
end
structure Still(d:Dk)(ax:Int)(free:List Nat)(puts:Int):Prop where
 ax:d.ax=ax
 free:d.free=free
 wl:d.wl= -1
 puts:d.puts=puts
theorem NQ{n:Int}(h:n= -1):iQ n= -1:=by rw[h];rfl
theorem NS(pages:Int):lK pages={xU pages with wl:= -1,puts:=1,x:=UK.wr (xU pages).x 0 (jm 0 (zC (xU pages) 1))}:=by
 unfold lK jq;rw[if_neg (show ¬(xU pages).wl=0 by show ¬(-1:Int)=0;omega)];rfl
theorem W9(pages:Int):(lK pages).rl= -1:=by rw[NS];rfl
theorem WA(pages:Int):(lK pages).reads=0:=by rw[NS];rfl
theorem Kc(pages:Int):Still (lK pages) (iE pages) [] 1:=by rw[NS];exact⟨rfl,rfl,rfl,rfl⟩
theorem xqy(pages:Int):Sound (lK pages) 1:=by
 rw[NS];refine⟨λ p hp=>?_,List.Pairwise.nil⟩;obtain rfl:p=0:=by omega
 rfl
section
variable{d:Dk}{ax:Int}{free:List Nat}{puts:Int}
theorem Still.takeN(s:Still d ax free puts)(aj:Nat):Still (takeN d aj) ax free (puts+1):=⟨s.ax,s.free,NQ s.wl,congrArg (·+1) s.puts⟩
theorem Still.gP(s:Still d ax free puts)(l:List Nat)(p:Nat):Still (gP d l p) ax l (puts+1):=⟨s.ax,rfl,NQ s.wl,congrArg (·+1) s.puts⟩
theorem Still.give(s:Still d ax free puts)(p:Nat):Still (ul d p) ax (free++[p]) (puts+1):=⟨s.ax,congrArg (·++[p]) s.free,NQ s.wl,congrArg (·+1) s.puts⟩
theorem Still.write(s:Still d ax free puts)(p:Nat)(t:List UInt8):Still (xV d p t) ax free (puts+1):=⟨s.ax,s.free,NQ s.wl,congrArg (·+1) s.puts⟩
theorem Still.ne(s:Still d ax free puts):d.wl≠0:=by rw[s.wl];omega
end
def BL(d:Dk)(aj:Nat)(p:Int)(s:List UInt8):Int:=if bn d aj p=false then 4 else if s.length≠504 then 1 else jf d.wl
def xY(d:Dk)(aj:Nat)(p:Int)(s:List UInt8):Dk:=if bn d aj p=false then d else if s.length≠504 then d else if d.wl=0 then {d with wl:= -1} else xV d p.toNat s
def IG(d:Dk)(aj:Nat)(p:Int):Int:=if bn d aj p=false then 4 else if d.rl=0 then 7 else zI d.x p.toNat
def II(d:Dk)(aj:Nat)(p:Int):List UInt8:=if bn d aj p=false then [] else if d.rl=0 then [] else jM d.x p.toNat
def Ew(d:Dk)(aj:Nat)(p:Int):Dk:=if bn d aj p=false then d else if d.rl=0 then {d with rl:= -1} else Er d
def IJ(d:Dk)(aj:Nat)(p:Int):Int:=if bn d aj p=false then 4 else jf d.wl
def Ex(d:Dk)(aj:Nat)(p:Int):Dk:=if bn d aj p=false then d else if d.wl=0 then {d with wl:= -1} else ul d p.toNat
structure Ok(d:Dk)(aj:Nat)(k:Nat):Prop where
 fit:Fit d aj
 so:Sound d aj
 puts:d.puts<=k+1
 reads:d.reads<=k
def tE(d:Dk)(aj:Nat):Int:=if d.ax<=aj/\d.free=[] then 6 else if d.wl=0 then 7 else 0
def tP(d:Dk)(aj:Nat):Nat:=if d.ax<=aj/\d.free=[] then 0 else if d.wl=0 then 0 else if d.free=[] then aj else d.free.getLastD 0
def tD(d:Dk)(aj:Nat):Dk:=if d.ax<=aj/\d.free=[] then d else if d.wl=0 then {d with wl:= -1} else if d.free=[] then takeN d aj else gP d d.free.dropLast (d.free.getLastD 0)
def tC(d:Dk)(aj:Nat):Nat:=if d.ax<=aj/\d.free=[] then aj else if d.wl=0 then aj else if d.free=[] then aj+1 else aj
theorem NT(d:Dk)(aj:Nat) :
  (d.ax<=aj/\d.free=[]/\tE d aj=6/\tP d aj=0/\tD d aj=d/\tC d aj=aj) \/
  (((aj:Int)<d.ax\/0<d.free.length)/\d.wl=0/\tE d aj=7/\tP d aj=0/\tD d aj={d with wl:= -1}/\tC d aj=aj) \/
  ((aj:Int)<d.ax/\d.wl≠0/\d.free=[]/\tE d aj=0/\tP d aj=aj/\tD d aj=takeN d aj/\tC d aj=aj+1) \/
  (d.wl≠0/\∃l p,d.free=l++[p]/\tE d aj=0/\tP d aj=p/\tD d aj=gP d l p/\tC d aj=aj):=by
 by_cases h1:d.ax<=aj/\d.free=[]
 ·exact .inl ⟨h1.1,h1.2,by unfold tE;rw[if_pos h1],by unfold tP;rw[if_pos h1],by unfold tD;rw[if_pos h1],by unfold tC;rw[if_pos h1]⟩
 have hor:(aj:Int)<d.ax\/0<d.free.length:=by
  by_cases hm:d.ax<=aj
  ·exact .inr (List.length_pos_iff.2 (λ e=>h1 ⟨hm,e⟩))
  exact .inl (by omega)
 by_cases h2:d.wl=0
 ·exact .inr (.inl ⟨hor,h2,by unfold tE;rw[if_neg h1,if_pos h2],by unfold tP;rw[if_neg h1,if_pos h2],by unfold tD;rw[if_neg h1,if_pos h2],by unfold tC;rw[if_neg h1,if_pos h2]⟩)
 by_cases h3:d.free=[]
 ·refine .inr (.inr (.inl ⟨?_,h2,h3,by unfold tE;rw[if_neg h1,if_neg h2],by unfold tP;rw[if_neg h1,if_neg h2,if_pos h3],by unfold tD;rw[if_neg h1,if_neg h2,if_pos h3],by unfold tC;rw[if_neg h1,if_neg h2,if_pos h3]⟩));rcases hor with h|h
  ·exact h
  rw[h3]at h;simp at h
 refine .inr (.inr (.inr ⟨h2,d.free.dropLast,d.free.getLastD 0,?_,by unfold tE;rw[if_neg h1,if_neg h2],by unfold tP;rw[if_neg h1,if_neg h2,if_neg h3],by unfold tD;rw[if_neg h1,if_neg h2,if_neg h3],by unfold tC;rw[if_neg h1,if_neg h2,if_neg h3]⟩));have:=List.dropLast_concat_getLast h3;rw[List.getLastD_eq_getLast?,List.getLast?_eq_some_getLast h3];exact this.symm
section
variable{S:Nat->Prop}{N k:Nat}{W w:World}{D aj gp cp fc:Nat}{fo:Option Addr}{d:Dk}
theorem Ok.take(h:Ok d aj k)(hk:k<900000000):Ok (tD d aj) (tC d aj) (k+1):=by
 have hp:=h.puts;have hr:=h.reads;have h3:d.puts+1<1000000000:=by omega
 rcases NT d aj with⟨_,_,_,_,e,c⟩|⟨_,_,_,_,e,c⟩|⟨hm,_,hf,_,_,e,c⟩|⟨_,l,p,hl,_,_,e,c⟩
 ·rw[e,c];exact⟨h.fit,h.so,by omega,by omega⟩
 ·rw[e,c];exact⟨FN h.fit (-1) (by omega),h.so.of_same rfl rfl,by show d.puts<=_;omega,by show d.reads<=_;omega⟩
 ·rw[e,c];exact⟨Qv h.fit h3 hf hm,h.so.takeN h.fit hf,by show d.puts+1<=_;omega,by show d.reads<=_;omega⟩
 rw[e,c];exact⟨Qu h.fit h3 l p hl,h.so.gP h.fit hl,by show d.puts+1<=_;omega,by show d.reads<=_;omega⟩
theorem WO(h:DD S W D d aj)(o:Ok d aj k)(hk:k<900000000) :
  Calls Tryz.prog 89 #[.pointer D] W λ e w'=>e= .returned (.tuple #[.int .i64 (tP d aj),.int .i64 (tE d aj)])/\DD S w' D (tD d aj) (tC d aj)/\Kept S W w':=by
 have hp:=o.puts;have h3:d.puts+1<1000000000:=by omega
 have C9:=o.fit.ax.2.2;rcases NT d aj with⟨hm,hf,a,b,e,c⟩|⟨hor,hz,a,b,e,c⟩|⟨hm,hz,hf,a,b,e,c⟩|⟨hz,l,p,hl,a,b,e,c⟩
 ·rw[a,b,e,c];exact xmi h (by rw[hf,List.length_nil];omega)
 ·rw[a,b,e,c];exact xmj h (by omega) hz
 ·rw[a,b,e,c];exact xnz h h3 hf hm hz
 rw[a,b,e,c];exact xmk h h3 l p hl hz
theorem FR{p:Int}(hh:¬bn d aj p=false):∃q:Nat,p=q/\bn d aj (q:Int)=true:=by
 have h1:bn d aj p=true:=by simpa using hh
 have h2:1<=p:=by unfold bn at h1;rw[Bool.and_eq_true,decide_eq_true_eq]at h1;omega
 exact⟨p.toNat,by omega,by rw[show((p.toNat:Nat):Int)=p by omega];exact h1⟩
theorem Ok.free(h:Ok d aj k){q:Nat}(hh:bn d aj (q:Int)=true):q<aj/\q∉d.free/\d.free.length<aj:=by
 rw[h.so.has q,decide_eq_true_eq]at hh;exact⟨hh.2.1,hh.2.2,h.so.less h.fit hh.2.1 hh.2.2⟩
theorem xs8(h:DD S W D d aj)(o:Ok d aj k)(hk:k<900000000)(p:Int) :
  Calls Tryz.prog 108 #[.pointer D,.int .i64 p] W λ e w'=>e= .returned (.int .i64 (IJ d aj p))/\DD S w' D (Ex d aj p) aj/\Kept S W w':=by
 have hp:=o.puts;unfold IJ Ex;by_cases hh:bn d aj p=false
 ·rw[if_pos hh,if_pos hh];exact xqo h p hh
 rw[if_neg hh,if_neg hh];obtain⟨q,rfl,hq⟩:=FR hh;by_cases hz:d.wl=0
 ·rw[if_pos hz,show jf d.wl=7 by unfold jf;rw[if_pos hz]];exact xml h q hq hz
 rw[if_neg hz,show jf d.wl=0 by unfold jf;rw[if_neg hz]];exact xn0 h (by omega) q hq (o.free hq).2.2 hz
theorem Ok.give(h:Ok d aj k)(hk:k<900000000)(p:Int):Ok (Ex d aj p) aj (k+1):=by
 have hp:=h.puts;have hr:=h.reads;unfold Ex;by_cases hh:bn d aj p=false
 ·rw[if_pos hh];exact⟨h.fit,h.so,by omega,by omega⟩
 rw[if_neg hh];obtain⟨q,rfl,hq⟩:=FR hh;by_cases hz:d.wl=0
 ·rw[if_pos hz];exact⟨FN h.fit (-1) (by omega),h.so.of_same rfl rfl,by show d.puts<=_;omega,by show d.reads<=_;omega⟩
 rw[if_neg hz];exact⟨Qt h.fit (by omega) q (BK hq).1 (BK hq).2.1 (h.free hq).2.2,h.so.give h.fit (h.free hq).1 (h.free hq).2.1,by show d.puts+1<=_;omega,by show d.reads<=_;omega⟩
theorem xs9(h:DD S W D d aj)(o:Ok d aj k)(hk:k<900000000)(p:Int) :
  Calls Tryz.prog 86 #[.pointer D,.int .i64 p] W λ e w'=>e= .returned (.tuple #[.string (str (II d aj p)),.int .i64 (IG d aj p)])/\DD S w' D (Ew d aj p) aj/\Kept S W w':=by
 have hr:=o.reads;unfold II IG Ew;by_cases hh:bn d aj p=false
 ·rw[if_pos hh,if_pos hh,if_pos hh];exact xqp h p hh
 rw[if_neg hh,if_neg hh,if_neg hh];obtain⟨q,rfl,hq⟩:=FR hh;by_cases hz:d.rl=0
 ·rw[if_pos hz,if_pos hz,if_pos hz];exact xmm h q hq hz
 rw[if_neg hz,if_neg hz,if_neg hz];exact xn1 h (by omega) q hq hz
theorem Ok.read(h:Ok d aj k)(hk:k<900000000)(p:Int):Ok (Ew d aj p) aj (k+1):=by
 have hp:=h.puts;have hr:=h.reads;unfold Ew;by_cases hh:bn d aj p=false
 ·rw[if_pos hh];exact⟨h.fit,h.so,by omega,by omega⟩
 rw[if_neg hh];by_cases hz:d.rl=0
 ·rw[if_pos hz];exact⟨Qr h.fit (-1) (by omega),h.so.of_same rfl rfl,by show d.puts<=_;omega,by show d.reads<=_;omega⟩
 rw[if_neg hz];exact⟨Qs h.fit (by omega),h.so.of_same rfl rfl,by show d.puts<=_;omega,by show d.reads+1<=_;omega⟩
theorem xqz(h:DD S W D d aj)(o:Ok d aj k)(hk:k<900000000)(p:Int)(s:List UInt8) :
  Calls Tryz.prog 76 #[.pointer D,.int .i64 p,.string (str s)] W λ e w'=>e= .returned (.int .i64 (BL d aj p s))/\DD S w' D (xY d aj p s) aj/\Kept S W w':=by
 have hp:=o.puts;unfold BL xY;by_cases hh:bn d aj p=false
 ·rw[if_pos hh,if_pos hh];exact xn2 h p hh s
 rw[if_neg hh,if_neg hh];obtain⟨q,rfl,hq⟩:=FR hh;by_cases hs:s.length≠504
 ·rw[if_pos hs,if_pos hs];exact xmo h q hq s hs
 rw[if_neg hs,if_neg hs];by_cases hz:d.wl=0
 ·rw[if_pos hz,show jf d.wl=7 by unfold jf;rw[if_pos hz]];exact xk8 h q hq hz s (by omega)
 rw[if_neg hz,show jf d.wl=0 by unfold jf;rw[if_neg hz]];exact xmp h (by omega) q hq hz s (by omega)
theorem Ok.write(h:Ok d aj k)(hk:k<900000000)(p:Int)(s:List UInt8):Ok (xY d aj p s) aj (k+1):=by
 have hp:=h.puts;have hr:=h.reads;unfold xY;by_cases hh:bn d aj p=false
 ·rw[if_pos hh];exact⟨h.fit,h.so,by omega,by omega⟩
 rw[if_neg hh];obtain⟨q,rfl,hq⟩:=FR hh;by_cases hs:s.length≠504
 ·rw[if_pos hs];exact⟨h.fit,h.so,by omega,by omega⟩
 rw[if_neg hs];by_cases hz:d.wl=0
 ·rw[if_pos hz];exact⟨FN h.fit (-1) (by omega),h.so.of_same rfl rfl,by show d.puts<=_;omega,by show d.reads<=_;omega⟩
 rw[if_neg hz];exact⟨Qq h.fit (by omega) q (BK hq).2.1 s (by omega),h.so.of_same rfl rfl,by show d.puts+1<=_;omega,by show d.reads<=_;omega⟩
theorem Ok.rl(h:Ok d aj k)(n:Int)(hn:n<=9223372036854775807):Ok {d with rl:=zG n} aj (k+1):=by
 have hp:=h.puts;have hr:=h.reads;exact⟨Qr h.fit _ (Wp n hn),h.so.of_same rfl rfl,by show d.puts<=_;omega,by show d.reads<=_;omega⟩
theorem Ok.wl(h:Ok d aj k)(n:Int)(hn:n<=9223372036854775807):Ok {d with wl:=zG n} aj (k+1):=by
 have hp:=h.puts;have hr:=h.reads;exact⟨FN h.fit _ (Wp n hn),h.so.of_same rfl rfl,by show d.puts<=_;omega,by show d.reads<=_;omega⟩
theorem Ok.more(h:Ok d aj k):Ok d aj (k+1):=⟨h.fit,h.so,by have:=h.puts;omega,by have:=h.reads;omega⟩
theorem Ok.new(n:Int):Ok (lK n) 1 0:=
 ⟨JZ (Qn n) (by show(0:Int)+1<_;omega),xqy n,by rw[(Kc n).puts];omega,by rw[WA];omega⟩
def sB(aj:Nat)(n:Int):Bool:=decide (0<=n/\n<512*(aj:Int))
end
open UK (nth w32)
def iG(x:List UInt8)(p:Nat):List UInt8:=(x.drop (512*p)).take 512
def NK(g:List UInt8)(p:Nat):Bool:=decide (fC (g.take 4)=iN 0 (g.drop 4))&&decide (((fC ((g.drop 4).take 4)).toNat:Int)=p)
theorem Qw{x:List UInt8}{p:Nat}(h:512*(p+1)<=x.length):(iG x p).length=512:=by
 unfold iG;rw[zt,zd];omega
theorem zN(x:List UInt8)(p:Nat):okB x p=NK (iG x p) p:=by
 unfold okB NK iG;rw[List.take_take,List.drop_take,List.take_take,List.drop_drop];rfl
theorem CK(x:List UInt8)(p:Nat):oV x p=(iG x p).drop 8:=by
 unfold oV iG;rw[List.drop_take,List.drop_drop]
theorem xwh(l:List UInt8)(n i:Nat)(h:i<n):nth (l.take n) i=nth l i:=by
 unfold nth;rw[fK,fK,iO h]
theorem xwi(l:List UInt8)(n i:Nat):nth (l.drop n) i=nth l (n+i):=by
 unfold nth;rw[fK,fK,iC]
theorem xzl{l m:List UInt8}(hl:l.length=m.length)(h:∀i,i<l.length->nth l i=nth m i):l=m:=by
 refine List.ext_getElem? (λ i=>?_);by_cases hi:i<l.length
 ·have:=h i hi;unfold nth at this;rw[fK,fK,di hi,di (by omega)]at this;rw[di hi,di (by omega)];exact congrArg some this
 rw[ny (by omega),ny (by omega)]
theorem ya2(x:List UInt8)(a:Nat)(s:List UInt8)(i:Nat)(h:a+s.length<=x.length):nth (UK.wr x a s) i=if a<=i/\i<a+s.length then nth s (i-a) else nth x i:=by
 unfold UK.wr nth;have h1:(x.take a).length=a:=by rw[zt];omega
 rw[fK,fK,fK,List.getElem?_append,List.getElem?_append,h1,iC];by_cases h2:i<a
 ·rw[if_pos h2,if_neg (by omega),iO h2]
 rw[if_neg h2];by_cases h3:i-a<s.length
 ·rw[if_pos h3,if_pos (by omega)]
 rw[if_neg h3,if_neg (by omega),show a+s.length+(i-a-s.length)=i by omega]
theorem Wq(x:List UInt8)(p i:Nat)(h:i<512):nth (iG x p) i=nth x (512*p+i):=by
 unfold iG;rw[xwh _ _ _ h,xwi]
theorem Es(x:List UInt8)(p q:Nat)(s:List UInt8)(hs:s.length=512)(h:512*(p+1)<=x.length)(hq:512*(q+1)<=x.length):iG (UK.wr x (512*p) s) q=if p=q then s else iG x q:=by
 have hw:=UK.lm x (512*p) s (by omega);refine xzl ?_ (λ i hi=>?_)
 ·rw[Qw (by omega)]
  split
  ·exact hs.symm
  exact(Qw hq).symm
 rw[Qw (by omega)]at hi;rw[Wq _ _ _ hi,ya2 _ _ _ _ (by omega)];by_cases e:p=q
 ·subst e;rw[if_pos (by omega),if_pos rfl,show 512*p+i-512*p=i by omega]
 rw[if_neg (by omega),if_neg e,Wq _ _ _ hi]
theorem xwj(p:Nat)(s:List UInt8)(hs:s.length=504):jm p s=aW (iN 0 (aW (w32 p)++s))++(aW (w32 p)++s):=by
 unfold jm qZ;rw[show 504-s.length=0 by omega];show aW (iN 0 (aW (w32 p)++(s++[])))++(aW (w32 p)++(s++[]))=_;rw[jw]
theorem Ws(c:UInt32)(l:List UInt8):(aW c++l).take 4=aW c:=rfl
theorem xqq(c:UInt32)(l:List UInt8):(aW c++l).drop 4=l:=rfl
theorem Wt(p:Nat)(hp:p<=60000)(s:List UInt8):NK (jm p s) p=true:=by
 unfold NK jm;rw[Ws,xqq,Em];unfold qZ;rw[Ws,Em];rw[decide_eq_true rfl,Bool.true_and,decide_eq_true_eq,<-UK.I6 p];omega
theorem xs2(p:Nat)(s:List UInt8)(hs:s.length=504):(jm p s).drop 8=s:=by
 rw[xwj p s hs];rfl
theorem Wu(x:List UInt8)(p:Nat)(hp:p<=60000)(s:List UInt8)(hs:s.length=504)(h:512*(p+1)<=x.length):jM (UK.wr x (512*p) (jm p s)) p=s/\zI (UK.wr x (512*p) (jm p s)) p=0:=by
 have e:iG (UK.wr x (512*p) (jm p s)) p=jm p s:=by rw[Es x p p _ (zB p s (by omega)) h h,if_pos rfl]
 have ok:okB (UK.wr x (512*p) (jm p s)) p=true:=by rw[zN,e];exact Wt p hp s
 unfold zI;rw[JM ok,ok,CK,e,xs2 p s hs];exact⟨rfl,rfl⟩
def wR(x:List UInt8)(q:Nat):List UInt8:=(oV x q).take 4
structure gJ(n:Nat)(l:List Nat):Prop where
 nodup:l.Nodup
 lt:∀p,p∈l->1<=p/\p<n
theorem gJ.nil(n:Nat):gJ n []:=⟨List.nodup_nil,λ p h=>by cases h⟩
theorem gJ.few{n:Nat}{l:List Nat}(h:gJ n l)(hn:1<=n):l.length+1<=n:=by
 have:=NL n (0::l) (dL.2 ⟨λ h0=>by have:=(h.lt 0 h0).1;omega,h.nodup⟩) (λ x hx=>by
  rcases aX.1 hx with rfl|hx
  ·omega
  exact(h.lt x hx).2)
 simpa using this
structure Clean(d:Dk)(aj:Nat):Prop where
 fit:Fit d aj
 so:Sound d aj
 rl:d.rl= -1
 wl:d.wl= -1
 ok:∀p,1<=p->p<aj->okB d.x p=true
 link:∀i,i<d.free.length->wR d.x (d.free.getD i 0)=oZ d i
theorem Qz(x:List UInt8)(p:Nat):wR x p=((iG x p).drop 8).take 4:=by unfold wR;rw[CK]
theorem xs6(p:Nat)(s:List UInt8)(hs:4<=s.length):((jm p s).drop 8).take 4=s.take 4:=by
 unfold jm qZ;show List.take 4 (List.drop 4 ((aW (w32 p))++(s++UK.bW (504-s.length))))=_;show List.take 4 (s++UK.bW (504-s.length))=_;rw[lZ hs]
theorem IA(x:List UInt8)(aj p q:Nat)(s:List UInt8)(hx:x.length=512*aj)(h6:aj<=60000)(hp:p<aj)(hq:q<aj)(hs:s.length<=504)(h:q≠p->okB x q=true):okB (UK.wr x (512*p) (jm p s)) q=true:=by
 rw[zN,Es x p q _ (zB p s hs) (by omega) (by omega)];by_cases e:p=q
 ·rw[if_pos e,<-e];exact Wt p (by omega) s
 rw[if_neg e,<-zN];exact h (λ e2=>e e2.symm)
theorem NM(x:List UInt8)(aj p q:Nat)(s:List UInt8)(hx:x.length=512*aj)(hp:p<aj)(hq:q<aj)(hs:s.length<=504)(e:p≠q):wR (UK.wr x (512*p) (jm p s)) q=wR x q:=by
 rw[Qz,Qz,Es x p q _ (zB p s hs) (by omega) (by omega),if_neg e]
theorem xmr(x:List UInt8)(aj p:Nat)(s:List UInt8)(hx:x.length=512*aj)(hp:p<aj)(h4:4<=s.length)(hs:s.length<=504):wR (UK.wr x (512*p) (jm p s)) p=s.take 4:=by
 rw[Qz,Es x p p _ (zB p s hs) (by omega) (by omega),if_pos rfl,xs6 p s h4]
theorem NN{d d':Dk}(h:d'.free=d.free)(i:Nat):oZ d' i=oZ d i:=by unfold oZ;rw[h]
theorem IB{l:List Nat}{i:Nat}(h:i<l.length):l.getD i 0∈l:=by
 rw[fK,di h];exact List.getElem_mem _
theorem Kb{d:Dk}(h:d.wl= -1):iQ d.wl= -1:=by rw[h];rfl
theorem Clean.write{d:Dk}{aj:Nat}(h:Clean d aj)(h3:d.puts+1<1000000000)(p:Nat)(hp:p<aj)(hf:p∉d.free)(s:List UInt8)(hs:s.length<=504):Clean (xV d p s) aj:=by
 refine⟨Qq h.fit h3 p hp s hs,h.so.of_same rfl rfl,h.rl,Kb h.wl,λ q h1 h2=>IA d.x aj p q s h.fit.len h.fit.few hp h2 hs (λ _=>h.ok q h1 h2),λ i hi=>?_⟩;have hm:=IB (show i<d.free.length from hi);refine(NM d.x aj p _ s h.fit.len hp (h.fit.free _ hm).2 hs (λ e=>hf (e▸hm))).trans ?_;exact(h.link i hi).trans (NN rfl i).symm
theorem Clean.give{d:Dk}{aj:Nat}(h:Clean d aj)(h3:d.puts+1<1000000000)(p:Nat)(h1:1<=p)(hp:p<aj)(hf:p∉d.free):Clean (ul d p) aj:=by
 have hl:=h.so.less h.fit hp hf;have hnl:(oZ d d.free.length).length=4:=iD _ _;refine⟨Qt h.fit h3 p h1 hp hl,h.so.give h.fit hp hf,h.rl,Kb h.wl,λ q a b=>IA d.x aj p q _ h.fit.len h.fit.few hp b (by omega) (λ _=>h.ok q a b),λ i hi=>?_⟩
 have hi2:i<d.free.length+1:=by
  have:i<(d.free++[p]).length:=hi
  rwa [zl]at this
 by_cases e:i=d.free.length
 ·subst e
  have e1:(ul d p).free.getD d.free.length 0=p:=by
   show(d.free++[p]).getD d.free.length 0=p;rw[fK,dF (aZ _),iF];rfl
  rw[e1];refine(xmr d.x aj p _ h.fit.len hp (by omega) (by omega)).trans ?_;rw[eZ (by omega)];unfold oZ;by_cases e0:d.free.length=0
  ·rw[if_pos e0,if_pos e0]
  rw[if_neg e0,if_neg e0];show _=aW (w32 ((d.free++[p]).getD _ 0));rw[fK,fK,dM (by omega)]
 have hil:i<d.free.length:=by omega
 have e1:(ul d p).free.getD i 0=d.free.getD i 0:=by
  show(d.free++[p]).getD i 0=_;rw[fK,fK,dM hil]
 have hm:=IB hil;rw[e1];refine(NM d.x aj p _ _ h.fit.len hp (h.fit.free _ hm).2 (by omega) (λ e=>hf (e▸hm))).trans ((h.link i hil).trans ?_);unfold oZ;by_cases e0:i=0
 ·rw[if_pos e0,if_pos e0]
 rw[if_neg e0,if_neg e0];show _=aW (w32 ((d.free++[p]).getD _ 0));rw[fK,fK,dM (by omega)]
theorem Clean.gP{d:Dk}{aj:Nat}(h:Clean d aj)(h3:d.puts+1<1000000000)(l:List Nat)(p:Nat)(hl:d.free=l++[p]):Clean (gP d l p) aj:=by
 have hpm:p∈d.free:=by rw[hl];exact fE _ (bQ.2 rfl)
 have hp:=h.fit.free p hpm;have hnd:=h.so.nodup;rw[hl]at hnd;have hpl:p∉l:=λ hm=>(bF.1 hnd).2.2 p hm p (bQ.2 rfl) rfl;refine⟨Qu h.fit h3 l p hl,h.so.gP h.fit hl,h.rl,Kb h.wl,λ q a b=>IA d.x aj p q _ h.fit.len h.fit.few hp.2 b (by decide) (λ _=>h.ok q a b),λ i hi=>?_⟩;have hil:i<l.length:=hi;have hdl:d.free.length=l.length+1:=by rw[hl,zl];rfl
 have e1:l.getD i 0=d.free.getD i 0:=by
  rw[hl,fK,fK,dM hil]
 have hm:=IB (show i<d.free.length by omega);show wR _ (l.getD i 0)=_;have hne:p≠l.getD i 0:=λ e=>hpl (e▸IB hil);refine(NM d.x aj p _ _ h.fit.len hp.2 (by rw[e1];exact(h.fit.free _ hm).2) (by decide) hne).trans ?_;rw[e1];refine(h.link i (by omega)).trans ?_;unfold oZ;by_cases e0:i=0
 ·rw[if_pos e0,if_pos e0]
 rw[if_neg e0,if_neg e0];show _=aW (w32 (l.getD _ 0));rw[hl,fK,fK,dM (by omega)]
theorem xwm(x z:List UInt8)(p:Nat)(h:512*(p+1)<=x.length):okB (x++z) p=okB x p:=by
 have e:iG (x++z) p=iG x p:=by
  unfold iG;rw[kR (by omega),lZ (by rw[zd];omega)]
 rw[zN,zN,e]
theorem Clean.takeN{d:Dk}{aj:Nat}(h:Clean d aj)(h3:d.puts+1<1000000000)(hl:d.free=[])(hm:(aj:Int)<d.ax):Clean (takeN d aj) (aj+1):=by
 have hx:(d.x++UK.bW 512).length=512*(aj+1):=by rw[zl,UK.lI,h.fit.len];omega
 refine⟨Qv h.fit h3 hl hm,h.so.takeN h.fit hl,h.rl,Kb h.wl,λ q a b=>?_,λ i hi=>?_⟩
 ·refine IA _ (aj+1) aj q _ hx (by have:=h.fit.ax.2.1;omega) (by omega) b (by decide) (λ e=>?_);rw[xwm _ _ _ (by rw[h.fit.len];omega)];exact h.ok q a (by omega)
 have hi':i<d.free.length:=hi;rw[hl]at hi';exact absurd hi' (qh _)
theorem Clean.same{d d':Dk}{aj:Nat}(h:Clean d aj)(f:Fit d' aj)(hx:d'.x=d.x)(hf:d'.free=d.free)(hi:d'.gu=d.gu)(hr:d'.rl= -1)(hw:d'.wl= -1):Clean d' aj:=
 ⟨f,h.so.of_same hf hi,hr,hw,by rw[hx];exact h.ok,λ i hil=>by rw[hx,hf,NN hf];rw[hf]at hil;exact h.link i hil⟩
end Go.Proofs.YtlipgbnnbefhjaaGreatDoor
