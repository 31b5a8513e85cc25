/- Facts on texts and trees on pages. -/
import Derived.Test.YtgpmiliahonaoaaGreatDoorKHeapGc
set_option maxRecDepth 100000
set_option maxHeartbeats 8000000
set_option linter.unusedSimpArgs false
namespace Go.Proofs.YtgpmiliahonaoaaGreatDoor
open Go.RowKit
open UK (str aF nth Only Row ay w32)
open SR (aM aW total)
open SL (hole add trim room live)
open Go.BigFrame
def AP.fe(A:AP)(Fo:Nat->Prop):Pg:=⟨λ p=>A.Has p/\¬Fo p,A.c⟩
def pJ(Fo:Nat->Prop)(Co:Nat->List UInt8)(A:AP):Prop:=∀p,Fo p->A.Has p/\A.c p=Co p
section
variable{Fo:Nat->Prop}{Co:Nat->List UInt8}{A B:AP}{root pg q:Nat}{rp ch:List Nat}{L:Nat->List (List UInt8)}{X:List HT}
theorem pJ.ak(h:pJ Fo Co A)(hq:¬Fo q)(z:List UInt8):pJ Fo Co (A.ak q z):=λ p hp=>
 ⟨AP.aA.2 (h p hp).1,by rw[AP.aL,if_neg (show ¬q=p from λ e=>hq (e▸hp))];exact(h p hp).2⟩
theorem pJ.grown(h:pJ Fo Co A)(g:AP.Grown A B ch):pJ Fo Co B:=λ p hp=>⟨(g.has p).2 (.inl (h p hp).1),(g.same p (h p hp).1).trans (h p hp).2⟩
theorem pJ.take(h:pJ Fo Co A)(hg:A.Good)(hf:¬A.Full):pJ Fo Co A.take:=λ p hp=>
 ⟨((hg.take hf).2.1 p).2 (.inl (h p hp).1),by
  show bS A.c A.next (UK.bF 504) p=_;unfold bS;rw[if_neg (show ¬A.next=p from λ e=>(hg.next hf).1 (e▸(h p hp).1))];exact(h p hp).2⟩
theorem pJ.next(h:pJ Fo Co A)(hg:A.Good)(hf:¬A.Full):¬Fo A.next:=λ hp=>(hg.next hf).1 (h _ hp).1
theorem pJ.give(h:pJ Fo Co A)(hg:A.Good)(hq:A.Has q)(hn:¬Fo q):pJ Fo Co (A.give q):=λ p hp=>
 ⟨((hg.give hq).2.1 p).2 ⟨(h p hp).1,λ e=>hn (e▸hp)⟩,by rw[AP.ky];exact(h p hp).2⟩
theorem pJ.like(h:pJ Fo Co A)(hc:B.c=A.c)(hh:∀p,Fo p->B.Has p):pJ Fo Co B:=λ p hp=>⟨hh p hp,by rw[hc];exact(h p hp).2⟩
theorem HI.fM(h:HI (A.fe Fo) root pg rp L X):A.Has root:=h.jg.1
theorem HI.nC(h:HI (A.fe Fo) root pg rp L X):¬Fo root:=h.jg.2
theorem HI.nS(h:HI (A.fe Fo) root pg rp L X){p:Nat}(hp:p∈rp):A.Has p/\p≠root:=⟨(h.dX hp).1.1,(h.dX hp).2⟩
theorem HI.Aj(h:HI (A.fe Fo) root pg rp L X){p:Nat}(hp:p∈rp):¬Fo p:=(h.dX hp).1.2
theorem HI.sw(h:HI (A.fe Fo) root pg rp L X){t:HT}(ht:t∈X){p:Nat}(hp:p∈t.ch):A.Has p/\p≠root/\p∉rp:=⟨(h.iy ht hp).1.1,(h.iy ht hp).2⟩
theorem HI.GL(h:HI (A.fe Fo) root pg rp L X){t:HT}(ht:t∈X){p:Nat}(hp:p∈t.ch):¬Fo p:=(h.iy ht hp).1.2
end
structure HZ(Fo:Nat->Prop)(Co:Nat->List UInt8)(E:Nat->Prop)(W:World)(P D H k:Nat)(A:AP)(root pg:Nat)(rp:List Nat)(L:Nat->List (List UInt8))(X:List HT):Prop where
 pz:PZ E W P D A k
 good:A.Good
 box:ay W H (qm P root)
 mem:E H
 hi:HI (A.fe Fo) root pg rp L X
 few:X.length<=1000000
 far:pJ Fo Co A
theorem V5:room []=496:=rfl
theorem V6(s:List UInt8):add [] s=[s]:=rfl
theorem HI.Dv{Fo:Nat->Prop}{A:AP}{root pg:Nat}{rp:List Nat}{L:Nat->List (List UInt8)}{X:List HT}(h:HI (A.fe Fo) root pg rp L X)(g:A.Good):pg<=60000:=by
 rcases h.cur with h1|h1
 ·omega
 have h2:A.Has pg:=(h.nS h1).1;have:=h2.2.1;have:=g.aC;have:=g.few;omega
theorem HI.uy{A:Pg}{root pg:Nat}{rp:List Nat}{L:Nat->List (List UInt8)}{X:List HT}(_:HI A root pg rp L X){rec:List UInt8}(hr:rec.length<=301)(hn:room (L pg)<rec.length):L pg≠[]:=λ e=>by
 rw[e,V5]at hn;omega
section
variable{Fo:Nat->Prop}{Co:Nat->List UInt8}{E F:Nat->Prop}{W W':World}{P D k fb db cap pg root H:Nat}{A B:AP}{s:List UInt8}{rp:List Nat}{L:Nat->List (List UInt8)}{X:List HT}{ch:List Nat}
theorem xz7(hfr:pJ Fo Co A)(h:HI (A.fe Fo) root pg rp L X)(hp:pg∈rp)(hgr:AP.Grown A B ch)(hl:J3 B.c s ch)(hs:s.length<=400000){z:List UInt8}(hz:aM z (add (L pg) (bY s ch))) :
  HI (((B.ak pg z).ak root (jQ ((B.ak pg z).c root) pg (X.length+1))).fe Fo) root pg rp (λ p=>if p=pg then add (L pg) (bY s ch) else L p) (⟨pg,hole (L pg),s,ch⟩::X):=by
 obtain⟨cZ,hpr⟩:=h.nS hp;have hroot:A.Has root:=h.fM;replace cZ:A.Has pg:=cZ;have hcr:(B.ak pg z).c root=A.c root:=by rw[AP.aL,if_neg hpr];exact hgr.same root hroot
 refine h.put (t:=⟨pg,hole (L pg),s,ch⟩) (y:=z) rfl hp rfl hs ?_ hgr.ib (λ p hp hA=>hgr.new p hp hA.1) (λ p=>?_) hz ?_ ?_ (λ p hA h1 h2=>?_)
 ·refine qc.same (c:=B.c) hl (λ p hpc=>?_);have hn:=hgr.new p hpc;show((B.ak pg z).ak root _).c p=_;rw[AP.aL,if_neg (show ¬root=p from λ e=>hn (e▸hroot)),AP.aL,if_neg (show ¬pg=p from λ e=>hn (e▸cZ))]
 ·show((B.ak pg z).ak root _).Has p/\¬Fo p↔(A.Has p/\¬Fo p)\/p∈ch;rw[AP.aA,AP.aA,hgr.has p]
  constructor
  ·rintro⟨a|a,b⟩
   ·exact .inl ⟨a,b⟩
   exact .inr a
  rintro(⟨a,b⟩|a)
  ·exact⟨.inl a,b⟩
  exact⟨.inr a,λ hf=>hgr.new p a (hfr p hf).1⟩
 ·show((B.ak pg z).ak root _).c pg=z;rw[AP.aL,if_neg (dz hpr),AP.aL,if_pos rfl]
 ·show((B.ak pg z).ak root _).c root=_;rw[AP.aL,if_pos rfl,hcr];rfl
 show((B.ak pg z).ak root _).c p=A.c p;rw[AP.aL,if_neg (dz h2),AP.aL,if_neg (dz h1)];exact hgr.same p hA.1
theorem xw8(hfr:pJ Fo Co A)(h:HI (A.fe Fo) root pg rp L X)(hgr:AP.Grown A B ch)(hg:A.Good)(hf:¬B.Full)(hl:J3 B.c s ch)(hs:s.length<=400000)(hno:pg∈rp->room (L pg)<(bY s ch).length){z1 z:List UInt8}(hz1:aM z1 [])(hz:aM z [bY s ch]) :
  HI (((B.take.ak B.next z).ak root (jQ ((B.take.ak B.next z).c root) B.next (X.length+1))).fe Fo) root B.next (rp++[B.next]) (λ p=>if p=B.next then [bY s ch] else L p) (⟨B.next,0,s,ch⟩::X):=by
 have hroot:A.Has root:=h.fM;have hgb:=hgr.reach.good hg;obtain⟨_,ht2,_⟩:=hgb.take hf;have hn:=(hgb.next hf).1;have MP:¬A.Has B.next:=λ hh=>hn ((hgr.has _).2 (.inl hh));have hnr:B.next≠root:=λ e=>MP (e▸hroot);have hnc:∀p,p∈ch->p≠B.next:=λ p hp e=>hn ((hgr.has _).2 (.inr (e▸hp)))
 have hct:∀p,p≠B.next->(B.take.ak B.next z).c p=B.c p:=λ p hp=>by
  rw[AP.aL,if_neg (dz hp)];show bS B.c B.next (UK.bF 504) p=_;unfold bS;rw[if_neg (dz hp)]
 have h1:=HI.fresh (B:=⟨λ p=>(A.Has p/\¬Fo p)\/p=B.next,λ p=>if p=B.next then z1 else if p=root then jQ (A.c root) B.next X.length else A.c p⟩) h (q:=B.next) (y:=z1) (λ hh=>MP hh.1) (λ p=>Iff.rfl) hz1 (λ hp=>h.uy (V3 s ch) (hno hp)) (if_pos rfl) (by show(if root=B.next then _ else _)=_;rw[if_neg (dz hnr),if_pos rfl];rfl) (λ p hp hpr=>by
  show(if p=B.next then _ else _)=_;rw[if_neg (show ¬p=B.next from λ e=>MP (e▸hp.1)),if_neg hpr];rfl)
 have h2:=HI.put (B:=(((B.take.ak B.next z).ak root (jQ ((B.take.ak B.next z).c root) B.next (X.length+1))).fe Fo)) h1 (t:=⟨B.next,0,s,ch⟩) (y:=z) rfl (lI _ (bz.2 rfl)) (by rw[if_pos rfl];rfl) hs (by
   refine qc.same (c:=B.c) hl (λ p hpc=>?_);have hnp:=hgr.new p hpc;show((B.take.ak B.next z).ak root _).c p=_;rw[AP.aL,if_neg (show ¬root=p from λ e=>hnp (e▸hroot)),hct p (hnc p hpc)])
  hgr.ib (λ p hp hh=>hh.elim (λ hh=>hgr.new p hp hh.1) (hnc p hp)) (λ p=>by
   show((B.take.ak B.next z).ak root _).Has p/\¬Fo p↔_;rw[AP.aA,AP.aA,ht2,hgr.has];show _↔((A.Has p/\¬Fo p)\/p=B.next)\/p∈ch
   constructor
   ·rintro⟨(a|a)|a,b⟩
    ·exact .inl (.inl ⟨a,b⟩)
    ·exact .inr a
    exact .inl (.inr a)
   ·rintro((⟨a,b⟩|a)|a)
    ·exact⟨.inl (.inl a),b⟩
    ·exact⟨.inr a,λ hf=>MP (a▸(hfr p hf).1)⟩
    exact⟨.inl (.inr a),λ hf=>hgr.new p a (hfr p hf).1⟩) (by rw[if_pos rfl,V6];exact hz) (by
   show((B.take.ak B.next z).ak root _).c B.next=z;rw[AP.aL,if_neg (dz hnr),AP.aL,if_pos rfl]) (by
   show((B.take.ak B.next z).ak root _).c root=jQ (if root=B.next then _ else _) _ _;rw[AP.aL,if_pos rfl,hct root (dz hnr),hgr.same root hroot,if_neg (dz hnr),if_pos rfl];exact(xn2 (A.c root) B.next X.length (X.length+1) h.mR).symm) (λ p hp h3 h4=>by
   show((B.take.ak B.next z).ak root _).c p=if p=B.next then _ else if p=root then _ else _
   rw[AP.aL,if_neg (dz h4),hct p h3,if_neg h3,if_neg h4];exact hgr.same p (hp.elim (λ h=>h.1) (λ e=>absurd e h3)))
 refine h2.J6 (λ p _=>?_);by_cases e:p=B.next
 ·rw[if_pos e,if_pos e,if_pos rfl,V6];rfl
 rw[if_neg e,if_neg e,if_neg e]
end
def bK(t:HT):Nat:=t.pg*256+t.i
theorem HI.words{Fo:Nat->Prop}{A:AP}{root pg:Nat}{rp:List Nat}{L:Nat->List (List UInt8)}{X:List HT}(h:HI (A.fe Fo) root pg rp L X)(g:A.Good)(hX:X.length<=1000000):(dG (A.c root) 0).toNat=pg/\(dG (A.c root) 4).toNat=X.length:=by
 have h1:dG (A.c root) 0=w32 pg:=h.J5;have h2:dG (A.c root) 4=w32 X.length:=h.wn;have:=h.Dv g;rw[h1,h2,J4 (by omega),J4 (by omega)];exact⟨rfl,rfl⟩
theorem V7(p i:Nat)(hp:p<=60000)(hi:i<256):bits .or .u64 (IntKind.u64.wrap (IntKind.u64.wrap (p:Int)*256)) (IntKind.u64.wrap (i:Int))=((p*256+i:Nat):Int):=by
 have e1:IntKind.u64.wrap (IntKind.u64.wrap (p:Int)*256)=((p*256:Nat):Int):=by rw[lN,lN];omega
 have e2:IntKind.u64.wrap (i:Int)=(i:Int):=by rw[lN];omega
 rw[e1,e2,u64_or_nat _ _ (by omega) (by omega)];have h:=Nat.two_pow_add_eq_or_of_lt (b:=i) (i:=8) hi p;rw[show p*256=2^8*p by omega,<-h]
section
variable{Fo:Nat->Prop}{Co:Nat->List UInt8}{E F:Nat->Prop}{W W':World}{P D k fb db cap pg root H:Nat}{A B:AP}{s:List UInt8}{rp:List Nat}{L:Nat->List (List UInt8)}{X:List HT}{ch:List Nat}
def ycp(Fo:Nat->Prop)(Co:Nat->List UInt8)(E:Nat->Prop)(W W':World)(P D H k:Nat)(A:AP)(root:Nat)(s:List UInt8)(X:List HT)(e:Ending):Prop:=
 (∃t B xh rp' L',e= .returned (.tuple #[.int .u64 (bK t:Nat),.int .i64 0])/\t.s=s/\HZ Fo Co E W' P D H (k+(s.length+30)) B root xh rp' L' (t::X)/\A.Reach B/\Kept E W W') \/
 (∃B,e= .returned (.tuple #[.int .u64 0,.int .i64 6])/\A.Reach B/\500*A.bu<s.length+500/\PZ E W' P D B (k+(s.length+30))/\Kept E W W')
theorem xtz{w:World}{q:Nat}(h:PF E w P D (B.keep q) k fb db cap q true) :
  Calls Tryz.prog 176 #[.slice db 504 cap] w λ e w'=>e= .returned (.tuple #[])/\(∃z,aM z []/\PF E w' P D (B.ak q z) k fb db cap q true)/\Kept E w w':=by
 obtain⟨y,y1,y2,y3,y4,y5⟩:=h.bytes;refine(SL.yQ db y cap w y1 (by omega)).mono ?_;rintro e w' ⟨he,⟨z,z1,z2,z3⟩,o⟩;obtain⟨p,kk⟩:=h.write o z1 (z3.trans y2);exact⟨he,⟨z.take 504,z2.cut,p⟩,kk⟩
theorem xw9{w:World}{q:Nat}{l:List (List UInt8)}{rec:List UInt8}(h:PF E w P D (B.keep q) k fb db cap q true)(hr:aM (B.c q) l)(hs:rec≠[])(hrm:(rec.length:Int)<=room l) :
  Calls Tryz.prog 177 #[.slice db 504 cap,.string (str rec)] w λ e w'=>e= .returned (.tuple #[.int .i64 (hole l:Nat),.bool true])/\(∃z,aM z (add l rec)/\PF E w' P D (B.ak q z) k fb db cap q true)/\Kept E w w':=by
 obtain⟨y,y1,y2,y3,y4,y5⟩:=h.bytes;have y3:y.take 504=B.c q:=y3;refine(SL.uY db y l cap (by omega) rec w y1 (hr.nz (by omega) y3) hs hrm).mono ?_;rintro e w' ⟨he,⟨z,z1,z2,z3⟩,o⟩;obtain⟨p,kk⟩:=h.write o z1 (z3.trans y2);exact⟨he,⟨z.take 504,z2.cut,p⟩,kk⟩
theorem Mq(h:HZ Fo Co E W P D H k A root pg rp L X)(hk:k+(s.length+30)<900000000)(hs:s.length<=400000)(hX:X.length<1000000) :
  Calls Tryz.prog 104 #[.pointer H,.string (str s)] W λ e w'=>ycp Fo Co E W w' P D H k A root s X e:=by
 have EU:=zH (xq7 h.pz h.good (by omega) h.box h.mem hs);have HH:=zH h;have i1:(s.length:Int)<=400000:=by omega
 clear h
 go_enter Tryz.func104,Tryz.ntmps104
 go_wp2_with fail
 refine EU.out.mono ?_;rintro e w1 (⟨ch,B,rfl,q1,q2,q3,q4,q5⟩|⟨B,rfl,q1,q2,q3,q4,q5⟩)
 ·have h:=HH.out;have hroot:A.Has root:=h.hi.fM;have hbr:B.Has root:=(q1.has _).2 (.inl hroot);have hbx:=h.box.ae (q5.block H h.mem);obtain⟨Dw,wd2⟩:=h.hi.words h.good (by omega);have hst:=Qd q4 (by omega) hbx hbr;rw[q1.same root hroot,Dw,wd2]at hst;have HST:=zH hst;have hrl:=V3 s ch
  have oH:pg=0\/(0<pg/\pg∈rp/\((bY s ch).length:Int)<=room (L pg))\/(0<pg/\pg∈rp/\room (L pg)<(bY s ch).length):=by
   rcases h.hi.cur with e|e
   ·exact .inl e
   have h0:0<pg:=by
    have:A.Has pg:=(h.hi.nS e).1;exact this.1
   by_cases hf:((bY s ch).length:Int)<=room (L pg)
   ·exact .inr (.inl ⟨h0,e,hf⟩)
   exact .inr (.inr ⟨h0,e,by omega⟩)
  have HQ:=zH (zA q1 (zA q2 (zA q3 q5)));have HL:=zH hrl;generalize hrec:bY s ch=rec at oH hrl ⊢;have GM:=zH hrec;clear EU q1 q2 q3 q4 q5 hst hbr hroot hbx Dw wd2 h hrec
  go_wp2_with fail
  refine HST.out.mono ?_;rintro e w2 ⟨rfl,p2,k2⟩;rcases oH with rfl|⟨h0,hp,hfit⟩|⟨h0,hp,hno⟩
  rotate_left
  ·-- there is room
   have h:=HH.out;obtain⟨q1,q2,q3,q5⟩:=HQ.out;have hbx:=(h.box.ae (q5.block H h.mem)).ae (k2.block H h.mem);have iG:A.Has pg:=(h.hi.nS hp).1;have hrc:aM (B.c pg) (L pg):=by rw[q1.same pg iG];exact(h.hi.recs pg hp).1
   have HA:=zH (Vx p2 (by omega) hbx ((q1.has _).2 (.inl iG)) hrc (GM.out▸ML s ch:rec≠[]));have HF:=zH hfit;have HP:=zH hp;have K2:=zH k2;clear p2 k2 q1 q2 q3 q5 h hbx iG hrc hfit hp HST
   go_wp2_with fail
   refine HA.out.mono ?_;rintro e w3 (⟨_,rfl,z,z1,z2,p3,k3⟩|⟨hbad,_⟩)
   ·have h:=HH.out;obtain⟨q1,q2,q3,q5⟩:=HQ.out;have hk5:=(q5.trans K2.out).trans k3;have hbx:=h.box.ae (hk5.block H h.mem);have hss:=Dq p3 (by omega) hbx (AP.aA.2 ((q1.has _).2 (.inl h.hi.fM))) pg (X.length+1);rw[show((X.length+1:Nat):Int)=(X.length:Int)+1 from by omega]at hss;have HS:=zH hss;have MQ:=zH (zA z1 (zA z2 hk5));clear HA K2 p3 k3 z1 z2 h q1 q2 q3 q5 hk5 hbx hss
    go_wp2_with fail
    refine HS.out.mono ?_;rintro e w4 ⟨rfl,p4,k4⟩;have H4:=zH (zA p4 k4);clear HS p4 k4;go_wp2;go_ret2;obtain⟨q1,q2,q3,q5⟩:=HQ.out;refine .inl ⟨⟨pg,hole (L pg),s,ch⟩,_,pg,rp,_,?_,rfl,⟨H4.out.1.up (by omega),?_,?_,?_,xz7 HH.out.far HH.out.hi HP.out q1 q2 hs (by rw[GM.out];exact MQ.out.1),?_,((HH.out.far.grown q1).ak (HH.out.hi.Aj HP.out) _).ak HH.out.hi.nC _⟩,?_,?_⟩
    ·have il:=MQ.out.1.few;have hh:=SL.nV (L pg);have Ai:=(HH.out.hi.recs pg HP.out).1.few;simp only[Ending.returned.injEq,Value.tuple.injEq];simp;exact V7 pg (hole (L pg)) (HH.out.hi.Dv HH.out.good) (by omega)
    ·exact((q1.reach.ak ((q1.has _).2 (.inl (HH.out.hi.nS HP.out).1)) z).ak (AP.aA.2 ((q1.has _).2 (.inl HH.out.hi.fM))) _).good HH.out.good
    ·exact HH.out.box.ae ((MQ.out.2.2.trans H4.out.2).block H HH.out.mem)
    ·exact HH.out.mem
    ·show X.length+1<=_;omega
    ·exact(q1.reach.ak ((q1.has _).2 (.inl (HH.out.hi.nS HP.out).1)) z).ak (AP.aA.2 ((q1.has _).2 (.inl HH.out.hi.fM))) _
    exact MQ.out.2.2.trans H4.out.2
   exact absurd hbad (by have:=HF.out;omega)
  -- there is none
  focus
   have h:=HH.out;obtain⟨q1,q2,q3,q5⟩:=HQ.out;have hbx:=(h.box.ae (q5.block H h.mem)).ae (k2.block H h.mem);have iG:A.Has pg:=(h.hi.nS hp).1;have hrc:aM (B.c pg) (L pg):=by rw[q1.same pg iG];exact(h.hi.recs pg hp).1
   have HA:=zH (Vx p2 (by omega) hbx ((q1.has _).2 (.inl iG)) hrc (GM.out▸ML s ch:rec≠[]));have yR:=zH (show pg∈rp->room (L pg)<(bY s ch).length from λ _=>by rw[GM.out];exact hno);have HF:=zH hno;have K2:=zH k2;clear p2 k2 q1 q2 q3 q5 h hbx iG hrc hno hp HST
   go_wp2_with fail
   refine HA.out.mono ?_;rintro e w2 (⟨hbad,_⟩|⟨_,rfl,p2,k3⟩)
   ·exact absurd hbad (by have:=HF.out;omega)
   have k2:=K2.out.trans k3;replace p2:=p2.up (show k+(s.length+10)+2+3<=k+(s.length+15) by omega);clear HA HF K2 k3
  rotate_left
  have yR:=zH (show 0∈rp->room (L 0)<(bY s ch).length from λ h0=>by
   have:A.Has 0:=(HH.out.hi.nS h0).1;exact absurd this.1 (by omega))
  replace p2:=p2.up (show k+(s.length+10)+2<=k+(s.length+15) by omega);clear HST
  all_goals
   have c0:w2.cell? H=some (.pointer P):=(HH.out.box.ae ((HQ.out.2.2.2.trans k2).block H HH.out.mem)).cell 0 _ rfl;by_cases hf:B.Full
   ·have HT:=zH (Qg p2 (by omega) hf);have hr0:=((HQ.out.1.reach.good HH.out.good).full).1 hf;have H0:=zH (zA hr0 k2);clear p2 k2 hf hr0
    go_wp2_with fail
    refine HT.out.mono ?_;rintro e w4 ⟨rfl,p4,k4⟩;have H4:=zH (zA p4 k4);clear HT p4 k4;go_wp2;go_ret2;obtain⟨q1,q2,q3,q5⟩:=HQ.out;have:=q1.bu;have h00:=H0.out.1;exact .inr ⟨B,rfl,q1.reach,by omega,H4.out.1.up (by omega),(q5.trans H0.out.2).trans H4.out.2⟩
   have HT:=zH (GA p2 (by omega) hf);have HF:=zH (zA hf k2);clear p2 k2 hf
   go_wp2_with fail
   refine HT.out.mono ?_;rintro e w4 ⟨fb,db,cap,rfl,p4,k4⟩;have HE:=zH (yI p4 (by omega));have K4:=zH (HF.out.2.trans k4);clear HT p4 k4
   go_wp2_with fail
   refine HE.out.mono ?_;rintro e w5 ⟨rfl,p5,k5⟩;have HI:=zH (xtz p5);have K5:=zH (K4.out.trans k5);clear HE K4 p5 k5
   go_wp2_with fail
   refine HI.out.mono ?_;rintro e w6 ⟨rfl,⟨z1,hz1,p6⟩,k6⟩;have HG:=zH (GD p6);have HE2:=zH (yI p6 (by omega));have K6:=zH (K5.out.trans k6);have HZ1:=zH hz1;clear HI K5 p6 k6 hz1
   go_wp2_with fail
   refine HG.out.mono ?_;rintro e w7 ⟨rfl,rfl⟩;clear HG
   go_wp2_with fail
   refine HE2.out.mono ?_;rintro e w8 ⟨rfl,p8,k8⟩;have HA:=zH (xw9 (l:=[]) p8 (by rw[AP.aL,if_pos rfl];exact HZ1.out) (GM.out▸ML s ch:rec≠[]) (by rw[V5];omega));have K8:=zH (K6.out.trans k8);clear HE2 K6 p8 k8
   go_wp2_with fail
   refine HA.out.mono ?_;rintro e w9 ⟨rfl,⟨z,hz,p9⟩,k9⟩;rw[AP.ku]at p9;have HU:=zH (Vz p9);have K9:=zH (zA hz (K8.out.trans k9));clear HA K8 p9 k9 hz
   go_wp2_with fail
   refine HU.out.mono ?_;rintro e w10 ⟨rfl,V8,k10⟩;obtain⟨q1,q2,q3,q5⟩:=HQ.out;have hgb:=q1.reach.good HH.out.good;obtain⟨ht1,ht2,ht3⟩:=hgb.take HF.out.1;have hn:=hgb.next HF.out.1;have hk10:=(q5.trans K9.out.2).trans k10;have hss:=Dq V8 (by omega) (HH.out.box.ae (hk10.block H HH.out.mem)) (AP.aA.2 ((ht2 _).2 (.inl ((q1.has _).2 (.inl HH.out.hi.fM))))) B.next (X.length+1);rw[show((X.length+1:Nat):Int)=(X.length:Int)+1 from by omega]at hss;have HS:=zH hss;have V9:=zH hk10;have MG:=hn.2.2;generalize hnx:B.next=nx at HS MG ⊢;have HNX:=zH hnx;clear HU V8 k10 q1 q2 q3 q5 hgb ht1 ht2 ht3 hn hk10 hss hnx
   go_wp2_with fail
   refine HS.out.mono ?_;rintro e w11 ⟨rfl,VA,k11⟩;have Qm:=zH (zA VA k11);clear HS VA k11;go_wp2;go_ret2;obtain⟨q1,q2,q3,q5⟩:=HQ.out;have hnx:=HNX.out;subst hnx;have hgb:=q1.reach.good HH.out.good;obtain⟨ht1,ht2,ht3⟩:=hgb.take HF.out.1;have hrec:=((q1.reach.take HF.out.1).ak ((ht2 _).2 (.inr rfl)) z).ak (AP.aA.2 ((ht2 _).2 (.inl ((q1.has _).2 (.inl HH.out.hi.fM))))) (jQ ((B.take.ak B.next z).c root) B.next (X.length+1));have hzz:=K9.out.1;rw[<-GM.out]at hzz;refine .inl ⟨⟨B.next,0,s,ch⟩,_,B.next,_,_,?_,rfl,⟨Qm.out.1.up (by omega),hrec.good HH.out.good,HH.out.box.ae ((V9.out.trans Qm.out.2).block H HH.out.mem),HH.out.mem,xw8 HH.out.far HH.out.hi q1 HH.out.good HF.out.1 q2 hs yR.out HZ1.out hzz,?_,(((HH.out.far.grown q1).take hgb HF.out.1).ak ((HH.out.far.grown q1).next hgb HF.out.1) _).ak HH.out.hi.nC _⟩,hrec,V9.out.trans Qm.out.2⟩
   ·have e0:IntKind.u64.wrap (B.next:Int)=(B.next:Int):=by rw[lN];omega
    have hb:=V7 B.next 0 MG (by omega);have e1:IntKind.u64.wrap ((B.next:Int)*256)=(B.next:Int)*256:=by rw[lN];omega
    rw[e0,e1]at hb;simp only[Ending.returned.injEq,Value.tuple.injEq];simp;exact hb
   show X.length+1<=_;omega
 have HQ:=zH (zA q1 (zA q2 (zA q3 (zA q4 q5))));clear EU q1 q2 q3 q4 q5;go_wp2;go_ret2;obtain⟨q1,q2,q3,q4,q5⟩:=HQ.out;exact .inr ⟨B,rfl,q1,by omega,q4.up (by omega),q5⟩
end
theorem MR(p i:Nat)(hp:p<=60000)(hi:i<256):bits .and .u64 ((p*256+i:Nat):Int) 255=(i:Int):=by
 rw[show(255:Int)=((255:Nat):Int)from rfl,u64_and_nat _ _ (by omega) (by omega)];rw[show(255:Nat)=2^8-1 from rfl,Nat.and_two_pow_sub_one_eq_mod];omega
section
variable{Fo:Nat->Prop}{Co:Nat->List UInt8}{E F:Nat->Prop}{W W':World}{P D k fb db cap pg root H c1 c2 i:Nat}{A B:AP}{s:List UInt8}{L:List (List UInt8)}{v2:Value}
theorem PF.sF{dy:Bool}(h:PF E W P D A k fb db cap pg dy)(h2:E c2)(t2:0 ≠c2)(b2:ay W c2 #[v2])(b:Value) :
  PF E (W.setCell c2 b) P D A k fb db cap pg dy/\Kept (λ j=>E j/\j≠c2) W (W.setCell c2 b)/\ay (W.setCell c2 b) c2 #[b]:=by
 have o2:Only c2 W (W.setCell c2 b):=(Only.refl c2 _).set 0 b;refine⟨h.over (R:=λ j=>j=c2) (λ j hj=>by rw[hj];exact h2) t2 o2.size (λ j hj hn=>o2.block j hj hn) (λ _ hj=>.inl hj),⟨o2.os,o2.tape,o2.output,o2.size,λ j hj=>o2.block j (h.there j hj.1) hj.2⟩,b2.set 0 b⟩
theorem VB(h:PF E W P D A k fb db cap pg false)(hr:aM (A.c pg) L):∃y,aF W db y/\aM y L/\504<=cap:=by
 obtain⟨y,y1,y2,y3,y4,y5⟩:=h.bytes;exact⟨y,y1,hr.nz (by omega) y3,y4⟩
theorem xt0(h:PF E W P D A k fb db cap pg false)(hr:aM (A.c pg) L)(hlast:Dt L)(hp:pg<=60000)(hi:i<256)(b1:ay W c1 #[.int .u64 ((pg*256+i:Nat):Int)])(b2:ay W c2 #[v2])(h2:E c2)(t2:0 ≠c2) :
  Calls Tryz.prog 209 #[.pointer fb,.pointer c1,.pointer c2] W λ e w'=>
   (aW L i≠[]/\e= .returned (.int .i64 0)/\PF E w' P D A k fb db cap pg false/\ay w' c2 #[.string (str (aW L i))]/\Kept (λ j=>E j/\j≠c2) W w') \/
   (aW L i=[]/\e= .returned (.int .i64 4)/\PF E w' P D A k fb db cap pg false/\Kept E W w'):=by
 have HB:=zH (yK h);obtain⟨y,y1,y2,y3⟩:=VB h hr;have HG:=zH (SL.ow db y L cap W y1 y2 hlast);have H0:=zH (zA h (zA b1 b2));have hand:=MR pg i hp hi;have GN:Hid (IntKind.i64.wrap (i:Int)=(i:Int)):=by show _=_;rw[dJ];omega
 generalize hn:pg*256+i=n at hand b1;clear h y1 y2 b2
 go_enter Tryz.func209,Tryz.ntmps209
 go_wp2_with fail
 refine HB.out.mono ?_;rintro e w1 ⟨rfl,rfl⟩
 go_wp2_with fail
 refine HG.out.mono ?_;rintro e w2 ⟨rfl,hb2⟩;obtain⟨h,b1,b2⟩:=H0.out;rw[hn]at b1;have p2:=h.next hb2;have k2:=h.kept hb2;have bd:Below w2 w2 w2.drew:=(aV _ _).drew;have p3:=p2.next bd;have k3:=k2.trans (p2.kept bd);have b13:=(b1.next hb2).drew;have qZ:=(b2.next hb2).drew;have d1:=b13.c0;obtain⟨z,z1,z2,z3⟩:=VB p3 hr;have HB2:=zH (yK p3);by_cases hrc:aW L i=[]
 ·have hbf:SL.hasB L (i:Int)=false:=by unfold SL.hasB;simp[hrc]
  have J9:=zH ((SL.EW db z L cap (i:Int) w2.drew z1 z2 hbf).mono (R':=λ e w'=>e= .returned (.tuple #[.string (str []),.bool false])/\w'.cell? c1=some (.int .u64 (n:Int))/\Below w2.drew.heap.size w2.drew w') (λ _ _ ⟨a,b⟩=>⟨a,(b13.next b).cell 0 _ rfl,b⟩));have H3:=zH (zA p3 k3);have HR:=zH hrc;clear HB HG H0 h b1 b2 hb2 p2 k2 bd p3 k3 b13 qZ z1 z2 hbf hrc
  go_wp2_with fail
  go_region_with (first
   | (go_at_call 116;refine HB2.out.mono ?_;rintro e w3 ⟨rfl,rfl⟩)
   | (go_at_call 211;rw[GN.out];refine J9.out.mono ?_;rintro e w4 ⟨rfl,d4,rf⟩;replace rf:=zH rf))
  all_goals
   obtain⟨p3,k3⟩:=H3.out;have H5:=zH (zA (p3.next rf.out) (k3.trans (p3.kept rf.out)));clear HB2 J9 H3 p3 k3 rf;go_wp2;go_ret;exact .inr ⟨HR.out,rfl,H5.out⟩
 obtain⟨hil,wu⟩:i<L.length/\aW L i≠[]:=⟨by
  by_cases hc:i<L.length
  ·exact hc
  exact absurd (SR.gm _ _ (by omega)) hrc,hrc⟩
 have J9:=zH ((SL.BS db z L cap z3 i w2.drew z1 z2 hil hrc).mono (R':=λ e w'=>e= .returned (.tuple #[.string (str (aW L i)),.bool true])/\w'.cell? c1=some (.int .u64 (n:Int))/\w'.cell? c2=some v2/\w'.frozen? ⟨c2,0,none⟩=false/\Below w2.drew.heap.size w2.drew w') (λ _ _ ⟨a,b⟩=>⟨a,(b13.next b).cell 0 _ rfl,(qZ.next b).cell 0 _ rfl,(qZ.next b).free 0,b⟩));have H3:=zH (zA p3 (zA k3 qZ));have HR:=zH hrc;clear HB HG H0 h b1 b2 hb2 p2 k2 bd p3 k3 b13 qZ z1 z2 hrc wu
 go_wp2_with fail
 go_region_with (first
  | (go_at_call 116;refine HB2.out.mono ?_;rintro e w3 ⟨rfl,rfl⟩)
  | (go_at_call 211;rw[GN.out];refine J9.out.mono ?_;rintro e w4 ⟨rfl,d4,d5,f5,rf⟩;replace rf:=zH rf))
 all_goals
  obtain⟨p3,k3,qZ⟩:=H3.out;obtain⟨q1,q2,q3⟩:=(p3.next rf.out).sF h2 t2 (qZ.next rf.out) (.string (str (aW L i)));have H5:=zH (zA q1 (zA q3 (((k3.trans (p3.kept rf.out)).mono (λ _ hj=>hj.1)).trans q2)));clear HB2 J9 H3 p3 k3 qZ rf q1 q2 q3;go_wp2;go_ret;exact .inl ⟨HR.out,rfl,H5.out⟩
def ycq(E:Nat->Prop)(W W':World)(P D:Nat)(A:AP)(k i:Nat)(L:List (List UInt8))(e:Ending):Prop:=
 (aW L i≠[]/\e= .returned (.tuple #[.string (str (aW L i)),.int .i64 0])/\PZ E W' P D A (k+2)/\Kept E W W') \/
 (aW L i=[]/\e= .returned (.tuple #[.string (str []),.int .i64 4])/\PZ E W' P D A (k+2)/\Kept E W W')
theorem xxa(h:PZ E W P D A k)(hk:k+2<900000000)(hb:ay W H (qm P root))(hr:aM (A.c pg) L)(hlast:Dt L)(cZ:A.Has pg)(hp:pg<=60000)(hi:i<256) :
  Calls Tryz.prog 159 #[.pointer H,.int .u64 ((pg*256+i:Nat):Int)] W λ e w'=>ycq E W w' P D A k i L e:=by
 have hp1:1<=pg:=cZ.1;have ht:=h.tab.lt;have hE0:=h.there;have HAND:=zH (MR pg i hp hi);have hdv:(((pg*256+i:Nat):Int))/256=(pg:Int):=by omega
 generalize hn:pg*256+i=n at hdv ⊢;have Dx:=zH hdv;clear hdv;have a1:Below W W (W.alloc (.cells #[.int .u64 (n:Int)] 77)):=(aV _ _).alloc (aO _) _;have hs1:(W.alloc (.cells #[.int .u64 (n:Int)] 77)).heap.size=W.heap.size+1:=by simp
 have x1:=ay.new W #[.int .u64 (n:Int)] 77;generalize uZ:W.alloc (.cells #[.int .u64 (n:Int)] 77)=wa at a1 hs1 x1;have a2:=a1.alloc (by omega) (.cells #[.string (str [])] 9);have hs2:(wa.alloc (.cells #[.string (str [])] 9)).heap.size=W.heap.size+2:=by simp[hs1]
 have x2:=ay.new wa #[.string (str [])] 9;rw[hs1]at x2;have lY:=x1.alloc (.cells #[.string (str [])] 9);generalize hwc:wa.alloc (.cells #[.string (str [])] 9)=wc at a2 hs2 x2 lY
 have p2:=(h.wide a2 (T:=λ j=>E j\/j=W.heap.size\/j=W.heap.size+1) (λ j hj=>by
  rcases hj with hj|hj|hj
  ·exact .inl hj
  ·exact .inr (by omega)
  exact .inr (by omega))).next (aV _ _).drew
 have k2:Kept E W wc.drew:=h.kept a2.drew
 have oC:Hid ((W.alloc (.cells #[.int .u64 (n:Int)] 77)).alloc (.cells #[.string (str [])] 9)=wc):=by
  show _=_;rw[uZ,hwc]
 have d0:=(hb.below a2 hb.lt).c0;have d1:=lY.drew.c0
 have HW:=zH (BK (N:=209) (kV:= #[.pointer W,.pointer (some ⟨W.heap.size+1,0,none⟩)]) (F:=E)
  (R:=λ A' k' r w'=>A'=A/\k'=k+2/\((aW L i≠[]/\r=0/\ay w' (W.heap.size+1) #[.string (str (aW L i))])\/(aW L i=[]/\r=4/\ay w' (W.heap.size+1) #[.string (str [])])))
  (yJ Tryz.func209 (by kernel_rfl) (by kernel_rfl)) p2 hk cZ (λ j hj=>.inl hj) (λ fb db cap w lq hkk=>by
   have y1:=lY.drew.ae (hkk.block _ (.inr (.inl rfl)));have y2:=x2.drew.ae (hkk.block _ (.inr (.inr rfl)));rw[<-hn]at y1;refine(xt0 lq hr hlast hp hi y1 y2 (.inr (.inr rfl)) (by omega)).mono ?_;rintro e w' (⟨a,he,q1,q2,q3⟩|⟨a,he,q1,q3⟩)
   ·exact⟨0,A,k+2,false,he,q1,q3.mono (λ j hj=>⟨.inl hj,by have:=hE0 j hj;omega⟩),rfl,rfl,.inl ⟨a,rfl,q2⟩⟩
   exact⟨4,A,k+2,false,he,q1,q3.mono (λ j hj=>.inl hj),rfl,rfl,.inr ⟨a,rfl,y2.ae (q3.block _ (.inr (.inr rfl)))⟩⟩))
 have K2:=zH k2;clear h hb x1 lY x2 p2 k2 a1 a2 ht cZ hs1 hs2 uZ hwc hE0 hr hlast
 go_enter Tryz.func159,Tryz.ntmps159
 go_wp2_with fail
 rw[oC.out];have hdv:=Dx.out
 go_still_tail 8,(by kernel_rfl)
 change wpList _ _ _ _ _ wc.drew
 go_wp2_with fail
 refine HW.out.mono ?_;rintro e w3 ⟨r,A',k',w1,rfl,⟨rfl,rfl,hr⟩,p3,k3,k4⟩;have K3:=zH (zA (p3.less (T:=E) (λ j hj=>.inl hj)) (K2.out.trans k4));rcases hr with⟨a,rfl,y2⟩|⟨a,rfl,y2⟩
 ·have d2:w3.cell? ⟨W.heap.size+1,0,none⟩=some (.string (str (aW L i))):=(y2.ae (k3.block _ (.inr (.inr rfl)))).cell 0 _ rfl;have HA:=zH a;clear HW K2 p3 k3 k4 y2 a;go_wp2;go_ret2;exact .inl ⟨HA.out,rfl,K3.out⟩
 have d2:w3.cell? ⟨W.heap.size+1,0,none⟩=some (.string (str [])):=(y2.ae (k3.block _ (.inr (.inr rfl)))).cell 0 _ rfl;have HA:=zH a;clear HW K2 p3 k3 k4 y2 a;go_wp2;go_ret2;exact .inr ⟨HA.out,rfl,K3.out⟩
end
section
variable{Fo:Nat->Prop}{Co:Nat->List UInt8}{E F:Nat->Prop}{W W':World}{P D k fb db cap pg root H c1 c2 c3 m:Nat}{A B:AP}{s:List UInt8}{v1 v2 v3:Value}
theorem xt1(h:PF E W P D A k fb db cap pg false)(b1:ay W c1 #[v1])(b2:ay W c2 #[.int .i64 m])(b3:ay W c3 #[v3])(h1:E c1)(h3:E c3)(n12:c1≠c2)(n13:c1≠c3)(t1:0 ≠c1)(t3:0 ≠c3)(hm:m<=400000) :
  Calls Tryz.prog 213 #[.pointer fb,.pointer c1,.pointer c2,.pointer c3] W λ e w'=>e= .returned (.int .i64 0)/\PF E w' P D A k fb db cap pg false/\ay w' c1 #[.int .i64 (dG (A.c pg) 0).toNat]/\ay w' c3 #[.string (str (((A.c pg).drop 4).take (min m 500)))]/\Kept (λ j=>E j/\j≠c1/\j≠c3) W w':=by
 have HB:=zH (yK h);obtain⟨y,y1,y2,y3,y4,y5⟩:=h.bytes;have e0:dG (A.c pg) 0=dG y 0:=by rw[<-y3];exact Qb y 0 504 (by decide)
 have e4:((A.c pg).drop 4).take (min m 500)=(y.drop 4).take (min m 500):=by rw[<-y3];exact Vr y 4 (min m 500) 504 (by omega)
 rw[e0,e4];have HW0:=zH (Qa y1 0 504 cap (by omega) (by omega));have H0:=zH (zA h (zA y1 (zA b1 (zA b2 b3))));have hcap:=zH (zA y2 y4);clear h y1 b1 b2 b3 e0 e4 y3 y5;generalize hu0:dG y 0=u0 at HW0 ⊢;clear hu0
 go_enter Tryz.func213,Tryz.ntmps213
 go_wp2_with fail
 refine HB.out.mono ?_;rintro e w1 ⟨rfl,rfl⟩
 go_wp2_with fail
 refine HW0.out.mono ?_;rintro e w2 ⟨rfl,hb2⟩;obtain⟨h,y1,b1,b2,b3⟩:=H0.out;have h':=h.next hb2;have k2:=h.kept hb2;have b1':=b1.next hb2;have d1:=b1'.c0;have f1:=b1'.free 0;obtain⟨p3,k3,b13⟩:=h'.sF h1 t1 b1' (.int .i64 u0.toNat);have qZ:=(b2.next hb2).far (b:=c1) (j:=0) (.int .i64 u0.toNat) n12.symm;have JA:=(b3.next hb2).far (b:=c1) (j:=0) (.int .i64 u0.toNat) n13.symm
 have y13:=(y1.below hb2 y1.lt).far ⟨c1,0,none⟩ (.int .i64 u0.toNat) (λ e=>by
  obtain⟨_,_,_,_,_,h5⟩:=h.bytes;exact h5 (e▸h1))
 have K3:=zH ((k2.mono (T:=λ j=>E j/\j≠c1) (λ _ (hj:E _/\_)=>hj.1)).trans k3);clear HB HW0 H0 h y1 b1 b2 b3 h' k2 b1' hb2 k3
 go_wp2_with fail
 generalize w2.setCell c1 (.int .i64 u0.toNat)=w3 at p3 b13 qZ JA y13 K3 ⊢;have bd:Below w3 w3 w3.drew:=(aV _ _).drew;have p4:=p3.next bd;have k4:=p3.kept bd;have JB:=zH (yK p4);have d2:=qZ.drew.c0;have d3:=JA.drew.c0;have f3:w3.drew.frozen? ⟨c3,0,none⟩=false:=JA.drew.free 0;have hcv:=UK.tY (P:=Tryz.prog) (src:=94) (dst:=9) Tryz.underlying94 Tryz.underlying5 Tryz.underlying9 y13.drew 4 (min m 500) (cap-4) (by have:=hcap.out;omega);have H4:=zH (zA p4 (zA b13.drew (zA JA.drew k4)))
 have Dl:∀(ts:Array TypeId) (t:TypeId) (w:World),(Builtin.min_ ts t #[.int .i64 (m:Int),.int .i64 500]).run Tryz.prog w= .ok (.int .i64 ((min m 500:Nat):Int)) w:=λ ts t w=>by
  rw[run_min_int2]
  congr 2
  by_cases h:(500:Int)<m
  ·rw[if_pos h];omega
  rw[if_neg h];omega
 have hr5:min m 500<=500:=Nat.min_le_right _ _;generalize hr:min m 500=r at hcv Dl hr5 ⊢;have i1:(4:Int)+r<=cap:=by have:=hcap.out;omega
 have i2:¬(cap=4):=by have:=hcap.out;omega
 have i3:(4:Int)<=4+(r:Int):=by omega
 have i4:(0:Int)<=4+(r:Int):=by omega
 have i5:(4+(r:Int)).toNat=4+r:=by omega
 have i6:IntKind.i64.wrap (4+(r:Int))=4+r:=by rw[dJ];omega
 have i7:4+r-4=r:=by omega
 have HRR:=zH hr;clear p3 b13 qZ JA bd p4 k4 hr
 go_region_with (first
  | (go_at_call 116;refine JB.out.mono ?_;rintro e w5 ⟨rfl,rfl⟩))
 all_goals
  obtain⟨p4,b14,Jy,k4⟩:=H4.out;obtain⟨q1,q2,q3⟩:=p4.sF h3 t3 Jy (.string (str ((y.drop 4).take r)));have q4:=b14.far (b:=c3) (j:=0) (.string (str ((y.drop 4).take r))) n13
  have H5:Hid (PF E ((w3.setCell c3 (.string (str ((y.drop 4).take r)))).drew) P D A k fb db cap pg false/\ay ((w3.setCell c3 (.string (str ((y.drop 4).take r)))).drew) c1 #[.int .i64 u0.toNat]/\ay ((w3.setCell c3 (.string (str ((y.drop 4).take r)))).drew) c3 #[.string (str ((y.drop 4).take r))]/\Kept (λ j=>E j/\j≠c1/\j≠c3) w1 ((w3.setCell c3 (.string (str ((y.drop 4).take r)))).drew)):=
   ⟨q1,q4,q3,((K3.out.mono (T:=λ j=>E j/\j≠c1/\j≠c3) (λ _ (hj:E _/\_/\_)=>⟨hj.1,hj.2.1⟩)).trans (k4.mono (λ _ (hj:E _/\_/\_)=>hj.1))).trans (q2.mono (λ _ (hj:E _/\_/\_)=>⟨hj.1,hj.2.2⟩))⟩
  clear JB H4 K3 p4 b14 Jy k4 q1 q2 q3 q4 hcv Dl y13;go_wp2;go_ret;rw[HRR.out];exact⟨rfl,H5.out⟩
end
end Go.Proofs.YtgpmiliahonaoaaGreatDoor
