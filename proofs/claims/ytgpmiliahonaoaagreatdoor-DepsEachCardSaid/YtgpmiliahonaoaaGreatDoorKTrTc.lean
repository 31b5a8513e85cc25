/- Facts on texts and trees on pages. -/
import Derived.Test.YtgpmiliahonaoaaGreatDoorKHfQc
import Derived.Deep.RegionHeld
set_option maxRecDepth 100000
set_option maxHeartbeats 8000000
set_option linter.unusedSimpArgs false
namespace Go.Proofs.YtgpmiliahonaoaaGreatDoor
open Go.RowKit
open UK (str aF nth Only Row ay w32)
open SR (aM aW total)
open SL (hole add trim room live)
open Go.BigFrame
def yZ(l:List (List UInt8))(i:Nat)(r:List UInt8):Bool:=decide (4+4*l.length+total l+r.length<=504+(aW l i).length)
theorem VX{S:Nat->Prop}{a w:World}{c:Nat}{v:Value}(h:Kept S a w)(hc:S c)(f:a.cell? c=some v):w.cell? c=some v:=(gq (a:=⟨c,0,none⟩) (h.block c hc)).trans f
theorem VY{w:World}{c d:Nat}{v:Value}(hn:c≠d)(x:Value)(f:w.cell? c=some v):(w.setCell d x).cell? c=some v:=(gq (a:=⟨c,0,none⟩) (Below.heap_setCell w _ x c hn)).trans f
section
variable{Fo:Nat->Prop}{Co:Nat->List UInt8}{E F:Nat->Prop}{W W':World}{P D k fb db cap pg root H c1 c2 c3 i:Nat}{A:AP}{s:List UInt8}{L:List (List UInt8)}{v3:Value}
def JL(E:Nat->Prop)(w:World)(P D:Nat)(A:AP)(k fb db cap pg i:Nat)(L:List (List UInt8))(r:List UInt8):Prop:=
 (yZ L i r=true/\∃z,aM z (L.set i r)/\z.length=504/\PF E w P D (A.ak pg z) k fb db cap pg true)\/(yZ L i r=false/\PF E w P D (A.keep pg) k fb db cap pg true)
theorem xt7{r:List UInt8}(h:PF E W P D (A.keep pg) k fb db cap pg true)(hr:aM (A.c pg) L)(hi:i<L.length)(hrc:aW L i≠[])(hrn:r≠[])(h3:E c3)(b3:ay W c3 #[v3]) :
  Calls Tryz.prog 179 #[.slice db 504 cap,.int .i64 i,.string (str r)] W λ e w'=>e= .returned (.bool (yZ L i r))/\w'.cell? c3=some v3/\w'.frozen? ⟨c3,0,none⟩=false/\ay w' c3 #[v3]/\JL E w' P D A k fb db cap pg i L r/\Kept E W w':=by
 obtain⟨y,y1,y2,y3,y4,y5⟩:=h.bytes;have y3:y.take 504=A.c pg:=y3;have ES:c3≠db:=λ e=>y5 (e▸h3);by_cases hf:4+4*L.length+total L+r.length<=504+(aW L i).length
 ·refine(SL.BV db y L cap (by omega) i r W y1 (hr.nz (by omega) y3) hi hrc hrn hf).mono ?_;rintro e w' ⟨he,⟨z,z1,z2,z3⟩,o⟩;obtain⟨p,kk⟩:=h.write o z1 (z3.trans y2);have q3:=b3.only o ES;have za:yZ L i r=true:=decide_eq_true hf;rw[za];exact⟨he,q3.cell 0 _ rfl,q3.free 0,q3,.inl ⟨za,z.take 504,z2.cut,by rw[zt];omega,p⟩,kk⟩
 refine(SL.BX db y L cap i r W y1 (hr.nz (by omega) y3) hi hrc hrn (by omega)).mono ?_;rintro e w' ⟨he,bl⟩;have q3:=b3.next bl;have za:yZ L i r=false:=decide_eq_false hf;rw[za];exact⟨he,q3.cell 0 _ rfl,q3.free 0,q3,.inr ⟨za,h.next bl⟩,h.kept bl⟩
theorem JL.sF{c:Nat}{v:Value}{r:List UInt8}{w:World}(h:JL E w P D A k fb db cap pg i L r)(h2:E c)(t2:0 ≠c)(b2:ay w c #[v])(b:Value) :
  JL E (w.setCell c b) P D A k fb db cap pg i L r/\Kept (λ j=>E j/\j≠c) w (w.setCell c b)/\ay (w.setCell c b) c #[b]:=by
 rcases h with⟨a,z,x,y,p⟩|⟨a,p⟩
 ·obtain⟨q1,q2,q3⟩:=p.sF h2 t2 b2 b;exact⟨.inl ⟨a,z,x,y,q1⟩,q2,q3⟩
 obtain⟨q1,q2,q3⟩:=p.sF h2 t2 b2 b;exact⟨.inr ⟨a,q1⟩,q2,q3⟩
theorem xxc(hs:s.length<=300)(h:PF E W P D A k fb db cap pg false)(hk:k<900000000)(hr:aM (A.c pg) L)(hp:pg<=60000)(hi2:i<256)(hi:i<L.length)(hrc:aW L i≠[])(b1:ay W c1 #[.int .u64 ((pg*256+i:Nat):Int)])(b2:ay W c2 #[.string (str s)])(b3:ay W c3 #[v3])(h1:E c1)(h2:E c2)(h3:E c3)(t3:0 ≠c3)(n13:c1≠c3)(n23:c2≠c3) :
  Calls Tryz.prog 178 #[.pointer fb,.pointer c1,.pointer c2,.pointer c3] W λ e w'=>e= .returned (.int .i64 0)/\JL E w' P D A (k+1) fb db cap pg i L (0::s)/\ay w' c3 #[.bool (yZ L i (0::s))]/\Kept (λ j=>E j/\j≠c3) W w':=by
 have hlt:=h.there;have bd:Below W W W.drew:=(aV _ _).drew;have hand:=MR pg i hp hi2;have GN:Hid (IntKind.i64.wrap (i:Int)=(i:Int)):=by show _=_;rw[dJ];omega
 generalize hn:pg*256+i=n at hand b1;have p0:=h.next bd;have k0:=h.kept bd
 -- the new bytes ahead of aai
 have a1:Below W.drew.heap.size W.drew (W.drew.alloc (.cells #[.int .u8 0] 5)):=(aV _ _).alloc (aO _) _
 have p1:=p0.wide a1 (T:=λ j=>E j\/j=W.heap.size) (λ j hj=>by
  rcases hj with hj|hj
  ·exact .inl hj
  exact .inr (by rw[hj];simp))
 have y1:aF (W.drew.alloc (.cells #[.int .u8 0] 5)) W [0]:=oG W.drew;have xL:∀w,aF w W [0]->(convert 94 9 (.slice W 1 1)).run Tryz.prog w= .ok (.string (str [0])) w:=λ w hy=>UK.tY (P:=Tryz.prog) (src:=94) (dst:=9) Tryz.underlying94 Tryz.underlying5 Tryz.underlying9 hy 0 1 1 (by decide);have JM:=xL _ y1;have d1:=b1.drew.c0;have d2:=b2.drew.c0;have Qz:=(b1.drew.next a1).c0;have Q0:=(b2.drew.next a1).c0;have JN:(convert 94 9 (.slice W 1 1)).run Tryz.prog (W.alloc (.cells #[.int .u8 0] 5)).drew= .ok (.string (str [0])) (W.alloc (.cells #[.int .u8 0] 5)).drew:=JM;have d1b:(W.alloc (.cells #[.int .u8 0] 5)).drew.cell? c1=some (.int .u64 (n:Int)):=Qz;have d2b:(W.alloc (.cells #[.int .u8 0] 5)).drew.cell? c2=some (.string (str s)):=Q0
 have VZ:=zH ((yI p0 hk).mono (R':=λ e w'=>e= .returned (.slice db 504 cap)/\w'.cell? c1=some (.int .u64 (n:Int))/\w'.cell? c2=some (.string (str s))/\(w'.alloc (.cells #[.int .u8 0] 5)).cell? c1=some (.int .u64 (n:Int))/\(w'.alloc (.cells #[.int .u8 0] 5)).cell? c2=some (.string (str s))/\(convert 94 9 (.slice w' 1 1)).run Tryz.prog (w'.alloc (.cells #[.int .u8 0] 5))= .ok (.string (str [0])) (w'.alloc (.cells #[.int .u8 0] 5))/\PF E (w'.alloc (.cells #[.int .u8 0] 5)) P D (A.keep pg) (k+1) fb db cap pg true/\ay (w'.alloc (.cells #[.int .u8 0] 5)) c3 #[v3]/\Kept E W (w'.alloc (.cells #[.int .u8 0] 5))) (λ _ w' ⟨a,b,c⟩=>by
  have q1:=b1.drew.ae (c.block _ h1);have q2:=b2.drew.ae (c.block _ h2);have al:Below w' w' (w'.alloc (.cells #[.int .u8 0] 5)):=(aV _ _).alloc (aO _) _;exact⟨a,q1.cell 0 _ rfl,q2.cell 0 _ rfl,(q1.next al).cell 0 _ rfl,(q2.next al).cell 0 _ rfl,UK.tY (P:=Tryz.prog) (src:=94) (dst:=9) Tryz.underlying94 Tryz.underlying5 Tryz.underlying9 (oG w') 0 1 1 (by decide),b.next al,(b3.drew.ae (c.block _ h3)).next al,(k0.trans c).trans (b.kept al)⟩))
 have HE2:=zH ((yI p1 hk).mono (R':=λ e w'=>e= .returned (.slice db 504 cap)/\w'.cell? c1=some (.int .u64 (n:Int))/\w'.cell? c2=some (.string (str s))/\(convert 94 9 (.slice W 1 1)).run Tryz.prog w'= .ok (.string (str [0])) w'/\PF E w' P D (A.keep pg) (k+1) fb db cap pg true/\ay w' c3 #[v3]/\Kept E W w') (λ _ w' ⟨a,b,c⟩=>by
  have q1:=(b1.drew.next a1).ae (c.block _ (.inl h1));have q2:=(b2.drew.next a1).ae (c.block _ (.inl h2));exact⟨a,q1.cell 0 _ rfl,q2.cell 0 _ rfl,xL w' (y1.ae (c.block _ (.inr rfl))),b.less (λ j hj=>.inl hj),(b3.drew.next a1).ae (c.block _ (.inl h3)),(k0.trans (p0.kept a1)).trans (c.mono (λ j hj=>.inl hj))⟩))
 have hsz:(str [0]).size+(str s).size<=9223372036854775807:=by rw[UK.dY,UK.dY,iE];omega
 have hadd:∀w:World,(Op.stringOp .add (str [0]) (str s)).run Tryz.prog w= .ok (.string (str (0::s))) w:=λ w=>by
  have:=run_string_add_sum (P:=Tryz.prog) (w:=w) (str [0]) (str s) hsz;rw[UK.uz]at this;exact this
 have HRR:=zH (zA hr (zA hi hrc));clear h p0 k0 p1 a1 y1 xL b1 b2 b3 bd hr hi hrc hlt
 go_enter Tryz.func178,Tryz.ntmps178
 go_wp2_with fail
 go_region_held (λ w:World=>w.cell? c1=some (.int .u64 (n:Int))/\w.cell? c2=some (.string (str s))) (first|exact⟨d1,d2⟩|exact⟨Qz,Q0⟩|exact⟨m1,m2⟩|exact⟨m3,m4⟩|exact⟨m8,m9⟩|exact⟨VY n13 _ m8,VY n23 _ m9⟩) (first
  | (go_at_call 64;refine VZ.out.mono ?_;rintro e w3 ⟨rfl,m1,m2,m3,m4,m5,p3,q3,k3⟩;replace p3:=zH p3;replace q3:=zH q3;replace k3:=zH k3)
  | (go_at_call 64;refine HE2.out.mono ?_;rintro e w3 ⟨rfl,m1,m2,m5,p3,q3,k3⟩;replace p3:=zH p3;replace q3:=zH q3;replace k3:=zH k3)
  | (go_at_call 179;(try rw[GN.out]);refine(xt7 p3.out HRR.out.1 HRR.out.2.1 HRR.out.2.2 (List.cons_ne_nil _ _) h3 q3.out).mono ?_;rintro e w4 ⟨rfl,m6,m7,q4,p4,k4⟩;have m8:=VX k4 h1 (by first|exact m3|exact m1);have m9:=VX k4 h2 (by first|exact m4|exact m2);replace p4:=zH p4;replace q4:=zH q4;replace k4:=zH k4))
 all_goals
  obtain⟨z1,z2,z3⟩:=p4.out.sF h3 t3 q4.out (.bool (yZ L i (0::s)));have H5:=zH (zA z1 (zA z3 (((k3.out.trans k4.out).mono (T:=λ j=>E j/\j≠c3) (λ _ (hj:E _/\_)=>hj.1)).trans z2)));clear VZ HE2 p3 q3 k3 p4 q4 k4 z1 z2 z3 m1 m2 m5 m6 m7 Qz Q0 d1b d2b JM JN;go_wp2;go_ret;exact⟨rfl,H5.out⟩
end
section
variable{Fo:Nat->Prop}{Co:Nat->List UInt8}{E F:Nat->Prop}{W W':World}{P D k fb db cap pg root H:Nat}{A B C:AP}{rp:List Nat}{L:Nat->List (List UInt8)}{X:List HT}{t:HT}{s:List UInt8}
theorem HZ.less{T:Nat->Prop}(h:HZ Fo Co E W P D H k A root pg rp L X)(hT:∀j,T j->E j)(hH:T H):HZ Fo Co T W P D H k A root pg rp L X:=⟨h.pz.less hT,h.good,h.box,hH,h.hi,h.few,h.far⟩
theorem HZ.up{m:Nat}(h:HZ Fo Co E W P D H k A root pg rp L X)(hm:k<=m):HZ Fo Co E W P D H m A root pg rp L X:=⟨h.pz.up hm,h.good,h.box,h.mem,h.hi,h.few,h.far⟩
def ycr(Fo:Nat->Prop)(Co:Nat->List UInt8)(E:Nat->Prop)(W W':World)(P D H k:Nat)(A:AP)(root:Nat)(t:HT)(s:List UInt8)(X:List HT)(e:Ending):Prop:=
 (∃u B xh rp' L',e= .returned (.tuple #[.int .u64 (bK u:Nat),.int .i64 0])/\u.s=s/\HZ Fo Co E W' P D H (k+(t.s.length+s.length+100)) B root xh rp' L' (u::X)/\A.Reach B/\Kept E W W') \/
 (∃B1 B Ut Uu L1,e= .returned (.tuple #[.int .u64 0,.int .i64 6])/\HI (B1.fe Fo) root Ut Uu L1 X/\A.Reach B1/\A.Reach B/\500*B1.bu<s.length+500/\PZ E W' P D B (k+(t.s.length+s.length+100))/\Kept E W W')
theorem xxd(h:HI (A.fe Fo) root pg rp L (t::X))(ht:t.s.length<=300)(hs:s.length<=300){z:List UInt8}(hz:aM z ((L t.pg).set t.i (0::s))) :
  HI ((A.ak t.pg z).fe Fo) root pg rp (λ p=>if p=t.pg then(L t.pg).set t.i (0::s) else L p) (⟨t.pg,t.i,s,[]⟩::X):=by
 have h1:qc A.c t:=h.long t (aT ..);unfold qc at h1;rw[if_pos ht]at h1;have e:BO ⟨t.pg,t.i,s,[]⟩=0::s:=by unfold BO;rw[if_pos hs]
 have:=h.swap (u:=⟨t.pg,t.i,s,[]⟩) (B:=((A.ak t.pg z).fe Fo)) (y:=z) (λ p=>and_congr_left λ _=>AP.aA) rfl rfl h1 rfl hs (by rw[e];exact hz) (by show(A.ak t.pg z).c t.pg=z;rw[AP.aL,if_pos rfl]) (λ p _ hp=>by show(A.ak t.pg z).c p=A.c p;rw[AP.aL,if_neg (dz hp)]);rw[e]at this;exact this
theorem xxe(h:HZ Fo Co E W P D H k A root pg rp L (t::X))(hk:k+(t.s.length+s.length+100)<900000000)(hs4:s.length<=400000) :
  Calls Tryz.prog 105 #[.pointer H,.int .u64 (bK t:Nat),.string (str s)] W λ e w'=>ycr Fo Co E W w' P D H k A root t s X e:=by
 have ht:=h.pz.tab.lt;have hE0:=h.pz.there;obtain⟨hr1,hr2,hr3⟩:=h.hi.each t (aT ..);have iG:A.Has t.pg:=(h.hi.nS hr1).1
 have wy:t.pg<=60000:=by
  have:=iG.2.1;have:=h.pz.oJ;omega
 have hi:=h.hi.slot (aT (a:=t) (l:=X));have a1:Below W W (W.alloc (.cells #[.int .u64 ((bK t:Nat):Int)] 77)):=(aV _ _).alloc (aO _) _;have hs1:(W.alloc (.cells #[.int .u64 ((bK t:Nat):Int)] 77)).heap.size=W.heap.size+1:=by simp
 have x1:=ay.new W #[.int .u64 ((bK t:Nat):Int)] 77;generalize uZ:W.alloc (.cells #[.int .u64 ((bK t:Nat):Int)] 77)=wa at a1 hs1 x1;have a2:=a1.alloc (by omega) (.cells #[.string (str s)] 9);have hs2:(wa.alloc (.cells #[.string (str s)] 9)).heap.size=W.heap.size+2:=by simp[hs1]
 have x2:=ay.new wa #[.string (str s)] 9;rw[hs1]at x2;have lY:=x1.alloc (.cells #[.string (str s)] 9);generalize hwc:wa.alloc (.cells #[.string (str s)] 9)=wc at a2 hs2 x2 lY
 have oC:Hid ((W.alloc (.cells #[.int .u64 ((bK t:Nat):Int)] 77)).alloc (.cells #[.string (str s)] 9)=wc):=by
  show _=_;rw[uZ,hwc]
 have hz2:HZ Fo Co (λ j=>E j\/j=W.heap.size\/j=W.heap.size+1) wc P D H k A root pg rp L (t::X):=⟨h.pz.wide a2 (λ j hj=>by
  rcases hj with hj|hj|hj
  ·exact .inl hj
  ·exact .inr (by omega)
  exact .inr (by omega)),h.good,h.box.below a2 h.box.lt,.inl h.mem,h.hi,h.few,h.far⟩
 have k2:Kept E W wc:=h.pz.kept a2;have HF:=zH (hz2.find (aT ..) (by omega));have HZ2:=zH (zA hz2 (zA k2 (zA lY x2)));have HN:=zH (zA wy (zA hi (zA hE0 ht)));have Dx:Hid (((bK t:Nat):Int)/256=(t.pg:Int)):=by show _=_;unfold bK;omega
 have GR:Hid ((bK t:Nat)=t.pg*256+t.i):=rfl;have HH:=zH h;have hXl:X.length<=1000000:=by have:=h.few;rw[dn]at this;omega
 have hxs:(s.length:Int)<=400000:=by omega
 clear h x1 lY x2 a1 a2 hs1 hs2 uZ hwc hE0 ht hz2 k2 hr1 hr2 iG wy hi;have aaj:Hid ((bK t:Nat)=bK t):=rfl;generalize hnn:(bK t:Nat)=n at oC HF HZ2 Dx GR ⊢;have EE:=zH hnn;clear hnn;by_cases hs:t.s.length<=300
 ·have hrec:=Qx t.s t.ch hs;have hn0:nth (bY t.s t.ch) 0=0:=by rw[hrec];rfl
  have sH:((nth (bY t.s t.ch) 0).toNat:Int)=0:=by rw[hn0];rfl
  have hl0:(0:Int)<(bY t.s t.ch).length:=by rw[hrec,dn];omega
  have HS:=zH hs;clear hrec hs;generalize bY t.s t.ch=rec at HF hn0 sH hl0;by_cases hss:s.length<=300
  ·have hsi:(s.length:Int)<=300:=by omega
   go_enter Tryz.func105,Tryz.ntmps105
   have hsx:((W.alloc (.cells #[.int .u64 ((n:Nat):Int)] 77)).alloc (.cells #[.string (str s)] 9)).cell? ⟨W.heap.size+1,0,none⟩=some (.string (str s)):=by rw[oC.out];exact HZ2.out.2.2.2.cell 0 _ rfl
   have hix:((W.alloc (.cells #[.int .u64 ((n:Nat):Int)] 77)).alloc (.cells #[.string (str s)] 9)).cell? W.heap.size=some (.int .u64 (n:Int)):=by rw[oC.out];exact HZ2.out.2.2.1.cell 0 _ rfl
   rw[<-oC.out]at HF
   go_wp2_with fail
   refine HF.out.mono ?_;rintro e w3 ⟨rfl,p3,k3⟩;rw[oC.out]at k3;obtain⟨hz2,k2,x1,x2⟩:=HZ2.out;have y1:=x1.ae (k3.block _ (.inr (.inl rfl)));have y2:=x2.ae (k3.block _ (.inr (.inr rfl)));have Q3:=hz2.box.ae (k3.block _ hz2.mem);have e2:=y2.c0;have e1:=y1.c0;obtain⟨wy,⟨hi1,hi2⟩,hE0,ht0⟩:=HN.out;have hrc:aW (L t.pg) t.i≠[]:=by rw[(hz2.hi.each t (aT ..)).2.1];exact BP t
   have Ai:=(hz2.hi.each t (aT ..)).1;have hrr:=(hz2.hi.recs t.pg Ai).1;have iG:A.Has t.pg:=(hz2.hi.nS Ai).1;have a5:Below w3 w3 (w3.alloc (.cells #[.bool false] 4)):=(aV _ _).alloc (aO _) _;have hs5:(w3.alloc (.cells #[.bool false] 4)).heap.size=w3.heap.size+1:=by simp
   have x5:=ay.new w3 #[.bool false] 4;have Q4:W.heap.size+2<=w3.heap.size:=by have:=y2.lt;omega
   generalize hwv:w3.alloc (.cells #[.bool false] 4)=wv at a5 hs5 x5
   have p6:=(p3.wide a5 (T:=λ j=>(E j\/j=W.heap.size\/j=W.heap.size+1)\/j=w3.heap.size) (λ j hj=>by
    rcases hj with hj|hj
    ·exact .inl hj
    exact .inr (by omega))).next (aV _ _).drew
   have k6:Kept (λ j=>E j\/j=W.heap.size\/j=W.heap.size+1) w3 wv.drew:=p3.kept a5.drew;have f0:=(Q3.below a5 Q3.lt).c0;have f1:=(y1.below a5 y1.lt).c0
   have HW:=zH (BK (N:=178) (kV:= #[.pointer W,.pointer (some ⟨W.heap.size+1,0,none⟩),.pointer w3]) (F:=λ j=>E j\/j=W.heap.size\/j=W.heap.size+1)
    (R:=λ A' k' r w'=>r=0/\k'=k+2+2+1/\ay w' w3 #[.bool (yZ (L t.pg) t.i (0::s))]/\((yZ (L t.pg) t.i (0::s)=true/\∃z,aM z ((L t.pg).set t.i (0::s))/\A'=A.ak t.pg z)\/(yZ (L t.pg) t.i (0::s)=false/\A'=A.keep t.pg)))
    (yJ Tryz.func178 (by kernel_rfl) (by kernel_rfl)) p6 (by omega) iG (λ j hj=>.inl hj) (λ fb db cap w lq hkk=>by
     have z1:=((y1.below a5 y1.lt).drew).ae (hkk.block _ (.inl (.inr (.inl rfl))));have z2:=((y2.below a5 y2.lt).drew).ae (hkk.block _ (.inl (.inr (.inr rfl))));have z3:=x5.drew.ae (hkk.block _ (.inr rfl));rw[GR.out]at z1;refine(xxc hss lq (by omega) hrr wy (by omega) hi1 hrc z1 z2 z3 (.inl (.inr (.inl rfl))) (.inl (.inr (.inr rfl))) (.inr rfl) (by omega) (by omega) (by omega)).mono ?_;rintro e w' ⟨he,hsp,q2,q3⟩;have q3':=q3.mono (T:=λ j=>E j\/j=W.heap.size\/j=W.heap.size+1) (λ j hj=>⟨.inl hj,by have:=p3.there j hj;omega⟩);rcases hsp with⟨a,z,b1,b2,b3⟩|⟨a,b3⟩
     ·exact⟨0,_,_,true,he,b3,q3',rfl,rfl,q2,.inl ⟨a,z,b1,rfl⟩⟩
     exact⟨0,_,_,true,he,b3,q3',rfl,rfl,q2,.inr ⟨a,rfl⟩⟩))
   have HWV:=zH hwv;have K6:=zH (k3.trans k6);clear HF p3 k3 hz2 k2 x1 x2 y1 y2 Q3 hrc Ai hrr iG a5 hs5 x5 Q4 hwv p6 k6 hsx hix hE0
   go_wp2_with fail
   rw[HWV.out];have hdv:=Dx.out
   go_still_tail 8,(by kernel_rfl)
   change wpList _ _ _ _ _ wv.drew
   go_wp2_with fail
   refine HW.out.mono ?_;rintro e w4 ⟨r,A',k',w1',rfl,⟨rfl,rfl,b5,oH⟩,p7,k7,k8⟩;have d5:w4.cell? w3.heap.size=some (.bool (yZ (L t.pg) t.i (0::s))):=(b5.ae (k7.block _ (.inr rfl))).cell 0 _ rfl;have k9:=K6.out.trans k8;have e3:w4.cell? W.heap.size=some (.int .u64 (n:Int)):=(HZ2.out.2.2.1.ae (k9.block _ (.inr (.inl rfl)))).cell 0 _ rfl;have u6:A.Has t.pg:=(HZ2.out.1.hi.nS (HZ2.out.1.hi.each t (aT ..)).1).1;rcases oH with⟨za,z,hz,rfl⟩|⟨za,rfl⟩
   ·rw[za]at d5;have H7:=zH (zA hz (zA ((p7.less (T:=E) (λ j hj=>.inl (.inl hj))).up (show k+2+2+1<=k+(t.s.length+s.length+100) by omega)) (zA (HZ2.out.2.1.trans (k9.mono (λ j hj=>.inl hj))) u6)));clear HW p7 k7 k8 b5 k9 hz u6 za;go_wp2;go_ret2;obtain⟨hz,p7,k9,u6⟩:=H7.out;have jh:=(AP.Reach.refl A).ak u6 z;exact .inl ⟨⟨t.pg,t.i,s,[]⟩,_,pg,rp,_,by rw[show bK ⟨t.pg,t.i,s,[]⟩=n from EE.out]<;>rfl,rfl,⟨p7,jh.good HH.out.good,HH.out.box.ae (k9.block H HH.out.mem),HH.out.mem,xxd HH.out.hi HS.out hss hz,HH.out.few,HH.out.far.ak (HH.out.hi.Aj (HH.out.hi.each t (aT ..)).1) _⟩,jh,k9⟩
   rw[za]at d5;have HM:=zH (show HZ Fo Co (λ j=>E j\/j=W.heap.size\/j=W.heap.size+1) w4 P D H (k+10) (A.keep t.pg) root pg rp L (t::X)/\A.Reach (A.keep t.pg)/\Kept (λ j=>E j\/j=W.heap.size\/j=W.heap.size+1) wc w4 from⟨⟨(p7.less (λ j hj=>.inl hj)).up (by omega),HZ2.out.1.good.keep _,HZ2.out.1.box.ae (k9.block _ HZ2.out.1.mem),HZ2.out.1.mem,HZ2.out.1.hi.same (λ p=>and_congr_left λ _=>AP.oK) (λ p _=>rfl),HZ2.out.1.few,HZ2.out.1.far.like rfl (λ p hp=>AP.oK.2 (HZ2.out.1.far p hp).1)⟩,(AP.Reach.refl A).keep u6,k9⟩);clear HW p7 k7 k8 b5 k9 u6 za e1 e2 e3;obtain⟨AV,rb,kb⟩:=HM.out;have e1:w4.cell? W.heap.size=some (.int .u64 (n:Int)):=(HZ2.out.2.2.1.ae (kb.block _ (.inr (.inl rfl)))).cell 0 _ rfl;have e2:w4.cell? ⟨W.heap.size+1,0,none⟩=some (.string (str s)):=(HZ2.out.2.2.2.ae (kb.block _ (.inr (.inr rfl)))).cell 0 _ rfl;have hdd:=Mo AV (by omega);rw[EE.out]at hdd;have HD:=zH hdd;clear AV rb kb hdd
   go_wp2_with fail
   refine HD.out.mono ?_;rintro e w5 ⟨B5,JO,L5,rfl,zb,r5,k5⟩;have nN:=HM.out.2.2.trans k5;have e3:w5.cell? ⟨W.heap.size+1,0,none⟩=some (.string (str s)):=(HZ2.out.2.2.2.ae (nN.block _ (.inr (.inr rfl)))).cell 0 _ rfl
   have HP:=zH (Mq (s:=s) zb (by omega) hs4 (by
    have:=HH.out.few;rw[dn]at this;omega))
   have H5:=zH (zA zb.hi (zA (HM.out.2.1.trans r5) nN));clear HD zb r5 k5 nN
   go_wp2_with fail
   refine HP.out.mono ?_;rintro e w6 (⟨u,B6,JP,JQ,L6,rfl,hu,ve,r6,k6⟩|⟨B6,rfl,r6,q6,p6,k6⟩)
   ·have H6:=zH (zA hu (zA ve (zA r6 k6)));clear HP hu ve r6 k6;go_wp2;go_ret2;obtain⟨hu,ve,r6,k6⟩:=H6.out;exact .inl ⟨u,B6,JP,JQ,L6,rfl,hu,(ve.less (λ j hj=>.inl hj) HH.out.mem).up (by omega),H5.out.2.1.trans r6,(HZ2.out.2.1.trans ((H5.out.2.2.trans k6).mono (λ j hj=>.inl hj)))⟩
   have H6:=zH (zA q6 (zA p6 (zA r6 k6)));clear HP q6 p6 r6 k6;go_wp2;go_ret2;obtain⟨q6,p6,r6,k6⟩:=H6.out;exact .inr ⟨B5,B6,_,JO,L5,rfl,H5.out.1,H5.out.2.1,H5.out.2.1.trans r6,q6,(p6.less (λ j hj=>.inl hj)).up (by omega),(HZ2.out.2.1.trans ((H5.out.2.2.trans k6).mono (λ j hj=>.inl hj)))⟩
  have hsi:¬(s.length:Int)<=300:=by omega
  go_enter Tryz.func105,Tryz.ntmps105
  have hsx:((W.alloc (.cells #[.int .u64 ((n:Nat):Int)] 77)).alloc (.cells #[.string (str s)] 9)).cell? ⟨W.heap.size+1,0,none⟩=some (.string (str s)):=by rw[oC.out];exact HZ2.out.2.2.2.cell 0 _ rfl
  have hix:((W.alloc (.cells #[.int .u64 ((n:Nat):Int)] 77)).alloc (.cells #[.string (str s)] 9)).cell? W.heap.size=some (.int .u64 (n:Int)):=by rw[oC.out];exact HZ2.out.2.2.1.cell 0 _ rfl
  rw[<-oC.out]at HF
  go_wp2_with fail
  refine HF.out.mono ?_;rintro e w4 ⟨rfl,p3,k3⟩;rw[oC.out]at k3;have HM:=zH (show HZ Fo Co (λ j=>E j\/j=W.heap.size\/j=W.heap.size+1) w4 P D H (k+10) A root pg rp L (t::X)/\A.Reach A/\Kept (λ j=>E j\/j=W.heap.size\/j=W.heap.size+1) wc w4 from⟨⟨p3.up (by omega),HZ2.out.1.good,HZ2.out.1.box.ae (k3.block _ HZ2.out.1.mem),HZ2.out.1.mem,HZ2.out.1.hi,HZ2.out.1.few,HZ2.out.1.far⟩,AP.Reach.refl A,k3⟩);clear HF p3 k3 hsx hix;obtain⟨AV,rb,kb⟩:=HM.out;have e1:w4.cell? W.heap.size=some (.int .u64 (n:Int)):=(HZ2.out.2.2.1.ae (kb.block _ (.inr (.inl rfl)))).cell 0 _ rfl;have e2:w4.cell? ⟨W.heap.size+1,0,none⟩=some (.string (str s)):=(HZ2.out.2.2.2.ae (kb.block _ (.inr (.inr rfl)))).cell 0 _ rfl;have hdd:=Mo AV (by omega);rw[EE.out]at hdd;have HD:=zH hdd;clear AV rb kb hdd
  go_wp2_with fail
  refine HD.out.mono ?_;rintro e w5 ⟨B5,JO,L5,rfl,zb,r5,k5⟩;have nN:=HM.out.2.2.trans k5;have e3:w5.cell? ⟨W.heap.size+1,0,none⟩=some (.string (str s)):=(HZ2.out.2.2.2.ae (nN.block _ (.inr (.inr rfl)))).cell 0 _ rfl
  have HP:=zH (Mq (s:=s) zb (by omega) hs4 (by
   have:=HH.out.few;rw[dn]at this;omega))
  have H5:=zH (zA zb.hi (zA (HM.out.2.1.trans r5) nN));clear HD zb r5 k5 nN
  go_wp2_with fail
  refine HP.out.mono ?_;rintro e w6 (⟨u,B6,JP,JQ,L6,rfl,hu,ve,r6,k6⟩|⟨B6,rfl,r6,q6,p6,k6⟩)
  ·have H6:=zH (zA hu (zA ve (zA r6 k6)));clear HP hu ve r6 k6;go_wp2;go_ret2;obtain⟨hu,ve,r6,k6⟩:=H6.out;exact .inl ⟨u,B6,JP,JQ,L6,rfl,hu,(ve.less (λ j hj=>.inl hj) HH.out.mem).up (by omega),H5.out.2.1.trans r6,(HZ2.out.2.1.trans ((H5.out.2.2.trans k6).mono (λ j hj=>.inl hj)))⟩
  have H6:=zH (zA q6 (zA p6 (zA r6 k6)));clear HP q6 p6 r6 k6;go_wp2;go_ret2;obtain⟨q6,p6,r6,k6⟩:=H6.out;exact .inr ⟨B5,B6,_,JO,L5,rfl,H5.out.1,H5.out.2.1,H5.out.2.1.trans r6,q6,(p6.less (λ j hj=>.inl hj)).up (by omega),(HZ2.out.2.1.trans ((H5.out.2.2.trans k6).mono (λ j hj=>.inl hj)))⟩
 have hrec:=MS t.s t.ch (by omega);have hn0:nth (bY t.s t.ch) 0=1:=by rw[hrec];rfl
 have sH:((nth (bY t.s t.ch) 0).toNat:Int)=1:=by rw[hn0];rfl
 have hl0:(0:Int)<(bY t.s t.ch).length:=by rw[hrec];show(0:Int)<((9:Nat):Int);decide
 clear hrec hs;generalize bY t.s t.ch=rec at HF hn0 sH hl0
 go_enter Tryz.func105,Tryz.ntmps105
 have hsx:((W.alloc (.cells #[.int .u64 ((n:Nat):Int)] 77)).alloc (.cells #[.string (str s)] 9)).cell? ⟨W.heap.size+1,0,none⟩=some (.string (str s)):=by rw[oC.out];exact HZ2.out.2.2.2.cell 0 _ rfl
 have hix:((W.alloc (.cells #[.int .u64 ((n:Nat):Int)] 77)).alloc (.cells #[.string (str s)] 9)).cell? W.heap.size=some (.int .u64 (n:Int)):=by rw[oC.out];exact HZ2.out.2.2.1.cell 0 _ rfl
 rw[<-oC.out]at HF
 go_wp2_with fail
 refine HF.out.mono ?_;rintro e w4 ⟨rfl,p3,k3⟩;rw[oC.out]at k3;have HM:=zH (show HZ Fo Co (λ j=>E j\/j=W.heap.size\/j=W.heap.size+1) w4 P D H (k+10) A root pg rp L (t::X)/\A.Reach A/\Kept (λ j=>E j\/j=W.heap.size\/j=W.heap.size+1) wc w4 from⟨⟨p3.up (by omega),HZ2.out.1.good,HZ2.out.1.box.ae (k3.block _ HZ2.out.1.mem),HZ2.out.1.mem,HZ2.out.1.hi,HZ2.out.1.few,HZ2.out.1.far⟩,AP.Reach.refl A,k3⟩);clear HF p3 k3 hsx hix;obtain⟨AV,rb,kb⟩:=HM.out;have e1:w4.cell? W.heap.size=some (.int .u64 (n:Int)):=(HZ2.out.2.2.1.ae (kb.block _ (.inr (.inl rfl)))).cell 0 _ rfl;have e2:w4.cell? ⟨W.heap.size+1,0,none⟩=some (.string (str s)):=(HZ2.out.2.2.2.ae (kb.block _ (.inr (.inr rfl)))).cell 0 _ rfl;have hdd:=Mo AV (by omega);rw[EE.out]at hdd;have HD:=zH hdd;clear AV rb kb hdd
 go_wp2_with fail
 refine HD.out.mono ?_;rintro e w5 ⟨B5,JO,L5,rfl,zb,r5,k5⟩;have nN:=HM.out.2.2.trans k5;have e3:w5.cell? ⟨W.heap.size+1,0,none⟩=some (.string (str s)):=(HZ2.out.2.2.2.ae (nN.block _ (.inr (.inr rfl)))).cell 0 _ rfl
 have HP:=zH (Mq (s:=s) zb (by omega) hs4 (by
  have:=HH.out.few;rw[dn]at this;omega))
 have H5:=zH (zA zb.hi (zA (HM.out.2.1.trans r5) nN));clear HD zb r5 k5 nN
 go_wp2_with fail
 refine HP.out.mono ?_;rintro e w6 (⟨u,B6,JP,JQ,L6,rfl,hu,ve,r6,k6⟩|⟨B6,rfl,r6,q6,p6,k6⟩)
 ·have H6:=zH (zA hu (zA ve (zA r6 k6)));clear HP hu ve r6 k6;go_wp2;go_ret2;obtain⟨hu,ve,r6,k6⟩:=H6.out;exact .inl ⟨u,B6,JP,JQ,L6,rfl,hu,(ve.less (λ j hj=>.inl hj) HH.out.mem).up (by omega),H5.out.2.1.trans r6,(HZ2.out.2.1.trans ((H5.out.2.2.trans k6).mono (λ j hj=>.inl hj)))⟩
 have H6:=zH (zA q6 (zA p6 (zA r6 k6)));clear HP q6 p6 r6 k6;go_wp2;go_ret2;obtain⟨q6,p6,r6,k6⟩:=H6.out;exact .inr ⟨B5,B6,_,JO,L5,rfl,H5.out.1,H5.out.2.1,H5.out.2.1.trans r6,q6,(p6.less (λ j hj=>.inl hj)).up (by omega),(HZ2.out.2.1.trans ((H5.out.2.2.trans k6).mono (λ j hj=>.inl hj)))⟩
end
theorem Sm{W:World}{g c i:Nat}{l:List UInt64}(h:Row W g c (az l))(hl:l.length<=1000)(hi:i<l.length) :
  Calls Tryz.prog 215 #[.slice g l.length c,.int .i64 i,.int .i64 ((i:Int)+1)] W λ e w'=>e= .returned (.slice g (l.length-1) c)/\Row w' g c (az (l.take i++l.drop (i+1)))/\Only g W w':=by
 have aD:=dA l;have hle:=h.le;rw[aD]at hle;obtain⟨n,hn⟩:∃n,n=l.length:=⟨_,rfl⟩;have hz2:¬((i:Int)=(i:Int)+1):=by omega
 have hb2:¬(c=i):=by omega
 have htn:((i:Int)+1).toNat=i+1:=by omega
 have hb1:(0:Int)<=(i:Int)+1:=by omega
 have hin:(i:Int)+1<=(n:Int):=by omega
 have hic:i<=c:=by omega
 have yn:i+1<=n:=by omega
 have hsz:(Tryz.prog.info? 77).map (·.size)=some 1:=by kernel_rfl
 have h1c:∀m:List UInt64,∀u∈az m,u.oneCell'=true:=λ m u hu=>by
  unfold az at hu;obtain⟨x,_,rfl⟩:=bQ.1 hu;rfl
 have hdr:(az l).drop (i+1)=az (l.drop (i+1)):=by unfold az;rw[List.map_drop]
 have hdl:(az (l.drop (i+1))).length=n-(i+1):=by rw[dA,zd,hn]
 have h0:=h.drewN 1
 have happ:∀ao,(ao=(⟨g,i+1,none⟩:Addr)\/i+1=n)->∀sc,(Builtin.append_ #[88,88] 88 #[.slice g i c,.slice (some ao) (n-(i+1)) sc]).run Tryz.prog W.drew= .ok (.slice g (n-1) c) (W.drew.setCells g i (az (l.drop (i+1)))):=λ ao hao sc=>by
  have hs:Src Tryz.prog 1 88 (.slice (some ao) (n-(i+1)) sc) (n-(i+1)) (az (l.drop (i+1))) W.drew:=Src.ofSlice W.drew Tryz.underlying88 ao (n-(i+1)) sc _ (by rw[hdl,vQ]) (λ j u hj=>by
   rcases hao with rfl|e
   ·rw[UK.lQ];exact h0.at' (i+1+j) u (by rw[<-hdr,eY]at hj;exact hj)
   have:j<(az (l.drop (i+1))).length:=(dE.1 hj).1;rw[hdl]at this;omega) (h1c _)
  have hr:=run_append_room_src (P:=Tryz.prog) W.drew 88 88 88 77 Tryz.t77 Tryz.underlying88 rfl g 0 i c _ _ _ hs (by omega) (λ j hj=>(h0.there _ (by rw[hdl]at hj;show 0+i*1+j<c;omega)).1) (λ j hj=>(h0.there _ (by rw[hdl]at hj;show 0+i*1+j<c;omega)).2);rw[show i+(n-(i+1))=n-1 by omega,show 0+i*Tryz.t77.size=i by show 0+i*1=i;omega]at hr;exact hr
 have r1:Row (W.drew.setCells g i (az (l.drop (i+1)))) g c (az (l.take i++l.drop (i+1))++(az l).drop (n-1)):=h0.setCells i (az (l.drop (i+1))) (by rw[hdl];omega) _ (by rw[zl,dA,zl,zt,zd,zd,aD];omega)
  (λ j hj=>by
   rw[hdl]at hj;rw[bI (by rw[dA,zl,zt,zd];omega)];unfold az;rw[dL,dL,bP (by rw[zt];omega),zt,show i+j-min i l.length=j by omega])
  (λ j hj hh=>by
   rw[zl,dA,zl,zt,zd,zd,aD]at hj;rw[hdl]at hh;refine⟨by rw[aD];omega,?_⟩;rcases hh with hh|hh
   ·rw[bI (by rw[dA,zl,zt,zd];omega)];unfold az;rw[dL,dL,bI (by rw[zt];omega),eX hh]
   rw[bP (by rw[dA,zl,zt,zd];omega),dA,zl,zt,zd,eY]
   congr 1
   omega)
 have o1:Only g W (W.drew.setCells g i (az (l.drop (i+1)))):=UK.Only.setCells _ _ (Only.refl g W).drew;generalize hW1:W.drew.setCells g i (az (l.drop (i+1)))=W1 at r1 o1 happ;have yo:(Builtin.clear_ #[88] 0 #[.slice (g,n-1) 1 (c-(n-1))]).run Tryz.prog W1= .ok (.tuple #[]) (W1.setCells g (n-1) (List.replicate 1 (Value.int .u64 0))):=Lib.run_clear_slice (P:=Tryz.prog) W1 88 77 0 (.int .u64 0) Tryz.underlying88 (λ w=>by kernel_rfl) rfl rfl g (n-1) 1 (c-(n-1)) (by omega) (λ j hj=>(r1.there _ (by omega)).1) (λ j hj=>(r1.there _ (by omega)).2)
 have fin:Row (W1.setCells g (n-1) (List.replicate 1 (Value.int .u64 0))) g c (az (l.take i++l.drop (i+1)))/\Only g W (W1.setCells g (n-1) (List.replicate 1 (Value.int .u64 0))):=by
  have hlf:(az (l.take i++l.drop (i+1))).length=n-1:=by rw[dA,zl,zt,zd];omega
  have rk:Row (W1.setCells g (n-1) (List.replicate 1 (Value.int .u64 0))) g c (az (l.take i++l.drop (i+1))++[Value.int .u64 0]):=r1.setCells (n-1) (List.replicate 1 (Value.int .u64 0)) (by rw[gY];omega) _ (by rw[zl,hlf];simp;omega) (λ j hj=>by
   have hj0:j=0:=by simpa using hj
   subst hj0;rw[bP (by rw[hlf];omega),hlf,show n-1+0-(n-1)=0 by omega];rfl) (λ j hj hh=>by
   rw[zl,hlf]at hj;simp only[gY,iE]at hj hh;refine⟨by rw[zl,hlf];omega,?_⟩;rw[bI (by rw[hlf];omega),bI (by rw[hlf];omega)])
  have rt:=rk.take (n-1);rw[List.take_append,fO (by rw[hlf];omega),hlf,kN,jW,jL]at rt;exact⟨rt,UK.Only.setCells _ _ o1⟩
 have HF:=zH fin;have HA:=zH happ;clear fin r1 o1 h0 hdr hdl h1c hsz happ h hW1;rw[<-hn]at hl hi hle ⊢;clear hn aD;have bi:n-(n-1)=1:=by omega
 have hz3:((i:Int)==(i:Int)+1)=false:=beq_eq_false_iff_ne.2 hz2;have yt:¬(c=n-1):=by omega
 have hnn:((n-1:Nat):Int)<=(n:Int):=by omega
 by_cases hce:c=i+1
 ·obtain rfl:n=i+1:=by omega
  subst hce
  have e1:(Builtin.append_ #[88,88] 88 #[.slice g i (i+1),.slice g 0 0]).run Tryz.prog W.drew= .ok (.slice g i (i+1)) W1:=by
   have:=HA.out ⟨g,0,none⟩ (.inr rfl) 0;rw[kN,Nat.add_sub_cancel]at this;exact this
  rw[Nat.add_sub_cancel,qJ]at yo;rw[Nat.add_sub_cancel]at HF ⊢;have E1:=zH e1;have IU:¬(i+1=i):=by omega
  clear HA e1 bi yt hnn hin hic yn hi hle hz2;have hii:(i:Int)<=(i:Int)+1:=by omega
  go_enter Tryz.func215,Tryz.ntmps215
  go_wp2_with fail
  go_region_law (refine UK.aG E1.out rfl rfl rfl (by simp[Act.eval,Act.put]) (by simp[Act.eval,Act.put]) ?_)
  go_wp2;go_ret
  exact⟨rfl,HF.out⟩
 go_enter Tryz.func215,Tryz.ntmps215
 go_wp2_with fail
 go_region_law (refine UK.aG (HA.out ⟨g,i+1,none⟩ (.inl rfl) (c-(i+1))) rfl rfl rfl (by simp[Act.eval,Act.put]) (by simp[Act.eval,Act.put]) ?_)
 go_wp2;go_ret
 exact⟨rfl,HF.out⟩
theorem Ro{x:List UInt8}{o:Nat}{k:UInt64}{r:List UInt8}(h:x.drop o=b64 k++r):qz x o=k:=by
 have h4:x.drop (o+4)=aI (UK.l8 k)++r:=by
  rw[<-jV,h];rfl
 unfold qz;rw[h,h4];show UK.sS (dI (aI (UK.kY k))) (dI (aI (UK.l8 k)))=k;rw[CK,CK,UK.xrt]
theorem Sq:∀(ks vs:List UInt64) (i:Nat) (k v:UInt64),ks[i]?=some k->vs[i]?=some v->∃r,(pV ks vs).drop (16*i)=b64 k++(b64 v++r)
 | a::ks,b::vs,0,k,v,hk,hv=>by
  obtain rfl:a=k:=by simpa using hk
  obtain rfl:b=v:=by simpa using hv
  exact⟨pV ks vs,rfl⟩
 | a::ks,b::vs,i+1,k,v,hk,hv=>by
  obtain⟨r,hr⟩:=Sq ks vs i k v (by simpa using hk) (by simpa using hv);refine⟨r,?_⟩;show(b64 a++(b64 b++pV ks vs)).drop (16*(i+1))=_;rw[show 16*(i+1)=8+(8+16*i) by omega,<-jV,<-jV];exact hr
 | [],_,_,_,_,hk,_=>by simp at hk
 | _::_,[],_,_,_,_,hv=>by simp at hv
theorem Yy(y:List UInt8)(ks vs:List UInt64)(o:Nat)(hy:504<=y.length)(ho:o<=(pV ks vs).length):(pM y ks vs).drop (4+o)=(pV ks vs).drop o++((y.set 0 1).set 1 (UInt8.ofNat ks.length)).drop (4+(pV ks vs).length):=by
 unfold pM UK.wr;have h4:(((y.set 0 1).set 1 (UInt8.ofNat ks.length)).take 4).length=4:=by rw[zt,aQ,aQ];omega
 rw[List.drop_append,h4,List.drop_of_length_le (by rw[h4];omega),jM,show 4+o-4=o by omega,List.drop_append_of_le_length ho]
theorem xvm(y:List UInt8)(ks vs:List UInt64)(hy:504<=y.length)(hv:vs.length=ks.length):oM (pM y ks vs) ks.length=ks:=by
 refine List.ext_getElem (by rw[Ay]) (λ i h1 h2=>?_);have hk:ks[i]?=some ks[i]:=bL h2;have hvv:vs[i]?=some (vs[i]'(by omega)):=bL (by omega);obtain⟨r,hr⟩:=Sq ks vs i _ _ hk hvv;have hl:=Ig ks vs hv;simp only[oM,List.getElem_map,List.getElem_range];have:=Yy y ks vs (16*i) hy (by omega);rw[hr,cO]at this;exact Ro this
theorem xvn(y:List UInt8)(ks vs:List UInt64)(hy:504<=y.length)(hv:vs.length=ks.length):q9 (pM y ks vs) ks.length=vs:=by
 refine List.ext_getElem (by rw[DC,hv]) (λ i h1 h2=>?_);have hk:ks[i]?=some (ks[i]'(by omega)):=bL (by omega);have hvv:vs[i]?=some vs[i]:=bL h2;obtain⟨r,hr⟩:=Sq ks vs i _ _ hk hvv;have hl:=Ig ks vs hv;simp only[q9,List.getElem_map,List.getElem_range];have:=Yy y ks vs (16*i) hy (by rw[DC]at h1;omega);rw[hr]at this;refine Ro (r:=r++((y.set 0 1).set 1 (UInt8.ofNat ks.length)).drop (4+(pV ks vs).length)) ?_;rw[show 12+16*i=(4+16*i)+8 by omega,<-jV,this];show((b64 vs[i])++r)++_=_;rw[cO]
theorem xmv(y:List UInt8)(ks vs:List UInt64)(hy:504<=y.length)(hk:ks.length<=30):Sj (pM y ks vs) ks.length:=by
 have h:∀i,i<4->nth (pM y ks vs) i=nth ((y.set 0 1).set 1 (UInt8.ofNat ks.length)) i:=λ i hi=>by
  unfold pM UK.wr nth;rw[fE,fE,bI (by rw[zt,aQ,aQ];omega),eX hi]
 refine⟨?_,?_,hk⟩
 ·rw[h 0 (by omega)];unfold nth;rw[fE,List.getElem?_set_ne (by omega),List.getElem?_set_self (by omega)];rfl
 rw[h 1 (by omega)];unfold nth;rw[fE,List.getElem?_set_self (by rw[aQ];omega)];show(UInt8.ofNat ks.length).toNat=_;rw[UInt8.toNat_ofNat'];omega
structure rA(A:AP)(pg:Nat)(ks vs:List UInt64):Prop where
 has:A.Has pg
 head:Sj (A.c pg) ks.length
 ag:oM (A.c pg) ks.length=ks
 vals:q9 (A.c pg) ks.length=vs
 up:jK ks
theorem rA.len{A:AP}{pg:Nat}{ks vs:List UInt64}(h:rA A pg ks vs):vs.length=ks.length:=by rw[<-h.vals,DC]
open UK (str aF nth Only)
def uC(y:List UInt8)(i:Nat):Nat:=(dI ((y.drop (4+4*i)).take 4)).toNat
def nX(y:List UInt8)(n:Nat):List Nat:=(List.range n).map (uC y)
def iR(y:List UInt8)(n:Nat):List UInt64:=(List.range n).map λ i=>qz y (164+8*i)
def l7(y:List UInt8):Option Nd:=
 if nth y 0=1/\(nth y 1).toNat<=30 then some ⟨true,oM y (nth y 1).toNat,q9 y (nth y 1).toNat,[]⟩
 else if nth y 0=2/\2<=(nth y 1).toNat/\(nth y 1).toNat<=40 then some ⟨false,iR y ((nth y 1).toNat-1),[],nX y (nth y 1).toNat⟩
 else none
def qA(l:List Nat):List UInt8:=l.flatMap λ k=>aI (UInt32.ofNat k)
def oN(l:List UInt64):List UInt8:=l.flatMap b64
def tN(y:List UInt8)(ag:List UInt64)(ax:List Nat):List UInt8:=UK.wr (UK.wr ((y.set 0 2).set 1 (UInt8.ofNat ax.length)) 4 (qA ax)) 164 (oN ag)
def aS(y:List UInt8)(x:Nd):List UInt8:=if x.leaf then pM y x.ag x.vals else tN y x.ag x.ax
structure Fits(x:Nd):Prop where
 leaf:x.leaf=true->x.ag.length<=30/\x.vals.length=x.ag.length/\x.ax=[]
 inner:x.leaf=false->x.ax.length=x.ag.length+1/\2<=x.ax.length/\x.ax.length<=40/\x.vals=[]/\∀k∈x.ax,k<4294967296
theorem Rn{α:Type}(f:α->List UInt8)(m:Nat)(hf:∀a,(f a).length=m):∀(l:List α) (i:Nat) (a:α),l[i]?=some a->∃r,(l.flatMap f).drop (m*i)=f a++r
 | [],_,_,h=>by simp at h
 | b::l,0,a,h=>by
  obtain rfl:b=a:=by simpa using h
  exact⟨l.flatMap f,by simp⟩
 | b::l,i+1,a,h=>by
  obtain⟨r,hr⟩:=Rn f m hf l i a (by simpa using h);refine⟨r,?_⟩;have e:m*(i+1)=m+m*i:=by rw[Nat.mul_add,vQ,Nat.add_comm]
  rw[iL,e,List.drop_append,hf,List.drop_of_length_le (by rw[hf];omega),jM,show m+m*i-m=m*i by omega];exact hr
theorem Xt{α:Type}(f:α->List UInt8)(m:Nat)(hf:∀a,(f a).length=m)(l:List α):(l.flatMap f).length=m*l.length:=by
 induction l with
 | nil=>simp
 | cons b l ih=>rw[iL,zl,hf,ih,dn,Nat.mul_add,vQ,Nat.add_comm]
theorem Cj(l:List Nat):(qA l).length=4*l.length:=Xt _ 4 (λ _=>rfl) l
theorem NC(l:List UInt64):(oN l).length=8*l.length:=Xt _ 8 (λ _=>rfl) l
theorem Xu(x:List UInt8)(a o:Nat)(s:List UInt8)(ha:a<=x.length)(ho:o<=s.length):(UK.wr x a s).drop (a+o)=s.drop o++x.drop (a+s.length):=by
 unfold UK.wr;have h4:(x.take a).length=a:=by rw[zt];omega
 rw[List.drop_append,h4,List.drop_of_length_le (by rw[h4];omega),jM,show a+o-a=o by omega,List.drop_append_of_le_length ho]
theorem yau(x:List UInt8)(a i m:Nat)(s:List UInt8)(ha:a<=x.length)(hi:i+m<=a):((UK.wr x a s).drop i).take m=(x.drop i).take m:=by
 unfold UK.wr;have h4:(x.take a).length=a:=by rw[zt];omega
 rw[List.drop_append_of_le_length (by omega),qE (by rw[zd];omega),List.drop_take,kL]
 congr 1
 omega
theorem Xv(x:List UInt8)(a i:Nat)(s:List UInt8)(ha:a<=x.length)(hi:i<a):nth (UK.wr x a s) i=nth x i:=by
 unfold UK.wr nth;rw[fE,fE,bI (by rw[zt];omega),eX hi]
theorem xib(y:List UInt8)(ag:List UInt64)(ax:List Nat)(hy:504<=y.length)(hk:ax.length<=40)(hn:ag.length<=42):(tN y ag ax).length=y.length:=by
 have h1:(UK.wr ((y.set 0 2).set 1 (UInt8.ofNat ax.length)) 4 (qA ax)).length=y.length:=by
  rw[UK.iW _ _ _ (by rw[Cj,aQ,aQ];omega),aQ,aQ]
 unfold tN;rw[UK.iW _ _ _ (by rw[NC,h1];omega),h1]
theorem xu4(y:List UInt8)(ag:List UInt64)(ax:List Nat)(hy:504<=y.length)(hk:ax.length<=40):iR (tN y ag ax) ag.length=ag:=by
 have h1:(UK.wr ((y.set 0 2).set 1 (UInt8.ofNat ax.length)) 4 (qA ax)).length=y.length:=by
  rw[UK.iW _ _ _ (by rw[Cj,aQ,aQ];omega),aQ,aQ]
 refine List.ext_getElem (by simp[iR]) (λ i h2 h3=>?_);simp only[iR,List.getElem_map,List.getElem_range];obtain⟨r,hr⟩:=Rn b64 8 (λ _=>rfl) ag i ag[i] (bL h3);have hd:=Xu (UK.wr ((y.set 0 2).set 1 (UInt8.ofNat ax.length)) 4 (qA ax)) 164 (8*i) (oN ag) (by rw[h1];omega) (by rw[NC];omega);have hr':(oN ag).drop (8*i)=b64 ag[i]++r:=hr;rw[hr',cO]at hd;exact Ro hd
theorem xrm(y:List UInt8)(ag:List UInt64)(ax:List Nat)(hy:504<=y.length)(hk:ax.length<=40)(hb:∀k∈ax,k<4294967296):nX (tN y ag ax) ax.length=ax:=by
 have h1:(UK.wr ((y.set 0 2).set 1 (UInt8.ofNat ax.length)) 4 (qA ax)).length=y.length:=by
  rw[UK.iW _ _ _ (by rw[Cj,aQ,aQ];omega),aQ,aQ]
 refine List.ext_getElem (by simp[nX]) (λ i h2 h3=>?_);simp only[nX,List.getElem_map,List.getElem_range];unfold uC tN;rw[yau _ 164 (4+4*i) 4 _ (by rw[h1];omega) (by omega)];obtain⟨r,hr⟩:=Rn (λ k=>aI (UInt32.ofNat k)) 4 (λ _=>rfl) ax i ax[i] (bL h3);have hd:=Xu ((y.set 0 2).set 1 (UInt8.ofNat ax.length)) 4 (4*i) (qA ax) (by rw[aQ,aQ];omega) (by rw[Cj];omega);have hr':(qA ax).drop (4*i)=aI (UInt32.ofNat ax[i])++r:=hr;rw[hr',cO]at hd;rw[hd,qE (show 4<=(aI (UInt32.ofNat ax[i])).length from aO 4),fO (show(aI (UInt32.ofNat ax[i])).length<=4 from aO 4),CK];rw[UInt32.toNat_ofNat'];exact wV (hb _ (List.getElem_mem h3))
theorem xrn(y:List UInt8)(ag:List UInt64)(ax:List Nat)(hy:504<=y.length)(hk:ax.length<=40):nth (tN y ag ax) 0=2/\(nth (tN y ag ax) 1).toNat=ax.length:=by
 have h1:(UK.wr ((y.set 0 2).set 1 (UInt8.ofNat ax.length)) 4 (qA ax)).length=y.length:=by
  rw[UK.iW _ _ _ (by rw[Cj,aQ,aQ];omega),aQ,aQ]
 have h:∀i,i<4->nth (tN y ag ax) i=nth ((y.set 0 2).set 1 (UInt8.ofNat ax.length)) i:=λ i hi=>by
  unfold tN;rw[Xv _ _ _ _ (by rw[h1];omega) (by omega),Xv _ _ _ _ (by rw[aQ,aQ];omega) hi]
 refine⟨?_,?_⟩
 ·rw[h 0 (by omega)];unfold nth;rw[fE,List.getElem?_set_ne (by omega),List.getElem?_set_self (by omega)];rfl
 rw[h 1 (by omega)];unfold nth;rw[fE,List.getElem?_set_self (by rw[aQ];omega)];show(UInt8.ofNat ax.length).toNat=_;rw[UInt8.toNat_ofNat'];omega
theorem EO(y:List UInt8)(x:Nd)(hy:504<=y.length)(hx:Fits x):l7 (aS y x)=some x:=by
 obtain⟨lf,ag,vals,ax⟩:=x
 cases lf with
 | true=>
  obtain⟨h1,h2,h3⟩:=hx.leaf rfl;dsimp only at h1 h2 h3;obtain⟨e1,e2,e3⟩:=xmv y ag vals hy h1;show l7 (pM y ag vals)=_;unfold l7;rw[e1,e2,if_pos ⟨rfl,h1⟩,xvm y ag vals hy h2,xvn y ag vals hy h2,h3]
 | false=>
  obtain⟨h1,h2,h3,h4,h5⟩:=hx.inner rfl;dsimp only at h1 h2 h3 h4 h5;obtain⟨e1,e2⟩:=xrn y ag ax hy h3;show l7 (tN y ag ax)=_;unfold l7;rw[e1,e2,if_neg (by intro h;exact absurd h.1 (by decide)),if_pos ⟨rfl,h2,h3⟩,show ax.length-1=ag.length by omega,xu4 y ag ax hy h3,xrm y ag ax hy h3 h5,h4]
theorem lJ{y:List UInt8}{x:Nd}(h:l7 y=some x):Fits x:=by
 unfold l7 at h
 split at h
 ·rename_i h1
  obtain rfl:=aZ h;exact⟨λ _=>⟨by rw[Ay];exact h1.2,by rw[Ay,DC],rfl⟩,(λ h=>by cases h)⟩
 split at h
 ·rename_i h1 h2
  obtain rfl:=aZ h;refine⟨(λ h=>by cases h),λ _=>⟨?_,?_,?_,rfl,λ k hk=>?_⟩⟩
  ·simp[nX,iR];omega
  ·simp[nX];omega
  ·simp[nX];omega
  simp only[nX,bQ]at hk;obtain⟨i,_,rfl⟩:=hk;unfold uC;exact(dI _).toNat_lt
 cases h
theorem tO(y:List UInt8)(x:Nd)(hy:504<=y.length)(hx:Fits x):(aS y x).length=y.length:=by
 unfold aS
 cases hl:x.leaf with
 | true=>
  obtain⟨h1,h2,_⟩:=hx.leaf hl;rw[if_pos rfl];exact Rp y _ _ h1 h2 hy
 | false=>
  obtain⟨h1,h2,h3,_⟩:=hx.inner hl;rw[if_neg (by decide)];exact xib y _ _ hy h3 (by omega)
theorem xko(y:List UInt8)(ag:List UInt64)(ax:List Nat)(hy:504<=y.length)(hk:ax.length<=40)(hn:ag.length<=42):(tN y ag ax).take 504=tN (y.take 504) ag ax:=by
 have h1:(UK.wr ((y.set 0 2).set 1 (UInt8.ofNat ax.length)) 4 (qA ax)).length=y.length:=by
  rw[UK.iW _ _ _ (by rw[Cj,aQ,aQ];omega),aQ,aQ]
 unfold tN;rw[I1 _ _ _ _ (by rw[NC];omega) (by rw[h1];omega),I1 _ _ _ _ (by rw[Cj];omega) (by rw[aQ,aQ];omega),List.take_set,List.take_set]
theorem Xw(y:List UInt8)(x:Nd)(hy:504<=y.length)(hx:Fits x):(aS y x).take 504=aS (y.take 504) x:=by
 unfold aS
 cases hl:x.leaf with
 | true=>
  obtain⟨h1,h2,_⟩:=hx.leaf hl;rw[if_pos rfl,if_pos rfl];exact Rq y _ _ h1 h2 hy
 | false=>
  obtain⟨h1,h2,h3,_⟩:=hx.inner hl;rw[if_neg (by decide),if_neg (by decide)];exact xko y _ _ hy h3 (by omega)
theorem xro(y:List UInt8)(i:Nat)(h:4+4*i+4<=504):uC (y.take 504) i=uC y i:=by
 unfold uC;rw[List.drop_take,kL,gH (by omega)]
theorem xxz(y:List UInt8):l7 (y.take 504)=l7 y:=by
 have h0:=Rs y 0 (by omega);have h1:=Rs y 1 (by omega);unfold l7;rw[h0,h1]
 split
 ·rename_i h
  rw[Xx y _ h.2,Xy y _ h.2]
 split
 ·rename_i h
  have e1:iR (y.take 504) ((nth y 1).toNat-1)=iR y ((nth y 1).toNat-1):=by
   unfold iR;refine List.map_congr_left (λ i hi=>?_);have:=jY.1 hi;exact Rt y _ (by omega)
  have e2:nX (y.take 504) (nth y 1).toNat=nX y (nth y 1).toNat:=by
   unfold nX;refine List.map_congr_left (λ i hi=>?_);have:=jY.1 hi;exact xro y i (by omega)
  rw[e1,e2]
 rfl
abbrev KV:=UInt64×UInt64
def jd(l:List KV)(k v:UInt64):List KV:=l.filter (λ x=>decide (x.1.toNat<k.toNat))++(k,v)::l.filter (λ x=>decide (k.toNat<x.1.toNat))
def kg(l:List KV)(k:UInt64):List KV:=l.filter (λ x=>decide (x.1≠k))
structure Sb where
 pg:Nat
 l:List KV
 ps:List Nat
inductive It where
 | s (t:Sb)
 | k (κ:UInt64)
def It.R:It->It->Prop
 | .s a,.s b=>∀x∈a.l,∀y∈b.l,x.1.toNat<y.1.toNat
 | .s a,.k κ=>∀x∈a.l,x.1.toNat<κ.toNat
 | .k κ,.s b=>∀y∈b.l,κ.toNat<=y.1.toNat
 | .k κ,.k dM=>κ.toNat<dM.toNat
def oW:List UInt64->List Sb->List It
 | [],ss=>ss.map It.s
 | κ::ks,s::ss=>.s s:: .k κ::oW ks ss
 | ks,[]=>ks.map It.k
def mD:List UInt64->List Sb->List It
 | κ::ks,s::ss=>.s s:: .k κ::mD ks ss
 | _,_=>[]
def l9:List UInt64->List Sb->List It
 | κ::ks,s::ss=>.k κ:: .s s::l9 ks ss
 | _,_=>[]
theorem DT:∀(iD:List UInt64) (mY:List Sb) (iN:List UInt64) (s:Sb) (lC:List Sb),mY.length=iD.length->lC.length=iN.length->oW (iD++iN) (mY++s::lC)=mD iD mY++ .s s::l9 iN lC
 | [],[],[],s,[],_,_=>rfl
 | [],[],[],s,t::r,_,h=>by simp at h
 | [],[],κ::ks,s,[],_,h=>by simp at h
 | [],[],κ::ks,s,t::r,_,h=>by
  have:=DT [] [] ks t r rfl (by simpa using h);show .s s:: .k κ::oW ks (t::r)= .s s:: .k κ:: .s t::l9 ks r;rw[show oW ks (t::r)=_ from this];rfl
 | [],t::r,iN,s,lC,h,_=>by simp at h
 | κ::iD,[],iN,s,lC,h,_=>by simp at h
 | κ::iD,t::mY,iN,s,lC,h,h2=>by
  have:=DT iD mY iN s lC (by simpa using h) h2;show .s t:: .k κ::oW (iD++iN) (mY++s::lC)= .s t:: .k κ::(mD iD mY++ .s s::l9 iN lC);rw[this]
theorem RN:∀(iD:List UInt64) (mY:List Sb) (κ:UInt64) (iN:List UInt64) (lC:List Sb),mY.length=iD.length+1->oW (iD++κ::iN) (mY++lC)=oW iD mY++ .k κ::oW iN lC
 | [],[],κ,iN,lC,h=>by simp at h
 | [],[s],κ,iN,lC,_=>rfl
 | [],s::t::r,κ,iN,lC,h=>by simp at h
 | mF::iD,[],κ,iN,lC,h=>by simp at h
 | mF::iD,t::mY,κ,iN,lC,h=>by
  have:=RN iD mY κ iN lC (by simpa using h);show .s t:: .k mF::oW (iD++κ::iN) (mY++lC)= .s t:: .k mF::(oW iD mY++ .k κ::oW iN lC);rw[this]
theorem XT:∀(ks:List UInt64) (ss:List Sb),(ks.map It.k).Sublist (oW ks ss)
 | [],_=>List.nil_sublist _
 | _::_,[]=>List.Sublist.refl _
 | _::ks,_::ss=>((XT ks ss).cons_cons _).cons _
theorem KZ:∀(ks:List UInt64) (ss:List Sb),(ss.map It.s).Sublist (oW ks ss)
 | [],_=>List.Sublist.refl _
 | _::_,[]=>List.nil_sublist _
 | _::ks,_::ss=>((KZ ks ss).cons _).cons_cons _
theorem RO{it:It}:∀{ks:List UInt64} {ss:List Sb},it∈oW ks ss->(∃κ∈ks,it= .k κ)\/(∃s∈ss,it= .s s)
 | [],ss,h=>by
  obtain⟨s,hs,e⟩:=bQ.1 h;exact .inr ⟨s,hs,e.symm⟩
 | κ::ks,[],h=>by
  obtain⟨s,hs,e⟩:=bQ.1 h;exact .inl ⟨s,hs,e.symm⟩
 | κ::ks,s::ss,h=>by
  rcases aN.1 h with h|h
  ·exact .inr ⟨s,by simp,h⟩
  rcases aN.1 h with h|h
  ·exact .inl ⟨κ,by simp,h⟩
  rcases RO h with⟨a,b,c⟩|⟨a,b,c⟩
  ·exact .inl ⟨a,by simp[b],c⟩
  exact .inr ⟨a,by simp[b],c⟩
structure iV(P:Sb->Prop)(ag:List UInt64)(aj:List Sb):Prop where
 len:aj.length=ag.length+1
 ord:(oW ag aj).Pairwise It.R
 all:∀s∈aj,P s
theorem iV.up{P:Sb->Prop}{ag:List UInt64}{aj:List Sb}(h:iV P ag aj):jK ag:=by
 have h1:=h.ord.sublist (XT ag aj);rw[List.pairwise_map,List.pairwise_iff_getElem]at h1;intro a b x y hab hx hy;obtain⟨ha,ea⟩:=dE.1 hx;obtain⟨hb,eb⟩:=dE.1 hy;have:=h1 a b ha hb hab;rw[ea,eb]at this;exact this
def gM(aj:List Sb):List KV:=aj.flatMap Sb.l
def dP(aj:List Sb):List Nat:=aj.flatMap Sb.ps
def rE(x:Nd):Prop:=(x.leaf=true->15<=x.ag.length)/\(x.leaf=false->16<=x.ax.length)
def iK(f:Nat->Option Nd)(p:Nat):Prop:=∃x,f p=some x/\rE x
def Tr(f:Nat->Option Nd):Nat->Sb->Prop
 | 0,s=>∃ks vs,f s.pg=some ⟨true,ks,vs,[]⟩/\vs.length=ks.length/\jK ks/\s.l=ks.zip vs/\s.ps=[s.pg]
 | d+1,s=>∃ag aj,f s.pg=some ⟨false,ag,[],aj.map Sb.pg⟩/\iV (λ t=>Tr f d t/\iK f t.pg) ag aj/\s.l=gM aj/\s.ps=s.pg::dP aj
theorem iV.imp{P Q:Sb->Prop}{ag:List UInt64}{aj:List Sb}(h:iV P ag aj)(hq:∀s∈aj,P s->Q s):iV Q ag aj:=⟨h.len,h.ord,λ s hs=>hq s hs (h.all s hs)⟩
theorem Tr.mem{f:Nat->Option Nd}{d:Nat}{s:Sb}(h:Tr f d s):s.pg∈s.ps:=by
 cases d with
 | zero=>obtain⟨_,_,_,_,_,_,e⟩:=h;rw[e];simp
 | succ d=>obtain⟨_,_,_,_,_,e⟩:=h;rw[e];simp
theorem wP{aj:List Sb}{s:Sb}(hs:s∈aj){p:Nat}(hp:p∈s.ps):p∈dP aj:=List.mem_flatMap.2 ⟨s,hs,hp⟩
theorem Tr.same{f g:Nat->Option Nd}:∀(d:Nat) (s:Sb),Tr f d s->(∀p∈s.ps,g p=f p)->Tr g d s
 | 0,s,⟨ks,vs,h1,h2,h3,h4,h5⟩,hg=>⟨ks,vs,(hg s.pg (by rw[h5];simp)).trans h1,h2,h3,h4,h5⟩
 | d+1,s,⟨ag,aj,h1,h2,h3,h4⟩,hg=>by
  refine⟨ag,aj,(hg s.pg (by rw[h4];simp)).trans h1,h2.imp (λ t ht ⟨a,b⟩=>?_),h3,h4⟩;have hsub:∀p∈t.ps,g p=f p:=λ p hp=>hg p (by rw[h4];exact cu _ (wP ht hp));refine⟨Tr.same d t a hsub,?_⟩;obtain⟨x,e,hx⟩:=b;exact⟨x,(hsub _ a.mem).trans e,hx⟩
def kQ(l:List KV):Prop:=l.Pairwise (λ a b=>a.1.toNat<b.1.toNat)
theorem xx7{ks vs:List UInt64}(h:jK ks):kQ (ks.zip vs):=by
 unfold kQ;rw[List.pairwise_iff_getElem];intro i j hi hj hij;rw[List.length_zip]at hi hj;rw[List.getElem_zip,List.getElem_zip];exact h i j _ _ hij (bL (by omega)) (bL (by omega))
theorem xvg{P:Sb->Prop}{ag:List UInt64}{aj:List Sb}(h:iV P ag aj)(hr:∀s∈aj,kQ s.l):kQ (gM aj):=by
 unfold kQ gM;rw[List.pairwise_flatMap];refine⟨hr,?_⟩;have h1:=h.ord.sublist (KZ ag aj);rw[List.pairwise_map]at h1;exact h1
theorem Tr.rise{f:Nat->Option Nd}:∀(d:Nat) (s:Sb),Tr f d s->kQ s.l
 | 0,s,⟨ks,vs,h1,h2,h3,h4,h5⟩=>by rw[h4];exact xx7 h3
 | d+1,s,⟨ag,aj,h1,h2,h3,h4⟩=>by
  rw[h3];exact xvg h2 (λ t ht=>Tr.rise d t (h2.all t ht).1)
theorem XU(aj:List Sb)(c:Nat)(h:∀s∈aj,14*s.ps.length+c<=s.l.length):14*(dP aj).length+c*aj.length<=(gM aj).length:=by
 induction aj with
 | nil=>simp[dP,gM]
 | cons s r ih=>
  have h1:=h s (by simp);have h2:=ih (λ t ht=>h t (by simp[ht]));simp only[dP,gM,iL,zl,dn]at h2 ⊢;rw[Nat.mul_add,Nat.mul_add,vQ];omega
theorem Tr.many{f:Nat->Option Nd}:∀(d:Nat) (s:Sb),Tr f d s->iK f s.pg->14*s.ps.length+1<=s.l.length
 | 0,s,⟨ks,vs,h1,h2,h3,h4,h5⟩,⟨x,hx,hf⟩=>by
  rw[h1]at hx;obtain rfl:=aZ hx;have:=hf.1 rfl;rw[h4,h5,List.length_zip];simp only[dn,List.length_nil]at this ⊢;omega
 | d+1,s,⟨ag,aj,h1,h2,h3,h4⟩,⟨x,hx,hf⟩=>by
  have h20:16<=aj.length:=by
   rw[h1]at hx;obtain rfl:=aZ hx
   simpa using hf.2 rfl
  have:=XU aj 1 (λ t ht=>Tr.many d t (h2.all t ht).1 (h2.all t ht).2);rw[h3,h4,dn];omega
theorem Tr.wM{f:Nat->Option Nd}{d:Nat}{s:Sb}(h:Tr f d s):14*s.ps.length<=s.l.length+14:=by
 cases d with
 | zero=>obtain⟨_,_,_,_,_,_,e⟩:=h;rw[e];simp
 | succ d=>
  obtain⟨ag,aj,h1,hI,h3,h4⟩:=h;have:=XU aj 1 (λ t ht=>Tr.many d t (hI.all t ht).1 (hI.all t ht).2);rw[h3,h4,dn];omega
theorem Tr.deep{f:Nat->Option Nd}:∀(d:Nat) (s:Sb),Tr f d s->iK f s.pg->2^d<=s.ps.length
 | 0,s,⟨ks,vs,h1,h2,h3,h4,h5⟩,_=>by rw[h5];simp
 | d+1,s,⟨ag,aj,h1,h2,h3,h4⟩,⟨x,hx,hf⟩=>by
  have h20:16<=aj.length:=by
   rw[h1]at hx;obtain rfl:=aZ hx
   simpa using hf.2 rfl
  have hs:∀(l:List Sb),(∀t∈l,2^d<=t.ps.length)->2^d*l.length<=(dP l).length:=by
   intro l
   induction l with
   | nil=>intro _;simp
   | cons t r ih=>
    intro hl;have a:=hl t (by simp);have b:=ih (λ u hu=>hl u (by simp[hu]));simp only[dP,iL,zl,dn]at b ⊢;rw[Nat.mul_add,vQ];omega
  have:=hs aj (λ t ht=>Tr.deep d t (h2.all t ht).1 (h2.all t ht).2);rw[h4,dn,Nat.pow_succ];have hm:2^d*2<=2^d*aj.length:=Nat.mul_le_mul_left _ (by omega);omega
/-! ## lists with a key's value,without it -/
theorem NM{a b c:List KV}{k v:UInt64}(ha:∀x∈a,x.1.toNat<k.toNat)(hc:∀x∈c,k.toNat<x.1.toNat):jd (a++(b++c)) k v=a++(jd b k v++c):=by
 unfold jd;have e1:a.filter (λ x=>decide (x.1.toNat<k.toNat))=a:=List.filter_eq_self.2 (λ x hx=>by simpa using ha x hx);have e2:a.filter (λ x=>decide (k.toNat<x.1.toNat))=[]:=List.filter_eq_nil_iff.2 (λ x hx=>by have:=ha x hx;simp;omega);have e3:c.filter (λ x=>decide (x.1.toNat<k.toNat))=[]:=List.filter_eq_nil_iff.2 (λ x hx=>by have:=hc x hx;simp;omega);have e4:c.filter (λ x=>decide (k.toNat<x.1.toNat))=c:=List.filter_eq_self.2 (λ x hx=>by simpa using hc x hx);simp only[List.filter_append,e1,e2,e3,e4,jL,jM,cO,lV]
theorem XV{a b c:List KV}{k:UInt64}(ha:∀x∈a,x.1.toNat<k.toNat)(hc:∀x∈c,k.toNat<x.1.toNat):kg (a++(b++c)) k=a++(kg b k++c):=by
 unfold kg;have e1:a.filter (λ x=>decide (x.1≠k))=a:=List.filter_eq_self.2 (λ x hx=>by have:=ha x hx;simp;intro e;rw[e]at this;omega);have e4:c.filter (λ x=>decide (x.1≠k))=c:=List.filter_eq_self.2 (λ x hx=>by have:=hc x hx;simp;intro e;rw[e]at this;omega);simp only[List.filter_append,e1,e4]
theorem XW{l:List KV}{k v:UInt64}{x:KV}(h:x∈jd l k v):x∈l\/x=(k,v):=by
 unfold jd at h;rcases dD.1 h with h|h
 ·exact .inl (List.mem_filter.1 h).1
 rcases aN.1 h with h|h
 ·exact .inr h
 exact .inl (List.mem_filter.1 h).1
theorem xx8{l:List KV}{k:UInt64}{x:KV}(h:x∈kg l k):x∈l:=(List.mem_filter.1 h).1
theorem xx9{ks vs:List UInt64}{k v:UInt64}{i:Nat}(h:eB ks k i)(hv:vs.length=ks.length)(hno:k∉ks):jd (ks.zip vs) k v=(ks.take i++k::ks.drop i).zip (vs.take i++v::vs.drop i):=by
 have hle:=h.le
 have e:ks.zip vs=(ks.take i).zip (vs.take i)++(ks.drop i).zip (vs.drop i):=by
  rw[<-List.zip_append (by rw[zt,zt];omega),iq,iq]
 rw[e]
 have h1:=NM (a:=(ks.take i).zip (vs.take i)) (b:=[]) (c:=(ks.drop i).zip (vs.drop i)) (k:=k) (v:=v) (λ x hx=>by
  obtain⟨j,hj,rP⟩:=gB hx;rw[List.length_zip,zt]at hj
  have h2:ks[j]?=some x.1:=by
   rw[<-rP,List.getElem_zip,List.getElem_take];exact bL (by omega)
  exact h.below j x.1 (by omega) h2) (λ x hx=>by
  obtain⟨j,hj,rP⟩:=gB hx;rw[List.length_zip,zd]at hj
  have h2:ks[i+j]?=some x.1:=by
   rw[<-rP,List.getElem_zip,List.getElem_drop];exact bL (by omega)
  have h3:=h.above (i+j) x.1 (by omega) h2;have h4:k≠x.1:=λ e=>hno (e▸eZ h2);have h5:k.toNat≠x.1.toNat:=λ e=>h4 (mJ.1 e);omega)
 rw[jM]at h1;rw[h1,List.zip_append (by rw[zt,zt];omega)];rfl
theorem xya{ks vs:List UInt64}{k v:UInt64}{i:Nat}(hs:jK ks)(hk:ks[i]?=some k)(hv:vs.length=ks.length):jd (ks.zip vs) k v=ks.zip (vs.set i v):=by
 have hi:i<ks.length:=(dE.1 hk).1
 have e:ks.zip vs=(ks.take i).zip (vs.take i)++([(k,vs[i]'(by omega))]++(ks.drop (i+1)).zip (vs.drop (i+1))):=by
  have e1:ks=ks.take i++k::ks.drop (i+1):=by
   have:=iq i ks;rw[lm hi,(dE.1 hk).2]at this;exact this.symm
  have e2:vs=vs.take i++vs[i]'(by omega)::vs.drop (i+1):=by
   have:=iq i vs;rw[lm (by omega)]at this;exact this.symm
  conv=>lhs;rw[e1,e2]
  rw[List.zip_append (by rw[zt,zt];omega)];rfl
 rw[e,NM (λ x hx=>?_) (λ x hx=>?_)]
 ·have e3:jd [(k,vs[i]'(by omega))] k v=[(k,v)]:=by simp[jd]
  rw[e3]
  have e1:ks=ks.take i++k::ks.drop (i+1):=by
   have:=iq i ks;rw[lm hi,(dE.1 hk).2]at this;exact this.symm
  have e2:vs.set i v=vs.take i++v::vs.drop (i+1):=by rw[List.set_eq_take_append_cons_drop,if_pos (by omega)]
  rw[e2]
  conv=>rhs;rw[e1]
  rw[List.zip_append (by rw[zt,zt];omega)];rfl
 ·obtain⟨j,hj,rP⟩:=gB hx;rw[List.length_zip,zt]at hj
  have h2:ks[j]?=some x.1:=by
   rw[<-rP,List.getElem_zip,List.getElem_take];exact bL (by omega)
  exact hs j i _ _ (by omega) h2 hk
 obtain⟨j,hj,rP⟩:=gB hx;rw[List.length_zip,zd]at hj
 have h2:ks[i+1+j]?=some x.1:=by
  rw[<-rP,List.getElem_zip,List.getElem_drop];exact bL (by omega)
 exact hs i (i+1+j) _ _ (by omega) hk h2
theorem xyb{ks vs:List UInt64}{k:UInt64}{i:Nat}(hs:jK ks)(hk:ks[i]?=some k)(hv:vs.length=ks.length):kg (ks.zip vs) k=(ks.take i++ks.drop (i+1)).zip (vs.take i++vs.drop (i+1)):=by
 have hi:i<ks.length:=(dE.1 hk).1
 have e:ks.zip vs=(ks.take i).zip (vs.take i)++([(k,vs[i]'(by omega))]++(ks.drop (i+1)).zip (vs.drop (i+1))):=by
  have e1:ks=ks.take i++k::ks.drop (i+1):=by
   have:=iq i ks;rw[lm hi,(dE.1 hk).2]at this;exact this.symm
  have e2:vs=vs.take i++vs[i]'(by omega)::vs.drop (i+1):=by
   have:=iq i vs;rw[lm (by omega)]at this;exact this.symm
  conv=>lhs;rw[e1,e2]
  rw[List.zip_append (by rw[zt,zt];omega)];rfl
 rw[e,XV (λ x hx=>?_) (λ x hx=>?_),List.zip_append (by rw[zt,zt];omega)]
 ·have e3:kg [(k,vs[i]'(by omega))] k=[]:=by simp[kg]
  rw[e3,jM]
 ·obtain⟨j,hj,rP⟩:=gB hx;rw[List.length_zip,zt]at hj
  have h2:ks[j]?=some x.1:=by
   rw[<-rP,List.getElem_zip,List.getElem_take];exact bL (by omega)
  exact hs j i _ _ (by omega) h2 hk
 obtain⟨j,hj,rP⟩:=gB hx;rw[List.length_zip,zd]at hj
 have h2:ks[i+1+j]?=some x.1:=by
  rw[<-rP,List.getElem_zip,List.getElem_drop];exact bL (by omega)
 exact hs i (i+1+j) _ _ (by omega) hk h2
theorem xvh{ks vs:List UInt64}{k:UInt64}(hno:k∉ks):kg (ks.zip vs) k=ks.zip vs:=by
 refine List.filter_eq_self.2 (λ x hx=>?_);have:=(List.of_mem_zip hx).1;simp;intro e;exact hno (e▸this)
end Go.Proofs.YtgpmiliahonaoaaGreatDoor
