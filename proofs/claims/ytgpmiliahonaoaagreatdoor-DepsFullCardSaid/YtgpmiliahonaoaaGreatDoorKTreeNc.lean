/- Facts on texts on pages. -/
import Derived.Test.YtgpmiliahonaoaaGreatDoorKHfQc
import Derived.Deep.RegionHeld
import Derived.Deep.RegionHeld3
set_option maxRecDepth 100000
set_option maxHeartbeats 8000000
set_option linter.unusedSimpArgs false
open List renaming length->Y
open Go.Value renaming bool->a6,int->V,pointer->aq,slice->ad,string->a8,tuple->a9
open Go.IntKind renaming i64->U,u64->a7
open Go.Ending renaming returned->aw
open Or renaming inl->O,inr->al
open Go.Proofs.Tryz
namespace Go.Proofs.YtgpmiliahonaoaaGreatDoor
open Go.RowKit
open UK (str aF nth Only Row ay w32)
open SR (aO bz total)
open SL (hole add trim room live)
open Go.BigFrame
variable{S Fo E F:Nat->Prop}{a:Act}{w W W' e wb w2 wc:World}{c d D cap pg c2 i T g N M nb kc vc ac vb B rt j fuel:Nat}{v v3:Value}{Co:Nat->List UInt8}{k κ key:UInt64}{root:Int}{A:AP}{L:Nat->List (List UInt8)}{r z y:List UInt8}{rp:List Nat}{X:List HT}{l ks vs ag J I m:List UInt64}{x:Nd}{o G:Oper}{Q:Exit->Act->World->Prop}{f:Nat->Option Nd}{p:Prop}{ka va aa ao:Option Addr}{cs:Array Value}{ops:Array Oper}{h:Region.Mode}{late:Nat->Bool}{listed:Array Bool}{K':Act->World->Prop}{fn:Func}
def Be(l:List (List UInt8))(i:Nat)(r:List UInt8):Bool:=decide (4+4*Y l+total l+Y r<=504+(bz l i).length)
theorem gd{a:World}(h:Kept S a w)(b:S c)(f:a.cell? c=some v):w.cell? c=some v:=(eB (a:=⟨c,0,none⟩) (h.block c b)).trans f
theorem gO(a:c≠d)(x:Value)(f:w.cell? c=some v):(w.setCell d x).cell? c=some v:=(eB (a:=⟨c,0,none⟩) (Below.heap_setCell w _ x c a)).trans f
section
variable{P k fb db root H c1 c3:Nat}{s:List UInt8}{L:List (List UInt8)}
def Nu(E:Nat->Prop)(w:World)(P D:Nat)(A:AP)(k fb db cap pg i:Nat)(L:List (List UInt8))(r:List UInt8):Prop:=
 (Be L i r=true/\∃z,aO z (L.set i r)/\Y z=504/\PF E w P D (A.ax pg z) k fb db cap pg true)\/(Be L i r=false/\PF E w P D (A.keep pg) k fb db cap pg true)
theorem ue(h:PF E W P D (A.keep pg) k fb db cap pg true)(m:aO (A.c pg) L)(n:i<Y L)(l:bz L i≠[])(q:r≠[])(w:E c3)(g:ay W c3 #[v3]) :
  Calls prog 179 #[ad db 504 cap,V U i,a8 (str r)] W λ b e=>b=aw (a6 (Be L i r))/\e.cell? c3=some v3/\e.frozen? ⟨c3,0,none⟩=false/\ay e c3 #[v3]/\Nu E e P D A k fb db cap pg i L r/\Kept E W e:=by
 obtain⟨y,j,v,d,C,t⟩:=h.bytes;have d:y.take 504=A.c pg:=d;have s:c3≠db:=λ b=>t (b▸w);by_cases hf:4+4*Y L+total L+Y r<=504+(bz L i).length
 ·refine(SL.Es db y L cap Z i r W j (m.oz Z d) n l q hf).mono ?_;rintro b e ⟨f,⟨z,z1,B,u⟩,o⟩;obtain⟨p,x⟩:=h.write o z1 (u.trans v);have a:=g.only o s;have c:Be L i r=true:=decide_eq_true hf;rw[c];exact⟨f,a.cell 0 _ rfl,a.free 0,a,O ⟨c,z.take 504,B.cut,by rw[zt];omega,p⟩,x⟩
 refine(SL.Et db y L cap i r W j (m.oz Z d) n l q Z).mono ?_;rintro b e ⟨f,bl⟩;have a:=g.next bl;have c:Be L i r=false:=decide_eq_false hf;rw[c];exact⟨f,a.cell 0 _ rfl,a.free 0,a,al ⟨c,h.next bl⟩,h.kept bl⟩
theorem Nu.uD(h:Nu E w P D A k fb db cap pg i L r)(g:E c)(l:0 ≠c)(m:ay w c #[v])(b:Value) :
  Nu E (w.setCell c b) P D A k fb db cap pg i L r/\Kept (λ j=>E j/\j≠c) w (w.setCell c b)/\ay (w.setCell c b) c #[b]:=by
 rcases h with⟨a,z,x,y,p⟩|⟨a,p⟩
 ·obtain⟨f,d,e⟩:=p.uD g l m b;exact⟨O ⟨a,z,x,y,f⟩,d,e⟩
 obtain⟨f,d,e⟩:=p.uD g l m b;exact⟨al ⟨a,f⟩,d,e⟩
theorem qT(hs:Y s<=300)(h:PF E W P D A k fb db cap pg false)(hk:k<900000000)(X:aO (A.c pg) L)(hp:pg<=60000)(h3:i<256)(Z:i<Y L)(R:bz L i≠[])(b1:ay W c1 #[V a7 ((pg*256+i:Nat):Int)])(r:ay W c2 #[a8 (str s)])(F:ay W c3 #[v3])(H:E c1)(K:E c2)(C:E c3)(t3:0 ≠c3)(n13:c1≠c3)(n23:c2≠c3) :
  Calls prog 178 #[aq fb,aq c1,aq c2,aq c3] W λ f e=>f=aw (V U 0)/\Nu E e P D A (k+1) fb db cap pg i L (0::s)/\ay e c3 #[a6 (Be L i (0::s))]/\Kept (λ j=>E j/\j≠c3) W e:=by
 have h5:=h.there;have I:Below W W W.drew:=(aU _ _).drew;have h4:=Q6 pg i hp h3;have Kl:Hid (IntKind.i64.wrap (i:Int)=(i:Int)):=by show _=_;rw[dM];omega
 generalize hn:pg*256+i=n at h4 b1;have y:=h.next I;have Q:=h.kept I
 -- the new bytes ahead of h7
 have g:Below W.drew.1.size W.drew (W.drew.alloc (.cells #[V .u8 0] 5)):=(aU _ _).alloc (aH _) _
 have p1:=y.wide g (T:=λ j=>E j\/j=W.1.size) (λ j d=>by
  rcases d with d|d
  ·exact O d
  exact al (by rw[d];simp))
 have G:aF (W.drew.alloc (.cells #[V .u8 0] 5)) W [0]:=qf W.drew;have M:∀w,aF w W [0]->(convert 94 9 (ad W 1 1)).run prog w= .ok (a8 (str [0])) w:=λ w hy=>UK.vB (P:=prog) (src:=94) (dst:=9) underlying94 underlying5 underlying9 hy 0 1 1 (by decide);have Nv:=M _ G;have d1:=b1.drew.c0;have d2:=r.drew.c0;have N:=(b1.drew.next g).c0;have J:=(r.drew.next g).c0;have Nw:(convert 94 9 (ad W 1 1)).run prog (W.alloc (.cells #[V .u8 0] 5)).drew= .ok (a8 (str [0])) (W.alloc (.cells #[V .u8 0] 5)).drew:=Nv;have h6:(W.alloc (.cells #[V .u8 0] 5)).drew.cell? c1=some (V a7 (n:Int)):=N;have h1:(W.alloc (.cells #[V .u8 0] 5)).drew.cell? c2=some (a8 (str s)):=J
 have h0:=zH ((zi y hk).mono (R':=λ f e=>f=aw (ad db 504 cap)/\e.cell? c1=some (V a7 (n:Int))/\e.cell? c2=some (a8 (str s))/\(e.alloc (.cells #[V .u8 0] 5)).cell? c1=some (V a7 (n:Int))/\(e.alloc (.cells #[V .u8 0] 5)).cell? c2=some (a8 (str s))/\(convert 94 9 (ad e 1 1)).run prog (e.alloc (.cells #[V .u8 0] 5))= .ok (a8 (str [0])) (e.alloc (.cells #[V .u8 0] 5))/\PF E (e.alloc (.cells #[V .u8 0] 5)) P D (A.keep pg) (k+1) fb db cap pg true/\ay (e.alloc (.cells #[V .u8 0] 5)) c3 #[v3]/\Kept E W (e.alloc (.cells #[V .u8 0] 5))) (λ _ e ⟨a,b,c⟩=>by
  have u:=b1.drew.ae (c.block _ H);have t:=r.drew.ae (c.block _ K);have q:Below e e (e.alloc (.cells #[V .u8 0] 5)):=(aU _ _).alloc (aH _) _;exact⟨a,u.cell 0 _ rfl,t.cell 0 _ rfl,(u.next q).cell 0 _ rfl,(t.next q).cell 0 _ rfl,UK.vB (P:=prog) (src:=94) (dst:=9) underlying94 underlying5 underlying9 (qf e) 0 1 1 (by decide),b.next q,(F.drew.ae (c.block _ C)).next q,(Q.trans c).trans (b.kept q)⟩))
 have HE2:=zH ((zi p1 hk).mono (R':=λ f e=>f=aw (ad db 504 cap)/\e.cell? c1=some (V a7 (n:Int))/\e.cell? c2=some (a8 (str s))/\(convert 94 9 (ad W 1 1)).run prog e= .ok (a8 (str [0])) e/\PF E e P D (A.keep pg) (k+1) fb db cap pg true/\ay e c3 #[v3]/\Kept E W e) (λ _ e ⟨a,b,c⟩=>by
  have u:=(b1.drew.next g).ae (c.block _ (O H));have t:=(r.drew.next g).ae (c.block _ (O K));exact⟨a,u.cell 0 _ rfl,t.cell 0 _ rfl,M e (G.ae (c.block _ (al rfl))),b.less (λ j d=>O d),(F.drew.next g).ae (c.block _ (O C)),(Q.trans (y.kept g)).trans (c.mono (λ j d=>O d))⟩))
 have h2:(str [0]).size+(str s).size<=9223372036854775807:=by rw[UK.eG,UK.eG,gI];omega
 have h8:∀w:World,(Op.stringOp .add (str [0]) (str s)).run prog w= .ok (a8 (str (0::s))) w:=λ w=>by
  have:=run_string_add_sum (P:=prog) (w:=w) (str [0]) (str s) h2;rw[UK.vS]at this;exact this
 have HRR:=bm X Z R;clear h y Q p1 g G M b1 r F I X Z R h5
 go_enter func178,ntmps178
 go_wp2_with fail
 go_region_held (λ w:World=>w.cell? c1=some (V a7 (n:Int))/\w.cell? c2=some (a8 (str s))) (first|exact⟨d1,d2⟩|exact⟨N,J⟩|exact⟨v,z⟩|exact⟨m3,S⟩|exact⟨m8,m9⟩|exact⟨gO n13 _ m8,gO n23 _ m9⟩) (first
  | (go_at_call 64;refine h0.out.mono ?_;rintro f w3 ⟨rfl,v,z,m3,S,m5,o,m,l⟩;replace o:=zH o;replace m:=zH m;replace l:=zH l)
  | (go_at_call 64;refine HE2.out.mono ?_;rintro f w3 ⟨rfl,v,z,m5,o,m,l⟩;replace o:=zH o;replace m:=zH m;replace l:=zH l)
  | (go_at_call 179;(try rw[Kl.out]);refine(ue o.out HRR.out.1 HRR.out.2.1 HRR.out.2.2 (List.cons_ne_nil _ _) C m.out).mono ?_;rintro f w4 ⟨rfl,m6,m7,B,x,p⟩;have m8:=gd p H (by first|exact m3|exact v);have m9:=gd p K (by first|exact S|exact z);replace x:=zH x;replace B:=zH B;replace p:=zH p))
 all_goals
  obtain⟨z1,z2,T⟩:=x.out.uD C t3 B.out (a6 (Be L i (0::s)));have H5:=bm z1 T (((l.out.trans p.out).mono (T:=λ j=>E j/\j≠c3) (λ _ (d:E _/\_)=>d.1)).trans z2);clear h0 HE2 o m l x B p z1 z2 T v z m5 m6 m7 N J h6 h1 Nv Nw;go_wp2;go_ret;exact⟨rfl,H5.out⟩
end
section
variable{P k fb db root H:Nat}{B C:AP}{t:HT}{s:List UInt8}
theorem HZ.less{T:Nat->Prop}(h:HZ Fo Co E W P D H k A root pg rp L X)(b:∀j,T j->E j)(a:T H):HZ Fo Co T W P D H k A root pg rp L X:=⟨h.pz.less b,h.good,h.box,a,h.hi,h.few,h.far⟩
theorem HZ.up{m:Nat}(h:HZ Fo Co E W P D H k A root pg rp L X)(a:k<=m):HZ Fo Co E W P D H m A root pg rp L X:=⟨h.pz.up a,h.good,h.box,h.mem,h.hi,h.few,h.far⟩
def qe(Fo:Nat->Prop)(Co:Nat->List UInt8)(E:Nat->Prop)(W W':World)(P D H k:Nat)(A:AP)(root:Nat)(t:HT)(s:List UInt8)(X:List HT)(e:Ending):Prop:=
 (∃u B f rp' d,e=aw (a9 #[V a7 (bP u:Nat),V U 0])/\u.s=s/\HZ Fo Co E W' P D H (k+(Y t.s+Y s+100)) B root f rp' d (u::X)/\A.Reach B/\Kept E W W') \/
 (∃a B b c g,e=aw (a9 #[V a7 0,V U 6])/\HI (a.fJ Fo) root b c g X/\A.Reach a/\A.Reach B/\500*a.aQ<Y s+500/\PZ E W' P D B (k+(Y t.s+Y s+100))/\Kept E W W')
theorem lf(h:HI (A.fJ Fo) root pg rp L (t::X))(d:Y t.s<=300)(b:Y s<=300)(f:aO z ((L t.pg).set t.i (0::s))) :
  HI ((A.ax t.pg z).fJ Fo) root pg rp (λ p=>if p=t.pg then(L t.pg).set t.i (0::s) else L p) (⟨t.pg,t.i,s,[]⟩::X):=by
 have a:qX A.c t:=h.long t (bI ..);unfold qX at a;rw[be d]at a;have e:En ⟨t.pg,t.i,s,[]⟩=0::s:=by unfold En;rw[be b]
 have:=h.swap (u:=⟨t.pg,t.i,s,[]⟩) (B:=((A.ax t.pg z).fJ Fo)) (y:=z) (λ p=>and_congr_left λ _=>AP.aC) rfl rfl a rfl b (by rw[e];exact f) (by show(A.ax t.pg z).c t.pg=z;rw[AP.aL,be rfl]) (λ p _ c=>by show(A.ax t.pg z).c p=A.c p;rw[AP.aL,aE (dJ c)]);rw[e]at this;exact this
theorem wG(h:HZ Fo Co E W P D H k A root pg rp L (t::X))(hk:k+(Y t.s+Y s+100)<900000000)(hn:Y s<=400000) :
  Calls prog 105 #[aq H,V a7 (bP t:Nat),a8 (str s)] W λ y e=>qe Fo Co E W e P D H k A root t s X y:=by
 have ht:=h.pz.tab.lt;have h1:=h.pz.there;obtain⟨hc,hy,x0⟩:=h.hi.each t (bI ..);have Q:A.Has t.pg:=(h.hi.rF hc).1
 have Bb:t.pg<=60000:=by
  have:=Q.2.1;have:=h.pz.qh;omega
 have hi:=h.hi.slot (bI (a:=t) (l:=X));have a1:Below W W (W.alloc (.cells #[V a7 ((bP t:Nat):Int)] 77)):=(aU _ _).alloc (aH _) _;have h0:(W.alloc (.cells #[V a7 ((bP t:Nat):Int)] 77)).1.size=W.1.size+1:=by simp
 have G:=ay.new W #[V a7 ((bP t:Nat):Int)] 77;generalize fO:W.alloc (.cells #[V a7 ((bP t:Nat):Int)] 77)=wa at a1 h0 G;have R:=a1.alloc Z (.cells #[a8 (str s)] 9);have h6:(wa.alloc (.cells #[a8 (str s)] 9)).1.size=W.1.size+2:=by simp[h0]
 have u:=ay.new wa #[a8 (str s)] 9;rw[h0]at u;have lT:=G.alloc (.cells #[a8 (str s)] 9);generalize hh:wa.alloc (.cells #[a8 (str s)] 9)=wc at R h6 u lT
 have M:Hid ((W.alloc (.cells #[V a7 ((bP t:Nat):Int)] 77)).alloc (.cells #[a8 (str s)] 9)=wc):=by
  show _=_;rw[fO,hh]
 have f:HZ Fo Co (λ j=>E j\/j=W.1.size\/j=W.1.size+1) wc P D H k A root pg rp L (t::X):=⟨h.pz.wide R (λ j b=>by
  rcases b with b|b|b
  ·exact O b
  ·exact al Z
  exact al Z),h.good,h.box.below R h.box.lt,O h.mem,h.hi,h.few,h.far⟩
 have k2:Kept E W wc:=h.pz.kept R;have C:=zH (f.find (bI ..) Z);have HZ2:=bp f k2 lT u;have HN:=bp Bb hi h1 ht;have I5:Hid (((bP t:Nat):Int)/256=(t.pg:Int)):=by show _=_;unfold bP;omega
 have Ns:Hid ((bP t:Nat)=t.pg*256+t.i):=rfl;have i:=zH h;have x1:Y X<=1000000:=by have:=h.few;rw[dF]at this;omega
 have x6:(Y s:Int)<=400000:=Z
 clear h G lT u a1 R h0 h6 fO hh h1 ht f k2 hc hy Q Bb hi;have x4:Hid ((bP t:Nat)=bP t):=rfl;generalize h8:(bP t:Nat)=n at M C HZ2 I5 Ns ⊢;have Mi:=zH h8;clear h8;by_cases hs:Y t.s<=300
 rotate_left
 have v:=Q7 t.s t.ch Z;have N:nth (dx t.s t.ch) 0=1:=by rw[v];rfl
 have uF:((nth (dx t.s t.ch) 0).toNat:Int)=1:=by rw[N];rfl
 have h4:(0:Int)<(dx t.s t.ch).length:=by rw[v];show(0:Int)<((9:Nat):Int);decide
 clear v hs;generalize dx t.s t.ch=rec at C N uF h4
 rotate_left
 have v:=U3 t.s t.ch hs;have N:nth (dx t.s t.ch) 0=0:=by rw[v];rfl
 have uF:((nth (dx t.s t.ch) 0).toNat:Int)=0:=by rw[N];rfl
 have h4:(0:Int)<(dx t.s t.ch).length:=by rw[v,dF];omega
 have HS:=zH hs;clear v hs;generalize dx t.s t.ch=rec at C N uF h4;by_cases ha:Y s<=300;have ho:(Y s:Int)<=300:=Z
 rotate_left
 have ho:¬(Y s:Int)<=300:=Z
 all_goals
  go_enter func105,ntmps105
  have h9:((W.alloc (.cells #[V a7 ((n:Nat):Int)] 77)).alloc (.cells #[a8 (str s)] 9)).cell? ⟨W.1.size+1,0,none⟩=some (a8 (str s)):=by rw[M.out];exact HZ2.out.2.2.2.cell 0 _ rfl
  have h7:((W.alloc (.cells #[V a7 ((n:Nat):Int)] 77)).alloc (.cells #[a8 (str s)] 9)).cell? W.1.size=some (V a7 (n:Int)):=by rw[M.out];exact HZ2.out.2.2.1.cell 0 _ rfl
  rw[<-M.out]at C
  go_wp2_with fail
  refine C.out.mono ?_
 iterate 2 (rintro y l ⟨rfl,B,g⟩;rw[M.out]at g;have HM:=zH (show HZ Fo Co (λ j=>E j\/j=W.1.size\/j=W.1.size+1) l P D H (k+10) A root pg rp L (t::X)/\A.Reach A/\Kept (λ j=>E j\/j=W.1.size\/j=W.1.size+1) wc l from⟨⟨B.up Z,HZ2.out.1.good,HZ2.out.1.box.ae (g.block _ HZ2.out.1.mem),HZ2.out.1.mem,HZ2.out.1.hi,HZ2.out.1.few,HZ2.out.1.far⟩,AP.Reach.refl A,g⟩);clear C B g h9 h7;rotate_left)
 focus
  rintro y c ⟨rfl,B,g⟩;rw[M.out]at g;obtain⟨f,k2,G,u⟩:=HZ2.out;have K:=G.ae (g.block _ (al (O rfl)));have S:=u.ae (g.block _ (al (al rfl)));have U7:=f.box.ae (g.block _ f.mem);have e2:=S.c0;have e1:=K.c0;obtain⟨Bb,⟨hv,x2⟩,h1,hz⟩:=HN.out;have h5:bz (L t.pg) t.i≠[]:=by rw[(f.hi.each t (bI ..)).2.1];exact FU t
  have Cs:=(f.hi.each t (bI ..)).1;have hb:=(f.hi.recs t.pg Cs).1;have Q:A.Has t.pg:=(f.hi.rF Cs).1;have q:Below c c (c.alloc (.cells #[a6 false] 4)):=(aU _ _).alloc (aH _) _;have hg:(c.alloc (.cells #[a6 false] 4)).1.size=c.1.size+1:=by simp
  have x5:=ay.new c #[a6 false] 4;have U8:W.1.size+2<=c.1.size:=by have:=S.lt;omega
  generalize hj:c.alloc (.cells #[a6 false] 4)=wv at q hg x5
  have x:=(B.wide q (T:=λ j=>(E j\/j=W.1.size\/j=W.1.size+1)\/j=c.1.size) (λ j b=>by
   rcases b with b|b
   ·exact O b
   exact al Z)).next (aU _ _).drew
  have d:Kept (λ j=>E j\/j=W.1.size\/j=W.1.size+1) c wv.drew:=B.kept q.drew;have f0:=(U7.below q U7.lt).c0;have f1:=(K.below q K.lt).c0
  have HW:=zH (FR (N:=178) (mH:= #[aq W,aq (some ⟨W.1.size+1,0,none⟩),aq c]) (F:=λ j=>E j\/j=W.1.size\/j=W.1.size+1)
   (R:=λ A' k' r e=>r=0/\k'=k+2+2+1/\ay e c #[a6 (Be (L t.pg) t.i (0::s))]/\((Be (L t.pg) t.i (0::s)=true/\∃z,aO z ((L t.pg).set t.i (0::s))/\A'=A.ax t.pg z)\/(Be (L t.pg) t.i (0::s)=false/\A'=A.keep t.pg)))
   (Cr func178 (by kernel_rfl) (by kernel_rfl)) x Z Q (λ j b=>O b) (λ fb db cap w mr h2=>by
    have z1:=((K.below q K.lt).drew).ae (h2.block _ (O (al (O rfl))));have z2:=((S.below q S.lt).drew).ae (h2.block _ (O (al (al rfl))));have z3:=x5.drew.ae (h2.block _ (al rfl));rw[Ns.out]at z1;refine(qT ha mr Z hb Bb Z hv h5 z1 z2 z3 (O (al (O rfl))) (O (al (al rfl))) (al rfl) Z Z Z).mono ?_;rintro y e ⟨he,hx,q2,q3⟩;have q3':=q3.mono (T:=λ j=>E j\/j=W.1.size\/j=W.1.size+1) (λ j b=>⟨O b,by have:=B.there j b;omega⟩);rcases hx with⟨a,z,b1,b2,b3⟩|⟨a,b3⟩
    ·exact⟨0,_,_,true,he,b3,q3',rfl,rfl,q2,O ⟨a,z,b1,rfl⟩⟩
    exact⟨0,_,_,true,he,b3,q3',rfl,rfl,q2,al ⟨a,rfl⟩⟩))
  have hm:=zH hj;have K6:=zH (g.trans d);clear C B g f k2 G u K S U7 h5 Cs hb Q q hg x5 U8 hj x d h9 h7 h1
  go_wp2_with fail
  rw[hm.out];have x3:=I5.out
  go_still_tail 8,(by kernel_rfl)
  change wpList _ _ _ _ _ wv.drew
  go_wp2_with fail
  refine HW.out.mono ?_;rintro y l ⟨r,A',k',w1',rfl,⟨rfl,rfl,b5,qg⟩,I,k7,k8⟩;have d5:l.cell? c.1.size=some (a6 (Be (L t.pg) t.i (0::s))):=(b5.ae (k7.block _ (al rfl))).cell 0 _ rfl;have m:=K6.out.trans k8;have e3:l.cell? W.1.size=some (V a7 (n:Int)):=(HZ2.out.2.2.1.ae (m.block _ (al (O rfl)))).cell 0 _ rfl;have F:A.Has t.pg:=(HZ2.out.1.hi.rF (HZ2.out.1.hi.each t (bI ..)).1).1;rcases qg with⟨T,z,U,rfl⟩|⟨T,rfl⟩
  ·rw[T]at d5;have H7:=bp U ((I.less (T:=E) (λ j b=>O (O b))).up (show k+2+2+1<=k+(Y t.s+Y s+100) from Z)) (HZ2.out.2.1.trans (m.mono (λ j b=>O b))) F;clear HW I k7 k8 b5 m U F T;go_wp2;go_ret2;obtain⟨U,I,m,F⟩:=H7.out;have qi:=(AP.Reach.refl A).ax F z;exact O ⟨⟨t.pg,t.i,s,[]⟩,_,pg,rp,_,by rw[show bP ⟨t.pg,t.i,s,[]⟩=n from Mi.out]<;>rfl,rfl,⟨I,qi.good i.out.good,i.out.box.ae (m.block H i.out.mem),i.out.mem,lf i.out.hi HS.out ha U,i.out.few,i.out.far.ax (i.out.hi.Kj (i.out.hi.each t (bI ..)).1) _⟩,qi,m⟩
  rw[T]at d5;have HM:=zH (show HZ Fo Co (λ j=>E j\/j=W.1.size\/j=W.1.size+1) l P D H (k+10) (A.keep t.pg) root pg rp L (t::X)/\A.Reach (A.keep t.pg)/\Kept (λ j=>E j\/j=W.1.size\/j=W.1.size+1) wc l from⟨⟨(I.less (λ j b=>O b)).up Z,HZ2.out.1.good.keep _,HZ2.out.1.box.ae (m.block _ HZ2.out.1.mem),HZ2.out.1.mem,HZ2.out.1.hi.same (λ p=>and_congr_left λ _=>AP.qj) (λ p _=>rfl),HZ2.out.1.few,HZ2.out.1.far.like rfl (λ p hp=>AP.qj.2 (HZ2.out.1.far p hp).1)⟩,(AP.Reach.refl A).keep F,m⟩);clear HW I k7 k8 b5 m F T e1 e2 e3
 all_goals
  obtain⟨xR,rb,kb⟩:=HM.out;have e1:l.cell? W.1.size=some (V a7 (n:Int)):=(HZ2.out.2.2.1.ae (kb.block _ (al (O rfl)))).cell 0 _ rfl;have e2:l.cell? ⟨W.1.size+1,0,none⟩=some (a8 (str s)):=(HZ2.out.2.2.2.ae (kb.block _ (al (al rfl)))).cell 0 _ rfl;have h3:=Tm xR Z;rw[Mi.out]at h3;have HD:=zH h3;clear xR rb kb h3
  go_wp2_with fail
  refine HD.out.mono ?_;rintro y w5 ⟨B5,hl,L5,rfl,wW,r5,k5⟩;have Cv:=HM.out.2.2.trans k5;have e3:w5.cell? ⟨W.1.size+1,0,none⟩=some (a8 (str s)):=(HZ2.out.2.2.2.ae (Cv.block _ (al (al rfl)))).cell 0 _ rfl
  have HP:=zH (Yi (s:=s) wW Z hn (by
   have:=i.out.few;rw[dF]at this;omega))
  have J:=bm wW.hi (HM.out.2.1.trans r5) Cv;clear HD wW r5 k5 Cv
  go_wp2_with fail
  refine HP.out.mono ?_;rintro y w6 (⟨hr,B6,hq,hw,L6,rfl,hu,QB,o,d⟩|⟨B6,rfl,o,q6,x,d⟩)
  ·have H6:=bp hu QB o d;clear HP hu QB o d;go_wp2;go_ret2;obtain⟨hu,QB,o,d⟩:=H6.out;exact O ⟨hr,B6,hq,hw,L6,rfl,hu,(QB.less (λ j b=>O b) i.out.mem).up Z,J.out.2.1.trans o,(HZ2.out.2.1.trans ((J.out.2.2.trans d).mono (λ j b=>O b)))⟩
  have H6:=bp q6 x o d;clear HP q6 x o d;go_wp2;go_ret2;obtain⟨q6,x,o,d⟩:=H6.out;exact al ⟨B5,B6,_,hl,L5,rfl,J.out.1,J.out.2.1,J.out.2.1.trans o,q6,(x.less (λ j b=>O b)).up Z,(HZ2.out.2.1.trans ((J.out.2.2.trans d).mono (λ j b=>O b)))⟩
end
theorem Wl(h:Row W g c (az l))(X:Y l<=1000)(G:i<Y l) :
  Calls prog 215 #[ad g (Y l) c,V U i,V U ((i:Int)+1)] W λ B e=>B=aw (ad g (Y l-1) c)/\Row e g c (az (l.take i++l.drop (i+1)))/\Only g W e:=by
 have o:=dH l;have A:=h.le;rw[o]at A;obtain⟨n,s⟩:∃n,n=Y l:=⟨_,rfl⟩;have H:¬((i:Int)=(i:Int)+1):=Z
 have h3:¬(c=i):=Z
 have h5:((i:Int)+1).toNat=i+1:=Z
 have h6:(0:Int)<=(i:Int)+1:=Z
 have T:(i:Int)+1<=(n:Int):=Z
 have h0:i<=c:=Z
 have J:i+1<=n:=Z
 have K:(prog.info? 77).map (·.size)=some 1:=by kernel_rfl
 have E:∀m:List UInt64,∀u∈az m,u.oneCell'=true:=λ m u I=>by
  unfold az at I;obtain⟨x,_,rfl⟩:=bL.1 I;rfl
 have D:(az l).drop (i+1)=az (l.drop (i+1)):=by unfold az;rw[List.map_drop]
 have d:(az (l.drop (i+1))).length=n-(i+1):=by rw[dH,zd,s]
 have q:=h.drewN 1
 have z:∀ao,(ao=(⟨g,i+1,none⟩:Addr)\/i+1=n)->∀r,(Builtin.append_ #[88,88] 88 #[ad g i c,ad (some ao) (n-(i+1)) r]).run prog W.drew= .ok (ad g (n-1) c) (W.drew.setCells g i (az (l.drop (i+1)))):=λ ao Q r=>by
  have hs:Src prog 1 88 (ad (some ao) (n-(i+1)) r) (n-(i+1)) (az (l.drop (i+1))) W.drew:=Src.ofSlice W.drew underlying88 ao (n-(i+1)) r _ (by rw[d,xX]) (λ j u a=>by
   rcases Q with rfl|B
   ·rw[UK.mY];exact q.at' (i+1+j) u (by rw[<-D,eP]at a;exact a)
   have:j<(az (l.drop (i+1))).length:=(dz.1 a).1;rw[d]at this;omega) (E _)
  have F:=run_append_room_src (P:=prog) W.drew 88 88 88 77 t77 underlying88 rfl g 0 i c _ _ _ hs Z (λ j a=>(q.there _ (by rw[d]at a;show 0+i*1+j<c;omega)).1) (λ j a=>(q.there _ (by rw[d]at a;show 0+i*1+j<c;omega)).2);rw[show i+(n-(i+1))=n-1 from Z,show 0+i*t77.size=i by show 0+i*1=i;omega]at F;exact F
 have p:Row (W.drew.setCells g i (az (l.drop (i+1)))) g c (az (l.take i++l.drop (i+1))++(az l).drop (n-1)):=q.setCells i (az (l.drop (i+1))) (by rw[d];omega) _ (by rw[zl,dH,zl,zt,zd,zd,o];omega)
  (λ j a=>by
   rw[d]at a;rw[bR (by rw[dH,zl,zt,zd];omega)];unfold az;rw[dL,dL,bZ (by rw[zt];omega),zt,show i+j-min i (Y l)=j from Z])
  (λ j a f=>by
   rw[zl,dH,zl,zt,zd,zd,o]at a;rw[d]at f;refine⟨by rw[o];omega,?_⟩;rcases f with f|f
   ·rw[bR (by rw[dH,zl,zt,zd];omega)];unfold az;rw[dL,dL,bR (by rw[zt];omega),fT f]
   rw[bZ (by rw[dH,zl,zt,zd];omega),dH,zl,zt,zd,eP]
   congr 1
   omega)
 have t:Only g W (W.drew.setCells g i (az (l.drop (i+1)))):=UK.Only.setCells _ _ (Only.refl g W).drew;generalize P:W.drew.setCells g i (az (l.drop (i+1)))=k at p t z;have pV:(Builtin.clear_ #[88] 0 #[ad (g,n-1) 1 (c-(n-1))]).run prog k= .ok (a9 #[]) (k.setCells g (n-1) (List.replicate 1 (V a7 0))):=Lib.run_clear_slice (P:=prog) k 88 77 0 (V a7 0) underlying88 (λ w=>by kernel_rfl) rfl rfl g (n-1) 1 (c-(n-1)) Z (λ j a=>(p.there _ Z).1) (λ j a=>(p.there _ Z).2)
 have fin:Row (k.setCells g (n-1) (List.replicate 1 (V a7 0))) g c (az (l.take i++l.drop (i+1)))/\Only g W (k.setCells g (n-1) (List.replicate 1 (V a7 0))):=by
  have b:(az (l.take i++l.drop (i+1))).length=n-1:=by rw[dH,zl,zt,zd];omega
  have L:Row (k.setCells g (n-1) (List.replicate 1 (V a7 0))) g c (az (l.take i++l.drop (i+1))++[V a7 0]):=p.setCells (n-1) (List.replicate 1 (V a7 0)) (by rw[iM];omega) _ (by rw[zl,b];simp;omega) (λ j a=>by
   have N:j=0:=by simpa using a
   subst N;rw[bZ (by rw[b];omega),b,show n-1+0-(n-1)=0 from Z];rfl) (λ j a f=>by
   rw[zl,b]at a;simp only[iM,gI]at a f;refine⟨by rw[zl,b];omega,?_⟩;rw[bR (by rw[b];omega),bR (by rw[b];omega)])
  have rt:=L.take (n-1);rw[List.take_append,fQ (by rw[b];omega),b,l7,kU,jl]at rt;exact⟨rt,UK.Only.setCells _ _ t⟩
 have y:=zH fin;have v:=zH z;clear fin p t q D d E K z h P;rw[<-s]at X G A ⊢;clear s o;have R:n-(n-1)=1:=Z
 have h4:((i:Int)==(i:Int)+1)=false:=beq_eq_false_iff_ne.2 H;have S:¬(c=n-1):=Z
 have M:((n-1:Nat):Int)<=(n:Int):=Z
 by_cases h1:c=i+1
 ·obtain rfl:n=i+1:=Z
  subst h1
  have C:(Builtin.append_ #[88,88] 88 #[ad g i (i+1),ad g 0 0]).run prog W.drew= .ok (ad g i (i+1)) k:=by
   have:=v.out ⟨g,0,none⟩ (al rfl) 0;rw[l7,Nat.add_sub_cancel]at this;exact this
  rw[Nat.add_sub_cancel,sw]at pV;rw[Nat.add_sub_cancel]at y ⊢;have E1:=zH C;have LP:¬(i+1=i):=Z
  clear v C R S M T h0 J G A H;have h2:(i:Int)<=(i:Int)+1:=Z
  go_enter func215,ntmps215
  go_wp2_with fail
  go_region_law (refine UK.aM E1.out rfl rfl rfl (by simp[Act.eval,Act.put]) (by simp[Act.eval,Act.put]) ?_)
  go_wp2;go_ret
  exact⟨rfl,y.out⟩
 go_enter func215,ntmps215
 go_wp2_with fail
 go_region_law (refine UK.aM (v.out ⟨g,i+1,none⟩ (O rfl) (c-(i+1))) rfl rfl rfl (by simp[Act.eval,Act.put]) (by simp[Act.eval,Act.put]) ?_)
 go_wp2;go_ret
 exact⟨rfl,y.out⟩
theorem Vv{x:List UInt8}{o:Nat}(h:x.drop o=b64 k++r):rQ x o=k:=by
 have a:x.drop (o+4)=aJ (UK.mJ k)++r:=by
  rw[<-lq,h];rfl
 unfold rQ;rw[h,a];show UK.uP (dS (aJ (UK.lV k))) (dS (aJ (UK.mJ k)))=k;rw[Fg,Fg,UK.qx]
theorem Wm:∀(ks vs:List UInt64) (i:Nat) (k v:UInt64),ks[i]?=some k->vs[i]?=some v->∃r,(qM ks vs).drop (16*i)=b64 k++(b64 v++r)
 | a::ks,b::vs,0,k,v,d,c=>by
  obtain rfl:a=k:=by simpa using d
  obtain rfl:b=v:=by simpa using c
  exact⟨qM ks vs,rfl⟩
 | a::ks,b::vs,i+1,k,v,d,c=>by
  obtain⟨r,e⟩:=Wm ks vs i k v (by simpa using d) (by simpa using c);refine⟨r,?_⟩;show(b64 a++(b64 b++qM ks vs)).drop (16*(i+1))=_;rw[show 16*(i+1)=8+(8+16*i) from Z,<-lq,<-lq];exact e
 | [],_,_,_,_,d,_=>by simp at d
 | _::_,[],_,_,_,_,c=>by simp at c
theorem g9(y:List UInt8)(ks vs:List UInt64)(o:Nat)(c:504<=Y y)(b:o<=(qM ks vs).length):(qH y ks vs).drop (4+o)=(qM ks vs).drop o++((y.set 0 1).set 1 (UInt8.ofNat (Y ks))).drop (4+(qM ks vs).length):=by
 unfold qH UK.wr;have a:(((y.set 0 1).set 1 (UInt8.ofNat (Y ks))).take 4).length=4:=by rw[zt,aV,aV];omega
 rw[List.drop_append,a,List.drop_of_length_le (by rw[a];omega),iQ,show 4+o-4=o from Z,List.drop_append_of_le_length b]
theorem AL(y:List UInt8)(ks vs:List UInt64)(f:504<=Y y)(e:Y vs=Y ks):qm (qH y ks vs) (Y ks)=ks:=by
 refine List.ext_getElem (by rw[CO]) (λ i g a=>?_);have b:ks[i]?=some ks[i]:=bK a;have d:vs[i]?=some (vs[i]'Z):=bK Z;obtain⟨r,c⟩:=Wm ks vs i _ _ b d;have h:=KR ks vs e;simp only[qm,List.getElem_map,List.getElem_range];have:=g9 y ks vs (16*i) f Z;rw[c,cO]at this;exact Vv this
theorem rs(y:List UInt8)(ks vs:List UInt64)(g:504<=Y y)(a:Y vs=Y ks):rR (qH y ks vs) (Y ks)=vs:=by
 refine List.ext_getElem (by rw[Gh,a]) (λ i c b=>?_);have d:ks[i]?=some (ks[i]'Z):=bK Z;have f:vs[i]?=some vs[i]:=bK b;obtain⟨r,e⟩:=Wm ks vs i _ _ d f;have h:=KR ks vs a;simp only[rR,List.getElem_map,List.getElem_range];have:=g9 y ks vs (16*i) g (by rw[Gh]at c;omega);rw[e]at this;refine Vv (r:=r++((y.set 0 1).set 1 (UInt8.ofNat (Y ks))).drop (4+(qM ks vs).length)) ?_;rw[show 12+16*i=(4+16*i)+8 from Z,<-lq,this];show((b64 vs[i])++r)++_=_;rw[cO]
theorem JN(y:List UInt8)(ks vs:List UInt64)(c:504<=Y y)(b:Y ks<=30):Wh (qH y ks vs) (Y ks):=by
 have h:∀i,i<4->nth (qH y ks vs) i=nth ((y.set 0 1).set 1 (UInt8.ofNat (Y ks))) i:=λ i a=>by
  unfold qH UK.wr nth;rw[fV,fV,bR (by rw[zt,aV,aV];omega),fT a]
 refine⟨?_,?_,b⟩
 ·rw[h 0 Z];unfold nth;rw[fV,List.getElem?_set_ne Z,List.getElem?_set_self Z];rfl
 rw[h 1 Z];unfold nth;rw[fV,List.getElem?_set_self (by rw[aV];omega)];show(UInt8.ofNat (Y ks)).toNat=_;rw[UInt8.toNat_ofNat'];omega
structure tF(A:AP)(pg:Nat)(ks vs:List UInt64):Prop where
 has:A.Has pg
 head:Wh (A.c pg) (Y ks)
 ag:qm (A.c pg) (Y ks)=ks
 vals:rR (A.c pg) (Y ks)=vs
 up:jV ks
theorem tF.len(h:tF A pg ks vs):Y vs=Y ks:=by rw[<-h.vals,Gh]
open UK (str aF nth Only)
def vW(y:List UInt8)(i:Nat):Nat:=(dS ((y.drop (4+4*i)).take 4)).toNat
def pE(y:List UInt8)(n:Nat):List Nat:=(List.range n).map (vW y)
def jD(y:List UInt8)(n:Nat):List UInt64:=(List.range n).map λ i=>rQ y (164+8*i)
def mI(y:List UInt8):Option Nd:=
 if nth y 0=1/\(nth y 1).toNat<=30 then some ⟨true,qm y (nth y 1).toNat,rR y (nth y 1).toNat,[]⟩
 else if nth y 0=2/\2<=(nth y 1).toNat/\(nth y 1).toNat<=40 then some ⟨false,jD y ((nth y 1).toNat-1),[],pE y (nth y 1).toNat⟩
 else none
def rT(l:List Nat):List UInt8:=l.flatMap λ k=>aJ (UInt32.ofNat k)
def qo(l:List UInt64):List UInt8:=l.flatMap b64
def vk(y:List UInt8)(ag:List UInt64)(a:List Nat):List UInt8:=UK.wr (UK.wr ((y.set 0 2).set 1 (UInt8.ofNat (Y a))) 4 (rT a)) 164 (qo ag)
def aX(y:List UInt8)(x:Nd):List UInt8:=if x.leaf then qH y x.ag x.vals else vk y x.ag x.ak
structure Fits(x:Nd):Prop where
 leaf:x.leaf=true->Y x.ag<=30/\Y x.vals=Y x.ag/\x.ak=[]
 inner:x.leaf=false->Y x.ak=Y x.ag+1/\2<=Y x.ak/\Y x.ak<=40/\x.vals=[]/\∀k∈x.ak,k<4294967296
theorem Vu{c:Type}(f:c->List UInt8)(m:Nat)(hf:∀a,(f a).length=m):∀(l:List c) (i:Nat) (a:c),l[i]?=some a->∃r,(l.flatMap f).drop (m*i)=f a++r
 | [],_,_,h=>by simp at h
 | b::l,0,a,h=>by
  obtain rfl:b=a:=by simpa using h
  exact⟨l.flatMap f,by simp⟩
 | b::l,i+1,a,h=>by
  obtain⟨r,d⟩:=Vu f m hf l i a (by simpa using h);refine⟨r,?_⟩;have e:m*(i+1)=m+m*i:=by rw[Nat.mul_add,xX,Nat.add_comm]
  rw[jq,e,List.drop_append,hf,List.drop_of_length_le (by rw[hf];omega),iQ,show m+m*i-m=m*i from Z];exact d
theorem dq{c:Type}(f:c->List UInt8)(m:Nat)(hf:∀a,(f a).length=m)(l:List c):(l.flatMap f).length=m*Y l:=by
 induction l with
 | nil=>simp
 | cons b l d=>rw[jq,zl,hf,d,dF,Nat.mul_add,xX,Nat.add_comm]
theorem E8(l:List Nat):(rT l).length=4*Y l:=dq _ 4 (λ _=>rfl) l
theorem QW(l:List UInt64):(qo l).length=8*Y l:=dq _ 8 (λ _=>rfl) l
theorem fg(x:List UInt8)(a o:Nat)(s:List UInt8)(d:a<=Y x)(c:o<=Y s):(UK.wr x a s).drop (a+o)=s.drop o++x.drop (a+Y s):=by
 unfold UK.wr;have b:(x.take a).length=a:=by rw[zt];omega
 rw[List.drop_append,b,List.drop_of_length_le (by rw[b];omega),iQ,show a+o-a=o from Z,List.drop_append_of_le_length c]
theorem AS(x:List UInt8)(a i m:Nat)(s:List UInt8)(d:a<=Y x)(c:i+m<=a):((UK.wr x a s).drop i).take m=(x.drop i).take m:=by
 unfold UK.wr;have b:(x.take a).length=a:=by rw[zt];omega
 rw[List.drop_append_of_le_length Z,qN (by rw[zd];omega),List.drop_take,lK]
 congr 1
 omega
theorem dg(x:List UInt8)(a i:Nat)(s:List UInt8)(c:a<=Y x)(b:i<a):nth (UK.wr x a s) i=nth x i:=by
 unfold UK.wr nth;rw[fV,fV,bR (by rw[zt];omega),fT b]
theorem Dd(y:List UInt8)(ag:List UInt64)(a:List Nat)(e:504<=Y y)(d:Y a<=40)(c:Y ag<=42):(vk y ag a).length=Y y:=by
 have b:(UK.wr ((y.set 0 2).set 1 (UInt8.ofNat (Y a))) 4 (rT a)).length=Y y:=by
  rw[UK.jF _ _ _ (by rw[E8,aV,aV];omega),aV,aV]
 unfold vk;rw[UK.jF _ _ _ (by rw[QW,b];omega),b]
theorem ma(y:List UInt8)(ag:List UInt64)(a:List Nat)(h:504<=Y y)(g:Y a<=40):jD (vk y ag a) (Y ag)=ag:=by
 have c:(UK.wr ((y.set 0 2).set 1 (UInt8.ofNat (Y a))) 4 (rT a)).length=Y y:=by
  rw[UK.jF _ _ _ (by rw[E8,aV,aV];omega),aV,aV]
 refine List.ext_getElem (by simp[jD]) (λ i f d=>?_);simp only[jD,List.getElem_map,List.getElem_range];obtain⟨r,e⟩:=Vu b64 8 (λ _=>rfl) ag i ag[i] (bK d);have hd:=fg (UK.wr ((y.set 0 2).set 1 (UInt8.ofNat (Y a))) 4 (rT a)) 164 (8*i) (qo ag) (by rw[c];omega) (by rw[QW];omega);have b:(qo ag).drop (8*i)=b64 ag[i]++r:=e;rw[b,cO]at hd;exact Vv hd
theorem CD(y:List UInt8)(ag:List UInt64)(a:List Nat)(j:504<=Y y)(h:Y a<=40)(e:∀k∈a,k<4294967296):pE (vk y ag a) (Y a)=a:=by
 have d:(UK.wr ((y.set 0 2).set 1 (UInt8.ofNat (Y a))) 4 (rT a)).length=Y y:=by
  rw[UK.jF _ _ _ (by rw[E8,aV,aV];omega),aV,aV]
 refine List.ext_getElem (by simp[pE]) (λ i g b=>?_);simp only[pE,List.getElem_map,List.getElem_range];unfold vW vk;rw[AS _ 164 (4+4*i) 4 _ (by rw[d];omega) Z];obtain⟨r,f⟩:=Vu (λ k=>aJ (UInt32.ofNat k)) 4 (λ _=>rfl) a i a[i] (bK b);have hd:=fg ((y.set 0 2).set 1 (UInt8.ofNat (Y a))) 4 (4*i) (rT a) (by rw[aV,aV];omega) (by rw[E8];omega);have c:(rT a).drop (4*i)=aJ (UInt32.ofNat a[i])++r:=f;rw[c,cO]at hd;rw[hd,qN (show 4<=(aJ (UInt32.ofNat a[i])).length from aH 4),fQ (show(aJ (UInt32.ofNat a[i])).length<=4 from aH 4),Fg];rw[UInt32.toNat_ofNat'];exact yT (e _ (List.getElem_mem b))
theorem Eo(y:List UInt8)(ag:List UInt64)(a:List Nat)(e:504<=Y y)(d:Y a<=40):nth (vk y ag a) 0=2/\(nth (vk y ag a) 1).toNat=Y a:=by
 have b:(UK.wr ((y.set 0 2).set 1 (UInt8.ofNat (Y a))) 4 (rT a)).length=Y y:=by
  rw[UK.jF _ _ _ (by rw[E8,aV,aV];omega),aV,aV]
 have h:∀i,i<4->nth (vk y ag a) i=nth ((y.set 0 2).set 1 (UInt8.ofNat (Y a))) i:=λ i c=>by
  unfold vk;rw[dg _ _ _ _ (by rw[b];omega) Z,dg _ _ _ _ (by rw[aV,aV];omega) c]
 refine⟨?_,?_⟩
 ·rw[h 0 Z];unfold nth;rw[fV,List.getElem?_set_ne Z,List.getElem?_set_self Z];rfl
 rw[h 1 Z];unfold nth;rw[fV,List.getElem?_set_self (by rw[aV];omega)];show(UInt8.ofNat (Y a)).toNat=_;rw[UInt8.toNat_ofNat'];omega
theorem Ib(y:List UInt8)(x:Nd)(c:504<=Y y)(k:Fits x):mI (aX y x)=some x:=by
 obtain⟨l,ag,vals,d⟩:=x
 cases l with
 | true=>
  obtain⟨e,b,a⟩:=k.leaf rfl;dsimp only at e b a;obtain⟨g,f,m⟩:=JN y ag vals c e;show mI (qH y ag vals)=_;unfold mI;rw[g,f,be ⟨rfl,e⟩,AL y ag vals c b,rs y ag vals c b,a]
 | false=>
  obtain⟨e,b,a,j,i⟩:=k.inner rfl;dsimp only at e b a j i;obtain⟨g,f⟩:=Eo y ag d c a;show mI (vk y ag d)=_;unfold mI;rw[g,f,aE (by intro h;exact absurd h.1 (by decide)),be ⟨rfl,b,a⟩,show Y d-1=Y ag from Z,ma y ag d c a,CD y ag d c a i,j]
theorem lI(h:mI y=some x):Fits x:=by
 unfold mI at h
 split at h
 ·rename_i a
  obtain rfl:=bf h;exact⟨λ _=>⟨by rw[CO];exact a.2,by rw[CO,Gh],rfl⟩,(λ h=>by cases h)⟩
 split at h
 ·rename_i a c
  obtain rfl:=bf h;refine⟨(λ h=>by cases h),λ _=>⟨?_,?_,?_,rfl,λ k b=>?_⟩⟩
  ·simp[pE,jD];omega
  ·simp[pE];omega
  ·simp[pE];omega
  simp only[pE,bL]at b;obtain⟨i,_,rfl⟩:=b;unfold vW;exact(dS _).toNat_lt
 cases h
theorem uL(y:List UInt8)(x:Nd)(e:504<=Y y)(c:Fits x):(aX y x).length=Y y:=by
 unfold aX
 cases d:x.leaf with
 | true=>
  obtain⟨b,a,_⟩:=c.leaf d;rw[be rfl];exact Vw y _ _ b a e
 | false=>
  obtain⟨b,a,f,_⟩:=c.inner d;rw[aE (by decide)];exact Dd y _ _ e f Z
theorem vf(y:List UInt8)(ag:List UInt64)(a:List Nat)(e:504<=Y y)(d:Y a<=40)(c:Y ag<=42):(vk y ag a).take 504=vk (y.take 504) ag a:=by
 have b:(UK.wr ((y.set 0 2).set 1 (UInt8.ofNat (Y a))) 4 (rT a)).length=Y y:=by
  rw[UK.jF _ _ _ (by rw[E8,aV,aV];omega),aV,aV]
 unfold vk;rw[Lm _ _ _ _ (by rw[QW];omega) (by rw[b];omega),Lm _ _ _ _ (by rw[E8];omega) (by rw[aV,aV];omega),List.take_set,List.take_set]
theorem gg(y:List UInt8)(x:Nd)(e:504<=Y y)(c:Fits x):(aX y x).take 504=aX (y.take 504) x:=by
 unfold aX
 cases d:x.leaf with
 | true=>
  obtain⟨b,a,_⟩:=c.leaf d;rw[be rfl,be rfl];exact Vx y _ _ b a e
 | false=>
  obtain⟨b,a,f,_⟩:=c.inner d;rw[aE (by decide),aE (by decide)];exact vf y _ _ e f Z
theorem rI(y:List UInt8)(i:Nat)(h:4+4*i+4<=504):vW (y.take 504) i=vW y i:=by
 unfold vW;rw[List.drop_take,lK,gV Z]
theorem jz(y:List UInt8):mI (y.take 504)=mI y:=by
 have e:=Vy y 0 Z;have c:=Vy y 1 Z;unfold mI;rw[e,c]
 split
 ·rename_i h
  rw[fq y _ h.2,cN y _ h.2]
 split
 ·rename_i h
  have d:jD (y.take 504) ((nth y 1).toNat-1)=jD y ((nth y 1).toNat-1):=by
   unfold jD;refine List.map_congr_left (λ i a=>?_);have:=ky.1 a;exact Vz y _ Z
  have b:pE (y.take 504) (nth y 1).toNat=pE y (nth y 1).toNat:=by
   unfold pE;refine List.map_congr_left (λ i a=>?_);have:=ky.1 a;exact rI y i Z
  rw[d,b]
 rfl
abbrev KV:=UInt64×UInt64
variable{b:List KV}
def jO(l:List KV)(k v:UInt64):List KV:=l.filter (λ x=>decide (x.1.toNat<k.toNat))++(k,v)::l.filter (λ x=>decide (k.toNat<x.1.toNat))
def l9(l:List KV)(k:UInt64):List KV:=l.filter (λ x=>decide (x.1≠k))
structure Sb where
 pg:Nat
 l:List KV
 ps:List Nat
variable{P:Sb->Prop}{s t:Sb}{ah:List Sb}
inductive It where
 | s (t:Sb)
 | k (κ:UInt64)
def It.R:It->It->Prop
 | .s a,.s b=>∀x∈a.l,∀y∈b.l,x.1.toNat<y.1.toNat
 | .s a,.k κ=>∀x∈a.l,x.1.toNat<κ.toNat
 | .k κ,.s b=>∀y∈b.l,κ.toNat<=y.1.toNat
 | .k κ,.k c=>κ.toNat<c.toNat
def qA:List UInt64->List Sb->List It
 | [],a=>a.map It.s
 | κ::ks,s::a=>.s s:: .k κ::qA ks a
 | ks,[]=>ks.map It.k
def nG:List UInt64->List Sb->List It
 | κ::ks,s::a=>.s s:: .k κ::nG ks a
 | _,_=>[]
def mM:List UInt64->List Sb->List It
 | κ::ks,s::a=>.k κ:: .s s::mM ks a
 | _,_=>[]
theorem Gr:∀(J:List UInt64) (b:List Sb) (I:List UInt64) (s:Sb) (a:List Sb),Y b=Y J->Y a=Y I->qA (J++I) (b++s::a)=nG J b++ .s s::mM I a
 | [],[],[],s,[],_,_=>rfl
 | [],[],[],s,t::r,_,h=>by simp at h
 | [],[],κ::ks,s,[],_,h=>by simp at h
 | [],[],κ::ks,s,t::r,_,h=>by
  have:=Gr [] [] ks t r rfl (by simpa using h);show .s s:: .k κ::qA ks (t::r)= .s s:: .k κ:: .s t::mM ks r;rw[show qA ks (t::r)=_ from this];rfl
 | [],t::r,I,s,a,h,_=>by simp at h
 | κ::J,[],I,s,a,h,_=>by simp at h
 | κ::J,t::b,I,s,a,h,c=>by
  have:=Gr J b I s a (by simpa using h) c;show .s t:: .k κ::qA (J++I) (b++s::a)= .s t:: .k κ::(nG J b++ .s s::mM I a);rw[this]
theorem VO:∀(J:List UInt64) (b:List Sb) (κ:UInt64) (I:List UInt64) (a:List Sb),Y b=Y J+1->qA (J++κ::I) (b++a)=qA J b++ .k κ::qA I a
 | [],[],κ,I,a,h=>by simp at h
 | [],[s],κ,I,a,_=>rfl
 | [],s::t::r,κ,I,a,h=>by simp at h
 | c::J,[],κ,I,a,h=>by simp at h
 | c::J,t::b,κ,I,a,h=>by
  have:=VO J b κ I a (by simpa using h);show .s t:: .k c::qA (J++κ::I) (b++a)= .s t:: .k c::(qA J b++ .k κ::qA I a);rw[this]
theorem cT:∀(ks:List UInt64) (a:List Sb),(ks.map It.k).Sublist (qA ks a)
 | [],_=>List.nil_sublist _
 | _::_,[]=>List.Sublist.refl _
 | _::ks,_::a=>((cT ks a).cons_cons _).cons _
theorem O0:∀(ks:List UInt64) (a:List Sb),(a.map It.s).Sublist (qA ks a)
 | [],_=>List.Sublist.refl _
 | _::_,[]=>List.nil_sublist _
 | _::ks,_::a=>((O0 ks a).cons _).cons_cons _
theorem VP{f:It}:∀{ks:List UInt64} {d:List Sb},f∈qA ks d->(∃κ∈ks,f= .k κ)\/(∃s∈d,f= .s s)
 | [],d,h=>by
  obtain⟨s,g,e⟩:=bL.1 h;exact al ⟨s,g,e.symm⟩
 | κ::ks,[],h=>by
  obtain⟨s,g,e⟩:=bL.1 h;exact O ⟨s,g,e.symm⟩
 | κ::ks,s::d,h=>by
  rcases aN.1 h with h|h
  ·exact al ⟨s,by simp,h⟩
  rcases aN.1 h with h|h
  ·exact O ⟨κ,by simp,h⟩
  rcases VP h with⟨a,b,c⟩|⟨a,b,c⟩
  ·exact O ⟨a,by simp[b],c⟩
  exact al ⟨a,by simp[b],c⟩
structure jH(P:Sb->Prop)(ag:List UInt64)(ah:List Sb):Prop where
 len:Y ah=Y ag+1
 ord:(qA ag ah).Pairwise It.R
 all:∀s∈ah,P s
theorem jH.up{P:Sb->Prop}{ag:List UInt64}{ah:List Sb}(h:jH P ag ah):jV ag:=by
 have c:=h.ord.sublist (cT ag ah);rw[List.pairwise_map,jP]at c;intro a b x y g j k;obtain⟨e,d⟩:=dz.1 j;obtain⟨f,i⟩:=dz.1 k;have:=c a b e f g;rw[d,i]at this;exact this
def ik(ah:List Sb):List KV:=ah.flatMap Sb.l
def dP(ah:List Sb):List Nat:=ah.flatMap Sb.ps
def tH(x:Nd):Prop:=(x.leaf=true->15<=Y x.ag)/\(x.leaf=false->16<=Y x.ak)
def ji(f:Nat->Option Nd)(p:Nat):Prop:=∃x,f p=some x/\tH x
def Tr(f:Nat->Option Nd):Nat->Sb->Prop
 | 0,s=>∃ks vs,f s.pg=some ⟨true,ks,vs,[]⟩/\Y vs=Y ks/\jV ks/\s.l=ks.zip vs/\s.ps=[s.pg]
 | d+1,s=>∃ag ah,f s.pg=some ⟨false,ag,[],ah.map Sb.pg⟩/\jH (λ t=>Tr f d t/\ji f t.pg) ag ah/\s.l=ik ah/\s.ps=s.pg::dP ah
theorem jH.imp{Q:Sb->Prop}(h:jH P ag ah)(b:∀s∈ah,P s->Q s):jH Q ag ah:=⟨h.len,h.ord,λ s a=>b s a (h.all s a)⟩
theorem Tr.mem(h:Tr f d s):s.pg∈s.ps:=by
 cases d with
 | zero=>obtain⟨_,_,_,_,_,_,e⟩:=h;rw[e];simp
 | succ d=>obtain⟨_,_,_,_,_,e⟩:=h;rw[e];simp
theorem xH(b:s∈ah){p:Nat}(a:p∈s.ps):p∈dP ah:=List.mem_flatMap.2 ⟨s,b,a⟩
theorem Tr.same{f g:Nat->Option Nd}:∀(d:Nat) (s:Sb),Tr f d s->(∀p∈s.ps,g p=f p)->Tr g d s
 | 0,s,⟨ks,vs,k,i,j,c,m⟩,h=>⟨ks,vs,(h s.pg (by rw[m];simp)).trans k,i,j,c,m⟩
 | d+1,s,⟨ag,ah,k,i,j,c⟩,h=>by
  refine⟨ag,ah,(h s.pg (by rw[c];simp)).trans k,i.imp (λ t o ⟨a,b⟩=>?_),j,c⟩;have l:∀p∈t.ps,g p=f p:=λ p n=>h p (by rw[c];exact cK _ (xH o n));refine⟨Tr.same d t a l,?_⟩;obtain⟨x,e,q⟩:=b;exact⟨x,(l _ a.mem).trans e,q⟩
def jN(l:List KV):Prop:=l.Pairwise (λ a b=>a.1.toNat<b.1.toNat)
theorem rq(h:jV ks):jN (ks.zip vs):=by
 unfold jN;rw[jP];intro i j a c b;rw[List.length_zip]at a c;rw[List.getElem_zip,List.getElem_zip];exact h i j _ _ b (bK Z) (bK Z)
theorem Hh(h:jH P ag ah)(b:∀s∈ah,jN s.l):jN (ik ah):=by
 unfold jN ik;rw[List.pairwise_flatMap];refine⟨b,?_⟩;have a:=h.ord.sublist (O0 ag ah);rw[List.pairwise_map]at a;exact a
theorem Tr.rise{f:Nat->Option Nd}:∀(d:Nat) (s:Sb),Tr f d s->jN s.l
 | 0,s,⟨ks,vs,g,a,b,c,h⟩=>by rw[c];exact rq b
 | d+1,s,⟨ag,ah,g,a,b,c⟩=>by
  rw[b];exact Hh a (λ t e=>Tr.rise d t (a.all t e).1)
theorem fW(ah:List Sb)(c:Nat)(h:∀s∈ah,14*Y s.ps+c<=Y s.l):14*(dP ah).length+c*Y ah<=(ik ah).length:=by
 induction ah with
 | nil=>simp[dP,ik]
 | cons s r d=>
  have e:=h s (by simp);have a:=d (λ t b=>h t (by simp[b]));simp only[dP,ik,jq,zl,dF]at a ⊢;rw[Nat.mul_add,Nat.mul_add,xX];omega
theorem Tr.many{f:Nat->Option Nd}:∀(d:Nat) (s:Sb),Tr f d s->ji f s.pg->14*Y s.ps+1<=Y s.l
 | 0,s,⟨ks,vs,c,b,h,e,i⟩,⟨x,a,hf⟩=>by
  rw[c]at a;obtain rfl:=bf a;have:=hf.1 rfl;rw[e,i,List.length_zip];simp only[dF,List.length_nil]at this ⊢;omega
 | d+1,s,⟨ag,ah,c,b,h,e⟩,⟨x,a,hf⟩=>by
  have j:16<=Y ah:=by
   rw[c]at a;obtain rfl:=bf a
   simpa using hf.2 rfl
  have:=fW ah 1 (λ t g=>Tr.many d t (b.all t g).1 (b.all t g).2);rw[h,e,dF];omega
theorem Tr.yO(h:Tr f d s):14*Y s.ps<=Y s.l+14:=by
 cases d with
 | zero=>obtain⟨_,_,_,_,_,_,e⟩:=h;rw[e];simp
 | succ d=>
  obtain⟨ag,ah,i,b,c,g⟩:=h;have:=fW ah 1 (λ t a=>Tr.many d t (b.all t a).1 (b.all t a).2);rw[c,g,dF];omega
theorem Tr.deep{f:Nat->Option Nd}:∀(d:Nat) (s:Sb),Tr f d s->ji f s.pg->2^d<=Y s.ps
 | 0,s,⟨ks,vs,g,c,k,j,o⟩,_=>by rw[o];simp
 | d+1,s,⟨ag,ah,g,c,k,j⟩,⟨x,h,hf⟩=>by
  have q:16<=Y ah:=by
   rw[g]at h;obtain rfl:=bf h
   simpa using hf.2 rfl
  have p:∀(l:List Sb),(∀t∈l,2^d<=Y t.ps)->2^d*Y l<=(dP l).length:=by
   intro l
   induction l with
   | nil=>intro _;simp
   | cons t r m=>
    intro i;have a:=i t (by simp);have b:=m (λ u n=>i u (by simp[n]));simp only[dP,jq,zl,dF]at b ⊢;rw[Nat.mul_add,xX];omega
  have:=p ah (λ t e=>Tr.deep d t (c.all t e).1 (c.all t e).2);rw[j,dF,Nat.pow_succ];have v:2^d*2<=2^d*Y ah:=Nat.mul_le_mul_left _ Z;omega
theorem Rj{a c:List KV}{v:UInt64}(e:∀x∈a,x.1.toNat<k.toNat)(f:∀x∈c,k.toNat<x.1.toNat):jO (a++(b++c)) k v=a++(jO b k v++c):=by
 unfold jO;have i:a.filter (λ x=>decide (x.1.toNat<k.toNat))=a:=List.filter_eq_self.2 (λ x d=>by simpa using e x d);have g:a.filter (λ x=>decide (k.toNat<x.1.toNat))=[]:=List.filter_eq_nil_iff.2 (λ x d=>by have:=e x d;simp;omega);have h:c.filter (λ x=>decide (x.1.toNat<k.toNat))=[]:=List.filter_eq_nil_iff.2 (λ x d=>by have:=f x d;simp;omega);have j:c.filter (λ x=>decide (k.toNat<x.1.toNat))=c:=List.filter_eq_self.2 (λ x d=>by simpa using f x d);simp only[List.filter_append,i,g,h,j,jl,iQ,cO,lS]
theorem gA{a c:List KV}(f:∀x∈a,x.1.toNat<k.toNat)(i:∀x∈c,k.toNat<x.1.toNat):l9 (a++(b++c)) k=a++(l9 b k++c):=by
 unfold l9;have g:a.filter (λ x=>decide (x.1≠k))=a:=List.filter_eq_self.2 (λ x d=>by have:=f x d;simp;intro e;rw[e]at this;omega);have h:c.filter (λ x=>decide (x.1≠k))=c:=List.filter_eq_self.2 (λ x d=>by have:=i x d;simp;intro e;rw[e]at this;omega);simp only[List.filter_append,g,h]
theorem dk{l:List KV}{v:UInt64}{x:KV}(h:x∈jO l k v):x∈l\/x=(k,v):=by
 unfold jO at h;rcases dm.1 h with h|h
 ·exact O (List.mem_filter.1 h).1
 rcases aN.1 h with h|h
 ·exact al h
 exact O (List.mem_filter.1 h).1
theorem GZ{l:List KV}{x:KV}(h:x∈l9 l k):x∈l:=(List.mem_filter.1 h).1
theorem A6{v:UInt64}(h:eu ks k i)(p:Y vs=Y ks)(g:k∉ks):jO (ks.zip vs) k v=(ks.take i++k::ks.drop i).zip (vs.take i++v::vs.drop i):=by
 have o:=h.le
 have e:ks.zip vs=(ks.take i).zip (vs.take i)++(ks.drop i).zip (vs.drop i):=by
  rw[<-List.zip_append (by rw[zt,zt];omega),gZ,gZ]
 rw[e]
 have f:=Rj (a:=(ks.take i).zip (vs.take i)) (b:=[]) (c:=(ks.drop i).zip (vs.drop i)) (k:=k) (v:=v) (λ x d=>by
  obtain⟨j,c,b⟩:=fU d;rw[List.length_zip,zt]at c
  have a:ks[j]?=some x.1:=by
   rw[<-b,List.getElem_zip,List.getElem_take];exact bK Z
  exact h.below j x.1 Z a) (λ x d=>by
  obtain⟨j,c,b⟩:=fU d;rw[List.length_zip,zd]at c
  have a:ks[i+j]?=some x.1:=by
   rw[<-b,List.getElem_zip,List.getElem_drop];exact bK Z
  have n:=h.above (i+j) x.1 Z a;have l:k≠x.1:=λ e=>g (e▸dU a);have m:k.toNat≠x.1.toNat:=λ e=>l (mV.1 e);omega)
 rw[iQ]at f;rw[f,List.zip_append (by rw[zt,zt];omega)];rfl
theorem km{v:UInt64}(l:jV ks)(a:ks[i]?=some k)(o:Y vs=Y ks):jO (ks.zip vs) k v=ks.zip (vs.set i v):=by
 have m:i<Y ks:=(dz.1 a).1
 have e:ks.zip vs=(ks.take i).zip (vs.take i)++([(k,vs[i]'Z)]++(ks.drop (i+1)).zip (vs.drop (i+1))):=by
  have h:ks=ks.take i++k::ks.drop (i+1):=by
   have:=gZ i ks;rw[jY m,(dz.1 a).2]at this;exact this.symm
  have g:vs=vs.take i++vs[i]'Z::vs.drop (i+1):=by
   have:=gZ i vs;rw[jY Z]at this;exact this.symm
  conv=>lhs;rw[h,g]
  rw[List.zip_append (by rw[zt,zt];omega)];rfl
 rw[e,Rj (λ x c=>?_) (λ x c=>?_)]
 ·have n:jO [(k,vs[i]'Z)] k v=[(k,v)]:=by simp[jO]
  rw[n]
  have h:ks=ks.take i++k::ks.drop (i+1):=by
   have:=gZ i ks;rw[jY m,(dz.1 a).2]at this;exact this.symm
  have g:vs.set i v=vs.take i++v::vs.drop (i+1):=by rw[List.set_eq_take_append_cons_drop,be Z]
  rw[g]
  conv=>rhs;rw[h]
  rw[List.zip_append (by rw[zt,zt];omega)];rfl
 ·obtain⟨j,f,d⟩:=fU c;rw[List.length_zip,zt]at f
  have b:ks[j]?=some x.1:=by
   rw[<-d,List.getElem_zip,List.getElem_take];exact bK Z
  exact l j i _ _ Z b a
 obtain⟨j,f,d⟩:=fU c;rw[List.length_zip,zd]at f
 have b:ks[i+1+j]?=some x.1:=by
  rw[<-d,List.getElem_zip,List.getElem_drop];exact bK Z
 exact l i (i+1+j) _ _ Z a b
theorem nS(g:jV ks)(a:ks[i]?=some k)(o:Y vs=Y ks):l9 (ks.zip vs) k=(ks.take i++ks.drop (i+1)).zip (vs.take i++vs.drop (i+1)):=by
 have n:i<Y ks:=(dz.1 a).1
 have e:ks.zip vs=(ks.take i).zip (vs.take i)++([(k,vs[i]'Z)]++(ks.drop (i+1)).zip (vs.drop (i+1))):=by
  have m:ks=ks.take i++k::ks.drop (i+1):=by
   have:=gZ i ks;rw[jY n,(dz.1 a).2]at this;exact this.symm
  have h:vs=vs.take i++vs[i]'Z::vs.drop (i+1):=by
   have:=gZ i vs;rw[jY Z]at this;exact this.symm
  conv=>lhs;rw[m,h]
  rw[List.zip_append (by rw[zt,zt];omega)];rfl
 rw[e,gA (λ x c=>?_) (λ x c=>?_),List.zip_append (by rw[zt,zt];omega)]
 ·have l:l9 [(k,vs[i]'Z)] k=[]:=by simp[l9]
  rw[l,iQ]
 ·obtain⟨j,f,d⟩:=fU c;rw[List.length_zip,zt]at f
  have b:ks[j]?=some x.1:=by
   rw[<-d,List.getElem_zip,List.getElem_take];exact bK Z
  exact g j i _ _ Z b a
 obtain⟨j,f,d⟩:=fU c;rw[List.length_zip,zd]at f
 have b:ks[i+1+j]?=some x.1:=by
  rw[<-d,List.getElem_zip,List.getElem_drop];exact bK Z
 exact g i (i+1+j) _ _ Z a b
theorem EY(a:k∉ks):l9 (ks.zip vs) k=ks.zip vs:=by
 refine List.filter_eq_self.2 (λ x b=>?_);have:=(List.of_mem_zip b).1;simp;intro e;exact a (e▸this)
structure dQ(ag:List UInt64)(k:UInt64)(i:Nat):Prop where
 le:i<=Y ag
 below:∀κ∈ag.take i,κ.toNat<=k.toNat
 above:∀κ∈ag.drop i,k.toNat<κ.toNat
theorem CV(a b:List Sb):ik (a++b)=ik a++ik b:=by unfold ik;rw[List.flatMap_append]
theorem uO(a b:List Sb):dP (a++b)=dP a++dP b:=by unfold dP;rw[List.flatMap_append]
theorem vw(s:Sb)(b:List Sb):ik (s::b)=s.l++ik b:=by unfold ik;rw[jq]
theorem vZ(s:Sb)(b:List Sb):dP (s::b)=s.ps++dP b:=by unfold dP;rw[jq]
theorem Jf{a:Type}{l:List a}{s:a}(h:l[i]?=some s):l=l.take i++s::l.drop (i+1):=by
 obtain⟨b,e⟩:=dz.1 h;have:=gZ i l;rw[jY b,e]at this;exact this.symm
theorem cS:∀{ks:List UInt64} {e:List Sb} {d:It},d∈nG ks e->(∃κ∈ks,d= .k κ)\/(∃s∈e,d= .s s)
 | [],_,_,h=>by simp[nG]at h
 | _::_,[],_,h=>by simp[nG]at h
 | κ::ks,s::e,d,h=>by
  rcases aN.1 h with h|h
  ·exact al ⟨s,by simp,h⟩
  rcases aN.1 h with h|h
  ·exact O ⟨κ,by simp,h⟩
  rcases cS h with⟨a,b,c⟩|⟨a,b,c⟩
  ·exact O ⟨a,by simp[b],c⟩
  exact al ⟨a,by simp[b],c⟩
theorem ir:∀{ks:List UInt64} {e:List Sb} {d:It},d∈mM ks e->(∃κ∈ks,d= .k κ)\/(∃s∈e,d= .s s)
 | [],_,_,h=>by simp[mM]at h
 | _::_,[],_,h=>by simp[mM]at h
 | κ::ks,s::e,d,h=>by
  rcases aN.1 h with h|h
  ·exact O ⟨κ,by simp,h⟩
  rcases aN.1 h with h|h
  ·exact al ⟨s,by simp,h⟩
  rcases ir h with⟨a,b,c⟩|⟨a,b,c⟩
  ·exact O ⟨a,by simp[b],c⟩
  exact al ⟨a,by simp[b],c⟩
theorem cX{k:UInt64}:∀{ks:List UInt64} {a:List Sb},Y a=Y ks->(nG ks a).Pairwise It.R->(∀κ∈ks,κ.toNat<=k.toNat)->∀s∈a,∀x∈s.l,x.1.toNat<k.toNat
 | [],[],_,_,_=>by simp
 | [],_::_,h,_,_=>by simp at h
 | _::_,[],h,_,_=>by simp at h
 | κ::ks,t::a,h,c,d=>by
  have j:It.R (.s t) (.k κ):=(cu.1 c).1 (.k κ) (by simp);have f:=(cu.1 (cu.1 c).2).2;intro s b x e;rcases aN.1 b with rfl|b
  ·have:=j x e;have:=d κ (by simp);omega
  exact cX (by simpa using h) f (λ i g=>d i (by simp[g])) s b x e
theorem en{k:UInt64}:∀{ks:List UInt64} {a:List Sb},Y a=Y ks->(mM ks a).Pairwise It.R->(∀κ∈ks,k.toNat<κ.toNat)->∀s∈a,∀x∈s.l,k.toNat<x.1.toNat
 | [],[],_,_,_=>by simp
 | [],_::_,h,_,_=>by simp at h
 | _::_,[],h,_,_=>by simp at h
 | κ::ks,t::a,h,c,d=>by
  have j:It.R (.k κ) (.s t):=(cu.1 c).1 (.s t) (by simp);have f:=(cu.1 (cu.1 c).2).2;intro s b x e;rcases aN.1 b with rfl|b
  ·have:=j x e;have:=d κ (by simp);omega
  exact en (by simpa using h) f (λ i g=>d i (by simp[g])) s b x e
def It.lo(k:UInt64):It->Prop
 | .s u=>∀x∈u.l,x.1.toNat<k.toNat
 | .k κ=>κ.toNat<=k.toNat
def It.hi(k:UInt64):It->Prop
 | .s u=>∀x∈u.l,k.toNat<x.1.toNat
 | .k κ=>k.toNat<κ.toNat
theorem It.tJ{a:It}(h:It.R a (.s s))(e:It.lo k a)(d:∀x∈t.l,x∈s.l\/x.1=k):It.R a (.s t):=by
 cases a with
 | s u=>
  intro x f y c;rcases d y c with b|b
  ·exact h x f y b
  rw[b];exact e x f
 | k κ=>
  intro y c;rcases d y c with b|b
  ·exact h y b
  rw[b];exact e
theorem It.tK{a:It}(h:It.R (.s s) a)(e:It.hi k a)(d:∀x∈t.l,x∈s.l\/x.1=k):It.R (.s t) a:=by
 cases a with
 | s u=>
  intro x f y c;rcases d x f with b|b
  ·exact h x b y c
  rw[b];exact e y c
 | k κ=>
  intro y c;rcases d y c with b|b
  ·exact h y b
  rw[b];exact e
theorem jH.cut(h:jH P ag ah)(a:ah[i]?=some s):qA ag ah=nG (ag.take i) (ah.take i)++ .s s::mM (ag.drop i) (ah.drop (i+1)):=by
 have c:=(dz.1 a).1;have b:=h.len
 conv=>lhs;rw[Jf a,<-gZ i ag]
 exact Gr _ _ _ _ _ (by rw[zt,zt];omega) (by rw[zd,zd];omega)
theorem jH.left(h:jH P ag ah)(b:ah[i]?=some s)(c:∀κ∈ag.take i,κ.toNat<=k.toNat):∀t∈ah.take i,∀x∈t.l,x.1.toNat<k.toNat:=by
 have e:=(dz.1 b).1;have d:=h.len;have a:=h.ord;rw[h.cut b]at a;exact cX (by rw[zt,zt];omega) (List.pairwise_append.1 a).1 c
theorem jH.right(h:jH P ag ah)(b:ah[i]?=some s)(c:∀κ∈ag.drop i,k.toNat<κ.toNat):∀t∈ah.drop (i+1),∀x∈t.l,k.toNat<x.1.toNat:=by
 have e:=(dz.1 b).1;have d:=h.len;have a:=h.ord;rw[h.cut b]at a;exact en (by rw[zd,zd];omega) (cu.1 (List.pairwise_append.1 a).2.1).2 c
theorem KP{l:List Sb}(h:∀t∈l,∀x∈t.l,x.1.toNat<k.toNat):∀x∈ik l,x.1.toNat<k.toNat:=λ x a=>by
 obtain⟨t,b,a⟩:=List.mem_flatMap.1 a;exact h t b x a
theorem Rk{l:List Sb}(h:∀t∈l,∀x∈t.l,k.toNat<x.1.toNat):∀x∈ik l,k.toNat<x.1.toNat:=λ x a=>by
 obtain⟨t,b,a⟩:=List.mem_flatMap.1 a;exact h t b x a
theorem Gs(a:ah[i]?=some s):ik ah=ik (ah.take i)++(s.l++ik (ah.drop (i+1))):=by
 conv=>lhs;rw[Jf a]
 rw[CV,vw]
theorem Jg(a:ah[i]?=some s):dP ah=dP (ah.take i)++(s.ps++dP (ah.drop (i+1))):=by
 conv=>lhs;rw[Jf a]
 rw[uO,vZ]
theorem jH.side(h:jH P ag ah)(f:ah[i]?=some s)(b:dQ ag k i) :
  (∀a∈nG (ag.take i) (ah.take i),It.lo k a) /\
  (∀a∈mM (ag.drop i) (ah.drop (i+1)),It.hi k a):=by
 refine⟨λ a e=>?_,λ a e=>?_⟩
 ·rcases cS e with⟨κ,c,rfl⟩|⟨t,d,rfl⟩
  ·exact b.below κ c
  exact h.left f b.below t d
 rcases ir e with⟨κ,c,rfl⟩|⟨t,d,rfl⟩
 ·exact b.above κ c
 exact h.right f b.above t d
theorem jH.set(h:jH P ag ah)(g:ah[i]?=some s)(w:dQ ag k i)(j:∀x∈t.l,x∈s.l\/x.1=k)(n:P t):jH P ag (ah.take i++t::ah.drop (i+1)):=by
 have z:=(dz.1 g).1;have y:=h.len;have l:=h.ord;obtain⟨v,p⟩:=h.side g w;rw[h.cut g,List.pairwise_append,cu]at l;obtain⟨o,⟨q,r⟩,m⟩:=l;refine⟨by rw[zl,dF,zt,zd];omega,?_,λ u c=>?_⟩
 ·have e:qA ag (ah.take i++t::ah.drop (i+1))=nG (ag.take i) (ah.take i)++ .s t::mM (ag.drop i) (ah.drop (i+1)):=by
   conv=>lhs;rw[<-gZ i ag]
   exact Gr _ _ _ _ _ (by rw[zt,zt];omega) (by rw[zd,zd];omega)
  rw[e,List.pairwise_append,cu];refine⟨o,⟨λ a d=>It.tK (q a d) (p a d) j,r⟩,λ a d b f=>?_⟩;rcases aN.1 f with rfl|f
  ·exact It.tJ (m a d _ (by simp)) (v a d) j
  exact m a d b (by simp[f])
 rcases dm.1 c with c|c
 ·exact h.all u (jw c)
 rcases aN.1 c with rfl|c
 ·exact n
 exact h.all u (jQ c)
theorem jH.ins(h:jH P ag ah)(E:ah[i]?=some s)(L:dQ ag k i){u:Sb}(z:∀x∈t.l,x∈s.l\/x.1=k)(C:∀x∈u.l,x∈s.l\/x.1=k)(l:∀x∈t.l,x.1.toNat<κ.toNat)(n:∀x∈u.l,κ.toNat<=x.1.toNat)(K:t.l≠[])(I:u.l≠[])(J:P t)(M:P u) :
  jH P (ag.take i++κ::ag.drop i) (ah.take i++t::u::ah.drop (i+1)):=by
 have O:=(dz.1 E).1;have Q:=h.len;have F:=h.ord;obtain⟨A,D⟩:=h.side E L;rw[h.cut E,List.pairwise_append,cu]at F;obtain⟨G,⟨w,H⟩,o⟩:=F;obtain⟨q,p⟩:=sN _ K;obtain⟨r,m⟩:=sN _ I;refine⟨by rw[zl,zl,dF,dF,dF,zt,zd,zt,zd];omega,?_,λ v d=>?_⟩
 ·have e:qA (ag.take i++κ::ag.drop i) (ah.take i++t::u::ah.drop (i+1))=nG (ag.take i) (ah.take i)++ .s t:: .k κ:: .s u::mM (ag.drop i) (ah.drop (i+1)):=
   Gr _ _ (κ::ag.drop i) t (u::ah.drop (i+1)) (by rw[zt,zt];omega) (by rw[dF,dF,zd,zd];omega)
  rw[e,List.pairwise_append,cu,cu,cu];refine⟨G,⟨λ a c=>?_,λ a c=>?_,λ a c=>It.tK (w a c) (D a c) C,H⟩,λ a c b f=>?_⟩
  ·rcases aN.1 c with rfl|c
   ·exact l
   rcases aN.1 c with rfl|c
   ·intro x N y j;have:=l x N;have:=n y j;omega
   exact It.tK (w a c) (D a c) z
  ·rcases aN.1 c with rfl|c
   ·exact n
   have g:=It.tK (w a c) (D a c) C
   cases a with
   | s v=>
    intro y j;have:=g r m y j;have:=n r m;omega
   | k B=>
    have:=g r m;have:=n r m;show κ.toNat<B.toNat;omega
  rcases aN.1 f with rfl|f
  ·exact It.tJ (o a c _ (by simp)) (A a c) z
  rcases aN.1 f with rfl|f
  ·have g:=It.tJ (o a c _ (by simp)) (A a c) z
   cases a with
   | s v=>
    intro y j;have:=g y j q p;have:=l q p;omega
   | k B=>
    have:=g q p;have:=l q p;show B.toNat<κ.toNat;omega
  rcases aN.1 f with rfl|f
  ·exact It.tJ (o a c _ (by simp)) (A a c) C
  exact o a c b (by simp[f])
 rcases dm.1 d with d|d
 ·exact h.all v (jw d)
 rcases aN.1 d with rfl|d
 ·exact J
 rcases aN.1 d with rfl|d
 ·exact M
 exact h.all v (jQ d)
theorem jH.Gt{b c:List Sb}(h:jH P (J++κ::I) (b++c))(f:Y b=Y J+1) :
  jH P J b/\jH P I c/\(∀x∈ik b,x.1.toNat<κ.toNat)/\(∀x∈ik c,κ.toNat<=x.1.toNat):=by
 have m:=h.len;have g:=h.ord;rw[VO _ _ _ _ _ f,List.pairwise_append,cu]at g;obtain⟨j,⟨k,l⟩,i⟩:=g;rw[zl,zl,dF]at m;refine⟨⟨f,j,λ s e=>h.all s (by simp[e])⟩,⟨Z,l,λ s e=>h.all s (by simp[e])⟩,λ x a=>?_,λ x a=>?_⟩
 ·obtain⟨t,d,a⟩:=List.mem_flatMap.1 a;exact i (.s t) ((O0 J b).subset (bL.2 ⟨t,d,rfl⟩)) (.k κ) (by simp) x a
 obtain⟨t,d,a⟩:=List.mem_flatMap.1 a;exact k (.s t) ((O0 I c).subset (bL.2 ⟨t,d,rfl⟩)) x a
theorem da{κ:UInt64}:∀{ks:List UInt64} {a:List Sb},Y a=Y ks+1->(qA ks a).Pairwise It.R->(∀s∈a,s.l≠[])->(∀x∈ik a,κ.toNat<=x.1.toNat)->∀b∈ks,κ.toNat<b.toNat
 | [],_,_,_,_,_=>by simp
 | _::_,[],h,_,_,_=>by simp at h
 | i::ks,t::a,h,d,g,e=>by
  have k:It.R (.s t) (.k i):=(cu.1 d).1 (.k i) (by simp);have j:=(cu.1 (cu.1 d).2).2;intro b c;rcases aN.1 c with rfl|c
  ·obtain⟨x,f⟩:=sN _ (g t (by simp));have:=k x f;have:=e x (by rw[vw];simp[f]);omega
  exact da (by simpa using h) j (λ s m=>g s (by simp[m])) (λ x l=>e x (by rw[vw];simp[l])) b c
theorem fN{κ:UInt64}:∀{ks:List UInt64} {a:List Sb},Y a=Y ks+1->(qA ks a).Pairwise It.R->(∀s∈a,s.l≠[])->(∀x∈ik a,x.1.toNat<κ.toNat)->∀b∈ks,b.toNat<κ.toNat
 | [],_,_,_,_,_=>by simp
 | _::_,[],h,_,_,_=>by simp at h
 | _::_,[_],h,_,_,_=>by simp at h
 | n::ks,t::u::a,h,i,g,e=>by
  have d:=(cu.1 i).2;have k:It.R (.k n) (.s u):=(cu.1 d).1 (.s u) ((O0 ks (u::a)).subset (by simp));have j:=(cu.1 d).2;intro b c;rcases aN.1 c with rfl|c
  ·obtain⟨x,f⟩:=sN _ (g u (by simp));have:=k x f;have:=e x (by rw[vw,vw];simp[f]);omega
  exact fN (by simpa using h) j (λ s m=>g s (by simp[m])) (λ x l=>e x (by rw[vw];simp[l])) b c
theorem jH.join{J I:List UInt64}{κ:UInt64}{i h:List Sb}(e:jH P J i)(f:jH P I h)(E:∀s∈i,s.l≠[])(C:∀s∈h,s.l≠[])(B:∀x∈ik i,x.1.toNat<κ.toNat)(w:∀x∈ik h,κ.toNat<=x.1.toNat) :
  jH P (J++κ::I) (i++h):=by
 have H:=e.len;have G:=f.len;have F:=fN e.len e.ord E B;have D:=da f.len f.ord C w;refine⟨by rw[zl,zl,dF];omega,?_,λ s j=>?_⟩
 ·rw[VO _ _ _ _ _ e.len,List.pairwise_append,cu]
  have fl:∀g∈qA J i,It.R g (.k κ):=λ g n=>by
   rcases VP n with⟨c,r,rfl⟩|⟨t,o,rfl⟩
   ·exact F c r
   exact λ x d=>B x (List.mem_flatMap.2 ⟨t,o,d⟩)
  have A:∀g∈qA I h,It.R (.k κ) g:=λ g n=>by
   rcases VP n with⟨c,r,rfl⟩|⟨t,o,rfl⟩
   ·exact D c r
   exact λ x d=>w x (List.mem_flatMap.2 ⟨t,o,d⟩)
  refine⟨e.ord,⟨A,f.ord⟩,λ a z b q=>?_⟩;rcases aN.1 q with rfl|q
  ·exact fl a z
  have m:=fl a z;have l:=A b q
  cases a with
  | s t=>
   cases b with
   | s u=>exact λ x d y v=>by have:=m x d;have:=l y v;omega
   | k c=>exact λ x d=>by have:=m x d;have:κ.toNat<c.toNat:=l;omega
  | k p=>
   cases b with
   | s u=>exact λ y v=>by have:p.toNat<κ.toNat:=m;have:=l y v;omega
   | k c=>show p.toNat<c.toNat;have:p.toNat<κ.toNat:=m;have:κ.toNat<c.toNat:=l;omega
 rcases dm.1 j with j|j
 ·exact e.all s j
 exact f.all s j
section
variable{P k:Nat}
theorem NR.win{vs:List Value}(h:NR W ao c vs)(b:∀g,aG ao g->S g):gQ S W (ad ao (Y vs) c) vs:=by
 rcases h with⟨rfl,rfl,rfl⟩|⟨g,rfl,r⟩
 ·exact⟨none,0,rfl,aH _,λ j u a=>by cases a⟩
 exact⟨_,c,rfl,r.le,λ j u a=>⟨g,0,rfl,b g rfl,by rw[fB];exact r.at' j u a⟩⟩
theorem aZ.reads(h:aZ N W nb x ka va aa kc vc ac)(c:S nb)(b:∀g,aG ka g\/aG va g\/aG aa g->S g):jU S W nb x:=
 ⟨_,_,_,h.box,c,by have:=h.k.win (λ g a=>b g (O a));rw[dH]at this;exact this,by have:=h.v.win (λ g a=>b g (al (O a)));rw[dH]at this;exact this,by have:=h.a.win (λ g a=>b g (al (al a)));rw[iC]at this;exact this⟩
theorem KI{a:World}(h:Below a.1.size a w)(o:Obj):Below a.1.size a (w.alloc o):=h.alloc h.size o
theorem Jb{a:World}(h:Below a.1.size a w):Below a.1.size a w.drew:=h.drew
theorem lh(h:ay w vb cs):ay w.drew vb cs:=h
theorem lX(h:ay w vb cs)(o:Obj):ay (w.alloc o) vb cs:=h.alloc o
theorem Gm{t:TypeId}(h:vb=w.1.size):ay (w.alloc (.cells cs t)) vb cs:=by rw[h];exact ay.new w cs t
structure iA(N:Nat)(W w:World)(nb:Nat)(x:Nd)(ka va aa:Option Addr)(kc vc ac:Nat)(l:List UInt64)(g c:Nat):Prop where
 row:Row w g c (az l)
 v:NR w va vc (az x.vals)
 a:NR w aa ac (ints x.ak)
 box:ay w nb #[a6 x.leaf,ad ka (Y x.ag) kc,ad va (Y x.vals) vc,ad aa (Y x.ak) ac]
 ge:N<=g
 ne:g≠nb
 gv:¬aG va g
 ga:¬aG aa g
 kept:Kept (λ j=>j<W.1.size/\¬(aG ka j\/aG va j\/j=nb)) W w
 own:aG ka g\/W.1.size<=g
theorem iA.next(h:iA N W w nb x ka va aa kc vc ac l g c)(a:Below w w e):iA N W e nb x ka va aa kc vc ac l g c:=
 ⟨h.row.below a h.row.lt,h.v.ae a.size (λ j b=>a.block j (h.v.lt b)),h.a.ae a.size (λ j b=>a.block j (h.a.lt b)),h.box.next a,h.ge,h.ne,h.gv,h.ga,h.kept.trans (Kept.of_below a (λ _ b=>cB b.1 h.kept.size)),h.own⟩
theorem aZ.yL{i:World}(h:aZ N W nb x ka va aa kc vc ac)(t:N<=W.1.size)(b:Below W W i)(r:Row w g c (az l))(o:Only g i w)(d:aG ka g\/i.1.size<=g):iA N W w nb x ka va aa kc vc ac l g c:=by
 have k:=h.next b;have q:=b.size;have s:=h.box.lt
 have m:N<=g/\g≠nb:=by
  rcases d with a|a
  ·exact h.new g (O a)
  exact⟨Z,Z⟩
 have n:¬aG va g:=by
  rcases d with a|a
  ·exact h.kv g a
  exact λ e=>by have:=h.v.lt e;omega
 have p:¬aG aa g:=by
  rcases d with a|a
  ·exact h.ka g a
  exact λ e=>by have:=h.a.lt e;omega
 refine⟨r,k.v.only o n,k.a.only o p,k.box.only o m.2.symm,m.1,m.2,n,p,⟨o.os.trans b.os,o.tape.trans b.tape,o.output.trans b.output,aT q o.size,λ j f=>?_⟩,?_⟩
 ·refine(o.block j (cB f.1 q) (λ e=>?_)).trans (b.block j f.1);subst e;rcases d with a|a
  ·exact f.2 (O a)
  have:=f.1;omega
 rcases d with a|a
 ·exact O a
 exact al Z
theorem iA.done(h:iA N W wb nb x ka va aa kc vc ac l g c)(f:aZ N W nb x ka va aa kc vc ac)(r:Row w B c2 (az m))(o:Only B wb w)(i:aG va B\/wb.1.size<=B) :
  aZ N ((w.setCell (nb,1) (ad g (Y l) c)).setCell (nb,2) (ad B (Y m) c2)) nb {x with ag:=l,vals:=m} g B aa c c2 ac /\
  Kept (λ j=>j<W.1.size/\¬(aG ka j\/aG va j\/j=nb)) W ((w.setCell (nb,1) (ad g (Y l) c)).setCell (nb,2) (ad B (Y m) c2)) /\
  ay w nb #[a6 x.leaf,ad ka (Y x.ag) kc,ad va (Y x.vals) vc,ad aa (Y x.ak) ac]/\B≠nb:=by
 have z:=h.row.lt;have u:=h.box.lt;have n:=h.kept.size;have C:=f.box.lt;have D:=f.ge
 have k:N<=B/\B≠nb:=by
  rcases i with b|b
  ·exact f.new B (al (O b))
  exact⟨Z,Z⟩
 have g12:B≠g:=by
  rcases i with b|b
  ·exact λ e=>h.gv (e▸b)
  omega
 have ga:¬aG aa B:=by
  rcases i with b|b
  ·exact f.va B b
  exact λ e=>by have:=h.a.lt e;omega
 have s:=h.row.only o g12.symm;have t:=h.a.only o ga;have b1:=h.box.only o k.2.symm;have d:Only nb w ((w.setCell (nb,1) (ad g (Y l) c)).setCell (nb,2) (ad B (Y m) c2)):=((Only.refl nb w).set 1 _).set 2 _;have p:=(b1.set 1 (ad g (Y l) c)).set 2 (ad B (Y m) c2);generalize (w.setCell (nb,1) (ad g (Y l) c)).setCell (nb,2) (ad B (Y m) c2)=A at d p ⊢;refine⟨⟨by simpa using p,al ⟨g,rfl,s.only d h.ne⟩,al ⟨B,rfl,r.only d k.2⟩,t.only d (λ e=>(f.new nb (al (al e))).2 rfl),f.ge,λ j a=>?_,λ _ a e=>?_,λ _ a e=>?_,λ _ a e=>?_⟩,⟨(d.os.trans o.os).trans h.kept.os,(d.tape.trans o.tape).trans h.kept.tape,(d.output.trans o.output).trans h.kept.output,aT (aT n o.size) d.size,λ j a=>?_⟩,b1,k.2⟩
 ·rcases a with a|a|a
  ·rw[eY a];exact⟨h.ge,h.ne⟩
  ·rw[eY a];exact k
  exact f.new j (al (al a))
 ·have v:=eY a;have y:=eY e;exact g12 Z
 ·rw[eY a]at e;exact h.ga e
 ·rw[eY a]at e;exact ga e
 have q:j<wb.1.size:=cB a.1 n;refine((d.block j (cB q o.size) (λ e=>a.2 (al (al e)))).trans (o.block j q (λ e=>?_))).trans (h.kept.block j a);subst e;rcases i with b|b
 ·exact a.2 (al (O b))
 omega
structure aP(E:Nat->Prop)(W:World)(P D T root:Nat)(A:AP)(k:Nat):Prop where
 pz:PZ E W P D A k
 box:ay W T #[aq P,V U root]
 mem:E T
def vX(N:Nat)(W w:World)(nb:Nat)(ka va:Option Addr)(l m:List UInt64):Prop:=
 ∃b a c c2,aZ N w nb {leaf:=true,ag:=l,vals:=m,ak:=[]} b a none c c2 0/\Kept (λ j=>j<W.1.size/\¬(aG ka j\/aG va j\/j=nb)) W w/\(∀j,aG b j->aG ka j\/W.1.size<=j)/\(∀j,aG a j->aG va j\/W.1.size<=j)
theorem pS{v:UInt64}(h:aZ N W nb {leaf:=true,ag:=ks,vals:=vs,ak:=[]} ka va none kc vc 0)(p:i<=Y ks)(n:Y vs=Y ks)(m:iA N W wb nb {leaf:=true,ag:=ks,vals:=vs,ak:=[]} ka va none kc vc 0 (ks.take i++key::ks.drop i) g c)(r:Row w B c2 (az (vs.take i++v::vs.drop i)))(o:Only B wb w)(f:aG va B\/wb.1.size<=B) :
  vX N W ((w.setCell (nb,1) (ad g (Y ks+1) c)).setCell (nb,2) (ad B (Y ks+1) c2)) nb ka va (ks.take i++key::ks.drop i) (vs.take i++v::vs.drop i):=by
 obtain⟨e,d,_,_⟩:=m.done h r o f;have l:(ks.take i++key::ks.drop i).length=Y ks+1:=by simp;omega
 have k:(vs.take i++v::vs.drop i).length=Y ks+1:=by simp;omega
 rw[l,k]at e d;refine⟨_,_,_,_,e,d,λ j b=>?_,λ j b=>?_⟩
 ·rw[eY b];exact m.own
 rw[eY b];rcases f with a|a
 ·exact O a
 exact al (aT m.kept.size a)
end
section
variable{P k k0:Nat}
theorem KL{vs:List Value}(h:NR W ao c vs)(a:aG ao j):j<W.1.size:=h.lt a
theorem fY(h:aP E W P D T rt A k0)(z:W.1.size<=N)(i:aZ N w2 nb {leaf:=true,ag:=ks,vals:=vs,ak:=[]} ka va none kc vc 0)(q:nb<M)(t:∀g,aG ka g\/aG va g\/aG none g->g<M)(x:PZ (λ j=>E j\/N<=j/\j<M) w2 P D A k)(p:Kept E W w2)(u:vX N w2 wc nb ka va l m) :
  PZ (λ j=>E j\/(N<=j/\j<M)\/(w2.1.size<=j/\j<wc.1.size)) wc P D A k/\jU (λ j=>E j\/(N<=j/\j<M)\/(w2.1.size<=j/\j<wc.1.size)) wc nb {leaf:=true,ag:=l,vals:=m,ak:=[]}/\ay wc T #[aq P,V U rt]/\Kept E W wc:=by
 obtain⟨B,y,c,c2,n,o,w,v⟩:=u
 have f:∀j,aG ka j\/aG va j\/j=nb->N<=j/\j<M:=λ j a=>by
  rcases a with a|a|rfl
  ·exact⟨(i.new j (O a)).1,t j (O a)⟩
  ·exact⟨(i.new j (al (O a))).1,t j (al (O a))⟩
  exact⟨i.ge,q⟩
 have r:=h.pz.there;have s:Kept E w2 wc:=o.mono (λ j a=>⟨cB (r j a) p.size,λ e=>by have:=(f j e).1;have:=r j a;omega⟩);refine⟨x.over (R:=λ j=>aG ka j\/aG va j\/j=nb) (λ j a=>al (f j a)) (λ e=>by have:=(f _ e).1;have:=h.pz.tab.lt;omega) o.size (λ j a e=>o.block j ⟨a,e⟩) (λ j a=>?_),n.reads (al (O ⟨i.ge,q⟩)) (λ g b=>?_),(h.box.ae (p.block T h.mem)).ae (s.block T h.mem),p.trans s⟩
 ·rcases a with a|a|a
  ·exact O (O a)
  ·exact O (al a)
  exact al a
 rcases b with b|b|b
 ·rcases w g b with d|d
  ·exact al (O (f g (O d)))
  exact al (al ⟨d,KL n.k b⟩)
 ·rcases v g b with d|d
  ·exact al (O (f g (al (O d))))
  exact al (al ⟨d,KL n.v b⟩)
 cases b
end
section
variable{P:Program}{S:World->Prop}
def ry(P:Program)(h:Region.Mode)(ops:Array Oper)(Q:Exit->Act->World->Prop)(S:World->Prop)(late:Nat->Bool):Nat->Array Bool->Act->World->Prop
 | 0,listed,a,w=>Region.ready h ops listed=[]/\Q .normal a w
 | fuel+1,listed,a,w=>
  (Region.ready h ops listed=[]->Q .normal a w) /\
  ∀i∈Region.ready h ops listed,wpOp P ops Q i (λ b e=>(late i=false->S e)/\ry P h ops Q S late fuel (listed.setIfInBounds i true) b e) a w
theorem dc:∀(fuel:Nat) (listed:Array Bool) (a:Act) (w:World),ry P h ops Q S late fuel listed a w->wpAny P h ops Q fuel listed a w
 | 0,_,_,_,b=>b
 | fuel+1,_,_,_,b=>⟨b.1,λ i d=>wpOp_mono (λ c e f=>dc fuel _ c e f.2) (b.2 i d)⟩
theorem rr(x:ops[i]?=some G)(K:∀(j:Nat) (o:Oper) cs b,ops[j]?=some o->o.op≠.select cs b)(U:∀c a w,Q (.panic c) (a.put G.dst v) w->Q (.panic c) a w)(V:∀j f,ops[j]?=some f->late j=true->∃d∈f.after,Region.binds h d=true/\d.on=i) :
  ∀(fuel:Nat) (listed:Array Bool) (a:Act) (w:World),
   (∀j f,ops[j]?=some f->j≠i->listed.getD j true=false->(∀d∈f.after,Region.binds h d=true->d.on≠i)->G.apart ops f=true) ->
   i∈Region.ready h ops listed->YieldsIf P ops S G v a->S w ->
   ry P h ops Q S late fuel (listed.setIfInBounds i true) (a.put G.dst v) w->ry P h ops Q S late (fuel+1) listed a w:=by
 intro fuel
 induction fuel with
 | zero=>
  intro listed a w _ m s p H;refine⟨λ u=>(by rw[u]at m;cases m),λ j t=>?_⟩;by_cases g:j=i
  ·subst g;exact s.wpOp x p ⟨λ _=>p,H⟩
  have:=ready_mono t g;rw[H.1]at this
  cases this
 | succ fuel Z=>
  intro listed a w F m s p H;refine⟨λ u=>(by rw[u]at m;cases m),λ j t=>?_⟩;by_cases g:j=i
  ·subst g;exact s.wpOp x p ⟨λ _=>p,H⟩
  have l:=H.2 j (ready_mono t g);obtain⟨D,f,q,N⟩:=mem_ready.1 t
  have E:∀d∈f.after,Region.binds h d=true->d.on≠i:=λ d z A B=>by
   have l:=N d z A;have J:=(mem_ready.1 m).1;rw[B]at l;rcases yu i listed.size with y|y
   ·simp[y]at J l;rw[J]at l;cases l
   simp[Array.getElem?_eq_none y]at l
  have L:late j=false:=by
   cases X:late j with
   | false=>rfl
   | true=>
    obtain⟨d,z,A,B⟩:=V j f q X;exact absurd B (E d z A)
  have R:=wpOp_putIf q (F j f q g D E) (λ cs b=>K i G cs b x) (λ cs b=>K j f cs b q) U s l
  have M:∀k n,ops[k]?=some n->k≠i->(listed.setIfInBounds j true).getD k true=false ->
    (∀d∈n.after,Region.binds h d=true->d.on≠i)->G.apart ops n=true:=λ k n W T C O=>by
   refine F k n W T ?_ O;by_cases I:j=k
   ·subst I;exact D
   rw[getD_set_ne true I]at C;exact C
  refine wpOp_mono (λ Y e r=>⟨r.2.1,Z (listed.setIfInBounds j true) Y e M (ready_mono m (dJ g)) r.1 (r.2.1 L) ?_⟩) R;rw[Array.setIfInBounds_comm _ _ g];exact r.2.2
def QC(h:Region.Mode)(ops:Array Oper)(late:Nat->Bool)(i:Nat):Bool:=
 (List.range ops.size).all λ j=>!late j||match ops[j]? with
  | some o=>o.after.any λ e=>Region.binds h e&&e.on==i
  | none=>true
theorem DH(f:QC h ops late i=true):∀j a,ops[j]?=some a->late j=true->∃e∈a.after,Region.binds h e=true/\e.on=i:=λ j a d l=>by
 unfold QC at f
 have g:j<ops.size:=by
  rcases yu j ops.size with b|b
  ·exact b
  rw[Array.getElem?_eq_none b]at d;cases d
 have:=List.all_eq_true.1 f j (ky.2 g);rw[d,l]at this;simp only[Bool.not_true,Bool.false_or]at this;obtain⟨e,k,c⟩:=Array.any_eq_true'.1 this;rw[Bool.and_eq_true]at c;exact⟨e,k,c.1,by simpa using c.2⟩
theorem sM(b:ops[i]?=some G)(l:Region.noSelect ops=true)(hf:Region.free h ops listed i=true)(f:(Region.ready h ops listed).contains i=true)(k:QC h ops late i=true)(e:∀c a w,Q (.panic c) (a.put G.dst v) w->Q (.panic c) a w)(j:S w)(g:Region.wanted G (yielded ops a.tmps)=true)(m:∀w,S w->(execOp a.eval G).run P w= .ok (.value v) w)(d:ry P h ops Q S late fuel (listed.setIfInBounds i true) (a.put G.dst v) w):ry P h ops Q S late (fuel+1) listed a w:=
 rr b (Region.noSelect_spec l) e (DH k) fuel listed a w (Region.free_spec b hf) (by simpa using f) (Or.inl ⟨g,m⟩) j d
theorem Cq(c:Region.ready h ops listed=[])(b:Q .normal a w) :
  ∀fuel,ry P h ops Q S late fuel listed a w
 | 0=>⟨c,b⟩
 | _+1=>⟨λ _=>b,by rw[c];simp⟩
theorem hZ(c:Region.ready h ops listed=[i])(g:ops[i]?=some o)(d:∀K':Act->World->Prop,Shut (∀a w,(late i=false->S w)->ry P h ops Q S late fuel (listed.setIfInBounds i true) a w->K' a w)->if Region.wanted o (yielded ops a.tmps)=true then Oper.wp P o a w K' Q else K' (a.put o.dst undef) w) :
  ry P h ops Q S late (fuel+1) listed a w:=
 ⟨λ k=>absurd (c▸k) (by simp),λ j b=>by
  rw[c]at b;obtain rfl:j=i:=by simpa using b
  exact wpOp_step g (λ K' l=>d K' (λ a w f e=>l a w ⟨f,e⟩))⟩
theorem Nz{q:Oper}(f:Region.ready h ops listed=[i,j])(n:ops[i]?=some o)(m:ops[j]?=some q)(l:∀K':Act->World->Prop,Shut (∀a w,(late i=false->S w)->ry P h ops Q S late fuel (listed.setIfInBounds i true) a w->K' a w)->if Region.wanted o (yielded ops a.tmps)=true then Oper.wp P o a w K' Q else K' (a.put o.dst undef) w)(g:∀K':Act->World->Prop,Shut (∀a w,(late j=false->S w)->ry P h ops Q S late fuel (listed.setIfInBounds j true) a w->K' a w)->if Region.wanted q (yielded ops a.tmps)=true then Oper.wp P q a w K' Q else K' (a.put q.dst undef) w) :
  ry P h ops Q S late (fuel+1) listed a w:=
 ⟨λ p=>absurd (f▸p) (by simp),λ k b=>by
  rw[f]at b;rcases aN.1 b with rfl|b
  ·exact wpOp_step n (λ K' e=>l K' (λ a w d c=>e a w ⟨d,c⟩))
  obtain rfl:k=j:=by simpa using b
  exact wpOp_step m (λ K' e=>g K' (λ a w d c=>e a w ⟨d,c⟩))⟩
end
section
variable{P:Program}{S:World->Prop}{a' a1:Act}
theorem zT(i:Nat)(b:wpAny P h ops Q fuel (listed.setIfInBounds i true) a' w)(k:ops[i]?=some G:=by exact rfl)(l:∀w,(execOp a.eval G).run P w= .ok (.value v) w:=by intro w;go_simp;try with_reducible rfl)(f:a.put G.dst v=a':=by (try simp only[Act.put,zS,z0,z1]);exact rfl)(j:Region.noSelect ops=true:=by as_aux_lemma=>kernel_rfl)(hf:Region.free h ops listed i=true:=by as_aux_lemma=>kernel_rfl)(e:(Region.ready h ops listed).contains i=true:=by as_aux_lemma=>kernel_rfl)(d:∀c a w,Q (.panic c) (a.put G.dst v) w->Q (.panic c) a w:=by exact λ _ _ _ b=>b)(g:Region.wanted G (yielded ops a.tmps)=true:=by rfl):wpAny P h ops Q (fuel+1) listed a w:=
 wpAny_take k j hf e d (Or.inl ⟨g,l⟩) (f▸b)
theorem zU(i:Nat)(j:S w)(b:ry P h ops Q S late fuel (listed.setIfInBounds i true) a' w)(m:ops[i]?=some G:=by exact rfl)(o:∀w,S w->(execOp a.eval G).run P w= .ok (.value v) w:=by intro w n;(try dsimp only at n);go_simp;try with_reducible rfl)(f:a.put G.dst v=a':=by (try simp only[Act.put,zS,z0,z1]);exact rfl)(l:Region.noSelect ops=true:=by as_aux_lemma=>kernel_rfl)(hf:Region.free h ops listed i=true:=by as_aux_lemma=>kernel_rfl)(e:(Region.ready h ops listed).contains i=true:=by as_aux_lemma=>kernel_rfl)(k:QC h ops late i=true:=by as_aux_lemma=>kernel_rfl)(d:∀c a w,Q (.panic c) (a.put G.dst v) w->Q (.panic c) a w:=by exact λ _ _ _ b=>b)(g:Region.wanted G (yielded ops a.tmps)=true:=by rfl):ry P h ops Q S late (fuel+1) listed a w:=
 sM m l hf e k d j g o (f▸b)
theorem zL(i:Nat)(c:∀K':Act->World->Prop,Shut (∀a w,(late i=false->S w)->ry P h ops Q S late fuel (listed.setIfInBounds i true) a w->K' a w)->if Region.wanted G (yielded ops a.tmps)=true then Oper.wp P G a w K' Q else K' (a.put G.dst undef) w)(d:Region.ready h ops listed=[i]:=by as_aux_lemma=>kernel_rfl)(b:ops[i]?=some G:=by exact rfl) :
  ry P h ops Q S late (fuel+1) listed a w:=
 hZ d b c
theorem zK{R:World->Prop}(d:Shut (∀a w,(p->R w)->ry P h ops Q S late fuel listed a w->K' a w))(b:ry P h ops Q S late fuel listed a' w)(e:p->R w:=by first|exact λ _=>trivial|exact λ b=>absurd b (by decide))(c:a=a':=by (try simp only[Act.put,zS,z0,z1]);exact rfl):K' a w:=d a w e (c▸b)
theorem zM(i:Nat)(b:ry P h ops Q S late fuel (listed.setIfInBounds i true) a' e)(k:late i=false->S e:=by first|exact λ _=>trivial|exact λ b=>absurd b (by decide))(j:ops[i]?=some G:=by exact rfl)(f:∀K:Act->World->Prop,K a1 e->if Region.wanted G (yielded ops a.tmps)=true then Oper.wp P G a w K Q else K (a.put G.dst undef) w:=by intro K;go_simp;exact id)(d:a1=a':=by (try simp only[Act.put,zS,z0,z1]);exact rfl)(c:Region.ready h ops listed=[i]:=by as_aux_lemma=>kernel_rfl):ry P h ops Q S late (fuel+1) listed a w:=
 hZ c j λ K g=>f K (g a1 e k (d▸b))
theorem zV(S:World->Prop)(k:Nat)(c:S w)(b:S w->ry P h ops Q S (λ j=>decide (k<=j)) fuel listed a w):wpAny P h ops Q fuel listed a w:=dc _ _ _ _ (b c)
end
section
variable{P k:Nat}
end
section
variable{P k:Nat}
theorem cL{t u v y:Tmp}(h:fn.results= #[.tmp t,.tmp u,.tmp v,.tmp y])(tmps:Array Value)(P:Program)(w:World) :
  (results fn tmps).run P w= .ok (a9 #[tmps.getD t undef,tmps.getD u undef,tmps.getD v undef,tmps.getD y undef]) w:=by
 simp[results,h]
end
section
variable{P k k0:Nat}
theorem s8{a b:Nat}(h:aZ N W nb {leaf:=true,ag:=ks,vals:=vs,ak:=[]} ka va none kc vc 0)(f:iA N W wb nb {leaf:=true,ag:=ks,vals:=vs,ak:=[]} ka va none kc vc 0 l g c)(r:Row w B c2 (az m))(o:Only B wb w)(n:aG va B\/wb.1.size<=B)(q:Y l=a)(p:Y m=b) :
  vX N W ((w.setCell (nb,1) (ad g a c)).setCell (nb,2) (ad B b c2)) nb ka va l m:=by
 obtain⟨k,i,_,_⟩:=f.done h r o n;rw[q,p]at k i;refine⟨_,_,_,_,k,i,λ j e=>?_,λ j e=>?_⟩
 ·rw[eY e];exact f.own
 rw[eY e];rcases n with d|d
 ·exact O d
 exact al (aT f.kept.size d)
theorem eI(a:jU S W nb x)(g:x.leaf=true) :
  Calls prog 216 #[aq nb] W λ d e=>d=aw (a6 (decide (Y x.ag<15)))/\e=W:=by
 obtain⟨i,k,m,b,h,⟨ao,c,rfl,_,_⟩,_,_⟩:=a;rw[dH]at b;rw[g]at b;have j:=b.c0;have l:=b.c1;have f:decide ((Y x.ag:Int)<15)=decide (Y x.ag<15):=decide_eq_decide.2 Z;clear b
 go_enter func216,ntmps216
 go_wp2;go_ret
 first|exact⟨rfl,rfl⟩|exact⟨by rw[<-f];rfl,rfl⟩
def dt(E:Nat->Prop)(W e:World)(P D T root:Nat)(A:AP)(k pg:Nat)(ks vs:List UInt64)(key:UInt64)(a:Ending):Prop:=
 ∃i:Nat,a=aw (a9 #[a6 true,a6 (decide (Y ks-1<15)),V U 0])/\i<Y ks/\eu ks key i/\aP E e P D T root (A.ax pg (qH (A.c pg) (ks.take i++ks.drop (i+1)) (vs.take i++vs.drop (i+1)))) k/\Kept E W e
theorem FA(h:aP E W P D T rt A k)(hk:k+5<900000000)(c:tF A pg ks vs)(hn:Y ks<=30)(key:UInt64)(h0:key∈ks)(deep:Nat)(hd:deep<=20) :
  Calls prog 166 #[aq T,V U pg,V a7 key.toNat,V U deep] W λ b e=>dt E W e P D T rt A (k+5) pg ks vs key b:=by
 have HL:=zH (dj h.pz Z h.box c.has c.head);have X:=bg h c;clear h c
 go_enter func166,ntmps166
 go_wp2_with fail
 refine HL.out.mono ?_;rintro b w1 ⟨N,M,nb,ka,va,kc,vc,rfl,u,v,⟨a,s,p⟩,q,l⟩;obtain⟨h,c⟩:=X.out;rw[c.ag,c.vals]at a;have b0:=a.box.c0;have b1:=a.box.c1;have b2:=a.box.c2;have G:=IW (a.k.win (S:=λ _=>True) (λ _ _=>trivial)) c.up (show Y ks<=1000 from Z) key;rw[dH]at G;rw[decide_eq_true h0]at G;have HS:=zH G;have K:=bs u v a s p q l;clear HL a s p q l G u v
 go_wp2_with fail
 refine HS.out.mono ?_;rintro b w2 ⟨i,rfl,n,rfl⟩;obtain⟨u,v,a,s,p,q,l⟩:=K.out;have y:=c.len
 have F:i<Y ks:=by
  rcases yu i (Y ks) with d|d
  ·exact d
  obtain rfl:i=Y ks:=by have:=n.le;omega
  exact absurd h0 n.none
 have h1:N<=w2.1.size:=by have:=a.ge;omega
 obtain⟨g,rfl,H⟩:∃g,ka=some ⟨g,0,none⟩/\Row w2 g kc (az ks):=by
  rcases a.k with x|d
  ·have:=congrArg List.length x.2.1;rw[dH]at this;exact absurd (show Y ks=0 from this) Z
  exact d
 obtain⟨B,rfl,rv⟩:∃g,va=some ⟨g,0,none⟩/\Row w2 g vc (az vs):=by
  rcases a.v with x|d
  ·have:=congrArg List.length x.2.1;rw[dH]at this;exact absurd (show Y vs=0 from this) Z
  exact d
 have f:(ks.take i++ks.drop (i+1)).length=Y ks-1:=by simp;omega
 have t:(vs.take i++vs.drop (i+1)).length=Y vs-1:=by simp;omega
 have HI1:=zH (λ (wa:World) (ba:Below w2 w2 wa)=>(show Calls prog 215 #[ad g (Y ks) kc,V U i,V U ((i:Int)+1)] wa λ b e=>b=aw (ad g (Y ks-1) kc)/\iA N w2 e nb {leaf:=true,ag:=ks,vals:=vs,ak:=[]} g B none kc vc 0 (ks.take i++ks.drop (i+1)) g kc/\e.cell? (nb,1)=some (ad g (Y ks) kc)/\e.cell? (nb,2)=some (ad B (Y vs) vc)from
  (Wl (H.below ba H.lt) (show Y ks<=1000 from Z) F).mono (λ b e ⟨S,r,o⟩=>
   have m:=a.yL h1 ba r o (O rfl)
   ⟨S,m,m.box.cell 1 _ rfl,m.box.cell 2 _ rfl⟩)))
 have HI2:=zH (λ (wb:World) (m:iA N w2 wb nb {leaf:=true,ag:=ks,vals:=vs,ak:=[]} g B none kc vc 0 (ks.take i++ks.drop (i+1)) g kc)=>(show Calls prog 215 #[ad B (Y vs) vc,V U i,V U ((i:Int)+1)] wb λ b e=>b=aw (ad B (Y vs-1) vc)/\vX N w2 ((e.setCell (nb,1) (ad g (Y ks-1) kc)).setCell (nb,2) (ad B (Y vs-1) vc)) nb g B (ks.take i++ks.drop (i+1)) (vs.take i++vs.drop (i+1))/\e.cell? (nb,1)=some (ad g (Y ks) kc)/\e.cell? (nb,2)=some (ad B (Y vs) vc)/\e.frozen? ⟨nb,1,none⟩=false/\e.frozen? ⟨nb,2,none⟩=false from by
  obtain⟨I,w,h2⟩:∃I,some (⟨B,0,none⟩:Addr)=some ⟨I,0,none⟩/\Row wb I vc (az vs):=by
   rcases m.v with x|d
   ·have:=congrArg List.length x.2.1;rw[dH]at this;exact absurd (show Y vs=0 from this) Z
   exact d
  injection w with w;injection w with w;subst w
  refine(Wl h2 (show Y vs<=1000 from Z) (show i<Y vs from Z)).mono (λ b e ⟨S,r,o⟩=>?_);have hd:=(m.done a r o (O rfl)).2.2.1;exact⟨S,s8 a m r o (O rfl) f t,hd.cell 1 _ rfl,hd.cell 2 _ rfl,hd.free 1,hd.free 2⟩))
 have HI:=br F y n f t;have f1:IntKind.i64.wrap ((i:Int)+1)=(i:Int)+1:=IntWalk.i64_in _ Z;clear a p q l n HS y f t H rv
 go_upto_region 10 with(fail)
 go_cut [] (λ wx=>vX N w2 wx nb g B (ks.take i++ks.drop (i+1)) (vs.take i++vs.drop (i+1)))
 case first=>
  go_region_law
   (first
    | (have hm:=Q;clear hm;go_simp;go_at_call 215;refine(HI2.out _ Q).mono ?_;rintro b w4 ⟨rfl,l2,s1,s2,q1,q2⟩)
    | ((fail_if_success (have hm:=Q));go_simp;go_at_call 215;refine(HI1.out _ ?_).mono ?_;(repeat (first|with_reducible exact aU _ _|with_reducible apply Jb));rintro b w3 ⟨rfl,Q,t1,t2⟩))
  all_goals
   go_wp2_with fail
   go_meet
   case rel=>exact l2
 obtain⟨u,v,a,s,p,q,l⟩:=K.out;obtain⟨h,c⟩:=X.out;obtain⟨J,L,R,k2⟩:=fY h u a s p q l hcut;obtain⟨F,y,n,f,t⟩:=HI.out;have hP:=eI L rfl;rw[show(ks.take i++ks.drop (i+1)).length=Y ks-1 from f]at hP;have HF:=zH hP;have HS2:=zH (λ (m:Nat)=>sz (J.next (UK.dN (aU _ _) m)) Z (show ay (wc.drewN m) T _ from R) c.has (show jU _ (wc.drewN m) nb _ from L) rfl (show(ks.take i++ks.drop (i+1)).length<=30 from Z) (t.trans (by rw[y];exact f.symm)))
 have HB:=zH (λ (e:World) (m:Nat) (p3:PZ (λ j=>E j\/(N<=j/\j<M)\/(w2.1.size<=j/\j<wc.1.size)) e P D (A.ax pg (qH (A.c pg) (ks.take i++ks.drop (i+1)) (vs.take i++vs.drop (i+1)))) (k+2+3)) (C:Kept (λ j=>E j\/(N<=j/\j<M)\/(w2.1.size<=j/\j<wc.1.size)) (wc.drewN m) e)=>(show dt E W e P D T rt A (k+5) pg ks vs key (aw (a9 #[a6 true,a6 (decide (Y ks-1<15)),V U 0]))from
  ⟨i,rfl,F,n,⟨p3.less (λ _ z=>O z),(show ay (wc.drewN m) T _ from R).ae (C.block T (O h.mem)),h.mem⟩,(k2.trans ((J.less (λ _ z=>O z)).kept (UK.dN (aU _ _) m))).trans (C.mono (λ _ z=>O z))⟩))
 clear K X hcut u v a s p q l h c J L R k2 y n f t HI HI1 HI2 hP
 go_wp2_with fail
 refine HF.out.mono ?_;rintro b w5 ⟨rfl,rfl⟩
 go_wp2_with fail
 refine(HS2.out 0).mono ?_;rintro b w6 ⟨rfl,p3,C⟩;go_wp2
 go_ret3
 exact HB.out _ 0 p3 C
end
section
variable{P k:Nat}
end
theorem eu.sorted(h:eu ks key i)(g:jV ks)(l:key∉ks):jV (ks.take i++key::ks.drop i):=by
 have p:=h.le
 have at':∀(a:Nat) (x:UInt64),(ks.take i++key::ks.drop i)[a]?=some x->(a<i/\ks[a]?=some x)\/(a=i/\x=key)\/(i<a/\ks[a-1]?=some x):=λ a x e=>by
  rcases Nat.lt_trichotomy a i with c|c|c
  ·rw[bR (by rw[zt];omega),fT c]at e;exact O ⟨c,e⟩
  ·subst c;rw[bZ (by rw[zt];omega),zt,show a-min a (Y ks)=0 from Z]at e;exact al (O ⟨rfl,by simpa using e.symm⟩)
  rw[bZ (by rw[zt];omega),zt,show a-min i (Y ks)=(a-1-i)+1 from Z,oH,eP,show i+(a-1-i)=a-1 from Z]at e;exact al (al ⟨c,e⟩)
 intro a b x y m e n;rcases at' a x e with⟨c,f⟩|⟨c,f⟩|⟨c,f⟩<;>rcases at' b y n with⟨j,d⟩|⟨j,d⟩|⟨j,d⟩
 ·exact g a b x y m f d
 ·subst d;exact h.below a x c f
 ·exact g a (b-1) x y Z f d
 ·omega
 ·omega
 ·subst f;have o:=h.above (b-1) y Z d;rcases yu x.toNat y.toNat with k|k
  ·exact k
  exact absurd (dU d) (by rw[mV.1 (show y.toNat=x.toNat from Z)];exact l)
 ·omega
 ·omega
 exact g (a-1) (b-1) x y Z f d
theorem jV.drop_one(g:jV ks)(i:Nat)(l:i<Y ks):jV (ks.take i++ks.drop (i+1)):=by
 have at':∀(a:Nat) (x:UInt64),(ks.take i++ks.drop (i+1))[a]?=some x->(a<i/\ks[a]?=some x)\/(i<=a/\ks[a+1]?=some x):=λ a x d=>by
  rcases yu a i with c|c
  ·rw[bR (by rw[zt];omega),fT c]at d;exact O ⟨c,d⟩
  rw[bZ (by rw[zt];omega),zt,eP,show i+1+(a-min i (Y ks))=a+1 from Z]at d;exact al ⟨c,d⟩
 intro a b x y j d k;rcases at' a x d with⟨c,f⟩|⟨c,f⟩<;>rcases at' b y k with⟨h,e⟩|⟨h,e⟩
 ·exact g a b x y j f e
 ·exact g a (b+1) x y Z f e
 ·omega
 exact g (a+1) (b+1) x y Z f e
section
variable{P k:Nat}
end
section
variable{P k:Nat}
theorem py(n:Int):Clean (nN n) 1:=by
 refine⟨(Ok.new n).fit,(Ok.new n).so,lB n,(P7 n).wl,λ p b c=>Z,λ i a=>?_⟩;rw[(P7 n).free]at a;exact absurd a (jI _)
def Aw(pages:Int):AP:={au:=1,aA:=pK pages,free:=[],c:=λ p=>lu (nN pages).x p,op:=none}
end
