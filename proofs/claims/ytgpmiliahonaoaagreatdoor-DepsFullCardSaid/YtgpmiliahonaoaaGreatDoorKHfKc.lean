/- Facts on texts on pages. -/
import Derived.Test.YtgpmiliahonaoaaGreatDoorKHfIc
set_option maxRecDepth 100000
set_option maxHeartbeats 8000000
set_option linter.unusedSimpArgs false
open Go.IntKind renaming i64->U,u64->a7
open Or renaming inl->O,inr->al
open Go.Value renaming bool->a6,int->V,pointer->aq,string->a8,tuple->a9
open Go.Ending renaming returned->aw
open List renaming length->Y
open Go.Proofs.Tryz
namespace Go.Proofs.YtgpmiliahonaoaaGreatDoor
open Go.RowKit
open UK (str aF nth Only Row ay w32)
open SR (aO bz total)
open SL (hole add trim room live)
open Go.BigFrame
variable{p E F:Nat->Prop}{o:Nat->List UInt8}{W g:World}{root:Nat}{A B:AP}{s:List UInt8}{L:List (List UInt8)}{h:Value}{j:Bool}
theorem Q6(p i:Nat)(a:p<=60000)(b:i<256):bits .and a7 ((p*256+i:Nat):Int) 255=(i:Int):=by
 rw[show(255:Int)=((255:Nat):Int)from rfl,u64_and_nat _ _ Z Z];rw[show(255:Nat)=2^8-1 from rfl,Nat.and_two_pow_sub_one_eq_mod];omega
section
variable{P D k f e cap a H c b i:Nat}
theorem PF.uD(l:PF E W P D A k f e cap a j)(m:E b)(o:0 ≠b)(p:ay W b #[h])(i:Value) :
  PF E (W.setCell b i) P D A k f e cap a j/\Kept (λ c=>E c/\c≠b) W (W.setCell b i)/\ay (W.setCell b i) b #[i]:=by
 have g:Only b W (W.setCell b i):=(Only.refl b _).set 0 i;refine⟨l.over (R:=λ c=>c=b) (λ c d=>by rw[d];exact m) o g.size (λ c d n=>g.block c d n) (λ _ d=>O d),⟨g.os,g.tape,g.output,g.size,λ c d=>g.block c (l.there c d.1) d.2⟩,p.set 0 i⟩
theorem ZU(h:PF E W P D A k f e cap a false)(d:aO (A.c a) L):∃y,aF W e y/\aO y L/\504<=cap:=by
 obtain⟨y,c,i,g,b,j⟩:=h.bytes;exact⟨y,c,d.oz Z g,b⟩
theorem ui(p:PF E W P D A k f e cap a false)(T:aO (A.c a) L)(h1:Iw L)(hp:a<=60000)(hi:i<256)(b1:ay W c #[V a7 ((a*256+i:Nat):Int)])(v:ay W b #[h])(h2:E b)(t2:0 ≠b) :
  Calls prog 209 #[aq f,aq c,aq b] W λ l g=>
   (bz L i≠[]/\l=aw (V U 0)/\PF E g P D A k f e cap a false/\ay g b #[a8 (str (bz L i))]/\Kept (λ j=>E j/\j≠b) W g) \/
   (bz L i=[]/\l=aw (V U 4)/\PF E g P D A k f e cap a false/\Kept E W g):=by
 have F:=zH (AB p);obtain⟨h4,N,S,y3⟩:=ZU p T;have K:=zH (SL.AY e h4 L cap W N S h1);have I:=bm p b1 v;have h5:=Q6 a i hp hi;have M:Hid (IntKind.i64.wrap (i:Int)=(i:Int)):=by show _=_;rw[dM];omega
 generalize hn:a*256+i=n at h5 b1;clear p N S v
 go_enter func209,ntmps209
 go_wp2_with fail
 refine F.out.mono ?_;rintro l w1 ⟨rfl,rfl⟩
 go_wp2_with fail
 refine K.out.mono ?_;rintro l q ⟨rfl,u⟩;obtain⟨p,b1,v⟩:=I.out;rw[hn]at b1;have z:=p.next u;have G:=p.kept u;have y:Below q q q.drew:=(aU _ _).drew;have d:=z.next y;have o:=G.trans (z.kept y);have b13:=(b1.next u).drew;have s:=(v.next u).drew;have d1:=b13.c0;obtain⟨h0,z1,B,z3⟩:=ZU d T;have HB2:=zH (AB d);by_cases r:bz L i=[]
 ·have R:SL.hasB L (i:Int)=false:=by unfold SL.hasB;simp[r]
  have x:=zH ((SL.I4 e h0 L cap (i:Int) q.drew z1 B R).mono (R':=λ l g=>l=aw (a9 #[a8 (str []),a6 false])/\g.cell? c=some (V a7 (n:Int))/\Below q.drew.1.size q.drew g) (λ _ _ ⟨J,t⟩=>⟨J,(b13.next t).cell 0 _ rfl,t⟩));have w:=bg d o;have H:=zH r;clear F K I p b1 v u z G y d o b13 s z1 B R r
  go_wp2_with fail
  go_region_with (first
   | (go_at_call 116;refine HB2.out.mono ?_;rintro l w3 ⟨rfl,rfl⟩)
   | (go_at_call 211;rw[M.out];refine x.out.mono ?_;rintro l w4 ⟨rfl,d4,m⟩;replace m:=zH m))
  all_goals
   obtain⟨d,o⟩:=w.out;have C:=bg (d.next m.out) (o.trans (d.kept m.out));clear HB2 x w d o m;go_wp2;go_ret;exact al ⟨H.out,rfl,C.out⟩
 obtain⟨h3,yE⟩:i<Y L/\bz L i≠[]:=⟨by
  by_cases hc:i<Y L
  ·exact hc
  exact absurd (SR.gU _ _ Z) r,r⟩
 have x:=zH ((SL.Ep e h0 L cap z3 i q.drew z1 B h3 r).mono (R':=λ l g=>l=aw (a9 #[a8 (str (bz L i)),a6 true])/\g.cell? c=some (V a7 (n:Int))/\g.cell? b=some h/\g.frozen? ⟨b,0,none⟩=false/\Below q.drew.1.size q.drew g) (λ _ _ ⟨J,t⟩=>⟨J,(b13.next t).cell 0 _ rfl,(s.next t).cell 0 _ rfl,(s.next t).free 0,t⟩));have w:=bm d o s;have H:=zH r;clear F K I p b1 v u z G y d o b13 s z1 B r yE
 go_wp2_with fail
 go_region_with (first
  | (go_at_call 116;refine HB2.out.mono ?_;rintro l w3 ⟨rfl,rfl⟩)
  | (go_at_call 211;rw[M.out];refine x.out.mono ?_;rintro l w4 ⟨rfl,d4,d5,f5,m⟩;replace m:=zH m))
 all_goals
  obtain⟨d,o,s⟩:=w.out;obtain⟨X,Q,q3⟩:=(d.next m.out).uD h2 t2 (s.next m.out) (a8 (str (bz L i)));have C:=bm X q3 (((o.trans (d.kept m.out)).mono (λ _ hj=>hj.1)).trans Q);clear HB2 x w d o s m X Q q3;go_wp2;go_ret;exact O ⟨H.out,rfl,C.out⟩
def po(E:Nat->Prop)(W g:World)(P D:Nat)(A:AP)(k i:Nat)(L:List (List UInt8))(e:Ending):Prop:=
 (bz L i≠[]/\e=aw (a9 #[a8 (str (bz L i)),V U 0])/\PZ E g P D A (k+2)/\Kept E W g) \/
 (bz L i=[]/\e=aw (a9 #[a8 (str []),V U 4])/\PZ E g P D A (k+2)/\Kept E W g)
theorem vx(h:PZ E W P D A k)(hk:k+2<900000000)(K:ay W H (rG P root))(t:aO (A.c a) L)(Q:Iw L)(C:A.Has a)(S:a<=60000)(Y:i<256) :
  Calls prog 159 #[aq H,V a7 ((a*256+i:Nat):Int)] W λ w l=>po E W l P D A k i L w:=by
 have h4:1<=a:=C.1;have ht:=h.tab.lt;have T:=h.there;have HAND:=zH (Q6 a i S Y);have s:(((a*256+i:Nat):Int))/256=(a:Int):=Z
 generalize hn:a*256+i=n at s ⊢;have I5:=zH s;clear s;have y:Below W W (W.alloc (.cells #[V a7 (n:Int)] 77)):=(aU _ _).alloc (aH _) _;have p:(W.alloc (.cells #[V a7 (n:Int)] 77)).1.size=W.1.size+1:=by simp
 have G:=ay.new W #[V a7 (n:Int)] 77;generalize fO:W.alloc (.cells #[V a7 (n:Int)] 77)=v at y p G;have g:=y.alloc Z (.cells #[a8 (str [])] 9);have h1:(v.alloc (.cells #[a8 (str [])] 9)).1.size=W.1.size+2:=by simp[p]
 have q:=ay.new v #[a8 (str [])] 9;rw[p]at q;have o:=G.alloc (.cells #[a8 (str [])] 9);generalize h2:v.alloc (.cells #[a8 (str [])] 9)=wc at g h1 q o
 have R:=(h.wide g (T:=λ j=>E j\/j=W.1.size\/j=W.1.size+1) (λ j b=>by
  rcases b with b|b|b
  ·exact O b
  ·exact al Z
  exact al Z)).next (aU _ _).drew
 have X:Kept E W wc.drew:=h.kept g.drew
 have ve:Hid ((W.alloc (.cells #[V a7 (n:Int)] 77)).alloc (.cells #[a8 (str [])] 9)=wc):=by
  show _=_;rw[fO,h2]
 have d0:=(K.below g K.lt).c0;have d1:=o.drew.c0
 have F:=zH (FR (N:=209) (mH:= #[aq W,aq (some ⟨W.1.size+1,0,none⟩)]) (F:=E)
  (R:=λ A' U r l=>A'=A/\U=k+2/\((bz L i≠[]/\r=0/\ay l (W.1.size+1) #[a8 (str (bz L i))])\/(bz L i=[]/\r=4/\ay l (W.1.size+1) #[a8 (str [])])))
  (Cr func209 (by kernel_rfl) (by kernel_rfl)) R hk C (λ j b=>O b) (λ f e cap h3 mr h0=>by
   have N:=o.drew.ae (h0.block _ (al (O rfl)));have d:=q.drew.ae (h0.block _ (al (al rfl)));rw[<-hn]at N;refine(ui mr t Q S Y N d (al (al rfl)) Z).mono ?_;rintro w l (⟨c,I,B,q2,u⟩|⟨c,I,B,u⟩)
   ·exact⟨0,A,k+2,false,I,B,u.mono (λ j b=>⟨O b,by have:=T j b;omega⟩),rfl,rfl,O ⟨c,rfl,q2⟩⟩
   exact⟨4,A,k+2,false,I,B,u.mono (λ j b=>O b),rfl,rfl,al ⟨c,rfl,d.ae (u.block _ (al (al rfl)))⟩⟩))
 have z:=zH X;clear h K G o q R X y g ht C p h1 fO h2 T t Q
 go_enter func159,ntmps159
 go_wp2_with fail
 rw[ve.out];have s:=I5.out
 go_still_tail 8,(by kernel_rfl)
 change wpList _ _ _ _ _ wc.drew
 go_wp2_with fail
 refine F.out.mono ?_;rintro w w3 ⟨r,A',U,w1,rfl,⟨rfl,rfl,t⟩,M,m,J⟩;have K3:=bg (M.less (T:=E) (λ j b=>O b)) (z.out.trans J);rcases t with⟨c,rfl,d⟩|⟨c,rfl,d⟩
 ·have d2:w3.cell? ⟨W.1.size+1,0,none⟩=some (a8 (str (bz L i))):=(d.ae (m.block _ (al (al rfl)))).cell 0 _ rfl;have x:=zH c;clear F z M m J d c;go_wp2;go_ret2;exact O ⟨x.out,rfl,K3.out⟩
 have d2:w3.cell? ⟨W.1.size+1,0,none⟩=some (a8 (str [])):=(d.ae (m.block _ (al (al rfl)))).cell 0 _ rfl;have x:=zH c;clear F z M m J d c;go_wp2;go_ret2;exact al ⟨x.out,rfl,K3.out⟩
end
section
variable{P D k f e cap a H c b d m:Nat}{n l:Value}
theorem Gc(h:PF E W P D A k f e cap a false)(b1:ay W c #[n])(x:ay W b #[V U m])(u:ay W d #[l])(O:E c)(h3:E d)(n12:c≠b)(n13:c≠d)(t1:0 ≠c)(t3:0 ≠d)(hm:m<=400000) :
  Calls prog 213 #[aq f,aq c,aq b,aq d] W λ s B=>s=aw (V U 0)/\PF E B P D A k f e cap a false/\ay B c #[V U (dO (A.c a) 0).toNat]/\ay B d #[a8 (str (((A.c a).drop 4).take (min m 500)))]/\Kept (λ j=>E j/\j≠c/\j≠d) W B:=by
 have R:=zH (AB h);obtain⟨y,o,y2,J,y4,y5⟩:=h.bytes;have e0:dO (A.c a) 0=dO y 0:=by rw[<-J];exact xiv y 0 504 (by decide)
 have X:((A.c a).drop 4).take (min m 500)=(y.drop 4).take (min m 500):=by rw[<-J];exact ZB y 4 (min m 500) 504 Z
 rw[e0,X];have HW0:=zH (Ug o 0 504 cap Z Z);have H0:=br h o b1 x u;have G:=bg y2 y4;clear h o b1 x u e0 X J y5;generalize h1:dO y 0=q at HW0 ⊢;clear h1
 go_enter func213,ntmps213
 go_wp2_with fail
 refine R.out.mono ?_;rintro s w1 ⟨rfl,rfl⟩
 go_wp2_with fail
 refine HW0.out.mono ?_;rintro s w2 ⟨rfl,p⟩;obtain⟨h,o,b1,x,u⟩:=H0.out;have h':=h.next p;have Y:=h.kept p;have b1':=b1.next p;have d1:=b1'.c0;have f1:=b1'.free 0;obtain⟨C,M,b13⟩:=h'.uD O t1 b1' (V U q.toNat);have H:=(x.next p).far (b:=c) (j:=0) (V U q.toNat) n12.symm;have v:=(u.next p).far (b:=c) (j:=0) (V U q.toNat) n13.symm
 have y13:=(o.below p o.lt).far ⟨c,0,none⟩ (V U q.toNat) (λ s=>by
  obtain⟨_,_,_,_,_,h5⟩:=h.bytes;exact h5 (s▸O))
 have I:=zH ((Y.mono (T:=λ j=>E j/\j≠c) (λ _ (g:E _/\_)=>g.1)).trans M);clear R HW0 H0 h o b1 x u h' Y b1' p M
 go_wp2_with fail
 generalize w2.setCell c (V U q.toNat)=i at C b13 H v y13 I ⊢;have F:Below i i i.drew:=(aU _ _).drew;have t:=C.next F;have z:=C.kept F;have N:=zH (AB t);have d2:=H.drew.c0;have d3:=v.drew.c0;have f3:i.drew.frozen? ⟨d,0,none⟩=false:=v.drew.free 0;have K:=UK.vB (P:=prog) (src:=94) (dst:=9) underlying94 underlying5 underlying9 y13.drew 4 (min m 500) (cap-4) (by have:=G.out;omega);have T:=bp t b13.drew v.drew z
 have DC:∀(ts:Array TypeId) (h0:TypeId) (w:World),(Builtin.min_ ts h0 #[V U (m:Int),V U 500]).run prog w= .ok (V U ((min m 500:Nat):Int)) w:=λ ts h0 w=>by
  rw[run_min_int2]
  congr 2
  by_cases h:(500:Int)<m
  ·rw[be h];omega
  rw[aE h];omega
 have h2:min m 500<=500:=Nat.min_le_right _ _;generalize hr:min m 500=r at K DC h2 ⊢;have i1:(4:Int)+r<=cap:=by have:=G.out;omega
 have i2:¬(cap=4):=by have:=G.out;omega
 have i3:(4:Int)<=4+(r:Int):=Z
 have i4:(0:Int)<=4+(r:Int):=Z
 have i5:(4+(r:Int)).toNat=4+r:=Z
 have i6:IntKind.i64.wrap (4+(r:Int))=4+r:=by rw[dM];omega
 have i7:4+r-4=r:=Z
 have HRR:=zH hr;clear C b13 H v F t z hr
 go_region_with (first
  | (go_at_call 116;refine N.out.mono ?_;rintro s w5 ⟨rfl,rfl⟩))
 all_goals
  obtain⟨t,b14,L,z⟩:=T.out;obtain⟨Q,S,q3⟩:=t.uD h3 t3 L (a8 (str ((y.drop 4).take r)));have q4:=b14.far (b:=d) (j:=0) (a8 (str ((y.drop 4).take r))) n13
  have H5:Hid (PF E ((i.setCell d (a8 (str ((y.drop 4).take r)))).drew) P D A k f e cap a false/\ay ((i.setCell d (a8 (str ((y.drop 4).take r)))).drew) c #[V U q.toNat]/\ay ((i.setCell d (a8 (str ((y.drop 4).take r)))).drew) d #[a8 (str ((y.drop 4).take r))]/\Kept (λ j=>E j/\j≠c/\j≠d) w1 ((i.setCell d (a8 (str ((y.drop 4).take r)))).drew)):=
   ⟨Q,q4,q3,((I.out.mono (T:=λ j=>E j/\j≠c/\j≠d) (λ _ (g:E _/\_/\_)=>⟨g.1,g.2.1⟩)).trans (z.mono (λ _ (g:E _/\_/\_)=>g.1))).trans (S.mono (λ _ (g:E _/\_/\_)=>⟨g.1,g.2.2⟩))⟩
  clear N T I t b14 L z Q S q3 q4 K DC y13;go_wp2;go_ret;rw[HRR.out];exact⟨rfl,H5.out⟩
end
