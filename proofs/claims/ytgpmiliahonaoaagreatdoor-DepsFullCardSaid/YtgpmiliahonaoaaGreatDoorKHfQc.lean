/- Facts on texts on pages. -/
import Derived.Test.YtgpmiliahonaoaaGreatDoorKHfKc
set_option maxRecDepth 100000
set_option maxHeartbeats 8000000
set_option linter.unusedSimpArgs false
open List renaming length->Y
open Go.Value renaming bool->a6,int->V,pointer->aq,slice->ad,string->a8,tuple->a9
open Go.Ending renaming returned->aw
open Go.IntKind renaming i64->U,u64->a7
open Or renaming inl->O,inr->al
open Go.Proofs.Tryz
namespace Go.Proofs.YtgpmiliahonaoaaGreatDoor
open Go.RowKit
open UK (str aF nth Only Row ay w32)
open Go.BigFrame
variable{W a w W':World}{B n g P D k f e cap pg root H c2 N c:Nat}{x s l z:List UInt8}{Fo E F:Nat->Prop}{Co:Nat->List UInt8}{A:AP}{ch rp:List Nat}{h:Value}{mH:Array Value}{J:Nat->(Nat->Prop)->AP->World->Prop}{d:Option Addr}{L:Nat->List (List UInt8)}{X:List HT}{t:HT}
theorem ZV(s:List UInt8)(ch:List Nat)(o:Nat)(v:UInt32)(rest:List UInt8)(e:(dx s ch).drop o=aJ v++rest)(r:List UInt8):dO (dx s ch++r) o=v/\o+4<=(dx s ch).length:=by
 have b:o+4<=(dx s ch).length:=by
  have a:=congrArg List.length e;rw[zd,zl,show(aJ v).length=4 from rfl]at a;omega
 refine⟨?_,b⟩;unfold dO;rw[List.drop_append_of_le_length Z,e,cO,List.take_left' (show(aJ v).length=4 from rfl),Fg]
theorem Q7(s:List UInt8)(ch:List Nat)(h:300<Y s):dx s ch=1::(aJ (w32 (Y s))++aJ (w32 (ch.headD 0))):=by
 unfold dx;rw[aE Z]
theorem ZW(s:List UInt8)(ch:List Nat)(h:300<Y s)(r:List UInt8):dO (dx s ch++r) 1=w32 (Y s)/\dO (dx s ch++r) 5=w32 (ch.headD 0)/\(dx s ch).length=9:=by
 have e:=Q7 s ch h;refine⟨(ZV s ch 1 _ (aJ (w32 (ch.headD 0))) (by rw[e];rfl) r).1,(ZV s ch 5 _ [] (by rw[e];rfl) r).1,by rw[e];rfl⟩
theorem mA(h:aF W B x)(o n c:Nat)(f:4<=n)(k:o+n<=Y x) :
  Calls prog 115 #[ad (B,o) n c] W λ e d=>e=aw (V .u32 (dS ((x.drop o).take 4)).toNat)/\∃m,d=W.drewN m:=by
 have i:=h.cell (i:=o) Z;have l:=h.cell (i:=o+1) Z;have c2:=h.cell (i:=o+2) Z;have g:=h.cell (i:=o+3) Z
 have b:Hid (dS ((x.drop o).take 4)=UK.jZ (UK.jZ (UK.jZ (UK.wide (nth x o)) (UK.shl (UK.wide (nth x (o+1))) 1)) (UK.shl (UK.wide (nth x (o+2))) 2)) (UK.shl (UK.wide (nth x (o+3))) 3)):=by
  show _=_;unfold dS
  have e:∀j,j<4->nth ((x.drop o).take 4) j=nth x (o+j):=λ j a=>by
   simp only[nth,fV];rw[fT a,eP]
  rw[e 0 Z,e 1 Z,e 2 Z,e 3 Z,kg]
 go_enter func115,ntmps115
 go_wp2
 go_quiet (fail)
 go_wp2;go_ret
 exact⟨by rw[b.out]<;>rfl,_,rfl⟩
theorem ZX(h:aF W B x)(o n c:Nat)(d:4<=n)(g:o+n<=Y x) :
  Calls prog 212 #[ad (B,o) n c] W λ e f=>e=aw (V U (dO x o).toNat)/\∃m,f=W.drewN m:=by
 have a:=zH (mA h o n c d g);have i:=UK.ZA (dS ((x.drop o).take 4));have b:IntKind.i64.wrap ((dS ((x.drop o).take 4)).toNat:Int)=((dS ((x.drop o).take 4)).toNat:Int):=by rw[dM];omega
 unfold dO;generalize dS ((x.drop o).take 4)=u at a i b ⊢
 go_enter func212,ntmps212
 go_wp2_with fail
 refine a.out.mono ?_;rintro e j ⟨rfl,m,rfl⟩;clear a;go_wp2;go_ret;exact⟨by first|rfl|rw[b]<;>rfl,m,rfl⟩
theorem Ut(h:Below n a w):Below n a w.drew:=h.drew
theorem Uu(h:Below n a w)(m:Nat):Below n a (w.drewN m):=UK.dN h m
theorem Uv(h:Below n a w)(b:n<=w.1.size)(o:Obj):Below n a (w.alloc o):=h.alloc b o
theorem Uw(h:Below n a w)(b:n<=g)(v:Value):Below n a (w.setCell g v):=h.setCell (p:=⟨g,0,none⟩) b v
theorem UK.ay.set1{a:Value}(h:ay W g #[a])(v:Value):ay (W.setCell g v) g #[v]:=h.set 0 v
theorem PZ.qh(h:PZ E W P D A k):A.au<=60000:=by
 obtain⟨b,M,n,q,d,a,r⟩:=h;exact a.mi.fit.few
theorem qd.FX{c:Nat->List UInt8}:∀(j:Nat) {s:List UInt8} {ch:List Nat},qd c s ch->j<=Y ch->qd c (s.drop (500*j)) (ch.drop j)
 | 0,s,ch,h,_=>by rw[Nat.mul_zero,List.drop_zero,List.drop_zero];exact h
 | j+1,s,[],_,a=>absurd a (Nat.not_succ_le_zero _)
 | j+1,s,p::d,⟨_,_,_,b⟩,a=>by
  have:=qd.FX j b (by simpa using a);rw[lq]at this;rw[List.drop_succ_cons,show 500*(j+1)=500+500*j from Z];exact this
theorem PZ.turn(d:PZ E W P D A k)(e:E c2)(g:0 ≠c2)(i:ay W c2 #[h])(b:Value) :
  PZ E (W.setCell c2 b) P D A k/\Kept (λ j=>E j/\j≠c2) W (W.setCell c2 b)/\ay (W.setCell c2 b) c2 #[b]:=by
 have c:Only c2 W (W.setCell c2 b):=(Only.refl c2 _).set 0 b;refine⟨d.over (R:=λ j=>j=c2) (λ j a=>by rw[a];exact e) g c.size (λ j a f=>c.block j a f) (λ _ a=>O a),⟨c.os,c.tape,c.output,c.size,λ j a=>c.block j (d.there j a.1) a.2⟩,i.set 0 b⟩
structure I6(N:Nat)(mH:Array Value)(J:Nat->(Nat->Prop)->AP->World->Prop)(F:Nat->Prop)(P D:Nat)(s:List UInt8)(ch:List Nat):Prop where
 enter:∀args w,(callFunc N args).run prog w= .ok (.enter N args) w
 still:∀j S B w a,J j S B w->Kept S w a->J j S B a
 less:∀j S B w,J j S B w->∀b,F b->S b
 does:∀(T:Nat->Prop) (j:Nat) (S:Nat->Prop) (B:AP) (kk:Nat) (w:World) (p:Nat),ch[j]?=some p->500*j<Y s->J j S B w->PZ (λ b=>S b\/T b) w P D B kk->(∀b,T b->¬S b)->kk+1<900000000->(∀q,q∈ch.drop j->B.Has q) ->
  Calls prog N (#[V U p,a8 (str ((s.drop (500*j)).take 500))]++mH) w λ e a=>e=aw (V U 0)/\∃d c,J (j+1) d c a/\PZ (λ b=>d b\/T b) a P D c (kk+1)/\(∀b,T b->¬d b)/\(∀q,q∈ch.drop (j+1)->c.Has q)/\c.c=B.c/\Kept (λ b=>F b\/T b) w a
theorem ZY(hd:I6 N mH J F P D s ch)(hj:PZ E W P D A k)(hk:k+(Y s+10)<900000000)(c:ay W H (rG P root))(hH:F H)(h4:qd A.c s ch)(h5:∀p,p∈ch->A.Has p)(hv:300<Y s)(xj:Y s<=400000)(hJ:J 0 E A W) :
  Calls prog 160 #[aq H,a8 (str (dx s ch)),.func (.func N) #[] mH] W λ u L=>u=aw (V U 0)/\∃S B,J (Y ch) S B L/\PZ S L P D B (k+(Y s+10))/\Kept F W L:=by
 obtain⟨_,_,I7⟩:=ZW s ch hv [];have xi:((dx s ch).length:Int)=9:=Z
 obtain⟨cap,h7,x7,h8,K⟩:=UK.ZZ (P:=prog) (src:=9) (dst:=94) underlying9 underlying94 underlying5 W (dx s ch);rw[I7]at x7 h8 K
 obtain⟨hi,uZ,_⟩:=ZW s ch hv (List.replicate (cap-9) 0);have bo:Below W W (W.drew.alloc h7):=(aU _ _).drew.alloc (aH _) h7;have h9:(W.drew.alloc h7).1.size=W.1.size+1:=by simp
 have HB:=zH c;have HJ:=zH hJ;have C:=zH (hj.next bo);have HK:=zH (hj.kept bo);generalize x4:W.drew.alloc h7=v at h8 K bo h9 C HK;clear hj c hJ x4
 go_enter func160,ntmps160
 go_upto_region 4 with(fail)
 generalize h3:ch.headD 0=hl at uZ;have Ki:=zH h3
 have Cu:hl<=4294967295:=by
  rw[<-h3]
  cases ch with
  | nil=>exact aR _
  | cons a l=>
   have h1:=(h5 a (bI ..)).2.1;have h2:=C.out.qh;show a<=_;omega
 have e1:=Nc (n:=Y s) Z;have e5:=Nc (n:=hl) Z;rw[<-hi]at e1;rw[<-uZ]at e5
 go_cut [8,9] (λ nv pv wx=>∃d:Nat,nv=aq d/\pv=V U hl/\v.1.size<=d/\ay wx d #[V U (Y s)]/\Below v v wx)
 case first=>
  have HW1:=zH (λ (w:World) (c:Below v v w)=>ZX (K.below c K.lt) 1 8 (cap-1) Z (by rw[zl,iM,I7];omega));have δ:=zH (λ (w:World) (c:Below v v w)=>ZX (K.below c K.lt) 5 4 (cap-5) Z (by rw[zl,iM,I7];omega));rw[e1]at HW1;rw[e5]at δ;have j1:(1:Int)<=cap:=Z
  have j2:(5:Int)<=cap:=Z
  have j3:¬(cap=1):=Z
  have j4:¬(cap=5):=Z
  clear h3 h4 h5 hi uZ e1 e5 h8 hd
  go_region_with (first
   | (go_at_call 212;refine(HW1.out _ (by (repeat (first|with_reducible exact aU _ _|with_reducible apply Ut|with_reducible apply Uu|with_reducible apply Uw|with_reducible apply Uv|simp)))).mono ?_;rintro u w3 ⟨rfl,m1,rfl⟩)
   | (go_at_call 212;refine(δ.out _ (by (repeat (first|with_reducible exact aU _ _|with_reducible apply Ut|with_reducible apply Uu|with_reducible apply Uw|with_reducible apply Uv|simp)))).mono ?_;rintro u w3 ⟨rfl,m5,rfl⟩))
  all_goals
   go_wp2_with fail
   go_meet;refine⟨W.1.size+1,rfl,rfl,Z,?_,?_⟩
   ·rw[<-h9]
    first
     | exact ay.new _ _ _
     | exact((ay.new v _ _).drewN _).set1 _
     | exact((ay.new (v.drewN _) _ _).drewN _).set1 _
   (try rw[<-h9])
   (repeat (first|with_reducible exact aU _ _|with_reducible apply Ut|with_reducible apply Uu|with_reducible apply Uw|with_reducible apply Uv|simp))
 obtain⟨d,rfl,rfl,x0,Ux,bl⟩:=hcut;have Qt:=C.out.there;have xh:=C.out.tab.lt
 have hs:∃(S:Nat->Prop) (B:AP),J 0 S B wc/\¬S d/\PZ (λ b=>S b\/b=d) wc P D B k/\B.c=A.c/\(∀q,q∈ch->B.Has q)/\Kept F W wc:=by
  have kk:=HK.out.trans (C.out.kept bl)
  exact⟨E,A,hd.still _ _ _ _ _ HJ.out kk,λ hE=>by have:=Qt d hE;omega,C.out.wide bl (λ j I=>by
   rcases I with I|rfl
   ·exact O I
   exact al ⟨x0,Ux.lt⟩),rfl,h5,kk.mono (hd.less _ _ _ _ HJ.out)⟩
 have HST:=zH hs;have xc:=zH (λ j (I:j<=Y ch)=>h4.FX j I);have I8:=zH h4.few;have Uy:=zH Ux;clear hs h4 h5 K h8 hi uZ e1 e5 bo bl C HK HJ Cu Ux Qt h3;have cn:=Uy.out.c0;have i9:¬(400000:Int)<(Y s:Int):=Z
 go_wp2_with fail
 go_loopw [9] (λ pv wr=>∃(j:Nat) (S:Nat->Prop) (B:AP),pv=V U ((ch.drop j).headD 0:Nat)/\j<=Y ch/\J j S B wr/\¬S d/\PZ (λ b=>S b\/b=d) wr P D B (k+4*j)/\B.c=A.c/\(∀q,q∈ch.drop j->B.Has q)/\ay wr d #[V U (Y s-500*j:Nat)]/\Kept F W wr) (λ _ wr=>(intOf ((wr.cell? d).getD undef)).toNat)
 case atStart=>
  obtain⟨S,B,o,x,n,i,t,g⟩:=HST.out;exact⟨0,S,B,by rw[List.drop_zero,Ki.out],aR _,o,x,n,i,t,Uy.out,g⟩
 clear HST Uy cn i9 Ki;obtain⟨j,S,B,rfl,I,o,x,n,i,t,g,h⟩:=hrel;have c0:=(HB.out.ae (h.block H hH)).c0;have G:=xc.out j I;have hn:(s.drop (500*j)).length=Y s-500*j:=zd;by_cases hm:0<Y s-500*j
 ·obtain⟨p,r,m⟩:∃p r,ch.drop j=p::r:=by
   cases m:ch.drop j with
   | nil=>
    rw[m]at G;have T:s.drop (500*j)=[]:=G;rw[T,List.length_nil]at hn;omega
   | cons p r=>exact⟨p,r,rfl⟩
  have ζ:(ch.drop j).headD 0=p:=by rw[m];rfl
  rw[ζ];clear ζ;rw[m]at G t;obtain⟨_,hw,h0,_⟩:=G;rw[hn]at h0
  have x5:j<Y ch:=by
   by_cases hc:j<Y ch
   ·exact hc
   rw[List.drop_eq_nil_of_le Z]at m;cases m
  have x3:ch[j]?=some p:=by
   have T:(ch.drop j)[0]?=some p:=by rw[m];rfl
   rw[eP,kg]at T;exact T
  have Uz:ch.drop (j+1)=r:=by
   rw[<-lq,m];rfl
  have pu:B.Has p:=t p (bI ..)
  have hy:(dO (B.c p) 0).toNat=r.headD 0:=by
   rw[i,hw];refine Nc ?_
   cases r with
   | nil=>show 0<_;omega
   | cons a l=>
    have h1:=(t a (cK _ (bI ..))).2.1;have h2:=n.qh;show a<_;omega
  rw[<-i]at h0;have hg:((s.drop (500*j)).take 500).length=min 500 (Y s-500*j):=by rw[zt,hn]
  generalize AZ:(s.drop (500*j)).take 500=part at h0 hg;have hz:Y s-500*(j+1)=Y s-500*j-Y part:=Z
  have uE:Y part<=Y s-500*j/\0<Y part/\Y s-500*j<=400000:=Z
  generalize xk:Y s-500*j=h6 at g hm h0 hg hz uE;have cm:=g.c0;have z:=n.there;have I9:=g.lt;have ht:=n.tab.lt;have a1:Below wr wr (wr.alloc (.cells #[a8 (str [])] 9)):=(aU _ _).alloc (aH _) _;have Nn:(wr.alloc (.cells #[a8 (str [])] 9)).1.size=wr.1.size+1:=by simp
  have x1:=ay.new wr #[a8 (str [])] 9;have X:=a1.alloc Z (.cells #[V U 0] 3);have Np:((wr.alloc (.cells #[a8 (str [])] 9)).alloc (.cells #[V U 0] 3)).1.size=wr.1.size+2:=by simp
  have x2:=ay.new (wr.alloc (.cells #[a8 (str [])] 9)) #[V U 0] 3;rw[Nn]at x2;have lT:=x1.alloc (.cells #[V U 0] 3);have xe:((wr.alloc (.cells #[a8 (str [])] 9)).alloc (.cells #[V U 0] 3)).cell? H=some (aq P):=((HB.out.ae (h.block H hH)).next X).cell 0 _ rfl;generalize hu:(wr.alloc (.cells #[a8 (str [])] 9)).alloc (.cells #[V U 0] 3)=w2 at X Np x2 lT;have xd:=zH hu
  have p2:=n.wide X (T:=λ b=>S b\/(b=d\/b=wr.1.size\/b=wr.1.size+1)) (λ b c=>by
   rcases c with c|c|c|c
   ·exact O (O c)
   ·exact O (al c)
   ·exact al Z
   exact al Z)
  have k2:Kept (λ b=>S b\/b=d) wr w2:=n.kept X
  have HW:=zH (FR (N:=213) (mH:= #[aq (some ⟨wr.1.size+1,0,none⟩),aq d,aq wr]) (F:=λ b=>S b\/b=d)
   (R:=λ A' k' hr L=>A'=B/\k'=k+4*j+2/\hr=0/\ay L (wr.1.size+1) #[V U (r.headD 0:Nat)]/\ay L wr #[a8 (str part)])
   (Cr func213 (by kernel_rfl) (by kernel_rfl)) p2 (by have:=I8.out;omega) pu (λ b c=>by
    rcases c with c|c
    ·exact O c
    ·exact al (O c)) (λ f e cap w mr ha=>by
    refine(Gc mr (x2.ae (ha.block _ (al (al (al rfl))))) ((g.next X).ae (ha.block _ (al (O rfl)))) (lT.ae (ha.block _ (al (al (O rfl))))) (al (al (al rfl))) (al (al (O rfl))) Z Z Z Z Z).mono ?_;rintro u L ⟨he,Q,r2,M,r4⟩;rw[hy]at r2;rw[h0]at M;refine⟨0,B,k+4*j+2,false,he,Q,r4.mono (λ b c=>⟨?_,?_,?_⟩),rfl,rfl,rfl,r2,M⟩
    ·rcases c with c|c
     ·exact O c
     exact al (O c)
    ·have:=z b c;omega
    have:=z b c;omega))
  have eN:=hd.enter;have HQ:=bs o x i t g h k2;have HT:=bg z I9;have HDR:=zH m;clear o x n i t g h p2 k2 a1 X x1 lT x2 Nn Np hw h0 hy pu m hu z
  go_wp2_with fail
  rw[xd.out];refine HW.out.mono ?_;rintro u w3 ⟨hr,A',k',w1',rfl,⟨rfl,rfl,rfl,b1,b2⟩,p3,k3,k4⟩;obtain⟨o,x,i,t,g,h,k2⟩:=HQ.out;obtain⟨z,I9⟩:=HT.out;have b13:=b1.ae (k3.block _ (al (al (al rfl))));have R:=b2.ae (k3.block _ (al (al (O rfl))));have k24:=k2.trans k4;have Nq:=g.ae (k24.block _ (al rfl));have η:=hd.still _ _ _ _ _ o (k24.mono (λ b c=>O c))
  have hb:=hd.does (λ b=>b=d\/b=wr.1.size\/b=wr.1.size+1) j S A' (k+4*j+2) w3 p x3 Z η p3 (λ b c hS=>by
   rcases c with rfl|rfl|rfl
   ·exact x hS
   ·have:=z _ (O hS);omega
   ·have:=z _ (O hS);omega) (by have:=I8.out;omega) (λ q hq=>by
   refine t q ?_;have hh:ch.drop j=p::r:=HDR.out;rw[<-hh];exact hq)
  rw[AZ]at hb;have θ:=zH hb;have x6:=R.c0;have HB3:=bs b13 R Nq h k24 i (hd.less _ _ _ _ o);clear HQ HT HW p3 k3 k4 b1 b2 b13 R k24 Nq η hb o x i t g h k2 z I9
  go_wp2_with fail
  refine θ.out.mono ?_;rintro u y ⟨rfl,S',B',Q,r2,M,r4,r5,r6⟩;obtain⟨b13,R,Nq,h,k24,i,ι⟩:=HB3.out;have b14:=b13.ae (r6.block _ (al (al (al rfl))));have rM:=R.ae (r6.block _ (al (al (O rfl))));have Q8:=Nq.ae (r6.block _ (al (O rfl)));have n1:d≠wr.1.size:=Z
  have n2:d≠wr.1.size+1:=Z
  obtain⟨z1,z2,z3⟩:=r2.turn (al (O rfl)) Z Q8 (V U ((Y s-500*(j+1):Nat):Int));have U0:Kept (λ b=>S' b) y (y.setCell d (V U ((Y s-500*(j+1):Nat):Int))):=z2.mono (λ b c=>⟨O c,λ u=>M d (O rfl) (u▸c)⟩)
  have xg:∀b,F b->b≠d:=λ b c u=>M d (O rfl) (by
   have:=hd.less _ _ _ _ Q b c;rw[<-u];exact this)
  have kF:Kept F W (y.setCell d (V U ((Y s-500*(j+1):Nat):Int))):=
   ((h.trans (k24.mono (λ b c=>O (ι b c)))).trans (r6.mono (λ b c=>O c))).trans (U0.mono (λ b c=>hd.less _ _ _ _ Q b c))
  have H5:Hid (∃(S:Nat->Prop) (B:AP),J (j+1) S B (y.setCell d (V U ((Y s-500*(j+1):Nat):Int)))/\¬S d/\PZ (λ b=>S b\/b=d) (y.setCell d (V U ((Y s-500*(j+1):Nat):Int))) P D B (k+4*(j+1))/\B.c=A.c/\(∀q,q∈ch.drop (j+1)->B.Has q)/\ay (y.setCell d (V U ((Y s-500*(j+1):Nat):Int))) d #[V U ((Y s-500*(j+1):Nat):Int)]/\Kept F W (y.setCell d (V U ((Y s-500*(j+1):Nat):Int)))):=
   ⟨S',B',hd.still _ _ _ _ _ Q U0,M d (O rfl),(z1.less (λ b c=>by
    rcases c with c|c
    ·exact O c
    exact al (O c))).up Z,r5.trans i,r4,z3,kF⟩
  have e4:=Q8.c0;have e5':=rM.c0;have e6:=b14.c0;have f4:y.frozen? ⟨d,0,none⟩=false:=Q8.free 0;have xa:(h6:Int)-(Y part:Int)=((Y s-500*(j+1):Nat):Int):=Z
  have hp:=z3.c0;have MF:=zH hp;have x9:((Y s-500*(j+1):Nat):Int)<400000:=Z
  have xm:(Y part:Int)<=h6:=Z
  have xl:(h6:Int)<=400000:=Z
  have xb:Y s-500*(j+1)<h6:=Z
  generalize hx:Y s-500*(j+1)=m2 at H5 xa MF x9 xb;have U1:=zH hx;clear hx;generalize ν:r.headD 0=ph at e6;have xf:=zH ν;clear θ HB3 Q r2 M r4 r5 r6 b13 R Nq h k24 i ι b14 rM Q8 z1 z2 z3 U0 xg kF hp hz ν x6 xe eN hg uE hm;go_wp2;go_roundw
  case rel=>
   obtain⟨S5,B5,t1,t2,t3,t4,t5,t6,t7⟩:=H5.out;exact⟨j+1,S5,B5,by rw[Uz,xf.out],x5,t1,t2,t3,t4,t5,by rw[U1.out];exact t6,t7⟩
  rw[MF.out,cm];simp[intOf];omega
 have ho:ch.drop j=[]:=by
  cases m:ch.drop j with
  | nil=>rfl
  | cons p r=>
   rw[m]at G;exact absurd (List.length_eq_zero_iff.1 Z) G.1
 have x8:j=Y ch:=by
  have:=congrArg List.length ho;rw[zd,List.length_nil]at this;omega
 have T:Y s-500*j=0:=Z
 rw[T]at g;have cm:=g.c0;have HQ:=bp o (n.less (T:=S) (λ _ c=>O c)) h x8;clear o x n i t g h G ho;go_wp2;go_ret;obtain⟨o,n,h,rfl⟩:=HQ.out;exact⟨rfl,S,B,o,n.up (by have:=I8.out;omega),h⟩
open SR (aO bz total)
open SL (hole add trim room live)
theorem ξ(l m:List UInt8):UK.cellsOf (l++m)=UK.cellsOf l++UK.cellsOf m:=dI
theorem Bi(s:List UInt8)(j:Nat):s.take (500*j)++(s.drop (500*j)).take 500=s.take (500*(j+1)):=by
 rw[show 500*(j+1)=500*j+500 from Z,List.take_add]
section
variable{b:Nat}
def BR(W:World)(b:Nat)(d:Option Addr)(c:Nat)(l:List UInt8):Prop:=((d=none/\UK.cellsOf l=[]/\c=0)\/∃g,d=some ⟨g,0,none⟩/\Row W g c (UK.cellsOf l)/\b<g)
def JG(A:AP)(E:Nat->Prop)(b:Nat)(s:List UInt8)(j:Nat)(S:Nat->Prop)(B:AP)(w:World):Prop:=
 B=A/\∃d c,(∀a,S a↔E a\/a=b\/aG d a)/\ay w b #[ad d (s.take (500*j)).length c]/\BR w b d c (s.take (500*j))
theorem BR.ae{a:World}(h:BR w b d c l)(j:w.1.size<=a.1.size)(i:∀f,aG d f->a.1[f]?=w.1[f]?):BR a b d c l:=by
 rcases h with h|⟨g,e,r,n⟩
 ·exact O h
 exact al ⟨g,e,r.ae j (i g e),n⟩
theorem vA(hE:∀f,E f->f<b)(he:0 <b)(hs:Y s<=400000):I6 161 #[aq b] (JG A E b s) E P D s ch:=by
 refine⟨Cr func161 (by kernel_rfl) (by kernel_rfl),?_,?_,?_⟩
 ·rintro j S B w w' ⟨rfl,d,c,m,r,u⟩ X;exact⟨rfl,d,c,m,r.ae (X.block _ ((m _).2 (al (O rfl)))),u.ae X.size (λ f i=>X.block _ ((m _).2 (al (al i))))⟩
 ·rintro j S B w ⟨rfl,d,c,m,r,u⟩ f i;exact(m f).2 (O i)
 rintro T j S B kk w h6 ha hc ⟨rfl,d,c,m,r,u⟩ I x hg h1;have h5:0<((s.drop (500*j)).take 500).length:=by rw[zt,zd];omega
 have v:=Bi s j;generalize AZ:(s.drop (500*j)).take 500=part at h5 v ⊢;have h7:(s.take (500*j)).length+Y part=(s.take (500*(j+1))).length:=by rw[<-v,zl]
 have h8:(s.take (500*(j+1))).length<=400000:=by rw[zt];omega
 have h3:byteCells (str part)=UK.cellsOf part:=by unfold byteCells;rw[UK.lF];rfl
 have H:=Src.ofString (P:=prog) (w:=w) underlying9 (str part);rw[UK.eG,h3]at H;have L:(UK.cellsOf part).length=Y part:=UK.bG part;rw[<-L]at H
 obtain⟨k,n,l,z,F,p⟩:=UK.Km (P:=prog) (t:=94) (tx:=9) (ty:=94) underlying94 (i:=t5) rfl rfl rfl (show(1:Nat)<=16 from Z) rfl (vs:=UK.cellsOf (s.take (500*j))) (ao:=d) (c:=c) (by
  rcases u with⟨a,f,y⟩|⟨g,a,f,y⟩
  ·exact O ⟨a,f,y⟩
  exact al ⟨g,a,f⟩) Z H (by rw[UK.bG,L];omega)
 rw[UK.bG,<-ξ,UK.bG,v]at z;rw[<-ξ,v]at F;have Nr:S b:=(m b).2 (al (O rfl));have U2:b<w.1.size:=r.lt
 have hb:b<k:=by
  rcases p with⟨a,_⟩|⟨a,_⟩
  ·rcases u with⟨f,_⟩|⟨g,f,_,y⟩
   ·rw[f]at a;cases a
   rw[f]at a;cases a;exact y
  omega
 have W:S k\/w.1.size<=k:=by
  rcases p with⟨a,_⟩|⟨a,_⟩
  ·exact O ((m k).2 (al (al a)))
  exact al Z
 have M:∀f,f<w.1.size->f≠k->l.1[f]?=w.1[f]?:=λ f i K=>by
  rcases p with⟨_,o⟩|⟨_,o⟩
  ·exact o.block f i K
  exact o.block f i
 have h0:w.1.size<=l.1.size/\k<l.1.size:=⟨by
  rcases p with⟨_,o⟩|⟨_,o⟩
  ·exact o.size
  exact o.size,F.lt⟩
 have J:=I.there;have bc1:ay l b #[ad d (s.take (500*j)).length c]:=r.ae (M b U2 Z)
 have π:PZ (λ f=>(E f\/f=b\/f=k)\/T f) l P D B kk:=by
  have h4:∀f,(E f\/f=b\/f=k)\/T f->(S f\/T f)\/(w.1.size<=f/\f<l.1.size):=λ f i=>by
   rcases i with(i|rfl|rfl)|i
   ·exact O (O ((m f).2 (O i)))
   ·exact O (O Nr)
   ·rcases W with h|h
    ·exact O (O h)
    exact al ⟨h,h0.2⟩
   exact O (al i)
  rcases p with⟨a,o⟩|⟨a,o⟩
  ·exact I.over (R:=λ f=>f=k) (λ f i=>O ((m f).2 (al (al (by rw[i];exact a))))) Z o.size (λ f i K=>o.block f i K) h4
  exact I.wide o h4
 obtain⟨z1,z2,z3⟩:=π.turn (O (al (O rfl))) Z bc1 (ad k (s.take (500*(j+1))).length n);have r2:Row (l.setCell b (ad k (s.take (500*(j+1))).length n)) k n (UK.cellsOf (s.take (500*(j+1)))):=F.only ((Only.refl b l).set 0 _) Z
 have G:∀f,T f->¬(E f\/f=b\/f=k):=λ f i N=>by
  rcases N with N|rfl|rfl
  ·exact x f i ((m f).2 (O N))
  ·exact x f i Nr
  rcases W with h|h
  ·exact x f i h
  have:=J f (al i);omega
 have t:Only b l (l.setCell b (ad k (s.take (500*(j+1))).length n)):=(Only.refl b l).set 0 _
 have Q:l.os=w.os/\l.tape=w.tape/\l.output=w.output:=by
  rcases p with⟨_,o⟩|⟨_,o⟩
  ·exact⟨o.os,o.tape,o.output⟩
  exact⟨o.os,o.tape,o.output⟩
 have kF:Kept (λ f=>E f\/T f) w (l.setCell b (ad k (s.take (500*(j+1))).length n)):=by
  refine⟨t.os.trans Q.1,t.tape.trans Q.2.1,t.output.trans Q.2.2,aT h0.1 t.size,λ f i=>?_⟩
  have h9:f<w.1.size:=by
   rcases i with i|i
   ·exact J f (O ((m f).2 (O i)))
   exact J f (al i)
  have h2:f≠b/\f≠k:=by
   rcases i with i|i
   ·have:=hE f i;exact⟨Z,Z⟩
   exact⟨λ e=>G f i (al (O e)),λ e=>G f i (al (al e))⟩
  exact(t.block f Z h2.1).trans (M f h9 h2.2)
 have H5:Hid (∃(R:Nat->Prop) (C:AP),JG B E b s (j+1) R C (l.setCell b (ad k (s.take (500*(j+1))).length n))/\PZ (λ f=>R f\/T f) (l.setCell b (ad k (s.take (500*(j+1))).length n)) P D C (kk+1)/\(∀f,T f->¬R f)/\(∀q,q∈ch.drop (j+1)->C.Has q)/\C.c=B.c/\Kept (λ f=>E f\/T f) w (l.setCell b (ad k (s.take (500*(j+1))).length n))):=
  ⟨λ f=>E f\/f=b\/f=k,B,⟨rfl,_,n,λ f=>by rw[show aG k f↔f=k from⟨λ e=>by cases e;rfl,λ e=>by rw[e];rfl⟩],z3,al ⟨k,rfl,r2,hb⟩⟩,z1.up Z,G,λ q hq=>h1 q (by
   rw[<-lq]at hq;exact jQ hq),rfl,kF⟩
 have c0:=r.c0;have c1:=bc1.c0;have f1:l.frozen? ⟨b,0,none⟩=false:=bc1.free 0;generalize (s.take (500*j)).length=n0 at z c0 c1;generalize (s.take (500*(j+1))).length=n1 at z H5;clear m r u I x h1 ha AZ H F p M bc1 π z1 z2 z3 r2 G t kF W J v h7 h8 h3 L h5;show Calls prog 161 #[V U h6,a8 (str part),aq b] w _
 go_enter func161,ntmps161
 go_wp2_with (at_builtin;refine UK.jm z rfl rfl rfl rfl rfl ?_)
 go_ret;exact⟨rfl,H5.out⟩
end
theorem tp{src dst e:TypeId}(d:prog.underlying src=some (.slice e))(b:prog.underlying e=some (.int .u8))(hd:prog.underlying dst=some .string)(h:Row W g c (UK.cellsOf l)) :
  (convert src dst (ad g (Y l) c)).run prog W= .ok (a8 (str l)) W:=
 run_convert_bytes_back (P:=prog) W src dst e ⟨g,0,none⟩ c l d b hd (λ j a=>by
  rw[UK.mY,fB,h.holds j (by rw[UK.bG];exact a)];simp[UK.cellsOf,a])
theorem qd.covers{c:Nat->List UInt8}:∀{ch:List Nat} {s:List UInt8},qd c s ch->Y s<=500*Y ch
 | [],s,h=>by rw[show s=[]from h];exact aR _
 | p::b,s,⟨_,_,_,a⟩=>by
  have:=a.covers;rw[zd]at this;rw[dF];omega
section
variable{b:Nat}
theorem HZ.find(h:HZ Fo Co E W P D H k A root pg rp L X)(d:t∈X)(o:k+2<900000000) :
  Calls prog 159 #[aq H,V a7 (bP t:Nat)] W λ e b=>e=aw (a9 #[a8 (str (dx t.s t.ch)),V U 0])/\PZ E b P D A (k+2)/\Kept E W b:=by
 obtain⟨g,j,r⟩:=h.hi.each t d;obtain⟨s,p⟩:=h.hi.slot d;obtain⟨n,l⟩:=h.hi.recs t.pg g;have f:A.Has t.pg:=(h.hi.rF g).1
 have m:t.pg<=60000:=by
  have:=f.2.1;have:=h.pz.qh;omega
 refine(vx h.pz o h.box n l f m (show t.i<256 from Z)).mono ?_;have c:bz (L t.pg) t.i=dx t.s t.ch:=j;rintro e b (⟨a,i,q⟩|⟨a,_⟩)
 ·rw[c]at i;exact⟨i,q⟩
 rw[c]at a;exact absurd a (Qz _ _)
theorem U3(s:List UInt8)(ch:List Nat)(h:Y s<=300):dx s ch=0::s:=by unfold dx;rw[be h]
theorem Gk(h:HZ Fo Co E W P D H k A root pg rp L X)(j:t∈X)(hk:k+(Y t.s+20)<900000000) :
  Calls prog 93 #[aq H,V a7 (bP t:Nat)] W λ e J=>e=aw (a9 #[a8 (str t.s),V U 0])/\PZ E J P D A (k+(Y t.s+20))/\Kept E W J:=by
 have n:=zH (h.find j Z);have T:=zH h;have HT:=zH j;have h1:=(h.hi.each t j).2.2;generalize h5:(bP t:Nat)=id_ at n ⊢;clear h j h5;by_cases y:Y t.s<=300
 ·have o:=U3 t.s t.ch y;rw[o]at n;generalize q:(0:UInt8)::t.s=rec at n;have z:nth rec 0=0:=by rw[<-q];rfl
  have uF:((nth rec 0).toNat:Int)=0:=by rw[z];rfl
  have h6:(0:Int)<Y rec:=by rw[<-q,dF];omega
  have ha:(1:Int)<=Y rec:=Z
  have h3:(rec.take (Y rec)).drop 1=t.s:=by rw[dY,<-q];rfl
  clear o q
  go_enter func93,ntmps93
  go_wp2_with fail
  refine n.out.mono ?_;rintro e i ⟨rfl,l,p⟩;have I:=bg l p;clear n l p;go_wp2;go_ret2;refine⟨?_,I.out.1.up Z,I.out.2⟩;simp only[Ending.returned.injEq,Value.tuple.injEq];simp;rw[<-h3,dY,List.drop_one]
 have o:=Q7 t.s t.ch Z;have z:nth (dx t.s t.ch) 0=1:=by rw[o];rfl
 have uF:((nth (dx t.s t.ch) 0).toNat:Int)=1:=by rw[z];rfl
 have I7:(dx t.s t.ch).length=9:=by rw[o];rfl
 have h6:(0:Int)<(dx t.s t.ch).length:=Z
 have s:=zH y;clear o y I7
 go_enter func93,ntmps93
 go_wp2_with fail
 refine n.out.mono ?_;rintro e i ⟨rfl,l,p⟩;have h:=T.out;have j:=HT.out
 have F:qd A.c t.s t.ch:=by
  have m:qX A.c t:=h.hi.long t j;unfold qX at m;rw[aE s.out]at m;exact m
 have v:Below i i (i.alloc (.cells #[ad none 0 0] 94)):=(aU _ _).alloc (aH _) _;have h4:(i.alloc (.cells #[ad none 0 0] 94)).1.size=i.1.size+1:=by simp
 have R:=ay.new i #[ad none 0 0] 94
 have G:=l.wide v (T:=λ b=>E b\/b=i.1.size) (λ b f=>by
  rcases f with f|f
  ·exact O f
  exact al Z)
 have w:=p.trans (l.kept v)
 have N:JG A E i t.s 0 (λ b=>E b\/b=i.1.size) A (i.alloc (.cells #[ad none 0 0] 94)):=
  ⟨rfl,none,0,λ b=>⟨λ f=>by
   rcases f with f|f
   ·exact O f
   ·exact al (O f),λ f=>by
   rcases f with f|f|f
   ·exact O f
   ·exact al f
   cases f⟩,by rw[Nat.mul_zero,kU];exact R,O ⟨rfl,by rw[Nat.mul_zero,kU];rfl,rfl⟩⟩
 have Q:=zH (ZY (vA (A:=A) (E:=E) (P:=P) (D:=D) (s:=t.s) (ch:=t.ch) (λ b f=>l.there b f) l.tab.lt h1) G Z (h.box.ae (w.block H h.mem)) h.mem F (λ h9 hp=>(h.hi.Ct j hp).1) (by have:=s.out;omega) h1 N);have K:=zH w;clear n l p h j F v h4 R G w N
 go_wp2_with fail
 refine Q.out.mono ?_;rintro e w3 ⟨rfl,h8,B,⟨rfl,d,c,S,u,x⟩,p3,C⟩
 have M:(t.s.take (500*Y t.ch))=t.s:=by
  have m:qX B.c t:=T.out.hi.long t HT.out;unfold qX at m;rw[aE s.out]at m;have:=m.covers;exact fQ this
 rw[M]at u x
 obtain⟨g,rfl,r,_⟩:∃g,d=some ⟨g,0,none⟩/\Row w3 g c (UK.cellsOf t.s)/\i.1.size<g:=by
  rcases x with⟨_,a,_⟩|⟨g,a,b,h2⟩
  ·have h0:=congrArg List.length a;rw[UK.bG,List.length_nil]at h0;have:=s.out;omega
  exact⟨g,a,b,h2⟩
 have c3:=u.c0;have h7:=tp (src:=94) (dst:=9) underlying94 underlying5 underlying9 r;have H3:=bg ((p3.less (T:=E) (λ b f=>(S b).2 (O f))).up (show k+2+(Y t.s+10)<=k+(Y t.s+20) from Z)) (K.out.trans C);clear Q K S u x p3 C r M;go_wp2;go_ret2;exact⟨rfl,H3.out⟩
end
section
variable{hb c1 i:Nat}{L:List (List UInt8)}
def JD(A:AP)(E:Nat->Prop)(P root H hb:Nat)(ch:List Nat)(j:Nat)(S:Nat->Prop)(B:AP)(w:World):Prop:=
 (∀b,S b↔E b)/\A.Reach B/\B.c=A.c/\(∀p,B.Has p↔A.Has p/\p∉ch.take j)/\ay w hb #[aq H]/\ay w H (rG P root)
theorem tU(K:A.Good)(Y:ch.Nodup)(n:E hb)(u:E H):I6 167 #[aq hb] (JD A E P root H hb ch) E P D s ch:=by
 refine⟨Cr func167 (by kernel_rfl) (by kernel_rfl),?_,?_,?_⟩
 ·rintro j S B w w' ⟨a,b,c,d,e,f⟩ v;exact⟨a,b,c,d,e.ae (v.block _ ((a _).2 n)),f.ae (v.block _ ((a _).2 u))⟩
 ·rintro j S B w ⟨a,b,c,d,e,f⟩ q g;exact(a q).2 g
 rintro T j S B kk w p G h0 ⟨a,b,c,d,e,f⟩ C L N r
 have l:ch.drop j=p::ch.drop (j+1):=by
  obtain⟨W,Q⟩:=dz.1 G;rw[jY W,Q]
 have m:B.Has p:=r p (by rw[l];exact bI ..);have t:=(b.good K).give m
 have R:p∉ch.drop (j+1):=by
  have F:(ch.drop j).Nodup:=Y.sublist (List.drop_sublist j ch);rw[l]at F;exact(eD.1 F).1
 have J:ch.take (j+1)=ch.take j++[p]:=by rw[List.take_add_one,G];rfl
 have I:=zH (IA C N p m);have c0:=e.c0;have c1:=f.c0;have X:=bs a b c d e f t;clear C a b c d e f t;show Calls prog 167 #[V U p,a8 (str ((s.drop (500*j)).take 500)),aq hb] w _
 go_enter func167,ntmps167
 go_wp2_with fail
 refine I.out.mono ?_;rintro e Z ⟨rfl,k,h⟩;have M:=bg k h;clear I k h;go_wp2;go_ret;obtain⟨a,b,c,d,e,f,g1,o,g3,g4⟩:=X.out;obtain⟨k,h⟩:=M.out
 refine⟨rfl,S,B.give p,⟨a,b.give m,(AP.kH p).trans c,λ q=>?_,e.ae (h.block _ (O ((a _).2 n))),f.ae (h.block _ (O ((a _).2 u)))⟩,k,L,λ q g=>(o q).2 ⟨r q (by rw[l];exact cK _ g),λ e=>R (e▸g)⟩,AP.kH p,h.mono (λ q g=>by
  rcases g with g|g
  ·exact O ((a q).2 g)
  exact al g)⟩
 rw[o,d,J,dm,bu]
 constructor
 ·rintro⟨⟨x,y⟩,z⟩;exact⟨x,λ i=>i.elim y z⟩
 rintro⟨x,y⟩;exact⟨⟨x,λ i=>y (O i)⟩,λ i=>y (al i)⟩
theorem tl{l:List (List UInt8)}(h:Iw l)(a:l≠[]):0<live l:=by
 rcases h with h|h
 ·exact absurd h a
 have e:=(List.dropLast_concat_getLast a).symm;have c:0<Y l:=List.length_pos_iff.2 a;rw[e,SL.oC]
 have b:l.getLast a≠[]:=by
  rw[List.getLast_eq_getElem];unfold bz at h;rw[fV,bK Z]at h;exact h
 have:live [l.getLast a]=1:=by simp[SL.live,b]
 omega
theorem If(h:PF E W P D (A.keep pg) k f e cap pg true)(r:aO (A.c pg) L)(s:i<Y L)(d:bz L i≠[]) :
  Calls prog 171 #[ad e 504 cap,V U i] W λ c a=>c=aw (a6 true)/\(∃z,aO z (trim (L.set i []))/\Y z=504/\PF E a P D (A.ax pg z) k f e cap pg true)/\Kept E W a:=by
 obtain⟨y,j,m,b,t,u⟩:=h.bytes;have b:y.take 504=A.c pg:=b;refine(SL.Bc e y L cap i W j (r.oz Z b) s d).mono ?_;rintro c a ⟨q,⟨z,z1,n,g⟩,o⟩;obtain⟨p,l⟩:=h.write o z1 (g.trans m);exact⟨q,⟨z.take 504,n.cut,by rw[zt];omega,p⟩,l⟩
theorem DW(w:PF E W P D A k f e cap pg false)(hk:k<900000000)(M:aO (A.c pg) L)(hp:pg<=60000)(h2:i<256)(hi:i<Y L)(I:bz L i≠[])(b1:ay W c1 #[V a7 ((pg*256+i:Nat):Int)])(p:ay W c2 #[h])(h1:E c1)(B:E c2)(t2:0 ≠c2) :
  Calls prog 170 #[aq f,aq c1,aq c2] W λ g l=>g=aw (V U 0)/\(∃z,aO z (trim (L.set i []))/\Y z=504/\PF E l P D (A.ax pg z) (k+1) f e cap pg true)/\ay l c2 #[V U (live (trim (L.set i [])):Nat)]/\Kept (λ j=>E j/\j≠c2) W l:=by
 have v:Below W W W.drew:=(aU _ _).drew;have h3:=Q6 pg i hp h2;have Kl:Hid (IntKind.i64.wrap (i:Int)=(i:Int)):=by show _=_;rw[dM];omega
 generalize hn:pg*256+i=n at h3 b1;have Q:=w.next v;have r:=w.kept v;have d1:=b1.drew.c0;have R:=zH ((zi Q hk).mono (R':=λ g l=>g=aw (ad e 504 cap)/\l.cell? c1=some (V a7 (n:Int))/\PF E l P D (A.keep pg) (k+1) f e cap pg true/\Kept E W.drew l) (λ _ _ ⟨a,h0,c⟩=>⟨a,(b1.drew.ae (c.block _ h1)).cell 0 _ rfl,h0,c⟩));have H:=bg p.drew r;have x:=bm M hi I;clear w Q r b1 p v M I
 go_enter func170,ntmps170
 go_wp2_with fail
 go_region_with (first
  | (go_at_call 64;refine R.out.mono ?_;rintro g w3 ⟨rfl,d3,u,m⟩;replace u:=zH u;replace m:=zH m)
  | (go_at_call 171;rw[Kl.out];refine(If u.out x.out.1 x.out.2.1 x.out.2.2).mono ?_;rintro g w4 ⟨rfl,s,d⟩;replace s:=zH s;replace d:=zH d))
 all_goals
  obtain⟨z,z1,q,b⟩:=s.out;have K:=zH (AB b);have HZ1:=bm z1 q b;obtain⟨p,r⟩:=H.out;have o:=(p.ae (m.out.block _ B)).ae (d.out.block _ B);have F:=bg o ((r.trans m.out).trans d.out);clear R H u m s d z1 q b p r o d1 d3
  go_wp2_with fail
  refine K.out.mono ?_;rintro g w5 ⟨rfl,rfl⟩;obtain⟨z1,q,b⟩:=HZ1.out;obtain⟨y,G,y2,X,y4,y5⟩:=b.bytes;have S:y.take 504=z:=X.trans (by rw[AP.aL,be rfl]);have O:=zH (SL.Bd e y _ cap w5 G (z1.oz Z S));clear K G y2 X S y5
  go_wp2_with fail
  refine O.out.mono ?_;rintro g w6 ⟨rfl,bl⟩;obtain⟨o,d⟩:=F.out;have t:=o.next bl;obtain⟨N,J,T⟩:=(b.next bl).uD B t2 t (V U (live (trim (L.set i [])):Nat));have c6:=t.c0;have f6:w6.frozen? ⟨c2,0,none⟩=false:=t.free 0;have C:=bm N T (((d.trans (b.kept bl)).mono (T:=λ j=>E j/\j≠c2) (λ _ (hj:E _/\_)=>hj.1)).trans J);clear O F b o d t N J T bl;go_wp2;go_ret;obtain⟨z1,q,_⟩:=HZ1.out;exact⟨rfl,⟨z,z1,q,C.out.1⟩,C.out.2.1,C.out.2.2⟩
end
theorem Iw.trim(l:List (List UInt8)):Iw (SL.trim l):=SL.rP l
section
variable{B C:AP}
def zp(Fo:Nat->Prop)(Co:Nat->List UInt8)(E:Nat->Prop)(W W':World)(P D H k:Nat)(A:AP)(root pg:Nat)(t:HT)(X:List HT)(e:Ending):Prop:=
 ∃B rp' a,e=aw (V U 0)/\HZ Fo Co E W' P D H (k+(Y t.s+40)) B root pg rp' a X/\A.Reach B/\Kept E W W'
theorem ψ(h:HI (A.fJ Fo) root pg rp L (t::X))(b:B.c=A.c)(e:∀p,B.Has p↔A.Has p/\p∉t.ch)(g:aO z (trim ((L t.pg).set t.i [])))(i:t.pg≠pg->trim ((L t.pg).set t.i [])≠[]) :
  HI (((B.ax t.pg z).ax root (lG ((B.ax t.pg z).c root) pg (Y X))).fJ Fo) root pg rp (λ p=>if p=t.pg then trim ((L t.pg).set t.i []) else L p) X:=by
 obtain⟨c,_,_⟩:=h.each t (bI ..);have a:t.pg≠root:=(h.eH c).2;refine h.drop (B:=(((B.ax t.pg z).ax root (lG ((B.ax t.pg z).c root) pg (Y X))).fJ Fo)) (y:=z) (λ p=>?_) g i ?_ ?_ (λ p _ f d=>?_)
 ·show((B.ax t.pg z).ax root _).Has p/\¬Fo p↔(A.Has p/\¬Fo p)/\p∉t.ch;rw[AP.aC,AP.aC,e p,and_right_comm]
 ·show((B.ax t.pg z).ax root _).c t.pg=z;rw[AP.aL,aE (dJ a),AP.aL,be rfl]
 ·show((B.ax t.pg z).ax root _).c root=_;rw[AP.aL,be rfl,AP.aL,aE a,b];rfl
 show((B.ax t.pg z).ax root _).c p=A.c p;rw[AP.aL,aE (dJ d),AP.aL,aE (dJ f),b]
theorem Gz(h:HI (A.fJ Fo) root pg rp L (t::X))(j:B.c=A.c)(g:∀p,B.Has p↔A.Has p/\p∉t.ch)(o:B.Good)(k:t.pg≠pg)(r:trim ((L t.pg).set t.i [])=[]) :
  HI ((((B.ax t.pg z).give t.pg).ax root (lG (((B.ax t.pg z).give t.pg).c root) pg (Y X))).fJ Fo) root pg (rp.erase t.pg) L X:=by
 obtain⟨e,_,_⟩:=h.each t (bI ..);have q:t.pg≠root:=(h.eH e).2;have s:B.Has t.pg:=(g _).2 ⟨(h.rF e).1,λ l=>(h.Ct (bI ..) l).2.2 e⟩;obtain⟨_,i,_,_⟩:=(o.ax t.pg z).give (AP.aC.2 s);refine h.AU (B:=((((B.ax t.pg z).give t.pg).ax root (lG (((B.ax t.pg z).give t.pg).c root) pg (Y X))).fJ Fo)) (λ p=>?_) k r ?_ (λ p m n=>?_)
 ·show(((B.ax t.pg z).give t.pg).ax root _).Has p/\¬Fo p↔(A.Has p/\¬Fo p)/\p∉t.ch/\p≠t.pg;rw[AP.aC,i,AP.aC,g];exact⟨λ ⟨⟨⟨a,d⟩,b⟩,c⟩=>⟨⟨a,c⟩,d,b⟩,λ ⟨⟨a,c⟩,d,b⟩=>⟨⟨⟨a,d⟩,b⟩,c⟩⟩
 ·show(((B.ax t.pg z).give t.pg).ax root _).c root=_;rw[AP.aL,be rfl,AP.kH,AP.aL,aE q,j];rfl
 have f:(((B.ax t.pg z).give t.pg).ax root (lG (((B.ax t.pg z).give t.pg).c root) pg (Y X))).Has p:=m.1;rw[AP.aC,i]at f;show(((B.ax t.pg z).give t.pg).ax root _).c p=A.c p;rw[AP.aL,aE (dJ n),AP.kH,AP.aL,aE (dJ f.2),j]
theorem Tm(h:HZ Fo Co E W P D H k A root pg rp L (t::X))(hk:k+(Y t.s+40)<900000000) :
  Calls prog 103 #[aq H,V a7 (bP t:Nat)] W λ r w'=>zp Fo Co E W w' P D H k A root pg t X r:=by
 have ht:=h.pz.tab.lt;have h7:=h.pz.there;obtain⟨hp,x2,x0⟩:=h.hi.each t (bI ..);have kI:A.Has t.pg:=(h.hi.rF hp).1
 have Bb:t.pg<=60000:=by
  have:=kI.2.1;have:=h.pz.qh;omega
 have hi:=h.hi.slot (bI (a:=t) (l:=X));have a1:Below W W (W.alloc (.cells #[aq H] 82)):=(aU _ _).alloc (aH _) _;have h5:(W.alloc (.cells #[aq H] 82)).1.size=W.1.size+1:=by simp
 have x:=ay.new W #[aq H] 82;generalize fO:W.alloc (.cells #[aq H] 82)=wa at a1 h5 x;have a2:=a1.alloc Z (.cells #[V a7 ((bP t:Nat):Int)] 77);have hg:(wa.alloc (.cells #[V a7 ((bP t:Nat):Int)] 77)).1.size=W.1.size+2:=by simp[h5]
 have C:=ay.new wa #[V a7 ((bP t:Nat):Int)] 77;rw[h5]at C;have lT:=x.alloc (.cells #[V a7 ((bP t:Nat):Int)] 77);generalize hx:wa.alloc (.cells #[V a7 ((bP t:Nat):Int)] 77)=wc at a2 hg C lT
 have ve:Hid ((W.alloc (.cells #[aq H] 82)).alloc (.cells #[V a7 ((bP t:Nat):Int)] 77)=wc):=by
  show _=_;rw[fO,hx]
 have c:HZ Fo Co (λ j=>E j\/j=W.1.size\/j=W.1.size+1) wc P D H k A root pg rp L (t::X):=⟨h.pz.wide a2 (λ j b=>by
  rcases b with b|b|b
  ·exact O b
  ·exact al Z
  exact al Z),h.good,h.box.below a2 h.box.lt,O h.mem,h.hi,h.few,h.far⟩
 have M:Kept E W wc:=h.pz.kept a2;have HF:=zH (c.find (bI ..) Z);have HZ2:=bp c M lT C;have HN:=bp Bb hi h7 ht;have I5:Hid (((bP t:Nat):Int)/256=(t.pg:Int)):=by show _=_;unfold bP;omega
 have Ns:Hid ((bP t:Nat)=t.pg*256+t.i):=rfl;have a:=zH h;clear h x lT C a1 a2 h5 hg fO hx h7 ht c M hp x2 kI Bb hi;generalize (bP t:Nat)=n at ve HF HZ2 I5 Ns ⊢
 have aD:300<Y t.s->qd A.c t.s t.ch:=λ hs=>by
  have h1:qX A.c t:=a.out.hi.long t (bI ..);unfold qX at h1;rw[aE Z]at h1;exact h1
 have hv:Y t.s<=300->t.ch=[]:=λ hs=>by
  have h1:qX A.c t:=a.out.hi.long t (bI ..);unfold qX at h1;rw[be hs]at h1;exact h1
 have xc:Y X<=1000000:=by have:=a.out.few;rw[dF]at this;omega
 have Q9:=bg aD hv;clear aD hv;by_cases hs:Y t.s<=300
 all_goals
  (first|(have h2:=U3 t.s t.ch hs;have h6:nth (dx t.s t.ch) 0=0:=(by rw[h2];rfl);have uF:((nth (dx t.s t.ch) 0).toNat:Int)=0:=(by rw[h6];rfl);have h8:(0:Int)<(dx t.s t.ch).length:=(by rw[h2,dF];omega);have q:=zH hs;clear h2 hs;generalize dx t.s t.ch=rec at HF h6 uF h8;go_enter func103,ntmps103;go_wp2_with fail;rw[ve.out];refine HF.out.mono ?_;rintro r w4 ⟨rfl,p3,k3⟩;obtain⟨B,hm,hr,hj,hu⟩:∃B:AP,PZ (λ j=>E j\/j=W.1.size\/j=W.1.size+1) w4 P D B (k+2+(Y t.s+10))/\A.Reach B/\B.c=A.c/\(∀p,B.Has p↔A.Has p/\p∉t.ch):=⟨A,p3.up Z,AP.Reach.refl A,rfl,λ p=>by rw[Q9.out.2 q.out];simp⟩;have S:=br hm hr hj hu k3;clear hm hr hj hu;clear HF p3 k3 q Q9)|(have h2:=Q7 t.s t.ch Z;have h6:nth (dx t.s t.ch) 0=1:=(by rw[h2];rfl);have uF:((nth (dx t.s t.ch) 0).toNat:Int)=1:=(by rw[h6];rfl);have h8:(0:Int)<(dx t.s t.ch).length:=(by rw[h2];show(0:Int)<((9:Nat):Int);decide);have q:=zH (show 300<Y t.s from Z);clear h2 hs;go_enter func103,ntmps103;go_wp2_with fail;rw[ve.out];refine HF.out.mono ?_;rintro r w3 ⟨rfl,p3,k3⟩;obtain⟨c,M,x,C⟩:=HZ2.out;have l:=x.ae (k3.block _ (al (O rfl)));have s:=c.box.ae (k3.block _ c.mem);have e1:=l.c0;have ho:t.ch.Nodup:=(by have h0:=(bN.1 (eD.1 c.hi.pages).2).2.1;rw[Cg]at h0;exact(bN.1 h0).1);have HW:=zH (ZY (tU (E:=λ j=>E j\/j=W.1.size\/j=W.1.size+1) (H:=H) (hb:=W.1.size) (P:=P) (root:=root) (D:=D) (s:=t.s) c.good ho (al (O rfl)) c.mem) p3 Z s c.mem (Q9.out.1 q.out) (λ p K=>(c.hi.Ct (bI ..) K).1) q.out x0 (show JD A (λ j=>E j\/j=W.1.size\/j=W.1.size+1) P root H W t.ch 0 _ A w3 from⟨λ ha=>Iff.rfl,AP.Reach.refl A,rfl,λ p=>by simp,l,s⟩));have K3:=zH k3;clear HF p3 k3 c M x C l s ho Q9;go_wp2_with fail;refine HW.out.mono ?_;rintro r w4 ⟨rfl,x9,B,⟨hS,r1,r2,r3,r4,r5⟩,p4,k4⟩;rw[dY]at r3;have S:=br (p4.less (T:=λ j=>E j\/j=W.1.size\/j=W.1.size+1) (λ ha d=>(hS ha).2 d)) r1 r2 r3 (K3.out.trans k4);clear HW K3 hS r1 r2 r3 r4 r5 p4 k4 q e1))
  obtain⟨Q,o,m,d,G⟩:=S.out;obtain⟨c,M,x,C⟩:=HZ2.out;have l:=x.ae (G.block _ (al (O rfl)));have s:=c.box.ae (G.block _ c.mem);have e1:=l.c0;have hl:=(d root).2 ⟨c.hi.jR,λ g=>(c.hi.Ct (bI ..) g).2.1 rfl⟩;obtain⟨Ni,wd2⟩:=c.hi.words c.good c.few;have h9:=ZF Q Z s hl;rw[m,Ni,wd2,show((t::X).length:Int)=(Y X:Int)+1 from by rw[dF];omega]at h9;have HST:=zH h9;clear Q o m d G c M x C l s hl Ni wd2 h9
  go_wp2_with fail
  refine HST.out.mono ?_;rintro r I ⟨rfl,p5,k5⟩;obtain⟨Q,o,m,d,G⟩:=S.out;obtain⟨c,M,x,C⟩:=HZ2.out;have Cv:=G.trans k5;have l:=x.ae (Cv.block _ (al (O rfl)));have IB:=C.ae (Cv.block _ (al (al rfl)));have s:=c.box.ae (Cv.block _ c.mem);have T:Below I I (I.alloc (.cells #[V U 0] 3)):=(aU _ _).alloc (aH _) _;have x4:(I.alloc (.cells #[V U 0] 3)).1.size=I.1.size+1:=by simp
  have x5:=ay.new I #[V U 0] 3;have e5:=(l.next T).c0;have e6:=(s.next T).c0;have e7:=IB.c0
  have p6:=p5.wide T (T:=λ j=>(E j\/j=W.1.size\/j=W.1.size+1)\/j=I.1.size) (λ j b=>by
   rcases b with b|b
   ·exact O b
   exact al Z)
  have xe:=I5.out;obtain⟨Bb,⟨x1,xd⟩,h7,x6⟩:=HN.out;have h3:=c.hi.each t (bI ..);have kI:A.Has t.pg:=(c.hi.rF h3.1).1;have F:=(d t.pg).2 ⟨kI,λ g=>(c.hi.Ct (bI ..) g).2.2 h3.1⟩;have i:aO (B.c t.pg) (L t.pg):=by rw[m];exact(c.hi.recs t.pg h3.1).1
  have hb:bz (L t.pg) t.i≠[]:=by rw[h3.2.1];exact FU t
  have Nt:=Ns.out
  have HW:=zH (FR (N:=170) (mH:= #[aq (some ⟨W.1.size+1,0,none⟩),aq I]) (F:=λ j=>E j\/j=W.1.size\/j=W.1.size+1)
   (R:=λ A' k' hh w'=>∃z,aO z (trim ((L t.pg).set t.i []))/\Y z=504/\A'=B.ax t.pg z/\k'=k+2+(Y t.s+10)+2+3/\hh=0/\ay w' I #[V U (live (trim ((L t.pg).set t.i [])):Nat)])
   (Cr func170 (by kernel_rfl) (by kernel_rfl)) p6 Z F (λ j b=>O b) (λ f e cap w mr hc=>by
    have y2:=(IB.next T).ae (hc.block _ (O (al (al rfl))));rw[Nt]at y2;refine(DW mr Z i Bb Z x1 hb y2 (x5.ae (hc.block _ (al rfl))) (O (al (al rfl))) (al rfl) (by have:=Cv.size;have:=M.size;omega)).mono ?_;rintro r w' ⟨he,⟨z,z1,z2,q1⟩,q2,q3⟩
    exact⟨0,_,_,true,he,q1,q3.mono (λ j b=>⟨O b,by
     have:=p5.there j b;omega⟩),z,z1,z2,rfl,rfl,rfl,q2⟩))
  have H5:=bp (M.trans ((Cv.trans (p5.kept T)).mono (λ j b=>O b))) (l.next T) (s.next T) F;clear HST p5 k5 Q o m d G c M x C Cv l IB s T x4 x5 p6 h7 h3 kI F i hb Nt
  go_wp2_with fail
  refine HW.out.mono ?_;rintro r w7 ⟨hh,A',k',w6,rfl,⟨z,z1,z2,rfl,rfl,rfl,bl⟩,p7,k7,y⟩;have d7:w7.cell? I.1.size=some (V U (live (trim ((L t.pg).set t.i [])):Nat)):=(bl.ae (k7.block _ (al rfl))).cell 0 _ rfl;obtain⟨kA,l,s,F⟩:=H5.out;have N:=kA.trans (y.mono (λ j b=>O b));have x7:w7.cell? W.1.size=some (aq H):=(l.ae (y.block _ (al (O rfl)))).cell 0 _ rfl;have J:=s.ae (y.block _ (O a.out.mem));have xb:=J.c0;have i:=(S.out.2.2.2.1 root).2 ⟨a.out.hi.jR,λ g=>(a.out.hi.Ct (bI ..) g).2.1 rfl⟩;by_cases he:trim ((L t.pg).set t.i [])=[]
  ·have h8:live (trim ((L t.pg).set t.i []))=0:=by rw[he];rfl
   rw[h8]at d7;replace d7:w7.cell? I.1.size=some (V U 0):=d7;by_cases hq:t.pg=pg
   ·have hy:((t.pg:Int) !=(pg:Int))=false:=by rw[hq];simp
    have x3:(t.pg:Int)=(pg:Int):=by rw[hq]
    have q:=zH (MU p7 Z J (AP.aC.2 i) pg (Y X));have K7:=zH N;clear HW H5 p7 k7 y bl kA l s J i N
    go_wp2_with fail
    refine q.out.mono ?_;rintro r w9 ⟨rfl,v,u⟩;have H9:=bg v u;clear q v u;go_wp2;go_ret;obtain⟨Q,o,m,d,G⟩:=S.out;obtain⟨v,u⟩:=H9.out;have i:=(d root).2 ⟨a.out.hi.jR,λ g=>(a.out.hi.Ct (bI ..) g).2.1 rfl⟩;have qi:=(o.ax F z).ax (AP.aC.2 i) (lG ((B.ax t.pg z).c root) pg (Y X));have R:=K7.out.trans (u.mono (λ j b=>O (O b)));exact⟨_,rp,_,rfl,⟨(v.less (λ j b=>O (O b))).up Z,qi.good a.out.good,a.out.box.ae (R.block H a.out.mem),a.out.mem,ψ a.out.hi m d z1 (λ hn=>absurd hq hn),by have:=a.out.few;rw[dF]at this;omega,((a.out.far.like m (λ p K=>(d p).2 ⟨(a.out.far p K).1,λ g=>a.out.hi.Ur (bI ..) g K⟩)).ax (a.out.hi.Kj (a.out.hi.each t (bI ..)).1) _).ax a.out.hi.uC _⟩,qi,R⟩
   have hy:((t.pg:Int) !=(pg:Int))=true:=by simp;omega
   have x3:¬(t.pg:Int)=(pg:Int):=Z
   have HG:=zH (IA p7 Z t.pg (AP.aC.2 F));have K7:=bp N J (l.ae (y.block _ (al (O rfl)))) i;clear HW H5 p7 k7 y bl kA l s J i N
   go_wp2_with fail
   refine HG.out.mono ?_;rintro r w8 ⟨rfl,p8,y⟩;obtain⟨N,J,ω,i⟩:=K7.out;obtain⟨Q,o,m,d,G⟩:=S.out;obtain⟨g1,g2,_,_⟩:=((o.good a.out.good).ax t.pg z).give (AP.aC.2 F);have h4:root≠t.pg:=λ r=>(a.out.hi.rF (a.out.hi.each t (bI ..)).1).2 r.symm;have QA:=(g2 root).2 ⟨AP.aC.2 i,h4⟩;have hw:=J.ae (y.block _ (O (O a.out.mem)));have xf:w8.cell? W.1.size=some (aq H):=(ω.ae (y.block _ (O (al (O rfl))))).cell 0 _ rfl;have q:=zH (MU p8 Z hw QA pg (Y X));have K8:=zH (N.trans (y.mono (λ j b=>O (O b))));clear HG K7 p8 y N J ω i Q o m d G g1 g2 h4 QA hw
   go_wp2_with fail
   refine q.out.mono ?_;rintro r w9 ⟨rfl,v,u⟩;have H9:=bg v u;clear q v u;go_wp2;go_ret;obtain⟨Q,o,m,d,G⟩:=S.out;obtain⟨v,u⟩:=H9.out;have i:=(d root).2 ⟨a.out.hi.jR,λ g=>(a.out.hi.Ct (bI ..) g).2.1 rfl⟩;obtain⟨g1,g2,_,_⟩:=((o.good a.out.good).ax t.pg z).give (AP.aC.2 F);have h4:root≠t.pg:=λ r=>(a.out.hi.rF (a.out.hi.each t (bI ..)).1).2 r.symm;have QA:=(g2 root).2 ⟨AP.aC.2 i,h4⟩;have qi:=((o.ax F z).give (AP.aC.2 F)).ax QA (lG (((B.ax t.pg z).give t.pg).c root) pg (Y X));have R:=K8.out.trans (u.mono (λ j b=>O (O b)));exact⟨_,rp.erase t.pg,_,rfl,⟨(v.less (λ j b=>O (O b))).up Z,qi.good a.out.good,a.out.box.ae (R.block H a.out.mem),a.out.mem,Gz a.out.hi m d (o.good a.out.good) hq he,by have:=a.out.few;rw[dF]at this;omega,(((a.out.far.like m (λ p K=>(d p).2 ⟨(a.out.far p K).1,λ g=>a.out.hi.Ur (bI ..) g K⟩)).ax (a.out.hi.Kj (a.out.hi.each t (bI ..)).1) _).give ((o.good a.out.good).ax _ _) (AP.aC.2 ((d _).2 ⟨(a.out.hi.rF (a.out.hi.each t (bI ..)).1).1,λ g=>(a.out.hi.Ct (bI ..) g).2.2 (a.out.hi.each t (bI ..)).1⟩)) (a.out.hi.Kj (a.out.hi.each t (bI ..)).1)).ax a.out.hi.uC _⟩,qi,R⟩
  have hz:0<live (trim ((L t.pg).set t.i [])):=tl (Iw.trim _) he;generalize live (trim ((L t.pg).set t.i []))=lv at d7 hz bl;have x8:((lv:Int)==0)=false:=by simp;omega
  have xa:¬(lv:Int)=0:=Z
  have q:=zH (MU p7 Z J (AP.aC.2 i) pg (Y X));have K7:=zH N;clear HW H5 p7 k7 y bl kA l s J i N
  go_wp2_with fail
  refine q.out.mono ?_;rintro r w9 ⟨rfl,v,u⟩;have H9:=bg v u;clear q v u;go_wp2;go_ret;obtain⟨Q,o,m,d,G⟩:=S.out;obtain⟨v,u⟩:=H9.out;have i:=(d root).2 ⟨a.out.hi.jR,λ g=>(a.out.hi.Ct (bI ..) g).2.1 rfl⟩;have qi:=(o.ax F z).ax (AP.aC.2 i) (lG ((B.ax t.pg z).c root) pg (Y X));have R:=K7.out.trans (u.mono (λ j b=>O (O b)));exact⟨_,rp,_,rfl,⟨(v.less (λ j b=>O (O b))).up Z,qi.good a.out.good,a.out.box.ae (R.block H a.out.mem),a.out.mem,ψ a.out.hi m d z1 (λ _=>he),by have:=a.out.few;rw[dF]at this;omega,((a.out.far.like m (λ p K=>(d p).2 ⟨(a.out.far p K).1,λ g=>a.out.hi.Ur (bI ..) g K⟩)).ax (a.out.hi.Kj (a.out.hi.each t (bI ..)).1) _).ax a.out.hi.uC _⟩,qi,R⟩
end
