/- Facts on texts and trees on pages. -/
import Derived.Test.YtgpmiliahonaoaaGreatDoorKDrBc
set_option maxRecDepth 100000
set_option maxHeartbeats 8000000
set_option linter.unusedSimpArgs false
namespace Go.Proofs.YtgpmiliahonaoaaGreatDoor
open Go.RowKit Go.BigFrame
open UK (str aF nth Only Row ay w32)
open DP (Rc dF bf lg dU fC jH TH bO bX gF share ng gI qG)
def nM(X:List dF):List Nat:=X.flatMap λ x=>x.2.flatMap Rc.nR
theorem Ve{s:List UInt8}{n:Nat}(h:s.length<=500*n):wS s<=n+1:=by
 unfold wS wT
 split
 ·omega
 split<;>omega
theorem Vf{l:List KV}{F:Nat->List UInt8}{c:Nat}(h:∀y∈l,wS (F y.1.toNat)<=c):tot l F<=c*l.length:=by
 unfold tot
 induction l with
 | nil=>exact aY _
 | cons y l ih=>
  have h1:=ih (λ z hz=>h z (cu _ hz));have h2:=h y (aT ..);rw[je,List.sum_cons,dn,Nat.mul_succ];omega
section
variable{A:AP}{ex:List Nat}{X X':List dF}{S:List Nat}{s:List UInt8}{m M:Nat}
theorem ybs{k:Nat}(h:fX X k≠[]):k∈X.map (·.1):=by
 by_cases hx:∃x∈X,x.1=k
 ·obtain⟨x,hx,e⟩:=hx;exact bQ.2 ⟨x,hx,e⟩
 exact absurd (by
  show vW (ng X k)=[];rw[DP.qH (λ x hx2 e=>hx ⟨x,hx2,e⟩)];rfl) h
theorem Vg{b:Nat}(h:fC (gF b X)≠[]):b∈nM X:=by
 have h1:gF b X≠[]:=λ e=>h (by rw[e];rfl);obtain⟨y,hy⟩:=qW _ h1;obtain⟨x,hx,hs,_⟩:=DP.gV.1 hy;obtain⟨q,hq,hb⟩:=M3.1 hs;exact List.mem_flatMap.2 ⟨x,hx,List.mem_flatMap.2 ⟨q,hq,hb⟩⟩
theorem xw5{b:Nat}(h:iw X X' S b≠[]):b∈nM (X++X'):=by
 unfold iw at h;unfold nM;rw[List.flatMap_append,dD]
 split at h
 ·exact .inr (Vg h)
 exact .inl (Vg h)
theorem xz0(h:uk A ex (fX X) (iw X X' S) s)(hX:oq X)(nL:oq X')(hs:s.length<=4000)(hop:A.op=none)(hM:A.aC=M)(hm:(nM (X++X')).length<=m)(hn:14*(8*m+X.length+ex.length+33)+X.length+m+28<14*M):False:=by
 obtain⟨B1,l1,l2,h1,h2,r1,r2,k1,k2,h7⟩:=h;have h7:=h7 hop
 have a1:=(Mv r1).length_le_of_subset (l₂:=X.map (·.1)) (λ k hk=>by
  obtain⟨y,hy,rfl⟩:=bQ.1 hk;exact ybs (k1 y hy))
 have a2:=(Mv r2).length_le_of_subset (l₂:=nM (X++X')) (λ k hk=>by
  obtain⟨y,hy,rfl⟩:=bQ.1 hk;exact xw5 (k2 y hy))
 have t1:=Vf (l:=l1) (F:=fX X) (c:=1) (λ y _=>by
  have:=M0 (Mx hX y.1.toNat).1 (Mx hX y.1.toNat).2;show wS (vW (ng X y.1.toNat))<=1;unfold wS wT
  split
  ·omega
  rw[if_pos (by omega)];omega)
 have t2:=Vf (l:=l2) (F:=iw X X' S) (c:=8) (λ y _=>by
  refine Ve (n:=7) ?_;unfold iw
  split
  ·have:=ED nL y.1.toNat;omega
  have:=ED hX y.1.toNat;omega)
 have t3:=Ve (n:=8) (s:=s) (by omega);rw[df,df]at a1;rw[df]at a2;rw[hM]at h7;have h8:8*l2.length<=8*m:=Nat.mul_le_mul_left 8 (aP a2 hm);rcases h2 with h2|h2<;>omega
end
def DS(E:Nat->Prop)(W:World)(P D Dp T1 T2 H k:Nat)(M:Nat)(X:List dF):Prop:=
 ∃A Ec,DZ E W P D Dp T1 T2 H k A 4 1 2 3/\DI A [4] Ec 1 2 3 (fX X) (gX X)/\A.op=none/\A.aC=(M:Int)
section
variable{E:Nat->Prop}{W W':World}{P D Dp T1 T2 H k a b rc m M:Nat}{X:List dF}{rl:List Rc}{ro:Option Addr}
theorem DS.up{K:Nat}(h:DS E W P D Dp T1 T2 H k M X)(hk:k<=K):DS E W P D Dp T1 T2 H K M X:=by
 obtain⟨A,Ec,a,b,c,d⟩:=h;exact⟨A,Ec,a.up hk,b,c,d⟩
theorem DS.wide(h:DS E W P D Dp T1 T2 H k M X)(hb:Below W W W'){T:Nat->Prop}(hT:∀j,T j->E j\/(W.heap.size<=j/\j<W'.heap.size))(hE:∀j,E j->T j):DS T W' P D Dp T1 T2 H k M X:=by
 obtain⟨A,Ec,a,b,c,d⟩:=h;exact⟨A,Ec,a.wide hb hT hE,b,c,d⟩
theorem DS.next(h:DS E W P D Dp T1 T2 H k M X)(hb:Below W W W'):DS E W' P D Dp T1 T2 H k M X:=by
 obtain⟨A,Ec,a,b,c,d⟩:=h;exact⟨A,Ec,a.next hb,b,c,d⟩
theorem DS.kept(h:DS E W P D Dp T1 T2 H k M X)(hb:Below W W W'):Kept E W W':=by
 obtain⟨A,Ec,a,b,c,d⟩:=h;exact a.pz.kept hb
theorem ME(h:DS E W P D Dp T1 T2 H k M X)(hX:oq X)(hf:X.length<=39)(hM:M<=3900)(ha:a<100000)(hb:b<100000)(hr:RX W ro rc rl)(hre:∀j,aK ro j->E j)(hok:∀q∈rl,q.ok)(hn:rl.length<=8)(hk:k+13000000<900000000)(hm:(nM (X++bf (bX a b) rl X)).length<=m)(aah:14*(8*m+X.length+34)+X.length+m+28<14*M) :
  Calls Tryz.prog 11 #[.pointer Dp,.agg #[.int .i64 a,.int .i64 b],.slice ro rl.length rc] W λ e w'=>e= .returned (.int .i64 0)/\DS E w' P D Dp T1 T2 H (k+13000000) M (bf (bX a b) rl X)/\Kept E W w':=by
 obtain⟨A,Ec,hz,di,hop,hmo⟩:=h;refine(xw3 hz di (by rw[hmo];omega) hX hf ha hb hr hre hok hn hk).mono ?_;rintro e w' ⟨er,rfl,(⟨rfl,B,dB,rB,pB,kB⟩|⟨rfl,C,B,S,s,hl,hs,rC,rB,pB,kB⟩)⟩
 ·exact⟨rfl,⟨B,Ec,hz.of pB kB,dB,rB.yx hop,rB.qo.trans hmo⟩,kB⟩
 exact(xz0 (M:=M) (m:=m) hl hX (hX.put (by unfold bX;omega) hok hn hf) hs (rC.yx hop) (rC.qo.trans hmo) hm (by show 14*(8*m+X.length+1+33)+X.length+m+28<14*M;omega)).elim
theorem PT(h:DS E W P D Dp T1 T2 H k M X)(hX:oq X)(ha:a<100000)(hb:b<100000)(hk:k+20000<900000000) :
  Calls Tryz.prog 13 #[.pointer Dp,.agg #[.int .i64 a,.int .i64 b]] W λ e w'=>∃ao c,e= .returned (.tuple #[.slice ao (gI a b X).length c,.int .i64 0])/\CX w' ao c ((gI a b X).map λ x=>l5 x.1)/\(∀j,aK ao j->W.heap.size<=j)/\DS (λ j=>E j\/aK ao j) w' P D Dp T1 T2 H (k+20000) M X/\Kept E W w':=by
 obtain⟨A,Ec,hz,di,hop,hmo⟩:=h;refine(xny hz di hX ha hb hk).mono ?_;rintro e w' ⟨ao,c,rfl,h1,h2,pB,kB⟩;exact⟨ao,c,rfl,h1,h2,⟨A,Ec,⟨pB,hz.bd.ae (kB.block Dp hz.md),.inl hz.md,hz.b1.ae (kB.block T1 hz.m1),.inl hz.m1,hz.b2.ae (kB.block T2 hz.m2),.inl hz.m2,hz.bh.ae (kB.block H hz.mh),.inl hz.mh⟩,di,hop,hmo⟩,kB⟩
theorem MF:oq []:=⟨⟨List.Pairwise.nil,λ x hx=>(by cases hx),λ x hx=>(by cases hx),aY _⟩,aY _,λ x hx=>(by cases hx),λ x hx=>(by cases hx)⟩
end
theorem Vh(W:World)(ht:kD W)(S:Nat->Prop)(hS:∀j,S j->j<W.heap.size)(M fr:Nat)(hM:pF (M:Int)=(M:Int))(h6:6<=M)(hM2:M<=60000)(hfr:1<=fr/\fr<=1000) :
  Calls Tryz.prog 10 #[.int .i64 M,.int .i64 fr] W λ e w'=>∃P D Dp T1 T2 H,e= .returned (.tuple #[.pointer (some ⟨P,0,none⟩),.pointer (some ⟨Dp,0,none⟩)])/\DS (λ j=>S j\/j=Dp\/j=T1\/j=T2\/j=H) w' P D Dp T1 T2 H 30 M []/\(W.heap.size<=Dp/\W.heap.size<=T1/\W.heap.size<=T2/\W.heap.size<=H)/\Kept S W w':=by
 have HD:=zH (ZO W M ht S hS);have HM:=zH hM;clear hM
 go_enter Tryz.func10,Tryz.ntmps10
 go_wp2_with fail
 refine HD.out.mono ?_;rintro e w1 ⟨rfl,hd,hb⟩;have HP:=zH (xxp hd (Ok.new M) (xvp M) fr hfr 0);have k0:Kept S W w1:=Kept.of_below hb hS;have HK:=zH k0;clear HD hd hb k0
 go_wp2_with fail
 refine HP.out.mono ?_;rintro e w2 ⟨P,FB,M2,q,rfl,hps,hk2,hop⟩;have st:=Md M;have hpz:PZ S w2 P W (yH M) 0:=⟨FB,M2,fr,q,mI M,hps,hfr.1,⟨st.free,st.aC,by rw[hop];rfl⟩⟩;have HT:=zH (xw4 hpz (by omega) (by rw[HM.out];omega));have BG:=zH (HK.out.trans hk2);clear HP HK hps hk2 hop st hpz
 go_wp2_with fail
 refine HT.out.mono ?_;rintro e w3 ⟨Dp,T1,T2,H,B,rfl,hnb,hz,hle,hk3⟩
 have HX:Hid (DS (λ j=>S j\/j=Dp\/j=T1\/j=T2\/j=H) w3 P W Dp T1 T2 H 30 M []/\(W.heap.size<=Dp/\W.heap.size<=T1/\W.heap.size<=T2/\W.heap.size<=H)/\Kept S W w3):=by
  have h1:=BG.out.size;refine zH ⟨⟨B,B.c,hz.up (by omega),hnb.di (by rw[HM.out];omega) (by rw[HM.out];omega),hnb.op,hnb.aC.trans HM.out⟩,⟨by omega,by omega,by omega,by omega⟩,BG.out.trans hk3⟩
 clear HT BG hz hle hk3 hnb;go_wp2;go_ret2;exact⟨P,_,Dp,T1,T2,H,rfl,HX.out⟩
open DP (Rc)
def xn(r c h w:Int):Prop:=0<=r/\0<=c/\0<h/\0<w/\h<=3000/\w<=700/\r<=3000-h/\c<=700-w
theorem xn.rc{r c h w:Int}(g:xn r c h w):∃q:Rc,q.ok/\r=(q.r:Int)/\c=(q.c:Int)/\h=(q.h:Int)/\w=(q.w:Int):=by
 obtain⟨g1,g2,g3,g4,g5,g6,g7,g8⟩:=g;refine⟨⟨r.toNat,c.toNat,h.toNat,w.toNat⟩,⟨?_,?_,?_,?_⟩,?_,?_,?_,?_⟩<;>(simp only[];omega)
theorem ow(r c h w:Int)(W:World) :
  Calls Tryz.prog 8 #[.agg #[.int .i64 r,.int .i64 c,.int .i64 h,.int .i64 w]] W λ e w'=>∃v:Bool,e= .returned (.bool v)/\(v=true↔xn r c h w)/\Below W W w':=by
 obtain⟨w1,hw1⟩:∃w1,w1=W.alloc (.cells #[.int .i64 r,.int .i64 c,.int .i64 h,.int .i64 w] 23):=⟨_,rfl⟩;have hbx:ay w1 W #[.int .i64 r,.int .i64 c,.int .i64 h,.int .i64 w]:=hw1▸ay.new W _ _;have HB:Hid (Below W W w1):=hw1▸(aV _ _).alloc (aO _) _;have c0:=hbx.cell 0 _ rfl;have c1:=hbx.cell 1 _ rfl;have c2:=hbx.cell 2 _ rfl;have c3:=hbx.cell 3 _ rfl;clear hbx;by_cases i1:0<=r
 ·skip
  by_cases i2:0<=c
  ·skip
   by_cases i3:0<h
   ·skip
    by_cases i4:0<w
    ·skip
     by_cases i5:h<=3000
     ·skip
      have e1:wrap64 (3000-h)=3000-h:=by unfold wrap64;omega
      by_cases i6:w<=700
      ·skip
       have e2:wrap64 (700-w)=700-w:=by unfold wrap64;omega
       by_cases i7:r<=3000-h
       ·skip
        by_cases i8:c<=700-w
        ·have HG:Hid (xn r c h w):=zH ⟨i1,i2,i3,i4,i5,i6,i7,i8⟩
         go_enter Tryz.func8,Tryz.ntmps8
         go_wp2_with (simp only[<-hw1])
         all_goals (go_ret;exact⟨true,rfl,⟨λ _=>HG.out,λ _=>rfl⟩,HB.out⟩)
        have HN:Hid (¬xn r c h w):=zH (λ g=>i8 g.2.2.2.2.2.2.2)
        go_enter Tryz.func8,Tryz.ntmps8
        go_wp2_with (simp only[<-hw1])
        all_goals (go_ret;exact .inl ⟨rfl,HN.out,HB.out⟩)
       have HN:Hid (¬xn r c h w):=zH (λ g=>i7 g.2.2.2.2.2.2.1)
       go_enter Tryz.func8,Tryz.ntmps8
       go_wp2_with (simp only[<-hw1])
       all_goals (go_ret;exact .inl ⟨rfl,HN.out,HB.out⟩)
      have HN:Hid (¬xn r c h w):=zH (λ g=>i6 g.2.2.2.2.2.1)
      go_enter Tryz.func8,Tryz.ntmps8
      go_wp2_with (simp only[<-hw1])
      all_goals (go_ret;exact .inl ⟨rfl,HN.out,HB.out⟩)
     have HN:Hid (¬xn r c h w):=zH (λ g=>i5 g.2.2.2.2.1)
     go_enter Tryz.func8,Tryz.ntmps8
     go_wp2_with (simp only[<-hw1])
     all_goals (go_ret;exact .inl ⟨rfl,HN.out,HB.out⟩)
    have HN:Hid (¬xn r c h w):=zH (λ g=>i4 g.2.2.2.1)
    go_enter Tryz.func8,Tryz.ntmps8
    go_wp2_with (simp only[<-hw1])
    all_goals (go_ret;exact .inl ⟨rfl,HN.out,HB.out⟩)
   have HN:Hid (¬xn r c h w):=zH (λ g=>i3 g.2.2.1)
   go_enter Tryz.func8,Tryz.ntmps8
   go_wp2_with (simp only[<-hw1])
   all_goals (go_ret;exact .inl ⟨rfl,HN.out,HB.out⟩)
  have HN:Hid (¬xn r c h w):=zH (λ g=>i2 g.2.1)
  go_enter Tryz.func8,Tryz.ntmps8
  go_wp2_with (simp only[<-hw1])
  all_goals (go_ret;exact .inl ⟨rfl,HN.out,HB.out⟩)
 have HN:Hid (¬xn r c h w):=zH (λ g=>i1 g.1)
 go_enter Tryz.func8,Tryz.ntmps8
 go_wp2_with (simp only[<-hw1])
 all_goals (go_ret;exact .inl ⟨rfl,HN.out,HB.out⟩)
theorem xtk(a b:Int)(W:World) :
  Calls Tryz.prog 12 #[.agg #[.int .i64 a,.int .i64 b]] W λ e w'=>∃x y:Nat,x<3000/\y<700/\e= .returned (.agg #[.int .i64 x,.int .i64 y])/\Below W W w':=by
 have a1:a.tmod 3000<3000:=Int.tmod_lt_of_pos _ (by omega);have a2: -3000<a.tmod 3000:=Int.neg_lt_of_neg_lt (by rw[<-Int.neg_tmod];exact Int.tmod_lt_of_pos _ (by omega));have b1:b.tmod 700<700:=Int.tmod_lt_of_pos _ (by omega);have b2: -700<b.tmod 700:=Int.neg_lt_of_neg_lt (by rw[<-Int.neg_tmod];exact Int.tmod_lt_of_pos _ (by omega))
 go_enter Tryz.func12,Tryz.ntmps12
 go_wp2;obtain⟨x,hx,ex⟩:∃x:Nat,x<3000/\a.tmod 3000%3000=(x:Int):=⟨(a.tmod 3000%3000).toNat,by omega,by omega⟩
 obtain⟨y,hy,ey⟩:∃y:Nat,y<700/\b.tmod 700%700=(y:Int):=⟨(b.tmod 700%700).toNat,by omega,by omega⟩;rw[ex,ey];have hb1:Below W W (W.alloc (.cells #[.int .i64 a,.int .i64 b] 25)):=(aV _ _).alloc (aO _) _;have hb2:Below W W ((W.alloc (.cells #[.int .i64 a,.int .i64 b] 25)).alloc (.cells #[.int .i64 x,.int .i64 y] 25)):=hb1.alloc (by simp) _;have hbx:=ay.new (W.alloc (.cells #[.int .i64 a,.int .i64 b] 25)) #[.int .i64 x,.int .i64 y] 25;rw[show(W.alloc (.cells #[.int .i64 a,.int .i64 b] 25)).heap.size=W.heap.size+1 by simp]at hbx;refine bodyPost_ret (UK.U3 (p:=2) (ty:=25) rfl _ hbx rfl Tryz.underlying25 rfl (by kernel_rfl)) rfl ?_;exact⟨x,y,hx,hy,rfl,hb2⟩
open DP (Rc dF bf bX gI)
def GG:List dF:=[(2,[⟨0,0,2,2⟩])]
def EP:List dF:=[(2,[⟨0,0,2,2⟩]),(17179869187,[⟨1,1,1,1⟩])]
def Jq:List dF:=[(17179869187,[⟨1,1,1,1⟩])]
theorem PU:bf (bX 0 2) [⟨0,0,2,2⟩] []=GG:=by decide
theorem PV:bf (bX 4 3) [⟨1,1,1,1⟩] GG=EP:=by decide
theorem PW:bf (bX 0 2) [] EP=Jq:=by decide
theorem xz1:(gI 1 1 EP).map (λ x=>l5 x.1)=[(0,2),(4,3)]:=by decide
theorem xz2:(gI 1 1 Jq).map (λ x=>l5 x.1)=[(4,3)]:=by decide
theorem xz3:(gI 1 1 EP).length=2:=by decide
theorem xz4:(gI 1 1 Jq).length=1:=by decide
theorem Vi:∀q∈([⟨0,0,2,2⟩]:List Rc),q.ok:=λ q hq=>by rw[bz.1 hq];exact⟨by decide,by decide,by decide,by decide⟩
theorem Vj:∀q∈([⟨1,1,1,1⟩]:List Rc),q.ok:=λ q hq=>by rw[bz.1 hq];exact⟨by decide,by decide,by decide,by decide⟩
theorem Vk:oq GG:=by
 rw[<-PU];exact MF.put (by decide) Vi (by decide) (by decide)
theorem PX:oq EP:=by
 rw[<-PV];exact Vk.put (by decide) Vj (by decide) (by decide)
theorem ybt:oq Jq:=by
 rw[<-PW];exact PX.put (by decide) (λ q hq=>by cases hq) (by decide) (by decide)
theorem yci:(nM ([]++GG)).length<=4:=by decide
theorem ycj:(nM (GG++EP)).length<=4:=by decide
theorem yck:(nM (EP++Jq)).length<=4:=by decide
theorem PY(w:World)(q:Rc):RX (w.alloc (.cells #[.int .i64 q.r,.int .i64 q.c,.int .i64 q.h,.int .i64 q.w] 23)) w 1 [q]:=by
 refine .inr ⟨_,rfl,?_⟩;have:=Gd w (Gr q) 23;exact this
theorem Vl(W:World)(ht:kD W)(S:Nat->Prop)(hS:∀j,S j->j<W.heap.size) :
  Calls Tryz.prog 9 #[] W λ e w'=>e= .returned (.bool true)/\Kept S W w':=by
 have HM:=zH (Vh W ht S hS 100 3 (by decide) (by omega) (by omega) (by omega));have HSS:=zH hS;clear ht hS
 go_enter Tryz.func9,Tryz.ntmps9
 go_wp2_with fail
 refine HM.out.mono ?_;rintro e w1 ⟨P,D,Dp,T1,T2,H,rfl,ds,hle,k1⟩;obtain⟨E1,hE1⟩:∃E1:Nat->Prop,E1=λ j=>(S j\/j=Dp\/j=T1\/j=T2\/j=H)\/(w1.heap.size<=j/\j<w1.heap.size+4):=⟨_,rfl⟩
 have hH:Hid (∀wA wB wC wD,wA=w1.alloc (.cells #[.int .i64 0,.int .i64 2] 25)->wB=wA.alloc (.cells #[.int .i64 4,.int .i64 3] 25)->wC=wB.alloc (.cells #[.int .i64 1,.int .i64 1] 25)->wD=wC.alloc (.cells #[.int .i64 0,.int .i64 0,.int .i64 2,.int .i64 2] 23) ->
   DS E1 wD P D Dp T1 T2 H 30 100 []/\RX wD (some ⟨w1.heap.size+1+1+1,0,none⟩) 1 [⟨0,0,2,2⟩]/\ay wD w1 #[.int .i64 0,.int .i64 2]/\ay wD (w1.heap.size+1) #[.int .i64 4,.int .i64 3]/\ay wD (w1.heap.size+1+1) #[.int .i64 1,.int .i64 1]/\Kept S W wD/\W.heap.size<=w1.heap.size):=zH (λ wA wB wC wD hA hB hC hD=>by
  have sA:wA.heap.size=w1.heap.size+1:=by rw[hA];simp
  have sB:wB.heap.size=w1.heap.size+1+1:=by rw[hB];simp[sA]
  have sC:wC.heap.size=w1.heap.size+1+1+1:=by rw[hC];simp[sB]
  have sD:wD.heap.size=w1.heap.size+1+1+1+1:=by rw[hD];simp[sC]
  have bA:Below w1 w1 wA:=hA▸(aV _ _).alloc (aO _) _;have bB:Below wA wA wB:=hB▸(aV _ _).alloc (aO _) _;have bC:Below wB wB wC:=hC▸(aV _ _).alloc (aO _) _;have bD:Below wC wC wD:=hD▸(aV _ _).alloc (aO _) _;have xA:ay wA w1 #[.int .i64 0,.int .i64 2]:=hA▸ay.new w1 _ _;have xB:ay wB wA #[.int .i64 4,.int .i64 3]:=hB▸ay.new wA _ _;have xC:ay wC wB #[.int .i64 1,.int .i64 1]:=hC▸ay.new wB _ _;have xD:RX wD wC 1 [⟨0,0,2,2⟩]:=hD▸PY wC ⟨0,0,2,2⟩;rw[sA]at xB;rw[sB]at xC;rw[sC]at xD;have Vm:Below w1 w1 wD:=bA.trans ((bB.mono (by omega)).trans ((bC.mono (by omega)).trans (bD.mono (by omega))));refine⟨ds.wide Vm (λ j hj=>?_) (λ j hj=>by rw[hE1];exact .inl hj),xD,((xA.next bB).next bC).next bD,(xB.next bC).next bD,xC.next bD,k1.trans ((ds.kept Vm).mono (λ j hj=>.inl hj)),k1.size⟩;rw[hE1]at hj;rcases hj with hj|hj
  ·exact .inl hj
  exact .inr ⟨hj.1,by omega⟩)
 have hS1:Hid (∀j,S j\/(w1.heap.size<=j/\j<w1.heap.size+4)->E1 j):=zH (λ j hj=>by
  rw[hE1];rcases hj with hj|hj
  ·exact .inl (.inl hj)
  exact .inr hj)
 clear HM ds hle k1 hE1
 go_wp2_with fail
 obtain⟨ds1,hx1,y1,y2,y3,iD,hsz⟩:=hH.out _ _ _ _ rfl rfl rfl rfl;clear hH;have hset:=ME (m:=4) (a:=0) (b:=2) (rl:=[⟨0,0,2,2⟩]) ds1 MF (by decide) (by omega) (by omega) (by omega) hx1 (λ j hj=>hS1.out j (.inr (by have:=gz hj;omega))) Vi (by decide) (by omega) (by rw[PU];exact yci) (by decide);rw[PU]at hset;refine Calls.mono hset ?_;rintro e w2 ⟨rfl,GH,k2⟩;have z1:=y1.ae (k2.block _ (hS1.out _ (.inr ⟨by omega,by omega⟩)));have z2:=y2.ae (k2.block _ (hS1.out _ (.inr ⟨by omega,by omega⟩)));have z3:=y3.ae (k2.block _ (hS1.out _ (.inr ⟨by omega,by omega⟩)));have Jr:=iD.trans (k2.mono (λ j hj=>hS1.out j (.inl hj)));have d0:=z2.c0;have d1:=z2.c1;have H2:=zH (zA GH (zA z1 (zA z2 (zA z3 Jr))));clear ds1 hx1 y1 y2 y3 iD hset GH k2 z1 z2 z3 Jr
 go_wp2_with fail
 clear d0 d1;obtain⟨GH,z1,z2,z3,Jr⟩:=H2.out;obtain⟨wE,Js⟩:∃wE,wE=w2.alloc (.cells #[.int .i64 1,.int .i64 1,.int .i64 1,.int .i64 1] 23):=⟨_,rfl⟩;have bE:Below w2 w2 wE:=Js▸(aV _ _).alloc (aO _) _;have xE:RX wE w2 1 [⟨1,1,1,1⟩]:=Js▸PY w2 ⟨1,1,1,1⟩;have sE:wE.heap.size=w2.heap.size+1:=by rw[Js];simp
 have Vn:DS (λ j=>E1 j\/j=w2.heap.size) wE P D Dp T1 T2 H (30+13000000) 100 GG:=GH.wide bE (λ j hj=>by
  rcases hj with hj|hj
  ·exact .inl hj
  exact .inr ⟨by omega,by omega⟩) (λ j hj=>.inl hj)
 have kE:=GH.kept bE;have hset:=ME (m:=4) (a:=4) (b:=3) (rl:=[⟨1,1,1,1⟩]) Vn Vk (by decide) (by omega) (by omega) (by omega) xE (λ j hj=>.inr (gz hj)) Vj (by decide) (by omega) (by rw[PV];exact ycj) (by decide);rw[PV]at hset;rw[<-Js];refine Calls.mono hset ?_;rintro e w3 ⟨rfl,ds3,k3⟩;have k23:Kept E1 w2 w3:=kE.trans (k3.mono (λ j hj=>.inl hj));have eS:∀j,S j->E1 j:=λ j hj=>hS1.out j (.inl hj);have i1:=hS1.out w1 (.inr ⟨by omega,by omega⟩);have i2:=hS1.out (w1.heap.size+1) (.inr ⟨by omega,by omega⟩);have i3:=hS1.out (w1.heap.size+1+1) (.inr ⟨by omega,by omega⟩);have v1:=z1.ae (k23.block _ i1);have v2:=z2.ae (k23.block _ i2);have v3:=z3.ae (k23.block _ i3);have d0:=v3.c0;have d1:=v3.c1;have HAS:=zH (PT (a:=1) (b:=1) ds3 PX (by omega) (by omega) (by omega));rw[xz3,xz1]at HAS;have H3:=zH (zA v1 (zA v2 (zA v3 (zA (Jr.trans (k23.mono eS)) (zA eS (zA i1 (zA i2 i3)))))));clear GH z1 z2 z3 Jr bE xE sE Vn kE hset ds3 k3 k23 eS i1 i2 i3 v1 v2 v3 Js H2
 go_wp2_with fail
 refine HAS.out.mono ?_;rintro e w4 ⟨Gs,c4,rfl,hc4,tK,BH,k4⟩;obtain⟨v1,v2,v3,kS,eS,i1,i2,i3⟩:=H3.out;have u1:=v1.ae (k4.block _ (.inl i1));have u2:=v2.ae (k4.block _ (.inl i2));have u3:=v3.ae (k4.block _ (.inl i3));have d2:=u1.c0;have d3:=u1.c1;have hset:=ME (m:=4) (a:=0) (b:=2) (rl:=[]) (ro:=none) (rc:=0) BH PX (by decide) (by omega) (by omega) (by omega) (.inl ⟨rfl,rfl,rfl⟩) (λ j hj=>by cases hj) (λ q hq=>by cases hq) (by decide) (by omega) (by rw[PW];exact yck) (by decide);rw[PW]at hset;have EA:=zH hset;have H4:=zH (zA hc4 (zA u1 (zA u2 (zA u3 (zA (kS.trans (k4.mono (λ j hj=>.inl (eS j hj)))) (zA eS (zA i1 (zA i2 i3))))))));clear d0 d1 HAS v1 v2 v3 kS eS i1 i2 i3 u1 u2 u3 hset hc4 tK BH k4 H3
 go_wp2_with fail
 refine EA.out.mono ?_;rintro e w5 ⟨rfl,Vo,k5⟩;obtain⟨hc4,u1,u2,u3,kS,eS,i1,i2,i3⟩:=H4.out;have BJ:=hc4.ae k5.size (λ j hj=>k5.block j (.inr hj));have t1:=u1.ae (k5.block _ (.inl (.inl i1)));have t2:=u2.ae (k5.block _ (.inl (.inl i2)));have t3:=u3.ae (k5.block _ (.inl (.inl i3)));have d4:=t3.c0;have d5:=t3.c1;have HAS:=zH (PT (a:=1) (b:=1) Vo ybt (by omega) (by omega) (by omega));rw[xz4,xz2]at HAS;have H5:=zH (zA BJ (zA t1 (zA t2 (zA (kS.trans (k5.mono (λ j hj=>.inl (.inl (eS j hj))))) (zA eS (zA i1 i2))))));clear d2 d3 EA hc4 u1 u2 u3 kS eS i1 i2 i3 BJ t1 t2 t3 Vo k5 H4
 go_wp2_with fail
 refine HAS.out.mono ?_;rintro e w6 ⟨ao6,c6,rfl,hc6,MG,ds6,k6⟩;obtain⟨BJ,t1,t2,kS,eS,i1,i2⟩:=H5.out;have EQ:=BJ.ae k6.size (λ j hj=>k6.block j (.inr hj));have s1:=t1.ae (k6.block _ (.inl (.inl i1)));have s2:=t2.ae (k6.block _ (.inl (.inl i2)));have HF:=zH (kS.trans (k6.mono (λ j hj=>.inl (.inl (eS j hj)))));obtain⟨g4,rfl,a0,a1⟩:=CX.two EQ (j:=0) rfl;obtain⟨g4',e4,a2,a3⟩:=CX.two EQ (j:=1) rfl;obtain rfl:g4=g4':=by injection e4 with e4;injection e4 with e4
 obtain⟨g6,rfl,a4,a5⟩:=CX.two hc6 (j:=0) rfl;have b0:=s1.cell 0 _ rfl;have b1:=s1.cell 1 _ rfl;have b2:=s2.cell 0 _ rfl;have b3:=s2.cell 1 _ rfl;clear BJ t1 t2 kS eS i1 i2 EQ s1 s2 hc6 MG ds6 k6 H5 HAS e4 d4 d5
 go_wp2_with fail
 go_quiet (fail)
 go_wp2;go_ret
 exact⟨rfl,HF.out.trans (Kept.of_below (UK.dK (aV _ _) nq) (λ j hj=>bZ (HSS.out j hj) HF.out.size))⟩
end Go.Proofs.YtgpmiliahonaoaaGreatDoor
