/- Facts on texts and trees on pages. -/
import Derived.Test.YtgpmiliahonaoaaGreatDoorKDqMc
set_option maxRecDepth 100000
set_option maxHeartbeats 8000000
set_option linter.unusedSimpArgs false
namespace Go.Proofs.YtgpmiliahonaoaaGreatDoor
open Go.RowKit
open UK (str aF nth Only Row ay w32)
open DP (Rc dF bf lg dU fC jH TH bO bX gF share ng gI qG)
structure oq(X:List dF):Prop where
 ok:dU X
 few:X.length<=40
 EC:∀x∈X,x.2.length<=8
 ne:∀x∈X,x.2≠[]
def fX(X:List dF):Nat->List UInt8:=λ k=>vW (ng X k)
def gX(X:List dF):Nat->List UInt8:=λ b=>fC (gF b X)
def iw(X X':List dF)(S:List Nat):Nat->List UInt8:=λ b=>if b∈S then fC (gF b X') else fC (gF b X)
section
variable{X X':List dF}{k b:Nat}{rl:List Rc}{S:List Nat}
theorem xwy(X X':List dF):iw X X' []=gX X:=by funext b;simp[iw,gX]
theorem xtc(X X':List dF)(S:List Nat)(b:Nat):bO (iw X X' S) b (fC (gF b X'))=iw X X' (S++[b]):=by
 funext c
 unfold DP.bO iw;by_cases h:c=b
 ·subst h;simp
 simp[h]
theorem xzz(h:b∉S):iw X X' S b=fC (gF b X):=if_neg h
theorem Mw(h:oq X)(b:Nat):dU (gF b X)/\(gF b X).length<=40/\∀x∈gF b X,x.2.length<=8:=by
 have hl:=DP.Bj b X;refine⟨⟨DP.xS h.ok.up,λ x hx=>?_,λ x hx=>?_,by have:=h.few;omega⟩,by have:=h.few;omega,λ x hx=>?_⟩
 ·obtain⟨y,hy,_,rfl⟩:=DP.gV.1 hx;exact h.ok.key y hy
 ·obtain⟨y,hy,_,rfl⟩:=DP.gV.1 hx;exact⟨λ q hq=>(h.ok.good y hy).1 q (List.mem_filter.1 hq).1,aP (DP.mK b y.2) (h.ok.good y hy).2⟩
 obtain⟨y,hy,_,rfl⟩:=DP.gV.1 hx;exact aP (DP.mK b y.2) (h.EC y hy)
theorem ED(h:oq X)(b:Nat):(fC (gF b X)).length<=3042:=by
 obtain⟨h1,h2,h3⟩:=Mw h b;have:=DP.Bg h1 h3;omega
theorem Mx(h:oq X)(k:Nat):(∀q∈ng X k,q.ok)/\(ng X k).length<=8:=by
 by_cases hx:∃x∈X,x.1=k
 ·obtain⟨x,hx,rfl⟩:=hx;rw[DP.uT h.ok.up hx];exact⟨(h.ok.good x hx).1,h.EC x hx⟩
 rw[DP.qH (λ x hx2 e=>hx ⟨x,hx2,e⟩)];exact⟨λ q hq=>absurd hq List.not_mem_nil,aY _⟩
theorem M0(hok:∀q∈rl,q.ok)(hn:rl.length<=8):(vW rl).length<=100:=by
 unfold vW
 split
 ·exact aY _
 have:=DP.uR hok (by omega);omega
theorem oq.put(h:oq X)(hk:k<2^64-1)(hok:∀q∈rl,q.ok)(hn:rl.length<=8)(hf:X.length<=39):oq (bf k rl X):=by
 obtain⟨h1,h2,h3⟩:=DP.vP h.ok.up h.ok.key hk h.ok.good ⟨hok,by omega⟩;have hl:=DP.xZ (k:=k) (l:=rl) X;refine⟨⟨h1,h2,h3,by omega⟩,by omega,λ x hx=>?_,DP.Bh h.ne⟩;rcases DP.jZ hx with hx|⟨rfl,_⟩
 ·exact h.EC x hx
 exact hn
theorem ybk(h:oq X):fX (bf k rl X)=bO (fX X) k (vW rl):=by
 funext j
 unfold fX DP.bO;rw[DP.Bi h.ok.up];by_cases e:j=k
 ·rw[if_pos e,if_pos e]
 rw[if_neg e,if_neg e]
theorem xwz(h:oq X)(ho:share b (ng X k)=[])(hn:share b rl=[]):gF b (bf k rl X)=gF b X:=by
 rw[DP.uP b k rl h.ok.up,hn];refine DP.vO (λ y hy=>?_) (DP.xS h.ok.up);obtain⟨x,hx,hsx,rfl⟩:=DP.gV.1 hy;intro hk;apply hsx;rw[<-DP.uT h.ok.up hx];show share b (ng X x.1)=[];rw[show x.1=k from hk];exact ho
theorem xw0(h:oq X)(hS:∀b,b∉S->share b (ng X k)=[]/\share b rl=[]):iw X (bf k rl X) S=gX (bf k rl X):=by
 funext b
 unfold iw gX;by_cases hb:b∈S
 ·rw[if_pos hb]
 rw[if_neg hb,xwz h (hS b hb).1 (hS b hb).2]
end
def Ja(p:Nat×Nat):List Value:=[.int .i64 p.1,.int .i64 p.2]
theorem U9(p:Nat×Nat):(Ja p).length=2:=rfl
theorem xte(p:Nat×Nat):∀v∈Ja p,v.oneCell'=true:=by
 intro v hv;simp only[Ja,aN,List.not_mem_nil,or_false]at hv;rcases hv with rfl|rfl<;>rfl
abbrev CX(W:World)(ao:Option Addr)(c:Nat)(l:List (Nat×Nat)):Prop:=NX 2 Ja W ao c l
theorem CX.two{W:World}{ao:Option Addr}{c:Nat}{l:List (Nat×Nat)}(h:CX W ao c l){j:Nat}{x:Nat×Nat}(hj:l[j]?=some x):∃g,ao=some ⟨g,0,none⟩/\W.cell? ⟨g,j*2,none⟩=some (.int .i64 x.1)/\W.cell? ⟨g,j*2+1,none⟩=some (.int .i64 x.2):=by
 obtain⟨g,e,hc⟩:=h.at_ U9 hj;exact⟨g,e,hc 0 _ rfl,hc 1 _ rfl⟩
theorem CX.push{W:World}{ao:Option Addr}{c:Nat}{l:List (Nat×Nat)}(h:CX W ao c l)(hl:l.length<=1000000)(x:Nat×Nat) :
  ∃g' c' W',(Builtin.append_ #[35,35] 35 #[.slice ao l.length c,.slice W 1 1]).run Tryz.prog (W.alloc (.cells #[.int .i64 x.1,.int .i64 x.2] 25))= .ok (.slice (some ⟨g',0,none⟩) (l.length+1) c') W'/\CX W' (some ⟨g',0,none⟩) c' (l++[x])/\(aK ao g'\/W.heap.size<=g')/\Only g' W W':=
 NX.push (enc:=Ja) Tryz.underlying35 (i:=Tryz.t25) rfl rfl rfl (show(16:Nat)<=64 by omega) rfl U9 xte h hl x
def l5(k:Nat):Nat×Nat:=(k/4294967296,k%4294967296)
section
variable{E:Nat->Prop}{W W':World}{P D Dp T1 T2 H k q r1 r2 root n:Nat}{A:AP}{ex:List Nat}{Ec:Nat->List UInt8}{l1 l2:List KV}{F G:Nat->List UInt8}{s:List UInt8}{key:UInt64}{X X':List dF}{S:List Nat}
def Jb(l1:List KV)(F:Nat->List UInt8)(key:UInt64)(n:Nat):Prop:=
 (F key.toNat=[]/\n=0/\∀y∈l1,y.1≠key)\/∃v:UInt64,(key,v)∈l1/\n=v.toNat/\F key.toNat≠[]
theorem rX.keep{Y:List HT}(h:rX l1 Y F key n):Jb l1 F key n:=by
 rcases h with h|⟨v,t,h1,h2,h3,h4,h5,h6⟩
 ·exact .inl h
 exact .inr ⟨v,h1,by omega,h6⟩
theorem Jb.is{Y:List HT}(h:Jb l1 F key n)(th:TH l1 l2 (qO Y) F G):rX l1 Y F key n:=by
 rcases h with h|⟨v,h1,h2,h3⟩
 ·exact .inl h
 obtain⟨a,b,c⟩:=th.one.some_ _ h1;obtain⟨t,ht,e⟩:=bQ.1 b;have e3:=Prod.mk.inj e;exact .inr ⟨v,t,h1,ht,e3.1.symm,e3.2,by rw[h2];exact e3.1.symm,h3⟩
def EF(E:Nat->Prop)(W W':World)(P D K:Nat)(A:AP)(ex:List Nat)(F G:Nat->List UInt8)(s:List UInt8)(Q:AP->Prop)(er:Int):Prop:=
 (er=0/\∃B,Q B/\A.Reach B/\PZ E W' P D B K/\Kept E W W')\/(er=6/\∃B,uk A ex F G s/\A.Reach B/\PZ E W' P D B K/\Kept E W W')
theorem xw1(h:DZ E W P D Dp T1 T2 H k A q r1 r2 root)(dl:DL A ex Ec r1 r2 root F G l1)(key:UInt64)(hl:(F key.toNat).length<=4000)(hk:k+5000<900000000) :
  Calls Tryz.prog 38 #[.pointer Dp,.pointer T1,.int .u64 key.toNat] W λ e w'=>∃n:Nat,e= .returned (.tuple #[.string (str (F key.toNat)),.int .u64 (n:Nat),.int .i64 0])/\Jb l1 F key n/\PZ E w' P D A (k+5000)/\Kept E W w':=by
 obtain⟨l2,dw,ps2,pg,rp,L,Y,m,th,hw⟩:=dl;refine(Pt h.one m th key (by omega)).mono ?_;rintro e w' ⟨n,rfl,hid,p,kk⟩;exact⟨n,rfl,hid.keep,p.up (by omega),kk⟩
theorem xw2(h:DZ E W P D Dp T1 T2 H k A q r1 r2 root)(di:DI A ex Ec r1 r2 root F G)(key:UInt64)(hl:(G key.toNat).length<=4000)(hk:k+5000<900000000) :
  Calls Tryz.prog 38 #[.pointer Dp,.pointer T2,.int .u64 key.toNat] W λ e w'=>∃n:Nat,e= .returned (.tuple #[.string (str (G key.toNat)),.int .u64 (n:Nat),.int .i64 0])/\PZ E w' P D A (k+5000)/\Kept E W w':=by
 obtain⟨l1,l2,dw,ps2,pg,rp,L,Y,m,th,hw⟩:=di;refine(Pt h.two m.swap th.swap key (by omega)).mono ?_;rintro e w' ⟨n,rfl,hid,p,kk⟩;exact⟨n,rfl,p.up (by omega),kk⟩
theorem UD(h:DZ E W P D Dp T1 T2 H k A q r1 r2 root)(dl:DL A ex Ec r1 r2 root F G l1)(hm:A.aC<=3900)(hid:Jb l1 F key n)(hs:s.length<=4000)(hl:(F key.toNat).length<=4000)(hk:k+12000<900000000) :
  Calls Tryz.prog 43 #[.pointer Dp,.pointer T1,.int .u64 key.toNat,.int .u64 (n:Nat),.string (str s)] W λ e w'=>∃er:Int,e= .returned (.int .i64 er)/\EF E W w' P D (k+12000) A ex F G s (λ B=>DI B ex Ec r1 r2 root (bO F key.toNat s) G) er:=by
 obtain⟨l2,dw,ps2,pg,rp,L,Y,m,th,hw⟩:=dl;refine(Uv h.one m th (hid.is th) (s:=s) (by omega) (m.IZ hm) (by omega)).mono ?_;rintro e w' (⟨rfl,hs⟩|⟨rfl,hs⟩)
 ·obtain⟨B,l,a,_,b,c,d⟩:=(hs.up (K:=k+12000) (by omega)).dl m th hw;exact⟨0,rfl,.inl ⟨rfl,B,⟨l,a⟩,b,c,d⟩⟩
 obtain⟨B,a,b,c,d⟩:=(hs.up (K:=k+12000) (by omega)).lack m th hw;exact⟨6,rfl,.inr ⟨rfl,B,a,b,c,d⟩⟩
theorem UE{ro:Option Addr}{rc:Nat}{rl:List Rc}(h:DZ E W P D Dp T1 T2 H k A q r1 r2 root)(dl:DL A ex Ec r1 r2 root F (iw X X' S) l1)(hm:A.aC<=3900)(hX:oq X)(nL:oq X')(b cell:UInt64)(he:X'=bf cell.toNat rl X)(hb:b.toNat∉S)(hr:RX W ro rc (share b.toNat rl))(hre:∀j,aK ro j->E j)(hn:rl.length<=8)(hk:k+12000<900000000) :
  Calls Tryz.prog 42 #[.pointer Dp,.int .u64 b.toNat,.int .u64 cell.toNat,.slice ro (share b.toNat rl).length rc] W λ e w'=>∃er:Int,e= .returned (.int .i64 er)/\EF E W w' P D (k+12000) A ex F (iw X X' S) (fC (gF b.toNat X')) (λ B=>DL B ex Ec r1 r2 root F (iw X X' (S++[b.toNat])) l1) er:=by
 obtain⟨l2,dw,ps2,pg,rp,L,Y,m,th,hw⟩:=dl;have e1:bf cell.toNat (share b.toNat rl) (gF b.toNat X)=gF b.toNat X':=by rw[he,DP.uP _ _ _ hX.ok.up]
 have g0:=ED hX b.toNat;have g1:=ED nL b.toNat;have hcell:=h.bd.c3;have vY:=xwu h.two hcell m.swap th.swap b cell (xzz hb) (Mw hX b.toNat).1 (by omega) hr hre (by have:=DP.mK b.toNat rl;omega) (by rw[e1];exact(Mw nL b.toNat).1) (by rw[e1];omega) (m.IZ hm) (by rw[e1];omega);rw[e1]at vY;refine vY.mono ?_;rintro e w' hR;have hR:=hR.up (K:=k+12000) (by omega);rcases hR with⟨rfl,hs⟩|⟨rfl,hs⟩
 ·obtain⟨B,l,_,a,b1,c,d⟩:=hs.dl m.swap th.swap (by omega);rw[xtc]at a;exact⟨0,rfl,.inl ⟨rfl,B,a,b1,c,d⟩⟩
 obtain⟨B,a,b1,c,d⟩:=hs.lack m.swap th.swap (by omega);exact⟨6,rfl,.inr ⟨rfl,B,a.swap,b1,c,d⟩⟩
end
end Go.Proofs.YtgpmiliahonaoaaGreatDoor
