/- Facts on texts on pages. -/
import Derived.Test.YtgpmiliahonaoaaGreatDoorKDrQc
set_option maxRecDepth 100000
set_option maxHeartbeats 8000000
set_option linter.unusedSimpArgs false
open Go.Value renaming bool->a6,slice->ad,tuple->a9
open Go.Ending renaming returned->aw
open Or renaming inl->O,inr->al
open List renaming length->Y
open Go.Proofs.Tryz
namespace Go.Proofs.YtgpmiliahonaoaaGreatDoor
open Go.RowKit Go.BigFrame
open UK (str aF nth Only Row ay)
open DP (Rc bU aS jc bi jW eX gm)
variable{X:List bU}
variable{E F T:Nat->Prop}{m:List Nat}{l:Nat->List UInt8}{j:List AM}{i p:Option Addr}{t:Array Value}
theorem pn(h:kY X)(j:Nat):(fX X j).length<=4000:=by
 obtain⟨a,b⟩:=Hq h j;have:=Mg a b;unfold fX;omega
section
variable{W s:World}{P D a e f H k q b d root g K:Nat}{A:AP}{o n:Nat}{r c h w:Nat->Int}
theorem FQ.Gl{wc n:World}{B:AP}(o:DZ E W P D a e f H k A q b d root)(S:DI B m l b d root (λ _=>[]) (λ _=>[]))(hr:A.Reach B)(M:DZ T n P D a e f H K B q b d root)(hk:Kept E W n)(L:zk n W (iw P a i (Y j) g) t)(Q:∀c,E c->T c)(X:∀c,T c->E c\/W.1.size<=c)(N:∀c,W.1.size<=c->c<W.1.size+3->T c)(J:wc=(n.alloc (.cells #[] 64)).setCell (W.1.size,2) (ad n 0 0)) :
  ay wc W (iw P a n 0 0)/\ay wc (W.1.size+2) yB /\
  ∀v w x y C,FQ E F W (UK.gG wc (W.1.size+2) v w x y C) P D a e f H K A m l q b d root [] (aw (a9 #[.agg (iw P a n 0 0),a6 true])):=by
 have I:∀c,E c->c<W.1.size:=λ c h=>o.pz.there c h;have h0:=L.res.lt;obtain⟨p,u⟩:∃p,p=n.alloc (.cells #[] 64):=⟨_,rfl⟩;have G:Below n n p:=u▸(aU _ _).alloc (aH _) _;have r5:Row p n 0 []:=by rw[u];exact UK.zF n #[] _
 have s5:p.1.size=n.1.size+1:=by rw[u];simp
 rw[<-u]at J;have r:Only W p wc:=by rw[J];exact(Only.refl _ _).set 2 _
 have y0:ay wc W (iw P a n 0 0):=by rw[J];exact(L.r.next G).set 2 _
 have y2:ay wc (W.1.size+2) yB:=(L.res.next G).only r Z;refine⟨y0,y2,λ v w x y C=>?_⟩;clear J u;have s:=UK.gN (w:=wc) (g:=W.1.size+2) v w x y C;generalize UK.gG wc (W.1.size+2) v w x y C=R at s ⊢;have h1:=r.size;have h2:=s.size
 have z5:DZ (λ c=>T c\/c=n.1.size) p P D a e f H K B q b d root:=M.wide G (λ c h=>by
  rcases h with h|rfl
  ·exact O h
  exact al ⟨aH _,Z⟩) (λ c h=>O h)
 have z6:=z5.only r (O (N _ (aH _) Z)) I (aH _) o.md o.m1 o.m2 o.mh o.pz.tab.lt;have z7:=z6.only s (O (N _ Z Z)) I Z o.md o.m1 o.m2 o.mh o.pz.tab.lt;have k7:Kept E W R:=((hk.trans ((M.pz.kept G).mono Q)).trans (FP r I (aH _) Z)).trans (FP s I Z Z);have r7:Row R n 0 []:=(r5.ae (W':=wc) Z (r.block _ Z Z)).ae Z (s.block _ Z Z)
 exact⟨B,_,λ c=>c=n.1.size,some ⟨n.1.size,0,none⟩,0,[],rfl,z7,S,hr,⟨al ⟨_,rfl,r7⟩,λ z o=>(by cases o),λ c h=>eY h,λ z o=>(by cases o),rfl,λ z o=>(by cases o)⟩,λ c h=>al h,λ c h=>al Z,λ c h=>O (Q c h),λ c h=>by
  rcases h with h|rfl
  ·exact X c h
  exact al Z,k7⟩
theorem Jp(u:DZ E W P D a e f H k A q b d root)(di:DI A m l b d root (fX X) (gX X))(hm:A.aA<=60)(M:kY X)(hk:k+60000000<900000000)(z y:Int) :
  Calls prog 16 #[.agg (iw P a i (Y j) g),.agg (vQ 6 z y p o n)] W λ h0 w'=>FQ E F W w' P D a e f H (k+60000000) A m l q b d root [] h0:=by
 obtain⟨r,B⟩:∃r,r=W.alloc (.cells (iw P a i (Y j) g) 43):=⟨_,rfl⟩;obtain⟨s,C⟩:∃s,s=r.alloc (.cells (vQ 6 z y p o n) 45):=⟨_,rfl⟩;obtain⟨wc,G⟩:∃wc,wc=s.alloc (.cells yB 43):=⟨_,rfl⟩
 have HB0:Hid (Below W W wc/\zk wc W (iw P a i (Y j) g) (vQ 6 z y p o n)/\wc.1.size=W.1.size+3):=by
  have sa:r.1.size=W.1.size+1:=by rw[B];simp
  have sb:s.1.size=W.1.size+1+1:=by rw[C];simp[sa]
  have sc:wc.1.size=W.1.size+1+1+1:=by rw[G];simp[sb]
  have ba:Below W W r:=B▸(aU _ _).alloc (aH _) _;have bb:Below r r s:=C▸(aU _ _).alloc (aH _) _;have L:Below s s wc:=G▸(aU _ _).alloc (aH _) _;have xa:ay r W (iw P a i (Y j) g):=B▸ay.new W _ _;have xb:ay s r (vQ 6 z y p o n):=C▸ay.new r _ _;have iZ:ay wc s yB:=G▸ay.new s _ _;rw[sa]at xb;rw[sb]at iZ;exact zH ⟨ba.trans ((bb.mono Z).trans (L.mono Z)),⟨(xa.next bb).next L,xb.next L,iZ⟩,Z⟩
 obtain⟨v,x⟩:∃v:Nat->Prop,v=λ c=>E c\/(W.1.size<=c/\c<W.1.size+3):=⟨_,rfl⟩
 have K:Hid ((∀c,E c->v c)/\(∀c,v c->E c\/W.1.size<=c)/\(∀c,W.1.size<=c->c<W.1.size+3->v c)):=zH ⟨λ c h=>by rw[x];exact O h,λ c h=>by
  rw[x]at h;rcases h with h|h
  ·exact O h
  exact al h.1,λ c h1 h2=>by rw[x];exact al ⟨h1,h2⟩⟩
 have z1:DZ v wc P D a e f H k A q b d root:=u.wide HB0.out.1 (λ c h=>by
  rw[x]at h;have:=HB0.out.2.2;rcases h with h|h
  ·exact O h
  exact al ⟨h.1,Z⟩) K.out.1
 have HC:=zH (J1 z1 di hm (pn M) (λ c=>aT (FE M c) Z) hk);have a0:=HB0.out.2.1.a.c0;have a1:=HB0.out.2.1.r.c1;have HH:=bm u z1 (u.pz.kept HB0.out.1);clear u di hm M z1 x;subst G C B
 go_enter func16,ntmps16
 go_wp2_with fail
 refine HC.out.mono ?_;rintro h0 J ⟨rfl,h5,dB,rB,pB,R⟩;obtain⟨u,z1,k1⟩:=HH.out;obtain⟨N,i2,Q⟩:=K.out;have I:=HB0.out.2.1.kept R Q;have xR:=z1.of pB R;obtain⟨T,zh⟩:∃T,T=(J.alloc (.cells #[] 64)).setCell (W.1.size,2) (ad J 0 0):=⟨_,rfl⟩;obtain⟨w,t,h3⟩:=FQ.Gl (F:=F) u dB rB xR (k1.trans (R.mono N)) I N i2 Q zh;have HD:=zH h3;have HY:=zH t;have h4:=I.r.lt;have S:=I.r.next ((aU J J).alloc (aH _) (.cells #[] 64));have c2:=S.c2;have f2:=S.free 2;have n0:=w.c0;have n1:=w.c1;have n2:=w.c2;have n3:=w.c3;have n4:=w.c4;have m0:=t.c0;have m1:=t.c1;have m2:=t.c2;have m3:=t.c3;have m4:=t.c4;have mf:∀c,T.frozen? ⟨W.1.size+2,c,none⟩=false:=t.free;clear u z1 k1 N i2 Q I xR w t h3 S HC HB0 K HH h4 a0 a1;subst zh
 go_wp2_with fail
 refine bodyPost_ret (UK.Uf rfl _ (HY.out.gG _ _ _ _ _) rfl underlying43 rfl Ub) rfl ?_;exact HD.out _ _ _ _ _
end
