/- Facts on texts on pages. -/
import Derived.Test.YtgpmiliahonaoaaGreatDoorKPoolXc
import Derived.Deep.OwnRows
import Derived.Deep.RegionLaw
set_option maxRecDepth 100000
set_option maxHeartbeats 8000000
set_option linter.unusedSimpArgs false
open Go.Value renaming bool->a6,int->V,pointer->aq,slice->ad,tuple->a9
open Go.IntKind renaming i64->U,u64->a7
open Go.Ending renaming returned->aw
open Or renaming inl->O,inr->al
open List renaming length->Y
open Go.Proofs.Tryz
namespace Go.Proofs.YtgpmiliahonaoaaGreatDoor
open Go.RowKit
open UK (str aF nth Only Row ay kX nW)
open Go.BigFrame
variable{E T S R:Nat->Prop}{W W' w h:World}{P:Program}{D FB M au k n p f cap pg B g nb e r:Nat}{kp page:Int}{q:Pl}{d G:Dk}{c:Nat->List UInt8}{o:Oper}{F:Bool}{y s x:List UInt8}{l:List UInt64}{ch:List Nat}{a:Act}{v:Value}{C:Option Addr}{z:List Value}{ops:Array Oper}{K:Act->World->Prop}{Q:Exit->Act->World->Prop}
section
variable{P:Nat}
theorem Da(h:Clean d au)(c:bF d au (p:Int)=true):JE d au (p:Int)=0/\Fx d au (p:Int)=uW d p:=by
 have b:d.wl≠0:=by rw[h.wl];decide
 unfold JE Fx;have a:¬bF d au (p:Int)=false:=by rw[c];decide
 rw[aE a,aE a,aE b,Int.toNat_natCast];exact⟨by unfold jG;rw[aE b],rfl⟩
theorem pj(o:Ok d au k)(j:k<900000000)(p:Int)(a:Int)(b:bF d au a=true)(f:JE d au p=0->a≠p):bF (Fx d au p) au a=true:=by
 have c:=(o.give j p).so;have n:=o.so;unfold JE at f;unfold Fx at c ⊢;by_cases e:bF d au p=false
 ·rw[be e]at c ⊢;exact b
 rw[aE e]at c f ⊢;by_cases i:d.wl=0
 ·rw[be i];exact b
 rw[aE i]at c ⊢;have l:jG d.wl=0:=by unfold jG;rw[aE i]
 obtain⟨m,rfl,q⟩:=GJ e;rw[n.lM,decide_eq_true_eq]at b;rw[c.lM,decide_eq_true_eq];refine⟨b.1,b.2.1,λ h=>?_⟩;have h:a.toNat∈d.free++[(m:Int).toNat]:=h;rcases dm.1 h with g|g
 ·exact b.2.2 g
 have:=bu.1 g;rw[Int.toNat_natCast]at this;exact f l Z
theorem ki(g:PS E W P D FB M n kp q d au k c)(hk:k+1<900000000){o:ll}(b:q.op=some o)(h3:∀(i:Nat) (f:Fr),q.af[i]?=some (some f)->f.page=page->f.aj<=0)(J:(Lit.int .i64 page).wf=true)(hh:bF d au page=true)(U:page∉bO q.op) :
  Calls prog 60 #[.pointer P,.int .i64 page] W λ F w'=>F= .returned (.int .i64 0)/\∃op',UY q.op op' page/\PS E w' P D FB M n kp {af:=q.af,hand:=q.hand,aj:=q.aj,op:=op'} d au (k+1) c/\Kept E W w':=by
 have s:=g.pd.pool.box;have c2:=s.c2;have X:=s.c0;have c1:=s.c1;have A:=Pv g.pd.dd page;have iH:=g.ok.few;rw[hh]at A;rcases QJ g.pd page J with⟨i,f,I,hf,h0⟩|⟨h1,h0⟩
 ·have V:=g.pd.pool.each i f I;have h5:=(dz.1 I).1;have cF:W.cell? (FB,i)=some (.pointer f.blk):=g.pd.frame I;have d3:=V.box.c3;have h4:=h3 i f I hf;have HF:=zH hf;clear hf;generalize Y:f.aj=fp at d3 h4;have NT:=zH Y;clear Y V s
  go_enter func60,ntmps60
  go_wp2_with fail
  refine A.mono ?_;rintro F h ⟨rfl,x,rfl⟩;obtain⟨a,l⟩:=g.looks x;generalize W.drewN x=h at a l ⊢;obtain⟨C,nn,cc,j,t⟩:=Ku a.pd.pool page;have O:=a.pd.pool.box.c8;have y:=a.pd.pool.box.c5;have X:=a.pd.pool.box.c0;rw[j]at O;rw[decide_eq_false U]at t;clear A
  go_wp2_with fail
  refine t.mono ?_;rintro F w2 ⟨rfl,rfl⟩;rw[b]at y j;simp only[yF,Option.isSome_some]at y;obtain⟨R,T,N⟩:=Value.slice.inj j;subst R T N;clear j;have H:=a.pd.pool.op o b;have L:=a.lim o b;obtain⟨e,r,w5,S,p,B,z⟩:=H.gone.push Z page;obtain⟨v,u,m⟩:=a.pd.gone b page J p B z Z;have f8:=m.free 8;have h2:=m.c8
  have w:=(a.up (Nat.le_succ k)).op (op':=some {o with go:=some ⟨e,0,none⟩,gc:=r,gone:=o.gone++[page]}) (λ x K=>by
   rw[<-bf K];show o.wn<=_/\o.made.length<=_/\(o.gone++[page]).length<=_;rw[zl,gI];omega) v
  have Q:Hid (UY q.op (some {o with go:=some ⟨e,0,none⟩,gc:=r,gone:=o.gone++[page]}) page):=⟨o,_,b,rfl,rfl,rfl,rfl,rfl⟩;have G:=bg w (l.trans u);clear H L p B z v u m w a l b g
  go_wp2_with (at_builtin;refine UK.jm S rfl rfl rfl rfl rfl ?_)
  go_ret;exact⟨rfl,_,Q.out,G.out.1,G.out.2⟩
 clear s h1
 go_enter func60,ntmps60
 go_wp2_with fail
 refine A.mono ?_;rintro F h ⟨rfl,x,rfl⟩;obtain⟨a,l⟩:=g.looks x;generalize W.drewN x=h at a l ⊢;obtain⟨C,nn,cc,j,t⟩:=Ku a.pd.pool page;have O:=a.pd.pool.box.c8;have y:=a.pd.pool.box.c5;have X:=a.pd.pool.box.c0;rw[j]at O;rw[decide_eq_false U]at t;clear A
 go_wp2_with fail
 refine t.mono ?_;rintro F w2 ⟨rfl,rfl⟩;rw[b]at y j;simp only[yF,Option.isSome_some]at y;obtain⟨R,T,N⟩:=Value.slice.inj j;subst R T N;clear j;have H:=a.pd.pool.op o b;have L:=a.lim o b;obtain⟨e,r,w5,S,p,B,z⟩:=H.gone.push Z page;obtain⟨v,u,m⟩:=a.pd.gone b page J p B z Z;have f8:=m.free 8;have h2:=m.c8
 have w:=(a.up (Nat.le_succ k)).op (op':=some {o with go:=some ⟨e,0,none⟩,gc:=r,gone:=o.gone++[page]}) (λ x K=>by
  rw[<-bf K];show o.wn<=_/\o.made.length<=_/\(o.gone++[page]).length<=_;rw[zl,gI];omega) v
 have Q:Hid (UY q.op (some {o with go:=some ⟨e,0,none⟩,gc:=r,gone:=o.gone++[page]}) page):=⟨o,_,b,rfl,rfl,rfl,rfl,rfl⟩;have G:=bg w (l.trans u);clear H L p B z v u m w a l b g
 go_wp2_with (at_builtin;refine UK.jm S rfl rfl rfl rfl rfl ?_)
 go_ret;exact⟨rfl,_,Q.out,G.out.1,G.out.2⟩
def ur(E:Nat->Prop)(W b:World)(P D FB M n:Nat)(kp:Int)(d:Dk)(au k:Nat)(c:Nat->List UInt8)(page:Int)(e:Ending):Prop:=
 ∃(a:Pl) (G:Dk),e=aw (V U 0)/\PS E b P D FB M n kp a G au (k+1) c/\Kept E W b/\a.op=none/\G.free=d.free++[page.toNat]/\G.aA=d.aA
theorem Jw(m:PS E W P D FB M n kp q d au k c)(hk:k+1<900000000)(r:q.op=none)(h8:∀(i:Nat) (f:Fr),q.af[i]?=some (some f)->f.page=page->f.aj<=0)(dh:(Lit.int .i64 page).wf=true)(z:bF d au page=true) :
  Calls prog 60 #[.pointer P,.int .i64 page] W λ e Q=>ur E W Q P D FB M n kp d au k c page e:=by
 have N:page∉bO q.op:=by rw[r];exact List.not_mem_nil
 obtain⟨p,rfl,h6,h3,h4⟩:∃p:Nat,page=p/\1<=p/\p<au/\p∉d.free:=by
  have z:=z;rw[m.calm.clean.so.lM,decide_eq_true_eq]at z;exact⟨page.toNat,Z,Z,Z,z.2.2⟩
 obtain⟨re,rd⟩:=Da m.calm.clean z;have QK:=m.mi.puts;have Y:=λ a ha O=>pj m.mi Z (p:Int) a ha O;have V:=m.mi.give Z (p:Int);rw[rd]at Y V;have h5:=zH Y;have F6:=zH V
 have U:=zH (λ (w:World) (hw:PS E w P D FB M n kp q d au k c)=>(show Calls prog 123 #[.pointer D,.int .i64 (p:Int)] w λ e Q=>e= .returned (.int .i64 0)/\DD (λ k=>E k\/jT P FB M q.af q.op k) Q D (uW d p) au/\Kept (λ k=>E k\/jT P FB M q.af q.op k) w Q by
  have:=oE hw.pd.dd hw.mi Z (p:Int);rw[re,rd]at this;exact this))
 clear re rd Y V;have F:=m.pd.pool.box;have c2:=F.c2;have c0:=F.c0;have c1:=F.c1;have I:=Pv m.pd.dd (p:Int);have iH:=m.ok.few;rw[z]at I;rcases QJ m.pd (p:Int) dh with⟨i,f,s,hf,h7⟩|⟨h2,h7⟩
 ·have h1:=m.pd.pool.each i f s;have X:=(dz.1 s).1;have cF:W.cell? (FB,i)=some (.pointer f.blk):=m.pd.frame s;have d3:=h1.box.c3;have h9:=h8 i f s hf;have HF:=zH hf;clear hf;generalize Br:f.aj=fp at d3 h9;have NT:=zH Br;clear Br h1 F
  go_enter func60,ntmps60
  go_wp2_with fail
  refine I.mono ?_;rintro e h ⟨rfl,x,rfl⟩;obtain⟨b,o⟩:=m.looks x;generalize W.drewN x=h at b o ⊢;obtain⟨C,nn,cc,B,u⟩:=Ku b.pd.pool (p:Int);have c8:=b.pd.pool.box.c8;have H:=b.pd.pool.box.c5;have c0:=b.pd.pool.box.c0;rw[B]at c8;rw[decide_eq_false N]at u;clear I
  go_wp2_with fail
  refine u.mono ?_;rintro e w2 ⟨rfl,rfl⟩;rw[r]at H;simp only[yF,Option.isSome_none]at H;have K:=zH (U.out _ b);have J:=bm b o r;clear U B u m b o r
  go_wp2_with fail
  refine K.out.mono ?_;rintro e w3 ⟨rfl,L,t⟩;obtain⟨b,o,r⟩:=J.out;have y:=b.pd.disk L t;have S:=zH (o.trans (t.mono (λ j l=>.inl l)));have v:=zH (UN y b.ok s);have h0:=b.ok.set s (u:=none) (λ g N=>by cases N);rw[show q.aj-jf (some f)+jf none=q.aj by show q.aj-f.aj+0=_;have:=NT.out;have:=(b.ok.pos i f s).1;omega]at h0
  have G:∀A,PD E A P D FB M {q with af:=q.af.set i none} (uW d p) au->PS E A P D FB M n kp {q with af:=q.af.set i none} (uW d p) au (k+1) c:=λ A T=>by
   refine⟨T,h0,F6.out,λ j g l=>?_,b.aj,by show(q.af.set i none).length=n;rw[aV];exact b.len,b.calm.give Z p h6 h3 h4 (λ j g l=>?_) (λ j g l O=>?_) _ _ _,(b.up (Nat.le_succ k)).lim⟩
   ·replace l:(q.af.set i none)[j]?=some (some g):=l;rw[gF _ _ _ _ X]at l;by_cases e:i=j
    ·rw[be e]at l;cases l
    rw[aE e]at l;exact h5.out _ (b.held j g l) (λ _ Va=>e (b.inj s l (by rw[HF.out,Va])))
   ·rw[gF _ _ _ _ X]at l;by_cases e:i=j
    ·rw[be e]at l;cases l
    rw[aE e]at l;exact l
   rw[gF _ _ _ _ X,aE (λ e=>?_)]
   ·exact l
   subst e;rw[s]at l;rw[<-bf (bf l)]at O;exact O HF.out
  have R:=zH G;have HQ:=zH r;rw[HF.out]at v;clear K J b o r y h0 G L t
  go_wp2_with fail
  refine v.out.mono ?_;rintro e A ⟨rfl,T,k4⟩;have S4:=zH (R.out A T);have K4:=zH (S.out.trans k4);clear v R S T k4;go_wp2;go_ret;exact⟨_,uW d p,rfl,S4.out,K4.out,HQ.out,rfl,rfl⟩
 have AX:=zH h2;clear F h2
 go_enter func60,ntmps60
 go_wp2_with fail
 refine I.mono ?_;rintro e h ⟨rfl,x,rfl⟩;obtain⟨b,o⟩:=m.looks x;generalize W.drewN x=h at b o ⊢;obtain⟨C,nn,cc,B,u⟩:=Ku b.pd.pool (p:Int);have c8:=b.pd.pool.box.c8;have H:=b.pd.pool.box.c5;have c0:=b.pd.pool.box.c0;rw[B]at c8;rw[decide_eq_false N]at u;clear I
 go_wp2_with fail
 refine u.mono ?_;rintro e w2 ⟨rfl,rfl⟩;rw[r]at H;simp only[yF,Option.isSome_none]at H;have K:=zH (U.out _ b);have J:=bm b o r;clear U B u m b o r
 go_wp2_with fail
 refine K.out.mono ?_;rintro e w3 ⟨rfl,L,t⟩;obtain⟨b,o,r⟩:=J.out;have y:=b.pd.disk L t;have S:=zH (o.trans (t.mono (λ j l=>.inl l)));have v:=zH (lA y (p:Int) dh AX.out);have G:PS E w3 P D FB M n kp q (uW d p) au (k+1) c:=⟨y,b.ok,F6.out,λ j g l=>h5.out _ (b.held j g l) (λ _=>AX.out j g l),b.aj,b.len,b.calm.give Z p h6 h3 h4 (λ j g l=>l) (λ j g l _=>l) _ _ _,(b.up (Nat.le_succ k)).lim⟩;have R:=zH G;have HQ:=zH r;clear K J b o r y G L t
 go_wp2_with fail
 refine v.out.mono ?_;rintro e A ⟨rfl,rfl⟩;clear v;go_wp2;go_ret;exact⟨_,uW d p,rfl,R.out,S.out,HQ.out,rfl,rfl⟩
end
section
variable{P:Nat}
theorem DD.grow{S T:Nat->Prop}(h:DD S W D d au)(e:Below W W W')(c:∀k,T k->S k\/(W.1.size<=k/\k<W'.1.size)):DD T W' D d au:=by
 obtain⟨⟨own,n,B,l,fo,j,I,g,y,hd⟩,i,m⟩:=h;refine⟨⟨λ k=>own k/\k<W.1.size,λ k b f=>?_,B,l,fo,j,I,g,y,hd.tight.below e⟩,i,λ k b=>?_⟩
 ·rcases c k f with a|a
  ·exact n k b.1 a
  exact absurd b.2 Z
 rcases c k b with a|a
 ·exact cB (m k a) e.size
 exact a.2
abbrev oP(n:Nat):Pl:={af:=List.replicate n none,hand:=0,aj:=0,op:=none}
theorem E5(hd:DD E W D d au)(T:Ok d au k)(N:Clean d au)(n:Nat)(B:1<=n/\n<=1000)(q s:TypeId) :
  PS E (((W.alloc (.cells (madeCells #[aq none] n) q)).alloc (.map #[] 0)).alloc (.cells (oN D W n (W.1.size+1) 0 0 none) s)) (W.1.size+2) D W (W.1.size+1) n 0 (oP n) d au k (λ p=>lu d.x p):=by
 have t:(oP n).af.length=n:=iM
 have u:∀(i:Nat) (o:Option Fr),(oP n).af[i]?=some o->o=none:=λ i o h=>by
  have:=dU h;exact(List.mem_replicate.1 this).2
 have H:cntF (oP n).af=0:=by unfold cntF;rw[List.filter_eq_nil_iff.2 (λ a M=>by rw[(List.mem_replicate.1 M).2];decide)];rfl
 have R:uG (oP n).af=0:=by
  show uG (List.replicate n none)=0;clear t u H B
  induction n with
  | zero=>rfl
  | succ m Y=>rw[List.replicate_succ,Kr,Y];rfl
 have K:=UK.zF W (madeCells #[aq none] n) q;rw[size_madeCells,toList_madeCells_one]at K;have F:=kX.new (P:=prog) (K:=3) (E:=3) (W.alloc (.cells (madeCells #[aq none] n) q));have Q:(W.alloc (.cells (madeCells #[aq none] n) q)).1.size=W.1.size+1:=by simp
 rw[Q]at F;have C:((W.alloc (.cells (madeCells #[aq none] n) q)).alloc (.map #[] 0)).1.size=W.1.size+2:=by simp
 have w:=ay.new ((W.alloc (.cells (madeCells #[aq none] n) q)).alloc (.map #[] 0)) (oN D W n (W.1.size+1) 0 0 none) s;rw[C]at w;have J:Below W W (((W.alloc (.cells (madeCells #[aq none] n) q)).alloc (.map #[] 0)).alloc (.cells (oN D W n (W.1.size+1) 0 0 none) s)):=(((aU _ _).alloc (aH _) _).alloc (by simp) _).alloc (by simp;omega) _;have X:(((W.alloc (.cells (madeCells #[aq none] n) q)).alloc (.map #[] 0)).alloc (.cells (oN D W n (W.1.size+1) 0 0 none) s)).1.size=W.1.size+3:=by simp
 have I:kX prog 3 3 (((W.alloc (.cells (madeCells #[aq none] n) q)).alloc (.map #[] 0)).alloc (.cells (oN D W n (W.1.size+1) 0 0 none) s)) (W.1.size+1) 0 (λ _=>none) 0:=F.ae (Below.heap_alloc _ _ _ (by rw[C];omega));have G:=((K.alloc (.map #[] 0)).alloc (.cells (oN D W n (W.1.size+1) 0 0 none) s));generalize ((W.alloc (.cells (madeCells #[aq none] n) q)).alloc (.map #[] 0)).alloc (.cells (oN D W n (W.1.size+1) 0 0 none) s)=V at w J X I G ⊢
 have z:∀b,jT (W.1.size+2) W (W.1.size+1) (oP n).af none b->W.1.size<=b/\b<V.1.size:=λ b c=>by
  rcases c with rfl|rfl|rfl|r|⟨i,o,l,r⟩
  ·omega
  ·omega
  ·omega
  ·exact absurd r id
  have e:=u i o l;subst e;exact absurd r id
 have v:∀(i:Nat) (f:Fr),(oP n).af[i]?=some (some f)->False:=λ i f l=>by have:=u i _ l;cases this
 have h1:=hd.tab.lt;have P:ay V (W.1.size+2) (oN D W (oP n).af.length (W.1.size+1) 0 0 none):=by rw[t];exact w
 have S:fK V (W.1.size+2) D W (W.1.size+1) (oP n):=by
  refine⟨P,?_,⟨λ _=>none,(λ p i=>⟨(λ U=>by cases U),(λ y=>by obtain⟨j,_,fr,A,_⟩:=y;exact absurd A (v _ _))⟩),?_⟩,(λ i f l=>absurd l (v i f)),Z,Z,Z,(λ i o b l r=>by have e:=u i o l;subst e;exact absurd r id),(λ i j o h0 b _ l _ r=>by have e:=u i o l;subst e;exact absurd r id),(λ x L=>by cases L),(λ b c=>absurd c id),(λ i o b _ _ c=>absurd c id),(λ b c=>by have:=z b c;omega)⟩
  ·rw[t];simpa[rz]using G
  rw[H];exact I
 refine⟨⟨S,?_,λ b c y=>?_⟩,⟨R.symm,(λ i f l=>absurd l (v i f)),(by rw[t];exact B.1),(by rw[t];exact B.2)⟩,T,(λ j g A=>absurd A (v j g)),rfl,t,⟨N,λ i f l=>absurd l (v i f),λ p _ _ _ _=>rfl⟩,λ o r=>by cases r⟩
 ·refine hd.grow J (λ b c=>?_);rcases c with c|c
  ·exact O c
  exact al (z b c)
 have:=z b y;have:=hd.there b c;omega
theorem Fl(hd:DD E W D d au)(y:Ok d au k)(t:Clean d au)(n:Nat)(l:1<=n/\n<=1000)(b:Int) :
  Calls prog 35 #[aq D,V U n,V U b] W λ e i=>∃P FB M q,e=aw (aq (some ⟨P,0,none⟩))/\PS E i P D FB M n 0 q d au k (λ p=>lu d.x p)/\Kept E W i/\q.op=none:=by
 have x:=run_make_row (P:=prog) 110 124 t124 (aq none) underlying110 rfl rfl rfl rfl U U n (show 8*n<=281474976710656 from Z) Z;have c:=E5 hd y t n l 124 114;have r:Below W W (((W.alloc (.cells (madeCells #[aq none] n) 124)).alloc (.map #[] 0)).alloc (.cells (oN D W n (W.1.size+1) 0 0 none) 114)):=(((aU _ _).alloc (aH _) _).alloc (by simp) _).alloc (by simp;omega) _;have a:=zH c;have g:=zH (Kept.of_below (S:=E) r (λ j v=>hd.there j v));have f:=zH (qn c.pd c.ok b);obtain⟨C,F⟩:=l;clear c r;simp only[oN,yF,uI,II,Kt,Option.isSome_none]at a g f
 go_enter func35,ntmps35
 have B:∀w:World,(Instr.makeMap 111 none).run prog w= .ok (.map (some w)) (w.alloc (.map #[] 0)):=run_makeMap _
 go_wp2_with fail
 refine f.out.mono ?_;rintro e s ⟨rfl,m,h⟩;have A:=zH (show PS E s (W.1.size+2) D W (W.1.size+1) n 0 {oP n with hand:=Cz b (oP n).af.length} d au k (λ p=>lu d.x p)from⟨m,⟨a.out.ok.aj,a.out.ok.pos,(eA b (oP n).af.length (by have:=a.out.ok.hand;omega)).2.1,a.out.ok.few⟩,a.out.mi,a.out.held,a.out.aj,a.out.len,a.out.calm.same _ _ _,λ o z=>by cases z⟩);have u:=zH (g.out.trans h);clear f a g m h x B;go_wp2;go_ret;exact⟨W.1.size+2,W.1.size,W.1.size+1,_,rfl,A.out,u.out,rfl⟩
end
structure AO where
 was:Int->Option (List UInt8)
 made:List Int
 gone:List Int
structure AP where
 au:Nat
 aA:Int
 free:List Nat
 c:Nat->List UInt8
 op:Option AO
variable{A:AP}
def uH(o:Option ll):Option AO:=o.map λ x=>{was:=x.was,made:=x.made,gone:=x.gone}
namespace AP
def bO(A:AP):List Int:=match A.op with
 | none=>[]
 | some o=>o.gone
def Has(A:AP)(p:Nat):Prop:=1<=p/\p<A.au/\p∉A.free/\(p:Int)∉A.bO
def Full(A:AP):Prop:=A.aA<=A.au/\A.free=[]
def next(A:AP):Nat:=if A.free=[] then A.au else A.free.getLastD 0
def put(A:AP)(p:Nat)(s:List UInt8):AP:={A with c:=bX A.c p s}
def keep(A:AP)(p:Nat):AP:={A with op:=A.op.map λ o=>if (p:Int)∈o.made\/(o.was p).isSome=true then o else {o with was:=λ j=>if j=p then some (A.c p) else o.was j}}
def take(A:AP):AP:={A with au:=if A.free=[] then A.au+1 else A.au,free:=A.free.dropLast,c:=bX A.c A.next (UK.bM 504),op:=A.op.map λ o=>{o with made:=o.made++[(A.next:Int)]}}
def give(A:AP)(p:Nat):AP:=match A.op with
 | none=>{A with free:=A.free++[p]}
 | some o=>{A with op:=some {o with gone:=o.gone++[(p:Int)]}}
end AP
structure Is(A:AP)(q:Pl)(d:Dk):Prop where
 free:d.free=A.free
 aA:d.aA=A.aA
 op:uH q.op=A.op
def PZ(E:Nat->Prop)(W:World)(P D:Nat)(A:AP)(k:Nat):Prop:=∃FB M n q d,PS E W P D FB M n 0 q d A.au k A.c/\1<=n/\Is A q d
def PF(E:Nat->Prop)(W:World)(P D:Nat)(A:AP)(k b f cap pg:Nat)(F:Bool):Prop:=
 ∃(FB M n:Nat) (q:Pl) (d:Dk) (i:Nat) (a:Fr),PS E W P D FB M n 1 q d A.au k A.c/\1<=n/\Is A q d/\q.af[i]?=some (some a)/\a.blk=b/\a.db=f/\a.cap=cap/\a.page=(pg:Nat)/\0<a.aj/\(F=true->a.bY=true)
theorem UE:∀(l:List (Option Fr)),(∀(i:Nat) (f:Fr),l[i]?=some (some f)->0<=f.aj)->0<=uG l/\(uG l=0->∀(i:Nat) (f:Fr),l[i]?=some (some f)->f.aj=0)
 | [],_=>⟨Int.le_refl _,λ _ i f h=>by cases h⟩
 | o::l,h=>by
  obtain⟨c,b⟩:=UE l (λ i f a=>h (i+1) f a)
  have g:0<=jf o:=by
   cases o with
   | none=>exact Int.le_refl _
   | some f=>exact h 0 f rfl
  rw[Kr];refine⟨Z,λ d i f a=>?_⟩
  cases i with
  | zero=>
   have e:o=some f:=bf a;subst e;have:jf (some f)=f.aj:=rfl;omega
  | succ j=>exact b Z j f a
section
variable{P u:Nat}
theorem PS.wide(h:PS E W P D FB M n kp q d au k c)(e:Below W W W')(g:∀j,T j->E j\/(W.1.size<=j/\j<W'.1.size)):PS T W' P D FB M n kp q d au k c:=by
 refine⟨⟨h.pd.pool.kept e.size (λ j a=>e.block j (h.pd.pool.lt a)),h.pd.dd.grow e (λ j a=>?_),λ j a f=>?_⟩,h.ok,h.mi,h.held,h.aj,h.len,h.calm,h.lim⟩
 ·rcases a with a|a
  ·rcases g j a with b|b
   ·exact O (O b)
   exact al b
  exact O (al a)
 rcases g j a with b|b
 ·exact h.pd.far j b f
 have:=h.pd.pool.lt f;omega
theorem PZ.wide(h:PZ E W P D A k)(c:Below W W W')(b:∀j,T j->E j\/(W.1.size<=j/\j<W'.1.size)):PZ T W' P D A k:=by
 obtain⟨FB,M,n,q,d,a,r⟩:=h;exact⟨FB,M,n,q,d,a.wide c b,r⟩
theorem PZ.less(h:PZ E W P D A k)(a:∀j,T j->E j):PZ T W P D A k:=h.wide (aU _ _) (λ j b=>O (a j b))
theorem PZ.next(h:PZ E W P D A k)(b:Below W W W'):PZ E W' P D A k:=h.wide b (λ _ a=>O a)
theorem PF.wide(h:PF E W P D A k u f cap pg F)(e:Below W W W')(b:∀j,T j->E j\/(W.1.size<=j/\j<W'.1.size)):PF T W' P D A k u f cap pg F:=by
 obtain⟨FB,M,n,q,d,i,c,a,r⟩:=h;exact⟨FB,M,n,q,d,i,c,a.wide e b,r⟩
theorem PF.less(h:PF E W P D A k u f cap pg F)(a:∀j,T j->E j):PF T W P D A k u f cap pg F:=h.wide (aU _ _) (λ j b=>O (a j b))
theorem PF.next(h:PF E W P D A k u f cap pg F)(b:Below W W W'):PF E W' P D A k u f cap pg F:=h.wide b (λ _ a=>O a)
theorem DD.over(h:DD S W D d au)(z:∀j,R j->S j)(G:¬R 0)(f:W.1.size<=W'.1.size)(b:∀j,j<W.1.size->¬R j->W'.1[j]?=W.1[j]?)(i:∀j,T j->S j\/(W.1.size<=j/\j<W'.1.size)):DD T W' D d au:=by
 obtain⟨⟨own,n,B,x,fo,o,I,s,y,hd⟩,q,H⟩:=h;have a:=hd.tight;have g:∀k,(own k/\k<W.1.size)->W'.1[k]?=W.1[k]?:=λ k l=>b k l.2 (λ t=>n k l.1 (z k t));have v:lY W':=λ c=>(eB (a:=⟨_,_,none⟩) (b _ hd.tab.lt G)).trans (hd.tab c);refine⟨⟨λ k=>own k/\k<W.1.size,λ k b A=>?_,B,x,fo,o,I,s,y,?_⟩,q,λ k b=>?_⟩
 ·rcases i k A with e|e
  ·exact n k b.1 e
  exact absurd b.2 Z
 ·refine⟨a.cells.ae f (g _ a.oD),a.bytes.ae (g _ a.oB),a.nM,a.le,a.pre,?_,a.flags.ae f (g _ a.oI),a.DB,a.DI,a.BI,a.oD,a.oB,a.oI,v,a.iD⟩;rcases a.fI with E|⟨F,C,r,w,u,p,m⟩
  ·exact O E
  exact al ⟨F,C,r.ae f (g _ m),w,u,p,m⟩
 rcases i k b with e|e
 ·exact cB (H k e) f
 exact e.2
theorem PS.over(h:PS E W P D FB M n kp q d au k c)(g:∀j,R j->E j)(o:¬R 0)(i:W.1.size<=W'.1.size)(f:∀j,j<W.1.size->¬R j->W'.1[j]?=W.1[j]?)(l:∀j,T j->E j\/(W.1.size<=j/\j<W'.1.size)):PS T W' P D FB M n kp q d au k c:=by
 refine⟨⟨h.pd.pool.kept i (λ j a=>f j (h.pd.pool.lt a) (λ m=>h.pd.far j (g j m) a)),h.pd.dd.over (λ j a=>O (g j a)) o i f (λ j a=>?_),λ j a e=>?_⟩,h.ok,h.mi,h.held,h.aj,h.len,h.calm,h.lim⟩
 ·rcases a with a|a
  ·rcases l j a with b|b
   ·exact O (O b)
   exact al b
  exact O (al a)
 rcases l j a with b|b
 ·exact h.pd.far j b e
 have:=h.pd.pool.lt e;omega
theorem PZ.over(h:PZ E W P D A k)(e:∀j,R j->E j)(c:¬R 0)(f:W.1.size<=W'.1.size)(a:∀j,j<W.1.size->¬R j->W'.1[j]?=W.1[j]?)(g:∀j,T j->E j\/(W.1.size<=j/\j<W'.1.size)):PZ T W' P D A k:=by
 obtain⟨FB,M,n,q,d,b,r⟩:=h;exact⟨FB,M,n,q,d,b.over e c f a g,r⟩
theorem PZ.there(h:PZ E W P D A k):∀j,E j->j<W.1.size:=by
 obtain⟨FB,M,n,q,d,a,r⟩:=h;exact λ j b=>a.pd.dd.there j (O b)
theorem PF.there(h:PF E W P D A k u f cap pg F):∀j,E j->j<W.1.size:=by
 obtain⟨FB,M,n,q,d,i,c,a,r⟩:=h;exact λ j b=>a.pd.dd.there j (O b)
theorem PZ.kept(h:PZ E W P D A k)(a:Below W W W'):Kept E W W':=Kept.of_below a h.there
theorem PF.kept(h:PF E W P D A k u f cap pg F)(a:Below W W W'):Kept E W W':=Kept.of_below a h.there
theorem PZ.up{m:Nat}(h:PZ E W P D A k)(b:k<=m):PZ E W P D A m:=by
 obtain⟨FB,M,n,q,d,a,r⟩:=h;exact⟨FB,M,n,q,d,a.up b,r⟩
theorem PZ.tab(h:PZ E W P D A k):lY W:=by
 obtain⟨FB,M,n,q,d,a,r⟩:=h;exact a.pd.dd.tab
theorem PF.bytes(h:PF E W P D A k u f cap pg F):∃y,aF W f y/\Y y=cap/\y.take 504=A.c pg/\504<=cap/\¬E f:=by
 obtain⟨FB,M,n,q,d,i,j,g,_,_,c,rfl,rfl,rfl,m,_⟩:=h;have l:=g.pd.pool.each i j c;obtain⟨y,a,b,e⟩:=l.bytes;refine⟨y,a,b,e.trans ?_,l.cap,λ o=>g.pd.far _ o (al (al (al (al ⟨i,some j,c,al rfl⟩))))⟩;have:=g.calm.at_ i j c;rw[m,Int.toNat_natCast]at this;exact this
theorem PF.dV(h:PF E W P D A k u f cap pg F):(A.c pg).length=504:=by
 obtain⟨y,_,b,a,c,_⟩:=h.bytes;rw[<-a,zt];omega
theorem PF.write(h:PF E W P D A k u f cap pg true)(t:Only f W W')(m:aF W' f y)(r:Y y=cap):PF E W' P D (A.put pg (y.take 504)) k u f cap pg true/\Kept E W W':=by
 obtain⟨FB,M,n,q,d,i,g,l,p,c,e,rfl,rfl,rfl,j,o,hd⟩:=h;have s:=(dz.1 e).1;obtain⟨a,b⟩:=l.bytes e (hd rfl) t m r;rw[show g.page.toNat=pg from Z]at a;exact⟨⟨FB,M,n,_,d,i,{g with data:=y.take 504},a,p,⟨c.free,c.aA,c.op⟩,by show(q.af.set i _)[i]?=_;rw[gF _ _ _ _ s,be rfl],rfl,rfl,rfl,j,o,λ _=>hd rfl⟩,b⟩
theorem Is.has(h:Is A q d)(f:Calm q d au c)(j:A.au=au)(p:Int):(∃m:Nat,p=m/\A.Has m)↔bF d au p=true/\p∉bO q.op:=by
 have e:bO q.op=A.bO:=by
  have:=h.op;unfold AP.bO;rw[<-this];unfold bO uH
  cases q.op<;>rfl
 rw[f.clean.so.lM,decide_eq_true_eq,e,h.free];unfold AP.Has
 constructor
 ·rintro⟨m,rfl,g,i,b,a⟩;rw[Int.toNat_natCast];exact⟨⟨Z,Z,b⟩,a⟩
 rintro⟨⟨g,i,b⟩,a⟩;exact⟨p.toNat,Z,Z,Z,b,by rw[show((p.toNat:Nat):Int)=p from Z];exact a⟩
theorem Ke(h:PZ E W P D A k)(w:k+2<900000000)(p:Nat)(r:A.Has p) :
  Calls prog 63 #[.pointer P,.int .i64 p] W λ e g=>∃u f cap,e= .returned (.tuple #[.pointer (some ⟨u,0,none⟩),.int .i64 0])/\PF E g P D A (k+2) u f cap p false/\Kept E W g:=by
 obtain⟨FB,M,n,q,d,c,z,l⟩:=h;obtain⟨j,m⟩:=(l.has c.calm rfl (p:Int)).1 ⟨p,rfl,r⟩;have t:(Lit.int .i64 (p:Int)).wf=true:=WalkArith.wf_i64 (by have:=r.2.1;have:=c.mi.fit.few;omega)
 have C:Calls prog 63 #[.pointer P,.int .i64 p] W λ e g=>IG E W g P D FB M n 0 q d A.au k A.c p e:=by
  by_cases o:∃(i:Nat) (a:Fr),q.af[i]?=some (some a)/\a.page=p
  ·obtain⟨i,a,b,hf⟩:=o;refine rN c ⟨Z,Z⟩ (p:Int) t j m b hf ?_;have I:=(UE q.af (λ i a b=>(c.ok.pos i a b).1)).2 (by rw[<-c.ok.aj];exact c.aj) i a b;omega
  exact jn c w ⟨Z,Z⟩ (p:Int) t j m (λ i a b hf=>o ⟨i,a,b,hf⟩)
 refine C.mono ?_;rintro e g ⟨i,a,B,G,rfl,b,hf,F,s,x,H,v,y⟩;exact⟨a.blk,a.db,a.cap,rfl,⟨FB,M,n,B,G,i,a,s,z,⟨v.trans l.free,y.trans l.aA,by rw[H];exact l.op⟩,b,rfl,rfl,rfl,hf,F,λ j=>by cases j⟩,x⟩
theorem JW(h:PF E W P D A k u f cap pg F) :
  Calls prog 91 #[aq u] W λ e b=>e=aw (V U pg)/\b=W:=by
 obtain⟨FB,M,n,q,d,i,j,g,m,o,c,rfl,rfl,rfl,a,l,hd⟩:=h;have:=Ge (g.pd.pool.each i j c);rw[a]at this;exact this
theorem AB(h:PF E W P D A k u f cap pg F) :
  Calls prog 116 #[aq u] W λ e c=>e=aw (ad f 504 cap)/\c=W:=by
 obtain⟨FB,M,n,q,d,i,g,b,m,o,a,rfl,rfl,rfl,j,l,hd⟩:=h;have p:=(b.pd.pool.each i g a).box.c2;clear b a
 go_enter func116,ntmps116
 go_wp2;go_ret
 exact⟨rfl,rfl⟩
theorem yn{f:Fr}(h:uH q.op=A.op)(b:f.page=(pg:Nat))(hd:f.data=A.c pg):uH (zn q.op f.page f.data)=(A.keep pg).op:=by
 unfold AP.keep;rw[b,hd];show _=A.op.map _;rw[<-h];unfold uH zn
 cases q.op with
 | none=>rfl
 | some o=>
  show Option.map _ (if _ then _ else _)=_;simp only[Option.map_some];by_cases a:(pg:Int)∈o.made\/(o.was pg).isSome=true
  ·rw[be a,be a];rfl
  rw[aE a,aE a];rfl
theorem zi(h:PF E W P D A k u f cap pg F)(o:k<900000000) :
  Calls prog 64 #[aq u] W λ e c=>e=aw (ad f 504 cap)/\PF E c P D (A.keep pg) (k+1) u f cap pg true/\Kept E W c:=by
 obtain⟨FB,M,n,q,d,i,l,m,r,j,g,rfl,rfl,rfl,b,p,hd⟩:=h;have t:=(dz.1 g).1
 have w:l.data=A.c pg:=by
  have:=m.calm.at_ i l g;rw[b,Int.toNat_natCast]at this;exact this
 refine(FY m g o).mono ?_;rintro e c ⟨a,s,v⟩;exact⟨a,⟨FB,M,n,_,d,i,{l with bY:=true},s,r,⟨j.free,j.aA,yn j.op b w⟩,by show(q.af.set i _)[i]?=_;rw[gF _ _ _ _ t,be rfl],rfl,rfl,rfl,b,p,λ _=>rfl⟩,v⟩
theorem Um(h:PF E W P D A k u f cap pg F) :
  Calls prog 65 #[aq u] W λ e b=>e=aw (a9 #[])/\PZ E b P D A k/\Kept E W b:=by
 obtain⟨FB,M,n,q,d,i,r,j,m,c,g,rfl,rfl,rfl,p,l,hd⟩:=h;refine(kf j g l ⟨Z,Z⟩).mono ?_;rintro e b ⟨a,s,o⟩;exact⟨a,⟨FB,M,n,_,d,s,m,⟨c.free,c.aA,c.op⟩⟩,o⟩
theorem DT(g:FrameMode)(h:PF E W P D A k u f cap pg F) :
  CallsD prog 65 #[aq u] g W λ e j b=>j=g/\(e=aw (a9 #[])/\PZ E b P D A k/\Kept E W b):=by
 obtain⟨FB,M,n,q,d,i,w,m,p,c,l,rfl,rfl,rfl,v,o,hd⟩:=h;refine(ys g m l o ⟨Z,Z⟩).mono ?_;rintro e j b ⟨r,a,s,t⟩;exact⟨r,a,⟨FB,M,n,_,d,s,p,⟨c.free,c.aA,c.op⟩⟩,t⟩
theorem sY(d:Dk)(au:Nat)(hf:¬Cx d au)(a:d.wl≠0):tP d au=(if d.free=[] then au else d.free.getLastD 0)/\tC d au=(if d.free=[] then au+1 else au)/\(tD d au).free=d.free.dropLast:=by
 unfold Cx at hf;unfold tP tC tD;rw[aE hf,aE hf,aE hf,aE a,aE a,aE a];refine⟨rfl,rfl,?_⟩;by_cases h:d.free=[]
 ·rw[be h,h];exact h
 rw[aE h];rfl
theorem JV(h:PZ E W P D A k)(t:k+2<900000000)(hf:¬A.Full) :
  Calls prog 88 #[aq P] W λ e l=>∃u f cap,e=aw (a9 #[aq (some ⟨u,0,none⟩),V U 0])/\PF E l P D A.take (k+2) u f cap A.next false/\Kept E W l:=by
 obtain⟨FB,M,n,q,d,m,H,c⟩:=h;have o:¬Cx d A.au:=by unfold Cx;rw[c.free,c.aA];exact hf
 obtain⟨g,p,t3⟩:=sY d A.au o (by rw[m.calm.clean.wl];decide);rw[c.free]at g p t3;refine(o9 m t ⟨Z,Z⟩ o).mono ?_;rintro e l ⟨i,j,J,G,rfl,C,hf,L,s,v,F,r,B⟩;rw[g,p]at s;refine⟨j.blk,j.db,j.cap,rfl,⟨FB,M,n,J,G,i,j,s,H,⟨r.trans t3,B.trans c.aA,?_⟩,C,rfl,rfl,rfl,by rw[hf,g];rfl,L,λ w=>by cases w⟩,v⟩;show _=A.op.map _;rw[<-c.op];rcases F with⟨a,b⟩|⟨x,y,a,b,K,N,z,I⟩
 ·rw[a,b];rfl
 rw[a,b];unfold uH;simp only[Option.map_some];rw[K,z,I,g];rfl
theorem Uk(h:PZ E W P D A k)(i:k+2<900000000)(hf:A.Full) :
  Calls prog 88 #[aq P] W λ e b=>e=aw (a9 #[aq none,V U 6])/\PZ E b P D A (k+2)/\Kept E W b:=by
 obtain⟨FB,M,n,q,d,j,l,a⟩:=h;refine(Ik j i ⟨Z,Z⟩ (by unfold Cx;rw[a.free,a.aA];exact hf)).mono ?_;rintro e b ⟨f,G,rfl,s,m,o,g,c⟩;exact⟨rfl,⟨FB,M,n,f,G,s,l,⟨g.trans a.free,c.trans a.aA,by rw[o];exact a.op⟩⟩,m⟩
theorem PS.rest(h:PS E W P D FB M n 0 q d au k c)(i:Nat)(f:Fr)(a:q.af[i]?=some (some f)):f.aj=0:=
 (UE q.af (λ i f a=>(h.ok.pos i f a).1)).2 (by rw[<-h.ok.aj];exact h.aj) i f a
theorem IA(h:PZ E W P D A k)(v:k+1<900000000)(p:Nat)(z:A.Has p) :
  Calls prog 60 #[.pointer P,.int .i64 p] W λ e l=>e= .returned (.int .i64 0)/\PZ E l P D (A.give p) (k+1)/\Kept E W l:=by
 obtain⟨FB,M,n,q,d,g,B,c⟩:=h;obtain⟨w,H⟩:=(c.has g.calm rfl (p:Int)).1 ⟨p,rfl,z⟩;have C:(Lit.int .i64 (p:Int)).wf=true:=WalkArith.wf_i64 (by have:=z.2.1;have:=g.mi.fit.few;omega);have F:∀(i:Nat) (f:Fr),q.af[i]?=some (some f)->f.page=p->f.aj<=0:=λ i f L _=>by have:=g.rest i f L;omega
 have r:=c.op
 cases j:q.op with
 | none=>
  refine(Jw g v j F C w).mono ?_;rintro e l ⟨O,G,rfl,s,t,R,I,K⟩;rw[j]at r;have m:A.op=none:=r.symm;have u:A.give p={A with free:=A.free++[p]}:=by unfold AP.give;rw[m]
  rw[u];exact⟨rfl,⟨FB,M,n,O,G,s,B,⟨by rw[I,c.free,Int.toNat_natCast],K.trans c.aA,by rw[R];exact m.symm⟩⟩,t⟩
 | some o=>
  refine(ki g v j F C w H).mono ?_;rintro e l ⟨rfl,op',Q,s,t⟩;rw[j]at r;have m:A.op=some {was:=o.was,made:=o.made,gone:=o.gone}:=r.symm;have u:A.give p={A with op:=some {was:=o.was,made:=o.made,gone:=o.gone++[(p:Int)]}}:=by unfold AP.give;rw[m]
  rw[u];refine⟨rfl,⟨FB,M,n,_,d,s,B,⟨c.free,c.aA,?_⟩⟩,t⟩;obtain⟨x,y,a,b,J,_,N,f4⟩:=Q;rw[j]at a;obtain rfl:=bf a;show uH op'=_;rw[b];unfold uH;simp only[Option.map_some];rw[J,N,f4]
end
open Go.RowKit
open UK (str aF nth Only Row ay)
def AP.ax(A:AP)(pg:Nat)(s:List UInt8):AP:=(A.keep pg).put pg s
theorem AP.nX(A:AP)(pg:Nat):(A.keep pg).bO=A.bO:=by
 unfold AP.keep AP.bO
 cases a:A.op with
 | none=>simp
 | some o=>
  simp only[Option.map_some]
  split<;>rfl
theorem AP.qj:(A.keep pg).Has p↔A.Has p:=by
 unfold AP.Has;rw[AP.nX];rfl
theorem AP.aC:(A.ax pg s).Has p↔A.Has p:=AP.qj (A:=A) (pg:=pg) (p:=p)
theorem AP.aL:(A.ax pg s).c p=if pg=p then s else A.c p:=rfl
theorem AP.Eu(A:AP)(p:Nat)(s t:List UInt8):(A.put p s).put p t=A.put p t:=by
 have e:bX (bX A.c p s) p t=bX A.c p t:=by
  funext r
  unfold bX;by_cases h:p=r
  ·rw[be h,be h]
  rw[aE h,aE h,aE h]
 unfold AP.put;rw[e]
theorem AP.vU(A:AP)(p:Nat)(s:List UInt8):(A.ax p s).keep p=A.ax p s:=by
 unfold AP.ax AP.keep AP.put
 cases a:A.op with
 | none=>simp
 | some o=>
  simp only[Option.map_some];by_cases h:(p:Int)∈o.made\/(o.was p).isSome=true
  ·simp only[be h]
  simp only[aE h]
  congr 2
  rw[be];exact al (by simp)
theorem AP.lD(A:AP)(p:Nat)(s t:List UInt8):(A.ax p s).ax p t=A.ax p t:=by
 show((A.ax p s).keep p).put p t=_;rw[AP.vU];exact AP.Eu _ p s t
structure AP.Good(A:AP):Prop where
 one:1<=A.au
 aA:(A.au:Int)<=A.aA
 few:A.aA<=60000
 fA:A.free.Nodup
 free:∀p,p∈A.free->1<=p/\p<A.au
 oM:A.bO.Nodup
 gone:∀g,g∈A.bO->∃m:Nat,g=m/\1<=m/\m<A.au/\m∉A.free
def AP.aQ(A:AP):Nat:=(A.aA-A.au).toNat+Y A.free
namespace AP
theorem Good.full(h:A.Good):A.Full↔A.aQ=0:=by
 unfold AP.Full AP.aQ;have:=h.aA;rw[<-List.length_eq_zero_iff];omega
theorem Good.next(h:A.Good)(hf:¬A.Full):¬A.Has A.next/\1<=A.next/\A.next<=60000:=by
 have d:=h.one;have f:=h.aA;have g:=h.few;unfold AP.next;by_cases e:A.free=[]
 ·rw[be e];have:¬A.aA<=A.au:=λ c=>hf ⟨c,e⟩;exact⟨λ a=>absurd a.2.1 Z,Z,Z⟩
 rw[aE e]
 have b:A.free.getLastD 0∈A.free:=by
  rw[List.getLastD_eq_getLast?,List.getLast?_eq_some_getLast e];exact List.getLast_mem e
 have:=h.free _ b;exact⟨λ a=>a.2.2.1 b,Z,Z⟩
theorem sR{l:List Nat}(e:l≠[]):l=l.dropLast++[l.getLastD 0]:=by
 rw[List.getLastD_eq_getLast?,List.getLast?_eq_some_getLast e];exact(List.dropLast_concat_getLast e).symm
theorem Kv:A.take.bO=A.bO:=by
 unfold AP.take AP.bO
 cases A.op<;>rfl
theorem Good.take(h:A.Good)(hf:¬A.Full):A.take.Good/\(∀p,A.take.Has p↔A.Has p\/p=A.next)/\A.take.aQ+1=A.aQ:=by
 have y:=h.one;have z:=h.aA;have x:=h.few;have n:=Kv (A:=A);by_cases e:A.free=[]
 ·have G:(A.au:Int)<A.aA:=by
   have:¬A.aA<=A.au:=λ B=>hf ⟨B,e⟩;omega
  have j:A.take.au=A.au+1:=by show(if A.free=[] then _ else _)=_;rw[be e]
  have f:A.take.free=[]:=by show A.free.dropLast=[];rw[e];rfl
  have u:A.next=A.au:=by unfold AP.next;rw[be e]
  refine⟨⟨Z,by rw[j];show _<=A.aA;omega,x,by rw[f];exact List.nodup_nil,λ p q=>(by rw[f]at q;cases q),by rw[n];exact h.oM,λ g o=>?_⟩,λ p=>?_,?_⟩
  ·rw[n]at o;obtain⟨m,a,b,c,d⟩:=h.gone g o;exact⟨m,a,b,Z,by rw[f];exact List.not_mem_nil⟩
  ·unfold AP.Has;rw[j,f,n,u,e]
   constructor
   ·rintro⟨a,b,c,d⟩;by_cases s:p=A.au
    ·exact al s
    exact O ⟨a,Z,c,d⟩
   rintro(⟨a,b,c,d⟩|rfl)
   ·exact⟨a,Z,c,d⟩
   refine⟨y,Z,List.not_mem_nil,λ i=>?_⟩;obtain⟨m,a,b,c,d⟩:=h.gone _ i;omega
  unfold AP.aQ;rw[j,f,e];show((A.aA-((A.au+1:Nat):Int)).toNat+0)+1=_;show _=(A.aA-A.au).toNat+0;omega
 have k:=sR e;generalize E:A.free.getLastD 0=l at k;generalize F:A.free.dropLast=r at k;have j:A.take.au=A.au:=by show(if A.free=[] then _ else _)=_;rw[aE e]
 have f:A.take.free=r:=F;have u:A.next=l:=by unfold AP.next;rw[aE e];exact E
 have t:=h.fA;rw[k,bN]at t;have w:l∈A.free:=by rw[k];exact lL _ (bu.2 rfl)
 have D:l∉r:=λ i=>t.2.2 l i l (bu.2 rfl) rfl;have v:=h.free l w;refine⟨⟨Z,by rw[j];exact z,x,by rw[f];exact t.1,λ p q=>?_,by rw[n];exact h.oM,λ g o=>?_⟩,λ p=>?_,?_⟩
 ·rw[f]at q;rw[j];exact h.free p (by rw[k];exact fw _ q)
 ·rw[n]at o;obtain⟨m,a,b,c,d⟩:=h.gone g o;exact⟨m,a,b,Z,by rw[f];exact λ i=>d (by rw[k];exact fw _ i)⟩
 ·unfold AP.Has;rw[j,f,n,u,k];simp only[dm,bu]
  constructor
  ·rintro⟨a,b,c,d⟩;by_cases s:p=l
   ·exact al s
   exact O ⟨a,b,λ C=>C.elim c s,d⟩
  rintro(⟨a,b,c,d⟩|rfl)
  ·exact⟨a,b,λ i=>c (O i),d⟩
  refine⟨v.1,v.2,D,λ i=>?_⟩;obtain⟨m,a,_,_,d⟩:=h.gone _ i;have:p=m:=Z
  subst this;exact d w
 unfold AP.aQ;rw[j,f,k,zl];show(A.aA-A.au).toNat+Y r+1=(A.aA-A.au).toNat+(Y r+1);omega
theorem Good.ax(h:A.Good)(p:Nat)(s:List UInt8):(A.ax p s).Good:=by
 have a:(A.ax p s).bO=A.bO:=AP.nX A p;exact⟨h.one,h.aA,h.few,h.fA,h.free,by rw[a];exact h.oM,by rw[a];exact h.gone⟩
theorem oF(p:Nat)(s:List UInt8):(A.ax p s).aQ=A.aQ:=rfl
theorem Good.keep(h:A.Good)(p:Nat):(A.keep p).Good:=by
 have a:(A.keep p).bO=A.bO:=AP.nX A p;exact⟨h.one,h.aA,h.few,h.fA,h.free,by rw[a];exact h.oM,by rw[a];exact h.gone⟩
theorem kH(p:Nat):(A.give p).c=A.c:=by
 unfold AP.give
 cases A.op<;>rfl
theorem Good.give(h:A.Good)(z:A.Has p):(A.give p).Good/\(∀q,(A.give p).Has q↔A.Has q/\q≠p)/\A.aQ<=(A.give p).aQ/\(A.op=none->(A.give p).aQ=A.aQ+1):=by
 obtain⟨t,u,s,v⟩:=z
 cases l:A.op with
 | none=>
  have r:A.give p={A with free:=A.free++[p]}:=by unfold AP.give;rw[l]
  have j:A.bO=[]:=by unfold AP.bO;rw[l]
  have i:({A with free:=A.free++[p]}:AP).bO=[]:=by unfold AP.bO;show(match A.op with|none=>[]|some o=>o.gone)=[];rw[l]
  rw[r];refine⟨⟨h.one,h.aA,h.few,?_,λ q k=>?_,by rw[i];exact List.nodup_nil,λ g f=>(by rw[i]at f;cases f)⟩,λ q=>?_,?_,λ _=>?_⟩
  ·exact bN.2 ⟨h.fA,tZ _ _,λ a m b n=>by rw[bu.1 n];exact λ e=>s (e▸m)⟩
  ·rcases dm.1 k with k|k
   ·exact h.free q k
   rw[bu.1 k];exact⟨t,u⟩
  ·unfold AP.Has;rw[i,j];show 1<=q/\q<A.au/\q∉A.free++[p]/\_↔_;simp only[dm,bu,not_or]
   constructor
   ·rintro⟨a,b,⟨c,d⟩,e⟩;exact⟨⟨a,b,c,e⟩,d⟩
   rintro⟨⟨a,b,c,e⟩,d⟩;exact⟨a,b,⟨c,d⟩,e⟩
  ·unfold AP.aQ;show _<=(A.aA-A.au).toNat+(A.free++[p]).length;rw[zl];omega
  unfold AP.aQ;show(A.aA-A.au).toNat+(A.free++[p]).length=_;rw[zl];show _+(_+1)=_;omega
 | some o=>
  have r:A.give p={A with op:=some {o with gone:=o.gone++[(p:Int)]}}:=by unfold AP.give;rw[l]
  have j:A.bO=o.gone:=by unfold AP.bO;rw[l]
  have i:({A with op:=some {o with gone:=o.gone++[(p:Int)]}}:AP).bO=o.gone++[(p:Int)]:=rfl;rw[j]at v;have w:=h.oM;have x:=h.gone;rw[j]at w x;rw[r];refine⟨⟨h.one,h.aA,h.few,h.fA,h.free,?_,λ g f=>?_⟩,λ q=>?_,aH _,λ e=>by cases e⟩
  ·rw[i];exact bN.2 ⟨w,tZ _ _,λ a m b n=>by rw[bu.1 n];exact λ e=>v (e▸m)⟩
  ·rw[i]at f;rcases dm.1 f with f|f
   ·exact x g f
   exact⟨p,bu.1 f,t,u,s⟩
  unfold AP.Has;rw[i,j];show 1<=q/\q<A.au/\q∉A.free/\_↔_;simp only[dm,bu,not_or]
  constructor
  ·rintro⟨a,b,c,d,e⟩;exact⟨⟨a,b,c,d⟩,λ y=>e (by rw[y])⟩
  rintro⟨⟨a,b,c,d⟩,e⟩;exact⟨a,b,c,d,λ y=>e Z⟩
end AP
structure AP.Moves(Q:AP->Prop):Prop where
 ax:∀(X:AP) (p:Nat) (s:List UInt8),Q X->X.Has p->Q (X.ax p s)
 keep:∀(X:AP) (p:Nat),Q X->X.Has p->Q (X.keep p)
 take:∀X:AP,Q X->¬X.Full->Q X.take
 give:∀(X:AP) (p:Nat),Q X->X.Has p->Q (X.give p)
def AP.Reach(A B:AP):Prop:=∀Q:AP->Prop,AP.Moves Q->Q A->Q B
namespace AP
theorem Reach.refl(A:AP):A.Reach A:=λ _ _ h=>h
theorem Reach.trans{B C:AP}(h:A.Reach B)(k:B.Reach C):A.Reach C:=λ Q m a=>k Q m (h Q m a)
theorem Reach.ax{B:AP}(h:A.Reach B)(b:B.Has p)(s:List UInt8):A.Reach (B.ax p s):=λ Q m a=>m.ax B p s (h Q m a) b
theorem Reach.keep{B:AP}(h:A.Reach B)(b:B.Has p):A.Reach (B.keep p):=λ Q m a=>m.keep B p (h Q m a) b
theorem Reach.take{B:AP}(h:A.Reach B)(hf:¬B.Full):A.Reach B.take:=λ Q m a=>m.take B (h Q m a) hf
theorem Reach.give{B:AP}(h:A.Reach B)(b:B.Has p):A.Reach (B.give p):=λ Q m a=>m.give B p (h Q m a) b
theorem tg:Moves Good:=⟨λ _ _ _ h _=>h.ax _ _,λ _ _ h _=>h.keep _,λ _ h hf=>(h.take hf).1,λ _ _ h a=>(h.give a).1⟩
theorem Reach.good{B:AP}(h:A.Reach B)(g:A.Good):B.Good:=h Good tg g
structure Grown(A B:AP)(ch:List Nat):Prop where
 reach:A.Reach B
 fA:ch.Nodup
 new:∀p,p∈ch->¬A.Has p
 has:∀p,B.Has p↔A.Has p\/p∈ch
 same:∀p,A.Has p->B.c p=A.c p
 aQ:B.aQ+Y ch=A.aQ
theorem Grown.nil(A:AP):Grown A A []:=⟨Reach.refl A,List.nodup_nil,λ _ h=>absurd h List.not_mem_nil,λ p=>by simp,λ _ _=>rfl,rfl⟩
theorem Grown.cons{B:AP}(h:Grown A B ch)(g:B.Good)(hf:¬B.Full)(s:List UInt8):Grown A (B.take.ax B.next s) (B.next::ch):=by
 obtain⟨_,d,l⟩:=g.take hf;have c:=(g.next hf).1
 have j:∀p,B.Has p->(B.take.ax B.next s).c p=B.c p:=λ p b=>by
  have f:B.next≠p:=λ e=>c (e▸b);rw[AP.aL,aE f];show bX B.c B.next (UK.bM 504) p=_;unfold bX;rw[aE f]
 refine⟨(h.reach.take hf).ax ((d _).2 (al rfl)) s,eD.2 ⟨λ k=>c ((h.has _).2 (al k)),h.fA⟩,λ p b i=>?_,λ p=>?_,λ p b=>?_,?_⟩
 ·rcases aN.1 b with rfl|b
  ·exact c ((h.has _).2 (O i))
  exact h.new p b i
 ·rw[AP.aC,d,h.has,aN]
  constructor
  ·rintro((a|a)|a)
   ·exact O a
   ·exact al (al a)
   exact al (O a)
  rintro(a|a|a)
  ·exact O (O a)
  ·exact al a
  exact O (al a)
 ·rw[j p ((h.has p).2 (O b))];exact h.same p b
 have:=h.aQ;rw[AP.oF,dF];omega
end AP
theorem PF.over{P a:Nat}(h:PF E W P D A k a f cap pg F)(g:∀j,R j->E j)(e:¬R 0)(l:W.1.size<=W'.1.size)(b:∀j,j<W.1.size->¬R j->W'.1[j]?=W.1[j]?)(m:∀j,T j->E j\/(W.1.size<=j/\j<W'.1.size)):PF T W' P D A k a f cap pg F:=by
 obtain⟨FB,M,n,q,d,i,o,c,r⟩:=h;exact⟨FB,M,n,q,d,i,o,c.over g e l b m,r⟩
open Go.RowKit
open UK (str aF nth Only Row ay w32)
open Go.BigFrame
namespace UK
def lV(v:UInt64):UInt32:=v.toUInt32
def mJ(v:UInt64):UInt32:=UInt32.ofNat (v.toNat/4294967296)
def uP(a b:UInt32):UInt64:=UInt64.ofNat (a.toNat+b.toNat*4294967296)
@[go_sem] theorem Rt (v:UInt64):(v.toNat:Int)%4294967296=((lV v).toNat:Int):=by
 unfold lV;rw[UInt64.toNat_toUInt32];omega
theorem Tw(v:UInt64):(mJ v).toNat=v.toNat/4294967296:=by
 have:=v.toNat_lt;unfold mJ;rw[UInt32.toNat_ofNat'];omega
@[go_sem] theorem Ru (v:UInt64):(v.toNat:Int)/4294967296=((mJ v).toNat:Int):=by
 rw[Tw];omega
theorem gw(a b:UInt32):(uP a b).toNat=a.toNat+b.toNat*4294967296:=by
 have:=a.toNat_lt;have:=b.toNat_lt;unfold uP;rw[UInt64.toNat_ofNat'];omega
theorem qx(v:UInt64):uP (lV v) (mJ v)=v:=by
 apply mV.1;rw[gw,Tw];have:(lV v).toNat=v.toNat%4294967296:=by unfold lV;rw[UInt64.toNat_toUInt32]
 omega
theorem n8(a b:Nat)(c:a<4294967296):a ||| b*4294967296=a+b*4294967296:=by
 have h:=Nat.two_pow_add_eq_or_of_lt (b:=a) (i:=32) c b;rw[Nat.or_comm,show b*4294967296=2^32*b by rw[Nat.mul_comm],<-h,Nat.add_comm]
def BJ(b:UInt32):UInt64:=UInt64.ofNat (b.toNat*4294967296)
theorem gR(b:UInt32):(BJ b).toNat=b.toNat*4294967296:=by
 have:=b.toNat_lt;unfold BJ;rw[UInt64.toNat_ofNat'];omega
@[go_sem] theorem rW (b:UInt32):(b.toNat:Int)%18446744073709551616=(b.toNat:Int):=by have:=b.toNat_lt;omega
@[go_sem] theorem EN (b:UInt32):(b.toNat:Int)*4294967296%18446744073709551616=((BJ b).toNat:Int):=by
 have:=b.toNat_lt;rw[gR];omega
@[go_sem] theorem Jn (a b:UInt32):bits .or a7 (a.toNat:Int) ((BJ b).toNat:Int)=((uP a b).toNat:Int):=by
 have c:=a.toNat_lt;have d:=b.toNat_lt;rw[u64_or_nat _ _ Z (BJ b).toNat_lt,gR,gw,n8 _ _ c]
end UK
theorem V5(q:aF W B x)(o n c:Nat)(t:8<=n)(r:o+n<=Y x)(p:n<=100000000)(s:n<=c)(v:UInt64) :
  Calls prog 201 #[ad (B,o) n c,V a7 v.toNat] W λ e b=>e=aw (a9 #[])/\aF b B (UK.wr x o (aJ (UK.lV v)++aJ (UK.mJ v)))/\Only B W b:=by
 have d:=zH (GD q o n c Z r p (UK.lV v));have i:(UK.wr x o (aJ (UK.lV v))).length=Y x:=UK.jF _ _ _ (by show o+4<=_;omega);have j:UK.wr (UK.wr x o (aJ (UK.lV v))) (o+4) (aJ (UK.mJ v))=UK.wr x o (aJ (UK.lV v)++aJ (UK.mJ v)):=UK.BV x o (aJ (UK.lV v)) (aJ (UK.mJ v)) Z;have f:=bg i j;clear i j
 go_enter func201,ntmps201
 go_wp2_with fail
 refine d.out.mono ?_;rintro e h ⟨rfl,l,k⟩;have a:=zH (GD l (o+4) (n-4) (c-4) Z (by rw[f.out.1];omega) Z (UK.mJ v));clear d
 go_wp2_with fail
 refine a.out.mono ?_;rintro e u ⟨rfl,g,m⟩;clear a;rw[f.out.2]at g;go_wp2
 go_end0
 exact⟨rfl,g,k.trans m⟩
theorem V9(h:aF W B x)(o n c:Nat)(g:4<=n)(p:o+n<=Y x) :
  Calls prog 115 #[ad (B,o) n c] W λ e b=>e=aw (V .u32 (dS ((x.drop o).take 4)).toNat)/\∃m,b=W.drewN m:=by
 have l:=h.cell (i:=o) Z;have f:=h.cell (i:=o+1) Z;have k:=h.cell (i:=o+2) Z;have i:=h.cell (i:=o+3) Z
 have a:Hid (dS ((x.drop o).take 4)=UK.jZ (UK.jZ (UK.jZ (UK.wide (nth x o)) (UK.shl (UK.wide (nth x (o+1))) 1)) (UK.shl (UK.wide (nth x (o+2))) 2)) (UK.shl (UK.wide (nth x (o+3))) 3)):=by
  show _=_;unfold dS
  have e:∀j,j<4->nth ((x.drop o).take 4) j=nth x (o+j):=λ j d=>by
   simp only[nth,fV];rw[fT d,eP]
  rw[e 0 Z,e 1 Z,e 2 Z,e 3 Z,kg]
 go_enter func115,ntmps115
 go_wp2
 go_quiet (fail)
 go_wp2;go_ret
 exact⟨by rw[a.out]<;>rfl,_,rfl⟩
theorem VB(h:aF W B x)(o n c:Nat)(j:8<=n)(g:o+n<=Y x)(i:n<=c) :
  Calls prog 202 #[ad (B,o) n c] W λ e f=>e=aw (V a7 (UK.uP (dS ((x.drop o).take 4)) (dS ((x.drop (o+4)).take 4))).toNat)/\∃m,f=W.drewN m:=by
 have a:=λ x=>V9 (h.drewN x) o n c Z g;have b:=λ x=>V9 (h.drewN x) (o+4) (n-4) (c-4) Z Z;generalize dS ((x.drop o).take 4)=u at a ⊢;generalize dS ((x.drop (o+4)).take 4)=v at b ⊢
 have d:Hid (bits BinOp.or a7 (IntKind.u64.wrap u.toNat) (IntKind.u64.wrap (IntKind.u64.wrap v.toNat*4294967296))=((UK.uP u v).toNat:Int)):=by
  show _=_;rw[mX,mX,mX,UK.rW,UK.rW,UK.EN,UK.Jn]
 go_enter func202,ntmps202
 go_wp2_with fail
 go_quiet (first|(go_at_call 115;with_reducible exact Calls.quiet_of (a _))|(go_at_call 115;with_reducible exact Calls.quiet_of (b _)))
 go_wp2;go_ret
 exact⟨by rw[d.out]<;>rfl,_,rfl⟩
open Go.RowKit
open UK (str aF nth Only Row ay w32)
open Go.BigFrame
structure Nd where
 leaf:Bool
 ag:List UInt64
 vals:List UInt64
 ak:List Nat
def az(l:List UInt64):List Value:=l.map λ v=>V a7 (v.toNat:Int)
theorem dH(l:List UInt64):(az l).length=Y l:=bS _
theorem tO(l:List UInt64)(i:Nat)(v:UInt64)(h:l[i]?=some v):(az l)[i]?=some (V a7 (v.toNat:Int)):=by unfold az;rw[dL,h];rfl
def gQ(S:Nat->Prop)(W:World)(v:Value)(z:List Value):Prop:=∃C c,v=ad C (Y z) c/\Y z<=c/\∀j u,z[j]?=some u->∃g o,C=some ⟨g,o,none⟩/\S g/\W.cell? ⟨g,o+j,none⟩=some u
def jU(S:Nat->Prop)(W:World)(nb:Nat)(x:Nd):Prop:=∃b a c,ay W nb #[a6 x.leaf,b,a,c]/\S nb/\gQ S W b (az x.ag)/\gQ S W a (az x.vals)/\gQ S W c (ints x.ak)
def b64(v:UInt64):List UInt8:=aJ (UK.lV v)++aJ (UK.mJ v)
theorem Rv(v:UInt64):(b64 v).length=8:=rfl
def qM:List UInt64->List UInt64->List UInt8
 | k::a,v::z=>b64 k++(b64 v++qM a z)
 | _,_=>[]
def qH(y:List UInt8)(a z:List UInt64):List UInt8:=UK.wr ((y.set 0 1).set 1 (UInt8.ofNat (Y a))) 4 (qM a z)
theorem KR:∀(a z:List UInt64),Y z=Y a->(qM a z).length=16*Y a
 | [],[],_=>rfl
 | k::a,v::z,h=>by
  have:=KR a z (by simpa using h);show(b64 k++(b64 v++qM a z)).length=_;rw[zl,zl,Rv,Rv,this,dF];omega
 | [],_::_,h=>by cases h
 | _::_,[],h=>by cases h
theorem cP:∀(c z:List UInt64) (j:Nat) (k v:UInt64),c[j]?=some k->z[j]?=some v->qM (c.take (j+1)) (z.take (j+1))=qM (c.take j) (z.take j)++(b64 k++b64 v)
 | a::c,b::z,0,k,v,d,e=>by
  obtain rfl:a=k:=by simpa using d
  obtain rfl:b=v:=by simpa using e
  show b64 a++(b64 b++qM (c.take 0) (z.take 0))=_;rw[kU,kU];show b64 a++(b64 b++[])=[]++_;rw[jl,iQ]
 | a::c,b::z,j+1,k,v,d,e=>by
  have:=cP c z j k v (by simpa using d) (by simpa using e);show b64 a++(b64 b++qM (c.take (j+1)) (z.take (j+1)))=b64 a++(b64 b++qM (c.take j) (z.take j))++_;rw[this];simp only[cO]
 | [],_,_,_,_,d,_=>by simp at d
 | _::_,[],_,_,_,_,e=>by simp at e
theorem UK.Only.cell{a:World}(h:Only B a w){i:Nat}(b:a.cell? (g,i)=some v)(d:g≠B):w.cell? (g,i)=some v:=by
 have e:g<a.1.size:=by
  refine Nat.lt_of_not_le (λ c=>?_);unfold World.cell? at b;rw[Array.getElem?_eq_none c]at b
  cases b
 exact(eB (a:=⟨g,i,none⟩) (h.block g e d)).trans b
theorem V6{x:Nd}(h8:jU S W nb x)(hl:x.leaf=true)(hn:Y x.ag<=30)(u:Y x.vals=Y x.ag)(c:aF W f y)(hh:Y y=cap)(hc:504<=cap)(z:¬S f) :
  Calls prog 134 #[ad f 504 cap,aq nb] W λ e K=>e=aw (a9 #[])/\aF K f (qH y x.ag x.vals)/\Only f W K:=by
 obtain⟨kv,vv,av,a,h6,⟨ka,kc,rfl,h5,P⟩,⟨va,vc,rfl,h0,h2⟩,_⟩:=h8;rw[dH,dH,hl,u]at a;rw[dH]at h5 h0;rw[u]at h0;have c0:=a.c0;have c1:=a.c1;have H:=a.c2;have h9:nb≠f:=λ e=>z (e▸h6);have d0:=c.cell (i:=0) Z;have d1:=c.cell (i:=1) Z;have f0:=c.free (i:=0) Z;have f1:=c.free (i:=1) Z;have R:((UInt8.ofNat (Y x.ag)).toNat:Int)=Y x.ag:=by rw[UInt8.toNat_ofNat'];omega
 have D:=(c.set 0 1).set 1 (UInt8.ofNat (Y x.ag));have p:=((Only.refl f W).set 0 (V .u8 ((1:UInt8).toNat:Int))).set 1 (V .u8 ((UInt8.ofNat (Y x.ag)).toNat:Int));rw[R,show((1:UInt8).toNat:Int)=1 from rfl]at D p;have H2:=bg D p;have HB:=zH a;clear R D p a
 go_enter func134,ntmps134
 go_wp2_with fail
 obtain⟨w,h1⟩:=H2.out;have C:((y.set 0 1).set 1 (UInt8.ofNat (Y x.ag))).length=cap:=by rw[aV,aV];exact hh
 generalize X:(y.set 0 1).set 1 (UInt8.ofNat (Y x.ag))=l at w C;have V4:=zH X;clear X H2
 go_loopw [29] (λ F wr=>∃j:Nat,F=V U j/\j<=Y x.ag/\aF wr f (UK.wr l 4 (qM (x.ag.take j) (x.vals.take j)))/\Only f W wr) (λ F _=>31-(intOf F).toNat)
 case atStart=>exact⟨0,rfl,aR _,by rw[kU,kU];show aF _ _ (UK.wr l 4 []);rw[UK.Po];exact w,h1⟩
 clear w h1 c c0 c1 d0 d1 f0 f1;obtain⟨j,rfl,hj,a,m⟩:=hrel;by_cases he:j<Y x.ag
 ·obtain⟨b,E⟩:∃k,x.ag[j]?=some k:=⟨_,bK he⟩;obtain⟨i,G⟩:∃v,x.vals[j]?=some v:=⟨_,bK Z⟩;obtain⟨g,o,rfl,hg,I⟩:=P j _ (tO _ _ _ E);obtain⟨Q,p,rfl,ha,q⟩:=h2 j _ (tO _ _ _ G);have hb:g≠f:=λ e=>z (e▸hg);have Wd:Q≠f:=λ e=>z (e▸ha);replace I:=m.cell I hb;have t:(qM (x.ag.take j) (x.vals.take j)).length=16*j:=by rw[KR _ _ (by rw[zt,zt];omega),zt];omega
  have h7:(UK.wr l 4 (qM (x.ag.take j) (x.vals.take j))).length=cap:=by rw[UK.jF _ _ _ Z];exact C
  have B:=UK.BV l 4 (qM (x.ag.take j) (x.vals.take j)) (b64 b) Z;rw[t]at B;have d:=UK.BV l 4 (qM (x.ag.take j) (x.vals.take j)++b64 b) (b64 i) Z;rw[zl,t,Rv,show 4+(16*j+8)=12+16*j from Z]at d;have r:(UK.wr l 4 (qM (x.ag.take j) (x.vals.take j)++b64 b)).length=cap:=by rw[UK.jF _ _ _ (by rw[zl,t,Rv];omega)];exact C
  have n:=cP x.ag x.vals j b i E G;have J:=V5 a (4+16*j) (504-(4+16*j)) (cap-(4+16*j)) Z Z Z Z b;rw[show aJ (UK.lV b)++aJ (UK.mJ b)=b64 b from rfl,B]at J;have M:=zH J;have HX:=br d r n q m;clear J B d h7 r n t P h2 E G a q H
  go_wp2_with fail
  refine M.out.mono ?_;rintro e h ⟨rfl,b1,O⟩;obtain⟨d,r,n,q,m⟩:=HX.out;have s:=m.trans O;have h4:=s.cell q Wd;have H:h.cell? (nb,2)=some (ad (Q,p) (Y x.ag) vc):=s.cell (HB.out.cell 2 _ rfl) h9;have A:=V5 (b1.drew) (12+16*j) (504-(12+16*j)) (cap-(12+16*j)) Z Z Z Z i;rw[show aJ (UK.lV i)++aJ (UK.mJ i)=b64 i from rfl,d,cO,<-n]at A;have L:=zH A;have h3:=zH s;clear M HX A d r n q m b1 O s I
  go_wp2_with fail
  have i1:(j:Int)<(Y x.ag:Int):=Z
  have i2:(12:Int)+16*j<=504:=Z
  have i3:¬(cap=12+16*j):=Z
  have i4:(12+16*(j:Int)).toNat=12+16*j:=Z
  have i5:(0:Int)<=12+16*(j:Int):=Z
  have n1:IntKind.i64.wrap (16*(j:Int))=16*(j:Int):=by rw[dM];omega
  have n2:IntKind.i64.wrap (12+16*(j:Int))=12+16*(j:Int):=by rw[dM];omega
  go_still_tail 12,(by kernel_rfl)
  change wpList _ _ _ _ _ h.drew
  go_wp2_with fail
  refine L.out.mono ?_;rintro e w2 ⟨rfl,b2,T⟩;have N:=bg b2 (h3.out.drew.trans T);clear L h3 b2 T H h4;go_wp2;go_roundw
  case rel=>exact⟨j+1,by go_num,Z,N.out.1,N.out.2⟩
  case measure=>simp[intOf];omega
 obtain rfl:j=Y x.ag:=Z
 rw[dY,<-u,dY]at a;go_wp2;refine bodyPost_ret (results_none rfl _ _ _) rfl ?_;refine⟨rfl,?_,m⟩;unfold qH;rw[V4.out];exact a
def rQ(y:List UInt8)(o:Nat):UInt64:=UK.uP (dS ((y.drop o).take 4)) (dS ((y.drop (o+4)).take 4))
def qm(y:List UInt8)(n:Nat):List UInt64:=(List.range n).map λ i=>rQ y (4+16*i)
def rR(y:List UInt8)(n:Nat):List UInt64:=(List.range n).map λ i=>rQ y (12+16*i)
theorem CO(y:List UInt8)(n:Nat):(qm y n).length=n:=by simp[qm]
theorem Gh(y:List UInt8)(n:Nat):(rR y n).length=n:=by simp[rR]
theorem mz(y:List UInt8)(n:Nat):qm y (n+1)=qm y n++[rQ y (4+16*n)]:=by simp[qm,List.range_succ]
theorem FF(y:List UInt8)(n:Nat):rR y (n+1)=rR y n++[rQ y (12+16*n)]:=by simp[rR,List.range_succ]
def NR(W:World)(C:Option Addr)(c:Nat)(z:List Value):Prop:=(C=none/\z=[]/\c=0)\/∃g,C=some ⟨g,0,none⟩/\Row W g c z
structure aZ(N:Nat)(W:World)(nb:Nat)(x:Nd)(ka va aa:Option Addr)(kc vc ac:Nat):Prop where
 box:ay W nb #[a6 x.leaf,ad ka (Y x.ag) kc,ad va (Y x.vals) vc,ad aa (Y x.ak) ac]
 k:NR W ka kc (az x.ag)
 v:NR W va vc (az x.vals)
 a:NR W aa ac (ints x.ak)
 ge:N<=nb
 new:∀g,aG ka g\/aG va g\/aG aa g->N<=g/\g≠nb
 kv:∀g,aG ka g->¬aG va g
 ka:∀g,aG ka g->¬aG aa g
 va:∀g,aG va g->¬aG aa g
section
variable{N kc vc ac:Nat}{ka va aa:Option Addr}{x:Nd}
theorem NR.nil:NR W none 0 []:=O ⟨rfl,rfl,rfl⟩
theorem NR.lt{c:Nat}(h:NR W C c z)(a:aG C g):g<W.1.size:=by
 rcases h with⟨h,_⟩|⟨b,h,r⟩
 ·rw[aG,h]at a;cases a
 rw[h]at a;rw[eY a];exact r.lt
theorem NR.ae{c:Nat}(h:NR W C c z)(a:W.1.size<=W'.1.size)(d:∀g,aG C g->W'.1[g]?=W.1[g]?):NR W' C c z:=by
 rcases h with h|⟨b,h,r⟩
 ·exact O h
 exact al ⟨b,h,r.ae a (d b h)⟩
theorem NR.only{c:Nat}(h:NR W C c z)(b:Only B W W')(d:¬aG C B):NR W' C c z:=h.ae b.size (λ g a=>b.block g (h.lt a) (λ e=>d (e▸a)))
theorem aZ.ae(h:aZ N W nb x ka va aa kc vc ac)(c:W.1.size<=W'.1.size)(b:∀g,N<=g->g<W.1.size->W'.1[g]?=W.1[g]?):aZ N W' nb x ka va aa kc vc ac:=
 ⟨h.box.ae (b nb h.ge h.box.lt),h.k.ae c (λ g a=>b g (h.new g (O a)).1 (h.k.lt a)),h.v.ae c (λ g a=>b g (h.new g (al (O a))).1 (h.v.lt a)),h.a.ae c (λ g a=>b g (h.new g (al (al a))).1 (h.a.lt a)),h.ge,h.new,h.kv,h.ka,h.va⟩
theorem aZ.next(h:aZ N W nb x ka va aa kc vc ac)(a:Below W W W'):aZ N W' nb x ka va aa kc vc ac:=h.ae a.size (λ g _ b=>a.block g b)
theorem aZ.Om(a:aZ N W nb x ka va aa kc vc ac)(t:Row h e r (az l))(o:Only e W h)(i:aG ka e\/W.1.size<=e)(m:N<=W.1.size) :
  aZ N (h.setCell (nb,1) (ad e (Y l) r)) nb {x with ag:=l} e va aa r vc ac/\Below N W (h.setCell (nb,1) (ad e (Y l) r))/\ay h nb #[a6 x.leaf,ad ka (Y x.ag) kc,ad va (Y x.vals) vc,ad aa (Y x.ak) ac]:=by
 have g:N<=e/\e≠nb:=by
  rcases i with d|d
  ·exact a.new e (O d)
  have:=a.box.lt;omega
 have q:¬aG va e:=by
  rcases i with d|d
  ·exact a.kv e d
  exact λ c=>by have:=a.v.lt c;omega
 have k:¬aG aa e:=by
  rcases i with d|d
  ·exact a.ka e d
  exact λ c=>by have:=a.a.lt c;omega
 have n:=a.box.only o g.2.symm;have f:=(Only.refl nb h).set 1 (ad e (Y l) r);have s:=n.set 1 (ad e (Y l) r);have p:Below N W (h.setCell (nb,1) (ad e (Y l) r)):=(o.below m g.1).trans (f.below (aT m o.size) a.ge);generalize h.setCell (nb,1) (ad e (Y l) r)=u at f s p ⊢;refine⟨⟨?_,al ⟨e,rfl,t.only f g.2⟩,(a.v.only o q).only f (λ c=>(a.new nb (al (O c))).2 rfl),(a.a.only o k).only f (λ c=>(a.new nb (al (al c))).2 rfl),a.ge,λ j b=>?_,λ j b c=>q (eY b▸c),λ j b c=>k (eY b▸c),a.va⟩,p,n⟩
 ·simpa using s
 rcases b with b|b|b
 ·rw[eY b];exact g
 ·exact a.new j (al (O b))
 exact a.new j (al (al b))
theorem aZ.We(a:aZ N W nb x ka va aa kc vc ac)(t:Row h e r (az l))(o:Only e W h)(i:aG va e\/W.1.size<=e)(m:N<=W.1.size) :
  aZ N (h.setCell (nb,2) (ad e (Y l) r)) nb {x with vals:=l} ka e aa kc r ac/\Below N W (h.setCell (nb,2) (ad e (Y l) r))/\ay h nb #[a6 x.leaf,ad ka (Y x.ag) kc,ad va (Y x.vals) vc,ad aa (Y x.ak) ac]:=by
 have g:N<=e/\e≠nb:=by
  rcases i with d|d
  ·exact a.new e (al (O d))
  have:=a.box.lt;omega
 have q:¬aG ka e:=by
  rcases i with d|d
  ·exact λ b=>a.kv e b d
  exact λ b=>by have:=a.k.lt b;omega
 have k:¬aG aa e:=by
  rcases i with d|d
  ·exact a.va e d
  exact λ b=>by have:=a.a.lt b;omega
 have n:=a.box.only o g.2.symm;have f:=(Only.refl nb h).set 2 (ad e (Y l) r);have s:=n.set 2 (ad e (Y l) r);have p:Below N W (h.setCell (nb,2) (ad e (Y l) r)):=(o.below m g.1).trans (f.below (aT m o.size) a.ge);generalize h.setCell (nb,2) (ad e (Y l) r)=u at f s p ⊢;refine⟨⟨?_,(a.k.only o q).only f (λ b=>(a.new nb (O b)).2 rfl),al ⟨e,rfl,t.only f g.2⟩,(a.a.only o k).only f (λ b=>(a.new nb (al (al b))).2 rfl),a.ge,λ j c=>?_,λ j c b=>q (eY b▸c),a.ka,λ j c b=>k (eY c▸b)⟩,p,n⟩
 ·simpa using s
 rcases c with c|c|c
 ·exact a.new j (O c)
 ·rw[eY c];exact g
 exact a.new j (al (al c))
theorem aZ.VA(a:aZ N W nb x ka va aa kc vc ac){l:List Nat}(t:Row h e r (ints l))(o:Only e W h)(i:aG aa e\/W.1.size<=e)(m:N<=W.1.size) :
  aZ N (h.setCell (nb,3) (ad e (Y l) r)) nb {x with ak:=l} ka va e kc vc r/\Below N W (h.setCell (nb,3) (ad e (Y l) r))/\ay h nb #[a6 x.leaf,ad ka (Y x.ag) kc,ad va (Y x.vals) vc,ad aa (Y x.ak) ac]:=by
 have g:N<=e/\e≠nb:=by
  rcases i with d|d
  ·exact a.new e (al (al d))
  have:=a.box.lt;omega
 have q:¬aG ka e:=by
  rcases i with d|d
  ·exact λ b=>a.ka e b d
  exact λ b=>by have:=a.k.lt b;omega
 have k:¬aG va e:=by
  rcases i with d|d
  ·exact λ b=>a.va e b d
  exact λ b=>by have:=a.v.lt b;omega
 have n:=a.box.only o g.2.symm;have f:=(Only.refl nb h).set 3 (ad e (Y l) r);have s:=n.set 3 (ad e (Y l) r);have p:Below N W (h.setCell (nb,3) (ad e (Y l) r)):=(o.below m g.1).trans (f.below (aT m o.size) a.ge);generalize h.setCell (nb,3) (ad e (Y l) r)=u at f s p ⊢;refine⟨⟨?_,(a.k.only o q).only f (λ b=>(a.new nb (O b)).2 rfl),(a.v.only o k).only f (λ b=>(a.new nb (al (O b))).2 rfl),al ⟨e,rfl,t.only f g.2⟩,a.ge,λ j c=>?_,a.kv,λ j c b=>q (eY b▸c),λ j c b=>k (eY b▸c)⟩,p,n⟩
 ·simpa using s
 rcases c with c|c|c
 ·exact a.new j (O c)
 ·exact a.new j (al (O c))
 rw[eY c];exact g
theorem Fz{c:Nat}(h:NR W C c (az l))(g:Y l<1000000)(v:UInt64) :
  ∃e r W',(Builtin.append_ #[88,88] 88 #[ad C (Y l) c,ad W 1 1]).run prog (W.alloc (.cells #[V a7 (v.toNat:Int)] 77))= .ok (ad (some ⟨e,0,none⟩) (Y l+1) r) W'/\Row W' e r (az (l++[v]))/\Only e W W'/\(aG C e\/W.1.size<=e):=by
 have a:(az l).length=Y l:=dH l;obtain⟨e,r,W',b,f,o,d⟩:=UK.J8 (P:=prog) (t:=88) (ty:=88) underlying88 (i:=t77) rfl rfl rfl (show(8:Nat)<=16 from Z) rfl h (V a7 (v.toNat:Int)) rfl (by rw[a];omega);rw[a]at b;exact⟨e,r,W',b,by unfold az at *;rw[dI];exact f,o,d⟩
end
theorem UK.aM{t g e:TypeId}{b d f:Value}{c:World}(j:(Builtin.append_ #[t,g] e #[b,d]).run P w= .ok f c){E:Prop}{s x:Operand}(h:o.guard=none)(p:o.op=Op.call {callee:=Callee.builtin Builtin.append,args:= #[s,x],argTypes:= #[t,g]})(l:o.type=e)(n:a.eval s=b)(k:a.eval x=d)(i:K (a.put o.dst f) c) :
  if Region.wanted o (yielded ops a.tmps)=true then Oper.wp P o a w K Q else E:=by
 have m:Region.wanted o (yielded ops a.tmps)=true:=by simp[Region.wanted,h]
 rw[be m];subst l;unfold Oper.wp;simp[execOp,p,resolve,invoke,builtin,n,k,j,Result.andThen];exact i
theorem ew(C:aF W f y)(h8:Y y=cap)(hc:504<=cap)(h0:nth y 0=1)(h1:(nth y 1).toNat=n)(hn:n<=30) :
  Calls prog 207 #[ad f 504 cap] W λ a k=>∃nb i d c b,a=aw (a9 #[aq (some ⟨nb,0,none⟩),V U 0])/\aZ W k nb {leaf:=true,ag:=qm y n,vals:=rR y n,ak:=[]} i d none c b 0/\Below W W k:=by
 have H:=C.cell (i:=0) Z;have X:=C.cell (i:=1) Z;rw[h0]at H;rw[show((nth y 1).toNat:Int)=n from Z]at X;replace H:W.cell? f=some (V .u8 1):=H;have R:f<W.1.size:=C.lt;have h3:=ay.new W #[a6 true,ad none 0 0,ad none 0 0,ad none 0 0] 212
 have Q:aZ W (W.alloc (.cells #[a6 true,ad none 0 0,ad none 0 0,ad none 0 0] 212)) W {leaf:=true,ag:=qm y 0,vals:=rR y 0,ak:=[]} none none none 0 0 0:=
  ⟨h3,NR.nil,NR.nil,NR.nil,aH _,λ g v=>(by rcases v with t|t|t<;>cases t),λ g t=>(by cases t),λ g t=>(by cases t),λ g t=>(by cases t)⟩
 have h2:Below W W (W.alloc (.cells #[a6 true,ad none 0 0,ad none 0 0,ad none 0 0] 212)):=(aU _ _).alloc (aH _) _;have P:(n:Int)<=30:=Z
 have h5:decide ((n:Int)<=30)=true:=decide_eq_true P;clear h3 P
 go_enter func207,ntmps207
 go_wp2_with fail
 go_loopw [26] (λ M wr=>∃(j:Nat) (i d:Option Addr) (c b:Nat),M=V U j/\j<=n/\aZ W wr W {leaf:=true,ag:=qm y j,vals:=rR y j,ak:=[]} i d none c b 0/\Below W W wr) (λ M _=>31-(intOf M).toNat)
 case atStart=>exact⟨0,none,none,0,0,rfl,aR _,Q,h2⟩
 clear Q h2 H X;obtain⟨j,i,d,c,b,rfl,hj,l,q⟩:=hrel;by_cases h7:j<n
 ·have I:=C.below q R;have F:=q.size;have c1:wr.cell? (W.1.size,1)=some (ad i j c):=by rw[l.box.cell 1 _ rfl];show some (ad i (qm y j).length c)=_;rw[CO]
  have w:Calls prog 202 #[ad (f,4+16*j) (504-(4+16*j)) (cap-(4+16*j))] wr.drew λ a k=>a=aw (V a7 ((rQ y (4+16*j)).toNat:Int))/\∃m,k=wr.drew.drewN m:=VB (I.drew) (4+16*j) (504-(4+16*j)) (cap-(4+16*j)) Z Z Z;have c1a:∀x o,((wr.drewN x).alloc o).cell? (W.1.size,1)=some (ad i j c):=λ x o=>by rw[((l.box.ae (W':=wr.drewN x) rfl).alloc o).cell 1 _ rfl];show some (ad i (qm y j).length c)=_;rw[CO]
  have K:=zH w
  have E:∀m,∃p:Nat×Nat×World,(Builtin.append_ #[88,88] 88 #[ad i j c,ad wr 1 1]).run prog ((wr.drewN m).alloc (.cells #[V a7 ((rQ y (4+16*j)).toNat:Int)] 77))= .ok (ad p.1 (j+1) p.2.1) p.2.2/\p.2.2.cell? (W.1.size,1)=some (ad i j c)/\p.2.2.frozen? ⟨W.1.size,1,none⟩=false /\
    aZ W (p.2.2.setCell (W.1.size,1) (ad p.1 (j+1) p.2.1)) W {leaf:=true,ag:=qm y (j+1),vals:=rR y j,ak:=[]} p.1 d none p.2.1 b 0/\Below W W (p.2.2.setCell (W.1.size,1) (ad p.1 (j+1) p.2.1)):=λ m=>by
   have D:=l.next (W':=wr.drewN m) (UK.dN (aU _ _) m);obtain⟨e,r,k,a,N,o,v⟩:=Fz D.k (by rw[CO];omega) (rQ y (4+16*j));rw[CO]at a;obtain⟨z,A,B⟩:=D.Om N o v F;rw[<-mz,CO]at z A;refine⟨(e,r,k),a,?_,B.free 1,z,(q.trans (UK.dN (aU _ _) m)).trans A⟩;rw[B.cell 1 _ rfl];show some (ad i (qm y j).length c)=_;rw[CO]
  obtain⟨h4,s⟩:=Classical.skolem.1 E;have u:=zH s;have cG:=λ m=>(s m).2.1;have fG:=λ m=>(s m).2.2.1;clear E s w;have n1:IntKind.i64.wrap (16*(j:Int))=16*(j:Int):=by rw[dM];omega
  have S:IntKind.i64.wrap (4+16*(j:Int))=4+16*(j:Int):=by rw[dM];omega
  have T:(4:Int)+16*j<=504:=Z
  have O:¬(cap=4+16*j):=Z
  have i4:(4+16*(j:Int)).toNat=4+16*j:=Z
  have i5:(0:Int)<=4+16*(j:Int):=Z
  go_upto_region 7 with(fail)
  go_cut [] (λ wx=>∃(G:Option Addr) (J:Nat),aZ W wx W {leaf:=true,ag:=qm y (j+1),vals:=rR y j,ak:=[]} G d none J b 0/\Below W W wx)
  case first=>
   go_region_law (first|(refine UK.aM (u.out _).1 rfl rfl rfl (by simp[Act.eval]) (by simp[Act.eval]) ?_)|(go_simp;go_at_call 202;refine K.out.mono ?_;rintro a w2 ⟨rfl,m,rfl⟩))
   all_goals
    go_wp2_with fail
    go_meet
    case rel=>exact⟨_,_,(u.out _).2.2.2.1,(u.out _).2.2.2.2⟩
  clear K u cG fG c1 c1a l q I F;obtain⟨G,J,l,q⟩:=hcut;have I:=C.below q R;have F:=q.size;have L:∀h,ay h W #[a6 true,ad G (qm y (j+1)).length J,ad d (rR y j).length b,ad none 0 0]->h.cell? (W.1.size,2)=some (ad d j b):=λ h hb=>(hb.cell 2 _ rfl).trans (by rw[Gh];rfl);have c2:=L _ l.box;have h6:∀x o,((wc.drewN x).alloc o).cell? (W.1.size,2)=some (ad d j b):=λ x o=>L _ ((l.box.ae (W':=wc.drewN x) rfl).alloc o);have w:Calls prog 202 #[ad (f,12+16*j) (504-(12+16*j)) (cap-(12+16*j))] wc.drew λ a k=>a=aw (V a7 ((rQ y (12+16*j)).toNat:Int))/\∃m,k=wc.drew.drewN m:=VB (I.drew) (12+16*j) (504-(12+16*j)) (cap-(12+16*j)) Z Z Z;have K:=zH w
  have E:∀m,∃p:Nat×Nat×World,(Builtin.append_ #[88,88] 88 #[ad d j b,ad wc 1 1]).run prog ((wc.drewN m).alloc (.cells #[V a7 ((rQ y (12+16*j)).toNat:Int)] 77))= .ok (ad p.1 (j+1) p.2.1) p.2.2/\p.2.2.cell? (W.1.size,2)=some (ad d j b)/\p.2.2.frozen? ⟨W.1.size,2,none⟩=false /\
    aZ W (p.2.2.setCell (W.1.size,2) (ad p.1 (j+1) p.2.1)) W {leaf:=true,ag:=qm y (j+1),vals:=rR y (j+1),ak:=[]} G p.1 none J p.2.1 0/\Below W W (p.2.2.setCell (W.1.size,2) (ad p.1 (j+1) p.2.1)):=λ m=>by
   have D:=l.next (W':=wc.drewN m) (UK.dN (aU _ _) m);obtain⟨e,r,k,a,N,o,v⟩:=Fz D.v (by rw[Gh];omega) (rQ y (12+16*j));rw[Gh]at a;obtain⟨z,A,B⟩:=D.We N o v F;rw[<-FF,Gh]at z A;exact⟨(e,r,k),a,L _ B,B.free 2,z,(q.trans (UK.dN (aU _ _) m)).trans A⟩
  obtain⟨h4,s⟩:=Classical.skolem.1 E;have u:=zH s;have cG:=λ m=>(s m).2.1;have fG:=λ m=>(s m).2.2.1;clear E s w L T O i4 i5 S;have S:IntKind.i64.wrap (12+16*(j:Int))=12+16*(j:Int):=by rw[dM];omega
  have T:(12:Int)+16*j<=504:=Z
  have O:¬(cap=12+16*j):=Z
  have i4:(12+16*(j:Int)).toNat=12+16*j:=Z
  have i5:(0:Int)<=12+16*(j:Int):=Z
  go_wp2_with fail
  go_region_law (first|(refine UK.aM (u.out _).1 rfl rfl rfl (by simp[Act.eval]) (by simp[Act.eval]) ?_)|(go_simp;go_at_call 202;refine K.out.mono ?_;rintro a w2 ⟨rfl,m,rfl⟩))
  all_goals
   go_wp2;go_roundw
   case rel=>exact⟨j+1,_,_,_,_,by go_num,Z,(u.out _).2.2.2.1,(u.out _).2.2.2.2⟩
   case measure=>simp[intOf];omega
 obtain rfl:j=n:=Z
 go_wp2;go_ret2
 exact⟨W.1.size,i,d,c,b,rfl,l,q⟩
end Go.Proofs.YtgpmiliahonaoaaGreatDoor
namespace Go.Proofs.YtgpmiliahonaoaaGreatDoor.DP
variable{b a k u i n m:Nat}
structure Rc where
 r:Nat
 c:Nat
 h:Nat
 w:Nat
 deriving DecidableEq
variable{q:Rc}{l:List Rc}
def Rc.ok(q:Rc):Prop:=1<=q.h/\1<=q.w/\q.r+q.h<=3000/\q.c+q.w<=700
def Rc.has(q:Rc)(a b:Nat):Bool:=decide (q.r<=a/\a<q.r+q.h/\q.c<=b/\b<q.c+q.w)
def bi(a b:Nat):Nat:=a*4294967296+b
def rY:Nat:=18446744073709551615
def Rc.nr(q:Rc):Nat:=(q.r+q.h-1)/16-q.r/16+1
def Rc.nc(q:Rc):Nat:=(q.c+q.w-1)/16-q.c/16+1
def Rc.pM(q:Rc):List Nat:=
 if 64<q.nr*q.nc then [rY] else(List.range q.nr).flatMap λ i=>(List.range q.nc).map λ k=>bi (q.r/16+i) (q.c/16+k)
theorem X5(d:¬64<q.nr*q.nc):b∈q.pM↔∃i k,i<q.nr/\k<q.nc/\b=bi (q.r/16+i) (q.c/16+k):=by
 unfold Rc.pM;rw[aE d];simp only[List.mem_flatMap,bL,ky]
 constructor
 ·rintro⟨i,c,k,a,rfl⟩;exact⟨i,k,c,a,rfl⟩
 rintro⟨i,k,c,a,rfl⟩;exact⟨i,c,k,a,rfl⟩
theorem Rc.ok.small(h:q.ok):q.r/16+q.nr<=188/\q.c/16+q.nc<=44:=by
 obtain⟨a,b,d,c⟩:=h;unfold Rc.nr Rc.nc;omega
theorem vC(h:q.ok)(a:b∈q.pM):b=rY\/b<188*4294967296:=by
 by_cases c:64<q.nr*q.nc
 ·unfold Rc.pM at a;rw[be c]at a;exact O (by simpa using a)
 obtain⟨i,k,d,e,rfl⟩:=(X5 c).1 a;have:=h.small
 right;unfold bi;omega
theorem Iv(h:q.has a b=true):rY∈q.pM\/bi (a/16) (b/16)∈q.pM:=by
 unfold Rc.has at h;have h:=of_decide_eq_true h;by_cases c:64<q.nr*q.nc
 ·left;unfold Rc.pM;rw[be c];simp
 right
 refine(X5 c).2 ⟨a/16-q.r/16,b/16-q.c/16,?_,?_,?_⟩
 ·unfold Rc.nr;omega
 ·unfold Rc.nc;omega
 rw[show q.r/16+(a/16-q.r/16)=a/16 from Z,show q.c/16+(b/16-q.c/16)=b/16 from Z]
def Up(l:List Nat):Prop:=l.Pairwise (·< ·)
theorem GK(h:q.ok):Up q.pM:=by
 unfold Rc.pM Up
 split
 ·simp
 rw[List.pairwise_flatMap];have:=h.small;refine⟨λ i a=>?_,?_⟩
 ·rw[List.pairwise_map];exact List.pairwise_lt_range.imp λ e=>by unfold bi;omega
 refine List.pairwise_lt_range.imp_of_mem λ {i j} a d g x c y b=>?_;simp only[bL,ky]at c b a d;obtain⟨k,f,rfl⟩:=c;obtain⟨l,m,rfl⟩:=b;unfold bi;omega
def share(b:Nat)(l:List Rc):List Rc:=l.filter λ q=>decide (b∈q.pM)
abbrev bU:=Nat×List Rc
variable{X:List bU}{y:bU}
def aS(k:Nat)(l:List Rc):List bU->List bU
 | []=>if l=[] then [] else [(k,l)]
 | x::a=>if x.1<k then x::aS k l a else if x.1=k then(if l=[] then a else(k,l)::a) else(if l=[] then x::a else(k,l)::x::a)
def jc(X:List bU):Prop:=X.Pairwise λ a b=>a.1<b.1
def iq(b:Nat)(X:List bU):List bU:=X.filterMap λ x=>if share b x.2=[] then none else some (x.1,share b x.2)
theorem l8(h:y∈aS k l X):y∈X\/(y=(k,l)/\l≠[]):=by
 induction X with
 | nil=>unfold aS at h;split at h<;>simp_all
 | cons x b a=>
  unfold aS at h
  split at h
  ·rcases aN.1 h with rfl|h
   ·exact O (bI ..)
   rcases a h with h|h
   ·exact O (cK _ h)
   exact al h
  split at h
  ·split at h
   ·exact O (cK _ h)
   rcases aN.1 h with rfl|h
   ·exact al ⟨rfl,by assumption⟩
   exact O (cK _ h)
  split at h
  ·exact O h
  rcases aN.1 h with rfl|h
  ·exact al ⟨rfl,by assumption⟩
  exact O h
theorem FG(h:jc X):jc (aS k l X):=by
 induction X with
 | nil=>unfold aS;split<;>simp[jc]
 | cons x e d=>
  obtain⟨b,c⟩:=cu.1 h;unfold aS
  split
  ·refine cu.2 ⟨λ y a=>?_,d c⟩;rcases l8 a with a|⟨rfl,_⟩
   ·exact b y a
   assumption
  split
  ·split
   ·exact c
   refine cu.2 ⟨λ y a=>?_,c⟩;have:=b y a;simp only;omega
  split
  ·exact h
  refine cu.2 ⟨λ y a=>?_,h⟩;rcases aN.1 a with rfl|a
  ·simp only;omega
  have:=b y a;simp only;omega
theorem iK:y∈iq b X↔∃x∈X,share b x.2≠[]/\y=(x.1,share b x.2):=by
 unfold iq;rw[List.mem_filterMap]
 constructor
 ·rintro⟨x,a,h⟩
  split at h
  ·cases h
  exact⟨x,a,by assumption,(bf h).symm⟩
 rintro⟨x,a,h,rfl⟩;exact⟨x,a,by rw[aE h]⟩
theorem zN(h:jc X):jc (iq b X):=by
 unfold iq jc;rw[List.pairwise_filterMap];refine h.imp λ {x y} e a d f c=>?_
 split at d
 ·cases d
 split at c
 ·cases c
 rw[<-bf d,<-bf c];exact e
theorem fM(h:∀x∈X,k<x.1):aS k [] X=X:=by
 cases X with
 | nil=>rfl
 | cons x a=>
  have:=h x (bI ..);unfold aS;rw[aE Z,aE Z,be rfl]
theorem gJ(a:l≠[])(h:∀x∈X,k<x.1):aS k l X=(k,l)::X:=by
 cases X with
 | nil=>unfold aS;rw[aE a]
 | cons x b=>
  have:=h x (bI ..);unfold aS;rw[aE Z,aE Z,aE a]
theorem wJ(b k:Nat)(l:List Rc)(h:jc X):iq b (aS k l X)=aS k (share b l) (iq b X):=by
 have p:∀(l:List Rc),l=[]->share b l=[]:=λ l h=>by subst h;rfl
 have f:∀(a:List bU),(∀y∈a,k<y.1)->∀y∈iq b a,k<y.1:=λ a t y i=>by
  obtain⟨x,u,_,rfl⟩:=iK.1 i;exact t x u
 induction X with
 | nil=>
  show iq b (aS k l [])=aS k (share b l) [];unfold aS;by_cases e:l=[]
  ·rw[be e,be (p l e)];rfl
  rw[aE e];by_cases o:share b l=[]<;>simp[iq,o]
 | cons x a v=>
  obtain⟨s,o⟩:=cu.1 h
  have j:∀(y:bU) (m:List bU),iq b (y::m)=if share b y.2=[] then iq b m else(y.1,share b y.2)::iq b m:=λ y m=>by
   unfold iq;rw[List.filterMap_cons];split<;>simp_all
  by_cases n:x.1<k
  ·have r:aS k l (x::a)=x::aS k l a:=by rw[aS,be n]
   rw[r,j,j,v o];by_cases g:share b x.2=[]
   ·rw[be g,be g]
   rw[aE g,aE g,aS,be n]
  by_cases q:x.1=k
  ·have d:∀y∈a,k<y.1:=λ y i=>q▸s y i;have r:aS k l (x::a)=if l=[] then a else(k,l)::a:=by rw[aS,aE n,be q]
   have w:aS k (share b l) (iq b (x::a))=aS k (share b l) (iq b a):=by
    rw[j];by_cases g:share b x.2=[]
    ·rw[be g]
    rw[aE g,aS,aE n,be q];by_cases c:share b l=[]
    ·rw[be c,c,fM (f a d)]
    rw[aE c,gJ c (f a d)]
   rw[r,w];by_cases e:l=[]
   ·rw[be e,p l e,fM (f a d)]
   rw[aE e,j];by_cases c:share b l=[]
   ·rw[be c,c,fM (f a d)]
   rw[aE c,gJ c (f a d)]
  have d:∀y∈x::a,k<y.1:=λ y i=>by
   rcases aN.1 i with rfl|i
   ·omega
   have:=s y i;omega
  by_cases e:l=[]
  ·rw[e,fM d,p [] rfl,fM (f _ d)]
  rw[gJ e d,j];by_cases c:share b l=[]
  ·rw[be c,c,fM (f _ d)]
  rw[aE c,gJ c (f _ d)]
def eX(a b:Nat)(X:List bU):List bU:=X.filter λ x=>x.2.any λ q=>q.has a b
theorem sg :
  (∃x∈eX a b X,x.1=k)↔(∃y∈iq (bi (a/16) (b/16)) X,y.1=k/\(y.2.any λ q=>q.has a b)=true)\/∃y∈iq rY X,y.1=k/\(y.2.any λ q=>q.has a b)=true:=by
 have n:∀(c:Nat) (l:List Rc) (q:Rc),q∈l->c∈q.pM->q∈share c l:=λ c l q d o=>List.mem_filter.2 ⟨d,by simpa using o⟩
 constructor
 ·rintro⟨x,i,rfl⟩;obtain⟨m,g⟩:=List.mem_filter.1 i;obtain⟨q,d,e⟩:=List.any_eq_true.1 g;rcases Iv e with j|j
  ·have f:=n _ _ q d j;exact al ⟨(x.1,share rY x.2),iK.2 ⟨x,m,List.ne_nil_of_mem f,rfl⟩,rfl,List.any_eq_true.2 ⟨q,f,e⟩⟩
  have f:=n _ _ q d j;exact O ⟨(x.1,share _ x.2),iK.2 ⟨x,m,List.ne_nil_of_mem f,rfl⟩,rfl,List.any_eq_true.2 ⟨q,f,e⟩⟩
 have key:∀c,(∃y∈iq c X,y.1=k/\(y.2.any λ q=>q.has a b)=true)->∃x∈eX a b X,x.1=k:=by
  rintro c ⟨y,p,rfl,g⟩;obtain⟨x,i,_,rfl⟩:=iK.1 p;obtain⟨q,d,e⟩:=List.any_eq_true.1 g;exact⟨x,List.mem_filter.2 ⟨i,List.any_eq_true.2 ⟨q,(List.mem_filter.1 d).1,e⟩⟩,rfl⟩
 rintro(h|h)
 ·exact key _ h
 exact key _ h
def bJ(u:Nat):List UInt8:=if h:u<128 then [UInt8.ofNat u] else UInt8.ofNat (u%128+128)::bJ (u/128)
termination_by u
decreasing_by omega
theorem gK(h:u<128):bJ u=[UInt8.ofNat u]:=by rw[bJ,dif_pos h]
theorem jL(h:¬u<128):bJ u=UInt8.ofNat (u%128+128)::bJ (u/128):=by rw[bJ,dif_neg h]
theorem Sz(u:Nat):bJ u≠[]:=by
 by_cases h:u<128
 ·rw[gK h];simp
 rw[jL h];simp
theorem X7(n:Nat):∀u,u<128^n->0<n->(bJ u).length<=n:=by
 induction n with
 | zero=>intro u _ h;omega
 | succ n e=>
  intro u b _;by_cases h:u<128
  ·rw[gK h];simp
  rw[jL h,dF]
  have c:u/128<128^n:=by
   rw[Nat.div_lt_iff_lt_mul Z];rw[Nat.pow_succ]at b;exact b
  have d:0<n:=by
   rcases Nat.eq_zero_or_pos n with a|a
   ·subst a;simp at b;omega
   exact a
  have:=e _ c d;omega
theorem gL(h:u<2^64):(bJ u).length<=10:=X7 10 u Z Z
theorem jM(u:Nat):0<(bJ u).length:=List.length_pos_iff.2 (Sz u)
theorem np:∀(i u:Nat),i<(bJ u).length->(bJ u)[i]?=some (UInt8.ofNat (u/128^i%128+if i+1<(bJ u).length then 128 else 0)):=by
 intro i
 induction i with
 | zero=>
  intro u a;by_cases h:u<128
  ·rw[gK h];simp[yT h]
  have:=jM (u/128);rw[jL h];simp only[dF,List.getElem?_cons_zero,Nat.pow_zero,Nat.div_one];rw[be Z]
 | succ i c=>
  intro u a;by_cases h:u<128
  ·rw[gK h]at a;simp at a
  rw[jL h]at a ⊢;simp only[dF,oH]at a ⊢;rw[c (u/128) Z,Nat.div_div_eq_div_mul,show 128*128^i=128^(i+1) by rw[Nat.pow_succ,Nat.mul_comm]];by_cases b:i+1<(bJ (u/128)).length
  ·rw[be b,be Z]
  rw[aE b,aE Z]
theorem uf:∀(n u:Nat),n=(bJ u).length->u<128^n/\(1<n->0<u/128^(n-1)):=by
 intro n
 induction n with
 | zero=>intro u h;have:=jM u;omega
 | succ n e=>
  intro u h;by_cases a:u<128
  ·rw[gK a]at h;have:n=0:=by simpa using h
   subst this;exact⟨by simpa using a,λ h=>Z⟩
  rw[jL a,dF]at h;obtain⟨b,c⟩:=e (u/128) Z;have f:=jM (u/128);refine⟨?_,λ _=>?_⟩
  ·rw[Nat.div_lt_iff_lt_mul Z]at b;rw[Nat.pow_succ];exact b
  by_cases d:1<n
  ·have:=c d;rw[Nat.div_div_eq_div_mul,show 128*128^(n-1)=128^n by rw[Nat.mul_comm,<-Nat.pow_succ];congr 1;omega]at this;exact this
  have:n=1:=Z
  subst this;show 0<u/128^1;rw[Nat.pow_one];omega
theorem Lv:∀y:Fin 256,(y.val ||| 128)=y.val%128+128:=by decide +kernel
theorem GN:∀y:Fin 256,(y.val &&& 127)=y.val%128:=by decide +kernel
theorem SA(i:Nat):(128:Nat)^i=2^(7*i):=by rw[Nat.pow_mul]
structure zO(u n i c:Nat):Prop where
 is:c=u/128^i%128+if i+1<n then 128 else 0
 lt:c<256
 nine:i=9->c<=1
 some_:0<i->c≠0
 last:c<128↔i+1=n
 few:i<=9
theorem Lx(j:u<2^64)(e:i<(bJ u).length):∃c:UInt8,(bJ u)[i]?=some c/\zO u (bJ u).length i c.toNat:=by
 have p:=gL j;obtain⟨m,l⟩:=uf _ u rfl;have o:u/128^i%128<128:=kz _ Z;have b:(u/128^i%128+if i+1<(bJ u).length then 128 else 0)<256:=by split<;>omega
 refine⟨_,np i u e,?_⟩;rw[UInt8.toNat_ofNat_of_lt' (by simpa using b)];refine⟨rfl,b,λ k=>?_,λ n=>?_,?_,Z⟩
 ·subst k;have r:(bJ u).length=10:=Z
  rw[aE Z]
  have:u/128^9<=1:=by
   have q:u/128^9<2:=by
    rw[Nat.div_lt_iff_lt_mul Z];omega
   omega
  have:=Nat.mod_le (u/128^9) 128;omega
 ·by_cases a:i+1<(bJ u).length
  ·rw[be a];omega
  rw[aE a];have f:i=(bJ u).length-1:=Z
  have d:=l Z;rw[<-f]at d
  have g:u/128^i<128:=by
   rw[Nat.div_lt_iff_lt_mul (Nat.pow_pos Z)]
   have:128*128^i=128^(bJ u).length:=by
    rw[Nat.mul_comm,<-Nat.pow_succ];congr 1;omega
   omega
  rw[yT g];omega
 constructor
 ·intro h;by_cases a:i+1<(bJ u).length
  ·rw[be a]at h;omega
  omega
 intro h;rw[aE Z];omega
theorem zP(u i c:Nat)(b:c%128=u/128^i%128):u%128^i |||(c%128*2^(7*i))=u%128^(i+1):=by
 have a:u%128^i<2^(7*i):=by rw[<-SA];exact kz _ (Nat.pow_pos Z)
 rw[Nat.or_comm,Nat.mul_comm,<-Nat.two_pow_add_eq_or_of_lt a,b,<-SA,Nat.pow_succ,Nat.mod_mul];omega
theorem GQ{c:Nat}(e:u<2^64)(h:zO u n i c):c%128*2^(7*i)<2^64:=by
 have a:c%128=u/128^i%128:=by
  rw[h.is];split<;>omega
 rw[a,<-SA];have b:u/128^i%128*128^i<=u/128^i*128^i:=Nat.mul_le_mul_right _ (Nat.mod_le _ _);have d:u/128^i*128^i<=u:=Nat.div_mul_le_self _ _;omega
theorem gY(h:u<16384):(bJ u).length<=2:=X7 2 u Z Z
def qF(q:Rc):List UInt8:=bJ q.r++(bJ q.c++(bJ q.h++bJ q.w))
def jo(l:List Rc):List UInt8:=bJ (Y l)++l.flatMap qF
def yU:Nat->List Nat->List UInt8
 | _,[]=>[]
 | p,u::l=>bJ (u-p-1)++yU u l
def qG:List Nat->List UInt8
 | []=>bJ 0
 | u::l=>bJ (Y l+1)++(bJ u++yU u l)
def gm(l:List bU):List UInt8:=if l=[] then [] else qG (l.map (·.1))++l.flatMap λ x=>jo x.2
theorem wK(h:q.ok):(qF q).length<=8:=by
 obtain⟨f,g,i,e⟩:=h;unfold qF;have a:=gY (u:=q.r) Z;have b:=gY (u:=q.c) Z;have c:=gY (u:=q.h) Z;have d:=gY (u:=q.w) Z;simp only[zl];omega
theorem si(l:List Rc):jo l≠[]:=by
 unfold jo;intro h;exact Sz _ (List.append_eq_nil_iff.1 h).1
theorem mW{a:Type}{f:a->List UInt8}{l:List a}(h:∀x∈l,(f x).length<=n):(l.flatMap f).length<=n*Y l:=by
 induction l with
 | nil=>simp
 | cons x l c=>
  rw[jq,zl,dF,Nat.mul_succ];have:=h x (bI ..);have:=c (λ y b=>h y (cK _ b));omega
theorem sj(h:∀q∈l,q.ok)(a:Y l<16384):(jo l).length<=2+8*Y l:=by
 unfold jo;rw[zl];have:=gY a;have:=mW (f:=qF) (λ q b=>wK (h q b));omega
theorem te:∀(l:List Nat) (p:Nat),(∀x∈l,x<2^64)->(yU p l).length<=10*Y l:=by
 intro l
 induction l with
 | nil=>intro p _;simp[yU]
 | cons u l b=>
  intro p h;unfold yU;rw[zl,dF,Nat.mul_succ];have:=h u (bI ..);have:=gL (u:=u-p-1) Z;have:=b u (λ y a=>h y (cK _ a));omega
theorem wL{l:List Nat}(h:∀x∈l,x<2^64)(a:Y l<16384):(qG l).length<=2+10*Y l:=by
 cases l with
 | nil=>
  unfold qG;have:=gY (u:=0) Z;omega
 | cons u l=>
  unfold qG;rw[dF]at a;have:=gY a;have:=gL (h u (bI ..));have:=te l u (λ y b=>h y (cK _ b));simp only[zl,dF];omega
theorem zQ{l:List bU}(h:l≠[]):gm l≠[]:=by
 unfold gm;rw[aE h];intro b;have:=(List.append_eq_nil_iff.1 b).1
 cases a:l.map (·.1)with
 | nil=>exact h (List.map_eq_nil_iff.1 a)
 | cons u t=>
  rw[a]at this;unfold qG at this;exact Sz _ (List.append_eq_nil_iff.1 this).1
structure eT(l:List bU):Prop where
 up:jc l
 key:∀x∈l,x.1<2^64-1
 good:∀x∈l,(∀q∈x.2,q.ok)/\Y x.2<=700
 few:Y l<=16000
theorem Dn{l:List bU}(h:eT l)(f:∀x∈l,Y x.2<=m):(gm l).length<=2+(12+8*m)*Y l:=by
 unfold gm
 split
 ·exact aR _
 rw[zl]
 have d:=wL (l:=l.map (·.1)) (λ x c=>by
  obtain⟨y,g,rfl⟩:=bL.1 c;have:=h.key y g;omega) (by rw[bS];have:=h.few;omega)
 rw[bS]at d
 have i:=mW (f:=λ x:bU=>jo x.2) (n:=2+8*m) (l:=l) (λ x c=>by
  have a:=sj (h.good x c).1 (by have:=(h.good x c).2;omega);have b:=f x c;omega)
 have e:(12+8*m)*Y l=10*Y l+(2+8*m)*Y l:=by
  rw[<-Nat.add_mul];congr 1;omega
 omega
end Go.Proofs.YtgpmiliahonaoaaGreatDoor.DP
namespace Go.Proofs.YtgpmiliahonaoaaGreatDoor
open Go.RowKit
open UK (str aF nth Only Row ay)
variable{P:Program}{z x:Value}{q c b j:Nat}{W:World}{ao:Option Addr}{vs m:List Value}
namespace UK
theorem XG{t tx ty e:TypeId}{i:TypeInfo}(A:P.underlying t=some (.slice e))(B:P.info? e=some i)(L:i.zero=some z)(l:i.size=q)(J:i.bytes<=64)(F:z.cells.size=q){n k:Nat}(s:Y vs=q*n)(h:(ao=none/\vs=[]/\c=0/\n=0)\/∃g,ao=some ⟨g,0,none⟩/\Row W g (q*c) vs)(I:Y m=q*k)(T:0<k)(y:Src P q tx x k m W)(K:n+k<=1000000000) :
  ∃b o f,(Builtin.append_ #[t,tx] ty #[ad ao n c,x]).run P W= .ok (ad (some ⟨b,0,none⟩) (n+k) o) f/\Row f b (q*o) (vs++m)/\((ao=some ⟨b,0,none⟩/\Only b W f)\/(b=W.1.size/\Below W W f)):=by
 have r:(vs++m).length=q*(n+k):=by rw[zl,s,I,Nat.mul_add]
 have C:c<n+k->(Builtin.firstCells i.size n (ad ao n c)).run P W.drew= .ok vs.toArray W.drew ->
   ∃b o f,(Builtin.append_ #[t,tx] ty #[ad ao n c,x]).run P W= .ok (ad (some ⟨b,0,none⟩) (n+k) o) f/\Row f b (q*o) (vs++m)/\((ao=some ⟨b,0,none⟩/\Only b W f)\/(b=W.1.size/\Below W W f)):=by
  intro u R;have Q:(n+k)*i.bytes<=140737488355328:=aT (Nat.mul_le_mul K J) (by decide);have G:=run_append_grow_src (P:=P) W t tx ty e i z A B L ao n c vs R x k m (by rw[l];exact y) u Z (growslice_fits u Q);have E:=grownCap_ge W (n+k) c e;have D:=World.cell?_alloc_new W.drew ((vs++m).toArray++Builtin.zeroCells z.cells (grownCap W (n+k) c e-(n+k))) e;obtain⟨d,hd⟩:∃d,grownCap W (n+k) c e=n+k+d:=⟨grownCap W (n+k) c e-(n+k),Z⟩
  have M:((vs++m).toArray++Builtin.zeroCells z.cells (grownCap W (n+k) c e-(n+k))).size=q*grownCap W (n+k) c e:=by
   rw[Array.size_append,List.size_toArray,r,size_zeroCells,F,hd,show n+k+d-(n+k)=d from Z,Nat.mul_add q (n+k) d,Nat.mul_comm d q]
  refine⟨W.1.size,_,_,G,⟨by simp,?_,λ j a=>?_,λ j a=>⟨?_,World.frozen?_alloc_new W.drew _ _ j⟩⟩,al ⟨rfl,(aU W W).drew.alloc (aH _) _⟩⟩
  ·rw[r];exact Nat.mul_le_mul_left _ E
  ·refine Eq.trans (D j) ?_;rw[Array.getElem?_append_left (by simp only[List.size_toArray];exact a),List.getElem?_toArray]
  have S:(W.drew.alloc (.cells ((vs++m).toArray++Builtin.zeroCells z.cells (grownCap W (n+k) c e-(n+k))) e)).cell? (W.1.size,j)=_:=D j;rw[S,Array.getElem?_eq_getElem (by rw[M];exact a)];rfl
 rcases h with⟨rfl,rfl,rfl,rfl⟩|⟨g,rfl,h⟩
 ·exact C Z (run_firstCells_none W.drew i.size 0 0 0)
 have U:=h.le;by_cases hf:n+k<=c
 ·have N:q*(n+k)<=q*c:=Nat.mul_le_mul_left _ hf;have p:n*q=Y vs:=by rw[s,Nat.mul_comm]
  rw[<-r,zl]at N
  have w:=run_append_room_src (P:=P) W t tx ty e i A B g 0 n c x k m (by rw[l];exact y) hf
   (λ j a=>by rw[l];exact(h.there _ (by rw[p];omega)).1) (λ j a=>by rw[l];exact(h.there _ (by rw[p];omega)).2)
  rw[l,fB,p]at w;refine⟨g,c,_,w,h.setCells (Y vs) m Z (vs++m) (by rw[zl];omega) (λ j a=>?_) (λ j a V=>?_),O ⟨rfl,Only.setCells _ _ (Only.refl _ _)⟩⟩
  ·rw[bZ Z,sw]
  rw[zl]at a;exact⟨Z,by rw[bR Z]⟩
 exact C Z (run_firstCells_some W.drew i.size n ⟨g,0,none⟩ n c vs (by rw[l,s,Nat.mul_comm]) (λ j v a=>by
  have H:j<Y vs:=(dz.1 a).1;rw[mY,fB];exact(h.holds j H).trans a))
end UK
def NX{a:Type}(q:Nat)(enc:a->List Value)(W:World)(ao:Option Addr)(c:Nat)(l:List a):Prop:=(ao=none/\l=[]/\c=0)\/∃g,ao=some ⟨g,0,none⟩/\Row W g (q*c) (l.flatMap enc)
section
variable{α:Type}{enc:α->List Value}{W':World}{l:List α}
theorem PH(h:∀x,(enc x).length=q)(l:List α):(l.flatMap enc).length=q*Y l:=by
 induction l with
 | nil=>simp
 | cons x l a=>rw[jq,zl,h,a,dF,Nat.mul_succ];omega
theorem XH(h:∀x,(enc x).length=q):∀(l:List α) (j:Nat) (x:α),l[j]?=some x->∀i,i<q->(l.flatMap enc)[j*q+i]?=(enc x)[i]?
 | [],_,_,h=>by cases h
 | u::l,0,x,b=>λ i a=>by
  obtain rfl:u=x:=by simpa using b
  rw[jq,Nat.zero_mul,fB,bR (by rw[h];exact a)]
 | u::l,j+1,x,b=>λ i a=>by
  have c:=XH h l j x (by simpa using b) i a;rw[jq,bZ (by rw[h,Nat.succ_mul];omega),h,<-c]
  congr 1
  rw[Nat.succ_mul];omega
theorem NX.ae(h:NX q enc W ao c l)(a:W.1.size<=W'.1.size)(d:∀b,aG ao b->W'.1[b]?=W.1[b]?):NX q enc W' ao c l:=by
 rcases h with h|⟨g,e,r⟩
 ·exact O h
 exact al ⟨g,e,r.ae a (d g e)⟩
theorem NX.lt(h:NX q enc W ao c l)(a:aG ao b):b<W.1.size:=by
 rcases h with⟨h,_⟩|⟨g,e,r⟩
 ·rw[aG,h]at a;cases a
 rw[aG,e]at a;have:=Addr.mk.inj (bf a);rw[<-this.1];exact r.lt
theorem NX.le(b:∀x,(enc x).length=q)(a:0<q)(h:NX q enc W ao c l):Y l<=c:=by
 rcases h with⟨_,rfl,rfl⟩|⟨g,e,r⟩
 ·exact aH _
 have:=r.le;rw[PH b]at this;exact Nat.le_of_mul_le_mul_left this a
theorem NX.at_(b:∀x,(enc x).length=q)(h:NX q enc W ao c l){x:α}(a:l[j]?=some x):∃g,ao=some ⟨g,0,none⟩/\∀i v,(enc x)[i]?=some v->W.cell? ⟨g,j*q+i,none⟩=some v:=by
 rcases h with⟨_,rfl,_⟩|⟨g,e,r⟩
 ·cases a
 refine⟨g,e,λ i v d=>?_⟩;have f:i<q:=by rw[<-b x];exact(dz.1 d).1
 refine r.at' _ _ ?_;rw[XH b l j x a i f];exact d
theorem NX.push{t e:TypeId}{i:TypeInfo}(m:P.underlying t=some (.slice e))(D:P.info? e=some i)(C:i.zero=some z)(p:i.size=q)(s:i.bytes<=64)(n:z.cells.size=q)(k:∀x,(enc x).length=q)(F:∀x,∀v∈enc x,v.oneCell'=true)(h:NX q enc W ao c l)(I:Y l<=1000000)(x:α) :
  ∃d f W',(Builtin.append_ #[t,t] t #[ad ao (Y l) c,ad W 1 1]).run P (W.alloc (.cells (enc x).toArray e))= .ok (ad (some ⟨d,0,none⟩) (Y l+1) f) W'/\NX q enc W' (some ⟨d,0,none⟩) f (l++[x])/\(aG ao d\/W.1.size<=d)/\Only d W W':=by
 have A:(W.alloc (.cells (enc x).toArray e)).1.size=W.1.size+1:=by simp
 have E:Src P q t (ad W 1 1) 1 (enc x) (W.alloc (.cells (enc x).toArray e)):=Src.ofSlice _ m ⟨W.1.size,0,none⟩ 1 1 (enc x) (by rw[k,Nat.one_mul]) (λ j u w=>by
  rw[UK.mY,fB];refine(World.cell?_alloc_new W (enc x).toArray e j).trans ?_;rw[List.getElem?_toArray];exact w) (λ u y=>F x u y)
 have H:Below W W (W.alloc (.cells (enc x).toArray e)):=(aU _ _).alloc (aH _) _
 obtain⟨d,f,W',G,r,o⟩:=UK.XG (tx:=t) (ty:=t) m D C p s n (W:=W.alloc (.cells (enc x).toArray e)) (ao:=ao) (c:=c) (n:=Y l) (k:=1) (vs:=l.flatMap enc) (PH k l) (by
  rcases h with⟨a,b,c⟩|⟨g,a,r⟩
  ·exact O ⟨a,by rw[b];rfl,c,by rw[b];rfl⟩
  exact al ⟨g,a,r.alloc _⟩) (m:=enc x) (by rw[k,xX]) (Nat.lt_succ_self 0) E Z
 have B:l.flatMap enc++enc x=(l++[x]).flatMap enc:=by simp
 rw[B]at r;refine⟨d,f,W',G,al ⟨d,rfl,r⟩,?_,?_⟩
 ·rcases o with⟨a,_⟩|⟨a,_⟩
  ·exact O a
  exact al (by rw[a,A];omega)
 rcases o with⟨_,o⟩|⟨a,b⟩
 ·exact((Only.refl d W).alloc _).trans o
 exact((Only.refl d W).alloc _).trans (Only.of_below b)
end
def GU(r:DP.Rc):List Value:=[V U r.r,V U r.c,V U r.h,V U r.w]
theorem xii(r:DP.Rc):(GU r).length=4:=rfl
theorem XI(r:DP.Rc):∀v∈GU r,v.oneCell'=true:=by
 intro v a;simp only[GU,aN,List.not_mem_nil,or_false]at a;rcases a with rfl|rfl|rfl|rfl<;>rfl
abbrev RX(W:World)(ao:Option Addr)(c:Nat)(l:List DP.Rc):Prop:=NX 4 GU W ao c l
theorem RX.four{l:List DP.Rc}(h:RX W ao c l){x:DP.Rc}(b:l[j]?=some x):∃g,ao=some ⟨g,0,none⟩/\W.cell? ⟨g,j*4,none⟩=some (V U x.r)/\W.cell? ⟨g,j*4+1,none⟩=some (V U x.c)/\W.cell? ⟨g,j*4+2,none⟩=some (V U x.h)/\W.cell? ⟨g,j*4+3,none⟩=some (V U x.w):=by
 obtain⟨g,e,a⟩:=h.at_ xii b;exact⟨g,e,a 0 _ rfl,a 1 _ rfl,a 2 _ rfl,a 3 _ rfl⟩
theorem RX.push{l:List DP.Rc}(h:RX W ao c l)(e:Y l<=1000000)(x:DP.Rc) :
  ∃a d b,(Builtin.append_ #[33,33] 33 #[ad ao (Y l) c,ad W 1 1]).run prog (W.alloc (.cells #[V U x.r,V U x.c,V U x.h,V U x.w] 23))= .ok (ad (some ⟨a,0,none⟩) (Y l+1) d) b/\RX b (some ⟨a,0,none⟩) d (l++[x])/\(aG ao a\/W.1.size<=a)/\Only a W b:=
 NX.push (enc:=GU) underlying33 (i:=t23) rfl rfl rfl (show(32:Nat)<=64 from Z) rfl xii XI h e x
