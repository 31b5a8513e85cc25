/- Facts on texts on pages. -/
import Derived.Test.YtgpmiliahonaoaaGreatDoorKPoolSc
import Derived.StillTailTactics
import Derived.Defers
set_option maxRecDepth 100000
set_option maxHeartbeats 8000000
set_option linter.unusedSimpArgs false
open Go.Value renaming bool->a6,int->V,pointer->aq,slice->ad,string->a8,tuple->a9
open Go.IntKind renaming i64->U
open Go.Ending renaming returned->aw
open Or renaming inl->O,inr->al
open List renaming length->Y
open Go.Proofs.Tryz
namespace Go.Proofs.YtgpmiliahonaoaaGreatDoor
open Go.RowKit
open UK (str aF nth Only Row ay kX)
open Go.BigFrame
variable{E:Nat->Prop}{W W' w w1:World}{P D FB M au k i cap p h n:Nat}{q:Pl}{d e:Dk}{l:List (Option Fr)}{o:Option Fr}{f g:Fr}{Q:Exit->Act->World->Prop}{a:Act}{c:Nat->List UInt8}{s x m y:List UInt8}{aj kp:Int}{op':Option ll}{r:Option Addr}
theorem ei(h:l[i]?=some o):l.set i o=l:=by
 refine List.ext_getElem? (λ j=>?_);rw[gF l i j o (dz.1 h).1];by_cases e:i=j
 ·rw[be e,<-e,h]
 rw[aE e]
theorem oS(h:PD E W P D FB M q d au)(c:q.af[i]?=some (some f))(hd:f.bY=false) :
  Calls prog 199 #[aq P,aq f.blk] W λ e b=>e=aw (V U 0)/\b=W:=by
 have a:=h.pool.each i f c;have g:=a.box.c5;rw[hd]at g
 go_enter func199,ntmps199
 go_wp2;go_ret
 exact⟨rfl,rfl⟩
theorem Bm(h:PD E W P D FB M q d au)(b:q.af[i]?=some (some f))(hd:f.bY=true)(o:Ok d au k)(I:k<900000000) :
  Calls prog 199 #[aq P,aq f.blk] W λ e s=>e=aw (V U (Dm d au f.page f.data))/\PD E s P D FB M {q with af:=q.af.set i (some {f with bY:=(Dm d au f.page f.data != 0)})} (yS d au f.page f.data) au/\Kept E W s:=by
 have a:=h.pool.each i f b;have c:=h.next (aU W W).drew;have G:=c.pool.each i f b;have K:=h.pool.box.c0;have H:=a.box.c1;have Q:=a.box.c2;have z:=a.box.c5;rw[hd]at z;obtain⟨y,u,S,B⟩:=G.bytes;have T:=a.cap;have v:=UK.vB (P:=prog) (src:=94) (dst:=9) underlying94 underlying5 underlying9 u 0 504 f.cap Z;rw[List.drop_zero,B]at v;have g:=zH (ke c.dd o I f.page f.data);have x:=zH c;generalize L:Dm d au f.page f.data=p at g;generalize yS d au f.page f.data=rd at g;have C:=λ w (F:PD E w P D FB M q rd au)=>F.flag (g:={f with bY:=(p != 0)}) b ⟨rfl,rfl,rfl,rfl,rfl⟩ ((Only.refl f.blk w).set 5 (a6 (p != 0))) ((F.pool.each i f b).box.set 5 (a6 (p != 0)));have N:=zH C;clear c a G C u S B L
 go_enter func199,ntmps199
 go_wp2_with fail
 go_still_tail 13,(by kernel_rfl)
 change wpList _ _ _ _ _ W.drew
 go_wp2_with fail
 refine g.out.mono ?_;rintro e J ⟨rfl,t,r⟩;have l:=x.out.disk t r;have n:=l.pool.each i f b;have z:=n.box.c5;have X:=n.box.free 5;have A:=zH (N.out J l);have R:=Kept.of_below (S:=E) (aU W W).drew (λ j m=>h.dd.there j (O m));clear g x v K H Q l n t;go_wp2;go_ret;exact⟨rfl,A.out.1,(R.trans (r.mono (λ j m=>O m))).trans A.out.2⟩
theorem PD.empty(h:PD E W P D FB M q d au)(x:q.af[i]?=some (some f)){s o:World}(l:Only FB W s)(C:Row s FB (Y q.af) ((q.af.set i none).map rz))(m:Only M s o)(B:∃g,kK (q.af.set i none) g/\kX prog 3 3 o M (cntF (q.af.set i none)) g (cntF (q.af.set i none))):PD E o P D FB M {q with af:=q.af.set i none} d au/\Kept E W o:=by
 have c:=h.pool;have w:=λ (j:Nat) (u:Option Fr) (b:Nat) t a=>c.off j u b t a;have p:∀b,b<W.1.size->b≠FB->b≠M->o.1[b]?=W.1[b]?:=λ b a n A=>(m.block b (cB a l.size) A).trans (l.block b a n);refine h.moves (q':={q with af:=q.af.set i none}) ⟨m.os.trans l.os,m.tape.trans l.tape,m.output.trans l.output,aT l.size m.size,λ b a y=>p b a (λ e=>y (al (O e))) (λ e=>y (al (al (O e)))),λ b a=>?_⟩ ?_
 ·rcases jT.bV (n:=W.1.size) x (λ j t=>absurd t id) a with n|n
  ·exact O n
  exact al n
 exact c.bV x h.dd.tab.lt (c.box.ae (p P c.box.lt c.PF c.PM)) (aT l.size m.size) (λ k r=>p k (c.op.lt r) (c.iV k r).2.1 (c.iV k r).2.2) (C.only m c.FM) B (λ j u b _ v a=>p b (c.zo v a) (w j u b v a).2.1 (w j u b v a).2.2) (λ g z=>by cases z) (λ b a=>absurd a id)
theorem UN(h:PD E W P D FB M q d au)(o:oO q)(b:q.af[i]?=some (some f)) :
  Calls prog 124 #[aq P,V U f.page] W λ e s=>e=aw (a9 #[])/\PD E s P D FB M {q with af:=q.af.set i none} d au/\Kept E W s:=by
 have a:=h.pool;have t:=(dz.1 b).1;have p:=(a.each i f b).page;have B:=a.box.c1;have I:=a.box.c2;obtain⟨g,k,n⟩:=a.map;have l:g f.page=some (i:Int):=k.at_ b;have m:=n.get (t:=111) underlying3 underlying3 underlying111 (λ w=>by kernel_rfl) f.page p;rw[l]at m;have H:(Instr.lookup 111 (.map (some M)) (V U f.page) true).run prog W= .ok (a9 #[V U (i:Int),a6 true]) W:=m;have cF:=a.uJ.at' i _ (UH _ _ _ b);have G:=a.uJ.free i t;have j:=(Only.refl FB W).set i (aq none);have z:=a.uJ.set i (aq none) (by rw[bS];exact t);have v:=n.only j a.FM.symm;obtain⟨F,A,c,u⟩:=v.del underlying3 underlying111 f.page p 0;rw[l]at c;have y:=NC q.af i (some f) none b;simp only[Option.isSome_some,Option.isSome_none,if_true,Bool.false_eq_true,if_false]at y c;rw[show cntF q.af-1=cntF (q.af.set i none) from Z]at c;have r:Row (W.setCell (FB,i) (aq none)) FB (Y q.af) ((q.af.set i none).map rz):=by rw[map_set];exact z
 have x:=zH (h.empty b j r u ⟨_,k.forget b,c.tight⟩);have c2':=(a.box.only j a.PF).c2;have C:=o.few;clear m n v c z r j u y l k
 go_enter func124,ntmps124
 go_wp2_with (at_delete;refine UK.IE A rfl rfl rfl rfl rfl ?_)
 go_end0
 exact⟨rfl,x.out.1,x.out.2⟩
theorem lA(h:PD E W P D FB M q d au)(p:Int)(n:(Lit.int .i64 p).wf=true)(o:∀(i:Nat) (f:Fr),q.af[i]?=some (some f)->f.page≠p) :
  Calls prog 124 #[.pointer P,.int .i64 p] W λ e m=>e= .returned (.tuple #[])/\m=W:=by
 have b:=h.pool;have v:=b.box.c2;obtain⟨g,c,k⟩:=b.map
 have l:g p=none:=by
  cases t:g p with
  | none=>rfl
  | some i=>
   obtain⟨j,_,r,s,hf⟩:=(c p i).1 t;exact absurd hf (o j r s)
 have a:=k.get (t:=111) underlying3 underlying3 underlying111 (λ w=>by kernel_rfl) p n;rw[l]at a;have u:(Instr.lookup 111 (.map (some M)) (.int .i64 p) true).run prog W= .ok (.tuple #[.int .i64 0,.bool false]) W:=a;clear a k l c
 go_enter func124,ntmps124
 go_wp2
 go_end0
 exact⟨rfl,rfl⟩
def u7(q:Pl)(d:Dk)(au:Nat)(r:Option Nat×List (Option Fr)×Nat)(i:Nat)(a:Int)(b:Pl)(e:Dk):Prop:=
 (r.1=none->a=9/\e=d/\b={af:=r.2.1,hand:=r.2.2,aj:=q.aj,op:=q.op}) /\
 (∀j,r.1=some j->(∀f:Fr,r.2.1[j]?=some (some f)->f.bY=false)->i=j/\a=0/\e=d/\b={af:=r.2.1.set j none,hand:=r.2.2,aj:=q.aj,op:=q.op}) /\
 ∀(j:Nat) (f:Fr),r.1=some j->r.2.1[j]?=some (some f)->f.bY=true->Dm d au f.page f.data=0->i=j/\a=0/\e=yS d au f.page f.data/\b={af:=r.2.1.set j none,hand:=r.2.2,aj:=q.aj,op:=q.op}
def eM(E:Nat->Prop)(W c:World)(P D FB M:Nat)(q:Pl)(d:Dk)(au k:Nat)(f:Ending):Prop:=
 ∃(i:Nat) (b:Int) (a:Pl) (e:Dk),f=aw (a9 #[V U i,V U b])/\PD E c P D FB M a e au/\Kept E W c/\oO a/\Ok e au (k+1)/\a.aj=q.aj/\Y a.af=Y q.af/\vg a q/\(∀p,bF e au p=bF d au p)/\(b=0->a.af[i]?=some none) /\
  u7 q d au (kJ (2*Y q.af) q.af q.hand) i b a e
theorem nw(d:Dk)(au:Nat)(p:Int)(s:List UInt8)(a:Int):bF (yS d au p s) au a=bF d au a:=by
 unfold yS
 split
 ·rfl
 split
 ·rfl
 split<;>rfl
theorem tQ(h:PD E W P D FB M q d au)(o:oO q)(z:Ok d au k)(hk:k<900000000) :
  Calls prog 128 #[aq P] W λ e w'=>eM E W w' P D FB M q d au k e:=by
 have u:=E3 h o;have J:=QH (2*Y q.af) q o;have x:=UL q.op (2*Y q.af) q.af q.hand (kJ (2*Y q.af) q.af q.hand).2.2 q.aj q.hand q.aj o.hand;unfold wY at u;unfold eM;generalize kJ (2*Y q.af) q.af q.hand=h9 at u J x ⊢;obtain⟨h6,l,hd⟩:=h9;simp only at u J x;obtain⟨t,L,K⟩:=J;have A:vg {af:=l,hand:=hd,aj:=q.aj,op:=q.op} q:=x;have iH:=t.few;simp only at iH
 cases h6 with
 | none=>
  have p:=zH u;clear u x K;simp only[IJ]at p
  go_enter func128,ntmps128
  go_wp2_with fail
  refine p.out.mono ?_;rintro e w1 ⟨rfl,m,r⟩;go_wp2;go_ret2;exact⟨0,9,_,d,rfl,m,r,t,z.more,rfl,L,A,λ _=>rfl,λ U=>absurd U (by decide),λ _=>⟨rfl,rfl,rfl⟩,(λ j b=>by cases b),λ j f b=>by cases b⟩
 | some i=>
  obtain⟨ob,c,h1⟩:=K i rfl;have I:i<Y l:=(dz.1 c).1;have p:=zH u;clear u x K;simp only[IJ]at p;have H:=zH L;clear L
  cases ob with
  | none=>
   go_enter func128,ntmps128
   go_wp2_with fail
   refine p.out.mono ?_;rintro e w1 ⟨rfl,m,r⟩;have X:=m.pool.box.c1;have cF:w1.cell? (FB,i)=some (aq none):=m.frame c;clear p;go_wp2;go_ret2
   exact⟨i,0,_,d,rfl,m,r,t,z.more,rfl,H.out,A,λ _=>rfl,λ _=>c,λ b=>(by cases b),(λ j b _=>by
    obtain rfl:=bf b;exact⟨rfl,rfl,rfl,by rw[ei c]⟩),λ j f b hf=>by
    obtain rfl:=bf b;rw[c]at hf;cases hf⟩
  | some f=>
   have h5:f.aj=0:=h1 f rfl;have Z:=zH h5;clear h5 h1
   cases C:f.bY
   ·have w:=zH C;clear C
    go_enter func128,ntmps128
    go_wp2_with fail
    refine p.out.mono ?_;rintro e w1 ⟨rfl,m,r⟩;have X:=m.pool.box.c1;have cF:w1.cell? (FB,i)=some (aq f.blk):=m.frame c;have cp:=(m.pool.each i f c).box.c1;have h4:=zH (oS m c w.out);have y:=zH (UN m t c);have v:=t.set c (u:=none) (λ g n=>by cases n);simp only[jf,Z.out,Int.sub_zero,Int.add_zero]at v;clear p
    go_wp2_with fail
    refine h4.out.mono ?_;rintro e w2 ⟨rfl,rfl⟩
    go_wp2_with fail
    refine y.out.mono ?_;rintro e w3 ⟨rfl,F,V⟩;clear h4 y;go_wp2;go_ret2
    exact⟨i,0,_,d,rfl,F,r.trans V,v,z.more,rfl,by show(l.set i none).length=_;rw[aV];exact H.out,(vg.empty (q:={af:=l,hand:=hd,aj:=q.aj,op:=q.op}) c _ _).trans A,λ _=>rfl,λ _=>by show(l.set i none)[i]?=_;rw[gF _ _ _ _ I,be rfl],λ b=>(by cases b),(λ j b _=>by
     obtain rfl:=bf b;exact⟨rfl,rfl,rfl,rfl⟩),λ j g b n hd=>by
     obtain rfl:=bf b;rw[c]at n;obtain rfl:=bf (bf n);rw[w.out]at hd;cases hd⟩
   have w:=zH C;clear C
   go_enter func128,ntmps128
   go_wp2_with fail
   refine p.out.mono ?_;rintro e w1 ⟨rfl,m,r⟩;have X:=m.pool.box.c1;have cF:w1.cell? (FB,i)=some (aq f.blk):=m.frame c;have B:=zH (Bm m c w.out z hk);have R:=z.write hk f.page f.data;have O:=λ a=>nw d au f.page f.data a;generalize h2:Dm d au f.page f.data=s at B;generalize h3:yS d au f.page f.data=d2 at B R O;have h7:=zH h2;have HD2:=zH h3;clear h2 h3;have v:=t.set c (u:=some {f with bY:=(s != 0)}) (λ g n=>by rw[<-bf n];exact t.pos i f c);rw[show({af:=l,hand:=hd,aj:=q.aj,op:=q.op}:Pl).aj-jf (some f)+jf (some {f with bY:=(s != 0)})=q.aj by show q.aj-f.aj+f.aj=q.aj;omega]at v;have h0:=zH O;clear p O
   go_wp2_with fail
   refine B.out.mono ?_;rintro e w2 ⟨rfl,N,k2⟩;have T:(l.set i (some {f with bY:=(s != 0)}))[i]?=some (some {f with bY:=(s != 0)}):=by rw[gF _ _ _ _ I,be rfl]
   have h8:=(vg.set (q:={af:=l,hand:=hd,aj:=q.aj,op:=q.op}) c (g:={f with bY:=(s != 0)}) rfl hd q.aj).trans A;by_cases G:s=0
   ·subst G;have cp:=(N.pool.each i _ T).box.c1;have y:=zH (UN N v T);have Q:=v.set T (u:=none) (λ g n=>by cases n);rw[show q.aj-jf (some {f with bY:=((0:Int) != 0)})+jf none=q.aj by show q.aj-f.aj+0=q.aj;have:=Z.out;omega]at Q;simp only[List.set_set]at Q;clear B
    go_wp2_with fail
    refine y.out.mono ?_;rintro e w3 ⟨rfl,F,V⟩;simp only[List.set_set]at F;clear y;go_wp2;go_ret2
    exact⟨i,0,_,d2,rfl,F,(r.trans k2).trans V,Q,R,rfl,by show(l.set i none).length=_;rw[aV];exact H.out,(vg.empty (q:={af:=l,hand:=hd,aj:=q.aj,op:=q.op}) c _ _).trans A,h0.out,λ _=>by show(l.set i none)[i]?=_;rw[gF _ _ _ _ I,be rfl],λ b=>(by cases b),(λ j b S=>by
     obtain rfl:=bf b;have:=S f c;rw[w.out]at this;cases this),λ j g b n _ _=>by
     obtain rfl:=bf b;rw[c]at n;obtain rfl:=bf (bf n);exact⟨rfl,rfl,HD2.out.symm,rfl⟩⟩
   have ha:(s==0)=false:=beq_eq_false_iff_ne.2 G;have uj:=zH G;clear B G;go_wp2;go_ret2
   exact⟨0,s,_,d2,rfl,N,r.trans k2,v,R,rfl,by show(l.set i _).length=_;rw[aV];exact H.out,h8,h0.out,λ U=>absurd U uj.out,λ b=>(by cases b),(λ j b S=>by
    obtain rfl:=bf b;have:=S f c;rw[w.out]at this;cases this),λ j g b n _ hz=>by
    obtain rfl:=bf b;rw[c]at n;obtain rfl:=bf (bf n);rw[h7.out]at hz;exact absurd hz uj.out⟩
theorem kO{P:Program}{c:Code}(R:World->Prop)(d:R w)(h:∀b,R b->c.wp P Q a b):c.wp P Q a w:=h w d
structure Half(W w:World)(P FB:Nat)(l:List (Option Fr))(i:Nat)(f:Fr):Prop where
 only:Only FB W w
 row:Row w FB (Y l) ((l.set i (some f)).map rz)
 new:sW w P f
theorem pr(n:Row W FB q.af.length (q.af.map rz))(l:i<q.af.length)(e:s.length=504)(page:Int)(j:(Lit.int .i64 page).wf=true){o:Obj}(h:504<=cap)(k:aF (W.drew.alloc o) W (s++List.replicate (cap-s.length) 0))(t:TypeId)(f:Fr)(hf:f={blk:=W.1.size+1,db:=W.1.size,cap:=cap,page:=page,data:=s,aj:=1,used:=true,bY:=false}) :
  Half W (((W.setCell (FB,i) (.pointer (some ⟨W.1.size+1,0,none⟩))).alloc o).alloc (.cells (QG P f) t)).drew P FB q.af i f:=by
 have b:=(Only.refl FB W).set i (.pointer (some ⟨W.1.size+1,0,none⟩));have d:=n.set i (.pointer (some ⟨W.1.size+1,0,none⟩)) (by rw[bS];exact l);have a:(W.setCell (FB,i) (.pointer (some ⟨W.1.size+1,0,none⟩))).1.size=W.1.size:=by simp[World.setCell]
 generalize W.setCell (FB,i) (.pointer (some ⟨W.1.size+1,0,none⟩))=w1 at b d a
 have r:aF (w1.alloc o) W (s++List.replicate (cap-s.length) 0):=k.ae (by
  have c:(w1.alloc o).1[w1.1.size]?=some o:=by
   show(w1.1.push _)[w1.1.size]?=_;rw[qO]
  have u:(W.drew.alloc o).1[W.drew.1.size]?=some o:=by
   show(W.drew.1.push _)[W.drew.1.size]?=_;rw[qO]
  rw[a]at c;exact c.trans u.symm)
 have p:(w1.alloc o).1.size=W.1.size+1:=by simp[a]
 have g:=ay.new (w1.alloc o) (QG P f) t;rw[p]at g;refine⟨((b.alloc o).alloc _).drew,?_,⟨?_,⟨s++List.replicate (cap-s.length) 0,?_,?_,?_⟩,?_,?_,?_,?_⟩⟩
 ·rw[map_set];have m:rz (some f)= .pointer (some ⟨W.1.size+1,0,none⟩):=by rw[hf];rfl
  rw[m];exact((d.alloc o).alloc _).drewN 1
 ·rw[show f.blk=W.1.size+1 by rw[hf]];exact g.ae rfl
 ·rw[show f.db=W.1.size by rw[hf]];exact(r.alloc _).drewN 1
 ·rw[show f.cap=cap by rw[hf],zl,iM];omega
 ·rw[show f.data=s by rw[hf],List.take_left' e]
 ·rw[show f.data=s by rw[hf]];exact e
 ·rw[show f.cap=cap by rw[hf]];exact h
 ·rw[show f.page=page by rw[hf]];exact j
 rw[hf];show W.1.size+1≠W.1.size;omega
def FO(E:Nat->Prop)(W a:World)(P D FB M:Nat)(q:Pl)(d:Dk)(au i:Nat)(page:Int)(s:List UInt8)(e:Ending):Prop:=
 ∃f:Fr,e=aw (aq f.blk)/\f.page=page/\f.data=s/\f.aj=1/\f.bY=false/\f.used=true/\PD E a P D FB M {af:=q.af.set i (some f),hand:=q.hand,aj:=q.aj+1,op:=q.op} d au/\Kept E W a
theorem PD.laid(h:PD E W P D FB M q d au)(A:q.af[i]?=some none){s o:World}(r:Half W w1 P FB q.af i f)(N:f.blk=W.1.size+1/\f.db=W.1.size)(l:Only M w1 s)(m:Only P s o)(t:∃g,kK (q.af.set i (some f)) g/\kX prog 3 3 s M (cntF (q.af.set i (some f))) g (cntF (q.af.set i (some f))))(a:ay o P (oN D FB (Y q.af) M q.hand aj q.op)) :
  PD E o P D FB M {af:=q.af.set i (some f),hand:=q.hand,aj:=aj,op:=q.op} d au/\Kept E W o:=by
 have c:=h.pool;have n:=r.only
 have v:∀b,b<W.1.size->b≠FB->b≠M->b≠P->o.1[b]?=W.1[b]?:=λ b a I J K=>
  ((m.block b (cB a (aT n.size l.size)) K).trans (l.block b (cB a n.size) J)).trans (n.block b a I)
 have y:∀b,nY (some f) b->nY none b\/W.1.size<=b:=λ b a=>by
  rcases a with rfl|rfl
  ·exact al Z
  exact al Z
 have C:W.1.size<=o.1.size:=aT (aT n.size l.size) m.size;have Q:=c.box.lt;have R:=c.uJ.lt;have T:M<W.1.size:=c.lt (al (al (O rfl)));refine h.moves (q':={af:=q.af.set i (some f),hand:=q.hand,aj:=aj,op:=q.op}) ⟨(m.os.trans l.os).trans n.os,(m.tape.trans l.tape).trans n.tape,(m.output.trans l.output).trans n.output,C,λ b a w=>v b a (λ e=>w (al (O e))) (λ e=>w (al (al (O e)))) (λ e=>w (O e)),λ b a=>jT.bV A y a⟩ ?_;obtain⟨g,H,t⟩:=t;refine c.bV A h.dd.tab.lt a C (λ k p=>v k (c.op.lt p) (c.iV k p).2.1 (c.iV k p).2.2 (c.iV k p).1) ((r.row.only l c.FM).only m c.PF.symm) ⟨g,H,t.only m c.PM.symm⟩ (λ j u b _ z a=>?_) (λ U L=>?_) y
 ·have:=c.off j u b z a;exact v b (c.zo z a) this.2.1 this.2.2 this.1
 obtain rfl:=bf L
 have F:∀b,nY (some f) b->o.1[b]?=w1.1[b]?:=λ b a=>by
  have B:=r.new.lt a;have G:=y b a
  have S:W.1.size<=b:=by
   rcases G with x|x
   ·exact absurd x id
   exact x
  exact(m.block b (cB B l.size) Z).trans (l.block b B Z)
 exact r.new.ae (F _ (O rfl)) (F _ (al rfl))
theorem gi(h:PD E W P D FB M q d au)(o:oO q)(Q:0<=q.aj/\q.aj<=1000000)(l:q.af[i]?=some none)(page:Int)(w:(Lit.int .i64 page).wf=true)(y:∀(i:Nat) (f:Fr),q.af[i]?=some (some f)->f.page≠page)(s:List UInt8)(A:s.length=504) :
  Calls prog 130 #[.pointer P,.int .i64 i,.int .i64 page,.string (str s)] W λ e t=>FO E W t P D FB M q d au i page s e:=by
 have a:=h.pool;have z:=(dz.1 l).1;have K:=a.box.c1;obtain⟨cap,ob,I,G,B⟩:=UK.ZZ (P:=prog) (src:=9) (dst:=94) underlying9 underlying94 underlying5 W s;rw[A]at I G;obtain⟨f,c⟩:∃f:Fr,Hid (f={blk:=W.1.size+1,db:=W.1.size,cap:=cap,page:=page,data:=s,aj:=1,used:=true,bY:=false}):=⟨_,rfl⟩;have x:=zH (pr (P:=P) a.uJ z A page w I B 198 f c.out);have cF:=a.uJ.at' i _ (UH _ _ _ l);have R:=a.uJ.free i z;have U:=a.box.lt;have X:=a.uJ.lt;have T:=o.few;clear B
 go_enter func130,ntmps130
 go_upto_region 3 with(fail)
 refine kO (λ t=>Half W t P FB q.af i f) (by have e:=x.out;rw[c.out]at e ⊢;exact e) ?_;intro w1 n;obtain⟨g,p,C⟩:=a.map
 have r:g page=none:=by
  cases O:g page with
  | none=>rfl
  | some b=>
   obtain⟨j,_,S,N,hf⟩:=(p page b).1 O;exact absurd hf (y j S N)
 have H:=C.only n.only a.FM.symm;obtain⟨L,V,k,F⟩:=H.put (t:=111) underlying3 underlying3 underlying111 (by have:=tM q.af;unfold maxLen;omega) page i w (WalkArith.wf_i64 Z);rw[r]at k;have J:=NC q.af i none (some f) l;simp only[Option.isSome_some,Option.isSome_none,if_true,Bool.false_eq_true,if_false]at J k;rw[show cntF q.af+1=cntF (q.af.set i (some f)) from Z]at k;have v:f.page=page:=by rw[c.out]
 have u:=p.lay l (fr:=f) (by rw[v];exact r);rw[v]at u;have b1:=a.box.only n.only a.PF;have m:=b1.only F a.PM;have c2:=b1.c2;have c4:=m.c4;have f4:=m.free 4;have HFin:=zH (h.laid l n (by rw[c.out];exact⟨rfl,rfl⟩) F ((Only.refl P L).set 4 (.int .i64 (q.aj+1))) ⟨_,u,k.tight⟩ (aj:=q.aj+1) (m.set 4 (.int .i64 (q.aj+1))));obtain⟨Y,h0⟩:=Q;clear x C H k u r p J b1 m G cF R K y n;go_wp2;go_ret;exact⟨f,by rw[c.out]<;>rfl,v,by rw[c.out],by rw[c.out],by rw[c.out],by rw[c.out],HFin.out.1,HFin.out.2⟩
open UK (nth w32)
def iJ(x:List UInt8)(p:Nat):List UInt8:=(x.drop (512*p)).take 512
def Pw(g:List UInt8)(p:Nat):Bool:=decide (dS (g.take 4)=iP 0 (g.drop 4))&&decide (((dS ((g.drop 4).take 4)).toNat:Int)=p)
theorem Px(h:512*(p+1)<=Y x):(iJ x p).length=512:=by
 unfold iJ;rw[zt,zd];omega
theorem zJ(x:List UInt8)(p:Nat):okB x p=Pw (iJ x p) p:=by
 unfold okB Pw iJ;rw[lK,List.drop_take,lK,lq];rfl
theorem Dl(x:List UInt8)(p:Nat):Db x p=(iJ x p).drop 8:=by
 unfold Db iJ;rw[List.drop_take,lq]
theorem mv(l:List UInt8)(n i:Nat)(h:i<n):nth (l.take n) i=nth l i:=by
 unfold nth;rw[fV,fV,fT h]
theorem BE(l:List UInt8)(n i:Nat):nth (l.drop n) i=nth l (n+i):=by
 unfold nth;rw[fV,fV,eP]
theorem Gb{l:List UInt8}(b:Y l=Y m)(h:∀i,i<Y l->nth l i=nth m i):l=m:=by
 refine List.ext_getElem? (λ i=>?_);by_cases a:i<Y l
 ·have:=h i a;unfold nth at this;rw[fV,fV,bK a,bK Z]at this;rw[bK a,bK Z];exact congrArg some this
 rw[ja Z,ja Z]
theorem ku(x:List UInt8)(a:Nat)(s:List UInt8)(i:Nat)(h:a+Y s<=Y x):nth (UK.wr x a s) i=if a<=i/\i<a+Y s then nth s (i-a) else nth x i:=by
 unfold UK.wr nth;have d:(x.take a).length=a:=by rw[zt];omega
 rw[fV,fV,fV,List.getElem?_append,List.getElem?_append,d,eP];by_cases b:i<a
 ·rw[be b,aE Z,fT b]
 rw[aE b];by_cases c:i-a<Y s
 ·rw[be c,be Z]
 rw[aE c,aE Z,show a+Y s+(i-a-Y s)=i from Z]
theorem Xv(x:List UInt8)(p i:Nat)(h:i<512):nth (iJ x p) i=nth x (512*p+i):=by
 unfold iJ;rw[mv _ _ _ h,BE]
theorem GH(x:List UInt8)(p q:Nat)(s:List UInt8)(b:Y s=512)(h:512*(p+1)<=Y x)(c:512*(q+1)<=Y x):iJ (UK.wr x (512*p) s) q=if p=q then s else iJ x q:=by
 have d:=UK.jF x (512*p) s Z;refine Gb ?_ (λ i a=>?_)
 ·rw[Px Z]
  split
  ·exact b.symm
  exact(Px c).symm
 rw[Px Z]at a;rw[Xv _ _ _ a,ku _ _ _ _ Z];by_cases e:p=q
 ·subst e;rw[be Z,be rfl,show 512*p+i-512*p=i from Z]
 rw[aE Z,aE e,Xv _ _ _ a]
theorem qS(p:Nat)(s:List UInt8)(a:Y s=504):jJ p s=aJ (iP 0 (aJ (w32 p)++s))++(aJ (w32 p)++s):=by
 unfold jJ qP;rw[show 504-Y s=0 from Z];show aJ (iP 0 (aJ (w32 p)++(s++[])))++(aJ (w32 p)++(s++[]))=_;rw[jl]
theorem Xw(c:UInt32)(l:List UInt8):(aJ c++l).take 4=aJ c:=rfl
theorem AQ(c:UInt32)(l:List UInt8):(aJ c++l).drop 4=l:=rfl
theorem Xx(p:Nat)(a:p<=60000)(s:List UInt8):Pw (jJ p s) p=true:=by
 unfold Pw jJ;rw[Xw,AQ,Fg];unfold qP;rw[Xw,Fg];rw[decide_eq_true rfl,Bool.true_and,decide_eq_true_eq,<-UK.J5 p];omega
theorem vH(p:Nat)(s:List UInt8)(a:Y s=504):(jJ p s).drop 8=s:=by
 rw[qS p s a];rfl
theorem Xy(x:List UInt8)(p:Nat)(b:p<=60000)(s:List UInt8)(c:Y s=504)(h:512*(p+1)<=Y x):lu (UK.wr x (512*p) (jJ p s)) p=s/\zG (UK.wr x (512*p) (jJ p s)) p=0:=by
 have e:iJ (UK.wr x (512*p) (jJ p s)) p=jJ p s:=by rw[GH x p p _ (BZ p s Z) h h,be rfl]
 have a:okB (UK.wr x (512*p) (jJ p s)) p=true:=by rw[zJ,e];exact Xx p b s
 unfold zG;rw[RZ a,a,Dl,e,vH p s c];exact⟨rfl,rfl⟩
open UK (str aF nth Only w32 Row)
def GI(x:List UInt8)(q:Nat):List UInt8:=(Db x q).take 4
structure Clean(d:Dk)(au:Nat):Prop where
 fit:Fit d au
 so:Sound d au
 rl:d.rl= -1
 wl:d.wl= -1
 ok:∀p,1<=p->p<au->okB d.x p=true
 link:∀i,i<Y d.free->GI d.x (d.free.getD i 0)=tN d i
theorem Sv(x:List UInt8)(p:Nat):GI x p=((iJ x p).drop 8).take 4:=by unfold GI;rw[Dl]
theorem FN(p:Nat)(s:List UInt8)(a:4<=Y s):((jJ p s).drop 8).take 4=s.take 4:=by
 unfold jJ qP;show List.take 4 (List.drop 4 ((aJ (w32 p))++(s++UK.bM (504-Y s))))=_;show List.take 4 (s++UK.bM (504-Y s))=_;rw[qN a]
theorem Py(x:List UInt8)(au p q:Nat)(s:List UInt8)(d:Y x=512*au)(g:au<=60000)(c:p<au)(f:q<au)(a:Y s<=504)(h:q≠p->okB x q=true):okB (UK.wr x (512*p) (jJ p s)) q=true:=by
 rw[zJ,GH x p q _ (BZ p s a) Z Z];by_cases e:p=q
 ·rw[be e,<-e];exact Xx p Z s
 rw[aE e,<-zJ];exact h (λ b=>e b.symm)
theorem Sw(x:List UInt8)(au p q:Nat)(s:List UInt8)(c:Y x=512*au)(b:p<au)(d:q<au)(a:Y s<=504)(e:p≠q):GI (UK.wr x (512*p) (jJ p s)) q=GI x q:=by
 rw[Sv,Sv,GH x p q _ (BZ p s a) Z Z,aE e]
theorem Hv(x:List UInt8)(au p:Nat)(s:List UInt8)(d:Y x=512*au)(c:p<au)(a:4<=Y s)(b:Y s<=504):GI (UK.wr x (512*p) (jJ p s)) p=s.take 4:=by
 rw[Sv,GH x p p _ (BZ p s b) Z Z,be rfl,FN p s a]
theorem Xz(h:e.free=d.free)(i:Nat):tN e i=tN d i:=by unfold tN;rw[h]
theorem Pz{l:List Nat}(h:i<Y l):l.getD i 0∈l:=by
 rw[fV,bK h];exact List.getElem_mem _
theorem P5(h:d.wl= -1):iX d.wl= -1:=by rw[h];rfl
theorem Clean.write(h:Clean d au)(k:d.puts+1<1000000000)(p:Nat)(a:p<au)(hf:p∉d.free)(s:List UInt8)(b:Y s<=504):Clean (Fs d p s) au:=by
 refine⟨Sl h.fit k p a s b,h.so.of_same rfl rfl,h.rl,P5 h.wl,λ q j g=>Py d.x au p q s h.fit.len h.fit.few a g b (λ _=>h.ok q j g),λ i c=>?_⟩;have f:=Pz (show i<Y d.free from c);refine(Sw d.x au p _ s h.fit.len a (h.fit.free _ f).2 b (λ e=>hf (e▸f))).trans ?_;exact(h.link i c).trans (Xz rfl i).symm
theorem Clean.give(h:Clean d au)(o:d.puts+1<1000000000)(p:Nat)(m:1<=p)(f:p<au)(hf:p∉d.free):Clean (uW d p) au:=by
 have n:=h.so.less h.fit f hf;have r:(tN d (Y d.free)).length=4:=iI _ _;refine⟨Sq h.fit o p m f n,h.so.give h.fit f hf,h.rl,P5 h.wl,λ q a b=>Py d.x au p q _ h.fit.len h.fit.few f b Z (λ _=>h.ok q a b),λ i l=>?_⟩
 have s:i<Y d.free+1:=by
  have:i<(d.free++[p]).length:=l
  rwa [zl]at this
 by_cases e:i=Y d.free
 ·subst e
  have g:(uW d p).free.getD (Y d.free) 0=p:=by
   show(d.free++[p]).getD (Y d.free) 0=p;rw[fV,bZ (aH _),l7];rfl
  rw[g];refine(Hv d.x au p _ h.fit.len f Z Z).trans ?_;rw[fQ Z];unfold tN;by_cases c:Y d.free=0
  ·rw[be c,be c]
  rw[aE c,aE c];show _=aJ (w32 ((d.free++[p]).getD _ 0));rw[fV,fV,bR Z]
 have j:i<Y d.free:=Z
 have g:(uW d p).free.getD i 0=d.free.getD i 0:=by
  show(d.free++[p]).getD i 0=_;rw[fV,fV,bR j]
 have k:=Pz j;rw[g];refine(Sw d.x au p _ _ h.fit.len f (h.fit.free _ k).2 Z (λ e=>hf (e▸k))).trans ((h.link i j).trans ?_);unfold tN;by_cases c:i=0
 ·rw[be c,be c]
 rw[aE c,aE c];show _=aJ (w32 ((d.free++[p]).getD _ 0));rw[fV,fV,bR Z]
theorem Clean.iE{d:Dk}{au:Nat}(h:Clean d au)(u:d.puts+1<1000000000)(l:List Nat)(p:Nat)(c:d.free=l++[p]):Clean (iE d l p) au:=by
 have s:p∈d.free:=by rw[c];exact lL _ (bu.2 rfl)
 have j:=h.fit.free p s;have n:=h.so.nodup;rw[c]at n;have r:p∉l:=λ g=>(bN.1 n).2.2 p g p (bu.2 rfl) rfl;refine⟨Sr h.fit u l p c,h.so.iE h.fit c,h.rl,P5 h.wl,λ q a b=>Py d.x au p q _ h.fit.len h.fit.few j.2 b (by decide) (λ _=>h.ok q a b),λ i o=>?_⟩;have m:i<Y l:=o;have v:Y d.free=Y l+1:=by rw[c,zl];rfl
 have k:l.getD i 0=d.free.getD i 0:=by
  rw[c,fV,fV,bR m]
 have g:=Pz (show i<Y d.free from Z);show GI _ (l.getD i 0)=_;have t:p≠l.getD i 0:=λ e=>r (e▸Pz m);refine(Sw d.x au p _ _ h.fit.len j.2 (by rw[k];exact(h.fit.free _ g).2) (by decide) t).trans ?_;rw[k];refine(h.link i Z).trans ?_;unfold tN;by_cases f:i=0
 ·rw[be f,be f]
 rw[aE f,aE f];show _=aJ (w32 (l.getD _ 0));rw[c,fV,fV,bR Z]
theorem Lk(x z:List UInt8)(p:Nat)(h:512*(p+1)<=Y x):okB (x++z) p=okB x p:=by
 have e:iJ (x++z) p=iJ x p:=by
  unfold iJ;rw[List.drop_append_of_le_length Z,qN (by rw[zd];omega)]
 rw[zJ,zJ,e]
theorem Clean.takeN{d:Dk}{au:Nat}(h:Clean d au)(l:d.puts+1<1000000000)(c:d.free=[])(j:(au:Int)<d.aA):Clean (takeN d au) (au+1):=by
 have k:(d.x++UK.bM 512).length=512*(au+1):=by rw[zl,UK.kr,h.fit.len];omega
 refine⟨Su h.fit l c j,h.so.takeN h.fit c,h.rl,P5 h.wl,λ q a b=>?_,λ i g=>?_⟩
 ·refine Py _ (au+1) au q _ k (by have:=h.fit.aA.2.1;omega) Z b (by decide) (λ e=>?_);rw[Lk _ _ _ (by rw[h.fit.len];omega)];exact h.ok q a Z
 have f:i<Y d.free:=g;rw[c]at f;exact absurd f (jI _)
theorem Clean.same{d e:Dk}{au:Nat}(h:Clean d au)(f:Fit e au)(b:e.x=d.x)(hf:e.free=d.free)(c:e.gH=d.gH)(g:e.rl= -1)(j:e.wl= -1):Clean e au:=
 ⟨f,h.so.of_same hf c,g,j,by rw[b];exact h.ok,λ i a=>by rw[b,hf,Xz hf];rw[hf]at a;exact h.link i a⟩
def UB(o:Option Fr):Prop:=∀f,o=some f->¬0<f.aj/\f.used=false
def UC(o:Option Fr):Prop:=∀f,o=some f->¬0<f.aj
theorem gr(n:Nat)(e:h<Y l) :
  (kJ (n+1) l h).1≠none\/∃(f:Fr) (b:List (Option Fr)),l[h]?=some (some f)/\kJ (n+1) l h=kJ n b ((h+1)%Y l)/\((0<f.aj/\b=l)\/(¬0<f.aj/\f.used=true/\b=l.set h (some {f with used:=false}))):=by
 cases d:l[h]? with
 | none=>exact absurd d (by rw[bK e];exact λ h=>by cases h)
 | some o=>
  cases o with
  | none=>left;rw[Kn n d];exact λ h=>by cases h
  | some f=>
   rw[Ko n d];by_cases a:0<f.aj
   ·right
    exact⟨f,l,rfl,by rw[be a],O ⟨a,rfl⟩⟩
   by_cases c:f.used=true
   ·right
    exact⟨f,_,rfl,by rw[aE a,be c],al ⟨a,c,rfl⟩⟩
   left
   rw[aE a,aE c];exact λ h=>by cases h
theorem fh:∀(j n:Nat) (l:List (Option Fr)) (h i:Nat),h<Y l->(h+j)%Y l=i->j<Y l->(∀o,l[i]?=some o->UB o)->j+1<=n->(kJ n l h).1≠none
 | j,0,_,_,_,_,_,_,_,q=>absurd q Z
 | j,n+1,l,h,i,b,a,y,c,q=>by
  rcases gr n b with r|⟨f,d,hf,t,g⟩
  ·exact r
  have x:i<Y l:=by rw[<-a];exact kz _ Z
  by_cases e:h=i
  ·subst e;obtain⟨v,s⟩:=c _ hf f rfl;rcases g with⟨u,_⟩|⟨_,m,_⟩
   ·exact absurd u v
   rw[s]at m;cases m
  have z:j≠0:=λ w=>by
   subst w;rw[kg,yT b]at a;exact e a
  have p:Y d=Y l:=by
   rcases g with⟨_,rfl⟩|⟨_,_,rfl⟩
   ·rfl
   exact aV
  rw[t];rw[<-p];refine fh (j-1) n d ((h+1)%Y d) i (kz _ Z) ?_ Z (λ o k=>?_) Z
  ·rw[p,<-a,Nat.mod_add_mod]
   congr 1
   omega
  rcases g with⟨_,rfl⟩|⟨_,_,rfl⟩
  ·exact c o k
  rw[gF _ _ _ _ b,aE e]at k;exact c o k
theorem cW:∀(j n:Nat) (l:List (Option Fr)) (h i:Nat),h<Y l->(h+j)%Y l=i->j<Y l->(∀o,l[i]?=some o->UC o)->j+1+Y l<=n->(kJ n l h).1≠none
 | j,0,_,_,_,_,_,_,_,s=>absurd s Z
 | j,n+1,l,h,i,b,d,y,k,s=>by
  rcases gr n b with u|⟨f,m,hf,r,p⟩
  ·exact u
  have x:i<Y l:=by rw[<-d];exact kz _ Z
  have c:Y m=Y l:=by
   rcases p with⟨_,rfl⟩|⟨_,_,rfl⟩
   ·rfl
   exact aV
  by_cases e:h=i
  ·subst e;have t:=k _ hf f rfl;rcases p with⟨v,_⟩|⟨_,z,rfl⟩
   ·exact absurd v t
   rw[r,<-c];refine fh (Y l-1) n _ _ h (kz _ Z) ?_ Z (λ o a=>?_) Z
   ·rw[c,Nat.mod_add_mod,show h+1+(Y l-1)=h+Y l from Z,Nat.add_mod_right,yT b]
   rw[gF _ _ _ _ b,be rfl]at a;intro g q;rw[<-bf a]at q;rw[<-bf q];exact⟨t,rfl⟩
  have A:j≠0:=λ w=>by
   subst w;rw[kg,yT b]at d;exact e d
  rw[r,<-c];refine cW (j-1) n m ((h+1)%Y m) i (kz _ Z) ?_ Z (λ o a=>?_) Z
  ·rw[c,<-d,Nat.mod_add_mod]
   congr 1
   omega
  rcases p with⟨_,rfl⟩|⟨_,_,rfl⟩
  ·exact k o a
  rw[gF _ _ _ _ b,aE e]at a;exact k o a
theorem qu(l:List (Option Fr))(h i:Nat)(a:h<Y l)(b:i<Y l)(c:∀o,l[i]?=some o->UC o):(kJ (2*Y l) l h).1≠none:=by
 refine cW ((i+Y l-h)%Y l) (2*Y l) l h i a ?_ (kz _ Z) c ?_
 ·rw[Nat.add_mod_mod,show h+(i+Y l-h)=i+Y l from Z,Nat.add_mod_right,yT b]
 have:=kz (i+Y l-h) (show 0<Y l from Z);omega
theorem QD:∀(n:Nat) (l:List (Option Fr)) (h:Nat),h<Y l->∀(i:Nat) (g:Fr),(kJ n l h).2.1[i]?=some (some g)->∃f:Fr,l[i]?=some (some f)/\(g=f\/g={f with used:=false})
 | 0,_,_,_,_,g,a=>⟨g,a,O rfl⟩
 | n+1,l,h,j,i,g,a=>by
  have c:∃o,l[h]?=some o:=⟨_,bK j⟩;obtain⟨o,c⟩:=c
  cases o with
  | none=>rw[Kn n c]at a;exact⟨g,a,O rfl⟩
  | some f=>
   rw[Ko n c]at a;by_cases d:0<f.aj
   ·rw[be d]at a;exact QD n l _ (kz _ Z) i g a
   rw[aE d]at a;by_cases k:f.used=true
   ·rw[be k]at a;obtain⟨q,b,m⟩:=QD n (l.set h (some {f with used:=false})) _ (by rw[aV];exact kz _ Z) i g a;rw[gF _ _ _ _ j]at b;by_cases e:h=i
    ·subst e;rw[be rfl]at b;have p:=bf (bf b);subst p;exact⟨f,c,al (by rcases m with rfl|rfl<;>rfl)⟩
    rw[aE e]at b;exact⟨q,b,m⟩
   rw[aE k]at a;exact⟨g,a,O rfl⟩
theorem QE:∀(n:Nat) (l:List (Option Fr)) (h:Nat),h<Y l->∀(i:Nat) (f:Fr),l[i]?=some (some f)->∃g:Fr,(kJ n l h).2.1[i]?=some (some g)/\(g=f\/g={f with used:=false})
 | 0,_,_,_,_,f,hf=>⟨f,hf,O rfl⟩
 | n+1,l,h,b,i,f,hf=>by
  have a:∃o,l[h]?=some o:=⟨_,bK b⟩;obtain⟨o,a⟩:=a
  cases o with
  | none=>rw[Kn n a];exact⟨f,hf,O rfl⟩
  | some u=>
   rw[Ko n a];by_cases c:0<u.aj
   ·rw[be c];exact QE n l _ (kz _ Z) i f hf
   rw[aE c];by_cases d:u.used=true
   ·rw[be d];by_cases e:h=i
    ·subst e;rw[a]at hf;have m:=bf (bf hf);subst m;obtain⟨g,j,k⟩:=QE n (l.set h (some {u with used:=false})) ((h+1)%Y l) (by rw[aV];exact kz _ Z) h {u with used:=false} (by rw[gF _ _ _ _ b,be rfl]);exact⟨g,j,al (by rcases k with rfl|rfl<;>rfl)⟩
    exact QE n (l.set h (some {u with used:=false})) ((h+1)%Y l) (by rw[aV];exact kz _ Z) i f (by rw[gF _ _ _ _ b,aE e];exact hf)
   rw[aE d];exact⟨f,hf,O rfl⟩
structure Calm(q:Pl)(d:Dk)(au:Nat)(c:Nat->List UInt8):Prop where
 clean:Clean d au
 at_:∀(i:Nat) (f:Fr),q.af[i]?=some (some f)->f.data=c f.page.toNat
 off:∀p,1<=p->p<au->p∉d.free->(∀(i:Nat) (f:Fr),q.af[i]?=some (some f)->f.page=(p:Nat)->f.bY=false)->lu d.x p=c p
theorem Calm.forget(h:Calm q d au c)(b:q.af[i]?=some (some f))(hd:f.bY=false)(r:Nat)(aj:Int)(s:Option ll):Calm {af:=q.af.set i none,hand:=r,aj:=aj,op:=s} d au c:=by
 have k:=(dz.1 b).1;refine⟨h.clean,λ j g a=>?_,λ p n o t m=>h.off p n o t (λ j g a l=>?_)⟩
 ·replace a:(q.af.set i none)[j]?=some (some g):=a;rw[gF _ _ _ _ k]at a;by_cases e:i=j
  ·rw[be e]at a;cases a
  rw[aE e]at a;exact h.at_ j g a
 by_cases e:i=j
 ·subst e;rw[b]at a;rw[<-bf (bf a)];exact hd
 exact m j g (by show(q.af.set i none)[j]?=_;rw[gF _ _ _ _ k,aE e];exact a) l
theorem Calm.wY(h:Calm q d au c)(b:q.hand<Y q.af)(n:Nat)(o:Nat)(aj:Int)(r:Option ll):Calm {af:=(kJ n q.af q.hand).2.1,hand:=o,aj:=aj,op:=r} d au c:=by
 refine⟨h.clean,λ i g a=>?_,λ p l m s k=>h.off p l m s (λ i f hf j=>?_)⟩
 ·obtain⟨f,hf,e⟩:=QD n q.af q.hand b i g a;have:=h.at_ i f hf;rcases e with rfl|rfl<;>exact this
 obtain⟨g,a,e⟩:=QE n q.af q.hand b i f hf;have:=k i g a (by rcases e with rfl|rfl<;>exact j);rcases e with rfl|rfl<;>exact this
theorem dw(a:Clean d au)(p r:Nat)(f:p<au)(g:r<au)(s:List UInt8)(b:Y s=504):lu (Fs d p s).x r=if p=r then s else lu d.x r:=by
 have h:=a.fit.len;have i:=a.fit.few;by_cases e:p=r
 ·subst e;rw[be rfl];exact(Xy d.x p Z s b Z).1
 rw[aE e];have c:iJ (UK.wr d.x (512*p) (jJ p s)) r=iJ d.x r:=by rw[GH d.x p r _ (BZ p s Z) Z Z,aE e]
 show lu (UK.wr d.x (512*p) (jJ p s)) r=_;unfold lu;rw[zJ,zJ,Dl,Dl,c]
theorem Calm.write(h:Calm q d au c)(A:d.puts+1<1000000000)(b:q.af[i]?=some (some f))(n:f.page=(p:Nat))(o:p<au)(s:p∉d.free)(x:Y f.data=504)(u:Nat)(aj:Int)(z:Option ll):Calm {af:=q.af.set i none,hand:=u,aj:=aj,op:=z} (Fs d p f.data) au c:=by
 have m:=(dz.1 b).1;refine⟨h.clean.write A p o s f.data Z,λ j g a=>?_,λ r t l y v=>?_⟩
 ·replace a:(q.af.set i none)[j]?=some (some g):=a;rw[gF _ _ _ _ m]at a;by_cases e:i=j
  ·rw[be e]at a;cases a
  rw[aE e]at a;exact h.at_ j g a
 rw[dw h.clean p r o l f.data x];by_cases e:p=r
 ·subst e;rw[be rfl];have:=h.at_ i f b;rw[n,Int.toNat_natCast]at this;exact this
 rw[aE e];refine h.off r t l y (λ j g a k=>?_)
 have B:i≠j:=λ C=>by
  subst C;rw[b]at a;have w:=bf (bf a);subst w;rw[n]at k;exact e Z
 exact v j g (by show(q.af.set i none)[j]?=_;rw[gF _ _ _ _ m,aE B];exact a) k
theorem Calm.lay(h:Calm q d au c)(b:q.af[i]?=some none)(hf:f.data=c f.page.toNat)(r:Nat)(aj:Int)(s:Option ll):Calm {af:=q.af.set i (some f),hand:=r,aj:=aj,op:=s} d au c:=by
 have k:=(dz.1 b).1;refine⟨h.clean,λ j g a=>?_,λ p n o t m=>h.off p n o t (λ j g a l=>?_)⟩
 ·replace a:(q.af.set i (some f))[j]?=some (some g):=a;rw[gF _ _ _ _ k]at a;by_cases e:i=j
  ·rw[be e]at a;rw[<-bf (bf a)];exact hf
  rw[aE e]at a;exact h.at_ j g a
 have e:i≠j:=λ e=>by subst e;rw[b]at a;cases a
 exact m j g (by show(q.af.set i (some f))[j]?=_;rw[gF _ _ _ _ k,aE e];exact a) l
theorem f9(p:Nat):jJ p []=jJ p (UK.bM 504):=by
 have e:qP p []=qP p (UK.bM 504):=by
  have a:([]:List UInt8)++UK.bM (504-([]:List UInt8).length)=UK.bM 504++UK.bM (504-(UK.bM 504).length):=by
   rw[UK.kr,l7,iQ,List.length_nil,Nat.sub_zero];exact(jl _).symm
  unfold qP;rw[a]
 unfold jJ;rw[e]
theorem Jd(a:Clean d au){l:List Nat}(f:d.free=l++[p])(r:Nat)(c:r<au):lu (iE d l p).x r=if p=r then UK.bM 504 else lu d.x r:=by
 have b:=a.fit.free p (by rw[f];exact lL _ (bu.2 rfl));have e:=dw a p r b.2 c (UK.bM 504) (UK.kr 504);show lu (UK.wr d.x (512*p) (jJ p [])) r=_;rw[f9];exact e
def bX(c:Nat->List UInt8)(p:Nat)(s:List UInt8):Nat->List UInt8:=λ r=>if p=r then s else c r
theorem Calm.nat(h:Calm q d au c)(a:bF d au f.page=true):∃p:Nat,f.page=p/\1<=p/\p<au/\p∉d.free:=by
 rw[h.clean.so.lM,decide_eq_true_eq]at a;exact⟨f.page.toNat,Z,Z,Z,a.2.2⟩
theorem Calm.iE(h:Calm q d au c)(w:d.puts+1<1000000000){l:List Nat}{p:Nat}(g:d.free=l++[p])(m:∀(i:Nat) (f:Fr),q.af[i]?=some (some f)->bF d au f.page=true):Calm q (iE d l p) au (bX c p (UK.bM 504)):=by
 have s:p∈d.free:=by rw[g];exact lL _ (bu.2 rfl)
 refine⟨h.clean.iE w l p g,λ i f j=>?_,λ r o k u n=>?_⟩
 ·obtain⟨a,v,_,_,hf⟩:=h.nat (m i f j);have:=h.at_ i f j;unfold bX;rw[v,Int.toNat_natCast]at this ⊢;have t:¬p=a:=λ e=>by subst e;exact hf s
  rw[aE t];exact this
 rw[Jd h.clean g r k];unfold bX;by_cases e:p=r
 ·rw[be e,be e]
 rw[aE e,aE e];refine h.off r o k (λ b=>?_) n;rw[g]at b;rcases dm.1 b with b|b
 ·exact u b
 exact e (bu.1 b).symm
theorem Hi(a:Clean d au)(p r:Nat)(f:p<au)(g:r<au)(s:List UInt8)(b:Y s<=504)(e:p≠r):lu (UK.wr d.x (512*p) (jJ p s)) r=lu d.x r:=by
 have h:=a.fit.len;have c:iJ (UK.wr d.x (512*p) (jJ p s)) r=iJ d.x r:=by rw[GH d.x p r _ (BZ p s b) Z Z,aE e]
 unfold lu;rw[zJ,zJ,Dl,Dl,c]
theorem yk(a:Clean d au)(g:au<60000)(r:Nat)(i:r<au+1):lu (takeN d au).x r=if au=r then UK.bM 504 else lu d.x r:=by
 have h:=a.fit.len;have f:(d.x++UK.bM 512).length=512*(au+1):=by rw[zl,UK.kr];omega
 show lu (UK.wr (d.x++UK.bM 512) (512*au) (jJ au [])) r=_;by_cases e:au=r
 ·subst e;rw[be rfl,f9];exact(Xy _ au Z (UK.bM 504) (UK.kr 504) Z).1
 rw[aE e];have c:iJ (UK.wr (d.x++UK.bM 512) (512*au) (jJ au [])) r=iJ (d.x++UK.bM 512) r:=by rw[GH _ au r _ (BZ au [] (by decide)) Z Z,aE e]
 have b:iJ (d.x++UK.bM 512) r=iJ d.x r:=by
  unfold iJ;rw[List.drop_append_of_le_length Z,qN (by rw[zd];omega)]
 unfold lu;rw[zJ,zJ,Dl,Dl,c,b]
theorem Calm.takeN(h:Calm q d au c)(p:d.puts+1<1000000000)(g:d.free=[])(m:(au:Int)<d.aA)(j:∀(i:Nat) (f:Fr),q.af[i]?=some (some f)->bF d au f.page=true):Calm q (takeN d au) (au+1) (bX c au (UK.bM 504)):=by
 have s:=h.clean.fit.aA;refine⟨h.clean.takeN p g m,λ i f b=>?_,λ r l n u k=>?_⟩
 ·obtain⟨a,o,_,t,hf⟩:=h.nat (j i f b);have:=h.at_ i f b;unfold bX;rw[o,Int.toNat_natCast]at this ⊢;rw[aE Z];exact this
 rw[yk h.clean Z r n];unfold bX;by_cases e:au=r
 ·rw[be e,be e]
 rw[aE e,aE e];exact h.off r l Z (by rw[g];exact List.not_mem_nil) k
theorem Calm.turn(h:Calm q d au c)(b:q.af[i]?=some (some f))(l:g.page=f.page)(y:g.data=f.data)(hd:f.bY=true->g.bY=true)(t:Nat)(aj:Int)(x:Option ll):Calm {af:=q.af.set i (some g),hand:=t,aj:=aj,op:=x} d au c:=by
 have k:=(dz.1 b).1;refine⟨h.clean,λ j u a=>?_,λ p r s w m=>h.off p r s w (λ j u a n=>?_)⟩
 ·replace a:(q.af.set i (some g))[j]?=some (some u):=a;rw[gF _ _ _ _ k]at a;by_cases e:i=j
  ·rw[be e]at a;rw[<-bf (bf a),y,l];exact h.at_ i f b
  rw[aE e]at a;exact h.at_ j u a
 by_cases e:i=j
 ·subst e;rw[b]at a;have v:=bf (bf a);subst v;have:=m i g (by show(q.af.set i (some g))[i]?=_;rw[gF _ _ _ _ k,be rfl]) (l.trans n)
  cases o:f.bY
  ·rfl
  rw[hd o]at this;cases this
 exact m j u (by show(q.af.set i (some g))[j]?=_;rw[gF _ _ _ _ k,aE e];exact a) n
theorem Calm.same(h:Calm q d au c)(a:Nat)(aj:Int)(b:Option ll):Calm {af:=q.af,hand:=a,aj:=aj,op:=b} d au c:=⟨h.clean,h.at_,h.off⟩
theorem Calm.UD(h:Calm q d au c)(l:q.af[i]?=some (some f))(hd:f.bY=true)(o:∀(j:Nat) (g:Fr),q.af[j]?=some (some g)->bF d au g.page=true)(w:∀(j:Nat) (g:Fr),q.af[j]?=some (some g)->g.page=f.page->i=j)(s:List UInt8)(x:Nat)(aj:Int)(A:Option ll) :
  Calm {af:=q.af.set i (some {f with data:=s}),hand:=x,aj:=aj,op:=A} d au (bX c f.page.toNat s):=by
 have k:=(dz.1 l).1;obtain⟨p,E,D,_,_⟩:=h.nat (o i f l);refine⟨h.clean,λ j u b=>?_,λ r t v B n=>?_⟩
 ·replace b:(q.af.set i (some {f with data:=s}))[j]?=some (some u):=b;rw[gF _ _ _ _ k]at b;unfold bX;by_cases e:i=j
  ·rw[be e]at b;rw[<-bf (bf b)];show s=if f.page.toNat=f.page.toNat then s else _
   rw[be rfl]
  rw[aE e]at b;obtain⟨a,C,_,_,_⟩:=h.nat (o j u b);rw[aE (λ m=>e (w j u b Z))];exact h.at_ j u b
 unfold bX;by_cases e:f.page.toNat=r
 ·have:=n i {f with data:=s} (by show(q.af.set i _)[i]?=_;rw[gF _ _ _ _ k,be rfl]) (by show f.page=_;omega);rw[show({f with data:=s}:Fr).bY=f.bY from rfl,hd]at this
  cases this
 rw[aE e];refine h.off r t v B (λ j u b z=>?_);by_cases m:i=j
 ·subst m;rw[l]at b;have y:=bf (bf b);subst y;omega
 exact n j u (by show(q.af.set i _)[j]?=_;rw[gF _ _ _ _ k,aE m];exact b) z
theorem Calm.give(h:Calm q d au c)(x:d.puts+1<1000000000)(p:Nat)(n:1<=p)(f:p<au)(hf:p∉d.free)(y:∀(j:Nat) (g:Fr),l[j]?=some (some g)->q.af[j]?=some (some g))(s:∀(j:Nat) (g:Fr),q.af[j]?=some (some g)->g.page≠(p:Nat)->l[j]?=some (some g))(v:Nat)(aj:Int)(w:Option ll) :
  Calm {af:=l,hand:=v,aj:=aj,op:=w} (uW d p) au c:=by
 refine⟨h.clean.give x p n f hf,λ j g b=>h.at_ j g (y j g b),λ r u i a m=>?_⟩;have a:r∉d.free++[p]:=a;have t:p≠r:=λ e=>a (by rw[e];exact lL _ (bu.2 rfl));refine(Hi h.clean p r f i _ (by rw[iI];decide) t).trans (h.off r u i (λ o=>a (fw _ o)) (λ j g b k=>m j g (s j g b Z) k))
theorem Calm.read(h:Calm q d au c)(a:d.reads+1<1000000000):Calm q (Fv d) au c:=
 ⟨h.clean.same (Sm h.clean.fit a) rfl rfl rfl (by show iX d.rl= -1;rw[h.clean.rl];rfl) h.clean.wl,h.at_,h.off⟩
theorem cU:∀(l:List (Option Fr)),(∀(i:Nat) (f:Fr),l[i]?=some (some f)->0<=f.aj)->uG l<Y l->∃i,i<Y l/\∀o,l[i]?=some o->UC o
 | [],_,h=>absurd h (by decide)
 | none::l,_,_=>⟨0,by simp,λ o a f hf=>by
   rw[<-bf a]at hf;cases hf⟩
 | some f::l,k,h=>by
  by_cases c:0<f.aj
  ·obtain⟨i,m,e⟩:=cU l (λ j g d=>k (j+1) g d) (by
    have:uG (some f::l)=f.aj+uG l:=rfl;rw[this,dF]at h;omega)
   exact⟨i+1,by rw[dF];omega,λ o a=>e o a⟩
  exact⟨0,by simp,λ o a g b=>by
   rw[<-bf a]at b;rw[<-bf b];exact c⟩
open UK (str aF nth Only Row ay kX nW)
structure PS(E:Nat->Prop)(W:World)(P D FB M n:Nat)(kp:Int)(q:Pl)(d:Dk)(au k:Nat)(c:Nat->List UInt8):Prop where
 pd:PD E W P D FB M q d au
 ok:oO q
 mi:Ok d au k
 held:∀(j:Nat) (g:Fr),q.af[j]?=some (some g)->bF d au g.page=true
 aj:q.aj=kp
 len:Y q.af=n
 calm:Calm q d au c
 lim:∀o,q.op=some o->o.wn<=k/\Y o.made<=k/\Y o.gone<=k
theorem PS.next(h:PS E W P D FB M n kp q d au k c)(a:Below W W W'):PS E W' P D FB M n kp q d au k c:=⟨h.pd.next a,h.ok,h.mi,h.held,h.aj,h.len,h.calm,h.lim⟩
theorem PS.Bl(h:PS E W P D FB M n kp q d au k c)(b:Below W W W'):Kept E W W':=Kept.of_below b (λ j a=>h.pd.dd.there j (O a))
theorem PS.up{m:Nat}(h:PS E W P D FB M n kp q d au k c)(b:k<=m):PS E W P D FB M n kp q d au m c:=
 ⟨h.pd,h.ok,⟨h.mi.fit,h.mi.so,by have:=h.mi.puts;omega,by have:=h.mi.reads;omega⟩,h.held,h.aj,h.len,h.calm,λ o a=>by have:=h.lim o a;omega⟩
theorem PS.looks(h:PS E W P D FB M n kp q d au k c)(x:Nat):PS E (W.drewN x) P D FB M n kp q d au k c/\Kept E W (W.drewN x):=
 have a:Below W W (W.drewN x):=UK.dN (aU _ _) x
 ⟨h.next a,h.Bl a⟩
theorem PS.inj(h:PS E W P D FB M n kp q d au k c){j:Nat}(a:q.af[i]?=some (some f))(l:q.af[j]?=some (some g))(e:f.page=g.page):i=j:=by
 obtain⟨m,b,_⟩:=h.pd.pool.map;exact b.inj a l e
theorem PS.flag(h:PS E W P D FB M n kp q d au k c)(b:q.af[i]?=some (some f))(l:Same f g)(hd:f.bY=true->g.bY=true)(m:0<=g.aj/\g.aj<=1000000)(o:PD E w1 P D FB M {af:=q.af.set i (some g),hand:=q.hand,aj:=q.aj-f.aj+g.aj,op:=q.op} d au) :
  PS E w1 P D FB M n (kp-f.aj+g.aj) {af:=q.af.set i (some g),hand:=q.hand,aj:=q.aj-f.aj+g.aj,op:=q.op} d au k c:=by
 have r:=(dz.1 b).1;refine⟨o,h.ok.set b (u:=some g) (λ x p=>by rw[<-bf p];exact m),h.mi,λ j u a=>?_,by rw[<-h.aj],by show(q.af.set i _).length=n;rw[aV];exact h.len,h.calm.turn b l.page l.data hd _ _ _,h.lim⟩;replace a:(q.af.set i (some g))[j]?=some (some u):=a;rw[gF _ _ _ _ r]at a;by_cases e:i=j
 ·rw[be e]at a;rw[<-bf (bf a),l.page];exact h.held i f b
 rw[aE e]at a;exact h.held j u a
theorem kf(h:PS E W P D FB M n kp q d au k c)(b:q.af[i]?=some (some f))(A:0<f.aj)(p:0<kp/\kp<=1000000) :
  Calls prog 65 #[aq f.blk] W λ e o=>e=aw (a9 #[])/\PS E o P D FB M n (kp-1) {af:=q.af.set i (some {f with aj:=f.aj-1}),hand:=q.hand,aj:=q.aj-1,op:=q.op} d au k c/\Kept E W o:=by
 have a:=h.pd.pool.each i f b;have y:=h.ok.pos i f b;have w:=a.box.c0;have z:=a.box.c3;have B:=a.box.free 3;have j:=h.pd.flag (g:={f with aj:=f.aj-1}) b ⟨rfl,rfl,rfl,rfl,rfl⟩ ((Only.refl f.blk W).set 3 (V U (f.aj-1))) (a.box.set 3 (V U (f.aj-1)));have g:=j.1.pool.box;have t:(q.af.set i (some {f with aj:=f.aj-1})).length=Y q.af:=aV;simp only at g;have C:=g.c4;have f4:=g.free 4;have l:=j.1.own ((Only.refl P _).set 4 (V U (q.aj-1))) (hand:=q.hand) (aj:=q.aj-1) (g.set 4 (V U (q.aj-1)))
 have m:=h.flag (g:={f with aj:=f.aj-1}) b ⟨rfl,rfl,rfl,rfl,rfl⟩ (λ s=>s) (by show 0<=f.aj-1/\f.aj-1<=1000000;omega) (w1:=(W.setCell (f.blk,3) (V U (f.aj-1))).setCell (P,4) (V U (q.aj-1))) (by
  rw[show q.aj-f.aj+({f with aj:=f.aj-1}:Fr).aj=q.aj-1 by show q.aj-f.aj+(f.aj-1)=_;omega];exact l.1)
 rw[show kp-f.aj+({f with aj:=f.aj-1}:Fr).aj=kp-1 by show kp-f.aj+(f.aj-1)=_;omega,show q.aj-f.aj+({f with aj:=f.aj-1}:Fr).aj=q.aj-1 by show q.aj-f.aj+(f.aj-1)=_;omega]at m;have r:=bg m (j.2.trans l.2);have x:0<q.aj:=by rw[h.aj];exact p.1
 have u:q.aj<=1000000:=by rw[h.aj];exact p.2
 have v:f.blk≠P:=(h.pd.pool.off i (some f) f.blk b (O rfl)).1;clear j l m g a t
 go_enter func65,ntmps65
 go_wp2
 go_end0
 exact⟨rfl,r.out.1,r.out.2⟩
theorem ys(u:FrameMode)(h:PS E W P D FB M n kp q d au k c)(b:q.af[i]?=some (some f))(C:0<f.aj)(p:0<kp/\kp<=1000000) :
  CallsD prog 65 #[aq f.blk] u W λ e s o=>s=u/\(e=aw (a9 #[])/\PS E o P D FB M n (kp-1) {af:=q.af.set i (some {f with aj:=f.aj-1}),hand:=q.hand,aj:=q.aj-1,op:=q.op} d au k c/\Kept E W o):=by
 have a:=h.pd.pool.each i f b;have A:=h.ok.pos i f b;have y:=a.box.c0;have B:=a.box.c3;have F:=a.box.free 3;have j:=h.pd.flag (g:={f with aj:=f.aj-1}) b ⟨rfl,rfl,rfl,rfl,rfl⟩ ((Only.refl f.blk W).set 3 (V U (f.aj-1))) (a.box.set 3 (V U (f.aj-1)));have g:=j.1.pool.box;have v:(q.af.set i (some {f with aj:=f.aj-1})).length=Y q.af:=aV;simp only at g;have G:=g.c4;have f4:=g.free 4;have l:=j.1.own ((Only.refl P _).set 4 (V U (q.aj-1))) (hand:=q.hand) (aj:=q.aj-1) (g.set 4 (V U (q.aj-1)))
 have m:=h.flag (g:={f with aj:=f.aj-1}) b ⟨rfl,rfl,rfl,rfl,rfl⟩ (λ t=>t) (by show 0<=f.aj-1/\f.aj-1<=1000000;omega) (w1:=(W.setCell (f.blk,3) (V U (f.aj-1))).setCell (P,4) (V U (q.aj-1))) (by
  rw[show q.aj-f.aj+({f with aj:=f.aj-1}:Fr).aj=q.aj-1 by show q.aj-f.aj+(f.aj-1)=_;omega];exact l.1)
 rw[show kp-f.aj+({f with aj:=f.aj-1}:Fr).aj=kp-1 by show kp-f.aj+(f.aj-1)=_;omega,show q.aj-f.aj+({f with aj:=f.aj-1}:Fr).aj=q.aj-1 by show q.aj-f.aj+(f.aj-1)=_;omega]at m;have r:=bg m (j.2.trans l.2);have z:0<q.aj:=by rw[h.aj];exact p.1
 have w:q.aj<=1000000:=by rw[h.aj];exact p.2
 have x:f.blk≠P:=(h.pd.pool.off i (some f) f.blk b (O rfl)).1;clear j l m g a v
 go_enter_d func65,ntmps65
 go_wp2
 go_end0
 exact⟨rfl,r.out.1,r.out.2⟩
theorem PD.uK(h:PD E W P D FB M q d au)(v:W'.os=W.os)(x:W'.tape=W.tape)(A:W'.output=W.output)(t:W.1.size<=W'.1.size)(w:ay W' P (oN D FB (Y q.af) M q.hand q.aj op'))(B:vV W' op')(n:∀j,jS op' j->jS q.op j\/W.1.size<=j)(m:∀j,j<W.1.size->j≠P->¬jS q.op j->W'.1[j]?=W.1[j]?):PD E W' P D FB M {af:=q.af,hand:=q.hand,aj:=q.aj,op:=op'} d au/\Kept E W W':=by
 have b:=h.pool;obtain⟨f,hf,y⟩:=b.map;have C:=b.box.lt;have u:=b.uJ.lt;have z:M<W.1.size:=b.lt (al (al (O rfl)));have p:∀j,jS q.op j->j≠P/\j≠FB/\j≠M:=b.iV;have r:∀(i:Nat) (o:Option Fr) (j:Nat),q.af[i]?=some o->nY o j->W'.1[j]?=W.1[j]?:=λ i o j k l=>m j (b.zo k l) (b.off i o j k l).1 (b.nC i o j k l);refine h.moves (q':={af:=q.af,hand:=q.hand,aj:=q.aj,op:=op'}) ⟨v,x,A,t,λ j a s=>m j a (λ e=>s (O e)) (λ e=>s (al (al (al (O e))))),λ j a=>?_⟩ ⟨w,b.uJ.ae t (m FB u b.PF.symm (λ e=>(p FB e).2.1 rfl)),⟨f,hf,y.ae (m M z b.PM.symm (λ e=>(p M e).2.2 rfl))⟩,λ i g k=>(b.each i g k).ae (r i _ _ k (O rfl)) (r i _ _ k (al rfl)),b.PF,b.PM,b.FM,b.off,b.two,B,λ j a=>?_,λ i o j k l a=>?_,λ j a=>?_⟩
 ·rcases a with a|a|a|a|a
  ·exact O (O a)
  ·exact O (al (O a))
  ·exact O (al (al (O a)))
  ·rcases n j a with c|c
   ·exact O (al (al (al (O c))))
   exact al c
  exact O (al (al (al (al a))))
 ·rcases n j a with c|c
  ·exact p j c
  exact⟨Z,Z,Z⟩
 ·rcases n j a with c|c
  ·exact b.nC i o j k l c
  have:=b.zo k l;omega
 rcases a with a|a|a|a|a
 ·exact b.tab j (O a)
 ·exact b.tab j (al (O a))
 ·exact b.tab j (al (al (O a)))
 ·rcases n j a with c|c
  ·exact b.tab j (al (al (al (O c))))
  have:=h.dd.tab.lt;omega
 exact b.tab j (al (al (al (al a))))
theorem PS.op{op':Option ll}(h:PS E W P D FB M n kp q d au k c)(b:∀o,op'=some o->o.wn<=k/\Y o.made<=k/\Y o.gone<=k)(a:PD E W' P D FB M {af:=q.af,hand:=q.hand,aj:=q.aj,op:=op'} d au):PS E W' P D FB M n kp {af:=q.af,hand:=q.hand,aj:=q.aj,op:=op'} d au k c:=
 ⟨a,⟨h.ok.aj,h.ok.pos,h.ok.hand,h.ok.few⟩,h.mi,h.held,h.aj,h.len,h.calm.same _ _ _,b⟩
def zn(o:Option ll)(p:Int)(s:List UInt8):Option ll:=match o with
 | none=>none
 | some o=>if p∈o.made\/(o.was p).isSome=true then some o else some {o with was:=λ j=>if j=p then some s else o.was j,wn:=o.wn+1}
def wz(o:Option ll):Prop:=∀x,o=some x->x.wn<1000000000
theorem Fk{o:Option ll}{p:Int}(h:∀x,o=some x->x.wn<=k/\Y x.made<=k/\Y x.gone<=k):∀x,zn o p s=some x->x.wn<=k+1/\Y x.made<=k+1/\Y x.gone<=k+1:=λ x a=>by
 unfold zn at a
 cases o with
 | none=>cases a
 | some o=>
  have b:=h o rfl;replace a:(if p∈o.made\/(o.was p).isSome=true then some o else some {o with was:=λ j=>if j=p then some s else o.was j,wn:=o.wn+1})=some x:=a
  split at a
  ·rw[<-bf a];omega
  rw[<-bf a];show o.wn+1<=_/\Y o.made<=_/\Y o.gone<=_;omega
theorem tk(h:PD E W P D FB M q d au)(L:q.af[i]?=some (some f))(hw:wz q.op) :
  Calls prog 131 #[aq P,aq f.blk] W λ e T=>e=aw (a9 #[])/\PD E T P D FB M {af:=q.af,hand:=q.hand,aj:=q.aj,op:=zn q.op f.page f.data} d au/\Kept E W T:=by
 have F:∀x,PD E (W.drewN x) P D FB M q d au/\Kept E W (W.drewN x):=λ x=>
  have t:Below W W (W.drewN x):=UK.dN (aU _ _) x
  ⟨h.next t,Kept.of_below t (λ j l=>h.dd.there j (O l))⟩
 have B:=h.pool.box.c5;have p:=h.pool.box.c6;have K:=h.pool.box.c7;have k:=h.pool.each i f L;have b1:=k.box.c1;have H:=k.box.c2
 cases g:q.op with
 | none=>
  rw[g]at B;simp only[yF,Option.isSome_none]at B
  go_enter func131,ntmps131
  go_wp2
  go_quiet (fail)
  go_wp2;refine bodyPost_ret (results_none rfl _ _ _) rfl ?_
  refine⟨rfl,?_,(F _).2⟩;have r:=(F nq).1;rw[show q={af:=q.af,hand:=q.hand,aj:=q.aj,op:=none} by rw[<-g]]at r;exact r
 | some o=>
  have b:=h.pool.op o g;have h7:=hw o g;rw[g]at B p K;simp only[yF,uI,II,Option.isSome_some]at B p K;have G:=zH F;have A:=λ x=>UM (b.made.ae (W':=W.drewN x) (aH _) (λ _ _=>rfl)) b.few.2.1 f.page;clear F;by_cases m:f.page∈o.made
  ·have HK:Hid (zn (some o) f.page f.data=some o):=by show _=_;unfold zn;show(if _ then _ else _)=_;rw[be (O m)]
   rw[decide_eq_true m]at A;clear m
   go_enter func131,ntmps131
   go_wp2
   go_quiet (first|(go_at_call 122;exact Calls.quiet_of_same (A _)))
   go_wp2;refine bodyPost_ret (results_none rfl _ _ _) rfl ?_
   refine⟨rfl,?_,(G.out _).2⟩;have r:=(G.out nq).1;rw[HK.out];rw[show q={af:=q.af,hand:=q.hand,aj:=q.aj,op:=some o} by rw[<-g]]at r;exact r
  rw[decide_eq_false m]at A
  go_enter func131,ntmps131
  go_wp2
  go_quiet (first|(go_at_call 122;exact Calls.quiet_of_same (A _)))
  obtain⟨c,u⟩:=G.out nq;generalize W.drewN nq=w1 at c u ⊢;have b:=c.pool.op o g;have p:=c.pool.box.c6;rw[g]at p;simp only[uI]at p;have k:=c.pool.each i f L;have b1:=k.box.c1;have H:=k.box.c2;have v:=λ x=>(b.was.ae (W':=w1.drewN x) rfl).get (t:=112) underlying3 underlying9 underlying112 (λ w=>by kernel_rfl) f.page k.page
  have Q:∀x,PD E (w1.drewN x) P D FB M q d au/\Kept E W (w1.drewN x):=λ x=>
   have t:Below w1 w1 (w1.drewN x):=UK.dN (aU _ _) x
   ⟨c.next t,u.trans (Kept.of_below t (λ j l=>c.dd.there j (O l)))⟩
  have I:=bm Q g m;clear A G h m K B Q
  cases z:o.was f.page with
  | some s=>
   rw[z]at v;have Y:∀x,(Instr.lookup 112 (.map (some o.wb)) (V U f.page) true).run prog (w1.drewN x)= .ok (a9 #[a8 (UK.str s),a6 true]) (w1.drewN x):=v;have HW0:=zH z;clear v z b k c g;go_wp2
   go_quiet (fail)
   go_wp2
   go_end0
   obtain⟨hd,g,m⟩:=I.out;refine⟨rfl,?_,(hd _).2⟩
   have e:zn (some o) f.page f.data=some o:=by
    show(if _ then _ else _)=_;rw[be (al (by rw[HW0.out];rfl))]
   rw[e];have c:=(hd nq).1;rw[show q={af:=q.af,hand:=q.hand,aj:=q.aj,op:=some o} by rw[<-g]]at c;exact c
  | none=>
   rw[z]at v;have Y:∀x,(Instr.lookup 112 (.map (some o.wb)) (V U f.page) true).run prog (w1.drewN x)= .ok (a9 #[a8 (UK.str []),a6 false]) (w1.drewN x):=v;have HW0:=zH z;clear v z b k c g;go_wp2
   go_quiet (fail)
   obtain⟨hd,g,m⟩:=I.out;obtain⟨c,u⟩:=hd nq;generalize w1.drewN nq=J at c u ⊢;clear hd Y b1 H p I;have p:=c.pool.box.c6;rw[g]at p;simp only[uI]at p;have k:=c.pool.each i f L;have b1:=k.box.c1;have H:=k.box.c2;have b:=c.pool.op o g;obtain⟨y,X,h5,Ej⟩:=k.bytes;have h4:=k.cap;have h3:=UK.vB (P:=prog) (src:=94) (dst:=9) underlying94 underlying5 underlying9 X.drew 0 504 f.cap Z;rw[List.drop_zero,Ej]at h3;obtain⟨C,h6,N,S⟩:=(b.was.ae (W':=J.drew) rfl).put (t:=112) underlying3 underlying9 underlying112 (by unfold maxLen;omega) f.page f.data k.page (by rw[k.len];decide);rw[HW0.out]at N
   have R:Hid (PD E C P D FB M {af:=q.af,hand:=q.hand,aj:=q.aj,op:=zn (some o) f.page f.data} d au/\Kept E W C):=by
    show _/\_;have n:Only o.wb J C:=(Only.refl o.wb J).drew.trans S
    have e:zn (some o) f.page f.data=some {o with was:=λ j=>if j=f.page then some f.data else o.was j,wn:=o.wn+1}:=by
     show(if _ then _ else _)=_;rw[aE (by rw[HW0.out];rintro(a|a);exact m a;cases a)]
    have h0:jS q.op o.wb:=by rw[g];exact O rfl
    have h2:P≠o.wb:=((c.pool.iV _ h0).1).symm;rw[e]
    have r:=c.uK (W':=C) (op':=some {o with was:=λ j=>if j=f.page then some f.data else o.was j,wn:=o.wn+1}) n.os n.tape n.output n.size (by
     have t:=c.pool.box.only n h2;rw[g]at t;exact t) (λ x hx=>by
     obtain rfl:=bf hx;refine⟨?_,b.made.ae n.size (λ j l=>n.block j (b.made.lt l) (λ e=>b.wm (e▸l))),b.gone.ae n.size (λ j l=>n.block j (b.gone.lt l) (λ e=>b.wg (e▸l))),b.wm,b.wg,b.mg,b.wZ,b.xh,⟨by show o.wn+1<=_;omega,b.few.2⟩⟩;exact N.tight) (λ j l=>O (by rw[g];exact l)) (λ j l _ h1=>n.block j l (λ e=>h1 (e▸h0)))
    exact⟨r.1,u.trans r.2⟩
   clear N S b X h5 Ej h4 m c k u;go_wp2
   go_region
   go_end0
   exact⟨rfl,R.out.1,R.out.2⟩
theorem FY(h:PS E W P D FB M n kp q d au k c)(a:q.af[i]?=some (some f))(C:k<900000000) :
  Calls prog 64 #[aq f.blk] W λ e u=>e=aw (ad f.db 504 f.cap)/\PS E u P D FB M n kp {af:=q.af.set i (some {f with bY:=true}),hand:=q.hand,aj:=q.aj,op:=zn q.op f.page f.data} d au (k+1) c/\Kept E W u:=by
 have o:=h.pd.pool.each i f a;have y:=h.ok.pos i f a;have z:=o.box.c0;have m:=tk h.pd a (λ x b=>by have:=h.lim x b;omega);have v:=Fk (p:=f.page) (s:=f.data) h.lim;generalize zn q.op f.page f.data=op' at m v ⊢
 have s:∀w1,PD E w1 P D FB M {af:=q.af,hand:=q.hand,aj:=q.aj,op:=op'} d au->PS E (w1.setCell (f.blk,5) (a6 true)) P D FB M n kp {af:=q.af.set i (some {f with bY:=true}),hand:=q.hand,aj:=q.aj,op:=op'} d au (k+1) c/\Kept E w1 (w1.setCell (f.blk,5) (a6 true))/\w1.cell? (f.blk,5)=some (a6 f.bY)/\w1.frozen? ⟨f.blk,5,none⟩=false/\(w1.setCell (f.blk,5) (a6 true)).cell? (f.blk,2)=some (ad f.db 504 f.cap):=λ w1 g=>by
  have b:=(h.up (Nat.le_succ k)).op v g;have l:=(b.pd.pool.each i f a).box;have p:=b.pd.flag (g:={f with bY:=true}) a ⟨rfl,rfl,rfl,rfl,rfl⟩ ((Only.refl f.blk _).set 5 (a6 true)) (l.set 5 (a6 true))
  have j:=b.flag (g:={f with bY:=true}) a ⟨rfl,rfl,rfl,rfl,rfl⟩ (λ _=>rfl) y (by
   show PD E _ P D FB M {af:=q.af.set i (some {f with bY:=true}),hand:=q.hand,aj:=q.aj-f.aj+f.aj,op:=op'} d au;rw[show q.aj-f.aj+f.aj=q.aj from Z];exact p.1)
  replace j:PS E (w1.setCell (f.blk,5) (a6 true)) P D FB M n (kp-f.aj+f.aj) {af:=q.af.set i (some {f with bY:=true}),hand:=q.hand,aj:=q.aj-f.aj+f.aj,op:=op'} d au (k+1) c:=j;rw[show q.aj-f.aj+f.aj=q.aj from Z,show kp-f.aj+f.aj=kp from Z]at j;exact⟨j,p.2,l.cell 5 _ rfl,l.free 5,(l.set 5 (a6 true)).cell 2 _ rfl⟩
 have HST:=zH s;clear s o y
 go_enter func64,ntmps64
 go_wp2_with fail
 refine m.mono ?_;rintro e w1 ⟨rfl,g,r⟩;obtain⟨w,t,F,H,G⟩:=HST.out w1 g;have B:=zH w;have A:=zH (r.trans t);clear HST m g w r t z;go_wp2;go_ret;exact⟨rfl,B.out,A.out⟩
theorem PS.bytes(h:PS E W P D FB M n kp q d au k c)(l:q.af[i]?=some (some f))(hd:f.bY=true)(o:Only f.db W W')(L:aF W' f.db y)(R:Y y=f.cap) :
  PS E W' P D FB M n kp {af:=q.af.set i (some {f with data:=y.take 504}),hand:=q.hand,aj:=q.aj,op:=q.op} d au k (bX c f.page.toNat (y.take 504))/\Kept E W W':=by
 have m:=h.pd.pool;have J:=(dz.1 l).1;have r:=m.each i f l;have T:=r.cap;obtain⟨F,hf,N⟩:=m.map;have w:=m.off i (some f) f.db l (al rfl)
 have s:cntF (q.af.set i (some {f with data:=y.take 504}))=cntF q.af:=by
  have:=NC q.af i (some f) (some {f with data:=y.take 504}) l
  simpa using this
 have B:∀v,nY (some {f with data:=y.take 504}) v->nY (some f) v\/W.1.size<=v:=λ v t=>O t
 have z:=h.pd.moves (q':={af:=q.af.set i (some {f with data:=y.take 504}),hand:=q.hand,aj:=q.aj,op:=q.op}) (W':=W') ⟨o.os,o.tape,o.output,o.size,λ c s Q=>o.block c s (λ e=>Q (e▸ al (al (al (al ⟨i,some f,l,al rfl⟩))))),λ c s=>jT.bV l B s⟩ (by
  refine m.bV l h.pd.dd.tab.lt (m.box.ae (o.block _ m.box.lt w.1.symm)) o.size (λ b t=>o.block b (m.op.lt t) (λ e=>m.nC i (some f) _ l (al rfl) (e▸t))) ?_ ⟨F,hf.turn l rfl,by rw[s];exact N.only o w.2.2.symm⟩ (λ a u c p A C=>?_) (λ S I=>?_) B
  ·rw[gE q.af i (some f) (some {f with data:=y.take 504}) l rfl];exact m.uJ.only o w.2.1.symm
  ·have H:=m.zo A C;refine o.block c H (λ e=>?_);subst e;exact m.two i a (some f) u _ (dJ p) l A (al rfl) C
  obtain rfl:=bf I;exact⟨r.box.ae (o.block _ (m.zo l (O rfl)) r.ne),⟨y,L,R,rfl⟩,by show(y.take 504).length=_;rw[zt];omega,r.cap,r.page,r.ne⟩)
 refine⟨⟨z.1,?_,h.mi,λ a u p=>?_,h.aj,by show(q.af.set i _).length=n;rw[aV];exact h.len,h.calm.UD l hd h.held (λ j g K e=>h.inj l K e.symm) (y.take 504) _ _ _,h.lim⟩,z.2⟩
 ·have:=h.ok.set l (u:=some {f with data:=y.take 504}) (λ x G=>by rw[<-bf G];exact h.ok.pos i f l);rw[show q.aj-jf (some f)+jf (some {f with data:=y.take 504})=q.aj by show q.aj-f.aj+f.aj=q.aj;omega]at this;exact this
 replace p:(q.af.set i (some {f with data:=y.take 504}))[a]?=some (some u):=p;rw[gF _ _ _ _ J]at p;by_cases e:i=a
 ·rw[be e]at p;rw[<-bf (bf p)];exact h.held i f l
 rw[aE e]at p;exact h.held a u p
theorem kt{p:Int}(f:Fit d au)(b:bF d au p=true)(a:JB d au p=0):(JC d au p).length=504:=by
 obtain⟨m,rfl,e⟩:=GJ (by rw[b];decide);have i:=Ca e;unfold JB at a;unfold JC;rw[b]at a ⊢;rw[aE (by decide)]at a ⊢;by_cases c:d.rl=0
 ·rw[be c]at a;exact absurd a (by decide)
 rw[aE c]at a ⊢;rw[Int.toNat_natCast]at a ⊢
 have g:okB d.x m=true:=by
  cases h:okB d.x m with
  | true=>rfl
  | false=>unfold zG at a;rw[h]at a;exact absurd a (by decide)
 rw[RZ g];unfold Db;rw[zt,zd,f.len];omega
theorem s9(d:Dk)(au:Nat)(p a:Int):bF (Fw d au p) au a=bF d au a:=by
 unfold Fw
 split
 ·rfl
 split<;>rfl
theorem QJ(h:PD E W P D FB M q d au)(page:Int)(e:(Lit.int .i64 page).wf=true) :
  (∃(i:Nat) (f:Fr),q.af[i]?=some (some f)/\f.page=page/\(Instr.lookup 111 (.map (some M)) (.int .i64 page) true).run prog W= .ok (.tuple #[.int .i64 (i:Int),.bool true]) W) \/
  ((∀(i:Nat) (f:Fr),q.af[i]?=some (some f)->f.page≠page)/\(Instr.lookup 111 (.map (some M)) (.int .i64 page) true).run prog W= .ok (.tuple #[.int .i64 0,.bool false]) W):=by
 obtain⟨g,c,l⟩:=h.pool.map;have a:=l.get (t:=111) underlying3 underlying3 underlying111 (λ w=>by kernel_rfl) page e
 cases b:g page with
 | none=>
  rw[b]at a;exact .inr ⟨λ i f k=>c.no b k,a⟩
 | some v=>
  rw[b]at a;obtain⟨j,rfl,m,n,hf⟩:=(c page v).1 b;exact .inl ⟨j,m,n,hf,a⟩
theorem lx(h:Clean d au)(e:bF d au (p:Int)=true)(s:List UInt8)(f:Y s=504):Dm d au (p:Int) s=0/\yS d au (p:Int) s=Fs d p s:=by
 have b:d.wl≠0:=by rw[h.wl];decide
 unfold Dm yS;have a:¬bF d au (p:Int)=false:=by rw[e];decide
 have c:¬Y s≠504:=Z
 rw[aE a,aE a,aE c,aE c,aE b,Int.toNat_natCast];exact⟨by unfold jG;rw[aE b],rfl⟩
def ya(E:Nat->Prop)(W b:World)(P D FB M n:Nat)(kp:Int)(q:Pl)(d:Dk)(au k:Nat)(c:Nat->List UInt8)(f:Ending):Prop:=
 ∃(i:Nat) (a:Pl) (e:Dk),f=aw (a9 #[V U i,V U 0])/\a.af[i]?=some none/\PS E b P D FB M n kp a e au (k+1) c/\Kept E W b/\a.op=q.op/\e.free=d.free/\e.aA=d.aA/\vg a q/\∀p,bF e au p=bF d au p
theorem UQ(h:PS E W P D FB M n kp q d au k c)(hk:k<900000000)(h8:0<=kp/\kp<n) :
  Calls prog 128 #[aq P] W λ u I=>ya E W I P D FB M n kp q d au k c u:=by
 refine(tQ h.pd h.ok h.mi hk).mono ?_;rintro u I ⟨i,e0,q',e,rfl,J,F,A,ok1,R,L,x,z,O,h5,U,T⟩;have h9:=h.ok.aj;have X:=h.aj;have N:=h.len;obtain⟨h6,hb,h1⟩:=cU q.af (λ i f hi=>(h.ok.pos i f hi).1) Z;have G:=qu q.af q.hand h6 h.ok.hand hb h1;have m:=h.calm.wY h.ok.hand (2*Y q.af) q.hand q.aj q.op;obtain⟨h2,xn,C⟩:=QH (2*Y q.af) q h.ok;have Q:=QD (2*Y q.af) q.af q.hand h.ok.hand;generalize kJ (2*Y q.af) q.af q.hand=r at h5 U T G m h2 xn C Q
 cases t:r.1 with
 | none=>exact absurd t G
 | some j=>
  obtain⟨o,a,_⟩:=C j t
  have V:∀(j:Nat) (g:Fr),q'.af[j]?=some (some g)->bF e au g.page=true:=λ j g hj=>by
   obtain⟨g0,h0,he⟩:=x j g hj;rw[z,<-he];exact h.held j g0 h0
  by_cases s:∀f:Fr,r.2.1[j]?=some (some f)->f.bY=false
  ·obtain⟨rfl,rfl,rfl,rfl⟩:=U j t s;refine⟨i,_,e,rfl,O rfl,⟨J,A,ok1,V,R.trans X,L.trans N,?_,(h.up (Nat.le_succ k)).lim⟩,F,rfl,rfl,rfl,x,z⟩
   cases o with
   | none=>
    have u:r.2.1.set i none=r.2.1:=ei a;rw[u];exact m.same _ _ _
   | some f=>exact m.forget a (s f a) _ _ _
  obtain⟨f,hf,w⟩:∃f:Fr,r.2.1[j]?=some (some f)/\f.bY=true:=by
   cases o with
   | none=>exact absurd (λ f hf=>by rw[a]at hf;cases hf) s
   | some f=>
    refine⟨f,a,?_⟩
    cases w:f.bY
    ·exact absurd (λ g B=>by rw[a]at B;rw[<-bf (bf B)];exact w) s
    rfl
  obtain⟨l,S,H⟩:=Q j f hf;have dh:f.page=l.page:=by rcases H with rfl|rfl<;>rfl
  have N8:f.data=l.data:=by rcases H with rfl|rfl<;>rfl
  have v:bF d au f.page=true:=by rw[dh];exact h.held j l S
  obtain⟨p,y,h7,h3,h4⟩:=h.calm.nat v;have K:Y f.data=504:=by rw[N8];exact(h.pd.pool.each j l S).len
  rw[y]at v;obtain⟨w1,b⟩:=lx h.calm.clean v f.data K;rw[<-y]at w1 b;obtain⟨rfl,rfl,rfl,rfl⟩:=T j f t hf w w1;have QK:=h.mi.puts;refine⟨i,_,_,rfl,O rfl,⟨J,A,ok1,V,R.trans X,L.trans N,?_,(h.up (Nat.le_succ k)).lim⟩,F,rfl,?_,?_,x,z⟩
  ·rw[b];exact m.write Z hf y h3 h4 K _ _ _
  ·rw[b];rfl
  rw[b];rfl
def IG(E:Nat->Prop)(W b:World)(P D FB M n:Nat)(kp:Int)(q:Pl)(d:Dk)(au k:Nat)(c:Nat->List UInt8)(page:Int)(g:Ending):Prop:=
 ∃(i:Nat) (f:Fr) (a:Pl) (e:Dk),g=aw (a9 #[aq f.blk,V U 0])/\a.af[i]?=some (some f)/\f.page=page/\0<f.aj/\PS E b P D FB M n (kp+1) a e au (k+2) c/\Kept E W b/\a.op=q.op/\e.free=d.free/\e.aA=d.aA
theorem rN(h:PS E W P D FB M n kp q d au k c)(I:0<=kp/\kp<1000000)(page:Int)(B:(Lit.int .i64 page).wf=true)(t:bF d au page=true)(o:page∉bO q.op)(b:q.af[i]?=some (some f))(hf:f.page=page)(h3:f.aj<1000000) :
  Calls prog 63 #[.pointer P,.int .i64 page] W λ e G=>IG E W G P D FB M n kp q d au k c page e:=by
 have F:=h.pd.pool.box.c0;have u:=Pv h.pd.dd page;rw[t]at u;have L:=(dz.1 b).1;have iH:=h.ok.few
 go_enter func63,ntmps63
 go_wp2_with fail
 refine u.mono ?_;rintro e w1 ⟨rfl,x,rfl⟩;obtain⟨a,p⟩:=h.looks x;generalize W.drewN x=w1 at a p ⊢;clear h u F;have l:=a.pd.pool.box;have R:=l.c1;have c2:=l.c2;obtain⟨r,nn,cc,w,z⟩:=Ku a.pd.pool page;have O:=l.c8;rw[w]at O;rw[decide_eq_false o]at z;clear w;have c4:=l.c4;have f4:=l.free 4;have cF:w1.cell? (FB,i)=some (.pointer f.blk):=a.pd.frame b;have j:=a.pd.pool.each i f b;have d3:=j.box.c3;have d4:=j.box.c4;have Y:=j.box.free 3;have e4:=j.box.free 4;have h0:=a.ok.pos i f b
 have V:(Instr.lookup 111 (.map (some M)) (.int .i64 page) true).run prog w1= .ok (.tuple #[.int .i64 (i:Int),.bool true]) w1:=by
  rcases QJ a.pd page B with⟨h1,g,N,o,J⟩|⟨K,_⟩
  ·obtain⟨U,C,_⟩:=a.pd.pool.map;rw[C.inj b N (hf.trans o.symm)];exact J
  exact absurd hf (K i f b)
 have T:f.blk≠P:=(a.pd.pool.off i (some f) f.blk b (.inl rfl)).1;have m:=a.pd.flag (g:={f with aj:=f.aj+1,used:=true}) b ⟨rfl,rfl,rfl,rfl,rfl⟩ (((Only.refl f.blk w1).set 3 (.int .i64 (f.aj+1))).set 4 (.bool true)) ((j.box.set 3 (.int .i64 (f.aj+1))).set 4 (.bool true));have y:=m.1.pool.box;have s:=m.1.own ((Only.refl P _).set 4 (.int .i64 (q.aj+1))) (hand:=q.hand) (aj:=q.aj+1) (y.set 4 (.int .i64 (q.aj+1)))
 have v:=a.flag (g:={f with aj:=f.aj+1,used:=true}) b ⟨rfl,rfl,rfl,rfl,rfl⟩ (λ t=>t) (by show 0<=f.aj+1/\f.aj+1<=1000000;omega) (by
  rw[show q.aj-f.aj+({f with aj:=f.aj+1,used:=true}:Fr).aj=q.aj+1 by show q.aj-f.aj+(f.aj+1)=_;omega];exact s.1)
 rw[show kp-f.aj+({f with aj:=f.aj+1,used:=true}:Fr).aj=kp+1 by show kp-f.aj+(f.aj+1)=_;omega,show q.aj-f.aj+({f with aj:=f.aj+1,used:=true}:Fr).aj=q.aj+1 by show q.aj-f.aj+(f.aj+1)=_;omega]at v;have A:=bg v ((p.trans m.2).trans s.2);have H:0<=q.aj/\q.aj<1000000:=by rw[a.aj];exact I
 obtain⟨h2,S⟩:=H;have Q:=zH hf;clear m s v y j l a p hf
 go_wp2_with fail
 refine z.mono ?_;rintro e X ⟨rfl,rfl⟩;go_wp2;go_ret2;exact⟨i,{f with aj:=f.aj+1,used:=true},_,d,rfl,by show(q.af.set i _)[i]?=_;rw[gF _ _ _ _ L,be rfl],Q.out,by show 0<f.aj+1;omega,A.out.1.up Z,A.out.2,rfl,rfl,rfl⟩
theorem He(h:Clean d au)(f:1<=p)(c:p<au)(e:bF d au (p:Int)=true):JB d au (p:Int)=0/\JC d au (p:Int)=lu d.x p/\Fw d au (p:Int)=Fv d:=by
 have a:d.rl≠0:=by rw[h.rl];decide
 unfold JB JC Fw;have b:¬bF d au (p:Int)=false:=by rw[e];decide
 rw[aE b,aE b,aE b,aE a,aE a,aE a,Int.toNat_natCast];exact⟨by unfold zG;rw[h.ok p f c];rfl,rfl,rfl⟩
theorem jn(h:PS E W P D FB M n kp q d au k c)(hk:k+2<900000000)(hj:0<=kp/\kp<n)(page:Int)(dh:(Lit.int .i64 page).wf=true)(R:bF d au page=true)(u:page∉bO q.op)(h9:∀(i:Nat) (f:Fr),q.af[i]?=some (some f)->f.page≠page) :
  Calls prog 63 #[.pointer P,.int .i64 page] W λ s w'=>IG E W w' P D FB M n kp q d au k c page s:=by
 have B:=h.pd.pool.box.c0;have F:=Pv h.pd.dd page;rw[R]at F;have AX:=zH h9;have HH:=zH R;have iH:=h.ok.few;have hn:=h.len;clear h9 R
 go_enter func63,ntmps63
 go_wp2_with fail
 refine F.mono ?_;rintro s w1 ⟨rfl,x,rfl⟩;obtain⟨w,L⟩:=h.looks x;generalize W.drewN x=w1 at w L ⊢;clear h F B;have J:=w.pd.pool.box;have c2:=J.c2;obtain⟨r,nn,cc,Y,K⟩:=Ku w.pd.pool page;have c8:=J.c8;rw[Y]at c8;rw[decide_eq_false u]at K
 have hi:(Instr.lookup 111 (.map (some M)) (.int .i64 page) true).run prog w1= .ok (.tuple #[.int .i64 0,.bool false]) w1:=by
  rcases QJ w.pd page dh with⟨j,g,b,u,_⟩|⟨_,hr⟩
  ·exact absurd u (AX.out j g b)
  exact hr
 have X:=zH (UQ w Z hj);clear J Y
 go_wp2_with fail
 refine K.mono ?_;rintro s w2 ⟨rfl,rfl⟩
 go_wp2_with fail
 refine X.out.mono ?_;rintro s w3 ⟨i,l,e,rfl,hc,m,k3,hh,h7,ha,h6,C9⟩
 have C:∀(j:Nat) (g:Fr),l.af[j]?=some (some g)->g.page≠page:=λ j g b=>by
  obtain⟨g0,h0,he⟩:=h6 j g b;rw[<-he];exact AX.out j g0 h0
 have v:bF e au page=true:=by rw[C9];exact HH.out
 obtain⟨p,rfl,hg,h5,hb⟩:∃p:Nat,page=p/\1<=p/\p<au/\p∉e.free:=by
  rw[m.calm.clean.so.lM,decide_eq_true_eq]at v;exact⟨page.toNat,Z,Z,Z,v.2.2⟩
 obtain⟨T,S,rd⟩:=He m.calm.clean hg h5 v;have A:=zH (mB m.pd.dd m.mi Z (p:Int));rw[T,S,rd]at A;have O:lu e.x p=c p:=m.calm.off p hg h5 hb (λ j g b u=>absurd u (C j g b))
 have h4:(c p).length=504:=by
  have:=kt m.pd.dd.fit v T;rw[S,O]at this;exact this
 rw[O]at A;have hl:=m.mi.reads;have h3:Ok (Fv e) au (k+2):=by have:=m.mi.read Z (p:Int);rw[rd]at this;exact this
 have HR3:=bm hh h7 ha;have hm:=zH (m.calm.read Z);have UT:=zH C;have HI:=zH hc;have B:=m.pd.pool.box.c0;have U:=zH (λ a=>s9 e au (p:Int) a);rw[rd]at U;have t:=bg m (L.trans k3);clear X K c2 c8 hi L k3 h6 C9 m C v hh h7 ha hc T S rd O hl
 go_wp2_with fail
 refine A.out.mono ?_;rintro s w4 ⟨rfl,d4,I⟩;have N:=t.out.1.pd.disk d4 I;have s4:PS E w4 P D FB M n kp l (Fv e) au (k+2) c:=⟨N,t.out.1.ok,h3,λ j g b=>by rw[U.out];exact t.out.1.held j g b,t.out.1.aj,t.out.1.len,hm.out,(t.out.1.up (Nat.le_succ _)).lim⟩;have o:=bg s4 (t.out.2.trans (I.mono (λ j b=>.inl b)));have H:=zH (gi N o.out.1.ok (by rw[o.out.1.aj];omega) HI.out (p:Int) dh UT.out (c p) h4);clear A B d4 I N s4 h3;generalize h1:c p=cp at H h4;have NP:=zH h1;clear h1
 go_wp2_with fail
 refine H.out.mono ?_;rintro s w5 ⟨f,rfl,z,Ew,Q,_,_,p5,k5⟩;have h8:=(dz.1 HI.out).1;have G:=o.out.1.ok.set HI.out (u:=some f) (λ y hy=>by rw[<-bf hy,Q];omega);rw[show l.aj-jf none+jf (some f)=l.aj+1 by show l.aj-0+f.aj=_;omega]at G
 have s5:PS E w5 P D FB M n (kp+1) {af:=l.af.set i (some f),hand:=l.hand,aj:=l.aj+1,op:=l.op} (Fv e) au (k+2) c:=⟨p5,G,o.out.1.mi,λ j g b=>by
  replace b:(l.af.set i (some f))[j]?=some (some g):=b;rw[gF _ _ _ _ h8]at b;by_cases s:i=j
  ·rw[be s]at b;rw[<-bf (bf b),z,U.out,t.out.1.calm.clean.so.lM,decide_eq_true_eq];exact⟨Z,Z,by rw[Int.toNat_natCast];exact hb⟩
  rw[aE s]at b;exact o.out.1.held j g b,by show l.aj+1=_;rw[o.out.1.aj],by show(l.af.set i _).length=n;rw[aV];exact o.out.1.len,o.out.1.calm.lay HI.out (by rw[Ew,z,Int.toNat_natCast];exact NP.out.symm) _ _ _,o.out.1.lim⟩
 have h2:=bg s5 (o.out.2.trans k5);have V:=bg Q z;clear s5 k5 p5 G H z Q Ew;go_wp2;go_ret2;exact⟨i,f,_,Fv e,rfl,by show(l.af.set i _)[i]?=_;rw[gF _ _ _ _ h8,be rfl],V.out.2,by rw[V.out.1];decide,h2.out.1,h2.out.2,HR3.out.1,HR3.out.2.1,HR3.out.2.2⟩
theorem vy(o:Ok d au k)(s:k<900000000):(∀a,bF d au a=true->bF (tD d au) (tC d au) a=true)/\(tE d au=0->bF d au (tP d au:Nat)=false/\bF (tD d au) (tC d au) (tP d au:Nat)=true):=by
 have g:=(o.take s).so;have i:=o.so;have v:=o.fit.one;rcases P8 d au with⟨_,_,a,b,e,c⟩|⟨_,_,a,b,e,c⟩|⟨_,_,hf,a,b,e,c⟩|⟨_,l,p,n,a,b,e,c⟩
 ·rw[e,c,a];exact⟨λ _ h=>h,λ h=>absurd h (by decide)⟩
 ·rw[e,c,a];exact⟨λ _ h=>h,λ h=>absurd h (by decide)⟩
 ·rw[e,c]at g ⊢;rw[b];refine⟨λ x f=>?_,λ _=>⟨?_,?_⟩⟩
  ·rw[i.lM,decide_eq_true_eq]at f;rw[g.lM,decide_eq_true_eq];exact⟨f.1,Z,f.2.2⟩
  ·rw[i.lM,decide_eq_false_iff_not];omega
  rw[g.lM,decide_eq_true_eq];refine⟨Z,Z,?_⟩;show _∉d.free;rw[hf];intro j;cases j
 rw[e,c]at g ⊢;rw[b];have q:p∈d.free:=by rw[n];exact lL _ (bu.2 rfl)
 have u:=o.fit.free p q;have r:=i.nodup;rw[n]at r;have t:p∉l:=λ m=>(bN.1 r).2.2 p m p (bu.2 rfl) rfl;refine⟨λ x f=>?_,λ _=>⟨?_,?_⟩⟩
 ·rw[i.lM,decide_eq_true_eq]at f;rw[g.lM,decide_eq_true_eq];refine⟨f.1,f.2.1,λ m=>f.2.2 ?_⟩;rw[n];exact fw _ m
 ·rw[i.lM,decide_eq_false_iff_not,Int.toNat_natCast];exact λ j=>j.2.2 q
 rw[g.lM,decide_eq_true_eq,Int.toNat_natCast];exact⟨Z,Z,t⟩
theorem CB(w:World):(Instr.makeSlice 94 (V U 504) (V U 504)).run prog w= .ok (ad w 504 504) (w.alloc (.cells (UK.qE (UK.bM 504)) 5)):=by kernel_rfl
theorem ib.only{g:Nat}{l:List Int}(h:ib W r n l)(b:Only g W W')(c:¬aG r g):ib W' r n l:=
 h.ae b.size (λ j a=>b.block j (h.lt a) (λ e=>c (e▸a)))
theorem eY{a b:Nat}(h:aG a b):b=a:=(congrArg Addr.block (bf h)).symm
theorem ib.push{m:Nat}{l:List Int}(h:ib W r m l)(n:Y l<1000000000)(v:Int) :
  ∃c d W',(Builtin.append_ #[57,57] 57 #[ad r (Y l) m,ad W 1 1]).run prog (W.alloc (.cells #[V U v] 3))= .ok (ad (some ⟨c,0,none⟩) (Y l+1) d) W'/\Row W' c d (Bh (l++[v]))/\Only c W W'/\(aG r c\/W.1.size<=c):=by
 have j:(r=none/\Bh l=[]/\m=0)\/∃g,r=some ⟨g,0,none⟩/\Row W g m (Bh l):=by
  rcases h with⟨a,b,e⟩|h
  ·exact O ⟨a,by rw[b];rfl,e⟩
  exact al h
 have f:(Bh l).length=Y l:=bS _;obtain⟨c,d,W',e,k,o,i⟩:=UK.J8 (P:=prog) (t:=57) (ty:=57) underlying57 (i:=t3) rfl rfl rfl (show(8:Nat)<=16 from Z) rfl j (V U v) rfl (by rw[f];omega);rw[f]at e;exact⟨c,d,W',e,by unfold Bh at *;rw[dI];exact k,o,i⟩
theorem PD.made(h:PD E W P D FB M q d au){o:ll}(u:q.op=some o){a i:Nat}{w1:World}(v:Int)(I:(Lit.int .i64 v).wf=true)(r:Row w1 a i (Bh (o.made++[v])))(k:Only a W w1)(m:aG o.mo a\/W.1.size<=a)(N:o.made.length<1000000000) :
  PD E (w1.setCell (P,7) (.slice a (o.made.length+1) i)) P D FB M {af:=q.af,hand:=q.hand,aj:=q.aj,op:=some {o with mo:=some ⟨a,0,none⟩,mc:=i,made:=o.made++[v]}} d au/\Kept E W (w1.setCell (P,7) (.slice a (o.made.length+1) i))/\ay w1 P (oN D FB q.af.length M q.hand q.aj q.op):=by
 have g:=h.pool;have f:=g.op o u;have L:=g.box.lt;have n:∀j,jS (some o) j->jS q.op j:=λ j b=>by rw[u];exact b
 have t:∀j,jS (some o) j->j≠P:=λ j b=>(g.iV j (n j b)).1
 have C:P≠a:=by
  rcases m with c|c
  ·exact(t a (.inr (.inl c))).symm
  omega
 have A:=f.was.lt
 have y:o.wb≠a:=by
  rcases m with c|c
  ·exact λ e=>f.wm (e▸c)
  omega
 have z:¬aG o.go a:=by
  rcases m with c|c
  ·exact f.mg a c
  exact λ e=>by have:=f.gone.lt e;omega
 have l:Only P w1 (w1.setCell (P,7) (.slice a (o.made.length+1) i)):=(Only.refl P w1).set 7 _;have F:=g.box.only k C;have s:=F.set 7 (.slice a (o.made.length+1) i);generalize w1.setCell (P,7) (.slice a (o.made.length+1) i)=w at l s ⊢;refine(λ B:PD E w P D FB M {af:=q.af,hand:=q.hand,aj:=q.aj,op:=some {o with mo:=some ⟨a,0,none⟩,mc:=i,made:=o.made++[v]}} d au/\Kept E W w=>⟨B.1,B.2,F⟩) ?_;refine h.uK (l.os.trans k.os) (l.tape.trans k.tape) (l.output.trans k.output) (aT k.size l.size) ?_ (λ x H=>?_) (λ j b=>?_) (λ j b K G=>?_)
 ·rw[u]at s
  have e:(oN D FB q.af.length M q.hand q.aj (some o)).set! 7 (.slice a (o.made.length+1) i)=oN D FB q.af.length M q.hand q.aj (some {o with mo:=some ⟨a,0,none⟩,mc:=i,made:=o.made++[v]}):=by
   have J:(o.made++[v]).length=o.made.length+1:=by simp
   simp[yF,uI,II,Kt,J]
  rw[e]at s;exact s
 ·obtain rfl:=bf H;refine⟨(f.was.ae (k.block _ A y)).ae (l.block _ (cB A k.size) (t _ (.inl rfl))),.inr ⟨a,rfl,r.only l C.symm⟩,(f.gone.only k z).only l (λ e=>t P (.inr (.inr e)) rfl),λ e=>y (eY e),f.wg,λ j b=>by rw[eY b];exact z,λ p g=>?_,f.xh,⟨f.few.1,by show(o.made++[v]).length<=_;rw[zl,gI];omega,f.few.2.2⟩⟩;rcases dm.1 g with g|g
  ·exact f.wZ p g
  rw[bu.1 g];exact I
 ·rcases b with b|b|b
  ·exact .inl (n j (.inl b))
  ·rw[eY b];rcases m with c|c
   ·exact .inl (n _ (.inr (.inl c)))
   exact .inr c
  exact .inl (n j (.inr (.inr b)))
 refine(l.block j (cB b k.size) K).trans (k.block j b (λ e=>?_));rcases m with c|c
 ·exact G (e▸n a (.inr (.inl c)))
 omega
theorem PD.gone(h:PD E W P D FB M q d au){o:ll}(u:q.op=some o){a i:Nat}{w1:World}(v:Int)(I:(Lit.int .i64 v).wf=true)(r:Row w1 a i (Bh (o.gone++[v])))(k:Only a W w1)(m:aG o.go a\/W.1.size<=a)(N:o.gone.length<1000000000) :
  PD E (w1.setCell (P,8) (.slice a (o.gone.length+1) i)) P D FB M {af:=q.af,hand:=q.hand,aj:=q.aj,op:=some {o with go:=some ⟨a,0,none⟩,gc:=i,gone:=o.gone++[v]}} d au/\Kept E W (w1.setCell (P,8) (.slice a (o.gone.length+1) i))/\ay w1 P (oN D FB q.af.length M q.hand q.aj q.op):=by
 have g:=h.pool;have f:=g.op o u;have L:=g.box.lt;have n:∀j,jS (some o) j->jS q.op j:=λ j b=>by rw[u];exact b
 have t:∀j,jS (some o) j->j≠P:=λ j b=>(g.iV j (n j b)).1
 have C:P≠a:=by
  rcases m with c|c
  ·exact(t a (.inr (.inr c))).symm
  omega
 have A:=f.was.lt
 have y:o.wb≠a:=by
  rcases m with c|c
  ·exact λ e=>f.wg (e▸c)
  omega
 have z:¬aG o.mo a:=by
  rcases m with c|c
  ·exact λ e=>f.mg a e c
  exact λ e=>by have:=f.made.lt e;omega
 have l:Only P w1 (w1.setCell (P,8) (.slice a (o.gone.length+1) i)):=(Only.refl P w1).set 8 _;have F:=g.box.only k C;have s:=F.set 8 (.slice a (o.gone.length+1) i);generalize w1.setCell (P,8) (.slice a (o.gone.length+1) i)=w at l s ⊢;refine(λ B:PD E w P D FB M {af:=q.af,hand:=q.hand,aj:=q.aj,op:=some {o with go:=some ⟨a,0,none⟩,gc:=i,gone:=o.gone++[v]}} d au/\Kept E W w=>⟨B.1,B.2,F⟩) ?_;refine h.uK (l.os.trans k.os) (l.tape.trans k.tape) (l.output.trans k.output) (aT k.size l.size) ?_ (λ x H=>?_) (λ j b=>?_) (λ j b K G=>?_)
 ·rw[u]at s
  have e:(oN D FB q.af.length M q.hand q.aj (some o)).set! 8 (.slice a (o.gone.length+1) i)=oN D FB q.af.length M q.hand q.aj (some {o with go:=some ⟨a,0,none⟩,gc:=i,gone:=o.gone++[v]}):=by
   have J:(o.gone++[v]).length=o.gone.length+1:=by simp
   simp[yF,uI,II,Kt,J]
  rw[e]at s;exact s
 ·obtain rfl:=bf H;refine⟨(f.was.ae (k.block _ A y)).ae (l.block _ (cB A k.size) (t _ (.inl rfl))),(f.made.only k z).only l (λ e=>t P (.inr (.inl e)) rfl),.inr ⟨a,rfl,r.only l C.symm⟩,f.wm,λ e=>y (eY e),λ j b e=>z (eY e▸b),f.wZ,λ p g=>?_,⟨f.few.1,f.few.2.1,by show(o.gone++[v]).length<=_;rw[zl,gI];omega⟩⟩;rcases dm.1 g with g|g
  ·exact f.xh p g
  rw[bu.1 g];exact I
 ·rcases b with b|b|b
  ·exact .inl (n j (.inl b))
  ·exact .inl (n j (.inr (.inl b)))
  rw[eY b];rcases m with c|c
  ·exact .inl (n _ (.inr (.inr c)))
  exact .inr c
 refine(l.block j (cB b k.size) K).trans (k.block j b (λ e=>?_));rcases m with c|c
 ·exact G (e▸n a (.inr (.inr c)))
 omega
def Cx(d:Dk)(au:Nat):Prop:=d.aA<=au/\d.free=[]
theorem KF(h:Calm q d au c)(j:d.puts+1<1000000000)(hf:¬Cx d au)(g:∀(i:Nat) (f:Fr),q.af[i]?=some (some f)->bF d au f.page=true):tE d au=0/\Calm q (tD d au) (tC d au) (bX c (tP d au) (UK.bM 504)):=by
 have o:d.wl≠0:=by rw[h.clean.wl];decide
 rcases P8 d au with⟨a,b,_⟩|⟨_,a,_⟩|⟨m,_,k,a,b,e,c⟩|⟨_,l,p,n,a,b,e,c⟩
 ·exact absurd ⟨a,b⟩ hf
 ·exact absurd a o
 ·rw[a,b,e,c];exact⟨rfl,h.takeN j k m g⟩
 rw[a,b,e,c];exact⟨rfl,h.iE j n g⟩
def fF(o a:Option ll)(p:Int):Prop:=(o=none/\a=none)\/∃x y,o=some x/\a=some y/\y.was=x.was/\y.wn=x.wn/\y.made=x.made++[p]/\y.gone=x.gone
def UY(o a:Option ll)(p:Int):Prop:=∃x y,o=some x/\a=some y/\y.was=x.was/\y.wn=x.wn/\y.made=x.made/\y.gone=x.gone++[p]
def Hn(E:Nat->Prop)(W b:World)(P D FB M n:Nat)(kp:Int)(q:Pl)(d:Dk)(au k:Nat)(c:Nat->List UInt8)(f:Ending):Prop:=
 ∃(a:Pl) (e:Dk),f=aw (a9 #[aq none,V U 6])/\PS E b P D FB M n kp a e au (k+2) c/\Kept E W b/\a.op=q.op/\e.free=d.free/\e.aA=d.aA
def B8(E:Nat->Prop)(W b:World)(P D FB M n:Nat)(kp:Int)(q:Pl)(d:Dk)(au k:Nat)(c:Nat->List UInt8)(g:Ending):Prop:=
 ∃(i:Nat) (f:Fr) (a:Pl) (e:Dk),g=aw (a9 #[aq f.blk,V U 0])/\a.af[i]?=some (some f)/\f.page=(tP d au:Nat)/\0<f.aj/\PS E b P D FB M n (kp+1) a e (tC d au) (k+2) (bX c (tP d au) (UK.bM 504))/\Kept E W b/\fF q.op a.op (tP d au:Nat)/\e.free=(tD d au).free/\e.aA=d.aA
theorem Dj(hf:e.free=d.free)(a:e.aA=d.aA)(b:e.wl=d.wl)(au:Nat):tE e au=tE d au/\tP e au=tP d au/\tC e au=tC d au/\(tD e au).free=(tD d au).free/\(tD e au).aA=(tD d au).aA:=by
 unfold tE tP tC tD;rw[hf,a,b];refine⟨rfl,rfl,rfl,?_,?_⟩
 all_goals
  split
  ·first|rfl|exact hf|exact a
  split
  ·first|rfl|exact hf|exact a
  split
  ·first|rfl|exact hf|exact a
  first|rfl|exact a
theorem Ik(h:PS E W P D FB M n kp q d au k c)(N:k+2<900000000)(H:0<=kp/\kp<n)(hf:Cx d au) :
  Calls prog 88 #[aq P] W λ t G=>Hn E W G P D FB M n kp q d au k c t:=by
 have u:=zH (UQ h Z H);clear h
 go_enter func88,ntmps88
 go_wp2_with fail
 refine u.out.mono ?_;rintro t Q ⟨i,s,e,rfl,K,a,m,o,b,f,J,L⟩;have g:e.aA<=au/\e.free=[]:=by rw[b,f];exact hf
 have p:=X4 a.pd.dd a.mi Z;have z:tE e au=6:=by unfold tE;rw[be g]
 have C:tP e au=0:=by unfold tP;rw[be g]
 have v:tD e au=e:=by unfold tD;rw[be g]
 have y:tC e au=au:=by unfold tC;rw[be g]
 rw[z,C,v,y]at p;have HT:=zH p;have F:=a.pd.pool.box.c0;have A:=br a m o b f;clear u p a m o b f J L K g z C v y
 go_wp2_with fail
 refine HT.out.mono ?_;rintro t x ⟨rfl,B,r⟩;obtain⟨a,m,o,b,f⟩:=A.out;have w:PS E x P D FB M n kp s e au (k+2) c:=(show PS E x P D FB M n kp s e au (k+1) c from⟨a.pd.disk B r,a.ok,a.mi,a.held,a.aj,a.len,a.calm,a.lim⟩).up Z;have l:=br w (m.trans (r.mono (λ j I=>O I))) o b f;clear HT A a w B r m o b f F;go_wp2;go_ret2;exact⟨s,e,rfl,l.out.1,l.out.2.1,l.out.2.2.1,l.out.2.2.2.1,l.out.2.2.2.2⟩
theorem de(h:PS E W P D FB M n kp q d au k c)(C:0<=kp/\kp<1000000)(b:q.af[i]?=some none)(p:Nat)(v:bF d au (p:Int)=true)(u:∀(j:Nat) (g:Fr),q.af[j]?=some (some g)->g.page≠(p:Int))(A:c p=UK.bM 504)(H:p<60000) :
  Calls prog 130 #[aq P,V U i,V U p,a8 (str (UK.bM 504))] W λ e m=>∃f:Fr,e=aw (aq f.blk)/\f.page=p/\0<f.aj/\PS E m P D FB M n (kp+1) {af:=q.af.set i (some f),hand:=q.hand,aj:=q.aj+1,op:=q.op} d au k c/\Kept E W m:=by
 refine(gi h.pd h.ok (by rw[h.aj];omega) b (p:Int) (WalkArith.wf_i64 Z) u (UK.bM 504) (UK.kr 504)).mono ?_;rintro e G ⟨f,rfl,l,z,s,B,F,x,r⟩;have t:=(dz.1 b).1;have o:=h.ok.set b (u:=some f) (λ y w=>by rw[<-bf w,s];omega);rw[show q.aj-jf none+jf (some f)=q.aj+1 by show q.aj-0+f.aj=_;omega]at o;refine⟨f,rfl,l,Z,⟨x,o,h.mi,λ j g a=>?_,by show q.aj+1=_;rw[h.aj],by show(q.af.set i _).length=n;rw[aV];exact h.len,h.calm.lay b (by rw[z,l,Int.toNat_natCast,A]) _ _ _,h.lim⟩,r⟩;replace a:(q.af.set i (some f))[j]?=some (some g):=a;rw[gF _ _ _ _ t]at a;by_cases e:i=j
 ·rw[be e]at a;rw[<-bf (bf a),l];exact v
 rw[aE e]at a;exact h.held j g a
theorem o9(h:PS E W P D FB M n kp q d au k c)(hk:k+2<900000000)(h4:0<=kp/\kp<n)(hf:¬Cx d au) :
  Calls prog 88 #[aq P] W λ h1 w'=>B8 E W w' P D FB M n kp q d au k c h1:=by
 have HR:=zH (UQ h Z h4);have h3:=CB;have iH:=h.ok.few;have hu:=h.len;have Av:=zH h.calm.clean.wl;have hb:((UK.bM 504).drop 0).take 504=UK.bM 504:=by rw[List.drop_zero,fQ (by rw[UK.kr];omega)]
 have h0:=λ w:World=>UK.vB (P:=prog) (src:=94) (dst:=9) underlying94 underlying5 underlying9 (Xq w (UK.bM 504)) 0 504 504 (by rw[UK.kr];omega);rw[hb]at h0;clear h hb
 go_enter func88,ntmps88
 go_wp2_with fail
 refine HR.out.mono ?_;rintro h1 w3 ⟨i,R,e,rfl,hh,a,k3,S,h5,h2,hn,C9⟩;have h7:¬Cx e au:=by unfold Cx;rw[h5,h2];exact hf
 have QK:=a.mi.puts;obtain⟨t0,z⟩:=KF a.calm Z h7 a.held;obtain⟨e1,y,L,Q,e5⟩:=Dj h5 h2 (by rw[a.calm.clean.wl,Av.out]) au;have A:=vy a.mi Z;have K:=X4 a.pd.dd a.mi Z;have u:=a.mi.take Z;have r:=A.2 t0;have h6:=u.fit.few;have X:=r.2;rw[u.so.lM,decide_eq_true_eq]at X;rw[t0]at K;have F:(tD e au).aA=d.aA:=by rw[e5,<-h2];exact(show(tD d au).aA=d.aA by unfold tD;split;rfl;split;rfl;split<;>rfl).trans h2.symm
 have V:=br y L Q F S;have HI:=zH hh;clear HR S h5 h2 hn C9 hh e1 y L Q e5 F t0;generalize hs:tP e au=b at K r X z V;generalize ht:tD e au=td at K A r X u z V;generalize hq:tC e au=tc at K A r X u z V h6;have HT:=zH K;have h9:b<60000:=Z
 have hc:∀(j:Nat) (g:Fr),R.af[j]?=some (some g)->g.page≠(b:Int):=λ j g hj hg=>by
  have:=a.held j g hj;rw[hg,r.1]at this;cases this
 have c0:=a.pd.pool.box.c0;have UZ:=zH a.lim;have sO:=bw a k3 u z A r;have AX:=zH hc;clear K a k3 u z A r X h7 hs ht hq hc h6
 go_wp2_with fail
 refine HT.out.mono ?_;rintro h1 N ⟨rfl,d4,k4⟩;obtain⟨a,k3,u,z,A,r⟩:=sO.out;have l:PS E N P D FB M n kp R td tc (k+2) (bX c b (UK.bM 504)):=⟨a.pd.disk d4 k4,a.ok,u,λ j g hj=>A.1 _ (a.held j g hj),a.aj,a.len,z,(a.up (Nat.le_succ _)).lim⟩;have K4:=zH (k3.trans (k4.mono (λ j hj=>O hj)));have hi:=zH r.2;have c5:=l.pd.pool.box.c5;have c7:=l.pd.pool.box.c7;have h8:bX c b (UK.bM 504) b=UK.bM 504:=by unfold bX;rw[be rfl]
 have H:=zH h8;clear sO HT a k3 u z A r d4 k4 c0 h8
 cases m:R.op with
 | none=>
  rw[m]at c5;simp only[yF,Option.isSome_none]at c5;have B:Below N N (N.alloc (.cells (UK.qE (UK.bM 504)) 5)):=(aU _ _).alloc (aH _) _;have s:=zH (de (l.next B) ⟨h4.1,Z⟩ HI.out b hi.out AX.out H.out h9);have C:=zH (K4.out.trans (l.Bl B));have HQ:=zH m;have U:=h3 N;have J:=h0 N;clear c7 l B m h3 h0;have HC:=zH (rfl:bX c b (UK.bM 504)=bX c b (UK.bM 504));generalize T:bX c b (UK.bM 504)=cc at s H;have NP:=zH T;clear T HC H;generalize UK.bM 504=zz at J s U C
  go_wp2_with fail
  refine s.out.mono ?_;rintro h1 w5 ⟨f,rfl,v,t,p,I⟩;have HF:=bp v t p (C.out.trans I);clear s C J U v t p I;go_wp2;go_ret2;obtain⟨v,t,p,I⟩:=HF.out;obtain⟨y,L,Q,F,S⟩:=V.out;rw[<-NP.out]at p;rw[y,L]at p;exact⟨i,f,_,td,rfl,by show(R.af.set i _)[i]?=_;rw[gF _ _ _ _ (dz.1 HI.out).1,be rfl],by rw[v,y],t,p,I,O ⟨by rw[<-S];exact HQ.out,HQ.out⟩,Q,F⟩
 | some o=>
  rw[m]at c5 c7;simp only[yF,II,Option.isSome_some]at c5 c7;have ho:=l.pd.pool.op o m;have hr:=l.lim o m;obtain⟨g',c',w5,ha,r5,o5,he⟩:=ho.made.push Z (b:Int);obtain⟨p6,k6,b5⟩:=l.pd.made m (b:Int) (WalkArith.wf_i64 Z) r5 o5 he Z;have f7:=b5.free 7;have hl:=b5.c7;have hp:=UZ.out o m
  have s6:=l.op (op':=some {o with mo:=some ⟨g',0,none⟩,mc:=c',made:=o.made++[(b:Int)]}) (λ x hx=>by
   rw[<-bf hx];show o.wn<=_/\(o.made++[(b:Int)]).length<=_/\Y o.gone<=_;rw[zl,gI];omega) p6
  have HM:Hid (fF R.op (some {o with mo:=some ⟨g',0,none⟩,mc:=c',made:=o.made++[(b:Int)]}) (b:Int)):=al ⟨o,_,m,rfl,rfl,rfl,rfl,rfl⟩;generalize zh:w5.setCell (P,7) (ad g' (Y o.made+1) c')=G at s6 k6;have B:Below G G (G.alloc (.cells (UK.qE (UK.bM 504)) 5)):=(aU _ _).alloc (aH _) _;have s:=zH (de (s6.next B) ⟨h4.1,Z⟩ HI.out b hi.out AX.out H.out h9);have C:=zH ((K4.out.trans k6).trans (s6.Bl B));have U:=h3 G;have J:=h0 G;clear l B m h3 h0 p6 b5 r5 o5 he hr hp ho k6 s6;generalize T:bX c b (UK.bM 504)=cc at s H;have NP:=zH T;clear T H;generalize UK.bM 504=zz at J s U C;have NS:G.1.size=w5.1.size:=by rw[<-zh];simp[World.setCell]
  rw[NS]at J;subst zh;clear NS
  go_wp2_with (at_builtin;refine UK.jm ha rfl rfl rfl rfl rfl ?_)
  refine s.out.mono ?_;rintro h1 w7 ⟨f,rfl,v,t,s7,k7⟩;have HF:=bp v t s7 (C.out.trans k7);clear s C J U v t s7 k7 ha hl f7 c5 c7;go_wp2;go_ret2;obtain⟨v,t,p,I⟩:=HF.out;obtain⟨y,L,Q,F,S⟩:=V.out;rw[<-NP.out]at p;rw[y,L]at p;refine⟨i,f,_,td,rfl,by show(R.af.set i _)[i]?=_;rw[gF _ _ _ _ (dz.1 HI.out).1,be rfl],by rw[v,y],t,p,I,?_,Q,F⟩;have hm:=HM.out;rw[S,y]at hm;exact hm
