/- Facts on texts on pages. -/
import Derived.Test.YtgpmiliahonaoaaGreatDoorKTrDc
import Derived.RegionTactic
set_option maxRecDepth 100000
set_option maxHeartbeats 8000000
set_option linter.unusedSimpArgs false
open Go.Value renaming bool->a6,int->V,pointer->aq,slice->ad,tuple->a9
open Go.Ending renaming returned->aw
open List renaming length->Y
open Go.IntKind renaming i64->U,u64->a7
open Or renaming inl->O,inr->al
open Go.Proofs.Tryz
namespace Go.Proofs.YtgpmiliahonaoaaGreatDoor
open Go.RowKit Go.BigFrame
open UK (str aF nth Only Row ay)
variable{W:World}{ao bo:Option Addr}{c b g i e d n:Nat}{l:List Nat}{P:Program}{ops:Array Oper}{Q:Exit->Act->World->Prop}{f:Region.Mode}{S:Nat->Prop}{k:UInt64}{vs:List Value}{us:List UInt64}{v:Value}
def IV(W c:World)(ao:Option Addr)(l:List Nat)(e:Ending):Prop:=
 ∃a b,e=aw (ad (some ⟨a,0,none⟩) (Y l) b)/\Row c a b (ints l)/\UK.Only a W c/\(aG ao a\/W.1.size<=a)
theorem Ej(h:NR W ao c (ints l))(D:Y l<=1000)(v:Nat)(t:ay W b #[V U (v:Int)]) :
  Calls prog 236 #[ad ao (Y l) c,V U (Y l),ad b 1 1] W λ e B=>IV W B ao (l++[v]) e:=by
 have d:=iC l
 obtain⟨i,f,w,e,r,o⟩:=UK.Km (P:=prog) (t:=57) (tx:=57) (ty:=57) underlying57 (i:=t3) rfl rfl rfl (show(8:Nat)<=16 from Z) rfl h (x:=ad b 1 1) (m:=[V U (v:Int)]) (by simp) (Src.ofSlice W underlying57 ⟨b,0,none⟩ 1 1 _ rfl (λ j u p=>by
   have x:j=0:=by
    by_cases C:j<1
    ·omega
    rw[ja (by simp;omega)]at p;cases p
   subst x;rw[UK.mY,fB,t.cell 0 _ rfl]
   exact p) (λ u A=>by
    obtain rfl:=bu.1 A;rfl)) (by rw[d];simp;omega)
 rw[zl,d]at e;have q:(ints l++[V U (v:Int)])=ints (l++[v]):=by unfold ints;rw[dI];rfl
 rw[q]at r;have k:Hid (∃i f,(ad (some ⟨i,0,none⟩) (Y l+1) f=ad (some ⟨i,0,none⟩) (Y l+1) f)/\True):=⟨0,0,rfl,trivial⟩;have m:=bg r o;replace e:(Builtin.append_ #[57,57] 57 #[ad ao (Y l) c,ad b 1 1]).run prog W= .ok (ad (some ⟨i,0,none⟩) (Y l+1) f) w:=e;clear r o t q k
 have fin:IV W w ao (l++[v]) (aw (ad i (Y l+1) f)):=by
  refine⟨i,f,by rw[zl];rfl,m.out.1,?_⟩;rcases m.out.2 with⟨a,n⟩|⟨a,n⟩
  ·exact⟨n,O a⟩
  exact⟨Only.of_below n,al Z⟩
 have k:=zH fin;clear fin m;rcases h with⟨rfl,s,rfl⟩|⟨g,rfl,r⟩
 ·have y:l=[]:=by
   have:=congrArg List.length s;rw[d]at this;exact List.length_eq_zero_iff.1 this
  subst y;clear s d
  go_enter func236,ntmps236
  go_wp2_with (at_builtin;refine UK.jm e rfl rfl rfl rfl rfl ?_)
  go_ret;exact k.out
 have z:=r.le;rw[d]at z;clear r d
 go_enter func236,ntmps236
 go_wp2_with (at_builtin;refine UK.jm e rfl rfl rfl rfl rfl ?_)
 all_goals
  go_ret;exact k.out
theorem C6(h:Row W g c (ints l))(hl:Y l<=1000)(hi:i<Y l)(kR:Y l+1<=c)(v:Nat)(B:ay W b #[V U (v:Int)])(M:b≠g) :
  Calls prog 236 #[ad g (Y l) c,V U i,ad b 1 1] W λ h0 w'=>IV W w' g (l.take i++v::l.drop i) h0:=by
 have F:=iC l;obtain⟨n,z⟩:∃n,n=Y l:=⟨_,rfl⟩;obtain⟨tB,kB,P,h3⟩:=Row.shape h Z
 obtain⟨E,r,N,K,L⟩:∃E r,W.shape? b=some (E,r)/\W.frozen? ⟨b,0,none⟩=false/\W.frozen? {block:=b,off:=r}=false:=by
  obtain⟨h5,w⟩:=B;exact⟨h5,1,by unfold World.shape?;rw[w];rfl,by unfold World.frozen?;rw[w];rfl,by unfold World.frozen?;rw[w];rfl⟩
 have h4:∀C t,(callFunc 263 #[ad b 1 1,ad (g,i+1) C t]).run prog W= .ok (.value (a6 false)) W:=λ C t=>by
  rw[run_callFunc_extern func263 (by kernel_rfl) (by kernel_rfl) (by kernel_rfl) (e:=Extern.SlicesOverlaps.overlaps #[57,57] #[4]) (by kernel_rfl),
   Lib.run_overlaps_apart W 57 4 3 underlying57 1 (λ hm=>by kernel_rfl) ⟨b,0,none⟩ ⟨g,i+1,none⟩ 1 1 C t M E tB r kB N P h3 K L]
  rfl
 have A:(prog.info? 3).map (·.size)=some 1:=by kernel_rfl
 have I:∀j u,(ints l)[j]?=some u->W.cell? (g,j)=some u:=λ j u a=>h.at' j u a
 have G:∀m:List Nat,∀u∈ints m,u.oneCell'=true:=λ m u q=>by
  unfold ints at q;obtain⟨hn,_,rfl⟩:=bL.1 q;rfl
 have J:(ints l).drop i=ints (l.drop i):=by unfold ints;rw[List.map_drop]
 have o:(ints (l.drop i)).length=n-i:=by rw[iC,zd,z]
 have p:Row (W.drew.setCells g (i+1) (ints (l.drop i))) g c (ints (l.take (i+1)++l.drop i)):=(h.drewN 1).setCells (i+1) (ints (l.drop i)) (by rw[o];omega) _ (by rw[iC,zl,zt,zd];omega)
  (λ j a=>by
   unfold ints;rw[dL,dL,bZ (by rw[zt];omega),zt,show i+1+j-min (i+1) (Y l)=j from Z])
  (λ j a e=>by
   rw[iC,zl,zt,zd]at a;rw[o]at e;have h2:j<i+1:=Z
   refine⟨by rw[F];omega,?_⟩;unfold ints;rw[dL,dL,bR (by rw[zt];omega),fT h2])
 have s:Only g W (W.drew.setCells g (i+1) (ints (l.drop i))):=UK.Only.setCells _ _ (Only.refl g W).drew
 have x:∀f d D,(Builtin.copy_ #[57,57] f #[ad (g,i+1) (n-i) d,ad (g,i) (n+1-i) D]).run prog W.drew= .ok (goInt (ints (l.drop i)).length) (W.drew.setCells g (i+1) (ints (l.drop i))):=λ f d D=>
  run_copy_cells W.drew _ _ f 3 g (i+1) (n-i) d ⟨g,i,none⟩ (n+1-i) D (ints (l.drop i)) underlying57 A (by rw[o];simp only[Nat.min_def];split<;>omega)
   (λ j u a=>by rw[UK.mY];exact I (i+j) u (by rw[<-J,eP]at a;exact a))
   (λ j a=>(h.there _ (by rw[o]at a;omega)).1) (λ j a=>(h.there _ (by rw[o]at a;omega)).2) (G _)
 generalize h1:W.drew.setCells g (i+1) (ints (l.drop i))=k at p s x;have Q:=B.only s M
 have H:∀f d,(Builtin.copy_ #[57,57] f #[ad (g,i) (n+1-i) d,ad b 1 1]).run prog k= .ok (goInt [V U (v:Int)].length) (k.setCells g i [V U (v:Int)]):=λ f d=>
  run_copy_cells k _ _ f 3 g i (n+1-i) d ⟨b,0,none⟩ 1 1 [V U (v:Int)] underlying57 A (by simp only[Nat.min_def,gI];split<;>omega)
   (λ j u a=>by
    have y:j=0:=by
     by_cases hc:j<1
     ·omega
     rw[ja (by simp;omega)]at a;cases a
    subst y;rw[UK.mY,fB,Q.cell 0 _ rfl];exact a)
   (λ j a=>(p.there _ (by simp at a;omega)).1) (λ j a=>(p.there _ (by simp at a;omega)).2) (λ u q=>by
    obtain rfl:=bu.1 q;rfl)
 have S:Row (k.setCells g i [V U (v:Int)]) g c (ints (l.take i++v::l.drop i)):=p.setCells i [V U (v:Int)] (by simp;omega) _ (by rw[iC,zl,zt,dF,zd];omega)
  (λ j a=>by
   have y:j=0:=by simpa using a
   subst y;unfold ints;rw[dL,bZ (by rw[zt];omega),zt,show i+0-min i (Y l)=0 from Z];rfl)
  (λ j a e=>by
   rw[iC,zl,zt,dF,zd]at a;simp only[gI]at e;refine⟨by rw[iC,zl,zt,zd];omega,?_⟩;unfold ints;rw[dL,dL]
   congr 1
   rcases e with e|e
   ·rw[bR (by rw[zt];omega),bR (by rw[zt];omega),fT e,fT Z]
   rw[bZ (by rw[zt];omega),bZ (by rw[zt];omega),zt,zt,show j-min i (Y l)=(j-(i+1))+1 from Z,oH,show j-min (i+1) (Y l)=j-(i+1) from Z])
 have R:Only g W (k.setCells g i [V U (v:Int)]):=UK.Only.setCells _ _ s
 have fin:IV W (k.setCells g i [V U (v:Int)]) g (l.take i++v::l.drop i) (aw (ad g (n+1) c)):=
  ⟨g,c,by rw[zl,zt,dF,zd,show min i (Y l)+(Y l-i+1)=n+1 from Z],S,R,O rfl⟩
 have HF:=zH fin;have hk:¬((i:Int)=(n:Int)):=Z
 have hb:i<=n:=Z
 have h8:(i:Int)<=(n:Int)+1:=Z
 have hh:IntKind.i64.wrap ((i:Int)+1)=(i:Int)+1:=by rw[dM];omega
 have hj:IntKind.i64.wrap ((n:Int)+1)=(n:Int)+1:=by rw[dM];omega
 have h6:(0:Int)<=(i:Int)+1:=Z
 have hg:((i:Int)+1).toNat=i+1:=Z
 have h7:¬(c=i+1):=Z
 have h9:¬(c=i):=Z
 have ha:((n:Int)+1).toNat=n+1:=Z
 have he:¬((c:Int)<(n:Int)+1):=Z
 rw[<-z]at hl hi kR ⊢;clear z h1 F;clear fin p S s R B Q h I G J o N P K L A;have X:=zH H;have T:=zH x;clear x H
 go_enter func236,ntmps236
 go_wp2_with (simp only[h4])
 go_region_law (refine step_copy_runI rfl _ _ 57 57 rfl (ad (g,i+1) (n-i) (c-(i+1))) (ad (g,i) (n+1-i) (c-i)) (by simp[Act.eval,Act.put]) (by simp[Act.eval,Act.put]) (T.out 3 (c-(i+1)) (c-i)) ?_)
 have Ag:=X.out 3 (c-i);go_wp2;go_ret;exact HF.out
theorem ju(h:Row W g c (ints l))(hl:Y l<=1000)(hi:i<Y l)(kR:c<Y l+1)(v:Nat)(F:ay W b #[V U (v:Int)]) :
  Calls prog 236 #[ad g (Y l) c,V U i,ad b 1 1] W λ e w'=>IV W w' g (l.take i++v::l.drop i) e:=by
 have J:=iC l;obtain⟨n,D⟩:∃n,n=Y l:=⟨_,rfl⟩;have R:=h.le;rw[J]at R;have E:(prog.info? 3).map (·.size)=some 1:=by kernel_rfl
 have M:∀m:List Nat,∀u∈ints m,u.oneCell'=true:=λ m u y=>by
  unfold ints at y;obtain⟨hk,_,rfl⟩:=bL.1 y;rfl
 have Q:(ints l).drop i=ints (l.drop i):=by unfold ints;rw[List.map_drop]
 have S:(ints l).take i=ints (l.take i):=by unfold ints;rw[List.map_take]
 have o:(ints (l.drop i)).length=n-i:=by rw[iC,zd,D]
 have a:(ints (l.take i)).length=i:=by rw[iC,zt];omega
 have G:=h.take i;rw[S]at G;obtain⟨f,k,A,w,b1⟩:=UK.cV (P:=prog) (t:=57) (tn:=3) (ty:=57) (k:=U) (kn:=U) (i:=t3) underlying57 underlying3 rfl rfl rfl (show(8:Nat)<=16 from Z) rfl G (n+1-i) Z (by rw[a];omega) (by rw[a];omega);rw[a,show i+(n+1-i)=n+1 from Z,show((n+1-i:Nat):Int)=(n:Int)+1-(i:Int) from Z]at A;have z:Below W W k:=b1;have I:(ints (l.take i)++List.replicate (n+1-i) (V U 0)).length=n+1:=by rw[zl,a,iM];omega
 have h6:n+1<=f:=by have:=w.le;omega
 have T:=F.below z F.lt
 have B:∀r q,(Builtin.copy_ #[57,57] r #[ad (W.1.size,i) (n+1-i) q,ad b 1 1]).run prog k= .ok (goInt [V U (v:Int)].length) (k.setCells W i [V U (v:Int)]):=λ r q=>
  run_copy_cells k _ _ r 3 W.1.size i (n+1-i) q ⟨b,0,none⟩ 1 1 [V U (v:Int)] underlying57 E (by simp only[Nat.min_def,gI];split<;>omega)
   (λ j u d=>by
    have C:j=0:=by
     by_cases hc:j<1
     ·omega
     rw[ja (by simp;omega)]at d;cases d
    subst C;rw[UK.mY,fB,T.cell 0 _ rfl];exact d)
   (λ j d=>(w.there _ (by simp at d;omega)).1) (λ j d=>(w.there _ (by simp at d;omega)).2) (λ u y=>by
    obtain rfl:=bu.1 y;rfl)
 have x:Row (k.setCells W i [V U (v:Int)]) W f (ints (l.take i)++V U (v:Int)::List.replicate (n-i) (V U 0)):=w.setCells i [V U (v:Int)] (by simp;omega) _ (by rw[zl,a,dF,iM];omega)
  (λ j d=>by
   have C:j=0:=by simpa using d
   subst C;rw[bZ (by rw[a];omega),a,show i+0-i=0 from Z];rfl)
  (λ j d s=>by
   rw[zl,a,dF,iM]at d;simp only[gI]at s;refine⟨by rw[I];omega,?_⟩;rcases s with s|s
   ·rw[bR (by rw[a];omega),bR (by rw[a];omega)]
   rw[bZ (by rw[a];omega),bZ (by rw[a];omega),a,show j-i=(j-(i+1))+1 from Z,oH,show n+1-i=(n-i)+1 from Z,List.replicate_succ,oH])
 have t:Below W W (k.setCells W i [V U (v:Int)]):=z.trans ((UK.Only.setCells _ _ (Only.refl W k)).below z.size (aH _));generalize h0:k.setCells W i [V U (v:Int)]=p at x t B;have N:=h.below t h.lt
 have P:∀r q H,(Builtin.copy_ #[57,57] r #[ad (W.1.size,i+1) (n-i) q,ad (g,i) (n-i) H]).run prog p.drew= .ok (goInt (ints (l.drop i)).length) (p.drew.setCells W (i+1) (ints (l.drop i))):=λ r q H=>
  run_copy_cells p.drew _ _ r 3 W.1.size (i+1) (n-i) q ⟨g,i,none⟩ (n-i) H (ints (l.drop i)) underlying57 E (by rw[o];simp only[Nat.min_def];split<;>omega)
   (λ j u d=>by rw[UK.mY];exact N.at' (i+j) u (by rw[<-Q,eP]at d;exact d))
   (λ j d=>(x.there _ (by rw[o]at d;omega)).1) (λ j d=>(x.there _ (by rw[o]at d;omega)).2) (M _)
 have L:ints (l.take i++v::l.drop i)=ints (l.take i)++V U (v:Int)::ints (l.drop i):=by unfold ints;rw[dI,jr]
 have X:Row (p.drew.setCells W (i+1) (ints (l.drop i))) W f (ints (l.take i++v::l.drop i)):=by
  rw[L];refine(x.drewN 1).setCells (i+1) (ints (l.drop i)) (by rw[o];omega) _ (by rw[zl,a,dF,o];omega) (λ j d=>?_) (λ j d s=>?_)
  ·rw[bZ (by rw[a];omega),a,show i+1+j-i=j+1 from Z,oH]
  rw[zl,a,dF,o]at d;rw[o]at s;have h9:j<i+1:=Z
  refine⟨by rw[zl,a,dF,iM];omega,?_⟩;by_cases e:j=i
  ·subst e;rw[bZ (by rw[a];omega),bZ (by rw[a];omega),a,l7];rfl
  rw[bR (by rw[a];omega),bR (by rw[a];omega)]
 have K:Below W W (p.drew.setCells W (i+1) (ints (l.drop i))):=t.trans ((UK.Only.setCells _ _ (Only.refl W p).drew).below t.size (aH _))
 have fin:IV W (p.drew.setCells W (i+1) (ints (l.drop i))) g (l.take i++v::l.drop i) (aw (ad W (n+1) f)):=
  ⟨W.1.size,f,by rw[zl,zt,dF,zd,show min i (Y l)+(Y l-i+1)=n+1 from Z],X,Only.of_below K,al (aH _)⟩
 have HF:=zH fin;have E1:=zH A;have H1:=zH B;have H2:=zH P;have hj:¬((i:Int)=(n:Int)):=Z
 have h8:i<=n:=Z
 have h3:(i:Int)<=(n:Int)+1:=Z
 have he:IntKind.i64.wrap ((i:Int)+1)=(i:Int)+1:=by rw[dM];omega
 have hg:IntKind.i64.wrap ((n:Int)+1)=(n:Int)+1:=by rw[dM];omega
 have hh:IntKind.i64.wrap ((n:Int)+1-(i:Int))=(n:Int)+1-(i:Int):=by rw[dM];omega
 have h1:(0:Int)<=(i:Int)+1:=Z
 have hb:((i:Int)+1).toNat=i+1:=Z
 have h2:¬(f=i+1):=Z
 have h4:¬(c=i):=Z
 have h5:¬(f=i):=Z
 have ha:(c:Int)<(n:Int)+1:=Z
 have h7:(i:Int)<=(c:Int):=Z
 rw[<-D]at hl hi kR R ⊢;clear fin G w x X b1 t K z F T h N M Q S o a E A B P D J L I h0
 go_enter func236,ntmps236
 have Ag:=H1.out 3 (f-i)
 go_wp2_with (at_builtin;refine UK.jm E1.out rfl rfl rfl rfl rfl ?_)
 go_region_law (refine step_copy_runI rfl _ _ 57 57 rfl (ad (W.1.size,i+1) (n-i) (f-(i+1))) (ad (g,i) (n-i) (c-i)) (by simp[Act.eval,Act.put]) (by simp[Act.eval,Act.put]) (H2.out 3 (f-(i+1)) (c-i)) ?_)
 go_wp2;go_ret
 exact HF.out
theorem Iz(h:NR W ao c (ints l))(a:Y l<=1000)(n:i<=Y l)(v:Nat)(d:ay W b #[V U (v:Int)])(j:¬aG ao b) :
  Calls prog 236 #[ad ao (Y l) c,V U i,ad b 1 1] W λ e m=>IV W m ao (l.take i++v::l.drop i) e:=by
 by_cases e:i=Y l
 ·subst e;rw[dY,List.drop_length];exact Ej h a v d
 rcases h with⟨_,f,_⟩|⟨g,rfl,r⟩
 ·have:=congrArg List.length f;rw[iC]at this;have:Y l=0:=this;omega
 by_cases k:Y l+1<=c
 ·exact C6 r a Z k v d (λ e=>j (by rw[e];rfl))
 exact ju r a Z Z v d
theorem lg(h:Row W g c (ints l))(T:Y l<=1000)(C:i<Y l) :
  Calls prog 259 #[ad g (Y l) c,V U i,V U ((i:Int)+1)] W λ e H=>e=aw (ad g (Y l-1) c)/\Row H g c (ints (l.take i++l.drop (i+1)))/\Only g W H:=by
 have o:=iC l;have w:=h.le;rw[o]at w;obtain⟨n,x⟩:∃n,n=Y l:=⟨_,rfl⟩;have F:¬((i:Int)=(i:Int)+1):=Z
 have h2:¬(c=i):=Z
 have h4:((i:Int)+1).toNat=i+1:=Z
 have h1:(0:Int)<=(i:Int)+1:=Z
 have R:(i:Int)+1<=(n:Int):=Z
 have Q:i<=c:=Z
 have I:i+1<=n:=Z
 have h0:(prog.info? 3).map (·.size)=some 1:=by kernel_rfl
 have A:∀m:List Nat,∀u∈ints m,u.oneCell'=true:=λ m u E=>by
  unfold ints at E;obtain⟨h7,_,rfl⟩:=bL.1 E;rfl
 have B:(ints l).drop (i+1)=ints (l.drop (i+1)):=by unfold ints;rw[List.map_drop]
 have d:(ints (l.drop (i+1))).length=n-(i+1):=by rw[iC,zd,x]
 have p:=h.drewN 1
 have v:∀ao,(ao=(⟨g,i+1,none⟩:Addr)\/i+1=n)->∀r,(Builtin.append_ #[57,57] 57 #[ad g i c,ad (some ao) (n-(i+1)) r]).run prog W.drew= .ok (ad g (n-1) c) (W.drew.setCells g i (ints (l.drop (i+1)))):=λ ao N r=>by
  have hs:Src prog 1 57 (ad (some ao) (n-(i+1)) r) (n-(i+1)) (ints (l.drop (i+1))) W.drew:=Src.ofSlice W.drew underlying57 ao (n-(i+1)) r _ (by rw[d,xX]) (λ j u a=>by
   rcases N with rfl|e
   ·rw[UK.mY];exact p.at' (i+1+j) u (by rw[<-B,eP]at a;exact a)
   have:j<(ints (l.drop (i+1))).length:=(dz.1 a).1;rw[d]at this;omega) (A _)
  have D:=run_append_room_src (P:=prog) W.drew 57 57 57 3 t3 underlying57 rfl g 0 i c _ _ _ hs Z (λ j a=>(p.there _ (by rw[d]at a;show 0+i*1+j<c;omega)).1) (λ j a=>(p.there _ (by rw[d]at a;show 0+i*1+j<c;omega)).2);rw[show i+(n-(i+1))=n-1 from Z,show 0+i*t3.size=i by show 0+i*1=i;omega]at D;exact D
 have q:Row (W.drew.setCells g i (ints (l.drop (i+1)))) g c (ints (l.take i++l.drop (i+1))++(ints l).drop (n-1)):=p.setCells i (ints (l.drop (i+1))) (by rw[d];omega) _ (by rw[zl,iC,zl,zt,zd,zd,o];omega)
  (λ j a=>by
   rw[d]at a;rw[bR (by rw[iC,zl,zt,zd];omega)];unfold ints;rw[dL,dL,bZ (by rw[zt];omega),zt,show i+j-min i (Y l)=j from Z])
  (λ j a k=>by
   rw[zl,iC,zl,zt,zd,zd,o]at a;rw[d]at k;refine⟨by rw[o];omega,?_⟩;rcases k with k|k
   ·rw[bR (by rw[iC,zl,zt,zd];omega)];unfold ints;rw[dL,dL,bR (by rw[zt];omega),fT k]
   rw[bZ (by rw[iC,zl,zt,zd];omega),iC,zl,zt,zd,eP]
   congr 1
   omega)
 have y:Only g W (W.drew.setCells g i (ints (l.drop (i+1)))):=UK.Only.setCells _ _ (Only.refl g W).drew;generalize M:W.drew.setCells g i (ints (l.drop (i+1)))=f at q y v;have pV:(Builtin.clear_ #[57] 0 #[ad (g,n-1) 1 (c-(n-1))]).run prog f= .ok (a9 #[]) (f.setCells g (n-1) (List.replicate 1 (V U 0))):=Lib.run_clear_slice (P:=prog) f 57 3 0 (V U 0) underlying57 (λ h6=>by kernel_rfl) rfl rfl g (n-1) 1 (c-(n-1)) Z (λ j a=>(q.there _ Z).1) (λ j a=>(q.there _ Z).2)
 have fin:Row (f.setCells g (n-1) (List.replicate 1 (V U 0))) g c (ints (l.take i++l.drop (i+1)))/\Only g W (f.setCells g (n-1) (List.replicate 1 (V U 0))):=by
  have b:(ints (l.take i++l.drop (i+1))).length=n-1:=by rw[iC,zl,zt,zd];omega
  have rk:Row (f.setCells g (n-1) (List.replicate 1 (V U 0))) g c (ints (l.take i++l.drop (i+1))++[V U 0]):=q.setCells (n-1) (List.replicate 1 (V U 0)) (by rw[iM];omega) _ (by rw[zl,b];simp;omega) (λ j a=>by
   have S:j=0:=by simpa using a
   subst S;rw[bZ (by rw[b];omega),b,show n-1+0-(n-1)=0 from Z];rfl) (λ j a k=>by
   rw[zl,b]at a;simp only[iM,gI]at a k;refine⟨by rw[zl,b];omega,?_⟩;rw[bR (by rw[b];omega),bR (by rw[b];omega)])
  have G:=rk.take (n-1);rw[List.take_append,fQ (by rw[b];omega),b,l7,kU,jl]at G;exact⟨G,UK.Only.setCells _ _ y⟩
 have t:=zH fin;have s:=zH v;clear fin q y p B d A h0 v h M;rw[<-x]at T C w ⊢;clear x o;have L:n-(n-1)=1:=Z
 have h5:((i:Int)==(i:Int)+1)=false:=beq_eq_false_iff_ne.2 F;have J:¬(c=n-1):=Z
 have X:((n-1:Nat):Int)<=(n:Int):=Z
 by_cases P:c=i+1
 ·obtain rfl:n=i+1:=Z
  subst P
  have z:(Builtin.append_ #[57,57] 57 #[ad g i (i+1),ad g 0 0]).run prog W.drew= .ok (ad g i (i+1)) f:=by
   have:=s.out ⟨g,0,none⟩ (al rfl) 0;rw[l7,Nat.add_sub_cancel]at this;exact this
  rw[Nat.add_sub_cancel,sw]at pV;rw[Nat.add_sub_cancel]at t ⊢;have K:=zH z;have LP:¬(i+1=i):=Z
  clear s z L J X R Q I C w F;have h3:(i:Int)<=(i:Int)+1:=Z
  go_enter func259,ntmps259
  go_wp2_with fail
  go_region_law (refine UK.aM K.out rfl rfl rfl (by simp[Act.eval,Act.put]) (by simp[Act.eval,Act.put]) ?_)
  go_wp2;go_ret
  exact⟨rfl,t.out⟩
 go_enter func259,ntmps259
 go_wp2_with fail
 go_region_law (refine UK.aM (s.out ⟨g,i+1,none⟩ (O rfl) (c-(i+1))) rfl rfl rfl (by simp[Act.eval,Act.put]) (by simp[Act.eval,Act.put]) ?_)
 go_wp2;go_ret
 exact⟨rfl,t.out⟩
def yfg(L:Array Bool):Nat:=(L.toList.filter λ b=>!b).length
open Go.RowKit
section
variable{a:World}{x:Nd}
theorem iz(l:jU S W e x) :
  Calls prog 237 #[aq e] W λ k m=>k=aw (a6 (qw x))/\m=W:=by
 obtain⟨r,s,n,b,q,⟨ao,c,rfl,_,_⟩,_,⟨bo,d,rfl,_,_⟩⟩:=l;rw[dH,iC]at b;have o:=b.c1;have p:=b.c3;have g:decide ((30:Int)<(Y x.ag:Int))=decide (30<Y x.ag):=decide_eq_decide.2 Z;have h:decide ((40:Int)<(Y x.ak:Int))=decide (40<Y x.ak):=decide_eq_decide.2 Z;have hf:qw x=(decide ((30:Int)<(Y x.ag:Int))||decide ((40:Int)<(Y x.ak:Int))):=by rw[g,h];rfl
 rw[hf];clear b g h hf;by_cases i:(30:Int)<(Y x.ag:Int)
 ·have a:decide ((30:Int)<(Y x.ag:Int))=true:=decide_eq_true i;rw[a]
  go_enter func237,ntmps237
  go_wp2;go_ret
  exact⟨rfl,rfl⟩
 have a:decide ((30:Int)<(Y x.ag:Int))=false:=decide_eq_false i;rw[a,Bool.false_or];by_cases j:(40:Int)<(Y x.ak:Int)
 ·have f:decide ((40:Int)<(Y x.ak:Int))=true:=decide_eq_true j;rw[f]
  go_enter func237,ntmps237
  go_wp2;go_ret
  exact⟨rfl,rfl⟩
 have f:decide ((40:Int)<(Y x.ak:Int))=false:=decide_eq_false j;rw[f]
 go_enter func237,ntmps237
 go_wp2;go_ret
 exact⟨rfl,rfl⟩
def E9(x:Nd):Bool:=if x.leaf then decide (Y x.ag<15) else decide (Y x.ak<20)
theorem Ha(f:jU S W e x) :
  Calls prog 216 #[aq e] W λ h i=>h=aw (a6 (E9 x))/\i=W:=by
 cases a:x.leaf with
 | true=>
  have:=eI f a;unfold E9;rw[a];exact this
 | false=>
  obtain⟨n,o,j,b,m,_,_,⟨ao,c,rfl,_,_⟩⟩:=f;rw[iC]at b;rw[a]at b;have k:=b.c0;have l:=b.c3;have d:decide ((Y x.ak:Int)<20)=decide (Y x.ak<20):=decide_eq_decide.2 Z;have g:E9 x=decide ((Y x.ak:Int)<20):=by unfold E9;rw[a,d];rfl
  rw[g];clear b d g
  go_enter func216,ntmps216
  go_wp2;go_ret
  exact⟨rfl,rfl⟩
theorem eu.kid{l:List UInt64}(h:eu l k i)(r:jV l):dQ l k (if k∈l then i+1 else i):=by
 have t:=h.le
 have s:k∈l->∃m:i<Y l,l[i]=k:=λ n=>by
  obtain⟨j,d,e⟩:=fU n;have q:l[j]?=some k:=by rw[bK d,e]
  have o:i<=j:=by
   refine Nat.le_of_not_lt (λ u=>?_);have:=h.below j k u q;omega
  rcases yu i j with p|p
  ·have m:i<Y l:=Z
   have a:=h.above i l[i] (aH _) (bK m);have b:=r i j l[i] k p (bK m) q;omega
  obtain rfl:i=j:=Z
  exact⟨d,e⟩
 split
 ·rename_i n
  obtain⟨m,e⟩:=s n;refine⟨Z,λ f g=>?_,λ f g=>?_⟩
  ·obtain⟨j,d,c⟩:=fU g;rw[zt]at d;rw[List.getElem_take]at c;rcases yu j i with o|o
   ·have:=h.below j f o (by rw[bK Z,c]);omega
   obtain rfl:j=i:=Z
   rw[<-c,e];exact aH _
  obtain⟨j,d,c⟩:=fU g;rw[zd]at d;rw[List.getElem_drop]at c;have:=r i (i+1+j) k f Z (by rw[bK m,e]) (by rw[bK Z,c]);exact this
 rename_i n
 refine⟨t,λ f g=>?_,λ f g=>?_⟩
 ·obtain⟨j,d,c⟩:=fU g;rw[zt]at d;rw[List.getElem_take]at c;have:=h.below j f Z (by rw[bK Z,c]);omega
 obtain⟨j,d,c⟩:=fU g;rw[zd]at d;rw[List.getElem_drop]at c;have o:=h.above (i+j) f Z (by rw[bK Z,c]);have p:k.toNat≠f.toNat:=λ e=>n (by rw[mV.1 e,<-c];exact List.getElem_mem _);omega
def VC(W:World)(a:List UInt64)(k:UInt64)(e:Ending)(b:World):Prop:=∃i:Nat,e=aw (V U (i:Int))/\dQ a k i/\W=b
theorem QZ(p:jU S W e x)(l:jV x.ag)(o:Y x.ag<=1000)(k:UInt64) :
  Calls prog 158 #[aq e,V a7 k.toNat] W (VC W x.ag k):=by
 obtain⟨w,y,q,b,u,j,_,_⟩:=p;obtain⟨ao,c,rfl,t,n⟩:=id j;have r:=b.c1;have h:=zH (IW j l o k);have m:=zH l;clear b j n l
 go_enter func158,ntmps158
 go_wp2_with fail
 refine h.out.mono ?_;rintro s z ⟨i,rfl,f,rfl⟩;have a:=f.kid m.out;have v:=f.le;by_cases d:k∈x.ag
 ·rw[be d]at a;have g:=zH a;have hd:decide (k∈x.ag)=true:=decide_eq_true d;rw[hd];clear a d f hd h;go_wp2;go_ret;exact⟨i+1,by rfl,g.out,rfl⟩
 rw[aE d]at a;have g:=zH a;have hd:decide (k∈x.ag)=false:=decide_eq_false d;rw[hd];clear a d f hd h;go_wp2;go_ret;exact⟨i,by rfl,g.out,rfl⟩
theorem gQ.src{t f:TypeId}(q:P.underlying t=some (.slice f))(h:gQ S W (ad ao (Y vs) c) vs)(l:0<Y vs)(m:∀u∈vs,u.oneCell'=true):Src P 1 t (ad ao (Y vs) c) (Y vs) vs W:=by
 obtain⟨r,s,e,w,d⟩:=h
 injection e with i a b
 subst i b;obtain⟨g,o,rfl,_,_⟩:=d 0 vs[0] (bK l);refine Src.ofSlice W q ⟨g,o,none⟩ (Y vs) c vs (by rw[xX]) (λ j u p=>?_) m;obtain⟨v,x,a,_,n⟩:=d j u p
 injection a with a
 injection a with b k
 subst b k;rw[UK.mY];exact n
theorem jj(l:List UInt64):∀u∈az l,u.oneCell'=true:=λ u a=>by
 unfold az at a;obtain⟨v,_,rfl⟩:=bL.1 a;rfl
theorem pt(l:List Nat):∀u∈ints l,u.oneCell'=true:=λ u a=>by
 unfold ints at a;obtain⟨v,_,rfl⟩:=bL.1 a;rfl
def EA(W:World)(ao:Option Addr)(b:Nat)(a:World):Prop:=(ao=some ⟨b,0,none⟩/\Only b W a)\/(b=W.1.size/\Below W W a)
theorem Rb{vs:List UInt64}(h:NR W ao c (az us))(i:gQ S W (ad bo (Y vs) d) (az vs))(k:0<Y vs)(l:Y us+Y vs<=100000) :
  ∃b f a,(Builtin.append_ #[88,88] 88 #[ad ao (Y us) c,ad bo (Y vs) d]).run prog W= .ok (ad (some ⟨b,0,none⟩) (Y us+Y vs) f) a/\Row a b f (az (us++vs))/\EA W ao b a:=by
 have j:=dH us;have g:=dH vs;rw[<-g]at i;obtain⟨b,f,a,e,r,o⟩:=UK.Km (P:=prog) (t:=88) (tx:=88) (ty:=88) underlying88 (i:=t77) rfl rfl rfl (show(8:Nat)<=16 from Z) rfl h (x:=ad bo (az vs).length d) (m:=az vs) Z (i.src underlying88 Z (jj vs)) Z;rw[zl,j,g]at e;exact⟨b,f,a,e,by unfold az at *;rw[dI];exact r,o⟩
theorem eW{us vs:List Nat}(h:NR W ao c (ints us))(i:gQ S W (ad bo (Y vs) d) (ints vs))(k:0<Y vs)(l:Y us+Y vs<=100000) :
  ∃b f a,(Builtin.append_ #[57,57] 57 #[ad ao (Y us) c,ad bo (Y vs) d]).run prog W= .ok (ad (some ⟨b,0,none⟩) (Y us+Y vs) f) a/\Row a b f (ints (us++vs))/\EA W ao b a:=by
 have j:=iC us;have g:=iC vs;rw[<-g]at i;obtain⟨b,f,a,e,r,o⟩:=UK.Km (P:=prog) (t:=57) (tx:=57) (ty:=57) underlying57 (i:=t3) rfl rfl rfl (show(8:Nat)<=16 from Z) rfl h (x:=ad bo (ints vs).length d) (m:=ints vs) Z (i.src underlying57 Z (pt vs)) Z;rw[zl,j,g]at e;exact⟨b,f,a,e,by unfold ints at *;rw[dI];exact r,o⟩
theorem gQ.below(h:gQ S W v vs)(i:Below n W a)(f:∀g,S g->g<n):gQ S a v vs:=by
 obtain⟨ao,c,e,k,p⟩:=h;refine⟨ao,c,e,k,λ j u m=>?_⟩;obtain⟨g,o,d,b,l⟩:=p j u m;exact⟨g,o,d,b,(i.cell (p:=⟨g,o+j,none⟩) (f g b)).trans l⟩
def Re(W:World)(l:List UInt64)(e:Ending)(c:World):Prop:=∃a b,e=aw (ad (some ⟨a,0,none⟩) (Y l) b)/\Row c a b (az l)/\W.1.size<=a/\Below W W c
def et(W:World)(l:List Nat)(e:Ending)(c:World):Prop:=∃a b,e=aw (ad (some ⟨a,0,none⟩) (Y l) b)/\Row c a b (ints l)/\W.1.size<=a/\Below W W c
theorem fi(W:World)(T:TypeId):NR (W.alloc (.cells #[] T)) W 0 []:=al ⟨W.1.size,rfl,by simp,aR _,λ j a=>by simp at a,λ j a=>Z⟩
theorem KA{vs:List UInt64}(j:gQ S W (ad bo (Y vs) d) (az vs))(v:∀g,S g->g<W.1.size)(m:0<Y vs)(A:Y vs<=1000) :
  Calls prog 265 #[ad bo (Y vs) d] W (Re W vs):=by
 obtain⟨z,k,e,x,p⟩:=id j
 injection e with r s t
 subst r t;have b:0<(az vs).length:=by rw[dH];exact m
 obtain⟨g,o,rfl,_,_⟩:=p 0 (az vs)[0] (bK b);have f:Below W W (W.alloc (.cells #[] 77)):=(aU _ _).alloc (aH _) _;obtain⟨u,k,a,n,h,i⟩:=Rb (us:=[]) (fi W 77) (j.below f v) m (by simp;omega);rw[iQ]at h;simp only[List.length_nil,fB]at n;have B:∀W l c,(binOp .eql 88 (ad (g,o) l c) (ad none 0 0)).run prog W= .ok (a6 false) W:=λ W l c=>Lib.run_eql_slice_nil W _ _ _ _ _ _ _ underlying88;have q:=bm h i f;clear j p h i f x s
 go_enter func265,ntmps265
 go_wp2_with (at_builtin;refine UK.jm n rfl rfl rfl rfl rfl ?_)
 go_wp2;go_ret
 obtain⟨h,i,f⟩:=q.out;refine⟨u,k,rfl,h,?_,?_⟩
 ·rcases i with⟨b,_⟩|⟨b,_⟩
  ·injection b with b;injection b with b;omega
  rw[b];simp
 rcases i with⟨b,y⟩|⟨_,w⟩
 ·injection b with b;injection b with b
  exact f.trans (y.below (by simp) Z)
 exact f.trans (w.mono (by simp))
theorem cA{vs:List Nat}(j:gQ S W (ad bo (Y vs) d) (ints vs))(v:∀g,S g->g<W.1.size)(m:0<Y vs)(A:Y vs<=1000) :
  Calls prog 266 #[ad bo (Y vs) d] W (et W vs):=by
 obtain⟨z,k,e,x,p⟩:=id j
 injection e with r s t
 subst r t;have b:0<(ints vs).length:=by rw[iC];exact m
 obtain⟨g,o,rfl,_,_⟩:=p 0 (ints vs)[0] (bK b);have f:Below W W (W.alloc (.cells #[] 3)):=(aU _ _).alloc (aH _) _;obtain⟨u,k,a,n,h,i⟩:=eW (us:=[]) (fi W 3) (j.below f v) m (by simp;omega);rw[iQ]at h;simp only[List.length_nil,fB]at n;have B:∀W l c,(binOp .eql 57 (ad (g,o) l c) (ad none 0 0)).run prog W= .ok (a6 false) W:=λ W l c=>Lib.run_eql_slice_nil W _ _ _ _ _ _ _ underlying57;have q:=bm h i f;clear j p h i f x s
 go_enter func266,ntmps266
 go_wp2_with (at_builtin;refine UK.jm n rfl rfl rfl rfl rfl ?_)
 go_wp2;go_ret
 obtain⟨h,i,f⟩:=q.out;refine⟨u,k,rfl,h,?_,?_⟩
 ·rcases i with⟨b,_⟩|⟨b,_⟩
  ·injection b with b;injection b with b;omega
  rw[b];simp
 rcases i with⟨b,y⟩|⟨_,w⟩
 ·injection b with b;injection b with b
  exact f.trans (y.below (by simp) Z)
 exact f.trans (w.mono (by simp))
end
