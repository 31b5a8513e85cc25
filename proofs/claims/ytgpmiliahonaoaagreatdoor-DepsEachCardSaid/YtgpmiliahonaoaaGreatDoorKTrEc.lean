/- Facts on texts and trees on pages. -/
import Derived.Test.YtgpmiliahonaoaaGreatDoorKTrDc
set_option maxRecDepth 100000
set_option maxHeartbeats 8000000
set_option linter.unusedSimpArgs false
namespace Go.Proofs.YtgpmiliahonaoaaGreatDoor
open Go.RowKit Go.BigFrame
open UK (str aF nth Only Row ay)
def Fw(W w':World)(ao:Option Addr)(l:List Nat)(e:Ending):Prop:=
 ∃g' c',e= .returned (.slice (some ⟨g',0,none⟩) l.length c')/\Row w' g' c' (ints l)/\UK.Only g' W w'/\(aK ao g'\/W.heap.size<=g')
theorem xod{W:World}{ao:Option Addr}{c vb:Nat}{l:List Nat}(h:NR W ao c (ints l))(hl:l.length<=1000)(v:Nat)(hv:ay W vb #[.int .i64 (v:Int)]) :
  Calls Tryz.prog 236 #[.slice ao l.length c,.int .i64 l.length,.slice vb 1 1] W λ e w'=>Fw W w' ao (l++[v]) e:=by
 have aD:=gQ l
 obtain⟨g',c',W',e,r,o⟩:=UK.GQ (P:=Tryz.prog) (t:=57) (tx:=57) (ty:=57) Tryz.underlying57 (i:=Tryz.t3) rfl rfl rfl (show(8:Nat)<=16 by omega) rfl h (x:=.slice vb 1 1) (m:=[.int .i64 (v:Int)]) (by simp) (Src.ofSlice W Tryz.underlying57 ⟨vb,0,none⟩ 1 1 _ rfl (λ j u hj=>by
   have hj0:j=0:=by
    by_cases hc:j<1
    ·omega
    rw[jo (by simp;omega)]at hj;cases hj
   subst hj0;rw[UK.lQ,eG,hv.cell 0 _ rfl]
   exact hj) (λ u hu=>by
    obtain rfl:=bz.1 hu;rfl)) (by rw[aD];simp;omega)
 rw[zl,aD]at e;have el:(ints l++[.int .i64 (v:Int)])=ints (l++[v]):=by unfold ints;rw[dO];rfl
 rw[el]at r;have HF:Hid (∃g' c',(Value.slice (some ⟨g',0,none⟩) (l.length+1) c'=Value.slice (some ⟨g',0,none⟩) (l.length+1) c')/\True):=⟨0,0,rfl,trivial⟩;have HR:=zH (zA r o);replace e:(Builtin.append_ #[57,57] 57 #[.slice ao l.length c,.slice vb 1 1]).run Tryz.prog W= .ok (.slice (some ⟨g',0,none⟩) (l.length+1) c') W':=e;clear r o hv el HF
 have fin:Fw W W' ao (l++[v]) (.returned (.slice g' (l.length+1) c')):=by
  refine⟨g',c',by rw[zl];rfl,HR.out.1,?_⟩;rcases HR.out.2 with⟨a,b⟩|⟨a,b⟩
  ·exact⟨b,.inl a⟩
  exact⟨Only.of_below b,.inr (by omega)⟩
 have HF:=zH fin;clear fin HR;rcases h with⟨rfl,hn,rfl⟩|⟨g,rfl,r⟩
 ·have hl0:l=[]:=by
   have:=congrArg List.length hn;rw[aD]at this;exact List.length_eq_zero_iff.1 this
  subst hl0;clear hn aD
  go_enter Tryz.func236,Tryz.ntmps236
  go_wp2_with (at_builtin;refine UK.lH e rfl rfl rfl rfl rfl ?_)
  go_ret;exact HF.out
 have hle:=r.le;rw[aD]at hle;clear r aD
 go_enter Tryz.func236,Tryz.ntmps236
 go_wp2_with (at_builtin;refine UK.lH e rfl rfl rfl rfl rfl ?_)
 all_goals
  go_ret;exact HF.out
theorem xkp{W:World}{g c vb i:Nat}{l:List Nat}(h:Row W g c (ints l))(hl:l.length<=1000)(hi:i<l.length)(jJ:l.length+1<=c)(v:Nat)(hv:ay W vb #[.int .i64 (v:Int)])(hne:vb≠g) :
  Calls Tryz.prog 236 #[.slice g l.length c,.int .i64 i,.slice vb 1 1] W λ e w'=>Fw W w' g (l.take i++v::l.drop i) e:=by
 have aD:=gQ l;obtain⟨n,hn⟩:∃n,n=l.length:=⟨_,rfl⟩;obtain⟨tB,kB,hsb,hkB⟩:=Row.shape h (by omega)
 obtain⟨tA,kA,hsa,hfa,hfe⟩:∃tA kA,W.shape? vb=some (tA,kA)/\W.frozen? ⟨vb,0,none⟩=false/\W.frozen? {block:=vb,off:=kA}=false:=by
  obtain⟨t,hb⟩:=hv;exact⟨t,1,by unfold World.shape?;rw[hb];rfl,by unfold World.frozen?;rw[hb];rfl,by unfold World.frozen?;rw[hb];rfl⟩
 have hov:∀lb cb,(callFunc 263 #[.slice vb 1 1,.slice (g,i+1) lb cb]).run Tryz.prog W= .ok (.value (.bool false)) W:=λ lb cb=>by
  rw[run_callFunc_extern Tryz.func263 (by kernel_rfl) (by kernel_rfl) (by kernel_rfl) (e:=Extern.SlicesOverlaps.overlaps #[57,57] #[4]) (by kernel_rfl),
   Lib.run_overlaps_apart W 57 4 3 Tryz.underlying57 1 (λ w=>by kernel_rfl) ⟨vb,0,none⟩ ⟨g,i+1,none⟩ 1 1 lb cb hne tA tB kA kB hsa hsb hkB hfa hfe]
  rfl
 have hsz:(Tryz.prog.info? 3).map (·.size)=some 1:=by kernel_rfl
 have hcs:∀j u,(ints l)[j]?=some u->W.cell? (g,j)=some u:=λ j u hj=>h.at' j u hj
 have h1c:∀m:List Nat,∀u∈ints m,u.oneCell'=true:=λ m u hu=>by
  unfold ints at hu;obtain⟨x,_,rfl⟩:=bQ.1 hu;rfl
 have hdr:(ints l).drop i=ints (l.drop i):=by unfold ints;rw[List.map_drop]
 have hdl:(ints (l.drop i)).length=n-i:=by rw[gQ,zd,hn]
 have r1:Row (W.drew.setCells g (i+1) (ints (l.drop i))) g c (ints (l.take (i+1)++l.drop i)):=(h.drewN 1).setCells (i+1) (ints (l.drop i)) (by rw[hdl];omega) _ (by rw[gQ,zl,zt,zd];omega)
  (λ j hj=>by
   unfold ints;rw[dL,dL,bP (by rw[zt];omega),zt,show i+1+j-min (i+1) l.length=j by omega])
  (λ j hj hh=>by
   rw[gQ,zl,zt,zd]at hj;rw[hdl]at hh;have hji:j<i+1:=by omega
   refine⟨by rw[aD];omega,?_⟩;unfold ints;rw[dL,dL,bI (by rw[zt];omega),eX hji])
 have o1:Only g W (W.drew.setCells g (i+1) (ints (l.drop i))):=UK.Only.setCells _ _ (Only.refl g W).drew
 have hcp1:∀ty dc sc,(Builtin.copy_ #[57,57] ty #[.slice (g,i+1) (n-i) dc,.slice (g,i) (n+1-i) sc]).run Tryz.prog W.drew= .ok (goInt (ints (l.drop i)).length) (W.drew.setCells g (i+1) (ints (l.drop i))):=λ ty dc sc=>
  run_copy_cells W.drew _ _ ty 3 g (i+1) (n-i) dc ⟨g,i,none⟩ (n+1-i) sc (ints (l.drop i)) Tryz.underlying57 hsz (by rw[hdl];simp only[Nat.min_def];split<;>omega)
   (λ j u hj=>by rw[UK.lQ];exact hcs (i+j) u (by rw[<-hdr,eY]at hj;exact hj))
   (λ j hj=>(h.there _ (by rw[hdl]at hj;omega)).1) (λ j hj=>(h.there _ (by rw[hdl]at hj;omega)).2) (h1c _)
 generalize hW1:W.drew.setCells g (i+1) (ints (l.drop i))=W1 at r1 o1 hcp1;have hv1:=hv.only o1 hne
 have hcp2:∀ty dc,(Builtin.copy_ #[57,57] ty #[.slice (g,i) (n+1-i) dc,.slice vb 1 1]).run Tryz.prog W1= .ok (goInt [Value.int .i64 (v:Int)].length) (W1.setCells g i [Value.int .i64 (v:Int)]):=λ ty dc=>
  run_copy_cells W1 _ _ ty 3 g i (n+1-i) dc ⟨vb,0,none⟩ 1 1 [Value.int .i64 (v:Int)] Tryz.underlying57 hsz (by simp only[Nat.min_def,iE];split<;>omega)
   (λ j u hj=>by
    have hj0:j=0:=by
     by_cases hc:j<1
     ·omega
     rw[jo (by simp;omega)]at hj;cases hj
    subst hj0;rw[UK.lQ,eG,hv1.cell 0 _ rfl];exact hj)
   (λ j hj=>(r1.there _ (by simp at hj;omega)).1) (λ j hj=>(r1.there _ (by simp at hj;omega)).2) (λ u hu=>by
    obtain rfl:=bz.1 hu;rfl)
 have r2:Row (W1.setCells g i [Value.int .i64 (v:Int)]) g c (ints (l.take i++v::l.drop i)):=r1.setCells i [Value.int .i64 (v:Int)] (by simp;omega) _ (by rw[gQ,zl,zt,dn,zd];omega)
  (λ j hj=>by
   have hj0:j=0:=by simpa using hj
   subst hj0;unfold ints;rw[dL,bP (by rw[zt];omega),zt,show i+0-min i l.length=0 by omega];rfl)
  (λ j hj hh=>by
   rw[gQ,zl,zt,dn,zd]at hj;simp only[iE]at hh;refine⟨by rw[gQ,zl,zt,zd];omega,?_⟩;unfold ints;rw[dL,dL]
   congr 1
   rcases hh with hh|hh
   ·rw[bI (by rw[zt];omega),bI (by rw[zt];omega),eX hh,eX (by omega)]
   rw[bP (by rw[zt];omega),bP (by rw[zt];omega),zt,zt,show j-min i l.length=(j-(i+1))+1 by omega,nI,show j-min (i+1) l.length=j-(i+1) by omega])
 have o2:Only g W (W1.setCells g i [Value.int .i64 (v:Int)]):=UK.Only.setCells _ _ o1
 have fin:Fw W (W1.setCells g i [Value.int .i64 (v:Int)]) g (l.take i++v::l.drop i) (.returned (.slice g (n+1) c)):=
  ⟨g,c,by rw[zl,zt,dn,zd,show min i l.length+(l.length-i+1)=n+1 by omega],r2,o2,.inl rfl⟩
 have HF:=zH fin;have hz2:¬((i:Int)=(n:Int)):=by omega
 have hin:i<=n:=by omega
 have hb3:(i:Int)<=(n:Int)+1:=by omega
 have hw1:IntKind.i64.wrap ((i:Int)+1)=(i:Int)+1:=by rw[dJ];omega
 have hw2:IntKind.i64.wrap ((n:Int)+1)=(n:Int)+1:=by rw[dJ];omega
 have hb1:(0:Int)<=(i:Int)+1:=by omega
 have htn:((i:Int)+1).toNat=i+1:=by omega
 have hb2:¬(c=i+1):=by omega
 have hb4:¬(c=i):=by omega
 have hb5:((n:Int)+1).toNat=n+1:=by omega
 have hrm:¬((c:Int)<(n:Int)+1):=by omega
 rw[<-hn]at hl hi jJ ⊢;clear hn hW1 aD;clear fin r1 r2 o1 o2 hv hv1 h hcs h1c hdr hdl hsa hsb hfa hfe hsz;have H2:=zH hcp2;have H1:=zH hcp1;clear hcp1 hcp2
 go_enter Tryz.func236,Tryz.ntmps236
 go_wp2_with (simp only[hov])
 go_region_law (refine step_copy_runI rfl _ _ 57 57 rfl (.slice (g,i+1) (n-i) (c-(i+1))) (.slice (g,i) (n+1-i) (c-i)) (by simp[Act.eval,Act.put]) (by simp[Act.eval,Act.put]) (H1.out 3 (c-(i+1)) (c-i)) ?_)
 have yu:=H2.out 3 (c-i);go_wp2;go_ret;exact HF.out
theorem xmk{W:World}{g c vb i:Nat}{l:List Nat}(h:Row W g c (ints l))(hl:l.length<=1000)(hi:i<l.length)(jJ:c<l.length+1)(v:Nat)(hv:ay W vb #[.int .i64 (v:Int)]) :
  Calls Tryz.prog 236 #[.slice g l.length c,.int .i64 i,.slice vb 1 1] W λ e w'=>Fw W w' g (l.take i++v::l.drop i) e:=by
 have aD:=gQ l;obtain⟨n,hn⟩:∃n,n=l.length:=⟨_,rfl⟩;have hle:=h.le;rw[aD]at hle;have hsz:(Tryz.prog.info? 3).map (·.size)=some 1:=by kernel_rfl
 have h1c:∀m:List Nat,∀u∈ints m,u.oneCell'=true:=λ m u hu=>by
  unfold ints at hu;obtain⟨x,_,rfl⟩:=bQ.1 hu;rfl
 have hdr:(ints l).drop i=ints (l.drop i):=by unfold ints;rw[List.map_drop]
 have htk:(ints l).take i=ints (l.take i):=by unfold ints;rw[List.map_take]
 have hdl:(ints (l.drop i)).length=n-i:=by rw[gQ,zd,hn]
 have htl:(ints (l.take i)).length=i:=by rw[gQ,zt];omega
 have r0:=h.take i;rw[htk]at r0;obtain⟨c',W1,e1,r1,b1⟩:=UK.X7 (P:=Tryz.prog) (t:=57) (tn:=3) (ty:=57) (k:=.i64) (kn:=.i64) (i:=Tryz.t3) Tryz.underlying57 Tryz.underlying3 rfl rfl rfl (show(8:Nat)<=16 by omega) rfl r0 (n+1-i) (by omega) (by rw[htl];omega) (by rw[htl];omega);rw[htl,show i+(n+1-i)=n+1 by omega,show((n+1-i:Nat):Int)=(n:Int)+1-(i:Int) by omega]at e1;have lU:Below W W W1:=b1;have KP:(ints (l.take i)++List.replicate (n+1-i) (Value.int .i64 0)).length=n+1:=by rw[zl,htl,gY];omega
 have hc1:n+1<=c':=by have:=r1.le;omega
 have hv1:=hv.below lU hv.lt
 have hcp1:∀ty dc,(Builtin.copy_ #[57,57] ty #[.slice (W.heap.size,i) (n+1-i) dc,.slice vb 1 1]).run Tryz.prog W1= .ok (goInt [Value.int .i64 (v:Int)].length) (W1.setCells W i [Value.int .i64 (v:Int)]):=λ ty dc=>
  run_copy_cells W1 _ _ ty 3 W.heap.size i (n+1-i) dc ⟨vb,0,none⟩ 1 1 [Value.int .i64 (v:Int)] Tryz.underlying57 hsz (by simp only[Nat.min_def,iE];split<;>omega)
   (λ j u hj=>by
    have hj0:j=0:=by
     by_cases hc:j<1
     ·omega
     rw[jo (by simp;omega)]at hj;cases hj
    subst hj0;rw[UK.lQ,eG,hv1.cell 0 _ rfl];exact hj)
   (λ j hj=>(r1.there _ (by simp at hj;omega)).1) (λ j hj=>(r1.there _ (by simp at hj;omega)).2) (λ u hu=>by
    obtain rfl:=bz.1 hu;rfl)
 have r2:Row (W1.setCells W i [Value.int .i64 (v:Int)]) W c' (ints (l.take i)++Value.int .i64 (v:Int)::List.replicate (n-i) (Value.int .i64 0)):=r1.setCells i [Value.int .i64 (v:Int)] (by simp;omega) _ (by rw[zl,htl,dn,gY];omega)
  (λ j hj=>by
   have hj0:j=0:=by simpa using hj
   subst hj0;rw[bP (by rw[htl];omega),htl,show i+0-i=0 by omega];rfl)
  (λ j hj hh=>by
   rw[zl,htl,dn,gY]at hj;simp only[iE]at hh;refine⟨by rw[KP];omega,?_⟩;rcases hh with hh|hh
   ·rw[bI (by rw[htl];omega),bI (by rw[htl];omega)]
   rw[bP (by rw[htl];omega),bP (by rw[htl];omega),htl,show j-i=(j-(i+1))+1 by omega,nI,show n+1-i=(n-i)+1 by omega,List.replicate_succ,nI])
 have b2:Below W W (W1.setCells W i [Value.int .i64 (v:Int)]):=lU.trans ((UK.Only.setCells _ _ (Only.refl W W1)).below lU.size (aO _));generalize hW2:W1.setCells W i [Value.int .i64 (v:Int)]=W2 at r2 b2 hcp1;have h2:=h.below b2 h.lt
 have hcp2:∀ty dc sc,(Builtin.copy_ #[57,57] ty #[.slice (W.heap.size,i+1) (n-i) dc,.slice (g,i) (n-i) sc]).run Tryz.prog W2.drew= .ok (goInt (ints (l.drop i)).length) (W2.drew.setCells W (i+1) (ints (l.drop i))):=λ ty dc sc=>
  run_copy_cells W2.drew _ _ ty 3 W.heap.size (i+1) (n-i) dc ⟨g,i,none⟩ (n-i) sc (ints (l.drop i)) Tryz.underlying57 hsz (by rw[hdl];simp only[Nat.min_def];split<;>omega)
   (λ j u hj=>by rw[UK.lQ];exact h2.at' (i+j) u (by rw[<-hdr,eY]at hj;exact hj))
   (λ j hj=>(r2.there _ (by rw[hdl]at hj;omega)).1) (λ j hj=>(r2.there _ (by rw[hdl]at hj;omega)).2) (h1c _)
 have ef:ints (l.take i++v::l.drop i)=ints (l.take i)++Value.int .i64 (v:Int)::ints (l.drop i):=by unfold ints;rw[dO,je]
 have r3:Row (W2.drew.setCells W (i+1) (ints (l.drop i))) W c' (ints (l.take i++v::l.drop i)):=by
  rw[ef];refine(r2.drewN 1).setCells (i+1) (ints (l.drop i)) (by rw[hdl];omega) _ (by rw[zl,htl,dn,hdl];omega) (λ j hj=>?_) (λ j hj hh=>?_)
  ·rw[bP (by rw[htl];omega),htl,show i+1+j-i=j+1 by omega,nI]
  rw[zl,htl,dn,hdl]at hj;rw[hdl]at hh;have hji:j<i+1:=by omega
  refine⟨by rw[zl,htl,dn,gY];omega,?_⟩;by_cases e:j=i
  ·subst e;rw[bP (by rw[htl];omega),bP (by rw[htl];omega),htl,kN];rfl
  rw[bI (by rw[htl];omega),bI (by rw[htl];omega)]
 have b3:Below W W (W2.drew.setCells W (i+1) (ints (l.drop i))):=b2.trans ((UK.Only.setCells _ _ (Only.refl W W2).drew).below b2.size (aO _))
 have fin:Fw W (W2.drew.setCells W (i+1) (ints (l.drop i))) g (l.take i++v::l.drop i) (.returned (.slice W (n+1) c')):=
  ⟨W.heap.size,c',by rw[zl,zt,dn,zd,show min i l.length+(l.length-i+1)=n+1 by omega],r3,Only.of_below b3,.inr (aO _)⟩
 have HF:=zH fin;have E1:=zH e1;have H1:=zH hcp1;have H2:=zH hcp2;have hz2:¬((i:Int)=(n:Int)):=by omega
 have hin:i<=n:=by omega
 have hb3:(i:Int)<=(n:Int)+1:=by omega
 have hw1:IntKind.i64.wrap ((i:Int)+1)=(i:Int)+1:=by rw[dJ];omega
 have hw2:IntKind.i64.wrap ((n:Int)+1)=(n:Int)+1:=by rw[dJ];omega
 have hw3:IntKind.i64.wrap ((n:Int)+1-(i:Int))=(n:Int)+1-(i:Int):=by rw[dJ];omega
 have hb1:(0:Int)<=(i:Int)+1:=by omega
 have htn:((i:Int)+1).toNat=i+1:=by omega
 have hb2:¬(c'=i+1):=by omega
 have hb4:¬(c=i):=by omega
 have hb5:¬(c'=i):=by omega
 have hrm:(c:Int)<(n:Int)+1:=by omega
 have hic:(i:Int)<=(c:Int):=by omega
 rw[<-hn]at hl hi jJ hle ⊢;clear fin r0 r1 r2 r3 b1 b2 b3 lU hv hv1 h h2 h1c hdr htk hdl htl hsz e1 hcp1 hcp2 hn aD ef KP hW2
 go_enter Tryz.func236,Tryz.ntmps236
 have yu:=H1.out 3 (c'-i)
 go_wp2_with (at_builtin;refine UK.lH E1.out rfl rfl rfl rfl rfl ?_)
 go_region_law (refine step_copy_runI rfl _ _ 57 57 rfl (.slice (W.heap.size,i+1) (n-i) (c'-(i+1))) (.slice (g,i) (n-i) (c-i)) (by simp[Act.eval,Act.put]) (by simp[Act.eval,Act.put]) (H2.out 3 (c'-(i+1)) (c-i)) ?_)
 go_wp2;go_ret
 exact HF.out
theorem xoe{W:World}{ao:Option Addr}{c vb i:Nat}{l:List Nat}(h:NR W ao c (ints l))(hl:l.length<=1000)(hi:i<=l.length)(v:Nat)(hv:ay W vb #[.int .i64 (v:Int)])(hne:¬aK ao vb) :
  Calls Tryz.prog 236 #[.slice ao l.length c,.int .i64 i,.slice vb 1 1] W λ e w'=>Fw W w' ao (l.take i++v::l.drop i) e:=by
 by_cases e:i=l.length
 ·subst e;rw[fH,List.drop_length];exact xod h hl v hv
 rcases h with⟨_,h0,_⟩|⟨g,rfl,r⟩
 ·have:=congrArg List.length h0;rw[gQ]at this;have:l.length=0:=this;omega
 by_cases hr:l.length+1<=c
 ·exact xkp r hl (by omega) hr v hv (λ e=>hne (by rw[e];rfl))
 exact xmk r hl (by omega) (by omega) v hv
theorem xof{W:World}{g c i:Nat}{l:List Nat}(h:Row W g c (ints l))(hl:l.length<=1000)(hi:i<l.length) :
  Calls Tryz.prog 259 #[.slice g l.length c,.int .i64 i,.int .i64 ((i:Int)+1)] W λ e w'=>e= .returned (.slice g (l.length-1) c)/\Row w' g c (ints (l.take i++l.drop (i+1)))/\Only g W w':=by
 have aD:=gQ l;have hle:=h.le;rw[aD]at hle;obtain⟨n,hn⟩:∃n,n=l.length:=⟨_,rfl⟩;have hz2:¬((i:Int)=(i:Int)+1):=by omega
 have hb2:¬(c=i):=by omega
 have htn:((i:Int)+1).toNat=i+1:=by omega
 have hb1:(0:Int)<=(i:Int)+1:=by omega
 have hin:(i:Int)+1<=(n:Int):=by omega
 have hic:i<=c:=by omega
 have yn:i+1<=n:=by omega
 have hsz:(Tryz.prog.info? 3).map (·.size)=some 1:=by kernel_rfl
 have h1c:∀m:List Nat,∀u∈ints m,u.oneCell'=true:=λ m u hu=>by
  unfold ints at hu;obtain⟨x,_,rfl⟩:=bQ.1 hu;rfl
 have hdr:(ints l).drop (i+1)=ints (l.drop (i+1)):=by unfold ints;rw[List.map_drop]
 have hdl:(ints (l.drop (i+1))).length=n-(i+1):=by rw[gQ,zd,hn]
 have h0:=h.drewN 1
 have happ:∀ao,(ao=(⟨g,i+1,none⟩:Addr)\/i+1=n)->∀sc,(Builtin.append_ #[57,57] 57 #[.slice g i c,.slice (some ao) (n-(i+1)) sc]).run Tryz.prog W.drew= .ok (.slice g (n-1) c) (W.drew.setCells g i (ints (l.drop (i+1)))):=λ ao hao sc=>by
  have hs:Src Tryz.prog 1 57 (.slice (some ao) (n-(i+1)) sc) (n-(i+1)) (ints (l.drop (i+1))) W.drew:=Src.ofSlice W.drew Tryz.underlying57 ao (n-(i+1)) sc _ (by rw[hdl,vQ]) (λ j u hj=>by
   rcases hao with rfl|e
   ·rw[UK.lQ];exact h0.at' (i+1+j) u (by rw[<-hdr,eY]at hj;exact hj)
   have:j<(ints (l.drop (i+1))).length:=(dE.1 hj).1;rw[hdl]at this;omega) (h1c _)
  have hr:=run_append_room_src (P:=Tryz.prog) W.drew 57 57 57 3 Tryz.t3 Tryz.underlying57 rfl g 0 i c _ _ _ hs (by omega) (λ j hj=>(h0.there _ (by rw[hdl]at hj;show 0+i*1+j<c;omega)).1) (λ j hj=>(h0.there _ (by rw[hdl]at hj;show 0+i*1+j<c;omega)).2);rw[show i+(n-(i+1))=n-1 by omega,show 0+i*Tryz.t3.size=i by show 0+i*1=i;omega]at hr;exact hr
 have r1:Row (W.drew.setCells g i (ints (l.drop (i+1)))) g c (ints (l.take i++l.drop (i+1))++(ints l).drop (n-1)):=h0.setCells i (ints (l.drop (i+1))) (by rw[hdl];omega) _ (by rw[zl,gQ,zl,zt,zd,zd,aD];omega)
  (λ j hj=>by
   rw[hdl]at hj;rw[bI (by rw[gQ,zl,zt,zd];omega)];unfold ints;rw[dL,dL,bP (by rw[zt];omega),zt,show i+j-min i l.length=j by omega])
  (λ j hj hh=>by
   rw[zl,gQ,zl,zt,zd,zd,aD]at hj;rw[hdl]at hh;refine⟨by rw[aD];omega,?_⟩;rcases hh with hh|hh
   ·rw[bI (by rw[gQ,zl,zt,zd];omega)];unfold ints;rw[dL,dL,bI (by rw[zt];omega),eX hh]
   rw[bP (by rw[gQ,zl,zt,zd];omega),gQ,zl,zt,zd,eY]
   congr 1
   omega)
 have o1:Only g W (W.drew.setCells g i (ints (l.drop (i+1)))):=UK.Only.setCells _ _ (Only.refl g W).drew;generalize hW1:W.drew.setCells g i (ints (l.drop (i+1)))=W1 at r1 o1 happ;have yo:(Builtin.clear_ #[57] 0 #[.slice (g,n-1) 1 (c-(n-1))]).run Tryz.prog W1= .ok (.tuple #[]) (W1.setCells g (n-1) (List.replicate 1 (Value.int .i64 0))):=Lib.run_clear_slice (P:=Tryz.prog) W1 57 3 0 (.int .i64 0) Tryz.underlying57 (λ w=>by kernel_rfl) rfl rfl g (n-1) 1 (c-(n-1)) (by omega) (λ j hj=>(r1.there _ (by omega)).1) (λ j hj=>(r1.there _ (by omega)).2)
 have fin:Row (W1.setCells g (n-1) (List.replicate 1 (Value.int .i64 0))) g c (ints (l.take i++l.drop (i+1)))/\Only g W (W1.setCells g (n-1) (List.replicate 1 (Value.int .i64 0))):=by
  have hlf:(ints (l.take i++l.drop (i+1))).length=n-1:=by rw[gQ,zl,zt,zd];omega
  have rk:Row (W1.setCells g (n-1) (List.replicate 1 (Value.int .i64 0))) g c (ints (l.take i++l.drop (i+1))++[Value.int .i64 0]):=r1.setCells (n-1) (List.replicate 1 (Value.int .i64 0)) (by rw[gY];omega) _ (by rw[zl,hlf];simp;omega) (λ j hj=>by
   have hj0:j=0:=by simpa using hj
   subst hj0;rw[bP (by rw[hlf];omega),hlf,show n-1+0-(n-1)=0 by omega];rfl) (λ j hj hh=>by
   rw[zl,hlf]at hj;simp only[gY,iE]at hj hh;refine⟨by rw[zl,hlf];omega,?_⟩;rw[bI (by rw[hlf];omega),bI (by rw[hlf];omega)])
  have rt:=rk.take (n-1);rw[List.take_append,fO (by rw[hlf];omega),hlf,kN,jW,jL]at rt;exact⟨rt,UK.Only.setCells _ _ o1⟩
 have HF:=zH fin;have HA:=zH happ;clear fin r1 o1 h0 hdr hdl h1c hsz happ h hW1;rw[<-hn]at hl hi hle ⊢;clear hn aD;have bi:n-(n-1)=1:=by omega
 have hz3:((i:Int)==(i:Int)+1)=false:=beq_eq_false_iff_ne.2 hz2;have yt:¬(c=n-1):=by omega
 have hnn:((n-1:Nat):Int)<=(n:Int):=by omega
 by_cases hce:c=i+1
 ·obtain rfl:n=i+1:=by omega
  subst hce
  have e1:(Builtin.append_ #[57,57] 57 #[.slice g i (i+1),.slice g 0 0]).run Tryz.prog W.drew= .ok (.slice g i (i+1)) W1:=by
   have:=HA.out ⟨g,0,none⟩ (.inr rfl) 0;rw[kN,Nat.add_sub_cancel]at this;exact this
  rw[Nat.add_sub_cancel,qJ]at yo;rw[Nat.add_sub_cancel]at HF ⊢;have E1:=zH e1;have IU:¬(i+1=i):=by omega
  clear HA e1 bi yt hnn hin hic yn hi hle hz2;have hii:(i:Int)<=(i:Int)+1:=by omega
  go_enter Tryz.func259,Tryz.ntmps259
  go_wp2_with fail
  go_region_law (refine UK.aG E1.out rfl rfl rfl (by simp[Act.eval,Act.put]) (by simp[Act.eval,Act.put]) ?_)
  go_wp2;go_ret
  exact⟨rfl,HF.out⟩
 go_enter Tryz.func259,Tryz.ntmps259
 go_wp2_with fail
 go_region_law (refine UK.aG (HA.out ⟨g,i+1,none⟩ (.inl rfl) (c-(i+1))) rfl rfl rfl (by simp[Act.eval,Act.put]) (by simp[Act.eval,Act.put]) ?_)
 go_wp2;go_ret
 exact⟨rfl,HF.out⟩
end Go.Proofs.YtgpmiliahonaoaaGreatDoor
