/- Facts on texts and trees on pages. -/
import Derived.Test.YtgpmiliahonaoaaGreatDoorKDqGc
set_option maxRecDepth 100000
set_option maxHeartbeats 8000000
set_option linter.unusedSimpArgs false
namespace Go.Proofs.YtgpmiliahonaoaaGreatDoor
open Go.RowKit Go.BigFrame
open UK (str aF nth Only Row ay)
def E8(W w':World)(ao:Option Addr)(l:List EM)(e:Ending):Prop:=
 ∃g' c',e= .returned (.slice (some ⟨g',0,none⟩) l.length c')/\Row w' g' (2*c') (fl l)/\UK.Only g' W w'/\(aK ao g'\/W.heap.size<=g')
theorem xns{W:World}{ao:Option Addr}{c vb:Nat}{l:List EM}(h:NX 2 jw W ao c l)(hl:l.length<=100000)(v:EM)(hv:ay W vb (jw v).toArray) :
  Calls Tryz.prog 100 #[.slice ao l.length c,.int .i64 l.length,.slice vb 1 1] W λ e w'=>E8 W w' ao (l++[v]) e:=by
 have aD:=jI l;have hle:l.length<=c:=h.le Gu (by omega)
 have hsrc:Src Tryz.prog 2 100 (.slice vb 1 1) 1 (jw v) W:=Src.ofSlice W Tryz.underlying100 ⟨vb,0,none⟩ 1 1 (jw v) rfl (λ j u hj=>by
  rw[UK.lQ,eG];exact hv.cell j u (by rw[List.getElem?_toArray];exact hj)) (IG v)
 obtain⟨g',c',W',e,r,o⟩:=UK.TM (P:=Tryz.prog) (t:=100) (tx:=100) (ty:=100) (q:=2) (n:=l.length) (k:=1) (vs:=fl l) Tryz.underlying100 (i:=Tryz.t104) rfl rfl rfl (show(32:Nat)<=64 by omega) rfl aD
  (by
   rcases h with⟨a,b,c⟩|⟨g,a,b⟩
   ·subst b;exact .inl ⟨a,rfl,c,rfl⟩
   exact .inr ⟨g,a,b⟩) (m:=jw v) rfl (by omega) hsrc (by omega)
 have el:fl l++jw v=fl (l++[v]):=by rw[ym];rfl
 rw[el]at r;have HR:=zH (zA r o);clear r o hv el hsrc
 have fin:E8 W W' ao (l++[v]) (.returned (.slice g' (l.length+1) c')):=by
  refine⟨g',c',by rw[zl];rfl,HR.out.1,?_⟩;rcases HR.out.2 with⟨a,b⟩|⟨a,b⟩
  ·exact⟨b,.inl a⟩
  exact⟨Only.of_below b,.inr (by omega)⟩
 have HF:=zH fin;clear fin HR;rcases h with⟨rfl,hn,rfl⟩|⟨g,rfl,r⟩
 ·subst hn;clear aD
  go_enter Tryz.func100,Tryz.ntmps100
  go_wp2_with (at_builtin;refine UK.lH e rfl rfl rfl rfl rfl ?_)
  go_ret;exact HF.out
 clear r aD
 go_enter Tryz.func100,Tryz.ntmps100
 go_wp2_with (at_builtin;refine UK.lH e rfl rfl rfl rfl rfl ?_)
 all_goals
  go_ret;exact HF.out
theorem xj3{W:World}{g c vb i:Nat}{l:List EM}(h:Row W g (2*c) (fl l))(hl:l.length<=100000)(hi:i<l.length)(jJ:l.length+1<=c)(v:EM)(hv:ay W vb (jw v).toArray)(hne:vb≠g) :
  Calls Tryz.prog 100 #[.slice g l.length c,.int .i64 i,.slice vb 1 1] W λ e w'=>E8 W w' g (l.take i++v::l.drop i) e:=by
 have aD:=jI l;obtain⟨n,hn⟩:∃n,n=l.length:=⟨_,rfl⟩;obtain⟨tB,kB,hsb,hkB⟩:=Row.shape h (by omega)
 obtain⟨tA,kA,hsa,hfa,hfe⟩:∃tA kA,W.shape? vb=some (tA,kA)/\W.frozen? ⟨vb,0,none⟩=false/\W.frozen? {block:=vb,off:=kA}=false:=by
  obtain⟨t,hb⟩:=hv;exact⟨t,2,by unfold World.shape?;rw[hb];rfl,by unfold World.frozen?;rw[hb];rfl,by unfold World.frozen?;rw[hb];rfl⟩
 have hov:∀lb cb,(callFunc 163 #[.slice vb 1 1,.slice (g,(i+1)*2) lb cb]).run Tryz.prog W= .ok (.value (.bool false)) W:=λ lb cb=>by
  rw[run_callFunc_extern Tryz.func163 (by kernel_rfl) (by kernel_rfl) (by kernel_rfl) (e:=Extern.SlicesOverlaps.overlaps #[100,100] #[4]) (by kernel_rfl),
   Lib.run_overlaps_apart W 100 4 104 Tryz.underlying100 2 (λ w=>by kernel_rfl) ⟨vb,0,none⟩ ⟨g,(i+1)*2,none⟩ 1 1 lb cb hne tA tB kA kB hsa hsb hkB hfa hfe]
  rfl
 have hsz:(Tryz.prog.info? 104).map (·.size)=some 2:=by kernel_rfl
 have hcs:∀j u,(fl l)[j]?=some u->W.cell? ⟨g,j,none⟩=some u:=λ j u hj=>h.at' j u hj;have hdr:=P5 l i;have hdl:(fl (l.drop i)).length=2*(n-i):=by rw[jI,zd,hn]
 have r1:Row (W.drew.setCells g ((i+1)*2) (fl (l.drop i))) g (2*c) (fl (l.take (i+1)++l.drop i)):=(h.drewN 1).setCells ((i+1)*2) (fl (l.drop i)) (by rw[hdl];omega) _ (by rw[jI,zl,zt,zd];omega)
  (λ j hj=>by
   rw[ym,bP (by rw[jI,zt];omega),jI,zt,show(i+1)*2+j-2*min (i+1) l.length=j by omega])
  (λ j hj hh=>by
   rw[jI,zl,zt,zd]at hj;rw[hdl]at hh;have hji:j<2*(i+1):=by omega
   refine⟨by rw[aD];omega,?_⟩;rw[ym,bI (by rw[jI,zt];omega),IR,eX hji])
 have o1:Only g W (W.drew.setCells g ((i+1)*2) (fl (l.drop i))):=UK.Only.setCells _ _ (Only.refl g W).drew;have hmin:Nat.min (n+1-i) (n-i)=n-i:=Nat.min_eq_right (by omega)
 have hcp1:∀ty dc sc,(Builtin.copy_ #[100,100] ty #[.slice (g,(i+1)*2) (n-i) dc,.slice (g,i*2) (n+1-i) sc]).run Tryz.prog W.drew= .ok (goInt ((n-i:Nat):Int)) (W.drew.setCells g ((i+1)*2) (fl (l.drop i))):=λ ty dc sc=>by
  have:=UK.Ms (P:=Tryz.prog) W.drew 100 100 ty 104 2 g ((i+1)*2) (n-i) dc ⟨g,i*2,none⟩ (n+1-i) sc (fl (l.drop i)) Tryz.underlying100 hsz (by rw[hdl,hmin];omega)
   (λ j u hj=>by rw[UK.lQ];exact hcs (i*2+j) u (by rw[hdr,eY]at hj;rw[Nat.mul_comm];exact hj))
   (λ j hj=>(h.there _ (by rw[hdl]at hj;omega)).1) (λ j hj=>(h.there _ (by rw[hdl]at hj;omega)).2) (P6 _)
  rw[hmin]at this;exact this
 generalize hW1:W.drew.setCells g ((i+1)*2) (fl (l.drop i))=W1 at r1 o1 hcp1;have hv1:=hv.only o1 hne;have om:Nat.min 1 (n+1-i)=1:=gH (by omega)
 have hcp2:∀ty dc,(Builtin.copy_ #[100,100] ty #[.slice (g,i*2) (n+1-i) dc,.slice vb 1 1]).run Tryz.prog W1= .ok (goInt 1) (W1.setCells g (i*2) (jw v)):=λ ty dc=>by
  have:=UK.Ms (P:=Tryz.prog) W1 100 100 ty 104 2 g (i*2) (n+1-i) dc ⟨vb,0,none⟩ 1 1 (jw v) Tryz.underlying100 hsz (by rw[om];rfl)
   (λ j u hj=>by rw[UK.lQ,eG];exact hv1.cell j u (by rw[List.getElem?_toArray];exact hj))
   (λ j hj=>(r1.there _ (by have:j<2:=hj;omega)).1) (λ j hj=>(r1.there _ (by have:j<2:=hj;omega)).2) (IG v)
  rw[om]at this;exact this
 have r2:Row (W1.setCells g (i*2) (jw v)) g (2*c) (fl (l.take i++v::l.drop i)):=r1.setCells (i*2) (jw v) (by show i*2+2<=_;omega) _ (by rw[jI,zl,zt,dn,zd];omega)
  (λ j hj=>by
   have hj2:j<2:=hj;rw[ym,bP (by rw[jI,zt];omega),jI,zt,show i*2+j-2*min i l.length=j by omega,Pz,bI (by exact hj)])
  (λ j hj hh=>by
   rw[jI,zl,zt,dn,zd]at hj;have Bw:j<i*2\/i*2+2<=j:=hh;refine⟨by rw[jI,zl,zt,zd];omega,?_⟩;rw[ym,ym];rcases Bw with hh|hh
   ·rw[bI (by rw[jI,zt];omega),bI (by rw[jI,zt];omega),IR,IR,eX (by omega),eX (by omega)]
   rw[bP (by rw[jI,zt];omega),bP (by rw[jI,zt];omega),jI,jI,zt,zt,Pz,bP (by show 2<=_;omega)];show(fl (l.drop i))[_-2]?=_
   congr 1
   omega)
 have o2:Only g W (W1.setCells g (i*2) (jw v)):=UK.Only.setCells _ _ o1
 have fin:E8 W (W1.setCells g (i*2) (jw v)) g (l.take i++v::l.drop i) (.returned (.slice g (n+1) c)):=
  ⟨g,c,by rw[zl,zt,dn,zd,show min i l.length+(l.length-i+1)=n+1 by omega],r2,o2,.inl rfl⟩
 have HF:=zH fin;have hz2:¬((i:Int)=(n:Int)):=by omega
 have hin:i<=n:=by omega
 have hb3:(i:Int)<=(n:Int)+1:=by omega
 have hw1:IntKind.i64.wrap ((i:Int)+1)=(i:Int)+1:=by rw[dJ];omega
 have hw2:IntKind.i64.wrap ((n:Int)+1)=(n:Int)+1:=by rw[dJ];omega
 have hb1:(0:Int)<=(i:Int)+1:=by omega
 have htn:((i:Int)+1).toNat=i+1:=by omega
 have hb2:¬(c=i+1):=by omega
 have hb4:¬(c=i):=by omega
 have hb5:((n:Int)+1).toNat=n+1:=by omega
 have hrm:¬((c:Int)<(n:Int)+1):=by omega
 rw[<-hn]at hl hi jJ ⊢;clear hn hW1 aD;clear fin r1 r2 o1 o2 hv hv1 h hcs hdr hdl hsa hsb hfa hfe hsz hmin om;have H2:=zH hcp2;have H1:=zH hcp1;clear hcp1 hcp2
 go_enter Tryz.func100,Tryz.ntmps100
 go_wp2_with (simp only[hov])
 go_region_law (refine step_copy_runI rfl _ _ 100 100 rfl (.slice (g,(i+1)*2) (n-i) (c-(i+1))) (.slice (g,i*2) (n+1-i) (c-i)) (by simp[Act.eval,Act.put]) (by simp[Act.eval,Act.put]) (H1.out 3 (c-(i+1)) (c-i)) ?_)
 have yu:=H2.out 3 (c-i);go_wp2;go_ret;exact HF.out
theorem Gz{α:Type}{a b:List α}{n j:Nat}(h:a.length=n)(hj:n<=j):(a++b)[j]?=b[j-n]?:=by rw[bP (by omega),h]
theorem Uy{α:Type}{a b:List α}{n j:Nat}(h:a.length=n)(hj:j<n):(a++b)[j]?=a[j]?:=bI (by omega)
theorem xwq(n:Nat):(Builtin.zeroCells (Value.agg #[.int .u64 0,.slice none 0 0]).cells (n+1)).toList=zE++(Builtin.zeroCells (Value.agg #[.int .u64 0,.slice none 0 0]).cells n).toList:=by
 rw[Nat.add_comm,UK.xj2,UK.Ux,Array.toList_append];rfl
theorem ybh(n:Nat):(Builtin.zeroCells (Value.agg #[.int .u64 0,.slice none 0 0]).cells n).toList.length=2*n:=by
 rw[Array.length_toList,UK.Ad,Nat.mul_comm];rfl
theorem xl1{W:World}{g c vb i:Nat}{l:List EM}(h:Row W g (2*c) (fl l))(hl:l.length<=100000)(hi:i<l.length)(jJ:c<l.length+1)(v:EM)(hv:ay W vb (jw v).toArray) :
  Calls Tryz.prog 100 #[.slice g l.length c,.int .i64 i,.slice vb 1 1] W λ e w'=>E8 W w' g (l.take i++v::l.drop i) e:=by
 have aD:=jI l;obtain⟨n,hn⟩:∃n,n=l.length:=⟨_,rfl⟩;have hle:=h.le;rw[aD]at hle;have hsz:(Tryz.prog.info? 104).map (·.size)=some 2:=by kernel_rfl
 have hdr:=P5 l i;have hdl:(fl (l.drop i)).length=2*(n-i):=by rw[jI,zd,hn]
 have htl:(fl (l.take i)).length=2*i:=by rw[jI,zt];omega
 have r0:=h.take (2*i);rw[<-IR]at r0;obtain⟨c',W1,e1,r1,hc1,b1⟩:=UK.xl0 (P:=Tryz.prog) (t:=100) (tn:=3) (ty:=100) (kn:=.i64) (i:=Tryz.t104) (q:=2) Tryz.underlying100 Tryz.underlying3 rfl rfl rfl (by omega) (show(32:Nat)<=64 by omega) rfl r0 htl (n+1-i) (by omega) (by omega) (by omega);rw[show i+(n+1-i)=n+1 by omega]at e1 hc1;rw[show((n+1-i:Nat):Int)=(n:Int)+1-(i:Int) by omega]at e1;rw[show n+1-i=(n-i)+1 by omega,xwq]at r1;have hzl:=ybh (n-i);obtain⟨zz,hzz⟩:∃zz,zz=(Builtin.zeroCells (Value.agg #[.int .u64 0,.slice none 0 0]).cells (n-i)).toList:=⟨_,rfl⟩;rw[<-hzz]at hzl;replace r1:Row W1 W (2*c') (fl (l.take i)++(zE++zz)):=by rw[hzz];exact r1
 clear hzz;have lU:Below W W W1:=b1;have hv1:=hv.below lU hv.lt;have om:Nat.min 1 (n+1-i)=1:=gH (by omega)
 have hcp1:∀ty dc,(Builtin.copy_ #[100,100] ty #[.slice (W.heap.size,i*2) (n+1-i) dc,.slice vb 1 1]).run Tryz.prog W1= .ok (goInt 1) (W1.setCells W (i*2) (jw v)):=λ ty dc=>by
  have:=UK.Ms (P:=Tryz.prog) W1 100 100 ty 104 2 W (i*2) (n+1-i) dc ⟨vb,0,none⟩ 1 1 (jw v) Tryz.underlying100 hsz (by rw[om];rfl)
   (λ j u hj=>by rw[UK.lQ,eG];exact hv1.cell j u (by rw[List.getElem?_toArray];exact hj))
   (λ j hj=>(r1.there _ (by have:j<2:=hj;omega)).1) (λ j hj=>(r1.there _ (by have:j<2:=hj;omega)).2) (IG v)
  rw[om]at this;exact this
 have r2:Row (W1.setCells W (i*2) (jw v)) W (2*c') (fl (l.take i)++(jw v++zz)):=r1.setCells (i*2) (jw v) (by show i*2+2<=_;omega) _ (by rw[zl,htl,zl,hzl];show 2*i+(2+_)<=_;omega)
  (λ j hj=>by
   have hj2:j<2:=hj;rw[bP (by rw[htl];omega),htl,show i*2+j-2*i=j by omega,bI (by exact hj)])
  (λ j hj hh=>by
   rw[zl,htl,zl,hzl]at hj;have Gy:j<2*i+(2+2*(n-i)):=hj;have Bw:j<i*2\/i*2+2<=j:=hh;refine⟨by rw[zl,htl,zl,hzl];exact Gy,?_⟩;rcases Bw with hh|hh
   ·rw[bI (by rw[htl];omega),bI (by rw[htl];omega)]
   rw[Gz htl (by omega),Gz htl (by omega),Gz (a:=jw v) (n:=2) rfl (by omega),Gz (a:=zE) (n:=2) rfl (by omega)])
 have b2:Below W W (W1.setCells W (i*2) (jw v)):=lU.trans ((UK.Only.setCells _ _ (Only.refl W W1)).below lU.size (aO _));generalize hW2:W1.setCells W (i*2) (jw v)=W2 at r2 b2 hcp1;have h2:=h.below b2 h.lt;have yw:Nat.min (n-i) (n-i)=n-i:=Nat.min_self _
 have hcp2:∀ty dc sc,(Builtin.copy_ #[100,100] ty #[.slice (W.heap.size,(i+1)*2) (n-i) dc,.slice (g,i*2) (n-i) sc]).run Tryz.prog W2.drew= .ok (goInt ((n-i:Nat):Int)) (W2.drew.setCells W ((i+1)*2) (fl (l.drop i))):=λ ty dc sc=>by
  have:=UK.Ms (P:=Tryz.prog) W2.drew 100 100 ty 104 2 W ((i+1)*2) (n-i) dc ⟨g,i*2,none⟩ (n-i) sc (fl (l.drop i)) Tryz.underlying100 hsz (by rw[hdl,yw];omega)
   (λ j u hj=>by rw[UK.lQ];exact h2.at' (i*2+j) u (by rw[hdr,eY]at hj;rw[Nat.mul_comm];exact hj))
   (λ j hj=>(r2.there _ (by rw[hdl]at hj;omega)).1) (λ j hj=>(r2.there _ (by rw[hdl]at hj;omega)).2) (P6 _)
  rw[yw]at this;exact this
 have r3:Row (W2.drew.setCells W ((i+1)*2) (fl (l.drop i))) W (2*c') (fl (l.take i++v::l.drop i)):=by
  rw[ym,Pz];refine(r2.drewN 1).setCells ((i+1)*2) (fl (l.drop i)) (by rw[hdl];omega) _ (by rw[zl,htl,zl,hdl];show 2*i+(2+_)<=_;omega) (λ j hj=>?_) (λ j hj hh=>?_)
  ·rw[bP (by rw[htl];omega),htl,bP (by show 2<=_;omega)];show(fl (l.drop i))[_-2]?=_
   congr 1
   omega
  rw[zl,htl,zl,hdl]at hj;have Gy:j<2*i+(2+2*(n-i)):=hj;rw[hdl]at hh;have hji:j<(i+1)*2:=by omega
  refine⟨by rw[zl,htl,zl,hzl];exact Gy,?_⟩;by_cases e:j<2*i
  ·rw[bI (by rw[htl];omega),bI (by rw[htl];omega)]
  rw[Gz htl (by omega),Gz htl (by omega),Uy (a:=jw v) (n:=2) rfl (by omega),Uy (a:=jw v) (n:=2) rfl (by omega)]
 have b3:Below W W (W2.drew.setCells W ((i+1)*2) (fl (l.drop i))):=b2.trans ((UK.Only.setCells _ _ (Only.refl W W2).drew).below b2.size (aO _))
 have fin:E8 W (W2.drew.setCells W ((i+1)*2) (fl (l.drop i))) g (l.take i++v::l.drop i) (.returned (.slice W (n+1) c')):=
  ⟨W.heap.size,c',by rw[zl,zt,dn,zd,show min i l.length+(l.length-i+1)=n+1 by omega],r3,Only.of_below b3,.inr (aO _)⟩
 have HF:=zH fin;have E1:=zH e1;have H1:=zH hcp1;have H2:=zH hcp2;have hz2:¬((i:Int)=(n:Int)):=by omega
 have hin:i<=n:=by omega
 have hb3:(i:Int)<=(n:Int)+1:=by omega
 have hw1:IntKind.i64.wrap ((i:Int)+1)=(i:Int)+1:=by rw[dJ];omega
 have hw2:IntKind.i64.wrap ((n:Int)+1)=(n:Int)+1:=by rw[dJ];omega
 have hw3:IntKind.i64.wrap ((n:Int)+1-(i:Int))=(n:Int)+1-(i:Int):=by rw[dJ];omega
 have hb1:(0:Int)<=(i:Int)+1:=by omega
 have htn:((i:Int)+1).toNat=i+1:=by omega
 have hb2:¬(c'=i+1):=by omega
 have hb4:¬(c=i):=by omega
 have hb5:¬(c'=i):=by omega
 have hrm:(c:Int)<(n:Int)+1:=by omega
 have hic:(i:Int)<=(c:Int):=by omega
 rw[<-hn]at hl hi jJ ⊢;clear fin r0 r1 r2 r3 b1 b2 b3 lU hv hv1 h h2 hdr hdl htl hsz e1 hcp1 hcp2 hn aD hW2 hle hzl om yw
 go_enter Tryz.func100,Tryz.ntmps100
 have yu:=H1.out 3 (c'-i)
 go_wp2_with (at_builtin;refine UK.lH E1.out rfl rfl rfl rfl rfl ?_)
 go_region_law (refine step_copy_runI rfl _ _ 100 100 rfl (.slice (W.heap.size,(i+1)*2) (n-i) (c'-(i+1))) (.slice (g,i*2) (n-i) (c-i)) (by simp[Act.eval,Act.put]) (by simp[Act.eval,Act.put]) (H2.out 3 (c'-(i+1)) (c-i)) ?_)
 go_wp2;go_ret
 exact HF.out
theorem xnt{W:World}{ao:Option Addr}{c vb i:Nat}{l:List EM}(h:NX 2 jw W ao c l)(hl:l.length<=100000)(hi:i<=l.length)(v:EM)(hv:ay W vb (jw v).toArray)(hne:¬aK ao vb) :
  Calls Tryz.prog 100 #[.slice ao l.length c,.int .i64 i,.slice vb 1 1] W λ e w'=>E8 W w' ao (l.take i++v::l.drop i) e:=by
 by_cases e:i=l.length
 ·subst e;rw[fH,List.drop_length];exact xns h hl v hv
 rcases h with⟨_,h0,_⟩|⟨g,rfl,r⟩
 ·subst h0;simp only[List.length_nil]at hi e;omega
 by_cases hr:l.length+1<=c
 ·exact xj3 r hl (by omega) hr v hv (λ e=>hne (by rw[e];rfl))
 exact xl1 r hl (by omega) (by omega) v hv
end Go.Proofs.YtgpmiliahonaoaaGreatDoor
namespace Go.Proofs.YtgpmiliahonaoaaGreatDoor.SR
open UK (nth wr iW)
theorem Xe(x:List UInt8)(a i:Nat)(v:UInt8):nth (x.set a v) i=if a=i/\a<x.length then v else nth x i:=by
 unfold nth List.getD;rw[List.getElem?_set];by_cases h:a=i
 ·subst h;by_cases h2:a<x.length
  ·simp[h2]
  simp[h2]
 simp[h]
def two(x:List UInt8)(a:Nat):Nat:=(nth x a).toNat+256*(nth x (a+1)).toNat
def put(x:List UInt8)(a n:Nat):List UInt8:=(x.set a (UInt8.ofNat n)).set (a+1) (UInt8.ofNat (n/256))
def lay(x:List UInt8)(i a n:Nat):List UInt8:=put (put x (4+4*i) a) (4+4*i+2) n
theorem aH(x:List UInt8)(a n:Nat):(put x a n).length=x.length:=by simp[put]
theorem bU(x:List UInt8)(i a n:Nat):(lay x i a n).length=x.length:=by simp[lay,aH]
theorem KA(x:List UInt8)(a n i:Nat)(h:a+1<x.length):nth (put x a n) i=if i=a then UInt8.ofNat n else if i=a+1 then UInt8.ofNat (n/256) else nth x i:=by
 unfold put;rw[Xe,Xe];simp only[aQ];by_cases h1:i=a
 ·rw[if_neg (by omega),if_pos ⟨h1.symm,by omega⟩,if_pos h1]
 by_cases h2:i=a+1
 ·rw[if_pos ⟨h2.symm,h⟩,if_neg h1,if_pos h2]
 rw[if_neg (by omega),if_neg (by omega),if_neg h1,if_neg h2]
theorem dh(x:List UInt8)(a n:Nat)(h:a+1<x.length)(hn:n<65536):two (put x a n) a=n:=by
 unfold two;rw[KA x a n a h,KA x a n (a+1) h,if_pos rfl,if_neg (by omega),if_pos rfl];simp;omega
theorem aR(x:List UInt8)(a n b:Nat)(h:a+1<x.length)(hb:b+1<a\/a+1<b):two (put x a n) b=two x b:=by
 unfold two;rw[KA x a n b h,KA x a n (b+1) h,if_neg (by omega),if_neg (by omega),if_neg (by omega),if_neg (by omega)]
theorem eU(x:List UInt8)(a n i:Nat)(h:a+1<x.length)(hi:i<a\/a+1<i):nth (put x a n) i=nth x i:=by
 rw[KA x a n i h,if_neg (by omega),if_neg (by omega)]
theorem jq(x:List UInt8)(a:Nat)(s:List UInt8)(h:a+s.length<=x.length)(i:Nat):nth (wr x a s) i=if a<=i/\i<a+s.length then nth s (i-a) else nth x i:=by
 have hl:(x.take a).length=a:=by rw[zt];omega
 unfold nth List.getD wr;by_cases h1:i<a
 ·rw[bI (by omega),List.getElem?_take,if_pos h1,if_neg (by omega)]
 rw[bP (by omega),hl];by_cases h2:i<a+s.length
 ·rw[bI (by omega),if_pos (by omega)]
 rw[bP (by omega),eY,if_neg (by omega)]
 congr 2
 omega
theorem Au(x:List UInt8)(a:Nat)(s:List UInt8)(h:a+s.length<=x.length)(b:Nat)(hb:b+1<a\/a+s.length<=b):two (wr x a s) b=two x b:=by
 unfold two;rw[jq x a s h,jq x a s h,if_neg (by omega),if_neg (by omega)]
def pos(x:List UInt8)(i:Nat):Nat:=two x (4+4*i)
def ext(x:List UInt8)(i:Nat):Nat:=two x (4+4*i+2)
def low(x:List UInt8):Nat:=two x 2
theorem Nw(x:List UInt8)(i a n:Nat)(h:4+4*i+3<x.length)(ha:a<65536):pos (lay x i a n) i=a:=by
 unfold pos lay;rw[aR _ _ _ _ (by rw[aH];omega) (by omega),dh _ _ _ (by omega) ha]
theorem Ny(x:List UInt8)(i a n:Nat)(h:4+4*i+3<x.length)(hn:n<65536):ext (lay x i a n) i=n:=by
 unfold ext lay;rw[dh _ _ _ (by rw[aH];omega) hn]
theorem Fs(x:List UInt8)(i a n b:Nat)(h:4+4*i+3<x.length)(hb:b+1<4+4*i\/4+4*i+3<b):two (lay x i a n) b=two x b:=by
 unfold lay;rw[aR _ _ _ _ (by rw[aH];omega) (by omega),aR _ _ _ _ (by omega) (by omega)]
theorem D8(x:List UInt8)(i a n j:Nat)(h:4+4*i+3<x.length)(hj:j≠i):pos (lay x i a n) j=pos x j:=Fs _ _ _ _ _ h (by omega)
theorem KC(x:List UInt8)(i a n j:Nat)(h:4+4*i+3<x.length)(hj:j≠i):ext (lay x i a n) j=ext x j:=Fs _ _ _ _ _ h (by omega)
theorem Nz(x:List UInt8)(i a n:Nat)(h:4+4*i+3<x.length):low (lay x i a n)=low x:=Fs _ _ _ _ _ h (by omega)
theorem N7(x:List UInt8)(i a n k:Nat)(h:4+4*i+3<x.length)(hk:k<4+4*i\/4+4*i+3<k):nth (lay x i a n) k=nth x k:=by
 unfold lay;rw[eU _ _ _ _ (by rw[aH];omega) (by omega),eU _ _ _ _ (by omega) (by omega)]
def total:List (List UInt8)->Nat
 | []=>0
 | s::l=>s.length+total l
theorem fB(l m:List (List UInt8)):total (l++m)=total l+total m:=by
 induction l with
 | nil=>simp[total]
 | cons s l ih=>simp[total,ih];omega
def aW(l:List (List UInt8))(i:Nat):List UInt8:=l.getD i []
theorem mW(l:List (List UInt8))(i:Nat)(s:List UInt8)(h:i<l.length):total (l.set i s)+(aW l i).length=total l+s.length:=by
 induction l generalizing i with
 | nil=>simp at h
 | cons t l ih=>
  cases i with
  | zero=>simp[total,aW];omega
  | succ i=>
   simp only[z1,total];have:=ih i (by simpa using h);simp only[aW,List.getD_cons_succ]at this ⊢;omega
theorem dm(l:List (List UInt8))(k:Nat):total (l.take k)<=total l:=by
 conv=>rhs;rw[<-iq k l,fB]
 omega
theorem cK(l:List (List UInt8))(k:Nat)(h:k<l.length):total (l.take (k+1))=total (l.take k)+(aW l k).length:=by
 rw[List.take_succ_eq_append_getElem h,fB];simp[total,aW,h]
theorem eQ(l:List (List UInt8))(i j:Nat)(s:List UInt8):aW (l.set i s) j=if i=j/\i<l.length then s else aW l j:=by
 unfold aW List.getD;rw[List.getElem?_set];by_cases h:i=j
 ·subst h;by_cases h2:i<l.length<;>simp[h2]
 simp[h]
theorem gm(l:List (List UInt8))(i:Nat)(h:l.length<=i):aW l i=[]:=by
 unfold aW List.getD;rw[jo h];rfl
theorem iQ(l:List (List UInt8))(i:Nat):(aW l i).length<=total l:=by
 by_cases h:i<l.length
 ·have h1:=cK l i h;have h2:=dm l (i+1);omega
 rw[gm l i (by omega)];simp
structure aM(x:List UInt8)(l:List (List UInt8)):Prop where
 size:504<=x.length
 len:two x 0=l.length
 mQ:4+4*l.length<=low x
 oz:low x<=504
 none:l=[]->low x=504
 hole:∀i,i<l.length->aW l i=[]->pos x i=0/\ext x i=0
 there:∀i,i<l.length->aW l i≠[]->low x<=pos x i/\pos x i+(aW l i).length<=504/\ext x i=(aW l i).length
 bytes:∀i,i<l.length->∀k,k<(aW l i).length->nth x (pos x i+k)=nth (aW l i) k
 apart:∀i j,i<l.length->j<l.length->i≠j->aW l i≠[]->aW l j≠[]->pos x i+(aW l i).length<=pos x j\/pos x j+(aW l j).length<=pos x i
 sum:4+4*l.length+total l<=504
namespace aM
variable{x:List UInt8}{l:List (List UInt8)}
theorem zq(h:aM x l){i:Nat}(hi:i<l.length):ext x i=(aW l i).length:=by
 by_cases h0:aW l i=[]
 ·rw[(h.hole i hi h0).2,h0];rfl
 exact(h.there i hi h0).2.2
theorem few(h:aM x l):l.length<=125:=by have:=h.mQ;have:=h.oz;omega
theorem inside(h:aM x l){i:Nat}(hi:i<l.length):pos x i+(aW l i).length<=504:=by
 by_cases h0:aW l i=[]
 ·rw[(h.hole i hi h0).1,h0];simp
 exact(h.there i hi h0).2.1
theorem init(y:List UInt8)(hy:504<=y.length)(hz:∀i,i<504->nth y i=0):aM (put y 2 504) []:=by
 have e0:two (put y 2 504) 0=0:=by
  rw[aR _ _ _ _ (by omega) (by omega)];simp[two,hz]
 have e2:low (put y 2 504)=504:=dh _ _ _ (by omega) (by decide);refine⟨by rw[aH];exact hy,e0,by rw[e2];decide,by rw[e2];decide,λ _=>e2,?_,?_,?_,?_,by simp[total]⟩
 ·intro i hi;simp at hi
 ·intro i hi;simp at hi
 ·intro i hi;simp at hi
 intro i j hi;simp at hi
theorem drop(h:aM x l){i:Nat}(hi:i<l.length):aM (lay x i 0 0) (l.set i []):=by
 have hf:=h.few;have hs:=h.size;have hb:4+4*i+3<x.length:=by omega
 have hne:∀j,aW (l.set i []) j≠[]->j≠i/\aW (l.set i []) j=aW l j:=λ j hj=>by
  rw[eQ]at hj ⊢;by_cases h1:i=j/\i<l.length
  ·rw[if_pos h1]at hj;exact absurd rfl hj
  rw[if_neg h1];exact⟨λ e=>h1 ⟨e.symm,hi⟩,rfl⟩
 have hts:=mW l i [] hi;refine⟨by rw[bU];exact hs,?_,?_,?_,?_,?_,?_,?_,?_,?_⟩
 ·rw[Fs _ _ _ _ _ hb (by omega),aQ];exact h.len
 ·rw[Nz _ _ _ _ hb,aQ];exact h.mQ
 ·rw[Nz _ _ _ _ hb];exact h.oz
 ·intro h0;have:(l.set i []).length=0:=by rw[h0];rfl
  rw[aQ]at this;omega
 ·intro j hj h0;rw[aQ]at hj;by_cases hji:j=i
  ·subst hji;exact⟨Nw _ _ _ _ hb (by decide),Ny _ _ _ _ hb (by decide)⟩
  rw[D8 _ _ _ _ _ hb hji,KC _ _ _ _ _ hb hji];rw[eQ,if_neg (by omega)]at h0;exact h.hole j hj h0
 ·intro j hj eO;rw[aQ]at hj;obtain⟨hji,he⟩:=hne j eO;rw[he]at eO ⊢;rw[Nz _ _ _ _ hb,D8 _ _ _ _ _ hb hji,KC _ _ _ _ _ hb hji];exact h.there j hj eO
 ·intro j hj k hk;rw[aQ]at hj
  have eO:aW (l.set i []) j≠[]:=by
   intro h0;rw[h0]at hk;simp at hk
  obtain⟨hji,he⟩:=hne j eO;rw[he]at hk ⊢;have ht:=h.there j hj (by rw[<-he];exact eO);have hl1:=h.mQ;rw[D8 _ _ _ _ _ hb hji,N7 _ _ _ _ _ hb (by omega)];exact h.bytes j hj k hk
 ·intro j k hj hk hjk eO hkne;rw[aQ]at hj hk;obtain⟨hji,he⟩:=hne j eO;obtain⟨hki,he2⟩:=hne k hkne;rw[he]at eO ⊢;rw[he2]at hkne ⊢;rw[D8 _ _ _ _ _ hb hji,D8 _ _ _ _ _ hb hki];exact h.apart j k hj hk hjk eO hkne
 rw[aQ];have:=h.sum;simp at hts;omega
theorem grow(h:aM x l)(hl:4+4*(l.length+1)<=low x)(hs:4+4*(l.length+1)+total l<=504):aM (lay (put x 0 (l.length+1)) l.length 0 0) (l++[[]]):=by
 have hf:=h.few;have hsz:=h.size;have hl2:=h.oz;have hb:4+4*l.length+3<(put x 0 (l.length+1)).length:=by rw[aH];omega
 have hlow:low (lay (put x 0 (l.length+1)) l.length 0 0)=low x:=by
  rw[Nz _ _ _ _ hb];exact aR _ _ _ _ (by omega) (by omega)
 have hrec:∀j,aW (l++[[]]) j=aW l j:=λ j=>by
  unfold aW List.getD;by_cases hj:j<l.length
  ·rw[bI hj]
  rw[bP (by omega),jo (l:=l) (by omega)];by_cases hj2:j-l.length=0
  ·rw[hj2];rfl
  rw[jo (by simp;omega)]
 have hpos:∀j,j<l.length->pos (lay (put x 0 (l.length+1)) l.length 0 0) j=pos x j:=λ j hj=>by
  rw[D8 _ _ _ _ _ hb (by omega)];exact aR _ _ _ _ (by omega) (by omega)
 have nQ:∀j,j<l.length->ext (lay (put x 0 (l.length+1)) l.length 0 0) j=ext x j:=λ j hj=>by
  rw[KC _ _ _ _ _ hb (by omega)];exact aR _ _ _ _ (by omega) (by omega)
 have hin:∀j,aW (l++[[]]) j≠[]->j<l.length:=λ j hj=>by
  rw[hrec]at hj;by_cases h1:j<l.length
  ·exact h1
  rw[gm l j (by omega)]at hj;exact absurd rfl hj
 refine⟨by rw[bU,aH];exact hsz,?_,?_,?_,?_,?_,?_,?_,?_,?_⟩
 ·rw[Fs _ _ _ _ _ hb (by omega),dh _ _ _ (by omega) (by omega)];simp
 ·rw[hlow];simpa using hl
 ·rw[hlow];exact hl2
 ·intro h0;simp at h0
 ·intro j hj h0;simp only[zl,dn,List.length_nil]at hj;by_cases hjl:j<l.length
  ·rw[hpos j hjl,nQ j hjl];rw[hrec]at h0;exact h.hole j hjl h0
  obtain rfl:j=l.length:=by omega
  exact⟨Nw _ _ _ _ hb (by decide),Ny _ _ _ _ hb (by decide)⟩
 ·intro j _ eO;have hjl:=hin j eO;rw[hrec]at eO ⊢;rw[hlow,hpos j hjl,nQ j hjl];exact h.there j hjl eO
 ·intro j _ k hk;have hjl:=hin j (by intro h0;rw[h0]at hk;simp at hk);rw[hrec]at hk ⊢;have ht:=h.there j hjl (by intro h0;rw[h0]at hk;simp at hk);rw[hpos j hjl,N7 _ _ _ _ _ hb (by omega),eU _ _ _ _ (by omega) (by omega)];exact h.bytes j hjl k hk
 ·intro j k _ _ hjk eO hkne;have hjl:=hin j eO;have hkl:=hin k hkne;rw[hrec]at eO hkne ⊢;rw[hrec,hpos j hjl,hpos k hkl];exact h.apart j k hjl hkl hjk eO hkne
 rw[fB];simp[total];omega
theorem store(h:aM x l){i:Nat}(hi:i<l.length)(h0:aW l i=[])(s:List UInt8)(hs:s≠[])(hl:4+4*l.length+s.length<=low x)(hsum:4+4*l.length+total l+s.length<=504) :
  aM (put (lay (wr x (low x-s.length) s) i (low x-s.length) s.length) 2 (low x-s.length)) (l.set i s):=by
 have hf:=h.few;have hsz:=h.size;have hl2:=h.oz;have hs0:0<s.length:=List.length_pos_iff.2 hs;generalize ha:low x-s.length=a;have hax:a+s.length<=x.length:=by omega
 have hw:(wr x a s).length=x.length:=iW _ _ _ hax;have hb:4+4*i+3<(wr x a s).length:=by omega
 have hb2:2+1<(lay (wr x a s) i a s.length).length:=by rw[bU];omega
 have hlow:low (put (lay (wr x a s) i a s.length) 2 a)=a:=dh _ _ _ hb2 (by omega)
 have vB:pos (put (lay (wr x a s) i a s.length) 2 a) i=a:=by
  show two _ _=_;rw[aR _ _ _ _ hb2 (by omega)];exact Nw _ _ _ _ hb (by omega)
 have KD:ext (put (lay (wr x a s) i a s.length) 2 a) i=s.length:=by
  show two _ _=_;rw[aR _ _ _ _ hb2 (by omega)];exact Ny _ _ _ _ hb (by omega)
 have hpos:∀j,j≠i->j<l.length->pos (put (lay (wr x a s) i a s.length) 2 a) j=pos x j:=λ j hj hjl=>by
  show two _ _=_;rw[aR _ _ _ _ hb2 (by omega)];show pos _ _=_;rw[D8 _ _ _ _ _ hb hj];exact Au _ _ _ hax _ (by omega)
 have nQ:∀j,j≠i->j<l.length->ext (put (lay (wr x a s) i a s.length) 2 a) j=ext x j:=λ j hj hjl=>by
  show two _ _=_;rw[aR _ _ _ _ hb2 (by omega)];show ext _ _=_;rw[KC _ _ _ _ _ hb hj];exact Au _ _ _ hax _ (by omega)
 have hrec:∀j,aW (l.set i s) j=if j=i then s else aW l j:=λ j=>by
  rw[eQ];by_cases hj:j=i
  ·rw[if_pos ⟨hj.symm,hi⟩,if_pos hj]
  rw[if_neg (by omega),if_neg hj]
 have KE:∀k,4+4*l.length<=k->nth (put (lay (wr x a s) i a s.length) 2 a) k=nth (wr x a s) k:=λ k hk=>by
  rw[eU _ _ _ _ hb2 (by omega),N7 _ _ _ _ _ hb (by omega)]
 have hts:=mW l i s hi;refine⟨by rw[aH,bU,hw];exact hsz,?_,?_,?_,?_,?_,?_,?_,?_,?_⟩
 ·rw[aR _ _ _ _ hb2 (by omega),Fs _ _ _ _ _ hb (by omega),Au _ _ _ hax _ (by omega),aQ];exact h.len
 ·rw[hlow,aQ];omega
 ·rw[hlow];omega
 ·intro hn;have:(l.set i s).length=0:=by rw[hn];rfl
  rw[aQ]at this;omega
 ·intro j hj hj0;rw[aQ]at hj;rw[hrec]at hj0;by_cases hji:j=i
  ·rw[if_pos hji]at hj0;exact absurd hj0 hs
  rw[if_neg hji]at hj0;rw[hpos j hji hj,nQ j hji hj];exact h.hole j hj hj0
 ·intro j hj eO;rw[aQ]at hj;rw[hrec]at eO ⊢;rw[hlow];by_cases hji:j=i
  ·subst hji;rw[if_pos rfl,vB,KD];exact⟨aO _,by omega,rfl⟩
  rw[if_neg hji]at eO ⊢;rw[hpos j hji hj,nQ j hji hj];have:=h.there j hj eO;exact⟨by omega,this.2⟩
 ·intro j hj k hk;rw[aQ]at hj;rw[hrec]at hk ⊢;by_cases hji:j=i
  ·subst hji;rw[if_pos rfl]at hk ⊢;rw[vB,KE _ (by omega),jq _ _ _ hax,if_pos (by omega),qJ]
  rw[if_neg hji]at hk ⊢;have ht:=h.there j hj (by intro hz;rw[hz]at hk;simp at hk);rw[hpos j hji hj,KE _ (by omega),jq _ _ _ hax,if_neg (by omega)];exact h.bytes j hj k hk
 ·intro j k hj hk hjk eO hkne;rw[aQ]at hj hk;rw[hrec]at eO hkne ⊢;rw[hrec k];by_cases hji:j=i
  ·have hki:k≠i:=by omega
   rw[if_neg hki]at hkne ⊢;subst hji;rw[if_pos rfl,vB,hpos k hki hk];have:=h.there k hk hkne;omega
  rw[if_neg hji]at eO ⊢;rw[hpos j hji hj];have:=h.there j hj eO;by_cases hki:k=i
  ·subst hki;rw[if_pos rfl,vB];omega
  rw[if_neg hki]at hkne ⊢;rw[hpos k hki hk];exact h.apart j k hj hk hjk eO hkne
 rw[aQ];rw[h0]at hts;simp at hts;omega
end aM
structure iA(x:List UInt8)(l:List (List UInt8))(k:Nat)(z:List UInt8):Prop where
 length:z.length=x.length
 len:two z 0=l.length
 later:∀i,k<=i->i<l.length->pos z i=pos x i/\ext z i=ext x i
 hole:∀i,i<k->i<l.length->aW l i=[]->pos z i=0/\ext z i=0
 there:∀i,i<k->i<l.length->aW l i≠[]->pos z i=504-total (l.take (i+1))/\ext z i=(aW l i).length
 bytes:∀i,i<k->i<l.length->∀j,j<(aW l i).length->nth z (504-total (l.take (i+1))+j)=nth (aW l i) j
namespace iA
variable{x:List UInt8}{l:List (List UInt8)}{k:Nat}{z:List UInt8}
theorem start(h:aM x l):iA x l 0 x:=
 ⟨rfl,h.len,λ _ _ _=>⟨rfl,rfl⟩,λ _ hi=>absurd hi (jO _),λ _ hi=>absurd hi (jO _),λ _ hi=>absurd hi (jO _)⟩
theorem skip(p:iA x l k z)(h:aM x l)(hk:k<l.length)(h0:aW l k=[]):iA x l (k+1) z:=by
 refine⟨p.length,p.len,λ i hi hl=>p.later i (by omega) hl,λ i hi hl hz=>?_,λ i hi hl hz=>?_,λ i hi hl j hj=>?_⟩
 ·by_cases hik:i<k
  ·exact p.hole i hik hl hz
  obtain rfl:i=k:=by omega
  have:=p.later i (aO _) hl;rw[this.1,this.2];exact h.hole i hl h0
 ·have hik:i≠k:=λ e=>hz (by rw[e];exact h0);exact p.there i (by omega) hl hz
 refine p.bytes i ?_ hl j hj;by_cases hik:i=k
 ·subst hik;rw[h0]at hj;simp at hj
 omega
theorem step(p:iA x l k z)(h:aM x l)(hk:k<l.length)(h0:aW l k≠[]) :
  iA x l (k+1) (lay (wr z (504-total (l.take (k+1))) (aW l k)) k (504-total (l.take (k+1))) (aW l k).length):=by
 have hf:=h.few;have hsz:=h.size;have hsum:=h.sum;have htk:=cK l k hk;have htl:=dm l (k+1);have hs0:0<(aW l k).length:=List.length_pos_iff.2 h0;generalize ha:504-total (l.take (k+1))=a;generalize hs:aW l k=s at *;have hax:a+s.length<=z.length:=by rw[p.length];omega
 have hw:(wr z a s).length=x.length:=by rw[iW _ _ _ hax,p.length]
 have hb:4+4*k+3<(wr z a s).length:=by omega
 have hpos:∀j,j≠k->j<l.length->pos (lay (wr z a s) k a s.length) j=pos z j:=λ j hj hjl=>by
  rw[D8 _ _ _ _ _ hb hj];exact Au _ _ _ hax _ (by omega)
 have nQ:∀j,j≠k->j<l.length->ext (lay (wr z a s) k a s.length) j=ext z j:=λ j hj hjl=>by
  rw[KC _ _ _ _ _ hb hj];exact Au _ _ _ hax _ (by omega)
 refine⟨by rw[bU,hw],?_,λ i hi hl=>?_,λ i hi hl hz=>?_,λ i hi hl hz=>?_,λ i hi hl j hj=>?_⟩
 ·rw[Fs _ _ _ _ _ hb (by omega),Au _ _ _ hax _ (by omega)];exact p.len
 ·rw[hpos i (by omega) hl,nQ i (by omega) hl];exact p.later i (by omega) hl
 ·have hik:i≠k:=λ e=>h0 (by rw[<-hs,<-e];exact hz);rw[hpos i hik hl,nQ i hik hl];exact p.hole i (by omega) hl hz
 ·by_cases hik:i=k
  ·subst hik;rw[Nw _ _ _ _ hb (by omega),Ny _ _ _ _ hb (by omega),hs];exact⟨ha.symm,rfl⟩
  rw[hpos i hik hl,nQ i hik hl];exact p.there i (by omega) hl hz
 have aam:=dm l (i+1);have hil:=cK l i hl;rw[N7 _ _ _ _ _ hb (by omega),jq _ _ _ hax];by_cases hik:i=k
 ·subst hik;rw[ha,if_pos (by rw[hs]at hj;omega),qJ,hs]
 have hmono:total (l.take (i+1))+s.length<=total (l.take (k+1)):=by
  have e1:l.take (i+1)=(l.take k).take (i+1):=by rw[kL,gH (by omega)]
  have:=dm (l.take k) (i+1);rw[<-e1]at this;omega
 rw[if_neg (by omega)];exact p.bytes i (by omega) hl j hj
theorem done(p:iA x l l.length z)(h:aM x l):aM (wr (put z 2 (504-total l)) (4+4*l.length) (List.replicate (504-total l-(4+4*l.length)) 0)) l/\low (wr (put z 2 (504-total l)) (4+4*l.length) (List.replicate (504-total l-(4+4*l.length)) 0))=504-total l:=by
 have hf:=h.few;have hsz:=h.size;have hsum:=h.sum;have hp2:2+1<z.length:=by rw[p.length];omega
 generalize hn:504-total l-(4+4*l.length)=n;have hax:4+4*l.length+(List.replicate n (0:UInt8)).length<=(put z 2 (504-total l)).length:=by rw[aH,p.length,gY];omega
 have hrl:(List.replicate n (0:UInt8)).length=n:=gY
 have hlow:low (wr (put z 2 (504-total l)) (4+4*l.length) (List.replicate n 0))=504-total l:=by
  show two _ _=_;rw[Au _ _ _ hax _ (by omega),dh _ _ _ hp2 (by omega)]
 have hpos:∀j,j<l.length->pos (wr (put z 2 (504-total l)) (4+4*l.length) (List.replicate n 0)) j=pos z j:=λ j hj=>by
  show two _ _=_;rw[Au _ _ _ hax _ (by omega),aR _ _ _ _ hp2 (by omega)];rfl
 have nQ:∀j,j<l.length->ext (wr (put z 2 (504-total l)) (4+4*l.length) (List.replicate n 0)) j=ext z j:=λ j hj=>by
  show two _ _=_;rw[Au _ _ _ hax _ (by omega),aR _ _ _ _ hp2 (by omega)];rfl
 have hpl:∀i,i<l.length->aW l i≠[]->pos z i+(aW l i).length<=504/\504-total l<=pos z i/\pos z i+total (l.take (i+1))=504:=λ i hi hne=>by
  have h1:=(p.there i hi hi hne).1;have h2:=cK l i hi;have h3:=dm l (i+1);omega
 refine⟨⟨?_,?_,?_,?_,?_,?_,?_,?_,?_,hsum⟩,hlow⟩
 ·rw[iW _ _ _ hax,aH,p.length];exact hsz
 ·rw[Au _ _ _ hax _ (by omega),aR _ _ _ _ hp2 (by omega)];exact p.len
 ·rw[hlow];omega
 ·rw[hlow];omega
 ·intro hnil;rw[hlow,hnil];simp[total]
 ·intro i hi hz;rw[hpos i hi,nQ i hi];exact p.hole i hi hi hz
 ·intro i hi hne;have h1:=hpl i hi hne;rw[hlow,hpos i hi,nQ i hi];exact⟨h1.2.1,h1.1,(p.there i hi hi hne).2⟩
 ·intro i hi j hj;have hne:aW l i≠[]:=by intro hz;rw[hz]at hj;simp at hj
  have h1:=hpl i hi hne;rw[hpos i hi,jq _ _ _ hax,if_neg (by omega),eU _ _ _ _ hp2 (by omega),(p.there i hi hi hne).1];exact p.bytes i hi hi j hj
 intro i j hi hj hij wu eO;have h1:=hpl i hi wu;have h2:=hpl j hj eO;rw[hpos i hi,hpos j hj]
 have hmono:∀a b,a<b->b<l.length->total (l.take (a+1))+(aW l b).length<=total (l.take (b+1)):=λ a b hab hb=>by
  have e1:l.take (a+1)=(l.take b).take (a+1):=by rw[kL,gH (by omega)]
  have h3:=dm (l.take b) (a+1);rw[<-e1]at h3;have:=cK l b hb;omega
 rcases xii i j with hlt|hge
 ·have:=hmono i j hlt hj;omega
 have:=hmono j i (by omega) hi;omega
end iA
end Go.Proofs.YtgpmiliahonaoaaGreatDoor.SR
namespace Go.Proofs.YtgpmiliahonaoaaGreatDoor.SL
open Go.RowKit
open UK (str aF nth Only)
open Go.BigFrame
theorem yb3(p q:UInt8):bits .or .i64 (p.toNat:Int) ((q.toNat:Int)*256)=((p.toNat+256*q.toNat:Nat):Int):=by
 have hp:=p.toNat_lt;have hq:=q.toNat_lt;show IntKind.i64.wrap ((BitVec.ofInt 64 (p.toNat:Int) ||| BitVec.ofInt 64 ((q.toNat:Int)*256)).toNat:Int)=_;rw[show((q.toNat:Int)*256)=((q.toNat*256:Nat):Int) by omega,BitVec.ofInt_natCast,BitVec.ofInt_natCast,BitVec.toNat_or,BitVec.toNat_ofNat,BitVec.toNat_ofNat,wV (by omega),wV (by omega),dJ,Nat.or_comm,nat_join 8 _ _ (by omega) (by omega)];omega
def b8(n:Nat):UInt8:=UInt8.ofNat n
theorem yai{k:IntKind}{a b:Int}(h:a=b):Ending.returned (.int k a)= .returned (.int k b):=by rw[h]
theorem Xa(p:UInt8):wrap64 (p.toNat:Int)=(p.toNat:Int):=by
 have hp:=p.toNat_lt;unfold wrap64;omega
theorem yaj(p q:UInt8):bits .or .i64 (wrap64 (p.toNat:Int)) (wrap64 (wrap64 (q.toNat:Int)*256))=((p.toNat+256*q.toNat:Nat):Int):=by
 have hq:=q.toNat_lt;have e:wrap64 ((q.toNat:Int)*256)=(q.toNat:Int)*256:=by unfold wrap64;omega
 rw[Xa,Xa,e,yb3]
theorem Nt(B:Nat)(x:List UInt8)(c:Nat)(a:Int)(W:World)(h:aF W B x)(hn:504<=x.length)(ha0:0<=a)(ha:a+1<504) :
  Calls Tryz.prog 260 #[.slice B 504 c,.int .i64 a] W λ e w'=>e= .returned (.int .i64 (SR.two x a.toNat:Nat))/\∃k,w'=W.drewN k:=by
 obtain⟨a,rfl⟩:=Int.eq_ofNat_of_zero_le ha0;rw[Int.toNat_natCast];have h0:=h.cell (i:=a) (by omega);have h1:=h.cell (i:=a+1) (by omega);have h2:(a:Int)<504:=by omega
 have h3:(a:Int)+1<504:=by omega
 have h4:IntKind.i64.wrap ((a:Int)+1)=(a:Int)+1:=IntWalk.i64_in _ (by omega);have h5:(0:Int)<=(a:Int)+1:=by omega
 have h6:((a:Int)+1).toNat=a+1:=by omega
 go_enter Tryz.func260,Tryz.ntmps260
 go_wp2
 go_quiet (fail)
 go_wp2;go_ret
 exact⟨yai (yaj _ _),_,rfl⟩
theorem dQ(B:Nat)(x:List UInt8)(c:Nat)(a m:Int)(W:World)(h:aF W B x)(hn:504<=x.length)(ha0:0<=a)(ha:a+1<504)(hm0:0<=m)(hm:m<65536) :
  Calls Tryz.prog 224 #[.slice B 504 c,.int .i64 a,.int .i64 m] W λ e w'=>e= .returned (.tuple #[])/\aF w' B (SR.put x a.toNat m.toNat)/\Only B W w':=by
 obtain⟨a,rfl⟩:=Int.eq_ofNat_of_zero_le ha0;obtain⟨m,rfl⟩:=Int.eq_ofNat_of_zero_le hm0;rw[Int.toNat_natCast,Int.toNat_natCast];have h0:=h.cell (i:=a) (by omega);have h1:=h.cell (i:=a+1) (by omega);have f0:=h.free (i:=a) (by omega);have f1:=h.free (i:=a+1) (by omega);have h2:(a:Int)<504:=by omega
 have h3:(a:Int)+1<504:=by omega
 have h4:((m:Int)%256)=((b8 m).toNat:Int):=by simp[b8]
 have h5:((m:Int)/256)=((b8 (m/256)).toNat:Int):=by simp[b8];omega
 have HS:=zH ((h.set a (b8 m)).set (a+1) (b8 (m/256)));have HO:=zH (((Only.refl B W).set a (.int .u8 ((b8 m).toNat:Int))).set (a+1) (.int .u8 ((b8 (m/256)).toNat:Int)))
 go_enter Tryz.func224,Tryz.ntmps224
 go_wp2
 go_end0
 exact⟨rfl,HS.out,HO.out⟩
theorem WS(B:Nat)(x:List UInt8)(c:Nat)(W:World)(h:aF W B x)(hn:504<=x.length) :
  Calls Tryz.prog 222 #[.slice B 504 c] W λ e w'=>e= .returned (.int .i64 (SR.two x 0:Nat))/\∃k,w'=W.drewN k:=by
 go_enter Tryz.func222,Tryz.ntmps222
 go_wp2_with fail
 refine(Nt B x c _ W h hn (by omega) (by omega)).mono ?_;rintro e w' ⟨rfl,k,rfl⟩;go_wp2;go_ret;exact⟨rfl,_,rfl⟩
theorem Aq(B:Nat)(x:List UInt8)(c:Nat)(W:World)(h:aF W B x)(hn:504<=x.length) :
  Calls Tryz.prog 231 #[.slice B 504 c] W λ e w'=>e= .returned (.int .i64 (SR.low x:Nat))/\∃k,w'=W.drewN k:=by
 go_enter Tryz.func231,Tryz.ntmps231
 go_wp2_with fail
 refine(Nt B x c _ W h hn (by omega) (by omega)).mono ?_;rintro e w' ⟨rfl,k,rfl⟩;go_wp2;go_ret;exact⟨rfl,_,rfl⟩
theorem QS(B:Nat)(x:List UInt8)(c:Nat)(i:Int)(W:World)(h:aF W B x)(hn:504<=x.length)(hi0:0<=i)(hi:4+4*i+3<504) :
  Calls Tryz.prog 223 #[.slice B 504 c,.int .i64 i] W λ e w'=>e= .returned (.tuple #[.int .i64 (SR.pos x i.toNat:Nat),.int .i64 (SR.ext x i.toNat:Nat)])/\∃k,w'=W.drewN k:=by
 obtain⟨i,rfl⟩:=Int.eq_ofNat_of_zero_le hi0;rw[Int.toNat_natCast]
 go_enter Tryz.func223,Tryz.ntmps223
 go_wp2_with fail
 refine(Nt B x c _ W h hn (by omega) (by omega)).mono ?_;rintro e w' ⟨rfl,k1,rfl⟩
 go_wp2_with fail
 refine(Nt B x c _ _ (h.drewN k1) hn (by omega) (by omega)).mono ?_;rintro e w' ⟨rfl,k2,rfl⟩;rw[show(4+4*(i:Int)).toNat=4+4*i by omega,show(4+4*(i:Int)+2).toNat=4+4*i+2 by omega];go_wp2;go_ret2;exact⟨rfl,_,rfl⟩
theorem gP(B:Nat)(x:List UInt8)(c:Nat)(i a n:Int)(W:World)(h:aF W B x)(hn:504<=x.length)(hi0:0<=i)(hi:4+4*i+3<504)(ha0:0<=a)(ha:a<65536)(hn0:0<=n)(bi:n<65536) :
  Calls Tryz.prog 221 #[.slice B 504 c,.int .i64 i,.int .i64 a,.int .i64 n] W λ e w'=>e= .returned (.tuple #[])/\aF w' B (SR.lay x i.toNat a.toNat n.toNat)/\Only B W w':=by
 obtain⟨i,rfl⟩:=Int.eq_ofNat_of_zero_le hi0;rw[Int.toNat_natCast]
 go_enter Tryz.func221,Tryz.ntmps221
 go_wp2_with fail
 refine(dQ B x c _ _ W h hn (by omega) (by omega) ha0 ha).mono ?_;rintro e w1 ⟨rfl,h1,o1⟩
 go_wp2_with fail
 refine(dQ B _ c _ _ w1 h1 (by rw[SR.aH];exact hn) (by omega) (by omega) hn0 bi).mono ?_;rintro e w2 ⟨rfl,h2,o2⟩;rw[show(4+4*(i:Int)).toNat=4+4*i by omega,show(4+4*(i:Int)+2).toNat=4+4*i+2 by omega]at h2;go_wp2
 go_end0
 exact⟨rfl,h2,o1.trans o2⟩
open SR (aM aW total)
def live:List (List UInt8)->Nat
 | []=>0
 | s::l=>(if s=[] then 0 else 1)+live l
theorem nD(l m:List (List UInt8)):live (l++m)=live l+live m:=by
 induction l with
 | nil=>simp[live]
 | cons s l ih=>simp[live,ih];omega
theorem xux(l:List (List UInt8))(k:Nat)(h:k<l.length):live (l.take (k+1))=live (l.take k)+if aW l k=[] then 0 else 1:=by
 rw[List.take_succ_eq_append_getElem h,nD];simp[live,aW,h]
theorem yak(l:List (List UInt8)):live l<=l.length:=by
 induction l with
 | nil=>simp[live]
 | cons s l ih=>simp only[live,dn];split<;>omega
def hole:List (List UInt8)->Nat
 | []=>0
 | s::l=>if s=[] then 0 else hole l+1
theorem nV(l:List (List UInt8)):hole l<=l.length:=by
 induction l with
 | nil=>simp[hole]
 | cons s l ih=>simp only[hole,dn];split<;>omega
theorem Xb(l:List (List UInt8))(k:Nat)(hk:k<=l.length)(h:∀j,j<k->aW l j≠[])(h0:k<l.length->aW l k=[]):hole l=k:=by
 induction l generalizing k with
 | nil=>simp at hk;subst hk;rfl
 | cons s l ih=>
  cases k with
  | zero=>
   have:s=[]:=h0 (by simp);simp[hole,this]
  | succ k=>
   have hs:s≠[]:=h 0 (by omega);simp only[hole,if_neg hs];rw[ih k (by simpa using hk) (λ j hj=>h (j+1) (by omega)) (λ hl=>h0 (by simpa using hl))]
theorem qx(l:List (List UInt8)):(∀j,j<hole l->aW l j≠[])/\(hole l<l.length->aW l (hole l)=[]):=by
 induction l with
 | nil=>simp[hole]
 | cons s l ih=>
  by_cases hs:s=[]
  ·simp[hole,hs,aW]
  simp only[hole,if_neg hs,dn];refine⟨λ j hj=>?_,λ h=>ih.2 (by omega)⟩
  cases j with
  | zero=>exact hs
  | succ j=>exact ih.1 j (by omega)
def room(l:List (List UInt8)):Int:=500-4*l.length-total l-(if hole l=l.length then 4 else 0)
theorem Ho(B:Nat)(x:List UInt8)(l:List (List UInt8))(c i:Nat)(W:World)(h:aF W B x)(r:aM x l)(hi:i<l.length)(h0:aW l i=[]) :
  Calls Tryz.prog 223 #[.slice B 504 c,.int .i64 i] W λ e w'=>e= .returned (.tuple #[.int .i64 0,.int .i64 0])/\∃k,w'=W.drewN k:=by
 have hf:=r.few;have:=QS B x c i W h r.size (by omega) (by omega);rw[Int.toNat_natCast,(r.hole i hi h0).1,(r.hole i hi h0).2]at this;exact this
theorem Cf(B:Nat)(x:List UInt8)(l:List (List UInt8))(c i:Nat)(W:World)(h:aF W B x)(r:aM x l)(hi:i<l.length) :
  Calls Tryz.prog 223 #[.slice B 504 c,.int .i64 i] W λ e w'=>e= .returned (.tuple #[.int .i64 (SR.pos x i:Nat),.int .i64 ((aW l i).length:Nat)])/\∃k,w'=W.drewN k:=by
 have hf:=r.few;have:=QS B x c i W h r.size (by omega) (by omega);rw[Int.toNat_natCast,r.zq hi]at this;exact this
theorem pO(B:Nat)(x:List UInt8)(l:List (List UInt8))(c:Nat)(W:World)(h:aF W B x)(r:aM x l) :
  Calls Tryz.prog 222 #[.slice B 504 c] W λ e w'=>e= .returned (.int .i64 l.length)/\∃k,w'=W.drewN k:=by
 have:=WS B x c W h r.size
 rwa [r.len]at this
theorem yV(B:Nat)(x:List UInt8)(l:List (List UInt8))(c:Nat)(W:World)(h:aF W B x)(r:aM x l) :
  Calls Tryz.prog 172 #[.slice B 504 c] W λ e w'=>e= .returned (.int .i64 (live l:Nat))/\Below W W w':=by
 have hf:=r.few
 go_enter Tryz.func172,Tryz.ntmps172
 go_wp2_with fail
 refine(pO B x l c W h r).mono ?_;rintro e w' ⟨rfl,k0,rfl⟩
 go_wp2_with fail
 go_loopw [3,9] (λ n i wr=>∃k:Nat,k<=l.length/\i= .int .i64 k/\n= .int .i64 (live (l.take k):Nat)/\Below W W wr) (λ _ i _=>l.length-(intOf i).toNat)
 case atStart=>exact⟨0,aY _,rfl,rfl,UK.dK (aV _ _) _⟩
 obtain⟨k,hk,rfl,rfl,hb⟩:=hrel;have ig:=h.below hb h.lt;by_cases hlt:k<l.length
 ·have hle:=yak (l.take k);rw[zt]at hle;have HT:=zH (xux l k hlt);by_cases h0:aW l k=[]
  ·have HT2:Hid (live (l.take (k+1))=live (l.take k)):=by show _=_;rw[HT.out,if_pos h0];rfl
   go_wp2_with fail
   refine(Ho B x l c k _ ig r hlt h0).mono ?_;rintro e w' ⟨rfl,k1,rfl⟩;clear h0;go_wp2;go_roundw
   case rel=>exact⟨k+1,by omega,by go_num,by rw[HT2.out],UK.dK hb _⟩
   case measure=>simp[intOf];omega
  have HT2:Hid (live (l.take (k+1))=live (l.take k)+1):=by show _=_;rw[HT.out,if_neg h0]
  have hp:=(r.there k hlt h0).1;have hl1:=r.mQ;have hp0:0<SR.pos x k:=by omega
  clear hp
  go_wp2_with fail
  refine(Cf B x l c k _ ig r hlt).mono ?_;rintro e w' ⟨rfl,k1,rfl⟩;clear h0;go_wp2;go_roundw
  case rel=>exact⟨k+1,by omega,by go_num,by rw[HT2.out];go_num,UK.dK hb _⟩
  case measure=>simp[intOf];omega
 go_wp2;go_ret
 exact⟨by rw[fO (by omega)]<;>rfl,hb⟩
theorem QV(B:Nat)(x:List UInt8)(l:List (List UInt8))(c:Nat)(W:World)(h:aF W B x)(r:aM x l) :
  Calls Tryz.prog 234 #[.slice B 504 c] W λ e w'=>e= .returned (.int .i64 (total l:Nat))/\Below W W w':=by
 have hf:=r.few;have hsum:=r.sum
 go_enter Tryz.func234,Tryz.ntmps234
 go_wp2_with fail
 refine(pO B x l c W h r).mono ?_;rintro e w' ⟨rfl,k0,rfl⟩
 go_wp2_with fail
 go_loopw [3,9] (λ n i wr=>∃k:Nat,k<=l.length/\i= .int .i64 k/\n= .int .i64 (total (l.take k):Nat)/\Below W W wr) (λ _ i _=>l.length-(intOf i).toNat)
 case atStart=>exact⟨0,aY _,rfl,rfl,UK.dK (aV _ _) _⟩
 obtain⟨k,hk,rfl,rfl,hb⟩:=hrel;have ig:=h.below hb h.lt;by_cases hlt:k<l.length
 ·have hle:=SR.dm l k;have hle2:=SR.iQ l k;have HT:=zH (SR.cK l k hlt);by_cases h0:aW l k=[]
  ·have HT2:Hid (total (l.take (k+1))=total (l.take k)):=by show _=_;rw[HT.out,h0];rfl
   go_wp2_with fail
   refine(Ho B x l c k _ ig r hlt h0).mono ?_;rintro e w' ⟨rfl,k1,rfl⟩;clear h0;go_wp2;go_roundw
   case rel=>exact⟨k+1,by omega,by go_num,by rw[HT2.out],UK.dK hb _⟩
   case measure=>simp[intOf];omega
  have hp:=(r.there k hlt h0).1;have hl1:=r.mQ;have hp0:0<SR.pos x k:=by omega
  clear hp
  go_wp2_with fail
  refine(Cf B x l c k _ ig r hlt).mono ?_;rintro e w' ⟨rfl,k1,rfl⟩;clear h0;go_wp2;go_roundw
  case rel=>exact⟨k+1,by omega,by go_num,by rw[HT.out];go_num,UK.dK hb _⟩
  case measure=>simp[intOf];omega
 go_wp2;go_ret
 exact⟨by rw[fO (by omega)]<;>rfl,hb⟩
theorem Ns(B:Nat)(x:List UInt8)(l:List (List UInt8))(c:Nat)(W:World)(h:aF W B x)(r:aM x l) :
  Calls Tryz.prog 230 #[.slice B 504 c] W λ e w'=>e= .returned (.int .i64 (hole l:Nat))/\Below W W w':=by
 have hf:=r.few
 go_enter Tryz.func230,Tryz.ntmps230
 go_wp2_with fail
 refine(pO B x l c W h r).mono ?_;rintro e w' ⟨rfl,k0,rfl⟩
 go_wp2_with fail
 go_loopw [8] (λ i wr=>∃k:Nat,k<=l.length/\i= .int .i64 k/\Hid (∀j,j<k->aW l j≠[])/\Below W W wr) (λ i _=>l.length-(intOf i).toNat)
 case atStart=>exact⟨0,aY _,rfl,λ j hj=>absurd hj (jO _),UK.dK (aV _ _) _⟩
 obtain⟨k,hk,rfl,HJ,hb⟩:=hrel;have ig:=h.below hb h.lt;by_cases hlt:k<l.length
 ·by_cases h0:aW l k=[]
  ·have HH:=zH (Xb l k hk HJ.out (λ _=>h0))
   go_wp2_with fail
   refine(Ho B x l c k _ ig r hlt h0).mono ?_;rintro e w' ⟨rfl,k1,rfl⟩;clear h0;go_wp2;go_ret;exact⟨by rw[HH.out]<;>rfl,UK.dK hb _⟩
  have HJ2:Hid (∀j,j<k+1->aW l j≠[]):=λ j hj=>by
   by_cases hjk:j=k
   ·rw[hjk];exact h0
   exact HJ.out j (by omega)
  have hp:=(r.there k hlt h0).1;have hl1:=r.mQ;have hp0:0<SR.pos x k:=by omega
  have hp1:((SR.pos x k:Int)==0)=false:=by rw[beq_eq_false_iff_ne];omega
  clear hp
  go_wp2_with fail
  refine(Cf B x l c k _ ig r hlt).mono ?_;rintro e w' ⟨rfl,k1,rfl⟩;clear h0;go_wp2;go_roundw
  case rel=>exact⟨k+1,by omega,by go_num,HJ2,UK.dK hb _⟩
  case measure=>simp[intOf];omega
 have HH:=zH (Xb l k hk HJ.out (λ h=>absurd h hlt));have hkl:k=l.length:=by omega
 have HK:=zH hkl;clear hkl
 go_wp2_with fail
 refine(pO B x l c _ ig r).mono ?_;rintro e w' ⟨rfl,k1,rfl⟩;go_wp2;go_ret;exact⟨by rw[HH.out,HK.out]<;>rfl,UK.dK hb _⟩
theorem fu(B:Nat)(x:List UInt8)(l:List (List UInt8))(c:Nat)(W:World)(h:aF W B x)(r:aM x l) :
  Calls Tryz.prog 229 #[.slice B 504 c] W λ e w'=>e= .returned (.int .i64 (room l))/\Below W W w':=by
 have hf:=r.few;have hsum:=r.sum
 go_enter Tryz.func229,Tryz.ntmps229
 go_wp2_with fail
 refine(pO B x l c W h r).mono ?_;rintro e w' ⟨rfl,k0,rfl⟩;have b1:Below W W (W.drewN k0):=UK.dK (aV _ _) k0;generalize W.drewN k0=w1 at b1 ⊢;have ig:=h.below b1 h.lt
 go_wp2_with fail
 refine(QV B x l c w1 ig r).mono ?_;rintro e w2 ⟨rfl,b2⟩;have b12:=b1.trans (b2.mono b1.size);have QW:=h.below b12 h.lt
 go_wp2_with fail
 refine(Ns B x l c w2 QW r).mono ?_;rintro e w3 ⟨rfl,b3⟩;have b13:=b12.trans (b3.mono b12.size);have QX:=h.below b13 h.lt
 go_wp2_with fail
 refine(pO B x l c w3 QX r).mono ?_;rintro e w' ⟨rfl,k4,rfl⟩;by_cases hh:hole l=l.length
 ·have HR:Hid (room l=500-4*l.length-total l-4):=by show _=_;unfold room;rw[if_pos hh]
  rw[hh];clear hh;go_wp2;go_ret;exact⟨by rw[HR.out]<;>rfl,UK.dK b13 _⟩
 have HR:Hid (room l=500-4*l.length-total l):=by show _=_;unfold room;rw[if_neg hh];omega
 have hb:((hole l:Int)==(l.length:Int))=false:=by rw[beq_eq_false_iff_ne];omega
 clear hh;go_wp2;go_ret;exact⟨by rw[HR.out]<;>rfl,UK.dK b13 _⟩
def hasB(l:List (List UInt8))(i:Int):Bool:=decide (0<=i/\i<l.length/\aW l i.toNat≠[])
theorem kH(B:Nat)(x:List UInt8)(l:List (List UInt8))(c:Nat)(i:Int)(W:World)(h:aF W B x)(r:aM x l) :
  Calls Tryz.prog 220 #[.slice B 504 c,.int .i64 i] W λ e w'=>e= .returned (.bool (hasB l i))/\Below W W w':=by
 have hf:=r.few;by_cases h1:i<0
 ·have HB:Hid (hasB l i=false):=by show _=_;unfold hasB;simp;omega
  go_enter Tryz.func220,Tryz.ntmps220
  go_wp2;go_ret
  exact⟨by rw[HB.out]<;>rfl,aV _ _⟩
 obtain⟨i,rfl⟩:=Int.eq_ofNat_of_zero_le (by omega:0<=i);by_cases h2:i<l.length
 ·by_cases h0:aW l i=[]
  ·have HB:Hid (hasB l i=false):=by show _=_;unfold hasB;simp[h0]
   go_enter Tryz.func220,Tryz.ntmps220
   go_wp2_with fail
   refine(pO B x l c W h r).mono ?_;rintro e w' ⟨rfl,k0,rfl⟩
   go_wp2_with fail
   refine(Ho B x l c i _ (h.drewN k0) r h2 h0).mono ?_;rintro e w' ⟨rfl,k1,rfl⟩;clear h0;go_wp2;go_ret;exact⟨by rw[HB.out]<;>rfl,UK.dK (aV _ _) _⟩
  have HB:Hid (hasB l i=true):=by show _=_;unfold hasB;simp[h0,h2]
  have hp:=(r.there i h2 h0).1;have hl1:=r.mQ;have hp0:0<SR.pos x i:=by omega
  clear hp
  go_enter Tryz.func220,Tryz.ntmps220
  go_wp2_with fail
  refine(pO B x l c W h r).mono ?_;rintro e w' ⟨rfl,k0,rfl⟩
  go_wp2_with fail
  refine(Cf B x l c i _ (h.drewN k0) r h2).mono ?_;rintro e w' ⟨rfl,k1,rfl⟩;clear h0;go_wp2;go_ret;exact⟨by rw[HB.out]<;>rfl,UK.dK (aV _ _) _⟩
 have HB:Hid (hasB l i=false):=by show _=_;unfold hasB;simp;omega
 go_enter Tryz.func220,Tryz.ntmps220
 go_wp2_with fail
 refine(pO B x l c W h r).mono ?_;rintro e w' ⟨rfl,k0,rfl⟩;go_wp2;go_ret;exact⟨by rw[HB.out]<;>rfl,UK.dK (aV _ _) _⟩
theorem EW(B:Nat)(x:List UInt8)(l:List (List UInt8))(c:Nat)(i:Int)(W:World)(h:aF W B x)(r:aM x l)(hn:hasB l i=false) :
  Calls Tryz.prog 211 #[.slice B 504 c,.int .i64 i] W λ e w'=>e= .returned (.tuple #[.string (str []),.bool false])/\Below W W w':=by
 have h1:=λ W h=>kH B x l c i W h r;rw[hn]at h1;have H1:=zH h1;clear h1 hn
 go_enter Tryz.func211,Tryz.ntmps211
 go_wp2_with fail
 refine(H1.out W h).mono ?_;rintro e w' ⟨rfl,hb⟩;go_wp2;go_ret2;exact⟨rfl,hb⟩
theorem WR{x:List UInt8}{l:List (List UInt8)}(r:aM x l){i:Nat}(hi:i<l.length)(h0:aW l i≠[]):(x.drop (SR.pos x i)).take (aW l i).length=aW l i:=by
 have hsz:=r.size;have ht:=r.there i hi h0;apply List.ext_getElem?;intro k;rw[List.getElem?_take];by_cases hk:k<(aW l i).length
 ·rw[if_pos hk,eY];have hb:=r.bytes i hi k hk;unfold nth List.getD at hb;rw[bL (by omega:SR.pos x i+k<x.length),bL hk]at hb;rw[bL (by omega:SR.pos x i+k<x.length),bL hk]
  simpa using hb
 rw[if_neg hk,jo (by omega)]
theorem BS(B:Nat)(x:List UInt8)(l:List (List UInt8))(c:Nat)(hc:504<=c)(i:Nat)(W:World)(h:aF W B x)(r:aM x l)(hi:i<l.length)(h0:aW l i≠[]) :
  Calls Tryz.prog 211 #[.slice B 504 c,.int .i64 i] W λ e w'=>e= .returned (.tuple #[.string (str (aW l i)),.bool true])/\Below W W w':=by
 have hsz:=r.size;have h1:=λ W h=>kH B x l c i W h r;have hn:hasB l i=true:=by unfold hasB;simp[hi,h0]
 rw[hn]at h1;have H1:=zH h1;clear h1 hn;have ht:=r.there i hi h0;have hw:=WR r hi h0;have HW:=zH hw;clear hw;have hpc:SR.pos x i+(aW l i).length<=c:=by omega
 have WQ:SR.pos x i+(aW l i).length<=504:=ht.2.1;have hp0:0<(aW l i).length:=List.length_pos_iff.2 h0;have hne:¬c=SR.pos x i:=by omega
 have hpx:SR.pos x i+(aW l i).length<=x.length:=by omega
 have H0:=zH h0;clear ht h0
 go_enter Tryz.func211,Tryz.ntmps211
 go_wp2_with fail
 refine(H1.out W h).mono ?_;rintro e w1 ⟨rfl,hb⟩;have ig:=h.below hb h.lt
 go_wp2_with fail
 refine(Cf B x l c i _ ig r hi).mono ?_;rintro e w' ⟨rfl,k1,rfl⟩;have hcv:=UK.tY (P:=Tryz.prog) (src:=94) (dst:=9) Tryz.underlying94 Tryz.underlying5 Tryz.underlying9 (ig.drewN k1) (SR.pos x i) (aW l i).length (c-SR.pos x i) hpx;rw[HW.out]at hcv;go_wp2;go_ret2;exact⟨rfl,UK.dK hb _⟩
end Go.Proofs.YtgpmiliahonaoaaGreatDoor.SL
