/- Facts on rows of numbers on pages. -/
import Derived.Test.YtlipgbnnbefhjaaGreatDoorKTreeJc
import Derived.Deep.RegionHeld3
set_option maxRecDepth 100000
set_option maxHeartbeats 8000000
set_option linter.unusedSimpArgs false
namespace Go.Proofs.YtlipgbnnbefhjaaGreatDoor
section
variable{P:Program}{ops:Array Oper}{Q:Exit->Act->World->Prop}{md:Region.Mode}{S:World->Prop}{late:Nat->Bool}
def qR(P:Program)(md:Region.Mode)(ops:Array Oper)(Q:Exit->Act->World->Prop)(S:World->Prop)(late:Nat->Bool):Nat->Array Bool->Act->World->Prop
 | 0,listed,a,w=>Region.ready md ops listed=[]/\Q .normal a w
 | fuel+1,listed,a,w=>
  (Region.ready md ops listed=[]->Q .normal a w) /\
  ∀i∈Region.ready md ops listed,wpOp P ops Q i (λ a' w'=>(late i=false->S w')/\qR P md ops Q S late fuel (listed.setIfInBounds i true) a' w') a w
theorem NU:∀(fuel:Nat) (listed:Array Bool) (a:Act) (w:World),qR P md ops Q S late fuel listed a w->wpAny P md ops Q fuel listed a w
 | 0,_,_,_,h=>h
 | fuel+1,_,_,_,h=>⟨h.1,λ i hi=>wpOp_mono (λ a' w' h'=>NU fuel _ a' w' h'.2) (h.2 i hi)⟩
theorem xmt{i:Nat}{oi:Oper}{v:Value}(hi:ops[i]?=some oi)(hsel:∀(j:Nat) (o:Oper) cs b,ops[j]?=some o->o.op≠.select cs b)
  (hQ:∀c a w,Q (.panic c) (a.put oi.dst v) w->Q (.panic c) a w)
  (Kg:∀j oj,ops[j]?=some oj->late j=true->∃e∈oj.after,Region.binds md e=true/\e.on=i) :
  ∀(fuel:Nat) (listed:Array Bool) (a:Act) (w:World),
   (∀j oj,ops[j]?=some oj->j≠i->listed.getD j true=false->(∀e∈oj.after,Region.binds md e=true->e.on≠i)->oi.apart ops oj=true) ->
   i∈Region.ready md ops listed->YieldsIf P ops S oi v a->S w ->
   qR P md ops Q S late fuel (listed.setIfInBounds i true) (a.put oi.dst v) w->qR P md ops Q S late (fuel+1) listed a w:=by
 intro fuel
 induction fuel with
 | zero=>
  intro listed a w _ hr hy hS H;refine⟨λ h=>(by rw[h]at hr;cases hr),λ j hj=>?_⟩;by_cases hji:j=i
  ·subst hji;exact hy.wpOp hi hS ⟨λ _=>hS,H⟩
  have:=ready_mono hj hji;rw[H.1]at this
  cases this
 | succ fuel ih=>
  intro listed a w hfree hr hy hS H;refine⟨λ h=>(by rw[h]at hr;cases hr),λ j hj=>?_⟩;by_cases hji:j=i
  ·subst hji;exact hy.wpOp hi hS ⟨λ _=>hS,H⟩
  have h1:=H.2 j (ready_mono hj hji);obtain⟨hjun,oj,hoj,hall⟩:=mem_ready.1 hj
  have hnot:∀e∈oj.after,Region.binds md e=true->e.on≠i:=λ e he hb heq=>by
   have h1:=hall e he hb;have h0:=(mem_ready.1 hr).1;rw[heq]at h1;rcases Nat.lt_or_ge i listed.size with h'|h'
   ·simp[h']at h0 h1;rw[h0]at h1;cases h1
   simp[Array.getElem?_eq_none h']at h1
  have hnl:late j=false:=by
   cases hl:late j with
   | false=>rfl
   | true=>
    obtain⟨e,he,hb,heq⟩:=Kg j oj hoj hl;exact absurd heq (hnot e he hb)
  have h2:=wpOp_putIf hoj (hfree j oj hoj hji hjun hnot) (λ cs b=>hsel i oi cs b hi) (λ cs b=>hsel j oj cs b hoj) hQ hy h1
  have hfree':∀k ok,ops[k]?=some ok->k≠i->(listed.setIfInBounds j true).getD k true=false ->
    (∀e∈ok.after,Region.binds md e=true->e.on≠i)->oi.apart ops ok=true:=λ k ok hk hki hun hno=>by
   refine hfree k ok hk hki ?_ hno;by_cases hjk:j=k
   ·subst hjk;exact hjun
   rw[getD_set_ne true hjk]at hun;exact hun
  refine wpOp_mono (λ a' w' h3=>⟨h3.2.1,ih (listed.setIfInBounds j true) a' w' hfree' (ready_mono hr (eU hji)) h3.1 (h3.2.1 hnl) ?_⟩) h2;rw[Array.setIfInBounds_comm _ _ hji];exact h3.2.2
def NV(md:Region.Mode)(ops:Array Oper)(late:Nat->Bool)(i:Nat):Bool:=
 (List.range ops.size).all λ j=>!late j||match ops[j]? with
  | some o=>o.after.any λ e=>Region.binds md e&&e.on==i
  | none=>true
theorem xn7{i:Nat}(h:NV md ops late i=true):∀j oj,ops[j]?=some oj->late j=true->∃e∈oj.after,Region.binds md e=true/\e.on=i:=λ j oj hj hl=>by
 unfold NV at h
 have hlt:j<ops.size:=by
  rcases Nat.lt_or_ge j ops.size with h1|h1
  ·exact h1
  rw[Array.getElem?_eq_none h1]at hj;cases hj
 have:=List.all_eq_true.1 h j (rq.2 hlt);rw[hj,hl]at this;simp only[Bool.not_true,Bool.false_or]at this;obtain⟨e,he,hb⟩:=Array.any_eq_true'.1 this;rw[Bool.and_eq_true]at hb;exact⟨e,he,hb.1,by simpa using hb.2⟩
theorem QC{i:Nat}{oi:Oper}{v:Value}{fuel:Nat}{listed:Array Bool}{a:Act}{w:World}(hi:ops[i]?=some oi)
  (hs:Region.noSelect ops=true) (hf:Region.free md ops listed i=true) (hr:(Region.ready md ops listed).contains i=true) (hl:NV md ops late i=true)
  (hQ:∀c a w,Q (.panic c) (a.put oi.dst v) w->Q (.panic c) a w) (hS:S w) (hw:Region.wanted oi (yielded ops a.tmps)=true)
  (hy:∀w,S w->(execOp a.eval oi).run P w= .ok (.value v) w)
  (h:qR P md ops Q S late fuel (listed.setIfInBounds i true) (a.put oi.dst v) w):qR P md ops Q S late (fuel+1) listed a w:=
 xmt hi (Region.noSelect_spec hs) hQ (xn7 hl) fuel listed a w (Region.free_spec hi hf) (by simpa using hr) (Or.inl ⟨hw,hy⟩) hS h
theorem iR{listed:Array Bool}{a:Act}{w:World}(hr:Region.ready md ops listed=[])(h:Q .normal a w) :
  ∀fuel,qR P md ops Q S late fuel listed a w
 | 0=>⟨hr,h⟩
 | _+1=>⟨λ _=>h,by rw[hr];simp⟩
theorem WQ{i:Nat}{o:Oper}{fuel:Nat}{listed:Array Bool}{a:Act}{w:World}(hr:Region.ready md ops listed=[i])(ho:ops[i]?=some o)
  (h:∀K':Act->World->Prop,Shut (∀a w,(late i=false->S w)->qR P md ops Q S late fuel (listed.setIfInBounds i true) a w->K' a w)->if Region.wanted o (yielded ops a.tmps)=true then Oper.wp P o a w K' Q else K' (a.put o.dst undef) w) :
  qR P md ops Q S late (fuel+1) listed a w:=
 ⟨λ h0=>absurd (hr▸h0) (by simp),λ j hj=>by
  rw[hr]at hj;obtain rfl:j=i:=by simpa using hj
  exact wpOp_step ho (λ K' hK=>h K' (λ a w hS hW=>hK a w ⟨hS,hW⟩))⟩
theorem ru{i j:Nat}{o q:Oper}{fuel:Nat}{listed:Array Bool}{a:Act}{w:World}(hr:Region.ready md ops listed=[i,j])(ho:ops[i]?=some o)(hq:ops[j]?=some q)
  (h1:∀K':Act->World->Prop,Shut (∀a w,(late i=false->S w)->qR P md ops Q S late fuel (listed.setIfInBounds i true) a w->K' a w)->if Region.wanted o (yielded ops a.tmps)=true then Oper.wp P o a w K' Q else K' (a.put o.dst undef) w)
  (h2:∀K':Act->World->Prop,Shut (∀a w,(late j=false->S w)->qR P md ops Q S late fuel (listed.setIfInBounds j true) a w->K' a w)->if Region.wanted q (yielded ops a.tmps)=true then Oper.wp P q a w K' Q else K' (a.put q.dst undef) w) :
  qR P md ops Q S late (fuel+1) listed a w:=
 ⟨λ h0=>absurd (hr▸h0) (by simp),λ k hk=>by
  rw[hr]at hk;rcases aX.1 hk with rfl|hk
  ·exact wpOp_step ho (λ K' hK=>h1 K' (λ a w hS hW=>hK a w ⟨hS,hW⟩))
  obtain rfl:k=j:=by simpa using hk
  exact wpOp_step hq (λ K' hK=>h2 K' (λ a w hS hW=>hK a w ⟨hS,hW⟩))⟩
end
open Go.RowKit
section
variable{P:Program}{ops:Array Oper}{Q:Exit->Act->World->Prop}{S:World->Prop}{md:Region.Mode}{late:Nat->Bool}{oi:Oper}{v:Value}{fuel:Nat}{listed:Array Bool}{a a' a1:Act}{w w':World}
theorem zT(i:Nat)(h:wpAny P md ops Q fuel (listed.setIfInBounds i true) a' w)(hi:ops[i]?=some oi:=by exact rfl)
  (hy:∀w,(execOp a.eval oi).run P w= .ok (.value v) w:=by intro w;go_simp;try with_reducible rfl) (ha:a.put oi.dst v=a':=by (try simp only[Act.put,zS,z0,z1]);exact rfl)
  (hs:Region.noSelect ops=true:=by as_aux_lemma=>kernel_rfl) (hf:Region.free md ops listed i=true:=by as_aux_lemma=>kernel_rfl) (hr:(Region.ready md ops listed).contains i=true:=by as_aux_lemma=>kernel_rfl)
  (hQ:∀c a w,Q (.panic c) (a.put oi.dst v) w->Q (.panic c) a w:=by exact λ _ _ _ h=>h) (hw:Region.wanted oi (yielded ops a.tmps)=true:=by rfl):wpAny P md ops Q (fuel+1) listed a w:=
 wpAny_take hi hs hf hr hQ (Or.inl ⟨hw,hy⟩) (ha▸h)
theorem zU(i:Nat)(hS:S w)(h:qR P md ops Q S late fuel (listed.setIfInBounds i true) a' w)(hi:ops[i]?=some oi:=by exact rfl)
  (hy:∀w,S w->(execOp a.eval oi).run P w= .ok (.value v) w:=by intro w hSw;(try dsimp only at hSw);go_simp;try with_reducible rfl) (ha:a.put oi.dst v=a':=by (try simp only[Act.put,zS,z0,z1]);exact rfl)
  (hs:Region.noSelect ops=true:=by as_aux_lemma=>kernel_rfl) (hf:Region.free md ops listed i=true:=by as_aux_lemma=>kernel_rfl) (hr:(Region.ready md ops listed).contains i=true:=by as_aux_lemma=>kernel_rfl) (hl:NV md ops late i=true:=by as_aux_lemma=>kernel_rfl)
  (hQ:∀c a w,Q (.panic c) (a.put oi.dst v) w->Q (.panic c) a w:=by exact λ _ _ _ h=>h) (hw:Region.wanted oi (yielded ops a.tmps)=true:=by rfl):qR P md ops Q S late (fuel+1) listed a w:=
 QC hi hs hf hr hl hQ hS hw hy (ha▸h)
theorem zL(i:Nat)(h:∀K':Act->World->Prop,Shut (∀a w,(late i=false->S w)->qR P md ops Q S late fuel (listed.setIfInBounds i true) a w->K' a w)->if Region.wanted oi (yielded ops a.tmps)=true then Oper.wp P oi a w K' Q else K' (a.put oi.dst undef) w)(hr:Region.ready md ops listed=[i]:=by as_aux_lemma=>kernel_rfl)(ho:ops[i]?=some oi:=by exact rfl) :
  qR P md ops Q S late (fuel+1) listed a w:=
 WQ hr ho h
theorem zK{p:Prop}{K':Act->World->Prop}{R:World->Prop}(hK:Shut (∀a w,(p->R w)->qR P md ops Q S late fuel listed a w->K' a w))(h:qR P md ops Q S late fuel listed a' w)
  (hs:p->R w:=by first|exact λ _=>trivial|exact λ h=>absurd h (by decide)) (ha:a=a':=by (try simp only[Act.put,zS,z0,z1]);exact rfl):K' a w:=hK a w hs (ha▸h)
theorem zM(i:Nat)(h:qR P md ops Q S late fuel (listed.setIfInBounds i true) a' w')(hs:late i=false->S w':=by first|exact λ _=>trivial|exact λ h=>absurd h (by decide))(ho:ops[i]?=some oi:=by exact rfl)
  (hw:∀K:Act->World->Prop,K a1 w'->if Region.wanted oi (yielded ops a.tmps)=true then Oper.wp P oi a w K Q else K (a.put oi.dst undef) w:=by intro K;go_simp;exact id) (ha:a1=a':=by (try simp only[Act.put,zS,z0,z1]);exact rfl)
  (hr:Region.ready md ops listed=[i]:=by as_aux_lemma=>kernel_rfl):qR P md ops Q S late (fuel+1) listed a w:=
 WQ hr ho λ K hK=>hw K (hK a1 w' hs (ha▸h))
theorem zV(S:World->Prop)(k:Nat)(hS:S w)(h:S w->qR P md ops Q S (λ j=>decide (k<=j)) fuel listed a w):wpAny P md ops Q fuel listed a w:=NU _ _ _ _ (h hS)
end
open UK (str aO nth Only Row aI)
open Go.BigFrame
section
variable{E:Nat->Prop}{W W':World}{P D k:Nat}{A:AP}
def FW(E:Nat->Prop)(W:World)(P D:Nat)(A:AP)(k:Nat):Prop:=
 ∃FB M n q d0,PS E W P D FB M n 0 q (jq d0 A.aj) A.aj k A.c/\1<=n/\Is A q (jq d0 A.aj)/\Clean d0 A.aj/\d0.puts+1<1000000000/\d0.free=A.free/\d0.ax=A.ax/\∀p,1<=p->p<A.aj->p∉A.free->jM (jq d0 A.aj).x p=A.c p
theorem FW.pz(h:FW E W P D A k):PZ E W P D A k:=by
 obtain⟨FB,M,n,q,d0,h1,h2,h3,_⟩:=h;exact⟨FB,M,n,q,_,h1,h2,h3⟩
theorem FW.next(h:FW E W P D A k)(hb:Below W W W'):FW E W' P D A k:=by
 obtain⟨FB,M,n,q,d0,h1,r⟩:=h;exact⟨FB,M,n,q,d0,h1.wide hb (λ _ hj=>.inl hj),r⟩
theorem xtc(h:PZ E W P D A k) :
  Calls Tryz.prog 39 #[.pointer P] W λ e w'=>e= .returned (.int .i64 0)/\w'=W:=by
 obtain⟨FB,M,n,q,d,h1,hn,his⟩:=h;have:=xq7 h1.pd.pool;rw[h1.ak]at this;exact this
end
open UK (str aO nth Only)
def wC(y:List UInt8)(i:Nat):Nat:=(fC ((y.drop (4+4*i)).take 4)).toNat
def qg(y:List UInt8)(n:Nat):List Nat:=(List.range n).map (wC y)
def jD(y:List UInt8)(n:Nat):List UInt64:=(List.range n).map λ i=>oQ y (164+8*i)
def mO(y:List UInt8):Option Nd:=
 if nth y 0=1/\(nth y 1).toNat<=30 then some ⟨true,qI y (nth y 1).toNat,rW y (nth y 1).toNat,[]⟩
 else if nth y 0=2/\2<=(nth y 1).toNat/\(nth y 1).toNat<=40 then some ⟨false,jD y ((nth y 1).toNat-1),[],qg y (nth y 1).toNat⟩
 else none
def rX(l:List Nat):List UInt8:=l.flatMap λ k=>aW (UInt32.ofNat k)
def iJ(l:List UInt64):List UInt8:=l.flatMap b64
def vI(y:List UInt8)(ai:List UInt64)(ah:List Nat):List UInt8:=UK.wr (UK.wr ((y.set 0 2).set 1 (UInt8.ofNat ah.length)) 4 (rX ah)) 164 (iJ ai)
def bg(y:List UInt8)(x:Nd):List UInt8:=if x.leaf then kQ y x.ai x.vals else vI y x.ai x.ah
structure Fits(x:Nd):Prop where
 leaf:x.leaf=true->x.ai.length<=30/\x.vals.length=x.ai.length/\x.ah=[]
 inner:x.leaf=false->x.ah.length=x.ai.length+1/\2<=x.ah.length/\x.ah.length<=40/\x.vals=[]/\∀k∈x.ah,k<4294967296
theorem KR{α:Type}(f:α->List UInt8)(m:Nat)(hf:∀a,(f a).length=m):∀(l:List α) (i:Nat) (a:α),l[i]?=some a->∃r,(l.flatMap f).drop (m*i)=f a++r
 | [],_,_,h=>by simp at h
 | b::l,0,a,h=>by
  obtain rfl:b=a:=by simpa using h
  exact⟨l.flatMap f,by simp⟩
 | b::l,i+1,a,h=>by
  obtain⟨r,hr⟩:=KR f m hf l i a (by simpa using h);refine⟨r,?_⟩;have e:m*(i+1)=m+m*i:=by rw[Nat.mul_add,zm,Nat.add_comm]
  rw[List.flatMap_cons,e,List.drop_append,hf,kz (by rw[hf];omega),gH,show m+m*i-m=m*i by omega];exact hr
theorem RG{α:Type}(f:α->List UInt8)(m:Nat)(hf:∀a,(f a).length=m)(l:List α):(l.flatMap f).length=m*l.length:=by
 induction l with
 | nil=>simp
 | cons b l ih=>rw[List.flatMap_cons,zl,hf,ih,dw,Nat.mul_add,zm,Nat.add_comm]
theorem DF(l:List Nat):(rX l).length=4*l.length:=RG _ 4 (λ _=>rfl) l
theorem Gp(l:List UInt64):(iJ l).length=8*l.length:=RG _ 8 (λ _=>rfl) l
theorem Jc(x:List UInt8)(a o:Nat)(s:List UInt8)(ha:a<=x.length)(ho:o<=s.length):(UK.wr x a s).drop (a+o)=s.drop o++x.drop (a+s.length):=by
 unfold UK.wr;have h4:(x.take a).length=a:=by rw[zt];omega
 rw[List.drop_append,h4,kz (by rw[h4];omega),gH,show a+o-a=o by omega,kR ho]
theorem XM(x:List UInt8)(a i m:Nat)(s:List UInt8)(ha:a<=x.length)(hi:i+m<=a):((UK.wr x a s).drop i).take m=(x.drop i).take m:=by
 unfold UK.wr;have h4:(x.take a).length=a:=by rw[zt];omega
 rw[kR (by omega),lZ (by rw[zd];omega),List.drop_take,List.take_take]
 congr 1
 omega
theorem EC(x:List UInt8)(a i:Nat)(s:List UInt8)(ha:a<=x.length)(hi:i<a):nth (UK.wr x a s) i=nth x i:=by
 unfold UK.wr nth;rw[fK,fK,dM (by rw[zt];omega),iO hi]
theorem xj0(y:List UInt8)(ai:List UInt64)(ah:List Nat)(hy:504<=y.length)(hk:ah.length<=40)(hn:ai.length<=42):(vI y ai ah).length=y.length:=by
 have h1:(UK.wr ((y.set 0 2).set 1 (UInt8.ofNat ah.length)) 4 (rX ah)).length=y.length:=by
  rw[UK.lm _ _ _ (by rw[DF,bB,bB];omega),bB,bB]
 unfold vI;rw[UK.lm _ _ _ (by rw[Gp,h1];omega),h1]
theorem xu9(y:List UInt8)(ai:List UInt64)(ah:List Nat)(hy:504<=y.length)(hk:ah.length<=40):jD (vI y ai ah) ai.length=ai:=by
 have h1:(UK.wr ((y.set 0 2).set 1 (UInt8.ofNat ah.length)) 4 (rX ah)).length=y.length:=by
  rw[UK.lm _ _ _ (by rw[DF,bB,bB];omega),bB,bB]
 refine List.ext_getElem (by simp[jD]) (λ i h2 h3=>?_);simp only[jD,List.getElem_map,List.getElem_range];obtain⟨r,hr⟩:=KR b64 8 (λ _=>rfl) ai i ai[i] (di h3);have hd:=Jc (UK.wr ((y.set 0 2).set 1 (UInt8.ofNat ah.length)) 4 (rX ah)) 164 (8*i) (iJ ai) (by rw[h1];omega) (by rw[Gp];omega);have hr':(iJ ai).drop (8*i)=b64 ai[i]++r:=hr;rw[hr',dH]at hd;exact Ov hd
theorem xrt(y:List UInt8)(ai:List UInt64)(ah:List Nat)(hy:504<=y.length)(hk:ah.length<=40)(hb:∀k∈ah,k<4294967296):qg (vI y ai ah) ah.length=ah:=by
 have h1:(UK.wr ((y.set 0 2).set 1 (UInt8.ofNat ah.length)) 4 (rX ah)).length=y.length:=by
  rw[UK.lm _ _ _ (by rw[DF,bB,bB];omega),bB,bB]
 refine List.ext_getElem (by simp[qg]) (λ i h2 h3=>?_);simp only[qg,List.getElem_map,List.getElem_range];unfold wC vI;rw[XM _ 164 (4+4*i) 4 _ (by rw[h1];omega) (by omega)];obtain⟨r,hr⟩:=KR (λ k=>aW (UInt32.ofNat k)) 4 (λ _=>rfl) ah i ah[i] (di h3);have hd:=Jc ((y.set 0 2).set 1 (UInt8.ofNat ah.length)) 4 (4*i) (rX ah) (by rw[bB,bB];omega) (by rw[DF];omega);have hr':(rX ah).drop (4*i)=aW (UInt32.ofNat ah[i])++r:=hr;rw[hr',dH]at hd;rw[hd,lZ (show 4<=(aW (UInt32.ofNat ah[i])).length from aZ 4),eZ (show(aW (UInt32.ofNat ah[i])).length<=4 from aZ 4),Em];rw[sP];exact Nat.mod_eq_of_lt (hb _ (List.getElem_mem h3))
theorem xru(y:List UInt8)(ai:List UInt64)(ah:List Nat)(hy:504<=y.length)(hk:ah.length<=40):nth (vI y ai ah) 0=2/\(nth (vI y ai ah) 1).toNat=ah.length:=by
 have h1:(UK.wr ((y.set 0 2).set 1 (UInt8.ofNat ah.length)) 4 (rX ah)).length=y.length:=by
  rw[UK.lm _ _ _ (by rw[DF,bB,bB];omega),bB,bB]
 have h:∀i,i<4->nth (vI y ai ah) i=nth ((y.set 0 2).set 1 (UInt8.ofNat ah.length)) i:=λ i hi=>by
  unfold vI;rw[EC _ _ _ _ (by rw[h1];omega) (by omega),EC _ _ _ _ (by rw[bB,bB];omega) hi]
 refine⟨?_,?_⟩
 ·rw[h 0 (by omega)];unfold nth;rw[fK,List.getElem?_set_ne (by omega),List.getElem?_set_self (by omega)];rfl
 rw[h 1 (by omega)];unfold nth;rw[fK,List.getElem?_set_self (by rw[bB];omega)];show(UInt8.ofNat ah.length).toNat=_;rw[UInt8.toNat_ofNat'];omega
theorem GZ(y:List UInt8)(x:Nd)(hy:504<=y.length)(hx:Fits x):mO (bg y x)=some x:=by
 obtain⟨lf,ai,vals,ah⟩:=x
 cases lf with
 | true=>
  obtain⟨h1,h2,h3⟩:=hx.leaf rfl;dsimp only at h1 h2 h3;obtain⟨e1,e2,e3⟩:=Zz y ai vals hy h1;show mO (kQ y ai vals)=_;unfold mO;rw[e1,e2,if_pos ⟨rfl,h1⟩,Z0 y ai vals hy h2,Z4 y ai vals hy h2,h3]
 | false=>
  obtain⟨h1,h2,h3,h4,h5⟩:=hx.inner rfl;dsimp only at h1 h2 h3 h4 h5;obtain⟨e1,e2⟩:=xru y ai ah hy h3;show mO (vI y ai ah)=_;unfold mO;rw[e1,e2,if_neg (by intro h;exact absurd h.1 (by decide)),if_pos ⟨rfl,h2,h3⟩,show ah.length-1=ai.length by omega,xu9 y ai ah hy h3,xrt y ai ah hy h3 h5,h4]
theorem mE{y:List UInt8}{x:Nd}(h:mO y=some x):Fits x:=by
 unfold mO at h
 split at h
 ·rename_i h1
  obtain rfl:=bC h;exact⟨λ _=>⟨by rw[Cs];exact h1.2,by rw[Cs,Fx],rfl⟩,(λ h=>by cases h)⟩
 split at h
 ·rename_i h1 h2
  obtain rfl:=bC h;refine⟨(λ h=>by cases h),λ _=>⟨?_,?_,?_,rfl,λ k hk=>?_⟩⟩
  ·simp[qg,jD];omega
  ·simp[qg];omega
  ·simp[qg];omega
  simp only[qg,gT]at hk;obtain⟨i,_,rfl⟩:=hk;unfold wC;exact(fC _).toNat_lt
 cases h
theorem uY(y:List UInt8)(x:Nd)(hy:504<=y.length)(hx:Fits x):(bg y x).length=y.length:=by
 unfold bg
 cases hl:x.leaf with
 | true=>
  obtain⟨h1,h2,_⟩:=hx.leaf hl;rw[if_pos rfl];exact UG y _ _ h1 h2 hy
 | false=>
  obtain⟨h1,h2,h3,_⟩:=hx.inner hl;rw[if_neg (by decide)];exact xj0 y _ _ hy h3 (by omega)
theorem xlw(y:List UInt8)(ai:List UInt64)(ah:List Nat)(hy:504<=y.length)(hk:ah.length<=40)(hn:ai.length<=42):(vI y ai ah).take 504=vI (y.take 504) ai ah:=by
 have h1:(UK.wr ((y.set 0 2).set 1 (UInt8.ofNat ah.length)) 4 (rX ah)).length=y.length:=by
  rw[UK.lm _ _ _ (by rw[DF,bB,bB];omega),bB,bB]
 unfold vI;rw[BJ _ _ _ _ (by rw[Gp];omega) (by rw[h1];omega),BJ _ _ _ _ (by rw[DF];omega) (by rw[bB,bB];omega),List.take_set,List.take_set]
theorem Z5(y:List UInt8)(x:Nd)(hy:504<=y.length)(hx:Fits x):(bg y x).take 504=bg (y.take 504) x:=by
 unfold bg
 cases hl:x.leaf with
 | true=>
  obtain⟨h1,h2,_⟩:=hx.leaf hl;rw[if_pos rfl,if_pos rfl];exact UH y _ _ h1 h2 hy
 | false=>
  obtain⟨h1,h2,h3,_⟩:=hx.inner hl;rw[if_neg (by decide),if_neg (by decide)];exact xlw y _ _ hy h3 (by omega)
theorem xrv(y:List UInt8)(i:Nat)(h:4+4*i+4<=504):wC (y.take 504) i=wC y i:=by
 unfold wC;rw[List.drop_take,List.take_take,lH (by omega)]
theorem xx0(y:List UInt8):mO (y.take 504)=mO y:=by
 have h0:=KT y 0 (by omega);have h1:=KT y 1 (by omega);unfold mO;rw[h0,h1]
 split
 ·rename_i h
  rw[Z6 y _ h.2,Z7 y _ h.2]
 split
 ·rename_i h
  have e1:jD (y.take 504) ((nth y 1).toNat-1)=jD y ((nth y 1).toNat-1):=by
   unfold jD;refine List.map_congr_left (λ i hi=>?_);have:=rq.1 hi;exact Ow y _ (by omega)
  have e2:qg (y.take 504) (nth y 1).toNat=qg y (nth y 1).toNat:=by
   unfold qg;refine List.map_congr_left (λ i hi=>?_);have:=rq.1 hi;exact xrv y i (by omega)
  rw[e1,e2]
 rfl
structure Sn where
 leaf:Bool
 up:Nat
 aA:List UInt64
 ah:List Nat
 au:List Nat
def n32(y:List UInt8)(o:Nat):Nat:=(fC ((y.drop o).take 4)).toNat
theorem CW(y:List UInt8)(o:Nat):n32 y o<4294967296:=(fC _).toNat_lt
theorem Ot(y:List UInt8)(o:Nat)(h:o+4<=504):n32 (y.take 504) o=n32 y o:=by
 unfold n32;rw[List.drop_take,List.take_take,lH (by omega)]
def b32(n:Nat):List UInt8:=aW (UInt32.ofNat n)
theorem Ou{y r:List UInt8}{o n:Nat}(h:y.drop o=b32 n++r)(hn:n<4294967296):n32 y o=n:=by
 unfold n32;rw[h,lZ (show 4<=(b32 n).length from aZ 4),eZ (show(b32 n).length<=4 from aZ 4)];unfold b32;rw[Em,sP];exact Nat.mod_eq_of_lt hn
def jL(y:List UInt8)(n:Nat):List UInt64:=(List.range n).map λ i=>oQ y (8+8*i)
def pJ(y:List UInt8)(n:Nat):List Nat:=(List.range n).map λ i=>n32 y (8+8*i)
def iI(y:List UInt8)(n:Nat):List Nat:=(List.range n).map λ i=>n32 y (12+8*i)
def jT(y:List UInt8):Option Sn:=
 if nth y 0=1/\(nth y 1).toNat<=48 then some ⟨true,n32 y 4,jL y (nth y 1).toNat,[],[]⟩
 else if nth y 0=2/\(nth y 1).toNat<=40 then some ⟨false,n32 y 4,[],pJ y (nth y 1).toNat,iI y (nth y 1).toNat⟩
 else none
def ku(y:List UInt8)(k:Nat)(up:Nat)(b:UInt8):List UInt8:=(UK.wr (y.set 1 (UInt8.ofNat k)) 4 (b32 up)).set 0 b
def qm(l:List (Nat×Nat)):List UInt8:=l.flatMap λ x=>b32 x.1++b32 x.2
def encS(y:List UInt8)(x:Sn):List UInt8:=
 if x.leaf then UK.wr (ku y x.aA.length x.up 1) 8 (iJ x.aA) else UK.wr (ku y x.ah.length x.up 2) 8 (qm (x.ah.zip x.au))
structure bA(x:Sn):Prop where
 up:x.up<4294967296
 leaf:x.leaf=true->x.aA.length<=48/\x.ah=[]/\x.au=[]
 inner:x.leaf=false->x.ah.length<=40/\x.au.length=x.ah.length/\x.aA=[]/\(∀k∈x.ah,k<4294967296)/\∀k∈x.au,k<4294967296
theorem RF(l:List (Nat×Nat)):(qm l).length=8*l.length:=RG _ 8 (λ _=>rfl) l
theorem yU(y:List UInt8)(k up:Nat)(b:UInt8)(hy:504<=y.length):(ku y k up b).length=y.length:=by
 unfold ku;rw[bB,UK.lm _ _ _ (by rw[bB];show 4+4<=_;omega),bB]
theorem XH(y:List UInt8)(k up o:Nat)(b:UInt8)(hy:504<=y.length)(ho:8<=o):(ku y k up b).drop o=y.drop o:=by
 unfold ku;rw[List.drop_set_of_lt (by omega)];have:=UK.Qi (y.set 1 (UInt8.ofNat k)) 4 (b32 up) (o-8) (by rw[bB];omega);rw[show(b32 up).length=4 from rfl,show 4+4+(o-8)=o by omega]at this;rw[this,List.drop_set_of_lt (by omega)]
theorem XI(y:List UInt8)(k up:Nat)(b:UInt8)(hy:504<=y.length)(hu:up<4294967296):n32 (ku y k up b) 4=up:=by
 unfold ku
 have h:((UK.wr (y.set 1 (UInt8.ofNat k)) 4 (b32 up)).set 0 b).drop 4=b32 up++(y.set 1 (UInt8.ofNat k)).drop 8:=by
  rw[List.drop_set_of_lt (by omega)];have:=Jc (y.set 1 (UInt8.ofNat k)) 4 0 (b32 up) (by rw[bB];omega) (by omega);exact this
 exact Ou h hu
theorem XJ(y:List UInt8)(k up:Nat)(b:UInt8)(hy:504<=y.length):nth (ku y k up b) 0=b:=by
 unfold ku nth;rw[fK,List.getElem?_set_self (by rw[UK.lm _ _ _ (by rw[bB];show 4+4<=_;omega),bB];omega)];rfl
theorem XK(y:List UInt8)(k up:Nat)(b:UInt8)(hy:504<=y.length)(hk:k<=48):(nth (ku y k up b) 1).toNat=k:=by
 have h:nth (ku y k up b) 1=UInt8.ofNat k:=by
  unfold ku;have h1:=EC (y.set 1 (UInt8.ofNat k)) 4 1 (b32 up) (by rw[bB];omega) (by omega);unfold nth at h1 ⊢;rw[fK,List.getElem?_set_ne (by omega),<-fK,h1,fK,List.getElem?_set_self (by omega)];rfl
 rw[h,UInt8.toNat_ofNat'];omega
theorem XL(x:List UInt8)(a o:Nat)(s:List UInt8)(ha:a<=x.length)(ho:o+4<=a):n32 (UK.wr x a s) o=n32 x o:=by
 unfold n32;rw[XM x a o 4 s ha ho]
theorem RH(x:List UInt8)(a o:Nat)(s:List UInt8)(ha:a<=x.length)(ho:a+s.length<=o):(UK.wr x a s).drop o=x.drop o:=by
 have:=UK.Qi x a s (o-(a+s.length)) ha
 rwa [show a+s.length+(o-(a+s.length))=o by omega]at this
theorem RJ{x:Sn}(hx:bA x):(x.leaf=true->(iJ x.aA).length<=384)/\(x.leaf=false->(qm (x.ah.zip x.au)).length<=384):=by
 refine⟨λ h=>?_,λ h=>?_⟩
 ·rw[Gp];have:=(hx.leaf h).1;omega
 rw[RF,List.length_zip];have:=(hx.inner h).1;omega
theorem Ah(y:List UInt8)(x:Sn)(hy:504<=y.length)(hx:bA x):(encS y x).length=y.length:=by
 obtain⟨h1,h2⟩:=RJ hx;unfold encS
 cases hl:x.leaf with
 | true=>rw[if_pos rfl,UK.lm _ _ _ (by rw[yU _ _ _ _ hy];have:=h1 hl;omega),yU _ _ _ _ hy]
 | false=>rw[if_neg (by decide),UK.lm _ _ _ (by rw[yU _ _ _ _ hy];have:=h2 hl;omega),yU _ _ _ _ hy]
theorem xob(y:List UInt8)(x:Sn)(hy:504<=y.length)(hx:bA x)(o:Nat)(ho:392<=o):(encS y x).drop o=y.drop o:=by
 obtain⟨h1,h2⟩:=RJ hx;unfold encS
 cases hl:x.leaf with
 | true=>rw[if_pos rfl,RH _ _ _ _ (by rw[yU _ _ _ _ hy];omega) (by have:=h1 hl;omega),XH _ _ _ _ _ hy (by omega)]
 | false=>rw[if_neg (by decide),RH _ _ _ _ (by rw[yU _ _ _ _ hy];omega) (by have:=h2 hl;omega),XH _ _ _ _ _ hy (by omega)]
theorem Jd(y:List UInt8)(x:Sn)(hy:504<=y.length)(hx:bA x):n32 (encS y x) 496=n32 y 496:=by
 unfold n32;rw[xob y x hy hx 496 (by omega)]
theorem xzw(x:List UInt8)(l:List UInt64)(hx:8<=x.length):jL (UK.wr x 8 (iJ l)) l.length=l:=by
 refine List.ext_getElem (by simp[jL]) (λ i h2 h3=>?_);simp only[jL,List.getElem_map,List.getElem_range];obtain⟨r,hr⟩:=KR b64 8 (λ _=>rfl) l i l[i] (di h3);have hd:=Jc x 8 (8*i) (iJ l) (by omega) (by rw[Gp];omega);have hr':(iJ l).drop (8*i)=b64 l[i]++r:=hr;rw[hr',dH]at hd;exact Ov hd
theorem XN(x:List UInt8)(l:List (Nat×Nat))(hx:8<=x.length)(i:Nat)(hi:i<l.length):∃r,(UK.wr x 8 (qm l)).drop (8+8*i)=b32 l[i].1++(b32 l[i].2++r):=by
 obtain⟨r,hr⟩:=KR (λ x:Nat×Nat=>b32 x.1++b32 x.2) 8 (λ _=>rfl) l i l[i] (di hi);have hd:=Jc x 8 (8*i) (qm l) (by omega) (by rw[RF];omega);have hr':(qm l).drop (8*i)=(b32 l[i].1++b32 l[i].2)++r:=hr;rw[hr',dH,dH]at hd;exact⟨_,hd⟩
theorem xw3(x:List UInt8)(ks cs:List Nat)(hx:8<=x.length)(hl:cs.length=ks.length)(hk:∀k∈ks,k<4294967296):pJ (UK.wr x 8 (qm (ks.zip cs))) ks.length=ks:=by
 refine List.ext_getElem (by simp[pJ]) (λ i h2 h3=>?_);simp only[pJ,List.getElem_map,List.getElem_range];obtain⟨r,hr⟩:=XN x (ks.zip cs) hx i (by rw[List.length_zip];omega);rw[List.getElem_zip]at hr;exact Ou hr (hk _ (List.getElem_mem h3))
theorem xw4(x:List UInt8)(ks cs:List Nat)(hx:8<=x.length)(hl:cs.length=ks.length)(hk:∀k∈cs,k<4294967296):iI (UK.wr x 8 (qm (ks.zip cs))) ks.length=cs:=by
 refine List.ext_getElem (by simp[iI,hl]) (λ i h2 h3=>?_);simp only[iI,List.getElem_map,List.getElem_range];obtain⟨r,hr⟩:=XN x (ks.zip cs) hx i (by rw[List.length_zip];omega);rw[List.getElem_zip]at hr
 have h4:(UK.wr x 8 (qm (ks.zip cs))).drop (12+8*i)=b32 cs[i]++r:=by
  have:=congrArg (List.drop 4) hr;rw[List.drop_drop,kR (show 4<=(b32 _).length from aZ 4),kz (show(b32 _).length<=4 from aZ 4),gH]at this;rw[<-this]
  congr 1
  omega
 exact Ou h4 (hk _ (List.getElem_mem h3))
theorem ED(y:List UInt8)(x:Sn)(hy:504<=y.length)(hx:bA x):jT (encS y x)=some x:=by
 obtain⟨lf,up,aA,ah,au⟩:=x;have hu:up<4294967296:=hx.up
 cases lf with
 | true=>
  obtain⟨h1,h2,h3⟩:=hx.leaf rfl;dsimp only at h1 h2 h3;subst h2 h3;show jT (UK.wr (ku y aA.length up 1) 8 (iJ aA))=_;have hl:=yU y aA.length up 1 hy;have e0:nth (UK.wr (ku y aA.length up 1) 8 (iJ aA)) 0=1:=by rw[EC _ _ _ _ (by omega) (by omega),XJ _ _ _ _ hy]
  have e1:(nth (UK.wr (ku y aA.length up 1) 8 (iJ aA)) 1).toNat=aA.length:=by rw[EC _ _ _ _ (by omega) (by omega),XK _ _ _ _ hy h1]
  have e2:n32 (UK.wr (ku y aA.length up 1) 8 (iJ aA)) 4=up:=by rw[XL _ _ _ _ (by omega) (by omega),XI _ _ _ _ hy hu]
  unfold jT;rw[e0,e1,e2,if_pos ⟨rfl,h1⟩,xzw _ _ (by omega)]
 | false=>
  obtain⟨h1,h2,h3,h4,h5⟩:=hx.inner rfl;dsimp only at h1 h2 h3 h4 h5;subst h3;show jT (UK.wr (ku y ah.length up 2) 8 (qm (ah.zip au)))=_;have hl:=yU y ah.length up 2 hy;have e0:nth (UK.wr (ku y ah.length up 2) 8 (qm (ah.zip au))) 0=2:=by rw[EC _ _ _ _ (by omega) (by omega),XJ _ _ _ _ hy]
  have e1:(nth (UK.wr (ku y ah.length up 2) 8 (qm (ah.zip au))) 1).toNat=ah.length:=by rw[EC _ _ _ _ (by omega) (by omega),XK _ _ _ _ hy (by omega)]
  have e2:n32 (UK.wr (ku y ah.length up 2) 8 (qm (ah.zip au))) 4=up:=by rw[XL _ _ _ _ (by omega) (by omega),XI _ _ _ _ hy hu]
  unfold jT;rw[e0,e1,e2,if_neg (by intro h;exact absurd h.1 (by decide)),if_pos ⟨rfl,h1⟩,xw3 _ _ _ (by omega) h2 h4,xw4 _ _ _ (by omega) h2 h5]
theorem nT{y:List UInt8}{x:Sn}(h:jT y=some x):bA x:=by
 unfold jT at h
 split at h
 ·rename_i h1
  obtain rfl:=bC h;exact⟨CW y 4,λ _=>⟨by simp[jL];exact h1.2,rfl,rfl⟩,(λ h=>by cases h)⟩
 split at h
 ·rename_i h1 h2
  obtain rfl:=bC h;refine⟨CW y 4,(λ h=>by cases h),λ _=>⟨by simp[pJ];exact h2.2,by simp[pJ,iI],rfl,λ k hk=>?_,λ k hk=>?_⟩⟩
  ·simp only[pJ,gT]at hk;obtain⟨i,_,rfl⟩:=hk;exact CW _ _
  simp only[iI,gT]at hk;obtain⟨i,_,rfl⟩:=hk;exact CW _ _
 cases h
def fM(y:List UInt8)(p:Nat):List UInt8:=UK.wr y 4 (b32 p)
theorem XO(y:List UInt8)(p:Nat)(hy:504<=y.length):(fM y p).length=y.length:=UK.lm _ _ _ (by show 4+4<=_;omega)
theorem KS(y:List UInt8)(p o:Nat)(hy:504<=y.length)(ho:8<=o):(fM y p).drop o=y.drop o:=RH _ _ _ _ (by omega) (by show 4+4<=o;omega)
theorem xrb(y:List UInt8)(p:Nat)(hy:504<=y.length):n32 (fM y p) 496=n32 y 496:=by
 unfold n32;rw[KS y p 496 hy (by omega)]
theorem XP(y:List UInt8)(p:Nat)(hy:504<=y.length)(hp:p<4294967296){x:Sn}(hx:jT y=some x):jT (fM y p)=some {x with up:=p}:=by
 have e0:∀i,i<4->nth (fM y p) i=nth y i:=λ i hi=>EC _ _ _ _ (by omega) hi
 have e2:n32 (fM y p) 4=p:=by
  have:=Jc y 4 0 (b32 p) (by omega) (by omega);exact Ou this hp
 have e3:∀n,jL (fM y p) n=jL y n:=λ n=>by
  unfold jL;refine List.map_congr_left (λ i _=>?_);unfold oQ;rw[KS y p _ hy (by omega),KS y p _ hy (by omega)]
 have e4:∀n,pJ (fM y p) n=pJ y n:=λ n=>by
  unfold pJ;refine List.map_congr_left (λ i _=>?_);unfold n32;rw[KS y p _ hy (by omega)]
 have e5:∀n,iI (fM y p) n=iI y n:=λ n=>by
  unfold iI;refine List.map_congr_left (λ i _=>?_);unfold n32;rw[KS y p _ hy (by omega)]
 unfold jT at hx ⊢;rw[e0 0 (by omega),e0 1 (by omega),e2,e3,e4,e5]
 split at hx
 ·rename_i h1
  rw[if_pos h1,<-bC hx]
 rename_i h1
 rw[if_neg h1]
 split at hx
 ·rename_i h2
  rw[if_pos h2,<-bC hx]
 cases hx
theorem xtx(y:List UInt8):jT (y.take 504)=jT y:=by
 have h0:=KT y 0 (by omega);have h1:=KT y 1 (by omega);unfold jT;rw[h0,h1,Ot y 4 (by omega)]
 split
 ·rename_i h
  have e:jL (y.take 504) (nth y 1).toNat=jL y (nth y 1).toNat:=by
   unfold jL;refine List.map_congr_left (λ i hi=>?_);rw[rq]at hi;exact Ow y _ (by omega)
  rw[e]
 split
 ·rename_i h
  have e:pJ (y.take 504) (nth y 1).toNat=pJ y (nth y 1).toNat:=by
   unfold pJ;refine List.map_congr_left (λ i hi=>?_);rw[rq]at hi;exact Ot y _ (by omega)
  have e2:iI (y.take 504) (nth y 1).toNat=iI y (nth y 1).toNat:=by
   unfold iI;refine List.map_congr_left (λ i hi=>?_);rw[rq]at hi;exact Ot y _ (by omega)
  rw[e,e2]
 rfl
theorem XQ(y:List UInt8)(k up:Nat)(b:UInt8)(hy:504<=y.length):(ku y k up b).take 504=ku (y.take 504) k up b:=by
 unfold ku;rw[List.take_set,BJ _ _ _ _ (by show 4+4<=504;omega) (by rw[bB];omega),List.take_set]
theorem RL(y:List UInt8)(x:Sn)(hy:504<=y.length)(hx:bA x):(encS y x).take 504=encS (y.take 504) x:=by
 obtain⟨h1,h2⟩:=RJ hx;unfold encS
 cases hl:x.leaf with
 | true=>rw[if_pos rfl,if_pos rfl,BJ _ _ _ _ (by have:=h1 hl;omega) (by rw[yU _ _ _ _ hy];omega),XQ _ _ _ _ hy]
 | false=>rw[if_neg (by decide),if_neg (by decide),BJ _ _ _ _ (by have:=h2 hl;omega) (by rw[yU _ _ _ _ hy];omega),XQ _ _ _ _ hy]
abbrev KV:=UInt64×UInt64
def fZ(l:List KV)(k v:UInt64):List KV:=l.filter (λ x=>decide (x.1.toNat<k.toNat))++(k,v)::l.filter (λ x=>decide (k.toNat<x.1.toNat))
def kC(l:List KV)(k:UInt64):List KV:=l.filter (λ x=>decide (x.1≠k))
structure Sb where
 pg:Nat
 l:List KV
 ps:List Nat
inductive It where
 | s (t:Sb)
 | k (κ:UInt64)
def It.R:It->It->Prop
 | .s a,.s b=>∀x∈a.l,∀y∈b.l,x.1.toNat<y.1.toNat
 | .s a,.k κ=>∀x∈a.l,x.1.toNat<κ.toNat
 | .k κ,.s b=>∀y∈b.l,κ.toNat<=y.1.toNat
 | .k κ,.k eG=>κ.toNat<eG.toNat
def qM:List UInt64->List Sb->List It
 | [],ss=>ss.map It.s
 | κ::ks,s::ss=>.s s:: .k κ::qM ks ss
 | ks,[]=>ks.map It.k
def nQ:List UInt64->List Sb->List It
 | κ::ks,s::ss=>.s s:: .k κ::nQ ks ss
 | _,_=>[]
def mR:List UInt64->List Sb->List It
 | κ::ks,s::ss=>.k κ:: .s s::mR ks ss
 | _,_=>[]
theorem F4:∀(oU:List UInt64) (oN:List Sb) (nX:List UInt64) (s:Sb) (mU:List Sb),oN.length=oU.length->mU.length=nX.length->qM (oU++nX) (oN++s::mU)=nQ oU oN++ .s s::mR nX mU
 | [],[],[],s,[],_,_=>rfl
 | [],[],[],s,t::r,_,h=>by simp at h
 | [],[],κ::ks,s,[],_,h=>by simp at h
 | [],[],κ::ks,s,t::r,_,h=>by
  have:=F4 [] [] ks t r rfl (by simpa using h);show .s s:: .k κ::qM ks (t::r)= .s s:: .k κ:: .s t::mR ks r;rw[show qM ks (t::r)=_ from this];rfl
 | [],t::r,nX,s,mU,h,_=>by simp at h
 | κ::oU,[],nX,s,mU,h,_=>by simp at h
 | κ::oU,t::oN,nX,s,mU,h,h2=>by
  have:=F4 oU oN nX s mU (by simpa using h) h2;show .s t:: .k κ::qM (oU++nX) (oN++s::mU)= .s t:: .k κ::(nQ oU oN++ .s s::mR nX mU);rw[this]
theorem Vf:∀(oU:List UInt64) (oN:List Sb) (κ:UInt64) (nX:List UInt64) (mU:List Sb),oN.length=oU.length+1->qM (oU++κ::nX) (oN++mU)=qM oU oN++ .k κ::qM nX mU
 | [],[],κ,nX,mU,h=>by simp at h
 | [],[s],κ,nX,mU,_=>rfl
 | [],s::t::r,κ,nX,mU,h=>by simp at h
 | nL::oU,[],κ,nX,mU,h=>by simp at h
 | nL::oU,t::oN,κ,nX,mU,h=>by
  have:=Vf oU oN κ nX mU (by simpa using h);show .s t:: .k nL::qM (oU++κ::nX) (oN++mU)= .s t:: .k nL::(qM oU oN++ .k κ::qM nX mU);rw[this]
theorem ZQ:∀(ks:List UInt64) (ss:List Sb),(ks.map It.k).Sublist (qM ks ss)
 | [],_=>List.nil_sublist _
 | _::_,[]=>List.Sublist.refl _
 | _::ks,_::ss=>((ZQ ks ss).cons_cons _).cons _
theorem MQ:∀(ks:List UInt64) (ss:List Sb),(ss.map It.s).Sublist (qM ks ss)
 | [],_=>List.Sublist.refl _
 | _::_,[]=>List.nil_sublist _
 | _::ks,_::ss=>((MQ ks ss).cons _).cons_cons _
theorem Vg{it:It}:∀{ks:List UInt64} {ss:List Sb},it∈qM ks ss->(∃κ∈ks,it= .k κ)\/(∃s∈ss,it= .s s)
 | [],ss,h=>by
  obtain⟨s,hs,e⟩:=gT.1 h;exact .inr ⟨s,hs,e.symm⟩
 | κ::ks,[],h=>by
  obtain⟨s,hs,e⟩:=gT.1 h;exact .inl ⟨s,hs,e.symm⟩
 | κ::ks,s::ss,h=>by
  rcases aX.1 h with h|h
  ·exact .inr ⟨s,by simp,h⟩
  rcases aX.1 h with h|h
  ·exact .inl ⟨κ,by simp,h⟩
  rcases Vg h with⟨a,b,c⟩|⟨a,b,c⟩
  ·exact .inl ⟨a,by simp[b],c⟩
  exact .inr ⟨a,by simp[b],c⟩
structure jF(P:Sb->Prop)(ai:List UInt64)(ae:List Sb):Prop where
 len:ae.length=ai.length+1
 ord:(qM ai ae).Pairwise It.R
 all:∀s∈ae,P s
theorem jF.up{P:Sb->Prop}{ai:List UInt64}{ae:List Sb}(h:jF P ai ae):jV ai:=by
 have h1:=h.ord.sublist (ZQ ai ae);rw[List.pairwise_map,List.pairwise_iff_getElem]at h1;intro a b x y hab hx hy;obtain⟨ha,ea⟩:=dn.1 hx;obtain⟨hb,eb⟩:=dn.1 hy;have:=h1 a b ha hb hab;rw[ea,eb]at this;exact this
def il(ae:List Sb):List KV:=ae.flatMap Sb.l
def dZ(ae:List Sb):List Nat:=ae.flatMap Sb.ps
def tJ(x:Nd):Prop:=(x.leaf=true->15<=x.ai.length)/\(x.leaf=false->16<=x.ah.length)
def jk(f:Nat->Option Nd)(p:Nat):Prop:=∃x,f p=some x/\tJ x
def Tr(f:Nat->Option Nd):Nat->Sb->Prop
 | 0,s=>∃ks vs,f s.pg=some ⟨true,ks,vs,[]⟩/\vs.length=ks.length/\jV ks/\s.l=ks.zip vs/\s.ps=[s.pg]
 | d+1,s=>∃ai ae,f s.pg=some ⟨false,ai,[],ae.map Sb.pg⟩/\jF (λ t=>Tr f d t/\jk f t.pg) ai ae/\s.l=il ae/\s.ps=s.pg::dZ ae
theorem jF.imp{P Q:Sb->Prop}{ai:List UInt64}{ae:List Sb}(h:jF P ai ae)(hq:∀s∈ae,P s->Q s):jF Q ai ae:=⟨h.len,h.ord,λ s hs=>hq s hs (h.all s hs)⟩
theorem Tr.mem{f:Nat->Option Nd}{d:Nat}{s:Sb}(h:Tr f d s):s.pg∈s.ps:=by
 cases d with
 | zero=>obtain⟨_,_,_,_,_,_,e⟩:=h;rw[e];simp
 | succ d=>obtain⟨_,_,_,_,_,e⟩:=h;rw[e];simp
theorem yO{ae:List Sb}{s:Sb}(hs:s∈ae){p:Nat}(hp:p∈s.ps):p∈dZ ae:=List.mem_flatMap.2 ⟨s,hs,hp⟩
theorem Tr.same{f g:Nat->Option Nd}:∀(d:Nat) (s:Sb),Tr f d s->(∀p∈s.ps,g p=f p)->Tr g d s
 | 0,s,⟨ks,vs,h1,h2,h3,h4,h5⟩,hg=>⟨ks,vs,(hg s.pg (by rw[h5];simp)).trans h1,h2,h3,h4,h5⟩
 | d+1,s,⟨ai,ae,h1,h2,h3,h4⟩,hg=>by
  refine⟨ai,ae,(hg s.pg (by rw[h4];simp)).trans h1,h2.imp (λ t ht ⟨a,b⟩=>?_),h3,h4⟩;have hsub:∀p∈t.ps,g p=f p:=λ p hp=>hg p (by rw[h4];exact eu _ (yO ht hp));refine⟨Tr.same d t a hsub,?_⟩;obtain⟨x,e,hx⟩:=b;exact⟨x,(hsub _ a.mem).trans e,hx⟩
def rC(l:List KV):Prop:=l.Pairwise (λ a b=>a.1.toNat<b.1.toNat)
theorem xx6{ks vs:List UInt64}(h:jV ks):rC (ks.zip vs):=by
 unfold rC;rw[List.pairwise_iff_getElem];intro i j hi hj hij;rw[List.length_zip]at hi hj;rw[List.getElem_zip,List.getElem_zip];exact h i j _ _ hij (di (by omega)) (di (by omega))
theorem xvi{P:Sb->Prop}{ai:List UInt64}{ae:List Sb}(h:jF P ai ae)(hr:∀s∈ae,rC s.l):rC (il ae):=by
 unfold rC il;rw[List.pairwise_flatMap];refine⟨hr,?_⟩;have h1:=h.ord.sublist (MQ ai ae);rw[List.pairwise_map]at h1;exact h1
theorem Tr.rise{f:Nat->Option Nd}:∀(d:Nat) (s:Sb),Tr f d s->rC s.l
 | 0,s,⟨ks,vs,h1,h2,h3,h4,h5⟩=>by rw[h4];exact xx6 h3
 | d+1,s,⟨ai,ae,h1,h2,h3,h4⟩=>by
  rw[h3];exact xvi h2 (λ t ht=>Tr.rise d t (h2.all t ht).1)
theorem ZR(ae:List Sb)(c:Nat)(h:∀s∈ae,14*s.ps.length+c<=s.l.length):14*(dZ ae).length+c*ae.length<=(il ae).length:=by
 induction ae with
 | nil=>simp[dZ,il]
 | cons s r ih=>
  have h1:=h s (by simp);have h2:=ih (λ t ht=>h t (by simp[ht]));simp only[dZ,il,List.flatMap_cons,zl,dw]at h2 ⊢;rw[Nat.mul_add,Nat.mul_add,zm];omega
theorem Tr.many{f:Nat->Option Nd}:∀(d:Nat) (s:Sb),Tr f d s->jk f s.pg->14*s.ps.length+1<=s.l.length
 | 0,s,⟨ks,vs,h1,h2,h3,h4,h5⟩,⟨x,hx,hf⟩=>by
  rw[h1]at hx;obtain rfl:=bC hx;have:=hf.1 rfl;rw[h4,h5,List.length_zip];simp only[dw,List.length_nil]at this ⊢;omega
 | d+1,s,⟨ai,ae,h1,h2,h3,h4⟩,⟨x,hx,hf⟩=>by
  have h20:16<=ae.length:=by
   rw[h1]at hx;obtain rfl:=bC hx
   simpa using hf.2 rfl
  have:=ZR ae 1 (λ t ht=>Tr.many d t (h2.all t ht).1 (h2.all t ht).2);rw[h3,h4,dw];omega
theorem Tr.yM{f:Nat->Option Nd}{d:Nat}{s:Sb}(h:Tr f d s):14*s.ps.length<=s.l.length+14:=by
 cases d with
 | zero=>obtain⟨_,_,_,_,_,_,e⟩:=h;rw[e];simp
 | succ d=>
  obtain⟨ai,ae,h1,hI,h3,h4⟩:=h;have:=ZR ae 1 (λ t ht=>Tr.many d t (hI.all t ht).1 (hI.all t ht).2);rw[h3,h4,dw];omega
theorem Tr.deep{f:Nat->Option Nd}:∀(d:Nat) (s:Sb),Tr f d s->jk f s.pg->2^d<=s.ps.length
 | 0,s,⟨ks,vs,h1,h2,h3,h4,h5⟩,_=>by rw[h5];simp
 | d+1,s,⟨ai,ae,h1,h2,h3,h4⟩,⟨x,hx,hf⟩=>by
  have h20:16<=ae.length:=by
   rw[h1]at hx;obtain rfl:=bC hx
   simpa using hf.2 rfl
  have hs:∀(l:List Sb),(∀t∈l,2^d<=t.ps.length)->2^d*l.length<=(dZ l).length:=by
   intro l
   induction l with
   | nil=>intro _;simp
   | cons t r ih=>
    intro hl;have a:=hl t (by simp);have b:=ih (λ u hu=>hl u (by simp[hu]));simp only[dZ,List.flatMap_cons,zl,dw]at b ⊢;rw[Nat.mul_add,zm];omega
  have:=hs ae (λ t ht=>Tr.deep d t (h2.all t ht).1 (h2.all t ht).2);rw[h4,dw,Nat.pow_succ];have hm:2^d*2<=2^d*ae.length:=Nat.mul_le_mul_left _ (by omega);omega
/-! ## lists with a key's value,without it -/
theorem Py{a b c:List KV}{k v:UInt64}(ha:∀x∈a,x.1.toNat<k.toNat)(hc:∀x∈c,k.toNat<x.1.toNat):fZ (a++(b++c)) k v=a++(fZ b k v++c):=by
 unfold fZ;have e1:a.filter (λ x=>decide (x.1.toNat<k.toNat))=a:=List.filter_eq_self.2 (λ x hx=>by simpa using ha x hx);have e2:a.filter (λ x=>decide (k.toNat<x.1.toNat))=[]:=List.filter_eq_nil_iff.2 (λ x hx=>by have:=ha x hx;simp;omega);have e3:c.filter (λ x=>decide (x.1.toNat<k.toNat))=[]:=List.filter_eq_nil_iff.2 (λ x hx=>by have:=hc x hx;simp;omega);have e4:c.filter (λ x=>decide (k.toNat<x.1.toNat))=c:=List.filter_eq_self.2 (λ x hx=>by simpa using hc x hx);simp only[List.filter_append,e1,e2,e3,e4,jw,gH,dH,jA]
theorem ZT{a b c:List KV}{k:UInt64}(ha:∀x∈a,x.1.toNat<k.toNat)(hc:∀x∈c,k.toNat<x.1.toNat):kC (a++(b++c)) k=a++(kC b k++c):=by
 unfold kC;have e1:a.filter (λ x=>decide (x.1≠k))=a:=List.filter_eq_self.2 (λ x hx=>by have:=ha x hx;simp;intro e;rw[e]at this;omega);have e4:c.filter (λ x=>decide (x.1≠k))=c:=List.filter_eq_self.2 (λ x hx=>by have:=hc x hx;simp;intro e;rw[e]at this;omega);simp only[List.filter_append,e1,e4]
theorem ZU{l:List KV}{k v:UInt64}{x:KV}(h:x∈fZ l k v):x∈l\/x=(k,v):=by
 unfold fZ at h;rcases cB.1 h with h|h
 ·exact .inl (List.mem_filter.1 h).1
 rcases aX.1 h with h|h
 ·exact .inr h
 exact .inl (List.mem_filter.1 h).1
theorem xx7{l:List KV}{k:UInt64}{x:KV}(h:x∈kC l k):x∈l:=(List.mem_filter.1 h).1
theorem xx8{ks vs:List UInt64}{k v:UInt64}{i:Nat}(h:fP ks k i)(hv:vs.length=ks.length)(hno:k∉ks):fZ (ks.zip vs) k v=(ks.take i++k::ks.drop i).zip (vs.take i++v::vs.drop i):=by
 have hle:=h.le
 have e:ks.zip vs=(ks.take i).zip (vs.take i)++(ks.drop i).zip (vs.drop i):=by
  rw[<-List.zip_append (by rw[zt,zt];omega),gm,gm]
 rw[e]
 have h1:=Py (a:=(ks.take i).zip (vs.take i)) (b:=[]) (c:=(ks.drop i).zip (vs.drop i)) (k:=k) (v:=v) (λ x hx=>by
  obtain⟨j,hj,ui⟩:=jb hx;rw[List.length_zip,zt]at hj
  have h2:ks[j]?=some x.1:=by
   rw[<-ui,List.getElem_zip,List.getElem_take];exact di (by omega)
  exact h.below j x.1 (by omega) h2) (λ x hx=>by
  obtain⟨j,hj,ui⟩:=jb hx;rw[List.length_zip,zd]at hj
  have h2:ks[i+j]?=some x.1:=by
   rw[<-ui,List.getElem_zip,List.getElem_drop];exact di (by omega)
  have h3:=h.above (i+j) x.1 (by omega) h2;have h4:k≠x.1:=λ e=>hno (e▸fe h2);have h5:k.toNat≠x.1.toNat:=λ e=>h4 (UInt64.toNat_inj.1 e);omega)
 rw[gH]at h1;rw[h1,List.zip_append (by rw[zt,zt];omega)];rfl
theorem xx9{ks vs:List UInt64}{k v:UInt64}{i:Nat}(hs:jV ks)(hk:ks[i]?=some k)(hv:vs.length=ks.length):fZ (ks.zip vs) k v=ks.zip (vs.set i v):=by
 have hi:i<ks.length:=(dn.1 hk).1
 have e:ks.zip vs=(ks.take i).zip (vs.take i)++([(k,vs[i]'(by omega))]++(ks.drop (i+1)).zip (vs.drop (i+1))):=by
  have e1:ks=ks.take i++k::ks.drop (i+1):=by
   have:=gm i ks;rw[nY hi,(dn.1 hk).2]at this;exact this.symm
  have e2:vs=vs.take i++vs[i]'(by omega)::vs.drop (i+1):=by
   have:=gm i vs;rw[nY (by omega)]at this;exact this.symm
  conv=>lhs;rw[e1,e2]
  rw[List.zip_append (by rw[zt,zt];omega)];rfl
 rw[e,Py (λ x hx=>?_) (λ x hx=>?_)]
 ·have e3:fZ [(k,vs[i]'(by omega))] k v=[(k,v)]:=by simp[fZ]
  rw[e3]
  have e1:ks=ks.take i++k::ks.drop (i+1):=by
   have:=gm i ks;rw[nY hi,(dn.1 hk).2]at this;exact this.symm
  have e2:vs.set i v=vs.take i++v::vs.drop (i+1):=by rw[List.set_eq_take_append_cons_drop,if_pos (by omega)]
  rw[e2]
  conv=>rhs;rw[e1]
  rw[List.zip_append (by rw[zt,zt];omega)];rfl
 ·obtain⟨j,hj,ui⟩:=jb hx;rw[List.length_zip,zt]at hj
  have h2:ks[j]?=some x.1:=by
   rw[<-ui,List.getElem_zip,List.getElem_take];exact di (by omega)
  exact hs j i _ _ (by omega) h2 hk
 obtain⟨j,hj,ui⟩:=jb hx;rw[List.length_zip,zd]at hj
 have h2:ks[i+1+j]?=some x.1:=by
  rw[<-ui,List.getElem_zip,List.getElem_drop];exact di (by omega)
 exact hs i (i+1+j) _ _ (by omega) hk h2
theorem xya{ks vs:List UInt64}{k:UInt64}{i:Nat}(hs:jV ks)(hk:ks[i]?=some k)(hv:vs.length=ks.length):kC (ks.zip vs) k=(ks.take i++ks.drop (i+1)).zip (vs.take i++vs.drop (i+1)):=by
 have hi:i<ks.length:=(dn.1 hk).1
 have e:ks.zip vs=(ks.take i).zip (vs.take i)++([(k,vs[i]'(by omega))]++(ks.drop (i+1)).zip (vs.drop (i+1))):=by
  have e1:ks=ks.take i++k::ks.drop (i+1):=by
   have:=gm i ks;rw[nY hi,(dn.1 hk).2]at this;exact this.symm
  have e2:vs=vs.take i++vs[i]'(by omega)::vs.drop (i+1):=by
   have:=gm i vs;rw[nY (by omega)]at this;exact this.symm
  conv=>lhs;rw[e1,e2]
  rw[List.zip_append (by rw[zt,zt];omega)];rfl
 rw[e,ZT (λ x hx=>?_) (λ x hx=>?_),List.zip_append (by rw[zt,zt];omega)]
 ·have e3:kC [(k,vs[i]'(by omega))] k=[]:=by simp[kC]
  rw[e3,gH]
 ·obtain⟨j,hj,ui⟩:=jb hx;rw[List.length_zip,zt]at hj
  have h2:ks[j]?=some x.1:=by
   rw[<-ui,List.getElem_zip,List.getElem_take];exact di (by omega)
  exact hs j i _ _ (by omega) h2 hk
 obtain⟨j,hj,ui⟩:=jb hx;rw[List.length_zip,zd]at hj
 have h2:ks[i+1+j]?=some x.1:=by
  rw[<-ui,List.getElem_zip,List.getElem_drop];exact di (by omega)
 exact hs i (i+1+j) _ _ (by omega) hk h2
theorem xvj{ks vs:List UInt64}{k:UInt64}(hno:k∉ks):kC (ks.zip vs) k=ks.zip vs:=by
 refine List.filter_eq_self.2 (λ x hx=>?_);have:=(List.of_mem_zip hx).1;simp;intro e;exact hno (e▸this)
structure dU(ai:List UInt64)(k:UInt64)(i:Nat):Prop where
 le:i<=ai.length
 below:∀κ∈ai.take i,κ.toNat<=k.toNat
 above:∀κ∈ai.drop i,k.toNat<κ.toNat
theorem Cw(a b:List Sb):il (a++b)=il a++il b:=by unfold il;rw[List.flatMap_append]
theorem vL(a b:List Sb):dZ (a++b)=dZ a++dZ b:=by unfold dZ;rw[List.flatMap_append]
theorem vM(s:Sb)(b:List Sb):il (s::b)=s.l++il b:=by unfold il;rw[List.flatMap_cons]
theorem wH(s:Sb)(b:List Sb):dZ (s::b)=s.ps++dZ b:=by unfold dZ;rw[List.flatMap_cons]
theorem Ia{α:Type}{l:List α}{i:Nat}{s:α}(h:l[i]?=some s):l=l.take i++s::l.drop (i+1):=by
 obtain⟨hi,e⟩:=dn.1 h;have:=gm i l;rw[nY hi,e]at this;exact this.symm
theorem ZV:∀{ks:List UInt64} {ss:List Sb} {it:It},it∈nQ ks ss->(∃κ∈ks,it= .k κ)\/(∃s∈ss,it= .s s)
 | [],_,_,h=>by simp[nQ]at h
 | _::_,[],_,h=>by simp[nQ]at h
 | κ::ks,s::ss,it,h=>by
  rcases aX.1 h with h|h
  ·exact .inr ⟨s,by simp,h⟩
  rcases aX.1 h with h|h
  ·exact .inl ⟨κ,by simp,h⟩
  rcases ZV h with⟨a,b,c⟩|⟨a,b,c⟩
  ·exact .inl ⟨a,by simp[b],c⟩
  exact .inr ⟨a,by simp[b],c⟩
theorem ZW:∀{ks:List UInt64} {ss:List Sb} {it:It},it∈mR ks ss->(∃κ∈ks,it= .k κ)\/(∃s∈ss,it= .s s)
 | [],_,_,h=>by simp[mR]at h
 | _::_,[],_,h=>by simp[mR]at h
 | κ::ks,s::ss,it,h=>by
  rcases aX.1 h with h|h
  ·exact .inl ⟨κ,by simp,h⟩
  rcases aX.1 h with h|h
  ·exact .inr ⟨s,by simp,h⟩
  rcases ZW h with⟨a,b,c⟩|⟨a,b,c⟩
  ·exact .inl ⟨a,by simp[b],c⟩
  exact .inr ⟨a,by simp[b],c⟩
theorem ZX{k:UInt64}:∀{ks:List UInt64} {ss:List Sb},ss.length=ks.length->(nQ ks ss).Pairwise It.R->(∀κ∈ks,κ.toNat<=k.toNat)->∀s∈ss,∀x∈s.l,x.1.toNat<k.toNat
 | [],[],_,_,_=>by simp
 | [],_::_,h,_,_=>by simp at h
 | _::_,[],h,_,_=>by simp at h
 | κ::ks,t::ss,h,hp,hk=>by
  have h1:It.R (.s t) (.k κ):=(gN.1 hp).1 (.k κ) (by simp);have h2:=(gN.1 (gN.1 hp).2).2;intro s hs x hx;rcases aX.1 hs with rfl|hs
  ·have:=h1 x hx;have:=hk κ (by simp);omega
  exact ZX (by simpa using h) h2 (λ eG hk'=>hk eG (by simp[hk'])) s hs x hx
theorem ZY{k:UInt64}:∀{ks:List UInt64} {ss:List Sb},ss.length=ks.length->(mR ks ss).Pairwise It.R->(∀κ∈ks,k.toNat<κ.toNat)->∀s∈ss,∀x∈s.l,k.toNat<x.1.toNat
 | [],[],_,_,_=>by simp
 | [],_::_,h,_,_=>by simp at h
 | _::_,[],h,_,_=>by simp at h
 | κ::ks,t::ss,h,hp,hk=>by
  have h1:It.R (.k κ) (.s t):=(gN.1 hp).1 (.s t) (by simp);have h2:=(gN.1 (gN.1 hp).2).2;intro s hs x hx;rcases aX.1 hs with rfl|hs
  ·have:=h1 x hx;have:=hk κ (by simp);omega
  exact ZY (by simpa using h) h2 (λ eG hk'=>hk eG (by simp[hk'])) s hs x hx
def It.lo(k:UInt64):It->Prop
 | .s u=>∀x∈u.l,x.1.toNat<k.toNat
 | .k κ=>κ.toNat<=k.toNat
def It.hi(k:UInt64):It->Prop
 | .s u=>∀x∈u.l,k.toNat<x.1.toNat
 | .k κ=>k.toNat<κ.toNat
theorem It.tK{a:It}{s t:Sb}{k:UInt64}(h:It.R a (.s s))(hk:It.lo k a)(ht:∀x∈t.l,x∈s.l\/x.1=k):It.R a (.s t):=by
 cases a with
 | s u=>
  intro x hx y hy;rcases ht y hy with h1|h1
  ·exact h x hx y h1
  rw[h1];exact hk x hx
 | k κ=>
  intro y hy;rcases ht y hy with h1|h1
  ·exact h y h1
  rw[h1];exact hk
theorem It.tL{a:It}{s t:Sb}{k:UInt64}(h:It.R (.s s) a)(hk:It.hi k a)(ht:∀x∈t.l,x∈s.l\/x.1=k):It.R (.s t) a:=by
 cases a with
 | s u=>
  intro x hx y hy;rcases ht x hx with h1|h1
  ·exact h x h1 y hy
  rw[h1];exact hk y hy
 | k κ=>
  intro y hy;rcases ht y hy with h1|h1
  ·exact h y h1
  rw[h1];exact hk
section
variable{P:Sb->Prop}{ai:List UInt64}{ae:List Sb}{k:UInt64}{i:Nat}{s:Sb}
theorem jF.cut(h:jF P ai ae)(hs:ae[i]?=some s):qM ai ae=nQ (ai.take i) (ae.take i)++ .s s::mR (ai.drop i) (ae.drop (i+1)):=by
 have hi:=(dn.1 hs).1;have hl:=h.len
 conv=>lhs;rw[Ia hs,<-gm i ai]
 exact F4 _ _ _ _ _ (by rw[zt,zt];omega) (by rw[zd,zd];omega)
theorem jF.left(h:jF P ai ae)(hs:ae[i]?=some s)(hk:∀κ∈ai.take i,κ.toNat<=k.toNat):∀t∈ae.take i,∀x∈t.l,x.1.toNat<k.toNat:=by
 have hi:=(dn.1 hs).1;have hl:=h.len;have ho:=h.ord;rw[h.cut hs]at ho;exact ZX (by rw[zt,zt];omega) (List.pairwise_append.1 ho).1 hk
theorem jF.right(h:jF P ai ae)(hs:ae[i]?=some s)(hk:∀κ∈ai.drop i,k.toNat<κ.toNat):∀t∈ae.drop (i+1),∀x∈t.l,k.toNat<x.1.toNat:=by
 have hi:=(dn.1 hs).1;have hl:=h.len;have ho:=h.ord;rw[h.cut hs]at ho;exact ZY (by rw[zd,zd];omega) (gN.1 (List.pairwise_append.1 ho).2.1).2 hk
theorem ET{l:List Sb}(h:∀t∈l,∀x∈t.l,x.1.toNat<k.toNat):∀x∈il l,x.1.toNat<k.toNat:=λ x hx=>by
 obtain⟨t,ht,hx⟩:=List.mem_flatMap.1 hx;exact h t ht x hx
theorem Jo{l:List Sb}(h:∀t∈l,∀x∈t.l,k.toNat<x.1.toNat):∀x∈il l,k.toNat<x.1.toNat:=λ x hx=>by
 obtain⟨t,ht,hx⟩:=List.mem_flatMap.1 hx;exact h t ht x hx
theorem Dm(hs:ae[i]?=some s):il ae=il (ae.take i)++(s.l++il (ae.drop (i+1))):=by
 conv=>lhs;rw[Ia hs]
 rw[Cw,vM]
theorem J9(hs:ae[i]?=some s):dZ ae=dZ (ae.take i)++(s.ps++dZ (ae.drop (i+1))):=by
 conv=>lhs;rw[Ia hs]
 rw[vL,wH]
theorem jF.side(h:jF P ai ae)(hs:ae[i]?=some s)(hk:dU ai k i) :
  (∀a∈nQ (ai.take i) (ae.take i),It.lo k a) /\
  (∀a∈mR (ai.drop i) (ae.drop (i+1)),It.hi k a):=by
 refine⟨λ a ha=>?_,λ a ha=>?_⟩
 ·rcases ZV ha with⟨κ,dK,rfl⟩|⟨t,ht,rfl⟩
  ·exact hk.below κ dK
  exact h.left hs hk.below t ht
 rcases ZW ha with⟨κ,dK,rfl⟩|⟨t,ht,rfl⟩
 ·exact hk.above κ dK
 exact h.right hs hk.above t ht
theorem jF.set(h:jF P ai ae)(hs:ae[i]?=some s)(hk:dU ai k i){t:Sb}(ht:∀x∈t.l,x∈s.l\/x.1=k)(hp:P t):jF P ai (ae.take i++t::ae.drop (i+1)):=by
 have hi:=(dn.1 hs).1;have hl:=h.len;have ho:=h.ord;obtain⟨hL,hR⟩:=h.side hs hk;rw[h.cut hs,List.pairwise_append,gN]at ho;obtain⟨o1,⟨o2,o3⟩,o4⟩:=ho;refine⟨by rw[zl,dw,zt,zd];omega,?_,λ u hu=>?_⟩
 ·have e:qM ai (ae.take i++t::ae.drop (i+1))=nQ (ai.take i) (ae.take i)++ .s t::mR (ai.drop i) (ae.drop (i+1)):=by
   conv=>lhs;rw[<-gm i ai]
   exact F4 _ _ _ _ _ (by rw[zt,zt];omega) (by rw[zd,zd];omega)
  rw[e,List.pairwise_append,gN];refine⟨o1,⟨λ a ha=>It.tL (o2 a ha) (hR a ha) ht,o3⟩,λ a ha b hb=>?_⟩;rcases aX.1 hb with rfl|hb
  ·exact It.tK (o4 a ha _ (by simp)) (hL a ha) ht
  exact o4 a ha b (by simp[hb])
 rcases cB.1 hu with hu|hu
 ·exact h.all u (fI hu)
 rcases aX.1 hu with rfl|hu
 ·exact hp
 exact h.all u (fA hu)
theorem jF.ins(h:jF P ai ae)(hs:ae[i]?=some s)(hk:dU ai k i){t u:Sb}{κ:UInt64}(ht:∀x∈t.l,x∈s.l\/x.1=k)(hu:∀x∈u.l,x∈s.l\/x.1=k)
  (DV:∀x∈t.l,x.1.toNat<κ.toNat) (DW:∀x∈u.l,κ.toNat<=x.1.toNat) (ht0:t.l≠[]) (hu0:u.l≠[]) (hpt:P t) (ry:P u) :
  jF P (ai.take i++κ::ai.drop i) (ae.take i++t::u::ae.drop (i+1)):=by
 have hi:=(dn.1 hs).1;have hl:=h.len;have ho:=h.ord;obtain⟨hL,hR⟩:=h.side hs hk;rw[h.cut hs,List.pairwise_append,gN]at ho;obtain⟨o1,⟨o2,o3⟩,o4⟩:=ho;obtain⟨xt,hxt⟩:=wI _ ht0;obtain⟨xu,hxu⟩:=wI _ hu0;refine⟨by rw[zl,zl,dw,dw,dw,zt,zd,zt,zd];omega,?_,λ v hv=>?_⟩
 ·have e:qM (ai.take i++κ::ai.drop i) (ae.take i++t::u::ae.drop (i+1))=nQ (ai.take i) (ae.take i)++ .s t:: .k κ:: .s u::mR (ai.drop i) (ae.drop (i+1)):=
   F4 _ _ (κ::ai.drop i) t (u::ae.drop (i+1)) (by rw[zt,zt];omega) (by rw[dw,dw,zd,zd];omega)
  rw[e,List.pairwise_append,gN,gN,gN];refine⟨o1,⟨λ a ha=>?_,λ a ha=>?_,λ a ha=>It.tL (o2 a ha) (hR a ha) hu,o3⟩,λ a ha b hb=>?_⟩
  ·rcases aX.1 ha with rfl|ha
   ·exact DV
   rcases aX.1 ha with rfl|ha
   ·intro x hx y hy;have:=DV x hx;have:=DW y hy;omega
   exact It.tL (o2 a ha) (hR a ha) ht
  ·rcases aX.1 ha with rfl|ha
   ·exact DW
   have h1:=It.tL (o2 a ha) (hR a ha) hu
   cases a with
   | s v=>
    intro y hy;have:=h1 xu hxu y hy;have:=DW xu hxu;omega
   | k eG=>
    have:=h1 xu hxu;have:=DW xu hxu;show κ.toNat<eG.toNat;omega
  rcases aX.1 hb with rfl|hb
  ·exact It.tK (o4 a ha _ (by simp)) (hL a ha) ht
  rcases aX.1 hb with rfl|hb
  ·have h1:=It.tK (o4 a ha _ (by simp)) (hL a ha) ht
   cases a with
   | s v=>
    intro y hy;have:=h1 y hy xt hxt;have:=DV xt hxt;omega
   | k eG=>
    have:=h1 xt hxt;have:=DV xt hxt;show eG.toNat<κ.toNat;omega
  rcases aX.1 hb with rfl|hb
  ·exact It.tK (o4 a ha _ (by simp)) (hL a ha) hu
  exact o4 a ha b (by simp[hb])
 rcases cB.1 hv with hv|hv
 ·exact h.all v (fI hv)
 rcases aX.1 hv with rfl|hv
 ·exact hpt
 rcases aX.1 hv with rfl|hv
 ·exact ry
 exact h.all v (fA hv)
theorem jF.F5{oU nX:List UInt64}{κ:UInt64}{oN mU:List Sb}(h:jF P (oU++κ::nX) (oN++mU))(hl:oN.length=oU.length+1) :
  jF P oU oN/\jF P nX mU/\(∀x∈il oN,x.1.toNat<κ.toNat)/\(∀x∈il mU,κ.toNat<=x.1.toNat):=by
 have h0:=h.len;have ho:=h.ord;rw[Vf _ _ _ _ _ hl,List.pairwise_append,gN]at ho;obtain⟨o1,⟨o2,o3⟩,o4⟩:=ho;rw[zl,zl,dw]at h0;refine⟨⟨hl,o1,λ s hs=>h.all s (by simp[hs])⟩,⟨by omega,o3,λ s hs=>h.all s (by simp[hs])⟩,λ x hx=>?_,λ x hx=>?_⟩
 ·obtain⟨t,ht,hx⟩:=List.mem_flatMap.1 hx;exact o4 (.s t) ((MQ oU oN).subset (gT.2 ⟨t,ht,rfl⟩)) (.k κ) (by simp) x hx
 obtain⟨t,ht,hx⟩:=List.mem_flatMap.1 hx;exact o2 (.s t) ((MQ nX mU).subset (gT.2 ⟨t,ht,rfl⟩)) x hx
theorem ZZ{κ:UInt64}:∀{ks:List UInt64} {ss:List Sb},ss.length=ks.length+1->(qM ks ss).Pairwise It.R->(∀s∈ss,s.l≠[])->(∀x∈il ss,κ.toNat<=x.1.toNat)->∀eG∈ks,κ.toNat<eG.toNat
 | [],_,_,_,_,_=>by simp
 | _::_,[],h,_,_,_=>by simp at h
 | nL::ks,t::ss,h,hp,h0,hx=>by
  have h1:It.R (.s t) (.k nL):=(gN.1 hp).1 (.k nL) (by simp);have h2:=(gN.1 (gN.1 hp).2).2;intro eG hk;rcases aX.1 hk with rfl|hk
  ·obtain⟨x,hxt⟩:=wI _ (h0 t (by simp));have:=h1 x hxt;have:=hx x (by rw[vM];simp[hxt]);omega
  exact ZZ (by simpa using h) h2 (λ s hs=>h0 s (by simp[hs])) (λ x hx'=>hx x (by rw[vM];simp[hx'])) eG hk
theorem δ{κ:UInt64}:∀{ks:List UInt64} {ss:List Sb},ss.length=ks.length+1->(qM ks ss).Pairwise It.R->(∀s∈ss,s.l≠[])->(∀x∈il ss,x.1.toNat<κ.toNat)->∀eG∈ks,eG.toNat<κ.toNat
 | [],_,_,_,_,_=>by simp
 | _::_,[],h,_,_,_=>by simp at h
 | _::_,[_],h,_,_,_=>by simp at h
 | nL::ks,t::u::ss,h,hp,h0,hx=>by
  have h2:=(gN.1 hp).2;have h1:It.R (.k nL) (.s u):=(gN.1 h2).1 (.s u) ((MQ ks (u::ss)).subset (by simp));have h3:=(gN.1 h2).2;intro eG hk;rcases aX.1 hk with rfl|hk
  ·obtain⟨x,hxt⟩:=wI _ (h0 u (by simp));have:=h1 x hxt;have:=hx x (by rw[vM,vM];simp[hxt]);omega
  exact δ (by simpa using h) h3 (λ s hs=>h0 s (by simp[hs])) (λ x hx'=>hx x (by rw[vM];simp[hx'])) eG hk
theorem jF.join{oU nX:List UInt64}{κ:UInt64}{oN mU:List Sb}(h1:jF P oU oN)(h2:jF P nX mU)(n1:∀s∈oN,s.l≠[])(n2:∀s∈mU,s.l≠[])(hl:∀x∈il oN,x.1.toNat<κ.toNat)(hr:∀x∈il mU,κ.toNat<=x.1.toNat) :
  jF P (oU++κ::nX) (oN++mU):=by
 have a1:=h1.len;have a2:=h2.len;have hb:=δ h1.len h1.ord n1 hl;have ha:=ZZ h2.len h2.ord n2 hr;refine⟨by rw[zl,zl,dw];omega,?_,λ s hs=>?_⟩
 ·rw[Vf _ _ _ _ _ h1.len,List.pairwise_append,gN]
  have fl:∀it∈qM oU oN,It.R it (.k κ):=λ it hit=>by
   rcases Vg hit with⟨eG,hk,rfl⟩|⟨t,ht,rfl⟩
   ·exact hb eG hk
   exact λ x hx=>hl x (List.mem_flatMap.2 ⟨t,ht,hx⟩)
  have fr:∀it∈qM nX mU,It.R (.k κ) it:=λ it hit=>by
   rcases Vg hit with⟨eG,hk,rfl⟩|⟨t,ht,rfl⟩
   ·exact ha eG hk
   exact λ x hx=>hr x (List.mem_flatMap.2 ⟨t,ht,hx⟩)
  refine⟨h1.ord,⟨fr,h2.ord⟩,λ a ζ b hmb=>?_⟩;rcases aX.1 hmb with rfl|hmb
  ·exact fl a ζ
  have q1:=fl a ζ;have q2:=fr b hmb
  cases a with
  | s t=>
   cases b with
   | s u=>exact λ x hx y hy=>by have:=q1 x hx;have:=q2 y hy;omega
   | k eG=>exact λ x hx=>by have:=q1 x hx;have:κ.toNat<eG.toNat:=q2;omega
  | k nL=>
   cases b with
   | s u=>exact λ y hy=>by have:nL.toNat<κ.toNat:=q1;have:=q2 y hy;omega
   | k eG=>show nL.toNat<eG.toNat;have:nL.toNat<κ.toNat:=q1;have:κ.toNat<eG.toNat:=q2;omega
 rcases cB.1 hs with hs|hs
 ·exact h1.all s hs
 exact h2.all s hs
end
open UK (str aO nth Only Row aI w32)
section
variable{E:Nat->Prop}{W W':World}{P D T k pg N M nb kc vc ac:Nat}{A:AP}{x:Nd}{ka va aa:Option Addr}
theorem xnm{fn:Func}{t u v y:Tmp}(h:fn.results= #[.tmp t,.tmp u,.tmp v,.tmp y])(tmps:Array Value)(P:Program)(w:World) :
  (results fn tmps).run P w= .ok (.tuple #[tmps.getD t undef,tmps.getD u undef,tmps.getD v undef,tmps.getD y undef]) w:=by
 simp[results,h]
end
end Go.Proofs.YtlipgbnnbefhjaaGreatDoor
