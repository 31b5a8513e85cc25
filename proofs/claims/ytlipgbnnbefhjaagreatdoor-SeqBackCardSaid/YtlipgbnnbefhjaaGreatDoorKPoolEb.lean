/- Facts on rows of numbers on pages. -/
import Derived.Test.YtlipgbnnbefhjaaGreatDoorKTreeLc
set_option maxRecDepth 100000
set_option maxHeartbeats 8000000
set_option linter.unusedSimpArgs false
namespace Go.Proofs.YtlipgbnnbefhjaaGreatDoor
open Go.RowKit
end Go.Proofs.YtlipgbnnbefhjaaGreatDoor
namespace Go.Proofs.YtlipgbnnbefhjaaGreatDoor.UK
open Go.RowKit
/-! ## strings as lists of bytes -/
/-! ## a region that draws its order,over a class of worlds -/
theorem Q6{P:Program}{id:Nat}{Q:Exit->Act->World->Prop}{a:Act}{w:World}{l:List Oper}(I:World->Prop)(hm:P.follows .mixedOrders=true)(hB:Region.lexB .any l.toArray=true)(hI:I w.drew)
  (h:wpQuiet P l.toArray (λ w'=>∃p:Kept I,w'=p.w) (λ a'=>∀p:Kept I,Q .normal a' p.w) l a):(Code.region id l.toArray true).wp P Q a w:=by
 refine wp_region_quiet (C:=λ w'=>∃p:Kept I,w'=p.w) hm hB ⟨⟨_,hI⟩,rfl⟩ ?_
 have e:(λ a'=>∀w',(∃p:Kept I,w'=p.w)->Q .normal a' w')=(λ a'=>∀p:Kept I,Q .normal a' p.w):=by
  funext a'
  exact propext ⟨λ h p=>h _ ⟨p,rfl⟩,λ h w' ⟨p,hp⟩=>hp▸h p⟩
 rw[e]
 simpa using h
theorem WG{P:Program}{f:FuncId}{args:Array Value}{w:World}{I:World->Prop}{v:Value}{R:Ending->World->Prop}(h:Calls P f args w R)(hr:∀e w',R e w'->e= .returned v/\I w') :
  Calls P f args w λ e w''=>e= .returned v/\∃q:Kept I,w''=q.w:=
 h.mono λ e w' hR=>⟨(hr e w' hR).1,⟨_,(hr e w' hR).2⟩,rfl⟩
end Go.Proofs.YtlipgbnnbefhjaaGreatDoor.UK
namespace Go.Proofs.YtlipgbnnbefhjaaGreatDoor
open Go.RowKit
open UK (str aO nth Only w32 Row)
open Go.BigFrame
namespace Kept
variable{S T:Nat->Prop}{A B C:World}
end Kept
section
variable{S:Nat->Prop}{W W':World}{D aj:Nat}{d:Dk}
theorem DD.JW{f:Nat}{args:Array Value}{r:Value}(h:DD S W D d aj)
  (hc:∀own B bc fo fc I ic y,aN W own D B bc fo fc I ic y d->Calls Tryz.prog f args W λ e w'=>e= .returned r/\w'=W) :
  Calls Tryz.prog f args W λ e w'=>e= .returned r/\w'=W:=by
 obtain⟨⟨own,ho,B,bc,fo,fc,I,ic,y,hd⟩,ft⟩:=h;exact hc own B bc fo fc I ic y hd
/- the calls -/
theorem xwg(h:DD S W D d aj)(h3:d.puts+1<1000000000) :
  Calls Tryz.prog 44 #[.pointer D] W λ e w'=>e= .returned (.int .i64 (jf d.wl))/\DD S w' D (jq d aj) aj/\Kept S W w':=
 h.jI (λ _ _ _ _ _ _ _ _ hd=>Wi hd h.fit h3) (λ f=>JZ f h3)
end
open Go.RowKit
open UK (str aO nth Only w32 Row)
open Go.BigFrame
section
variable{S:Nat->Prop}{N k:Nat}{W w:World}{D aj gp cp fc:Nat}{fo:Option Addr}{d:Dk}
theorem Ok.flush(h:Ok d aj k)(hk:k<900000000):Ok (jq d aj) aj (k+1):=by
 have hp:=h.puts;have hr:=h.reads;have hf:=JZ h.fit (by omega);unfold jq at hf ⊢;by_cases hz:d.wl=0
 ·rw[if_pos hz]at hf ⊢;exact⟨hf,h.so.of_same rfl rfl,by show d.puts<=_;omega,by show d.reads<=_;omega⟩
 rw[if_neg hz]at hf ⊢;exact⟨hf,h.so.of_same rfl rfl,by show d.puts+1<=_;omega,by show d.reads<=_;omega⟩
end
open UK (nth w32)
def Qx:List UInt8:=[84,65,66,85,76,65,82,49]
def nz(s:List UInt8):Nat:=(fC s).toNat
def sH(x:List UInt8)(n:Nat):Nat->List Nat->List UInt8->Int×List Nat
 | 0,l,_=>(0,l)
 | k+1,l,p=>if p=aW (w32 4294967295) then(0,l) else if nz p<1\/n<=nz p\/nz p∈l then(3,[]) else if okB x (nz p)=false then(8,[]) else sH x n k (l++[nz p]) (wR x (nz p))
def pW(n:Nat)(l:List Nat):List Bool:=(List.range n).map λ p=>decide (p∈l)
theorem FO(n:Nat)(l:List Nat):(pW n l).length=n:=by simp[pW]
theorem Qy(n:Nat)(l:List Nat)(p:Nat)(h:p<n):(pW n l).getD p false=decide (p∈l):=by
 rw[fK,di (by rw[FO];exact h)];simp[pW]
theorem xqr(n:Nat):pW n []=List.replicate n false:=by
 refine List.ext_getElem (by simp[pW]) (λ i h1 h2=>?_);simp[pW]
theorem xqs(n:Nat)(l:List Nat)(p:Nat):(pW n l).set p true=pW n (l++[p]):=by
 refine List.ext_getElem (by simp[pW]) (λ i h1 h2=>?_);rw[List.getElem_set];by_cases e:p=i
 ·subst e;simp[pW]
 rw[if_neg e];simp only[pW,List.getElem_map,List.getElem_range];refine decide_eq_decide.2 ⟨λ h=>bR _ h,λ h=>?_⟩;rcases cB.1 h with h|h
 ·exact h
 exact absurd (bQ.1 h).symm e
def qQ(s:List UInt8)(pages:Int):Int×List Nat:=
 if s.length/512<1\/s.length%512≠0\/iE pages<(s.length/512:Nat) then(3,[])
 else if okB s 0=false then(8,[])
 else if (oV s 0).take 8≠Qx\/((oV s 0).drop 8).take 4≠aW (w32 (s.length/512)) then(3,[])
 else sH s (s.length/512) (s.length/512+1) [] (((oV s 0).drop 12).take 4)
def Ka(s:List UInt8)(pages:Int):Dk:=
 {x:=s,ax:=iE pages,free:=(qQ s pages).2.reverse,gu:=pW (s.length/512) (qQ s pages).2,rl:= -1,wl:= -1,reads:=0,puts:=0}
theorem gJ.snoc{n:Nat}{l:List Nat}(h:gJ n l){p:Nat}(h1:1<=p)(h2:p<n)(h3:p∉l):gJ n (l++[p]):=
 ⟨bF.2 ⟨h.nodup,List.pairwise_singleton _ _,λ a ha b hb=>by rw[bQ.1 hb];exact λ e=>h3 (e▸ha)⟩,λ q hq=>by
  rcases cB.1 hq with hq|hq
  ·exact h.lt q hq
  rw[bQ.1 hq];exact⟨h1,h2⟩⟩
theorem Wv(x:List UInt8)(n:Nat):∀(k:Nat) (l:List Nat) (p:List UInt8),gJ n l->gJ n (sH x n k l p).2
 | 0,l,p,h=>h
 | k+1,l,p,h=>by
  unfold sH
  split
  ·exact h
  split
  ·exact gJ.nil n
  rename_i hh
  split
  ·exact gJ.nil n
  exact Wv x n k _ _ (h.snoc (by omega) (by omega) (λ hm=>hh (.inr (.inr hm))))
theorem xn3(s:List UInt8)(pages:Int):gJ (s.length/512) (qQ s pages).2:=by
 unfold qQ
 split
 ·exact gJ.nil _
 split
 ·exact gJ.nil _
 split
 ·exact gJ.nil _
 exact Wv _ _ _ _ _ (gJ.nil _)
theorem Ww(x:List UInt8)(n k:Nat)(l:List Nat)(p:List UInt8)(hk:l.length<k)(h0:p≠aW (w32 4294967295))(h1:1<=nz p)(h2:nz p<n)(h3:nz p∉l)(h4:okB x (nz p)=true) :
  sH x n (k-l.length) l p=sH x n (k-(l++[nz p]).length) (l++[nz p]) (wR x (nz p)):=by
 obtain⟨m,hm⟩:∃m,k-l.length=m+1:=⟨k-l.length-1,by omega⟩;rw[hm]
 conv=>lhs;unfold sH
 rw[if_neg h0,if_neg (by rintro(a|a|a);omega;omega;exact h3 a),h4,if_neg (by simp)];rw[show k-(l++[nz p]).length=m by rw[zl,gI];omega]
theorem Wx(x:List UInt8)(n k:Nat)(l:List Nat)(p:List UInt8)(hk:l.length<k)(h0:p=aW (w32 4294967295)):sH x n (k-l.length) l p=(0,l):=by
 obtain⟨m,hm⟩:∃m,k-l.length=m+1:=⟨k-l.length-1,by omega⟩;rw[hm];unfold sH;rw[if_pos h0]
theorem xqt(x:List UInt8)(n k:Nat)(l:List Nat)(p:List UInt8)(hk:l.length<k)(h0:p≠aW (w32 4294967295))(h1:nz p<1\/n<=nz p\/nz p∈l):sH x n (k-l.length) l p=(3,[]):=by
 obtain⟨m,hm⟩:∃m,k-l.length=m+1:=⟨k-l.length-1,by omega⟩;rw[hm];unfold sH;rw[if_neg h0,if_pos h1]
theorem xn4(x:List UInt8)(n k:Nat)(l:List Nat)(p:List UInt8)(hk:l.length<k)(h0:p≠aW (w32 4294967295))(h1:1<=nz p)(h2:nz p<n)(h3:nz p∉l)(h4:okB x (nz p)=false):sH x n (k-l.length) l p=(8,[]):=by
 obtain⟨m,hm⟩:∃m,k-l.length=m+1:=⟨k-l.length-1,by omega⟩;rw[hm];unfold sH;rw[if_neg h0,if_neg (by rintro(a|a|a);omega;omega;exact h3 a),if_pos h4]
theorem xwk(s:List UInt8)(pages:Int)(l:List Nat)(h1:1<=s.length/512)(h2:s.length%512=0)(h3:((s.length/512:Nat):Int)<=iE pages)(ho:gJ (s.length/512) l)(fl:List Nat)(hf:fl.length<=l.length)(hm:∀p,p∈fl->p∈l) :
  Fit {x:=s,ax:=iE pages,free:=fl,gu:=pW (s.length/512) l,rl:= -1,wl:= -1,reads:=0,puts:=0} (s.length/512):=by
 have hc:2<=iE pages/\iE pages<=60000:=by unfold iE;omega
 have fD:=ho.few h1;exact⟨by show s.length=_;omega,FO _ _,h1,by omega,⟨hc.1,hc.2,h3⟩,λ p hp=>ho.lt p (hm p hp),by show fl.length<=_;omega,by show(-1:Int)<= -1/\(-1:Int)<=_;omega,by show(-1:Int)<= -1/\(-1:Int)<=_;omega,by show(0:Int)<=0/\(0:Int)<_;omega,by show(0:Int)<=0/\(0:Int)<_;omega⟩
theorem xwl{l:List Nat}(hn:l.Nodup){i j:Nat}(hi:i<l.length)(hj:j<l.length)(e:l.getD i 0=l.getD j 0):i=j:=by
 rw[fK,di hi,fK,di hj]at e;exact(List.getElem_inj hn).1 e
theorem Clean.flush{d:Dk}{aj:Nat}(h:Clean d aj)(h3:d.puts+1<1000000000):Clean (jq d aj) aj/\okB (jq d aj).x 0=true/\oV (jq d aj).x 0=zC d aj++UK.bW 488/\(jq d aj).free=d.free/\(jq d aj).gu=d.gu/\(jq d aj).ax=d.ax:=by
 have hf:=JZ h.fit h3;have hone:=h.fit.one;have hwl:d.wl≠0:=by rw[h.wl];decide
 unfold jq at hf ⊢;rw[if_neg hwl]at hf ⊢;have zO:(zC d aj).length<=504:=by rw[NG];decide
 refine⟨⟨hf,h.so.of_same rfl rfl,h.rl,Kb h.wl,λ q a b=>?_,λ i hi=>?_⟩,?_,?_,rfl,rfl,rfl⟩
 ·exact IA d.x aj 0 q _ h.fit.len h.fit.few (by omega) b zO (λ _=>h.ok q a b)
 ·have hm:=IB (show i<d.free.length from hi);have h1:=(h.fit.free _ hm).1;refine(NM d.x aj 0 _ _ h.fit.len (by omega) (h.fit.free _ hm).2 zO (λ e=>?_)).trans ?_
  ·have e2:0=d.free.getD i 0:=e;omega
  exact(h.link i hi).trans (NN rfl i).symm
 ·exact IA d.x aj 0 0 _ h.fit.len h.fit.few (by omega) (by omega) zO (λ e=>absurd rfl e)
 show oV (UK.wr d.x (512*0) (jm 0 (zC d aj))) 0=_;rw[CK,Es d.x 0 0 _ (zB 0 _ zO) (by rw[h.fit.len];omega) (by rw[h.fit.len];omega),if_pos rfl];rfl
theorem Wy{d:Dk}{aj:Nat}(h:Clean d aj)(x:List UInt8)(hok:∀p,1<=p->p<aj->okB x p=true)(hlk:∀i,i<d.free.length->wR x (d.free.getD i 0)=oZ d i) :
  ∀(i:Nat),i<=d.free.length->sH x aj (aj+1-(d.free.drop i).reverse.length) (d.free.drop i).reverse (oZ d i)=(0,d.free.reverse)
 | 0,_=>by
  have fD:=h.fit.eO;exact(Wx x aj (aj+1) _ (oZ d 0) (by rw[List.length_reverse,lL];omega) rfl).trans (by rw[lL])
 | i+1,hi=>by
  have hil:i<d.free.length:=by omega
  have hm:=IB hil;have hfr:=h.fit.free _ hm;have fD:=h.fit.eO;have h6:=h.fit.few;have e1:oZ d (i+1)=aW (w32 (d.free.getD i 0)):=by unfold oZ;rw[if_neg (by omega),Nat.add_sub_cancel]
  have h32:((w32 (d.free.getD i 0)).toNat:Int)=(d.free.getD i 0:Nat):=by rw[<-UK.I6];omega
  have e2:nz (aW (w32 (d.free.getD i 0)))=d.free.getD i 0:=by unfold nz;rw[Em];omega
  have hnm:d.free.getD i 0∉(d.free.drop (i+1)).reverse:=λ hh=>by
   rw[List.mem_reverse]at hh;obtain⟨j,hj,he⟩:=jb hh;rw[zd]at hj;rw[List.getElem_drop]at he;have:=xwl h.so.nodup hil (show i+1+j<d.free.length by omega) (by rw[<-he,fK,di (by omega)];rfl);omega
  have hst:=Ww x aj (aj+1) (d.free.drop (i+1)).reverse (oZ d (i+1)) (by rw[List.length_reverse,zd];omega) (λ e=>by
   rw[e1]at e;have:=congrArg nz e;rw[e2]at this;have e3:nz (aW (w32 4294967295))=4294967295:=by unfold nz;rw[Em];rfl
   omega) (by rw[e1,e2];exact hfr.1) (by rw[e1,e2];exact hfr.2) (by rw[e1,e2];exact hnm) (by rw[e1,e2];exact hok _ hfr.1 hfr.2)
  rw[hst,e1,e2,hlk i hil]
  have e4:(d.free.drop (i+1)).reverse++[d.free.getD i 0]=(d.free.drop i).reverse:=by
   rw[nY hil,List.reverse_cons,fK,di hil];rfl
  rw[e4];exact Wy h x hok hlk i (by omega)
theorem xqv{d:Dk}{aj:Nat}(h:Clean d aj)(h3:d.puts+1<1000000000)(pages:Int)(hm:d.ax=iE pages):qQ (jq d aj).x pages=(0,d.free.reverse):=by
 obtain⟨hc,h0,hh,hf,hi,hmo⟩:=h.flush h3;have aJ:=hc.fit.len;have hone:=h.fit.one;have zP:=h.fit.ax;unfold qQ;have hdiv:(jq d aj).x.length/512=aj:=by omega
 rw[hdiv,if_neg (by rintro(a|a|a);omega;omega;omega),if_neg (by rw[h0];decide),hh];rw[if_neg (by rintro(a|a);exact a rfl;exact a rfl)];have e1:((zC d aj++UK.bW 488).drop 12).take 4=oZ d d.free.length:=rfl;rw[e1]
 have:=Wy h (jq d aj).x hc.ok (λ i hil=>by
  have h1:=hc.link i (by rw[hf];exact hil);rw[hf]at h1;exact h1.trans (NN hf i)) d.free.length (aZ _)
 rw[List.drop_length]at this;exact this
section
variable{q:Pl}{d:Dk}{aj:Nat}{c:Nat->List UInt8}
theorem Calm.flush(h:Calm q d aj c)(h3:d.puts+1<1000000000):Calm q (jq d aj) aj c:=by
 obtain⟨a,_,_,hf,_,_⟩:=h.clean.flush h3;refine⟨a,h.at_,λ r h1 h2 hr h4=>?_⟩;rw[hf]at hr;have hwl:d.wl≠0:=by rw[h.clean.wl];decide
 have e:(jq d aj).x=UK.wr d.x (512*0) (jm 0 (zC d aj)):=by unfold jq;rw[if_neg hwl]
 rw[e];exact(Xq h.clean 0 r (by omega) h2 _ (by rw[NG];decide) (by omega)).trans (h.off r h1 h2 hr h4)
end
open UK (str aO nth Only Row aI jR ol)
section
variable{E:Nat->Prop}{W W':World}{P D FB M aj k n:Nat}{kp:Int}{q:Pl}{d d':Dk}{c:Nat->List UInt8}
def xzv(E:Nat->Prop)(W wr:World)(P D FB M n:Nat)(kp:Int)(q:Pl)(d:Dk)(k aj:Nat)(c:Nat->List UInt8)(ix:Value):Prop:=
 ∃(j:Nat) (q':Pl) (d':Dk),ix= .int .i64 j/\j<=n/\PS E wr P D FB M n kp q' d' aj (k+j) c/\Kept E W wr/\q'.op=q.op/\d'.free=d.free/\d'.ax=d.ax/\∀(i:Nat) (f:Fr),i<j->q'.ag[i]?=some (some f)->f.bH=false
def ya8(E:Nat->Prop)(W w':World)(P D FB M n:Nat)(kp:Int)(q:Pl)(d:Dk)(k aj:Nat)(c:Nat->List UInt8)(e:Ending):Prop:=
 ∃(q':Pl) (d0:Dk),e= .returned (.int .i64 0)/\PS E w' P D FB M n kp q' (jq d0 aj) aj (k+n+1) c/\Kept E W w'/\q'.op=q.op/\Clean d0 aj/\d0.puts+1<1000000000/\d0.free=d.free/\d0.ax=d.ax/\∀p,1<=p->p<aj->p∉d.free->jM (jq d0 aj).x p=c p
theorem xra(h:PS E W P D FB M n kp q d aj k c)(hk:k+n+1<900000000) :
  Calls Tryz.prog 15 #[.pointer P] W λ e w'=>ya8 E W w' P D FB M n kp q d k aj c e:=by
 have c1:=h.pd.pool.box.c1;rw[h.len]at c1;have FX:n<=1000:=by rw[<-h.len];exact h.ok.few
 go_enter Tryz.func15,Tryz.ntmps15
 go_wp2_with fail
 go_loopw [11] (λ ix wr=>xzv E W wr P D FB M n kp q d k aj c ix) (λ ix _=>1001-(intOf ix).toNat)
 case atStart=>exact⟨0,q,d,rfl,bY _,h,Kept.refl _ _,rfl,rfl,rfl,λ i f hi=>absurd hi (qh _)⟩
 clear h c1;obtain⟨j,q',d',rfl,hj,h1,k1,hop,hfr,hmo,hcl⟩:=hrel;by_cases hlt:j<n
 ·obtain⟨o,ho⟩:∃o,q'.ag[j]?=some o:=⟨_,di (by rw[h1.len];exact hlt)⟩;have cF:wr.cell? (FB,j)=some (pX o):=h1.pd.frame ho
  cases o with
  | none=>
   have HS:=zH (h1.up (show k+j<=k+(j+1) by omega))
   have HC:=zH (λ (i:Nat) (f:Fr) (hi:i<j+1) (hf:q'.ag[i]?=some (some f))=>(show f.bH=false by
    by_cases e:i=j
    ·subst e;rw[ho]at hf;cases hf
    exact hcl i f (by omega) hf))
   simp only[pX]at cF;clear h1 hcl;go_wp2;go_roundw
   case rel=>exact⟨j+1,q',d',by go_num,by omega,HS.out,k1,hop,hfr,hmo,HC.out⟩
   case measure=>simp[intOf];omega
  | some f=>
   simp only[pX]at cF
   cases hdy:f.bH
   ·have HW:=zH (Xz h1.pd ho hdy);have HS:=zH (h1.up (show k+j<=k+(j+1) by omega))
    have HC:=zH (λ (i:Nat) (g:Fr) (hi:i<j+1) (hf:q'.ag[i]?=some (some g))=>(show g.bH=false by
     by_cases e:i=j
     ·subst e;rw[ho]at hf;rw[<-bC (bC hf)];exact hdy
     exact hcl i g (by omega) hf))
    clear h1 hdy hcl
    go_wp2_with fail
    refine HW.out.mono ?_;rintro e w2 ⟨rfl,rfl⟩;go_wp2;go_roundw
    case rel=>exact⟨j+1,q',d',by go_num,by omega,HS.out,k1,hop,hfr,hmo,HC.out⟩
    case measure=>simp[intOf];omega
   have hjl:j<q'.ag.length:=by rw[h1.len];exact hlt
   obtain⟨m,hm,hm1,hm2,C9⟩:=h1.calm.nat (h1.held j f ho);have hhas:bn d' aj (m:Int)=true:=by rw[<-hm];exact h1.held j f ho
   obtain⟨we,wd⟩:=R6 h1.calm.clean hhas f.data (h1.pd.pool.each j f ho).len;have hW:=X0 h1.pd ho hdy h1.kL (by omega);rw[show BL d' aj f.page f.data=0 by rw[hm];exact we,show xY d' aj f.page f.data=xV d' m f.data by rw[hm];exact wd]at hW;have HW:=zH hW;have XG:=zH (λ w1 p=>h1.az (by omega) (w1:=w1) ho hm hm2 C9 p)
   have HC:=zH (λ (i:Nat) (g:Fr) (hi:i<j+1) (hf:(q'.ag.set j (some {f with bH:=false}))[i]?=some (some g))=>(show g.bH=false by
    rw[gB _ _ _ _ hjl]at hf;by_cases e:j=i
    ·rw[if_pos e]at hf;rw[<-bC (bC hf)]
    rw[if_neg e]at hf;exact hcl i g (by omega) hf))
   clear h1 hdy we wd hW hcl hhas
   go_wp2_with fail
   refine HW.out.mono ?_;rintro e w2 ⟨rfl,p2,k2⟩;have HS:=zH (XG.out w2 p2);have K2:=zH (k1.trans k2);clear HW XG p2 k2 k1;go_wp2;go_roundw
   case rel=>exact⟨j+1,_,_,by go_num,by omega,HS.out,K2.out,hop,hfr,hmo,HC.out⟩
   case measure=>simp[intOf];omega
 have c0:=h1.pd.pool.box.c0;have ry:=h1.kL.puts;have hwl:=h1.calm.clean.wl;have hF:=xwg h1.pd.dd (by omega);rw[show jf d'.wl=0 by rw[hwl];rfl]at hF;have HF:=zH hF;have hok:=h1.kL.flush (by omega);have vF:∀a,bn (jq d' aj) aj a=bn d' aj a:=λ a=>by unfold jq;split<;>rfl
 have hcf:=h1.calm.flush (by omega);have KQ:=(h1.calm.clean.flush (by omega)).2.2.2.1
 have hlk:∀p,1<=p->p<aj->p∉d.free->jM (jq d' aj).x p=c p:=λ p a b e=>hcf.off p a b (by rw[KQ,hfr];exact e) (λ i f hi _=>by
  have:i<q'.ag.length:=(dn.1 hi).1;rw[h1.len]at this;exact hcl i f (by omega) hi)
 have HH:=zH (zA h1 (zA vF (zA hok (zA hcf hlk))));clear h1 vF hok hcf hlk hF hcl KQ hwl
 go_wp2_with fail
 refine HF.out.mono ?_;rintro e w2 ⟨rfl,d2,k2⟩;obtain⟨h1,vF,hok,hcf,hlk⟩:=HH.out;have s2:PS E w2 P D FB M n kp q' (jq d' aj) aj (k+j+1) c:=⟨h1.pd.disk d2 k2,h1.ok,hok,λ a g hg=>by rw[vF];exact h1.held a g hg,h1.ak,h1.len,hcf,(h1.up (jy _)).lim⟩;have HS:=zH (zA (s2.up (show k+j+1<=k+n+1 by omega)) (zA h1.calm.clean hlk));have K2:=zH (k1.trans (k2.mono (λ a ha=>.inl ha)));clear HF HH d2 k2 k1 s2 h1 vF hok hcf hlk c0;go_wp2;go_ret;exact⟨q',d',rfl,HS.out.1,K2.out,hop,HS.out.2.1,by omega,hfr,hmo,HS.out.2.2⟩
end
open UK (str aO nth Only Row aI)
section
variable{E:Nat->Prop}{W W':World}{P D k:Nat}{A:AP}
theorem xwr(h:PZ E W P D A k)(hk:k+1001<900000000) :
  Calls Tryz.prog 15 #[.pointer P] W λ e w'=>e= .returned (.int .i64 0)/\FW E w' P D A (k+1001)/\Kept E W w':=by
 obtain⟨FB,M,n,q,d,h1,hn,his⟩:=h;have FX:n<=1000:=by rw[<-h1.len];exact h1.ok.few
 refine(xra h1 (by omega)).mono ?_;rintro e w' ⟨q',d0,rfl,s,kk,hop,hc,hp,hfr,hmo,hl⟩;obtain⟨_,_,_,f1,_,f3⟩:=hc.flush hp;exact⟨rfl,⟨FB,M,n,q',d0,s.up (by omega),hn,⟨by rw[f1,hfr,his.free],by rw[f3,hmo,his.ax],by rw[hop];exact his.op⟩,hc,hp,hfr.trans his.free,hmo.trans his.ax,λ p a b c=>hl p a b (by rw[his.free];exact c)⟩,kk⟩
end
end Go.Proofs.YtlipgbnnbefhjaaGreatDoor
