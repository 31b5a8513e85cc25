/- Facts on rows of numbers on pages. -/
import Derived.Test.YtlipgbnnbefhjaaGreatDoorKUMemc
import Derived.BigRegion
set_option maxRecDepth 100000
set_option maxHeartbeats 8000000
set_option linter.unusedSimpArgs false
namespace Go.Proofs.YtlipgbnnbefhjaaGreatDoor
open Go.RowKit
open UK (str aO nth Only wr)
open Go.BigFrame
namespace UK
theorem xze(x:List UInt8)(a:Nat)(s:List UInt8)(v:UInt8)(h:a+s.length<x.length):(wr x a s).set (a+s.length) v=wr x a (s++[v]):=by
 unfold wr;have h1:(x.take a).length=a:=by rw[zt];omega
 rw[List.set_append_right _ _ (by omega),h1,List.set_append_right _ _ (by omega),show a+s.length-a-s.length=0 by omega];rw[nY h,z0,dH,zl];rfl
theorem xzf(x:List UInt8)(a:Nat)(s:List UInt8)(h:a<=x.length):(wr x a s).take (a+s.length)=x.take a++s:=by
 unfold wr;have h1:(x.take a).length=a:=by rw[zt];omega
 rw[<-dH,List.take_left' (by rw[zl,h1])]
theorem Qi(x:List UInt8)(a:Nat)(s:List UInt8)(k:Nat)(h:a<=x.length):(wr x a s).drop (a+s.length+k)=x.drop (a+s.length+k):=by
 unfold wr;have h1:(x.take a).length=a:=by rw[zt];omega
 rw[<-dH,List.drop_append,List.drop_eq_nil_of_le (by rw[zl,h1];omega),gH,zl,h1,show a+s.length+k-(a+s.length)=k by omega,List.drop_drop]
theorem BG(x:List UInt8)(a:Nat)(s t:List UInt8)(h:a<=x.length):wr (wr x a s) (a+s.length) t=wr x a (s++t):=by
 conv=>lhs;unfold wr
 have e:=xzf x a s h;have f:=Qi x a s t.length h;unfold wr at e f ⊢;rw[e,f,zl,dH,dH,Nat.add_assoc]
theorem xsk(x:List UInt8)(a:Nat)(b t:List UInt8)(h:a+b.length<=x.length):wr (wr x (a+b.length) t) a b=wr x a (b++t):=by
 unfold wr;have h1:(x.take (a+b.length)).length=a+b.length:=by rw[zt];omega
 rw[lZ (by omega),List.take_take,lH (by omega),kR (by omega),List.drop_eq_nil_of_le (by omega),gH,zl,dH,Nat.add_assoc]
theorem ybx(x:List UInt8)(a:Nat)(s:List UInt8)(h:a<=x.length):((wr x a s).drop a).take s.length=s:=by
 unfold wr;have h1:(x.take a).length=a:=by rw[zt];omega
 rw[List.drop_left' h1,List.take_left' rfl]
theorem I5(x:List UInt8)(a:Nat):wr x a []=x:=by simp[wr]
def w32(p:Nat):UInt32:=UInt32.ofNat p
theorem I6(p:Nat):(p:Int)%4294967296=((w32 p).toNat:Int):=by
 simp[w32]
theorem xS{B:Nat}{w w':World}(h:jG w)(ho:Only B w w')(hB:0 ≠B):jG w':=λ c=>by
 have hl:=h.lt;rw[<-h c];exact mh (a:=⟨0,_,none⟩) (ho.block _ hl hB)
end UK
open UK (w32)
theorem xsl(v:UInt32)(k:Nat)(h:k<4):(aW v).take (k+1)=(aW v).take k++[UK.og v k]:=by
 match k,h with
 | 0,_|1,_|2,_|3,_=>rfl
theorem sD{W:World}{B:Nat}{x:List UInt8}(h:aO W B x)(o n c:Nat)(hn:4<=n)(ho:o+n<=x.length)(hl:n<=100000000)(v:UInt32) :
  Calls Tryz.prog 58 #[.slice (B,o) n c,.int .u32 v.toNat] W λ e w'=>e= .returned (.tuple #[])/\aO w' B (UK.wr x o (aW v))/\Only B W w':=by
 have h4:(aW v).length=4:=rfl
 go_enter Tryz.func58,Tryz.ntmps58
 go_wp2_with fail
 go_loopw [5] (λ i VX=>∃k:Nat,k<=4/\i= .int .i64 k/\aO VX B (UK.wr x o ((aW v).take k))/\Only B W VX) (λ i _=>4-(intOf i).toNat)
 case atStart=>exact⟨0,bY _,rfl,by rw[jH,UK.I5];exact h,Only.refl _ _⟩
 obtain⟨k,hk,rfl,hb,hw⟩:=hrel;by_cases hlt:k<4
 ·have hkl:((aW v).take k).length=k:=by rw[zt,h4];omega
  have hwl:(UK.wr x o ((aW v).take k)).length=x.length:=UK.lm _ _ _ (by rw[hkl];omega);have hc:=hb.cell (i:=o+k) (by omega);have hf:=hb.free (i:=o+k) (by omega);have hset:=hb.set (o+k) (UK.og v k);have hs2:=UK.xze x o ((aW v).take k) (UK.og v k) (by rw[hkl];omega);rw[hkl]at hs2;rw[hs2,<-xsl v k hlt]at hset;have hwo:=hw.set (o+k) (.int .u8 ((UK.og v k).toNat:Int));clear hs2 hwl hkl h4;go_wp2;go_roundw
  case rel=>exact⟨k+1,by omega,by go_num,hset,hwo⟩
  case measure=>simp[intOf];omega
 obtain rfl:k=4:=by omega
 go_wp2
 go_end0
 exact⟨rfl,hb,hw⟩
theorem VY{W:World}{B:Nat}{x:List UInt8}(h:aO W B x)(o n c:Nat)(hn:4<=n)(ho:o+n<=x.length) :
  Calls Tryz.prog 48 #[.slice (B,o) n c] W λ e w'=>e= .returned (.int .u32 (fC ((x.drop o).take 4)).toNat)/\Below W W w':=by
 have c0:=h.cell (i:=o) (by omega);have c1:=h.cell (i:=o+1) (by omega);have c2:=h.cell (i:=o+2) (by omega);have c3:=h.cell (i:=o+3) (by omega)
 have hg:Hid (fC ((x.drop o).take 4)=UK.lG (UK.lG (UK.lG (UK.wide (nth x o)) (UK.shl (UK.wide (nth x (o+1))) 1)) (UK.shl (UK.wide (nth x (o+2))) 2)) (UK.shl (UK.wide (nth x (o+3))) 3)):=by
  show _=_;unfold fC
  have e:∀j,j<4->nth ((x.drop o).take 4) j=nth x (o+j):=λ j hj=>by
   simp only[nth,fK];rw[iO hj,iC]
  rw[e 0 (by omega),e 1 (by omega),e 2 (by omega),e 3 (by omega),iP]
 go_enter Tryz.func48,Tryz.ntmps48
 go_wp2
 go_quiet (fail)
 go_wp2;go_ret
 exact⟨by rw[hg.out]<;>rfl,UK.aG (aP _ _) _⟩
theorem ND(v:UInt32)(w:World) :
  Calls Tryz.prog 47 #[.int .u32 v.toNat] w λ e w'=>e= .returned (.string (str (aW v)))/\Below w w w':=by
 go_enter Tryz.func47,Tryz.ntmps47
 go_wp2_with fail
 have hz:aO (w.alloc (.cells #[.int .u8 0,.int .u8 0,.int .u8 0,.int .u8 0] 145)) w (UK.bW 4):=by
  refine⟨145,(0,0),?_,λ i _ h=>absurd h.2 (qh _)⟩;show(w.heap.push _)[w.heap.size]?=_;rw[sF];rfl
 have hz4:(UK.bW 4).length=4:=UK.lI 4;refine(sD hz 0 4 4 (by omega) (by omega) (by omega) v).mono ?_;rintro e w2 ⟨rfl,hb,ho⟩;have hw:UK.wr (UK.bW 4) 0 (aW v)=aW v:=rfl;rw[hw]at hb;have hcv:=UK.Cz (P:=Tryz.prog) (src:=88) (dst:=9) Tryz.underlying88 Tryz.underlying5 Tryz.underlying9 hb 0 4 4 (by show 0+4<=4;omega);have hw2:((aW v).drop 0).take 4=aW v:=rfl;rw[hw2]at hcv;go_wp2;go_ret;exact⟨rfl,((aP _ _).alloc (aZ _) _).trans (ho.below (by simp) (aZ _))⟩
def qZ(p:Nat)(s:List UInt8):List UInt8:=aW (w32 p)++(s++UK.bW (504-s.length))
def jm(p:Nat)(s:List UInt8):List UInt8:=aW (iN 0 (qZ p s))++qZ p s
theorem xzg{W:World}{D B:Nat}{x:List UInt8}(h:aO W B x)(n c p:Nat)(s:List UInt8)(hd:W.cell? D=some (.slice B n c))(hn:n<=x.length)(hc:n<=c)(bi:n<=100000000)(hp:512*(p+1)<=n)(hs:s.length<=504)
  (ht:jG W) (hB:0 ≠B) :
  Calls Tryz.prog 78 #[.pointer D,.int .i64 p,.string (str s)] W λ e w'=>e= .returned (.tuple #[])/\aO w' B (UK.wr x (512*p) (jm p s))/\Only B W w':=by
 have h32:=zH (show(p:Int)=((w32 p).toNat:Int) by rw[<-UK.I6 p];omega);have hq:(p+1)*512-p*512=512:=by omega
 go_enter Tryz.func78,Tryz.ntmps78
 go_wp2_with fail
 obtain⟨o,HO⟩:∃o,p*512=o:=⟨_,rfl⟩;rw[HO];have hq2:(p+1)*512-o=512:=by omega
 rw[hq2];have hP:=sD h (o+4) 508 (c-o-4) (by omega) (by omega) (by omega) (w32 p);rw[<-h32.out]at hP;refine hP.mono ?_;rintro e w1 ⟨rfl,h1,o1⟩;have hl1:(UK.wr x (o+4) (aW (w32 p))).length=x.length:=UK.lm _ _ _ (by show o+4+4<=_;omega);have hcp:=λ cc=>UK.NE (P:=Tryz.prog) (dT:=88) (sT:=9) (ty:=3) Tryz.underlying88 (λ w=>by kernel_rfl) h1 (o+8) 504 cc s hs (by omega);have h2:=h1.setCells s (o+8) (by omega);have o2:=o1.trans (Only.setCells (UK.cellsOf s) (o+8) (Only.refl B w1));have hl2:=UK.lm (UK.wr x (o+4) (aW (w32 p))) (o+8) s (by omega);rw[hl1]at hl2;obtain⟨w2,HW2⟩:∃w2,w1.setCells B (o+8) (UK.cellsOf s)=w2:=⟨_,rfl⟩;rw[HW2]at h2 o2;rw[HW2]at hcp;have hcl:=λ cc=>UK.VZ (P:=Tryz.prog) (t:=88) (ty:=0) Tryz.underlying88 (λ w=>by kernel_rfl) h2 (o+(8+s.length)) (512-(8+s.length)) cc (by omega);have hz:=h2.setCells (UK.bW (512-(8+s.length))) (o+(8+s.length)) (by rw[UK.lI];omega);have o3:=o2.trans (Only.setCells (UK.cellsOf (UK.bW (512-(8+s.length)))) (o+(8+s.length)) (Only.refl B w2));have hl3:=UK.lm (UK.wr (UK.wr x (o+4) (aW (w32 p))) (o+8) s) (o+(8+s.length)) (UK.bW (512-(8+s.length))) (by rw[UK.lI];omega);rw[hl2]at hl3;obtain⟨w3,HW3⟩:∃w3,w2.setCells B (o+(8+s.length)) (UK.cellsOf (UK.bW (512-(8+s.length))))=w3:=⟨_,rfl⟩;rw[HW3]at hz o3;rw[HW3]at hcl
 have hcl0:s.length=504->∀cc,(Builtin.clear_ #[88] 0 #[.slice (B,o) (512-(8+s.length)) cc]).run Tryz.prog w2= .ok (.tuple #[]) w3:=λ e cc=>by
  have this:=UK.VZ (P:=Tryz.prog) (t:=88) (ty:=0) Tryz.underlying88 (λ w=>by kernel_rfl) h2 o (512-(8+s.length)) cc (by omega);rw[<-HW3];have e0:512-(8+s.length)=0:=by omega
  rw[e0]at this ⊢;exact this
 clear HW2 HW3
 have HX:Hid (UK.wr (UK.wr (UK.wr x (o+4) (aW (w32 p))) (o+8) s) (o+(8+s.length)) (UK.bW (512-(8+s.length)))=UK.wr x (o+4) (qZ p s)):=by
  show _=_;have h4:(aW (w32 p)).length=4:=rfl;have e1:=UK.BG x (o+4) (aW (w32 p)) s (by omega);have e2:=UK.BG x (o+4) (aW (w32 p)++s) (UK.bW (512-(8+s.length))) (by omega);rw[h4,show o+4+4=o+8 by omega]at e1;rw[zl,h4,show o+4+(4+s.length)=o+(8+s.length) by omega]at e2;rw[e1,e2];unfold qZ;rw[dH,show 512-(8+s.length)=504-s.length by omega]
 rw[HX.out]at hz hl3
 have hrl:(qZ p s).length=508:=by
  unfold qZ;rw[zl,zl,UK.lI];show 4+_=_;omega
 have HR:Hid (((UK.wr x (o+4) (qZ p s)).drop (o+4)).take 508=qZ p s):=by
  have:=UK.ybx x (o+4) (qZ p s) (by omega)
  rwa [hrl]at this
 have hcv:=λ cc=>UK.Cz (P:=Tryz.prog) (src:=88) (dst:=9) Tryz.underlying88 Tryz.underlying5 Tryz.underlying9 hz (o+4) 508 cc (by omega);rw[HR.out]at hcv
 have HE:Hid (UK.wr (UK.wr x (o+4) (qZ p s)) o (aW (iN 0 (qZ p s)))=UK.wr x (512*p) (jm p s)):=by
  show _=_;rw[show 512*p=o by omega];exact UK.xsk x o (aW (iN 0 (qZ p s))) (qZ p s) (by show o+4<=_;omega)
 have ht3:=UK.xS ht o3 hB;clear h1 h2 o1 o2 hl1 hl2 hP h32 HX HR;generalize qZ p s=r at hz hl3 hrl hcv HE;by_cases hcase:c-o=8+s.length
 ·have hs4:s.length=504:=by omega
  have aac:=hcl0 hs4;clear hcl hcl0 hs4
  go_wp2_with fail
  refine(Qf r w3 ht3 (by rw[hrl];decide)).mono ?_;rintro e w' ⟨rfl,rfl⟩
  go_wp2_with fail
  refine(VW (iN 0 r) w3).mono ?_;rintro e w5 ⟨rfl,b5⟩;have h5:=hz.below b5 hz.lt;have hcp2:=λ cc=>UK.NE (P:=Tryz.prog) (dT:=88) (sT:=9) (ty:=3) Tryz.underlying88 (λ w=>by kernel_rfl) h5 o 512 cc (aW (iN 0 r)) (by show 4<=_;omega) (by show o+4<=_;omega);have h6:=h5.setCells (aW (iN 0 r)) o (by show o+4<=_;omega);have o6:=(o3.trans (Only.of_below b5)).trans (Only.setCells (UK.cellsOf (aW (iN 0 r))) o (Only.refl B w5));rw[HE.out]at h6;generalize w5.setCells B o (UK.cellsOf (aW (iN 0 r)))=w6 at hcp2 h6 o6;go_wp2
  go_end0
  exact⟨rfl,h6,o6⟩
 clear hcl0
 go_wp2_with fail
 refine(Qf r w3 ht3 (by rw[hrl];decide)).mono ?_;rintro e w' ⟨rfl,rfl⟩
 go_wp2_with fail
 refine(VW (iN 0 r) w3).mono ?_;rintro e w5 ⟨rfl,b5⟩;have h5:=hz.below b5 hz.lt;have hcp2:=λ cc=>UK.NE (P:=Tryz.prog) (dT:=88) (sT:=9) (ty:=3) Tryz.underlying88 (λ w=>by kernel_rfl) h5 o 512 cc (aW (iN 0 r)) (by show 4<=_;omega) (by show o+4<=_;omega);have h6:=h5.setCells (aW (iN 0 r)) o (by show o+4<=_;omega);have o6:=(o3.trans (Only.of_below b5)).trans (Only.setCells (UK.cellsOf (aW (iN 0 r))) o (Only.refl B w5));rw[HE.out]at h6;generalize w5.setCells B o (UK.cellsOf (aW (iN 0 r)))=w6 at hcp2 h6 o6;go_wp2
 go_end0
 exact⟨rfl,h6,o6⟩
open Go.RowKit
open UK (str aO nth Only w32)
open Go.BigFrame
def okB(x:List UInt8)(p:Nat):Bool:=decide (fC ((x.drop (512*p)).take 4)=iN 0 ((x.drop (512*p+4)).take 508))&&decide (((fC ((x.drop (512*p+4)).take 4)).toNat:Int)=p)
def oV(x:List UInt8)(p:Nat):List UInt8:=(x.drop (512*p+8)).take 504
def jM(x:List UInt8)(p:Nat):List UInt8:=if okB x p then oV x p else []
theorem JM{x:List UInt8}{p:Nat}(h:okB x p=true):jM x p=oV x p:=by unfold jM;rw[h];rfl
theorem JN{x:List UInt8}{p:Nat}(h:okB x p=false):jM x p=[]:=by unfold jM;rw[h];rfl
theorem Wd{W:World}{D B:Nat}{x:List UInt8}(h:aO W B x)(n c p:Nat)(hd:W.cell? D=some (.slice B n c))(hn:n<=x.length)(hc:n<=c)(bi:n<=100000000)(hp:512*(p+1)<=n)(ht:jG W) :
  Calls Tryz.prog 45 #[.pointer D,.int .i64 p] W λ e w'=>e= .returned (.tuple #[.string (str (jM x p)),.bool (okB x p)])/\Below W W w':=by
 obtain⟨o,HO⟩:∃o,p*512=o:=⟨_,rfl⟩;have hq2:(p+1)*512-o=512:=by omega
 have Qj:=λ cc=>UK.Cz (P:=Tryz.prog) (src:=88) (dst:=9) Tryz.underlying88 Tryz.underlying5 Tryz.underlying9 h o 4 cc (by omega);have hl4:((x.drop o).take 4).length=4:=by rw[zt,zd];omega
 have hl5:((x.drop (o+4)).take 508).length=508:=by rw[zt,zd];omega
 have HK:Hid (okB x p=(decide (fC ((x.drop o).take 4)=iN 0 ((x.drop (o+4)).take 508))&&decide (((fC ((x.drop (o+4)).take 4)).toNat:Int)=p))):=by
  show _=_;unfold okB;rw[show 512*p=o by omega]
 have HL:Hid (oV x p=(x.drop (o+8)).take 504):=by
  show _=_;unfold oV;rw[show 512*p=o by omega]
 have hu:=λ w hb=>VY (W:=w) (B:=B) (x:=x) hb (o+4) 508 (c-o-4) (by omega) (by omega);have hvv:=λ (w:World) (hb:aO w B x)=>UK.Cz (P:=Tryz.prog) (src:=88) (dst:=9) Tryz.underlying88 Tryz.underlying5 Tryz.underlying9 hb (o+4) 508 (c-o-4) (by omega);have hvw:=λ (w:World) (hb:aO w B x)=>UK.Cz (P:=Tryz.prog) (src:=88) (dst:=9) Tryz.underlying88 Tryz.underlying5 Tryz.underlying9 hb (o+8) 504 (c-o-8) (by omega);generalize (x.drop o).take 4=a at Qj hl4 HK;generalize (x.drop (o+4)).take 508=r at hvv hl5 HK;generalize fC ((x.drop (o+4)).take 4)=u at hu HK;generalize (x.drop (o+8)).take 504=s at hvw HL
 go_enter Tryz.func45,Tryz.ntmps45
 go_wp2_with fail
 refine(xv7 a W hl4).mono ?_;rintro e w' ⟨rfl,k,rfl⟩;have hv1:=hvv _ (h.drewN k)
 go_wp2_with fail
 refine(Qf r _ (ht.drewN k) (by rw[hl5];decide)).mono ?_;rintro e w' ⟨rfl,rfl⟩;have b1:=UK.aG (aP W W) k;have h1:=h.drewN k;generalize W.drewN k=w1 at h1 b1 hv1 ⊢;generalize fC a=ga at HK ⊢;generalize iN 0 r=ar at HK ⊢;by_cases hne:ga=ar
 ·subst hne
  go_wp2_with fail
  refine(hu w1 h1).mono ?_;rintro e w2 ⟨rfl,b2⟩;have h2:=h1.below b2 h1.lt;have hv2:=hvw _ h2;have b3:=b1.trans (b2.mono b1.size);by_cases hp2:(u.toNat:Int)=p
  ·have En:Hid (okB x p=true):=by show _=_;rw[HK.out,decide_eq_true hp2];simp
   have hp3:((u.toNat:Int)==p)=true:=beq_iff_eq.2 hp2;clear hp2 hv1;go_wp2;go_ret2;exact⟨by rw[JM En.out,En.out,HL.out]<;>rfl,b3⟩
  have En:Hid (okB x p=false):=by show _=_;rw[HK.out,decide_eq_false hp2,Bool.and_false]
  have hp3:((u.toNat:Int)==p)=false:=beq_eq_false_iff_ne.2 hp2;clear hp2 hv1 hv2;go_wp2;go_ret2;exact⟨by rw[JN En.out,En.out]<;>rfl,b3⟩
 have En:Hid (okB x p=false):=by show _=_;rw[HK.out,decide_eq_false hne,Bool.false_and]
 have hp3:(ga==ar)=false:=beq_eq_false_iff_ne.2 hne;have hnu:=UK.ybu;clear hne;go_wp2;go_ret2;exact⟨by rw[JN En.out,En.out]<;>rfl,b1⟩
open UK (str aO nth Only w32 Row)
structure Dk where
 x:List UInt8
 ax:Int
 free:List Nat
 gu:List Bool
 rl:Int
 wl:Int
 reads:Int
 puts:Int
def ints(l:List Nat):List Value:=l.map λ (n:Nat)=>Value.int .i64 (n:Int)
def zx(l:List Bool):List Value:=l.map Value.bool
theorem dx(l:List Nat):(ints l).length=l.length:=by simp[ints]
theorem JO(l:List Bool):(zx l).length=l.length:=by simp[zx]
def Dk.vals(d:Dk)(B bc:Nat)(fo:Option Addr)(fc I ic:Nat):List Value:=
 [.slice B d.x.length bc,.int .i64 d.ax,.slice fo d.free.length fc,.slice I d.gu.length ic,.int .i64 d.rl,.int .i64 d.wl,.int .i64 d.reads,.int .i64 d.puts]
structure aN(W:World)(own:Nat->Prop)(D B bc:Nat)(fo:Option Addr)(fc I ic:Nat)(y:List UInt8)(d:Dk):Prop where
 cells:Row W D 8 (d.vals B bc fo fc I ic)
 bytes:aO W B y
 lJ:y.length=bc
 le:d.x.length<=bc
 pre:y.take d.x.length=d.x
 fw:(fo=none/\d.free=[]/\fc=0)\/∃F,fo=some ⟨F,0,none⟩/\Row W F fc (ints d.free)/\F≠D/\F≠B/\F≠I/\own F
 flags:Row W I ic (zx d.gu)
 DB:D≠B
 DI:D≠I
 BI:B≠I
 oD:own D
 oB:own B
 oI:own I
 tab:jG W
 gX:¬own 0
def jo(W:World)(own:Nat->Prop)(D:Nat)(d:Dk):Prop:=∃B bc fo fc I ic y,aN W own D B bc fo fc I ic y d
structure Moves(own own':Nat->Prop)(W W':World):Prop where
 os:W'.os=W.os
 tape:W'.tape=W.tape
 output:W'.output=W.output
 size:W.heap.size<=W'.heap.size
 block:∀k,k<W.heap.size->¬own k->W'.heap[k]?=W.heap[k]?
 owns:∀k,own' k->own k\/W.heap.size<=k
namespace Moves
variable{o o' o'':Nat->Prop}{A B C:World}
theorem trans(h:Moves o o' A B)(k:Moves o' o'' B C):Moves o o'' A C:=
 ⟨k.os.trans h.os,k.tape.trans h.tape,k.output.trans h.output,bf h.size k.size,
  λ i hi hn=>(k.block i (bS hi h.size) (λ ho=>by rcases h.owns i ho with h1|h1;exact hn h1;omega)).trans (h.block i hi hn),
  λ i hi=>by
   rcases k.owns i hi with h1|h1
   ·exact h.owns i h1
   exact .inr (bf h.size h1)⟩
theorem of_below(h:Below A.heap.size A B):Moves o o A B:=⟨h.os,h.tape,h.output,h.size,λ k hk _=>h.block k hk,λ _ h=>.inl h⟩
theorem bX{G:Nat}(h:Only G A B)(hG:o G):Moves o o A B:=⟨h.os,h.tape,h.output,h.size,λ k hk hn=>h.block k hk (λ e=>hn (e▸hG)),λ _ h=>.inl h⟩
theorem below(h:Moves o o' A B){n:Nat}(hn:n<=A.heap.size)(ho:∀k,o k->n<=k):Below n A B:=
 ⟨h.os,h.tape,h.output,h.size,λ k hk=>h.block k (by omega) (λ hh=>by have:=ho k hh;omega)⟩
end Moves
def iQ(n:Int):Int:=if n=0 then -1 else if 0<n then n-1 else n
def jf(n:Int):Int:=if n=0 then 7 else 0
theorem BH{W:World}{D:Nat}{vs:List Value}(h:Row W D 8 vs)(j:Nat)(n:Int)(hj:vs[j]?=some (.int .i64 n))(hn: -1<=n/\n<=9223372036854775807) :
  Calls Tryz.prog 77 #[.pointer D,.pointer (D,j)] W λ e w'=>e= .returned (.int .i64 (jf n))/\Row w' D 8 (vs.set j (.int .i64 (iQ n)))/\Only D W w':=by
 have hc:=h.at' j _ hj;have hl:j<vs.length:=(dn.1 hj).1;have hf:=h.free j (by have:=h.le;omega);have hs:=h.set j (.int .i64 (iQ n)) hl;have ho:=(Only.refl D W).set j (.int .i64 (iQ n));have bi:=hn.1;have hn2:=hn.2;clear hn;by_cases h0:n=0
 ·have HE:Hid (jf n=7):=by show _=_;unfold jf;rw[if_pos h0]
  have HN:Hid (iQ n= -1):=by show _=_;unfold iQ;rw[if_pos h0]
  rw[HN.out]at hs ho;rw[HE.out,HN.out];subst h0
  go_enter Tryz.func77,Tryz.ntmps77
  go_wp2;go_ret
  exact⟨rfl,hs,ho⟩
 have hne:(n==0)=false:=beq_eq_false_iff_ne.2 h0;have HE:Hid (jf n=0):=by show _=_;unfold jf;rw[if_neg h0]
 rw[HE.out];by_cases hp:0<n
 ·have HN:Hid (iQ n=n-1):=by show _=_;unfold iQ;rw[if_neg h0,if_pos hp]
  rw[HN.out]at hs ho;rw[HN.out];clear h0
  go_enter Tryz.func77,Tryz.ntmps77
  go_wp2;go_ret
  exact⟨rfl,hs,ho⟩
 have HN:Hid (iQ n=n):=by show _=_;unfold iQ;rw[if_neg h0,if_neg hp]
 have hset:vs.set j (.int .i64 n)=vs:=by
  refine List.ext_getElem? (λ i=>?_);by_cases hi:i=j
  ·subst hi;rw[List.getElem?_set_self hl,hj]
  rw[List.getElem?_set_ne (by omega)]
 rw[HN.out,hset];clear h0
 go_enter Tryz.func77,Tryz.ntmps77
 go_wp2;go_ret
 exact⟨rfl,h,Only.refl _ _⟩
open Go.RowKit
open UK (str aO nth Only w32 Row)
open Go.BigFrame
structure Fit(d:Dk)(aj:Nat):Prop where
 len:d.x.length=512*aj
 flags:d.gu.length=aj
 one:1<=aj
 few:aj<=60000
 ax:2<=d.ax/\d.ax<=60000/\(aj:Int)<=d.ax
 free:∀p,p∈d.free->1<=p/\p<aj
 eO:d.free.length<=aj
 rl: -1<=d.rl/\d.rl<=9223372036854775807
 wl: -1<=d.wl/\d.wl<=9223372036854775807
 reads:0<=d.reads/\d.reads<1000000000
 puts:0<=d.puts/\d.puts<1000000000
section
variable{W:World}{own:Nat->Prop}{D B bc fc I ic aj:Nat}{fo:Option Addr}{y:List UInt8}{d:Dk}
theorem aN.below{W':World}(h:aN W own D B bc fo fc I ic y d)(hb:Below W W W'):aN W' own D B bc fo fc I ic y d:=by
 refine⟨h.cells.below hb h.cells.lt,h.bytes.below hb h.bytes.lt,h.lJ,h.le,h.pre,?_,h.flags.below hb h.flags.lt,h.DB,h.DI,h.BI,h.oD,h.oB,h.oI,h.tab.below hb,h.gX⟩;rcases h.fw with h0|⟨F,e,hr,r⟩
 ·exact .inl h0
 exact .inr ⟨F,e,hr.below hb hr.lt,r⟩
theorem aN.drewN(h:aN W own D B bc fo fc I ic y d)(n:Nat):aN (W.drewN n) own D B bc fo fc I ic y d:=h.below (UK.aG (aP _ _) n)
theorem I7(h:aN W own D B bc fo fc I ic y d)(f:Fit d aj) :
  Calls Tryz.prog 42 #[.pointer D] W λ e w'=>e= .returned (.int .i64 aj)/\w'=W:=by
 have c0:=h.cells.at' 0 _ rfl;rw[f.len]at c0;have fD:=f.few
 go_enter Tryz.func42,Tryz.ntmps42
 go_wp2;go_ret
 exact⟨by simp,rfl⟩
theorem JP(h:aN W own D B bc fo fc I ic y d)(f:Fit d aj) :
  Calls Tryz.prog 14 #[.pointer D] W λ e w'=>e= .returned (.int .i64 (d.ax-aj+d.free.length))/\∃q,w'=W.drewN q:=by
 have c1:=λ q=>(h.drewN q).cells.at' 1 _ rfl;have c2:=λ q=>(h.drewN q).cells.at' 2 _ rfl;have c1':=h.cells.at' 1 _ rfl;have c2':=h.cells.at' 2 _ rfl;have fD:=f.few;have hm1:=f.ax.1;have hm2:=f.ax.2.1;have C9:=f.ax.2.2;have hfl:=f.eO
 go_enter Tryz.func14,Tryz.ntmps14
 go_wp2_with fail
 go_quiet (refine Calls.quiet_of_same (I7 (h.drewN _) f))
 go_wp2;go_ret
 exact⟨rfl,_,rfl⟩
def bn(d:Dk)(aj:Nat)(p:Int):Bool:=decide (1<=p/\p<aj)&&!(d.gu.getD p.toNat false)
theorem I8(l:List Bool)(k:Nat)(h:k<l.length):(zx l)[k]?=some (.bool (l.getD k false)):=by
 simp[zx,di h,fK]
theorem Qk(l:List Nat)(k:Nat)(h:k<l.length):(ints l)[k]?=some (.int .i64 ((l.getD k 0:Nat):Int)):=by
 simp[ints,di h,fK]
theorem zy(h:aN W own D B bc fo fc I ic y d)(f:Fit d aj)(p:Int) :
  Calls Tryz.prog 83 #[.pointer D,.int .i64 p] W λ e w'=>e= .returned (.bool (bn d aj p))/\∃q,w'=W.drewN q:=by
 by_cases h1:1<=p
 ·by_cases h2:p<aj
  ·obtain⟨k,rfl⟩:∃k:Nat,p=k:=⟨p.toNat,by omega⟩;have hk:k<d.gu.length:=by rw[f.flags];omega
   have c3:=h.cells.at' 3 _ rfl;have ck:=h.flags.at' k _ (I8 d.gu k hk);have HH:Hid (bn d aj k=!(d.gu.getD k false)):=by show _=_;unfold bn;rw[decide_eq_true ⟨h1,h2⟩,Int.toNat_natCast,Bool.true_and]
   rw[HH.out];generalize d.gu.getD k false=b at ck;have fD:=f.few
   go_enter Tryz.func83,Tryz.ntmps83
   go_wp2_with fail
   refine(I7 h f).mono ?_;rintro e w' ⟨rfl,rfl⟩;go_wp2;go_ret;exact⟨rfl,0,rfl⟩
  have HH:Hid (bn d aj p=false):=by show _=_;unfold bn;rw[decide_eq_false (λ a=>h2 a.2)];rfl
  rw[HH.out];have h3:(aj:Int)<=p:=by omega
  clear h2
  go_enter Tryz.func83,Tryz.ntmps83
  go_wp2_with fail
  refine(I7 h f).mono ?_;rintro e w' ⟨rfl,rfl⟩;go_wp2;go_ret;exact⟨rfl,0,rfl⟩
 have HH:Hid (bn d aj p=false):=by show _=_;unfold bn;rw[decide_eq_false (λ a=>h1 a.1)];rfl
 rw[HH.out];have h3:p<1:=by omega
 clear h1
 go_enter Tryz.func83,Tryz.ntmps83
 go_wp2;go_ret
 exact⟨rfl,0,rfl⟩
def oZ(d:Dk)(i:Nat):List UInt8:=aW (if i=0 then w32 4294967295 else w32 (d.free.getD (i-1) 0))
theorem xv8(h:aN W own D B bc fo fc I ic y d)(f:Fit d aj)(i:Nat)(hi:i<=d.free.length) :
  Calls Tryz.prog 79 #[.pointer D,.int .i64 i] W λ e w'=>e= .returned (.string (str (oZ d i)))/\Below W W w':=by
 by_cases h0:i=0
 ·subst h0;have HN:Hid (oZ d 0=aW (w32 4294967295)):=rfl;have hw:=λ w=>ND (w32 4294967295) w;rw[show((w32 4294967295).toNat:Int)=4294967295 from rfl]at hw
  go_enter Tryz.func79,Tryz.ntmps79
  go_wp2_with fail
  refine(hw _).mono ?_;rintro e w' ⟨rfl,b⟩;go_wp2;go_ret;exact⟨by rw[HN.out]<;>rfl,b⟩
 obtain⟨k,rfl⟩:∃k,i=k+1:=⟨i-1,by omega⟩;have HN:Hid (oZ d (k+1)=aW (w32 (d.free.getD k 0))):=by show _=_;unfold oZ;rw[if_neg h0,Nat.add_sub_cancel]
 have c2:=h.cells.at' 2 _ rfl;rcases h.fw with⟨_,hf,_⟩|⟨F,rfl,hr,_⟩
 ·rw[hf]at hi;simp at hi
 have hk:=hr.at' k _ (Qk d.free k (by omega));have NF:=f.free (d.free.getD k 0) (by rw[fK,di (by omega)];exact List.getElem_mem _);have fD:=f.few;obtain⟨q,HQ⟩:∃q,Hid (d.free.getD k 0=q):=⟨_,rfl⟩;rw[HQ.out]at hk NF HN;have hw:=λ w=>ND (w32 q) w;rw[show((w32 q).toNat:Int)=q by rw[<-UK.I6 q];omega]at hw;have hq1:=NF.1;have hq2:=NF.2;have hk6:k<60000:=by have:=f.eO;omega
 have Ql:k<d.free.length:=by omega
 clear NF h0
 go_enter Tryz.func79,Tryz.ntmps79
 go_wp2_with fail
 refine(hw _).mono ?_;rintro e w' ⟨rfl,b⟩;go_wp2;go_ret;exact⟨by rw[HN.out]<;>rfl,b⟩
end
theorem UK.BJ(y:List UInt8)(a n:Nat)(s:List UInt8)(h:a+s.length<=n)(hn:n<=y.length):(UK.wr y a s).take n=UK.wr (y.take n) a s:=by
 unfold UK.wr;have h1:(y.take a).length=a:=by rw[zt];omega
 have e1:(y.take a).take n=y.take a:=by rw[List.take_take,Nat.min_eq_right (by omega)]
 have e2:s.take (n-a)=s:=eZ (by omega);have e3:(y.take n).take a=y.take a:=by rw[List.take_take,lH (by omega)]
 rw[kU,h1,kU,e1,e2,e3,List.drop_take,show n-a-s.length=n-(a+s.length) by omega]
section
variable{W W':World}{own:Nat->Prop}{D B bc fc I ic aj:Nat}{fo:Option Addr}{y:List UInt8}{d d':Dk}
theorem aN.JQ(h:aN W own D B bc fo fc I ic y d):0 ≠D:=λ e=>h.gX (e▸h.oD)
theorem aN.We(h:aN W own D B bc fo fc I ic y d):0 ≠B:=λ e=>h.gX (e▸h.oB)
theorem aN.gY(h:aN W own D B bc fo fc I ic y d)(hr:Row W' D 8 (d'.vals B bc fo fc I ic))(ho:Only D W W')(hx:d'.x=d.x)(hf:d'.free=d.free)(hi:d'.gu=d.gu):aN W' own D B bc fo fc I ic y d':=by
 refine⟨hr,ho.bytes h.bytes (λ e=>h.DB e.symm),h.lJ,by rw[hx];exact h.le,by rw[hx];exact h.pre,?_,by rw[hi];exact h.flags.only ho (λ e=>h.DI e.symm),h.DB,h.DI,h.BI,h.oD,h.oB,h.oI,UK.xS h.tab ho h.JQ,h.gX⟩;rcases h.fw with⟨a,b,c⟩|⟨F,e,r,n1,n2,n3,n4⟩
 ·exact .inl ⟨a,by rw[hf];exact b,c⟩
 exact .inr ⟨F,e,by rw[hf];exact r.only ho n1,n1,n2,n3,n4⟩
theorem aN.JR(h:aN W own D B bc fo fc I ic y d)(a:Nat)(s:List UInt8)(hb:aO W' B (UK.wr y a s))(ho:Only B W W')(hs:a+s.length<=d.x.length):aN W' own D B bc fo fc I ic (UK.wr y a s) {d with x:=UK.wr d.x a s}:=by
 have hle:=h.le;have hyl:=h.lJ;have hl:=UK.lm d.x a s hs;refine⟨?_,hb,by rw[UK.lm _ _ _ (by omega)];exact hyl,by show(UK.wr d.x a s).length<=_;omega,?_,?_,h.flags.only ho (λ e=>h.BI e.symm),h.DB,h.DI,h.BI,h.oD,h.oB,h.oI,UK.xS h.tab ho h.We,h.gX⟩
 ·have:=h.cells.only ho h.DB;unfold Dk.vals at this ⊢;show Row W' D 8 [.slice B (UK.wr d.x a s).length bc,_,_,_,_,_,_,_];rw[hl];exact this
 ·show(UK.wr y a s).take (UK.wr d.x a s).length=_;rw[hl,UK.BJ y a _ s hs (by omega),h.pre]
 rcases h.fw with⟨a,b,c⟩|⟨F,e,r,n1,n2,n3,n4⟩
 ·exact .inl ⟨a,b,c⟩
 exact .inr ⟨F,e,r.only ho n2,n1,n2,n3,n4⟩
structure Dat(W w:World)(own:Nat->Prop)(D B bc:Nat)(fo:Option Addr)(fc I ic:Nat)(y:List UInt8)(d:Dk)(aj:Nat):Prop where
 at_:aN w own D B bc fo fc I ic y d
 fit:Fit d aj
 moves:Moves own own W w
section
variable{w:World}
theorem Dat.below{w':World}(h:Dat W w own D B bc fo fc I ic y d aj)(hb:Below w w w'):Dat W w' own D B bc fo fc I ic y d aj:=⟨h.at_.below hb,h.fit,h.moves.trans (Moves.of_below hb)⟩
theorem Dat.drew(h:Dat W w own D B bc fo fc I ic y d aj):Dat W w.drew own D B bc fo fc I ic y d aj:=h.below (aP _ _).drew
theorem xsn(h:Dat W w own D B bc fo fc I ic y d aj) :
  Calls Tryz.prog 42 #[.pointer D] w λ e w'=>e= .returned (.int .i64 aj)/\w'=w:=I7 h.at_ h.fit
theorem ya0(k:Nat)(h:k<=60000):IntKind.u32.wrap (k:Int)=(k:Int):=by
 show(k:Int)%4294967296=k;omega
theorem xv9(h:Dat W w own D B bc fo fc I ic y d aj)(k:Nat)(hk:k<=60000) :
  Calls Tryz.prog 47 #[.int .u32 k] w λ e w'=>e= .returned (.string (str (aW (w32 k))))/\Dat W w' own D B bc fo fc I ic y d aj:=by
 have:=ND (w32 k) w;rw[show((w32 k).toNat:Int)=k by rw[<-UK.I6 k];omega]at this;exact this.mono λ _ _ ⟨he,hb⟩=>⟨he,h.below hb⟩
theorem Wh(h:Dat W w own D B bc fo fc I ic y d aj)(i:Nat)(hi:i<=d.free.length) :
  Calls Tryz.prog 79 #[.pointer D,.int .i64 i] w λ e w'=>e= .returned (.string (str (oZ d i)))/\Dat W w' own D B bc fo fc I ic y d aj:=
 (xv8 h.at_ h.fit i hi).mono λ _ _ ⟨he,hb⟩=>⟨he,h.below hb⟩
end
theorem zB(p:Nat)(s:List UInt8)(h:s.length<=504):(jm p s).length=512:=by
 unfold jm qZ;rw[zl,zl,zl,UK.lI];show 4+(4+_)=_;omega
theorem JS{w:World}(h:Dat W w own D B bc fo fc I ic y d aj)(p:Nat)(s:List UInt8)(hp:p<aj)(hs:s.length<=504) :
  Calls Tryz.prog 78 #[.pointer D,.int .i64 p,.string (str s)] w λ e w'=>e= .returned (.tuple #[])/\∃y',Dat W w' own D B bc fo fc I ic y' {d with x:=UK.wr d.x (512*p) (jm p s)} aj:=by
 have f:=h.fit;have hl:=f.len;have hf:=f.few;have h1:=h.at_;have hle:=h1.le;have hyl:=h1.lJ;have hw:=UK.lm d.x (512*p) (jm p s) (by rw[zB p s hs];omega);refine(xzg h1.bytes d.x.length bc p s (h1.cells.at' 0 _ rfl) (by omega) hle (by omega) (by omega) hs h1.tab h1.We).mono λ _ _ ⟨he,hb,ho⟩=>⟨he,UK.wr y (512*p) (jm p s),?_,?_,h.moves.trans (Moves.bX ho h1.oB)⟩
 ·exact h1.JR (512*p) (jm p s) hb ho (by rw[zB p s hs];omega)
 exact⟨hw.trans hl,f.flags,f.one,f.few,f.ax,f.free,f.eO,f.rl,f.wl,f.reads,f.puts⟩
@[go_sem] theorem Eo (v:UInt32):(aW v).length=4:=rfl
@[go_sem] theorem iD (d:Dk) (i:Nat):(oZ d i).length=4:=rfl
def zC(d:Dk)(aj:Nat):List UInt8:=[84,65,66,85,76,65,82,49]++(aW (w32 aj)++oZ d d.free.length)
theorem NG(d:Dk)(aj:Nat):(zC d aj).length=16:=rfl
def jq(d:Dk)(aj:Nat):Dk:=if d.wl=0 then {d with wl:= -1} else {d with wl:=iQ d.wl,puts:=d.puts+1,x:=UK.wr d.x 0 (jm 0 (zC d aj))}
theorem zD(n:Int)(h: -1<=n/\n<=9223372036854775807): -1<=iQ n/\iQ n<=9223372036854775807:=by
 unfold iQ
 split
 ·omega
 split<;>omega
theorem Wi(h:aN W own D B bc fo fc I ic y d)(f:Fit d aj)(hq3:d.puts+1<1000000000) :
  Calls Tryz.prog 44 #[.pointer D] W λ e w'=>e= .returned (.int .i64 (jf d.wl))/\jo w' own D (jq d aj)/\Moves own own W w':=by
 have zF:=zH hq3;clear hq3;have dA:=BH h.cells 5 d.wl rfl f.wl;have hq1:=f.puts.1;have hq2:=f.puts.2;by_cases h0:d.wl=0
 ·have HE:Hid (jf d.wl=7):=by show _=_;unfold jf;rw[if_pos h0]
  have HN:Hid (iQ d.wl= -1):=by show _=_;unfold iQ;rw[if_pos h0]
  have HF:Hid (jq d aj={d with wl:= -1}):=by show _=_;unfold jq;rw[if_pos h0]
  rw[HE.out,HN.out]at dA;rw[HE.out,HF.out];clear h0
  go_enter Tryz.func44,Tryz.ntmps44
  go_wp2_with fail
  refine dA.mono ?_;rintro e w1 ⟨rfl,r1,o1⟩;go_wp2;go_ret;exact⟨rfl,⟨B,bc,fo,fc,I,ic,y,h.gY (d':={d with wl:= -1}) r1 o1 rfl rfl rfl⟩,Moves.bX o1 h.oD⟩
 have HE:Hid (jf d.wl=0):=by show _=_;unfold jf;rw[if_neg h0]
 have HF:Hid (jq d aj={d with wl:=iQ d.wl,puts:=d.puts+1,x:=UK.wr d.x 0 (jm 0 (zC d aj))}):=by show _=_;unfold jq;rw[if_neg h0]
 rw[HE.out]at dA;rw[HE.out,HF.out];clear h0
 go_enter Tryz.func44,Tryz.ntmps44
 go_wp2_with fail
 refine dA.mono ?_;rintro e w1 ⟨rfl,r1,o1⟩;have h1:=h.gY (d':={d with wl:=iQ d.wl}) r1 o1 rfl rfl rfl;have qi:=zD d.wl f.wl;have c7:=h1.cells.at' 7 _ rfl;have f7:=h1.cells.free 7 (by omega);have r2:=h1.cells.set 7 (.int .i64 (d.puts+1)) (by show 7<8;omega);have o2:=(Only.refl D w1).set 7 (.int .i64 (d.puts+1));have h2:=h1.gY (d':={d with wl:=iQ d.wl,puts:=d.puts+1}) r2 o2 rfl rfl rfl;have f2:Fit {d with wl:=iQ d.wl,puts:=d.puts+1} aj:=⟨f.len,f.flags,f.one,f.few,f.ax,f.free,f.eO,f.rl,qi,f.reads,by show 0<=d.puts+1/\_;exact⟨by omega,zF.out⟩⟩;have d2:Dat W (w1.setCell (D,7) (.int .i64 (d.puts+1))) own D B bc fo fc I ic y {d with wl:=iQ d.wl,puts:=d.puts+1} aj:=⟨h2,f2,(Moves.bX o1 h.oD).trans (Moves.bX o2 h.oD)⟩
 go_wp2_with fail
 generalize w1.setCell (D,7) (.int .i64 (d.puts+1))=w2 at d2 ⊢;have hd:=d2.drew;have c2:=hd.at_.cells.at' 2 _ rfl;have fD:=f.few;have h00:0<aj:=f.one;clear d2 h1 h2 dA c7 f7 r1 r2 o1 o2
 go_region_with (first
  | (go_at_call 42;refine(xsn hd).mono ?_;rintro e w' ⟨rfl,rfl⟩)
  | (go_at_call 47;rw[ya0 aj fD];refine(xv9 hd aj fD).mono ?_;rintro e w3 ⟨rfl,hd⟩;have c2':=hd.at_.cells.at' 2 _ rfl)
  | (go_at_call 79;refine(Wh hd d.free.length (aZ _)).mono ?_;rintro e w4 ⟨rfl,hd⟩;have c2':=hd.at_.cells.at' 2 _ rfl)
  | (go_at_call 78;refine(JS hd 0 (zC d aj) h00 (by rw[NG];decide)).mono ?_;rintro e w5 ⟨rfl,y5,hd5⟩))
 all_goals
  go_wp2;go_ret
  exact⟨rfl,⟨B,bc,fo,fc,I,ic,y5,hd5.at_⟩,hd5.moves⟩
end
theorem UK.pU(W:World)(cs:Array Value)(e:TypeId):Row (W.alloc (.cells cs e)) W cs.size cs.toList:=by
 refine⟨by simp,by simp,λ j hj=>?_,λ j hj=>⟨?_,World.frozen?_alloc_new W _ _ j⟩⟩
 ·rw[World.cell?_alloc_new W cs e j,Array.getElem?_toList]
 rw[World.cell?_alloc_new W cs e j,Array.getElem?_eq_getElem hj];rfl
theorem xso(w:World):(Instr.makeSlice 88 (.int .i64 512) (.int .i64 512)).run Tryz.prog w= .ok (.slice w 512 512) (w.alloc (.cells (UK.tO (UK.bW 512)) 5)):=by kernel_rfl
def iE(pages:Int):Int:=min (max pages 2) 60000
theorem Qm(p m:Int)(h:(p<2/\m=2)\/(60000<p/\m=60000)\/(2<=p/\p<=60000/\m=p)):iE p=m:=by
 unfold iE;rcases h with⟨h,rfl⟩|⟨h,rfl⟩|⟨h1,h2,rfl⟩
 ·rw[Int.max_eq_right (by omega)];rfl
 ·rw[Int.max_eq_left (by omega),Int.min_eq_right (by omega)]
 rw[Int.max_eq_left (by omega),Int.min_eq_left (by omega)]
def xU(pages:Int):Dk:={x:=UK.bW 512,ax:=iE pages,free:=[],gu:=[false],rl:= -1,wl:= -1,reads:=0,puts:=0}
def lK(pages:Int):Dk:=jq (xU pages) 1
theorem Qn(pages:Int):Fit (xU pages) 1:=by
 refine⟨UK.lI 512,rfl,by omega,by omega,?_,(λ p h=>absurd h (by simp[xU])),(by simp[xU]),(by simp[xU]),(by simp[xU]),(by simp[xU]),(by simp[xU])⟩;show 2<=iE pages/\iE pages<=60000/\(1:Int)<=iE pages;unfold iE;omega
theorem xsp(w:World):(Instr.makeSlice 89 (.int .i64 1) (.int .i64 1)).run Tryz.prog w= .ok (.slice w 1 1) (w.alloc (.cells #[.bool false] 4)):=by kernel_rfl
def NH(W:World)(m:Int):World:=
 ((W.alloc (.cells #[.slice (some ⟨W.heap.size+1,0,none⟩) 512 512,.int .i64 m,.slice none 0 0,.slice (some ⟨W.heap.size+1+1,0,none⟩) 1 1,.int .i64 (-1),.int .i64 (-1),.int .i64 0,.int .i64 0] 91)).alloc (.cells (UK.tO (UK.bW 512)) 5)).alloc (.cells #[.bool false] 4)
theorem Qo(W:World)(m:Int):Below W W (NH W m):=(((aP _ _).alloc (aZ _) _).alloc (by simp) _).alloc (by simp;omega) _
theorem Wj(V:World)(x:List UInt8):aO (V.alloc (.cells (UK.tO x) 5)) V.heap.size x:=by
 refine⟨5,(0,0),?_,λ i _ h=>absurd h.2 (qh _)⟩;show(V.heap.push _)[V.heap.size]?=_;rw[sF]
theorem xzh(W:World)(m:Int)(ht:jG W):aN (NH W m) (λ k=>W.heap.size<=k) W (W.heap.size+1) 512 none 0 (W.heap.size+1+1) 1 (UK.bW 512) {xU 0 with ax:=m}:=by
 have hl:=ht.lt;refine⟨?_,?_,UK.lI 512,?_,?_,.inl ⟨rfl,rfl,rfl⟩,?_,by omega,by omega,by omega,aZ _,by omega,by omega,ht.below (Qo W m),by omega⟩
 ·have h1:=((UK.pU W #[.slice (some ⟨W.heap.size+1,0,none⟩) 512 512,.int .i64 m,.slice none 0 0,.slice (some ⟨W.heap.size+1+1,0,none⟩) 1 1,.int .i64 (-1),.int .i64 (-1),.int .i64 0,.int .i64 0] 91).alloc (.cells (UK.tO (UK.bW 512)) 5)).alloc (.cells #[.bool false] 4);show Row (NH W m) W 8 [.slice (some ⟨W.heap.size+1,0,none⟩) (UK.bW 512).length 512,.int .i64 m,.slice none 0 0,.slice (some ⟨W.heap.size+1+1,0,none⟩) 1 1,.int .i64 (-1),.int .i64 (-1),.int .i64 0,.int .i64 0];rw[UK.lI];exact h1
 ·refine aO.alloc (B:=W.heap.size+1) ?_ _;have h2:=Wj (W.alloc (.cells #[.slice (some ⟨W.heap.size+1,0,none⟩) 512 512,.int .i64 m,.slice none 0 0,.slice (some ⟨W.heap.size+1+1,0,none⟩) 1 1,.int .i64 (-1),.int .i64 (-1),.int .i64 0,.int .i64 0] 91)) (UK.bW 512);have e:(W.alloc (.cells #[.slice (some ⟨W.heap.size+1,0,none⟩) 512 512,.int .i64 m,.slice none 0 0,.slice (some ⟨W.heap.size+1+1,0,none⟩) 1 1,.int .i64 (-1),.int .i64 (-1),.int .i64 0,.int .i64 0] 91)).heap.size=W.heap.size+1:=by simp
  rw[e]at h2;exact h2
 ·show(UK.bW 512).length<=512;rw[UK.lI];exact aZ _
 ·exact mi
 have h3:=UK.pU ((W.alloc (.cells #[.slice (some ⟨W.heap.size+1,0,none⟩) 512 512,.int .i64 m,.slice none 0 0,.slice (some ⟨W.heap.size+1+1,0,none⟩) 1 1,.int .i64 (-1),.int .i64 (-1),.int .i64 0,.int .i64 0] 91)).alloc (.cells (UK.tO (UK.bW 512)) 5)) #[.bool false] 4;have e:((W.alloc (.cells #[.slice (some ⟨W.heap.size+1,0,none⟩) 512 512,.int .i64 m,.slice none 0 0,.slice (some ⟨W.heap.size+1+1,0,none⟩) 1 1,.int .i64 (-1),.int .i64 (-1),.int .i64 0,.int .i64 0] 91)).alloc (.cells (UK.tO (UK.bW 512)) 5)).heap.size=W.heap.size+1+1:=by simp
 rw[e]at h3;exact h3
theorem xql(W:World)(pages:Int)(ht:jG W)(m:Int)(hm:iE pages=m) :
  Calls Tryz.prog 44 #[.pointer W] (NH W m) λ e w'=>e= .returned (.int .i64 0)/\jo w' (λ k=>W.heap.size<=k) W (lK pages)/\Below W W w':=by
 subst hm;refine(Wi (xzh W (iE pages) ht) (Qn pages) (by show(0:Int)+1<1000000000;omega)).mono λ _ _ ⟨he,hd,hv⟩=>⟨he,hd,(Qo W _).trans (hv.below (Qo W _).size (λ _ h=>h))⟩
theorem Wl(W:World)(pages:Int)(ht:jG W) :
  Calls Tryz.prog 21 #[.int .i64 pages] W λ e w'=>e= .returned (.pointer W)/\jo w' (λ k=>W.heap.size<=k) W (lK pages)/\Below W W w':=by
 have hmk:=xso;have hmf:=xsp;have HB:=zH (xql W pages ht)
 go_enter Tryz.func21,Tryz.ntmps21
 go_wp2_with fail
 ·refine(HB.out 60000 (Qm _ _ (by omega))).mono ?_;rintro e w' ⟨rfl,hd,hb⟩;go_wp2;go_ret;exact⟨rfl,hd,hb⟩
 ·refine(HB.out 2 (Qm _ _ (by omega))).mono ?_;rintro e w' ⟨rfl,hd,hb⟩;go_wp2;go_ret;exact⟨rfl,hd,hb⟩
 refine(HB.out pages (Qm _ _ (by omega))).mono ?_;rintro e w' ⟨rfl,hd,hb⟩;go_wp2;go_ret;exact⟨rfl,hd,hb⟩
section
variable{W:World}{own:Nat->Prop}{D B bc fc I ic aj:Nat}{fo:Option Addr}{y:List UInt8}{d:Dk}
def zG(n:Int):Int:=max n (-1)
end
section
variable{W:World}{own:Nat->Prop}{D B bc fc I ic aj:Nat}{fo:Option Addr}{y:List UInt8}{d:Dk}
theorem Wm(h:aN W own D B bc fo fc I ic y d)(p:Nat)(hp:512*(p+1)<=d.x.length):okB y p=okB d.x p/\jM y p=jM d.x p:=by
 have e:∀a b,a+b<=d.x.length->(y.drop a).take b=(d.x.drop a).take b:=λ a b hab=>by
  rw[<-h.pre,List.drop_take,List.take_take,lH (by omega)]
 have h1:okB y p=okB d.x p:=by
  unfold okB;rw[e (512*p) 4 (by omega),e (512*p+4) 508 (by omega),e (512*p+4) 4 (by omega)]
 refine⟨h1,?_⟩;unfold jM oV;rw[h1,e (512*p+8) 504 (by omega)]
theorem xzi(h:aN W own D B bc fo fc I ic y d)(f:Fit d aj)(p:Int)(hh:bn d aj p=false) :
  Calls Tryz.prog 86 #[.pointer D,.int .i64 p] W λ e w'=>e= .returned (.tuple #[.string (str []),.int .i64 4])/\jo w' own D d/\Moves own own W w':=by
 have hc:=zy h f p;rw[hh]at hc
 go_enter Tryz.func86,Tryz.ntmps86
 go_wp2_with fail
 refine hc.mono ?_;rintro e w' ⟨rfl,q,rfl⟩;go_wp2;go_ret2;exact⟨rfl,⟨B,bc,fo,fc,I,ic,y,h.drewN q⟩,Moves.of_below (UK.aG (aP _ _) q)⟩
theorem xsr(h:aN W own D B bc fo fc I ic y d)(f:Fit d aj)(p:Int)(hh:bn d aj p=true)(h0:d.rl=0) :
  Calls Tryz.prog 86 #[.pointer D,.int .i64 p] W λ e w'=>e= .returned (.tuple #[.string (str []),.int .i64 7])/\jo w' own D {d with rl:= -1}/\Moves own own W w':=by
 have hc:=zy h f p;rw[hh]at hc;have HE:Hid (jf d.rl=7):=by show _=_;unfold jf;rw[if_pos h0]
 have HN:Hid (iQ d.rl= -1):=by show _=_;unfold iQ;rw[if_pos h0]
 clear h0
 go_enter Tryz.func86,Tryz.ntmps86
 go_wp2_with fail
 refine hc.mono ?_;rintro e w' ⟨rfl,q,rfl⟩;have h1:=h.drewN q;have m1:=Moves.of_below (o:=own) (UK.aG (aP W W) q);generalize W.drewN q=w1 at h1 m1 ⊢;have dA:=BH h1.cells 4 d.rl rfl f.rl;rw[HE.out,HN.out]at dA
 go_wp2_with fail
 refine dA.mono ?_;rintro e w2 ⟨rfl,r1,o1⟩;go_wp2;go_ret2;exact⟨rfl,⟨B,bc,fo,fc,I,ic,y,h1.gY (d':={d with rl:= -1}) r1 o1 rfl rfl rfl⟩,m1.trans (Moves.bX o1 h.oD)⟩
def zI(x:List UInt8)(p:Nat):Int:=if okB x p then 0 else 8
theorem xwb(h:aN W own D B bc fo fc I ic y d)(f:Fit d aj)(p:Nat)(hp:p<aj)(hh:bn d aj p=true)(h0:d.rl≠0) :
  Calls Tryz.prog 86 #[.pointer D,.int .i64 p] W λ e w'=>e= .returned (.tuple #[.string (str (jM d.x p)),.int .i64 (zI d.x p)])/\jo w' own D {d with rl:=iQ d.rl,reads:=d.reads+1}/\Moves own own W w':=by
 have hc:=zy h f p;rw[hh]at hc;have HE:Hid (jf d.rl=0):=by show _=_;unfold jf;rw[if_neg h0]
 have hq1:=f.reads.1;have hq2:=f.reads.2;have hxl:=f.len;have fD:=f.few;have hP:=Wm h p (by rw[hxl];omega);clear h0
 go_enter Tryz.func86,Tryz.ntmps86
 go_wp2_with fail
 refine hc.mono ?_;rintro e w' ⟨rfl,q,rfl⟩;have h1:=h.drewN q;have m1:=Moves.of_below (o:=own) (UK.aG (aP W W) q);generalize W.drewN q=w1 at h1 m1 ⊢;have dA:=BH h1.cells 4 d.rl rfl f.rl;rw[HE.out]at dA
 go_wp2_with fail
 refine dA.mono ?_;rintro e w2 ⟨rfl,r1,o1⟩;have h2:=h1.gY (d':={d with rl:=iQ d.rl}) r1 o1 rfl rfl rfl;have c6:=h2.cells.at' 6 _ rfl;have f6:=h2.cells.free 6 (by omega);have r3:=h2.cells.set 6 (.int .i64 (d.reads+1)) (by show 6<8;omega);have o3:=(Only.refl D w2).set 6 (.int .i64 (d.reads+1));have h3:=h2.gY (d':={d with rl:=iQ d.rl,reads:=d.reads+1}) r3 o3 rfl rfl rfl;have m3:=(m1.trans (Moves.bX o1 h.oD)).trans (Moves.bX o3 h.oD)
 go_wp2_with fail
 generalize w2.setCell (D,6) (.int .i64 (d.reads+1))=w3 at h3 m3 ⊢;have hlk:=Wd h3.bytes d.x.length bc p (h3.cells.at' 0 _ rfl) (by rw[h3.lJ];exact h.le) h.le (by omega) (by omega) h3.tab;rw[hP.1,hP.2]at hlk;have hlk2:=zH hlk;clear hlk hP;refine hlk2.out.mono ?_;rintro e w4 ⟨rfl,b4⟩;have h4:=h3.below b4;have m4:=m3.trans (Moves.of_below b4)
 cases hok:okB d.x p
 ·have HR:Hid (zI d.x p=8):=by show _=_;unfold zI;rw[hok];rfl
  have HL:Hid (jM d.x p=[]):=JN hok;go_wp2;go_ret2;exact⟨by rw[HR.out,HL.out]<;>rfl,⟨B,bc,fo,fc,I,ic,y,h4⟩,m4⟩
 have HR:Hid (zI d.x p=0):=by show _=_;unfold zI;rw[hok];rfl
 go_wp2;go_ret2
 exact⟨by rw[HR.out]<;>rfl,⟨B,bc,fo,fc,I,ic,y,h4⟩,m4⟩
end
section
variable{W:World}{own:Nat->Prop}{D B bc fc I ic aj:Nat}{fo:Option Addr}{y:List UInt8}{d:Dk}
def xV(d:Dk)(p:Nat)(s:List UInt8):Dk:={d with wl:=iQ d.wl,puts:=d.puts+1,x:=UK.wr d.x (512*p) (jm p s)}
theorem xss(h:aN W own D B bc fo fc I ic y d)(f:Fit d aj)(hq3:d.puts+1<1000000000)(p:Nat)(hp:p<aj)(hh:bn d aj p=true)(h0:d.wl≠0)(s:List UInt8)(hs:s.length=504) :
  Calls Tryz.prog 76 #[.pointer D,.int .i64 p,.string (str s)] W λ e w'=>e= .returned (.int .i64 0)/\jo w' own D (xV d p s)/\Moves own own W w':=by
 have hc:=zy h f p;rw[hh]at hc;have HE:Hid (jf d.wl=0):=by show _=_;unfold jf;rw[if_neg h0]
 have zF:=zH hq3;have hq1:=f.puts.1;have hq2:=f.puts.2;have HS:=zH (show s.length<=504 by omega);have qi:=zD d.wl f.wl;clear h0 hq3
 go_enter Tryz.func76,Tryz.ntmps76
 go_wp2_with fail
 refine hc.mono ?_;rintro e w' ⟨rfl,q,rfl⟩;have h1:=h.drewN q;have m1:=Moves.of_below (o:=own) (UK.aG (aP W W) q);generalize W.drewN q=w1 at h1 m1 ⊢;have dA:=BH h1.cells 5 d.wl rfl f.wl;rw[HE.out]at dA
 go_wp2_with fail
 refine dA.mono ?_;rintro e w2 ⟨rfl,r1,o1⟩;have h2:=h1.gY (d':={d with wl:=iQ d.wl}) r1 o1 rfl rfl rfl;have c7:=h2.cells.at' 7 _ rfl;have f7:=h2.cells.free 7 (by omega);have r3:=h2.cells.set 7 (.int .i64 (d.puts+1)) (by show 7<8;omega);have o3:=(Only.refl D w2).set 7 (.int .i64 (d.puts+1));have h3:=h2.gY (d':={d with wl:=iQ d.wl,puts:=d.puts+1}) r3 o3 rfl rfl rfl;have m3:=(m1.trans (Moves.bX o1 h.oD)).trans (Moves.bX o3 h.oD)
 have d3:Dat W (w2.setCell (D,7) (.int .i64 (d.puts+1))) own D B bc fo fc I ic y {d with wl:=iQ d.wl,puts:=d.puts+1} aj:=
  ⟨h3,⟨f.len,f.flags,f.one,f.few,f.ax,f.free,f.eO,f.rl,qi,f.reads,by show 0<=d.puts+1/\_;exact⟨by omega,zF.out⟩⟩,m3⟩
 go_wp2_with fail
 refine(JS d3 p s hp HS.out).mono ?_;rintro e w4 ⟨rfl,y4,d4⟩;go_wp2;go_ret;exact⟨rfl,⟨B,bc,fo,fc,I,ic,y4,d4.at_⟩,d4.moves⟩
theorem xwc(h:aN W own D B bc fo fc I ic y d)(f:Fit d aj)(p:Int)(hh:bn d aj p=false)(s:List UInt8) :
  Calls Tryz.prog 76 #[.pointer D,.int .i64 p,.string (str s)] W λ e w'=>e= .returned (.int .i64 4)/\jo w' own D d/\Moves own own W w':=by
 have hc:=zy h f p;rw[hh]at hc
 go_enter Tryz.func76,Tryz.ntmps76
 go_wp2_with fail
 refine hc.mono ?_;rintro e w' ⟨rfl,q,rfl⟩;go_wp2;go_ret;exact⟨rfl,⟨B,bc,fo,fc,I,ic,y,h.drewN q⟩,Moves.of_below (UK.aG (aP _ _) q)⟩
theorem xqm(h:aN W own D B bc fo fc I ic y d)(f:Fit d aj)(p:Int)(hh:bn d aj p=true)(h0:d.wl=0)(s:List UInt8)(hs:s.length=504) :
  Calls Tryz.prog 76 #[.pointer D,.int .i64 p,.string (str s)] W λ e w'=>e= .returned (.int .i64 7)/\jo w' own D {d with wl:= -1}/\Moves own own W w':=by
 have hc:=zy h f p;rw[hh]at hc;have HE:Hid (jf d.wl=7):=by show _=_;unfold jf;rw[if_pos h0]
 have HN:Hid (iQ d.wl= -1):=by show _=_;unfold iQ;rw[if_pos h0]
 clear h0
 go_enter Tryz.func76,Tryz.ntmps76
 go_wp2_with fail
 refine hc.mono ?_;rintro e w' ⟨rfl,q,rfl⟩;have h1:=h.drewN q;have m1:=Moves.of_below (o:=own) (UK.aG (aP W W) q);generalize W.drewN q=w1 at h1 m1 ⊢;have dA:=BH h1.cells 5 d.wl rfl f.wl;rw[HE.out,HN.out]at dA
 go_wp2_with fail
 refine dA.mono ?_;rintro e w2 ⟨rfl,r1,o1⟩;go_wp2;go_ret;exact⟨rfl,⟨B,bc,fo,fc,I,ic,y,h1.gY (d':={d with wl:= -1}) r1 o1 rfl rfl rfl⟩,m1.trans (Moves.bX o1 h.oD)⟩
end
section
variable{W:World}{own:Nat->Prop}{D B bc fc I ic aj:Nat}{fo:Option Addr}{y:List UInt8}{d:Dk}
theorem xzj(h:aN W own D B bc fo fc I ic y d)(f:Fit d aj)(p:Int)(hh:bn d aj p=false) :
  Calls Tryz.prog 108 #[.pointer D,.int .i64 p] W λ e w'=>e= .returned (.int .i64 4)/\jo w' own D d/\Moves own own W w':=by
 have hc:=zy h f p;rw[hh]at hc
 go_enter Tryz.func108,Tryz.ntmps108
 go_wp2_with fail
 refine hc.mono ?_;rintro e w' ⟨rfl,q,rfl⟩;go_wp2;go_ret;exact⟨rfl,⟨B,bc,fo,fc,I,ic,y,h.drewN q⟩,Moves.of_below (UK.aG (aP _ _) q)⟩
theorem xst(h:aN W own D B bc fo fc I ic y d)(f:Fit d aj)(p:Int)(hh:bn d aj p=true)(h0:d.wl=0) :
  Calls Tryz.prog 108 #[.pointer D,.int .i64 p] W λ e w'=>e= .returned (.int .i64 7)/\jo w' own D {d with wl:= -1}/\Moves own own W w':=by
 have hc:=zy h f p;rw[hh]at hc;have HE:Hid (jf d.wl=7):=by show _=_;unfold jf;rw[if_pos h0]
 have HN:Hid (iQ d.wl= -1):=by show _=_;unfold iQ;rw[if_pos h0]
 clear h0
 go_enter Tryz.func108,Tryz.ntmps108
 go_wp2_with fail
 refine hc.mono ?_;rintro e w' ⟨rfl,q,rfl⟩;have h1:=h.drewN q;have m1:=Moves.of_below (o:=own) (UK.aG (aP W W) q);generalize W.drewN q=w1 at h1 m1 ⊢;have dA:=BH h1.cells 5 d.wl rfl f.wl;rw[HE.out,HN.out]at dA
 go_wp2_with fail
 refine dA.mono ?_;rintro e w2 ⟨rfl,r1,o1⟩;go_wp2;go_ret;exact⟨rfl,⟨B,bc,fo,fc,I,ic,y,h1.gY (d':={d with wl:= -1}) r1 o1 rfl rfl rfl⟩,m1.trans (Moves.bX o1 h.oD)⟩
end
end Go.Proofs.YtlipgbnnbefhjaaGreatDoor
