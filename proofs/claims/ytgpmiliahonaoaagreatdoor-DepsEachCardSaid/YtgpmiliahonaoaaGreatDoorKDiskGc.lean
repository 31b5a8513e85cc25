/- Facts on texts and trees on pages. -/
import Derived.Test.YtgpmiliahonaoaaGreatDoorKCrcc
import Derived.BigRegion
set_option maxRecDepth 100000
set_option maxHeartbeats 8000000
set_option linter.unusedSimpArgs false
namespace Go.Proofs.YtgpmiliahonaoaaGreatDoor
open Go.RowKit
open UK (str aF nth Only wr)
open Go.BigFrame
namespace UK
theorem Zg(x:List UInt8)(a:Nat)(s:List UInt8)(v:UInt8)(h:a+s.length<x.length):(wr x a s).set (a+s.length) v=wr x a (s++[v]):=by
 unfold wr;have h1:(x.take a).length=a:=by rw[zt];omega
 rw[List.set_append_right _ _ (by omega),h1,List.set_append_right _ _ (by omega),show a+s.length-a-s.length=0 by omega];rw[lm h,z0,cO,zl];rfl
theorem Zh(x:List UInt8)(a:Nat)(s:List UInt8)(h:a<=x.length):(wr x a s).take (a+s.length)=x.take a++s:=by
 unfold wr;have h1:(x.take a).length=a:=by rw[zt];omega
 rw[<-cO,List.take_left' (by rw[zl,h1])]
theorem Zi(x:List UInt8)(a:Nat)(s:List UInt8)(k:Nat)(h:a<=x.length):(wr x a s).drop (a+s.length+k)=x.drop (a+s.length+k):=by
 unfold wr;have h1:(x.take a).length=a:=by rw[zt];omega
 rw[<-cO,List.drop_append,List.drop_eq_nil_of_le (by rw[zl,h1];omega),jM,zl,h1,show a+s.length+k-(a+s.length)=k by omega,jV]
theorem zW(x:List UInt8)(a:Nat)(s t:List UInt8)(h:a<=x.length):wr (wr x a s) (a+s.length) t=wr x a (s++t):=by
 conv=>lhs;unfold wr
 have e:=Zh x a s h;have f:=Zi x a s t.length h;unfold wr at e f ⊢;rw[e,f,zl,cO,cO,Nat.add_assoc]
theorem Zj(x:List UInt8)(a:Nat)(b t:List UInt8)(h:a+b.length<=x.length):wr (wr x (a+b.length) t) a b=wr x a (b++t):=by
 unfold wr;have h1:(x.take (a+b.length)).length=a+b.length:=by rw[zt];omega
 rw[qE (by omega),kL,gH (by omega),List.drop_append_of_le_length (by omega),List.drop_eq_nil_of_le (by omega),jM,zl,cO,Nat.add_assoc]
theorem O0(x:List UInt8)(a:Nat)(s:List UInt8)(h:a<=x.length):((wr x a s).drop a).take s.length=s:=by
 unfold wr;have h1:(x.take a).length=a:=by rw[zt];omega
 rw[List.drop_left' h1,List.take_left' rfl]
theorem LG(x:List UInt8)(a:Nat):wr x a []=x:=by simp[wr]
def w32(p:Nat):UInt32:=UInt32.ofNat p
theorem Ga(p:Nat):(p:Int)%4294967296=((w32 p).toNat:Int):=by
 simp[w32]
theorem xK{B:Nat}{w w':World}(h:kD w)(ho:Only B w w')(hB:0 ≠B):kD w':=λ c=>by
 have hl:=h.lt;rw[<-h c];exact gq (a:=⟨0,_,none⟩) (ho.block _ hl hB)
end UK
open UK (w32)
theorem Zk(v:UInt32)(k:Nat)(h:k<4):(aI v).take (k+1)=(aI v).take k++[UK.mG v k]:=by
 match k,h with
 | 0,_|1,_|2,_|3,_=>rfl
theorem Eh{W:World}{B:Nat}{x:List UInt8}(h:aF W B x)(o n c:Nat)(hn:4<=n)(ho:o+n<=x.length)(hl:n<=100000000)(v:UInt32) :
  Calls Tryz.prog 90 #[.slice (B,o) n c,.int .u32 v.toNat] W λ e w'=>e= .returned (.tuple #[])/\aF w' B (UK.wr x o (aI v))/\Only B W w':=by
 have h4:(aI v).length=4:=rfl
 go_enter Tryz.func90,Tryz.ntmps90
 go_wp2_with fail
 go_loopw [5] (λ i Tg=>∃k:Nat,k<=4/\i= .int .i64 k/\aF Tg B (UK.wr x o ((aI v).take k))/\Only B W Tg) (λ i _=>4-(intOf i).toNat)
 case atStart=>exact⟨0,aY _,rfl,by rw[jW,UK.LG];exact h,Only.refl _ _⟩
 obtain⟨k,hk,rfl,hb,hw⟩:=hrel;by_cases hlt:k<4
 ·have hkl:((aI v).take k).length=k:=by rw[zt,h4];omega
  have hwl:(UK.wr x o ((aI v).take k)).length=x.length:=UK.iW _ _ _ (by rw[hkl];omega);have hc:=hb.cell (i:=o+k) (by omega);have hf:=hb.free (i:=o+k) (by omega);have hset:=hb.set (o+k) (UK.mG v k);have hs2:=UK.Zg x o ((aI v).take k) (UK.mG v k) (by rw[hkl];omega);rw[hkl]at hs2;rw[hs2,<-Zk v k hlt]at hset;have hwo:=hw.set (o+k) (.int .u8 ((UK.mG v k).toNat:Int));clear hs2 hwl hkl h4;go_wp2;go_roundw
  case rel=>exact⟨k+1,by omega,by go_num,hset,hwo⟩
  case measure=>simp[intOf];omega
 obtain rfl:k=4:=by omega
 go_wp2
 go_end0
 exact⟨rfl,hb,hw⟩
theorem Ti{W:World}{B:Nat}{x:List UInt8}(h:aF W B x)(o n c:Nat)(hn:4<=n)(ho:o+n<=x.length) :
  Calls Tryz.prog 115 #[.slice (B,o) n c] W λ e w'=>e= .returned (.int .u32 (dI ((x.drop o).take 4)).toNat)/\Below W W w':=by
 have c0:=h.cell (i:=o) (by omega);have c1:=h.cell (i:=o+1) (by omega);have c2:=h.cell (i:=o+2) (by omega);have c3:=h.cell (i:=o+3) (by omega)
 have hg:Hid (dI ((x.drop o).take 4)=UK.jl (UK.jl (UK.jl (UK.wide (nth x o)) (UK.shl (UK.wide (nth x (o+1))) 1)) (UK.shl (UK.wide (nth x (o+2))) 2)) (UK.shl (UK.wide (nth x (o+3))) 3)):=by
  show _=_;unfold dI
  have e:∀j,j<4->nth ((x.drop o).take 4) j=nth x (o+j):=λ j hj=>by
   simp only[nth,fE];rw[eX hj,eY]
  rw[e 0 (by omega),e 1 (by omega),e 2 (by omega),e 3 (by omega),jN]
 go_enter Tryz.func115,Tryz.ntmps115
 go_wp2
 go_quiet (fail)
 go_wp2;go_ret
 exact⟨by rw[hg.out]<;>rfl,UK.dK (aV _ _) _⟩
theorem O1(v:UInt32)(w:World) :
  Calls Tryz.prog 153 #[.int .u32 v.toNat] w λ e w'=>e= .returned (.string (str (aI v)))/\Below w w w':=by
 go_enter Tryz.func153,Tryz.ntmps153
 go_wp2_with fail
 have hz:aF (w.alloc (.cells #[.int .u8 0,.int .u8 0,.int .u8 0,.int .u8 0] 275)) w (UK.bF 4):=by
  refine⟨275,(0,0),?_,λ i _ h=>absurd h.2 (jO _)⟩;show(w.heap.push _)[w.heap.size]?=_;rw[pW];rfl
 have AV:(UK.bF 4).length=4:=UK.jm 4;refine(Eh hz 0 4 4 (by omega) (by omega) (by omega) v).mono ?_;rintro e w2 ⟨rfl,hb,ho⟩;have hw:UK.wr (UK.bF 4) 0 (aI v)=aI v:=rfl;rw[hw]at hb;have hcv:=UK.tY (P:=Tryz.prog) (src:=94) (dst:=9) Tryz.underlying94 Tryz.underlying5 Tryz.underlying9 hb 0 4 4 (by show 0+4<=4;omega);have hw2:((aI v).drop 0).take 4=aI v:=rfl;rw[hw2]at hcv;go_wp2;go_ret;exact⟨rfl,((aV _ _).alloc (aO _) _).trans (ho.below (by simp) (aO _))⟩
def pX(p:Nat)(s:List UInt8):List UInt8:=aI (w32 p)++(s++UK.bF (504-s.length))
def iX(p:Nat)(s:List UInt8):List UInt8:=aI (ik 0 (pX p s))++pX p s
theorem gP{W:World}{D B:Nat}{x:List UInt8}(h:aF W B x)(n c p:Nat)(s:List UInt8)(hd:W.cell? D=some (.slice B n c))(hn:n<=x.length)(hc:n<=c)(bi:n<=100000000)(hp:512*(p+1)<=n)(hs:s.length<=504)
  (ht:kD W) (hB:0 ≠B) :
  Calls Tryz.prog 152 #[.pointer D,.int .i64 p,.string (str s)] W λ e w'=>e= .returned (.tuple #[])/\aF w' B (UK.wr x (512*p) (iX p s))/\Only B W w':=by
 have h32:=zH (show(p:Int)=((w32 p).toNat:Int) by rw[<-UK.Ga p];omega);have hq:(p+1)*512-p*512=512:=by omega
 go_enter Tryz.func152,Tryz.ntmps152
 go_wp2_with fail
 obtain⟨o,HO⟩:∃o,p*512=o:=⟨_,rfl⟩;rw[HO];have hq2:(p+1)*512-o=512:=by omega
 rw[hq2];have hP:=Eh h (o+4) 508 (c-o-4) (by omega) (by omega) (by omega) (w32 p);rw[<-h32.out]at hP;refine hP.mono ?_;rintro e w1 ⟨rfl,h1,o1⟩;have hl1:(UK.wr x (o+4) (aI (w32 p))).length=x.length:=UK.iW _ _ _ (by show o+4+4<=_;omega);have hcp:=λ cc=>UK.Ei (P:=Tryz.prog) (dT:=94) (sT:=9) (ty:=3) Tryz.underlying94 (λ w=>by kernel_rfl) h1 (o+8) 504 cc s hs (by omega);have h2:=h1.setCells s (o+8) (by omega);have o2:=o1.trans (Only.setCells (UK.cellsOf s) (o+8) (Only.refl B w1));have hl2:=UK.iW (UK.wr x (o+4) (aI (w32 p))) (o+8) s (by omega);rw[hl1]at hl2;obtain⟨w2,HW2⟩:∃w2,w1.setCells B (o+8) (UK.cellsOf s)=w2:=⟨_,rfl⟩;rw[HW2]at h2 o2;rw[HW2]at hcp;have hcl:=λ cc=>UK.LH (P:=Tryz.prog) (t:=94) (ty:=0) Tryz.underlying94 (λ w=>by kernel_rfl) h2 (o+(8+s.length)) (512-(8+s.length)) cc (by omega);have hz:=h2.setCells (UK.bF (512-(8+s.length))) (o+(8+s.length)) (by rw[UK.jm];omega);have o3:=o2.trans (Only.setCells (UK.cellsOf (UK.bF (512-(8+s.length)))) (o+(8+s.length)) (Only.refl B w2));have hl3:=UK.iW (UK.wr (UK.wr x (o+4) (aI (w32 p))) (o+8) s) (o+(8+s.length)) (UK.bF (512-(8+s.length))) (by rw[UK.jm];omega);rw[hl2]at hl3;obtain⟨w3,HW3⟩:∃w3,w2.setCells B (o+(8+s.length)) (UK.cellsOf (UK.bF (512-(8+s.length))))=w3:=⟨_,rfl⟩;rw[HW3]at hz o3;rw[HW3]at hcl
 have hcl0:s.length=504->∀cc,(Builtin.clear_ #[94] 0 #[.slice (B,o) (512-(8+s.length)) cc]).run Tryz.prog w2= .ok (.tuple #[]) w3:=λ e cc=>by
  have this:=UK.LH (P:=Tryz.prog) (t:=94) (ty:=0) Tryz.underlying94 (λ w=>by kernel_rfl) h2 o (512-(8+s.length)) cc (by omega);rw[<-HW3];have e0:512-(8+s.length)=0:=by omega
  rw[e0]at this ⊢;exact this
 clear HW2 HW3
 have HX:Hid (UK.wr (UK.wr (UK.wr x (o+4) (aI (w32 p))) (o+8) s) (o+(8+s.length)) (UK.bF (512-(8+s.length)))=UK.wr x (o+4) (pX p s)):=by
  show _=_;have h4:(aI (w32 p)).length=4:=rfl;have e1:=UK.zW x (o+4) (aI (w32 p)) s (by omega);have e2:=UK.zW x (o+4) (aI (w32 p)++s) (UK.bF (512-(8+s.length))) (by omega);rw[h4,show o+4+4=o+8 by omega]at e1;rw[zl,h4,show o+4+(4+s.length)=o+(8+s.length) by omega]at e2;rw[e1,e2];unfold pX;rw[cO,show 512-(8+s.length)=504-s.length by omega]
 rw[HX.out]at hz hl3
 have hrl:(pX p s).length=508:=by
  unfold pX;rw[zl,zl,UK.jm];show 4+_=_;omega
 have HR:Hid (((UK.wr x (o+4) (pX p s)).drop (o+4)).take 508=pX p s):=by
  have:=UK.O0 x (o+4) (pX p s) (by omega)
  rwa [hrl]at this
 have hcv:=λ cc=>UK.tY (P:=Tryz.prog) (src:=94) (dst:=9) Tryz.underlying94 Tryz.underlying5 Tryz.underlying9 hz (o+4) 508 cc (by omega);rw[HR.out]at hcv
 have HE:Hid (UK.wr (UK.wr x (o+4) (pX p s)) o (aI (ik 0 (pX p s)))=UK.wr x (512*p) (iX p s)):=by
  show _=_;rw[show 512*p=o by omega];exact UK.Zj x o (aI (ik 0 (pX p s))) (pX p s) (by show o+4<=_;omega)
 have ht3:=UK.xK ht o3 hB;clear h1 h2 o1 o2 hl1 hl2 hP h32 HX HR;generalize pX p s=r at hz hl3 hrl hcv HE;by_cases hcase:c-o=8+s.length
 ·have hs4:s.length=504:=by omega
  have Zl:=hcl0 hs4;clear hcl hcl0 hs4
  go_wp2_with fail
  refine(Ox r w3 ht3 (by rw[hrl];decide)).mono ?_;rintro e w' ⟨rfl,rfl⟩
  go_wp2_with fail
  refine(dQ (ik 0 r) w3).mono ?_;rintro e w5 ⟨rfl,b5⟩;have h5:=hz.below b5 hz.lt;have hcp2:=λ cc=>UK.Ei (P:=Tryz.prog) (dT:=94) (sT:=9) (ty:=3) Tryz.underlying94 (λ w=>by kernel_rfl) h5 o 512 cc (aI (ik 0 r)) (by show 4<=_;omega) (by show o+4<=_;omega);have h6:=h5.setCells (aI (ik 0 r)) o (by show o+4<=_;omega);have o6:=(o3.trans (Only.of_below b5)).trans (Only.setCells (UK.cellsOf (aI (ik 0 r))) o (Only.refl B w5));rw[HE.out]at h6;generalize w5.setCells B o (UK.cellsOf (aI (ik 0 r)))=w6 at hcp2 h6 o6;go_wp2
  go_end0
  exact⟨rfl,h6,o6⟩
 clear hcl0
 go_wp2_with fail
 refine(Ox r w3 ht3 (by rw[hrl];decide)).mono ?_;rintro e w' ⟨rfl,rfl⟩
 go_wp2_with fail
 refine(dQ (ik 0 r) w3).mono ?_;rintro e w5 ⟨rfl,b5⟩;have h5:=hz.below b5 hz.lt;have hcp2:=λ cc=>UK.Ei (P:=Tryz.prog) (dT:=94) (sT:=9) (ty:=3) Tryz.underlying94 (λ w=>by kernel_rfl) h5 o 512 cc (aI (ik 0 r)) (by show 4<=_;omega) (by show o+4<=_;omega);have h6:=h5.setCells (aI (ik 0 r)) o (by show o+4<=_;omega);have o6:=(o3.trans (Only.of_below b5)).trans (Only.setCells (UK.cellsOf (aI (ik 0 r))) o (Only.refl B w5));rw[HE.out]at h6;generalize w5.setCells B o (UK.cellsOf (aI (ik 0 r)))=w6 at hcp2 h6 o6;go_wp2
 go_end0
 exact⟨rfl,h6,o6⟩
open Go.RowKit
open UK (str aF nth Only w32)
open Go.BigFrame
def okB(x:List UInt8)(p:Nat):Bool:=decide (dI ((x.drop (512*p)).take 4)=ik 0 ((x.drop (512*p+4)).take 508))&&decide (((dI ((x.drop (512*p+4)).take 4)).toNat:Int)=p)
def AX(x:List UInt8)(p:Nat):List UInt8:=(x.drop (512*p+8)).take 504
def jX(x:List UInt8)(p:Nat):List UInt8:=if okB x p then AX x p else []
theorem O3{x:List UInt8}{p:Nat}(h:okB x p=true):jX x p=AX x p:=by unfold jX;rw[h];rfl
theorem O5{x:List UInt8}{p:Nat}(h:okB x p=false):jX x p=[]:=by unfold jX;rw[h];rfl
theorem Zm{W:World}{D B:Nat}{x:List UInt8}(h:aF W B x)(n c p:Nat)(hd:W.cell? D=some (.slice B n c))(hn:n<=x.length)(hc:n<=c)(bi:n<=100000000)(hp:512*(p+1)<=n)(ht:kD W) :
  Calls Tryz.prog 200 #[.pointer D,.int .i64 p] W λ e w'=>e= .returned (.tuple #[.string (str (jX x p)),.bool (okB x p)])/\Below W W w':=by
 obtain⟨o,HO⟩:∃o,p*512=o:=⟨_,rfl⟩;have hq2:(p+1)*512-o=512:=by omega
 have xL:=λ cc=>UK.tY (P:=Tryz.prog) (src:=94) (dst:=9) Tryz.underlying94 Tryz.underlying5 Tryz.underlying9 h o 4 cc (by omega);have hl4:((x.drop o).take 4).length=4:=by rw[zt,zd];omega
 have hl5:((x.drop (o+4)).take 508).length=508:=by rw[zt,zd];omega
 have HK:Hid (okB x p=(decide (dI ((x.drop o).take 4)=ik 0 ((x.drop (o+4)).take 508))&&decide (((dI ((x.drop (o+4)).take 4)).toNat:Int)=p))):=by
  show _=_;unfold okB;rw[show 512*p=o by omega]
 have HL:Hid (AX x p=(x.drop (o+8)).take 504):=by
  show _=_;unfold AX;rw[show 512*p=o by omega]
 have hu:=λ w hb=>Ti (W:=w) (B:=B) (x:=x) hb (o+4) 508 (c-o-4) (by omega) (by omega);have hvv:=λ (w:World) (hb:aF w B x)=>UK.tY (P:=Tryz.prog) (src:=94) (dst:=9) Tryz.underlying94 Tryz.underlying5 Tryz.underlying9 hb (o+4) 508 (c-o-4) (by omega);have hvw:=λ (w:World) (hb:aF w B x)=>UK.tY (P:=Tryz.prog) (src:=94) (dst:=9) Tryz.underlying94 Tryz.underlying5 Tryz.underlying9 hb (o+8) 504 (c-o-8) (by omega);generalize (x.drop o).take 4=a at xL hl4 HK;generalize (x.drop (o+4)).take 508=r at hvv hl5 HK;generalize dI ((x.drop (o+4)).take 4)=u at hu HK;generalize (x.drop (o+8)).take 504=s at hvw HL
 go_enter Tryz.func200,Tryz.ntmps200
 go_wp2_with fail
 refine(Zb a W hl4).mono ?_;rintro e w' ⟨rfl,k,rfl⟩;have hv1:=hvv _ (h.drewN k)
 go_wp2_with fail
 refine(Ox r _ (ht.drewN k) (by rw[hl5];decide)).mono ?_;rintro e w' ⟨rfl,rfl⟩;have b1:=UK.dK (aV W W) k;have h1:=h.drewN k;generalize W.drewN k=w1 at h1 b1 hv1 ⊢;generalize dI a=ga at HK ⊢;generalize ik 0 r=ar at HK ⊢;by_cases hne:ga=ar
 ·subst hne
  go_wp2_with fail
  refine(hu w1 h1).mono ?_;rintro e w2 ⟨rfl,b2⟩;have h2:=h1.below b2 h1.lt;have hv2:=hvw _ h2;have b3:=b1.trans (b2.mono b1.size);by_cases hp2:(u.toNat:Int)=p
  ·have uO:Hid (okB x p=true):=by show _=_;rw[HK.out,decide_eq_true hp2];simp
   have hp3:((u.toNat:Int)==p)=true:=beq_iff_eq.2 hp2;clear hp2 hv1;go_wp2;go_ret2;exact⟨by rw[O3 uO.out,uO.out,HL.out]<;>rfl,b3⟩
  have uO:Hid (okB x p=false):=by show _=_;rw[HK.out,decide_eq_false hp2,Bool.and_false]
  have hp3:((u.toNat:Int)==p)=false:=beq_eq_false_iff_ne.2 hp2;clear hp2 hv1 hv2;go_wp2;go_ret2;exact⟨by rw[O5 uO.out,uO.out]<;>rfl,b3⟩
 have uO:Hid (okB x p=false):=by show _=_;rw[HK.out,decide_eq_false hne,Bool.false_and]
 have hp3:(ga==ar)=false:=beq_eq_false_iff_ne.2 hne;have hnu:=UK.Zn;clear hne;go_wp2;go_ret2;exact⟨by rw[O5 uO.out,uO.out]<;>rfl,b1⟩
open UK (str aF nth Only w32 Row)
structure Dk where
 x:List UInt8
 aC:Int
 free:List Nat
 fP:List Bool
 rl:Int
 wl:Int
 reads:Int
 puts:Int
def ints(l:List Nat):List Value:=l.map λ (n:Nat)=>Value.int .i64 (n:Int)
def AY(l:List Bool):List Value:=l.map Value.bool
theorem gQ(l:List Nat):(ints l).length=l.length:=by simp[ints]
theorem Iz(l:List Bool):(AY l).length=l.length:=by simp[AY]
def Dk.vals(d:Dk)(B bc:Nat)(fo:Option Addr)(fc I ic:Nat):List Value:=
 [.slice B d.x.length bc,.int .i64 d.aC,.slice fo d.free.length fc,.slice I d.fP.length ic,.int .i64 d.rl,.int .i64 d.wl,.int .i64 d.reads,.int .i64 d.puts]
structure aJ(W:World)(own:Nat->Prop)(D B bc:Nat)(fo:Option Addr)(fc I ic:Nat)(y:List UInt8)(d:Dk):Prop where
 cells:Row W D 8 (d.vals B bc fo fc I ic)
 bytes:aF W B y
 mH:y.length=bc
 le:d.x.length<=bc
 pre:y.take d.x.length=d.x
 eT:(fo=none/\d.free=[]/\fc=0)\/∃F,fo=some ⟨F,0,none⟩/\Row W F fc (ints d.free)/\F≠D/\F≠B/\F≠I/\own F
 flags:Row W I ic (AY d.fP)
 DB:D≠B
 DI:D≠I
 BI:B≠I
 oD:own D
 oB:own B
 oI:own I
 tab:kD W
 gK:¬own 0
def iY(W:World)(own:Nat->Prop)(D:Nat)(d:Dk):Prop:=∃B bc fo fc I ic y,aJ W own D B bc fo fc I ic y d
structure Moves(own own':Nat->Prop)(W W':World):Prop where
 os:W'.os=W.os
 tape:W'.tape=W.tape
 output:W'.output=W.output
 size:W.heap.size<=W'.heap.size
 block:∀k,k<W.heap.size->¬own k->W'.heap[k]?=W.heap[k]?
 owns:∀k,own' k->own k\/W.heap.size<=k
namespace Moves
variable{o o' o'':Nat->Prop}{A B C:World}
theorem trans(h:Moves o o' A B)(k:Moves o' o'' B C):Moves o o'' A C:=
 ⟨k.os.trans h.os,k.tape.trans h.tape,k.output.trans h.output,aP h.size k.size,
  λ i hi hn=>(k.block i (bZ hi h.size) (λ ho=>by rcases h.owns i ho with h1|h1;exact hn h1;omega)).trans (h.block i hi hn),
  λ i hi=>by
   rcases k.owns i hi with h1|h1
   ·exact h.owns i h1
   exact .inr (aP h.size h1)⟩
theorem of_below(h:Below A.heap.size A B):Moves o o A B:=⟨h.os,h.tape,h.output,h.size,λ k hk _=>h.block k hk,λ _ h=>.inl h⟩
theorem bG{G:Nat}(h:Only G A B)(hG:o G):Moves o o A B:=⟨h.os,h.tape,h.output,h.size,λ k hk hn=>h.block k hk (λ e=>hn (e▸hG)),λ _ h=>.inl h⟩
theorem below(h:Moves o o' A B){n:Nat}(hn:n<=A.heap.size)(ho:∀k,o k->n<=k):Below n A B:=
 ⟨h.os,h.tape,h.output,h.size,λ k hk=>h.block k (by omega) (λ hh=>by have:=ho k hh;omega)⟩
end Moves
def iC(n:Int):Int:=if n=0 then -1 else if 0<n then n-1 else n
def iU(n:Int):Int:=if n=0 then 7 else 0
theorem zX{W:World}{D:Nat}{vs:List Value}(h:Row W D 8 vs)(j:Nat)(n:Int)(hj:vs[j]?=some (.int .i64 n))(hn: -1<=n/\n<=9223372036854775807) :
  Calls Tryz.prog 151 #[.pointer D,.pointer (D,j)] W λ e w'=>e= .returned (.int .i64 (iU n))/\Row w' D 8 (vs.set j (.int .i64 (iC n)))/\Only D W w':=by
 have hc:=h.at' j _ hj;have hl:j<vs.length:=(dE.1 hj).1;have hf:=h.free j (by have:=h.le;omega);have hs:=h.set j (.int .i64 (iC n)) hl;have ho:=(Only.refl D W).set j (.int .i64 (iC n));have bi:=hn.1;have hn2:=hn.2;clear hn;by_cases h0:n=0
 ·have HE:Hid (iU n=7):=by show _=_;unfold iU;rw[if_pos h0]
  have HN:Hid (iC n= -1):=by show _=_;unfold iC;rw[if_pos h0]
  rw[HN.out]at hs ho;rw[HE.out,HN.out];subst h0
  go_enter Tryz.func151,Tryz.ntmps151
  go_wp2;go_ret
  exact⟨rfl,hs,ho⟩
 have hne:(n==0)=false:=beq_eq_false_iff_ne.2 h0;have HE:Hid (iU n=0):=by show _=_;unfold iU;rw[if_neg h0]
 rw[HE.out];by_cases hp:0<n
 ·have HN:Hid (iC n=n-1):=by show _=_;unfold iC;rw[if_neg h0,if_pos hp]
  rw[HN.out]at hs ho;rw[HN.out];clear h0
  go_enter Tryz.func151,Tryz.ntmps151
  go_wp2;go_ret
  exact⟨rfl,hs,ho⟩
 have HN:Hid (iC n=n):=by show _=_;unfold iC;rw[if_neg h0,if_neg hp]
 have hset:vs.set j (.int .i64 n)=vs:=by
  refine List.ext_getElem? (λ i=>?_);by_cases hi:i=j
  ·subst hi;rw[List.getElem?_set_self hl,hj]
  rw[List.getElem?_set_ne (by omega)]
 rw[HN.out,hset];clear h0
 go_enter Tryz.func151,Tryz.ntmps151
 go_wp2;go_ret
 exact⟨rfl,h,Only.refl _ _⟩
open Go.RowKit
open UK (str aF nth Only w32 Row)
open Go.BigFrame
structure Fit(d:Dk)(au:Nat):Prop where
 len:d.x.length=512*au
 flags:d.fP.length=au
 one:1<=au
 few:au<=60000
 aC:2<=d.aC/\d.aC<=60000/\(au:Int)<=d.aC
 free:∀p,p∈d.free->1<=p/\p<au
 dS:d.free.length<=au
 rl: -1<=d.rl/\d.rl<=9223372036854775807
 wl: -1<=d.wl/\d.wl<=9223372036854775807
 reads:0<=d.reads/\d.reads<1000000000
 puts:0<=d.puts/\d.puts<1000000000
section
variable{W:World}{own:Nat->Prop}{D B bc fc I ic au:Nat}{fo:Option Addr}{y:List UInt8}{d:Dk}
theorem aJ.below{W':World}(h:aJ W own D B bc fo fc I ic y d)(hb:Below W W W'):aJ W' own D B bc fo fc I ic y d:=by
 refine⟨h.cells.below hb h.cells.lt,h.bytes.below hb h.bytes.lt,h.mH,h.le,h.pre,?_,h.flags.below hb h.flags.lt,h.DB,h.DI,h.BI,h.oD,h.oB,h.oI,h.tab.below hb,h.gK⟩;rcases h.eT with h0|⟨F,e,hr,r⟩
 ·exact .inl h0
 exact .inr ⟨F,e,hr.below hb hr.lt,r⟩
theorem aJ.drewN(h:aJ W own D B bc fo fc I ic y d)(n:Nat):aJ (W.drewN n) own D B bc fo fc I ic y d:=h.below (UK.dK (aV _ _) n)
theorem Gb(h:aJ W own D B bc fo fc I ic y d)(f:Fit d au) :
  Calls Tryz.prog 74 #[.pointer D] W λ e w'=>e= .returned (.int .i64 au)/\w'=W:=by
 have c0:=h.cells.at' 0 _ rfl;rw[f.len]at c0;have il:=f.few
 go_enter Tryz.func74,Tryz.ntmps74
 go_wp2;go_ret
 exact⟨by simp,rfl⟩
theorem fu(h:aJ W own D B bc fo fc I ic y d)(f:Fit d au) :
  Calls Tryz.prog 24 #[.pointer D] W λ e w'=>e= .returned (.int .i64 (d.aC-au+d.free.length))/\∃q,w'=W.drewN q:=by
 have c1:=λ q=>(h.drewN q).cells.at' 1 _ rfl;have c2:=λ q=>(h.drewN q).cells.at' 2 _ rfl;have c1':=h.cells.at' 1 _ rfl;have c2':=h.cells.at' 2 _ rfl;have il:=f.few;have hm1:=f.aC.1;have hm2:=f.aC.2.1;have CL:=f.aC.2.2;have hfl:=f.dS
 go_enter Tryz.func24,Tryz.ntmps24
 go_wp2_with fail
 go_quiet (refine Calls.quiet_of_same (Gb (h.drewN _) f))
 go_wp2;go_ret
 exact⟨rfl,_,rfl⟩
def aX(d:Dk)(au:Nat)(p:Int):Bool:=decide (1<=p/\p<au)&&!(d.fP.getD p.toNat false)
theorem O6(l:List Bool)(k:Nat)(h:k<l.length):(AY l)[k]?=some (.bool (l.getD k false)):=by
 simp[AY,bL h,fE]
theorem Tj(l:List Nat)(k:Nat)(h:k<l.length):(ints l)[k]?=some (.int .i64 ((l.getD k 0:Nat):Int)):=by
 simp[ints,bL h,fE]
theorem xM(h:aJ W own D B bc fo fc I ic y d)(f:Fit d au)(p:Int) :
  Calls Tryz.prog 121 #[.pointer D,.int .i64 p] W λ e w'=>e= .returned (.bool (aX d au p))/\∃q,w'=W.drewN q:=by
 by_cases h1:1<=p
 ·by_cases h2:p<au
  ·obtain⟨k,rfl⟩:∃k:Nat,p=k:=⟨p.toNat,by omega⟩;have hk:k<d.fP.length:=by rw[f.flags];omega
   have c3:=h.cells.at' 3 _ rfl;have ck:=h.flags.at' k _ (O6 d.fP k hk);have HH:Hid (aX d au k=!(d.fP.getD k false)):=by show _=_;unfold aX;rw[decide_eq_true ⟨h1,h2⟩,Int.toNat_natCast,Bool.true_and]
   rw[HH.out];generalize d.fP.getD k false=b at ck;have il:=f.few
   go_enter Tryz.func121,Tryz.ntmps121
   go_wp2_with fail
   refine(Gb h f).mono ?_;rintro e w' ⟨rfl,rfl⟩;go_wp2;go_ret;exact⟨rfl,0,rfl⟩
  have HH:Hid (aX d au p=false):=by show _=_;unfold aX;rw[decide_eq_false (λ a=>h2 a.2)];rfl
  rw[HH.out];have h3:(au:Int)<=p:=by omega
  clear h2
  go_enter Tryz.func121,Tryz.ntmps121
  go_wp2_with fail
  refine(Gb h f).mono ?_;rintro e w' ⟨rfl,rfl⟩;go_wp2;go_ret;exact⟨rfl,0,rfl⟩
 have HH:Hid (aX d au p=false):=by show _=_;unfold aX;rw[decide_eq_false (λ a=>h1 a.1)];rfl
 rw[HH.out];have h3:p<1:=by omega
 clear h1
 go_enter Tryz.func121,Tryz.ntmps121
 go_wp2;go_ret
 exact⟨rfl,0,rfl⟩
def rJ(d:Dk)(i:Nat):List UInt8:=aI (if i=0 then w32 4294967295 else w32 (d.free.getD (i-1) 0))
theorem og(h:aJ W own D B bc fo fc I ic y d)(f:Fit d au)(i:Nat)(hi:i<=d.free.length) :
  Calls Tryz.prog 154 #[.pointer D,.int .i64 i] W λ e w'=>e= .returned (.string (str (rJ d i)))/\Below W W w':=by
 by_cases h0:i=0
 ·subst h0;have HN:Hid (rJ d 0=aI (w32 4294967295)):=rfl;have hw:=λ w=>O1 (w32 4294967295) w;rw[show((w32 4294967295).toNat:Int)=4294967295 from rfl]at hw
  go_enter Tryz.func154,Tryz.ntmps154
  go_wp2_with fail
  refine(hw _).mono ?_;rintro e w' ⟨rfl,b⟩;go_wp2;go_ret;exact⟨by rw[HN.out]<;>rfl,b⟩
 obtain⟨k,rfl⟩:∃k,i=k+1:=⟨i-1,by omega⟩;have HN:Hid (rJ d (k+1)=aI (w32 (d.free.getD k 0))):=by show _=_;unfold rJ;rw[if_neg h0,Nat.add_sub_cancel]
 have c2:=h.cells.at' 2 _ rfl;rcases h.eT with⟨_,hf,_⟩|⟨F,rfl,hr,_⟩
 ·rw[hf]at hi;simp at hi
 have hk:=hr.at' k _ (Tj d.free k (by omega));have LJ:=f.free (d.free.getD k 0) (by rw[fE,bL (by omega)];exact List.getElem_mem _);have il:=f.few;obtain⟨q,HQ⟩:∃q,Hid (d.free.getD k 0=q):=⟨_,rfl⟩;rw[HQ.out]at hk LJ HN;have hw:=λ w=>O1 (w32 q) w;rw[show((w32 q).toNat:Int)=q by rw[<-UK.Ga q];omega]at hw;have hq1:=LJ.1;have hq2:=LJ.2;have CO:k<60000:=by have:=f.dS;omega
 have hk7:k<d.free.length:=by omega
 clear LJ h0
 go_enter Tryz.func154,Tryz.ntmps154
 go_wp2_with fail
 refine(hw _).mono ?_;rintro e w' ⟨rfl,b⟩;go_wp2;go_ret;exact⟨by rw[HN.out]<;>rfl,b⟩
end
theorem UK.I1(y:List UInt8)(a n:Nat)(s:List UInt8)(h:a+s.length<=n)(hn:n<=y.length):(UK.wr y a s).take n=UK.wr (y.take n) a s:=by
 unfold UK.wr;have h1:(y.take a).length=a:=by rw[zt];omega
 have e1:(y.take a).take n=y.take a:=by rw[kL,Nat.min_eq_right (by omega)]
 have e2:s.take (n-a)=s:=fO (by omega);have e3:(y.take n).take a=y.take a:=by rw[kL,gH (by omega)]
 rw[List.take_append,h1,List.take_append,e1,e2,e3,List.drop_take,show n-a-s.length=n-(a+s.length) by omega]
section
variable{W W':World}{own:Nat->Prop}{D B bc fc I ic au:Nat}{fo:Option Addr}{y:List UInt8}{d d':Dk}
theorem aJ.I4(h:aJ W own D B bc fo fc I ic y d):0 ≠D:=λ e=>h.gK (e▸h.oD)
theorem aJ.Tk(h:aJ W own D B bc fo fc I ic y d):0 ≠B:=λ e=>h.gK (e▸h.oB)
theorem aJ.gu(h:aJ W own D B bc fo fc I ic y d)(hr:Row W' D 8 (d'.vals B bc fo fc I ic))(ho:Only D W W')(hx:d'.x=d.x)(hf:d'.free=d.free)(hi:d'.fP=d.fP):aJ W' own D B bc fo fc I ic y d':=by
 refine⟨hr,ho.bytes h.bytes (λ e=>h.DB e.symm),h.mH,by rw[hx];exact h.le,by rw[hx];exact h.pre,?_,by rw[hi];exact h.flags.only ho (λ e=>h.DI e.symm),h.DB,h.DI,h.BI,h.oD,h.oB,h.oI,UK.xK h.tab ho h.I4,h.gK⟩;rcases h.eT with⟨a,b,c⟩|⟨F,e,r,n1,n2,n3,n4⟩
 ·exact .inl ⟨a,by rw[hf];exact b,c⟩
 exact .inr ⟨F,e,by rw[hf];exact r.only ho n1,n1,n2,n3,n4⟩
theorem aJ.I5(h:aJ W own D B bc fo fc I ic y d)(a:Nat)(s:List UInt8)(hb:aF W' B (UK.wr y a s))(ho:Only B W W')(hs:a+s.length<=d.x.length):aJ W' own D B bc fo fc I ic (UK.wr y a s) {d with x:=UK.wr d.x a s}:=by
 have hle:=h.le;have hyl:=h.mH;have hl:=UK.iW d.x a s hs;refine⟨?_,hb,by rw[UK.iW _ _ _ (by omega)];exact hyl,by show(UK.wr d.x a s).length<=_;omega,?_,?_,h.flags.only ho (λ e=>h.BI e.symm),h.DB,h.DI,h.BI,h.oD,h.oB,h.oI,UK.xK h.tab ho h.Tk,h.gK⟩
 ·have:=h.cells.only ho h.DB;unfold Dk.vals at this ⊢;show Row W' D 8 [.slice B (UK.wr d.x a s).length bc,_,_,_,_,_,_,_];rw[hl];exact this
 ·show(UK.wr y a s).take (UK.wr d.x a s).length=_;rw[hl,UK.I1 y a _ s hs (by omega),h.pre]
 rcases h.eT with⟨a,b,c⟩|⟨F,e,r,n1,n2,n3,n4⟩
 ·exact .inl ⟨a,b,c⟩
 exact .inr ⟨F,e,r.only ho n2,n1,n2,n3,n4⟩
structure Dat(W w:World)(own:Nat->Prop)(D B bc:Nat)(fo:Option Addr)(fc I ic:Nat)(y:List UInt8)(d:Dk)(au:Nat):Prop where
 at_:aJ w own D B bc fo fc I ic y d
 fit:Fit d au
 moves:Moves own own W w
section
variable{w:World}
theorem Dat.below{w':World}(h:Dat W w own D B bc fo fc I ic y d au)(hb:Below w w w'):Dat W w' own D B bc fo fc I ic y d au:=⟨h.at_.below hb,h.fit,h.moves.trans (Moves.of_below hb)⟩
theorem Dat.drew(h:Dat W w own D B bc fo fc I ic y d au):Dat W w.drew own D B bc fo fc I ic y d au:=h.below (aV _ _).drew
theorem Zo(h:Dat W w own D B bc fo fc I ic y d au) :
  Calls Tryz.prog 74 #[.pointer D] w λ e w'=>e= .returned (.int .i64 au)/\w'=w:=Gb h.at_ h.fit
theorem Zp(k:Nat)(h:k<=60000):IntKind.u32.wrap (k:Int)=(k:Int):=by
 show(k:Int)%4294967296=k;omega
theorem Zq(h:Dat W w own D B bc fo fc I ic y d au)(k:Nat)(hk:k<=60000) :
  Calls Tryz.prog 153 #[.int .u32 k] w λ e w'=>e= .returned (.string (str (aI (w32 k))))/\Dat W w' own D B bc fo fc I ic y d au:=by
 have:=O1 (w32 k) w;rw[show((w32 k).toNat:Int)=k by rw[<-UK.Ga k];omega]at this;exact this.mono λ _ _ ⟨he,hb⟩=>⟨he,h.below hb⟩
theorem Tm(h:Dat W w own D B bc fo fc I ic y d au)(i:Nat)(hi:i<=d.free.length) :
  Calls Tryz.prog 154 #[.pointer D,.int .i64 i] w λ e w'=>e= .returned (.string (str (rJ d i)))/\Dat W w' own D B bc fo fc I ic y d au:=
 (og h.at_ h.fit i hi).mono λ _ _ ⟨he,hb⟩=>⟨he,h.below hb⟩
end
theorem zY(p:Nat)(s:List UInt8)(h:s.length<=504):(iX p s).length=512:=by
 unfold iX pX;rw[zl,zl,zl,UK.jm];show 4+(4+_)=_;omega
theorem I6{w:World}(h:Dat W w own D B bc fo fc I ic y d au)(p:Nat)(s:List UInt8)(hp:p<au)(hs:s.length<=504) :
  Calls Tryz.prog 152 #[.pointer D,.int .i64 p,.string (str s)] w λ e w'=>e= .returned (.tuple #[])/\∃y',Dat W w' own D B bc fo fc I ic y' {d with x:=UK.wr d.x (512*p) (iX p s)} au:=by
 have f:=h.fit;have hl:=f.len;have hf:=f.few;have h1:=h.at_;have hle:=h1.le;have hyl:=h1.mH;have hw:=UK.iW d.x (512*p) (iX p s) (by rw[zY p s hs];omega);refine(gP h1.bytes d.x.length bc p s (h1.cells.at' 0 _ rfl) (by omega) hle (by omega) (by omega) hs h1.tab h1.Tk).mono λ _ _ ⟨he,hb,ho⟩=>⟨he,UK.wr y (512*p) (iX p s),?_,?_,h.moves.trans (Moves.bG ho h1.oB)⟩
 ·exact h1.I5 (512*p) (iX p s) hb ho (by rw[zY p s hs];omega)
 exact⟨hw.trans hl,f.flags,f.one,f.few,f.aC,f.free,f.dS,f.rl,f.wl,f.reads,f.puts⟩
@[go_sem] theorem CP (v:UInt32):(aI v).length=4:=rfl
@[go_sem] theorem gT (d:Dk) (i:Nat):(rJ d i).length=4:=rfl
def Gc(d:Dk)(au:Nat):List UInt8:=[84,65,66,85,76,65,82,49]++(aI (w32 au)++rJ d d.free.length)
theorem Tn(d:Dk)(au:Nat):(Gc d au).length=16:=rfl
def AZ(d:Dk)(au:Nat):Dk:=if d.wl=0 then {d with wl:= -1} else {d with wl:=iC d.wl,puts:=d.puts+1,x:=UK.wr d.x 0 (iX 0 (Gc d au))}
theorem xN(n:Int)(h: -1<=n/\n<=9223372036854775807): -1<=iC n/\iC n<=9223372036854775807:=by
 unfold iC
 split
 ·omega
 split<;>omega
theorem Zr(h:aJ W own D B bc fo fc I ic y d)(f:Fit d au)(hq3:d.puts+1<1000000000) :
  Calls Tryz.prog 85 #[.pointer D] W λ e w'=>e= .returned (.int .i64 (iU d.wl))/\iY w' own D (AZ d au)/\Moves own own W w':=by
 have xO:=zH hq3;clear hq3;have bW:=zX h.cells 5 d.wl rfl f.wl;have hq1:=f.puts.1;have hq2:=f.puts.2;by_cases h0:d.wl=0
 ·have HE:Hid (iU d.wl=7):=by show _=_;unfold iU;rw[if_pos h0]
  have HN:Hid (iC d.wl= -1):=by show _=_;unfold iC;rw[if_pos h0]
  have HF:Hid (AZ d au={d with wl:= -1}):=by show _=_;unfold AZ;rw[if_pos h0]
  rw[HE.out,HN.out]at bW;rw[HE.out,HF.out];clear h0
  go_enter Tryz.func85,Tryz.ntmps85
  go_wp2_with fail
  refine bW.mono ?_;rintro e w1 ⟨rfl,r1,o1⟩;go_wp2;go_ret;exact⟨rfl,⟨B,bc,fo,fc,I,ic,y,h.gu (d':={d with wl:= -1}) r1 o1 rfl rfl rfl⟩,Moves.bG o1 h.oD⟩
 have HE:Hid (iU d.wl=0):=by show _=_;unfold iU;rw[if_neg h0]
 have HF:Hid (AZ d au={d with wl:=iC d.wl,puts:=d.puts+1,x:=UK.wr d.x 0 (iX 0 (Gc d au))}):=by show _=_;unfold AZ;rw[if_neg h0]
 rw[HE.out]at bW;rw[HE.out,HF.out];clear h0
 go_enter Tryz.func85,Tryz.ntmps85
 go_wp2_with fail
 refine bW.mono ?_;rintro e w1 ⟨rfl,r1,o1⟩;have h1:=h.gu (d':={d with wl:=iC d.wl}) r1 o1 rfl rfl rfl;have oh:=xN d.wl f.wl;have c7:=h1.cells.at' 7 _ rfl;have f7:=h1.cells.free 7 (by omega);have r2:=h1.cells.set 7 (.int .i64 (d.puts+1)) (by show 7<8;omega);have o2:=(Only.refl D w1).set 7 (.int .i64 (d.puts+1));have h2:=h1.gu (d':={d with wl:=iC d.wl,puts:=d.puts+1}) r2 o2 rfl rfl rfl;have f2:Fit {d with wl:=iC d.wl,puts:=d.puts+1} au:=⟨f.len,f.flags,f.one,f.few,f.aC,f.free,f.dS,f.rl,oh,f.reads,by show 0<=d.puts+1/\_;exact⟨by omega,xO.out⟩⟩;have d2:Dat W (w1.setCell (D,7) (.int .i64 (d.puts+1))) own D B bc fo fc I ic y {d with wl:=iC d.wl,puts:=d.puts+1} au:=⟨h2,f2,(Moves.bG o1 h.oD).trans (Moves.bG o2 h.oD)⟩
 go_wp2_with fail
 generalize w1.setCell (D,7) (.int .i64 (d.puts+1))=w2 at d2 ⊢;have hd:=d2.drew;have c2:=hd.at_.cells.at' 2 _ rfl;have il:=f.few;have h00:0<au:=f.one;clear d2 h1 h2 bW c7 f7 r1 r2 o1 o2
 go_region_with (first
  | (go_at_call 74;refine(Zo hd).mono ?_;rintro e w' ⟨rfl,rfl⟩)
  | (go_at_call 153;rw[Zp au il];refine(Zq hd au il).mono ?_;rintro e w3 ⟨rfl,hd⟩;have c2':=hd.at_.cells.at' 2 _ rfl)
  | (go_at_call 154;refine(Tm hd d.free.length (aO _)).mono ?_;rintro e w4 ⟨rfl,hd⟩;have c2':=hd.at_.cells.at' 2 _ rfl)
  | (go_at_call 152;refine(I6 hd 0 (Gc d au) h00 (by rw[Tn];decide)).mono ?_;rintro e w5 ⟨rfl,y5,hd5⟩))
 all_goals
  go_wp2;go_ret
  exact⟨rfl,⟨B,bc,fo,fc,I,ic,y5,hd5.at_⟩,hd5.moves⟩
end
theorem UK.Gd(W:World)(cs:Array Value)(e:TypeId):Row (W.alloc (.cells cs e)) W cs.size cs.toList:=by
 refine⟨by simp,by simp,λ j hj=>?_,λ j hj=>⟨?_,World.frozen?_alloc_new W _ _ j⟩⟩
 ·rw[World.cell?_alloc_new W cs e j,Array.getElem?_toList]
 rw[World.cell?_alloc_new W cs e j,Array.getElem?_eq_getElem hj];rfl
theorem Zt(w:World):(Instr.makeSlice 94 (.int .i64 512) (.int .i64 512)).run Tryz.prog w= .ok (.slice w 512 512) (w.alloc (.cells (UK.pE (UK.bF 512)) 5)):=by kernel_rfl
def pF(pages:Int):Int:=min (max pages 2) 60000
theorem O7(p m:Int)(h:(p<2/\m=2)\/(60000<p/\m=60000)\/(2<=p/\p<=60000/\m=p)):pF p=m:=by
 unfold pF;rcases h with⟨h,rfl⟩|⟨h,rfl⟩|⟨h1,h2,rfl⟩
 ·rw[Int.max_eq_right (by omega)];rfl
 ·rw[Int.max_eq_left (by omega),Int.min_eq_right (by omega)]
 rw[Int.max_eq_left (by omega),Int.min_eq_left (by omega)]
def vN(pages:Int):Dk:={x:=UK.bF 512,aC:=pF pages,free:=[],fP:=[false],rl:= -1,wl:= -1,reads:=0,puts:=0}
def mI(pages:Int):Dk:=AZ (vN pages) 1
theorem O8(pages:Int):Fit (vN pages) 1:=by
 refine⟨UK.jm 512,rfl,by omega,by omega,?_,(λ p h=>absurd h (by simp[vN])),(by simp[vN]),(by simp[vN]),(by simp[vN]),(by simp[vN]),(by simp[vN])⟩;show 2<=pF pages/\pF pages<=60000/\(1:Int)<=pF pages;unfold pF;omega
theorem Zu(w:World):(Instr.makeSlice 140 (.int .i64 1) (.int .i64 1)).run Tryz.prog w= .ok (.slice w 1 1) (w.alloc (.cells #[.bool false] 4)):=by kernel_rfl
def LK(W:World)(m:Int):World:=
 ((W.alloc (.cells #[.slice (some ⟨W.heap.size+1,0,none⟩) 512 512,.int .i64 m,.slice none 0 0,.slice (some ⟨W.heap.size+1+1,0,none⟩) 1 1,.int .i64 (-1),.int .i64 (-1),.int .i64 0,.int .i64 0] 142)).alloc (.cells (UK.pE (UK.bF 512)) 5)).alloc (.cells #[.bool false] 4)
theorem O9(W:World)(m:Int):Below W W (LK W m):=(((aV _ _).alloc (aO _) _).alloc (by simp) _).alloc (by simp;omega) _
theorem Tp(V:World)(x:List UInt8):aF (V.alloc (.cells (UK.pE x) 5)) V.heap.size x:=by
 refine⟨5,(0,0),?_,λ i _ h=>absurd h.2 (jO _)⟩;show(V.heap.push _)[V.heap.size]?=_;rw[pW]
theorem Zv(W:World)(m:Int)(ht:kD W):aJ (LK W m) (λ k=>W.heap.size<=k) W (W.heap.size+1) 512 none 0 (W.heap.size+1+1) 1 (UK.bF 512) {vN 0 with aC:=m}:=by
 have hl:=ht.lt;refine⟨?_,?_,UK.jm 512,?_,?_,.inl ⟨rfl,rfl,rfl⟩,?_,by omega,by omega,by omega,aO _,by omega,by omega,ht.below (O9 W m),by omega⟩
 ·have h1:=((UK.Gd W #[.slice (some ⟨W.heap.size+1,0,none⟩) 512 512,.int .i64 m,.slice none 0 0,.slice (some ⟨W.heap.size+1+1,0,none⟩) 1 1,.int .i64 (-1),.int .i64 (-1),.int .i64 0,.int .i64 0] 142).alloc (.cells (UK.pE (UK.bF 512)) 5)).alloc (.cells #[.bool false] 4);show Row (LK W m) W 8 [.slice (some ⟨W.heap.size+1,0,none⟩) (UK.bF 512).length 512,.int .i64 m,.slice none 0 0,.slice (some ⟨W.heap.size+1+1,0,none⟩) 1 1,.int .i64 (-1),.int .i64 (-1),.int .i64 0,.int .i64 0];rw[UK.jm];exact h1
 ·refine aF.alloc (B:=W.heap.size+1) ?_ _;have h2:=Tp (W.alloc (.cells #[.slice (some ⟨W.heap.size+1,0,none⟩) 512 512,.int .i64 m,.slice none 0 0,.slice (some ⟨W.heap.size+1+1,0,none⟩) 1 1,.int .i64 (-1),.int .i64 (-1),.int .i64 0,.int .i64 0] 142)) (UK.bF 512);have e:(W.alloc (.cells #[.slice (some ⟨W.heap.size+1,0,none⟩) 512 512,.int .i64 m,.slice none 0 0,.slice (some ⟨W.heap.size+1+1,0,none⟩) 1 1,.int .i64 (-1),.int .i64 (-1),.int .i64 0,.int .i64 0] 142)).heap.size=W.heap.size+1:=by simp
  rw[e]at h2;exact h2
 ·show(UK.bF 512).length<=512;rw[UK.jm];exact aO _
 ·exact fH
 have h3:=UK.Gd ((W.alloc (.cells #[.slice (some ⟨W.heap.size+1,0,none⟩) 512 512,.int .i64 m,.slice none 0 0,.slice (some ⟨W.heap.size+1+1,0,none⟩) 1 1,.int .i64 (-1),.int .i64 (-1),.int .i64 0,.int .i64 0] 142)).alloc (.cells (UK.pE (UK.bF 512)) 5)) #[.bool false] 4;have e:((W.alloc (.cells #[.slice (some ⟨W.heap.size+1,0,none⟩) 512 512,.int .i64 m,.slice none 0 0,.slice (some ⟨W.heap.size+1+1,0,none⟩) 1 1,.int .i64 (-1),.int .i64 (-1),.int .i64 0,.int .i64 0] 142)).alloc (.cells (UK.pE (UK.bF 512)) 5)).heap.size=W.heap.size+1+1:=by simp
 rw[e]at h3;exact h3
theorem Zw(W:World)(pages:Int)(ht:kD W)(m:Int)(hm:pF pages=m) :
  Calls Tryz.prog 85 #[.pointer W] (LK W m) λ e w'=>e= .returned (.int .i64 0)/\iY w' (λ k=>W.heap.size<=k) W (mI pages)/\Below W W w':=by
 subst hm;refine(Zr (Zv W (pF pages) ht) (O8 pages) (by show(0:Int)+1<1000000000;omega)).mono λ _ _ ⟨he,hd,hv⟩=>⟨he,hd,(O9 W _).trans (hv.below (O9 W _).size (λ _ h=>h))⟩
theorem Zx(W:World)(pages:Int)(ht:kD W) :
  Calls Tryz.prog 34 #[.int .i64 pages] W λ e w'=>e= .returned (.pointer W)/\iY w' (λ k=>W.heap.size<=k) W (mI pages)/\Below W W w':=by
 have hmk:=Zt;have hmf:=Zu;have HB:=zH (Zw W pages ht)
 go_enter Tryz.func34,Tryz.ntmps34
 go_wp2_with fail
 ·refine(HB.out 60000 (O7 _ _ (by omega))).mono ?_;rintro e w' ⟨rfl,hd,hb⟩;go_wp2;go_ret;exact⟨rfl,hd,hb⟩
 ·refine(HB.out 2 (O7 _ _ (by omega))).mono ?_;rintro e w' ⟨rfl,hd,hb⟩;go_wp2;go_ret;exact⟨rfl,hd,hb⟩
 refine(HB.out pages (O7 _ _ (by omega))).mono ?_;rintro e w' ⟨rfl,hd,hb⟩;go_wp2;go_ret;exact⟨rfl,hd,hb⟩
section
variable{W:World}{own:Nat->Prop}{D B bc fc I ic au:Nat}{fo:Option Addr}{y:List UInt8}{d:Dk}
end
section
variable{W:World}{own:Nat->Prop}{D B bc fc I ic au:Nat}{fo:Option Addr}{y:List UInt8}{d:Dk}
theorem Zy(h:aJ W own D B bc fo fc I ic y d)(p:Nat)(hp:512*(p+1)<=d.x.length):okB y p=okB d.x p/\jX y p=jX d.x p:=by
 have e:∀a b,a+b<=d.x.length->(y.drop a).take b=(d.x.drop a).take b:=λ a b hab=>by
  rw[<-h.pre,List.drop_take,kL,gH (by omega)]
 have h1:okB y p=okB d.x p:=by
  unfold okB;rw[e (512*p) 4 (by omega),e (512*p+4) 508 (by omega),e (512*p+4) 4 (by omega)]
 refine⟨h1,?_⟩;unfold jX AX;rw[h1,e (512*p+8) 504 (by omega)]
theorem Zz(h:aJ W own D B bc fo fc I ic y d)(f:Fit d au)(p:Int)(hh:aX d au p=false) :
  Calls Tryz.prog 129 #[.pointer D,.int .i64 p] W λ e w'=>e= .returned (.tuple #[.string (str []),.int .i64 4])/\iY w' own D d/\Moves own own W w':=by
 have hc:=xM h f p;rw[hh]at hc
 go_enter Tryz.func129,Tryz.ntmps129
 go_wp2_with fail
 refine hc.mono ?_;rintro e w' ⟨rfl,q,rfl⟩;go_wp2;go_ret2;exact⟨rfl,⟨B,bc,fo,fc,I,ic,y,h.drewN q⟩,Moves.of_below (UK.dK (aV _ _) q)⟩
theorem Z0(h:aJ W own D B bc fo fc I ic y d)(f:Fit d au)(p:Int)(hh:aX d au p=true)(h0:d.rl=0) :
  Calls Tryz.prog 129 #[.pointer D,.int .i64 p] W λ e w'=>e= .returned (.tuple #[.string (str []),.int .i64 7])/\iY w' own D {d with rl:= -1}/\Moves own own W w':=by
 have hc:=xM h f p;rw[hh]at hc;have HE:Hid (iU d.rl=7):=by show _=_;unfold iU;rw[if_pos h0]
 have HN:Hid (iC d.rl= -1):=by show _=_;unfold iC;rw[if_pos h0]
 clear h0
 go_enter Tryz.func129,Tryz.ntmps129
 go_wp2_with fail
 refine hc.mono ?_;rintro e w' ⟨rfl,q,rfl⟩;have h1:=h.drewN q;have m1:=Moves.of_below (o:=own) (UK.dK (aV W W) q);generalize W.drewN q=w1 at h1 m1 ⊢;have bW:=zX h1.cells 4 d.rl rfl f.rl;rw[HE.out,HN.out]at bW
 go_wp2_with fail
 refine bW.mono ?_;rintro e w2 ⟨rfl,r1,o1⟩;go_wp2;go_ret2;exact⟨rfl,⟨B,bc,fo,fc,I,ic,y,h1.gu (d':={d with rl:= -1}) r1 o1 rfl rfl rfl⟩,m1.trans (Moves.bG o1 h.oD)⟩
def xP(x:List UInt8)(p:Nat):Int:=if okB x p then 0 else 8
theorem Z4(h:aJ W own D B bc fo fc I ic y d)(f:Fit d au)(p:Nat)(hp:p<au)(hh:aX d au p=true)(h0:d.rl≠0) :
  Calls Tryz.prog 129 #[.pointer D,.int .i64 p] W λ e w'=>e= .returned (.tuple #[.string (str (jX d.x p)),.int .i64 (xP d.x p)])/\iY w' own D {d with rl:=iC d.rl,reads:=d.reads+1}/\Moves own own W w':=by
 have hc:=xM h f p;rw[hh]at hc;have HE:Hid (iU d.rl=0):=by show _=_;unfold iU;rw[if_neg h0]
 have hq1:=f.reads.1;have hq2:=f.reads.2;have hxl:=f.len;have il:=f.few;have hP:=Zy h p (by rw[hxl];omega);clear h0
 go_enter Tryz.func129,Tryz.ntmps129
 go_wp2_with fail
 refine hc.mono ?_;rintro e w' ⟨rfl,q,rfl⟩;have h1:=h.drewN q;have m1:=Moves.of_below (o:=own) (UK.dK (aV W W) q);generalize W.drewN q=w1 at h1 m1 ⊢;have bW:=zX h1.cells 4 d.rl rfl f.rl;rw[HE.out]at bW
 go_wp2_with fail
 refine bW.mono ?_;rintro e w2 ⟨rfl,r1,o1⟩;have h2:=h1.gu (d':={d with rl:=iC d.rl}) r1 o1 rfl rfl rfl;have c6:=h2.cells.at' 6 _ rfl;have f6:=h2.cells.free 6 (by omega);have r3:=h2.cells.set 6 (.int .i64 (d.reads+1)) (by show 6<8;omega);have o3:=(Only.refl D w2).set 6 (.int .i64 (d.reads+1));have h3:=h2.gu (d':={d with rl:=iC d.rl,reads:=d.reads+1}) r3 o3 rfl rfl rfl;have m3:=(m1.trans (Moves.bG o1 h.oD)).trans (Moves.bG o3 h.oD)
 go_wp2_with fail
 generalize w2.setCell (D,6) (.int .i64 (d.reads+1))=w3 at h3 m3 ⊢;have hlk:=Zm h3.bytes d.x.length bc p (h3.cells.at' 0 _ rfl) (by rw[h3.mH];exact h.le) h.le (by omega) (by omega) h3.tab;rw[hP.1,hP.2]at hlk;have hlk2:=zH hlk;clear hlk hP;refine hlk2.out.mono ?_;rintro e w4 ⟨rfl,b4⟩;have h4:=h3.below b4;have m4:=m3.trans (Moves.of_below b4)
 cases hok:okB d.x p
 ·have HR:Hid (xP d.x p=8):=by show _=_;unfold xP;rw[hok];rfl
  have HL:Hid (jX d.x p=[]):=O5 hok;go_wp2;go_ret2;exact⟨by rw[HR.out,HL.out]<;>rfl,⟨B,bc,fo,fc,I,ic,y,h4⟩,m4⟩
 have HR:Hid (xP d.x p=0):=by show _=_;unfold xP;rw[hok];rfl
 go_wp2;go_ret2
 exact⟨by rw[HR.out]<;>rfl,⟨B,bc,fo,fc,I,ic,y,h4⟩,m4⟩
end
section
variable{W:World}{own:Nat->Prop}{D B bc fc I ic au:Nat}{fo:Option Addr}{y:List UInt8}{d:Dk}
def CQ(d:Dk)(p:Nat)(s:List UInt8):Dk:={d with wl:=iC d.wl,puts:=d.puts+1,x:=UK.wr d.x (512*p) (iX p s)}
theorem Z5(h:aJ W own D B bc fo fc I ic y d)(f:Fit d au)(hq3:d.puts+1<1000000000)(p:Nat)(hp:p<au)(hh:aX d au p=true)(h0:d.wl≠0)(s:List UInt8)(hs:s.length=504) :
  Calls Tryz.prog 254 #[.pointer D,.int .i64 p,.string (str s)] W λ e w'=>e= .returned (.int .i64 0)/\iY w' own D (CQ d p s)/\Moves own own W w':=by
 have hc:=xM h f p;rw[hh]at hc;have HE:Hid (iU d.wl=0):=by show _=_;unfold iU;rw[if_neg h0]
 have xO:=zH hq3;have hq1:=f.puts.1;have hq2:=f.puts.2;have HS:=zH (show s.length<=504 by omega);have oh:=xN d.wl f.wl;clear h0 hq3
 go_enter Tryz.func254,Tryz.ntmps254
 go_wp2_with fail
 refine hc.mono ?_;rintro e w' ⟨rfl,q,rfl⟩;have h1:=h.drewN q;have m1:=Moves.of_below (o:=own) (UK.dK (aV W W) q);generalize W.drewN q=w1 at h1 m1 ⊢;have bW:=zX h1.cells 5 d.wl rfl f.wl;rw[HE.out]at bW
 go_wp2_with fail
 refine bW.mono ?_;rintro e w2 ⟨rfl,r1,o1⟩;have h2:=h1.gu (d':={d with wl:=iC d.wl}) r1 o1 rfl rfl rfl;have c7:=h2.cells.at' 7 _ rfl;have f7:=h2.cells.free 7 (by omega);have r3:=h2.cells.set 7 (.int .i64 (d.puts+1)) (by show 7<8;omega);have o3:=(Only.refl D w2).set 7 (.int .i64 (d.puts+1));have h3:=h2.gu (d':={d with wl:=iC d.wl,puts:=d.puts+1}) r3 o3 rfl rfl rfl;have m3:=(m1.trans (Moves.bG o1 h.oD)).trans (Moves.bG o3 h.oD)
 have d3:Dat W (w2.setCell (D,7) (.int .i64 (d.puts+1))) own D B bc fo fc I ic y {d with wl:=iC d.wl,puts:=d.puts+1} au:=
  ⟨h3,⟨f.len,f.flags,f.one,f.few,f.aC,f.free,f.dS,f.rl,oh,f.reads,by show 0<=d.puts+1/\_;exact⟨by omega,xO.out⟩⟩,m3⟩
 go_wp2_with fail
 refine(I6 d3 p s hp HS.out).mono ?_;rintro e w4 ⟨rfl,y4,d4⟩;go_wp2;go_ret;exact⟨rfl,⟨B,bc,fo,fc,I,ic,y4,d4.at_⟩,d4.moves⟩
theorem Z6(h:aJ W own D B bc fo fc I ic y d)(f:Fit d au)(p:Int)(hh:aX d au p=false)(s:List UInt8) :
  Calls Tryz.prog 254 #[.pointer D,.int .i64 p,.string (str s)] W λ e w'=>e= .returned (.int .i64 4)/\iY w' own D d/\Moves own own W w':=by
 have hc:=xM h f p;rw[hh]at hc
 go_enter Tryz.func254,Tryz.ntmps254
 go_wp2_with fail
 refine hc.mono ?_;rintro e w' ⟨rfl,q,rfl⟩;go_wp2;go_ret;exact⟨rfl,⟨B,bc,fo,fc,I,ic,y,h.drewN q⟩,Moves.of_below (UK.dK (aV _ _) q)⟩
theorem Z7(h:aJ W own D B bc fo fc I ic y d)(f:Fit d au)(p:Int)(hh:aX d au p=true)(h0:d.wl=0)(s:List UInt8)(hs:s.length=504) :
  Calls Tryz.prog 254 #[.pointer D,.int .i64 p,.string (str s)] W λ e w'=>e= .returned (.int .i64 7)/\iY w' own D {d with wl:= -1}/\Moves own own W w':=by
 have hc:=xM h f p;rw[hh]at hc;have HE:Hid (iU d.wl=7):=by show _=_;unfold iU;rw[if_pos h0]
 have HN:Hid (iC d.wl= -1):=by show _=_;unfold iC;rw[if_pos h0]
 clear h0
 go_enter Tryz.func254,Tryz.ntmps254
 go_wp2_with fail
 refine hc.mono ?_;rintro e w' ⟨rfl,q,rfl⟩;have h1:=h.drewN q;have m1:=Moves.of_below (o:=own) (UK.dK (aV W W) q);generalize W.drewN q=w1 at h1 m1 ⊢;have bW:=zX h1.cells 5 d.wl rfl f.wl;rw[HE.out,HN.out]at bW
 go_wp2_with fail
 refine bW.mono ?_;rintro e w2 ⟨rfl,r1,o1⟩;go_wp2;go_ret;exact⟨rfl,⟨B,bc,fo,fc,I,ic,y,h1.gu (d':={d with wl:= -1}) r1 o1 rfl rfl rfl⟩,m1.trans (Moves.bG o1 h.oD)⟩
end
section
variable{W:World}{own:Nat->Prop}{D B bc fc I ic au:Nat}{fo:Option Addr}{y:List UInt8}{d:Dk}
theorem Z8(h:aJ W own D B bc fo fc I ic y d)(f:Fit d au)(p:Int)(hh:aX d au p=false) :
  Calls Tryz.prog 123 #[.pointer D,.int .i64 p] W λ e w'=>e= .returned (.int .i64 4)/\iY w' own D d/\Moves own own W w':=by
 have hc:=xM h f p;rw[hh]at hc
 go_enter Tryz.func123,Tryz.ntmps123
 go_wp2_with fail
 refine hc.mono ?_;rintro e w' ⟨rfl,q,rfl⟩;go_wp2;go_ret;exact⟨rfl,⟨B,bc,fo,fc,I,ic,y,h.drewN q⟩,Moves.of_below (UK.dK (aV _ _) q)⟩
theorem Z9(h:aJ W own D B bc fo fc I ic y d)(f:Fit d au)(p:Int)(hh:aX d au p=true)(h0:d.wl=0) :
  Calls Tryz.prog 123 #[.pointer D,.int .i64 p] W λ e w'=>e= .returned (.int .i64 7)/\iY w' own D {d with wl:= -1}/\Moves own own W w':=by
 have hc:=xM h f p;rw[hh]at hc;have HE:Hid (iU d.wl=7):=by show _=_;unfold iU;rw[if_pos h0]
 have HN:Hid (iC d.wl= -1):=by show _=_;unfold iC;rw[if_pos h0]
 clear h0
 go_enter Tryz.func123,Tryz.ntmps123
 go_wp2_with fail
 refine hc.mono ?_;rintro e w' ⟨rfl,q,rfl⟩;have h1:=h.drewN q;have m1:=Moves.of_below (o:=own) (UK.dK (aV W W) q);generalize W.drewN q=w1 at h1 m1 ⊢;have bW:=zX h1.cells 5 d.wl rfl f.wl;rw[HE.out,HN.out]at bW
 go_wp2_with fail
 refine bW.mono ?_;rintro e w2 ⟨rfl,r1,o1⟩;go_wp2;go_ret;exact⟨rfl,⟨B,bc,fo,fc,I,ic,y,h1.gu (d':={d with wl:= -1}) r1 o1 rfl rfl rfl⟩,m1.trans (Moves.bG o1 h.oD)⟩
end
end Go.Proofs.YtgpmiliahonaoaaGreatDoor
