/- Facts on texts and trees on pages. -/
import Derived.Test.YtgpmiliahonaoaaGreatDoorKSlotLc
set_option maxRecDepth 100000
set_option maxHeartbeats 8000000
set_option linter.unusedSimpArgs false
namespace Go.Proofs.YtgpmiliahonaoaaGreatDoor.SL
open Go.RowKit
open UK (str aF nth Only)
open Go.BigFrame
open SR (aM aW total)
theorem WN(B:Nat)(x:List UInt8)(l:List (List UInt8))(c:Nat)(hc:504<=c)(W:World)(h:aF W B x)(r:aM x l)(jJ:4+4*l.length<504) :
  Calls Tryz.prog 232 #[.slice B 504 c] W λ e w'=>e= .returned (.tuple #[])/\(∃x',aF w' B x'/\aM x' l/\SR.low x'=504-total l/\x'.length=x.length)/\Only B W w':=by
 have hsz:=r.size;have hcv:=UK.tY (P:=Tryz.prog) (src:=94) (dst:=9) Tryz.underlying94 Tryz.underlying5 Tryz.underlying9 h 0 504 c (by omega);rw[List.drop_zero]at hcv
 go_enter Tryz.func232,Tryz.ntmps232
 go_wp2_with fail
 refine(pO B x l c W h r).mono ?_;rintro e w' ⟨rfl,k0,rfl⟩
 go_wp2_with fail
 obtain⟨y,HY⟩:∃y,Hid (x.take 504=y):=⟨_,rfl⟩;have hy:y.length=504:=by rw[<-HY.out,zt];omega
 rw[HY.out];have HYL:=zH hy;clear hy hcv
 go_loopw [3,11] (λ n i wr=>∃(k e:Nat) (z:List UInt8),k<=l.length/\e<=504/\i= .int .i64 k/\n= .int .i64 e/\Hid (e+total (l.take k)=504)/\SR.iA x l k z/\aF wr B z/\Only B W wr) (λ _ i _=>l.length-(intOf i).toNat)
 case atStart=>exact⟨0,504,x,aY _,by omega,rfl,rfl,rfl,SR.iA.start r,h.drewN _,(Only.refl _ _).drewN _⟩
 obtain⟨k,en,z,hk,WO,rfl,rfl,HE,pz,ig,ho⟩:=hrel;have D7:504<=z.length:=by rw[pz.length];exact hsz
 have hf:=r.few;by_cases hlt:k<l.length
 ·have hsl:=QS B z c k wr ig D7 (by omega) (by omega);rw[Int.toNat_natCast,(pz.later k (aO _) hlt).1,(pz.later k (aO _) hlt).2,r.zq hlt]at hsl;have Ap:=zH hsl;clear hsl;have htk:=SR.cK l k hlt;have htl:=SR.dm l (k+1);have hsum:=r.sum;by_cases h0:aW l k=[]
  ·have hp0:=(r.hole k hlt h0).1;have QT:=zH (hp0▸h0▸Ap.out);have HP:=zH (pz.skip r hlt h0);have HT:Hid (en+total (l.take (k+1))=504):=by show _=_;rw[htk,h0];exact HE.out
   clear h0 hp0 htk
   go_wp2_with fail
   refine QT.out.mono ?_;rintro e w' ⟨rfl,k1,rfl⟩;go_wp2;go_roundw
   case rel=>exact⟨k+1,en,z,by omega,by omega,by go_num,rfl,HT.out,HP.out,ig.drewN _,ho.drewN _⟩
   case measure=>simp[intOf];omega
  have ht:=r.there k hlt h0;have hl1:=r.mQ;have hp0:0<SR.pos x k:=by omega
  have WQ:SR.pos x k+(aW l k).length<=504:=ht.2.1;have hp1:((SR.pos x k:Int)==0)=false:=by rw[beq_eq_false_iff_ne];omega
  have hn0:0<(aW l k).length:=List.length_pos_iff.2 h0;have hen:(aW l k).length<=en:=by have:=HE.out;omega
  have HT:Hid (en-(aW l k).length+total (l.take (k+1))=504):=by show _=_;have:=HE.out;omega
  have e1:504-total (l.take (k+1))=en-(aW l k).length:=by have:=HT.out;omega
  have hP:=pz.step r hlt h0;rw[e1]at hP;have HP:=zH hP
  have hsub:List.drop (SR.pos x k) (List.take (SR.pos x k+(aW l k).length) y)=aW l k:=by
   rw[<-HY.out,kL,gH WQ,List.drop_take,qJ];exact WR r hlt h0
  have Kv:4+4*l.length<=en-(aW l k).length:=by have:=HE.out;omega
  generalize hs:aW l k=s at *;generalize QQ:SR.pos x k=p at *;have hcp:=λ n=>UK.Ei (P:=Tryz.prog) (dT:=94) (sT:=9) (ty:=3) Tryz.underlying94 (λ w=>by kernel_rfl) (ig.drewN n) (en-s.length) (504-(en-s.length)) (c-(en-s.length)) s (by omega) (by omega);have hb2:=λ n=>(ig.drewN n).setCells s (en-s.length) (by omega);have ho2:=λ n=>(ho.drewN n).setCells (UK.cellsOf s) (o:=en-s.length);have HB2:=zH hb2;have uO:=zH ho2;have hzl:=UK.iW z (en-s.length) s (by omega);have h10:(en:Int)-s.length<=504:=by omega
  have h11:(0:Int)<=(en:Int)-s.length:=by omega
  have h12:¬c=en-s.length:=by omega
  have h13:(p:Int)+s.length<=y.length:=by have:=HYL.out;omega
  have h14:p+s.length<=y.length:=by omega
  clear hb2 ho2 hP htk htl hsum h0 ht hs QQ e1
  go_wp2_with fail
  refine Ap.out.mono ?_;rintro e w' ⟨rfl,k1,rfl⟩
  go_wp2_with fail
  go_region
  have b3:=HB2.out (k1+1);have o3:=uO.out (k1+1);generalize (wr.drewN (k1+1)).setCells B (en-s.length) (UK.cellsOf s)=w3 at b3 o3 ⊢;have hel:((en:Int)-s.length).toNat=en-s.length:=by omega
  have Bq:=zH hel;clear hel hcp
  go_wp2_with fail
  refine(gP B _ c k _ _ w3 b3 (by omega) (by omega) (by omega) h11 (by omega) (by omega) (by omega)).mono ?_;rintro e w4 ⟨rfl,b4,o4⟩;rw[Bq.out,Int.toNat_natCast,Int.toNat_natCast]at b4;go_wp2;go_roundw
  case rel=>exact⟨k+1,en-s.length,_,by omega,by omega,by go_num,by rw[show((en-s.length:Nat):Int)=(en:Int)-s.length by omega],HT.out,HP.out,b4,o3.trans o4⟩
  case measure=>simp[intOf];omega
 have hkl:k=l.length:=by omega
 have het:en=504-total l:=by have:=HE.out;rw[hkl,fO (aO _)]at this;omega
 have hD:=(hkl▸pz:SR.iA x l l.length z).done r;rw[<-het]at hD;have HD:=zH hD;have HET:=zH het;have hsum:=r.sum;have Kv:4+4*l.length<=en:=by omega
 have h2z:SR.two z 0=l.length:=pz.len;have H2Z:=zH h2z;have hzx:z.length=x.length:=pz.length;have HZX:=zH hzx;clear hkl het hD h2z hzx hsum
 go_wp2_with fail
 refine(dQ B z c _ _ wr ig D7 (by omega) (by omega) (by omega) (by omega)).mono ?_;rintro e w3 ⟨rfl,b3,o3⟩;rw[Int.toNat_natCast,show(2:Int).toNat=2 from rfl]at b3;have hl3:=WS B _ c w3 b3 (by rw[SR.aH];omega);rw[SR.aR _ _ _ _ (by omega) (by omega),H2Z.out]at hl3
 go_wp2_with fail
 refine hl3.mono ?_;rintro e w' ⟨rfl,k2,rfl⟩;have hcl:=UK.LH (P:=Tryz.prog) (t:=94) (ty:=0) Tryz.underlying94 (λ w=>by kernel_rfl) (b3.drewN k2) (4+4*l.length) (en-(4+4*l.length)) (c-(4+4*l.length)) (by rw[SR.aH];omega);have b4:=(b3.drewN k2).setCells (UK.bF (en-(4+4*l.length))) (4+4*l.length) (by rw[SR.aH,UK.jm];omega);have o4:=((ho.trans o3).drewN k2).setCells (UK.cellsOf (UK.bF (en-(4+4*l.length)))) (o:=4+4*l.length);have B4:=zH b4;have O4:=zH o4
 have hxl:(UK.wr (SR.put z 2 en) (4+4*l.length) (UK.bF (en-(4+4*l.length)))).length=x.length:=by
  rw[UK.iW _ _ _ (by rw[SR.aH,UK.jm];omega),SR.aH,HZX.out]
 have Gg:=zH hxl;clear b4 o4 hl3 hxl;have h10:(4:Int)+4*l.length<=en:=by omega
 have h11:¬c=4+4*l.length:=by omega
 have h12:(en:Int)<=c:=by omega
 go_wp2
 go_end0
 exact⟨rfl,⟨_,B4.out,HD.out.1,HD.out.2.trans HET.out,Gg.out⟩,O4.out⟩
theorem cB(B:Nat)(x:List UInt8)(l:List (List UInt8))(c:Nat)(hc:504<=c)(i:Nat)(s:List UInt8)(W:World)(h:aF W B x)(r:aM x l)(hi:i<l.length)(h0:aW l i=[])(hs:s≠[])(hsum:4+4*l.length+total l+s.length<=504) :
  Calls Tryz.prog 233 #[.slice B 504 c,.int .i64 i,.string (str s)] W λ e w'=>e= .returned (.tuple #[])/\(∃x',aF w' B x'/\aM x' (l.set i s)/\x'.length=x.length)/\Only B W w':=by
 have hf:=r.few;have hl2:=r.oz;have hs0:0<s.length:=List.length_pos_iff.2 hs;have uf:=zH hs;have WT:=zH h0;clear hs h0;by_cases hlow:4+4*l.length+s.length<=SR.low x
 ·obtain⟨x1,r1,oL,hx1,hb1⟩:∃x1,aM x1 l/\4+4*l.length+s.length<=SR.low x1/\x1.length=x.length/\∀n,aF (W.drewN n) B x1:=⟨x,r,hlow,rfl,λ n=>h.drewN n⟩;have HB1:=zH hb1;clear hb1
  go_enter Tryz.func233,Tryz.ntmps233
  go_wp2_with fail
  refine(Aq B x c W h r.size).mono ?_;rintro e w' ⟨rfl,k1,rfl⟩
  go_wp2_with fail
  refine(pO B x l c _ (h.drewN k1) r).mono ?_;rintro e w' ⟨rfl,k2,rfl⟩
  go_wp2_with fail
  have b1:=HB1.out (k1+k2);have o1:=(Only.refl B W).drewN (k1+k2);generalize W.drewN (k1+k2)=w1 at b1 o1 ⊢;have EN:=r1.oz;have hsz:=r1.size;have hR:=r1.store hi WT.out s uf.out oL (by omega);have HR:=zH hR;have hcp:=λ n=>UK.Ei (P:=Tryz.prog) (dT:=94) (sT:=9) (ty:=3) Tryz.underlying94 (λ w=>by kernel_rfl) (b1.drewN n) (SR.low x1-s.length) (504-(SR.low x1-s.length)) (c-(SR.low x1-s.length)) s (by omega) (by omega);have HB2:=zH (λ n=>(b1.drewN n).setCells s (SR.low x1-s.length) (by omega));have uO:=zH (λ n=>(o1.drewN n).setCells (UK.cellsOf s) (o:=SR.low x1-s.length));have h10:(SR.low x1:Int)-s.length<=504:=by omega
  have h11:(0:Int)<=(SR.low x1:Int)-s.length:=by omega
  have h12:¬c=SR.low x1-s.length:=by omega
  have hlen3:(UK.wr x1 (SR.low x1-s.length) s).length=x1.length:=UK.iW _ _ _ (by omega);have Bq:Hid (((SR.low x1:Int)-s.length).toNat=SR.low x1-s.length):=by show _=_;omega
  clear hR;refine(Aq B x1 c w1 b1 hsz).mono ?_;rintro e w' ⟨rfl,k4,rfl⟩
  go_wp2_with fail
  have b3:=HB2.out k4;have o3:=uO.out k4;generalize (w1.drewN k4).setCells B (SR.low x1-s.length) (UK.cellsOf s)=w3 at b3 o3 ⊢;clear hcp;refine(gP B _ c i _ _ w3 b3 (by omega) (by omega) (by omega) h11 (by omega) (by omega) (by omega)).mono ?_;rintro e w4 ⟨rfl,b4,o4⟩;rw[Bq.out,Int.toNat_natCast,Int.toNat_natCast]at b4
  go_wp2_with fail
  refine(dQ B _ c _ _ w4 b4 (by rw[SR.bU];omega) (by omega) (by omega) h11 (by omega)).mono ?_;rintro e w5 ⟨rfl,b5,o5⟩;rw[Bq.out,show(2:Int).toNat=2 from rfl]at b5;go_wp2
  go_end0
  exact⟨rfl,⟨_,b5,HR.out,by rw[SR.aH,SR.bU,hlen3];exact hx1⟩,(o3.trans o4).trans o5⟩
 go_enter Tryz.func233,Tryz.ntmps233
 go_wp2_with fail
 refine(Aq B x c W h r.size).mono ?_;rintro e w' ⟨rfl,k1,rfl⟩
 go_wp2_with fail
 refine(pO B x l c _ (h.drewN k1) r).mono ?_;rintro e w' ⟨rfl,k2,rfl⟩
 go_wp2_with fail
 refine(WN B x l c hc _ (h.drewN (k1+k2)) r (by omega)).mono ?_;rintro e w1 ⟨rfl,⟨x1,b1,r1,zu,hx1⟩,o0⟩;have oL:4+4*l.length+s.length<=SR.low x1:=by omega
 have o1:Only B W w1:=((Only.refl B W).drewN (k1+k2)).trans o0;clear zu
 go_wp2_with fail
 have EN:=r1.oz;have hsz:=r1.size;have hR:=r1.store hi WT.out s uf.out oL (by omega);have HR:=zH hR;have hcp:=λ n=>UK.Ei (P:=Tryz.prog) (dT:=94) (sT:=9) (ty:=3) Tryz.underlying94 (λ w=>by kernel_rfl) (b1.drewN n) (SR.low x1-s.length) (504-(SR.low x1-s.length)) (c-(SR.low x1-s.length)) s (by omega) (by omega);have HB2:=zH (λ n=>(b1.drewN n).setCells s (SR.low x1-s.length) (by omega));have uO:=zH (λ n=>(o1.drewN n).setCells (UK.cellsOf s) (o:=SR.low x1-s.length));have h10:(SR.low x1:Int)-s.length<=504:=by omega
 have h11:(0:Int)<=(SR.low x1:Int)-s.length:=by omega
 have h12:¬c=SR.low x1-s.length:=by omega
 have hlen3:(UK.wr x1 (SR.low x1-s.length) s).length=x1.length:=UK.iW _ _ _ (by omega);have Bq:Hid (((SR.low x1:Int)-s.length).toNat=SR.low x1-s.length):=by show _=_;omega
 clear hR;refine(Aq B x1 c w1 b1 hsz).mono ?_;rintro e w' ⟨rfl,k4,rfl⟩
 go_wp2_with fail
 have b3:=HB2.out k4;have o3:=uO.out k4;generalize (w1.drewN k4).setCells B (SR.low x1-s.length) (UK.cellsOf s)=w3 at b3 o3 ⊢;clear hcp;refine(gP B _ c i _ _ w3 b3 (by omega) (by omega) (by omega) h11 (by omega) (by omega) (by omega)).mono ?_;rintro e w4 ⟨rfl,b4,o4⟩;rw[Bq.out,Int.toNat_natCast,Int.toNat_natCast]at b4
 go_wp2_with fail
 refine(dQ B _ c _ _ w4 b4 (by rw[SR.bU];omega) (by omega) (by omega) h11 (by omega)).mono ?_;rintro e w5 ⟨rfl,b5,o5⟩;rw[Bq.out,show(2:Int).toNat=2 from rfl]at b5;go_wp2
 go_end0
 exact⟨rfl,⟨_,b5,HR.out,by rw[SR.aH,SR.bU,hlen3];exact hx1⟩,(o3.trans o4).trans o5⟩
open UK (nth)
def add(l:List (List UInt8))(s:List UInt8):List (List UInt8):=if hole l<l.length then l.set (hole l) s else l++[s]
theorem xxq(l:List (List UInt8))(s:List UInt8)(h:hole l<l.length):add l s=l.set (hole l) s:=by unfold add;rw[if_pos h]
theorem WU(l:List (List UInt8))(s:List UInt8)(h:hole l=l.length):add l s=(l++[[]]).set l.length s:=by
 unfold add;rw[if_neg (by omega),List.set_append_right _ _ (aO _)];simp
theorem WV(l:List (List UInt8)):aW (l++[[]]) l.length=[]:=by simp[aW]
def kept(l:List (List UInt8)):Nat->Nat
 | 0=>0
 | n+1=>if aW l n=[] then kept l n else n+1
theorem WW(l:List (List UInt8))(n:Nat):kept l n<=n:=by
 induction n with
 | zero=>simp[kept]
 | succ n ih=>simp only[kept];split<;>omega
theorem WX(l:List (List UInt8))(m n:Nat)(hm:m<=n)(h:∀j,m<=j->j<n->aW l j=[])(h0:0<m->aW l (m-1)≠[]):kept l n=m:=by
 induction n with
 | zero=>simp[kept];omega
 | succ n ih=>
  by_cases Af:m=n+1
  ·subst Af;have:=h0 (by omega);simp only[Nat.add_sub_cancel]at this;simp[kept,this]
  simp only[kept];rw[if_pos (h n (by omega) (by omega)),ih (by omega) (λ j h1 h2=>h j h1 (by omega))]
theorem WY(l:List (List UInt8))(n:Nat):(∀j,kept l n<=j->j<n->aW l j=[])/\(0<kept l n->aW l (kept l n-1)≠[]):=by
 induction n with
 | zero=>simp[kept]
 | succ n ih=>
  by_cases h:aW l n=[]
  ·simp only[kept,if_pos h];refine⟨λ j h1 h2=>?_,ih.2⟩;by_cases hj:j=n
   ·rw[hj];exact h
   exact ih.1 j h1 (by omega)
  simp only[kept,if_neg h];exact⟨λ j h1 h2=>by omega,λ _=>by simpa using h⟩
def trim(l:List (List UInt8)):List (List UInt8):=l.take (kept l l.length)
theorem Hm(l:List (List UInt8))(n j:Nat)(h:j<n):aW (l.take n) j=aW l j:=by
 unfold aW List.getD;rw[List.getElem?_take,if_pos h]
theorem xrk(l:List (List UInt8))(n:Nat)(h:∀j,n<=j->aW l j=[]):total (l.take n)=total l:=by
 induction l generalizing n with
 | nil=>simp
 | cons s l ih=>
  cases n with
  | zero=>
   have hs:s=[]:=h 0 (aO _);have:=ih 0 (λ j _=>h (j+1) (by omega));simp[total]at this ⊢;rw[hs,<-this];rfl
  | succ n=>
   have:=ih n (λ j hj=>h (j+1) (by omega));simp[total,this]
theorem yb2{x:List UInt8}{l:List (List UInt8)}(h:aM x l)(n:Nat)(hn:n<=l.length)(hn0:0<n)(hz:∀j,n<=j->j<l.length->aW l j=[]):aM (SR.put x 0 n) (l.take n):=by
 have hf:=h.few;have hsz:=h.size
 have hz':∀j,n<=j->aW l j=[]:=λ j hj=>by
  by_cases hl:j<l.length
  ·exact hz j hj hl
  exact SR.gm l j (by omega)
 have aD:(l.take n).length=n:=by rw[zt];omega
 have h2:∀b,2<=b->SR.two (SR.put x 0 n) b=SR.two x b:=λ b hb=>SR.aR _ _ _ _ (by omega) (by omega);have hp:∀i,SR.pos (SR.put x 0 n) i=SR.pos x i:=λ i=>h2 _ (by omega);have he:∀i,SR.ext (SR.put x 0 n) i=SR.ext x i:=λ i=>h2 _ (by omega);have hlow:SR.low (SR.put x 0 n)=SR.low x:=h2 _ (by omega);refine⟨by rw[SR.aH];exact hsz,?_,?_,?_,?_,?_,?_,?_,?_,?_⟩
 ·rw[aD];exact SR.dh _ _ _ (by omega) (by omega)
 ·rw[hlow,aD];have:=h.mQ;omega
 ·rw[hlow];exact h.oz
 ·intro h0;have:(l.take n).length=0:=by rw[h0];rfl
  omega
 ·intro i hi h0;rw[aD]at hi;rw[Hm l n i hi]at h0;rw[hp,he];exact h.hole i (by omega) h0
 ·intro i hi hne;rw[aD]at hi;rw[Hm l n i hi]at hne ⊢;rw[hp,he,hlow];exact h.there i (by omega) hne
 ·intro i hi k hk;rw[aD]at hi;rw[Hm l n i hi]at hk ⊢;have ht:=h.there i (by omega) (by intro e;rw[e]at hk;simp at hk);have:=h.mQ;rw[hp,SR.eU _ _ _ _ (by omega) (by omega)];exact h.bytes i (by omega) k hk
 ·intro i j hi hj hij wu eO;rw[aD]at hi hj;rw[Hm l n i hi]at wu ⊢;rw[Hm l n j hj]at eO ⊢;rw[hp,hp];exact h.apart i j (by omega) (by omega) hij wu eO
 rw[aD,xrk l n hz'];have:=h.sum;omega
theorem yah{x:List UInt8}{l:List (List UInt8)}(h:aM x l):aM (SR.put (SR.put x 0 0) 2 504) []:=by
 have hsz:=h.size
 have e0:SR.two (SR.put (SR.put x 0 0) 2 504) 0=0:=by
  rw[SR.aR _ _ _ _ (by rw[SR.aH];omega) (by omega)];exact SR.dh _ _ _ (by omega) (by decide)
 have e2:SR.low (SR.put (SR.put x 0 0) 2 504)=504:=SR.dh _ _ _ (by rw[SR.aH];omega) (by decide);refine⟨by rw[SR.aH,SR.aH];exact hsz,e0,by rw[e2];decide,by rw[e2];decide,λ _=>e2,?_,?_,?_,?_,by simp[total]⟩
 ·intro i hi;simp at hi
 ·intro i hi;simp at hi
 ·intro i hi;simp at hi
 intro i j hi;simp at hi
theorem xuv(l:List (List UInt8))(h:hole l<l.length):room l=500-4*l.length-total l:=by unfold room;rw[if_neg (by omega)];omega
theorem xxr(l:List (List UInt8))(h:hole l=l.length):room l=496-4*l.length-total l:=by unfold room;rw[if_pos h];omega
theorem yQ(B:Nat)(x:List UInt8)(c:Nat)(W:World)(h:aF W B x)(hx:504<=x.length) :
  Calls Tryz.prog 176 #[.slice B 504 c] W λ e w'=>e= .returned (.tuple #[])/\(∃x',aF w' B x'/\aM x' []/\x'.length=x.length)/\Only B W w':=by
 have hcl:=UK.LH (P:=Tryz.prog) (t:=94) (ty:=0) Tryz.underlying94 (λ w=>by kernel_rfl) h 0 504 c (by omega);have b4:=h.setCells (UK.bF 504) 0 (by rw[UK.jm];omega);have o4:=(Only.refl B W).setCells (UK.cellsOf (UK.bF 504)) (o:=0);have aD:(UK.wr x 0 (UK.bF 504)).length=x.length:=UK.iW _ _ _ (by rw[UK.jm];omega)
 have hi:=aM.init (UK.wr x 0 (UK.bF 504)) (by omega) (λ i hi=>by
  rw[SR.jq _ _ _ (by rw[UK.jm];omega),if_pos (by rw[UK.jm];omega)];exact UK.xvz _ _)
 have HI:=zH hi;have B4:=zH b4;have O4:=zH o4;have HL:=zH aD;clear hi b4 o4 aD
 go_enter Tryz.func176,Tryz.ntmps176
 go_wp2_with fail
 refine(dQ B _ c _ _ _ B4.out (by rw[HL.out];exact hx) (by omega) (by omega) (by omega) (by omega)).mono ?_;rintro e w3 ⟨rfl,b3,o3⟩;go_wp2
 go_end0
 exact⟨rfl,⟨_,b3,HI.out,by rw[SR.aH,HL.out]⟩,O4.out.trans o3⟩
theorem uY(B:Nat)(x:List UInt8)(l:List (List UInt8))(c:Nat)(hc:504<=c)(s:List UInt8)(W:World)(h:aF W B x)(r:aM x l)(hs:s≠[])(hr:(s.length:Int)<=room l) :
  Calls Tryz.prog 177 #[.slice B 504 c,.string (str s)] W λ e w'=>e= .returned (.tuple #[.int .i64 (hole l:Nat),.bool true])/\(∃x',aF w' B x'/\aM x' (add l s)/\x'.length=x.length)/\Only B W w':=by
 have hf:=r.few;have hl2:=r.oz;have hs0:0<s.length:=List.length_pos_iff.2 hs;have uf:=zH hs;have hse:s.isEmpty=false:=by cases s;exact absurd rfl hs;rfl
 have hle:=nV l;have hr0:¬room l<s.length:=by omega
 clear hs;by_cases hh:hole l=l.length
 ·have hrm:=xxr l hh;have hsum:4+4*(l.length+1)+total l+s.length<=504:=by omega
  have HR:=zH hrm;clear hrm;replace hh:=zH hh;by_cases hlow:4+4*(l.length+1)<=SR.low x
  ·obtain⟨x1,r1,oL,hx1,hb1⟩:∃x1,aM x1 l/\4+4*(l.length+1)<=SR.low x1/\x1.length=x.length/\∀w,Below W W w->aF w B x1:=⟨x,r,hlow,rfl,λ w hb=>h.below hb h.lt⟩;have HB1:=zH hb1;clear hb1
   go_enter Tryz.func177,Tryz.ntmps177
   go_wp2_with fail
   refine(fu B x l c W h r).mono ?_;rintro e w1 ⟨rfl,b1⟩
   go_wp2_with fail
   refine(Ns B x l c w1 (h.below b1 h.lt) r).mono ?_;rintro e w2 ⟨rfl,b2⟩;have b12:=b1.trans (b2.mono b1.size);rw[hh.out]
   go_wp2_with fail
   refine(pO B x l c w2 (h.below b12 h.lt) r).mono ?_;rintro e w' ⟨rfl,k1,rfl⟩;have b13:=UK.dK b12 k1
   go_wp2_with fail
   refine(Aq B x c _ (h.below b13 h.lt) r.size).mono ?_;rintro e w' ⟨rfl,k2,rfl⟩
   go_wp2_with fail
   have b14:=UK.dK b13 k2;have hb1:=HB1.out _ b14;have o1:=Only.of_below (B:=B) b14;simp only[World.drewN_drewN]at hb1 o1 ⊢;generalize w2.drewN (k1+k2)=w3 at hb1 o1 ⊢;have hG:=r1.grow oL (by omega);have HG:=zH hG;have hsz1:=r1.size;clear hG;refine(dQ B x1 c _ _ w3 hb1 hsz1 (by omega) (by omega) (by omega) (by omega)).mono ?_;rintro e w4 ⟨rfl,b4,o4⟩;rw[show(0:Int).toNat=0 from rfl,show((l.length:Int)+1).toNat=l.length+1 by omega]at b4
   go_wp2_with fail
   refine(gP B _ c _ _ _ w4 b4 (by rw[SR.aH];omega) (by omega) (by omega) (by omega) (by omega) (by omega) (by omega)).mono ?_;rintro e w5 ⟨rfl,b5,o5⟩;rw[Int.toNat_natCast,show(0:Int).toNat=0 from rfl]at b5
   go_wp2_with fail
   refine(cB B _ (l++[[]]) c hc l.length s w5 b5 HG.out (by rw[zl];simp) (WV l) uf.out (by rw[zl,SR.fB];simp[total];omega)).mono ?_;rintro e w6 ⟨rfl,⟨x6,b6,r6,hx6⟩,o6⟩;rw[<-WU l s hh.out]at r6;rw[SR.bU,SR.aH]at hx6;go_wp2;go_ret2;exact⟨by rw[hh.out]<;>rfl,⟨x6,b6,r6,by rw[hx6];exact hx1⟩,((o1.trans o4).trans o5).trans o6⟩
  go_enter Tryz.func177,Tryz.ntmps177
  go_wp2_with fail
  refine(fu B x l c W h r).mono ?_;rintro e w1 ⟨rfl,b1⟩
  go_wp2_with fail
  refine(Ns B x l c w1 (h.below b1 h.lt) r).mono ?_;rintro e w2 ⟨rfl,b2⟩;have b12:=b1.trans (b2.mono b1.size);rw[hh.out]
  go_wp2_with fail
  refine(pO B x l c w2 (h.below b12 h.lt) r).mono ?_;rintro e w' ⟨rfl,k1,rfl⟩;have b13:=UK.dK b12 k1
  go_wp2_with fail
  refine(Aq B x c _ (h.below b13 h.lt) r.size).mono ?_;rintro e w' ⟨rfl,k2,rfl⟩
  go_wp2_with fail
  have b14:=UK.dK b13 k2;have hbx:=h.below b14 h.lt;have ox:=Only.of_below (B:=B) b14;simp only[World.drewN_drewN]at hbx ox ⊢;refine(WN B x l c hc _ hbx r (by omega)).mono ?_;rintro e w3 ⟨rfl,⟨x1,hb1,r1,zu,hx1⟩,o0⟩;have oL:4+4*(l.length+1)<=SR.low x1:=by omega
  have o1:Only B W w3:=ox.trans o0;clear zu
  go_wp2_with fail
  have hG:=r1.grow oL (by omega);have HG:=zH hG;have hsz1:=r1.size;clear hG;refine(dQ B x1 c _ _ w3 hb1 hsz1 (by omega) (by omega) (by omega) (by omega)).mono ?_;rintro e w4 ⟨rfl,b4,o4⟩;rw[show(0:Int).toNat=0 from rfl,show((l.length:Int)+1).toNat=l.length+1 by omega]at b4
  go_wp2_with fail
  refine(gP B _ c _ _ _ w4 b4 (by rw[SR.aH];omega) (by omega) (by omega) (by omega) (by omega) (by omega) (by omega)).mono ?_;rintro e w5 ⟨rfl,b5,o5⟩;rw[Int.toNat_natCast,show(0:Int).toNat=0 from rfl]at b5
  go_wp2_with fail
  refine(cB B _ (l++[[]]) c hc l.length s w5 b5 HG.out (by rw[zl];simp) (WV l) uf.out (by rw[zl,SR.fB];simp[total];omega)).mono ?_;rintro e w6 ⟨rfl,⟨x6,b6,r6,hx6⟩,o6⟩;rw[<-WU l s hh.out]at r6;rw[SR.bU,SR.aH]at hx6;go_wp2;go_ret2;exact⟨by rw[hh.out]<;>rfl,⟨x6,b6,r6,by rw[hx6];exact hx1⟩,((o1.trans o4).trans o5).trans o6⟩
 have hlt:hole l<l.length:=by omega
 have hrm:=xuv l hlt;have hsum:4+4*l.length+total l+s.length<=504:=by omega
 have hb0:((hole l:Int)==(l.length:Int))=false:=by rw[beq_eq_false_iff_ne];omega
 have HA:=zH (xxq l s hlt);have HZ:=zH ((qx l).2 hlt);clear hrm hh
 go_enter Tryz.func177,Tryz.ntmps177
 go_wp2_with fail
 refine(fu B x l c W h r).mono ?_;rintro e w1 ⟨rfl,b1⟩
 go_wp2_with fail
 refine(Ns B x l c w1 (h.below b1 h.lt) r).mono ?_;rintro e w2 ⟨rfl,b2⟩;have b12:=b1.trans (b2.mono b1.size)
 go_wp2_with fail
 refine(pO B x l c w2 (h.below b12 h.lt) r).mono ?_;rintro e w' ⟨rfl,k1,rfl⟩;have b13:=UK.dK b12 k1
 go_wp2_with fail
 refine(cB B x l c hc (hole l) s _ (h.below b13 h.lt) r hlt HZ.out uf.out hsum).mono ?_;rintro e w5 ⟨rfl,⟨x5,b5,r5,hx5⟩,o5⟩;rw[<-HA.out]at r5;go_wp2;go_ret2;exact⟨rfl,⟨x5,b5,r5,hx5⟩,(Only.of_below b13).trans o5⟩
theorem xxs(l:List (List UInt8))(k:Nat)(h1:k<l.length)(h2:aW l k≠[]):hasB l k=true:=by
 unfold hasB;simp[h1,h2]
theorem QU(B:Nat)(x:List UInt8)(l:List (List UInt8))(c k:Nat)(W:World)(h:aF W B x)(r:aM x l)(h1:k<l.length)(h2:aW l k≠[]) :
  Calls Tryz.prog 220 #[.slice B 504 c,.int .i64 k] W λ e w'=>e= .returned (.bool true)/\Below W W w':=by
 have:=kH B x l c k W h r
 rwa [xxs l k h1 h2]at this
theorem BX(B:Nat)(x:List UInt8)(l:List (List UInt8))(c k:Nat)(s:List UInt8)(W:World)(h:aF W B x)(r:aM x l)(h1:k<l.length)(h2:aW l k≠[])(hs:s≠[])(hbig:504+(aW l k).length<4+4*l.length+total l+s.length) :
  Calls Tryz.prog 179 #[.slice B 504 c,.int .i64 k,.string (str s)] W λ e w'=>e= .returned (.bool false)/\Below W W w':=by
 have hf:=r.few;have hsum:=r.sum;have H:=zH (QU B x l c k W h r h1 h2);have hle:=SR.iQ l k;have hse:s.isEmpty=false:=by cases s;exact absurd rfl hs;rfl
 have hbig2:(500:Int)-4*l.length-total l+(aW l k).length<s.length:=by omega
 clear h2 hs
 go_enter Tryz.func179,Tryz.ntmps179
 go_wp2_with fail
 refine H.out.mono ?_;rintro e w1 ⟨rfl,b1⟩
 go_wp2_with fail
 refine(Cf B x l c k w1 (h.below b1 h.lt) r h1).mono ?_;rintro e w' ⟨rfl,k1,rfl⟩;have b2:=UK.dK b1 k1;generalize w1.drewN k1=w2 at b2 ⊢
 go_wp2_with fail
 refine(pO B x l c _ (h.below b2 h.lt) r).mono ?_;rintro e w' ⟨rfl,k2,rfl⟩;have b3:=UK.dK b2 k2;generalize w2.drewN k2=w3 at b3 ⊢
 go_wp2_with fail
 refine(QV B x l c _ (h.below b3 h.lt) r).mono ?_;rintro e w4 ⟨rfl,b4⟩;go_wp2;go_ret;exact⟨rfl,b3.trans (b4.mono b3.size)⟩
theorem BV(B:Nat)(x:List UInt8)(l:List (List UInt8))(c:Nat)(hc:504<=c)(k:Nat)(s:List UInt8)(W:World)(h:aF W B x)(r:aM x l)(h1:k<l.length)(h2:aW l k≠[])(hs:s≠[])(hfit:4+4*l.length+total l+s.length<=504+(aW l k).length) :
  Calls Tryz.prog 179 #[.slice B 504 c,.int .i64 k,.string (str s)] W λ e w'=>e= .returned (.bool true)/\(∃x',aF w' B x'/\aM x' (l.set k s)/\x'.length=x.length)/\Only B W w':=by
 have hf:=r.few;have hsum:=r.sum;have H:=zH (QU B x l c k W h r h1 h2);have hle:=SR.iQ l k;have hse:s.isEmpty=false:=by cases s;exact absurd rfl hs;rfl
 have WZ:¬(500:Int)-4*l.length-total l+(aW l k).length<s.length:=by omega
 have uf:=zH hs;have HD:=zH (r.drop h1);have hts:=SR.mW l k [] h1;rw[List.length_nil]at hts;have hsz:=r.size;clear h2 hs
 go_enter Tryz.func179,Tryz.ntmps179
 go_wp2_with fail
 refine H.out.mono ?_;rintro e w1 ⟨rfl,b1⟩
 go_wp2_with fail
 refine(Cf B x l c k w1 (h.below b1 h.lt) r h1).mono ?_;rintro e w' ⟨rfl,k1,rfl⟩;have b2:=UK.dK b1 k1;generalize w1.drewN k1=w2 at b2 ⊢
 go_wp2_with fail
 refine(pO B x l c _ (h.below b2 h.lt) r).mono ?_;rintro e w' ⟨rfl,k2,rfl⟩;have b3:=UK.dK b2 k2;generalize w2.drewN k2=w3 at b3 ⊢
 go_wp2_with fail
 refine(QV B x l c _ (h.below b3 h.lt) r).mono ?_;rintro e w4 ⟨rfl,b4⟩;have b5:=b3.trans (b4.mono b3.size)
 go_wp2_with fail
 refine(gP B x c _ _ _ w4 (h.below b5 h.lt) hsz (by omega) (by omega) (by omega) (by omega) (by omega) (by omega)).mono ?_;rintro e w6 ⟨rfl,b6,o6⟩;rw[Int.toNat_natCast,show(0:Int).toNat=0 from rfl]at b6
 go_wp2_with fail
 refine(cB B _ (l.set k []) c hc k s w6 b6 HD.out (by rw[aQ];exact h1) (by rw[SR.eQ,if_pos ⟨rfl,h1⟩]) uf.out (by rw[aQ];omega)).mono ?_;rintro e w7 ⟨rfl,⟨x7,b7,r7,hx7⟩,o7⟩;rw[List.set_set]at r7;go_wp2;go_ret;exact⟨rfl,⟨x7,b7,r7,by rw[hx7,SR.bU]⟩,((Only.of_below b5).trans o6).trans o7⟩
theorem yU(B:Nat)(x:List UInt8)(l:List (List UInt8))(c k:Nat)(W:World)(h:aF W B x)(r:aM x l)(h1:k<l.length)(h2:aW l k≠[]) :
  Calls Tryz.prog 171 #[.slice B 504 c,.int .i64 k] W λ e w'=>e= .returned (.bool true)/\(∃x',aF w' B x'/\aM x' (trim (l.set k []))/\x'.length=x.length)/\Only B W w':=by
 have hf:=r.few;have H:=zH (QU B x l c k W h r h1 h2);have hsz:=r.size;have hD:=r.drop h1;have hL1:(SR.lay x k 0 0).length=x.length:=SR.bU _ _ _ _;generalize hm:l.set k []=m at *;generalize hx1:SR.lay x k 0 0=x1 at *;have HX1:=zH hx1;have HL:=zH hL1;clear h2 hx1 hm hL1;have hf1:=hD.few;have hl1:=hD.mQ;have hsz1:=hD.size
 go_enter Tryz.func171,Tryz.ntmps171
 go_wp2_with fail
 refine H.out.mono ?_;rintro e w1 ⟨rfl,b1⟩
 go_wp2_with fail
 refine(gP B x c _ _ _ w1 (h.below b1 h.lt) hsz (by omega) (by omega) (by omega) (by omega) (by omega) (by omega)).mono ?_;rintro e w6 ⟨rfl,b6,o6⟩;rw[Int.toNat_natCast,show(0:Int).toNat=0 from rfl,HX1.out]at b6
 go_wp2_with fail
 refine(pO B x1 m c w6 b6 hD).mono ?_;rintro e w' ⟨rfl,k1,rfl⟩
 go_wp2_with fail
 go_loopw [5] (λ n wr=>∃q:Nat,q<=m.length/\n= .int .i64 q/\Hid (∀j,q<=j->j<m.length->aW m j=[])/\Below w6 w6 wr) (λ n _=>(intOf n).toNat)
 case atStart=>exact⟨m.length,aO _,rfl,λ j h1 h2=>absurd h1 (by omega),UK.dK (aV _ _) _⟩
 obtain⟨q,hq,rfl,HJ,hb⟩:=hrel;have hbx:=b6.below hb b6.lt;have ob:Only B W _:=((Only.of_below (B:=B) b1).trans o6).trans (Only.of_below hb)
 cases q with
 | zero=>
  have hk0:kept m m.length=0:=WX m 0 m.length (aY _) HJ.out (λ h=>absurd h (lu _));have HT:Hid (trim m=[]):=by show _=_;unfold trim;rw[hk0];rfl
  have HR:=zH (yah hD);clear hk0
  go_wp2_with fail
  refine(dQ B x1 c _ _ _ hbx hsz1 (by omega) (by omega) (by omega) (by omega)).mono ?_;rintro e w7 ⟨rfl,b7,o7⟩;rw[show(0:Int).toNat=0 from rfl]at b7
  go_wp2_with fail
  refine(dQ B _ c _ _ w7 b7 (by rw[SR.aH];exact hsz1) (by omega) (by omega) (by omega) (by omega)).mono ?_;rintro e w8 ⟨rfl,b8,o8⟩;go_wp2;go_ret;exact⟨rfl,⟨_,b8,by rw[HT.out];exact HR.out,by rw[SR.aH,SR.aH];exact HL.out⟩,(ob.trans o7).trans o8⟩
 | succ q=>
  by_cases h0:aW m q=[]
  ·have HJ2:Hid (∀j,q<=j->j<m.length->aW m j=[]):=λ j hj1 hj2=>by
    by_cases hjq:j=q
    ·rw[hjq];exact h0
    exact HJ.out j (by omega) hj2
   have Ap:=zH (Ho B x1 m c q _ hbx hD (by omega) h0);clear h0
   go_wp2_with fail
   refine Ap.out.mono ?_;rintro e w' ⟨rfl,k2,rfl⟩;go_wp2;go_roundw
   case rel=>exact⟨q,by omega,by go_num,HJ2,UK.dK hb _⟩
   case measure=>simp[intOf]
  have hkq:kept m m.length=q+1:=WX m (q+1) m.length hq HJ.out (λ _=>by simpa using h0);have HT:Hid (trim m=m.take (q+1)):=by show _=_;unfold trim;rw[hkq]
  have HR:=zH (yb2 hD (q+1) hq (by omega) HJ.out);have Ap:=zH (Cf B x1 m c q _ hbx hD (by omega));have hp:=(hD.there q (by omega) h0).1;have hp0:0<SR.pos x1 q:=by omega
  clear hkq h0 hp
  go_wp2_with fail
  refine Ap.out.mono ?_;rintro e w' ⟨rfl,k2,rfl⟩
  go_wp2_with fail
  refine(dQ B x1 c _ _ _ (hbx.drewN k2) hsz1 (by omega) (by omega) (by omega) (by omega)).mono ?_;rintro e w7 ⟨rfl,b7,o7⟩;rw[show(0:Int).toNat=0 from rfl,show((q:Int)+1).toNat=q+1 by omega]at b7;have hq0:((q:Int)+1==0)=false:=by rw[beq_eq_false_iff_ne];omega
  go_wp2;go_ret
  exact⟨rfl,⟨_,b7,by rw[HT.out];exact HR.out,by rw[SR.aH];exact HL.out⟩,(ob.drewN k2).trans o7⟩
def Nu:List Bool:=List.replicate 504 false
theorem xuz(w:World):(zeroValue 305).run Tryz.prog w= .ok (.agg (UK.bl Nu)) w:=by kernel_rfl
def Met(x:List UInt8)(l:List (List UInt8))(k:Nat)(v:List Bool):Prop:=∀j,UK.tr v j=true->∃i,i<k/\i<l.length/\aW l i≠[]/\SR.pos x i<=j/\j<SR.pos x i+(aW l i).length
theorem ow(B:Nat)(x:List UInt8)(l:List (List UInt8))(c:Nat)(W:World)(h:aF W B x)(r:aM x l)(hlast:l=[]\/aW l (l.length-1)≠[]) :
  Calls Tryz.prog 210 #[.slice B 504 c] W λ e w'=>e= .returned (.bool true)/\Below W W w':=by
 have HZ:=xuz;have hf:=r.few;have hl1:=r.mQ;have hl2:=r.oz
 go_enter Tryz.func210,Tryz.ntmps210
 go_wp2_with fail
 refine(pO B x l c W h r).mono ?_;rintro e w' ⟨rfl,k1,rfl⟩;have b1:Below W W (W.drewN k1):=UK.dK (aV _ _) k1;generalize W.drewN k1=w1 at b1 ⊢
 go_wp2_with fail
 refine(Aq B x c _ (h.below b1 h.lt) r.size).mono ?_;rintro e w' ⟨rfl,k2,rfl⟩;have b2:=UK.dK b1 k2;generalize w1.drewN k2=w2 at b2 ⊢
 go_wp2_with fail
 refine(Aq B x c _ (h.below b2 h.lt) r.size).mono ?_;rintro e w' ⟨rfl,k3,rfl⟩;have b3:=UK.dK b2 k3;generalize w2.drewN k3=w3 at b3 ⊢;have hs3:=b3.size;have hv:=UK.xv1 w3 504 305 (UK.bl Nu) rfl;have b4:=b3.alloc hs3 (.cells (UK.bl Nu) 305);have HV:=zH hv;clear hv
 go_wp2_with fail
 have hv2:=HV.out;generalize w3.alloc (.cells (UK.bl Nu) 305)=w4 at b4 hv2 ⊢;obtain⟨S,hS,HS⟩:∃S,W.heap.size<=S/\Hid (w3.heap.size=S):=⟨_,hs3,rfl⟩;rw[HS.out]at hv2 ⊢;have Kw:Met x l 0 (List.replicate 504 false):=λ j hj=>by rw[UK.xm4]at hj;cases hj
 have hvl:(List.replicate 504 false).length=504:=gY;have Xc:=zH hvl;generalize List.replicate 504 false=v0 at hv2 Kw Xc;clear HV hs3 b3 hvl;refine(pO B x l c _ (h.below b4 h.lt) r).mono ?_;rintro e w' ⟨rfl,k4,rfl⟩;have b5:=UK.dK b4 k4;have hv3:=hv2.drewN k4;generalize w4.drewN k4=w5 at b5 hv3 ⊢
 go_wp2_with fail
 have d1:decide ((SR.low x:Int)<4+4*(l.length:Int))=false:=by rw[decide_eq_false_iff_not];omega
 have d2:decide ((504:Int)<(SR.low x:Int))=false:=by rw[decide_eq_false_iff_not];omega
 simp only[d1,d2,Bool.or_false];have hsz:=r.size
 go_loopw [27] (λ i wr=>∃(k:Nat) (v:List Bool),k<=l.length/\i= .int .i64 k/\Hid (v.length=504)/\Met x l k v/\UK.zw wr S v/\Below W W wr) (λ i _=>l.length-(intOf i).toNat)
 case atStart=>exact⟨0,v0,aY _,rfl,Xc,Kw,hv3,b5⟩
 obtain⟨k,v,hk,rfl,Ky,hmet,hbv,hb⟩:=hrel;have ig:=h.below hb h.lt;by_cases hlt:k<l.length
 ·by_cases h0:aW l k=[]
  ·have hkl:k+1<l.length:=by
    rcases hlast with hn|hn
    ·rw[hn]at hlt;simp at hlt
    by_cases he:k+1=l.length
    ·rw[<-he,Nat.add_sub_cancel]at hn;exact absurd h0 hn
    omega
   have hkb:((k:Int)==(l.length:Int)-1)=false:=by rw[beq_eq_false_iff_ne];omega
   have Qv:Met x l (k+1) v:=λ j hj=>by
    obtain⟨i,h1,h2⟩:=hmet j hj;exact⟨i,by omega,h2⟩
   have Ap:=zH (Ho B x l c k _ ig r hlt h0);clear h0
   go_wp2_with fail
   refine Ap.out.mono ?_;rintro e w' ⟨rfl,k1,rfl⟩;have hb6:=UK.dK hb k1;have hv6:=hbv.drewN k1;generalize World.drewN _ k1=w6 at hb6 hv6 ⊢
   go_wp2_with fail
   refine(pO B x l c _ (h.below hb6 h.lt) r).mono ?_;rintro e w' ⟨rfl,k2,rfl⟩;go_wp2;go_roundw
   case rel=>exact⟨k+1,v,by omega,by go_num,Ky,Qv,hv6.drewN _,UK.dK hb6 _⟩
   case measure=>simp[intOf];omega
  have ht:=r.there k hlt h0;have hn0:0<(aW l k).length:=List.length_pos_iff.2 h0;have hp0:0<SR.pos x k:=by omega
  have hpl:SR.low x<=SR.pos x k:=ht.1;have hpe:SR.pos x k+(aW l k).length<=504:=ht.2.1;have hb1:((SR.pos x k:Int)==0)=false:=by rw[beq_eq_false_iff_ne];omega
  have hb2:(((aW l k).length:Int)==0)=false:=by rw[beq_eq_false_iff_ne];omega
  have Ap:=zH (Cf B x l c k _ ig r hlt)
  have HAP:Hid (∀j,SR.pos x k<=j->j<SR.pos x k+(aW l k).length->UK.tr v j=false):=λ j h1 h2=>by
   cases hj:UK.tr v j
   ·rfl
   obtain⟨i,hi1,hi2,hi3,hi4,hi5⟩:=hmet j hj;have:=r.apart i k hi2 hlt (by omega) hi3 h0;omega
  have HMK:Hid (∀v':List Bool,(∀j,UK.tr v' j=true->UK.tr v j=true\/(SR.pos x k<=j/\j<SR.pos x k+(aW l k).length))->Met x l (k+1) v'):=λ v' hv' j hj=>by
   rcases hv' j hj with h1|h1
   ·obtain⟨i,hi1,hi2⟩:=hmet j h1;exact⟨i,by omega,hi2⟩
   exact⟨k,by omega,hlt,h0,h1⟩
  clear h0 ht hmet;generalize (aW l k).length=n at *;generalize SR.pos x k=p at *
  go_wp2_with fail
  refine Ap.out.mono ?_;rintro e w' ⟨rfl,k1,rfl⟩;have hb6:=UK.dK hb k1;have hv6:=hbv.drewN k1;generalize World.drewN _ k1=w6 at hb6 hv6 ⊢
  go_wp2_with fail
  refine(Aq B x c _ (h.below hb6 h.lt) r.size).mono ?_;rintro e w' ⟨rfl,k2,rfl⟩;have si:=UK.dK hb6 k2;have hv7:=hv6.drewN k2;generalize w6.drewN k2=w7 at si hv7 ⊢
  go_wp2_with fail
  have d3:decide (p<SR.low x)=false:=by rw[decide_eq_false_iff_not];omega
  have d4:decide ((504:Int)<(p:Int)+(n:Int))=false:=by rw[decide_eq_false_iff_not];omega
  simp only[d3,d4,Bool.or_false]
  go_loopw [7] (λ i wr=>∃(q:Nat) (v':List Bool),p<=q/\q<=p+n/\i= .int .i64 q/\Hid (v'.length=504)/\Hid (∀j,UK.tr v' j=true->UK.tr v j=true\/(p<=j/\j<q))/\UK.zw wr S v'/\Below W W wr) (λ i _=>p+n-(intOf i).toNat)
  case atStart=>exact⟨p,v,aO _,by omega,rfl,Ky,λ j hj=>.inl hj,hv7,si⟩
  obtain⟨q,v',hpq,hqn,rfl,Ke,QY,Cg,um⟩:=hrel;by_cases QZ:q<p+n
  ·have hcell:=Cg.cell (i:=q) (by rw[Ke.out];omega)
   have Ar:UK.tr v' q=false:=by
    cases hq:UK.tr v' q
    ·rfl
    rcases QY.out q hq with h1|h1
    ·rw[HAP.out q hpq QZ]at h1;cases h1
    omega
   rw[Ar]at hcell;have hfree:=Cg.free q;have qY:=zH (Cg.set q true);have HL4:Hid ((v'.set q true).length=504):=by show _=_;rw[aQ];exact Ke.out
   have Nv:Hid (∀j,UK.tr (v'.set q true) j=true->UK.tr v j=true\/(p<=j/\j<q+1)):=λ j hj=>by
    rw[UK.yce]at hj;by_cases hjq:q=j/\q<v'.length
    ·exact .inr (by omega)
    rw[if_neg hjq]at hj;rcases QY.out j hj with h1|h1
    ·exact .inl h1
    exact .inr (by omega)
   have hq5:(q:Int)<504:=by omega
   have hqi:(q:Int)<(p:Int)+n:=by omega
   clear Ar;go_wp2;go_roundw
   case rel=>exact⟨q+1,v'.set q true,by omega,by omega,by go_num,HL4,Nv,qY.out,um.setCell hS _⟩
   case measure=>simp[intOf];omega
  have hqe:q=p+n:=by omega
  have HM3:=HMK.out v' (λ j hj=>by
   rcases QY.out j hj with h1|h1
   ·exact .inl h1
   exact .inr (by omega))
  have hqi:¬(q:Int)<(p:Int)+n:=by omega
  clear hqe;go_wp2;go_roundw
  case rel=>exact⟨k+1,v',by omega,by go_num,Ke,HM3,Cg,um⟩
  case measure=>simp[intOf];omega
 have hkl:k=l.length:=by omega
 go_wp2_with fail
 refine(pO B x l c _ ig r).mono ?_;rintro e w' ⟨rfl,k1,rfl⟩;by_cases hl0:l=[]
 ·have hlow:=r.none hl0;have hll:l.length=0:=by rw[hl0];rfl
  have Rb:=zH hlow;rw[hll];clear hlow hl0;have hl5:=Aq B x c _ (ig.drewN k1) r.size;rw[Rb.out]at hl5
  go_wp2_with fail
  refine hl5.mono ?_;rintro e w' ⟨rfl,k2,rfl⟩;go_wp2;go_ret;exact⟨rfl,UK.dK hb _⟩
 have hll:0<l.length:=List.length_pos_iff.2 hl0;clear hl0;go_wp2;go_ret;exact⟨rfl,UK.dK hb _⟩
structure Kz(W0 W:World)(B:Nat)(l:List (List UInt8)):Prop where
 new:W0.heap.size<=B
 below:Below W0 W0 W
 page:∃x,aF W B x/\aM x l
namespace Kz
variable{W0 W W':World}{B:Nat}{l:List (List UInt8)}
end Kz
section
variable{W0 W:World}{B:Nat}{l:List (List UInt8)}
end
/-! ## what add and trim do -/
theorem lZ(l:List (List UInt8))(j:Nat):aW (trim l) j=aW l j:=by
 unfold trim;by_cases h:j<kept l l.length
 ·exact Hm l _ j h
 have hle:=WW l l.length;rw[SR.gm _ _ (by rw[zt];omega)];by_cases h2:j<l.length
 ·exact((WY l l.length).1 j (by omega) h2).symm
 exact(SR.gm _ _ (by omega)).symm
theorem Xd(l:List (List UInt8)):(trim l).length=kept l l.length:=by
 unfold trim;rw[zt];exact gH (WW _ _)
theorem qy(l:List (List UInt8)):trim l=[]\/aW (trim l) ((trim l).length-1)≠[]:=by
 by_cases h:kept l l.length=0
 ·exact .inl (List.length_eq_zero_iff.1 (by rw[Xd];exact h))
 refine .inr ?_;rw[lZ,Xd];exact(WY l l.length).2 (by omega)
theorem nU(l:List (List UInt8))(s:List UInt8)(j:Nat):aW (add l s) j=if j=hole l then s else aW l j:=by
 have hle:=nV l;unfold add;by_cases h:hole l<l.length
 ·rw[if_pos h,SR.eQ];by_cases hj:j=hole l
  ·rw[if_pos ⟨hj.symm,h⟩,if_pos hj]
  rw[if_neg (by omega),if_neg hj]
 rw[if_neg h];unfold aW List.getD;by_cases hj:j<l.length
 ·rw[bI hj,if_neg (by omega)]
 rw[bP (by omega)];by_cases hj2:j=l.length
 ·subst hj2;rw[if_pos (by omega)];simp
 rw[if_neg (by omega),jo (by simp;omega),jo (by omega)]
theorem yO(l:List (List UInt8))(s:List UInt8)(hs:s≠[])(h:l=[]\/aW l (l.length-1)≠[]):add l s=[]\/aW (add l s) ((add l s).length-1)≠[]:=by
 refine .inr ?_;rw[nU];by_cases hj:(add l s).length-1=hole l
 ·rw[if_pos hj];exact hs
 rw[if_neg hj];have hle:=nV l;by_cases hh:hole l<l.length
 ·have hl:(add l s).length=l.length:=by unfold add;rw[if_pos hh];simp
  rw[hl];rcases h with h|h
  ·rw[h]at hh;simp at hh
  exact h
 exfalso;apply hj;unfold add;rw[if_neg hh];simp;omega
end Go.Proofs.YtgpmiliahonaoaaGreatDoor.SL
namespace Go.Proofs.YtgpmiliahonaoaaGreatDoor
open Go.RowKit
open UK (str aF nth Only Row ay w32)
open SR (aM aW total)
open SL (hole add trim room live)
def dG(y:List UInt8)(o:Nat):UInt32:=dI ((y.drop o).take 4)
theorem MM(x:List UInt8)(a:Nat)(s:List UInt8)(h:a+s.length<=x.length)(i:Nat):(UK.wr x a s)[i]?=if i<a then x[i]? else if i<a+s.length then s[i-a]? else x[i]?:=by
 have hl:(x.take a).length=a:=by rw[zt];omega
 unfold UK.wr;by_cases h1:i<a
 ·rw[bI (by omega),List.getElem?_take,if_pos h1,if_pos h1]
 rw[bP (by omega),hl,if_neg h1];by_cases h2:i<a+s.length
 ·rw[bI (by omega),if_pos h2]
 rw[bP (by omega),eY,if_neg h2]
 congr 1
 omega
theorem V4(x:List UInt8)(o n i:Nat):((x.drop o).take n)[i]?=if i<n then x[o+i]? else none:=by
 by_cases h:i<n
 ·rw[eX h,eY,if_pos h]
 rw[if_neg h,jo (by rw[zt];omega)]
theorem xz6(x:List UInt8)(a:Nat)(s:List UInt8)(h:a+s.length<=x.length)(o n:Nat)(ho:o+n<=a\/a+s.length<=o):((UK.wr x a s).drop o).take n=(x.drop o).take n:=by
 apply List.ext_getElem?;intro i;rw[V4,V4];by_cases hi:i<n
 ·rw[if_pos hi,if_pos hi,MM _ _ _ h];by_cases h1:o+i<a
  ·rw[if_pos h1]
  rw[if_neg h1,if_neg (by omega)]
 rw[if_neg hi,if_neg hi]
theorem Vu(x:List UInt8)(a n:Nat)(s:List UInt8)(h:a+s.length<=n)(hn:n<=x.length):(UK.wr x a s).take n=UK.wr (x.take n) a s:=by
 unfold UK.wr;rw[List.take_append,zt,gH (by omega),fO (by rw[zt];omega),List.take_append,fO (l:=s) (by omega),kL,gH (by omega),List.drop_take,show n-a-s.length=n-(a+s.length) by omega]
theorem Qf(x:List UInt8)(a:Nat)(v:UInt32)(h:a+4<=x.length):dG (UK.wr x a (aI v)) a=v:=by
 unfold dG;have:=UK.O0 x a (aI v) (by omega);rw[show(aI v).length=4 from rfl]at this;rw[this,CK]
theorem Vy(x:List UInt8)(a:Nat)(s:List UInt8)(h:a+s.length<=x.length)(o:Nat)(ho:o+4<=a\/a+s.length<=o):dG (UK.wr x a s) o=dG x o:=by
 unfold dG;rw[xz6 x a s h o 4 ho]
def jQ(y:List UInt8)(p n:Nat):List UInt8:=UK.wr (UK.wr y 0 (aI (w32 p))) 4 (aI (w32 n))
theorem MN(y:List UInt8)(p n:Nat)(h:y.length=504):(jQ y p n).length=504:=by
 unfold jQ
 have h1:(UK.wr y 0 (aI (w32 p))).length=504:=(UK.iW _ _ _ (by show 0+4<=_;omega)).trans h;rw[UK.iW _ _ _ (by show 4+4<=_;omega)];exact h1
theorem MO(y:List UInt8)(p n:Nat)(h:y.length=504):dG (jQ y p n) 0=w32 p/\dG (jQ y p n) 4=w32 n:=by
 have h1:(UK.wr y 0 (aI (w32 p))).length=504:=(UK.iW _ _ _ (by show 0+4<=_;omega)).trans h;unfold jQ
 refine⟨?_,Qf _ _ _ (by omega)⟩;rw[Vy _ _ _ (by show 4+4<=_;omega) 0 (.inl (by decide))];exact Qf _ _ _ (by omega)
theorem ycn(x:List UInt8)(a:Nat)(s t:List UInt8)(h:a+s.length<=x.length)(e:t.length=s.length):UK.wr (UK.wr x a s) a t=UK.wr x a t:=by
 have hl:=UK.iW x a s h;apply List.ext_getElem?;intro i;rw[MM (UK.wr x a s) a t (by omega),MM x a t (by omega),MM x a s h];by_cases h1:i<a
 ·rw[if_pos h1,if_pos h1,if_pos h1]
 rw[if_neg h1,if_neg h1,if_neg h1];by_cases h2:i<a+t.length
 ·rw[if_pos h2,if_pos h2]
 rw[if_neg h2,if_neg h2,if_neg (by omega)]
theorem xn2(y:List UInt8)(p n m:Nat)(h:y.length=504):jQ (jQ y p n) p m=jQ y p m:=by
 have e8:∀p n,jQ y p n=UK.wr y 0 (aI (w32 p)++aI (w32 n)):=λ p n=>UK.zW y 0 (aI (w32 p)) (aI (w32 n)) (aY _);have e8':jQ (jQ y p n) p m=UK.wr (jQ y p n) 0 (aI (w32 p)++aI (w32 m)):=UK.zW (jQ y p n) 0 (aI (w32 p)) (aI (w32 m)) (aY _);rw[e8',e8 p n,e8 p m];exact ycn y 0 _ _ (by show 0+8<=_;omega) rfl
theorem J4{n:Nat}(h:n<4294967296):(w32 n).toNat=n:=by
 unfold w32;rw[UInt32.toNat_ofNat'];omega
def oF(c:Nat->List UInt8):List UInt8->List Nat->Prop
 | s,[]=>s=[]
 | s,p::ps=>s≠[]/\dG (c p) 0=w32 (ps.headD 0)/\((c p).drop 4).take (min s.length 500)=s.take 500/\oF c (s.drop 500) ps
theorem oF.same{c c':Nat->List UInt8}:∀{ch:List Nat} {s:List UInt8},oF c s ch->(∀p,p∈ch->c' p=c p)->oF c' s ch
 | [],_,h,_=>h
 | p::ps,s,⟨h1,h2,h3,h4⟩,hc=>by
  have e:=hc p (aT ..);exact⟨h1,by rw[e];exact h2,by rw[e];exact h3,h4.same (λ q hq=>hc q (cu _ hq))⟩
theorem oF.few{c:Nat->List UInt8}:∀{ch:List Nat} {s:List UInt8},oF c s ch->500*ch.length<=s.length+499
 | [],_,_=>by simp
 | p::ps,s,⟨h1,h2,h3,h4⟩=>by
  have:=h4.few;rw[zd]at this;have hl:0<s.length:=List.length_pos_iff.2 h1;rw[dn];by_cases h5:s.length<=500
  ·have:ps=[]:=by
    cases ps with
    | nil=>rfl
    | cons a b=>exact absurd (List.drop_eq_nil_of_le h5) h4.1
   rw[this,List.length_nil];omega
  omega
structure HT where
 pg:Nat
 i:Nat
 s:List UInt8
 ch:List Nat
def BO(t:HT):List UInt8:=if t.s.length<=300 then 0::t.s else 1::(aI (w32 t.s.length)++aI (w32 (t.ch.headD 0)))
theorem BP(t:HT):BO t≠[]:=by unfold BO;split<;>exact List.cons_ne_nil _ _
def qc(c:Nat->List UInt8)(t:HT):Prop:=if t.s.length<=300 then t.ch=[] else oF c t.s t.ch
theorem qc.same{c c':Nat->List UInt8}{t:HT}(h:qc c t)(hc:∀p,p∈t.ch->c' p=c p):qc c' t:=by
 unfold qc at h ⊢
 split
 ·next h1=>rw[if_pos h1]at h;exact h
 next h1=>rw[if_neg h1]at h;exact h.same hc
def Dt(l:List (List UInt8)):Prop:=l=[]\/aW l (l.length-1)≠[]
def nK(X:List HT):List Nat:=X.flatMap HT.ch
theorem Ae(t:HT)(X:List HT):nK (t::X)=t.ch++nK X:=by unfold nK;rw[iL]
def yco(a b:HT):Prop:=¬(a.pg=b.pg/\a.i=b.i)
structure Pg where
 Has:Nat->Prop
 c:Nat->List UInt8
structure HI(A:Pg)(root pg:Nat)(rp:List Nat)(L:Nat->List (List UInt8))(X:List HT):Prop where
 pages:(root::(rp++nK X)).Nodup
 has:∀p,A.Has p↔p∈root::(rp++nK X)
 J5:dG (A.c root) 0=w32 pg
 wn:dG (A.c root) 4=w32 X.length
 mR:(A.c root).length=504
 cur:pg=0\/pg∈rp
 recs:∀p,p∈rp->aM (A.c p) (L p)/\Dt (L p)
 used:∀p,p∈rp->p≠pg->L p≠[]
 at_:∀p,p∈rp->∀i,aW (L p) i≠[]->∃t,t∈X/\t.pg=p/\t.i=i
 each:∀t,t∈X->t.pg∈rp/\aW (L t.pg) t.i=BO t/\t.s.length<=400000
 inj:X.Pairwise yco
 long:∀t,t∈X->qc A.c t
namespace HI
variable{A B:Pg}{root pg:Nat}{rp:List Nat}{L:Nat->List (List UInt8)}{X Y:List HT}
theorem jg(h:HI A root pg rp L X):A.Has root:=(h.has root).2 (aT ..)
theorem dX(h:HI A root pg rp L X){p:Nat}(hp:p∈rp):A.Has p/\p≠root:=by
 refine⟨(h.has p).2 (cu _ (eF _ hp)),λ e=>?_⟩;subst e;exact(dW.1 h.pages).1 (eF _ hp)
theorem iy(h:HI A root pg rp L X){t:HT}(ht:t∈X){p:Nat}(hp:p∈t.ch):A.Has p/\p≠root/\p∉rp:=by
 have hm:p∈nK X:=List.mem_flatMap.2 ⟨t,ht,hp⟩;refine⟨(h.has p).2 (cu _ (lI _ hm)),λ e=>?_,λ e=>?_⟩
 ·subst e;exact(dW.1 h.pages).1 (lI _ hm)
 exact(bN.1 (dW.1 h.pages).2).2.2 p e p hm rfl
theorem slot(h:HI A root pg rp L X){t:HT}(ht:t∈X):t.i<(L t.pg).length/\(L t.pg).length<=125:=by
 obtain⟨h1,h2,_⟩:=h.each t ht;refine⟨?_,(h.recs _ h1).1.few⟩;by_cases hc:t.i<(L t.pg).length
 ·exact hc
 rw[SR.gm _ _ (by omega)]at h2;exact absurd h2.symm (BP t)
theorem perm(h:HI A root pg rp L X)(hp:X.Perm Y):HI A root pg rp L Y:=by
 have hc:(nK X).Perm (nK Y):=hp.flatMap_right _;have hq:(root::(rp++nK X)).Perm (root::(rp++nK Y)):=(hc.append_left rp).cons root
 exact⟨hq.nodup_iff.1 h.pages,λ p=>(h.has p).trans hq.mem_iff,h.J5,by rw[<-hp.length_eq];exact h.wn,h.mR,h.cur,h.recs,h.used,
  λ p hp1 i hi=>by obtain⟨t,a,b⟩:=h.at_ p hp1 i hi;exact⟨t,hp.mem_iff.1 a,b⟩,λ t ht=>h.each t (hp.mem_iff.2 ht),
  (hp.pairwise_iff (λ {a b} hab ig=>hab ⟨ig.1.symm,ig.2.symm⟩)).1 h.inj,λ t ht=>h.long t (hp.mem_iff.2 ht)⟩
theorem same(h:HI A root pg rp L X)(hh:∀p,B.Has p↔A.Has p)(hc:∀p,A.Has p->B.c p=A.c p):HI B root pg rp L X:=
 ⟨h.pages,λ p=>(hh p).trans (h.has p),by rw[hc root h.jg];exact h.J5,by rw[hc root h.jg];exact h.wn,by rw[hc root h.jg];exact h.mR,h.cur,λ p hp=>by rw[hc p (h.dX hp).1];exact h.recs p hp,h.used,h.at_,h.each,h.inj,
  λ t ht=>(h.long t ht).same (λ p hp=>hc p (h.iy ht hp).1)⟩
theorem J6{M:Nat->List (List UInt8)}(h:HI A root pg rp L X)(e:∀p,p∈rp->M p=L p):HI A root pg rp M X:=
 ⟨h.pages,h.has,h.J5,h.wn,h.mR,h.cur,λ p hp=>by rw[e p hp];exact h.recs p hp,λ p hp hn=>by rw[e p hp];exact h.used p hp hn,λ p hp i hi=>h.at_ p hp i (by rw[<-e p hp];exact hi),λ t ht=>by rw[e _ (h.each t ht).1];exact h.each t ht,h.inj,h.long⟩
theorem put(h:HI A root pg rp L X){t:HT}{y:List UInt8}(cZ:t.pg=pg)(hp:pg∈rp)(hi:t.i=hole (L pg))(hl:t.s.length<=400000)(hlong:qc B.c t)
  (hnd:t.ch.Nodup) (hnew:∀p,p∈t.ch->¬A.Has p) (hh:∀p,B.Has p↔A.Has p\/p∈t.ch) (hr:aM y (add (L pg) (BO t)))
  (hcp:B.c pg=y) (hcr:B.c root=jQ (A.c root) pg (X.length+1)) (hc:∀p,A.Has p->p≠pg->p≠root->B.c p=A.c p) :
  HI B root pg rp (λ p=>if p=pg then add (L pg) (BO t) else L p) (t::X):=by
 have hne:=BP t
 have Du:aW (L pg) (hole (L pg))=[]:=by
  by_cases hc:hole (L pg)<(L pg).length
  ·exact(SL.qx (L pg)).2 hc
  exact SR.gm _ _ (by omega)
 obtain⟨w1,w2⟩:=MO (A.c root) pg (X.length+1) h.mR;have BQ:=h.pages;refine⟨?_,λ p=>?_,by rw[hcr];exact w1,by rw[hcr];exact w2,by rw[hcr];exact MN _ _ _ h.mR,.inr hp,λ p hp1=>?_,λ p hp1 hpn=>?_,λ p hp1 i hi1=>?_,λ u hu=>?_,?_,λ u hu=>?_⟩
 ·rw[Ae]
  have hq:(root::(rp++(t.ch++nK X))).Perm (t.ch++(root::(rp++nK X))):=by
   refine List.Perm.trans ?_ (List.perm_middle (l₁:=t.ch)).symm;refine List.Perm.cons _ ?_;rw[<-cO,<-cO];exact List.Perm.append_right _ List.perm_append_comm
  refine hq.nodup_iff.2 (bN.2 ⟨hnd,BQ,λ a ha b hb e=>?_⟩);subst e;exact hnew a ha ((h.has a).2 hb)
 ·rw[hh,h.has,Ae];simp only[aN,dD]
  constructor
  ·rintro((a|a|a)|a)
   ·exact .inl a
   ·exact .inr (.inl a)
   ·exact .inr (.inr (.inr a))
   exact .inr (.inr (.inl a))
  rintro(a|a|a|a)
  ·exact .inl (.inl a)
  ·exact .inl (.inr (.inl a))
  ·exact .inr a
  exact .inl (.inr (.inr a))
 ·by_cases e:p=pg
  ·subst e;rw[hcp];simp only[if_true];exact⟨hr,SL.yO _ _ hne (h.recs p hp1).2⟩
  simp only[if_neg e];rw[hc p (h.dX hp1).1 e (h.dX hp1).2];exact h.recs p hp1
 ·simp only[if_neg hpn];exact h.used p hp1 hpn
 ·by_cases e:p=pg
  ·subst e;simp only[if_true]at hi1;rw[SL.nU]at hi1;by_cases e2:i=hole (L p)
   ·exact⟨t,aT ..,cZ,by rw[hi,e2]⟩
   rw[if_neg e2]at hi1;obtain⟨u,a,b⟩:=h.at_ p hp1 i hi1;exact⟨u,cu _ a,b⟩
  simp only[if_neg e]at hi1;obtain⟨u,a,b⟩:=h.at_ p hp1 i hi1;exact⟨u,cu _ a,b⟩
 ·rcases aN.1 hu with rfl|hu
  ·refine⟨by rw[cZ];exact hp,?_,hl⟩;rw[cZ,if_pos rfl,SL.nU,if_pos hi]
  obtain⟨a,b,c⟩:=h.each u hu;refine⟨a,?_,c⟩;by_cases e:u.pg=pg
  ·rw[if_pos e,SL.nU,if_neg (λ e2=>?_)]
   ·rw[<-e];exact b
   rw[e,e2,Du]at b;exact BP u b.symm
  rw[if_neg e];exact b
 ·refine bR.2 ⟨λ u hu hab=>?_,h.inj⟩;obtain⟨a,b,_⟩:=h.each u hu;rw[<-hab.1,<-hab.2,cZ,hi,Du]at b;exact BP u b.symm
 rcases aN.1 hu with rfl|hu
 ·exact hlong
 refine(h.long u hu).same (λ p hp1=>?_);obtain⟨a,b,c⟩:=h.iy hu hp1;exact hc p a (λ e=>c (e▸hp)) b
theorem fresh(h:HI A root pg rp L X){q:Nat}{y:List UInt8}(hq:¬A.Has q)(hh:∀p,B.Has p↔A.Has p\/p=q)(hr:aM y [])(hfull:pg∈rp->L pg≠[])
  (hcq:B.c q=y) (hcr:B.c root=jQ (A.c root) q X.length) (hc:∀p,A.Has p->p≠root->B.c p=A.c p) :
  HI B root q (rp++[q]) (λ p=>if p=q then [] else L p) X:=by
 obtain⟨w1,w2⟩:=MO (A.c root) q X.length h.mR;have hnq:∀p,p∈rp->p≠q:=λ p hp e=>hq (e▸(h.dX hp).1)
 have hpm:(root::(rp++[q]++nK X)).Perm (q::(root::(rp++nK X))):=by
  rw[cO,List.singleton_append];exact(List.Perm.cons root List.perm_middle).trans (List.Perm.swap ..)
 refine⟨hpm.nodup_iff.2 (dW.2 ⟨λ hm=>hq ((h.has q).2 hm),h.pages⟩),λ p=>?_,by rw[hcr];exact w1,by rw[hcr];exact w2,by rw[hcr];exact MN _ _ _ h.mR,.inr (lI _ (bz.2 rfl)),λ p hp1=>?_,λ p hp1 hpn=>?_,λ p hp1 i hi1=>?_,λ u hu=>?_,h.inj,λ u hu=>?_⟩
 ·rw[hh,h.has,hpm.mem_iff,aN (b:=q)];exact Or.comm
 ·by_cases e:p=q
  ·subst e;rw[hcq];simp only[if_true];exact⟨hr,.inl rfl⟩
  simp only[if_neg e];rcases dD.1 hp1 with hp1|hp1
  ·rw[hc p (h.dX hp1).1 (h.dX hp1).2];exact h.recs p hp1
  exact absurd (bz.1 hp1) e
 ·simp only[if_neg hpn];rcases dD.1 hp1 with hp1|hp1
  ·by_cases e:p=pg
   ·subst e;exact hfull hp1
   exact h.used p hp1 e
  exact absurd (bz.1 hp1) hpn
 ·by_cases e:p=q
  ·subst e;simp only[if_true]at hi1;rw[SR.gm _ _ (aY _)]at hi1;exact absurd rfl hi1
  simp only[if_neg e]at hi1;rcases dD.1 hp1 with hp1|hp1
  ·exact h.at_ p hp1 i hi1
  exact absurd (bz.1 hp1) e
 ·obtain⟨a,b,c⟩:=h.each u hu;exact⟨eF _ a,by rw[if_neg (hnq _ a)];exact b,c⟩
 refine(h.long u hu).same (λ p hp1=>?_);obtain⟨a,b,c⟩:=h.iy hu hp1;exact hc p a b
theorem drop{t:HT}(h:HI A root pg rp L (t::X)){y:List UInt8}(hh:∀p,B.Has p↔A.Has p/\p∉t.ch)(hr:aM y (trim ((L t.pg).set t.i [])))(J7:t.pg≠pg->trim ((L t.pg).set t.i [])≠[])
  (hcp:B.c t.pg=y) (hcr:B.c root=jQ (A.c root) pg X.length) (hc:∀p,B.Has p->p≠t.pg->p≠root->B.c p=A.c p) :
  HI B root pg rp (λ p=>if p=t.pg then trim ((L t.pg).set t.i []) else L p) X:=by
 obtain⟨w1,w2⟩:=MO (A.c root) pg X.length h.mR;obtain⟨ht1,ht2,_⟩:=h.each t (aT ..);have hsl:=(h.slot (aT (a:=t) (l:=X))).1
 have hpm:(root::(rp++(t.ch++nK X))).Perm (t.ch++(root::(rp++nK X))):=by
  refine List.Perm.trans ?_ (List.perm_middle (l₁:=t.ch)).symm;refine List.Perm.cons _ ?_;rw[<-cO,<-cO];exact List.Perm.append_right _ List.perm_append_comm
 have hnd:=h.pages;rw[Ae]at hnd;have kX:=bN.1 (hpm.nodup_iff.1 hnd);have Ai:∀p,p∈rp->B.Has p/\p≠root:=λ p hp=>⟨(hh p).2 ⟨(h.dX hp).1,λ hm=>(h.iy (aT ..) hm).2.2 hp⟩,(h.dX hp).2⟩;refine⟨kX.2.1,λ p=>?_,by rw[hcr];exact w1,by rw[hcr];exact w2,by rw[hcr];exact MN _ _ _ h.mR,h.cur,λ p hp1=>?_,λ p hp1 hpn=>?_,λ p hp1 i hi1=>?_,λ u hu=>?_,(bR.1 h.inj).2,λ u hu=>?_⟩
 ·rw[hh,h.has,Ae,hpm.mem_iff,dD]
  constructor
  ·rintro⟨a|a,b⟩
   ·exact absurd a b
   exact a
  intro a;exact⟨.inr a,λ b=>kX.2.2 p b p a rfl⟩
 ·by_cases e:p=t.pg
  ·subst e;rw[hcp];simp only[if_true];exact⟨hr,SL.qy _⟩
  simp only[if_neg e];rw[hc p (Ai p hp1).1 e (Ai p hp1).2];exact h.recs p hp1
 ·by_cases e:p=t.pg
  ·subst e;simp only[if_true];exact J7 hpn
  simp only[if_neg e];exact h.used p hp1 hpn
 ·by_cases e:p=t.pg
  ·subst e;simp only[if_true]at hi1;rw[SL.lZ,SR.eQ]at hi1;by_cases e2:t.i=i
   ·rw[if_pos ⟨e2,hsl⟩]at hi1;exact absurd rfl hi1
   rw[if_neg (λ hx=>e2 hx.1)]at hi1;obtain⟨u,a,b,c⟩:=h.at_ t.pg hp1 i hi1;rcases aN.1 a with rfl|a
   ·exact absurd c e2
   exact⟨u,a,b,c⟩
  simp only[if_neg e]at hi1;obtain⟨u,a,b,c⟩:=h.at_ p hp1 i hi1;rcases aN.1 a with rfl|a
  ·exact absurd b.symm e
  exact⟨u,a,b,c⟩
 ·obtain⟨a,b,c⟩:=h.each u (cu _ hu);refine⟨a,?_,c⟩;by_cases e:u.pg=t.pg
  ·rw[if_pos e,SL.lZ,SR.eQ,if_neg (λ hx=>?_)]
   ·rw[<-e];exact b
   exact(bR.1 h.inj).1 u hu ⟨e.symm,hx.1⟩
  rw[if_neg e];exact b
 refine(h.long u (cu _ hu)).same (λ p hp1=>?_);obtain⟨a,b,c⟩:=h.iy (cu _ hu) hp1;refine hc p ((hh p).2 ⟨a,λ hm=>?_⟩) (λ e=>c (e▸ht1)) b;exact kX.2.2 p hm p (cu _ (lI _ (List.mem_flatMap.2 ⟨u,hu,hp1⟩))) rfl
theorem yP{t:HT}(h:HI A root pg rp L (t::X))(hh:∀p,B.Has p↔A.Has p/\p∉t.ch/\p≠t.pg)(hn:t.pg≠pg)(he:trim ((L t.pg).set t.i [])=[])
  (hcr:B.c root=jQ (A.c root) pg X.length) (hc:∀p,B.Has p->p≠root->B.c p=A.c p) :
  HI B root pg (rp.erase t.pg) L X:=by
 obtain⟨w1,w2⟩:=MO (A.c root) pg X.length h.mR;obtain⟨ht1,ht2,_⟩:=h.each t (aT ..);have hsl:=(h.slot (aT (a:=t) (l:=X))).1;have hnd:=dW.1 h.pages;have ET:=bN.1 hnd.2;have BQ:=h.pages;rw[Ae]at BQ
 have hpm:(root::(rp++(t.ch++nK X))).Perm (t.ch++(t.pg::(root::(rp.erase t.pg++nK X)))):=by
  have e1:rp.Perm (t.pg::rp.erase t.pg):=List.perm_cons_erase ht1;refine List.Perm.trans (List.Perm.cons root (List.Perm.append_right _ e1)) ?_;refine List.Perm.trans ?_ (List.perm_middle (l₁:=t.ch)).symm;refine List.Perm.trans (List.Perm.swap ..) (List.Perm.cons _ ?_);refine List.Perm.trans ?_ (List.perm_middle (l₁:=t.ch)).symm;refine List.Perm.cons _ ?_;show(rp.erase t.pg++(t.ch++nK X)).Perm _;rw[<-cO,<-cO];exact List.Perm.append_right _ List.perm_append_comm
 have kX:=bN.1 (hpm.nodup_iff.1 BQ);have jR:=dW.1 kX.2.1;have hin:∀p,p∈rp.erase t.pg->p∈rp/\p≠t.pg:=λ p hp=>((ET.1.mem_erase_iff).1 hp).symm
 have Ai:∀p,p∈rp.erase t.pg->B.Has p/\p≠root:=λ p hp=>
  ⟨(hh p).2 ⟨(h.dX (hin p hp).1).1,λ hm=>(h.iy (aT ..) hm).2.2 (hin p hp).1,(hin p hp).2⟩,(h.dX (hin p hp).1).2⟩
 have J8:∀u,u∈X->u.pg≠t.pg:=λ u hu e=>by
  obtain⟨a,b,_⟩:=h.each u (cu _ hu);have h1:aW (trim ((L t.pg).set t.i [])) u.i=[]:=by rw[he];exact SR.gm _ _ (aY _)
  rw[SL.lZ,SR.eQ,if_neg (λ hx=>(bR.1 h.inj).1 u hu ⟨e.symm,hx.1⟩),<-e,b]at h1;exact BP u h1
 refine⟨jR.2,λ p=>?_,by rw[hcr];exact w1,by rw[hcr];exact w2,by rw[hcr];exact MN _ _ _ h.mR,?_,λ p hp1=>?_,λ p hp1 hpn=>h.used p (hin p hp1).1 hpn,λ p hp1 i hi1=>?_,λ u hu=>?_,(bR.1 h.inj).2,λ u hu=>?_⟩
 ·rw[hh,h.has,Ae,hpm.mem_iff,dD,aN]
  constructor
  ·rintro⟨a|a|a,b,c⟩
   ·exact absurd a b
   ·exact absurd a c
   exact a
  intro a;exact⟨.inr (.inr a),λ b=>kX.2.2 p b p (cu _ a) rfl,λ e=>jR.1 (e▸a)⟩
 ·rcases h.cur with h1|h1
  ·exact .inl h1
  exact .inr ((ET.1.mem_erase_iff).2 ⟨λ e=>hn e.symm,h1⟩)
 ·rw[hc p (Ai p hp1).1 (Ai p hp1).2];exact h.recs p (hin p hp1).1
 ·obtain⟨u,a,b,c⟩:=h.at_ p (hin p hp1).1 i hi1;rcases aN.1 a with rfl|a
  ·exact absurd b.symm (hin p hp1).2
  exact⟨u,a,b,c⟩
 ·obtain⟨a,b,c⟩:=h.each u (cu _ hu);exact⟨(ET.1.mem_erase_iff).2 ⟨J8 u hu,a⟩,b,c⟩
 refine(h.long u (cu _ hu)).same (λ p hp1=>?_);obtain⟨a,b,c⟩:=h.iy (cu _ hu) hp1;refine hc p ((hh p).2 ⟨a,λ hm=>?_,λ e=>c (e▸ht1)⟩) b;exact kX.2.2 p hm p (cu _ (cu _ (lI _ (List.mem_flatMap.2 ⟨u,hu,hp1⟩)))) rfl
theorem swap{t u:HT}(h:HI A root pg rp L (t::X)){y:List UInt8}(hh:∀p,B.Has p↔A.Has p)(hp:u.pg=t.pg)(hi:u.i=t.i)(ht:t.ch=[])(hu:u.ch=[])(hl:u.s.length<=300)
  (hr:aM y ((L t.pg).set t.i (BO u))) (hcp:B.c t.pg=y) (hc:∀p,A.Has p->p≠t.pg->B.c p=A.c p) :
  HI B root pg rp (λ p=>if p=t.pg then(L t.pg).set t.i (BO u) else L p) (u::X):=by
 obtain⟨ht1,ht2,_⟩:=h.each t (aT ..);have hsl:=(h.slot (aT (a:=t) (l:=X))).1;have hpr:t.pg≠root:=(h.dX ht1).2;have hne:=BP u;have hroot:=hc root h.jg hpr.symm;have hcs:nK (u::X)=nK (t::X):=by rw[Ae,Ae,ht,hu]
 have aD:(u::X).length=(t::X).length:=rfl;refine⟨by rw[hcs];exact h.pages,λ p=>by rw[hcs];exact(hh p).trans (h.has p),by rw[hroot];exact h.J5,by rw[hroot,aD];exact h.wn,by rw[hroot];exact h.mR,h.cur,λ p hp1=>?_,λ p hp1 hpn=>?_,λ p hp1 i hi1=>?_,λ v hv=>?_,?_,λ v hv=>?_⟩
 ·by_cases e:p=t.pg
  ·subst e;rw[hcp];simp only[if_true];refine⟨hr,.inr ?_⟩;rw[aQ,SR.eQ];by_cases e2:t.i=(L t.pg).length-1/\t.i<(L t.pg).length
   ·rw[if_pos e2];exact hne
   rw[if_neg e2];rcases(h.recs _ hp1).2 with h3|h3
   ·rw[h3]at hsl;exact absurd hsl (jO _)
   exact h3
  simp only[if_neg e];rw[hc p (h.dX hp1).1 e];exact h.recs p hp1
 ·by_cases e:p=t.pg
  ·subst e;simp only[if_true];intro h0;have h1:=congrArg List.length h0;rw[aQ,List.length_nil]at h1;omega
  simp only[if_neg e];exact h.used p hp1 hpn
 ·by_cases e:p=t.pg
  ·subst e;simp only[if_true]at hi1;rw[SR.eQ]at hi1;by_cases e2:t.i=i/\t.i<(L t.pg).length
   ·exact⟨u,aT ..,hp,hi.trans e2.1⟩
   rw[if_neg e2]at hi1;obtain⟨v,a,b,c⟩:=h.at_ t.pg hp1 i hi1;rcases aN.1 a with rfl|a
   ·exact⟨u,aT ..,hp,hi.trans c⟩
   exact⟨v,cu _ a,b,c⟩
  simp only[if_neg e]at hi1;obtain⟨v,a,b,c⟩:=h.at_ p hp1 i hi1;rcases aN.1 a with rfl|a
  ·exact absurd b.symm e
  exact⟨v,cu _ a,b,c⟩
 ·rcases aN.1 hv with rfl|hv
  ·refine⟨by rw[hp];exact ht1,?_,by omega⟩;rw[hp,hi,if_pos rfl,SR.eQ,if_pos ⟨rfl,hsl⟩]
  obtain⟨a,b,c⟩:=h.each v (cu _ hv);refine⟨a,?_,c⟩;by_cases e:v.pg=t.pg
  ·rw[if_pos e,SR.eQ,if_neg (λ hx=>(bR.1 h.inj).1 v hv ⟨e.symm,hx.1⟩),<-e];exact b
  rw[if_neg e];exact b
 ·obtain⟨a,b⟩:=bR.1 h.inj;exact bR.2 ⟨λ v hv hx=>a v hv ⟨hp.symm.trans hx.1,hi.symm.trans hx.2⟩,b⟩
 rcases aN.1 hv with rfl|hv
 ·unfold qc;rw[if_pos hl];exact hu
 refine(h.long v (cu _ hv)).same (λ p hp1=>?_);obtain⟨a,b,c⟩:=h.iy (cu _ hv) hp1;exact hc p a (λ e=>c (e▸ht1))
end HI
end Go.Proofs.YtgpmiliahonaoaaGreatDoor
