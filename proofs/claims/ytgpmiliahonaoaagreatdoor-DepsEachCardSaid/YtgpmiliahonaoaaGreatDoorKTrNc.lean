/- Facts on texts and trees on pages. -/
import Derived.Test.YtgpmiliahonaoaaGreatDoorKTrJc
set_option maxRecDepth 100000
set_option maxHeartbeats 8000000
set_option linter.unusedSimpArgs false
namespace Go.Proofs.YtgpmiliahonaoaaGreatDoor
open Go.RowKit
open UK (str aF nth Only Row ay w32)
open Go.BigFrame
section
variable{E:Nat->Prop}{W W':World}{P D T k pg N M nb kc vc ac:Nat}{root:Int}{A:AP}{x:Nd}{ka va aa:Option Addr}
def oU(E:Nat->Prop)(W w':World)(P D T rt:Nat)(A:AP)(K pg d:Nat)(key v:UInt64)(e:Ending):Prop:=
 ∃(B:AP) (more:Nat) (κ:UInt64) (er:Int) (kk:Nat),e= .returned (.tuple #[.int .i64 more,.int .u64 (κ.toNat:Int),.int .i64 er])/\kZ key v d A pg B more κ er/\bJ E w' P D T rt B kk/\kk<=K/\Kept E W w'
theorem XJ{ks vs:List UInt64}(hp:A.Has pg)(hy:aB A pg=some ⟨true,ks,vs,[]⟩)(hs:jK ks):rA A pg ks vs:=by
 unfold aB l7 at hy
 split at hy
 ·next h=>
  injection hy with hy
  injection hy with _ h1 h2 _
  have hl:ks.length=(nth (A.c pg) 1).toNat:=by rw[<-h1,Ay]
  exact⟨hp,⟨h.1,hl.symm,by omega⟩,by rw[hl];exact h1,by rw[hl];exact h2,hs⟩
 split at hy
 ·injection hy with hy
  injection hy with h0
  cases h0
 cases hy
theorem xx4{rt:Nat}{ks vs:List UInt64}(h:bJ E W P D T rt A k)(hk:k+8<900000000)(hp:A.Has pg)(hy:aB A pg=some ⟨true,ks,vs,[]⟩)(hs:jK ks)(key v:UInt64)(hno:key∉ks)(deep:Nat)(hd:deep<=20) :
  Calls Tryz.prog 180 #[.pointer T,.int .i64 pg,.int .u64 key.toNat,.int .u64 v.toNat,.int .i64 deep] W λ e w'=>oU E W w' P D T rt A (k+8) pg 0 key v e:=by
 have hl:=XJ hp hy hs;have hn:ks.length<=30:=hl.head.2.2;have HY:=zH hy;clear hy;have HL:=zH (XK h.pz (by omega) h.box hl.has hl.head);have HH:=zH (zA h hl);clear h hl
 go_enter Tryz.func180,Tryz.ntmps180
 go_wp2_with fail
 refine HL.out.mono ?_;rintro e w1 ⟨N,M,nb,ka,va,kc,vc,rfl,hN,hM,⟨bi,gG,dV⟩,p1,k1⟩;obtain⟨h,hl⟩:=HH.out;rw[hl.ag,hl.vals]at bi;have b0:=bi.box.c0;have b1:=bi.box.c1;have b2:=bi.box.c2;have hS:=Hq (bi.k.win (S:=λ _=>True) (λ _ _=>trivial)) hl.up (show ks.length<=1000 by omega) key;rw[dA]at hS;rw[decide_eq_false hno]at hS;have HS:=zH hS;have H1:=zH (zA hN (zA hM (zA bi (zA gG (zA dV (zA p1 k1))))));clear HL bi gG dV p1 k1 hS hN hM
 go_wp2_with fail
 refine HS.out.mono ?_;rintro e w2 ⟨i,rfl,hst,rfl⟩;obtain⟨hN,hM,bi,gG,dV,p1,k1⟩:=H1.out;have hlv:=hl.len;have hNs:N<=w2.heap.size:=by have:=bi.ge;omega
 have HI1:=zH (λ (wa:World) (vb:Nat) (ba:Below w2 w2 wa) (hv:ay wa vb #[.int .u64 (key.toNat:Int)]) (hvb:w2.heap.size<=vb)=>(show Calls Tryz.prog 235 #[.slice ka ks.length kc,.int .i64 i,.slice vb 1 1] wa λ e w'=>∃g c,e= .returned (.slice (some ⟨g,0,none⟩) (ks.length+1) c)/\eD N w2 w' nb {leaf:=true,ag:=ks,vals:=vs,ax:=[]} ka va none kc vc 0 (ks.take i++key::ks.drop i) g c/\(∀Cq cs,w2.heap.size<=Cq->ay wa Cq cs->ay w' Cq cs)/\ay w' nb #[.bool true,.slice ka ks.length kc,.slice va vs.length vc,.slice none 0 0]from
  (RA (bi.next ba).k (show ks.length<=1000 by omega) hst.le key hv (λ e=>by have:=bi.k.lt e;omega)).mono (λ e w' ⟨g',c',he,r,o,hg⟩=>
   ⟨g',c',by rw[he];simp only[zl,zt,dn,zd];rw[show min i ks.length+(ks.length-i+1)=ks.length+1 by have:=hst.le;omega],bi.wJ hNs ba r o hg,λ Cq cs hv' hb=>hb.only o (λ e=>by
    rcases hg with h1|h1
    ·have:=bi.k.lt h1;omega
    have:=hb.lt;omega),(bi.wJ hNs ba r o hg).box⟩)))
 have HI2:=zH (λ (wb:World) (vb:Nat) (mm:∃g c,eD N w2 wb nb {leaf:=true,ag:=ks,vals:=vs,ax:=[]} ka va none kc vc 0 (ks.take i++key::ks.drop i) g c) (hv:ay wb vb #[.int .u64 (v.toNat:Int)]) (hvb:w2.heap.size<=vb)=>(show Calls Tryz.prog 235 #[.slice va vs.length vc,.int .i64 i,.slice vb 1 1] wb λ e w'=>∃g2 c2,e= .returned (.slice (some ⟨g2,0,none⟩) (ks.length+1) c2)/\(Row w' g2 c2 (az (vs.take i++v::vs.drop i))/\Only g2 wb w'/\(aK va g2\/wb.heap.size<=g2))/\w'.cell? (nb,1)=some (.slice ka ks.length kc)/\w'.cell? (nb,2)=some (.slice va vs.length vc)/\w'.frozen? ⟨nb,1,none⟩=false/\w'.frozen? ⟨nb,2,none⟩=false from
  let ⟨_,_,m⟩:=mm
  (RA m.v (show vs.length<=1000 by omega) (show i<=vs.length by rw[hlv];exact hst.le) v hv (λ e=>by have:=bi.v.lt e;omega)).mono (λ e w' ⟨g',c',he,r,o,hg⟩=>by
   have hd:=(m.done bi r o hg).2.2.1;exact⟨g',c',by rw[he];simp only[zl,zt,dn,zd];rw[show min i vs.length+(vs.length-i+1)=ks.length+1 by have:=hst.le;omega],⟨r,o,hg⟩,hd.cell 1 _ rfl,hd.cell 2 _ rfl,hd.free 1,hd.free 2⟩)))
 have hb2:ay w2 nb #[.bool true,.slice ka ks.length kc,.slice va vs.length vc,.slice none 0 0]:=bi.box;have iB:∀w:World,ay w nb #[.bool true,.slice ka ks.length kc,.slice va vs.length vc,.slice none 0 0]->w.cell? (nb,1)=some (.slice ka ks.length kc)/\w.cell? (nb,2)=some (.slice va vs.length vc):=λ w hb=>⟨hb.cell 1 _ rfl,hb.cell 2 _ rfl⟩
 have HP:=zH (λ (wb w':World) (g c g2 c2:Nat) (m:eD N w2 wb nb {leaf:=true,ag:=ks,vals:=vs,ax:=[]} ka va none kc vc 0 (ks.take i++key::ks.drop i) g c) (l2:Row w' g2 c2 (az (vs.take i++v::vs.drop i))/\Only g2 wb w'/\(aK va g2\/wb.heap.size<=g2))=>(show uD N w2 ((w'.setCell (nb,1) (.slice g (ks.length+1) c)).setCell (nb,2) (.slice g2 (ks.length+1) c2)) nb ka va (ks.take i++key::ks.drop i) (vs.take i++v::vs.drop i)from
  ya2 bi hst.le hlv m l2.1 l2.2.1 l2.2.2))
 have HI:=zH (zA hst.le (zA hlv hst));clear bi dV p1 k1 hst HS hlv
 go_upto_region 11 with(fail)
 go_cut [] (λ wx=>uD N w2 wx nb ka va (ks.take i++key::ks.drop i) (vs.take i++v::vs.drop i))
 case first=>
  refine wp_region_any (by kernel_rfl) ?_;refine zT 0 ?_;refine zT 1 ?_;refine zT 2 ?_;refine zT 3 ?_;refine zT 4 ?_;refine zT 6 ?_;refine zT 7 ?_;refine zT 10 ?_;refine zT 11 ?_;refine zT 12 ?_;refine zT 14 ?_;refine zT 15 ?_;refine zV (w:=w2.drew) (λ w'=>w'.cell? (nb,1)=some (.slice ka ks.length kc)/\w'.cell? (nb,2)=some (.slice va vs.length vc)) 18 (by exact ⟨b1,b2⟩) λ hS0=>?_;refine zU 5 hS0 ?_;refine zU 13 hS0 ?_;clear hS0;refine JS (i:=8) (j:=16) (by kernel_rfl) rfl rfl (λ K hK=>?_) (λ K hK=>?_)
  ·go_simp;refine hK.out _ _ (λ _=>?_) ?_
   ·exact iB _ (by (repeat (first|assumption|with_reducible apply fq|with_reducible apply fK)))
   clear hK K;refine JS (i:=9) (j:=16) (by kernel_rfl) rfl rfl (λ K hK=>?_) (λ K hK=>?_)
   ·go_simp;refine(HI1.out _ _ ?_ ?_ ?_).mono ?_
    ·(repeat (first|with_reducible exact aV _ _|with_reducible apply rO|with_reducible apply rD))
    ·(repeat (first|(focus ((with_reducible refine tQ ?_);simp;done))|with_reducible apply fq|with_reducible apply fK))
    ·(first|exact aO _|simp)
    rintro e w3 ⟨g,c,rfl,m1,mb,hb3⟩
    (try dsimp only)
    refine hK.out _ _ (λ _=>?_) ?_
    ·exact iB _ (by (repeat (first|assumption|with_reducible apply fq|with_reducible apply fK)))
    clear hK K;refine zL 16 λ K hK=>?_;go_simp;refine hK.out _ _ (λ _=>?_) ?_
    ·exact iB _ (by (repeat (first|assumption|with_reducible apply fq|with_reducible apply fK)))
    clear hK K;refine zL 17 λ K hK=>?_;go_simp;refine(HI2.out _ _ ?_ ?_ ?_).mono ?_
    ·exact⟨_,_,eD.next m1 (by repeat (first|with_reducible exact aV _ _|with_reducible apply rO|with_reducible apply rD))⟩
    ·(repeat (first|(focus ((with_reducible refine tQ ?_);simp;done))|with_reducible apply fq|with_reducible apply fK|(refine mb _ _ ?_ ?_;focus (simp;done))))
    ·(first|(focus (simp;done))|(focus (refine aP m1.kept.size ?_;simp;done)))
    rintro e w4 ⟨g2,c2,rfl,l2,s1,s2,q1,q2⟩
    (try dsimp only)
    refine zK hK ?_ (λ _=>⟨s1,s2⟩);refine zM 18 ?_;refine zM 19 ?_;refine zM 20 ?_;refine zM 21 ?_;refine zM 22 ?_;refine zM 23 ?_;refine wz (by kernel_rfl) ?_ _
    go_wp2_with fail
    go_meet
    case rel=>exact HP.out _ _ _ _ _ _ (eD.next m1 (by repeat (first|with_reducible exact aV _ _|with_reducible apply rO|with_reducible apply rD))) l2
   go_simp;refine hK.out _ _ (λ _=>?_) ?_
   ·exact iB _ (by (repeat (first|assumption|with_reducible apply fq|with_reducible apply fK)))
   clear hK K;refine zL 9 λ K hK=>?_;go_simp;refine(HI1.out _ _ ?_ ?_ ?_).mono ?_
   ·(repeat (first|with_reducible exact aV _ _|with_reducible apply rO|with_reducible apply rD))
   ·(repeat (first|(focus ((with_reducible refine tQ ?_);simp;done))|with_reducible apply fq|with_reducible apply fK))
   ·(first|exact aO _|simp)
   rintro e w3 ⟨g,c,rfl,m1,mb,hb3⟩
   (try dsimp only)
   refine hK.out _ _ (λ _=>?_) ?_
   ·exact iB _ (by (repeat (first|assumption|with_reducible apply fq|with_reducible apply fK)))
   clear hK K;refine zL 17 λ K hK=>?_;go_simp;refine(HI2.out _ _ ?_ ?_ ?_).mono ?_
   ·exact⟨_,_,eD.next m1 (by repeat (first|with_reducible exact aV _ _|with_reducible apply rO|with_reducible apply rD))⟩
   ·(repeat (first|(focus ((with_reducible refine tQ ?_);simp;done))|with_reducible apply fq|with_reducible apply fK|(refine mb _ _ ?_ ?_;focus (simp;done))))
   ·(first|(focus (simp;done))|(focus (refine aP m1.kept.size ?_;simp;done)))
   rintro e w4 ⟨g2,c2,rfl,l2,s1,s2,q1,q2⟩
   (try dsimp only)
   refine zK hK ?_ (λ _=>⟨s1,s2⟩);refine zM 18 ?_;refine zM 19 ?_;refine zM 20 ?_;refine zM 21 ?_;refine zM 22 ?_;refine zM 23 ?_;refine wz (by kernel_rfl) ?_ _
   go_wp2_with fail
   go_meet
   case rel=>exact HP.out _ _ _ _ _ _ (eD.next m1 (by repeat (first|with_reducible exact aV _ _|with_reducible apply rO|with_reducible apply rD))) l2
  go_simp;refine hK.out _ _ (λ _=>?_) ?_
  ·exact iB _ (by (repeat (first|assumption|with_reducible apply fq|with_reducible apply fK)))
  clear hK K;refine zL 8 λ K hK=>?_;go_simp;refine hK.out _ _ (λ _=>?_) ?_
  ·exact iB _ (by (repeat (first|assumption|with_reducible apply fq|with_reducible apply fK)))
  clear hK K;refine zL 9 λ K hK=>?_;go_simp;refine(HI1.out _ _ ?_ ?_ ?_).mono ?_
  ·(repeat (first|with_reducible exact aV _ _|with_reducible apply rO|with_reducible apply rD))
  ·(repeat (first|(focus ((with_reducible refine tQ ?_);simp;done))|with_reducible apply fq|with_reducible apply fK))
  ·(first|exact aO _|simp)
  rintro e w3 ⟨g,c,rfl,m1,mb,hb3⟩
  (try dsimp only)
  refine hK.out _ _ (λ _=>?_) ?_
  ·exact iB _ (by (repeat (first|assumption|with_reducible apply fq|with_reducible apply fK)))
  clear hK K;refine zL 17 λ K hK=>?_;go_simp;refine(HI2.out _ _ ?_ ?_ ?_).mono ?_
  ·exact⟨_,_,eD.next m1 (by repeat (first|with_reducible exact aV _ _|with_reducible apply rO|with_reducible apply rD))⟩
  ·(repeat (first|(focus ((with_reducible refine tQ ?_);simp;done))|with_reducible apply fq|with_reducible apply fK|(refine mb _ _ ?_ ?_;focus (simp;done))))
  ·(first|(focus (simp;done))|(focus (refine aP m1.kept.size ?_;simp;done)))
  rintro e w4 ⟨g2,c2,rfl,l2,s1,s2,q1,q2⟩
  (try dsimp only)
  refine zK hK ?_ (λ _=>⟨s1,s2⟩);refine zM 18 ?_;refine zM 19 ?_;refine zM 20 ?_;refine zM 21 ?_;refine zM 22 ?_;refine zM 23 ?_;refine wz (by kernel_rfl) ?_ _
  go_wp2_with fail
  go_meet
  case rel=>exact HP.out _ _ _ _ _ _ (eD.next m1 (by repeat (first|with_reducible exact aV _ _|with_reducible apply rO|with_reducible apply rD))) l2
 obtain⟨hN,hM,bi,gG,dV,p1,k1⟩:=H1.out;obtain⟨h,hl⟩:=HH.out;obtain⟨p2,hr,hbx,k2⟩:=XL h hN bi gG dV p1 k1 hcut;obtain⟨sP,KR,c,c2,hn2,RB,hoa,kJ⟩:=hcut;have hle:=HI.out.1;have hlv:=HI.out.2.1;have hst:=HI.out.2.2;have e1:(ks.take i++key::ks.drop i).length=ks.length+1:=by simp;omega
 have e2:(vs.take i++v::vs.drop i).length=ks.length+1:=by simp;omega
 have ok:mX ⟨true,ks.take i++key::ks.drop i,vs.take i++v::vs.drop i,[]⟩:=⟨λ _=>⟨by rw[e1,e2],rfl,by rw[e1];omega⟩,λ h=>by cases h⟩;have HF:=zH (X8 hr);have KS:∀j,(λ j=>E j\/(N<=j/\j<M)\/(w2.heap.size<=j/\j<wc.heap.size)) j->j<wc.heap.size:=p2.there;have pK:∀j,E j->j<N:=λ j hj=>bZ (h.pz.there j hj) hN;have xq:T≠nb:=λ e=>lu nb (bZ (e▸pK T h.mem) bi.ge);have htab:nb≠0 :=λ e=>lu nb (bZ (bZ (e▸h.pz.tab.lt) hN) bi.ge);obtain⟨hw1,hw2⟩:=hn2.wins
 have DK:∀g,(aK sP g\/aK KR g\/aK none g)->(λ j=>E j\/(N<=j/\j<M)\/(w2.heap.size<=j/\j<wc.heap.size)) g:=λ g hg=>by
  rcases hg with hg|hg|hg
  ·rcases hoa g hg with h1|h1
   ·exact .inr (.inl ⟨(bi.new g (.inl h1)).1,dV g (.inl h1)⟩)
   exact .inr (.inr ⟨h1,hn2.k.lt hg⟩)
  ·rcases kJ g hg with h1|h1
   ·exact .inr (.inl ⟨(bi.new g (.inr (.inl h1))).1,dV g (.inr (.inl h1))⟩)
   exact .inr (.inr ⟨h1,hn2.v.lt hg⟩)
  cases hg
 have F4:∀j,E j->(E j\/(N<=j/\j<M)\/(w2.heap.size<=j/\j<wc.heap.size))/\j≠nb:=λ j hj=>⟨.inl hj,λ e=>lu nb (bZ (e▸pK j hj) bi.ge)⟩;by_cases hf:oP ⟨true,ks.take i++key::ks.drop i,vs.take i++v::vs.drop i,[]⟩=true
 ·have HS2:=zH (XH (E:=λ j=>E j\/(N<=j/\j<M)\/(w2.heap.size<=j/\j<wc.heap.size)) p2 (by omega) hbx (.inl h.mem) xq hl.has hw1 DK (λ g hg=>(hw2 g hg).2) KS (.inr (.inl ⟨bi.ge,gG⟩)) htab ok hf)
  have HB:=zH (λ (w':World) (B:AP) (more:Nat) (er:Int) (st:jE A pg ⟨true,ks.take i++key::ks.drop i,vs.take i++v::vs.drop i,[]⟩ B more (lK ⟨true,ks.take i++key::ks.drop i,vs.take i++v::vs.drop i,[]⟩).2.2 er) (p3:PZ (λ j=>E j\/(N<=j/\j<M)\/(w2.heap.size<=j/\j<wc.heap.size)) w' P D B (k+2+6)) (k3:Kept (λ j=>(E j\/(N<=j/\j<M)\/(w2.heap.size<=j/\j<wc.heap.size))/\j≠nb) wc w')=>(show oU E W w' P D T rt A (k+8) pg 0 key v (.returned (.tuple #[.int .i64 more,.int .u64 ((lK ⟨true,ks.take i++key::ks.drop i,vs.take i++v::vs.drop i,[]⟩).2.2.toNat:Int),.int .i64 er]))from
   ⟨B,more,_,er,k+2+6,rfl,.leaf HY.out hst hno st,⟨p3.less (λ _ hj=>.inl hj),hbx.ae (k3.block T (F4 T h.mem)),h.mem⟩,aO _,k2.trans (k3.mono F4)⟩))
  generalize (lK ⟨true,ks.take i++key::ks.drop i,vs.take i++v::vs.drop i,[]⟩).2.2=κ at HS2 HB;clear H1 HH hN hM bi gG dV p1 k1 h hl p2 hr hbx k2 hle hlv hst e1 e2 HI HI1 HI2 HP hn2 RB hoa kJ ok KS pK xq htab hw1 hw2 DK F4;rw[hf]at HF
  go_wp2_with fail
  refine HF.out.mono ?_;rintro e w5 ⟨rfl,rfl⟩
  go_wp2_with fail
  refine HS2.out.mono ?_;rintro e w6 ⟨mb,rfl,uE⟩;replace uE:=zH uE
  go_wp2_with fail
  refine uE.out.mono ?_;rintro e w7 ⟨rfl,hfr⟩;replace hfr:=zH hfr
  go_wp2_with fail
  refine hfr.out.mono ?_;rintro e w8 ⟨B,more,er,rfl,st,p3,k3⟩;have HG:=zH (HB.out _ B more er st p3 k3);clear st p3 k3;go_wp2
  go_ret3
  exact HG.out
 have Ar:oP ⟨true,ks.take i++key::ks.drop i,vs.take i++v::vs.drop i,[]⟩=false:=by simpa using hf
 have HS2:=zH (cB p2 (by omega) hbx hl.has hr (ok.fits Ar))
 have HB:=zH (λ (w':World) (p3:PZ (λ j=>E j\/(N<=j/\j<M)\/(w2.heap.size<=j/\j<wc.heap.size)) w' P D (A.ak pg (aS (A.c pg) ⟨true,ks.take i++key::ks.drop i,vs.take i++v::vs.drop i,[]⟩)) (k+2+3)) (k3:Kept (λ j=>E j\/(N<=j/\j<M)\/(w2.heap.size<=j/\j<wc.heap.size)) wc w')=>(show oU E W w' P D T rt A (k+8) pg 0 key v (.returned (.tuple #[.int .i64 0,.int .u64 0,.int .i64 0]))from
  ⟨_,0,0,0,k+2+3,rfl,.leaf HY.out hst hno (.one Ar),⟨p3.less (λ _ hj=>.inl hj),hbx.ae (k3.block T (.inl h.mem)),h.mem⟩,by omega,k2.trans (k3.mono (λ _ hj=>.inl hj))⟩))
 clear H1 HH hN hM bi gG dV p1 k1 h hl p2 hr hbx k2 hle hlv hst e1 e2 HI HI1 HI2 HP hn2 RB hoa kJ ok KS pK xq htab hw1 hw2 DK F4 hf;rw[Ar]at HF
 go_wp2_with fail
 refine HF.out.mono ?_;rintro e w5 ⟨rfl,rfl⟩
 go_wp2_with fail
 refine HS2.out.mono ?_;rintro e w6 ⟨rfl,p3,k3⟩;have HG:=zH (HB.out _ p3 k3);clear p3 k3;go_wp2
 go_ret3
 exact HG.out
end
open UK (str aF nth Only Row ay)
section
variable{E:Nat->Prop}{W W':World}{P D T k pg:Nat}{A:AP}
theorem eB.found{l:List UInt64}{key:UInt64}{i:Nat}(h:eB l key i)(hs:jK l)(hm:key∈l):l[i]?=some key:=by
 rcases xii i l.length with hi|hi
 ·have hx:=bL hi;have:=(h.mem hs hx).1 hm;rw[hx,mJ.1 this]
 have:i=l.length:=Nat.le_antisymm h.le hi;subst this;exact absurd hm h.none
theorem XM(l:List UInt64)(i:Nat)(v:UInt64):(az l).set i (.int .u64 (v.toNat:Int))=az (l.set i v):=by unfold az;rw[List.map_set]
theorem xvc{rt:Nat}{ks vs:List UInt64}(h:bJ E W P D T rt A k)(hk:k+8<900000000)(hp:A.Has pg)(hy:aB A pg=some ⟨true,ks,vs,[]⟩)(hs:jK ks)(hlv:vs.length=ks.length)(hl:ks.length<=30)(key v:UInt64)(hm:key∈ks)(deep:Nat)(hd:deep<=20) :
  Calls Tryz.prog 180 #[.pointer T,.int .i64 pg,.int .u64 key.toNat,.int .u64 v.toNat,.int .i64 deep] W λ e w'=>oU E W w' P D T rt A (k+8) pg 0 key v e:=by
 have HL:=zH (Az h.pz (by omega) h.box hp hy);have HH:=zH (zA h (zA hp (zA hy hlv)));clear h hp hy hlv
 go_enter Tryz.func180,Tryz.ntmps180
 go_wp2_with fail
 refine HL.out.mono ?_;rintro e w1 ⟨N,M,nb,ka,va,aa,kc,vc,ac,rfl,hN,hM,⟨bi,gG,dV⟩,p1,k1⟩;obtain⟨h,hp,hy,hlv⟩:=HH.out;have b0:=bi.box.c0;have b1:=bi.box.c1;have b2:=bi.box.c2;have hS:=Hq (bi.k.win (S:=λ _=>True) (λ _ _=>trivial)) hs (show ks.length<=1000 by omega) key;rw[dA,decide_eq_true hm]at hS;have HS:=zH hS;have H1:=zH (zA hN (zA hM (zA bi (zA gG (zA dV (zA p1 k1))))));clear HL bi gG dV p1 k1 hS hN hM hlv h hp hy
 go_wp2_with fail
 refine HS.out.mono ?_;rintro e w2 ⟨i,rfl,hst,rfl⟩;obtain⟨hN,hM,bi,gG,dV,p1,k1⟩:=H1.out;obtain⟨h,hp,hy,hlv⟩:=HH.out;have hf:=hst.found hs hm;have hi:i<vs.length:=by rw[hlv];exact(dE.1 hf).1
 obtain⟨gv,rfl,rv⟩:∃gv,va=some ⟨gv,0,none⟩/\Row w2 gv vc (az vs):=by
  rcases bi.v with⟨_,h2,_⟩|⟨g,h1,h2⟩
  ·have:=congrArg List.length h2;rw[dA]at this;exact absurd this (by show vs.length≠0;omega)
  exact⟨g,h1,h2⟩
 have hiu:i<(az vs).length:=by rw[dA];exact hi
 have hc:w2.cell? (gv,i)=some ((az vs)[i]):=rv.at' i _ (bL hiu);have hfz:w2.frozen? ⟨gv,i,none⟩=false:=rv.free i (bZ hiu rv.le);have hii:(i:Int)<(vs.length:Int):=Int.ofNat_lt.2 hi;have wK:=bi.new gv (.inr (.inl rfl));have F5:=dV gv (.inr (.inl rfl));have hNn:=bi.ge;have o3:Only gv w2 (w2.setCell (gv,i) (.int .u64 (v.toNat:Int))):=(Only.refl gv w2).set i _;have r3:=rv.set i (.int .u64 (v.toNat:Int)) hiu;rw[XM]at r3;have p3:PZ (λ j=>E j\/N<=j/\j<M) (w2.setCell (gv,i) (.int .u64 (v.toNat:Int))) P D A (k+2):=p1.over (R:=λ j=>j=gv) (T:=λ j=>E j\/N<=j/\j<M) (λ j hj=>by rw[hj];exact .inr ⟨wK.1,F5⟩) (λ he=>lu gv (bZ (bZ (he▸h.pz.tab.lt) hN) wK.1)) o3.size (λ j hj hr=>o3.block j hj hr) (λ j hj=>.inl hj);have pK:∀j,E j->j<N:=λ j hj=>bZ (h.pz.there j hj) hN;have kE:Kept E w2 (w2.setCell (gv,i) (.int .u64 (v.toNat:Int))):=⟨o3.os,o3.tape,o3.output,o3.size,λ j hj=>o3.block j (bZ (h.pz.there j hj) k1.size) (λ he=>lu gv (bZ (he▸pK j hj) wK.1))⟩;have bT:=(h.box.ae (k1.block T h.mem)).ae (kE.block T h.mem)
 have hr:jD (λ j=>E j\/N<=j/\j<M) (w2.setCell (gv,i) (.int .u64 (v.toNat:Int))) nb ⟨true,ks,vs.set i v,[]⟩:=by
  refine⟨.slice ka ks.length kc,.slice gv vs.length vc,.slice aa 0 ac,bi.box.only o3 wK.2.symm,.inr ⟨bi.ge,gG⟩,?_,?_,?_⟩
  ·have:=(bi.k.only o3 (λ e=>bi.kv gv e rfl)).win (S:=λ j=>E j\/N<=j/\j<M) (λ g hg=>.inr ⟨(bi.new g (.inl hg)).1,dV g (.inl hg)⟩);rw[dA]at this;exact this
  ·have:=vE (S:=λ j=>E j\/N<=j/\j<M) r3 (.inr ⟨wK.1,F5⟩);rw[dA,aQ]at this;exact this
  have:=(bi.a.only o3 (λ e=>bi.va gv rfl e)).win (S:=λ j=>E j\/N<=j/\j<M) (λ g hg=>.inr ⟨(bi.new g (.inr (.inr hg))).1,dV g (.inr (.inr hg))⟩);exact this
 have hfit:Fits ⟨true,ks,vs.set i v,[]⟩:=⟨λ _=>⟨hl,by simpa using hlv,rfl⟩,λ h=>by cases h⟩;have HS2:=zH (cB p3 (by omega) bT hp hr hfit)
 have HB:=zH (λ (w':World) (p4:PZ (λ j=>E j\/N<=j/\j<M) w' P D (A.ak pg (aS (A.c pg) ⟨true,ks,vs.set i v,[]⟩)) (k+2+3)) (k4:Kept (λ j=>E j\/N<=j/\j<M) (w2.setCell (gv,i) (.int .u64 (v.toNat:Int))) w')=>(show oU E W w' P D T rt A (k+8) pg 0 key v (.returned (.tuple #[.int .i64 0,.int .u64 0,.int .i64 0]))from
  ⟨_,0,0,0,k+2+3,rfl,.found hy hf,⟨p4.less (λ _ hj=>.inl hj),bT.ae (k4.block T (.inl h.mem)),h.mem⟩,by omega,(k1.trans kE).trans (k4.mono (λ _ hj=>.inl hj))⟩))
 clear H1 HS HH hN hM bi gG dV p1 k1 h hp hy hlv hst hf rv o3 r3 p3 pK kE bT hr hfit wK F5 hNn hs hm hl
 go_wp2_with fail
 refine HS2.out.mono ?_;rintro e w6 ⟨rfl,p4,k4⟩;have HG:=zH (HB.out _ p4 k4);clear p4 k4;go_wp2
 go_ret3
 exact HG.out
end
section
variable{E:Nat->Prop}{W W':World}{P D T k k0 pg N M nb kc vc ac:Nat}{A:AP}{x:Nd}{ka va aa:Option Addr}
theorem eD.zB{l:List UInt64}{m:List Nat}{g c g2 c2:Nat}{wb w:World}(h:eD N W wb nb x ka va aa kc vc ac l g c)(hv0:aU N W nb x ka va aa kc vc ac)(r:Row w g2 c2 (ints m))(o:Only g2 wb w)(hg:aK aa g2\/wb.heap.size<=g2) :
  aU N ((w.setCell (nb,1) (.slice g l.length c)).setCell (nb,3) (.slice g2 m.length c2)) nb {x with ag:=l,ax:=m} g va g2 c vc c2 /\
  Kept (λ j=>j<W.heap.size/\¬(aK ka j\/aK va j\/aK aa j\/j=nb)) W ((w.setCell (nb,1) (.slice g l.length c)).setCell (nb,3) (.slice g2 m.length c2)) /\
  ay w nb #[.bool x.leaf,.slice ka x.ag.length kc,.slice va x.vals.length vc,.slice aa x.ax.length ac]/\g2≠nb:=by
 have hgl:=h.row.lt;have hnl:=h.box.lt;have hks:=h.kept.size;have hWn:=hv0.box.lt;have hNg:=hv0.ge
 have hne:N<=g2/\g2≠nb:=by
  rcases hg with h1|h1
  ·exact hv0.new g2 (.inr (.inr h1))
  exact⟨by omega,by omega⟩
 have g12:g2≠g:=by
  rcases hg with h1|h1
  ·exact λ e=>h.ga (e▸h1)
  omega
 have ga:¬aK va g2:=by
  rcases hg with h1|h1
  ·exact λ e=>hv0.va g2 e h1
  exact λ e=>by have:=h.v.lt e;omega
 have r1:=h.row.only o g12.symm;have a1:=h.v.only o ga;have b1:=h.box.only o hne.2.symm;have o2:Only nb w ((w.setCell (nb,1) (.slice g l.length c)).setCell (nb,3) (.slice g2 m.length c2)):=((Only.refl nb w).set 1 _).set 3 _;have b2:=(b1.set 1 (.slice g l.length c)).set 3 (.slice g2 m.length c2);generalize (w.setCell (nb,1) (.slice g l.length c)).setCell (nb,3) (.slice g2 m.length c2)=w3 at o2 b2 ⊢;refine⟨⟨by simpa using b2,.inr ⟨g,rfl,r1.only o2 h.ne⟩,a1.only o2 (λ e=>(hv0.new nb (.inr (.inl e))).2 rfl),.inr ⟨g2,rfl,r.only o2 hne.2⟩,hv0.ge,λ j hj=>?_,λ _ hj e=>?_,λ _ hj e=>?_,λ _ hj e=>?_⟩,⟨(o2.os.trans o.os).trans h.kept.os,(o2.tape.trans o.tape).trans h.kept.tape,(o2.output.trans o.output).trans h.kept.output,aP (aP hks o.size) o2.size,λ j hj=>?_⟩,b1,hne.2⟩
 ·rcases hj with hj|hj|hj
  ·rw[gz hj];exact⟨h.ge,h.ne⟩
  ·exact hv0.new j (.inr (.inl hj))
  rw[gz hj];exact hne
 ·rw[gz hj]at e;exact h.gv e
 ·have e1:=gz hj;have e2:=gz e;exact g12 (by omega)
 ·rw[gz e]at hj;exact ga hj
 have hjb:j<wb.heap.size:=bZ hj.1 hks
 refine((o2.block j (bZ hjb o.size) (λ e=>hj.2 (.inr (.inr (.inr e))))).trans (o.block j hjb (λ e=>?_))).trans (h.kept.block j ⟨hj.1,λ hr=>hj.2 (by
  rcases hr with hr|hr|hr
  ·exact .inl hr
  ·exact .inr (.inl hr)
  exact .inr (.inr (.inr hr)))⟩)
 subst e;rcases hg with h1|h1
 ·exact hj.2 (.inr (.inr (.inl h1)))
 omega
def sQ(N:Nat)(W w:World)(nb:Nat)(ka va aa:Option Addr)(l:List UInt64)(m:List Nat):Prop:=
 ∃sP Hz c NH c2,aU N w nb {leaf:=false,ag:=l,vals:=[],ax:=m} sP va Hz c NH c2/\Kept (λ j=>j<W.heap.size/\¬(aK ka j\/aK va j\/aK aa j\/j=nb)) W w/\(∀j,aK sP j->aK ka j\/W.heap.size<=j)/\(∀j,aK Hz j->aK aa j\/W.heap.size<=j)
theorem XN{wb w:World}{ks l:List UInt64}{cs m:List Nat}{g c g2 c2 a b:Nat}(h:aU N W nb {leaf:=false,ag:=ks,vals:=[],ax:=cs} ka va aa kc vc ac)
  (m1:eD N W wb nb {leaf:=false,ag:=ks,vals:=[],ax:=cs} ka va aa kc vc ac l g c) (r:Row w g2 c2 (ints m)) (o:Only g2 wb w) (hg:aK aa g2\/wb.heap.size<=g2) (e1:l.length=a) (e2:m.length=b) :
  sQ N W ((w.setCell (nb,1) (.slice g a c)).setCell (nb,3) (.slice g2 b c2)) nb ka va aa l m:=by
 obtain⟨d1,d2,_,_⟩:=m1.zB h r o hg;rw[e1,e2]at d1 d2;refine⟨_,_,_,_,_,d1,d2,λ j hj=>?_,λ j hj=>?_⟩
 ·rw[gz hj];exact m1.own
 rw[gz hj];rcases hg with h1|h1
 ·exact .inl h1
 exact .inr (aP m1.kept.size h1)
theorem xve{w2 wc:World}{rt:Nat}{ks l:List UInt64}{cs m:List Nat}{A0:AP}(h:bJ E W P D T rt A0 k0)(hN:W.heap.size<=N)(bi:aU N w2 nb {leaf:=false,ag:=ks,vals:=[],ax:=cs} ka va aa kc vc ac)(gG:nb<M)(dV:∀g,aK ka g\/aK va g\/aK aa g->g<M)
  (p1:PZ (λ j=>E j\/N<=j/\j<M) w2 P D A k) (k1:Kept E W w2) (hp:sQ N w2 wc nb ka va aa l m) :
  PZ (λ j=>E j\/(N<=j/\j<M)\/(w2.heap.size<=j/\j<wc.heap.size)) wc P D A k/\jD (λ j=>E j\/(N<=j/\j<M)\/(w2.heap.size<=j/\j<wc.heap.size)) wc nb {leaf:=false,ag:=l,vals:=[],ax:=m}/\ay wc T #[.pointer P,.int .i64 rt]/\Kept E W wc:=by
 obtain⟨sP,Hz,c,NH,c2,hn2,k2,hoa,kJ⟩:=hp
 have hR:∀j,aK ka j\/aK va j\/aK aa j\/j=nb->N<=j/\j<M:=λ j hj=>by
  rcases hj with hj|hj|hj|rfl
  ·exact⟨(bi.new j (.inl hj)).1,dV j (.inl hj)⟩
  ·exact⟨(bi.new j (.inr (.inl hj))).1,dV j (.inr (.inl hj))⟩
  ·exact⟨(bi.new j (.inr (.inr hj))).1,dV j (.inr (.inr hj))⟩
  exact⟨bi.ge,gG⟩
 have hE:=h.pz.there;have kE:Kept E w2 wc:=k2.mono (λ j hj=>⟨bZ (hE j hj) k1.size,λ hr=>by have:=(hR j hr).1;have:=hE j hj;omega⟩);refine⟨p1.over (R:=λ j=>aK ka j\/aK va j\/aK aa j\/j=nb) (λ j hj=>.inr (hR j hj)) (λ hr=>by have:=(hR _ hr).1;have:=h.pz.tab.lt;omega) k2.size (λ j hj hr=>k2.block j ⟨hj,hr⟩) (λ j hj=>?_),hn2.reads (.inr (.inl ⟨bi.ge,gG⟩)) (λ g hg=>?_),(h.box.ae (k1.block T h.mem)).ae (kE.block T h.mem),k1.trans kE⟩
 ·rcases hj with hj|hj|hj
  ·exact .inl (.inl hj)
  ·exact .inl (.inr hj)
  exact .inr hj
 rcases hg with hg|hg|hg
 ·rcases hoa g hg with h1|h1
  ·exact .inr (.inl (hR g (.inl h1)))
  exact .inr (.inr ⟨h1,Ia hn2.k hg⟩)
 ·exact .inr (.inl (hR g (.inr (.inl hg))))
 rcases kJ g hg with h1|h1
 ·exact .inr (.inl (hR g (.inr (.inr (.inl h1)))))
 exact .inr (.inr ⟨h1,Ia hn2.a hg⟩)
end
section
variable{E:Nat->Prop}{W W':World}{P D T k pg:Nat}{A:AP}
theorem aU.move{N M nb kc vc ac:Nat}{x:Nd}{ka va aa:Option Addr}(h:aU N W nb x ka va aa kc vc ac)(hM:nb<M)(hg:∀g,aK ka g\/aK va g\/aK aa g->g<M)(hs:W.heap.size<=W'.heap.size)(hb:∀g,N<=g->g<M->W'.heap[g]?=W.heap[g]?):aU N W' nb x ka va aa kc vc ac:=
 ⟨h.box.ae (hb nb h.ge hM),h.k.ae hs (λ g h1=>hb g (h.new g (.inl h1)).1 (hg g (.inl h1))),h.v.ae hs (λ g h1=>hb g (h.new g (.inr (.inl h1))).1 (hg g (.inr (.inl h1)))),h.a.ae hs (λ g h1=>hb g (h.new g (.inr (.inr h1))).1 (hg g (.inr (.inr h1)))),h.ge,h.new,h.kv,h.ka,h.va⟩
theorem dN.DN{ag:List UInt64}{q:UInt64}{i j:Nat}(h:dN ag q i)(g:dN ag q j):¬i<j:=λ hij=>by
 have hl:i<ag.length:=bZ hij g.le;have m1:ag[i]∈ag.drop i:=List.mem_iff_getElem?.2 ⟨0,by rw[eY];exact bL hl⟩;have m2:ag[i]∈ag.take j:=List.mem_iff_getElem?.2 ⟨i,by rw[eX hij];exact bL hl⟩;have a1:=h.above _ m1;have a2:=g.below _ m2;omega
theorem dN.inj{ag:List UInt64}{q:UInt64}{i j:Nat}(h:dN ag q i)(g:dN ag q j):i=j:=by
 have:=h.DN g;have:=g.DN h;omega
theorem xx5{w3 wc:World}{rt d K0 i c N M nb kc vc ac more kk:Nat}{B:AP}{ag:List UInt64}{ax:List Nat}{ka va aa:Option Addr}{key v κ:UInt64}(h:bJ E W P D T rt A k)(hk:k+K0+8<900000000)(hy:aB A pg=some ⟨false,ag,[],ax⟩)(hki:dN ag key i)(hc:ax[i]?=some c)
  (hps:kZ key v d A c B more κ 0) (hm:more≠0) (jU:B.Has pg) (ok:mX ⟨false,ag.take i++κ::ag.drop i,[],ax.take (i+1)++more::ax.drop (i+1)⟩)
  (hN:W.heap.size<=N) (bi:aU N w3 nb ⟨false,ag,[],ax⟩ ka va aa kc vc ac) (gG:nb<M) (dV:∀g,aK ka g\/aK va g\/aK aa g->g<M) (p1:PZ (λ j=>E j\/N<=j/\j<M) w3 P D B kk) (hkk:kk<=k+2+K0) (k1:Kept E W w3)
  (hcut:sQ N w3 wc nb ka va aa (ag.take i++κ::ag.drop i) (ax.take (i+1)++more::ax.drop (i+1))) :
  Calls Tryz.prog 237 #[.pointer nb] wc (λ e w'=>e= .returned (.bool (oP ⟨false,ag.take i++κ::ag.drop i,[],ax.take (i+1)++more::ax.drop (i+1)⟩))/\w'=wc) /\
  (oP ⟨false,ag.take i++κ::ag.drop i,[],ax.take (i+1)++more::ax.drop (i+1)⟩=true->Calls Tryz.prog 238 #[.pointer nb] wc λ e w5=>∃(mb:Nat) (RD:UInt64),e= .returned (.tuple #[.pointer mb,.int .u64 (RD.toNat:Int)]) /\
   Calls Tryz.prog 150 #[.pointer T,.int .i64 pg,.pointer nb] w5 λ e w6=>e= .returned (.int .i64 0) /\
    Calls Tryz.prog 181 #[.pointer T,.pointer mb] w6 λ e w7=>∃(qC:Nat) (er:Int),e= .returned (.tuple #[.int .i64 qC,.int .i64 er])/\oU E W w7 P D T rt A (k+K0+8) pg (d+1) key v (.returned (.tuple #[.int .i64 qC,.int .u64 (RD.toNat:Int),.int .i64 er]))) /\
  (oP ⟨false,ag.take i++κ::ag.drop i,[],ax.take (i+1)++more::ax.drop (i+1)⟩=false->Calls Tryz.prog 150 #[.pointer T,.int .i64 pg,.pointer nb] wc λ e w6=>e= .returned (.int .i64 0)/\oU E W w6 P D T rt A (k+K0+8) pg (d+1) key v (.returned (.tuple #[.int .i64 0,.int .u64 0,.int .i64 0]))):=by
 obtain⟨p2,hr,hbx,k2⟩:=xve h hN bi gG dV p1 k1 hcut;obtain⟨sP,Hz,cc,NH,c2,hn2,RB,hoa,kJ⟩:=hcut;have KS:∀j,(λ j=>E j\/(N<=j/\j<M)\/(w3.heap.size<=j/\j<wc.heap.size)) j->j<wc.heap.size:=p2.there;have pK:∀j,E j->j<N:=λ j hj=>bZ (h.pz.there j hj) hN;have xq:T≠nb:=λ e=>lu nb (bZ (e▸pK T h.mem) bi.ge);have htab:nb≠0 :=λ e=>lu nb (bZ (bZ (e▸h.pz.tab.lt) hN) bi.ge);obtain⟨hw1,hw2⟩:=hn2.wins
 have DK:∀g,(aK sP g\/aK va g\/aK Hz g)->(λ j=>E j\/(N<=j/\j<M)\/(w3.heap.size<=j/\j<wc.heap.size)) g:=λ g hg=>by
  rcases hg with hg|hg|hg
  ·rcases hoa g hg with h1|h1
   ·exact .inr (.inl ⟨(bi.new g (.inl h1)).1,dV g (.inl h1)⟩)
   exact .inr (.inr ⟨h1,hn2.k.lt hg⟩)
  ·exact .inr (.inl ⟨(bi.new g (.inr (.inl hg))).1,dV g (.inr (.inl hg))⟩)
  rcases kJ g hg with h1|h1
  ·exact .inr (.inl ⟨(bi.new g (.inr (.inr h1))).1,dV g (.inr (.inr h1))⟩)
  exact .inr (.inr ⟨h1,hn2.a.lt hg⟩)
 have F4:∀j,E j->(E j\/(N<=j/\j<M)\/(w3.heap.size<=j/\j<wc.heap.size))/\j≠nb:=λ j hj=>⟨.inl hj,λ e=>lu nb (bZ (e▸pK j hj) bi.ge)⟩;refine⟨X8 hr,λ hf=>?_,λ hf=>?_⟩
 ·refine(XH (E:=λ j=>E j\/(N<=j/\j<M)\/(w3.heap.size<=j/\j<wc.heap.size)) p2 (by omega) hbx (.inl h.mem) xq jU hw1 DK (λ g hg=>(hw2 g hg).2) KS (.inr (.inl ⟨bi.ge,gG⟩)) htab ok hf).mono ?_;rintro e w5 ⟨mb,rfl,h5⟩;refine⟨mb,_,rfl,h5.mono ?_⟩;rintro e w6 ⟨rfl,h6⟩;refine⟨rfl,h6.mono ?_⟩;rintro e w7 ⟨C,qC,er,rfl,st,p3,k3⟩;exact⟨qC,er,rfl,C,qC,_,er,kk+6,rfl,.up hy hki hc hps hm st,⟨p3.less (λ _ hj=>.inl hj),hbx.ae (k3.block T (F4 T h.mem)),h.mem⟩,by omega,k2.trans (k3.mono F4)⟩
 refine(cB p2 (by omega) hbx jU hr (ok.fits hf)).mono ?_;rintro e w6 ⟨rfl,p3,k3⟩;exact⟨rfl,_,0,0,0,kk+3,rfl,.up hy hki hc hps hm (.one hf),⟨p3.less (λ _ hj=>.inl hj),hbx.ae (k3.block T (.inl h.mem)),h.mem⟩,by omega,k2.trans (k3.mono (λ _ hj=>.inl hj))⟩
end
end Go.Proofs.YtgpmiliahonaoaaGreatDoor
