/- Facts on texts and trees on pages. -/
import Derived.Test.YtgpmiliahonaoaaGreatDoorKTrNc
set_option maxRecDepth 100000
set_option maxHeartbeats 8000000
set_option linter.unusedSimpArgs false
namespace Go.Proofs.YtgpmiliahonaoaaGreatDoor
open Go.RowKit
open UK (str aF nth Only Row ay)
open Go.BigFrame
section
variable{E:Nat->Prop}{W W':World}{P D T k pg:Nat}{A:AP}
theorem xvf{rt d K0 i c:Nat}{ag:List UInt64}{ax:List Nat}(h:bJ E W P D T rt A k)(hk:k+K0+8<900000000)(hp:A.Has pg)(hy:aB A pg=some ⟨false,ag,[],ax⟩)(hs:jK ag)(hl:ag.length<=100)(hlk:ax.length=ag.length+1)(key v:UInt64)(deep:Nat)(hd:deep<=20)
  (hki:dN ag key i) (hc:ax[i]?=some c)
  (hrec:∀(E1:Nat->Prop) (w1:World),bJ E1 w1 P D T rt A (k+2)->Calls Tryz.prog 180 #[.pointer T,.int .i64 c,.int .u64 key.toNat,.int .u64 v.toNat,.int .i64 ((deep:Int)+1)] w1 λ e w'=>oU E1 w1 w' P D T rt A (k+2+K0) c d key v e)
  (hok:∀(B:AP) (more:Nat) (κ:UInt64) (er:Int),kZ key v d A c B more κ er->(er≠0\/more=0)\/(er=0/\more≠0/\B.Has pg/\mX ⟨false,ag.take i++κ::ag.drop i,[],ax.take (i+1)++more::ax.drop (i+1)⟩)) :
  Calls Tryz.prog 180 #[.pointer T,.int .i64 pg,.int .u64 key.toNat,.int .u64 v.toNat,.int .i64 deep] W λ e w'=>oU E W w' P D T rt A (k+K0+8) pg (d+1) key v e:=by
 have HL:=zH (Az h.pz (by omega) h.box hp hy);have HH:=zH (zA h (zA hp (zA hy hlk)));have HO:=zH hok;have HR:=zH hrec;have hic:i<ax.length:=(dE.1 hc).1;have hii:(i:Int)<(ax.length:Int):=Int.ofNat_lt.2 hic;have hdw:IntKind.i64.wrap ((deep:Int)+1)=(deep:Int)+1:=by rw[dJ];omega
 have KT:wrap64 ((deep:Int)+1)=(deep:Int)+1:=by unfold wrap64;omega
 have hiw:IntKind.i64.wrap ((i:Int)+1)=(i:Int)+1:=by
  have:i<=101:=by omega
  rw[dJ];omega
 have hdn:¬(20:Int)<(deep:Int):=by omega
 clear h hp hy hlk hok hrec
 go_enter Tryz.func180,Tryz.ntmps180
 go_wp2_with fail
 refine HL.out.mono ?_;rintro e w1 ⟨N,M,nb,ka,va,aa,kc,vc,ac,rfl,hN,hM,⟨bi,gG,dV⟩,p1,k1⟩;obtain⟨h,hp,hy,hlk⟩:=HH.out;have hnr:jD (λ _=>True) w1 nb ⟨false,ag,[],ax⟩:=bi.wins.1.reads (λ _ _=>trivial) trivial;have HK:=zH (R7 hnr hs (show ag.length<=1000 by omega) key);have b0:=bi.box.c0;have b3:=bi.box.c3
 obtain⟨ga,rfl,ra⟩:∃ga,aa=some ⟨ga,0,none⟩/\Row w1 ga ac (ints ax):=by
  rcases bi.a with⟨_,h2,_⟩|⟨g,h1,h2⟩
  ·have:=congrArg List.length h2;rw[gQ]at this;exact absurd this (by show ax.length≠0;omega)
  exact⟨g,h1,h2⟩
 have hcc:w1.cell? (ga,i)=some (.int .i64 (c:Int)):=ra.at' i _ (by unfold ints;rw[dL,hc];rfl);have H1:=zH (zA hN (zA hM (zA bi (zA gG (zA dV (zA p1 k1))))));have HT:=zH (HR.out _ w1 ⟨p1,h.box.ae (k1.block T h.mem),.inl h.mem⟩);clear HL bi gG dV p1 k1 hN hM h hp hy hlk hnr HR ra
 go_wp2_with fail
 refine HK.out.mono ?_;rintro e w2 ⟨i2,rfl,uF,rfl⟩;obtain rfl:i=i2:=(uF.inj hki).symm
 go_wp2_with fail
 refine HT.out.mono ?_;rintro e w3 ⟨B,more,κ,er,kk,rfl,hps,ht3,hkk,k3⟩;obtain⟨hN,hM,bi,gG,dV,p1,k1⟩:=H1.out;obtain⟨h,hp,hy,hlk⟩:=HH.out;have kE:Kept E W w3:=k1.trans (k3.mono (λ _ hj=>.inl hj));rcases HO.out B more κ er hps with hst|⟨rfl,hmz,jU,ok⟩
 ·have hG:oU E W w3 P D T rt A (k+K0+8) pg (d+1) key v (.returned (.tuple #[.int .i64 0,.int .u64 0,.int .i64 er])):=
   ⟨B,0,0,er,kk,rfl,.stop hy hki hc hps hst,⟨ht3.pz.less (λ _ hj=>.inl hj),ht3.box,h.mem⟩,by omega,kE⟩
  have HG:=zH hG;clear H1 HH HO hN hM bi gG dV p1 k1 h hp hy hlk kE hG ht3 k3 hps hkk HT HK hki uF hs hl hc hcc b0 b3 hic hii;by_cases he:er=0
  ·subst he;have hm0:more=0:=hst.resolve_left (λ h=>h rfl);subst hm0;clear hst;go_wp2
   go_ret3
   exact HG.out
  have he2:(er==0)=false:=beq_eq_false_iff_ne.2 he;clear hst;go_wp2
  go_ret3
  exact HG.out
 have nY:aU N w3 nb ⟨false,ag,[],ax⟩ ka va ga kc vc ac:=bi.move gG dV k3.size (λ g h1 h2=>k3.block g (.inr ⟨h1,h2⟩));have hNs:N<=w3.heap.size:=Nat.le_of_lt (Nat.lt_of_le_of_lt nY.ge nY.box.lt);have b1:=nY.box.c1;have b3:=nY.box.c3;have hle:=hki.le;have hm0:(more==0)=false:=beq_eq_false_iff_ne.2 hmz;have aar:((more:Int)==0)=false:=beq_eq_false_iff_ne.2 (by omega);have hR:=λ wc=>xx5 (wc:=wc) h hk hy hki hc hps hmz jU ok hN nY gG dV ht3.pz hkk kE;have HRR:=zH hR;clear hR hmz
 have HI1:=zH (λ (wa:World) (vb:Nat) (ba:Below w3 w3 wa) (hv:ay wa vb #[.int .u64 (κ.toNat:Int)]) (hvb:w3.heap.size<=vb)=>(show Calls Tryz.prog 235 #[.slice ka ag.length kc,.int .i64 i,.slice vb 1 1] wa λ e w'=>∃g c,e= .returned (.slice (some ⟨g,0,none⟩) (ag.length+1) c)/\eD N w3 w' nb {leaf:=false,ag:=ag,vals:=[],ax:=ax} ka va ga kc vc ac (ag.take i++κ::ag.drop i) g c/\(∀Cq cs,w3.heap.size<=Cq->ay wa Cq cs->ay w' Cq cs)/\ay w' nb #[.bool false,.slice ka ag.length kc,.slice va 0 vc,.slice ga ax.length ac]from
  (RA (nY.next ba).k (show ag.length<=1000 by omega) hki.le κ hv (λ e=>by have:=nY.k.lt e;omega)).mono (λ e w' ⟨g',c',he,r,o,hg⟩=>
   ⟨g',c',by rw[he];simp only[zl,zt,dn,zd];rw[show min i ag.length+(ag.length-i+1)=ag.length+1 by have:=hki.le;omega],nY.wJ hNs ba r o hg,λ Cq cs hv' hb=>hb.only o (λ e=>by
    rcases hg with h1|h1
    ·have:=nY.k.lt h1;omega
    have:=hb.lt;omega),(nY.wJ hNs ba r o hg).box⟩)))
 have HI2:=zH (λ (wb:World) (vb:Nat) (mm:∃g c,eD N w3 wb nb {leaf:=false,ag:=ag,vals:=[],ax:=ax} ka va ga kc vc ac (ag.take i++κ::ag.drop i) g c) (hv:ay wb vb #[.int .i64 (more:Int)]) (hvb:w3.heap.size<=vb)=>(show Calls Tryz.prog 236 #[.slice ga ax.length ac,.int .i64 ((i:Int)+1),.slice vb 1 1] wb λ e w'=>∃g2 c2,e= .returned (.slice (some ⟨g2,0,none⟩) (ax.length+1) c2)/\(Row w' g2 c2 (ints (ax.take (i+1)++more::ax.drop (i+1)))/\Only g2 wb w'/\(aK ga g2\/wb.heap.size<=g2))/\w'.cell? (nb,1)=some (.slice ka ag.length kc)/\w'.cell? (nb,3)=some (.slice ga ax.length ac)/\w'.frozen? ⟨nb,1,none⟩=false/\w'.frozen? ⟨nb,3,none⟩=false from
  let ⟨_,_,m⟩:=mm
  (xoe m.a (show ax.length<=1000 by omega) (show i+1<=ax.length by omega) more hv (λ e=>by have:=nY.a.lt e;omega)).mono (λ e w' ⟨g',c',he,r,o,hg⟩=>by
   have hd:=(m.zB nY r o hg).2.2.1;exact⟨g',c',by rw[he];simp only[zl,zt,dn,zd];rw[show min (i+1) ax.length+(ax.length-(i+1)+1)=ax.length+1 by omega],⟨r,o,hg⟩,hd.cell 1 _ rfl,hd.cell 3 _ rfl,hd.free 1,hd.free 3⟩)))
 have hb2:ay w3 nb #[.bool false,.slice ka ag.length kc,.slice va 0 vc,.slice ga ax.length ac]:=nY.box;have iB:∀w:World,ay w nb #[.bool false,.slice ka ag.length kc,.slice va 0 vc,.slice ga ax.length ac]->w.cell? (nb,1)=some (.slice ka ag.length kc)/\w.cell? (nb,3)=some (.slice ga ax.length ac):=λ w hb=>⟨hb.cell 1 _ rfl,hb.cell 3 _ rfl⟩
 have HP:=zH (λ (wb w':World) (g c g2 c2:Nat) (m:eD N w3 wb nb {leaf:=false,ag:=ag,vals:=[],ax:=ax} ka va ga kc vc ac (ag.take i++κ::ag.drop i) g c) (l2:Row w' g2 c2 (ints (ax.take (i+1)++more::ax.drop (i+1)))/\Only g2 wb w'/\(aK ga g2\/wb.heap.size<=g2))=>(show sQ N w3 ((w'.setCell (nb,1) (.slice g (ag.length+1) c)).setCell (nb,3) (.slice g2 (ax.length+1) c2)) nb ka va ga (ag.take i++κ::ag.drop i) (ax.take (i+1)++more::ax.drop (i+1))from
  XN nY m l2.1 l2.2.1 l2.2.2 (by simp;omega) (by simp;omega)))
 have HX:=zH (zA nY (zA hki hle));clear hlk nY bi dV p1 k1 hki uF HT HK hps ht3 k3 hkk kE h hp hy HO H1 ok jU hc hcc b0
 go_upto_region 16 with(fail)
 go_cut [] (λ wx=>sQ N w3 wx nb ka va ga (ag.take i++κ::ag.drop i) (ax.take (i+1)++more::ax.drop (i+1)))
 case first=>
  refine wp_region_any (by kernel_rfl) ?_;refine zT 0 ?_;refine zT 1 ?_;refine zT 2 ?_;refine zT 3 ?_;refine zT 4 ?_;refine zT 6 ?_;refine zT 7 ?_;refine zT 10 ?_;refine zT 11 ?_;refine zT 12 ?_;refine zT 14 ?_;refine zT 15 ?_;refine zT 16 ?_;refine zV (w:=w3.drew) (λ w'=>w'.cell? (nb,1)=some (.slice ka ag.length kc)/\w'.cell? (nb,3)=some (.slice ga ax.length ac)) 19 (by exact ⟨b1,b3⟩) λ hS0=>?_;refine zU 5 hS0 ?_;refine zU 13 hS0 ?_;clear hS0;refine JS (i:=8) (j:=17) (by kernel_rfl) rfl rfl (λ K hK=>?_) (λ K hK=>?_)
  ·go_simp;refine hK.out _ _ (λ _=>?_) ?_
   ·exact iB _ (by (repeat (first|assumption|with_reducible apply fq|with_reducible apply fK)))
   clear hK K;refine JS (i:=9) (j:=17) (by kernel_rfl) rfl rfl (λ K hK=>?_) (λ K hK=>?_)
   ·go_simp;refine(HI1.out _ _ ?_ ?_ ?_).mono ?_
    ·(repeat (first|with_reducible exact aV _ _|with_reducible apply rO|with_reducible apply rD))
    ·(repeat (first|(focus ((with_reducible refine tQ ?_);simp;done))|with_reducible apply fq|with_reducible apply fK))
    ·(first|exact aO _|simp)
    rintro e w4 ⟨g,c,rfl,m1,mb,hb3⟩
    (try dsimp only)
    refine hK.out _ _ (λ _=>?_) ?_
    ·exact iB _ (by (repeat (first|assumption|with_reducible apply fq|with_reducible apply fK)))
    clear hK K;refine zL 17 λ K hK=>?_;go_simp;refine hK.out _ _ (λ _=>?_) ?_
    ·exact iB _ (by (repeat (first|assumption|with_reducible apply fq|with_reducible apply fK)))
    clear hK K;refine zL 18 λ K hK=>?_;go_simp;refine(HI2.out _ _ ?_ ?_ ?_).mono ?_
    ·exact⟨_,_,eD.next m1 (by repeat (first|with_reducible exact aV _ _|with_reducible apply rO|with_reducible apply rD))⟩
    ·(repeat (first|(focus ((with_reducible refine tQ ?_);simp;done))|with_reducible apply fq|with_reducible apply fK|(refine mb _ _ ?_ ?_;focus (simp;done))))
    ·(first|(focus (simp;done))|(focus (refine aP m1.kept.size ?_;simp;done)))
    rintro e w5 ⟨g2,c2,rfl,l2,s1,s2,q1,q2⟩
    (try dsimp only)
    refine zK hK ?_ (λ _=>⟨s1,s2⟩);refine zM 19 ?_;refine zM 20 ?_;refine zM 21 ?_;refine zM 22 ?_;refine zM 23 ?_;refine zM 24 ?_;refine wz (by kernel_rfl) ?_ _
    go_wp2_with fail
    go_meet
    case rel=>exact HP.out _ _ _ _ _ _ (eD.next m1 (by repeat (first|with_reducible exact aV _ _|with_reducible apply rO|with_reducible apply rD))) l2
   go_simp;refine hK.out _ _ (λ _=>?_) ?_
   ·exact iB _ (by (repeat (first|assumption|with_reducible apply fq|with_reducible apply fK)))
   clear hK K;refine zL 9 λ K hK=>?_;go_simp;refine(HI1.out _ _ ?_ ?_ ?_).mono ?_
   ·(repeat (first|with_reducible exact aV _ _|with_reducible apply rO|with_reducible apply rD))
   ·(repeat (first|(focus ((with_reducible refine tQ ?_);simp;done))|with_reducible apply fq|with_reducible apply fK))
   ·(first|exact aO _|simp)
   rintro e w4 ⟨g,c,rfl,m1,mb,hb3⟩
   (try dsimp only)
   refine hK.out _ _ (λ _=>?_) ?_
   ·exact iB _ (by (repeat (first|assumption|with_reducible apply fq|with_reducible apply fK)))
   clear hK K;refine zL 18 λ K hK=>?_;go_simp;refine(HI2.out _ _ ?_ ?_ ?_).mono ?_
   ·exact⟨_,_,eD.next m1 (by repeat (first|with_reducible exact aV _ _|with_reducible apply rO|with_reducible apply rD))⟩
   ·(repeat (first|(focus ((with_reducible refine tQ ?_);simp;done))|with_reducible apply fq|with_reducible apply fK|(refine mb _ _ ?_ ?_;focus (simp;done))))
   ·(first|(focus (simp;done))|(focus (refine aP m1.kept.size ?_;simp;done)))
   rintro e w5 ⟨g2,c2,rfl,l2,s1,s2,q1,q2⟩
   (try dsimp only)
   refine zK hK ?_ (λ _=>⟨s1,s2⟩);refine zM 19 ?_;refine zM 20 ?_;refine zM 21 ?_;refine zM 22 ?_;refine zM 23 ?_;refine zM 24 ?_;refine wz (by kernel_rfl) ?_ _
   go_wp2_with fail
   go_meet
   case rel=>exact HP.out _ _ _ _ _ _ (eD.next m1 (by repeat (first|with_reducible exact aV _ _|with_reducible apply rO|with_reducible apply rD))) l2
  go_simp;refine hK.out _ _ (λ _=>?_) ?_
  ·exact iB _ (by (repeat (first|assumption|with_reducible apply fq|with_reducible apply fK)))
  clear hK K;refine zL 8 λ K hK=>?_;go_simp;refine hK.out _ _ (λ _=>?_) ?_
  ·exact iB _ (by (repeat (first|assumption|with_reducible apply fq|with_reducible apply fK)))
  clear hK K;refine zL 9 λ K hK=>?_;go_simp;refine(HI1.out _ _ ?_ ?_ ?_).mono ?_
  ·(repeat (first|with_reducible exact aV _ _|with_reducible apply rO|with_reducible apply rD))
  ·(repeat (first|(focus ((with_reducible refine tQ ?_);simp;done))|with_reducible apply fq|with_reducible apply fK))
  ·(first|exact aO _|simp)
  rintro e w4 ⟨g,c,rfl,m1,mb,hb3⟩
  (try dsimp only)
  refine hK.out _ _ (λ _=>?_) ?_
  ·exact iB _ (by (repeat (first|assumption|with_reducible apply fq|with_reducible apply fK)))
  clear hK K;refine zL 18 λ K hK=>?_;go_simp;refine(HI2.out _ _ ?_ ?_ ?_).mono ?_
  ·exact⟨_,_,eD.next m1 (by repeat (first|with_reducible exact aV _ _|with_reducible apply rO|with_reducible apply rD))⟩
  ·(repeat (first|(focus ((with_reducible refine tQ ?_);simp;done))|with_reducible apply fq|with_reducible apply fK|(refine mb _ _ ?_ ?_;focus (simp;done))))
  ·(first|(focus (simp;done))|(focus (refine aP m1.kept.size ?_;simp;done)))
  rintro e w5 ⟨g2,c2,rfl,l2,s1,s2,q1,q2⟩
  (try dsimp only)
  refine zK hK ?_ (λ _=>⟨s1,s2⟩);refine zM 19 ?_;refine zM 20 ?_;refine zM 21 ?_;refine zM 22 ?_;refine zM 23 ?_;refine zM 24 ?_;refine wz (by kernel_rfl) ?_ _
  go_wp2_with fail
  go_meet
  case rel=>exact HP.out _ _ _ _ _ _ (eD.next m1 (by repeat (first|with_reducible exact aV _ _|with_reducible apply rO|with_reducible apply rD))) l2
 obtain⟨hF,hS,hO⟩:=HRR.out _ hcut;have HF:=zH hF;have RF:=zH hS;have RG:=zH hO;clear hcut HRR hF hS hO HX HP HI1 HI2 HH hle iB hb2 b1 b3 hNs;by_cases hf:oP ⟨false,ag.take i++κ::ag.drop i,[],ax.take (i+1)++more::ax.drop (i+1)⟩=true
 ·have HG:=zH (RF.out hf);rw[hf]at HF;clear RF RG hf
  go_wp2_with fail
  refine HF.out.mono ?_;rintro e w5 ⟨rfl,rfl⟩
  go_wp2_with fail
  refine HG.out.mono ?_;rintro e w6 ⟨mb,RD,rfl,uE⟩;replace uE:=zH uE
  go_wp2_with fail
  refine uE.out.mono ?_;rintro e w7 ⟨rfl,hfr⟩;replace hfr:=zH hfr
  go_wp2_with fail
  refine hfr.out.mono ?_;rintro e w8 ⟨qC,er,rfl,hr⟩;have HQ:=zH hr;clear hr;go_wp2
  go_ret3
  exact HQ.out
 have Ar:oP ⟨false,ag.take i++κ::ag.drop i,[],ax.take (i+1)++more::ax.drop (i+1)⟩=false:=by simpa using hf
 have HG:=zH (RG.out Ar);rw[Ar]at HF;clear RF RG hf Ar
 go_wp2_with fail
 refine HF.out.mono ?_;rintro e w5 ⟨rfl,rfl⟩
 go_wp2_with fail
 refine HG.out.mono ?_;rintro e w6 ⟨rfl,hr⟩;have HQ:=zH hr;clear hr;go_wp2
 go_ret3
 exact HQ.out
end
end Go.Proofs.YtgpmiliahonaoaaGreatDoor
