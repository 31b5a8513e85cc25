/- Facts on rows of numbers on pages. -/
import Derived.Test.YtlipgbnnbefhjaaGreatDoorKTrNc
set_option maxRecDepth 100000
set_option maxHeartbeats 8000000
set_option linter.unusedSimpArgs false
namespace Go.Proofs.YtlipgbnnbefhjaaGreatDoor
open Go.RowKit
open UK (str aO nth Only Row aI)
open Go.BigFrame
section
variable{E:Nat->Prop}{W W':World}{P D T k pg:Nat}{A:AP}
theorem xvg{rt d K0 i c:Nat}{ai:List UInt64}{ah:List Nat}(h:bL E W P D T rt A k)(hk:k+K0+8<900000000)(hp:A.Has pg)(hy:aH A pg=some ⟨false,ai,[],ah⟩)(hs:jV ai)(hl:ai.length<=100)(hlk:ah.length=ai.length+1)(key v:UInt64)(deep:Nat)(hd:deep<=20)
  (hki:dU ai key i) (hc:ah[i]?=some c)
  (hrec:∀(E1:Nat->Prop) (w1:World),bL E1 w1 P D T rt A (k+2)->Calls Tryz.prog 95 #[.pointer T,.int .i64 c,.int .u64 key.toNat,.int .u64 v.toNat,.int .i64 ((deep:Int)+1)] w1 λ e w'=>qL E1 w1 w' P D T rt A (k+2+K0) c d key v e)
  (hok:∀(B:AP) (more:Nat) (κ:UInt64) (er:Int),kY key v d A c B more κ er->(er≠0\/more=0)\/(er=0/\more≠0/\B.Has pg/\oL ⟨false,ai.take i++κ::ai.drop i,[],ah.take (i+1)++more::ah.drop (i+1)⟩)) :
  Calls Tryz.prog 95 #[.pointer T,.int .i64 pg,.int .u64 key.toNat,.int .u64 v.toNat,.int .i64 deep] W λ e w'=>qL E W w' P D T rt A (k+K0+8) pg (d+1) key v e:=by
 have HL:=zH (BU h.pz (by omega) h.box hp hy);have HH:=zH (zA h (zA hp (zA hy hlk)));have HO:=zH hok;have HR:=zH hrec;have hic:i<ah.length:=(dn.1 hc).1;have hii:(i:Int)<(ah.length:Int):=Int.ofNat_lt.2 hic;have hdw:IntKind.i64.wrap ((deep:Int)+1)=(deep:Int)+1:=by rw[bN];omega
 have MN:wrap64 ((deep:Int)+1)=(deep:Int)+1:=by unfold wrap64;omega
 have Zh:IntKind.i64.wrap ((i:Int)+1)=(i:Int)+1:=by
  have:i<=101:=by omega
  rw[bN];omega
 have hdn:¬(20:Int)<(deep:Int):=by omega
 clear h hp hy hlk hok hrec
 go_enter Tryz.func95,Tryz.ntmps95
 go_wp2_with fail
 refine HL.out.mono ?_;rintro e w1 ⟨N,M,nb,ka,va,aa,kc,vc,ac,rfl,hN,hM,⟨bi,gV,fT⟩,p1,k1⟩;obtain⟨h,hp,hy,hlk⟩:=HH.out;have hnr:jN (λ _=>True) w1 nb ⟨false,ai,[],ah⟩:=bi.wins.1.reads (λ _ _=>trivial) trivial;have HK:=zH (UR hnr hs (show ai.length<=1000 by omega) key);have b0:=bi.box.c0;have b3:=bi.box.c3
 obtain⟨ga,rfl,ra⟩:∃ga,aa=some ⟨ga,0,none⟩/\Row w1 ga ac (ints ah):=by
  rcases bi.a with⟨_,h2,_⟩|⟨g,h1,h2⟩
  ·have:=congrArg List.length h2;rw[dx]at this;exact absurd this (by show ah.length≠0;omega)
  exact⟨g,h1,h2⟩
 have hcc:w1.cell? (ga,i)=some (.int .i64 (c:Int)):=ra.at' i _ (by unfold ints;rw[dW,hc];rfl);have H1:=zH (zA hN (zA hM (zA bi (zA gV (zA fT (zA p1 k1))))));have HT:=zH (HR.out _ w1 ⟨p1,h.box.af (k1.block T h.mem),.inl h.mem⟩);clear HL bi gV fT p1 k1 hN hM h hp hy hlk hnr HR ra
 go_wp2_with fail
 refine HK.out.mono ?_;rintro e w2 ⟨i2,rfl,wF,rfl⟩;obtain rfl:i=i2:=(wF.inj hki).symm
 go_wp2_with fail
 refine HT.out.mono ?_;rintro e w3 ⟨B,more,κ,er,kk,rfl,hps,ht3,hkk,k3⟩;obtain⟨hN,hM,bi,gV,fT,p1,k1⟩:=H1.out;obtain⟨h,hp,hy,hlk⟩:=HH.out;have kE:Kept E W w3:=k1.trans (k3.mono (λ _ hj=>.inl hj));rcases HO.out B more κ er hps with hst|⟨rfl,hmz,MM,ok⟩
 ·have hG:qL E W w3 P D T rt A (k+K0+8) pg (d+1) key v (.returned (.tuple #[.int .i64 0,.int .u64 0,.int .i64 er])):=
   ⟨B,0,0,er,kk,rfl,.stop hy hki hc hps hst,⟨ht3.pz.less (λ _ hj=>.inl hj),ht3.box,h.mem⟩,by omega,kE⟩
  have HG:=zH hG;clear H1 HH HO hN hM bi gV fT p1 k1 h hp hy hlk kE hG ht3 k3 hps hkk HT HK hki wF hs hl hc hcc b0 b3 hic hii;by_cases he:er=0
  ·subst he;have hm0:more=0:=hst.resolve_left (λ h=>h rfl);subst hm0;clear hst;go_wp2
   go_ret3
   exact HG.out
  have he2:(er==0)=false:=beq_eq_false_iff_ne.2 he;clear hst;go_wp2
  go_ret3
  exact HG.out
 have oH:bz N w3 nb ⟨false,ai,[],ah⟩ ka va ga kc vc ac:=bi.move gV fT k3.size (λ g h1 h2=>k3.block g (.inr ⟨h1,h2⟩));have hNs:N<=w3.heap.size:=Nat.le_of_lt (Nat.lt_of_le_of_lt oH.ge oH.box.lt);have b1:=oH.box.c1;have b3:=oH.box.c3;have hle:=hki.le;have hm0:(more==0)=false:=beq_eq_false_iff_ne.2 hmz;have abj:((more:Int)==0)=false:=beq_eq_false_iff_ne.2 (by omega);have hR:=λ wc=>xx5 (wc:=wc) h hk hy hki hc hps hmz MM ok hN oH gV fT ht3.pz hkk kE;have HRR:=zH hR;clear hR hmz
 have HI1:=zH (λ (wa:World) (vb:Nat) (ba:Below w3 w3 wa) (hv:aI wa vb #[.int .u64 (κ.toNat:Int)]) (hvb:w3.heap.size<=vb)=>(show Calls Tryz.prog 61 #[.slice ka ai.length kc,.int .i64 i,.slice vb 1 1] wa λ e w'=>∃g c,e= .returned (.slice (some ⟨g,0,none⟩) (ai.length+1) c)/\fQ N w3 w' nb {leaf:=false,ai:=ai,vals:=[],ah:=ah} ka va ga kc vc ac (ai.take i++κ::ai.drop i) g c/\(∀DR cs,w3.heap.size<=DR->aI wa DR cs->aI w' DR cs)/\aI w' nb #[.bool false,.slice ka ai.length kc,.slice va 0 vc,.slice ga ah.length ac]from
  (OL (oH.next ba).k (show ai.length<=1000 by omega) hki.le κ hv (λ e=>by have:=oH.k.lt e;omega)).mono (λ e w' ⟨g',c',he,r,o,hg⟩=>
   ⟨g',c',by rw[he];simp only[zl,zt,dw,zd];rw[show min i ai.length+(ai.length-i+1)=ai.length+1 by have:=hki.le;omega],oH.yK hNs ba r o hg,λ DR cs hv' hb=>hb.only o (λ e=>by
    rcases hg with h1|h1
    ·have:=oH.k.lt h1;omega
    have:=hb.lt;omega),(oH.yK hNs ba r o hg).box⟩)))
 have HI2:=zH (λ (wb:World) (vb:Nat) (mm:∃g c,fQ N w3 wb nb {leaf:=false,ai:=ai,vals:=[],ah:=ah} ka va ga kc vc ac (ai.take i++κ::ai.drop i) g c) (hv:aI wb vb #[.int .i64 (more:Int)]) (hvb:w3.heap.size<=vb)=>(show Calls Tryz.prog 104 #[.slice ga ah.length ac,.int .i64 ((i:Int)+1),.slice vb 1 1] wb λ e w'=>∃g2 c2,e= .returned (.slice (some ⟨g2,0,none⟩) (ah.length+1) c2)/\(Row w' g2 c2 (ints (ah.take (i+1)++more::ah.drop (i+1)))/\Only g2 wb w'/\(aK ga g2\/wb.heap.size<=g2))/\w'.cell? (nb,1)=some (.slice ka ai.length kc)/\w'.cell? (nb,3)=some (.slice ga ah.length ac)/\w'.frozen? ⟨nb,1,none⟩=false/\w'.frozen? ⟨nb,3,none⟩=false from
  let ⟨_,_,m⟩:=mm
  (TH m.a (show ah.length<=1000 by omega) (show i+1<=ah.length by omega) more hv (λ e=>by have:=oH.a.lt e;omega)).mono (λ e w' ⟨g',c',he,r,o,hg⟩=>by
   have hd:=(m.Bo oH r o hg).2.2.1;exact⟨g',c',by rw[he];simp only[zl,zt,dw,zd];rw[show min (i+1) ah.length+(ah.length-(i+1)+1)=ah.length+1 by omega],⟨r,o,hg⟩,hd.cell 1 _ rfl,hd.cell 3 _ rfl,hd.free 1,hd.free 3⟩)))
 have hb2:aI w3 nb #[.bool false,.slice ka ai.length kc,.slice va 0 vc,.slice ga ah.length ac]:=oH.box;have dC:∀w:World,aI w nb #[.bool false,.slice ka ai.length kc,.slice va 0 vc,.slice ga ah.length ac]->w.cell? (nb,1)=some (.slice ka ai.length kc)/\w.cell? (nb,3)=some (.slice ga ah.length ac):=λ w hb=>⟨hb.cell 1 _ rfl,hb.cell 3 _ rfl⟩
 have HP:=zH (λ (wb w':World) (g c g2 c2:Nat) (m:fQ N w3 wb nb {leaf:=false,ai:=ai,vals:=[],ah:=ah} ka va ga kc vc ac (ai.take i++κ::ai.drop i) g c) (l2:Row w' g2 c2 (ints (ah.take (i+1)++more::ah.drop (i+1)))/\Only g2 wb w'/\(aK ga g2\/wb.heap.size<=g2))=>(show ve N w3 ((w'.setCell (nb,1) (.slice g (ai.length+1) c)).setCell (nb,3) (.slice g2 (ah.length+1) c2)) nb ka va ga (ai.take i++κ::ai.drop i) (ah.take (i+1)++more::ah.drop (i+1))from
  ZM oH m l2.1 l2.2.1 l2.2.2 (by simp;omega) (by simp;omega)))
 have HX:=zH (zA oH (zA hki hle));clear hlk oH bi fT p1 k1 hki wF HT HK hps ht3 k3 hkk kE h hp hy HO H1 ok MM hc hcc b0
 go_upto_region 16 with(fail)
 go_cut [] (λ wx=>ve N w3 wx nb ka va ga (ai.take i++κ::ai.drop i) (ah.take (i+1)++more::ah.drop (i+1)))
 case first=>
  refine wp_region_any (by kernel_rfl) ?_;refine zT 0 ?_;refine zT 1 ?_;refine zT 2 ?_;refine zT 3 ?_;refine zT 4 ?_;refine zT 6 ?_;refine zT 7 ?_;refine zT 10 ?_;refine zT 11 ?_;refine zT 12 ?_;refine zT 14 ?_;refine zT 15 ?_;refine zT 16 ?_;refine zV (w:=w3.drew) (λ w'=>w'.cell? (nb,1)=some (.slice ka ai.length kc)/\w'.cell? (nb,3)=some (.slice ga ah.length ac)) 19 (by exact ⟨b1,b3⟩) λ hS0=>?_;refine zU 5 hS0 ?_;refine zU 13 hS0 ?_;clear hS0;refine ru (i:=8) (j:=17) (by kernel_rfl) rfl rfl (λ K hK=>?_) (λ K hK=>?_)
  ·go_simp;refine hK.out _ _ (λ _=>?_) ?_
   ·exact dC _ (by (repeat (first|assumption|with_reducible apply dQ|with_reducible apply dS)))
   clear hK K;refine ru (i:=9) (j:=17) (by kernel_rfl) rfl rfl (λ K hK=>?_) (λ K hK=>?_)
   ·go_simp;refine(HI1.out _ _ ?_ ?_ ?_).mono ?_
    ·(repeat (first|with_reducible exact aP _ _|with_reducible apply gW|with_reducible apply gQ))
    ·(repeat (first|(focus ((with_reducible refine mG ?_);simp;done))|with_reducible apply dQ|with_reducible apply dS))
    ·(first|exact aZ _|simp)
    rintro e w4 ⟨g,c,rfl,m1,mb,hb3⟩
    (try dsimp only)
    refine hK.out _ _ (λ _=>?_) ?_
    ·exact dC _ (by (repeat (first|assumption|with_reducible apply dQ|with_reducible apply dS)))
    clear hK K;refine zL 17 λ K hK=>?_;go_simp;refine hK.out _ _ (λ _=>?_) ?_
    ·exact dC _ (by (repeat (first|assumption|with_reducible apply dQ|with_reducible apply dS)))
    clear hK K;refine zL 18 λ K hK=>?_;go_simp;refine(HI2.out _ _ ?_ ?_ ?_).mono ?_
    ·exact⟨_,_,fQ.next m1 (by repeat (first|with_reducible exact aP _ _|with_reducible apply gW|with_reducible apply gQ))⟩
    ·(repeat (first|(focus ((with_reducible refine mG ?_);simp;done))|with_reducible apply dQ|with_reducible apply dS|(refine mb _ _ ?_ ?_;focus (simp;done))))
    ·(first|(focus (simp;done))|(focus (refine bf m1.kept.size ?_;simp;done)))
    rintro e w5 ⟨g2,c2,rfl,l2,s1,s2,q1,q2⟩
    (try dsimp only)
    refine zK hK ?_ (λ _=>⟨s1,s2⟩);refine zM 19 ?_;refine zM 20 ?_;refine zM 21 ?_;refine zM 22 ?_;refine zM 23 ?_;refine zM 24 ?_;refine iR (by kernel_rfl) ?_ _
    go_wp2_with fail
    go_meet
    case rel=>exact HP.out _ _ _ _ _ _ (fQ.next m1 (by repeat (first|with_reducible exact aP _ _|with_reducible apply gW|with_reducible apply gQ))) l2
   go_simp;refine hK.out _ _ (λ _=>?_) ?_
   ·exact dC _ (by (repeat (first|assumption|with_reducible apply dQ|with_reducible apply dS)))
   clear hK K;refine zL 9 λ K hK=>?_;go_simp;refine(HI1.out _ _ ?_ ?_ ?_).mono ?_
   ·(repeat (first|with_reducible exact aP _ _|with_reducible apply gW|with_reducible apply gQ))
   ·(repeat (first|(focus ((with_reducible refine mG ?_);simp;done))|with_reducible apply dQ|with_reducible apply dS))
   ·(first|exact aZ _|simp)
   rintro e w4 ⟨g,c,rfl,m1,mb,hb3⟩
   (try dsimp only)
   refine hK.out _ _ (λ _=>?_) ?_
   ·exact dC _ (by (repeat (first|assumption|with_reducible apply dQ|with_reducible apply dS)))
   clear hK K;refine zL 18 λ K hK=>?_;go_simp;refine(HI2.out _ _ ?_ ?_ ?_).mono ?_
   ·exact⟨_,_,fQ.next m1 (by repeat (first|with_reducible exact aP _ _|with_reducible apply gW|with_reducible apply gQ))⟩
   ·(repeat (first|(focus ((with_reducible refine mG ?_);simp;done))|with_reducible apply dQ|with_reducible apply dS|(refine mb _ _ ?_ ?_;focus (simp;done))))
   ·(first|(focus (simp;done))|(focus (refine bf m1.kept.size ?_;simp;done)))
   rintro e w5 ⟨g2,c2,rfl,l2,s1,s2,q1,q2⟩
   (try dsimp only)
   refine zK hK ?_ (λ _=>⟨s1,s2⟩);refine zM 19 ?_;refine zM 20 ?_;refine zM 21 ?_;refine zM 22 ?_;refine zM 23 ?_;refine zM 24 ?_;refine iR (by kernel_rfl) ?_ _
   go_wp2_with fail
   go_meet
   case rel=>exact HP.out _ _ _ _ _ _ (fQ.next m1 (by repeat (first|with_reducible exact aP _ _|with_reducible apply gW|with_reducible apply gQ))) l2
  go_simp;refine hK.out _ _ (λ _=>?_) ?_
  ·exact dC _ (by (repeat (first|assumption|with_reducible apply dQ|with_reducible apply dS)))
  clear hK K;refine zL 8 λ K hK=>?_;go_simp;refine hK.out _ _ (λ _=>?_) ?_
  ·exact dC _ (by (repeat (first|assumption|with_reducible apply dQ|with_reducible apply dS)))
  clear hK K;refine zL 9 λ K hK=>?_;go_simp;refine(HI1.out _ _ ?_ ?_ ?_).mono ?_
  ·(repeat (first|with_reducible exact aP _ _|with_reducible apply gW|with_reducible apply gQ))
  ·(repeat (first|(focus ((with_reducible refine mG ?_);simp;done))|with_reducible apply dQ|with_reducible apply dS))
  ·(first|exact aZ _|simp)
  rintro e w4 ⟨g,c,rfl,m1,mb,hb3⟩
  (try dsimp only)
  refine hK.out _ _ (λ _=>?_) ?_
  ·exact dC _ (by (repeat (first|assumption|with_reducible apply dQ|with_reducible apply dS)))
  clear hK K;refine zL 18 λ K hK=>?_;go_simp;refine(HI2.out _ _ ?_ ?_ ?_).mono ?_
  ·exact⟨_,_,fQ.next m1 (by repeat (first|with_reducible exact aP _ _|with_reducible apply gW|with_reducible apply gQ))⟩
  ·(repeat (first|(focus ((with_reducible refine mG ?_);simp;done))|with_reducible apply dQ|with_reducible apply dS|(refine mb _ _ ?_ ?_;focus (simp;done))))
  ·(first|(focus (simp;done))|(focus (refine bf m1.kept.size ?_;simp;done)))
  rintro e w5 ⟨g2,c2,rfl,l2,s1,s2,q1,q2⟩
  (try dsimp only)
  refine zK hK ?_ (λ _=>⟨s1,s2⟩);refine zM 19 ?_;refine zM 20 ?_;refine zM 21 ?_;refine zM 22 ?_;refine zM 23 ?_;refine zM 24 ?_;refine iR (by kernel_rfl) ?_ _
  go_wp2_with fail
  go_meet
  case rel=>exact HP.out _ _ _ _ _ _ (fQ.next m1 (by repeat (first|with_reducible exact aP _ _|with_reducible apply gW|with_reducible apply gQ))) l2
 obtain⟨hF,hS,hO⟩:=HRR.out _ hcut;have HF:=zH hF;have UZ:=zH hS;have Va:=zH hO;clear hcut HRR hF hS hO HX HP HI1 HI2 HH hle dC hb2 b1 b3 hNs;by_cases hf:qK ⟨false,ai.take i++κ::ai.drop i,[],ah.take (i+1)++more::ah.drop (i+1)⟩=true
 ·have HG:=zH (UZ.out hf);rw[hf]at HF;clear UZ Va hf
  go_wp2_with fail
  refine HF.out.mono ?_;rintro e w5 ⟨rfl,rfl⟩
  go_wp2_with fail
  refine HG.out.mono ?_;rintro e w6 ⟨mb,UY,rfl,pR⟩;replace pR:=zH pR
  go_wp2_with fail
  refine pR.out.mono ?_;rintro e w7 ⟨rfl,hfr⟩;replace hfr:=zH hfr
  go_wp2_with fail
  refine hfr.out.mono ?_;rintro e w8 ⟨rZ,er,rfl,hr⟩;have HQ:=zH hr;clear hr;go_wp2
  go_ret3
  exact HQ.out
 have Hy:qK ⟨false,ai.take i++κ::ai.drop i,[],ah.take (i+1)++more::ah.drop (i+1)⟩=false:=by simpa using hf
 have HG:=zH (Va.out Hy);rw[Hy]at HF;clear UZ Va hf Hy
 go_wp2_with fail
 refine HF.out.mono ?_;rintro e w5 ⟨rfl,rfl⟩
 go_wp2_with fail
 refine HG.out.mono ?_;rintro e w6 ⟨rfl,hr⟩;have HQ:=zH hr;clear hr;go_wp2
 go_ret3
 exact HQ.out
end
end Go.Proofs.YtlipgbnnbefhjaaGreatDoor
