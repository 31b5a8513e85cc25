/- Facts on rows of numbers on pages. -/
import Derived.Test.YtlipgbnnbefhjaaGreatDoorKSqDc
set_option maxRecDepth 100000
set_option maxHeartbeats 8000000
set_option linter.unusedSimpArgs false
namespace Go.Proofs.YtlipgbnnbefhjaaGreatDoor
open Go.RowKit
open UK (str aO nth Only Row aI)
theorem xw6{l:List (Nat×Nat)}{j:Nat}{k c:Nat}(h:l[j]?=some (k,c)):qm (l.take (j+1))=(qm (l.take j)++b32 k)++b32 c:=by
 unfold qm;rw[ow,h];simp
theorem RQ{S:Nat->Prop}{W:World}{nb db cap:Nat}{y:List UInt8}{x:Sn}(h:gK S W nb x)(hx:bA x)(hy:aO W db y)(hyl:y.length=cap)(hc:504<=cap)(hS:¬S db) :
  Calls Tryz.prog 56 #[.slice db 504 cap,.pointer nb] W λ e w'=>e= .returned (.tuple #[])/\aO w' db (encS y x)/\Only db W w':=by
 have hsz:x.size=if x.leaf then x.aA.length else x.ah.length:=by
  unfold Sn.size
  cases hl:x.leaf with
  | true=>rw[(hx.leaf hl).2.1];simp
  | false=>rw[(hx.inner hl).2.2.1];simp
 have aah:x.size<=48:=by
  rw[hsz]
  cases hl:x.leaf with
  | true=>have:=(hx.leaf hl).1;simpa using this
  | false=>have:=(hx.inner hl).1;simp;omega
 have HZ:=zH (tX h hx.ok);obtain⟨iv,kv,cv,hb,hnb,⟨ia,ic,rfl,hic,hii⟩,⟨ka,kc,rfl,hkc,hkk⟩,⟨ca,cc,rfl,hcc,hcl⟩⟩:=h;rw[cz,dx,dx]at hb;rw[cz]at hic;rw[dx]at hkc hcc;have hne:nb≠db:=λ e=>hS (e▸hnb);have hup:=hx.up;have HB:=zH hb;have HX:=zH (zA hx hsz);have HY:=zH hy;have RS:(y.set 1 (UInt8.ofNat x.size)).length=cap:=by rw[bB];exact hyl
 clear hb hy hx hsz
 go_enter Tryz.func56,Tryz.ntmps56
 go_upto_region 0 with(fail)
 go_cut [] (λ wx=>aO wx db (y.set 1 (UInt8.ofNat x.size))/\Only db W wx)
 case first=>
  go_wp2_with fail
  refine HZ.out.mono ?_;rintro e w1 ⟨rfl,m,rfl⟩;have hy:=HY.out.below (UK.aG (aP _ _) m) HY.out.lt;have d1:=hy.cell (i:=1) (by omega);have f1:=hy.free (i:=1) (by omega);have he:((UInt8.ofNat x.size).toNat:Int)=(x.size:Int):=by rw[UInt8.toNat_ofNat'];omega
  have hw:IntKind.u8.wrap ((x.size:Nat):Int)=((x.size:Nat):Int):=by rw[IntKind.wrap_u8];omega
  have h2:=hy.set 1 (UInt8.ofNat x.size);have o2:=(Only.of_below (a:=W) (B:=db) (UK.aG (aP _ _) m)).trans ((Only.refl db (W.drewN m)).set 1 (.int .u8 ((UInt8.ofNat x.size).toNat:Int)));rw[he]at h2 o2;have H2:=zH (zA h2 o2);clear h2 o2 he HZ hy
  go_wp2_with fail
  go_meet
  case rel=>exact H2.out
 case rest=>
 obtain⟨hb1,ho1⟩:=hcut;have hbx:=HB.out.only ho1 hne;have c1:=hbx.c1;have P1:=sD hb1.drew 4 500 (cap-4) (by omega) (by omega) (by omega) (UInt32.ofNat x.up);have EH:((UInt32.ofNat x.up).toNat:Int)=(x.up:Int):=by rw[sP];omega
 rw[EH]at P1;have HP:=zH P1;have HO:=zH (ho1.trans ((Only.refl db wc).drew));have hk0:(0:Int)<=(x.up:Int):=by omega
 have hk1:(x.up:Int)<4294967296:=by omega
 have hw32:IntKind.u32.wrap (x.up:Int)=(x.up:Int):=by rw[IntKind.wrap_u32];omega
 have i3:¬(cap=4):=by omega
 clear P1 hb1 ho1 hbx HZ EH
 go_wp2_with fail
 go_region_with (first|(go_at_call 58;refine HP.out.mono ?_;rintro e w2 ⟨rfl,b2,o2⟩;replace b2:=zH b2;replace o2:=zH (HO.out.trans o2)))
 all_goals
  have ho2:=o2.out;have hb2:=b2.out;have hwl:(UK.wr (y.set 1 (UInt8.ofNat x.size)) 4 (aW (UInt32.ofNat x.up))).length=cap:=by rw[UK.lm _ _ _ (by show 4+4<=_;omega)];exact RS
  have hbx:=HB.out.only ho2 hne;have d0:=hb2.cell (i:=0) (by omega);have f0:=hb2.free (i:=0) (by omega);have e0:=hbx.c0;obtain⟨hx,hsz⟩:=HX.out
  cases hl:x.leaf with
  | true=>
   obtain⟨aai,_,_⟩:=hx.leaf hl;rw[hl]at hsz e0;have hsz':x.size=x.aA.length:=hsz;have h3:=hb2.set 0 1;have o3:=ho2.trans ((Only.refl db w2).set 0 (.int .u8 ((1:UInt8).toNat:Int)));rw[show((1:UInt8).toNat:Int)=1 from rfl]at h3 o3;have hb3:=HB.out.only o3 hne;have e2:=hb3.c2;have hhead:((UK.wr (y.set 1 (UInt8.ofNat x.size)) 4 (aW (UInt32.ofNat x.up))).set 0 1)=ku y x.aA.length x.up 1:=by rw[hsz'];rfl
   have zO:(ku y x.aA.length x.up 1).length=cap:=by rw[yU _ _ _ _ (by omega)];exact hyl
   rw[hhead]at h3;have H3:=zH (zA h3 o3);clear h3 o3 hb3 hhead hsz hsz' hb2 ho2 hbx b2 o2 hwl HP HO c1 hcl hkk
   go_wp2_with fail
   obtain⟨h3,o3⟩:=H3.out;clear H3 e2 d0 f0 e0
   go_loopw [32] (λ ix wr=>∃j:Nat,ix= .int .i64 j/\j<=x.aA.length/\aO wr db (UK.wr (ku y x.aA.length x.up 1) 8 (iJ (x.aA.take j)))/\Only db W wr) (λ ix _=>50-(intOf ix).toNat)
   case atStart=>exact⟨0,rfl,bY _,by rw[jH];show aO _ _ (UK.wr _ 8 []);rw[UK.I5];exact h3,o3⟩
   clear h3 o3;obtain⟨j,rfl,hj,hb,ho⟩:=hrel;by_cases hlt:j<x.aA.length
   ·obtain⟨kx,hkx⟩:∃k,x.aA[j]?=some k:=⟨_,di hlt⟩;obtain⟨g,o,rfl,hg,ck⟩:=hii j _ (qx _ _ _ hkx);have hgd:g≠db:=λ e=>hS (e▸hg);replace ck:=ho.cell ck hgd;have hlb:(iJ (x.aA.take j)).length=8*j:=by rw[Gp,zt];omega
    have hw1:(UK.wr (ku y x.aA.length x.up 1) 8 (iJ (x.aA.take j))).length=cap:=by rw[UK.lm _ _ _ (by omega)];exact zO
    have ha1:=UK.BG (ku y x.aA.length x.up 1) 8 (iJ (x.aA.take j)) (b64 kx) (by omega);rw[hlb,<-XT hkx]at ha1;have P1:=Oy hb (8+8*j) (504-(8+8*j)) (cap-(8+8*j)) (by omega) (by omega) (by omega) (by omega) kx;rw[show aW (UK.kW kx)++aW (UK.lQ kx)=b64 kx from rfl,ha1]at P1;have sI:=zH P1;have HO:=zH ho;have i4:¬(cap=8+8*j):=by omega
    clear P1 ha1 hw1 hlb hii hkx hb ho zO
    go_wp2_with fail
    refine sI.out.mono ?_;rintro e w1 ⟨rfl,b1,o1⟩;have HF:=zH (zA b1 (HO.out.trans o1));clear sI HO b1 o1 ck;go_wp2;go_roundw
    case rel=>exact⟨j+1,by go_num,by omega,HF.out.1,HF.out.2⟩
    case measure=>simp[intOf];omega
   obtain rfl:j=x.aA.length:=by omega
   rw[mi]at hb;go_wp2;refine bodyPost_ret (results_none rfl _ _ _) rfl ?_;refine⟨rfl,?_,ho⟩;unfold encS;rw[hl,if_pos rfl];exact hb
  | false=>
   obtain⟨aaj,qy,_,hkb,hcb⟩:=hx.inner hl;rw[hl]at hsz e0;have hsz':x.size=x.ah.length:=hsz;have h3:=hb2.set 0 2;have o3:=ho2.trans ((Only.refl db w2).set 0 (.int .u8 ((2:UInt8).toNat:Int)));rw[show((2:UInt8).toNat:Int)=2 from rfl]at h3 o3;have hb3:=HB.out.only o3 hne;have e2:=hb3.c3;have hhead:((UK.wr (y.set 1 (UInt8.ofNat x.size)) 4 (aW (UInt32.ofNat x.up))).set 0 2)=ku y x.ah.length x.up 2:=by rw[hsz'];rfl
   have zO:(ku y x.ah.length x.up 2).length=cap:=by rw[yU _ _ _ _ (by omega)];exact hyl
   rw[hhead]at h3;have H3:=zH (zA h3 o3);have hzl:(x.ah.zip x.au).length=x.ah.length:=by rw[List.length_zip];omega
   have XU:=zH (zA hzl (zA qy (zA hkb hcb)));clear h3 o3 hb3 hhead hsz hsz' hb2 ho2 hbx b2 o2 hwl HP HO c1 hii hzl qy hkb hcb
   go_wp2_with fail
   obtain⟨h3,o3⟩:=H3.out;clear H3 e2 d0 f0 e0
   go_loopw [52] (λ ix wr=>∃j:Nat,ix= .int .i64 j/\j<=x.ah.length/\aO wr db (UK.wr (ku y x.ah.length x.up 2) 8 (qm ((x.ah.zip x.au).take j)))/\Only db W wr) (λ ix _=>50-(intOf ix).toNat)
   case atStart=>exact⟨0,rfl,bY _,by rw[jH];show aO _ _ (UK.wr _ 8 []);rw[UK.I5];exact h3,o3⟩
   clear h3 o3;obtain⟨j,rfl,hj,hb,ho⟩:=hrel;by_cases hlt:j<x.ah.length
   ·obtain⟨hzl,qy,hkb,hcb⟩:=XU.out;obtain⟨kx,hkx⟩:∃k,x.ah[j]?=some k:=⟨_,di hlt⟩;obtain⟨cx,hcx⟩:∃k,x.au[j]?=some k:=⟨_,di (by omega)⟩;obtain⟨g,o,rfl,hg,ck⟩:=hkk j _ (qw _ _ _ hkx);obtain⟨g2,o2,rfl,hg2,ck2⟩:=hcl j _ (qw _ _ _ hcx);have hgd:g≠db:=λ e=>hS (e▸hg);have hgd2:g2≠db:=λ e=>hS (e▸hg2);replace ck:=ho.cell ck hgd;have hzx:(x.ah.zip x.au)[j]?=some (kx,cx):=by rw[List.getElem?_zip_eq_some];exact⟨hkx,hcx⟩
    have hlb:(qm ((x.ah.zip x.au).take j)).length=8*j:=by rw[RF,zt];omega
    have hw1:(UK.wr (ku y x.ah.length x.up 2) 8 (qm ((x.ah.zip x.au).take j))).length=cap:=by rw[UK.lm _ _ _ (by omega)];exact zO
    have ha1:=UK.BG (ku y x.ah.length x.up 2) 8 (qm ((x.ah.zip x.au).take j)) (b32 kx) (by omega);rw[hlb]at ha1;have ha2:=UK.BG (ku y x.ah.length x.up 2) 8 (qm ((x.ah.zip x.au).take j)++b32 kx) (b32 cx) (by omega);rw[zl,hlb,show(b32 kx).length=4 from rfl,<-xw6 hzx,show 8+(8*j+4)=12+8*j by omega]at ha2;have hw2:(UK.wr (ku y x.ah.length x.up 2) 8 (qm ((x.ah.zip x.au).take j)++b32 kx)).length=cap:=by rw[UK.lm _ _ _ (by rw[zl,hlb];show 8+(8*j+4)<=_;omega)];exact zO
    have FQ:kx<4294967296:=hkb kx (fe hkx);have hc32:cx<4294967296:=hcb cx (fe hcx);have P1:=sD hb (8+8*j) (504-(8+8*j)) (cap-(8+8*j)) (by omega) (by omega) (by omega) (UInt32.ofNat kx);have EH:((UInt32.ofNat kx).toNat:Int)=(kx:Int):=by rw[sP];omega
    rw[show aW (UInt32.ofNat kx)=b32 kx from rfl,ha1,EH]at P1;have P2:=λ (w1:World) (b1:aO w1 db (UK.wr (ku y x.ah.length x.up 2) 8 (qm ((x.ah.zip x.au).take j)++b32 kx)))=>sD b1.drew (12+8*j) (504-(12+8*j)) (cap-(12+8*j)) (by omega) (by omega) (by omega) (UInt32.ofNat cx);have XV:((UInt32.ofNat cx).toNat:Int)=(cx:Int):=by rw[sP];omega
    rw[show aW (UInt32.ofNat cx)=b32 cx from rfl,ha2,XV]at P2;have sI:=zH P1;have KW:=zH P2;have HO:=zH ho;have k0:(0:Int)<=(kx:Int):=by omega
    have k1:(kx:Int)<4294967296:=by omega
    have k2:(0:Int)<=(cx:Int):=by omega
    have k3:(cx:Int)<4294967296:=by omega
    have kw:IntKind.u32.wrap (kx:Int)=(kx:Int):=by rw[IntKind.wrap_u32];omega
    have kw2:IntKind.u32.wrap (cx:Int)=(cx:Int):=by rw[IntKind.wrap_u32];omega
    have i4:¬(cap=8+8*j):=by omega
    have i5:¬(cap=12+8*j):=by omega
    have i6:j<x.au.length:=by omega
    have RU:=zH (zA ck2 hgd2);clear P1 P2 ha1 ha2 hw1 hw2 hlb hkk hkx hcl hcx hb ho EH XV hzx hzl qy hkb hcb zO ck2 hgd2
    go_wp2_with fail
    refine sI.out.mono ?_;rintro e w1 ⟨rfl,b1,o1⟩;have Oz:=HO.out.trans o1;have HQ:=zH (KW.out w1 b1);have c41:=(HB.out.only Oz hne).c4;have XW:=Oz.cell RU.out.1 RU.out.2;have KY:=zH (Oz.trans ((Only.refl db w1).drew));clear sI KW b1 o1 ck Oz RU HO;have n1:IntKind.i64.wrap (8*(j:Int))=8*(j:Int):=by rw[bN];omega
    have n2:IntKind.i64.wrap (12+8*(j:Int))=12+8*(j:Int):=by rw[bN];omega
    have q2:(12:Int)+8*j<=504:=by omega
    have q4:(12+8*(j:Int)).toNat=12+8*j:=by omega
    have q5:(0:Int)<=12+8*(j:Int):=by omega
    go_wp2_with fail
    go_region_with (first|(go_at_call 58;refine HQ.out.mono ?_;rintro e w2 ⟨rfl,b2,o2⟩;replace b2:=zH b2;replace o2:=zH (KY.out.trans o2)))
    all_goals
     clear HQ KY c41 XW;go_wp2;go_roundw
     case rel=>exact⟨j+1,by go_num,by omega,b2.out,o2.out⟩
     case measure=>simp[intOf];omega
   obtain rfl:j=x.ah.length:=by omega
   rw[eZ (by rw[XU.out.1];exact aZ _)]at hb;go_wp2;refine bodyPost_end (results_none rfl _ _ _) rfl ?_;refine⟨rfl,?_,ho⟩;unfold encS;rw[hl,if_neg (by decide)];exact hb
end Go.Proofs.YtlipgbnnbefhjaaGreatDoor
