/- Facts on rows of numbers on pages. -/
import Derived.Test.YtlipgbnnbefhjaaGreatDoorKTrOc
set_option maxRecDepth 100000
set_option maxHeartbeats 8000000
set_option linter.unusedSimpArgs false
namespace Go.Proofs.YtlipgbnnbefhjaaGreatDoor
open Go.RowKit
open UK (str aO nth Only Row aI)
theorem Ya{P D T rt:Nat}(key v:UInt64):∀(d:Nat) {E:Nat->Prop} {W:World} {A:AP} {k:Nat} (s:Sb) (deep:Nat),bL E W P D T rt A k->k+8*d+8<900000000->Tr (aH A) d s->s.ps.Nodup->(∀p∈s.ps,A.Has p)->A.Good->(∀p,A.Has p->(A.c p).length=504)->deep+d<=20 ->
  Calls Tryz.prog 95 #[.pointer T,.int .i64 s.pg,.int .u64 key.toNat,.int .u64 v.toNat,.int .i64 deep] W λ e w'=>qL E W w' P D T rt A (k+8*d+8) s.pg d key v e
 | 0,E,W,A,k,s,deep,h,hk,hT,hnd,hh,hg,hc,hd=>by
  obtain⟨ks,vs,h1,h2,h3,h4,h5⟩:=hT;have hp:=hh s.pg (by rw[h5];simp);have hl:=(mE h1).leaf rfl;by_cases hm:key∈ks
  ·exact xvd h (by omega) hp h1 h3 h2 hl.1 key v hm deep (by omega)
  exact xx4 h (by omega) hp h1 h3 key v hm deep (by omega)
 | d+1,E,W,A,k,s,deep,h,hk,hT,hnd,hh,hg,hc,hd=>by
  have hT':=id hT;obtain⟨ai,ae,h1,h2,h3,h4⟩:=hT;have hf:=(mE h1).inner rfl;dsimp only at hf;obtain⟨i,hki⟩:=Pv ai h2.up key;have aJ:=h2.len;have hle:=hki.le;obtain⟨t,ht⟩:∃t,ae[i]?=some t:=⟨_,di (by omega)⟩;have hcc:(ae.map Sb.pg)[i]?=some t.pg:=by rw[dW,ht];rfl
  obtain⟨gz,t',hK,hpt,hmap,ng,qb⟩:=hT'.kid h1 hcc;have e:k+8*(d+1)+8=k+(8*d+8)+8:=by omega
  rw[e];refine xvg (K0:=8*d+8) h (by omega) (hh _ hT'.mem) h1 h2.up (by omega) hf.1 key v deep (by omega) hki hcc (λ E1 w1 g1=>?_) (λ B more κ er hps=>yai hT' hnd hh hg hc h1 hcc hki hps);have hrec:=Ya key v d (E:=E1) (W:=w1) t' (deep+1) g1 (by omega) ng (hK.tn hnd) (λ p hp=>hh p (hK.sub p hp)) hg hc (by omega);rw[hpt]at hrec;rw[show k+2+(8*d+8)=k+2+8*d+8 by omega];exact hrec
end Go.Proofs.YtlipgbnnbefhjaaGreatDoor
