/- Facts on texts and trees on pages. -/
import Derived.Test.YtgpmiliahonaoaaGreatDoorKDqKc
set_option maxRecDepth 100000
set_option maxHeartbeats 8000000
set_option linter.unusedSimpArgs false
namespace Go.Proofs.YtgpmiliahonaoaaGreatDoor
open Go.RowKit Go.BigFrame
open UK (str aF nth Only Row ay)
open DP (Rc dF bf lg dU fC TH bO)
section
variable{E:Nat->Prop}{W W' w1 w4:World}{P D Dp T H k k1 rt r1 r2 root pg n K N c:Nat}{A B:AP}{ex dw ps2 rp:List Nat}{Ec:Nat->List UInt8}{l1 l2:List KV}{L:Nat->List (List UInt8)}{X:List HT}{F G:Nat->List UInt8}{b cell:UInt64}{ao ro:Option Addr}{rc:Nat}{rl:List Rc}{es:List EM}{L0:List dF}
theorem qQ.up{J:Nat}{s:List UInt8}{e:Ending}(h:qQ E W W' P D J A ex dw Ec r1 r2 root l2 ps2 X F G b s e)(hk:J<=K):qQ E W W' P D K A ex dw Ec r1 r2 root l2 ps2 X F G b s e:=
 h.imp (λ h=>⟨h.1,h.2.up hk⟩) (λ h=>⟨h.1,h.2.up hk⟩)
theorem qQ.err{s:List UInt8}{e:Ending}(h:qQ E W W' P D K A ex dw Ec r1 r2 root l2 ps2 X F G b s e):∃er:Int,e= .returned (.int .i64 er)/\qQ E W W' P D K A ex dw Ec r1 r2 root l2 ps2 X F G b s (.returned (.int .i64 er)):=by
 rcases h with⟨rfl,h⟩|⟨rfl,h⟩
 ·exact⟨0,rfl,.inl ⟨rfl,h⟩⟩
 exact⟨6,rfl,.inr ⟨rfl,h⟩⟩
theorem EX.E9(h:EX N W ao c es)(hi:n<es.length):∃g,ao=some ⟨g,0,none⟩/\Row W g (2*c) (fl es):=by
 rcases h.row with⟨_,h0,_⟩|⟨g,e,r⟩
 ·rw[h0]at hi;cases hi
 exact⟨g,e,r⟩
theorem xwu(h:LZ E W P D Dp T H k A r1 root)(hd:W.cell? (Dp,3)=some (.pointer T))(m:DM A ex Ec r1 r2 root l1 l2 dw ps2 pg rp L X)(th:TH l1 l2 (qO X) F G)(b cell:UInt64)(hF:F b.toNat=fC L0)(hok:dU L0)(uW:(fC L0).length<=400000)(hr:RX W ro rc rl)(hre:∀j,aK ro j->E j)(hrl:rl.length<=1000)(hok2:dU (bf cell.toNat rl L0))(rY:(fC (bf cell.toNat rl L0)).length<=400000)(hX:X.length<1000000)(hk:k+(2*(fC L0).length+(fC (bf cell.toNat rl L0)).length+2400)<900000000) :
  Calls Tryz.prog 42 #[.pointer Dp,.int .u64 b.toNat,.int .u64 cell.toNat,.slice ro rl.length rc] W λ e w'=>qQ E W w' P D (k+(2*(fC L0).length+(fC (bf cell.toNat rl L0)).length+2400)) A ex dw Ec r1 r2 root l2 ps2 X F G b (fC (bf cell.toNat rl L0)) e:=by
 have xm:=zH (Pt h m th b (by rw[hF];omega));rw[hF]at xm;have IW:=zH (λ w=>U1 w L0 hok (by omega));have H0:=zH (zA h (zA hd (zA m (zA th (zA hF (zA hok (zA hr (zA hre hok2))))))));have HK:=zH (zA uW (zA rY (zA hX hk)));clear h m th hF hok hr hre hok2 uW rY hX hk
 go_enter Tryz.func42,Tryz.ntmps42
 go_wp2_with fail
 refine xm.out.mono ?_;rintro e w1 ⟨n,rfl,hid,p1,k1⟩;have qR:=zH (zA hid (zA p1 k1));clear xm hid p1 k1
 go_wp2_with fail
 refine(IW.out w1).mono ?_;rintro e w2 ⟨ao,c,es,rfl,hes,hE,hb2⟩;obtain⟨h,hd0,m,th,hF,hok,hr,hre,hok2⟩:=H0.out;have vU:Dj es:=Dj.of (by rw[hes];exact hok.up);have il:es.length<=16000:=by have:=hok.few;rw[<-hes,df]at this;exact this
 have EA:=zH (xnm hE vU (by omega) cell);have HL2:=zH (zA hes (zA hE (zA hb2 vU)));clear IW hes hE hb2 vU h hd0 m th hF hok hr hre hok2 hd
 go_wp2_with fail
 refine EA.out.mono ?_;rintro e w3 ⟨i,rfl,hst,hb3⟩;obtain⟨hes,hE,hb2,vU⟩:=HL2.out;obtain⟨hid,p1,k1⟩:=qR.out;obtain⟨h,hd,m,th,hF,hok,hr,hre,hok2⟩:=H0.out;obtain⟨uW,rY,hX,hk⟩:=HK.out;have hil:=hst.le;have jy:Below w1 w1 w3:=hb2.trans (hb3.mono hb2.size);have qL:EX 0 w3 ao c es:=(hE.next hb3).less (aY _);have hrb:∀j,aK ro j->j<w1.heap.size:=λ j hj=>bZ (hr.lt hj) k1.size;have hr3:RX w3 ro rc rl:=hr.ae (aP k1.size jy.size) (λ j hj=>(jy.block j (hrb j hj)).trans (k1.block j (hre j hj)));have hro:∀j,aK ro j->0<=j/\¬aK ao j:=λ j hj=>⟨aY _,λ h2=>by have:=hE.new j h2;have:=hrb j hj;omega⟩;have h1:=h.of p1 k1;have hd1:w1.cell? (Dp,3)=some (.pointer T):=by rw[<-hd];exact gq (k1.block Dp h.md)
 have HT:Hid (∀(w4:World) (Gs:Option Addr) (c4:Nat) (Mt:List EM),Below w1 w1 w4->EX 0 w4 Gs c4 Mt->Mt.map iI=bf cell.toNat rl L0->w4.drew.cell? (Dp,3)=some (.pointer T)/\Calls Tryz.prog 101 #[.slice Gs Mt.length c4] w4.drew λ e w5=>e= .returned (.string (str (fC (bf cell.toNat rl L0))))/\w5.cell? (Dp,3)=some (.pointer T) /\
   Calls Tryz.prog 43 #[.pointer Dp,.pointer T,.int .u64 b.toNat,.int .u64 (n:Nat),.string (str (fC (bf cell.toNat rl L0)))] w5 λ e w'=>∃er:Int,e= .returned (.int .i64 er)/\qQ E W w' P D (k+(2*(fC L0).length+(fC (bf cell.toNat rl L0)).length+2400)) A ex dw Ec r1 r2 root l2 ps2 X F G b (fC (bf cell.toNat rl L0)) (.returned (.int .i64 er))):=λ w4 Gs c4 Mt hb ni Pp=>by
  obtain⟨a,z⟩:=xwt h1 hd1 m th hid hb ni Pp hok2 rY hX (by rw[hF]at *;omega) k1;refine⟨a,z.mono ?_⟩;rintro e w5 ⟨q1,q2,q3⟩;exact⟨q1,q2,q3.mono λ e w' hq=>(hq.up (by rw[hF];omega)).err⟩
 have hnew:=hE.new;clear h hd m th hF hok hok2 hid p1 k1 hE hb2 hb3 hre hr h1 hd1 uW rY hX hk HK EA;by_cases he:tJ es cell i=true
 ·rw[he];obtain⟨x,hx,hxk⟩:=P7 he;have BA:i<es.length:=(dE.1 hx).1;obtain⟨g,rfl,hrow⟩:=qL.E9 BA;have hg1:w1.heap.size<=g:=hnew g rfl;by_cases h0:rl=[]
  ·subst h0;have IX:=zH (xnq hrow (by omega) BA);have Bl:=zH (zA qL (zA jy (zA hst (zA hes he))));clear qL jy hst hes hrow hro hr3 hrb hnew vU HL2 qR H0 hx hxk he
   go_wp2_with fail
   refine IX.out.mono ?_;rintro e w4 ⟨rfl,r4,o4⟩;obtain⟨qL,jy,hst,hes,he⟩:=Bl.out
   have ni:EX 0 w4 g c (es.take i++es.drop (i+1)):=qL.turn ⟨cell,none,0,[]⟩ (.inl ⟨rfl,rfl,rfl⟩) (λ _ hb=>by cases hb) (λ y hy=>.inl (by
    rcases dD.1 hy with hy|hy
    ·exact iM hy
    exact jf hy)) r4 o4 (.inl rfl) (aY _)
   have HQ:=HT.out w4 _ c _ (jy.trans (o4.below jy.size hg1)) ni (by rw[xwr hst he,hes]);rw[show(es.take i++es.drop (i+1)).length=es.length-1 by rw[zl,zt,zd];omega]at HQ;clear qL jy hst hes he ni r4 o4 HT Bl IX;obtain⟨d3,qU⟩:=HQ;replace qU:=zH qU
   go_wp2_with fail
   go_region_with (first
    | (go_at_call 101;refine qU.out.mono ?_;rintro e w5 ⟨rfl,d5,jA⟩;replace jA:=zH jA)
    | (go_at_call 43;refine jA.out.mono ?_;rintro e w6 ⟨er,rfl,uj⟩;replace uj:=zH uj))
   all_goals
    clear qU jA;go_wp2;go_ret;exact uj.out
  have hne:¬((rl.length:Int)=0):=by
   have:=List.length_pos_iff.2 h0;omega
  obtain⟨d1,f1,ni,o4⟩:=qL.store hx hr3 (λ j hj=>⟨aY _,λ e=>(hro j hj).2 (e▸rfl)⟩);have HQ:=HT.out _ _ c _ (jy.trans (o4.below jy.size hg1)) ni (by rw[xzv hst he hx h0,hes]);rw[aQ]at HQ;have aad:(i:Int)<es.length:=by omega
  clear qL jy hst hes hrow hro hr3 hrb hnew vU HL2 qR H0 hx hxk he ni o4 HT;obtain⟨d3,qU⟩:=HQ;replace qU:=zH qU
  go_wp2_with fail
  go_region_with (first
   | (go_at_call 101;refine qU.out.mono ?_;rintro e w5 ⟨rfl,d5,jA⟩;replace jA:=zH jA)
   | (go_at_call 43;refine jA.out.mono ?_;rintro e w6 ⟨er,rfl,uj⟩;replace uj:=zH uj))
  all_goals
   clear qU jA;go_wp2;go_ret;exact uj.out
 replace he:tJ es cell i=false:=by
  cases hq:tJ es cell i
  ·rfl
  exact absurd hq he
 rw[he];by_cases h0:rl=[]
 ·subst h0;have HQ:=HT.out w3 _ c _ jy qL (by rw[xws hst vU he,hes]);clear qL jy hst hes hro hr3 hrb hnew vU HL2 qR H0 he HT;obtain⟨d3,qU⟩:=HQ;replace qU:=zH qU
  go_wp2_with fail
  go_region_with (first
   | (go_at_call 101;refine qU.out.mono ?_;rintro e w5 ⟨rfl,d5,jA⟩;replace jA:=zH jA)
   | (go_at_call 43;refine jA.out.mono ?_;rintro e w6 ⟨er,rfl,uj⟩;replace uj:=zH uj))
  all_goals
   clear qU jA;go_wp2;go_ret;exact uj.out
 have hne:¬((rl.length:Int)=0):=by
  have:=List.length_pos_iff.2 h0;omega
 have hpos:(0:Int)<rl.length:=by
  have:=List.length_pos_iff.2 h0;omega
 have hv:=ay.new w3 (jw ⟨cell,ro,rc,rl⟩).toArray 104;have ig:Below w3 w3 (w3.alloc (.cells (jw ⟨cell,ro,rc,rl⟩).toArray 104)):=(aV _ _).alloc (aO _) _;have vV:=qL.next ig;have hs3:(w3.alloc (.cells (jw ⟨cell,ro,rc,rl⟩).toArray 104)).heap.size=w3.heap.size+1:=by simp
 have IY:=zH (xnt vV.row (by omega) hil ⟨cell,ro,rc,rl⟩ hv (λ hq=>by have:=qL.row.lt hq;omega));have Bl:=zH (zA vV (zA jy (zA hst (zA hes (zA he (zA hr3 (zA hro (zA vU (zA ig (zA hs3 hnew))))))))));clear qL vV jy hst hes hro hr3 hrb vU hnew HL2 qR H0 he hv ig hs3
 go_wp2_with fail
 refine IY.out.mono ?_;rintro e w4 ⟨g4,c4,rfl,r4,o4,hg4⟩;obtain⟨vV,jy,hst,hes,he,hr3,hro,vU,ig,hs3,hnew⟩:=Bl.out
 have ni:EX 0 w4 g4 c4 (es.take i++(⟨cell,ro,rc,rl⟩:EM)::es.drop i):=vV.turn ⟨cell,ro,rc,rl⟩ (hr3.ae ig.size (λ j hj=>ig.block j (hr3.lt hj))) hro (λ y hy=>by
  rcases dD.1 hy with hy|hy
  ·exact .inl (iM hy)
  rcases aN.1 hy with rfl|hy
  ·exact .inr rfl
  exact .inl (jf hy)) r4 o4 hg4 (aY _)
 have uX:=jy.trans (ig.mono jy.size)
 have hg5:w1.heap.size<=g4:=by
  rcases hg4 with hq|hq
  ·exact hnew _ hq
  exact aP uX.size hq
 have HQ:=HT.out w4 _ c4 _ (uX.trans (o4.below uX.size hg5)) ni (by rw[xzw hst vU he h0,hes]);obtain⟨nn,hnn⟩:∃nn,nn=(es.take i++(⟨cell,ro,rc,rl⟩:EM)::es.drop i).length:=⟨_,rfl⟩;rw[<-hnn]at HQ ⊢;clear vV jy hst hes he ni r4 o4 HT Bl IY hr3 hro vU ig hs3 hnew uX hg4 hg5 hnn;obtain⟨d3,qU⟩:=HQ;replace qU:=zH qU
 go_wp2_with fail
 go_region_with (first
  | (go_at_call 101;refine qU.out.mono ?_;rintro e w5 ⟨rfl,d5,jA⟩;replace jA:=zH jA)
  | (go_at_call 43;refine jA.out.mono ?_;rintro e w6 ⟨er,rfl,uj⟩;replace uj:=zH uj))
 all_goals
  clear qU jA;go_wp2;go_ret;exact uj.out
end
end Go.Proofs.YtgpmiliahonaoaaGreatDoor
