/- Facts on texts on pages. -/
import Derived.Test.YtgpmiliahonaoaaGreatDoorKDqXc
set_option maxRecDepth 100000
set_option maxHeartbeats 8000000
set_option linter.unusedSimpArgs false
open Go.Value renaming bool->a6,int->V,pointer->aq,slice->ad,tuple->a9
open Go.IntKind renaming i64->U,u64->a7
open List renaming length->Y
open Go.Ending renaming returned->aw
open Or renaming inl->O,inr->al
open Go.Proofs.Tryz
namespace Go.Proofs.YtgpmiliahonaoaaGreatDoor
open Go.RowKit Go.BigFrame Go.ChangeMaps
open UK (str aF nth Only Row ay w32)
open DP (Rc bU aS jc eT gm jo TH bV bi iq share jW eX rY)
variable{X:List bU}{l rl:List Rc}
variable{W W':World}{ao ro:Option Addr}{c i b P D h e f H k root n a rc p pg m d j right:Nat}{t o:UInt64}{ks R I J:List UInt64}{E Fo T:Nat->Prop}{A B:AP}{G S ps:List Nat}{z F Co:Nat->List UInt8}{g:List EM}{s:List UInt8}{Q M:Int}
theorem NR.Qa{X:List UInt64}(h:NR W ao c (az X))(a:X[i]?=some t):∃g,ao=some ⟨g,0,none⟩/\W.cell? ⟨g,i,none⟩=some (V a7 (t.toNat:Int)):=by
 rcases h with⟨_,d,_⟩|⟨g,b,r⟩
 ·have:=congrArg List.length d;rw[dH]at this;have e:=(dz.1 a).1;simp only[List.length_nil]at this;omega
 exact⟨g,b,r.at' i _ (by simp[az,a])⟩
theorem Qb:share b l≠[]↔∃q∈l,b∈q.pM:=by
 constructor
 ·intro h;obtain⟨q,d⟩:=sN _ h;obtain⟨a,c⟩:=List.mem_filter.1 d;exact⟨q,a,of_decide_eq_true c⟩
 rintro⟨q,a,c⟩;exact List.ne_nil_of_mem (List.mem_filter.2 ⟨a,decide_eq_true c⟩)
theorem Y6(i:∀q∈l,q.ok)(m:Y l<=8)(j:ks.Pairwise λ x y=>x.toNat<y.toNat)(g:∀b:UInt64,b∈ks↔∃q∈l,b.toNat∈q.pM):Y ks<=512/\ks.Nodup:=by
 have c:ks.Nodup:=by
  rw[List.nodup_iff_pairwise_ne];exact j.imp (λ {a b} h e=>by rw[e]at h;omega)
 have d:=c.length_le_of_subset (l₂:=(mZ l).map (·.1)) (λ b f=>(Yd i b).2 ((g b).1 f));have k:=Ta l;rw[bS]at d;exact⟨Z,c⟩
def Mk(E:Nat->Prop)(W W':World)(P D K:Nat)(A:AP)(G:List Nat)(z:Nat->List UInt8)(d c root:Nat)(X a:List bU)(b:Int):Prop:=
 (b=0/\∃B,DI B G z d c root (fX a) (gX a)/\A.Reach B/\PZ E W' P D B K/\Kept E W W') \/
 (b=6/\∃C B S s,vJ C G (fX X) (iT X a S) s/\Y s<=4000/\A.Reach C/\A.Reach B/\PZ E W' P D B K/\Kept E W W')
section
variable{q C r:Nat}
theorem Y7(x7:DZ E W P D h e f H k A q C r root)(di:DI A G z C r root (fX X) (gX X))(hm:A.aA<=3900)(J:kY X)(hf:Y X<=39)(ha:a<100000)(u:b<100000)(hr:RX W ro rc rl)(ho:∀j,aG ro j->E j)(t:∀q∈rl,q.ok)(hn:Y rl<=8)(hk:k+13000000<900000000) :
  Calls prog 11 #[aq h,.agg #[V U a,V U b],ad ro (Y rl) rc] W λ l w'=>∃er:Int,l=aw (V U er)/\Mk E W w' P D (k+13000000) A G z C r root X (aS (bi a b) rl X) er:=by
 obtain⟨l1,s⟩:=di;obtain⟨w0,hw⟩:∃w0,w0=W.alloc (.cells #[V U a,V U b] 25):=⟨_,rfl⟩;have hx:Below W W w0:=hw▸(aU _ _).alloc (aH _) _;have hu:ay w0 W #[V U a,V U b]:=hw▸ay.new W _ _;have Q:=x7.next hx;have k0:=x7.pz.kept hx;obtain⟨cell,hc⟩:∃cell:UInt64,cell=UInt64.ofNat (bi a b):=⟨_,rfl⟩;have R:cell.toNat=bi a b:=by rw[hc,UInt64.toNat_ofNat'];unfold bi;omega
 have Cf:Hid (∀x5,Calls prog 37 #[V U a,V U b] x5 λ l w'=>l=aw (V a7 (cell.toNat:Int))/\w'=x5):=zH (λ x5=>by rw[hc];exact PK a b ha u x5);obtain⟨hl,x8⟩:=Hq J cell.toNat;obtain⟨Ci,L⟩:∃Ci,Ci=jW X cell.toNat:=⟨_,rfl⟩;rw[<-L]at hl x8;have hF:fX X cell.toNat=qW Ci:=by rw[L];rfl
 have xs:=Mg hl x8;have uq:=zH (zb Q s cell (by rw[hF];omega) Z);rw[hF]at uq;have d0:=hu.c0;have d1:=hu.c1;have d2:=Q.bd.c2;obtain⟨h7,N⟩:∃h7,h7=aS (bi a b) rl X:=⟨_,rfl⟩;rw[<-N];have tQ:kY h7:=by rw[N];exact J.put (by unfold bi;omega) t hn hf
 have hg:RX w0 ro rc rl:=hr.ae hx.size (λ j d=>hx.block j (hr.lt d));have HH:=bs Q s hm J tQ N R;have HR:=bw hg ho t hl k0 L;have i1:¬(700:Int)<(Y rl:Int):=Z
 clear x7 s hm J tQ N R hr ho t hl hx hu Q k0 hg hc hF L hf ha u;obtain⟨s0,xa⟩:∃s0,s0=qW Ci:=⟨_,rfl⟩;rw[<-xa]at uq xs;have vD:=zH xa;clear xa;subst hw
 go_enter func11,ntmps11
 go_wp2_with fail
 refine(Cf.out _).mono ?_;rintro l w5 ⟨rfl,rfl⟩
 go_wp2_with fail
 refine uq.out.mono ?_;rintro l w1 ⟨n,rfl,K,p1,k1⟩;have H1:=bm K p1 k1;clear uq Cf K p1 k1 d0 d1 d2
 go_upto_if 46 with(fail)
 go_cut [11] (λ wv wx=>∃ao c,wv=ad ao (Y Ci) c/\Hid (RX wx ao c Ci/\Below w1 w1 wx))
 case first=>
  by_cases Q:Ci=[]
  ·have hs:s0=[]:=by rw[vD.out];exact be Q
   subst Q hs;go_wp2;go_meet
   case rel=>exact⟨none,0,rfl,zH ⟨O ⟨rfl,rfl,rfl⟩,aU _ _⟩⟩
  have hs:s0=jo Ci:=by rw[vD.out];exact aE Q
  have xn:s0.isEmpty=false:=by rw[hs];exact PT (DP.si Ci)
  have Ml:(!s0.isEmpty)=true:=by rw[xn];rfl
  rw[Ml];clear Ml;have Mc:=zH (PG s0 w1);have Hl:=zH hs;clear hs Q
  go_wp2_with fail
  refine Mc.out.mono ?_;rintro l w7 ⟨rfl,mF,Ai⟩;have Md:=zH (SK (rest:=[]) (l:=Ci) mF (by rw[List.drop_zero,jl];exact Hl.out) Z Z HR.out.2.2.2.1);have Tv:=zH Ai;clear mF Ai Mc
  go_wp2_with fail
  refine Md.out.mono ?_;rintro l w8 ⟨ao,c,rfl,at2,wR,Me,x9,xo,vI⟩;rw[dY]at x9;have mF:=Tv.out;have wR:Below w1 w1 w8:=⟨vI.os.trans mF.os,vI.tape.trans mF.tape,vI.output.trans mF.output,aT mF.size vI.size,λ j d=>(vI.block j ⟨cB d mF.size,Z⟩).trans (mF.block j d)⟩;have HJ:=bg x9 wR;clear wR Me x9 xo vI mF Md;go_wp2;go_meet
  case rel=>exact⟨ao,c,rfl,HJ⟩
 case rest=>
 obtain⟨xt,c0,rfl,HC⟩:=hcut;have Mm:=zH (Ye HC.out.1 HR.out.2.2.2.1 Z)
 go_wp2_with fail
 refine Mm.out.mono ?_;rintro l w2 ⟨Cb,c1,iY,n1,xv,M1,rfl,Am,Ao,nu,_,_,uy,_,Y8⟩;obtain⟨hg,ho,t,hl,k0,L⟩:=HR.out;obtain⟨K,p1,k1⟩:=H1.out;have pX:Below w1 w1 w2:=HC.out.2.trans (Y8.mono HC.out.2.size);have xe:RX w2 ro rc rl:=hg.ae (aT k1.size pX.size) (λ j d=>(pX.block j (cB (hg.lt d) k1.size)).trans (k1.block j (ho j d)));have Mo:=zH (Ye xe t Z);have Qc:=br Am Ao nu uy pX;clear Am Ao nu uy Y8 hg ho t hl k0 L K p1 k1 pX xe Mm
 go_wp2_with fail
 refine Mo.out.mono ?_;rintro l w3 ⟨mR,c2,jy,n2,hd,M,rfl,JR,Mq,rH,he,h5,FH,Y9,JI⟩;obtain⟨Q,s,hm,J,tQ,N,R⟩:=HH.out;obtain⟨hg,ho,t,hl,k0,L⟩:=HR.out;obtain⟨K,p1,k1⟩:=H1.out;obtain⟨Am,Ao,nu,uy,pX⟩:=Qc.out;have Ap:Below w1 w1 w3:=pX.trans (JI.mono pX.size);obtain⟨F,I⟩:∃F:Nat->Prop,F=λ j=>E j\/(w1.1.size<=j/\j<w3.1.size):=⟨_,rfl⟩;have xj:DZ F w3 P D h e f H (k+5000) A q C r root:=(Q.of p1 k1).wide Ap (λ j d=>by rw[I]at d;exact d) (λ j d=>by rw[I];exact O d);obtain⟨f1,JS⟩:=Y6 hl x8 Ao nu;obtain⟨f2,Mr⟩:=Y6 t hn Mq rH;have kE:Kept E W w3:=(k0.trans k1).trans (p1.kept Ap);have Ms:NR w3 Cb (Y iY) (az iY):=Am.ae JI.size (λ j d=>JI.block j (Am.lt d));have yo:∀j,aG Cb j->F j:=λ j d=>by rw[I];exact al ⟨aT HC.out.2.size (uy j d),cB (Am.lt d) JI.size⟩
 have Aq:∀j,aG mR j->F j:=λ j d=>by rw[I];exact al ⟨aT pX.size (FH j d),JR.lt d⟩
 have DK:F M:=by rw[I];exact al ⟨aT pX.size Y9,he.lt⟩
 have hj:∀(b:UInt64) j,aG (hd b).addr j->F j:=λ b j d=>by rw[I];exact al ⟨aT pX.size ((h5 b).2.2.2 j (wO.1 d)),(h5 b).1.lt d⟩
 have hz:RX w3 ro rc rl:=hg.ae (aT k1.size Ap.size) (λ j d=>(Ap.block j (cB (hg.lt d) k1.size)).trans (k1.block j (ho j d)));have Ar:∀j,aG ro j->F j:=λ j d=>by rw[I];exact O (ho j d)
 have HA:=cf I hm J tQ N R t L K kE;have HO:=bp Ms yo nu JS;have HN:=bp JR Aq rH Mr;have HM:=bp he DK h5 hj;have HRR:=bg hz Ar;have HZ:=bg xj s;clear Q s hm J tQ N R hg ho t hl k0 L K p1 k1 Am Ao nu uy pX Ap I xj JS Mr kE Ms yo Aq DK hj hz Ar JR Mq rH he h5 FH Y9 JI Mo Qc HC HH HR H1
 go_wp2_with fail
 go_loopw [62] (λ iv wr=>∃(i:Nat) (A1:AP) (S:List Nat),iv=V U i/\i<=Y iY/\Hid (DL A1 G z C r root (fX X) (iT X h7 S) l1/\A.Reach A1/\DZ F wr P D h e f H (k+5000+12000*i) A1 q C r root/\Kept F w3 wr/\(∀x∈S,∃b:UInt64,b∈iY.take i/\b.toNat=x/\share x rl=[])/\(∀b∈iY.take i,share b.toNat rl=[]->b.toNat∈S))) (λ iv _=>1000-(intOf iv).toNat)
 case atStart=>exact⟨0,A,[],rfl,aR _,zH ⟨by rw[r9];exact HZ.out.2,AP.Reach.refl _,HZ.out.1,Kept.refl _ _,λ x T=>(by cases T),λ b u=>(by cases u)⟩⟩
 clear HZ;obtain⟨i,A1,S,rfl,hi,HI⟩:=hrel;by_cases x1:i<Y iY
 ·obtain⟨g,hh⟩:∃g,iY[i]?=some g:=⟨_,bK x1⟩;obtain⟨Am,yo,nu,JS⟩:=HO.out;obtain⟨he,DK,h5,hj⟩:=HM.out;obtain⟨s,o,p,m,h0,h4⟩:=HI.out;have Ht:=Am.ae m.size (λ j d=>m.block j (yo j d));obtain⟨g1,rfl,cd⟩:=NR.Qa Ht hh;have hv:=he.ae (m.block M DK);have eg:=hv.get (t:=89) (E:=33) underlying77 underlying89 zeroValue33 g;unfold Hd.val at eg;have q1:(i:Int)<Y iY:=Z
  have hp:iY[i]=g:=bf ((bK x1).symm.trans hh);have hb:iY.take (i+1)=iY.take i++[g]:=by rw[List.take_succ_eq_append_getElem x1,hp]
  cases vG:(hd g).a with
  | some xb=>
   have h9:share g.toNat rl≠[]:=λ l=>by rw[(h5 g).2.2.1.2 l]at vG;cases vG
   have Au:(hd g).addr=some ⟨xb,0,none⟩:=by unfold Hd.addr;rw[vG];rfl
   rw[Au]at eg;obtain⟨x,T⟩:∃x,x=(hd g).n:=⟨_,rfl⟩;obtain⟨ht,hy⟩:∃ht,ht=(hd g).c:=⟨_,rfl⟩;rw[<-T,<-hy]at eg;have xp:∀W n c,(binOp .neq 33 (ad xb n c) (ad none 0 0)).run prog W= .ok (a6 true) W:=λ W n c=>Go.run_neq_slice_nil W _ _ _ _ _ underlying33
   have tT:Hid (DL A1 G z C r root (fX X) (iT X h7 S) l1/\A.Reach A1/\DZ F wr P D h e f H (k+5000+12000*(i+1)) A1 q C r root/\Kept F w3 wr/\(∀x∈S,∃b:UInt64,b∈iY.take (i+1)/\b.toNat=x/\share x rl=[])/\(∀b∈iY.take (i+1),share b.toNat rl=[]->b.toNat∈S)):=by
    refine zH ⟨s,o,p.up Z,m,λ x T=>?_,λ b u hs=>?_⟩
    ·obtain⟨b,h1,h2,h3⟩:=h0 x T;exact⟨b,by rw[hb];exact fw _ h1,h2,h3⟩
    rw[hb]at u;rcases dm.1 u with u|u
    ·exact h4 b u hs
    rw[bu.1 u]at hs;exact absurd hs h9
   clear Am yo nu JS he DK h5 hj s o p m h0 h4 Ht hv hb h9 Au vG T hy hh hp HI;go_wp2;go_roundw
   case rel=>exact⟨i+1,A1,S,by go_num,Z,tT⟩
   case measure=>simp only[intOf];omega
  | none=>
   have h9:share g.toNat rl=[]:=(h5 g).2.2.1.1 vG;have xd:(hd g).n=0:=by rw[(h5 g).2.1,h9];rfl
   have Au:(hd g).addr=none:=by unfold Hd.addr;rw[vG];rfl
   rw[Au,xd]at eg;obtain⟨ht,hy⟩:∃ht,ht=(hd g).c:=⟨_,rfl⟩;rw[<-hy]at eg;have xp:∀W n c,(binOp .neq 33 (ad none n c) (ad none 0 0)).run prog W= .ok (a6 false) W:=λ W n c=>Go.run_neq_slice_nil W _ _ _ _ _ underlying33;obtain⟨I,hm,J,tQ,N,R,t,L,K,kE⟩:=HA.out
   have h8:g.toNat∉S:=λ h8=>by
    obtain⟨b,h1,h2,h3⟩:=h0 _ h8;have l:b=g:=mV.1 h2;subst l;obtain⟨j,d,l⟩:=fU h1;rw[zt]at d;rw[List.getElem_take]at l;have:=jP.1 (List.nodup_iff_pairwise_ne.1 JS) j i Z x1 Z;exact this (l.trans hp.symm)
   have ow:=Y5 (ro:=none) (rc:=0) (rl:=rl) p s (by rw[o.ni];exact hm) J tQ g cell (by rw[R];exact N) h8 (by rw[h9];exact O ⟨rfl,rfl,rfl⟩) (λ j d=>by cases d) hn Z;rw[h9]at ow;have vL:=zH ow;have tT:=bs o p m h0 h4 hb h9;clear Am yo nu JS he DK h5 hj s o p m h0 h4 Ht hv hb h9 Au vG hh hp HI xd hy I hm J tQ N R t L K kE h8 ow
   go_wp2_with fail
   refine vL.out.mono ?_;rintro l w5 ⟨er,rfl,(⟨rfl,B,DN,y,w,v⟩|⟨rfl,B,h6,y,w,v⟩)⟩
   ·have qY:Hid (DL B G z C r root (fX X) (iT X h7 (S++[g.toNat])) l1/\A.Reach B/\DZ F w5 P D h e f H (k+5000+12000*(i+1)) B q C r root/\Kept F w3 w5/\(∀x∈S++[g.toNat],∃b:UInt64,b∈iY.take (i+1)/\b.toNat=x/\share x rl=[])/\(∀b∈iY.take (i+1),share b.toNat rl=[]->b.toNat∈S++[g.toNat])):=by
     obtain⟨o,p,m,h0,h4,hb,h9⟩:=tT.out;refine zH ⟨DN,o.trans y,(p.of w v).up Z,m.trans v,λ x T=>?_,λ b u hs=>?_⟩
     ·rw[hb];rcases dm.1 T with T|T
      ·obtain⟨b,h1,h2,h3⟩:=h0 x T;exact⟨b,fw _ h1,h2,h3⟩
      rw[bu.1 T];exact⟨g,lL _ (bu.2 rfl),rfl,h9⟩
     rw[hb]at u;rcases dm.1 u with u|u
     ·exact fw _ (h4 b u hs)
     rw[bu.1 u];exact lL _ (bu.2 rfl)
    clear tT DN y w v vL;go_wp2;go_roundw
    case rel=>exact⟨i+1,B,S++[g.toNat],by go_num,Z,qY⟩
    case measure=>simp only[intOf];omega
   have qY:=bp h6 y w v;clear h6 y w v vL;go_wp2;go_ret;obtain⟨h6,y,w,v⟩:=qY.out;obtain⟨o,p,m,_⟩:=tT.out;obtain⟨I,hm,J,tQ,N,R,t,L,K,kE⟩:=HA.out;have eZ:∀j,E j->F j:=λ j d=>by rw[I];exact O d
   exact⟨6,rfl,al ⟨rfl,A1,B,S,_,h6,by have:=FE tQ g.toNat;omega,o,o.trans y,(w.up Z).less eZ,kE.trans ((m.trans v).mono eZ)⟩⟩
 obtain rfl:i=Y iY:=Z
 obtain⟨s,o,p,m,h0,h4⟩:=HI.out;rw[dY]at h0 h4;have sK:=bm o h0 h4;have HZ:=bm s (p.up (K:=k+6205000) Z) m;clear s o p m h0 h4 HI
 go_wp2_with fail
 go_loopw [80] (λ jv wr2=>∃(j:Nat) (A2:AP),jv=V U j/\j<=Y jy/\Hid (DL A2 G z C r root (fX X) (iT X h7 (S++(jy.take j).map UInt64.toNat)) l1/\A.Reach A2/\DZ F wr2 P D h e f H (k+6205000+12000*j) A2 q C r root/\Kept F w3 wr2)) (λ jv _=>1000-(intOf jv).toNat)
 case atStart=>exact⟨0,A1,rfl,aR _,zH ⟨by rw[kU,List.map_nil,jl];exact HZ.out.1,sK.out.1,HZ.out.2.1,HZ.out.2.2⟩⟩
 clear HZ;obtain⟨j,A2,rfl,d,HI⟩:=hrel;by_cases x2:j<Y jy
 ·obtain⟨g,hh⟩:∃g,jy[j]?=some g:=⟨_,bK x2⟩;obtain⟨JR,Aq,rH,Mr⟩:=HN.out;obtain⟨he,DK,h5,hj⟩:=HM.out;obtain⟨s,o,p,m⟩:=HI.out;have Mt:=JR.ae m.size (λ j d=>m.block j (Aq j d));obtain⟨g2,rfl,cd⟩:=NR.Qa Mt hh;have hv:=he.ae (m.block M DK);have eg:=hv.get (t:=89) (E:=33) underlying77 underlying89 zeroValue33 g;unfold Hd.val at eg;have q1:(j:Int)<Y jy:=Z
  have hp:jy[j]=g:=bf ((bK x2).symm.trans hh);have hb:jy.take (j+1)=jy.take j++[g]:=by rw[List.take_succ_eq_append_getElem x2,hp]
  obtain⟨I,hm,J,tQ,N,R,t,L,K,kE⟩:=HA.out;obtain⟨T9,h0,h4⟩:=sK.out;have h9:share g.toNat rl≠[]:=Qb.2 ((rH g).1 (dU hh))
  have h8:g.toNat∉S++(jy.take j).map UInt64.toNat:=λ h8=>by
   rcases dm.1 h8 with h8|h8
   ·obtain⟨b,h1,h2,h3⟩:=h0 _ h8;exact h9 h3
   obtain⟨b,h1,h2⟩:=bL.1 h8;have l:b=g:=mV.1 h2;subst l;obtain⟨i,hi,l⟩:=fU h1;rw[zt]at hi;rw[List.getElem_take]at l;have:=jP.1 (List.nodup_iff_pairwise_ne.1 Mr) i j Z x2 Z;exact this (l.trans hp.symm)
  have xf:RX wr (hd g).addr (hd g).c (share g.toNat rl):=(h5 g).1.ae m.size (λ i hi=>m.block i (hj g i hi));have ow:=Y5 (rl:=rl) p s (by rw[o.ni];exact hm) J tQ g cell (by rw[R];exact N) h8 xf (hj g) hn Z;rw[<-(h5 g).2.1]at ow;obtain⟨x,T⟩:∃x,x=(hd g).addr:=⟨_,rfl⟩;obtain⟨ht,hy⟩:∃ht,ht=(hd g).n:=⟨_,rfl⟩;obtain⟨xk,xi⟩:∃xk,xk=(hd g).c:=⟨_,rfl⟩;rw[<-T,<-hy,<-xi]at eg ow;have vL:=zH ow;have tT:=bp o p m hb;clear JR Aq rH Mr he DK h5 hj s o p m h0 h4 T9 Mt hv hb h9 hh hp HI I hm J tQ N R t L K kE h8 ow xf T hy xi
  go_wp2_with fail
  refine vL.out.mono ?_;rintro l w5 ⟨er,rfl,(⟨rfl,B,DN,y,w,v⟩|⟨rfl,B,h6,y,w,v⟩)⟩
  ·have qY:Hid (DL B G z C r root (fX X) (iT X h7 (S++(jy.take (j+1)).map UInt64.toNat)) l1/\A.Reach B/\DZ F w5 P D h e f H (k+6205000+12000*(j+1)) B q C r root/\Kept F w3 w5):=by
    obtain⟨o,p,m,hb⟩:=tT.out;refine zH ⟨?_,o.trans y,(p.of w v).up Z,m.trans v⟩;rw[hb,dI,<-cO];exact DN
   clear tT DN y w v vL;go_wp2;go_roundw
   case rel=>exact⟨j+1,B,by go_num,Z,qY⟩
   case measure=>simp only[intOf];omega
  have qY:=bp h6 y w v;clear h6 y w v vL;go_wp2;go_ret;obtain⟨h6,y,w,v⟩:=qY.out;obtain⟨o,p,m,_⟩:=tT.out;obtain⟨I,hm,J,tQ,N,R,t,L,K,kE⟩:=HA.out;have eZ:∀j,E j->F j:=λ j d=>by rw[I];exact O d
  exact⟨6,rfl,al ⟨rfl,A2,B,_,_,h6,by have:=FE tQ g.toNat;omega,o,o.trans y,(w.up Z).less eZ,kE.trans ((m.trans v).mono eZ)⟩⟩
 obtain rfl:j=Y jy:=Z
 obtain⟨s,o,p,m⟩:=HI.out;rw[dY]at s;obtain⟨I,hm,J,tQ,N,R,t,L,K,kE⟩:=HA.out;obtain⟨_,h0,h4⟩:=sK.out
 have x0:iT X h7 (S++jy.map UInt64.toNat)=gX h7:=by
  rw[N];refine qa J (λ x T=>?_);rw[R]at L
  have h1:share x rl=[]:=by
   by_cases hs:share x rl=[]
   ·exact hs
   exfalso;obtain⟨q,hq,Mv⟩:=Qb.1 hs
   obtain⟨b,u⟩:∃b:UInt64,b.toNat=x:=PR (by
    rcases DP.vC (t q hq) Mv with l|l
    ·rw[l];show 18446744073709551615<2^64;omega
    omega)
   exact T (lL _ (bL.2 ⟨b,(HN.out.2.2.1 b).2 ⟨q,hq,u▸Mv⟩,u⟩))
  refine⟨?_,h1⟩;by_cases hs:share x (jW X (bi a b))=[]
  ·exact hs
  exfalso;obtain⟨q,hq,Mv⟩:=Qb.1 hs
  obtain⟨b,u⟩:∃b:UInt64,b.toNat=x:=PR (by
   rcases DP.vC ((Hq J _).1 q hq) Mv with l|l
   ·rw[l];show 18446744073709551615<2^64;omega
   omega)
  have xl:=(HO.out.2.2.1 b).2 ⟨q,by rw[L];exact hq,u▸Mv⟩;exact T (fw _ (u▸h4 b xl (by rw[u];exact h1)))
 rw[x0]at s
 have Hu:(fX X cell.toNat).length<=4000:=by
  have l:fX X cell.toNat=s0:=by rw[vD.out,L];rfl
  rw[l];omega
 have eZ:∀j,E j->F j:=λ j d=>by rw[I];exact O d
 have FI:A2.aA<=3900:=by rw[o.ni];exact hm
 have x3:fX h7=bV (fX X) cell.toNat (qW rl):=by rw[N,R];exact B9 J
 have d2:=p.bd.c2;have HP:=zH x3
 have HQ:Hid (∀w' er x6,Hr F wr w' P D x6 A2 G (fX X) (gX h7) (qW rl) (λ B=>DI B G z C r root (bV (fX X) cell.toNat (qW rl)) (gX h7)) er->x6<=k+13000000->Mk E W w' P D (k+13000000) A G z C r root X h7 er):=zH (λ w' er x6 hR hK=>by
  rcases hR with⟨rfl,B,DN,y,w,v⟩|⟨rfl,B,h6,y,w,v⟩
  ·exact O ⟨rfl,B,by rw[x3];exact DN,o.trans y,(w.up hK).less eZ,kE.trans ((m.trans v).mono eZ)⟩
  rw[<-x0]at h6;exact al ⟨rfl,A2,B,_,_,h6,by have:=Mg t hn;omega,o,o.trans y,(w.up hK).less eZ,kE.trans ((m.trans v).mono eZ)⟩)
 by_cases Q:rl=[]
 ·have xm:((Y rl:Int)==0)=true:=by rw[Q];rfl
  have HST:=zH (Y4 (s:=[]) p s FI K (aR _) Hu Z);have e0:qW rl=[]:=be Q;have xq:Y rl=0:=by rw[Q];rfl
  rw[e0]at HQ;clear s o p m HI I hm J tQ N R t L K kE h0 h4 x0 eZ FI x3 Hu HN HO HM sK HA;rw[xq]
  go_wp2_with fail
  refine HST.out.mono ?_;rintro l w6 ⟨er,rfl,hR⟩;replace HST:=zH hR;clear hR;go_wp2;go_ret;exact⟨er,rfl,HQ.out _ _ _ HST.out Z⟩
 have xm:((Y rl:Int)==0)=false:=by
  have:=List.length_pos_iff.2 Q;exact beq_eq_false_iff_ne.2 Z
 have xw:¬((Y rl:Int)=0):=by
  have:=List.length_pos_iff.2 Q;omega
 have e0:qW rl=jo rl:=aE Q;have iO:Below wr wr (wr.alloc (.cells #[ad none 0 0] 96)):=(aU _ _).alloc (aH _) _;have hu:=ay.new wr #[ad none 0 0] 96;have hw:iL (λ j=>j<wr.1.size) (wr.alloc (.cells #[ad none 0 0] 96)) wr none 0 []:=⟨hu,O ⟨rfl,rfl,rfl⟩,mE _,λ j d=>(by cases d),λ j d=>by simp;omega⟩;obtain⟨hz,Ar⟩:=HRR.out;have x4:RX wr ro rc rl:=hz.ae m.size (λ j d=>m.block j (Ar j d));have xg:RX (wr.alloc (.cells #[ad none 0 0] 96)) ro rc rl:=x4.ae iO.size (λ j d=>iO.block j (x4.lt d));have YA:=zH (XK hw xg (λ j d=>x4.lt d) t Z (by simp));have HY:=b9 p s FI K Hu iO t e0;clear s o p m HI I hm J tQ N R t L K kE h0 h4 x0 eZ FI x3 Hu HN HO HM sK HA hz Ar x4 xg hw hu iO HRR d2
 go_wp2_with fail
 refine YA.out.mono ?_;rintro l w6 ⟨rfl,xu,c6,zh,Fp⟩;rw[iQ]at zh;obtain⟨p,s,FI,K,Hu,iO,t,e0⟩:=HY.out;have xc:Below wr wr w6:=⟨Fp.os.trans iO.os,Fp.tape.trans iO.tape,Fp.output.trans iO.output,aT iO.size Fp.size,λ j d=>(Fp.block j d).trans (iO.block j d)⟩;have mF:Below wr wr w6.drew:=xc.trans (aU _ _).drew;have TA:=p.next mF;have xh:=zh.same ((aU w6 w6).drew);have YB:=zH (XA xh (DP.si rl));have HST:=zH (Y4 (s:=jo rl) TA s FI K (by have:=Mg t hn;rw[e0]at this;omega) Hu Z);have d2:=TA.bd.c2;have k7:=p.pz.kept mF;rw[e0]at HQ;have YC:=zH k7;clear p s FI K Hu iO t e0 xc mF TA zh xh Fp k7 YA HY
 go_wp2_with fail
 go_region_with (first
  | (go_at_call 45;refine YB.out.mono ?_;rintro l w8 ⟨rfl,rfl⟩)
  | (go_at_call 43;refine HST.out.mono ?_;rintro l w9 ⟨er,rfl,hR⟩;replace hR:=zH hR))
 all_goals
  clear YB HST d2;go_wp2;go_ret;refine⟨er,rfl,HQ.out _ _ _ ?_ (aH _)⟩;rcases hR.out with⟨rfl,B,DN,y,w,v⟩|⟨rfl,B,h6,y,w,v⟩
  ·exact O ⟨rfl,B,DN,y,w.up Z,YC.out.trans v⟩
  exact al ⟨rfl,B,h6,y,w.up Z,YC.out.trans v⟩
end
open Go.RowKit Go.BigFrame
open UK (str aF nth Only Row ay)
namespace So
theorem uu{c0:Nat}{l:List UInt64}(h:NR W ao c0 (az l))(hc:Y l<=c)(P:Y l<=1000000)(hs:l.Pairwise λ h9 he=>h9.toNat<=he.toNat) :
  Calls prog 51 #[ad ao (Y l) c] W λ e D=>∃I,e=aw (ad ao (Y I) c)/\ou l I/\NR D ao (Y I) (az I)/\Kept (λ j=>j<W.1.size/\¬aG ao j) W D:=by
 by_cases h2:Y l<2
 ·have H:ou l l:=Yw (λ i j N z=>Z)
  have C:=zH (show ou l l/\NR W ao (Y l) (az l)from⟨H,by
   rcases h with⟨a,b,d⟩|⟨g,a,r⟩
   ·exact O ⟨a,b,by cases l with|nil=>rfl|cons h9 l=>simp[az]at b⟩
   exact al ⟨g,a,(dK.vK r).row.ae (aH _) rfl |> λ K=>by
    have e:(List.range (Y l)).map (λ j=>l.getD j 0)=l:=by
     apply List.ext_getElem
     ·simp
     intro i a b;simp[List.getD,b]
    rw[e]at K;exact K⟩⟩)
  have i2:(Y l:Int)<2:=Z
  clear h hs H h2
  go_enter func51,ntmps51
  go_wp2;go_ret
  exact⟨l,rfl,C.out.1,C.out.2,Kept.refl _ _⟩
 rcases h with⟨_,b,_⟩|⟨g,rfl,r⟩
 ·exfalso;have:Y l=0:=by rw[<-dH l,b];rfl
  omega
 have s:=dK.vK r;have S:=KS hs;have i2:¬(Y l:Int)<2:=Z
 obtain⟨f,hf⟩:∃f,f=λ j=>l.getD j 0:=⟨_,rfl⟩;rw[<-hf]at s S;have Ty:=zH hf;have L:=zH S;obtain⟨n,Q⟩:∃n,n=Y l:=⟨_,rfl⟩;have Mi:=zH Q;rw[<-Q]at hc P h2 s i2 ⊢;replace L:Hid (lZ 0 n f):=zH (by rw[Q];exact L.out);have M:=zH s;clear r hf Q hs s S
 go_enter func51,ntmps51
 go_wp2_with fail
 go_loopw [3] (λ J wr=>∃k:Nat,J=V U k/\1<=k/\k<=n/\Hid (dK wr g n f/\Only g W wr/\∀i j,i<j->j<k->(f i).toNat<(f j).toNat)) (λ J _=>1000002-(intOf J).toNat)
 case atStart=>exact⟨1,rfl,aH _,Z,zH ⟨M.out,Only.refl _ _,λ i j a b=>Z⟩⟩
 obtain⟨k,rfl,h4,hk,HI⟩:=hrel;by_cases h5:k<n
 ·obtain⟨p,rfl⟩:∃p,k=p+1:=⟨k-1,Z⟩;obtain⟨s,u,A⟩:=HI.out;have q1:(p:Int)+1<n:=Z
  have e1:wrap64 ((p:Int)+1-1)=(p:Int):=by unfold wrap64;omega
  have X:(p:Int)<n:=Z
  have G:=λ m=>(s.drewN m).cell (p+1) h5;have T:=λ m=>(s.drewN m).cell p Z;by_cases w:f (p+1)=f p
  ·have HC:Hid (Cp f f (p+1) (p+1+1)):=zH (Cp.start h4 A w);have R:=bg s u;rw[w]at G;have hj:(p:Int)+1<=c:=Z
   have hh:¬(c=p+1):=Z
   have hn:(p:Int)+1<=n:=Z
   clear s u A HI
   go_wp2_with fail
   go_quiet (fail)
   go_wp2_with fail
   go_loopw [3,5] (λ J rv wx=>∃(m r:Nat) (x:Nat->UInt64),J=V U m/\rv=V U r/\1<=r/\p+1+r<=n/\1<=m/\m<p+1+r/\Hid (Cp f x m (p+1+r)/\dK wx g n x/\Only g W wx)) (λ _ rv _=>1000002-(intOf rv).toNat)
   case atStart=>exact⟨p+1,1,f,by go_num,rfl,aH _,Z,h4,Z,zH ⟨HC.out,R.out.1.drewN _,R.out.2.drewN _⟩⟩
   clear HC R G T;obtain⟨m,r,x,rfl,rfl,ho,hp,ha,hm,F⟩:=hrel;by_cases h3:p+1+r<n
   ·obtain⟨t,rfl⟩:∃t,r=t+1:=⟨r-1,Z⟩;obtain⟨v,s,u⟩:=F.out;have G:=λ q=>(s.drewN q).cell (p+1+(t+1)) h3;have T:=λ q=>(s.drewN q).cell (p+1+t) Z;have B:x (p+1+(t+1))=f (p+1+(t+1)):=v.rest _ Z;have x2:x (p+1+t)=f (p+1+t):=v.rest _ Z;rw[B]at G;rw[x2]at T;have e1:wrap64 ((t:Int)+1-1)=(t:Int):=by unfold wrap64;omega
    have i1:(t:Int)+1<((n-(p+1):Nat):Int):=Z
    have i2:(t:Int)<((n-(p+1):Nat):Int):=Z
    by_cases w:f (p+1+(t+1))=f (p+1+t)
    ·have y:=bm (v.same w) s u;rw[w]at G;clear v s u F B x2 w
     go_wp2_with fail
     go_quiet (fail)
     go_wp2;go_roundw
     case rel=>exact⟨m,t+1+1,x,rfl,by go_num,Z,Z,ha,Z,zH ⟨y.out.1,y.out.2.1.drewN _,y.out.2.2.drewN _⟩⟩
     case measure=>simp only[intOf];omega
    have h0:¬((f (p+1+(t+1))).toNat:Int)=((f (p+1+t)).toNat:Int):=λ h=>w (mV.1 Z);have hb:(((f (p+1+(t+1))).toNat:Int)==((f (p+1+t)).toNat:Int))=false:=beq_eq_false_iff_ne.2 h0;have E:m<n:=Z
    have Tz:(m:Int)<n:=Z
    have y:=bp (v.other L.out h3 w) s u B;clear v s u F B x2 w
    go_wp2_with fail
    go_quiet (fail)
    obtain⟨v,s,u,B⟩:=y.out;have d1:=(s.drewN nq).cell (p+1+(t+1)) h3;rw[B]at d1;have d2:=(s.drewN nq).cell m E;have d3:=(s.drewN nq).free m E;have M:=bg ((s.drewN nq).set E (f (p+1+(t+1)))) ((u.drewN nq).set m (V a7 ((f (p+1+(t+1))).toNat:Int)));clear v s u B;go_wp2;go_roundw
    case rel=>exact⟨m+1,t+1+1,_,by go_num,by go_num,Z,Z,Z,Z,zH ⟨y.out.1,M.out.1,M.out.2⟩⟩
    case measure=>simp only[intOf];omega
   obtain rfl:r=n-(p+1):=Z
   obtain⟨v,s,u⟩:=F.out;have E:m<n:=Z
   have Tz:(m:Int)<=n:=Z
   have hl:(m:Int)<=c:=Z
   have hi:¬(c=m):=Z
   obtain⟨D,e2,h8,h7⟩:=IT (P:=prog) (c:=c-m) 88 77 0 underlying88 zeroValue77 s E;have X:p+1+(n-(p+1))=n:=Z
   rw[X]at v
   have C:Hid (∃I,(ad g m c:Value)=ad g (Y I) c/\ou l I/\NR D g (Y I) (az I)/\Kept (λ j=>j<W.1.size/\¬aG g j) W D):=by
    have hF:=Ty.out;have hN:=Mi.out;subst hF;rw[hN]at v;have o:=u.trans h7;refine zH ⟨_,?_,AG v,al ⟨g,rfl,?_⟩,⟨o.os,o.tape,o.output,o.size,λ j z=>o.block j z.1 (λ e=>z.2 (by rw[e];rfl))⟩⟩
    ·simp
    have P:((List.range m).map x).length=m:=by simp
    have H:dK D g ((List.range m).map x).length x:=by rw[P];exact h8
    have:=H.row;rw[P]at this ⊢;exact this
   clear v s u F h8 h7 X;go_wp2;go_ret;obtain⟨I,a,hg⟩:=C.out;exact⟨I,congrArg Ending.returned a,hg⟩
  have h6:(f p).toNat<(f (p+1)).toNat:=by
   have h1:=L.out p (p+1) (aR _) Z h5;have H:(f p).toNat≠(f (p+1)).toNat:=λ e=>w (mV.1 e.symm);omega
  have y:Hid (∀q,dK (wr.drewN q) g n f/\Only g W (wr.drewN q)/\∀i j,i<j->j<p+1+1->(f i).toNat<(f j).toNat):=zH (λ q=>⟨s.drewN q,u.drewN q,λ i j N z=>by
   by_cases e:j=p+1
   ·subst e;by_cases e2:i=p
    ·subst e2;exact h6
    have:=A i p Z Z;omega
   exact A i j N Z⟩)
  have h0:¬((f (p+1)).toNat:Int)=((f p).toNat:Int):=Z
  have hb:(((f (p+1)).toNat:Int)==((f p).toNat:Int))=false:=beq_eq_false_iff_ne.2 h0;clear s u A HI h6 w
  go_wp2_with fail
  go_quiet (fail)
  go_wp2;go_roundw
  case rel=>exact⟨p+1+1,by go_num,Z,Z,zH (y.out _)⟩
  case measure=>simp only[intOf];omega
 obtain rfl:n=k:=Z
 have HL:=Ty.out;have qY:=Mi.out
 have C:Hid (ou l l/\NR wr g (Y l) (az l)/\Kept (λ j=>j<W.1.size/\¬aG g j) W wr):=by
  obtain⟨s,u,A⟩:=HI.out;subst HL;refine zH ⟨Yw (λ i j N z=>A i j N Z),al ⟨g,rfl,?_⟩,⟨u.os,u.tape,u.output,u.size,λ j z=>u.block j z.1 (λ e=>z.2 (by rw[e];rfl))⟩⟩;rw[qY]at s;have K:=s.row
  have e:(List.range (Y l)).map (λ j=>l.getD j 0)=l:=by
   apply List.ext_getElem
   ·simp
   intro i a b;simp[List.getD,b]
  rw[e]at K;exact K
 clear HI;go_wp2;go_ret;exact⟨l,by rw[qY];rfl,C.out⟩
end So
open Go.RowKit Go.BigFrame
open UK (str aF nth Only Row ay w32)
open DP (Rc bU jc eT gm bi iq eX rY)
def Ak(a b:Nat)(x:EM):Bool:=x.l.any λ q=>q.has a b
def fD(a b:Nat)(g:List EM):List UInt64:=(g.filter (Ak a b)).map (·.k)
section
variable{es1 es2:List EM}
theorem tw{x:EM}(d:g[i]?=some x):fD a b (g.take (i+1))=if Ak a b x then fD a b (g.take i)++[x.k] else fD a b (g.take i):=by
 have c:=(dz.1 d).1
 have e:g.take (i+1)=g.take i++[x]:=by
  rw[List.take_succ_eq_append_getElem c];congr 2;exact bf ((bK c).symm.trans d)
 unfold fD;rw[e,List.filter_append,dI];by_cases h:Ak a b x=true<;>simp[h]
theorem Y2(g:List EM):(fD a b g).length<=Y g:=by
 unfold fD;rw[bS];exact List.length_filter_le ..
theorem Y3:(∃x∈fD a b g,x.toNat=k)↔∃y∈g.map jg,y.1=k/\(y.2.any λ q=>q.has a b)=true:=by
 unfold fD
 constructor
 ·rintro⟨x,f,rfl⟩;obtain⟨y,d,rfl⟩:=bL.1 f;obtain⟨e,c⟩:=List.mem_filter.1 d;exact⟨jg y,bL.2 ⟨y,e,rfl⟩,rfl,c⟩
 rintro⟨y,d,rfl,c⟩;obtain⟨z,h,rfl⟩:=bL.1 d;exact⟨z.k,bL.2 ⟨z,List.mem_filter.2 ⟨h,c⟩,rfl⟩,rfl⟩
theorem tV(g:jc X)(e:es1.map jg=iq (bi (a/16) (b/16)) X)(f:es2.map jg=iq rY X)(d:So.Al (fD a b es1++fD a b es2) R)(c:So.ou R I) :
  I.map UInt64.toNat=(eX a b X).map (·.1):=by
 refine DP.zW g (by unfold DP.Up;rw[List.pairwise_map];exact c.up) (λ k=>?_);rw[<-e,<-f,<-Y3,<-Y3,bL]
 constructor
 ·rintro⟨x,i,rfl⟩;rcases dm.1 ((d.mem x).1 ((c.mem x).1 i))with h|h
  ·exact O ⟨x,h,rfl⟩
  exact al ⟨x,h,rfl⟩
 rintro(⟨x,h,rfl⟩|⟨x,h,rfl⟩)
 ·exact⟨x,(c.mem x).2 ((d.mem x).2 (fw _ h)),rfl⟩
 exact⟨x,(c.mem x).2 ((d.mem x).2 (lL _ h)),rfl⟩
end
open UK (str aF nth Only Row ay)
open DP (Rc bU aS jc eT gm jo TH bV bi Rc.has)
theorem As(a b:Nat)(j:a<100000)(k:b<100000)(W:World) :
  Calls prog 46 #[V U a,V U b] W λ e i=>e=aw (V a7 ((UInt64.ofNat (bi (a/16) (b/16))).toNat:Int))/\i=W:=by
 have c:=zH (PK (a/16) (b/16) Z Z W);obtain⟨x,g⟩:∃x,x=a/16:=⟨_,rfl⟩;obtain⟨y,h⟩:∃y,y=b/16:=⟨_,rfl⟩;rw[<-g,<-h]at c ⊢;have n:(a:Int).tdiv 16=(x:Int):=by rw[nP Z];omega
 have o:(b:Int).tdiv 16=(y:Int):=by rw[nP Z];omega
 have t3:(a:Int)/16=(x:Int):=Z
 have t4:(b:Int)/16=(y:Int):=Z
 have l:x<100000:=Z
 have m:y<100000:=Z
 clear g h;obtain⟨d,f⟩:∃d:Nat,d=(UInt64.ofNat (bi x y)).toNat:=⟨_,rfl⟩;rw[<-f]at c ⊢;clear f
 go_enter func46,ntmps46
 go_wp2_with fail
 refine c.out.mono ?_;rintro e i ⟨rfl,rfl⟩;go_wp2;go_ret;exact⟨rfl,rfl⟩
theorem ng(q:Rc)(s:q.ok)(a b:Nat)(F:a<100000)(G:b<100000)(W:World) :
  Calls prog 14 #[.agg #[V U q.r,V U q.c,V U q.h,V U q.w],V U a,V U b] W λ e w=>e=aw (a6 (q.has a b))/\Below W W w:=by
 obtain⟨x,y,z,A⟩:=s;obtain⟨m,g⟩:∃m,m=W.alloc (.cells #[V U q.r,V U q.c,V U q.h,V U q.w] 23):=⟨_,rfl⟩;have p:ay m W #[V U q.r,V U q.c,V U q.h,V U q.w]:=g▸ay.new W _ _;have j:Hid (Below W W m):=g▸(aU _ _).alloc (aH _) _;obtain⟨B,C,D,E⟩:=zZ p;have H:q.r<=100000:=Z
 have I:q.c<=100000:=Z
 clear p x y z A;obtain⟨v,n⟩:∃v,v=q.has a b:=⟨_,rfl⟩;have c:=zH n;rw[<-n];clear n;unfold Rc.has at c;by_cases f:q.r<=a
 ·by_cases i:a<q.r+q.h
  ·by_cases k:q.c<=b
   ·have o:(q.r:Int)<=a:=Z
    have r:(a:Int)-q.r<q.h:=Z
    have t:(q.c:Int)<=b:=Z
    by_cases l:b<q.c+q.w
    ·have u:(b:Int)-q.c<q.w:=Z
     have d:v=true:=by rw[c.out];exact decide_eq_true ⟨f,i,k,l⟩
     subst d;clear f i k l c
     go_enter func14,ntmps14
     go_wp2_with (simp only[<-g])
     all_goals (go_ret;exact⟨rfl,j.out⟩)
    have u:¬(b:Int)-q.c<q.w:=Z
    have d:v=false:=by rw[c.out];exact decide_eq_false (λ h=>l h.2.2.2)
    subst d;clear f i k l c
    go_enter func14,ntmps14
    go_wp2_with (simp only[<-g])
    all_goals (go_ret;exact⟨rfl,j.out⟩)
   have o:(q.r:Int)<=a:=Z
   have r:(a:Int)-q.r<q.h:=Z
   have t:¬(q.c:Int)<=b:=Z
   have d:v=false:=by rw[c.out];exact decide_eq_false (λ h=>k h.2.2.1)
   subst d;clear f i k c
   go_enter func14,ntmps14
   go_wp2_with (simp only[<-g])
   all_goals (go_ret;exact⟨rfl,j.out⟩)
  have o:(q.r:Int)<=a:=Z
  have r:¬(a:Int)-q.r<q.h:=Z
  have d:v=false:=by rw[c.out];exact decide_eq_false (λ h=>i h.2.1)
  subst d;clear f i c
  go_enter func14,ntmps14
  go_wp2_with (simp only[<-g])
  all_goals (go_ret;exact⟨rfl,j.out⟩)
 have o:¬(q.r:Int)<=a:=Z
 have d:v=false:=by rw[c.out];exact decide_eq_false (λ h=>f h.1)
 subst d;clear f c
 go_enter func14,ntmps14
 go_wp2_with (simp only[<-g])
 all_goals (go_ret;exact⟨rfl,j.out⟩)
open DP (Rc)
theorem B0(q:Rc)(n:q.ok)(a b p:Nat)(s:a<100000)(t:b<100000)(W:World)(i:W.cell? p=some (V U a))(j:W.cell? (p,1)=some (V U b))(m:p<W.1.size) :
  Calls prog 49 #[.agg #[V U q.r,V U q.c,V U q.h,V U q.w],aq p] W λ e o=>e=aw (a6 (q.has a b))/\Below W W o:=by
 obtain⟨c,f⟩:∃c,c=W.alloc (.cells #[V U q.r,V U q.c,V U q.h,V U q.w] 23):=⟨_,rfl⟩;have l:ay c W #[V U q.r,V U q.c,V U q.h,V U q.w]:=f▸ay.new W _ _;have d:Below W W c:=f▸(aU _ _).alloc (aH _) _;obtain⟨u,v,w,x⟩:=zZ l;have y:c.cell? p=some (V U a):=by rw[<-i];exact eB (d.block p m)
 have z:c.cell? (p,1)=some (V U b):=by rw[<-j];exact eB (d.block p m)
 have h:=zH (ng q n a b s t c);have g:=zH d;clear l d i j n;subst f
 go_enter func49,ntmps49
 go_wp2_with fail
 refine h.out.mono ?_;rintro e o ⟨rfl,k⟩;have r:=zH (g.out.trans (k.mono g.out.size));clear h k;go_wp2;go_ret;exact⟨rfl,r.out⟩
theorem Yu(k:UInt64)(W:World) :
  Calls prog 52 #[V a7 k.toNat] W λ e j=>e=aw (.agg #[V U (k.toNat/4294967296:Nat),V U (k.toNat%4294967296:Nat)])/\Below W W j:=by
 have g:k.toNat<18446744073709551616:=k.toNat_lt
 have a:bits BinOp.and a7 (k.toNat:Int) 4294967295=((k.toNat%4294967296:Nat):Int):=by
  have f:=u64_and_nat k.toNat 4294967295 g (by decide);have i:k.toNat &&& 4294967295=k.toNat%4294967296:=Nat.and_two_pow_sub_one_eq_mod k.toNat 32;rw[i]at f;exact f
 have b:=UK.Tw k;have c:wrap64 ((k.toNat/4294967296:Nat):Int)=((k.toNat/4294967296:Nat):Int):=by unfold wrap64;omega
 have d:wrap64 ((k.toNat%4294967296:Nat):Int)=((k.toNat%4294967296:Nat):Int):=by unfold wrap64;omega
 have h:=bp a b c d;clear a b c d g
 go_enter func52,ntmps52
 go_wp2;obtain⟨a,b,c,d⟩:=h.out
 rw[a,b,c,d];refine bodyPost_ret (UK.Yv (p:=2) (ty:=25) rfl _ (ay.new W _ _) rfl underlying25 rfl (by kernel_rfl)) rfl ?_;exact⟨rfl,(aU _ _).alloc (aH _) _⟩
theorem DO(j:RX W ao c l)(o:∀q∈l,q.ok)(N:Y l<=700)(H:a<100000)(s:b<100000)(m:W.cell? p=some (V U a))(n:W.cell? (p,1)=some (V U b))(u:p<W.1.size) :
  Calls prog 110 #[ad ao (Y l) c,.func (.func 49) #[] #[aq p]] W λ e F=>∃z:Int,e=aw (V U z)/\(0<=z↔∃q∈l,q.has a b=true)/\Below W W F:=by
 have G:=bp j o m n;clear j o m n
 go_enter func110,ntmps110
 go_wp2_with fail
 go_loopw [8] (λ v wr=>∃i:Nat,v=V U i/\i<=Y l/\Hid (∀q∈l.take i,q.has a b=false)/\Hid (Below W W wr)) (λ v _=>1000-(intOf v).toNat)
 case atStart=>exact⟨0,rfl,aR _,zH (λ q f=>by cases f),zH (aU _ _)⟩
 obtain⟨i,rfl,M,A,d⟩:=hrel;by_cases t:i<Y l
 ·obtain⟨q,f⟩:∃q,l[i]?=some q:=⟨_,bK t⟩;obtain⟨j,o,m,n⟩:=G.out;have D:RX wr ao c l:=j.ae d.out.size (λ b s=>d.out.block b (j.lt s));obtain⟨Q,rfl,I,J,K,L⟩:=D.four f;have P:(i:Int)<Y l:=Z
  have w:=dU f;have x:=zH (B0 q (o q w) a b p H s wr (by rw[<-m];exact eB (d.out.block p u)) (by rw[<-n];exact eB (d.out.block p u)) (cB u d.out.size))
  have E:l.take (i+1)=l.take i++[q]:=by
   rw[List.take_succ_eq_append_getElem t];congr 2;exact bf ((bK t).symm.trans f)
  have B:=bg w E;clear j o m n D f w E
  go_wp2_with fail
  refine x.out.mono ?_;rintro e F ⟨rfl,C⟩;have HB2:=zH (d.out.trans (C.mono d.out.size));clear x C
  cases g:q.has a b with
  | true=>
   have r:=zH g;clear g;go_wp2;go_ret;exact⟨i,rfl,⟨λ _=>⟨q,B.out.1,r.out⟩,λ _=>Z⟩,HB2.out⟩
  | false=>
   have r:Hid (∀y∈l.take (i+1),y.has a b=false):=zH (λ y k=>by
    rw[B.out.2]at k;rcases dm.1 k with k|k
    ·exact A.out y k
    rw[bu.1 k];exact g)
   clear g;go_wp2;go_roundw
   case rel=>exact⟨i+1,by go_num,Z,r,HB2⟩
   case measure=>simp only[intOf];omega
 obtain rfl:i=Y l:=Z
 go_wp2;go_ret
 refine⟨-1,rfl,⟨λ h=>Z,λ ⟨q,f,g⟩=>?_⟩,d.out⟩;have:=A.out q (by rw[dY];exact f);rw[this]at g;cases g
theorem Bs(o:RX W ao c l)(n:∀q∈l,q.ok)(x:Y l<=700)(u:a<100000)(w:b<100000)(k:W.cell? p=some (V U a))(d:W.cell? (p,1)=some (V U b))(y:p<W.1.size) :
  Calls prog 48 #[ad ao (Y l) c,.func (.func 49) #[] #[aq p]] W λ e r=>e=aw (a6 (l.any λ q=>q.has a b))/\Below W W r:=by
 have HI:=zH (DO o n x u w k d y);clear o n k d;obtain⟨v,g⟩:∃v,v=l.any λ q=>q.has a b:=⟨_,rfl⟩;rw[<-g];have j:=zH g;clear g
 go_enter func48,ntmps48
 go_wp2_with fail
 refine HI.out.mono ?_;rintro e r ⟨z,rfl,i,m⟩;have s:=zH m
 have A:v=decide (0<=z):=by
  rw[j.out];by_cases h:0<=z
  ·rw[decide_eq_true h];obtain⟨q,d,f⟩:=i.1 h;exact List.any_eq_true.2 ⟨q,d,f⟩
  rw[decide_eq_false h,Bool.eq_false_iff];intro t;obtain⟨q,d,f⟩:=List.any_eq_true.1 t;exact h (i.2 ⟨q,d,f⟩)
 clear i m HI j;subst A;go_wp2;go_ret;exact⟨rfl,s.out⟩
theorem YD{l:List UInt64}(h:NR W ao c (az l))(i:Y l<1000000)(v:UInt64) :
  ∃a b W',(Builtin.append_ #[88,88] 88 #[ad ao (Y l) c,ad W 1 1]).run prog (W.alloc (.cells #[V a7 (v.toNat:Int)] 77))= .ok (ad (some ⟨a,0,none⟩) (Y l+1) b) W'/\NR W' (some ⟨a,0,none⟩) b (az (l++[v]))/\Only a W W'/\(aG ao a\/W.1.size<=a):=by
 obtain⟨a,b,W',d,e,f,g⟩:=Fz h i v;exact⟨a,b,W',d,al ⟨a,rfl,e⟩,f,g⟩
def vM(a b:Nat)(X:List bU)(J:List UInt64)(i:Nat)(ks:List UInt64):Prop:=
 ∃ess:List (List EM),Y ess=i/\(∀(j:Nat) (g:List EM),ess[j]?=some g->∃o,J[j]?=some o/\g.map jg=iq o.toNat X)/\ks=ess.flatMap (fD a b)
theorem vM.step(h:vM a b X J i ks)(q:J[i]?=some o)(p:g.map jg=iq o.toNat X):vM a b X J (i+1) (ks++fD a b g):=by
 obtain⟨ess,l,m,n⟩:=h;refine⟨ess++[g],by rw[zl,l];rfl,λ j es' c=>?_,by rw[n,List.flatMap_append];simp⟩;by_cases e:j<Y ess
 ·rw[bR e]at c;exact m j es' c
 rw[bZ Z]at c
 have d:j-Y ess=0:=by
  by_cases f:j-Y ess=0
  ·exact f
  have:=(dz.1 c).1;simp only[dF,List.length_nil]at this;omega
 rw[d]at c;have k:g=es':=by simpa using c
 subst k;exact⟨o,by rw[show j=i from Z];exact q,p⟩
theorem vM.two{b1 c:UInt64}(h:vM a b X [b1,c] 2 ks):∃es1 es2,es1.map jg=iq b1.toNat X/\es2.map jg=iq c.toNat X/\ks=fD a b es1++fD a b es2:=by
 obtain⟨ess,k,d,l⟩:=h
 obtain⟨es1,es2,rfl⟩:∃es1 es2,ess=[es1,es2]:=by
  match ess,k with
  | [x,y],_=>exact⟨x,y,rfl⟩
 obtain⟨m,f,i⟩:=d 0 es1 rfl;obtain⟨n,g,j⟩:=d 1 es2 rfl;have e:b1=m:=by simpa using f
 have e2':c=n:=by simpa using g
 subst e e2';exact⟨es1,es2,i,j,by rw[l];simp⟩
section
variable{q C r:Nat}
theorem YF(t:DZ E W P D h e f H k A q C r root)(di:DI A G z C r root F (gX X))(hX:kY X)(ha:a<100000)(hb:b<100000)(hk:k+20000<900000000) :
  Calls prog 13 #[aq h,.agg #[V U a,V U b]] W λ s w'=>∃ao c,s=aw (a9 #[ad ao (eX a b X).length c,V U 0])/\CX w' ao c ((eX a b X).map λ x=>fC x.1)/\(∀j,aG ao j->W.1.size<=j)/\PZ (λ j=>E j\/aG ao j) w' P D A (k+20000)/\Kept E W w':=by
 obtain⟨w0,ht⟩:∃w0,w0=W.alloc (.cells #[V U a,V U b] 25):=⟨_,rfl⟩;have hr:Below W W w0:=ht▸(aU _ _).alloc (aH _) _;have w:ay w0 W #[V U a,V U b]:=ht▸ay.new W _ _;have d0:=w.c0;have d1:=w.c1;obtain⟨bk,x9⟩:∃bk:UInt64,bk=UInt64.ofNat (bi (a/16) (b/16)):=⟨_,rfl⟩;have yt:bk.toNat=bi (a/16) (b/16):=by rw[x9,UInt64.toNat_ofNat'];unfold bi;omega
 obtain⟨wk,xt⟩:∃wk:UInt64,wk=UInt64.ofNat rY:=⟨_,rfl⟩;have uz:wk.toNat=rY:=by rw[xt];rfl
 have LG:Hid (∀hw,Calls prog 46 #[V U a,V U b] hw λ s w'=>s=aw (V a7 (bk.toNat:Int))/\w'=hw):=zH (λ hw=>by rw[x9];exact As a b ha hb hw);have HH:=bs t di hX hr w yt uz;clear t di hX hr w x9 yt xt uz;subst ht
 go_enter func13,ntmps13
 go_wp2_with fail
 refine(LG.out _).mono ?_;rintro s w5 ⟨rfl,rfl⟩;clear LG
 go_wp2_with fail
 obtain⟨J,xb⟩:∃J:List UInt64,J=[bk,wk]:=⟨_,rfl⟩;obtain⟨wl,hu⟩:∃wl,wl=(W.alloc (.cells #[V U a,V U b] 25)).alloc (.cells #[V a7 (bk.toNat:Int),V a7 18446744073709551615] 77):=⟨_,rfl⟩
 have HL:Hid (Below W W wl/\wl.1.size=W.1.size+2/\wl.cell? W.1.size=some (V U a)/\wl.cell? (W.1.size,1)=some (V U b)/\∀(i:Nat) (o:UInt64),J[i]?=some o->wl.cell? ⟨W.1.size+1,i,none⟩=some (V a7 (o.toNat:Int))):=by
  obtain⟨_,_,_,hr,w,_,uz⟩:=HH.out;obtain⟨w0,ht⟩:∃w0,w0=W.alloc (.cells #[V U a,V U b] 25):=⟨_,rfl⟩;have xq:w0.1.size=W.1.size+1:=by rw[ht];simp
  rw[<-ht]at hu hr w;have xl:Below w0 w0 wl:=hu▸(aU _ _).alloc (aH _) _;have ho:ay wl w0 #[V a7 (bk.toNat:Int),V a7 18446744073709551615]:=hu▸ay.new w0 _ _;rw[xq]at ho;have Aa:=w.next xl;refine zH ⟨hr.trans (xl.mono hr.size),by rw[hu];simp[xq],Aa.cell 0 _ rfl,Aa.cell 1 _ rfl,λ i o hk=>?_⟩;rw[xb]at hk
  match i,hk with
  | 0,hk=>
   have:bk=o:=by simpa using hk
   rw[<-this];exact ho.cell 0 _ rfl
  | 1,hk=>
   have:wk=o:=by simpa using hk
   rw[<-this,show((wk.toNat:Nat):Int)=18446744073709551615 by rw[uz];rfl];exact ho.cell 1 _ rfl
  | n+2,hk=>simp at hk
 have HB:=zH xb;have Av:=zH hu;clear xb hu d0 d1
 go_loopw [6,25] (λ kv iv wr=>∃(i:Nat) (ao:Option Addr) (c:Nat) (ks:List UInt64),kv=ad ao (Y ks) c/\iv=V U i/\i<=2/\Y ks<=40*i/\Hid (∃E':Nat->Prop,DZ E' wr P D h e f H (k+6000*i) A q C r root/\(∀j,E j->E' j)/\E' W.1.size/\E' (W.1.size+1)/\(∀j,aG ao j->E' j/\W.1.size+2<=j)/\Kept (λ j=>E j\/j=W.1.size\/j=W.1.size+1) wl wr/\NR wr ao c (az ks)/\vM a b X J i ks)) (λ _ iv _=>10-(intOf iv).toNat)
 case atStart=>
  refine⟨0,none,0,[],rfl,rfl,aR _,aR _,zH ⟨λ j=>E j\/j=W.1.size\/j=W.1.size+1,?_,λ j d=>O d,al (O rfl),al (al rfl),λ j d=>(by cases d),?_,O ⟨rfl,rfl,rfl⟩,⟨[],rfl,λ j g d=>(by cases d),rfl⟩⟩⟩
  ·rw[<-Av.out];refine HH.out.1.wide HL.out.1 (λ j d=>?_) (λ j d=>O d);have:=HL.out.2.1;rcases d with d|d|d
   ·exact O d
   ·exact al ⟨Z,Z⟩
   exact al ⟨Z,Z⟩
  rw[<-Av.out];exact Kept.refl _ _
 obtain⟨i,ao,c,ks,rfl,rfl,hi,y7,HI⟩:=hrel;by_cases x5:i<2
 ·obtain⟨E',hz,eZ,h8,hc,y,B,S,h7⟩:=HI.out;obtain⟨vN,x6,Hw,dd1,Hy⟩:=HL.out;obtain⟨t,di,hX,_,_,yt,uz⟩:=HH.out;obtain⟨o,h9⟩:∃o,J[i]?=some o:=⟨_,bK (by rw[HB.out];exact x5)⟩;have cd:wr.cell? ⟨W.1.size+1,i,none⟩=some (V a7 (o.toNat:Int)):=by rw[<-Hy i o h9];exact eB (B.block _ (al (al rfl)))
  have d3:=hz.bd.c3;have q1:(i:Int)<2:=Z
  obtain⟨x3,hL⟩:∃x3,x3=iq o.toNat X:=⟨_,rfl⟩;have xw:=FE hX o.toNat;obtain⟨DR,x8,_⟩:=PY hX o.toNat;have uq:=zH (yW hz di o (by show(gm (iq o.toNat X)).length<=4000;omega) Z);rw[show gX X o.toNat=gm x3 by rw[hL];rfl]at uq;rw[<-hL]at DR x8 xw;have LU:=zH (λ hw=>Yt hw x3 DR Z);have HJ:=cg hz eZ h8 hc y B S h7 h9 hL DR x8;clear hz eZ h8 hc y B S h7 h9 hL DR x8 t di hX yt uz vN x6 Hw dd1 Hy HI
  go_wp2_with fail
  refine uq.out.mono ?_;rintro s wa ⟨n,rfl,pa,L⟩;have Qd:=bg pa L;clear pa L uq
  go_wp2_with fail
  refine(LU.out wa).mono ?_;rintro s N ⟨eo,ec,g,rfl,hg,hE,I⟩;have HE:=bm hg hE I
  have y5:Y g<=40:=by
   have K:=HJ.out.2.2.2.2.2.2.2.2.2.2.2;rw[<-hg,bS]at K;exact K
  have HQ:Hid (N.cell? W.1.size=some (V U a)/\N.cell? (W.1.size,1)=some (V U b)/\W.1.size<N.1.size/\¬aG ao W.1.size/\∀l,aG ao l->l<wa.1.size):=by
   obtain⟨pa,L⟩:=Qd.out;obtain⟨hz,eZ,h8,hc,y,B,S,_⟩:=HJ.out;obtain⟨vN,x6,Hw,dd1,Hy⟩:=HL.out;have K:=B.block W (al (O rfl));have h2:=L.block W h8;have x5:W.1.size<wl.1.size:=Z
   have h3:=I.block W (cB x5 (aT B.size L.size));refine zH ⟨?_,?_,cB x5 (aT B.size (aT L.size I.size)),λ s=>by have:=(y _ s).2;omega,λ l u=>cB (S.lt u) L.size⟩
   ·rw[<-Hw];exact eB (h3.trans (h2.trans K))
   rw[<-dd1];exact eB (h3.trans (h2.trans K))
  clear hg hE I LU
  go_wp2_with fail
  go_loopw [6,53] (λ kv jv wr2=>∃(j:Nat) (mR:Option Addr) (c2:Nat),kv=ad mR (ks++fD a b (g.take j)).length c2/\jv=V U j/\j<=Y g/\Hid (NR wr2 mR c2 (az (ks++fD a b (g.take j)))/\(∀l,aG mR l->aG ao l\/N.1.size<=l)/\Kept (λ l=>l<N.1.size/\¬aG ao l) N wr2)) (λ _ jv _=>100-(intOf jv).toNat)
  case atStart=>
   have e0:ks++fD a b (g.take 0)=ks:=by rw[kU];exact jl _
   refine⟨0,ao,c,by rw[e0],rfl,aR _,zH ⟨?_,λ l u=>O u,Kept.refl _ _⟩⟩;rw[e0];obtain⟨_,_,I⟩:=HE.out;obtain⟨pa,L⟩:=Qd.out;obtain⟨hz,eZ,h8,hc,y,B,S,_⟩:=HJ.out;exact S.ae (aT L.size I.size) (λ l u=>(I.block l (cB (S.lt u) L.size)).trans (L.block l (y l u).1))
  obtain⟨j,mR,c2,rfl,rfl,d,HK⟩:=hrel;by_cases y0:j<Y g
  ·obtain⟨x,hx⟩:∃x,g[j]?=some x:=⟨_,bK y0⟩;obtain⟨hg,hE,I⟩:=HE.out;obtain⟨Hw,dd1,Qe,TB,Hz⟩:=HQ.out;obtain⟨h0,h5,p⟩:=HK.out;have x4:EX wa wr eo ec g:=hE.kept (p.mono (λ l u=>⟨u.1,λ s=>by have:=Hz l s;omega⟩));obtain⟨l,rfl,c0,c1⟩:=x4.two hx;have q2:(j:Int)<Y g:=Z
   have x7:=dU hx;have xd:=HJ.out.2.2.2.2.2.2.2.2.2.2.1.good (jg x) (by rw[<-hg];exact bL.2 ⟨x,x7,rfl⟩);obtain⟨wx,xj⟩:∃wx,wx=wr.alloc (.cells #[V a7 (x.k.toNat:Int),ad x.ro (Y x.l) x.rc] 104):=⟨_,rfl⟩;have w:Below wr wr wx:=xj▸(aU _ _).alloc (aH _) _;have hp:ay wx wr #[V a7 (x.k.toNat:Int),ad x.ro (Y x.l) x.rc]:=xj▸ay.new wr _ _;have b1:=hp.c1;have TC:W.1.size<wr.1.size:=cB Qe p.size;have xa:wx.1[W.1.size]?=N.1[W.1.size]?:=(w.block _ TC).trans (p.block _ ⟨Qe,TB⟩);have Qf:=zH (Bs (W:=wx) (p:=W.1.size) (a:=a) (b:=b) ((x4.sub x x7).ae w.size (λ l u=>w.block l ((x4.sub x x7).lt u))) xd.1 xd.2 ha hb (by rw[<-Hw];exact eB xa) (by rw[<-dd1];exact eB xa) (cB TC w.size));rw[show(x.l.any λ q=>q.has a b)=Ak a b x from rfl]at Qf;have HM:=br h0 h5 p w hp;have xs:=tw (a:=a) (b:=b) hx;have HST:=zH xs
   have y6:(fD a b (g.take j)).length<=40:=by
    have:=Y2 (a:=a) (b:=b) (g.take j);rw[zt]at this;omega
   clear hg hE I Hw dd1 Qe TB Hz h0 h5 p x4 x7 xd w hp TC xa xs HK hx;subst xj
   go_wp2_with fail
   refine Qf.out.mono ?_;rintro s w4 ⟨rfl,h6⟩;obtain⟨h0,h5,p,w,hp⟩:=HM.out
   cases hv:Ak a b x with
   | false=>
    have qY:Hid (NR w4 mR c2 (az (ks++fD a b (g.take (j+1))))/\(∀l,aG mR l->aG ao l\/N.1.size<=l)/\Kept (λ l=>l<N.1.size/\¬aG ao l) N w4):=by
     have s:=HST.out;rw[hv]at s;have v:Below wr wr w4:=w.trans (h6.mono w.size);refine zH ⟨?_,h5,⟨v.os.trans p.os,v.tape.trans p.tape,v.output.trans p.output,aT p.size v.size,λ l u=>(v.block l (cB u.1 p.size)).trans (p.block l u)⟩⟩;rw[s];exact h0.ae v.size (λ l u=>v.block l (h0.lt u))
    have e2:fD a b (g.take (j+1))=fD a b (g.take j):=by
     have s:=HST.out;rw[hv]at s;exact s
    clear h0 h5 p w hp h6 HM Qf HST hv;go_wp2;go_roundw
    case rel=>exact⟨j+1,mR,c2,by rw[e2,zl],by go_num,Z,qY⟩
    case measure=>simp only[intOf];omega
   | true=>
    have e2:ks++fD a b (g.take (j+1))=(ks++fD a b (g.take j))++[x.k]:=by
     have s:=HST.out;rw[hv]at s;rw[s,cO];rfl
    have v:Below wr wr w4:=w.trans (h6.mono w.size);have b0:=(hp.next h6).c0;have uY:NR w4 mR c2 (az (ks++fD a b (g.take j))):=h0.ae v.size (λ l u=>v.block l (h0.lt u));obtain⟨g',c',w5,ea,r5,o5,hy⟩:=YD uY (by rw[zl];omega) x.k
    have qY:Hid (NR w5 g' c' (az (ks++fD a b (g.take (j+1))))/\(∀l,aG g' l->aG ao l\/N.1.size<=l)/\Kept (λ l=>l<N.1.size/\¬aG ao l) N w5):=by
     have xh:N.1.size<=w4.1.size:=aT p.size v.size
     have xm:aG ao g'\/N.1.size<=g':=by
      rcases hy with t|t
      ·exact h5 g' t
      exact al (aT xh t)
     refine zH ⟨by rw[e2];exact r5,λ q hq=>by rw[eY hq];exact xm,⟨o5.os.trans (v.os.trans p.os),o5.tape.trans (v.tape.trans p.tape),o5.output.trans (v.output.trans p.output),aT xh o5.size,λ q hq=>(o5.block q (cB hq.1 xh) (λ s=>?_)).trans ((v.block q (cB hq.1 p.size)).trans (p.block q hq))⟩⟩;subst s;rcases xm with t|t
     ·exact hq.2 t
     exact absurd hq.1 Z
    have e3:(ks++fD a b (g.take (j+1))).length=Y ks+(fD a b (g.take j)).length+1:=by
     rw[e2,zl,zl];rfl
    rw[zl]at ea;clear h0 h5 p w hp h6 HM Qf HST hv uY r5 o5 hy v e2
    go_wp2_with (at_builtin;refine UK.jm ea rfl rfl rfl rfl rfl ?_)
    go_wp2;go_roundw
    case rel=>exact⟨j+1,some ⟨g',0,none⟩,c',by rw[e3],by go_num,Z,qY⟩
    case measure=>simp only[intOf];omega
  obtain rfl:j=Y g:=Z
  have xu:Hid (∃FJ:Nat->Prop,DZ FJ wr P D h e f H (k+6000*(i+1)) A q C r root/\(∀j,E j->FJ j)/\FJ W.1.size/\FJ (W.1.size+1)/\(∀j,aG mR j->FJ j/\W.1.size+2<=j)/\Kept (λ j=>E j\/j=W.1.size\/j=W.1.size+1) wl wr/\NR wr mR c2 (az (ks++fD a b g))/\vM a b X J (i+1) (ks++fD a b g)):=by
   obtain⟨hg,hE,I⟩:=HE.out;obtain⟨h0,h5,p⟩:=HK.out;obtain⟨pa,L⟩:=Qd.out;obtain⟨hz,eZ,h8,hc,y,B,S,h7,h9,hL,_⟩:=HJ.out;obtain⟨Hw,dd1,Qe,TB,Hz⟩:=HQ.out;obtain⟨vN,x6,_,_,_⟩:=HL.out;obtain⟨t,di,hX,_⟩:=HH.out;rw[dY]at h0;have xo:∀j,j<wa.1.size->¬aG ao j->wr.1[j]?=wa.1[j]?:=λ j d hn=>(p.block j ⟨cB d I.size,hn⟩).trans (I.block j d)
   have nH:∀j,(E j\/j=W.1.size\/j=W.1.size+1)->¬aG ao j/\j<wa.1.size:=λ j d=>by
    rcases d with d|d
    ·have K:=t.pz.there j d;exact⟨λ s=>by have:=(y j s).2;omega,by have:=B.size;have:=L.size;have:=vN.size;omega⟩
    exact⟨λ s=>by have:=(y j s).2;omega,by have:=B.size;have:=L.size;omega⟩
   have Mw:∀j,(E j\/j=W.1.size\/j=W.1.size+1)->E' j:=λ j d=>by
    rcases d with d|rfl|rfl
    ·exact eZ j d
    ·exact h8
    exact hc
   have x0:=hz.of pa L;have Mx:Kept (λ j=>E j\/j=W.1.size\/j=W.1.size+1) wa wr:=⟨p.os.trans I.os,p.tape.trans I.tape,p.output.trans I.output,aT I.size p.size,λ j d=>xo j (nH j d).2 (nH j d).1⟩
   have xi:¬aG ao 0 :=λ s=>by
    have K:=(y _ s).2;have h2:=t.pz.tab.lt;omega
   have xg:=x0.pz.over (W':=wr) (R:=λ j=>aG ao j) (λ j d=>(y j d).1) xi (aT I.size p.size) xo (T:=λ j=>(E j\/j=W.1.size\/j=W.1.size+1)\/aG mR j) (λ j d=>by
    rcases d with d|d
    ·exact O (Mw j d)
    rcases h5 j d with K|K
    ·exact O (y j K).1
    exact al ⟨aT I.size K,h0.lt d⟩)
   refine zH ⟨_,⟨xg.up Z,x0.bd.ae (Mx.block _ (O t.md)),O (O t.md),x0.b1.ae (Mx.block _ (O t.m1)),O (O t.m1),x0.b2.ae (Mx.block _ (O t.m2)),O (O t.m2),x0.bh.ae (Mx.block _ (O t.mh)),O (O t.mh)⟩,λ j d=>O (O d),O (al (O rfl)),O (al (al rfl)),λ j d=>⟨al d,?_⟩,B.trans ((L.mono Mw).trans Mx),h0,h7.step h9 (by rw[hg,hL])⟩;rcases h5 j d with K|K
   ·exact(y j K).2
   have:=B.size;have:=L.size;have:=I.size;omega
  have y1:(ks++fD a b g).length<=40*(i+1):=by
   have:=Y2 (a:=a) (b:=b) g;rw[zl];omega
  have e3:(ks++fD a b (g.take (Y g))).length=(ks++fD a b g).length:=by rw[dY]
  rw[e3];clear e3 HK HE Qd HJ HQ;go_wp2;go_roundw
  case rel=>exact⟨i+1,mR,c2,_,rfl,by go_num,Z,y1,xu⟩
  case measure=>simp only[intOf];omega
 obtain rfl:i=2:=Z
 obtain⟨wo,y2⟩:∃wo,wo=wr:=⟨_,rfl⟩;subst y2;obtain⟨E',hz,eZ,h8,hc,y,B,S,h7⟩:=HI.out;have Qg:=zH (So.ul S Z)
 have xv:Y ks<=c:=by
  rcases S with⟨_,hv,rfl⟩|⟨l,_,y3⟩
  ·have:=congrArg List.length hv;rw[dH]at this;simp only[List.length_nil]at this;omega
  have:=y3.le;rw[dH]at this;exact this
 have HJ:=bw hz eZ y B h7 S;clear hz eZ h8 hc y B S h7 HI
 go_wp2_with fail
 refine Qg.out.mono ?_;rintro s w2 ⟨rfl,R,hh,xp,p⟩;have Qh:=So.uu (c:=c) xp (by rw[hh.len];exact xv) (by rw[hh.len];omega) hh.up;rw[hh.len]at Qh;have YG:=zH Qh;have HS2:=bg hh p;clear hh xp p Qg Qh
 go_wp2_with fail
 refine YG.out.mono ?_;rintro s wc ⟨M,rfl,hj,hl,T⟩
 have y8:Y M<=80:=by
  have K:=hj.len;have h2:=HS2.out.1.len;omega
 have sO:=bm hj hl T;clear hj hl T YG
 go_wp2_with fail
 go_loopw [15,73] (λ ov jv wr2=>∃(m:Nat) (bo:Option Addr) (bc:Nat),ov=ad bo m bc/\jv=V U m/\m<=Y M/\Hid (CX wr2 bo bc ((M.take m).map λ x=>fC x.toNat)/\(∀l,aG bo l->wc.1.size<=l)/\Below wc wc wr2)) (λ _ jv _=>100-(intOf jv).toNat)
 case atStart=>exact⟨0,none,0,rfl,rfl,aR _,zH ⟨O ⟨rfl,rfl,rfl⟩,λ l u=>(by cases u),aU _ _⟩⟩
 obtain⟨m,bo,bc,rfl,rfl,hm,HK⟩:=hrel;by_cases qQ:m<Y M
 ·obtain⟨o,h9⟩:∃o,M[m]?=some o:=⟨_,bK qQ⟩;obtain⟨h1,he,Q⟩:=HK.out;obtain⟨hj,hl,T⟩:=sO.out;obtain⟨l,rfl,cd⟩:=NR.Qa (hl.ae Q.size (λ l u=>Q.block l (hl.lt u))) h9;have q1:(m:Int)<Y M:=Z
  have F9:M[m]=o:=bf ((bK qQ).symm.trans h9)
  have hs:(M.take (m+1)).map (λ x=>fC x.toNat)=(M.take m).map (λ x=>fC x.toNat)++[fC o.toNat]:=by
   rw[List.take_succ_eq_append_getElem qQ,F9,dI];rfl
  have xf:=Yu o wr;obtain⟨x1,xk⟩:∃x1,x1=o.toNat/4294967296:=⟨_,rfl⟩;obtain⟨x2,ho⟩:∃x2,x2=o.toNat%4294967296:=⟨_,rfl⟩;rw[<-xk,<-ho]at xf;have M0:=zH xf;rw[show fC o.toNat=(x1,x2) by rw[xk,ho];rfl]at hs;have HM:=bp h1 he Q hs;clear h1 he Q hj hl T h9 F9 hs HK xf xk ho
  go_wp2_with fail
  refine M0.out.mono ?_;rintro s w4 ⟨rfl,h6⟩;obtain⟨h1,he,Q,hs⟩:=HM.out;have xe:((M.take m).map λ x=>fC x.toNat).length=m:=by rw[bS,zt];omega
  have M3:CX w4 bo bc ((M.take m).map λ x=>fC x.toNat):=h1.ae h6.size (λ l u=>h6.block l (h1.lt u));obtain⟨g',c',w5,ea,r5,hy,o5⟩:=M3.push (by rw[xe];omega) (x1,x2);rw[xe]at ea;have v:Below wc wc w4:=Q.trans (h6.mono Q.size)
  have xc:wc.1.size<=g':=by
   rcases hy with t|t
   ·exact he g' t
   exact aT v.size t
  have qY:Hid (CX w5 g' c' ((M.take (m+1)).map λ x=>fC x.toNat)/\(∀l,aG g' l->wc.1.size<=l)/\Below wc wc w5):=zH ⟨by rw[hs];exact r5,λ q hq=>by rw[eY hq];exact xc,v.trans (o5.below v.size xc)⟩;clear h1 he Q hs xe M3 r5 hy o5 v xc h6 HM M0
  go_wp2_with (at_builtin;refine UK.jm ea rfl rfl rfl rfl rfl ?_)
  go_wp2;go_roundw
  case rel=>exact⟨m+1,some ⟨g',0,none⟩,c',by go_num,by go_num,Z,qY⟩
  case measure=>simp only[intOf];omega
 obtain rfl:m=Y M:=Z
 go_wp2;go_ret2
 obtain⟨h1,he,Q⟩:=HK.out;obtain⟨hj,hl,T⟩:=sO.out;obtain⟨hh,p⟩:=HS2.out;obtain⟨hz,eZ,y,B,h7,S⟩:=HJ.out;obtain⟨vN,x6,_,_,_⟩:=HL.out;obtain⟨t,di,hX,y4,_,yt,uz⟩:=HH.out;rw[HB.out]at h7;obtain⟨es1,es2,e1,e2,e3⟩:=h7.two;rw[yt]at e1;rw[uz]at e2;have has:=tV hX.ok.up e1 e2 (e3▸hh) hj;rw[dY]at h1
 have Ia:M.map (λ x=>fC x.toNat)=(eX a b X).map (λ x=>fC x.1):=by
  have:=congrArg (List.map fC) has;rw[List.map_map,List.map_map]at this;exact this
 have aD:Y M=(eX a b X).length:=by
  have:=congrArg List.length has;rw[bS,bS]at this;exact this
 rw[Ia]at h1;have xn:∀j,j<wo.1.size->¬aG ao j->wr.1[j]?=wo.1[j]?:=λ j d hn=>(Q.block j (cB d (aT p.size T.size))).trans ((T.block j ⟨cB d p.size,hn⟩).trans (p.block j ⟨d,hn⟩));have M4:wo.1.size<=wr.1.size:=aT p.size (aT T.size Q.size)
 have nH:∀j,E j->¬aG ao j/\j<wo.1.size:=λ j d=>by
  have K:=t.pz.there j d;exact⟨λ s=>by have:=(y j s).2;omega,by have:=B.size;have:=vN.size;omega⟩
 have xi:¬aG ao 0 :=λ s=>by
  have K:=(y _ s).2;have h2:=t.pz.tab.lt;omega
 have xg:=hz.pz.over (W':=wr) (R:=λ j=>aG ao j) (λ j d=>(y j d).1) xi M4 xn (T:=λ j=>E j\/aG bo j) (λ j d=>by
  rcases d with d|d
  ·exact O (eZ j d)
  exact al ⟨aT (aT p.size T.size) (he j d),h1.lt d⟩)
 have kE:Kept E wo wr:=⟨Q.os.trans (T.os.trans p.os),Q.tape.trans (T.tape.trans p.tape),Q.output.trans (T.output.trans p.output),M4,λ j d=>xn j (nH j d).2 (nH j d).1⟩;have kW:Kept E W wl:=t.pz.kept vN;refine⟨bo,bc,by rw[aD];rfl,h1,λ j d=>?_,xg.up Z,kW.trans ((B.mono (λ j d=>O d)).trans kE)⟩;have K:=he j d;have h2:=B.size;have h3:=p.size;have h4:=T.size;omega
end
open Go.RowKit
open SR (aO bz total)
open SL (hole add trim room live)
open Go.BigFrame
section
variable{F:Nat->Prop}{L N cap:Nat}
theorem GV(h:PZ E W P D A k)(t:k+2<900000000)(hf:¬A.Full) :
  Calls prog 87 #[aq P] W λ e l=>∃T,e=aw (a9 #[aq (some ⟨T,0,none⟩),V U 0])/\ay l T (rG P A.next)/\W.1.size<=T/\PZ (λ j=>E j\/j=T) l P D A.take (k+2)/\Kept E W l:=by
 have o:=zH (JV h t hf);clear h
 go_enter_defers func87,ntmps87
 go_wp2_with fail
 refine o.out.mono ?_;rintro e y ⟨L,N,cap,rfl,b,d⟩;have n:=zH (JW b);have m:=bg b d;clear o b d
 go_wp2_with fail
 refine n.out.mono ?_;rintro e a ⟨rfl,rfl⟩;obtain⟨b,d⟩:=m.out;have i:Below a a (a.alloc (.cells #[aq P,V U A.next] 230)):=(aU _ _).alloc (aH _) _;have w:(a.alloc (.cells #[aq P,V U A.next] 230)).1.size=a.1.size+1:=by simp
 have q:=b.wide i (T:=λ j=>E j\/j=a.1.size) (λ j c=>by
  rcases c with c|c
  ·exact O c
  exact al Z)
 have g:=d.trans (b.kept i);have f:=ay.new a #[aq P,V U A.next] 230;have s:=zH (DT .returning q);have r:=bm g f d.size;clear n m b d i q g f w;go_wp2;refine leaves_cons (f:=65) (args:= #[aq L]) (by simp) (by simp[go_sem]) ?_;refine s.out.mono ?_;rintro e x z ⟨rfl,rfl,v,p⟩;obtain⟨g,f,u⟩:=r.out;refine⟨_,results_tmp2 rfl _ _ _,?_⟩;exact⟨a.1.size,rfl,f.ae (p.block _ (al rfl)),u,v,g.trans (p.mono (λ j c=>O c))⟩
theorem YI(o:Nat)(h:o+4<=504):dO (UK.bM 504) o=w32 0:=by
 unfold dO
 have e:((UK.bM 504).drop o).take 4=aJ 0:=by
  unfold UK.bM;rw[List.drop_replicate,List.take_replicate,gV Z];rfl
 rw[e,Fg];rfl
end
open DP (Rc bU jc eT gm bi iq eX rY TH TT)
theorem YH{T:Nat}(h:ay W T #[aq P,V U Q]) :
  Calls prog 84 #[aq T] W λ e a=>e=aw (V U Q)/\a=W:=by
 have b:=h.c1;clear h
 go_enter func84,ntmps84
 go_wp2;go_ret
 exact⟨rfl,rfl⟩
theorem AK(h:ay W H (rG P root)) :
  Calls prog 89 #[aq H] W λ e a=>e=aw (V U root)/\a=W:=by
 have b:=h.c1;clear h
 go_enter func89,ntmps89
 go_wp2;go_ret
 exact⟨rfl,rfl⟩
def eL:List UInt8:=qH (UK.bM 504) [] []
def JU(M:Int):AP:=(Aw M).take.ax 1 eL
def Cj(M:Int):AP:=(JU M).take.ax 2 eL
def FK(M:Int):AP:=(Cj M).take.take
structure NB(M:Int)(B:AP):Prop where
 op:B.op=none
 au:B.au=5
 free:B.free=[]
 aA:B.aA=pK M
 c:∀p,p≠4->B.c p=(FK M).c p
theorem u9:NB M (FK M):=⟨rfl,rfl,rfl,rfl,λ _ _=>rfl⟩
theorem NB.keep(h:NB M B):B.keep 4=B:=by
 obtain⟨au,aA,free,c,op⟩:=B;obtain rfl:op=none:=h.op;rfl
theorem NB.put(h:NB M B)(s:List UInt8):NB M (B.put 4 s):=⟨h.op,h.au,h.free,h.aA,λ p a=>by
 show bX B.c 4 s p=_;unfold bX;rw[aE (λ e=>a e.symm)];exact h.c p a⟩
theorem NB.has(h:NB M B)(p:Nat):B.Has p↔1<=p/\p<5:=by
 unfold AP.Has AP.bO;rw[h.op,h.au,h.free];exact⟨λ ⟨a,b,_,_⟩=>⟨a,b⟩,λ ⟨a,b⟩=>⟨a,b,List.not_mem_nil,List.not_mem_nil⟩⟩
theorem EK:(FK M).c 1=eL:=by
 show bX (Cj M).take.c 4 (UK.bM 504) 1=_;unfold bX;rw[aE (by decide)];show bX (Cj M).c 3 (UK.bM 504) 1=_;unfold bX;rw[aE (by decide)];show((JU M).take.ax 2 eL).c 1=_;rw[AP.aL,aE (by decide)];show bX (JU M).c 2 (UK.bM 504) 1=_;unfold bX;rw[aE (by decide)];show((Aw M).take.ax 1 eL).c 1=_;rw[AP.aL,be rfl]
theorem GC:(FK M).c 2=eL:=by
 show bX (Cj M).take.c 4 (UK.bM 504) 2=_;unfold bX;rw[aE (by decide)];show bX (Cj M).c 3 (UK.bM 504) 2=_;unfold bX;rw[aE (by decide)];show((JU M).take.ax 2 eL).c 2=_;rw[AP.aL,be rfl]
theorem Hk:(FK M).c 3=UK.bM 504:=by
 show bX (Cj M).take.c 4 (UK.bM 504) 3=_;unfold bX;rw[aE (by decide)];show bX (Cj M).c 3 (UK.bM 504) 3=_;unfold bX;rw[be rfl]
theorem NB.good(h:NB M B)(d:5<=pK M)(c:pK M<=60000):B.Good:=by
 refine⟨by rw[h.au];omega,by rw[h.au,h.aA];omega,by rw[h.aA];exact c,by rw[h.free];exact List.nodup_nil,λ p b=>?_,?_,λ g a=>?_⟩
 ·rw[h.free]at b;cases b
 ·unfold AP.bO;rw[h.op];exact List.nodup_nil
 unfold AP.bO at a;rw[h.op]at a;cases a
theorem NB.ti(h:NB M B)(f:p=1\/p=2):TI B p [] [p]:=by
 have d:Fits ⟨true,[],[],[]⟩:=⟨λ _=>⟨aR _,rfl,rfl⟩,(λ h=>by cases h)⟩
 have c:B.c p=aX (UK.bM 504) ⟨true,[],[],[]⟩:=by
  rw[h.c p Z];rcases f with rfl|rfl
  ·rw[EK];rfl
  rw[GC];rfl
 have e:aB B p=some ⟨true,[],[],[]⟩:=by
  unfold aB;rw[c];exact Ib _ _ (by rw[UK.kr];omega) d
 exact⟨⟨0,⟨p,[],[p]⟩,⟨[],[],e,rfl,λ a b x y _ i=>(by simp at i),rfl,rfl⟩,rfl,rfl,rfl⟩,tZ _ _,λ q g=>(h.has q).2 (by rw[bu.1 g];omega)⟩
theorem NB.hi(h:NB M B):HI (B.fJ (fo [4] [1] [2])) 3 0 [] (λ _=>[]) []:=by
 have b:(B.fJ (fo [4] [1] [2])).c 3=UK.bM 504:=(h.c 3 (by decide)).trans Hk;refine⟨by simp[oK],λ p=>?_,by rw[b];exact YI 0 Z,by rw[b];exact YI 4 Z,by rw[b];exact UK.kr 504,O rfl,λ p a=>(by cases a),λ p a=>(by cases a),λ p a=>(by cases a),λ t c=>(by cases c),List.Pairwise.nil,λ t c=>(by cases c)⟩;show B.Has p/\¬fo [4] [1] [2] p↔p∈[3];rw[h.has];unfold fo;simp only[bu];omega
theorem DQ:fX []=λ _=>[]:=rfl
theorem Iq:gX []=λ _=>[]:=rfl
theorem NB.di(h:NB M B)(b:5<=pK M)(c:pK M<=60000):DI B [4] B.c 1 2 3 (fX []) (gX []):=by
 refine⟨[],[],[1],[2],0,[],λ _=>[],[],⟨h.good b c,h.ti (O rfl),h.ti (al rfl),λ p d=>⟨(h.has p).2 (by rw[bu.1 d];omega),rfl⟩,by decide,h.hi,aR _⟩,?_,rfl⟩;rw[DQ,Iq];exact⟨⟨λ y a=>(by cases a),λ k _ h=>absurd rfl h⟩,⟨λ y a=>(by cases a),λ k _ h=>absurd rfl h⟩,λ y a=>(by cases a),List.Pairwise.nil,List.Pairwise.nil,List.Pairwise.nil⟩
def TD(E:Nat->Prop)(W W':World)(P D K:Nat)(M:Int)(a:Ending):Prop:=
 ∃h e f H B,a=aw (a9 #[aq (some ⟨h,0,none⟩),V U 0])/\NB M B/\DZ (λ j=>E j\/j=h\/j=e\/j=f\/j=H) W' P D h e f H K B 4 1 2 3/\(W.1.size<=h/\W.1.size<=e/\W.1.size<=f/\W.1.size<=H)/\Kept E W W'
theorem ri(h:PZ E W P D (Aw M) k)(hk:k+100<900000000)(h6:6<=pK M) :
  Calls prog 36 #[aq P] W λ g w'=>TD E W w' P D (k+30) M g:=by
 have f0:¬(Aw M).Full:=λ h=>by
  have h1:pK M<=((1:Nat):Int):=h.1;omega
 have f1:¬(JU M).Full:=λ h=>by
  have h1:pK M<=((2:Nat):Int):=h.1;omega
 have f2:¬(Cj M).Full:=λ h=>by
  have h1:pK M<=((3:Nat):Int):=h.1;omega
 have f3:¬(Cj M).take.Full:=λ h=>by
  have h1:pK M<=((4:Nat):Int):=h.1;omega
 have HT1:=zH (YJ h Z f0);have hs:Hid (∀j,E j->j<W.1.size):=zH h.there;clear h f0
 go_enter_defers func36,ntmps36
 go_wp2_with fail
 refine HT1.out.mono ?_;rintro g w1 ⟨e,N1,M1,rfl,b1,r,p,q,p1,v⟩;replace p1:PZ (λ j=>E j\/(N1<=j/\j<M1)) w1 P D (JU M) (k+3):=p1;have HT2:=zH (YJ p1 Z f1);have H1:=br (show ay w1 e #[aq P,V U (1:Nat)]from b1) r p q v;clear HT1 b1 r p q p1 v f1
 go_wp2_with fail
 refine HT2.out.mono ?_;rintro g w2 ⟨f,N2,M2,rfl,A,r,p,q,p2,w⟩;replace p2:PZ (λ j=>(E j\/(N1<=j/\j<M1))\/(N2<=j/\j<M2)) w2 P D (Cj M) (k+6):=p2;have HH:=zH (GV p2 Z f2);have H2:=br (show ay w2 f #[aq P,V U (2:Nat)]from A) r p q w;clear HT2 A r p q p2 w f2
 go_wp2_with fail
 refine HH.out.mono ?_;rintro g w3 ⟨H,rfl,F,r,p3,x⟩;have YK:=zH (JV p3 Z f3);have H3:=bm (show ay w3 H (rG P 3)from F) r x;clear HH F r p3 x f3
 go_wp2_with fail
 refine YK.out.mono ?_;rintro g y ⟨N,h2,cap,rfl,p4,K⟩;replace p4:PF (λ j=>((E j\/(N1<=j/\j<M1))\/(N2<=j/\j<M2))\/j=H) y P D (FK M) (k+10) N h2 cap 4 false:=p4;obtain⟨b1,r,p,q,v⟩:=H1.out;obtain⟨A,m1,m2,m3,w⟩:=H2.out;obtain⟨F,q1,x⟩:=H3.out;have e1:e<w1.1.size:=b1.lt;have e2:f<w2.1.size:=A.lt;have R:ay y e #[aq P,V U (1:Nat)]:=((b1.ae (w.block e (al ⟨p,q⟩))).ae (x.block e (O (al ⟨p,q⟩)))).ae (K.block e (O (O (al ⟨p,q⟩))));have S:ay y f #[aq P,V U (2:Nat)]:=(A.ae (x.block f (al ⟨m2,m3⟩))).ae (K.block f (O (al ⟨m2,m3⟩)));have T:ay y H (rG P 3):=F.ae (K.block H (al rfl));have L:Kept E W y:=v.trans ((w.mono (λ j a=>O a)).trans ((x.mono (λ j a=>O (O a))).trans (K.mono (λ j a=>O (O (O a))))));obtain⟨d,t⟩:∃d:Nat->Prop,d=λ j=>E j\/j=e\/j=f\/j=H:=⟨_,rfl⟩
 have X:PF d y P D (FK M) (k+10) N h2 cap 4 false:=p4.less (λ j a=>by
  rw[t]at a;rcases a with a|rfl|rfl|rfl
  ·exact O (O (O a))
  ·exact O (O (al ⟨p,q⟩))
  ·exact O (al ⟨m2,m3⟩)
  exact al rfl)
 have HR1:=zH (YH R);have HR2:=zH (YH S);have HR3:=zH (AK T);have HX:=b9 t X R S T L (show W.1.size<=e/\W.1.size<=f/\W.1.size<=H from⟨Z,by have:=v.size;omega,by have:=v.size;have:=w.size;omega⟩) (show W.1.size<=y.1.size from L.size);clear YK H1 H2 H3 p4 K b1 r p q v A m1 m2 m3 w F q1 x e1 e2 R S T L t X
 go_wp2_with fail
 refine HR1.out.mono ?_;rintro g c ⟨rfl,rfl⟩
 go_wp2_with fail
 refine HR2.out.mono ?_;rintro g c ⟨rfl,rfl⟩
 go_wp2_with fail
 refine HR3.out.mono ?_;rintro g c ⟨rfl,rfl⟩;clear HR1 HR2 HR3
 go_wp2_with fail
 obtain⟨u,J⟩:∃u,u=c.alloc (.cells #[V U 1,V U 2,V U 3] 3):=⟨_,rfl⟩;have Av:=zH J;have G:Below c c u:=J▸(aU _ _).alloc (aH _) _;have h0:ay u c #[V U 1,V U 2,V U 3]:=J▸ay.new c _ _;have h3:u.1.size=c.1.size+1:=by rw[J];simp
 have h5:Hid (∀i:Nat,i<3->u.cell? ⟨c.1.size,i,none⟩=some (V U ((i+1:Nat):Int))):=zH (λ i hi=>by
  match i,hi with
  | 0,_=>exact h0.cell 0 _ rfl
  | 1,_=>exact h0.cell 1 _ rfl
  | 2,_=>exact h0.cell 2 _ rfl)
 have TE:=bg G h3;clear J G h0 h3
 go_loopw [52] (λ iv wr=>∃(i:Nat) (B:AP) (dy:Bool),iv=V U i/\i<=3/\Hid (NB M B/\PF (λ j=>d j\/j=c.1.size) wr P D B (k+10+i) N h2 cap 4 dy/\Kept (λ j=>d j\/j=c.1.size) u wr)) (λ iv _=>10-(intOf iv).toNat)
 case atStart=>
  refine⟨0,FK M,false,rfl,aR _,zH ⟨u9,?_,?_⟩⟩
  ·rw[<-Av.out];refine HX.out.2.1.wide TE.out.1 (λ j a=>?_);have:=TE.out.2;rcases a with a|a
   ·exact O a
   exact al ⟨Z,Z⟩
  rw[<-Av.out];exact Kept.refl _ _
 clear Av;obtain⟨i,B,dy,rfl,hi,HI⟩:=hrel;by_cases h9:i<3
 ·obtain⟨b,m,l⟩:=HI.out;have cd:wr.cell? (c.1.size,i)=some (V U ((i+1:Nat):Int)):=by rw[<-h5.out i h9];exact eB (l.block _ (al rfl))
  obtain⟨n,hn⟩:∃n,n=i+1:=⟨_,rfl⟩;rw[<-hn]at cd;have q1:(i:Int)<3:=Z
  have HE:=zH (zi m Z)
  have hb:504<=cap:=by
   obtain⟨y',_,q2,_,q4,_⟩:=m.bytes;exact q4
  have HU:((UInt32.ofNat n).toNat:Int)=(n:Int):=by rw[UInt32.toNat_ofNat'];omega
  have HW:IntKind.u32.wrap (n:Int)=(n:Int):=by rw[IntKind.wrap_u32];omega
  have HV:=bg HU HW;obtain⟨o,ho⟩:∃o:Nat,o=4*i:=⟨_,rfl⟩;have i1:wrap64 (4*(i:Int))=(o:Int):=by unfold wrap64;omega
  have i2:(o:Int)<=504:=Z
  have i3:(o:Int)<=(cap:Int):=Z
  have i4:¬(cap=o):=Z
  have z:=bg b l;clear b m l HU HI
  go_wp2_with fail
  refine HE.out.mono ?_;rintro g w6 ⟨rfl,C,k6⟩;have b:=z.out.1;rw[b.keep]at C;obtain⟨h4,y1,y2,y3,y4,y5⟩:=C.bytes;have Y:=zH (GD y1 o (504-o) (cap-o) Z Z Z (UInt32.ofNat n));rw[HV.out.1]at Y;have YL:=bm C k6 y2;clear C k6 y1 y2 y3 y5 b HE
  go_wp2_with fail
  subst ho hn;rw[show((i+1:Nat):Int)=(i:Int)+1 from Z]at Y;refine Y.out.mono ?_;rintro g w7 ⟨rfl,b7,o7⟩
  have HN:Hid (NB M (B.put 4 ((UK.wr h4 (4*i) (aJ (UInt32.ofNat (i+1)))).take 504))/\PF (λ j=>d j\/j=c.1.size) w7 P D (B.put 4 ((UK.wr h4 (4*i) (aJ (UInt32.ofNat (i+1)))).take 504)) (k+10+(i+1)) N h2 cap 4 true/\Kept (λ j=>d j\/j=c.1.size) u w7):=by
   obtain⟨C,k6,y2⟩:=YL.out;obtain⟨b,l⟩:=z.out;have I:(UK.wr h4 (4*i) (aJ (UInt32.ofNat (i+1)))).length=cap:=by rw[UK.jF _ _ _ (by show 4*i+4<=_;omega)];exact y2
   obtain⟨p7,k7⟩:=C.write o7 b7 I;exact zH ⟨b.put _,p7,l.trans (k6.trans k7)⟩
  clear b7 o7 Y YL z;go_wp2;go_roundw
  case rel=>exact⟨i+1,_,true,by go_num,Z,HN⟩
  case measure=>simp only[intOf];omega
 obtain rfl:i=3:=Z
 obtain⟨b,m,l⟩:=HI.out;obtain⟨s,ha⟩:∃s,s=wr:=⟨_,rfl⟩;subst ha;have YM:=zH (JW m);have z:=bm b m l;clear b m l HI
 go_wp2_with fail
 refine YM.out.mono ?_;rintro g w6 ⟨rfl,zh⟩;rw[zh];clear zh w6 YM;obtain⟨b,m,l⟩:=z.out;obtain⟨Q,Qk⟩:∃Q,Q=s.alloc (.cells #[aq P,V U 4,aq e,aq f,aq H] 84):=⟨_,rfl⟩;have JQ:Below s s Q:=Qk▸(aU _ _).alloc (aH _) _;have wU:ay Q s #[aq P,V U 4,aq e,aq f,aq H]:=Qk▸ay.new s _ _;have YN:Q.1.size=s.1.size+1:=by rw[Qk];simp
 have p9:=m.wide JQ (T:=λ j=>d j\/j=s.1.size) (λ j a=>by
  rcases a with a|a
  ·exact O (O a)
  exact al ⟨Z,Z⟩)
 have h7:=zH (DT .returning p9);have k9:=m.kept JQ;have HF:=bp b wU (l.trans k9) l.size;clear b m l z p9 k9 JQ wU YN;subst Qk;go_wp2;refine leaves_cons (f:=65) (args:= #[aq N]) (by simp) (by simp[go_sem]) ?_;refine h7.out.mono ?_;rintro g u' wb ⟨rfl,rfl,pb,kb⟩;refine⟨_,results_tmp2 rfl _ _ _,?_⟩;obtain⟨b,wU,h8,YN⟩:=HF.out;obtain⟨t,X,R,S,T,L,I,hc⟩:=HX.out;obtain⟨G,h3⟩:=TE.out;have kl:Kept d c u:=X.kept G;have ka:=kl.trans ((h8.mono (λ j a=>O a)).trans (kb.mono (λ j a=>O a)));have t1:d e:=by rw[t];exact al (O rfl)
 have t2:d f:=by rw[t];exact al (al (O rfl))
 have t3:d H:=by rw[t];exact al (al (al rfl))
 refine⟨s.1.size,e,f,H,B,rfl,b,⟨(pb.up Z).less (λ j a=>?_),wU.ae (kb.block _ (al rfl)),al (O rfl),R.ae (ka.block e t1),al (al (O rfl)),S.ae (ka.block f t2),al (al (al (O rfl))),T.ae (ka.block H t3),al (al (al (al rfl)))⟩,⟨?_,I.1,I.2.1,I.2.2⟩,L.trans (ka.mono (λ j a=>by rw[t];exact O a))⟩
 ·rw[t];rcases a with a|a|a|a|a
  ·exact O (O a)
  ·exact al a
  ·exact O (al (O a))
  ·exact O (al (al (O a)))
  exact O (al (al (al a)))
 have:=G.size;omega
open DP (Rc bU aS jc eT gm jo TH bV bi iq share jW eX rY)
def sP(X:List bU):List Nat:=X.flatMap λ x=>x.2.flatMap Rc.pM
theorem YO(h:Y s<=500*n):wS s<=n+1:=by
 unfold wS wT
 split
 ·omega
 split<;>omega
theorem YP{l:List KV}(h:∀y∈l,wS (F y.1.toNat)<=c):tot l F<=c*Y l:=by
 unfold tot
 induction l with
 | nil=>exact aR _
 | cons y l b=>
  have d:=b (λ z a=>h z (cK _ a));have e:=h y (bI ..);rw[jr,List.sum_cons,dF,Nat.mul_succ];omega
section
variable{w:List bU}{M:Nat}
theorem YQ(h:fX X k≠[]):k∈X.map (·.1):=by
 by_cases a:∃x∈X,x.1=k
 ·obtain⟨x,a,e⟩:=a;exact bL.2 ⟨x,a,e⟩
 exact absurd (by
  show qW (jW X k)=[];rw[DP.pO (λ x b e=>a ⟨x,b,e⟩)];rfl) h
theorem YR(h:gm (iq b X)≠[]):b∈sP X:=by
 have a:iq b X≠[]:=λ e=>h (by rw[e];rfl);obtain⟨y,i⟩:=sN _ a;obtain⟨x,g,f,_⟩:=DP.iK.1 i;obtain⟨q,d,c⟩:=Qb.1 f;exact List.mem_flatMap.2 ⟨x,g,List.mem_flatMap.2 ⟨q,d,c⟩⟩
theorem D0(h:iT X w S b≠[]):b∈sP (X++w):=by
 unfold iT at h;unfold sP;rw[List.flatMap_append,dm]
 split at h
 ·exact al (YR h)
 exact O (YR h)
theorem j9(h:vJ A G (fX X) (iT X w S) s)(c:kY X)(r:kY w)(C:Y s<=4000)(n:A.op=none)(j:A.aA=M)(l:(sP (X++w)).length<=m)(B:14*(8*m+Y X+Y G+33)+Y X+m+28<14*M):False:=by
 obtain⟨v,q,g,x,a,u,t,o,p,b⟩:=h;have b:=b n
 have i:=(PX u).length_le_of_subset (l₂:=X.map (·.1)) (λ k d=>by
  obtain⟨y,e,rfl⟩:=bL.1 d;exact YQ (o y e))
 have f:=(PX t).length_le_of_subset (l₂:=sP (X++w)) (λ k d=>by
  obtain⟨y,e,rfl⟩:=bL.1 d;exact D0 (p y e))
 have D:=YP (l:=q) (F:=fX X) (c:=1) (λ y _=>by
  have:=Mg (Hq c y.1.toNat).1 (Hq c y.1.toNat).2;show wS (qW (jW X y.1.toNat))<=1;unfold wS wT
  split
  ·omega
  rw[be Z];omega)
 have E:=YP (l:=g) (F:=iT X w S) (c:=8) (λ y _=>by
  refine YO (n:=7) ?_;unfold iT
  split
  ·have:=FE r y.1.toNat;omega
  have:=FE c y.1.toNat;omega)
 have t3:=YO (n:=8) (s:=s) Z;rw[bS,bS]at i;rw[bS]at f;rw[j]at b;have z:8*Y g<=8*m:=Nat.mul_le_mul_left 8 (aT f l);rcases a with a|a<;>omega
end
def DS(E:Nat->Prop)(W:World)(P D h e f H k:Nat)(M:Nat)(X:List bU):Prop:=
 ∃A z,DZ E W P D h e f H k A 4 1 2 3/\DI A [4] z 1 2 3 (fX X) (gX X)/\A.op=none/\A.aA=(M:Int)
section
variable{M:Nat}
theorem DS.up{K:Nat}(g:DS E W P D h e f H k M X)(i:k<=K):DS E W P D h e f H K M X:=by
 obtain⟨A,z,a,b,c,d⟩:=g;exact⟨A,z,a.up i,b,c,d⟩
theorem DS.wide(g:DS E W P D h e f H k M X)(m:Below W W W')(l:∀j,T j->E j\/(W.1.size<=j/\j<W'.1.size))(i:∀j,E j->T j):DS T W' P D h e f H k M X:=by
 obtain⟨A,z,a,b,c,d⟩:=g;exact⟨A,z,a.wide m l i,b,c,d⟩
theorem DS.next(g:DS E W P D h e f H k M X)(i:Below W W W'):DS E W' P D h e f H k M X:=by
 obtain⟨A,z,a,b,c,d⟩:=g;exact⟨A,z,a.next i,b,c,d⟩
theorem DS.kept(g:DS E W P D h e f H k M X)(i:Below W W W'):Kept E W W':=by
 obtain⟨A,z,a,b,c,d⟩:=g;exact a.pz.kept i
theorem TF(y:DS E W P D h e f H k M X)(c:kY X)(hf:Y X<=39)(Z:M<=3900)(F:a<100000)(G:b<100000)(L:RX W ro rc rl)(N:∀j,aG ro j->E j)(p:∀q∈rl,q.ok)(o:Y rl<=8)(I:k+13000000<900000000)(K:(sP (X++aS (bi a b) rl X)).length<=m)(R:14*(8*m+Y X+34)+Y X+m+28<14*M) :
  Calls prog 11 #[aq h,.agg #[V U a,V U b],ad ro (Y rl) rc] W λ n l=>n=aw (V U 0)/\DS E l P D h e f H (k+13000000) M (aS (bi a b) rl X)/\Kept E W l:=by
 obtain⟨A,z,t,x,r,d⟩:=y;refine(Y7 t x (by rw[d];omega) c hf F G L N p o I).mono ?_;rintro n l ⟨T,rfl,(⟨rfl,B,w,i,u,g⟩|⟨rfl,C,B,S,s,J,Q,v,i,u,g⟩)⟩
 ·exact⟨rfl,⟨B,z,t.of u g,w,i.Aj r,i.ni.trans d⟩,g⟩
 exact(j9 (M:=M) (m:=m) J c (c.put (by unfold bi;omega) p o hf) Q (v.Aj r) (v.ni.trans d) K (by show 14*(8*m+Y X+1+33)+Y X+m+28<14*M;omega)).elim
theorem YS(n:DS E W P D h e f H k M X)(q:kY X)(r:a<100000)(s:b<100000)(t:k+20000<900000000) :
  Calls prog 13 #[aq h,.agg #[V U a,V U b]] W λ m i=>∃ao c,m=aw (a9 #[ad ao (eX a b X).length c,V U 0])/\CX i ao c ((eX a b X).map λ x=>fC x.1)/\(∀j,aG ao j->W.1.size<=j)/\DS (λ j=>E j\/aG ao j) i P D h e f H (k+20000) M X/\Kept E W i:=by
 obtain⟨A,z,d,l,v,u⟩:=n;refine(YF d l q r s t).mono ?_;rintro m i ⟨ao,c,rfl,o,p,w,g⟩;exact⟨ao,c,rfl,o,p,⟨A,z,⟨w,d.bd.ae (g.block h d.md),O d.md,d.b1.ae (g.block e d.m1),O d.m1,d.b2.ae (g.block f d.m2),O d.m2,d.bh.ae (g.block H d.mh),O d.mh⟩,l,v,u⟩,g⟩
theorem Ql:kY []:=⟨⟨List.Pairwise.nil,λ x a=>(by cases a),λ x a=>(by cases a),aR _⟩,aR _,λ x a=>(by cases a),λ x a=>(by cases a)⟩
end
theorem YT(W:World)(I:lY W)(S:Nat->Prop)(o:∀j,S j->j<W.1.size)(M a:Nat)(n:pK (M:Int)=(M:Int))(N:6<=M)(Q:M<=60000)(r:1<=a/\a<=1000) :
  Calls prog 10 #[V U M,V U a] W λ c z=>∃P D h e f H,c=aw (a9 #[aq (some ⟨P,0,none⟩),aq (some ⟨h,0,none⟩)])/\DS (λ j=>S j\/j=h\/j=e\/j=f\/j=H) z P D h e f H 30 M []/\(W.1.size<=h/\W.1.size<=e/\W.1.size<=f/\W.1.size<=H)/\Kept S W z:=by
 have k:=zH (nl W M I S o);have b:=zH n;clear n
 go_enter func10,ntmps10
 go_wp2_with fail
 refine k.out.mono ?_;rintro c J ⟨rfl,hd,p⟩;have m:=zH (Fl hd (Ok.new M) (py M) a r 0);have y:Kept S W J:=Kept.of_below p o;have l:=zH y;clear k hd p y
 go_wp2_with fail
 refine m.out.mono ?_;rintro c K ⟨P,C,F,q,rfl,v,s,u⟩;have i:=P7 M;have w:PZ S K P W (Aw M) 0:=⟨C,F,a,q,nN M,v,r.1,⟨i.free,i.z,by rw[u];rfl⟩⟩;have HT:=zH (ri w Z (by rw[b.out];omega));have g:=zH (l.out.trans s);clear m l v s u i w
 go_wp2_with fail
 refine HT.out.mono ?_;rintro c A ⟨h,e,f,H,B,rfl,d,x,G,t⟩
 have E:Hid (DS (λ j=>S j\/j=h\/j=e\/j=f\/j=H) A P W h e f H 30 M []/\(W.1.size<=h/\W.1.size<=e/\W.1.size<=f/\W.1.size<=H)/\Kept S W A):=by
  have L:=g.out.size;refine zH ⟨⟨B,B.c,x.up Z,d.di (by rw[b.out];omega) (by rw[b.out];omega),d.op,d.aA.trans b.out⟩,⟨Z,Z,Z,Z⟩,g.out.trans t⟩
 clear HT g x G t d;go_wp2;go_ret2;exact⟨P,_,h,e,f,H,rfl,E.out⟩
def tL(A:AP)(d:Nat)(s:Sb)(k:UInt64)(j pg right:Nat):Prop:=∃a t,t.pg=pg/\At A a t /\
 ((j+a<=d/\((right=0/\fe s.l k=fe t.l k)\/∃b r,right=r.pg/\b<=d/\At A b r/\r.l≠[]/\(∀x∈r.l,k.toNat<=x.1.toNat)/\fe s.l k=(fe t.l k).or (fe r.l k))) \/
  (j+a<=2*d+1/\fe s.l k=fe t.l k/\t.l≠[]/\∀x∈t.l,k.toNat<=x.1.toNat))
inductive Jv(A:AP)(d:Nat)(s:Sb)(k:UInt64)(j pg right:Nat):Prop
 | leaf (i:Nat) (ks vs:List UInt64):aB A pg=some ⟨true,ks,vs,[]⟩->jV ks->Y vs=Y ks->eu ks k i->(∀a b,ks[i]?=some a->vs[i]?=some b->fe s.l k=some (a,b))->(i=Y ks->right=0->fe s.l k=none)->(i=Y ks->right≠0->tL A d s k (j+1) right 0)->Jv A d s k j pg right
 | inner (i:Nat) (ag:List UInt64) (ak:List Nat) (u:Nat):aB A pg=some ⟨false,ag,[],ak⟩->jV ag->dQ ag k i->ak[i]?=some u->(i+1=Y ak->tL A d s k (j+1) u right)->(∀v,ak[i+1]?=some v->tL A d s k (j+1) u v)->Jv A d s k j pg right
theorem fs:∀(ks:List UInt64),jV ks->∀k:UInt64,∃i,eu ks k i
 | [],_,_=>⟨0,aH _,λ _ _ h=>absurd h (jI _),λ j x _ h=>by simp at h⟩
 | b::ks,e,k=>by
  by_cases h:b.toNat<k.toNat
  ·obtain⟨i,c⟩:=fs ks (e.drop 1) k;refine⟨i+1,Nat.succ_le_succ c.le,λ j x d a=>?_,λ j x d a=>?_⟩
   ·cases j with
    | zero=>
     obtain rfl:b=x:=by simpa using a
     exact h
    | succ j=>exact c.below j x Z (by simpa using a)
   cases j with
   | zero=>omega
   | succ j=>exact c.above j x Z (by simpa using a)
  refine⟨0,aR _,λ j x d _=>absurd d (jI _),λ j x _ a=>?_⟩
  cases j with
  | zero=>
   obtain rfl:b=x:=by simpa using a
   omega
  | succ j=>
   have:=e 0 (j+1) b x Z rfl a;omega
theorem At.pos{t:Sb}(h:At A d t):t.pg≠0:=by
 have:=(h.has _ h.tr.mem).1;omega
theorem tL.node{s:Sb}{k:UInt64}(h2:tL A d s k j pg right):Jv A d s k j pg right/\A.Has pg:=by
 obtain⟨h,t,rfl,v,D⟩:=h2;refine⟨?_,v.has _ v.tr.mem⟩
 cases h with
 | zero=>
  obtain⟨ks,vs,C,m,q,f,h5⟩:=v.tr;obtain⟨i,X⟩:=fs ks q k;have g:=IK X m;refine .leaf i ks vs C q m X (λ a b n hb=>?_) (λ hi B=>?_) (λ hi B=>?_)
  ·rw[n,hb]at g;rcases D with⟨_,⟨_,e⟩|⟨p,r,_,_,_,_,_,e⟩⟩|⟨_,e,_⟩
   ·rw[e,f];exact g
   ·rw[e,f,g];rfl
   rw[e,f];exact g
  ·rw[ja Z]at g;rcases D with⟨_,⟨_,e⟩|⟨p,r,y,_,n,_,_,e⟩⟩|⟨_,e,E,l⟩
   ·rw[e,f];exact g
   ·exact absurd (y▸B) n.pos
   obtain⟨x,c⟩:=R6 E l;rw[f]at c;have:some x=none:=c.symm.trans g
   cases this
  rw[ja Z]at g;rcases D with⟨H,⟨G,e⟩|⟨p,r,y,N,n,J,K,e⟩⟩|⟨_,e,E,l⟩
  ·exact absurd G B
  ·refine⟨p,r,y.symm,n,al ⟨Z,?_,J,K⟩⟩;rw[e,f,g];rfl
  obtain⟨x,c⟩:=R6 E l;rw[f]at c;have:some x=none:=c.symm.trans g
  cases this
 | succ h=>
  obtain⟨F,z,C,m,q,f⟩:=v.tr;obtain⟨i,I⟩:=Ow F m.up k;have aD:=m.len;have h7:=I.le;obtain⟨u,Q⟩:∃u,z[i]?=some u:=⟨_,bK Z⟩;have h4:(z.map Sb.pg)[i]?=some u.pg:=by rw[dL,Q];rfl
  have M:dR A h t F z i u:=⟨C,m,q,f,Q⟩;obtain⟨L,VN⟩:=v.kid M
  have R:u.l≠[]:=λ B=>by
   have:=L.tr.many _ _ VN;rw[B]at this;simp at this
  have P:∀x∈u.l,x∈t.l:=λ x c=>by rw[q,Gs Q];simp[c]
  refine .inner i F (z.map Sb.pg) u.pg C m.up I h4 (λ W=>?_) (λ h8 hv=>?_)
  ·rw[bS]at W;have o:=M.last I W;refine⟨h,u,rfl,L,?_⟩;rcases D with⟨H,⟨G,e⟩|⟨p,r,y,N,n,J,K,e⟩⟩|⟨H,e,E,l⟩
   ·exact O ⟨Z,O ⟨G,e.trans o⟩⟩
   ·exact O ⟨Z,al ⟨p,r,y,N,n,J,K,by rw[e,o]⟩⟩
   exact al ⟨Z,e.trans o,R,λ x c=>l x (P x c)⟩
  obtain⟨w,Y,rfl⟩:=KQ hv;obtain⟨o,⟨x,c⟩,h0,S⟩:=M.right I Y;have h3:dR A h t F z (i+1) w:=⟨C,m,q,f,Y⟩;obtain⟨T,_⟩:=v.kid h3;refine⟨h,u,rfl,L,?_⟩
  have h6:∀h1:Option KV,((fe u.l k).or (fe w.l k)).or h1=(fe u.l k).or (fe w.l k):=λ h1=>by
   rw[c]
   cases fe u.l k<;>rfl
  rcases D with⟨H,⟨G,e⟩|⟨p,r,y,N,n,J,K,e⟩⟩|⟨H,e,E,l⟩
  ·exact O ⟨Z,al ⟨h,w,rfl,Z,T,h0,S,e.trans o⟩⟩
  ·exact O ⟨Z,al ⟨h,w,rfl,Z,T,h0,S,by rw[e,o,h6]⟩⟩
  refine al ⟨Z,?_,R,λ x c=>l x (P x c)⟩;obtain⟨h9,hy⟩:=R6 R (λ x c=>l x (P x c));rw[e,o,hy];rfl
theorem tL.few{s:Sb}{k:UInt64}(h:tL A d s k j pg right)(hd:d<=16):j<=33:=by
 obtain⟨a,t,_,_,h|h⟩:=h<;>omega
def Qo:Option KV->Value
 | some x=>a9 #[V a7 x.1.toNat,V a7 x.2.toNat,a6 true,V U 0]
 | none=>a9 #[V a7 0,V a7 0,a6 false,V U 0]
section
variable{T Q:Nat}{l:List KV}
theorem oR(h:aP E W P D T Q A k)(hk:k+100<900000000)(ht:TI A Q l ps)(hg:A.Good)(key:UInt64) :
  Calls prog 148 #[aq T,V a7 key.toNat] W λ e w'=>e=aw (Qo (fe l key))/\aP E w' P D T Q A (k+100)/\Kept E W w':=by
 obtain⟨d,s,hT,rfl,rfl,rfl⟩:=ht.ex;have X:=KN hT ht.fA ht.has hg;have t1:=h.box.c1;have o:tL A d s key 0 s.pg 0:=⟨d,s,rfl,⟨hT,ht.has⟩,O ⟨Z,O ⟨rfl,rfl⟩⟩⟩;have HH:=bm h o X;clear h hT ht o X
 go_enter func148,ntmps148
 go_wp2_with fail
 go_loopw [8,9,19] (λ pv rv iv wr=>∃(j pg right:Nat),pv=V U pg/\rv=V U right/\iv=V U j/\tL A d s key j pg right/\PZ E wr P D A (k+2*j)/\Kept E W wr) (λ _ _ iv _=>40-(intOf iv).toNat)
 case atStart=>exact⟨0,s.pg,0,rfl,rfl,rfl,HH.out.2.1,HH.out.1.pz,Kept.refl _ _⟩
 clear t1;obtain⟨j,pg,right,rfl,rfl,rfl,hI,hp,n⟩:=hrel;obtain⟨h,_,X⟩:=HH.out;have S:=hI.few X;have z:=h.box.ae (n.block T h.mem);have WE:(j:Int)<40:=Z
 have LB:IntKind.i64.wrap ((j:Int)+1)=(j:Int)+1:=by rw[dM];omega
 have OU:wrap64 ((j:Int)+1)=(j:Int)+1:=by unfold wrap64;omega
 have h2:k+2*j+2<900000000:=Z
 obtain⟨L,dh⟩:=hI.node
 cases L with
 | leaf i ks vs v y t o f g G=>
  have R:=(lI v).leaf rfl;have I:=zH (yJ hp h2 z dh v);have w:=bw t y o n z (show Y ks<=30 from R.1);have HQ:=bm f g G;clear hI hp z dh v t y n R h X o f g G h2
  go_wp2_with fail
  refine I.out.mono ?_;rintro e r ⟨hl,M,nb,ka,va,aa,kc,vc,ac,rfl,L,hM,⟨m,gy,dX⟩,F,C⟩;obtain⟨t,y,o,n,z,ET⟩:=w.out;have b0:=m.box.c0;have b1:=m.box.c1;have b2:=m.box.c2;have hS:=IW (m.k.win (S:=λ _=>True) (λ _ _=>trivial)) y (show Y ks<=1000 from Z) key;rw[dH]at hS;have HS:=zH hS
  have H:=zH (λ (q:Nat)=>(show PZ E (r.drewN q) P D A (k+2*(j+1))/\Kept E W (r.drewN q)from
   ⟨((F.less (T:=E) (λ _ S=>O S)).next (UK.dN (aU _ _) q)).up Z,(n.trans C).trans ((F.less (T:=E) (λ _ S=>O S)).kept (UK.dN (aU _ _) q))⟩))
  have HG:=zH (λ (q:Nat)=>(show aP E (r.drewN q) P D T s.pg A (k+100)/\Kept E W (r.drewN q)from
   ⟨⟨(H.out q).1.up Z,(z.ae (C.block T HH.out.1.mem)).ae rfl,HH.out.1.mem⟩,(H.out q).2⟩))
  have R7:=bg m.k m.v;have h0:=o.le;clear I m gy dX F C hS L hM y n z ET
  go_wp2_with fail
  refine HS.out.mono ?_;rintro e w2 ⟨p,rfl,K,rfl⟩
  have hh:p=i:=by
   rcases Nat.lt_trichotomy p i with h5|h5|h5
   ·have a:=o.below p _ h5 (bK Z);have b:=K.above p _ (aH _) (bK (show p<Y ks from Z));omega
   ·exact h5
   have x3:=K.le;have a:=K.below i _ h5 (bK (show i<Y ks from Z));have b:=o.above i _ (aH _) (bK (show i<Y ks from Z));omega
  subst hh;obtain⟨f,g,G⟩:=HQ.out;by_cases hi:p<Y ks
  ·obtain⟨h9,hx⟩:∃h9,ks[p]?=some h9:=⟨_,bK hi⟩;obtain⟨ha,hy⟩:∃ha,vs[p]?=some ha:=⟨_,bK Z⟩;have u:=zH (f h9 ha hx hy);obtain⟨nk,nv⟩:=R7.out;obtain⟨ao,c,q,hc,hr⟩:=nk.win (S:=λ _=>True) (λ _ _=>trivial);obtain⟨hb,x5,rfl,_,cx⟩:=hr _ _ (tO _ _ _ hx);obtain⟨mR,c2,q2',hm,hj⟩:=nv.win (S:=λ _=>True) (λ _ _=>trivial);obtain⟨g2,o2,rfl,_,cy⟩:=hj _ _ (tO _ _ _ hy)
   injection q with q5 q6 q7
   injection q2' with q8 q9 hs
   subst q5 q8;have x1:p<Y vs:=Z
   have hn:(p:Int)<(Y ks:Int):=Z
   clear hr hj nk nv o K HS hc hm w hx hy q6 q7 q9 hs f g G HQ R7 t h0
   go_wp2_with fail
   go_quiet (fail)
   go_wp2
   (try simp only[Exit.inBlock,Exit.then])
   refine bodyPost_ret (cL rfl _ _ _) rfl ?_;rw[u.out];exact⟨rfl,HG.out _⟩
  obtain rfl:p=Y ks:=Z
  by_cases h6:right=0
  ·subst h6;have u:=zH (g rfl rfl);clear o K HS w f g G HQ R7 t h0 hi
   go_wp2_with fail
   (try simp only[Exit.inBlock,Exit.then])
   refine bodyPost_ret (cL rfl _ _ _) rfl ?_;rw[u.out];exact⟨rfl,HG.out 0⟩
  have u:=zH (G rfl h6);have x4:((right:Int)==0)=false:=beq_eq_false_iff_ne.2 Z;clear o K HS w f g G HQ R7 t h0 hi h6
  go_wp2_with fail
  go_roundw
  case rel=>exact⟨j+1,right,0,rfl,rfl,by go_num,u.out,H.out 0⟩
  case measure=>simp[intOf];omega
 | inner i x ak h8 v y B N f g=>
  have R:=(lI v).inner rfl;dsimp only at R;have h0:=B.le;have I:=zH (yJ hp h2 z dh v);have h3:Y ak=Y x+1:=R.1;have x0:i<Y x+1:=Z
  have x2:Y x<=100:=Z
  have w:=bs n y B N f g h3;clear hI hp z dh v y n R h X B N f g h2 h0
  go_wp2_with fail
  refine I.out.mono ?_;rintro e r ⟨hl,M,nb,ka,va,aa,kc,vc,ac,rfl,L,hM,⟨m,gy,dX⟩,F,C⟩;obtain⟨n,h7,B,N,f,g,OV⟩:=w.out;have J:=m.box;dsimp only at J;rw[h3]at J;have b0:=J.c0;have b3:=J.c3
  obtain⟨ga,rfl,ra⟩:∃ga,aa=some ⟨ga,0,none⟩/\Row r ga ac (ints ak):=by
   rcases m.a with⟨_,t,_⟩|⟨hb,v,t⟩
   ·have:=congrArg List.length t;rw[iC]at this;exact absurd this (by show Y ak≠0;omega)
   exact⟨hb,v,t⟩
  have cc:r.cell? (ga,i)=some (V U (h8:Int)):=ra.at' i _ (Gi _ _ _ N);have h4:jU (λ _=>True) r nb ⟨false,x,[],ak⟩:=m.wins.1.reads (λ _ _=>trivial) trivial;have HK:=zH ((QZ h4 h7 (show Y x<=1000 from Z) key).mono (R':=λ e w'=>e=aw (V U (i:Int))/\w'=r) (λ e w' ⟨p,he,ho,hw⟩=>⟨by rw[he,B.inj ho],hw.symm⟩));have hn:(i:Int)<((Y x:Int)+1):=Z
  have i1:IntKind.i64.wrap ((i:Int)+1)=(i:Int)+1:=by
   have:i<=101:=Z
   rw[dM];omega
  have H:=zH (show PZ E r P D A (k+2*(j+1))/\Kept E W r from⟨(F.less (T:=E) (λ _ S=>O S)).up Z,n.trans C⟩);by_cases hq:i=Y x
  ·have u:=zH (f Z);subst hq;clear I w m gy dX F C L hM n h7 B N ra h4 J h3 f g OV
   go_wp2_with fail
   refine HK.out.mono ?_;rintro e w2 ⟨rfl,rfl⟩
   go_wp2_with fail
   go_roundw
   case rel=>exact⟨j+1,h8,right,rfl,rfl,by go_num,u.out,H.out⟩
   case measure=>simp[intOf];omega
  obtain⟨h1,hv⟩:∃h1,ak[i+1]?=some h1:=⟨_,bK Z⟩;have u:=zH (g h1 hv);have cv:r.cell? (ga,i+1)=some (V U (h1:Int)):=ra.at' (i+1) _ (Gi _ _ _ hv);have hh:(i:Int)+1<((Y x:Int)+1):=Z
  have hu:((i:Int)+1).toNat=i+1:=Z
  have hz:(0:Int)<=(i:Int)+1:=Z
  clear I w m gy dX F C L hM n h7 B N ra h4 J h3 f g OV hv
  go_wp2_with fail
  refine HK.out.mono ?_;rintro e w2 ⟨rfl,rfl⟩
  go_wp2_with fail
  go_roundw
  case rel=>exact⟨j+1,h8,h1,rfl,rfl,by go_num,u.out,H.out⟩
  case measure=>simp[intOf];omega
end
