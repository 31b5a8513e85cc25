/- Facts on texts and trees on pages. -/
import Derived.Test.YtgpmiliahonaoaaGreatDoorKDqXc
set_option maxRecDepth 100000
set_option maxHeartbeats 8000000
set_option linter.unusedSimpArgs false
namespace Go.Proofs.YtgpmiliahonaoaaGreatDoor
open Go.RowKit Go.BigFrame Go.ChangeMaps
open UK (str aF nth Only Row ay w32)
open DP (Rc dF bf lg dU fC jH TH bO bX gF share ng gI qG)
theorem NR.PG{W:World}{ao:Option Addr}{c i:Nat}{X:List UInt64}{t:UInt64}(h:NR W ao c (az X))(ht:X[i]?=some t):∃g,ao=some ⟨g,0,none⟩/\W.cell? ⟨g,i,none⟩=some (.int .u64 (t.toNat:Int)):=by
 rcases h with⟨_,h2,_⟩|⟨g,h1,r⟩
 ·have:=congrArg List.length h2;rw[dA]at this;have hl:=(dE.1 ht).1;simp only[List.length_nil]at this;omega
 exact⟨g,h1,r.at' i _ (by simp[az,ht])⟩
theorem M3{b:Nat}{l:List Rc}:share b l≠[]↔∃q∈l,b∈q.nR:=by
 constructor
 ·intro h;obtain⟨q,hq⟩:=qW _ h;obtain⟨h1,h2⟩:=List.mem_filter.1 hq;exact⟨q,h1,of_decide_eq_true h2⟩
 rintro⟨q,h1,h2⟩;exact List.ne_nil_of_mem (List.mem_filter.2 ⟨h1,decide_eq_true h2⟩)
theorem UF{l:List Rc}{ks:List UInt64}(hok:∀q∈l,q.ok)(hn:l.length<=8)(hup:ks.Pairwise λ x y=>x.toNat<y.toNat)(hm:∀b:UInt64,b∈ks↔∃q∈l,b.toNat∈q.nR):ks.length<=512/\ks.Nodup:=by
 have hnd:ks.Nodup:=by
  rw[List.nodup_iff_pairwise_ne];exact hup.imp (λ {a b} h e=>by rw[e]at h;omega)
 have h1:=hnd.length_le_of_subset (l₂:=(lT l).map (·.1)) (λ b hb=>(Ul hok b).2 ((hm b).1 hb));have h2:=Pm l;rw[df]at h1;exact⟨by omega,hnd⟩
def Jc(E:Nat->Prop)(W W':World)(P D K:Nat)(A:AP)(ex:List Nat)(Ec:Nat->List UInt8)(r1 r2 root:Nat)(X X':List dF)(er:Int):Prop:=
 (er=0/\∃B,DI B ex Ec r1 r2 root (fX X') (gX X')/\A.Reach B/\PZ E W' P D B K/\Kept E W W') \/
 (er=6/\∃C B S s,uk C ex (fX X) (iw X X' S) s/\s.length<=4000/\A.Reach C/\A.Reach B/\PZ E W' P D B K/\Kept E W W')
section
variable{E:Nat->Prop}{W W':World}{P D Dp T1 T2 H k q r1 r2 root n a b rc:Nat}{A:AP}{ex:List Nat}{Ec:Nat->List UInt8}{X:List dF}{rl:List Rc}{ro:Option Addr}
theorem xw3(h:DZ E W P D Dp T1 T2 H k A q r1 r2 root)(di:DI A ex Ec r1 r2 root (fX X) (gX X))(hm:A.aC<=3900)(hX:oq X)(hf:X.length<=39)(ha:a<100000)(hb:b<100000)(hr:RX W ro rc rl)(hre:∀j,aK ro j->E j)(hok:∀q∈rl,q.ok)(hn:rl.length<=8)(hk:k+13000000<900000000) :
  Calls Tryz.prog 11 #[.pointer Dp,.agg #[.int .i64 a,.int .i64 b],.slice ro rl.length rc] W λ e w'=>∃er:Int,e= .returned (.int .i64 er)/\Jc E W w' P D (k+13000000) A ex Ec r1 r2 root X (bf (bX a b) rl X) er:=by
 obtain⟨l1,dl⟩:=di;obtain⟨w0,hw0⟩:∃w0,w0=W.alloc (.cells #[.int .i64 a,.int .i64 b] 25):=⟨_,rfl⟩;have hbl:Below W W w0:=hw0▸(aV _ _).alloc (aO _) _;have hbx:ay w0 W #[.int .i64 a,.int .i64 b]:=hw0▸ay.new W _ _;have h0:=h.next hbl;have k0:=h.pz.kept hbl;obtain⟨cell,hc⟩:∃cell:UInt64,cell=UInt64.ofNat (bX a b):=⟨_,rfl⟩;have hcell:cell.toNat=bX a b:=by rw[hc,UInt64.toNat_ofNat'];unfold bX;omega
 have G5:Hid (∀w,Calls Tryz.prog 37 #[.int .i64 a,.int .i64 b] w λ e w'=>e= .returned (.int .u64 (cell.toNat:Int))/\w'=w):=zH (λ w=>by rw[hc];exact Pe a b ha hb w);obtain⟨ho1,ho2⟩:=Mx hX cell.toNat;obtain⟨Ag,iP⟩:∃Ag,Ag=ng X cell.toNat:=⟨_,rfl⟩;rw[<-iP]at ho1 ho2;have hF:fX X cell.toNat=vW Ag:=by rw[iP];rfl
 have htl:=M0 ho1 ho2;have xm:=zH (xw1 h0 dl cell (by rw[hF];omega) (by omega));rw[hF]at xm;have d0:=hbx.c0;have d1:=hbx.c1;have d2:=h0.bd.c2;obtain⟨X',nL⟩:∃X',X'=bf (bX a b) rl X:=⟨_,rfl⟩;rw[<-nL];have mP:oq X':=by rw[nL];exact hX.put (by unfold bX;omega) hok hn hf
 have hr0:RX w0 ro rc rl:=hr.ae hbl.size (λ j hj=>hbl.block j (hr.lt hj));have HH:=zH (zA h0 (zA dl (zA hm (zA hX (zA mP (zA nL hcell))))));have HR:=zH (zA hr0 (zA hre (zA hok (zA ho1 (zA k0 iP)))));have i1:¬(700:Int)<(rl.length:Int):=by omega
 clear h dl hm hX mP nL hcell hr hre hok ho1 hbl hbx h0 k0 hr0 hc hF iP hf ha hb;obtain⟨s0,hs0⟩:∃s0,s0=vW Ag:=⟨_,rfl⟩;rw[<-hs0]at xm htl;have uf:=zH hs0;clear hs0;subst hw0
 go_enter Tryz.func11,Tryz.ntmps11
 go_wp2_with fail
 refine(G5.out _).mono ?_;rintro e w5 ⟨rfl,rfl⟩
 go_wp2_with fail
 refine xm.out.mono ?_;rintro e w1 ⟨n,rfl,hid,p1,k1⟩;have H1:=zH (zA hid (zA p1 k1));clear xm G5 hid p1 k1 d0 d1 d2
 go_upto_if 46 with(fail)
 go_cut [11] (λ wv wx=>∃ao c,wv= .slice ao Ag.length c/\Hid (RX wx ao c Ag/\Below w1 w1 wx))
 case first=>
  by_cases h0:Ag=[]
  ·have hs:s0=[]:=by rw[uf.out];exact if_pos h0
   subst h0 hs;go_wp2;go_meet
   case rel=>exact⟨none,0,rfl,zH ⟨.inl ⟨rfl,rfl,rfl⟩,aV _ _⟩⟩
  have hs:s0=jH Ag:=by rw[uf.out];exact if_neg h0
  have hie:s0.isEmpty=false:=by rw[hs];exact Px (DP.xW Ag)
  have Jd:(!s0.isEmpty)=true:=by rw[hie];rfl
  rw[Jd];clear Jd;have UG:=zH (OX s0 w1);have EA:=zH hs;clear hs h0
  go_wp2_with fail
  refine UG.out.mono ?_;rintro e w7 ⟨rfl,si,Je⟩;have UH:=zH (TU (rest:=[]) (l:=Ag) si (by rw[List.drop_zero,jL];exact EA.out) (by omega) (by omega) HR.out.2.2.2.1);have HB7:=zH Je;clear si Je UG
  go_wp2_with fail
  refine UH.out.mono ?_;rintro e w8 ⟨ao,c,rfl,at2,um,hd8,hrx,hnew,G6⟩;rw[fH]at hrx;have si:=HB7.out;have um:Below w1 w1 w8:=⟨G6.os.trans si.os,G6.tape.trans si.tape,G6.output.trans si.output,aP si.size G6.size,λ j hj=>(G6.block j ⟨bZ hj si.size,by omega⟩).trans (si.block j hj)⟩;have HJ:=zH (zA hrx um);clear um hd8 hrx hnew G6 si UH;go_wp2;go_meet
  case rel=>exact⟨ao,c,rfl,HJ⟩
 case rest=>
 obtain⟨ao0,c0,rfl,HC⟩:=hcut;have UI:=zH (Um HC.out.1 HR.out.2.2.2.1 (by omega))
 go_wp2_with fail
 refine UI.out.mono ?_;rintro e w2 ⟨Aa,c1,iD,n1,hd1,M1,rfl,yA,yB,lW,_,_,sj,_,UJ⟩;obtain⟨hr0,hre,hok,ho1,k0,iP⟩:=HR.out;obtain⟨hid,p1,k1⟩:=H1.out;have ou:Below w1 w1 w2:=HC.out.2.trans (UJ.mono HC.out.2.size);have hr2:RX w2 ro rc rl:=hr0.ae (aP k1.size ou.size) (λ j hj=>(ou.block j (bZ (hr0.lt hj) k1.size)).trans (k1.block j (hre j hj)));have Jf:=zH (Um hr2 hok (by omega));have UL:=zH (zA yA (zA yB (zA lW (zA sj ou))));clear yA yB lW sj UJ hr0 hre hok ho1 k0 iP hid p1 k1 ou hr2 UI
 go_wp2_with fail
 refine Jf.out.mono ?_;rintro e w3 ⟨lS,c2,iN,n2,hd,M,rfl,G7,Jg,qp,hmap,hlist,Dm,UM,Gq⟩;obtain⟨h0,dl,hm,hX,mP,nL,hcell⟩:=HH.out;obtain⟨hr0,hre,hok,ho1,k0,iP⟩:=HR.out;obtain⟨hid,p1,k1⟩:=H1.out;obtain⟨yA,yB,lW,sj,ou⟩:=UL.out;have yC:Below w1 w1 w3:=ou.trans (Gq.mono ou.size);obtain⟨E',hE'⟩:∃E':Nat->Prop,E'=λ j=>E j\/(w1.heap.size<=j/\j<w3.heap.size):=⟨_,rfl⟩;have hz3:DZ E' w3 P D Dp T1 T2 H (k+5000) A q r1 r2 root:=(h0.of p1 k1).wide yC (λ j hj=>by rw[hE']at hj;exact hj) (λ j hj=>by rw[hE'];exact .inl hj);obtain⟨f1,G8⟩:=UF ho1 ho2 yB lW;obtain⟨f2,Jh⟩:=UF hok hn Jg qp;have kE:Kept E W w3:=(k0.trans k1).trans (p1.kept yC);have Ji:NR w3 Aa iD.length (az iD):=yA.ae Gq.size (λ j hj=>Gq.block j (yA.lt hj));have vZ:∀j,aK Aa j->E' j:=λ j hj=>by rw[hE'];exact .inr ⟨aP HC.out.2.size (sj j hj),bZ (yA.lt hj) Gq.size⟩
 have yD:∀j,aK lS j->E' j:=λ j hj=>by rw[hE'];exact .inr ⟨aP ou.size (Dm j hj),G7.lt hj⟩
 have BB:E' M:=by rw[hE'];exact .inr ⟨aP ou.size UM,hmap.lt⟩
 have hhd:∀(b:UInt64) j,aK (hd b).addr j->E' j:=λ b j hj=>by rw[hE'];exact .inr ⟨aP ou.size ((hlist b).2.2.2 j (uV.1 hj)),(hlist b).1.lt hj⟩
 have hr3:RX w3 ro rc rl:=hr0.ae (aP k1.size yC.size) (λ j hj=>(yC.block j (bZ (hr0.lt hj) k1.size)).trans (k1.block j (hre j hj)));have yE:∀j,aK ro j->E' j:=λ j hj=>by rw[hE'];exact .inl (hre j hj)
 have HA:=zH (zA hE' (zA hm (zA hX (zA mP (zA nL (zA hcell (zA hok (zA iP (zA hid kE)))))))));have HO:=zH (zA Ji (zA vZ (zA lW G8)));have HN:=zH (zA G7 (zA yD (zA qp Jh)));have HM:=zH (zA hmap (zA BB (zA hlist hhd)));have HRR:=zH (zA hr3 yE);have HZ:=zH (zA hz3 dl);clear h0 dl hm hX mP nL hcell hr0 hre hok ho1 k0 iP hid p1 k1 yA yB lW sj ou yC hE' hz3 G8 Jh kE Ji vZ yD BB hhd hr3 yE G7 Jg qp hmap hlist Dm UM Gq Jf UL HC HH HR H1
 go_wp2_with fail
 go_loopw [62] (λ iv wr=>∃(i:Nat) (A1:AP) (S:List Nat),iv= .int .i64 i/\i<=iD.length/\Hid (DL A1 ex Ec r1 r2 root (fX X) (iw X X' S) l1/\A.Reach A1/\DZ E' wr P D Dp T1 T2 H (k+5000+12000*i) A1 q r1 r2 root/\Kept E' w3 wr/\(∀x∈S,∃b:UInt64,b∈iD.take i/\b.toNat=x/\share x rl=[])/\(∀b∈iD.take i,share b.toNat rl=[]->b.toNat∈S))) (λ iv _=>1000-(intOf iv).toNat)
 case atStart=>exact⟨0,A,[],rfl,aY _,zH ⟨by rw[xwy];exact HZ.out.2,AP.Reach.refl _,HZ.out.1,Kept.refl _ _,λ x hx=>(by cases hx),λ b hb=>(by cases hb)⟩⟩
 clear HZ;obtain⟨i,A1,S,rfl,hi,HI⟩:=hrel;by_cases hlt:i<iD.length
 ·obtain⟨bb,hbb⟩:∃bb,iD[i]?=some bb:=⟨_,bL hlt⟩;obtain⟨yA,vZ,lW,G8⟩:=HO.out;obtain⟨hmap,BB,hlist,hhd⟩:=HM.out;obtain⟨dl,lX,hz,hkp,hS1,hS2⟩:=HI.out;have EG:=yA.ae hkp.size (λ j hj=>hkp.block j (vZ j hj));obtain⟨g1,rfl,cd⟩:=NR.PG EG hbb;have hmr:=hmap.ae (hkp.block M BB);have eg:=hmr.get (t:=89) (E:=33) Tryz.underlying77 Tryz.underlying89 Tryz.zeroValue33 bb;unfold Hd.val at eg;have q1:(i:Int)<iD.length:=by omega
  have hgb:iD[i]=bb:=aZ ((bL hlt).symm.trans hbb);have htk:iD.take (i+1)=iD.take i++[bb]:=by rw[List.take_succ_eq_append_getElem hlt,hgb]
  cases ui:(hd bb).a with
  | some g=>
   have hsh:share bb.toNat rl≠[]:=λ e=>by rw[(hlist bb).2.2.1.2 e]at ui;cases ui
   have yF:(hd bb).addr=some ⟨g,0,none⟩:=by unfold Hd.addr;rw[ui];rfl
   rw[yF]at eg;obtain⟨x,hx⟩:∃x,x=(hd bb).n:=⟨_,rfl⟩;obtain⟨y,hy⟩:∃y,y=(hd bb).c:=⟨_,rfl⟩;rw[<-hx,<-hy]at eg;have hnil:∀W n c,(binOp .neq 33 (.slice g n c) (.slice none 0 0)).run Tryz.prog W= .ok (.bool true) W:=λ W n c=>Go.run_neq_slice_nil W _ _ _ _ _ Tryz.underlying33
   have rM:Hid (DL A1 ex Ec r1 r2 root (fX X) (iw X X' S) l1/\A.Reach A1/\DZ E' wr P D Dp T1 T2 H (k+5000+12000*(i+1)) A1 q r1 r2 root/\Kept E' w3 wr/\(∀x∈S,∃b:UInt64,b∈iD.take (i+1)/\b.toNat=x/\share x rl=[])/\(∀b∈iD.take (i+1),share b.toNat rl=[]->b.toNat∈S)):=by
    refine zH ⟨dl,lX,hz.up (by omega),hkp,λ x hx=>?_,λ b hb hs=>?_⟩
    ·obtain⟨b,h1,h2,h3⟩:=hS1 x hx;exact⟨b,by rw[htk];exact eF _ h1,h2,h3⟩
    rw[htk]at hb;rcases dD.1 hb with hb|hb
    ·exact hS2 b hb hs
    rw[bz.1 hb]at hs;exact absurd hs hsh
   clear yA vZ lW G8 hmap BB hlist hhd dl lX hz hkp hS1 hS2 EG hmr htk hsh yF ui hx hy hbb hgb HI;go_wp2;go_roundw
   case rel=>exact⟨i+1,A1,S,by go_num,by omega,rM⟩
   case measure=>simp only[intOf];omega
  | none=>
   have hsh:share bb.toNat rl=[]:=(hlist bb).2.2.1.1 ui;have hn0:(hd bb).n=0:=by rw[(hlist bb).2.1,hsh];rfl
   have yF:(hd bb).addr=none:=by unfold Hd.addr;rw[ui];rfl
   rw[yF,hn0]at eg;obtain⟨y,hy⟩:∃y,y=(hd bb).c:=⟨_,rfl⟩;rw[<-hy]at eg;have hnil:∀W n c,(binOp .neq 33 (.slice none n c) (.slice none 0 0)).run Tryz.prog W= .ok (.bool false) W:=λ W n c=>Go.run_neq_slice_nil W _ _ _ _ _ Tryz.underlying33;obtain⟨hE',hm,hX,mP,nL,hcell,hok,iP,hid,kE⟩:=HA.out
   have hbS:bb.toNat∉S:=λ hbS=>by
    obtain⟨b,h1,h2,h3⟩:=hS1 _ hbS;have e:b=bb:=mJ.1 h2;subst e;obtain⟨j,hj,e⟩:=gB h1;rw[zt]at hj;rw[List.getElem_take]at e;have:=List.pairwise_iff_getElem.1 (List.nodup_iff_pairwise_ne.1 G8) j i (by omega) hlt (by omega);exact this (e.trans hgb.symm)
   have ny:=UE (ro:=none) (rc:=0) (rl:=rl) hz dl (by rw[lX.qo];exact hm) hX mP bb cell (by rw[hcell];exact nL) hbS (by rw[hsh];exact .inl ⟨rfl,rfl,rfl⟩) (λ j hj=>by cases hj) hn (by omega);rw[hsh]at ny;have uo:=zH ny;have rM:=zH (zA lX (zA hz (zA hkp (zA hS1 (zA hS2 (zA htk hsh))))));clear yA vZ lW G8 hmap BB hlist hhd dl lX hz hkp hS1 hS2 EG hmr htk hsh yF ui hbb hgb HI hn0 hy hE' hm hX mP nL hcell hok iP hid kE hbS ny
   go_wp2_with fail
   refine uo.out.mono ?_;rintro e w5 ⟨er,rfl,(⟨rfl,B,BC,rB,pB,kB⟩|⟨rfl,B,hlk,rB,pB,kB⟩)⟩
   ·have qV:Hid (DL B ex Ec r1 r2 root (fX X) (iw X X' (S++[bb.toNat])) l1/\A.Reach B/\DZ E' w5 P D Dp T1 T2 H (k+5000+12000*(i+1)) B q r1 r2 root/\Kept E' w3 w5/\(∀x∈S++[bb.toNat],∃b:UInt64,b∈iD.take (i+1)/\b.toNat=x/\share x rl=[])/\(∀b∈iD.take (i+1),share b.toNat rl=[]->b.toNat∈S++[bb.toNat])):=by
     obtain⟨lX,hz,hkp,hS1,hS2,htk,hsh⟩:=rM.out;refine zH ⟨BC,lX.trans rB,(hz.of pB kB).up (by omega),hkp.trans kB,λ x hx=>?_,λ b hb hs=>?_⟩
     ·rw[htk];rcases dD.1 hx with hx|hx
      ·obtain⟨b,h1,h2,h3⟩:=hS1 x hx;exact⟨b,eF _ h1,h2,h3⟩
      rw[bz.1 hx];exact⟨bb,lI _ (bz.2 rfl),rfl,hsh⟩
     rw[htk]at hb;rcases dD.1 hb with hb|hb
     ·exact eF _ (hS2 b hb hs)
     rw[bz.1 hb];exact lI _ (bz.2 rfl)
    clear rM BC rB pB kB uo;go_wp2;go_roundw
    case rel=>exact⟨i+1,B,S++[bb.toNat],by go_num,by omega,qV⟩
    case measure=>simp only[intOf];omega
   have qV:=zH (zA hlk (zA rB (zA pB kB)));clear hlk rB pB kB uo;go_wp2;go_ret;obtain⟨hlk,rB,pB,kB⟩:=qV.out;obtain⟨lX,hz,hkp,_⟩:=rM.out;obtain⟨hE',hm,hX,mP,nL,hcell,hok,iP,hid,kE⟩:=HA.out;have nT:∀j,E j->E' j:=λ j hj=>by rw[hE'];exact .inl hj
   exact⟨6,rfl,.inr ⟨rfl,A1,B,S,_,hlk,by have:=ED mP bb.toNat;omega,lX,lX.trans rB,(pB.up (by omega)).less nT,kE.trans ((hkp.trans kB).mono nT)⟩⟩
 obtain rfl:i=iD.length:=by omega
 obtain⟨dl,lX,hz,hkp,hS1,hS2⟩:=HI.out;rw[fH]at hS1 hS2;have qR:=zH (zA lX (zA hS1 hS2));have HZ:=zH (zA dl (zA (hz.up (K:=k+6205000) (by omega)) hkp));clear dl lX hz hkp hS1 hS2 HI
 go_wp2_with fail
 go_loopw [80] (λ jv wr2=>∃(j:Nat) (A2:AP),jv= .int .i64 j/\j<=iN.length/\Hid (DL A2 ex Ec r1 r2 root (fX X) (iw X X' (S++(iN.take j).map UInt64.toNat)) l1/\A.Reach A2/\DZ E' wr2 P D Dp T1 T2 H (k+6205000+12000*j) A2 q r1 r2 root/\Kept E' w3 wr2)) (λ jv _=>1000-(intOf jv).toNat)
 case atStart=>exact⟨0,A1,rfl,aY _,zH ⟨by rw[jW,List.map_nil,jL];exact HZ.out.1,qR.out.1,HZ.out.2.1,HZ.out.2.2⟩⟩
 clear HZ;obtain⟨j,A2,rfl,hj,HI⟩:=hrel;by_cases hlt2:j<iN.length
 ·obtain⟨bb,hbb⟩:∃bb,iN[j]?=some bb:=⟨_,bL hlt2⟩;obtain⟨G7,yD,qp,Jh⟩:=HN.out;obtain⟨hmap,BB,hlist,hhd⟩:=HM.out;obtain⟨dl,lX,hz,hkp⟩:=HI.out;have Jj:=G7.ae hkp.size (λ j hj=>hkp.block j (yD j hj));obtain⟨g2,rfl,cd⟩:=NR.PG Jj hbb;have hmr:=hmap.ae (hkp.block M BB);have eg:=hmr.get (t:=89) (E:=33) Tryz.underlying77 Tryz.underlying89 Tryz.zeroValue33 bb;unfold Hd.val at eg;have q1:(j:Int)<iN.length:=by omega
  have hgb:iN[j]=bb:=aZ ((bL hlt2).symm.trans hbb);have htk:iN.take (j+1)=iN.take j++[bb]:=by rw[List.take_succ_eq_append_getElem hlt2,hgb]
  obtain⟨hE',hm,hX,mP,nL,hcell,hok,iP,hid,kE⟩:=HA.out;obtain⟨PH,hS1,hS2⟩:=qR.out;have hsh:share bb.toNat rl≠[]:=M3.2 ((qp bb).1 (eZ hbb))
  have hbS:bb.toNat∉S++(iN.take j).map UInt64.toNat:=λ hbS=>by
   rcases dD.1 hbS with hbS|hbS
   ·obtain⟨b,h1,h2,h3⟩:=hS1 _ hbS;exact hsh h3
   obtain⟨b,h1,h2⟩:=bQ.1 hbS;have e:b=bb:=mJ.1 h2;subst e;obtain⟨i,hi,e⟩:=gB h1;rw[zt]at hi;rw[List.getElem_take]at e;have:=List.pairwise_iff_getElem.1 (List.nodup_iff_pairwise_ne.1 Jh) i j (by omega) hlt2 (by omega);exact this (e.trans hgb.symm)
  have hrb:RX wr (hd bb).addr (hd bb).c (share bb.toNat rl):=(hlist bb).1.ae hkp.size (λ i hi=>hkp.block i (hhd bb i hi));have ny:=UE (rl:=rl) hz dl (by rw[lX.qo];exact hm) hX mP bb cell (by rw[hcell];exact nL) hbS hrb (hhd bb) hn (by omega);rw[<-(hlist bb).2.1]at ny;obtain⟨x,hx⟩:∃x,x=(hd bb).addr:=⟨_,rfl⟩;obtain⟨y,hy⟩:∃y,y=(hd bb).n:=⟨_,rfl⟩;obtain⟨z,hz2⟩:∃z,z=(hd bb).c:=⟨_,rfl⟩;rw[<-hx,<-hy,<-hz2]at eg ny;have uo:=zH ny;have rM:=zH (zA lX (zA hz (zA hkp htk)));clear G7 yD qp Jh hmap BB hlist hhd dl lX hz hkp hS1 hS2 PH Jj hmr htk hsh hbb hgb HI hE' hm hX mP nL hcell hok iP hid kE hbS ny hrb hx hy hz2
  go_wp2_with fail
  refine uo.out.mono ?_;rintro e w5 ⟨er,rfl,(⟨rfl,B,BC,rB,pB,kB⟩|⟨rfl,B,hlk,rB,pB,kB⟩)⟩
  ·have qV:Hid (DL B ex Ec r1 r2 root (fX X) (iw X X' (S++(iN.take (j+1)).map UInt64.toNat)) l1/\A.Reach B/\DZ E' w5 P D Dp T1 T2 H (k+6205000+12000*(j+1)) B q r1 r2 root/\Kept E' w3 w5):=by
    obtain⟨lX,hz,hkp,htk⟩:=rM.out;refine zH ⟨?_,lX.trans rB,(hz.of pB kB).up (by omega),hkp.trans kB⟩;rw[htk,dO,<-cO];exact BC
   clear rM BC rB pB kB uo;go_wp2;go_roundw
   case rel=>exact⟨j+1,B,by go_num,by omega,qV⟩
   case measure=>simp only[intOf];omega
  have qV:=zH (zA hlk (zA rB (zA pB kB)));clear hlk rB pB kB uo;go_wp2;go_ret;obtain⟨hlk,rB,pB,kB⟩:=qV.out;obtain⟨lX,hz,hkp,_⟩:=rM.out;obtain⟨hE',hm,hX,mP,nL,hcell,hok,iP,hid,kE⟩:=HA.out;have nT:∀j,E j->E' j:=λ j hj=>by rw[hE'];exact .inl hj
  exact⟨6,rfl,.inr ⟨rfl,A2,B,_,_,hlk,by have:=ED mP bb.toNat;omega,lX,lX.trans rB,(pB.up (by omega)).less nT,kE.trans ((hkp.trans kB).mono nT)⟩⟩
 obtain rfl:j=iN.length:=by omega
 obtain⟨dl,lX,hz,hkp⟩:=HI.out;rw[fH]at dl;obtain⟨hE',hm,hX,mP,nL,hcell,hok,iP,hid,kE⟩:=HA.out;obtain⟨_,hS1,hS2⟩:=qR.out
 have hall:iw X X' (S++iN.map UInt64.toNat)=gX X':=by
  rw[nL];refine xw0 hX (λ x hx=>?_);rw[hcell]at iP
  have h1:share x rl=[]:=by
   by_cases hs:share x rl=[]
   ·exact hs
   exfalso;obtain⟨q,hq,Jk⟩:=M3.1 hs
   obtain⟨b,hb⟩:∃b:UInt64,b.toNat=x:=Mm (by
    rcases DP.tZ (hok q hq) Jk with e|e
    ·rw[e];show 18446744073709551615<2^64;omega
    omega)
   exact hx (lI _ (bQ.2 ⟨b,(HN.out.2.2.1 b).2 ⟨q,hq,hb▸Jk⟩,hb⟩))
  refine⟨?_,h1⟩;by_cases hs:share x (ng X (bX a b))=[]
  ·exact hs
  exfalso;obtain⟨q,hq,Jk⟩:=M3.1 hs
  obtain⟨b,hb⟩:∃b:UInt64,b.toNat=x:=Mm (by
   rcases DP.tZ ((Mx hX _).1 q hq) Jk with e|e
   ·rw[e];show 18446744073709551615<2^64;omega
   omega)
  have hb1:=(HO.out.2.2.1 b).2 ⟨q,by rw[iP];exact hq,hb▸Jk⟩;exact hx (eF _ (hb▸hS2 b hb1 (by rw[hb];exact h1)))
 rw[hall]at dl
 have EH:(fX X cell.toNat).length<=4000:=by
  have e:fX X cell.toNat=s0:=by rw[uf.out,iP];rfl
  rw[e];omega
 have nT:∀j,E j->E' j:=λ j hj=>by rw[hE'];exact .inl hj
 have EI:A2.aC<=3900:=by rw[lX.qo];exact hm
 have hpt:fX X'=bO (fX X) cell.toNat (vW rl):=by rw[nL,hcell];exact ybk hX
 have d2:=hz.bd.c2;have HP:=zH hpt
 have HQ:Hid (∀w' er K,EF E' wr w' P D K A2 ex (fX X) (gX X') (vW rl) (λ B=>DI B ex Ec r1 r2 root (bO (fX X) cell.toNat (vW rl)) (gX X')) er->K<=k+13000000->Jc E W w' P D (k+13000000) A ex Ec r1 r2 root X X' er):=zH (λ w' er K hR hK=>by
  rcases hR with⟨rfl,B,BC,rB,pB,kB⟩|⟨rfl,B,hlk,rB,pB,kB⟩
  ·exact .inl ⟨rfl,B,by rw[hpt];exact BC,lX.trans rB,(pB.up hK).less nT,kE.trans ((hkp.trans kB).mono nT)⟩
  rw[<-hall]at hlk;exact .inr ⟨rfl,A2,B,_,_,hlk,by have:=M0 hok hn;omega,lX,lX.trans rB,(pB.up hK).less nT,kE.trans ((hkp.trans kB).mono nT)⟩)
 by_cases h0:rl=[]
 ·have hi0:((rl.length:Int)==0)=true:=by rw[h0];rfl
  have HST:=zH (UD (s:=[]) hz dl EI hid (aY _) EH (by omega));have e0:vW rl=[]:=if_pos h0;have hrl:rl.length=0:=by rw[h0];rfl
  rw[e0]at HQ;clear dl lX hz hkp HI hE' hm hX mP nL hcell hok iP hid kE hS1 hS2 hall nT EI hpt EH HN HO HM qR HA;rw[hrl]
  go_wp2_with fail
  refine HST.out.mono ?_;rintro e w6 ⟨er,rfl,hR⟩;replace HST:=zH hR;clear hR;go_wp2;go_ret;exact⟨er,rfl,HQ.out _ _ _ HST.out (by omega)⟩
 have hi0:((rl.length:Int)==0)=false:=by
  have:=List.length_pos_iff.2 h0;exact beq_eq_false_iff_ne.2 (by omega)
 have hi1:¬((rl.length:Int)=0):=by
  have:=List.length_pos_iff.2 h0;omega
 have e0:vW rl=jH rl:=if_neg h0;have ig:Below wr wr (wr.alloc (.cells #[.slice none 0 0] 96)):=(aV _ _).alloc (aO _) _;have hbx:=ay.new wr #[.slice none 0 0] 96;have hw0:gW (λ j=>j<wr.heap.size) (wr.alloc (.cells #[.slice none 0 0] 96)) wr none 0 []:=⟨hbx,.inl ⟨rfl,rfl,rfl⟩,lu _,λ j hj=>(by cases hj),λ j hj=>by simp;omega⟩;obtain⟨hr3,yE⟩:=HRR.out;have hrw:RX wr ro rc rl:=hr3.ae hkp.size (λ j hj=>hkp.block j (yE j hj));have hrw2:RX (wr.alloc (.cells #[.slice none 0 0] 96)) ro rc rl:=hrw.ae ig.size (λ j hj=>ig.block j (hrw.lt hj));have UN:=zH (TR hw0 hrw2 (λ j hj=>hrw.lt hj) hok (by omega) (by simp));have HY:=zH (zA hz (zA dl (zA EI (zA hid (zA EH (zA ig (zA hok e0)))))));clear dl lX hz hkp HI hE' hm hX mP nL hcell hok iP hid kE hS1 hS2 hall nT EI hpt EH HN HO HM qR HA hr3 yE hrw hrw2 hw0 hbx ig HRR d2
 go_wp2_with fail
 refine UN.out.mono ?_;rintro e w6 ⟨rfl,ao6,c6,qX,CO⟩;rw[jM]at qX;obtain⟨hz,dl,EI,hid,EH,ig,hok,e0⟩:=HY.out;have hb6:Below wr wr w6:=⟨CO.os.trans ig.os,CO.tape.trans ig.tape,CO.output.trans ig.output,aP ig.size CO.size,λ j hj=>(CO.block j hj).trans (ig.block j hj)⟩;have si:Below wr wr w6.drew:=hb6.trans (aV _ _).drew;have PI:=hz.next si;have hw7:=qX.same ((aV w6 w6).drew);have UO:=zH (TG hw7 (DP.xW rl));have HST:=zH (UD (s:=jH rl) PI dl EI hid (by have:=M0 hok hn;rw[e0]at this;omega) EH (by omega));have d2:=PI.bd.c2;have k7:=hz.pz.kept si;rw[e0]at HQ;have UQ:=zH k7;clear hz dl EI hid EH ig hok e0 hb6 si PI qX hw7 CO k7 UN HY
 go_wp2_with fail
 go_region_with (first
  | (go_at_call 45;refine UO.out.mono ?_;rintro e w8 ⟨rfl,rfl⟩)
  | (go_at_call 43;refine HST.out.mono ?_;rintro e w9 ⟨er,rfl,hR⟩;replace hR:=zH hR))
 all_goals
  clear UO HST d2;go_wp2;go_ret;refine⟨er,rfl,HQ.out _ _ _ ?_ (aO _)⟩;rcases hR.out with⟨rfl,B,BC,rB,pB,kB⟩|⟨rfl,B,hlk,rB,pB,kB⟩
  ·exact .inl ⟨rfl,B,BC,rB,pB.up (by omega),UQ.out.trans kB⟩
  exact .inr ⟨rfl,B,hlk,rB,pB.up (by omega),UQ.out.trans kB⟩
end
end Go.Proofs.YtgpmiliahonaoaaGreatDoor
