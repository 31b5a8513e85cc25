/- Facts on rows of numbers on pages. -/
import Derived.Test.YtlipgbnnbefhjaaGreatDoorKSqVc
set_option maxRecDepth 100000
set_option maxHeartbeats 8000000
set_option linter.unusedSimpArgs false
namespace Go.Proofs.YtlipgbnnbefhjaaGreatDoor
open Go.RowKit
open UK (str aO nth Only Row aI)
def mF(E:Nat->Prop)(W w':World)(P D Q T rt aC k:Nat)(A:AP)(tot:Nat)(l:List UInt64):Prop:=
 ∃A' m' bK e' s' n',aD E w' P D Q T rt aC A' k/\Kept E W w'/\RI A' rt aC m' bK e' s' n'/\s'.l=l/\A.Reach A'/\A'.ay+s'.ps.length+bK.length=tot
section
variable{B E F:Nat->Prop}{W W':World}{P D Q T rt aC k nb e:Nat}{A:AP}{n:Sn}{qs:List Nat}{m:List KV}{s:SS}{ka va aa:Option Addr}{kc vc ac:Nat}
theorem eD.fM(h:eD B W nb n ka va aa kc vc ac)(p:Nat):eD B (W.setCell (nb,1) (.int .i64 (p:Int))) nb {n with up:=p} ka va aa kc vc ac/\Kept (λ j=>j<W.heap.size/\¬B j) W (W.setCell (nb,1) (.int .i64 (p:Int))):=by
 have o:Only nb W (W.setCell (nb,1) (.int .i64 (p:Int))):=(Only.refl nb W).set 1 _;have b:=h.1.box.set 1 (.int .i64 (p:Int));generalize W.setCell (nb,1) (.int .i64 (p:Int))=w2 at o b ⊢;refine⟨⟨⟨by simpa using b,h.1.k.only o (λ e=>(h.1.new nb (.inl e)).2 rfl),h.1.v.only o (λ e=>(h.1.new nb (.inr (.inl e))).2 rfl),h.1.a.only o (λ e=>(h.1.new nb (.inr (.inr e))).2 rfl),bY _,h.1.new,h.1.kv,h.1.ka,h.1.va⟩,h.2⟩,?_⟩;exact Ll o (Only.refl nb w2) (.inl (h.2 nb (.inl rfl))) (h.2 nb (.inl rfl))
theorem Yv{S:Nat->Prop}{w:World}{g a b:Nat}(h:aI w g #[.int .i64 (a:Int),.int .i64 (b:Int)])(hg:S g):dY S w (.slice g 2 2) (ints [a,b]):=by
 refine⟨_,2,rfl,aZ _,λ j u hj=>⟨g,0,rfl,hg,?_⟩⟩;rw[gq];refine h.cell j u ?_
 simpa[ints]using hj
theorem xxa{w7 w:World}{g g1 g2 a b c d:Nat}(h:aI w g #[.bool false,.int .i64 0,.slice none 0 0,.slice g1 2 2,.slice g2 2 2])(h1:aI w g1 #[.int .i64 (a:Int),.int .i64 (b:Int)])(h2:aI w g2 #[.int .i64 (c:Int),.int .i64 (d:Int)])(hg:w7.heap.size<=g)(hg1:w7.heap.size<=g1)(hg2:w7.heap.size<=g2) :
  gK (λ j=>w7.heap.size<=j/\j<w.heap.size) w g ⟨false,0,[],[a,b],[c,d]⟩:=
 ⟨_,_,_,h,⟨hg,h.lt⟩,Db,Yv h1 ⟨hg1,h1.lt⟩,Yv h2 ⟨hg2,h2.lt⟩⟩
theorem xrh{w7 w:World}{g:Nat}{A':AP}{m':List KV}{bK:List Nat}{F':Nat->Prop}{n1 n2:Sn}{s1 s2:SS}(xz:∀j,E j->F' j)(hQ:E Q)(hT:E T)(hs:aD F' w7 P D Q T rt aC A' (k+400+1100*n.aA.length))(ha:s1.pg<60001)(hb:s2.pg<60001)(hm:m'.length<=1800000)(hz:q9 A A' rt aC m qs bK e s s1 s2 n1 n2 m')(kp:Kept E W w7)(hk:k+60000<900000000)(hnl:n.aA.length<=50)(hbw:Below w7 w7 w)(hn:gK (λ j=>w7.heap.size<=j/\j<w.heap.size) w g ⟨false,0,[],[s1.pg,s2.pg],[n1.count,n2.count]⟩) :
  Calls Tryz.prog 99 #[.pointer Q,.int .i64 rt,.pointer g] w λ e' w'=>e'= .returned (.int .i64 0)/\mF E W w' P D Q T rt aC (k+410+1100*n.aA.length) A (A.ay+s.ps.length+qs.length) s.l:=by
 obtain⟨f1,f2,f3,f4,f5,f6⟩:=hz.store hm ha hb;have hs2:=hs.wide (E':=λ j=>F' j\/(w7.heap.size<=j/\j<w.heap.size)) hbw (λ j hj=>hj) (λ j hj=>.inl hj);rw[<-f2]at hn;have hrt:A'.Has rt:=hz.rp.dO (gZ ..);refine(Dc hs2 (by omega) hrt (hn.mono (λ g hg=>.inr hg)) f1).mono ?_;rintro e' w' ⟨rfl,hs3,k3⟩;refine⟨rfl,_,_,_,_,_,_,(hs3.less hQ hT (λ j hj=>.inl (xz j hj))).up (by omega),?_,f3,f6,f4,?_⟩
 ·exact kp.trans (((Kept.of_below hbw hs.pz.there).mono xz).trans (k3.mono (λ j hj=>.inl (xz j hj))))
 rw[f5];have h1:=hz.ay;have h2:=hz.len;have h3:(jC rt [s1,s2]).ps.length=1+(s1.ps.length+s2.ps.length):=by simp[jC,bI];omega
 omega
theorem xub(hE:∀j,E j->F j/\¬B j)(h:aD F W P D Q T rt aC A k)(hQ:E Q)(hT:E T)(hk:k+200000<900000000)(hz:ZI A rt aC m qs [] e s n)(hlt:n.ax<n.size)(hle:n.size<=n.ax+1)(hn:eD B W nb n ka va aa kc vc ac)(hB:∀j,B j->F j)(ht:¬B 0)(aY:m.length+700<=14*(A.ay+qs.length)) :
  Calls Tryz.prog 101 #[.pointer Q,.pointer nb] W λ e' w'=>e'= .returned (.int .i64 0)/\mF E W w' P D Q T rt aC (k+410+1100*n.aA.length) A (A.ay+s.ps.length+qs.length) s.l:=by
 have hnl:n.aA.length<=50:=by
  have hm:n.ax<=48:=by unfold Sn.ax;split<;>omega
  unfold Sn.size at hle;omega
 have c1:=h.box.c1;have q0:W.frozen? ⟨nb,1,none⟩=false:=hn.1.box.free 1;have d1:=hn.1.box.cell 1 _ rfl;obtain⟨hn0,k0⟩:=hn.fM rt;have SE:¬B Q:=(hE Q hQ).2;have SF:¬B T:=(hE T hT).2;have hs0:=h.own hB SE SF ht k0;have HT:=zH (xt9 (F:=λ j=>F j\/(W.heap.size<=j/\j<(W.setCell (nb,1) (.int .i64 (rt:Int))).heap.size)) rfl hs0 (by omega) hz hlt hle hn0 (λ j hj=>.inl (hB j hj)) SE SF ht aY);have HK:=zH (zA (k0.mono (T:=E) (λ j hj=>⟨h.pz.there j (hE j hj).1,(hE j hj).2⟩)) (zA hE (zA hQ hT)));clear h hz hn hn0 k0 hs0 hB ht aY hE hQ hT SE SF hlt hle
 go_enter Tryz.func101,Tryz.ntmps101
 go_wp2_with fail
 refine HT.out.mono ?_;rintro e' w5 ⟨mb,rfl,h5⟩;replace h5:=zH h5;clear HT c1 q0 d1
 go_wp2_with fail
 refine h5.out.mono ?_;rintro e' w6 ⟨a,rfl,h6⟩;replace h6:=zH h6;clear h5
 go_wp2_with fail
 refine h6.out.mono ?_;rintro e' w7 ⟨b,rfl,h7⟩;clear h6;obtain⟨A',m',bK,F',n1,n2,s1,s2,jO,hs,r1,r2,rfl,rfl,ha2,hb2,hm,hzz,kp⟩:=h7;have qV:=zH (λ (w:World) (bw:Below w7 w7 w)=>yY (r1.kept (Kept.of_below bw hs.pz.there)) hzz.o1);have lq:=zH (λ (w:World) (bw:Below w7 w7 w)=>yY (r2.kept (Kept.of_below bw hs.pz.there)) hzz.o2)
 have HS:=zH (λ (w:World) (g g1 g2:Nat) (bw:Below w7 w7 w) (h0:aI w g #[.bool false,.int .i64 0,.slice none 0 0,.slice g1 2 2,.slice g2 2 2]) (h1:aI w g1 #[.int .i64 (s1.pg:Int),.int .i64 (s2.pg:Int)]) (h2:aI w g2 #[.int .i64 (n1.count:Int),.int .i64 (n2.count:Int)]) (hg:w7.heap.size<=g) (hg1:w7.heap.size<=g1) (hg2:w7.heap.size<=g2)=>
  xrh (λ j hj=>jO j (.inl (HK.out.2.1 j hj).1)) HK.out.2.2.1 HK.out.2.2.2 hs ha2 hb2 hm hzz (HK.out.1.trans (kp.mono (λ j hj=>⟨.inl (HK.out.2.1 j hj).1,(HK.out.2.1 j hj).2⟩))) (by omega) hnl bw (xxa h0 h1 h2 hg hg1 hg2))
 have c1:=hs.box.c1;have NY:Q<w7.heap.size:=hs.box.lt;clear hs r1 r2 ha2 hb2 hm hzz kp jO;generalize s1.pg=a at *;generalize s2.pg=b at *;generalize n1.count=x1 at *;generalize n2.count=x2 at *;have dC:∀w:World,Below w7 w7 w->w.cell? (Q,1)=some (.int .i64 (rt:Int)):=λ w bw=>(bw.cell (p:=⟨Q,1,none⟩) NY).trans c1
 go_wp2_with fail
 refine wp_region_any (by kernel_rfl) ?_;refine zT 0 ?_;refine zT 1 ?_;refine zT 2 ?_;refine zT 3 ?_;refine zT 5 ?_;refine zT 6 ?_;refine zT 8 ?_;refine zT 10 ?_;refine zV (w:=w7.drew) (λ w'=>w'.cell? (Q,1)=some (.int .i64 (rt:Int))) 15 (by exact dC _ (gQ (aP _ _))) λ hS0=>?_;refine zU 4 hS0 ?_;clear hS0;refine ru (i:=7) (j:=9) (by kernel_rfl) rfl rfl (λ K hK=>?_) (λ K hK=>?_)
 ·go_simp;refine zK hK ?_ (λ _=>dC _ (by repeat (first|with_reducible exact aP _ _|with_reducible apply gW|with_reducible apply gQ)));refine zL 9 λ K hK=>?_;go_simp;refine(qV.out _ ?_).mono ?_
  ·(repeat (first|with_reducible exact aP _ _|with_reducible apply gW|with_reducible apply gQ))
  rintro e' w9 ⟨rfl,rfl⟩
  (try dsimp only)
  refine zK hK ?_ (λ _=>dC _ (by repeat (first|with_reducible exact aP _ _|with_reducible apply gW|with_reducible apply gQ)));refine zL 11 λ K hK=>?_;go_simp;refine(lq.out _ ?_).mono ?_
  ·(repeat (first|with_reducible exact aP _ _|with_reducible apply gW|with_reducible apply gQ))
  rintro e' IC ⟨rfl,rfl⟩
  (try dsimp only)
  refine zK hK ?_ (λ _=>dC _ (by repeat (first|with_reducible exact aP _ _|with_reducible apply gW|with_reducible apply gQ)));refine zL 12 λ K hK=>?_;go_simp;refine zK hK ?_ (λ _=>dC _ (by repeat (first|with_reducible exact aP _ _|with_reducible apply gW|with_reducible apply gQ)));refine zL 13 λ K hK=>?_;go_simp;refine zK hK ?_ (λ _=>dC _ (by repeat (first|with_reducible exact aP _ _|with_reducible apply gW|with_reducible apply gQ)));refine zL 14 λ K hK=>?_;go_simp;refine zK hK ?_ (λ _=>dC _ (by repeat (first|with_reducible exact aP _ _|with_reducible apply gW|with_reducible apply gQ)));refine zL 15 λ K hK=>?_;go_simp;refine(HS.out _ _ ?aam ?aan ?SG ?SH ?SK ?SL ?SN ?SQ ?SV).mono ?SX
  case SG=>(repeat (first|with_reducible exact aP _ _|with_reducible apply gW|with_reducible apply gQ))
  case SH=>(repeat (first|(focus ((with_reducible refine mG ?_);simp;done))|with_reducible apply dQ|with_reducible apply dS))
  case SK=>(repeat (first|(focus ((with_reducible refine mG ?_);simp;done))|with_reducible apply dQ|with_reducible apply dS))
  case SL=>(repeat (first|(focus ((with_reducible refine mG ?_);simp;done))|with_reducible apply dQ|with_reducible apply dS))
  case SN=>(first|exact aZ _|omega|(focus (simp;done))|(focus (simp;omega)))
  case SQ=>(first|exact aZ _|omega|(focus (simp;done))|(focus (simp;omega)))
  case SV=>(first|exact aZ _|omega|(focus (simp;done))|(focus (simp;omega)))
  rintro e' SY ⟨rfl,hRR⟩
  (try dsimp only)
  have HRR:=zH hRR;clear hRR;refine zK hK ?_;refine zM 16 ?_;refine iR (by kernel_rfl) ?_ _
  go_wp2_with fail
  go_ret;exact⟨rfl,HRR.out⟩
 go_simp;refine(qV.out _ ?_).mono ?_
 ·(repeat (first|with_reducible exact aP _ _|with_reducible apply gW|with_reducible apply gQ))
 rintro e' w9 ⟨rfl,rfl⟩
 (try dsimp only)
 refine zK hK ?_ (λ _=>dC _ (by repeat (first|with_reducible exact aP _ _|with_reducible apply gW|with_reducible apply gQ)));refine ru (i:=7) (j:=11) (by kernel_rfl) rfl rfl (λ K hK=>?_) (λ K hK=>?_)
 ·go_simp;refine zK hK ?_ (λ _=>dC _ (by repeat (first|with_reducible exact aP _ _|with_reducible apply gW|with_reducible apply gQ)));refine zL 11 λ K hK=>?_;go_simp;refine(lq.out _ ?_).mono ?_
  ·(repeat (first|with_reducible exact aP _ _|with_reducible apply gW|with_reducible apply gQ))
  rintro e' IC ⟨rfl,rfl⟩
  (try dsimp only)
  refine zK hK ?_ (λ _=>dC _ (by repeat (first|with_reducible exact aP _ _|with_reducible apply gW|with_reducible apply gQ)));refine zL 12 λ K hK=>?_;go_simp;refine zK hK ?_ (λ _=>dC _ (by repeat (first|with_reducible exact aP _ _|with_reducible apply gW|with_reducible apply gQ)));refine zL 13 λ K hK=>?_;go_simp;refine zK hK ?_ (λ _=>dC _ (by repeat (first|with_reducible exact aP _ _|with_reducible apply gW|with_reducible apply gQ)));refine zL 14 λ K hK=>?_;go_simp;refine zK hK ?_ (λ _=>dC _ (by repeat (first|with_reducible exact aP _ _|with_reducible apply gW|with_reducible apply gQ)));refine zL 15 λ K hK=>?_;go_simp;refine(HS.out _ _ ?aao ?aap ?Ta ?Tc ?Td ?Te ?Tf ?Tg ?Ti).mono ?Tj
  case Ta=>(repeat (first|with_reducible exact aP _ _|with_reducible apply gW|with_reducible apply gQ))
  case Tc=>(repeat (first|(focus ((with_reducible refine mG ?_);simp;done))|with_reducible apply dQ|with_reducible apply dS))
  case Td=>(repeat (first|(focus ((with_reducible refine mG ?_);simp;done))|with_reducible apply dQ|with_reducible apply dS))
  case Te=>(repeat (first|(focus ((with_reducible refine mG ?_);simp;done))|with_reducible apply dQ|with_reducible apply dS))
  case Tf=>(first|exact aZ _|omega|(focus (simp;done))|(focus (simp;omega)))
  case Tg=>(first|exact aZ _|omega|(focus (simp;done))|(focus (simp;omega)))
  case Ti=>(first|exact aZ _|omega|(focus (simp;done))|(focus (simp;omega)))
  rintro e' SY ⟨rfl,hRR⟩
  (try dsimp only)
  have HRR:=zH hRR;clear hRR;refine zK hK ?_;refine zM 16 ?_;refine iR (by kernel_rfl) ?_ _
  go_wp2_with fail
  go_ret;exact⟨rfl,HRR.out⟩
 go_simp;refine(lq.out _ ?_).mono ?_
 ·(repeat (first|with_reducible exact aP _ _|with_reducible apply gW|with_reducible apply gQ))
 rintro e' IC ⟨rfl,rfl⟩
 (try dsimp only)
 refine zK hK ?_ (λ _=>dC _ (by repeat (first|with_reducible exact aP _ _|with_reducible apply gW|with_reducible apply gQ)));refine ru (i:=7) (j:=12) (by kernel_rfl) rfl rfl (λ K hK=>?_) (λ K hK=>?_)
 ·go_simp;refine zK hK ?_ (λ _=>dC _ (by repeat (first|with_reducible exact aP _ _|with_reducible apply gW|with_reducible apply gQ)));refine zL 12 λ K hK=>?_;go_simp;refine zK hK ?_ (λ _=>dC _ (by repeat (first|with_reducible exact aP _ _|with_reducible apply gW|with_reducible apply gQ)));refine zL 13 λ K hK=>?_;go_simp;refine zK hK ?_ (λ _=>dC _ (by repeat (first|with_reducible exact aP _ _|with_reducible apply gW|with_reducible apply gQ)));refine zL 14 λ K hK=>?_;go_simp;refine zK hK ?_ (λ _=>dC _ (by repeat (first|with_reducible exact aP _ _|with_reducible apply gW|with_reducible apply gQ)));refine zL 15 λ K hK=>?_;go_simp;refine(HS.out _ _ ?aaq ?aar ?Tk ?Tm ?Tn ?Tp ?Tq ?Tt ?Tu).mono ?Tv
  case Tk=>(repeat (first|with_reducible exact aP _ _|with_reducible apply gW|with_reducible apply gQ))
  case Tm=>(repeat (first|(focus ((with_reducible refine mG ?_);simp;done))|with_reducible apply dQ|with_reducible apply dS))
  case Tn=>(repeat (first|(focus ((with_reducible refine mG ?_);simp;done))|with_reducible apply dQ|with_reducible apply dS))
  case Tp=>(repeat (first|(focus ((with_reducible refine mG ?_);simp;done))|with_reducible apply dQ|with_reducible apply dS))
  case Tq=>(first|exact aZ _|omega|(focus (simp;done))|(focus (simp;omega)))
  case Tt=>(first|exact aZ _|omega|(focus (simp;done))|(focus (simp;omega)))
  case Tu=>(first|exact aZ _|omega|(focus (simp;done))|(focus (simp;omega)))
  rintro e' SY ⟨rfl,hRR⟩
  (try dsimp only)
  have HRR:=zH hRR;clear hRR;refine zK hK ?_;refine zM 16 ?_;refine iR (by kernel_rfl) ?_ _
  go_wp2_with fail
  go_ret;exact⟨rfl,HRR.out⟩
 go_simp;refine zK hK ?_ (λ _=>dC _ (by repeat (first|with_reducible exact aP _ _|with_reducible apply gW|with_reducible apply gQ)));refine zL 7 λ K hK=>?_;go_simp;refine zK hK ?_ (λ _=>dC _ (by repeat (first|with_reducible exact aP _ _|with_reducible apply gW|with_reducible apply gQ)));refine zL 13 λ K hK=>?_;go_simp;refine zK hK ?_ (λ _=>dC _ (by repeat (first|with_reducible exact aP _ _|with_reducible apply gW|with_reducible apply gQ)));refine zL 14 λ K hK=>?_;go_simp;refine zK hK ?_ (λ _=>dC _ (by repeat (first|with_reducible exact aP _ _|with_reducible apply gW|with_reducible apply gQ)));refine zL 15 λ K hK=>?_;go_simp;refine(HS.out _ _ ?aas ?aat ?Tw ?Tx ?Ty ?Tz ?TA ?TB ?TC).mono ?TD
 case Tw=>(repeat (first|with_reducible exact aP _ _|with_reducible apply gW|with_reducible apply gQ))
 case Tx=>(repeat (first|(focus ((with_reducible refine mG ?_);simp;done))|with_reducible apply dQ|with_reducible apply dS))
 case Ty=>(repeat (first|(focus ((with_reducible refine mG ?_);simp;done))|with_reducible apply dQ|with_reducible apply dS))
 case Tz=>(repeat (first|(focus ((with_reducible refine mG ?_);simp;done))|with_reducible apply dQ|with_reducible apply dS))
 case TA=>(first|exact aZ _|omega|(focus (simp;done))|(focus (simp;omega)))
 case TB=>(first|exact aZ _|omega|(focus (simp;done))|(focus (simp;omega)))
 case TC=>(first|exact aZ _|omega|(focus (simp;done))|(focus (simp;omega)))
 rintro e' SY ⟨rfl,hRR⟩
 (try dsimp only)
 have HRR:=zH hRR;clear hRR;refine zK hK ?_;refine zM 16 ?_;refine iR (by kernel_rfl) ?_ _
 go_wp2_with fail
 go_ret;exact⟨rfl,HRR.out⟩
end
end Go.Proofs.YtlipgbnnbefhjaaGreatDoor
