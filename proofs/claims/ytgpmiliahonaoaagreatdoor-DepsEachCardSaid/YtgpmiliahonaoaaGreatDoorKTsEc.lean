/- Facts on texts and trees on pages. -/
import Derived.Test.YtgpmiliahonaoaaGreatDoorKTrNc
set_option maxRecDepth 100000
set_option maxHeartbeats 8000000
set_option linter.unusedSimpArgs false
namespace Go.Proofs.YtgpmiliahonaoaaGreatDoor
open Go.RowKit
open UK (str aF nth Only Row ay)
open Go.BigFrame
section
variable{W W':World}{a b Na Ma Nb Mb kc vc ac kd vd ad:Nat}{ka va aa kb vb ab:Option Addr}
theorem Cm.kept{ao:Option Addr}{g':Nat}(h:Cm W ao g' W'):Kept (λ j=>j<W.heap.size/\¬aK ao j) W W'/\(aK ao g'\/W.heap.size<=g'):=by
 rcases h with⟨e,o⟩|⟨e,b⟩
 ·exact⟨⟨o.os,o.tape,o.output,o.size,λ j hj=>o.block j hj.1 (λ e2=>hj.2 (by rw[e2];exact e))⟩,.inl e⟩
 exact⟨Kept.of_below b (λ j hj=>hj.1),.inr (by omega)⟩
def xI(Na Ma Nb Mb:Nat)(W:World)(a b:Nat)(xa xb:Nd)(κ:UInt64)(e:Ending)(w':World):Prop:=
 e= .returned (.tuple #[.int .u64 ((gN xa xb κ).2.2.1.toNat:Int),.bool (gN xa xb κ).2.2.2]) /\
 jD (λ g=>(Na<=g/\g<Ma)\/(Nb<=g/\g<Mb)\/(W.heap.size<=g/\g<w'.heap.size)) w' a (gN xa xb κ).1 /\
 ((gN xa xb κ).2.2.2=false->jD (λ g=>(Na<=g/\g<Ma)\/(Nb<=g/\g<Mb)\/(W.heap.size<=g/\g<w'.heap.size)) w' b (gN xa xb κ).2.1) /\
 Kept (λ j=>j<W.heap.size/\¬((Na<=j/\j<Ma)\/(Nb<=j/\j<Mb))) W w'
theorem xk2{ks vs ls ws:List UInt64}(ha:xH Na Ma W a ⟨true,ks,vs,[]⟩ ka va aa kc vc ac)(hb:xH Nb Mb W b ⟨true,ls,ws,[]⟩ kb vb ab kd vd ad)(C9:Ma<=Nb)(hv:vs.length=ks.length)(hw:ws.length=ls.length)(p1:0<ks.length)(p2:0<ls.length)(hj:ks.length+ls.length<=30)(κ:UInt64) :
  Calls Tryz.prog 258 #[.pointer a,.pointer b,.int .u64 κ.toNat] W (xI Na Ma Nb Mb W a b ⟨true,ks,vs,[]⟩ ⟨true,ls,ws,[]⟩ κ):=by
 obtain⟨oa,hal,hag⟩:=ha;obtain⟨ob,hbl,hbg⟩:=hb;have a0:=oa.box.c0;have a1:=oa.box.c1;have a2:=oa.box.c2;have b1:=ob.box.c1;have b2:=ob.box.c2;have n1:IntKind.i64.wrap ((ks.length:Int)+(ls.length:Int))=((ks.length+ls.length:Nat):Int):=by rw[dJ];omega
 have n2:((ks.length+ls.length:Nat):Int)<=30:=by omega
 go_enter Tryz.func258,Tryz.ntmps258
 go_upto_region 3 with(fail)
 go_cut [29] (λ dv wx=>dv= .bool true/\∃n,wx=W.drewN n)
 case first=>
  go_wp2_with fail
  go_quiet (fail)
  go_wp2_with fail
  go_meet
  case rel=>exact⟨by go_simp;omega,_,rfl⟩
 case rest=>
 obtain⟨rfl,hcut⟩:=hcut;have bl:Below W W wc.drew:=by obtain⟨n,rfl⟩:=hcut;exact(UK.dK (aV _ _) n).drew
 have tX:=oa.next bl;have hcb:=ob.next bl;have hla:=oa.box.lt;have hlb:=ob.box.lt;obtain⟨g,c,w1,e1,r1,JU⟩:=NF (W:=wc.drew) (us:=ks) (vs:=ls) (ao:=ka) (bo:=kb) (c:=kc) (d:=kd) tX.k (by have:=hcb.k.win (S:=λ _=>True) (λ _ _=>trivial);rw[dA]at this;exact this) p2 (by omega);obtain⟨Ih,Y5⟩:=JU.kept;have hs1:=Ih.size;have hs0:=bl.size;have bk1:∀j,j<W.heap.size->¬aK ka j->w1.heap[j]?=wc.drew.heap[j]?:=λ j hj hn=>Ih.block j ⟨bZ hj hs0,hn⟩;have Y6:NR w1 va vc (az vs):=tX.v.ae hs1 (λ q hq=>bk1 q (oa.v.lt hq) (λ h=>oa.kv q h hq));have hbv:NR w1 vb vd (az ws):=hcb.v.ae hs1 (λ q hq=>bk1 q (ob.v.lt hq) (λ h=>by have:=hag q (.inl h);have:=(ob.new q (.inr (.inl hq))).1;omega));have Oh:ay w1 a #[.bool true,.slice ka ks.length kc,.slice va vs.length vc,.slice aa 0 ac]:=tX.box.ae (bk1 a hla (λ h=>(oa.new a (.inl h)).2 rfl));have hab:a≠b:=by have:=ob.ge;omega
 have kI:ay w1 b #[.bool true,.slice kb ls.length kd,.slice vb ws.length vd,.slice ab 0 ad]:=hcb.box.ae (bk1 b hlb (λ h=>by have:=hag b (.inl h);have:=ob.ge;omega));obtain⟨g2,c2,w2,e2,r2,JV⟩:=NF (W:=w1) (us:=vs) (vs:=ws) (ao:=va) (bo:=vb) (c:=vc) (d:=vd) Y6 (by have:=hbv.win (S:=λ _=>True) (λ _ _=>trivial);rw[dA]at this;exact this) (by omega) (by omega);obtain⟨FJ,Y7⟩:=JV.kept;have hs2:=FJ.size;have bk2:∀j,j<W.heap.size->¬aK va j->w2.heap[j]?=w1.heap[j]?:=λ j hj hn=>FJ.block j ⟨by omega,hn⟩;have DX:ay w2 a #[.bool true,.slice ka ks.length kc,.slice va vs.length vc,.slice aa 0 ac]:=Oh.ae (bk2 a hla (λ h=>(oa.new a (.inr (.inl h))).2 rfl));have yX:ay w2 b #[.bool true,.slice kb ls.length kd,.slice vb ws.length vd,.slice ab 0 ad]:=kI.ae (bk2 b hlb (λ h=>by have:=hag b (.inr (.inl h));have:=ob.ge;omega))
 have hg1:((Na<=g/\g<Ma)\/W.heap.size<=g)/\g≠a/\¬aK va g:=by
  rcases Y5 with h|h
  ·exact⟨.inl ⟨(oa.new g (.inl h)).1,hag g (.inl h)⟩,(oa.new g (.inl h)).2,oa.kv g h⟩
  exact⟨.inr (by omega),by omega,λ h2=>by have:=oa.v.lt h2;omega⟩
 have hg2:((Na<=g2/\g2<Ma)\/W.heap.size<=g2)/\g2≠a:=by
  rcases Y7 with h|h
  ·exact⟨.inl ⟨(oa.new g2 (.inr (.inl h))).1,hag g2 (.inr (.inl h))⟩,(oa.new g2 (.inr (.inl h))).2⟩
  exact⟨.inr (by omega),by omega⟩
 have AR:Row w2 g c (az (ks++ls)):=r1.ae hs2 (FJ.block g ⟨r1.lt,hg1.2.2⟩)
 have fin:xI Na Ma Nb Mb W a b ⟨true,ks,vs,[]⟩ ⟨true,ls,ws,[]⟩ κ (.returned (.tuple #[.int .u64 0,.bool true])) ((w2.setCell (a,1) (.slice g (ks.length+ls.length) c)).setCell (a,2) (.slice g2 (vs.length+ws.length) c2)):=by
  have o3:Only a w2 ((w2.setCell (a,1) (.slice g (ks.length+ls.length) c)).setCell (a,2) (.slice g2 (vs.length+ws.length) c2)):=((Only.refl a w2).set 1 _).set 2 _;have x3:=(DX.set 1 (.slice g (ks.length+ls.length) c)).set 2 (.slice g2 (vs.length+ws.length) c2);generalize (w2.setCell (a,1) (.slice g (ks.length+ls.length) c)).setCell (a,2) (.slice g2 (vs.length+ws.length) c2)=w3 at o3 x3
  have he:gN ⟨true,ks,vs,[]⟩ ⟨true,ls,ws,[]⟩ κ=(⟨true,ks++ls,vs++ws,[]⟩,⟨true,ls,ws,[]⟩,0,true):=by
   unfold gN;rw[if_pos rfl,if_pos hj]
  have ra:=AR.only o3 hg1.2.1;have rb:=r2.only o3 hg2.2;unfold xI;rw[he];refine⟨rfl,⟨_,_,_,x3,.inl ⟨oa.ge,hal⟩,?_,?_,?_⟩,(λ h=>by cases h),(o3.os.trans FJ.os).trans (Ih.os.trans bl.os),(o3.tape.trans FJ.tape).trans (Ih.tape.trans bl.tape),(o3.output.trans FJ.output).trans (Ih.output.trans bl.output),by have:=o3.size;omega,λ j hj=>?_⟩
  ·have:=vE (S:=λ q=>(Na<=q/\q<Ma)\/(Nb<=q/\q<Mb)\/(W.heap.size<=q/\q<w3.heap.size)) ra (by
    rcases hg1.1 with h|h
    ·exact .inl h
    exact .inr (.inr ⟨h,ra.lt⟩))
   rw[dA,zl]at this;exact this
  ·have:=vE (S:=λ q=>(Na<=q/\q<Ma)\/(Nb<=q/\q<Mb)\/(W.heap.size<=q/\q<w3.heap.size)) rb (by
    rcases hg2.1 with h|h
    ·exact .inl h
    exact .inr (.inr ⟨h,rb.lt⟩))
   rw[dA,zl]at this;exact this
  ·rcases oa.a with⟨h1,h2,h3⟩|⟨q,h1,h2⟩
   ·exact⟨aa,ac,rfl,aY _,λ j u hj=>by cases hj⟩
   exact⟨aa,ac,rfl,aY _,λ j u hj=>by cases hj⟩
  have hnr:¬(Na<=j/\j<Ma):=λ h=>hj.2 (.inl h);rw[o3.block j (by omega) (λ e=>hnr ⟨by rw[e];exact oa.ge,by rw[e];exact hal⟩),bk2 j hj.1 (λ h=>hnr ⟨(oa.new j (.inr (.inl h))).1,hag j (.inr (.inl h))⟩),bk1 j hj.1 (λ h=>hnr ⟨(oa.new j (.inl h)).1,hag j (.inl h)⟩)];exact bl.block j hj.1
 have a1:=tX.box.c1;have a2:=tX.box.c2;have b1:=hcb.box.c1;have b2:=hcb.box.c2;have s1:w1.cell? (a,1)=some (.slice ka ks.length kc)/\w1.cell? (b,1)=some (.slice kb ls.length kd)/\w1.cell? (a,2)=some (.slice va vs.length vc)/\w1.cell? (b,2)=some (.slice vb ws.length vd):=⟨Oh.cell 1 _ rfl,kI.cell 1 _ rfl,Oh.cell 2 _ rfl,kI.cell 2 _ rfl⟩;have s2:w2.cell? (a,1)=some (.slice ka ks.length kc)/\w2.cell? (b,1)=some (.slice kb ls.length kd)/\w2.cell? (a,2)=some (.slice va vs.length vc)/\w2.cell? (b,2)=some (.slice vb ws.length vd):=⟨DX.cell 1 _ rfl,yX.cell 1 _ rfl,DX.cell 2 _ rfl,yX.cell 2 _ rfl⟩;have q1:=DX.cell 1 _ rfl;have q2:=DX.cell 2 _ rfl;have f1:=DX.free 1;have f2:=DX.free 2;have HF:=zH fin;clear fin bl tX hcb hla hlb r1 JU Ih Y5 hs1 hs0 bk1 Y6 hbv Oh kI r2 JV FJ Y7 hs2 bk2 DX yX hg1 hg2 AR oa ob hag hbg hab hcut hv hw p1 p2 hal hbl C9
 go_wp2_with fail
 refine wp_region_any (by kernel_rfl) ?_;refine zT 0 ?_;refine zT 1 ?_;refine zT 2 ?_;refine zT 3 ?_;refine zT 4 ?_;refine zT 6 ?_;refine zT 7 ?_;refine zT 8 ?_;refine zT 11 ?_;refine zT 12 ?_;refine zT 13 ?_;refine zT 15 ?_;refine zT 16 ?_;refine zT 17 ?_;refine zV (w:=wc.drew) (λ w'=>w'.cell? (a,1)=some (.slice ka ks.length kc)/\w'.cell? (b,1)=some (.slice kb ls.length kd)/\w'.cell? (a,2)=some (.slice va vs.length vc)/\w'.cell? (b,2)=some (.slice vb ws.length vd)) 20 (by exact ⟨a1,b1,a2,b2⟩) λ hS0=>?_;refine zU 5 hS0 ?_;refine zU 9 hS0 ?_;refine zU 14 hS0 ?_;refine zU 18 hS0 ?_;clear hS0;refine zL 10 λ K hK=>?_;refine UK.aG e1 rfl rfl rfl (by simp[Act.eval]) (by simp[Act.eval]) ?_;refine zK hK ?_ (λ _=>s1);refine zL 19 λ K hK=>?_;refine UK.aG e2 rfl rfl rfl (by simp[Act.eval]) (by simp[Act.eval]) ?_;refine zK hK ?_ (λ _=>s2);refine zM 20 ?_;refine zM 21 ?_;refine zM 22 ?_;refine zM 23 ?_;refine zM 24 ?_;refine zM 25 ?_;refine wz (by kernel_rfl) ?_ _
 go_wp2_with fail
 go_ret2;exact HF.out
end
end Go.Proofs.YtgpmiliahonaoaaGreatDoor
