/- Facts on texts on pages. -/
import Derived.Test.YtgpmiliahonaoaaGreatDoorKTrNc
set_option maxRecDepth 100000
set_option maxHeartbeats 8000000
set_option linter.unusedSimpArgs false
open Or renaming inl->O,inr->al
open Go.Value renaming bool->a6,int->V,pointer->aq,slice->ad,tuple->a9
open Go.IntKind renaming u64->a7
open Go.Ending renaming returned->aw
open List renaming length->Y
open Go.Proofs.Tryz
namespace Go.Proofs.YtgpmiliahonaoaaGreatDoor
open Go.RowKit
open UK (str aF nth Only Row ay)
open Go.BigFrame
variable{q:Option Addr}{t:Nat}
section
variable{W u:World}{a b d c e g m j p n k s:Nat}{h f o l i r:Option Addr}
theorem EA.kept(h:EA W q t u):Kept (λ j=>j<W.1.size/\¬aG q j) W u/\(aG q t\/W.1.size<=t):=by
 rcases h with⟨e,o⟩|⟨e,b⟩
 ·exact⟨⟨o.os,o.tape,o.output,o.size,λ j a=>o.block j a.1 (λ c=>a.2 (by rw[c];exact e))⟩,O e⟩
 exact⟨Kept.of_below b (λ j a=>a.1),al Z⟩
def zw(d c e g:Nat)(W:World)(a b:Nat)(i k:Nd)(l:UInt64)(m:Ending)(h:World):Prop:=
 m=aw (a9 #[V a7 ((iF i k l).2.2.1.toNat:Int),a6 (iF i k l).2.2.2]) /\
 jU (λ f=>(d<=f/\f<c)\/(e<=f/\f<g)\/(W.1.size<=f/\f<h.1.size)) h a (iF i k l).1 /\
 ((iF i k l).2.2.2=false->jU (λ f=>(d<=f/\f<c)\/(e<=f/\f<g)\/(W.1.size<=f/\f<h.1.size)) h b (iF i k l).2.1) /\
 Kept (λ j=>j<W.1.size/\¬((d<=j/\j<c)\/(e<=j/\j<g))) W h
theorem lr{w z v y:List UInt64}(ha:zu d c W a ⟨true,w,z,[]⟩ h f o m j p)(hb:zu e g W b ⟨true,v,y,[]⟩ l i r n k s)(EO:c<=e)(hv:Y z=Y w)(hw:Y y=Y v)(p1:0<Y w)(p2:0<Y v)(B:Y w+Y v<=30)(κ:UInt64) :
  Calls prog 258 #[aq a,aq b,V a7 κ.toNat] W (zw d c e g W a b ⟨true,w,z,[]⟩ ⟨true,v,y,[]⟩ κ):=by
 obtain⟨x,h0,H⟩:=ha;obtain⟨F,hs,hr⟩:=hb;have a0:=x.box.c0;have a1:=x.box.c1;have a2:=x.box.c2;have b1:=F.box.c1;have b2:=F.box.c2;have n1:IntKind.i64.wrap ((Y w:Int)+(Y v:Int))=((Y w+Y v:Nat):Int):=by rw[dM];omega
 have n2:((Y w+Y v:Nat):Int)<=30:=Z
 go_enter func258,ntmps258
 go_upto_region 3 with(fail)
 go_cut [29] (λ dv wx=>dv=a6 true/\∃h9,wx=W.drewN h9)
 case first=>
  go_wp2_with fail
  go_quiet (fail)
  go_wp2_with fail
  go_meet
  case rel=>exact⟨by go_simp;omega,_,rfl⟩
 case rest=>
 obtain⟨rfl,hcut⟩:=hcut;have bl:Below W W wc.drew:=by obtain⟨h9,rfl⟩:=hcut;exact(UK.dN (aU _ _) h9).drew
 have M:=x.next bl;have L:=F.next bl;have h5:=x.box.lt;have h6:=F.box.lt;obtain⟨A,N,E,e1,r1,hc⟩:=Rb (W:=wc.drew) (us:=w) (vs:=v) (ao:=h) (bo:=l) (c:=m) (d:=n) M.k (by have:=L.k.win (S:=λ _=>True) (λ _ _=>trivial);rw[dH]at this;exact this) p2 Z;obtain⟨K,hm⟩:=hc.kept;have h8:=K.size;have hk:=bl.size;have bk1:∀u,u<W.1.size->¬aG h u->E.1[u]?=wc.drew.1[u]?:=λ u B hn=>K.block u ⟨cB B hk,hn⟩;have hi:NR E f j (az z):=M.v.ae h8 (λ q Q=>bk1 q (x.v.lt Q) (λ t=>x.kv q t Q));have hj:NR E i k (az y):=L.v.ae h8 (λ q Q=>bk1 q (F.v.lt Q) (λ t=>by have:=H q (O t);have:=(F.new q (al (O Q))).1;omega));have R:ay E a #[a6 true,ad h (Y w) m,ad f (Y z) j,ad o 0 p]:=M.box.ae (bk1 a h5 (λ t=>(x.new a (O t)).2 rfl));have hq:a≠b:=by have:=F.ge;omega
 have X:ay E b #[a6 true,ad l (Y v) n,ad i (Y y) k,ad r 0 s]:=L.box.ae (bk1 b h6 (λ t=>by have:=H b (O t);have:=F.ge;omega));obtain⟨D,S,C,e2,r2,hg⟩:=Rb (W:=E) (us:=z) (vs:=y) (ao:=f) (bo:=i) (c:=j) (d:=k) hi (by have:=hj.win (S:=λ _=>True) (λ _ _=>trivial);rw[dH]at this;exact this) Z Z;obtain⟨J,ho⟩:=hg.kept;have hl:=J.size;have bk2:∀u,u<W.1.size->¬aG f u->C.1[u]?=E.1[u]?:=λ u B hn=>J.block u ⟨Z,hn⟩;have G:ay C a #[a6 true,ad h (Y w) m,ad f (Y z) j,ad o 0 p]:=R.ae (bk2 a h5 (λ t=>(x.new a (al (O t))).2 rfl));have IB:ay C b #[a6 true,ad l (Y v) n,ad i (Y y) k,ad r 0 s]:=X.ae (bk2 b h6 (λ t=>by have:=H b (al (O t));have:=F.ge;omega))
 have T:((d<=A/\A<c)\/W.1.size<=A)/\A≠a/\¬aG f A:=by
  rcases hm with t|t
  ·exact⟨O ⟨(x.new A (O t)).1,H A (O t)⟩,(x.new A (O t)).2,x.kv A t⟩
  exact⟨al Z,Z,λ h2=>by have:=x.v.lt h2;omega⟩
 have h4:((d<=D/\D<c)\/W.1.size<=D)/\D≠a:=by
  rcases ho with t|t
  ·exact⟨O ⟨(x.new D (al (O t))).1,H D (al (O t))⟩,(x.new D (al (O t))).2⟩
  exact⟨al Z,Z⟩
 have KT:Row C A N (az (w++v)):=r1.ae hl (J.block A ⟨r1.lt,T.2.2⟩)
 have fin:zw d c e g W a b ⟨true,w,z,[]⟩ ⟨true,v,y,[]⟩ κ (aw (a9 #[V a7 0,a6 true])) ((C.setCell (a,1) (ad A (Y w+Y v) N)).setCell (a,2) (ad D (Y z+Y y) S)):=by
  have I:Only a C ((C.setCell (a,1) (ad A (Y w+Y v) N)).setCell (a,2) (ad D (Y z+Y y) S)):=((Only.refl a C).set 1 _).set 2 _;have x3:=(G.set 1 (ad A (Y w+Y v) N)).set 2 (ad D (Y z+Y y) S);generalize (C.setCell (a,1) (ad A (Y w+Y v) N)).setCell (a,2) (ad D (Y z+Y y) S)=w3 at I x3
  have he:iF ⟨true,w,z,[]⟩ ⟨true,v,y,[]⟩ κ=(⟨true,w++v,z++y,[]⟩,⟨true,v,y,[]⟩,0,true):=by
   unfold iF;rw[be rfl,be B]
  have ra:=KT.only I T.2.1;have rb:=r2.only I h4.2;unfold zw;rw[he];refine⟨rfl,⟨_,_,_,x3,O ⟨x.ge,h0⟩,?_,?_,?_⟩,(λ t=>by cases t),(I.os.trans J.os).trans (K.os.trans bl.os),(I.tape.trans J.tape).trans (K.tape.trans bl.tape),(I.output.trans J.output).trans (K.output.trans bl.output),by have:=I.size;omega,λ u B=>?_⟩
  ·have:=xz (S:=λ q=>(d<=q/\q<c)\/(e<=q/\q<g)\/(W.1.size<=q/\q<w3.1.size)) ra (by
    rcases T.1 with t|t
    ·exact O t
    exact al (al ⟨t,ra.lt⟩))
   rw[dH,zl]at this;exact this
  ·have:=xz (S:=λ q=>(d<=q/\q<c)\/(e<=q/\q<g)\/(W.1.size<=q/\q<w3.1.size)) rb (by
    rcases h4.1 with t|t
    ·exact O t
    exact al (al ⟨t,rb.lt⟩))
   rw[dH,zl]at this;exact this
  ·rcases x.a with⟨h1,h2,h3⟩|⟨q,h1,h2⟩
   ·exact⟨o,p,rfl,aR _,λ u ht B=>by cases B⟩
   exact⟨o,p,rfl,aR _,λ u ht B=>by cases B⟩
  have h7:¬(d<=u/\u<c):=λ t=>B.2 (O t);rw[I.block u Z (λ hh=>h7 ⟨by rw[hh];exact x.ge,by rw[hh];exact h0⟩),bk2 u B.1 (λ t=>h7 ⟨(x.new u (al (O t))).1,H u (al (O t))⟩),bk1 u B.1 (λ t=>h7 ⟨(x.new u (O t)).1,H u (O t)⟩)];exact bl.block u B.1
 have a1:=M.box.c1;have a2:=M.box.c2;have b1:=L.box.c1;have b2:=L.box.c2;have s1:E.cell? (a,1)=some (ad h (Y w) m)/\E.cell? (b,1)=some (ad l (Y v) n)/\E.cell? (a,2)=some (ad f (Y z) j)/\E.cell? (b,2)=some (ad i (Y y) k):=⟨R.cell 1 _ rfl,X.cell 1 _ rfl,R.cell 2 _ rfl,X.cell 2 _ rfl⟩;have s2:C.cell? (a,1)=some (ad h (Y w) m)/\C.cell? (b,1)=some (ad l (Y v) n)/\C.cell? (a,2)=some (ad f (Y z) j)/\C.cell? (b,2)=some (ad i (Y y) k):=⟨G.cell 1 _ rfl,IB.cell 1 _ rfl,G.cell 2 _ rfl,IB.cell 2 _ rfl⟩;have q1:=G.cell 1 _ rfl;have q2:=G.cell 2 _ rfl;have f1:=G.free 1;have f2:=G.free 2;have HF:=zH fin;clear fin bl M L h5 h6 r1 hc K hm h8 hk bk1 hi hj R X r2 hg J ho hl bk2 G IB T h4 KT x F H hr hq hcut hv hw p1 p2 h0 hs EO
 go_wp2_with fail
 refine wp_region_any (by kernel_rfl) ?_;refine zT 0 ?_;refine zT 1 ?_;refine zT 2 ?_;refine zT 3 ?_;refine zT 4 ?_;refine zT 6 ?_;refine zT 7 ?_;refine zT 8 ?_;refine zT 11 ?_;refine zT 12 ?_;refine zT 13 ?_;refine zT 15 ?_;refine zT 16 ?_;refine zT 17 ?_;refine zV (w:=wc.drew) (λ w'=>w'.cell? (a,1)=some (ad h (Y w) m)/\w'.cell? (b,1)=some (ad l (Y v) n)/\w'.cell? (a,2)=some (ad f (Y z) j)/\w'.cell? (b,2)=some (ad i (Y y) k)) 20 (by exact ⟨a1,b1,a2,b2⟩) λ P=>?_;refine zU 5 P ?_;refine zU 9 P ?_;refine zU 14 P ?_;refine zU 18 P ?_;clear P;refine zL 10 λ hp hK=>?_;refine UK.aM e1 rfl rfl rfl (by simp[Act.eval]) (by simp[Act.eval]) ?_;refine zK hK ?_ (λ _=>s1);refine zL 19 λ hp hK=>?_;refine UK.aM e2 rfl rfl rfl (by simp[Act.eval]) (by simp[Act.eval]) ?_;refine zK hK ?_ (λ _=>s2);refine zM 20 ?_;refine zM 21 ?_;refine zM 22 ?_;refine zM 23 ?_;refine zM 24 ?_;refine zM 25 ?_;refine Cq (by kernel_rfl) ?_ _
 go_wp2_with fail
 go_ret2;exact HF.out
end
