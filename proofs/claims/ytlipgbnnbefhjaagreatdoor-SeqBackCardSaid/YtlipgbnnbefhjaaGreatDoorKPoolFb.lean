/- Facts on rows of numbers on pages. -/
import Derived.Test.YtlipgbnnbefhjaaGreatDoorKDiskTb
set_option maxRecDepth 100000
set_option maxHeartbeats 8000000
set_option linter.unusedSimpArgs false
namespace Go.Proofs.YtlipgbnnbefhjaaGreatDoor
open Go.RowKit
open UK (str aO nth Only Row aI)
open Go.BigFrame
section
variable{W:World}{own:Nat->Prop}{D B bc fc I ic aj:Nat}{fo:Option Addr}{y:List UInt8}{d:Dk}
theorem xq2(h:aN W own D B bc fo fc I ic y d) :
  Calls Tryz.prog 17 #[.pointer D] W λ e w'=>e= .returned (.string (str d.x))/\w'=W:=by
 have c0:=h.cells.at' 0 _ rfl;have hcv:=UK.Cz (P:=Tryz.prog) (src:=88) (dst:=9) Tryz.underlying88 Tryz.underlying5 Tryz.underlying9 h.bytes 0 d.x.length bc (by have:=h.le;have:=h.lJ;omega);rw[lL,h.pre]at hcv
 go_enter Tryz.func17,Tryz.ntmps17
 go_wp2;go_ret
 exact⟨rfl,rfl⟩
theorem xmw(h:Clean d aj)(h3:d.puts+1<1000000000)(pages:Int)(hm:d.ax=iE pages) :
  ∃x,Ka (jq d aj).x pages=x/\x.x=(jq d aj).x/\x.free=d.free/\x.ax=d.ax/\Ok x aj 0/\Clean x aj/\(qQ (jq d aj).x pages).1=0:=by
 have hop:=xqv h h3 pages hm;obtain⟨hc,h0,_,hf,hi,hmo⟩:=h.flush h3;have aJ:=hc.fit.len;have hone:=h.fit.one;have zP:=h.fit.ax;have hdiv:(jq d aj).x.length/512=aj:=by omega
 have e1:Ka (jq d aj).x pages={x:=(jq d aj).x,ax:=iE pages,free:=d.free,gu:=pW aj d.free.reverse,rl:= -1,wl:= -1,reads:=0,puts:=0}:=by
  unfold Ka;rw[hop,hdiv,List.reverse_reverse]
 have hfl:pW aj d.free.reverse=d.gu:=by
  refine List.ext_getElem (by rw[FO,h.fit.flags]) (λ i h1 h2=>?_);have hic:i<aj:=by rwa [FO]at h1
  have a:=Qy aj d.free.reverse i hic;have b:=h.so.mark i hic;rw[fK,di h1]at a;rw[fK,di h2]at b;refine a.trans (Eq.trans ?_ b.symm);exact decide_eq_decide.2 List.mem_reverse
 have ho:=xn3 (jq d aj).x pages;rw[hop,hdiv]at ho;have hfit:=xwk (jq d aj).x pages d.free.reverse (by omega) (by omega) (by omega) (by rw[hdiv];exact ho) d.free (by rw[List.length_reverse];exact aZ _) (λ p hh=>List.mem_reverse.2 hh);rw[hdiv]at hfit;rw[e1,hfl];rw[hfl]at hfit;exact⟨_,rfl,rfl,rfl,hm.symm,⟨hfit,⟨h.so.mark,h.so.nodup⟩,by show(0:Int)<=_;omega,by show(0:Int)<=_;omega⟩,hc.same hfit rfl hf.symm hi.symm rfl rfl,by rw[hop]⟩
end
section
variable{E:Nat->Prop}{W W':World}{P D k:Nat}{A:AP}
def FY(W w':World)(X:Nat)(A:AP):Prop:=
 ∃d,DD (λ j=>j<W.heap.size) w' X d A.aj/\Ok d A.aj 0/\Clean d A.aj/\d.free=A.free/\d.ax=A.ax/\∀p,1<=p->p<A.aj->p∉A.free->jM d.x p=A.c p
theorem xws(h:FW E W P D A k)(pages:Int)(hm:A.ax=iE pages) :
  ∃x,Calls Tryz.prog 17 #[.pointer D] W (λ e w'=>e= .returned (.string (str x))/\w'=W) /\
   ∀w,jG w->Calls Tryz.prog 16 #[.string (str x),.int .i64 pages] w λ e w'=>∃X,e= .returned (.tuple #[.pointer (some ⟨X,0,none⟩),.int .i64 0])/\FY w w' X A/\Below w w w':=by
 obtain⟨FB,M,n,q,d0,h1,hn,his,hc,hp,hfr,hmo,hl⟩:=h;have hdd:=h1.pd.dd;obtain⟨x,ex,ex1,ex2,ex3,Xt,ex5,ex6⟩:=xmw hc hp pages (hmo.trans hm);refine⟨(jq d0 A.aj).x,hdd.JW (λ _ _ _ _ _ _ _ _ hd=>xq2 hd),λ w ht=>?_⟩;obtain⟨hcf,_,_,_,_,_⟩:=hc.flush hp;have hmm:=hc.fit.ax;have aJ:=hcf.fit.len;refine(xwq _ pages w ht A.aj aJ hc.fit.one (by rw[<-hm,<-hmo];omega)).mono ?_;rintro e w' (⟨_,own,X,rfl,hx,hown,hb⟩|⟨hne,_⟩)
 ·refine⟨X,rfl,⟨x,⟨⟨own,λ j hj hlt=>?_,by rw[ex]at hx;exact hx⟩,Xt.fit,λ j hj=>bS hj hb.size⟩,Xt,ex5,ex2.trans hfr,ex3.trans hmo,λ p a b c=>by rw[ex1];exact hl p a b c⟩,hb⟩;have:=(hown j hj).1;have:j<w.heap.size:=hlt;omega
 exact absurd ex6 hne
theorem FY.next{w w1 w2:World}{X:Nat}(h:FY w w1 X A)(hb:Below w1 w1 w2):FY w w2 X A:=by
 obtain⟨d,hd,r⟩:=h;exact⟨d,hd.grow hb (λ j hj=>.inl hj),r⟩
theorem FY.tab{w w1:World}{X:Nat}(h:FY w w1 X A):jG w1:=by
 obtain⟨d,hd,r⟩:=h;exact hd.tab
structure uu(A B:AP):Prop where
 aj:B.aj=A.aj
 free:B.free=A.free
 ax:B.ax=A.ax
 op:B.op=none
 c:∀p,1<=p->p<A.aj->p∉A.free->B.c p=A.c p
theorem uu.has{B:AP}(h:uu A B)(ho:A.op=none)(p:Nat):B.Has p↔A.Has p:=by
 unfold AP.Has AP.bU;rw[h.aj,h.free,h.op,ho]
theorem uu.same{B:AP}(h:uu A B){p:Nat}(hp:A.Has p):B.c p=A.c p:=h.c p hp.1 hp.2.1 hp.2.2.1
theorem uu.good{B:AP}(h:uu A B)(g:A.Good):B.Good:=by
 have hg:B.bU=[]:=by unfold AP.bU;rw[h.op]
 refine⟨by rw[h.aj];exact g.one,by rw[h.aj,h.ax];exact g.ax,by rw[h.ax];exact g.few,by rw[h.free];exact g.eY,?_,by rw[hg];exact List.nodup_nil,λ x hx=>by rw[hg]at hx;cases hx⟩;rw[h.free,h.aj];exact g.free
theorem ya6{w:World}{X:Nat}(h:FY w W X A)(n:Nat)(hn:1<=n/\n<=1000)(hand:Int) :
  Calls Tryz.prog 18 #[.pointer X,.int .i64 n,.int .i64 hand] W λ e w'=>∃P2 B,e= .returned (.pointer (some ⟨P2,0,none⟩))/\PZ (λ j=>j<w.heap.size) w' P2 X B 0/\uu A B/\Kept (λ j=>j<w.heap.size) W w':=by
 obtain⟨d,hd,ok,cl,hf,hm,hl⟩:=h;refine(Xu hd ok cl n hn hand).mono ?_;rintro e w' ⟨P2,FB,M,q,rfl,s,kk,hop⟩;exact⟨P2,{aj:=A.aj,ax:=A.ax,free:=A.free,c:=λ p=>jM d.x p,op:=none},rfl,⟨FB,M,n,q,d,s,hn.1,⟨hf,hm,by rw[hop];rfl⟩⟩,⟨rfl,rfl,rfl,rfl,hl⟩,kk⟩
end
end Go.Proofs.YtlipgbnnbefhjaaGreatDoor
