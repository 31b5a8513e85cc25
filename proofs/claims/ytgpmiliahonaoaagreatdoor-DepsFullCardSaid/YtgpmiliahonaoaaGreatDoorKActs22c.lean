/- Facts on texts on pages. -/
import Derived.Test.YtgpmiliahonaoaaGreatDoorKUndoFc
import Derived.Deep.Fields
import Derived.ChangeSame
import Derived.ProofKit
import Derived.Deep.Slices
set_option maxRecDepth 100000
set_option maxHeartbeats 8000000
set_option linter.unusedSimpArgs false
open List renaming length->Y
open Go.Value renaming int->V,slice->ad
open Go.IntKind renaming i64->U
open Go.Proofs.Tryz
namespace Go.Proofs.YtgpmiliahonaoaaGreatDoor
open Go.RowKit Go.BigFrame
open UK (str aF nth Only Row ay w32)
open DP (Rc bU aS bi eX)
variable{X:List bU}
variable{E:Nat->Prop}{W:World}{base:Nat}{spare:Nat->Bool}{h:Bool}{c:List Value}
section
variable{g:World}{P D d e f H k a b i m M:Nat}
end
open Go.RowKit Go.ChangeShapes Go.WideShapes Go.Deep
section
variable{H:Type}{enc:TypeId×Value->H}
theorem Hj(h:Y c=4):∃a b e d,c=[a,b,e,d]:=by
 match c,h with
 | [a,b,e,d],_=>exact⟨a,b,e,d,rfl⟩
theorem Xf:prog.cellsOf 3 =1:=by kernel_rfl
end
end Go.Proofs.YtgpmiliahonaoaaGreatDoor
namespace Go.Proofs.YtgpmiliahonaoaaGreatDoor.RN
open Go.RowKit Go.ChangeShapes Go.WideShapes Go.Deep
open UK (str)
variable{P:Program}{w W:World}{base fuel:Nat}{spare:Nat->Bool}{e:Bool}{b:Array Field}{d:List Value}{a:Addr}{v:Value}{p:List MemPlace}
section
variable{H:Type}{enc:TypeId×Value->H}
theorem KK{t g:TypeId}{x:DataW H×List MemPlace}(S:P.underlying t=some (.slice g))(E:P.underlying g=some (.struct b))(Q:oneCellFields P b=true)(p:P.cellsOf g=b.size)(h:DataW.trod enc P w base spare e fuel t d=some x) :
  (d=[.slice none 0 0]/\x=(.nil,[])) \/
  ∃(a:Addr) (len cap m:Nat) (D:Nat->DataW H) (Pl:Nat->List MemPlace),d=[.slice (some a) len cap]/\base<=a.block/\len<=cap/\cap<=maxLen/\m=(if spare a.block then cap else len) /\
   x=(.slice ((List.range len).map D) ((List.range (m-len)).map λ j=>D (len+j)),MemPlace.row a (m*b.size)++(List.range m).flatMap Pl) /\
   ∀i,i<m->∃(c:List (DataW H×List MemPlace)) (n:Nat),D i= .agg (c.map (·.1))/\Pl i=c.flatMap (·.2)/\c.length=b.size /\
    ∀(j:Nat) (f:Field),b[j]?=some f->∃(v:Value) (y:DataW H×List MemPlace),w.cell? (a.add (i*b.size+j))=some v/\c[j]?=some y/\DataW.trod enc P w base spare e n f.type [v]=some y:=by
 rcases open_slice S h with u|⟨a,len,cap,m,n,D,Pl,C,A,K,L,M,r,F⟩
 ·exact .inl u
 refine .inr ⟨a,len,cap,m,D,Pl,C,A,K,L,M,by rw[p]at r;exact r,λ i G=>?_⟩;obtain⟨cs',q,T⟩:=F i G;rw[p]at q;obtain⟨c,Y,h1,o,aD,X,hf⟩:=DataW.trod_struct E T;obtain⟨_,h0,z⟩:=World.cells?_some q;simp only[Prod.mk.injEq]at o;refine⟨c,Y,o.1,o.2,X,λ j f l=>?_⟩;obtain⟨N,J⟩:=hone_of Q j f l;have I:j<b.size:=(Array.getElem?_eq_some_iff.1 l).1;have B:=z j I;have W:cs'[j]?=some (cs'[j]'Z):=bK Z;have k:=hf j f l;rw[N,J]at k
 have R:(cs'.drop j).take 1=[cs'[j]'Z]:=by
  rw[jY Z];rfl
 rw[R]at k;have s:c[j]?=some (c[j]'Z):=bK Z;refine⟨_,_,?_,s,k.trans s⟩;rw[<-Go.Deep.add_add,B,W]
end
theorem Xd(h:w.cell? a=some v):a.spot=none:=by
 unfold World.cell? at h
 split at h
 ·split at h
  ·cases h
  rename_i b;simpa using b
 cases h
theorem Xe(b off n:Nat):(⟨b,off,none⟩:Addr).add n=⟨b,off+n,none⟩:=by
 unfold Addr.add;by_cases a:n=0<;>simp[a]
theorem sm:prog.underlying 23 =some (.struct #[{name:= "Row",type:=3,offset:=0,embedded:=false,tag:= "",pkgPath:= "",byteOffset:=0},{name:= "Col",type:=3,offset:=1,embedded:=false,tag:= "",pkgPath:= "",byteOffset:=8},{name:= "Rows",type:=3,offset:=2,embedded:=false,tag:= "",pkgPath:= "",byteOffset:=16},{name:= "Cols",type:=3,offset:=3,embedded:=false,tag:= "",pkgPath:= "",byteOffset:=24}]):=by kernel_rfl
theorem sL:oneCellFields prog #[{name:= "Row",type:=3,offset:=0,embedded:=false,tag:= "",pkgPath:= "",byteOffset:=0},{name:= "Col",type:=3,offset:=1,embedded:=false,tag:= "",pkgPath:= "",byteOffset:=8},{name:= "Rows",type:=3,offset:=2,embedded:=false,tag:= "",pkgPath:= "",byteOffset:=16},{name:= "Cols",type:=3,offset:=3,embedded:=false,tag:= "",pkgPath:= "",byteOffset:=24}]=true:=by kernel_rfl
theorem E0:prog.cellsOf 23 =4:=by kernel_rfl
theorem An{H:Type}{enc:TypeId×Value->H}{x:DataW H×List MemPlace}(hf:DataW.trod enc prog W 0 (λ _=>true) true fuel 33 d=some x) :
  ∃F E P r c h w,d=[.slice F E P]/\BU W F E r c h w:=by
 rcases KK underlying33 sm sL E0 hf with⟨p,_⟩|⟨a,len,cap,m,D,Pl,p,T,Y,hm,N,hx,L⟩
 ·exact⟨none,0,0,λ _=>0,λ _=>0,λ _=>0,λ _=>0,p,.inl rfl⟩
 by_cases M:len=0
 ·subst M;exact⟨some a,0,cap,λ _=>0,λ _=>0,λ _=>0,λ _=>0,p,.inl rfl⟩
 have h0:m=cap:=by rw[N];rfl
 have u:∀i,i<len->∃g k l n:Int,W.cell? (a.add (i*4))=some (.int .i64 g)/\W.cell? (a.add (i*4+1))=some (.int .i64 k)/\W.cell? (a.add (i*4+2))=some (.int .i64 l)/\W.cell? (a.add (i*4+3))=some (.int .i64 n):=λ i X=>by
  obtain⟨ys,h1,_,_,_,s⟩:=L i Z;obtain⟨v0,y0,o,_,Q⟩:=s 0 _ rfl;obtain⟨v1,y1,G,_,R⟩:=s 1 _ rfl;obtain⟨v2,y2,I,_,S⟩:=s 2 _ rfl;obtain⟨v3,y3,J,_,t3⟩:=s 3 _ rfl;obtain⟨g,v,_,_⟩:=DataW.trod_int underlying3 Q;obtain⟨k,y,_,_⟩:=DataW.trod_int underlying3 R;obtain⟨l,z,_,_⟩:=DataW.trod_int underlying3 S;obtain⟨n,A,_,_⟩:=DataW.trod_int underlying3 t3;simp only[List.cons.injEq,and_true]at v y z A;subst v y z A;exact⟨g,k,l,n,o,G,I,J⟩
 have C:a.spot=none:=by
  obtain⟨g,_,_,_,o,_⟩:=u 0 Z;have e:a.add (0*4)=a:=by simp[Addr.add]
  rw[e]at o;exact Xd o
 obtain⟨b,off,sp⟩:=a;simp only at C;subst C;simp only[Xe,<-Nat.add_assoc]at u
 have K:∀i,∃q:Int×Int×Int×Int,i<len->W.cell? ⟨b,off+i*4,none⟩=some (.int .i64 q.1)/\W.cell? ⟨b,off+i*4+1,none⟩=some (.int .i64 q.2.1)/\W.cell? ⟨b,off+i*4+2,none⟩=some (.int .i64 q.2.2.1)/\W.cell? ⟨b,off+i*4+3,none⟩=some (.int .i64 q.2.2.2):=λ i=>by
  by_cases h:i<len
  ·obtain⟨g,k,l,n,t⟩:=u i h;exact⟨(g,k,l,n),λ _=>t⟩
  exact⟨(0,0,0,0),λ t=>absurd t h⟩
 obtain⟨f,B⟩:=Classical.axiomOfChoice K;exact⟨some ⟨b,off,none⟩,len,cap,λ i=>(f i).1,λ i=>(f i).2.1,λ i=>(f i).2.2.1,λ i=>(f i).2.2.2,p,.inr ⟨b,off,rfl,block_lt_of_cell (B 0 Z).1,λ j h=>B j h⟩⟩
structure nK where
 kd:Int
 ar:Int
 ac:Int
 lo:Option Addr
 ln:Nat
 lc:Nat
 r:Nat->Int
 c:Nat->Int
 h:Nat->Int
 w:Nat->Int
def Pn(W:World)(b o:Nat)(a:nK):Prop:=
 W.cell? (b,o)=some (V U a.kd)/\W.cell? (b,o+1)=some (V U a.ar)/\W.cell? (b,o+2)=some (V U a.ac)/\W.cell? (b,o+3)=some (ad a.lo a.ln a.lc)/\BU W a.lo a.ln a.r a.c a.h a.w
theorem xQ{H:Type}{enc:TypeId×Value->H}{h0:DataW H}(W:World)(v:Value)(ha:Value.okWide prog W .any base 40 v)(h:DataW.Trod enc prog W 0 (λ _=>true) true 40 v h0 p) :
  ∃y len cap,v= .slice y len cap/\(len=0\/∃(b off:Nat) (f:Nat->nK),y=some ⟨b,off,none⟩/\(∀i,i<len->Pn W b (off+i*4) (f i))/\b<W.1.size):=by
 obtain⟨a0,j,cap0,rfl⟩:=okWide_slice underlying40 ha;obtain⟨fuel,hf⟩:=h;rcases open_slice underlying40 hf with⟨g,_⟩|⟨a,len,cap,hh,hv,hn,Pl,g,hb,hl,hm,h9,hx,hi⟩
 ·simp only[Value.cells,List.cons.injEq,and_true]at g;obtain⟨rfl,rfl,rfl⟩:=Value.slice.inj g;exact⟨none,0,0,rfl,.inl rfl⟩
 simp only[Value.cells,List.cons.injEq,and_true]at g;obtain⟨rfl,rfl,rfl⟩:=Value.slice.inj g;refine⟨_,_,_,rfl,?_⟩;by_cases h8:j=0
 ·exact .inl h8
 have hq:hh=cap0:=by rw[h9];rfl
 have h5:prog.cellsOf 45 =4:=by kernel_rfl
 have r:∀i,i<j->∃x:nK,W.cell? (a.add (i*4))=some (.int .i64 x.kd)/\W.cell? (a.add (i*4+1))=some (.int .i64 x.ar)/\W.cell? (a.add (i*4+2))=some (.int .i64 x.ac)/\W.cell? (a.add (i*4+3))=some (.slice x.lo x.ln x.lc)/\BU W x.lo x.ln x.r x.c x.h x.w:=λ i ho=>by
  obtain⟨d,K,ht⟩:=hi i Z;rw[h5]at K;obtain⟨_,h7,m⟩:=World.cells?_some K;obtain⟨A,k,e,l,rfl⟩:=Hj h7;obtain⟨n,s,hr,hy,aD,he,q⟩:=DataW.trod_struct underlying45 ht;have hs:n.length=3:=he;have F:DataW.trod enc prog W 0 (λ _=>true) true s 3 (List.take (prog.cellsOf 3) [A,k,e,l])=n[0]?:=q 0 _ rfl;have G:DataW.trod enc prog W 0 (λ _=>true) true s 25 (List.take (prog.cellsOf 25) [k,e,l])=n[1]?:=q 1 _ rfl;have I:DataW.trod enc prog W 0 (λ _=>true) true s 33 (List.take (prog.cellsOf 33) [l])=n[2]?:=q 2 _ rfl;rw[show prog.cellsOf 25 =2 by kernel_rfl,bK Z]at G;rw[show prog.cellsOf 33 =1 by kernel_rfl,bK Z]at I;rw[Xf,bK Z]at F;obtain⟨P,hk,_,_⟩:=DataW.trod_int underlying3 F;obtain⟨t,T,hp,hz,Xg,hg,N⟩:=DataW.trod_struct underlying25 G;have hu:t.length=2:=hg;have X:DataW.trod enc prog W 0 (λ _=>true) true T 3 (List.take (prog.cellsOf 3) [k,e])=t[0]?:=N 0 _ rfl;have Y:DataW.trod enc prog W 0 (λ _=>true) true T 3 (List.take (prog.cellsOf 3) [e])=t[1]?:=N 1 _ rfl;rw[Xf,bK Z]at X Y;obtain⟨z,h1,_,_⟩:=DataW.trod_int underlying3 X;obtain⟨u,h2,_,_⟩:=DataW.trod_int underlying3 Y;obtain⟨S,R,Q,hj,c,h,w,h3,hc⟩:=An I;obtain rfl:A= .int .i64 P:=by simpa using hk
  obtain rfl:k= .int .i64 z:=by simpa using h1
  obtain rfl:e= .int .i64 u:=by simpa using h2
  obtain rfl:l= .slice S R Q:=by simpa using h3
  have B:=m (i:=0) (by decide);have C:=m (i:=1) (by decide);have D:=m (i:=2) (by decide);have E:=m (i:=3) (by decide);rw[Go.Deep.add_add]at B C D E;exact⟨⟨P,z,u,S,R,Q,hj,c,h,w⟩,B,C,D,E,hc⟩
 have M:a.spot=none:=by
  obtain⟨_,J,_⟩:=r 0 Z;have h4:a.add (0*4)=a:=by simp[Addr.add]
  rw[h4]at J;exact Xd J
 obtain⟨b,off,sp⟩:=a;simp only at M;subst M;simp only[Xe,<-Nat.add_assoc]at r
 have h6:∀i,∃x:nK,i<j->Pn W b (off+i*4) x:=λ i=>by
  by_cases h:i<j
  ·obtain⟨x,o⟩:=r i h;exact⟨x,λ _=>o⟩
  exact⟨⟨0,0,0,none,0,0,λ _=>0,λ _=>0,λ _=>0,λ _=>0⟩,λ o=>absurd o h⟩
 obtain⟨f,L⟩:=Classical.axiomOfChoice h6;exact .inr ⟨b,off,f,rfl,L,block_lt_of_cell (L 0 Z).1⟩
end Go.Proofs.YtgpmiliahonaoaaGreatDoor.RN
