/- Facts on texts on pages. -/
import Derived.Test.YtgpmiliahonaoaaGreatDoorKTsQc
set_option maxRecDepth 100000
set_option maxHeartbeats 8000000
set_option linter.unusedSimpArgs false
open Go.Value renaming bool->a6,int->V,pointer->aq,slice->ad,tuple->a9
open Go.IntKind renaming i64->U,u64->a7
open Go.Ending renaming returned->aw
open Or renaming inl->O,inr->al
open List renaming length->Y
open Go.Proofs.Tryz
namespace Go.Proofs.YtgpmiliahonaoaaGreatDoor
open Go.RowKit
open UK (str aF nth Only Row ay)
variable{E:Nat->Prop}{W W' e m:World}{P D T k rt p j a i I z M H q C K root d c n:Nat}{A B:AP}{l:List KV}{ps ex:List Nat}{x y:KV}{g:List Sb}{κ:UInt64}{f:FuncId}{cap:Value}{J:Nat->(Nat->Prop)->World->Prop}{u G F:Nat->List UInt8}{b:Option Addr}{L:Nat->List (List UInt8)}{N:List HT}
theorem fu{deep:Nat}{x:Nd}(J:Nat->AP->Nat->Prop)(h:aP E W P D T rt A k)(hk:k+2<900000000)(hp:A.Has p)(Q:aB A p=some x)(hd:deep<=20)(h0:J 0 A (k+2))(hJ:∀j B a,J j B a->a<899999990)(h1:∀(j c:Nat) (B:AP) (a:Nat) (F:Nat->Prop) (e:World),x.ak[j]?=some c->J j B a->aP F e P D T rt B a->Calls prog 149 #[aq T,V U c,V U ((deep:Int)+1)] e λ m w=>m=aw (V U 0)/\∃f i,i<899999990/\aP F w P D T rt f i/\Kept F e w/\f.Has c/\J (j+1) (f.give c) (i+1)) :
  Calls prog 149 #[aq T,V U p,V U deep] W λ m w=>m=aw (V U 0)/\∃B a,J (Y x.ak) B a/\aP E w P D T rt B a/\Kept E W w:=by
 have L:=lI Q
 have h9:Y x.ak<=40:=by
  cases hl:x.leaf with
  | true=>have:=(L.leaf hl).2.2;rw[this];simp
  | false=>exact(L.inner hl).2.2.1
 have HL:=zH (yJ h.pz hk h.box hp Q);have I:=bm h1 h0 hJ;have HH:=zH h;have h7:¬(20:Int)<(deep:Int):=Z
 have h8:IntKind.i64.wrap ((deep:Int)+1)=(deep:Int)+1:=by rw[dM];omega
 clear h hp Q h1 h0 hJ L hk
 go_enter func149,ntmps149
 go_wp2_with fail
 refine HL.out.mono ?_;rintro m e ⟨N,M,nb,ka,va,aa,kc,vc,ac,rfl,hN,hM,⟨l,gy,n⟩,p1,v⟩;have h:=HH.out;have b3:=l.box.c3;have h2:aP (λ j=>E j\/N<=j/\j<M) e P D T rt A (k+2):=⟨p1,h.box.ae (v.block T h.mem),O h.mem⟩;have H:=bm l n v;clear HL gy p1 v hN hM l n
 go_wp2_with fail
 go_loopw [33] (λ R wr=>∃(j:Nat) (B:AP) (a:Nat),R=V U j/\j<=Y x.ak/\J j B a/\aP (λ j=>E j\/N<=j/\j<M) wr P D T rt B a/\Kept (λ j=>E j\/N<=j/\j<M) e wr) (λ R _=>41-(intOf R).toNat)
 case atStart=>exact⟨0,A,k+2,rfl,aR _,I.out.2.1,h2,Kept.refl _ _⟩
 clear h2 b3 h;obtain⟨j,B,a,rfl,z,y,u,t⟩:=hrel;have LB:IntKind.i64.wrap ((j:Int)+1)=(j:Int)+1:=by rw[dM];omega
 have OU:wrap64 ((j:Int)+1)=(j:Int)+1:=by unfold wrap64;omega
 by_cases C:j<Y x.ak
 ·obtain⟨c,K⟩:∃c,x.ak[j]?=some c:=⟨_,bK C⟩;obtain⟨l,n,v⟩:=H.out;have ha:=l.a.win (S:=λ g=>N<=g/\g<M) (λ g r=>⟨(l.new g (al (al r))).1,n g (al (al r))⟩);obtain⟨b,c',q,h4,hr⟩:=ha;obtain⟨g,h3,rfl,r,cx⟩:=hr _ _ (Gi _ _ _ K)
  injection q with q5 q6 q7
  subst q5;have cy:wr.cell? (g,h3+j)=some (V U (c:Int)):=(eB (a:=⟨g,h3+j,none⟩) (t.block g (al r))).trans cx;have HC:=zH (I.out.1 j c B a _ wr K y u);have h5:(j:Int)<(Y x.ak:Int):=Int.ofNat_lt.2 C;have HK:=zH t;clear l n v hr cx h4 r K y u t q6 q7 C
  go_wp2_with fail
  refine HC.out.mono ?_;rintro m w2 ⟨rfl,f,i,h6,d,s,uQ,o⟩;have c0:=d.box.c0;have HG:=zH (IA d.pz Z c uQ);have X:=bm d s o;clear HC d s uQ o cy
  go_wp2_with fail
  refine HG.out.mono ?_;rintro m w3 ⟨rfl,p3,S⟩;obtain⟨d,s,o⟩:=X.out
  have G:=zH (show J (j+1) (f.give c) (i+1)/\aP (λ j=>E j\/N<=j/\j<M) w3 P D T rt (f.give c) (i+1)/\Kept (λ j=>E j\/N<=j/\j<M) e w3 from
   ⟨o,⟨p3,d.box.ae (S.block T d.mem),d.mem⟩,(HK.out.trans s).trans S⟩)
  clear HG X HK p3 S d s o c0;go_wp2;go_roundw
  case rel=>exact⟨j+1,f.give c,i+1,by go_num,Z,G.out⟩
  case measure=>simp[intOf];omega
 obtain rfl:j=Y x.ak:=Z
 have hF:∃B a,J (Y x.ak) B a/\aP E wr P D T rt B a/\Kept E W wr:=
  ⟨B,a,y,⟨u.pz.less (λ _ z=>O z),u.box,HH.out.mem⟩,H.out.2.2.trans (t.mono (λ _ z=>O z))⟩
 have G:=zH hF;clear hF y u t C I H;go_wp2;go_ret;exact⟨rfl,G.out⟩
def pT(A:AP)(g:List Sb)(k j:Nat)(B:AP)(a:Nat):Prop:=∃gone,dA A B [] gone/\gone.Nodup/\(∀p,p∈gone↔p∈dP (g.take j))/\a<=k+2+6*(dP (g.take j)).length
def El(E:Nat->Prop)(W b:World)(P D T rt:Nat)(A:AP)(k:Nat)(t:Sb)(e:Ending):Prop:=
 ∃(B:AP) (gone:List Nat) (a:Nat),e=aw (V U 0)/\dA A B [] gone/\gone.Nodup/\(∀p,p∈gone↔p∈t.ps/\p≠t.pg)/\aP E b P D T rt B a/\a+3<=k+6*Y t.ps/\Kept E W b
theorem WI{u:Sb}(h:g[j]?=some u):dP (g.take (j+1))=dP (g.take j)++u.ps:=by
 rw[List.take_add_one,h];simp[dP]
theorem gP{P D T rt:Nat}:∀(d:Nat) {E:Nat->Prop} {W:World} {A:AP} {k:Nat} (t:Sb) (deep:Nat),aP E W P D T rt A k->k+6*Y t.ps+100<899999990->At A d t->t.ps.Nodup->A.Good->(∀p,A.Has p->(A.c p).length=504)->deep+d<=20 ->
  Calls prog 149 #[aq T,V U t.pg,V U deep] W λ i y=>El E W y P D T rt A k t i
 | 0,E,W,A,k,t,deep,h,hk,l,h2,hg,H,hd=>by
  obtain⟨ks,vs,F,S,h3,q,X⟩:=l.tr;refine(fu (λ _ B a=>B=A/\a=k+2) h Z (l.has _ l.tr.mem) F Z ⟨rfl,rfl⟩ (λ _ _ _ hj=>by rw[hj.2];omega) (λ j c B a Q e I=>by simp at I)).mono ?_;rintro i y ⟨rfl,B,a,⟨rfl,rfl⟩,M,K⟩;exact⟨B,[],k+2,rfl,dA.refl H [],List.nodup_nil,λ p=>by rw[X];simp,M,by rw[X];simp only[gI];omega,K⟩
 | d+1,E,W,A,k,t,deep,h,hk,l,h2,hg,H,hd=>by
  obtain⟨ag,g,F,S,h3,q⟩:=l.tr;have L:=h2;rw[q]at L;have ha:=(eD.1 L).2;have mr:=(eD.1 L).1;have aD:Y t.ps=1+(dP g).length:=by rw[q,dF];omega
  have h4:∀j,(dP (g.take j)).length<=(dP g).length:=λ j=>by
   have:dP g=dP (g.take j)++dP (g.drop j):=by rw[<-uO,gZ]
   rw[this,zl];omega
  refine(fu (pT A g k) h Z (l.has _ l.tr.mem) F Z ⟨[],dA.refl H [],List.nodup_nil,λ p=>by simp[dP],Z⟩ (λ j B a ⟨gone,_,_,_,x⟩=>by have:=h4 j;omega) (λ j c B a Q e I hJ hc=>?_)).mono ?_
  ·obtain⟨gone,n,J,o,x⟩:=hJ;obtain⟨u,s,rfl⟩:=KQ I;have h5:u∈g:=dU s;have hn:=S.all u h5;have hcut:=Jg s;have z:=ha;rw[hcut]at z;have Je:=(bN.1 z).2.2;have ho:u.ps.Nodup:=(bN.1 (bN.1 z).2.1).1;have hp:∀p∈u.ps,A.Has p:=λ p f=>l.has p (by rw[q];exact cK _ (xH h5 f));have C:∀p∈u.ps,p∉gone:=λ p f dh=>Je p ((o p).1 dh) p (by simp[f]) rfl
   have r:At B d u:=by
    have hh:∀p∈u.ps,B.Has p:=λ p f=>(n.has p).2 ⟨hp p f,C p f⟩;exact⟨(Tr.O7 hn.1 n hh (λ p _=>by simp)).1,hh⟩
   have hl:=h4 (j+1);rw[WI s,zl]at hl;have h1:=n.good hg;have hb:=gP d (E:=Q) (W:=e) u (deep+1) hc Z r ho h1 n.dV Z;refine hb.mono ?_;rintro i y ⟨N,xJ,EU,rfl,v,h7,w,hi,OT,WK⟩;have h0:N.Has u.pg:=(v.has _).2 ⟨r.has _ r.tr.mem,λ hm=>((w _).1 hm).2 rfl⟩;have WL:=dA.give (v.good h1) h0 v.dV;have h6:=(n.trans v (λ p f=>by cases f)).trans WL (λ p f=>by cases f);refine⟨rfl,N,EU,Z,hi,WK,h0,gone++xJ++[u.pg],h6,?_,λ p=>?_,?_⟩
   ·rw[bN,bN];refine⟨⟨J,h7,λ R m b G i=>?_⟩,tZ _ _,λ R m b G i=>?_⟩
    ·exact C b ((w b).1 G).1 (i▸m)
    rw[bu.1 G]at i;rcases dm.1 m with m|m
    ·exact C u.pg r.tr.mem (i▸m)
    exact((w R).1 m).2 i
   ·rw[WI s,dm,dm,dm,o,w,bu]
    constructor
    ·rintro((h|h)|h)
     ·exact O h
     ·exact al h.1
     exact al (h▸r.tr.mem)
    rintro(h|h)
    ·exact O (O h)
    by_cases he:p=u.pg
    ·exact al he
    exact O (al ⟨h,he⟩)
   rw[WI s,zl];omega
  rintro i y ⟨rfl,B,a,⟨gone,n,J,o,x⟩,M,K⟩;have h8:(g.map Sb.pg).length=Y g:=bS _;dsimp only at o x;rw[h8,dY]at o x;refine⟨B,gone,a,rfl,n,J,λ p=>?_,M,Z,K⟩;rw[o,q,aN]
  constructor
  ·exact λ f=>⟨al f,λ i=>mr (i▸f)⟩
  rintro⟨h|h,h9⟩
  ·exact absurd h h9
  exact h
theorem wE(h:aP E e P D T rt B a)(n:Kept E W e)(s:a+8<900000000)(p:B.Has rt) :
  e.cell? (T,1)=some (V U rt)/\Calls prog 150 #[aq T,V U rt,aq e] (e.alloc (.cells #[a6 true,ad none 0 0,ad none 0 0,ad none 0 0] 212)) λ f k=>f=aw (V U 0)/\aP E k P D T rt (B.ax rt (aX (B.c rt) ⟨true,[],[],[]⟩)) (a+3)/\Kept E W k:=by
 have l:=h.pz.there;refine⟨h.box.cell 1 _ rfl,?_⟩;have b1:=ay.new e #[a6 true,ad none 0 0,ad none 0 0,ad none 0 0] 212;have z1:(e.alloc (.cells #[a6 true,ad none 0 0,ad none 0 0,ad none 0 0] 212)).1.size=e.1.size+1:=by simp
 have d:Below e e (e.alloc (.cells #[a6 true,ad none 0 0,ad none 0 0,ad none 0 0] 212)):=(aU _ _).alloc (aH _) _;generalize e.alloc (.cells #[a6 true,ad none 0 0,ad none 0 0,ad none 0 0] 212)=c at b1 z1 d ⊢;have q:PZ (λ j=>E j\/(e.1.size<=j/\j<c.1.size)) c P D B a:=h.pz.wide d (λ j b=>b)
 have o:jU (λ j=>E j\/(e.1.size<=j/\j<c.1.size)) c e ⟨true,[],[],[]⟩:=
  ⟨_,_,_,b1,al ⟨aH _,Z⟩,⟨none,0,rfl,aH _,λ j u b=>(by cases b)⟩,⟨none,0,rfl,aH _,λ j u b=>(by cases b)⟩,⟨none,0,rfl,aH _,λ j u b=>(by cases b)⟩⟩
 have m:Fits ⟨true,[],[],[]⟩:=⟨λ _=>⟨aR _,rfl,rfl⟩,(λ h=>by cases h)⟩;have k12:Kept E e c:=Kept.of_below d l;have g:=h.box.ae (k12.block T h.mem);refine(cZ q Z g p o m).mono ?_;rintro f t ⟨rfl,r,i⟩;exact⟨rfl,⟨r.less (λ _ b=>O b),g.ae (i.block T (O h.mem)),h.mem⟩,(n.trans k12).trans (i.mono (λ _ b=>O b))⟩
theorem nj(h:aP E W P D T rt A k)(hk:k+400000<899999990)(b:TI A rt l ps)(q:A.Good)(i:∀p,A.Has p->(A.c p).length=504) :
  Calls prog 83 #[aq T] W λ t M=>t=aw (V U 0)/\∃B,mD A B rt [] ps/\aP E M P D T rt B (k+400000)/\Kept E W M:=by
 obtain⟨d,s,c,rfl,rfl,rfl⟩:=b.ex;have mK:=KN c b.fA b.has q;have h2:=hU b.fA b.has q;have t1:=h.box.c1;have z:=zH (gP d s 0 h Z ⟨c,b.has⟩ b.fA q i Z);have C:=bm c b i;clear h c b q i mK
 go_enter func83,ntmps83
 go_wp2_with fail
 refine z.out.mono ?_;rintro t e ⟨B,gone,a,rfl,j,K,r,g,X,m⟩;obtain⟨c,b,i⟩:=C.out;have n:B.Has s.pg:=(j.has _).2 ⟨b.has _ c.mem,λ Y=>((r _).1 Y).2 rfl⟩;obtain⟨WC,I⟩:=wE (W:=W) g m Z n;have F:=zH I;have w:=j.dV _ n;have v:Fits ⟨true,[],[],[]⟩:=⟨λ _=>⟨aR _,rfl,rfl⟩,(λ h=>by cases h)⟩;have G:dA B (B.ax s.pg (aX (B.c s.pg) ⟨true,[],[],[]⟩)) [s.pg] []:=dA.ax n j.dV (by rw[uL _ _ Z v,w])
 have J:dA A (B.ax s.pg (aX (B.c s.pg) ⟨true,[],[],[]⟩)) s.ps gone:=by
  have:=(j.wider (ps2:=s.ps) (λ p f=>by cases f)).trans G (λ p f=>by rw[bu.1 f];exact c.mem);rw[jl]at this;exact this
 have L:aB (B.ax s.pg (aX (B.c s.pg) ⟨true,[],[],[]⟩)) s.pg=some ⟨true,[],[],[]⟩:=by rw[BD w v,be rfl]
 have H:mD A (B.ax s.pg (aX (B.c s.pg) ⟨true,[],[],[]⟩)) s.pg [] s.ps:=
  ⟨gone,[s.pg],J,⟨⟨0,⟨s.pg,[],[s.pg]⟩,⟨[],[],L,rfl,λ h0 h1 x y _ hx=>(by simp at hx),rfl,rfl⟩,rfl,rfl,rfl⟩,tZ _ _,λ p f=>by rw[bu.1 f];exact AP.aC.2 n⟩,λ p=>by
   rw[bu,r]
   constructor
   ·rintro rfl;exact⟨c.mem,λ h=>h.2 rfl⟩
   rintro⟨Q,R⟩;rcases Decidable.em (p=s.pg)with u|u
   ·exact u
   exact absurd ⟨Q,u⟩ R,λ p f=>((r p).1 f).1,K⟩
 have N:=zH H;have S:a+3<=k+400000:=Z
 clear z C j K r g X m c b i n I w v G J L H t1
 go_wp2_with fail
 refine F.out.mono ?_;rintro t w2 ⟨rfl,g,m⟩;have o:=bg g m;clear F g m;go_wp2;go_ret;exact⟨rfl,_,N.out,⟨o.out.1.pz.up S,o.out.1.box,o.out.1.mem⟩,o.out.2⟩
theorem rS(c:∀y∈l.take i,y.1.toNat<κ.toNat)(d:∀y∈l.drop i,κ.toNat<=y.1.toNat):fe l κ=l[i]?:=by
 have e:l=l.take i++l.drop i:=(gZ i l).symm;have b:l[i]?=(l.drop i)[0]?:=by rw[eP,kg]
 rw[b]
 conv=>lhs;rw[e]
 rw[Qn c]
 cases hd:l.drop i with
 | nil=>rfl
 | cons a r=>
  unfold fe;rw[List.find?_cons_of_pos (by simpa using d a (by rw[hd];simp))];rfl
theorem Ze(g:jN l)(h:l[i]?=some x):(∀y∈l.take (i+1),y.1.toNat<=x.1.toNat)/\(∀y∈l.drop (i+1),x.1.toNat<y.1.toNat):=by
 obtain⟨f,b⟩:=dz.1 h;refine⟨λ y c=>?_,λ y c=>?_⟩
 ·obtain⟨j,a,e⟩:=fU c;rw[zt]at a;rw[List.getElem_take]at e;rcases yu j i with d|d
  ·have:=jP.1 g j i Z f d;rw[e,b]at this;omega
  obtain rfl:j=i:=Z
  rw[<-e,b];exact aH _
 obtain⟨j,a,e⟩:=fU c;rw[zd]at a;rw[List.getElem_drop]at e;have:=jP.1 g i (i+1+j) f Z Z;rw[e,b]at this;exact this
structure rJ(l:List KV)(i:Nat)(κ:UInt64):Prop where
 le:i<=Y l
 lo:∀y∈l.take i,y.1.toNat<κ.toNat
 hi:∀y∈l.drop i,κ.toNat<=y.1.toNat
theorem rJ.step(f:jN l)(h:rJ l i κ)(a:l[i]?=some x)(j:x.1.toNat≠18446744073709551615):rJ l (i+1) (x.1+1)/\(x.1+1).toNat=x.1.toNat+1/\κ.toNat<=x.1.toNat:=by
 have g:=x.1.toNat_lt
 have e:(x.1+1).toNat=x.1.toNat+1:=by
  rw[UInt64.toNat_add,show(1:UInt64).toNat=1 from rfl];omega
 obtain⟨c,d⟩:=Ze f a;have hi:=(dz.1 a).1;refine⟨⟨hi,λ y b=>by have:=c y b;omega,λ y b=>by have:=d y b;omega⟩,e,h.hi x (List.mem_iff_getElem?.2 ⟨0,by rw[eP];exact a⟩)⟩
theorem rJ.last(b:jN l)(a:l[i]?=some x)(c:x.1.toNat=18446744073709551615):i+1=Y l:=by
 have hi:=(dz.1 a).1;refine Nat.le_antisymm hi (Nat.le_of_not_lt (λ h=>?_));have:=(Ze b a).2 l[i+1] (List.mem_iff_getElem?.2 ⟨0,by rw[eP];exact bK h⟩);have:=(l[i+1]).1.toNat_lt;omega
theorem Zf(hf:f=133 \/f=120)(h:aP E W P D T rt A k)(hl:Y l<=2000)(hk:k+400000<900000000)(q:TI A rt l ps)(u:A.Good)(X:J 0 E W)(h0:∀(i:Nat) (x:KV) (a:Nat->Prop) (h3 d:World),l[i]?=some x->J i a h3->aP a d P D T rt A (k+100*i+100)->Kept a h3 d->Calls prog f #[V a7 x.1.toNat,V a7 x.2.toNat,cap] d λ m w''=>m=aw (a6 true)/\∃R,aP R w'' P D T rt A (k+100*i+100)/\J (i+1) R w'') :
  Calls prog 119 #[aq T,V a7 0,.func (.func f) #[] #[cap]] W λ m d=>m=aw (V U 0)/\∃a w'',aP a d P D T rt A (k+300000)/\((w''=d/\J (Y l) a d)\/(J (Y l) a w''/\Kept a w'' d)):=by
 rcases hf with rfl|rfl
 all_goals
  have p:=q.rise;have L:=br h q u p X;have HD0:=zH h0;clear h q u p X h0
  go_enter func119,ntmps119
  go_wp2_with fail
  go_loopw [7] (λ N wr=>∃(i:Nat) (κ:UInt64),N=V a7 κ.toNat/\rJ l i κ/\Hid (∃a,aP a wr P D T rt A (k+100*i)/\J i a wr)) (λ N _=>18446744073709551616-(intOf N).toNat)
  case atStart=>exact⟨0,0,rfl,⟨aR _,λ y hy=>(by simp at hy),λ y _=>aR _⟩,zH ⟨E,L.out.1,L.out.2.2.2.2⟩⟩
  obtain⟨i,κ,rfl,t,G⟩:=hrel;obtain⟨a,B,r⟩:=G.out;obtain⟨_,q,u,p,_⟩:=L.out;have I:=t.le;have o:=oR B Z q u κ;rw[rS t.lo t.hi]at o
  cases g:l[i]? with
  | none=>
   rw[g]at o
   have H:i=Y l:=by
    refine Nat.le_antisymm I (Nat.le_of_not_lt (λ h=>?_));rw[bK h]at g
    cases g
   have s:=zH o;have HF:=bg r H;have M:k+100*i+100<=k+300000:=Z
   clear o g H t G q u p B r I
   go_wp2_with fail
   refine s.out.mono ?_;rintro m e ⟨rfl,b,c⟩;have v:=bg b c;clear b c s;unfold Qo
   go_wp2_with fail
   go_ret;obtain⟨b,c⟩:=v.out;obtain⟨r,H⟩:=HF.out;exact⟨rfl,a,wr,⟨b.pz.up M,b.box,b.mem⟩,al ⟨H▸r,c⟩⟩
  | some x=>
   rw[g]at o;have s:=zH o;have C:=zH (λ (d:World) (b:aP a d P D T rt A (k+100*i+100)) (c:Kept a wr d)=>HD0.out i x a wr d g r b c);by_cases z:x.1.toNat=18446744073709551615
   ·have h1:=rJ.last p g z;have F:=zH h1;have h4:((x.1.toNat:Int)==18446744073709551615)=true:=by rw[z];rfl
    have M:k+100*i+100<=k+300000:=Z
    clear o g t G q u p B r I h1 z
    go_wp2_with fail
    refine s.out.mono ?_;rintro m e ⟨rfl,b,c⟩;have w:=zH (C.out e b c);clear b c C s;unfold Qo
    go_wp2_with fail
    refine w.out.mono ?_;rintro m w2 ⟨rfl,K,j,n⟩;have v:=bg j n;clear j n w
    go_wp2_with fail
    go_ret;obtain⟨j,n⟩:=v.out;rw[F.out]at n;exact⟨rfl,K,w2,⟨j.pz.up M,j.box,j.mem⟩,O ⟨rfl,n⟩⟩
   obtain⟨s1,Q,s3⟩:=t.step p g z;have F:=bm s1 Q s3;have DC:¬(x.1.toNat:Int)=18446744073709551615:=Z
   have h4:((x.1.toNat:Int)==18446744073709551615)=false:=by simp;omega
   have h2:IntKind.u64.wrap ((x.1.toNat:Int)+1)=((x.1+1).toNat:Int):=by rw[Q];have:=x.1.toNat_lt;exact IntWalk.u64_in _ ⟨Z,Z⟩
   have S:=zH h2;clear h2 o g t G q u p B r I z s1 Q s3
   go_wp2_with fail
   refine s.out.mono ?_;rintro m e ⟨rfl,b,c⟩;have w:=zH (C.out e b c);clear b c C s;unfold Qo
   go_wp2_with fail
   refine w.out.mono ?_;rintro m w2 ⟨rfl,K,j,n⟩;have v:=bg j n;clear j n w
   go_wp2_with fail
   go_roundw
   case rel=>exact⟨i+1,x.1+1,by rw[S.out],F.out.1,zH ⟨K,v.out.1,v.out.2⟩⟩
   obtain⟨m1,m2⟩:=F.out.2;have m3:=(x.1+1).toNat_lt;have m4:(intOf (V a7 ((x.1+1).toNat:Int))).toNat=(x.1+1).toNat:=rfl;have m5:(intOf (V a7 (κ.toNat:Int))).toNat=κ.toNat:=rfl;rw[S.out,m4,m5,m1];rw[m1]at m3;generalize x.1.toNat=y at *;generalize κ.toNat=h5 at *;omega
open Go.RowKit Go.BigFrame
open DP (bU bi)
variable{X:List bU}
section
variable{L:List (Nat×Nat)}
theorem CX.step(q:ay m d #[ad b (Y L) c])(u:CX m b c L)(w:¬aG b d)(v:Y L<=1000000)(x:Nat×Nat) :
  ∃a g f,(Builtin.append_ #[35,35] 35 #[ad b (Y L) c,ad m 1 1]).run prog (m.alloc (.cells #[V U x.1,V U x.2] 25))= .ok (ad (some ⟨a,0,none⟩) (Y L+1) g) f /\
   f.cell? d=some (ad b (Y L) c)/\f.frozen? ⟨d,0,none⟩=false /\
   (ay (f.setCell d (ad a (Y L+1) g)) d #[ad a (Y L+1) g]/\CX (f.setCell d (ad a (Y L+1) g)) a g (L++[x])/\a≠d/\(aG b a\/m.1.size<=a)/\Kept (λ j=>j<m.1.size/\j≠d/\¬aG b j) m (f.setCell d (ad a (Y L+1) g))):=by
 obtain⟨a,g,f,t,r,o,k⟩:=u.push v x;have y:=q.lt
 have p:a≠d:=by
  rcases o with h|h
  ·exact λ e=>w (e▸h)
  omega
 have n:=q.only k p.symm;have l:Only d f (f.setCell d (ad a (Y L+1) g)):=(Only.refl _ _).set 0 _;refine⟨a,g,f,t,n.cell 0 _ rfl,n.free 0,n.set 0 _,r.ae l.size (λ j i=>l.block j (r.lt i) (by rw[eY i];exact p)),p,o,⟨l.os.trans k.os,l.tape.trans k.tape,l.output.trans k.output,aT k.size l.size,λ j i=>?_⟩⟩
 have s:j≠a:=by
  rcases o with h|h
  ·exact λ e=>i.2.2 (e▸h)
  omega
 exact(l.block j (cB i.1 k.size) i.2.1).trans (k.block j i.1 s)
theorem AN(f:ay W d #[ad b (Y L) c])(r:CX W b c L)(A:¬aG b d)(J:Y L<=1000000)(a v:UInt64) :
  Calls prog 133 #[V a7 a.toNat,V a7 v.toNat,aq d] W λ e x=>e=aw (a6 true)/\∃h p,ay x d #[ad (some ⟨h,0,none⟩) (Y L+1) p]/\CX x (some ⟨h,0,none⟩) p (L++[fC a.toNat])/\h≠d/\(aG b h\/W.1.size<=h)/\Kept (λ j=>j<W.1.size/\j≠d/\¬aG b j) W x:=by
 have t:=Yu a W.drew;obtain⟨n,u⟩:∃n,n=a.toNat/4294967296:=⟨_,rfl⟩;obtain⟨o,w⟩:∃o,o=a.toNat%4294967296:=⟨_,rfl⟩;rw[<-u,<-w]at t;have y:=zH t;have B:=zH (show fC a.toNat=(n,o) by rw[u,w];rfl);have C:=f.drew.c0
 have HST:=zH (λ (m:World) (q:Below W.drew.1.size W.drew m)=>by
  have g:Below W W m:=(aU _ _).drew.trans q;have i:=CX.step (f.next g) (r.ae g.size (λ j l=>g.block j (r.lt l))) A J (n,o);exact cj ((f.next g).cell 0 _ rfl) (((f.next g).alloc (.cells #[V U n,V U o] 25)).cell 0 _ rfl) g i)
 clear f r A t u w
 go_enter func133,ntmps133
 go_wp2_with fail
 go_region_law (first
  | (refine UK.aM z rfl rfl rfl (by simp[Act.eval]) (by simp[Act.eval]) ?_)
  | (go_simp;go_at_call 52;refine y.out.mono ?_;rintro e m ⟨rfl,q⟩;obtain⟨b1,E,g,h,p,K,z,D,F,s⟩:=HST.out m q;replace s:=zH s;replace g:=zH g;clear q))
 all_goals
  clear C b1 D E F z HST y;go_wp2;go_ret;obtain⟨G,H,I,i,k⟩:=s.out;have f:=g.out;refine⟨rfl,h,p,G,by rw[B.out];exact H,I,?_,⟨k.os.trans f.os,k.tape.trans f.tape,k.output.trans f.output,aT f.size k.size,λ j l=>(k.block j ⟨cB l.1 f.size,l.2⟩).trans (f.block j l.1)⟩⟩;rcases i with i|i
  ·exact O i
  exact al (aT f.size i)
end
open DP (bU bi TT TH jo)
section
variable{h l2:List KV}
theorem Ba{N:DP.rZ}(t:TT h N (fX X))(r:jN h)(a:kY X):h.map (λ y=>y.1.toNat)=X.map (·.1):=by
 refine DP.zR (by unfold DP.Up;rw[List.pairwise_map];exact r) (DP.su a.ok.up) (λ x=>⟨λ c=>?_,λ c=>?_⟩)
 ·obtain⟨y,d,rfl⟩:=bL.1 c;exact YQ (t.some_ y d).1
 obtain⟨e,b,rfl⟩:=bL.1 c;have g:=a.ok.key e b
 obtain⟨y,d,f⟩:=t.all e.1 Z (by
  show qW (DP.jW X e.1)≠[];rw[DP.oU a.ok.up b];unfold qW;rw[aE (a.ne e b)];exact DP.si e.2)
 exact bL.2 ⟨y,d,f⟩
def Ii(E:Nat->Prop)(W:World)(h:List KV)(i:Nat)(a:Nat->Prop)(w:World):Prop:=
 ∃b c,ay w W #[ad b i c]/\CX w b c ((h.take i).map λ y=>fC y.1.toNat)/\(∀j,aG b j->a j/\W.1.size<j)/\(∀j,E j->a j)/\a W.1.size/\(∀j,a j->E j\/j=W.1.size\/aG b j)/\Kept E W w
theorem yd(v:DZ E W P D I z M H k A q C K root)(di:DI A ex u C K root (fX X) G)(hX:kY X)(hk:k+500000<900000000) :
  Calls prog 67 #[aq I] W λ f S=>∃b c,f=aw (a9 #[ad b (Y X) c,V U 0])/\CX S b c (X.map λ x=>fC x.1)/\(∀j,aG b j->W.1.size<=j)/\PZ (λ j=>E j\/aG b j) S P D A (k+400000)/\Kept E W S:=by
 obtain⟨h,l2,dC,ps2,p,hh,L,N,h3,th,hw⟩:=di;have R:=Ba th.one h3.t1.rise hX
 have aD:Y h=Y X:=by
  have:=congrArg List.length R;rw[bS,bS]at this;exact this
 have sS:=hX.few;obtain⟨w,h0⟩:∃w,w=W.alloc (.cells #[ad none 0 0] 35):=⟨_,rfl⟩;have h4:Below W W w:=h0▸(aU _ _).alloc (aH _) _;have ha:ay w W #[ad none 0 0]:=h0▸ay.new W _ _;have hc:w.1.size=W.1.size+1:=by rw[h0];simp
 have T:=v.pz.there;have h6:=v.pz.tab.lt
 have h7:DZ (λ j=>E j\/j=W.1.size) w P D I z M H k A q C K root:=v.wide h4 (λ j d=>by
  rcases d with d|d
  ·exact O d
  exact al ⟨Z,Z⟩) (λ j d=>O d)
 have h8:Ii E W h 0 (λ j=>E j\/j=W.1.size) w:=⟨none,0,ha,O ⟨rfl,rfl,rfl⟩,λ j d=>(by cases d),λ j d=>O d,al rfl,λ j d=>d.imp id O,v.pz.kept h4⟩
 have HW:=zH (Zf (O rfl) (J:=Ii E W h) (cap:=aq W) h7.one.tree Z Z h3.t1 h3.good h8 (λ i x t hj S hx J F o=>by
  obtain⟨b,c,B,l,g,m,r,yw,s⟩:=J;have hi:=(dz.1 hx).1;have h5:((h.take i).map λ y=>fC y.1.toNat).length=i:=by rw[bS,zt];omega
  have b':=B.ae (o.block _ r);have TN:=l.ae o.size (λ j d=>o.block j (g j d).1);have h9:=AN (by rw[h5];exact b') TN (λ f=>by have:=(g _ f).2;omega) (by rw[h5];omega) x.1 x.2;rw[h5]at h9;refine h9.mono ?_;rintro f w'' ⟨rfl,Q,c',b2,MB,hg,n,a⟩
  have hR:∀j,(j=W.1.size\/aG b j)->t j:=λ j d=>by
   rcases d with rfl|d
   ·exact r
   exact(g j d).1
  have hb:W.1.size<Q:=by
   rcases n with n|n
   ·exact(g Q n).2
   have:=b'.lt;omega
  have hp:=F.pz.over (W':=w'') (R:=λ j=>j=W.1.size\/aG b j) hR (λ f=>by
   rcases f with f|f
   ·omega
   ·have:=(g _ f).2;omega) a.size (λ j d hn=>a.block j ⟨d,λ f=>hn (O f),λ f=>hn (al f)⟩) (T:=λ j=>E j\/j=W.1.size\/aG Q j) (λ j d=>by
   rcases d with d|d|d
   ·exact O (m j d)
   ·exact O (d▸r)
   rw[eY d];rcases n with n|n
   ·exact O (g Q n).1
   exact al ⟨n,MB.lt rfl⟩)
  have nH:∀j,E j->j<S.1.size/\j≠W.1.size/\¬aG b j:=λ j d=>by
   have h1:=T j d;have h2:=b'.lt;exact⟨Z,Z,λ f=>by have:=(g j f).2;omega⟩
  refine⟨rfl,_,⟨hp,F.box.ae (a.block z (nH z v.m1)),O v.m1⟩,some ⟨Q,0,none⟩,c',b2,?_,λ j d=>?_,λ j d=>O d,al (O rfl),λ j d=>d,?_⟩
  ·have he:(h.take (i+1)).map (λ y=>fC y.1.toNat)=(h.take i).map (λ y=>fC y.1.toNat)++[fC x.1.toNat]:=by
    rw[List.take_succ_eq_append_getElem hi,dI,show h[i]=x from bf ((bK hi).symm.trans hx)];rfl
   rw[he];exact MB
  ·exact⟨al (al d),by rw[eY d];exact hb⟩
  exact(s.trans (o.mono m)).trans ⟨a.os,a.tape,a.output,a.size,λ j d=>a.block j (nH j d)⟩))
 have d2:=h7.bd.c2;have HH:=bp R aD T h6;clear v h3 th hw R h4 ha hc T h6 h7 h8;subst h0
 go_enter func67,ntmps67
 go_wp2_with fail
 refine HW.out.mono ?_;rintro f e ⟨rfl,t,w2,F,J⟩
 have TP:∃t,aP t e P D z C A (k+300000)/\Ii E W h (Y h) t e:=by
  rcases J with⟨rfl,J⟩|⟨⟨b,c,B,l,g,m,r,yw,s⟩,o⟩
  ·exact⟨t,F,J⟩
  exact⟨t,F,b,c,B.ae (o.block _ r),l.ae o.size (λ j d=>o.block j (g j d).1),g,m,r,yw,s.trans (o.mono m)⟩
 obtain⟨E1,MC,b,c,B,l,g,m,r,yw,s⟩:=TP;have b0:=B.c0;have HF:=br MC.pz l g m s;clear F J MC B l g m r yw s HW d2;go_wp2;go_ret2;obtain⟨pz,l,g,m,s⟩:=HF.out;obtain⟨R,aD,T,h6⟩:=HH.out;refine⟨b,c,rfl,?_,λ j d=>Nat.le_of_lt (g j d).2,(pz.up Z).less (λ j d=>?_),s⟩
 ·rw[dY]at l
  have f:h.map (λ y=>fC y.1.toNat)=X.map (λ x=>fC x.1):=by
   have:=congrArg (List.map fC) R;rw[List.map_map,List.map_map]at this;exact this
  rw[f]at l;exact l
 rcases d with d|d
 ·exact m j d
 exact(g j d).1
end
theorem z9(g:List Sb)(h:∀t∈g,Y t.l<=30*Y t.ps):(ik g).length<=30*(dP g).length:=by
 induction g with
 | nil=>simp[ik]
 | cons t r c=>
  have d:=h t (by simp);have a:=c (λ u b=>h u (by simp[b]));simp only[ik,dP,jq,zl]at a ⊢;omega
theorem Tr.few{f:Nat->Option Nd}(hf:∀p x,f p=some x->x.leaf=true->Y x.ag<=30):∀(d:Nat) (s:Sb),Tr f d s->Y s.l<=30*Y s.ps
 | 0,s,⟨k,l,b,c,e,a,h⟩=>by
  have:=hf _ _ b rfl;rw[a,h,List.length_zip];simp only[dF,List.length_nil]at this ⊢;omega
 | d+1,s,⟨j,g,b,c,e,a⟩=>by
  have:=z9 g (λ t i=>Tr.few hf d t (c.all t i).1);rw[e,a,dF];omega
theorem TI.few(h:TI A rt l ps):Y l<=30*Y ps:=by
 obtain⟨d,s,a,_,rfl,rfl⟩:=h.ex;exact Tr.few (λ p x c b=>((lI c).1 b).1) d s a
section
variable{L:List UInt64}
theorem UX.step(q:ay m d #[ad b (Y L) c])(u:NR m b c (az L))(w:¬aG b d)(v:Y L<1000000)(x:UInt64) :
  ∃a g f,(Builtin.append_ #[88,88] 88 #[ad b (Y L) c,ad m 1 1]).run prog (m.alloc (.cells #[V a7 (x.toNat:Int)] 77))= .ok (ad (some ⟨a,0,none⟩) (Y L+1) g) f /\
   f.cell? d=some (ad b (Y L) c)/\f.frozen? ⟨d,0,none⟩=false /\
   (ay (f.setCell d (ad a (Y L+1) g)) d #[ad a (Y L+1) g]/\NR (f.setCell d (ad a (Y L+1) g)) a g (az (L++[x]))/\a≠d/\(aG b a\/m.1.size<=a)/\Kept (λ j=>j<m.1.size/\j≠d/\¬aG b j) m (f.setCell d (ad a (Y L+1) g))):=by
 obtain⟨a,g,f,t,r,k,o⟩:=YD u v x;have y:=q.lt
 have p:a≠d:=by
  rcases o with h|h
  ·exact λ e=>w (e▸h)
  omega
 have n:=q.only k p.symm;have l:Only d f (f.setCell d (ad a (Y L+1) g)):=(Only.refl _ _).set 0 _;refine⟨a,g,f,t,n.cell 0 _ rfl,n.free 0,n.set 0 _,r.ae l.size (λ j i=>l.block j (r.lt i) (by rw[eY i];exact p)),p,o,⟨l.os.trans k.os,l.tape.trans k.tape,l.output.trans k.output,aT k.size l.size,λ j i=>?_⟩⟩
 have s:j≠a:=by
  rcases o with h|h
  ·exact λ e=>i.2.2 (e▸h)
  omega
 exact(l.block j (cB i.1 k.size) i.2.1).trans (k.block j i.1 s)
theorem ru(h:ay W d #[ad b (Y L) c])(k:NR W b c (az L))(m:¬aG b d)(p:Y L<1000000)(a v:UInt64) :
  Calls prog 120 #[V a7 a.toNat,V a7 v.toNat,aq d] W λ e i=>e=aw (a6 true)/\∃f g,ay i d #[ad (some ⟨f,0,none⟩) (Y L+1) g]/\NR i (some ⟨f,0,none⟩) g (az (L++[v]))/\f≠d/\(aG b f\/W.1.size<=f)/\Kept (λ j=>j<W.1.size/\j≠d/\¬aG b j) W i:=by
 have q:=h.c0;obtain⟨f,g,t,o,r,s,l⟩:=UX.step h k m p v;have n:=zH l;clear h k m l
 go_enter func120,ntmps120
 go_wp2_with (at_builtin;refine UK.jm o rfl rfl rfl rfl rfl ?_)
 go_wp2;go_ret
 exact⟨rfl,f,g,n.out⟩
def Ij(E:Nat->Prop)(W:World)(l:List KV)(i:Nat)(a:Nat->Prop)(w:World):Prop:=
 ∃b c,ay w W #[ad b i c]/\NR w b c (az ((l.take i).map (·.2)))/\(∀j,aG b j->a j/\W.1.size<j)/\(∀j,E j->a j)/\a W.1.size/\(∀j,a j->E j\/j=W.1.size\/aG b j)/\Kept E W w
theorem jt(h:aP E W P D T rt A k)(hl:Y l<=2000)(hk:k+500000<900000000)(ti:TI A rt l ps)(m:A.Good) :
  Calls prog 119 #[aq T,V a7 0,.func (.func 120) #[] #[aq W]] (W.alloc (.cells #[ad none 0 0] 88)) λ f s=>f=aw (V U 0)/\∃b c,ay s W #[ad b (Y l) c]/\NR s b c (az (l.map (·.2)))/\PZ (λ j=>E j\/j=W.1.size\/aG b j) s P D A (k+300000)/\(∀j,aG b j->W.1.size<j)/\Kept E W s:=by
 obtain⟨q,z⟩:∃q,q=W.alloc (.cells #[ad none 0 0] 88):=⟨_,rfl⟩;have K:Below W W q:=z▸(aU _ _).alloc (aH _) _;have h3:ay q W #[ad none 0 0]:=z▸ay.new W _ _;have h9:q.1.size=W.1.size+1:=by rw[z];simp
 rw[<-z];have h6:=h.pz.there;have ha:=h.pz.tab.lt;have I:=h.pz.kept K
 have h5:aP (λ j=>E j\/j=W.1.size) q P D T rt A k:=⟨h.pz.wide K (λ j d=>by
  rcases d with d|d
  ·exact O d
  exact al ⟨Z,Z⟩),h.box.ae (I.block T h.mem),O h.mem⟩
 have h0:Ij E W l 0 (λ j=>E j\/j=W.1.size) q:=⟨none,0,h3,O ⟨rfl,rfl,rfl⟩,λ j d=>(by cases d),λ j d=>O d,al rfl,λ j d=>d.imp id O,I⟩
 have R:=Zf (al rfl) (J:=Ij E W l) (cap:=aq W) h5 hl Z ti m h0 (λ i x B hb s N v y n=>by
  obtain⟨b,c,t,r,g,p,o,G,w⟩:=v;have L:=(dz.1 N).1;have F:((l.take i).map (·.2)).length=i:=by rw[bS,zt];omega
  have C:=t.ae (n.block _ o);have S:=r.ae n.size (λ j d=>n.block j (g j d).1);have J:=ru (L:=(l.take i).map (·.2)) (by rw[F];exact C) S (λ f=>by have:=(g _ f).2;omega) (by rw[F];omega) x.1 x.2;rw[F]at J;refine J.mono ?_;rintro f w'' ⟨rfl,u,c',b2,H,h8,m,a⟩
  have hR:∀j,(j=W.1.size\/aG b j)->B j:=λ j d=>by
   rcases d with rfl|d
   ·exact o
   exact(g j d).1
  have h4:W.1.size<u:=by
   rcases m with m|m
   ·exact(g u m).2
   have:=C.lt;omega
  have hp:=y.pz.over (W':=w'') (R:=λ j=>j=W.1.size\/aG b j) hR (λ f=>by
   rcases f with f|f
   ·omega
   ·have:=(g _ f).2;omega) a.size (λ j d M=>a.block j ⟨d,λ f=>M (O f),λ f=>M (al f)⟩) (T:=λ j=>E j\/j=W.1.size\/aG u j) (λ j d=>by
   rcases d with d|d|d
   ·exact O (p j d)
   ·exact O (d▸o)
   rw[eY d];rcases m with m|m
   ·exact O (g u m).1
   exact al ⟨m,H.lt rfl⟩)
  have Q:∀j,E j->j<s.1.size/\j≠W.1.size/\¬aG b j:=λ j d=>by
   have h1:=h6 j d;have h2:=C.lt;exact⟨Z,Z,λ f=>by have:=(g j f).2;omega⟩
  refine⟨rfl,_,⟨hp,y.box.ae (a.block T (Q T h.mem)),O h.mem⟩,some ⟨u,0,none⟩,c',b2,?_,λ j d=>?_,λ j d=>O d,al (O rfl),λ j d=>d,?_⟩
  ·have h7:(l.take (i+1)).map (·.2)=(l.take i).map (·.2)++[x.2]:=by
    rw[List.take_succ_eq_append_getElem L,dI,show l[i]=x from bf ((bK L).symm.trans N)];rfl
   rw[h7];exact H
  ·exact⟨al (al d),by rw[eY d];exact h4⟩
  exact(w.trans (n.mono p)).trans ⟨a.os,a.tape,a.output,a.size,λ j d=>a.block j (Q j d)⟩)
 refine R.mono ?_;rintro f e ⟨rfl,B,w2,y,v⟩
 have X:Ij E W l (Y l) B e:=by
  rcases v with⟨rfl,v⟩|⟨⟨b,c,t,r,g,p,o,G,w⟩,n⟩
  ·exact v
  exact⟨b,c,t.ae (n.block _ o),r.ae n.size (λ j d=>n.block j (g j d).1),g,p,o,G,w.trans (n.mono p)⟩
 obtain⟨b,c,t,r,g,p,o,G,w⟩:=X;rw[dY]at r;refine⟨rfl,b,c,t,r,y.pz.less (λ j d=>?_),λ j d=>(g j d).2,w⟩;rcases d with d|rfl|d
 ·exact p j d
 ·exact o
 exact(g j d).1
end
open DP (rZ TT TH bV)
section
variable{t w:Nat}{o r v:List Nat}{lo:List KV}
def FL(A:AP)(ex:List Nat)(u:Nat->List UInt8)(t w root:Nat)(l lo:List KV)(F:Nat->List UInt8)(N:List HT)(n:Nat):Prop:=
 ∃o r p v L a,DM A ex u t w root l lo o r p v L a/\(∀b,b∈a↔b∈N/\bP b∉(l.take n).map λ y=>y.2.toNat)/\wt a+tot (l.take n) F=wt N
theorem qq(b:l[n]?=some y):tot (l.take (n+1)) F=tot (l.take n) F+wS (F y.1.toNat):=by
 have a:=(dz.1 b).1;unfold tot;rw[List.take_succ_eq_append_getElem a,show l[n]=y from bf ((bK a).symm.trans b),dI,List.sum_append];simp
theorem FL.step(h:FL A ex u t w root l lo F N n)(P:TH l lo (pR N) F G)(s:l[n]?=some y) :
  ∃o r p v L c z,DM A ex u t w root l lo o r p v L (c::z)/\bP c=y.2.toNat/\c.s=F y.1.toNat /\
   ∀B rp' x,A.Reach B->HI (B.fJ (fo ex o r)) root p rp' x z->pQ (fo ex o r) A.c B->Y z<=1000000->FL B ex u t w root l lo F N (n+1):=by
 obtain⟨o,r,p,v,L,i,h6,C,hw⟩:=h;have D:=(dz.1 s).1;have I:l[n]=y:=bf ((bK D).symm.trans s);have h4:=dU s;obtain⟨X,h2,_⟩:=P.one.some_ y h4;obtain⟨c,ht,e⟩:=bL.1 h2;have k:bP c=y.2.toNat:=(Prod.mk.inj e).1;have J:c.s=F y.1.toNat:=(Prod.mk.inj e).2
 have h1:c∈i:=(C c).2 ⟨ht,λ d=>by
  obtain⟨h7,hz,h5⟩:=bL.1 d;obtain⟨j,T,K⟩:=fU hz;rw[zt]at T;rw[List.getElem_take]at K;have:=jP.1 P.inl j n Z D Z;rw[K,I]at this;exact this (mV.1 (h5.trans k))⟩
 obtain⟨a,b,Q⟩:=List.append_of_mem h1;have q:i.Perm (c::(a++b)):=by rw[Q];exact List.perm_middle
 have H:=h6.perm q;refine⟨o,r,p,v,L,c,a++b,H,k,J,λ B rp' x hr S hf W=>?_⟩;refine⟨o,r,p,rp',x,a++b,H.heap hr S hf W,λ g=>?_,?_⟩
 ·have R:=H.hi.Ac
  have h0:(l.take (n+1)).map (λ y=>y.2.toNat)=(l.take n).map (λ y=>y.2.toNat)++[y.2.toNat]:=by
   rw[List.take_succ_eq_append_getElem D,I,dI];rfl
  rw[h0]
  constructor
  ·intro M;have E:g∈i:=q.mem_iff.2 (cK _ M);obtain⟨f,m⟩:=(C g).1 E;refine⟨f,λ d=>?_⟩;rcases dm.1 d with d|d
   ·exact m d
   exact R g M ((bu.1 d).trans k.symm)
  rintro⟨f,m⟩;have E:g∈i:=(C g).2 ⟨f,λ d=>m (fw _ d)⟩;rcases aN.1 (q.mem_iff.1 E)with rfl|h3
  ·exact absurd (lL _ (bu.2 k)) m
  exact h3
 have f:=Ti q;rw[ze,J]at f;rw[qq s,D8 X];omega
theorem FL.done(h:FL A ex u t w root l lo F N (Y l))(d:TH l lo (pR N) F G)(R:wt N=tot l F+tot lo G) :
  A.Good/\∃o,TI A t l o/\∀B,mD A B t [] o->DI B ex u t w root (λ _=>[]) G/\A.Reach B:=by
 obtain⟨o,r,p,v,L,g,m,i,J⟩:=h;rw[dY]at i J;refine⟨m.good,o,m.t1,λ B x=>?_⟩;obtain⟨ps',P,Q⟩:=m.drop x;refine⟨⟨[],lo,ps',r,p,v,L,g,P,⟨⟨λ y c=>(by cases c),λ k _ h=>absurd rfl h⟩,⟨λ y c=>?_,d.two.all⟩,λ y c=>(by cases c),List.Pairwise.nil,d.GL,?_⟩,?_⟩,Q⟩
 ·obtain⟨n,q,s⟩:=d.two.some_ y c;obtain⟨f,I,e⟩:=bL.1 q;have j:bP f=y.2.toNat:=(Prod.mk.inj e).1;refine⟨n,bL.2 ⟨f,(i f).2 ⟨I,λ H=>?_⟩,e⟩,s⟩;obtain⟨z,K,M⟩:=bL.1 H;exact d.xU z K y c (mV.1 (M.trans j))
 ·unfold pR;rw[List.pairwise_map];exact m.hi.inj.imp_of_mem (λ {a b} C E D e=>D (m.hi.num C E e))
 show wt g=0+tot lo G;omega
theorem n7(m:DM A ex u t w root l lo o r p v L N):FL A ex u t w root l lo F N 0:=
 ⟨o,r,_,_,_,N,m,λ b=>⟨λ h=>⟨h,λ a=>by cases a⟩,λ h=>h.1⟩,rfl⟩
end
