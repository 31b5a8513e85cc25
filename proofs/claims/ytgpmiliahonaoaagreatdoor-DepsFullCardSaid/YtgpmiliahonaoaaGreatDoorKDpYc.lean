/- Facts on texts on pages. -/
import Derived.Test.YtgpmiliahonaoaaGreatDoorKDqKc
set_option maxRecDepth 100000
set_option maxHeartbeats 8000000
set_option linter.unusedSimpArgs false
open Go.Value renaming bool->a6,int->V,pointer->aq,slice->ad,string->a8,tuple->a9
open Go.IntKind renaming i64->U,u64->a7
open Go.Ending renaming returned->aw
open Or renaming inl->O,inr->al
open List renaming length->Y
open Go.Proofs.Tryz
namespace Go.Proofs.YtgpmiliahonaoaaGreatDoor
open Go.RowKit Go.BigFrame
open UK (str aF nth Only Row ay)
open DP (Rc bU aS jc eT gm TH bV)
variable{rl l:List Rc}{r:List bU}{q:Rc}{ps:List (UInt64×Rc)}
variable{E T S:Nat->Prop}{W W' g w:World}{P:Program}{k r1 r2 root pg n N Q j M d C:Nat}{K ex dC ps2 rp K':List Nat}{c Ec F G:Nat->List UInt8}{A B:AP}{l1 l2:List KV}{L:Nat->List (List UInt8)}{X:List HT}{b:UInt64}{ao z:Option Addr}{es:List EM}{s:List UInt8}{e:Ending}{v:Value}{ks:List UInt64}
section
variable{o:World}{P D Dp T H I rt K c:Nat}{cell:UInt64}
theorem sJ.up{J:Nat}{s:List UInt8}{e:Ending}(h:sJ E W W' P D J A ex dC Ec r1 r2 root l2 ps2 X F G b s e)(a:J<=K):sJ E W W' P D K A ex dC Ec r1 r2 root l2 ps2 X F G b s e:=
 h.imp (λ h=>⟨h.1,h.2.up a⟩) (λ h=>⟨h.1,h.2.up a⟩)
theorem sJ.err(h:sJ E W W' P D K A ex dC Ec r1 r2 root l2 ps2 X F G b s e):∃a:Int,e=aw (V U a)/\sJ E W W' P D K A ex dC Ec r1 r2 root l2 ps2 X F G b s (aw (V U a)):=by
 rcases h with⟨rfl,h⟩|⟨rfl,h⟩
 ·exact⟨0,rfl,O ⟨rfl,h⟩⟩
 exact⟨6,rfl,al ⟨rfl,h⟩⟩
theorem EX.Hg(h:EX N W ao c es)(a:n<Y es):∃g,ao=some ⟨g,0,none⟩/\Row W g (2*c) (fl es):=by
 rcases h.row with⟨_,b,_⟩|⟨g,e,r⟩
 ·rw[b]at a;cases a
 exact⟨g,e,r⟩
theorem Jy(h:LZ E W P D Dp T H k A r1 root)(hd:W.cell? (Dp,3)=some (aq T))(h3:DM A ex Ec r1 r2 root l1 l2 dC ps2 pg rp L X)(th:TH l1 l2 (pR X) F G)(b cell:UInt64)(x:F b.toNat=gm r)(N:eT r)(wP:(gm r).length<=400000)(hr:RX W z Q rl)(h5:∀j,aG z j->E j)(hz:Y rl<=1000)(h4:eT (aS cell.toNat rl r))(uo:(gm (aS cell.toNat rl r)).length<=400000)(hX:Y X<1000000)(hk:k+(2*(gm r).length+(gm (aS cell.toNat rl r)).length+2400)<900000000) :
  Calls prog 42 #[aq Dp,V a7 b.toNat,V a7 cell.toNat,ad z (Y rl) Q] W λ e ha=>sJ E W ha P D (k+(2*(gm r).length+(gm (aS cell.toNat rl r)).length+2400)) A ex dC Ec r1 r2 root l2 ps2 X F G b (gm (aS cell.toNat rl r)) e:=by
 have uq:=zH (PP h h3 th b (by rw[x];omega));rw[x]at uq;have LU:=zH (λ w=>Yt w r N Z);have H0:=bT h hd h3 th x N hr h5 h4;have HK:=bp wP uo hX hk;clear h h3 th x N hr h5 h4 wP uo hX hk
 go_enter func42,ntmps42
 go_wp2_with fail
 refine uq.out.mono ?_;rintro e g ⟨n,rfl,h8,p1,I⟩;have sK:=bm h8 p1 I;clear uq h8 p1 I
 go_wp2_with fail
 refine(LU.out g).mono ?_;rintro e w2 ⟨ao,c,es,rfl,d,hE,h6⟩;obtain⟨h,hp,h3,th,x,N,hr,h5,h4⟩:=H0.out;have u:FD es:=FD.of (by rw[d];exact N.up);have iH:Y es<=16000:=by have:=N.few;rw[<-d,bS]at this;exact this
 have Hl:=zH (Gv hE u Z cell);have HL2:=bp d hE h6 u;clear LU d hE h6 u h hp h3 th x N hr h5 h4 hd
 go_wp2_with fail
 refine Hl.out.mono ?_;rintro e J ⟨i,rfl,p,he⟩;obtain⟨d,hE,h6,u⟩:=HL2.out;obtain⟨h8,p1,I⟩:=sK.out;obtain⟨h,hd,h3,th,x,N,hr,h5,h4⟩:=H0.out;obtain⟨wP,uo,hX,hk⟩:=HK.out;have hq:=p.le;have f:Below g g J:=h6.trans (he.mono h6.size);have t:EX 0 J ao c es:=(hE.next he).less (aR _);have h7:∀j,aG z j->j<g.1.size:=λ j y=>cB (hr.lt y) I.size;have B:RX J z Q rl:=hr.ae (aT I.size f.size) (λ j y=>(f.block j (h7 j y)).trans (I.block j (h5 j y)));have S:∀j,aG z j->0<=j/\¬aG ao j:=λ j y=>⟨aR _,λ h2=>by have:=hE.new j h2;have:=h7 j y;omega⟩;have h1:=h.of p1 I;have hi:g.cell? (Dp,3)=some (aq T):=by rw[<-hd];exact eB (I.block Dp h.md)
 have HT:Hid (∀(o:World) (JJ:Option Addr) (c4:Nat) (PW:List EM),Below g g o->EX 0 o JJ c4 PW->PW.map jg=aS cell.toNat rl r->o.drew.cell? (Dp,3)=some (aq T)/\Calls prog 101 #[ad JJ (Y PW) c4] o.drew λ e w5=>e=aw (a8 (str (gm (aS cell.toNat rl r))))/\w5.cell? (Dp,3)=some (aq T) /\
   Calls prog 43 #[aq Dp,aq T,V a7 b.toNat,V a7 (n:Nat),a8 (str (gm (aS cell.toNat rl r)))] w5 λ e ha=>∃er:Int,e=aw (V U er)/\sJ E W ha P D (k+(2*(gm r).length+(gm (aS cell.toNat rl r)).length+2400)) A ex dC Ec r1 r2 root l2 ps2 X F G b (gm (aS cell.toNat rl r)) (aw (V U er))):=λ o JJ c4 PW hb K Te=>by
  obtain⟨ho,hu⟩:=AE h1 hi h3 th h8 hb K Te h4 uo hX (by rw[x]at *;omega) I;refine⟨ho,hu.mono ?_⟩;rintro e w5 ⟨q1,q2,q3⟩;exact⟨q1,q2,q3.mono λ e ha R=>(R.up (by rw[x];omega)).err⟩
 have M:=hE.new;clear h hd h3 th x N h4 h8 p1 I hE h6 he h5 hr h1 hi wP uo hX hk HK Hl;by_cases a:uX es cell i=true
 ·rw[a];obtain⟨x0,hx,hn⟩:=Tu a;have DF:i<Y es:=(dz.1 hx).1;obtain⟨hc,rfl,hh⟩:=t.Hg DF;have hj:g.1.size<=hc:=M hc rfl;by_cases h0:rl=[]
  ·subst h0;have LW:=zH (la hh Z DF);have Du:=br t f p d a;clear t f p d hh S B h7 M u HL2 sK H0 hx hn a
   go_wp2_with fail
   refine LW.out.mono ?_;rintro e o ⟨rfl,r4,C⟩;obtain⟨t,f,p,d,a⟩:=Du.out
   have K:EX 0 o hc c (es.take i++es.drop (i+1)):=t.turn ⟨cell,none,0,[]⟩ (O ⟨rfl,rfl,rfl⟩) (λ _ hb=>by cases hb) (λ ht s=>O (by
    rcases dm.1 s with s|s
    ·exact jw s
    exact jQ s)) r4 C (O rfl) (aR _)
   have v:=HT.out o _ c _ (f.trans (C.below f.size hj)) K (by rw[mO p a,d]);rw[show(es.take i++es.drop (i+1)).length=Y es-1 by rw[zl,zt,zd];omega]at v;clear t f p d a K r4 C HT Du LW;obtain⟨d3,m⟩:=v;replace m:=zH m
   go_wp2_with fail
   go_region_with (first
    | (go_at_call 101;refine m.out.mono ?_;rintro e w5 ⟨rfl,d5,l⟩;replace l:=zH l)
    | (go_at_call 43;refine l.out.mono ?_;rintro e w6 ⟨er,rfl,q⟩;replace q:=zH q))
   all_goals
    clear m l;go_wp2;go_ret;exact q.out
  have hs:¬((Y rl:Int)=0):=by
   have:=List.length_pos_iff.2 h0;omega
  obtain⟨d1,f1,K,C⟩:=t.store hx B (λ j y=>⟨aR _,λ e=>(S j y).2 (e▸rfl)⟩);have v:=HT.out _ _ c _ (f.trans (C.below f.size hj)) K (by rw[Af p a hx h0,d]);rw[aV]at v;have hw:(i:Int)<Y es:=Z
  clear t f p d hh S B h7 M u HL2 sK H0 hx hn a K C HT;obtain⟨d3,m⟩:=v;replace m:=zH m
  go_wp2_with fail
  go_region_with (first
   | (go_at_call 101;refine m.out.mono ?_;rintro e w5 ⟨rfl,d5,l⟩;replace l:=zH l)
   | (go_at_call 43;refine l.out.mono ?_;rintro e w6 ⟨er,rfl,q⟩;replace q:=zH q))
  all_goals
   clear m l;go_wp2;go_ret;exact q.out
 replace a:uX es cell i=false:=by
  cases R:uX es cell i
  ·rfl
  exact absurd R a
 rw[a];by_cases h0:rl=[]
 ·subst h0;have v:=HT.out J _ c _ f t (by rw[qB p u a,d]);clear t f p d S B h7 M u HL2 sK H0 a HT;obtain⟨d3,m⟩:=v;replace m:=zH m
  go_wp2_with fail
  go_region_with (first
   | (go_at_call 101;refine m.out.mono ?_;rintro e w5 ⟨rfl,d5,l⟩;replace l:=zH l)
   | (go_at_call 43;refine l.out.mono ?_;rintro e w6 ⟨er,rfl,q⟩;replace q:=zH q))
  all_goals
   clear m l;go_wp2;go_ret;exact q.out
 have hs:¬((Y rl:Int)=0):=by
  have:=List.length_pos_iff.2 h0;omega
 have hy:(0:Int)<Y rl:=by
  have:=List.length_pos_iff.2 h0;omega
 have hv:=ay.new J (kC ⟨cell,z,Q,rl⟩).toArray 104;have iO:Below J J (J.alloc (.cells (kC ⟨cell,z,Q,rl⟩).toArray 104)):=(aU _ _).alloc (aH _) _;have yj:=t.next iO;have h9:(J.alloc (.cells (kC ⟨cell,z,Q,rl⟩).toArray 104)).1.size=J.1.size+1:=by simp
 have LX:=zH (rm yj.row Z hq ⟨cell,z,Q,rl⟩ hv (λ R=>by have:=t.row.lt R;omega));have Du:=bH yj f p d a B S u iO h9 M;clear t yj f p d S B h7 u M HL2 sK H0 a hv iO h9
 go_wp2_with fail
 refine LX.out.mono ?_;rintro e o ⟨g4,c4,rfl,r4,C,hg⟩;obtain⟨yj,f,p,d,a,B,S,u,iO,h9,M⟩:=Du.out
 have K:EX 0 o g4 c4 (es.take i++(⟨cell,z,Q,rl⟩:EM)::es.drop i):=yj.turn ⟨cell,z,Q,rl⟩ (B.ae iO.size (λ j y=>iO.block j (B.lt y))) S (λ ht s=>by
  rcases dm.1 s with s|s
  ·exact O (jw s)
  rcases aN.1 s with rfl|s
  ·exact al rfl
  exact O (jQ s)) r4 C hg (aR _)
 have wQ:=f.trans (iO.mono f.size)
 have hl:g.1.size<=g4:=by
  rcases hg with R|R
  ·exact M _ R
  exact aT wQ.size R
 have v:=HT.out o _ c4 _ (wQ.trans (C.below wQ.size hl)) K (by rw[sd p u a h0,d]);obtain⟨nn,hm⟩:∃nn,nn=(es.take i++(⟨cell,z,Q,rl⟩:EM)::es.drop i).length:=⟨_,rfl⟩;rw[<-hm]at v ⊢;clear yj f p d a K r4 C HT Du LX B S u iO h9 M wQ hg hl hm;obtain⟨d3,m⟩:=v;replace m:=zH m
 go_wp2_with fail
 go_region_with (first
  | (go_at_call 101;refine m.out.mono ?_;rintro e w5 ⟨rfl,d5,l⟩;replace l:=zH l)
  | (go_at_call 43;refine l.out.mono ?_;rintro e w6 ⟨er,rfl,q⟩;replace q:=zH q))
 all_goals
  clear m l;go_wp2;go_ret;exact q.out
end
open Go.RowKit
open UK (str aF nth Only Row ay w32)
open DP (rZ TT TH bV)
theorem E4:AP.Moves (λ B=>B.op=none):=⟨λ X p s h a=>by show(X.keep p).op=none;unfold AP.keep;rw[h];rfl,λ X p h a=>by unfold AP.keep;rw[h];rfl,λ X h hf=>by show X.op.map _=none;rw[h];rfl,λ X p h a=>by unfold AP.give;rw[h]⟩
theorem EG(m:Int):AP.Moves (λ B=>B.aA=m):=⟨λ X p s h a=>h,λ X p h a=>h,λ X h hf=>h,λ X p h a=>by
 unfold AP.give
 cases X.op<;>exact h⟩
theorem AP.Reach.Aj(h:A.Reach B)(e:A.op=none):B.op=none:=h _ E4 e
theorem AP.Reach.ni(h:A.Reach B):B.aA=A.aA:=h _ (EG A.aA) rfl
theorem AP.Good.Ho(g:A.Good)(e:A.op=none){l:List Nat}(c:∀p,A.Has p->p∈l):A.aA<=(A.aQ:Int)+Y l+1:=by
 have b:A.bO=[]:=by unfold AP.bO;rw[e]
 have a:=(List.nodup_range' .. :(List.range' 1 (A.au-1)).Nodup).length_le_of_subset (l₂:=l++A.free) (λ x d=>by
  rw[List.mem_range'_1]at d;rw[dm];by_cases hf:x∈A.free
  ·exact al hf
  refine O (c x ⟨Z,Z,hf,?_⟩);rw[b];exact List.not_mem_nil)
 rw[zl,List.length_range']at a;have:=g.one;have:=g.aA;unfold AP.aQ;omega
theorem ot(d:∀t,t∈X->qX c t):(oK X).length+Y X<=wt X:=by
 induction X with
 | nil=>exact aH _
 | cons t X f=>
  have g:=f (λ u e=>d u (cK _ e));have a:=d t (bI ..);rw[Cg,ze,zl,dF];unfold qX at a;unfold wT
  split at a
  ·rename_i b
   rw[be b,a,List.length_nil];omega
  rename_i b
  have h:=a.few;rw[aE b];omega
theorem HI.yl{A:Pg}(h:HI A root pg rp L X):Y rp+(oK X).length<=wt X+1:=by
 have g:=(bN.1 (eD.1 h.pages).2).1
 have f:=g.length_le_of_subset (l₂:=pg::X.map HT.pg) (λ p d=>by
  by_cases e:p=pg
  ·rw[e];exact bI ..
  have i:=h.used p d e;rcases(h.recs p d).2 with c|c
  ·exact absurd c i
  obtain⟨t,a,b,_⟩:=h.at_ p d _ c;exact cK _ (bL.2 ⟨t,a,b⟩))
 rw[dF,bS]at f;have:=ot h.long;omega
section
variable{R:AP}{m:Nat}{v0:List HT}
theorem u4(f:A.Good)(e:A.op=none)(b:HI (A.fJ (fo ex dC ps2)) root pg rp L X):(A.aA:Int)<=A.aQ+Y ex+Y dC+Y ps2+wt X+3:=by
 have d:=f.Ho e (l:=(ex++(dC++ps2))++(root::(rp++oK X))) (λ p c=>by
  rw[dm,<-b.has p];by_cases a:fo ex dC ps2 p
  ·left
   unfold fo at a;rw[dm,dm];exact a
  exact al ⟨c,a⟩)
 have:=b.yl;rw[zl,zl,zl,dF,zl]at d;omega
theorem DM.Mf(h:DM A ex Ec r1 r2 root l1 l2 dC ps2 pg rp L X)(n:A.aA<=3900):Y X<1000000:=by
 have j:(X.map bP).Nodup:=by
  rw[List.nodup_iff_pairwise_ne,List.pairwise_map];refine h.hi.inj.imp_of_mem (λ {a b} f i g e=>g (h.hi.num f i e))
 have d:=j.length_le_of_subset (l₂:=List.range 998400) (λ x k=>by
  obtain⟨t,c,rfl⟩:=bL.1 k;have a:=(h.hi.rF (h.hi.each t c).1).1;have b:=h.hi.slot c;have l:t.pg<A.au:=a.2.1;have m:=h.good.aA;rw[ky];unfold bP;omega)
 rw[bS,List.length_range]at d;omega
end
theorem Yx(h:Nat->Nat)(K:List Nat):(K.map h).sum=((K.filter λ k=>decide (h k≠0)).map h).sum:=by
 induction K with
 | nil=>rfl
 | cons k K a=>
  rw[jr,List.sum_cons,List.filter_cons,a];by_cases e:h k=0
  ·simp[e]
  simp[e]
theorem Yy{h:Nat->Nat}(e:K.Nodup)(f:K'.Nodup)(c:∀k,h k≠0->(k∈K↔k∈K')):(K.map h).sum=(K'.map h).sum:=by
 rw[Yx h K,Yx h K']
 have d:(K.filter λ k=>decide (h k≠0)).Perm (K'.filter λ k=>decide (h k≠0)):=(List.perm_ext_iff_of_nodup (e.filter _) (f.filter _)).2 (λ k=>by
  rw[List.mem_filter,List.mem_filter]
  constructor
  ·rintro⟨a,b⟩;exact⟨(c k (of_decide_eq_true b)).1 a,b⟩
  rintro⟨a,b⟩;exact⟨(c k (of_decide_eq_true b)).2 a,b⟩)
 exact(d.map _).sum_nat
def tot(l:List KV)(F:Nat->List UInt8):Nat:=(l.map λ y=>wS (F y.1.toNat)).sum
theorem PX{l:List KV}(h:jN l):(l.map λ y=>y.1.toNat).Nodup:=by
 rw[List.nodup_iff_pairwise_ne,List.pairwise_map];exact h.imp (λ {a b} c e=>Z)
theorem Yz(l:List KV)(F:Nat->List UInt8):tot l F=((l.map λ y=>y.1.toNat).map λ k=>wS (F k)).sum:=by
 unfold tot;rw[List.map_map];rfl
theorem Y0(h:wS s≠0):s≠[]:=λ e=>h (by rw[e];rfl)
theorem oj{l g:List KV}{X x:rZ}(r:jN l)(B:jN g)(t:TT l X F)(C:TT g x (bV F k s))(q:k<2^64):tot g (bV F k s)+wS (F k)=tot l F+wS s:=by
 have u:=PX r;have A:=PX B
 have i:∀(m:List KV) (j:Nat),j∈m.map (λ y=>y.1.toNat)->j<2^64:=λ m j d=>by
  obtain⟨y,_,rfl⟩:=bL.1 d;exact y.1.toNat_lt
 rw[Yz,Yz]
 have o:∀j,j<2^64->F j≠[]->j∈l.map λ y=>y.1.toNat:=λ j d f=>by
  obtain⟨y,n,e⟩:=t.all j d f;exact bL.2 ⟨y,n,e⟩
 have p:∀j,j<2^64->bV F k s j≠[]->j∈g.map λ y=>y.1.toNat:=λ j d f=>by
  obtain⟨y,n,e⟩:=C.all j d f;exact bL.2 ⟨y,n,e⟩
 have z:=i g;replace i:=i l;generalize l.map (λ y=>y.1.toNat)=K at *;generalize g.map (λ y=>y.1.toNat)=K' at *;have v:(k::K.filter λ j=>decide (j≠k)).Nodup:=eD.2 ⟨λ h=>by simp at h,u.filter _⟩;have w:∀j,j≠k->bV F k s j=F j:=λ j d=>aE d
 have a:=Yy (h:=λ j=>wS (F j)) u v (λ j d=>by
  have f:=Y0 d;rw[aN,List.mem_filter]
  constructor
  ·intro h;by_cases e:j=k
   ·exact O e
   exact al ⟨h,decide_eq_true e⟩
  rintro(e|e)
  ·subst e;exact o j q f
  exact e.1)
 have b:=Yy (h:=λ j=>wS (bV F k s j)) A v (λ j d=>by
  have f:=Y0 d;rw[aN,List.mem_filter]
  constructor
  ·intro h;by_cases e:j=k
   ·exact O e
   exact al ⟨o j (z j h) (by rw[w j e]at f;exact f),decide_eq_true e⟩
  rintro(e|e)
  ·subst e;exact p j q f
  exact p j (i j e.1) f)
 rw[a,b,jr,jr,List.sum_cons,List.sum_cons];have c:(K.filter λ j=>decide (j≠k)).map (λ j=>wS (bV F k s j))=(K.filter λ j=>decide (j≠k)).map (λ j=>wS (F j)):=List.map_congr_left (λ j d=>by rw[w j (of_decide_eq_true (List.mem_filter.1 d).2)]);rw[c,show bV F k s k=s from be rfl];omega
section
variable{P D Dp T T1 T2 H rt q m K:Nat}{key:UInt64}
def DL(A:AP)(ex:List Nat)(Ec:Nat->List UInt8)(r1 r2 root:Nat)(F G:Nat->List UInt8)(l1:List KV):Prop:=
 ∃l2 dC ps2 pg rp L X,DM A ex Ec r1 r2 root l1 l2 dC ps2 pg rp L X/\TH l1 l2 (pR X) F G/\wt X=tot l1 F+tot l2 G
def DI(A:AP)(ex:List Nat)(Ec:Nat->List UInt8)(r1 r2 root:Nat)(F G:Nat->List UInt8):Prop:=∃l1,DL A ex Ec r1 r2 root F G l1
theorem DI.swap(h:DI A ex Ec r1 r2 root F G):DI A ex Ec r2 r1 root G F:=by
 obtain⟨l1,l2,dC,ps2,pg,rp,L,X,a,b,c⟩:=h;exact⟨l2,l1,ps2,dC,pg,rp,L,X,a.swap,b.swap,Z⟩
theorem DI.good(h:DI A ex Ec r1 r2 root F G):A.Good:=by
 obtain⟨l1,l2,dC,ps2,pg,rp,L,X,a,b,c⟩:=h;exact a.good
def vJ(A:AP)(ex:List Nat)(F G:Nat->List UInt8)(s:List UInt8):Prop:=
 ∃(a:AP) (l1 l2:List KV),A.Reach a/\Low a (Y s)/\jN l1/\jN l2/\(∀y∈l1,F y.1.toNat≠[])/\(∀y∈l2,G y.1.toNat≠[])/\(A.op=none->14*A.aA<=14*((a.aQ+Y ex+tot l1 F+tot l2 G+wS s+3:Nat):Int)+Y l1+Y l2+28)
theorem vJ.swap(h:vJ A ex F G s):vJ A ex G F s:=by
 obtain⟨j,l1,l2,a,b,c,d,f,g,i⟩:=h;exact⟨j,l2,l1,a,b,d,c,g,f,λ e=>by have:=i e;omega⟩
theorem yg.dl(h:yg E W W' P D K A ex Ec r1 r2 root l2 ps2 X F G key s)(m:DM A ex Ec r1 r2 root l1 l2 dC ps2 pg rp L X)(j:TH l1 l2 (pR X) F G)(n:wt X=tot l1 F+tot l2 G):∃B l,DL B ex Ec r1 r2 root (bV F key.toNat s) G l/\DL B ex Ec r2 r1 root G (bV F key.toNat s) l2/\A.Reach B/\PZ E W' P D B K/\Kept E W W':=by
 obtain⟨B,l,ps,e,rp',c,d,a,b,k,f,g,i⟩:=h;have:=oj m.t1.rise a.t1.rise j.one b.one key.toNat_lt;exact⟨B,l,⟨l2,ps,ps2,e,rp',c,d,a,b,Z⟩,⟨l,ps2,ps,e,rp',c,d,a.swap,b.swap,Z⟩,f,g,i⟩
theorem zg.lack(h:zg E W W' P D K A ex dC ps2 root (wt X+wS s) (Y s))(m:DM A ex Ec r1 r2 root l1 l2 dC ps2 pg rp L X)(g:TH l1 l2 (pR X) F G)(t:wt X=tot l1 F+tot l2 G):∃B,vJ A ex F G s/\A.Reach B/\PZ E W' P D B K/\Kept E W W':=by
 obtain⟨B,o,u,rp',p,q,d,i,r,j,k,l,n⟩:=h;refine⟨B,⟨o,l1,l2,d,j,m.t1.rise,m.t2.rise,λ y f=>(g.one.some_ y f).1,λ y f=>(g.two.some_ y f).1,λ e=>?_⟩,k,l,n⟩;have a:=u4 (d.good m.good) (d.Aj e) i;rw[d.ni]at a;have b:=m.t1.many;have c:=m.t2.many;omega
structure DZ(E:Nat->Prop)(W:World)(P D Dp T1 T2 H k:Nat)(A:AP)(q r1 r2 root:Nat):Prop where
 pz:PZ E W P D A k
 bd:ay W Dp #[aq P,V U q,aq T1,aq T2,aq H]
 md:E Dp
 b1:ay W T1 #[aq P,V U r1]
 m1:E T1
 b2:ay W T2 #[aq P,V U r2]
 m2:E T2
 bh:ay W H (rG P root)
 mh:E H
theorem DZ.of(h:DZ E W P D Dp T1 T2 H k A q r1 r2 root)(p:PZ E W' P D B j)(a:Kept E W W'):DZ E W' P D Dp T1 T2 H j B q r1 r2 root:=
 ⟨p,h.bd.ae (a.block Dp h.md),h.md,h.b1.ae (a.block T1 h.m1),h.m1,h.b2.ae (a.block T2 h.m2),h.m2,h.bh.ae (a.block H h.mh),h.mh⟩
theorem DZ.wide(h:DZ E W P D Dp T1 T2 H k A q r1 r2 root)(c:Below W W W'){T:Nat->Prop}(d:∀j,T j->E j\/(W.1.size<=j/\j<W'.1.size))(a:∀j,E j->T j):DZ T W' P D Dp T1 T2 H k A q r1 r2 root:=
 have b:=h.pz.kept c
 ⟨h.pz.wide c d,h.bd.ae (b.block Dp h.md),a _ h.md,h.b1.ae (b.block T1 h.m1),a _ h.m1,h.b2.ae (b.block T2 h.m2),a _ h.m2,h.bh.ae (b.block H h.mh),a _ h.mh⟩
theorem DZ.less(h:DZ E W P D Dp T1 T2 H k A q r1 r2 root){T:Nat->Prop}(e:∀j,T j->E j)(a:T Dp)(b:T T1)(c:T T2)(d:T H):DZ T W P D Dp T1 T2 H k A q r1 r2 root:=
 ⟨h.pz.less e,h.bd,a,h.b1,b,h.b2,c,h.bh,d⟩
theorem DZ.next(h:DZ E W P D Dp T1 T2 H k A q r1 r2 root)(a:Below W W W'):DZ E W' P D Dp T1 T2 H k A q r1 r2 root:=h.of (h.pz.next a) (h.pz.kept a)
theorem DZ.up(h:DZ E W P D Dp T1 T2 H k A q r1 r2 root)(a:k<=K):DZ E W P D Dp T1 T2 H K A q r1 r2 root:=⟨h.pz.up a,h.bd,h.md,h.b1,h.m1,h.b2,h.m2,h.bh,h.mh⟩
theorem DZ.one(h:DZ E W P D Dp T1 T2 H k A q r1 r2 root):LZ E W P D Dp T1 H k A r1 root:=⟨h.pz,h.bd.cell 4 _ rfl,h.md,h.b1,h.m1,h.bh,h.mh⟩
theorem DZ.two(h:DZ E W P D Dp T1 T2 H k A q r1 r2 root):LZ E W P D Dp T2 H k A r2 root:=⟨h.pz,h.bd.cell 4 _ rfl,h.md,h.b2,h.m2,h.bh,h.mh⟩
end
open DP (Rc bi rY)
open Go.BigFrame
theorem PK(a b:Nat)(k:a<100000)(l:b<100000)(W:World) :
  Calls prog 37 #[V U a,V U b] W λ e f=>e=aw (V a7 ((UInt64.ofNat (bi a b)).toNat:Int))/\f=W:=by
 have d:(UInt64.ofNat (bi a b)).toNat=bi a b:=by rw[UInt64.toNat_ofNat'];unfold bi;omega
 rw[d]
 have c:(a*4294967296) ||| b=bi a b:=by
  have:=Nat.two_pow_add_eq_or_of_lt (i:=32) (b:=b) Z a;unfold bi;rw[show(2:Nat)^32=4294967296 from rfl,Nat.mul_comm 4294967296 a]at this;exact this.symm
 have g:bits .or a7 ((a:Int)*4294967296) (b:Int)=((bi a b:Nat):Int):=by
  have:=u64_or_nat (a*4294967296) b Z Z;rw[c]at this;rw[<-this]
  congr 1
 have h:IntKind.u64.wrap (a:Int)=(a:Int):=by rw[mX];omega
 have i:IntKind.u64.wrap (b:Int)=(b:Int):=by rw[mX];omega
 have j:IntKind.u64.wrap ((a:Int)*4294967296)=(a:Int)*4294967296:=by rw[mX];omega
 clear d c
 go_enter func37,ntmps37
 go_wp2;go_ret
 exact⟨rfl,rfl⟩
def kV(q:Rc)(i k:Nat):List UInt64:=(List.range k).map λ k=>UInt64.ofNat (bi (q.r/16+i) (q.c/16+k))
def sH(q:Rc)(i:Nat):List UInt64:=(List.range i).flatMap λ i=>kV q i q.nc
def iN(q:Rc):List UInt64:=q.pM.map UInt64.ofNat
theorem tz(q:Rc)(i k:Nat):kV q i (k+1)=kV q i k++[UInt64.ofNat (bi (q.r/16+i) (q.c/16+k))]:=by
 unfold kV;rw[List.range_succ,dI];rfl
theorem XQ(q:Rc)(i:Nat):sH q (i+1)=sH q i++kV q i q.nc:=by
 unfold sH;rw[List.range_succ,List.flatMap_append];simp
theorem XR(q:Rc)(i:Nat):(sH q i).length=i*q.nc:=by
 induction i with
 | zero=>simp[sH]
 | succ i a=>rw[XQ,zl,a,Nat.succ_mul];simp[kV]
theorem XT(h:¬64<q.nr*q.nc):iN q=sH q q.nr:=by
 unfold iN DP.Rc.pM sH kV;rw[aE h,List.map_flatMap]
 congr 1
 funext i
 rw[List.map_map];rfl
theorem XU(h:64<q.nr*q.nc):iN q=[UInt64.ofNat rY]:=by
 unfold iN DP.Rc.pM;rw[be h];rfl
theorem js(W:World)(l:List UInt64)(t:TypeId):Row (W.alloc (.cells (az l).toArray t)) W (Y l) (az l):=by
 have a:=World.cell?_alloc_new W (az l).toArray t;refine⟨by simp,by rw[dH];exact aH _,λ j b=>?_,λ j b=>⟨?_,World.frozen?_alloc_new W _ _ j⟩⟩
 ·exact(a j).trans (by rw[List.getElem?_toArray])
 have c:(W.alloc (.cells (az l).toArray t)).cell? (W.1.size,j)=_:=a j;rw[c,List.getElem?_toArray,bK (by rw[dH];exact b)];rfl
def SV(W w:World)(q:Rc)(e:Ending):Prop:=∃ao c,e=aw (ad ao (iN q).length c)/\NR w ao c (az (iN q))/\(∀b,aG ao b->W.1.size<=b)/\Below W W w
theorem Bq(q:Rc)(hq:q.ok)(W:World) :
  Calls prog 96 #[.agg #[V U q.r,V U q.c,V U q.h,V U q.w]] W λ e hb=>SV W hb q e:=by
 obtain⟨x1,x2,x3,x4⟩:=hq;obtain⟨g,H⟩:∃g,g=W.alloc (.cells #[V U q.r,V U q.c,V U q.h,V U q.w] 23):=⟨_,rfl⟩;have E:ay g W #[V U q.r,V U q.c,V U q.h,V U q.w]:=H▸ay.new W _ _;have h5:Below W W g:=H▸(aU _ _).alloc (aH _) _;have I:∀m,(g.drewN m).cell? W.1.size=some (V U q.r):=λ m=>E.cell 0 _ rfl;have J:∀m,(g.drewN m).cell? (W.1.size,1)=some (V U q.c):=λ m=>E.cell 1 _ rfl;have D:∀m,(g.drewN m).cell? (W.1.size,2)=some (V U q.h):=λ m=>E.cell 2 _ rfl;have K:∀m,(g.drewN m).cell? (W.1.size,3)=some (V U q.w):=λ m=>E.cell 3 _ rfl
 go_enter func96,ntmps96
 obtain⟨o,N⟩:∃o,o=q.r/16:=⟨_,rfl⟩;obtain⟨j,L⟩:∃j,j=q.c/16:=⟨_,rfl⟩;obtain⟨t,Dz⟩:∃t,t=(q.r+q.h-1)/16:=⟨_,rfl⟩;obtain⟨s,XV⟩:∃s,s=(q.c+q.w-1)/16:=⟨_,rfl⟩;obtain⟨h,S⟩:∃h,h=q.nr:=⟨_,rfl⟩;obtain⟨f,R⟩:∃f,f=q.nc:=⟨_,rfl⟩;have h9:t+1=o+h:=by rw[S,N,Dz];unfold Rc.nr;omega
 have k2:s+1=j+f:=by rw[R,L,XV];unfold Rc.nc;omega
 have t1:(q.r:Int).tdiv 16=(o:Int):=by rw[nP Z];omega
 have t2:(q.c:Int).tdiv 16=(j:Int):=by rw[nP Z];omega
 have t3:((q.r:Int)+q.h-1).tdiv 16=(t:Int):=by rw[nP Z];omega
 have t4:((q.c:Int)+q.w-1).tdiv 16=(s:Int):=by rw[nP Z];omega
 have t5:(q.r:Int)/16=(o:Int):=Z
 have t6:(q.c:Int)/16=(j:Int):=Z
 have t7:((q.r:Int)+q.h-1)/16=(t:Int):=Z
 have t8:((q.c:Int)+q.w-1)/16=(s:Int):=Z
 have u1:(t:Int)-o+1=(h:Int):=Z
 have u2:(s:Int)-j+1=(f:Int):=Z
 have r1:o+h<=188:=Z
 have r2:j+f<=44:=Z
 have r3:t<=188:=Z
 have r4:s<=44:=Z
 have l:=bp N L S R;clear N L Dz XV S R h9 k2
 go_wp2_with fail
 rw[<-H]
 go_quiet (fail)
 obtain⟨r,w⟩:∃r,r=g.drewN nq:=⟨_,rfl⟩;have I:∀m,(r.drewN m).cell? W.1.size=some (V U q.r):=λ m=>by rw[w];exact I (nq+m)
 have J:∀m,(r.drewN m).cell? (W.1.size,1)=some (V U q.c):=λ m=>by rw[w];exact J (nq+m)
 have D:∀m,(r.drewN m).cell? (W.1.size,2)=some (V U q.h):=λ m=>by rw[w];exact D (nq+m)
 have K:∀m,(r.drewN m).cell? (W.1.size,3)=some (V U q.w):=λ m=>by rw[w];exact K (nq+m)
 have vE:Below W W r:=by rw[w];exact UK.dN h5 nq
 rw[<-w];clear w h5 E H
 go_wp2_with fail
 go_quiet (fail)
 obtain⟨y,X⟩:∃y,y=r.drewN nq:=⟨_,rfl⟩;have A:Below W W y:=by rw[X];exact UK.dN vE nq
 rw[<-X];obtain⟨x,u⟩:∃x,x=h*f:=⟨_,rfl⟩;have p1:(h:Int)*(f:Int)=(x:Int):=by rw[u];exact(Int.natCast_mul h f).symm
 have p2:x<=188*44:=by rw[u];exact Nat.mul_le_mul Z Z
 clear X vE I J D K t1 t2 t3 t4 t5 t6 t7 t8 u1 u2 r3 r4;by_cases G:64<x
 ·have q1:(64:Int)<x:=Z
  have h3:Below W W (y.alloc (.cells #[V a7 18446744073709551615] 77)):=A.alloc A.size _;have h7:=js y [18446744073709551615] 77;have HX:=bg h3 h7;have p:=bm A.size u G;clear h3 h7 A u G;go_wp2;go_ret;have a:iN q=[UInt64.ofNat rY]:=XU (by rw[<-l.out.2.2.1,<-l.out.2.2.2,<-p.out.2.1];exact p.out.2.2);refine⟨some ⟨y.1.size,0,none⟩,1,by rw[a];rfl,al ⟨y.1.size,rfl,?_⟩,λ b a=>by rw[eY a];exact p.out.1,HX.out.1⟩;rw[a];exact HX.out.2
 have q1:¬(64:Int)<x:=Z
 have h4:iN q=sH q h:=by rw[l.out.2.2.1];exact XT (by rw[<-l.out.2.2.1,<-l.out.2.2.2,<-u];exact G)
 have HB:=zH h4;have hc:=zH u;clear h4 u G
 go_wp2_with fail
 go_loopw [7,42] (λ h0 v wr=>∃(i:Nat) (ao:Option Addr) (c:Nat),h0=ad ao (sH q i).length c/\v=V U i/\i<=h/\Hid (NR wr ao c (az (sH q i))/\(∀b,aG ao b->W.1.size<=b)/\Below W W wr)) (λ _ v _=>20001-(intOf v).toNat)
 case atStart=>exact⟨0,none,0,rfl,rfl,aR _,zH ⟨O ⟨rfl,rfl,rfl⟩,λ b a=>(by cases a),A⟩⟩
 clear A;obtain⟨i,ao,c,rfl,rfl,hi,HI⟩:=hrel;by_cases hg:i<h
 ·have q2:(i:Int)<h:=Z
  obtain⟨wo,h8⟩:∃wo,wo=wr:=⟨_,rfl⟩;subst h8
  go_wp2_with fail
  go_loopw [7,46] (λ h0 v wr=>∃(k n:Nat) (ao:Option Addr) (c:Nat),h0=ad ao n c/\v=V U k/\k<=f/\Hid (n=(sH q i++kV q i k).length/\NR wr ao c (az (sH q i++kV q i k))/\(∀b,aG ao b->W.1.size<=b)/\Below W W wr)) (λ _ v _=>20001-(intOf v).toNat)
  case atStart=>exact⟨0,(sH q i).length,ao,c,rfl,rfl,aR _,zH ⟨by simp[kV],by simpa[kV]using HI.out.1,HI.out.2.1,HI.out.2.2⟩⟩
  clear HI;obtain⟨k,n,mR,D,rfl,rfl,hk,F⟩:=hrel;by_cases he:k<f
  ·have q3:(k:Int)<f:=Z
   obtain⟨Q,hr,ha,a⟩:=F.out
   have aD:(sH q i++kV q i k).length<1000000:=by
    rw[zl,XR,<-l.out.2.2.2];have h1:i*f<=188*44:=Nat.mul_le_mul Z Z;have h2:(kV q i k).length=k:=by simp[kV]
    omega
   obtain⟨z,Y⟩:∃z,z=UInt64.ofNat (bi (o+i) (j+k)):=⟨_,rfl⟩;have M:=PK (o+i) (j+k) Z Z wr;rw[<-Y]at M;obtain⟨d,C,w5,e1,r5,o5,h6⟩:=Fz hr aD z
   have T:sH q i++kV q i k++[z]=sH q i++kV q i (k+1):=by
    rw[tz,<-cO,Y,l.out.1,l.out.2.1]
   rw[T]at r5;rw[<-Q]at e1
   have yZ:W.1.size<=d:=by
    rcases h6 with P|P
    ·exact ha d P
    exact aT a.size P
   have p:=bp (show n+1=(sH q i++kV q i (k+1)).length by rw[<-T,zl,<-Q];rfl) r5 yZ (a.trans (o5.below a.size yZ));have B:=zH M;clear Q hr ha a F aD M r5 o5 h6 yZ T Y
   go_wp2_with fail
   refine B.out.mono ?_;rintro e w6 ⟨rfl,rfl⟩
   go_wp2_with (at_builtin;refine UK.jm e1 rfl rfl rfl rfl rfl ?_)
   go_wp2;go_roundw
   case rel=>exact⟨k+1,n+1,_,C,by go_num,by go_num,Z,zH ⟨p.out.1,al ⟨d,rfl,p.out.2.1⟩,λ b a=>by rw[eY a];exact p.out.2.2.1,p.out.2.2.2⟩⟩
   case measure=>simp only[intOf];omega
  obtain rfl:k=f:=Z
  have q3:¬(k:Int)<k:=Z
  have hs:sH q i++kV q i k=sH q (i+1):=by rw[XQ,<-l.out.2.2.2]
  have B:=F.out;rw[hs]at B;have HZ:=zH B;clear F B hs;go_wp2;go_roundw
  case rel=>exact⟨i+1,mR,D,by rw[<-HZ.out.1],by go_num,Z,zH ⟨HZ.out.2.1,HZ.out.2.2.1,HZ.out.2.2.2⟩⟩
  case measure=>simp only[intOf];omega
 obtain rfl:i=h:=Z
 have q2:¬(i:Int)<i:=Z
 go_wp2;go_ret
 exact⟨ao,c,by rw[HB.out];rfl,by rw[HB.out];exact HI.out.1,HI.out.2.1,HI.out.2.2⟩
open Go.RowKit Go.ChangeMaps
open DP (Rc)
structure Hd where
 a:Option Nat
 n:Nat
 c:Nat
variable{h:Hd}{hd:UInt64->Hd}
def Hd.addr(h:Hd):Option Addr:=h.a.map λ g=>⟨g,0,none⟩
def Hd.val(h:Hd):Value:=ad h.addr h.n h.c
def oJ(h:Hd):DataW Unit:=match h.a with
 | none=>.agg [.lit (.int .i64 h.n),.lit (.int .i64 h.c)]
 | some g=>.agg [.lit (.int .i64 g),.lit (.int .i64 h.n),.lit (.int .i64 h.c)]
def PL:Value->Option (DataW Unit×List MemPlace)
 | .slice none n c=>some (oJ ⟨none,n,c⟩,[])
 | .slice (some (Addr.mk g 0 none)) n c=>some (oJ ⟨some g,n,c⟩,[])
 | _=>none
theorem XW(h:Hd):PL h.val=some (oJ h,[]):=by
 rcases h with⟨a,n,c⟩
 cases a<;>rfl
theorem XX{k:Hd}(e:oJ h=oJ k):h=k:=by
 rcases h with⟨a,n,c⟩;rcases k with⟨b,m,d⟩
 cases a<;>cases b<;>simp[oJ]at e<;>(simp;omega)
theorem ox{ps:List MemPlace}(e:PL v=some (oJ h,ps)):v=h.val:=by
 unfold PL at e
 split at e
 ·have:=XX (Prod.mk.inj (bf e)).1;rw[<-this];rfl
 ·have:=XX (Prod.mk.inj (bf e)).1;rw[<-this];rfl
 cases e
def nQ(P:Program)(K:TypeId)(W:World)(M n:Nat)(hd:UInt64->Hd):Prop:=
 ∃D:DataW Unit,W.ownsMap P K PL M n D/\∀k:UInt64,D.atKey (.int .u64 (k.toNat:Int)) (oJ ⟨none,0,0⟩)=oJ (hd k)
theorem XY(k:UInt64):(Lit.int .u64 (k.toNat:Int)).wf=true:=by
 have:=k.toNat_lt;have a:IntKind.u64.min=0:=by decide
 have b:IntKind.u64.max=18446744073709551615:=by decide
 show(decide (IntKind.u64.min<=(k.toNat:Int))&&decide ((k.toNat:Int)<=IntKind.u64.max))=true;rw[a,b,decide_eq_true Z,decide_eq_true Z];rfl
namespace nQ
variable{K E t:TypeId}
theorem new(W:World):nQ P K (W.alloc (.map #[] 0)) W 0 (λ _=>⟨none,0,0⟩):=
 ⟨.map [],World.ownsMap_made _ _ _ _,λ _=>rfl⟩
theorem lt(h:nQ P K W M n hd):M<W.1.size:=by
 obtain⟨D,h,_⟩:=h;exact h.lt
theorem ae(h:nQ P K W M n hd)(f:W'.1[M]?=W.1[M]?):nQ P K W' M n hd:=by
 obtain⟨D,⟨es,a,b,c,d,e⟩,r⟩:=h;exact⟨D,⟨es,a,f.trans b,c,d,e⟩,r⟩
theorem get(h:nQ P K W M n hd)(a:P.underlying K=some (.int .u64))(e:P.underlying t=some (.map K E))(f:∀w,(zeroValue E).run P w= .ok (.slice none 0 0) w)(k:UInt64) :
  (Instr.lookup t (.map (some M)) (.int .u64 (k.toNat:Int)) false).run P W= .ok (hd k).val W:=by
 obtain⟨D,h,c⟩:=h;obtain⟨v,ps,d,b⟩:=h.lookup (Maps.int_keyed a) e (f W) (XW ⟨none,0,0⟩) (Maps.keyOf_int_mk a (XY k));rw[c k]at b;rw[d,ox b]
theorem put(h:nQ P K W M n hd)(a:P.underlying K=some (.int .u64))(l:P.underlying t=some (.map K E))(g:n<maxLen)(k:UInt64)(x:Hd) :
  ∃W',(Instr.mapUpdate t (.map (some M)) (.int .u64 (k.toNat:Int)) x.val).run P W= .ok () W'/\nQ P K W' M (n+1) (λ j=>if j=k then x else hd j)/\Only M W W':=by
 obtain⟨D,h,d⟩:=h;obtain⟨W',i,c,m⟩:=h.store (Maps.int_keyed a) l g (Maps.keyOf_int_mk a (XY k)) (XW x);have f:WideAt.IsKeyLit (.int .u64 (k.toNat:Int)):=trivial;refine⟨W',i,⟨_,c,λ j=>?_⟩,UK.kX.gq m⟩;by_cases e:j=k
 ·subst e;rw[Maps.atKey_put_same h.isMap f];show oJ x=oJ (if j=j then x else hd j);rw[be rfl]
 show _=oJ (if j=k then x else hd j);rw[aE e,Maps.atKey_put_other,d j];intro b;apply e;have:(j.toNat:Int)=(k.toNat:Int):=by simpa using b
 exact mV.1 Z
end nQ
open Go.RowKit Go.ChangeMaps
open UK (str aF nth Only Row ay)
open DP (Rc)
def lQ(b:UInt64)(ps:List (UInt64×Rc)):List Rc:=(ps.filter λ p=>p.1==b).map (·.2)
theorem XZ(b d:UInt64)(q:Rc)(ps:List (UInt64×Rc)):lQ b (ps++[(d,q)])=if b=d then lQ b ps++[q] else lQ b ps:=by
 unfold lQ;rw[List.filter_append,dI];by_cases h:b=d
 ·subst h;simp
 have:(d==b)=false:=by simp;exact λ e=>h e.symm
 simp[h,this]
theorem Ya:lQ b ps=[]↔b∉ps.map (·.1):=by
 unfold lQ;rw[List.map_eq_nil_iff,List.filter_eq_nil_iff]
 constructor
 ·intro h c;obtain⟨p,a,e⟩:=bL.1 c;exact h p a (by simpa using e)
 intro h p a e;exact h (bL.2 ⟨p,a,by simpa using e⟩)
structure ShM(S:Nat->Prop)(N:Nat)(w:World)(M:Nat)(ps:List (UInt64×Rc))(ao:Option Addr)(c:Nat)(ks:List UInt64)(n:Nat)(hd:UInt64->Hd):Prop where
 ag:NR w ao c (az ks)
 map:nQ prog 77 w M n hd
 list:∀b,RX w (hd b).addr (hd b).c (lQ b ps)/\(hd b).n=(lQ b ps).length
 vF:∀b,(hd b).a=none↔lQ b ps=[]
 own:∀b j,(hd b).a=some j->N<=j/\j≠M/\¬aG ao j/\¬S j/\∀d,d≠b->(hd d).a≠some j
 qU:∀j,aG ao j->N<=j/\j≠M/\¬S j
 uk:N<=M/\¬S M
 low:∀j,S j->j<w.1.size
section
variable{c:Nat}{J:World}
theorem wO:aG h.addr j↔h.a=some j:=by
 rcases h with⟨a,n,c⟩
 cases a with
 | none=>exact⟨λ e=>(by cases e),λ e=>(by cases e)⟩
 | some g=>exact⟨λ e=>congrArg some (eY e).symm,λ e=>by cases e;rfl⟩
theorem ShM.key(h:ShM S N w M ps ao c ks n hd)(r:Row g d C (az (ks++[b])))(o:Only d w g)(a:aG ao d\/w.1.size<=d)(x:N<=w.1.size) :
  ShM S N g M ps d C (ks++[b]) n hd/\Kept (λ j=>S j\/j<N) w g:=by
 have t:=h.map.lt
 have k:d≠M:=by
  rcases a with a|a
  ·exact(h.qU d a).2.1
  omega
 have u:N<=d:=by
  rcases a with a|a
  ·exact(h.qU d a).1
  omega
 have i:¬S d:=by
  rcases a with a|a
  ·exact(h.qU d a).2.2
  exact λ e=>by have:=h.low d e;omega
 have l:∀b,(hd b).a≠some d:=λ b e=>by
  rcases a with a|a
  ·exact(h.own b d e).2.2.1 a
  have:=(h.list b).1.lt (wO.2 e);omega
 refine⟨⟨al ⟨d,rfl,r⟩,h.map.ae (o.block M t k.symm),λ b=>⟨(h.list b).1.ae o.size (λ j f=>o.block j ((h.list b).1.lt f) (λ e=>l b (by rw[<-e];exact wO.1 f))),(h.list b).2⟩,h.vF,λ b j f=>?_,λ j f=>?_,h.uk,λ j f=>cB (h.low j f) o.size⟩,⟨o.os,o.tape,o.output,o.size,λ j f=>?_⟩⟩
 ·obtain⟨m,p,v,q,s⟩:=h.own b j f;exact⟨m,p,λ e=>l b (by rw[f,eY e]),q,s⟩
 ·rw[eY f];exact⟨u,k,i⟩
 rcases f with f|f
 ·exact o.block j (h.low j f) (λ e=>i (e▸f))
 exact o.block j Z Z
theorem ShM.SX{m:World}(h:ShM S N w M ps ao c ks n hd)(r:RX g d C (lQ b ps++[q]))(o:Only d w g)(f:aG (hd b).addr d\/w.1.size<=d)(Q:N<=w.1.size)(L:nQ prog 77 m M (n+1) (λ j=>if j=b then⟨some d,(lQ b ps).length+1,C⟩ else hd j))(k:Only M g m) :
  ShM S N m M (ps++[(b,q)]) ao c ks (n+1) (λ j=>if j=b then⟨some d,(lQ b ps).length+1,C⟩ else hd j)/\Kept (λ j=>S j\/j<N) w m:=by
 have P:=h.map.lt
 have z:d≠M:=by
  rcases f with f|f
  ·exact(h.own b d (wO.1 f)).2.1
  omega
 have K:N<=d:=by
  rcases f with f|f
  ·exact(h.own b d (wO.1 f)).1
  omega
 have x:¬S d:=by
  rcases f with f|f
  ·exact(h.own b d (wO.1 f)).2.2.2.1
  exact λ e=>by have:=h.low d e;omega
 have y:¬aG ao d:=λ e=>by
  rcases f with f|f
  ·exact(h.own b d (wO.1 f)).2.2.1 e
  have:=h.ag.lt e;omega
 have v:∀i,i≠b->(hd i).a≠some d:=λ i B e=>by
  rcases f with f|f
  ·exact(h.own b d (wO.1 f)).2.2.2.2 i B e
  have:=(h.list i).1.lt (wO.2 e);omega
 have u:∀j,j<w.1.size->j≠d->j≠M->m.1[j]?=w.1[j]?:=λ j A l J=>(k.block j (cB A o.size) J).trans (o.block j A l);have t:=aT o.size k.size;refine⟨⟨h.ag.ae t (λ j a=>u j (h.ag.lt a) (λ e=>y (e▸a)) (h.qU j a).2.1),L,λ i=>?_,λ i=>?_,λ i j a=>?_,h.qU,h.uk,λ j a=>cB (h.low j a) t⟩,⟨k.os.trans o.os,k.tape.trans o.tape,k.output.trans o.output,t,λ j a=>?_⟩⟩
 ·rw[XZ];by_cases e:i=b
  ·subst e;simp only[be];exact⟨r.ae k.size (λ j a=>k.block j (r.lt a) (by rw[eY a];exact z)),by simp⟩
  simp only[aE e];exact⟨(h.list i).1.ae t (λ j a=>u j ((h.list i).1.lt a) (λ s=>v i e (by rw[<-s];exact wO.1 a)) (h.own i j (wO.1 a)).2.1),(h.list i).2⟩
 ·rw[XZ];by_cases e:i=b
  ·simp only[be e];simp
  simp only[aE e];exact h.vF i
 ·by_cases e:i=b
  ·subst e;simp only[be]at a;obtain rfl:d=j:=bf a;refine⟨K,z,y,x,λ p l=>?_⟩;simp only[aE l];exact v p l
  simp only[aE e]at a;obtain⟨D,E,F,G,H⟩:=h.own i j a;refine⟨D,E,F,G,λ p l=>?_⟩;by_cases s:p=b
  ·simp only[be s];exact λ I=>v i e (by rw[a];exact I.symm)
  simp only[aE s];exact H p l
 rcases a with a|a
 ·exact u j (h.low j a) (λ e=>x (e▸a)) (λ e=>h.uk.2 (e▸a))
 exact u j Z Z (by have:=h.uk.1;omega)
theorem ShM.wide(h:ShM S N w M ps ao c ks n hd)(d:Below w w J)(f:∀j,T j->w.1.size<=j/\j<J.1.size):ShM (λ j=>S j\/T j) N J M ps ao c ks n hd:=by
 have o:=h.map.lt;refine⟨h.ag.ae d.size (λ j a=>d.block j (h.ag.lt a)),h.map.ae (d.block M o),λ b=>⟨(h.list b).1.ae d.size (λ j a=>d.block j ((h.list b).1.lt a)),(h.list b).2⟩,h.vF,λ b j a=>?_,λ j a=>?_,⟨h.uk.1,λ e=>e.elim h.uk.2 (λ e=>by have:=f M e;omega)⟩,λ j a=>?_⟩
 ·obtain⟨g,i,k,l,m⟩:=h.own b j a;exact⟨g,i,k,λ e=>e.elim l (λ e=>by have:=f j e;have:=(h.list b).1.lt (wO.2 a);omega),m⟩
 ·obtain⟨g,i,k⟩:=h.qU j a;exact⟨g,i,λ e=>e.elim k (λ e=>by have:=f j e;have:=h.ag.lt a;omega)⟩
 rcases a with a|a
 ·exact cB (h.low j a) d.size
 exact(f j a).2
theorem ShM.less(h:ShM S N w M ps ao c ks n hd)(d:∀j,T j->S j):ShM T N w M ps ao c ks n hd:=
 ⟨h.ag,h.map,h.list,h.vF,λ b j a=>by
  obtain⟨f,g,i,k,l⟩:=h.own b j a;exact⟨f,g,i,λ e=>k (d j e),l⟩,λ j a=>by
  obtain⟨f,g,i⟩:=h.qU j a;exact⟨f,g,λ e=>i (d j e)⟩,⟨h.uk.1,λ e=>h.uk.2 (d M e)⟩,λ j a=>h.low j (d j a)⟩
end
open DP (Rc share)
open Go.BigFrame
def oq(q:Rc):List (UInt64×Rc):=(iN q).map λ b=>(b,q)
def mZ(l:List Rc):List (UInt64×Rc):=l.flatMap oq
theorem PN(q:Rc):(iN q).length<=64:=by
 by_cases a:64<q.nr*q.nc
 ·rw[XU a];exact Nat.le_of_lt (by decide)
 rw[XT a,XR];omega
theorem Ta(l:List Rc):(mZ l).length<=64*Y l:=by
 induction l with
 | nil=>simp[mZ]
 | cons q l b=>
  have c:=PN q;have a:=b;unfold mZ at a ⊢;rw[jq,zl,dF,Nat.mul_succ];unfold oq;rw[bS];unfold oq at a;omega
theorem Yb(h:q.ok):(iN q).map UInt64.toNat=q.pM:=by
 unfold iN;rw[List.map_map];refine(List.map_congr_left (λ x a=>?_)).trans (List.map_id _);show(UInt64.ofNat x).toNat=x;rw[UInt64.toNat_ofNat'];rcases DP.vC h a with e|e
 ·rw[e];decide
 omega
theorem PO(h:q.ok):b∈iN q↔b.toNat∈q.pM:=by
 rw[<-Yb h,bL];exact⟨λ e=>⟨b,e,rfl⟩,λ ⟨x,a,e⟩=>mV.1 e▸a⟩
theorem Em(h:q.ok):(iN q).Nodup:=by
 have a:=DP.GK h;unfold DP.Up at a;rw[<-Yb h,List.pairwise_map]at a;exact a.imp (λ b e=>by rw[e]at b;omega)
theorem Yc(b:UInt64)(ps a:List (UInt64×Rc)):lQ b (ps++a)=lQ b ps++lQ b a:=by
 unfold lQ;rw[List.filter_append,dI]
theorem nh(h:q.ok)(b:UInt64):lQ b (oq q)=if b.toNat∈q.pM then [q] else []:=by
 have key:∀l:List UInt64,l.Nodup->lQ b (l.map λ x=>(x,q))=if b∈l then [q] else []:=by
  intro l
  induction l with
  | nil=>intro _;rfl
  | cons x l j=>
   intro g;obtain⟨d,f⟩:=eD.1 g;have e:((x::l).map λ x=>(x,q))=[(x,q)]++l.map λ x=>(x,q):=rfl;rw[e,Yc,j f];by_cases c:x=b
   ·subst c;simp[lQ,d]
   have i:¬b=x:=λ e=>c e.symm;simp[lQ,c,i]
 unfold oq;rw[key _ (Em h)];by_cases a:b∈iN q
 ·rw[be a,be ((PO h).1 a)]
 rw[aE a,aE (λ e=>a ((PO h).2 e))]
theorem Td(h:∀q∈l,q.ok)(b:UInt64):lQ b (mZ l)=share b.toNat l:=by
 induction l with
 | nil=>rfl
 | cons q l d=>
  have e:mZ (q::l)=oq q++mZ l:=by unfold mZ;rw[jq]
  rw[e,Yc,nh (h q (bI ..)),d (λ x c=>h x (cK _ c))];unfold share;rw[List.filter_cons];by_cases a:b.toNat∈q.pM<;>simp[a]
theorem Yd(h:∀q∈l,q.ok)(b:UInt64):b∈(mZ l).map (·.1)↔∃q∈l,b.toNat∈q.pM:=by
 unfold mZ oq;rw[List.map_flatMap,List.mem_flatMap]
 constructor
 ·rintro⟨q,a,c⟩;rw[List.map_map]at c;obtain⟨x,d,rfl⟩:=bL.1 c;exact⟨q,a,(PO (h q a)).1 d⟩
 rintro⟨q,a,c⟩;refine⟨q,a,?_⟩;rw[List.map_map];exact bL.2 ⟨b,(PO (h q a)).2 c,rfl⟩
def FC(ks:List UInt64)(ps:List (UInt64×Rc)):Prop:=ks.Nodup/\(∀b,b∈ks↔b∈ps.map (·.1))/\Y ks<=Y ps
theorem FC.old(h:FC ks ps)(f:lQ b ps≠[]):FC ks (ps++[(b,q)]):=by
 obtain⟨a,c,i⟩:=h;have g:b∈ps.map (·.1):=Decidable.of_not_not (λ e=>f (Ya.2 e));refine⟨a,λ d=>?_,by rw[zl];omega⟩;rw[dI,dm,c d]
 constructor
 ·exact O
 rintro(e|e)
 ·exact e
 simp only[jr,List.map_nil,bu]at e;rw[e];exact g
theorem FC.new(h:FC ks ps)(f:lQ b ps=[]):FC (ks++[b]) (ps++[(b,q)]):=by
 obtain⟨c,a,k⟩:=h;have g:b∉ks:=λ e=>Ya.1 f ((a b).1 e);refine⟨bN.2 ⟨c,by simp,λ x i y j=>?_⟩,λ d=>?_,by rw[zl,zl];simp only[dF,List.length_nil];omega⟩
 ·rw[bu.1 j];exact λ e=>g (e▸i)
 rw[dI,dm,dm,a d];rfl
def Hc(W w:World)(l:List Rc)(e:Ending):Prop:=
 ∃ao c ks n hd M,e=aw (a9 #[ad ao (Y ks) c,.map (some M)])/\NR w ao (Y ks) (az ks)/\(ks.Pairwise λ x y=>x.toNat<y.toNat)/\(∀b:UInt64,b∈ks↔∃q∈l,b.toNat∈q.pM)/\nQ prog 77 w M n hd /\
  (∀b,RX w (hd b).addr (hd b).c (share b.toNat l)/\(hd b).n=(share b.toNat l).length/\((hd b).a=none↔share b.toNat l=[])/\∀j,(hd b).a=some j->W.1.size<=j)/\(∀j,aG ao j->W.1.size<=j)/\W.1.size<=M/\Below W W w
theorem ShM.run{c:Nat}(h:ShM S N w M ps ao c ks n hd)(o:N<=w.1.size)(t:n<=100000)(b:UInt64)(q:Rc)(r:(lQ b ps).length<=1000000) :
  ∃d C f e p,(Builtin.append_ #[33,33] 33 #[ad (hd b).addr (lQ b ps).length (hd b).c,ad w 1 1]).run prog (w.alloc (.cells #[V U q.r,V U q.c,V U q.h,V U q.w] 23))= .ok (ad (some ⟨d,0,none⟩) ((lQ b ps).length+1) C) f /\
   (Instr.mapUpdate 89 (.map (some M)) (V a7 (b.toNat:Int)) (ad d ((lQ b ps).length+1) C)).run prog f= .ok () e/\ShM S N e M (ps++[(b,q)]) ao c ks (n+1) p/\Kept (λ j=>S j\/j<N) w e:=by
 obtain⟨d,C,f,l,x,a,g⟩:=(h.list b).1.push r q
 have k:d≠M:=by
  rcases a with a|a
  ·exact(h.own b d (wO.1 a)).2.1
  have:=h.map.lt;omega
 have i:=h.map.ae (g.block M h.map.lt k.symm);obtain⟨e,m,s,v⟩:=i.put (t:=89) (E:=33) underlying77 underlying89 (Nat.lt_of_le_of_lt t (by decide)) b ⟨some d,(lQ b ps).length+1,C⟩;obtain⟨y,u⟩:=h.SX x g a o s v;exact⟨d,C,f,e,_,l,m,y,u⟩
theorem ShM.get{c:Nat}(h:ShM S N w M ps ao c ks n hd)(b:UInt64) :
  (Instr.lookup 89 (.map (some M)) (V a7 (b.toNat:Int)) false).run prog w= .ok (ad (hd b).addr (lQ b ps).length (hd b).c) w:=by
 have:=h.map.get (t:=89) (E:=33) underlying77 underlying89 zeroValue33 b;rw[this];unfold Hd.val;rw[(h.list b).2]
theorem zZ{B:Nat}(h:ay w B #[V U q.r,V U q.c,V U q.h,V U q.w]):w.cell? B=some (V U q.r)/\w.cell? (B,1)=some (V U q.c)/\w.cell? (B,2)=some (V U q.h)/\w.cell? (B,3)=some (V U q.w):=
 ⟨h.cell 0 _ rfl,h.cell 1 _ rfl,h.cell 2 _ rfl,h.cell 3 _ rfl⟩
theorem Ye(M:RX W z Q l)(u:∀q∈l,q.ok)(hl:Y l<=700) :
  Calls prog 41 #[ad z (Y l) Q] W λ e x8=>Hc W x8 l e:=by
 have x1:∀w:World,(Instr.makeMap 89 none).run prog w= .ok (.map (some w)) (w.alloc (.map #[] 0)):=run_makeMap _;have hn:Below W W (W.alloc (.map #[] 0)):=(aU _ _).alloc (aH _) _;have x3:(W.alloc (.map #[] 0)).1.size=W.1.size+1:=by simp
 have h0:ShM (λ _=>False) W (W.alloc (.map #[] 0)) W [] none 0 [] 0 (λ _=>⟨none,0,0⟩):=
  ⟨O ⟨rfl,rfl,rfl⟩,nQ.new W,λ b=>⟨O ⟨rfl,rfl,rfl⟩,rfl⟩,λ b=>⟨λ _=>rfl,λ _=>rfl⟩,λ b j f=>(by cases f),λ j f=>(by cases f),⟨aH _,id⟩,λ j f=>f.elim⟩
 have H0:=bg h0 hn;have HR:=bg M u;clear M u h0 hn x3
 go_enter func41,ntmps41
 go_wp2_with fail
 go_loopw [5,13] (λ hj v wr=>∃(i c n:Nat) (ao:Option Addr) (ks:List UInt64) (hd:UInt64->Hd),hj=ad ao (Y ks) c/\v=V U i/\i<=Y l/\Hid (ShM (λ _=>False) W wr W (mZ (l.take i)) ao c ks n hd/\FC ks (mZ (l.take i))/\n=(mZ (l.take i)).length/\Below W W wr)) (λ _ v _=>20001-(intOf v).toNat)
 case atStart=>exact⟨0,0,0,none,[],λ _=>⟨none,0,0⟩,rfl,rfl,aR _,zH ⟨H0.out.1,⟨List.nodup_nil,λ b=>Iff.rfl,aH _⟩,rfl,H0.out.2⟩⟩
 clear H0 x1;obtain⟨i,c,n,ao,ks,hd,rfl,rfl,hi,HI⟩:=hrel;by_cases he:i<Y l
 ·obtain⟨q,hq⟩:∃q,l[i]?=some q:=⟨_,bK he⟩;obtain⟨a,g,m,h⟩:=HI.out;obtain⟨M,u⟩:=HR.out;have hh:=u q (dU hq);have JK:l[i]=q:=bf ((bK he).symm.trans hq);have H:RX wr z Q l:=M.ae h.size (λ b X=>h.block b (M.lt X));obtain⟨rb,rfl,d0,d1,d2,d3⟩:=H.four hq;have q1:(i:Int)<Y l:=Z
  obtain⟨y,x5⟩:∃y,y=wr:=⟨_,rfl⟩;subst x5;have L:Below y y (y.alloc (.cells #[V U q.r,V U q.c,V U q.h,V U q.w] 23)):=(aU _ _).alloc (aH _) _;have s:=ay.new y #[V U q.r,V U q.c,V U q.h,V U q.w] 23;have h8:(y.alloc (.cells #[V U q.r,V U q.c,V U q.h,V U q.w] 23)).1.size=y.1.size+1:=by simp
  have LG:=zH (Bq q hh (y.alloc (.cells #[V U q.r,V U q.c,V U q.h,V U q.w] 23)))
  have h6:mZ (l.take (i+1))=mZ (l.take i)++oq q:=by
   unfold mZ;rw[List.take_succ_eq_append_getElem he,JK,List.flatMap_append];simp
  have HX:=bs a g m h L s h8;have HT:=bg h6 hh;clear a g m h M u hh JK H hq L s h8 HI h6
  go_wp2_with fail
  refine LG.out.mono ?_;rintro e w2 ⟨bo,bc,rfl,ha,hp,vE⟩;obtain⟨a,g,m,h,L,s,h8⟩:=HX.out;have hB:=L.trans (vE.mono L.size);have x4:=vE.size;obtain⟨S,r⟩:∃S:Nat->Prop,S=λ j=>False\/(j=y.1.size\/aG bo j):=⟨_,rfl⟩
  have hm:ShM S W w2 W (mZ (l.take i)) ao c ks n hd:=by
   rw[r];refine a.wide hB (λ j f=>?_);rcases f with rfl|f
   ·omega
   have:=hp j f;have:=ha.lt f;omega
  have Aa:=s.below vE Z;have J:W.1.size<=w2.1.size:=by have:=h.size;omega
  have HY:=bm hm g m;have HZ:=br (h.trans (hB.mono h.size)) Aa ha r J;clear a g m h L s h8 hB x4 hm Aa ha hp vE LG HX r d0 d1 d2 d3 J
  go_wp2_with fail
  go_loopw [5,20] (λ hj v wr=>∃(k c n:Nat) (ao:Option Addr) (ks:List UInt64) (hd:UInt64->Hd),hj=ad ao (Y ks) c/\v=V U k/\k<=(iN q).length/\Hid (ShM S W wr W (mZ (l.take i)++(oq q).take k) ao c ks n hd/\FC ks (mZ (l.take i)++(oq q).take k)/\n=(mZ (l.take i)++(oq q).take k).length/\Kept (λ j=>S j\/j<W.1.size) w2 wr)) (λ _ v _=>20001-(intOf v).toNat)
  case atStart=>exact⟨0,c,n,ao,ks,hd,rfl,rfl,aR _,zH ⟨by simpa using HY.out.1,by simpa using HY.out.2.1,by simpa using HY.out.2.2,Kept.refl _ _⟩⟩
  clear HY;obtain⟨k,c,n,ao,ks,hd,rfl,rfl,hk,HJ⟩:=hrel;obtain⟨a,g,m,o⟩:=HJ.out;obtain⟨P,s,hb,r,J⟩:=HZ.out;by_cases h5:k<(iN q).length
  ·obtain⟨b,X⟩:∃b,(iN q)[k]?=some b:=⟨_,bK h5⟩;have ht:(iN q)[k]=b:=bf ((bK h5).symm.trans X)
   obtain⟨A,ho,hu⟩:∃A,bo=some ⟨A,0,none⟩/\Row w2 A bc (az (iN q)):=by
    rcases hb with⟨_,hv,_⟩|⟨A,e,x6⟩
    ·exfalso;have:=congrArg List.length hv;rw[dH]at this;simp only[List.length_nil]at this;omega
    exact⟨A,e,x6⟩
   have hw:Row wr A bc (az (iN q)):=hu.ae o.size (o.block A (O (by rw[r,ho];exact al (al rfl))));have d9:wr.cell? (A,k)=some (V a7 (b.toNat:Int)):=hw.at' k _ (tO _ _ _ X);have q3:(k:Int)<(iN q).length:=Z
   have Tf:W.1.size<=wr.1.size:=aT J o.size;have D6:=s.ae (o.block _ (O (by rw[r];exact al (O rfl))))
   have hg:(mZ (l.take i)++(oq q).take k).length<=60000:=by
    have h1:=Ta (l.take i);have h2:=PN q;rw[zl,zt]at *;unfold oq;rw[bS];omega
   have N:mZ (l.take i)++(oq q).take k++[(b,q)]=mZ (l.take i)++(oq q).take (k+1):=by
    rw[cO]
    congr 1
    rw[List.take_succ_eq_append_getElem (by unfold oq;rw[bS];exact h5)]
    congr 2
    unfold oq;rw[List.getElem_map,ht]
   subst ho;have x9:n<=60000:=Z
   have K:=bg h5 (PN q);have Fp:k<64:=by have:=PN q;omega
   clear h5 X ht hu hw P hb hg
   cases I:(hd b).a with
   | none=>
    have x:=(a.vF b).1 I;have T:=a.get b
    have t:(hd b).addr=none/\(hd b).c=0:=by
     rcases(a.list b).1 with⟨R,_,a2⟩|⟨h9,R,_⟩
     ·exact⟨R,a2⟩
     unfold Hd.addr at R;rw[I]at R;cases R
    rw[t.1,t.2,x]at T;have x0:Y ks<1000000:=by have:=g.2.2;omega
    obtain⟨d,C,w3,e2,r3,o3,hs⟩:=Fz a.ag x0 b;obtain⟨Tg,h7⟩:=a.key (b:=b) r3 o3 hs Tf;have e3:=Tg.get b;rw[t.1,t.2,x]at e3;have hz:=aT Tf h7.size;obtain⟨g4,c4,x7,w5,hc,G,e5,E,h4⟩:=Tg.run hz Z b q (by rw[x];exact aR _);rw[t.1,t.2,x]at G;rw[x]at e5;simp only[List.length_nil,fB]at T e3 G e5;have iR:=D6.ae (h7.block _ (O (by rw[r];exact al (O rfl))));obtain⟨d0,d1,d2,d3⟩:=zZ iR;have F:=g.new (q:=q) x;rw[N]at E F;have D:=bp E F (show n+1=(mZ (l.take i)++(oq q).take (k+1)).length by rw[<-N,zl,<-m];rfl) ((o.trans h7).trans h4);have x2:∀W,(binOp .eql 33 (ad none 0 0) (ad none 0 0)).run prog W= .ok (a6 true) W:=λ W=>Lib.run_eql_slice_nil W _ _ none 0 0 0 0 underlying33;clear a g m o HJ Tg h7 E h4 F s D6 iR r3 o3 hs r N x t I
    go_wp2_with (at_builtin;first|refine UK.jm e2 rfl rfl rfl rfl rfl ?_|refine UK.jm G rfl rfl rfl rfl rfl ?_)
    go_wp2;go_roundw
    case rel=>exact⟨k+1,C,n+1,_,ks++[b],hc,by rw[zl];rfl,by go_num,by have:=K.out.1;omega,D⟩
    case measure=>simp only[intOf];have:=K.out.1;have:=K.out.2;omega
   | some h9=>
    have x:lQ b (mZ (l.take i)++(oq q).take k)≠[]:=λ e=>by rw[(a.vF b).2 e]at I;cases I
    have T:=a.get b;have t:(hd b).addr=some ⟨h9,0,none⟩:=by unfold Hd.addr;rw[I];rfl
    obtain⟨g4,c4,x7,w5,hc,G,e5,E,h4⟩:=a.run Tf Z b q (by
     have:(lQ b (mZ (l.take i)++(oq q).take k)).length<=(mZ (l.take i)++(oq q).take k).length:=by
      unfold lQ;rw[bS];exact List.length_filter_le ..
     omega)
    obtain⟨hy,hx⟩:∃hy,hy=(lQ b (mZ (l.take i)++(oq q).take k)).length:=⟨_,rfl⟩;rw[t,<-hx]at T G;rw[<-hx]at e5;obtain⟨cc,hr⟩:∃cc,cc=(hd b).c:=⟨_,rfl⟩;rw[<-hr]at T G;obtain⟨d0,d1,d2,d3⟩:=zZ D6;have F:=g.old (q:=q) x;rw[N]at E F;have D:=bp E F (show n+1=(mZ (l.take i)++(oq q).take (k+1)).length by rw[<-N,zl,<-m];rfl) (o.trans h4);have x2:∀W n c,(binOp .eql 33 (ad h9 n c) (ad none 0 0)).run prog W= .ok (a6 false) W:=λ W n c=>Lib.run_eql_slice_nil W _ _ _ _ _ _ _ underlying33;clear a g m o HJ E h4 F s D6 r N x t I hx hr
    go_wp2_with (at_builtin;refine UK.jm G rfl rfl rfl rfl rfl ?_)
    go_wp2;go_roundw
    case rel=>exact⟨k+1,c,n+1,_,ks,hc,rfl,by go_num,by have:=K.out.1;omega,D⟩
    case measure=>simp only[intOf];have:=K.out.1;have:=K.out.2;omega
  obtain rfl:k=(iN q).length:=Z
  have h6:(oq q).take (iN q).length=oq q:=fQ (by unfold oq;rw[bS];exact aH _);rw[h6,<-HT.out.1]at a g m;have hF:Below W W wr:=⟨o.os.trans P.os,o.tape.trans P.tape,o.output.trans P.output,aT J o.size,λ j f=>(o.block j (al f)).trans (P.block j f)⟩;have D:=bp (a.less (T:=λ _=>False) (λ j f=>f.elim)) g m hF;clear a g m o HJ P s hb r J h6 hF;go_wp2;go_roundw
  case rel=>exact⟨i+1,c,n,ao,ks,hd,rfl,by go_num,Z,D⟩
  case measure=>simp only[intOf];omega
 obtain rfl:i=Y l:=Z
 obtain⟨a,g,m,h⟩:=HI.out;rw[dY]at a g m;have hg:=Ta l;have HS:=zH (So.ul a.ag (by have:=g.2.2;omega));have D:=bm a g h;clear a g m h HI hg
 go_wp2_with fail
 refine HS.out.mono ?_;rintro e w2 ⟨rfl,jy,B,H,p⟩;have HG:=bm B H p;clear B H p HS;go_wp2;go_ret2;obtain⟨B,H,p⟩:=HG.out;obtain⟨a,g,h⟩:=D.out;obtain⟨_,u⟩:=HR.out;refine⟨ao,c,jy,n,hd,W.1.size,by rw[B.len];rfl,by rw[B.len];exact H,?_,λ b=>?_,a.map.ae (p.block _ ⟨a.map.lt,λ e=>(a.qU _ e).2.1 rfl⟩),λ b=>⟨?_,?_,?_,λ j f=>(a.own b j f).1⟩,λ j f=>(a.qU j f).1,aH _,?_⟩
 ·have h1:=B.fA g.1;rw[List.nodup_iff_pairwise_ne]at h1;exact(B.up.and h1).imp (λ ⟨h2,h3⟩=>Nat.lt_of_le_of_ne h2 (λ e=>h3 (mV.1 e)))
 ·rw[B.mem,g.2.1,Yd u]
 ·rw[<-Td u];exact(a.list b).1.ae p.size (λ j f=>p.block j ⟨(a.list b).1.lt f,λ e=>(a.own b j (wO.1 f)).2.2.1 e⟩)
 ·rw[<-Td u];exact(a.list b).2
 ·rw[<-Td u];exact a.vF b
 exact⟨p.os.trans h.os,p.tape.trans h.tape,p.output.trans h.output,aT h.size p.size,λ j f=>(p.block j ⟨cB f h.size,λ e=>by have:=(a.qU j e).1;omega⟩).trans (h.block j f)⟩
