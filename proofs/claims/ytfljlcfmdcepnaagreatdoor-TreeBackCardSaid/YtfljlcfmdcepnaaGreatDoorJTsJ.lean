/-
  The tree: two pages side by side are made even: any two.
  Trees (plain): what stands behind the drop below, where the kid is poor.
  The tree: a poor kid and the one beside it are made even: what the calls of it do, one behind another.
-/
import Derived.Test.YtfljlcfmdcepnaaGreatDoorJTsG
import Derived.Test.YtfljlcfmdcepnaaGreatDoorJTsS
namespace Go.Proofs.YtfljlcfmdcepnaaGreatDoor
open Go.RowKit
open UK (str BytesAt nth Only Row Box)
section
variable {W W' : World} {a b Na Ma Nb Mb kc vc ac kd vd ad : Nat} {ka va aa kb vb ab : Option Addr} {xa xb : Nd}
theorem even_any (ha : NodeM Na Ma W a xa ka va aa kc vc ac) (hb : NodeM Nb Mb W b xb kb vb ab kd vd ad) (hMN : Ma ≤ Nb) (hl : xa.leaf = xb.leaf) (fa : Fits xa) (fb : Fits xb) (pa : 0 < xa.keys.length) (pb : 0 < xb.keys.length) (κ : UInt64) :
    Calls Tryz.prog 145 #[.pointer (some ⟨a, 0, none⟩), .pointer (some ⟨b, 0, none⟩), .int .u64 κ.toNat] W (EvenR Na Ma Nb Mb W a b xa xb κ) := by
  obtain ⟨la, ks, vs, cs⟩ := xa
  obtain ⟨lb, ls, ws, ds⟩ := xb
  dsimp only at hl pa pb
  subst hl
  cases la with
  | true =>
    obtain ⟨f1, f2, f3⟩ := fa.leaf rfl
    obtain ⟨g1, g2, g3⟩ := fb.leaf rfl
    dsimp only at f1 f2 f3 g1 g2 g3
    subst f3 g3
    by_cases hj : ks.length + ls.length ≤ 30
    · exact even_leaf_one ha hb hMN f2 g2 pa pb hj κ
    · exact even_leaf_two ha hb hMN f2 g2 pa pb rfl (by omega) (by omega) rfl κ
  | false =>
    obtain ⟨f1, f2, f3, f4, _⟩ := fa.inner rfl
    obtain ⟨g1, g2, g3, g4, _⟩ := fb.inner rfl
    dsimp only at f1 f2 f3 f4 g1 g2 g3 g4
    subst f4 g4
    exact even_inner ha hb hMN pa pb (by omega) (by omega) rfl rfl (by omega) (by omega) rfl κ
end
end Go.Proofs.YtfljlcfmdcepnaaGreatDoor
namespace Go.Proofs.YtfljlcfmdcepnaaGreatDoor
open Go.RowKit
open UK (str BytesAt nth Only)
structure PairOk (B : AP) (pg : Nat) (keys : List UInt64) (kids : List Nat) (m ca cb : Nat) (κ : UInt64) (xa xb : Nd) : Prop where
  ka : kids[m]? = some ca
  kb : kids[m + 1]? = some cb
  k : keys[m]? = some κ
  na : ndAt B ca = some xa
  nb : ndAt B cb = some xb
  leaf : xa.leaf = xb.leaf
  ha : B.Has ca
  hb : B.Has cb
  hp : B.Has pg
  ne : ca ≠ cb
  pa : pg ≠ ca
  pb : pg ≠ cb
  k0a : 0 < xa.keys.length
  k0b : 0 < xb.keys.length
  f1 : Fits (evenN xa xb κ).1
  f2 : (evenN xa xb κ).2.2.2 = false → Fits (evenN xa xb κ).2.1
  clen : ∀ p, B.Has p → (B.c p).length = 504
  good : B.Good
theorem k0_of {f : Nat → Option Nd} {p : Nat} {x : Nd} (hx : f p = some x) (fx : Fits x) (h : Fat f p ∨ Slim f p) : 0 < x.keys.length := by
  rcases h with ⟨y, hy, h1, h2⟩ | ⟨y, hy, h1, h2⟩
  · rw [hx] at hy
    obtain rfl := Option.some.inj hy
    cases hl : x.leaf with
    | true => have := h1 hl; omega
    | false => have := h2 hl; have := (fx.inner hl).1; omega
  · rw [hx] at hy
    obtain rfl := Option.some.inj hy
    cases hl : x.leaf with
    | true => have := h1 hl; omega
    | false => have := (h2 hl).1; have := (fx.inner hl).1; omega
theorem drop_pair {k : UInt64} {d i c : Nat} {A B : AP} {s : Sb} {keys : List UInt64} {kids : List Nat} {was : Bool} (hT : Tr (ndAt A) (d + 1) s) (hnd : s.ps.Nodup) (hh : ∀ p ∈ s.ps, A.Has p) (hg : A.Good) (hc : ∀ p, A.Has p → (A.c p).length = 504)
    (hn : ndAt A s.pg = some ⟨false, keys, [], kids⟩) (hix : KidIx keys k i) (hkid : kids[i]? = some c) (hrec : DropS k d A c B was true) :
    ∃ ca cb κ xa xb, PairOk B s.pg keys kids (pairN kids.length i) ca cb κ xa xb := by
  obtain ⟨subs, t, hK, hpt, rfl, hTt, hFt⟩ := hT.kid hn hkid
  obtain ⟨gone, hO⟩ := drop_ok hrec t hTt hpt (hK.tn hnd) (fun p hp => hh p (hK.sub p hp)) hg hc
  obtain ⟨t', hM, hpg', hF, _, z2, hw⟩ := mid_of hK hix hT.mem hnd hh hFt hO
  have hf := (dec_fits hn).inner rfl
  dsimp only at hf
  obtain ⟨z1, z3, _⟩ := hf
  have hi := (List.getElem?_eq_some_iff.1 hkid).1
  obtain ⟨m, hm⟩ : ∃ m, m = pairN (subs.map Sb.pg).length i := ⟨_, rfl⟩
  have hml : m + 1 < (subs.map Sb.pg).length := by
    rw [hm]
    unfold pairN
    split <;> omega
  obtain ⟨ca, hca⟩ : ∃ c, (subs.map Sb.pg)[m]? = some c := ⟨_, List.getElem?_eq_getElem (by omega)⟩
  obtain ⟨cb, hcb⟩ : ∃ c, (subs.map Sb.pg)[m + 1]? = some c := ⟨_, List.getElem?_eq_getElem hml⟩
  obtain ⟨κ, hκ⟩ : ∃ c, keys[m]? = some c := ⟨_, List.getElem?_eq_getElem (by omega)⟩
  have hsub : ∀ (j : Nat) (q : Nat), (subs.map Sb.pg)[j]? = some q → ∃ u, u.pg = q ∧ u ∈ subs.take i ++ t' :: subs.drop (i + 1) := fun j q hq => by
    rw [← map_kid hK.at_ hpg'] at hq
    obtain ⟨u, hu, e⟩ := kids_at hq
    exact ⟨u, e, List.mem_of_getElem? hu⟩
  have hnode : ∀ q, (∃ u, u.pg = q ∧ u ∈ subs.take i ++ t' :: subs.drop (i + 1)) → ∃ x, ndAt B q = some x ∧ (Fat (ndAt B) q ∨ Slim (ndAt B) q) := fun q ⟨u, e, hu⟩ => by
    have hTu := hM.inn.all u hu
    have hx : ∃ x, ndAt B u.pg = some x := by
      cases d with
      | zero => obtain ⟨_, _, h, _⟩ := hTu; exact ⟨_, h⟩
      | succ d => obtain ⟨_, _, h, _⟩ := hTu; exact ⟨_, h⟩
    obtain ⟨x, hx⟩ := hx
    refine ⟨x, e ▸ hx, ?_⟩
    rcases List.mem_append.1 hu with h | h
    · exact .inl (e ▸ hF u (by simp [h]))
    · rcases List.mem_cons.1 h with rfl | h
      · exact .inr (by rw [← e, hpg']; exact z2 rfl)
      · exact .inl (e ▸ hF u (by simp [h]))
  obtain ⟨xa, hxa, ga⟩ := hnode ca (hsub m ca hca)
  obtain ⟨xb, hxb, gb⟩ := hnode cb (hsub (m + 1) cb hcb)
  obtain ⟨sa, sb, ea, eb, hP⟩ := pair_of hK.at_ hM hpg' hF (z2 rfl) hm hca hcb hκ hxa hxb
  have hPF := hM.pairF hP
  have hHas := hM.has hh
  have hE := even_tr hPF.ta hPF.tb hPF.nod hP.na hP.nb (dec_fits hxa) (dec_fits hxb) hPF.lo hPF.hi hP.many (x := (evenN xa xb κ).1) (y := (evenN xa xb κ).2.1) (κ' := (evenN xa xb κ).2.2.1) (one := (evenN xa xb κ).2.2.2) rfl
  rw [← hm]
  refine ⟨ca, cb, κ, xa, xb, hca, hcb, hκ, hxa, hxb, ?_, ?_, ?_, hHas s.pg (by simp), ?_, ?_, ?_, k0_of hxa (dec_fits hxa) ga, k0_of hxb (dec_fits hxb) gb, ?_, fun h => (hE.2 h).2.1, hM.chg.clen, hM.chg.good hg⟩
  · exact same_kind hPF.ta hPF.tb hP.na hP.nb
  · rw [← ea]; exact hHas _ hPF.ha
  · rw [← eb]; exact hHas _ hPF.hb
  · rw [← ea, ← eb]; exact hPF.ne
  · rw [← ea]; exact Ne.symm hPF.na
  · rw [← eb]; exact Ne.symm hPF.nb
  · cases ho : (evenN xa xb κ).2.2.2 with
    | true => exact (hE.1 ho).1
    | false => exact (hE.2 ho).1
end Go.Proofs.YtfljlcfmdcepnaaGreatDoor
namespace Go.Proofs.YtfljlcfmdcepnaaGreatDoor
open Go.RowKit
open UK (str BytesAt nth Only Row Box)
section
variable {E : Nat → Prop} {W W' : World} {P D T rt k pg N nb kc vc ac : Nat} {A : AP} {ka va aa : Option Addr}
theorem NodeR.mono {S S' : Nat → Prop} {x : Nd} (h : NodeR S W nb x) (hs : ∀ j, S j → S' j) : NodeR S' W nb x := by
  obtain ⟨kv, vv, av, b, hnb, h1, h2, h3⟩ := h
  exact ⟨kv, vv, av, b, hs _ hnb, h1.mono hs, h2.mono hs, h3.mono hs⟩
def ndB (ka va aa : Option Addr) (nb j : Nat) : Prop := slB ka j ∨ slB va j ∨ slB aa j ∨ j = nb
def MendR (E : Nat → Prop) (W w' : World) (P D T rt nb : Nat) (R : Nat → Prop) (B : AP) (K : Nat) (x : Nd) : Prop :=
  ∃ L H kk, W.heap.size ≤ L ∧ PZ (fun j => E j ∨ (L ≤ j ∧ j < H)) w' P D B kk ∧ kk ≤ K ∧ NodeR (fun j => E j ∨ (L ≤ j ∧ j < H)) w' nb x ∧ Box w' T #[.pointer (some ⟨P, 0, none⟩), .int .i64 rt] ∧ Kept (fun j => E j ∧ ¬ R j) W w'
theorem node_set_key {w : World} {gk m : Nat} {keys : List UInt64} {kids : List Nat} {κ' : UInt64} (h : NodeO N w nb ⟨false, keys, [], kids⟩ (some ⟨gk, 0, none⟩) va aa kc vc ac) (hm : m < keys.length) (hE : ∀ g, ndB (some ⟨gk, 0, none⟩) va aa nb g → E g) :
    NodeR E (w.setCell ⟨gk, m, none⟩ (.int .u64 (κ'.toNat : Int))) nb ⟨false, keys.set m κ', [], kids⟩ ∧ Only gk w (w.setCell ⟨gk, m, none⟩ (.int .u64 (κ'.toNat : Int))) := by
  have o : Only gk w (w.setCell ⟨gk, m, none⟩ (.int .u64 (κ'.toNat : Int))) := (Only.refl gk w).set m _
  have hne : nb ≠ gk := fun e => (h.new gk (.inl rfl)).2 e.symm
  obtain ⟨g, e, r⟩ : ∃ g, (some ⟨gk, 0, none⟩ : Option Addr) = some ⟨g, 0, none⟩ ∧ Row w g kc (u64s keys) := by
    rcases h.k with hz | h1
    · cases hz.1
    · exact h1
  injection e with e; injection e with e; subst e
  have r3 := r.set m (.int .u64 (κ'.toNat : Int)) (by rw [u64s_length]; exact hm)
  rw [u64s_set] at r3
  refine ⟨⟨.slice (some ⟨gk, 0, none⟩) keys.length kc, .slice va 0 vc, .slice aa kids.length ac, h.box.only o hne, hE nb (.inr (.inr (.inr rfl))), ?_, ?_, ?_⟩, o⟩
  · have := winRow (S := E) r3 (hE gk (.inl rfl))
    rw [u64s_length, List.length_set] at this; exact this
  · exact ⟨va, vc, rfl, Nat.zero_le _, fun j u hj => (by cases hj)⟩
  · have := (h.a.only o (fun e => h.ka gk rfl e)).win (S := E) (fun g hg => hE g (.inr (.inr (.inl hg))))
    rw [ints_length] at this; exact this
theorem mend_chain {keys : List UInt64} {kids : List Nat} {m ca cb gk : Nat} {κ : UInt64} {xa xb : Nd} (p : PZ E W P D A k) (hk : k + 20 < 900000000) (hb : Box W T #[.pointer (some ⟨P, 0, none⟩), .int .i64 rt]) (hT : E T)
    (hn : NodeO N W nb ⟨false, keys, [], kids⟩ (some ⟨gk, 0, none⟩) va aa kc vc ac) (hE : ∀ g, ndB (some ⟨gk, 0, none⟩) va aa nb g → E g) (hTR : ¬ ndB (some ⟨gk, 0, none⟩) va aa nb T) (htab : ¬ ndB (some ⟨gk, 0, none⟩) va aa nb 0) (ok : PairOk A pg keys kids m ca cb κ xa xb) :
    Calls Tryz.prog 76 #[.pointer (some ⟨T, 0, none⟩), .int .i64 ca] W fun e w1 => ∃ a : Nat, e = .returned (.tuple #[.pointer (some ⟨a, 0, none⟩), .int .i64 0]) ∧ Kept E W w1 ∧
      Calls Tryz.prog 76 #[.pointer (some ⟨T, 0, none⟩), .int .i64 cb] w1 fun e w2 => ∃ b : Nat, e = .returned (.tuple #[.pointer (some ⟨b, 0, none⟩), .int .i64 0]) ∧ Kept E W w2 ∧ w2.cell? ⟨a, 0, none⟩ = some (.bool xa.leaf) ∧ w2.cell? ⟨b, 0, none⟩ = some (.bool xa.leaf) ∧ ∀ q,
        Calls Tryz.prog 145 #[.pointer (some ⟨a, 0, none⟩), .pointer (some ⟨b, 0, none⟩), .int .u64 κ.toNat] (w2.drewN q) fun e w3 => e = .returned (.tuple #[.int .u64 ((evenN xa xb κ).2.2.1.toNat : Int), .bool (evenN xa xb κ).2.2.2]) ∧ Kept E W w3 ∧
          Calls Tryz.prog 78 #[.pointer (some ⟨T, 0, none⟩), .int .i64 ca, .pointer (some ⟨a, 0, none⟩)] w3 fun e w4 => e = .returned (.int .i64 0) ∧ Kept E W w4 ∧
            ((evenN xa xb κ).2.2.2 = false → Calls Tryz.prog 78 #[.pointer (some ⟨T, 0, none⟩), .int .i64 cb, .pointer (some ⟨b, 0, none⟩)] (w4.setCell ⟨gk, m, none⟩ (.int .u64 ((evenN xa xb κ).2.2.1.toNat : Int))) fun e w5 => e = .returned (.int .i64 0) ∧
              MendR E W w5 P D T rt nb (ndB (some ⟨gk, 0, none⟩) va aa nb) ((A.wrote ca (encN (A.c ca) (evenN xa xb κ).1)).wrote cb (encN ((A.wrote ca (encN (A.c ca) (evenN xa xb κ).1)).c cb) (evenN xa xb κ).2.1)) (k + 20) ⟨false, keys.set m (evenN xa xb κ).2.2.1, [], kids⟩) ∧
            ((evenN xa xb κ).2.2.2 = true → PZ E w4 P D (A.wrote ca (encN (A.c ca) (evenN xa xb κ).1)) (k + 7)) := by
  have hEl := p.there
  refine (load_any p (by omega) hb ok.ha ok.na).mono ?_
  rintro e w1 ⟨Na, Ma, a, ga, gva, gaa, c1, c2, c3, rfl, hNa, hMa, ⟨oa, hal, hag⟩, p1, k1⟩
  refine ⟨a, rfl, k1, ?_⟩
  have hb1 := hb.of_block (k1.block T hT)
  refine (load_any p1 (by omega) hb1 ok.hb ok.nb).mono ?_
  rintro e w2 ⟨Nb, Mb, b, gb, gvb, gab, d1, d2, d3, rfl, hNb, hMb, ⟨ob, hbl, hbg⟩, p2, k2⟩
  have k12 : Kept E W w2 := k1.trans (k2.mono (fun _ hj => .inl hj))
  have oa2 := oa.move hal hag k2.size (fun g h1 h2 => k2.block g (.inr ⟨h1, h2⟩))
  refine ⟨b, rfl, k12, oa2.box.cell 0 _ rfl, by rw [ok.leaf]; exact ob.box.cell 0 _ rfl, fun q => ?_⟩
  have bq : Below w2.heap.size w2 (w2.drewN q) := UK.belowN (Below.refl _ _) q
  refine (even_any (Na := Na) (Ma := Ma) (Nb := Nb) (Mb := Mb) ⟨oa2.next bq, hal, hag⟩ ⟨ob.next bq, hbl, hbg⟩ (by omega) ok.leaf (dec_fits ok.na) (dec_fits ok.nb) ok.k0a ok.k0b κ).mono ?_
  rintro e w3 ⟨he, ra, rb, k3⟩
  have hs2 : (w2.drewN q).heap.size = w2.heap.size := rfl
  rw [hs2] at ra rb k3
  have hW2 := k12.size
  have hW1 := k1.size
  have kq : Kept E w2 (w2.drewN q) := Kept.of_below bq (fun j hj => Nat.lt_of_lt_of_le (hEl j hj) hW2)
  have k13 : Kept E W w3 := (k12.trans kq).trans (k3.mono (fun j hj => ⟨Nat.lt_of_lt_of_le (hEl j hj) hW2, fun h => by have := hEl j hj; omega⟩))
  refine ⟨he, k13, ?_⟩
  have htl := p.tab.lt
  have p3 : PZ (fun j => E j ∨ ((Na ≤ j ∧ j < Ma) ∨ (Nb ≤ j ∧ j < Mb) ∨ (w2.heap.size ≤ j ∧ j < w3.heap.size))) w3 P D A (k + 2 + 2) :=
    (p2.next bq).over (R := fun j => (Na ≤ j ∧ j < Ma) ∨ (Nb ≤ j ∧ j < Mb)) (fun j hj => by
      rcases hj with h | h
      · exact .inl (.inr h)
      · exact .inr h) (fun h => by omega) k3.size (fun j hj hr => k3.block j ⟨hj, hr⟩) (fun j hj => by
      rcases hj with h | h | h | h
      · exact .inl (.inl (.inl h))
      · exact .inl (.inl (.inr h))
      · exact .inl (.inr h)
      · exact .inr h)
  have hb3 := hb.of_block (k13.block T hT)
  have ra3 := ra.mono (S' := fun j => E j ∨ ((Na ≤ j ∧ j < Ma) ∨ (Nb ≤ j ∧ j < Mb) ∨ (w2.heap.size ≤ j ∧ j < w3.heap.size))) (fun j hj => .inr hj)
  refine (store_any p3 (by omega) hb3 ok.ha ra3 ok.f1).mono ?_
  rintro e w4 ⟨rfl, p4, k4⟩
  have k14 : Kept E W w4 := k13.trans (k4.mono (fun _ hj => .inl hj))
  refine ⟨rfl, k14, fun hone => ?_, fun hone => (p4.less (fun _ hj => .inl hj)).up (by omega)⟩
  have hW4 := k14.size
  have hn4 : NodeO N w4 nb ⟨false, keys, [], kids⟩ (some ⟨gk, 0, none⟩) va aa kc vc ac :=
    ⟨hn.box.of_block (k14.block nb (hE nb (.inr (.inr (.inr rfl))))), hn.k.of_block hW4 (fun j hj => k14.block j (hE j (.inl hj))), hn.v.of_block hW4 (fun j hj => k14.block j (hE j (.inr (.inl hj)))), hn.a.of_block hW4 (fun j hj => k14.block j (hE j (.inr (.inr (.inl hj))))), hn.ge, hn.new, hn.kv, hn.ka, hn.va⟩
  have hml := (List.getElem?_eq_some_iff.1 ok.k).1
  obtain ⟨rn, on⟩ := node_set_key (κ' := (evenN xa xb κ).2.2.1) hn4 hml hE
  generalize w4.setCell ⟨gk, m, none⟩ (.int .u64 ((evenN xa xb κ).2.2.1.toNat : Int)) = w5 at rn on ⊢
  have hgk : E gk := hE gk (.inl rfl)
  have hgl := hEl gk hgk
  have p5 : PZ (fun j => E j ∨ ((Na ≤ j ∧ j < Ma) ∨ (Nb ≤ j ∧ j < Mb) ∨ (w2.heap.size ≤ j ∧ j < w3.heap.size))) w5 P D (A.wrote ca (encN (A.c ca) (evenN xa xb κ).1)) (k + 2 + 2 + 3) :=
    p4.over (R := fun j => j = gk) (fun j hj => by rw [hj]; exact .inl hgk) (fun h => htab (.inl (congrArg (fun x => some (⟨x, 0, none⟩ : Addr)) (show gk = _ from h.symm)))) on.size (fun j hj hr => on.block j hj hr) (fun j hj => .inl hj)
  have kS : Kept (fun j => (Na ≤ j ∧ j < Ma) ∨ (Nb ≤ j ∧ j < Mb) ∨ (w2.heap.size ≤ j ∧ j < w3.heap.size)) w3 w5 :=
    (k4.mono (fun _ hj => .inr hj)).trans ⟨on.os, on.tape, on.output, on.size, fun j hj => on.block j (Nat.lt_of_lt_of_le (p3.there j (.inr hj)) k4.size) (fun e => by omega)⟩
  have rb5 := ((rb hone).kept_ kS).mono (S' := fun j => E j ∨ ((Na ≤ j ∧ j < Ma) ∨ (Nb ≤ j ∧ j < Mb) ∨ (w2.heap.size ≤ j ∧ j < w3.heap.size))) (fun j hj => .inr hj)
  have kT : Kept (fun j => E j ∧ ¬ ndB (some ⟨gk, 0, none⟩) va aa nb j) w4 w5 := ⟨on.os, on.tape, on.output, on.size, fun j hj => on.block j (Nat.lt_of_lt_of_le (hEl j hj.1) hW4) (fun e => hj.2 (by rw [e]; exact .inl rfl))⟩
  have k15 : Kept (fun j => E j ∧ ¬ ndB (some ⟨gk, 0, none⟩) va aa nb j) W w5 := (k14.mono (fun _ hj => hj.1)).trans kT
  have hb5 := hb.of_block (k15.block T ⟨hT, hTR⟩)
  refine (store_any p5 (by omega) hb5 (AP.wrote_has.2 ok.hb) rb5 (ok.f2 hone)).mono ?_
  rintro e w6 ⟨rfl, p6, k6⟩
  refine ⟨rfl, W.heap.size, W.heap.size, _, Nat.le_refl _, p6.less (fun j hj => ?_), by omega, (rn.kept_ (k6.mono (fun _ hj => .inl hj))).mono (fun _ hj => .inl hj), hb5.of_block (k6.block T (.inl hT)), k15.trans (k6.mono (fun _ hj => .inl hj.1))⟩
  rcases hj with h | h
  · exact .inl h
  · omega
theorem mend_gone {w4 wc : World} {l : List UInt64} {cs : List Nat} {q : Nat} (hb : Box W T #[.pointer (some ⟨P, 0, none⟩), .int .i64 rt]) (hT : E T) (p : PZ E w4 P D A k) (hk : k + 20 < 900000000) (k4 : Kept E W w4)
    (hE : ∀ g, ndB ka va aa nb g → E g) (hTR : ¬ ndB ka va aa nb T) (htab : ¬ ndB ka va aa nb 0) (hq : A.Has q) (hEl : ∀ j, E j → j < W.heap.size)
    (hcut : PutI N w4 wc nb ka va aa l cs) :
    Calls Tryz.prog 81 #[.pointer (some ⟨P, 0, none⟩), .int .i64 q] wc (fun e w' => e = .returned (.int .i64 0) ∧ MendR E W w' P D T rt nb (ndB ka va aa nb) (A.give q) (k + 1) ⟨false, l, [], cs⟩) ∧ wc.cell? ⟨T, 0, none⟩ = some (.pointer (some ⟨P, 0, none⟩)) := by
  obtain ⟨ka', aa', c, vc', c2, hn2, k2, hoa, hob⟩ := hcut
  have hW4 := k4.size
  have p5 : PZ (fun j => E j ∨ (w4.heap.size ≤ j ∧ j < wc.heap.size)) wc P D A k :=
    p.over (R := ndB ka va aa nb) hE htab k2.size (fun j hj hr => k2.block j ⟨hj, hr⟩) (fun j hj => hj)
  have k5 : Kept (fun j => E j ∧ ¬ ndB ka va aa nb j) W wc := (k4.mono (fun _ hj => hj.1)).trans (k2.mono (fun j hj => ⟨Nat.lt_of_lt_of_le (hEl j hj.1) hW4, hj.2⟩))
  have hb5 := hb.of_block (k5.block T ⟨hT, hTR⟩)
  have r5 : NodeR (fun j => E j ∨ (w4.heap.size ≤ j ∧ j < wc.heap.size)) wc nb ⟨false, l, [], cs⟩ := hn2.reads (.inl (hE nb (.inr (.inr (.inr rfl))))) (fun g hg => by
    rcases hg with hg | hg | hg
    · rcases hoa g hg with h1 | h1
      · exact .inl (hE g (.inl h1))
      · exact .inr ⟨h1, slB_lt hn2.k hg⟩
    · exact .inl (hE g (.inr (.inl hg)))
    · rcases hob g hg with h1 | h1
      · exact .inl (hE g (.inr (.inr (.inl h1))))
      · exact .inr ⟨h1, slB_lt hn2.a hg⟩)
  refine ⟨(pz_give p5 (by omega) q hq).mono ?_, hb5.cell 0 _ rfl⟩
  rintro e w6 ⟨rfl, p6, k6⟩
  exact ⟨rfl, w4.heap.size, wc.heap.size, k + 1, hW4, p6, Nat.le_refl _, r5.kept_ k6, hb5.of_block (k6.block T (.inl hT)), k5.trans (k6.mono (fun _ hj => .inl hj.1))⟩
end
end Go.Proofs.YtfljlcfmdcepnaaGreatDoor
