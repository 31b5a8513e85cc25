/-
  Trees (plain): behind drop, the tree.
  Trees (plain): behind drop, the tree: all ways.
-/
import Derived.Test.YtfljlcfmdcepnaaGreatDoorJTrY
namespace Go.Proofs.YtfljlcfmdcepnaaGreatDoor
open Go.RowKit
open UK (str BytesAt nth Only)
def Slim (f : Nat → Option Nd) (p : Nat) : Prop := ∃ x, f p = some x ∧ (x.leaf = true → x.keys.length = 14) ∧ (x.leaf = false → 15 ≤ x.kids.length ∧ x.kids.length < 20)
structure DropOut (A B : AP) (d : Nat) (s : Sb) (k : UInt64) (was poor : Bool) (gone : List Nat) : Prop where
  chg : ChgD A B s.ps gone
  sub : ∀ p ∈ gone, p ∈ s.ps ∧ p ≠ s.pg
  nod : gone.Nodup
  tree : ∃ d' t, Tr (ndAt B) d' t ∧ t.pg = s.pg ∧ t.l = delL s.l k ∧ t.ps.Nodup ∧ (∀ p, p ∈ t.ps ↔ p ∈ s.ps ∧ p ∉ gone) ∧ (d' = d ∨ (d' + 1 = d ∧ ¬ Fat (ndAt A) s.pg))
  size : Fat (ndAt A) s.pg → (poor = false → Fat (ndAt B) s.pg) ∧ (poor = true → Slim (ndAt B) s.pg)
  was : was = true ↔ ∃ x ∈ s.l, x.1 = k
structure Mid (A B : AP) (d : Nat) (s : Sb) (keys : List UInt64) (subs : List Sb) (k : UInt64) (gone : List Nat) : Prop where
  nd : ndAt B s.pg = some ⟨false, keys, [], subs.map Sb.pg⟩
  inn : InN (fun u => Tr (ndAt B) d u) keys subs
  l : flatL subs = delL s.l k
  nod : (s.pg :: flatP subs).Nodup
  ps : ∀ p, p ∈ s.pg :: flatP subs ↔ p ∈ s.ps ∧ p ∉ gone
  chg : ChgD A B s.ps gone
  gsub : ∀ p ∈ gone, p ∈ s.ps ∧ p ≠ s.pg
  gnod : gone.Nodup
theorem Mid.has {A B : AP} {d : Nat} {s : Sb} {keys : List UInt64} {subs : List Sb} {k : UInt64} {gone : List Nat} (h : Mid A B d s keys subs k gone) (hh : ∀ p ∈ s.ps, A.Has p) : ∀ p ∈ s.pg :: flatP subs, B.Has p := fun p hp => by
  obtain ⟨a, b⟩ := (h.ps p).1 hp
  exact (h.chg.has p).2 ⟨hh p a, b⟩
theorem any_flat {subs : List Sb} {i : Nat} {t : Sb} {k : UInt64} (h : subs[i]? = some t) (hl : ∀ x ∈ flatL (subs.take i), x.1.toNat < k.toNat) (hr : ∀ x ∈ flatL (subs.drop (i + 1)), k.toNat < x.1.toNat) : (∃ x ∈ flatL subs, x.1 = k) ↔ ∃ x ∈ t.l, x.1 = k := by
  rw [flatL_at h]
  constructor
  · rintro ⟨x, hx, e⟩
    rcases List.mem_append.1 hx with h1 | h1
    · have := hl x h1; rw [e] at this; omega
    · rcases List.mem_append.1 h1 with h1 | h1
      · exact ⟨x, h1, e⟩
      · have := hr x h1; rw [e] at this; omega
  · rintro ⟨x, hx, e⟩
    exact ⟨x, by simp [hx], e⟩
theorem mid_of {A B : AP} {d i : Nat} {s t : Sb} {keys : List UInt64} {subs : List Sb} {k : UInt64} {gone : List Nat} {was poor : Bool} (hK : KidAt A d s keys subs i t) (hix : KidIx keys k i) (hpgm : s.pg ∈ s.ps) (hnd : s.ps.Nodup) (hh : ∀ p ∈ s.ps, A.Has p) (hFt : Fat (ndAt A) t.pg) (hO : DropOut A B d t k was poor gone) :
    ∃ t', Mid A B d s keys (subs.take i ++ t' :: subs.drop (i + 1)) k gone ∧ t'.pg = t.pg ∧ (∀ u ∈ subs.take i ++ subs.drop (i + 1), Fat (ndAt B) u.pg) ∧ (poor = false → Fat (ndAt B) t.pg) ∧ (poor = true → Slim (ndAt B) t.pg) ∧ (was = true ↔ ∃ x ∈ s.l, x.1 = k) := by
  obtain ⟨d', t', hT', hpg', hl', hn', hm', hd'⟩ := hO.tree
  obtain rfl : d' = d := by
    rcases hd' with h | h
    · exact h
    · exact absurd hFt h.2
  obtain ⟨z1, z2⟩ := hO.size hFt
  have hord := (hK.inn.imp (Q := fun _ => True) (fun _ _ _ => trivial)).set hK.at_ hix (t := t') (fun x hx => by
    rw [hl'] at hx
    exact .inl (mem_delL hx)) trivial
  have hgs : ∀ p ∈ gone, p ∈ t.ps := fun p hp => (hO.sub p hp).1
  have hother : ∀ u ∈ subs.take i ++ subs.drop (i + 1), Tr (ndAt B) d' u ∧ Fat (ndAt B) u.pg := fun u hu => by
    have hus : u ∈ subs := by
      rcases List.mem_append.1 hu with h | h
      · exact List.mem_of_mem_take h
      · exact List.mem_of_mem_drop h
    obtain ⟨a, b⟩ := hK.inn.all u hus
    have ho := hK.other hnd u hu
    obtain ⟨a', b'⟩ := Tr.chgD a hO.chg (fun p hp => (hO.chg.has p).2 ⟨hh p (ho p hp).2.2, fun hg => (ho p hp).1 (hgs p hg)⟩) (fun p hp => (ho p hp).1)
    exact ⟨a', b' b⟩
  have hpgB : B.Has s.pg := (hO.chg.has _).2 ⟨hh _ hpgm, fun hg => hK.pg_not hnd (hgs _ hg)⟩
  have hnB : ndAt B s.pg = ndAt A s.pg := by unfold ndAt; rw [hO.chg.same s.pg hpgB (hK.pg_not hnd)]
  have hlow := flat_below (hK.inn.left hK.at_ hix.below)
  have hhigh := flat_above (hK.inn.right hK.at_ hix.above)
  refine ⟨t', ⟨?_, ⟨hord.len, hord.ord, fun u hu => ?_⟩, ?_, ?_, fun p => ?_, hO.chg.wider hK.sub, fun p hp => ⟨hK.sub p (hgs p hp), fun e => hK.pg_not hnd (e ▸ hgs p hp)⟩, hO.nod⟩, hpg', fun u hu => (hother u hu).2, z1, z2, ?_⟩
  · rw [hnB, hK.nd, map_kid hK.at_ hpg']
  · rcases List.mem_append.1 hu with h | h
    · exact (hother u (by simp [h])).1
    · rcases List.mem_cons.1 h with rfl | h
      · exact hT'
      · exact (hother u (by simp [h])).1
  · rw [hK.l, flatL_at hK.at_, flatL_app, flatL_cons, hl', delL_mid hlow hhigh]
  · have := nodup_swap (new := []) (hK.nodup hnd) hn' (fun p hp => .inl ((hm' p).1 hp).1) (fun p hp => by cases hp)
    rw [flatP_app, flatP_cons]
    exact this
  · have hnd2 := hK.nodup hnd
    rw [List.nodup_append, List.nodup_append] at hnd2
    obtain ⟨q1, ⟨q2, q3, q4⟩, q5⟩ := hnd2
    rw [hK.ps, flatP_at hK.at_, flatP_app, flatP_cons, ← List.cons_append, ← List.cons_append, mid_mem, mid_mem, hm' p]
    constructor
    · rintro ((h | h) | ⟨h, h2⟩)
      · exact ⟨.inl (.inl h), fun hg => q5 p h p (by simp [hgs p hg]) rfl⟩
      · exact ⟨.inl (.inr h), fun hg => q4 p (hgs p hg) p h rfl⟩
      · exact ⟨.inr h, h2⟩
    · rintro ⟨(h | h) | h, h2⟩
      · exact .inl (.inl h)
      · exact .inl (.inr h)
      · exact .inr ⟨h, h2⟩
  · rw [hO.was, hK.l]
    exact (any_flat hK.at_ hlow hhigh).symm
structure Pair (B : AP) (d m : Nat) (keys : List UInt64) (subs : List Sb) (a b : Sb) (κ : UInt64) (xa xb : Nd) : Prop where
  sa : subs[m]? = some a
  sb : subs[m + 1]? = some b
  k : keys[m]? = some κ
  na : ndAt B a.pg = some xa
  nb : ndAt B b.pg = some xb
  many : Enough xa xb
  rest : ∀ u ∈ subs.take m ++ subs.drop (m + 2), Fat (ndAt B) u.pg
theorem slim_fat {f : Nat → Option Nd} {p q : Nat} {xa xb : Nd} (ha : f p = some xa) (hb : f q = some xb) (hl : xa.leaf = xb.leaf) (h : (Slim f p ∧ Fat f q) ∨ (Fat f p ∧ Slim f q)) : Enough xa xb := by
  rcases h with ⟨⟨x, h1, h2, h3⟩, ⟨y, h4, h5, h6⟩⟩ | ⟨⟨x, h1, h5, h6⟩, ⟨y, h4, h2, h3⟩⟩
  · rw [ha] at h1
    rw [hb] at h4
    obtain rfl := Option.some.inj h1
    obtain rfl := Option.some.inj h4
    refine ⟨fun e => ?_, fun e => ?_⟩
    · have := h2 e; have := h5 (hl ▸ e); omega
    · have := h3 e; have := h6 (hl ▸ e); omega
  · rw [ha] at h1
    rw [hb] at h4
    obtain rfl := Option.some.inj h1
    obtain rfl := Option.some.inj h4
    refine ⟨fun e => ?_, fun e => ?_⟩
    · have := h5 e; have := h2 (hl ▸ e); omega
    · have := h6 e; have := h3 (hl ▸ e); omega
theorem same_kind {f : Nat → Option Nd} {d : Nat} {a b : Sb} {xa xb : Nd} (ha : Tr f d a) (hb : Tr f d b) (h1 : f a.pg = some xa) (h2 : f b.pg = some xb) : xa.leaf = xb.leaf := by
  cases d with
  | zero =>
    obtain ⟨_, _, a1, _⟩ := ha
    obtain ⟨_, _, b1, _⟩ := hb
    rw [h1] at a1
    rw [h2] at b1
    rw [Option.some.inj a1, Option.some.inj b1]
  | succ d =>
    obtain ⟨_, _, a1, _⟩ := ha
    obtain ⟨_, _, b1, _⟩ := hb
    rw [h1] at a1
    rw [h2] at b1
    rw [Option.some.inj a1, Option.some.inj b1]
theorem pair_of {A B : AP} {d i m ca cb : Nat} {s t t' : Sb} {keys : List UInt64} {subs : List Sb} {k κ : UInt64} {gone : List Nat} {xa xb : Nd} (hi : subs[i]? = some t) (hM : Mid A B d s keys (subs.take i ++ t' :: subs.drop (i + 1)) k gone) (hpg : t'.pg = t.pg) (hF : ∀ u ∈ subs.take i ++ subs.drop (i + 1), Fat (ndAt B) u.pg) (hS : Slim (ndAt B) t.pg)
    (hm : m = pairN (subs.map Sb.pg).length i) (ha : (subs.map Sb.pg)[m]? = some ca) (hb : (subs.map Sb.pg)[m + 1]? = some cb) (hk : keys[m]? = some κ) (hxa : ndAt B ca = some xa) (hxb : ndAt B cb = some xb) :
    ∃ a b, a.pg = ca ∧ b.pg = cb ∧ Pair B d m keys (subs.take i ++ t' :: subs.drop (i + 1)) a b κ xa xb := by
  have hil := (List.getElem?_eq_some_iff.1 hi).1
  rw [← map_kid hi hpg] at ha hb
  obtain ⟨a, ha1, ha2⟩ := kids_at ha
  obtain ⟨b, hb1, hb2⟩ := kids_at hb
  have hmi : m = i ∨ m + 1 = i := by
    rw [hm, List.length_map]
    unfold pairN
    split <;> omega
  have hti : (subs.take i ++ t' :: subs.drop (i + 1))[i]? = some t' := by
    rw [List.getElem?_append_right (by rw [List.length_take]; omega), List.length_take, Nat.min_eq_left (by omega), Nat.sub_self]; rfl
  have hoth : ∀ (j : Nat) (u : Sb), j ≠ i → (subs.take i ++ t' :: subs.drop (i + 1))[j]? = some u → u ∈ subs.take i ++ subs.drop (i + 1) := fun j u hj hu => by
    rcases Nat.lt_or_ge j i with h | h
    · rw [List.getElem?_append_left (by rw [List.length_take]; omega)] at hu
      exact List.mem_append_left _ (List.mem_of_getElem? hu)
    · rw [List.getElem?_append_right (by rw [List.length_take]; omega), List.length_take, Nat.min_eq_left (by omega), show j - i = (j - i - 1) + 1 by omega, List.getElem?_cons_succ] at hu
      exact List.mem_append_right _ (List.mem_of_getElem? hu)
  have hTa := hM.inn.all a (List.mem_of_getElem? ha1)
  have hTb := hM.inn.all b (List.mem_of_getElem? hb1)
  subst ha2 hb2
  refine ⟨a, b, rfl, rfl, ha1, hb1, hk, hxa, hxb, slim_fat hxa hxb (same_kind hTa hTb hxa hxb) ?_, fun u hu => ?_⟩
  rotate_left
  · rcases List.mem_append.1 hu with h | h
    · obtain ⟨j, hj, e⟩ := List.getElem_of_mem h
      rw [List.length_take] at hj
      rw [List.getElem_take] at e
      exact hF u (hoth j u (by omega) (by rw [List.getElem?_eq_getElem (by omega), e]))
    · obtain ⟨j, hj, e⟩ := List.getElem_of_mem h
      rw [List.length_drop] at hj
      rw [List.getElem_drop] at e
      exact hF u (hoth (m + 2 + j) u (by omega) (by rw [List.getElem?_eq_getElem (by omega), e]))
  rcases hmi with rfl | h
  · rw [hti] at ha1
    obtain rfl := Option.some.inj ha1
    exact .inl ⟨by rw [hpg]; exact hS, hF b (hoth (m + 1) b (by omega) hb1)⟩
  · subst h
    rw [hti] at hb1
    obtain rfl := Option.some.inj hb1
    exact .inr ⟨hF a (hoth m a (by omega) ha1), by rw [hpg]; exact hS⟩
theorem flatP_two {subs : List Sb} {m : Nat} {a b : Sb} (ha : subs[m]? = some a) (hb : subs[m + 1]? = some b) : flatP subs = flatP (subs.take m) ++ ((a.ps ++ b.ps) ++ flatP (subs.drop (m + 2))) := by
  conv => lhs; rw [cut_two ha hb]
  rw [flatP_app, flatP_cons, flatP_cons, List.append_assoc]
theorem flatL_two {subs : List Sb} {m : Nat} {a b : Sb} (ha : subs[m]? = some a) (hb : subs[m + 1]? = some b) : flatL subs = flatL (subs.take m) ++ ((a.l ++ b.l) ++ flatL (subs.drop (m + 2))) := by
  conv => lhs; rw [cut_two ha hb]
  rw [flatL_app, flatL_cons, flatL_cons, List.append_assoc]
structure PairF (A B : AP) (d m : Nat) (s : Sb) (keys : List UInt64) (subs : List Sb) (a b : Sb) (κ : UInt64) : Prop where
  ta : Tr (ndAt B) d a
  tb : Tr (ndAt B) d b
  nod : (a.ps ++ b.ps).Nodup
  lo : ∀ x ∈ a.l, x.1.toNat < κ.toNat
  hi : ∀ x ∈ b.l, κ.toNat ≤ x.1.toNat
  ne : a.pg ≠ b.pg
  na : a.pg ≠ s.pg
  nb : b.pg ≠ s.pg
  ha : a.pg ∈ s.pg :: flatP subs
  hb : b.pg ∈ s.pg :: flatP subs
  big : ((s.pg :: flatP (subs.take m)) ++ ((a.ps ++ b.ps) ++ flatP (subs.drop (m + 2)))).Nodup
theorem Mid.pairF {A B : AP} {d m : Nat} {s : Sb} {keys : List UInt64} {subs : List Sb} {k κ : UInt64} {gone : List Nat} {a b : Sb} {xa xb : Nd} (hM : Mid A B d s keys subs k gone) (hP : Pair B d m keys subs a b κ xa xb) : PairF A B d m s keys subs a b κ := by
  have hta := hM.inn.all a (List.mem_of_getElem? hP.sa)
  have htb := hM.inn.all b (List.mem_of_getElem? hP.sb)
  have hn := hM.nod
  rw [flatP_two hP.sa hP.sb, ← List.cons_append] at hn
  have hn0 := hn
  rw [List.nodup_append, List.nodup_append] at hn
  obtain ⟨q1, ⟨q2, q3, q4⟩, q5⟩ := hn
  have ho := hM.inn.ord
  rw [hM.inn.cut2 hP.sa hP.sb hP.k] at ho
  simp only [List.pairwise_append, List.pairwise_cons] at ho
  obtain ⟨o1, ⟨oa, ok, ob, o2⟩, o3⟩ := ho
  have ma : a.pg ∈ flatP subs := mem_flatP (List.mem_of_getElem? hP.sa) hta.mem
  have mb : b.pg ∈ flatP subs := mem_flatP (List.mem_of_getElem? hP.sb) htb.mem
  refine ⟨hta, htb, q2, oa (.k κ) (by simp), ok (.s b) (by simp), fun e => ?_, fun e => ?_, fun e => ?_, List.mem_cons_of_mem _ ma, List.mem_cons_of_mem _ mb, hn0⟩
  · exact (List.nodup_append.1 q2).2.2 a.pg hta.mem b.pg htb.mem e
  · exact (List.nodup_cons.1 hM.nod).1 (e ▸ ma)
  · exact (List.nodup_cons.1 hM.nod).1 (e ▸ mb)
theorem PairF.other {A B : AP} {d m : Nat} {s : Sb} {keys : List UInt64} {subs : List Sb} {a b : Sb} {κ : UInt64} (h : PairF A B d m s keys subs a b κ) : ∀ u ∈ subs.take m ++ subs.drop (m + 2), ∀ p ∈ u.ps, p ∉ a.ps ++ b.ps ∧ p ≠ s.pg := by
  have hn := h.big
  rw [List.nodup_append, List.nodup_append] at hn
  obtain ⟨q1, ⟨q2, q3, q4⟩, q5⟩ := hn
  intro u hu p hp
  rcases List.mem_append.1 hu with hu | hu
  · have hm := mem_flatP hu hp
    exact ⟨fun ht => q5 p (by simp [hm]) p (List.mem_append_left _ ht) rfl, fun e => (List.nodup_cons.1 q1).1 (e ▸ hm)⟩
  · have hm := mem_flatP hu hp
    exact ⟨fun ht => q4 p ht p hm rfl, fun e => q5 s.pg (by simp) p (by simp [hm]) e.symm⟩
theorem Tr.moved {f g : Nat → Option Nd} {d : Nat} {c : Sb} {x : Nd} {pg : Nat} (h : Tr f d c) (hx : f c.pg = some x) (hg : g pg = some x) (hs : ∀ p ∈ c.ps, p ≠ c.pg → g p = f p) (hnd : c.ps.Nodup) : ∃ ps, Tr g d ⟨pg, c.l, pg :: ps⟩ ∧ c.ps = c.pg :: ps := by
  cases d with
  | zero =>
    obtain ⟨ks, vs, h1, h2, h3, h4, h5⟩ := h
    rw [hx] at h1
    obtain rfl := Option.some.inj h1
    exact ⟨[], ⟨ks, vs, hg, h2, h3, h4, rfl⟩, h5⟩
  | succ d =>
    obtain ⟨keys, subs, h1, h2, h3, h4⟩ := h
    rw [hx] at h1
    obtain rfl := Option.some.inj h1
    rw [h4] at hnd
    refine ⟨flatP subs, ⟨keys, subs, hg, h2.imp (fun t ht ⟨a, b⟩ => ?_), h3, rfl⟩, h4⟩
    have hsub : ∀ p ∈ t.ps, g p = f p := fun p hp => hs p (by rw [h4]; exact List.mem_cons_of_mem _ (mem_flatP ht hp)) (fun e => (List.nodup_cons.1 hnd).1 (e ▸ mem_flatP ht hp))
    refine ⟨Tr.same d t a hsub, ?_⟩
    obtain ⟨y, e, hy⟩ := b
    exact ⟨y, (hsub _ a.mem).trans e, hy⟩
end Go.Proofs.YtfljlcfmdcepnaaGreatDoor
namespace Go.Proofs.YtfljlcfmdcepnaaGreatDoor
open Go.RowKit
open UK (str BytesAt nth Only)
theorem nil_gone {s : Sb} {p : Nat} : p ∈ s.ps ↔ p ∈ s.ps ∧ p ∉ ([] : List Nat) := by simp
theorem was_zip {ks vs : List UInt64} {k : UInt64} (hv : vs.length = ks.length) : (∃ x ∈ ks.zip vs, x.1 = k) ↔ k ∈ ks := by
  constructor
  · rintro ⟨x, hx, rfl⟩
    exact (List.of_mem_zip hx).1
  · intro h
    obtain ⟨v, hv⟩ := mem_zip hv h
    exact ⟨_, hv, rfl⟩
theorem map_two {subs : List Sb} {m : Nat} {a b c e : Sb} (ha : subs[m]? = some a) (hb : subs[m + 1]? = some b) (hc : c.pg = a.pg) (he : e.pg = b.pg) : (subs.take m ++ c :: e :: subs.drop (m + 2)).map Sb.pg = subs.map Sb.pg := by
  conv => rhs; rw [cut_two ha hb]
  simp only [List.map_append, List.map_cons, hc, he]
theorem map_one {subs : List Sb} {m : Nat} {a c : Sb} (ha : subs[m]? = some a) (hc : c.pg = a.pg) : (subs.take m ++ c :: subs.drop (m + 2)).map Sb.pg = (subs.map Sb.pg).take (m + 1) ++ (subs.map Sb.pg).drop (m + 2) := by
  have e1 : (subs.map Sb.pg).take (m + 1) = (subs.map Sb.pg).take m ++ [a.pg] := by
    rw [List.take_add_one, List.getElem?_map, ha]; rfl
  rw [e1]
  simp only [List.map_append, List.map_cons, hc, List.map_take, List.map_drop, List.append_assoc, List.cons_append, List.nil_append]
theorem ndAt_wrote {A : AP} {p q : Nat} {x : Nd} (hl : (A.c p).length = 504) (hx : Fits x) : ndAt (A.wrote p (encN (A.c p) x)) q = if p = q then some x else ndAt A q := by
  unfold ndAt
  rw [AP.wrote_c]
  split
  · exact dec_enc _ _ (by omega) hx
  · rfl
theorem ndAt_give {A : AP} {p q : Nat} : ndAt (A.give p) q = ndAt A q := by unfold ndAt; rw [AP.give_c]
theorem drop_ok {k : UInt64} {d : Nat} {A B : AP} {pg : Nat} {was poor : Bool} (h : DropS k d A pg B was poor) : ∀ s, Tr (ndAt A) d s → s.pg = pg → s.ps.Nodup → (∀ p ∈ s.ps, A.Has p) → A.Good → (∀ p, A.Has p → (A.c p).length = 504) → ∃ gone, DropOut A B d s k was poor gone := by
  induction h with
  | @none A pg ks vs hn hno =>
    intro s hT hpg hnd hh hg hc
    subst hpg
    obtain ⟨ks', vs', h1, h2, h3, h4, h5⟩ := id hT
    rw [hn] at h1
    injection Option.some.inj h1 with _ e1 e2 _
    subst e1 e2
    refine ⟨[], ⟨ChgD.refl hc _, (fun p hp => by cases hp), List.nodup_nil, ⟨0, s, hT, rfl, ?_, hnd, fun p => nil_gone, .inl rfl⟩, fun hf => ⟨fun _ => hf, (fun h => by cases h)⟩, ?_⟩⟩
    · rw [h4]; exact (delL_none hno).symm
    · rw [h4, was_zip h2]
      simp [hno]
  | @leaf A pg i ks vs hn hk =>
    intro s hT hpg hnd hh hg hc
    subst hpg
    obtain ⟨ks', vs', h1, h2, h3, h4, h5⟩ := hT
    rw [hn] at h1
    injection Option.some.inj h1 with _ e1 e2 _
    subst e1 e2
    have hp := hh s.pg (by rw [h5]; simp)
    have hi := (List.getElem?_eq_some_iff.1 hk).1
    have hf0 := (dec_fits hn).leaf rfl
    dsimp only at hf0
    have lk : (ks.take i ++ ks.drop (i + 1)).length = ks.length - 1 := by simp; omega
    have lv : (vs.take i ++ vs.drop (i + 1)).length = ks.length - 1 := by simp; omega
    have hfit : Fits ⟨true, ks.take i ++ ks.drop (i + 1), vs.take i ++ vs.drop (i + 1), []⟩ := ⟨fun _ => ⟨by dsimp only; omega, by dsimp only; omega, rfl⟩, (fun h => by cases h)⟩
    have hpl := hc _ hp
    have hB : ndAt (A.wrote s.pg (encN (A.c s.pg) ⟨true, ks.take i ++ ks.drop (i + 1), vs.take i ++ vs.drop (i + 1), []⟩)) s.pg = some ⟨true, ks.take i ++ ks.drop (i + 1), vs.take i ++ vs.drop (i + 1), []⟩ := by rw [ndAt_wrote hpl hfit, if_pos rfl]
    refine ⟨[], ⟨by rw [h5]; exact ChgD.wrote hp hc (by rw [enc_length _ _ (by omega) hfit, hpl]), (fun p hp => by cases hp), List.nodup_nil, ⟨0, ⟨s.pg, (ks.take i ++ ks.drop (i + 1)).zip (vs.take i ++ vs.drop (i + 1)), [s.pg]⟩, ⟨_, _, hB, by omega, h3.drop_one i hi, rfl, rfl⟩, rfl, ?_, by simp, fun p => by rw [h5]; simp, .inl rfl⟩, fun hf => ⟨fun hpo => ⟨_, hB, fun _ => ?_, (fun h => by cases h)⟩, fun hpo => ⟨_, hB, fun _ => ?_, (fun h => by cases h)⟩⟩, ?_⟩⟩
    · rw [h4]; exact (delL_zip h3 hk h2).symm
    · dsimp only
      have : ¬ (ks.length - 1 < 15) := by simpa using hpo
      omega
    · dsimp only
      have h15 : ks.length - 1 < 15 := by simpa using hpo
      obtain ⟨x, hx, hx2, _⟩ := hf
      rw [hn] at hx
      obtain rfl := Option.some.inj hx
      have := hx2 rfl
      dsimp only at this
      omega
    · rw [h4, was_zip h2]
      simp only [true_iff]
      exact List.mem_of_getElem? hk
  | @rich d A B pg i c keys kids was hn hix hkid hrec ih =>
    intro s hT hpg hnd hh hg hc
    subst hpg
    obtain ⟨subs, t, hK, hpt, rfl, hTt, hFt⟩ := hT.kid hn hkid
    obtain ⟨gone, hO⟩ := ih t hTt hpt (hK.tn hnd) (fun p hp => hh p (hK.sub p hp)) hg hc
    obtain ⟨t', hM, hpg', hF, z1, _, hw⟩ := mid_of hK hix hT.mem hnd hh hFt hO
    have hall : ∀ u ∈ subs.take i ++ t' :: subs.drop (i + 1), Tr (ndAt B) d u ∧ Fat (ndAt B) u.pg := fun u hu => ⟨hM.inn.all u hu, by
      rcases List.mem_append.1 hu with h | h
      · exact hF u (by simp [h])
      · rcases List.mem_cons.1 h with rfl | h
        · rw [hpg']; exact z1 rfl
        · exact hF u (by simp [h])⟩
    have hnB : ndAt B s.pg = ndAt A s.pg := by rw [hM.nd, hn, map_kid hK.at_ hpg']
    exact ⟨gone, ⟨hM.chg, hM.gsub, hM.gnod, ⟨d + 1, ⟨s.pg, flatL (subs.take i ++ t' :: subs.drop (i + 1)), s.pg :: flatP (subs.take i ++ t' :: subs.drop (i + 1))⟩, ⟨keys, _, hM.nd, ⟨hM.inn.len, hM.inn.ord, hall⟩, rfl, rfl⟩, rfl, hM.l, hM.nod, hM.ps, .inl rfl⟩, fun ⟨x, hx, hf⟩ => ⟨fun _ => ⟨x, hnB.trans hx, hf⟩, (fun h => by cases h)⟩, hw⟩⟩
  | @even d A B1 B2 pg i c m ca cb keys kids was a b a' b' κ κ' hn hix hkid hrec hm hca hcb hκ hna hnb hev hB2 ih =>
    intro s hT hpg hnd hh hg hc
    subst hpg
    obtain ⟨subs, t, hK, hpt, rfl, hTt, hFt⟩ := hT.kid hn hkid
    obtain ⟨gone, hO⟩ := ih t hTt hpt (hK.tn hnd) (fun p hp => hh p (hK.sub p hp)) hg hc
    obtain ⟨t', hM, hpg', hF, _, z2, hw⟩ := mid_of hK hix hT.mem hnd hh hFt hO
    obtain ⟨sa, sb, rfl, rfl, hP⟩ := pair_of hK.at_ hM hpg' hF (z2 rfl) hm hca hcb hκ hna hnb
    have hPF := hM.pairF hP
    have hHas := hM.has hh
    have hBc := hM.chg.clen
    obtain ⟨_, hE⟩ := even_tr hPF.ta hPF.tb hPF.nod hP.na hP.nb (dec_fits hna) (dec_fits hnb) hPF.lo hPF.hi hP.many hev
    obtain ⟨f1, f2, ft1, ft2, hG⟩ := hE rfl
    have hca2 := hHas _ hPF.ha
    have hcb2 := hHas _ hPF.hb
    have hpg2 := hHas s.pg (by simp)
    have c1 : ChgD B1 (B1.wrote sa.pg (encN (B1.c sa.pg) a')) [sa.pg] [] := ChgD.wrote hca2 hBc (by rw [enc_length _ _ (by rw [hBc _ hca2]; omega) f1, hBc _ hca2])
    have hcb3 : (B1.wrote sa.pg (encN (B1.c sa.pg) a')).Has sb.pg := AP.wrote_has.2 hcb2
    have c2 : ChgD (B1.wrote sa.pg (encN (B1.c sa.pg) a')) B2 [sb.pg] [] := by
      rw [hB2]; exact ChgD.wrote hcb3 c1.clen (by rw [enc_length _ _ (by rw [c1.clen _ hcb3]; omega) f2, c1.clen _ hcb3])
    have hpg3 : B2.Has s.pg := by rw [hB2]; exact AP.wrote_has.2 (AP.wrote_has.2 hpg2)
    have hfx := (dec_fits hn).inner rfl
    have hkl := (List.getElem?_eq_some_iff.1 hκ).1
    have hfitx : Fits ⟨false, keys.set m κ', [], subs.map Sb.pg⟩ := ⟨(fun h => by cases h), fun _ => ⟨by dsimp only at hfx ⊢; rw [List.length_set]; exact hfx.1, hfx.2.1, hfx.2.2.1, rfl, hfx.2.2.2.2⟩⟩
    have hl3 := c2.clen _ hpg3
    have c3 : ChgD B2 (B2.wrote s.pg (encN (B2.c s.pg) ⟨false, keys.set m κ', [], subs.map Sb.pg⟩)) [s.pg] [] := ChgD.wrote hpg3 c2.clen (by rw [enc_length _ _ (by omega) hfitx, hl3])
    generalize hBB : B2.wrote s.pg (encN (B2.c s.pg) ⟨false, keys.set m κ', [], subs.map Sb.pg⟩) = B at c3 ⊢
    have hnd3 : ∀ q, ndAt B q = if s.pg = q then some ⟨false, keys.set m κ', [], subs.map Sb.pg⟩ else if sb.pg = q then some b' else if sa.pg = q then some a' else ndAt B1 q := fun q => by
      rw [← hBB, ndAt_wrote hl3 hfitx, hB2, ndAt_wrote (c1.clen _ hcb3) f2, ndAt_wrote (hBc _ hca2) f1]
    have hga : ndAt B sa.pg = some a' := by rw [hnd3, if_neg (Ne.symm hPF.na), if_neg (Ne.symm hPF.ne), if_pos rfl]
    have hgb : ndAt B sb.pg = some b' := by rw [hnd3, if_neg (Ne.symm hPF.nb), if_pos rfl]
    have hgo : ∀ q, q ≠ s.pg → q ≠ sa.pg → q ≠ sb.pg → ndAt B q = ndAt B1 q := fun q q1 q2 q3 => by rw [hnd3, if_neg (Ne.symm q1), if_neg (Ne.symm q3), if_neg (Ne.symm q2)]
    have hspg : ∀ p ∈ sa.ps ++ sb.ps, p ≠ s.pg := fun p hp e => (List.nodup_append.1 hPF.big).2.2 s.pg (by simp) p (List.mem_append_left _ hp) e.symm
    obtain ⟨cc, ee, hTc, hTe, hcp, hep, hcel, hc0, he0, hclt, hege, hcen, hcem⟩ := hG (ndAt B) hga hgb (fun p hp q1 q2 => hgo p (hspg p hp) q1 q2)
    have hoth : ∀ u ∈ (subs.take i ++ t' :: subs.drop (i + 1)).take m ++ (subs.take i ++ t' :: subs.drop (i + 1)).drop (m + 2), Tr (ndAt B) d u ∧ (Fat (ndAt B1) u.pg → Fat (ndAt B) u.pg) := fun u hu => by
      have hus : u ∈ subs.take i ++ t' :: subs.drop (i + 1) := by
        rcases List.mem_append.1 hu with h | h
        · exact List.mem_of_mem_take h
        · exact List.mem_of_mem_drop h
      have hTu := hM.inn.all u hus
      have ho := hPF.other u hu
      have hsame : ∀ p ∈ u.ps, ndAt B p = ndAt B1 p := fun p hp => hgo p (ho p hp).2 (fun e => (ho p hp).1 (by rw [e]; exact List.mem_append_left _ hPF.ta.mem)) (fun e => (ho p hp).1 (by rw [e]; exact List.mem_append_right _ hPF.tb.mem))
      exact ⟨Tr.same d u hTu hsame, fun ⟨x, h1, h2⟩ => ⟨x, (hsame _ hTu.mem).trans h1, h2⟩⟩
    have hhT : ∀ u ∈ (subs.take i ++ t' :: subs.drop (i + 1)).take m ++ (subs.take i ++ t' :: subs.drop (i + 1)).drop (m + 2), Tr (ndAt B) d u ∧ Fat (ndAt B) u.pg := fun u hu => ⟨(hoth u hu).1, (hoth u hu).2 (hP.rest u hu)⟩
    have hord := (hM.inn.imp (Q := fun _ => True) (fun _ _ _ => trivial)).share hP.sa hP.sb hP.k hcel hc0 he0 hclt hege trivial trivial
    have hall : ∀ u ∈ (subs.take i ++ t' :: subs.drop (i + 1)).take m ++ cc :: ee :: (subs.take i ++ t' :: subs.drop (i + 1)).drop (m + 2), Tr (ndAt B) d u ∧ Fat (ndAt B) u.pg := fun u hu => by
      rcases List.mem_append.1 hu with h | h
      · exact hhT u (List.mem_append_left _ h)
      · rcases List.mem_cons.1 h with rfl | h
        · exact ⟨hTc, by rw [hcp]; exact ⟨_, hga, ft1⟩⟩
        · rcases List.mem_cons.1 h with rfl | h
          · exact ⟨hTe, by rw [hep]; exact ⟨_, hgb, ft2⟩⟩
          · exact hhT u (List.mem_append_right _ h)
    have hps : ∀ p, p ∈ s.pg :: flatP ((subs.take i ++ t' :: subs.drop (i + 1)).take m ++ cc :: ee :: (subs.take i ++ t' :: subs.drop (i + 1)).drop (m + 2)) ↔ p ∈ s.pg :: flatP (subs.take i ++ t' :: subs.drop (i + 1)) := fun p => by
      rw [flatP_two hP.sa hP.sb, flatP_app, flatP_cons, flatP_cons]
      have := hcem p
      simp only [List.mem_cons, List.mem_append] at this ⊢
      constructor
      · rintro (h | h | h | h | h)
        · exact .inl h
        · exact .inr (.inl h)
        · exact .inr (.inr (.inl (this.1 (.inl h))))
        · exact .inr (.inr (.inl (this.1 (.inr h))))
        · exact .inr (.inr (.inr h))
      · rintro (h | h | h | h)
        · exact .inl h
        · exact .inr (.inl h)
        · rcases this.2 h with h | h
          · exact .inr (.inr (.inl h))
          · exact .inr (.inr (.inr (.inl h)))
        · exact .inr (.inr (.inr (.inr h)))
    have hnod : (s.pg :: flatP ((subs.take i ++ t' :: subs.drop (i + 1)).take m ++ cc :: ee :: (subs.take i ++ t' :: subs.drop (i + 1)).drop (m + 2))).Nodup := by
      have := nodup_swap (new := []) hPF.big hcen (fun p hp => .inl ((hcem p).1 hp)) (fun p hp => by cases hp)
      rw [flatP_app, flatP_cons, flatP_cons, ← List.append_assoc cc.ps]
      exact this
    have hchg : ChgD A B s.ps (gone ++ []) := hM.chg.trans (((c1.wider (ps2 := s.ps) (fun p hp => by rw [List.mem_singleton.1 hp]; exact ((hM.ps _).1 hPF.ha).1)).trans c2 (fun p hp => by rw [List.mem_singleton.1 hp]; exact ((hM.ps _).1 hPF.hb).1)).trans c3 (fun p hp => by rw [List.mem_singleton.1 hp]; exact hT.mem)) (fun _ h => h)
    rw [List.append_nil] at hchg
    refine ⟨gone, ⟨hchg, hM.gsub, hM.gnod, ⟨d + 1, ⟨s.pg, flatL ((subs.take i ++ t' :: subs.drop (i + 1)).take m ++ cc :: ee :: (subs.take i ++ t' :: subs.drop (i + 1)).drop (m + 2)), s.pg :: flatP ((subs.take i ++ t' :: subs.drop (i + 1)).take m ++ cc :: ee :: (subs.take i ++ t' :: subs.drop (i + 1)).drop (m + 2))⟩, ⟨_, _, by rw [hnd3, if_pos rfl, map_two hP.sa hP.sb hcp hep, map_kid hK.at_ hpg'], ⟨hord.len, hord.ord, hall⟩, rfl, rfl⟩, rfl, ?_, hnod, fun p => (hps p).trans (hM.ps p), .inl rfl⟩, fun hF0 => ?_, hw⟩⟩
    · dsimp only
      rw [← hM.l, flatL_two hP.sa hP.sb, flatL_app, flatL_cons, flatL_cons, ← hcel, List.append_assoc]
    · obtain ⟨x, hx, hx1, hx2⟩ := hF0
      rw [hn] at hx
      obtain rfl := Option.some.inj hx
      have h16 := hx2 rfl
      refine ⟨fun hpo => ⟨⟨false, keys.set m κ', [], subs.map Sb.pg⟩, by rw [hnd3, if_pos rfl], (fun h => by cases h), fun _ => h16⟩, fun hpo => ⟨⟨false, keys.set m κ', [], subs.map Sb.pg⟩, by rw [hnd3, if_pos rfl], (fun h => by cases h), fun _ => ?_⟩⟩
      have : (subs.map Sb.pg).length < 20 := by simpa using hpo
      dsimp only at h16 ⊢
      omega
  | @join d A B1 B2 pg i c m ca cb keys kids was a b a' b' κ κ' hn hix hkid hrec hm hca hcb hκ hna hnb hev hB2 hk2 ih =>
    intro s hT hpg hnd hh hg hc
    subst hpg
    obtain ⟨subs, t, hK, hpt, rfl, hTt, hFt⟩ := hT.kid hn hkid
    obtain ⟨gone, hO⟩ := ih t hTt hpt (hK.tn hnd) (fun p hp => hh p (hK.sub p hp)) hg hc
    obtain ⟨t', hM, hpg', hF, _, z2, hw⟩ := mid_of hK hix hT.mem hnd hh hFt hO
    obtain ⟨sa, sb, rfl, rfl, hP⟩ := pair_of hK.at_ hM hpg' hF (z2 rfl) hm hca hcb hκ hna hnb
    have hPF := hM.pairF hP
    have hHas := hM.has hh
    have hBc := hM.chg.clen
    obtain ⟨hE, _⟩ := even_tr hPF.ta hPF.tb hPF.nod hP.na hP.nb (dec_fits hna) (dec_fits hnb) hPF.lo hPF.hi hP.many hev
    obtain ⟨f1, ft1, hG⟩ := hE rfl
    have hca2 := hHas _ hPF.ha
    have hcb2 := hHas _ hPF.hb
    have hpg2 := hHas s.pg (by simp)
    have c1 : ChgD B1 (B1.wrote sa.pg (encN (B1.c sa.pg) a')) [sa.pg] [] := ChgD.wrote hca2 hBc (by rw [enc_length _ _ (by rw [hBc _ hca2]; omega) f1, hBc _ hca2])
    have hcb3 : (B1.wrote sa.pg (encN (B1.c sa.pg) a')).Has sb.pg := AP.wrote_has.2 hcb2
    have c2 : ChgD (B1.wrote sa.pg (encN (B1.c sa.pg) a')) B2 [] [sb.pg] := by
      rw [hB2]; exact ChgD.give (c1.good (hM.chg.good hg)) hcb3 c1.clen
    have hpg3 : B2.Has s.pg := (c2.has _).2 ⟨AP.wrote_has.2 hpg2, by simp; exact Ne.symm hPF.nb⟩
    have hfx := (dec_fits hn).inner rfl
    have hkl := (List.getElem?_eq_some_iff.1 hκ).1
    dsimp only at hfx
    have lk : (keys.take m ++ keys.drop (m + 1)).length = keys.length - 1 := by simp; omega
    have lc : ((subs.map Sb.pg).take (m + 1) ++ (subs.map Sb.pg).drop (m + 2)).length = (subs.map Sb.pg).length - 1 := by rw [List.length_append, List.length_take, List.length_drop]; omega
    have hfitx : Fits ⟨false, keys.take m ++ keys.drop (m + 1), [], (subs.map Sb.pg).take (m + 1) ++ (subs.map Sb.pg).drop (m + 2)⟩ := ⟨(fun h => by cases h), fun _ => ⟨by dsimp only; omega, by dsimp only; omega, by dsimp only; omega, rfl, fun q hq => by
      rcases List.mem_append.1 hq with h | h
      · exact hfx.2.2.2.2 q (List.mem_of_mem_take h)
      · exact hfx.2.2.2.2 q (List.mem_of_mem_drop h)⟩⟩
    have hl3 := c2.clen _ hpg3
    have c3 : ChgD B2 (B2.wrote s.pg (encN (B2.c s.pg) ⟨false, keys.take m ++ keys.drop (m + 1), [], (subs.map Sb.pg).take (m + 1) ++ (subs.map Sb.pg).drop (m + 2)⟩)) [s.pg] [] := ChgD.wrote hpg3 c2.clen (by rw [enc_length _ _ (by omega) hfitx, hl3])
    generalize hBB : B2.wrote s.pg (encN (B2.c s.pg) ⟨false, keys.take m ++ keys.drop (m + 1), [], (subs.map Sb.pg).take (m + 1) ++ (subs.map Sb.pg).drop (m + 2)⟩) = B at c3 ⊢
    have hnd3 : ∀ q, ndAt B q = if s.pg = q then some ⟨false, keys.take m ++ keys.drop (m + 1), [], (subs.map Sb.pg).take (m + 1) ++ (subs.map Sb.pg).drop (m + 2)⟩ else if sa.pg = q then some a' else ndAt B1 q := fun q => by
      rw [← hBB, ndAt_wrote hl3 hfitx, hB2, ndAt_give, ndAt_wrote (hBc _ hca2) f1]
    have hga : ndAt B sa.pg = some a' := by rw [hnd3, if_neg (Ne.symm hPF.na), if_pos rfl]
    have hgo : ∀ q, q ≠ s.pg → q ≠ sa.pg → ndAt B q = ndAt B1 q := fun q q1 q2 => by rw [hnd3, if_neg (Ne.symm q1), if_neg (Ne.symm q2)]
    have hspg : ∀ p ∈ sa.ps ++ sb.ps, p ≠ s.pg := fun p hp e => (List.nodup_append.1 hPF.big).2.2 s.pg (by simp) p (List.mem_append_left _ hp) e.symm
    obtain ⟨cc, hTc, hcp, hcl, hcn, hcm⟩ := hG (ndAt B) hga (fun p hp q1 _ => hgo p (hspg p hp) q1)
    have hoth : ∀ u ∈ (subs.take i ++ t' :: subs.drop (i + 1)).take m ++ (subs.take i ++ t' :: subs.drop (i + 1)).drop (m + 2), Tr (ndAt B) d u ∧ Fat (ndAt B) u.pg := fun u hu => by
      have hus : u ∈ subs.take i ++ t' :: subs.drop (i + 1) := by
        rcases List.mem_append.1 hu with h | h
        · exact List.mem_of_mem_take h
        · exact List.mem_of_mem_drop h
      have hTu := hM.inn.all u hus
      have ho := hPF.other u hu
      have hsame : ∀ p ∈ u.ps, ndAt B p = ndAt B1 p := fun p hp => hgo p (ho p hp).2 (fun e => (ho p hp).1 (by rw [e]; exact List.mem_append_left _ hPF.ta.mem))
      obtain ⟨x, h1, h2⟩ := hP.rest u hu
      exact ⟨Tr.same d u hTu hsame, x, (hsame _ hTu.mem).trans h1, h2⟩
    have hord := (hM.inn.imp (Q := fun _ => True) (fun _ _ _ => trivial)).one hP.sa hP.sb hP.k hcl trivial
    have hall : ∀ u ∈ (subs.take i ++ t' :: subs.drop (i + 1)).take m ++ cc :: (subs.take i ++ t' :: subs.drop (i + 1)).drop (m + 2), Tr (ndAt B) d u ∧ Fat (ndAt B) u.pg := fun u hu => by
      rcases List.mem_append.1 hu with h | h
      · exact hoth u (List.mem_append_left _ h)
      · rcases List.mem_cons.1 h with rfl | h
        · exact ⟨hTc, by rw [hcp]; exact ⟨_, hga, ft1⟩⟩
        · exact hoth u (List.mem_append_right _ h)
    have hbig := hPF.big
    rw [List.nodup_append, List.nodup_append] at hbig
    obtain ⟨g1, ⟨g2, g3, g4⟩, g5⟩ := hbig
    have hps : ∀ p, p ∈ s.pg :: flatP ((subs.take i ++ t' :: subs.drop (i + 1)).take m ++ cc :: (subs.take i ++ t' :: subs.drop (i + 1)).drop (m + 2)) ↔ p ∈ s.pg :: flatP (subs.take i ++ t' :: subs.drop (i + 1)) ∧ p ≠ sb.pg := fun p => by
      have hbm : sb.pg ∈ sa.ps ++ sb.ps := List.mem_append_right _ hPF.tb.mem
      rw [flatP_two hP.sa hP.sb, flatP_app, flatP_cons]
      have := hcm p
      simp only [List.mem_cons, List.mem_append] at this ⊢
      constructor
      · rintro (h | h | h | h)
        · exact ⟨.inl h, fun e => hPF.nb (e ▸ h)⟩
        · exact ⟨.inr (.inl h), fun e => g5 p (by simp [h]) sb.pg (List.mem_append_left _ hbm) e⟩
        · exact ⟨.inr (.inr (.inl (this.1 h).1)), (this.1 h).2⟩
        · exact ⟨.inr (.inr (.inr h)), fun e => g4 sb.pg hbm p h e.symm⟩
      · rintro ⟨h | h | h | h, h2⟩
        · exact .inl h
        · exact .inr (.inl h)
        · exact .inr (.inr (.inl (this.2 ⟨h, h2⟩)))
        · exact .inr (.inr (.inr h))
    have hnod : (s.pg :: flatP ((subs.take i ++ t' :: subs.drop (i + 1)).take m ++ cc :: (subs.take i ++ t' :: subs.drop (i + 1)).drop (m + 2))).Nodup := by
      have := nodup_swap (new := []) hPF.big hcn (fun p hp => .inl ((hcm p).1 hp).1) (fun p hp => by cases hp)
      rw [flatP_app, flatP_cons]
      exact this
    have hchg : ChgD A B s.ps (gone ++ [sb.pg]) := hM.chg.trans (((c1.wider (ps2 := s.ps) (fun p hp => by rw [List.mem_singleton.1 hp]; exact ((hM.ps _).1 hPF.ha).1)).trans c2 (fun p hp => by cases hp)).trans c3 (fun p hp => by rw [List.mem_singleton.1 hp]; exact hT.mem)) (fun _ h => h)
    have hbs := (hM.ps _).1 hPF.hb
    refine ⟨gone ++ [sb.pg], ⟨hchg, fun p hp => ?_, ?_, ⟨d + 1, ⟨s.pg, flatL ((subs.take i ++ t' :: subs.drop (i + 1)).take m ++ cc :: (subs.take i ++ t' :: subs.drop (i + 1)).drop (m + 2)), s.pg :: flatP ((subs.take i ++ t' :: subs.drop (i + 1)).take m ++ cc :: (subs.take i ++ t' :: subs.drop (i + 1)).drop (m + 2))⟩, ⟨_, _, by rw [hnd3, if_pos rfl, map_one hP.sa hcp, map_kid hK.at_ hpg'], ⟨hord.len, hord.ord, hall⟩, rfl, rfl⟩, rfl, ?_, hnod, fun p => ?_, .inl rfl⟩, fun hF0 => ?_, hw⟩⟩
    · rcases List.mem_append.1 hp with h | h
      · exact hM.gsub p h
      · rw [List.mem_singleton.1 h]
        exact ⟨hbs.1, hPF.nb⟩
    · rw [List.nodup_append]
      exact ⟨hM.gnod, by simp, fun p hp q hq e => hbs.2 (by rw [← List.mem_singleton.1 hq, ← e]; exact hp)⟩
    · dsimp only
      rw [← hM.l, flatL_two hP.sa hP.sb, flatL_app, flatL_cons, hcl]
    · dsimp only
      rw [hps p, hM.ps p, List.mem_append, List.mem_singleton]
      constructor
      · rintro ⟨⟨h1, h2⟩, h3⟩; exact ⟨h1, fun h => by rcases h with h | h; exact h2 h; exact h3 h⟩
      · rintro ⟨h1, h2⟩; exact ⟨⟨h1, fun h => h2 (.inl h)⟩, fun h => h2 (.inr h)⟩
    · obtain ⟨x, hx, hx1, hx2⟩ := hF0
      rw [hn] at hx
      obtain rfl := Option.some.inj hx
      have h16 := hx2 rfl
      dsimp only at h16
      refine ⟨fun hpo => ⟨⟨false, keys.take m ++ keys.drop (m + 1), [], (subs.map Sb.pg).take (m + 1) ++ (subs.map Sb.pg).drop (m + 2)⟩, by rw [hnd3, if_pos rfl], (fun h => by cases h), fun _ => ?_⟩, fun hpo => ⟨⟨false, keys.take m ++ keys.drop (m + 1), [], (subs.map Sb.pg).take (m + 1) ++ (subs.map Sb.pg).drop (m + 2)⟩, by rw [hnd3, if_pos rfl], (fun h => by cases h), fun _ => ?_⟩⟩
      · have : ¬ ((subs.map Sb.pg).length - 1 < 20) := by simpa using hpo
        dsimp only
        omega
      · have : (subs.map Sb.pg).length - 1 < 20 := by simpa using hpo
        dsimp only
        omega
  | @lift d A B1 B2 pg i c m ca cb keys kids was a b a' b' κ κ' hn hix hkid hrec hm hca hcb hκ hna hnb hev hB2 hk2 ih =>
    intro s hT hpg hnd hh hg hc
    subst hpg
    obtain ⟨subs, t, hK, hpt, rfl, hTt, hFt⟩ := hT.kid hn hkid
    obtain ⟨gone, hO⟩ := ih t hTt hpt (hK.tn hnd) (fun p hp => hh p (hK.sub p hp)) hg hc
    obtain ⟨t', hM, hpg', hF, _, z2, hw⟩ := mid_of hK hix hT.mem hnd hh hFt hO
    obtain ⟨sa, sb, rfl, rfl, hP⟩ := pair_of hK.at_ hM hpg' hF (z2 rfl) hm hca hcb hκ hna hnb
    have hPF := hM.pairF hP
    have hHas := hM.has hh
    have hBc := hM.chg.clen
    obtain ⟨hE, _⟩ := even_tr hPF.ta hPF.tb hPF.nod hP.na hP.nb (dec_fits hna) (dec_fits hnb) hPF.lo hPF.hi hP.many hev
    obtain ⟨f1, ft1, hG⟩ := hE rfl
    have hca2 := hHas _ hPF.ha
    have hcb2 := hHas _ hPF.hb
    have hpg2 := hHas s.pg (by simp)
    have c1 : ChgD B1 (B1.wrote sa.pg (encN (B1.c sa.pg) a')) [sa.pg] [] := ChgD.wrote hca2 hBc (by rw [enc_length _ _ (by rw [hBc _ hca2]; omega) f1, hBc _ hca2])
    have hcb3 : (B1.wrote sa.pg (encN (B1.c sa.pg) a')).Has sb.pg := AP.wrote_has.2 hcb2
    have c2 : ChgD (B1.wrote sa.pg (encN (B1.c sa.pg) a')) B2 [] [sb.pg] := by
      rw [hB2]; exact ChgD.give (c1.good (hM.chg.good hg)) hcb3 c1.clen
    have hpg3 : B2.Has s.pg := (c2.has _).2 ⟨AP.wrote_has.2 hpg2, by simp; exact Ne.symm hPF.nb⟩
    have hca3 : B2.Has sa.pg := (c2.has _).2 ⟨AP.wrote_has.2 hca2, by simp; exact hPF.ne⟩
    have hl3 := c2.clen _ hpg3
    have c3 : ChgD B2 (B2.wrote s.pg (encN (B2.c s.pg) a')) [s.pg] [] := ChgD.wrote hpg3 c2.clen (by rw [enc_length _ _ (by omega) f1, hl3])
    have hca4 : (B2.wrote s.pg (encN (B2.c s.pg) a')).Has sa.pg := AP.wrote_has.2 hca3
    have c4 : ChgD (B2.wrote s.pg (encN (B2.c s.pg) a')) ((B2.wrote s.pg (encN (B2.c s.pg) a')).give sa.pg) [] [sa.pg] := ChgD.give (c3.good (c2.good (c1.good (hM.chg.good hg)))) hca4 c3.clen
    generalize hBB : (B2.wrote s.pg (encN (B2.c s.pg) a')).give sa.pg = B at c4 ⊢
    have hnd2 : ∀ q, ndAt B2 q = if sa.pg = q then some a' else ndAt B1 q := fun q => by rw [hB2, ndAt_give, ndAt_wrote (hBc _ hca2) f1]
    have hnd3 : ∀ q, ndAt B q = if s.pg = q then some a' else ndAt B2 q := fun q => by rw [← hBB, ndAt_give, ndAt_wrote hl3 f1]
    have hga : ndAt B2 sa.pg = some a' := by rw [hnd2, if_pos rfl]
    obtain ⟨cc, hTc, hcp, hcl, hcn, hcm⟩ := hG (ndAt B2) hga (fun p hp q1 _ => by rw [hnd2, if_neg (Ne.symm q1)])
    have hspg : ∀ p ∈ sa.ps ++ sb.ps, p ≠ s.pg := fun p hp e => (List.nodup_append.1 hPF.big).2.2 s.pg (by simp) p (List.mem_append_left _ hp) e.symm
    obtain ⟨ps', hT', hps'⟩ := Tr.moved (g := ndAt B) (x := a') (pg := s.pg) hTc (by rw [hcp]; exact hga) (by rw [hnd3, if_pos rfl]) (fun p hp _ => by rw [hnd3, if_neg (Ne.symm (hspg p ((hcm p).1 hp).1))]) hcn
    have hlen : (subs.take i ++ t' :: subs.drop (i + 1)).length = 2 := by
      rw [← hk2, ← map_kid hK.at_ hpg', List.length_map]
    have hm1 := (List.getElem?_eq_some_iff.1 hP.sb).1
    obtain rfl : m = 0 := by omega
    have hfl := flatL_two hP.sa hP.sb
    have hfp := flatP_two hP.sa hP.sb
    have hdn : (subs.take i ++ t' :: subs.drop (i + 1)).drop (0 + 2) = [] := List.drop_of_length_le (by rw [hlen]; exact Nat.le_refl 2)
    rw [List.take_zero, hdn] at hfl hfp
    have el : flatL (subs.take i ++ t' :: subs.drop (i + 1)) = sa.l ++ sb.l := by rw [hfl]; simp [flatL]
    have ep : flatP (subs.take i ++ t' :: subs.drop (i + 1)) = sa.ps ++ sb.ps := by rw [hfp]; simp [flatP]
    have hchg : ChgD A B s.ps (gone ++ [sb.pg, sa.pg]) := hM.chg.trans ((((c1.wider (ps2 := s.ps) (fun p hp => by rw [List.mem_singleton.1 hp]; exact ((hM.ps _).1 hPF.ha).1)).trans c2 (fun p hp => by cases hp)).trans c3 (fun p hp => by rw [List.mem_singleton.1 hp]; exact hT.mem)).trans c4 (fun p hp => by cases hp)) (fun _ h => h)
    have hbs := (hM.ps _).1 hPF.hb
    have has := (hM.ps _).1 hPF.ha
    rw [hps', hcp] at hcn hcm
    have hnf : ¬ Fat (ndAt A) s.pg := by
      rintro ⟨x, hx, hx1, hx2⟩
      rw [hn] at hx
      obtain rfl := Option.some.inj hx
      have := hx2 rfl
      dsimp only at this
      omega
    refine ⟨gone ++ [sb.pg, sa.pg], ⟨hchg, fun p hp => ?_, ?_, ⟨d, ⟨s.pg, cc.l, s.pg :: ps'⟩, hT', rfl, ?_, ?_, fun p => ?_, .inr ⟨rfl, hnf⟩⟩, fun hF0 => absurd hF0 hnf, hw⟩⟩
    · rcases List.mem_append.1 hp with h | h
      · exact hM.gsub p h
      · rcases List.mem_cons.1 h with rfl | h
        · exact ⟨hbs.1, hPF.nb⟩
        · rw [List.mem_singleton.1 h]
          exact ⟨has.1, hPF.na⟩
    · rw [List.nodup_append]
      refine ⟨hM.gnod, by simp [Ne.symm hPF.ne], fun p hp q hq e => ?_⟩
      rcases List.mem_cons.1 hq with rfl | hq
      · exact hbs.2 (e ▸ hp)
      · rw [List.mem_singleton.1 hq] at e
        exact has.2 (e ▸ hp)
    · dsimp only
      rw [← hM.l, el, hcl]
    · refine List.nodup_cons.2 ⟨fun h => ?_, (List.nodup_cons.1 hcn).2⟩
      exact hspg s.pg ((hcm s.pg).1 (List.mem_cons_of_mem _ h)).1 rfl
    · dsimp only
      have h1 := hM.ps p
      rw [ep] at h1
      have h2 := hcm p
      simp only [List.mem_cons, List.mem_append, List.not_mem_nil, or_false] at h1 h2 ⊢
      have hsa : sa.pg ∉ ps' := (List.nodup_cons.1 hcn).1
      constructor
      · rintro (h | h)
        · obtain ⟨q1, q2⟩ := h1.1 (.inl h)
          exact ⟨q1, fun hh => by rcases hh with hh | hh | hh; exact q2 hh; exact hPF.nb (hh ▸ h); exact hPF.na (hh ▸ h)⟩
        · obtain ⟨q0, q3⟩ := h2.1 (.inr h)
          obtain ⟨q1, q2⟩ := h1.1 (.inr q0)
          exact ⟨q1, fun hh => by rcases hh with hh | hh | hh; exact q2 hh; exact q3 hh; exact hsa (hh ▸ h)⟩
      · rintro ⟨q1, q2⟩
        rcases h1.2 ⟨q1, fun hh => q2 (.inl hh)⟩ with h | h
        · exact .inl h
        · rcases h2.2 ⟨h, fun hh => q2 (.inr (.inl hh))⟩ with h | h
          · exact absurd (.inr (.inr h)) q2
          · exact .inr h
end Go.Proofs.YtfljlcfmdcepnaaGreatDoor
