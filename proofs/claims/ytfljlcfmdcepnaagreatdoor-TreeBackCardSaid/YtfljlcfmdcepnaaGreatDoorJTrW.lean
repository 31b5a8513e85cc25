/-
  Trees (plain): a key is put.
  Trees (plain): behind put, the tree.
-/
import Derived.Test.YtfljlcfmdcepnaaGreatDoorJTrU
import Derived.Test.YtfljlcfmdcepnaaGreatDoorJTreeN
namespace Go.Proofs.YtfljlcfmdcepnaaGreatDoor
open Go.RowKit
open UK (str BytesAt nth Only)
def ndAt (A : AP) (p : Nat) : Option Nd := decN (A.c p)
def fullN (x : Nd) : Bool := decide (30 < x.keys.length) || decide (40 < x.kids.length)
def splitN (x : Nd) : Nd × Nd × UInt64 :=
  if x.leaf then (⟨true, x.keys.take (x.keys.length / 2), x.vals.take (x.keys.length / 2), []⟩, ⟨true, x.keys.drop (x.keys.length / 2), x.vals.drop (x.keys.length / 2), []⟩, x.keys.getD (x.keys.length / 2) 0)
  else (⟨false, x.keys.take (x.kids.length / 2 - 1), [], x.kids.take (x.kids.length / 2)⟩, ⟨false, x.keys.drop (x.kids.length / 2), [], x.kids.drop (x.kids.length / 2)⟩, x.keys.getD (x.kids.length / 2 - 1) 0)
inductive Settle (A : AP) (pg : Nat) (x : Nd) : AP → Nat → UInt64 → Int → Prop
  | one : fullN x = false → Settle A pg x (A.wrote pg (encN (A.c pg) x)) 0 0 0
  | none : fullN x = true → A.Full → Settle A pg x (A.wrote pg (encN (A.c pg) (splitN x).1)) 0 (splitN x).2.2 6
  | two : fullN x = true → ¬ A.Full → Settle A pg x ((A.wrote pg (encN (A.c pg) (splitN x).1)).take.wrote A.next (encN (UK.zeros 504) (splitN x).2.1)) A.next (splitN x).2.2 0
inductive PutS (k v : UInt64) : Nat → AP → Nat → AP → Nat → UInt64 → Int → Prop
  | found {A : AP} {pg i : Nat} {ks vs : List UInt64} : ndAt A pg = some ⟨true, ks, vs, []⟩ → ks[i]? = some k → PutS k v 0 A pg (A.wrote pg (encN (A.c pg) ⟨true, ks, vs.set i v, []⟩)) 0 0 0
  | leaf {A B : AP} {pg i more : Nat} {ks vs : List UInt64} {κ : UInt64} {e : Int} : ndAt A pg = some ⟨true, ks, vs, []⟩ → Stands ks k i → k ∉ ks → Settle A pg ⟨true, ks.take i ++ k :: ks.drop i, vs.take i ++ v :: vs.drop i, []⟩ B more κ e → PutS k v 0 A pg B more κ e
  | stop {d : Nat} {A B : AP} {pg i c more : Nat} {keys : List UInt64} {kids : List Nat} {κ : UInt64} {e : Int} : ndAt A pg = some ⟨false, keys, [], kids⟩ → KidIx keys k i → kids[i]? = some c → PutS k v d A c B more κ e → (e ≠ 0 ∨ more = 0) → PutS k v (d + 1) A pg B 0 0 e
  | up {d : Nat} {A B1 B : AP} {pg i c more1 more : Nat} {keys : List UInt64} {kids : List Nat} {κ1 κ : UInt64} {e : Int} : ndAt A pg = some ⟨false, keys, [], kids⟩ → KidIx keys k i → kids[i]? = some c → PutS k v d A c B1 more1 κ1 0 → more1 ≠ 0 →
      Settle B1 pg ⟨false, keys.take i ++ κ1 :: keys.drop i, [], kids.take (i + 1) ++ more1 :: kids.drop (i + 1)⟩ B more κ e → PutS k v (d + 1) A pg B more κ e
structure Chg (A B : AP) (ps new : List Nat) : Prop where
  reach : A.Reach B
  nod : new.Nodup
  fresh : ∀ p ∈ new, ¬ A.Has p
  has : ∀ p, B.Has p ↔ A.Has p ∨ p ∈ new
  same : ∀ p, A.Has p → p ∉ ps → B.c p = A.c p
  rooms : B.rooms + new.length = A.rooms
  clen : ∀ p, B.Has p → (B.c p).length = 504
theorem Chg.trans {A B C : AP} {ps ps2 new new2 : List Nat} (h : Chg A B ps new) (g : Chg B C ps2 new2) (hs : ∀ p ∈ ps2, p ∈ ps ∨ p ∈ new) : Chg A C ps (new ++ new2) := by
  refine ⟨h.reach.trans g.reach, ?_, ?_, fun p => ?_, fun p hp hn => ?_, ?_, g.clen⟩
  · rw [List.nodup_append]
    exact ⟨h.nod, g.nod, fun a ha b hb e => g.fresh b hb ((h.has b).2 (.inr (e ▸ ha)))⟩
  · intro p hp
    rcases List.mem_append.1 hp with hp | hp
    · exact h.fresh p hp
    · exact fun ha => g.fresh p hp ((h.has p).2 (.inl ha))
  · rw [g.has, h.has, List.mem_append, or_assoc]
  · rw [g.same p ((h.has p).2 (.inl hp)) (fun hm => ?_), h.same p hp hn]
    rcases hs p hm with h1 | h1
    · exact hn h1
    · exact h.fresh p h1 hp
  · have := h.rooms
    have := g.rooms
    rw [List.length_append]
    omega
theorem Chg.wider {A B : AP} {ps ps2 new : List Nat} (h : Chg A B ps new) (hs : ∀ p ∈ ps, p ∈ ps2) : Chg A B ps2 new := ⟨h.reach, h.nod, h.fresh, h.has, fun p hp hn => h.same p hp (fun hm => hn (hs p hm)), h.rooms, h.clen⟩
theorem Chg.wrote {A : AP} {pg : Nat} {s : List UInt8} (hp : A.Has pg) (hc : ∀ p, A.Has p → (A.c p).length = 504) (hs : s.length = 504) : Chg A (A.wrote pg s) [pg] [] := by
  refine ⟨(AP.Reach.refl A).wrote hp s, List.nodup_nil, fun _ h => (by cases h), fun p => by rw [AP.wrote_has]; simp, fun p _ hn => ?_, ?_, fun p hp' => ?_⟩
  · rw [AP.wrote_c, if_neg]
    simp at hn
    exact fun e => hn e.symm
  · rw [AP.wrote_rooms]; rfl
  · rw [AP.wrote_c]
    split
    · exact hs
    · exact hc p (AP.wrote_has.1 hp')
theorem Chg.take {A : AP} {s : List UInt8} (hg : A.Good) (hf : ¬ A.Full) (hc : ∀ p, A.Has p → (A.c p).length = 504) (hs : s.length = 504) : Chg A (A.take.wrote A.next s) [] [A.next] := by
  have hgr := (AP.Grown.nil A).cons hg hf s
  refine ⟨hgr.reach, by simp, hgr.new, hgr.has, fun p hp _ => hgr.same p hp, hgr.rooms, fun p hp => ?_⟩
  rcases (hgr.has p).1 hp with h1 | h1
  · rw [hgr.same p h1]; exact hc p h1
  · rw [List.mem_singleton.1 h1, AP.wrote_c, if_pos rfl]; exact hs
theorem Chg.good {A B : AP} {ps new : List Nat} (h : Chg A B ps new) (g : A.Good) : B.Good := h.reach.good g
def NdOk (x : Nd) : Prop := (x.leaf = true → x.vals.length = x.keys.length ∧ x.kids = [] ∧ x.keys.length ≤ 31) ∧ (x.leaf = false → x.kids.length = x.keys.length + 1 ∧ x.vals = [] ∧ 2 ≤ x.kids.length ∧ x.kids.length ≤ 41 ∧ ∀ k ∈ x.kids, k < 4294967296)
theorem NdOk.fits {x : Nd} (h : NdOk x) (hf : fullN x = false) : Fits x := by
  unfold fullN at hf
  simp only [Bool.or_eq_false_iff, decide_eq_false_iff_not] at hf
  refine ⟨fun hl => ?_, fun hl => ?_⟩
  · obtain ⟨h1, h2, _⟩ := h.1 hl
    exact ⟨by omega, h1, h2⟩
  · obtain ⟨h1, h2, h3, h4, h5⟩ := h.2 hl
    exact ⟨h1, h3, by omega, h2, h5⟩
theorem splitN_leaf {keys vals : List UInt64} {kids : List Nat} {n : Nat} (h : keys.length / 2 = n) : splitN ⟨true, keys, vals, kids⟩ = (⟨true, keys.take n, vals.take n, []⟩, ⟨true, keys.drop n, vals.drop n, []⟩, keys.getD n 0) := by
  unfold splitN
  rw [if_pos rfl]
  dsimp only
  rw [h]
theorem splitN_inner {keys vals : List UInt64} {kids : List Nat} {n : Nat} (h : kids.length / 2 = n) : splitN ⟨false, keys, vals, kids⟩ = (⟨false, keys.take (n - 1), [], kids.take n⟩, ⟨false, keys.drop n, [], kids.drop n⟩, keys.getD (n - 1) 0) := by
  unfold splitN
  rw [if_neg (by simp)]
  dsimp only
  rw [h]
theorem NdOk.split {x : Nd} (h : NdOk x) (hf : fullN x = true) : Fits (splitN x).1 ∧ Fits (splitN x).2.1 ∧ FatN (splitN x).1 ∧ FatN (splitN x).2.1 ∧ (splitN x).1.leaf = x.leaf ∧ (splitN x).2.1.leaf = x.leaf := by
  unfold fullN at hf
  simp only [Bool.or_eq_true, decide_eq_true_eq] at hf
  obtain ⟨lf, keys, vals, kids⟩ := x
  cases lf with
  | true =>
    obtain ⟨h1, h2, h3⟩ := h.1 rfl
    dsimp only at h1 h2 h3 hf
    subst h2
    have h31 : keys.length = 31 := by simp at hf; omega
    rw [splitN_leaf (n := 15) (by omega)]
    have l1 : (keys.take 15).length = 15 := by rw [List.length_take]; omega
    have l2 : (keys.drop 15).length = 16 := by rw [List.length_drop]; omega
    have v1 : (vals.take 15).length = 15 := by rw [List.length_take]; omega
    have v2 : (vals.drop 15).length = 16 := by rw [List.length_drop]; omega
    exact ⟨⟨fun _ => ⟨by dsimp only; omega, by dsimp only; omega, rfl⟩, (fun h => by cases h)⟩, ⟨fun _ => ⟨by dsimp only; omega, by dsimp only; omega, rfl⟩, (fun h => by cases h)⟩, ⟨fun _ => by dsimp only; omega, (fun h => by cases h)⟩, ⟨fun _ => by dsimp only; omega, (fun h => by cases h)⟩, rfl, rfl⟩
  | false =>
    obtain ⟨h1, h2, h3, h4, h5⟩ := h.2 rfl
    dsimp only at h1 h2 h3 h4 h5 hf
    obtain ⟨n, hn⟩ : ∃ n, kids.length / 2 = n := ⟨_, rfl⟩
    rw [splitN_inner hn]
    have l1 : (keys.take (n - 1)).length = n - 1 := by rw [List.length_take]; omega
    have l2 : (keys.drop n).length = keys.length - n := by rw [List.length_drop]
    have v1 : (kids.take n).length = n := by rw [List.length_take]; omega
    have v2 : (kids.drop n).length = kids.length - n := by rw [List.length_drop]
    exact ⟨⟨(fun h => by cases h), fun _ => ⟨by dsimp only; omega, by dsimp only; omega, by dsimp only; omega, rfl, fun k hk => h5 k (List.mem_of_mem_take hk)⟩⟩, ⟨(fun h => by cases h), fun _ => ⟨by dsimp only; omega, by dsimp only; omega, by dsimp only; omega, rfl, fun k hk => h5 k (List.mem_of_mem_drop hk)⟩⟩,
      ⟨(fun h => by cases h), fun _ => by dsimp only; omega⟩, ⟨(fun h => by cases h), fun _ => by dsimp only; omega⟩, rfl, rfl⟩
theorem zeros504 : (UK.zeros 504).length = 504 := List.length_replicate
theorem Settle.out {A B : AP} {pg more : Nat} {x : Nd} {κ : UInt64} (h : Settle A pg x B more κ 0) (hx : NdOk x) (hp : A.Has pg) (hg : A.Good) (hc : ∀ p, A.Has p → (A.c p).length = 504) :
    ∃ new, Chg A B [pg] new ∧ ((more = 0 ∧ new = [] ∧ fullN x = false ∧ ndAt B pg = some x) ∨ (more ≠ 0 ∧ more ≤ 60000 ∧ new = [more] ∧ fullN x = true ∧ κ = (splitN x).2.2 ∧ ndAt B pg = some (splitN x).1 ∧ ndAt B more = some (splitN x).2.1)) := by
  have hpl := hc pg hp
  cases h with
  | one hf =>
    have hfit := hx.fits hf
    refine ⟨[], Chg.wrote hp hc (by rw [enc_length _ _ (by omega) hfit, hpl]), .inl ⟨rfl, rfl, hf, ?_⟩⟩
    unfold ndAt
    rw [AP.wrote_c, if_pos rfl]
    exact dec_enc _ _ (by omega) hfit
  | two hf hfull =>
    obtain ⟨f1, f2, _⟩ := hx.split hf
    have c1 : Chg A (A.wrote pg (encN (A.c pg) (splitN x).1)) [pg] [] := Chg.wrote hp hc (by rw [enc_length _ _ (by omega) f1, hpl])
    have hg1 := c1.good hg
    have c2 : Chg (A.wrote pg (encN (A.c pg) (splitN x).1)) ((A.wrote pg (encN (A.c pg) (splitN x).1)).take.wrote A.next (encN (UK.zeros 504) (splitN x).2.1)) [] [A.next] := Chg.take hg1 hfull c1.clen (by rw [enc_length _ _ (by rw [zeros504]; omega) f2, zeros504])
    have hnx := hg.next hfull
    have hne : A.next ≠ pg := fun e => hnx.1 (e ▸ hp)
    refine ⟨[A.next], by simpa using c1.trans c2 (fun p hp => by cases hp), .inr ⟨by omega, hnx.2.2, rfl, hf, rfl, ?_, ?_⟩⟩
    · unfold ndAt
      rw [c2.same pg (AP.wrote_has.2 hp) (by simp), AP.wrote_c, if_pos rfl]
      exact dec_enc _ _ (by omega) f1
    · unfold ndAt
      rw [AP.wrote_c, if_pos rfl]
      exact dec_enc _ _ (by rw [zeros504]; omega) f2
theorem FatN.grow {x y : Nd} (h : FatN x) (hl : y.leaf = x.leaf) (h1 : x.keys.length ≤ y.keys.length) (h2 : x.kids.length ≤ y.kids.length) : FatN y :=
  ⟨fun e => Nat.le_trans (h.1 (hl.symm.trans e)) h1, fun e => Nat.le_trans (h.2 (hl.symm.trans e)) h2⟩
theorem half_lt {ks vs : List UInt64} (hs : Sorted ks) {h : Nat} (hh : h < ks.length) : (∀ x ∈ (ks.take h).zip (vs.take h), x.1.toNat < (ks.getD h 0).toNat) ∧ (∀ x ∈ (ks.drop h).zip (vs.drop h), (ks.getD h 0).toNat ≤ x.1.toNat) := by
  have hk : ks[h]? = some (ks.getD h 0) := by rw [List.getD_eq_getElem?_getD, List.getElem?_eq_getElem hh]; rfl
  refine ⟨fun x hx => ?_, fun x hx => ?_⟩
  · obtain ⟨j, hj, hjx⟩ := List.getElem_of_mem (List.of_mem_zip hx).1
    rw [List.length_take] at hj
    rw [List.getElem_take] at hjx
    exact hs j h _ _ (by omega) (by rw [List.getElem?_eq_getElem (by omega), hjx]) hk
  · obtain ⟨j, hj, hjx⟩ := List.getElem_of_mem (List.of_mem_zip hx).1
    rw [List.length_drop] at hj
    rw [List.getElem_drop] at hjx
    rcases Nat.eq_zero_or_pos j with h0 | h0
    · subst h0
      rw [← hjx, List.getD_eq_getElem?_getD, List.getElem?_eq_getElem hh]
      exact Nat.le_refl _
    · have := hs h (h + j) _ x.1 (by omega) hk (by rw [List.getElem?_eq_getElem (by omega), hjx])
      omega
theorem Sorted.take {ks : List UInt64} (h : Sorted ks) (n : Nat) : Sorted (ks.take n) := fun a b x y hab hx hy => by
  have h1 := (List.getElem?_eq_some_iff.1 hx).1
  have h2 := (List.getElem?_eq_some_iff.1 hy).1
  rw [List.length_take] at h1 h2
  rw [List.getElem?_take_of_lt (by omega)] at hx hy
  exact h a b x y hab hx hy
theorem Sorted.drop {ks : List UInt64} (h : Sorted ks) (n : Nat) : Sorted (ks.drop n) := fun a b x y hab hx hy => by
  rw [List.getElem?_drop] at hx hy
  exact h (n + a) (n + b) x y (by omega) hx hy
structure PutOut (A B : AP) (d : Nat) (s : Sb) (l : List KV) (more : Nat) (κ : UInt64) (new : List Nat) : Prop where
  chg : Chg A B s.ps new
  few : new.length ≤ d + 1
  one : more = 0 → ∃ t, Tr (ndAt B) d t ∧ t.pg = s.pg ∧ t.l = l ∧ t.ps.Nodup ∧ (∀ p, p ∈ t.ps ↔ p ∈ s.ps ∨ p ∈ new) ∧ (Fat (ndAt A) s.pg → Fat (ndAt B) s.pg) ∧ (∀ x, ndAt A s.pg = some x → x.leaf = false → ∃ y, ndAt B s.pg = some y ∧ y.leaf = false)
  two : more ≠ 0 → more ≤ 60000 ∧ ∃ t u, Tr (ndAt B) d t ∧ Tr (ndAt B) d u ∧ t.pg = s.pg ∧ u.pg = more ∧ t.l ++ u.l = l ∧ (∀ x ∈ t.l, x.1.toNat < κ.toNat) ∧ (∀ x ∈ u.l, κ.toNat ≤ x.1.toNat) ∧ Fat (ndAt B) s.pg ∧ Fat (ndAt B) more ∧ (t.ps ++ u.ps).Nodup ∧ (∀ p, p ∈ t.ps ++ u.ps ↔ p ∈ s.ps ∨ p ∈ new)
end Go.Proofs.YtfljlcfmdcepnaaGreatDoor
namespace Go.Proofs.YtfljlcfmdcepnaaGreatDoor
open Go.RowKit
open UK (str BytesAt nth Only)
theorem nodup_swap {a b c c' new : List Nat} (h : (a ++ (c ++ b)).Nodup) (hc : c'.Nodup) (hm : ∀ p ∈ c', p ∈ c ∨ p ∈ new) (hn : ∀ p ∈ new, p ∉ a ∧ p ∉ b) : (a ++ (c' ++ b)).Nodup := by
  rw [List.nodup_append, List.nodup_append] at h ⊢
  obtain ⟨h1, ⟨h2, h3, h4⟩, h5⟩ := h
  refine ⟨h1, ⟨hc, h3, fun p hp q hq e => ?_⟩, fun p hp q hq e => ?_⟩
  · rcases hm p hp with h6 | h6
    · exact h4 p h6 q hq e
    · exact (hn p h6).2 (e ▸ hq)
  · rcases List.mem_append.1 hq with hq | hq
    · rcases hm q hq with h6 | h6
      · exact h5 p hp q (List.mem_append_left _ h6) e
      · exact (hn q h6).1 (e ▸ hp)
    · exact h5 p hp q (List.mem_append_right _ hq) e
theorem Tr.chg {A B : AP} {ps new : List Nat} {d : Nat} {s : Sb} (hT : Tr (ndAt A) d s) (hc : Chg A B ps new) (hh : ∀ p ∈ s.ps, A.Has p) (hd : ∀ p ∈ s.ps, p ∉ ps) : Tr (ndAt B) d s ∧ (Fat (ndAt A) s.pg → Fat (ndAt B) s.pg) := by
  have hsame : ∀ p ∈ s.ps, ndAt B p = ndAt A p := fun p hp => by unfold ndAt; rw [hc.same p (hh p hp) (hd p hp)]
  refine ⟨Tr.same d s hT hsame, fun ⟨x, h1, h2⟩ => ⟨x, (hsame _ hT.mem).trans h1, h2⟩⟩
theorem kids_at {subs : List Sb} {i c : Nat} (h : (subs.map Sb.pg)[i]? = some c) : ∃ t, subs[i]? = some t ∧ t.pg = c := by
  rw [List.getElem?_map] at h
  obtain ⟨t, ht, e⟩ := Option.map_eq_some_iff.1 h
  exact ⟨t, ht, e⟩
structure KidAt (A : AP) (d : Nat) (s : Sb) (keys : List UInt64) (subs : List Sb) (i : Nat) (t : Sb) : Prop where
  nd : ndAt A s.pg = some ⟨false, keys, [], subs.map Sb.pg⟩
  inn : InN (fun t => Tr (ndAt A) d t ∧ Fat (ndAt A) t.pg) keys subs
  l : s.l = flatL subs
  ps : s.ps = s.pg :: flatP subs
  at_ : subs[i]? = some t
section
variable {A B : AP} {d i : Nat} {s t : Sb} {keys : List UInt64} {subs : List Sb} {k : UInt64}
theorem KidAt.mem (h : KidAt A d s keys subs i t) : t ∈ subs := List.mem_of_getElem? h.at_
theorem KidAt.sub (h : KidAt A d s keys subs i t) : ∀ p ∈ t.ps, p ∈ s.ps := fun p hp => by rw [h.ps]; exact List.mem_cons_of_mem _ (mem_flatP h.mem hp)
theorem KidAt.nodup (h : KidAt A d s keys subs i t) (hn : s.ps.Nodup) : ((s.pg :: flatP (subs.take i)) ++ (t.ps ++ flatP (subs.drop (i + 1)))).Nodup := by
  rw [h.ps, flatP_at h.at_] at hn
  exact hn
theorem KidAt.tn (h : KidAt A d s keys subs i t) (hn : s.ps.Nodup) : t.ps.Nodup := (List.nodup_append.1 (List.nodup_append.1 (h.nodup hn)).2.1).1
theorem KidAt.pg_not (h : KidAt A d s keys subs i t) (hn : s.ps.Nodup) : s.pg ∉ t.ps := fun hm => (List.nodup_append.1 (h.nodup hn)).2.2 s.pg (by simp) s.pg (by simp [hm]) rfl
theorem KidAt.lo (h : KidAt A d s keys subs i t) {p : Nat} (hp : p ∈ s.pg :: flatP (subs.take i)) : p ∈ s.ps := by
  rw [h.ps, flatP_at h.at_]
  rcases List.mem_cons.1 hp with e | e
  · simp [e]
  · simp [e]
theorem KidAt.hi (h : KidAt A d s keys subs i t) {p : Nat} (hp : p ∈ flatP (subs.drop (i + 1))) : p ∈ s.ps := by
  rw [h.ps, flatP_at h.at_]
  simp [hp]
theorem KidAt.other (h : KidAt A d s keys subs i t) (hn : s.ps.Nodup) : ∀ u ∈ subs.take i ++ subs.drop (i + 1), ∀ p ∈ u.ps, p ∉ t.ps ∧ p ≠ s.pg ∧ p ∈ s.ps := by
  have hd := h.nodup hn
  rw [List.nodup_append, List.nodup_append] at hd
  obtain ⟨h1, ⟨h2, h3, h4⟩, h5⟩ := hd
  intro u hu p hp
  rcases List.mem_append.1 hu with hu | hu
  · have hm := mem_flatP hu hp
    exact ⟨fun ht => h5 p (by simp [hm]) p (by simp [ht]) rfl, fun e => (List.nodup_cons.1 h1).1 (e ▸ hm), by rw [h.ps]; exact List.mem_cons_of_mem _ (mem_flatP (List.mem_of_mem_take hu) hp)⟩
  · have hm := mem_flatP hu hp
    exact ⟨fun ht => h4 p ht p hm rfl, fun e => h5 s.pg (by simp) p (by simp [hm]) e.symm, by rw [h.ps]; exact List.mem_cons_of_mem _ (mem_flatP (List.mem_of_mem_drop hu) hp)⟩
end
theorem Tr.kid {A : AP} {d i c : Nat} {s : Sb} {keys : List UInt64} {kids : List Nat} (hT : Tr (ndAt A) (d + 1) s) (hn : ndAt A s.pg = some ⟨false, keys, [], kids⟩) (hk : kids[i]? = some c) : ∃ subs t, KidAt A d s keys subs i t ∧ t.pg = c ∧ kids = subs.map Sb.pg ∧ Tr (ndAt A) d t ∧ Fat (ndAt A) t.pg := by
  obtain ⟨keys', subs, h1, h2, h3, h4⟩ := hT
  rw [hn] at h1
  injection Option.some.inj h1 with _ e1 _ e2
  subst e1 e2
  obtain ⟨t, ht, e⟩ := kids_at hk
  obtain ⟨a, b⟩ := h2.all t (List.mem_of_getElem? ht)
  exact ⟨subs, t, ⟨hn, h2, h3, h4, ht⟩, e, rfl, a, b⟩
theorem map_ins {subs : List Sb} {i : Nat} {t t' u : Sb} (h : subs[i]? = some t) (e : t'.pg = t.pg) : (subs.take i ++ t' :: u :: subs.drop (i + 1)).map Sb.pg = (subs.map Sb.pg).take (i + 1) ++ u.pg :: (subs.map Sb.pg).drop (i + 1) := by
  have hi := (List.getElem?_eq_some_iff.1 h).1
  have e1 : (subs.map Sb.pg).take (i + 1) = (subs.map Sb.pg).take i ++ [t.pg] := by
    rw [List.take_add_one, List.getElem?_map, h]; rfl
  rw [e1, List.map_append, List.map_cons, List.map_cons, e, List.map_take, List.map_drop, List.append_assoc]
  rfl
theorem map_kid {subs : List Sb} {i : Nat} {t t' : Sb} (h : subs[i]? = some t) (e : t'.pg = t.pg) : (subs.take i ++ t' :: subs.drop (i + 1)).map Sb.pg = subs.map Sb.pg := by
  conv => rhs; rw [cut_at h]
  rw [List.map_append, List.map_append, List.map_cons, List.map_cons, e]
theorem two_mem {a b c new : List Nat} {p : Nat} : (p ∈ a ++ (c ++ b) ∨ p ∈ new) ↔ (p ∈ a ∨ p ∈ b) ∨ (p ∈ c ∨ p ∈ new) := by
  simp only [List.mem_append]
  constructor
  · rintro ((h | h | h) | h)
    · exact .inl (.inl h)
    · exact .inr (.inl h)
    · exact .inl (.inr h)
    · exact .inr (.inr h)
  · rintro ((h | h) | h | h)
    · exact .inl (.inl h)
    · exact .inl (.inr (.inr h))
    · exact .inl (.inr (.inl h))
    · exact .inr h
theorem mid_mem {a b c : List Nat} {p : Nat} : p ∈ a ++ (c ++ b) ↔ (p ∈ a ∨ p ∈ b) ∨ p ∈ c := by
  simp only [List.mem_append]
  constructor
  · rintro (h | h | h)
    · exact .inl (.inl h)
    · exact .inr h
    · exact .inl (.inr h)
  · rintro ((h | h) | h)
    · exact .inl h
    · exact .inr (.inr h)
    · exact .inr (.inl h)
theorem put_ok {k v : UInt64} {d : Nat} {A B : AP} {pg more : Nat} {κ : UInt64} {e : Int} (h : PutS k v d A pg B more κ e) : e = 0 → ∀ s, Tr (ndAt A) d s → s.pg = pg → s.ps.Nodup → (∀ p ∈ s.ps, A.Has p) → A.Good → (∀ p, A.Has p → (A.c p).length = 504) → ∃ new, PutOut A B d s (insL s.l k v) more κ new := by
  induction h with
  | @found A pg i ks vs hn hk =>
    intro _ s hT hpg hnd hh hg hc
    subst hpg
    obtain ⟨ks', vs', h1, h2, h3, h4, h5⟩ := hT
    rw [hn] at h1
    injection Option.some.inj h1 with _ e1 e2 _
    subst e1 e2
    have hp := hh s.pg (by rw [h5]; simp)
    have hf0 := dec_fits hn
    have hfit : Fits ⟨true, ks, vs.set i v, []⟩ := ⟨fun _ => ⟨(hf0.leaf rfl).1, by simpa using h2, rfl⟩, (fun h => by cases h)⟩
    have hnd2 : ndAt (A.wrote s.pg (encN (A.c s.pg) ⟨true, ks, vs.set i v, []⟩)) s.pg = some ⟨true, ks, vs.set i v, []⟩ := by
      unfold ndAt
      rw [AP.wrote_c, if_pos rfl]
      exact dec_enc _ _ (by rw [hc _ hp]; omega) hfit
    refine ⟨[], ⟨by rw [h5]; exact Chg.wrote hp hc (by rw [enc_length _ _ (by rw [hc _ hp]; omega) hfit, hc _ hp]), by simp, fun _ => ⟨⟨s.pg, ks.zip (vs.set i v), [s.pg]⟩, ⟨ks, vs.set i v, hnd2, by simpa using h2, h3, rfl, rfl⟩, rfl, ?_, by simp, fun p => by rw [h5]; simp, ?_, fun x hx hl => ?_⟩, fun h => absurd rfl h⟩⟩
    · rw [h4]; exact (insL_set h3 hk h2).symm
    · rintro ⟨x, hx, hf⟩
      rw [hn] at hx
      obtain rfl := Option.some.inj hx
      exact ⟨_, hnd2, hf⟩
    · rw [hn] at hx
      obtain rfl := Option.some.inj hx
      cases hl
  | @leaf A B pg i more ks vs κ e hn hst hno hset =>
    intro he s hT hpg hnd hh hg hc
    subst hpg he
    obtain ⟨ks', vs', h1, h2, h3, h4, h5⟩ := hT
    rw [hn] at h1
    injection Option.some.inj h1 with _ e1 e2 _
    subst e1 e2
    have hp := hh s.pg (by rw [h5]; simp)
    have hf0 := (dec_fits hn).leaf rfl
    dsimp only at hf0
    have hle := hst.le
    have hlk : (ks.take i ++ k :: ks.drop i).length = ks.length + 1 := by simp; omega
    have hlv : (vs.take i ++ v :: vs.drop i).length = ks.length + 1 := by simp; omega
    have hsort : Sorted (ks.take i ++ k :: ks.drop i) := Stands.sorted hst h3 hno
    have hok : NdOk ⟨true, ks.take i ++ k :: ks.drop i, vs.take i ++ v :: vs.drop i, []⟩ := ⟨fun _ => ⟨by dsimp only; omega, rfl, by dsimp only; omega⟩, (fun h => by cases h)⟩
    have hins := insL_zip (v := v) hst h2 hno
    obtain ⟨new, hchg, hcase⟩ := hset.out hok hp hg hc
    rcases hcase with ⟨rfl, rfl, hfl, hB⟩ | ⟨hm0, hm6, rfl, hfl, rfl, hB1, hB2⟩
    · refine ⟨[], ⟨by rw [h5]; exact hchg, by simp, fun _ => ⟨⟨s.pg, _, [s.pg]⟩, ⟨_, _, hB, by omega, hsort, rfl, rfl⟩, rfl, ?_, by simp, fun p => by rw [h5]; simp, ?_, fun x hx hl => ?_⟩, fun h => absurd rfl h⟩⟩
      · rw [h4]; exact hins.symm
      · rintro ⟨x, hx, hf⟩
        rw [hn] at hx
        obtain rfl := Option.some.inj hx
        exact ⟨_, hB, hf.grow rfl (by dsimp only; omega) (Nat.le_refl _)⟩
      · rw [hn] at hx
        obtain rfl := Option.some.inj hx
        cases hl
    · obtain ⟨f1, f2, ft1, ft2, _, _⟩ := hok.split hfl
      have hmp : more ≠ s.pg := fun e => hchg.fresh more (by simp) (e ▸ hp)
      have h31 : ks.length + 1 = 31 := by
        unfold fullN at hfl
        simp only [Bool.or_eq_true, decide_eq_true_eq, hlk, List.length_nil] at hfl
        omega
      refine ⟨[more], ⟨by rw [h5]; exact hchg, by simp, fun h => absurd h hm0, fun _ => ⟨hm6, ⟨s.pg, ((ks.take i ++ k :: ks.drop i).take 15).zip ((vs.take i ++ v :: vs.drop i).take 15), [s.pg]⟩, ⟨more, ((ks.take i ++ k :: ks.drop i).drop 15).zip ((vs.take i ++ v :: vs.drop i).drop 15), [more]⟩, ?_, ?_, rfl, rfl, ?_, ?_, ?_, ⟨_, hB1, ft1⟩, ⟨_, hB2, ft2⟩, ?_, fun p => by rw [h5]; simp⟩⟩⟩
      · refine ⟨_, _, by rw [hB1, splitN_leaf (n := 15) (by omega)], ?_, hsort.take 15, rfl, rfl⟩
        rw [List.length_take, List.length_take]; omega
      · refine ⟨_, _, by rw [hB2, splitN_leaf (n := 15) (by omega)], ?_, hsort.drop 15, rfl, rfl⟩
        rw [List.length_drop, List.length_drop]; omega
      · rw [← List.zip_append (by rw [List.length_take, List.length_take]; omega), List.take_append_drop, List.take_append_drop, h4]
        exact hins.symm
      · have := (half_lt (vs := vs.take i ++ v :: vs.drop i) hsort (h := 15) (by omega)).1
        rw [splitN_leaf (n := 15) (by omega)]
        exact this
      · have := (half_lt (vs := vs.take i ++ v :: vs.drop i) hsort (h := 15) (by omega)).2
        rw [splitN_leaf (n := 15) (by omega)]
        exact this
      · simp [Ne.symm hmp]
  | @stop d A B pg i c more keys kids κ e hn hix hkid hrec hor ih =>
    intro he s hT hpg hnd hh hg hc
    subst hpg he
    obtain rfl : more = 0 := by rcases hor with h | h; exact absurd rfl h; exact h
    obtain ⟨subs, t, hK, hpt, rfl, hTt, hFt⟩ := hT.kid hn hkid
    obtain ⟨new, hO⟩ := ih rfl t hTt hpt (hK.tn hnd) (fun p hp => hh p (hK.sub p hp)) hg hc
    obtain ⟨t', hT', hpg', hl', hn', hm', hfat', _⟩ := hO.one rfl
    have hchg := hO.chg.wider hK.sub
    have hord := (hK.inn.imp (Q := fun _ => True) (fun _ _ _ => trivial)).set hK.at_ hix (t := t') (fun x hx => by
      rw [hl'] at hx
      rcases mem_insL hx with h | h
      · exact .inl h
      · exact .inr (by rw [h])) trivial
    have hother : ∀ u ∈ subs.take i ++ subs.drop (i + 1), Tr (ndAt B) d u ∧ Fat (ndAt B) u.pg := fun u hu => by
      have hus : u ∈ subs := by
        rcases List.mem_append.1 hu with h | h
        · exact List.mem_of_mem_take h
        · exact List.mem_of_mem_drop h
      obtain ⟨a, b⟩ := hK.inn.all u hus
      have ho := hK.other hnd u hu
      obtain ⟨a', b'⟩ := Tr.chg a hO.chg (fun p hp => hh p (ho p hp).2.2) (fun p hp => (ho p hp).1)
      exact ⟨a', b' b⟩
    have hnB : ndAt B s.pg = ndAt A s.pg := by unfold ndAt; rw [hO.chg.same s.pg (hh _ hT.mem) (hK.pg_not hnd)]
    refine ⟨new, ⟨hchg, Nat.le_trans hO.few (by omega), fun _ => ⟨⟨s.pg, flatL (subs.take i ++ t' :: subs.drop (i + 1)), s.pg :: flatP (subs.take i ++ t' :: subs.drop (i + 1))⟩, ⟨keys, subs.take i ++ t' :: subs.drop (i + 1), ?_, ⟨hord.len, hord.ord, fun u hu => ?_⟩, rfl, rfl⟩, rfl, ?_, ?_, fun p => ?_, fun ⟨x, hx, hf⟩ => ⟨x, hnB.trans hx, hf⟩, fun x hx hl => ⟨x, hnB.trans hx, hl⟩⟩, fun h => absurd rfl h⟩⟩
    · dsimp only
      rw [hnB, hn, map_kid hK.at_ (hpg'.trans rfl)]
    · rcases List.mem_append.1 hu with h | h
      · exact hother u (by simp [h])
      · rcases List.mem_cons.1 h with rfl | h
        · rw [hpg']; exact ⟨hT', hfat' hFt⟩
        · exact hother u (by simp [h])
    · dsimp only
      rw [hK.l, flatL_at hK.at_, flatL_app, flatL_cons, hl', insL_mid (flat_below (hK.inn.left hK.at_ hix.below)) (flat_above (hK.inn.right hK.at_ hix.above))]
    · have := nodup_swap (hK.nodup hnd) hn' (fun p hp => (hm' p).1 hp) (fun p hp => ⟨fun hx => hO.chg.fresh p hp (hh p (hK.lo hx)), fun hx => hO.chg.fresh p hp (hh p (hK.hi hx))⟩)
      rw [flatP_app, flatP_cons]
      exact this
    · dsimp only
      rw [hK.ps, flatP_at hK.at_, flatP_app, flatP_cons, ← List.cons_append, ← List.cons_append, mid_mem, two_mem, hm' p]
  | @up d A B1 B pg i c more1 more keys kids κ1 κ e hn hix hkid hrec hm1 hset ih =>
    intro he s hT hpg hnd hh hg hc
    subst hpg he
    obtain ⟨subs, t, hK, hpt, rfl, hTt, hFt⟩ := hT.kid hn hkid
    obtain ⟨new1, hO⟩ := ih rfl t hTt hpt (hK.tn hnd) (fun p hp => hh p (hK.sub p hp)) hg hc
    obtain ⟨hm6, t', u', hT', hU', hpg', hpgu, hl', hlt, hge, hF1, hF2, hn', hm'⟩ := hO.two hm1
    have hchg1 := hO.chg.wider hK.sub
    have hin : ∀ x ∈ t'.l ++ u'.l, x ∈ t.l ∨ x.1 = k := fun x hx => by
      rw [hl'] at hx
      rcases mem_insL hx with h | h
      · exact .inl h
      · exact .inr (by rw [h])
    have ht0 : t'.l ≠ [] := fun h0 => by have := hT'.many _ _ (by rw [hpg']; exact hF1); rw [h0] at this; simp at this
    have hu0 : u'.l ≠ [] := fun h0 => by have := hU'.many _ _ (by rw [hpgu]; exact hF2); rw [h0] at this; simp at this
    have hord := (hK.inn.imp (Q := fun _ => True) (fun _ _ _ => trivial)).ins hK.at_ hix (t := t') (u := u') (κ := κ1) (fun x hx => hin x (by simp [hx])) (fun x hx => hin x (by simp [hx])) hlt hge ht0 hu0 trivial trivial
    have hf0 := (dec_fits hn).inner rfl
    dsimp only at hf0
    obtain ⟨z1, z2, z3, _, z5⟩ := hf0
    have hi := (List.getElem?_eq_some_iff.1 hK.at_).1
    have hkm := map_ins (t' := t') (u := u') hK.at_ hpg'
    rw [hpgu] at hkm
    have hkl : ((subs.map Sb.pg).take (i + 1) ++ more1 :: (subs.map Sb.pg).drop (i + 1)).length = (subs.map Sb.pg).length + 1 := by
      rw [← hkm]; simp; omega
    have hnB1 : ndAt B1 s.pg = ndAt A s.pg := by unfold ndAt; rw [hO.chg.same s.pg (hh _ hT.mem) (hK.pg_not hnd)]
    have hok : NdOk ⟨false, keys.take i ++ κ1 :: keys.drop i, [], (subs.map Sb.pg).take (i + 1) ++ more1 :: (subs.map Sb.pg).drop (i + 1)⟩ := by
      refine ⟨(fun h => by cases h), fun _ => ⟨?_, rfl, ?_, ?_, fun q hq => ?_⟩⟩
      · dsimp only; rw [hkl]; simp; simp at z1; omega
      · dsimp only; rw [hkl]; omega
      · dsimp only; rw [hkl]; omega
      · rcases List.mem_append.1 hq with h | h
        · exact z5 q (List.mem_of_mem_take h)
        · rcases List.mem_cons.1 h with rfl | h
          · omega
          · exact z5 q (List.mem_of_mem_drop h)
    have hpB1 : B1.Has s.pg := (hO.chg.has _).2 (.inl (hh _ hT.mem))
    obtain ⟨new2, hchg2, hcase⟩ := hset.out hok hpB1 (hO.chg.good hg) hO.chg.clen
    have hchg : Chg A B s.ps (new1 ++ new2) := hchg1.trans hchg2 (fun p hp => .inl (by rw [List.mem_singleton.1 hp]; exact hT.mem))
    -- the kids stand behind the write
    have hhas1 : ∀ p, (p ∈ s.ps ∨ p ∈ new1) → B1.Has p := fun p hp => (hO.chg.has p).2 (by rcases hp with h | h; exact .inl (hh p h); exact .inr h)
    have hall : ∀ w ∈ subs.take i ++ t' :: u' :: subs.drop (i + 1), Tr (ndAt B) d w ∧ Fat (ndAt B) w.pg := fun w hw => by
      have hB1 : (Tr (ndAt B1) d w ∧ Fat (ndAt B1) w.pg) ∧ ∀ p ∈ w.ps, B1.Has p ∧ p ≠ s.pg := by
        have hoth : ∀ u ∈ subs.take i ++ subs.drop (i + 1), (Tr (ndAt B1) d u ∧ Fat (ndAt B1) u.pg) ∧ ∀ p ∈ u.ps, B1.Has p ∧ p ≠ s.pg := fun u hu => by
          have hus : u ∈ subs := by
            rcases List.mem_append.1 hu with h | h
            · exact List.mem_of_mem_take h
            · exact List.mem_of_mem_drop h
          obtain ⟨a, b⟩ := hK.inn.all u hus
          have ho := hK.other hnd u hu
          obtain ⟨a', b'⟩ := Tr.chg a hO.chg (fun p hp => hh p (ho p hp).2.2) (fun p hp => (ho p hp).1)
          exact ⟨⟨a', b' b⟩, fun p hp => ⟨hhas1 p (.inl (ho p hp).2.2), (ho p hp).2.1⟩⟩
        have hnew : ∀ p ∈ t'.ps ++ u'.ps, B1.Has p ∧ p ≠ s.pg := fun p hp => by
          rcases (hm' p).1 hp with h | h
          · exact ⟨hhas1 p (.inl (hK.sub p h)), fun e => hK.pg_not hnd (e ▸ h)⟩
          · exact ⟨hhas1 p (.inr h), fun e => hO.chg.fresh p h (e ▸ hh _ hT.mem)⟩
        rcases List.mem_append.1 hw with h | h
        · exact hoth w (by simp [h])
        · rcases List.mem_cons.1 h with rfl | h
          · exact ⟨⟨hT', by rw [hpg']; exact hF1⟩, fun p hp => hnew p (by simp [hp])⟩
          · rcases List.mem_cons.1 h with rfl | h
            · exact ⟨⟨hU', by rw [hpgu]; exact hF2⟩, fun p hp => hnew p (by simp [hp])⟩
            · exact hoth w (by simp [h])
      obtain ⟨⟨a, b⟩, c⟩ := hB1
      obtain ⟨a', b'⟩ := Tr.chg a hchg2 (fun p hp => (c p hp).1) (fun p hp => by simpa using (c p hp).2)
      exact ⟨a', b' b⟩
    have hl2 : flatL (subs.take i ++ t' :: u' :: subs.drop (i + 1)) = insL s.l k v := by
      rw [hK.l, flatL_at hK.at_, flatL_app, flatL_cons, flatL_cons, insL_mid (flat_below (hK.inn.left hK.at_ hix.below)) (flat_above (hK.inn.right hK.at_ hix.above)), ← hl', List.append_assoc]
    have hps2 : (s.pg :: flatP (subs.take i ++ t' :: u' :: subs.drop (i + 1))).Nodup ∧ ∀ p, p ∈ s.pg :: flatP (subs.take i ++ t' :: u' :: subs.drop (i + 1)) ↔ p ∈ s.ps ∨ p ∈ new1 := by
      have e1 : s.pg :: flatP (subs.take i ++ t' :: u' :: subs.drop (i + 1)) = (s.pg :: flatP (subs.take i)) ++ ((t'.ps ++ u'.ps) ++ flatP (subs.drop (i + 1))) := by
        rw [flatP_app, flatP_cons, flatP_cons, List.append_assoc]; rfl
      rw [e1]
      refine ⟨nodup_swap (hK.nodup hnd) hn' (fun p hp => (hm' p).1 hp) (fun p hp => ⟨fun hx => hO.chg.fresh p hp (hh p (hK.lo hx)), fun hx => hO.chg.fresh p hp (hh p (hK.hi hx))⟩), fun p => ?_⟩
      rw [hK.ps, flatP_at hK.at_, ← List.cons_append, mid_mem, two_mem, hm' p]
    rcases hcase with ⟨rfl, rfl, hfl, hB⟩ | ⟨hm0, hm60, rfl, hfl, rfl, hB1', hB2'⟩
    · rw [List.append_nil] at hchg
      refine ⟨new1, ⟨hchg, Nat.le_trans hO.few (by omega), fun _ => ⟨⟨s.pg, flatL (subs.take i ++ t' :: u' :: subs.drop (i + 1)), s.pg :: flatP (subs.take i ++ t' :: u' :: subs.drop (i + 1))⟩, ⟨_, _, by rw [hB, hkm], ⟨hord.len, hord.ord, hall⟩, rfl, rfl⟩, rfl, hl2, hps2.1, hps2.2, ?_, fun x hx hl => ⟨_, hB, rfl⟩⟩, fun h => absurd rfl h⟩⟩
      rintro ⟨x, hx, hf⟩
      rw [hn] at hx
      obtain rfl := Option.some.inj hx
      exact ⟨_, hB, hf.grow rfl (by dsimp only; simp; omega) (by dsimp only; rw [hkl]; omega)⟩
    · obtain ⟨f1, f2, ft1, ft2, _, _⟩ := hok.split hfl
      have h41 : 32 ≤ (subs.map Sb.pg).length + 1 ∧ (subs.map Sb.pg).length + 1 ≤ 41 := by
        unfold fullN at hfl
        simp only [Bool.or_eq_true, decide_eq_true_eq, hkl] at hfl
        rw [List.length_append, List.length_cons, List.length_take, List.length_drop] at hfl
        simp at z1 z3 hfl ⊢
        omega
      have hS : (subs.take i ++ t' :: u' :: subs.drop (i + 1)).length = (subs.map Sb.pg).length + 1 := by rw [← hkl, ← hkm, List.length_map]
      have hKl : (keys.take i ++ κ1 :: keys.drop i).length = (subs.map Sb.pg).length := by have := hord.len; omega
      generalize hss : subs.take i ++ t' :: u' :: subs.drop (i + 1) = ss at hord hall hl2 hps2 hkm hS
      generalize hkk : keys.take i ++ κ1 :: keys.drop i = kk at hord hKl hB1' hB2' ft1 ft2
      rw [← hkm] at hB1' hB2' ft1 ft2
      obtain ⟨n, hnn⟩ : ∃ n, (ss.map Sb.pg).length / 2 = n := ⟨_, rfl⟩
      have hmlen : (ss.map Sb.pg).length = (subs.map Sb.pg).length + 1 := by rw [List.length_map]; exact hS
      have ek : kk = kk.take (n - 1) ++ kk.getD (n - 1) 0 :: kk.drop n := by
        have := List.take_append_drop (n - 1) kk
        rw [List.drop_eq_getElem_cons (by omega), show n - 1 + 1 = n by omega] at this
        rw [List.getD_eq_getElem?_getD, List.getElem?_eq_getElem (by omega)]
        exact this.symm
      have es : ss = ss.take n ++ ss.drop n := (List.take_append_drop n ss).symm
      have hin2 : InN (fun w => Tr (ndAt B) d w ∧ Fat (ndAt B) w.pg) (kk.take (n - 1) ++ kk.getD (n - 1) 0 :: kk.drop n) (ss.take n ++ ss.drop n) := by
        rw [← ek, ← es]; exact ⟨hord.len, hord.ord, hall⟩
      obtain ⟨i1, i2, i3, i4⟩ := hin2.halve (by rw [List.length_take, List.length_take]; omega)
      have hfew := hO.few
      refine ⟨new1 ++ [more], ⟨hchg, by rw [List.length_append]; simp; omega, fun h => absurd h hm0, fun _ => ⟨hm60, ⟨s.pg, flatL (ss.take n), s.pg :: flatP (ss.take n)⟩, ⟨more, flatL (ss.drop n), more :: flatP (ss.drop n)⟩, ⟨kk.take (n - 1), ss.take n, ?_, i1, rfl, rfl⟩, ⟨kk.drop n, ss.drop n, ?_, i2, rfl, rfl⟩, rfl, rfl, ?_, ?_, ?_, ⟨_, hB1', ft1⟩, ⟨_, hB2', ft2⟩, ?_, fun p => ?_⟩⟩⟩
      · dsimp only
        rw [hB1', splitN_inner hnn, List.map_take]
      · dsimp only
        rw [hB2', splitN_inner hnn, List.map_drop]
      · dsimp only
        rw [← flatL_app, ← es, hl2]
      · dsimp only
        rw [← hkm, splitN_inner hnn]
        exact i3
      · dsimp only
        rw [← hkm, splitN_inner hnn]
        exact i4
      · dsimp only
        have hm : more ∉ s.pg :: flatP ss := fun hx => by
          have := (hps2.2 more).1 hx
          exact hchg2.fresh more (by simp) (hhas1 more this)
        rw [es, flatP_app] at hps2 hm
        rw [List.nodup_append]
        have h0 := hps2.1
        rw [← List.cons_append, List.nodup_append] at h0
        refine ⟨h0.1, List.nodup_cons.2 ⟨fun hx => hm (by simp [hx]), h0.2.1⟩, fun a ha b hb e => ?_⟩
        rcases List.mem_cons.1 hb with rfl | hb
        · exact hm (by rw [← e, ← List.cons_append]; exact List.mem_append_left _ ha)
        · exact h0.2.2 a ha b hb e
      · dsimp only
        have h0 := hps2.2 p
        rw [es, flatP_app] at h0
        simp only [List.mem_append, List.mem_cons, List.not_mem_nil, or_false] at h0 ⊢
        constructor
        · rintro ((h | h) | h | h)
          · rcases h0.1 (.inl h) with h | h
            · exact .inl h
            · exact .inr (.inl h)
          · rcases h0.1 (.inr (.inl h)) with h | h
            · exact .inl h
            · exact .inr (.inl h)
          · exact .inr (.inr h)
          · rcases h0.1 (.inr (.inr h)) with h | h
            · exact .inl h
            · exact .inr (.inl h)
        · rintro (h | h | h)
          · rcases h0.2 (.inl h) with h | h | h
            · exact .inl (.inl h)
            · exact .inl (.inr h)
            · exact .inr (.inr h)
          · rcases h0.2 (.inr h) with h | h | h
            · exact .inl (.inl h)
            · exact .inl (.inr h)
            · exact .inr (.inr h)
          · exact .inr (.inl h)
end Go.Proofs.YtfljlcfmdcepnaaGreatDoor
