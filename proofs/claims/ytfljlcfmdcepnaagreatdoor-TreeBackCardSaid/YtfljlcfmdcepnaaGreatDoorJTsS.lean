/-
  Trees (plain): a put that fails; the root that is split; a tree of a root page, its keys, its pages.
  Trees (plain): the value of a key, the first key that is not below one.
  The document's list of pairs in memory: Next, Get, Drop.
-/
import Derived.Test.YtfljlcfmdcepnaaGreatDoorJTsA
import Derived.Test.YtfljlcfmdcepnaaGreatDoorJUMap
import Derived.Test.YtfljlcfmdcepnaaGreatDoorJDiskX
namespace Go.Proofs.YtfljlcfmdcepnaaGreatDoor
open Go.RowKit
open UK (str BytesAt nth Only)
theorem kidIx_ex : ∀ (keys : List UInt64), Sorted keys → ∀ k : UInt64, ∃ i, KidIx keys k i
  | [], _, _ => ⟨0, Nat.le_refl _, fun κ h => (by simp at h), fun κ h => (by simp at h)⟩
  | κ :: ks, hs, k => by
    by_cases h : κ.toNat ≤ k.toNat
    · obtain ⟨i, hi⟩ := kidIx_ex ks (hs.drop 1) k
      refine ⟨i + 1, Nat.succ_le_succ hi.le, fun κ' h' => ?_, hi.above⟩
      rcases List.mem_cons.1 h' with rfl | h'
      · exact h
      · exact hi.below κ' h'
    · refine ⟨0, Nat.zero_le _, fun κ' h' => (by simp at h'), fun κ' h' => ?_⟩
      rcases List.mem_cons.1 h' with rfl | h'
      · omega
      · obtain ⟨j, hj, e⟩ := List.getElem_of_mem h'
        have := hs 0 (j + 1) κ κ' (by omega) rfl (by rw [List.getElem?_cons_succ, List.getElem?_eq_getElem hj, e])
        omega
theorem put_hok {k v : UInt64} {d : Nat} {A B1 : AP} {i c more1 : Nat} {keys : List UInt64} {kids : List Nat} {κ1 : UInt64} {er : Int} {s : Sb} (hT : Tr (ndAt A) (d + 1) s) (hnd : s.ps.Nodup) (hh : ∀ p ∈ s.ps, A.Has p) (hg : A.Good) (hc : ∀ p, A.Has p → (A.c p).length = 504)
    (hn : ndAt A s.pg = some ⟨false, keys, [], kids⟩) (hkid : kids[i]? = some c) (hix : KidIx keys k i) (hrec : PutS k v d A c B1 more1 κ1 er) :
    (er ≠ 0 ∨ more1 = 0) ∨ (er = 0 ∧ more1 ≠ 0 ∧ B1.Has s.pg ∧ NdOk ⟨false, keys.take i ++ κ1 :: keys.drop i, [], kids.take (i + 1) ++ more1 :: kids.drop (i + 1)⟩) := by
  by_cases he : er = 0
  · by_cases hm : more1 = 0
    · exact .inl (.inr hm)
    · subst he
      refine .inr ⟨rfl, hm, ?_⟩
      obtain ⟨subs, t, hK, hpt, rfl, hTt, hFt⟩ := hT.kid hn hkid
      obtain ⟨new1, hO⟩ := put_ok hrec rfl t hTt hpt (hK.tn hnd) (fun p hp => hh p (hK.sub p hp)) hg hc
      obtain ⟨hm6, t', u', hT', hU', hpg', hpgu, _⟩ := hO.two hm
      have hf0 := (dec_fits hn).inner rfl
      dsimp only at hf0
      obtain ⟨z1, z2, z3, _, z5⟩ := hf0
      have hi := (List.getElem?_eq_some_iff.1 hK.at_).1
      have hle := hix.le
      have hkm := map_ins (t' := t') (u := u') hK.at_ hpg'
      rw [hpgu] at hkm
      have hkl : ((subs.map Sb.pg).take (i + 1) ++ more1 :: (subs.map Sb.pg).drop (i + 1)).length = (subs.map Sb.pg).length + 1 := by
        rw [← hkm]; simp; omega
      refine ⟨(hO.chg.has _).2 (.inl (hh _ hT.mem)), (fun h => by cases h), fun _ => ⟨?_, rfl, ?_, ?_, fun q hq => ?_⟩⟩
      · dsimp only; rw [hkl]; simp; simp at z1; omega
      · dsimp only; rw [hkl]; omega
      · dsimp only; rw [hkl]; omega
      · rcases List.mem_append.1 hq with h | h
        · exact z5 q (List.mem_of_mem_take h)
        · rcases List.mem_cons.1 h with rfl | h
          · omega
          · exact z5 q (List.mem_of_mem_drop h)
  · exact .inl (.inl he)
theorem put_bad {k v : UInt64} {d : Nat} {A B : AP} {pg more : Nat} {κ : UInt64} {e : Int} (h : PutS k v d A pg B more κ e) : e ≠ 0 → ∀ s, Tr (ndAt A) d s → s.pg = pg → s.ps.Nodup → (∀ p ∈ s.ps, A.Has p) → A.Good → (∀ p, A.Has p → (A.c p).length = 504) → e = 6 ∧ A.Reach B ∧ A.rooms ≤ d := by
  induction h with
  | found hn hk => exact fun h => absurd rfl h
  | @leaf A B pg i more ks vs κ e hn hst hno hset =>
    intro he s hT hpg hnd hh hg hc
    subst hpg
    have hp := hh s.pg hT.mem
    cases hset with
    | one hf => exact absurd rfl he
    | none hf hfull => exact ⟨rfl, (AP.Reach.refl A).wrote hp _, by rw [hg.full.1 hfull]; exact Nat.zero_le _⟩
    | two hf hfull => exact absurd rfl he
  | @stop d A B pg i c more keys kids κ e hn hix hkid hrec hor ih =>
    intro he s hT hpg hnd hh hg hc
    subst hpg
    obtain ⟨subs, t, hK, hpt, rfl, hTt, hFt⟩ := hT.kid hn hkid
    obtain ⟨h1, h2, h3⟩ := ih he t hTt hpt (hK.tn hnd) (fun p hp => hh p (hK.sub p hp)) hg hc
    exact ⟨h1, h2, Nat.le_succ_of_le h3⟩
  | @up d A B1 B pg i c more1 more keys kids κ1 κ e hn hix hkid hrec hm1 hset ih =>
    intro he s hT hpg hnd hh hg hc
    subst hpg
    obtain ⟨subs, t, hK, hpt, rfl, hTt, hFt⟩ := hT.kid hn hkid
    obtain ⟨new1, hO⟩ := put_ok hrec rfl t hTt hpt (hK.tn hnd) (fun p hp => hh p (hK.sub p hp)) hg hc
    have hp := (hO.chg.has _).2 (.inl (hh _ hT.mem))
    cases hset with
    | one hf => exact absurd rfl he
    | none hf hfull =>
      refine ⟨rfl, hO.chg.reach.wrote hp _, ?_⟩
      have h1 := hO.chg.rooms
      have h2 := (hO.chg.good hg).full.1 hfull
      have h3 := hO.few
      omega
    | two hf hfull => exact absurd rfl he
inductive PutT (k v : UInt64) (rt d : Nat) (A : AP) : AP → Int → Prop
  | same {B : AP} {κ : UInt64} : PutS k v d A rt B 0 κ 0 → PutT k v rt d A B 0
  | bad {more : Nat} {B : AP} {κ : UInt64} {e : Int} : PutS k v d A rt B more κ e → e ≠ 0 → PutT k v rt d A B e
  | full {more : Nat} {B : AP} {κ : UInt64} : PutS k v d A rt B more κ 0 → more ≠ 0 → B.Full → PutT k v rt d A B 6
  | grow {more : Nat} {B B2 : AP} {κ : UInt64} {x : Nd} : PutS k v d A rt B more κ 0 → more ≠ 0 → ¬ B.Full → ndAt B rt = some x → B2 = B.take.wrote B.next (encN (UK.zeros 504) x) → PutT k v rt d A (B2.wrote rt (encN (B2.c rt) ⟨false, [κ], [], [B.next, more]⟩)) 0
structure TI (A : AP) (rt : Nat) (l : List KV) (ps : List Nat) : Prop where
  ex : ∃ d s, Tr (ndAt A) d s ∧ s.pg = rt ∧ s.l = l ∧ s.ps = ps
  nod : ps.Nodup
  has : ∀ p ∈ ps, A.Has p
theorem TI.rise {A : AP} {rt : Nat} {l : List KV} {ps : List Nat} (h : TI A rt l ps) : Rise l := by
  obtain ⟨d, s, h1, _, rfl, _⟩ := h.ex
  exact h1.rise
theorem TI.many {A : AP} {rt : Nat} {l : List KV} {ps : List Nat} (h : TI A rt l ps) : 14 * ps.length ≤ l.length + 14 := by
  obtain ⟨d, s, h1, _, rfl, rfl⟩ := h.ex
  exact h1.root_many
theorem pages_le {A : AP} {ps : List Nat} (hn : ps.Nodup) (hh : ∀ p ∈ ps, A.Has p) (hg : A.Good) : ps.length ≤ 60000 := by
  have h1 : ps.length ≤ (List.range A.cnt).length := hn.length_le_of_subset (fun p hp => List.mem_range.2 (hh p hp).2.1)
  rw [List.length_range] at h1
  have := hg.most
  have := hg.few
  omega
theorem tr_depth {A : AP} {d : Nat} {s : Sb} (h : Tr (ndAt A) d s) (hn : s.ps.Nodup) (hh : ∀ p ∈ s.ps, A.Has p) (hg : A.Good) : d ≤ 16 := by
  cases d with
  | zero => omega
  | succ d =>
    have hl := pages_le hn hh hg
    obtain ⟨keys, subs, h1, h2, h3, h4⟩ := h
    have h5 := h2.len
    obtain ⟨t, ht⟩ : ∃ t, t ∈ subs := by
      cases subs with
      | nil => simp at h5
      | cons t r => exact ⟨t, by simp⟩
    have h6 := Tr.deep d t (h2.all t ht).1 (h2.all t ht).2
    have h7 : t.ps.length ≤ s.ps.length := by
      have hsub : t.ps.Sublist s.ps := by
        rw [h4]
        exact ((List.sublist_flatten_of_mem (List.mem_map.2 ⟨t, ht, rfl⟩)).trans (by rw [← List.flatMap_def]; exact List.Sublist.refl _)).cons _
      exact hsub.length_le
    refine Nat.le_of_not_lt (fun hlt => ?_)
    have h8 : 2 ^ 16 ≤ 2 ^ d := Nat.pow_le_pow_right (by omega) (by omega)
    have : (2 : Nat) ^ 16 = 65536 := by decide
    omega
structure PutOk (A B : AP) (rt : Nat) (l : List KV) (ps : List Nat) : Prop where
  ex : ∃ new ps', Chg A B ps new ∧ TI B rt l ps' ∧ (∀ p, p ∈ ps' ↔ p ∈ ps ∨ p ∈ new) ∧ new.length ≤ 20
theorem putT_ok {k v : UInt64} {rt d : Nat} {A B : AP} {e : Int} {s : Sb} (h : PutT k v rt d A B e) (hT : Tr (ndAt A) d s) (hpg : s.pg = rt) (ht : TI A rt s.l s.ps) (hg : A.Good) (hc : ∀ p, A.Has p → (A.c p).length = 504) :
    (e = 0 ∧ PutOk A B rt (insL s.l k v) s.ps) ∨ (e = 6 ∧ A.Reach B ∧ A.rooms ≤ 20) := by
  have hdep := tr_depth hT ht.nod ht.has hg
  cases h with
  | @same B κ hp =>
    obtain ⟨new, hO⟩ := put_ok hp rfl s hT hpg ht.nod ht.has hg hc
    obtain ⟨t, h1, h2, h3, h4, h5, _⟩ := hO.one rfl
    refine .inl ⟨rfl, new, t.ps, hO.chg, ⟨⟨d, t, h1, h2.trans hpg, h3, rfl⟩, h4, fun p hp => (hO.chg.has p).2 ?_⟩, h5, by have := hO.few; omega⟩
    rcases (h5 p).1 hp with h | h
    · exact .inl (ht.has p h)
    · exact .inr h
  | @bad more B κ e hp he =>
    obtain ⟨h1, h2, h3⟩ := put_bad hp he s hT hpg ht.nod ht.has hg hc
    exact .inr ⟨h1, h2, by omega⟩
  | @full more B κ hp hm hf =>
    obtain ⟨new, hO⟩ := put_ok hp rfl s hT hpg ht.nod ht.has hg hc
    have h1 := hO.chg.rooms
    have h2 := (hO.chg.good hg).full.1 hf
    have h3 := hO.few
    exact .inr ⟨rfl, hO.chg.reach, by omega⟩
  | @grow more B B2 κ x hp hm hf hx hB2 =>
    obtain ⟨new, hO⟩ := put_ok hp rfl s hT hpg ht.nod ht.has hg hc
    obtain ⟨hm6, t, u, hTt, hTu, ept, epu, hl, hlt, hge, hF1, hF2, hnod, hmem⟩ := hO.two hm
    rw [hpg] at ept hF1
    have hgB := hO.chg.good hg
    have hnx := hgB.next hf
    have hfx := dec_fits hx
    have hhB : ∀ p ∈ t.ps ++ u.ps, B.Has p := fun p hp => (hO.chg.has p).2 (by
      rcases (hmem p).1 hp with h | h
      · exact .inl (ht.has p h)
      · exact .inr h)
    have hrt : B.Has rt := hhB rt (by rw [← ept]; exact List.mem_append_left _ hTt.mem)
    have hmo : B.Has more := hhB more (by rw [← epu]; exact List.mem_append_right _ hTu.mem)
    have hnr : B.next ≠ rt := fun e => hnx.1 (e ▸ hrt)
    have c2 : Chg B B2 [] [B.next] := by
      rw [hB2]
      exact Chg.take hgB hf hO.chg.clen (by rw [enc_length _ _ (by rw [zeros504]; omega) hfx, zeros504])
    have hn2 : ndAt B2 B.next = some x := by
      unfold ndAt
      rw [hB2, AP.wrote_c, if_pos rfl]
      exact dec_enc _ _ (by rw [zeros504]; omega) hfx
    have hs2 : ∀ p, B.Has p → ndAt B2 p = ndAt B p := fun p hp => by unfold ndAt; rw [c2.same p hp (by simp)]
    have hrt2 : B2.Has rt := (c2.has rt).2 (.inl hrt)
    have hfit : Fits ⟨false, [κ], [], [B.next, more]⟩ := ⟨(fun h => by cases h), fun _ => ⟨rfl, by simp, by simp, rfl, fun q hq => by
      rcases List.mem_cons.1 hq with rfl | hq
      · omega
      · rw [List.mem_singleton.1 hq]; omega⟩⟩
    have hlr := c2.clen rt hrt2
    have c3 : Chg B2 (B2.wrote rt (encN (B2.c rt) ⟨false, [κ], [], [B.next, more]⟩)) [rt] [] := Chg.wrote hrt2 c2.clen (by rw [enc_length _ _ (by omega) hfit, hlr])
    have hn3 : ∀ q, ndAt (B2.wrote rt (encN (B2.c rt) ⟨false, [κ], [], [B.next, more]⟩)) q = if rt = q then some ⟨false, [κ], [], [B.next, more]⟩ else ndAt B2 q := fun q => ndAt_wrote hlr hfit
    generalize B2.wrote rt (encN (B2.c rt) ⟨false, [κ], [], [B.next, more]⟩) = C at c3 hn3
    have hsame : ∀ p ∈ t.ps ++ u.ps, p ≠ rt → ndAt C p = ndAt B p := fun p hp hne => by rw [hn3, if_neg (Ne.symm hne), hs2 p (hhB p hp)]
    have hxt : ndAt B t.pg = some x := by rw [ept]; exact hx
    have hnC : ndAt C B.next = some x := by rw [hn3, if_neg (Ne.symm hnr), hn2]
    have hndt := (List.nodup_append.1 hnod).1
    have hndu := (List.nodup_append.1 hnod).2.1
    have hdis := (List.nodup_append.1 hnod).2.2
    obtain ⟨ps1, hT1, eps1⟩ := Tr.moved hTt hxt hnC (fun p hp hne => hsame p (List.mem_append_left _ hp) (by rw [ept] at hne; exact hne)) hndt
    rw [ept] at eps1
    have hru : rt ∉ u.ps := fun h => hdis rt (by rw [eps1]; simp) rt h rfl
    have hU1 : Tr (ndAt C) d u := Tr.same d u hTu (fun p hp => hsame p (List.mem_append_right _ hp) (fun e => hru (e ▸ hp)))
    have hFt : Fat (ndAt C) B.next := by
      obtain ⟨y, hy, hf⟩ := hF1
      rw [hx] at hy
      obtain rfl := Option.some.inj hy
      exact ⟨x, hnC, hf⟩
    have hFu : Fat (ndAt C) u.pg := by
      obtain ⟨y, hy, hf⟩ := hF2
      refine ⟨y, ?_, hf⟩
      rw [hsame u.pg (List.mem_append_right _ hTu.mem) (fun e => hru (e ▸ hTu.mem)), epu]
      exact hy
    have hIn : InN (fun w => Tr (ndAt C) d w ∧ Fat (ndAt C) w.pg) [κ] [⟨B.next, t.l, B.next :: ps1⟩, u] := by
      refine ⟨rfl, ?_, fun w hw => ?_⟩
      · show [It.s ⟨B.next, t.l, B.next :: ps1⟩, .k κ, .s u].Pairwise It.R
        simp only [List.pairwise_cons, List.mem_cons, List.not_mem_nil, or_false, forall_eq_or_imp, forall_eq, false_imp_iff, implies_true, List.Pairwise.nil, and_true]
        exact ⟨⟨hlt, fun a ha b hb => by have := hlt a ha; have := hge b hb; omega⟩, hge⟩
      · rcases List.mem_cons.1 hw with rfl | hw
        · exact ⟨hT1, hFt⟩
        · rw [List.mem_singleton.1 hw]
          exact ⟨hU1, hFu⟩
    have hchg : Chg A C s.ps (new ++ [B.next] ++ []) := (hO.chg.trans c2 (fun p hp => by cases hp)).trans c3 (fun p hp => .inl (by rw [List.mem_singleton.1 hp, ← hpg]; exact hT.mem))
    rw [List.append_nil] at hchg
    have hfl : flatP [⟨B.next, t.l, B.next :: ps1⟩, u] = B.next :: ps1 ++ u.ps := by simp [flatP]
    have hmemC : ∀ p, p ∈ rt :: (B.next :: ps1 ++ u.ps) ↔ p ∈ s.ps ∨ p ∈ new ++ [B.next] := fun p => by
      have h1 := hmem p
      rw [eps1] at h1
      simp only [List.mem_append, List.mem_cons, List.not_mem_nil, or_false] at h1 ⊢
      constructor
      · rintro (h | ((h | h) | h))
        · rcases h1.1 (.inl (.inl h)) with h | h
          · exact .inl h
          · exact .inr (.inl h)
        · exact .inr (.inr h)
        · rcases h1.1 (.inl (.inr h)) with h | h
          · exact .inl h
          · exact .inr (.inl h)
        · rcases h1.1 (.inr h) with h | h
          · exact .inl h
          · exact .inr (.inl h)
      · rintro (h | (h | h))
        · rcases h1.2 (.inl h) with (h | h) | h
          · exact .inl h
          · exact .inr (.inl (.inr h))
          · exact .inr (.inr h)
        · rcases h1.2 (.inr h) with (h | h) | h
          · exact .inl h
          · exact .inr (.inl (.inr h))
          · exact .inr (.inr h)
        · exact .inr (.inl (.inl h))
    refine .inl ⟨rfl, new ++ [B.next], rt :: (B.next :: ps1 ++ u.ps), hchg, ⟨⟨d + 1, ⟨rt, flatL [⟨B.next, t.l, B.next :: ps1⟩, u], rt :: flatP [⟨B.next, t.l, B.next :: ps1⟩, u]⟩, ⟨[κ], [⟨B.next, t.l, B.next :: ps1⟩, u], ?_, hIn, rfl, rfl⟩, rfl, ?_, ?_⟩, ?_, fun p hp => ?_⟩, hmemC, ?_⟩
    · dsimp only
      rw [hn3, if_pos rfl, List.map_cons, List.map_cons, List.map_nil, epu]
    · rw [← hl]
      simp [flatL]
    · dsimp only
      rw [hfl]
    · have hnt : B.next ∉ t.ps ++ u.ps := fun h => hnx.1 (hhB _ h)
      rw [eps1] at hnt hnod
      simp only [List.cons_append, List.nodup_cons, List.mem_cons, List.mem_append, not_or] at hnt hnod ⊢
      exact ⟨⟨Ne.symm hnr, hnod.1⟩, hnt.2, hnod.2⟩
    · rcases (hmemC p).1 hp with h | h
      · exact (hchg.has p).2 (.inl (ht.has p h))
      · exact (hchg.has p).2 (.inr h)
    · have := hO.few
      rw [List.length_append, List.length_singleton]
      omega
end Go.Proofs.YtfljlcfmdcepnaaGreatDoor
namespace Go.Proofs.YtfljlcfmdcepnaaGreatDoor
open Go.RowKit
open UK (str BytesAt nth Only)
def valL (l : List KV) (k : UInt64) : Option KV := l.find? fun x => x.1 == k
def nxtL (l : List KV) (k : UInt64) : Option KV := l.find? fun x => decide (k.toNat ≤ x.1.toNat)
theorem valL_mid {a b c : List KV} {k : UInt64} (ha : ∀ x ∈ a, x.1.toNat < k.toNat) (hc : ∀ x ∈ c, k.toNat < x.1.toNat) : valL (a ++ (b ++ c)) k = valL b k := by
  unfold valL
  have h1 : a.find? (fun x => x.1 == k) = none := List.find?_eq_none.2 (fun x hx => by have := ha x hx; simp; intro e; rw [e] at this; omega)
  have h2 : c.find? (fun x => x.1 == k) = none := List.find?_eq_none.2 (fun x hx => by have := hc x hx; simp; intro e; rw [e] at this; omega)
  rw [List.find?_append, List.find?_append, h1, h2]
  simp
theorem nxtL_below {a b : List KV} {k : UInt64} (ha : ∀ x ∈ a, x.1.toNat < k.toNat) : nxtL (a ++ b) k = nxtL b k := by
  unfold nxtL
  have h1 : a.find? (fun x => decide (k.toNat ≤ x.1.toNat)) = none := List.find?_eq_none.2 (fun x hx => by have := ha x hx; simp; omega)
  rw [List.find?_append, h1]
  rfl
theorem nxtL_app {a b : List KV} {k : UInt64} : nxtL (a ++ b) k = (nxtL a k).or (nxtL b k) := List.find?_append
theorem nxtL_some {l : List KV} {k : UInt64} (h0 : l ≠ []) (h : ∀ x ∈ l, k.toNat ≤ x.1.toNat) : ∃ x, nxtL l k = some x := by
  cases l with
  | nil => exact absurd rfl h0
  | cons a r => exact ⟨a, by unfold nxtL; rw [List.find?_cons_of_pos]; simpa using h a (by simp)⟩
theorem valL_zip : ∀ {ks vs : List UInt64} {k : UInt64} {i : Nat}, Sorted ks → vs.length = ks.length → ks[i]? = some k → ∃ v, vs[i]? = some v ∧ valL (ks.zip vs) k = some (k, v)
  | [], _, _, _, _, _, h => by simp at h
  | a :: ks, [], _, _, _, hv, _ => by simp at hv
  | a :: ks, b :: vs, k, 0, hs, hv, h => by
    obtain rfl : a = k := by simpa using h
    exact ⟨b, rfl, by unfold valL; rw [List.zip_cons_cons, List.find?_cons_of_pos (by simp)]⟩
  | a :: ks, b :: vs, k, i + 1, hs, hv, h => by
    obtain ⟨v, h1, h2⟩ := valL_zip (ks := ks) (vs := vs) (hs.drop 1) (by simpa using hv) (by simpa using h)
    refine ⟨v, by simpa using h1, ?_⟩
    have hne : (a == k) = false := by
      have := hs 0 (i + 1) a k (by omega) rfl h
      simp only [beq_eq_false_iff_ne, ne_eq]
      intro e
      rw [e] at this
      omega
    unfold valL at h2 ⊢
    rw [List.zip_cons_cons, List.find?_cons_of_neg (by simpa using hne)]
    exact h2
theorem valL_no {ks vs : List UInt64} {k : UInt64} (h : k ∉ ks) : valL (ks.zip vs) k = none := by
  unfold valL
  refine List.find?_eq_none.2 (fun x hx => ?_)
  have := (List.of_mem_zip hx).1
  simp
  intro e
  exact h (e ▸ this)
theorem nxtL_zip {ks vs : List UInt64} {k : UInt64} {i : Nat} (hst : Stands ks k i) (hv : vs.length = ks.length) : nxtL (ks.zip vs) k = (match ks[i]?, vs[i]? with | some a, some b => some (a, b) | _, _ => none) := by
  have hle := hst.le
  have e : ks.zip vs = (ks.take i).zip (vs.take i) ++ (ks.drop i).zip (vs.drop i) := (zip_take_drop ks vs i).symm
  rw [e, nxtL_below (fun x hx => ?_)]
  · rcases Nat.lt_or_ge i ks.length with hi | hi
    · have h1 : ks.drop i = ks[i] :: ks.drop (i + 1) := (List.drop_eq_getElem_cons hi)
      have h2 : vs.drop i = vs[i] :: vs.drop (i + 1) := (List.drop_eq_getElem_cons (by omega))
      have := hst.above i ks[i] (Nat.le_refl _) (List.getElem?_eq_getElem hi)
      rw [h1, h2, List.zip_cons_cons, List.getElem?_eq_getElem hi, List.getElem?_eq_getElem (show i < vs.length by omega)]
      unfold nxtL
      rw [List.find?_cons_of_pos (by simpa using this)]
    · rw [List.drop_eq_nil_of_le hi, List.getElem?_eq_none hi]
      rfl
  · obtain ⟨j, hj, hjx⟩ := List.getElem_of_mem (List.of_mem_zip hx).1
    rw [List.length_take] at hj
    rw [List.getElem_take] at hjx
    exact hst.below j x.1 (by omega) (by rw [List.getElem?_eq_getElem (by omega), hjx])
section
variable {A : AP} {d i : Nat} {s t : Sb} {keys : List UInt64} {subs : List Sb} {k : UInt64}
theorem KidAt.val (h : KidAt A d s keys subs i t) (hix : KidIx keys k i) : valL s.l k = valL t.l k := by
  rw [h.l, flatL_at h.at_, valL_mid (flat_below (h.inn.left h.at_ hix.below)) (flat_above (h.inn.right h.at_ hix.above))]
theorem KidAt.last (h : KidAt A d s keys subs i t) (hix : KidIx keys k i) (hl : i + 1 = subs.length) : nxtL s.l k = nxtL t.l k := by
  rw [h.l, flatL_at h.at_, nxtL_below (flat_below (h.inn.left h.at_ hix.below)), List.drop_eq_nil_of_le (by omega)]
  show nxtL (t.l ++ []) k = _
  rw [List.append_nil]
theorem KidAt.right (h : KidAt A d s keys subs i t) (hix : KidIx keys k i) {u : Sb} (hu : subs[i + 1]? = some u) : nxtL s.l k = (nxtL t.l k).or (nxtL u.l k) ∧ (∃ x, nxtL u.l k = some x) ∧ u.l ≠ [] ∧ (∀ x ∈ u.l, k.toNat ≤ x.1.toNat) := by
  have hm : u ∈ subs.drop (i + 1) := List.mem_iff_getElem?.2 ⟨0, by rw [List.getElem?_drop]; exact hu⟩
  have hab : ∀ x ∈ u.l, k.toNat ≤ x.1.toNat := fun x hx => Nat.le_of_lt (h.inn.right h.at_ hix.above u hm x hx)
  have hu0 : u.l ≠ [] := fun h0 => by
    have hT := h.inn.all u (List.mem_of_getElem? hu)
    have := hT.1.many _ _ hT.2
    rw [h0] at this
    simp at this
  obtain ⟨x, hx⟩ := nxtL_some hu0 hab
  refine ⟨?_, ⟨x, hx⟩, hu0, hab⟩
  have hd : subs.drop (i + 1) = u :: subs.drop (i + 2) := by
    have hi := (List.getElem?_eq_some_iff.1 hu).1
    rw [List.drop_eq_getElem_cons hi, (List.getElem?_eq_some_iff.1 hu).2]
  rw [h.l, flatL_at h.at_, nxtL_below (flat_below (h.inn.left h.at_ hix.below)), nxtL_app, hd, flatL_cons, nxtL_app, hx]
  rfl
end
structure At (A : AP) (d : Nat) (t : Sb) : Prop where
  tr : Tr (ndAt A) d t
  has : ∀ p ∈ t.ps, A.Has p
theorem At.kid {A : AP} {d : Nat} {s t : Sb} {keys : List UInt64} {subs : List Sb} {i : Nat} (h : At A (d + 1) s) (hK : KidAt A d s keys subs i t) : At A d t ∧ Fat (ndAt A) t.pg := by
  have hx := hK.inn.all t hK.mem
  exact ⟨⟨hx.1, fun p hp => h.has p (hK.sub p hp)⟩, hx.2⟩
end Go.Proofs.YtfljlcfmdcepnaaGreatDoor
namespace Go.Proofs.YtfljlcfmdcepnaaGreatDoor
open Go.RowKit
namespace UK
theorem push_two {P : Program} {t tx ty e : TypeId} {i : TypeInfo} {z : Value} (ht : P.underlying t = some (.slice e)) (hi : P.info? e = some i) (hz : i.zero = some z) (h1 : i.size = 2) (h16 : i.bytes ≤ 24) (hzs : z.cells.size = 2)
    {W : World} {ao : Option Addr} {c n k : Nat} {vs : List Value} (hn : vs.length = 2 * n) (h : (ao = none ∧ vs = [] ∧ c = 0) ∨ ∃ g, ao = some ⟨g, 0, none⟩ ∧ Row W g (2 * c) vs) {x : Value} {m : List Value} (hk : m.length = 2 * k) (hm0 : 0 < k) (hs : Src P 2 tx x k m W) (hlen : n + k ≤ 1000000000) :
    ∃ g' c' W', (Builtin.append_ #[t, tx] ty #[.slice ao n c, x]).run P W = .ok (.slice (some ⟨g', 0, none⟩) (n + k) c') W' ∧ Row W' g' (2 * c') (vs ++ m) ∧ ((ao = some ⟨g', 0, none⟩ ∧ Only g' W W') ∨ (g' = W.heap.size ∧ Below W.heap.size W W')) := by
  have hgrow : c < n + k → (Builtin.firstCells i.size n (.slice ao n c)).run P W.drew = .ok vs.toArray W.drew →
      ∃ g' c' W', (Builtin.append_ #[t, tx] ty #[.slice ao n c, x]).run P W = .ok (.slice (some ⟨g', 0, none⟩) (n + k) c') W' ∧ Row W' g' (2 * c') (vs ++ m) ∧ ((ao = some ⟨g', 0, none⟩ ∧ Only g' W W') ∨ (g' = W.heap.size ∧ Below W.heap.size W W')) := by
    intro hg hold
    have hfit : (n + k) * i.bytes ≤ 140737488355328 := Nat.le_trans (Nat.mul_le_mul hlen h16) (by decide)
    have hrun := run_append_grow_src (P := P) W t tx ty e i z ht hi hz ao n c vs hold x k m (by rw [h1]; exact hs) hg (by omega) (growslice_fits hg hfit)
    have hge := grownCap_ge W (n + k) c e
    have e1 := World.cell?_alloc_new W.drew ((vs ++ m).toArray ++ Builtin.zeroCells z.cells (grownCap W (n + k) c e - (n + k))) e
    have hvm : (vs ++ m).length = 2 * (n + k) := by rw [List.length_append]; omega
    refine ⟨W.heap.size, _, _, hrun, ⟨by simp, by omega, fun j hj => ?_, fun j hj => ⟨?_, World.frozen?_alloc_new W.drew _ _ j⟩⟩, .inr ⟨rfl, (Below.refl W.heap.size W).drew.alloc (Nat.le_refl _) _⟩⟩
    · refine Eq.trans (e1 j) ?_
      rw [Array.getElem?_append_left (by simp only [List.size_toArray]; exact hj), List.getElem?_toArray]
    · have hsz : ((vs ++ m).toArray ++ Builtin.zeroCells z.cells (grownCap W (n + k) c e - (n + k))).size = 2 * grownCap W (n + k) c e := by
        rw [Array.size_append, List.size_toArray, hvm, size_zeroCells, hzs]
        omega
      have e2 : (W.drew.alloc (.cells ((vs ++ m).toArray ++ Builtin.zeroCells z.cells (grownCap W (n + k) c e - (n + k))) e)).cell? ⟨W.heap.size, j, none⟩ = _ := e1 j
      rw [e2, Array.getElem?_eq_getElem (by rw [hsz]; exact hj)]
      rfl
  rcases h with ⟨rfl, rfl, rfl⟩ | ⟨g, rfl, h⟩
  · obtain rfl : n = 0 := by rw [List.length_nil] at hn; omega
    exact hgrow (by omega) (run_firstCells_none W.drew i.size 0 0 0)
  · have hle := h.le
    by_cases hf : n + k ≤ c
    · have hr := run_append_room_src (P := P) W t tx ty e i ht hi g 0 n c x k m (by rw [h1]; exact hs) hf
        (fun j hj => by rw [h1]; exact (h.there _ (by omega)).1) (fun j hj => by rw [h1]; exact (h.there _ (by omega)).2)
      rw [h1, Nat.zero_add, show n * 2 = vs.length by omega] at hr
      refine ⟨g, c, _, hr, h.setCells vs.length m (by omega) (vs ++ m) (by rw [List.length_append]; omega) (fun j hj => ?_) (fun j hj hc => ?_), .inl ⟨rfl, Only.setCells _ _ (Only.refl _ _)⟩⟩
      · rw [List.getElem?_append_right (by omega), Nat.add_sub_cancel_left]
      · rw [List.length_append] at hj
        exact ⟨by omega, by rw [List.getElem?_append_left (by omega)]⟩
    · exact hgrow (by omega) (run_firstCells_some W.drew i.size n ⟨g, 0, none⟩ n c vs (by rw [h1]; omega) (fun j v hj => by
        have hjl : j < vs.length := (List.getElem?_eq_some_iff.1 hj).1
        rw [add_mk0, Nat.zero_add]
        exact (h.holds j hjl).trans hj))
end UK
end Go.Proofs.YtfljlcfmdcepnaaGreatDoor
namespace Go.Proofs.YtfljlcfmdcepnaaGreatDoor
open Go.RowKit
open UK (str BytesAt nth Only Row Box w32)
open Go.BigFrame
def cellP (t : KV) : List Value := [.int .u64 (t.1.toNat : Int), .int .u64 (t.2.toNat : Int)]
def flatX (X : List KV) : List Value := X.flatMap cellP
theorem flatX_cons (t : KV) (X : List KV) : flatX (t :: X) = cellP t ++ flatX X := by unfold flatX; rw [List.flatMap_cons]
theorem flatX_append (X Y : List KV) : flatX (X ++ Y) = flatX X ++ flatX Y := by unfold flatX; rw [List.flatMap_append]
theorem flatX_length : ∀ X : List KV, (flatX X).length = 2 * X.length
  | [] => rfl
  | t :: X => by
    rw [flatX_cons, List.length_append, flatX_length X, List.length_cons]
    show 2 + _ = _
    omega
theorem flatX_get : ∀ (X : List KV) (j : Nat) (t : KV), X[j]? = some t → (flatX X)[j * 2]? = some (.int .u64 (t.1.toNat : Int)) ∧ (flatX X)[j * 2 + 1]? = some (.int .u64 (t.2.toNat : Int))
  | [], _, _, h => by cases h
  | u :: X, 0, t, h => by
    obtain rfl : u = t := by simpa using h
    exact ⟨rfl, rfl⟩
  | u :: X, j + 1, t, h => by
    have := flatX_get X j t (by simpa using h)
    rw [flatX_cons]
    have e1 : (cellP u ++ flatX X)[(j + 1) * 2]? = (flatX X)[j * 2]? := by
      rw [List.getElem?_append_right (by show 2 ≤ _; omega)]
      congr 1
      show (j + 1) * 2 - 2 = _
      omega
    have e2 : (cellP u ++ flatX X)[(j + 1) * 2 + 1]? = (flatX X)[j * 2 + 1]? := by
      rw [List.getElem?_append_right (by show 2 ≤ _; omega)]
      congr 1
      show (j + 1) * 2 + 1 - 2 = _
      omega
    rw [e1, e2]
    exact this
def PrX (W : World) (ao : Option Addr) (c : Nat) (X : List KV) : Prop := (ao = none ∧ X = [] ∧ c = 0) ∨ ∃ g, ao = some ⟨g, 0, none⟩ ∧ Row W g (2 * c) (flatX X)
section
variable {W W' : World} {ao : Option Addr} {c : Nat} {X : List KV}
theorem PrX.le (h : PrX W ao c X) : X.length ≤ c := by
  rcases h with ⟨_, rfl, rfl⟩ | ⟨g, _, r⟩
  · exact Nat.le_refl _
  · have := r.le
    rw [flatX_length] at this
    omega
theorem PrX.of_block (h : PrX W ao c X) (hs : W.heap.size ≤ W'.heap.size) (hb : ∀ b, slB ao b → W'.heap[b]? = W.heap[b]?) : PrX W' ao c X := by
  rcases h with h | ⟨g, e, r⟩
  · exact .inl h
  · exact .inr ⟨g, e, r.of_block hs (hb g e)⟩
theorem PrX.lt (h : PrX W ao c X) {b : Nat} (hb : slB ao b) : b < W.heap.size := by
  rcases h with ⟨h, _⟩ | ⟨g, e, r⟩
  · rw [slB, h] at hb; cases hb
  · rw [slB, e] at hb
    have := Addr.mk.inj (Option.some.inj hb)
    rw [← this.1]; exact r.lt
theorem PrX.next (h : PrX W ao c X) (hb : Below W.heap.size W W') : PrX W' ao c X := h.of_block hb.size (fun b hs => hb.block b (h.lt hs))
theorem PrX.at_ (h : PrX W ao c X) {j : Nat} {t : KV} (hj : X[j]? = some t) : ∃ g, ao = some ⟨g, 0, none⟩ ∧ W.cell? ⟨g, j * 2, none⟩ = some (.int .u64 (t.1.toNat : Int)) ∧ W.cell? ⟨g, j * 2 + 1, none⟩ = some (.int .u64 (t.2.toNat : Int)) := by
  rcases h with ⟨_, rfl, _⟩ | ⟨g, e, r⟩
  · cases hj
  · obtain ⟨h1, h2⟩ := flatX_get X j t hj
    exact ⟨g, e, r.at' _ _ h1, r.at' _ _ h2⟩
set_option maxRecDepth 100000 in
theorem PrX.push {t : KV} (h : PrX W ao c X) (hX : X.length + 1 ≤ 1000000) {b : Nat} (hc : W.cell? ⟨b, 0, none⟩ = some (.int .u64 (t.1.toNat : Int)) ∧ W.cell? ⟨b, 1, none⟩ = some (.int .u64 (t.2.toNat : Int))) :
    ∃ g' c' W', (Builtin.append_ #[28, 28] 28 #[.slice ao X.length c, .slice (some ⟨b, 0, none⟩) 1 1]).run Tryz.prog W = .ok (.slice (some ⟨g', 0, none⟩) (X.length + 1) c') W' ∧ PrX W' (some ⟨g', 0, none⟩) c' (X ++ [t]) ∧ ((ao = some ⟨g', 0, none⟩ ∧ Only g' W W') ∨ (g' = W.heap.size ∧ Below W.heap.size W W')) := by
  have hsrc : Src Tryz.prog 2 28 (.slice (some ⟨b, 0, none⟩) 1 1) 1 (cellP t) W := Src.ofSlice W Tryz.underlying28 ⟨b, 0, none⟩ 1 1 (cellP t) rfl (fun j u hj => by
    rw [UK.add_mk0, Nat.zero_add]
    have hj2 : j < 2 := (List.getElem?_eq_some_iff.1 hj).1
    rcases (show j = 0 ∨ j = 1 by omega) with rfl | rfl
    · rw [hc.1]; exact hj
    · rw [hc.2]; exact hj) (fun u hu => by
    rcases List.mem_cons.1 hu with rfl | hu
    · rfl
    · rw [List.mem_singleton.1 hu]; rfl)
  obtain ⟨g', c', W', e1, r, o⟩ := UK.push_two (P := Tryz.prog) (t := 28) (tx := 28) (ty := 28) Tryz.underlying28 (i := Tryz.t102) rfl rfl rfl (show (16 : Nat) ≤ 24 by omega) rfl (n := X.length) (vs := flatX X) (flatX_length X) (ao := ao) (c := c) (by
    rcases h with ⟨a, rfl, d⟩ | ⟨g, a, r⟩
    · exact .inl ⟨a, rfl, d⟩
    · exact .inr ⟨g, a, r⟩) (m := cellP t) (k := 1) rfl (by omega) hsrc (by omega)
  refine ⟨g', c', W', e1, .inr ⟨g', rfl, ?_⟩, o⟩
  rw [flatX_append]
  have : flatX [t] = cellP t := by unfold flatX; simp
  rw [this]
  exact r
end
def PairAns : Option KV → Array Value
  | some x => #[.int .u64 (x.1.toNat : Int), .int .u64 (x.2.toNat : Int)]
  | none => #[.int .u64 0, .int .u64 0]
section
variable {W W' : World} {ao : Option Addr} {c : Nat} {X : List KV}
theorem nxtL_take {X : List KV} {k : UInt64} {j : Nat} (h : ∀ x ∈ X.take j, ¬ k.toNat ≤ x.1.toNat) {x : KV} (hx : X[j]? = some x) (hk : k.toNat ≤ x.1.toNat) : nxtL X k = some x := by
  unfold nxtL
  rw [cut_at hx, List.find?_append, List.find?_eq_none.2 (fun y hy => by simpa using h y hy), List.find?_cons_of_pos (by simpa using hk)]
  rfl
theorem nxtL_all {X : List KV} {k : UInt64} (h : ∀ x ∈ X, ¬ k.toNat ≤ x.1.toNat) : nxtL X k = none := List.find?_eq_none.2 (fun y hy => by simpa using h y hy)
theorem pair_under : Tryz.prog.underlying 102 = some (.struct (match Tryz.prog.underlying 102 with | some (.struct f) => f | _ => #[])) := by kernel_rfl
theorem pair_size : (Tryz.prog.info? 102).map (·.size) = some 2 := by kernel_rfl
theorem take_snocX {X : List KV} {j : Nat} {x : KV} (h : X[j]? = some x) {p : KV → Prop} (ha : ∀ y ∈ X.take j, p y) (hx : p x) : ∀ y ∈ X.take (j + 1), p y := fun y hy => by
  rw [List.take_add_one, h] at hy
  rcases List.mem_append.1 hy with hy | hy
  · exact ha y hy
  · obtain rfl : y = x := by simpa using hy
    exact hx
set_option maxHeartbeats 1000000 in
set_option maxRecDepth 100000 in
theorem rnext_any (k : UInt64) (h : PrX W ao c X) (hX : X.length ≤ 1000000) :
    Calls Tryz.prog 51 #[.slice ao X.length c, .int .u64 k.toNat] W fun e w' => e = .returned (.tuple #[.agg (PairAns (nxtL X k)), .bool (nxtL X k).isSome]) ∧ Below W.heap.size W w' := by
  have HT0 := Lib.hid h
  have hle := h.le
  have x0 := Box.new W #[.int .u64 0, .int .u64 0] 102
  have b0 : Below W.heap.size W (W.alloc (.cells #[.int .u64 0, .int .u64 0] 102)) := (Below.refl _ _).alloc (Nat.le_refl _) _
  have HS := Lib.hid (And.intro x0 b0)
  clear h x0 b0
  go_enter Tryz.func51, Tryz.ntmps51
  go_wp2_with fail
  go_loopw [10] (fun iv wr => ∃ j : Nat, iv = .int .i64 j ∧ j ≤ X.length ∧ (∀ x ∈ X.take j, ¬ k.toNat ≤ x.1.toNat) ∧ Box wr W.heap.size #[.int .u64 0, .int .u64 0] ∧ Below W.heap.size W wr) (fun iv _ => X.length - (intOf iv).toNat)
  case atStart => exact ⟨0, rfl, Nat.zero_le _, fun x hx => (by simp at hx), HS.out.1, HS.out.2⟩
  case round =>
    clear HS
    obtain ⟨j, rfl, hj, hno, hx, hb⟩ := hrel
    have q0 := hx.cell 0 _ rfl
    have q1 := hx.cell 1 _ rfl
    have z0 := hx.free 0
    have z1 := hx.free 1
    have hlb := hx.lt
    by_cases hlt : j < X.length
    · obtain ⟨t, htj⟩ : ∃ t, X[j]? = some t := ⟨_, List.getElem?_eq_getElem hlt⟩
      obtain ⟨g, rfl, c0, c1⟩ := (HT0.out.next hb).at_ htj
      have hil : (j : Int) < (X.length : Int) := by omega
      by_cases hk : k.toNat ≤ t.1.toNat
      · have hki : (k.toNat : Int) ≤ (t.1.toNat : Int) := by omega
        have hnx := nxtL_take hno htj hk
        have hgb : Below wr.heap.size wr (wr.alloc (.cells #[.int .u64 (t.1.toNat : Int), .int .u64 (t.2.toNat : Int)] 102)) := (Below.refl _ _).alloc (Nat.le_refl _) _
        have HB := Lib.hid (And.intro hnx (And.intro hb (And.intro hx hgb)))
        clear hb hno htj hk hnx hx hgb
        generalize ht1 : t.1.toNat = t1 at *
        generalize ht2 : t.2.toNat = t2 at *
        have HT12 := Lib.hid (And.intro ht1 ht2)
        clear ht1 ht2
        go_wp2_with fail
        obtain ⟨hnx, hb, hx, _⟩ := HB.out
        obtain ⟨rfl, rfl⟩ := HT12.out
        have bx : Box (((wr.setCell ⟨W.heap.size, 0, none⟩ (.int .u64 (t.1.toNat : Int))).setCell ⟨W.heap.size, 1, none⟩ (.int .u64 (t.2.toNat : Int))).alloc (.cells #[.int .u64 (t.1.toNat : Int), .int .u64 (t.2.toNat : Int)] 102)) W.heap.size #[.int .u64 (t.1.toNat : Int), .int .u64 (t.2.toNat : Int)] := by
          have := ((hx.set 0 (.int .u64 (t.1.toNat : Int))).set 1 (.int .u64 (t.2.toNat : Int))).alloc (.cells #[.int .u64 (t.1.toNat : Int), .int .u64 (t.2.toNat : Int)] 102)
          simpa using this
        refine bodyPost_ret (UK.box_ret2 rfl _ bx rfl pair_under rfl pair_size) rfl ?_
        rw [hnx]
        have hb2 := (hb.setCell (show W.heap.size ≤ (⟨W.heap.size, 0, none⟩ : Addr).block from Nat.le_refl _) (.int .u64 (t.1.toNat : Int))).setCell (show W.heap.size ≤ (⟨W.heap.size, 1, none⟩ : Addr).block from Nat.le_refl _) (.int .u64 (t.2.toNat : Int))
        exact ⟨rfl, hb2.alloc hb2.size _⟩
      · have hki : ¬ (k.toNat : Int) ≤ (t.1.toNat : Int) := by omega
        have HB := Lib.hid (And.intro (take_snocX htj hno hk) (And.intro hb hx))
        clear hb hno htj hk hx
        generalize t.1.toNat = t1 at *
        generalize t.2.toNat = t2 at *
        go_wp2
        go_roundw
        case rel => exact ⟨j + 1, by go_num, hlt, HB.out.1, HB.out.2.2.alloc _, HB.out.2.1.alloc HB.out.2.1.size _⟩
        case measure => simp [intOf]; omega
    · obtain rfl : j = X.length := by omega
      have hil : ¬ ((X.length : Nat) : Int) < (X.length : Int) := by omega
      rw [List.take_length] at hno
      have HB := Lib.hid (And.intro (nxtL_all hno) (And.intro hb hx))
      clear hb hno hx
      go_wp2_with fail
      obtain ⟨hnx, hb, hx⟩ := HB.out
      have bx : Box ((wr.setCell ⟨W.heap.size, 0, none⟩ (.int .u64 0)).setCell ⟨W.heap.size, 1, none⟩ (.int .u64 0)) W.heap.size #[.int .u64 0, .int .u64 0] := by
        have := (hx.set 0 (.int .u64 0)).set 1 (.int .u64 0)
        simpa using this
      refine bodyPost_ret (UK.box_ret2 rfl _ bx rfl pair_under rfl pair_size) rfl ?_
      rw [hnx]
      exact ⟨rfl, (hb.setCell (show W.heap.size ≤ (⟨W.heap.size, 0, none⟩ : Addr).block from Nat.le_refl _) (.int .u64 0)).setCell (show W.heap.size ≤ (⟨W.heap.size, 1, none⟩ : Addr).block from Nat.le_refl _) (.int .u64 0)⟩
end
end Go.Proofs.YtfljlcfmdcepnaaGreatDoor
