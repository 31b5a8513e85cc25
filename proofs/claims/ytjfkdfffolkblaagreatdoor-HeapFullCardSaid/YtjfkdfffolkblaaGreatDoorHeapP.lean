/-
  Texts on pages, in plain words: what the pages of a heap have, and what its small changes do to that.
-/
import Derived.Test.YtjfkdfffolkblaaGreatDoorPoolJ
import Derived.Test.YtjfkdfffolkblaaGreatDoorSlotP
namespace Go.Proofs.YtjfkdfffolkblaaGreatDoor
open Go.RowKit
open UK (str BytesAt nth Only Row Box w32)
open SR (Recs rcd total)
open SL (hole add trim room live)
/-- the word at a place -/
def wdAt (y : List UInt8) (o : Nat) : UInt32 := getL ((y.drop o).take 4)
theorem wr_get (x : List UInt8) (a : Nat) (s : List UInt8) (h : a + s.length ≤ x.length) (i : Nat) : (UK.wr x a s)[i]? = if i < a then x[i]? else if i < a + s.length then s[i - a]? else x[i]? := by
  have hl : (x.take a).length = a := by rw [List.length_take]; omega
  unfold UK.wr
  by_cases h1 : i < a
  · rw [List.getElem?_append_left (by omega), List.getElem?_take, if_pos h1, if_pos h1]
  · rw [List.getElem?_append_right (by omega), hl, if_neg h1]
    by_cases h2 : i < a + s.length
    · rw [List.getElem?_append_left (by omega), if_pos h2]
    · rw [List.getElem?_append_right (by omega), List.getElem?_drop, if_neg h2]
      congr 1
      omega
theorem cut_get (x : List UInt8) (o n i : Nat) : ((x.drop o).take n)[i]? = if i < n then x[o + i]? else none := by
  by_cases h : i < n
  · rw [List.getElem?_take_of_lt h, List.getElem?_drop, if_pos h]
  · rw [if_neg h, List.getElem?_eq_none (by rw [List.length_take]; omega)]
theorem cut_far (x : List UInt8) (a : Nat) (s : List UInt8) (h : a + s.length ≤ x.length) (o n : Nat) (ho : o + n ≤ a ∨ a + s.length ≤ o) : ((UK.wr x a s).drop o).take n = (x.drop o).take n := by
  apply List.ext_getElem?
  intro i
  rw [cut_get, cut_get]
  by_cases hi : i < n
  · rw [if_pos hi, if_pos hi, wr_get _ _ _ h]
    by_cases h1 : o + i < a
    · rw [if_pos h1]
    · rw [if_neg h1, if_neg (by omega)]
  · rw [if_neg hi, if_neg hi]
theorem wr_cut (x : List UInt8) (a n : Nat) (s : List UInt8) (h : a + s.length ≤ n) (hn : n ≤ x.length) : (UK.wr x a s).take n = UK.wr (x.take n) a s := by
  unfold UK.wr
  rw [List.take_append, List.length_take, Nat.min_eq_left (by omega), List.take_of_length_le (by rw [List.length_take]; omega), List.take_append, List.take_of_length_le (l := s) (by omega), List.take_take, Nat.min_eq_left (by omega), List.drop_take, show n - a - s.length = n - (a + s.length) by omega]
theorem wdAt_wr (x : List UInt8) (a : Nat) (v : UInt32) (h : a + 4 ≤ x.length) : wdAt (UK.wr x a (putL v)) a = v := by
  unfold wdAt
  have := UK.wr_at x a (putL v) (by omega)
  rw [show (putL v).length = 4 from rfl] at this
  rw [this, get_put]
theorem wdAt_far (x : List UInt8) (a : Nat) (s : List UInt8) (h : a + s.length ≤ x.length) (o : Nat) (ho : o + 4 ≤ a ∨ a + s.length ≤ o) : wdAt (UK.wr x a s) o = wdAt x o := by
  unfold wdAt
  rw [cut_far x a s h o 4 ho]
/-- what has a root page's words -/
def rootB (y : List UInt8) (p n : Nat) : List UInt8 := UK.wr (UK.wr y 0 (putL (w32 p))) 4 (putL (w32 n))
theorem rootB_length (y : List UInt8) (p n : Nat) (h : y.length = 504) : (rootB y p n).length = 504 := by
  unfold rootB
  have h1 : (UK.wr y 0 (putL (w32 p))).length = 504 := (UK.wr_length _ _ _ (by show 0 + 4 ≤ _; omega)).trans h
  rw [UK.wr_length _ _ _ (by show 4 + 4 ≤ _; omega)]; exact h1
theorem rootB_words (y : List UInt8) (p n : Nat) (h : y.length = 504) : wdAt (rootB y p n) 0 = w32 p ∧ wdAt (rootB y p n) 4 = w32 n := by
  have h1 : (UK.wr y 0 (putL (w32 p))).length = 504 := (UK.wr_length _ _ _ (by show 0 + 4 ≤ _; omega)).trans h
  unfold rootB
  refine ⟨?_, wdAt_wr _ _ _ (by omega)⟩
  rw [wdAt_far _ _ _ (by show 4 + 4 ≤ _; omega) 0 (.inl (by decide))]
  exact wdAt_wr _ _ _ (by omega)
theorem wr_wr (x : List UInt8) (a : Nat) (s t : List UInt8) (h : a + s.length ≤ x.length) (e : t.length = s.length) : UK.wr (UK.wr x a s) a t = UK.wr x a t := by
  have hl := UK.wr_length x a s h
  apply List.ext_getElem?
  intro i
  rw [wr_get (UK.wr x a s) a t (by omega), wr_get x a t (by omega), wr_get x a s h]
  by_cases h1 : i < a
  · rw [if_pos h1, if_pos h1, if_pos h1]
  · rw [if_neg h1, if_neg h1, if_neg h1]
    by_cases h2 : i < a + t.length
    · rw [if_pos h2, if_pos h2]
    · rw [if_neg h2, if_neg h2, if_neg (by omega)]
theorem rootB_again (y : List UInt8) (p n m : Nat) (h : y.length = 504) : rootB (rootB y p n) p m = rootB y p m := by
  have e8 : ∀ p n, rootB y p n = UK.wr y 0 (putL (w32 p) ++ putL (w32 n)) := fun p n => UK.wr_after y 0 (putL (w32 p)) (putL (w32 n)) (Nat.zero_le _)
  have e8' : rootB (rootB y p n) p m = UK.wr (rootB y p n) 0 (putL (w32 p) ++ putL (w32 m)) := UK.wr_after (rootB y p n) 0 (putL (w32 p)) (putL (w32 m)) (Nat.zero_le _)
  rw [e8', e8 p n, e8 p m]
  exact wr_wr y 0 _ _ (by show 0 + 8 ≤ _; omega) rfl
theorem w32_nat {n : Nat} (h : n < 4294967296) : (w32 n).toNat = n := by
  unfold w32
  rw [UInt32.toNat_ofNat']; omega
/-- a long text's pages -/
def ChainOf (c : Nat → List UInt8) : List UInt8 → List Nat → Prop
  | s, [] => s = []
  | s, p :: ps => s ≠ [] ∧ wdAt (c p) 0 = w32 (ps.headD 0) ∧ ((c p).drop 4).take (min s.length 500) = s.take 500 ∧ ChainOf c (s.drop 500) ps
theorem ChainOf.same {c c' : Nat → List UInt8} : ∀ {ch : List Nat} {s : List UInt8}, ChainOf c s ch → (∀ p, p ∈ ch → c' p = c p) → ChainOf c' s ch
  | [], _, h, _ => h
  | p :: ps, s, ⟨h1, h2, h3, h4⟩, hc => by
    have e := hc p (List.mem_cons_self ..)
    exact ⟨h1, by rw [e]; exact h2, by rw [e]; exact h3, h4.same (fun q hq => hc q (List.mem_cons_of_mem _ hq))⟩
theorem ChainOf.few {c : Nat → List UInt8} : ∀ {ch : List Nat} {s : List UInt8}, ChainOf c s ch → 500 * ch.length ≤ s.length + 499
  | [], _, _ => by simp
  | p :: ps, s, ⟨h1, h2, h3, h4⟩ => by
    have := h4.few
    rw [List.length_drop] at this
    have hl : 0 < s.length := List.length_pos_iff.2 h1
    rw [List.length_cons]
    by_cases h5 : s.length ≤ 500
    · have : ps = [] := by
        cases ps with
        | nil => rfl
        | cons a b => exact absurd (List.drop_eq_nil_of_le h5) h4.1
      rw [this, List.length_nil]; omega
    · omega
/-- a text of a heap: its page, its place there, what it says, a long one's pages -/
structure HT where
  pg : Nat
  i : Nat
  s : List UInt8
  ch : List Nat
/-- its record -/
def recOf (t : HT) : List UInt8 := if t.s.length ≤ 300 then 0 :: t.s else 1 :: (putL (w32 t.s.length) ++ putL (w32 (t.ch.headD 0)))
theorem recOf_ne (t : HT) : recOf t ≠ [] := by unfold recOf; split <;> exact List.cons_ne_nil _ _
theorem recOf_len (t : HT) : (recOf t).length ≤ 301 := by
  unfold recOf
  split
  · rw [List.length_cons]; omega
  · show 9 ≤ 301; decide
/-- its pages are there -/
def LongIs (c : Nat → List UInt8) (t : HT) : Prop := if t.s.length ≤ 300 then t.ch = [] else ChainOf c t.s t.ch
theorem LongIs.same {c c' : Nat → List UInt8} {t : HT} (h : LongIs c t) (hc : ∀ p, p ∈ t.ch → c' p = c p) : LongIs c' t := by
  unfold LongIs at h ⊢
  split
  · next h1 => rw [if_pos h1] at h; exact h
  · next h1 => rw [if_neg h1] at h; exact h.same hc
/-- the last slot has a record -/
def LastOk (l : List (List UInt8)) : Prop := l = [] ∨ rcd l (l.length - 1) ≠ []
def chs (X : List HT) : List Nat := X.flatMap HT.ch
theorem chs_cons (t : HT) (X : List HT) : chs (t :: X) = t.ch ++ chs X := by unfold chs; rw [List.flatMap_cons]
def Apart (a b : HT) : Prop := ¬ (a.pg = b.pg ∧ a.i = b.i)
/-- which pages there are, and what they have -/
structure Pg where
  Has : Nat → Prop
  c : Nat → List UInt8
def AP.pgs (A : AP) : Pg := ⟨A.Has, A.c⟩
/-- A HEAP's PAGES: its root, the page that takes records (0: none), the pages of records and what they have, the texts -/
structure HI (A : Pg) (root pg : Nat) (rp : List Nat) (L : Nat → List (List UInt8)) (X : List HT) : Prop where
  pages : (root :: (rp ++ chs X)).Nodup
  has : ∀ p, A.Has p ↔ p ∈ root :: (rp ++ chs X)
  wpg : wdAt (A.c root) 0 = w32 pg
  wn : wdAt (A.c root) 4 = w32 X.length
  rlen : (A.c root).length = 504
  cur : pg = 0 ∨ pg ∈ rp
  recs : ∀ p, p ∈ rp → Recs (A.c p) (L p) ∧ LastOk (L p)
  used : ∀ p, p ∈ rp → p ≠ pg → L p ≠ []
  at_ : ∀ p, p ∈ rp → ∀ i, rcd (L p) i ≠ [] → ∃ t, t ∈ X ∧ t.pg = p ∧ t.i = i
  each : ∀ t, t ∈ X → t.pg ∈ rp ∧ rcd (L t.pg) t.i = recOf t ∧ t.s.length ≤ 400000
  inj : X.Pairwise Apart
  long : ∀ t, t ∈ X → LongIs A.c t
namespace HI
variable {A B : Pg} {root pg : Nat} {rp : List Nat} {L : Nat → List (List UInt8)} {X Y : List HT}
theorem root_has (h : HI A root pg rp L X) : A.Has root := (h.has root).2 (List.mem_cons_self ..)
theorem rp_has (h : HI A root pg rp L X) {p : Nat} (hp : p ∈ rp) : A.Has p ∧ p ≠ root := by
  refine ⟨(h.has p).2 (List.mem_cons_of_mem _ (List.mem_append_left _ hp)), fun e => ?_⟩
  subst e
  exact (List.nodup_cons.1 h.pages).1 (List.mem_append_left _ hp)
theorem ch_has (h : HI A root pg rp L X) {t : HT} (ht : t ∈ X) {p : Nat} (hp : p ∈ t.ch) : A.Has p ∧ p ≠ root ∧ p ∉ rp := by
  have hm : p ∈ chs X := List.mem_flatMap.2 ⟨t, ht, hp⟩
  refine ⟨(h.has p).2 (List.mem_cons_of_mem _ (List.mem_append_right _ hm)), fun e => ?_, fun e => ?_⟩
  · subst e
    exact (List.nodup_cons.1 h.pages).1 (List.mem_append_right _ hm)
  · exact (List.nodup_append.1 (List.nodup_cons.1 h.pages).2).2.2 p e p hm rfl
theorem slot (h : HI A root pg rp L X) {t : HT} (ht : t ∈ X) : t.i < (L t.pg).length ∧ (L t.pg).length ≤ 125 := by
  obtain ⟨h1, h2, _⟩ := h.each t ht
  refine ⟨?_, (h.recs _ h1).1.few⟩
  by_cases hc : t.i < (L t.pg).length
  · exact hc
  · rw [SR.rcd_out _ _ (by omega)] at h2
    exact absurd h2.symm (recOf_ne t)
theorem perm (h : HI A root pg rp L X) (hp : X.Perm Y) : HI A root pg rp L Y := by
  have hc : (chs X).Perm (chs Y) := hp.flatMap_right _
  have hq : (root :: (rp ++ chs X)).Perm (root :: (rp ++ chs Y)) := (hc.append_left rp).cons root
  exact ⟨hq.nodup_iff.1 h.pages, fun p => (h.has p).trans hq.mem_iff, h.wpg, by rw [← hp.length_eq]; exact h.wn, h.rlen, h.cur, h.recs, h.used,
    fun p hp1 i hi => by obtain ⟨t, a, b⟩ := h.at_ p hp1 i hi; exact ⟨t, hp.mem_iff.1 a, b⟩, fun t ht => h.each t (hp.mem_iff.2 ht),
    (hp.pairwise_iff (fun {a b} hab hba => hab ⟨hba.1.symm, hba.2.symm⟩)).1 h.inj, fun t ht => h.long t (hp.mem_iff.2 ht)⟩
/-- nothing has turned that the heap looks at -/
theorem same (h : HI A root pg rp L X) (hh : ∀ p, B.Has p ↔ A.Has p) (hc : ∀ p, A.Has p → B.c p = A.c p) : HI B root pg rp L X :=
  ⟨h.pages, fun p => (hh p).trans (h.has p), by rw [hc root h.root_has]; exact h.wpg, by rw [hc root h.root_has]; exact h.wn, by rw [hc root h.root_has]; exact h.rlen, h.cur, fun p hp => by rw [hc p (h.rp_has hp).1]; exact h.recs p hp, h.used, h.at_, h.each, h.inj,
    fun t ht => (h.long t ht).same (fun p hp => hc p (h.ch_has ht hp).1)⟩
/-- what no page of records has doesn't count -/
theorem likeL {M : Nat → List (List UInt8)} (h : HI A root pg rp L X) (e : ∀ p, p ∈ rp → M p = L p) : HI A root pg rp M X :=
  ⟨h.pages, h.has, h.wpg, h.wn, h.rlen, h.cur, fun p hp => by rw [e p hp]; exact h.recs p hp, fun p hp hn => by rw [e p hp]; exact h.used p hp hn, fun p hp i hi => h.at_ p hp i (by rw [← e p hp]; exact hi), fun t ht => by rw [e _ (h.each t ht).1]; exact h.each t ht, h.inj, h.long⟩
/-- a text comes into a page of records -/
theorem put (h : HI A root pg rp L X) {t : HT} {y : List UInt8} (hpg : t.pg = pg) (hp : pg ∈ rp) (hi : t.i = hole (L pg)) (hl : t.s.length ≤ 400000) (hlong : LongIs B.c t)
    (hnd : t.ch.Nodup) (hnew : ∀ p, p ∈ t.ch → ¬ A.Has p) (hh : ∀ p, B.Has p ↔ A.Has p ∨ p ∈ t.ch) (hr : Recs y (add (L pg) (recOf t)))
    (hcp : B.c pg = y) (hcr : B.c root = rootB (A.c root) pg (X.length + 1)) (hc : ∀ p, A.Has p → p ≠ pg → p ≠ root → B.c p = A.c p) :
    HI B root pg rp (fun p => if p = pg then add (L pg) (recOf t) else L p) (t :: X) := by
  have hne := recOf_ne t
  have hhole : rcd (L pg) (hole (L pg)) = [] := by
    by_cases hc : hole (L pg) < (L pg).length
    · exact (SL.hole_spec (L pg)).2 hc
    · exact SR.rcd_out _ _ (by omega)
  obtain ⟨w1, w2⟩ := rootB_words (A.c root) pg (X.length + 1) h.rlen
  have hnd0 := h.pages
  refine ⟨?_, fun p => ?_, by rw [hcr]; exact w1, by rw [hcr]; exact w2, by rw [hcr]; exact rootB_length _ _ _ h.rlen, .inr hp, fun p hp1 => ?_, fun p hp1 hpn => ?_, fun p hp1 i hi1 => ?_, fun u hu => ?_, ?_, fun u hu => ?_⟩
  · rw [chs_cons]
    have hq : (root :: (rp ++ (t.ch ++ chs X))).Perm (t.ch ++ (root :: (rp ++ chs X))) := by
      refine List.Perm.trans ?_ (List.perm_middle (l₁ := t.ch)).symm
      refine List.Perm.cons _ ?_
      rw [← List.append_assoc, ← List.append_assoc]
      exact List.Perm.append_right _ List.perm_append_comm
    refine hq.nodup_iff.2 (List.nodup_append.2 ⟨hnd, hnd0, fun a ha b hb e => ?_⟩)
    subst e
    exact hnew a ha ((h.has a).2 hb)
  · rw [hh, h.has, chs_cons]
    simp only [List.mem_cons, List.mem_append]
    constructor
    · rintro ((a | a | a) | a)
      · exact .inl a
      · exact .inr (.inl a)
      · exact .inr (.inr (.inr a))
      · exact .inr (.inr (.inl a))
    · rintro (a | a | a | a)
      · exact .inl (.inl a)
      · exact .inl (.inr (.inl a))
      · exact .inr a
      · exact .inl (.inr (.inr a))
  · by_cases e : p = pg
    · subst e
      rw [hcp]
      simp only [if_true]
      exact ⟨hr, SL.add_last _ _ hne (h.recs p hp1).2⟩
    · simp only [if_neg e]
      rw [hc p (h.rp_has hp1).1 e (h.rp_has hp1).2]
      exact h.recs p hp1
  · simp only [if_neg hpn]
    exact h.used p hp1 hpn
  · by_cases e : p = pg
    · subst e
      simp only [if_true] at hi1
      rw [SL.rcd_add] at hi1
      by_cases e2 : i = hole (L p)
      · exact ⟨t, List.mem_cons_self .., hpg, by rw [hi, e2]⟩
      · rw [if_neg e2] at hi1
        obtain ⟨u, a, b⟩ := h.at_ p hp1 i hi1
        exact ⟨u, List.mem_cons_of_mem _ a, b⟩
    · simp only [if_neg e] at hi1
      obtain ⟨u, a, b⟩ := h.at_ p hp1 i hi1
      exact ⟨u, List.mem_cons_of_mem _ a, b⟩
  · rcases List.mem_cons.1 hu with rfl | hu
    · refine ⟨by rw [hpg]; exact hp, ?_, hl⟩
      rw [hpg, if_pos rfl, SL.rcd_add, if_pos hi]
    · obtain ⟨a, b, c⟩ := h.each u hu
      refine ⟨a, ?_, c⟩
      by_cases e : u.pg = pg
      · rw [if_pos e, SL.rcd_add, if_neg (fun e2 => ?_)]
        · rw [← e]; exact b
        · rw [e, e2, hhole] at b
          exact recOf_ne u b.symm
      · rw [if_neg e]; exact b
  · refine List.pairwise_cons.2 ⟨fun u hu hab => ?_, h.inj⟩
    obtain ⟨a, b, _⟩ := h.each u hu
    rw [← hab.1, ← hab.2, hpg, hi, hhole] at b
    exact recOf_ne u b.symm
  · rcases List.mem_cons.1 hu with rfl | hu
    · exact hlong
    · refine (h.long u hu).same (fun p hp1 => ?_)
      obtain ⟨a, b, c⟩ := h.ch_has hu hp1
      exact hc p a (fun e => c (e ▸ hp)) b
/-- an empty page comes to the pages of records, and takes them from now on -/
theorem fresh (h : HI A root pg rp L X) {q : Nat} {y : List UInt8} (hq : ¬ A.Has q) (hh : ∀ p, B.Has p ↔ A.Has p ∨ p = q) (hr : Recs y []) (hfull : pg ∈ rp → L pg ≠ [])
    (hcq : B.c q = y) (hcr : B.c root = rootB (A.c root) q X.length) (hc : ∀ p, A.Has p → p ≠ root → B.c p = A.c p) :
    HI B root q (rp ++ [q]) (fun p => if p = q then [] else L p) X := by
  obtain ⟨w1, w2⟩ := rootB_words (A.c root) q X.length h.rlen
  have hnq : ∀ p, p ∈ rp → p ≠ q := fun p hp e => hq (e ▸ (h.rp_has hp).1)
  have hpm : (root :: (rp ++ [q] ++ chs X)).Perm (q :: (root :: (rp ++ chs X))) := by
    rw [List.append_assoc, List.singleton_append]
    exact (List.Perm.cons root List.perm_middle).trans (List.Perm.swap ..)
  refine ⟨hpm.nodup_iff.2 (List.nodup_cons.2 ⟨fun hm => hq ((h.has q).2 hm), h.pages⟩), fun p => ?_, by rw [hcr]; exact w1, by rw [hcr]; exact w2, by rw [hcr]; exact rootB_length _ _ _ h.rlen, .inr (List.mem_append_right _ (List.mem_singleton.2 rfl)), fun p hp1 => ?_, fun p hp1 hpn => ?_, fun p hp1 i hi1 => ?_, fun u hu => ?_, h.inj, fun u hu => ?_⟩
  · rw [hh, h.has, hpm.mem_iff, List.mem_cons (b := q)]
    exact Or.comm
  · by_cases e : p = q
    · subst e
      rw [hcq]
      simp only [if_true]
      exact ⟨hr, .inl rfl⟩
    · simp only [if_neg e]
      rcases List.mem_append.1 hp1 with hp1 | hp1
      · rw [hc p (h.rp_has hp1).1 (h.rp_has hp1).2]
        exact h.recs p hp1
      · exact absurd (List.mem_singleton.1 hp1) e
  · simp only [if_neg hpn]
    rcases List.mem_append.1 hp1 with hp1 | hp1
    · by_cases e : p = pg
      · subst e; exact hfull hp1
      · exact h.used p hp1 e
    · exact absurd (List.mem_singleton.1 hp1) hpn
  · by_cases e : p = q
    · subst e
      simp only [if_true] at hi1
      rw [SR.rcd_out _ _ (Nat.zero_le _)] at hi1
      exact absurd rfl hi1
    · simp only [if_neg e] at hi1
      rcases List.mem_append.1 hp1 with hp1 | hp1
      · exact h.at_ p hp1 i hi1
      · exact absurd (List.mem_singleton.1 hp1) e
  · obtain ⟨a, b, c⟩ := h.each u hu
    exact ⟨List.mem_append_left _ a, by rw [if_neg (hnq _ a)]; exact b, c⟩
  · refine (h.long u hu).same (fun p hp1 => ?_)
    obtain ⟨a, b, c⟩ := h.ch_has hu hp1
    exact hc p a b
/-- a text goes; its page stays -/
theorem drop {t : HT} (h : HI A root pg rp L (t :: X)) {y : List UInt8} (hh : ∀ p, B.Has p ↔ A.Has p ∧ p ∉ t.ch) (hr : Recs y (trim ((L t.pg).set t.i []))) (hstay : t.pg ≠ pg → trim ((L t.pg).set t.i []) ≠ [])
    (hcp : B.c t.pg = y) (hcr : B.c root = rootB (A.c root) pg X.length) (hc : ∀ p, B.Has p → p ≠ t.pg → p ≠ root → B.c p = A.c p) :
    HI B root pg rp (fun p => if p = t.pg then trim ((L t.pg).set t.i []) else L p) X := by
  obtain ⟨w1, w2⟩ := rootB_words (A.c root) pg X.length h.rlen
  obtain ⟨ht1, ht2, _⟩ := h.each t (List.mem_cons_self ..)
  have hsl := (h.slot (List.mem_cons_self (a := t) (l := X))).1
  have hpm : (root :: (rp ++ (t.ch ++ chs X))).Perm (t.ch ++ (root :: (rp ++ chs X))) := by
    refine List.Perm.trans ?_ (List.perm_middle (l₁ := t.ch)).symm
    refine List.Perm.cons _ ?_
    rw [← List.append_assoc, ← List.append_assoc]
    exact List.Perm.append_right _ List.perm_append_comm
  have hnd := h.pages
  rw [chs_cons] at hnd
  have hnd2 := List.nodup_append.1 (hpm.nodup_iff.1 hnd)
  have hrp : ∀ p, p ∈ rp → B.Has p ∧ p ≠ root := fun p hp => ⟨(hh p).2 ⟨(h.rp_has hp).1, fun hm => (h.ch_has (List.mem_cons_self ..) hm).2.2 hp⟩, (h.rp_has hp).2⟩
  refine ⟨hnd2.2.1, fun p => ?_, by rw [hcr]; exact w1, by rw [hcr]; exact w2, by rw [hcr]; exact rootB_length _ _ _ h.rlen, h.cur, fun p hp1 => ?_, fun p hp1 hpn => ?_, fun p hp1 i hi1 => ?_, fun u hu => ?_, (List.pairwise_cons.1 h.inj).2, fun u hu => ?_⟩
  · rw [hh, h.has, chs_cons, hpm.mem_iff, List.mem_append]
    constructor
    · rintro ⟨a | a, b⟩
      · exact absurd a b
      · exact a
    · intro a
      exact ⟨.inr a, fun b => hnd2.2.2 p b p a rfl⟩
  · by_cases e : p = t.pg
    · subst e
      rw [hcp]
      simp only [if_true]
      exact ⟨hr, SL.trim_last _⟩
    · simp only [if_neg e]
      rw [hc p (hrp p hp1).1 e (hrp p hp1).2]
      exact h.recs p hp1
  · by_cases e : p = t.pg
    · subst e
      simp only [if_true]
      exact hstay hpn
    · simp only [if_neg e]
      exact h.used p hp1 hpn
  · by_cases e : p = t.pg
    · subst e
      simp only [if_true] at hi1
      rw [SL.rcd_trim, SR.rcd_set] at hi1
      by_cases e2 : t.i = i
      · rw [if_pos ⟨e2, hsl⟩] at hi1
        exact absurd rfl hi1
      · rw [if_neg (fun hx => e2 hx.1)] at hi1
        obtain ⟨u, a, b, c⟩ := h.at_ t.pg hp1 i hi1
        rcases List.mem_cons.1 a with rfl | a
        · exact absurd c e2
        · exact ⟨u, a, b, c⟩
    · simp only [if_neg e] at hi1
      obtain ⟨u, a, b, c⟩ := h.at_ p hp1 i hi1
      rcases List.mem_cons.1 a with rfl | a
      · exact absurd b.symm e
      · exact ⟨u, a, b, c⟩
  · obtain ⟨a, b, c⟩ := h.each u (List.mem_cons_of_mem _ hu)
    refine ⟨a, ?_, c⟩
    by_cases e : u.pg = t.pg
    · rw [if_pos e, SL.rcd_trim, SR.rcd_set, if_neg (fun hx => ?_)]
      · rw [← e]; exact b
      · exact (List.pairwise_cons.1 h.inj).1 u hu ⟨e.symm, hx.1⟩
    · rw [if_neg e]; exact b
  · refine (h.long u (List.mem_cons_of_mem _ hu)).same (fun p hp1 => ?_)
    obtain ⟨a, b, c⟩ := h.ch_has (List.mem_cons_of_mem _ hu) hp1
    refine hc p ((hh p).2 ⟨a, fun hm => ?_⟩) (fun e => c (e ▸ ht1)) b
    exact hnd2.2.2 p hm p (List.mem_cons_of_mem _ (List.mem_append_right _ (List.mem_flatMap.2 ⟨u, hu, hp1⟩))) rfl
/-- a text goes, the last one of its page; so does the page -/
theorem dropPage {t : HT} (h : HI A root pg rp L (t :: X)) (hh : ∀ p, B.Has p ↔ A.Has p ∧ p ∉ t.ch ∧ p ≠ t.pg) (hn : t.pg ≠ pg) (he : trim ((L t.pg).set t.i []) = [])
    (hcr : B.c root = rootB (A.c root) pg X.length) (hc : ∀ p, B.Has p → p ≠ root → B.c p = A.c p) :
    HI B root pg (rp.erase t.pg) L X := by
  obtain ⟨w1, w2⟩ := rootB_words (A.c root) pg X.length h.rlen
  obtain ⟨ht1, ht2, _⟩ := h.each t (List.mem_cons_self ..)
  have hsl := (h.slot (List.mem_cons_self (a := t) (l := X))).1
  have hnd := List.nodup_cons.1 h.pages
  have hnd1 := List.nodup_append.1 hnd.2
  have hnd0 := h.pages
  rw [chs_cons] at hnd0
  have hpm : (root :: (rp ++ (t.ch ++ chs X))).Perm (t.ch ++ (t.pg :: (root :: (rp.erase t.pg ++ chs X)))) := by
    have e1 : rp.Perm (t.pg :: rp.erase t.pg) := List.perm_cons_erase ht1
    refine List.Perm.trans (List.Perm.cons root (List.Perm.append_right _ e1)) ?_
    refine List.Perm.trans ?_ (List.perm_middle (l₁ := t.ch)).symm
    refine List.Perm.trans (List.Perm.swap ..) (List.Perm.cons _ ?_)
    refine List.Perm.trans ?_ (List.perm_middle (l₁ := t.ch)).symm
    refine List.Perm.cons _ ?_
    show (rp.erase t.pg ++ (t.ch ++ chs X)).Perm _
    rw [← List.append_assoc, ← List.append_assoc]
    exact List.Perm.append_right _ List.perm_append_comm
  have hnd2 := List.nodup_append.1 (hpm.nodup_iff.1 hnd0)
  have hnd3 := List.nodup_cons.1 hnd2.2.1
  have hin : ∀ p, p ∈ rp.erase t.pg → p ∈ rp ∧ p ≠ t.pg := fun p hp => ((hnd1.1.mem_erase_iff).1 hp).symm
  have hrp : ∀ p, p ∈ rp.erase t.pg → B.Has p ∧ p ≠ root := fun p hp =>
    ⟨(hh p).2 ⟨(h.rp_has (hin p hp).1).1, fun hm => (h.ch_has (List.mem_cons_self ..) hm).2.2 (hin p hp).1, (hin p hp).2⟩, (h.rp_has (hin p hp).1).2⟩
  have hlone : ∀ u, u ∈ X → u.pg ≠ t.pg := fun u hu e => by
    obtain ⟨a, b, _⟩ := h.each u (List.mem_cons_of_mem _ hu)
    have h1 : rcd (trim ((L t.pg).set t.i [])) u.i = [] := by rw [he]; exact SR.rcd_out _ _ (Nat.zero_le _)
    rw [SL.rcd_trim, SR.rcd_set, if_neg (fun hx => (List.pairwise_cons.1 h.inj).1 u hu ⟨e.symm, hx.1⟩), ← e, b] at h1
    exact recOf_ne u h1
  refine ⟨hnd3.2, fun p => ?_, by rw [hcr]; exact w1, by rw [hcr]; exact w2, by rw [hcr]; exact rootB_length _ _ _ h.rlen, ?_, fun p hp1 => ?_, fun p hp1 hpn => h.used p (hin p hp1).1 hpn, fun p hp1 i hi1 => ?_, fun u hu => ?_, (List.pairwise_cons.1 h.inj).2, fun u hu => ?_⟩
  · rw [hh, h.has, chs_cons, hpm.mem_iff, List.mem_append, List.mem_cons]
    constructor
    · rintro ⟨a | a | a, b, c⟩
      · exact absurd a b
      · exact absurd a c
      · exact a
    · intro a
      exact ⟨.inr (.inr a), fun b => hnd2.2.2 p b p (List.mem_cons_of_mem _ a) rfl, fun e => hnd3.1 (e ▸ a)⟩
  · rcases h.cur with h1 | h1
    · exact .inl h1
    · exact .inr ((hnd1.1.mem_erase_iff).2 ⟨fun e => hn e.symm, h1⟩)
  · rw [hc p (hrp p hp1).1 (hrp p hp1).2]
    exact h.recs p (hin p hp1).1
  · obtain ⟨u, a, b, c⟩ := h.at_ p (hin p hp1).1 i hi1
    rcases List.mem_cons.1 a with rfl | a
    · exact absurd b.symm (hin p hp1).2
    · exact ⟨u, a, b, c⟩
  · obtain ⟨a, b, c⟩ := h.each u (List.mem_cons_of_mem _ hu)
    exact ⟨(hnd1.1.mem_erase_iff).2 ⟨hlone u hu, a⟩, b, c⟩
  · refine (h.long u (List.mem_cons_of_mem _ hu)).same (fun p hp1 => ?_)
    obtain ⟨a, b, c⟩ := h.ch_has (List.mem_cons_of_mem _ hu) hp1
    refine hc p ((hh p).2 ⟨a, fun hm => ?_, fun e => c (e ▸ ht1)⟩) b
    exact hnd2.2.2 p hm p (List.mem_cons_of_mem _ (List.mem_cons_of_mem _ (List.mem_append_right _ (List.mem_flatMap.2 ⟨u, hu, hp1⟩)))) rfl
/-- a short text is another short one, in its place -/
theorem swap {t u : HT} (h : HI A root pg rp L (t :: X)) {y : List UInt8} (hh : ∀ p, B.Has p ↔ A.Has p) (hp : u.pg = t.pg) (hi : u.i = t.i) (ht : t.ch = []) (hu : u.ch = []) (hl : u.s.length ≤ 300)
    (hr : Recs y ((L t.pg).set t.i (recOf u))) (hcp : B.c t.pg = y) (hc : ∀ p, A.Has p → p ≠ t.pg → B.c p = A.c p) :
    HI B root pg rp (fun p => if p = t.pg then (L t.pg).set t.i (recOf u) else L p) (u :: X) := by
  obtain ⟨ht1, ht2, _⟩ := h.each t (List.mem_cons_self ..)
  have hsl := (h.slot (List.mem_cons_self (a := t) (l := X))).1
  have hpr : t.pg ≠ root := (h.rp_has ht1).2
  have hne := recOf_ne u
  have hroot := hc root h.root_has hpr.symm
  have hcs : chs (u :: X) = chs (t :: X) := by rw [chs_cons, chs_cons, ht, hu]
  have hlen : (u :: X).length = (t :: X).length := rfl
  refine ⟨by rw [hcs]; exact h.pages, fun p => by rw [hcs]; exact (hh p).trans (h.has p), by rw [hroot]; exact h.wpg, by rw [hroot, hlen]; exact h.wn, by rw [hroot]; exact h.rlen, h.cur, fun p hp1 => ?_, fun p hp1 hpn => ?_, fun p hp1 i hi1 => ?_, fun v hv => ?_, ?_, fun v hv => ?_⟩
  · by_cases e : p = t.pg
    · subst e
      rw [hcp]
      simp only [if_true]
      refine ⟨hr, .inr ?_⟩
      rw [List.length_set, SR.rcd_set]
      by_cases e2 : t.i = (L t.pg).length - 1 ∧ t.i < (L t.pg).length
      · rw [if_pos e2]; exact hne
      · rw [if_neg e2]
        rcases (h.recs _ hp1).2 with h3 | h3
        · rw [h3] at hsl; exact absurd hsl (Nat.not_lt_zero _)
        · exact h3
    · simp only [if_neg e]
      rw [hc p (h.rp_has hp1).1 e]
      exact h.recs p hp1
  · by_cases e : p = t.pg
    · subst e
      simp only [if_true]
      intro h0
      have h1 := congrArg List.length h0
      rw [List.length_set, List.length_nil] at h1
      omega
    · simp only [if_neg e]
      exact h.used p hp1 hpn
  · by_cases e : p = t.pg
    · subst e
      simp only [if_true] at hi1
      rw [SR.rcd_set] at hi1
      by_cases e2 : t.i = i ∧ t.i < (L t.pg).length
      · exact ⟨u, List.mem_cons_self .., hp, hi.trans e2.1⟩
      · rw [if_neg e2] at hi1
        obtain ⟨v, a, b, c⟩ := h.at_ t.pg hp1 i hi1
        rcases List.mem_cons.1 a with rfl | a
        · exact ⟨u, List.mem_cons_self .., hp, hi.trans c⟩
        · exact ⟨v, List.mem_cons_of_mem _ a, b, c⟩
    · simp only [if_neg e] at hi1
      obtain ⟨v, a, b, c⟩ := h.at_ p hp1 i hi1
      rcases List.mem_cons.1 a with rfl | a
      · exact absurd b.symm e
      · exact ⟨v, List.mem_cons_of_mem _ a, b, c⟩
  · rcases List.mem_cons.1 hv with rfl | hv
    · refine ⟨by rw [hp]; exact ht1, ?_, by omega⟩
      rw [hp, hi, if_pos rfl, SR.rcd_set, if_pos ⟨rfl, hsl⟩]
    · obtain ⟨a, b, c⟩ := h.each v (List.mem_cons_of_mem _ hv)
      refine ⟨a, ?_, c⟩
      by_cases e : v.pg = t.pg
      · rw [if_pos e, SR.rcd_set, if_neg (fun hx => (List.pairwise_cons.1 h.inj).1 v hv ⟨e.symm, hx.1⟩), ← e]
        exact b
      · rw [if_neg e]; exact b
  · obtain ⟨a, b⟩ := List.pairwise_cons.1 h.inj
    exact List.pairwise_cons.2 ⟨fun v hv hx => a v hv ⟨hp.symm.trans hx.1, hi.symm.trans hx.2⟩, b⟩
  · rcases List.mem_cons.1 hv with rfl | hv
    · unfold LongIs
      rw [if_pos hl]; exact hu
    · refine (h.long v (List.mem_cons_of_mem _ hv)).same (fun p hp1 => ?_)
      obtain ⟨a, b, c⟩ := h.ch_has (List.mem_cons_of_mem _ hv) hp1
      exact hc p a (fun e => c (e ▸ ht1))
end HI
end Go.Proofs.YtjfkdfffolkblaaGreatDoor
