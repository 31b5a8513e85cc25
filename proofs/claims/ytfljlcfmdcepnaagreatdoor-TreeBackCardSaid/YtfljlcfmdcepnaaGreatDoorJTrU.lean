/-
  Trees (plain): what lies below a page; keys put and dropped.
  Trees (plain): a page above others: one below it turns, is two, two are one.
-/
import Derived.Test.YtfljlcfmdcepnaaGreatDoorJTrA
namespace Go.Proofs.YtfljlcfmdcepnaaGreatDoor
open Go.RowKit
open UK (str BytesAt nth Only)
abbrev KV := UInt64 × UInt64
def insL (l : List KV) (k v : UInt64) : List KV := l.filter (fun x => decide (x.1.toNat < k.toNat)) ++ (k, v) :: l.filter (fun x => decide (k.toNat < x.1.toNat))
def delL (l : List KV) (k : UInt64) : List KV := l.filter (fun x => decide (x.1 ≠ k))
structure Sb where
  pg : Nat
  l : List KV
  ps : List Nat
inductive It where
  | s (t : Sb)
  | k (κ : UInt64)
def It.R : It → It → Prop
  | .s a, .s b => ∀ x ∈ a.l, ∀ y ∈ b.l, x.1.toNat < y.1.toNat
  | .s a, .k κ => ∀ x ∈ a.l, x.1.toNat < κ.toNat
  | .k κ, .s b => ∀ y ∈ b.l, κ.toNat ≤ y.1.toNat
  | .k κ, .k κ' => κ.toNat < κ'.toNat
def mix : List UInt64 → List Sb → List It
  | [], ss => ss.map It.s
  | κ :: ks, s :: ss => .s s :: .k κ :: mix ks ss
  | ks, [] => ks.map It.k
def mixL : List UInt64 → List Sb → List It
  | κ :: ks, s :: ss => .s s :: .k κ :: mixL ks ss
  | _, _ => []
def mixR : List UInt64 → List Sb → List It
  | κ :: ks, s :: ss => .k κ :: .s s :: mixR ks ss
  | _, _ => []
theorem mix_cut : ∀ (ks1 : List UInt64) (ss1 : List Sb) (ks2 : List UInt64) (s : Sb) (ss2 : List Sb), ss1.length = ks1.length → ss2.length = ks2.length → mix (ks1 ++ ks2) (ss1 ++ s :: ss2) = mixL ks1 ss1 ++ .s s :: mixR ks2 ss2
  | [], [], [], s, [], _, _ => rfl
  | [], [], [], s, t :: r, _, h => by simp at h
  | [], [], κ :: ks, s, [], _, h => by simp at h
  | [], [], κ :: ks, s, t :: r, _, h => by
    have := mix_cut [] [] ks t r rfl (by simpa using h)
    show .s s :: .k κ :: mix ks (t :: r) = .s s :: .k κ :: .s t :: mixR ks r
    rw [show mix ks (t :: r) = _ from this]
    rfl
  | [], t :: r, ks2, s, ss2, h, _ => by simp at h
  | κ :: ks1, [], ks2, s, ss2, h, _ => by simp at h
  | κ :: ks1, t :: ss1, ks2, s, ss2, h, h2 => by
    have := mix_cut ks1 ss1 ks2 s ss2 (by simpa using h) h2
    show .s t :: .k κ :: mix (ks1 ++ ks2) (ss1 ++ s :: ss2) = .s t :: .k κ :: (mixL ks1 ss1 ++ .s s :: mixR ks2 ss2)
    rw [this]
theorem mix_join : ∀ (ks1 : List UInt64) (ss1 : List Sb) (κ : UInt64) (ks2 : List UInt64) (ss2 : List Sb), ss1.length = ks1.length + 1 → mix (ks1 ++ κ :: ks2) (ss1 ++ ss2) = mix ks1 ss1 ++ .k κ :: mix ks2 ss2
  | [], [], κ, ks2, ss2, h => by simp at h
  | [], [s], κ, ks2, ss2, _ => rfl
  | [], s :: t :: r, κ, ks2, ss2, h => by simp at h
  | κ1 :: ks1, [], κ, ks2, ss2, h => by simp at h
  | κ1 :: ks1, t :: ss1, κ, ks2, ss2, h => by
    have := mix_join ks1 ss1 κ ks2 ss2 (by simpa using h)
    show .s t :: .k κ1 :: mix (ks1 ++ κ :: ks2) (ss1 ++ ss2) = .s t :: .k κ1 :: (mix ks1 ss1 ++ .k κ :: mix ks2 ss2)
    rw [this]
theorem mix_keys : ∀ (ks : List UInt64) (ss : List Sb), (ks.map It.k).Sublist (mix ks ss)
  | [], _ => List.nil_sublist _
  | _ :: _, [] => List.Sublist.refl _
  | _ :: ks, _ :: ss => ((mix_keys ks ss).cons_cons _).cons _
theorem mix_subs : ∀ (ks : List UInt64) (ss : List Sb), (ss.map It.s).Sublist (mix ks ss)
  | [], _ => List.Sublist.refl _
  | _ :: _, [] => List.nil_sublist _
  | _ :: ks, _ :: ss => ((mix_subs ks ss).cons _).cons_cons _
theorem mem_mix {it : It} : ∀ {ks : List UInt64} {ss : List Sb}, it ∈ mix ks ss → (∃ κ ∈ ks, it = .k κ) ∨ (∃ s ∈ ss, it = .s s)
  | [], ss, h => by
    obtain ⟨s, hs, e⟩ := List.mem_map.1 h
    exact .inr ⟨s, hs, e.symm⟩
  | κ :: ks, [], h => by
    obtain ⟨s, hs, e⟩ := List.mem_map.1 h
    exact .inl ⟨s, hs, e.symm⟩
  | κ :: ks, s :: ss, h => by
    rcases List.mem_cons.1 h with h | h
    · exact .inr ⟨s, by simp, h⟩
    · rcases List.mem_cons.1 h with h | h
      · exact .inl ⟨κ, by simp, h⟩
      · rcases mem_mix h with ⟨a, b, c⟩ | ⟨a, b, c⟩
        · exact .inl ⟨a, by simp [b], c⟩
        · exact .inr ⟨a, by simp [b], c⟩
structure InN (P : Sb → Prop) (keys : List UInt64) (subs : List Sb) : Prop where
  len : subs.length = keys.length + 1
  ord : (mix keys subs).Pairwise It.R
  all : ∀ s ∈ subs, P s
theorem InN.up {P : Sb → Prop} {keys : List UInt64} {subs : List Sb} (h : InN P keys subs) : Sorted keys := by
  have h1 := h.ord.sublist (mix_keys keys subs)
  rw [List.pairwise_map, List.pairwise_iff_getElem] at h1
  intro a b x y hab hx hy
  obtain ⟨ha, ea⟩ := List.getElem?_eq_some_iff.1 hx
  obtain ⟨hb, eb⟩ := List.getElem?_eq_some_iff.1 hy
  have := h1 a b ha hb hab
  rw [ea, eb] at this
  exact this
def flatL (subs : List Sb) : List KV := subs.flatMap Sb.l
def flatP (subs : List Sb) : List Nat := subs.flatMap Sb.ps
def FatN (x : Nd) : Prop := (x.leaf = true → 15 ≤ x.keys.length) ∧ (x.leaf = false → 16 ≤ x.kids.length)
def Fat (f : Nat → Option Nd) (p : Nat) : Prop := ∃ x, f p = some x ∧ FatN x
def Tr (f : Nat → Option Nd) : Nat → Sb → Prop
  | 0, s => ∃ ks vs, f s.pg = some ⟨true, ks, vs, []⟩ ∧ vs.length = ks.length ∧ Sorted ks ∧ s.l = ks.zip vs ∧ s.ps = [s.pg]
  | d + 1, s => ∃ keys subs, f s.pg = some ⟨false, keys, [], subs.map Sb.pg⟩ ∧ InN (fun t => Tr f d t ∧ Fat f t.pg) keys subs ∧ s.l = flatL subs ∧ s.ps = s.pg :: flatP subs
theorem InN.imp {P Q : Sb → Prop} {keys : List UInt64} {subs : List Sb} (h : InN P keys subs) (hq : ∀ s ∈ subs, P s → Q s) : InN Q keys subs := ⟨h.len, h.ord, fun s hs => hq s hs (h.all s hs)⟩
theorem Tr.mem {f : Nat → Option Nd} {d : Nat} {s : Sb} (h : Tr f d s) : s.pg ∈ s.ps := by
  cases d with
  | zero => obtain ⟨_, _, _, _, _, _, e⟩ := h; rw [e]; simp
  | succ d => obtain ⟨_, _, _, _, _, e⟩ := h; rw [e]; simp
theorem mem_flatP {subs : List Sb} {s : Sb} (hs : s ∈ subs) {p : Nat} (hp : p ∈ s.ps) : p ∈ flatP subs := List.mem_flatMap.2 ⟨s, hs, hp⟩
theorem Tr.same {f g : Nat → Option Nd} : ∀ (d : Nat) (s : Sb), Tr f d s → (∀ p ∈ s.ps, g p = f p) → Tr g d s
  | 0, s, ⟨ks, vs, h1, h2, h3, h4, h5⟩, hg => ⟨ks, vs, (hg s.pg (by rw [h5]; simp)).trans h1, h2, h3, h4, h5⟩
  | d + 1, s, ⟨keys, subs, h1, h2, h3, h4⟩, hg => by
    refine ⟨keys, subs, (hg s.pg (by rw [h4]; simp)).trans h1, h2.imp (fun t ht ⟨a, b⟩ => ?_), h3, h4⟩
    have hsub : ∀ p ∈ t.ps, g p = f p := fun p hp => hg p (by rw [h4]; exact List.mem_cons_of_mem _ (mem_flatP ht hp))
    refine ⟨Tr.same d t a hsub, ?_⟩
    obtain ⟨x, e, hx⟩ := b
    exact ⟨x, (hsub _ a.mem).trans e, hx⟩
def Rise (l : List KV) : Prop := l.Pairwise (fun a b => a.1.toNat < b.1.toNat)
theorem zip_rise {ks vs : List UInt64} (h : Sorted ks) : Rise (ks.zip vs) := by
  unfold Rise
  rw [List.pairwise_iff_getElem]
  intro i j hi hj hij
  rw [List.length_zip] at hi hj
  rw [List.getElem_zip, List.getElem_zip]
  exact h i j _ _ hij (List.getElem?_eq_getElem (by omega)) (List.getElem?_eq_getElem (by omega))
theorem flat_rise {P : Sb → Prop} {keys : List UInt64} {subs : List Sb} (h : InN P keys subs) (hr : ∀ s ∈ subs, Rise s.l) : Rise (flatL subs) := by
  unfold Rise flatL
  rw [List.pairwise_flatMap]
  refine ⟨hr, ?_⟩
  have h1 := h.ord.sublist (mix_subs keys subs)
  rw [List.pairwise_map] at h1
  exact h1
theorem Tr.rise {f : Nat → Option Nd} : ∀ (d : Nat) (s : Sb), Tr f d s → Rise s.l
  | 0, s, ⟨ks, vs, h1, h2, h3, h4, h5⟩ => by rw [h4]; exact zip_rise h3
  | d + 1, s, ⟨keys, subs, h1, h2, h3, h4⟩ => by
    rw [h3]
    exact flat_rise h2 (fun t ht => Tr.rise d t (h2.all t ht).1)
theorem flatL_length (subs : List Sb) (c : Nat) (h : ∀ s ∈ subs, 14 * s.ps.length + c ≤ s.l.length) : 14 * (flatP subs).length + c * subs.length ≤ (flatL subs).length := by
  induction subs with
  | nil => simp [flatP, flatL]
  | cons s r ih =>
    have h1 := h s (by simp)
    have h2 := ih (fun t ht => h t (by simp [ht]))
    simp only [flatP, flatL, List.flatMap_cons, List.length_append, List.length_cons] at h2 ⊢
    rw [Nat.mul_add, Nat.mul_add, Nat.mul_one]
    omega
theorem Tr.many {f : Nat → Option Nd} : ∀ (d : Nat) (s : Sb), Tr f d s → Fat f s.pg → 14 * s.ps.length + 1 ≤ s.l.length
  | 0, s, ⟨ks, vs, h1, h2, h3, h4, h5⟩, ⟨x, hx, hf⟩ => by
    rw [h1] at hx
    obtain rfl := Option.some.inj hx
    have := hf.1 rfl
    rw [h4, h5, List.length_zip]
    simp only [List.length_cons, List.length_nil] at this ⊢
    omega
  | d + 1, s, ⟨keys, subs, h1, h2, h3, h4⟩, ⟨x, hx, hf⟩ => by
    have h20 : 16 ≤ subs.length := by
      rw [h1] at hx
      obtain rfl := Option.some.inj hx
      simpa using hf.2 rfl
    have := flatL_length subs 1 (fun t ht => Tr.many d t (h2.all t ht).1 (h2.all t ht).2)
    rw [h3, h4, List.length_cons]
    omega
theorem Tr.root_many {f : Nat → Option Nd} {d : Nat} {s : Sb} (h : Tr f d s) : 14 * s.ps.length ≤ s.l.length + 14 := by
  cases d with
  | zero => obtain ⟨_, _, _, _, _, _, e⟩ := h; rw [e]; simp
  | succ d =>
    obtain ⟨keys, subs, h1, hI, h3, h4⟩ := h
    have := flatL_length subs 1 (fun t ht => Tr.many d t (hI.all t ht).1 (hI.all t ht).2)
    rw [h3, h4, List.length_cons]
    omega
theorem Tr.deep {f : Nat → Option Nd} : ∀ (d : Nat) (s : Sb), Tr f d s → Fat f s.pg → 2 ^ d ≤ s.ps.length
  | 0, s, ⟨ks, vs, h1, h2, h3, h4, h5⟩, _ => by rw [h5]; simp
  | d + 1, s, ⟨keys, subs, h1, h2, h3, h4⟩, ⟨x, hx, hf⟩ => by
    have h20 : 16 ≤ subs.length := by
      rw [h1] at hx
      obtain rfl := Option.some.inj hx
      simpa using hf.2 rfl
    have hs : ∀ (l : List Sb), (∀ t ∈ l, 2 ^ d ≤ t.ps.length) → 2 ^ d * l.length ≤ (flatP l).length := by
      intro l
      induction l with
      | nil => intro _; simp
      | cons t r ih =>
        intro hl
        have a := hl t (by simp)
        have b := ih (fun u hu => hl u (by simp [hu]))
        simp only [flatP, List.flatMap_cons, List.length_append, List.length_cons] at b ⊢
        rw [Nat.mul_add, Nat.mul_one]
        omega
    have := hs subs (fun t ht => Tr.deep d t (h2.all t ht).1 (h2.all t ht).2)
    rw [h4, List.length_cons, Nat.pow_succ]
    have hm : 2 ^ d * 2 ≤ 2 ^ d * subs.length := Nat.mul_le_mul_left _ (by omega)
    omega
/-! ## lists with a key's value, without it -/
theorem insL_mid {a b c : List KV} {k v : UInt64} (ha : ∀ x ∈ a, x.1.toNat < k.toNat) (hc : ∀ x ∈ c, k.toNat < x.1.toNat) : insL (a ++ (b ++ c)) k v = a ++ (insL b k v ++ c) := by
  unfold insL
  have e1 : a.filter (fun x => decide (x.1.toNat < k.toNat)) = a := List.filter_eq_self.2 (fun x hx => by simpa using ha x hx)
  have e2 : a.filter (fun x => decide (k.toNat < x.1.toNat)) = [] := List.filter_eq_nil_iff.2 (fun x hx => by have := ha x hx; simp; omega)
  have e3 : c.filter (fun x => decide (x.1.toNat < k.toNat)) = [] := List.filter_eq_nil_iff.2 (fun x hx => by have := hc x hx; simp; omega)
  have e4 : c.filter (fun x => decide (k.toNat < x.1.toNat)) = c := List.filter_eq_self.2 (fun x hx => by simpa using hc x hx)
  simp only [List.filter_append, e1, e2, e3, e4, List.append_nil, List.nil_append, List.append_assoc, List.cons_append]
theorem delL_mid {a b c : List KV} {k : UInt64} (ha : ∀ x ∈ a, x.1.toNat < k.toNat) (hc : ∀ x ∈ c, k.toNat < x.1.toNat) : delL (a ++ (b ++ c)) k = a ++ (delL b k ++ c) := by
  unfold delL
  have e1 : a.filter (fun x => decide (x.1 ≠ k)) = a := List.filter_eq_self.2 (fun x hx => by have := ha x hx; simp; intro e; rw [e] at this; omega)
  have e4 : c.filter (fun x => decide (x.1 ≠ k)) = c := List.filter_eq_self.2 (fun x hx => by have := hc x hx; simp; intro e; rw [e] at this; omega)
  simp only [List.filter_append, e1, e4]
theorem mem_insL {l : List KV} {k v : UInt64} {x : KV} (h : x ∈ insL l k v) : x ∈ l ∨ x = (k, v) := by
  unfold insL at h
  rcases List.mem_append.1 h with h | h
  · exact .inl (List.mem_filter.1 h).1
  · rcases List.mem_cons.1 h with h | h
    · exact .inr h
    · exact .inl (List.mem_filter.1 h).1
theorem mem_delL {l : List KV} {k : UInt64} {x : KV} (h : x ∈ delL l k) : x ∈ l := (List.mem_filter.1 h).1
theorem insL_zip {ks vs : List UInt64} {k v : UInt64} {i : Nat} (h : Stands ks k i) (hv : vs.length = ks.length) (hno : k ∉ ks) : insL (ks.zip vs) k v = (ks.take i ++ k :: ks.drop i).zip (vs.take i ++ v :: vs.drop i) := by
  have hle := h.le
  have e : ks.zip vs = (ks.take i).zip (vs.take i) ++ (ks.drop i).zip (vs.drop i) := by
    rw [← List.zip_append (by rw [List.length_take, List.length_take]; omega), List.take_append_drop, List.take_append_drop]
  rw [e]
  have h1 := insL_mid (a := (ks.take i).zip (vs.take i)) (b := []) (c := (ks.drop i).zip (vs.drop i)) (k := k) (v := v) (fun x hx => by
    obtain ⟨j, hj, hjx⟩ := List.getElem_of_mem hx
    rw [List.length_zip, List.length_take] at hj
    have h2 : ks[j]? = some x.1 := by
      rw [← hjx, List.getElem_zip, List.getElem_take]
      exact List.getElem?_eq_getElem (by omega)
    exact h.below j x.1 (by omega) h2) (fun x hx => by
    obtain ⟨j, hj, hjx⟩ := List.getElem_of_mem hx
    rw [List.length_zip, List.length_drop] at hj
    have h2 : ks[i + j]? = some x.1 := by
      rw [← hjx, List.getElem_zip, List.getElem_drop]
      exact List.getElem?_eq_getElem (by omega)
    have h3 := h.above (i + j) x.1 (by omega) h2
    have h4 : k ≠ x.1 := fun e => hno (e ▸ List.mem_of_getElem? h2)
    have h5 : k.toNat ≠ x.1.toNat := fun e => h4 (UInt64.toNat_inj.1 e)
    omega)
  rw [List.nil_append] at h1
  rw [h1, List.zip_append (by rw [List.length_take, List.length_take]; omega)]
  rfl
theorem insL_set {ks vs : List UInt64} {k v : UInt64} {i : Nat} (hs : Sorted ks) (hk : ks[i]? = some k) (hv : vs.length = ks.length) : insL (ks.zip vs) k v = ks.zip (vs.set i v) := by
  have hi : i < ks.length := (List.getElem?_eq_some_iff.1 hk).1
  have e : ks.zip vs = (ks.take i).zip (vs.take i) ++ ([(k, vs[i]'(by omega))] ++ (ks.drop (i + 1)).zip (vs.drop (i + 1))) := by
    have e1 : ks = ks.take i ++ k :: ks.drop (i + 1) := by
      have := List.take_append_drop i ks
      rw [List.drop_eq_getElem_cons hi, (List.getElem?_eq_some_iff.1 hk).2] at this
      exact this.symm
    have e2 : vs = vs.take i ++ vs[i]'(by omega) :: vs.drop (i + 1) := by
      have := List.take_append_drop i vs
      rw [List.drop_eq_getElem_cons (by omega)] at this
      exact this.symm
    conv => lhs; rw [e1, e2]
    rw [List.zip_append (by rw [List.length_take, List.length_take]; omega)]
    rfl
  rw [e, insL_mid (fun x hx => ?_) (fun x hx => ?_)]
  · have e3 : insL [(k, vs[i]'(by omega))] k v = [(k, v)] := by simp [insL]
    rw [e3]
    have e1 : ks = ks.take i ++ k :: ks.drop (i + 1) := by
      have := List.take_append_drop i ks
      rw [List.drop_eq_getElem_cons hi, (List.getElem?_eq_some_iff.1 hk).2] at this
      exact this.symm
    have e2 : vs.set i v = vs.take i ++ v :: vs.drop (i + 1) := by rw [List.set_eq_take_append_cons_drop, if_pos (by omega)]
    rw [e2]
    conv => rhs; rw [e1]
    rw [List.zip_append (by rw [List.length_take, List.length_take]; omega)]
    rfl
  · obtain ⟨j, hj, hjx⟩ := List.getElem_of_mem hx
    rw [List.length_zip, List.length_take] at hj
    have h2 : ks[j]? = some x.1 := by
      rw [← hjx, List.getElem_zip, List.getElem_take]
      exact List.getElem?_eq_getElem (by omega)
    exact hs j i _ _ (by omega) h2 hk
  · obtain ⟨j, hj, hjx⟩ := List.getElem_of_mem hx
    rw [List.length_zip, List.length_drop] at hj
    have h2 : ks[i + 1 + j]? = some x.1 := by
      rw [← hjx, List.getElem_zip, List.getElem_drop]
      exact List.getElem?_eq_getElem (by omega)
    exact hs i (i + 1 + j) _ _ (by omega) hk h2
theorem delL_zip {ks vs : List UInt64} {k : UInt64} {i : Nat} (hs : Sorted ks) (hk : ks[i]? = some k) (hv : vs.length = ks.length) : delL (ks.zip vs) k = (ks.take i ++ ks.drop (i + 1)).zip (vs.take i ++ vs.drop (i + 1)) := by
  have hi : i < ks.length := (List.getElem?_eq_some_iff.1 hk).1
  have e : ks.zip vs = (ks.take i).zip (vs.take i) ++ ([(k, vs[i]'(by omega))] ++ (ks.drop (i + 1)).zip (vs.drop (i + 1))) := by
    have e1 : ks = ks.take i ++ k :: ks.drop (i + 1) := by
      have := List.take_append_drop i ks
      rw [List.drop_eq_getElem_cons hi, (List.getElem?_eq_some_iff.1 hk).2] at this
      exact this.symm
    have e2 : vs = vs.take i ++ vs[i]'(by omega) :: vs.drop (i + 1) := by
      have := List.take_append_drop i vs
      rw [List.drop_eq_getElem_cons (by omega)] at this
      exact this.symm
    conv => lhs; rw [e1, e2]
    rw [List.zip_append (by rw [List.length_take, List.length_take]; omega)]
    rfl
  rw [e, delL_mid (fun x hx => ?_) (fun x hx => ?_), List.zip_append (by rw [List.length_take, List.length_take]; omega)]
  · have e3 : delL [(k, vs[i]'(by omega))] k = [] := by simp [delL]
    rw [e3, List.nil_append]
  · obtain ⟨j, hj, hjx⟩ := List.getElem_of_mem hx
    rw [List.length_zip, List.length_take] at hj
    have h2 : ks[j]? = some x.1 := by
      rw [← hjx, List.getElem_zip, List.getElem_take]
      exact List.getElem?_eq_getElem (by omega)
    exact hs j i _ _ (by omega) h2 hk
  · obtain ⟨j, hj, hjx⟩ := List.getElem_of_mem hx
    rw [List.length_zip, List.length_drop] at hj
    have h2 : ks[i + 1 + j]? = some x.1 := by
      rw [← hjx, List.getElem_zip, List.getElem_drop]
      exact List.getElem?_eq_getElem (by omega)
    exact hs i (i + 1 + j) _ _ (by omega) hk h2
theorem delL_none {ks vs : List UInt64} {k : UInt64} (hno : k ∉ ks) : delL (ks.zip vs) k = ks.zip vs := by
  refine List.filter_eq_self.2 (fun x hx => ?_)
  have := (List.of_mem_zip hx).1
  simp
  intro e
  exact hno (e ▸ this)
end Go.Proofs.YtfljlcfmdcepnaaGreatDoor
namespace Go.Proofs.YtfljlcfmdcepnaaGreatDoor
open Go.RowKit
open UK (str BytesAt nth Only)
structure KidIx (keys : List UInt64) (k : UInt64) (i : Nat) : Prop where
  le : i ≤ keys.length
  below : ∀ κ ∈ keys.take i, κ.toNat ≤ k.toNat
  above : ∀ κ ∈ keys.drop i, k.toNat < κ.toNat
theorem flatL_app (a b : List Sb) : flatL (a ++ b) = flatL a ++ flatL b := by unfold flatL; rw [List.flatMap_append]
theorem flatP_app (a b : List Sb) : flatP (a ++ b) = flatP a ++ flatP b := by unfold flatP; rw [List.flatMap_append]
theorem flatL_cons (s : Sb) (b : List Sb) : flatL (s :: b) = s.l ++ flatL b := by unfold flatL; rw [List.flatMap_cons]
theorem flatP_cons (s : Sb) (b : List Sb) : flatP (s :: b) = s.ps ++ flatP b := by unfold flatP; rw [List.flatMap_cons]
theorem cut_at {α : Type} {l : List α} {i : Nat} {s : α} (h : l[i]? = some s) : l = l.take i ++ s :: l.drop (i + 1) := by
  obtain ⟨hi, e⟩ := List.getElem?_eq_some_iff.1 h
  have := List.take_append_drop i l
  rw [List.drop_eq_getElem_cons hi, e] at this
  exact this.symm
theorem mem_mixL : ∀ {ks : List UInt64} {ss : List Sb} {it : It}, it ∈ mixL ks ss → (∃ κ ∈ ks, it = .k κ) ∨ (∃ s ∈ ss, it = .s s)
  | [], _, _, h => by simp [mixL] at h
  | _ :: _, [], _, h => by simp [mixL] at h
  | κ :: ks, s :: ss, it, h => by
    rcases List.mem_cons.1 h with h | h
    · exact .inr ⟨s, by simp, h⟩
    · rcases List.mem_cons.1 h with h | h
      · exact .inl ⟨κ, by simp, h⟩
      · rcases mem_mixL h with ⟨a, b, c⟩ | ⟨a, b, c⟩
        · exact .inl ⟨a, by simp [b], c⟩
        · exact .inr ⟨a, by simp [b], c⟩
theorem mem_mixR : ∀ {ks : List UInt64} {ss : List Sb} {it : It}, it ∈ mixR ks ss → (∃ κ ∈ ks, it = .k κ) ∨ (∃ s ∈ ss, it = .s s)
  | [], _, _, h => by simp [mixR] at h
  | _ :: _, [], _, h => by simp [mixR] at h
  | κ :: ks, s :: ss, it, h => by
    rcases List.mem_cons.1 h with h | h
    · exact .inl ⟨κ, by simp, h⟩
    · rcases List.mem_cons.1 h with h | h
      · exact .inr ⟨s, by simp, h⟩
      · rcases mem_mixR h with ⟨a, b, c⟩ | ⟨a, b, c⟩
        · exact .inl ⟨a, by simp [b], c⟩
        · exact .inr ⟨a, by simp [b], c⟩
theorem mixL_below {k : UInt64} : ∀ {ks : List UInt64} {ss : List Sb}, ss.length = ks.length → (mixL ks ss).Pairwise It.R → (∀ κ ∈ ks, κ.toNat ≤ k.toNat) → ∀ s ∈ ss, ∀ x ∈ s.l, x.1.toNat < k.toNat
  | [], [], _, _, _ => by simp
  | [], _ :: _, h, _, _ => by simp at h
  | _ :: _, [], h, _, _ => by simp at h
  | κ :: ks, t :: ss, h, hp, hk => by
    have h1 : It.R (.s t) (.k κ) := (List.pairwise_cons.1 hp).1 (.k κ) (by simp)
    have h2 := (List.pairwise_cons.1 (List.pairwise_cons.1 hp).2).2
    intro s hs x hx
    rcases List.mem_cons.1 hs with rfl | hs
    · have := h1 x hx
      have := hk κ (by simp)
      omega
    · exact mixL_below (by simpa using h) h2 (fun κ' hk' => hk κ' (by simp [hk'])) s hs x hx
theorem mixR_above {k : UInt64} : ∀ {ks : List UInt64} {ss : List Sb}, ss.length = ks.length → (mixR ks ss).Pairwise It.R → (∀ κ ∈ ks, k.toNat < κ.toNat) → ∀ s ∈ ss, ∀ x ∈ s.l, k.toNat < x.1.toNat
  | [], [], _, _, _ => by simp
  | [], _ :: _, h, _, _ => by simp at h
  | _ :: _, [], h, _, _ => by simp at h
  | κ :: ks, t :: ss, h, hp, hk => by
    have h1 : It.R (.k κ) (.s t) := (List.pairwise_cons.1 hp).1 (.s t) (by simp)
    have h2 := (List.pairwise_cons.1 (List.pairwise_cons.1 hp).2).2
    intro s hs x hx
    rcases List.mem_cons.1 hs with rfl | hs
    · have := h1 x hx
      have := hk κ (by simp)
      omega
    · exact mixR_above (by simpa using h) h2 (fun κ' hk' => hk κ' (by simp [hk'])) s hs x hx
def It.lo (k : UInt64) : It → Prop
  | .s u => ∀ x ∈ u.l, x.1.toNat < k.toNat
  | .k κ => κ.toNat ≤ k.toNat
def It.hi (k : UInt64) : It → Prop
  | .s u => ∀ x ∈ u.l, k.toNat < x.1.toNat
  | .k κ => k.toNat < κ.toNat
theorem It.R_less {a : It} {s t : Sb} {k : UInt64} (h : It.R a (.s s)) (hk : It.lo k a) (ht : ∀ x ∈ t.l, x ∈ s.l ∨ x.1 = k) : It.R a (.s t) := by
  cases a with
  | s u =>
    intro x hx y hy
    rcases ht y hy with h1 | h1
    · exact h x hx y h1
    · rw [h1]; exact hk x hx
  | k κ =>
    intro y hy
    rcases ht y hy with h1 | h1
    · exact h y h1
    · rw [h1]; exact hk
theorem It.R_more {a : It} {s t : Sb} {k : UInt64} (h : It.R (.s s) a) (hk : It.hi k a) (ht : ∀ x ∈ t.l, x ∈ s.l ∨ x.1 = k) : It.R (.s t) a := by
  cases a with
  | s u =>
    intro x hx y hy
    rcases ht x hx with h1 | h1
    · exact h x h1 y hy
    · rw [h1]; exact hk y hy
  | k κ =>
    intro y hy
    rcases ht y hy with h1 | h1
    · exact h y h1
    · rw [h1]; exact hk
section
variable {P : Sb → Prop} {keys : List UInt64} {subs : List Sb} {k : UInt64} {i : Nat} {s : Sb}
theorem InN.cut (h : InN P keys subs) (hs : subs[i]? = some s) : mix keys subs = mixL (keys.take i) (subs.take i) ++ .s s :: mixR (keys.drop i) (subs.drop (i + 1)) := by
  have hi := (List.getElem?_eq_some_iff.1 hs).1
  have hl := h.len
  conv => lhs; rw [cut_at hs, ← List.take_append_drop i keys]
  exact mix_cut _ _ _ _ _ (by rw [List.length_take, List.length_take]; omega) (by rw [List.length_drop, List.length_drop]; omega)
theorem InN.left (h : InN P keys subs) (hs : subs[i]? = some s) (hk : ∀ κ ∈ keys.take i, κ.toNat ≤ k.toNat) : ∀ t ∈ subs.take i, ∀ x ∈ t.l, x.1.toNat < k.toNat := by
  have hi := (List.getElem?_eq_some_iff.1 hs).1
  have hl := h.len
  have ho := h.ord
  rw [h.cut hs] at ho
  exact mixL_below (by rw [List.length_take, List.length_take]; omega) (List.pairwise_append.1 ho).1 hk
theorem InN.right (h : InN P keys subs) (hs : subs[i]? = some s) (hk : ∀ κ ∈ keys.drop i, k.toNat < κ.toNat) : ∀ t ∈ subs.drop (i + 1), ∀ x ∈ t.l, k.toNat < x.1.toNat := by
  have hi := (List.getElem?_eq_some_iff.1 hs).1
  have hl := h.len
  have ho := h.ord
  rw [h.cut hs] at ho
  exact mixR_above (by rw [List.length_drop, List.length_drop]; omega) (List.pairwise_cons.1 (List.pairwise_append.1 ho).2.1).2 hk
theorem flat_below {l : List Sb} (h : ∀ t ∈ l, ∀ x ∈ t.l, x.1.toNat < k.toNat) : ∀ x ∈ flatL l, x.1.toNat < k.toNat := fun x hx => by
  obtain ⟨t, ht, hx⟩ := List.mem_flatMap.1 hx
  exact h t ht x hx
theorem flat_above {l : List Sb} (h : ∀ t ∈ l, ∀ x ∈ t.l, k.toNat < x.1.toNat) : ∀ x ∈ flatL l, k.toNat < x.1.toNat := fun x hx => by
  obtain ⟨t, ht, hx⟩ := List.mem_flatMap.1 hx
  exact h t ht x hx
theorem flatL_at (hs : subs[i]? = some s) : flatL subs = flatL (subs.take i) ++ (s.l ++ flatL (subs.drop (i + 1))) := by
  conv => lhs; rw [cut_at hs]
  rw [flatL_app, flatL_cons]
theorem flatP_at (hs : subs[i]? = some s) : flatP subs = flatP (subs.take i) ++ (s.ps ++ flatP (subs.drop (i + 1))) := by
  conv => lhs; rw [cut_at hs]
  rw [flatP_app, flatP_cons]
theorem InN.side (h : InN P keys subs) (hs : subs[i]? = some s) (hk : KidIx keys k i) :
    (∀ a ∈ mixL (keys.take i) (subs.take i), It.lo k a) ∧
    (∀ a ∈ mixR (keys.drop i) (subs.drop (i + 1)), It.hi k a) := by
  refine ⟨fun a ha => ?_, fun a ha => ?_⟩
  · rcases mem_mixL ha with ⟨κ, hκ, rfl⟩ | ⟨t, ht, rfl⟩
    · exact hk.below κ hκ
    · exact h.left hs hk.below t ht
  · rcases mem_mixR ha with ⟨κ, hκ, rfl⟩ | ⟨t, ht, rfl⟩
    · exact hk.above κ hκ
    · exact h.right hs hk.above t ht
theorem InN.set (h : InN P keys subs) (hs : subs[i]? = some s) (hk : KidIx keys k i) {t : Sb} (ht : ∀ x ∈ t.l, x ∈ s.l ∨ x.1 = k) (hp : P t) : InN P keys (subs.take i ++ t :: subs.drop (i + 1)) := by
  have hi := (List.getElem?_eq_some_iff.1 hs).1
  have hl := h.len
  have ho := h.ord
  obtain ⟨hL, hR⟩ := h.side hs hk
  rw [h.cut hs, List.pairwise_append, List.pairwise_cons] at ho
  obtain ⟨o1, ⟨o2, o3⟩, o4⟩ := ho
  refine ⟨by rw [List.length_append, List.length_cons, List.length_take, List.length_drop]; omega, ?_, fun u hu => ?_⟩
  · have e : mix keys (subs.take i ++ t :: subs.drop (i + 1)) = mixL (keys.take i) (subs.take i) ++ .s t :: mixR (keys.drop i) (subs.drop (i + 1)) := by
      conv => lhs; rw [← List.take_append_drop i keys]
      exact mix_cut _ _ _ _ _ (by rw [List.length_take, List.length_take]; omega) (by rw [List.length_drop, List.length_drop]; omega)
    rw [e, List.pairwise_append, List.pairwise_cons]
    refine ⟨o1, ⟨fun a ha => It.R_more (o2 a ha) (hR a ha) ht, o3⟩, fun a ha b hb => ?_⟩
    rcases List.mem_cons.1 hb with rfl | hb
    · exact It.R_less (o4 a ha _ (by simp)) (hL a ha) ht
    · exact o4 a ha b (by simp [hb])
  · rcases List.mem_append.1 hu with hu | hu
    · exact h.all u (List.mem_of_mem_take hu)
    · rcases List.mem_cons.1 hu with rfl | hu
      · exact hp
      · exact h.all u (List.mem_of_mem_drop hu)
theorem InN.ins (h : InN P keys subs) (hs : subs[i]? = some s) (hk : KidIx keys k i) {t u : Sb} {κ : UInt64} (ht : ∀ x ∈ t.l, x ∈ s.l ∨ x.1 = k) (hu : ∀ x ∈ u.l, x ∈ s.l ∨ x.1 = k)
    (htκ : ∀ x ∈ t.l, x.1.toNat < κ.toNat) (hκu : ∀ x ∈ u.l, κ.toNat ≤ x.1.toNat) (ht0 : t.l ≠ []) (hu0 : u.l ≠ []) (hpt : P t) (hpu : P u) :
    InN P (keys.take i ++ κ :: keys.drop i) (subs.take i ++ t :: u :: subs.drop (i + 1)) := by
  have hi := (List.getElem?_eq_some_iff.1 hs).1
  have hl := h.len
  have ho := h.ord
  obtain ⟨hL, hR⟩ := h.side hs hk
  rw [h.cut hs, List.pairwise_append, List.pairwise_cons] at ho
  obtain ⟨o1, ⟨o2, o3⟩, o4⟩ := ho
  obtain ⟨xt, hxt⟩ := List.exists_mem_of_ne_nil _ ht0
  obtain ⟨xu, hxu⟩ := List.exists_mem_of_ne_nil _ hu0
  refine ⟨by rw [List.length_append, List.length_append, List.length_cons, List.length_cons, List.length_cons, List.length_take, List.length_drop, List.length_take, List.length_drop]; omega, ?_, fun v hv => ?_⟩
  · have e : mix (keys.take i ++ κ :: keys.drop i) (subs.take i ++ t :: u :: subs.drop (i + 1)) = mixL (keys.take i) (subs.take i) ++ .s t :: .k κ :: .s u :: mixR (keys.drop i) (subs.drop (i + 1)) :=
      mix_cut _ _ (κ :: keys.drop i) t (u :: subs.drop (i + 1)) (by rw [List.length_take, List.length_take]; omega) (by rw [List.length_cons, List.length_cons, List.length_drop, List.length_drop]; omega)
    rw [e, List.pairwise_append, List.pairwise_cons, List.pairwise_cons, List.pairwise_cons]
    refine ⟨o1, ⟨fun a ha => ?_, fun a ha => ?_, fun a ha => It.R_more (o2 a ha) (hR a ha) hu, o3⟩, fun a ha b hb => ?_⟩
    · rcases List.mem_cons.1 ha with rfl | ha
      · exact htκ
      · rcases List.mem_cons.1 ha with rfl | ha
        · intro x hx y hy
          have := htκ x hx
          have := hκu y hy
          omega
        · exact It.R_more (o2 a ha) (hR a ha) ht
    · rcases List.mem_cons.1 ha with rfl | ha
      · exact hκu
      · have h1 := It.R_more (o2 a ha) (hR a ha) hu
        cases a with
        | s v =>
          intro y hy
          have := h1 xu hxu y hy
          have := hκu xu hxu
          omega
        | k κ' =>
          have := h1 xu hxu
          have := hκu xu hxu
          show κ.toNat < κ'.toNat
          omega
    · rcases List.mem_cons.1 hb with rfl | hb
      · exact It.R_less (o4 a ha _ (by simp)) (hL a ha) ht
      · rcases List.mem_cons.1 hb with rfl | hb
        · have h1 := It.R_less (o4 a ha _ (by simp)) (hL a ha) ht
          cases a with
          | s v =>
            intro y hy
            have := h1 y hy xt hxt
            have := htκ xt hxt
            omega
          | k κ' =>
            have := h1 xt hxt
            have := htκ xt hxt
            show κ'.toNat < κ.toNat
            omega
        · rcases List.mem_cons.1 hb with rfl | hb
          · exact It.R_less (o4 a ha _ (by simp)) (hL a ha) hu
          · exact o4 a ha b (by simp [hb])
  · rcases List.mem_append.1 hv with hv | hv
    · exact h.all v (List.mem_of_mem_take hv)
    · rcases List.mem_cons.1 hv with rfl | hv
      · exact hpt
      · rcases List.mem_cons.1 hv with rfl | hv
        · exact hpu
        · exact h.all v (List.mem_of_mem_drop hv)
theorem InN.halve {ks1 ks2 : List UInt64} {κ : UInt64} {ss1 ss2 : List Sb} (h : InN P (ks1 ++ κ :: ks2) (ss1 ++ ss2)) (hl : ss1.length = ks1.length + 1) :
    InN P ks1 ss1 ∧ InN P ks2 ss2 ∧ (∀ x ∈ flatL ss1, x.1.toNat < κ.toNat) ∧ (∀ x ∈ flatL ss2, κ.toNat ≤ x.1.toNat) := by
  have h0 := h.len
  have ho := h.ord
  rw [mix_join _ _ _ _ _ hl, List.pairwise_append, List.pairwise_cons] at ho
  obtain ⟨o1, ⟨o2, o3⟩, o4⟩ := ho
  rw [List.length_append, List.length_append, List.length_cons] at h0
  refine ⟨⟨hl, o1, fun s hs => h.all s (by simp [hs])⟩, ⟨by omega, o3, fun s hs => h.all s (by simp [hs])⟩, fun x hx => ?_, fun x hx => ?_⟩
  · obtain ⟨t, ht, hx⟩ := List.mem_flatMap.1 hx
    exact o4 (.s t) ((mix_subs ks1 ss1).subset (List.mem_map.2 ⟨t, ht, rfl⟩)) (.k κ) (by simp) x hx
  · obtain ⟨t, ht, hx⟩ := List.mem_flatMap.1 hx
    exact o2 (.s t) ((mix_subs ks2 ss2).subset (List.mem_map.2 ⟨t, ht, rfl⟩)) x hx
theorem mix_above {κ : UInt64} : ∀ {ks : List UInt64} {ss : List Sb}, ss.length = ks.length + 1 → (mix ks ss).Pairwise It.R → (∀ s ∈ ss, s.l ≠ []) → (∀ x ∈ flatL ss, κ.toNat ≤ x.1.toNat) → ∀ κ' ∈ ks, κ.toNat < κ'.toNat
  | [], _, _, _, _, _ => by simp
  | _ :: _, [], h, _, _, _ => by simp at h
  | κ1 :: ks, t :: ss, h, hp, h0, hx => by
    have h1 : It.R (.s t) (.k κ1) := (List.pairwise_cons.1 hp).1 (.k κ1) (by simp)
    have h2 := (List.pairwise_cons.1 (List.pairwise_cons.1 hp).2).2
    intro κ' hk
    rcases List.mem_cons.1 hk with rfl | hk
    · obtain ⟨x, hxt⟩ := List.exists_mem_of_ne_nil _ (h0 t (by simp))
      have := h1 x hxt
      have := hx x (by rw [flatL_cons]; simp [hxt])
      omega
    · exact mix_above (by simpa using h) h2 (fun s hs => h0 s (by simp [hs])) (fun x hx' => hx x (by rw [flatL_cons]; simp [hx'])) κ' hk
theorem mix_below {κ : UInt64} : ∀ {ks : List UInt64} {ss : List Sb}, ss.length = ks.length + 1 → (mix ks ss).Pairwise It.R → (∀ s ∈ ss, s.l ≠ []) → (∀ x ∈ flatL ss, x.1.toNat < κ.toNat) → ∀ κ' ∈ ks, κ'.toNat < κ.toNat
  | [], _, _, _, _, _ => by simp
  | _ :: _, [], h, _, _, _ => by simp at h
  | _ :: _, [_], h, _, _, _ => by simp at h
  | κ1 :: ks, t :: u :: ss, h, hp, h0, hx => by
    have h2 := (List.pairwise_cons.1 hp).2
    have h1 : It.R (.k κ1) (.s u) := (List.pairwise_cons.1 h2).1 (.s u) ((mix_subs ks (u :: ss)).subset (by simp))
    have h3 := (List.pairwise_cons.1 h2).2
    intro κ' hk
    rcases List.mem_cons.1 hk with rfl | hk
    · obtain ⟨x, hxt⟩ := List.exists_mem_of_ne_nil _ (h0 u (by simp))
      have := h1 x hxt
      have := hx x (by rw [flatL_cons, flatL_cons]; simp [hxt])
      omega
    · exact mix_below (by simpa using h) h3 (fun s hs => h0 s (by simp [hs])) (fun x hx' => hx x (by rw [flatL_cons]; simp [hx'])) κ' hk
theorem InN.join {ks1 ks2 : List UInt64} {κ : UInt64} {ss1 ss2 : List Sb} (h1 : InN P ks1 ss1) (h2 : InN P ks2 ss2) (n1 : ∀ s ∈ ss1, s.l ≠ []) (n2 : ∀ s ∈ ss2, s.l ≠ []) (hl : ∀ x ∈ flatL ss1, x.1.toNat < κ.toNat) (hr : ∀ x ∈ flatL ss2, κ.toNat ≤ x.1.toNat) :
    InN P (ks1 ++ κ :: ks2) (ss1 ++ ss2) := by
  have a1 := h1.len
  have a2 := h2.len
  have hb := mix_below h1.len h1.ord n1 hl
  have ha := mix_above h2.len h2.ord n2 hr
  refine ⟨by rw [List.length_append, List.length_append, List.length_cons]; omega, ?_, fun s hs => ?_⟩
  · rw [mix_join _ _ _ _ _ h1.len, List.pairwise_append, List.pairwise_cons]
    have fl : ∀ it ∈ mix ks1 ss1, It.R it (.k κ) := fun it hit => by
      rcases mem_mix hit with ⟨κ', hk, rfl⟩ | ⟨t, ht, rfl⟩
      · exact hb κ' hk
      · exact fun x hx => hl x (List.mem_flatMap.2 ⟨t, ht, hx⟩)
    have fr : ∀ it ∈ mix ks2 ss2, It.R (.k κ) it := fun it hit => by
      rcases mem_mix hit with ⟨κ', hk, rfl⟩ | ⟨t, ht, rfl⟩
      · exact ha κ' hk
      · exact fun x hx => hr x (List.mem_flatMap.2 ⟨t, ht, hx⟩)
    refine ⟨h1.ord, ⟨fr, h2.ord⟩, fun a hma b hmb => ?_⟩
    rcases List.mem_cons.1 hmb with rfl | hmb
    · exact fl a hma
    · have q1 := fl a hma
      have q2 := fr b hmb
      cases a with
      | s t =>
        cases b with
        | s u => exact fun x hx y hy => by have := q1 x hx; have := q2 y hy; omega
        | k κ' => exact fun x hx => by have := q1 x hx; have : κ.toNat < κ'.toNat := q2; omega
      | k κ1 =>
        cases b with
        | s u => exact fun y hy => by have : κ1.toNat < κ.toNat := q1; have := q2 y hy; omega
        | k κ' => show κ1.toNat < κ'.toNat; have : κ1.toNat < κ.toNat := q1; have : κ.toNat < κ'.toNat := q2; omega
  · rcases List.mem_append.1 hs with hs | hs
    · exact h1.all s hs
    · exact h2.all s hs
end
end Go.Proofs.YtfljlcfmdcepnaaGreatDoor
