/-
  Trees (plain): a key is dropped: two pages side by side are made even, or are one.
  Trees (plain): two pages side by side, made even.
-/
import Derived.Test.YtfljlcfmdcepnaaGreatDoorJTrW
namespace Go.Proofs.YtfljlcfmdcepnaaGreatDoor
open Go.RowKit
open UK (str BytesAt nth Only)
def evenN (a b : Nd) (κ : UInt64) : Nd × Nd × UInt64 × Bool :=
  if a.leaf then
    if a.keys.length + b.keys.length ≤ 30 then (⟨true, a.keys ++ b.keys, a.vals ++ b.vals, []⟩, b, 0, true)
    else (⟨true, (a.keys ++ b.keys).take ((a.keys ++ b.keys).length / 2), (a.vals ++ b.vals).take ((a.keys ++ b.keys).length / 2), []⟩, ⟨true, (a.keys ++ b.keys).drop ((a.keys ++ b.keys).length / 2), (a.vals ++ b.vals).drop ((a.keys ++ b.keys).length / 2), []⟩, (a.keys ++ b.keys).getD ((a.keys ++ b.keys).length / 2) 0, false)
  else
    if (a.kids ++ b.kids).length ≤ 40 then (⟨false, a.keys ++ κ :: b.keys, [], a.kids ++ b.kids⟩, b, 0, true)
    else (⟨false, (a.keys ++ κ :: b.keys).take ((a.kids ++ b.kids).length / 2 - 1), [], (a.kids ++ b.kids).take ((a.kids ++ b.kids).length / 2)⟩, ⟨false, (a.keys ++ κ :: b.keys).drop ((a.kids ++ b.kids).length / 2), [], (a.kids ++ b.kids).drop ((a.kids ++ b.kids).length / 2)⟩, (a.keys ++ κ :: b.keys).getD ((a.kids ++ b.kids).length / 2 - 1) 0, false)
def pairN (n i : Nat) : Nat := if i = n - 1 then i - 1 else i
inductive DropS (k : UInt64) : Nat → AP → Nat → AP → Bool → Bool → Prop
  | none {A : AP} {pg : Nat} {ks vs : List UInt64} : ndAt A pg = some ⟨true, ks, vs, []⟩ → k ∉ ks → DropS k 0 A pg A false false
  | leaf {A : AP} {pg i : Nat} {ks vs : List UInt64} : ndAt A pg = some ⟨true, ks, vs, []⟩ → ks[i]? = some k → DropS k 0 A pg (A.wrote pg (encN (A.c pg) ⟨true, ks.take i ++ ks.drop (i + 1), vs.take i ++ vs.drop (i + 1), []⟩)) true (decide (ks.length - 1 < 15))
  | rich {d : Nat} {A B : AP} {pg i c : Nat} {keys : List UInt64} {kids : List Nat} {was : Bool} : ndAt A pg = some ⟨false, keys, [], kids⟩ → KidIx keys k i → kids[i]? = some c → DropS k d A c B was false → DropS k (d + 1) A pg B was false
  | even {d : Nat} {A B1 B2 : AP} {pg i c m ca cb : Nat} {keys : List UInt64} {kids : List Nat} {was : Bool} {a b a' b' : Nd} {κ κ' : UInt64} : ndAt A pg = some ⟨false, keys, [], kids⟩ → KidIx keys k i → kids[i]? = some c → DropS k d A c B1 was true →
      m = pairN kids.length i → kids[m]? = some ca → kids[m + 1]? = some cb → keys[m]? = some κ → ndAt B1 ca = some a → ndAt B1 cb = some b → evenN a b κ = (a', b', κ', false) → B2 = (B1.wrote ca (encN (B1.c ca) a')).wrote cb (encN ((B1.wrote ca (encN (B1.c ca) a')).c cb) b') →
      DropS k (d + 1) A pg (B2.wrote pg (encN (B2.c pg) ⟨false, keys.set m κ', [], kids⟩)) was (decide (kids.length < 20))
  | join {d : Nat} {A B1 B2 : AP} {pg i c m ca cb : Nat} {keys : List UInt64} {kids : List Nat} {was : Bool} {a b a' b' : Nd} {κ κ' : UInt64} : ndAt A pg = some ⟨false, keys, [], kids⟩ → KidIx keys k i → kids[i]? = some c → DropS k d A c B1 was true →
      m = pairN kids.length i → kids[m]? = some ca → kids[m + 1]? = some cb → keys[m]? = some κ → ndAt B1 ca = some a → ndAt B1 cb = some b → evenN a b κ = (a', b', κ', true) → B2 = (B1.wrote ca (encN (B1.c ca) a')).give cb → kids.length ≠ 2 →
      DropS k (d + 1) A pg (B2.wrote pg (encN (B2.c pg) ⟨false, keys.take m ++ keys.drop (m + 1), [], kids.take (m + 1) ++ kids.drop (m + 2)⟩)) was (decide (kids.length - 1 < 20))
  | lift {d : Nat} {A B1 B2 : AP} {pg i c m ca cb : Nat} {keys : List UInt64} {kids : List Nat} {was : Bool} {a b a' b' : Nd} {κ κ' : UInt64} : ndAt A pg = some ⟨false, keys, [], kids⟩ → KidIx keys k i → kids[i]? = some c → DropS k d A c B1 was true →
      m = pairN kids.length i → kids[m]? = some ca → kids[m + 1]? = some cb → keys[m]? = some κ → ndAt B1 ca = some a → ndAt B1 cb = some b → evenN a b κ = (a', b', κ', true) → B2 = (B1.wrote ca (encN (B1.c ca) a')).give cb → kids.length = 2 →
      DropS k (d + 1) A pg ((B2.wrote pg (encN (B2.c pg) a')).give ca) was true
structure ChgD (A B : AP) (ps gone : List Nat) : Prop where
  reach : A.Reach B
  has : ∀ p, B.Has p ↔ A.Has p ∧ p ∉ gone
  same : ∀ p, B.Has p → p ∉ ps → B.c p = A.c p
  rooms : A.rooms ≤ B.rooms ∧ (A.op = none → B.rooms = A.rooms + gone.length)
  clen : ∀ p, B.Has p → (B.c p).length = 504
  shut : B.op = none ↔ A.op = none
theorem wrote_op (A : AP) (p : Nat) (s : List UInt8) : (A.wrote p s).op = none ↔ A.op = none := by
  show (A.keep p).op = none ↔ _
  unfold AP.keep
  cases h : A.op <;> simp
theorem give_op (A : AP) (p : Nat) : (A.give p).op = none ↔ A.op = none := by
  unfold AP.give
  cases A.op <;> simp
theorem ChgD.trans {A B C : AP} {ps ps2 gone gone2 : List Nat} (h : ChgD A B ps gone) (g : ChgD B C ps2 gone2) (hs : ∀ p ∈ ps2, p ∈ ps) : ChgD A C ps (gone ++ gone2) := by
  refine ⟨h.reach.trans g.reach, fun p => ?_, fun p hp hn => ?_, ⟨Nat.le_trans h.rooms.1 g.rooms.1, fun ho => ?_⟩, g.clen, g.shut.trans h.shut⟩
  · rw [g.has, h.has, List.mem_append]
    constructor
    · rintro ⟨⟨a, b⟩, c⟩; exact ⟨a, fun d => by rcases d with d | d; exact b d; exact c d⟩
    · rintro ⟨a, b⟩; exact ⟨⟨a, fun d => b (.inl d)⟩, fun d => b (.inr d)⟩
  · rw [g.same p hp (fun hm => hn (hs p hm)), h.same p ((g.has p).1 hp).1 hn]
  · have := h.rooms.2 ho
    have := g.rooms.2 (h.shut.2 ho)
    rw [List.length_append]
    omega
theorem ChgD.wider {A B : AP} {ps ps2 gone : List Nat} (h : ChgD A B ps gone) (hs : ∀ p ∈ ps, p ∈ ps2) : ChgD A B ps2 gone := ⟨h.reach, h.has, fun p hp hn => h.same p hp (fun hm => hn (hs p hm)), h.rooms, h.clen, h.shut⟩
theorem ChgD.good {A B : AP} {ps gone : List Nat} (h : ChgD A B ps gone) (g : A.Good) : B.Good := h.reach.good g
theorem ChgD.refl {A : AP} (hc : ∀ p, A.Has p → (A.c p).length = 504) (ps : List Nat) : ChgD A A ps [] := ⟨AP.Reach.refl A, fun p => by simp, fun _ _ _ => rfl, ⟨Nat.le_refl _, fun _ => rfl⟩, hc, Iff.rfl⟩
theorem ChgD.wrote {A : AP} {pg : Nat} {s : List UInt8} (hp : A.Has pg) (hc : ∀ p, A.Has p → (A.c p).length = 504) (hs : s.length = 504) : ChgD A (A.wrote pg s) [pg] [] := by
  refine ⟨(AP.Reach.refl A).wrote hp s, fun p => by rw [AP.wrote_has]; simp, fun p _ hn => ?_, ⟨Nat.le_refl _, fun _ => rfl⟩, fun p hp' => ?_, wrote_op A pg s⟩
  · rw [AP.wrote_c, if_neg]
    simp at hn
    exact fun e => hn e.symm
  · rw [AP.wrote_c]
    split
    · exact hs
    · exact hc p (AP.wrote_has.1 hp')
theorem ChgD.give {A : AP} {pg : Nat} (hg : A.Good) (hp : A.Has pg) (hc : ∀ p, A.Has p → (A.c p).length = 504) : ChgD A (A.give pg) [] [pg] := by
  obtain ⟨_, h2, h3, h4⟩ := hg.give hp
  refine ⟨(AP.Reach.refl A).give hp, fun p => by rw [h2]; simp, fun p _ _ => by rw [AP.give_c], ⟨h3, h4⟩, fun p hp' => ?_, give_op A pg⟩
  rw [AP.give_c]
  exact hc p ((h2 p).1 hp').1
theorem Tr.chgD {A B : AP} {ps gone : List Nat} {d : Nat} {s : Sb} (hT : Tr (ndAt A) d s) (hc : ChgD A B ps gone) (hh : ∀ p ∈ s.ps, B.Has p) (hd : ∀ p ∈ s.ps, p ∉ ps) : Tr (ndAt B) d s ∧ (Fat (ndAt A) s.pg → Fat (ndAt B) s.pg) := by
  have hsame : ∀ p ∈ s.ps, ndAt B p = ndAt A p := fun p hp => by unfold ndAt; rw [hc.same p (hh p hp) (hd p hp)]
  refine ⟨Tr.same d s hT hsame, fun ⟨x, h1, h2⟩ => ⟨x, (hsame _ hT.mem).trans h1, h2⟩⟩
/-! ## two kids side by side -/
theorem cut_two {α : Type} {l : List α} {m : Nat} {a b : α} (h : l[m]? = some a) (h2 : l[m + 1]? = some b) : l = l.take m ++ a :: b :: l.drop (m + 2) := by
  have h1 := cut_at h
  have h3 : (l.drop (m + 1))[0]? = some b := by rw [List.getElem?_drop]; exact h2
  have h4 := cut_at h3
  rw [List.take_zero, List.nil_append, List.drop_drop] at h4
  conv => lhs; rw [h1, h4]
theorem InN.cut2 {P : Sb → Prop} {keys : List UInt64} {subs : List Sb} {m : Nat} {a b : Sb} {κ : UInt64} (h : InN P keys subs) (ha : subs[m]? = some a) (hb : subs[m + 1]? = some b) (hk : keys[m]? = some κ) :
    mix keys subs = mixL (keys.take m) (subs.take m) ++ .s a :: .k κ :: .s b :: mixR (keys.drop (m + 1)) (subs.drop (m + 2)) := by
  have hl := h.len
  have h1 := (List.getElem?_eq_some_iff.1 hb).1
  conv => lhs; rw [cut_two ha hb, cut_at hk]
  exact mix_cut _ _ (κ :: keys.drop (m + 1)) a (b :: subs.drop (m + 2)) (by rw [List.length_take, List.length_take]; omega) (by rw [List.length_cons, List.length_cons, List.length_drop, List.length_drop]; omega)
theorem It.R_two {it : It} {a b c : Sb} (h1 : It.R it (.s a)) (h2 : It.R it (.s b)) (hc : ∀ x ∈ c.l, x ∈ a.l ∨ x ∈ b.l) : It.R it (.s c) := by
  cases it with
  | s u =>
    intro x hx y hy
    rcases hc y hy with h | h
    · exact h1 x hx y h
    · exact h2 x hx y h
  | k κ =>
    intro y hy
    rcases hc y hy with h | h
    · exact h1 y h
    · exact h2 y h
theorem It.R_two' {it : It} {a b c : Sb} (h1 : It.R (.s a) it) (h2 : It.R (.s b) it) (hc : ∀ x ∈ c.l, x ∈ a.l ∨ x ∈ b.l) : It.R (.s c) it := by
  cases it with
  | s u =>
    intro x hx y hy
    rcases hc x hx with h | h
    · exact h1 x h y hy
    · exact h2 x h y hy
  | k κ =>
    intro y hy
    rcases hc y hy with h | h
    · exact h1 y h
    · exact h2 y h
section
variable {P : Sb → Prop} {keys : List UInt64} {subs : List Sb} {m : Nat} {a b : Sb} {κ : UInt64}
theorem InN.one (h : InN P keys subs) (ha : subs[m]? = some a) (hb : subs[m + 1]? = some b) (hk : keys[m]? = some κ) {c : Sb} (hc : c.l = a.l ++ b.l) (hp : P c) : InN P (keys.take m ++ keys.drop (m + 1)) (subs.take m ++ c :: subs.drop (m + 2)) := by
  have hl := h.len
  have h1 := (List.getElem?_eq_some_iff.1 hb).1
  have ho := h.ord
  rw [h.cut2 ha hb hk] at ho
  simp only [List.pairwise_append, List.pairwise_cons] at ho
  obtain ⟨o1, ⟨oa, ok, ob, o2⟩, o3⟩ := ho
  have hcm : ∀ x ∈ c.l, x ∈ a.l ∨ x ∈ b.l := fun x hx => by rw [hc] at hx; exact List.mem_append.1 hx
  refine ⟨by rw [List.length_append, List.length_append, List.length_cons, List.length_take, List.length_drop, List.length_take, List.length_drop]; omega, ?_, fun u hu => ?_⟩
  · rw [mix_cut _ _ _ _ _ (by rw [List.length_take, List.length_take]; omega) (by rw [List.length_drop, List.length_drop]; omega), List.pairwise_append, List.pairwise_cons]
    refine ⟨o1, ⟨fun it hit => It.R_two' (oa it (by simp [hit])) (ob it hit) hcm, o2⟩, fun it hit it' hit' => ?_⟩
    rcases List.mem_cons.1 hit' with rfl | hit'
    · exact It.R_two (o3 it hit _ (by simp)) (o3 it hit _ (by simp)) hcm
    · exact o3 it hit it' (by simp [hit'])
  · rcases List.mem_append.1 hu with hu | hu
    · exact h.all u (List.mem_of_mem_take hu)
    · rcases List.mem_cons.1 hu with rfl | hu
      · exact hp
      · exact h.all u (List.mem_of_mem_drop hu)
theorem InN.share (h : InN P keys subs) (ha : subs[m]? = some a) (hb : subs[m + 1]? = some b) (hk : keys[m]? = some κ) {c e : Sb} {κ' : UInt64} (hce : c.l ++ e.l = a.l ++ b.l) (hc0 : c.l ≠ []) (he0 : e.l ≠ []) (hcκ : ∀ x ∈ c.l, x.1.toNat < κ'.toNat) (hκe : ∀ x ∈ e.l, κ'.toNat ≤ x.1.toNat) (hpc : P c) (hpe : P e) :
    InN P (keys.set m κ') (subs.take m ++ c :: e :: subs.drop (m + 2)) := by
  have hl := h.len
  have h1 := (List.getElem?_eq_some_iff.1 hb).1
  have hkl := (List.getElem?_eq_some_iff.1 hk).1
  have ho := h.ord
  rw [h.cut2 ha hb hk] at ho
  simp only [List.pairwise_append, List.pairwise_cons] at ho
  obtain ⟨o1, ⟨oa, ok, ob, o2⟩, o3⟩ := ho
  have hcm : ∀ x ∈ c.l, x ∈ a.l ∨ x ∈ b.l := fun x hx => List.mem_append.1 (by rw [← hce]; simp [hx])
  have hem : ∀ x ∈ e.l, x ∈ a.l ∨ x ∈ b.l := fun x hx => List.mem_append.1 (by rw [← hce]; simp [hx])
  obtain ⟨xc, hxc⟩ := List.exists_mem_of_ne_nil _ hc0
  obtain ⟨xe, hxe⟩ := List.exists_mem_of_ne_nil _ he0
  have ek : keys.set m κ' = keys.take m ++ κ' :: keys.drop (m + 1) := by rw [List.set_eq_take_append_cons_drop, if_pos hkl]
  have La : ∀ it ∈ mixL (keys.take m) (subs.take m), It.R it (.s c) ∧ It.R it (.k κ') ∧ It.R it (.s e) := fun it hit => by
    have q1 := It.R_two (o3 it hit _ (by simp)) (o3 it hit (.s b) (by simp)) hcm
    have q2 := It.R_two (o3 it hit (.s a) (by simp)) (o3 it hit (.s b) (by simp)) hem
    refine ⟨q1, ?_, q2⟩
    cases it with
    | s u => exact fun x hx => by have := q1 x hx xc hxc; have := hcκ xc hxc; omega
    | k κ1 =>
      have := q1 xc hxc
      have := hcκ xc hxc
      show κ1.toNat < κ'.toNat
      omega
  have Ra : ∀ it ∈ mixR (keys.drop (m + 1)) (subs.drop (m + 2)), It.R (.s c) it ∧ It.R (.k κ') it ∧ It.R (.s e) it := fun it hit => by
    have q1 := It.R_two' (oa it (by simp [hit])) (ob it hit) hcm
    have q2 := It.R_two' (oa it (by simp [hit])) (ob it hit) hem
    refine ⟨q1, ?_, q2⟩
    cases it with
    | s u => exact fun x hx => by have := q2 xe hxe x hx; have := hκe xe hxe; omega
    | k κ1 =>
      have := q2 xe hxe
      have := hκe xe hxe
      show κ'.toNat < κ1.toNat
      omega
  rw [ek]
  refine ⟨by rw [List.length_append, List.length_append, List.length_cons, List.length_cons, List.length_cons, List.length_take, List.length_drop, List.length_take, List.length_drop]; omega, ?_, fun u hu => ?_⟩
  · rw [mix_cut _ _ (κ' :: keys.drop (m + 1)) c (e :: subs.drop (m + 2)) (by rw [List.length_take, List.length_take]; omega) (by rw [List.length_cons, List.length_cons, List.length_drop, List.length_drop]; omega)]
    show (mixL (keys.take m) (subs.take m) ++ .s c :: .k κ' :: .s e :: mixR (keys.drop (m + 1)) (subs.drop (m + 2))).Pairwise It.R
    simp only [List.pairwise_append, List.pairwise_cons]
    refine ⟨o1, ⟨fun it hit => ?_, fun it hit => ?_, fun it hit => (Ra it hit).2.2, o2⟩, fun it hit it' hit' => ?_⟩
    · rcases List.mem_cons.1 hit with rfl | hit
      · exact hcκ
      · rcases List.mem_cons.1 hit with rfl | hit
        · exact fun x hx y hy => by have := hcκ x hx; have := hκe y hy; omega
        · exact (Ra it hit).1
    · rcases List.mem_cons.1 hit with rfl | hit
      · exact hκe
      · exact (Ra it hit).2.1
    · rcases List.mem_cons.1 hit' with rfl | hit'
      · exact (La it hit).1
      · rcases List.mem_cons.1 hit' with rfl | hit'
        · exact (La it hit).2.1
        · rcases List.mem_cons.1 hit' with rfl | hit'
          · exact (La it hit).2.2
          · exact o3 it hit it' (by simp [hit'])
  · rcases List.mem_append.1 hu with hu | hu
    · exact h.all u (List.mem_of_mem_take hu)
    · rcases List.mem_cons.1 hu with rfl | hu
      · exact hpc
      · rcases List.mem_cons.1 hu with rfl | hu
        · exact hpe
        · exact h.all u (List.mem_of_mem_drop hu)
end
end Go.Proofs.YtfljlcfmdcepnaaGreatDoor
namespace Go.Proofs.YtfljlcfmdcepnaaGreatDoor
open Go.RowKit
open UK (str BytesAt nth Only)
theorem Sorted.app {a b : List UInt64} (ha : Sorted a) (hb : Sorted b) (h : ∀ x ∈ a, ∀ y ∈ b, x.toNat < y.toNat) : Sorted (a ++ b) := by
  intro i j x y hij hx hy
  by_cases h1 : j < a.length
  · rw [List.getElem?_append_left (by omega)] at hx
    rw [List.getElem?_append_left h1] at hy
    exact ha i j x y hij hx hy
  · rw [List.getElem?_append_right (by omega)] at hy
    by_cases h2 : i < a.length
    · rw [List.getElem?_append_left h2] at hx
      exact h x (List.mem_of_getElem? hx) y (List.mem_of_getElem? hy)
    · rw [List.getElem?_append_right (by omega)] at hx
      exact hb (i - a.length) (j - a.length) x y (by omega) hx hy
theorem mem_zip {ks vs : List UInt64} (hv : vs.length = ks.length) {x : UInt64} (hx : x ∈ ks) : ∃ v, (x, v) ∈ ks.zip vs := by
  obtain ⟨i, hi, e⟩ := List.getElem_of_mem hx
  refine ⟨vs[i]'(by omega), ?_⟩
  rw [← e]
  exact List.mem_of_getElem (i := i) (h := by rw [List.length_zip]; omega) (by rw [List.getElem_zip])
theorem zip_take_drop : ∀ (ks vs : List UInt64) (n : Nat), (ks.take n).zip (vs.take n) ++ (ks.drop n).zip (vs.drop n) = ks.zip vs
  | ks, vs, 0 => by simp
  | [], vs, n + 1 => by simp
  | k :: ks, [], n + 1 => by simp
  | k :: ks, v :: vs, n + 1 => by
    have := zip_take_drop ks vs n
    simp only [List.take_succ_cons, List.drop_succ_cons, List.zip_cons_cons, List.cons_append, this]
theorem zip_ne {ks vs : List UInt64} (hv : vs.length = ks.length) (h : 0 < ks.length) : ks.zip vs ≠ [] := fun e => by
  have := congrArg List.length e
  rw [List.length_zip, List.length_nil] at this
  omega
def Enough (xa xb : Nd) : Prop := (xa.leaf = true → 29 ≤ xa.keys.length + xb.keys.length) ∧ (xa.leaf = false → 31 ≤ xa.kids.length + xb.kids.length)
theorem even_tr {f : Nat → Option Nd} {d : Nat} {a b : Sb} {κ κ' : UInt64} {xa xb x y : Nd} {one : Bool} (ha : Tr f d a) (hb : Tr f d b) (hab : (a.ps ++ b.ps).Nodup) (hxa : f a.pg = some xa) (hxb : f b.pg = some xb) (fa : Fits xa) (fb : Fits xb)
    (hl : ∀ x ∈ a.l, x.1.toNat < κ.toNat) (hr : ∀ x ∈ b.l, κ.toNat ≤ x.1.toNat) (hn : Enough xa xb) (he : evenN xa xb κ = (x, y, κ', one)) :
    (one = true → Fits x ∧ FatN x ∧ ∀ g : Nat → Option Nd, g a.pg = some x → (∀ p ∈ a.ps ++ b.ps, p ≠ a.pg → p ≠ b.pg → g p = f p) → ∃ c, Tr g d c ∧ c.pg = a.pg ∧ c.l = a.l ++ b.l ∧ c.ps.Nodup ∧ ∀ p, p ∈ c.ps ↔ p ∈ a.ps ++ b.ps ∧ p ≠ b.pg) ∧
    (one = false → Fits x ∧ Fits y ∧ FatN x ∧ FatN y ∧ ∀ g : Nat → Option Nd, g a.pg = some x → g b.pg = some y → (∀ p ∈ a.ps ++ b.ps, p ≠ a.pg → p ≠ b.pg → g p = f p) → ∃ c e, Tr g d c ∧ Tr g d e ∧ c.pg = a.pg ∧ e.pg = b.pg ∧ c.l ++ e.l = a.l ++ b.l ∧ c.l ≠ [] ∧ e.l ≠ [] ∧
      (∀ x ∈ c.l, x.1.toNat < κ'.toNat) ∧ (∀ x ∈ e.l, κ'.toNat ≤ x.1.toNat) ∧ (c.ps ++ e.ps).Nodup ∧ ∀ p, p ∈ c.ps ++ e.ps ↔ p ∈ a.ps ++ b.ps) := by
  cases d with
  | zero =>
    obtain ⟨ka, va, a1, a2, a3, a4, a5⟩ := ha
    obtain ⟨kb, vb, b1, b2, b3, b4, b5⟩ := hb
    rw [a1] at hxa
    rw [b1] at hxb
    obtain rfl := Option.some.inj hxa
    obtain rfl := Option.some.inj hxb
    obtain ⟨fa1, _, _⟩ := fa.leaf rfl
    obtain ⟨fb1, _, _⟩ := fb.leaf rfl
    have h29 := hn.1 rfl
    dsimp only at fa1 fb1 h29
    have hpg : a.pg ≠ b.pg := fun e => by rw [a5, b5, e] at hab; simp at hab
    have hsort : Sorted (ka ++ kb) := a3.app b3 (fun u hu w hw => by
      obtain ⟨v1, h1⟩ := mem_zip a2 hu
      obtain ⟨v2, h2⟩ := mem_zip b2 hw
      have := hl _ (a4 ▸ h1)
      have := hr _ (b4 ▸ h2)
      dsimp only at *
      omega)
    have hz : (ka ++ kb).zip (va ++ vb) = a.l ++ b.l := by rw [List.zip_append a2.symm, a4, b4]
    unfold evenN at he
    rw [if_pos rfl] at he
    dsimp only at he
    have hvl : (va ++ vb).length = (ka ++ kb).length := by rw [List.length_append, List.length_append]; omega
    have hkl : (ka ++ kb).length = ka.length + kb.length := List.length_append
    by_cases hc : ka.length + kb.length ≤ 30
    · rw [if_pos hc] at he
      obtain ⟨rfl, rfl, rfl, rfl⟩ : _ ∧ _ ∧ _ ∧ _ := by simpa using he
      refine ⟨fun _ => ⟨⟨fun _ => ⟨by dsimp only; omega, hvl, rfl⟩, (fun h => by cases h)⟩, ⟨fun _ => by dsimp only; omega, (fun h => by cases h)⟩, fun g hg _ => ⟨⟨a.pg, (ka ++ kb).zip (va ++ vb), [a.pg]⟩, ⟨_, _, hg, hvl, hsort, rfl, rfl⟩, rfl, hz, by simp, fun p => ?_⟩⟩, (fun h => by cases h)⟩
      rw [a5, b5]
      simp
      constructor
      · rintro rfl; exact ⟨.inl rfl, hpg⟩
      · rintro ⟨rfl | rfl, h⟩
        · rfl
        · exact absurd rfl h
    · rw [if_neg hc] at he
      obtain ⟨rfl, rfl, rfl, rfl⟩ : _ ∧ _ ∧ _ ∧ _ := by simpa only [Prod.mk.injEq] using he
      obtain ⟨n, hnn⟩ : ∃ n, (ka ++ kb).length / 2 = n := ⟨_, rfl⟩
      rw [hnn]
      have hh := half_lt (vs := va ++ vb) hsort (h := n) (by omega)
      have e1 : ((va ++ vb).take n).length = ((ka ++ kb).take n).length := by rw [List.length_take, List.length_take]; omega
      have e2 : ((va ++ vb).drop n).length = ((ka ++ kb).drop n).length := by rw [List.length_drop, List.length_drop]; omega
      have l1 : ((ka ++ kb).take n).length = n := by rw [List.length_take]; omega
      have l2 : ((ka ++ kb).drop n).length = ka.length + kb.length - n := by rw [List.length_drop]; omega
      refine ⟨(fun h => by cases h), fun _ => ⟨⟨fun _ => ⟨by dsimp only; omega, e1, rfl⟩, (fun h => by cases h)⟩, ⟨fun _ => ⟨by dsimp only; omega, e2, rfl⟩, (fun h => by cases h)⟩, ⟨fun _ => by dsimp only; omega, (fun h => by cases h)⟩, ⟨fun _ => by dsimp only; omega, (fun h => by cases h)⟩, fun g hg hg2 _ =>
        ⟨⟨a.pg, ((ka ++ kb).take n).zip ((va ++ vb).take n), [a.pg]⟩, ⟨b.pg, ((ka ++ kb).drop n).zip ((va ++ vb).drop n), [b.pg]⟩, ⟨_, _, hg, e1, hsort.take n, rfl, rfl⟩, ⟨_, _, hg2, e2, hsort.drop n, rfl, rfl⟩, rfl, rfl, (zip_take_drop _ _ _).trans hz, zip_ne e1 (by omega), zip_ne e2 (by omega), hh.1, hh.2, by simp [hpg], fun p => by rw [a5, b5]⟩⟩⟩
  | succ d =>
    obtain ⟨ka, sa, a1, a2, a3, a4⟩ := ha
    obtain ⟨kb, sb, b1, b2, b3, b4⟩ := hb
    rw [a1] at hxa
    rw [b1] at hxb
    obtain rfl := Option.some.inj hxa
    obtain rfl := Option.some.inj hxb
    obtain ⟨fa1, fa2, fa3, _, fa5⟩ := fa.inner rfl
    obtain ⟨fb1, fb2, fb3, _, fb5⟩ := fb.inner rfl
    have h31 := hn.2 rfl
    dsimp only at fa1 fa2 fa3 fa5 fb1 fb2 fb3 fb5 h31
    rw [List.length_map] at fa1 fa2 fa3 fb1 fb2 fb3
    rw [List.length_map, List.length_map] at h31
    rw [a4, b4] at hab
    have hpg : a.pg ≠ b.pg := fun e => (List.nodup_append.1 hab).2.2 a.pg (by simp) b.pg (by simp) e
    have hap : a.pg ∉ flatP sa := (List.nodup_cons.1 (List.nodup_append.1 hab).1).1
    have hbp : b.pg ∉ flatP sb := (List.nodup_cons.1 (List.nodup_append.1 hab).2.1).1
    have hap2 : a.pg ∉ flatP sb := fun h => (List.nodup_append.1 hab).2.2 a.pg (by simp) a.pg (by simp [h]) rfl
    have hbp2 : b.pg ∉ flatP sa := fun h => (List.nodup_append.1 hab).2.2 b.pg (by simp [h]) b.pg (by simp) rfl
    have ne1 : ∀ s ∈ sa, s.l ≠ [] := fun s hs h0 => by have := (a2.all s hs).1.many _ _ (a2.all s hs).2; rw [h0] at this; simp at this
    have ne2 : ∀ s ∈ sb, s.l ≠ [] := fun s hs h0 => by have := (b2.all s hs).1.many _ _ (b2.all s hs).2; rw [h0] at this; simp at this
    have hj := a2.join b2 (κ := κ) ne1 ne2 (by rw [← a3]; exact hl) (by rw [← b3]; exact hr)
    have hfl : flatL (sa ++ sb) = a.l ++ b.l := by rw [flatL_app, a3, b3]
    have hfp : flatP (sa ++ sb) = flatP sa ++ flatP sb := flatP_app _ _
    have hsl : (sa ++ sb).length = sa.length + sb.length := List.length_append
    have hml : (sa.map Sb.pg ++ sb.map Sb.pg).length = sa.length + sb.length := by rw [List.length_append, List.length_map, List.length_map]
    have hkl : (ka ++ κ :: kb).length = ka.length + kb.length + 1 := by rw [List.length_append, List.length_cons]; omega
    have hmp : sa.map Sb.pg ++ sb.map Sb.pg = (sa ++ sb).map Sb.pg := List.map_append.symm
    have hb32 : ∀ k ∈ sa.map Sb.pg ++ sb.map Sb.pg, k < 4294967296 := fun k hk => by
      rcases List.mem_append.1 hk with h | h
      · exact fa5 k h
      · exact fb5 k h
    have hkeep : ∀ g : Nat → Option Nd, (∀ p ∈ a.ps ++ b.ps, p ≠ a.pg → p ≠ b.pg → g p = f p) → InN (fun t => Tr g d t ∧ Fat g t.pg) (ka ++ κ :: kb) (sa ++ sb) := fun g hg => hj.imp (fun s hs ⟨hT, x, hx, hF⟩ => by
      have hps : ∀ p ∈ s.ps, g p = f p := fun p hp => by
        have hm : p ∈ flatP sa ++ flatP sb := by rw [← hfp]; exact mem_flatP hs hp
        refine hg p ?_ ?_ ?_
        · rw [a4, b4]
          rcases List.mem_append.1 hm with h | h
          · simp [h]
          · simp [h]
        · rintro rfl
          rcases List.mem_append.1 hm with h | h
          · exact hap h
          · exact hap2 h
        · rintro rfl
          rcases List.mem_append.1 hm with h | h
          · exact hbp2 h
          · exact hbp h
      exact ⟨Tr.same d s hT hps, x, (hps _ hT.mem).trans hx, hF⟩)
    have hnd : (a.pg :: b.pg :: flatP (sa ++ sb)).Nodup := by
      rw [hfp]
      refine List.nodup_cons.2 ⟨?_, List.nodup_cons.2 ⟨?_, ?_⟩⟩
      · simp [hpg, hap, hap2]
      · simp [hbp, hbp2]
      · have := hab
        rw [List.nodup_append] at this ⊢
        obtain ⟨q1, q2, q3⟩ := this
        exact ⟨(List.nodup_cons.1 q1).2, (List.nodup_cons.1 q2).2, fun u hu w hw => q3 u (by simp [hu]) w (by simp [hw])⟩
    unfold evenN at he
    rw [if_neg (by simp)] at he
    dsimp only at he
    by_cases hc : (sa.map Sb.pg ++ sb.map Sb.pg).length ≤ 40
    · rw [if_pos hc] at he
      obtain ⟨rfl, rfl, rfl, rfl⟩ : _ ∧ _ ∧ _ ∧ _ := by simpa only [Prod.mk.injEq] using he
      refine ⟨fun _ => ⟨⟨(fun h => by cases h), fun _ => ⟨by dsimp only; omega, by dsimp only; omega, hc, rfl, hb32⟩⟩, ⟨(fun h => by cases h), fun _ => by dsimp only; omega⟩, fun g hg hs => ⟨⟨a.pg, flatL (sa ++ sb), a.pg :: flatP (sa ++ sb)⟩, ⟨_, _, by rw [← hmp]; exact hg, hkeep g hs, rfl, rfl⟩, rfl, hfl, ?_, fun p => ?_⟩⟩, (fun h => by cases h)⟩
      · have := List.nodup_cons.1 hnd
        exact List.nodup_cons.2 ⟨fun h => this.1 (by simp [h]), (List.nodup_cons.1 this.2).2⟩
      · rw [a4, b4]
        dsimp only
        rw [hfp]
        simp only [List.mem_cons, List.mem_append]
        constructor
        · rintro (rfl | h | h)
          · exact ⟨.inl (.inl rfl), hpg⟩
          · exact ⟨.inl (.inr h), fun e => hbp2 (e ▸ h)⟩
          · exact ⟨.inr (.inr h), fun e => hbp (e ▸ h)⟩
        · rintro ⟨(h | h) | h | h, hn⟩
          · exact .inl h
          · exact .inr (.inl h)
          · exact absurd h hn
          · exact .inr (.inr h)
    · rw [if_neg hc] at he
      obtain ⟨rfl, rfl, rfl, rfl⟩ : _ ∧ _ ∧ _ ∧ _ := by simpa only [Prod.mk.injEq] using he
      obtain ⟨n, hnn⟩ : ∃ n, (sa.map Sb.pg ++ sb.map Sb.pg).length / 2 = n := ⟨_, rfl⟩
      rw [hnn]
      have ek : ka ++ κ :: kb = (ka ++ κ :: kb).take (n - 1) ++ (ka ++ κ :: kb).getD (n - 1) 0 :: (ka ++ κ :: kb).drop n := by
        have := List.take_append_drop (n - 1) (ka ++ κ :: kb)
        rw [List.drop_eq_getElem_cons (by omega), show n - 1 + 1 = n by omega] at this
        rw [List.getD_eq_getElem?_getD, List.getElem?_eq_getElem (by omega)]
        exact this.symm
      have es : sa ++ sb = (sa ++ sb).take n ++ (sa ++ sb).drop n := (List.take_append_drop n _).symm
      have l1 : ((sa ++ sb).take n).length = n := by rw [List.length_take]; omega
      have l2 : ((sa ++ sb).drop n).length = sa.length + sb.length - n := by rw [List.length_drop]; omega
      have m1 : ((sa.map Sb.pg ++ sb.map Sb.pg).take n).length = n := by rw [List.length_take]; omega
      have m2 : ((sa.map Sb.pg ++ sb.map Sb.pg).drop n).length = sa.length + sb.length - n := by rw [List.length_drop]; omega
      have k1 : ((ka ++ κ :: kb).take (n - 1)).length = n - 1 := by rw [List.length_take]; omega
      have k2 : ((ka ++ κ :: kb).drop n).length = ka.length + kb.length + 1 - n := by rw [List.length_drop]; omega
      refine ⟨(fun h => by cases h), fun _ => ⟨⟨(fun h => by cases h), fun _ => ⟨by dsimp only; omega, by dsimp only; omega, by dsimp only; omega, rfl, fun k hk => hb32 k (List.mem_of_mem_take hk)⟩⟩, ⟨(fun h => by cases h), fun _ => ⟨by dsimp only; omega, by dsimp only; omega, by dsimp only; omega, rfl, fun k hk => hb32 k (List.mem_of_mem_drop hk)⟩⟩,
        ⟨(fun h => by cases h), fun _ => by dsimp only; omega⟩, ⟨(fun h => by cases h), fun _ => by dsimp only; omega⟩, fun g hg hg2 hs => ?_⟩⟩
      have hin := hkeep g hs
      rw [ek, es] at hin
      obtain ⟨i1, i2, i3, i4⟩ := hin.halve (by rw [l1, k1]; omega)
      have neL : ∀ (l : List Sb), (∀ s ∈ l, s ∈ sa ++ sb) → 0 < l.length → flatL l ≠ [] := fun l hl h0 e => by
        obtain ⟨s, hs⟩ := List.exists_mem_of_length_pos h0
        have hs2 := hl s hs
        have : s.l ≠ [] := by
          rcases List.mem_append.1 hs2 with h | h
          · exact ne1 s h
          · exact ne2 s h
        obtain ⟨z, hz⟩ := List.exists_mem_of_ne_nil _ this
        have : z ∈ flatL l := List.mem_flatMap.2 ⟨s, hs, hz⟩
        rw [e] at this
        cases this
      refine ⟨⟨a.pg, flatL ((sa ++ sb).take n), a.pg :: flatP ((sa ++ sb).take n)⟩, ⟨b.pg, flatL ((sa ++ sb).drop n), b.pg :: flatP ((sa ++ sb).drop n)⟩, ⟨_, _, by rw [List.map_take, ← hmp]; exact hg, i1, rfl, rfl⟩, ⟨_, _, by rw [List.map_drop, ← hmp]; exact hg2, i2, rfl, rfl⟩, rfl, rfl, ?_, neL _ (fun s hs => List.mem_of_mem_take hs) (by omega), neL _ (fun s hs => List.mem_of_mem_drop hs) (by omega), i3, i4, ?_, fun p => ?_⟩
      · dsimp only
        rw [← flatL_app, ← es, hfl]
      · dsimp only
        rw [es, flatP_app] at hnd
        have q := List.nodup_cons.1 hnd
        have q2 := List.nodup_cons.1 q.2
        have q3 := List.nodup_append.1 q2.2
        rw [List.nodup_append]
        refine ⟨List.nodup_cons.2 ⟨fun h => q.1 (by simp [h]), q3.1⟩, List.nodup_cons.2 ⟨fun h => q2.1 (by simp [h]), q3.2.1⟩, fun u hu w hw e => ?_⟩
        rcases List.mem_cons.1 hu with rfl | hu
        · rcases List.mem_cons.1 hw with rfl | hw
          · exact hpg e
          · exact q.1 (by rw [e]; simp [hw])
        · rcases List.mem_cons.1 hw with rfl | hw
          · exact q2.1 (by rw [← e]; simp [hu])
          · exact q3.2.2 u hu w hw e
      · dsimp only
        rw [a4, b4]
        have hm : p ∈ flatP sa ∨ p ∈ flatP sb ↔ p ∈ flatP ((sa ++ sb).take n) ∨ p ∈ flatP ((sa ++ sb).drop n) := by
          rw [← List.mem_append, ← List.mem_append, ← hfp, ← flatP_app, ← es]
        simp only [List.mem_cons, List.mem_append]
        constructor
        · rintro ((h | h) | h | h)
          · exact .inl (.inl h)
          · rcases hm.2 (.inl h) with h | h
            · exact .inl (.inr h)
            · exact .inr (.inr h)
          · exact .inr (.inl h)
          · rcases hm.2 (.inr h) with h | h
            · exact .inl (.inr h)
            · exact .inr (.inr h)
        · rintro ((h | h) | h | h)
          · exact .inl (.inl h)
          · rcases hm.1 (.inl h) with h | h
            · exact .inl (.inr h)
            · exact .inr (.inr h)
          · exact .inr (.inl h)
          · rcases hm.1 (.inr h) with h | h
            · exact .inl (.inr h)
            · exact .inr (.inr h)
end Go.Proofs.YtfljlcfmdcepnaaGreatDoor
