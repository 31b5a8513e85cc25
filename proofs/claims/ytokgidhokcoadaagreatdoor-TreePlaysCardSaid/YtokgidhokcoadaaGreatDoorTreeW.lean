/-
  A new tree over a new pool over a new disk of 400 pages, with any frames.
  A new tree: its plain facts.
  A tree has at most 30 entries a page.
  tabularlaw08's loop: what stands between two calls.
  tabularlaw08's loop: the steps.
  tabularlaw08's loop: where keys go.
  tabularlaw08's loop: where keys come.
  tabularlaw08's loop: a run of puts.
  tabularlaw08.Does: any call leaves what stands between two calls.
  tabularlaw08: awake.
-/
import Derived.Test.YtokgidhokcoadaaGreatDoorTtD
import Derived.Test.YtokgidhokcoadaaGreatDoorTreeN
namespace Go.Proofs.YtokgidhokcoadaaGreatDoor
open Go.RowKit
open UK (str BytesAt nth Only Row Box)
def leafA (pages : Int) : AP := (newA pages).take.wrote 1 (encLeaf (UK.zeros 504) [] [])
set_option maxRecDepth 100000 in
theorem made_many (W : World) (ht : TabAt W) (S : Nat → Prop) (hS : ∀ j, S j → j < W.heap.size) (fr : Nat) (hfr : 1 ≤ fr ∧ fr ≤ 1000) :
    Calls Tryz.prog 14 #[.int .i64 400, .int .i64 fr] W fun e w' => ∃ P D T N M, e = .returned (.tuple #[.pointer (some ⟨P, 0, none⟩), .pointer (some ⟨T, 0, none⟩)]) ∧ TreeAt (fun j => S j ∨ (N ≤ j ∧ j < M)) w' P D T 1 (leafA 400) 3 ∧ W.heap.size ≤ N ∧ Kept S W w' := by
  have HD := Lib.hid (dd_new W 400 ht S hS)
  go_enter Tryz.func14, Tryz.ntmps14
  go_wp2_with fail
  refine HD.out.mono ?_
  rintro e w1 ⟨rfl, hd, hb⟩
  have HP := Lib.hid (pnew_any hd (Ok.new 400) (clean_new 400) fr hfr 0)
  have k0 : Kept S W w1 := Kept.of_below hb hS
  have HK := Lib.hid k0
  clear HD hd hb k0
  go_wp2_with fail
  refine HP.out.mono ?_
  rintro e w2 ⟨P, FB, M, q, rfl, hps, hk2, hop⟩
  have st := newD_still 400
  have hpz : PZ S w2 P W.heap.size (newA 400) 0 := ⟨FB, M, fr, q, newD 400, hps, hfr.1, ⟨st.free, st.most, by rw [hop]; rfl⟩⟩
  have hnf : ¬ (newA 400).Full := by
    intro h
    have h1 : clampD 400 ≤ ((1 : Nat) : Int) := h.1
    have h2 : clampD 400 = 400 := rfl
    omega
  have HT := Lib.hid (tree_new hpz (by omega) hnf)
  have HK2 := Lib.hid (HK.out.trans hk2)
  clear HP HK hps hk2 hop st hpz hnf
  go_wp2_with fail
  refine HT.out.mono ?_
  rintro e w3 ⟨T, N, M', rfl, hbox, hN, hT1, hT2, hpz, hk3⟩
  have HX := Lib.hid (And.intro hbox (And.intro hN (And.intro hT1 (And.intro hT2 (And.intro hpz hk3)))))
  clear HT hbox hN hT1 hT2 hpz hk3
  go_wp2
  go_ret2
  obtain ⟨hbox, hN, hT1, hT2, hpz, hk3⟩ := HX.out
  exact ⟨P, _, T, N, M', rfl, ⟨hpz, hbox, .inr ⟨hT1, hT2⟩⟩, Nat.le_trans HK2.out.size hN, HK2.out.trans hk3⟩
end Go.Proofs.YtokgidhokcoadaaGreatDoor
namespace Go.Proofs.YtokgidhokcoadaaGreatDoor
open Go.RowKit
open UK (str BytesAt nth Only Row Box)
theorem leafA_take : (newA 400).take.c 1 = UK.zeros 504 := by
  show setC (newA 400).c (newA 400).next (UK.zeros 504) 1 = _
  unfold setC
  rw [if_pos (show (newA 400).next = 1 from rfl)]
theorem leafA_eq : leafA 400 = (newA 400).take.wrote 1 (encN ((newA 400).take.c 1) ⟨true, [], [], []⟩) := by
  rw [leafA_take]
  rfl
theorem leafA_has (p : Nat) : (leafA 400).Has p ↔ p ∈ [1] := by
  rw [List.mem_singleton]
  have h : (leafA 400).Has p ↔ (newA 400).take.Has p := AP.wrote_has
  rw [h]
  constructor
  · rintro ⟨h1, h2, _, _⟩
    have h3 : p < 2 := h2
    omega
  · rintro rfl
    exact ⟨by omega, by show 1 < 2; omega, by show 1 ∉ ([] : List Nat); simp, by show ((1 : Nat) : Int) ∉ ([] : List Int); simp⟩
theorem leafA_ti : TI (leafA 400) 1 [] [1] := by
  have hl : ((newA 400).take.c 1).length = 504 := by rw [leafA_take]; exact UK.zeros_length 504
  have hfit : Fits ⟨true, [], [], []⟩ := ⟨fun _ => ⟨Nat.zero_le _, rfl, rfl⟩, (fun h => by cases h)⟩
  have hnd : ndAt (leafA 400) 1 = some ⟨true, [], [], []⟩ := by rw [leafA_eq, ndAt_wrote hl hfit, if_pos rfl]
  exact ⟨⟨0, ⟨1, [], [1]⟩, ⟨[], [], hnd, rfl, fun a b x y _ hx => (by simp at hx), rfl, rfl⟩, rfl, rfl, rfl⟩, List.pairwise_singleton _ _, fun p hp => (leafA_has p).2 hp⟩
theorem leafA_len (p : Nat) (h : (leafA 400).Has p) : ((leafA 400).c p).length = 504 := by
  obtain rfl := List.mem_singleton.1 ((leafA_has p).1 h)
  show ((AP.wrote _ 1 _).c 1).length = 504
  rw [AP.wrote_c, if_pos rfl, encLeaf_length _ _ _ (by simp) rfl (by rw [UK.zeros_length]; omega)]
  exact UK.zeros_length 504
theorem leafA_good : (leafA 400).Good :=
  ⟨by show 1 ≤ 2; omega, by show ((2 : Nat) : Int) ≤ 400; omega, by show (400 : Int) ≤ 60000; omega, List.nodup_nil, fun p hp => absurd hp List.not_mem_nil, List.nodup_nil, fun g hg => absurd hg List.not_mem_nil⟩
end Go.Proofs.YtokgidhokcoadaaGreatDoor
namespace Go.Proofs.YtokgidhokcoadaaGreatDoor
open Go.RowKit
theorem flatL_few (subs : List Sb) (h : ∀ t ∈ subs, t.l.length ≤ 30 * t.ps.length) : (flatL subs).length ≤ 30 * (flatP subs).length := by
  induction subs with
  | nil => simp [flatL]
  | cons t r ih =>
    have h1 := h t (by simp)
    have h2 := ih (fun u hu => h u (by simp [hu]))
    simp only [flatL, flatP, List.flatMap_cons, List.length_append] at h2 ⊢
    omega
theorem Tr.few {f : Nat → Option Nd} (hf : ∀ p x, f p = some x → x.leaf = true → x.keys.length ≤ 30) : ∀ (d : Nat) (s : Sb), Tr f d s → s.l.length ≤ 30 * s.ps.length
  | 0, s, ⟨ks, vs, h1, h2, h3, h4, h5⟩ => by
    have := hf _ _ h1 rfl
    rw [h4, h5, List.length_zip]
    simp only [List.length_cons, List.length_nil] at this ⊢
    omega
  | d + 1, s, ⟨keys, subs, h1, h2, h3, h4⟩ => by
    have := flatL_few subs (fun t ht => Tr.few hf d t (h2.all t ht).1)
    rw [h3, h4, List.length_cons]
    omega
theorem TI.few {A : AP} {rt : Nat} {l : List KV} {ps : List Nat} (h : TI A rt l ps) : l.length ≤ 30 * ps.length := by
  obtain ⟨d, s, h1, _, rfl, rfl⟩ := h.ex
  exact Tr.few (fun p x hx hl => ((dec_fits hx).1 hl).1) d s h1
end Go.Proofs.YtokgidhokcoadaaGreatDoor
namespace Go.Proofs.YtokgidhokcoadaaGreatDoor
open Go.RowKit
theorem nodup_le8 : ∀ (l m : List Nat), l.Nodup → (∀ x, x ∈ l → x ∈ m) → l.length ≤ m.length
  | [], m, _, _ => Nat.zero_le _
  | a :: l, m, h, hs => by
    obtain ⟨h1, h2⟩ := List.nodup_cons.1 h
    have ha := hs a (List.mem_cons_self ..)
    have := nodup_le8 l (m.erase a) h2 (fun x hx => (List.mem_erase_of_ne (show x ≠ a from fun e => h1 (e ▸ hx))).2 (hs x (List.mem_cons_of_mem _ hx)))
    rw [List.length_erase_of_mem ha] at this
    have hm : 0 < m.length := List.length_pos_of_mem ha
    rw [List.length_cons]
    omega
theorem most_moves8 (m : Int) : AP.Moves (fun B => B.most = m) := ⟨fun X p s h hp => h, fun X p h hp => h, fun X h hf => h, fun X p h hp => by
  unfold AP.give
  cases X.op <;> exact h⟩
theorem AP.Reach.most8 {A B : AP} (h : A.Reach B) : B.most = A.most := h _ (most_moves8 A.most) rfl
theorem AP.Good.count8 {A : AP} (g : A.Good) (e : A.op = none) {l : List Nat} (hn : l.Nodup) (hl : ∀ p, A.Has p ↔ p ∈ l) : (A.rooms : Int) + l.length = A.most - 1 := by
  have hg0 : A.goneL = [] := by unfold AP.goneL; rw [e]
  have hh : ∀ p, A.Has p ↔ 1 ≤ p ∧ p < A.cnt ∧ p ∉ A.free := fun p => by
    unfold AP.Has
    rw [hg0]
    exact ⟨fun ⟨a, b, c, _⟩ => ⟨a, b, c⟩, fun ⟨a, b, c⟩ => ⟨a, b, c, List.not_mem_nil⟩⟩
  have h1 := nodup_le8 (l ++ A.free) (List.range' 1 (A.cnt - 1)) (List.nodup_append.2 ⟨hn, g.nod, fun a ha b hb e => by
    subst e
    exact ((hh a).1 ((hl a).2 ha)).2.2 hb⟩) (fun x hx => by
    rw [List.mem_range'_1]
    rcases List.mem_append.1 hx with hx | hx
    · have := (hh x).1 ((hl x).2 hx); omega
    · have := g.free x hx; omega)
  have h2 := nodup_le8 (List.range' 1 (A.cnt - 1)) (l ++ A.free) (List.nodup_range' ..) (fun x hx => by
    rw [List.mem_range'_1] at hx
    rw [List.mem_append]
    by_cases hf : x ∈ A.free
    · exact .inr hf
    · exact .inl ((hl x).1 ((hh x).2 ⟨by omega, by omega, hf⟩)))
  rw [List.length_append, List.length_range'] at h1 h2
  have := g.one
  have := g.most
  unfold AP.rooms
  omega
def V8 (j : Nat) : Nat := 420 + 320 * (j * (j - 1)) + 1620 * j
structure One (A : AP) (X : List KV) (j : Nat) : Prop where
  good : A.Good
  len : ∀ p, A.Has p → (A.c p).length = 504
  most : A.most = 400
  one : ∃ ps, TI A 1 X ps ∧ ∀ p, A.Has p ↔ p ∈ ps
  few : X.length ≤ 40 * j
structure LS (j : Nat) (A : AP) (X : List KV) (A0 : AP) (Y : List KV) (op : Bool) : Prop where
  now : One A X j
  room : 420 * 399 ≤ 420 * A.rooms + V8 j
  shut : op = true ↔ A.op ≠ none
  was : op = true → AP.SinceX A0 A ∧ One A0 Y j ∧ A0.op = none
theorem One.count {A : AP} {X : List KV} {j : Nat} (h : One A X j) (e : A.op = none) : 420 * 399 ≤ 420 * A.rooms + V8 j := by
  obtain ⟨ps, h1, h2⟩ := h.one
  have a := h.good.count8 e h1.nod h2
  have b := h1.many
  have c := h.few
  have m := h.most
  rw [m] at a
  unfold V8
  generalize j * (j - 1) = q
  omega
theorem One.up {A : AP} {X : List KV} {i j : Nat} (h : One A X i) (hj : i ≤ j) : One A X j := ⟨h.good, h.len, h.most, h.one, by have := h.few; omega⟩
theorem V8_up {i : Nat} : V8 i ≤ V8 (i + 1) := by
  unfold V8
  have : i * (i - 1) ≤ (i + 1) * (i + 1 - 1) := Nat.mul_le_mul (by omega) (by omega)
  generalize i * (i - 1) = q at *
  generalize (i + 1) * (i + 1 - 1) = q2 at *
  omega
theorem leafA_one : One (leafA 400) [] 0 := ⟨leafA_good, leafA_len, rfl, ⟨[1], leafA_ti, leafA_has⟩, Nat.zero_le _⟩
theorem ls_new (A0 : AP) (Y : List KV) : LS 0 (leafA 400) [] A0 Y false := ⟨leafA_one, leafA_one.count rfl, by simp [show (leafA 400).op = none from rfl], fun h => by cases h⟩
end Go.Proofs.YtokgidhokcoadaaGreatDoor
namespace Go.Proofs.YtokgidhokcoadaaGreatDoor
open Go.RowKit
variable {A B A0 : AP} {X Y : List KV} {j : Nat}
theorem One.same (h : One A X j) (hg : B.Good) (hh : ∀ p, B.Has p ↔ A.Has p) (hc : ∀ p, A.Has p → B.c p = A.c p) (hm : B.most = 400) : One B X j := by
  obtain ⟨ps, h1, h2⟩ := h.one
  refine ⟨hg, fun p hp => by rw [hc p ((hh p).1 hp)]; exact h.len p ((hh p).1 hp), hm, ⟨ps, ?_, fun p => (hh p).trans (h2 p)⟩, h.few⟩
  obtain ⟨d, s, a, b, c, e⟩ := h1.ex
  refine ⟨⟨d, s, Tr.same d s a (fun p hp => ?_), b, c, e⟩, h1.nod, fun p hp => (hh p).2 (h1.has p hp)⟩
  show decN (B.c p) = decN (A.c p)
  rw [hc p (h1.has p (e ▸ hp))]
theorem ls_commit (h : LS j A X A0 Y true) (hd : Done A B) : LS (j + 1) B X A0 Y false := by
  have o := (h.now.same hd.good hd.has (fun p _ => hd.c p) (hd.most.trans h.now.most)).up (Nat.le_succ j)
  exact ⟨o, o.count hd.op, by simp [hd.op], fun e => by cases e⟩
theorem ls_undo (h : LS j A X A0 Y true) (hd : AP.Undone A0 B) : LS (j + 1) B Y A0 Y false := by
  obtain ⟨_, o0, e0⟩ := h.was rfl
  obtain ⟨ps, h1, h2⟩ := o0.one
  have a := o0.good.count8 e0 h1.nod h2
  have b := hd.good.count8 hd.op h1.nod (fun p => (hd.has p).trans (h2 p))
  have o := (o0.same hd.good hd.has hd.c (by have := o0.most; have := hd.rooms; omega)).up (Nat.le_succ j)
  exact ⟨o, o.count hd.op, by simp [hd.op], fun e => by cases e⟩
theorem LS.up {op : Bool} (h : LS j A X A0 Y op) : LS (j + 1) A X A0 Y op :=
  ⟨h.now.up (Nat.le_succ j), Nat.le_trans h.room (Nat.add_le_add_left V8_up _), h.shut, fun e => ⟨(h.was e).1, (h.was e).2.1.up (Nat.le_succ j), (h.was e).2.2⟩⟩
theorem ls_begin (h : LS j A X A0 Y false) : LS (j + 1) A.begun X A X true := by
  have e : A.op = none := by
    rcases Decidable.em (A.op = none) with e | e
    · exact e
    · exact absurd (h.shut.2 e) (by simp)
  have hs := AP.Since.start h.now.good e
  have hh : ∀ p, A.begun.Has p ↔ A.Has p := fun p => by
    have hg : A.goneL = [] := by unfold AP.goneL; rw [e]
    have hb : A.begun.goneL = [] := rfl
    unfold AP.Has
    rw [hg, hb]
    exact Iff.rfl
  have o := (h.now.same h.now.good.begun hh (fun _ _ => rfl) h.now.most).up (Nat.le_succ j)
  refine ⟨o, Nat.le_trans h.room (Nat.add_le_add_left V8_up _), ⟨fun _ hn => (by cases hn), fun _ => rfl⟩, fun _ => ⟨hs, h.now.up (Nat.le_succ j), e⟩⟩
end Go.Proofs.YtokgidhokcoadaaGreatDoor
namespace Go.Proofs.YtokgidhokcoadaaGreatDoor
open Go.RowKit
variable {A B A0 : AP} {X X' Y : List KV} {j : Nat} {op : Bool} {ps : List Nat}
theorem since_reach (h : AP.SinceX A0 A) (r : A.Reach B) : AP.SinceX A0 B := AP.Reach.since h r
theorem ls_gone (h : LS j A X A0 Y op) (hh : ∀ p, A.Has p ↔ p ∈ ps) (hX : X'.length ≤ 40 * j) (hg : GoneOk A B 1 X' ps) : LS j B X' A0 Y op := by
  obtain ⟨gone, ps', hc, ht, hm, _, _⟩ := hg.ex
  refine ⟨⟨hc.reach.good h.now.good, hc.clen, hc.reach.most8.trans h.now.most, ⟨ps', ht, fun p => ?_⟩, hX⟩, ?_, ?_, fun e => ⟨since_reach (h.was e).1 hc.reach, (h.was e).2⟩⟩
  · rw [hc.has, hh, hm]
  · have := h.room; have := hc.rooms.1; omega
  · rw [h.shut]; exact not_congr hc.shut.symm
theorem delL_le (X : List KV) (k : UInt64) : (delL X k).length ≤ X.length := List.length_filter_le _ _
theorem ls_drop (_h : LS j A X A0 Y op) (nn : Int) (K : UInt64) (hj : j ≤ 20) :
    ∀ i A' X', LS j A' X' A0 Y op → i < timesOf nn → ∃ ps, TI A' 1 X' ps ∧ A'.Good ∧ (∀ p, A'.Has p → (A'.c p).length = 504) ∧ X'.length ≤ 2000 ∧ ∀ B, GoneOk A' B 1 (delL X' (K + UInt64.ofNat i)) ps → LS j B (delL X' (K + UInt64.ofNat i)) A0 Y op := by
  intro i A' X' hl _
  obtain ⟨ps, h1, h2⟩ := hl.now.one
  have := hl.now.few
  exact ⟨ps, h1, hl.now.good, hl.now.len, by omega, fun B hb => ls_gone hl h2 (Nat.le_trans (delL_le _ _) hl.now.few) hb⟩
theorem ls_clear (h : LS j A X A0 Y op) (hh : ∀ p, A.Has p ↔ p ∈ ps) (hg : GoneOk A B 1 [] ps) : LS (j + 1) B [] A0 Y op := (ls_gone h hh (Nat.zero_le _) hg).up
end Go.Proofs.YtokgidhokcoadaaGreatDoor
namespace Go.Proofs.YtokgidhokcoadaaGreatDoor
open Go.RowKit
variable {A B A0 : AP} {X X' Y : List KV} {j : Nat} {op : Bool} {ps : List Nat}
theorem insL_le {X : List KV} (k v : UInt64) (_h : Rise X) : (insL X k v).length ≤ X.length + 1 := by
  have e : ∀ l : List KV, (l.filter (fun x => decide (x.1.toNat < k.toNat))).length + (l.filter (fun x => decide (k.toNat < x.1.toNat))).length ≤ l.length := by
    intro l
    induction l with
    | nil => simp
    | cons a r ih =>
      simp only [List.filter_cons]
      by_cases h1 : a.1.toNat < k.toNat
      · have h2 : ¬ k.toNat < a.1.toNat := by omega
        simp only [h1, h2, decide_true, decide_false, if_true, List.length_cons]
        simp only [Bool.false_eq_true, if_false]
        omega
      · by_cases h2 : k.toNat < a.1.toNat <;> simp only [h1, h2, decide_true, decide_false, if_true, Bool.false_eq_true, if_false, List.length_cons] <;> omega
  have := e X
  unfold insL
  rw [List.length_append, List.length_cons]
  exact Nat.succ_le_succ this
structure PJ (A : AP) (X : List KV) (ps : List Nat) (A0 : AP) (op : Bool) (i : Nat) (A' : AP) (X' : List KV) : Prop where
  one : ∃ ps', TI A' 1 X' ps' ∧ (∀ p, A'.Has p ↔ p ∈ ps') ∧ A'.rooms + ps'.length = A.rooms + ps.length
  good : A'.Good
  len : ∀ p, A'.Has p → (A'.c p).length = 504
  few : X'.length ≤ X.length + i
  reach : A.Reach A'
end Go.Proofs.YtokgidhokcoadaaGreatDoor
namespace Go.Proofs.YtokgidhokcoadaaGreatDoor
open Go.RowKit
variable {A B A0 : AP} {X X' Y : List KV} {j : Nat} {op : Bool} {ps : List Nat}
theorem PJ.step {i : Nat} {A' : AP} (h : PJ A X ps A0 op i A' X') {ps' : List Nat} (ht : TI A' 1 X' ps') (hh : ∀ p, A'.Has p ↔ p ∈ ps') (hr : A'.rooms + ps'.length = A.rooms + ps.length) (K V : UInt64) (hp : PutOk A' B 1 (insL X' K V) ps') : PJ A X ps A0 op (i + 1) B (insL X' K V) := by
  obtain ⟨new, ps2, hc, ht2, hm, _⟩ := hp.ex
  have hn : ps2.length = ps'.length + new.length := by
    have a := nodup_le8 ps2 (ps' ++ new) ht2.nod (fun p hp => by rw [List.mem_append]; exact (hm p).1 hp)
    have b := nodup_le8 (ps' ++ new) ps2 (List.nodup_append.2 ⟨ht.nod, hc.nod, fun a ha b hb e => by subst e; exact hc.fresh a hb ((hh a).2 ha)⟩) (fun p hp => (hm p).2 (List.mem_append.1 hp))
    rw [List.length_append] at a b
    omega
  have hro := hc.rooms
  refine ⟨⟨ps2, ht2, fun p => by rw [hc.has, hh, hm], by omega⟩, hc.reach.good h.good, hc.clen, ?_, h.reach.trans hc.reach⟩
  have := insL_le K V ht.rise
  have := h.few
  omega
theorem V8_next (j : Nat) : V8 (j + 1) = V8 j + 640 * j + 1620 := by
  unfold V8
  cases j with
  | zero => rfl
  | succ n =>
    simp only [Nat.add_sub_cancel, Nat.mul_add, Nat.add_mul]
    generalize n * n = q
    omega
theorem shut_moves8 : AP.Moves (fun B => B.op = none) := ⟨fun X p s h hp => by show (X.keep p).op = none; unfold AP.keep; rw [h]; rfl, fun X p h hp => by unfold AP.keep; rw [h]; rfl, fun X h hf => by show X.op.map _ = none; rw [h]; rfl, fun X p h hp => by unfold AP.give; rw [h]⟩
theorem PJ.ls {i : Nat} (h : LS j A X A0 Y op) (ht : TI A 1 X ps) (hi : i ≤ 40) (p : PJ A X ps A0 op i B X') : LS (j + 1) B X' A0 Y op := by
  obtain ⟨ps', h1, h2, h3⟩ := p.one
  have a := ht.few
  have b := h1.many
  have c := h.now.few
  have d := p.few
  have e := h.room
  refine ⟨⟨p.reach.good h.now.good, p.len, p.reach.most8.trans h.now.most, ⟨ps', h1, h2⟩, by omega⟩, ?_, ?_, fun e => ⟨since_reach (h.was e).1 p.reach, (h.was e).2.1.up (Nat.le_succ j), (h.was e).2.2⟩⟩
  · rw [V8_next]
    omega
  · cases op with
    | true =>
      obtain ⟨o, hs⟩ := since_reach (h.was rfl).1 p.reach
      exact ⟨(fun _ => by rw [hs.op]; simp), fun _ => rfl⟩
    | false =>
      have e0 : A.op = none := by
        rcases Decidable.em (A.op = none) with e | e
        · exact e
        · exact absurd (h.shut.2 e) (by simp)
      have := p.reach _ shut_moves8 e0
      exact ⟨(fun e => by cases e), fun e => absurd this e⟩
end Go.Proofs.YtokgidhokcoadaaGreatDoor
namespace Go.Proofs.YtokgidhokcoadaaGreatDoor
open Go.RowKit
open UK (str BytesAt nth Only Row Box)
theorem V8_mono {i j : Nat} (h : i ≤ j) : V8 i ≤ V8 j := by
  induction h with
  | refl => exact Nat.le_refl _
  | step _ ih => exact Nat.le_trans ih V8_up
theorem DoesR.imp {S : Nat → Prop} {W w' : World} {P D K K' : Nat} {Q Q' : AP → List KV → List KV → Bool → Prop} {e : Ending} (h : DoesR S W w' P D K Q e) (hk : K ≤ K') (hq : ∀ A X Y op, Q A X Y op → Q' A X Y op) : DoesR S W w' P D K' Q' e := by
  obtain ⟨T, ao, c, X, bo, d, Y, op, A, k, h1, h2, h3, h4, h5⟩ := h
  exact ⟨T, ao, c, X, bo, d, Y, op, A, k, h1, h2, Nat.le_trans h3 hk, h4, hq _ _ _ _ h5⟩
section
variable {S : Nat → Prop} {W : World} {P D T k c d j : Nat} {A A0 : AP} {X Y : List KV} {ao bo : Option Addr} {op : Bool}
theorem PJ.rooms {B : AP} {X' : List KV} {ps : List Nat} {i : Nat} (h : LS j A X A0 Y op) (hj : j ≤ 19) (ht : TI A 1 X ps) (hi : i ≤ 40) (p : PJ A X ps A0 op i B X') : 20 < B.rooms := by
  have a := (PJ.ls h ht hi p).room
  have b := V8_mono (show j + 1 ≤ 20 by omega)
  have e : V8 20 = 154420 := by decide
  omega
set_option maxRecDepth 100000 in
theorem does_any (h : RM S W P D T ao c X bo d Y A k) (hS : ∀ j, S j → j < W.heap.size) (hk : k + 400000 < 899999990) (kd nn : Int) (K V : UInt64) (hl : LS j A X A0 Y op) (hj : j ≤ 19) :
    Calls Tryz.prog 15 #[.agg (rcells P T ao X.length c bo Y.length d op), .agg (acells8 kd nn K V)] W fun e w' => DoesR S W w' P D (k + 400000) (fun A' X' Y' op' => ∃ A0', LS (j + 1) A' X' A0' Y' op') e := by
  obtain ⟨ps, hti, hhas⟩ := hl.now.one
  have hfew := hl.now.few
  rcases Decidable.em (kd < 1 ∨ 7 < kd) with hkd | hkd
  · exact (does_none h hS kd nn K V hkd).mono fun e w' he => he.imp (by omega) (by rintro A' X' Y' op' ⟨rfl, rfl, rfl, rfl⟩; exact ⟨_, hl.up⟩)
  have hc : kd = 1 ∨ kd = 2 ∨ kd = 3 ∨ kd = 4 ∨ kd = 5 ∨ kd = 6 ∨ kd = 7 := by omega
  rcases hc with rfl | rfl | rfl | rfl | rfl | rfl | rfl
  · refine (does_put h hS (by omega) nn K V (fun i A' X' => PJ A X ps A0 op i A' X') ⟨⟨ps, hti, hhas, rfl⟩, hl.now.good, hl.now.len, by omega, AP.Reach.refl A⟩ (fun i A' X' hp hi => ?_)).mono fun e w' he => he.imp (by omega) (by
      rintro A' X' Y' op' ⟨hp, rfl, rfl⟩
      exact ⟨_, PJ.ls hl hti (timesOf_le nn).1 hp⟩)
    have h40 := (timesOf_le nn).1
    obtain ⟨ps', h1, h2, h3⟩ := hp.one
    have hf := hp.few
    exact ⟨ps', h1, hp.good, hp.len, PJ.rooms hl hj hti (by omega) hp, by omega, fun B hb => PJ.step hp h1 h2 h3 _ _ hb⟩
  · refine (does_drop h hS (by omega) nn K V (fun i A' X' => LS j A' X' A0 Y op) hl (ls_drop hl nn K (by omega))).mono fun e w' he => he.imp (by omega) (by
      rintro A' X' Y' op' ⟨hp, rfl, rfl⟩
      exact ⟨_, hp.up⟩)
  · refine (does_begin h hS (by omega) nn K V hl.shut).mono fun e w' he => he.imp (Nat.le_refl _) (by
      rintro A' X' Y' op' ⟨rfl, rfl, h1, h2⟩
      cases op with
      | false => obtain ⟨rfl, rfl⟩ := h1 rfl; exact ⟨_, ls_begin hl⟩
      | true => obtain ⟨rfl, rfl⟩ := h2 rfl; exact ⟨_, hl.up⟩)
  · refine (does_commit h hS (by omega) nn K V hl.shut hl.now.good).mono fun e w' he => he.imp (Nat.le_refl _) (by
      rintro A' X' Y' op' ⟨rfl, rfl, rfl, h1, h2⟩
      cases op with
      | false => rw [h1 rfl]; exact ⟨_, hl.up⟩
      | true => exact ⟨_, ls_commit hl (h2 rfl)⟩)
  · have hlen : ∀ m, A0.Has m → op = true → (A0.c m).length = 504 := fun m hm ho => (hl.was ho).2.1.len m hm
    cases op with
    | false =>
      refine (does_undo (A0 := A) h hS (by omega) nn K V hl.shut (fun e => by cases e) hl.now.len).mono fun e w' he => he.imp (Nat.le_refl _) (by
        rintro A' X' Y' op' ⟨rfl, rfl, h1, _⟩
        obtain ⟨rfl, rfl⟩ := h1 rfl
        exact ⟨_, hl.up⟩)
    | true =>
      refine (does_undo (A0 := A0) h hS (by omega) nn K V hl.shut (fun _ => (hl.was rfl).1) (hl.was rfl).2.1.len).mono fun e w' he => he.imp (Nat.le_refl _) (by
        rintro A' X' Y' op' ⟨rfl, rfl, _, h1⟩
        obtain ⟨hu, rfl⟩ := h1 rfl
        exact ⟨_, ls_undo hl hu⟩)
  · exact (does_clear h hS hk nn K V hti hl.now.good hl.now.len).mono fun e w' he => he.imp (Nat.le_refl _) (by
      rintro A' X' Y' op' ⟨h1, rfl, rfl, rfl⟩
      exact ⟨_, ls_clear hl hhas h1⟩)
  · exact (does_at h hS nn K V).mono fun e w' he => he.imp (by omega) (by rintro A' X' Y' op' ⟨rfl, rfl, rfl, rfl⟩; exact ⟨_, hl.up⟩)
end
end Go.Proofs.YtokgidhokcoadaaGreatDoor
namespace Go.Proofs.YtokgidhokcoadaaGreatDoor
open Go.RowKit
open UK (str BytesAt nth Only Row Box w32)
open Go.BigFrame
theorem st0 {k : UInt64} {i : Nat} (h : Stands [] k i) : i = 0 := Nat.le_zero.1 h.le
theorem st1 {a k : UInt64} {i : Nat} (h : Stands [a] k i) : (a.toNat < k.toNat → i = 1) ∧ (k.toNat ≤ a.toNat → i = 0) := by
  have hle : i ≤ 1 := h.le
  refine ⟨fun hk => ?_, fun hk => ?_⟩
  · rcases Nat.eq_zero_or_pos i with h0 | h0
    · have := h.above 0 a (by omega) rfl; omega
    · omega
  · rcases Nat.eq_zero_or_pos i with h0 | h0
    · exact h0
    · have := h.below 0 a h0 rfl; omega
theorem st2 {a b k : UInt64} {i : Nat} (h : Stands [a, b] k i) : (a.toNat < k.toNat → k.toNat ≤ b.toNat → i = 1) ∧ (k.toNat ≤ a.toNat → i = 0) := by
  have hle : i ≤ 2 := h.le
  refine ⟨fun h1 h2 => ?_, fun hk => ?_⟩
  · rcases Nat.lt_trichotomy i 1 with h0 | h0 | h0
    · have := h.above 0 a (by omega) rfl; omega
    · exact h0
    · have := h.below 1 b h0 rfl; omega
  · rcases Nat.eq_zero_or_pos i with h0 | h0
    · exact h0
    · have := h.below 0 a h0 rfl; omega
set_option maxHeartbeats 1000000 in
set_option maxRecDepth 100000 in
theorem awake_any (W : World) (ht : TabAt W) (S : Nat → Prop) (hS : ∀ j, S j → j < W.heap.size) :
    Calls Tryz.prog 13 #[] W fun e w' => e = .returned (.bool true) ∧ Kept S W w' := by
  have HM := Lib.hid (made_new W ht S hS)
  go_enter Tryz.func13, Tryz.ntmps13
  go_wp2_with fail
  refine HM.out.mono ?_
  rintro e w1 ⟨P, D, T, A, N, M, rfl, l1, hN, k1⟩
  have h1 := lt_put l1 (by omega) (by simp) 5 50 (by simp)
  rw [show ((5 : UInt64).toNat : Int) = 5 from rfl, show ((50 : UInt64).toNat : Int) = 50 from rfl] at h1
  have H1 := Lib.hid h1
  have K1 := Lib.hid k1
  clear HM l1 hN k1 h1
  go_wp2_with fail
  refine H1.out.mono ?_
  rintro e w2 ⟨rfl, i, A2, hst, l2, k2⟩
  obtain rfl := st0 hst
  replace l2 : LT (fun j => S j ∨ (N ≤ j ∧ j < M)) w2 P D T 1 A2 8 [5] [50] := l2
  have h2 := lt_put l2 (by omega) (by simp) 2 20 (by simp)
  rw [show ((2 : UInt64).toNat : Int) = 2 from rfl, show ((20 : UInt64).toNat : Int) = 20 from rfl] at h2
  have H2 := Lib.hid h2
  have K2 := Lib.hid (K1.out.trans (k2.mono (fun _ hj => .inl hj)))
  clear H1 K1 l2 k2 h2 hst
  go_wp2_with fail
  refine H2.out.mono ?_
  rintro e w3 ⟨rfl, i, A3, hst, l3, k3⟩
  obtain rfl := (st1 hst).2 (by decide)
  replace l3 : LT (fun j => S j ∨ (N ≤ j ∧ j < M)) w3 P D T 1 A3 13 [2, 5] [20, 50] := l3
  have h3 := lt_next l3 (by omega) (by simp) 3
  rw [show ((3 : UInt64).toNat : Int) = 3 from rfl] at h3
  have H3 := Lib.hid h3
  have K3 := Lib.hid (K2.out.trans (k3.mono (fun _ hj => .inl hj)))
  clear H2 K2 l3 k3 h3 hst
  go_wp2_with fail
  refine H3.out.mono ?_
  rintro e w4 ⟨i, hst, he, l4, k4⟩
  obtain rfl := (st2 hst).1 (by decide) (by decide)
  obtain rfl : e = .returned (.tuple #[.int .u64 5, .int .u64 50, .bool true, .int .i64 0]) := he
  have h4 := lt_drop l4 (by omega) (by simp) 5 (by simp)
  rw [show ((5 : UInt64).toNat : Int) = 5 from rfl] at h4
  have H4 := Lib.hid h4
  have K4 := Lib.hid (K3.out.trans (k4.mono (fun _ hj => .inl hj)))
  clear H3 K3 l4 k4 h4 hst
  go_wp2_with fail
  refine H4.out.mono ?_
  rintro e w5 ⟨rfl, i, A5, hi, hst, l5, k5⟩
  obtain rfl := (st2 hst).1 (by decide) (by decide)
  replace l5 : LT (fun j => S j ∨ (N ≤ j ∧ j < M)) w5 P D T 1 A5 20 [2] [20] := l5
  have h5 := lt_next l5 (by omega) (by simp) 3
  rw [show ((3 : UInt64).toNat : Int) = 3 from rfl] at h5
  have H5 := Lib.hid h5
  have K5 := Lib.hid (K4.out.trans (k5.mono (fun _ hj => .inl hj)))
  clear H4 K4 l5 k5 h5 hst hi
  go_wp2_with fail
  refine H5.out.mono ?_
  rintro e w6 ⟨i, hst, he, l6, k6⟩
  obtain rfl := (st1 hst).1 (by decide)
  obtain rfl : e = .returned (.tuple #[.int .u64 0, .int .u64 0, .bool false, .int .i64 0]) := he
  have K6 := Lib.hid (K5.out.trans (k6.mono (fun _ hj => .inl hj)))
  clear H5 K5 l6 k6 hst
  go_wp2
  go_ret
  exact ⟨rfl, K6.out⟩
end Go.Proofs.YtokgidhokcoadaaGreatDoor
