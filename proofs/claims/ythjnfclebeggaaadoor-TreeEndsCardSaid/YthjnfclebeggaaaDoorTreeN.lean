/-
  A tree that is one leaf: Put, Drop.
  A tree that is one leaf: its bytes behind a put and behind a drop.
  A tree that is one leaf: the three calls, bundled.
  A new tree over a new pool over a new disk.
-/
import Derived.Test.YthjnfclebeggaaaDoorTreeK
import Derived.Test.YthjnfclebeggaaaDoorTreeM
import Derived.Test.YthjnfclebeggaaaDoorTreeH
namespace Go.Proofs.YthjnfclebeggaaaDoor
open Go.RowKit
open UK (str BytesAt nth Only Row Box w32)
open Go.BigFrame
section
variable {E : Nat → Prop} {W W' w2 wc : World} {P D T k : Nat} {A : AP}
set_option maxRecDepth 100000 in
theorem tree_put {rt : Nat} {ks vs : List UInt64} (h : TreeAt E W P D T rt A k) (hk : k + 5 < 900000000) (hl : LeafIs A rt ks vs) (hn : ks.length < 30) (key v : UInt64) (hno : key ∉ ks) :
    Calls Tryd.prog 26 #[.pointer (some ⟨T, 0, none⟩), .int .u64 key.toNat, .int .u64 v.toNat] W fun e w' => e = .returned (.int .i64 0) ∧ ∃ i, Stands ks key i ∧ TreeAt E w' P D T rt (A.wrote rt (encLeaf (A.c rt) (ks.take i ++ key :: ks.drop i) (vs.take i ++ v :: vs.drop i))) (k + 5) ∧ Kept E W w' := by
  have HP := Lib.hid (put_new h hk hl hn key v hno 0 (by omega))
  have t1 : W.cell? ⟨T, 1, none⟩ = some (.int .i64 rt) := h.box.cell 1 _ rfl
  clear h hl
  go_enter Tryd.func26, Tryd.ntmps26
  go_wp2_with fail
  refine HP.out.mono ?_
  rintro e w1 ⟨i, rfl, hst, ht, hkp⟩
  have HX := Lib.hid (And.intro hst (And.intro ht hkp))
  clear HP t1 hst ht hkp
  go_wp2
  go_ret
  exact ⟨rfl, i, HX.out⟩
set_option maxRecDepth 100000 in
theorem tree_drop {rt : Nat} {ks vs : List UInt64} (h : TreeAt E W P D T rt A k) (hk : k + 5 < 900000000) (hl : LeafIs A rt ks vs) (hn : ks.length ≤ 30) (key : UInt64) (hin : key ∈ ks) :
    Calls Tryd.prog 74 #[.pointer (some ⟨T, 0, none⟩), .int .u64 key.toNat] W fun e w' => e = .returned (.tuple #[.bool true, .int .i64 0]) ∧ ∃ i, i < ks.length ∧ Stands ks key i ∧ TreeAt E w' P D T rt (A.wrote rt (encLeaf (A.c rt) (ks.take i ++ ks.drop (i + 1)) (vs.take i ++ vs.drop (i + 1)))) (k + 5) ∧ Kept E W w' := by
  have HP := Lib.hid (drop_leaf h hk hl hn key hin 0 (by omega))
  have t1 : W.cell? ⟨T, 1, none⟩ = some (.int .i64 rt) := h.box.cell 1 _ rfl
  clear h hl
  go_enter Tryd.func74, Tryd.ntmps74
  go_wp2_with fail
  refine HP.out.mono ?_
  rintro e w1 ⟨i, rfl, hi, hst, ht, hkp⟩
  have HX := Lib.hid (And.intro hi (And.intro hst (And.intro ht hkp)))
  clear HP t1 hi hst ht hkp
  go_wp2
  go_ret2
  exact ⟨rfl, i, HX.out⟩
end
end Go.Proofs.YthjnfclebeggaaaDoor
namespace Go.Proofs.YthjnfclebeggaaaDoor
open Go.RowKit
open UK (str BytesAt nth Only Row Box w32)
theorem Stands.sorted {ks : List UInt64} {key : UInt64} {i : Nat} (h : Stands ks key i) (hs : Sorted ks) (hno : key ∉ ks) : Sorted (ks.take i ++ key :: ks.drop i) := by
  have hle := h.le
  have at' : ∀ (a : Nat) (x : UInt64), (ks.take i ++ key :: ks.drop i)[a]? = some x → (a < i ∧ ks[a]? = some x) ∨ (a = i ∧ x = key) ∨ (i < a ∧ ks[a - 1]? = some x) := fun a x hx => by
    rcases Nat.lt_trichotomy a i with h1 | h1 | h1
    · rw [List.getElem?_append_left (by rw [List.length_take]; omega), List.getElem?_take_of_lt h1] at hx
      exact .inl ⟨h1, hx⟩
    · subst h1
      rw [List.getElem?_append_right (by rw [List.length_take]; omega), List.length_take, show a - min a ks.length = 0 by omega] at hx
      exact .inr (.inl ⟨rfl, by simpa using hx.symm⟩)
    · rw [List.getElem?_append_right (by rw [List.length_take]; omega), List.length_take, show a - min i ks.length = (a - 1 - i) + 1 by omega, List.getElem?_cons_succ, List.getElem?_drop, show i + (a - 1 - i) = a - 1 by omega] at hx
      exact .inr (.inr ⟨h1, hx⟩)
  intro a b x y hab hx hy
  rcases at' a x hx with ⟨h1, e1⟩ | ⟨h1, e1⟩ | ⟨h1, e1⟩ <;> rcases at' b y hy with ⟨h2, e2⟩ | ⟨h2, e2⟩ | ⟨h2, e2⟩
  · exact hs a b x y hab e1 e2
  · subst e2; exact h.below a x h1 e1
  · exact hs a (b - 1) x y (by omega) e1 e2
  · omega
  · omega
  · subst e1
    have h3 := h.above (b - 1) y (by omega) e2
    rcases Nat.lt_or_ge x.toNat y.toNat with h4 | h4
    · exact h4
    · exact absurd (List.mem_of_getElem? e2) (by rw [UInt64.toNat_inj.1 (show y.toNat = x.toNat by omega)]; exact hno)
  · omega
  · omega
  · exact hs (a - 1) (b - 1) x y (by omega) e1 e2
theorem Sorted.drop_one {ks : List UInt64} (hs : Sorted ks) (i : Nat) (hi : i < ks.length) : Sorted (ks.take i ++ ks.drop (i + 1)) := by
  have at' : ∀ (a : Nat) (x : UInt64), (ks.take i ++ ks.drop (i + 1))[a]? = some x → (a < i ∧ ks[a]? = some x) ∨ (i ≤ a ∧ ks[a + 1]? = some x) := fun a x hx => by
    rcases Nat.lt_or_ge a i with h1 | h1
    · rw [List.getElem?_append_left (by rw [List.length_take]; omega), List.getElem?_take_of_lt h1] at hx
      exact .inl ⟨h1, hx⟩
    · rw [List.getElem?_append_right (by rw [List.length_take]; omega), List.length_take, List.getElem?_drop, show i + 1 + (a - min i ks.length) = a + 1 by omega] at hx
      exact .inr ⟨h1, hx⟩
  intro a b x y hab hx hy
  rcases at' a x hx with ⟨h1, e1⟩ | ⟨h1, e1⟩ <;> rcases at' b y hy with ⟨h2, e2⟩ | ⟨h2, e2⟩
  · exact hs a b x y hab e1 e2
  · exact hs a (b + 1) x y (by omega) e1 e2
  · omega
  · exact hs (a + 1) (b + 1) x y (by omega) e1 e2
end Go.Proofs.YthjnfclebeggaaaDoor
namespace Go.Proofs.YthjnfclebeggaaaDoor
open Go.RowKit
open UK (str BytesAt nth Only Row Box w32)
open Go.BigFrame
section
variable {E : Nat → Prop} {W W' w2 wc : World} {P D T k : Nat} {A : AP}
/-- a tree that is one leaf, with these keys and values -/
structure LT (E : Nat → Prop) (W : World) (P D T rt : Nat) (A : AP) (k : Nat) (ks vs : List UInt64) : Prop where
  at' : TreeAt E W P D T rt A k
  leaf : LeafIs A rt ks vs
  len : (A.c rt).length = 504
theorem wrote_len {A : AP} {rt : Nat} {ks vs : List UInt64} (hk : ks.length ≤ 30) (hv : vs.length = ks.length) (hy : (A.c rt).length = 504) : ((A.wrote rt (encLeaf (A.c rt) ks vs)).c rt).length = 504 := by
  rw [AP.wrote_c, if_pos rfl, encLeaf_length _ _ _ hk hv (by omega)]; exact hy
theorem lt_put {rt : Nat} {ks vs : List UInt64} (h : LT E W P D T rt A k ks vs) (hk : k + 5 < 900000000) (hn : ks.length < 30) (key v : UInt64) (hno : key ∉ ks) :
    Calls Tryd.prog 26 #[.pointer (some ⟨T, 0, none⟩), .int .u64 key.toNat, .int .u64 v.toNat] W fun e w' => e = .returned (.int .i64 0) ∧ ∃ i A', Stands ks key i ∧ LT E w' P D T rt A' (k + 5) (ks.take i ++ key :: ks.drop i) (vs.take i ++ v :: vs.drop i) ∧ Kept E W w' :=
  (tree_put h.at' hk h.leaf hn key v hno).mono (fun e w' ⟨he, i, hst, ht, hkp⟩ => by
    have hle := hst.le
    have hlv := h.leaf.len
    have e1 : (ks.take i ++ key :: ks.drop i).length ≤ 30 := by simp; omega
    have e2 : (vs.take i ++ v :: vs.drop i).length = (ks.take i ++ key :: ks.drop i).length := by simp; omega
    exact ⟨he, i, _, hst, ⟨ht, LeafIs.wrote h.leaf.has h.len e2 e1 (hst.sorted h.leaf.up hno), wrote_len e1 e2 h.len⟩, hkp⟩)
theorem lt_drop {rt : Nat} {ks vs : List UInt64} (h : LT E W P D T rt A k ks vs) (hk : k + 5 < 900000000) (hn : ks.length ≤ 30) (key : UInt64) (hin : key ∈ ks) :
    Calls Tryd.prog 74 #[.pointer (some ⟨T, 0, none⟩), .int .u64 key.toNat] W fun e w' => e = .returned (.tuple #[.bool true, .int .i64 0]) ∧ ∃ i A', i < ks.length ∧ Stands ks key i ∧ LT E w' P D T rt A' (k + 5) (ks.take i ++ ks.drop (i + 1)) (vs.take i ++ vs.drop (i + 1)) ∧ Kept E W w' :=
  (tree_drop h.at' hk h.leaf hn key hin).mono (fun e w' ⟨he, i, hi, hst, ht, hkp⟩ => by
    have hlv := h.leaf.len
    have e1 : (ks.take i ++ ks.drop (i + 1)).length ≤ 30 := by simp; omega
    have e2 : (vs.take i ++ vs.drop (i + 1)).length = (ks.take i ++ ks.drop (i + 1)).length := by simp; omega
    exact ⟨he, i, _, hi, hst, ⟨ht, LeafIs.wrote h.leaf.has h.len e2 e1 (h.leaf.up.drop_one i hi), wrote_len e1 e2 h.len⟩, hkp⟩)
theorem lt_next {rt : Nat} {ks vs : List UInt64} (h : LT E W P D T rt A k ks vs) (hk : k + 2 < 900000000) (hn : ks.length ≤ 30) (key : UInt64) :
    Calls Tryd.prog 27 #[.pointer (some ⟨T, 0, none⟩), .int .u64 key.toNat] W fun e w' => ∃ i, Stands ks key i ∧ e = .returned (NextAns ks vs i) ∧ LT E w' P D T rt A (k + 2) ks vs ∧ Kept E W w' :=
  (next_leaf h.at' hk h.leaf hn key).mono (fun _ _ ⟨i, hst, he, ht, hkp⟩ => ⟨i, hst, he, ⟨ht, h.leaf, h.len⟩, hkp⟩)
end
end Go.Proofs.YthjnfclebeggaaaDoor
namespace Go.Proofs.YthjnfclebeggaaaDoor
open Go.RowKit
open UK (str BytesAt nth Only Row Box w32)
open Go.BigFrame
section
variable {E : Nat → Prop} {W W' w2 wc : World} {P D T k : Nat} {A : AP}
theorem clean_new (n : Int) : Clean (newD n) 1 := by
  refine ⟨(Ok.new n).fit, (Ok.new n).so, newD_rl n, (newD_still n).wl, fun p h1 h2 => by omega, fun i hi => ?_⟩
  rw [(newD_still n).free] at hi
  exact absurd hi (Nat.not_lt_zero _)
def newA (pages : Int) : AP := { cnt := 1, most := clampD pages, free := [], c := fun p => lookL (newD pages).x p, op := none }
theorem LT.less {E' : Nat → Prop} {rt : Nat} {ks vs : List UInt64} (h : LT E W P D T rt A k ks vs) (hE : ∀ j, E' j → E j) (hT : E' T) : LT E' W P D T rt A k ks vs :=
  ⟨⟨h.at'.pz.less hE, h.at'.box, hT⟩, h.leaf, h.len⟩
set_option maxRecDepth 100000 in
theorem made_new (W : World) (ht : TabAt W) (S : Nat → Prop) (hS : ∀ j, S j → j < W.heap.size) :
    Calls Tryd.prog 25 #[.int .i64 20, .int .i64 2] W fun e w' => ∃ P D T A N M, e = .returned (.tuple #[.pointer (some ⟨P, 0, none⟩), .pointer (some ⟨T, 0, none⟩)]) ∧ LT (fun j => S j ∨ (N ≤ j ∧ j < M)) w' P D T 1 A 3 [] [] ∧ W.heap.size ≤ N ∧ Kept S W w' := by
  have HD := Lib.hid (dd_new W 20 ht S hS)
  go_enter Tryd.func25, Tryd.ntmps25
  go_wp2_with fail
  refine HD.out.mono ?_
  rintro e w1 ⟨rfl, hd, hb⟩
  have HP := Lib.hid (pnew_any hd (Ok.new 20) (clean_new 20) 2 ⟨by omega, by omega⟩ 0)
  have k0 : Kept S W w1 := Kept.of_below hb hS
  have HK := Lib.hid k0
  clear HD hd hb k0
  go_wp2_with fail
  refine HP.out.mono ?_
  rintro e w2 ⟨P, FB, M, q, rfl, hps, hk2, hop⟩
  have st := newD_still 20
  have hpz : PZ S w2 P W.heap.size (newA 20) 0 := ⟨FB, M, 2, q, newD 20, hps, by omega, ⟨st.free, st.most, by rw [hop]; rfl⟩⟩
  have hnf : ¬ (newA 20).Full := by
    intro h
    have h1 : clampD 20 ≤ ((1 : Nat) : Int) := h.1
    have h2 : clampD 20 = 20 := rfl
    omega
  have HT := Lib.hid (tree_new hpz (by omega) hnf)
  have HK2 := Lib.hid (HK.out.trans hk2)
  clear HP HK hps hk2 hop st hpz hnf
  go_wp2_with fail
  refine HT.out.mono ?_
  rintro e w3 ⟨T, N, M', rfl, hbox, hN, hT1, hT2, hpz, hk3⟩
  have HX := Lib.hid (And.intro hbox (And.intro hN (And.intro hT1 (And.intro hT2 (And.intro hpz hk3)))))
  clear HT hbox hN hT1 hT2 hpz hk3
  go_wp2
  go_ret2
  obtain ⟨hbox, hN, hT1, hT2, hpz, hk3⟩ := HX.out
  have hh : (newA 20).take.Has 1 := ⟨by omega, by show 1 < 2; omega, by show 1 ∉ ([] : List Nat); simp, by show ((1 : Nat) : Int) ∉ ([] : List Int); simp⟩
  exact ⟨P, _, T, _, N, M', rfl, ⟨⟨hpz, hbox, .inr ⟨hT1, hT2⟩⟩, LeafIs.wrote hh (UK.zeros_length 504) rfl (by simp) (fun a b x y _ hx => by simp at hx), by
    rw [AP.wrote_c, if_pos (show (newA 20).next = 1 from rfl), encLeaf_length _ _ _ (by simp) rfl (by rw [UK.zeros_length]; omega)]; exact UK.zeros_length 504⟩, Nat.le_trans HK2.out.size hN, HK2.out.trans hk3⟩
end
end Go.Proofs.YthjnfclebeggaaaDoor
