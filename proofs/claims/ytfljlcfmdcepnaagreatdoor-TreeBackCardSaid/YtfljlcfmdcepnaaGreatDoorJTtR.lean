/-
  What a pool that is under way keeps of what it was ahead of that, in plain words. The pool: Begin, end, Commit. The pool: Commit.
  tabularlaw08.Does: begin, commit, undo.
  tabularlaw08.Does: commit.
  A range over a function whose rounds all go on; slices.Backward of a list of ints. The keys of a map from ints to strings, sorted; a string of it.
  The pool: Undo.
  tabularlaw08.Does: undo.
  tabularlaw08.Does: clear; nothing at all; the tree opened anew.
  tabularlaw08.Does: the tree is opened anew.
  A new tree over a new pool over a new disk of 400 pages, with any frames.
  A new tree: its plain facts.
  A tree has at most 30 entries a page.
  tabularlaw08's loop: what stands between two calls.
  tabularlaw08's loop: the steps.
  tabularlaw08's loop: where keys go.
  tabularlaw08's loop: where keys come.
  tabularlaw08's loop: a run of puts.
  tabularlaw08.Does: any call leaves what stands between two calls.
  tabularlaw08: awake.
  tabularlaw08's laws: a run in the law's own box, ahead of Does, behind it, and behind r = s.
  A slice of acts (a struct of four fields of one cell), laid open to its cells.
  disk.Open: within it. disk.Open, walked.
  A pool that is flushed; its disk's bytes, opened; a pool over that.
  Behind puts and drops alone: a shut pool that is one tree.
  A new tree over a new pool over a new disk of 300 pages.
  tabularlaw08's laws: as TtN, with one more block that stays as it is.
-/
import Derived.Test.YtfljlcfmdcepnaaGreatDoorJPoolJ
import Derived.Test.YtfljlcfmdcepnaaGreatDoorJTsY
import Derived.RangeFuncNested
import Derived.RangeFuncBound
import Derived.RangeFuncCalls
import Derived.RangeFuncLeaves
import Derived.OwnWalkIn
import Derived.TacticsInMore
import Derived.LoopNIn
import Derived.LoopIn
import Derived.Test.YtfljlcfmdcepnaaGreatDoorShelf
import Derived.Deep.DeepCutAuto
import Derived.Test.YtfljlcfmdcepnaaGreatDoorJTreeN
import Derived.Test.YtfljlcfmdcepnaaGreatDoorJTsN
import Derived.Test.YtfljlcfmdcepnaaGreatDoorJUKit
import Derived.Deep.Slices
import Derived.Deep.Fields
import Derived.ChangeSame
import Derived.ProofKit
import Derived.Test.YtfljlcfmdcepnaaGreatDoorJPoolC
import Derived.Test.YtfljlcfmdcepnaaGreatDoorJDiskO
import Derived.Deep.OwnRows
import Derived.Deep.RegionWith
import Derived.Deep.RegionLaw
import Derived.Test.YtfljlcfmdcepnaaGreatDoorJTsW
namespace Go.Proofs.YtfljlcfmdcepnaaGreatDoor
namespace AP
variable {A A0 B X : AP} {o : AO}
end AP
end Go.Proofs.YtfljlcfmdcepnaaGreatDoor
namespace Go.Proofs.YtfljlcfmdcepnaaGreatDoor
open Go.RowKit
open UK (str BytesAt nth Only Row Box IntMap StrMap)
open Go.BigFrame
section
variable {E : Nat → Prop} {W W' : World} {P D FB M cnt k n : Nat} {kp : Int} {q : Pl} {d d' : Dk} {c : Nat → List UInt8} {A B : AP} {o : AO}
end
end Go.Proofs.YtfljlcfmdcepnaaGreatDoor
namespace Go.Proofs.YtfljlcfmdcepnaaGreatDoor
open Go.RowKit
open UK (str BytesAt nth Only Row Box IntMap StrMap)
open Go.BigFrame
section
variable {E : Nat → Prop} {W W' : World} {P D FB M cnt k n : Nat} {A B : AP} {o : AO}
end
end Go.Proofs.YtfljlcfmdcepnaaGreatDoor
namespace Go.Proofs.YtfljlcfmdcepnaaGreatDoor
open Go.RowKit
open UK (str BytesAt nth Only Row Box)
section
variable {S : Nat → Prop} {W W' : World} {P D T k c d : Nat} {A : AP} {X Y : List KV} {ps : List Nat} {ao bo : Option Addr} {op : Bool}
end
end Go.Proofs.YtfljlcfmdcepnaaGreatDoor
namespace Go.Proofs.YtfljlcfmdcepnaaGreatDoor
open Go.RowKit
open UK (str BytesAt nth Only Row Box)
section
variable {S : Nat → Prop} {W W' : World} {P D T k c d : Nat} {A : AP} {X Y : List KV} {ps : List Nat} {ao bo : Option Addr} {op : Bool}
end
end Go.Proofs.YtfljlcfmdcepnaaGreatDoor
namespace Go.Proofs.YtfljlcfmdcepnaaGreatDoor
open Go.RowKit
open UK (str BytesAt nth Only Row Box)
open Go.BigFrame
attribute [local go_sem] Oper.semAt_some
end Go.Proofs.YtfljlcfmdcepnaaGreatDoor
namespace Go.Proofs.YtfljlcfmdcepnaaGreatDoor
open Go.RowKit Go.Maps Go.Sort Go.Shelf
open UK (str BytesAt nth Only Row Box StrMap)
open Go.BigFrame
end Go.Proofs.YtfljlcfmdcepnaaGreatDoor
namespace Go.Proofs.YtfljlcfmdcepnaaGreatDoor
open Go.RowKit
open UK (str BytesAt nth Only Row Box IntMap StrMap)
open Go.BigFrame
attribute [local go_sem] Oper.semAt_some
section
variable {E : Nat → Prop} {W W' : World} {P D k n : Nat} {A B A0 : AP} {o : AO}
end
end Go.Proofs.YtfljlcfmdcepnaaGreatDoor
namespace Go.Proofs.YtfljlcfmdcepnaaGreatDoor
open Go.RowKit
open UK (str BytesAt nth Only Row Box)
section
variable {S : Nat → Prop} {W W' : World} {P D T k c d : Nat} {A : AP} {X Y : List KV} {ps : List Nat} {ao bo : Option Addr} {op : Bool}
end
end Go.Proofs.YtfljlcfmdcepnaaGreatDoor
namespace Go.Proofs.YtfljlcfmdcepnaaGreatDoor
open Go.RowKit
open UK (str BytesAt nth Only Row Box)
section
variable {S : Nat → Prop} {W W' : World} {P D T k c d : Nat} {A : AP} {X Y : List KV} {ps : List Nat} {ao bo : Option Addr} {op : Bool}
end
end Go.Proofs.YtfljlcfmdcepnaaGreatDoor
namespace Go.Proofs.YtfljlcfmdcepnaaGreatDoor
open Go.RowKit
open UK (str BytesAt nth Only Row Box)
section
variable {S : Nat → Prop} {W W' : World} {P D T k c d : Nat} {A : AP} {X Y : List KV} {ps : List Nat} {ao bo : Option Addr} {op : Bool}
theorem tree_at_any (P : Nat) (rt : Int) (W : World) :
    Calls Tryz.prog 16 #[.pointer (some ⟨P, 0, none⟩), .int .i64 rt] W fun e w' => e = .returned (.pointer (some ⟨W.heap.size, 0, none⟩)) ∧ w' = W.alloc (.cells #[.pointer (some ⟨P, 0, none⟩), .int .i64 rt] 111) := by
  go_enter Tryz.func16, Tryz.ntmps16
  go_wp2
  go_ret
  exact ⟨rfl, rfl⟩
theorem tree_root_any {P : Nat} {rt : Int} (h : Box W T #[.pointer (some ⟨P, 0, none⟩), .int .i64 rt]) :
    Calls Tryz.prog 17 #[.pointer (some ⟨T, 0, none⟩)] W fun e w' => e = .returned (.int .i64 rt) ∧ w' = W := by
  have c1 : W.cell? ⟨T, 1, none⟩ = some (.int .i64 rt) := h.cell 1 _ rfl
  clear h
  go_enter Tryz.func17, Tryz.ntmps17
  go_wp2
  go_ret
  exact ⟨rfl, rfl⟩
end
end Go.Proofs.YtfljlcfmdcepnaaGreatDoor
namespace Go.Proofs.YtfljlcfmdcepnaaGreatDoor
open Go.RowKit
open UK (str BytesAt nth Only Row Box)
def leafA (pages : Int) : AP := (newA pages).take.wrote 1 (encLeaf (UK.zeros 504) [] [])
end Go.Proofs.YtfljlcfmdcepnaaGreatDoor
namespace Go.Proofs.YtfljlcfmdcepnaaGreatDoor
open Go.RowKit
open UK (str BytesAt nth Only Row Box)
end Go.Proofs.YtfljlcfmdcepnaaGreatDoor
namespace Go.Proofs.YtfljlcfmdcepnaaGreatDoor
open Go.RowKit
end Go.Proofs.YtfljlcfmdcepnaaGreatDoor
namespace Go.Proofs.YtfljlcfmdcepnaaGreatDoor
open Go.RowKit
theorem nodup_le8 : ∀ (l m : List Nat), l.Nodup → (∀ x, x ∈ l → x ∈ m) → l.length ≤ m.length
  | [], m, _, _ => Nat.zero_le _
  | a :: l, m, h, hs => by
    obtain ⟨h1, h2⟩ := List.nodup_cons.1 h
    have ha := hs a (List.mem_cons_self ..)
    have := nodup_le8 l (m.erase a) h2 (fun x hx => (List.mem_erase_of_ne (show x ≠ a from fun e => h1 (e ▸ hx))).2 (hs x (List.mem_cons_of_mem _ hx)))
    rw [List.length_erase_of_mem ha] at this
    have hm : 0 < m.length := List.length_pos_of_mem ha
    rw [List.length_cons]
    omega
theorem most_moves8 (m : Int) : AP.Moves (fun B => B.most = m) := ⟨fun X p s h hp => h, fun X p h hp => h, fun X h hf => h, fun X p h hp => by
  unfold AP.give
  cases X.op <;> exact h⟩
theorem AP.Reach.most8 {A B : AP} (h : A.Reach B) : B.most = A.most := h _ (most_moves8 A.most) rfl
theorem AP.Good.count8 {A : AP} (g : A.Good) (e : A.op = none) {l : List Nat} (hn : l.Nodup) (hl : ∀ p, A.Has p ↔ p ∈ l) : (A.rooms : Int) + l.length = A.most - 1 := by
  have hg0 : A.goneL = [] := by unfold AP.goneL; rw [e]
  have hh : ∀ p, A.Has p ↔ 1 ≤ p ∧ p < A.cnt ∧ p ∉ A.free := fun p => by
    unfold AP.Has
    rw [hg0]
    exact ⟨fun ⟨a, b, c, _⟩ => ⟨a, b, c⟩, fun ⟨a, b, c⟩ => ⟨a, b, c, List.not_mem_nil⟩⟩
  have h1 := nodup_le8 (l ++ A.free) (List.range' 1 (A.cnt - 1)) (List.nodup_append.2 ⟨hn, g.nod, fun a ha b hb e => by
    subst e
    exact ((hh a).1 ((hl a).2 ha)).2.2 hb⟩) (fun x hx => by
    rw [List.mem_range'_1]
    rcases List.mem_append.1 hx with hx | hx
    · have := (hh x).1 ((hl x).2 hx); omega
    · have := g.free x hx; omega)
  have h2 := nodup_le8 (List.range' 1 (A.cnt - 1)) (l ++ A.free) (List.nodup_range' ..) (fun x hx => by
    rw [List.mem_range'_1] at hx
    rw [List.mem_append]
    by_cases hf : x ∈ A.free
    · exact .inr hf
    · exact .inl ((hl x).1 ((hh x).2 ⟨by omega, by omega, hf⟩)))
  rw [List.length_append, List.length_range'] at h1 h2
  have := g.one
  have := g.most
  unfold AP.rooms
  omega
end Go.Proofs.YtfljlcfmdcepnaaGreatDoor
namespace Go.Proofs.YtfljlcfmdcepnaaGreatDoor
open Go.RowKit
variable {A B A0 : AP} {X Y : List KV} {j : Nat}
end Go.Proofs.YtfljlcfmdcepnaaGreatDoor
namespace Go.Proofs.YtfljlcfmdcepnaaGreatDoor
open Go.RowKit
variable {A B A0 : AP} {X X' Y : List KV} {j : Nat} {op : Bool} {ps : List Nat}
theorem delL_le (X : List KV) (k : UInt64) : (delL X k).length ≤ X.length := List.length_filter_le _ _
end Go.Proofs.YtfljlcfmdcepnaaGreatDoor
namespace Go.Proofs.YtfljlcfmdcepnaaGreatDoor
open Go.RowKit
variable {A B A0 : AP} {X X' Y : List KV} {j : Nat} {op : Bool} {ps : List Nat}
theorem insL_le {X : List KV} (k v : UInt64) (_h : Rise X) : (insL X k v).length ≤ X.length + 1 := by
  have e : ∀ l : List KV, (l.filter (fun x => decide (x.1.toNat < k.toNat))).length + (l.filter (fun x => decide (k.toNat < x.1.toNat))).length ≤ l.length := by
    intro l
    induction l with
    | nil => simp
    | cons a r ih =>
      simp only [List.filter_cons]
      by_cases h1 : a.1.toNat < k.toNat
      · have h2 : ¬ k.toNat < a.1.toNat := by omega
        simp only [h1, h2, decide_true, decide_false, if_true, List.length_cons]
        simp only [Bool.false_eq_true, if_false]
        omega
      · by_cases h2 : k.toNat < a.1.toNat <;> simp only [h1, h2, decide_true, decide_false, if_true, Bool.false_eq_true, if_false, List.length_cons] <;> omega
  have := e X
  unfold insL
  rw [List.length_append, List.length_cons]
  exact Nat.succ_le_succ this
end Go.Proofs.YtfljlcfmdcepnaaGreatDoor
namespace Go.Proofs.YtfljlcfmdcepnaaGreatDoor
open Go.RowKit
variable {A B A0 : AP} {X X' Y : List KV} {j : Nat} {op : Bool} {ps : List Nat}
theorem shut_moves8 : AP.Moves (fun B => B.op = none) := ⟨fun X p s h hp => by show (X.keep p).op = none; unfold AP.keep; rw [h]; rfl, fun X p h hp => by unfold AP.keep; rw [h]; rfl, fun X h hf => by show X.op.map _ = none; rw [h]; rfl, fun X p h hp => by unfold AP.give; rw [h]⟩
end Go.Proofs.YtfljlcfmdcepnaaGreatDoor
namespace Go.Proofs.YtfljlcfmdcepnaaGreatDoor
open Go.RowKit
open UK (str BytesAt nth Only Row Box)
theorem DoesR.imp {S : Nat → Prop} {W w' : World} {P D K K' : Nat} {Q Q' : AP → List KV → List KV → Bool → Prop} {e : Ending} (h : DoesR S W w' P D K Q e) (hk : K ≤ K') (hq : ∀ A X Y op, Q A X Y op → Q' A X Y op) : DoesR S W w' P D K' Q' e := by
  obtain ⟨T, ao, c, X, bo, d, Y, op, A, k, h1, h2, h3, h4, h5⟩ := h
  exact ⟨T, ao, c, X, bo, d, Y, op, A, k, h1, h2, Nat.le_trans h3 hk, h4, hq _ _ _ _ h5⟩
section
variable {S : Nat → Prop} {W : World} {P D T k c d j : Nat} {A A0 : AP} {X Y : List KV} {ao bo : Option Addr} {op : Bool}
end
end Go.Proofs.YtfljlcfmdcepnaaGreatDoor
namespace Go.Proofs.YtfljlcfmdcepnaaGreatDoor
open Go.RowKit
open UK (str BytesAt nth Only Row Box w32)
open Go.BigFrame
theorem st0 {k : UInt64} {i : Nat} (h : Stands [] k i) : i = 0 := Nat.le_zero.1 h.le
theorem st1 {a k : UInt64} {i : Nat} (h : Stands [a] k i) : (a.toNat < k.toNat → i = 1) ∧ (k.toNat ≤ a.toNat → i = 0) := by
  have hle : i ≤ 1 := h.le
  refine ⟨fun hk => ?_, fun hk => ?_⟩
  · rcases Nat.eq_zero_or_pos i with h0 | h0
    · have := h.above 0 a (by omega) rfl; omega
    · omega
  · rcases Nat.eq_zero_or_pos i with h0 | h0
    · exact h0
    · have := h.below 0 a h0 rfl; omega
theorem st2 {a b k : UInt64} {i : Nat} (h : Stands [a, b] k i) : (a.toNat < k.toNat → k.toNat ≤ b.toNat → i = 1) ∧ (k.toNat ≤ a.toNat → i = 0) := by
  have hle : i ≤ 2 := h.le
  refine ⟨fun h1 h2 => ?_, fun hk => ?_⟩
  · rcases Nat.lt_trichotomy i 1 with h0 | h0 | h0
    · have := h.above 0 a (by omega) rfl; omega
    · exact h0
    · have := h.below 1 b h0 rfl; omega
  · rcases Nat.eq_zero_or_pos i with h0 | h0
    · exact h0
    · have := h.below 0 a h0 rfl; omega
set_option maxHeartbeats 1000000 in
set_option maxRecDepth 100000 in
theorem awake_any (W : World) (ht : TabAt W) (S : Nat → Prop) (hS : ∀ j, S j → j < W.heap.size) :
    Calls Tryz.prog 14 #[] W fun e w' => e = .returned (.bool true) ∧ Kept S W w' := by
  have HM := Lib.hid (made_new W ht S hS)
  go_enter Tryz.func14, Tryz.ntmps14
  go_wp2_with fail
  refine HM.out.mono ?_
  rintro e w1 ⟨P, D, T, A, N, M, rfl, l1, hN, k1⟩
  have h1 := lt_put l1 (by omega) (by simp) 5 50 (by simp)
  rw [show ((5 : UInt64).toNat : Int) = 5 from rfl, show ((50 : UInt64).toNat : Int) = 50 from rfl] at h1
  have H1 := Lib.hid h1
  have K1 := Lib.hid k1
  clear HM l1 hN k1 h1
  go_wp2_with fail
  refine H1.out.mono ?_
  rintro e w2 ⟨rfl, i, A2, hst, l2, k2⟩
  obtain rfl := st0 hst
  replace l2 : LT (fun j => S j ∨ (N ≤ j ∧ j < M)) w2 P D T 1 A2 8 [5] [50] := l2
  have h2 := lt_put l2 (by omega) (by simp) 2 20 (by simp)
  rw [show ((2 : UInt64).toNat : Int) = 2 from rfl, show ((20 : UInt64).toNat : Int) = 20 from rfl] at h2
  have H2 := Lib.hid h2
  have K2 := Lib.hid (K1.out.trans (k2.mono (fun _ hj => .inl hj)))
  clear H1 K1 l2 k2 h2 hst
  go_wp2_with fail
  refine H2.out.mono ?_
  rintro e w3 ⟨rfl, i, A3, hst, l3, k3⟩
  obtain rfl := (st1 hst).2 (by decide)
  replace l3 : LT (fun j => S j ∨ (N ≤ j ∧ j < M)) w3 P D T 1 A3 13 [2, 5] [20, 50] := l3
  have h3 := lt_next l3 (by omega) (by simp) 3
  rw [show ((3 : UInt64).toNat : Int) = 3 from rfl] at h3
  have H3 := Lib.hid h3
  have K3 := Lib.hid (K2.out.trans (k3.mono (fun _ hj => .inl hj)))
  clear H2 K2 l3 k3 h3 hst
  go_wp2_with fail
  refine H3.out.mono ?_
  rintro e w4 ⟨i, hst, he, l4, k4⟩
  obtain rfl := (st2 hst).1 (by decide) (by decide)
  obtain rfl : e = .returned (.tuple #[.int .u64 5, .int .u64 50, .bool true, .int .i64 0]) := he
  have h4 := lt_drop l4 (by omega) (by simp) 5 (by simp)
  rw [show ((5 : UInt64).toNat : Int) = 5 from rfl] at h4
  have H4 := Lib.hid h4
  have K4 := Lib.hid (K3.out.trans (k4.mono (fun _ hj => .inl hj)))
  clear H3 K3 l4 k4 h4 hst
  go_wp2_with fail
  refine H4.out.mono ?_
  rintro e w5 ⟨rfl, i, A5, hi, hst, l5, k5⟩
  obtain rfl := (st2 hst).1 (by decide) (by decide)
  replace l5 : LT (fun j => S j ∨ (N ≤ j ∧ j < M)) w5 P D T 1 A5 20 [2] [20] := l5
  have h5 := lt_next l5 (by omega) (by simp) 3
  rw [show ((3 : UInt64).toNat : Int) = 3 from rfl] at h5
  have H5 := Lib.hid h5
  have K5 := Lib.hid (K4.out.trans (k5.mono (fun _ hj => .inl hj)))
  clear H4 K4 l5 k5 h5 hst hi
  go_wp2_with fail
  refine H5.out.mono ?_
  rintro e w6 ⟨i, hst, he, l6, k6⟩
  obtain rfl := (st1 hst).1 (by decide)
  obtain rfl : e = .returned (.tuple #[.int .u64 0, .int .u64 0, .bool false, .int .i64 0]) := he
  have K6 := Lib.hid (K5.out.trans (k6.mono (fun _ hj => .inl hj)))
  clear H5 K5 l6 k6 hst
  go_wp2
  go_ret
  exact ⟨rfl, K6.out⟩
end Go.Proofs.YtfljlcfmdcepnaaGreatDoor
namespace Go.Proofs.YtfljlcfmdcepnaaGreatDoor
open Go.RowKit
open UK (str BytesAt nth Only Row Box)
open Go.BigFrame
theorem UK.Box.size_eq {w : World} {g : Nat} {a b : Array Value} (h : Box w g a) (h' : Box w g b) : a = b := by
  obtain ⟨t, h1⟩ := h
  obtain ⟨u, h2⟩ := h'
  rw [h1] at h2
  simp only [Option.some.injEq, Obj.cells.injEq] at h2
  exact h2.1
theorem PrX.five {w w2 : World} {g c : Nat} {ao : Option Addr} {X : List KV} {p p1 p2 p3 p4 : Value} {q : Option Addr} {a0 a1 a2 a3 a4 : Value} (h : PrX w ao c X) (hb : Box w g #[p, p1, p2, p3, p4]) (hp : p = .pointer q) (h2 : Box w2 g #[a0, a1, a2, a3, a4]) (o : Only g w w2) : PrX w2 ao c X := by
  rcases h with h | ⟨r, rfl, hr⟩
  · exact .inl h
  · refine .inr ⟨r, rfl, ?_⟩
    by_cases he : r = g
    · subst he
      have hX : X = [] := by
        cases X with
        | nil => rfl
        | cons x X =>
          have h1 := hr.holds 0 (by simp [flatX, cellP])
          rw [hb.cell 0 p rfl, hp] at h1
          simp [flatX, cellP] at h1
      subst hX
      refine ⟨h2.lt, hr.le, fun j hj => absurd hj (by simp [flatX]), fun j hj => ⟨?_, h2.free j⟩⟩
      have h3 := (hr.there j hj).1
      have hj5 : j < 5 := by
        by_cases hj : j < 5
        · exact hj
        · obtain ⟨t, ht⟩ := hb
          unfold World.cell? at h3
          simp only [ht] at h3
          rw [Array.getElem?_eq_none (by simp; omega)] at h3
          cases h3
      match j, hj5 with
      | 0, _ => rw [h2.cell 0 _ rfl]; rfl
      | 1, _ => rw [h2.cell 1 _ rfl]; rfl
      | 2, _ => rw [h2.cell 2 _ rfl]; rfl
      | 3, _ => rw [h2.cell 3 _ rfl]; rfl
      | 4, _ => rw [h2.cell 4 _ rfl]; rfl
    · exact hr.of_block o.size (o.block r hr.lt he)
section
variable {S : Nat → Prop} {W w w2 : World} {P D T k c d g : Nat} {A : AP} {X Y : List KV} {ao bo : Option Addr} {op : Bool}
theorem RM.five {p p1 p2 p3 p4 : Value} {q : Option Addr} {a0 a1 a2 a3 a4 : Value} (h : RM S w P D T ao c X bo d Y A k) (hS : S g) (hg : g ≠ 0) (hb : Box w g #[p, p1, p2, p3, p4]) (hp : p = .pointer q) (h2 : Box w2 g #[a0, a1, a2, a3, a4]) (o : Only g w w2) : RM S w2 P D T ao c X bo d Y A k := by
  have hT : T ≠ g := fun e => by
    subst e
    have := UK.Box.size_eq hb h.tr.box
    have := congrArg Array.size this
    simp at this
  exact ⟨⟨h.tr.pz.over (R := fun j => j = g) (fun j hj => by rw [hj]; exact .inl hS) (fun e => hg e.symm) o.size (fun j hj hr => o.block j hj hr) (fun _ hj => .inl hj), h.tr.box.only o hT, h.tr.mem⟩, h.px.five hb hp h2 o, h.py.five hb hp h2 o⟩
theorem RM.wide {S' : Nat → Prop} (h : RM S w P D T ao c X bo d Y A k) (hb : Below w.heap.size w w2) (hS : ∀ j, S' j → S j ∨ (w.heap.size ≤ j ∧ j < w2.heap.size)) : RM S' w2 P D T ao c X bo d Y A k :=
  ⟨⟨h.tr.pz.wide hb (fun j hj => by
    rcases hj with hj | hj
    · rcases hS j hj with h1 | h1
      · exact .inl (.inl h1)
      · exact .inr h1
    · exact .inl (.inr hj)), h.tr.box.next hb, .inr (.inl rfl)⟩, h.px.next hb, h.py.next hb⟩
end
section
variable {Q : AP → List KV → List KV → Bool → Prop} {W w w2 w3 : World} {P D T k c d g rb q n m K : Nat} {A : AP} {X Y : List KV} {ao bo : Option Addr} {op : Bool}
end
section
variable {E : Nat → Prop} {W : World} {P D k : Nat} {A : AP}
set_option maxRecDepth 100000 in
theorem pz_disk8 (h : PZ E W P D A k) :
    Calls Tryz.prog 11 #[.pointer (some ⟨P, 0, none⟩)] W fun e w' => e = .returned (.pointer (some ⟨D, 0, none⟩)) ∧ w' = W := by
  obtain ⟨FB, M, n, q, d, h1, r⟩ := h
  have c0 : W.cell? ⟨P, 0, none⟩ = some (.pointer (some ⟨D, 0, none⟩)) := h1.pd.pool.box.cell 0 _ rfl
  clear h1 r
  go_enter Tryz.func11, Tryz.ntmps11
  go_wp2
  go_ret
  exact ⟨rfl, rfl⟩
end
end Go.Proofs.YtfljlcfmdcepnaaGreatDoor
namespace Go.Proofs.YtfljlcfmdcepnaaGreatDoor.A8
open Go.RowKit Go.ChangeShapes Go.WideShapes Go.Deep
open UK (str)
section
variable {H : Type} {enc : TypeId × Value → H} {P : Program} {w : World} {base : Nat} {spare : Nat → Bool} {held : Bool}
theorem open_slice_fields {t e : TypeId} {fs : Array Field} {fuel : Nat} {cs : List Value} {x : DataW H × List MemPlace} (ht : P.underlying t = some (.slice e)) (he : P.underlying e = some (.struct fs))
    (hone : oneCellFields P fs = true) (hC : P.cellsOf e = fs.size) (h : DataW.trod enc P w base spare held fuel t cs = some x) :
    (cs = [.slice none 0 0] ∧ x = (.nil, [])) ∨
    ∃ (a : Addr) (len cap m : Nat) (D : Nat → DataW H) (Pl : Nat → List MemPlace), cs = [.slice (some a) len cap] ∧ base ≤ a.block ∧ len ≤ cap ∧ cap ≤ maxLen ∧ m = (if spare a.block then cap else len) ∧
      x = (.slice ((List.range len).map D) ((List.range (m - len)).map fun j => D (len + j)), MemPlace.row a (m * fs.size) ++ (List.range m).flatMap Pl) ∧
      ∀ i, i < m → ∃ (ys : List (DataW H × List MemPlace)) (n : Nat), D i = .agg (ys.map (·.1)) ∧ Pl i = ys.flatMap (·.2) ∧ ys.length = fs.size ∧
        ∀ (j : Nat) (f : Field), fs[j]? = some f → ∃ (v : Value) (y : DataW H × List MemPlace), w.cell? (a.add (i * fs.size + j)) = some v ∧ ys[j]? = some y ∧ DataW.trod enc P w base spare held n f.type [v] = some y := by
  rcases open_slice ht h with h0 | ⟨a, len, cap, m, n, D, Pl, hcs, hb, hl, hm, hmm, hx, hi⟩
  · exact .inl h0
  · refine .inr ⟨a, len, cap, m, D, Pl, hcs, hb, hl, hm, hmm, by rw [hC] at hx; exact hx, fun i him => ?_⟩
    obtain ⟨cs', hc, ht'⟩ := hi i him
    rw [hC] at hc
    obtain ⟨ys, n', hn', hy, hlen, hyl, hf⟩ := DataW.trod_struct he ht'
    obtain ⟨_, hcl, hat⟩ := World.cells?_some hc
    simp only [Prod.mk.injEq] at hy
    refine ⟨ys, n', hy.1, hy.2, hyl, fun j f hj => ?_⟩
    obtain ⟨ho, hk⟩ := hone_of hone j f hj
    have hjl : j < fs.size := (Array.getElem?_eq_some_iff.1 hj).1
    have hcell := hat j hjl
    have hv : cs'[j]? = some (cs'[j]'(by omega)) := List.getElem?_eq_getElem (by omega)
    have h1 := hf j f hj
    rw [ho, hk] at h1
    have hone' : (cs'.drop j).take 1 = [cs'[j]'(by omega)] := by
      rw [List.drop_eq_getElem_cons (by omega)]
      rfl
    rw [hone'] at h1
    have hys : ys[j]? = some (ys[j]'(by omega)) := List.getElem?_eq_getElem (by omega)
    refine ⟨_, _, ?_, hys, h1.trans hys⟩
    rw [← Go.Deep.add_add, hcell, hv]
end
theorem u64_wf {a : Int} (h : (Lit.int .u64 a).wf = true) : ∃ u : UInt64, a = (u.toNat : Int) := by
  simp [Lit.wf, IntKind.min, IntKind.max, IntKind.signed, IntKind.bits] at h
  exact ⟨UInt64.ofNat a.toNat, by simp; omega⟩
structure ActsAt (W : World) (b off len : Nat) (kd ii : Nat → Int) (ni si : Nat → UInt64) : Prop where
  c0 : ∀ i, i < len → W.cell? ⟨b, off + i * 4, none⟩ = some (.int .i64 (kd i))
  c1 : ∀ i, i < len → W.cell? ⟨b, off + i * 4 + 1, none⟩ = some (.int .i64 (ii i))
  c2 : ∀ i, i < len → W.cell? ⟨b, off + i * 4 + 2, none⟩ = some (.int .u64 (ni i).toNat)
  c3 : ∀ i, i < len → W.cell? ⟨b, off + i * 4 + 3, none⟩ = some (.int .u64 (si i).toNat)
set_option maxRecDepth 100000 in
theorem act_fields : Tryz.prog.underlying 32 = some (.struct #[{ name := "Kind", type := 3, offset := 0, embedded := false, tag := "", pkgPath := "", byteOffset := 0 }, { name := "N", type := 3, offset := 1, embedded := false, tag := "", pkgPath := "", byteOffset := 8 }, { name := "K", type := 23, offset := 2, embedded := false, tag := "", pkgPath := "", byteOffset := 16 }, { name := "V", type := 23, offset := 3, embedded := false, tag := "", pkgPath := "", byteOffset := 24 }]) := by kernel_rfl
set_option maxRecDepth 100000 in
theorem act_one : oneCellFields Tryz.prog #[{ name := "Kind", type := 3, offset := 0, embedded := false, tag := "", pkgPath := "", byteOffset := 0 }, { name := "N", type := 3, offset := 1, embedded := false, tag := "", pkgPath := "", byteOffset := 8 }, { name := "K", type := 23, offset := 2, embedded := false, tag := "", pkgPath := "", byteOffset := 16 }, { name := "V", type := 23, offset := 3, embedded := false, tag := "", pkgPath := "", byteOffset := 24 }] = true := by kernel_rfl
theorem act_cells : Tryz.prog.cellsOf 32 = 4 := by kernel_rfl
theorem spot_none {w : World} {a : Addr} {v : Value} (h : w.cell? a = some v) : a.spot = none := by
  unfold World.cell? at h
  split at h
  · split at h
    · cases h
    · rename_i hs; simpa using hs
  · cases h
theorem add_mk (b off n : Nat) : (⟨b, off, none⟩ : Addr).add n = ⟨b, off + n, none⟩ := by
  unfold Addr.add
  by_cases hn : n = 0 <;> simp [hn]
set_option maxRecDepth 100000 in
theorem acts_open {H : Type} {enc : TypeId × Value → H} {base : Nat} {d : DataW H} {p : List MemPlace} (W : World) (v : Value) (hok : Value.okWide Tryz.prog W .any base 22 v) (h : DataW.Trod enc Tryz.prog W 0 (fun _ => true) true 22 v d p) :
    (∃ ao cap, v = .slice ao 0 cap) ∨ ∃ b off len cap kd ii ni si, v = .slice (some ⟨b, off, none⟩) len cap ∧ ActsAt W b off len kd ii ni si ∧ b < W.heap.size ∧ len ≤ maxLen := by
  obtain ⟨a0, len0, cap0, rfl⟩ := okWide_slice Tryz.underlying22 hok
  obtain ⟨fuel, hf⟩ := h
  rcases open_slice_fields Tryz.underlying22 act_fields act_one act_cells hf with ⟨hcs, _⟩ | ⟨a, len, cap, m, D, Pl, hcs, hb, hl, hm, hmm, hx, hi⟩
  · simp only [Value.cells, List.cons.injEq, and_true] at hcs
    obtain ⟨rfl, rfl, rfl⟩ := Value.slice.inj hcs
    exact .inl ⟨none, 0, rfl⟩
  · simp only [Value.cells, List.cons.injEq, and_true] at hcs
    obtain ⟨rfl, rfl, rfl⟩ := Value.slice.inj hcs
    by_cases hl0 : len0 = 0
    · subst hl0; exact .inl ⟨_, _, rfl⟩
    · have hmc : m = cap0 := by rw [hmm]; rfl
      have hcell : ∀ i, i < len0 → ∃ (k0 k1 : Int) (k2 s3 : UInt64), W.cell? (a.add (i * 4)) = some (.int .i64 k0) ∧ W.cell? (a.add (i * 4 + 1)) = some (.int .i64 k1) ∧ W.cell? (a.add (i * 4 + 2)) = some (.int .u64 k2.toNat) ∧ W.cell? (a.add (i * 4 + 3)) = some (.int .u64 s3.toNat) := fun i hil => by
        obtain ⟨ys, n, _, _, _, hj⟩ := hi i (by omega)
        obtain ⟨v0, y0, h0, _, t0⟩ := hj 0 _ rfl
        obtain ⟨v1, y1, h1, _, t1⟩ := hj 1 _ rfl
        obtain ⟨v2, y2, h2, _, t2⟩ := hj 2 _ rfl
        obtain ⟨v3, y3, h3, _, t3⟩ := hj 3 _ rfl
        obtain ⟨k0, e0, _, _⟩ := DataW.trod_int Tryz.underlying3 t0
        obtain ⟨k1, e1, _, _⟩ := DataW.trod_int Tryz.underlying3 t1
        obtain ⟨k2, e2, _, w2⟩ := DataW.trod_int Tryz.underlying23 t2
        obtain ⟨s3, e3, _, w3⟩ := DataW.trod_int Tryz.underlying23 t3
        simp only [List.cons.injEq, and_true] at e0 e1 e2 e3
        subst e0 e1 e2 e3
        obtain ⟨u2, rfl⟩ := u64_wf w2
        obtain ⟨u3, rfl⟩ := u64_wf w3
        exact ⟨k0, k1, u2, u3, h0, h1, h2, h3⟩
      have hsp : a.spot = none := by
        obtain ⟨k0, _, _, _, h0, _⟩ := hcell 0 (by omega)
        have e : a.add (0 * 4) = a := by simp [Addr.add]
        rw [e] at h0
        exact spot_none h0
      obtain ⟨b, off, sp⟩ := a
      simp only at hsp
      subst hsp
      simp only [add_mk, ← Nat.add_assoc] at hcell
      have hch : ∀ i, ∃ q : Int × Int × UInt64 × UInt64, i < len0 → W.cell? ⟨b, off + i * 4, none⟩ = some (.int .i64 q.1) ∧ W.cell? ⟨b, off + i * 4 + 1, none⟩ = some (.int .i64 q.2.1) ∧ W.cell? ⟨b, off + i * 4 + 2, none⟩ = some (.int .u64 q.2.2.1.toNat) ∧ W.cell? ⟨b, off + i * 4 + 3, none⟩ = some (.int .u64 q.2.2.2.toNat) := fun i => by
        by_cases h : i < len0
        · obtain ⟨k0, k1, k2, s3, h'⟩ := hcell i h
          exact ⟨(k0, k1, k2, s3), fun _ => h'⟩
        · exact ⟨(0, 0, 0, 0), fun h' => absurd h' h⟩
      obtain ⟨f, hf'⟩ := Classical.axiomOfChoice hch
      exact .inr ⟨b, off, len0, cap0, fun i => (f i).1, fun i => (f i).2.1, fun i => (f i).2.2.1, fun i => (f i).2.2.2, rfl, ⟨fun i h => (hf' i h).1, fun i h => (hf' i h).2.1, fun i h => (hf' i h).2.2.1, fun i h => (hf' i h).2.2.2⟩, block_lt_of_cell (hf' 0 (by omega)).1, by omega⟩
end Go.Proofs.YtfljlcfmdcepnaaGreatDoor.A8
namespace Go.Proofs.YtfljlcfmdcepnaaGreatDoor
open Go.RowKit
open UK (str BytesAt nth Only w32 Row)
open Go.BigFrame
/- strings.CutPrefix -/
set_option maxRecDepth 100000 in
theorem prefix_any (a m : List UInt8) (h : m.length ≤ a.length) (_hs : a.length ≤ 100000) (W : World) :
    Calls Tryz.prog 125 #[.string (str a), .string (str m)] W fun e w' => e = .returned (.bool (decide (a.take m.length = m))) ∧ w' = W := by
  have HB : Hid ((a.take m.length == m) = decide (a.take m.length = m)) := by
    show _ = _
    rw [Bool.eq_iff_iff, beq_iff_eq, decide_eq_true_eq]
  generalize decide (a.take m.length = m) = b at HB ⊢
  go_enter Tryz.func125, Tryz.ntmps125
  go_wp2
  go_ret
  exact ⟨by rw [← HB.out] <;> rfl, rfl⟩
set_option maxRecDepth 100000 in
theorem cut_prefix (a m : List UInt8) (h : m.length ≤ a.length) (hs : a.length ≤ 100000) (W : World) :
    Calls Tryz.prog 92 #[.string (str a), .string (str m)] W fun e w' => e = .returned (.tuple #[.string (str (if a.take m.length = m then a.drop m.length else a)), .bool (decide (a.take m.length = m))]) ∧ w' = W := by
  have hp := fun w => prefix_any a m h hs w
  by_cases hm : a.take m.length = m
  · rw [if_pos hm, decide_eq_true hm]
    simp only [decide_eq_true hm] at hp
    clear hm
    go_enter Tryz.func92, Tryz.ntmps92
    go_wp2_with fail
    refine (hp _).mono ?_
    rintro e w' ⟨rfl, rfl⟩
    go_wp2
    go_ret2
    exact ⟨by simp, rfl⟩
  · rw [if_neg hm, decide_eq_false hm]
    simp only [decide_eq_false hm] at hp
    clear hm
    go_enter Tryz.func92, Tryz.ntmps92
    go_wp2_with fail
    refine (hp _).mono ?_
    rintro e w' ⟨rfl, rfl⟩
    go_wp2
    go_ret2
    exact ⟨rfl, rfl⟩
set_option maxRecDepth 100000 in
theorem cutp_any (a m : List UInt8) (h : m.length ≤ a.length) (hs : a.length ≤ 100000) (W : World) :
    Calls Tryz.prog 41 #[.string (str a), .string (str m)] W fun e w' => e = .returned (.tuple #[.string (str (if a.take m.length = m then a.drop m.length else a)), .bool (decide (a.take m.length = m))]) ∧ w' = W := by
  have hp := fun w => cut_prefix a m h hs w
  generalize (if a.take m.length = m then a.drop m.length else a) = r at hp ⊢
  generalize decide (a.take m.length = m) = b at hp ⊢
  go_enter Tryz.func41, Tryz.ntmps41
  go_wp2_with fail
  refine (hp _).mono ?_
  rintro e w' ⟨rfl, rfl⟩
  go_wp2
  go_ret2
  exact ⟨rfl, rfl⟩
theorem cutp_no (a m : List UInt8) (h : m.length ≤ a.length) (hs : a.length ≤ 100000) (hm : ¬ a.take m.length = m) (W : World) :
    Calls Tryz.prog 41 #[.string (str a), .string (str m)] W fun e w' => e = .returned (.tuple #[.string (str a), .bool false]) ∧ w' = W := by
  have := cutp_any a m h hs W
  rw [if_neg hm, decide_eq_false hm] at this
  exact this
theorem cutp_yes (a m : List UInt8) (h : m.length ≤ a.length) (hs : a.length ≤ 100000) (hm : a.take m.length = m) (W : World) :
    Calls Tryz.prog 41 #[.string (str a), .string (str m)] W fun e w' => e = .returned (.tuple #[.string (str (a.drop m.length)), .bool true]) ∧ w' = W := by
  have := cutp_any a m h hs W
  rw [if_pos hm, decide_eq_true hm] at this
  exact this
section
variable {W w w1 : World} {own : Nat → Prop} {D B bc fc I lc : Nat} {fo lo : Option Addr} {s y : List UInt8} {most : Int} {lf l fl : List Nat}
abbrev wayD (s : List UInt8) (most : Int) (lf fl : List Nat) : Dk := { x := s, most := most, free := fl, isf := flagsL (s.length / 512) lf, rl := -1, wl := -1, reads := 0, puts := 0 }
structure OS (W w : World) (own : Nat → Prop) (D B bc : Nat) (fo : Option Addr) (fc I : Nat) (y s : List UInt8) (most : Int) (lf fl l : List Nat) (lo : Option Addr) (lc : Nat) : Prop where
  at_ : DiskAt w own D B bc fo fc I (s.length / 512) y (wayD s most lf fl)
  row : (lo = none ∧ l = [] ∧ lc = 0) ∨ ∃ g, lo = some ⟨g, 0, none⟩ ∧ Row w g lc (ints l) ∧ ¬ own g ∧ W.heap.size ≤ g
  bel : Below W.heap.size W w
  low : ∀ k, own k → W.heap.size ≤ k
  bnd : ∀ k, own k → k < w.heap.size
theorem OS.next (h : OS W w own D B bc fo fc I y s most lf fl l lo lc) (hb : Below w.heap.size w w1) : OS W w1 own D B bc fo fc I y s most lf fl l lo lc := by
  refine ⟨h.at_.below hb, ?_, h.bel.trans (hb.mono h.bel.size), h.low, fun k hk => Nat.lt_of_lt_of_le (h.bnd k hk) hb.size⟩
  rcases h.row with h0 | ⟨g, e, r, n1, n2⟩
  · exact .inl h0
  · exact .inr ⟨g, e, r.below hb r.lt, n1, n2⟩
theorem OS.look (h : OS W w own D B bc fo fc I y s most lf fl l lo lc) (p : Nat) (hp : 512 * (p + 1) ≤ s.length) (hs : s.length ≤ 100000000) :
    Calls Tryz.prog 40 #[.pointer (some ⟨D, 0, none⟩), .int .i64 p] w fun e w' => e = .returned (.tuple #[.string (str (lookL s p)), .bool (okB s p)]) ∧ OS W w' own D B bc fo fc I y s most lf fl l lo lc := by
  have hpre := loadL_pre h.at_ p hp
  have hle := h.at_.le
  have hyl := h.at_.ylen
  refine (look_any h.at_.bytes s.length bc p (h.at_.cells.at' 0 _ rfl) (by rw [hyl]; exact hle) hle hs hp h.at_.tab).mono ?_
  rintro e w' ⟨rfl, hb⟩
  refine ⟨?_, h.next hb⟩
  rw [hpre.1, hpre.2]
theorem OS.word (h : OS W w own D B bc fo fc I y s most lf fl l lo lc) (v : UInt32) :
    Calls Tryz.prog 42 #[.int .u32 v.toNat] w fun e w' => e = .returned (.string (str (putL v))) ∧ OS W w' own D B bc fo fc I y s most lf fl l lo lc := (word_any v w).mono fun _ _ ⟨a, b⟩ => ⟨a, h.next b⟩
theorem OS.flag (h : OS W w own D B bc fo fc I y s most lf fl l lo lc) (p : Nat) (hp : p < s.length / 512) : OS W (w.setCell ⟨I, p, none⟩ (.bool true)) own D B bc fo fc I y s most (lf ++ [p]) fl l lo lc := by
  have h1 := h.at_.flagTo p true (by rw [flagsL_length]; exact hp)
  have o := (Only.refl I w).set p (.bool true)
  refine ⟨?_, ?_, h.bel.setCell (h.low _ h.at_.oI) _, h.low, fun k hk => Nat.lt_of_lt_of_le (h.bnd k hk) o.size⟩
  · simp only [wayD] at h1 ⊢
    rw [flagsL_set] at h1
    exact h1
  · rcases h.row with h0 | ⟨g, e, r, n1, n2⟩
    · exact .inl h0
    · exact .inr ⟨g, e, r.only o (fun e2 => n1 (e2 ▸ h.at_.oI)), n1, n2⟩
set_option maxRecDepth 100000 in
theorem OS.push (h : OS W w own D B bc fo fc I y s most lf fl l lo lc) (ht : TabAt W) (p : Nat) (hl : l.length ≤ 60000) :
    ∃ g' c' w', (Builtin.append_ #[82, 82] 82 #[.slice lo l.length lc, .slice (some ⟨w.heap.size, 0, none⟩) 1 1]).run Tryz.prog (w.alloc (.cells #[.int .i64 (p : Int)] 3)) = .ok (.slice (some ⟨g', 0, none⟩) (l.length + 1) c') w' ∧ OS W w' own D B bc fo fc I y s most lf fl (l ++ [p]) (some ⟨g', 0, none⟩) c' := by
  have ha : (lo = none ∧ ints l = [] ∧ lc = 0) ∨ ∃ g, lo = some ⟨g, 0, none⟩ ∧ Row w g lc (ints l) := by
    rcases h.row with ⟨a, b, c⟩ | ⟨F, e, r, _⟩
    · exact .inl ⟨a, by rw [b]; rfl, c⟩
    · exact .inr ⟨F, e, r⟩
  obtain ⟨g', c', W', e, r, o, hg⟩ := UK.push_one (P := Tryz.prog) (t := 82) (ty := 82) Tryz.underlying82 (i := Tryz.t3) rfl rfl rfl (show (8 : Nat) ≤ 16 by omega) rfl ha (.int .i64 (p : Int)) rfl (by rw [ints_length]; omega)
  rw [ints_length] at e
  have hn : ¬ own g' ∧ W.heap.size ≤ g' := by
    rcases hg with hg | hg
    · rcases h.row with ⟨a, _⟩ | ⟨F, e2, _, n1, n2⟩
      · rw [a] at hg; cases hg
      · rw [e2] at hg
        obtain rfl : F = g' := congrArg Addr.block (Option.some.inj hg)
        exact ⟨n1, n2⟩
    · exact ⟨fun hk => by have := h.bnd _ hk; omega, Nat.le_trans h.bel.size hg⟩
  have htl := ht.lt
  refine ⟨g', c', W', e, h.at_.only o hn.1 (by omega), .inr ⟨g', rfl, by unfold ints at *; rw [List.map_append]; exact r, hn.1, hn.2⟩, h.bel.trans (o.below h.bel.size hn.2), h.low, fun k hk => Nat.lt_of_lt_of_le (h.bnd k hk) o.size⟩
set_option maxRecDepth 100000 in
theorem OS.free (h : OS W w own D B bc fo fc I y s most lf fl l lo lc) (p : Nat) (hl : fl.length ≤ 60000) :
    ∃ g' c' w', (Builtin.append_ #[82, 82] 82 #[.slice fo fl.length fc, .slice (some ⟨w.heap.size, 0, none⟩) 1 1]).run Tryz.prog (w.alloc (.cells #[.int .i64 (p : Int)] 3)) = .ok (.slice (some ⟨g', 0, none⟩) (fl.length + 1) c') w' ∧ w'.cell? ⟨D, 2, none⟩ = some (.slice fo fl.length fc) ∧ w'.frozen? ⟨D, 2, none⟩ = false ∧
      OS W (w'.setCell ⟨D, 2, none⟩ (.slice (some ⟨g', 0, none⟩) (fl.length + 1) c')) (also own g') D B bc (some ⟨g', 0, none⟩) c' I y s most lf (fl ++ [p]) l lo lc := by
  obtain ⟨g', c', w6, e6, r6, o6, k1, k2, k3, k4⟩ := push_free h.at_ p hl
  have h7 := h.at_.freeTo r6 o6 k2 k3 k4 k1
  have hgW : W.heap.size ≤ g' := by
    rcases k1 with k1 | k1
    · exact h.low _ k1
    · exact Nat.le_trans h.bel.size k1
  rw [List.length_append, List.length_singleton] at h7
  refine ⟨g', c', w6, e6, (h.at_.cells.only o6 k2.symm).at' 2 _ rfl, (h.at_.cells.only o6 k2.symm).free 2 (by omega), h7, ?_, (h.bel.trans (o6.below h.bel.size hgW)).setCell (h.low _ h.at_.oD) _, fun k hk => ?_, fun k hk => ?_⟩
  · rcases h.row with h0 | ⟨g, e, r, n1, n2⟩
    · exact .inl h0
    · have hgg : g ≠ g' := fun e2 => by
        rcases k1 with k1 | k1
        · exact n1 (e2 ▸ k1)
        · have := r.lt; omega
      have hgD : g ≠ D := fun e2 => n1 (e2 ▸ h.at_.oD)
      exact .inr ⟨g, e, (r.only o6 hgg).only ((Only.refl D w6).set 2 _) hgD, fun hh => by
        rcases hh with hh | hh
        · exact n1 hh
        · exact hgg hh, n2⟩
  · rcases hk with hk | rfl
    · exact h.low k hk
    · exact hgW
  · have hsz : (w6.setCell ⟨D, 2, none⟩ (.slice (some ⟨g', 0, none⟩) (fl.length + 1) c')).heap.size = w6.heap.size := by simp [World.setCell]
    rw [hsz]
    rcases hk with hk | rfl
    · exact Nat.lt_of_lt_of_le (h.bnd k hk) o6.size
    · exact r6.lt
theorem OS.start {own0 : Nat → Prop} {B0 bc0 I0 ic0 : Nat} {y0 : List UInt8} {pages : Int} (ht : TabAt W) (h : DiskAt w own0 D B0 bc0 fo fc I0 ic0 y0 (newD pages)) (hb : Below W.heap.size W w) (hlow : ∀ k, own0 k → W.heap.size ≤ k)
    (cap : Nat) (o : Obj) (hcap : s.length ≤ cap) (hy : BytesAt (w.drew.alloc o) w.heap.size y) (hyl : y.length = cap) (hpre : y.take s.length = s) (v0 v3 : Value)
    (hv0 : v0 = .slice (some ⟨w.heap.size, 0, none⟩) s.length cap) (hv3 : v3 = .slice (some ⟨w.heap.size + 1, 0, none⟩) (s.length / 512) (s.length / 512)) :
    ∃ own, OS W (((((w.setCell ⟨D, 0, none⟩ v0).setCell ⟨D, 3, none⟩ v3).setCell ⟨D, 7, none⟩ (.int .i64 0)).alloc o).alloc (.cells (madeCells #[.bool false] (s.length / 512)) 4)).drew own D w.heap.size cap fo fc (w.heap.size + 1) y s (clampD pages) [] [] [] none 0 := by
  subst hv0 hv3
  have hst := newD_still pages
  have hfr : (newD pages).free = [] := hst.free
  have r4 := ((h.cells.set 0 (.slice (some ⟨w.heap.size, 0, none⟩) s.length cap) (by show 0 < 8; omega)).set 3 (.slice (some ⟨w.heap.size + 1, 0, none⟩) (s.length / 512) (s.length / 512)) (by show 3 < 8; omega)).set 7 (.int .i64 0) (by show 7 < 8; omega)
  have o3 := (((Only.refl D w).set 0 (.slice (some ⟨w.heap.size, 0, none⟩) s.length cap)).set 3 (.slice (some ⟨w.heap.size + 1, 0, none⟩) (s.length / 512) (s.length / 512))).set 7 (.int .i64 0)
  have hfo : fo = none ∧ fc = 0 ∨ ∃ F, fo = some ⟨F, 0, none⟩ ∧ Row w F fc [] ∧ F ≠ D ∧ own0 F := by
    rcases h.freeAt with ⟨a, _, c⟩ | ⟨F, e, r, n1, _, _, n4⟩
    · exact .inl ⟨a, c⟩
    · rw [hfr] at r; exact .inr ⟨F, e, r, n1, n4⟩
  have hF : ∀ F, fo = some ⟨F, 0, none⟩ → Row w F fc [] ∧ F ≠ D ∧ own0 F := fun F e => by
    rcases hfo with ⟨a, _⟩ | ⟨F', e', r, n1, n4⟩
    · rw [a] at e; cases e
    · rw [e'] at e
      obtain rfl : F' = F := congrArg Addr.block (Option.some.inj e)
      exact ⟨r, n1, n4⟩
  have q1 := fun F e => (hF F e).1.only o3 (hF F e).2.1
  have t1 := UK.TabAt_only (ht.below hb) o3 (fun e => by have := ht.lt; have := hlow _ h.oD; omega)
  have B1 := ((hb.setCell (p := ⟨D, 0, none⟩) (hlow _ h.oD) (.slice (some ⟨w.heap.size, 0, none⟩) s.length cap)).setCell (p := ⟨D, 3, none⟩) (hlow _ h.oD) (.slice (some ⟨w.heap.size + 1, 0, none⟩) (s.length / 512) (s.length / 512))).setCell (p := ⟨D, 7, none⟩) (hlow _ h.oD) (.int .i64 0)
  have hsz : (((w.setCell ⟨D, 0, none⟩ (.slice (some ⟨w.heap.size, 0, none⟩) s.length cap)).setCell ⟨D, 3, none⟩ (.slice (some ⟨w.heap.size + 1, 0, none⟩) (s.length / 512) (s.length / 512))).setCell ⟨D, 7, none⟩ (.int .i64 0)).heap.size = w.heap.size := by simp [World.setCell]
  generalize ((w.setCell ⟨D, 0, none⟩ (.slice (some ⟨w.heap.size, 0, none⟩) s.length cap)).setCell ⟨D, 3, none⟩ (.slice (some ⟨w.heap.size + 1, 0, none⟩) (s.length / 512) (s.length / 512))).setCell ⟨D, 7, none⟩ (.int .i64 0) = w1 at r4 o3 q1 t1 B1 hsz ⊢
  have y2 : BytesAt (w1.alloc o) w.heap.size y := hy.of_block (by
    have e1 : (w1.alloc o).heap[w1.heap.size]? = some o := by
      show (w1.heap.push _)[w1.heap.size]? = _
      rw [Array.getElem?_push_size]
    have e2 : (w.drew.alloc o).heap[w.drew.heap.size]? = some o := by
      show (w.drew.heap.push _)[w.drew.heap.size]? = _
      rw [Array.getElem?_push_size]
    rw [hsz] at e1
    exact e1.trans e2.symm)
  have s2 : (w1.alloc o).heap.size = w.heap.size + 1 := by simp [hsz]
  have B2 := B1.alloc B1.size o
  have b2 : Below w1.heap.size w1 (w1.alloc o) := (Below.refl _ _).alloc (Nat.le_refl _) _
  have hDlt := h.cells.lt
  have r5 := r4.below b2 (by omega)
  have q2 := fun F e => (q1 F e).below b2 (q1 F e).lt
  have t2 := t1.below b2
  generalize w1.alloc o = w2 at r5 q2 t2 y2 s2 B2 ⊢
  have i2 := UK.row_new w2 (madeCells #[.bool false] (s.length / 512)) 4
  rw [s2, size_madeCells, toList_madeCells_one] at i2
  have b3 : Below w2.heap.size w2 (w2.alloc (.cells (madeCells #[.bool false] (s.length / 512)) 4)).drew := ((Below.refl _ _).alloc (Nat.le_refl _) _).drew
  have B3 := (B2.alloc B2.size (.cells (madeCells #[.bool false] (s.length / 512)) 4)).drew
  have i3 := i2.drewN 1
  have r6 := r5.below b3 (by omega)
  have q3 := fun F e => (q2 F e).below b3 (q2 F e).lt
  have t3 := t2.below b3
  have y3 := y2.below b3 (by omega)
  have s3 : (w2.alloc (.cells (madeCells #[.bool false] (s.length / 512)) 4)).drew.heap.size = w.heap.size + 2 := by
    show (w2.alloc _).heap.size = _
    simp [s2]
  have i4 : Row (w2.alloc (.cells (madeCells #[.bool false] (s.length / 512)) 4)).drew (w.heap.size + 1) (s.length / 512) (List.replicate (s.length / 512) (.bool false)) := i3
  clear i2 i3
  generalize (w2.alloc (.cells (madeCells #[.bool false] (s.length / 512)) 4)).drew = w3 at r6 y3 i4 B3 t3 s3 q3 ⊢
  have htl := ht.lt
  have hWD := hlow _ h.oD
  have hWw := hb.size
  have hF2 : ∀ F, fo = some ⟨F, 0, none⟩ → F < w.heap.size ∧ F ≠ D ∧ W.heap.size ≤ F := fun F e => ⟨(hF F e).1.lt, (hF F e).2.1, hlow _ (hF F e).2.2⟩
  refine ⟨fun k => k = D ∨ k = w.heap.size ∨ k = w.heap.size + 1 ∨ fo = some ⟨k, 0, none⟩, ⟨?_, y3, hyl, hcap, hpre, ?_, ?_, by omega, by omega, by omega, .inl rfl, .inr (.inl rfl), .inr (.inr (.inl rfl)), t3, ?_⟩, .inl ⟨rfl, rfl, rfl⟩, ?_, ?_, ?_⟩
  · have e1 : (((((newD pages).vals B0 bc0 fo fc I0 ic0).set 0 (.slice (some ⟨w.heap.size, 0, none⟩) s.length cap)).set 3 (.slice (some ⟨w.heap.size + 1, 0, none⟩) (s.length / 512) (s.length / 512))).set 7 (.int .i64 0)) = (wayD s (clampD pages) [] []).vals w.heap.size cap fo fc (w.heap.size + 1) (s.length / 512) := by
      simp [Dk.vals, hfr, hst.most, hst.wl, newD_rl, newD_reads, flagsL_length]
    rw [e1] at r6
    exact r6
  · rcases hfo with ⟨a, c⟩ | ⟨F, e, r, n1, n4⟩
    · exact .inl ⟨a, rfl, c⟩
    · refine .inr ⟨F, e, ?_, n1, by have := (hF2 F e).1; omega, by have := (hF2 F e).1; omega, .inr (.inr (.inr e))⟩
      exact q3 F e
  · show Row _ _ _ (bools (flagsL (s.length / 512) []))
    rw [flagsL_nil]
    simpa [bools] using i4
  · rintro (e | e | e | e)
    · omega
    · omega
    · omega
    · have := (hF2 _ e).2.2; omega
  · exact B3
  · rintro k (rfl | rfl | rfl | e)
    · exact hWD
    · exact hWw
    · omega
    · exact (hF2 _ e).2.2
  · rintro k (rfl | rfl | rfl | e)
    · omega
    · omega
    · omega
    · have := (hF2 _ e).1; omega
end
end Go.Proofs.YtfljlcfmdcepnaaGreatDoor
namespace Go.Proofs.YtfljlcfmdcepnaaGreatDoor
open Go.RowKit
open UK (str BytesAt nth Only w32 Row)
open Go.BigFrame
theorem UK.step_append_run2 {P : Program} {t tx ty : TypeId} {sv xv v' : Value} {w w' : World} (hr : (Builtin.append_ #[t, tx] ty #[sv, xv]).run P w = .ok v' w') {ops : Array Oper} {o : Oper} {a : Act} {K : Act → World → Prop} {Q : Exit → Act → World → Prop} {E : Prop} {s x : Operand}
    (hg : o.guard = none) (hop : o.op = Op.call { callee := Callee.builtin Builtin.append, args := #[s, x], argTypes := #[t, tx] }) (hty : o.type = ty) (hs : a.eval s = sv) (hx : a.eval x = xv) (hK : K (a.put o.dst v') w') :
    if Region.wanted o (yielded ops a.tmps) = true then Oper.wp P o a w K Q else E := by
  have hw : Region.wanted o (yielded ops a.tmps) = true := by simp [Region.wanted, hg]
  rw [if_pos hw]
  subst hty
  unfold Oper.wp
  simp [execOp, hop, resolve, invoke, builtin, hs, hx, hr, Result.andThen]
  exact hK
theorem UK.calls_world {P : Program} {f : FuncId} {args : Array Value} {w : World} {Q : Ending → World → Prop} (R : World → Prop) (hR : R w) (h : ∀ w', R w' → Calls P f args w' Q) : Calls P f args w Q := h w hR
theorem clamp_cases (p : Int) : (p < 2 ∧ clampD p = 2) ∨ (60000 < p ∧ clampD p = 60000) ∨ (2 ≤ p ∧ p ≤ 60000 ∧ clampD p = p) := by
  unfold clampD; omega
section
variable {W : World}
def slen : Value → Nat
  | .slice _ n _ => n
  | _ => 0
def OpnFound (W w : World) (own : Nat → Prop) (D B bc : Nat) (fo : Option Addr) (fc I : Nat) (y s : List UInt8) (pages : Int) (n : Nat) (lv pv : Value) : Prop :=
  ∃ (l : List Nat) (lo : Option Addr) (lc : Nat) (p : List UInt8), lv = .slice lo l.length lc ∧ pv = .string (str p) ∧ Hid (p.length = 4) ∧ OS W w own D B bc fo fc I y s (clampD pages) l [] l lo lc ∧ OnWay n l ∧ Hid (openR s pages = chain s n (n + 1 - l.length) l p)
def Laid (W w : World) (D B bc I : Nat) (y s : List UInt8) (pages : Int) (l : List Nat) (lo : Option Addr) (lc : Nat) (iv : Value) : Prop :=
  ∃ (i : Int) (own : Nat → Prop) (fo : Option Addr) (fc : Nat) (fl : List Nat), iv = .int .i64 i ∧ -1 ≤ i ∧ i < l.length ∧ Hid (fl = (l.drop (i + 1).toNat).reverse) ∧ OS W w own D B bc fo fc I y s (clampD pages) l fl l lo lc
theorem u32_of {w : World} {g : Nat} {p r : List UInt8} (h : BytesAt w g (p ++ r)) (hp : p.length = 4) (c : Nat) :
    Calls Tryz.prog 43 #[.slice (some ⟨g, 0, none⟩) p.length c] w fun e w' => e = .returned (.int .u32 (wordN p : Nat)) ∧ Below w.heap.size w w' := by
  have := get_u32 h 0 p.length c (by omega) (by rw [List.length_append]; omega)
  rw [List.drop_zero, List.take_append_of_le_length (by omega), List.take_of_length_le (by omega)] at this
  exact this
theorem wordN_lt (p : List UInt8) : wordN p < 4294967296 := (getL p).toNat_lt
def Opened (W w' : World) (s : List UInt8) (pages : Int) (e : Ending) : Prop :=
  ((openR s pages).1 = 0 ∧ ∃ own D, e = .returned (.tuple #[.pointer (some ⟨D, 0, none⟩), .int .i64 0]) ∧ Disk w' own D (openD s pages) ∧ (∀ k, own k → W.heap.size ≤ k ∧ k < w'.heap.size) ∧ Below W.heap.size W w') ∨
  ((openR s pages).1 ≠ 0 ∧ e = .returned (.tuple #[.pointer none, .int .i64 (openR s pages).1]) ∧ Below W.heap.size W w')
set_option maxHeartbeats 4000000 in
set_option maxRecDepth 100000 in
theorem open_any (s : List UInt8) (pages : Int) (W : World) (ht : TabAt W) (n : Nat) (hn : s.length = 512 * n) (h1 : 1 ≤ n) (h3 : (n : Int) ≤ clampD pages) :
    Calls Tryz.prog 10 #[.string (str s), .int .i64 pages] W fun e w' => Opened W w' s pages e := by
  have hcl := clamp_cases pages
  have hn60 : n ≤ 60000 := by rcases hcl with h | h | h <;> omega
  have hdiv : s.length / 512 = n := by omega
  have e1 : ((s.length : Nat) : Int) / 512 = (n : Int) := by omega
  have e2 : ((s.length : Nat) : Int) % 512 = 0 := by omega
  have h4 : ¬ (n : Int) < 1 := by omega
  have HN := Lib.hid hn
  have HDIV := Lib.hid hdiv
  have HH3 := Lib.hid h3
  have HCL := Lib.hid hcl
  have hnew := new_any W pages ht
  clear hdiv hn hcl h3
  go_enter Tryz.func10, Tryz.ntmps10
  go_upto_region 2 with (fail)
  go_cut [34] (fun c wx => c = .bool false ∧ W = wx)
  case first =>
    rcases HCL.out with ⟨a, b⟩ | ⟨a, b⟩ | ⟨a, c, b⟩
    all_goals
      have h3 := HH3.out
      rw [b] at h3
      clear b
      go_wp2
      go_meet
      case rel => exact ⟨congrArg Value.bool (decide_eq_false (by omega)), rfl⟩
  case rest =>
    obtain ⟨rfl, rfl⟩ := hcut
    clear e1 e2 h4
    go_wp2_with fail
    refine hnew.mono ?_
    rintro e w1 ⟨rfl, ⟨B0, bc0, fo, fc, I0, ic0, y0, hd⟩, hb⟩
    obtain ⟨cap, o, hcap, hcv, hy⟩ := UK.run_bytes (P := Tryz.prog) (src := 9) (dst := 87) Tryz.underlying9 Tryz.underlying87 Tryz.underlying5 w1 s
    have hmk := run_make_row (P := Tryz.prog) 88 4 Tryz.t4 (.bool false) Tryz.underlying88 rfl rfl rfl rfl .i64 .i64 n (show 1 * n ≤ 281474976710656 by omega) (by omega)
    have c0 := hd.cells.at' 0 _ rfl
    have c3 := hd.cells.at' 3 _ rfl
    have c7 := hd.cells.at' 7 _ rfl
    have f0 := hd.cells.free 0 (by omega)
    have f3 := hd.cells.free 3 (by omega)
    have f7 := hd.cells.free 7 (by omega)
    have hlt := hd.cells.lt
    obtain ⟨own, hst⟩ := OS.start (s := s) (pages := pages) ht hd hb (fun k hk => hk) cap o hcap hy (by rw [List.length_append, List.length_replicate]; omega) (by rw [List.take_left']; rfl) _ _ rfl rfl
    rw [HDIV.out] at hst
    have HS := Lib.hid hst
    clear hst hy hnew
    go_wp2_with fail
    refine UK.calls_world (fun w' => ∃ own B bc fo fc I y, OS W w' own W.heap.size B bc fo fc I y s (clampD pages) [] [] [] none 0) ⟨own, _, _, _, _, _, _, HS.out⟩ ?_
    clear HS hd c0 c3 c7 f0 f3 f7 hcv hmk hlt hcap hb
    rintro w4 ⟨own, B, bc, fo, fc, I, y, h4⟩
    have hs1 : s.length ≤ 100000000 := by have := HN.out; omega
    have hs2 : 512 * (0 + 1) ≤ s.length := by have := HN.out; omega
    have HOR : Hid (openR s pages = if okB s 0 = false then (8, []) else if (loadL s 0).take 8 ≠ magicL ∨ ((loadL s 0).drop 8).take 4 ≠ putL (w32 n) then (3, []) else chain s n (n + 1) [] (((loadL s 0).drop 12).take 4)) := by
      show _ = _
      unfold openR
      rw [HDIV.out, if_neg (by have := HN.out; have := HH3.out; omega)]
    have hl := h4.look 0 hs2 hs1
    have hll : (loadL s 0).length = 504 := by unfold loadL; rw [List.length_take, List.length_drop]; omega
    by_cases hok : okB s 0 = false
    · have HE : Hid (openR s pages = (8, [])) := by show _ = _; rw [HOR.out, if_pos hok]
      rw [hok, lookL_no hok] at hl
      refine hl.mono ?_
      rintro e w5 ⟨rfl, h5⟩
      clear hl hok HOR
      go_wp2
      go_ret2
      exact .inr ⟨by rw [HE.out]; decide, by rw [HE.out] <;> rfl, h5.bel⟩
    · have hok2 : okB s 0 = true := by simpa using hok
      rw [hok2, lookL_yes hok2] at hl
      rw [if_neg hok] at HOR
      refine hl.mono ?_
      rintro e w5 ⟨rfl, h5⟩
      clear hl hok hok2 h4
      generalize loadL s 0 = head at hll HOR ⊢
      by_cases hm : head.take 8 = magicL
      · have hcp := fun w => cutp_yes head [84, 65, 66, 85, 76, 65, 82, 49] (by rw [hll]; decide) (by omega) hm w
        have hd8 : head.drop (List.length ([84, 65, 66, 85, 76, 65, 82, 49] : List UInt8)) = head.drop 8 := rfl
        rw [hd8] at hcp
        have HOR2 : Hid (openR s pages = if (head.drop 8).take 4 ≠ putL (w32 n) then (3, []) else chain s n (n + 1) [] (((head.drop 8).take 8).drop 4)) := by
          show _ = _
          rw [HOR.out]
          have e8 : (head.drop 12).take 4 = ((head.drop 8).take 8).drop 4 := by rw [List.drop_take, List.drop_drop]
          rw [e8]
          by_cases hw : (head.drop 8).take 4 = putL (w32 n)
          · rw [if_neg (by rintro (a | a); exact a hm; exact a hw), if_neg (by simpa using hw)]
          · rw [if_pos (.inr hw), if_pos hw]
        have hrl : (head.drop 8).length = 496 := by rw [List.length_drop, hll]
        clear HOR hm hd8
        go_wp2_with fail
        refine (hcp _).mono ?_
        clear hcp hll
        generalize head.drop 8 = rest at hrl HOR2 ⊢
        rintro e w6 ⟨rfl, rfl⟩
        have hwn := fun k : UK.Kept (fun w' => OS W w' own W.heap.size B bc fo fc I y s (clampD pages) [] [] [] none 0) => k.h.word (w32 n)
        rw [show ((w32 n).toNat : Int) = n by rw [← UK.w32_is n]; omega] at hwn
        haveI : Nonempty (UK.Kept fun w' => OS W w' own W.heap.size B bc fo fc I y s (clampD pages) [] [] [] none 0) := ⟨⟨_, h5⟩⟩
        have HW := Lib.hid hwn
        clear hwn
        by_cases hwq : rest.take 4 = putL (w32 n)
        · obtain ⟨p0, HP0⟩ : ∃ p0, Hid ((rest.take 8).drop 4 = p0) := ⟨_, rfl⟩
          have HE : Hid (openR s pages = chain s n (n + 1) [] p0) := by show _ = _; rw [HOR2.out, if_neg (by simpa using hwq), HP0.out]
          have hp0 : p0.length = 4 := by rw [← HP0.out, List.length_drop, List.length_take, hrl]; decide
          have hb1 : (rest.take 4 == putL (w32 n)) = true := beq_iff_eq.2 hwq
          clear HOR2 hwq
          generalize putL (w32 n) = wn at HW hb1
          go_wp2_with fail
          refine UK.wp_region_kept (fun w' => OS W w' own W.heap.size B bc fo fc I y s (clampD pages) [] [] [] none 0) (by kernel_rfl) (by kernel_rfl) (h5.next (Below.refl _ _).drew) ?_
          repeat (go_big_quiet_step (exact UK.kept_of (HW.out _) (fun _ _ hh => hh)))
          refine wpQuiet_nil ?_
          rintro ⟨w8, h8⟩
          clear HW hb1 h5
          have HP1 := Lib.hid hp0
          clear hp0
          go_wp2_with fail
          go_loopw [11, 12] (fun lv pv wr => OpnFound W wr own W.heap.size B bc fo fc I y s pages n lv pv) (fun lv _ _ => n + 1 - slen lv)
          case atStart => exact ⟨[], none, 0, p0, rfl, by rw [HP0.out], HP1, h8, OnWay.nil n, HE⟩
          case round =>
            obtain ⟨l, lo, lc, p, rfl, rfl, HP4, hl, how, HC⟩ := hrel
            have hfew := how.few h1
            have hwd := hl.word (w32 4294967295)
            rw [show ((w32 4294967295).toNat : Int) = 4294967295 from rfl] at hwd
            obtain ⟨en, HEN⟩ : ∃ en, Hid (putL (w32 4294967295) = en) := ⟨_, rfl⟩
            rw [HEN.out] at hwd
            clear h8
            by_cases hpe : p = en
            · have HC2 : Hid (openR s pages = (0, l)) := HC.out.trans (chain_end s n (n + 1) l p (by omega) (hpe.trans HEN.out.symm))
              have hb1 : (p == en) = true := beq_iff_eq.2 hpe
              clear hpe HC
              go_wp2_with fail
              refine hwd.mono ?_
              rintro e w9 ⟨rfl, h9⟩
              clear hwd hl
              go_wp2_with fail
              go_loopw [16] (fun iv wr => Laid W wr W.heap.size B bc I y s pages l lo lc iv) (fun iv _ => (intOf iv + 1).toNat)
              case atStart => exact ⟨_, own, fo, fc, [], rfl, by omega, by omega, by show [] = _; rw [show ((l.length : Int) - 1 + 1).toNat = l.length by omega, List.drop_length]; rfl, h9⟩
              case round =>
                clear h9
                obtain ⟨i, own', fo', fc', fl, rfl, hi1, hi2, HF, h9⟩ := hrel
                by_cases hi0 : 0 ≤ i
                · obtain ⟨k, rfl⟩ : ∃ k : Nat, i = k := ⟨i.toNat, by omega⟩
                  have hkl : k < l.length := by omega
                  have hfl : fl.length ≤ 60000 := by rw [HF.out, List.length_reverse, List.length_drop]; omega
                  rcases h9.row with ⟨_, hl0, _⟩ | ⟨g, rfl, r, n1, n2⟩
                  · rw [hl0] at hkl; exact absurd hkl (Nat.not_lt_zero _)
                  · have ck := r.at' k _ (ints_at l k hkl)
                    have h10 := h9.next (Below.refl _ _).drew
                    obtain ⟨g', c', w14, e14, c2, f2, h14⟩ := h10.free (l.getD k 0) hfl
                    have HG : Hid (fl ++ [l.getD k 0] = (l.drop k).reverse) := by
                      show _ = _
                      rw [HF.out, show ((k : Int) + 1).toNat = k + 1 by omega, List.getD_eq_getElem?_getD, List.getElem?_eq_getElem hkl]
                      rw [List.drop_eq_getElem_cons hkl, List.reverse_cons]
                      rfl
                    have d2 := h9.at_.cells.at' 2 _ rfl
                    have d2' := (h9.next ((Below.refl _ _).alloc (Nat.le_refl _) (.cells #[.int .i64 ((l.getD k 0 : Nat) : Int)] 3))).at_.cells.at' 2 _ rfl
                    generalize l.getD k 0 = q at ck e14 h14 HG d2'
                    have e15 : (Builtin.append_ #[82, 82] 82 #[.slice fo' fl.length fc', .slice (some ⟨wr.heap.size, 0, none⟩) 1 1]).run Tryz.prog (wr.alloc (.cells #[.int .i64 (q : Int)] 3)).drew = .ok (.slice (some ⟨g', 0, none⟩) (fl.length + 1) c') w14 := e14
                    clear e14
                    go_wp2_with fail
                    go_region_law (refine UK.step_append_run2 e15 rfl rfl rfl (by simp [Act.eval]) (by simp [Act.eval]) ?_)
                    all_goals
                      clear d2 d2' ck c2 f2 e15 h10 h9 r n1 n2
                      go_wp2
                      go_roundw
                      case rel => exact ⟨(k : Int) - 1, _, _, _, _, rfl, by omega, by omega, by show _ = _; rw [show ((k : Int) - 1 + 1).toNat = k by omega]; exact HG.out, h14⟩
                      case measure => simp [intOf]
                · obtain rfl : i = -1 := by omega
                  have HF2 : Hid (fl = l.reverse) := by show _ = _; rw [HF.out]; rfl
                  clear hi0 hi1 hi2
                  go_wp2
                  go_ret2
                  refine .inl ⟨by rw [HC2.out], own', W.heap.size, rfl, ⟨B, bc, fo', fc', I, s.length / 512, y, ?_⟩, fun k hk => ⟨h9.low k hk, h9.bnd k hk⟩, h9.bel⟩
                  have := h9.at_
                  unfold openD
                  rw [HC2.out]
                  rw [HF2.out] at this
                  exact this
            · have hb1 : (p == en) = false := beq_eq_false_iff_ne.2 hpe
              have HPE : Hid (p ≠ putL (w32 4294967295)) := fun e => hpe (e.trans HEN.out)
              clear hpe
              go_wp2_with fail
              refine hwd.mono ?_
              rintro e w9 ⟨rfl, h9⟩
              clear hwd hl
              obtain ⟨cap9, o9, _, hcv9, hy9⟩ := UK.run_bytes (P := Tryz.prog) (src := 9) (dst := 87) Tryz.underlying9 Tryz.underlying87 Tryz.underlying5 w9 p
              have h10 := h9.next (((Below.refl _ _).drew).alloc (Nat.le_refl _) o9)
              have HU := Lib.hid (u32_of hy9 HP4.out cap9)
              have hk32 := wordN_lt p
              obtain ⟨k, HK⟩ : ∃ k, Hid (wordN p = k) := ⟨_, rfl⟩
              rw [HK.out] at HU hk32
              clear hy9
              go_wp2_with fail
              refine HU.out.mono ?_
              rintro e w11 ⟨rfl, b11⟩
              have h11 := h10.next b11
              clear HU hcv9 h9 h10 b11
              have c3 := h11.at_.cells.at' 3 _ rfl
              have hil : (flagsL (s.length / 512) l).length = n := (flagsL_length _ _).trans HDIV.out
              by_cases hbad : k < 1 ∨ n ≤ k ∨ k ∈ l
              · have HC2 : Hid (openR s pages = (3, [])) := HC.out.trans (chain_form s n (n + 1) l p (by omega) HPE.out (by rw [HK.out]; exact hbad))
                have hexit : ∀ w', OS W w' own W.heap.size B bc fo fc I y s (clampD pages) l [] l lo lc → Opened W w' s pages (.returned (.tuple #[.pointer none, .int .i64 3])) := fun w' h' => .inr ⟨by rw [HC2.out]; decide, by rw [HC2.out] <;> rfl, h'.bel⟩
                have HX := Lib.hid hexit
                clear hexit
                by_cases ha : k < 1
                · go_wp2
                  go_ret2
                  exact HX.out _ h11
                · by_cases hb : n ≤ k
                  · go_wp2
                    go_ret2
                    exact HX.out _ h11
                  · have hkl : k ∈ l := by
                      rcases hbad with h | h | h
                      · exact absurd h ha
                      · exact absurd h hb
                      · exact h
                    have hfl := h11.at_.flags.at' k _ (bools_at _ k (by show k < (flagsL (s.length / 512) l).length; omega))
                    have hfb : (flagsL (s.length / 512) l).getD k false = true := by rw [flagsL_get _ _ _ (by rw [HDIV.out]; omega)]; exact decide_eq_true hkl
                    simp only [hfb] at hfl
                    clear hbad hkl hfb
                    go_wp2
                    go_ret2
                    exact HX.out _ h11
              · have ha : 1 ≤ k := by omega
                have hb : k < n := by omega
                have hkl : k ∉ l := fun h => hbad (.inr (.inr h))
                have hfl := h11.at_.flags.at' k _ (bools_at _ k (by show k < (flagsL (s.length / 512) l).length; omega))
                have hfb : (flagsL (s.length / 512) l).getD k false = false := by rw [flagsL_get _ _ _ (by rw [HDIV.out]; omega)]; exact decide_eq_false hkl
                simp only [hfb] at hfl
                have HOW := Lib.hid (how.snoc ha hb hkl)
                have HKL := Lib.hid hkl
                have hlk := h11.look k (by have := HN.out; omega) hs1
                clear hbad hkl hfb
                by_cases hok : okB s k = false
                · have HC2 : Hid (openR s pages = (8, [])) := HC.out.trans (chain_spoil s n (n + 1) l p (by omega) HPE.out (by rw [HK.out]; exact ha) (by rw [HK.out]; exact hb) (by rw [HK.out]; exact HKL.out) (by rw [HK.out]; exact hok))
                  rw [hok, lookL_no hok] at hlk
                  have HLK := Lib.hid hlk
                  clear hlk hok
                  go_wp2_with fail
                  refine HLK.out.mono ?_
                  rintro e w12 ⟨rfl, h12⟩
                  go_wp2
                  go_ret2
                  exact .inr ⟨by rw [HC2.out]; decide, by rw [HC2.out] <;> rfl, h12.bel⟩
                · have hok2 : okB s k = true := by simpa using hok
                  have HC2 : Hid (openR s pages = chain s n (n + 1 - (l ++ [k]).length) (l ++ [k]) (linkL s k)) := by
                    have := chain_step s n (n + 1) l p (by omega) HPE.out (by rw [HK.out]; exact ha) (by rw [HK.out]; exact hb) (by rw [HK.out]; exact HKL.out) (by rw [HK.out]; exact hok2)
                    rw [HK.out] at this
                    exact HC.out.trans this
                  rw [hok2, lookL_yes hok2] at hlk
                  have hll : (loadL s k).length = 504 := by unfold loadL; rw [List.length_take, List.length_drop]; have := HN.out; omega
                  have HLL := Lib.hid hll
                  have HLK := Lib.hid hlk
                  have HNX : Hid ((loadL s k).take 4 = linkL s k) := rfl
                  have hll4 : 4 ≤ (loadL s k).length := by omega
                  generalize loadL s k = g at HLK HNX HLL hll4
                  clear hlk hok hok2 hll
                  go_wp2_with fail
                  refine HLK.out.mono ?_
                  rintro e w12 ⟨rfl, h12⟩
                  clear hfl c3
                  have c3 := h12.at_.cells.at' 3 _ rfl
                  have hile := h12.at_.flags.le
                  have hkc : k < s.length / 512 := by rw [HDIV.out]; exact hb
                  have fp := h12.at_.flags.free k hkc
                  have cp := h12.at_.flags.at' k _ (bools_at _ k (by show k < (flagsL (s.length / 512) l).length; omega))
                  have h13 := h12.flag k hkc
                  obtain ⟨g', c', w14, e14, h14⟩ := h13.push ht k (by omega)
                  rw [show (w12.setCell ⟨I, k, none⟩ (.bool true)).heap.size = w12.heap.size by simp [World.setCell]] at e14
                  clear h12 h13 hile h11 HLK
                  go_wp2_with (at_builtin; refine UK.wpList_append_run e14 rfl rfl rfl rfl rfl ?_)
                  go_roundw
                  case rel => exact ⟨l ++ [k], some ⟨g', 0, none⟩, c', linkL s k, by rw [List.length_append] <;> rfl, by first | rw [HNX.out] | rfl, by show (linkL s k).length = 4; rw [← HNX.out, List.length_take, HLL.out]; decide, h14, HOW.out, HC2⟩
                  case measure => simp [slen]; omega
        · have HE : Hid (openR s pages = (3, [])) := by show _ = _; rw [HOR2.out, if_pos hwq]
          have hb1 : (rest.take 4 == putL (w32 n)) = false := beq_eq_false_iff_ne.2 hwq
          clear HOR2 hwq
          generalize putL (w32 n) = wn at HW hb1
          go_wp2_with fail
          refine UK.wp_region_kept (fun w' => OS W w' own W.heap.size B bc fo fc I y s (clampD pages) [] [] [] none 0) (by kernel_rfl) (by kernel_rfl) (h5.next (Below.refl _ _).drew) ?_
          repeat (go_big_quiet_step (exact UK.kept_of (HW.out _) (fun _ _ hh => hh)))
          refine wpQuiet_nil ?_
          rintro ⟨w8, h8⟩
          go_wp2
          go_ret2
          exact .inr ⟨by rw [HE.out]; decide, by rw [HE.out] <;> rfl, h8.bel⟩
      · have HE : Hid (openR s pages = (3, [])) := by show _ = _; rw [HOR.out, if_pos (.inl hm)]
        have hm2 : ¬ List.take (List.length [84, 65, 66, 85, 76, 65, 82, 49]) head = [84, 65, 66, 85, 76, 65, 82, 49] := hm
        have hcp := fun w => cutp_no head [84, 65, 66, 85, 76, 65, 82, 49] (by rw [hll]; decide) (by omega) hm2 w
        clear hm hm2 HOR
        go_wp2_with fail
        refine (hcp _).mono ?_
        rintro e w6 ⟨rfl, rfl⟩
        go_wp2_with fail
        refine UK.wp_region_kept (fun w' => OS W w' own W.heap.size B bc fo fc I y s (clampD pages) [] [] [] none 0) (by kernel_rfl) (by kernel_rfl) (h5.next (Below.refl _ _).drew) ?_
        haveI : Nonempty (UK.Kept fun w' => OS W w' own W.heap.size B bc fo fc I y s (clampD pages) [] [] [] none 0) := ⟨⟨_, h5⟩⟩
        repeat (go_big_quiet_step (fail))
        refine wpQuiet_nil ?_
        rintro ⟨w8, h8⟩
        go_wp2
        go_ret2
        exact .inr ⟨by rw [HE.out]; decide, by rw [HE.out] <;> rfl, h8.bel⟩
end
end Go.Proofs.YtfljlcfmdcepnaaGreatDoor
namespace Go.Proofs.YtfljlcfmdcepnaaGreatDoor
open Go.RowKit
open UK (str BytesAt nth Only Row Box)
open Go.BigFrame
section
variable {W : World} {own : Nat → Prop} {D B bc fc I ic cnt : Nat} {fo : Option Addr} {y : List UInt8} {d : Dk}
theorem dbytes_any (h : DiskAt W own D B bc fo fc I ic y d) :
    Calls Tryz.prog 12 #[.pointer (some ⟨D, 0, none⟩)] W fun e w' => e = .returned (.string (str d.x)) ∧ w' = W := by
  have c0 := h.cells.at' 0 _ rfl
  have hcv := UK.run_window (P := Tryz.prog) (src := 87) (dst := 9) Tryz.underlying87 Tryz.underlying5 Tryz.underlying9 h.bytes 0 d.x.length bc (by have := h.le; have := h.ylen; omega)
  rw [List.drop_zero, h.pre] at hcv
  go_enter Tryz.func12, Tryz.ntmps12
  go_wp2
  go_ret
  exact ⟨rfl, rfl⟩
theorem open_flushed (h : Clean d cnt) (h3 : d.puts + 1 < 1000000000) (pages : Int) (hm : d.most = clampD pages) :
    ∃ x, openD (flushD d cnt).x pages = x ∧ x.x = (flushD d cnt).x ∧ x.free = d.free ∧ x.most = d.most ∧ Ok x cnt 0 ∧ Clean x cnt ∧ (openR (flushD d cnt).x pages).1 = 0 := by
  have hop := open_clean h h3 pages hm
  obtain ⟨hc, h0, _, hf, hi, hmo⟩ := h.flush h3
  have hlen := hc.fit.len
  have hone := h.fit.one
  have hmost := h.fit.most
  have hdiv : (flushD d cnt).x.length / 512 = cnt := by omega
  have e1 : openD (flushD d cnt).x pages = { x := (flushD d cnt).x, most := clampD pages, free := d.free, isf := flagsL cnt d.free.reverse, rl := -1, wl := -1, reads := 0, puts := 0 } := by
    unfold openD
    rw [hop, hdiv, List.reverse_reverse]
  have hfl : flagsL cnt d.free.reverse = d.isf := by
    refine List.ext_getElem (by rw [flagsL_length, h.fit.flags]) (fun i h1 h2 => ?_)
    have hic : i < cnt := by rwa [flagsL_length] at h1
    have a := flagsL_get cnt d.free.reverse i hic
    have b := h.so.mark i hic
    rw [List.getD_eq_getElem?_getD, List.getElem?_eq_getElem h1] at a
    rw [List.getD_eq_getElem?_getD, List.getElem?_eq_getElem h2] at b
    refine a.trans (Eq.trans ?_ b.symm)
    exact decide_eq_decide.2 List.mem_reverse
  have ho := openR_onway (flushD d cnt).x pages
  rw [hop, hdiv] at ho
  have hfit := fit_open (flushD d cnt).x pages d.free.reverse (by omega) (by omega) (by omega) (by rw [hdiv]; exact ho) d.free (by rw [List.length_reverse]; exact Nat.le_refl _) (fun p hh => List.mem_reverse.2 hh)
  rw [hdiv] at hfit
  rw [e1, hfl]
  rw [hfl] at hfit
  exact ⟨_, rfl, rfl, rfl, hm.symm, ⟨hfit, ⟨h.so.mark, h.so.nodup⟩, by show (0 : Int) ≤ _; omega, by show (0 : Int) ≤ _; omega⟩, hc.same hfit rfl hf.symm hi.symm rfl rfl, by rw [hop]⟩
end
section
variable {E : Nat → Prop} {W W' : World} {P D k : Nat} {A : AP}
def DiskZ (W w' : World) (X : Nat) (A : AP) : Prop :=
  ∃ d, DD (fun j => j < W.heap.size) w' X d A.cnt ∧ Ok d A.cnt 0 ∧ Clean d A.cnt ∧ d.free = A.free ∧ d.most = A.most ∧ ∀ p, 1 ≤ p → p < A.cnt → p ∉ A.free → lookL d.x p = A.c p
theorem fz_bytes (h : PZF E W P D A k) (pages : Int) (hm : A.most = clampD pages) :
    ∃ x, Calls Tryz.prog 12 #[.pointer (some ⟨D, 0, none⟩)] W (fun e w' => e = .returned (.string (str x)) ∧ w' = W) ∧
      ∀ w, TabAt w → Calls Tryz.prog 10 #[.string (str x), .int .i64 pages] w fun e w' => ∃ X, e = .returned (.tuple #[.pointer (some ⟨X, 0, none⟩), .int .i64 0]) ∧ DiskZ w w' X A ∧ Below w.heap.size w w' := by
  obtain ⟨FB, M, n, q, d0, h1, hn, his, hc, hp, hfr, hmo, hl⟩ := h
  have hdd := h1.pd.dd
  obtain ⟨x, ex, ex1, ex2, ex3, ex4, ex5, ex6⟩ := open_flushed hc hp pages (hmo.trans hm)
  refine ⟨(flushD d0 A.cnt).x, hdd.look_ (fun _ _ _ _ _ _ _ _ hd => dbytes_any hd), fun w ht => ?_⟩
  obtain ⟨hcf, _, _, _, _, _⟩ := hc.flush hp
  have hmm := hc.fit.most
  have hlen := hcf.fit.len
  refine (open_any _ pages w ht A.cnt hlen hc.fit.one (by rw [← hm, ← hmo]; omega)).mono ?_
  rintro e w' (⟨_, own, X, rfl, hx, hown, hb⟩ | ⟨hne, _⟩)
  · refine ⟨X, rfl, ⟨x, ⟨⟨own, fun j hj hlt => ?_, by rw [ex] at hx; exact hx⟩, ex4.fit, fun j hj => Nat.lt_of_lt_of_le hj hb.size⟩, ex4, ex5, ex2.trans hfr, ex3.trans hmo, fun p a b c => by rw [ex1]; exact hl p a b c⟩, hb⟩
    have := (hown j hj).1
    have : j < w.heap.size := hlt
    omega
  · exact absurd ex6 hne
structure Anew (A B : AP) : Prop where
  cnt : B.cnt = A.cnt
  free : B.free = A.free
  most : B.most = A.most
  op : B.op = none
  c : ∀ p, 1 ≤ p → p < A.cnt → p ∉ A.free → B.c p = A.c p
theorem Anew.has {B : AP} (h : Anew A B) (ho : A.op = none) (p : Nat) : B.Has p ↔ A.Has p := by
  unfold AP.Has AP.goneL
  rw [h.cnt, h.free, h.op, ho]
theorem Anew.same {B : AP} (h : Anew A B) {p : Nat} (hp : A.Has p) : B.c p = A.c p := h.c p hp.1 hp.2.1 hp.2.2.1
theorem Anew.good {B : AP} (h : Anew A B) (g : A.Good) : B.Good := by
  have hg : B.goneL = [] := by unfold AP.goneL; rw [h.op]
  refine ⟨by rw [h.cnt]; exact g.one, by rw [h.cnt, h.most]; exact g.most, by rw [h.most]; exact g.few, by rw [h.free]; exact g.nod, ?_, by rw [hg]; exact List.nodup_nil, fun x hx => by rw [hg] at hx; cases hx⟩
  rw [h.free, h.cnt]
  exact g.free
theorem pz_new {w : World} {X : Nat} (h : DiskZ w W X A) (n : Nat) (hn : 1 ≤ n ∧ n ≤ 1000) (hand : Int) :
    Calls Tryz.prog 13 #[.pointer (some ⟨X, 0, none⟩), .int .i64 n, .int .i64 hand] W fun e w' => ∃ P2 B, e = .returned (.pointer (some ⟨P2, 0, none⟩)) ∧ PZ (fun j => j < w.heap.size) w' P2 X B 0 ∧ Anew A B ∧ Kept (fun j => j < w.heap.size) W w' := by
  obtain ⟨d, hd, ok, cl, hf, hm, hl⟩ := h
  refine (pnew_any hd ok cl n hn hand).mono ?_
  rintro e w' ⟨P2, FB, M, q, rfl, s, kk, hop⟩
  exact ⟨P2, { cnt := A.cnt, most := A.most, free := A.free, c := fun p => lookL d.x p, op := none }, rfl, ⟨FB, M, n, q, d, s, hn.1, ⟨hf, hm, by rw [hop]; rfl⟩⟩, ⟨rfl, rfl, rfl, rfl, hl⟩, kk⟩
end
end Go.Proofs.YtfljlcfmdcepnaaGreatDoor
namespace Go.Proofs.YtfljlcfmdcepnaaGreatDoor
open Go.RowKit
open UK (str BytesAt nth Only Row Box)
structure B8 (m : Int) (j : Nat) (A : AP) (X : List KV) : Prop where
  good : A.Good
  len : ∀ p, A.Has p → (A.c p).length = 504
  most : A.most = m
  shut : A.op = none
  one : ∃ ps, TI A 1 X ps ∧ ∀ p, A.Has p ↔ p ∈ ps
  few : X.length ≤ j
section
variable {m : Int} {j : Nat} {A B : AP} {X X' : List KV} {ps : List Nat}
theorem B8.up {i : Nat} (h : B8 m j A X) (hi : j ≤ i) : B8 m i A X := ⟨h.good, h.len, h.most, h.shut, h.one, Nat.le_trans h.few hi⟩
theorem B8.room (h : B8 m j A X) (hm : 300 ≤ m) (hj : j ≤ 700) : 20 < A.rooms := by
  obtain ⟨ps, h1, h2⟩ := h.one
  have a := h.good.count8 h.shut h1.nod h2
  have b := h1.many
  have c := h.few
  have d := h.most
  omega
theorem B8.put (h : B8 m j A X) (K V : UInt64) (hh : ∀ p, A.Has p ↔ p ∈ ps) (ht : TI A 1 X ps) (hp : PutOk A B 1 (insL X K V) ps) : B8 m (j + 1) B (insL X K V) := by
  obtain ⟨new, ps2, hc, ht2, hm, _⟩ := hp.ex
  have a := insL_le K V ht.rise
  have b := h.few
  exact ⟨hc.reach.good h.good, hc.clen, hc.reach.most8.trans h.most, hc.reach _ shut_moves8 h.shut, ⟨ps2, ht2, fun p => by rw [hc.has, hh, hm]⟩, by omega⟩
theorem B8.drop (h : B8 m j A X) (hX : X'.length ≤ j) (hh : ∀ p, A.Has p ↔ p ∈ ps) (hp : GoneOk A B 1 X' ps) : B8 m j B X' := by
  obtain ⟨gone, ps', hc, ht, hm, _, _⟩ := hp.ex
  exact ⟨hc.reach.good h.good, hc.clen, hc.reach.most8.trans h.most, hc.shut.2 h.shut, ⟨ps', ht, fun p => by rw [hc.has, hh, hm]⟩, hX⟩
theorem B8.anew (h : B8 m j A X) (hn : Anew A B) : ∃ ps, TI B 1 X ps ∧ B.Good := by
  obtain ⟨ps, ⟨⟨d, s, h1, h2, h3, h4⟩, h5, h6⟩, h7⟩ := h.one
  refine ⟨ps, ⟨⟨d, s, Tr.same d s h1 (fun p hp => ?_), h2, h3, h4⟩, h5, fun p hp => (hn.has h.shut p).2 (h6 p hp)⟩, hn.good h.good⟩
  subst h4
  unfold ndAt
  rw [hn.same (h6 p hp)]
end
section
variable {S : Nat → Prop} {W : World} {P D T k c d j : Nat} {m : Int} {A : AP} {X Y : List KV} {ao bo : Option Addr} {op : Bool}
theorem does_b8 (h : RM S W P D T ao c X bo d Y A k) (hS : ∀ j, S j → j < W.heap.size) (hk : k + 100000 < 899999990) (kd nn : Int) (K V : UInt64) (hl : B8 m j A X) (hm : 300 ≤ m) (hj : j ≤ 600) (hkd : kd = 1 ∨ kd = 2) :
    Calls Tryz.prog 8 #[.agg (rcells P T ao X.length c bo Y.length d op), .agg (acells8 kd nn K V)] W fun e w' => DoesR S W w' P D (k + 100000) (fun A' X' Y' op' => B8 m (j + 40) A' X' ∧ Y' = Y ∧ op' = op) e := by
  have h40 := (timesOf_le nn).1
  rcases hkd with rfl | rfl
  · refine (does_put h hS (by omega) nn K V (fun i A' X' => B8 m (j + i) A' X') hl (fun i A' X' hp hi => ?_)).mono fun e w' he => he.imp (Nat.le_refl _) (by
      rintro A' X' Y' op' ⟨hp, rfl, rfl⟩
      exact ⟨hp.up (by omega), rfl, rfl⟩)
    obtain ⟨ps, h1, h2⟩ := hp.one
    have hf := hp.few
    exact ⟨ps, h1, hp.good, hp.len, hp.room hm (by omega), by omega, fun B hb => hp.put _ _ h2 h1 hb⟩
  · refine (does_drop h hS (by omega) nn K V (fun i A' X' => B8 m j A' X') hl (fun i A' X' hp hi => ?_)).mono fun e w' he => he.imp (Nat.le_refl _) (by
      rintro A' X' Y' op' ⟨hp, rfl, rfl⟩
      exact ⟨hp.up (by omega), rfl, rfl⟩)
    obtain ⟨ps, h1, h2⟩ := hp.one
    have hf := hp.few
    exact ⟨ps, h1, hp.good, hp.len, by omega, fun B hb => hp.drop (Nat.le_trans (delL_le _ _) hf) h2 hb⟩
end
end Go.Proofs.YtfljlcfmdcepnaaGreatDoor
namespace Go.Proofs.YtfljlcfmdcepnaaGreatDoor
open Go.RowKit
open UK (str BytesAt nth Only Row Box)
set_option maxRecDepth 100000 in
theorem made_three (W : World) (ht : TabAt W) (S : Nat → Prop) (hS : ∀ j, S j → j < W.heap.size) (fr : Nat) (hfr : 1 ≤ fr ∧ fr ≤ 1000) :
    Calls Tryz.prog 7 #[.int .i64 300, .int .i64 fr] W fun e w' => ∃ P D T N M, e = .returned (.tuple #[.pointer (some ⟨P, 0, none⟩), .pointer (some ⟨T, 0, none⟩)]) ∧ TreeAt (fun j => S j ∨ (N ≤ j ∧ j < M)) w' P D T 1 (leafA 300) 3 ∧ W.heap.size ≤ N ∧ Kept S W w' := by
  have HD := Lib.hid (dd_new W 300 ht S hS)
  go_enter Tryz.func7, Tryz.ntmps7
  go_wp2_with fail
  refine HD.out.mono ?_
  rintro e w1 ⟨rfl, hd, hb⟩
  have HP := Lib.hid (pnew_any hd (Ok.new 300) (clean_new 300) fr hfr 0)
  have k0 : Kept S W w1 := Kept.of_below hb hS
  have HK := Lib.hid k0
  clear HD hd hb k0
  go_wp2_with fail
  refine HP.out.mono ?_
  rintro e w2 ⟨P, FB, M, q, rfl, hps, hk2, hop⟩
  have st := newD_still 300
  have hpz : PZ S w2 P W.heap.size (newA 300) 0 := ⟨FB, M, fr, q, newD 300, hps, hfr.1, ⟨st.free, st.most, by rw [hop]; rfl⟩⟩
  have hnf : ¬ (newA 300).Full := by
    intro h
    have h1 : clampD 300 ≤ ((1 : Nat) : Int) := h.1
    have h2 : clampD 300 = 300 := rfl
    omega
  have HT := Lib.hid (tree_new hpz (by omega) hnf)
  have HK2 := Lib.hid (HK.out.trans hk2)
  clear HP HK hps hk2 hop st hpz hnf
  go_wp2_with fail
  refine HT.out.mono ?_
  rintro e w3 ⟨T, N, M', rfl, hbox, hN, hT1, hT2, hpz, hk3⟩
  have HX := Lib.hid (And.intro hbox (And.intro hN (And.intro hT1 (And.intro hT2 (And.intro hpz hk3)))))
  clear HT hbox hN hT1 hT2 hpz hk3
  go_wp2
  go_ret2
  obtain ⟨hbox, hN, hT1, hT2, hpz, hk3⟩ := HX.out
  exact ⟨P, _, T, N, M', rfl, ⟨hpz, hbox, .inr ⟨hT1, hT2⟩⟩, Nat.le_trans HK2.out.size hN, HK2.out.trans hk3⟩
theorem leafB_take : (newA 300).take.c 1 = UK.zeros 504 := by
  show setC (newA 300).c (newA 300).next (UK.zeros 504) 1 = _
  unfold setC
  rw [if_pos (show (newA 300).next = 1 from rfl)]
theorem leafB_eq : leafA 300 = (newA 300).take.wrote 1 (encN ((newA 300).take.c 1) ⟨true, [], [], []⟩) := by
  rw [leafB_take]
  rfl
theorem leafB_has (p : Nat) : (leafA 300).Has p ↔ p ∈ [1] := by
  rw [List.mem_singleton]
  have h : (leafA 300).Has p ↔ (newA 300).take.Has p := AP.wrote_has
  rw [h]
  constructor
  · rintro ⟨h1, h2, _, _⟩
    have h3 : p < 2 := h2
    omega
  · rintro rfl
    exact ⟨by omega, by show 1 < 2; omega, by show 1 ∉ ([] : List Nat); simp, by show ((1 : Nat) : Int) ∉ ([] : List Int); simp⟩
theorem leafB_ti : TI (leafA 300) 1 [] [1] := by
  have hl : ((newA 300).take.c 1).length = 504 := by rw [leafB_take]; exact UK.zeros_length 504
  have hfit : Fits ⟨true, [], [], []⟩ := ⟨fun _ => ⟨Nat.zero_le _, rfl, rfl⟩, (fun h => by cases h)⟩
  have hnd : ndAt (leafA 300) 1 = some ⟨true, [], [], []⟩ := by rw [leafB_eq, ndAt_wrote hl hfit, if_pos rfl]
  exact ⟨⟨0, ⟨1, [], [1]⟩, ⟨[], [], hnd, rfl, fun a b x y _ hx => (by simp at hx), rfl, rfl⟩, rfl, rfl, rfl⟩, List.pairwise_singleton _ _, fun p hp => (leafB_has p).2 hp⟩
theorem leafB_len (p : Nat) (h : (leafA 300).Has p) : ((leafA 300).c p).length = 504 := by
  obtain rfl := List.mem_singleton.1 ((leafB_has p).1 h)
  show ((AP.wrote _ 1 _).c 1).length = 504
  rw [AP.wrote_c, if_pos rfl, encLeaf_length _ _ _ (by simp) rfl (by rw [UK.zeros_length]; omega)]
  exact UK.zeros_length 504
theorem leafB_op : (leafA 300).op = none := rfl
theorem leafB_good : (leafA 300).Good :=
  ⟨by show 1 ≤ 2; omega, by show ((2 : Nat) : Int) ≤ 300; omega, by show (300 : Int) ≤ 60000; omega, List.nodup_nil, fun p hp => absurd hp List.not_mem_nil, List.nodup_nil, fun g hg => absurd hg List.not_mem_nil⟩
end Go.Proofs.YtfljlcfmdcepnaaGreatDoor
namespace Go.Proofs.YtfljlcfmdcepnaaGreatDoor
open Go.RowKit
open UK (str BytesAt nth Only Row Box)
open Go.BigFrame
def HZ8 (Q : AP → List KV → List KV → Bool → Prop) (x0 : Nat) (cs : Array Value) (W w : World) (P D rb K : Nat) : Prop :=
  ∃ (T : Nat) (ao : Option Addr) (c : Nat) (X : List KV) (bo : Option Addr) (d : Nat) (Y : List KV) (op : Bool) (A : AP) (k : Nat),
    Box w rb (rcells P T ao X.length c bo Y.length d op) ∧ RM (fun b => (b < W.heap.size ∨ b = rb) ∨ b = x0) w P D T ao c X bo d Y A k ∧ k ≤ K ∧ Q A X Y op ∧ Kept (fun b => b < W.heap.size) W w ∧ W.heap.size ≤ rb ∧ Box w x0 cs ∧ x0 ≠ rb
def GZ8 (Q : AP → List KV → List KV → Bool → Prop) (x0 : Nat) (cs : Array Value) (W w : World) (P D rb q K T : Nat) (ao : Option Addr) (n c : Nat) (bo : Option Addr) (m d : Nat) (op : Bool) : Prop :=
  ∃ (X Y : List KV) (A : AP) (k : Nat), X.length = n ∧ Y.length = m ∧
    RM (fun b => (b < W.heap.size ∨ b = rb) ∨ b = x0) w P D T ao c X bo d Y A k ∧ k ≤ K ∧ Q A X Y op ∧ Kept (fun b => b < W.heap.size) W w ∧ W.heap.size ≤ rb ∧ q ≠ rb ∧ Box w x0 cs ∧ x0 ≠ rb ∧
    ∃ T0 ao0 n0 c0 bo0 m0 d0 op0, Box w rb (rcells P T0 ao0 n0 c0 bo0 m0 d0 op0)
section
variable {Q : AP → List KV → List KV → Bool → Prop} {W w w2 w3 : World} {P D T k c d g rb q n m K x0 : Nat} {cs : Array Value} {A : AP} {X Y : List KV} {ao bo : Option Addr} {op : Bool}
theorem GZ8.turn (h : GZ8 Q x0 cs W w P D rb q K T ao n c bo m d op) (ht : 0 < W.heap.size) : ∃ (X Y : List KV) (A : AP) (k : Nat), X.length = n ∧ Y.length = m ∧
    Box (UK.fill5 w rb (.pointer (some ⟨P, 0, none⟩)) (.pointer (some ⟨T, 0, none⟩)) (.slice ao n c) (.slice bo m d) (.bool op)) rb (rcells P T ao n c bo m d op) ∧
    RM (fun b => (b < W.heap.size ∨ b = rb) ∨ b = x0) (UK.fill5 w rb (.pointer (some ⟨P, 0, none⟩)) (.pointer (some ⟨T, 0, none⟩)) (.slice ao n c) (.slice bo m d) (.bool op)) P D T ao c X bo d Y A k ∧ k ≤ K ∧ Q A X Y op ∧
    Kept (fun b => b < W.heap.size) W (UK.fill5 w rb (.pointer (some ⟨P, 0, none⟩)) (.pointer (some ⟨T, 0, none⟩)) (.slice ao n c) (.slice bo m d) (.bool op)) ∧ Box (UK.fill5 w rb (.pointer (some ⟨P, 0, none⟩)) (.pointer (some ⟨T, 0, none⟩)) (.slice ao n c) (.slice bo m d) (.bool op)) x0 cs ∧ x0 ≠ rb := by
  obtain ⟨X, Y, A, k, rfl, rfl, hr, hk, hQ, kp, hw, hq, hz, hzn, T0, ao0, n0, c0, bo0, m0, d0, op0, hb⟩ := h
  have o := UK.Only.fill5 w rb (.pointer (some ⟨P, 0, none⟩)) (.pointer (some ⟨T, 0, none⟩)) (.slice ao X.length c) (.slice bo Y.length d) (.bool op)
  have b2 := hb.fill5 (.pointer (some ⟨P, 0, none⟩)) (.pointer (some ⟨T, 0, none⟩)) (.slice ao X.length c) (.slice bo Y.length d) (.bool op)
  refine ⟨X, Y, A, k, rfl, rfl, b2, hr.five (.inl (.inr rfl)) (by omega) hb rfl b2 o, hk, hQ, kp.trans ⟨o.os, o.tape, o.output, o.size, fun j hj => o.block j (Nat.lt_of_lt_of_le hj kp.size) (by have : j < W.heap.size := hj; omega)⟩, hz.only o hzn, hzn⟩
theorem does_aheadZ {Q2 : AP → List KV → List KV → Bool → Prop} {a : Value} (hb : Box w rb (rcells P T ao X.length c bo Y.length d op)) (hr : RM (fun b => (b < W.heap.size ∨ b = rb) ∨ b = x0) w P D T ao c X bo d Y A k) (kp : Kept (fun b => b < W.heap.size) W w) (hw : W.heap.size ≤ rb) (hz : Box w x0 cs) (hzn : x0 ≠ rb) (_ht : 0 < W.heap.size)
    (hD : ∀ (S : Nat → Prop) (w1 : World), RM S w1 P D T ao c X bo d Y A k → (∀ j, S j → j < w1.heap.size) → Calls Tryz.prog 8 #[.agg (rcells P T ao X.length c bo Y.length d op), a] w1 fun e w' => DoesR S w1 w' P D K Q2 e) :
    Calls Tryz.prog 8 #[.agg (rcells P T ao X.length c bo Y.length d op), a] (w.alloc (.cells zcells8 30)).drew fun e w3 => ∃ T2 ao2 n2 c2 bo2 m2 d2 op2, e = .returned (.tuple #[.agg (rcells P T2 ao2 n2 c2 bo2 m2 d2 op2), .bool true]) ∧ Box w3 w.heap.size zcells8 ∧ GZ8 Q2 x0 cs W (UK.fill5 w3 w.heap.size (.pointer (some ⟨P, 0, none⟩)) (.pointer (some ⟨T2, 0, none⟩)) (.slice ao2 n2 c2) (.slice bo2 m2 d2) (.bool op2)) P D rb w.heap.size K T2 ao2 n2 c2 bo2 m2 d2 op2 := by
  have a1 : Below w.heap.size w (w.alloc (.cells zcells8 30)).drew := ((Below.refl _ _).alloc (Nat.le_refl _) _).drew
  have x1 : Box (w.alloc (.cells zcells8 30)).drew w.heap.size zcells8 := (Box.new w zcells8 30).of_block rfl
  have hs : (w.alloc (.cells zcells8 30)).drew.heap.size = w.heap.size + 1 := by simp
  generalize (w.alloc (.cells zcells8 30)).drew = wa at a1 x1 hs
  have hrbl := hb.lt
  have hzl := hz.lt
  have hr1 : RM (fun b => ((b < W.heap.size ∨ b = rb) ∨ b = x0) ∨ b = w.heap.size) wa P D T ao c X bo d Y A k := hr.wide a1 (fun j hj => by
    rcases hj with hj | hj
    · exact .inl hj
    · exact .inr (by omega))
  refine (hD _ wa hr1 (fun j hj => ?_)).mono ?_
  · have := kp.size
    rcases hj with ((hj | hj) | hj) | hj <;> omega
  · rintro e w3 ⟨T2, ao2, c2, X2, bo2, d2, Y2, op2, A2, k2, he, hr3, hk2, k3, hQ2⟩
    have x3 := x1.of_block (k3.block _ (.inr rfl))
    have b3 := (hb.below a1 hrbl).of_block (k3.block rb (.inl (.inl (.inr rfl))))
    have z3 := (hz.below a1 hzl).of_block (k3.block x0 (.inl (.inr rfl)))
    have o := UK.Only.fill5 w3 w.heap.size (.pointer (some ⟨P, 0, none⟩)) (.pointer (some ⟨T2, 0, none⟩)) (.slice ao2 X2.length c2) (.slice bo2 Y2.length d2) (.bool op2)
    have x4 := x3.fill5 (.pointer (some ⟨P, 0, none⟩)) (.pointer (some ⟨T2, 0, none⟩)) (.slice ao2 X2.length c2) (.slice bo2 Y2.length d2) (.bool op2)
    have hwle := kp.size
    have hr4 := hr3.five (.inr rfl) (by omega) x3 rfl x4 o
    have k13 : Kept (fun b => b < W.heap.size) W w3 := (kp.trans (Kept.of_below a1 (fun j hj => Nat.lt_of_lt_of_le hj hwle))).trans (k3.mono (fun j hj => .inl (.inl (.inl hj))))
    have k14 : Kept (fun b => b < W.heap.size) W (UK.fill5 w3 w.heap.size (.pointer (some ⟨P, 0, none⟩)) (.pointer (some ⟨T2, 0, none⟩)) (.slice ao2 X2.length c2) (.slice bo2 Y2.length d2) (.bool op2)) := k13.trans ⟨o.os, o.tape, o.output, o.size, fun j hj => o.block j (Nat.lt_of_lt_of_le hj k13.size) (by have : j < W.heap.size := hj; omega)⟩
    exact ⟨T2, ao2, X2.length, c2, bo2, Y2.length, d2, op2, he, x3, X2, Y2, A2, k2, rfl, rfl, hr4.wide (Below.refl _ _) (fun j hj => .inl (.inl hj)), hk2, hQ2, k14, hw, by omega, z3.only o (by omega), hzn, T, ao, X.length, c, bo, Y.length, d, op, b3.only o (by omega)⟩
theorem does_behindZ {Q2 : AP → List KV → List KV → Bool → Prop} {a : Value} (hb : Box w rb (rcells P T ao X.length c bo Y.length d op)) (hr : RM (fun b => (b < W.heap.size ∨ b = rb) ∨ b = x0) w P D T ao c X bo d Y A k) (kp : Kept (fun b => b < W.heap.size) W w) (hw : W.heap.size ≤ rb) (hz : Box w x0 cs) (hzn : x0 ≠ rb)
    (hD : ∀ (S : Nat → Prop) (w1 : World), RM S w1 P D T ao c X bo d Y A k → (∀ j, S j → j < w1.heap.size) → Calls Tryz.prog 8 #[.agg (rcells P T ao X.length c bo Y.length d op), a] w1 fun e w' => DoesR S w1 w' P D K Q2 e) :
    Calls Tryz.prog 8 #[.agg (rcells P T ao X.length c bo Y.length d op), a] w.drew fun e w3 => ∃ T2 ao2 n2 c2 bo2 m2 d2 op2, e = .returned (.tuple #[.agg (rcells P T2 ao2 n2 c2 bo2 m2 d2 op2), .bool true]) ∧ w.heap.size ≤ w3.heap.size ∧ ∀ vs ty, GZ8 Q2 x0 cs W (w3.alloc (.cells vs ty)) P D rb w3.heap.size K T2 ao2 n2 c2 bo2 m2 d2 op2 := by
  have a1 : Below w.heap.size w w.drew := (Below.refl _ _).drew
  have hs : w.drew.heap.size = w.heap.size := rfl
  generalize w.drew = wa at a1 hs
  have hrbl := hb.lt
  have hzl := hz.lt
  have hr1 : RM (fun b => (b < W.heap.size ∨ b = rb) ∨ b = x0) wa P D T ao c X bo d Y A k := hr.wide a1 (fun j hj => .inl hj)
  refine (hD _ wa hr1 (fun j hj => ?_)).mono ?_
  · have := kp.size
    rcases hj with (hj | hj) | hj <;> omega
  · rintro e w3 ⟨T2, ao2, c2, X2, bo2, d2, Y2, op2, A2, k2, he, hr3, hk2, k3, hQ2⟩
    have b3 := (hb.below a1 hrbl).of_block (k3.block rb (.inl (.inr rfl)))
    have z3 := (hz.below a1 hzl).of_block (k3.block x0 (.inr rfl))
    have hwle := kp.size
    have k13 : Kept (fun b => b < W.heap.size) W w3 := (kp.trans (Kept.of_below a1 (fun j hj => Nat.lt_of_lt_of_le hj hwle))).trans (k3.mono (fun j hj => .inl (.inl hj)))
    have hs3 := k3.size
    refine ⟨T2, ao2, X2.length, c2, bo2, Y2.length, d2, op2, he, by omega, fun vs ty => ?_⟩
    have a4 : Below w3.heap.size w3 (w3.alloc (.cells vs ty)) := (Below.refl _ _).alloc (Nat.le_refl _) _
    exact ⟨X2, Y2, A2, k2, rfl, rfl, hr3.wide a4 (fun j hj => .inl hj), hk2, hQ2, k13.trans (Kept.of_below a4 (fun j hj => Nat.lt_of_lt_of_le hj k13.size)), hw, by omega, z3.next a4, hzn, T, ao, X.length, c, bo, Y.length, d, op, b3.next a4⟩
end
end Go.Proofs.YtfljlcfmdcepnaaGreatDoor
