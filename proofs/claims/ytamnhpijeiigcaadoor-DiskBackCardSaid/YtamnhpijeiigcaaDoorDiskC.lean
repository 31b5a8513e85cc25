/-
  A disk in the world; fail, next, Count, Free, Room, Has.
-/
import Derived.Test.YtamnhpijeiigcaaDoorDiskB
import Derived.Test.YtamnhpijeiigcaaDoorURow
namespace Go.Proofs.YtamnhpijeiigcaaDoor
open Go.RowKit
open UK (str BytesAt nth Only w32 Row)
open Go.BigFrame
/-- what a disk is -/
structure Dk where
  x : List UInt8
  most : Int
  free : List Nat
  isf : List Bool
  rl : Int
  wl : Int
  reads : Int
  puts : Int
def ints (l : List Nat) : List Value := l.map fun (n : Nat) => Value.int .i64 (n : Int)
def bools (l : List Bool) : List Value := l.map Value.bool
theorem ints_length (l : List Nat) : (ints l).length = l.length := by simp [ints]
theorem bools_length (l : List Bool) : (bools l).length = l.length := by simp [bools]
def Dk.vals (d : Dk) (B bc : Nat) (fo : Option Addr) (fc I ic : Nat) : List Value :=
  [.slice (some ⟨B, 0, none⟩) d.x.length bc, .int .i64 d.most, .slice fo d.free.length fc, .slice (some ⟨I, 0, none⟩) d.isf.length ic, .int .i64 d.rl, .int .i64 d.wl, .int .i64 d.reads, .int .i64 d.puts]
structure DiskAt (W : World) (own : Nat → Prop) (D B bc : Nat) (fo : Option Addr) (fc I ic : Nat) (y : List UInt8) (d : Dk) : Prop where
  cells : Row W D 8 (d.vals B bc fo fc I ic)
  bytes : BytesAt W B y
  ylen : y.length = bc
  le : d.x.length ≤ bc
  pre : y.take d.x.length = d.x
  freeAt : (fo = none ∧ d.free = [] ∧ fc = 0) ∨ ∃ F, fo = some ⟨F, 0, none⟩ ∧ Row W F fc (ints d.free) ∧ F ≠ D ∧ F ≠ B ∧ F ≠ I ∧ own F
  flags : Row W I ic (bools d.isf)
  DB : D ≠ B
  DI : D ≠ I
  BI : B ≠ I
  oD : own D
  oB : own B
  oI : own I
  tab : TabAt W
  notab : ¬ own 0
def Disk (W : World) (own : Nat → Prop) (D : Nat) (d : Dk) : Prop := ∃ B bc fo fc I ic y, DiskAt W own D B bc fo fc I ic y d
/-- what has turned lies in what is owned; what is owned behind was owned, or is new -/
structure Moves (own own' : Nat → Prop) (W W' : World) : Prop where
  os : W'.os = W.os
  tape : W'.tape = W.tape
  output : W'.output = W.output
  size : W.heap.size ≤ W'.heap.size
  block : ∀ k, k < W.heap.size → ¬ own k → W'.heap[k]? = W.heap[k]?
  owns : ∀ k, own' k → own k ∨ W.heap.size ≤ k
namespace Moves
variable {o o' o'' : Nat → Prop} {A B C : World}
theorem trans (h : Moves o o' A B) (k : Moves o' o'' B C) : Moves o o'' A C :=
  ⟨k.os.trans h.os, k.tape.trans h.tape, k.output.trans h.output, Nat.le_trans h.size k.size,
    fun i hi hn => (k.block i (Nat.lt_of_lt_of_le hi h.size) (fun ho => by rcases h.owns i ho with h1 | h1; exact hn h1; omega)).trans (h.block i hi hn),
    fun i hi => by
      rcases k.owns i hi with h1 | h1
      · exact h.owns i h1
      · exact .inr (Nat.le_trans h.size h1)⟩
theorem of_below (h : Below A.heap.size A B) : Moves o o A B := ⟨h.os, h.tape, h.output, h.size, fun k hk _ => h.block k hk, fun _ h => .inl h⟩
theorem of_only {G : Nat} (h : Only G A B) (hG : o G) : Moves o o A B := ⟨h.os, h.tape, h.output, h.size, fun k hk hn => h.block k hk (fun e => hn (e ▸ hG)), fun _ h => .inl h⟩
theorem below (h : Moves o o' A B) {n : Nat} (hn : n ≤ A.heap.size) (ho : ∀ k, o k → n ≤ k) : Below n A B :=
  ⟨h.os, h.tape, h.output, h.size, fun k hk => h.block k (by omega) (fun hh => by have := ho k hh; omega)⟩
end Moves
/-- one thing more is done: what is left then -/
def failN (n : Int) : Int := if n = 0 then -1 else if 0 < n then n - 1 else n
def failE (n : Int) : Int := if n = 0 then 7 else 0
theorem fail_any {W : World} {D : Nat} {vs : List Value} (h : Row W D 8 vs) (j : Nat) (n : Int) (hj : vs[j]? = some (.int .i64 n)) (hn : -1 ≤ n ∧ n ≤ 9223372036854775807) :
    Calls Tryd.prog 31 #[.pointer (some ⟨D, 0, none⟩), .pointer (some ⟨D, j, none⟩)] W fun e w' => e = .returned (.int .i64 (failE n)) ∧ Row w' D 8 (vs.set j (.int .i64 (failN n))) ∧ Only D W w' := by
  have hc := h.at' j _ hj
  have hl : j < vs.length := (List.getElem?_eq_some_iff.1 hj).1
  have hf := h.free j (by have := h.le; omega)
  have hs := h.set j (.int .i64 (failN n)) hl
  have ho := (Only.refl D W).set j (.int .i64 (failN n))
  have hn1 := hn.1
  have hn2 := hn.2
  clear hn
  by_cases h0 : n = 0
  · have HE : Hid (failE n = 7) := by show _ = _; unfold failE; rw [if_pos h0]
    have HN : Hid (failN n = -1) := by show _ = _; unfold failN; rw [if_pos h0]
    rw [HN.out] at hs ho
    rw [HE.out, HN.out]
    subst h0
    go_enter Tryd.func31, Tryd.ntmps31
    go_wp2
    go_ret
    exact ⟨rfl, hs, ho⟩
  · have hne : (n == 0) = false := beq_eq_false_iff_ne.2 h0
    have HE : Hid (failE n = 0) := by show _ = _; unfold failE; rw [if_neg h0]
    rw [HE.out]
    by_cases hp : 0 < n
    · have HN : Hid (failN n = n - 1) := by show _ = _; unfold failN; rw [if_neg h0, if_pos hp]
      rw [HN.out] at hs ho
      rw [HN.out]
      clear h0
      go_enter Tryd.func31, Tryd.ntmps31
      go_wp2
      go_ret
      exact ⟨rfl, hs, ho⟩
    · have HN : Hid (failN n = n) := by show _ = _; unfold failN; rw [if_neg h0, if_neg hp]
      have hset : vs.set j (.int .i64 n) = vs := by
        refine List.ext_getElem? (fun i => ?_)
        by_cases hi : i = j
        · subst hi; rw [List.getElem?_set_self hl, hj]
        · rw [List.getElem?_set_ne (by omega)]
      rw [HN.out, hset]
      clear h0
      go_enter Tryd.func31, Tryd.ntmps31
      go_wp2
      go_ret
      exact ⟨rfl, h, Only.refl _ _⟩
end Go.Proofs.YtamnhpijeiigcaaDoor
