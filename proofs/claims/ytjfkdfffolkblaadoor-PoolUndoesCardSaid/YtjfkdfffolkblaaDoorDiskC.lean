/-
  A disk in the world; fail, next, Count, Free, Room, Has.
  disk: Count, Free, Room, Has, next: what they compute.
-/
import Derived.Test.YtjfkdfffolkblaaDoorDiskB
import Derived.Test.YtjfkdfffolkblaaDoorUMem
namespace Go.Proofs.YtjfkdfffolkblaaDoor
open Go.RowKit
open UK (str BytesAt nth Only w32 Row)
open Go.BigFrame
/-- what a disk is -/
structure Dk where
  x : List UInt8
  most : Int
  free : List Nat
  isf : List Bool
  rl : Int
  wl : Int
  reads : Int
  puts : Int
def ints (l : List Nat) : List Value := l.map fun (n : Nat) => Value.int .i64 (n : Int)
def bools (l : List Bool) : List Value := l.map Value.bool
theorem ints_length (l : List Nat) : (ints l).length = l.length := by simp [ints]
theorem bools_length (l : List Bool) : (bools l).length = l.length := by simp [bools]
def Dk.vals (d : Dk) (B bc : Nat) (fo : Option Addr) (fc I ic : Nat) : List Value :=
  [.slice (some ⟨B, 0, none⟩) d.x.length bc, .int .i64 d.most, .slice fo d.free.length fc, .slice (some ⟨I, 0, none⟩) d.isf.length ic, .int .i64 d.rl, .int .i64 d.wl, .int .i64 d.reads, .int .i64 d.puts]
structure DiskAt (W : World) (own : Nat → Prop) (D B bc : Nat) (fo : Option Addr) (fc I ic : Nat) (y : List UInt8) (d : Dk) : Prop where
  cells : Row W D 8 (d.vals B bc fo fc I ic)
  bytes : BytesAt W B y
  ylen : y.length = bc
  le : d.x.length ≤ bc
  pre : y.take d.x.length = d.x
  freeAt : (fo = none ∧ d.free = [] ∧ fc = 0) ∨ ∃ F, fo = some ⟨F, 0, none⟩ ∧ Row W F fc (ints d.free) ∧ F ≠ D ∧ F ≠ B ∧ F ≠ I ∧ own F
  flags : Row W I ic (bools d.isf)
  DB : D ≠ B
  DI : D ≠ I
  BI : B ≠ I
  oD : own D
  oB : own B
  oI : own I
  tab : TabAt W
  notab : ¬ own 0
def Disk (W : World) (own : Nat → Prop) (D : Nat) (d : Dk) : Prop := ∃ B bc fo fc I ic y, DiskAt W own D B bc fo fc I ic y d
/-- what has turned lies in what is owned; what is owned behind was owned, or is new -/
structure Moves (own own' : Nat → Prop) (W W' : World) : Prop where
  os : W'.os = W.os
  tape : W'.tape = W.tape
  output : W'.output = W.output
  size : W.heap.size ≤ W'.heap.size
  block : ∀ k, k < W.heap.size → ¬ own k → W'.heap[k]? = W.heap[k]?
  owns : ∀ k, own' k → own k ∨ W.heap.size ≤ k
namespace Moves
variable {o o' o'' : Nat → Prop} {A B C : World}
theorem trans (h : Moves o o' A B) (k : Moves o' o'' B C) : Moves o o'' A C :=
  ⟨k.os.trans h.os, k.tape.trans h.tape, k.output.trans h.output, Nat.le_trans h.size k.size,
    fun i hi hn => (k.block i (Nat.lt_of_lt_of_le hi h.size) (fun ho => by rcases h.owns i ho with h1 | h1; exact hn h1; omega)).trans (h.block i hi hn),
    fun i hi => by
      rcases k.owns i hi with h1 | h1
      · exact h.owns i h1
      · exact .inr (Nat.le_trans h.size h1)⟩
theorem of_below (h : Below A.heap.size A B) : Moves o o A B := ⟨h.os, h.tape, h.output, h.size, fun k hk _ => h.block k hk, fun _ h => .inl h⟩
theorem of_only {G : Nat} (h : Only G A B) (hG : o G) : Moves o o A B := ⟨h.os, h.tape, h.output, h.size, fun k hk hn => h.block k hk (fun e => hn (e ▸ hG)), fun _ h => .inl h⟩
theorem below (h : Moves o o' A B) {n : Nat} (hn : n ≤ A.heap.size) (ho : ∀ k, o k → n ≤ k) : Below n A B :=
  ⟨h.os, h.tape, h.output, h.size, fun k hk => h.block k (by omega) (fun hh => by have := ho k hh; omega)⟩
end Moves
/-- one thing more is done: what is left then -/
def failN (n : Int) : Int := if n = 0 then -1 else if 0 < n then n - 1 else n
def failE (n : Int) : Int := if n = 0 then 7 else 0
theorem fail_any {W : World} {D : Nat} {vs : List Value} (h : Row W D 8 vs) (j : Nat) (n : Int) (hj : vs[j]? = some (.int .i64 n)) (hn : -1 ≤ n ∧ n ≤ 9223372036854775807) :
    Calls Tryd.prog 65 #[.pointer (some ⟨D, 0, none⟩), .pointer (some ⟨D, j, none⟩)] W fun e w' => e = .returned (.int .i64 (failE n)) ∧ Row w' D 8 (vs.set j (.int .i64 (failN n))) ∧ Only D W w' := by
  have hc := h.at' j _ hj
  have hl : j < vs.length := (List.getElem?_eq_some_iff.1 hj).1
  have hf := h.free j (by have := h.le; omega)
  have hs := h.set j (.int .i64 (failN n)) hl
  have ho := (Only.refl D W).set j (.int .i64 (failN n))
  have hn1 := hn.1
  have hn2 := hn.2
  clear hn
  by_cases h0 : n = 0
  · have HE : Hid (failE n = 7) := by show _ = _; unfold failE; rw [if_pos h0]
    have HN : Hid (failN n = -1) := by show _ = _; unfold failN; rw [if_pos h0]
    rw [HN.out] at hs ho
    rw [HE.out, HN.out]
    subst h0
    go_enter Tryd.func65, Tryd.ntmps65
    go_wp2
    go_ret
    exact ⟨rfl, hs, ho⟩
  · have hne : (n == 0) = false := beq_eq_false_iff_ne.2 h0
    have HE : Hid (failE n = 0) := by show _ = _; unfold failE; rw [if_neg h0]
    rw [HE.out]
    by_cases hp : 0 < n
    · have HN : Hid (failN n = n - 1) := by show _ = _; unfold failN; rw [if_neg h0, if_pos hp]
      rw [HN.out] at hs ho
      rw [HN.out]
      clear h0
      go_enter Tryd.func65, Tryd.ntmps65
      go_wp2
      go_ret
      exact ⟨rfl, hs, ho⟩
    · have HN : Hid (failN n = n) := by show _ = _; unfold failN; rw [if_neg h0, if_neg hp]
      have hset : vs.set j (.int .i64 n) = vs := by
        refine List.ext_getElem? (fun i => ?_)
        by_cases hi : i = j
        · subst hi; rw [List.getElem?_set_self hl, hj]
        · rw [List.getElem?_set_ne (by omega)]
      rw [HN.out, hset]
      clear h0
      go_enter Tryd.func65, Tryd.ntmps65
      go_wp2
      go_ret
      exact ⟨rfl, h, Only.refl _ _⟩
end Go.Proofs.YtjfkdfffolkblaaDoor
namespace Go.Proofs.YtjfkdfffolkblaaDoor
open Go.RowKit
open UK (str BytesAt nth Only w32 Row)
open Go.BigFrame
/-- what holds of a disk that New and its calls have made -/
structure Fit (d : Dk) (cnt : Nat) : Prop where
  len : d.x.length = 512 * cnt
  flags : d.isf.length = cnt
  one : 1 ≤ cnt
  few : cnt ≤ 60000
  most : 2 ≤ d.most ∧ d.most ≤ 60000 ∧ (cnt : Int) ≤ d.most
  free : ∀ p, p ∈ d.free → 1 ≤ p ∧ p < cnt
  freeLe : d.free.length ≤ cnt
  rl : -1 ≤ d.rl ∧ d.rl ≤ 9223372036854775807
  wl : -1 ≤ d.wl ∧ d.wl ≤ 9223372036854775807
  reads : 0 ≤ d.reads ∧ d.reads < 1000000000
  puts : 0 ≤ d.puts ∧ d.puts < 1000000000
section
variable {W : World} {own : Nat → Prop} {D B bc fc I ic cnt : Nat} {fo : Option Addr} {y : List UInt8} {d : Dk}
theorem DiskAt.below {W' : World} (h : DiskAt W own D B bc fo fc I ic y d) (hb : Below W.heap.size W W') : DiskAt W' own D B bc fo fc I ic y d := by
  refine ⟨h.cells.below hb h.cells.lt, h.bytes.below hb h.bytes.lt, h.ylen, h.le, h.pre, ?_, h.flags.below hb h.flags.lt, h.DB, h.DI, h.BI, h.oD, h.oB, h.oI, h.tab.below hb, h.notab⟩
  rcases h.freeAt with h0 | ⟨F, e, hr, r⟩
  · exact .inl h0
  · exact .inr ⟨F, e, hr.below hb hr.lt, r⟩
theorem DiskAt.drewN (h : DiskAt W own D B bc fo fc I ic y d) (n : Nat) : DiskAt (W.drewN n) own D B bc fo fc I ic y d := h.below (UK.belowN (Below.refl _ _) n)
theorem count_any (h : DiskAt W own D B bc fo fc I ic y d) (f : Fit d cnt) :
    Calls Tryd.prog 23 #[.pointer (some ⟨D, 0, none⟩)] W fun e w' => e = .returned (.int .i64 cnt) ∧ w' = W := by
  have c0 := h.cells.at' 0 _ rfl
  rw [f.len] at c0
  have hfew := f.few
  go_enter Tryd.func23, Tryd.ntmps23
  go_wp2
  go_ret
  exact ⟨by simp, rfl⟩
theorem room_any (h : DiskAt W own D B bc fo fc I ic y d) (f : Fit d cnt) :
    Calls Tryd.prog 22 #[.pointer (some ⟨D, 0, none⟩)] W fun e w' => e = .returned (.int .i64 (d.most - cnt + d.free.length)) ∧ ∃ q, w' = W.drewN q := by
  have c1 := fun q => (h.drewN q).cells.at' 1 _ rfl
  have c2 := fun q => (h.drewN q).cells.at' 2 _ rfl
  have c1' := h.cells.at' 1 _ rfl
  have c2' := h.cells.at' 2 _ rfl
  have hfew := f.few
  have hm1 := f.most.1
  have hm2 := f.most.2.1
  have hm3 := f.most.2.2
  have hfl := f.freeLe
  go_enter Tryd.func22, Tryd.ntmps22
  go_wp2_with fail
  go_quiet (refine Calls.quiet_of_same (count_any (h.drewN _) f))
  go_wp2
  go_ret
  exact ⟨rfl, _, rfl⟩
/-- is it a page that somebody has? -/
def hasD (d : Dk) (cnt : Nat) (p : Int) : Bool := decide (1 ≤ p ∧ p < cnt) && !(d.isf.getD p.toNat false)
theorem bools_at (l : List Bool) (k : Nat) (h : k < l.length) : (bools l)[k]? = some (.bool (l.getD k false)) := by
  simp [bools, List.getElem?_eq_getElem h, List.getD_eq_getElem?_getD]
theorem ints_at (l : List Nat) (k : Nat) (h : k < l.length) : (ints l)[k]? = some (.int .i64 ((l.getD k 0 : Nat) : Int)) := by
  simp [ints, List.getElem?_eq_getElem h, List.getD_eq_getElem?_getD]
theorem hasd_any (h : DiskAt W own D B bc fo fc I ic y d) (f : Fit d cnt) (p : Int) :
    Calls Tryd.prog 64 #[.pointer (some ⟨D, 0, none⟩), .int .i64 p] W fun e w' => e = .returned (.bool (hasD d cnt p)) ∧ ∃ q, w' = W.drewN q := by
  by_cases h1 : 1 ≤ p
  · by_cases h2 : p < cnt
    · obtain ⟨k, rfl⟩ : ∃ k : Nat, p = k := ⟨p.toNat, by omega⟩
      have hk : k < d.isf.length := by rw [f.flags]; omega
      have c3 := h.cells.at' 3 _ rfl
      have ck := h.flags.at' k _ (bools_at d.isf k hk)
      have HH : Hid (hasD d cnt k = !(d.isf.getD k false)) := by show _ = _; unfold hasD; rw [decide_eq_true ⟨h1, h2⟩, Int.toNat_natCast, Bool.true_and]
      rw [HH.out]
      generalize d.isf.getD k false = b at ck
      have hfew := f.few
      go_enter Tryd.func64, Tryd.ntmps64
      go_wp2_with fail
      refine (count_any h f).mono ?_
      rintro e w' ⟨rfl, rfl⟩
      go_wp2
      go_ret
      exact ⟨rfl, 0, rfl⟩
    · have HH : Hid (hasD d cnt p = false) := by show _ = _; unfold hasD; rw [decide_eq_false (fun a => h2 a.2)]; rfl
      rw [HH.out]
      have h3 : (cnt : Int) ≤ p := by omega
      clear h2
      go_enter Tryd.func64, Tryd.ntmps64
      go_wp2_with fail
      refine (count_any h f).mono ?_
      rintro e w' ⟨rfl, rfl⟩
      go_wp2
      go_ret
      exact ⟨rfl, 0, rfl⟩
  · have HH : Hid (hasD d cnt p = false) := by show _ = _; unfold hasD; rw [decide_eq_false (fun a => h1 a.1)]; rfl
    rw [HH.out]
    have h3 : p < 1 := by omega
    clear h1
    go_enter Tryd.func64, Tryd.ntmps64
    go_wp2
    go_ret
    exact ⟨rfl, 0, rfl⟩
/-- which free page is behind number i, as a word -/
def nextL (d : Dk) (i : Nat) : List UInt8 := putL (if i = 0 then w32 4294967295 else w32 (d.free.getD (i - 1) 0))
theorem next_any (h : DiskAt W own D B bc fo fc I ic y d) (f : Fit d cnt) (i : Nat) (hi : i ≤ d.free.length) :
    Calls Tryd.prog 106 #[.pointer (some ⟨D, 0, none⟩), .int .i64 i] W fun e w' => e = .returned (.string (str (nextL d i))) ∧ Below W.heap.size W w' := by
  by_cases h0 : i = 0
  · subst h0
    have HN : Hid (nextL d 0 = putL (w32 4294967295)) := rfl
    have hw := fun w => word_any (w32 4294967295) w
    rw [show ((w32 4294967295).toNat : Int) = 4294967295 from rfl] at hw
    go_enter Tryd.func106, Tryd.ntmps106
    go_wp2_with fail
    refine (hw _).mono ?_
    rintro e w' ⟨rfl, b⟩
    go_wp2
    go_ret
    exact ⟨by rw [HN.out] <;> rfl, b⟩
  · obtain ⟨k, rfl⟩ : ∃ k, i = k + 1 := ⟨i - 1, by omega⟩
    have HN : Hid (nextL d (k + 1) = putL (w32 (d.free.getD k 0))) := by show _ = _; unfold nextL; rw [if_neg h0, Nat.add_sub_cancel]
    have c2 := h.cells.at' 2 _ rfl
    rcases h.freeAt with ⟨_, hf, _⟩ | ⟨F, rfl, hr, _⟩
    · rw [hf] at hi; simp at hi
    · have hk := hr.at' k _ (ints_at d.free k (by omega))
      have hfk := f.free (d.free.getD k 0) (by rw [List.getD_eq_getElem?_getD, List.getElem?_eq_getElem (by omega)]; exact List.getElem_mem _)
      have hfew := f.few
      obtain ⟨q, HQ⟩ : ∃ q, Hid (d.free.getD k 0 = q) := ⟨_, rfl⟩
      rw [HQ.out] at hk hfk HN
      have hw := fun w => word_any (w32 q) w
      rw [show ((w32 q).toNat : Int) = q by rw [← UK.w32_is q]; omega] at hw
      have hq1 := hfk.1
      have hq2 := hfk.2
      have hk6 : k < 60000 := by have := f.freeLe; omega
      have hk7 : k < d.free.length := by omega
      clear hfk h0
      go_enter Tryd.func106, Tryd.ntmps106
      go_wp2_with fail
      refine (hw _).mono ?_
      rintro e w' ⟨rfl, b⟩
      go_wp2
      go_ret
      exact ⟨by rw [HN.out] <;> rfl, b⟩
end
end Go.Proofs.YtjfkdfffolkblaaDoor
