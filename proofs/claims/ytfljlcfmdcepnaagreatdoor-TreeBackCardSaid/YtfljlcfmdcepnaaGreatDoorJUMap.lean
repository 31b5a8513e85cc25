/-
  Blocks of bytes: what a block that holds just these bytes gives a walk. A world in which of what was there only one block has turned. copy of a string into a block of bytes; clear of a part of it. A row of one-cell values in the world, in a block: its values, its capacity. append(b, make([]byte, n)...): bytes in a block, noughts behind them, whether there is room or not. A struct in a block of its own. Blocks of truths.
  A block that is a map from ints to ints, or to strings: what it reads as, entry by entry.
-/
import Derived.Test.YtfljlcfmdcepnaaGreatDoorJUKit
import Derived.Laws.IdiomCopy
import Derived.Lib.LazyBuf
import Derived.Deep.AppendSrc
import Derived.OwnWalk
import Derived.Laws.Rows
import Derived.Laws.Tables
import Derived.Maps.OwnSet
import Derived.Maps.StringElems
namespace Go.Proofs.YtfljlcfmdcepnaaGreatDoor.UK
open Go.RowKit
def bcells (l : List UInt8) : Array Value := (l.map fun b => Value.int .u8 (b.toNat : Int)).toArray
def BytesAt (W : World) (B : Nat) (x : List UInt8) : Prop := ∃ e fr, W.heap[B]? = some (.cells (bcells x) e fr) ∧ ∀ i, i < x.length → ¬ (fr.1 ≤ i ∧ i < fr.2)
theorem bcells_get (x : List UInt8) (i : Nat) (h : i < x.length) : (bcells x)[i]? = some (.int .u8 ((nth x i).toNat : Int)) := by
  simp [bcells, nth, List.getD, h]
theorem BytesAt.cell {W : World} {B : Nat} {x : List UInt8} (h : BytesAt W B x) {i : Nat} (hi : i < x.length) : W.cell? ⟨B, i, none⟩ = some (.int .u8 ((nth x i).toNat : Int)) := by
  obtain ⟨e, fr, hb, _⟩ := h
  unfold World.cell?
  simp only [hb]
  exact bcells_get x i hi
theorem BytesAt.free {W : World} {B : Nat} {x : List UInt8} (h : BytesAt W B x) {i : Nat} (hi : i < x.length) : W.frozen? ⟨B, i, none⟩ = false := by
  obtain ⟨e, fr, hb, hf⟩ := h
  unfold World.frozen?
  simp only [hb]
  have := hf i hi
  simp only [Bool.and_eq_false_iff, decide_eq_false_iff_not]
  omega
theorem BytesAt.lt {W : World} {B : Nat} {x : List UInt8} (h : BytesAt W B x) : B < W.heap.size := by
  obtain ⟨e, fr, hb, _⟩ := h
  exact (Array.getElem?_eq_some_iff.1 hb).1
theorem BytesAt.of_block {W W' : World} {B : Nat} {x : List UInt8} (h : BytesAt W B x) (hb : W'.heap[B]? = W.heap[B]?) : BytesAt W' B x := by
  obtain ⟨e, fr, hc, hf⟩ := h
  exact ⟨e, fr, hb.trans hc, hf⟩
theorem BytesAt.set {W : World} {B : Nat} {x : List UInt8} (h : BytesAt W B x) (i : Nat) (v : UInt8) : BytesAt (W.setCell ⟨B, i, none⟩ (.int .u8 (v.toNat : Int))) B (x.set i v) := by
  obtain ⟨e, fr, hb, hf⟩ := h
  refine ⟨e, fr, ?_, fun j hj => hf j (by simpa using hj)⟩
  simp only [World.setCell, Array.getElem?_modify, if_true, hb, Option.map_some]
  congr 2
  simp [bcells, List.map_set]
theorem BytesAt.drew {W : World} {B : Nat} {x : List UInt8} (h : BytesAt W B x) : BytesAt W.drew B x := h
theorem BytesAt.drewN {W : World} {B : Nat} {x : List UInt8} (h : BytesAt W B x) (n : Nat) : BytesAt (W.drewN n) B x := h
theorem BytesAt.below {W W' : World} {B n : Nat} {x : List UInt8} (h : BytesAt W B x) (hb : Below n W W') (hn : B < n) : BytesAt W' B x := h.of_block (hb.block B hn)
theorem BytesAt.alloc {W : World} {B : Nat} {x : List UInt8} (h : BytesAt W B x) (o : Obj) : BytesAt (W.alloc o) B x := h.of_block (Below.heap_alloc W o B h.lt)
theorem run_window {P : Program} {src dst e : TypeId} (hs : P.underlying src = some (.slice e)) (he : P.underlying e = some (.int .u8)) (hd : P.underlying dst = some .string) {W : World} {B : Nat} {x : List UInt8} (h : BytesAt W B x) (o n cap : Nat) (hn : o + n ≤ x.length) :
    (convert src dst (.slice (some ⟨B, o, none⟩) n cap)).run P W = .ok (.string (str ((x.drop o).take n))) W := by
  have hl : ((x.drop o).take n).length = n := by rw [List.length_take, List.length_drop]; omega
  have h1 := run_convert_bytes_back (P := P) W src dst e ⟨B, o, none⟩ cap ((x.drop o).take n) hs he hd (fun j hj => by
    have e1 : (⟨B, o, none⟩ : Addr).add j = ⟨B, o + j, none⟩ := by
      unfold Addr.add
      by_cases hj0 : j = 0 <;> simp [hj0]
    rw [e1, h.cell (by omega)]
    have hj2 : o + j < x.length := by omega
    simp [nth, List.getD, hj2])
  rw [hl] at h1
  exact h1
theorem run_bytes {P : Program} {src dst e : TypeId} (hs : P.underlying src = some .string) (hd : P.underlying dst = some (.slice e)) (he : P.underlying e = some (.int .u8)) (W : World) (l : List UInt8) :
    ∃ cap o, l.length ≤ cap ∧ (convert src dst (.string (str l))).run P W = .ok (.slice (some ⟨W.heap.size, 0, none⟩) l.length cap) (W.drew.alloc o) ∧ BytesAt (W.drew.alloc o) W.heap.size (l ++ List.replicate (cap - l.length) 0) := by
  have h := run_bytes_of_string (P := P) W src dst e (str l) hs hd he
  rw [str_size] at h
  have hc := grownCap_ge W l.length 0 e
  refine ⟨grownCap W l.length 0 e, _, hc, h, e, ((bytesRow (str l) (grownCap W l.length 0 e)).size, (bytesRow (str l) (grownCap W l.length 0 e)).size + 1), ?_, ?_⟩
  · show (W.drew.heap.push _)[W.heap.size]? = _
    rw [show W.heap.size = W.drew.heap.size from rfl, Array.getElem?_push_size]
    simp [bytesRow, str, bcells, ByteArray.size]
  · intro i hi
    simp [bytesRow, str, ByteArray.size] at hi ⊢
    omega
end Go.Proofs.YtfljlcfmdcepnaaGreatDoor.UK
namespace Go.Proofs.YtfljlcfmdcepnaaGreatDoor.UK
open Go.RowKit
theorem belowN {B : Nat} {a w : World} (h : Below B a w) (n : Nat) : Below B a (w.drewN n) := ⟨h.os, h.tape, h.output, h.size, h.block⟩
structure Only (B : Nat) (w w' : World) : Prop where
  os : w'.os = w.os
  tape : w'.tape = w.tape
  output : w'.output = w.output
  size : w.heap.size ≤ w'.heap.size
  block : ∀ k, k < w.heap.size → k ≠ B → w'.heap[k]? = w.heap[k]?
namespace Only
variable {B : Nat} {a b c w : World}
theorem refl (B : Nat) (w : World) : Only B w w := ⟨rfl, rfl, rfl, Nat.le_refl _, fun _ _ _ => rfl⟩
theorem trans (h : Only B a b) (k : Only B b c) : Only B a c :=
  ⟨k.os.trans h.os, k.tape.trans h.tape, k.output.trans h.output, Nat.le_trans h.size k.size, fun i hi hn => (k.block i (Nat.lt_of_lt_of_le hi h.size) hn).trans (h.block i hi hn)⟩
theorem drew (h : Only B a w) : Only B a w.drew := ⟨h.os, h.tape, h.output, h.size, h.block⟩
theorem alloc (h : Only B a w) (o : Obj) : Only B a (w.alloc o) :=
  ⟨h.os, h.tape, h.output, Nat.le_trans h.size (by simp), fun i hi hn => (Below.heap_alloc w o i (Nat.lt_of_lt_of_le hi h.size)).trans (h.block i hi hn)⟩
theorem set (h : Only B a w) (i : Nat) (v : Value) : Only B a (w.setCell ⟨B, i, none⟩ v) :=
  ⟨h.os, h.tape, h.output, by simpa [World.setCell] using h.size, fun k hk hn => (Below.heap_setCell w _ v k hn).trans (h.block k hk hn)⟩
theorem of_below (h : Below a.heap.size a w) : Only B a w := ⟨h.os, h.tape, h.output, h.size, fun k hk _ => h.block k hk⟩
theorem below (h : Only B a w) {n : Nat} (hn : n ≤ a.heap.size) (hB : n ≤ B) : Below n a w := ⟨h.os, h.tape, h.output, h.size, fun k hk => h.block k (by omega) (by omega)⟩
theorem bytes {C : Nat} {x : List UInt8} (h : Only B a w) (hx : BytesAt a C x) (hne : C ≠ B) : BytesAt w C x := hx.of_block (h.block C hx.lt hne)
end Only
end Go.Proofs.YtfljlcfmdcepnaaGreatDoor.UK
namespace Go.Proofs.YtfljlcfmdcepnaaGreatDoor.UK
open Go.RowKit
def wr (x : List UInt8) (a : Nat) (s : List UInt8) : List UInt8 := x.take a ++ (s ++ x.drop (a + s.length))
theorem wr_length (x : List UInt8) (a : Nat) (s : List UInt8) (h : a + s.length ≤ x.length) : (wr x a s).length = x.length := by
  simp [wr]; omega
def cellsOf (s : List UInt8) : List Value := s.map fun b => Value.int .u8 (b.toNat : Int)
theorem wr_cons (x : List UInt8) (a : Nat) (v : UInt8) (s : List UInt8) (h : a < x.length) : wr (x.set a v) (a + 1) s = wr x a (v :: s) := by
  unfold wr
  have e1 : (x.set a v).take (a + 1) = x.take a ++ [v] := by
    rw [List.take_succ_eq_append_getElem (by simpa using h), List.take_set_of_le (Nat.le_refl _)]
    simp
  have e2 : (x.set a v).drop (a + 1 + s.length) = x.drop (a + (s.length + 1)) := by
    rw [List.drop_set_of_lt (by omega), show a + 1 + s.length = a + (s.length + 1) by omega]
  rw [e1, e2]
  simp
theorem BytesAt.setCells {B : Nat} : ∀ (s : List UInt8) (o : Nat) {W : World} {x : List UInt8}, BytesAt W B x → o + s.length ≤ x.length → BytesAt (W.setCells B o (cellsOf s)) B (wr x o s)
  | [], o, W, x, h, _ => by
    have : wr x o [] = x := by simp [wr]
    rw [this]; exact h
  | v :: s, o, W, x, h, hl => by
    simp only [List.length_cons] at hl
    have h1 := BytesAt.setCells s (o + 1) (h.set o v) (by rw [List.length_set]; omega)
    rw [wr_cons x o v s (by omega)] at h1
    exact h1
theorem Only.setCells {B : Nat} {a : World} : ∀ (s : List Value) (o : Nat) {w : World}, Only B a w → Only B a (w.setCells B o s)
  | [], _, _, h => h
  | v :: s, o, _, h => Only.setCells s (o + 1) (h.set o v)
theorem run_copy {P : Program} {dT sT ty elem : TypeId} (hu : P.underlying dT = some (.slice elem)) (hz : ∀ w, (Go.sizeOf elem).run P w = .ok 1 w) {W : World} {B : Nat} {x : List UInt8} (h : BytesAt W B x) (o dLen dCap : Nat) (s : List UInt8) (hd : s.length ≤ dLen) (ho : o + s.length ≤ x.length) :
    (Builtin.copy_ #[dT, sT] ty #[.slice (some ⟨B, o, none⟩) dLen dCap, .string (str s)]).run P W = .ok (goInt (s.length : Nat)) (W.setCells B o (cellsOf s)) := by
  have h1 := run_copy_string (P := P) W dT sT ty elem B o dLen dCap (str s) hu hz (by rw [str_size]; exact hd) (fun j hj => by
    rw [str_size] at hj
    rw [h.cell (by omega)]; rfl) (fun j hj => by
    rw [str_size] at hj
    exact h.free (by omega))
  rw [str_size, str_data] at h1
  exact h1
def zeros (n : Nat) : List UInt8 := List.replicate n 0
theorem zeros_length (n : Nat) : (zeros n).length = n := List.length_replicate
theorem cells_replicate (n : Nat) : (Builtin.zeroCells (Value.int .u8 0).cells n).toList = cellsOf (List.replicate n 0) := by
  apply List.ext_getElem?
  intro i
  by_cases h : i < n
  · simp [Builtin.zeroCells, Value.cells, cellsOf, h, Nat.mod_one]
  · simp [Builtin.zeroCells, Value.cells, cellsOf, h]
theorem run_clear {P : Program} {t ty elem : TypeId} (hu : P.underlying t = some (.slice elem)) (hz : ∀ w, (zeroValue elem).run P w = .ok (.int .u8 0) w) {W : World} {B : Nat} {x : List UInt8} (h : BytesAt W B x) (o n c : Nat) (ho : o + n ≤ x.length) :
    (Builtin.clear_ #[t] ty #[.slice (some ⟨B, o, none⟩) n c]).run P W = .ok (.tuple #[]) (W.setCells B o (cellsOf (zeros n))) := by
  unfold zeros
  have hl : (cellsOf (List.replicate n 0)).length = n := by simp [cellsOf]
  have hst := run_storeCells_cells (P := P) B o (cellsOf (List.replicate n 0)) 0 W (by
    intro j hj
    rw [hl] at hj
    rw [Nat.add_zero, h.cell (by omega)]; rfl) (by
    intro j hj
    rw [hl] at hj
    rw [Nat.add_zero]; exact h.free (by omega)) (by
    intro v hv
    simp only [cellsOf, List.mem_map] at hv
    obtain ⟨b, _, rfl⟩ := hv
    rfl)
  rw [← cells_replicate] at hst ⊢
  cases n with
  | zero => simp [Builtin.clear_, run_underlying hu, Builtin.zeroCells, World.setCells]
  | succ n => 
    simp only [Builtin.clear_]
    simp [run_underlying hu, hz]
    rw [hst]
    simp
end Go.Proofs.YtfljlcfmdcepnaaGreatDoor.UK
namespace Go.Proofs.YtfljlcfmdcepnaaGreatDoor
open Go.RowKit
namespace UK
structure Row (W : World) (g c : Nat) (vs : List Value) : Prop where
  lt : g < W.heap.size
  le : vs.length ≤ c
  holds : ∀ j, j < vs.length → W.cell? ⟨g, j, none⟩ = vs[j]?
  there : ∀ j, j < c → (W.cell? ⟨g, j, none⟩).isSome = true ∧ W.frozen? ⟨g, j, none⟩ = false
theorem add_mk0 (b off n : Nat) : (⟨b, off, none⟩ : Addr).add n = ⟨b, off + n, none⟩ := by
  unfold Addr.add; split <;> simp_all
namespace Row
variable {W W' : World} {g c : Nat} {vs : List Value}
theorem of_block (h : Row W g c vs) (hs : W.heap.size ≤ W'.heap.size) (hb : W'.heap[g]? = W.heap[g]?) : Row W' g c vs :=
  ⟨Nat.lt_of_lt_of_le h.lt hs, h.le, fun j hj => (World.cell?_of_block (a := ⟨g, j, none⟩) hb).trans (h.holds j hj),
    fun j hj => ⟨by rw [World.cell?_of_block (a := ⟨g, j, none⟩) hb]; exact (h.there j hj).1, (World.frozen?_of_block (a := ⟨g, j, none⟩) hb).trans (h.there j hj).2⟩⟩
theorem drewN (h : Row W g c vs) (n : Nat) : Row (W.drewN n) g c vs := h.of_block (Nat.le_refl _) rfl
theorem below {n : Nat} (h : Row W g c vs) (hb : Below n W W') (hn : g < n) : Row W' g c vs := h.of_block hb.size (hb.block g hn)
theorem only {B : Nat} (h : Row W g c vs) (ho : Only B W W') (hn : g ≠ B) : Row W' g c vs := h.of_block ho.size (ho.block g h.lt hn)
theorem alloc (h : Row W g c vs) (o : Obj) : Row (W.alloc o) g c vs := h.of_block (by simp) (Below.heap_alloc W o g h.lt)
theorem at' (h : Row W g c vs) (j : Nat) (v : Value) (hv : vs[j]? = some v) : W.cell? ⟨g, j, none⟩ = some v := by
  have hj : j < vs.length := (List.getElem?_eq_some_iff.1 hv).1
  rw [h.holds j hj, hv]
theorem free (h : Row W g c vs) (j : Nat) (hj : j < c) : W.frozen? ⟨g, j, none⟩ = false := (h.there j hj).2
theorem take (h : Row W g c vs) (n : Nat) : Row W g c (vs.take n) := by
  refine ⟨h.lt, by rw [List.length_take]; have := h.le; omega, fun j hj => ?_, h.there⟩
  rw [List.length_take] at hj
  rw [h.holds j (by omega), List.getElem?_take_of_lt (by omega)]
theorem setCells (h : Row W g c vs) (o : Nat) (m : List Value) (hm : o + m.length ≤ c) (k : List Value) (hk : k.length ≤ c)
    (hin : ∀ j, j < m.length → k[o + j]? = m[j]?) (hout : ∀ j, j < k.length → j < o ∨ o + m.length ≤ j → j < vs.length ∧ k[j]? = vs[j]?) :
    Row (W.setCells g o m) g c k := by
  have hs : ∀ j, j < m.length → (W.cell? ⟨g, o + j, none⟩).isSome = true := fun j hj => (h.there _ (by omega)).1
  have ci := World.cell?_setCells_in g m o W hs
  have co : ∀ j, j < o ∨ o + m.length ≤ j → (W.setCells g o m).cell? ⟨g, j, none⟩ = W.cell? ⟨g, j, none⟩ := fun j hj => World.cell?_setCells_out g m o W ⟨g, j, none⟩ (fun _ _ => hj)
  refine ⟨Nat.lt_of_lt_of_le h.lt (Only.setCells m o (Only.refl g W)).size, hk, fun j hj => ?_, fun j hj => ⟨?_, by rw [World.frozen?_setCells]; exact (h.there j hj).2⟩⟩
  · by_cases hc : j < o ∨ o + m.length ≤ j
    · rw [co j hc, h.holds j (hout j hj hc).1, (hout j hj hc).2]
    · have := ci (j - o) (by omega)
      rw [show o + (j - o) = j by omega] at this
      rw [this, ← List.getElem?_eq_getElem, ← hin (j - o) (by omega), show o + (j - o) = j by omega]
  · by_cases hc : j < o ∨ o + m.length ≤ j
    · rw [co j hc]; exact (h.there j hj).1
    · have := ci (j - o) (by omega)
      rw [show o + (j - o) = j by omega] at this
      rw [this]; rfl
theorem set (h : Row W g c vs) (i : Nat) (v : Value) (hi : i < vs.length) : Row (W.setCell ⟨g, i, none⟩ v) g c (vs.set i v) := by
  have hle := h.le
  refine h.setCells i [v] (by simp; omega) (vs.set i v) (by simpa using hle) (fun j hj => ?_) (fun j hj hc => ?_)
  · obtain rfl : j = 0 := by simpa using hj
    simp [hi]
  · simp only [List.length_set] at hj
    simp only [List.length_singleton] at hc
    refine ⟨hj, ?_⟩
    rw [List.getElem?_set_ne (by omega)]
end Row
theorem push_row {P : Program} {t tx ty e : TypeId} {i : TypeInfo} {z : Value} (ht : P.underlying t = some (.slice e)) (hi : P.info? e = some i) (hz : i.zero = some z) (h1 : i.size = 1) (h16 : i.bytes ≤ 16) (hzs : z.cells.size = 1)
    {W : World} {ao : Option Addr} {c : Nat} {vs : List Value} (h : (ao = none ∧ vs = [] ∧ c = 0) ∨ ∃ g, ao = some ⟨g, 0, none⟩ ∧ Row W g c vs) {x : Value} {m : List Value} (hm0 : 0 < m.length) (hs : Src P 1 tx x m.length m W) (hlen : vs.length + m.length ≤ 1000000000) :
    ∃ g' c' W', (Builtin.append_ #[t, tx] ty #[.slice ao vs.length c, x]).run P W = .ok (.slice (some ⟨g', 0, none⟩) (vs ++ m).length c') W' ∧ Row W' g' c' (vs ++ m) ∧ ((ao = some ⟨g', 0, none⟩ ∧ Only g' W W') ∨ (g' = W.heap.size ∧ Below W.heap.size W W')) := by
  rw [List.length_append]
  have hgrow : c < vs.length + m.length → (Builtin.firstCells i.size vs.length (.slice ao vs.length c)).run P W.drew = .ok vs.toArray W.drew →
      ∃ g' c' W', (Builtin.append_ #[t, tx] ty #[.slice ao vs.length c, x]).run P W = .ok (.slice (some ⟨g', 0, none⟩) (vs.length + m.length) c') W' ∧ Row W' g' c' (vs ++ m) ∧ ((ao = some ⟨g', 0, none⟩ ∧ Only g' W W') ∨ (g' = W.heap.size ∧ Below W.heap.size W W')) := by
    intro hg hold
    have hfit : (vs.length + m.length) * i.bytes ≤ 140737488355328 := Nat.le_trans (Nat.mul_le_mul hlen h16) (by decide)
    have hrun := run_append_grow_src (P := P) W t tx ty e i z ht hi hz ao vs.length c vs hold x m.length m (by rw [h1]; exact hs) hg (by omega) (growslice_fits hg hfit)
    have hge := grownCap_ge W (vs.length + m.length) c e
    have e1 := World.cell?_alloc_new W.drew ((vs ++ m).toArray ++ Builtin.zeroCells z.cells (grownCap W (vs.length + m.length) c e - (vs.length + m.length))) e
    refine ⟨W.heap.size, _, _, hrun, ⟨by simp, by rw [List.length_append]; exact hge, fun j hj => ?_, fun j hj => ⟨?_, World.frozen?_alloc_new W.drew _ _ j⟩⟩, .inr ⟨rfl, (Below.refl W.heap.size W).drew.alloc (Nat.le_refl _) _⟩⟩
    · refine Eq.trans (e1 j) ?_
      rw [Array.getElem?_append_left (by simp only [List.size_toArray]; exact hj), List.getElem?_toArray]
    · have hsz : ((vs ++ m).toArray ++ Builtin.zeroCells z.cells (grownCap W (vs.length + m.length) c e - (vs.length + m.length))).size = grownCap W (vs.length + m.length) c e := by
        rw [Array.size_append, List.size_toArray, List.length_append, size_zeroCells, hzs, Nat.mul_one]
        omega
      have e2 : (W.drew.alloc (.cells ((vs ++ m).toArray ++ Builtin.zeroCells z.cells (grownCap W (vs.length + m.length) c e - (vs.length + m.length))) e)).cell? ⟨W.heap.size, j, none⟩ = _ := e1 j
      rw [e2, Array.getElem?_eq_getElem (by rw [hsz]; exact hj)]
      rfl
  rcases h with ⟨rfl, rfl, rfl⟩ | ⟨g, rfl, h⟩
  · exact hgrow (by simpa using hm0) (run_firstCells_none W.drew i.size 0 0 0)
  · have hle := h.le
    by_cases hf : vs.length + m.length ≤ c
    · have hr := run_append_room_src (P := P) W t tx ty e i ht hi g 0 vs.length c x m.length m (by rw [h1]; exact hs) hf
        (fun j hj => by rw [h1]; exact (h.there _ (by omega)).1) (fun j hj => by rw [h1]; exact (h.there _ (by omega)).2)
      rw [h1, Nat.zero_add, Nat.mul_one] at hr
      refine ⟨g, c, _, hr, h.setCells vs.length m hf (vs ++ m) (by rw [List.length_append]; exact hf) (fun j hj => ?_) (fun j hj hc => ?_), .inl ⟨rfl, Only.setCells _ _ (Only.refl _ _)⟩⟩
      · rw [List.getElem?_append_right (by omega), Nat.add_sub_cancel_left]
      · rw [List.length_append] at hj
        exact ⟨by omega, by rw [List.getElem?_append_left (by omega)]⟩
    · exact hgrow (by omega) (run_firstCells_some W.drew i.size vs.length ⟨g, 0, none⟩ vs.length c vs (by rw [h1, Nat.mul_one]) (fun j v hj => by
        have hjl : j < vs.length := (List.getElem?_eq_some_iff.1 hj).1
        rw [add_mk0, Nat.zero_add]
        exact (h.holds j hjl).trans hj))
theorem wpList_append_run {P : Program} {t tx ty : TypeId} {sv xv v' : Value} {w w' : World} (hr : (Builtin.append_ #[t, tx] ty #[sv, xv]).run P w = .ok v' w') {ops : Array Oper} {rest : List Oper} {o : Oper} {a : Act} {Q : Exit → Act → World → Prop} {s x : Operand}
    (hg : o.guard = none) (hop : o.op = Op.call { callee := Callee.builtin Builtin.append, args := #[s, x], argTypes := #[t, tx] }) (hty : o.type = ty) (hs : a.eval s = sv) (hx : a.eval x = xv) (hK : wpList P ops Q rest (a.put o.dst v') w') :
    wpList P ops Q (o :: rest) a w := by
  refine wpList_plain hg fun K hK' => ?_
  subst hty
  unfold Oper.wp
  simp [execOp, hop, resolve, invoke, builtin, hs, hx, hr, Result.andThen]
  exact hK' _ _ hK
end UK
end Go.Proofs.YtfljlcfmdcepnaaGreatDoor
namespace Go.Proofs.YtfljlcfmdcepnaaGreatDoor
open Go.RowKit
namespace UK
theorem wr_end (y : List UInt8) (n m : Nat) (s : List UInt8) (hs : s.length = m) (h : n + m ≤ y.length) : (wr y n s).take (n + m) = y.take n ++ s := by
  unfold wr
  have h1 : (y.take n).length = n := by rw [List.length_take]; omega
  rw [List.take_append, h1, List.take_of_length_le (l := y.take n) (by omega), show n + m - n = m by omega, List.take_append, List.take_of_length_le (l := s) (by omega), hs, Nat.sub_self, List.take_zero, List.append_nil]
theorem cellsOf_length (s : List UInt8) : (cellsOf s).length = s.length := by simp [cellsOf]
theorem push_zeros {P : Program} {t tn ty e : TypeId} {i : TypeInfo} {k kn : IntKind} (ht : P.underlying t = some (.slice e)) (htn : P.underlying tn = some (.int kn)) (hi : P.info? e = some i) (hz : i.zero = some (.int .u8 0)) (hs1 : i.size = 1) (hb1 : i.bytes = 1)
    {W : World} {B bc : Nat} {x y : List UInt8} (h : BytesAt W B y) (hyl : y.length = bc) (hle : x.length ≤ bc) (hpre : y.take x.length = x) (n : Nat) (h0 : 0 < n) (hlen : x.length + n ≤ 100000000) :
    ∃ B' bc' y' W', (Builtin.append_ #[t, tn] ty #[.slice (some ⟨B, 0, none⟩) x.length bc, .int k n]).run P W = .ok (.slice (some ⟨B', 0, none⟩) (x.length + n) bc') W' ∧ BytesAt W' B' y' ∧ y'.length = bc' ∧ x.length + n ≤ bc' ∧ y'.take (x.length + n) = x ++ zeros n ∧ ((B' = B ∧ Only B W W') ∨ (B' = W.heap.size ∧ Below W.heap.size W W')) := by
  have hn : n ≠ 0 := by omega
  have hw : IntKind.i64.wrap (n : Int) = n := by rw [IntKind.wrap_i64]; omega
  have h63' : ¬ (9223372036854775807 < ((x.length : Int) + (n : Int))) := by omega
  have h48i : ¬ (281474976710656 < (n : Int)) := by omega
  have hneg : ¬ ((n : Int) < 0) := by omega
  have hzl : (cellsOf (zeros n)).length = n := by rw [cellsOf_length, zeros_length]
  by_cases hf : x.length + n ≤ bc
  · have hst := run_storeCells_cells (P := P) B x.length (cellsOf (zeros n)) 0 W (by
      intro j hj
      rw [hzl] at hj
      rw [Nat.add_zero, h.cell (by omega)]; rfl) (by
      intro j hj
      rw [hzl] at hj
      rw [Nat.add_zero]; exact h.free (by omega)) (by
      intro v hv
      simp only [cellsOf, List.mem_map] at hv
      obtain ⟨b, _, rfl⟩ := hv
      rfl)
    rw [show cellsOf (zeros n) = (Builtin.zeroCells (Value.int .u8 0).cells n).toList from (cells_replicate n).symm] at hst
    refine ⟨B, bc, wr y x.length (zeros n), W.setCells B x.length (cellsOf (zeros n)), ?_, h.setCells _ _ (by rw [zeros_length]; omega), by rw [wr_length _ _ _ (by rw [zeros_length]; omega)]; exact hyl, hf, ?_, .inl ⟨rfl, Only.setCells _ _ (Only.refl _ _)⟩⟩
    · rw [show cellsOf (zeros n) = (Builtin.zeroCells (Value.int .u8 0).cells n).toList from (cells_replicate n).symm]
      simp only [Nat.add_zero] at hst
      simp [Builtin.append_, run_underlying ht, run_underlying htn, sizeOf, typeInfo, zeroValue, hi, hz, hs1, hb1, asInt, asIntOf, hw, hn, hneg, h48i, hf, add_mk0, hst]
    · rw [wr_end y x.length n (zeros n) (zeros_length n) (by omega), hpre]
  · have h48' : ¬ (281474976710656 < Builtin.nextslicecap (x.length + n) bc) := by
      have := growslice_fits (show bc < x.length + n by omega) (show (x.length + n) * 1 ≤ 140737488355328 by omega)
      omega
    have hold : (Builtin.firstCells 1 x.length (.slice (some ⟨B, 0, none⟩) x.length bc)).run P W.drew = .ok (cellsOf x).toArray W.drew :=
      run_firstCells_some W.drew 1 x.length ⟨B, 0, none⟩ x.length bc (cellsOf x) (by rw [cellsOf_length, Nat.mul_one]) (fun j v hj => by
        have hjl : j < x.length := by have := (List.getElem?_eq_some_iff.1 hj).1; rwa [cellsOf_length] at this
        rw [add_mk0, Nat.zero_add, h.drew.cell (by omega)]
        have e1 : nth y j = nth x j := by
          unfold nth
          rw [List.getD_eq_getElem?_getD, List.getD_eq_getElem?_getD]
          conv => rhs; rw [← hpre]
          rw [List.getElem?_take_of_lt hjl]
        rw [e1, ← bcells_get x j hjl]
        unfold bcells
        rw [List.getElem?_toArray]
        exact hj)
    have hge := grownCap_ge W (x.length + n) bc e
    refine ⟨W.heap.size, grownCap W (x.length + n) bc e, x ++ zeros (grownCap W (x.length + n) bc e - x.length), W.drew.alloc (.cells (bcells (x ++ zeros (grownCap W (x.length + n) bc e - x.length))) e), ?_, ?_, ?_, hge, ?_, .inr ⟨rfl, (Below.refl W.heap.size W).drew.alloc (Nat.le_refl _) _⟩⟩
    · have hcells : (cellsOf x).toArray ++ (Builtin.zeroCells (Value.int .u8 0).cells n ++ Builtin.zeroCells (Value.int .u8 0).cells (grownCap W (x.length + n) bc e - (x.length + n))) = bcells (x ++ zeros (grownCap W (x.length + n) bc e - x.length)) := by
        apply Array.ext'
        rw [Array.toList_append, Array.toList_append, cells_replicate, cells_replicate]
        unfold bcells cellsOf zeros
        simp only [List.map_append, List.map_replicate, List.replicate_append_replicate]
        rw [show n + (grownCap W (x.length + n) bc e - (x.length + n)) = grownCap W (x.length + n) bc e - x.length by omega]
      rw [← hcells]
      unfold grownCap at *
      simp [Builtin.append_, run_underlying ht, run_underlying htn, sizeOf, typeInfo, zeroValue, hi, hz, hs1, hb1, asInt, asIntOf, hw, hn, hneg, h48i, hf, h63', h48', Question.forced, hold, newRow]
    · refine ⟨e, (0, 0), ?_, fun i _ hh => absurd hh.2 (Nat.not_lt_zero _)⟩
      show (W.drew.heap.push _)[W.heap.size]? = _
      rw [show W.heap.size = W.drew.heap.size from rfl, Array.getElem?_push_size]
    · rw [List.length_append, zeros_length]; omega
    · rw [List.take_append, List.take_of_length_le (by omega), show x.length + n - x.length = n by omega]
      unfold zeros
      rw [List.take_replicate, Nat.min_eq_left (by omega)]
theorem push_one {P : Program} {t ty e : TypeId} {i : TypeInfo} {z : Value} (ht : P.underlying t = some (.slice e)) (hi : P.info? e = some i) (hz : i.zero = some z) (h1 : i.size = 1) (h16 : i.bytes ≤ 16) (hzs : z.cells.size = 1)
    {W : World} {ao : Option Addr} {c : Nat} {vs : List Value} (h : (ao = none ∧ vs = [] ∧ c = 0) ∨ ∃ g, ao = some ⟨g, 0, none⟩ ∧ Row W g c vs) (v : Value) (hv : v.oneCell' = true) (hlen : vs.length + 1 ≤ 1000000000) :
    ∃ g' c' W', (Builtin.append_ #[t, t] ty #[.slice ao vs.length c, .slice (some ⟨W.heap.size, 0, none⟩) 1 1]).run P (W.alloc (.cells #[v] e)) = .ok (.slice (some ⟨g', 0, none⟩) (vs.length + 1) c') W' ∧ Row W' g' c' (vs ++ [v]) ∧ Only g' W W' ∧ (ao = some ⟨g', 0, none⟩ ∨ W.heap.size ≤ g') := by
  have ha : (ao = none ∧ vs = [] ∧ c = 0) ∨ ∃ g, ao = some ⟨g, 0, none⟩ ∧ Row (W.alloc (.cells #[v] e)) g c vs := by
    rcases h with h | ⟨g, e1, h⟩
    · exact .inl h
    · exact .inr ⟨g, e1, h.alloc _⟩
  obtain ⟨g', c', W', e1, r, o⟩ := push_row (P := P) (t := t) (tx := t) (ty := ty) ht hi hz h1 h16 hzs ha (x := .slice (some ⟨W.heap.size, 0, none⟩) 1 1) (m := [v]) (by simp) (Src.ofSlice _ ht ⟨W.heap.size, 0, none⟩ 1 1 [v] rfl (fun j u hj => by
      have hj0 : j = 0 := by
        by_cases hc : j < 1
        · omega
        · rw [List.getElem?_eq_none (by simp; omega)] at hj; cases hj
      subst hj0
      rw [add_mk0, Nat.zero_add]
      refine (World.cell?_alloc_new W #[v] e 0).trans ?_
      exact hj) (fun u hu => by
        obtain rfl := List.mem_singleton.1 hu
        exact hv)) (by simpa using hlen)
  rw [List.length_append] at e1
  refine ⟨g', c', W', e1, r, ?_⟩
  rcases o with ⟨a, o⟩ | ⟨a, b⟩
  · exact ⟨((Only.refl g' W).alloc _).trans o, .inl a⟩
  · have hs : (W.alloc (.cells #[v] e)).heap.size = W.heap.size + 1 := by simp
    exact ⟨((Only.refl g' W).alloc _).trans (Only.of_below b), .inr (by rw [a, hs]; omega)⟩
end UK
end Go.Proofs.YtfljlcfmdcepnaaGreatDoor
namespace Go.Proofs.YtfljlcfmdcepnaaGreatDoor
open Go.RowKit
namespace UK
def Box (W : World) (g : Nat) (cs : Array Value) : Prop := ∃ t, W.heap[g]? = some (.cells cs t (0, 0))
namespace Box
variable {W W' : World} {g : Nat} {cs : Array Value}
theorem new (W : World) (cs : Array Value) (t : TypeId) : Box (W.alloc (.cells cs t)) W.heap.size cs := ⟨t, by
  show (W.heap.push _)[W.heap.size]? = _
  rw [Array.getElem?_push_size]⟩
theorem lt (h : Box W g cs) : g < W.heap.size := by
  obtain ⟨t, hb⟩ := h
  exact (Array.getElem?_eq_some_iff.1 hb).1
theorem of_block (h : Box W g cs) (hb : W'.heap[g]? = W.heap[g]?) : Box W' g cs := by
  obtain ⟨t, hc⟩ := h
  exact ⟨t, hb.trans hc⟩
theorem below {n : Nat} (h : Box W g cs) (hb : Below n W W') (hn : g < n) : Box W' g cs := h.of_block (hb.block g hn)
theorem next (h : Box W g cs) (hb : Below W.heap.size W W') : Box W' g cs := h.below hb h.lt
theorem only {B : Nat} (h : Box W g cs) (ho : Only B W W') (hn : g ≠ B) : Box W' g cs := h.of_block (ho.block g h.lt hn)
theorem alloc (h : Box W g cs) (o : Obj) : Box (W.alloc o) g cs := h.of_block (Below.heap_alloc W o g h.lt)
theorem set (h : Box W g cs) (j : Nat) (v : Value) : Box (W.setCell ⟨g, j, none⟩ v) g (cs.set! j v) := by
  obtain ⟨t, hb⟩ := h
  refine ⟨t, ?_⟩
  simp only [World.setCell, Array.getElem?_modify, if_true, hb, Option.map_some]
  congr 2
theorem cell (h : Box W g cs) (j : Nat) (v : Value) (hv : cs[j]? = some v) : W.cell? ⟨g, j, none⟩ = some v := by
  obtain ⟨t, hb⟩ := h
  unfold World.cell?
  simp only [hb]
  exact hv
theorem free (h : Box W g cs) (j : Nat) : W.frozen? ⟨g, j, none⟩ = false := by
  obtain ⟨t, hb⟩ := h
  unfold World.frozen?
  simp only [hb]
  simp
theorem row (h : Box W g cs) : Row W g cs.size cs.toList := by
  refine ⟨h.lt, by simp, fun j hj => ?_, fun j hj => ⟨?_, h.free j⟩⟩
  · have hj' : j < cs.size := by simpa using hj
    rw [h.cell j cs[j] (Array.getElem?_eq_getElem hj'), Array.getElem?_toList, Array.getElem?_eq_getElem hj']
  · rw [h.cell j cs[j] (Array.getElem?_eq_getElem hj)]; rfl
theorem load {P : Program} {ty : TypeId} {d : TypeDesc} (h : Box W g cs) (hu : P.underlying ty = some d) (hd : (match d with | .struct _ | .array _ _ => true | _ => false) = true) (hi : (P.info? ty).map (·.size) = some cs.size) :
    (loadVar ty ⟨g, 0, none⟩).run P W = .ok (.agg cs) W := by
  obtain ⟨t, hb⟩ := h
  exact run_loadVar_row W g t ty cs (0, 0) d hb hu hd hi
end Box
theorem box_ret2 {P : Program} {fn : Func} {p u : Tmp} {ty : TypeId} (h : fn.results = #[.cell p ty, .tmp u]) (tmps : Array Value) {w : World} {g : Nat} {cs : Array Value} {d : TypeDesc} (hb : Box w g cs)
    (hp : tmps.getD p undef = .pointer (some ⟨g, 0, none⟩)) (hu : P.underlying ty = some d) (hd : (match d with | .struct _ | .array _ _ => true | _ => false) = true) (hi : (P.info? ty).map (·.size) = some cs.size) :
    (results fn tmps).run P w = .ok (.tuple #[.agg cs, tmps.getD u undef]) w := by
  have hp' : tmps[p]?.getD undef = .pointer (some ⟨g, 0, none⟩) := by simpa using hp
  simp [results, h, hp', asAddr, hb.load hu hd hi]
end UK
end Go.Proofs.YtfljlcfmdcepnaaGreatDoor
namespace Go.Proofs.YtfljlcfmdcepnaaGreatDoor.UK
open Go.RowKit
def bl (x : List Bool) : Array Value := (x.map Value.bool).toArray
def BoolsAt (W : World) (B : Nat) (x : List Bool) : Prop := ∃ e, W.heap[B]? = some (.cells (bl x) e (0, 0))
def tr (x : List Bool) (i : Nat) : Bool := x.getD i false
namespace BoolsAt
variable {W W' : World} {B : Nat} {x : List Bool}
end BoolsAt
end Go.Proofs.YtfljlcfmdcepnaaGreatDoor.UK
namespace Go.Proofs.YtfljlcfmdcepnaaGreatDoor
open Go.RowKit Go.ChangeMaps
namespace UK
def IntMap (P : Program) (K E : TypeId) (W : World) (M n : Nat) (f : Int → Option Int) (c : Nat) : Prop :=
  ∃ D : DataW Unit, W.ownsMap P K (plainElem P E) M n D ∧ (∀ k, Maps.has D (.int .i64 k) = (f k).isSome) ∧ (∀ k v, f k = some v → D.atKey (.int .i64 k) (.lit (.int .i64 0)) = .lit (.int .i64 v)) ∧ Maps.size D = c
namespace IntMap
variable {P : Program} {K E t : TypeId} {W W' : World} {M n c : Nat} {f : Int → Option Int}
theorem new (W : World) : IntMap P K E (W.alloc (.map #[] 0)) W.heap.size 0 (fun _ => none) 0 :=
  ⟨.map [], World.ownsMap_made _ _ _ _, fun _ => rfl, (fun _ _ h => by cases h), rfl⟩
theorem lt (h : IntMap P K E W M n f c) : M < W.heap.size := by
  obtain ⟨D, h, _⟩ := h
  exact h.lt
theorem of_block (h : IntMap P K E W M n f c) (hb : W'.heap[M]? = W.heap[M]?) : IntMap P K E W' M n f c := by
  obtain ⟨D, ⟨es, cl, h1, h2, h3, h4⟩, r⟩ := h
  exact ⟨D, ⟨es, cl, hb.trans h1, h2, h3, h4⟩, r⟩
theorem only {B : Nat} (h : IntMap P K E W M n f c) (ho : Only B W W') (hm : M ≠ B) : IntMap P K E W' M n f c := h.of_block (ho.block M h.lt hm)
theorem get (h : IntMap P K E W M n f c) (hK : P.underlying K = some (.int .i64)) (hE : P.underlying E = some (.int .i64)) (ht : P.underlying t = some (.map K E)) (hz : ∀ w, (zeroValue E).run P w = .ok (.int .i64 0) w) (k : Int) (hk : (Lit.int .i64 k).wf = true) :
    (Instr.lookup t (.map (some M)) (.int .i64 k) true).run P W = .ok (.tuple #[.int .i64 ((f k).getD 0), .bool (f k).isSome]) W := by
  obtain ⟨D, h, hh, ha, _⟩ := h
  obtain ⟨v, ps, hrun, hv⟩ := h.look_ok (Maps.int_keyed hK) ht (hz W) (plainElem_int hE (by decide)) (Maps.keyOf_int_mk hK hk)
  obtain ⟨a, rfl, hc, _⟩ := plainElem_int_inv hE hv
  simp only [Prod.mk.injEq] at hc
  rw [hrun, hh k]
  cases hf : f k with
  | none =>
    have h1 : Maps.has D (.int .i64 k) = false := by rw [hh k, hf]; rfl
    rw [Maps.atKey_of_not_has h1] at hc
    have := hc.1
    simp only [DataW.lit.injEq, Lit.int.injEq, true_and] at this
    rw [← this]; rfl
  | some b =>
    rw [ha k b hf] at hc
    have := hc.1
    simp only [DataW.lit.injEq, Lit.int.injEq, true_and] at this
    rw [← this]; rfl
theorem only_of_turned (h : W.mapTurned W' M) : Only M W W' := by
  have g := h
  obtain ⟨es, cl, es', cl', hb, rfl⟩ := h
  exact ⟨rfl, rfl, rfl, Nat.le_of_eq (by simp [setBlock]), fun i _ hi => heap_setBlock_other hb _ hi⟩
theorem put (h : IntMap P K E W M n f c) (hK : P.underlying K = some (.int .i64)) (hE : P.underlying E = some (.int .i64)) (ht : P.underlying t = some (.map K E)) (hn : n < maxLen) (k v : Int) (hk : (Lit.int .i64 k).wf = true) (hv : (Lit.int .i64 v).wf = true) :
    ∃ W', (Instr.mapUpdate t (.map (some M)) (.int .i64 k) (.int .i64 v)).run P W = .ok () W' ∧ IntMap P K E W' M (n + 1) (fun j => if j = k then some v else f j) (if (f k).isSome then c else c + 1) ∧ Only M W W' := by
  obtain ⟨D, h, hh, ha, hs⟩ := h
  obtain ⟨W', hrun, h', ht'⟩ := h.store (Maps.int_keyed hK) ht hn (Maps.keyOf_int_mk hK hk) (plainElem_int hE hv)
  have hkl : WideAt.IsKeyLit (.int .i64 k) := trivial
  refine ⟨W', hrun, ⟨_, h', fun j => ?_, fun j b hj => ?_, ?_⟩, only_of_turned ht'⟩
  · by_cases e : j = k
    · subst e; rw [Maps.has_put_same h.isMap hkl]; simp
    · rw [Maps.has_put_other (by simpa using e), hh j]
      show _ = (if j = k then some v else f j).isSome
      rw [if_neg e]
  · replace hj : (if j = k then some v else f j) = some b := hj
    by_cases e : j = k
    · subst e
      rw [if_pos rfl] at hj
      rw [Maps.atKey_put_same h.isMap hkl, ← Option.some.inj hj]
    · rw [if_neg e] at hj
      rw [Maps.atKey_put_other (by simpa using e), ha j b hj]
  · rw [Maps.size_put (h.tidy (Maps.int_keyed hK)), hh k, hs]
theorem del (h : IntMap P K E W M n f c) (hK : P.underlying K = some (.int .i64)) (ht : P.underlying t = some (.map K E)) (k : Int) (hk : (Lit.int .i64 k).wf = true) (ty : TypeId) :
    ∃ W', (Builtin.delete_ #[t, K] ty #[.map (some M), .int .i64 k]).run P W = .ok (.tuple #[]) W' ∧ IntMap P K E W' M n (fun j => if j = k then none else f j) (if (f k).isSome then c - 1 else c) ∧ Only M W W' := by
  obtain ⟨D, h, hh, ha, hs⟩ := h
  obtain ⟨W', hrun, h', ht'⟩ := h.drop (Maps.int_keyed hK) ht (Maps.keyOf_int_mk hK hk) ty
  refine ⟨W', hrun, ⟨_, h', fun j => ?_, fun j b hj => ?_, ?_⟩, only_of_turned ht'⟩
  · by_cases e : j = k
    · subst e; rw [Maps.has_del_same]; simp
    · rw [Maps.has_del_other (by simpa using e), hh j]
      show _ = (if j = k then none else f j).isSome
      rw [if_neg e]
  · replace hj : (if j = k then none else f j) = some b := hj
    by_cases e : j = k
    · rw [if_pos e] at hj; cases hj
    · rw [if_neg e] at hj
      rw [Maps.atKey_del_other (by simpa using e), ha j b hj]
  · have := Maps.size_del (h.tidy (Maps.int_keyed hK)) (k := .int .i64 k)
    rw [hh k, hs] at this
    by_cases e : (f k).isSome = true
    · rw [if_pos e] at this ⊢; omega
    · rw [if_neg e] at this ⊢; omega
theorem tight (h : IntMap P K E W M n f c) : IntMap P K E W M c f c := by
  obtain ⟨D, ⟨es, cl, h1, h2, h3, h4⟩, a, b, hs⟩ := h
  refine ⟨D, ⟨es, cl, h1, h2, ?_, h4⟩, a, b, hs⟩
  rw [← hs, h4]
  simp [Maps.size, length_sorted]
end IntMap
def StrMap (P : Program) (K E : TypeId) (W : World) (M n : Nat) (f : Int → Option (List UInt8)) (c : Nat) : Prop :=
  ∃ D : DataW Unit, W.ownsMap P K (plainElem P E) M n D ∧ (∀ k, Maps.has D (.int .i64 k) = (f k).isSome) ∧ (∀ k v, f k = some v → D.atKey (.int .i64 k) (.lit (.string [])) = .lit (.string v)) ∧ Maps.size D = c
namespace StrMap
variable {P : Program} {K E t : TypeId} {W W' : World} {M n c : Nat} {f : Int → Option (List UInt8)}
theorem lt (h : StrMap P K E W M n f c) : M < W.heap.size := by
  obtain ⟨D, h, _⟩ := h
  exact h.lt
theorem of_block (h : StrMap P K E W M n f c) (hb : W'.heap[M]? = W.heap[M]?) : StrMap P K E W' M n f c := by
  obtain ⟨D, ⟨es, cl, h1, h2, h3, h4⟩, r⟩ := h
  exact ⟨D, ⟨es, cl, hb.trans h1, h2, h3, h4⟩, r⟩
theorem get (h : StrMap P K E W M n f c) (hK : P.underlying K = some (.int .i64)) (hE : P.underlying E = some .string) (ht : P.underlying t = some (.map K E)) (hz : ∀ w, (zeroValue E).run P w = .ok (.string (str [])) w) (k : Int) (hk : (Lit.int .i64 k).wf = true) :
    (Instr.lookup t (.map (some M)) (.int .i64 k) true).run P W = .ok (.tuple #[.string (str ((f k).getD [])), .bool (f k).isSome]) W := by
  obtain ⟨D, h, hh, ha, _⟩ := h
  obtain ⟨v, ps, hrun, hv⟩ := h.look_ok (Maps.int_keyed hK) ht (hz W) (plainElem_string hE (by simp [str_size])) (Maps.keyOf_int_mk hK hk)
  obtain ⟨s, rfl, hc, _⟩ := plainElem_string_inv hE hv
  simp only [Prod.mk.injEq] at hc
  rw [hrun, hh k, str_self s]
  have hc1 := hc.1
  cases hf : f k with
  | none =>
    have h1 : Maps.has D (.int .i64 k) = false := by rw [hh k, hf]; rfl
    rw [Maps.atKey_of_not_has h1] at hc1
    simp only [DataW.lit.injEq, Lit.string.injEq] at hc1
    rw [← hc1]; rfl
  | some b =>
    rw [str_data] at hc1
    rw [ha k b hf] at hc1
    simp only [DataW.lit.injEq, Lit.string.injEq] at hc1
    rw [← hc1]; rfl
theorem put (h : StrMap P K E W M n f c) (hK : P.underlying K = some (.int .i64)) (hE : P.underlying E = some .string) (ht : P.underlying t = some (.map K E)) (hn : n < maxLen) (k : Int) (v : List UInt8) (hk : (Lit.int .i64 k).wf = true) (hv : v.length ≤ maxLen) :
    ∃ W', (Instr.mapUpdate t (.map (some M)) (.int .i64 k) (.string (str v))).run P W = .ok () W' ∧ StrMap P K E W' M (n + 1) (fun j => if j = k then some v else f j) (if (f k).isSome then c else c + 1) ∧ Only M W W' := by
  obtain ⟨D, h, hh, ha, hs⟩ := h
  obtain ⟨W', hrun, h', ht'⟩ := h.store (Maps.int_keyed hK) ht hn (Maps.keyOf_int_mk hK hk) (plainElem_string hE (s := str v) (by rw [str_size]; exact hv))
  rw [str_data] at h'
  have hkl : WideAt.IsKeyLit (.int .i64 k) := trivial
  refine ⟨W', hrun, ⟨_, h', fun j => ?_, fun j b hj => ?_, ?_⟩, IntMap.only_of_turned ht'⟩
  · by_cases e : j = k
    · subst e; rw [Maps.has_put_same h.isMap hkl]; simp
    · rw [Maps.has_put_other (by simpa using e), hh j]
      show _ = (if j = k then some v else f j).isSome
      rw [if_neg e]
  · replace hj : (if j = k then some v else f j) = some b := hj
    by_cases e : j = k
    · subst e
      rw [if_pos rfl] at hj
      rw [Maps.atKey_put_same h.isMap hkl, ← Option.some.inj hj]
    · rw [if_neg e] at hj
      rw [Maps.atKey_put_other (by simpa using e), ha j b hj]
  · rw [Maps.size_put (h.tidy (Maps.int_keyed hK)), hh k, hs]
theorem tight (h : StrMap P K E W M n f c) : StrMap P K E W M c f c := by
  obtain ⟨D, ⟨es, cl, h1, h2, h3, h4⟩, a, b, hs⟩ := h
  refine ⟨D, ⟨es, cl, h1, h2, ?_, h4⟩, a, b, hs⟩
  rw [← hs, h4]
  simp [Maps.size, length_sorted]
end StrMap
end UK
end Go.Proofs.YtfljlcfmdcepnaaGreatDoor
