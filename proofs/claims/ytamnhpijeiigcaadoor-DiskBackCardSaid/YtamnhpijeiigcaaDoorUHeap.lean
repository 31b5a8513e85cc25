/-
  Blocks of bytes: what a block that holds just these bytes gives a walk.
-/
import Derived.Test.YtamnhpijeiigcaaDoorUKit
namespace Go.Proofs.YtamnhpijeiigcaaDoor.UK
open Go.RowKit
/-- bytes as cells -/
def bcells (l : List UInt8) : Array Value := (l.map fun b => Value.int .u8 (b.toNat : Int)).toArray
/-- block B holds just these bytes, none of them frozen -/
def BytesAt (W : World) (B : Nat) (x : List UInt8) : Prop := ∃ e fr, W.heap[B]? = some (.cells (bcells x) e fr) ∧ ∀ i, i < x.length → ¬ (fr.1 ≤ i ∧ i < fr.2)
theorem bcells_size (x : List UInt8) : (bcells x).size = x.length := by simp [bcells]
theorem bcells_get (x : List UInt8) (i : Nat) (h : i < x.length) : (bcells x)[i]? = some (.int .u8 ((nth x i).toNat : Int)) := by
  simp [bcells, nth, List.getD, h]
theorem BytesAt.cell {W : World} {B : Nat} {x : List UInt8} (h : BytesAt W B x) {i : Nat} (hi : i < x.length) : W.cell? ⟨B, i, none⟩ = some (.int .u8 ((nth x i).toNat : Int)) := by
  obtain ⟨e, fr, hb, _⟩ := h
  unfold World.cell?
  simp only [hb]
  exact bcells_get x i hi
theorem BytesAt.free {W : World} {B : Nat} {x : List UInt8} (h : BytesAt W B x) {i : Nat} (hi : i < x.length) : W.frozen? ⟨B, i, none⟩ = false := by
  obtain ⟨e, fr, hb, hf⟩ := h
  unfold World.frozen?
  simp only [hb]
  have := hf i hi
  simp only [Bool.and_eq_false_iff, decide_eq_false_iff_not]
  omega
theorem BytesAt.lt {W : World} {B : Nat} {x : List UInt8} (h : BytesAt W B x) : B < W.heap.size := by
  obtain ⟨e, fr, hb, _⟩ := h
  exact (Array.getElem?_eq_some_iff.1 hb).1
theorem BytesAt.of_block {W W' : World} {B : Nat} {x : List UInt8} (h : BytesAt W B x) (hb : W'.heap[B]? = W.heap[B]?) : BytesAt W' B x := by
  obtain ⟨e, fr, hc, hf⟩ := h
  exact ⟨e, fr, hb.trans hc, hf⟩
theorem BytesAt.set {W : World} {B : Nat} {x : List UInt8} (h : BytesAt W B x) (i : Nat) (v : UInt8) : BytesAt (W.setCell ⟨B, i, none⟩ (.int .u8 (v.toNat : Int))) B (x.set i v) := by
  obtain ⟨e, fr, hb, hf⟩ := h
  refine ⟨e, fr, ?_, fun j hj => hf j (by simpa using hj)⟩
  simp only [World.setCell, Array.getElem?_modify, if_true, hb, Option.map_some]
  congr 2
  simp [bcells, List.map_set]
theorem BytesAt.drew {W : World} {B : Nat} {x : List UInt8} (h : BytesAt W B x) : BytesAt W.drew B x := h
theorem BytesAt.drewN {W : World} {B : Nat} {x : List UInt8} (h : BytesAt W B x) (n : Nat) : BytesAt (W.drewN n) B x := h
theorem BytesAt.below {W W' : World} {B n : Nat} {x : List UInt8} (h : BytesAt W B x) (hb : Below n W W') (hn : B < n) : BytesAt W' B x := h.of_block (hb.block B hn)
theorem BytesAt.alloc {W : World} {B : Nat} {x : List UInt8} (h : BytesAt W B x) (o : Obj) : BytesAt (W.alloc o) B x := h.of_block (Below.heap_alloc W o B h.lt)
theorem BytesAt.far {W : World} {B : Nat} {x : List UInt8} (h : BytesAt W B x) (a : Addr) (v : Value) (hne : B ≠ a.block) : BytesAt (W.setCell a v) B x := h.of_block (Below.heap_setCell W a v B hne)
/-- a window of a block of bytes, as a string -/
theorem run_window {P : Program} {src dst e : TypeId} (hs : P.underlying src = some (.slice e)) (he : P.underlying e = some (.int .u8)) (hd : P.underlying dst = some .string) {W : World} {B : Nat} {x : List UInt8} (h : BytesAt W B x) (o n cap : Nat) (hn : o + n ≤ x.length) :
    (convert src dst (.slice (some ⟨B, o, none⟩) n cap)).run P W = .ok (.string (str ((x.drop o).take n))) W := by
  have hl : ((x.drop o).take n).length = n := by rw [List.length_take, List.length_drop]; omega
  have h1 := run_convert_bytes_back (P := P) W src dst e ⟨B, o, none⟩ cap ((x.drop o).take n) hs he hd (fun j hj => by
    have e1 : (⟨B, o, none⟩ : Addr).add j = ⟨B, o + j, none⟩ := by
      unfold Addr.add
      by_cases hj0 : j = 0 <;> simp [hj0]
    rw [e1, h.cell (by omega)]
    have hj2 : o + j < x.length := by omega
    simp [nth, List.getD, hj2])
  rw [hl] at h1
  exact h1
/-- a string's bytes, in a block of their own -/
theorem run_bytes {P : Program} {src dst e : TypeId} (hs : P.underlying src = some .string) (hd : P.underlying dst = some (.slice e)) (he : P.underlying e = some (.int .u8)) (W : World) (l : List UInt8) :
    ∃ cap o, l.length ≤ cap ∧ (convert src dst (.string (str l))).run P W = .ok (.slice (some ⟨W.heap.size, 0, none⟩) l.length cap) (W.drew.alloc o) ∧ BytesAt (W.drew.alloc o) W.heap.size (l ++ List.replicate (cap - l.length) 0) := by
  have h := run_bytes_of_string (P := P) W src dst e (str l) hs hd he
  rw [str_size] at h
  have hc := grownCap_ge W l.length 0 e
  refine ⟨grownCap W l.length 0 e, _, hc, h, e, ((bytesRow (str l) (grownCap W l.length 0 e)).size, (bytesRow (str l) (grownCap W l.length 0 e)).size + 1), ?_, ?_⟩
  · show (W.drew.heap.push _)[W.heap.size]? = _
    rw [show W.heap.size = W.drew.heap.size from rfl, Array.getElem?_push_size]
    simp [bytesRow, str, bcells, ByteArray.size]
  · intro i hi
    simp [bytesRow, str, ByteArray.size] at hi ⊢
    omega
end Go.Proofs.YtamnhpijeiigcaaDoor.UK
