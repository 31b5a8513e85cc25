/-
  A world in which of what was there only one block has turned.
-/
import Derived.Test.YtamnhpijeiigcaaDoorUHeap
namespace Go.Proofs.YtamnhpijeiigcaaDoor.UK
open Go.RowKit
theorem belowN {B : Nat} {a w : World} (h : Below B a w) (n : Nat) : Below B a (w.drewN n) := ⟨h.os, h.tape, h.output, h.size, h.block⟩
structure Only (B : Nat) (w w' : World) : Prop where
  os : w'.os = w.os
  tape : w'.tape = w.tape
  output : w'.output = w.output
  size : w.heap.size ≤ w'.heap.size
  block : ∀ k, k < w.heap.size → k ≠ B → w'.heap[k]? = w.heap[k]?
namespace Only
variable {B : Nat} {a b c w : World}
theorem refl (B : Nat) (w : World) : Only B w w := ⟨rfl, rfl, rfl, Nat.le_refl _, fun _ _ _ => rfl⟩
theorem trans (h : Only B a b) (k : Only B b c) : Only B a c :=
  ⟨k.os.trans h.os, k.tape.trans h.tape, k.output.trans h.output, Nat.le_trans h.size k.size, fun i hi hn => (k.block i (Nat.lt_of_lt_of_le hi h.size) hn).trans (h.block i hi hn)⟩
theorem drew (h : Only B a w) : Only B a w.drew := ⟨h.os, h.tape, h.output, h.size, h.block⟩
theorem drewN (h : Only B a w) (n : Nat) : Only B a (w.drewN n) := ⟨h.os, h.tape, h.output, h.size, h.block⟩
theorem alloc (h : Only B a w) (o : Obj) : Only B a (w.alloc o) :=
  ⟨h.os, h.tape, h.output, Nat.le_trans h.size (by simp), fun i hi hn => (Below.heap_alloc w o i (Nat.lt_of_lt_of_le hi h.size)).trans (h.block i hi hn)⟩
theorem set (h : Only B a w) (i : Nat) (v : Value) : Only B a (w.setCell ⟨B, i, none⟩ v) :=
  ⟨h.os, h.tape, h.output, by simpa [World.setCell] using h.size, fun k hk hn => (Below.heap_setCell w _ v k hn).trans (h.block k hk hn)⟩
theorem setNew (h : Only B a w) {p : Addr} (hp : a.heap.size ≤ p.block) (v : Value) : Only B a (w.setCell p v) :=
  ⟨h.os, h.tape, h.output, by simpa [World.setCell] using h.size, fun k hk hn => (Below.heap_setCell w _ v k (by omega)).trans (h.block k hk hn)⟩
theorem of_below (h : Below a.heap.size a w) : Only B a w := ⟨h.os, h.tape, h.output, h.size, fun k hk _ => h.block k hk⟩
/-- what is written only in a block of one's own is not to be seen below -/
theorem below (h : Only B a w) {n : Nat} (hn : n ≤ a.heap.size) (hB : n ≤ B) : Below n a w := ⟨h.os, h.tape, h.output, h.size, fun k hk => h.block k (by omega) (by omega)⟩
theorem bytes {C : Nat} {x : List UInt8} (h : Only B a w) (hx : BytesAt a C x) (hne : C ≠ B) : BytesAt w C x := hx.of_block (h.block C hx.lt hne)
end Only
end Go.Proofs.YtamnhpijeiigcaaDoor.UK
