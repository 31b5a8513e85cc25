/-
  Two disks, each in memory of its own.
-/
import Derived.Test.YtamnhpijeiigcaaDoorDiskT
import Derived.Test.YtamnhpijeiigcaaDoorDiskU
namespace Go.Proofs.YtamnhpijeiigcaaDoor
open Go.RowKit
open UK (str BytesAt nth Only w32 Row)
open Go.BigFrame
theorem DiskAt.kept {W W' : World} {own : Nat → Prop} {D B bc fc I ic : Nat} {fo : Option Addr} {y : List UInt8} {d : Dk} (h : DiskAt W own D B bc fo fc I ic y d) (hs : W.heap.size ≤ W'.heap.size) (hb : ∀ k, own k → W'.heap[k]? = W.heap[k]?) (ht : TabAt W') : DiskAt W' own D B bc fo fc I ic y d := by
  refine ⟨h.cells.of_block hs (hb _ h.oD), h.bytes.of_block (hb _ h.oB), h.ylen, h.le, h.pre, ?_, h.flags.of_block hs (hb _ h.oI), h.DB, h.DI, h.BI, h.oD, h.oB, h.oI, ht, h.notab⟩
  rcases h.freeAt with h0 | ⟨F, e1, r, n1, n2, n3, n4⟩
  · exact .inl h0
  · exact .inr ⟨F, e1, r.of_block hs (hb _ n4), n1, n2, n3, n4⟩
/-- two disks, and blocks that are neither's -/
def Two (E : Nat → Prop) (W : World) (D : Nat) (d : Dk) (cnt : Nat) (X : Nat) (x : Dk) (cx : Nat) : Prop :=
  ∃ o1 o2 : Nat → Prop, (∀ k, o1 k → ¬ o2 k) ∧ (∀ k, o1 k → ¬ E k) ∧ (∀ k, o2 k → ¬ E k) ∧ (∀ k, o1 k → k < W.heap.size) ∧ (∀ k, o2 k → k < W.heap.size) ∧ (∀ k, E k → k < W.heap.size) ∧ Disk W o1 D d ∧ Disk W o2 X x ∧ Fit d cnt ∧ Fit x cx
section
variable {E : Nat → Prop} {W W' : World} {D X cnt cx : Nat} {d x : Dk}
theorem Two.swap (h : Two E W D d cnt X x cx) : Two E W X x cx D d cnt := by
  obtain ⟨o1, o2, a, b, c, p, q, r, u, v, s, t⟩ := h
  exact ⟨o2, o1, fun k h2 h1 => a k h1 h2, c, b, q, p, r, v, u, t, s⟩
theorem Two.fit (h : Two E W D d cnt X x cx) : Fit d cnt := by
  obtain ⟨o1, o2, a, b, c, p, q, r, u, v, s, t⟩ := h
  exact s
theorem Two.left {f : Nat} {args : Array Value} {r : Value} {d' : Dk} {cnt' : Nat} (h : Two E W D d cnt X x cx)
    (hc : ∀ S, DD S W D d cnt → Calls Tryd.prog f args W fun e w' => e = .returned r ∧ DD S w' D d' cnt' ∧ Kept S W w') :
    Calls Tryd.prog f args W fun e w' => e = .returned r ∧ Two E w' D d' cnt' X x cx ∧ Kept E W w' := by
  obtain ⟨o1, o2, a, b, c, p, q, r, u, ⟨B, bc, fo, fc, I, ic, y, v⟩, s, t⟩ := h
  refine (hc (fun k => E k ∨ o2 k) ⟨⟨o1, fun k h1 h2 => by
    rcases h2 with h2 | h2
    · exact b k h1 h2
    · exact a k h1 h2, u⟩, s, fun k hk => by
    rcases hk with hk | hk
    · exact r k hk
    · exact q k hk⟩).mono ?_
  rintro e w' ⟨rfl, ⟨⟨own, hown, B1, bc1, fo1, fc1, I1, ic1, y1, hd⟩, hf, ht⟩, hk⟩
  exact ⟨rfl, ⟨fun k => own k ∧ k < w'.heap.size, o2, fun k h1 h2 => hown k h1.1 (.inr h2), fun k h1 h2 => hown k h1.1 (.inl h2), c, fun k h1 => h1.2, fun k h2 => Nat.lt_of_lt_of_le (q k h2) hk.size, fun k h2 => Nat.lt_of_lt_of_le (r k h2) hk.size,
    ⟨B1, bc1, fo1, fc1, I1, ic1, y1, hd.tight⟩, ⟨B, bc, fo, fc, I, ic, y, v.kept hk.size (fun k h2 => hk.block k (.inr h2)) hd.tab⟩, hf, t⟩, hk.mono (fun k h1 => .inl h1)⟩
theorem Two.right {f : Nat} {args : Array Value} {r : Value} {x' : Dk} {cx' : Nat} (h : Two E W D d cnt X x cx)
    (hc : ∀ S, DD S W X x cx → Calls Tryd.prog f args W fun e w' => e = .returned r ∧ DD S w' X x' cx' ∧ Kept S W w') :
    Calls Tryd.prog f args W fun e w' => e = .returned r ∧ Two E w' D d cnt X x' cx' ∧ Kept E W w' := (h.swap.left hc).mono fun _ _ ⟨a, b, c⟩ => ⟨a, b.swap, c⟩
theorem Two.dd (h : Two E W D d cnt X x cx) : DD E W D d cnt := by
  obtain ⟨o1, o2, a, b, c, p, q, r, u, v, s, t⟩ := h
  exact ⟨⟨o1, b, u⟩, s, r⟩
theorem Two.next (h : Two E W D d cnt X x cx) (hb : Below W.heap.size W W') : Two E W' D d cnt X x cx := by
  obtain ⟨o1, o2, a, b, c, p, q, r, ⟨B, bc, fo, fc, I, ic, y, u⟩, ⟨B1, bc1, fo1, fc1, I1, ic1, y1, v⟩, s, t⟩ := h
  exact ⟨o1, o2, a, b, c, fun k hk => Nat.lt_of_lt_of_le (p k hk) hb.size, fun k hk => Nat.lt_of_lt_of_le (q k hk) hb.size, fun k hk => Nat.lt_of_lt_of_le (r k hk) hb.size, ⟨B, bc, fo, fc, I, ic, y, u.below hb⟩, ⟨B1, bc1, fo1, fc1, I1, ic1, y1, v.below hb⟩, s, t⟩
/-- a disk opened beside another one -/
theorem Two.open_ {E : Nat → Prop} {own : Nat → Prop} (h : DD E W D d cnt) (hb : Below W.heap.size W W') (hx : Disk W' own X x) (hf : Fit x cx) (ho : ∀ k, own k → W.heap.size ≤ k ∧ k < W'.heap.size) : Two E W' D d cnt X x cx := by
  obtain ⟨⟨o, hown, B, bc, fo, fc, I, ic, y, hd⟩, ft, hE⟩ := h
  have hlt := hb.size
  exact ⟨fun k => o k ∧ k < W.heap.size, own, fun k h1 h2 => by have := (ho k h2).1; have := h1.2; omega, fun k h1 h2 => hown k h1.1 h2, fun k h1 h2 => by have := (ho k h1).1; have := hE k h2; omega, fun k h1 => Nat.lt_of_lt_of_le h1.2 hlt, fun k h1 => (ho k h1).2, fun k h1 => Nat.lt_of_lt_of_le (hE k h1) hlt,
    ⟨B, bc, fo, fc, I, ic, y, hd.tight.below hb⟩, hx, ft, hf⟩
end
end Go.Proofs.YtamnhpijeiigcaaDoor
