/-
  The document's Open: number, and what is known within it.
-/
import Derived.Test.YtamnhpijeiigcaaDoorRefC
import Derived.Test.YtamnhpijeiigcaaDoorDiskR
import Derived.Test.YtamnhpijeiigcaaDoorUMem
namespace Go.Proofs.YtamnhpijeiigcaaDoor
open Go.RowKit
open UK (str BytesAt nth Only w32 Row Box)
open Go.BigFrame
/-- four bytes' number -/
theorem word_sum (l : List UInt8) (h : l.length = 4) : ((nth l 0).toNat : Int) + 256 * ((nth l 1).toNat : Int) + 65536 * ((nth l 2).toNat : Int) + 16777216 * ((nth l 3).toNat : Int) = (wordN l : Int) := by
  have hp := put_get l h
  have hc := (getL l).toNat_lt
  unfold wordN
  generalize getL l = c at hp hc
  subst hp
  have e : ∀ i, i < 4 → nth (putL c) i = UK.byteOf c i := fun i hi => by
    rcases (show i = 0 ∨ i = 1 ∨ i = 2 ∨ i = 3 by omega) with rfl | rfl | rfl | rfl <;> rfl
  rw [e 0 (by omega), e 1 (by omega), e 2 (by omega), e 3 (by omega)]
  simp only [UK.byteOf, UInt8.toNat_ofNat']
  omega
set_option maxRecDepth 100000 in
theorem number_any (l : List UInt8) (h : l.length = 4) (W : World) :
    Calls Tryd.prog 62 #[.string (str l)] W fun e w' => e = .returned (.int .i64 (wordN l)) ∧ Below W.heap.size W w' := by
  have HS := Lib.hid (word_sum l h)
  have h4 : 4 ≤ l.length := by omega
  have b0 := UK.u8_lt (nth l 0)
  have b1 := UK.u8_lt (nth l 1)
  have b2 := UK.u8_lt (nth l 2)
  have b3 := UK.u8_lt (nth l 3)
  clear h
  go_enter Tryd.func62, Tryd.ntmps62
  go_wp2
  go_quiet (fail)
  go_wp2
  go_ret
  exact ⟨by rw [← HS.out] <;> rfl, UK.belowN (Below.refl _ _) _⟩
section
variable {W w w1 : World} {g np pc fc lc : Nat} {po fo lo : Option Addr} {s : List UInt8} {most : Int} {l fl : List Nat}
abbrev ocells (po : Option Addr) (np pc : Nat) (fo : Option Addr) (nf fc : Nat) (most : Int) : Array Value :=
  #[.slice po np pc, .slice fo nf fc, .int .i64 most, .int .i64 (-1), .int .i64 (-1), .int .i64 0, .int .i64 0]
/-- within the document's Open: its answer's struct, its own, the pages, the free ones, those found -/
structure RO (W w : World) (g : Nat) (po : Option Addr) (np pc : Nat) (fo : Option Addr) (fc : Nat) (s : List UInt8) (most : Int) (fl l : List Nat) (lo : Option Addr) (lc : Nat) : Prop where
  res : Box w W.heap.size zero7
  box : Box w g (ocells po np pc fo fl.length fc most)
  pages : (po = none ∧ np = 0 ∧ pc = 0) ∨ ∃ G, po = some ⟨G, 0, none⟩ ∧ Row w G pc (texts (pagesOf s np)) ∧ G ≠ g ∧ W.heap.size < G
  free : (fo = none ∧ fl = [] ∧ fc = 0) ∨ ∃ F, fo = some ⟨F, 0, none⟩ ∧ Row w F fc (ints fl) ∧ F ≠ g ∧ W.heap.size < F ∧ po ≠ some ⟨F, 0, none⟩
  row : (lo = none ∧ l = [] ∧ lc = 0) ∨ ∃ h, lo = some ⟨h, 0, none⟩ ∧ Row w h lc (ints l) ∧ h ≠ g ∧ W.heap.size < h ∧ po ≠ some ⟨h, 0, none⟩ ∧ fo ≠ some ⟨h, 0, none⟩
  bel : Below W.heap.size W w
  gW : W.heap.size < g
theorem RO.next (h : RO W w g po np pc fo fc s most fl l lo lc) (hb : Below w.heap.size w w1) : RO W w1 g po np pc fo fc s most fl l lo lc := by
  refine ⟨h.res.next hb, h.box.next hb, ?_, ?_, ?_, h.bel.trans (hb.mono h.bel.size), h.gW⟩
  · rcases h.pages with h0 | ⟨G, e, r, n1, n2⟩
    · exact .inl h0
    · exact .inr ⟨G, e, r.below hb r.lt, n1, n2⟩
  · rcases h.free with h0 | ⟨G, e, r, n1, n2, n3⟩
    · exact .inl h0
    · exact .inr ⟨G, e, r.below hb r.lt, n1, n2, n3⟩
  · rcases h.row with h0 | ⟨G, e, r, n1, n2, n3, n4⟩
    · exact .inl h0
    · exact .inr ⟨G, e, r.below hb r.lt, n1, n2, n3, n4⟩
theorem RO.page (h : RO W w g po np pc fo fc s most fl l lo lc) (p : Nat) (hp : p < np) : ∃ G, po = some ⟨G, 0, none⟩ ∧ w.cell? ⟨G, p, none⟩ = some (.string (str (pgOf s p))) := by
  rcases h.pages with ⟨_, h0, _⟩ | ⟨G, e, r, _⟩
  · omega
  · have := r.at' p _ (texts_at _ p (by rw [pagesOf_length]; exact hp))
    rw [pagesOf_get _ _ _ hp] at this
    exact ⟨G, e, this⟩
theorem pagesOf_snoc (s : List UInt8) (n : Nat) : pagesOf s (n + 1) = pagesOf s n ++ [pgOf s n] := by
  unfold pagesOf
  rw [List.range_succ, List.map_append]
  rfl
/-- a page more; nothing is found yet -/
theorem RO.push (h : RO W w g po np pc none 0 s most [] [] none 0) (hn : np ≤ 60000) :
    ∃ g' c' w', (Builtin.append_ #[44, 44] 44 #[.slice po np pc, .slice (some ⟨w.heap.size, 0, none⟩) 1 1]).run Tryd.prog (w.alloc (.cells #[.string (str (pgOf s np))] 73)) = .ok (.slice (some ⟨g', 0, none⟩) (np + 1) c') w' ∧ w'.cell? ⟨g, 0, none⟩ = some (.slice po np pc) ∧ w'.frozen? ⟨g, 0, none⟩ = false ∧
      RO W (w'.setCell ⟨g, 0, none⟩ (.slice (some ⟨g', 0, none⟩) (np + 1) c')) g (some ⟨g', 0, none⟩) (np + 1) c' none 0 s most [] [] none 0 := by
  have ha : (po = none ∧ texts (pagesOf s np) = [] ∧ pc = 0) ∨ ∃ G, po = some ⟨G, 0, none⟩ ∧ Row w G pc (texts (pagesOf s np)) := by
    rcases h.pages with ⟨a, b, c⟩ | ⟨G, e, r, _⟩
    · exact .inl ⟨a, by rw [b]; rfl, c⟩
    · exact .inr ⟨G, e, r⟩
  obtain ⟨g', c', w', e, r, o, hg⟩ := UK.push_one (P := Tryd.prog) (t := 44) (ty := 44) Tryd.underlying44 (i := Tryd.t73) rfl rfl rfl (show (16 : Nat) ≤ 16 by omega) rfl ha (.string (str (pgOf s np))) rfl (by rw [texts_length, pagesOf_length]; omega)
  rw [texts_length, pagesOf_length] at e
  have hwW := h.bel.size
  have hgl := h.box.lt
  have hrl := h.res.lt
  have hgg : g' ≠ g ∧ W.heap.size < g' := by
    rcases hg with hg | hg
    · rcases h.pages with ⟨a, _⟩ | ⟨G, e2, _, n1, n2⟩
      · rw [a] at hg; cases hg
      · rw [e2] at hg
        obtain rfl : G = g' := congrArg Addr.block (Option.some.inj hg)
        exact ⟨n1, n2⟩
    · exact ⟨by omega, by omega⟩
  have hbx := h.box.only o hgg.1.symm
  have o2 := (Only.refl g w').set 0 (.slice (some ⟨g', 0, none⟩) (np + 1) c')
  refine ⟨g', c', w', e, hbx.cell 0 _ rfl, hbx.free 0, ⟨(h.res.only o (by omega)).only o2 (by have := h.gW; omega), hbx.set 0 _, .inr ⟨g', rfl, ?_, hgg.1, hgg.2⟩, .inl ⟨rfl, rfl, rfl⟩, .inl ⟨rfl, rfl, rfl⟩, (h.bel.trans (o.below h.bel.size (by omega))).setCell (Nat.le_of_lt h.gW) _, h.gW⟩⟩
  rw [pagesOf_snoc]
  have := r.only o2 hgg.1
  unfold texts at *
  rw [List.map_append]
  exact this
/-- a page more is found -/
theorem RO.found (h : RO W w g po np pc fo fc s most fl l lo lc) (p : Nat) (hl : l.length ≤ 60000) :
    ∃ g' c' w', (Builtin.append_ #[22, 22] 22 #[.slice lo l.length lc, .slice (some ⟨w.heap.size, 0, none⟩) 1 1]).run Tryd.prog (w.alloc (.cells #[.int .i64 (p : Int)] 3)) = .ok (.slice (some ⟨g', 0, none⟩) (l.length + 1) c') w' ∧ RO W w' g po np pc fo fc s most fl (l ++ [p]) (some ⟨g', 0, none⟩) c' := by
  have ha : (lo = none ∧ ints l = [] ∧ lc = 0) ∨ ∃ h, lo = some ⟨h, 0, none⟩ ∧ Row w h lc (ints l) := by
    rcases h.row with ⟨a, b, c⟩ | ⟨F, e, r, _⟩
    · exact .inl ⟨a, by rw [b]; rfl, c⟩
    · exact .inr ⟨F, e, r⟩
  obtain ⟨g', c', w', e, r, o, hg⟩ := UK.push_one (P := Tryd.prog) (t := 22) (ty := 22) Tryd.underlying22 (i := Tryd.t3) rfl rfl rfl (show (8 : Nat) ≤ 16 by omega) rfl ha (.int .i64 (p : Int)) rfl (by rw [ints_length]; omega)
  rw [ints_length] at e
  have hgl := h.box.lt
  have hrl := h.res.lt
  have hn : g' ≠ g ∧ W.heap.size < g' ∧ po ≠ some ⟨g', 0, none⟩ ∧ fo ≠ some ⟨g', 0, none⟩ := by
    rcases hg with hg | hg
    · rcases h.row with ⟨a, _⟩ | ⟨F, e2, _, n⟩
      · rw [a] at hg; cases hg
      · rw [e2] at hg
        obtain rfl : F = g' := congrArg Addr.block (Option.some.inj hg)
        exact n
    · refine ⟨by omega, by omega, fun e2 => ?_, fun e2 => ?_⟩
      · rcases h.pages with ⟨a, _⟩ | ⟨G, e3, r3, _⟩
        · rw [a] at e2; cases e2
        · rw [e3] at e2
          have e4 : G = g' := congrArg Addr.block (Option.some.inj e2)
          have := r3.lt; omega
      · rcases h.free with ⟨a, _⟩ | ⟨G, e3, r3, _⟩
        · rw [a] at e2; cases e2
        · rw [e3] at e2
          have e4 : G = g' := congrArg Addr.block (Option.some.inj e2)
          have := r3.lt; omega
  refine ⟨g', c', w', e, h.res.only o (by omega), h.box.only o hn.1.symm, ?_, ?_, .inr ⟨g', rfl, by unfold ints at *; rw [List.map_append]; exact r, hn⟩, h.bel.trans (o.below h.bel.size (by omega)), h.gW⟩
  · rcases h.pages with h0 | ⟨G, e2, r2, n1, n2⟩
    · exact .inl h0
    · exact .inr ⟨G, e2, r2.only o (fun e3 => hn.2.2.1 (e3 ▸ e2)), n1, n2⟩
  · rcases h.free with h0 | ⟨G, e2, r2, n1, n2, n3⟩
    · exact .inl h0
    · exact .inr ⟨G, e2, r2.only o (fun e3 => hn.2.2.2 (e3 ▸ e2)), n1, n2, n3⟩
/-- a free page more -/
theorem RO.more (h : RO W w g po np pc fo fc s most fl l lo lc) (p : Nat) (hl : fl.length ≤ 60000) :
    ∃ g' c' w', (Builtin.append_ #[22, 22] 22 #[.slice fo fl.length fc, .slice (some ⟨w.heap.size, 0, none⟩) 1 1]).run Tryd.prog (w.alloc (.cells #[.int .i64 (p : Int)] 3)) = .ok (.slice (some ⟨g', 0, none⟩) (fl.length + 1) c') w' ∧ w'.cell? ⟨g, 1, none⟩ = some (.slice fo fl.length fc) ∧ w'.frozen? ⟨g, 1, none⟩ = false ∧
      RO W (w'.setCell ⟨g, 1, none⟩ (.slice (some ⟨g', 0, none⟩) (fl.length + 1) c')) g po np pc (some ⟨g', 0, none⟩) c' s most (fl ++ [p]) l lo lc := by
  have ha : (fo = none ∧ ints fl = [] ∧ fc = 0) ∨ ∃ h, fo = some ⟨h, 0, none⟩ ∧ Row w h fc (ints fl) := by
    rcases h.free with ⟨a, b, c⟩ | ⟨F, e, r, _⟩
    · exact .inl ⟨a, by rw [b]; rfl, c⟩
    · exact .inr ⟨F, e, r⟩
  obtain ⟨g', c', w', e, r, o, hg⟩ := UK.push_one (P := Tryd.prog) (t := 22) (ty := 22) Tryd.underlying22 (i := Tryd.t3) rfl rfl rfl (show (8 : Nat) ≤ 16 by omega) rfl ha (.int .i64 (p : Int)) rfl (by rw [ints_length]; omega)
  rw [ints_length] at e
  have hgl := h.box.lt
  have hrl := h.res.lt
  have hn : g' ≠ g ∧ W.heap.size < g' ∧ po ≠ some ⟨g', 0, none⟩ ∧ lo ≠ some ⟨g', 0, none⟩ := by
    rcases hg with hg | hg
    · rcases h.free with ⟨a, _⟩ | ⟨F, e2, _, n1, n2, n3⟩
      · rw [a] at hg; cases hg
      · rw [e2] at hg
        obtain rfl : F = g' := congrArg Addr.block (Option.some.inj hg)
        refine ⟨n1, n2, n3, fun e4 => ?_⟩
        rcases h.row with ⟨a, _⟩ | ⟨H, e5, _, _, _, _, n6⟩
        · rw [a] at e4; cases e4
        · rw [e5] at e4
          have e6 : H = F := congrArg Addr.block (Option.some.inj e4)
          rw [e6] at n6
          exact n6 e2
    · refine ⟨by omega, by omega, fun e2 => ?_, fun e2 => ?_⟩
      · rcases h.pages with ⟨a, _⟩ | ⟨G, e3, r3, _⟩
        · rw [a] at e2; cases e2
        · rw [e3] at e2
          have e4 : G = g' := congrArg Addr.block (Option.some.inj e2)
          have := r3.lt; omega
      · rcases h.row with ⟨a, _⟩ | ⟨G, e3, r3, _⟩
        · rw [a] at e2; cases e2
        · rw [e3] at e2
          have e4 : G = g' := congrArg Addr.block (Option.some.inj e2)
          have := r3.lt; omega
  have hbx := h.box.only o hn.1.symm
  have o2 := (Only.refl g w').set 1 (.slice (some ⟨g', 0, none⟩) (fl.length + 1) c')
  refine ⟨g', c', w', e, hbx.cell 1 _ rfl, hbx.free 1, ⟨(h.res.only o (by omega)).only o2 (by have := h.gW; omega), ?_, ?_, .inr ⟨g', rfl, by unfold ints at *; rw [List.map_append]; exact r.only o2 hn.1, hn.1, hn.2.1, hn.2.2.1⟩, ?_, (h.bel.trans (o.below h.bel.size (by omega))).setCell (Nat.le_of_lt h.gW) _, h.gW⟩⟩
  · have := hbx.set 1 (.slice (some ⟨g', 0, none⟩) (fl.length + 1) c')
    rw [List.length_append, List.length_singleton]
    exact this
  · rcases h.pages with h0 | ⟨G, e2, r2, n1, n2⟩
    · exact .inl h0
    · exact .inr ⟨G, e2, (r2.only o (fun e3 => hn.2.2.1 (e3 ▸ e2))).only o2 n1, n1, n2⟩
  · rcases h.row with h0 | ⟨G, e2, r2, n1, n2, n3, n4⟩
    · exact .inl h0
    · exact .inr ⟨G, e2, (r2.only o (fun e3 => hn.2.2.2 (e3 ▸ e2))).only o2 n1, n1, n2, n3, fun e3 => hn.2.2.2 (e2.trans e3.symm)⟩
end
end Go.Proofs.YtamnhpijeiigcaaDoor
