/-
  disk.Open: within it.
-/
import Derived.Test.YtjfkdfffolkblaaGreatDoorDiskR
import Derived.Test.YtjfkdfffolkblaaGreatDoorDiskO
import Derived.Deep.OwnRows
import Derived.Deep.RegionWith
import Derived.Deep.DeepCutAuto
namespace Go.Proofs.YtjfkdfffolkblaaGreatDoor
open Go.RowKit
open UK (str BytesAt nth Only w32 Row)
open Go.BigFrame
/- strings.CutPrefix -/
set_option maxRecDepth 100000 in
theorem prefix_any (a m : List UInt8) (h : m.length ≤ a.length) (_hs : a.length ≤ 100000) (W : World) :
    Calls Tryz.prog 148 #[.string (str a), .string (str m)] W fun e w' => e = .returned (.bool (decide (a.take m.length = m))) ∧ w' = W := by
  have HB : Hid ((a.take m.length == m) = decide (a.take m.length = m)) := by
    show _ = _
    rw [Bool.eq_iff_iff, beq_iff_eq, decide_eq_true_eq]
  generalize decide (a.take m.length = m) = b at HB ⊢
  go_enter Tryz.func148, Tryz.ntmps148
  go_wp2
  go_ret
  exact ⟨by rw [← HB.out] <;> rfl, rfl⟩
set_option maxRecDepth 100000 in
theorem cut_prefix (a m : List UInt8) (h : m.length ≤ a.length) (hs : a.length ≤ 100000) (W : World) :
    Calls Tryz.prog 120 #[.string (str a), .string (str m)] W fun e w' => e = .returned (.tuple #[.string (str (if a.take m.length = m then a.drop m.length else a)), .bool (decide (a.take m.length = m))]) ∧ w' = W := by
  have hp := fun w => prefix_any a m h hs w
  by_cases hm : a.take m.length = m
  · rw [if_pos hm, decide_eq_true hm]
    simp only [decide_eq_true hm] at hp
    clear hm
    go_enter Tryz.func120, Tryz.ntmps120
    go_wp2_with fail
    refine (hp _).mono ?_
    rintro e w' ⟨rfl, rfl⟩
    go_wp2
    go_ret2
    exact ⟨by simp, rfl⟩
  · rw [if_neg hm, decide_eq_false hm]
    simp only [decide_eq_false hm] at hp
    clear hm
    go_enter Tryz.func120, Tryz.ntmps120
    go_wp2_with fail
    refine (hp _).mono ?_
    rintro e w' ⟨rfl, rfl⟩
    go_wp2
    go_ret2
    exact ⟨rfl, rfl⟩
set_option maxRecDepth 100000 in
theorem cutp_any (a m : List UInt8) (h : m.length ≤ a.length) (hs : a.length ≤ 100000) (W : World) :
    Calls Tryz.prog 63 #[.string (str a), .string (str m)] W fun e w' => e = .returned (.tuple #[.string (str (if a.take m.length = m then a.drop m.length else a)), .bool (decide (a.take m.length = m))]) ∧ w' = W := by
  have hp := fun w => cut_prefix a m h hs w
  generalize (if a.take m.length = m then a.drop m.length else a) = r at hp ⊢
  generalize decide (a.take m.length = m) = b at hp ⊢
  go_enter Tryz.func63, Tryz.ntmps63
  go_wp2_with fail
  refine (hp _).mono ?_
  rintro e w' ⟨rfl, rfl⟩
  go_wp2
  go_ret2
  exact ⟨rfl, rfl⟩
theorem cutp_no (a m : List UInt8) (h : m.length ≤ a.length) (hs : a.length ≤ 100000) (hm : ¬ a.take m.length = m) (W : World) :
    Calls Tryz.prog 63 #[.string (str a), .string (str m)] W fun e w' => e = .returned (.tuple #[.string (str a), .bool false]) ∧ w' = W := by
  have := cutp_any a m h hs W
  rw [if_neg hm, decide_eq_false hm] at this
  exact this
theorem cutp_yes (a m : List UInt8) (h : m.length ≤ a.length) (hs : a.length ≤ 100000) (hm : a.take m.length = m) (W : World) :
    Calls Tryz.prog 63 #[.string (str a), .string (str m)] W fun e w' => e = .returned (.tuple #[.string (str (a.drop m.length)), .bool true]) ∧ w' = W := by
  have := cutp_any a m h hs W
  rw [if_pos hm, decide_eq_true hm] at this
  exact this
section
variable {W w w1 : World} {own : Nat → Prop} {D B bc fc I lc : Nat} {fo lo : Option Addr} {s y : List UInt8} {most : Int} {lf l fl : List Nat}
/-- the disk on the way -/
abbrev wayD (s : List UInt8) (most : Int) (lf fl : List Nat) : Dk := { x := s, most := most, free := fl, isf := flagsL (s.length / 512) lf, rl := -1, wl := -1, reads := 0, puts := 0 }
/-- within Open: the disk on the way, and the pages found -/
structure OS (W w : World) (own : Nat → Prop) (D B bc : Nat) (fo : Option Addr) (fc I : Nat) (y s : List UInt8) (most : Int) (lf fl l : List Nat) (lo : Option Addr) (lc : Nat) : Prop where
  at_ : DiskAt w own D B bc fo fc I (s.length / 512) y (wayD s most lf fl)
  row : (lo = none ∧ l = [] ∧ lc = 0) ∨ ∃ g, lo = some ⟨g, 0, none⟩ ∧ Row w g lc (ints l) ∧ ¬ own g ∧ W.heap.size ≤ g
  bel : Below W.heap.size W w
  low : ∀ k, own k → W.heap.size ≤ k
  bnd : ∀ k, own k → k < w.heap.size
theorem OS.next (h : OS W w own D B bc fo fc I y s most lf fl l lo lc) (hb : Below w.heap.size w w1) : OS W w1 own D B bc fo fc I y s most lf fl l lo lc := by
  refine ⟨h.at_.below hb, ?_, h.bel.trans (hb.mono h.bel.size), h.low, fun k hk => Nat.lt_of_lt_of_le (h.bnd k hk) hb.size⟩
  rcases h.row with h0 | ⟨g, e, r, n1, n2⟩
  · exact .inl h0
  · exact .inr ⟨g, e, r.below hb r.lt, n1, n2⟩
/-- a page's owner bytes -/
theorem OS.look (h : OS W w own D B bc fo fc I y s most lf fl l lo lc) (p : Nat) (hp : 512 * (p + 1) ≤ s.length) (hs : s.length ≤ 100000000) :
    Calls Tryz.prog 62 #[.pointer (some ⟨D, 0, none⟩), .int .i64 p] w fun e w' => e = .returned (.tuple #[.string (str (lookL s p)), .bool (okB s p)]) ∧ OS W w' own D B bc fo fc I y s most lf fl l lo lc := by
  have hpre := loadL_pre h.at_ p hp
  have hle := h.at_.le
  have hyl := h.at_.ylen
  refine (look_any h.at_.bytes s.length bc p (h.at_.cells.at' 0 _ rfl) (by rw [hyl]; exact hle) hle hs hp h.at_.tab).mono ?_
  rintro e w' ⟨rfl, hb⟩
  refine ⟨?_, h.next hb⟩
  rw [hpre.1, hpre.2]
theorem OS.word (h : OS W w own D B bc fo fc I y s most lf fl l lo lc) (v : UInt32) :
    Calls Tryz.prog 64 #[.int .u32 v.toNat] w fun e w' => e = .returned (.string (str (putL v))) ∧ OS W w' own D B bc fo fc I y s most lf fl l lo lc := (word_any v w).mono fun _ _ ⟨a, b⟩ => ⟨a, h.next b⟩
/-- a page's flag is set -/
theorem OS.flag (h : OS W w own D B bc fo fc I y s most lf fl l lo lc) (p : Nat) (hp : p < s.length / 512) : OS W (w.setCell ⟨I, p, none⟩ (.bool true)) own D B bc fo fc I y s most (lf ++ [p]) fl l lo lc := by
  have h1 := h.at_.flagTo p true (by rw [flagsL_length]; exact hp)
  have o := (Only.refl I w).set p (.bool true)
  refine ⟨?_, ?_, h.bel.setCell (h.low _ h.at_.oI) _, h.low, fun k hk => Nat.lt_of_lt_of_le (h.bnd k hk) o.size⟩
  · simp only [wayD] at h1 ⊢
    rw [flagsL_set] at h1
    exact h1
  · rcases h.row with h0 | ⟨g, e, r, n1, n2⟩
    · exact .inl h0
    · exact .inr ⟨g, e, r.only o (fun e2 => n1 (e2 ▸ h.at_.oI)), n1, n2⟩
set_option maxRecDepth 100000 in
/-- a page more is found -/
theorem OS.push (h : OS W w own D B bc fo fc I y s most lf fl l lo lc) (ht : TabAt W) (p : Nat) (hl : l.length ≤ 60000) :
    ∃ g' c' w', (Builtin.append_ #[100, 100] 100 #[.slice lo l.length lc, .slice (some ⟨w.heap.size, 0, none⟩) 1 1]).run Tryz.prog (w.alloc (.cells #[.int .i64 (p : Int)] 3)) = .ok (.slice (some ⟨g', 0, none⟩) (l.length + 1) c') w' ∧ OS W w' own D B bc fo fc I y s most lf fl (l ++ [p]) (some ⟨g', 0, none⟩) c' := by
  have ha : (lo = none ∧ ints l = [] ∧ lc = 0) ∨ ∃ g, lo = some ⟨g, 0, none⟩ ∧ Row w g lc (ints l) := by
    rcases h.row with ⟨a, b, c⟩ | ⟨F, e, r, _⟩
    · exact .inl ⟨a, by rw [b]; rfl, c⟩
    · exact .inr ⟨F, e, r⟩
  obtain ⟨g', c', W', e, r, o, hg⟩ := UK.push_one (P := Tryz.prog) (t := 100) (ty := 100) Tryz.underlying100 (i := Tryz.t3) rfl rfl rfl (show (8 : Nat) ≤ 16 by omega) rfl ha (.int .i64 (p : Int)) rfl (by rw [ints_length]; omega)
  rw [ints_length] at e
  have hn : ¬ own g' ∧ W.heap.size ≤ g' := by
    rcases hg with hg | hg
    · rcases h.row with ⟨a, _⟩ | ⟨F, e2, _, n1, n2⟩
      · rw [a] at hg; cases hg
      · rw [e2] at hg
        obtain rfl : F = g' := congrArg Addr.block (Option.some.inj hg)
        exact ⟨n1, n2⟩
    · exact ⟨fun hk => by have := h.bnd _ hk; omega, Nat.le_trans h.bel.size hg⟩
  have htl := ht.lt
  refine ⟨g', c', W', e, h.at_.only o hn.1 (by omega), .inr ⟨g', rfl, by unfold ints at *; rw [List.map_append]; exact r, hn.1, hn.2⟩, h.bel.trans (o.below h.bel.size hn.2), h.low, fun k hk => Nat.lt_of_lt_of_le (h.bnd k hk) o.size⟩
set_option maxRecDepth 100000 in
/-- a free page more -/
theorem OS.free (h : OS W w own D B bc fo fc I y s most lf fl l lo lc) (p : Nat) (hl : fl.length ≤ 60000) :
    ∃ g' c' w', (Builtin.append_ #[100, 100] 100 #[.slice fo fl.length fc, .slice (some ⟨w.heap.size, 0, none⟩) 1 1]).run Tryz.prog (w.alloc (.cells #[.int .i64 (p : Int)] 3)) = .ok (.slice (some ⟨g', 0, none⟩) (fl.length + 1) c') w' ∧ w'.cell? ⟨D, 2, none⟩ = some (.slice fo fl.length fc) ∧ w'.frozen? ⟨D, 2, none⟩ = false ∧
      OS W (w'.setCell ⟨D, 2, none⟩ (.slice (some ⟨g', 0, none⟩) (fl.length + 1) c')) (also own g') D B bc (some ⟨g', 0, none⟩) c' I y s most lf (fl ++ [p]) l lo lc := by
  obtain ⟨g', c', w6, e6, r6, o6, k1, k2, k3, k4⟩ := push_free h.at_ p hl
  have h7 := h.at_.freeTo r6 o6 k2 k3 k4 k1
  have hgW : W.heap.size ≤ g' := by
    rcases k1 with k1 | k1
    · exact h.low _ k1
    · exact Nat.le_trans h.bel.size k1
  rw [List.length_append, List.length_singleton] at h7
  refine ⟨g', c', w6, e6, (h.at_.cells.only o6 k2.symm).at' 2 _ rfl, (h.at_.cells.only o6 k2.symm).free 2 (by omega), h7, ?_, (h.bel.trans (o6.below h.bel.size hgW)).setCell (h.low _ h.at_.oD) _, fun k hk => ?_, fun k hk => ?_⟩
  · rcases h.row with h0 | ⟨g, e, r, n1, n2⟩
    · exact .inl h0
    · have hgg : g ≠ g' := fun e2 => by
        rcases k1 with k1 | k1
        · exact n1 (e2 ▸ k1)
        · have := r.lt; omega
      have hgD : g ≠ D := fun e2 => n1 (e2 ▸ h.at_.oD)
      exact .inr ⟨g, e, (r.only o6 hgg).only ((Only.refl D w6).set 2 _) hgD, fun hh => by
        rcases hh with hh | hh
        · exact n1 hh
        · exact hgg hh, n2⟩
  · rcases hk with hk | rfl
    · exact h.low k hk
    · exact hgW
  · have hsz : (w6.setCell ⟨D, 2, none⟩ (.slice (some ⟨g', 0, none⟩) (fl.length + 1) c')).heap.size = w6.heap.size := by simp [World.setCell]
    rw [hsz]
    rcases hk with hk | rfl
    · exact Nat.lt_of_lt_of_le (h.bnd k hk) o6.size
    · exact r6.lt
/-- the new disk, its bytes and flags laid -/
theorem OS.start {own0 : Nat → Prop} {B0 bc0 I0 ic0 : Nat} {y0 : List UInt8} {pages : Int} (ht : TabAt W) (h : DiskAt w own0 D B0 bc0 fo fc I0 ic0 y0 (newD pages)) (hb : Below W.heap.size W w) (hlow : ∀ k, own0 k → W.heap.size ≤ k)
    (cap : Nat) (o : Obj) (hcap : s.length ≤ cap) (hy : BytesAt (w.drew.alloc o) w.heap.size y) (hyl : y.length = cap) (hpre : y.take s.length = s) (v0 v3 : Value)
    (hv0 : v0 = .slice (some ⟨w.heap.size, 0, none⟩) s.length cap) (hv3 : v3 = .slice (some ⟨w.heap.size + 1, 0, none⟩) (s.length / 512) (s.length / 512)) :
    ∃ own, OS W (((((w.setCell ⟨D, 0, none⟩ v0).setCell ⟨D, 3, none⟩ v3).setCell ⟨D, 7, none⟩ (.int .i64 0)).alloc o).alloc (.cells (madeCells #[.bool false] (s.length / 512)) 4)).drew own D w.heap.size cap fo fc (w.heap.size + 1) y s (clampD pages) [] [] [] none 0 := by
  subst hv0 hv3
  have hst := newD_still pages
  have hfr : (newD pages).free = [] := hst.free
  have r4 := ((h.cells.set 0 (.slice (some ⟨w.heap.size, 0, none⟩) s.length cap) (by show 0 < 8; omega)).set 3 (.slice (some ⟨w.heap.size + 1, 0, none⟩) (s.length / 512) (s.length / 512)) (by show 3 < 8; omega)).set 7 (.int .i64 0) (by show 7 < 8; omega)
  have o3 := (((Only.refl D w).set 0 (.slice (some ⟨w.heap.size, 0, none⟩) s.length cap)).set 3 (.slice (some ⟨w.heap.size + 1, 0, none⟩) (s.length / 512) (s.length / 512))).set 7 (.int .i64 0)
  have hfo : fo = none ∧ fc = 0 ∨ ∃ F, fo = some ⟨F, 0, none⟩ ∧ Row w F fc [] ∧ F ≠ D ∧ own0 F := by
    rcases h.freeAt with ⟨a, _, c⟩ | ⟨F, e, r, n1, _, _, n4⟩
    · exact .inl ⟨a, c⟩
    · rw [hfr] at r; exact .inr ⟨F, e, r, n1, n4⟩
  have hF : ∀ F, fo = some ⟨F, 0, none⟩ → Row w F fc [] ∧ F ≠ D ∧ own0 F := fun F e => by
    rcases hfo with ⟨a, _⟩ | ⟨F', e', r, n1, n4⟩
    · rw [a] at e; cases e
    · rw [e'] at e
      obtain rfl : F' = F := congrArg Addr.block (Option.some.inj e)
      exact ⟨r, n1, n4⟩
  have q1 := fun F e => (hF F e).1.only o3 (hF F e).2.1
  have t1 := UK.TabAt_only (ht.below hb) o3 (fun e => by have := ht.lt; have := hlow _ h.oD; omega)
  have B1 := ((hb.setCell (p := ⟨D, 0, none⟩) (hlow _ h.oD) (.slice (some ⟨w.heap.size, 0, none⟩) s.length cap)).setCell (p := ⟨D, 3, none⟩) (hlow _ h.oD) (.slice (some ⟨w.heap.size + 1, 0, none⟩) (s.length / 512) (s.length / 512))).setCell (p := ⟨D, 7, none⟩) (hlow _ h.oD) (.int .i64 0)
  have hsz : (((w.setCell ⟨D, 0, none⟩ (.slice (some ⟨w.heap.size, 0, none⟩) s.length cap)).setCell ⟨D, 3, none⟩ (.slice (some ⟨w.heap.size + 1, 0, none⟩) (s.length / 512) (s.length / 512))).setCell ⟨D, 7, none⟩ (.int .i64 0)).heap.size = w.heap.size := by simp [World.setCell]
  generalize ((w.setCell ⟨D, 0, none⟩ (.slice (some ⟨w.heap.size, 0, none⟩) s.length cap)).setCell ⟨D, 3, none⟩ (.slice (some ⟨w.heap.size + 1, 0, none⟩) (s.length / 512) (s.length / 512))).setCell ⟨D, 7, none⟩ (.int .i64 0) = w1 at r4 o3 q1 t1 B1 hsz ⊢
  have y2 : BytesAt (w1.alloc o) w.heap.size y := hy.of_block (by
    have e1 : (w1.alloc o).heap[w1.heap.size]? = some o := by
      show (w1.heap.push _)[w1.heap.size]? = _
      rw [Array.getElem?_push_size]
    have e2 : (w.drew.alloc o).heap[w.drew.heap.size]? = some o := by
      show (w.drew.heap.push _)[w.drew.heap.size]? = _
      rw [Array.getElem?_push_size]
    rw [hsz] at e1
    exact e1.trans e2.symm)
  have s2 : (w1.alloc o).heap.size = w.heap.size + 1 := by simp [hsz]
  have B2 := B1.alloc B1.size o
  have b2 : Below w1.heap.size w1 (w1.alloc o) := (Below.refl _ _).alloc (Nat.le_refl _) _
  have hDlt := h.cells.lt
  have r5 := r4.below b2 (by omega)
  have q2 := fun F e => (q1 F e).below b2 (q1 F e).lt
  have t2 := t1.below b2
  generalize w1.alloc o = w2 at r5 q2 t2 y2 s2 B2 ⊢
  have i2 := UK.row_new w2 (madeCells #[.bool false] (s.length / 512)) 4
  rw [s2, size_madeCells, toList_madeCells_one] at i2
  have b3 : Below w2.heap.size w2 (w2.alloc (.cells (madeCells #[.bool false] (s.length / 512)) 4)).drew := ((Below.refl _ _).alloc (Nat.le_refl _) _).drew
  have B3 := (B2.alloc B2.size (.cells (madeCells #[.bool false] (s.length / 512)) 4)).drew
  have i3 := i2.drewN 1
  have r6 := r5.below b3 (by omega)
  have q3 := fun F e => (q2 F e).below b3 (q2 F e).lt
  have t3 := t2.below b3
  have y3 := y2.below b3 (by omega)
  have s3 : (w2.alloc (.cells (madeCells #[.bool false] (s.length / 512)) 4)).drew.heap.size = w.heap.size + 2 := by
    show (w2.alloc _).heap.size = _
    simp [s2]
  have i4 : Row (w2.alloc (.cells (madeCells #[.bool false] (s.length / 512)) 4)).drew (w.heap.size + 1) (s.length / 512) (List.replicate (s.length / 512) (.bool false)) := i3
  clear i2 i3
  generalize (w2.alloc (.cells (madeCells #[.bool false] (s.length / 512)) 4)).drew = w3 at r6 y3 i4 B3 t3 s3 q3 ⊢
  have htl := ht.lt
  have hWD := hlow _ h.oD
  have hWw := hb.size
  have hF2 : ∀ F, fo = some ⟨F, 0, none⟩ → F < w.heap.size ∧ F ≠ D ∧ W.heap.size ≤ F := fun F e => ⟨(hF F e).1.lt, (hF F e).2.1, hlow _ (hF F e).2.2⟩
  refine ⟨fun k => k = D ∨ k = w.heap.size ∨ k = w.heap.size + 1 ∨ fo = some ⟨k, 0, none⟩, ⟨?_, y3, hyl, hcap, hpre, ?_, ?_, by omega, by omega, by omega, .inl rfl, .inr (.inl rfl), .inr (.inr (.inl rfl)), t3, ?_⟩, .inl ⟨rfl, rfl, rfl⟩, ?_, ?_, ?_⟩
  · have e1 : (((((newD pages).vals B0 bc0 fo fc I0 ic0).set 0 (.slice (some ⟨w.heap.size, 0, none⟩) s.length cap)).set 3 (.slice (some ⟨w.heap.size + 1, 0, none⟩) (s.length / 512) (s.length / 512))).set 7 (.int .i64 0)) = (wayD s (clampD pages) [] []).vals w.heap.size cap fo fc (w.heap.size + 1) (s.length / 512) := by
      simp [Dk.vals, hfr, hst.most, hst.wl, newD_rl, newD_reads, flagsL_length]
    rw [e1] at r6
    exact r6
  · rcases hfo with ⟨a, c⟩ | ⟨F, e, r, n1, n4⟩
    · exact .inl ⟨a, rfl, c⟩
    · refine .inr ⟨F, e, ?_, n1, by have := (hF2 F e).1; omega, by have := (hF2 F e).1; omega, .inr (.inr (.inr e))⟩
      exact q3 F e
  · show Row _ _ _ (bools (flagsL (s.length / 512) []))
    rw [flagsL_nil]
    simpa [bools] using i4
  · rintro (e | e | e | e)
    · omega
    · omega
    · omega
    · have := (hF2 _ e).2.2; omega
  · exact B3
  · rintro k (rfl | rfl | rfl | e)
    · exact hWD
    · exact hWw
    · omega
    · exact (hF2 _ e).2.2
  · rintro k (rfl | rfl | rfl | e)
    · omega
    · omega
    · omega
    · have := (hF2 _ e).1; omega
end
end Go.Proofs.YtjfkdfffolkblaaGreatDoor
