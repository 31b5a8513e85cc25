/-
  disk.Open: within it.
  disk.Open, walked.
-/
import Derived.Test.YtjfkdfffolkblaaGreatDoorDiskR
import Derived.Test.YtjfkdfffolkblaaGreatDoorDiskO
import Derived.Deep.OwnRows
import Derived.Deep.RegionWith
import Derived.Deep.DeepCutAuto
import Derived.Deep.RegionLaw
namespace Go.Proofs.YtjfkdfffolkblaaGreatDoor
open Go.RowKit
open UK (str BytesAt nth Only w32 Row)
open Go.BigFrame
/- strings.CutPrefix -/
set_option maxRecDepth 100000 in
theorem prefix_any (a m : List UInt8) (h : m.length ≤ a.length) (_hs : a.length ≤ 100000) (W : World) :
    Calls Tryz.prog 148 #[.string (str a), .string (str m)] W fun e w' => e = .returned (.bool (decide (a.take m.length = m))) ∧ w' = W := by
  have HB : Hid ((a.take m.length == m) = decide (a.take m.length = m)) := by
    show _ = _
    rw [Bool.eq_iff_iff, beq_iff_eq, decide_eq_true_eq]
  generalize decide (a.take m.length = m) = b at HB ⊢
  go_enter Tryz.func148, Tryz.ntmps148
  go_wp2
  go_ret
  exact ⟨by rw [← HB.out] <;> rfl, rfl⟩
set_option maxRecDepth 100000 in
theorem cut_prefix (a m : List UInt8) (h : m.length ≤ a.length) (hs : a.length ≤ 100000) (W : World) :
    Calls Tryz.prog 120 #[.string (str a), .string (str m)] W fun e w' => e = .returned (.tuple #[.string (str (if a.take m.length = m then a.drop m.length else a)), .bool (decide (a.take m.length = m))]) ∧ w' = W := by
  have hp := fun w => prefix_any a m h hs w
  by_cases hm : a.take m.length = m
  · rw [if_pos hm, decide_eq_true hm]
    simp only [decide_eq_true hm] at hp
    clear hm
    go_enter Tryz.func120, Tryz.ntmps120
    go_wp2_with fail
    refine (hp _).mono ?_
    rintro e w' ⟨rfl, rfl⟩
    go_wp2
    go_ret2
    exact ⟨by simp, rfl⟩
  · rw [if_neg hm, decide_eq_false hm]
    simp only [decide_eq_false hm] at hp
    clear hm
    go_enter Tryz.func120, Tryz.ntmps120
    go_wp2_with fail
    refine (hp _).mono ?_
    rintro e w' ⟨rfl, rfl⟩
    go_wp2
    go_ret2
    exact ⟨rfl, rfl⟩
set_option maxRecDepth 100000 in
theorem cutp_any (a m : List UInt8) (h : m.length ≤ a.length) (hs : a.length ≤ 100000) (W : World) :
    Calls Tryz.prog 63 #[.string (str a), .string (str m)] W fun e w' => e = .returned (.tuple #[.string (str (if a.take m.length = m then a.drop m.length else a)), .bool (decide (a.take m.length = m))]) ∧ w' = W := by
  have hp := fun w => cut_prefix a m h hs w
  generalize (if a.take m.length = m then a.drop m.length else a) = r at hp ⊢
  generalize decide (a.take m.length = m) = b at hp ⊢
  go_enter Tryz.func63, Tryz.ntmps63
  go_wp2_with fail
  refine (hp _).mono ?_
  rintro e w' ⟨rfl, rfl⟩
  go_wp2
  go_ret2
  exact ⟨rfl, rfl⟩
theorem cutp_no (a m : List UInt8) (h : m.length ≤ a.length) (hs : a.length ≤ 100000) (hm : ¬ a.take m.length = m) (W : World) :
    Calls Tryz.prog 63 #[.string (str a), .string (str m)] W fun e w' => e = .returned (.tuple #[.string (str a), .bool false]) ∧ w' = W := by
  have := cutp_any a m h hs W
  rw [if_neg hm, decide_eq_false hm] at this
  exact this
theorem cutp_yes (a m : List UInt8) (h : m.length ≤ a.length) (hs : a.length ≤ 100000) (hm : a.take m.length = m) (W : World) :
    Calls Tryz.prog 63 #[.string (str a), .string (str m)] W fun e w' => e = .returned (.tuple #[.string (str (a.drop m.length)), .bool true]) ∧ w' = W := by
  have := cutp_any a m h hs W
  rw [if_pos hm, decide_eq_true hm] at this
  exact this
section
variable {W w w1 : World} {own : Nat → Prop} {D B bc fc I lc : Nat} {fo lo : Option Addr} {s y : List UInt8} {most : Int} {lf l fl : List Nat}
/-- the disk on the way -/
abbrev wayD (s : List UInt8) (most : Int) (lf fl : List Nat) : Dk := { x := s, most := most, free := fl, isf := flagsL (s.length / 512) lf, rl := -1, wl := -1, reads := 0, puts := 0 }
/-- within Open: the disk on the way, and the pages found -/
structure OS (W w : World) (own : Nat → Prop) (D B bc : Nat) (fo : Option Addr) (fc I : Nat) (y s : List UInt8) (most : Int) (lf fl l : List Nat) (lo : Option Addr) (lc : Nat) : Prop where
  at_ : DiskAt w own D B bc fo fc I (s.length / 512) y (wayD s most lf fl)
  row : (lo = none ∧ l = [] ∧ lc = 0) ∨ ∃ g, lo = some ⟨g, 0, none⟩ ∧ Row w g lc (ints l) ∧ ¬ own g ∧ W.heap.size ≤ g
  bel : Below W.heap.size W w
  low : ∀ k, own k → W.heap.size ≤ k
  bnd : ∀ k, own k → k < w.heap.size
theorem OS.next (h : OS W w own D B bc fo fc I y s most lf fl l lo lc) (hb : Below w.heap.size w w1) : OS W w1 own D B bc fo fc I y s most lf fl l lo lc := by
  refine ⟨h.at_.below hb, ?_, h.bel.trans (hb.mono h.bel.size), h.low, fun k hk => Nat.lt_of_lt_of_le (h.bnd k hk) hb.size⟩
  rcases h.row with h0 | ⟨g, e, r, n1, n2⟩
  · exact .inl h0
  · exact .inr ⟨g, e, r.below hb r.lt, n1, n2⟩
/-- a page's owner bytes -/
theorem OS.look (h : OS W w own D B bc fo fc I y s most lf fl l lo lc) (p : Nat) (hp : 512 * (p + 1) ≤ s.length) (hs : s.length ≤ 100000000) :
    Calls Tryz.prog 62 #[.pointer (some ⟨D, 0, none⟩), .int .i64 p] w fun e w' => e = .returned (.tuple #[.string (str (lookL s p)), .bool (okB s p)]) ∧ OS W w' own D B bc fo fc I y s most lf fl l lo lc := by
  have hpre := loadL_pre h.at_ p hp
  have hle := h.at_.le
  have hyl := h.at_.ylen
  refine (look_any h.at_.bytes s.length bc p (h.at_.cells.at' 0 _ rfl) (by rw [hyl]; exact hle) hle hs hp h.at_.tab).mono ?_
  rintro e w' ⟨rfl, hb⟩
  refine ⟨?_, h.next hb⟩
  rw [hpre.1, hpre.2]
theorem OS.word (h : OS W w own D B bc fo fc I y s most lf fl l lo lc) (v : UInt32) :
    Calls Tryz.prog 64 #[.int .u32 v.toNat] w fun e w' => e = .returned (.string (str (putL v))) ∧ OS W w' own D B bc fo fc I y s most lf fl l lo lc := (word_any v w).mono fun _ _ ⟨a, b⟩ => ⟨a, h.next b⟩
/-- a page's flag is set -/
theorem OS.flag (h : OS W w own D B bc fo fc I y s most lf fl l lo lc) (p : Nat) (hp : p < s.length / 512) : OS W (w.setCell ⟨I, p, none⟩ (.bool true)) own D B bc fo fc I y s most (lf ++ [p]) fl l lo lc := by
  have h1 := h.at_.flagTo p true (by rw [flagsL_length]; exact hp)
  have o := (Only.refl I w).set p (.bool true)
  refine ⟨?_, ?_, h.bel.setCell (h.low _ h.at_.oI) _, h.low, fun k hk => Nat.lt_of_lt_of_le (h.bnd k hk) o.size⟩
  · simp only [wayD] at h1 ⊢
    rw [flagsL_set] at h1
    exact h1
  · rcases h.row with h0 | ⟨g, e, r, n1, n2⟩
    · exact .inl h0
    · exact .inr ⟨g, e, r.only o (fun e2 => n1 (e2 ▸ h.at_.oI)), n1, n2⟩
set_option maxRecDepth 100000 in
/-- a page more is found -/
theorem OS.push (h : OS W w own D B bc fo fc I y s most lf fl l lo lc) (ht : TabAt W) (p : Nat) (hl : l.length ≤ 60000) :
    ∃ g' c' w', (Builtin.append_ #[100, 100] 100 #[.slice lo l.length lc, .slice (some ⟨w.heap.size, 0, none⟩) 1 1]).run Tryz.prog (w.alloc (.cells #[.int .i64 (p : Int)] 3)) = .ok (.slice (some ⟨g', 0, none⟩) (l.length + 1) c') w' ∧ OS W w' own D B bc fo fc I y s most lf fl (l ++ [p]) (some ⟨g', 0, none⟩) c' := by
  have ha : (lo = none ∧ ints l = [] ∧ lc = 0) ∨ ∃ g, lo = some ⟨g, 0, none⟩ ∧ Row w g lc (ints l) := by
    rcases h.row with ⟨a, b, c⟩ | ⟨F, e, r, _⟩
    · exact .inl ⟨a, by rw [b]; rfl, c⟩
    · exact .inr ⟨F, e, r⟩
  obtain ⟨g', c', W', e, r, o, hg⟩ := UK.push_one (P := Tryz.prog) (t := 100) (ty := 100) Tryz.underlying100 (i := Tryz.t3) rfl rfl rfl (show (8 : Nat) ≤ 16 by omega) rfl ha (.int .i64 (p : Int)) rfl (by rw [ints_length]; omega)
  rw [ints_length] at e
  have hn : ¬ own g' ∧ W.heap.size ≤ g' := by
    rcases hg with hg | hg
    · rcases h.row with ⟨a, _⟩ | ⟨F, e2, _, n1, n2⟩
      · rw [a] at hg; cases hg
      · rw [e2] at hg
        obtain rfl : F = g' := congrArg Addr.block (Option.some.inj hg)
        exact ⟨n1, n2⟩
    · exact ⟨fun hk => by have := h.bnd _ hk; omega, Nat.le_trans h.bel.size hg⟩
  have htl := ht.lt
  refine ⟨g', c', W', e, h.at_.only o hn.1 (by omega), .inr ⟨g', rfl, by unfold ints at *; rw [List.map_append]; exact r, hn.1, hn.2⟩, h.bel.trans (o.below h.bel.size hn.2), h.low, fun k hk => Nat.lt_of_lt_of_le (h.bnd k hk) o.size⟩
set_option maxRecDepth 100000 in
/-- a free page more -/
theorem OS.free (h : OS W w own D B bc fo fc I y s most lf fl l lo lc) (p : Nat) (hl : fl.length ≤ 60000) :
    ∃ g' c' w', (Builtin.append_ #[100, 100] 100 #[.slice fo fl.length fc, .slice (some ⟨w.heap.size, 0, none⟩) 1 1]).run Tryz.prog (w.alloc (.cells #[.int .i64 (p : Int)] 3)) = .ok (.slice (some ⟨g', 0, none⟩) (fl.length + 1) c') w' ∧ w'.cell? ⟨D, 2, none⟩ = some (.slice fo fl.length fc) ∧ w'.frozen? ⟨D, 2, none⟩ = false ∧
      OS W (w'.setCell ⟨D, 2, none⟩ (.slice (some ⟨g', 0, none⟩) (fl.length + 1) c')) (also own g') D B bc (some ⟨g', 0, none⟩) c' I y s most lf (fl ++ [p]) l lo lc := by
  obtain ⟨g', c', w6, e6, r6, o6, k1, k2, k3, k4⟩ := push_free h.at_ p hl
  have h7 := h.at_.freeTo r6 o6 k2 k3 k4 k1
  have hgW : W.heap.size ≤ g' := by
    rcases k1 with k1 | k1
    · exact h.low _ k1
    · exact Nat.le_trans h.bel.size k1
  rw [List.length_append, List.length_singleton] at h7
  refine ⟨g', c', w6, e6, (h.at_.cells.only o6 k2.symm).at' 2 _ rfl, (h.at_.cells.only o6 k2.symm).free 2 (by omega), h7, ?_, (h.bel.trans (o6.below h.bel.size hgW)).setCell (h.low _ h.at_.oD) _, fun k hk => ?_, fun k hk => ?_⟩
  · rcases h.row with h0 | ⟨g, e, r, n1, n2⟩
    · exact .inl h0
    · have hgg : g ≠ g' := fun e2 => by
        rcases k1 with k1 | k1
        · exact n1 (e2 ▸ k1)
        · have := r.lt; omega
      have hgD : g ≠ D := fun e2 => n1 (e2 ▸ h.at_.oD)
      exact .inr ⟨g, e, (r.only o6 hgg).only ((Only.refl D w6).set 2 _) hgD, fun hh => by
        rcases hh with hh | hh
        · exact n1 hh
        · exact hgg hh, n2⟩
  · rcases hk with hk | rfl
    · exact h.low k hk
    · exact hgW
  · have hsz : (w6.setCell ⟨D, 2, none⟩ (.slice (some ⟨g', 0, none⟩) (fl.length + 1) c')).heap.size = w6.heap.size := by simp [World.setCell]
    rw [hsz]
    rcases hk with hk | rfl
    · exact Nat.lt_of_lt_of_le (h.bnd k hk) o6.size
    · exact r6.lt
/-- the new disk, its bytes and flags laid -/
theorem OS.start {own0 : Nat → Prop} {B0 bc0 I0 ic0 : Nat} {y0 : List UInt8} {pages : Int} (ht : TabAt W) (h : DiskAt w own0 D B0 bc0 fo fc I0 ic0 y0 (newD pages)) (hb : Below W.heap.size W w) (hlow : ∀ k, own0 k → W.heap.size ≤ k)
    (cap : Nat) (o : Obj) (hcap : s.length ≤ cap) (hy : BytesAt (w.drew.alloc o) w.heap.size y) (hyl : y.length = cap) (hpre : y.take s.length = s) (v0 v3 : Value)
    (hv0 : v0 = .slice (some ⟨w.heap.size, 0, none⟩) s.length cap) (hv3 : v3 = .slice (some ⟨w.heap.size + 1, 0, none⟩) (s.length / 512) (s.length / 512)) :
    ∃ own, OS W (((((w.setCell ⟨D, 0, none⟩ v0).setCell ⟨D, 3, none⟩ v3).setCell ⟨D, 7, none⟩ (.int .i64 0)).alloc o).alloc (.cells (madeCells #[.bool false] (s.length / 512)) 4)).drew own D w.heap.size cap fo fc (w.heap.size + 1) y s (clampD pages) [] [] [] none 0 := by
  subst hv0 hv3
  have hst := newD_still pages
  have hfr : (newD pages).free = [] := hst.free
  have r4 := ((h.cells.set 0 (.slice (some ⟨w.heap.size, 0, none⟩) s.length cap) (by show 0 < 8; omega)).set 3 (.slice (some ⟨w.heap.size + 1, 0, none⟩) (s.length / 512) (s.length / 512)) (by show 3 < 8; omega)).set 7 (.int .i64 0) (by show 7 < 8; omega)
  have o3 := (((Only.refl D w).set 0 (.slice (some ⟨w.heap.size, 0, none⟩) s.length cap)).set 3 (.slice (some ⟨w.heap.size + 1, 0, none⟩) (s.length / 512) (s.length / 512))).set 7 (.int .i64 0)
  have hfo : fo = none ∧ fc = 0 ∨ ∃ F, fo = some ⟨F, 0, none⟩ ∧ Row w F fc [] ∧ F ≠ D ∧ own0 F := by
    rcases h.freeAt with ⟨a, _, c⟩ | ⟨F, e, r, n1, _, _, n4⟩
    · exact .inl ⟨a, c⟩
    · rw [hfr] at r; exact .inr ⟨F, e, r, n1, n4⟩
  have hF : ∀ F, fo = some ⟨F, 0, none⟩ → Row w F fc [] ∧ F ≠ D ∧ own0 F := fun F e => by
    rcases hfo with ⟨a, _⟩ | ⟨F', e', r, n1, n4⟩
    · rw [a] at e; cases e
    · rw [e'] at e
      obtain rfl : F' = F := congrArg Addr.block (Option.some.inj e)
      exact ⟨r, n1, n4⟩
  have q1 := fun F e => (hF F e).1.only o3 (hF F e).2.1
  have t1 := UK.TabAt_only (ht.below hb) o3 (fun e => by have := ht.lt; have := hlow _ h.oD; omega)
  have B1 := ((hb.setCell (p := ⟨D, 0, none⟩) (hlow _ h.oD) (.slice (some ⟨w.heap.size, 0, none⟩) s.length cap)).setCell (p := ⟨D, 3, none⟩) (hlow _ h.oD) (.slice (some ⟨w.heap.size + 1, 0, none⟩) (s.length / 512) (s.length / 512))).setCell (p := ⟨D, 7, none⟩) (hlow _ h.oD) (.int .i64 0)
  have hsz : (((w.setCell ⟨D, 0, none⟩ (.slice (some ⟨w.heap.size, 0, none⟩) s.length cap)).setCell ⟨D, 3, none⟩ (.slice (some ⟨w.heap.size + 1, 0, none⟩) (s.length / 512) (s.length / 512))).setCell ⟨D, 7, none⟩ (.int .i64 0)).heap.size = w.heap.size := by simp [World.setCell]
  generalize ((w.setCell ⟨D, 0, none⟩ (.slice (some ⟨w.heap.size, 0, none⟩) s.length cap)).setCell ⟨D, 3, none⟩ (.slice (some ⟨w.heap.size + 1, 0, none⟩) (s.length / 512) (s.length / 512))).setCell ⟨D, 7, none⟩ (.int .i64 0) = w1 at r4 o3 q1 t1 B1 hsz ⊢
  have y2 : BytesAt (w1.alloc o) w.heap.size y := hy.of_block (by
    have e1 : (w1.alloc o).heap[w1.heap.size]? = some o := by
      show (w1.heap.push _)[w1.heap.size]? = _
      rw [Array.getElem?_push_size]
    have e2 : (w.drew.alloc o).heap[w.drew.heap.size]? = some o := by
      show (w.drew.heap.push _)[w.drew.heap.size]? = _
      rw [Array.getElem?_push_size]
    rw [hsz] at e1
    exact e1.trans e2.symm)
  have s2 : (w1.alloc o).heap.size = w.heap.size + 1 := by simp [hsz]
  have B2 := B1.alloc B1.size o
  have b2 : Below w1.heap.size w1 (w1.alloc o) := (Below.refl _ _).alloc (Nat.le_refl _) _
  have hDlt := h.cells.lt
  have r5 := r4.below b2 (by omega)
  have q2 := fun F e => (q1 F e).below b2 (q1 F e).lt
  have t2 := t1.below b2
  generalize w1.alloc o = w2 at r5 q2 t2 y2 s2 B2 ⊢
  have i2 := UK.row_new w2 (madeCells #[.bool false] (s.length / 512)) 4
  rw [s2, size_madeCells, toList_madeCells_one] at i2
  have b3 : Below w2.heap.size w2 (w2.alloc (.cells (madeCells #[.bool false] (s.length / 512)) 4)).drew := ((Below.refl _ _).alloc (Nat.le_refl _) _).drew
  have B3 := (B2.alloc B2.size (.cells (madeCells #[.bool false] (s.length / 512)) 4)).drew
  have i3 := i2.drewN 1
  have r6 := r5.below b3 (by omega)
  have q3 := fun F e => (q2 F e).below b3 (q2 F e).lt
  have t3 := t2.below b3
  have y3 := y2.below b3 (by omega)
  have s3 : (w2.alloc (.cells (madeCells #[.bool false] (s.length / 512)) 4)).drew.heap.size = w.heap.size + 2 := by
    show (w2.alloc _).heap.size = _
    simp [s2]
  have i4 : Row (w2.alloc (.cells (madeCells #[.bool false] (s.length / 512)) 4)).drew (w.heap.size + 1) (s.length / 512) (List.replicate (s.length / 512) (.bool false)) := i3
  clear i2 i3
  generalize (w2.alloc (.cells (madeCells #[.bool false] (s.length / 512)) 4)).drew = w3 at r6 y3 i4 B3 t3 s3 q3 ⊢
  have htl := ht.lt
  have hWD := hlow _ h.oD
  have hWw := hb.size
  have hF2 : ∀ F, fo = some ⟨F, 0, none⟩ → F < w.heap.size ∧ F ≠ D ∧ W.heap.size ≤ F := fun F e => ⟨(hF F e).1.lt, (hF F e).2.1, hlow _ (hF F e).2.2⟩
  refine ⟨fun k => k = D ∨ k = w.heap.size ∨ k = w.heap.size + 1 ∨ fo = some ⟨k, 0, none⟩, ⟨?_, y3, hyl, hcap, hpre, ?_, ?_, by omega, by omega, by omega, .inl rfl, .inr (.inl rfl), .inr (.inr (.inl rfl)), t3, ?_⟩, .inl ⟨rfl, rfl, rfl⟩, ?_, ?_, ?_⟩
  · have e1 : (((((newD pages).vals B0 bc0 fo fc I0 ic0).set 0 (.slice (some ⟨w.heap.size, 0, none⟩) s.length cap)).set 3 (.slice (some ⟨w.heap.size + 1, 0, none⟩) (s.length / 512) (s.length / 512))).set 7 (.int .i64 0)) = (wayD s (clampD pages) [] []).vals w.heap.size cap fo fc (w.heap.size + 1) (s.length / 512) := by
      simp [Dk.vals, hfr, hst.most, hst.wl, newD_rl, newD_reads, flagsL_length]
    rw [e1] at r6
    exact r6
  · rcases hfo with ⟨a, c⟩ | ⟨F, e, r, n1, n4⟩
    · exact .inl ⟨a, rfl, c⟩
    · refine .inr ⟨F, e, ?_, n1, by have := (hF2 F e).1; omega, by have := (hF2 F e).1; omega, .inr (.inr (.inr e))⟩
      exact q3 F e
  · show Row _ _ _ (bools (flagsL (s.length / 512) []))
    rw [flagsL_nil]
    simpa [bools] using i4
  · rintro (e | e | e | e)
    · omega
    · omega
    · omega
    · have := (hF2 _ e).2.2; omega
  · exact B3
  · rintro k (rfl | rfl | rfl | e)
    · exact hWD
    · exact hWw
    · omega
    · exact (hF2 _ e).2.2
  · rintro k (rfl | rfl | rfl | e)
    · omega
    · omega
    · omega
    · have := (hF2 _ e).1; omega
end
end Go.Proofs.YtjfkdfffolkblaaGreatDoor
namespace Go.Proofs.YtjfkdfffolkblaaGreatDoor
open Go.RowKit
open UK (str BytesAt nth Only w32 Row)
open Go.BigFrame
/-- an append in a region that draws, by its run -/
theorem UK.step_append_run2 {P : Program} {t tx ty : TypeId} {sv xv v' : Value} {w w' : World} (hr : (Builtin.append_ #[t, tx] ty #[sv, xv]).run P w = .ok v' w') {ops : Array Oper} {o : Oper} {a : Act} {K : Act → World → Prop} {Q : Exit → Act → World → Prop} {E : Prop} {s x : Operand}
    (hg : o.guard = none) (hop : o.op = Op.call { callee := Callee.builtin Builtin.append, args := #[s, x], argTypes := #[t, tx] }) (hty : o.type = ty) (hs : a.eval s = sv) (hx : a.eval x = xv) (hK : K (a.put o.dst v') w') :
    if Region.wanted o (yielded ops a.tmps) = true then Oper.wp P o a w K Q else E := by
  have hw : Region.wanted o (yielded ops a.tmps) = true := by simp [Region.wanted, hg]
  rw [if_pos hw]
  subst hty
  unfold Oper.wp
  simp [execOp, hop, resolve, invoke, builtin, hs, hx, hr, Result.andThen]
  exact hK
theorem UK.calls_world {P : Program} {f : FuncId} {args : Array Value} {w : World} {Q : Ending → World → Prop} (R : World → Prop) (hR : R w) (h : ∀ w', R w' → Calls P f args w' Q) : Calls P f args w Q := h w hR
theorem clamp_cases (p : Int) : (p < 2 ∧ clampD p = 2) ∨ (60000 < p ∧ clampD p = 60000) ∨ (2 ≤ p ∧ p ≤ 60000 ∧ clampD p = p) := by
  unfold clampD; omega
section
variable {W : World}
set_option maxRecDepth 100000 in
/-- bytes that can't be a disk's -/
theorem open_no (s : List UInt8) (pages : Int) (hs : s.length ≤ 100000000) (hb : s.length / 512 < 1 ∨ s.length % 512 ≠ 0 ∨ clampD pages < (s.length / 512 : Nat)) :
    Calls Tryz.prog 20 #[.string (str s), .int .i64 pages] W fun e w' => e = .returned (.tuple #[.pointer none, .int .i64 3]) ∧ w' = W := by
  obtain ⟨n, hn⟩ : ∃ n, s.length / 512 = n := ⟨_, rfl⟩
  have e1 : ((s.length : Nat) : Int) / 512 = (n : Int) := by omega
  rw [hn] at hb
  by_cases h1 : n < 1
  · obtain rfl : n = 0 := by omega
    clear hb hn h1
    go_enter Tryz.func20, Tryz.ntmps20
    go_wp2
    go_ret2
    exact ⟨rfl, rfl⟩
  · by_cases h2 : s.length % 512 = 0
    · have h3 : clampD pages < n := by rcases hb with h | h | h <;> omega
      have hn60 : n ≤ 200000 := by omega
      have e2 : ((s.length : Nat) : Int) % 512 = 0 := by omega
      have hcl := clamp_cases pages
      clear hb hn h2
      rcases hcl with ⟨a, b⟩ | ⟨a, b⟩ | ⟨a, c, b⟩
      all_goals
        rw [b] at h3
        clear b
        have h4 : ¬ (n : Int) < 1 := by omega
        clear h1
        go_enter Tryz.func20, Tryz.ntmps20
        go_wp2
        go_ret2
        exact ⟨rfl, rfl⟩
    · have e2 : (((s.length : Nat) : Int) % 512 != 0) = true := by rw [bne_iff_ne]; omega
      have e3 : (((s.length : Nat) : Int) % 512 == 0) = false := beq_eq_false_iff_ne.2 (by omega)
      have h4 : ¬ (n : Int) < 1 := by omega
      clear hb hn h1 h2
      go_enter Tryz.func20, Tryz.ntmps20
      go_wp2
      go_ret2
      exact ⟨rfl, rfl⟩
def slen : Value → Nat
  | .slice _ n _ => n
  | _ => 0
/-- within Open, ahead of the free pages -/
def OpnFound (W w : World) (own : Nat → Prop) (D B bc : Nat) (fo : Option Addr) (fc I : Nat) (y s : List UInt8) (pages : Int) (n : Nat) (lv pv : Value) : Prop :=
  ∃ (l : List Nat) (lo : Option Addr) (lc : Nat) (p : List UInt8), lv = .slice lo l.length lc ∧ pv = .string (str p) ∧ Hid (p.length = 4) ∧ OS W w own D B bc fo fc I y s (clampD pages) l [] l lo lc ∧ OnWay n l ∧ Hid (openR s pages = chain s n (n + 1 - l.length) l p)
/-- within Open, the free pages laid -/
def Laid (W w : World) (D B bc I : Nat) (y s : List UInt8) (pages : Int) (l : List Nat) (lo : Option Addr) (lc : Nat) (iv : Value) : Prop :=
  ∃ (i : Int) (own : Nat → Prop) (fo : Option Addr) (fc : Nat) (fl : List Nat), iv = .int .i64 i ∧ -1 ≤ i ∧ i < l.length ∧ Hid (fl = (l.drop (i + 1).toNat).reverse) ∧ OS W w own D B bc fo fc I y s (clampD pages) l fl l lo lc
theorem u32_of {w : World} {g : Nat} {p r : List UInt8} (h : BytesAt w g (p ++ r)) (hp : p.length = 4) (c : Nat) :
    Calls Tryz.prog 65 #[.slice (some ⟨g, 0, none⟩) p.length c] w fun e w' => e = .returned (.int .u32 (wordN p : Nat)) ∧ Below w.heap.size w w' := by
  have := get_u32 h 0 p.length c (by omega) (by rw [List.length_append]; omega)
  rw [List.drop_zero, List.take_append_of_le_length (by omega), List.take_of_length_le (by omega)] at this
  exact this
theorem wordN_lt (p : List UInt8) : wordN p < 4294967296 := (getL p).toNat_lt
/-- behind Open of bytes that are a disk's -/
def Opened (W w' : World) (s : List UInt8) (pages : Int) (e : Ending) : Prop :=
  ((openR s pages).1 = 0 ∧ ∃ own D, e = .returned (.tuple #[.pointer (some ⟨D, 0, none⟩), .int .i64 0]) ∧ Disk w' own D (openD s pages) ∧ (∀ k, own k → W.heap.size ≤ k ∧ k < w'.heap.size) ∧ Below W.heap.size W w') ∨
  ((openR s pages).1 ≠ 0 ∧ e = .returned (.tuple #[.pointer none, .int .i64 (openR s pages).1]) ∧ Below W.heap.size W w')
set_option maxHeartbeats 4000000 in
set_option maxRecDepth 100000 in
theorem open_any (s : List UInt8) (pages : Int) (W : World) (ht : TabAt W) (n : Nat) (hn : s.length = 512 * n) (h1 : 1 ≤ n) (h3 : (n : Int) ≤ clampD pages) :
    Calls Tryz.prog 20 #[.string (str s), .int .i64 pages] W fun e w' => Opened W w' s pages e := by
  have hcl := clamp_cases pages
  have hn60 : n ≤ 60000 := by rcases hcl with h | h | h <;> omega
  have hdiv : s.length / 512 = n := by omega
  have e1 : ((s.length : Nat) : Int) / 512 = (n : Int) := by omega
  have e2 : ((s.length : Nat) : Int) % 512 = 0 := by omega
  have h4 : ¬ (n : Int) < 1 := by omega
  have HN := Lib.hid hn
  have HDIV := Lib.hid hdiv
  have HH3 := Lib.hid h3
  have HCL := Lib.hid hcl
  have hnew := new_any W pages ht
  clear hdiv hn hcl h3
  go_enter Tryz.func20, Tryz.ntmps20
  go_upto_region 2 with (fail)
  go_cut [34] (fun c wx => c = .bool false ∧ W = wx)
  case first =>
    rcases HCL.out with ⟨a, b⟩ | ⟨a, b⟩ | ⟨a, c, b⟩
    all_goals
      have h3 := HH3.out
      rw [b] at h3
      clear b
      go_wp2
      go_meet
      case rel => exact ⟨congrArg Value.bool (decide_eq_false (by omega)), rfl⟩
  case rest =>
    obtain ⟨rfl, rfl⟩ := hcut
    clear e1 e2 h4
    go_wp2_with fail
    refine hnew.mono ?_
    rintro e w1 ⟨rfl, ⟨B0, bc0, fo, fc, I0, ic0, y0, hd⟩, hb⟩
    obtain ⟨cap, o, hcap, hcv, hy⟩ := UK.run_bytes (P := Tryz.prog) (src := 9) (dst := 92) Tryz.underlying9 Tryz.underlying92 Tryz.underlying5 w1 s
    have hmk := run_make_row (P := Tryz.prog) 103 4 Tryz.t4 (.bool false) Tryz.underlying103 rfl rfl rfl rfl .i64 .i64 n (show 1 * n ≤ 281474976710656 by omega) (by omega)
    have c0 := hd.cells.at' 0 _ rfl
    have c3 := hd.cells.at' 3 _ rfl
    have c7 := hd.cells.at' 7 _ rfl
    have f0 := hd.cells.free 0 (by omega)
    have f3 := hd.cells.free 3 (by omega)
    have f7 := hd.cells.free 7 (by omega)
    have hlt := hd.cells.lt
    obtain ⟨own, hst⟩ := OS.start (s := s) (pages := pages) ht hd hb (fun k hk => hk) cap o hcap hy (by rw [List.length_append, List.length_replicate]; omega) (by rw [List.take_left']; rfl) _ _ rfl rfl
    rw [HDIV.out] at hst
    have HS := Lib.hid hst
    clear hst hy hnew
    go_wp2_with fail
    refine UK.calls_world (fun w' => ∃ own B bc fo fc I y, OS W w' own W.heap.size B bc fo fc I y s (clampD pages) [] [] [] none 0) ⟨own, _, _, _, _, _, _, HS.out⟩ ?_
    clear HS hd c0 c3 c7 f0 f3 f7 hcv hmk hlt hcap hb
    rintro w4 ⟨own, B, bc, fo, fc, I, y, h4⟩
    have hs1 : s.length ≤ 100000000 := by have := HN.out; omega
    have hs2 : 512 * (0 + 1) ≤ s.length := by have := HN.out; omega
    have HOR : Hid (openR s pages = if okB s 0 = false then (8, []) else if (loadL s 0).take 8 ≠ magicL ∨ ((loadL s 0).drop 8).take 4 ≠ putL (w32 n) then (3, []) else chain s n (n + 1) [] (((loadL s 0).drop 12).take 4)) := by
      show _ = _
      unfold openR
      rw [HDIV.out, if_neg (by have := HN.out; have := HH3.out; omega)]
    have hl := h4.look 0 hs2 hs1
    have hll : (loadL s 0).length = 504 := by unfold loadL; rw [List.length_take, List.length_drop]; omega
    by_cases hok : okB s 0 = false
    · have HE : Hid (openR s pages = (8, [])) := by show _ = _; rw [HOR.out, if_pos hok]
      rw [hok, lookL_no hok] at hl
      refine hl.mono ?_
      rintro e w5 ⟨rfl, h5⟩
      clear hl hok HOR
      go_wp2
      go_ret2
      exact .inr ⟨by rw [HE.out]; decide, by rw [HE.out] <;> rfl, h5.bel⟩
    · have hok2 : okB s 0 = true := by simpa using hok
      rw [hok2, lookL_yes hok2] at hl
      rw [if_neg hok] at HOR
      refine hl.mono ?_
      rintro e w5 ⟨rfl, h5⟩
      clear hl hok hok2 h4
      generalize loadL s 0 = head at hll HOR ⊢
      by_cases hm : head.take 8 = magicL
      · have hcp := fun w => cutp_yes head [84, 65, 66, 85, 76, 65, 82, 49] (by rw [hll]; decide) (by omega) hm w
        have hd8 : head.drop (List.length ([84, 65, 66, 85, 76, 65, 82, 49] : List UInt8)) = head.drop 8 := rfl
        rw [hd8] at hcp
        have HOR2 : Hid (openR s pages = if (head.drop 8).take 4 ≠ putL (w32 n) then (3, []) else chain s n (n + 1) [] (((head.drop 8).take 8).drop 4)) := by
          show _ = _
          rw [HOR.out]
          have e8 : (head.drop 12).take 4 = ((head.drop 8).take 8).drop 4 := by rw [List.drop_take, List.drop_drop]
          rw [e8]
          by_cases hw : (head.drop 8).take 4 = putL (w32 n)
          · rw [if_neg (by rintro (a | a); exact a hm; exact a hw), if_neg (by simpa using hw)]
          · rw [if_pos (.inr hw), if_pos hw]
        have hrl : (head.drop 8).length = 496 := by rw [List.length_drop, hll]
        clear HOR hm hd8
        go_wp2_with fail
        refine (hcp _).mono ?_
        clear hcp hll
        generalize head.drop 8 = rest at hrl HOR2 ⊢
        rintro e w6 ⟨rfl, rfl⟩
        have hwn := fun k : UK.Kept (fun w' => OS W w' own W.heap.size B bc fo fc I y s (clampD pages) [] [] [] none 0) => k.h.word (w32 n)
        rw [show ((w32 n).toNat : Int) = n by rw [← UK.w32_is n]; omega] at hwn
        haveI : Nonempty (UK.Kept fun w' => OS W w' own W.heap.size B bc fo fc I y s (clampD pages) [] [] [] none 0) := ⟨⟨_, h5⟩⟩
        have HW := Lib.hid hwn
        clear hwn
        by_cases hwq : rest.take 4 = putL (w32 n)
        · obtain ⟨p0, HP0⟩ : ∃ p0, Hid ((rest.take 8).drop 4 = p0) := ⟨_, rfl⟩
          have HE : Hid (openR s pages = chain s n (n + 1) [] p0) := by show _ = _; rw [HOR2.out, if_neg (by simpa using hwq), HP0.out]
          have hp0 : p0.length = 4 := by rw [← HP0.out, List.length_drop, List.length_take, hrl]; decide
          have hb1 : (rest.take 4 == putL (w32 n)) = true := beq_iff_eq.2 hwq
          clear HOR2 hwq
          generalize putL (w32 n) = wn at HW hb1
          go_wp2_with fail
          refine UK.wp_region_kept (fun w' => OS W w' own W.heap.size B bc fo fc I y s (clampD pages) [] [] [] none 0) (by kernel_rfl) (by kernel_rfl) (h5.next (Below.refl _ _).drew) ?_
          repeat (go_big_quiet_step (exact UK.kept_of (HW.out _) (fun _ _ hh => hh)))
          refine wpQuiet_nil ?_
          rintro ⟨w8, h8⟩
          clear HW hb1 h5
          have HP1 := Lib.hid hp0
          clear hp0
          go_wp2_with fail
          go_loopw [11, 12] (fun lv pv wr => OpnFound W wr own W.heap.size B bc fo fc I y s pages n lv pv) (fun lv _ _ => n + 1 - slen lv)
          case atStart => exact ⟨[], none, 0, p0, rfl, by rw [HP0.out], HP1, h8, OnWay.nil n, HE⟩
          case round =>
            obtain ⟨l, lo, lc, p, rfl, rfl, HP4, hl, how, HC⟩ := hrel
            have hfew := how.few h1
            have hwd := hl.word (w32 4294967295)
            rw [show ((w32 4294967295).toNat : Int) = 4294967295 from rfl] at hwd
            obtain ⟨en, HEN⟩ : ∃ en, Hid (putL (w32 4294967295) = en) := ⟨_, rfl⟩
            rw [HEN.out] at hwd
            clear h8
            by_cases hpe : p = en
            · have HC2 : Hid (openR s pages = (0, l)) := HC.out.trans (chain_end s n (n + 1) l p (by omega) (hpe.trans HEN.out.symm))
              have hb1 : (p == en) = true := beq_iff_eq.2 hpe
              clear hpe HC
              go_wp2_with fail
              refine hwd.mono ?_
              rintro e w9 ⟨rfl, h9⟩
              clear hwd hl
              go_wp2_with fail
              go_loopw [16] (fun iv wr => Laid W wr W.heap.size B bc I y s pages l lo lc iv) (fun iv _ => (intOf iv + 1).toNat)
              case atStart => exact ⟨_, own, fo, fc, [], rfl, by omega, by omega, by show [] = _; rw [show ((l.length : Int) - 1 + 1).toNat = l.length by omega, List.drop_length]; rfl, h9⟩
              case round =>
                clear h9
                obtain ⟨i, own', fo', fc', fl, rfl, hi1, hi2, HF, h9⟩ := hrel
                by_cases hi0 : 0 ≤ i
                · obtain ⟨k, rfl⟩ : ∃ k : Nat, i = k := ⟨i.toNat, by omega⟩
                  have hkl : k < l.length := by omega
                  have hfl : fl.length ≤ 60000 := by rw [HF.out, List.length_reverse, List.length_drop]; omega
                  rcases h9.row with ⟨_, hl0, _⟩ | ⟨g, rfl, r, n1, n2⟩
                  · rw [hl0] at hkl; exact absurd hkl (Nat.not_lt_zero _)
                  · have ck := r.at' k _ (ints_at l k hkl)
                    have h10 := h9.next (Below.refl _ _).drew
                    obtain ⟨g', c', w14, e14, c2, f2, h14⟩ := h10.free (l.getD k 0) hfl
                    have HG : Hid (fl ++ [l.getD k 0] = (l.drop k).reverse) := by
                      show _ = _
                      rw [HF.out, show ((k : Int) + 1).toNat = k + 1 by omega, List.getD_eq_getElem?_getD, List.getElem?_eq_getElem hkl]
                      rw [List.drop_eq_getElem_cons hkl, List.reverse_cons]
                      rfl
                    have d2 := h9.at_.cells.at' 2 _ rfl
                    have d2' := (h9.next ((Below.refl _ _).alloc (Nat.le_refl _) (.cells #[.int .i64 ((l.getD k 0 : Nat) : Int)] 3))).at_.cells.at' 2 _ rfl
                    generalize l.getD k 0 = q at ck e14 h14 HG d2'
                    have e15 : (Builtin.append_ #[100, 100] 100 #[.slice fo' fl.length fc', .slice (some ⟨wr.heap.size, 0, none⟩) 1 1]).run Tryz.prog (wr.alloc (.cells #[.int .i64 (q : Int)] 3)).drew = .ok (.slice (some ⟨g', 0, none⟩) (fl.length + 1) c') w14 := e14
                    clear e14
                    go_wp2_with fail
                    go_region_law (refine UK.step_append_run2 e15 rfl rfl rfl (by simp [Act.eval]) (by simp [Act.eval]) ?_)
                    all_goals
                      clear d2 d2' ck c2 f2 e15 h10 h9 r n1 n2
                      go_wp2
                      go_roundw
                      case rel => exact ⟨(k : Int) - 1, _, _, _, _, rfl, by omega, by omega, by show _ = _; rw [show ((k : Int) - 1 + 1).toNat = k by omega]; exact HG.out, h14⟩
                      case measure => simp [intOf]
                · obtain rfl : i = -1 := by omega
                  have HF2 : Hid (fl = l.reverse) := by show _ = _; rw [HF.out]; rfl
                  clear hi0 hi1 hi2
                  go_wp2
                  go_ret2
                  refine .inl ⟨by rw [HC2.out], own', W.heap.size, rfl, ⟨B, bc, fo', fc', I, s.length / 512, y, ?_⟩, fun k hk => ⟨h9.low k hk, h9.bnd k hk⟩, h9.bel⟩
                  have := h9.at_
                  unfold openD
                  rw [HC2.out]
                  rw [HF2.out] at this
                  exact this
            · have hb1 : (p == en) = false := beq_eq_false_iff_ne.2 hpe
              have HPE : Hid (p ≠ putL (w32 4294967295)) := fun e => hpe (e.trans HEN.out)
              clear hpe
              go_wp2_with fail
              refine hwd.mono ?_
              rintro e w9 ⟨rfl, h9⟩
              clear hwd hl
              obtain ⟨cap9, o9, _, hcv9, hy9⟩ := UK.run_bytes (P := Tryz.prog) (src := 9) (dst := 92) Tryz.underlying9 Tryz.underlying92 Tryz.underlying5 w9 p
              have h10 := h9.next (((Below.refl _ _).drew).alloc (Nat.le_refl _) o9)
              have HU := Lib.hid (u32_of hy9 HP4.out cap9)
              have hk32 := wordN_lt p
              obtain ⟨k, HK⟩ : ∃ k, Hid (wordN p = k) := ⟨_, rfl⟩
              rw [HK.out] at HU hk32
              clear hy9
              go_wp2_with fail
              refine HU.out.mono ?_
              rintro e w11 ⟨rfl, b11⟩
              have h11 := h10.next b11
              clear HU hcv9 h9 h10 b11
              have c3 := h11.at_.cells.at' 3 _ rfl
              have hil : (flagsL (s.length / 512) l).length = n := (flagsL_length _ _).trans HDIV.out
              by_cases hbad : k < 1 ∨ n ≤ k ∨ k ∈ l
              · have HC2 : Hid (openR s pages = (3, [])) := HC.out.trans (chain_form s n (n + 1) l p (by omega) HPE.out (by rw [HK.out]; exact hbad))
                have hexit : ∀ w', OS W w' own W.heap.size B bc fo fc I y s (clampD pages) l [] l lo lc → Opened W w' s pages (.returned (.tuple #[.pointer none, .int .i64 3])) := fun w' h' => .inr ⟨by rw [HC2.out]; decide, by rw [HC2.out] <;> rfl, h'.bel⟩
                have HX := Lib.hid hexit
                clear hexit
                by_cases ha : k < 1
                · go_wp2
                  go_ret2
                  exact HX.out _ h11
                · by_cases hb : n ≤ k
                  · go_wp2
                    go_ret2
                    exact HX.out _ h11
                  · have hkl : k ∈ l := by
                      rcases hbad with h | h | h
                      · exact absurd h ha
                      · exact absurd h hb
                      · exact h
                    have hfl := h11.at_.flags.at' k _ (bools_at _ k (by show k < (flagsL (s.length / 512) l).length; omega))
                    have hfb : (flagsL (s.length / 512) l).getD k false = true := by rw [flagsL_get _ _ _ (by rw [HDIV.out]; omega)]; exact decide_eq_true hkl
                    simp only [hfb] at hfl
                    clear hbad hkl hfb
                    go_wp2
                    go_ret2
                    exact HX.out _ h11
              · have ha : 1 ≤ k := by omega
                have hb : k < n := by omega
                have hkl : k ∉ l := fun h => hbad (.inr (.inr h))
                have hfl := h11.at_.flags.at' k _ (bools_at _ k (by show k < (flagsL (s.length / 512) l).length; omega))
                have hfb : (flagsL (s.length / 512) l).getD k false = false := by rw [flagsL_get _ _ _ (by rw [HDIV.out]; omega)]; exact decide_eq_false hkl
                simp only [hfb] at hfl
                have HOW := Lib.hid (how.snoc ha hb hkl)
                have HKL := Lib.hid hkl
                have hlk := h11.look k (by have := HN.out; omega) hs1
                clear hbad hkl hfb
                by_cases hok : okB s k = false
                · have HC2 : Hid (openR s pages = (8, [])) := HC.out.trans (chain_spoil s n (n + 1) l p (by omega) HPE.out (by rw [HK.out]; exact ha) (by rw [HK.out]; exact hb) (by rw [HK.out]; exact HKL.out) (by rw [HK.out]; exact hok))
                  rw [hok, lookL_no hok] at hlk
                  have HLK := Lib.hid hlk
                  clear hlk hok
                  go_wp2_with fail
                  refine HLK.out.mono ?_
                  rintro e w12 ⟨rfl, h12⟩
                  go_wp2
                  go_ret2
                  exact .inr ⟨by rw [HC2.out]; decide, by rw [HC2.out] <;> rfl, h12.bel⟩
                · have hok2 : okB s k = true := by simpa using hok
                  have HC2 : Hid (openR s pages = chain s n (n + 1 - (l ++ [k]).length) (l ++ [k]) (linkL s k)) := by
                    have := chain_step s n (n + 1) l p (by omega) HPE.out (by rw [HK.out]; exact ha) (by rw [HK.out]; exact hb) (by rw [HK.out]; exact HKL.out) (by rw [HK.out]; exact hok2)
                    rw [HK.out] at this
                    exact HC.out.trans this
                  rw [hok2, lookL_yes hok2] at hlk
                  have hll : (loadL s k).length = 504 := by unfold loadL; rw [List.length_take, List.length_drop]; have := HN.out; omega
                  have HLL := Lib.hid hll
                  have HLK := Lib.hid hlk
                  have HNX : Hid ((loadL s k).take 4 = linkL s k) := rfl
                  have hll4 : 4 ≤ (loadL s k).length := by omega
                  generalize loadL s k = g at HLK HNX HLL hll4
                  clear hlk hok hok2 hll
                  go_wp2_with fail
                  refine HLK.out.mono ?_
                  rintro e w12 ⟨rfl, h12⟩
                  clear hfl c3
                  have c3 := h12.at_.cells.at' 3 _ rfl
                  have hile := h12.at_.flags.le
                  have hkc : k < s.length / 512 := by rw [HDIV.out]; exact hb
                  have fp := h12.at_.flags.free k hkc
                  have cp := h12.at_.flags.at' k _ (bools_at _ k (by show k < (flagsL (s.length / 512) l).length; omega))
                  have h13 := h12.flag k hkc
                  obtain ⟨g', c', w14, e14, h14⟩ := h13.push ht k (by omega)
                  rw [show (w12.setCell ⟨I, k, none⟩ (.bool true)).heap.size = w12.heap.size by simp [World.setCell]] at e14
                  clear h12 h13 hile h11 HLK
                  go_wp2_with (at_builtin; refine UK.wpList_append_run e14 rfl rfl rfl rfl rfl ?_)
                  go_roundw
                  case rel => exact ⟨l ++ [k], some ⟨g', 0, none⟩, c', linkL s k, by rw [List.length_append] <;> rfl, by first | rw [HNX.out] | rfl, by show (linkL s k).length = 4; rw [← HNX.out, List.length_take, HLL.out]; decide, h14, HOW.out, HC2⟩
                  case measure => simp [slen]; omega
        · have HE : Hid (openR s pages = (3, [])) := by show _ = _; rw [HOR2.out, if_pos hwq]
          have hb1 : (rest.take 4 == putL (w32 n)) = false := beq_eq_false_iff_ne.2 hwq
          clear HOR2 hwq
          generalize putL (w32 n) = wn at HW hb1
          go_wp2_with fail
          refine UK.wp_region_kept (fun w' => OS W w' own W.heap.size B bc fo fc I y s (clampD pages) [] [] [] none 0) (by kernel_rfl) (by kernel_rfl) (h5.next (Below.refl _ _).drew) ?_
          repeat (go_big_quiet_step (exact UK.kept_of (HW.out _) (fun _ _ hh => hh)))
          refine wpQuiet_nil ?_
          rintro ⟨w8, h8⟩
          go_wp2
          go_ret2
          exact .inr ⟨by rw [HE.out]; decide, by rw [HE.out] <;> rfl, h8.bel⟩
      · have HE : Hid (openR s pages = (3, [])) := by show _ = _; rw [HOR.out, if_pos (.inl hm)]
        have hm2 : ¬ List.take (List.length [84, 65, 66, 85, 76, 65, 82, 49]) head = [84, 65, 66, 85, 76, 65, 82, 49] := hm
        have hcp := fun w => cutp_no head [84, 65, 66, 85, 76, 65, 82, 49] (by rw [hll]; decide) (by omega) hm2 w
        clear hm hm2 HOR
        go_wp2_with fail
        refine (hcp _).mono ?_
        rintro e w6 ⟨rfl, rfl⟩
        go_wp2_with fail
        refine UK.wp_region_kept (fun w' => OS W w' own W.heap.size B bc fo fc I y s (clampD pages) [] [] [] none 0) (by kernel_rfl) (by kernel_rfl) (h5.next (Below.refl _ _).drew) ?_
        haveI : Nonempty (UK.Kept fun w' => OS W w' own W.heap.size B bc fo fc I y s (clampD pages) [] [] [] none 0) := ⟨⟨_, h5⟩⟩
        repeat (go_big_quiet_step (fail))
        refine wpQuiet_nil ?_
        rintro ⟨w8, h8⟩
        go_wp2
        go_ret2
        exact .inr ⟨by rw [HE.out]; decide, by rw [HE.out] <;> rfl, h8.bel⟩
end
end Go.Proofs.YtjfkdfffolkblaaGreatDoor
