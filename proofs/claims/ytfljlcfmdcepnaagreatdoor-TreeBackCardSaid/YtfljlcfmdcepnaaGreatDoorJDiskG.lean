/-
  disk: how a disk turns; Flush. disk.New.
  disk: FailRead, FailWrite, Bytes, Reads, Writes. disk.Read. disk.Write. disk.Give: its short ways.
-/
import Derived.Test.YtfljlcfmdcepnaaGreatDoorJDiskC
import Derived.BigRegion
namespace Go.Proofs.YtfljlcfmdcepnaaGreatDoor
open Go.RowKit
open UK (str BytesAt nth Only w32 Row)
open Go.BigFrame
theorem UK.wr_take (y : List UInt8) (a n : Nat) (s : List UInt8) (h : a + s.length ≤ n) (hn : n ≤ y.length) : (UK.wr y a s).take n = UK.wr (y.take n) a s := by
  unfold UK.wr
  have h1 : (y.take a).length = a := by rw [List.length_take]; omega
  have e1 : (y.take a).take n = y.take a := by rw [List.take_take, Nat.min_eq_right (by omega)]
  have e2 : s.take (n - a) = s := List.take_of_length_le (by omega)
  have e3 : (y.take n).take a = y.take a := by rw [List.take_take, Nat.min_eq_left (by omega)]
  rw [List.take_append, h1, List.take_append, e1, e2, e3, List.drop_take, show n - a - s.length = n - (a + s.length) by omega]
section
variable {W W' : World} {own : Nat → Prop} {D B bc fc I ic cnt : Nat} {fo : Option Addr} {y : List UInt8} {d d' : Dk}
theorem DiskAt.noD (h : DiskAt W own D B bc fo fc I ic y d) : 0 ≠ D := fun e => h.notab (e ▸ h.oD)
theorem DiskAt.noB (h : DiskAt W own D B bc fo fc I ic y d) : 0 ≠ B := fun e => h.notab (e ▸ h.oB)
theorem DiskAt.turnD (h : DiskAt W own D B bc fo fc I ic y d) (hr : Row W' D 8 (d'.vals B bc fo fc I ic)) (ho : Only D W W') (hx : d'.x = d.x) (hf : d'.free = d.free) (hi : d'.isf = d.isf) : DiskAt W' own D B bc fo fc I ic y d' := by
  refine ⟨hr, ho.bytes h.bytes (fun e => h.DB e.symm), h.ylen, by rw [hx]; exact h.le, by rw [hx]; exact h.pre, ?_, by rw [hi]; exact h.flags.only ho (fun e => h.DI e.symm), h.DB, h.DI, h.BI, h.oD, h.oB, h.oI, UK.TabAt_only h.tab ho h.noD, h.notab⟩
  rcases h.freeAt with ⟨a, b, c⟩ | ⟨F, e, r, n1, n2, n3, n4⟩
  · exact .inl ⟨a, by rw [hf]; exact b, c⟩
  · exact .inr ⟨F, e, by rw [hf]; exact r.only ho n1, n1, n2, n3, n4⟩
theorem DiskAt.turnB (h : DiskAt W own D B bc fo fc I ic y d) (a : Nat) (s : List UInt8) (hb : BytesAt W' B (UK.wr y a s)) (ho : Only B W W') (hs : a + s.length ≤ d.x.length) : DiskAt W' own D B bc fo fc I ic (UK.wr y a s) { d with x := UK.wr d.x a s } := by
  have hle := h.le
  have hyl := h.ylen
  have hl := UK.wr_length d.x a s hs
  refine ⟨?_, hb, by rw [UK.wr_length _ _ _ (by omega)]; exact hyl, by show (UK.wr d.x a s).length ≤ _; omega, ?_, ?_, h.flags.only ho (fun e => h.BI e.symm), h.DB, h.DI, h.BI, h.oD, h.oB, h.oI, UK.TabAt_only h.tab ho h.noB, h.notab⟩
  · have := h.cells.only ho h.DB
    unfold Dk.vals at this ⊢
    show Row W' D 8 [.slice (some ⟨B, 0, none⟩) (UK.wr d.x a s).length bc, _, _, _, _, _, _, _]
    rw [hl]
    exact this
  · show (UK.wr y a s).take (UK.wr d.x a s).length = _
    rw [hl, UK.wr_take y a _ s hs (by omega), h.pre]
  · rcases h.freeAt with ⟨a, b, c⟩ | ⟨F, e, r, n1, n2, n3, n4⟩
    · exact .inl ⟨a, b, c⟩
    · exact .inr ⟨F, e, r.only ho n2, n1, n2, n3, n4⟩
structure Dat (W w : World) (own : Nat → Prop) (D B bc : Nat) (fo : Option Addr) (fc I ic : Nat) (y : List UInt8) (d : Dk) (cnt : Nat) : Prop where
  at_ : DiskAt w own D B bc fo fc I ic y d
  fit : Fit d cnt
  moves : Moves own own W w
section
variable {w : World}
theorem Dat.below {w' : World} (h : Dat W w own D B bc fo fc I ic y d cnt) (hb : Below w.heap.size w w') : Dat W w' own D B bc fo fc I ic y d cnt := ⟨h.at_.below hb, h.fit, h.moves.trans (Moves.of_below hb)⟩
theorem Dat.drew (h : Dat W w own D B bc fo fc I ic y d cnt) : Dat W w.drew own D B bc fo fc I ic y d cnt := h.below (Below.refl _ _).drew
theorem count_dat (h : Dat W w own D B bc fo fc I ic y d cnt) :
    Calls Tryz.prog 67 #[.pointer (some ⟨D, 0, none⟩)] w fun e w' => e = .returned (.int .i64 cnt) ∧ w' = w := count_any h.at_ h.fit
theorem wrap32 (k : Nat) (h : k ≤ 60000) : IntKind.u32.wrap (k : Int) = (k : Int) := by
  show (k : Int) % 4294967296 = k
  omega
theorem word_dat (h : Dat W w own D B bc fo fc I ic y d cnt) (k : Nat) (hk : k ≤ 60000) :
    Calls Tryz.prog 42 #[.int .u32 k] w fun e w' => e = .returned (.string (str (putL (w32 k)))) ∧ Dat W w' own D B bc fo fc I ic y d cnt := by
  have := word_any (w32 k) w
  rw [show ((w32 k).toNat : Int) = k by rw [← UK.w32_is k]; omega] at this
  exact this.mono fun _ _ ⟨he, hb⟩ => ⟨he, h.below hb⟩
theorem next_dat (h : Dat W w own D B bc fo fc I ic y d cnt) (i : Nat) (hi : i ≤ d.free.length) :
    Calls Tryz.prog 89 #[.pointer (some ⟨D, 0, none⟩), .int .i64 i] w fun e w' => e = .returned (.string (str (nextL d i))) ∧ Dat W w' own D B bc fo fc I ic y d cnt :=
  (next_any h.at_ h.fit i hi).mono fun _ _ ⟨he, hb⟩ => ⟨he, h.below hb⟩
end
theorem pageL_length (p : Nat) (s : List UInt8) (h : s.length ≤ 504) : (pageL p s).length = 512 := by
  unfold pageL restL
  rw [List.length_append, List.length_append, List.length_append, UK.zeros_length]
  show 4 + (4 + _) = _
  omega
theorem lay_dat {w : World} (h : Dat W w own D B bc fo fc I ic y d cnt) (p : Nat) (s : List UInt8) (hp : p < cnt) (hs : s.length ≤ 504) :
    Calls Tryz.prog 88 #[.pointer (some ⟨D, 0, none⟩), .int .i64 p, .string (str s)] w fun e w' => e = .returned (.tuple #[]) ∧ ∃ y', Dat W w' own D B bc fo fc I ic y' { d with x := UK.wr d.x (512 * p) (pageL p s) } cnt := by
  have f := h.fit
  have hl := f.len
  have hf := f.few
  have h1 := h.at_
  have hle := h1.le
  have hyl := h1.ylen
  have hw := UK.wr_length d.x (512 * p) (pageL p s) (by rw [pageL_length p s hs]; omega)
  refine (lay_any h1.bytes d.x.length bc p s (h1.cells.at' 0 _ rfl) (by omega) hle (by omega) (by omega) hs h1.tab h1.noB).mono fun _ _ ⟨he, hb, ho⟩ => ⟨he, UK.wr y (512 * p) (pageL p s), ?_, ?_, h.moves.trans (Moves.of_only ho h1.oB)⟩
  · exact h1.turnB (512 * p) (pageL p s) hb ho (by rw [pageL_length p s hs]; omega)
  · exact ⟨hw.trans hl, f.flags, f.one, f.few, f.most, f.free, f.freeLe, f.rl, f.wl, f.reads, f.puts⟩
@[go_sem] theorem putL_length (v : UInt32) : (putL v).length = 4 := rfl
@[go_sem] theorem nextL_length (d : Dk) (i : Nat) : (nextL d i).length = 4 := rfl
def headL (d : Dk) (cnt : Nat) : List UInt8 := [84, 65, 66, 85, 76, 65, 82, 49] ++ (putL (w32 cnt) ++ nextL d d.free.length)
theorem headL_length (d : Dk) (cnt : Nat) : (headL d cnt).length = 16 := rfl
def flushD (d : Dk) (cnt : Nat) : Dk := if d.wl = 0 then { d with wl := -1 } else { d with wl := failN d.wl, puts := d.puts + 1, x := UK.wr d.x 0 (pageL 0 (headL d cnt)) }
theorem failN_wf (n : Int) (h : -1 ≤ n ∧ n ≤ 9223372036854775807) : -1 ≤ failN n ∧ failN n ≤ 9223372036854775807 := by
  unfold failN
  split
  · omega
  · split <;> omega
set_option maxHeartbeats 2000000 in
set_option maxRecDepth 100000 in
theorem flush_any (h : DiskAt W own D B bc fo fc I ic y d) (f : Fit d cnt) (hq3 : d.puts + 1 < 1000000000) :
    Calls Tryz.prog 39 #[.pointer (some ⟨D, 0, none⟩)] W fun e w' => e = .returned (.int .i64 (failE d.wl)) ∧ Disk w' own D (flushD d cnt) ∧ Moves own own W w' := by
  have HQ3 := Lib.hid hq3
  clear hq3
  have hfail := fail_any h.cells 5 d.wl rfl f.wl
  have hq1 := f.puts.1
  have hq2 := f.puts.2
  by_cases h0 : d.wl = 0
  · have HE : Hid (failE d.wl = 7) := by show _ = _; unfold failE; rw [if_pos h0]
    have HN : Hid (failN d.wl = -1) := by show _ = _; unfold failN; rw [if_pos h0]
    have HF : Hid (flushD d cnt = { d with wl := -1 }) := by show _ = _; unfold flushD; rw [if_pos h0]
    rw [HE.out, HN.out] at hfail
    rw [HE.out, HF.out]
    clear h0
    go_enter Tryz.func39, Tryz.ntmps39
    go_wp2_with fail
    refine hfail.mono ?_
    rintro e w1 ⟨rfl, r1, o1⟩
    go_wp2
    go_ret
    exact ⟨rfl, ⟨B, bc, fo, fc, I, ic, y, h.turnD (d' := { d with wl := -1 }) r1 o1 rfl rfl rfl⟩, Moves.of_only o1 h.oD⟩
  · have HE : Hid (failE d.wl = 0) := by show _ = _; unfold failE; rw [if_neg h0]
    have HF : Hid (flushD d cnt = { d with wl := failN d.wl, puts := d.puts + 1, x := UK.wr d.x 0 (pageL 0 (headL d cnt)) }) := by show _ = _; unfold flushD; rw [if_neg h0]
    rw [HE.out] at hfail
    rw [HE.out, HF.out]
    clear h0
    go_enter Tryz.func39, Tryz.ntmps39
    go_wp2_with fail
    refine hfail.mono ?_
    rintro e w1 ⟨rfl, r1, o1⟩
    have h1 := h.turnD (d' := { d with wl := failN d.wl }) r1 o1 rfl rfl rfl
    have hwl' := failN_wf d.wl f.wl
    have c7 := h1.cells.at' 7 _ rfl
    have f7 := h1.cells.free 7 (by omega)
    have r2 := h1.cells.set 7 (.int .i64 (d.puts + 1)) (by show 7 < 8; omega)
    have o2 := (Only.refl D w1).set 7 (.int .i64 (d.puts + 1))
    have h2 := h1.turnD (d' := { d with wl := failN d.wl, puts := d.puts + 1 }) r2 o2 rfl rfl rfl
    have f2 : Fit { d with wl := failN d.wl, puts := d.puts + 1 } cnt := ⟨f.len, f.flags, f.one, f.few, f.most, f.free, f.freeLe, f.rl, hwl', f.reads, by show 0 ≤ d.puts + 1 ∧ _ ; exact ⟨by omega, HQ3.out⟩⟩
    have d2 : Dat W (w1.setCell ⟨D, 7, none⟩ (.int .i64 (d.puts + 1))) own D B bc fo fc I ic y { d with wl := failN d.wl, puts := d.puts + 1 } cnt := ⟨h2, f2, (Moves.of_only o1 h.oD).trans (Moves.of_only o2 h.oD)⟩
    go_wp2_with fail
    generalize w1.setCell ⟨D, 7, none⟩ (.int .i64 (d.puts + 1)) = w2 at d2 ⊢
    have hd := d2.drew
    have c2 := hd.at_.cells.at' 2 _ rfl
    have hfew := f.few
    have h00 : 0 < cnt := f.one
    clear d2 h1 h2 hfail c7 f7 r1 r2 o1 o2
    go_region_with (first
      | (go_at_call 67; refine (count_dat hd).mono ?_; rintro e w' ⟨rfl, rfl⟩)
      | (go_at_call 42; rw [wrap32 cnt hfew]; refine (word_dat hd cnt hfew).mono ?_; rintro e w3 ⟨rfl, hd⟩; have c2' := hd.at_.cells.at' 2 _ rfl)
      | (go_at_call 89; refine (next_dat hd d.free.length (Nat.le_refl _)).mono ?_; rintro e w4 ⟨rfl, hd⟩; have c2' := hd.at_.cells.at' 2 _ rfl)
      | (go_at_call 88; refine (lay_dat hd 0 (headL d cnt) h00 (by rw [headL_length]; decide)).mono ?_; rintro e w5 ⟨rfl, y5, hd5⟩))
    all_goals
      go_wp2
      go_ret
      exact ⟨rfl, ⟨B, bc, fo, fc, I, ic, y5, hd5.at_⟩, hd5.moves⟩
end
end Go.Proofs.YtfljlcfmdcepnaaGreatDoor
namespace Go.Proofs.YtfljlcfmdcepnaaGreatDoor
open Go.RowKit
open UK (str BytesAt nth Only w32 Row)
open Go.BigFrame
theorem UK.row_new (W : World) (cs : Array Value) (e : TypeId) : Row (W.alloc (.cells cs e)) W.heap.size cs.size cs.toList := by
  refine ⟨by simp, by simp, fun j hj => ?_, fun j hj => ⟨?_, World.frozen?_alloc_new W _ _ j⟩⟩
  · rw [World.cell?_alloc_new W cs e j, Array.getElem?_toList]
  · rw [World.cell?_alloc_new W cs e j, Array.getElem?_eq_getElem hj]; rfl
theorem make_disk (w : World) : (Instr.makeSlice 87 (.int .i64 512) (.int .i64 512)).run Tryz.prog w = .ok (.slice (some ⟨w.heap.size, 0, none⟩) 512 512) (w.alloc (.cells (UK.bcells (UK.zeros 512)) 5)) := by kernel_rfl
def clampD (pages : Int) : Int := min (max pages 2) 60000
theorem clamp_is (p m : Int) (h : (p < 2 ∧ m = 2) ∨ (60000 < p ∧ m = 60000) ∨ (2 ≤ p ∧ p ≤ 60000 ∧ m = p)) : clampD p = m := by
  unfold clampD
  rcases h with ⟨h, rfl⟩ | ⟨h, rfl⟩ | ⟨h1, h2, rfl⟩
  · rw [Int.max_eq_right (by omega)]; rfl
  · rw [Int.max_eq_left (by omega), Int.min_eq_right (by omega)]
  · rw [Int.max_eq_left (by omega), Int.min_eq_left (by omega)]
def bareD (pages : Int) : Dk := { x := UK.zeros 512, most := clampD pages, free := [], isf := [false], rl := -1, wl := -1, reads := 0, puts := 0 }
def newD (pages : Int) : Dk := flushD (bareD pages) 1
theorem fit_bare (pages : Int) : Fit (bareD pages) 1 := by
  refine ⟨UK.zeros_length 512, rfl, by omega, by omega, ?_, (fun p h => absurd h (by simp [bareD])), (by simp [bareD]), (by simp [bareD]), (by simp [bareD]), (by simp [bareD]), (by simp [bareD])⟩
  show 2 ≤ clampD pages ∧ clampD pages ≤ 60000 ∧ (1 : Int) ≤ clampD pages
  unfold clampD
  omega
theorem make_flag (w : World) : (Instr.makeSlice 88 (.int .i64 1) (.int .i64 1)).run Tryz.prog w = .ok (.slice (some ⟨w.heap.size, 0, none⟩) 1 1) (w.alloc (.cells #[.bool false] 4)) := by kernel_rfl
def bareW (W : World) (m : Int) : World :=
  ((W.alloc (.cells #[.slice (some ⟨W.heap.size + 1, 0, none⟩) 512 512, .int .i64 m, .slice none 0 0, .slice (some ⟨W.heap.size + 1 + 1, 0, none⟩) 1 1, .int .i64 (-1), .int .i64 (-1), .int .i64 0, .int .i64 0] 90)).alloc (.cells (UK.bcells (UK.zeros 512)) 5)).alloc (.cells #[.bool false] 4)
theorem bare_below (W : World) (m : Int) : Below W.heap.size W (bareW W m) := (((Below.refl _ _).alloc (Nat.le_refl _) _).alloc (by simp) _).alloc (by simp; omega) _
theorem bytes_new (V : World) (x : List UInt8) : BytesAt (V.alloc (.cells (UK.bcells x) 5)) V.heap.size x := by
  refine ⟨5, (0, 0), ?_, fun i _ h => absurd h.2 (Nat.not_lt_zero _)⟩
  show (V.heap.push _)[V.heap.size]? = _
  rw [Array.getElem?_push_size]
theorem bare_at (W : World) (m : Int) (ht : TabAt W) : DiskAt (bareW W m) (fun k => W.heap.size ≤ k) W.heap.size (W.heap.size + 1) 512 none 0 (W.heap.size + 1 + 1) 1 (UK.zeros 512) { bareD 0 with most := m } := by
  have hl := ht.lt
  refine ⟨?_, ?_, UK.zeros_length 512, ?_, ?_, .inl ⟨rfl, rfl, rfl⟩, ?_, by omega, by omega, by omega, Nat.le_refl _, by omega, by omega, ht.below (bare_below W m), by omega⟩
  · have h1 := ((UK.row_new W #[.slice (some ⟨W.heap.size + 1, 0, none⟩) 512 512, .int .i64 m, .slice none 0 0, .slice (some ⟨W.heap.size + 1 + 1, 0, none⟩) 1 1, .int .i64 (-1), .int .i64 (-1), .int .i64 0, .int .i64 0] 90).alloc (.cells (UK.bcells (UK.zeros 512)) 5)).alloc (.cells #[.bool false] 4)
    show Row (bareW W m) W.heap.size 8 [.slice (some ⟨W.heap.size + 1, 0, none⟩) (UK.zeros 512).length 512, .int .i64 m, .slice none 0 0, .slice (some ⟨W.heap.size + 1 + 1, 0, none⟩) 1 1, .int .i64 (-1), .int .i64 (-1), .int .i64 0, .int .i64 0]
    rw [UK.zeros_length]
    exact h1
  · refine BytesAt.alloc (B := W.heap.size + 1) ?_ _
    have h2 := bytes_new (W.alloc (.cells #[.slice (some ⟨W.heap.size + 1, 0, none⟩) 512 512, .int .i64 m, .slice none 0 0, .slice (some ⟨W.heap.size + 1 + 1, 0, none⟩) 1 1, .int .i64 (-1), .int .i64 (-1), .int .i64 0, .int .i64 0] 90)) (UK.zeros 512)
    have e : (W.alloc (.cells #[.slice (some ⟨W.heap.size + 1, 0, none⟩) 512 512, .int .i64 m, .slice none 0 0, .slice (some ⟨W.heap.size + 1 + 1, 0, none⟩) 1 1, .int .i64 (-1), .int .i64 (-1), .int .i64 0, .int .i64 0] 90)).heap.size = W.heap.size + 1 := by simp
    rw [e] at h2
    exact h2
  · show (UK.zeros 512).length ≤ 512
    rw [UK.zeros_length]
    exact Nat.le_refl _
  · exact List.take_length
  · have h3 := UK.row_new ((W.alloc (.cells #[.slice (some ⟨W.heap.size + 1, 0, none⟩) 512 512, .int .i64 m, .slice none 0 0, .slice (some ⟨W.heap.size + 1 + 1, 0, none⟩) 1 1, .int .i64 (-1), .int .i64 (-1), .int .i64 0, .int .i64 0] 90)).alloc (.cells (UK.bcells (UK.zeros 512)) 5)) #[.bool false] 4
    have e : ((W.alloc (.cells #[.slice (some ⟨W.heap.size + 1, 0, none⟩) 512 512, .int .i64 m, .slice none 0 0, .slice (some ⟨W.heap.size + 1 + 1, 0, none⟩) 1 1, .int .i64 (-1), .int .i64 (-1), .int .i64 0, .int .i64 0] 90)).alloc (.cells (UK.bcells (UK.zeros 512)) 5)).heap.size = W.heap.size + 1 + 1 := by simp
    rw [e] at h3
    exact h3
theorem bare_flush (W : World) (pages : Int) (ht : TabAt W) (m : Int) (hm : clampD pages = m) :
    Calls Tryz.prog 39 #[.pointer (some ⟨W.heap.size, 0, none⟩)] (bareW W m) fun e w' => e = .returned (.int .i64 0) ∧ Disk w' (fun k => W.heap.size ≤ k) W.heap.size (newD pages) ∧ Below W.heap.size W w' := by
  subst hm
  refine (flush_any (bare_at W (clampD pages) ht) (fit_bare pages) (by show (0 : Int) + 1 < 1000000000; omega)).mono fun _ _ ⟨he, hd, hv⟩ => ⟨he, hd, (bare_below W _).trans (hv.below (bare_below W _).size (fun _ h => h))⟩
set_option maxRecDepth 100000 in
theorem new_any (W : World) (pages : Int) (ht : TabAt W) :
    Calls Tryz.prog 28 #[.int .i64 pages] W fun e w' => e = .returned (.pointer (some ⟨W.heap.size, 0, none⟩)) ∧ Disk w' (fun k => W.heap.size ≤ k) W.heap.size (newD pages) ∧ Below W.heap.size W w' := by
  have hmk := make_disk
  have hmf := make_flag
  have HB := Lib.hid (bare_flush W pages ht)
  go_enter Tryz.func28, Tryz.ntmps28
  go_wp2_with fail
  · refine (HB.out 60000 (clamp_is _ _ (by omega))).mono ?_
    rintro e w' ⟨rfl, hd, hb⟩
    go_wp2
    go_ret
    exact ⟨rfl, hd, hb⟩
  · refine (HB.out 2 (clamp_is _ _ (by omega))).mono ?_
    rintro e w' ⟨rfl, hd, hb⟩
    go_wp2
    go_ret
    exact ⟨rfl, hd, hb⟩
  · refine (HB.out pages (clamp_is _ _ (by omega))).mono ?_
    rintro e w' ⟨rfl, hd, hb⟩
    go_wp2
    go_ret
    exact ⟨rfl, hd, hb⟩
end Go.Proofs.YtfljlcfmdcepnaaGreatDoor
namespace Go.Proofs.YtfljlcfmdcepnaaGreatDoor
open Go.RowKit
open UK (str BytesAt nth Only w32 Row)
open Go.BigFrame
section
variable {W : World} {own : Nat → Prop} {D B bc fc I ic cnt : Nat} {fo : Option Addr} {y : List UInt8} {d : Dk}
end
end Go.Proofs.YtfljlcfmdcepnaaGreatDoor
namespace Go.Proofs.YtfljlcfmdcepnaaGreatDoor
open Go.RowKit
open UK (str BytesAt nth Only w32 Row)
open Go.BigFrame
section
variable {W : World} {own : Nat → Prop} {D B bc fc I ic cnt : Nat} {fo : Option Addr} {y : List UInt8} {d : Dk}
theorem loadL_pre (h : DiskAt W own D B bc fo fc I ic y d) (p : Nat) (hp : 512 * (p + 1) ≤ d.x.length) : okB y p = okB d.x p ∧ lookL y p = lookL d.x p := by
  have e : ∀ a b, a + b ≤ d.x.length → (y.drop a).take b = (d.x.drop a).take b := fun a b hab => by
    rw [← h.pre, List.drop_take, List.take_take, Nat.min_eq_left (by omega)]
  have h1 : okB y p = okB d.x p := by
    unfold okB
    rw [e (512 * p) 4 (by omega), e (512 * p + 4) 508 (by omega), e (512 * p + 4) 4 (by omega)]
  refine ⟨h1, ?_⟩
  unfold lookL loadL
  rw [h1, e (512 * p + 8) 504 (by omega)]
theorem read_no (h : DiskAt W own D B bc fo fc I ic y d) (f : Fit d cnt) (p : Int) (hh : hasD d cnt p = false) :
    Calls Tryz.prog 105 #[.pointer (some ⟨D, 0, none⟩), .int .i64 p] W fun e w' => e = .returned (.tuple #[.string (str []), .int .i64 4]) ∧ Disk w' own D d ∧ Moves own own W w' := by
  have hc := hasd_any h f p
  rw [hh] at hc
  go_enter Tryz.func105, Tryz.ntmps105
  go_wp2_with fail
  refine hc.mono ?_
  rintro e w' ⟨rfl, q, rfl⟩
  go_wp2
  go_ret2
  exact ⟨rfl, ⟨B, bc, fo, fc, I, ic, y, h.drewN q⟩, Moves.of_below (UK.belowN (Below.refl _ _) q)⟩
theorem read_fail (h : DiskAt W own D B bc fo fc I ic y d) (f : Fit d cnt) (p : Int) (hh : hasD d cnt p = true) (h0 : d.rl = 0) :
    Calls Tryz.prog 105 #[.pointer (some ⟨D, 0, none⟩), .int .i64 p] W fun e w' => e = .returned (.tuple #[.string (str []), .int .i64 7]) ∧ Disk w' own D { d with rl := -1 } ∧ Moves own own W w' := by
  have hc := hasd_any h f p
  rw [hh] at hc
  have HE : Hid (failE d.rl = 7) := by show _ = _; unfold failE; rw [if_pos h0]
  have HN : Hid (failN d.rl = -1) := by show _ = _; unfold failN; rw [if_pos h0]
  clear h0
  go_enter Tryz.func105, Tryz.ntmps105
  go_wp2_with fail
  refine hc.mono ?_
  rintro e w' ⟨rfl, q, rfl⟩
  have h1 := h.drewN q
  have m1 := Moves.of_below (o := own) (UK.belowN (Below.refl W.heap.size W) q)
  generalize W.drewN q = w1 at h1 m1 ⊢
  have hfail := fail_any h1.cells 4 d.rl rfl f.rl
  rw [HE.out, HN.out] at hfail
  go_wp2_with fail
  refine hfail.mono ?_
  rintro e w2 ⟨rfl, r1, o1⟩
  go_wp2
  go_ret2
  exact ⟨rfl, ⟨B, bc, fo, fc, I, ic, y, h1.turnD (d' := { d with rl := -1 }) r1 o1 rfl rfl rfl⟩, m1.trans (Moves.of_only o1 h.oD)⟩
def readE (x : List UInt8) (p : Nat) : Int := if okB x p then 0 else 8
theorem read_yes (h : DiskAt W own D B bc fo fc I ic y d) (f : Fit d cnt) (p : Nat) (hp : p < cnt) (hh : hasD d cnt p = true) (h0 : d.rl ≠ 0) :
    Calls Tryz.prog 105 #[.pointer (some ⟨D, 0, none⟩), .int .i64 p] W fun e w' => e = .returned (.tuple #[.string (str (lookL d.x p)), .int .i64 (readE d.x p)]) ∧ Disk w' own D { d with rl := failN d.rl, reads := d.reads + 1 } ∧ Moves own own W w' := by
  have hc := hasd_any h f p
  rw [hh] at hc
  have HE : Hid (failE d.rl = 0) := by show _ = _; unfold failE; rw [if_neg h0]
  have hq1 := f.reads.1
  have hq2 := f.reads.2
  have hxl := f.len
  have hfew := f.few
  have hP := loadL_pre h p (by rw [hxl]; omega)
  clear h0
  go_enter Tryz.func105, Tryz.ntmps105
  go_wp2_with fail
  refine hc.mono ?_
  rintro e w' ⟨rfl, q, rfl⟩
  have h1 := h.drewN q
  have m1 := Moves.of_below (o := own) (UK.belowN (Below.refl W.heap.size W) q)
  generalize W.drewN q = w1 at h1 m1 ⊢
  have hfail := fail_any h1.cells 4 d.rl rfl f.rl
  rw [HE.out] at hfail
  go_wp2_with fail
  refine hfail.mono ?_
  rintro e w2 ⟨rfl, r1, o1⟩
  have h2 := h1.turnD (d' := { d with rl := failN d.rl }) r1 o1 rfl rfl rfl
  have c6 := h2.cells.at' 6 _ rfl
  have f6 := h2.cells.free 6 (by omega)
  have r3 := h2.cells.set 6 (.int .i64 (d.reads + 1)) (by show 6 < 8; omega)
  have o3 := (Only.refl D w2).set 6 (.int .i64 (d.reads + 1))
  have h3 := h2.turnD (d' := { d with rl := failN d.rl, reads := d.reads + 1 }) r3 o3 rfl rfl rfl
  have m3 := (m1.trans (Moves.of_only o1 h.oD)).trans (Moves.of_only o3 h.oD)
  go_wp2_with fail
  generalize w2.setCell ⟨D, 6, none⟩ (.int .i64 (d.reads + 1)) = w3 at h3 m3 ⊢
  have hlk := look_any h3.bytes d.x.length bc p (h3.cells.at' 0 _ rfl) (by rw [h3.ylen]; exact h.le) h.le (by omega) (by omega) h3.tab
  rw [hP.1, hP.2] at hlk
  have hlk2 := Lib.hid hlk
  clear hlk hP
  refine hlk2.out.mono ?_
  rintro e w4 ⟨rfl, b4⟩
  have h4 := h3.below b4
  have m4 := m3.trans (Moves.of_below b4)
  cases hok : okB d.x p
  · have HR : Hid (readE d.x p = 8) := by show _ = _; unfold readE; rw [hok]; rfl
    have HL : Hid (lookL d.x p = []) := lookL_no hok
    go_wp2
    go_ret2
    exact ⟨by rw [HR.out, HL.out] <;> rfl, ⟨B, bc, fo, fc, I, ic, y, h4⟩, m4⟩
  · have HR : Hid (readE d.x p = 0) := by show _ = _; unfold readE; rw [hok]; rfl
    go_wp2
    go_ret2
    exact ⟨by rw [HR.out] <;> rfl, ⟨B, bc, fo, fc, I, ic, y, h4⟩, m4⟩
end
end Go.Proofs.YtfljlcfmdcepnaaGreatDoor
namespace Go.Proofs.YtfljlcfmdcepnaaGreatDoor
open Go.RowKit
open UK (str BytesAt nth Only w32 Row)
open Go.BigFrame
section
variable {W : World} {own : Nat → Prop} {D B bc fc I ic cnt : Nat} {fo : Option Addr} {y : List UInt8} {d : Dk}
def writeD (d : Dk) (p : Nat) (s : List UInt8) : Dk := { d with wl := failN d.wl, puts := d.puts + 1, x := UK.wr d.x (512 * p) (pageL p s) }
theorem write_yes (h : DiskAt W own D B bc fo fc I ic y d) (f : Fit d cnt) (hq3 : d.puts + 1 < 1000000000) (p : Nat) (hp : p < cnt) (hh : hasD d cnt p = true) (h0 : d.wl ≠ 0) (s : List UInt8) (hs : s.length = 504) :
    Calls Tryz.prog 86 #[.pointer (some ⟨D, 0, none⟩), .int .i64 p, .string (str s)] W fun e w' => e = .returned (.int .i64 0) ∧ Disk w' own D (writeD d p s) ∧ Moves own own W w' := by
  have hc := hasd_any h f p
  rw [hh] at hc
  have HE : Hid (failE d.wl = 0) := by show _ = _; unfold failE; rw [if_neg h0]
  have HQ3 := Lib.hid hq3
  have hq1 := f.puts.1
  have hq2 := f.puts.2
  have HS := Lib.hid (show s.length ≤ 504 by omega)
  have hwl' := failN_wf d.wl f.wl
  clear h0 hq3
  go_enter Tryz.func86, Tryz.ntmps86
  go_wp2_with fail
  refine hc.mono ?_
  rintro e w' ⟨rfl, q, rfl⟩
  have h1 := h.drewN q
  have m1 := Moves.of_below (o := own) (UK.belowN (Below.refl W.heap.size W) q)
  generalize W.drewN q = w1 at h1 m1 ⊢
  have hfail := fail_any h1.cells 5 d.wl rfl f.wl
  rw [HE.out] at hfail
  go_wp2_with fail
  refine hfail.mono ?_
  rintro e w2 ⟨rfl, r1, o1⟩
  have h2 := h1.turnD (d' := { d with wl := failN d.wl }) r1 o1 rfl rfl rfl
  have c7 := h2.cells.at' 7 _ rfl
  have f7 := h2.cells.free 7 (by omega)
  have r3 := h2.cells.set 7 (.int .i64 (d.puts + 1)) (by show 7 < 8; omega)
  have o3 := (Only.refl D w2).set 7 (.int .i64 (d.puts + 1))
  have h3 := h2.turnD (d' := { d with wl := failN d.wl, puts := d.puts + 1 }) r3 o3 rfl rfl rfl
  have m3 := (m1.trans (Moves.of_only o1 h.oD)).trans (Moves.of_only o3 h.oD)
  have d3 : Dat W (w2.setCell ⟨D, 7, none⟩ (.int .i64 (d.puts + 1))) own D B bc fo fc I ic y { d with wl := failN d.wl, puts := d.puts + 1 } cnt :=
    ⟨h3, ⟨f.len, f.flags, f.one, f.few, f.most, f.free, f.freeLe, f.rl, hwl', f.reads, by show 0 ≤ d.puts + 1 ∧ _; exact ⟨by omega, HQ3.out⟩⟩, m3⟩
  go_wp2_with fail
  refine (lay_dat d3 p s hp HS.out).mono ?_
  rintro e w4 ⟨rfl, y4, d4⟩
  go_wp2
  go_ret
  exact ⟨rfl, ⟨B, bc, fo, fc, I, ic, y4, d4.at_⟩, d4.moves⟩
theorem write_no (h : DiskAt W own D B bc fo fc I ic y d) (f : Fit d cnt) (p : Int) (hh : hasD d cnt p = false) (s : List UInt8) :
    Calls Tryz.prog 86 #[.pointer (some ⟨D, 0, none⟩), .int .i64 p, .string (str s)] W fun e w' => e = .returned (.int .i64 4) ∧ Disk w' own D d ∧ Moves own own W w' := by
  have hc := hasd_any h f p
  rw [hh] at hc
  go_enter Tryz.func86, Tryz.ntmps86
  go_wp2_with fail
  refine hc.mono ?_
  rintro e w' ⟨rfl, q, rfl⟩
  go_wp2
  go_ret
  exact ⟨rfl, ⟨B, bc, fo, fc, I, ic, y, h.drewN q⟩, Moves.of_below (UK.belowN (Below.refl _ _) q)⟩
theorem write_fail (h : DiskAt W own D B bc fo fc I ic y d) (f : Fit d cnt) (p : Int) (hh : hasD d cnt p = true) (h0 : d.wl = 0) (s : List UInt8) (hs : s.length = 504) :
    Calls Tryz.prog 86 #[.pointer (some ⟨D, 0, none⟩), .int .i64 p, .string (str s)] W fun e w' => e = .returned (.int .i64 7) ∧ Disk w' own D { d with wl := -1 } ∧ Moves own own W w' := by
  have hc := hasd_any h f p
  rw [hh] at hc
  have HE : Hid (failE d.wl = 7) := by show _ = _; unfold failE; rw [if_pos h0]
  have HN : Hid (failN d.wl = -1) := by show _ = _; unfold failN; rw [if_pos h0]
  clear h0
  go_enter Tryz.func86, Tryz.ntmps86
  go_wp2_with fail
  refine hc.mono ?_
  rintro e w' ⟨rfl, q, rfl⟩
  have h1 := h.drewN q
  have m1 := Moves.of_below (o := own) (UK.belowN (Below.refl W.heap.size W) q)
  generalize W.drewN q = w1 at h1 m1 ⊢
  have hfail := fail_any h1.cells 5 d.wl rfl f.wl
  rw [HE.out, HN.out] at hfail
  go_wp2_with fail
  refine hfail.mono ?_
  rintro e w2 ⟨rfl, r1, o1⟩
  go_wp2
  go_ret
  exact ⟨rfl, ⟨B, bc, fo, fc, I, ic, y, h1.turnD (d' := { d with wl := -1 }) r1 o1 rfl rfl rfl⟩, m1.trans (Moves.of_only o1 h.oD)⟩
end
end Go.Proofs.YtfljlcfmdcepnaaGreatDoor
namespace Go.Proofs.YtfljlcfmdcepnaaGreatDoor
open Go.RowKit
open UK (str BytesAt nth Only w32 Row)
open Go.BigFrame
section
variable {W : World} {own : Nat → Prop} {D B bc fc I ic cnt : Nat} {fo : Option Addr} {y : List UInt8} {d : Dk}
theorem give_no (h : DiskAt W own D B bc fo fc I ic y d) (f : Fit d cnt) (p : Int) (hh : hasD d cnt p = false) :
    Calls Tryz.prog 117 #[.pointer (some ⟨D, 0, none⟩), .int .i64 p] W fun e w' => e = .returned (.int .i64 4) ∧ Disk w' own D d ∧ Moves own own W w' := by
  have hc := hasd_any h f p
  rw [hh] at hc
  go_enter Tryz.func117, Tryz.ntmps117
  go_wp2_with fail
  refine hc.mono ?_
  rintro e w' ⟨rfl, q, rfl⟩
  go_wp2
  go_ret
  exact ⟨rfl, ⟨B, bc, fo, fc, I, ic, y, h.drewN q⟩, Moves.of_below (UK.belowN (Below.refl _ _) q)⟩
theorem give_fail (h : DiskAt W own D B bc fo fc I ic y d) (f : Fit d cnt) (p : Int) (hh : hasD d cnt p = true) (h0 : d.wl = 0) :
    Calls Tryz.prog 117 #[.pointer (some ⟨D, 0, none⟩), .int .i64 p] W fun e w' => e = .returned (.int .i64 7) ∧ Disk w' own D { d with wl := -1 } ∧ Moves own own W w' := by
  have hc := hasd_any h f p
  rw [hh] at hc
  have HE : Hid (failE d.wl = 7) := by show _ = _; unfold failE; rw [if_pos h0]
  have HN : Hid (failN d.wl = -1) := by show _ = _; unfold failN; rw [if_pos h0]
  clear h0
  go_enter Tryz.func117, Tryz.ntmps117
  go_wp2_with fail
  refine hc.mono ?_
  rintro e w' ⟨rfl, q, rfl⟩
  have h1 := h.drewN q
  have m1 := Moves.of_below (o := own) (UK.belowN (Below.refl W.heap.size W) q)
  generalize W.drewN q = w1 at h1 m1 ⊢
  have hfail := fail_any h1.cells 5 d.wl rfl f.wl
  rw [HE.out, HN.out] at hfail
  go_wp2_with fail
  refine hfail.mono ?_
  rintro e w2 ⟨rfl, r1, o1⟩
  go_wp2
  go_ret
  exact ⟨rfl, ⟨B, bc, fo, fc, I, ic, y, h1.turnD (d' := { d with wl := -1 }) r1 o1 rfl rfl rfl⟩, m1.trans (Moves.of_only o1 h.oD)⟩
end
end Go.Proofs.YtfljlcfmdcepnaaGreatDoor
