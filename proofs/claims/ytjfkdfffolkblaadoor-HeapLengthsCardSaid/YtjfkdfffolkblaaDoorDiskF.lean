/-
  disk.New.
-/
import Derived.Test.YtjfkdfffolkblaaDoorDiskE
namespace Go.Proofs.YtjfkdfffolkblaaDoor
open Go.RowKit
open UK (str BytesAt nth Only w32 Row)
open Go.BigFrame
theorem UK.row_new (W : World) (cs : Array Value) (e : TypeId) : Row (W.alloc (.cells cs e)) W.heap.size cs.size cs.toList := by
  refine ⟨by simp, by simp, fun j hj => ?_, fun j hj => ⟨?_, World.frozen?_alloc_new W _ _ j⟩⟩
  · rw [World.cell?_alloc_new W cs e j, Array.getElem?_toList]
  · rw [World.cell?_alloc_new W cs e j, Array.getElem?_eq_getElem hj]; rfl
theorem make_disk (w : World) : (Instr.makeSlice 77 (.int .i64 512) (.int .i64 512)).run Tryd.prog w = .ok (.slice (some ⟨w.heap.size, 0, none⟩) 512 512) (w.alloc (.cells (UK.bcells (UK.zeros 512)) 5)) := by kernel_rfl
/-- how many pages a disk may have -/
def clampD (pages : Int) : Int := min (max pages 2) 60000
theorem clamp_is (p m : Int) (h : (p < 2 ∧ m = 2) ∨ (60000 < p ∧ m = 60000) ∨ (2 ≤ p ∧ p ≤ 60000 ∧ m = p)) : clampD p = m := by
  unfold clampD
  rcases h with ⟨h, rfl⟩ | ⟨h, rfl⟩ | ⟨h1, h2, rfl⟩
  · rw [Int.max_eq_right (by omega)]; rfl
  · rw [Int.max_eq_left (by omega), Int.min_eq_right (by omega)]
  · rw [Int.max_eq_left (by omega), Int.min_eq_left (by omega)]
/-- a new disk -/
def bareD (pages : Int) : Dk := { x := UK.zeros 512, most := clampD pages, free := [], isf := [false], rl := -1, wl := -1, reads := 0, puts := 0 }
def newD (pages : Int) : Dk := flushD (bareD pages) 1
theorem fit_bare (pages : Int) : Fit (bareD pages) 1 := by
  refine ⟨UK.zeros_length 512, rfl, by omega, by omega, ?_, (fun p h => absurd h (by simp [bareD])), (by simp [bareD]), (by simp [bareD]), (by simp [bareD]), (by simp [bareD]), (by simp [bareD])⟩
  show 2 ≤ clampD pages ∧ clampD pages ≤ 60000 ∧ (1 : Int) ≤ clampD pages
  unfold clampD
  omega
theorem make_flag (w : World) : (Instr.makeSlice 89 (.int .i64 1) (.int .i64 1)).run Tryd.prog w = .ok (.slice (some ⟨w.heap.size, 0, none⟩) 1 1) (w.alloc (.cells #[.bool false] 4)) := by kernel_rfl
/-- the world in which New calls Flush -/
def bareW (W : World) (m : Int) : World :=
  ((W.alloc (.cells #[.slice (some ⟨W.heap.size + 1, 0, none⟩) 512 512, .int .i64 m, .slice none 0 0, .slice (some ⟨W.heap.size + 1 + 1, 0, none⟩) 1 1, .int .i64 (-1), .int .i64 (-1), .int .i64 0, .int .i64 0] 91)).alloc (.cells (UK.bcells (UK.zeros 512)) 5)).alloc (.cells #[.bool false] 4)
theorem bare_below (W : World) (m : Int) : Below W.heap.size W (bareW W m) := (((Below.refl _ _).alloc (Nat.le_refl _) _).alloc (by simp) _).alloc (by simp; omega) _
theorem bytes_new (V : World) (x : List UInt8) : BytesAt (V.alloc (.cells (UK.bcells x) 5)) V.heap.size x := by
  refine ⟨5, (0, 0), ?_, fun i _ h => absurd h.2 (Nat.not_lt_zero _)⟩
  show (V.heap.push _)[V.heap.size]? = _
  rw [Array.getElem?_push_size]
theorem bare_at (W : World) (m : Int) (ht : TabAt W) : DiskAt (bareW W m) (fun k => W.heap.size ≤ k) W.heap.size (W.heap.size + 1) 512 none 0 (W.heap.size + 1 + 1) 1 (UK.zeros 512) { bareD 0 with most := m } := by
  have hl := ht.lt
  refine ⟨?_, ?_, UK.zeros_length 512, ?_, ?_, .inl ⟨rfl, rfl, rfl⟩, ?_, by omega, by omega, by omega, Nat.le_refl _, by omega, by omega, ht.below (bare_below W m), by omega⟩
  · have h1 := ((UK.row_new W #[.slice (some ⟨W.heap.size + 1, 0, none⟩) 512 512, .int .i64 m, .slice none 0 0, .slice (some ⟨W.heap.size + 1 + 1, 0, none⟩) 1 1, .int .i64 (-1), .int .i64 (-1), .int .i64 0, .int .i64 0] 91).alloc (.cells (UK.bcells (UK.zeros 512)) 5)).alloc (.cells #[.bool false] 4)
    show Row (bareW W m) W.heap.size 8 [.slice (some ⟨W.heap.size + 1, 0, none⟩) (UK.zeros 512).length 512, .int .i64 m, .slice none 0 0, .slice (some ⟨W.heap.size + 1 + 1, 0, none⟩) 1 1, .int .i64 (-1), .int .i64 (-1), .int .i64 0, .int .i64 0]
    rw [UK.zeros_length]
    exact h1
  · refine BytesAt.alloc (B := W.heap.size + 1) ?_ _
    have h2 := bytes_new (W.alloc (.cells #[.slice (some ⟨W.heap.size + 1, 0, none⟩) 512 512, .int .i64 m, .slice none 0 0, .slice (some ⟨W.heap.size + 1 + 1, 0, none⟩) 1 1, .int .i64 (-1), .int .i64 (-1), .int .i64 0, .int .i64 0] 91)) (UK.zeros 512)
    have e : (W.alloc (.cells #[.slice (some ⟨W.heap.size + 1, 0, none⟩) 512 512, .int .i64 m, .slice none 0 0, .slice (some ⟨W.heap.size + 1 + 1, 0, none⟩) 1 1, .int .i64 (-1), .int .i64 (-1), .int .i64 0, .int .i64 0] 91)).heap.size = W.heap.size + 1 := by simp
    rw [e] at h2
    exact h2
  · show (UK.zeros 512).length ≤ 512
    rw [UK.zeros_length]
    exact Nat.le_refl _
  · exact List.take_length
  · have h3 := UK.row_new ((W.alloc (.cells #[.slice (some ⟨W.heap.size + 1, 0, none⟩) 512 512, .int .i64 m, .slice none 0 0, .slice (some ⟨W.heap.size + 1 + 1, 0, none⟩) 1 1, .int .i64 (-1), .int .i64 (-1), .int .i64 0, .int .i64 0] 91)).alloc (.cells (UK.bcells (UK.zeros 512)) 5)) #[.bool false] 4
    have e : ((W.alloc (.cells #[.slice (some ⟨W.heap.size + 1, 0, none⟩) 512 512, .int .i64 m, .slice none 0 0, .slice (some ⟨W.heap.size + 1 + 1, 0, none⟩) 1 1, .int .i64 (-1), .int .i64 (-1), .int .i64 0, .int .i64 0] 91)).alloc (.cells (UK.bcells (UK.zeros 512)) 5)).heap.size = W.heap.size + 1 + 1 := by simp
    rw [e] at h3
    exact h3
theorem bare_flush (W : World) (pages : Int) (ht : TabAt W) (m : Int) (hm : clampD pages = m) :
    Calls Tryd.prog 54 #[.pointer (some ⟨W.heap.size, 0, none⟩)] (bareW W m) fun e w' => e = .returned (.int .i64 0) ∧ Disk w' (fun k => W.heap.size ≤ k) W.heap.size (newD pages) ∧ Below W.heap.size W w' := by
  subst hm
  refine (flush_any (bare_at W (clampD pages) ht) (fit_bare pages) (by show (0 : Int) + 1 < 1000000000; omega)).mono fun _ _ ⟨he, hd, hv⟩ => ⟨he, hd, (bare_below W _).trans (hv.below (bare_below W _).size (fun _ h => h))⟩
set_option maxRecDepth 100000 in
theorem new_any (W : World) (pages : Int) (ht : TabAt W) :
    Calls Tryd.prog 14 #[.int .i64 pages] W fun e w' => e = .returned (.pointer (some ⟨W.heap.size, 0, none⟩)) ∧ Disk w' (fun k => W.heap.size ≤ k) W.heap.size (newD pages) ∧ Below W.heap.size W w' := by
  have hmk := make_disk
  have hmf := make_flag
  have HB := Lib.hid (bare_flush W pages ht)
  go_enter Tryd.func14, Tryd.ntmps14
  go_wp2_with fail
  · refine (HB.out 60000 (clamp_is _ _ (by omega))).mono ?_
    rintro e w' ⟨rfl, hd, hb⟩
    go_wp2
    go_ret
    exact ⟨rfl, hd, hb⟩
  · refine (HB.out 2 (clamp_is _ _ (by omega))).mono ?_
    rintro e w' ⟨rfl, hd, hb⟩
    go_wp2
    go_ret
    exact ⟨rfl, hd, hb⟩
  · refine (HB.out pages (clamp_is _ _ (by omega))).mono ?_
    rintro e w' ⟨rfl, hd, hb⟩
    go_wp2
    go_ret
    exact ⟨rfl, hd, hb⟩
end Go.Proofs.YtjfkdfffolkblaaDoor
