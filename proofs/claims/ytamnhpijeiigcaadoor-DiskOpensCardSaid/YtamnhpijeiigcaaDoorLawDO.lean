/-
  The law's opens: bytes are opened as they should be.
-/
import Derived.Test.YtamnhpijeiigcaaDoorPlayI
import Derived.Test.YtamnhpijeiigcaaDoorRefK
namespace Go.Proofs.YtamnhpijeiigcaaDoor
open Go.RowKit
open UK (str BytesAt nth Only w32 Row Box)
open Go.BigFrame
theorem openR_err (s : List UInt8) (pages : Int) : (openR s pages).1 = 0 ∨ (openR s pages).1 = 3 ∨ (openR s pages).1 = 8 := by
  have hc : ∀ (k : Nat) (l : List Nat) (p : List UInt8) (x : List UInt8) (n : Nat), (chain x n k l p).1 = 0 ∨ (chain x n k l p).1 = 3 ∨ (chain x n k l p).1 = 8 := by
    intro k
    induction k with
    | zero => intro l p x n; exact .inl rfl
    | succ k ih =>
      intro l p x n
      unfold chain
      split
      · exact .inl rfl
      · split
        · exact .inr (.inl rfl)
        · split
          · exact .inr (.inr rfl)
          · exact ih _ _ _ _
  unfold openR
  split
  · exact .inr (.inl rfl)
  · split
    · exact .inr (.inr rfl)
    · split
      · exact .inr (.inl rfl)
      · exact hc _ _ _ _ _
/-- the disk that was opened, and the document's -/
theorem pair_opened {E : Nat → Prop} {own : Nat → Prop} {W w1 w2 : World} {X gp cp fc cnt : Nat} {fo : Option Addr} {d : Dk} (hE : ∀ j, E j → j < W.heap.size) (hx : Disk w1 own X d) (ho : ∀ k, own k → W.heap.size ≤ k ∧ k < w1.heap.size) (hf : Fit d cnt) (hb1 : W.heap.size ≤ w1.heap.size)
    (hr : RefAt w1.heap.size w2 gp cp fo fc d cnt) (hb : Below w1.heap.size w1 w2) : Pair E X w2 gp cp fo fc d cnt := by
  obtain ⟨B, bc, fo1, fc1, I, ic, y, hd⟩ := hx
  have hX := (ho X hd.oD).2
  refine ⟨⟨⟨own, fun k hk hh => ?_, B, bc, fo1, fc1, I, ic, y, hd.below hb⟩, hf, fun k hk => ?_⟩, hr.lower (Nat.le_of_lt hX)⟩
  · have h1 := ho k hk
    rcases hh with hh | rfl | hh
    · have := hE k hh; omega
    · have := hr.lowP; omega
    · have := (hr.lowF k hh).1; omega
  · have hs := hb.size
    rcases hk with hh | rfl | hh
    · have := hE k hh; omega
    · exact hr.pages.lt
    · exact (hr.lowF k hh).2
theorem fit_opened (s : List UInt8) (pages : Int) (n : Nat) (hn : s.length = 512 * n) (h1 : 1 ≤ n) (h3 : (n : Int) ≤ clampD pages) : Fit (openD s pages) (s.length / 512) := by
  have hdiv : s.length / 512 = n := by omega
  exact fit_open s pages (openR s pages).2 (by omega) (by omega) (by omega) (openR_onway s pages) (openR s pages).2.reverse (by rw [List.length_reverse]; exact Nat.le_refl _) (fun p hp => List.mem_reverse.1 hp)
set_option maxHeartbeats 4000000 in
set_option maxRecDepth 100000 in
theorem opens_any (s : List UInt8) (pages : Int) (W : World) (ht : TabAt W) (hs : s.length ≤ 30720000) :
    Calls Tryd.prog 30 #[.string (str s), .int .i64 pages] W fun e w' => e = .returned (.int .i64 0) ∧ Below W.heap.size W w' := by
  by_cases hb : s.length / 512 < 1 ∨ s.length % 512 ≠ 0 ∨ clampD pages < (s.length / 512 : Nat)
  · have ho := open_no s pages (by omega) hb (W := W)
    have hr := fun w => ropen_no s pages (by omega) hb w
    clear hb
    go_enter Tryd.func30, Tryd.ntmps30
    go_wp2_with fail
    refine ho.mono ?_
    rintro e w1 ⟨rfl, rfl⟩
    go_wp2_with fail
    refine (hr _).mono ?_
    rintro e w2 ⟨rfl, b2⟩
    go_wp2
    go_ret
    exact ⟨rfl, b2.alloc b2.size _⟩
  · obtain ⟨n, hn⟩ : ∃ n, s.length = 512 * n := ⟨s.length / 512, by omega⟩
    have h1 : 1 ≤ n := by omega
    have h3 : (n : Int) ≤ clampD pages := by omega
    have hft := fit_opened s pages n hn h1 h3
    have ho := Lib.hid (open_any s pages W ht n hn h1 h3)
    have hr := Lib.hid (fun w => ropen_any s pages w n hn h1 h3)
    have herr := openR_err s pages
    unfold Opened at ho
    unfold ROpened at hr
    obtain ⟨k, HK⟩ : ∃ k, Hid (s.length / 512 = k) := ⟨_, rfl⟩
    rw [HK.out] at hft
    rw [HK.out] at hr
    generalize openD s pages = d at ho hr hft
    generalize (openR s pages).1 = er at ho hr herr
    clear hb hn h1 h3
    by_cases he : er = 0
    · subst he
      go_enter Tryd.func30, Tryd.ntmps30
      go_wp2_with fail
      refine ho.out.mono ?_
      rintro e w1 (⟨_, own, X, rfl, hx, hown, b1⟩ | ⟨hne, _⟩)
      rotate_left
      · exact absurd rfl hne
      clear ho
      go_wp2_with fail
      refine (hr.out _).mono ?_
      rintro e w2 (⟨_, gp, cp, fo, fc, rfl, hra, b2⟩ | ⟨hne, _⟩)
      rotate_left
      · exact absurd rfl hne
      clear hr
      unfold rval
      have hP := pair_opened (E := fun j => j < W.heap.size) (fun _ h => h) hx hown hft b1.size hra b2
      have bA : Below w2.heap.size w2 (w2.alloc (.cells (rcells gp k cp fo d.free.length fc d) 46)) := (Below.refl _ _).alloc (Nat.le_refl _) _
      have hs2 := b2.size
      have hs1 := b1.size
      have hX : XM (fun j => j < W.heap.size) X W.heap.size w2.heap.size W (w2.alloc (.cells (rcells gp k cp fo d.free.length fc d) 46)) gp cp fo fc d k :=
        ⟨Box.new _ _ _, hP.below bA, (b1.trans (b2.mono hs1)).trans (bA.mono (by omega)), by have := bA.size; omega⟩
      clear hP bA hra hx
      haveI : Nonempty (UK.Kept (fun w' => XM (fun j => j < W.heap.size) X W.heap.size w2.heap.size W w' gp cp fo fc d k)) := ⟨⟨_, hX⟩⟩
      have v0 : ∀ q : UK.Kept (fun w' => XM (fun j => j < W.heap.size) X W.heap.size w2.heap.size W w' gp cp fo fc d k), q.w.cell? ⟨w2.heap.size, 0, none⟩ = some (.slice (some ⟨gp, 0, none⟩) k cp) := fun q => q.h.x.cell 0 _ rfl
      have v1 : ∀ q : UK.Kept (fun w' => XM (fun j => j < W.heap.size) X W.heap.size w2.heap.size W w' gp cp fo fc d k), q.w.cell? ⟨w2.heap.size, 1, none⟩ = some (.slice fo d.free.length fc) := fun q => q.h.x.cell 1 _ rfl
      have v2 : ∀ q : UK.Kept (fun w' => XM (fun j => j < W.heap.size) X W.heap.size w2.heap.size W w' gp cp fo fc d k), q.w.cell? ⟨w2.heap.size, 2, none⟩ = some (.int .i64 d.most) := fun q => q.h.x.cell 2 _ rfl
      have v3 : ∀ q : UK.Kept (fun w' => XM (fun j => j < W.heap.size) X W.heap.size w2.heap.size W w' gp cp fo fc d k), q.w.cell? ⟨w2.heap.size, 3, none⟩ = some (.int .i64 d.rl) := fun q => q.h.x.cell 3 _ rfl
      have v4 : ∀ q : UK.Kept (fun w' => XM (fun j => j < W.heap.size) X W.heap.size w2.heap.size W w' gp cp fo fc d k), q.w.cell? ⟨w2.heap.size, 4, none⟩ = some (.int .i64 d.wl) := fun q => q.h.x.cell 4 _ rfl
      have v5 : ∀ q : UK.Kept (fun w' => XM (fun j => j < W.heap.size) X W.heap.size w2.heap.size W w' gp cp fo fc d k), q.w.cell? ⟨w2.heap.size, 5, none⟩ = some (.int .i64 d.reads) := fun q => q.h.x.cell 5 _ rfl
      have v6 : ∀ q : UK.Kept (fun w' => XM (fun j => j < W.heap.size) X W.heap.size w2.heap.size W w' gp cp fo fc d k), q.w.cell? ⟨w2.heap.size, 6, none⟩ = some (.int .i64 d.puts) := fun q => q.h.x.cell 6 _ rfl
      have HK : ∀ p : UK.Kept (fun w' => XM (fun j => j < W.heap.size) X W.heap.size w2.heap.size W w' gp cp fo fc d k), XM (fun j => j < W.heap.size) X W.heap.size w2.heap.size W p.w gp cp fo fc d k := fun p => p.h
      have hbt := fun q : UK.Kept (fun w' => XM (fun j => j < W.heap.size) X W.heap.size w2.heap.size W w' gp cp fo fc d k) => xm_rbytes q.h hft
      unfold rval at hbt
      have HB := Lib.hid hbt
      clear hbt
      go_wp2_with fail
      refine UK.wp_region_kept (fun w' => XM (fun j => j < W.heap.size) X W.heap.size w2.heap.size W w' gp cp fo fc d k) (by kernel_rfl) (by kernel_rfl) (hX.next (Below.refl _ _).drew) ?_
      repeat (go_big_quiet_step (first | exact UK.kept_of (xm_bytes (HK _)) (fun _ _ hh => hh) | exact UK.kept_of (HB.out _) (fun _ _ hh => hh)))
      refine wpQuiet_nil ?_
      rintro ⟨w8, h8⟩
      clear HB v0 v1 v2 v3 v4 v5 v6 hX HK
      obtain ⟨u0, u1, u2, u3, u4, u5, u6, uf⟩ := h8.x.cells7
      have hsm := same_any h8.pair hft
      unfold rval at hsm
      have HSm := Lib.hid hsm
      clear hsm
      go_wp2_with fail
      refine HSm.out.mono ?_
      rintro e w9 ⟨rfl, _, b9⟩
      go_wp2
      go_ret
      exact ⟨rfl, h8.bel.trans (b9.mono h8.lt)⟩
    · have hb1 : (er == 0) = false := beq_eq_false_iff_ne.2 he
      have hb2 : (er != 0) = true := by rw [bne_iff_ne]; exact he
      go_enter Tryd.func30, Tryd.ntmps30
      go_wp2_with fail
      refine ho.out.mono ?_
      rintro e w1 (⟨h0, _⟩ | ⟨_, rfl, b1⟩)
      · exact absurd h0 he
      clear ho
      go_wp2_with fail
      refine (hr.out _).mono ?_
      rintro e w2 (⟨h0, _⟩ | ⟨_, rfl, b2⟩)
      · exact absurd h0 he
      clear hr he
      have hs1 := b1.size
      have hs2 := b2.size
      go_wp2
      go_ret
      exact ⟨rfl, (b1.trans (b2.mono hs1)).alloc (by omega) _⟩
end Go.Proofs.YtamnhpijeiigcaaDoor
