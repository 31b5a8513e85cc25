/-
  A pool that is flushed; how often pages are used.
  tabularlaw08.Shows: the tree has just these keys.
-/
import Derived.Test.YtfljlcfmdcepnaaGreatDoorJPoolJ
import Derived.Test.YtfljlcfmdcepnaaGreatDoorJTsV
namespace Go.Proofs.YtfljlcfmdcepnaaGreatDoor
open Go.RowKit
open UK (str BytesAt nth Only Row Box)
open Go.BigFrame
section
variable {E : Nat → Prop} {W W' : World} {P D k : Nat} {A : AP}
def PZF (E : Nat → Prop) (W : World) (P D : Nat) (A : AP) (k : Nat) : Prop :=
  ∃ FB M n q d0, PS E W P D FB M n 0 q (flushD d0 A.cnt) A.cnt k A.c ∧ 1 ≤ n ∧ Is A q (flushD d0 A.cnt) ∧ Clean d0 A.cnt ∧ d0.puts + 1 < 1000000000 ∧ d0.free = A.free ∧ d0.most = A.most ∧ ∀ p, 1 ≤ p → p < A.cnt → p ∉ A.free → lookL (flushD d0 A.cnt).x p = A.c p
theorem PZF.pz (h : PZF E W P D A k) : PZ E W P D A k := by
  obtain ⟨FB, M, n, q, d0, h1, h2, h3, _⟩ := h
  exact ⟨FB, M, n, q, _, h1, h2, h3⟩
theorem pz_flush (h : PZ E W P D A k) (hk : k + 1001 < 900000000) :
    Calls Tryz.prog 9 #[.pointer (some ⟨P, 0, none⟩)] W fun e w' => e = .returned (.int .i64 0) ∧ PZF E w' P D A (k + 1001) ∧ Kept E W w' := by
  obtain ⟨FB, M, n, q, d, h1, hn, his⟩ := h
  have hn1000 : n ≤ 1000 := by rw [← h1.len]; exact h1.ok.few
  refine (pflush_any h1 (by omega)).mono ?_
  rintro e w' ⟨q', d0, rfl, s, kk, hop, hc, hp, hfr, hmo, hl⟩
  obtain ⟨_, _, _, f1, _, f3⟩ := hc.flush hp
  exact ⟨rfl, ⟨FB, M, n, q', d0, s.up (by omega), hn, ⟨by rw [f1, hfr, his.free], by rw [f3, hmo, his.most], by rw [hop]; exact his.op⟩, hc, hp, hfr.trans his.free, hmo.trans his.most, fun p a b c => hl p a b (by rw [his.free]; exact c)⟩, kk⟩
theorem pz_pinned (h : PZ E W P D A k) :
    Calls Tryz.prog 48 #[.pointer (some ⟨P, 0, none⟩)] W fun e w' => e = .returned (.int .i64 0) ∧ w' = W := by
  obtain ⟨FB, M, n, q, d, h1, hn, his⟩ := h
  have := pinned_any h1.pd.pool
  rw [h1.pins] at this
  exact this
end
end Go.Proofs.YtfljlcfmdcepnaaGreatDoor
namespace Go.Proofs.YtfljlcfmdcepnaaGreatDoor
open Go.RowKit
open UK (str BytesAt nth Only Row Box)
section
variable {E : Nat → Prop} {W W' : World} {P D T k c d m : Nat} {A : AP} {l : List KV} {ps : List Nat} {ao bo : Option Addr} {op : Bool}
set_option maxHeartbeats 4000000 in
set_option maxRecDepth 100000 in
theorem shows_any (h : TreeAt E W P D T 1 A k) (hl : l.length ≤ 2000) (hk : k + 500000 < 900000000) (ht : TI A 1 l ps) (hg : A.Good) (hp : PrX W ao c l) (hao : ∀ b, slB ao b → E b) (ask : UInt64) :
    Calls Tryz.prog 15 #[.agg (rcells P T ao l.length c bo m d op), .int .u64 ask.toNat] W fun e w' => e = .returned (.int .i64 0) ∧ TreeAt E w' P D T 1 A (k + 400000) ∧ Kept E W w' := by
  have hth := h.pz.there
  have htl := h.pz.tab.lt
  have hT := hth T h.mem
  have b1 : Below W.heap.size W (W.alloc (.cells (rcells P T ao l.length c bo m d op) 30)) := (Below.refl _ _).alloc (Nat.le_refl _) _
  have z1 : (W.alloc (.cells (rcells P T ao l.length c bo m d op) 30)).heap.size = W.heap.size + 1 := by simp
  have x1 := Box.new W (rcells P T ao l.length c bo m d op) 30
  have z2 : ((W.alloc (.cells (rcells P T ao l.length c bo m d op) 30)).alloc (.cells #[.int .i64 0] 3)).heap.size = W.heap.size + 2 := by simp
  have x2 := Box.new (W.alloc (.cells (rcells P T ao l.length c bo m d op) 30)) #[.int .i64 0] 3
  have b2 := b1.alloc b1.size (.cells #[.int .i64 0] 3)
  have x3 := Box.new ((W.alloc (.cells (rcells P T ao l.length c bo m d op) 30)).alloc (.cells #[.int .i64 0] 3)) #[.bool true] 4
  have b3 := b2.alloc b2.size (.cells #[.bool true] 4)
  have z3 : (((W.alloc (.cells (rcells P T ao l.length c bo m d op) 30)).alloc (.cells #[.int .i64 0] 3)).alloc (.cells #[.bool true] 4)).heap.size = W.heap.size + 3 := by simp
  have x1' := (x1.alloc (.cells #[.int .i64 0] 3)).alloc (.cells #[.bool true] 4)
  have x2' := x2.alloc (.cells #[.bool true] 4)
  rw [z1] at x2'
  rw [z2] at x3
  replace x3 : Box _ (W.heap.size + 1 + 1) #[.bool true] := x3
  generalize hw3 : ((W.alloc (.cells (rcells P T ao l.length c bo m d op) 30)).alloc (.cells #[.int .i64 0] 3)).alloc (.cells #[.bool true] 4) = w3 at b3 z3 x1' x2' x3
  have hE3 : ∀ j, (fun b => E b ∨ (W.heap.size ≤ b ∧ b < W.heap.size + 3)) j → E j ∨ (W.heap.size ≤ j ∧ j < w3.heap.size) := fun j hj => by rw [z3]; exact hj
  have t3 : TreeAt (fun b => E b ∨ (W.heap.size ≤ b ∧ b < W.heap.size + 3)) w3 P D T 1 A k := ⟨h.pz.wide b3 hE3, h.box.next b3, .inl h.mem⟩
  have p3 := hp.next b3
  have hWk := tree_walk_any (ob := W.heap.size + 1 + 1) (nbk := W.heap.size + 1) (rb := W.heap.size) t3 hl (by omega) ht hg x3 x2' x1' p3 (.inr ⟨by omega, by omega⟩) (.inr ⟨by omega, by omega⟩) (.inr ⟨by omega, by omega⟩)
    (fun b hb => ⟨.inl (hao b hb), by have := hth b (hao b hb); omega, by have := hth b (hao b hb); omega⟩) (by omega) (by omega) (by omega) (by omega) (by omega) (by omega) (by omega)
  have HAO := Lib.hid hao
  have HH := Lib.hid (And.intro h (And.intro ht (And.intro hg (And.intro hp (And.intro b3 (And.intro x1' (And.intro hth hT)))))))
  have c1 : w3.cell? ⟨W.heap.size, 1, none⟩ = some (.pointer (some ⟨T, 0, none⟩)) := x1'.cell 1 _ rfl
  have HW3 := Lib.hid hw3
  rw [← hw3] at hWk c1
  have HWk := Lib.hid hWk
  clear h ht hg hp b3 x1' x1 x2 x2' x3 b1 b2 z1 z2 z3 hE3 t3 p3 hth htl hT hao hw3 hWk
  go_enter Tryz.func15, Tryz.ntmps15
  go_wp2_with fail
  refine HWk.out.mono ?_
  rintro e w4 ⟨rfl, hW⟩
  rw [HW3.out] at hW
  obtain ⟨t4, y1, y2, k4⟩ := hW
  obtain ⟨h, ht, hg, hp, b3, x1', hth, hT⟩ := HH.out
  have x4 := x1'.of_block (k4.block W.heap.size ⟨.inr ⟨Nat.le_refl _, by omega⟩, by omega, by omega⟩)
  have kW : Kept E W w4 := (Kept.of_below b3 hth).trans (k4.mono (fun j hj => ⟨.inl hj, by have := hth j hj; omega, by have := hth j hj; omega⟩))
  have p4 := hp.of_block kW.size (fun b hb => kW.block b (HAO.out b hb))
  have HPin := Lib.hid (pz_pinned t4.pz)
  have v1 : w4.cell? ⟨W.heap.size + 1 + 1, 0, none⟩ = some (.bool true) := y1.cell 0 _ rfl
  have v2 : w4.cell? ⟨W.heap.size + 1, 0, none⟩ = some (.int .i64 (l.length : Int)) := y2.cell 0 _ rfl
  have v3 : w4.cell? ⟨W.heap.size, 2, none⟩ = some (.slice ao l.length c) := x4.cell 2 _ rfl
  have v0 : w4.cell? ⟨W.heap.size, 0, none⟩ = some (.pointer (some ⟨P, 0, none⟩)) := x4.cell 0 _ rfl
  have v4 : w4.cell? ⟨W.heap.size, 1, none⟩ = some (.pointer (some ⟨T, 0, none⟩)) := x4.cell 1 _ rfl
  have H4 := Lib.hid (And.intro x4 (And.intro kW p4))
  obtain ⟨x4, kW, p4⟩ := H4.out
  have HTH := Lib.hid hth
  have HPX := Lib.hid (fun (w : World) (kw : Kept E W w) => hp.of_block kw.size (fun b hb => kw.block b (HAO.out b hb)))
  have hRG := fun (w : World) (p : PrX w ao c l) => rget_any ask p ht.rise (by omega)
  have hRN := fun (w : World) (p : PrX w ao c l) => rnext_any ask p (by omega)
  have hNX := fun (w : World) (t : TreeAt (fun b => E b ∨ (W.heap.size ≤ b ∧ b < W.heap.size + 3)) w P D T 1 A (k + 300000 + 50)) => tree_next_any t (by omega) ht hg ask
  have hGet := tree_get_any t4 (by omega) ht hg ask
  have HFIN := Lib.hid (fun (w8 w9 : World) (t8 : TreeAt (fun b => E b ∨ (W.heap.size ≤ b ∧ b < W.heap.size + 3)) w8 P D T 1 A (k + 300000 + 50 + 100)) (k8 : Kept E W w8) (b9 : Below w8.heap.size w8 w9) => (show ∀ cs, TreeAt E (w9.alloc (.cells cs 102)) P D T 1 A (k + 400000) ∧ Kept E W (w9.alloc (.cells cs 102)) from fun cs => by
    have b10 := b9.alloc b9.size (.cells cs 102)
    exact ⟨⟨((t8.pz.next b10).less (fun _ hj => .inl hj)).up (by omega), t8.box.next b10, h.mem⟩, k8.trans (Kept.of_below b10 (fun j hj => Nat.lt_of_lt_of_le (hth j hj) k8.size))⟩))
  generalize valL l ask = ov at hGet hRG
  generalize nxtL l ask = on at hNX hRN
  have HGet := Lib.hid hGet
  have HRG := Lib.hid hRG
  have HRN := Lib.hid hRN
  have HNX := Lib.hid hNX
  clear HWk HW3 c1 t4 y1 y2 k4 h ht hg hp b3 x1' hth hT x4 kW p4 hGet hRG hRN hNX HH HAO
  rcases ov with _ | x <;> rcases on with _ | y
  all_goals
    go_wp2_with fail
    refine HPin.out.mono ?_
    rintro e w5 ⟨rfl, rfl⟩
    go_wp2_with fail
    refine HGet.out.mono ?_
    rintro e w6 ⟨rfl, t6, k6⟩
    obtain ⟨x4, kW, p4⟩ := H4.out
    have x6 := x4.of_block (k6.block W.heap.size (.inr ⟨Nat.le_refl _, by omega⟩))
    have kW6 : Kept E W w6 := kW.trans (k6.mono (fun _ hj => .inl hj))
    have v6 : w6.cell? ⟨W.heap.size, 2, none⟩ = some (.slice ao l.length c) := x6.cell 2 _ rfl
    have HR := Lib.hid (HRG.out w6 (HPX.out w6 kW6))
    have H6 := Lib.hid (And.intro t6 (And.intro kW6 x6))
    clear HPin HGet t6 k6 x4 kW p4 x6 kW6 v0 v1 v2 v3 v4
    unfold GetAns
    go_wp2_with fail
    refine HR.out.mono ?_
    rintro e w7 ⟨rfl, b7⟩
    obtain ⟨t6, kW6, x6⟩ := H6.out
    have t7 : TreeAt (fun b => E b ∨ (W.heap.size ≤ b ∧ b < W.heap.size + 3)) w7 P D T 1 A (k + 300000 + 50) := ⟨t6.pz.next b7, t6.box.next b7, t6.mem⟩
    have x7 := x6.next b7
    have kW7 : Kept E W w7 := kW6.trans (Kept.of_below b7 (fun j hj => Nat.lt_of_lt_of_le (HTH.out j hj) kW6.size))
    have v7 : w7.cell? ⟨W.heap.size, 1, none⟩ = some (.pointer (some ⟨T, 0, none⟩)) := x7.cell 1 _ rfl
    have HN := Lib.hid (HNX.out w7 t7)
    have H7 := Lib.hid (And.intro x7 kW7)
    clear HR H6 t6 kW6 x6 b7 t7 x7 kW7 v6
    unfold PGet
    go_wp2_with fail
    refine HN.out.mono ?_
    rintro e w8 ⟨rfl, t8, k8⟩
    obtain ⟨x7, kW7⟩ := H7.out
    have x8 := x7.of_block (k8.block W.heap.size (.inr ⟨Nat.le_refl _, by omega⟩))
    have kW8 : Kept E W w8 := kW7.trans (k8.mono (fun _ hj => .inl hj))
    have v8 : w8.cell? ⟨W.heap.size, 2, none⟩ = some (.slice ao l.length c) := x8.cell 2 _ rfl
    have HR2 := Lib.hid (HRN.out w8 (HPX.out w8 kW8))
    have H8 := Lib.hid (And.intro t8 kW8)
    clear HN H7 t8 k8 x7 kW7 x8 kW8 v7
    unfold NxtAns
    go_wp2_with fail
    refine HR2.out.mono ?_
    rintro e w9 ⟨rfl, b9⟩
    have HF := Lib.hid (HFIN.out w8 w9 H8.out.1 H8.out.2 b9)
    clear HR2 H8 b9 v8
    unfold PairAns
    go_wp2_with fail
    go_ret
    exact ⟨rfl, HF.out _⟩
end
end Go.Proofs.YtfljlcfmdcepnaaGreatDoor
