/-
  The law's same; DiskPlays.
-/
import Derived.Test.YtamnhpijeiigcaaDoorPlayF
import Derived.Test.YtamnhpijeiigcaaDoorPlayG
import Derived.Test.YtamnhpijeiigcaaDoorPlayD
namespace Go.Proofs.YtamnhpijeiigcaaDoor
open Go.RowKit
open UK (str BytesAt nth Only w32 Row Box)
open Go.BigFrame
section
variable {E : Nat → Prop} {N k : Nat} {W w w1 : World} {gp cp fc cnt : Nat} {fo : Option Addr} {d : Dk}
/-- within same -/
structure SM (E : Nat → Prop) (N : Nat) (W w : World) (gp cp : Nat) (fo : Option Addr) (fc : Nat) (d : Dk) (cnt : Nat) : Prop where
  x : Box w W.heap.size (rcells gp cnt cp fo d.free.length fc d)
  pair : Pair E N w gp cp fo fc d cnt
  bel : Below W.heap.size W w
theorem SM.next (h : SM E N W w gp cp fo fc d cnt) (hb : Below w.heap.size w w1) : SM E N W w1 gp cp fo fc d cnt := ⟨h.x.next hb, h.pair.below hb, h.bel.trans (hb.mono h.bel.size)⟩
theorem SM.drewN (h : SM E N W w gp cp fo fc d cnt) (q : Nat) : SM E N W (w.drewN q) gp cp fo fc d cnt := h.next (UK.belowN (Below.refl _ _) q)
theorem sm_count (h : SM E N W w gp cp fo fc d cnt) :
    Calls Tryd.prog 14 #[.pointer (some ⟨N, 0, none⟩)] w fun e w' => e = .returned (.int .i64 cnt) ∧ SM E N W w' gp cp fo fc d cnt := (dd_count h.pair.dd).mono fun _ _ ⟨a, e⟩ => ⟨a, e ▸ h⟩
theorem sm_free (h : SM E N W w gp cp fo fc d cnt) :
    Calls Tryd.prog 29 #[.pointer (some ⟨N, 0, none⟩)] w fun e w' => e = .returned (.int .i64 d.free.length) ∧ SM E N W w' gp cp fo fc d cnt := (dd_free h.pair.dd).mono fun _ _ ⟨a, e⟩ => ⟨a, e ▸ h⟩
theorem sm_reads (h : SM E N W w gp cp fo fc d cnt) :
    Calls Tryd.prog 45 #[.pointer (some ⟨N, 0, none⟩)] w fun e w' => e = .returned (.int .i64 d.reads) ∧ SM E N W w' gp cp fo fc d cnt := (dd_reads h.pair.dd).mono fun _ _ ⟨a, e⟩ => ⟨a, e ▸ h⟩
theorem sm_writes (h : SM E N W w gp cp fo fc d cnt) :
    Calls Tryd.prog 46 #[.pointer (some ⟨N, 0, none⟩)] w fun e w' => e = .returned (.int .i64 d.puts) ∧ SM E N W w' gp cp fo fc d cnt := (dd_writes h.pair.dd).mono fun _ _ ⟨a, e⟩ => ⟨a, e ▸ h⟩
theorem sm_room (h : SM E N W w gp cp fo fc d cnt) :
    Calls Tryd.prog 13 #[.pointer (some ⟨N, 0, none⟩)] w fun e w' => e = .returned (.int .i64 (d.most - cnt + d.free.length)) ∧ SM E N W w' gp cp fo fc d cnt := (dd_room h.pair.dd).mono fun _ _ ⟨a, q, e⟩ => ⟨a, e ▸ h.drewN q⟩
set_option maxHeartbeats 4000000 in
set_option maxRecDepth 100000 in
theorem same_any (h : Pair E N W gp cp fo fc d cnt) (f : Fit d cnt) :
    Calls Tryd.prog 24 #[.pointer (some ⟨N, 0, none⟩), rval gp cnt cp fo d.free.length fc d] W fun e w' => e = .returned (.int .i64 0) ∧ Pair E N w' gp cp fo fc d cnt ∧ Below W.heap.size W w' := by
  have hfew := f.few
  have hfl := f.freeLe
  have hm1 := f.most.1
  have hm2 := f.most.2.1
  have hm3 := f.most.2.2
  have b0 := (Below.refl W.heap.size W).alloc (Nat.le_refl _) (.cells (rcells gp cnt cp fo d.free.length fc d) 46)
  obtain ⟨V, HV⟩ : ∃ V, Hid (V = W.alloc (.cells (rcells gp cnt cp fo d.free.length fc d) 46)) := ⟨_, rfl⟩
  have hl : SM E N W V gp cp fo fc d cnt := by rw [HV.out]; exact ⟨Box.new _ _ _, h.below b0, b0⟩
  unfold rval
  go_enter Tryd.func24, Tryd.ntmps24
  go_wp2_with fail
  rw [← HV.out]
  refine UK.wp_region_kept (fun w' => SM E N W w' gp cp fo fc d cnt) (by kernel_rfl) (by kernel_rfl) (hl.drewN 1) ?_
  haveI : Nonempty (UK.Kept fun w' => SM E N W w' gp cp fo fc d cnt) := ⟨⟨V, hl⟩⟩
  have v0 : ∀ k : UK.Kept (fun w' => SM E N W w' gp cp fo fc d cnt), k.w.cell? ⟨W.heap.size, 0, none⟩ = some (.slice (some ⟨gp, 0, none⟩) cnt cp) := fun k => k.h.x.cell 0 _ rfl
  have v1 : ∀ k : UK.Kept (fun w' => SM E N W w' gp cp fo fc d cnt), k.w.cell? ⟨W.heap.size, 1, none⟩ = some (.slice fo d.free.length fc) := fun k => k.h.x.cell 1 _ rfl
  have v2 : ∀ k : UK.Kept (fun w' => SM E N W w' gp cp fo fc d cnt), k.w.cell? ⟨W.heap.size, 2, none⟩ = some (.int .i64 d.most) := fun k => k.h.x.cell 2 _ rfl
  have v5 : ∀ k : UK.Kept (fun w' => SM E N W w' gp cp fo fc d cnt), k.w.cell? ⟨W.heap.size, 5, none⟩ = some (.int .i64 d.reads) := fun k => k.h.x.cell 5 _ rfl
  have v6 : ∀ k : UK.Kept (fun w' => SM E N W w' gp cp fo fc d cnt), k.w.cell? ⟨W.heap.size, 6, none⟩ = some (.int .i64 d.puts) := fun k => k.h.x.cell 6 _ rfl
  have HK : ∀ p : UK.Kept (fun w' => SM E N W w' gp cp fo fc d cnt), SM E N W p.w gp cp fo fc d cnt := fun p => p.h
  repeat (go_big_quiet_step (first | exact UK.kept_of (sm_count (HK _)) (fun _ _ hh => hh) | exact UK.kept_of (sm_free (HK _)) (fun _ _ hh => hh) | exact UK.kept_of (sm_room (HK _)) (fun _ _ hh => hh) | exact UK.kept_of (sm_reads (HK _)) (fun _ _ hh => hh) | exact UK.kept_of (sm_writes (HK _)) (fun _ _ hh => hh)))
  refine wpQuiet_nil ?_
  rintro ⟨w4, hl⟩
  go_wp2
  go_ret
  exact ⟨rfl, hl.pair, hl.bel⟩
theorem does_all (h : Pair E N W gp cp fo fc d cnt) (o : Ok d cnt k) (hk : k < 1000) (hN : N < W.heap.size) (htab : 0 < N) (q : Act1) (hq : q.nn ≤ 9223372036854775807) :
    Calls Tryd.prog 23 #[.pointer (some ⟨N, 0, none⟩), rval gp cnt cp fo d.free.length fc d, .agg #[.int .i64 q.kd, .int .i64 q.pp, .int .i64 q.nn, .string (str q.si), .bool q.fu, .int .u8 (q.by_.toNat : Int)]] W fun e w' => Done E N k W w' gp fo e := by
  by_cases h1 : q.kd = 1
  · exact does_take h o hk hN htab q h1
  by_cases h2 : q.kd = 2
  · exact does_give h o hk hN htab q h2
  by_cases h3 : q.kd = 3
  · exact does_read h o hk hN htab q h3
  by_cases h4 : q.kd = 4
  · exact does_write h o hk hN htab q h4
  by_cases h5 : q.kd = 5
  · exact does_flush h o hk hN htab q h5
  by_cases h6 : q.kd = 6
  · exact does_failRead h o hk hN htab q hq h6
  by_cases h7 : q.kd = 7
  · exact does_failWrite h o hk hN htab q hq h7
  by_cases h8 : q.kd = 8
  · exact does_spoil h o hk hN htab q hq h8
  exact does_none h o hk hN htab q hq (beq_eq_false_iff_ne.2 h1) (beq_eq_false_iff_ne.2 h2) (beq_eq_false_iff_ne.2 h3) (beq_eq_false_iff_ne.2 h4) (beq_eq_false_iff_ne.2 h5) (beq_eq_false_iff_ne.2 h6) (beq_eq_false_iff_ne.2 h7) (beq_eq_false_iff_ne.2 h8)
end
end Go.Proofs.YtamnhpijeiigcaaDoor
