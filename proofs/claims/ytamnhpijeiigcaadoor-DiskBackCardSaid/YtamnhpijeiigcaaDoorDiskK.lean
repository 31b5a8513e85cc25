/-
  disk.Give.
-/
import Derived.Test.YtamnhpijeiigcaaDoorDiskJ
import Derived.Test.YtamnhpijeiigcaaDoorUPush
namespace Go.Proofs.YtamnhpijeiigcaaDoor
open Go.RowKit
open UK (str BytesAt nth Only w32 Row)
open Go.BigFrame
section
variable {W W' : World} {own : Nat → Prop} {D B bc fc I ic cnt : Nat} {fo : Option Addr} {y : List UInt8} {d : Dk}
/-- what is owned, and one block more -/
def also (own : Nat → Prop) (g : Nat) (k : Nat) : Prop := own k ∨ k = g
theorem Moves.of_also {g : Nat} (ho : Only g W W') (hg : own g ∨ W.heap.size ≤ g) : Moves own (also own g) W W' :=
  ⟨ho.os, ho.tape, ho.output, ho.size, fun k hk hn => ho.block k hk (fun e => by subst e; rcases hg with h | h; exact hn h; omega), fun k hk => by
    rcases hk with h | rfl
    · exact .inl h
    · exact hg⟩
/-- one free page more -/
theorem push_free (h : DiskAt W own D B bc fo fc I ic y d) (p : Nat) (hl : d.free.length ≤ 60000) :
    ∃ g' c' W', (Builtin.append_ #[22, 22] 22 #[.slice fo d.free.length fc, .slice (some ⟨W.heap.size, 0, none⟩) 1 1]).run Tryd.prog (W.alloc (.cells #[.int .i64 (p : Int)] 3)) = .ok (.slice (some ⟨g', 0, none⟩) (d.free.length + 1) c') W' ∧ Row W' g' c' (ints (d.free ++ [p])) ∧ Only g' W W' ∧ (own g' ∨ W.heap.size ≤ g') ∧ g' ≠ D ∧ g' ≠ B ∧ g' ≠ I := by
  have ha : (fo = none ∧ ints d.free = [] ∧ fc = 0) ∨ ∃ g, fo = some ⟨g, 0, none⟩ ∧ Row W g fc (ints d.free) := by
    rcases h.freeAt with ⟨a, b, c⟩ | ⟨F, e, r, _⟩
    · exact .inl ⟨a, by rw [b]; rfl, c⟩
    · exact .inr ⟨F, e, r⟩
  obtain ⟨g', c', W', e, r, o, hg⟩ := UK.push_one (P := Tryd.prog) (t := 22) (ty := 22) Tryd.underlying22 (i := Tryd.t3) rfl rfl rfl (show (8 : Nat) ≤ 16 by omega) rfl ha (.int .i64 (p : Int)) rfl (by rw [ints_length]; omega)
  rw [ints_length] at e
  refine ⟨g', c', W', e, by unfold ints at *; rw [List.map_append]; exact r, o, ?_⟩
  rcases hg with hg | hg
  · rcases h.freeAt with ⟨a, _⟩ | ⟨F, e2, _, n1, n2, n3, n4⟩
    · rw [a] at hg; cases hg
    · rw [e2] at hg
      obtain rfl : F = g' := congrArg Addr.block (Option.some.inj hg)
      exact ⟨.inl n4, n1, n2, n3⟩
  · have := h.cells.lt
    have := h.bytes.lt
    have := h.flags.lt
    exact ⟨.inr hg, by omega, by omega, by omega⟩
/-- the free pages lie elsewhere, and are others -/
theorem DiskAt.freeTo (h : DiskAt W own D B bc fo fc I ic y d) {g' c' : Nat} {l : List Nat} (hr : Row W' g' c' (ints l)) (ho : Only g' W W') (h1 : g' ≠ D) (h2 : g' ≠ B) (h3 : g' ≠ I) (h4 : own g' ∨ W.heap.size ≤ g') :
    DiskAt (W'.setCell ⟨D, 2, none⟩ (.slice (some ⟨g', 0, none⟩) l.length c')) (also own g') D B bc (some ⟨g', 0, none⟩) c' I ic y { d with free := l } := by
  have hc := (h.cells.only ho h1.symm).set 2 (.slice (some ⟨g', 0, none⟩) l.length c') (by show 2 < 8; omega)
  have o2 := (Only.refl D W').set 2 (.slice (some ⟨g', 0, none⟩) l.length c')
  have htl := h.tab.lt
  have hnt : 0 ≠ g' := fun e => by
    rcases h4 with h4 | h4
    · exact h.notab (e ▸ h4)
    · omega
  refine ⟨hc, o2.bytes (ho.bytes h.bytes h2.symm) h.DB.symm, h.ylen, h.le, h.pre, .inr ⟨g', rfl, hr.only o2 h1, h1, h2, h3, .inr rfl⟩, (h.flags.only ho h3.symm).only o2 h.DI.symm, h.DB, h.DI, h.BI, .inl h.oD, .inl h.oB, .inl h.oI, ?_, fun hh => ?_⟩
  · exact UK.TabAt_only (UK.TabAt_only h.tab ho hnt) o2 h.noD
  · rcases hh with hh | hh
    · exact h.notab hh
    · exact hnt hh
/-- a page's flag -/
theorem DiskAt.flagTo (h : DiskAt W own D B bc fo fc I ic y d) (p : Nat) (b : Bool) (hp : p < d.isf.length) :
    DiskAt (W.setCell ⟨I, p, none⟩ (.bool b)) own D B bc fo fc I ic y { d with isf := d.isf.set p b } := by
  have hr := h.flags.set p (.bool b) (by rw [bools_length]; exact hp)
  have o := (Only.refl I W).set p (.bool b)
  have hnt : 0 ≠ I := fun e => h.notab (e ▸ h.oI)
  refine ⟨?_, o.bytes h.bytes h.BI, h.ylen, h.le, h.pre, ?_, by unfold bools at hr ⊢; rw [List.map_set]; exact hr, h.DB, h.DI, h.BI, h.oD, h.oB, h.oI, UK.TabAt_only h.tab o hnt, h.notab⟩
  · have hc := h.cells.only o h.DI
    unfold Dk.vals at hc ⊢
    rw [List.length_set]
    exact hc
  · rcases h.freeAt with h0 | ⟨F, e, r, n1, n2, n3, n4⟩
    · exact .inl h0
    · exact .inr ⟨F, e, r.only o n3, n1, n2, n3, n4⟩
/-- behind a page given back -/
def giveD (d : Dk) (p : Nat) : Dk := { d with wl := failN d.wl, puts := d.puts + 1, x := UK.wr d.x (512 * p) (pageL p (nextL d d.free.length)), free := d.free ++ [p], isf := d.isf.set p true }
/-- one write more -/
def paidD (d : Dk) : Dk := { d with wl := failN d.wl, puts := d.puts + 1 }
set_option maxHeartbeats 1000000 in
set_option maxRecDepth 100000 in
theorem give_yes (h : DiskAt W own D B bc fo fc I ic y d) (f : Fit d cnt) (hq3 : d.puts + 1 < 1000000000) (p : Nat) (hp : p < cnt) (hh : hasD d cnt p = true) (h0 : d.wl ≠ 0) :
    Calls Tryd.prog 12 #[.pointer (some ⟨D, 0, none⟩), .int .i64 p] W fun e w' => e = .returned (.int .i64 0) ∧ ∃ own', Disk w' own' D (giveD d p) ∧ Moves own own' W w' := by
  have hc := hasd_any h f p
  rw [hh] at hc
  have HE : Hid (failE d.wl = 0) := by show _ = _; unfold failE; rw [if_neg h0]
  have HQ3 := Lib.hid hq3
  have hq1 := f.puts.1
  have hq2 := f.puts.2
  have hwl' := failN_wf d.wl f.wl
  have hfew := f.few
  have hfl := f.freeLe
  have hil := f.flags
  clear h0 hq3
  go_enter Tryd.func12, Tryd.ntmps12
  go_wp2_with fail
  refine hc.mono ?_
  rintro e w' ⟨rfl, q, rfl⟩
  have h1 := h.drewN q
  have m1 := Moves.of_below (o := own) (UK.belowN (Below.refl W.heap.size W) q)
  generalize W.drewN q = w1 at h1 m1 ⊢
  have hfail := fail_any h1.cells 5 d.wl rfl f.wl
  rw [HE.out] at hfail
  go_wp2_with fail
  refine hfail.mono ?_
  rintro e w2 ⟨rfl, r1, o1⟩
  have h2 := h1.turnD (d' := { d with wl := failN d.wl }) r1 o1 rfl rfl rfl
  have c7 := h2.cells.at' 7 _ rfl
  have f7 := h2.cells.free 7 (by omega)
  have r3 := h2.cells.set 7 (.int .i64 (d.puts + 1)) (by show 7 < 8; omega)
  have o3 := (Only.refl D w2).set 7 (.int .i64 (d.puts + 1))
  have h3 := h2.turnD (d' := paidD d) r3 o3 rfl rfl rfl
  have m3 := (m1.trans (Moves.of_only o1 h.oD)).trans (Moves.of_only o3 h.oD)
  have d3 : Dat W (w2.setCell ⟨D, 7, none⟩ (.int .i64 (d.puts + 1))) own D B bc fo fc I ic y (paidD d) cnt :=
    ⟨h3, ⟨f.len, f.flags, f.one, f.few, f.most, f.free, f.freeLe, f.rl, hwl', f.reads, by show 0 ≤ d.puts + 1 ∧ _; exact ⟨by omega, HQ3.out⟩⟩, m3⟩
  have c2 := d3.at_.cells.at' 2 _ rfl
  go_wp2_with fail
  refine (next_dat d3 d.free.length (Nat.le_refl _)).mono ?_
  rintro e w4 ⟨rfl, d4⟩
  go_wp2_with fail
  refine (lay_dat d4 p (nextL (paidD d) d.free.length) hp (by rw [nextL_length]; decide)).mono ?_
  rintro e w5 ⟨rfl, y5, d5⟩
  have h5 := d5.at_
  have m5 := d5.moves
  clear hc hfail h1 h2 h3 d3 d4 d5 r1 o1 r3 o3 m1 m3 c7 f7 c2
  have c2 := h5.cells.at' 2 _ rfl
  obtain ⟨g', c', w6, e6, r6, o6, k1, k2, k3, k4⟩ := push_free h5 p (by show d.free.length ≤ 60000; omega)
  have h7 := h5.freeTo r6 o6 k2 k3 k4 k1
  have m7 := (m5.trans (Moves.of_also o6 k1)).trans (Moves.of_only ((Only.refl D w6).set 2 (.slice (some ⟨g', 0, none⟩) (d.free.length + 1) c')) (.inl h.oD))
  have f2 : w6.frozen? ⟨D, 2, none⟩ = false := (h5.cells.only o6 k2.symm).free 2 (by omega)
  have c2' := (h5.cells.only o6 k2.symm).at' 2 _ rfl
  rw [List.length_append, List.length_singleton] at h7
  have hpl : p < d.isf.length := by omega
  have h8 := h7.flagTo p true hpl
  have m8 := m7.trans (Moves.of_only ((Only.refl I _).set p (.bool true)) (show also own g' I from .inl h.oI))
  have c3 := h7.cells.at' 3 _ rfl
  have fp := h7.flags.free p (by have := h7.flags.le; rw [bools_length] at this; exact Nat.lt_of_lt_of_le hpl this)
  have cp := h7.flags.at' p _ (bools_at d.isf p hpl)
  clear h7 m7 h5 m5
  go_wp2_with (at_builtin; refine UK.wpList_append_run e6 rfl rfl rfl rfl rfl ?_)
  go_ret
  exact ⟨rfl, also own g', ⟨B, bc, _, c', I, ic, y5, h8⟩, m8⟩
end
end Go.Proofs.YtamnhpijeiigcaaDoor
