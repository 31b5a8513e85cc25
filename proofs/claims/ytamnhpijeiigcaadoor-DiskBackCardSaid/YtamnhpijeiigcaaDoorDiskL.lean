/-
  disk.Take.
-/
import Derived.Test.YtamnhpijeiigcaaDoorDiskK
namespace Go.Proofs.YtamnhpijeiigcaaDoor
open Go.RowKit
open UK (str BytesAt nth Only w32 Row)
open Go.BigFrame
section
variable {W W' : World} {own : Nat → Prop} {D B bc fc I ic cnt : Nat} {fo : Option Addr} {y : List UInt8} {d : Dk}
theorem take_full (h : DiskAt W own D B bc fo fc I ic y d) (f : Fit d cnt) (hr : d.most - cnt + d.free.length = 0) :
    Calls Tryd.prog 11 #[.pointer (some ⟨D, 0, none⟩)] W fun e w' => e = .returned (.tuple #[.int .i64 0, .int .i64 6]) ∧ Disk w' own D d ∧ Moves own own W w' := by
  have hc := room_any h f
  rw [hr] at hc
  go_enter Tryd.func11, Tryd.ntmps11
  go_wp2_with fail
  refine hc.mono ?_
  rintro e w' ⟨rfl, q, rfl⟩
  go_wp2
  go_ret2
  exact ⟨rfl, ⟨B, bc, fo, fc, I, ic, y, h.drewN q⟩, Moves.of_below (UK.belowN (Below.refl _ _) q)⟩
theorem take_fail (h : DiskAt W own D B bc fo fc I ic y d) (f : Fit d cnt) (hr : 0 < d.most - cnt + d.free.length) (h0 : d.wl = 0) :
    Calls Tryd.prog 11 #[.pointer (some ⟨D, 0, none⟩)] W fun e w' => e = .returned (.tuple #[.int .i64 0, .int .i64 7]) ∧ Disk w' own D { d with wl := -1 } ∧ Moves own own W w' := by
  have hc := room_any h f
  obtain ⟨r, HR⟩ : ∃ r, Hid (d.most - cnt + d.free.length = r) := ⟨_, rfl⟩
  rw [HR.out] at hc hr
  have HE : Hid (failE d.wl = 7) := by show _ = _; unfold failE; rw [if_pos h0]
  have HN : Hid (failN d.wl = -1) := by show _ = _; unfold failN; rw [if_pos h0]
  clear h0
  go_enter Tryd.func11, Tryd.ntmps11
  go_wp2_with fail
  refine hc.mono ?_
  rintro e w' ⟨rfl, q, rfl⟩
  have h1 := h.drewN q
  have m1 := Moves.of_below (o := own) (UK.belowN (Below.refl W.heap.size W) q)
  generalize W.drewN q = w1 at h1 m1 ⊢
  have hfail := fail_any h1.cells 5 d.wl rfl f.wl
  rw [HE.out, HN.out] at hfail
  go_wp2_with fail
  refine hfail.mono ?_
  rintro e w2 ⟨rfl, r1, o1⟩
  go_wp2
  go_ret2
  exact ⟨rfl, ⟨B, bc, fo, fc, I, ic, y, h1.turnD (d' := { d with wl := -1 }) r1 o1 rfl rfl rfl⟩, m1.trans (Moves.of_only o1 h.oD)⟩
/-- fewer free pages -/
theorem DiskAt.freePop (h : DiskAt W own D B bc fo fc I ic y d) {l : List Nat} {p F : Nat} (hl : d.free = l ++ [p]) (hF : fo = some ⟨F, 0, none⟩) :
    DiskAt (W.setCell ⟨D, 2, none⟩ (.slice fo l.length fc)) own D B bc fo fc I ic y { d with free := l } := by
  have hc := h.cells.set 2 (.slice fo l.length fc) (by show 2 < 8; omega)
  have o := (Only.refl D W).set 2 (.slice fo l.length fc)
  refine ⟨hc, o.bytes h.bytes h.DB.symm, h.ylen, h.le, h.pre, ?_, h.flags.only o h.DI.symm, h.DB, h.DI, h.BI, h.oD, h.oB, h.oI, UK.TabAt_only h.tab o h.noD, h.notab⟩
  rcases h.freeAt with ⟨a, _⟩ | ⟨F', e, r, n1, n2, n3, n4⟩
  · rw [a] at hF; cases hF
  · have := (r.only o n1).take l.length
    rw [hl] at this
    refine .inr ⟨F', e, ?_, n1, n2, n3, n4⟩
    unfold ints at this ⊢
    rw [List.map_append, List.take_append, List.length_map, Nat.sub_self, List.take_zero, List.append_nil, List.take_of_length_le (by rw [List.length_map]; exact Nat.le_refl _)] at this
    exact this
theorem getD_end (l : List Nat) (p : Nat) : (l ++ [p]).getD l.length 0 = p := by
  rw [List.getD_eq_getElem?_getD, List.getElem?_append_right (Nat.le_refl _), Nat.sub_self]; rfl
/-- behind a free page taken -/
def takeF (d : Dk) (l : List Nat) (p : Nat) : Dk := { d with wl := failN d.wl, puts := d.puts + 1, x := UK.wr d.x (512 * p) (pageL p []), free := l, isf := d.isf.set p false }
set_option maxHeartbeats 1000000 in
set_option maxRecDepth 100000 in
theorem take_free (h : DiskAt W own D B bc fo fc I ic y d) (f : Fit d cnt) (hq3 : d.puts + 1 < 1000000000) (l : List Nat) (p : Nat) (hl : d.free = l ++ [p]) (h0 : d.wl ≠ 0) :
    Calls Tryd.prog 11 #[.pointer (some ⟨D, 0, none⟩)] W fun e w' => e = .returned (.tuple #[.int .i64 p, .int .i64 0]) ∧ Disk w' own D (takeF d l p) ∧ Moves own own W w' := by
  have hc := room_any h f
  have hlen : d.free.length = l.length + 1 := by rw [hl, List.length_append]; rfl
  obtain ⟨r, HR⟩ : ∃ r, Hid (d.most - cnt + d.free.length = r) := ⟨_, rfl⟩
  have hr : 0 < r := by have := HR.out; have := f.most.2.2; omega
  rw [HR.out] at hc
  have HE : Hid (failE d.wl = 0) := by show _ = _; unfold failE; rw [if_neg h0]
  have HQ3 := Lib.hid hq3
  have hq1 := f.puts.1
  have hq2 := f.puts.2
  have hwl' := failN_wf d.wl f.wl
  have hfew := f.few
  have hfl := f.freeLe
  have hil := f.flags
  have hpf := f.free p (by rw [hl]; exact List.mem_append_right _ (List.mem_singleton.2 rfl))
  have HL := Lib.hid hl
  have HLen := Lib.hid hlen
  obtain ⟨F, HF⟩ : ∃ F, Hid (fo = some ⟨F, 0, none⟩) := by
    rcases h.freeAt with ⟨_, b, _⟩ | ⟨F, e, _⟩
    · rw [hl] at b; simp at b
    · exact ⟨F, e⟩
  have hll : l.length < 60000 := by omega
  clear h0 hq3 hl hlen
  go_enter Tryd.func11, Tryd.ntmps11
  go_wp2_with fail
  refine hc.mono ?_
  rintro e w' ⟨rfl, q, rfl⟩
  have h1 := h.drewN q
  have m1 := Moves.of_below (o := own) (UK.belowN (Below.refl W.heap.size W) q)
  generalize W.drewN q = w1 at h1 m1 ⊢
  have hfail := fail_any h1.cells 5 d.wl rfl f.wl
  rw [HE.out] at hfail
  go_wp2_with fail
  refine hfail.mono ?_
  rintro e w2 ⟨rfl, r1, o1⟩
  have h2 := h1.turnD (d' := { d with wl := failN d.wl }) r1 o1 rfl rfl rfl
  have c7 := h2.cells.at' 7 _ rfl
  have f7 := h2.cells.free 7 (by omega)
  have r3 := h2.cells.set 7 (.int .i64 (d.puts + 1)) (by show 7 < 8; omega)
  have o3 := (Only.refl D w2).set 7 (.int .i64 (d.puts + 1))
  have h3 := h2.turnD (d' := paidD d) r3 o3 rfl rfl rfl
  have m3 := (m1.trans (Moves.of_only o1 h.oD)).trans (Moves.of_only o3 h.oD)
  have f3 : Fit (paidD d) cnt := ⟨f.len, f.flags, f.one, f.few, f.most, f.free, f.freeLe, f.rl, hwl', f.reads, by show 0 ≤ d.puts + 1 ∧ _; exact ⟨by omega, HQ3.out⟩⟩
  go_wp2_with fail
  generalize w2.setCell ⟨D, 7, none⟩ (.int .i64 (d.puts + 1)) = w3 at h3 m3 ⊢
  clear h2 c7 f7 r3 o3 r1 o1 hfail hc m1 h1
  refine (count_any h3 f3).mono ?_
  rintro e w' ⟨rfl, rfl⟩
  have c2 := h3.cells.at' 2 _ rfl
  have f2 := h3.cells.free 2 (by omega)
  rw [show (paidD d).free.length = l.length + 1 from HLen.out, HF.out] at c2
  have hrow : Row w' F fc (ints d.free) := by
    rcases h3.freeAt with ⟨a, _⟩ | ⟨F', e, r, _⟩
    · rw [HF.out] at a; cases a
    · rw [HF.out] at e
      obtain rfl : F = F' := congrArg Addr.block (Option.some.inj e)
      exact r
  have cl := hrow.at' l.length _ (ints_at d.free l.length (by have := HLen.out; omega))
  rw [HL.out, getD_end] at cl
  have hfc : l.length < fc := by have := hrow.le; rw [ints_length, HLen.out] at this; omega
  have h4 := h3.freePop (l := l) (p := p) HL.out HF.out
  have m4 := m3.trans (Moves.of_only ((Only.refl D w').set 2 (.slice fo l.length fc)) h.oD)
  rw [HF.out] at h4 m4
  have hpl : p < d.isf.length := by omega
  have c3 := h4.cells.at' 3 _ rfl
  have fp := h4.flags.free p (by have := h4.flags.le; rw [bools_length] at this; exact Nat.lt_of_lt_of_le hpl this)
  have cp := h4.flags.at' p _ (bools_at d.isf p hpl)
  have h5 := h4.flagTo p false hpl
  have m5 := m4.trans (Moves.of_only ((Only.refl I _).set p (.bool false)) h.oI)
  have f5 : Fit { paidD d with free := l, isf := d.isf.set p false } cnt := ⟨f.len, by rw [List.length_set]; exact f.flags, f.one, f.few, f.most, fun k hk => f.free k (by rw [HL.out]; exact List.mem_append_left _ hk), by show l.length ≤ cnt; have := HLen.out; omega, f.rl, hwl', f.reads, by show 0 ≤ d.puts + 1 ∧ _; exact ⟨by omega, HQ3.out⟩⟩
  have d5 : Dat W _ own D B bc (some ⟨F, 0, none⟩) fc I ic y { paidD d with free := l, isf := d.isf.set p false } cnt := ⟨h5, f5, m5⟩
  have hrow' := Lib.hid hrow
  clear h4 m4 h5 m5 hrow
  have hp1 := hpf.1
  have hp2 := hpf.2
  clear hpf
  go_wp2_with fail
  refine (lay_dat d5 p [] (by omega) (by decide)).mono ?_
  rintro e w6 ⟨rfl, y6, d6⟩
  go_wp2
  go_ret2
  exact ⟨rfl, ⟨B, bc, _, fc, I, ic, y6, d6.at_⟩, d6.moves⟩
end
end Go.Proofs.YtamnhpijeiigcaaDoor
