/-
  disk.Give.
  disk.Take.
  disk.Take: a new page.
  disk.Spoil, Reads, Writes; Write of a text of another length.
-/
import Derived.Test.YtjfkdfffolkblaaDoorDiskG
import Derived.Test.YtjfkdfffolkblaaDoorUMem
namespace Go.Proofs.YtjfkdfffolkblaaDoor
open Go.RowKit
open UK (str BytesAt nth Only w32 Row)
open Go.BigFrame
section
variable {W W' : World} {own : Nat → Prop} {D B bc fc I ic cnt : Nat} {fo : Option Addr} {y : List UInt8} {d : Dk}
/-- what is owned, and one block more -/
def also (own : Nat → Prop) (g : Nat) (k : Nat) : Prop := own k ∨ k = g
theorem Moves.of_also {g : Nat} (ho : Only g W W') (hg : own g ∨ W.heap.size ≤ g) : Moves own (also own g) W W' :=
  ⟨ho.os, ho.tape, ho.output, ho.size, fun k hk hn => ho.block k hk (fun e => by subst e; rcases hg with h | h; exact hn h; omega), fun k hk => by
    rcases hk with h | rfl
    · exact .inl h
    · exact hg⟩
set_option maxRecDepth 100000 in
/-- one free page more -/
theorem push_free (h : DiskAt W own D B bc fo fc I ic y d) (p : Nat) (hl : d.free.length ≤ 60000) :
    ∃ g' c' W', (Builtin.append_ #[88, 88] 88 #[.slice fo d.free.length fc, .slice (some ⟨W.heap.size, 0, none⟩) 1 1]).run Tryd.prog (W.alloc (.cells #[.int .i64 (p : Int)] 3)) = .ok (.slice (some ⟨g', 0, none⟩) (d.free.length + 1) c') W' ∧ Row W' g' c' (ints (d.free ++ [p])) ∧ Only g' W W' ∧ (own g' ∨ W.heap.size ≤ g') ∧ g' ≠ D ∧ g' ≠ B ∧ g' ≠ I := by
  have ha : (fo = none ∧ ints d.free = [] ∧ fc = 0) ∨ ∃ g, fo = some ⟨g, 0, none⟩ ∧ Row W g fc (ints d.free) := by
    rcases h.freeAt with ⟨a, b, c⟩ | ⟨F, e, r, _⟩
    · exact .inl ⟨a, by rw [b]; rfl, c⟩
    · exact .inr ⟨F, e, r⟩
  obtain ⟨g', c', W', e, r, o, hg⟩ := UK.push_one (P := Tryd.prog) (t := 88) (ty := 88) Tryd.underlying88 (i := Tryd.t3) rfl rfl rfl (show (8 : Nat) ≤ 16 by omega) rfl ha (.int .i64 (p : Int)) rfl (by rw [ints_length]; omega)
  rw [ints_length] at e
  refine ⟨g', c', W', e, by unfold ints at *; rw [List.map_append]; exact r, o, ?_⟩
  rcases hg with hg | hg
  · rcases h.freeAt with ⟨a, _⟩ | ⟨F, e2, _, n1, n2, n3, n4⟩
    · rw [a] at hg; cases hg
    · rw [e2] at hg
      obtain rfl : F = g' := congrArg Addr.block (Option.some.inj hg)
      exact ⟨.inl n4, n1, n2, n3⟩
  · have := h.cells.lt
    have := h.bytes.lt
    have := h.flags.lt
    exact ⟨.inr hg, by omega, by omega, by omega⟩
/-- the free pages lie elsewhere, and are others -/
theorem DiskAt.freeTo (h : DiskAt W own D B bc fo fc I ic y d) {g' c' : Nat} {l : List Nat} (hr : Row W' g' c' (ints l)) (ho : Only g' W W') (h1 : g' ≠ D) (h2 : g' ≠ B) (h3 : g' ≠ I) (h4 : own g' ∨ W.heap.size ≤ g') :
    DiskAt (W'.setCell ⟨D, 2, none⟩ (.slice (some ⟨g', 0, none⟩) l.length c')) (also own g') D B bc (some ⟨g', 0, none⟩) c' I ic y { d with free := l } := by
  have hc := (h.cells.only ho h1.symm).set 2 (.slice (some ⟨g', 0, none⟩) l.length c') (by show 2 < 8; omega)
  have o2 := (Only.refl D W').set 2 (.slice (some ⟨g', 0, none⟩) l.length c')
  have htl := h.tab.lt
  have hnt : 0 ≠ g' := fun e => by
    rcases h4 with h4 | h4
    · exact h.notab (e ▸ h4)
    · omega
  refine ⟨hc, o2.bytes (ho.bytes h.bytes h2.symm) h.DB.symm, h.ylen, h.le, h.pre, .inr ⟨g', rfl, hr.only o2 h1, h1, h2, h3, .inr rfl⟩, (h.flags.only ho h3.symm).only o2 h.DI.symm, h.DB, h.DI, h.BI, .inl h.oD, .inl h.oB, .inl h.oI, ?_, fun hh => ?_⟩
  · exact UK.TabAt_only (UK.TabAt_only h.tab ho hnt) o2 h.noD
  · rcases hh with hh | hh
    · exact h.notab hh
    · exact hnt hh
/-- a page's flag -/
theorem DiskAt.flagTo (h : DiskAt W own D B bc fo fc I ic y d) (p : Nat) (b : Bool) (hp : p < d.isf.length) :
    DiskAt (W.setCell ⟨I, p, none⟩ (.bool b)) own D B bc fo fc I ic y { d with isf := d.isf.set p b } := by
  have hr := h.flags.set p (.bool b) (by rw [bools_length]; exact hp)
  have o := (Only.refl I W).set p (.bool b)
  have hnt : 0 ≠ I := fun e => h.notab (e ▸ h.oI)
  refine ⟨?_, o.bytes h.bytes h.BI, h.ylen, h.le, h.pre, ?_, by unfold bools at hr ⊢; rw [List.map_set]; exact hr, h.DB, h.DI, h.BI, h.oD, h.oB, h.oI, UK.TabAt_only h.tab o hnt, h.notab⟩
  · have hc := h.cells.only o h.DI
    unfold Dk.vals at hc ⊢
    rw [List.length_set]
    exact hc
  · rcases h.freeAt with h0 | ⟨F, e, r, n1, n2, n3, n4⟩
    · exact .inl h0
    · exact .inr ⟨F, e, r.only o n3, n1, n2, n3, n4⟩
/-- behind a page given back -/
def giveD (d : Dk) (p : Nat) : Dk := { d with wl := failN d.wl, puts := d.puts + 1, x := UK.wr d.x (512 * p) (pageL p (nextL d d.free.length)), free := d.free ++ [p], isf := d.isf.set p true }
/-- one write more -/
def paidD (d : Dk) : Dk := { d with wl := failN d.wl, puts := d.puts + 1 }
set_option maxHeartbeats 1000000 in
set_option maxRecDepth 100000 in
theorem give_yes (h : DiskAt W own D B bc fo fc I ic y d) (f : Fit d cnt) (hq3 : d.puts + 1 < 1000000000) (p : Nat) (hp : p < cnt) (hh : hasD d cnt p = true) (h0 : d.wl ≠ 0) :
    Calls Tryd.prog 108 #[.pointer (some ⟨D, 0, none⟩), .int .i64 p] W fun e w' => e = .returned (.int .i64 0) ∧ ∃ own', Disk w' own' D (giveD d p) ∧ Moves own own' W w' := by
  have hc := hasd_any h f p
  rw [hh] at hc
  have HE : Hid (failE d.wl = 0) := by show _ = _; unfold failE; rw [if_neg h0]
  have HQ3 := Lib.hid hq3
  have hq1 := f.puts.1
  have hq2 := f.puts.2
  have hwl' := failN_wf d.wl f.wl
  have hfew := f.few
  have hfl := f.freeLe
  have hil := f.flags
  clear h0 hq3
  go_enter Tryd.func108, Tryd.ntmps108
  go_wp2_with fail
  refine hc.mono ?_
  rintro e w' ⟨rfl, q, rfl⟩
  have h1 := h.drewN q
  have m1 := Moves.of_below (o := own) (UK.belowN (Below.refl W.heap.size W) q)
  generalize W.drewN q = w1 at h1 m1 ⊢
  have hfail := fail_any h1.cells 5 d.wl rfl f.wl
  rw [HE.out] at hfail
  go_wp2_with fail
  refine hfail.mono ?_
  rintro e w2 ⟨rfl, r1, o1⟩
  have h2 := h1.turnD (d' := { d with wl := failN d.wl }) r1 o1 rfl rfl rfl
  have c7 := h2.cells.at' 7 _ rfl
  have f7 := h2.cells.free 7 (by omega)
  have r3 := h2.cells.set 7 (.int .i64 (d.puts + 1)) (by show 7 < 8; omega)
  have o3 := (Only.refl D w2).set 7 (.int .i64 (d.puts + 1))
  have h3 := h2.turnD (d' := paidD d) r3 o3 rfl rfl rfl
  have m3 := (m1.trans (Moves.of_only o1 h.oD)).trans (Moves.of_only o3 h.oD)
  have d3 : Dat W (w2.setCell ⟨D, 7, none⟩ (.int .i64 (d.puts + 1))) own D B bc fo fc I ic y (paidD d) cnt :=
    ⟨h3, ⟨f.len, f.flags, f.one, f.few, f.most, f.free, f.freeLe, f.rl, hwl', f.reads, by show 0 ≤ d.puts + 1 ∧ _; exact ⟨by omega, HQ3.out⟩⟩, m3⟩
  have c2 := d3.at_.cells.at' 2 _ rfl
  go_wp2_with fail
  refine (next_dat d3 d.free.length (Nat.le_refl _)).mono ?_
  rintro e w4 ⟨rfl, d4⟩
  go_wp2_with fail
  refine (lay_dat d4 p (nextL (paidD d) d.free.length) hp (by rw [nextL_length]; decide)).mono ?_
  rintro e w5 ⟨rfl, y5, d5⟩
  have h5 := d5.at_
  have m5 := d5.moves
  clear hc hfail h1 h2 h3 d3 d4 d5 r1 o1 r3 o3 m1 m3 c7 f7 c2
  have c2 := h5.cells.at' 2 _ rfl
  obtain ⟨g', c', w6, e6, r6, o6, k1, k2, k3, k4⟩ := push_free h5 p (by show d.free.length ≤ 60000; omega)
  have h7 := h5.freeTo r6 o6 k2 k3 k4 k1
  have m7 := (m5.trans (Moves.of_also o6 k1)).trans (Moves.of_only ((Only.refl D w6).set 2 (.slice (some ⟨g', 0, none⟩) (d.free.length + 1) c')) (.inl h.oD))
  have f2 : w6.frozen? ⟨D, 2, none⟩ = false := (h5.cells.only o6 k2.symm).free 2 (by omega)
  have c2' := (h5.cells.only o6 k2.symm).at' 2 _ rfl
  rw [List.length_append, List.length_singleton] at h7
  have hpl : p < d.isf.length := by omega
  have h8 := h7.flagTo p true hpl
  have m8 := m7.trans (Moves.of_only ((Only.refl I _).set p (.bool true)) (show also own g' I from .inl h.oI))
  have c3 := h7.cells.at' 3 _ rfl
  have fp := h7.flags.free p (by have := h7.flags.le; rw [bools_length] at this; exact Nat.lt_of_lt_of_le hpl this)
  have cp := h7.flags.at' p _ (bools_at d.isf p hpl)
  clear h7 m7 h5 m5
  go_wp2_with (at_builtin; refine UK.wpList_append_run e6 rfl rfl rfl rfl rfl ?_)
  go_ret
  exact ⟨rfl, also own g', ⟨B, bc, _, c', I, ic, y5, h8⟩, m8⟩
end
end Go.Proofs.YtjfkdfffolkblaaDoor
namespace Go.Proofs.YtjfkdfffolkblaaDoor
open Go.RowKit
open UK (str BytesAt nth Only w32 Row)
open Go.BigFrame
section
variable {W W' : World} {own : Nat → Prop} {D B bc fc I ic cnt : Nat} {fo : Option Addr} {y : List UInt8} {d : Dk}
theorem take_full (h : DiskAt W own D B bc fo fc I ic y d) (f : Fit d cnt) (hr : d.most - cnt + d.free.length = 0) :
    Calls Tryd.prog 86 #[.pointer (some ⟨D, 0, none⟩)] W fun e w' => e = .returned (.tuple #[.int .i64 0, .int .i64 6]) ∧ Disk w' own D d ∧ Moves own own W w' := by
  have hc := room_any h f
  rw [hr] at hc
  go_enter Tryd.func86, Tryd.ntmps86
  go_wp2_with fail
  refine hc.mono ?_
  rintro e w' ⟨rfl, q, rfl⟩
  go_wp2
  go_ret2
  exact ⟨rfl, ⟨B, bc, fo, fc, I, ic, y, h.drewN q⟩, Moves.of_below (UK.belowN (Below.refl _ _) q)⟩
theorem take_fail (h : DiskAt W own D B bc fo fc I ic y d) (f : Fit d cnt) (hr : 0 < d.most - cnt + d.free.length) (h0 : d.wl = 0) :
    Calls Tryd.prog 86 #[.pointer (some ⟨D, 0, none⟩)] W fun e w' => e = .returned (.tuple #[.int .i64 0, .int .i64 7]) ∧ Disk w' own D { d with wl := -1 } ∧ Moves own own W w' := by
  have hc := room_any h f
  obtain ⟨r, HR⟩ : ∃ r, Hid (d.most - cnt + d.free.length = r) := ⟨_, rfl⟩
  rw [HR.out] at hc hr
  have HE : Hid (failE d.wl = 7) := by show _ = _; unfold failE; rw [if_pos h0]
  have HN : Hid (failN d.wl = -1) := by show _ = _; unfold failN; rw [if_pos h0]
  clear h0
  go_enter Tryd.func86, Tryd.ntmps86
  go_wp2_with fail
  refine hc.mono ?_
  rintro e w' ⟨rfl, q, rfl⟩
  have h1 := h.drewN q
  have m1 := Moves.of_below (o := own) (UK.belowN (Below.refl W.heap.size W) q)
  generalize W.drewN q = w1 at h1 m1 ⊢
  have hfail := fail_any h1.cells 5 d.wl rfl f.wl
  rw [HE.out, HN.out] at hfail
  go_wp2_with fail
  refine hfail.mono ?_
  rintro e w2 ⟨rfl, r1, o1⟩
  go_wp2
  go_ret2
  exact ⟨rfl, ⟨B, bc, fo, fc, I, ic, y, h1.turnD (d' := { d with wl := -1 }) r1 o1 rfl rfl rfl⟩, m1.trans (Moves.of_only o1 h.oD)⟩
/-- fewer free pages -/
theorem DiskAt.freePop (h : DiskAt W own D B bc fo fc I ic y d) {l : List Nat} {p F : Nat} (hl : d.free = l ++ [p]) (hF : fo = some ⟨F, 0, none⟩) :
    DiskAt (W.setCell ⟨D, 2, none⟩ (.slice fo l.length fc)) own D B bc fo fc I ic y { d with free := l } := by
  have hc := h.cells.set 2 (.slice fo l.length fc) (by show 2 < 8; omega)
  have o := (Only.refl D W).set 2 (.slice fo l.length fc)
  refine ⟨hc, o.bytes h.bytes h.DB.symm, h.ylen, h.le, h.pre, ?_, h.flags.only o h.DI.symm, h.DB, h.DI, h.BI, h.oD, h.oB, h.oI, UK.TabAt_only h.tab o h.noD, h.notab⟩
  rcases h.freeAt with ⟨a, _⟩ | ⟨F', e, r, n1, n2, n3, n4⟩
  · rw [a] at hF; cases hF
  · have := (r.only o n1).take l.length
    rw [hl] at this
    refine .inr ⟨F', e, ?_, n1, n2, n3, n4⟩
    unfold ints at this ⊢
    rw [List.map_append, List.take_append, List.length_map, Nat.sub_self, List.take_zero, List.append_nil, List.take_of_length_le (by rw [List.length_map]; exact Nat.le_refl _)] at this
    exact this
theorem getD_end (l : List Nat) (p : Nat) : (l ++ [p]).getD l.length 0 = p := by
  rw [List.getD_eq_getElem?_getD, List.getElem?_append_right (Nat.le_refl _), Nat.sub_self]; rfl
/-- behind a free page taken -/
def takeF (d : Dk) (l : List Nat) (p : Nat) : Dk := { d with wl := failN d.wl, puts := d.puts + 1, x := UK.wr d.x (512 * p) (pageL p []), free := l, isf := d.isf.set p false }
set_option maxHeartbeats 1000000 in
set_option maxRecDepth 100000 in
theorem take_free (h : DiskAt W own D B bc fo fc I ic y d) (f : Fit d cnt) (hq3 : d.puts + 1 < 1000000000) (l : List Nat) (p : Nat) (hl : d.free = l ++ [p]) (h0 : d.wl ≠ 0) :
    Calls Tryd.prog 86 #[.pointer (some ⟨D, 0, none⟩)] W fun e w' => e = .returned (.tuple #[.int .i64 p, .int .i64 0]) ∧ Disk w' own D (takeF d l p) ∧ Moves own own W w' := by
  have hc := room_any h f
  have hlen : d.free.length = l.length + 1 := by rw [hl, List.length_append]; rfl
  obtain ⟨r, HR⟩ : ∃ r, Hid (d.most - cnt + d.free.length = r) := ⟨_, rfl⟩
  have hr : 0 < r := by have := HR.out; have := f.most.2.2; omega
  rw [HR.out] at hc
  have HE : Hid (failE d.wl = 0) := by show _ = _; unfold failE; rw [if_neg h0]
  have HQ3 := Lib.hid hq3
  have hq1 := f.puts.1
  have hq2 := f.puts.2
  have hwl' := failN_wf d.wl f.wl
  have hfew := f.few
  have hfl := f.freeLe
  have hil := f.flags
  have hpf := f.free p (by rw [hl]; exact List.mem_append_right _ (List.mem_singleton.2 rfl))
  have HL := Lib.hid hl
  have HLen := Lib.hid hlen
  obtain ⟨F, HF⟩ : ∃ F, Hid (fo = some ⟨F, 0, none⟩) := by
    rcases h.freeAt with ⟨_, b, _⟩ | ⟨F, e, _⟩
    · rw [hl] at b; simp at b
    · exact ⟨F, e⟩
  have hll : l.length < 60000 := by omega
  clear h0 hq3 hl hlen
  go_enter Tryd.func86, Tryd.ntmps86
  go_wp2_with fail
  refine hc.mono ?_
  rintro e w' ⟨rfl, q, rfl⟩
  have h1 := h.drewN q
  have m1 := Moves.of_below (o := own) (UK.belowN (Below.refl W.heap.size W) q)
  generalize W.drewN q = w1 at h1 m1 ⊢
  have hfail := fail_any h1.cells 5 d.wl rfl f.wl
  rw [HE.out] at hfail
  go_wp2_with fail
  refine hfail.mono ?_
  rintro e w2 ⟨rfl, r1, o1⟩
  have h2 := h1.turnD (d' := { d with wl := failN d.wl }) r1 o1 rfl rfl rfl
  have c7 := h2.cells.at' 7 _ rfl
  have f7 := h2.cells.free 7 (by omega)
  have r3 := h2.cells.set 7 (.int .i64 (d.puts + 1)) (by show 7 < 8; omega)
  have o3 := (Only.refl D w2).set 7 (.int .i64 (d.puts + 1))
  have h3 := h2.turnD (d' := paidD d) r3 o3 rfl rfl rfl
  have m3 := (m1.trans (Moves.of_only o1 h.oD)).trans (Moves.of_only o3 h.oD)
  have f3 : Fit (paidD d) cnt := ⟨f.len, f.flags, f.one, f.few, f.most, f.free, f.freeLe, f.rl, hwl', f.reads, by show 0 ≤ d.puts + 1 ∧ _; exact ⟨by omega, HQ3.out⟩⟩
  go_wp2_with fail
  generalize w2.setCell ⟨D, 7, none⟩ (.int .i64 (d.puts + 1)) = w3 at h3 m3 ⊢
  clear h2 c7 f7 r3 o3 r1 o1 hfail hc m1 h1
  refine (count_any h3 f3).mono ?_
  rintro e w' ⟨rfl, rfl⟩
  have c2 := h3.cells.at' 2 _ rfl
  have f2 := h3.cells.free 2 (by omega)
  rw [show (paidD d).free.length = l.length + 1 from HLen.out, HF.out] at c2
  have hrow : Row w' F fc (ints d.free) := by
    rcases h3.freeAt with ⟨a, _⟩ | ⟨F', e, r, _⟩
    · rw [HF.out] at a; cases a
    · rw [HF.out] at e
      obtain rfl : F = F' := congrArg Addr.block (Option.some.inj e)
      exact r
  have cl := hrow.at' l.length _ (ints_at d.free l.length (by have := HLen.out; omega))
  rw [HL.out, getD_end] at cl
  have hfc : l.length < fc := by have := hrow.le; rw [ints_length, HLen.out] at this; omega
  have h4 := h3.freePop (l := l) (p := p) HL.out HF.out
  have m4 := m3.trans (Moves.of_only ((Only.refl D w').set 2 (.slice fo l.length fc)) h.oD)
  rw [HF.out] at h4 m4
  have hpl : p < d.isf.length := by omega
  have c3 := h4.cells.at' 3 _ rfl
  have fp := h4.flags.free p (by have := h4.flags.le; rw [bools_length] at this; exact Nat.lt_of_lt_of_le hpl this)
  have cp := h4.flags.at' p _ (bools_at d.isf p hpl)
  have h5 := h4.flagTo p false hpl
  have m5 := m4.trans (Moves.of_only ((Only.refl I _).set p (.bool false)) h.oI)
  have f5 : Fit { paidD d with free := l, isf := d.isf.set p false } cnt := ⟨f.len, by rw [List.length_set]; exact f.flags, f.one, f.few, f.most, fun k hk => f.free k (by rw [HL.out]; exact List.mem_append_left _ hk), by show l.length ≤ cnt; have := HLen.out; omega, f.rl, hwl', f.reads, by show 0 ≤ d.puts + 1 ∧ _; exact ⟨by omega, HQ3.out⟩⟩
  have d5 : Dat W _ own D B bc (some ⟨F, 0, none⟩) fc I ic y { paidD d with free := l, isf := d.isf.set p false } cnt := ⟨h5, f5, m5⟩
  have hrow' := Lib.hid hrow
  clear h4 m4 h5 m5 hrow
  have hp1 := hpf.1
  have hp2 := hpf.2
  clear hpf
  go_wp2_with fail
  refine (lay_dat d5 p [] (by omega) (by decide)).mono ?_
  rintro e w6 ⟨rfl, y6, d6⟩
  go_wp2
  go_ret2
  exact ⟨rfl, ⟨B, bc, _, fc, I, ic, y6, d6.at_⟩, d6.moves⟩
end
end Go.Proofs.YtjfkdfffolkblaaDoor
namespace Go.Proofs.YtjfkdfffolkblaaDoor
open Go.RowKit
open UK (str BytesAt nth Only w32 Row)
open Go.BigFrame
section
variable {W W' : World} {own : Nat → Prop} {D B bc fc I ic cnt : Nat} {fo : Option Addr} {y : List UInt8} {d : Dk}
theorem DiskAt.noNew (h : DiskAt W own D B bc fo fc I ic y d) {g : Nat} (h4 : own g ∨ W.heap.size ≤ g) : 0 ≠ g := fun e => by
  have := h.tab.lt
  rcases h4 with h4 | h4
  · exact h.notab (e ▸ h4)
  · omega
/-- the bytes lie elsewhere, and are others -/
theorem DiskAt.bytesTo (h : DiskAt W own D B bc fo fc I ic y d) {B' bc' : Nat} {y' x' : List UInt8} (hb : BytesAt W' B' y') (hyl : y'.length = bc') (hle : x'.length ≤ bc') (hp : y'.take x'.length = x') (ho : Only B' W W') (hB : B' = B ∨ W.heap.size ≤ B') :
    DiskAt (W'.setCell ⟨D, 0, none⟩ (.slice (some ⟨B', 0, none⟩) x'.length bc')) (also own B') D B' bc' fo fc I ic y' { d with x := x' } := by
  have l1 := h.cells.lt
  have l2 := h.bytes.lt
  have l3 := h.flags.lt
  have h1 : B' ≠ D := by
    rcases hB with rfl | hB
    · exact h.DB.symm
    · omega
  have h3 : B' ≠ I := by
    rcases hB with rfl | hB
    · exact h.BI
    · omega
  have h4 : own B' ∨ W.heap.size ≤ B' := by
    rcases hB with rfl | hB
    · exact .inl h.oB
    · exact .inr hB
  have hc := (h.cells.only ho h1.symm).set 0 (.slice (some ⟨B', 0, none⟩) x'.length bc') (by show 0 < 8; omega)
  have o2 := (Only.refl D W').set 0 (.slice (some ⟨B', 0, none⟩) x'.length bc')
  have hnt := h.noNew h4
  refine ⟨hc, o2.bytes hb h1, hyl, hle, hp, ?_, (h.flags.only ho h3.symm).only o2 h.DI.symm, h1.symm, h.DI, h3, .inl h.oD, .inr rfl, .inl h.oI, UK.TabAt_only (UK.TabAt_only h.tab ho hnt) o2 h.noD, fun hh => ?_⟩
  · rcases h.freeAt with h0 | ⟨F, e, r, n1, n2, n3, n4⟩
    · exact .inl h0
    · have hF : F ≠ B' := by
        have := r.lt
        rcases hB with rfl | hB
        · exact n2
        · omega
      exact .inr ⟨F, e, (r.only ho hF).only o2 n1, n1, hF, n3, .inl n4⟩
  · rcases hh with hh | hh
    · exact h.notab hh
    · exact hnt hh
/-- the flags lie elsewhere, and are others -/
theorem DiskAt.flagsTo (h : DiskAt W own D B bc fo fc I ic y d) {I' ic' : Nat} {l : List Bool} (hr : Row W' I' ic' (bools l)) (ho : Only I' W W') (hI : I' = I ∨ W.heap.size ≤ I') :
    DiskAt (W'.setCell ⟨D, 3, none⟩ (.slice (some ⟨I', 0, none⟩) l.length ic')) (also own I') D B bc fo fc I' ic' y { d with isf := l } := by
  have l1 := h.cells.lt
  have l2 := h.bytes.lt
  have l3 := h.flags.lt
  have h1 : I' ≠ D := by
    rcases hI with rfl | hI
    · exact h.DI.symm
    · omega
  have h3 : I' ≠ B := by
    rcases hI with rfl | hI
    · exact h.BI.symm
    · omega
  have h4 : own I' ∨ W.heap.size ≤ I' := by
    rcases hI with rfl | hI
    · exact .inl h.oI
    · exact .inr hI
  have hc := (h.cells.only ho h1.symm).set 3 (.slice (some ⟨I', 0, none⟩) l.length ic') (by show 3 < 8; omega)
  have o2 := (Only.refl D W').set 3 (.slice (some ⟨I', 0, none⟩) l.length ic')
  have hnt := h.noNew h4
  refine ⟨hc, o2.bytes (ho.bytes h.bytes h3.symm) h.DB.symm, h.ylen, h.le, h.pre, ?_, hr.only o2 h1, h.DB, h1.symm, h3.symm, .inl h.oD, .inl h.oB, .inr rfl, UK.TabAt_only (UK.TabAt_only h.tab ho hnt) o2 h.noD, fun hh => ?_⟩
  · rcases h.freeAt with h0 | ⟨F, e, r, n1, n2, n3, n4⟩
    · exact .inl h0
    · have hF : F ≠ I' := by
        have := r.lt
        rcases hI with rfl | hI
        · exact n3
        · omega
      exact .inr ⟨F, e, (r.only ho hF).only o2 n1, n1, n2, hF, .inl n4⟩
  · rcases hh with hh | hh
    · exact h.notab hh
    · exact hnt hh
set_option maxRecDepth 100000 in
theorem push_page (h : DiskAt W own D B bc fo fc I ic y d) (hl : d.x.length ≤ 40000000) :
    ∃ B' bc' y' W', (Builtin.append_ #[77, 3] 77 #[.slice (some ⟨B, 0, none⟩) d.x.length bc, .int .i64 512]).run Tryd.prog W = .ok (.slice (some ⟨B', 0, none⟩) (d.x.length + 512) bc') W' ∧ BytesAt W' B' y' ∧ y'.length = bc' ∧ d.x.length + 512 ≤ bc' ∧ y'.take (d.x.length + 512) = d.x ++ UK.zeros 512 ∧ Only B' W W' ∧ (B' = B ∨ W.heap.size ≤ B') := by
  obtain ⟨B', bc', y', W', e, b, c, g, k, o⟩ := UK.push_zeros (P := Tryd.prog) (t := 77) (tn := 3) (ty := 77) (k := .i64) (kn := .i64) Tryd.underlying77 Tryd.underlying3 (i := Tryd.t5) rfl rfl rfl rfl h.bytes h.ylen h.le h.pre 512 (by omega) (by omega)
  refine ⟨B', bc', y', W', e, b, c, g, k, ?_⟩
  rcases o with ⟨a, o⟩ | ⟨a, o⟩
  · exact ⟨a ▸ o, .inl a⟩
  · exact ⟨Only.of_below o, .inr (by omega)⟩
set_option maxRecDepth 100000 in
theorem push_flag (h : DiskAt W own D B bc fo fc I ic y d) (b : Bool) (hl : d.isf.length ≤ 60000) :
    ∃ g' c' W', (Builtin.append_ #[89, 89] 89 #[.slice (some ⟨I, 0, none⟩) d.isf.length ic, .slice (some ⟨W.heap.size, 0, none⟩) 1 1]).run Tryd.prog (W.alloc (.cells #[.bool b] 4)) = .ok (.slice (some ⟨g', 0, none⟩) (d.isf.length + 1) c') W' ∧ Row W' g' c' (bools (d.isf ++ [b])) ∧ Only g' W W' ∧ (g' = I ∨ W.heap.size ≤ g') := by
  obtain ⟨g', c', W', e, r, o, hg⟩ := UK.push_one (P := Tryd.prog) (t := 89) (ty := 89) Tryd.underlying89 (i := Tryd.t4) rfl rfl rfl (show (1 : Nat) ≤ 16 by omega) rfl (.inr ⟨I, rfl, h.flags⟩) (.bool b) rfl (by rw [bools_length]; omega)
  rw [bools_length] at e
  refine ⟨g', c', W', e, by unfold bools at *; rw [List.map_append]; exact r, o, ?_⟩
  rcases hg with hg | hg
  · exact .inl (congrArg Addr.block (Option.some.inj hg)).symm
  · exact .inr hg
/-- behind a new page taken -/
def takeN (d : Dk) (cnt : Nat) : Dk := { d with wl := failN d.wl, puts := d.puts + 1, x := UK.wr (d.x ++ UK.zeros 512) (512 * cnt) (pageL cnt []), isf := d.isf ++ [false] }
set_option maxHeartbeats 1000000 in
set_option maxRecDepth 100000 in
theorem take_new (h : DiskAt W own D B bc fo fc I ic y d) (f : Fit d cnt) (hq3 : d.puts + 1 < 1000000000) (hl : d.free = []) (hm : (cnt : Int) < d.most) (h0 : d.wl ≠ 0) :
    Calls Tryd.prog 86 #[.pointer (some ⟨D, 0, none⟩)] W fun e w' => e = .returned (.tuple #[.int .i64 cnt, .int .i64 0]) ∧ ∃ own', Disk w' own' D (takeN d cnt) ∧ Moves own own' W w' := by
  have hc := room_any h f
  have hlen : d.free.length = 0 := by rw [hl]; rfl
  obtain ⟨r, HR⟩ : ∃ r, Hid (d.most - cnt + d.free.length = r) := ⟨_, rfl⟩
  have hr : 0 < r := by have := HR.out; omega
  rw [HR.out] at hc
  have HE : Hid (failE d.wl = 0) := by show _ = _; unfold failE; rw [if_neg h0]
  have HQ3 := Lib.hid hq3
  have hq1 := f.puts.1
  have hq2 := f.puts.2
  have hwl' := failN_wf d.wl f.wl
  have hfew := f.few
  have hm2 := f.most.2.1
  have hfew2 : cnt < 60000 := by omega
  have HIL := Lib.hid f.flags
  have HXL := Lib.hid f.len
  have HL := Lib.hid hl
  have HLen := Lib.hid hlen
  have HM := Lib.hid hm
  clear h0 hq3 hl hlen hm hm2
  go_enter Tryd.func86, Tryd.ntmps86
  go_wp2_with fail
  refine hc.mono ?_
  rintro e w' ⟨rfl, q, rfl⟩
  have h1 := h.drewN q
  have m1 := Moves.of_below (o := own) (UK.belowN (Below.refl W.heap.size W) q)
  generalize W.drewN q = w1 at h1 m1 ⊢
  have hfail := fail_any h1.cells 5 d.wl rfl f.wl
  rw [HE.out] at hfail
  go_wp2_with fail
  refine hfail.mono ?_
  rintro e w2 ⟨rfl, r1, o1⟩
  have h2 := h1.turnD (d' := { d with wl := failN d.wl }) r1 o1 rfl rfl rfl
  have c7 := h2.cells.at' 7 _ rfl
  have f7 := h2.cells.free 7 (by omega)
  have r3 := h2.cells.set 7 (.int .i64 (d.puts + 1)) (by show 7 < 8; omega)
  have o3 := (Only.refl D w2).set 7 (.int .i64 (d.puts + 1))
  have h3 := h2.turnD (d' := paidD d) r3 o3 rfl rfl rfl
  have m3 := (m1.trans (Moves.of_only o1 h.oD)).trans (Moves.of_only o3 h.oD)
  have f3 : Fit (paidD d) cnt := ⟨f.len, f.flags, f.one, f.few, f.most, f.free, f.freeLe, f.rl, hwl', f.reads, by show 0 ≤ d.puts + 1 ∧ _; exact ⟨by omega, HQ3.out⟩⟩
  go_wp2_with fail
  generalize w2.setCell ⟨D, 7, none⟩ (.int .i64 (d.puts + 1)) = w3 at h3 m3 ⊢
  clear h2 c7 f7 r3 o3 r1 o1 hfail hc m1 h1
  refine (count_any h3 f3).mono ?_
  rintro e w' ⟨rfl, rfl⟩
  have c2 := h3.cells.at' 2 _ rfl
  rw [show (paidD d).free.length = 0 from HLen.out] at c2
  have c0 := h3.cells.at' 0 _ rfl
  rw [show (paidD d).x.length = 512 * cnt from HXL.out] at c0
  obtain ⟨B', bc', y', w4, e4, b4, l4, k4, p4, o4, n4⟩ := push_page h3 (by show d.x.length ≤ _; rw [HXL.out]; omega)
  have hx2 : (d.x ++ UK.zeros 512).length = 512 * cnt + 512 := by rw [List.length_append, UK.zeros_length, HXL.out]
  have e4' := e4
  rw [show (paidD d).x.length = 512 * cnt from HXL.out] at e4' k4 p4
  have h5 := h3.bytesTo (x' := d.x ++ UK.zeros 512) b4 l4 (by omega) (by rw [hx2]; exact p4) o4 n4
  rw [hx2] at h5
  have hB1 : B' ≠ D := h5.DB.symm
  have hB2 : own B' ∨ w'.heap.size ≤ B' := by
    rcases n4 with rfl | n4
    · exact .inl h.oB
    · exact .inr n4
  have f0 := (h3.cells.only o4 hB1.symm).free 0 (by omega)
  have c0' := (h3.cells.only o4 hB1.symm).at' 0 _ rfl
  have m5 := (m3.trans (Moves.of_also o4 hB2)).trans (Moves.of_only ((Only.refl D w4).set 0 (.slice (some ⟨B', 0, none⟩) (512 * cnt + 512) bc')) (show also own B' D from .inl h.oD))
  have c3 := h5.cells.at' 3 _ rfl
  rw [show (paidD d).isf.length = cnt from HIL.out] at c3
  obtain ⟨I', ic', w6, e6, r6, o6, n6⟩ := push_flag h5 false (by show d.isf.length ≤ _; rw [HIL.out]; omega)
  have hi2 : (d.isf ++ [false]).length = cnt + 1 := by rw [List.length_append, HIL.out]; rfl
  have h7 := h5.flagsTo (l := d.isf ++ [false]) r6 o6 n6
  rw [hi2] at h7
  have hI1 : I' ≠ D := h7.DI.symm
  have hI2 : also own B' I' ∨ (w4.setCell ⟨D, 0, none⟩ (.slice (some ⟨B', 0, none⟩) (512 * cnt + 512) bc')).heap.size ≤ I' := by
    rcases n6 with rfl | n6
    · exact .inl (.inl h.oI)
    · exact .inr n6
  have f3' := (h5.cells.only o6 hI1.symm).free 3 (by omega)
  have c3' := (h5.cells.only o6 hI1.symm).at' 3 _ rfl
  have m7 := (m5.trans (Moves.of_also o6 hI2)).trans (Moves.of_only ((Only.refl D w6).set 3 (.slice (some ⟨I', 0, none⟩) (cnt + 1) ic')) (show also (also own B') I' D from .inl (.inl h.oD)))
  rw [show ({ paidD d with x := d.x ++ UK.zeros 512 } : Dk).isf.length = cnt from HIL.out] at e6
  rw [show (w4.setCell ⟨D, 0, none⟩ (.slice (some ⟨B', 0, none⟩) (512 * cnt + 512) bc')).heap.size = w4.heap.size by simp] at e6
  have f7 : Fit { paidD d with x := d.x ++ UK.zeros 512, isf := d.isf ++ [false] } (cnt + 1) := ⟨by rw [hx2]; omega, hi2, by omega, by omega, ⟨f.most.1, f.most.2.1, by show ((cnt + 1 : Nat) : Int) ≤ d.most; have := HM.out; omega⟩, (fun k hk => by
      have hk' : k ∈ d.free := hk
      rw [HL.out] at hk'
      cases hk'), by show d.free.length ≤ _; rw [HL.out]; exact Nat.zero_le _, f.rl, hwl', f.reads, by show 0 ≤ d.puts + 1 ∧ _; exact ⟨by omega, HQ3.out⟩⟩
  have d7 : Dat _ _ (also (also own B') I') D B' bc' fo fc I' ic' y' { paidD d with x := d.x ++ UK.zeros 512, isf := d.isf ++ [false] } (cnt + 1) := ⟨h7, f7, Moves.of_below (Below.refl _ _)⟩
  clear h5 m5 h7 e4 hx2 hi2
  go_wp2_with (first | (at_builtin; refine UK.wpList_append_run e4' rfl rfl rfl rfl rfl ?_) | (at_builtin; refine UK.wpList_append_run e6 rfl rfl rfl rfl rfl ?_))
  refine (lay_dat d7 cnt [] (by omega) (by decide)).mono ?_
  rintro e w8 ⟨rfl, y8, d8⟩
  go_wp2
  go_ret2
  exact ⟨rfl, _, ⟨B', bc', _, fc, I', ic', y8, d8.at_⟩, m7.trans d8.moves⟩
end
end Go.Proofs.YtjfkdfffolkblaaDoor
namespace Go.Proofs.YtjfkdfffolkblaaDoor
open Go.RowKit
open UK (str BytesAt nth Only w32 Row)
open Go.BigFrame
section
variable {W W' : World} {own : Nat → Prop} {D B bc fc I ic cnt : Nat} {fo : Option Addr} {y : List UInt8} {d : Dk}
theorem write_arg (h : DiskAt W own D B bc fo fc I ic y d) (f : Fit d cnt) (p : Int) (hh : hasD d cnt p = true) (s : List UInt8) (hs : s.length ≠ 504) :
    Calls Tryd.prog 114 #[.pointer (some ⟨D, 0, none⟩), .int .i64 p, .string (str s)] W fun e w' => e = .returned (.int .i64 1) ∧ Disk w' own D d ∧ Moves own own W w' := by
  have hc := hasd_any h f p
  rw [hh] at hc
  have hs2 : (((s.length : Nat) : Int) == 504) = false := beq_eq_false_iff_ne.2 (by omega)
  go_enter Tryd.func114, Tryd.ntmps114
  go_wp2_with fail
  refine hc.mono ?_
  rintro e w' ⟨rfl, q, rfl⟩
  go_wp2
  go_ret
  exact ⟨rfl, ⟨B, bc, fo, fc, I, ic, y, h.drewN q⟩, Moves.of_below (UK.belowN (Below.refl _ _) q)⟩
/-- behind a byte spoilt -/
def spoilD (d : Dk) (k : Nat) (b : UInt8) : Dk := { d with x := d.x.set k (UK.xr8 (nth d.x k) b) }
theorem DiskAt.spoil (h : DiskAt W own D B bc fo fc I ic y d) (k : Nat) (b : UInt8) :
    DiskAt (W.setCell ⟨B, k, none⟩ (.int .u8 ((UK.xr8 (nth d.x k) b).toNat : Int))) own D B bc fo fc I ic (y.set k (UK.xr8 (nth d.x k) b)) (spoilD d k b) := by
  have o := (Only.refl B W).set k (.int .u8 ((UK.xr8 (nth d.x k) b).toNat : Int))
  have hb := h.bytes.set k (UK.xr8 (nth d.x k) b)
  refine ⟨?_, hb, by rw [List.length_set]; exact h.ylen, by show (d.x.set _ _).length ≤ _; rw [List.length_set]; exact h.le, ?_, ?_, h.flags.only o (fun e => h.BI e.symm), h.DB, h.DI, h.BI, h.oD, h.oB, h.oI, UK.TabAt_only h.tab o h.noB, h.notab⟩
  · have hc := h.cells.only o h.DB
    unfold Dk.vals at hc ⊢
    show Row _ D 8 [.slice (some ⟨B, 0, none⟩) (d.x.set _ _).length bc, _, _, _, _, _, _, _]
    rw [List.length_set]
    exact hc
  · show (y.set k _).take (d.x.set k _).length = d.x.set k _
    rw [List.length_set, List.take_set, h.pre]
  · rcases h.freeAt with h0 | ⟨F, e, r, n1, n2, n3, n4⟩
    · exact .inl h0
    · exact .inr ⟨F, e, r.only o n2, n1, n2, n3, n4⟩
end
end Go.Proofs.YtjfkdfffolkblaaDoor
