/-
  disk.Give. disk.Take. disk.Take: a new page. disk.Spoil, Reads, Writes; Write of a text of another length.
  A disk of one's own, behind each call.
-/
import Derived.Test.YtfljlcfmdcepnaaGreatDoorJDiskG
import Derived.Test.YtfljlcfmdcepnaaGreatDoorJUMap
namespace Go.Proofs.YtfljlcfmdcepnaaGreatDoor
open Go.RowKit
open UK (str BytesAt nth Only w32 Row)
open Go.BigFrame
section
variable {W W' : World} {own : Nat → Prop} {D B bc fc I ic cnt : Nat} {fo : Option Addr} {y : List UInt8} {d : Dk}
def also (own : Nat → Prop) (g : Nat) (k : Nat) : Prop := own k ∨ k = g
theorem Moves.of_also {g : Nat} (ho : Only g W W') (hg : own g ∨ W.heap.size ≤ g) : Moves own (also own g) W W' :=
  ⟨ho.os, ho.tape, ho.output, ho.size, fun k hk hn => ho.block k hk (fun e => by subst e; rcases hg with h | h; exact hn h; omega), fun k hk => by
    rcases hk with h | rfl
    · exact .inl h
    · exact hg⟩
set_option maxRecDepth 100000 in
theorem push_free (h : DiskAt W own D B bc fo fc I ic y d) (p : Nat) (hl : d.free.length ≤ 60000) :
    ∃ g' c' W', (Builtin.append_ #[82, 82] 82 #[.slice fo d.free.length fc, .slice (some ⟨W.heap.size, 0, none⟩) 1 1]).run Tryz.prog (W.alloc (.cells #[.int .i64 (p : Int)] 3)) = .ok (.slice (some ⟨g', 0, none⟩) (d.free.length + 1) c') W' ∧ Row W' g' c' (ints (d.free ++ [p])) ∧ Only g' W W' ∧ (own g' ∨ W.heap.size ≤ g') ∧ g' ≠ D ∧ g' ≠ B ∧ g' ≠ I := by
  have ha : (fo = none ∧ ints d.free = [] ∧ fc = 0) ∨ ∃ g, fo = some ⟨g, 0, none⟩ ∧ Row W g fc (ints d.free) := by
    rcases h.freeAt with ⟨a, b, c⟩ | ⟨F, e, r, _⟩
    · exact .inl ⟨a, by rw [b]; rfl, c⟩
    · exact .inr ⟨F, e, r⟩
  obtain ⟨g', c', W', e, r, o, hg⟩ := UK.push_one (P := Tryz.prog) (t := 82) (ty := 82) Tryz.underlying82 (i := Tryz.t3) rfl rfl rfl (show (8 : Nat) ≤ 16 by omega) rfl ha (.int .i64 (p : Int)) rfl (by rw [ints_length]; omega)
  rw [ints_length] at e
  refine ⟨g', c', W', e, by unfold ints at *; rw [List.map_append]; exact r, o, ?_⟩
  rcases hg with hg | hg
  · rcases h.freeAt with ⟨a, _⟩ | ⟨F, e2, _, n1, n2, n3, n4⟩
    · rw [a] at hg; cases hg
    · rw [e2] at hg
      obtain rfl : F = g' := congrArg Addr.block (Option.some.inj hg)
      exact ⟨.inl n4, n1, n2, n3⟩
  · have := h.cells.lt
    have := h.bytes.lt
    have := h.flags.lt
    exact ⟨.inr hg, by omega, by omega, by omega⟩
theorem DiskAt.freeTo (h : DiskAt W own D B bc fo fc I ic y d) {g' c' : Nat} {l : List Nat} (hr : Row W' g' c' (ints l)) (ho : Only g' W W') (h1 : g' ≠ D) (h2 : g' ≠ B) (h3 : g' ≠ I) (h4 : own g' ∨ W.heap.size ≤ g') :
    DiskAt (W'.setCell ⟨D, 2, none⟩ (.slice (some ⟨g', 0, none⟩) l.length c')) (also own g') D B bc (some ⟨g', 0, none⟩) c' I ic y { d with free := l } := by
  have hc := (h.cells.only ho h1.symm).set 2 (.slice (some ⟨g', 0, none⟩) l.length c') (by show 2 < 8; omega)
  have o2 := (Only.refl D W').set 2 (.slice (some ⟨g', 0, none⟩) l.length c')
  have htl := h.tab.lt
  have hnt : 0 ≠ g' := fun e => by
    rcases h4 with h4 | h4
    · exact h.notab (e ▸ h4)
    · omega
  refine ⟨hc, o2.bytes (ho.bytes h.bytes h2.symm) h.DB.symm, h.ylen, h.le, h.pre, .inr ⟨g', rfl, hr.only o2 h1, h1, h2, h3, .inr rfl⟩, (h.flags.only ho h3.symm).only o2 h.DI.symm, h.DB, h.DI, h.BI, .inl h.oD, .inl h.oB, .inl h.oI, ?_, fun hh => ?_⟩
  · exact UK.TabAt_only (UK.TabAt_only h.tab ho hnt) o2 h.noD
  · rcases hh with hh | hh
    · exact h.notab hh
    · exact hnt hh
theorem DiskAt.flagTo (h : DiskAt W own D B bc fo fc I ic y d) (p : Nat) (b : Bool) (hp : p < d.isf.length) :
    DiskAt (W.setCell ⟨I, p, none⟩ (.bool b)) own D B bc fo fc I ic y { d with isf := d.isf.set p b } := by
  have hr := h.flags.set p (.bool b) (by rw [bools_length]; exact hp)
  have o := (Only.refl I W).set p (.bool b)
  have hnt : 0 ≠ I := fun e => h.notab (e ▸ h.oI)
  refine ⟨?_, o.bytes h.bytes h.BI, h.ylen, h.le, h.pre, ?_, by unfold bools at hr ⊢; rw [List.map_set]; exact hr, h.DB, h.DI, h.BI, h.oD, h.oB, h.oI, UK.TabAt_only h.tab o hnt, h.notab⟩
  · have hc := h.cells.only o h.DI
    unfold Dk.vals at hc ⊢
    rw [List.length_set]
    exact hc
  · rcases h.freeAt with h0 | ⟨F, e, r, n1, n2, n3, n4⟩
    · exact .inl h0
    · exact .inr ⟨F, e, r.only o n3, n1, n2, n3, n4⟩
def giveD (d : Dk) (p : Nat) : Dk := { d with wl := failN d.wl, puts := d.puts + 1, x := UK.wr d.x (512 * p) (pageL p (nextL d d.free.length)), free := d.free ++ [p], isf := d.isf.set p true }
def paidD (d : Dk) : Dk := { d with wl := failN d.wl, puts := d.puts + 1 }
set_option maxHeartbeats 1000000 in
set_option maxRecDepth 100000 in
theorem give_yes (h : DiskAt W own D B bc fo fc I ic y d) (f : Fit d cnt) (hq3 : d.puts + 1 < 1000000000) (p : Nat) (hp : p < cnt) (hh : hasD d cnt p = true) (h0 : d.wl ≠ 0) :
    Calls Tryz.prog 117 #[.pointer (some ⟨D, 0, none⟩), .int .i64 p] W fun e w' => e = .returned (.int .i64 0) ∧ ∃ own', Disk w' own' D (giveD d p) ∧ Moves own own' W w' := by
  have hc := hasd_any h f p
  rw [hh] at hc
  have HE : Hid (failE d.wl = 0) := by show _ = _; unfold failE; rw [if_neg h0]
  have HQ3 := Lib.hid hq3
  have hq1 := f.puts.1
  have hq2 := f.puts.2
  have hwl' := failN_wf d.wl f.wl
  have hfew := f.few
  have hfl := f.freeLe
  have hil := f.flags
  clear h0 hq3
  go_enter Tryz.func117, Tryz.ntmps117
  go_wp2_with fail
  refine hc.mono ?_
  rintro e w' ⟨rfl, q, rfl⟩
  have h1 := h.drewN q
  have m1 := Moves.of_below (o := own) (UK.belowN (Below.refl W.heap.size W) q)
  generalize W.drewN q = w1 at h1 m1 ⊢
  have hfail := fail_any h1.cells 5 d.wl rfl f.wl
  rw [HE.out] at hfail
  go_wp2_with fail
  refine hfail.mono ?_
  rintro e w2 ⟨rfl, r1, o1⟩
  have h2 := h1.turnD (d' := { d with wl := failN d.wl }) r1 o1 rfl rfl rfl
  have c7 := h2.cells.at' 7 _ rfl
  have f7 := h2.cells.free 7 (by omega)
  have r3 := h2.cells.set 7 (.int .i64 (d.puts + 1)) (by show 7 < 8; omega)
  have o3 := (Only.refl D w2).set 7 (.int .i64 (d.puts + 1))
  have h3 := h2.turnD (d' := paidD d) r3 o3 rfl rfl rfl
  have m3 := (m1.trans (Moves.of_only o1 h.oD)).trans (Moves.of_only o3 h.oD)
  have d3 : Dat W (w2.setCell ⟨D, 7, none⟩ (.int .i64 (d.puts + 1))) own D B bc fo fc I ic y (paidD d) cnt :=
    ⟨h3, ⟨f.len, f.flags, f.one, f.few, f.most, f.free, f.freeLe, f.rl, hwl', f.reads, by show 0 ≤ d.puts + 1 ∧ _; exact ⟨by omega, HQ3.out⟩⟩, m3⟩
  have c2 := d3.at_.cells.at' 2 _ rfl
  go_wp2_with fail
  refine (next_dat d3 d.free.length (Nat.le_refl _)).mono ?_
  rintro e w4 ⟨rfl, d4⟩
  go_wp2_with fail
  refine (lay_dat d4 p (nextL (paidD d) d.free.length) hp (by rw [nextL_length]; decide)).mono ?_
  rintro e w5 ⟨rfl, y5, d5⟩
  have h5 := d5.at_
  have m5 := d5.moves
  clear hc hfail h1 h2 h3 d3 d4 d5 r1 o1 r3 o3 m1 m3 c7 f7 c2
  have c2 := h5.cells.at' 2 _ rfl
  obtain ⟨g', c', w6, e6, r6, o6, k1, k2, k3, k4⟩ := push_free h5 p (by show d.free.length ≤ 60000; omega)
  have h7 := h5.freeTo r6 o6 k2 k3 k4 k1
  have m7 := (m5.trans (Moves.of_also o6 k1)).trans (Moves.of_only ((Only.refl D w6).set 2 (.slice (some ⟨g', 0, none⟩) (d.free.length + 1) c')) (.inl h.oD))
  have f2 : w6.frozen? ⟨D, 2, none⟩ = false := (h5.cells.only o6 k2.symm).free 2 (by omega)
  have c2' := (h5.cells.only o6 k2.symm).at' 2 _ rfl
  rw [List.length_append, List.length_singleton] at h7
  have hpl : p < d.isf.length := by omega
  have h8 := h7.flagTo p true hpl
  have m8 := m7.trans (Moves.of_only ((Only.refl I _).set p (.bool true)) (show also own g' I from .inl h.oI))
  have c3 := h7.cells.at' 3 _ rfl
  have fp := h7.flags.free p (by have := h7.flags.le; rw [bools_length] at this; exact Nat.lt_of_lt_of_le hpl this)
  have cp := h7.flags.at' p _ (bools_at d.isf p hpl)
  clear h7 m7 h5 m5
  go_wp2_with (at_builtin; refine UK.wpList_append_run e6 rfl rfl rfl rfl rfl ?_)
  go_ret
  exact ⟨rfl, also own g', ⟨B, bc, _, c', I, ic, y5, h8⟩, m8⟩
end
end Go.Proofs.YtfljlcfmdcepnaaGreatDoor
namespace Go.Proofs.YtfljlcfmdcepnaaGreatDoor
open Go.RowKit
open UK (str BytesAt nth Only w32 Row)
open Go.BigFrame
section
variable {W W' : World} {own : Nat → Prop} {D B bc fc I ic cnt : Nat} {fo : Option Addr} {y : List UInt8} {d : Dk}
theorem take_full (h : DiskAt W own D B bc fo fc I ic y d) (f : Fit d cnt) (hr : d.most - cnt + d.free.length = 0) :
    Calls Tryz.prog 107 #[.pointer (some ⟨D, 0, none⟩)] W fun e w' => e = .returned (.tuple #[.int .i64 0, .int .i64 6]) ∧ Disk w' own D d ∧ Moves own own W w' := by
  have hc := room_any h f
  rw [hr] at hc
  go_enter Tryz.func107, Tryz.ntmps107
  go_wp2_with fail
  refine hc.mono ?_
  rintro e w' ⟨rfl, q, rfl⟩
  go_wp2
  go_ret2
  exact ⟨rfl, ⟨B, bc, fo, fc, I, ic, y, h.drewN q⟩, Moves.of_below (UK.belowN (Below.refl _ _) q)⟩
theorem take_fail (h : DiskAt W own D B bc fo fc I ic y d) (f : Fit d cnt) (hr : 0 < d.most - cnt + d.free.length) (h0 : d.wl = 0) :
    Calls Tryz.prog 107 #[.pointer (some ⟨D, 0, none⟩)] W fun e w' => e = .returned (.tuple #[.int .i64 0, .int .i64 7]) ∧ Disk w' own D { d with wl := -1 } ∧ Moves own own W w' := by
  have hc := room_any h f
  obtain ⟨r, HR⟩ : ∃ r, Hid (d.most - cnt + d.free.length = r) := ⟨_, rfl⟩
  rw [HR.out] at hc hr
  have HE : Hid (failE d.wl = 7) := by show _ = _; unfold failE; rw [if_pos h0]
  have HN : Hid (failN d.wl = -1) := by show _ = _; unfold failN; rw [if_pos h0]
  clear h0
  go_enter Tryz.func107, Tryz.ntmps107
  go_wp2_with fail
  refine hc.mono ?_
  rintro e w' ⟨rfl, q, rfl⟩
  have h1 := h.drewN q
  have m1 := Moves.of_below (o := own) (UK.belowN (Below.refl W.heap.size W) q)
  generalize W.drewN q = w1 at h1 m1 ⊢
  have hfail := fail_any h1.cells 5 d.wl rfl f.wl
  rw [HE.out, HN.out] at hfail
  go_wp2_with fail
  refine hfail.mono ?_
  rintro e w2 ⟨rfl, r1, o1⟩
  go_wp2
  go_ret2
  exact ⟨rfl, ⟨B, bc, fo, fc, I, ic, y, h1.turnD (d' := { d with wl := -1 }) r1 o1 rfl rfl rfl⟩, m1.trans (Moves.of_only o1 h.oD)⟩
theorem DiskAt.freePop (h : DiskAt W own D B bc fo fc I ic y d) {l : List Nat} {p F : Nat} (hl : d.free = l ++ [p]) (hF : fo = some ⟨F, 0, none⟩) :
    DiskAt (W.setCell ⟨D, 2, none⟩ (.slice fo l.length fc)) own D B bc fo fc I ic y { d with free := l } := by
  have hc := h.cells.set 2 (.slice fo l.length fc) (by show 2 < 8; omega)
  have o := (Only.refl D W).set 2 (.slice fo l.length fc)
  refine ⟨hc, o.bytes h.bytes h.DB.symm, h.ylen, h.le, h.pre, ?_, h.flags.only o h.DI.symm, h.DB, h.DI, h.BI, h.oD, h.oB, h.oI, UK.TabAt_only h.tab o h.noD, h.notab⟩
  rcases h.freeAt with ⟨a, _⟩ | ⟨F', e, r, n1, n2, n3, n4⟩
  · rw [a] at hF; cases hF
  · have := (r.only o n1).take l.length
    rw [hl] at this
    refine .inr ⟨F', e, ?_, n1, n2, n3, n4⟩
    unfold ints at this ⊢
    rw [List.map_append, List.take_append, List.length_map, Nat.sub_self, List.take_zero, List.append_nil, List.take_of_length_le (by rw [List.length_map]; exact Nat.le_refl _)] at this
    exact this
theorem getD_end (l : List Nat) (p : Nat) : (l ++ [p]).getD l.length 0 = p := by
  rw [List.getD_eq_getElem?_getD, List.getElem?_append_right (Nat.le_refl _), Nat.sub_self]; rfl
def takeF (d : Dk) (l : List Nat) (p : Nat) : Dk := { d with wl := failN d.wl, puts := d.puts + 1, x := UK.wr d.x (512 * p) (pageL p []), free := l, isf := d.isf.set p false }
set_option maxHeartbeats 1000000 in
set_option maxRecDepth 100000 in
theorem take_free (h : DiskAt W own D B bc fo fc I ic y d) (f : Fit d cnt) (hq3 : d.puts + 1 < 1000000000) (l : List Nat) (p : Nat) (hl : d.free = l ++ [p]) (h0 : d.wl ≠ 0) :
    Calls Tryz.prog 107 #[.pointer (some ⟨D, 0, none⟩)] W fun e w' => e = .returned (.tuple #[.int .i64 p, .int .i64 0]) ∧ Disk w' own D (takeF d l p) ∧ Moves own own W w' := by
  have hc := room_any h f
  have hlen : d.free.length = l.length + 1 := by rw [hl, List.length_append]; rfl
  obtain ⟨r, HR⟩ : ∃ r, Hid (d.most - cnt + d.free.length = r) := ⟨_, rfl⟩
  have hr : 0 < r := by have := HR.out; have := f.most.2.2; omega
  rw [HR.out] at hc
  have HE : Hid (failE d.wl = 0) := by show _ = _; unfold failE; rw [if_neg h0]
  have HQ3 := Lib.hid hq3
  have hq1 := f.puts.1
  have hq2 := f.puts.2
  have hwl' := failN_wf d.wl f.wl
  have hfew := f.few
  have hfl := f.freeLe
  have hil := f.flags
  have hpf := f.free p (by rw [hl]; exact List.mem_append_right _ (List.mem_singleton.2 rfl))
  have HL := Lib.hid hl
  have HLen := Lib.hid hlen
  obtain ⟨F, HF⟩ : ∃ F, Hid (fo = some ⟨F, 0, none⟩) := by
    rcases h.freeAt with ⟨_, b, _⟩ | ⟨F, e, _⟩
    · rw [hl] at b; simp at b
    · exact ⟨F, e⟩
  have hll : l.length < 60000 := by omega
  clear h0 hq3 hl hlen
  go_enter Tryz.func107, Tryz.ntmps107
  go_wp2_with fail
  refine hc.mono ?_
  rintro e w' ⟨rfl, q, rfl⟩
  have h1 := h.drewN q
  have m1 := Moves.of_below (o := own) (UK.belowN (Below.refl W.heap.size W) q)
  generalize W.drewN q = w1 at h1 m1 ⊢
  have hfail := fail_any h1.cells 5 d.wl rfl f.wl
  rw [HE.out] at hfail
  go_wp2_with fail
  refine hfail.mono ?_
  rintro e w2 ⟨rfl, r1, o1⟩
  have h2 := h1.turnD (d' := { d with wl := failN d.wl }) r1 o1 rfl rfl rfl
  have c7 := h2.cells.at' 7 _ rfl
  have f7 := h2.cells.free 7 (by omega)
  have r3 := h2.cells.set 7 (.int .i64 (d.puts + 1)) (by show 7 < 8; omega)
  have o3 := (Only.refl D w2).set 7 (.int .i64 (d.puts + 1))
  have h3 := h2.turnD (d' := paidD d) r3 o3 rfl rfl rfl
  have m3 := (m1.trans (Moves.of_only o1 h.oD)).trans (Moves.of_only o3 h.oD)
  have f3 : Fit (paidD d) cnt := ⟨f.len, f.flags, f.one, f.few, f.most, f.free, f.freeLe, f.rl, hwl', f.reads, by show 0 ≤ d.puts + 1 ∧ _; exact ⟨by omega, HQ3.out⟩⟩
  go_wp2_with fail
  generalize w2.setCell ⟨D, 7, none⟩ (.int .i64 (d.puts + 1)) = w3 at h3 m3 ⊢
  clear h2 c7 f7 r3 o3 r1 o1 hfail hc m1 h1
  refine (count_any h3 f3).mono ?_
  rintro e w' ⟨rfl, rfl⟩
  have c2 := h3.cells.at' 2 _ rfl
  have f2 := h3.cells.free 2 (by omega)
  rw [show (paidD d).free.length = l.length + 1 from HLen.out, HF.out] at c2
  have hrow : Row w' F fc (ints d.free) := by
    rcases h3.freeAt with ⟨a, _⟩ | ⟨F', e, r, _⟩
    · rw [HF.out] at a; cases a
    · rw [HF.out] at e
      obtain rfl : F = F' := congrArg Addr.block (Option.some.inj e)
      exact r
  have cl := hrow.at' l.length _ (ints_at d.free l.length (by have := HLen.out; omega))
  rw [HL.out, getD_end] at cl
  have hfc : l.length < fc := by have := hrow.le; rw [ints_length, HLen.out] at this; omega
  have h4 := h3.freePop (l := l) (p := p) HL.out HF.out
  have m4 := m3.trans (Moves.of_only ((Only.refl D w').set 2 (.slice fo l.length fc)) h.oD)
  rw [HF.out] at h4 m4
  have hpl : p < d.isf.length := by omega
  have c3 := h4.cells.at' 3 _ rfl
  have fp := h4.flags.free p (by have := h4.flags.le; rw [bools_length] at this; exact Nat.lt_of_lt_of_le hpl this)
  have cp := h4.flags.at' p _ (bools_at d.isf p hpl)
  have h5 := h4.flagTo p false hpl
  have m5 := m4.trans (Moves.of_only ((Only.refl I _).set p (.bool false)) h.oI)
  have f5 : Fit { paidD d with free := l, isf := d.isf.set p false } cnt := ⟨f.len, by rw [List.length_set]; exact f.flags, f.one, f.few, f.most, fun k hk => f.free k (by rw [HL.out]; exact List.mem_append_left _ hk), by show l.length ≤ cnt; have := HLen.out; omega, f.rl, hwl', f.reads, by show 0 ≤ d.puts + 1 ∧ _; exact ⟨by omega, HQ3.out⟩⟩
  have d5 : Dat W _ own D B bc (some ⟨F, 0, none⟩) fc I ic y { paidD d with free := l, isf := d.isf.set p false } cnt := ⟨h5, f5, m5⟩
  have hrow' := Lib.hid hrow
  clear h4 m4 h5 m5 hrow
  have hp1 := hpf.1
  have hp2 := hpf.2
  clear hpf
  go_wp2_with fail
  refine (lay_dat d5 p [] (by omega) (by decide)).mono ?_
  rintro e w6 ⟨rfl, y6, d6⟩
  go_wp2
  go_ret2
  exact ⟨rfl, ⟨B, bc, _, fc, I, ic, y6, d6.at_⟩, d6.moves⟩
end
end Go.Proofs.YtfljlcfmdcepnaaGreatDoor
namespace Go.Proofs.YtfljlcfmdcepnaaGreatDoor
open Go.RowKit
open UK (str BytesAt nth Only w32 Row)
open Go.BigFrame
section
variable {W W' : World} {own : Nat → Prop} {D B bc fc I ic cnt : Nat} {fo : Option Addr} {y : List UInt8} {d : Dk}
theorem DiskAt.noNew (h : DiskAt W own D B bc fo fc I ic y d) {g : Nat} (h4 : own g ∨ W.heap.size ≤ g) : 0 ≠ g := fun e => by
  have := h.tab.lt
  rcases h4 with h4 | h4
  · exact h.notab (e ▸ h4)
  · omega
theorem DiskAt.bytesTo (h : DiskAt W own D B bc fo fc I ic y d) {B' bc' : Nat} {y' x' : List UInt8} (hb : BytesAt W' B' y') (hyl : y'.length = bc') (hle : x'.length ≤ bc') (hp : y'.take x'.length = x') (ho : Only B' W W') (hB : B' = B ∨ W.heap.size ≤ B') :
    DiskAt (W'.setCell ⟨D, 0, none⟩ (.slice (some ⟨B', 0, none⟩) x'.length bc')) (also own B') D B' bc' fo fc I ic y' { d with x := x' } := by
  have l1 := h.cells.lt
  have l2 := h.bytes.lt
  have l3 := h.flags.lt
  have h1 : B' ≠ D := by
    rcases hB with rfl | hB
    · exact h.DB.symm
    · omega
  have h3 : B' ≠ I := by
    rcases hB with rfl | hB
    · exact h.BI
    · omega
  have h4 : own B' ∨ W.heap.size ≤ B' := by
    rcases hB with rfl | hB
    · exact .inl h.oB
    · exact .inr hB
  have hc := (h.cells.only ho h1.symm).set 0 (.slice (some ⟨B', 0, none⟩) x'.length bc') (by show 0 < 8; omega)
  have o2 := (Only.refl D W').set 0 (.slice (some ⟨B', 0, none⟩) x'.length bc')
  have hnt := h.noNew h4
  refine ⟨hc, o2.bytes hb h1, hyl, hle, hp, ?_, (h.flags.only ho h3.symm).only o2 h.DI.symm, h1.symm, h.DI, h3, .inl h.oD, .inr rfl, .inl h.oI, UK.TabAt_only (UK.TabAt_only h.tab ho hnt) o2 h.noD, fun hh => ?_⟩
  · rcases h.freeAt with h0 | ⟨F, e, r, n1, n2, n3, n4⟩
    · exact .inl h0
    · have hF : F ≠ B' := by
        have := r.lt
        rcases hB with rfl | hB
        · exact n2
        · omega
      exact .inr ⟨F, e, (r.only ho hF).only o2 n1, n1, hF, n3, .inl n4⟩
  · rcases hh with hh | hh
    · exact h.notab hh
    · exact hnt hh
theorem DiskAt.flagsTo (h : DiskAt W own D B bc fo fc I ic y d) {I' ic' : Nat} {l : List Bool} (hr : Row W' I' ic' (bools l)) (ho : Only I' W W') (hI : I' = I ∨ W.heap.size ≤ I') :
    DiskAt (W'.setCell ⟨D, 3, none⟩ (.slice (some ⟨I', 0, none⟩) l.length ic')) (also own I') D B bc fo fc I' ic' y { d with isf := l } := by
  have l1 := h.cells.lt
  have l2 := h.bytes.lt
  have l3 := h.flags.lt
  have h1 : I' ≠ D := by
    rcases hI with rfl | hI
    · exact h.DI.symm
    · omega
  have h3 : I' ≠ B := by
    rcases hI with rfl | hI
    · exact h.BI.symm
    · omega
  have h4 : own I' ∨ W.heap.size ≤ I' := by
    rcases hI with rfl | hI
    · exact .inl h.oI
    · exact .inr hI
  have hc := (h.cells.only ho h1.symm).set 3 (.slice (some ⟨I', 0, none⟩) l.length ic') (by show 3 < 8; omega)
  have o2 := (Only.refl D W').set 3 (.slice (some ⟨I', 0, none⟩) l.length ic')
  have hnt := h.noNew h4
  refine ⟨hc, o2.bytes (ho.bytes h.bytes h3.symm) h.DB.symm, h.ylen, h.le, h.pre, ?_, hr.only o2 h1, h.DB, h1.symm, h3.symm, .inl h.oD, .inl h.oB, .inr rfl, UK.TabAt_only (UK.TabAt_only h.tab ho hnt) o2 h.noD, fun hh => ?_⟩
  · rcases h.freeAt with h0 | ⟨F, e, r, n1, n2, n3, n4⟩
    · exact .inl h0
    · have hF : F ≠ I' := by
        have := r.lt
        rcases hI with rfl | hI
        · exact n3
        · omega
      exact .inr ⟨F, e, (r.only ho hF).only o2 n1, n1, n2, hF, .inl n4⟩
  · rcases hh with hh | hh
    · exact h.notab hh
    · exact hnt hh
set_option maxRecDepth 100000 in
theorem push_page (h : DiskAt W own D B bc fo fc I ic y d) (hl : d.x.length ≤ 40000000) :
    ∃ B' bc' y' W', (Builtin.append_ #[87, 3] 87 #[.slice (some ⟨B, 0, none⟩) d.x.length bc, .int .i64 512]).run Tryz.prog W = .ok (.slice (some ⟨B', 0, none⟩) (d.x.length + 512) bc') W' ∧ BytesAt W' B' y' ∧ y'.length = bc' ∧ d.x.length + 512 ≤ bc' ∧ y'.take (d.x.length + 512) = d.x ++ UK.zeros 512 ∧ Only B' W W' ∧ (B' = B ∨ W.heap.size ≤ B') := by
  obtain ⟨B', bc', y', W', e, b, c, g, k, o⟩ := UK.push_zeros (P := Tryz.prog) (t := 87) (tn := 3) (ty := 87) (k := .i64) (kn := .i64) Tryz.underlying87 Tryz.underlying3 (i := Tryz.t5) rfl rfl rfl rfl h.bytes h.ylen h.le h.pre 512 (by omega) (by omega)
  refine ⟨B', bc', y', W', e, b, c, g, k, ?_⟩
  rcases o with ⟨a, o⟩ | ⟨a, o⟩
  · exact ⟨a ▸ o, .inl a⟩
  · exact ⟨Only.of_below o, .inr (by omega)⟩
set_option maxRecDepth 100000 in
theorem push_flag (h : DiskAt W own D B bc fo fc I ic y d) (b : Bool) (hl : d.isf.length ≤ 60000) :
    ∃ g' c' W', (Builtin.append_ #[88, 88] 88 #[.slice (some ⟨I, 0, none⟩) d.isf.length ic, .slice (some ⟨W.heap.size, 0, none⟩) 1 1]).run Tryz.prog (W.alloc (.cells #[.bool b] 4)) = .ok (.slice (some ⟨g', 0, none⟩) (d.isf.length + 1) c') W' ∧ Row W' g' c' (bools (d.isf ++ [b])) ∧ Only g' W W' ∧ (g' = I ∨ W.heap.size ≤ g') := by
  obtain ⟨g', c', W', e, r, o, hg⟩ := UK.push_one (P := Tryz.prog) (t := 88) (ty := 88) Tryz.underlying88 (i := Tryz.t4) rfl rfl rfl (show (1 : Nat) ≤ 16 by omega) rfl (.inr ⟨I, rfl, h.flags⟩) (.bool b) rfl (by rw [bools_length]; omega)
  rw [bools_length] at e
  refine ⟨g', c', W', e, by unfold bools at *; rw [List.map_append]; exact r, o, ?_⟩
  rcases hg with hg | hg
  · exact .inl (congrArg Addr.block (Option.some.inj hg)).symm
  · exact .inr hg
def takeN (d : Dk) (cnt : Nat) : Dk := { d with wl := failN d.wl, puts := d.puts + 1, x := UK.wr (d.x ++ UK.zeros 512) (512 * cnt) (pageL cnt []), isf := d.isf ++ [false] }
set_option maxHeartbeats 1000000 in
set_option maxRecDepth 100000 in
theorem take_new (h : DiskAt W own D B bc fo fc I ic y d) (f : Fit d cnt) (hq3 : d.puts + 1 < 1000000000) (hl : d.free = []) (hm : (cnt : Int) < d.most) (h0 : d.wl ≠ 0) :
    Calls Tryz.prog 107 #[.pointer (some ⟨D, 0, none⟩)] W fun e w' => e = .returned (.tuple #[.int .i64 cnt, .int .i64 0]) ∧ ∃ own', Disk w' own' D (takeN d cnt) ∧ Moves own own' W w' := by
  have hc := room_any h f
  have hlen : d.free.length = 0 := by rw [hl]; rfl
  obtain ⟨r, HR⟩ : ∃ r, Hid (d.most - cnt + d.free.length = r) := ⟨_, rfl⟩
  have hr : 0 < r := by have := HR.out; omega
  rw [HR.out] at hc
  have HE : Hid (failE d.wl = 0) := by show _ = _; unfold failE; rw [if_neg h0]
  have HQ3 := Lib.hid hq3
  have hq1 := f.puts.1
  have hq2 := f.puts.2
  have hwl' := failN_wf d.wl f.wl
  have hfew := f.few
  have hm2 := f.most.2.1
  have hfew2 : cnt < 60000 := by omega
  have HIL := Lib.hid f.flags
  have HXL := Lib.hid f.len
  have HL := Lib.hid hl
  have HLen := Lib.hid hlen
  have HM := Lib.hid hm
  clear h0 hq3 hl hlen hm hm2
  go_enter Tryz.func107, Tryz.ntmps107
  go_wp2_with fail
  refine hc.mono ?_
  rintro e w' ⟨rfl, q, rfl⟩
  have h1 := h.drewN q
  have m1 := Moves.of_below (o := own) (UK.belowN (Below.refl W.heap.size W) q)
  generalize W.drewN q = w1 at h1 m1 ⊢
  have hfail := fail_any h1.cells 5 d.wl rfl f.wl
  rw [HE.out] at hfail
  go_wp2_with fail
  refine hfail.mono ?_
  rintro e w2 ⟨rfl, r1, o1⟩
  have h2 := h1.turnD (d' := { d with wl := failN d.wl }) r1 o1 rfl rfl rfl
  have c7 := h2.cells.at' 7 _ rfl
  have f7 := h2.cells.free 7 (by omega)
  have r3 := h2.cells.set 7 (.int .i64 (d.puts + 1)) (by show 7 < 8; omega)
  have o3 := (Only.refl D w2).set 7 (.int .i64 (d.puts + 1))
  have h3 := h2.turnD (d' := paidD d) r3 o3 rfl rfl rfl
  have m3 := (m1.trans (Moves.of_only o1 h.oD)).trans (Moves.of_only o3 h.oD)
  have f3 : Fit (paidD d) cnt := ⟨f.len, f.flags, f.one, f.few, f.most, f.free, f.freeLe, f.rl, hwl', f.reads, by show 0 ≤ d.puts + 1 ∧ _; exact ⟨by omega, HQ3.out⟩⟩
  go_wp2_with fail
  generalize w2.setCell ⟨D, 7, none⟩ (.int .i64 (d.puts + 1)) = w3 at h3 m3 ⊢
  clear h2 c7 f7 r3 o3 r1 o1 hfail hc m1 h1
  refine (count_any h3 f3).mono ?_
  rintro e w' ⟨rfl, rfl⟩
  have c2 := h3.cells.at' 2 _ rfl
  rw [show (paidD d).free.length = 0 from HLen.out] at c2
  have c0 := h3.cells.at' 0 _ rfl
  rw [show (paidD d).x.length = 512 * cnt from HXL.out] at c0
  obtain ⟨B', bc', y', w4, e4, b4, l4, k4, p4, o4, n4⟩ := push_page h3 (by show d.x.length ≤ _; rw [HXL.out]; omega)
  have hx2 : (d.x ++ UK.zeros 512).length = 512 * cnt + 512 := by rw [List.length_append, UK.zeros_length, HXL.out]
  have e4' := e4
  rw [show (paidD d).x.length = 512 * cnt from HXL.out] at e4' k4 p4
  have h5 := h3.bytesTo (x' := d.x ++ UK.zeros 512) b4 l4 (by omega) (by rw [hx2]; exact p4) o4 n4
  rw [hx2] at h5
  have hB1 : B' ≠ D := h5.DB.symm
  have hB2 : own B' ∨ w'.heap.size ≤ B' := by
    rcases n4 with rfl | n4
    · exact .inl h.oB
    · exact .inr n4
  have f0 := (h3.cells.only o4 hB1.symm).free 0 (by omega)
  have c0' := (h3.cells.only o4 hB1.symm).at' 0 _ rfl
  have m5 := (m3.trans (Moves.of_also o4 hB2)).trans (Moves.of_only ((Only.refl D w4).set 0 (.slice (some ⟨B', 0, none⟩) (512 * cnt + 512) bc')) (show also own B' D from .inl h.oD))
  have c3 := h5.cells.at' 3 _ rfl
  rw [show (paidD d).isf.length = cnt from HIL.out] at c3
  obtain ⟨I', ic', w6, e6, r6, o6, n6⟩ := push_flag h5 false (by show d.isf.length ≤ _; rw [HIL.out]; omega)
  have hi2 : (d.isf ++ [false]).length = cnt + 1 := by rw [List.length_append, HIL.out]; rfl
  have h7 := h5.flagsTo (l := d.isf ++ [false]) r6 o6 n6
  rw [hi2] at h7
  have hI1 : I' ≠ D := h7.DI.symm
  have hI2 : also own B' I' ∨ (w4.setCell ⟨D, 0, none⟩ (.slice (some ⟨B', 0, none⟩) (512 * cnt + 512) bc')).heap.size ≤ I' := by
    rcases n6 with rfl | n6
    · exact .inl (.inl h.oI)
    · exact .inr n6
  have f3' := (h5.cells.only o6 hI1.symm).free 3 (by omega)
  have c3' := (h5.cells.only o6 hI1.symm).at' 3 _ rfl
  have m7 := (m5.trans (Moves.of_also o6 hI2)).trans (Moves.of_only ((Only.refl D w6).set 3 (.slice (some ⟨I', 0, none⟩) (cnt + 1) ic')) (show also (also own B') I' D from .inl (.inl h.oD)))
  rw [show ({ paidD d with x := d.x ++ UK.zeros 512 } : Dk).isf.length = cnt from HIL.out] at e6
  rw [show (w4.setCell ⟨D, 0, none⟩ (.slice (some ⟨B', 0, none⟩) (512 * cnt + 512) bc')).heap.size = w4.heap.size by simp] at e6
  have f7 : Fit { paidD d with x := d.x ++ UK.zeros 512, isf := d.isf ++ [false] } (cnt + 1) := ⟨by rw [hx2]; omega, hi2, by omega, by omega, ⟨f.most.1, f.most.2.1, by show ((cnt + 1 : Nat) : Int) ≤ d.most; have := HM.out; omega⟩, (fun k hk => by
      have hk' : k ∈ d.free := hk
      rw [HL.out] at hk'
      cases hk'), by show d.free.length ≤ _; rw [HL.out]; exact Nat.zero_le _, f.rl, hwl', f.reads, by show 0 ≤ d.puts + 1 ∧ _; exact ⟨by omega, HQ3.out⟩⟩
  have d7 : Dat _ _ (also (also own B') I') D B' bc' fo fc I' ic' y' { paidD d with x := d.x ++ UK.zeros 512, isf := d.isf ++ [false] } (cnt + 1) := ⟨h7, f7, Moves.of_below (Below.refl _ _)⟩
  clear h5 m5 h7 e4 hx2 hi2
  go_wp2_with (first | (at_builtin; refine UK.wpList_append_run e4' rfl rfl rfl rfl rfl ?_) | (at_builtin; refine UK.wpList_append_run e6 rfl rfl rfl rfl rfl ?_))
  refine (lay_dat d7 cnt [] (by omega) (by decide)).mono ?_
  rintro e w8 ⟨rfl, y8, d8⟩
  go_wp2
  go_ret2
  exact ⟨rfl, _, ⟨B', bc', _, fc, I', ic', y8, d8.at_⟩, m7.trans d8.moves⟩
end
end Go.Proofs.YtfljlcfmdcepnaaGreatDoor
namespace Go.Proofs.YtfljlcfmdcepnaaGreatDoor
open Go.RowKit
open UK (str BytesAt nth Only w32 Row)
open Go.BigFrame
section
variable {W W' : World} {own : Nat → Prop} {D B bc fc I ic cnt : Nat} {fo : Option Addr} {y : List UInt8} {d : Dk}
theorem write_arg (h : DiskAt W own D B bc fo fc I ic y d) (f : Fit d cnt) (p : Int) (hh : hasD d cnt p = true) (s : List UInt8) (hs : s.length ≠ 504) :
    Calls Tryz.prog 86 #[.pointer (some ⟨D, 0, none⟩), .int .i64 p, .string (str s)] W fun e w' => e = .returned (.int .i64 1) ∧ Disk w' own D d ∧ Moves own own W w' := by
  have hc := hasd_any h f p
  rw [hh] at hc
  have hs2 : (((s.length : Nat) : Int) == 504) = false := beq_eq_false_iff_ne.2 (by omega)
  go_enter Tryz.func86, Tryz.ntmps86
  go_wp2_with fail
  refine hc.mono ?_
  rintro e w' ⟨rfl, q, rfl⟩
  go_wp2
  go_ret
  exact ⟨rfl, ⟨B, bc, fo, fc, I, ic, y, h.drewN q⟩, Moves.of_below (UK.belowN (Below.refl _ _) q)⟩
end
end Go.Proofs.YtfljlcfmdcepnaaGreatDoor
namespace Go.Proofs.YtfljlcfmdcepnaaGreatDoor
open Go.RowKit
open UK (str BytesAt nth Only w32 Row)
open Go.BigFrame
structure Kept (S : Nat → Prop) (W W' : World) : Prop where
  os : W'.os = W.os
  tape : W'.tape = W.tape
  output : W'.output = W.output
  size : W.heap.size ≤ W'.heap.size
  block : ∀ k, S k → W'.heap[k]? = W.heap[k]?
namespace Kept
variable {S T : Nat → Prop} {A B C : World}
theorem refl (S : Nat → Prop) (A : World) : Kept S A A := ⟨rfl, rfl, rfl, Nat.le_refl _, fun _ _ => rfl⟩
theorem trans (h : Kept S A B) (k : Kept S B C) : Kept S A C := ⟨k.os.trans h.os, k.tape.trans h.tape, k.output.trans h.output, Nat.le_trans h.size k.size, fun i hi => (k.block i hi).trans (h.block i hi)⟩
theorem mono (h : Kept S A B) (hS : ∀ k, T k → S k) : Kept T A B := ⟨h.os, h.tape, h.output, h.size, fun i hi => h.block i (hS i hi)⟩
theorem of_below {n : Nat} (h : Below n A B) (hS : ∀ k, S k → k < n) : Kept S A B := ⟨h.os, h.tape, h.output, h.size, fun i hi => h.block i (hS i hi)⟩
end Kept
def DD (S : Nat → Prop) (W : World) (D : Nat) (d : Dk) (cnt : Nat) : Prop := (∃ own, (∀ k, own k → ¬ S k) ∧ Disk W own D d) ∧ Fit d cnt ∧ ∀ k, S k → k < W.heap.size
section
variable {S : Nat → Prop} {W W' : World} {D cnt : Nat} {d : Dk}
theorem DD.fit (h : DD S W D d cnt) : Fit d cnt := h.2.1
theorem DD.there (h : DD S W D d cnt) : ∀ k, S k → k < W.heap.size := h.2.2
theorem DD.tab (h : DD S W D d cnt) : TabAt W := by
  obtain ⟨⟨own, ho, B, bc, fo, fc, I, ic, y, h⟩, f⟩ := h
  exact h.tab
theorem DD.do_ {f : Nat} {args : Array Value} {r : Value} {d' : Dk} {cnt' : Nat} (h : DD S W D d cnt)
    (hc : ∀ own B bc fo fc I ic y, DiskAt W own D B bc fo fc I ic y d → Calls Tryz.prog f args W fun e w' => e = .returned r ∧ ∃ own', Disk w' own' D d' ∧ Moves own own' W w') (hf : Fit d cnt → Fit d' cnt') :
    Calls Tryz.prog f args W fun e w' => e = .returned r ∧ DD S w' D d' cnt' ∧ Kept S W w' := by
  obtain ⟨⟨own, ho, B, bc, fo, fc, I, ic, y, hd⟩, ft, hS⟩ := h
  refine (hc own B bc fo fc I ic y hd).mono ?_
  rintro e w' ⟨rfl, own', hd', m⟩
  exact ⟨rfl, ⟨⟨own', fun k hk hs => by
    rcases m.owns k hk with h1 | h1
    · exact ho k h1 hs
    · have := hS k hs; omega, hd'⟩, hf ft, fun k hk => Nat.lt_of_lt_of_le (hS k hk) m.size⟩, ⟨m.os, m.tape, m.output, m.size, fun k hk => m.block k (hS k hk) (fun h => ho k h hk)⟩⟩
theorem DD.same_ {f : Nat} {args : Array Value} {r : Value} {d' : Dk} {cnt' : Nat} (h : DD S W D d cnt)
    (hc : ∀ own B bc fo fc I ic y, DiskAt W own D B bc fo fc I ic y d → Calls Tryz.prog f args W fun e w' => e = .returned r ∧ Disk w' own D d' ∧ Moves own own W w') (hf : Fit d cnt → Fit d' cnt') :
    Calls Tryz.prog f args W fun e w' => e = .returned r ∧ DD S w' D d' cnt' ∧ Kept S W w' :=
  h.do_ (fun own B bc fo fc I ic y hd => (hc own B bc fo fc I ic y hd).mono fun _ _ ⟨a, b, c⟩ => ⟨a, own, b, c⟩) hf
theorem DD.look_ {f : Nat} {args : Array Value} {r : Value} (h : DD S W D d cnt)
    (hc : ∀ own B bc fo fc I ic y, DiskAt W own D B bc fo fc I ic y d → Calls Tryz.prog f args W fun e w' => e = .returned r ∧ w' = W) :
    Calls Tryz.prog f args W fun e w' => e = .returned r ∧ w' = W := by
  obtain ⟨⟨own, ho, B, bc, fo, fc, I, ic, y, hd⟩, ft⟩ := h
  exact hc own B bc fo fc I ic y hd
theorem DD.below (h : DD S W D d cnt) (hb : Below W.heap.size W W') : DD S W' D d cnt := by
  obtain ⟨⟨own, ho, B, bc, fo, fc, I, ic, y, hd⟩, ft, hS⟩ := h
  exact ⟨⟨own, ho, B, bc, fo, fc, I, ic, y, hd.below hb⟩, ft, fun k hk => Nat.lt_of_lt_of_le (hS k hk) hb.size⟩
theorem DiskAt.only {own : Nat → Prop} {B bc fc I ic : Nat} {fo : Option Addr} {y : List UInt8} {g : Nat} (h : DiskAt W own D B bc fo fc I ic y d) (ho : Only g W W') (hg : ¬ own g) (hn : 0 ≠ g) : DiskAt W' own D B bc fo fc I ic y d := by
  have e : ∀ k, own k → k ≠ g := fun k hk he => hg (he ▸ hk)
  refine ⟨h.cells.only ho (e _ h.oD), ho.bytes h.bytes (e _ h.oB), h.ylen, h.le, h.pre, ?_, h.flags.only ho (e _ h.oI), h.DB, h.DI, h.BI, h.oD, h.oB, h.oI, UK.TabAt_only h.tab ho hn, h.notab⟩
  rcases h.freeAt with h0 | ⟨F, e1, r, n1, n2, n3, n4⟩
  · exact .inl h0
  · exact .inr ⟨F, e1, r.only ho (e _ n4), n1, n2, n3, n4⟩
theorem DiskAt.tight {own : Nat → Prop} {B bc fc I ic : Nat} {fo : Option Addr} {y : List UInt8} (h : DiskAt W own D B bc fo fc I ic y d) : DiskAt W (fun k => own k ∧ k < W.heap.size) D B bc fo fc I ic y d := by
  refine ⟨h.cells, h.bytes, h.ylen, h.le, h.pre, ?_, h.flags, h.DB, h.DI, h.BI, ⟨h.oD, h.cells.lt⟩, ⟨h.oB, h.bytes.lt⟩, ⟨h.oI, h.flags.lt⟩, h.tab, fun hh => h.notab hh.1⟩
  rcases h.freeAt with h0 | ⟨F, e1, r, n1, n2, n3, n4⟩
  · exact .inl h0
  · exact .inr ⟨F, e1, r, n1, n2, n3, n4, r.lt⟩
theorem wr_page (x : List UInt8) (p : Nat) (s : List UInt8) (hs : s.length ≤ 504) (h : 512 * (p + 1) ≤ x.length) : (UK.wr x (512 * p) (pageL p s)).length = x.length :=
  UK.wr_length _ _ _ (by rw [pageL_length p s hs]; omega)
theorem puts_more (f : Fit d cnt) (h3 : d.puts + 1 < 1000000000) : 0 ≤ d.puts + 1 ∧ d.puts + 1 < 1000000000 := by have := f.puts; omega
theorem reads_more (f : Fit d cnt) (h3 : d.reads + 1 < 1000000000) : 0 ≤ d.reads + 1 ∧ d.reads + 1 < 1000000000 := by have := f.reads; omega
theorem fit_write (f : Fit d cnt) (h3 : d.puts + 1 < 1000000000) (p : Nat) (hp : p < cnt) (s : List UInt8) (hs : s.length ≤ 504) : Fit (writeD d p s) cnt :=
  ⟨(wr_page d.x p s hs (by rw [f.len]; omega)).trans f.len, f.flags, f.one, f.few, f.most, f.free, f.freeLe, f.rl, failN_wf _ f.wl, f.reads, puts_more f h3⟩
theorem fit_flush (f : Fit d cnt) (h3 : d.puts + 1 < 1000000000) : Fit (flushD d cnt) cnt := by
  unfold flushD
  split
  · exact ⟨f.len, f.flags, f.one, f.few, f.most, f.free, f.freeLe, f.rl, (by show (-1 : Int) ≤ -1 ∧ (-1 : Int) ≤ _; omega), f.reads, f.puts⟩
  · have := wr_page d.x 0 (headL d cnt) (by rw [headL_length]; decide) (by rw [f.len]; have := f.one; omega)
    exact ⟨this.trans f.len, f.flags, f.one, f.few, f.most, f.free, f.freeLe, f.rl, failN_wf _ f.wl, f.reads, puts_more f h3⟩
theorem fit_rl (f : Fit d cnt) (k : Int) (hk : -1 ≤ k ∧ k ≤ 9223372036854775807) : Fit { d with rl := k } cnt := ⟨f.len, f.flags, f.one, f.few, f.most, f.free, f.freeLe, hk, f.wl, f.reads, f.puts⟩
theorem fit_wl (f : Fit d cnt) (k : Int) (hk : -1 ≤ k ∧ k ≤ 9223372036854775807) : Fit { d with wl := k } cnt := ⟨f.len, f.flags, f.one, f.few, f.most, f.free, f.freeLe, f.rl, hk, f.reads, f.puts⟩
theorem fit_read (f : Fit d cnt) (h3 : d.reads + 1 < 1000000000) : Fit { d with rl := failN d.rl, reads := d.reads + 1 } cnt := ⟨f.len, f.flags, f.one, f.few, f.most, f.free, f.freeLe, failN_wf _ f.rl, f.wl, reads_more f h3, f.puts⟩
theorem fit_give (f : Fit d cnt) (h3 : d.puts + 1 < 1000000000) (p : Nat) (h1 : 1 ≤ p) (hp : p < cnt) (hl : d.free.length < cnt) : Fit (giveD d p) cnt :=
  ⟨(wr_page d.x p (nextL d d.free.length) (by rw [nextL_length]; decide) (by rw [f.len]; omega)).trans f.len, by show (d.isf.set p true).length = cnt; rw [List.length_set]; exact f.flags, f.one, f.few, f.most, fun k hk => by
      rcases List.mem_append.1 hk with hk | hk
      · exact f.free k hk
      · rw [List.mem_singleton.1 hk]; exact ⟨h1, hp⟩, by show (d.free ++ [p]).length ≤ cnt; rw [List.length_append]; exact hl, f.rl, failN_wf _ f.wl, f.reads, puts_more f h3⟩
theorem fit_takeF (f : Fit d cnt) (h3 : d.puts + 1 < 1000000000) (l : List Nat) (p : Nat) (hl : d.free = l ++ [p]) : Fit (takeF d l p) cnt := by
  have hp := f.free p (by rw [hl]; exact List.mem_append_right _ (List.mem_singleton.2 rfl))
  have hll : l.length + 1 ≤ cnt := by have := f.freeLe; rw [hl, List.length_append] at this; exact this
  exact ⟨(wr_page d.x p [] (by decide) (by rw [f.len]; omega)).trans f.len, by show (d.isf.set p false).length = cnt; rw [List.length_set]; exact f.flags, f.one, f.few, f.most, fun k hk => f.free k (by rw [hl]; exact List.mem_append_left _ hk), by show l.length ≤ cnt; omega, f.rl, failN_wf _ f.wl, f.reads, puts_more f h3⟩
theorem fit_takeN (f : Fit d cnt) (h3 : d.puts + 1 < 1000000000) (hl : d.free = []) (hm : (cnt : Int) < d.most) : Fit (takeN d cnt) (cnt + 1) := by
  have hx : (d.x ++ UK.zeros 512).length = 512 * (cnt + 1) := by rw [List.length_append, UK.zeros_length, f.len]; omega
  refine ⟨(wr_page _ cnt [] (by decide) (by rw [hx]; omega)).trans hx, by show (d.isf ++ [false]).length = _; rw [List.length_append, f.flags]; rfl, by omega, ?_, ⟨f.most.1, f.most.2.1, by show ((cnt + 1 : Nat) : Int) ≤ d.most; omega⟩, fun k hk => ?_, ?_, f.rl, failN_wf _ f.wl, f.reads, puts_more f h3⟩
  · have := f.most.2.1; omega
  · have hk' : k ∈ d.free := hk
    rw [hl] at hk'; cases hk'
  · show d.free.length ≤ _
    rw [hl]; exact Nat.zero_le _
/- the calls -/
theorem dd_new (W : World) (pages : Int) (ht : TabAt W) (S : Nat → Prop) (hS : ∀ k, S k → k < W.heap.size) :
    Calls Tryz.prog 28 #[.int .i64 pages] W fun e w' => e = .returned (.pointer (some ⟨W.heap.size, 0, none⟩)) ∧ DD S w' W.heap.size (newD pages) 1 ∧ Below W.heap.size W w' :=
  (new_any W pages ht).mono fun _ _ ⟨a, b, c⟩ => ⟨a, ⟨⟨_, fun k hk hs => by have := hS k hs; omega, b⟩, fit_flush (fit_bare pages) (by show (0 : Int) + 1 < _; omega), fun k hk => Nat.lt_of_lt_of_le (hS k hk) c.size⟩, c⟩
theorem dd_take_full (h : DD S W D d cnt) (hr : d.most - cnt + d.free.length = 0) :
    Calls Tryz.prog 107 #[.pointer (some ⟨D, 0, none⟩)] W fun e w' => e = .returned (.tuple #[.int .i64 0, .int .i64 6]) ∧ DD S w' D d cnt ∧ Kept S W w' :=
  h.same_ (fun _ _ _ _ _ _ _ _ hd => take_full hd h.fit hr) id
theorem dd_take_fail (h : DD S W D d cnt) (hr : 0 < d.most - cnt + d.free.length) (h0 : d.wl = 0) :
    Calls Tryz.prog 107 #[.pointer (some ⟨D, 0, none⟩)] W fun e w' => e = .returned (.tuple #[.int .i64 0, .int .i64 7]) ∧ DD S w' D { d with wl := -1 } cnt ∧ Kept S W w' :=
  h.same_ (fun _ _ _ _ _ _ _ _ hd => take_fail hd h.fit hr h0) (fun f => fit_wl f (-1) (by omega))
theorem dd_take_free (h : DD S W D d cnt) (h3 : d.puts + 1 < 1000000000) (l : List Nat) (p : Nat) (hl : d.free = l ++ [p]) (h0 : d.wl ≠ 0) :
    Calls Tryz.prog 107 #[.pointer (some ⟨D, 0, none⟩)] W fun e w' => e = .returned (.tuple #[.int .i64 p, .int .i64 0]) ∧ DD S w' D (takeF d l p) cnt ∧ Kept S W w' :=
  h.same_ (fun _ _ _ _ _ _ _ _ hd => take_free hd h.fit h3 l p hl h0) (fun f => fit_takeF f h3 l p hl)
theorem dd_take_new (h : DD S W D d cnt) (h3 : d.puts + 1 < 1000000000) (hl : d.free = []) (hm : (cnt : Int) < d.most) (h0 : d.wl ≠ 0) :
    Calls Tryz.prog 107 #[.pointer (some ⟨D, 0, none⟩)] W fun e w' => e = .returned (.tuple #[.int .i64 cnt, .int .i64 0]) ∧ DD S w' D (takeN d cnt) (cnt + 1) ∧ Kept S W w' :=
  h.do_ (fun _ _ _ _ _ _ _ _ hd => take_new hd h.fit h3 hl hm h0) (fun f => fit_takeN f h3 hl hm)
theorem dd_give_no (h : DD S W D d cnt) (p : Int) (hh : hasD d cnt p = false) :
    Calls Tryz.prog 117 #[.pointer (some ⟨D, 0, none⟩), .int .i64 p] W fun e w' => e = .returned (.int .i64 4) ∧ DD S w' D d cnt ∧ Kept S W w' :=
  h.same_ (fun _ _ _ _ _ _ _ _ hd => give_no hd h.fit p hh) id
theorem dd_give_fail (h : DD S W D d cnt) (p : Int) (hh : hasD d cnt p = true) (h0 : d.wl = 0) :
    Calls Tryz.prog 117 #[.pointer (some ⟨D, 0, none⟩), .int .i64 p] W fun e w' => e = .returned (.int .i64 7) ∧ DD S w' D { d with wl := -1 } cnt ∧ Kept S W w' :=
  h.same_ (fun _ _ _ _ _ _ _ _ hd => give_fail hd h.fit p hh h0) (fun f => fit_wl f (-1) (by omega))
theorem has_lt {p : Nat} (hh : hasD d cnt p = true) : 1 ≤ p ∧ p < cnt ∧ d.isf.getD p false = false := by
  unfold hasD at hh
  rw [Bool.and_eq_true, decide_eq_true_eq, Bool.not_eq_true', Int.toNat_natCast] at hh
  exact ⟨by omega, by omega, hh.2⟩
theorem dd_give_yes (h : DD S W D d cnt) (h3 : d.puts + 1 < 1000000000) (p : Nat) (hh : hasD d cnt p = true) (hl : d.free.length < cnt) (h0 : d.wl ≠ 0) :
    Calls Tryz.prog 117 #[.pointer (some ⟨D, 0, none⟩), .int .i64 p] W fun e w' => e = .returned (.int .i64 0) ∧ DD S w' D (giveD d p) cnt ∧ Kept S W w' :=
  h.do_ (fun _ _ _ _ _ _ _ _ hd => give_yes hd h.fit h3 p (has_lt hh).2.1 hh h0) (fun f => fit_give f h3 p (has_lt hh).1 (has_lt hh).2.1 hl)
theorem dd_read_no (h : DD S W D d cnt) (p : Int) (hh : hasD d cnt p = false) :
    Calls Tryz.prog 105 #[.pointer (some ⟨D, 0, none⟩), .int .i64 p] W fun e w' => e = .returned (.tuple #[.string (str []), .int .i64 4]) ∧ DD S w' D d cnt ∧ Kept S W w' :=
  h.same_ (fun _ _ _ _ _ _ _ _ hd => read_no hd h.fit p hh) id
theorem dd_read_fail (h : DD S W D d cnt) (p : Int) (hh : hasD d cnt p = true) (h0 : d.rl = 0) :
    Calls Tryz.prog 105 #[.pointer (some ⟨D, 0, none⟩), .int .i64 p] W fun e w' => e = .returned (.tuple #[.string (str []), .int .i64 7]) ∧ DD S w' D { d with rl := -1 } cnt ∧ Kept S W w' :=
  h.same_ (fun _ _ _ _ _ _ _ _ hd => read_fail hd h.fit p hh h0) (fun f => fit_rl f (-1) (by omega))
def readD (d : Dk) : Dk := { d with rl := failN d.rl, reads := d.reads + 1 }
theorem dd_read_yes (h : DD S W D d cnt) (h3 : d.reads + 1 < 1000000000) (p : Nat) (hh : hasD d cnt p = true) (h0 : d.rl ≠ 0) :
    Calls Tryz.prog 105 #[.pointer (some ⟨D, 0, none⟩), .int .i64 p] W fun e w' => e = .returned (.tuple #[.string (str (lookL d.x p)), .int .i64 (readE d.x p)]) ∧ DD S w' D (readD d) cnt ∧ Kept S W w' :=
  h.same_ (fun _ _ _ _ _ _ _ _ hd => read_yes hd h.fit p (has_lt hh).2.1 hh h0) (fun f => fit_read f h3)
theorem dd_write_no (h : DD S W D d cnt) (p : Int) (hh : hasD d cnt p = false) (s : List UInt8) :
    Calls Tryz.prog 86 #[.pointer (some ⟨D, 0, none⟩), .int .i64 p, .string (str s)] W fun e w' => e = .returned (.int .i64 4) ∧ DD S w' D d cnt ∧ Kept S W w' :=
  h.same_ (fun _ _ _ _ _ _ _ _ hd => write_no hd h.fit p hh s) id
theorem dd_write_arg (h : DD S W D d cnt) (p : Int) (hh : hasD d cnt p = true) (s : List UInt8) (hs : s.length ≠ 504) :
    Calls Tryz.prog 86 #[.pointer (some ⟨D, 0, none⟩), .int .i64 p, .string (str s)] W fun e w' => e = .returned (.int .i64 1) ∧ DD S w' D d cnt ∧ Kept S W w' :=
  h.same_ (fun _ _ _ _ _ _ _ _ hd => write_arg hd h.fit p hh s hs) id
theorem dd_write_fail (h : DD S W D d cnt) (p : Int) (hh : hasD d cnt p = true) (h0 : d.wl = 0) (s : List UInt8) (hs : s.length = 504) :
    Calls Tryz.prog 86 #[.pointer (some ⟨D, 0, none⟩), .int .i64 p, .string (str s)] W fun e w' => e = .returned (.int .i64 7) ∧ DD S w' D { d with wl := -1 } cnt ∧ Kept S W w' :=
  h.same_ (fun _ _ _ _ _ _ _ _ hd => write_fail hd h.fit p hh h0 s hs) (fun f => fit_wl f (-1) (by omega))
theorem dd_write_yes (h : DD S W D d cnt) (h3 : d.puts + 1 < 1000000000) (p : Nat) (hh : hasD d cnt p = true) (h0 : d.wl ≠ 0) (s : List UInt8) (hs : s.length = 504) :
    Calls Tryz.prog 86 #[.pointer (some ⟨D, 0, none⟩), .int .i64 p, .string (str s)] W fun e w' => e = .returned (.int .i64 0) ∧ DD S w' D (writeD d p s) cnt ∧ Kept S W w' :=
  h.same_ (fun _ _ _ _ _ _ _ _ hd => write_yes hd h.fit h3 p (has_lt hh).2.1 hh h0 s hs) (fun f => fit_write f h3 p (has_lt hh).2.1 s (by omega))
theorem dd_flush (h : DD S W D d cnt) (h3 : d.puts + 1 < 1000000000) :
    Calls Tryz.prog 39 #[.pointer (some ⟨D, 0, none⟩)] W fun e w' => e = .returned (.int .i64 (failE d.wl)) ∧ DD S w' D (flushD d cnt) cnt ∧ Kept S W w' :=
  h.same_ (fun _ _ _ _ _ _ _ _ hd => flush_any hd h.fit h3) (fun f => fit_flush f h3)
theorem dd_has (h : DD S W D d cnt) (p : Int) :
    Calls Tryz.prog 102 #[.pointer (some ⟨D, 0, none⟩), .int .i64 p] W fun e w' => e = .returned (.bool (hasD d cnt p)) ∧ ∃ q, w' = W.drewN q := by
  have f := h.fit
  obtain ⟨⟨own, ho, B, bc, fo, fc, I, ic, y, hd⟩, ft⟩ := h
  exact hasd_any hd f p
end
end Go.Proofs.YtfljlcfmdcepnaaGreatDoor
