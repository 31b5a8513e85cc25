/-
  disk.Take: a new page.
-/
import Derived.Test.YtamnhpijeiigcaaDoorDiskL
namespace Go.Proofs.YtamnhpijeiigcaaDoor
open Go.RowKit
open UK (str BytesAt nth Only w32 Row)
open Go.BigFrame
section
variable {W W' : World} {own : Nat → Prop} {D B bc fc I ic cnt : Nat} {fo : Option Addr} {y : List UInt8} {d : Dk}
theorem DiskAt.noNew (h : DiskAt W own D B bc fo fc I ic y d) {g : Nat} (h4 : own g ∨ W.heap.size ≤ g) : 0 ≠ g := fun e => by
  have := h.tab.lt
  rcases h4 with h4 | h4
  · exact h.notab (e ▸ h4)
  · omega
/-- the bytes lie elsewhere, and are others -/
theorem DiskAt.bytesTo (h : DiskAt W own D B bc fo fc I ic y d) {B' bc' : Nat} {y' x' : List UInt8} (hb : BytesAt W' B' y') (hyl : y'.length = bc') (hle : x'.length ≤ bc') (hp : y'.take x'.length = x') (ho : Only B' W W') (hB : B' = B ∨ W.heap.size ≤ B') :
    DiskAt (W'.setCell ⟨D, 0, none⟩ (.slice (some ⟨B', 0, none⟩) x'.length bc')) (also own B') D B' bc' fo fc I ic y' { d with x := x' } := by
  have l1 := h.cells.lt
  have l2 := h.bytes.lt
  have l3 := h.flags.lt
  have h1 : B' ≠ D := by
    rcases hB with rfl | hB
    · exact h.DB.symm
    · omega
  have h3 : B' ≠ I := by
    rcases hB with rfl | hB
    · exact h.BI
    · omega
  have h4 : own B' ∨ W.heap.size ≤ B' := by
    rcases hB with rfl | hB
    · exact .inl h.oB
    · exact .inr hB
  have hc := (h.cells.only ho h1.symm).set 0 (.slice (some ⟨B', 0, none⟩) x'.length bc') (by show 0 < 8; omega)
  have o2 := (Only.refl D W').set 0 (.slice (some ⟨B', 0, none⟩) x'.length bc')
  have hnt := h.noNew h4
  refine ⟨hc, o2.bytes hb h1, hyl, hle, hp, ?_, (h.flags.only ho h3.symm).only o2 h.DI.symm, h1.symm, h.DI, h3, .inl h.oD, .inr rfl, .inl h.oI, UK.TabAt_only (UK.TabAt_only h.tab ho hnt) o2 h.noD, fun hh => ?_⟩
  · rcases h.freeAt with h0 | ⟨F, e, r, n1, n2, n3, n4⟩
    · exact .inl h0
    · have hF : F ≠ B' := by
        have := r.lt
        rcases hB with rfl | hB
        · exact n2
        · omega
      exact .inr ⟨F, e, (r.only ho hF).only o2 n1, n1, hF, n3, .inl n4⟩
  · rcases hh with hh | hh
    · exact h.notab hh
    · exact hnt hh
/-- the flags lie elsewhere, and are others -/
theorem DiskAt.flagsTo (h : DiskAt W own D B bc fo fc I ic y d) {I' ic' : Nat} {l : List Bool} (hr : Row W' I' ic' (bools l)) (ho : Only I' W W') (hI : I' = I ∨ W.heap.size ≤ I') :
    DiskAt (W'.setCell ⟨D, 3, none⟩ (.slice (some ⟨I', 0, none⟩) l.length ic')) (also own I') D B bc fo fc I' ic' y { d with isf := l } := by
  have l1 := h.cells.lt
  have l2 := h.bytes.lt
  have l3 := h.flags.lt
  have h1 : I' ≠ D := by
    rcases hI with rfl | hI
    · exact h.DI.symm
    · omega
  have h3 : I' ≠ B := by
    rcases hI with rfl | hI
    · exact h.BI.symm
    · omega
  have h4 : own I' ∨ W.heap.size ≤ I' := by
    rcases hI with rfl | hI
    · exact .inl h.oI
    · exact .inr hI
  have hc := (h.cells.only ho h1.symm).set 3 (.slice (some ⟨I', 0, none⟩) l.length ic') (by show 3 < 8; omega)
  have o2 := (Only.refl D W').set 3 (.slice (some ⟨I', 0, none⟩) l.length ic')
  have hnt := h.noNew h4
  refine ⟨hc, o2.bytes (ho.bytes h.bytes h3.symm) h.DB.symm, h.ylen, h.le, h.pre, ?_, hr.only o2 h1, h.DB, h1.symm, h3.symm, .inl h.oD, .inl h.oB, .inr rfl, UK.TabAt_only (UK.TabAt_only h.tab ho hnt) o2 h.noD, fun hh => ?_⟩
  · rcases h.freeAt with h0 | ⟨F, e, r, n1, n2, n3, n4⟩
    · exact .inl h0
    · have hF : F ≠ I' := by
        have := r.lt
        rcases hI with rfl | hI
        · exact n3
        · omega
      exact .inr ⟨F, e, (r.only ho hF).only o2 n1, n1, n2, hF, .inl n4⟩
  · rcases hh with hh | hh
    · exact h.notab hh
    · exact hnt hh
theorem push_page (h : DiskAt W own D B bc fo fc I ic y d) (hl : d.x.length ≤ 40000000) :
    ∃ B' bc' y' W', (Builtin.append_ #[36, 3] 36 #[.slice (some ⟨B, 0, none⟩) d.x.length bc, .int .i64 512]).run Tryd.prog W = .ok (.slice (some ⟨B', 0, none⟩) (d.x.length + 512) bc') W' ∧ BytesAt W' B' y' ∧ y'.length = bc' ∧ d.x.length + 512 ≤ bc' ∧ y'.take (d.x.length + 512) = d.x ++ UK.zeros 512 ∧ Only B' W W' ∧ (B' = B ∨ W.heap.size ≤ B') := by
  obtain ⟨B', bc', y', W', e, b, c, g, k, o⟩ := UK.push_zeros (P := Tryd.prog) (t := 36) (tn := 3) (ty := 36) (k := .i64) (kn := .i64) Tryd.underlying36 Tryd.underlying3 (i := Tryd.t5) rfl rfl rfl rfl h.bytes h.ylen h.le h.pre 512 (by omega) (by omega)
  refine ⟨B', bc', y', W', e, b, c, g, k, ?_⟩
  rcases o with ⟨a, o⟩ | ⟨a, o⟩
  · exact ⟨a ▸ o, .inl a⟩
  · exact ⟨Only.of_below o, .inr (by omega)⟩
theorem push_flag (h : DiskAt W own D B bc fo fc I ic y d) (b : Bool) (hl : d.isf.length ≤ 60000) :
    ∃ g' c' W', (Builtin.append_ #[62, 62] 62 #[.slice (some ⟨I, 0, none⟩) d.isf.length ic, .slice (some ⟨W.heap.size, 0, none⟩) 1 1]).run Tryd.prog (W.alloc (.cells #[.bool b] 4)) = .ok (.slice (some ⟨g', 0, none⟩) (d.isf.length + 1) c') W' ∧ Row W' g' c' (bools (d.isf ++ [b])) ∧ Only g' W W' ∧ (g' = I ∨ W.heap.size ≤ g') := by
  obtain ⟨g', c', W', e, r, o, hg⟩ := UK.push_one (P := Tryd.prog) (t := 62) (ty := 62) Tryd.underlying62 (i := Tryd.t4) rfl rfl rfl (show (1 : Nat) ≤ 16 by omega) rfl (.inr ⟨I, rfl, h.flags⟩) (.bool b) rfl (by rw [bools_length]; omega)
  rw [bools_length] at e
  refine ⟨g', c', W', e, by unfold bools at *; rw [List.map_append]; exact r, o, ?_⟩
  rcases hg with hg | hg
  · exact .inl (congrArg Addr.block (Option.some.inj hg)).symm
  · exact .inr hg
/-- behind a new page taken -/
def takeN (d : Dk) (cnt : Nat) : Dk := { d with wl := failN d.wl, puts := d.puts + 1, x := UK.wr (d.x ++ UK.zeros 512) (512 * cnt) (pageL cnt []), isf := d.isf ++ [false] }
set_option maxHeartbeats 1000000 in
set_option maxRecDepth 100000 in
theorem take_new (h : DiskAt W own D B bc fo fc I ic y d) (f : Fit d cnt) (hq3 : d.puts + 1 < 1000000000) (hl : d.free = []) (hm : (cnt : Int) < d.most) (h0 : d.wl ≠ 0) :
    Calls Tryd.prog 11 #[.pointer (some ⟨D, 0, none⟩)] W fun e w' => e = .returned (.tuple #[.int .i64 cnt, .int .i64 0]) ∧ ∃ own', Disk w' own' D (takeN d cnt) ∧ Moves own own' W w' := by
  have hc := room_any h f
  have hlen : d.free.length = 0 := by rw [hl]; rfl
  obtain ⟨r, HR⟩ : ∃ r, Hid (d.most - cnt + d.free.length = r) := ⟨_, rfl⟩
  have hr : 0 < r := by have := HR.out; omega
  rw [HR.out] at hc
  have HE : Hid (failE d.wl = 0) := by show _ = _; unfold failE; rw [if_neg h0]
  have HQ3 := Lib.hid hq3
  have hq1 := f.puts.1
  have hq2 := f.puts.2
  have hwl' := failN_wf d.wl f.wl
  have hfew := f.few
  have hm2 := f.most.2.1
  have hfew2 : cnt < 60000 := by omega
  have HIL := Lib.hid f.flags
  have HXL := Lib.hid f.len
  have HL := Lib.hid hl
  have HLen := Lib.hid hlen
  have HM := Lib.hid hm
  clear h0 hq3 hl hlen hm hm2
  go_enter Tryd.func11, Tryd.ntmps11
  go_wp2_with fail
  refine hc.mono ?_
  rintro e w' ⟨rfl, q, rfl⟩
  have h1 := h.drewN q
  have m1 := Moves.of_below (o := own) (UK.belowN (Below.refl W.heap.size W) q)
  generalize W.drewN q = w1 at h1 m1 ⊢
  have hfail := fail_any h1.cells 5 d.wl rfl f.wl
  rw [HE.out] at hfail
  go_wp2_with fail
  refine hfail.mono ?_
  rintro e w2 ⟨rfl, r1, o1⟩
  have h2 := h1.turnD (d' := { d with wl := failN d.wl }) r1 o1 rfl rfl rfl
  have c7 := h2.cells.at' 7 _ rfl
  have f7 := h2.cells.free 7 (by omega)
  have r3 := h2.cells.set 7 (.int .i64 (d.puts + 1)) (by show 7 < 8; omega)
  have o3 := (Only.refl D w2).set 7 (.int .i64 (d.puts + 1))
  have h3 := h2.turnD (d' := paidD d) r3 o3 rfl rfl rfl
  have m3 := (m1.trans (Moves.of_only o1 h.oD)).trans (Moves.of_only o3 h.oD)
  have f3 : Fit (paidD d) cnt := ⟨f.len, f.flags, f.one, f.few, f.most, f.free, f.freeLe, f.rl, hwl', f.reads, by show 0 ≤ d.puts + 1 ∧ _; exact ⟨by omega, HQ3.out⟩⟩
  go_wp2_with fail
  generalize w2.setCell ⟨D, 7, none⟩ (.int .i64 (d.puts + 1)) = w3 at h3 m3 ⊢
  clear h2 c7 f7 r3 o3 r1 o1 hfail hc m1 h1
  refine (count_any h3 f3).mono ?_
  rintro e w' ⟨rfl, rfl⟩
  have c2 := h3.cells.at' 2 _ rfl
  rw [show (paidD d).free.length = 0 from HLen.out] at c2
  have c0 := h3.cells.at' 0 _ rfl
  rw [show (paidD d).x.length = 512 * cnt from HXL.out] at c0
  obtain ⟨B', bc', y', w4, e4, b4, l4, k4, p4, o4, n4⟩ := push_page h3 (by show d.x.length ≤ _; rw [HXL.out]; omega)
  have hx2 : (d.x ++ UK.zeros 512).length = 512 * cnt + 512 := by rw [List.length_append, UK.zeros_length, HXL.out]
  have e4' := e4
  rw [show (paidD d).x.length = 512 * cnt from HXL.out] at e4' k4 p4
  have h5 := h3.bytesTo (x' := d.x ++ UK.zeros 512) b4 l4 (by omega) (by rw [hx2]; exact p4) o4 n4
  rw [hx2] at h5
  have hB1 : B' ≠ D := h5.DB.symm
  have hB2 : own B' ∨ w'.heap.size ≤ B' := by
    rcases n4 with rfl | n4
    · exact .inl h.oB
    · exact .inr n4
  have f0 := (h3.cells.only o4 hB1.symm).free 0 (by omega)
  have c0' := (h3.cells.only o4 hB1.symm).at' 0 _ rfl
  have m5 := (m3.trans (Moves.of_also o4 hB2)).trans (Moves.of_only ((Only.refl D w4).set 0 (.slice (some ⟨B', 0, none⟩) (512 * cnt + 512) bc')) (show also own B' D from .inl h.oD))
  have c3 := h5.cells.at' 3 _ rfl
  rw [show (paidD d).isf.length = cnt from HIL.out] at c3
  obtain ⟨I', ic', w6, e6, r6, o6, n6⟩ := push_flag h5 false (by show d.isf.length ≤ _; rw [HIL.out]; omega)
  have hi2 : (d.isf ++ [false]).length = cnt + 1 := by rw [List.length_append, HIL.out]; rfl
  have h7 := h5.flagsTo (l := d.isf ++ [false]) r6 o6 n6
  rw [hi2] at h7
  have hI1 : I' ≠ D := h7.DI.symm
  have hI2 : also own B' I' ∨ (w4.setCell ⟨D, 0, none⟩ (.slice (some ⟨B', 0, none⟩) (512 * cnt + 512) bc')).heap.size ≤ I' := by
    rcases n6 with rfl | n6
    · exact .inl (.inl h.oI)
    · exact .inr n6
  have f3' := (h5.cells.only o6 hI1.symm).free 3 (by omega)
  have c3' := (h5.cells.only o6 hI1.symm).at' 3 _ rfl
  have m7 := (m5.trans (Moves.of_also o6 hI2)).trans (Moves.of_only ((Only.refl D w6).set 3 (.slice (some ⟨I', 0, none⟩) (cnt + 1) ic')) (show also (also own B') I' D from .inl (.inl h.oD)))
  rw [show ({ paidD d with x := d.x ++ UK.zeros 512 } : Dk).isf.length = cnt from HIL.out] at e6
  rw [show (w4.setCell ⟨D, 0, none⟩ (.slice (some ⟨B', 0, none⟩) (512 * cnt + 512) bc')).heap.size = w4.heap.size by simp] at e6
  have f7 : Fit { paidD d with x := d.x ++ UK.zeros 512, isf := d.isf ++ [false] } (cnt + 1) := ⟨by rw [hx2]; omega, hi2, by omega, by omega, ⟨f.most.1, f.most.2.1, by show ((cnt + 1 : Nat) : Int) ≤ d.most; have := HM.out; omega⟩, (fun k hk => by
      have hk' : k ∈ d.free := hk
      rw [HL.out] at hk'
      cases hk'), by show d.free.length ≤ _; rw [HL.out]; exact Nat.zero_le _, f.rl, hwl', f.reads, by show 0 ≤ d.puts + 1 ∧ _; exact ⟨by omega, HQ3.out⟩⟩
  have d7 : Dat _ _ (also (also own B') I') D B' bc' fo fc I' ic' y' { paidD d with x := d.x ++ UK.zeros 512, isf := d.isf ++ [false] } (cnt + 1) := ⟨h7, f7, Moves.of_below (Below.refl _ _)⟩
  clear h5 m5 h7 e4 hx2 hi2
  go_wp2_with (first | (at_builtin; refine UK.wpList_append_run e4' rfl rfl rfl rfl rfl ?_) | (at_builtin; refine UK.wpList_append_run e6 rfl rfl rfl rfl rfl ?_))
  refine (lay_dat d7 cnt [] (by omega) (by decide)).mono ?_
  rintro e w8 ⟨rfl, y8, d8⟩
  go_wp2
  go_ret2
  exact ⟨rfl, _, ⟨B', bc', _, fc, I', ic', y8, d8.at_⟩, m7.trans d8.moves⟩
end
end Go.Proofs.YtamnhpijeiigcaaDoor
