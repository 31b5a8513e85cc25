/-
  heap.Set: a text is another one.
-/
import Derived.Test.YtjfkdfffolkblaaGreatDoorHeapS
namespace Go.Proofs.YtjfkdfffolkblaaGreatDoor
open Go.RowKit
open UK (str BytesAt nth Only Row Box w32)
open SR (Recs rcd total)
open SL (hole add trim room live)
open Go.BigFrame
section
variable {E F : Nat → Prop} {W W' : World} {P D k fb db cap pg root H : Nat} {A B C : AP} {rp : List Nat} {L : Nat → List (List UInt8)} {X : List HT} {t : HT} {s : List UInt8}
theorem HZ.less {T : Nat → Prop} (h : HZ E W P D H k A root pg rp L X) (hT : ∀ j, T j → E j) (hH : T H) : HZ T W P D H k A root pg rp L X := ⟨h.pz.less hT, h.good, h.box, hH, h.hi, h.few⟩
theorem HZ.up {m : Nat} (h : HZ E W P D H k A root pg rp L X) (hm : k ≤ m) : HZ E W P D H m A root pg rp L X := ⟨h.pz.up hm, h.good, h.box, h.mem, h.hi, h.few⟩
/-- what Set leaves -/
def SetR (E : Nat → Prop) (W W' : World) (P D H k : Nat) (A : AP) (root : Nat) (t : HT) (s : List UInt8) (X : List HT) (e : Ending) : Prop :=
  (∃ u B pg' rp' L', e = .returned (.tuple #[.int .u64 (idOf u : Nat), .int .i64 0]) ∧ u.s = s ∧ HZ E W' P D H (k + (t.s.length + s.length + 100)) B root pg' rp' L' (u :: X) ∧ A.Reach B ∧ Kept E W W') ∨
  (∃ B1 B pg1 rp1 L1, e = .returned (.tuple #[.int .u64 0, .int .i64 6]) ∧ HI B1.pgs root pg1 rp1 L1 X ∧ A.Reach B1 ∧ A.Reach B ∧ 500 * B1.rooms < s.length + 500 ∧ PZ E W' P D B (k + (t.s.length + s.length + 100)) ∧ Kept E W W')
/-- a short text is another one, in its place -/
theorem set_swap (h : HI A.pgs root pg rp L (t :: X)) (ht : t.s.length ≤ 300) (hs : s.length ≤ 300) {z : List UInt8} (hz : Recs z ((L t.pg).set t.i (0 :: s))) :
    HI (A.wrote t.pg z).pgs root pg rp (fun p => if p = t.pg then (L t.pg).set t.i (0 :: s) else L p) (⟨t.pg, t.i, s, []⟩ :: X) := by
  have h1 : LongIs A.c t := h.long t (List.mem_cons_self ..)
  unfold LongIs at h1
  rw [if_pos ht] at h1
  have e : recOf ⟨t.pg, t.i, s, []⟩ = 0 :: s := by unfold recOf; rw [if_pos hs]
  have := h.swap (u := ⟨t.pg, t.i, s, []⟩) (B := (A.wrote t.pg z).pgs) (y := z) (fun p => AP.wrote_has) rfl rfl h1 rfl hs (by rw [e]; exact hz) (by show (A.wrote t.pg z).c t.pg = z; rw [AP.wrote_c, if_pos rfl]) (fun p _ hp => by show (A.wrote t.pg z).c p = A.c p; rw [AP.wrote_c, if_neg (Ne.symm hp)])
  rw [e] at this
  exact this
set_option maxHeartbeats 2000000 in
set_option maxRecDepth 100000 in
theorem hset_any (h : HZ E W P D H k A root pg rp L (t :: X)) (hk : k + (t.s.length + s.length + 100) < 900000000) (hs4 : s.length ≤ 400000) :
    Calls Tryz.prog 37 #[.pointer (some ⟨H, 0, none⟩), .int .u64 (idOf t : Nat), .string (str s)] W fun e w' => SetR E W w' P D H k A root t s X e := by
  have ht := h.pz.tab.lt
  have hE0 := h.pz.there
  obtain ⟨hr1, hr2, hr3⟩ := h.hi.each t (List.mem_cons_self ..)
  have hpgA : A.Has t.pg := (h.hi.rp_has hr1).1
  have hp6 : t.pg ≤ 60000 := by
    have := hpgA.2.1
    have := h.pz.cnt_le
    omega
  have hi := h.hi.slot (List.mem_cons_self (a := t) (l := X))
  have a1 : Below W.heap.size W (W.alloc (.cells #[.int .u64 ((idOf t : Nat) : Int)] 34)) := (Below.refl _ _).alloc (Nat.le_refl _) _
  have hs1 : (W.alloc (.cells #[.int .u64 ((idOf t : Nat) : Int)] 34)).heap.size = W.heap.size + 1 := by simp
  have x1 := Box.new W #[.int .u64 ((idOf t : Nat) : Int)] 34
  generalize hwa : W.alloc (.cells #[.int .u64 ((idOf t : Nat) : Int)] 34) = wa at a1 hs1 x1
  have a2 := a1.alloc (by omega) (.cells #[.string (str s)] 9)
  have hs2 : (wa.alloc (.cells #[.string (str s)] 9)).heap.size = W.heap.size + 2 := by simp [hs1]
  have x2 := Box.new wa #[.string (str s)] 9
  rw [hs1] at x2
  have x1' := x1.alloc (.cells #[.string (str s)] 9)
  generalize hwc : wa.alloc (.cells #[.string (str s)] 9) = wc at a2 hs2 x2 x1'
  have HWC : Hid ((W.alloc (.cells #[.int .u64 ((idOf t : Nat) : Int)] 34)).alloc (.cells #[.string (str s)] 9) = wc) := by
    show _ = _
    rw [hwa, hwc]
  have hz2 : HZ (fun j => E j ∨ j = W.heap.size ∨ j = W.heap.size + 1) wc P D H k A root pg rp L (t :: X) := ⟨h.pz.wide a2 (fun j hj => by
    rcases hj with hj | hj | hj
    · exact .inl hj
    · exact .inr (by omega)
    · exact .inr (by omega)), h.good, h.box.below a2 h.box.lt, .inl h.mem, h.hi, h.few⟩
  have k2 : Kept E W wc := h.pz.kept a2
  have HF := Lib.hid (hz2.find (List.mem_cons_self ..) (by omega))
  have HZ2 := Lib.hid (And.intro hz2 (And.intro k2 (And.intro x1' x2)))
  have HN := Lib.hid (And.intro hp6 (And.intro hi (And.intro hE0 ht)))
  have HDV : Hid (((idOf t : Nat) : Int) / 256 = (t.pg : Int)) := by show _ = _; unfold idOf; omega
  have HID : Hid ((idOf t : Nat) = t.pg * 256 + t.i) := rfl
  have HH := Lib.hid h
  have hXl : X.length ≤ 1000000 := by have := h.few; rw [List.length_cons] at this; omega
  have hxs : (s.length : Int) ≤ 400000 := by omega
  clear h x1 x1' x2 a1 a2 hs1 hs2 hwa hwc hE0 ht hz2 k2 hr1 hr2 hpgA hp6 hi
  have HIDN : Hid ((idOf t : Nat) = idOf t) := rfl
  generalize hnn : (idOf t : Nat) = n at HWC HF HZ2 HDV HID ⊢
  have HNN := Lib.hid hnn
  clear hnn
  by_cases hs : t.s.length ≤ 300
  · have hrec := rec_short t.s t.ch hs
    have hn0 : nth (recS t.s t.ch) 0 = 0 := by rw [hrec]; rfl
    have hn0' : ((nth (recS t.s t.ch) 0).toNat : Int) = 0 := by rw [hn0]; rfl
    have hl0 : (0 : Int) < (recS t.s t.ch).length := by rw [hrec, List.length_cons]; omega
    have HS := Lib.hid hs
    clear hrec hs
    generalize recS t.s t.ch = rec at HF hn0 hn0' hl0
    by_cases hss : s.length ≤ 300
    · have hsi : (s.length : Int) ≤ 300 := by omega
      go_enter Tryz.func37, Tryz.ntmps37
      have hsx : ((W.alloc (.cells #[.int .u64 ((n : Nat) : Int)] 34)).alloc (.cells #[.string (str s)] 9)).cell? ⟨W.heap.size + 1, 0, none⟩ = some (.string (str s)) := by rw [HWC.out]; exact HZ2.out.2.2.2.cell 0 _ rfl
      have hix : ((W.alloc (.cells #[.int .u64 ((n : Nat) : Int)] 34)).alloc (.cells #[.string (str s)] 9)).cell? ⟨W.heap.size, 0, none⟩ = some (.int .u64 (n : Int)) := by rw [HWC.out]; exact HZ2.out.2.2.1.cell 0 _ rfl
      rw [← HWC.out] at HF
      go_wp2_with fail
      refine HF.out.mono ?_
      rintro e w3 ⟨rfl, p3, k3⟩
      rw [HWC.out] at k3
      obtain ⟨hz2, k2, x1, x2⟩ := HZ2.out
      have y1 := x1.of_block (k3.block _ (.inr (.inl rfl)))
      have y2 := x2.of_block (k3.block _ (.inr (.inr rfl)))
      have bH3 := hz2.box.of_block (k3.block _ hz2.mem)
      have e2 : w3.cell? ⟨W.heap.size + 1, 0, none⟩ = some (.string (str s)) := y2.cell 0 _ rfl
      have e1 : w3.cell? ⟨W.heap.size, 0, none⟩ = some (.int .u64 (n : Int)) := y1.cell 0 _ rfl
      obtain ⟨hp6, ⟨hi1, hi2⟩, hE0, ht0⟩ := HN.out
      have hrc : rcd (L t.pg) t.i ≠ [] := by rw [(hz2.hi.each t (List.mem_cons_self ..)).2.1]; exact recOf_ne t
      have hrp := (hz2.hi.each t (List.mem_cons_self ..)).1
      have hrr := (hz2.hi.recs t.pg hrp).1
      have hpgA : A.Has t.pg := (hz2.hi.rp_has hrp).1
      have a5 : Below w3.heap.size w3 (w3.alloc (.cells #[.bool false] 4)) := (Below.refl _ _).alloc (Nat.le_refl _) _
      have hs5 : (w3.alloc (.cells #[.bool false] 4)).heap.size = w3.heap.size + 1 := by simp
      have x5 := Box.new w3 #[.bool false] 4
      have hsz3 : W.heap.size + 2 ≤ w3.heap.size := by have := y2.lt; omega
      generalize hwv : w3.alloc (.cells #[.bool false] 4) = wv at a5 hs5 x5
      have p6 := (p3.wide a5 (T := fun j => (E j ∨ j = W.heap.size ∨ j = W.heap.size + 1) ∨ j = w3.heap.size) (fun j hj => by
        rcases hj with hj | hj
        · exact .inl hj
        · exact .inr (by omega))).next (Below.refl _ _).drew
      have k6 : Kept (fun j => E j ∨ j = W.heap.size ∨ j = W.heap.size + 1) w3 wv.drew := p3.kept a5.drew
      have f0 : wv.drew.cell? ⟨H, 0, none⟩ = some (.pointer (some ⟨P, 0, none⟩)) := (bH3.below a5 bH3.lt).cell 0 _ rfl
      have f1 : wv.drew.cell? ⟨W.heap.size, 0, none⟩ = some (.int .u64 (n : Int)) := (y1.below a5 y1.lt).cell 0 _ rfl
      have HW := Lib.hid (with_any (N := 86) (caps := #[.pointer (some ⟨W.heap.size, 0, none⟩), .pointer (some ⟨W.heap.size + 1, 0, none⟩), .pointer (some ⟨w3.heap.size, 0, none⟩)]) (F := fun j => E j ∨ j = W.heap.size ∨ j = W.heap.size + 1)
        (R := fun A' k' r w' => r = 0 ∧ k' = k + 2 + 2 + 1 ∧ Box w' w3.heap.size #[.bool (fitsB (L t.pg) t.i (0 :: s))] ∧ ((fitsB (L t.pg) t.i (0 :: s) = true ∧ ∃ z, Recs z ((L t.pg).set t.i (0 :: s)) ∧ A' = A.wrote t.pg z) ∨ (fitsB (L t.pg) t.i (0 :: s) = false ∧ A' = A.keep t.pg)))
        (enters Tryz.func86 (by kernel_rfl) (by kernel_rfl)) p6 (by omega) hpgA (fun j hj => .inl hj) (fun fb db cap w hpf hkk => by
          have z1 := ((y1.below a5 y1.lt).drew).of_block (hkk.block _ (.inl (.inr (.inl rfl))))
          have z2 := ((y2.below a5 y2.lt).drew).of_block (hkk.block _ (.inl (.inr (.inr rfl))))
          have z3 := x5.drew.of_block (hkk.block _ (.inr rfl))
          rw [HID.out] at z1
          refine (set1_any hss hpf (by omega) hrr hp6 (by omega) hi1 hrc z1 z2 z3 (.inl (.inr (.inl rfl))) (.inl (.inr (.inr rfl))) (.inr rfl) (by omega) (by omega) (by omega)).mono ?_
          rintro e w' ⟨he, hsp, q2, q3⟩
          have q3' := q3.mono (T := fun j => E j ∨ j = W.heap.size ∨ j = W.heap.size + 1) (fun j hj => ⟨.inl hj, by have := p3.there j hj; omega⟩)
          rcases hsp with ⟨a, z, b1, b2, b3⟩ | ⟨a, b3⟩
          · exact ⟨0, _, _, true, he, b3, q3', rfl, rfl, q2, .inl ⟨a, z, b1, rfl⟩⟩
          · exact ⟨0, _, _, true, he, b3, q3', rfl, rfl, q2, .inr ⟨a, rfl⟩⟩))
      have HWV := Lib.hid hwv
      have K6 := Lib.hid (k3.trans k6)
      clear HF p3 k3 hz2 k2 x1 x2 y1 y2 bH3 hrc hrp hrr hpgA a5 hs5 x5 hsz3 hwv p6 k6 hsx hix hE0
      go_wp2_with fail
      rw [HWV.out]
      have hdv := HDV.out
      go_still_tail 8, (by kernel_rfl)
      change wpList _ _ _ _ _ wv.drew
      go_wp2_with fail
      refine HW.out.mono ?_
      rintro e w4 ⟨r, A', k', w1', rfl, ⟨rfl, rfl, b5, hways⟩, p7, k7, k8⟩
      have d5 : w4.cell? ⟨w3.heap.size, 0, none⟩ = some (.bool (fitsB (L t.pg) t.i (0 :: s))) := (b5.of_block (k7.block _ (.inr rfl))).cell 0 _ rfl
      have k9 := K6.out.trans k8
      have e3 : w4.cell? ⟨W.heap.size, 0, none⟩ = some (.int .u64 (n : Int)) := (HZ2.out.2.2.1.of_block (k9.block _ (.inr (.inl rfl)))).cell 0 _ rfl
      have hgp : A.Has t.pg := (HZ2.out.1.hi.rp_has (HZ2.out.1.hi.each t (List.mem_cons_self ..)).1).1
      rcases hways with ⟨hfb, z, hz, rfl⟩ | ⟨hfb, rfl⟩
      · rw [hfb] at d5
        have H7 := Lib.hid (And.intro hz (And.intro ((p7.less (T := E) (fun j hj => .inl (.inl hj))).up (show k + 2 + 2 + 1 ≤ k + (t.s.length + s.length + 100) by omega)) (And.intro (HZ2.out.2.1.trans (k9.mono (fun j hj => .inl hj))) hgp)))
        clear HW p7 k7 k8 b5 k9 hz hgp hfb
        go_wp2
        go_ret2
        obtain ⟨hz, p7, k9, hgp⟩ := H7.out
        have hrch := (AP.Reach.refl A).wrote hgp z
        exact .inl ⟨⟨t.pg, t.i, s, []⟩, _, pg, rp, _, by rw [show idOf ⟨t.pg, t.i, s, []⟩ = n from HNN.out] <;> rfl, rfl, ⟨p7, hrch.good HH.out.good, HH.out.box.of_block (k9.block H HH.out.mem), HH.out.mem, set_swap HH.out.hi HS.out hss hz, HH.out.few⟩, hrch, k9⟩
      · rw [hfb] at d5
        have HM := Lib.hid (show HZ (fun j => E j ∨ j = W.heap.size ∨ j = W.heap.size + 1) w4 P D H (k + 10) (A.keep t.pg) root pg rp L (t :: X) ∧ A.Reach (A.keep t.pg) ∧ Kept (fun j => E j ∨ j = W.heap.size ∨ j = W.heap.size + 1) wc w4 from ⟨⟨(p7.less (fun j hj => .inl hj)).up (by omega), HZ2.out.1.good.keep _, HZ2.out.1.box.of_block (k9.block _ HZ2.out.1.mem), HZ2.out.1.mem, HZ2.out.1.hi.same (fun p => AP.keep_has) (fun p _ => rfl), HZ2.out.1.few⟩, (AP.Reach.refl A).keep hgp, k9⟩)
        clear HW p7 k7 k8 b5 k9 hgp hfb e1 e2 e3
        obtain ⟨hz4, rb, kb⟩ := HM.out
        have e1 : w4.cell? ⟨W.heap.size, 0, none⟩ = some (.int .u64 (n : Int)) := (HZ2.out.2.2.1.of_block (kb.block _ (.inr (.inl rfl)))).cell 0 _ rfl
        have e2 : w4.cell? ⟨W.heap.size + 1, 0, none⟩ = some (.string (str s)) := (HZ2.out.2.2.2.of_block (kb.block _ (.inr (.inr rfl)))).cell 0 _ rfl
        have hdd := hdrop_any hz4 (by omega)
        rw [HNN.out] at hdd
        have HD := Lib.hid hdd
        clear hz4 rb kb hdd
        go_wp2_with fail
        refine HD.out.mono ?_
        rintro e w5 ⟨B5, rp5, L5, rfl, hz5, r5, k5⟩
        have kb5 := HM.out.2.2.trans k5
        have e3 : w5.cell? ⟨W.heap.size + 1, 0, none⟩ = some (.string (str s)) := (HZ2.out.2.2.2.of_block (kb5.block _ (.inr (.inr rfl)))).cell 0 _ rfl
        have HP := Lib.hid (hput_any (s := s) hz5 (by omega) hs4 (by
          have := HH.out.few
          rw [List.length_cons] at this
          omega))
        have H5 := Lib.hid (And.intro hz5.hi (And.intro (HM.out.2.1.trans r5) kb5))
        clear HD hz5 r5 k5 kb5
        go_wp2_with fail
        refine HP.out.mono ?_
        rintro e w6 (⟨u, B6, pg6, rp6, L6, rfl, hu, hz6, r6, k6⟩ | ⟨B6, rfl, r6, q6, p6, k6⟩)
        · have H6 := Lib.hid (And.intro hu (And.intro hz6 (And.intro r6 k6)))
          clear HP hu hz6 r6 k6
          go_wp2
          go_ret2
          obtain ⟨hu, hz6, r6, k6⟩ := H6.out
          exact .inl ⟨u, B6, pg6, rp6, L6, rfl, hu, (hz6.less (fun j hj => .inl hj) HH.out.mem).up (by omega), H5.out.2.1.trans r6, (HZ2.out.2.1.trans ((H5.out.2.2.trans k6).mono (fun j hj => .inl hj)))⟩
        · have H6 := Lib.hid (And.intro q6 (And.intro p6 (And.intro r6 k6)))
          clear HP q6 p6 r6 k6
          go_wp2
          go_ret2
          obtain ⟨q6, p6, r6, k6⟩ := H6.out
          exact .inr ⟨B5, B6, _, rp5, L5, rfl, H5.out.1, H5.out.2.1, H5.out.2.1.trans r6, q6, (p6.less (fun j hj => .inl hj)).up (by omega), (HZ2.out.2.1.trans ((H5.out.2.2.trans k6).mono (fun j hj => .inl hj)))⟩
    · have hsi : ¬ (s.length : Int) ≤ 300 := by omega
      go_enter Tryz.func37, Tryz.ntmps37
      have hsx : ((W.alloc (.cells #[.int .u64 ((n : Nat) : Int)] 34)).alloc (.cells #[.string (str s)] 9)).cell? ⟨W.heap.size + 1, 0, none⟩ = some (.string (str s)) := by rw [HWC.out]; exact HZ2.out.2.2.2.cell 0 _ rfl
      have hix : ((W.alloc (.cells #[.int .u64 ((n : Nat) : Int)] 34)).alloc (.cells #[.string (str s)] 9)).cell? ⟨W.heap.size, 0, none⟩ = some (.int .u64 (n : Int)) := by rw [HWC.out]; exact HZ2.out.2.2.1.cell 0 _ rfl
      rw [← HWC.out] at HF
      go_wp2_with fail
      refine HF.out.mono ?_
      rintro e w4 ⟨rfl, p3, k3⟩
      rw [HWC.out] at k3
      have HM := Lib.hid (show HZ (fun j => E j ∨ j = W.heap.size ∨ j = W.heap.size + 1) w4 P D H (k + 10) A root pg rp L (t :: X) ∧ A.Reach A ∧ Kept (fun j => E j ∨ j = W.heap.size ∨ j = W.heap.size + 1) wc w4 from ⟨⟨p3.up (by omega), HZ2.out.1.good, HZ2.out.1.box.of_block (k3.block _ HZ2.out.1.mem), HZ2.out.1.mem, HZ2.out.1.hi, HZ2.out.1.few⟩, AP.Reach.refl A, k3⟩)
      clear HF p3 k3 hsx hix
      obtain ⟨hz4, rb, kb⟩ := HM.out
      have e1 : w4.cell? ⟨W.heap.size, 0, none⟩ = some (.int .u64 (n : Int)) := (HZ2.out.2.2.1.of_block (kb.block _ (.inr (.inl rfl)))).cell 0 _ rfl
      have e2 : w4.cell? ⟨W.heap.size + 1, 0, none⟩ = some (.string (str s)) := (HZ2.out.2.2.2.of_block (kb.block _ (.inr (.inr rfl)))).cell 0 _ rfl
      have hdd := hdrop_any hz4 (by omega)
      rw [HNN.out] at hdd
      have HD := Lib.hid hdd
      clear hz4 rb kb hdd
      go_wp2_with fail
      refine HD.out.mono ?_
      rintro e w5 ⟨B5, rp5, L5, rfl, hz5, r5, k5⟩
      have kb5 := HM.out.2.2.trans k5
      have e3 : w5.cell? ⟨W.heap.size + 1, 0, none⟩ = some (.string (str s)) := (HZ2.out.2.2.2.of_block (kb5.block _ (.inr (.inr rfl)))).cell 0 _ rfl
      have HP := Lib.hid (hput_any (s := s) hz5 (by omega) hs4 (by
        have := HH.out.few
        rw [List.length_cons] at this
        omega))
      have H5 := Lib.hid (And.intro hz5.hi (And.intro (HM.out.2.1.trans r5) kb5))
      clear HD hz5 r5 k5 kb5
      go_wp2_with fail
      refine HP.out.mono ?_
      rintro e w6 (⟨u, B6, pg6, rp6, L6, rfl, hu, hz6, r6, k6⟩ | ⟨B6, rfl, r6, q6, p6, k6⟩)
      · have H6 := Lib.hid (And.intro hu (And.intro hz6 (And.intro r6 k6)))
        clear HP hu hz6 r6 k6
        go_wp2
        go_ret2
        obtain ⟨hu, hz6, r6, k6⟩ := H6.out
        exact .inl ⟨u, B6, pg6, rp6, L6, rfl, hu, (hz6.less (fun j hj => .inl hj) HH.out.mem).up (by omega), H5.out.2.1.trans r6, (HZ2.out.2.1.trans ((H5.out.2.2.trans k6).mono (fun j hj => .inl hj)))⟩
      · have H6 := Lib.hid (And.intro q6 (And.intro p6 (And.intro r6 k6)))
        clear HP q6 p6 r6 k6
        go_wp2
        go_ret2
        obtain ⟨q6, p6, r6, k6⟩ := H6.out
        exact .inr ⟨B5, B6, _, rp5, L5, rfl, H5.out.1, H5.out.2.1, H5.out.2.1.trans r6, q6, (p6.less (fun j hj => .inl hj)).up (by omega), (HZ2.out.2.1.trans ((H5.out.2.2.trans k6).mono (fun j hj => .inl hj)))⟩
  · have hrec := rec_long t.s t.ch (by omega)
    have hn0 : nth (recS t.s t.ch) 0 = 1 := by rw [hrec]; rfl
    have hn0' : ((nth (recS t.s t.ch) 0).toNat : Int) = 1 := by rw [hn0]; rfl
    have hl0 : (0 : Int) < (recS t.s t.ch).length := by rw [hrec]; show (0 : Int) < ((9 : Nat) : Int); decide
    clear hrec hs
    generalize recS t.s t.ch = rec at HF hn0 hn0' hl0
    go_enter Tryz.func37, Tryz.ntmps37
    have hsx : ((W.alloc (.cells #[.int .u64 ((n : Nat) : Int)] 34)).alloc (.cells #[.string (str s)] 9)).cell? ⟨W.heap.size + 1, 0, none⟩ = some (.string (str s)) := by rw [HWC.out]; exact HZ2.out.2.2.2.cell 0 _ rfl
    have hix : ((W.alloc (.cells #[.int .u64 ((n : Nat) : Int)] 34)).alloc (.cells #[.string (str s)] 9)).cell? ⟨W.heap.size, 0, none⟩ = some (.int .u64 (n : Int)) := by rw [HWC.out]; exact HZ2.out.2.2.1.cell 0 _ rfl
    rw [← HWC.out] at HF
    go_wp2_with fail
    refine HF.out.mono ?_
    rintro e w4 ⟨rfl, p3, k3⟩
    rw [HWC.out] at k3
    have HM := Lib.hid (show HZ (fun j => E j ∨ j = W.heap.size ∨ j = W.heap.size + 1) w4 P D H (k + 10) A root pg rp L (t :: X) ∧ A.Reach A ∧ Kept (fun j => E j ∨ j = W.heap.size ∨ j = W.heap.size + 1) wc w4 from ⟨⟨p3.up (by omega), HZ2.out.1.good, HZ2.out.1.box.of_block (k3.block _ HZ2.out.1.mem), HZ2.out.1.mem, HZ2.out.1.hi, HZ2.out.1.few⟩, AP.Reach.refl A, k3⟩)
    clear HF p3 k3 hsx hix
    obtain ⟨hz4, rb, kb⟩ := HM.out
    have e1 : w4.cell? ⟨W.heap.size, 0, none⟩ = some (.int .u64 (n : Int)) := (HZ2.out.2.2.1.of_block (kb.block _ (.inr (.inl rfl)))).cell 0 _ rfl
    have e2 : w4.cell? ⟨W.heap.size + 1, 0, none⟩ = some (.string (str s)) := (HZ2.out.2.2.2.of_block (kb.block _ (.inr (.inr rfl)))).cell 0 _ rfl
    have hdd := hdrop_any hz4 (by omega)
    rw [HNN.out] at hdd
    have HD := Lib.hid hdd
    clear hz4 rb kb hdd
    go_wp2_with fail
    refine HD.out.mono ?_
    rintro e w5 ⟨B5, rp5, L5, rfl, hz5, r5, k5⟩
    have kb5 := HM.out.2.2.trans k5
    have e3 : w5.cell? ⟨W.heap.size + 1, 0, none⟩ = some (.string (str s)) := (HZ2.out.2.2.2.of_block (kb5.block _ (.inr (.inr rfl)))).cell 0 _ rfl
    have HP := Lib.hid (hput_any (s := s) hz5 (by omega) hs4 (by
      have := HH.out.few
      rw [List.length_cons] at this
      omega))
    have H5 := Lib.hid (And.intro hz5.hi (And.intro (HM.out.2.1.trans r5) kb5))
    clear HD hz5 r5 k5 kb5
    go_wp2_with fail
    refine HP.out.mono ?_
    rintro e w6 (⟨u, B6, pg6, rp6, L6, rfl, hu, hz6, r6, k6⟩ | ⟨B6, rfl, r6, q6, p6, k6⟩)
    · have H6 := Lib.hid (And.intro hu (And.intro hz6 (And.intro r6 k6)))
      clear HP hu hz6 r6 k6
      go_wp2
      go_ret2
      obtain ⟨hu, hz6, r6, k6⟩ := H6.out
      exact .inl ⟨u, B6, pg6, rp6, L6, rfl, hu, (hz6.less (fun j hj => .inl hj) HH.out.mem).up (by omega), H5.out.2.1.trans r6, (HZ2.out.2.1.trans ((H5.out.2.2.trans k6).mono (fun j hj => .inl hj)))⟩
    · have H6 := Lib.hid (And.intro q6 (And.intro p6 (And.intro r6 k6)))
      clear HP q6 p6 r6 k6
      go_wp2
      go_ret2
      obtain ⟨q6, p6, r6, k6⟩ := H6.out
      exact .inr ⟨B5, B6, _, rp5, L5, rfl, H5.out.1, H5.out.2.1, H5.out.2.1.trans r6, q6, (p6.less (fun j hj => .inl hj)).up (by omega), (HZ2.out.2.1.trans ((H5.out.2.2.trans k6).mono (fun j hj => .inl hj)))⟩
end
end Go.Proofs.YtjfkdfffolkblaaGreatDoor
