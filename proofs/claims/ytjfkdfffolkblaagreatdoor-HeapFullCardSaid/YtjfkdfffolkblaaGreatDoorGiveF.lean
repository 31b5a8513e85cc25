/-
  tabularlaw07.Does: a text goes; Shows; heap.At, heap.Root.
-/
import Derived.Test.YtjfkdfffolkblaaGreatDoorGiveD
import Derived.Test.YtjfkdfffolkblaaGreatDoorPoolF
namespace Go.Proofs.YtjfkdfffolkblaaGreatDoor
open Go.RowKit
open UK (str BytesAt nth Only Row Box w32)
open SR (Recs rcd total)
open SL (hole add trim room live)
open Go.BigFrame
section
variable {E E0 : Nat → Prop} {W W' : World} {P D k pg root H c : Nat} {A : AP} {rp : List Nat} {L : Nat → List (List UInt8)} {X : List HT} {ao : Option Addr}
/-- the end of Does, where a text has gone -/
theorem done_drop {w5 w8 w9 w10 : World} {A5 : AP} {pg5 c2 m rb : Nat} {ao2 : Option Addr} {rp5 : List Nat} {L5 : Nat → List (List UInt8)} {Y : List HT} (z5 : HZ (fun j => E j ∨ j = rb ∨ j = rb + 1 ∨ j = rb + 2) w5 P D H m A5 root pg5 rp5 L5 Y) (h0 : ∀ j, E0 j → E j) (hH : E0 H) (hlt : ∀ j, E j → j < rb)
    (r5 : A.Reach A5) (k5 : Kept E W w5) (b58 : Below w5.heap.size w5 w8) (o9 : Only rb w8 w9) (o10 : Only (rb + 2) w9 w10) (t8 : TX w8 ao2 c2 Y) (hg2 : ∀ b, slB ao2 b → w5.heap.size ≤ b) (hsz : rb + 2 < w5.heap.size) (htab : 0 < rb) (hm : m ≤ k + 10000) (hs : ∀ t, t ∈ Y → t.s.length ≤ 3000) (hn : Y.length ≤ X.length) :
    DoneR E0 W w10 P D H k A root X ao (.returned (.tuple #[.agg (rcells P H ao2 Y.length c2), .bool true])) := by
  have hb : ∀ j, j < w5.heap.size → ¬ (j = rb ∨ j = rb + 2) → w10.heap[j]? = w5.heap[j]? := fun j hj hn => by
    have h8 := b58.size
    have h9 := o9.size
    exact ((o10.block j (by omega) (fun e => hn (.inr e))).trans (o9.block j (by omega) (fun e => hn (.inl e)))).trans (b58.block j hj)
  have hsize : w5.heap.size ≤ w10.heap.size := Nat.le_trans b58.size (Nat.le_trans o9.size o10.size)
  have hHl := hlt H (h0 H hH)
  refine ⟨ao2, c2, A5, pg5, rp5, L5, Y, rfl, ⟨?_, z5.good, z5.box.of_block (hb H z5.box.lt (fun e => by omega)), .inl hH, z5.hi, z5.few⟩, ?_, r5, by omega, hs, ?_⟩
  · refine (z5.pz.over (R := fun j => j = rb ∨ j = rb + 2) (fun j hj => ?_) (fun hj => by omega) hsize hb (fun j hj => ?_)).up hm
    · rcases hj with hj | hj
      · exact .inr (.inl hj)
      · exact .inr (.inr (.inr hj))
    · rcases hj with hj | hj
      · exact .inl (.inl (h0 j hj))
      · exact .inr ⟨hg2 j hj, Nat.lt_of_lt_of_le (t8.lt hj) (Nat.le_trans o9.size o10.size)⟩
  · refine t8.of_block (Nat.le_trans o9.size o10.size) (fun b hb2 => ?_)
    have h1 := t8.lt hb2
    have h2 := hg2 b hb2
    exact (o10.block b (by have := o9.size; omega) (by omega)).trans (o9.block b h1 (by omega))
  · refine ⟨(k5.mono h0).trans ⟨o10.os.trans (o9.os.trans b58.os), o10.tape.trans (o9.tape.trans b58.tape), o10.output.trans (o9.output.trans b58.output), hsize, fun j hj => ?_⟩, fun b hb => ?_⟩
    · have := hlt j (h0 j hj)
      exact hb j (by omega) (fun e => by omega)
    · exact .inr (by have := k5.size; have := hg2 b hb; omega)
set_option maxHeartbeats 4000000 in
set_option maxRecDepth 100000 in
theorem does_drop (h : HZ E W P D H k A root pg rp L X) (ht : TX W ao c X) (hE : ∀ b, slB ao b → E b) (h0 : ∀ j, E0 j → E j) (hH : E0 H) (hX : X.length ≤ 25) (hs : ∀ t, t ∈ X → t.s.length ≤ 3000) (hk : k + 10000 < 900000000) (ii nn : Int) (ss : List UInt8) :
    Calls Tryz.prog 9 #[.agg (rcells P H ao X.length c), .agg (acells 3 ii nn ss)] W fun e w' => DoneR E0 W w' P D H k A root X ao e := by
  have hlt := h.pz.there
  have htab := h.pz.tab.lt
  have a1 : Below W.heap.size W (W.alloc (.cells (rcells P H ao X.length c) 29)) := (Below.refl _ _).alloc (Nat.le_refl _) _
  have z1 : (W.alloc (.cells (rcells P H ao X.length c) 29)).heap.size = W.heap.size + 1 := by simp
  have x1 := Box.new W (rcells P H ao X.length c) 29
  generalize hwa : W.alloc (.cells (rcells P H ao X.length c) 29) = wa at a1 z1 x1
  have a2 := a1.alloc (by omega) (.cells (acells 3 ii nn ss) 31)
  have z2 : (wa.alloc (.cells (acells 3 ii nn ss) 31)).heap.size = W.heap.size + 2 := by simp [z1]
  have x2 := Box.new wa (acells 3 ii nn ss) 31
  rw [z1] at x2
  have x1' := x1.alloc (.cells (acells 3 ii nn ss) 31)
  generalize hwb : wa.alloc (.cells (acells 3 ii nn ss) 31) = wb at a2 z2 x2 x1'
  have a3 := a2.alloc (by omega) (.cells #[.pointer none, .pointer none, .slice none 0 0, .slice none 0 0, .bool false] 29)
  have z3 : (wb.alloc (.cells #[.pointer none, .pointer none, .slice none 0 0, .slice none 0 0, .bool false] 29)).heap.size = W.heap.size + 3 := by simp [z2]
  have x3 := Box.new wb #[.pointer none, .pointer none, .slice none 0 0, .slice none 0 0, .bool false] 29
  rw [z2] at x3
  have x1'' := x1'.alloc (.cells #[.pointer none, .pointer none, .slice none 0 0, .slice none 0 0, .bool false] 29)
  have x2' := x2.alloc (.cells #[.pointer none, .pointer none, .slice none 0 0, .slice none 0 0, .bool false] 29)
  generalize hwc : wb.alloc (.cells #[.pointer none, .pointer none, .slice none 0 0, .slice none 0 0, .bool false] 29) = wc at a3 z3 x3 x1'' x2'
  have HWC : Hid (((W.alloc (.cells (rcells P H ao X.length c) 29)).alloc (.cells (acells 3 ii nn ss) 31)).alloc (.cells #[.pointer none, .pointer none, .slice none 0 0, .slice none 0 0, .bool false] 29) = wc) := by
    show _ = _
    rw [hwa, hwb, hwc]
  have hz : HZ (fun j => E j ∨ j = W.heap.size ∨ j = W.heap.size + 1 ∨ j = W.heap.size + 2) wc P D H k A root pg rp L X := ⟨h.pz.wide a3 (fun j hj => by
    rcases hj with hj | hj | hj | hj
    · exact .inl hj
    · exact .inr (by omega)
    · exact .inr (by omega)
    · exact .inr (by omega)), h.good, h.box.below a3 h.box.lt, .inl h.mem, h.hi, h.few⟩
  have k3 : Kept E W wc := h.pz.kept a3
  have HLG := Lib.hid (fun w => hlong_any ss nn w)
  have HLL := Lib.hid (longL_len ss nn)
  generalize longL ss nn = l at HLG HLL
  have HAT := Lib.hid (fun w => hat_any (W := w) ii X.length (by omega))
  have HQ := Lib.hid (And.intro hz (And.intro k3 (And.intro x1'' (And.intro x2' (And.intro x3 (ht.next a3))))))
  have HH := Lib.hid h
  clear h ht x1 x1' x1'' x2 x2' x3 a1 a2 a3 z1 z2 z3 hwa hwb hwc hz k3
  go_enter Tryz.func9, Tryz.ntmps9
  go_wp2_with fail
  rw [HWC.out]
  obtain ⟨hz, k3, x1, x2, x3, ht⟩ := HQ.out
  have r0 : wc.cell? ⟨W.heap.size, 0, none⟩ = some (.pointer (some ⟨P, 0, none⟩)) := x1.cell 0 _ rfl
  have r1 : wc.cell? ⟨W.heap.size, 1, none⟩ = some (.pointer (some ⟨H, 0, none⟩)) := x1.cell 1 _ rfl
  have r2 : wc.cell? ⟨W.heap.size, 2, none⟩ = some (.slice ao X.length c) := x1.cell 2 _ rfl
  have r3 : wc.cell? ⟨W.heap.size, 3, none⟩ = some (.slice none 0 0) := x1.cell 3 _ rfl
  have r4 : wc.cell? ⟨W.heap.size, 4, none⟩ = some (.bool false) := x1.cell 4 _ rfl
  have q0 : wc.cell? ⟨W.heap.size + 1, 0, none⟩ = some (.int .i64 3) := x2.cell 0 _ rfl
  have q1 : wc.cell? ⟨W.heap.size + 1, 1, none⟩ = some (.int .i64 ii) := x2.cell 1 _ rfl
  have m0 : wc.cell? ⟨W.heap.size + 2, 0, none⟩ = some (.pointer none) := x3.cell 0 _ rfl
  have m1 : wc.cell? ⟨W.heap.size + 2, 1, none⟩ = some (.pointer none) := x3.cell 1 _ rfl
  have m2 : wc.cell? ⟨W.heap.size + 2, 2, none⟩ = some (.slice none 0 0) := x3.cell 2 _ rfl
  have m3 : wc.cell? ⟨W.heap.size + 2, 3, none⟩ = some (.slice none 0 0) := x3.cell 3 _ rfl
  have m4 : wc.cell? ⟨W.heap.size + 2, 4, none⟩ = some (.bool false) := x3.cell 4 _ rfl
  have mf : ∀ j, wc.frozen? ⟨W.heap.size + 2, j, none⟩ = false := x3.free
  clear hz k3 x1 x2 x3 ht
  refine (HLG.out wc).mono ?_
  rintro e w1 ⟨rfl, hw⟩
  cases hw
  go_wp2_with fail
  refine (HAT.out _).mono ?_
  rintro e w1 ⟨v, rfl, hw, hva, hvb⟩
  cases hw
  by_cases hX0 : X.length = 0
  · obtain rfl := hva hX0
    clear hvb HAT HLG hX0
    go_wp2_with fail
    obtain ⟨hz, k3, x1, x2, x3, ht⟩ := HQ.out
    refine bodyPost_ret (UK.box_ret2 rfl _ (x3.fill5 _ _ _ _ _) rfl run_under rfl run_size) rfl ?_
    exact done_none hz ht hE h0 hH hlt k3 (Only.fill5 _ _ _ _ _ _ _) x3.lt htab hs
  obtain ⟨j, rfl, hj⟩ := hvb (by omega)
  obtain ⟨hz, k3, x1, x2, x3, ht⟩ := HQ.out
  obtain ⟨t, htj⟩ : ∃ t, X[j]? = some t := ⟨_, List.getElem?_eq_getElem hj⟩
  have htm : t ∈ X := List.mem_of_getElem? htj
  obtain ⟨g, rfl, c0, c1⟩ := ht.at_ htj
  have hperm := without_perm hz.apart htj
  have hlen : (without X (idOf t)).length + 1 = X.length := by have := hperm.length_eq; rw [List.length_cons] at this; omega
  have hmem : ∀ u, u ∈ without X (idOf t) → u ∈ X := fun u hu => (List.mem_filter.1 hu).1
  have hzd := (hz.perm hperm).step ((hz.perm hperm).pz.next (Below.refl _ wc).drew) ((hz.perm hperm).pz.kept (Below.refl _ wc).drew)
  have htl := hs t htm
  have HSE := Lib.hid (hdrop_any hzd (by omega))
  have hng : ¬ ((j : Nat) : Int) < 0 := by omega
  have hil : (j : Int) < (X.length : Int) := by omega
  have hle := ht.le
  have r1d : wc.drew.cell? ⟨W.heap.size, 1, none⟩ = some (.pointer (some ⟨H, 0, none⟩)) := r1
  have r2d : wc.drew.cell? ⟨W.heap.size, 2, none⟩ = some (.slice (some ⟨g, 0, none⟩) X.length c) := r2
  have HM := Lib.hid (And.intro htj (And.intro hperm (And.intro hlen (And.intro hmem htl))))
  clear HAT HLG hz k3 x1 x2 x3 ht htj htm hperm hlen hmem hzd hva hvb c1
  generalize hX1 : without X (idOf t) = X1 at HM HSE
  have c0d : wc.drew.cell? ⟨g, j * 2, none⟩ = some (.int .u64 ((idOf t : Nat) : Int)) := c0
  have HX1 := Lib.hid hX1
  clear hX1
  generalize htn : (idOf t : Nat) = tn at c0 c0d HSE HM HX1
  clear htn
  go_wp2_with fail
  go_still_tail 8, (by kernel_rfl)
  change wpList _ _ _ _ _ wc.drew
  go_wp2_with fail
  refine HSE.out.mono ?_
  rintro e w5 ⟨B, rp5, L5, rfl, z5, r5, k5⟩
  obtain ⟨htj, hperm, hlen, hmem, htl⟩ := HM.out
  obtain ⟨hz, k3, x1, x2, x3, ht⟩ := HQ.out
  have y1 := x1.drew.of_block (k5.block _ (.inr (.inl rfl)))
  have y3 := x3.drew.of_block (k5.block _ (.inr (.inr (.inr rfl))))
  have t5 : TX w5 (some ⟨g, 0, none⟩) c X := (ht.next (Below.refl _ wc).drew).of_block k5.size (fun b hb => k5.block b (.inl (hE b hb)))
  have k15 : Kept E W w5 := (k3.trans ((hz.pz.kept (Below.refl _ wc).drew).mono (fun j hj => .inl hj))).trans (k5.mono (fun j hj => .inl hj))
  have HWO := Lib.hid (by have hh := without_any (n := tn) (t5.next (Below.refl _ w5).drew) (by omega); rw [HX1.out] at hh; exact hh)
  have s1 : w5.cell? ⟨W.heap.size, 1, none⟩ = some (.pointer (some ⟨H, 0, none⟩)) := y1.cell 1 _ rfl
  have s2 : w5.cell? ⟨W.heap.size, 2, none⟩ = some (.slice (some ⟨g, 0, none⟩) X.length c) := y1.cell 2 _ rfl
  have s3 : w5.cell? ⟨g, j * 2, none⟩ = some (.int .u64 (tn : Int)) := kept_at k5 (.inl (hE g rfl)) c0d
  have H5 := Lib.hid (And.intro z5 (And.intro r5 (And.intro k15 (And.intro y1 y3))))
  have hX1l : X1.length ≤ 25 := by omega
  clear HSE hz k3 x1 x2 x3 ht y1 y3 t5 z5 r5 k15 k5 htj hperm hmem htl hlen r0 r1 r2 r3 r4 r1d r2d c0d c0 q0 q1 m0 m1 m2 m3 m4 mf
  go_wp2_with fail
  go_still_tail 8, (by kernel_rfl)
  change wpList _ _ _ _ _ w5.drew
  go_wp2_with fail
  refine HWO.out.mono ?_
  rintro e w6 ⟨ao6, c6, rfl, t6, hf6, b6⟩
  obtain ⟨z5, r5, k5, y1, y3⟩ := H5.out
  have b56 : Below w5.heap.size w5 w6 := (Below.refl _ w5).drew.trans (b6.mono (Nat.le_refl _))
  have hszW : W.heap.size + 2 < w5.heap.size := y3.lt
  have y16 := y1.next b56
  have y36 := y3.next b56
  have y17 := y16.set 2 (.slice ao6 X1.length c6)
  have y37 := y36.far (b := W.heap.size) (j := 2) (.slice ao6 X1.length c6) (by omega)
  have o7 : Only W.heap.size w6 (w6.setCell ⟨W.heap.size, 2, none⟩ (.slice ao6 X1.length c6)) := (Only.refl _ _).set 2 _
  have f6 : w6.frozen? ⟨W.heap.size, 2, none⟩ = false := y16.free 2
  have d6 : w6.cell? ⟨W.heap.size, 2, none⟩ = some (.slice (some ⟨g, 0, none⟩) X.length c) := y16.cell 2 _ rfl
  generalize hw7 : w6.setCell ⟨W.heap.size, 2, none⟩ (.slice ao6 X1.length c6) = w7 at y17 y37 o7
  have y17' : Box w7 W.heap.size (rcells P H ao6 X1.length c6) := y17
  have n0 : w7.cell? ⟨W.heap.size, 0, none⟩ = some (.pointer (some ⟨P, 0, none⟩)) := y17'.cell 0 _ rfl
  have n1 : w7.cell? ⟨W.heap.size, 1, none⟩ = some (.pointer (some ⟨H, 0, none⟩)) := y17'.cell 1 _ rfl
  have n2 : w7.cell? ⟨W.heap.size, 2, none⟩ = some (.slice ao6 X1.length c6) := y17'.cell 2 _ rfl
  have n3 : w7.cell? ⟨W.heap.size, 3, none⟩ = some (.slice none 0 0) := y17'.cell 3 _ rfl
  have n4 : w7.cell? ⟨W.heap.size, 4, none⟩ = some (.bool false) := y17'.cell 4 _ rfl
  have m0 : w7.cell? ⟨W.heap.size + 2, 0, none⟩ = some (.pointer none) := y37.cell 0 _ rfl
  have m1 : w7.cell? ⟨W.heap.size + 2, 1, none⟩ = some (.pointer none) := y37.cell 1 _ rfl
  have m2 : w7.cell? ⟨W.heap.size + 2, 2, none⟩ = some (.slice none 0 0) := y37.cell 2 _ rfl
  have m3 : w7.cell? ⟨W.heap.size + 2, 3, none⟩ = some (.slice none 0 0) := y37.cell 3 _ rfl
  have m4 : w7.cell? ⟨W.heap.size + 2, 4, none⟩ = some (.bool false) := y37.cell 4 _ rfl
  have mf : ∀ j, w7.frozen? ⟨W.heap.size + 2, j, none⟩ = false := y37.free
  have H7 := Lib.hid (And.intro y37 (And.intro b56 (And.intro o7 (And.intro t6 hf6))))
  clear HWO y1 y3 b56 y16 y36 y17 y17' y37 o7 z5 r5 k5 t6 hf6 b6
  subst hw7
  go_wp2_with fail
  obtain ⟨y37, b56, o7, t6, hf6⟩ := H7.out
  obtain ⟨z5, r5, k5, y1, y3⟩ := H5.out
  refine bodyPost_ret (UK.box_ret2 rfl _ (y37.fill5 _ _ _ _ _) rfl run_under rfl run_size) rfl ?_
  exact done_drop z5 h0 hH hlt r5 k5 b56 o7 (Only.fill5 _ _ _ _ _ _ _) t6 hf6 hszW htab (by have := HM.out.2.2.2.2; omega) (fun v hv => hs v (HM.out.2.2.2.1 v hv)) (by have := HM.out.2.2.1; omega)
set_option maxRecDepth 100000 in
theorem heapAt_any (P root : Nat) (W : World) :
    Calls Tryz.prog 23 #[.pointer (some ⟨P, 0, none⟩), .int .i64 root] W fun e w' => e = .returned (.pointer (some ⟨W.heap.size, 0, none⟩)) ∧ w' = W.alloc (.cells (hcells P root) 83) := by
  go_enter Tryz.func23, Tryz.ntmps23
  go_wp2
  go_ret
  exact ⟨rfl, rfl⟩
theorem heapRoot_any (h : Box W H (hcells P root)) :
    Calls Tryz.prog 24 #[.pointer (some ⟨H, 0, none⟩)] W fun e w' => e = .returned (.int .i64 root) ∧ w' = W := by
  have c1 : W.cell? ⟨H, 1, none⟩ = some (.int .i64 root) := h.cell 1 _ rfl
  go_enter Tryz.func24, Tryz.ntmps24
  go_wp2
  go_ret
  exact ⟨rfl, rfl⟩
set_option maxHeartbeats 4000000 in
set_option maxRecDepth 100000 in
theorem shows_any (h : HZ E W P D H k A root pg rp L X) (ht : TX W ao c X) (hE : ∀ b, slB ao b → E b) (hX : X.length ≤ 25) (hs : ∀ t, t ∈ X → t.s.length ≤ 3000) (hk : k + 100000 < 900000000) :
    Calls Tryz.prog 18 #[.agg (rcells P H ao X.length c)] W fun e w' => e = .returned (.int .i64 0) ∧ PZ E w' P D A (k + 100000) ∧ Kept E W w' := by
  have a1 : Below W.heap.size W (W.alloc (.cells (rcells P H ao X.length c) 29)) := (Below.refl _ _).alloc (Nat.le_refl _) _
  have z1 : (W.alloc (.cells (rcells P H ao X.length c) 29)).heap.size = W.heap.size + 1 := by simp
  have x1 := Box.new W (rcells P H ao X.length c) 29
  generalize hwa : W.alloc (.cells (rcells P H ao X.length c) 29) = wa at a1 z1 x1
  have HWC : Hid (W.alloc (.cells (rcells P H ao X.length c) 29) = wa) := hwa
  have hz : HZ (fun j => E j ∨ j = W.heap.size) wa P D H k A root pg rp L X := ⟨h.pz.wide a1 (fun j hj => by
    rcases hj with hj | hj
    · exact .inl hj
    · exact .inr (by omega)), h.good, h.box.below a1 h.box.lt, .inl h.mem, h.hi, h.few⟩
  have k1 : Kept E W wa := h.pz.kept a1
  have ht1 := ht.next a1
  have hc := hcount_any hz.pz (by omega) hz.box hz.hi.root_has
  rw [(hz.hi.words hz.good hz.few).2] at hc
  have HC := Lib.hid hc
  have r1 : wa.cell? ⟨W.heap.size, 1, none⟩ = some (.pointer (some ⟨H, 0, none⟩)) := x1.cell 1 _ rfl
  have HQ := Lib.hid (And.intro hz (And.intro k1 (And.intro x1 ht1)))
  have HS := Lib.hid hs
  have hle := ht.le
  clear h ht hc hz k1 x1 ht1 a1 z1 hwa hs
  go_enter Tryz.func18, Tryz.ntmps18
  go_wp2_with fail
  rw [HWC.out]
  refine HC.out.mono ?_
  rintro e w2 ⟨rfl, p2, k2⟩
  obtain ⟨hz, k1, x1, ht1⟩ := HQ.out
  have z2 := (hz.step p2 k2).up (show k + 2 ≤ k + 10 by omega)
  have x2 := x1.of_block (k2.block _ (.inr rfl))
  have t2 := ht1.of_block k2.size (fun b hb => k2.block b (.inl (hE b hb)))
  have HP := Lib.hid (pz_pinned p2)
  have r0 : w2.cell? ⟨W.heap.size, 0, none⟩ = some (.pointer (some ⟨P, 0, none⟩)) := x2.cell 0 _ rfl
  have r2 : w2.cell? ⟨W.heap.size, 2, none⟩ = some (.slice ao X.length c) := x2.cell 2 _ rfl
  have H2 := Lib.hid (And.intro z2 (And.intro (k1.trans (k2.mono (fun j hj => .inl hj))) (And.intro x2 t2)))
  clear hz k1 x1 ht1 p2 k2 z2 x2 t2 HC r1 HQ HWC
  go_wp2_with fail
  refine HP.out.mono ?_
  rintro e w3 ⟨rfl, hw3⟩
  subst hw3
  go_wp2_with fail
  go_loopw [33] (fun iv wz => ∃ i : Nat, iv = .int .i64 i ∧ i ≤ X.length ∧ HZ (fun j => E j ∨ j = W.heap.size) wz P D H (k + 10 + 3100 * i) A root pg rp L X ∧ Kept E W wz ∧ Box wz W.heap.size (rcells P H ao X.length c) ∧ TX wz ao c X) (fun iv _ => 100 - (intOf iv).toNat)
  case atStart => exact ⟨0, rfl, Nat.zero_le _, H2.out⟩
  case round =>
    clear H2 r0 r2 HP
    obtain ⟨i, rfl, hi, hz, kz, xz, tz⟩ := hrel
    by_cases hlt : i < X.length
    · obtain ⟨t, htj⟩ : ∃ t, X[i]? = some t := ⟨_, List.getElem?_eq_getElem hlt⟩
      have htm : t ∈ X := List.mem_of_getElem? htj
      obtain ⟨g, rfl, c0, c1⟩ := tz.at_ htj
      have hil : (i : Int) < (X.length : Int) := by omega
      have htl := HS.out t htm
      have hbr : W.heap.size < wr.heap.size := xz.lt
      have r1 : wr.cell? ⟨W.heap.size, 1, none⟩ = some (.pointer (some ⟨H, 0, none⟩)) := xz.cell 1 _ rfl
      have a1 : Below wr.heap.size wr (wr.alloc (.cells #[.int .u64 (idOf t : Nat), .string (str t.s)] 36)) := (Below.refl _ _).alloc (Nat.le_refl _) _
      have s1 : (wr.alloc (.cells #[.int .u64 (idOf t : Nat), .string (str t.s)] 36)).heap.size = wr.heap.size + 1 := by simp
      have b1 := Box.new wr #[.int .u64 (idOf t : Nat), .string (str t.s)] 36
      have kk1 := hz.pz.kept a1
      have hz1 : HZ (fun j => (E j ∨ j = W.heap.size) ∨ j = wr.heap.size) (wr.alloc (.cells #[.int .u64 (idOf t : Nat), .string (str t.s)] 36)) P D H (k + 10 + 3100 * i) A root pg rp L X := ⟨hz.pz.wide a1 (fun j hj => by
        rcases hj with hj | hj
        · exact .inl hj
        · exact .inr (by omega)), hz.good, hz.box.below a1 hz.box.lt, .inl hz.mem, hz.hi, hz.few⟩
      have HG := Lib.hid (get_any hz1 htm (by omega))
      have HK := Lib.hid (And.intro hz (And.intro hz1 (And.intro (kz.trans (kk1.mono (fun b hb => .inl hb))) (And.intro (xz.below a1 hbr) (And.intro (tz.next a1) b1)))))
      clear hz kz xz tz a1 s1 b1 kk1 hz1 htm htj
      go_wp2_with fail
      refine HG.out.mono ?_
      rintro e w5 ⟨rfl, p5, k5⟩
      obtain ⟨hz, hz1, kz, xz, tz, b1⟩ := HK.out
      have d1 : w5.cell? ⟨wr.heap.size, 1, none⟩ = some (.string (str t.s)) := (b1.of_block (k5.block _ (.inr rfl))).cell 1 _ rfl
      have HR : Hid (HZ (fun j => E j ∨ j = W.heap.size) w5 P D H (k + 10 + 3100 * (i + 1)) A root pg rp L X ∧ Kept E W w5 ∧ Box w5 W.heap.size (rcells P H (some ⟨g, 0, none⟩) X.length c) ∧ TX w5 (some ⟨g, 0, none⟩) c X) :=
        ⟨⟨(p5.less (fun j hj => .inl hj)).up (by omega), hz.good, hz1.box.of_block (k5.block _ (.inl hz.mem)), hz.mem, hz.hi, hz.few⟩, kz.trans (k5.mono (fun b hb => .inl (.inl hb))), xz.of_block (k5.block _ (.inl (.inr rfl))), tz.of_block k5.size (fun b hb => k5.block b (.inl (.inl (hE b hb))))⟩
      clear HG HK p5 k5 hz hz1 kz xz tz b1 c0 c1 r1
      go_wp2_with fail
      go_roundw
      case rel => exact ⟨i + 1, by go_num, by omega, HR.out⟩
      case measure => simp [intOf]; omega
    · have hge : ¬ (i : Int) < (X.length : Int) := by omega
      have HR := Lib.hid (And.intro ((hz.pz.less (T := E) (fun j hj => .inl hj)).up (show k + 10 + 3100 * i ≤ k + 100000 by omega)) kz)
      clear hz kz xz tz
      go_wp2
      go_ret
      exact ⟨rfl, HR.out⟩
end
end Go.Proofs.YtjfkdfffolkblaaGreatDoor
