/-
  tabularlaw07.Does: a text comes.
  tabularlaw07.Does: a text is set anew.
-/
import Derived.Test.YtjfkdfffolkblaaGreatDoorGiveA
namespace Go.Proofs.YtjfkdfffolkblaaGreatDoor
open Go.RowKit
open UK (str BytesAt nth Only Row Box w32)
open SR (Recs rcd total)
open SL (hole add trim room live)
open Go.BigFrame
abbrev rcells (P H : Nat) (ao : Option Addr) (n c : Nat) : Array Value := #[.pointer (some ⟨P, 0, none⟩), .pointer (some ⟨H, 0, none⟩), .slice ao n c, .slice none 0 0, .bool false]
abbrev acells (kd ii nn : Int) (ss : List UInt8) : Array Value := #[.int .i64 kd, .int .i64 ii, .int .i64 nn, .string (str ss)]
/-- a struct of five cells, stored cell by cell -/
abbrev UK.fill5 (w : World) (g : Nat) (a0 a1 a2 a3 a4 : Value) : World :=
  (((((w.setCell ⟨g, 0, none⟩ a0).setCell ⟨g, 1, none⟩ a1).setCell ⟨g, 2, none⟩ a2).setCell ⟨g, 3, none⟩ a3).setCell ⟨g, 4, none⟩ a4)
theorem UK.Box.fill5 {w : World} {g : Nat} {b0 b1 b2 b3 b4 : Value} (h : Box w g #[b0, b1, b2, b3, b4]) (a0 a1 a2 a3 a4 : Value) : Box (UK.fill5 w g a0 a1 a2 a3 a4) g #[a0, a1, a2, a3, a4] := by
  have h5 := ((((h.set 0 a0).set 1 a1).set 2 a2).set 3 a3).set 4 a4
  have e : (((((#[b0, b1, b2, b3, b4] : Array Value).set! 0 a0).set! 1 a1).set! 2 a2).set! 3 a3).set! 4 a4 = #[a0, a1, a2, a3, a4] := by simp
  rw [e] at h5
  exact h5
theorem UK.Only.fill5 (w : World) (g : Nat) (a0 a1 a2 a3 a4 : Value) : Only g w (UK.fill5 w g a0 a1 a2 a3 a4) :=
  (((((Only.refl g w).set 0 a0).set 1 a1).set 2 a2).set 3 a3).set 4 a4
theorem run_under : Tryz.prog.underlying 29 = some (.struct (match Tryz.prog.underlying 29 with | some (.struct f) => f | _ => #[])) := by kernel_rfl
theorem run_size : (Tryz.prog.info? 29).map (·.size) = some 5 := by kernel_rfl
section
variable {E E0 : Nat → Prop} {W W' : World} {P D k pg root H c : Nat} {A : AP} {rp : List Nat} {L : Nat → List (List UInt8)} {X : List HT} {ao : Option Addr}
set_option maxRecDepth 100000 in
/-- a list, copied behind nothing -/
theorem TX.copy (h : TX W ao c X) (hX : X.length ≤ 1000000) {g : Nat} (hr : Row W g 0 []) :
    ∃ g' c' W', (Builtin.append_ #[27, 27] 27 #[.slice (some ⟨g, 0, none⟩) 0 0, .slice ao X.length c]).run Tryz.prog W = .ok (.slice (some ⟨g', 0, none⟩) X.length c') W' ∧ TX W' (some ⟨g', 0, none⟩) c' X ∧ ((g' = g ∧ Only g' W W') ∨ (g' = W.heap.size ∧ Below W.heap.size W W')) := by
  have hone : ∀ u, u ∈ flatT X → u.oneCell' = true := fun u hu => by
    obtain ⟨t, _, ht⟩ := List.mem_flatMap.1 hu
    rcases List.mem_cons.1 ht with rfl | ht
    · rfl
    · rw [List.mem_singleton.1 ht]; rfl
  have hsrc : Src Tryz.prog 2 27 (.slice ao X.length c) X.length (flatT X) W := by
    rcases h with ⟨rfl, rfl, rfl⟩ | ⟨b, rfl, r⟩
    · exact Src.ofNil W Tryz.underlying27 0
    · refine Src.ofSlice W Tryz.underlying27 ⟨b, 0, none⟩ X.length c (flatT X) (by rw [flatT_length]; omega) (fun j u hj => ?_) hone
      rw [UK.add_mk0, Nat.zero_add]
      exact r.at' j u hj
  by_cases h0 : X.length = 0
  · obtain rfl := List.length_eq_zero_iff.1 h0
    have hr0 := run_append_room_src (P := Tryz.prog) W 27 27 27 _ (Tryz.t36) Tryz.underlying27 rfl g 0 0 0 (.slice ao 0 c) 0 [] hsrc (Nat.le_refl _) (fun j hj => absurd hj (Nat.not_lt_zero _)) (fun j hj => absurd hj (Nat.not_lt_zero _))
    exact ⟨g, 0, W, hr0, .inr ⟨g, rfl, hr⟩, .inl ⟨rfl, Only.refl _ _⟩⟩
  · obtain ⟨g', c', W', e1, r, o⟩ := UK.push_two (P := Tryz.prog) (t := 27) (tx := 27) (ty := 27) Tryz.underlying27 (i := Tryz.t36) rfl rfl rfl (show (24 : Nat) ≤ 24 by omega) rfl (n := 0) (vs := []) rfl (ao := some ⟨g, 0, none⟩) (c := 0) (.inr ⟨g, rfl, hr⟩) (m := flatT X) (k := X.length) (flatT_length X) (by omega) hsrc (by omega)
    rw [Nat.zero_add] at e1
    refine ⟨g', c', W', e1, .inr ⟨g', rfl, r⟩, ?_⟩
    rcases o with ⟨a, o⟩ | o
    · exact .inl ⟨by cases a; rfl, o⟩
    · exact .inr o
/-- what Does leaves where all goes well -/
def DoneR (E0 : Nat → Prop) (W W' : World) (P D H k : Nat) (A : AP) (root : Nat) (X : List HT) (ao : Option Addr) (e : Ending) : Prop :=
  ∃ ao' c' A' pg' rp' L' X', e = .returned (.tuple #[.agg (rcells P H ao' X'.length c'), .bool true]) ∧ HZ (fun j => E0 j ∨ slB ao' j) W' P D H (k + 10000) A' root pg' rp' L' X' ∧ TX W' ao' c' X' ∧ A.Reach A' ∧ X'.length ≤ X.length + 1 ∧ (∀ t, t ∈ X' → t.s.length ≤ 3000) ∧ Kept E0 W W' ∧ (∀ b, slB ao' b → slB ao b ∨ W.heap.size ≤ b)
/-- the end of Does, where a text has come -/
theorem done_put {w5 w8 w9 w10 : World} {A5 : AP} {pg5 g2 c2 m rb : Nat} {rp5 : List Nat} {L5 : Nat → List (List UInt8)} {t : HT} {Y : List HT} (z5 : HZ (fun j => E j ∨ j = rb ∨ j = rb + 1 ∨ j = rb + 2) w5 P D H m A5 root pg5 rp5 L5 (t :: Y)) (h0 : ∀ j, E0 j → E j) (hH : E0 H) (hlt : ∀ j, E j → j < rb)
    (r5 : A.Reach A5) (k5 : Kept E W w5) (b58 : Below w5.heap.size w5 w8) (o9 : Only rb w8 w9) (o10 : Only (rb + 2) w9 w10) (t8 : TX w8 (some ⟨g2, 0, none⟩) c2 (Y ++ [t])) (hg2 : w5.heap.size ≤ g2) (hg2l : g2 < w8.heap.size) (hsz : rb + 2 < w5.heap.size) (htab : 0 < rb) (hm : m ≤ k + 10000) (ht : t.s.length ≤ 3000) (hs : ∀ t, t ∈ Y → t.s.length ≤ 3000) (hn : Y.length ≤ X.length) :
    DoneR E0 W w10 P D H k A root X ao (.returned (.tuple #[.agg (rcells P H (some ⟨g2, 0, none⟩) (Y.length + 1) c2), .bool true])) := by
  have hb : ∀ j, j < w5.heap.size → ¬ (j = rb ∨ j = rb + 2) → w10.heap[j]? = w5.heap[j]? := fun j hj hn => by
    have h8 := b58.size
    have h9 := o9.size
    exact ((o10.block j (by omega) (fun e => hn (.inr e))).trans (o9.block j (by omega) (fun e => hn (.inl e)))).trans (b58.block j hj)
  have hsize : w5.heap.size ≤ w10.heap.size := Nat.le_trans b58.size (Nat.le_trans o9.size o10.size)
  have hg10 : g2 < w10.heap.size := Nat.lt_of_lt_of_le hg2l (Nat.le_trans o9.size o10.size)
  have hHl := hlt H (h0 H hH)
  refine ⟨some ⟨g2, 0, none⟩, c2, A5, pg5, rp5, L5, Y ++ [t], by rw [List.length_append]; rfl, ⟨?_, z5.good, z5.box.of_block (hb H z5.box.lt (fun e => by omega)), .inl hH, z5.hi.perm (List.perm_append_singleton t Y).symm, by rw [List.length_append]; exact z5.few⟩, ?_, r5, by rw [List.length_append, List.length_singleton]; omega, fun u hu => ?_, ?_⟩
  · refine (z5.pz.over (R := fun j => j = rb ∨ j = rb + 2) (fun j hj => ?_) (fun hj => by omega) hsize hb (fun j hj => ?_)).up hm
    · rcases hj with hj | hj
      · exact .inr (.inl hj)
      · exact .inr (.inr (.inr hj))
    · rcases hj with hj | hj
      · exact .inl (.inl (h0 j hj))
      · cases hj
        exact .inr ⟨hg2, hg10⟩
  · refine t8.of_block (Nat.le_trans o9.size o10.size) (fun b hb2 => ?_)
    cases hb2
    exact (o10.block g2 (by have := o9.size; omega) (by omega)).trans (o9.block g2 hg2l (by omega))
  · rcases List.mem_append.1 hu with hu | hu
    · exact hs u hu
    · rw [List.mem_singleton.1 hu]; exact ht
  · refine ⟨(k5.mono h0).trans ⟨o10.os.trans (o9.os.trans b58.os), o10.tape.trans (o9.tape.trans b58.tape), o10.output.trans (o9.output.trans b58.output), hsize, fun j hj => ?_⟩, fun b hb => ?_⟩
    · have := hlt j (h0 j hj)
      exact hb j (by omega) (fun e => by omega)
    · cases hb
      exact .inr (by have := k5.size; omega)
set_option maxHeartbeats 4000000 in
set_option maxRecDepth 100000 in
theorem does_put (h : HZ E W P D H k A root pg rp L X) (ht : TX W ao c X) (hE : ∀ b, slB ao b → E b) (h0 : ∀ j, E0 j → E j) (hH : E0 H) (hsh : A.op = none) (hm : 200 ≤ A.most) (hX : X.length ≤ 25) (hs : ∀ t, t ∈ X → t.s.length ≤ 3000) (hk : k + 10000 < 900000000) (ii nn : Int) (ss : List UInt8) :
    Calls Tryz.prog 9 #[.agg (rcells P H ao X.length c), .agg (acells 1 ii nn ss)] W fun e w' => DoneR E0 W w' P D H k A root X ao e := by
  have hlt := h.pz.there
  have htab := h.pz.tab.lt
  have a1 : Below W.heap.size W (W.alloc (.cells (rcells P H ao X.length c) 29)) := (Below.refl _ _).alloc (Nat.le_refl _) _
  have z1 : (W.alloc (.cells (rcells P H ao X.length c) 29)).heap.size = W.heap.size + 1 := by simp
  have x1 := Box.new W (rcells P H ao X.length c) 29
  generalize hwa : W.alloc (.cells (rcells P H ao X.length c) 29) = wa at a1 z1 x1
  have a2 := a1.alloc (by omega) (.cells (acells 1 ii nn ss) 31)
  have z2 : (wa.alloc (.cells (acells 1 ii nn ss) 31)).heap.size = W.heap.size + 2 := by simp [z1]
  have x2 := Box.new wa (acells 1 ii nn ss) 31
  rw [z1] at x2
  have x1' := x1.alloc (.cells (acells 1 ii nn ss) 31)
  generalize hwb : wa.alloc (.cells (acells 1 ii nn ss) 31) = wb at a2 z2 x2 x1'
  have a3 := a2.alloc (by omega) (.cells #[.pointer none, .pointer none, .slice none 0 0, .slice none 0 0, .bool false] 29)
  have z3 : (wb.alloc (.cells #[.pointer none, .pointer none, .slice none 0 0, .slice none 0 0, .bool false] 29)).heap.size = W.heap.size + 3 := by simp [z2]
  have x3 := Box.new wb #[.pointer none, .pointer none, .slice none 0 0, .slice none 0 0, .bool false] 29
  rw [z2] at x3
  have x1'' := x1'.alloc (.cells #[.pointer none, .pointer none, .slice none 0 0, .slice none 0 0, .bool false] 29)
  have x2' := x2.alloc (.cells #[.pointer none, .pointer none, .slice none 0 0, .slice none 0 0, .bool false] 29)
  generalize hwc : wb.alloc (.cells #[.pointer none, .pointer none, .slice none 0 0, .slice none 0 0, .bool false] 29) = wc at a3 z3 x3 x1'' x2'
  have HWC : Hid (((W.alloc (.cells (rcells P H ao X.length c) 29)).alloc (.cells (acells 1 ii nn ss) 31)).alloc (.cells #[.pointer none, .pointer none, .slice none 0 0, .slice none 0 0, .bool false] 29) = wc) := by
    show _ = _
    rw [hwa, hwb, hwc]
  have hz : HZ (fun j => E j ∨ j = W.heap.size ∨ j = W.heap.size + 1 ∨ j = W.heap.size + 2) wc P D H k A root pg rp L X := ⟨h.pz.wide a3 (fun j hj => by
    rcases hj with hj | hj | hj | hj
    · exact .inl hj
    · exact .inr (by omega)
    · exact .inr (by omega)
    · exact .inr (by omega)), h.good, h.box.below a3 h.box.lt, .inl h.mem, h.hi, h.few⟩
  have k3 : Kept E W wc := h.pz.kept a3
  have HLG := Lib.hid (fun w => hlong_any ss nn w)
  have HLL := Lib.hid (longL_len ss nn)
  generalize longL ss nn = l at HLG HLL
  have HPU := Lib.hid (hput_any (s := l) hz (by have := HLL.out; omega) (by have := HLL.out; omega) (by omega))
  have HAT := Lib.hid (fun w => hat_any (W := w) ii X.length (by omega))
  have HQ := Lib.hid (And.intro hz (And.intro k3 (And.intro x1'' (And.intro x2' (And.intro x3 (ht.next a3))))))
  have HH := Lib.hid h
  clear h ht x1 x1' x1'' x2 x2' x3 a1 a2 a3 z1 z2 z3 hwa hwb hwc hz k3
  go_enter Tryz.func9, Tryz.ntmps9
  go_wp2_with fail
  rw [HWC.out]
  obtain ⟨hz, k3, x1, x2, x3, ht⟩ := HQ.out
  have r1 : wc.cell? ⟨W.heap.size, 1, none⟩ = some (.pointer (some ⟨H, 0, none⟩)) := x1.cell 1 _ rfl
  have r2 : wc.cell? ⟨W.heap.size, 2, none⟩ = some (.slice ao X.length c) := x1.cell 2 _ rfl
  have q0 : wc.cell? ⟨W.heap.size + 1, 0, none⟩ = some (.int .i64 1) := x2.cell 0 _ rfl
  have q1 : wc.cell? ⟨W.heap.size + 1, 1, none⟩ = some (.int .i64 ii) := x2.cell 1 _ rfl
  clear hz k3 x1 x2 x3 ht
  refine (HLG.out wc).mono ?_
  rintro e w1 ⟨rfl, hw⟩
  cases hw
  go_wp2_with fail
  refine (HAT.out _).mono ?_
  rintro e w1 ⟨v, rfl, hw, _, _⟩
  cases hw
  go_wp2_with fail
  refine HPU.out.mono ?_
  rintro e w5 (⟨t, A5, pg5, rp5, L5, rfl, hu, z5, r5, k5⟩ | ⟨B, rfl, r5, qq, p5, k5⟩)
  rotate_left
  · exfalso
    have := HH.out.hi.rooms HH.out.good hsh (m := 6) (fun t ht => by have := hs t ht; omega)
    have := HLL.out
    omega
  obtain ⟨hz, k3, x1, x2, x3, ht⟩ := HQ.out
  have y1 := x1.of_block (k5.block _ (.inr (.inl rfl)))
  have y3 := x3.of_block (k5.block _ (.inr (.inr (.inr rfl))))
  have t5 : TX w5 ao c X := ht.of_block k5.size (fun b hb => k5.block b (.inl (hE b hb)))
  have s2 : w5.cell? ⟨W.heap.size, 2, none⟩ = some (.slice ao X.length c) := y1.cell 2 _ rfl
  have hidt := z5.id_lt (List.mem_cons_self .. : t ∈ t :: X)
  have hnz : ((idOf t : Nat) : Int) ≠ 0 := by unfold idOf; omega
  have hnzb : (((idOf t : Nat) : Int) == 0) = false := by simp; exact fun h => hnz (by omega)
  have hnew : ∀ u, u ∈ X → idOf u ≠ idOf t := fun u hu e => by
    obtain ⟨a, b⟩ := z5.ids (List.mem_cons_of_mem _ hu) (List.mem_cons_self ..) e
    exact (List.pairwise_cons.1 z5.hi.inj).1 u hu ⟨a.symm, b.symm⟩
  have HF := Lib.hid (rfind_no t5 hnew (by omega))
  have H5 := Lib.hid (And.intro z5 (And.intro r5 (And.intro hu (And.intro (k3.trans (k5.mono (fun j hj => .inl hj))) (And.intro y1 (And.intro y3 (And.intro t5 hidt)))))))
  clear HPU HAT HLG HQ hz k3 x1 x2 x3 ht y1 y3 t5 hidt hnew z5 r5 hu k5 r1 r2 q0 q1
  generalize hti : (idOf t : Nat) = ti at *
  go_wp2_with fail
  refine HF.out.mono ?_
  rintro e w6 ⟨rfl, b6⟩
  obtain ⟨z5, r5, hu, k5, y1, y3, t5, hidt⟩ := H5.out
  have aA : Below w6.heap.size w6 (w6.alloc (.cells #[] 36)) := (Below.refl _ _).alloc (Nat.le_refl _) _
  have sA : (w6.alloc (.cells #[] 36)).heap.size = w6.heap.size + 1 := by simp
  have rA : Row (w6.alloc (.cells #[] 36)) w6.heap.size 0 [] := ⟨by simp, Nat.le_refl _, fun j hj => absurd hj (Nat.not_lt_zero _), fun j hj => absurd hj (Nat.not_lt_zero _)⟩
  obtain ⟨g1, c1, w7, e1, t7, o7⟩ := ((t5.next b6).next aA).copy (by omega) rA
  have hg1 : w6.heap.size ≤ g1 := by rcases o7 with ⟨a, _⟩ | ⟨a, _⟩ <;> omega
  have b7 : Below w6.heap.size w6 w7 := by
    rcases o7 with ⟨_, o⟩ | ⟨_, o⟩
    · exact aA.trans (o.below (by omega) hg1)
    · exact aA.trans (o.mono (by omega))
  have aB : Below w7.heap.size w7 (w7.alloc (.cells #[.int .u64 ti, .string (str l)] 36)) := (Below.refl _ _).alloc (Nat.le_refl _) _
  have sB : (w7.alloc (.cells #[.int .u64 ti, .string (str l)] 36)).heap.size = w7.heap.size + 1 := by simp
  have xB := Box.new w7 #[.int .u64 ti, .string (str l)] 36
  obtain ⟨g2, c2, w8, e2, t8, o8⟩ := (t7.next aB).push (t := t) (by omega) (b := w7.heap.size) ⟨by rw [hti]; exact xB.cell 0 _ rfl, by rw [hu]; exact xB.cell 1 _ rfl⟩
  have s67 := b7.size
  have hg2 : w6.heap.size ≤ g2 := by
    rcases o8 with ⟨a, _⟩ | ⟨a, _⟩
    · cases a; exact hg1
    · omega
  have b8 : Below w6.heap.size w6 w8 := by
    have hb := b7.trans (aB.mono s67)
    rcases o8 with ⟨_, o⟩ | ⟨_, o⟩
    · exact hb.trans (o.below (by omega) hg2)
    · exact hb.trans (o.mono (by omega))
  have b58 := b6.trans (b8.mono b6.size)
  have hg2l : g2 < w8.heap.size := t8.lt rfl
  have hszW : W.heap.size + 2 < w5.heap.size := y3.lt
  have s56 := b6.size
  have y18 := y1.next b58
  have y38 := y3.next b58
  have y19 := y18.set 2 (.slice (some ⟨g2, 0, none⟩) (X.length + 1) c2)
  have y39 := y38.far (b := W.heap.size) (j := 2) (.slice (some ⟨g2, 0, none⟩) (X.length + 1) c2) (by omega)
  have o9 : Only W.heap.size w8 (w8.setCell ⟨W.heap.size, 2, none⟩ (.slice (some ⟨g2, 0, none⟩) (X.length + 1) c2)) := (Only.refl _ _).set 2 _
  have f8 : w8.frozen? ⟨W.heap.size, 2, none⟩ = false := y18.free 2
  have d8 : w8.cell? ⟨W.heap.size, 2, none⟩ = some (.slice ao X.length c) := y18.cell 2 _ rfl
  generalize hw9 : w8.setCell ⟨W.heap.size, 2, none⟩ (.slice (some ⟨g2, 0, none⟩) (X.length + 1) c2) = w9 at y19 y39 o9
  have y19' : Box w9 W.heap.size (rcells P H (some ⟨g2, 0, none⟩) (X.length + 1) c2) := y19
  have n0 : w9.cell? ⟨W.heap.size, 0, none⟩ = some (.pointer (some ⟨P, 0, none⟩)) := y19'.cell 0 _ rfl
  have n1 : w9.cell? ⟨W.heap.size, 1, none⟩ = some (.pointer (some ⟨H, 0, none⟩)) := y19'.cell 1 _ rfl
  have n2 : w9.cell? ⟨W.heap.size, 2, none⟩ = some (.slice (some ⟨g2, 0, none⟩) (X.length + 1) c2) := y19'.cell 2 _ rfl
  have n3 : w9.cell? ⟨W.heap.size, 3, none⟩ = some (.slice none 0 0) := y19'.cell 3 _ rfl
  have n4 : w9.cell? ⟨W.heap.size, 4, none⟩ = some (.bool false) := y19'.cell 4 _ rfl
  have m0 : w9.cell? ⟨W.heap.size + 2, 0, none⟩ = some (.pointer none) := y39.cell 0 _ rfl
  have m1 : w9.cell? ⟨W.heap.size + 2, 1, none⟩ = some (.pointer none) := y39.cell 1 _ rfl
  have m2 : w9.cell? ⟨W.heap.size + 2, 2, none⟩ = some (.slice none 0 0) := y39.cell 2 _ rfl
  have m3 : w9.cell? ⟨W.heap.size + 2, 3, none⟩ = some (.slice none 0 0) := y39.cell 3 _ rfl
  have m4 : w9.cell? ⟨W.heap.size + 2, 4, none⟩ = some (.bool false) := y39.cell 4 _ rfl
  have mf : ∀ j, w9.frozen? ⟨W.heap.size + 2, j, none⟩ = false := y39.free
  have s7 : w6.cell? ⟨W.heap.size, 2, none⟩ = some (.slice ao X.length c) := (y1.next b6).cell 2 _ rfl
  have sA7 : (w6.alloc (.cells #[] 36)).cell? ⟨W.heap.size, 2, none⟩ = some (.slice ao X.length c) := ((y1.next b6).next aA).cell 2 _ rfl
  have H9 := Lib.hid (And.intro y39 (And.intro b58 (And.intro o9 (And.intro t8 (And.intro hg2 (And.intro hg2l (And.intro hszW s56)))))))
  clear HF y1 y3 t5 aA sA rA t7 o7 aB sB xB t8 o8 b7 b8 b58 y18 y38 y19 y19' y39 o9 z5 r5 k5 hidt b6 hg1 hg2 hg2l
  subst hw9
  go_wp2_with (first | (at_builtin; refine UK.wpList_append_run e1 rfl rfl rfl rfl rfl ?_) | (at_builtin; refine UK.wpList_append_run e2 rfl rfl rfl rfl rfl ?_))
  obtain ⟨y39, b58, o9, t8, hg2, hg2l, hszW, s56⟩ := H9.out
  obtain ⟨z5, r5, hu, k5, y1, y3, t5, hidt⟩ := H5.out
  refine bodyPost_ret (UK.box_ret2 rfl _ (y39.fill5 _ _ _ _ _) rfl run_under rfl run_size) rfl ?_
  exact done_put z5 h0 hH hlt r5 k5 b58 o9 (Only.fill5 _ _ _ _ _ _ _) t8 (by omega) hg2l hszW htab (by have := HLL.out; omega) (by rw [hu]; exact HLL.out) hs (Nat.le_refl _)
end
end Go.Proofs.YtjfkdfffolkblaaGreatDoor
namespace Go.Proofs.YtjfkdfffolkblaaGreatDoor
open Go.RowKit
open UK (str BytesAt nth Only Row Box w32)
open SR (Recs rcd total)
open SL (hole add trim room live)
open Go.BigFrame
theorem kept_at {S : Nat → Prop} {a w : World} {c o : Nat} {v : Value} (h : Kept S a w) (hc : S c) (f : a.cell? ⟨c, o, none⟩ = some v) : w.cell? ⟨c, o, none⟩ = some v := (World.cell?_of_block (a := ⟨c, o, none⟩) (h.block c hc)).trans f
theorem without_all {X : List HT} {n : Nat} (h : ∀ u, u ∈ X → idOf u ≠ n) : without X n = X := by
  unfold without
  exact List.filter_eq_self.2 (fun u hu => by have := h u hu; simp [this])
/-- one text, and the others -/
theorem without_perm : ∀ {X : List HT} {j : Nat} {t : HT}, X.Pairwise (fun u v => idOf u ≠ idOf v) → X[j]? = some t → X.Perm (t :: without X (idOf t))
  | [], j, t, _, hj => by cases hj
  | u :: X, 0, t, hp, hj => by
    obtain rfl : u = t := by simpa using hj
    obtain ⟨h1, _⟩ := List.pairwise_cons.1 hp
    have e : without (u :: X) (idOf u) = X := by
      show List.filter _ (u :: X) = X
      rw [List.filter_cons_of_neg (by simp)]
      exact without_all (fun v hv => (h1 v hv).symm)
    rw [e]
  | u :: X, j + 1, t, hp, hj => by
    obtain ⟨h1, h2⟩ := List.pairwise_cons.1 hp
    have hj' : X[j]? = some t := by simpa using hj
    have hne : idOf u ≠ idOf t := h1 t (List.mem_of_getElem? hj')
    have e : without (u :: X) (idOf t) = u :: without X (idOf t) := by
      show List.filter _ (u :: X) = _
      rw [List.filter_cons_of_pos (by simp [hne])]
      rfl
    rw [e]
    exact ((without_perm h2 hj').cons u).trans (List.Perm.swap t u _)
section
variable {E E0 : Nat → Prop} {W W' : World} {P D k pg root H c : Nat} {A : AP} {rp : List Nat} {L : Nat → List (List UInt8)} {X : List HT} {ao : Option Addr}
theorem HZ.apart (h : HZ E W P D H k A root pg rp L X) : X.Pairwise (fun u v => idOf u ≠ idOf v) :=
  List.Pairwise.imp_of_mem (fun {u v} hu hv hn e => by
    obtain ⟨a, b⟩ := h.ids hu hv e
    exact hn ⟨a, b⟩) h.hi.inj
/-- nothing is done -/
theorem done_none {w1 w10 : World} {rb : Nat} (z : HZ (fun j => E j ∨ j = rb ∨ j = rb + 1 ∨ j = rb + 2) w1 P D H k A root pg rp L X) (ht : TX w1 ao c X) (hE : ∀ b, slB ao b → E b) (h0 : ∀ j, E0 j → E j) (hH : E0 H) (hlt : ∀ j, E j → j < rb)
    (k1 : Kept E W w1) (o10 : Only (rb + 2) w1 w10) (hsz : rb + 2 < w1.heap.size) (htab : 0 < rb) (hs : ∀ t, t ∈ X → t.s.length ≤ 3000) :
    DoneR E0 W w10 P D H k A root X ao (.returned (.tuple #[.agg (rcells P H ao X.length c), .bool true])) := by
  have hHl := hlt H (h0 H hH)
  have hb : ∀ j, j < w1.heap.size → ¬ (j = rb + 2) → w10.heap[j]? = w1.heap[j]? := fun j hj hn => o10.block j hj hn
  refine ⟨ao, c, A, pg, rp, L, X, rfl, ⟨?_, z.good, z.box.of_block (hb H z.box.lt (by omega)), .inl hH, z.hi, z.few⟩, ?_, AP.Reach.refl _, by omega, hs, ?_⟩
  · refine (z.pz.over (R := fun j => j = rb + 2) (fun j hj => .inr (.inr (.inr hj))) (fun hj => by omega) o10.size hb (fun j hj => ?_)).up (by omega)
    have hEj : E j := hj.elim (h0 j) (hE j)
    have := hlt j hEj
    exact .inl (.inl hEj)
  · refine ht.of_block o10.size (fun b hb2 => ?_)
    have := hlt b (hE b hb2)
    exact hb b (by omega) (by omega)
  · refine ⟨(k1.mono h0).trans ⟨o10.os, o10.tape, o10.output, o10.size, fun j hj => ?_⟩, fun b hb => .inl hb⟩
    have := hlt j (h0 j hj)
    exact hb j (by omega) (by omega)
set_option maxHeartbeats 4000000 in
set_option maxRecDepth 100000 in
theorem does_set (h : HZ E W P D H k A root pg rp L X) (ht : TX W ao c X) (hE : ∀ b, slB ao b → E b) (h0 : ∀ j, E0 j → E j) (hH : E0 H) (hsh : A.op = none) (hm : 200 ≤ A.most) (hX : X.length ≤ 25) (hs : ∀ t, t ∈ X → t.s.length ≤ 3000) (hk : k + 10000 < 900000000) (ii nn : Int) (ss : List UInt8) :
    Calls Tryz.prog 9 #[.agg (rcells P H ao X.length c), .agg (acells 2 ii nn ss)] W fun e w' => DoneR E0 W w' P D H k A root X ao e := by
  have hlt := h.pz.there
  have htab := h.pz.tab.lt
  have a1 : Below W.heap.size W (W.alloc (.cells (rcells P H ao X.length c) 29)) := (Below.refl _ _).alloc (Nat.le_refl _) _
  have z1 : (W.alloc (.cells (rcells P H ao X.length c) 29)).heap.size = W.heap.size + 1 := by simp
  have x1 := Box.new W (rcells P H ao X.length c) 29
  generalize hwa : W.alloc (.cells (rcells P H ao X.length c) 29) = wa at a1 z1 x1
  have a2 := a1.alloc (by omega) (.cells (acells 2 ii nn ss) 31)
  have z2 : (wa.alloc (.cells (acells 2 ii nn ss) 31)).heap.size = W.heap.size + 2 := by simp [z1]
  have x2 := Box.new wa (acells 2 ii nn ss) 31
  rw [z1] at x2
  have x1' := x1.alloc (.cells (acells 2 ii nn ss) 31)
  generalize hwb : wa.alloc (.cells (acells 2 ii nn ss) 31) = wb at a2 z2 x2 x1'
  have a3 := a2.alloc (by omega) (.cells #[.pointer none, .pointer none, .slice none 0 0, .slice none 0 0, .bool false] 29)
  have z3 : (wb.alloc (.cells #[.pointer none, .pointer none, .slice none 0 0, .slice none 0 0, .bool false] 29)).heap.size = W.heap.size + 3 := by simp [z2]
  have x3 := Box.new wb #[.pointer none, .pointer none, .slice none 0 0, .slice none 0 0, .bool false] 29
  rw [z2] at x3
  have x1'' := x1'.alloc (.cells #[.pointer none, .pointer none, .slice none 0 0, .slice none 0 0, .bool false] 29)
  have x2' := x2.alloc (.cells #[.pointer none, .pointer none, .slice none 0 0, .slice none 0 0, .bool false] 29)
  generalize hwc : wb.alloc (.cells #[.pointer none, .pointer none, .slice none 0 0, .slice none 0 0, .bool false] 29) = wc at a3 z3 x3 x1'' x2'
  have HWC : Hid (((W.alloc (.cells (rcells P H ao X.length c) 29)).alloc (.cells (acells 2 ii nn ss) 31)).alloc (.cells #[.pointer none, .pointer none, .slice none 0 0, .slice none 0 0, .bool false] 29) = wc) := by
    show _ = _
    rw [hwa, hwb, hwc]
  have hz : HZ (fun j => E j ∨ j = W.heap.size ∨ j = W.heap.size + 1 ∨ j = W.heap.size + 2) wc P D H k A root pg rp L X := ⟨h.pz.wide a3 (fun j hj => by
    rcases hj with hj | hj | hj | hj
    · exact .inl hj
    · exact .inr (by omega)
    · exact .inr (by omega)
    · exact .inr (by omega)), h.good, h.box.below a3 h.box.lt, .inl h.mem, h.hi, h.few⟩
  have k3 : Kept E W wc := h.pz.kept a3
  have HLG := Lib.hid (fun w => hlong_any ss nn w)
  have HLL := Lib.hid (longL_len ss nn)
  generalize longL ss nn = l at HLG HLL
  have HAT := Lib.hid (fun w => hat_any (W := w) ii X.length (by omega))
  have HQ := Lib.hid (And.intro hz (And.intro k3 (And.intro x1'' (And.intro x2' (And.intro x3 (ht.next a3))))))
  have HH := Lib.hid h
  clear h ht x1 x1' x1'' x2 x2' x3 a1 a2 a3 z1 z2 z3 hwa hwb hwc hz k3
  go_enter Tryz.func9, Tryz.ntmps9
  go_wp2_with fail
  rw [HWC.out]
  obtain ⟨hz, k3, x1, x2, x3, ht⟩ := HQ.out
  have r0 : wc.cell? ⟨W.heap.size, 0, none⟩ = some (.pointer (some ⟨P, 0, none⟩)) := x1.cell 0 _ rfl
  have r1 : wc.cell? ⟨W.heap.size, 1, none⟩ = some (.pointer (some ⟨H, 0, none⟩)) := x1.cell 1 _ rfl
  have r2 : wc.cell? ⟨W.heap.size, 2, none⟩ = some (.slice ao X.length c) := x1.cell 2 _ rfl
  have r3 : wc.cell? ⟨W.heap.size, 3, none⟩ = some (.slice none 0 0) := x1.cell 3 _ rfl
  have r4 : wc.cell? ⟨W.heap.size, 4, none⟩ = some (.bool false) := x1.cell 4 _ rfl
  have q0 : wc.cell? ⟨W.heap.size + 1, 0, none⟩ = some (.int .i64 2) := x2.cell 0 _ rfl
  have q1 : wc.cell? ⟨W.heap.size + 1, 1, none⟩ = some (.int .i64 ii) := x2.cell 1 _ rfl
  have m0 : wc.cell? ⟨W.heap.size + 2, 0, none⟩ = some (.pointer none) := x3.cell 0 _ rfl
  have m1 : wc.cell? ⟨W.heap.size + 2, 1, none⟩ = some (.pointer none) := x3.cell 1 _ rfl
  have m2 : wc.cell? ⟨W.heap.size + 2, 2, none⟩ = some (.slice none 0 0) := x3.cell 2 _ rfl
  have m3 : wc.cell? ⟨W.heap.size + 2, 3, none⟩ = some (.slice none 0 0) := x3.cell 3 _ rfl
  have m4 : wc.cell? ⟨W.heap.size + 2, 4, none⟩ = some (.bool false) := x3.cell 4 _ rfl
  have mf : ∀ j, wc.frozen? ⟨W.heap.size + 2, j, none⟩ = false := x3.free
  clear hz k3 x1 x2 x3 ht
  refine (HLG.out wc).mono ?_
  rintro e w1 ⟨rfl, hw⟩
  cases hw
  go_wp2_with fail
  refine (HAT.out _).mono ?_
  rintro e w1 ⟨v, rfl, hw, hva, hvb⟩
  cases hw
  by_cases hX0 : X.length = 0
  · obtain rfl := hva hX0
    clear hvb HAT HLG hX0
    go_wp2_with fail
    obtain ⟨hz, k3, x1, x2, x3, ht⟩ := HQ.out
    refine bodyPost_ret (UK.box_ret2 rfl _ (x3.fill5 _ _ _ _ _) rfl run_under rfl run_size) rfl ?_
    exact done_none hz ht hE h0 hH hlt k3 (Only.fill5 _ _ _ _ _ _ _) x3.lt htab hs
  obtain ⟨j, rfl, hj⟩ := hvb (by omega)
  obtain ⟨hz, k3, x1, x2, x3, ht⟩ := HQ.out
  obtain ⟨t, htj⟩ : ∃ t, X[j]? = some t := ⟨_, List.getElem?_eq_getElem hj⟩
  have htm : t ∈ X := List.mem_of_getElem? htj
  obtain ⟨g, rfl, c0, c1⟩ := ht.at_ htj
  have hperm := without_perm hz.apart htj
  have hlen : (without X (idOf t)).length + 1 = X.length := by have := hperm.length_eq; rw [List.length_cons] at this; omega
  have hmem : ∀ u, u ∈ without X (idOf t) → u ∈ X := fun u hu => (List.mem_filter.1 hu).1
  have hzd := (hz.perm hperm).step ((hz.perm hperm).pz.next (Below.refl _ wc).drew) ((hz.perm hperm).pz.kept (Below.refl _ wc).drew)
  have htl := hs t htm
  have hk3 := k3
  have hse : Calls Tryz.prog 37 #[.pointer (some ⟨H, 0, none⟩), .int .u64 (idOf t : Nat), .string (str l)] wc.drew fun e w5 => ∃ (u : HT) (A5 : AP) (pg5 : Nat) (rp5 : List Nat) (L5 : Nat → List (List UInt8)), e = .returned (.tuple #[.int .u64 (idOf u : Nat), .int .i64 0]) ∧ u.s = l ∧ HZ (fun j => E j ∨ j = W.heap.size ∨ j = W.heap.size + 1 ∨ j = W.heap.size + 2) w5 P D H (k + (t.s.length + l.length + 100)) A5 root pg5 rp5 L5 (u :: without X (idOf t)) ∧ A.Reach A5 ∧ Kept (fun j => E j ∨ j = W.heap.size ∨ j = W.heap.size + 1 ∨ j = W.heap.size + 2) wc.drew w5 := by
    refine (hset_any (s := l) hzd (by have := HLL.out; omega) (by have := HLL.out; omega)).mono ?_
    rintro e w5 (⟨u, A5, pg5, rp5, L5, he, hu, z5, r5, k5⟩ | ⟨B1, B, pg1, rp1, L1, he, hi1, g1, g2, qq, p5, k5⟩)
    · exact ⟨u, A5, pg5, rp5, L5, he, hu, z5, r5, k5⟩
    · exfalso
      have := hi1.rooms (g1.good HH.out.good) (g1.shut hsh) (m := 6) (fun t ht => by have := hs t (hmem t ht); omega)
      rw [g1.most] at this
      have := HLL.out
      omega
  have HSE := Lib.hid hse
  clear hse
  have hng : ¬ ((j : Nat) : Int) < 0 := by omega
  have hil : (j : Int) < (X.length : Int) := by omega
  have hle := ht.le
  have r1d : wc.drew.cell? ⟨W.heap.size, 1, none⟩ = some (.pointer (some ⟨H, 0, none⟩)) := r1
  have r2d : wc.drew.cell? ⟨W.heap.size, 2, none⟩ = some (.slice (some ⟨g, 0, none⟩) X.length c) := r2
  have HKE : Hid (∀ w5, Kept (fun j => E j ∨ j = W.heap.size ∨ j = W.heap.size + 1 ∨ j = W.heap.size + 2) wc.drew w5 → w5.cell? ⟨W.heap.size, 1, none⟩ = some (.pointer (some ⟨H, 0, none⟩)) ∧ w5.cell? ⟨W.heap.size, 2, none⟩ = some (.slice (some ⟨g, 0, none⟩) X.length c) ∧ w5.cell? ⟨g, j * 2, none⟩ = some (.int .u64 (idOf t : Nat))) := fun w5 k5 =>
    ⟨kept_at k5 (.inr (.inl rfl)) r1d, kept_at k5 (.inr (.inl rfl)) r2d, kept_at k5 (.inl (hE g rfl)) c0⟩
  have HM := Lib.hid (And.intro htj (And.intro hperm (And.intro hlen (And.intro hmem htl))))
  clear HAT HLG hz k3 hk3 x1 x2 x3 ht htj htm hperm hlen hmem hzd hva hvb c1
  generalize hX1 : without X (idOf t) = X1 at HM HSE
  have c0d : wc.drew.cell? ⟨g, j * 2, none⟩ = some (.int .u64 ((idOf t : Nat) : Int)) := c0
  have HX1 := Lib.hid hX1
  clear hX1
  generalize htn : (idOf t : Nat) = tn at c0 c0d HSE HM HX1 HKE
  clear htn
  go_wp2_with fail
  go_region_held (fun w : World => w.cell? ⟨W.heap.size, 1, none⟩ = some (.pointer (some ⟨H, 0, none⟩)) ∧ w.cell? ⟨W.heap.size, 2, none⟩ = some (.slice (some ⟨g, 0, none⟩) X.length c) ∧ w.cell? ⟨g, j * 2, none⟩ = some (.int .u64 (tn : Int))) (first | exact ⟨r1, r2, c0⟩ | exact ⟨r1d, r2d, c0d⟩ | exact ⟨s1, s2, s3⟩) (first
    | (go_at_call 37; refine HSE.out.mono ?_; rintro e w5 ⟨u, A5, pg5, rp5, L5, rfl, hu, z5, r5, k5⟩; obtain ⟨s1, s2, s3⟩ := HKE.out w5 k5; replace hu := Lib.hid hu; replace z5 := Lib.hid z5; replace r5 := Lib.hid r5; replace k5 := Lib.hid k5))
  all_goals
    obtain ⟨htj, hperm, hlen, hmem, htl⟩ := HM.out
    replace hu := hu.out; replace z5 := z5.out; replace r5 := r5.out; replace k5 := k5.out
    obtain ⟨hz, k3, x1, x2, x3, ht⟩ := HQ.out
    have y1 := x1.drew.of_block (k5.block _ (.inr (.inl rfl)))
    have y3 := x3.drew.of_block (k5.block _ (.inr (.inr (.inr rfl))))
    have t5 : TX w5 (some ⟨g, 0, none⟩) c X := (ht.next (Below.refl _ wc).drew).of_block k5.size (fun b hb => k5.block b (.inl (hE b hb)))
    have k15 : Kept E W w5 := (k3.trans ((hz.pz.kept (Below.refl _ wc).drew).mono (fun j hj => .inl hj))).trans (k5.mono (fun j hj => .inl hj))
    have hidt := z5.id_lt (List.mem_cons_self .. : u ∈ u :: X1)
    have hnz : ((idOf u : Nat) : Int) ≠ 0 := by unfold idOf; omega
    have hnzb : (((idOf u : Nat) : Int) == 0) = false := by simp; exact fun h => hnz (by omega)
    have hnew : ∀ v, v ∈ X1 → idOf v ≠ idOf u := fun v hv => ((List.pairwise_cons.1 z5.apart).1 v hv).symm
    have HWO := Lib.hid (by have hh := without_any (n := tn) (t5.next (Below.refl _ w5).drew) (by omega); rw [HX1.out] at hh; exact hh)
    have H5 := Lib.hid (And.intro z5 (And.intro r5 (And.intro hu (And.intro k15 (And.intro y1 (And.intro y3 (And.intro hnew hidt)))))))
    have HW1 := Lib.hid htl
    have hX1l : X1.length ≤ 25 := by omega
    clear HSE hz k3 x1 x2 x3 ht y1 y3 t5 hidt hnew z5 r5 hu k15 k5 htj hperm hmem htl hlen r0 r1 r2 r3 r4 r1d r2d c0d c0 q0 q1 m0 m1 m2 m3 m4 mf
    go_wp2_with fail
    go_still_tail 8, (by kernel_rfl)
    change wpList _ _ _ _ _ w5.drew
    go_wp2_with fail
    refine HWO.out.mono ?_
    rintro e w6 ⟨ao6, c6, rfl, t6, hf6, b6⟩
    have HF := Lib.hid (rfind_no (n := idOf u) t6 H5.out.2.2.2.2.2.2.1 (by omega))
    have H6 := Lib.hid (And.intro t6 (And.intro hf6 b6))
    clear HWO t6 hf6 b6
    generalize hti : (idOf u : Nat) = ti at *
    go_wp2_with fail
    refine HF.out.mono ?_
    rintro e w7 ⟨rfl, b7⟩
    obtain ⟨t6, hf6, b6⟩ := H6.out
    obtain ⟨z5, r5, hu, k5, y1, y3, hnew, hidt⟩ := H5.out
    have aB : Below w7.heap.size w7 (w7.alloc (.cells #[.int .u64 ti, .string (str l)] 36)) := (Below.refl _ _).alloc (Nat.le_refl _) _
    have sB : (w7.alloc (.cells #[.int .u64 ti, .string (str l)] 36)).heap.size = w7.heap.size + 1 := by simp
    have xB := Box.new w7 #[.int .u64 ti, .string (str l)] 36
    obtain ⟨g2, c2, w8, e2, t8, o8⟩ := ((t6.next b7).next aB).push (t := u) (by omega) (b := w7.heap.size) ⟨by rw [hti]; exact xB.cell 0 _ rfl, by rw [hu]; exact xB.cell 1 _ rfl⟩
    have b57 : Below w5.heap.size w5 w7 := ((Below.refl _ w5).drew.trans (b6.mono (Nat.le_refl _))).trans (b7.mono b6.size)
    have s57 := b57.size
    have hg2 : w5.heap.size ≤ g2 := by
      rcases o8 with ⟨a, _⟩ | ⟨a, _⟩
      · exact hf6 g2 a
      · omega
    have b58 : Below w5.heap.size w5 w8 := by
      have hb := b57.trans (aB.mono s57)
      rcases o8 with ⟨_, o⟩ | ⟨_, o⟩
      · exact hb.trans (o.below (by omega) hg2)
      · exact hb.trans (o.mono (by omega))
    have hg2l : g2 < w8.heap.size := t8.lt rfl
    have hszW : W.heap.size + 2 < w5.heap.size := y3.lt
    have y18 := y1.next b58
    have y38 := y3.next b58
    have y19 := y18.set 2 (.slice (some ⟨g2, 0, none⟩) (X1.length + 1) c2)
    have y39 := y38.far (b := W.heap.size) (j := 2) (.slice (some ⟨g2, 0, none⟩) (X1.length + 1) c2) (by omega)
    have o9 : Only W.heap.size w8 (w8.setCell ⟨W.heap.size, 2, none⟩ (.slice (some ⟨g2, 0, none⟩) (X1.length + 1) c2)) := (Only.refl _ _).set 2 _
    have f8 : w8.frozen? ⟨W.heap.size, 2, none⟩ = false := y18.free 2
    have d8 : w8.cell? ⟨W.heap.size, 2, none⟩ = some (.slice (some ⟨g, 0, none⟩) X.length c) := y18.cell 2 _ rfl
    generalize hw9 : w8.setCell ⟨W.heap.size, 2, none⟩ (.slice (some ⟨g2, 0, none⟩) (X1.length + 1) c2) = w9 at y19 y39 o9
    have y19' : Box w9 W.heap.size (rcells P H (some ⟨g2, 0, none⟩) (X1.length + 1) c2) := y19
    have n0 : w9.cell? ⟨W.heap.size, 0, none⟩ = some (.pointer (some ⟨P, 0, none⟩)) := y19'.cell 0 _ rfl
    have n1 : w9.cell? ⟨W.heap.size, 1, none⟩ = some (.pointer (some ⟨H, 0, none⟩)) := y19'.cell 1 _ rfl
    have n2 : w9.cell? ⟨W.heap.size, 2, none⟩ = some (.slice (some ⟨g2, 0, none⟩) (X1.length + 1) c2) := y19'.cell 2 _ rfl
    have n3 : w9.cell? ⟨W.heap.size, 3, none⟩ = some (.slice none 0 0) := y19'.cell 3 _ rfl
    have n4 : w9.cell? ⟨W.heap.size, 4, none⟩ = some (.bool false) := y19'.cell 4 _ rfl
    have m0 : w9.cell? ⟨W.heap.size + 2, 0, none⟩ = some (.pointer none) := y39.cell 0 _ rfl
    have m1 : w9.cell? ⟨W.heap.size + 2, 1, none⟩ = some (.pointer none) := y39.cell 1 _ rfl
    have m2 : w9.cell? ⟨W.heap.size + 2, 2, none⟩ = some (.slice none 0 0) := y39.cell 2 _ rfl
    have m3 : w9.cell? ⟨W.heap.size + 2, 3, none⟩ = some (.slice none 0 0) := y39.cell 3 _ rfl
    have m4 : w9.cell? ⟨W.heap.size + 2, 4, none⟩ = some (.bool false) := y39.cell 4 _ rfl
    have mf : ∀ j, w9.frozen? ⟨W.heap.size + 2, j, none⟩ = false := y39.free
    have H9 := Lib.hid (And.intro y39 (And.intro b58 (And.intro o9 (And.intro t8 (And.intro hg2 (And.intro hg2l hszW))))))
    clear HF y1 y3 aB sB xB t8 o8 b57 s57 b58 y18 y38 y19 y19' y39 o9 z5 r5 k5 hidt hnew t6 hf6 b6 b7 hg2 hg2l
    subst hw9
    go_wp2_with (at_builtin; refine UK.wpList_append_run e2 rfl rfl rfl rfl rfl ?_)
    obtain ⟨y39, b58, o9, t8, hg2, hg2l, hszW⟩ := H9.out
    obtain ⟨z5, r5, hu, k5, y1, y3, hnew, hidt⟩ := H5.out
    refine bodyPost_ret (UK.box_ret2 rfl _ (y39.fill5 _ _ _ _ _) rfl run_under rfl run_size) rfl ?_
    exact done_put z5 h0 hH hlt r5 k5 b58 o9 (Only.fill5 _ _ _ _ _ _ _) t8 hg2 hg2l hszW htab (by have := HLL.out; have := HW1.out; omega) (by rw [hu]; exact HLL.out) (fun v hv => hs v (HM.out.2.2.2.1 v hv)) (by have := HM.out.2.2.1; omega)
end
end Go.Proofs.YtjfkdfffolkblaaGreatDoor
