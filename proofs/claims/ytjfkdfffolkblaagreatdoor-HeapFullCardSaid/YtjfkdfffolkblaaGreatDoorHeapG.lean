/-
  heap: add, where there is room, and where there is none.
  heap.links: a long text's pages.
  heap.record: the record of a text.
-/
import Derived.Test.YtjfkdfffolkblaaGreatDoorHeapD
namespace Go.Proofs.YtjfkdfffolkblaaGreatDoor
open Go.RowKit
open UK (str BytesAt nth Only Row Box w32)
open SR (Recs rcd total)
open SL (hole add trim room live)
open Go.BigFrame
section
variable {E F : Nat → Prop} {W W' : World} {P D k fb db cap pg root H c1 c2 c3 : Nat} {A : AP} {v1 v2 : Value} {rec : List UInt8} {L : List (List UInt8)}
/-- what heap.add leaves -/
def Added (E : Nat → Prop) (W W' : World) (P D : Nat) (A : AP) (k pg : Nat) (L : List (List UInt8)) (rec : List UInt8) (e : Ending) : Prop :=
  ((rec.length : Int) ≤ room L ∧ e = .returned (.tuple #[.int .i64 (hole L : Nat), .bool true, .int .i64 0]) ∧ ∃ z, Recs z (add L rec) ∧ z.length = 504 ∧ PZ E W' P D (A.wrote pg z) (k + 3) ∧ Kept E W W') ∨
  (room L < rec.length ∧ e = .returned (.tuple #[.int .i64 0, .bool false, .int .i64 0]) ∧ PZ E W' P D A (k + 3) ∧ Kept E W W')
set_option maxHeartbeats 1000000 in
set_option maxRecDepth 100000 in
theorem hadd_any (h : PZ E W P D A k) (hk : k + 3 < 900000000) (hb : Box W H (hcells P root)) (hp : A.Has pg) (hr : Recs (A.c pg) L) (hs : rec ≠ []) :
    Calls Tryz.prog 83 #[.pointer (some ⟨H, 0, none⟩), .int .i64 pg, .string (str rec)] W fun e w' => Added E W w' P D A k pg L rec e := by
  have c0 : W.cell? ⟨H, 0, none⟩ = some (.pointer (some ⟨P, 0, none⟩)) := hb.cell 0 _ rfl
  have ht := h.tab.lt
  have a1 : Below W.heap.size W (W.alloc (.cells #[.string (str rec)] 9)) := (Below.refl _ _).alloc (Nat.le_refl _) _
  have hs1 : (W.alloc (.cells #[.string (str rec)] 9)).heap.size = W.heap.size + 1 := by simp
  have x1 := Box.new W #[.string (str rec)] 9
  generalize hwa : W.alloc (.cells #[.string (str rec)] 9) = wa at a1 hs1 x1
  have a2 := a1.alloc (by omega) (.cells #[.int .i64 0] 3)
  have hs2 : (wa.alloc (.cells #[.int .i64 0] 3)).heap.size = W.heap.size + 2 := by simp [hs1]
  have x2 := Box.new wa #[.int .i64 0] 3
  rw [hs1] at x2
  have x1' := x1.alloc (.cells #[.int .i64 0] 3)
  generalize hwb : wa.alloc (.cells #[.int .i64 0] 3) = wb at a2 hs2 x2 x1'
  have a3 := a2.alloc (by omega) (.cells #[.bool false] 4)
  have hs3 : (wb.alloc (.cells #[.bool false] 4)).heap.size = W.heap.size + 3 := by simp [hs2]
  have x3 := Box.new wb #[.bool false] 4
  rw [hs2] at x3
  have x2' := x2.alloc (.cells #[.bool false] 4)
  have x1'' := x1'.alloc (.cells #[.bool false] 4)
  generalize hwc : wb.alloc (.cells #[.bool false] 4) = wc at a3 hs3 x3 x2' x1''
  have p2 := h.wide a3 (T := fun j => E j ∨ j = W.heap.size ∨ j = W.heap.size + 1 ∨ j = W.heap.size + 2) (fun j hj => by
    rcases hj with hj | hj | hj | hj
    · exact .inl hj
    · exact .inr (by omega)
    · exact .inr (by omega)
    · exact .inr (by omega))
  have k2 : Kept E W wc := h.kept a3
  have HWC : Hid (((W.alloc (.cells #[.string (str rec)] 9)).alloc (.cells #[.int .i64 0] 3)).alloc (.cells #[.bool false] 4) = wc) := by
    show _ = _
    rw [hwa, hwb, hwc]
  have hE0 := h.there
  have d0 : wc.cell? ⟨H, 0, none⟩ = some (.pointer (some ⟨P, 0, none⟩)) := (hb.below a3 hb.lt).cell 0 _ rfl
  have d0x : (((W.alloc (.cells #[.string (str rec)] 9)).alloc (.cells #[.int .i64 0] 3)).alloc (.cells #[.bool false] 4)).cell? ⟨H, 0, none⟩ = some (.pointer (some ⟨P, 0, none⟩)) := by rw [HWC.out]; exact d0
  have HK2 := Lib.hid k2
  by_cases hfit : (rec.length : Int) ≤ room L
  · have HW := Lib.hid (with_any (N := 133) (caps := #[.pointer (some ⟨W.heap.size, 0, none⟩), .pointer (some ⟨W.heap.size + 1, 0, none⟩), .pointer (some ⟨W.heap.size + 2, 0, none⟩)]) (F := E)
      (R := fun A' k' r w' => ∃ z, Recs z (add L rec) ∧ z.length = 504 ∧ A' = A.wrote pg z ∧ k' = k + 3 ∧ r = 0 ∧ Box w' (W.heap.size + 1) #[.int .i64 (hole L : Nat)] ∧ Box w' (W.heap.size + 2) #[.bool true])
      (enters Tryz.func133 (by kernel_rfl) (by kernel_rfl)) p2 (by omega) hp (fun j hj => .inl hj) (fun fb db cap w hpf hkk => by
        refine (add1_yes hpf (by omega) hr (x1''.of_block (hkk.block _ (.inr (.inl rfl)))) (x2'.of_block (hkk.block _ (.inr (.inr (.inl rfl))))) (x3.of_block (hkk.block _ (.inr (.inr (.inr rfl))))) (.inr (.inl rfl)) (.inr (.inr (.inl rfl))) (.inr (.inr (.inr rfl))) (by omega) (by omega) (by omega) hs hfit).mono ?_
        rintro e w' ⟨he, ⟨z, z1, z2, q1⟩, q2, q3, q4⟩
        exact ⟨0, _, k + 3, true, he, q1, q4.mono (fun j hj => ⟨.inl hj, by have := hE0 j hj; omega, by have := hE0 j hj; omega⟩), z, z1, z2, rfl, rfl, rfl, q2, q3⟩))
    have HF := Lib.hid hfit
    clear h hb x1 x1' x1'' x2 x2' x3 p2 k2 a1 a2 a3 hp hr hs1 hs2 hs3 hwa hwb hwc hE0 ht hfit
    go_enter Tryz.func83, Tryz.ntmps83
    go_wp2_with fail
    rw [HWC.out]
    refine HW.out.mono ?_
    rintro e w3 ⟨r, A', k', w1, rfl, ⟨z, z1, z2, rfl, rfl, rfl, y2, y3⟩, p3, k3, k4⟩
    have d2 : w3.cell? ⟨W.heap.size + 1, 0, none⟩ = some (.int .i64 (hole L : Nat)) := (y2.of_block (k3.block _ (.inr (.inr (.inl rfl))))).cell 0 _ rfl
    have d3 : w3.cell? ⟨W.heap.size + 2, 0, none⟩ = some (.bool true) := (y3.of_block (k3.block _ (.inr (.inr (.inr rfl))))).cell 0 _ rfl
    have K3 := Lib.hid (And.intro (p3.less (T := E) (fun j hj => .inl hj)) (HK2.out.trans k4))
    have HZ := Lib.hid (And.intro z1 z2)
    clear HW y2 y3 p3 k3 k4 z1 z2
    go_wp2
    go_quiet (fail)
    go_wp2
    go_ret3
    obtain ⟨p3, k3⟩ := K3.out
    have bd : Below w3.heap.size w3 (w3.drewN nq) := UK.belowN (Below.refl _ _) nq
    exact .inl ⟨HF.out, rfl, z, HZ.out.1, HZ.out.2, p3.next bd, k3.trans (p3.kept bd)⟩
  · have hlt : room L < rec.length := by omega
    have HW := Lib.hid (with_any (N := 133) (caps := #[.pointer (some ⟨W.heap.size, 0, none⟩), .pointer (some ⟨W.heap.size + 1, 0, none⟩), .pointer (some ⟨W.heap.size + 2, 0, none⟩)]) (F := fun j => E j ∨ j = W.heap.size ∨ j = W.heap.size + 1 ∨ j = W.heap.size + 2)
      (R := fun A' k' r _ => A' = A ∧ k' = k + 2 ∧ r = 0)
      (enters Tryz.func133 (by kernel_rfl) (by kernel_rfl)) p2 (by omega) hp (fun j hj => hj) (fun fb db cap w hpf hkk => by
        refine (add1_no hpf hr (x1''.of_block (hkk.block _ (.inr (.inl rfl)))) hlt).mono ?_
        rintro e w' ⟨he, q1, q4⟩
        exact ⟨0, _, k + 2, false, he, q1, q4, rfl, rfl, rfl⟩))
    have HX := Lib.hid (And.intro x2' x3)
    have HF := Lib.hid hlt
    clear h hb x1 x1' x1'' x2 x2' x3 p2 k2 a1 a2 a3 hp hr hs1 hs2 hs3 hwa hwb hwc hE0 ht hfit hlt
    go_enter Tryz.func83, Tryz.ntmps83
    go_wp2_with fail
    rw [HWC.out]
    refine HW.out.mono ?_
    rintro e w3 ⟨r, A', k', w1, rfl, ⟨rfl, rfl, rfl⟩, p3, k3, k4⟩
    have d2 : w3.cell? ⟨W.heap.size + 1, 0, none⟩ = some (.int .i64 0) := (HX.out.1.of_block (k4.block _ (.inr (.inr (.inl rfl))))).cell 0 _ rfl
    have d3 : w3.cell? ⟨W.heap.size + 2, 0, none⟩ = some (.bool false) := (HX.out.2.of_block (k4.block _ (.inr (.inr (.inr rfl))))).cell 0 _ rfl
    have K3 := Lib.hid (And.intro ((p3.less (T := E) (fun j hj => .inl hj)).up (show k + 2 ≤ k + 3 by omega)) (HK2.out.trans (k4.mono (fun j hj => .inl hj))))
    clear HW HX p3 k3 k4
    go_wp2
    go_quiet (fail)
    go_wp2
    go_ret3
    obtain ⟨p3, k3⟩ := K3.out
    have bd : Below w3.heap.size w3 (w3.drewN nq) := UK.belowN (Below.refl _ _) nq
    exact .inr ⟨HF.out, rfl, p3.next bd, k3.trans (p3.kept bd)⟩
end
end Go.Proofs.YtjfkdfffolkblaaGreatDoor
namespace Go.Proofs.YtjfkdfffolkblaaGreatDoor
open Go.RowKit
open UK (str BytesAt nth Only Row Box w32)
open Go.BigFrame
/-- bytes of the page turn -/
theorem PF.lay {E : Nat → Prop} {W W' : World} {P D k fb db cap pg : Nat} {A : AP} (h : PF E W P D (A.keep pg) k fb db cap pg true) (ho : Only db W W') {o : Nat} {s : List UInt8} (hoo : o + s.length ≤ 504) {y : List UInt8} (hyl : y.length = cap) (hc : 504 ≤ cap) (hyt : y.take 504 = A.c pg) (hy : BytesAt W' db (UK.wr y o s)) :
    PF E W' P D (A.wrote pg (UK.wr (A.c pg) o s)) k fb db cap pg true ∧ Kept E W W' := by
  have hl : (UK.wr y o s).length = cap := (UK.wr_length _ _ _ (by omega)).trans hyl
  have := h.write ho hy hl
  rw [show (UK.wr y o s).take 504 = UK.wr (A.c pg) o s by rw [← hyt]; exact wr_cut y o 504 s hoo (by omega)] at this
  exact this
/-- a page of a long text -/
def linkB (next : Nat) (part : List UInt8) : List UInt8 := UK.wr (UK.wr (UK.zeros 504) 0 (putL (w32 next))) 4 part
theorem linkB_is (next : Nat) (part : List UInt8) (h : part.length ≤ 500) : wdAt (linkB next part) 0 = w32 next ∧ ((linkB next part).drop 4).take part.length = part := by
  have h1 : (UK.wr (UK.zeros 504) 0 (putL (w32 next))).length = 504 := (UK.wr_length _ _ _ (by show 0 + 4 ≤ _; rw [UK.zeros_length]; omega)).trans (UK.zeros_length 504)
  unfold linkB
  refine ⟨?_, UK.wr_at _ _ _ (by omega)⟩
  rw [wdAt_far _ _ _ (by omega) 0 (.inl (by omega))]
  exact wdAt_wr _ _ _ (by rw [UK.zeros_length]; omega)
/-- how far the pages of a text reach -/
def Reached (len tw n : Nat) : Prop := (tw = len ∧ n = 0) ∨ ∃ m, tw = 500 * m ∧ len ≤ 500 * (m + n) ∧ 500 * (m + n) < len + 500 ∧ 1 ≤ n
theorem Reached.step {len tw n : Nat} (h : Reached len tw n) (ht : 0 < tw) : Reached len ((tw - 1) / 500 * 500) (n + 1) ∧ (tw - 1) / 500 * 500 < tw ∧ tw - (tw - 1) / 500 * 500 ≤ 500 ∧ (tw = len ∨ tw = (tw - 1) / 500 * 500 + 500) ∧ 500 * n < len ∧ tw ≤ len := by
  have hd := Nat.div_add_mod (tw - 1) 500
  have hm := Nat.mod_lt (tw - 1) (show 0 < 500 by omega)
  rcases h with ⟨rfl, rfl⟩ | ⟨m, rfl, h1, h2, h3⟩
  · exact ⟨.inr ⟨(tw - 1) / 500, by omega, by omega, by omega, by omega⟩, by omega, by omega, .inl rfl, by omega, by omega⟩
  · have e : (500 * m - 1) / 500 = m - 1 := by omega
    rw [e]
    exact ⟨.inr ⟨m - 1, by omega, by omega, by omega, by omega⟩, by omega, by omega, .inr (by omega), by omega, by omega⟩
theorem link_step {A B : AP} {ch : List Nat} {s : List UInt8} {tw fr : Nat} (h : AP.Grown A B ch) (g : B.Good) (hf : ¬ B.Full) (hc : ChainOf B.c (s.drop tw) ch) (h1 : fr < tw) (h2 : tw ≤ s.length) (h3 : tw - fr ≤ 500) (h4 : tw = s.length ∨ tw = fr + 500) :
    ChainOf (B.take.wrote B.next (linkB (ch.headD 0) ((s.take tw).drop fr))).c (s.drop fr) (B.next :: ch) := by
  have hn := (g.next hf).1
  have hpl : ((s.take tw).drop fr).length = tw - fr := by rw [List.length_drop, List.length_take]; omega
  obtain ⟨l1, l2⟩ := linkB_is (ch.headD 0) ((s.take tw).drop fr) (by omega)
  rw [hpl] at l2
  have hsl : (s.drop fr).length = s.length - fr := List.length_drop
  refine ⟨fun e => ?_, ?_, ?_, ?_⟩
  · have := congrArg List.length e
    rw [hsl, List.length_nil] at this
    omega
  · rw [AP.wrote_c, if_pos rfl]; exact l1
  · rw [AP.wrote_c, if_pos rfl, hsl, show min (s.length - fr) 500 = tw - fr by omega, l2]
    rcases h4 with rfl | rfl
    · rw [List.take_length, List.take_of_length_le (by omega)]
    · rw [List.drop_take, show fr + 500 - fr = 500 by omega]
  · have e : (s.drop fr).drop 500 = s.drop tw := by
      rw [List.drop_drop]
      rcases h4 with rfl | rfl
      · rw [List.drop_length, List.drop_eq_nil_of_le (by omega)]
      · rfl
    rw [e]
    refine hc.same (fun p hp => ?_)
    have hne : B.next ≠ p := fun e => hn ((h.has _).2 (.inr (e ▸ hp)))
    rw [AP.wrote_c, if_neg hne]
    show setC B.c B.next (UK.zeros 504) p = _
    unfold setC
    rw [if_neg hne]
section
variable {E F : Nat → Prop} {W W' : World} {P D k fb db cap pg root H : Nat} {A : AP} {s : List UInt8}
/-- what links leaves -/
def Linked (E : Nat → Prop) (W W' : World) (P D : Nat) (A : AP) (k : Nat) (s : List UInt8) (e : Ending) : Prop :=
  (∃ ch B, e = .returned (.tuple #[.int .i64 (ch.headD 0 : Nat), .int .i64 0]) ∧ AP.Grown A B ch ∧ ChainOf B.c s ch ∧ 500 * ch.length < s.length + 500 ∧ PZ E W' P D B (k + (s.length + 10)) ∧ Kept E W W') ∨
  (∃ B, e = .returned (.tuple #[.int .i64 0, .int .i64 6]) ∧ A.Reach B ∧ 500 * A.rooms < s.length ∧ PZ E W' P D B (k + (s.length + 10)) ∧ Kept E W W')
set_option maxHeartbeats 2000000 in
set_option maxRecDepth 100000 in
theorem links_any (h : PZ E W P D A k) (hg : A.Good) (hk : k + (s.length + 10) < 900000000) (hb : Box W H (hcells P root)) (hH : E H) (hs : s.length ≤ 400000) :
    Calls Tryz.prog 132 #[.pointer (some ⟨H, 0, none⟩), .string (str s)] W fun e w' => Linked E W w' P D A k s e := by
  have HST := Lib.hid (show ∃ (ch : List Nat) (B : AP) (tw : Nat), tw = s.length ∧ AP.Grown A B ch ∧ ChainOf B.c (s.drop tw) ch ∧ Reached s.length tw ch.length ∧ PZ E W P D B (k + 4 * ch.length) ∧ Kept E W W ∧ ch = [] from ⟨[], A, s.length, rfl, AP.Grown.nil A, List.drop_length, .inl ⟨rfl, rfl⟩, h, h.kept (Below.refl _ _), rfl⟩)
  have HB := Lib.hid hb
  clear h hb
  go_enter Tryz.func132, Tryz.ntmps132
  go_wp2_with fail
  go_loopw [6, 7] (fun nx tv wr => ∃ (ch : List Nat) (B : AP) (tw : Nat), nx = .int .i64 (ch.headD 0 : Nat) ∧ tv = .int .i64 tw ∧ AP.Grown A B ch ∧ ChainOf B.c (s.drop tw) ch ∧ Reached s.length tw ch.length ∧ PZ E wr P D B (k + 4 * ch.length) ∧ Kept E W wr) (fun _ tv _ => (intOf tv).toNat)
  case atStart =>
    obtain ⟨ch, B, tw, rfl, q1, q2, q3, q4, q5, rfl⟩ := HST.out
    exact ⟨[], B, s.length, rfl, rfl, q1, q2, q3, q4, q5⟩
  case round =>
    clear HST
    obtain ⟨ch, B, tw, rfl, rfl, q1, q2, q3, q4, q5⟩ := hrel
    have hls := fun hf fr h1 h2 h3 h4 => link_step (fr := fr) q1 (q1.reach.good hg) hf q2 h1 h2 h3 h4
    generalize hhd : ch.headD 0 = hd at hls ⊢
    have HHD := Lib.hid hhd
    clear hhd
    have c0 : wr.cell? ⟨H, 0, none⟩ = some (.pointer (some ⟨P, 0, none⟩)) := (HB.out.of_block (q5.block _ hH)).cell 0 _ rfl
    by_cases ht : 0 < tw
    · obtain ⟨r1, r2, r3, r4, r5, r6⟩ := q3.step ht
      have e1 : ((tw : Int) - 1) / 500 * 500 = (((tw - 1) / 500 * 500 : Nat) : Int) := by omega
      have e2 : ((tw : Int) - 1).tdiv 500 * 500 = (((tw - 1) / 500 * 500 : Nat) : Int) := by
        rw [Int.tdiv_eq_ediv_of_nonneg (by omega)]; exact e1
      generalize hfrom : (tw - 1) / 500 * 500 = from_ at r1 r2 r3 r4 e1 e2
      by_cases hf : B.Full
      · have HT := Lib.hid (pz_take_no q4 (by omega) hf)
        have HQ := Lib.hid (And.intro q1 (And.intro q5 (And.intro r5 (((q1.reach.good hg).full).1 hf))))
        clear q1 q2 q3 q4 q5 r1 hfrom hf
        go_wp2_with fail
        refine HT.out.mono ?_
        rintro e w1 ⟨rfl, p1, k1⟩
        have HP := Lib.hid (And.intro p1 k1)
        clear HT p1 k1
        go_wp2
        go_ret2
        obtain ⟨q1, q5, r5, hz⟩ := HQ.out
        have := q1.rooms
        exact .inr ⟨B, rfl, q1.reach, by omega, HP.out.1.up (by omega), q5.trans HP.out.2⟩
      · have HT := Lib.hid (pz_take q4 (by omega) hf)
        have hgb := q1.reach.good hg
        have HQ := Lib.hid (And.intro (q1.cons hgb hf (linkB hd ((s.take tw).drop from_))) (And.intro (hls hf from_ r2 r6 r3 r4) (And.intro r1 q5)))
        have hpl : ((s.take tw).drop from_).length = tw - from_ := by rw [List.length_drop, List.length_take]; omega
        have HPL := Lib.hid hpl
        have i1 : (from_ : Int) ≤ tw := by omega
        have i2 : (tw : Int) ≤ s.length := by omega
        have i3 : (4 : Int) ≤ 504 := by omega
        clear q1 q2 q3 q4 q5 hgb hpl hf r1 hfrom hls
        go_wp2_with fail
        refine HT.out.mono ?_
        rintro e w1 ⟨fb, db, cap, rfl, p1, k1⟩
        have HE := Lib.hid (edit_full p1 (by omega))
        have K1 := Lib.hid k1
        clear HT p1 k1
        go_wp2_with fail
        refine HE.out.mono ?_
        rintro e w2 ⟨rfl, p2, k2, y, y1, y2, y3, y4, y5⟩
        have HS := Lib.hid (hsetWord_any y1 0 504 cap (by omega) (by omega) (by omega) hd)
        have H2 := Lib.hid (And.intro p2 (And.intro (K1.out.trans k2) (And.intro y2 (And.intro y4 y3))))
        clear HE K1 p2 k2 y1 y2 y3 y4 y5
        go_wp2_with fail
        refine HS.out.mono ?_
        rintro e w3 ⟨rfl, b3, o3⟩
        obtain ⟨p2, k2, y2, y4, y3⟩ := H2.out
        obtain ⟨p3, k3⟩ := p2.word o3 (o := 0) (by omega) y2 y4 y3 b3
        have bd3 : Below w3.heap.size w3 w3.drew := (Below.refl _ _).drew
        have HE2 := Lib.hid (edit_full (p3.next bd3) (by omega))
        have K3 := Lib.hid ((k2.trans k3).trans (p3.kept bd3))
        have i4 : (4 : Int) ≤ cap := by omega
        have i5 : ¬ (cap = 4) := by omega
        clear HS H2 p2 k2 y2 y3 b3 o3 p3 k3 bd3
        go_wp2_with fail
        go_region_with (first
          | (go_at_call 47; refine HE2.out.mono ?_; rintro e w6 ⟨rfl, p6, k6, z, t1, t2, t3, t4, t5⟩; replace p6 := Lib.hid p6; replace k6 := Lib.hid k6; replace t3 := Lib.hid t3; have hcp := UK.run_copy (P := Tryz.prog) (dT := 92) (sT := 9) (ty := 3) Tryz.underlying92 (fun w => by kernel_rfl) t1 4 500 (cap - 4) ((s.take tw).drop from_) (by rw [HPL.out]; omega) (by rw [HPL.out]; omega)))
        all_goals
          have hb6 := t1.setCells ((s.take tw).drop from_) 4 (by rw [HPL.out]; omega)
          have ho6 := (Only.refl db w6).setCells (UK.cellsOf ((s.take tw).drop from_)) (o := 4)
          obtain ⟨p7, k7⟩ := p6.out.lay (o := 4) (s := (s.take tw).drop from_) ho6 (by rw [HPL.out]; omega) t2 t4 t3.out hb6
          rw [AP.wrote_wrote, AP.wrote_c, if_pos rfl, show B.take.c B.next = UK.zeros 504 by show setC B.c B.next (UK.zeros 504) B.next = _; unfold setC; rw [if_pos rfl]] at p7
          replace p7 : PF E (w6.setCells db 4 (UK.cellsOf ((s.take tw).drop from_))) P D (B.take.wrote B.next (linkB hd ((s.take tw).drop from_))) (k + 4 * ch.length + 2 + 1 + 1) fb db cap B.next true := p7
          generalize w6.setCells db 4 (UK.cellsOf ((s.take tw).drop from_)) = w7 at p7 k7 hcp hb6 ho6 ⊢
          have HG := Lib.hid (pf_page p7)
          have HU := Lib.hid (pf_unpin p7)
          have K7 := Lib.hid ((K3.out.trans k6.out).trans k7)
          clear HE2 K3 p6 k6 t1 t2 t3 t5 hcp hb6 ho6 p7 k7
          go_wp2_with fail
          refine HG.out.mono ?_
          rintro e w8 ⟨rfl, rfl⟩
          go_wp2_with fail
          refine HU.out.mono ?_
          rintro e w9 ⟨rfl, p9, k9⟩
          obtain ⟨g1, g2, g3, g4⟩ := HQ.out
          have H9 := Lib.hid (And.intro g1 (And.intro g2 (And.intro g3 (And.intro (p9.up (show k + 4 * ch.length + 2 + 1 + 1 ≤ k + 4 * (ch.length + 1) by omega)) (g4.trans (K7.out.trans k9))))))
          clear HG HU K7 p9 k9 g1 g2 g3 g4 HQ
          go_wp2
          go_roundw
          case rel =>
            obtain ⟨g1, g2, g3, g4, g5⟩ := H9.out
            exact ⟨B.next :: ch, _, from_, rfl, rfl, g1, g2, g3, g4, g5⟩
          case measure => simp [intOf]; omega
    · obtain rfl : tw = 0 := by omega
      have hl : 500 * ch.length < s.length + 500 := by
        rcases q3 with ⟨a, b⟩ | ⟨m, a, b, c, d⟩
        · omega
        · have : m = 0 := by omega
          subst this
          omega
      rw [List.drop_zero] at q2
      have HQ := Lib.hid (And.intro q1 (And.intro q2 (And.intro hl (And.intro q4 q5))))
      clear q1 q2 q3 q4 q5 hls hl
      go_wp2
      go_ret2
      obtain ⟨q1, q2, hl, q4, q5⟩ := HQ.out
      exact .inl ⟨ch, B, by rw [HHD.out] <;> rfl, q1, q2, hl, q4.up (by omega), q5⟩
end
end Go.Proofs.YtjfkdfffolkblaaGreatDoor
namespace Go.Proofs.YtjfkdfffolkblaaGreatDoor
open Go.RowKit
open UK (str BytesAt nth Only Row Box w32)
open Go.BigFrame
def recS (s : List UInt8) (ch : List Nat) : List UInt8 := if s.length ≤ 300 then 0 :: s else 1 :: (putL (w32 s.length) ++ putL (w32 (ch.headD 0)))
def longS (c : Nat → List UInt8) (s : List UInt8) (ch : List Nat) : Prop := if s.length ≤ 300 then ch = [] else ChainOf c s ch
theorem recS_ne (s : List UInt8) (ch : List Nat) : recS s ch ≠ [] := by unfold recS; split <;> exact List.cons_ne_nil _ _
theorem recS_len (s : List UInt8) (ch : List Nat) : (recS s ch).length ≤ 301 := by
  unfold recS
  split
  · rw [List.length_cons]; omega
  · show 9 ≤ 301; decide
theorem make9 (w : World) : (Instr.makeSlice 92 (.int .i64 9) (.int .i64 9)).run Tryz.prog w = .ok (.slice (some ⟨w.heap.size, 0, none⟩) 9 9) (w.alloc (.cells (UK.bcells (UK.zeros 9)) 5)) := by kernel_rfl
theorem new9 (w : World) : BytesAt (w.alloc (.cells (UK.bcells (UK.zeros 9)) 5)) w.heap.size (UK.zeros 9) := by
  refine ⟨5, (0, 0), ?_, fun i _ hh => absurd hh.2 (Nat.not_lt_zero _)⟩
  show (w.heap.push _)[w.heap.size]? = _
  rw [Array.getElem?_push_size]
theorem new1 (w : World) : BytesAt (w.alloc (.cells #[.int .u8 0] 5)) w.heap.size [0] := by
  refine ⟨5, (0, 0), ?_, fun i _ hh => absurd hh.2 (Nat.not_lt_zero _)⟩
  show (w.heap.push _)[w.heap.size]? = _
  rw [Array.getElem?_push_size]
  rfl
section
variable {E F : Nat → Prop} {W W' : World} {P D k fb db cap pg root H : Nat} {A : AP} {s : List UInt8}
/-- what record leaves -/
def Recorded (E : Nat → Prop) (W W' : World) (P D : Nat) (A : AP) (k : Nat) (s : List UInt8) (e : Ending) : Prop :=
  (∃ ch B, e = .returned (.tuple #[.string (str (recS s ch)), .int .i64 0]) ∧ AP.Grown A B ch ∧ longS B.c s ch ∧ 500 * ch.length < s.length + 500 ∧ PZ E W' P D B (k + (s.length + 10)) ∧ Kept E W W') ∨
  (∃ B, e = .returned (.tuple #[.string (str []), .int .i64 6]) ∧ A.Reach B ∧ 500 * A.rooms < s.length ∧ 300 < s.length ∧ PZ E W' P D B (k + (s.length + 10)) ∧ Kept E W W')
theorem record_short (h : PZ E W P D A k) (hs : s.length ≤ 300) :
    Calls Tryz.prog 82 #[.pointer (some ⟨H, 0, none⟩), .string (str s)] W fun e w' => Recorded E W w' P D A k s e := by
  have a1 : Below W.heap.size W (W.alloc (.cells #[.int .u8 0] 5)) := (Below.refl _ _).alloc (Nat.le_refl _) _
  have HC := UK.run_window (P := Tryz.prog) (src := 92) (dst := 9) Tryz.underlying92 Tryz.underlying5 Tryz.underlying9 (new1 W) 0 1 1 (by decide)
  replace HC : (convert 92 9 (.slice (some ⟨W.heap.size, 0, none⟩) 1 1)).run Tryz.prog (W.alloc (.cells #[.int .u8 0] 5)) = .ok (.string (str [0])) (W.alloc (.cells #[.int .u8 0] 5)) := HC
  have HP := Lib.hid (And.intro (h.next a1) (h.kept a1))
  have i1 : (s.length : Int) ≤ 300 := by omega
  have HL := Lib.hid hs
  clear h a1 hs
  go_enter Tryz.func82, Tryz.ntmps82
  go_wp2
  go_ret2
  refine .inl ⟨[], A, ?_, AP.Grown.nil A, ?_, by simp, HP.out.1.up (by omega), HP.out.2⟩
  · unfold recS
    rw [if_pos HL.out] <;> rfl
  · unfold longS
    rw [if_pos HL.out]
set_option maxHeartbeats 1000000 in
set_option maxRecDepth 100000 in
theorem record_long (h : PZ E W P D A k) (hg : A.Good) (hk : k + (s.length + 10) < 900000000) (hb : Box W H (hcells P root)) (hH : E H) (hs : 300 < s.length) (hs2 : s.length ≤ 400000) :
    Calls Tryz.prog 82 #[.pointer (some ⟨H, 0, none⟩), .string (str s)] W fun e w' => Recorded E W w' P D A k s e := by
  have HLK := Lib.hid (links_any h hg hk hb hH hs2)
  have i1 : ¬ (s.length : Int) ≤ 300 := by omega
  have HL := Lib.hid hs
  clear h hb hs
  go_enter Tryz.func82, Tryz.ntmps82
  go_wp2_with fail
  refine HLK.out.mono ?_
  rintro e w1 (⟨ch, B, rfl, q1, q2, q3, q4, q5⟩ | ⟨B, rfl, q1, q2, q4, q5⟩)
  · have a1 : Below w1.heap.size w1 (w1.alloc (.cells (UK.bcells (UK.zeros 9)) 5)) := (Below.refl _ _).alloc (Nat.le_refl _) _
    have HM := make9 w1
    have n9 := new9 w1
    have s9 := n9.set 0 1
    have d9 := n9.cell (i := 0) (by decide)
    have f9 := n9.free (i := 0) (by decide)
    generalize hwa : w1.alloc (.cells (UK.bcells (UK.zeros 9)) 5) = wa at a1 HM n9 s9 d9 f9
    have o9 := (Only.refl w1.heap.size wa).set 0 (.int .u8 ((1 : UInt8).toNat : Int))
    have a2 := a1.trans (o9.below a1.size (Nat.le_refl _))
    have HS := Lib.hid (hsetWord_any s9 1 8 8 (by omega) (by rw [List.length_set, UK.zeros_length]; omega) (by omega) s.length)
    generalize hhd : ch.headD 0 = hd
    have HHD := Lib.hid hhd
    have HQ := Lib.hid (And.intro q1 (And.intro q2 (And.intro q3 (And.intro q4 (And.intro q5 a2)))))
    clear HLK q1 q2 q3 q4 q5 n9 s9 o9 a1 a2 hwa hhd
    go_wp2_with fail
    refine HS.out.mono ?_
    rintro e w2 ⟨rfl, b2, o2⟩
    have HS2 := Lib.hid (hsetWord_any b2 5 4 4 (by omega) (by rw [UK.wr_length _ _ _ (by show 1 + 4 ≤ _; rw [List.length_set, UK.zeros_length]; omega), List.length_set, UK.zeros_length]; omega) (by omega) hd)
    have HO := Lib.hid o2
    clear HS b2 o2 d9 f9
    go_wp2_with fail
    refine HS2.out.mono ?_
    rintro e w3 ⟨rfl, b3, o3⟩
    have e9 : UK.wr (UK.wr ((UK.zeros 9).set 0 1) 1 (putL (w32 s.length))) 5 (putL (w32 hd)) = 1 :: (putL (w32 s.length) ++ putL (w32 hd)) := by
      have := UK.wr_after ((UK.zeros 9).set 0 1) 1 (putL (w32 s.length)) (putL (w32 hd)) (by rw [List.length_set, UK.zeros_length]; omega)
      rw [show 1 + (putL (w32 s.length)).length = 5 from rfl] at this
      rw [this]
      rfl
    rw [e9] at b3
    have HC := UK.run_window (P := Tryz.prog) (src := 92) (dst := 9) Tryz.underlying92 Tryz.underlying5 Tryz.underlying9 b3 0 9 9 (by show 0 + 9 ≤ 9; decide)
    replace HC : (convert 92 9 (.slice (some ⟨w1.heap.size, 0, none⟩) 9 9)).run Tryz.prog w3 = .ok (.string (str (1 :: (putL (w32 s.length) ++ putL (w32 hd))))) w3 := HC
    have HX := Lib.hid (show ∃ B, A.Grown B ch ∧ ChainOf B.c s ch ∧ 500 * ch.length < s.length + 500 ∧ PZ E w3 P D B (k + (s.length + 10)) ∧ Kept E W w3 from by
      obtain ⟨q1, q2, q3, q4, q5, a2⟩ := HQ.out
      have a3 := (a2.trans (HO.out.below a2.size (Nat.le_refl _))).trans (o3.below (Nat.le_trans a2.size HO.out.size) (Nat.le_refl _))
      exact ⟨B, q1, q2, q3, q4.next a3, q5.trans (q4.kept a3)⟩)
    clear HS2 HO HQ b3 o3
    go_wp2
    go_ret2
    obtain ⟨B, q1, q2, q3, q4, q5⟩ := HX.out
    have hn : ¬ s.length ≤ 300 := by have := HL.out; omega
    refine .inl ⟨ch, B, ?_, q1, ?_, q3, q4, q5⟩
    · unfold recS
      rw [if_neg hn, HHD.out] <;> rfl
    · unfold longS
      rw [if_neg hn]; exact q2
  · have HQ := Lib.hid (And.intro q1 (And.intro q2 (And.intro q4 q5)))
    clear HLK q1 q2 q4 q5
    go_wp2
    go_ret2
    obtain ⟨q1, q2, q4, q5⟩ := HQ.out
    exact .inr ⟨B, rfl, q1, q2, HL.out, q4, q5⟩
theorem record_any (h : PZ E W P D A k) (hg : A.Good) (hk : k + (s.length + 10) < 900000000) (hb : Box W H (hcells P root)) (hH : E H) (hs2 : s.length ≤ 400000) :
    Calls Tryz.prog 82 #[.pointer (some ⟨H, 0, none⟩), .string (str s)] W fun e w' => Recorded E W w' P D A k s e := by
  by_cases hs : s.length ≤ 300
  · exact record_short h hs
  · exact record_long h hg hk hb hH (by omega) hs2
end
end Go.Proofs.YtjfkdfffolkblaaGreatDoor
