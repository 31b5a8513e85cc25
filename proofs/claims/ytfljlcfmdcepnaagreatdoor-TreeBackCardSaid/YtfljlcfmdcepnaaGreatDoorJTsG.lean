/-
  The tree: two pages above others side by side are one, or share what they have: the walk.
-/
import Derived.Test.YtfljlcfmdcepnaaGreatDoorJTsF
namespace Go.Proofs.YtfljlcfmdcepnaaGreatDoor
open Go.RowKit
open UK (str BytesAt nth Only Row Box)
open Go.BigFrame
section
variable {W W' : World} {a b Na Ma Nb Mb kc vc ac kd vd ad : Nat} {ka va aa kb vb ab : Option Addr}
theorem boxWin {w : World} {sb : Nat} {v : UInt64} (h : Box w sb #[.int .u64 (v.toNat : Int)]) : Win (fun g => g = sb) w (.slice (some ⟨sb, 0, none⟩) 1 1) (u64s [v]) :=
  ⟨_, 1, rfl, Nat.le_refl _, fun j u hj => ⟨sb, 0, rfl, rfl, by
    cases j with
    | zero => rw [Nat.zero_add]; exact (h.cell 0 _ rfl).trans hj
    | succ j => cases hj⟩⟩
theorem inner_fin_one {w : World} {ks ls K : List UInt64} {cs ds C : List Nat} {g c g2 c2 n m : Nat} {κ : UInt64} (oa : NodeO Na W a ⟨false, ks, [], cs⟩ ka va aa kc vc ac) (hal : a < Ma)
    (bl : Below W.heap.size W w) (r1 : Row w g c (u64s K)) (r2 : Row w g2 c2 (ints C)) (hg : W.heap.size ≤ g) (hg2 : W.heap.size ≤ g2) (eK : K = ks ++ κ :: ls) (eC : C = cs ++ ds) (hn : K.length = n) (hm : C.length = m) (h40 : m ≤ 40) :
    EvenR Na Ma Nb Mb W a b ⟨false, ks, [], cs⟩ ⟨false, ls, [], ds⟩ κ (.returned (.tuple #[.int .u64 0, .bool true])) ((w.setCell ⟨a, 1, none⟩ (.slice (some ⟨g, 0, none⟩) n c)).setCell ⟨a, 3, none⟩ (.slice (some ⟨g2, 0, none⟩) m c2)) := by
  have hla := oa.box.lt
  have xa := oa.box.next bl
  have xa3 := (xa.set 1 (.slice (some ⟨g, 0, none⟩) n c)).set 3 (.slice (some ⟨g2, 0, none⟩) m c2)
  have oA : Only a w ((w.setCell ⟨a, 1, none⟩ (.slice (some ⟨g, 0, none⟩) n c)).setCell ⟨a, 3, none⟩ (.slice (some ⟨g2, 0, none⟩) m c2)) := ((Only.refl a w).set 1 _).set 3 _
  generalize (w.setCell ⟨a, 1, none⟩ (.slice (some ⟨g, 0, none⟩) n c)).setCell ⟨a, 3, none⟩ (.slice (some ⟨g2, 0, none⟩) m c2) = w3 at oA xa3 ⊢
  have ra := r1.only oA (show g ≠ a by omega)
  have rb := r2.only oA (show g2 ≠ a by omega)
  have hs := bl.size
  have hsA := oA.size
  have he : evenN ⟨false, ks, [], cs⟩ ⟨false, ls, [], ds⟩ κ = (⟨false, K, [], C⟩, ⟨false, ls, [], ds⟩, 0, true) := by
    have hl : (cs ++ ds).length ≤ 40 := by rw [← eC, hm]; exact h40
    unfold evenN
    rw [if_neg (by simp)]
    dsimp only
    rw [if_pos hl, eK, eC]
  have wa := winRow (S := fun q => (Na ≤ q ∧ q < Ma) ∨ (Nb ≤ q ∧ q < Mb) ∨ (W.heap.size ≤ q ∧ q < w3.heap.size)) ra (.inr (.inr ⟨hg, ra.lt⟩))
  have wb := winRow (S := fun q => (Na ≤ q ∧ q < Ma) ∨ (Nb ≤ q ∧ q < Mb) ∨ (W.heap.size ≤ q ∧ q < w3.heap.size)) rb (.inr (.inr ⟨hg2, rb.lt⟩))
  rw [u64s_length, hn] at wa
  rw [ints_length, hm] at wb
  unfold EvenR
  rw [he]
  refine ⟨rfl, ⟨_, _, _, xa3, .inl ⟨oa.ge, hal⟩, wa, ⟨va, vc, rfl, Nat.zero_le _, fun j u hj => (by cases hj)⟩, wb⟩, (fun h => by cases h), oA.os.trans bl.os, oA.tape.trans bl.tape, oA.output.trans bl.output, by omega, fun j hj => ?_⟩
  have nA : j ≠ a := fun e => hj.2 (.inl (by rw [e]; exact ⟨oa.ge, hal⟩))
  rw [oA.block j (by omega) nA]
  exact bl.block j hj.1
theorem inner_fin_two {w : World} {ks ls K : List UInt64} {cs ds C : List Nat} {g c g2 c2 h n m : Nat} {κ q : UInt64} (oa : NodeO Na W a ⟨false, ks, [], cs⟩ ka va aa kc vc ac) (hal : a < Ma) (ob : NodeO Nb W b ⟨false, ls, [], ds⟩ kb vb ab kd vd ad) (hbl : b < Mb) (hab : a ≠ b)
    (bl : Below W.heap.size W w) (r1 : Row w g c (u64s K)) (r2 : Row w g2 c2 (ints C)) (hg : W.heap.size ≤ g) (hg2 : W.heap.size ≤ g2) (eK : K = ks ++ κ :: ls) (eC : C = cs ++ ds) (hn : K.length = n) (hm : C.length = m) (hnm : m = n + 1) (h41 : 41 ≤ m) (hh : m / 2 = h) (hq : q = K.getD (h - 1) 0) :
    EvenR Na Ma Nb Mb W a b ⟨false, ks, [], cs⟩ ⟨false, ls, [], ds⟩ κ (.returned (.tuple #[.int .u64 (q.toNat : Int), .bool false])) ((((w.setCell ⟨a, 1, none⟩ (.slice (some ⟨g, 0, none⟩) (h - 1) c)).setCell ⟨a, 3, none⟩ (.slice (some ⟨g2, 0, none⟩) h c2)).setCell ⟨b, 1, none⟩ (.slice (some ⟨g, h, none⟩) (n - h) (c - h))).setCell ⟨b, 3, none⟩ (.slice (some ⟨g2, h, none⟩) (m - h) (c2 - h))).drew ∧
    (((((w.setCell ⟨a, 1, none⟩ (.slice (some ⟨g, 0, none⟩) (h - 1) c)).setCell ⟨a, 3, none⟩ (.slice (some ⟨g2, 0, none⟩) h c2)).setCell ⟨b, 1, none⟩ (.slice (some ⟨g, h, none⟩) (n - h) (c - h))).setCell ⟨b, 3, none⟩ (.slice (some ⟨g2, h, none⟩) (m - h) (c2 - h)))).cell? ⟨g, h - 1, none⟩ = some (.int .u64 (q.toNat : Int)) := by
  have hla := oa.box.lt
  have hlb := ob.box.lt
  have xa := oa.box.next bl
  have xb := ob.box.next bl
  have xa3 := (((xa.set 1 (.slice (some ⟨g, 0, none⟩) (h - 1) c)).set 3 (.slice (some ⟨g2, 0, none⟩) h c2)).only (((Only.refl b _).set 1 (.slice (some ⟨g, h, none⟩) (n - h) (c - h))).set 3 (.slice (some ⟨g2, h, none⟩) (m - h) (c2 - h))).drew hab)
  have oA : Only a w ((w.setCell ⟨a, 1, none⟩ (.slice (some ⟨g, 0, none⟩) (h - 1) c)).setCell ⟨a, 3, none⟩ (.slice (some ⟨g2, 0, none⟩) h c2)) := ((Only.refl a w).set 1 _).set 3 _
  have oB : Only b ((w.setCell ⟨a, 1, none⟩ (.slice (some ⟨g, 0, none⟩) (h - 1) c)).setCell ⟨a, 3, none⟩ (.slice (some ⟨g2, 0, none⟩) h c2)) ((((w.setCell ⟨a, 1, none⟩ (.slice (some ⟨g, 0, none⟩) (h - 1) c)).setCell ⟨a, 3, none⟩ (.slice (some ⟨g2, 0, none⟩) h c2)).setCell ⟨b, 1, none⟩ (.slice (some ⟨g, h, none⟩) (n - h) (c - h))).setCell ⟨b, 3, none⟩ (.slice (some ⟨g2, h, none⟩) (m - h) (c2 - h))).drew := (((Only.refl b _).set 1 _).set 3 _).drew
  have xb3 := boxd (((xb.only oA (Ne.symm hab)).set 1 (.slice (some ⟨g, h, none⟩) (n - h) (c - h))).set 3 (.slice (some ⟨g2, h, none⟩) (m - h) (c2 - h)))
  generalize (w.setCell ⟨a, 1, none⟩ (.slice (some ⟨g, 0, none⟩) (h - 1) c)).setCell ⟨a, 3, none⟩ (.slice (some ⟨g2, 0, none⟩) h c2) = w2 at oA oB xa3 xb3 ⊢
  have hcd : ∀ (u : World) (x : Addr), u.drew.cell? x = u.cell? x := fun u x => rfl
  rw [← hcd]
  generalize ((w2.setCell ⟨b, 1, none⟩ (.slice (some ⟨g, h, none⟩) (n - h) (c - h))).setCell ⟨b, 3, none⟩ (.slice (some ⟨g2, h, none⟩) (m - h) (c2 - h))).drew = w3 at oB xa3 xb3 ⊢
  have ra := (r1.only oA (show g ≠ a by omega)).only oB (show g ≠ b by omega)
  have rb := (r2.only oA (show g2 ≠ a by omega)).only oB (show g2 ≠ b by omega)
  have hs := bl.size
  have hsA := oA.size
  have hsB := oB.size
  have he : evenN ⟨false, ks, [], cs⟩ ⟨false, ls, [], ds⟩ κ = (⟨false, K.take (h - 1), [], C.take h⟩, ⟨false, K.drop h, [], C.drop h⟩, q, false) := by
    have hl2 : (cs ++ ds).length / 2 = h := by rw [← eC, hm]; exact hh
    have hl : ¬ (cs ++ ds).length ≤ 40 := by rw [← eC, hm]; omega
    unfold evenN
    rw [if_neg (by simp)]
    dsimp only
    rw [if_neg hl, hl2, hq, eK, eC]
  have wa := winRow (S := fun q => (Na ≤ q ∧ q < Ma) ∨ (Nb ≤ q ∧ q < Mb) ∨ (W.heap.size ≤ q ∧ q < w3.heap.size)) ra (.inr (.inr ⟨hg, ra.lt⟩))
  have wb := winRow (S := fun q => (Na ≤ q ∧ q < Ma) ∨ (Nb ≤ q ∧ q < Mb) ∨ (W.heap.size ≤ q ∧ q < w3.heap.size)) rb (.inr (.inr ⟨hg2, rb.lt⟩))
  rw [u64s_length, hn] at wa
  rw [ints_length, hm] at wb
  refine ⟨?_, ?_⟩
  · unfold EvenR
    rw [he]
    refine ⟨rfl, ⟨_, _, _, xa3, .inl ⟨oa.ge, hal⟩, ?_, ⟨va, vc, rfl, Nat.zero_le _, fun j u hj => (by cases hj)⟩, ?_⟩, fun _ => ⟨_, _, _, xb3, .inr (.inl ⟨ob.ge, hbl⟩), ?_, ⟨vb, vd, rfl, Nat.zero_le _, fun j u hj => (by cases hj)⟩, ?_⟩, (oB.os.trans oA.os).trans bl.os, (oB.tape.trans oA.tape).trans bl.tape, (oB.output.trans oA.output).trans bl.output, by omega, fun j hj => ?_⟩
    · have := wa.take (h - 1) (by omega)
      rw [u64s_take] at this; exact this
    · have := wb.take h (by omega)
      rw [ints_take] at this; exact this
    · have := wa.drop h (by omega)
      rw [u64s_drop, Nat.zero_add] at this; exact this
    · have := wb.drop h (by omega)
      rw [ints_drop, Nat.zero_add] at this; exact this
    · have nA : j ≠ a := fun e => hj.2 (.inl (by rw [e]; exact ⟨oa.ge, hal⟩))
      have nB : j ≠ b := fun e => hj.2 (.inr (by rw [e]; exact ⟨ob.ge, hbl⟩))
      rw [oB.block j (by omega) nB, oA.block j (by omega) nA]
      exact bl.block j hj.1
  · refine ra.at' (h - 1) _ (u64s_at _ _ _ ?_)
    rw [hq, List.getD_eq_getElem?_getD, List.getElem?_eq_getElem (by omega)]
    rfl
set_option linter.unusedSimpArgs false in
set_option maxHeartbeats 8000000 in
set_option maxRecDepth 100000 in
theorem even_inner {ks ls : List UInt64} {cs ds : List Nat} {h n m : Nat} (ha : NodeM Na Ma W a ⟨false, ks, [], cs⟩ ka va aa kc vc ac) (hb : NodeM Nb Mb W b ⟨false, ls, [], ds⟩ kb vb ab kd vd ad) (hMN : Ma ≤ Nb) (p1 : 0 < ks.length) (p2 : 0 < ls.length) (p3 : 0 < cs.length) (p4 : 0 < ds.length) (hj : ks.length + 1 + ls.length = n) (hjm : cs.length + ds.length = m) (hnm : m = n + 1) (h60 : m ≤ 1000) (hh : m / 2 = h) (κ : UInt64) :
    Calls Tryz.prog 145 #[.pointer (some ⟨a, 0, none⟩), .pointer (some ⟨b, 0, none⟩), .int .u64 κ.toNat] W (EvenR Na Ma Nb Mb W a b ⟨false, ks, [], cs⟩ ⟨false, ls, [], ds⟩ κ) := by
  obtain ⟨oa, hal, hag⟩ := ha
  obtain ⟨ob, hbl, hbg⟩ := hb
  have hab : a ≠ b := by have := ob.ge; omega
  have h1000 : h ≤ 1000 := by omega
  have hdv : (m : Int) / 2 = (h : Int) := by omega
  have hdv2 : Int.tdiv (m : Int) 2 = (h : Int) := by rw [Int.tdiv_eq_ediv_of_nonneg (Int.natCast_nonneg m)]; exact hdv
  have a0 : W.cell? ⟨a, 0, none⟩ = some (.bool false) := oa.box.cell 0 _ rfl
  have hSO : ∀ w, Below W.heap.size W w → w.cell? ⟨a, 1, none⟩ = some (.slice ka ks.length kc) ∧ w.cell? ⟨b, 1, none⟩ = some (.slice kb ls.length kd) ∧ w.cell? ⟨a, 3, none⟩ = some (.slice aa cs.length ac) ∧ w.cell? ⟨b, 3, none⟩ = some (.slice ab ds.length ad) := fun w bl => ⟨(oa.box.next bl).cell 1 _ rfl, (ob.box.next bl).cell 1 _ rfl, (oa.box.next bl).cell 3 _ rfl, (ob.box.next bl).cell 3 _ rfl⟩
  have wa : Win (slB ka) W (.slice ka ks.length kc) (u64s ks) := by have := oa.k.win (S := slB ka) (fun _ h => h); rw [u64s_length] at this; exact this
  have wv : Win (slB aa) W (.slice aa cs.length ac) (ints cs) := by have := oa.a.win (S := slB aa) (fun _ h => h); rw [ints_length] at this; exact this
  have wb : Win (slB kb) W (.slice kb ls.length kd) (u64s ls) := by have := ob.k.win (S := slB kb) (fun _ h => h); rw [u64s_length] at this; exact this
  have ww : Win (slB ab) W (.slice ab ds.length ad) (ints ds) := by have := ob.a.win (S := slB ab) (fun _ h => h); rw [ints_length] at this; exact this
  have HC1 := Lib.hid (fun (w : World) (bl : Below W.heap.size W w) => (show Calls Tryz.prog 143 #[.slice ka ks.length kc] w (ClonedU w ks) from clone_u64 (wa.below bl (fun _ h => oa.k.lt h)) (fun g hg => Nat.lt_of_lt_of_le (oa.k.lt hg) bl.size) p1 (by omega)))
  have HC2 := Lib.hid (fun (w : World) (bl : Below W.heap.size W w) => (show Calls Tryz.prog 144 #[.slice aa cs.length ac] w (ClonedI w cs) from clone_int (wv.below bl (fun _ h => oa.a.lt h)) (fun g hg => Nat.lt_of_lt_of_le (oa.a.lt hg) bl.size) p3 (by omega)))
  have HA0 := Lib.hid (fun (w : World) (g0 c0 sb : Nat) (bl : Below W.heap.size W w) (r0 : Row w g0 c0 (u64s ks)) (hg0 : W.heap.size ≤ g0) (hb : Box w sb #[.int .u64 (κ.toNat : Int)]) => (show ∃ g c w1, (Builtin.append_ #[52, 52] 52 #[.slice (some ⟨g0, 0, none⟩) ks.length c0, .slice (some ⟨sb, 0, none⟩) 1 1]).run Tryz.prog w = .ok (.slice (some ⟨g, 0, none⟩) (ks.length + 1) c) w1 ∧ Row w1 g c (u64s (ks ++ [κ])) ∧ W.heap.size ≤ g ∧ Below W.heap.size w w1 from
    catb_u64 (vs := [κ]) r0 (boxWin hb) hg0 bl.size (Nat.zero_lt_one) (by rw [List.length_singleton]; omega)))
  have HA1 := Lib.hid (fun (w : World) (g0 c0 : Nat) (bl : Below W.heap.size W w) (r0 : Row w g0 c0 (u64s (ks ++ [κ]))) (hg0 : W.heap.size ≤ g0) => (show ∃ g c w1, (Builtin.append_ #[52, 52] 52 #[.slice (some ⟨g0, 0, none⟩) (ks.length + 1) c0, .slice kb ls.length kd]).run Tryz.prog w = .ok (.slice (some ⟨g, 0, none⟩) n c) w1 ∧ Row w1 g c (u64s (ks ++ κ :: ls)) ∧ W.heap.size ≤ g ∧ Below W.heap.size w w1 from by
    have := catb_u64 r0 (wb.below bl (fun _ h => ob.k.lt h)) hg0 bl.size p2 (by rw [List.length_append, List.length_singleton]; omega)
    rw [List.length_append, List.length_singleton, hj, List.append_assoc] at this
    exact this))
  have HA2 := Lib.hid (fun (w w' : World) (bl : Below W.heap.size W w) (g0 c0 : Nat) (bl' : Below w.heap.size w w') (r0 : Row w' g0 c0 (ints cs)) (hg0 : w.heap.size ≤ g0) => (show ∃ g c w1, (Builtin.append_ #[82, 82] 82 #[.slice (some ⟨g0, 0, none⟩) cs.length c0, .slice ab ds.length ad]).run Tryz.prog w' = .ok (.slice (some ⟨g, 0, none⟩) m c) w1 ∧ Row w1 g c (ints (cs ++ ds)) ∧ w.heap.size ≤ g ∧ Below w.heap.size w' w1 from by
    have := catb_int r0 (ww.below (bl.trans (bl'.mono bl.size)) (fun _ h => ob.a.lt h)) hg0 bl'.size p4 (by omega)
    rw [hjm] at this
    exact this))
  have HE := Lib.hid (And.intro oa (And.intro hal (And.intro ob (And.intro hbl (And.intro hab (And.intro hj (And.intro hjm (And.intro hnm (And.intro hh (And.intro h60 h1000))))))))))
  have HW := Lib.hid (And.intro hdv hdv2)
  clear hag hbg oa ob wa wv wb ww hMN hal hbl p1 p2 p3 p4 hh h60 hj hjm hnm hdv hdv2 h1000
  go_enter Tryz.func145, Tryz.ntmps145
  go_wp2_with fail
  have bl : Below W.heap.size W W.drew := (Below.refl _ _).drew
  go_upto_region 9 with (fail)
  go_cut [11, 12] (fun x11 x12 wx => ∃ g c g2 c2, x11 = .slice (some ⟨g, 0, none⟩) n c ∧ x12 = .slice (some ⟨g2, 0, none⟩) m c2 ∧ Row wx g c (u64s (ks ++ κ :: ls)) ∧ Row wx g2 c2 (ints (cs ++ ds)) ∧ W.heap.size ≤ g ∧ W.heap.size ≤ g2 ∧ Below W.heap.size W wx)
  case first =>
    have hS1 := hSO _ bl
    refine wp_region_any (by kernel_rfl) ?_
    refine wpAny_take (i := 0) (v := ?va0) rfl (by kernel_rfl) (by kernel_rfl) (by kernel_rfl) (fun _ _ _ h => h) (Or.inl ⟨by rfl, ?hya0⟩) ?resta0
    case hya0 => (intro w; go_simp; try with_reducible rfl)
    try simp only [Act.put, List.setIfInBounds_toArray, List.set_cons_zero, List.set_cons_succ]
    refine wpAny_take (i := 1) (v := ?va1) rfl (by kernel_rfl) (by kernel_rfl) (by kernel_rfl) (fun _ _ _ h => h) (Or.inl ⟨by rfl, ?hya1⟩) ?resta1
    case hya1 => (intro w; go_simp; try with_reducible rfl)
    try simp only [Act.put, List.setIfInBounds_toArray, List.set_cons_zero, List.set_cons_succ]
    refine wpAny_take (i := 2) (v := ?va2) rfl (by kernel_rfl) (by kernel_rfl) (by kernel_rfl) (fun _ _ _ h => h) (Or.inl ⟨by rfl, ?hya2⟩) ?resta2
    case hya2 => (intro w; go_simp; try with_reducible rfl)
    try simp only [Act.put, List.setIfInBounds_toArray, List.set_cons_zero, List.set_cons_succ]
    refine wpAny_take (i := 5) (v := ?va5) rfl (by kernel_rfl) (by kernel_rfl) (by kernel_rfl) (fun _ _ _ h => h) (Or.inl ⟨by rfl, ?hya5⟩) ?resta5
    case hya5 => (intro w; go_simp; try with_reducible rfl)
    try simp only [Act.put, List.setIfInBounds_toArray, List.set_cons_zero, List.set_cons_succ]
    refine wpAny_take (i := 8) (v := ?va8) rfl (by kernel_rfl) (by kernel_rfl) (by kernel_rfl) (fun _ _ _ h => h) (Or.inl ⟨by rfl, ?hya8⟩) ?resta8
    case hya8 => (intro w; go_simp; try with_reducible rfl)
    try simp only [Act.put, List.setIfInBounds_toArray, List.set_cons_zero, List.set_cons_succ]
    refine wpAny_take (i := 9) (v := ?va9) rfl (by kernel_rfl) (by kernel_rfl) (by kernel_rfl) (fun _ _ _ h => h) (Or.inl ⟨by rfl, ?hya9⟩) ?resta9
    case hya9 => (intro w; go_simp; try with_reducible rfl)
    try simp only [Act.put, List.setIfInBounds_toArray, List.set_cons_zero, List.set_cons_succ]
    refine wpAny_take (i := 10) (v := ?va10) rfl (by kernel_rfl) (by kernel_rfl) (by kernel_rfl) (fun _ _ _ h => h) (Or.inl ⟨by rfl, ?hya10⟩) ?resta10
    case hya10 => (intro w; go_simp; try with_reducible rfl)
    try simp only [Act.put, List.setIfInBounds_toArray, List.set_cons_zero, List.set_cons_succ]
    refine wpAny_take (i := 13) (v := ?va13) rfl (by kernel_rfl) (by kernel_rfl) (by kernel_rfl) (fun _ _ _ h => h) (Or.inl ⟨by rfl, ?hya13⟩) ?resta13
    case hya13 => (intro w; go_simp; try with_reducible rfl)
    try simp only [Act.put, List.setIfInBounds_toArray, List.set_cons_zero, List.set_cons_succ]
    refine wpAny_take (i := 14) (v := ?va14) rfl (by kernel_rfl) (by kernel_rfl) (by kernel_rfl) (fun _ _ _ h => h) (Or.inl ⟨by rfl, ?hya14⟩) ?resta14
    case hya14 => (intro w; go_simp; try with_reducible rfl)
    try simp only [Act.put, List.setIfInBounds_toArray, List.set_cons_zero, List.set_cons_succ]
    refine wpAny_take (i := 15) (v := ?va15) rfl (by kernel_rfl) (by kernel_rfl) (by kernel_rfl) (fun _ _ _ h => h) (Or.inl ⟨by rfl, ?hya15⟩) ?resta15
    case hya15 => (intro w; go_simp; try with_reducible rfl)
    try simp only [Act.put, List.setIfInBounds_toArray, List.set_cons_zero, List.set_cons_succ]
    refine wpAny_take (i := 18) (v := ?va18) rfl (by kernel_rfl) (by kernel_rfl) (by kernel_rfl) (fun _ _ _ h => h) (Or.inl ⟨by rfl, ?hya18⟩) ?resta18
    case hya18 => (intro w; go_simp; try with_reducible rfl)
    try simp only [Act.put, List.setIfInBounds_toArray, List.set_cons_zero, List.set_cons_succ]
    refine wpAny_take (i := 19) (v := ?va19) rfl (by kernel_rfl) (by kernel_rfl) (by kernel_rfl) (fun _ _ _ h => h) (Or.inl ⟨by rfl, ?hya19⟩) ?resta19
    case hya19 => (intro w; go_simp; try with_reducible rfl)
    try simp only [Act.put, List.setIfInBounds_toArray, List.set_cons_zero, List.set_cons_succ]
    refine wpAny_take (i := 20) (v := ?va20) rfl (by kernel_rfl) (by kernel_rfl) (by kernel_rfl) (fun _ _ _ h => h) (Or.inl ⟨by rfl, ?hya20⟩) ?resta20
    case hya20 => (intro w; go_simp; try with_reducible rfl)
    try simp only [Act.put, List.setIfInBounds_toArray, List.set_cons_zero, List.set_cons_succ]
    have hS0 : (fun w' : World => w'.cell? ⟨a, 1, none⟩ = some (.slice ka ks.length kc) ∧ w'.cell? ⟨b, 1, none⟩ = some (.slice kb ls.length kd) ∧ w'.cell? ⟨a, 3, none⟩ = some (.slice aa cs.length ac) ∧ w'.cell? ⟨b, 3, none⟩ = some (.slice ab ds.length ad)) W.drew := hS1
    refine wpAny_of_late (S := fun w' => w'.cell? ⟨a, 1, none⟩ = some (.slice ka ks.length kc) ∧ w'.cell? ⟨b, 1, none⟩ = some (.slice kb ls.length kd) ∧ w'.cell? ⟨a, 3, none⟩ = some (.slice aa cs.length ac) ∧ w'.cell? ⟨b, 3, none⟩ = some (.slice ab ds.length ad)) (late := fun j => decide (99 ≤ j)) _ _ _ _ ?_
    change wpLate _ _ _ _ _ _ _ _ _ (W.drew)
    refine wpLate_take (i := 3) (v := ?va3) rfl (by kernel_rfl) (by kernel_rfl) (by kernel_rfl) (by kernel_rfl) (fun _ _ _ h => h) hS0 (by rfl) ?hya3 ?resta3
    case hya3 => (intro w hSw; (try dsimp only at hSw); go_simp; try with_reducible rfl)
    try simp only [Act.put, List.setIfInBounds_toArray, List.set_cons_zero, List.set_cons_succ]
    refine wpLate_take (i := 11) (v := ?va11) rfl (by kernel_rfl) (by kernel_rfl) (by kernel_rfl) (by kernel_rfl) (fun _ _ _ h => h) hS0 (by rfl) ?hya11 ?resta11
    case hya11 => (intro w hSw; (try dsimp only at hSw); go_simp; try with_reducible rfl)
    try simp only [Act.put, List.setIfInBounds_toArray, List.set_cons_zero, List.set_cons_succ]
    refine wpLate_take (i := 16) (v := ?va16) rfl (by kernel_rfl) (by kernel_rfl) (by kernel_rfl) (by kernel_rfl) (fun _ _ _ h => h) hS0 (by rfl) ?hya16 ?resta16
    case hya16 => (intro w hSw; (try dsimp only at hSw); go_simp; try with_reducible rfl)
    try simp only [Act.put, List.setIfInBounds_toArray, List.set_cons_zero, List.set_cons_succ]
    refine wpLate_take (i := 21) (v := ?va21) rfl (by kernel_rfl) (by kernel_rfl) (by kernel_rfl) (by kernel_rfl) (fun _ _ _ h => h) hS0 (by rfl) ?hya21 ?resta21
    case hya21 => (intro w hSw; (try dsimp only at hSw); go_simp; try with_reducible rfl)
    try simp only [Act.put, List.setIfInBounds_toArray, List.set_cons_zero, List.set_cons_succ]
    clear hS0
    refine wpLate_two (i := 4) (j := 6) (by kernel_rfl) rfl rfl (fun K hK => ?_) (fun K hK => ?_)
    · go_simp
      refine (HC1.out _ bl).mono ?_
      rintro e w4 ⟨g0, c0, rfl, r4, hg4, bl4'⟩
      (try dsimp only)
      have bl4 : Below W.heap.size W w4 := bl.trans (bl4'.mono bl.size)
      refine hK.out _ _ (fun _ => hSO _ bl4) ?_
      clear hK K
      try simp only [Act.put, List.setIfInBounds_toArray, List.set_cons_zero, List.set_cons_succ]
      refine wpLate_one (i := 6) (by kernel_rfl) rfl (fun K hK => ?_)
      go_simp
      have bl6 : Below W.heap.size W (w4.alloc (.cells #[.int .u64 (κ.toNat : Int)] 23)) := bl4.alloc bl4.size _
      have b6 : Box (w4.alloc (.cells #[.int .u64 (κ.toNat : Int)] 23)) w4.heap.size #[.int .u64 (κ.toNat : Int)] := box_at rfl
      have bw6 : Below w4.heap.size w4 (w4.alloc (.cells #[.int .u64 (κ.toNat : Int)] 23)) := (Below.refl _ _).alloc (Nat.le_refl _) _
      obtain ⟨g7, c7, w7, e7, r7, hg7, bl7'⟩ := HA0.out _ g0 c0 w4.heap.size bl6 (r4.of_block bw6.size (bw6.block _ r4.lt)) (Nat.le_trans bl.size hg4) b6
      refine hK.out _ _ (fun _ => hSO _ bl6) ?_
      clear hK K
      try simp only [Act.put, List.setIfInBounds_toArray, List.set_cons_zero, List.set_cons_succ]
      refine wpLate_one (i := 7) (by kernel_rfl) rfl (fun K hK => ?_)
      refine UK.step_append_run e7 rfl rfl rfl (by simp [Act.eval]) (by simp [Act.eval]) ?_
      have bl7 : Below W.heap.size W w7 := bl6.trans bl7'
      obtain ⟨g, c, w12, e12, r12, hg12, bl12'⟩ := HA1.out _ g7 c7 bl7 r7 hg7
      have bl12 : Below W.heap.size W w12 := bl7.trans bl12'
      refine hK.out _ _ (fun _ => hSO _ bl7) ?_
      clear hK K
      try simp only [Act.put, List.setIfInBounds_toArray, List.set_cons_zero, List.set_cons_succ]
      refine wpLate_one (i := 12) (by kernel_rfl) rfl (fun K hK => ?_)
      refine UK.step_append_run e12 rfl rfl rfl (by simp [Act.eval]) (by simp [Act.eval]) ?_
      refine hK.out _ _ (fun _ => hSO _ bl12) ?_
      clear hK K
      try simp only [Act.put, List.setIfInBounds_toArray, List.set_cons_zero, List.set_cons_succ]
      refine wpLate_one (i := 17) (by kernel_rfl) rfl (fun K hK => ?_)
      go_simp
      refine (HC2.out _ bl12).mono ?_
      rintro e w17 ⟨g1, c1, rfl, r1, hg1, bl17⟩
      (try dsimp only)
      have bl17x : Below W.heap.size W w17 := bl12.trans (bl17.mono bl12.size)
      obtain ⟨g2, c2, w22, e22, r22, hg22, bl22⟩ := HA2.out _ _ bl12 g1 c1 bl17 r1 hg1
      have bl22x : Below W.heap.size W w22 := bl17x.trans (bl22.mono bl12.size)
      refine hK.out _ _ (fun _ => hSO _ bl17x) ?_
      clear hK K
      try simp only [Act.put, List.setIfInBounds_toArray, List.set_cons_zero, List.set_cons_succ]
      refine wpLate_one (i := 22) (by kernel_rfl) rfl (fun K hK => ?_)
      refine UK.step_append_run e22 rfl rfl rfl (by simp [Act.eval]) (by simp [Act.eval]) ?_
      refine hK.out _ _ (fun _ => hSO _ bl22x) ?_
      clear hK K
      try simp only [Act.put, List.setIfInBounds_toArray, List.set_cons_zero, List.set_cons_succ]
      refine wpLate_one (i := 23) (by kernel_rfl) rfl (fun K hK => ?_)
      go_simp
      refine hK.out _ _ (fun _ => hSO _ bl22x) ?_
      clear hK K
      try simp only [Act.put, List.setIfInBounds_toArray, List.set_cons_zero, List.set_cons_succ]
      refine wpLate_one (i := 24) (by kernel_rfl) rfl (fun K hK => ?_)
      go_simp
      refine hK.out _ _ (fun _ => hSO _ bl22x) ?_
      clear hK K
      try simp only [Act.put, List.setIfInBounds_toArray, List.set_cons_zero, List.set_cons_succ]
      refine wpLate_done (by kernel_rfl) ?_ _
      go_wp2_with fail
      go_meet
      case rel =>
        exact ⟨g, c, g2, c2, rfl, rfl, r12.of_block (Nat.le_trans bl17.size bl22.size) ((bl22.block _ r12.lt).trans (bl17.block _ r12.lt)), r22, hg12, Nat.le_trans bl12.size hg22, bl22x⟩
    · go_simp
      have bl6' : Below W.heap.size W (W.drew.alloc (.cells #[.int .u64 (κ.toNat : Int)] 23)) := bl.alloc bl.size _
      have b6' : Box (W.drew.alloc (.cells #[.int .u64 (κ.toNat : Int)] 23)) W.drew.heap.size #[.int .u64 (κ.toNat : Int)] := box_at rfl
      refine hK.out _ _ (fun _ => hSO _ bl6') ?_
      clear hK K
      try simp only [Act.put, List.setIfInBounds_toArray, List.set_cons_zero, List.set_cons_succ]
      refine wpLate_one (i := 4) (by kernel_rfl) rfl (fun K hK => ?_)
      go_simp
      refine (HC1.out _ bl6').mono ?_
      rintro e w4 ⟨g0, c0, rfl, r4, hg4, bl4'⟩
      (try dsimp only)
      have bl6 : Below W.heap.size W w4 := bl6'.trans (bl4'.mono bl6'.size)
      have b6 := b6'.of_block (bl4'.block _ b6'.lt)
      obtain ⟨g7, c7, w7, e7, r7, hg7, bl7'⟩ := HA0.out _ g0 c0 W.drew.heap.size bl6 r4 (Nat.le_trans bl6'.size hg4) b6
      refine hK.out _ _ (fun _ => hSO _ bl6) ?_
      clear hK K
      try simp only [Act.put, List.setIfInBounds_toArray, List.set_cons_zero, List.set_cons_succ]
      refine wpLate_one (i := 7) (by kernel_rfl) rfl (fun K hK => ?_)
      refine UK.step_append_run e7 rfl rfl rfl (by simp [Act.eval]) (by simp [Act.eval]) ?_
      have bl7 : Below W.heap.size W w7 := bl6.trans bl7'
      obtain ⟨g, c, w12, e12, r12, hg12, bl12'⟩ := HA1.out _ g7 c7 bl7 r7 hg7
      have bl12 : Below W.heap.size W w12 := bl7.trans bl12'
      refine hK.out _ _ (fun _ => hSO _ bl7) ?_
      clear hK K
      try simp only [Act.put, List.setIfInBounds_toArray, List.set_cons_zero, List.set_cons_succ]
      refine wpLate_one (i := 12) (by kernel_rfl) rfl (fun K hK => ?_)
      refine UK.step_append_run e12 rfl rfl rfl (by simp [Act.eval]) (by simp [Act.eval]) ?_
      refine hK.out _ _ (fun _ => hSO _ bl12) ?_
      clear hK K
      try simp only [Act.put, List.setIfInBounds_toArray, List.set_cons_zero, List.set_cons_succ]
      refine wpLate_one (i := 17) (by kernel_rfl) rfl (fun K hK => ?_)
      go_simp
      refine (HC2.out _ bl12).mono ?_
      rintro e w17 ⟨g1, c1, rfl, r1, hg1, bl17⟩
      (try dsimp only)
      have bl17x : Below W.heap.size W w17 := bl12.trans (bl17.mono bl12.size)
      obtain ⟨g2, c2, w22, e22, r22, hg22, bl22⟩ := HA2.out _ _ bl12 g1 c1 bl17 r1 hg1
      have bl22x : Below W.heap.size W w22 := bl17x.trans (bl22.mono bl12.size)
      refine hK.out _ _ (fun _ => hSO _ bl17x) ?_
      clear hK K
      try simp only [Act.put, List.setIfInBounds_toArray, List.set_cons_zero, List.set_cons_succ]
      refine wpLate_one (i := 22) (by kernel_rfl) rfl (fun K hK => ?_)
      refine UK.step_append_run e22 rfl rfl rfl (by simp [Act.eval]) (by simp [Act.eval]) ?_
      refine hK.out _ _ (fun _ => hSO _ bl22x) ?_
      clear hK K
      try simp only [Act.put, List.setIfInBounds_toArray, List.set_cons_zero, List.set_cons_succ]
      refine wpLate_one (i := 23) (by kernel_rfl) rfl (fun K hK => ?_)
      go_simp
      refine hK.out _ _ (fun _ => hSO _ bl22x) ?_
      clear hK K
      try simp only [Act.put, List.setIfInBounds_toArray, List.set_cons_zero, List.set_cons_succ]
      refine wpLate_one (i := 24) (by kernel_rfl) rfl (fun K hK => ?_)
      go_simp
      refine hK.out _ _ (fun _ => hSO _ bl22x) ?_
      clear hK K
      try simp only [Act.put, List.setIfInBounds_toArray, List.set_cons_zero, List.set_cons_succ]
      refine wpLate_done (by kernel_rfl) ?_ _
      go_wp2_with fail
      go_meet
      case rel =>
        exact ⟨g, c, g2, c2, rfl, rfl, r12.of_block (Nat.le_trans bl17.size bl22.size) ((bl22.block _ r12.lt).trans (bl17.block _ r12.lt)), r22, hg12, Nat.le_trans bl12.size hg22, bl22x⟩
  case rest =>
    obtain ⟨g, c, g2, c2, rfl, rfl, r1, r2, hg, hg2, bl2⟩ := hcut
    obtain ⟨oa, hal, ob, hbl, hab, hj, hjm, hnm, hh, h60, h1000⟩ := HE.out
    have eK : (ks ++ κ :: ls).length = n := by rw [List.length_append, List.length_cons]; omega
    have eC : (cs ++ ds).length = m := by rw [List.length_append]; exact hjm
    have xa := oa.box.next bl2
    have xb := ob.box.next bl2
    have q1 := xa.cell 1 _ rfl
    have q2 := xa.cell 3 _ rfl
    have q3 := xb.cell 1 _ rfl
    have q4 := xb.cell 3 _ rfl
    have f1 := xa.free 1
    have f2 := xa.free 3
    have f3 := xb.free 1
    have f4 := xb.free 3
    by_cases h40 : m ≤ 40
    · have fin := inner_fin_one (b := b) (Nb := Nb) (Mb := Mb) (ls := ls) (ds := ds) (κ := κ) oa hal bl2 r1 r2 hg hg2 rfl rfl eK eC h40
      have HF := Lib.hid fin
      have d40 : (m : Int) ≤ 40 := Int.ofNat_le.2 h40
      clear fin oa ob hal hbl hj hjm hnm hh h60 h1000 eK eC xa xb r1 r2 bl2 hg hg2 bl hSO HC1 HC2 HA0 HA1 HA2 HE h40 HW
      go_wp2_with fail
      go_ret2
      exact HF.out
    · obtain ⟨q, hq⟩ : ∃ q : UInt64, q = (ks ++ κ :: ls).getD (h - 1) 0 := ⟨_, rfl⟩
      obtain ⟨fin, cq⟩ := inner_fin_two (κ := κ) (Ma := Ma) (Mb := Mb) oa hal ob hbl hab bl2 r1 r2 hg hg2 rfl rfl eK eC hnm (by omega) hh hq
      have hc1 : n ≤ c := by have := r1.le; rw [u64s_length, eK] at this; exact this
      have hc2 : m ≤ c2 := by have := r2.le; rw [ints_length, eC] at this; exact this
      have h20 : 20 ≤ h := by omega
      have hhn : h < n := by omega
      have hhm : h < m := by omega
      have HF := Lib.hid fin
      have HCQ := Lib.hid cq
      have n40 : ¬ (m : Int) ≤ 40 := by omega
      have i1 : (h : Int) ≤ (c : Int) := Int.ofNat_le.2 (by omega)
      have i2 : (h : Int) ≤ (c2 : Int) := Int.ofNat_le.2 (by omega)
      have i3 : (h : Int) ≤ (n : Int) := Int.ofNat_le.2 (by omega)
      have i3m : (h : Int) ≤ (m : Int) := Int.ofNat_le.2 (by omega)
      have i5 : ¬ (c = h) := by omega
      have i6 : ¬ (c2 = h) := by omega
      have i7 : ((h - 1 : Nat) : Int) ≤ (c : Int) := Int.ofNat_le.2 (by omega)
      have i8 : ((h - 1 : Nat) : Int) < (n : Int) := Int.ofNat_lt.2 (by omega)
      have i9 : (0 : Int) ≤ ((h - 1 : Nat) : Int) := Int.natCast_nonneg _
      have i10 : h - 1 < n := by omega
      have hm1 : (h : Int) - 1 = ((h - 1 : Nat) : Int) := (Int.ofNat_sub (show 1 ≤ h by omega)).symm
      have l1 : h - 1 ≤ 1000 := by omega
      have w2 : wrap64 ((h - 1 : Nat) : Int) = ((h - 1 : Nat) : Int) := wrap64_lt _ l1
      have w1 : wrap64 ((h : Int) - 1) = ((h - 1 : Nat) : Int) := by rw [hm1]; exact w2
      have w3 : IntKind.i64.wrap ((h : Int) - 1) = ((h - 1 : Nat) : Int) := by rw [hm1]; exact wrapk_lt _ l1
      have w4 : wrap64 (h : Int) = (h : Int) := wrap64_lt _ h1000
      have w5 : IntKind.i64.wrap (h : Int) = (h : Int) := wrapk_lt _ h1000
      obtain ⟨hdv, hdv2⟩ := HW.out
      clear hm1 l1 fin cq oa ob hal hbl hj hjm hnm hh h60 h1000 eK eC xa xb r1 r2 bl2 hg hg2 bl hSO HC1 HC2 HA0 HA1 HA2 HE h40 HW hq hc1 hc2 h20
      go_wp2_with fail
      refine wp_region_any (by kernel_rfl) ?_
      refine wpAny_take (i := 0) (v := ?vb0) rfl (by kernel_rfl) (by kernel_rfl) (by kernel_rfl) (fun _ _ _ h => h) (Or.inl ⟨by rfl, ?hyb0⟩) ?restb0
      case hyb0 => (intro w; go_simp; try with_reducible rfl)
      try simp only [Act.put, List.setIfInBounds_toArray, List.set_cons_zero, List.set_cons_succ]
      refine wpAny_take (i := 1) (v := ?vb1) rfl (by kernel_rfl) (by kernel_rfl) (by kernel_rfl) (fun _ _ _ h => h) (Or.inl ⟨by rfl, ?hyb1⟩) ?restb1
      case hyb1 => (intro w; go_simp; try with_reducible rfl)
      try simp only [Act.put, List.setIfInBounds_toArray, List.set_cons_zero, List.set_cons_succ]
      refine wpAny_take (i := 2) (v := ?vb2) rfl (by kernel_rfl) (by kernel_rfl) (by kernel_rfl) (fun _ _ _ h => h) (Or.inl ⟨by rfl, ?hyb2⟩) ?restb2
      case hyb2 => (intro w; go_simp; try with_reducible rfl)
      try simp only [Act.put, List.setIfInBounds_toArray, List.set_cons_zero, List.set_cons_succ]
      refine wpAny_take (i := 3) (v := ?vb3) rfl (by kernel_rfl) (by kernel_rfl) (by kernel_rfl) (fun _ _ _ h => h) (Or.inl ⟨by rfl, ?hyb3⟩) ?restb3
      case hyb3 => (intro w; go_simp; try with_reducible rfl)
      try simp only [Act.put, List.setIfInBounds_toArray, List.set_cons_zero, List.set_cons_succ]
      refine wpAny_take (i := 4) (v := ?vb4) rfl (by kernel_rfl) (by kernel_rfl) (by kernel_rfl) (fun _ _ _ h => h) (Or.inl ⟨by rfl, ?hyb4⟩) ?restb4
      case hyb4 => (intro w; go_simp; try with_reducible rfl)
      try simp only [Act.put, List.setIfInBounds_toArray, List.set_cons_zero, List.set_cons_succ]
      refine wpAny_take (i := 5) (v := ?vb5) rfl (by kernel_rfl) (by kernel_rfl) (by kernel_rfl) (fun _ _ _ h => h) (Or.inl ⟨by rfl, ?hyb5⟩) ?restb5
      case hyb5 => (intro w; go_simp; try with_reducible rfl)
      try simp only [Act.put, List.setIfInBounds_toArray, List.set_cons_zero, List.set_cons_succ]
      refine wpAny_take (i := 6) (v := ?vb6) rfl (by kernel_rfl) (by kernel_rfl) (by kernel_rfl) (fun _ _ _ h => h) (Or.inl ⟨by rfl, ?hyb6⟩) ?restb6
      case hyb6 => (intro w; go_simp; try with_reducible rfl)
      try simp only [Act.put, List.setIfInBounds_toArray, List.set_cons_zero, List.set_cons_succ]
      refine wpAny_take (i := 7) (v := ?vb7) rfl (by kernel_rfl) (by kernel_rfl) (by kernel_rfl) (fun _ _ _ h => h) (Or.inl ⟨by rfl, ?hyb7⟩) ?restb7
      case hyb7 => (intro w; go_simp; try with_reducible rfl)
      try simp only [Act.put, List.setIfInBounds_toArray, List.set_cons_zero, List.set_cons_succ]
      refine wpAny_take (i := 8) (v := ?vb8) rfl (by kernel_rfl) (by kernel_rfl) (by kernel_rfl) (fun _ _ _ h => h) (Or.inl ⟨by rfl, ?hyb8⟩) ?restb8
      case hyb8 => (intro w; go_simp; try with_reducible rfl)
      try simp only [Act.put, List.setIfInBounds_toArray, List.set_cons_zero, List.set_cons_succ]
      refine wpAny_take (i := 9) (v := ?vb9) rfl (by kernel_rfl) (by kernel_rfl) (by kernel_rfl) (fun _ _ _ h => h) (Or.inl ⟨by rfl, ?hyb9⟩) ?restb9
      case hyb9 => (intro w; go_simp; try with_reducible rfl)
      try simp only [Act.put, List.setIfInBounds_toArray, List.set_cons_zero, List.set_cons_succ]
      refine wpAny_take (i := 10) (v := ?vb10) rfl (by kernel_rfl) (by kernel_rfl) (by kernel_rfl) (fun _ _ _ h => h) (Or.inl ⟨by rfl, ?hyb10⟩) ?restb10
      case hyb10 => (intro w; go_simp; try with_reducible rfl)
      try simp only [Act.put, List.setIfInBounds_toArray, List.set_cons_zero, List.set_cons_succ]
      refine wpAny_take (i := 11) (v := ?vb11) rfl (by kernel_rfl) (by kernel_rfl) (by kernel_rfl) (fun _ _ _ h => h) (Or.inl ⟨by rfl, ?hyb11⟩) ?restb11
      case hyb11 => (intro w; go_simp; try with_reducible rfl)
      try simp only [Act.put, List.setIfInBounds_toArray, List.set_cons_zero, List.set_cons_succ]
      refine wpAny_take (i := 12) (v := ?vb12) rfl (by kernel_rfl) (by kernel_rfl) (by kernel_rfl) (fun _ _ _ h => h) (Or.inl ⟨by rfl, ?hyb12⟩) ?restb12
      case hyb12 => (intro w; go_simp; try with_reducible rfl)
      try simp only [Act.put, List.setIfInBounds_toArray, List.set_cons_zero, List.set_cons_succ]
      refine wpAny_take (i := 13) (v := ?vb13) rfl (by kernel_rfl) (by kernel_rfl) (by kernel_rfl) (fun _ _ _ h => h) (Or.inl ⟨by rfl, ?hyb13⟩) ?restb13
      case hyb13 => (intro w; go_simp; try with_reducible rfl)
      try simp only [Act.put, List.setIfInBounds_toArray, List.set_cons_zero, List.set_cons_succ]
      refine wpAny_take (i := 14) (v := ?vb14) rfl (by kernel_rfl) (by kernel_rfl) (by kernel_rfl) (fun _ _ _ h => h) (Or.inl ⟨by rfl, ?hyb14⟩) ?restb14
      case hyb14 => (intro w; go_simp; try with_reducible rfl)
      try simp only [Act.put, List.setIfInBounds_toArray, List.set_cons_zero, List.set_cons_succ]
      refine wpAny_take (i := 15) (v := ?vb15) rfl (by kernel_rfl) (by kernel_rfl) (by kernel_rfl) (fun _ _ _ h => h) (Or.inl ⟨by rfl, ?hyb15⟩) ?restb15
      case hyb15 => (intro w; go_simp; try with_reducible rfl)
      try simp only [Act.put, List.setIfInBounds_toArray, List.set_cons_zero, List.set_cons_succ]
      refine wpAny_take (i := 16) (v := ?vb16) rfl (by kernel_rfl) (by kernel_rfl) (by kernel_rfl) (fun _ _ _ h => h) (Or.inl ⟨by rfl, ?hyb16⟩) ?restb16
      case hyb16 => (intro w; go_simp; try with_reducible rfl)
      try simp only [Act.put, List.setIfInBounds_toArray, List.set_cons_zero, List.set_cons_succ]
      have hS0 : (fun w' : World => True) wc.drew := trivial
      refine wpAny_of_late (S := fun w' => True) (late := fun j => decide (17 ≤ j)) _ _ _ _ ?_
      change wpLate _ _ _ _ _ _ _ _ _ (wc.drew)
      clear hS0
      refine wpLate_one (i := 17) (by kernel_rfl) rfl (fun K hK => ?_)
      go_simp
      refine hK.out _ _ (fun h => absurd h (by decide)) ?_
      clear hK K
      refine wpLate_one (i := 18) (by kernel_rfl) rfl (fun K hK => ?_)
      go_simp
      refine hK.out _ _ (fun h => absurd h (by decide)) ?_
      clear hK K
      refine wpLate_one (i := 19) (by kernel_rfl) rfl (fun K hK => ?_)
      go_simp
      refine hK.out _ _ (fun h => absurd h (by decide)) ?_
      clear hK K
      refine wpLate_one (i := 20) (by kernel_rfl) rfl (fun K hK => ?_)
      go_simp
      refine hK.out _ _ (fun h => absurd h (by decide)) ?_
      clear hK K
      refine wpLate_one (i := 21) (by kernel_rfl) rfl (fun K hK => ?_)
      go_simp
      refine hK.out _ _ (fun h => absurd h (by decide)) ?_
      clear hK K
      refine wpLate_one (i := 22) (by kernel_rfl) rfl (fun K hK => ?_)
      go_simp
      refine hK.out _ _ (fun h => absurd h (by decide)) ?_
      clear hK K
      refine wpLate_one (i := 23) (by kernel_rfl) rfl (fun K hK => ?_)
      go_simp
      refine hK.out _ _ (fun h => absurd h (by decide)) ?_
      clear hK K
      refine wpLate_one (i := 24) (by kernel_rfl) rfl (fun K hK => ?_)
      go_simp
      refine hK.out _ _ (fun h => absurd h (by decide)) ?_
      clear hK K
      refine wpLate_one (i := 25) (by kernel_rfl) rfl (fun K hK => ?_)
      go_simp
      refine hK.out _ _ (fun h => absurd h (by decide)) ?_
      clear hK K
      refine wpLate_one (i := 26) (by kernel_rfl) rfl (fun K hK => ?_)
      go_simp
      refine hK.out _ _ (fun h => absurd h (by decide)) ?_
      clear hK K
      refine wpLate_one (i := 27) (by kernel_rfl) rfl (fun K hK => ?_)
      go_simp
      refine hK.out _ _ (fun h => absurd h (by decide)) ?_
      clear hK K
      refine wpLate_one (i := 28) (by kernel_rfl) rfl (fun K hK => ?_)
      go_simp
      refine hK.out _ _ (fun h => absurd h (by decide)) ?_
      clear hK K
      refine wpLate_done (by kernel_rfl) ?_ _
      have cq := HCQ.out
      go_wp2_with fail
      go_ret2
      exact HF.out
end
end Go.Proofs.YtfljlcfmdcepnaaGreatDoor
