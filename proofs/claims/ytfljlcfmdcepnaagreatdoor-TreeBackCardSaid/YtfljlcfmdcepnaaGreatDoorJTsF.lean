/-
  The tree: two leaves side by side share what they have: the walk.
-/
import Derived.Test.YtfljlcfmdcepnaaGreatDoorJTsE
namespace Go.Proofs.YtfljlcfmdcepnaaGreatDoor
open Go.RowKit
open UK (str BytesAt nth Only Row Box)
open Go.BigFrame
section
variable {W W' : World} {a b Na Ma Nb Mb kc vc ac kd vd ad : Nat} {ka va aa kb vb ab : Option Addr}
theorem catb_u64 {w : World} {g0 c0 d n : Nat} {bo : Option Addr} {us vs : List UInt64} {T : Nat → Prop} (r : Row w g0 c0 (u64s us)) (hv : Win T w (.slice bo vs.length d) (u64s vs)) (h1 : n ≤ g0) (h2 : n ≤ w.heap.size) (h0 : 0 < vs.length) (hl : us.length + vs.length ≤ 100000) :
    ∃ g c w1, (Builtin.append_ #[52, 52] 52 #[.slice (some ⟨g0, 0, none⟩) us.length c0, .slice bo vs.length d]).run Tryz.prog w = .ok (.slice (some ⟨g, 0, none⟩) (us.length + vs.length) c) w1 ∧ Row w1 g c (u64s (us ++ vs)) ∧ n ≤ g ∧ Below n w w1 := by
  obtain ⟨g, c, w1, e, r1, cr⟩ := cat_u64 (.inr ⟨g0, rfl, r⟩) hv h0 hl
  rcases cr with ⟨he, ho⟩ | ⟨he, hb⟩
  · injection he with he
    injection he with he
    subst he
    exact ⟨_, c, w1, e, r1, h1, ho.below h2 h1⟩
  · exact ⟨g, c, w1, e, r1, by omega, hb.mono h2⟩
theorem catb_int {w : World} {g0 c0 d n : Nat} {bo : Option Addr} {us vs : List Nat} {T : Nat → Prop} (r : Row w g0 c0 (ints us)) (hv : Win T w (.slice bo vs.length d) (ints vs)) (h1 : n ≤ g0) (h2 : n ≤ w.heap.size) (h0 : 0 < vs.length) (hl : us.length + vs.length ≤ 100000) :
    ∃ g c w1, (Builtin.append_ #[82, 82] 82 #[.slice (some ⟨g0, 0, none⟩) us.length c0, .slice bo vs.length d]).run Tryz.prog w = .ok (.slice (some ⟨g, 0, none⟩) (us.length + vs.length) c) w1 ∧ Row w1 g c (ints (us ++ vs)) ∧ n ≤ g ∧ Below n w w1 := by
  obtain ⟨g, c, w1, e, r1, cr⟩ := cat_int (.inr ⟨g0, rfl, r⟩) hv h0 hl
  rcases cr with ⟨he, ho⟩ | ⟨he, hb⟩
  · injection he with he
    injection he with he
    subst he
    exact ⟨_, c, w1, e, r1, h1, ho.below h2 h1⟩
  · exact ⟨g, c, w1, e, r1, by omega, hb.mono h2⟩
theorem leaf_two_fin {w : World} {ks vs ls ws K V : List UInt64} {g c g2 c2 h n : Nat} {κ q : UInt64} (oa : NodeO Na W a ⟨true, ks, vs, []⟩ ka va aa kc vc ac) (hal : a < Ma) (ob : NodeO Nb W b ⟨true, ls, ws, []⟩ kb vb ab kd vd ad) (hbl : b < Mb) (hab : a ≠ b)
    (bl : Below W.heap.size W w) (r1 : Row w g c (u64s K)) (r2 : Row w g2 c2 (u64s V)) (hg : W.heap.size ≤ g) (hg2 : W.heap.size ≤ g2) (eK : K = ks ++ ls) (eV : V = vs ++ ws) (hn : K.length = n) (hnv : V.length = n) (h31 : 31 ≤ n) (hh : n / 2 = h) (hq : q = K.getD h 0) :
    EvenR Na Ma Nb Mb W a b ⟨true, ks, vs, []⟩ ⟨true, ls, ws, []⟩ κ (.returned (.tuple #[.int .u64 (q.toNat : Int), .bool false])) ((((w.setCell ⟨a, 1, none⟩ (.slice (some ⟨g, 0, none⟩) h c)).setCell ⟨a, 2, none⟩ (.slice (some ⟨g2, 0, none⟩) h c2)).setCell ⟨b, 1, none⟩ (.slice (some ⟨g, h, none⟩) (n - h) (c - h))).setCell ⟨b, 2, none⟩ (.slice (some ⟨g2, h, none⟩) (n - h) (c2 - h))).drew ∧
    (((((w.setCell ⟨a, 1, none⟩ (.slice (some ⟨g, 0, none⟩) h c)).setCell ⟨a, 2, none⟩ (.slice (some ⟨g2, 0, none⟩) h c2)).setCell ⟨b, 1, none⟩ (.slice (some ⟨g, h, none⟩) (n - h) (c - h))).setCell ⟨b, 2, none⟩ (.slice (some ⟨g2, h, none⟩) (n - h) (c2 - h)))).cell? ⟨g, h, none⟩ = some (.int .u64 (q.toNat : Int)) := by
  have hla := oa.box.lt
  have hlb := ob.box.lt
  have xa := oa.box.next bl
  have xb := ob.box.next bl
  have xa3 := (((xa.set 1 (.slice (some ⟨g, 0, none⟩) h c)).set 2 (.slice (some ⟨g2, 0, none⟩) h c2)).only (((Only.refl b _).set 1 (.slice (some ⟨g, h, none⟩) (n - h) (c - h))).set 2 (.slice (some ⟨g2, h, none⟩) (n - h) (c2 - h))).drew hab)
  have oA : Only a w ((w.setCell ⟨a, 1, none⟩ (.slice (some ⟨g, 0, none⟩) h c)).setCell ⟨a, 2, none⟩ (.slice (some ⟨g2, 0, none⟩) h c2)) := ((Only.refl a w).set 1 _).set 2 _
  have oB : Only b ((w.setCell ⟨a, 1, none⟩ (.slice (some ⟨g, 0, none⟩) h c)).setCell ⟨a, 2, none⟩ (.slice (some ⟨g2, 0, none⟩) h c2)) ((((w.setCell ⟨a, 1, none⟩ (.slice (some ⟨g, 0, none⟩) h c)).setCell ⟨a, 2, none⟩ (.slice (some ⟨g2, 0, none⟩) h c2)).setCell ⟨b, 1, none⟩ (.slice (some ⟨g, h, none⟩) (n - h) (c - h))).setCell ⟨b, 2, none⟩ (.slice (some ⟨g2, h, none⟩) (n - h) (c2 - h))).drew := (((Only.refl b _).set 1 _).set 2 _).drew
  have xb3 := boxd (((xb.only oA (Ne.symm hab)).set 1 (.slice (some ⟨g, h, none⟩) (n - h) (c - h))).set 2 (.slice (some ⟨g2, h, none⟩) (n - h) (c2 - h)))
  generalize (w.setCell ⟨a, 1, none⟩ (.slice (some ⟨g, 0, none⟩) h c)).setCell ⟨a, 2, none⟩ (.slice (some ⟨g2, 0, none⟩) h c2) = w2 at oA oB xa3 xb3 ⊢
  have hcd : ∀ (u : World) (x : Addr), u.drew.cell? x = u.cell? x := fun u x => rfl
  rw [← hcd]
  generalize ((w2.setCell ⟨b, 1, none⟩ (.slice (some ⟨g, h, none⟩) (n - h) (c - h))).setCell ⟨b, 2, none⟩ (.slice (some ⟨g2, h, none⟩) (n - h) (c2 - h))).drew = w3 at oB xa3 xb3 ⊢
  have ra := (r1.only oA (show g ≠ a by omega)).only oB (show g ≠ b by omega)
  have rb := (r2.only oA (show g2 ≠ a by omega)).only oB (show g2 ≠ b by omega)
  have hs := bl.size
  have hsA := oA.size
  have hsB := oB.size
  have he : evenN ⟨true, ks, vs, []⟩ ⟨true, ls, ws, []⟩ κ = (⟨true, K.take h, V.take h, []⟩, ⟨true, K.drop h, V.drop h, []⟩, q, false) := by
    have hl : ¬ ks.length + ls.length ≤ 30 := by rw [eK, List.length_append] at hn; omega
    have hl2 : (ks ++ ls).length / 2 = h := by rw [← eK, hn]; exact hh
    unfold evenN
    rw [if_pos rfl]
    dsimp only
    rw [if_neg hl, hl2, hq, eK, eV]
  have wa := winRow (S := fun q => (Na ≤ q ∧ q < Ma) ∨ (Nb ≤ q ∧ q < Mb) ∨ (W.heap.size ≤ q ∧ q < w3.heap.size)) ra (.inr (.inr ⟨hg, ra.lt⟩))
  have wb := winRow (S := fun q => (Na ≤ q ∧ q < Ma) ∨ (Nb ≤ q ∧ q < Mb) ∨ (W.heap.size ≤ q ∧ q < w3.heap.size)) rb (.inr (.inr ⟨hg2, rb.lt⟩))
  rw [u64s_length, hn] at wa
  rw [u64s_length, hnv] at wb
  refine ⟨?_, ?_⟩
  · unfold EvenR
    rw [he]
    refine ⟨rfl, ⟨_, _, _, xa3, .inl ⟨oa.ge, hal⟩, ?_, ?_, ⟨aa, ac, rfl, Nat.zero_le _, fun j u hj => (by cases hj)⟩⟩, fun _ => ⟨_, _, _, xb3, .inr (.inl ⟨ob.ge, hbl⟩), ?_, ?_, ⟨ab, ad, rfl, Nat.zero_le _, fun j u hj => (by cases hj)⟩⟩, (oB.os.trans oA.os).trans bl.os, (oB.tape.trans oA.tape).trans bl.tape, (oB.output.trans oA.output).trans bl.output, by omega, fun j hj => ?_⟩
    · have := wa.take h (by omega)
      rw [u64s_take] at this; exact this
    · have := wb.take h (by omega)
      rw [u64s_take] at this; exact this
    · have := wa.drop h (by omega)
      rw [u64s_drop, Nat.zero_add] at this; exact this
    · have := wb.drop h (by omega)
      rw [u64s_drop, Nat.zero_add] at this; exact this
    · have nA : j ≠ a := fun e => hj.2 (.inl (by rw [e]; exact ⟨oa.ge, hal⟩))
      have nB : j ≠ b := fun e => hj.2 (.inr (by rw [e]; exact ⟨ob.ge, hbl⟩))
      rw [oB.block j (by omega) nB, oA.block j (by omega) nA]
      exact bl.block j hj.1
  · refine ra.at' h _ (u64s_at _ _ _ ?_)
    rw [hq, List.getD_eq_getElem?_getD, List.getElem?_eq_getElem (by omega)]
    rfl
set_option linter.unusedSimpArgs false in
set_option maxHeartbeats 4000000 in
set_option maxRecDepth 100000 in
theorem even_leaf_two {ks vs ls ws : List UInt64} {h n : Nat} (ha : NodeM Na Ma W a ⟨true, ks, vs, []⟩ ka va aa kc vc ac) (hb : NodeM Nb Mb W b ⟨true, ls, ws, []⟩ kb vb ab kd vd ad) (hMN : Ma ≤ Nb) (hv : vs.length = ks.length) (hw : ws.length = ls.length) (p1 : 0 < ks.length) (p2 : 0 < ls.length) (hj : ks.length + ls.length = n) (h31 : 31 ≤ n) (h60 : n ≤ 1000) (hh : n / 2 = h) (κ : UInt64) :
    Calls Tryz.prog 145 #[.pointer (some ⟨a, 0, none⟩), .pointer (some ⟨b, 0, none⟩), .int .u64 κ.toNat] W (EvenR Na Ma Nb Mb W a b ⟨true, ks, vs, []⟩ ⟨true, ls, ws, []⟩ κ) := by
  obtain ⟨oa, hal, hag⟩ := ha
  obtain ⟨ob, hbl, hbg⟩ := hb
  have hab : a ≠ b := by have := ob.ge; omega
  have h1000 : h ≤ 1000 := by omega
  have hdv : (n : Int) / 2 = (h : Int) := by omega
  have hdv2 : Int.tdiv (n : Int) 2 = (h : Int) := by rw [Int.tdiv_eq_ediv_of_nonneg (Int.natCast_nonneg n)]; exact hdv
  have n2 : ¬ (n : Int) ≤ 30 := by omega
  have n0 : (ks.length : Int) + (ls.length : Int) = (n : Int) := by omega
  have a0 : W.cell? ⟨a, 0, none⟩ = some (.bool true) := oa.box.cell 0 _ rfl
  have a1 : W.cell? ⟨a, 1, none⟩ = some (.slice ka ks.length kc) := oa.box.cell 1 _ rfl
  have b1 : W.cell? ⟨b, 1, none⟩ = some (.slice kb ls.length kd) := ob.box.cell 1 _ rfl
  have hSO : ∀ w, Below W.heap.size W w → w.cell? ⟨a, 1, none⟩ = some (.slice ka ks.length kc) ∧ w.cell? ⟨b, 1, none⟩ = some (.slice kb ls.length kd) ∧ w.cell? ⟨a, 2, none⟩ = some (.slice va vs.length vc) ∧ w.cell? ⟨b, 2, none⟩ = some (.slice vb ws.length vd) := fun w bl => ⟨(oa.box.next bl).cell 1 _ rfl, (ob.box.next bl).cell 1 _ rfl, (oa.box.next bl).cell 2 _ rfl, (ob.box.next bl).cell 2 _ rfl⟩
  have wa : Win (slB ka) W (.slice ka ks.length kc) (u64s ks) := by have := oa.k.win (S := slB ka) (fun _ h => h); rw [u64s_length] at this; exact this
  have wv : Win (slB va) W (.slice va vs.length vc) (u64s vs) := by have := oa.v.win (S := slB va) (fun _ h => h); rw [u64s_length] at this; exact this
  have wb : Win (slB kb) W (.slice kb ls.length kd) (u64s ls) := by have := ob.k.win (S := slB kb) (fun _ h => h); rw [u64s_length] at this; exact this
  have ww : Win (slB vb) W (.slice vb ws.length vd) (u64s ws) := by have := ob.v.win (S := slB vb) (fun _ h => h); rw [u64s_length] at this; exact this
  have HC1 := Lib.hid (fun (w : World) (bl : Below W.heap.size W w) => (show Calls Tryz.prog 143 #[.slice ka ks.length kc] w (ClonedU w ks) from clone_u64 (wa.below bl (fun _ h => oa.k.lt h)) (fun g hg => Nat.lt_of_lt_of_le (oa.k.lt hg) bl.size) p1 (by omega)))
  have HC2 := Lib.hid (fun (w : World) (bl : Below W.heap.size W w) => (show Calls Tryz.prog 143 #[.slice va vs.length vc] w (ClonedU w vs) from clone_u64 (wv.below bl (fun _ h => oa.v.lt h)) (fun g hg => Nat.lt_of_lt_of_le (oa.v.lt hg) bl.size) (by omega) (by omega)))
  have HA1 := Lib.hid (fun (w w' : World) (bl : Below W.heap.size W w) (g0 c0 : Nat) (bl' : Below w.heap.size w w') (r0 : Row w' g0 c0 (u64s ks)) (hg0 : w.heap.size ≤ g0) => (show ∃ g c w1, (Builtin.append_ #[52, 52] 52 #[.slice (some ⟨g0, 0, none⟩) ks.length c0, .slice kb ls.length kd]).run Tryz.prog w' = .ok (.slice (some ⟨g, 0, none⟩) (ks.length + ls.length) c) w1 ∧ Row w1 g c (u64s (ks ++ ls)) ∧ w.heap.size ≤ g ∧ Below w.heap.size w' w1 from
    catb_u64 r0 (wb.below (bl.trans (bl'.mono bl.size)) (fun _ h => ob.k.lt h)) hg0 bl'.size p2 (by omega)))
  have HA2 := Lib.hid (fun (w w' : World) (bl : Below W.heap.size W w) (g0 c0 : Nat) (bl' : Below w.heap.size w w') (r0 : Row w' g0 c0 (u64s vs)) (hg0 : w.heap.size ≤ g0) => (show ∃ g c w1, (Builtin.append_ #[52, 52] 52 #[.slice (some ⟨g0, 0, none⟩) vs.length c0, .slice vb ws.length vd]).run Tryz.prog w' = .ok (.slice (some ⟨g, 0, none⟩) (vs.length + ws.length) c) w1 ∧ Row w1 g c (u64s (vs ++ ws)) ∧ w.heap.size ≤ g ∧ Below w.heap.size w' w1 from
    catb_u64 r0 (ww.below (bl.trans (bl'.mono bl.size)) (fun _ h => ob.v.lt h)) hg0 bl'.size (by omega) (by omega)))
  have HE := Lib.hid (And.intro oa (And.intro hal (And.intro ob (And.intro hbl (And.intro hab (And.intro hv (And.intro hw (And.intro hj (And.intro h31 hh)))))))))
  have n1 : IntKind.i64.wrap ((ks.length : Int) + (ls.length : Int)) = (n : Int) := by rw [n0]; exact wrapk_lt _ h60
  have hhw : wrap64 (h : Int) = (h : Int) := wrap64_lt _ h1000
  have hhw2 : IntKind.i64.wrap (h : Int) = (h : Int) := wrapk_lt _ h1000
  clear hag hbg oa ob wa wv wb ww hMN hal hbl p1 p2 hv hw hh h31 h60
  go_enter Tryz.func145, Tryz.ntmps145
  go_upto_region 3 with (fail)
  go_cut [29] (fun dv wx => dv = .bool false ∧ ∃ m, wx = W.drewN m)
  case first =>
    go_wp2_with fail
    go_quiet (fail)
    go_wp2_with fail
    go_meet
    case rel => exact ⟨by go_simp, _, rfl⟩
  case rest =>
  obtain ⟨rfl, hcut⟩ := hcut
  have bl : Below W.heap.size W wc.drew := by obtain ⟨m, rfl⟩ := hcut; exact (UK.belowN (Below.refl _ _) m).drew
  clear a0 a1 b1 hcut
  go_upto_region 5 with (fail)
  go_cut [8, 9] (fun x8 x9 wx => ∃ g c g2 c2, x8 = .slice (some ⟨g, 0, none⟩) n c ∧ x9 = .slice (some ⟨g2, 0, none⟩) n c2 ∧ Row wx g c (u64s (ks ++ ls)) ∧ Row wx g2 c2 (u64s (vs ++ ws)) ∧ W.heap.size ≤ g ∧ W.heap.size ≤ g2 ∧ Below W.heap.size W wx)
  case first =>
    have hS1 := hSO _ bl
    refine wp_region_any (by kernel_rfl) ?_
    refine wpAny_take (i := 0) (v := ?va0) rfl (by kernel_rfl) (by kernel_rfl) (by kernel_rfl) (fun _ _ _ h => h) (Or.inl ⟨by rfl, ?hya0⟩) ?resta0
    case hya0 => (intro w; go_simp; try with_reducible rfl)
    try simp only [Act.put, List.setIfInBounds_toArray, List.set_cons_zero, List.set_cons_succ]
    refine wpAny_take (i := 1) (v := ?va1) rfl (by kernel_rfl) (by kernel_rfl) (by kernel_rfl) (fun _ _ _ h => h) (Or.inl ⟨by rfl, ?hya1⟩) ?resta1
    case hya1 => (intro w; go_simp; try with_reducible rfl)
    try simp only [Act.put, List.setIfInBounds_toArray, List.set_cons_zero, List.set_cons_succ]
    refine wpAny_take (i := 2) (v := ?va2) rfl (by kernel_rfl) (by kernel_rfl) (by kernel_rfl) (fun _ _ _ h => h) (Or.inl ⟨by rfl, ?hya2⟩) ?resta2
    case hya2 => (intro w; go_simp; try with_reducible rfl)
    try simp only [Act.put, List.setIfInBounds_toArray, List.set_cons_zero, List.set_cons_succ]
    refine wpAny_take (i := 5) (v := ?va5) rfl (by kernel_rfl) (by kernel_rfl) (by kernel_rfl) (fun _ _ _ h => h) (Or.inl ⟨by rfl, ?hya5⟩) ?resta5
    case hya5 => (intro w; go_simp; try with_reducible rfl)
    try simp only [Act.put, List.setIfInBounds_toArray, List.set_cons_zero, List.set_cons_succ]
    refine wpAny_take (i := 6) (v := ?va6) rfl (by kernel_rfl) (by kernel_rfl) (by kernel_rfl) (fun _ _ _ h => h) (Or.inl ⟨by rfl, ?hya6⟩) ?resta6
    case hya6 => (intro w; go_simp; try with_reducible rfl)
    try simp only [Act.put, List.setIfInBounds_toArray, List.set_cons_zero, List.set_cons_succ]
    refine wpAny_take (i := 7) (v := ?va7) rfl (by kernel_rfl) (by kernel_rfl) (by kernel_rfl) (fun _ _ _ h => h) (Or.inl ⟨by rfl, ?hya7⟩) ?resta7
    case hya7 => (intro w; go_simp; try with_reducible rfl)
    try simp only [Act.put, List.setIfInBounds_toArray, List.set_cons_zero, List.set_cons_succ]
    refine wpAny_take (i := 10) (v := ?va10) rfl (by kernel_rfl) (by kernel_rfl) (by kernel_rfl) (fun _ _ _ h => h) (Or.inl ⟨by rfl, ?hya10⟩) ?resta10
    case hya10 => (intro w; go_simp; try with_reducible rfl)
    try simp only [Act.put, List.setIfInBounds_toArray, List.set_cons_zero, List.set_cons_succ]
    refine wpAny_take (i := 11) (v := ?va11) rfl (by kernel_rfl) (by kernel_rfl) (by kernel_rfl) (fun _ _ _ h => h) (Or.inl ⟨by rfl, ?hya11⟩) ?resta11
    case hya11 => (intro w; go_simp; try with_reducible rfl)
    try simp only [Act.put, List.setIfInBounds_toArray, List.set_cons_zero, List.set_cons_succ]
    refine wpAny_take (i := 12) (v := ?va12) rfl (by kernel_rfl) (by kernel_rfl) (by kernel_rfl) (fun _ _ _ h => h) (Or.inl ⟨by rfl, ?hya12⟩) ?resta12
    case hya12 => (intro w; go_simp; try with_reducible rfl)
    try simp only [Act.put, List.setIfInBounds_toArray, List.set_cons_zero, List.set_cons_succ]
    refine wpAny_take (i := 15) (v := ?va15) rfl (by kernel_rfl) (by kernel_rfl) (by kernel_rfl) (fun _ _ _ h => h) (Or.inl ⟨by rfl, ?hya15⟩) ?resta15
    case hya15 => (intro w; go_simp; try with_reducible rfl)
    try simp only [Act.put, List.setIfInBounds_toArray, List.set_cons_zero, List.set_cons_succ]
    refine wpAny_take (i := 16) (v := ?va16) rfl (by kernel_rfl) (by kernel_rfl) (by kernel_rfl) (fun _ _ _ h => h) (Or.inl ⟨by rfl, ?hya16⟩) ?resta16
    case hya16 => (intro w; go_simp; try with_reducible rfl)
    try simp only [Act.put, List.setIfInBounds_toArray, List.set_cons_zero, List.set_cons_succ]
    refine wpAny_take (i := 17) (v := ?va17) rfl (by kernel_rfl) (by kernel_rfl) (by kernel_rfl) (fun _ _ _ h => h) (Or.inl ⟨by rfl, ?hya17⟩) ?resta17
    case hya17 => (intro w; go_simp; try with_reducible rfl)
    try simp only [Act.put, List.setIfInBounds_toArray, List.set_cons_zero, List.set_cons_succ]
    have hS0 : (fun w' : World => w'.cell? ⟨a, 1, none⟩ = some (.slice ka ks.length kc) ∧ w'.cell? ⟨b, 1, none⟩ = some (.slice kb ls.length kd) ∧ w'.cell? ⟨a, 2, none⟩ = some (.slice va vs.length vc) ∧ w'.cell? ⟨b, 2, none⟩ = some (.slice vb ws.length vd)) wc.drew := hS1
    refine wpAny_of_late (S := fun w' => w'.cell? ⟨a, 1, none⟩ = some (.slice ka ks.length kc) ∧ w'.cell? ⟨b, 1, none⟩ = some (.slice kb ls.length kd) ∧ w'.cell? ⟨a, 2, none⟩ = some (.slice va vs.length vc) ∧ w'.cell? ⟨b, 2, none⟩ = some (.slice vb ws.length vd)) (late := fun j => decide (99 ≤ j)) _ _ _ _ ?_
    change wpLate _ _ _ _ _ _ _ _ _ (wc.drew)
    refine wpLate_take (i := 3) (v := ?va3) rfl (by kernel_rfl) (by kernel_rfl) (by kernel_rfl) (by kernel_rfl) (fun _ _ _ h => h) hS0 (by rfl) ?hya3 ?resta3
    case hya3 => (intro w hSw; (try dsimp only at hSw); go_simp; try with_reducible rfl)
    try simp only [Act.put, List.setIfInBounds_toArray, List.set_cons_zero, List.set_cons_succ]
    refine wpLate_take (i := 8) (v := ?va8) rfl (by kernel_rfl) (by kernel_rfl) (by kernel_rfl) (by kernel_rfl) (fun _ _ _ h => h) hS0 (by rfl) ?hya8 ?resta8
    case hya8 => (intro w hSw; (try dsimp only at hSw); go_simp; try with_reducible rfl)
    try simp only [Act.put, List.setIfInBounds_toArray, List.set_cons_zero, List.set_cons_succ]
    refine wpLate_take (i := 13) (v := ?va13) rfl (by kernel_rfl) (by kernel_rfl) (by kernel_rfl) (by kernel_rfl) (fun _ _ _ h => h) hS0 (by rfl) ?hya13 ?resta13
    case hya13 => (intro w hSw; (try dsimp only at hSw); go_simp; try with_reducible rfl)
    try simp only [Act.put, List.setIfInBounds_toArray, List.set_cons_zero, List.set_cons_succ]
    refine wpLate_take (i := 18) (v := ?va18) rfl (by kernel_rfl) (by kernel_rfl) (by kernel_rfl) (by kernel_rfl) (fun _ _ _ h => h) hS0 (by rfl) ?hya18 ?resta18
    case hya18 => (intro w hSw; (try dsimp only at hSw); go_simp; try with_reducible rfl)
    try simp only [Act.put, List.setIfInBounds_toArray, List.set_cons_zero, List.set_cons_succ]
    clear hS0
    refine wpLate_one (i := 4) (by kernel_rfl) rfl (fun K hK => ?_)
    go_simp
    refine (HC1.out _ bl).mono ?_
    rintro e w4 ⟨g0, c0, rfl, r0, hg0, bl4⟩
    (try dsimp only)
    have bl4x : Below W.heap.size W w4 := bl.trans (bl4.mono bl.size)
    obtain ⟨g, c, w5, e5, r5, hg5, bl5⟩ := HA1.out _ _ bl g0 c0 bl4 r0 hg0
    refine hK.out _ _ (fun _ => hSO _ bl4x) ?_
    clear hK K
    try simp only [Act.put, List.setIfInBounds_toArray, List.set_cons_zero, List.set_cons_succ]
    refine wpLate_one (i := 9) (by kernel_rfl) rfl (fun K hK => ?_)
    refine UK.step_append_run e5 rfl rfl rfl (by simp [Act.eval]) (by simp [Act.eval]) ?_
    have bl9 : Below W.heap.size W w5 := bl4x.trans (bl5.mono bl.size)
    refine hK.out _ _ (fun _ => hSO _ bl9) ?_
    clear hK K
    try simp only [Act.put, List.setIfInBounds_toArray, List.set_cons_zero, List.set_cons_succ]
    refine wpLate_one (i := 14) (by kernel_rfl) rfl (fun K hK => ?_)
    go_simp
    refine (HC2.out _ bl9).mono ?_
    rintro e w14 ⟨g1, c1, rfl, r1, hg1, bl14⟩
    (try dsimp only)
    have bl14x : Below W.heap.size W w14 := bl9.trans (bl14.mono bl9.size)
    obtain ⟨g2, c2, w19, e19, r19, hg19, bl19⟩ := HA2.out _ _ bl9 g1 c1 bl14 r1 hg1
    refine hK.out _ _ (fun _ => hSO _ bl14x) ?_
    clear hK K
    try simp only [Act.put, List.setIfInBounds_toArray, List.set_cons_zero, List.set_cons_succ]
    refine wpLate_one (i := 19) (by kernel_rfl) rfl (fun K hK => ?_)
    refine UK.step_append_run e19 rfl rfl rfl (by simp [Act.eval]) (by simp [Act.eval]) ?_
    have bl19x : Below W.heap.size W w19 := bl14x.trans (bl19.mono bl9.size)
    refine hK.out _ _ (fun _ => hSO _ bl19x) ?_
    clear hK K
    try simp only [Act.put, List.setIfInBounds_toArray, List.set_cons_zero, List.set_cons_succ]
    refine wpLate_one (i := 20) (by kernel_rfl) rfl (fun K hK => ?_)
    go_simp
    refine hK.out _ _ (fun _ => hSO _ bl19x) ?_
    clear hK K
    try simp only [Act.put, List.setIfInBounds_toArray, List.set_cons_zero, List.set_cons_succ]
    refine wpLate_one (i := 21) (by kernel_rfl) rfl (fun K hK => ?_)
    go_simp
    refine hK.out _ _ (fun _ => hSO _ bl19x) ?_
    clear hK K
    try simp only [Act.put, List.setIfInBounds_toArray, List.set_cons_zero, List.set_cons_succ]
    refine wpLate_done (by kernel_rfl) ?_ _
    go_wp2_with fail
    go_meet
    case rel =>
      obtain ⟨oa, hal, ob, hbl, hab, hv, hw, hj, h31, hh⟩ := HE.out
      exact ⟨g, c, g2, c2, by first | rfl | rw [hj], by first | rfl | rw [hv, hw, hj] | rw [hw, hj] | rw [hj], r5.of_block (Nat.le_trans bl14.size bl19.size) ((bl19.block _ r5.lt).trans (bl14.block _ r5.lt)), r19, Nat.le_trans bl.size hg5, Nat.le_trans bl9.size hg19, bl19x⟩
  case rest =>
  obtain ⟨g, c, g2, c2, rfl, rfl, r1, r2, hg, hg2, bl2⟩ := hcut
  obtain ⟨oa, hal, ob, hbl, hab, hv, hw, hj, h31, hh⟩ := HE.out
  obtain ⟨q, hq⟩ : ∃ q : UInt64, q = (ks ++ ls).getD h 0 := ⟨_, rfl⟩
  have bld : Below W.heap.size W wc.drew := bl2.drew
  have xa := oa.box.next bld
  have xb := ob.box.next bld
  have hc1 : n ≤ c := by have := r1.le; rw [u64s_length, List.length_append, hj] at this; exact this
  have hc2 : n ≤ c2 := by have := r2.le; rw [u64s_length, List.length_append, hv, hw, hj] at this; exact this
  obtain ⟨fin, cq⟩ := leaf_two_fin (κ := κ) (Ma := Ma) (Mb := Mb) oa hal ob hbl hab bl2 r1 r2 hg hg2 rfl rfl (by rw [List.length_append]; exact hj) (by rw [List.length_append, hv, hw]; exact hj) h31 hh hq
  have hhn : h < n := by omega
  have HF := Lib.hid fin
  have xa0 := oa.box.next bl2
  have xb0 := ob.box.next bl2
  have q1 := xa.cell 1 _ rfl
  have q2 := xa0.cell 2 _ rfl
  have q3 := xb0.cell 1 _ rfl
  have q4 := xb0.cell 2 _ rfl
  have f1 := xa.free 1
  have f2 := xa0.free 2
  have f3 := xb0.free 1
  have f4 := xb0.free 2
  have q10 := xa0.cell 1 _ rfl
  have f10 := xa0.free 1
  have i1 : (h : Int) ≤ (c : Int) := Int.ofNat_le.2 (by omega)
  have i2 : (h : Int) ≤ (c2 : Int) := Int.ofNat_le.2 (by omega)
  have i3 : (h : Int) ≤ (n : Int) := Int.ofNat_le.2 (by omega)
  have i4 : (h : Int) < (n : Int) := Int.ofNat_lt.2 (by omega)
  have i5 : ¬ (c = h) := by omega
  have i6 : ¬ (c2 = h) := by omega
  have HCQ := Lib.hid cq
  clear fin cq bld xa xb xa0 xb0 hc1 hc2 oa hal ob hbl hv hw hj h31 hh hq r1 r2 bl2 hg hg2 bl hSO HC1 HC2 HA1 HA2 HE n1 n2
  go_wp2_with fail
  refine wp_region_any (by kernel_rfl) ?_
  refine wpAny_take (i := 0) (v := ?vb0) rfl (by kernel_rfl) (by kernel_rfl) (by kernel_rfl) (fun _ _ _ h => h) (Or.inl ⟨by rfl, ?hyb0⟩) ?restb0
  case hyb0 => (intro w; go_simp; try with_reducible rfl)
  try simp only [Act.put, List.setIfInBounds_toArray, List.set_cons_zero, List.set_cons_succ]
  refine wpAny_take (i := 1) (v := ?vb1) rfl (by kernel_rfl) (by kernel_rfl) (by kernel_rfl) (fun _ _ _ h => h) (Or.inl ⟨by rfl, ?hyb1⟩) ?restb1
  case hyb1 => (intro w; go_simp; try with_reducible rfl)
  try simp only [Act.put, List.setIfInBounds_toArray, List.set_cons_zero, List.set_cons_succ]
  refine wpAny_take (i := 2) (v := ?vb2) rfl (by kernel_rfl) (by kernel_rfl) (by kernel_rfl) (fun _ _ _ h => h) (Or.inl ⟨by rfl, ?hyb2⟩) ?restb2
  case hyb2 => (intro w; go_simp; try with_reducible rfl)
  try simp only [Act.put, List.setIfInBounds_toArray, List.set_cons_zero, List.set_cons_succ]
  refine wpAny_take (i := 3) (v := ?vb3) rfl (by kernel_rfl) (by kernel_rfl) (by kernel_rfl) (fun _ _ _ h => h) (Or.inl ⟨by rfl, ?hyb3⟩) ?restb3
  case hyb3 => (intro w; go_simp; try with_reducible rfl)
  try simp only [Act.put, List.setIfInBounds_toArray, List.set_cons_zero, List.set_cons_succ]
  refine wpAny_take (i := 4) (v := ?vb4) rfl (by kernel_rfl) (by kernel_rfl) (by kernel_rfl) (fun _ _ _ h => h) (Or.inl ⟨by rfl, ?hyb4⟩) ?restb4
  case hyb4 => (intro w; go_simp; try with_reducible rfl)
  try simp only [Act.put, List.setIfInBounds_toArray, List.set_cons_zero, List.set_cons_succ]
  refine wpAny_take (i := 5) (v := ?vb5) rfl (by kernel_rfl) (by kernel_rfl) (by kernel_rfl) (fun _ _ _ h => h) (Or.inl ⟨by rfl, ?hyb5⟩) ?restb5
  case hyb5 => (intro w; go_simp; try with_reducible rfl)
  try simp only [Act.put, List.setIfInBounds_toArray, List.set_cons_zero, List.set_cons_succ]
  refine wpAny_take (i := 6) (v := ?vb6) rfl (by kernel_rfl) (by kernel_rfl) (by kernel_rfl) (fun _ _ _ h => h) (Or.inl ⟨by rfl, ?hyb6⟩) ?restb6
  case hyb6 => (intro w; go_simp; try with_reducible rfl)
  try simp only [Act.put, List.setIfInBounds_toArray, List.set_cons_zero, List.set_cons_succ]
  refine wpAny_take (i := 7) (v := ?vb7) rfl (by kernel_rfl) (by kernel_rfl) (by kernel_rfl) (fun _ _ _ h => h) (Or.inl ⟨by rfl, ?hyb7⟩) ?restb7
  case hyb7 => (intro w; go_simp; try with_reducible rfl)
  try simp only [Act.put, List.setIfInBounds_toArray, List.set_cons_zero, List.set_cons_succ]
  refine wpAny_take (i := 8) (v := ?vb8) rfl (by kernel_rfl) (by kernel_rfl) (by kernel_rfl) (fun _ _ _ h => h) (Or.inl ⟨by rfl, ?hyb8⟩) ?restb8
  case hyb8 => (intro w; go_simp; try with_reducible rfl)
  try simp only [Act.put, List.setIfInBounds_toArray, List.set_cons_zero, List.set_cons_succ]
  refine wpAny_take (i := 9) (v := ?vb9) rfl (by kernel_rfl) (by kernel_rfl) (by kernel_rfl) (fun _ _ _ h => h) (Or.inl ⟨by rfl, ?hyb9⟩) ?restb9
  case hyb9 => (intro w; go_simp; try with_reducible rfl)
  try simp only [Act.put, List.setIfInBounds_toArray, List.set_cons_zero, List.set_cons_succ]
  refine wpAny_take (i := 10) (v := ?vb10) rfl (by kernel_rfl) (by kernel_rfl) (by kernel_rfl) (fun _ _ _ h => h) (Or.inl ⟨by rfl, ?hyb10⟩) ?restb10
  case hyb10 => (intro w; go_simp; try with_reducible rfl)
  try simp only [Act.put, List.setIfInBounds_toArray, List.set_cons_zero, List.set_cons_succ]
  refine wpAny_take (i := 11) (v := ?vb11) rfl (by kernel_rfl) (by kernel_rfl) (by kernel_rfl) (fun _ _ _ h => h) (Or.inl ⟨by rfl, ?hyb11⟩) ?restb11
  case hyb11 => (intro w; go_simp; try with_reducible rfl)
  try simp only [Act.put, List.setIfInBounds_toArray, List.set_cons_zero, List.set_cons_succ]
  refine wpAny_take (i := 12) (v := ?vb12) rfl (by kernel_rfl) (by kernel_rfl) (by kernel_rfl) (fun _ _ _ h => h) (Or.inl ⟨by rfl, ?hyb12⟩) ?restb12
  case hyb12 => (intro w; go_simp; try with_reducible rfl)
  try simp only [Act.put, List.setIfInBounds_toArray, List.set_cons_zero, List.set_cons_succ]
  refine wpAny_take (i := 13) (v := ?vb13) rfl (by kernel_rfl) (by kernel_rfl) (by kernel_rfl) (fun _ _ _ h => h) (Or.inl ⟨by rfl, ?hyb13⟩) ?restb13
  case hyb13 => (intro w; go_simp; try with_reducible rfl)
  try simp only [Act.put, List.setIfInBounds_toArray, List.set_cons_zero, List.set_cons_succ]
  refine wpAny_take (i := 14) (v := ?vb14) rfl (by kernel_rfl) (by kernel_rfl) (by kernel_rfl) (fun _ _ _ h => h) (Or.inl ⟨by rfl, ?hyb14⟩) ?restb14
  case hyb14 => (intro w; go_simp; try with_reducible rfl)
  try simp only [Act.put, List.setIfInBounds_toArray, List.set_cons_zero, List.set_cons_succ]
  refine wpAny_take (i := 15) (v := ?vb15) rfl (by kernel_rfl) (by kernel_rfl) (by kernel_rfl) (fun _ _ _ h => h) (Or.inl ⟨by rfl, ?hyb15⟩) ?restb15
  case hyb15 => (intro w; go_simp; try with_reducible rfl)
  try simp only [Act.put, List.setIfInBounds_toArray, List.set_cons_zero, List.set_cons_succ]
  have hS0 : (fun w' : World => True) wc.drew := trivial
  refine wpAny_of_late (S := fun w' => True) (late := fun j => decide (16 ≤ j)) _ _ _ _ ?_
  change wpLate _ _ _ _ _ _ _ _ _ (wc.drew)
  clear hS0
  refine wpLate_one (i := 16) (by kernel_rfl) rfl (fun K hK => ?_)
  go_simp
  refine hK.out _ _ (fun h => absurd h (by decide)) ?_
  clear hK K
  refine wpLate_one (i := 17) (by kernel_rfl) rfl (fun K hK => ?_)
  go_simp
  refine hK.out _ _ (fun h => absurd h (by decide)) ?_
  clear hK K
  refine wpLate_one (i := 18) (by kernel_rfl) rfl (fun K hK => ?_)
  go_simp
  refine hK.out _ _ (fun h => absurd h (by decide)) ?_
  clear hK K
  refine wpLate_one (i := 19) (by kernel_rfl) rfl (fun K hK => ?_)
  go_simp
  refine hK.out _ _ (fun h => absurd h (by decide)) ?_
  clear hK K
  refine wpLate_one (i := 20) (by kernel_rfl) rfl (fun K hK => ?_)
  go_simp
  refine hK.out _ _ (fun h => absurd h (by decide)) ?_
  clear hK K
  refine wpLate_one (i := 21) (by kernel_rfl) rfl (fun K hK => ?_)
  go_simp
  refine hK.out _ _ (fun h => absurd h (by decide)) ?_
  clear hK K
  refine wpLate_one (i := 22) (by kernel_rfl) rfl (fun K hK => ?_)
  go_simp
  refine hK.out _ _ (fun h => absurd h (by decide)) ?_
  clear hK K
  refine wpLate_one (i := 23) (by kernel_rfl) rfl (fun K hK => ?_)
  go_simp
  refine hK.out _ _ (fun h => absurd h (by decide)) ?_
  clear hK K
  refine wpLate_one (i := 24) (by kernel_rfl) rfl (fun K hK => ?_)
  go_simp
  refine hK.out _ _ (fun h => absurd h (by decide)) ?_
  clear hK K
  refine wpLate_one (i := 25) (by kernel_rfl) rfl (fun K hK => ?_)
  go_simp
  refine hK.out _ _ (fun h => absurd h (by decide)) ?_
  clear hK K
  refine wpLate_one (i := 26) (by kernel_rfl) rfl (fun K hK => ?_)
  go_simp
  refine hK.out _ _ (fun h => absurd h (by decide)) ?_
  clear hK K
  refine wpLate_one (i := 27) (by kernel_rfl) rfl (fun K hK => ?_)
  go_simp
  refine hK.out _ _ (fun h => absurd h (by decide)) ?_
  clear hK K
  refine wpLate_done (by kernel_rfl) ?_ _
  have cq := HCQ.out
  go_wp2_with fail
  go_ret2
  exact HF.out
end
end Go.Proofs.YtfljlcfmdcepnaaGreatDoor
