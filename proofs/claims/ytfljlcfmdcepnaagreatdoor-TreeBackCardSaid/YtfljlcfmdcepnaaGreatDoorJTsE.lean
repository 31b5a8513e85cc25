/-
  The tree: two leaves side by side are one: the walk.
-/
import Derived.Test.YtfljlcfmdcepnaaGreatDoorJTrN
namespace Go.Proofs.YtfljlcfmdcepnaaGreatDoor
open Go.RowKit
open UK (str BytesAt nth Only Row Box)
open Go.BigFrame
section
variable {W W' : World} {a b Na Ma Nb Mb kc vc ac kd vd ad : Nat} {ka va aa kb vb ab : Option Addr}
theorem CatR.kept {ao : Option Addr} {g' : Nat} (h : CatR W ao g' W') : Kept (fun j => j < W.heap.size ∧ ¬ slB ao j) W W' ∧ (slB ao g' ∨ W.heap.size ≤ g') := by
  rcases h with ⟨e, o⟩ | ⟨e, b⟩
  · exact ⟨⟨o.os, o.tape, o.output, o.size, fun j hj => o.block j hj.1 (fun e2 => hj.2 (by rw [e2]; exact e))⟩, .inl e⟩
  · exact ⟨Kept.of_below b (fun j hj => hj.1), .inr (by omega)⟩
def EvenR (Na Ma Nb Mb : Nat) (W : World) (a b : Nat) (xa xb : Nd) (κ : UInt64) (e : Ending) (w' : World) : Prop :=
  e = .returned (.tuple #[.int .u64 ((evenN xa xb κ).2.2.1.toNat : Int), .bool (evenN xa xb κ).2.2.2]) ∧
  NodeR (fun g => (Na ≤ g ∧ g < Ma) ∨ (Nb ≤ g ∧ g < Mb) ∨ (W.heap.size ≤ g ∧ g < w'.heap.size)) w' a (evenN xa xb κ).1 ∧
  ((evenN xa xb κ).2.2.2 = false → NodeR (fun g => (Na ≤ g ∧ g < Ma) ∨ (Nb ≤ g ∧ g < Mb) ∨ (W.heap.size ≤ g ∧ g < w'.heap.size)) w' b (evenN xa xb κ).2.1) ∧
  Kept (fun j => j < W.heap.size ∧ ¬ ((Na ≤ j ∧ j < Ma) ∨ (Nb ≤ j ∧ j < Mb))) W w'
set_option linter.unusedSimpArgs false in
set_option maxHeartbeats 4000000 in
set_option maxRecDepth 100000 in
theorem even_leaf_one {ks vs ls ws : List UInt64} (ha : NodeM Na Ma W a ⟨true, ks, vs, []⟩ ka va aa kc vc ac) (hb : NodeM Nb Mb W b ⟨true, ls, ws, []⟩ kb vb ab kd vd ad) (hMN : Ma ≤ Nb) (hv : vs.length = ks.length) (hw : ws.length = ls.length) (p1 : 0 < ks.length) (p2 : 0 < ls.length) (hj : ks.length + ls.length ≤ 30) (κ : UInt64) :
    Calls Tryz.prog 145 #[.pointer (some ⟨a, 0, none⟩), .pointer (some ⟨b, 0, none⟩), .int .u64 κ.toNat] W (EvenR Na Ma Nb Mb W a b ⟨true, ks, vs, []⟩ ⟨true, ls, ws, []⟩ κ) := by
  obtain ⟨oa, hal, hag⟩ := ha
  obtain ⟨ob, hbl, hbg⟩ := hb
  have a0 : W.cell? ⟨a, 0, none⟩ = some (.bool true) := oa.box.cell 0 _ rfl
  have a1 : W.cell? ⟨a, 1, none⟩ = some (.slice ka ks.length kc) := oa.box.cell 1 _ rfl
  have a2 : W.cell? ⟨a, 2, none⟩ = some (.slice va vs.length vc) := oa.box.cell 2 _ rfl
  have b1 : W.cell? ⟨b, 1, none⟩ = some (.slice kb ls.length kd) := ob.box.cell 1 _ rfl
  have b2 : W.cell? ⟨b, 2, none⟩ = some (.slice vb ws.length vd) := ob.box.cell 2 _ rfl
  have n1 : IntKind.i64.wrap ((ks.length : Int) + (ls.length : Int)) = ((ks.length + ls.length : Nat) : Int) := by rw [IntKind.wrap_i64]; omega
  have n2 : ((ks.length + ls.length : Nat) : Int) ≤ 30 := by omega
  go_enter Tryz.func145, Tryz.ntmps145
  go_upto_region 3 with (fail)
  go_cut [29] (fun dv wx => dv = .bool true ∧ ∃ n, wx = W.drewN n)
  case first =>
    go_wp2_with fail
    go_quiet (fail)
    go_wp2_with fail
    go_meet
    case rel => exact ⟨by go_simp; omega, _, rfl⟩
  case rest =>
  obtain ⟨rfl, hcut⟩ := hcut
  have bl : Below W.heap.size W wc.drew := by obtain ⟨n, rfl⟩ := hcut; exact (UK.belowN (Below.refl _ _) n).drew
  have hca := oa.next bl
  have hcb := ob.next bl
  have hla := oa.box.lt
  have hlb := ob.box.lt
  obtain ⟨g, c, w1, e1, r1, cr1⟩ := cat_u64 (W := wc.drew) (us := ks) (vs := ls) (ao := ka) (bo := kb) (c := kc) (d := kd) hca.k (by have := hcb.k.win (S := fun _ => True) (fun _ _ => trivial); rw [u64s_length] at this; exact this) p2 (by omega)
  obtain ⟨kp1, ow1⟩ := cr1.kept
  have hs1 := kp1.size
  have hs0 := bl.size
  have bk1 : ∀ j, j < W.heap.size → ¬ slB ka j → w1.heap[j]? = wc.drew.heap[j]? := fun j hj hn => kp1.block j ⟨Nat.lt_of_lt_of_le hj hs0, hn⟩
  have hav : NR w1 va vc (u64s vs) := hca.v.of_block hs1 (fun q hq => bk1 q (oa.v.lt hq) (fun h => oa.kv q h hq))
  have hbv : NR w1 vb vd (u64s ws) := hcb.v.of_block hs1 (fun q hq => bk1 q (ob.v.lt hq) (fun h => by have := hag q (.inl h); have := (ob.new q (.inr (.inl hq))).1; omega))
  have xa1 : Box w1 a #[.bool true, .slice ka ks.length kc, .slice va vs.length vc, .slice aa 0 ac] := hca.box.of_block (bk1 a hla (fun h => (oa.new a (.inl h)).2 rfl))
  have hab : a ≠ b := by have := ob.ge; omega
  have xb1 : Box w1 b #[.bool true, .slice kb ls.length kd, .slice vb ws.length vd, .slice ab 0 ad] := hcb.box.of_block (bk1 b hlb (fun h => by have := hag b (.inl h); have := ob.ge; omega))
  obtain ⟨g2, c2, w2, e2, r2, cr2⟩ := cat_u64 (W := w1) (us := vs) (vs := ws) (ao := va) (bo := vb) (c := vc) (d := vd) hav (by have := hbv.win (S := fun _ => True) (fun _ _ => trivial); rw [u64s_length] at this; exact this) (by omega) (by omega)
  obtain ⟨kp2, ow2⟩ := cr2.kept
  have hs2 := kp2.size
  have bk2 : ∀ j, j < W.heap.size → ¬ slB va j → w2.heap[j]? = w1.heap[j]? := fun j hj hn => kp2.block j ⟨by omega, hn⟩
  have xa2 : Box w2 a #[.bool true, .slice ka ks.length kc, .slice va vs.length vc, .slice aa 0 ac] := xa1.of_block (bk2 a hla (fun h => (oa.new a (.inr (.inl h))).2 rfl))
  have xb2 : Box w2 b #[.bool true, .slice kb ls.length kd, .slice vb ws.length vd, .slice ab 0 ad] := xb1.of_block (bk2 b hlb (fun h => by have := hag b (.inr (.inl h)); have := ob.ge; omega))
  have hg1 : ((Na ≤ g ∧ g < Ma) ∨ W.heap.size ≤ g) ∧ g ≠ a ∧ ¬ slB va g := by
    rcases ow1 with h | h
    · exact ⟨.inl ⟨(oa.new g (.inl h)).1, hag g (.inl h)⟩, (oa.new g (.inl h)).2, oa.kv g h⟩
    · exact ⟨.inr (by omega), by omega, fun h2 => by have := oa.v.lt h2; omega⟩
  have hg2 : ((Na ≤ g2 ∧ g2 < Ma) ∨ W.heap.size ≤ g2) ∧ g2 ≠ a := by
    rcases ow2 with h | h
    · exact ⟨.inl ⟨(oa.new g2 (.inr (.inl h))).1, hag g2 (.inr (.inl h))⟩, (oa.new g2 (.inr (.inl h))).2⟩
    · exact ⟨.inr (by omega), by omega⟩
  have r12 : Row w2 g c (u64s (ks ++ ls)) := r1.of_block hs2 (kp2.block g ⟨r1.lt, hg1.2.2⟩)
  have fin : EvenR Na Ma Nb Mb W a b ⟨true, ks, vs, []⟩ ⟨true, ls, ws, []⟩ κ (.returned (.tuple #[.int .u64 0, .bool true])) ((w2.setCell ⟨a, 1, none⟩ (.slice (some ⟨g, 0, none⟩) (ks.length + ls.length) c)).setCell ⟨a, 2, none⟩ (.slice (some ⟨g2, 0, none⟩) (vs.length + ws.length) c2)) := by
    have o3 : Only a w2 ((w2.setCell ⟨a, 1, none⟩ (.slice (some ⟨g, 0, none⟩) (ks.length + ls.length) c)).setCell ⟨a, 2, none⟩ (.slice (some ⟨g2, 0, none⟩) (vs.length + ws.length) c2)) := ((Only.refl a w2).set 1 _).set 2 _
    have x3 := (xa2.set 1 (.slice (some ⟨g, 0, none⟩) (ks.length + ls.length) c)).set 2 (.slice (some ⟨g2, 0, none⟩) (vs.length + ws.length) c2)
    generalize (w2.setCell ⟨a, 1, none⟩ (.slice (some ⟨g, 0, none⟩) (ks.length + ls.length) c)).setCell ⟨a, 2, none⟩ (.slice (some ⟨g2, 0, none⟩) (vs.length + ws.length) c2) = w3 at o3 x3
    have he : evenN ⟨true, ks, vs, []⟩ ⟨true, ls, ws, []⟩ κ = (⟨true, ks ++ ls, vs ++ ws, []⟩, ⟨true, ls, ws, []⟩, 0, true) := by
      unfold evenN
      rw [if_pos rfl, if_pos hj]
    have ra := r12.only o3 hg1.2.1
    have rb := r2.only o3 hg2.2
    unfold EvenR
    rw [he]
    refine ⟨rfl, ⟨_, _, _, x3, .inl ⟨oa.ge, hal⟩, ?_, ?_, ?_⟩, (fun h => by cases h), (o3.os.trans kp2.os).trans (kp1.os.trans bl.os), (o3.tape.trans kp2.tape).trans (kp1.tape.trans bl.tape), (o3.output.trans kp2.output).trans (kp1.output.trans bl.output), by have := o3.size; omega, fun j hj => ?_⟩
    · have := winRow (S := fun q => (Na ≤ q ∧ q < Ma) ∨ (Nb ≤ q ∧ q < Mb) ∨ (W.heap.size ≤ q ∧ q < w3.heap.size)) ra (by
        rcases hg1.1 with h | h
        · exact .inl h
        · exact .inr (.inr ⟨h, ra.lt⟩))
      rw [u64s_length, List.length_append] at this; exact this
    · have := winRow (S := fun q => (Na ≤ q ∧ q < Ma) ∨ (Nb ≤ q ∧ q < Mb) ∨ (W.heap.size ≤ q ∧ q < w3.heap.size)) rb (by
        rcases hg2.1 with h | h
        · exact .inl h
        · exact .inr (.inr ⟨h, rb.lt⟩))
      rw [u64s_length, List.length_append] at this; exact this
    · rcases oa.a with ⟨h1, h2, h3⟩ | ⟨q, h1, h2⟩
      · exact ⟨aa, ac, rfl, Nat.zero_le _, fun j u hj => by cases hj⟩
      · exact ⟨aa, ac, rfl, Nat.zero_le _, fun j u hj => by cases hj⟩
    · have hnr : ¬ (Na ≤ j ∧ j < Ma) := fun h => hj.2 (.inl h)
      rw [o3.block j (by omega) (fun e => hnr ⟨by rw [e]; exact oa.ge, by rw [e]; exact hal⟩), bk2 j hj.1 (fun h => hnr ⟨(oa.new j (.inr (.inl h))).1, hag j (.inr (.inl h))⟩), bk1 j hj.1 (fun h => hnr ⟨(oa.new j (.inl h)).1, hag j (.inl h)⟩)]
      exact bl.block j hj.1
  have a1 : wc.drew.cell? ⟨a, 1, none⟩ = some (.slice ka ks.length kc) := hca.box.cell 1 _ rfl
  have a2 : wc.drew.cell? ⟨a, 2, none⟩ = some (.slice va vs.length vc) := hca.box.cell 2 _ rfl
  have b1 : wc.drew.cell? ⟨b, 1, none⟩ = some (.slice kb ls.length kd) := hcb.box.cell 1 _ rfl
  have b2 : wc.drew.cell? ⟨b, 2, none⟩ = some (.slice vb ws.length vd) := hcb.box.cell 2 _ rfl
  have s1 : w1.cell? ⟨a, 1, none⟩ = some (.slice ka ks.length kc) ∧ w1.cell? ⟨b, 1, none⟩ = some (.slice kb ls.length kd) ∧ w1.cell? ⟨a, 2, none⟩ = some (.slice va vs.length vc) ∧ w1.cell? ⟨b, 2, none⟩ = some (.slice vb ws.length vd) := ⟨xa1.cell 1 _ rfl, xb1.cell 1 _ rfl, xa1.cell 2 _ rfl, xb1.cell 2 _ rfl⟩
  have s2 : w2.cell? ⟨a, 1, none⟩ = some (.slice ka ks.length kc) ∧ w2.cell? ⟨b, 1, none⟩ = some (.slice kb ls.length kd) ∧ w2.cell? ⟨a, 2, none⟩ = some (.slice va vs.length vc) ∧ w2.cell? ⟨b, 2, none⟩ = some (.slice vb ws.length vd) := ⟨xa2.cell 1 _ rfl, xb2.cell 1 _ rfl, xa2.cell 2 _ rfl, xb2.cell 2 _ rfl⟩
  have q1 := xa2.cell 1 _ rfl
  have q2 := xa2.cell 2 _ rfl
  have f1 := xa2.free 1
  have f2 := xa2.free 2
  have HF := Lib.hid fin
  clear fin bl hca hcb hla hlb r1 cr1 kp1 ow1 hs1 hs0 bk1 hav hbv xa1 xb1 r2 cr2 kp2 ow2 hs2 bk2 xa2 xb2 hg1 hg2 r12 oa ob hag hbg hab hcut hv hw p1 p2 hal hbl hMN
  go_wp2_with fail
  refine wp_region_any (by kernel_rfl) ?_
  refine wpAny_take (i := 0) (v := ?va0) rfl (by kernel_rfl) (by kernel_rfl) (by kernel_rfl) (fun _ _ _ h => h) (Or.inl ⟨by rfl, ?hya0⟩) ?resta0
  case hya0 => (intro w; go_simp; try with_reducible rfl)
  try simp only [Act.put, List.setIfInBounds_toArray, List.set_cons_zero, List.set_cons_succ]
  refine wpAny_take (i := 1) (v := ?va1) rfl (by kernel_rfl) (by kernel_rfl) (by kernel_rfl) (fun _ _ _ h => h) (Or.inl ⟨by rfl, ?hya1⟩) ?resta1
  case hya1 => (intro w; go_simp; try with_reducible rfl)
  try simp only [Act.put, List.setIfInBounds_toArray, List.set_cons_zero, List.set_cons_succ]
  refine wpAny_take (i := 2) (v := ?va2) rfl (by kernel_rfl) (by kernel_rfl) (by kernel_rfl) (fun _ _ _ h => h) (Or.inl ⟨by rfl, ?hya2⟩) ?resta2
  case hya2 => (intro w; go_simp; try with_reducible rfl)
  try simp only [Act.put, List.setIfInBounds_toArray, List.set_cons_zero, List.set_cons_succ]
  refine wpAny_take (i := 3) (v := ?va3) rfl (by kernel_rfl) (by kernel_rfl) (by kernel_rfl) (fun _ _ _ h => h) (Or.inl ⟨by rfl, ?hya3⟩) ?resta3
  case hya3 => (intro w; go_simp; try with_reducible rfl)
  try simp only [Act.put, List.setIfInBounds_toArray, List.set_cons_zero, List.set_cons_succ]
  refine wpAny_take (i := 4) (v := ?va4) rfl (by kernel_rfl) (by kernel_rfl) (by kernel_rfl) (fun _ _ _ h => h) (Or.inl ⟨by rfl, ?hya4⟩) ?resta4
  case hya4 => (intro w; go_simp; try with_reducible rfl)
  try simp only [Act.put, List.setIfInBounds_toArray, List.set_cons_zero, List.set_cons_succ]
  refine wpAny_take (i := 6) (v := ?va6) rfl (by kernel_rfl) (by kernel_rfl) (by kernel_rfl) (fun _ _ _ h => h) (Or.inl ⟨by rfl, ?hya6⟩) ?resta6
  case hya6 => (intro w; go_simp; try with_reducible rfl)
  try simp only [Act.put, List.setIfInBounds_toArray, List.set_cons_zero, List.set_cons_succ]
  refine wpAny_take (i := 7) (v := ?va7) rfl (by kernel_rfl) (by kernel_rfl) (by kernel_rfl) (fun _ _ _ h => h) (Or.inl ⟨by rfl, ?hya7⟩) ?resta7
  case hya7 => (intro w; go_simp; try with_reducible rfl)
  try simp only [Act.put, List.setIfInBounds_toArray, List.set_cons_zero, List.set_cons_succ]
  refine wpAny_take (i := 8) (v := ?va8) rfl (by kernel_rfl) (by kernel_rfl) (by kernel_rfl) (fun _ _ _ h => h) (Or.inl ⟨by rfl, ?hya8⟩) ?resta8
  case hya8 => (intro w; go_simp; try with_reducible rfl)
  try simp only [Act.put, List.setIfInBounds_toArray, List.set_cons_zero, List.set_cons_succ]
  refine wpAny_take (i := 11) (v := ?va11) rfl (by kernel_rfl) (by kernel_rfl) (by kernel_rfl) (fun _ _ _ h => h) (Or.inl ⟨by rfl, ?hya11⟩) ?resta11
  case hya11 => (intro w; go_simp; try with_reducible rfl)
  try simp only [Act.put, List.setIfInBounds_toArray, List.set_cons_zero, List.set_cons_succ]
  refine wpAny_take (i := 12) (v := ?va12) rfl (by kernel_rfl) (by kernel_rfl) (by kernel_rfl) (fun _ _ _ h => h) (Or.inl ⟨by rfl, ?hya12⟩) ?resta12
  case hya12 => (intro w; go_simp; try with_reducible rfl)
  try simp only [Act.put, List.setIfInBounds_toArray, List.set_cons_zero, List.set_cons_succ]
  refine wpAny_take (i := 13) (v := ?va13) rfl (by kernel_rfl) (by kernel_rfl) (by kernel_rfl) (fun _ _ _ h => h) (Or.inl ⟨by rfl, ?hya13⟩) ?resta13
  case hya13 => (intro w; go_simp; try with_reducible rfl)
  try simp only [Act.put, List.setIfInBounds_toArray, List.set_cons_zero, List.set_cons_succ]
  refine wpAny_take (i := 15) (v := ?va15) rfl (by kernel_rfl) (by kernel_rfl) (by kernel_rfl) (fun _ _ _ h => h) (Or.inl ⟨by rfl, ?hya15⟩) ?resta15
  case hya15 => (intro w; go_simp; try with_reducible rfl)
  try simp only [Act.put, List.setIfInBounds_toArray, List.set_cons_zero, List.set_cons_succ]
  refine wpAny_take (i := 16) (v := ?va16) rfl (by kernel_rfl) (by kernel_rfl) (by kernel_rfl) (fun _ _ _ h => h) (Or.inl ⟨by rfl, ?hya16⟩) ?resta16
  case hya16 => (intro w; go_simp; try with_reducible rfl)
  try simp only [Act.put, List.setIfInBounds_toArray, List.set_cons_zero, List.set_cons_succ]
  refine wpAny_take (i := 17) (v := ?va17) rfl (by kernel_rfl) (by kernel_rfl) (by kernel_rfl) (fun _ _ _ h => h) (Or.inl ⟨by rfl, ?hya17⟩) ?resta17
  case hya17 => (intro w; go_simp; try with_reducible rfl)
  try simp only [Act.put, List.setIfInBounds_toArray, List.set_cons_zero, List.set_cons_succ]
  have hS0 : (fun w' : World => w'.cell? ⟨a, 1, none⟩ = some (.slice ka ks.length kc) ∧ w'.cell? ⟨b, 1, none⟩ = some (.slice kb ls.length kd) ∧ w'.cell? ⟨a, 2, none⟩ = some (.slice va vs.length vc) ∧ w'.cell? ⟨b, 2, none⟩ = some (.slice vb ws.length vd)) wc.drew := ⟨a1, b1, a2, b2⟩
  refine wpAny_of_late (S := fun w' => w'.cell? ⟨a, 1, none⟩ = some (.slice ka ks.length kc) ∧ w'.cell? ⟨b, 1, none⟩ = some (.slice kb ls.length kd) ∧ w'.cell? ⟨a, 2, none⟩ = some (.slice va vs.length vc) ∧ w'.cell? ⟨b, 2, none⟩ = some (.slice vb ws.length vd)) (late := fun j => decide (20 ≤ j)) _ _ _ _ ?_
  change wpLate _ _ _ _ _ _ _ _ _ (wc.drew)
  refine wpLate_take (i := 5) (v := ?va5) rfl (by kernel_rfl) (by kernel_rfl) (by kernel_rfl) (by kernel_rfl) (fun _ _ _ h => h) hS0 (by rfl) ?hya5 ?resta5
  case hya5 => (intro w hSw; (try dsimp only at hSw); go_simp; try with_reducible rfl)
  try simp only [Act.put, List.setIfInBounds_toArray, List.set_cons_zero, List.set_cons_succ]
  refine wpLate_take (i := 9) (v := ?va9) rfl (by kernel_rfl) (by kernel_rfl) (by kernel_rfl) (by kernel_rfl) (fun _ _ _ h => h) hS0 (by rfl) ?hya9 ?resta9
  case hya9 => (intro w hSw; (try dsimp only at hSw); go_simp; try with_reducible rfl)
  try simp only [Act.put, List.setIfInBounds_toArray, List.set_cons_zero, List.set_cons_succ]
  refine wpLate_take (i := 14) (v := ?va14) rfl (by kernel_rfl) (by kernel_rfl) (by kernel_rfl) (by kernel_rfl) (fun _ _ _ h => h) hS0 (by rfl) ?hya14 ?resta14
  case hya14 => (intro w hSw; (try dsimp only at hSw); go_simp; try with_reducible rfl)
  try simp only [Act.put, List.setIfInBounds_toArray, List.set_cons_zero, List.set_cons_succ]
  refine wpLate_take (i := 18) (v := ?va18) rfl (by kernel_rfl) (by kernel_rfl) (by kernel_rfl) (by kernel_rfl) (fun _ _ _ h => h) hS0 (by rfl) ?hya18 ?resta18
  case hya18 => (intro w hSw; (try dsimp only at hSw); go_simp; try with_reducible rfl)
  try simp only [Act.put, List.setIfInBounds_toArray, List.set_cons_zero, List.set_cons_succ]
  clear hS0
  refine wpLate_one (i := 10) (by kernel_rfl) rfl (fun K hK => ?_)
  refine UK.step_append_run e1 rfl rfl rfl (by simp [Act.eval]) (by simp [Act.eval]) ?_
  refine hK.out _ _ (fun _ => s1) ?_
  clear hK K
  try simp only [Act.put, List.setIfInBounds_toArray, List.set_cons_zero, List.set_cons_succ]
  refine wpLate_one (i := 19) (by kernel_rfl) rfl (fun K hK => ?_)
  refine UK.step_append_run e2 rfl rfl rfl (by simp [Act.eval]) (by simp [Act.eval]) ?_
  refine hK.out _ _ (fun _ => s2) ?_
  clear hK K
  try simp only [Act.put, List.setIfInBounds_toArray, List.set_cons_zero, List.set_cons_succ]
  refine wpLate_one (i := 20) (by kernel_rfl) rfl (fun K hK => ?_)
  go_simp
  refine hK.out _ _ (fun h => absurd h (by decide)) ?_
  clear hK K
  refine wpLate_one (i := 21) (by kernel_rfl) rfl (fun K hK => ?_)
  go_simp
  refine hK.out _ _ (fun h => absurd h (by decide)) ?_
  clear hK K
  refine wpLate_one (i := 22) (by kernel_rfl) rfl (fun K hK => ?_)
  go_simp
  refine hK.out _ _ (fun h => absurd h (by decide)) ?_
  clear hK K
  refine wpLate_one (i := 23) (by kernel_rfl) rfl (fun K hK => ?_)
  go_simp
  refine hK.out _ _ (fun h => absurd h (by decide)) ?_
  clear hK K
  refine wpLate_one (i := 24) (by kernel_rfl) rfl (fun K hK => ?_)
  go_simp
  refine hK.out _ _ (fun h => absurd h (by decide)) ?_
  clear hK K
  refine wpLate_one (i := 25) (by kernel_rfl) rfl (fun K hK => ?_)
  go_simp
  refine hK.out _ _ (fun h => absurd h (by decide)) ?_
  clear hK K
  refine wpLate_done (by kernel_rfl) ?_ _
  go_wp2_with fail
  go_ret2
  exact HF.out
end
end Go.Proofs.YtfljlcfmdcepnaaGreatDoor
