/-
  A tree that is one leaf: put of a new key: the walk.
-/
import Derived.Test.YthjnfclebeggaaaDoorLate
import Derived.OwnWalk
namespace Go.Proofs.YthjnfclebeggaaaDoor
open Go.RowKit
open UK (str BytesAt nth Only Row Box w32)
open Go.BigFrame
section
variable {E : Nat → Prop} {W W' : World} {P D T k pg N M nb kc vc ac : Nat} {root : Int} {A : AP} {x : Nd} {ka va aa : Option Addr}
set_option linter.unusedSimpArgs false in
set_option maxHeartbeats 8000000 in
set_option maxRecDepth 100000 in
theorem put_new {rt : Nat} {ks vs : List UInt64} (h : TreeAt E W P D T rt A k) (hk : k + 5 < 900000000) (hl : LeafIs A pg ks vs) (hn : ks.length < 30) (key v : UInt64) (hno : key ∉ ks) (deep : Nat) (hd : deep ≤ 20) :
    Calls Tryd.prog 68 #[.pointer (some ⟨T, 0, none⟩), .int .i64 pg, .int .u64 key.toNat, .int .u64 v.toNat, .int .i64 deep] W fun e w' => PutL E W w' P D T rt A (k + 5) pg ks vs key v e := by
  have HL := Lib.hid (load_leaf h.pz (by omega) h.box hl.has hl.head)
  have HH := Lib.hid (And.intro h hl)
  clear h hl
  go_enter Tryd.func68, Tryd.ntmps68
  go_wp2_with fail
  refine HL.out.mono ?_
  rintro e w1 ⟨N, M, nb, ka, va, kc, vc, rfl, hN, hM, ⟨hn1, hnM, hgM⟩, p1, k1⟩
  obtain ⟨h, hl⟩ := HH.out
  rw [hl.keys, hl.vals] at hn1
  have b0 : w1.cell? ⟨nb, 0, none⟩ = some (.bool true) := hn1.box.cell 0 _ rfl
  have b1 : w1.cell? ⟨nb, 1, none⟩ = some (.slice ka ks.length kc) := hn1.box.cell 1 _ rfl
  have b2 : w1.cell? ⟨nb, 2, none⟩ = some (.slice va vs.length vc) := hn1.box.cell 2 _ rfl
  have hS := search_any (hn1.k.win (S := fun _ => True) (fun _ _ => trivial)) hl.up (show ks.length ≤ 1000 by omega) key
  rw [u64s_length] at hS
  rw [decide_eq_false hno] at hS
  have HS := Lib.hid hS
  have H1 := Lib.hid (And.intro hN (And.intro hM (And.intro hn1 (And.intro hnM (And.intro hgM (And.intro p1 k1))))))
  clear HL hn1 hnM hgM p1 k1 hS hN hM
  go_wp2_with fail
  refine HS.out.mono ?_
  rintro e w2 ⟨i, rfl, hst, rfl⟩
  obtain ⟨hN, hM, hn1, hnM, hgM, p1, k1⟩ := H1.out
  have hlv := hl.len
  have hNs : N ≤ w2.heap.size := by have := hn1.ge; omega
  have HI1 := Lib.hid (fun (wa : World) (vb : Nat) (ba : Below w2.heap.size w2 wa) (hv : Box wa vb #[.int .u64 (key.toNat : Int)]) (hvb : w2.heap.size ≤ vb) => (show Calls Tryd.prog 119 #[.slice ka ks.length kc, .int .i64 i, .slice (some ⟨vb, 0, none⟩) 1 1] wa fun e w' => ∃ g c, e = .returned (.slice (some ⟨g, 0, none⟩) (ks.length + 1) c) ∧ Mid1 N w2 w' nb { leaf := true, keys := ks, vals := vs, kids := [] } ka va none kc vc 0 (ks.take i ++ key :: ks.drop i) g c ∧ (∀ vb' cs, w2.heap.size ≤ vb' → Box wa vb' cs → Box w' vb' cs) ∧ Box w' nb #[.bool true, .slice ka ks.length kc, .slice va vs.length vc, .slice none 0 0] from
    (insert_any (hn1.next ba).k (show ks.length ≤ 1000 by omega) hst.le key hv (fun e => by have := hn1.k.lt e; omega)).mono (fun e w' ⟨g', c', he, r, o, hg⟩ =>
      ⟨g', c', by rw [he]; simp only [List.length_append, List.length_take, List.length_cons, List.length_drop]; rw [show min i ks.length + (ks.length - i + 1) = ks.length + 1 by have := hst.le; omega], hn1.mid1 hNs ba r o hg, fun vb' cs hv' hb => hb.only o (fun e => by
        rcases hg with h1 | h1
        · have := hn1.k.lt h1; omega
        · have := hb.lt; omega), (hn1.mid1 hNs ba r o hg).box⟩)))
  have HI2 := Lib.hid (fun (wb : World) (vb : Nat) (mm : ∃ g c, Mid1 N w2 wb nb { leaf := true, keys := ks, vals := vs, kids := [] } ka va none kc vc 0 (ks.take i ++ key :: ks.drop i) g c) (hv : Box wb vb #[.int .u64 (v.toNat : Int)]) (hvb : w2.heap.size ≤ vb) => (show Calls Tryd.prog 119 #[.slice va vs.length vc, .int .i64 i, .slice (some ⟨vb, 0, none⟩) 1 1] wb fun e w' => ∃ g2 c2, e = .returned (.slice (some ⟨g2, 0, none⟩) (ks.length + 1) c2) ∧ (Row w' g2 c2 (u64s (vs.take i ++ v :: vs.drop i)) ∧ Only g2 wb w' ∧ (slB va g2 ∨ wb.heap.size ≤ g2)) ∧ w'.cell? ⟨nb, 1, none⟩ = some (.slice ka ks.length kc) ∧ w'.cell? ⟨nb, 2, none⟩ = some (.slice va vs.length vc) ∧ w'.frozen? ⟨nb, 1, none⟩ = false ∧ w'.frozen? ⟨nb, 2, none⟩ = false from
    let ⟨_, _, m⟩ := mm
    (insert_any m.v (show vs.length ≤ 1000 by omega) (show i ≤ vs.length by rw [hlv]; exact hst.le) v hv (fun e => by have := hn1.v.lt e; omega)).mono (fun e w' ⟨g', c', he, r, o, hg⟩ => by
      have hd := (m.done hn1 r o hg).2.2.1
      exact ⟨g', c', by rw [he]; simp only [List.length_append, List.length_take, List.length_cons, List.length_drop]; rw [show min i vs.length + (vs.length - i + 1) = ks.length + 1 by have := hst.le; omega], ⟨r, o, hg⟩, hd.cell 1 _ rfl, hd.cell 2 _ rfl, hd.free 1, hd.free 2⟩)))
  have hb2 : Box w2 nb #[.bool true, .slice ka ks.length kc, .slice va vs.length vc, .slice none 0 0] := hn1.box
  have hSO : ∀ w : World, Box w nb #[.bool true, .slice ka ks.length kc, .slice va vs.length vc, .slice none 0 0] → w.cell? ⟨nb, 1, none⟩ = some (.slice ka ks.length kc) ∧ w.cell? ⟨nb, 2, none⟩ = some (.slice va vs.length vc) := fun w hb => ⟨hb.cell 1 _ rfl, hb.cell 2 _ rfl⟩
  have HP := Lib.hid (fun (wb w' : World) (g c g2 c2 : Nat) (m : Mid1 N w2 wb nb { leaf := true, keys := ks, vals := vs, kids := [] } ka va none kc vc 0 (ks.take i ++ key :: ks.drop i) g c) (l2 : Row w' g2 c2 (u64s (vs.take i ++ v :: vs.drop i)) ∧ Only g2 wb w' ∧ (slB va g2 ∨ wb.heap.size ≤ g2)) => (show PutM N w2 ((w'.setCell ⟨nb, 1, none⟩ (.slice (some ⟨g, 0, none⟩) (ks.length + 1) c)).setCell ⟨nb, 2, none⟩ (.slice (some ⟨g2, 0, none⟩) (ks.length + 1) c2)) nb ka va (ks.take i ++ key :: ks.drop i) (vs.take i ++ v :: vs.drop i) from
    putM_of hn1 hst.le hlv m l2.1 l2.2.1 l2.2.2))
  have HI := Lib.hid (And.intro hst.le (And.intro hlv hst))
  clear hn1 hgM p1 k1 hst HS hlv
  go_upto_region 11 with (fail)
  go_cut [] (fun wx => PutM N w2 wx nb ka va (ks.take i ++ key :: ks.drop i) (vs.take i ++ v :: vs.drop i))
  case first =>
    refine wp_region_any (by kernel_rfl) ?_
    refine wpAny_take (i := 0) (v := ?v0) rfl (by kernel_rfl) (by kernel_rfl) (by kernel_rfl) (fun _ _ _ h => h) (Or.inl ⟨by rfl, ?hy0⟩) ?rest0
    case hy0 => (intro w; go_simp; try with_reducible rfl)
    try simp only [Act.put, List.setIfInBounds_toArray, List.set_cons_zero, List.set_cons_succ]
    refine wpAny_take (i := 1) (v := ?v1) rfl (by kernel_rfl) (by kernel_rfl) (by kernel_rfl) (fun _ _ _ h => h) (Or.inl ⟨by rfl, ?hy1⟩) ?rest1
    case hy1 => (intro w; go_simp; try with_reducible rfl)
    try simp only [Act.put, List.setIfInBounds_toArray, List.set_cons_zero, List.set_cons_succ]
    refine wpAny_take (i := 2) (v := ?v2) rfl (by kernel_rfl) (by kernel_rfl) (by kernel_rfl) (fun _ _ _ h => h) (Or.inl ⟨by rfl, ?hy2⟩) ?rest2
    case hy2 => (intro w; go_simp; try with_reducible rfl)
    try simp only [Act.put, List.setIfInBounds_toArray, List.set_cons_zero, List.set_cons_succ]
    refine wpAny_take (i := 3) (v := ?v3) rfl (by kernel_rfl) (by kernel_rfl) (by kernel_rfl) (fun _ _ _ h => h) (Or.inl ⟨by rfl, ?hy3⟩) ?rest3
    case hy3 => (intro w; go_simp; try with_reducible rfl)
    try simp only [Act.put, List.setIfInBounds_toArray, List.set_cons_zero, List.set_cons_succ]
    refine wpAny_take (i := 4) (v := ?v4) rfl (by kernel_rfl) (by kernel_rfl) (by kernel_rfl) (fun _ _ _ h => h) (Or.inl ⟨by rfl, ?hy4⟩) ?rest4
    case hy4 => (intro w; go_simp; try with_reducible rfl)
    try simp only [Act.put, List.setIfInBounds_toArray, List.set_cons_zero, List.set_cons_succ]
    refine wpAny_take (i := 6) (v := ?v6) rfl (by kernel_rfl) (by kernel_rfl) (by kernel_rfl) (fun _ _ _ h => h) (Or.inl ⟨by rfl, ?hy6⟩) ?rest6
    case hy6 => (intro w; go_simp; try with_reducible rfl)
    try simp only [Act.put, List.setIfInBounds_toArray, List.set_cons_zero, List.set_cons_succ]
    refine wpAny_take (i := 7) (v := ?v7) rfl (by kernel_rfl) (by kernel_rfl) (by kernel_rfl) (fun _ _ _ h => h) (Or.inl ⟨by rfl, ?hy7⟩) ?rest7
    case hy7 => (intro w; go_simp; try with_reducible rfl)
    try simp only [Act.put, List.setIfInBounds_toArray, List.set_cons_zero, List.set_cons_succ]
    refine wpAny_take (i := 10) (v := ?v10) rfl (by kernel_rfl) (by kernel_rfl) (by kernel_rfl) (fun _ _ _ h => h) (Or.inl ⟨by rfl, ?hy10⟩) ?rest10
    case hy10 => (intro w; go_simp; try with_reducible rfl)
    try simp only [Act.put, List.setIfInBounds_toArray, List.set_cons_zero, List.set_cons_succ]
    refine wpAny_take (i := 11) (v := ?v11) rfl (by kernel_rfl) (by kernel_rfl) (by kernel_rfl) (fun _ _ _ h => h) (Or.inl ⟨by rfl, ?hy11⟩) ?rest11
    case hy11 => (intro w; go_simp; try with_reducible rfl)
    try simp only [Act.put, List.setIfInBounds_toArray, List.set_cons_zero, List.set_cons_succ]
    refine wpAny_take (i := 12) (v := ?v12) rfl (by kernel_rfl) (by kernel_rfl) (by kernel_rfl) (fun _ _ _ h => h) (Or.inl ⟨by rfl, ?hy12⟩) ?rest12
    case hy12 => (intro w; go_simp; try with_reducible rfl)
    try simp only [Act.put, List.setIfInBounds_toArray, List.set_cons_zero, List.set_cons_succ]
    refine wpAny_take (i := 14) (v := ?v14) rfl (by kernel_rfl) (by kernel_rfl) (by kernel_rfl) (fun _ _ _ h => h) (Or.inl ⟨by rfl, ?hy14⟩) ?rest14
    case hy14 => (intro w; go_simp; try with_reducible rfl)
    try simp only [Act.put, List.setIfInBounds_toArray, List.set_cons_zero, List.set_cons_succ]
    refine wpAny_take (i := 15) (v := ?v15) rfl (by kernel_rfl) (by kernel_rfl) (by kernel_rfl) (fun _ _ _ h => h) (Or.inl ⟨by rfl, ?hy15⟩) ?rest15
    case hy15 => (intro w; go_simp; try with_reducible rfl)
    try simp only [Act.put, List.setIfInBounds_toArray, List.set_cons_zero, List.set_cons_succ]
    have hS0 : (fun w' : World => w'.cell? ⟨nb, 1, none⟩ = some (.slice ka ks.length kc) ∧ w'.cell? ⟨nb, 2, none⟩ = some (.slice va vs.length vc)) w2.drew := ⟨b1, b2⟩
    refine wpAny_of_late (S := fun w' => w'.cell? ⟨nb, 1, none⟩ = some (.slice ka ks.length kc) ∧ w'.cell? ⟨nb, 2, none⟩ = some (.slice va vs.length vc)) (late := fun j => decide (18 ≤ j)) _ _ _ _ ?_
    change wpLate _ _ _ _ _ _ _ _ _ w2.drew
    refine wpLate_take (i := 5) (v := ?v5) rfl (by kernel_rfl) (by kernel_rfl) (by kernel_rfl) (by kernel_rfl) (fun _ _ _ h => h) hS0 (by rfl) ?hy5 ?rest5
    case hy5 => (intro w hSw; (try dsimp only at hSw); go_simp; try with_reducible rfl)
    try simp only [Act.put, List.setIfInBounds_toArray, List.set_cons_zero, List.set_cons_succ]
    refine wpLate_take (i := 13) (v := ?v13) rfl (by kernel_rfl) (by kernel_rfl) (by kernel_rfl) (by kernel_rfl) (fun _ _ _ h => h) hS0 (by rfl) ?hy13 ?rest13
    case hy13 => (intro w hSw; (try dsimp only at hSw); go_simp; try with_reducible rfl)
    try simp only [Act.put, List.setIfInBounds_toArray, List.set_cons_zero, List.set_cons_succ]
    clear hS0
    refine wpLate_two (i := 8) (j := 16) (by kernel_rfl) rfl rfl (fun K hK => ?_) (fun K hK => ?_)
    · go_simp
      refine hK.out _ _ (fun _ => ?_) ?_
      · exact hSO _ (by (repeat (first | assumption | with_reducible apply boxd | with_reducible apply boxa)))
      clear hK K
      refine wpLate_two (i := 9) (j := 16) (by kernel_rfl) rfl rfl (fun K hK => ?_) (fun K hK => ?_)
      · go_simp
        refine (HI1.out _ _ ?_ ?_ ?_).mono ?_
        · (repeat (first | with_reducible exact Below.refl _ _ | with_reducible apply bel_alloc | with_reducible apply bel_drew))
        · (repeat (first | (focus ((with_reducible refine box_at ?_); simp; done)) | with_reducible apply boxd | with_reducible apply boxa))
        · (first | exact Nat.le_refl _ | simp)
        rintro e w3 ⟨g, c, rfl, m1, mb, hb3⟩
        (try dsimp only)
        refine hK.out _ _ (fun _ => ?_) ?_
        · exact hSO _ (by (repeat (first | assumption | with_reducible apply boxd | with_reducible apply boxa)))
        clear hK K
        refine wpLate_one (i := 16) (by kernel_rfl) rfl (fun K hK => ?_)
        go_simp
        refine hK.out _ _ (fun _ => ?_) ?_
        · exact hSO _ (by (repeat (first | assumption | with_reducible apply boxd | with_reducible apply boxa)))
        clear hK K
        refine wpLate_one (i := 17) (by kernel_rfl) rfl (fun K hK => ?_)
        go_simp
        refine (HI2.out _ _ ?_ ?_ ?_).mono ?_
        · exact ⟨_, _, Mid1.next m1 (by repeat (first | with_reducible exact Below.refl _ _ | with_reducible apply bel_alloc | with_reducible apply bel_drew))⟩
        · (repeat (first | (focus ((with_reducible refine box_at ?_); simp; done)) | with_reducible apply boxd | with_reducible apply boxa | (refine mb _ _ ?_ ?_; focus (simp; done))))
        · (first | (focus (simp; done)) | (focus (refine Nat.le_trans m1.kept.size ?_; simp; done)))
        rintro e w4 ⟨g2, c2, rfl, l2, s1, s2, q1, q2⟩
        (try dsimp only)
        refine hK.out _ _ (fun _ => ⟨s1, s2⟩) ?_
        clear hK K
        refine wpLate_one (i := 18) (by kernel_rfl) rfl (fun K hK => ?_)
        go_simp
        refine hK.out _ _ (fun h => absurd h (by decide)) ?_
        clear hK K
        refine wpLate_one (i := 19) (by kernel_rfl) rfl (fun K hK => ?_)
        go_simp
        refine hK.out _ _ (fun h => absurd h (by decide)) ?_
        clear hK K
        refine wpLate_one (i := 20) (by kernel_rfl) rfl (fun K hK => ?_)
        go_simp
        refine hK.out _ _ (fun h => absurd h (by decide)) ?_
        clear hK K
        refine wpLate_one (i := 21) (by kernel_rfl) rfl (fun K hK => ?_)
        go_simp
        refine hK.out _ _ (fun h => absurd h (by decide)) ?_
        clear hK K
        refine wpLate_one (i := 22) (by kernel_rfl) rfl (fun K hK => ?_)
        go_simp
        refine hK.out _ _ (fun h => absurd h (by decide)) ?_
        clear hK K
        refine wpLate_one (i := 23) (by kernel_rfl) rfl (fun K hK => ?_)
        go_simp
        refine hK.out _ _ (fun h => absurd h (by decide)) ?_
        clear hK K
        refine wpLate_done (by kernel_rfl) ?_ _
        go_wp2_with fail
        go_meet
        case rel => exact HP.out _ _ _ _ _ _ (Mid1.next m1 (by repeat (first | with_reducible exact Below.refl _ _ | with_reducible apply bel_alloc | with_reducible apply bel_drew))) l2
      · go_simp
        refine hK.out _ _ (fun _ => ?_) ?_
        · exact hSO _ (by (repeat (first | assumption | with_reducible apply boxd | with_reducible apply boxa)))
        clear hK K
        refine wpLate_one (i := 9) (by kernel_rfl) rfl (fun K hK => ?_)
        go_simp
        refine (HI1.out _ _ ?_ ?_ ?_).mono ?_
        · (repeat (first | with_reducible exact Below.refl _ _ | with_reducible apply bel_alloc | with_reducible apply bel_drew))
        · (repeat (first | (focus ((with_reducible refine box_at ?_); simp; done)) | with_reducible apply boxd | with_reducible apply boxa))
        · (first | exact Nat.le_refl _ | simp)
        rintro e w3 ⟨g, c, rfl, m1, mb, hb3⟩
        (try dsimp only)
        refine hK.out _ _ (fun _ => ?_) ?_
        · exact hSO _ (by (repeat (first | assumption | with_reducible apply boxd | with_reducible apply boxa)))
        clear hK K
        refine wpLate_one (i := 17) (by kernel_rfl) rfl (fun K hK => ?_)
        go_simp
        refine (HI2.out _ _ ?_ ?_ ?_).mono ?_
        · exact ⟨_, _, Mid1.next m1 (by repeat (first | with_reducible exact Below.refl _ _ | with_reducible apply bel_alloc | with_reducible apply bel_drew))⟩
        · (repeat (first | (focus ((with_reducible refine box_at ?_); simp; done)) | with_reducible apply boxd | with_reducible apply boxa | (refine mb _ _ ?_ ?_; focus (simp; done))))
        · (first | (focus (simp; done)) | (focus (refine Nat.le_trans m1.kept.size ?_; simp; done)))
        rintro e w4 ⟨g2, c2, rfl, l2, s1, s2, q1, q2⟩
        (try dsimp only)
        refine hK.out _ _ (fun _ => ⟨s1, s2⟩) ?_
        clear hK K
        refine wpLate_one (i := 18) (by kernel_rfl) rfl (fun K hK => ?_)
        go_simp
        refine hK.out _ _ (fun h => absurd h (by decide)) ?_
        clear hK K
        refine wpLate_one (i := 19) (by kernel_rfl) rfl (fun K hK => ?_)
        go_simp
        refine hK.out _ _ (fun h => absurd h (by decide)) ?_
        clear hK K
        refine wpLate_one (i := 20) (by kernel_rfl) rfl (fun K hK => ?_)
        go_simp
        refine hK.out _ _ (fun h => absurd h (by decide)) ?_
        clear hK K
        refine wpLate_one (i := 21) (by kernel_rfl) rfl (fun K hK => ?_)
        go_simp
        refine hK.out _ _ (fun h => absurd h (by decide)) ?_
        clear hK K
        refine wpLate_one (i := 22) (by kernel_rfl) rfl (fun K hK => ?_)
        go_simp
        refine hK.out _ _ (fun h => absurd h (by decide)) ?_
        clear hK K
        refine wpLate_one (i := 23) (by kernel_rfl) rfl (fun K hK => ?_)
        go_simp
        refine hK.out _ _ (fun h => absurd h (by decide)) ?_
        clear hK K
        refine wpLate_done (by kernel_rfl) ?_ _
        go_wp2_with fail
        go_meet
        case rel => exact HP.out _ _ _ _ _ _ (Mid1.next m1 (by repeat (first | with_reducible exact Below.refl _ _ | with_reducible apply bel_alloc | with_reducible apply bel_drew))) l2
    · go_simp
      refine hK.out _ _ (fun _ => ?_) ?_
      · exact hSO _ (by (repeat (first | assumption | with_reducible apply boxd | with_reducible apply boxa)))
      clear hK K
      refine wpLate_one (i := 8) (by kernel_rfl) rfl (fun K hK => ?_)
      go_simp
      refine hK.out _ _ (fun _ => ?_) ?_
      · exact hSO _ (by (repeat (first | assumption | with_reducible apply boxd | with_reducible apply boxa)))
      clear hK K
      refine wpLate_one (i := 9) (by kernel_rfl) rfl (fun K hK => ?_)
      go_simp
      refine (HI1.out _ _ ?_ ?_ ?_).mono ?_
      · (repeat (first | with_reducible exact Below.refl _ _ | with_reducible apply bel_alloc | with_reducible apply bel_drew))
      · (repeat (first | (focus ((with_reducible refine box_at ?_); simp; done)) | with_reducible apply boxd | with_reducible apply boxa))
      · (first | exact Nat.le_refl _ | simp)
      rintro e w3 ⟨g, c, rfl, m1, mb, hb3⟩
      (try dsimp only)
      refine hK.out _ _ (fun _ => ?_) ?_
      · exact hSO _ (by (repeat (first | assumption | with_reducible apply boxd | with_reducible apply boxa)))
      clear hK K
      refine wpLate_one (i := 17) (by kernel_rfl) rfl (fun K hK => ?_)
      go_simp
      refine (HI2.out _ _ ?_ ?_ ?_).mono ?_
      · exact ⟨_, _, Mid1.next m1 (by repeat (first | with_reducible exact Below.refl _ _ | with_reducible apply bel_alloc | with_reducible apply bel_drew))⟩
      · (repeat (first | (focus ((with_reducible refine box_at ?_); simp; done)) | with_reducible apply boxd | with_reducible apply boxa | (refine mb _ _ ?_ ?_; focus (simp; done))))
      · (first | (focus (simp; done)) | (focus (refine Nat.le_trans m1.kept.size ?_; simp; done)))
      rintro e w4 ⟨g2, c2, rfl, l2, s1, s2, q1, q2⟩
      (try dsimp only)
      refine hK.out _ _ (fun _ => ⟨s1, s2⟩) ?_
      clear hK K
      refine wpLate_one (i := 18) (by kernel_rfl) rfl (fun K hK => ?_)
      go_simp
      refine hK.out _ _ (fun h => absurd h (by decide)) ?_
      clear hK K
      refine wpLate_one (i := 19) (by kernel_rfl) rfl (fun K hK => ?_)
      go_simp
      refine hK.out _ _ (fun h => absurd h (by decide)) ?_
      clear hK K
      refine wpLate_one (i := 20) (by kernel_rfl) rfl (fun K hK => ?_)
      go_simp
      refine hK.out _ _ (fun h => absurd h (by decide)) ?_
      clear hK K
      refine wpLate_one (i := 21) (by kernel_rfl) rfl (fun K hK => ?_)
      go_simp
      refine hK.out _ _ (fun h => absurd h (by decide)) ?_
      clear hK K
      refine wpLate_one (i := 22) (by kernel_rfl) rfl (fun K hK => ?_)
      go_simp
      refine hK.out _ _ (fun h => absurd h (by decide)) ?_
      clear hK K
      refine wpLate_one (i := 23) (by kernel_rfl) rfl (fun K hK => ?_)
      go_simp
      refine hK.out _ _ (fun h => absurd h (by decide)) ?_
      clear hK K
      refine wpLate_done (by kernel_rfl) ?_ _
      go_wp2_with fail
      go_meet
      case rel => exact HP.out _ _ _ _ _ _ (Mid1.next m1 (by repeat (first | with_reducible exact Below.refl _ _ | with_reducible apply bel_alloc | with_reducible apply bel_drew))) l2
  case rest =>
    obtain ⟨hN, hM, hn1, hnM, hgM, p1, k1⟩ := H1.out
    obtain ⟨h, hl⟩ := HH.out
    obtain ⟨p2, hr, hbx, k2⟩ := putM_next h hN hn1 hnM hgM p1 k1 hcut
    have hle := HI.out.1
    have hlv := HI.out.2.1
    have hst := HI.out.2.2
    have e1 : (ks.take i ++ key :: ks.drop i).length = ks.length + 1 := by simp; omega
    have e2 : (vs.take i ++ v :: vs.drop i).length = ks.length + 1 := by simp; omega
    have HF := Lib.hid (full_leaf hr (show (ks.take i ++ key :: ks.drop i).length ≤ 30 by omega) rfl)
    have HS2 := Lib.hid (store_leaf p2 (by omega) hbx hl.has hr rfl (show (ks.take i ++ key :: ks.drop i).length ≤ 30 by omega) (e2.trans e1.symm))
    have HE := Lib.hid (And.intro hst (And.intro hbx k2))
    have HB := Lib.hid (fun (w' : World) (p3 : PZ (fun j => E j ∨ (N ≤ j ∧ j < M) ∨ (w2.heap.size ≤ j ∧ j < wc.heap.size)) w' P D (A.wrote pg (encLeaf (A.c pg) (ks.take i ++ key :: ks.drop i) (vs.take i ++ v :: vs.drop i))) (k + 2 + 3)) (k3 : Kept (fun j => E j ∨ (N ≤ j ∧ j < M) ∨ (w2.heap.size ≤ j ∧ j < wc.heap.size)) wc w') => (show PutL E W w' P D T rt A (k + 5) pg ks vs key v (.returned (.tuple #[.int .i64 0, .int .u64 0, .int .i64 0])) from
      ⟨i, rfl, hst, ⟨p3.less (fun _ hj => .inl hj), hbx.of_block (k3.block T (.inl h.mem)), h.mem⟩, k2.trans (k3.mono (fun _ hj => .inl hj))⟩))
    clear H1 HH hcut hN hM hn1 hnM hgM p1 k1 h hl p2 hr hbx k2 hle hlv hst e1 e2 HE HI HI1 HI2 HP
    go_wp2_with fail
    refine HF.out.mono ?_
    rintro e w5 ⟨rfl, rfl⟩
    go_wp2_with fail
    refine HS2.out.mono ?_
    rintro e w6 ⟨rfl, p3, k3⟩
    go_wp2
    go_ret3
    exact HB.out _ p3 k3
end
end Go.Proofs.YthjnfclebeggaaaDoor
