/-
  The tree: put at an inner node, with what the call below does: the walk.
-/
import Derived.Test.YtfljlcfmdcepnaaGreatDoorJTrN
namespace Go.Proofs.YtfljlcfmdcepnaaGreatDoor
open Go.RowKit
open UK (str BytesAt nth Only Row Box)
open Go.BigFrame
section
variable {E : Nat → Prop} {W W' : World} {P D T k pg : Nat} {A : AP}
set_option linter.unusedSimpArgs false in
set_option maxHeartbeats 8000000 in
set_option maxRecDepth 100000 in
theorem put_inner {rt d K0 i c : Nat} {keys : List UInt64} {kids : List Nat} (h : TreeAt E W P D T rt A k) (hk : k + K0 + 8 < 900000000) (hp : A.Has pg) (hy : ndAt A pg = some ⟨false, keys, [], kids⟩) (hs : Sorted keys) (hl : keys.length ≤ 100) (hlk : kids.length = keys.length + 1) (key v : UInt64) (deep : Nat) (hd : deep ≤ 20)
    (hki : KidIx keys key i) (hc : kids[i]? = some c)
    (hrec : ∀ (E1 : Nat → Prop) (w1 : World), TreeAt E1 w1 P D T rt A (k + 2) → Calls Tryz.prog 75 #[.pointer (some ⟨T, 0, none⟩), .int .i64 c, .int .u64 key.toNat, .int .u64 v.toNat, .int .i64 ((deep : Int) + 1)] w1 fun e w' => PutR E1 w1 w' P D T rt A (k + 2 + K0) c d key v e)
    (hok : ∀ (B : AP) (more : Nat) (κ : UInt64) (er : Int), PutS key v d A c B more κ er → (er ≠ 0 ∨ more = 0) ∨ (er = 0 ∧ more ≠ 0 ∧ B.Has pg ∧ NdOk ⟨false, keys.take i ++ κ :: keys.drop i, [], kids.take (i + 1) ++ more :: kids.drop (i + 1)⟩)) :
    Calls Tryz.prog 75 #[.pointer (some ⟨T, 0, none⟩), .int .i64 pg, .int .u64 key.toNat, .int .u64 v.toNat, .int .i64 deep] W fun e w' => PutR E W w' P D T rt A (k + K0 + 8) pg (d + 1) key v e := by
  have HL := Lib.hid (load_any h.pz (by omega) h.box hp hy)
  have HH := Lib.hid (And.intro h (And.intro hp (And.intro hy hlk)))
  have HO := Lib.hid hok
  have HR := Lib.hid hrec
  have hic : i < kids.length := (List.getElem?_eq_some_iff.1 hc).1
  have hii : (i : Int) < (kids.length : Int) := Int.ofNat_lt.2 hic
  have hdw : IntKind.i64.wrap ((deep : Int) + 1) = (deep : Int) + 1 := by rw [IntKind.wrap_i64]; omega
  have hdw2 : wrap64 ((deep : Int) + 1) = (deep : Int) + 1 := by unfold wrap64; omega
  have hiw : IntKind.i64.wrap ((i : Int) + 1) = (i : Int) + 1 := by
    have : i ≤ 101 := by omega
    rw [IntKind.wrap_i64]; omega
  have hdn : ¬ (20 : Int) < (deep : Int) := by omega
  clear h hp hy hlk hok hrec
  go_enter Tryz.func75, Tryz.ntmps75
  go_wp2_with fail
  refine HL.out.mono ?_
  rintro e w1 ⟨N, M, nb, ka, va, aa, kc, vc, ac, rfl, hN, hM, ⟨hn1, hnM, hgM⟩, p1, k1⟩
  obtain ⟨h, hp, hy, hlk⟩ := HH.out
  have hnr : NodeR (fun _ => True) w1 nb ⟨false, keys, [], kids⟩ := hn1.wins.1.reads (fun _ _ => trivial) trivial
  have HK := Lib.hid (kid_any hnr hs (show keys.length ≤ 1000 by omega) key)
  have b0 : w1.cell? ⟨nb, 0, none⟩ = some (.bool false) := hn1.box.cell 0 _ rfl
  have b3 : w1.cell? ⟨nb, 3, none⟩ = some (.slice aa kids.length ac) := hn1.box.cell 3 _ rfl
  obtain ⟨ga, rfl, ra⟩ : ∃ ga, aa = some ⟨ga, 0, none⟩ ∧ Row w1 ga ac (ints kids) := by
    rcases hn1.a with ⟨_, h2, _⟩ | ⟨g, h1, h2⟩
    · have := congrArg List.length h2
      rw [ints_length] at this
      exact absurd this (by show kids.length ≠ 0; omega)
    · exact ⟨g, h1, h2⟩
  have hcc : w1.cell? ⟨ga, i, none⟩ = some (.int .i64 (c : Int)) := ra.at' i _ (by unfold ints; rw [List.getElem?_map, hc]; rfl)
  have H1 := Lib.hid (And.intro hN (And.intro hM (And.intro hn1 (And.intro hnM (And.intro hgM (And.intro p1 k1))))))
  have HT := Lib.hid (HR.out _ w1 ⟨p1, h.box.of_block (k1.block T h.mem), .inl h.mem⟩)
  clear HL hn1 hnM hgM p1 k1 hN hM h hp hy hlk hnr HR ra
  go_wp2_with fail
  refine HK.out.mono ?_
  rintro e w2 ⟨i2, rfl, hki2, rfl⟩
  obtain rfl : i = i2 := (hki2.inj hki).symm
  go_wp2_with fail
  refine HT.out.mono ?_
  rintro e w3 ⟨B, more, κ, er, kk, rfl, hps, ht3, hkk, k3⟩
  obtain ⟨hN, hM, hn1, hnM, hgM, p1, k1⟩ := H1.out
  obtain ⟨h, hp, hy, hlk⟩ := HH.out
  have kE : Kept E W w3 := k1.trans (k3.mono (fun _ hj => .inl hj))
  rcases HO.out B more κ er hps with hst | ⟨rfl, hmz, hpB, ok⟩
  · have hG : PutR E W w3 P D T rt A (k + K0 + 8) pg (d + 1) key v (.returned (.tuple #[.int .i64 0, .int .u64 0, .int .i64 er])) :=
      ⟨B, 0, 0, er, kk, rfl, .stop hy hki hc hps hst, ⟨ht3.pz.less (fun _ hj => .inl hj), ht3.box, h.mem⟩, by omega, kE⟩
    have HG := Lib.hid hG
    clear H1 HH HO hN hM hn1 hnM hgM p1 k1 h hp hy hlk kE hG ht3 k3 hps hkk HT HK hki hki2 hs hl hc hcc b0 b3 hic hii
    by_cases he : er = 0
    · subst he
      have hm0 : more = 0 := hst.resolve_left (fun h => h rfl)
      subst hm0
      clear hst
      go_wp2
      go_ret3
      exact HG.out
    · have he2 : (er == 0) = false := beq_eq_false_iff_ne.2 he
      clear hst
      go_wp2
      go_ret3
      exact HG.out
  · have hn3 : NodeO N w3 nb ⟨false, keys, [], kids⟩ ka va (some ⟨ga, 0, none⟩) kc vc ac := hn1.move hnM hgM k3.size (fun g h1 h2 => k3.block g (.inr ⟨h1, h2⟩))
    have hNs : N ≤ w3.heap.size := Nat.le_of_lt (Nat.lt_of_le_of_lt hn3.ge hn3.box.lt)
    have b1 : w3.cell? ⟨nb, 1, none⟩ = some (.slice ka keys.length kc) := hn3.box.cell 1 _ rfl
    have b3 : w3.cell? ⟨nb, 3, none⟩ = some (.slice (some ⟨ga, 0, none⟩) kids.length ac) := hn3.box.cell 3 _ rfl
    have hle := hki.le
    have hm0 : (more == 0) = false := beq_eq_false_iff_ne.2 hmz
    have hm0' : ((more : Int) == 0) = false := beq_eq_false_iff_ne.2 (by omega)
    have hR := fun wc => put_rest (wc := wc) h hk hy hki hc hps hmz hpB ok hN hn3 hnM hgM ht3.pz hkk kE
    have HRR := Lib.hid hR
    clear hR hmz
    have HI1 := Lib.hid (fun (wa : World) (vb : Nat) (ba : Below w3.heap.size w3 wa) (hv : Box wa vb #[.int .u64 (κ.toNat : Int)]) (hvb : w3.heap.size ≤ vb) => (show Calls Tryz.prog 97 #[.slice ka keys.length kc, .int .i64 i, .slice (some ⟨vb, 0, none⟩) 1 1] wa fun e w' => ∃ g c, e = .returned (.slice (some ⟨g, 0, none⟩) (keys.length + 1) c) ∧ Mid1 N w3 w' nb { leaf := false, keys := keys, vals := [], kids := kids } ka va (some ⟨ga, 0, none⟩) kc vc ac (keys.take i ++ κ :: keys.drop i) g c ∧ (∀ vb' cs, w3.heap.size ≤ vb' → Box wa vb' cs → Box w' vb' cs) ∧ Box w' nb #[.bool false, .slice ka keys.length kc, .slice va 0 vc, .slice (some ⟨ga, 0, none⟩) kids.length ac] from
      (insert_any (hn3.next ba).k (show keys.length ≤ 1000 by omega) hki.le κ hv (fun e => by have := hn3.k.lt e; omega)).mono (fun e w' ⟨g', c', he, r, o, hg⟩ =>
        ⟨g', c', by rw [he]; simp only [List.length_append, List.length_take, List.length_cons, List.length_drop]; rw [show min i keys.length + (keys.length - i + 1) = keys.length + 1 by have := hki.le; omega], hn3.mid1 hNs ba r o hg, fun vb' cs hv' hb => hb.only o (fun e => by
          rcases hg with h1 | h1
          · have := hn3.k.lt h1; omega
          · have := hb.lt; omega), (hn3.mid1 hNs ba r o hg).box⟩)))
    have HI2 := Lib.hid (fun (wb : World) (vb : Nat) (mm : ∃ g c, Mid1 N w3 wb nb { leaf := false, keys := keys, vals := [], kids := kids } ka va (some ⟨ga, 0, none⟩) kc vc ac (keys.take i ++ κ :: keys.drop i) g c) (hv : Box wb vb #[.int .i64 (more : Int)]) (hvb : w3.heap.size ≤ vb) => (show Calls Tryz.prog 110 #[.slice (some ⟨ga, 0, none⟩) kids.length ac, .int .i64 ((i : Int) + 1), .slice (some ⟨vb, 0, none⟩) 1 1] wb fun e w' => ∃ g2 c2, e = .returned (.slice (some ⟨g2, 0, none⟩) (kids.length + 1) c2) ∧ (Row w' g2 c2 (ints (kids.take (i + 1) ++ more :: kids.drop (i + 1))) ∧ Only g2 wb w' ∧ (slB (some ⟨ga, 0, none⟩) g2 ∨ wb.heap.size ≤ g2)) ∧ w'.cell? ⟨nb, 1, none⟩ = some (.slice ka keys.length kc) ∧ w'.cell? ⟨nb, 3, none⟩ = some (.slice (some ⟨ga, 0, none⟩) kids.length ac) ∧ w'.frozen? ⟨nb, 1, none⟩ = false ∧ w'.frozen? ⟨nb, 3, none⟩ = false from
      let ⟨_, _, m⟩ := mm
      (insertI_any m.a (show kids.length ≤ 1000 by omega) (show i + 1 ≤ kids.length by omega) more hv (fun e => by have := hn3.a.lt e; omega)).mono (fun e w' ⟨g', c', he, r, o, hg⟩ => by
        have hd := (m.doneI hn3 r o hg).2.2.1
        exact ⟨g', c', by rw [he]; simp only [List.length_append, List.length_take, List.length_cons, List.length_drop]; rw [show min (i + 1) kids.length + (kids.length - (i + 1) + 1) = kids.length + 1 by omega], ⟨r, o, hg⟩, hd.cell 1 _ rfl, hd.cell 3 _ rfl, hd.free 1, hd.free 3⟩)))
    have hb2 : Box w3 nb #[.bool false, .slice ka keys.length kc, .slice va 0 vc, .slice (some ⟨ga, 0, none⟩) kids.length ac] := hn3.box
    have hSO : ∀ w : World, Box w nb #[.bool false, .slice ka keys.length kc, .slice va 0 vc, .slice (some ⟨ga, 0, none⟩) kids.length ac] → w.cell? ⟨nb, 1, none⟩ = some (.slice ka keys.length kc) ∧ w.cell? ⟨nb, 3, none⟩ = some (.slice (some ⟨ga, 0, none⟩) kids.length ac) := fun w hb => ⟨hb.cell 1 _ rfl, hb.cell 3 _ rfl⟩
    have HP := Lib.hid (fun (wb w' : World) (g c g2 c2 : Nat) (m : Mid1 N w3 wb nb { leaf := false, keys := keys, vals := [], kids := kids } ka va (some ⟨ga, 0, none⟩) kc vc ac (keys.take i ++ κ :: keys.drop i) g c) (l2 : Row w' g2 c2 (ints (kids.take (i + 1) ++ more :: kids.drop (i + 1))) ∧ Only g2 wb w' ∧ (slB (some ⟨ga, 0, none⟩) g2 ∨ wb.heap.size ≤ g2)) => (show PutI N w3 ((w'.setCell ⟨nb, 1, none⟩ (.slice (some ⟨g, 0, none⟩) (keys.length + 1) c)).setCell ⟨nb, 3, none⟩ (.slice (some ⟨g2, 0, none⟩) (kids.length + 1) c2)) nb ka va (some ⟨ga, 0, none⟩) (keys.take i ++ κ :: keys.drop i) (kids.take (i + 1) ++ more :: kids.drop (i + 1)) from
      putI_of hn3 m l2.1 l2.2.1 l2.2.2 (by simp; omega) (by simp; omega)))
    have HX := Lib.hid (And.intro hn3 (And.intro hki hle))
    clear hlk hn3 hn1 hgM p1 k1 hki hki2 HT HK hps ht3 k3 hkk kE h hp hy HO H1 ok hpB hc hcc b0
    go_upto_region 16 with (fail)
    go_cut [] (fun wx => PutI N w3 wx nb ka va (some ⟨ga, 0, none⟩) (keys.take i ++ κ :: keys.drop i) (kids.take (i + 1) ++ more :: kids.drop (i + 1)))
    case first =>
      refine wp_region_any (by kernel_rfl) ?_
      refine wpAny_take (i := 0) (v := ?v0) rfl (by kernel_rfl) (by kernel_rfl) (by kernel_rfl) (fun _ _ _ h => h) (Or.inl ⟨by rfl, ?hy0⟩) ?rest0
      case hy0 => (intro w; go_simp; try with_reducible rfl)
      try simp only [Act.put, List.setIfInBounds_toArray, List.set_cons_zero, List.set_cons_succ]
      refine wpAny_take (i := 1) (v := ?v1) rfl (by kernel_rfl) (by kernel_rfl) (by kernel_rfl) (fun _ _ _ h => h) (Or.inl ⟨by rfl, ?hy1⟩) ?rest1
      case hy1 => (intro w; go_simp; try with_reducible rfl)
      try simp only [Act.put, List.setIfInBounds_toArray, List.set_cons_zero, List.set_cons_succ]
      refine wpAny_take (i := 2) (v := ?v2) rfl (by kernel_rfl) (by kernel_rfl) (by kernel_rfl) (fun _ _ _ h => h) (Or.inl ⟨by rfl, ?hy2⟩) ?rest2
      case hy2 => (intro w; go_simp; try with_reducible rfl)
      try simp only [Act.put, List.setIfInBounds_toArray, List.set_cons_zero, List.set_cons_succ]
      refine wpAny_take (i := 3) (v := ?v3) rfl (by kernel_rfl) (by kernel_rfl) (by kernel_rfl) (fun _ _ _ h => h) (Or.inl ⟨by rfl, ?hy3⟩) ?rest3
      case hy3 => (intro w; go_simp; try with_reducible rfl)
      try simp only [Act.put, List.setIfInBounds_toArray, List.set_cons_zero, List.set_cons_succ]
      refine wpAny_take (i := 4) (v := ?v4) rfl (by kernel_rfl) (by kernel_rfl) (by kernel_rfl) (fun _ _ _ h => h) (Or.inl ⟨by rfl, ?hy4⟩) ?rest4
      case hy4 => (intro w; go_simp; try with_reducible rfl)
      try simp only [Act.put, List.setIfInBounds_toArray, List.set_cons_zero, List.set_cons_succ]
      refine wpAny_take (i := 6) (v := ?v6) rfl (by kernel_rfl) (by kernel_rfl) (by kernel_rfl) (fun _ _ _ h => h) (Or.inl ⟨by rfl, ?hy6⟩) ?rest6
      case hy6 => (intro w; go_simp; try with_reducible rfl)
      try simp only [Act.put, List.setIfInBounds_toArray, List.set_cons_zero, List.set_cons_succ]
      refine wpAny_take (i := 7) (v := ?v7) rfl (by kernel_rfl) (by kernel_rfl) (by kernel_rfl) (fun _ _ _ h => h) (Or.inl ⟨by rfl, ?hy7⟩) ?rest7
      case hy7 => (intro w; go_simp; try with_reducible rfl)
      try simp only [Act.put, List.setIfInBounds_toArray, List.set_cons_zero, List.set_cons_succ]
      refine wpAny_take (i := 10) (v := ?v10) rfl (by kernel_rfl) (by kernel_rfl) (by kernel_rfl) (fun _ _ _ h => h) (Or.inl ⟨by rfl, ?hy10⟩) ?rest10
      case hy10 => (intro w; go_simp; try with_reducible rfl)
      try simp only [Act.put, List.setIfInBounds_toArray, List.set_cons_zero, List.set_cons_succ]
      refine wpAny_take (i := 11) (v := ?v11) rfl (by kernel_rfl) (by kernel_rfl) (by kernel_rfl) (fun _ _ _ h => h) (Or.inl ⟨by rfl, ?hy11⟩) ?rest11
      case hy11 => (intro w; go_simp; try with_reducible rfl)
      try simp only [Act.put, List.setIfInBounds_toArray, List.set_cons_zero, List.set_cons_succ]
      refine wpAny_take (i := 12) (v := ?v12) rfl (by kernel_rfl) (by kernel_rfl) (by kernel_rfl) (fun _ _ _ h => h) (Or.inl ⟨by rfl, ?hy12⟩) ?rest12
      case hy12 => (intro w; go_simp; try with_reducible rfl)
      try simp only [Act.put, List.setIfInBounds_toArray, List.set_cons_zero, List.set_cons_succ]
      refine wpAny_take (i := 14) (v := ?v14) rfl (by kernel_rfl) (by kernel_rfl) (by kernel_rfl) (fun _ _ _ h => h) (Or.inl ⟨by rfl, ?hy14⟩) ?rest14
      case hy14 => (intro w; go_simp; try with_reducible rfl)
      try simp only [Act.put, List.setIfInBounds_toArray, List.set_cons_zero, List.set_cons_succ]
      refine wpAny_take (i := 15) (v := ?v15) rfl (by kernel_rfl) (by kernel_rfl) (by kernel_rfl) (fun _ _ _ h => h) (Or.inl ⟨by rfl, ?hy15⟩) ?rest15
      case hy15 => (intro w; go_simp; try with_reducible rfl)
      try simp only [Act.put, List.setIfInBounds_toArray, List.set_cons_zero, List.set_cons_succ]
      refine wpAny_take (i := 16) (v := ?v16) rfl (by kernel_rfl) (by kernel_rfl) (by kernel_rfl) (fun _ _ _ h => h) (Or.inl ⟨by rfl, ?hy16⟩) ?rest16
      case hy16 => (intro w; go_simp; try with_reducible rfl)
      try simp only [Act.put, List.setIfInBounds_toArray, List.set_cons_zero, List.set_cons_succ]
      have hS0 : (fun w' : World => w'.cell? ⟨nb, 1, none⟩ = some (.slice ka keys.length kc) ∧ w'.cell? ⟨nb, 3, none⟩ = some (.slice (some ⟨ga, 0, none⟩) kids.length ac)) w3.drew := ⟨b1, b3⟩
      refine wpAny_of_late (S := fun w' => w'.cell? ⟨nb, 1, none⟩ = some (.slice ka keys.length kc) ∧ w'.cell? ⟨nb, 3, none⟩ = some (.slice (some ⟨ga, 0, none⟩) kids.length ac)) (late := fun j => decide (19 ≤ j)) _ _ _ _ ?_
      change wpLate _ _ _ _ _ _ _ _ _ w3.drew
      refine wpLate_take (i := 5) (v := ?v5) rfl (by kernel_rfl) (by kernel_rfl) (by kernel_rfl) (by kernel_rfl) (fun _ _ _ h => h) hS0 (by rfl) ?hy5 ?rest5
      case hy5 => (intro w hSw; (try dsimp only at hSw); go_simp; try with_reducible rfl)
      try simp only [Act.put, List.setIfInBounds_toArray, List.set_cons_zero, List.set_cons_succ]
      refine wpLate_take (i := 13) (v := ?v13) rfl (by kernel_rfl) (by kernel_rfl) (by kernel_rfl) (by kernel_rfl) (fun _ _ _ h => h) hS0 (by rfl) ?hy13 ?rest13
      case hy13 => (intro w hSw; (try dsimp only at hSw); go_simp; try with_reducible rfl)
      try simp only [Act.put, List.setIfInBounds_toArray, List.set_cons_zero, List.set_cons_succ]
      clear hS0
      refine wpLate_two (i := 8) (j := 17) (by kernel_rfl) rfl rfl (fun K hK => ?_) (fun K hK => ?_)
      · go_simp
        refine hK.out _ _ (fun _ => ?_) ?_
        · exact hSO _ (by (repeat (first | assumption | with_reducible apply boxd | with_reducible apply boxa)))
        clear hK K
        refine wpLate_two (i := 9) (j := 17) (by kernel_rfl) rfl rfl (fun K hK => ?_) (fun K hK => ?_)
        · go_simp
          refine (HI1.out _ _ ?_ ?_ ?_).mono ?_
          · (repeat (first | with_reducible exact Below.refl _ _ | with_reducible apply bel_alloc | with_reducible apply bel_drew))
          · (repeat (first | (focus ((with_reducible refine box_at ?_); simp; done)) | with_reducible apply boxd | with_reducible apply boxa))
          · (first | exact Nat.le_refl _ | simp)
          rintro e w4 ⟨g, c, rfl, m1, mb, hb3⟩
          (try dsimp only)
          refine hK.out _ _ (fun _ => ?_) ?_
          · exact hSO _ (by (repeat (first | assumption | with_reducible apply boxd | with_reducible apply boxa)))
          clear hK K
          refine wpLate_one (i := 17) (by kernel_rfl) rfl (fun K hK => ?_)
          go_simp
          refine hK.out _ _ (fun _ => ?_) ?_
          · exact hSO _ (by (repeat (first | assumption | with_reducible apply boxd | with_reducible apply boxa)))
          clear hK K
          refine wpLate_one (i := 18) (by kernel_rfl) rfl (fun K hK => ?_)
          go_simp
          refine (HI2.out _ _ ?_ ?_ ?_).mono ?_
          · exact ⟨_, _, Mid1.next m1 (by repeat (first | with_reducible exact Below.refl _ _ | with_reducible apply bel_alloc | with_reducible apply bel_drew))⟩
          · (repeat (first | (focus ((with_reducible refine box_at ?_); simp; done)) | with_reducible apply boxd | with_reducible apply boxa | (refine mb _ _ ?_ ?_; focus (simp; done))))
          · (first | (focus (simp; done)) | (focus (refine Nat.le_trans m1.kept.size ?_; simp; done)))
          rintro e w5 ⟨g2, c2, rfl, l2, s1, s2, q1, q2⟩
          (try dsimp only)
          refine hK.out _ _ (fun _ => ⟨s1, s2⟩) ?_
          clear hK K
          refine wpLate_one (i := 19) (by kernel_rfl) rfl (fun K hK => ?_)
          go_simp
          refine hK.out _ _ (fun h => absurd h (by decide)) ?_
          clear hK K
          refine wpLate_one (i := 20) (by kernel_rfl) rfl (fun K hK => ?_)
          go_simp
          refine hK.out _ _ (fun h => absurd h (by decide)) ?_
          clear hK K
          refine wpLate_one (i := 21) (by kernel_rfl) rfl (fun K hK => ?_)
          go_simp
          refine hK.out _ _ (fun h => absurd h (by decide)) ?_
          clear hK K
          refine wpLate_one (i := 22) (by kernel_rfl) rfl (fun K hK => ?_)
          go_simp
          refine hK.out _ _ (fun h => absurd h (by decide)) ?_
          clear hK K
          refine wpLate_one (i := 23) (by kernel_rfl) rfl (fun K hK => ?_)
          go_simp
          refine hK.out _ _ (fun h => absurd h (by decide)) ?_
          clear hK K
          refine wpLate_one (i := 24) (by kernel_rfl) rfl (fun K hK => ?_)
          go_simp
          refine hK.out _ _ (fun h => absurd h (by decide)) ?_
          clear hK K
          refine wpLate_done (by kernel_rfl) ?_ _
          go_wp2_with fail
          go_meet
          case rel => exact HP.out _ _ _ _ _ _ (Mid1.next m1 (by repeat (first | with_reducible exact Below.refl _ _ | with_reducible apply bel_alloc | with_reducible apply bel_drew))) l2
        · go_simp
          refine hK.out _ _ (fun _ => ?_) ?_
          · exact hSO _ (by (repeat (first | assumption | with_reducible apply boxd | with_reducible apply boxa)))
          clear hK K
          refine wpLate_one (i := 9) (by kernel_rfl) rfl (fun K hK => ?_)
          go_simp
          refine (HI1.out _ _ ?_ ?_ ?_).mono ?_
          · (repeat (first | with_reducible exact Below.refl _ _ | with_reducible apply bel_alloc | with_reducible apply bel_drew))
          · (repeat (first | (focus ((with_reducible refine box_at ?_); simp; done)) | with_reducible apply boxd | with_reducible apply boxa))
          · (first | exact Nat.le_refl _ | simp)
          rintro e w4 ⟨g, c, rfl, m1, mb, hb3⟩
          (try dsimp only)
          refine hK.out _ _ (fun _ => ?_) ?_
          · exact hSO _ (by (repeat (first | assumption | with_reducible apply boxd | with_reducible apply boxa)))
          clear hK K
          refine wpLate_one (i := 18) (by kernel_rfl) rfl (fun K hK => ?_)
          go_simp
          refine (HI2.out _ _ ?_ ?_ ?_).mono ?_
          · exact ⟨_, _, Mid1.next m1 (by repeat (first | with_reducible exact Below.refl _ _ | with_reducible apply bel_alloc | with_reducible apply bel_drew))⟩
          · (repeat (first | (focus ((with_reducible refine box_at ?_); simp; done)) | with_reducible apply boxd | with_reducible apply boxa | (refine mb _ _ ?_ ?_; focus (simp; done))))
          · (first | (focus (simp; done)) | (focus (refine Nat.le_trans m1.kept.size ?_; simp; done)))
          rintro e w5 ⟨g2, c2, rfl, l2, s1, s2, q1, q2⟩
          (try dsimp only)
          refine hK.out _ _ (fun _ => ⟨s1, s2⟩) ?_
          clear hK K
          refine wpLate_one (i := 19) (by kernel_rfl) rfl (fun K hK => ?_)
          go_simp
          refine hK.out _ _ (fun h => absurd h (by decide)) ?_
          clear hK K
          refine wpLate_one (i := 20) (by kernel_rfl) rfl (fun K hK => ?_)
          go_simp
          refine hK.out _ _ (fun h => absurd h (by decide)) ?_
          clear hK K
          refine wpLate_one (i := 21) (by kernel_rfl) rfl (fun K hK => ?_)
          go_simp
          refine hK.out _ _ (fun h => absurd h (by decide)) ?_
          clear hK K
          refine wpLate_one (i := 22) (by kernel_rfl) rfl (fun K hK => ?_)
          go_simp
          refine hK.out _ _ (fun h => absurd h (by decide)) ?_
          clear hK K
          refine wpLate_one (i := 23) (by kernel_rfl) rfl (fun K hK => ?_)
          go_simp
          refine hK.out _ _ (fun h => absurd h (by decide)) ?_
          clear hK K
          refine wpLate_one (i := 24) (by kernel_rfl) rfl (fun K hK => ?_)
          go_simp
          refine hK.out _ _ (fun h => absurd h (by decide)) ?_
          clear hK K
          refine wpLate_done (by kernel_rfl) ?_ _
          go_wp2_with fail
          go_meet
          case rel => exact HP.out _ _ _ _ _ _ (Mid1.next m1 (by repeat (first | with_reducible exact Below.refl _ _ | with_reducible apply bel_alloc | with_reducible apply bel_drew))) l2
      · go_simp
        refine hK.out _ _ (fun _ => ?_) ?_
        · exact hSO _ (by (repeat (first | assumption | with_reducible apply boxd | with_reducible apply boxa)))
        clear hK K
        refine wpLate_one (i := 8) (by kernel_rfl) rfl (fun K hK => ?_)
        go_simp
        refine hK.out _ _ (fun _ => ?_) ?_
        · exact hSO _ (by (repeat (first | assumption | with_reducible apply boxd | with_reducible apply boxa)))
        clear hK K
        refine wpLate_one (i := 9) (by kernel_rfl) rfl (fun K hK => ?_)
        go_simp
        refine (HI1.out _ _ ?_ ?_ ?_).mono ?_
        · (repeat (first | with_reducible exact Below.refl _ _ | with_reducible apply bel_alloc | with_reducible apply bel_drew))
        · (repeat (first | (focus ((with_reducible refine box_at ?_); simp; done)) | with_reducible apply boxd | with_reducible apply boxa))
        · (first | exact Nat.le_refl _ | simp)
        rintro e w4 ⟨g, c, rfl, m1, mb, hb3⟩
        (try dsimp only)
        refine hK.out _ _ (fun _ => ?_) ?_
        · exact hSO _ (by (repeat (first | assumption | with_reducible apply boxd | with_reducible apply boxa)))
        clear hK K
        refine wpLate_one (i := 18) (by kernel_rfl) rfl (fun K hK => ?_)
        go_simp
        refine (HI2.out _ _ ?_ ?_ ?_).mono ?_
        · exact ⟨_, _, Mid1.next m1 (by repeat (first | with_reducible exact Below.refl _ _ | with_reducible apply bel_alloc | with_reducible apply bel_drew))⟩
        · (repeat (first | (focus ((with_reducible refine box_at ?_); simp; done)) | with_reducible apply boxd | with_reducible apply boxa | (refine mb _ _ ?_ ?_; focus (simp; done))))
        · (first | (focus (simp; done)) | (focus (refine Nat.le_trans m1.kept.size ?_; simp; done)))
        rintro e w5 ⟨g2, c2, rfl, l2, s1, s2, q1, q2⟩
        (try dsimp only)
        refine hK.out _ _ (fun _ => ⟨s1, s2⟩) ?_
        clear hK K
        refine wpLate_one (i := 19) (by kernel_rfl) rfl (fun K hK => ?_)
        go_simp
        refine hK.out _ _ (fun h => absurd h (by decide)) ?_
        clear hK K
        refine wpLate_one (i := 20) (by kernel_rfl) rfl (fun K hK => ?_)
        go_simp
        refine hK.out _ _ (fun h => absurd h (by decide)) ?_
        clear hK K
        refine wpLate_one (i := 21) (by kernel_rfl) rfl (fun K hK => ?_)
        go_simp
        refine hK.out _ _ (fun h => absurd h (by decide)) ?_
        clear hK K
        refine wpLate_one (i := 22) (by kernel_rfl) rfl (fun K hK => ?_)
        go_simp
        refine hK.out _ _ (fun h => absurd h (by decide)) ?_
        clear hK K
        refine wpLate_one (i := 23) (by kernel_rfl) rfl (fun K hK => ?_)
        go_simp
        refine hK.out _ _ (fun h => absurd h (by decide)) ?_
        clear hK K
        refine wpLate_one (i := 24) (by kernel_rfl) rfl (fun K hK => ?_)
        go_simp
        refine hK.out _ _ (fun h => absurd h (by decide)) ?_
        clear hK K
        refine wpLate_done (by kernel_rfl) ?_ _
        go_wp2_with fail
        go_meet
        case rel => exact HP.out _ _ _ _ _ _ (Mid1.next m1 (by repeat (first | with_reducible exact Below.refl _ _ | with_reducible apply bel_alloc | with_reducible apply bel_drew))) l2
    case rest =>
      obtain ⟨hF, hS, hO⟩ := HRR.out _ hcut
      have HF := Lib.hid hF
      have HSx := Lib.hid hS
      have HOx := Lib.hid hO
      clear hcut HRR hF hS hO HX HP HI1 HI2 HH hle hSO hb2 b1 b3 hNs
      by_cases hf : fullN ⟨false, keys.take i ++ κ :: keys.drop i, [], kids.take (i + 1) ++ more :: kids.drop (i + 1)⟩ = true
      · have HG := Lib.hid (HSx.out hf)
        rw [hf] at HF
        clear HSx HOx hf
        go_wp2_with fail
        refine HF.out.mono ?_
        rintro e w5 ⟨rfl, rfl⟩
        go_wp2_with fail
        refine HG.out.mono ?_
        rintro e w6 ⟨mb, κ2, rfl, hst2⟩
        replace hst2 := Lib.hid hst2
        go_wp2_with fail
        refine hst2.out.mono ?_
        rintro e w7 ⟨rfl, hfr⟩
        replace hfr := Lib.hid hfr
        go_wp2_with fail
        refine hfr.out.mono ?_
        rintro e w8 ⟨more2, er, rfl, hr⟩
        have HQ := Lib.hid hr
        clear hr
        go_wp2
        go_ret3
        exact HQ.out
      · have hff : fullN ⟨false, keys.take i ++ κ :: keys.drop i, [], kids.take (i + 1) ++ more :: kids.drop (i + 1)⟩ = false := by simpa using hf
        have HG := Lib.hid (HOx.out hff)
        rw [hff] at HF
        clear HSx HOx hf hff
        go_wp2_with fail
        refine HF.out.mono ?_
        rintro e w5 ⟨rfl, rfl⟩
        go_wp2_with fail
        refine HG.out.mono ?_
        rintro e w6 ⟨rfl, hr⟩
        have HQ := Lib.hid hr
        clear hr
        go_wp2
        go_ret3
        exact HQ.out
end
end Go.Proofs.YtfljlcfmdcepnaaGreatDoor
