/-
  The tree: a poor kid and the one beside it are made even: the walk.
-/
import Derived.Test.YtfljlcfmdcepnaaGreatDoorJTsJ
namespace Go.Proofs.YtfljlcfmdcepnaaGreatDoor
open Go.RowKit
open UK (str BytesAt nth Only Row Box)
open Go.BigFrame
section
variable {E : Nat → Prop} {W W' : World} {P D T rt k pg N nb kc vc ac : Nat} {A : AP} {ka va aa : Option Addr}
theorem mend_del {w4 : World} {keys : List UInt64} {kids : List Nat} {m n gk ga : Nat} (hn4 : NodeO N w4 nb ⟨false, keys, [], kids⟩ (some ⟨gk, 0, none⟩) va (some ⟨ga, 0, none⟩) kc vc ac) (hkn : keys.length = n) (hcn : kids.length = n + 1) (h100 : n ≤ 100) (hmn : m < n) :
    (∀ (wa : World) (_ : Below w4.heap.size w4 wa), Calls Tryz.prog 99 #[.slice (some ⟨gk, 0, none⟩) n kc, .int .i64 m, .int .i64 ((m : Int) + 1)] wa fun e w' => e = .returned (.slice (some ⟨gk, 0, none⟩) (n - 1) kc) ∧ Mid1 N w4 w' nb ⟨false, keys, [], kids⟩ (some ⟨gk, 0, none⟩) va (some ⟨ga, 0, none⟩) kc vc ac (keys.take m ++ keys.drop (m + 1)) gk kc ∧ w'.cell? ⟨nb, 1, none⟩ = some (.slice (some ⟨gk, 0, none⟩) n kc) ∧ w'.cell? ⟨nb, 3, none⟩ = some (.slice (some ⟨ga, 0, none⟩) (n + 1) ac)) ∧
    (∀ (wb : World) (_ : Mid1 N w4 wb nb ⟨false, keys, [], kids⟩ (some ⟨gk, 0, none⟩) va (some ⟨ga, 0, none⟩) kc vc ac (keys.take m ++ keys.drop (m + 1)) gk kc), Calls Tryz.prog 146 #[.slice (some ⟨ga, 0, none⟩) (n + 1) ac, .int .i64 ((m : Int) + 1), .int .i64 ((m : Int) + 2)] wb fun e w' => e = .returned (.slice (some ⟨ga, 0, none⟩) n ac) ∧ PutI N w4 ((w'.setCell ⟨nb, 1, none⟩ (.slice (some ⟨gk, 0, none⟩) (n - 1) kc)).setCell ⟨nb, 3, none⟩ (.slice (some ⟨ga, 0, none⟩) n ac)) nb (some ⟨gk, 0, none⟩) va (some ⟨ga, 0, none⟩) (keys.take m ++ keys.drop (m + 1)) (kids.take (m + 1) ++ kids.drop (m + 2)) ∧ w'.cell? ⟨nb, 1, none⟩ = some (.slice (some ⟨gk, 0, none⟩) n kc) ∧ w'.cell? ⟨nb, 3, none⟩ = some (.slice (some ⟨ga, 0, none⟩) (n + 1) ac) ∧ w'.frozen? ⟨nb, 1, none⟩ = false ∧ w'.frozen? ⟨nb, 3, none⟩ = false) := by
  have hNs : N ≤ w4.heap.size := Nat.le_of_lt (Nat.lt_of_le_of_lt hn4.ge hn4.box.lt)
  have rk4 : Row w4 gk kc (u64s keys) := by
    rcases hn4.k with hz | ⟨g, e, r⟩
    · cases hz.1
    · injection e with e; injection e with e; rw [e]; exact r
  have e1 : (keys.take m ++ keys.drop (m + 1)).length = n - 1 := by simp; omega
  have e2 : (kids.take (m + 1) ++ kids.drop (m + 2)).length = n := by simp; omega
  refine ⟨fun wa ba => ?_, fun wb mm => ?_⟩
  · skip
    have hd := delete_any (rk4.below ba rk4.lt) (show keys.length ≤ 1000 by omega) (show m < keys.length by omega)
    rw [hkn] at hd
    refine hd.mono (fun e w' ⟨he, r, o⟩ => ?_)
    have mm := hn4.mid1 hNs ba r o (.inl rfl)
    have bb := mm.box
    dsimp only at bb
    rw [hkn, hcn] at bb
    exact ⟨he, mm, bb.cell 1 _ rfl, bb.cell 3 _ rfl⟩
  · skip
    have rb : Row wb ga ac (ints kids) := by
      rcases mm.a with hz | ⟨g, e, r⟩
      · cases hz.1
      · injection e with e; injection e with e; rw [e]; exact r
    have hd := deleteI_any rb (show kids.length ≤ 1000 by omega) (show m + 1 < kids.length by omega)
    rw [hcn] at hd
    refine hd.mono (fun e w' ⟨he, r, o⟩ => ?_)
    have hdd := (mm.doneI hn4 r o (.inl rfl)).2.2.1
    dsimp only at hdd
    rw [hkn, hcn] at hdd
    exact ⟨he, putI_of hn4 mm r o (.inl rfl) e1 e2, hdd.cell 1 _ rfl, hdd.cell 3 _ rfl, hdd.free 1, hdd.free 3⟩
set_option linter.unusedSimpArgs false in
set_option maxHeartbeats 8000000 in
set_option maxRecDepth 100000 in
theorem mend_any {keys : List UInt64} {kids : List Nat} {i m n ca cb : Nat} {κ : UInt64} {xa xb : Nd} (p : PZ E W P D A k) (hk : k + 40 < 900000000) (hb : Box W T #[.pointer (some ⟨P, 0, none⟩), .int .i64 rt]) (hT : E T)
    (hn : NodeO N W nb ⟨false, keys, [], kids⟩ ka va aa kc vc ac) (hE : ∀ g, ndB ka va aa nb g → E g) (hTR : ¬ ndB ka va aa nb T) (htab : ¬ ndB ka va aa nb 0) (ok : PairOk A pg keys kids m ca cb κ xa xb) (hkn : keys.length = n) (hcn : kids.length = n + 1) (h1 : 1 ≤ n) (h100 : n ≤ 100) (hi : i ≤ n) (hm : m = pairN (n + 1) i) :
    Calls Tryz.prog 115 #[.pointer (some ⟨T, 0, none⟩), .pointer (some ⟨nb, 0, none⟩), .int .i64 i] W fun e w' => e = .returned (.int .i64 0) ∧
      ((evenN xa xb κ).2.2.2 = false → MendR E W w' P D T rt nb (ndB ka va aa nb) ((A.wrote ca (encN (A.c ca) (evenN xa xb κ).1)).wrote cb (encN ((A.wrote ca (encN (A.c ca) (evenN xa xb κ).1)).c cb) (evenN xa xb κ).2.1)) (k + 20) ⟨false, keys.set m (evenN xa xb κ).2.2.1, [], kids⟩) ∧
      ((evenN xa xb κ).2.2.2 = true → MendR E W w' P D T rt nb (ndB ka va aa nb) ((A.wrote ca (encN (A.c ca) (evenN xa xb κ).1)).give cb) (k + 20) ⟨false, keys.take m ++ keys.drop (m + 1), [], kids.take (m + 1) ++ kids.drop (m + 2)⟩) := by
  obtain ⟨gk, rfl, rk⟩ : ∃ g, ka = some ⟨g, 0, none⟩ ∧ Row W g kc (u64s keys) := by
    rcases hn.k with hz | h2
    · have := congrArg List.length hz.2.1; rw [u64s_length] at this; exact absurd (show keys.length = 0 from this) (by omega)
    · exact h2
  obtain ⟨ga, rfl, ra⟩ : ∃ g, aa = some ⟨g, 0, none⟩ ∧ Row W g ac (ints kids) := by
    rcases hn.a with hz | h2
    · have := congrArg List.length hz.2.1; rw [ints_length] at this; exact absurd (show kids.length = 0 from this) (by omega)
    · exact h2
  have hEk := hE gk (.inl rfl)
  have hEa := hE ga (.inr (.inr (.inl rfl)))
  have hEn := hE nb (.inr (.inr (.inr rfl)))
  have hga : ga ≠ gk := fun e => hn.ka gk rfl (by rw [← e]; rfl)
  have hgn : nb ≠ gk := fun e => (hn.new gk (.inl rfl)).2 e.symm
  have hNC : ∀ w, Kept E W w → w.cell? ⟨nb, 1, none⟩ = some (.slice (some ⟨gk, 0, none⟩) n kc) ∧ w.cell? ⟨nb, 3, none⟩ = some (.slice (some ⟨ga, 0, none⟩) (n + 1) ac) ∧ w.cell? ⟨gk, m, none⟩ = some (.int .u64 (κ.toNat : Int)) ∧ w.cell? ⟨ga, m, none⟩ = some (.int .i64 (ca : Int)) ∧ w.cell? ⟨ga, m + 1, none⟩ = some (.int .i64 (cb : Int)) ∧ w.frozen? ⟨gk, m, none⟩ = false := fun w kw => by
    have b := hn.box.of_block (kw.block nb hEn)
    rw [hkn, hcn] at b
    have r := rk.of_block kw.size (kw.block gk hEk)
    have r2 := ra.of_block kw.size (kw.block ga hEa)
    refine ⟨b.cell 1 _ rfl, b.cell 3 _ rfl, r.at' m _ (u64s_at _ _ _ ok.k), r2.at' m _ (kids_is _ _ _ ok.ka), r2.at' (m + 1) _ (kids_is _ _ _ ok.kb), r.free m ?_⟩
    have := r.le
    rw [u64s_length] at this
    have := (List.getElem?_eq_some_iff.1 ok.k).1
    omega
  have hmn : m < n := by have := (List.getElem?_eq_some_iff.1 ok.k).1; omega
  have hml : m ≤ 1000 := by omega
  have hPm : (i = n ∧ m = n - 1) ∨ (i ≠ n ∧ m = i) := by
    rw [hm]
    unfold pairN
    split <;> omega
  obtain ⟨⟨xa', xb', κ', one⟩, hev⟩ : ∃ x, evenN xa xb κ = x := ⟨_, rfl⟩
  have hC := mend_chain p (by omega) hb hT hn hE hTR htab ok
  rw [hev] at hC ⊢
  dsimp only at hC ⊢
  have HC := Lib.hid hC
  have HNC := Lib.hid hNC
  have HX := Lib.hid (And.intro h100 (And.intro p (And.intro hb (And.intro hT (And.intro hn (And.intro hE (And.intro hTR (And.intro htab (And.intro ok (And.intro hkn hcn))))))))))
  obtain ⟨x1, x3, y0, z0, z1, _⟩ := hNC W (Kept.refl _ _)
  have j1 : (m : Int) < ((n : Int) + 1) := by omega
  have j2 : (m : Int) + 1 < ((n : Int) + 1) := by omega
  have j3 : (m : Int) < (n : Int) := by omega
  have j4 : ((m : Int) + 1).toNat = m + 1 := by omega
  have j5 : (0 : Int) ≤ (m : Int) + 1 := by omega
  have j6 : (m : Int) + 1 = ((m + 1 : Nat) : Int) := rfl
  have j7 : (m : Int) + 2 = ((m + 2 : Nat) : Int) := rfl
  have j8 : ((n + 1 : Nat) : Int) - 1 = (n : Int) := by omega
  have j10 : (n : Int) + 1 - 1 = (n : Int) := by omega
  have hA : i = n → (n : Int) - 1 = (m : Int) := fun h => by omega
  have hB : i ≠ n → (i : Int) ≠ (n : Int) ∧ m = i := fun h => by omega
  have l1 : m + 1 ≤ 1000 := by omega
  have l2 : m + 2 ≤ 1000 := by omega
  have l3 : n ≤ 1000 := by omega
  have HI := Lib.hid (And.intro hA hB)
  have HKK := Lib.hid (fun (kk : Nat) (h : kk ≤ k + 7 + 1) => (show kk ≤ k + 20 by omega))
  have hkz : k + 20 < 900000000 := by omega
  have hkz7 : k + 7 + 20 < 900000000 := by omega
  clear hC hev hPm hm hi hA hB p hb hT hn hE hTR htab ok hkn hcn h1 h100 hNC rk ra hEk hEa hEn hk
  have v1 : wrap64 ((m : Int) + 1) = (m : Int) + 1 := by rw [j6]; exact wrap64_lt _ l1
  have v2 : IntKind.i64.wrap ((m : Int) + 1) = (m : Int) + 1 := by rw [j6]; exact wrapk_lt _ l1
  have v3 : wrap64 ((m : Int) + 2) = (m : Int) + 2 := by rw [j7]; exact wrap64_lt _ l2
  have v4 : IntKind.i64.wrap ((m : Int) + 2) = (m : Int) + 2 := by rw [j7]; exact wrapk_lt _ l2
  have v5 : wrap64 ((n : Int) + 1 - 1) = (n : Int) := by rw [j10]; exact wrap64_lt _ l3
  have v6 : IntKind.i64.wrap ((n : Int) + 1 - 1) = (n : Int) := by rw [j10]; exact wrapk_lt _ l3
  have v7 : wrap64 (n : Int) = (n : Int) := wrap64_lt _ l3
  have v8 : IntKind.i64.wrap (n : Int) = (n : Int) := wrapk_lt _ l3
  have v9 : wrap64 (m : Int) = (m : Int) := wrap64_lt _ hml
  have v10 : IntKind.i64.wrap (m : Int) = (m : Int) := wrapk_lt _ hml
  clear j6 j7 j8 j10 l1 l2 l3 hml
  go_enter Tryz.func115, Tryz.ntmps115
  go_upto_if 21 with (fail)
  go_cut [2] (fun iv wx => iv = .int .i64 (m : Int) ∧ wx = W)
  case first =>
    by_cases hin : i = n
    · have q1 := HI.out.1 hin
      have q0 : ((i : Int) == (n : Int)) = true := by rw [hin]; exact beq_self_eq_true _
      have q2 : wrap64 ((i : Int) - 1) = (m : Int) := by rw [hin, q1]; exact v9
      have q3 : IntKind.i64.wrap ((i : Int) - 1) = (m : Int) := by rw [hin, q1]; exact v10
      clear q1 hin v1 v2 v3 v4 v5 v6 v7 v8 v9 v10 x1 x3 y0 z0 z1 j1 j2 j3 j4 j5
      go_wp2_with fail
      go_meet
      case rel => exact ⟨rfl, rfl⟩
    · obtain ⟨q1, q2⟩ := HI.out.2 hin
      subst q2
      have q3 : ((m : Int) == (n : Int)) = false := beq_eq_false_iff_ne.2 q1
      clear v1 v2 v3 v4 v5 v6 v7 v8 v9 v10 x1 x3 y0 z0 z1 j1 j2 j3 j4 j5
      go_wp2_with fail
      go_meet
      case rel => exact ⟨rfl, rfl⟩
  case rest =>
  obtain ⟨rfl, rfl⟩ := hcut
  clear HI
  go_wp2_with fail
  refine HC.out.mono ?_
  rintro e w1 ⟨a, rfl, k1, hl2⟩
  replace hl2 := Lib.hid hl2
  obtain ⟨x11, x13, y10, z10, z11, _⟩ := HNC.out w1 k1
  clear k1 HC
  go_wp2_with fail
  refine hl2.out.mono ?_
  rintro e w2 ⟨b, rfl, k2, ca0, cb0, hev⟩
  replace hev := Lib.hid hev
  obtain ⟨x21, x23, y20, z20, z21, _⟩ := HNC.out w2 k2
  clear k2 hl2
  go_wp2_with fail
  go_quiet (fail)
  have hll : (xa.leaf != xa.leaf) = false := by simp
  go_wp2_with fail
  clear x11 x13 y10 z10 z11 x21 x23 y20 z20 z21 ca0 cb0 x1 x3 y0 z0 z1 hll
  refine (hev.out _).mono ?_
  rintro e w3 ⟨rfl, k3, hst⟩
  replace hst := Lib.hid hst
  obtain ⟨x31, x33, y30, z30, z31, _⟩ := HNC.out w3 k3
  clear k3 hev
  go_wp2_with fail
  clear x31 x33 y30 z30 z31
  refine hst.out.mono ?_
  rintro e w4 ⟨rfl, k4, hf, ht⟩
  obtain ⟨x41, x43, y40, z40, z41, f40⟩ := HNC.out w4 k4
  clear hst
  cases one with
  | false =>
    have h5 := hf rfl
    have HQ := Lib.hid h5
    have on : Only gk w4 (w4.setCell ⟨gk, m, none⟩ (.int .u64 (κ'.toNat : Int))) := (Only.refl gk w4).set m _
    have c3 := on.cell x43 hgn
    have c4 := on.cell z41 hga
    clear hf ht h5 k4 on v3 v4 v5 v6 v7 v8 v9 v10
    go_upto_region 16 with (fail)
    go_cut [] (fun wx => wx = w4.setCell ⟨gk, m, none⟩ (.int .u64 (κ'.toNat : Int)))
    case first =>
      go_wp2_with fail
      go_meet
      case rel => exact rfl
    case rest =>
    generalize w4.setCell ⟨gk, m, none⟩ (.int .u64 (κ'.toNat : Int)) = w5 at hcut c3 c4 HQ
    subst hcut
    clear x41 x43 y40 z40 z41 f40
    go_wp2_with fail
    refine HQ.out.mono ?_
    rintro e w5 ⟨rfl, hM⟩
    have HG := Lib.hid hM
    clear hM HQ
    go_wp2
    go_ret
    exact ⟨rfl, HG.out⟩
  | true =>
    have p4 := ht rfl
    obtain ⟨h100, p, hb, hT, hn, hE, hTR, htab, ok, hkn, hcn⟩ := HX.out
    have hn4 : NodeO N w4 nb ⟨false, keys, [], kids⟩ (some ⟨gk, 0, none⟩) va (some ⟨ga, 0, none⟩) kc vc ac :=
      ⟨hn.box.of_block (k4.block nb (hE nb (.inr (.inr (.inr rfl))))), hn.k.of_block k4.size (fun j hj => k4.block j (hE j (.inl hj))), hn.v.of_block k4.size (fun j hj => k4.block j (hE j (.inr (.inl hj)))), hn.a.of_block k4.size (fun j hj => k4.block j (hE j (.inr (.inr (.inl hj))))), hn.ge, hn.new, hn.kv, hn.ka, hn.va⟩
    have HGo := Lib.hid (fun (wc : World) hcut => mend_gone (w4 := w4) (wc := wc) (ka := some ⟨gk, 0, none⟩) (va := va) (aa := some ⟨ga, 0, none⟩) (nb := nb) (N := N) (l := keys.take m ++ keys.drop (m + 1)) (cs := kids.take (m + 1) ++ kids.drop (m + 2)) (q := cb) hb hT p4 hkz7 k4 hE hTR htab (AP.wrote_has.2 ok.hb) p.there hcut)
    obtain ⟨hI1, hI2⟩ := mend_del (m := m) hn4 hkn hcn h100 hmn
    have HI1 := Lib.hid hI1
    have HI2 := Lib.hid hI2
    have hS1 : w4.drew.cell? ⟨nb, 1, none⟩ = some (.slice (some ⟨gk, 0, none⟩) n kc) ∧ w4.drew.cell? ⟨nb, 3, none⟩ = some (.slice (some ⟨ga, 0, none⟩) (n + 1) ac) := ⟨x41, x43⟩
    have bld : Below w4.heap.size w4 w4.drew := (Below.refl _ _).drew
    clear p4 p hb hT hn hE hTR htab ok hkn hcn hn4 hI1 hI2 hf ht k4 HX HNC
    go_upto_region 19 with (fail)
    go_cut [] (fun wx => PutI N w4 wx nb (some ⟨gk, 0, none⟩) va (some ⟨ga, 0, none⟩) (keys.take m ++ keys.drop (m + 1)) (kids.take (m + 1) ++ kids.drop (m + 2)))
    case first =>
      clear v5 v6 v7 v8 v9 v10
      refine wp_region_any (by kernel_rfl) ?_
      refine wpAny_take (i := 0) (v := ?va0) rfl (by kernel_rfl) (by kernel_rfl) (by kernel_rfl) (fun _ _ _ h => h) (Or.inl ⟨by rfl, ?hya0⟩) ?resta0
      case hya0 => (intro w; go_simp; try with_reducible rfl)
      try simp only [Act.put, List.setIfInBounds_toArray, List.set_cons_zero, List.set_cons_succ]
      refine wpAny_take (i := 1) (v := ?va1) rfl (by kernel_rfl) (by kernel_rfl) (by kernel_rfl) (fun _ _ _ h => h) (Or.inl ⟨by rfl, ?hya1⟩) ?resta1
      case hya1 => (intro w; go_simp; try with_reducible rfl)
      try simp only [Act.put, List.setIfInBounds_toArray, List.set_cons_zero, List.set_cons_succ]
      refine wpAny_take (i := 2) (v := ?va2) rfl (by kernel_rfl) (by kernel_rfl) (by kernel_rfl) (fun _ _ _ h => h) (Or.inl ⟨by rfl, ?hya2⟩) ?resta2
      case hya2 => (intro w; go_simp; try with_reducible rfl)
      try simp only [Act.put, List.setIfInBounds_toArray, List.set_cons_zero, List.set_cons_succ]
      refine wpAny_take (i := 3) (v := ?va3) rfl (by kernel_rfl) (by kernel_rfl) (by kernel_rfl) (fun _ _ _ h => h) (Or.inl ⟨by rfl, ?hya3⟩) ?resta3
      case hya3 => (intro w; go_simp; try with_reducible rfl)
      try simp only [Act.put, List.setIfInBounds_toArray, List.set_cons_zero, List.set_cons_succ]
      refine wpAny_take (i := 4) (v := ?va4) rfl (by kernel_rfl) (by kernel_rfl) (by kernel_rfl) (fun _ _ _ h => h) (Or.inl ⟨by rfl, ?hya4⟩) ?resta4
      case hya4 => (intro w; go_simp; try with_reducible rfl)
      try simp only [Act.put, List.setIfInBounds_toArray, List.set_cons_zero, List.set_cons_succ]
      refine wpAny_take (i := 6) (v := ?va6) rfl (by kernel_rfl) (by kernel_rfl) (by kernel_rfl) (fun _ _ _ h => h) (Or.inl ⟨by rfl, ?hya6⟩) ?resta6
      case hya6 => (intro w; go_simp; try with_reducible rfl)
      try simp only [Act.put, List.setIfInBounds_toArray, List.set_cons_zero, List.set_cons_succ]
      refine wpAny_take (i := 7) (v := ?va7) rfl (by kernel_rfl) (by kernel_rfl) (by kernel_rfl) (fun _ _ _ h => h) (Or.inl ⟨by rfl, ?hya7⟩) ?resta7
      case hya7 => (intro w; go_simp; try with_reducible rfl)
      try simp only [Act.put, List.setIfInBounds_toArray, List.set_cons_zero, List.set_cons_succ]
      refine wpAny_take (i := 8) (v := ?va8) rfl (by kernel_rfl) (by kernel_rfl) (by kernel_rfl) (fun _ _ _ h => h) (Or.inl ⟨by rfl, ?hya8⟩) ?resta8
      case hya8 => (intro w; go_simp; try with_reducible rfl)
      try simp only [Act.put, List.setIfInBounds_toArray, List.set_cons_zero, List.set_cons_succ]
      refine wpAny_take (i := 10) (v := ?va10) rfl (by kernel_rfl) (by kernel_rfl) (by kernel_rfl) (fun _ _ _ h => h) (Or.inl ⟨by rfl, ?hya10⟩) ?resta10
      case hya10 => (intro w; go_simp; try with_reducible rfl)
      try simp only [Act.put, List.setIfInBounds_toArray, List.set_cons_zero, List.set_cons_succ]
      refine wpAny_take (i := 11) (v := ?va11) rfl (by kernel_rfl) (by kernel_rfl) (by kernel_rfl) (fun _ _ _ h => h) (Or.inl ⟨by rfl, ?hya11⟩) ?resta11
      case hya11 => (intro w; go_simp; try with_reducible rfl)
      try simp only [Act.put, List.setIfInBounds_toArray, List.set_cons_zero, List.set_cons_succ]
      refine wpAny_take (i := 12) (v := ?va12) rfl (by kernel_rfl) (by kernel_rfl) (by kernel_rfl) (fun _ _ _ h => h) (Or.inl ⟨by rfl, ?hya12⟩) ?resta12
      case hya12 => (intro w; go_simp; try with_reducible rfl)
      try simp only [Act.put, List.setIfInBounds_toArray, List.set_cons_zero, List.set_cons_succ]
      refine wpAny_take (i := 14) (v := ?va14) rfl (by kernel_rfl) (by kernel_rfl) (by kernel_rfl) (fun _ _ _ h => h) (Or.inl ⟨by rfl, ?hya14⟩) ?resta14
      case hya14 => (intro w; go_simp; try with_reducible rfl)
      try simp only [Act.put, List.setIfInBounds_toArray, List.set_cons_zero, List.set_cons_succ]
      refine wpAny_take (i := 15) (v := ?va15) rfl (by kernel_rfl) (by kernel_rfl) (by kernel_rfl) (fun _ _ _ h => h) (Or.inl ⟨by rfl, ?hya15⟩) ?resta15
      case hya15 => (intro w; go_simp; try with_reducible rfl)
      try simp only [Act.put, List.setIfInBounds_toArray, List.set_cons_zero, List.set_cons_succ]
      refine wpAny_take (i := 16) (v := ?va16) rfl (by kernel_rfl) (by kernel_rfl) (by kernel_rfl) (fun _ _ _ h => h) (Or.inl ⟨by rfl, ?hya16⟩) ?resta16
      case hya16 => (intro w; go_simp; try with_reducible rfl)
      try simp only [Act.put, List.setIfInBounds_toArray, List.set_cons_zero, List.set_cons_succ]
      refine wpAny_take (i := 17) (v := ?va17) rfl (by kernel_rfl) (by kernel_rfl) (by kernel_rfl) (fun _ _ _ h => h) (Or.inl ⟨by rfl, ?hya17⟩) ?resta17
      case hya17 => (intro w; go_simp; try with_reducible rfl)
      try simp only [Act.put, List.setIfInBounds_toArray, List.set_cons_zero, List.set_cons_succ]
      have hS0 : (fun w' : World => w'.cell? ⟨nb, 1, none⟩ = some (.slice (some ⟨gk, 0, none⟩) n kc) ∧ w'.cell? ⟨nb, 3, none⟩ = some (.slice (some ⟨ga, 0, none⟩) (n + 1) ac)) w4.drew := hS1
      refine wpAny_of_late (S := fun w' => w'.cell? ⟨nb, 1, none⟩ = some (.slice (some ⟨gk, 0, none⟩) n kc) ∧ w'.cell? ⟨nb, 3, none⟩ = some (.slice (some ⟨ga, 0, none⟩) (n + 1) ac)) (late := fun j => decide (19 ≤ j)) _ _ _ _ ?_
      change wpLate _ _ _ _ _ _ _ _ _ (w4.drew)
      refine wpLate_take (i := 5) (v := ?va5) rfl (by kernel_rfl) (by kernel_rfl) (by kernel_rfl) (by kernel_rfl) (fun _ _ _ h => h) hS0 (by rfl) ?hya5 ?resta5
      case hya5 => (intro w hSw; (try dsimp only at hSw); go_simp; try with_reducible rfl)
      try simp only [Act.put, List.setIfInBounds_toArray, List.set_cons_zero, List.set_cons_succ]
      refine wpLate_take (i := 13) (v := ?va13) rfl (by kernel_rfl) (by kernel_rfl) (by kernel_rfl) (by kernel_rfl) (fun _ _ _ h => h) hS0 (by rfl) ?hya13 ?resta13
      case hya13 => (intro w hSw; (try dsimp only at hSw); go_simp; try with_reducible rfl)
      try simp only [Act.put, List.setIfInBounds_toArray, List.set_cons_zero, List.set_cons_succ]
      clear hS0
      refine wpLate_one (i := 9) (by kernel_rfl) rfl (fun K hK => ?_)
      go_simp
      refine (HI1.out _ bld).mono ?_
      rintro e w9 ⟨rfl, mm, s1, s2⟩
      (try dsimp only)
      refine hK.out _ _ (fun _ => ⟨s1, s2⟩) ?_
      clear hK K
      try simp only [Act.put, List.setIfInBounds_toArray, List.set_cons_zero, List.set_cons_succ]
      refine wpLate_one (i := 18) (by kernel_rfl) rfl (fun K hK => ?_)
      go_simp
      refine (HI2.out _ mm).mono ?_
      rintro e w18 ⟨rfl, l2, t1, t2, q1, q2⟩
      (try dsimp only)
      refine hK.out _ _ (fun _ => ⟨t1, t2⟩) ?_
      clear hK K
      try simp only [Act.put, List.setIfInBounds_toArray, List.set_cons_zero, List.set_cons_succ]
      refine wpLate_one (i := 19) (by kernel_rfl) rfl (fun K hK => ?_)
      go_simp
      refine hK.out _ _ (fun h => absurd h (by decide)) ?_
      clear hK K
      refine wpLate_one (i := 20) (by kernel_rfl) rfl (fun K hK => ?_)
      go_simp
      refine hK.out _ _ (fun h => absurd h (by decide)) ?_
      clear hK K
      refine wpLate_one (i := 21) (by kernel_rfl) rfl (fun K hK => ?_)
      go_simp
      refine hK.out _ _ (fun h => absurd h (by decide)) ?_
      clear hK K
      refine wpLate_one (i := 22) (by kernel_rfl) rfl (fun K hK => ?_)
      go_simp
      refine hK.out _ _ (fun h => absurd h (by decide)) ?_
      clear hK K
      refine wpLate_one (i := 23) (by kernel_rfl) rfl (fun K hK => ?_)
      go_simp
      refine hK.out _ _ (fun h => absurd h (by decide)) ?_
      clear hK K
      refine wpLate_one (i := 24) (by kernel_rfl) rfl (fun K hK => ?_)
      go_simp
      refine hK.out _ _ (fun h => absurd h (by decide)) ?_
      clear hK K
      refine wpLate_done (by kernel_rfl) ?_ _
      go_wp2_with fail
      go_meet
      case rel => exact l2
    case rest =>
      obtain ⟨hG, ct⟩ := HGo.out _ hcut
      have HG := Lib.hid hG
      clear hG hcut HGo HI1 HI2 hS1 bld x41 x43 y40 z40 z41 f40
      go_wp2_with fail
      refine HG.out.mono ?_
      rintro e w5 ⟨rfl, L, H, kk, m1, m2, m3, m4⟩
      have HM := Lib.hid (And.intro m1 (And.intro m2 (And.intro m3 m4)))
      clear m1 m2 m3 m4 HG
      go_wp2
      go_ret
      obtain ⟨m1, m2, m3, m4⟩ := HM.out
      exact ⟨rfl, L, H, kk, m1, m2, HKK.out kk m3, m4⟩
end
end Go.Proofs.YtfljlcfmdcepnaaGreatDoor
