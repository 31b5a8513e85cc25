/-
  The tree: an inner node that is too full is two: the walk.
-/
import Derived.Test.YtfljlcfmdcepnaaGreatDoorJTrG
namespace Go.Proofs.YtfljlcfmdcepnaaGreatDoor
open Go.RowKit
open UK (str BytesAt nth Only Row Box)
section
variable {S : Nat → Prop} {W W' : World} {nb : Nat} {x : Nd}
theorem wrap64_lt (k : Nat) (h : k ≤ 1000) : wrap64 (k : Int) = (k : Int) := by unfold wrap64; omega
theorem wrapk_lt (k : Nat) (h : k ≤ 1000) : IntKind.i64.wrap (k : Int) = (k : Int) := by rw [IntKind.wrap_i64]; omega
set_option maxHeartbeats 8000000 in
set_option maxRecDepth 100000 in
theorem split_inner {keys : List UInt64} {kids : List Nat} {n m h : Nat} (hn : NodeW S W nb ⟨false, keys, [], kids⟩) (hS : ∀ g, S g → g < W.heap.size ∧ g ≠ nb) (hl : keys.length = n) (hv : kids.length = m) (hm : m = n + 1) (hm2 : m ≤ 1000) (hh : m / 2 = h) (h2 : 2 ≤ h) :
    Calls Tryz.prog 112 #[.pointer (some ⟨nb, 0, none⟩)] W (SplitR S W nb ⟨false, keys, [], kids⟩) := by
  obtain ⟨kv, av, vv, b, hk, ha, hvv⟩ := hn
  dsimp only at b hk hvv ha
  have hhn : h < n := by omega
  have hhm : h < m := by omega
  obtain ⟨g1, o1, d1, rfl, hd1, _⟩ := hk.shape (by rw [u64s_length]; omega)
  obtain ⟨g2, o2, d2, rfl, hd2, _⟩ := hvv.shape (by rw [ints_length]; omega)
  rw [u64s_length, hl] at b hk hd1
  rw [ints_length, hv] at b hvv hd2
  have hwr2 : wrap64 ((h - 1 : Nat) : Int) = ((h - 1 : Nat) : Int) := wrap64_lt _ (by omega)
  have hwr1 : wrap64 ((h : Int) - 1) = ((h - 1 : Nat) : Int) := by
    have e : (h : Int) - 1 = ((h - 1 : Nat) : Int) := (Int.ofNat_sub (show 1 ≤ h by omega)).symm
    rw [e]; exact hwr2
  have hwr3 : IntKind.i64.wrap ((h : Int) - 1) = ((h - 1 : Nat) : Int) := by
    have e : (h : Int) - 1 = ((h - 1 : Nat) : Int) := (Int.ofNat_sub (show 1 ≤ h by omega)).symm
    rw [e]; exact wrapk_lt _ (by omega)
  have hc1 : ((h - 1 : Nat) : Int) ≤ (d1 : Int) := Int.ofNat_le.2 (by omega)
  have hc2 : (h : Int) ≤ (d2 : Int) := Int.ofNat_le.2 (by omega)
  have hc3 : ((h - 1 : Nat) : Int) < (n : Int) := Int.ofNat_lt.2 (by omega)
  have hc4 : (0 : Int) ≤ ((h - 1 : Nat) : Int) := Int.natCast_nonneg _
  have hc5 : h - 1 < n := by omega
  have H9 := Lib.hid (And.intro hwr3 (And.intro hwr1 (And.intro hwr2 (And.intro hc1 (And.intro hc2 (And.intro hc3 (And.intro hc4 hc5)))))))
  clear hwr3 hwr1 hwr2 hc1 hc2 hc3 hc4 hc5
  have b0 : W.cell? ⟨nb, 0, none⟩ = some (.bool false) := b.cell 0 _ rfl
  have b1 : W.cell? ⟨nb, 1, none⟩ = some (.slice (some ⟨g1, o1, none⟩) n d1) := b.cell 1 _ rfl
  have b3 : W.cell? ⟨nb, 3, none⟩ = some (.slice (some ⟨g2, o2, none⟩) m d2) := b.cell 3 _ rfl
  have hb := b
  have k2 : Win S W (.slice (some ⟨g1, o1 + h, none⟩) (keys.drop h).length (d1 - h)) (u64s (keys.drop h)) := by
    have := hk.drop h (by omega)
    rw [u64s_drop] at this
    rw [List.length_drop, hl]; exact this
  have v2 : Win S W (.slice (some ⟨g2, o2 + h, none⟩) (kids.drop h).length (d2 - h)) (ints (kids.drop h)) := by
    have := hvv.drop h (by omega)
    rw [ints_drop] at this
    rw [List.length_drop, hv]; exact this
  have k1 : Win S W (.slice (some ⟨g1, o1, none⟩) (h - 1) d1) (u64s (keys.take (h - 1))) := by
    have := hk.take (h - 1) (by omega)
    rw [u64s_take] at this; exact this
  have v1 : Win S W (.slice (some ⟨g2, o2, none⟩) h d2) (ints (kids.take h)) := by
    have := hvv.take h (by omega)
    rw [ints_take] at this; exact this
  have hlk : (keys.drop h).length = n - h := by rw [List.length_drop, hl]
  have hlv : (kids.drop h).length = m - h := by rw [List.length_drop, hv]
  obtain ⟨q, hqe⟩ : ∃ q : UInt64, q = keys.getD (h - 1) 0 := ⟨_, rfl⟩
  have c8 : W.cell? ⟨g1, o1 + (h - 1), none⟩ = some (.int .u64 (q.toNat : Int)) ∧ g1 < W.heap.size := by
    obtain ⟨ao, c', e, _, hv8⟩ := hk
    obtain ⟨g', o', e2, hg, hc⟩ := hv8 (h - 1) (.int .u64 (q.toNat : Int)) (u64s_at _ _ _ (by
      rw [hqe, List.getD_eq_getElem?_getD, List.getElem?_eq_getElem (by omega)]; rfl))
    injection e with e _ _
    rw [e2] at e
    injection e with e
    injection e with e4 e5
    subst e4 e5
    exact ⟨hc, (hS _ hg).1⟩
  have C8 := Lib.hid c8
  have HQ := Lib.hid hqe
  clear c8 hqe
  have hSl : ∀ g, S g → g < W.heap.size := fun g hg => (hS g hg).1
  have hC := ((clone_u64 (W := W.drew) (k2.below (hBd W) hSl) hSl (by omega) (by omega)).mono (R' := fun e w' => ∃ ga ca, e = .returned (.slice (some ⟨ga, 0, none⟩) (n - h) ca) ∧ Box w' nb #[.bool false, .slice (some ⟨g1, o1, none⟩) n d1, av, .slice (some ⟨g2, o2, none⟩) m d2] ∧
    Calls Tryz.prog 144 #[.slice (some ⟨g2, o2 + h, none⟩) (m - h) (d2 - h)] w' (fun e w'' => ∃ gb cb, e = .returned (.slice (some ⟨gb, 0, none⟩) (m - h) cb) ∧ Box w'' nb #[.bool false, .slice (some ⟨g1, o1, none⟩) n d1, av, .slice (some ⟨g2, o2, none⟩) m d2] ∧
      Row w'' ga ca (u64s (keys.drop h)) ∧ Row w'' gb cb (ints (kids.drop h)) ∧ W.heap.size ≤ ga ∧ W.heap.size ≤ gb ∧ ga ≠ gb ∧ Below W.heap.size W w'')) (fun e w' ⟨ga, ca, he, r1, hga, bl1⟩ => by
    have bl : Below W.heap.size W w' := (hBd W).trans bl1
    rw [hlk] at he
    refine ⟨ga, ca, he, hb.next bl, ?_⟩
    have hlt : ∀ g, S g → g < w'.heap.size := fun g hg => Nat.lt_of_lt_of_le (hSl g hg) bl.size
    have := clone_int (v2.below bl hSl) hlt (by omega) (by omega)
    rw [hlv] at this
    refine this.mono (fun e w'' ⟨gb, cb, he, r2, hgb, bl2⟩ => ?_)
    have bl3 : Below W.heap.size W w'' := bl.trans (bl2.mono bl.size)
    rw [hlv] at he
    have := r1.lt
    exact ⟨gb, cb, he, hb.next bl3, r1.of_block bl2.size (bl2.block _ r1.lt), r2, hga, by have := bl.size; omega, by omega, bl3⟩))
  rw [hlk] at hC
  have HC := Lib.hid hC
  have HK := Lib.hid (And.intro hb (And.intro k1 (And.intro v1 ha)))
  clear b hk hvv ha k1 k2 v1 v2 hlk hlv hb hC
  have hq : Int.tdiv (m : Int) 2 = (h : Int) := by rw [Int.tdiv_eq_ediv_of_nonneg (by omega)]; omega
  have hq2 : (m : Int) / 2 = (h : Int) := by omega
  have hm' : Hid (m = n + 1 ∧ m / 2 = h ∧ m ≤ 1000) := ⟨hm, hh, hm2⟩
  have hi0 : (0 : Int) ≤ (h : Int) := by omega
  have hi1 : (h : Int) ≤ (n : Int) := by omega
  have hi2 : (h : Int) ≤ (m : Int) := by omega
  have hwr : wrap64 (h : Int) = (h : Int) := wrap64_lt _ (by omega)
  have hne1 : ¬ (d1 = h) := by omega
  have hne2 : ¬ (d2 = h) := by omega
  clear hm hh hm2
  go_enter Tryz.func112, Tryz.ntmps112
  go_wp2_with fail
  go_region_held (fun w : World => w.cell? ⟨nb, 1, none⟩ = some (.slice (some ⟨g1, o1, none⟩) n d1) ∧ w.cell? ⟨nb, 3, none⟩ = some (.slice (some ⟨g2, o2, none⟩) m d2)) (first | exact ⟨b1, b3⟩ | exact ⟨m1, m2⟩ | exact ⟨n1, n2⟩ | exact ⟨q1, q2⟩) (first
    | (go_at_call 143; refine HC.out.mono ?_; rintro e w3 ⟨ga, ca, rfl, y1, y2⟩; have m1 := y1.cell 1 _ rfl; have m2 := y1.cell 3 _ rfl; replace y1 := Lib.hid y1; replace y2 := Lib.hid y2)
    | (go_at_call 144; refine y2.out.mono ?_; rintro e w4 ⟨gb, cb, rfl, z1, z2⟩; have n1 := z1.cell 1 _ rfl; have n2 := z1.cell 3 _ rfl; have q1 := (z1.alloc (.cells #[.bool false, .slice (some ⟨ga, 0, none⟩) (n - h) ca, .slice none 0 0, .slice (some ⟨gb, 0, none⟩) (m - h) cb] 141)).cell 1 _ rfl; have q2 := (z1.alloc (.cells #[.bool false, .slice (some ⟨ga, 0, none⟩) (n - h) ca, .slice none 0 0, .slice (some ⟨gb, 0, none⟩) (m - h) cb] 141)).cell 3 _ rfl; replace z1 := Lib.hid z1; replace z2 := Lib.hid z2))
  obtain ⟨r1, r2, hga, hgb, hgab, bl⟩ := z2.out
  have hbx := z1.out.alloc (.cells #[.bool false, .slice (some ⟨ga, 0, none⟩) (n - h) ca, .slice none 0 0, .slice (some ⟨gb, 0, none⟩) (m - h) cb] 141)
  have hmx : Box (w4.alloc (.cells #[.bool false, .slice (some ⟨ga, 0, none⟩) (n - h) ca, .slice none 0 0, .slice (some ⟨gb, 0, none⟩) (m - h) cb] 141)) w4.heap.size #[.bool false, .slice (some ⟨ga, 0, none⟩) (n - h) ca, .slice none 0 0, .slice (some ⟨gb, 0, none⟩) (m - h) cb] := box_at rfl
  have bl5 := bl.alloc bl.size (.cells #[.bool false, .slice (some ⟨ga, 0, none⟩) (n - h) ca, .slice none 0 0, .slice (some ⟨gb, 0, none⟩) (m - h) cb] 141)
  have bw : Below w4.heap.size w4 (w4.alloc (.cells #[.bool false, .slice (some ⟨ga, 0, none⟩) (n - h) ca, .slice none 0 0, .slice (some ⟨gb, 0, none⟩) (m - h) cb] 141)) := (Below.refl _ _).alloc (Nat.le_refl _) _
  have hgam : ga < w4.heap.size := r1.lt
  have hgbm : gb < w4.heap.size := r2.lt
  replace r1 := r1.of_block bw.size (bw.block _ r1.lt)
  replace r2 := r2.of_block bw.size (bw.block _ r2.lt)
  have hms : W.heap.size ≤ w4.heap.size := bl.size
  have hnm : nb < w4.heap.size := z1.out.lt
  generalize hmb : w4.heap.size = mb at hmx hms hnm hgam hgbm
  generalize hw5 : w4.alloc (.cells #[.bool false, .slice (some ⟨ga, 0, none⟩) (n - h) ca, .slice none 0 0, .slice (some ⟨gb, 0, none⟩) (m - h) cb] 141) = w5 at hbx hmx bl5 r1 r2
  clear y1 y2 z1 z2 m1 m2 n1 n2 HC b0 b1 b3 q1 q2 bw
  have q1 := hbx.cell 1 _ rfl
  have q2 := hbx.cell 3 _ rfl
  have f1 := hbx.free 1
  have f2 := hbx.free 3
  have q8 : w5.cell? ⟨g1, o1 + (h - 1), none⟩ = some (.int .u64 (q.toNat : Int)) := (bl5.cell (p := ⟨g1, o1 + (h - 1), none⟩) C8.out.2).trans C8.out.1
  obtain ⟨hwr3, hwr1, hwr2, hc1, hc2, hc3, hc4, hc5⟩ := H9.out
  have H5 := Lib.hid (And.intro hbx (And.intro hmx (And.intro bl5 (And.intro r1 (And.intro r2 (And.intro hms hnm))))))
  have H6 := Lib.hid (And.intro hgam (And.intro hgbm (And.intro hga (And.intro hgb (And.intro hgab hS)))))
  clear hbx hmx bl5 r1 r2 hms hnm C8 hgam hgbm hga hgb hgab hS hSl hw5 hmb
  go_wp2_with fail
  go_region_law (fail)
  all_goals
    obtain ⟨hbx, hmx, bl5, r1, r2, hms, hnm⟩ := H5.out
    obtain ⟨hgam, hgbm, hga, hgb, hgab, hS⟩ := H6.out
    obtain ⟨hbo, k1, v1, ha⟩ := HK.out
    have o5 : Only nb W ((w5.setCell ⟨nb, 1, none⟩ (.slice (some ⟨g1, o1, none⟩) (h - 1) d1)).setCell ⟨nb, 3, none⟩ (.slice (some ⟨g2, o2, none⟩) h d2)).drew := (((Only.of_below bl5).set 1 _).set 3 _).drew
    have o6 : Only nb w5 ((w5.setCell ⟨nb, 1, none⟩ (.slice (some ⟨g1, o1, none⟩) (h - 1) d1)).setCell ⟨nb, 3, none⟩ (.slice (some ⟨g2, o2, none⟩) h d2)).drew := (((Only.refl nb w5).set 1 _).set 3 _).drew
    have hby : Box ((w5.setCell ⟨nb, 1, none⟩ (.slice (some ⟨g1, o1, none⟩) (h - 1) d1)).setCell ⟨nb, 3, none⟩ (.slice (some ⟨g2, o2, none⟩) h d2)).drew nb #[.bool false, .slice (some ⟨g1, o1, none⟩) (h - 1) d1, av, .slice (some ⟨g2, o2, none⟩) h d2] := (hbx.set 1 _).set 3 _
    have hmy := hmx.only o6 (Nat.ne_of_gt hnm)
    have hgn : ga ≠ nb := fun e => Nat.lt_irrefl nb (Nat.lt_of_lt_of_le hbo.lt (e ▸ hga))
    have hgn2 : gb ≠ nb := fun e => Nat.lt_irrefl nb (Nat.lt_of_lt_of_le hbo.lt (e ▸ hgb))
    have r1y := r1.only o6 hgn
    have r2y := r2.only o6 hgn2
    generalize ((w5.setCell ⟨nb, 1, none⟩ (.slice (some ⟨g1, o1, none⟩) (h - 1) d1)).setCell ⟨nb, 3, none⟩ (.slice (some ⟨g2, o2, none⟩) h d2)).drew = w6 at o5 o6 hby hmy r1y r2y
    have hlk : (u64s (keys.drop h)).length = n - h := by rw [u64s_length, List.length_drop, hl]
    have hlv : (ints (kids.drop h)).length = m - h := by rw [ints_length, List.length_drop, hv]
    have hmlt := hmy.lt
    have fin : SplitR S W nb ⟨false, keys, [], kids⟩ (.returned (.tuple #[.pointer (some ⟨mb, 0, none⟩), .int .u64 (q.toNat : Int)])) w6 := by
      rw [HQ.out]
      unfold SplitR
      rw [splitN_inner (show kids.length / 2 = h by rw [hv]; exact hm'.out.2.1)]
      refine ⟨mb, rfl, ⟨_, _, _, hby, k1.only o5 hS, ha.only o5 hS, v1.only o5 hS⟩, ⟨_, _, _, hmy, ?_, winNone, ?_⟩, hms, hmlt, o5⟩
      · have := winRow (S := fun g => W.heap.size ≤ g ∧ g < w6.heap.size ∧ g ≠ mb) r1y ⟨hga, r1y.lt, Nat.ne_of_lt hgam⟩
        rw [hlk] at this; exact this
      · have := winRow (S := fun g => W.heap.size ≤ g ∧ g < w6.heap.size ∧ g ≠ mb) r2y ⟨hgb, r2y.lt, Nat.ne_of_lt hgbm⟩
        rw [hlv] at this; exact this
    have HF := Lib.hid fin
    clear hbx hmx bl5 r1 r2 hms hnm hbo k1 v1 ha o5 o6 hby hmy r1y r2y fin hlk hlv H5 H6 HK hmlt hgam hgbm hgn hgn2 f1 f2 q1 q2 q8 hga hgb hgab hS HQ hl hv
    go_wp2
    go_ret2
    exact HF.out
end
end Go.Proofs.YtfljlcfmdcepnaaGreatDoor
