/-
  A tree that is one leaf: drop of a key.
-/
import Derived.Test.YthjnfclebeggaaaDoorTreeL
namespace Go.Proofs.YthjnfclebeggaaaDoor
open Go.RowKit
open UK (str BytesAt nth Only Row Box w32)
open Go.BigFrame
section
variable {E : Nat → Prop} {W W' w2 wc : World} {P D T k k0 pg N M nb kc vc ac : Nat} {A : AP} {x : Nd} {ka va aa : Option Addr}
theorem putM_gen {wb w : World} {ks vs l m : List UInt64} {g c g2 c2 a b : Nat} (h : NodeO N W nb { leaf := true, keys := ks, vals := vs, kids := [] } ka va none kc vc 0)
    (m1 : Mid1 N W wb nb { leaf := true, keys := ks, vals := vs, kids := [] } ka va none kc vc 0 l g c) (r : Row w g2 c2 (u64s m)) (o : Only g2 wb w) (hg : slB va g2 ∨ wb.heap.size ≤ g2) (e1 : l.length = a) (e2 : m.length = b) :
    PutM N W ((w.setCell ⟨nb, 1, none⟩ (.slice (some ⟨g, 0, none⟩) a c)).setCell ⟨nb, 2, none⟩ (.slice (some ⟨g2, 0, none⟩) b c2)) nb ka va l m := by
  obtain ⟨d1, d2, _, _⟩ := m1.done h r o hg
  rw [e1, e2] at d1 d2
  refine ⟨_, _, _, _, d1, d2, fun j hj => ?_, fun j hj => ?_⟩
  · rw [slB_inj hj]; exact m1.own
  · rw [slB_inj hj]
    rcases hg with h1 | h1
    · exact .inl h1
    · exact .inr (Nat.le_trans m1.kept.size h1)
set_option maxRecDepth 100000 in
theorem poor_leaf {S : Nat → Prop} {W : World} {nb : Nat} (hn : NodeR S W nb x) (hl : x.leaf = true) :
    Calls Tryd.prog 146 #[.pointer (some ⟨nb, 0, none⟩)] W fun e w' => e = .returned (.bool (decide (x.keys.length < 15))) ∧ w' = W := by
  obtain ⟨kv, vv, av, b, hb, ⟨ao, c, rfl, _, _⟩, _, _⟩ := hn
  rw [u64s_length] at b
  rw [hl] at b
  have c0 : W.cell? ⟨nb, 0, none⟩ = some (.bool true) := b.cell 0 _ rfl
  have c1 : W.cell? ⟨nb, 1, none⟩ = some (.slice ao x.keys.length c) := b.cell 1 _ rfl
  have d1 : decide ((x.keys.length : Int) < 15) = decide (x.keys.length < 15) := decide_eq_decide.2 (by omega)
  clear b
  go_enter Tryd.func146, Tryd.ntmps146
  go_wp2
  go_ret
  first | exact ⟨rfl, rfl⟩ | exact ⟨by rw [← d1]; rfl, rfl⟩
/-- behind a drop -/
def DropL (E : Nat → Prop) (W w' : World) (P D T root : Nat) (A : AP) (k pg : Nat) (ks vs : List UInt64) (key : UInt64) (e : Ending) : Prop :=
  ∃ i : Nat, e = .returned (.tuple #[.bool true, .bool (decide (ks.length - 1 < 15)), .int .i64 0]) ∧ i < ks.length ∧ Stands ks key i ∧ TreeAt E w' P D T root (A.wrote pg (encLeaf (A.c pg) (ks.take i ++ ks.drop (i + 1)) (vs.take i ++ vs.drop (i + 1)))) k ∧ Kept E W w'
set_option maxHeartbeats 8000000 in
set_option maxRecDepth 100000 in
theorem drop_leaf {rt : Nat} {ks vs : List UInt64} (h : TreeAt E W P D T rt A k) (hk : k + 5 < 900000000) (hl : LeafIs A pg ks vs) (hn : ks.length ≤ 30) (key : UInt64) (hin : key ∈ ks) (deep : Nat) (hd : deep ≤ 20) :
    Calls Tryd.prog 126 #[.pointer (some ⟨T, 0, none⟩), .int .i64 pg, .int .u64 key.toNat, .int .i64 deep] W fun e w' => DropL E W w' P D T rt A (k + 5) pg ks vs key e := by
  have HL := Lib.hid (load_leaf h.pz (by omega) h.box hl.has hl.head)
  have HH := Lib.hid (And.intro h hl)
  clear h hl
  go_enter Tryd.func126, Tryd.ntmps126
  go_wp2_with fail
  refine HL.out.mono ?_
  rintro e w1 ⟨N, M, nb, ka, va, kc, vc, rfl, hN, hM, ⟨hn1, hnM, hgM⟩, p1, k1⟩
  obtain ⟨h, hl⟩ := HH.out
  rw [hl.keys, hl.vals] at hn1
  have b0 : w1.cell? ⟨nb, 0, none⟩ = some (.bool true) := hn1.box.cell 0 _ rfl
  have b1 : w1.cell? ⟨nb, 1, none⟩ = some (.slice ka ks.length kc) := hn1.box.cell 1 _ rfl
  have b2 : w1.cell? ⟨nb, 2, none⟩ = some (.slice va vs.length vc) := hn1.box.cell 2 _ rfl
  have hS := search_any (hn1.k.win (S := fun _ => True) (fun _ _ => trivial)) hl.up (show ks.length ≤ 1000 by omega) key
  rw [u64s_length] at hS
  rw [decide_eq_true hin] at hS
  have HS := Lib.hid hS
  have H1 := Lib.hid (And.intro hN (And.intro hM (And.intro hn1 (And.intro hnM (And.intro hgM (And.intro p1 k1))))))
  clear HL hn1 hnM hgM p1 k1 hS hN hM
  go_wp2_with fail
  refine HS.out.mono ?_
  rintro e w2 ⟨i, rfl, hst, rfl⟩
  obtain ⟨hN, hM, hn1, hnM, hgM, p1, k1⟩ := H1.out
  have hlv := hl.len
  have hi : i < ks.length := by
    rcases Nat.lt_or_ge i ks.length with h1 | h1
    · exact h1
    · obtain rfl : i = ks.length := by have := hst.le; omega
      exact absurd hin hst.none
  have hNs : N ≤ w2.heap.size := by have := hn1.ge; omega
  obtain ⟨g, rfl, rk⟩ : ∃ g, ka = some ⟨g, 0, none⟩ ∧ Row w2 g kc (u64s ks) := by
    rcases hn1.k with hz | h1
    · have := congrArg List.length hz.2.1; rw [u64s_length] at this; exact absurd (show ks.length = 0 from this) (by omega)
    · exact h1
  obtain ⟨g2, rfl, rv⟩ : ∃ g, va = some ⟨g, 0, none⟩ ∧ Row w2 g vc (u64s vs) := by
    rcases hn1.v with hz | h1
    · have := congrArg List.length hz.2.1; rw [u64s_length] at this; exact absurd (show vs.length = 0 from this) (by omega)
    · exact h1
  have e1 : (ks.take i ++ ks.drop (i + 1)).length = ks.length - 1 := by simp; omega
  have e2 : (vs.take i ++ vs.drop (i + 1)).length = vs.length - 1 := by simp; omega
  have HI1 := Lib.hid (fun (wa : World) (ba : Below w2.heap.size w2 wa) => (show Calls Tryd.prog 145 #[.slice (some ⟨g, 0, none⟩) ks.length kc, .int .i64 i, .int .i64 ((i : Int) + 1)] wa fun e w' => e = .returned (.slice (some ⟨g, 0, none⟩) (ks.length - 1) kc) ∧ Mid1 N w2 w' nb { leaf := true, keys := ks, vals := vs, kids := [] } (some ⟨g, 0, none⟩) (some ⟨g2, 0, none⟩) none kc vc 0 (ks.take i ++ ks.drop (i + 1)) g kc ∧ w'.cell? ⟨nb, 1, none⟩ = some (.slice (some ⟨g, 0, none⟩) ks.length kc) ∧ w'.cell? ⟨nb, 2, none⟩ = some (.slice (some ⟨g2, 0, none⟩) vs.length vc) from
    (delete_any (rk.below ba rk.lt) (show ks.length ≤ 1000 by omega) hi).mono (fun e w' ⟨he, r, o⟩ =>
      have m := hn1.mid1 hNs ba r o (.inl rfl)
      ⟨he, m, m.box.cell 1 _ rfl, m.box.cell 2 _ rfl⟩)))
  have HI2 := Lib.hid (fun (wb : World) (m : Mid1 N w2 wb nb { leaf := true, keys := ks, vals := vs, kids := [] } (some ⟨g, 0, none⟩) (some ⟨g2, 0, none⟩) none kc vc 0 (ks.take i ++ ks.drop (i + 1)) g kc) => (show Calls Tryd.prog 145 #[.slice (some ⟨g2, 0, none⟩) vs.length vc, .int .i64 i, .int .i64 ((i : Int) + 1)] wb fun e w' => e = .returned (.slice (some ⟨g2, 0, none⟩) (vs.length - 1) vc) ∧ PutM N w2 ((w'.setCell ⟨nb, 1, none⟩ (.slice (some ⟨g, 0, none⟩) (ks.length - 1) kc)).setCell ⟨nb, 2, none⟩ (.slice (some ⟨g2, 0, none⟩) (vs.length - 1) vc)) nb (some ⟨g, 0, none⟩) (some ⟨g2, 0, none⟩) (ks.take i ++ ks.drop (i + 1)) (vs.take i ++ vs.drop (i + 1)) ∧ w'.cell? ⟨nb, 1, none⟩ = some (.slice (some ⟨g, 0, none⟩) ks.length kc) ∧ w'.cell? ⟨nb, 2, none⟩ = some (.slice (some ⟨g2, 0, none⟩) vs.length vc) ∧ w'.frozen? ⟨nb, 1, none⟩ = false ∧ w'.frozen? ⟨nb, 2, none⟩ = false from by
    obtain ⟨g', e', rv2⟩ : ∃ g', some (⟨g2, 0, none⟩ : Addr) = some ⟨g', 0, none⟩ ∧ Row wb g' vc (u64s vs) := by
      rcases m.v with hz | h1
      · have := congrArg List.length hz.2.1; rw [u64s_length] at this; exact absurd (show vs.length = 0 from this) (by omega)
      · exact h1
    injection e' with e'; injection e' with e'; subst e'
    refine (delete_any rv2 (show vs.length ≤ 1000 by omega) (show i < vs.length by omega)).mono (fun e w' ⟨he, r, o⟩ => ?_)
    have hd := (m.done hn1 r o (.inl rfl)).2.2.1
    exact ⟨he, putM_gen hn1 m r o (.inl rfl) e1 e2, hd.cell 1 _ rfl, hd.cell 2 _ rfl, hd.free 1, hd.free 2⟩))
  have HI := Lib.hid (And.intro hi (And.intro hlv (And.intro hst (And.intro e1 e2))))
  have f1 : IntKind.i64.wrap ((i : Int) + 1) = (i : Int) + 1 := IntWalk.i64_in _ (by omega)
  clear hn1 hgM p1 k1 hst HS hlv e1 e2 rk rv
  go_upto_region 10 with (fail)
  go_cut [] (fun wx => PutM N w2 wx nb (some ⟨g, 0, none⟩) (some ⟨g2, 0, none⟩) (ks.take i ++ ks.drop (i + 1)) (vs.take i ++ vs.drop (i + 1)))
  case first =>
    go_region_law
      (first
        | (have hm := m1; clear hm; go_simp; go_at_call 145; refine (HI2.out _ m1).mono ?_; rintro e w4 ⟨rfl, l2, s1, s2, q1, q2⟩)
        | ((fail_if_success (have hm := m1)); go_simp; go_at_call 145; refine (HI1.out _ ?_).mono ?_; (repeat (first | with_reducible exact Below.refl _ _ | with_reducible apply bel_drew)); rintro e w3 ⟨rfl, m1, t1, t2⟩))
    all_goals
      go_wp2_with fail
      go_meet
      case rel => exact l2
  case rest =>
    obtain ⟨hN, hM, hn1, hnM, hgM, p1, k1⟩ := H1.out
    obtain ⟨h, hl⟩ := HH.out
    obtain ⟨p2, hr, hbx, k2⟩ := putM_next h hN hn1 hnM hgM p1 k1 hcut
    obtain ⟨hi, hlv, hst, e1, e2⟩ := HI.out
    have hP := poor_leaf hr rfl
    rw [show (ks.take i ++ ks.drop (i + 1)).length = ks.length - 1 from e1] at hP
    have HF := Lib.hid hP
    have HS2 := Lib.hid (fun (m : Nat) => store_leaf (p2.next (UK.belowN (Below.refl _ _) m)) (by omega) (show Box (wc.drewN m) T _ from hbx) hl.has (show NodeR _ (wc.drewN m) nb _ from hr) rfl (show (ks.take i ++ ks.drop (i + 1)).length ≤ 30 by omega) (e2.trans (by rw [hlv]; exact e1.symm)))
    have HB := Lib.hid (fun (w' : World) (m : Nat) (p3 : PZ (fun j => E j ∨ (N ≤ j ∧ j < M) ∨ (w2.heap.size ≤ j ∧ j < wc.heap.size)) w' P D (A.wrote pg (encLeaf (A.c pg) (ks.take i ++ ks.drop (i + 1)) (vs.take i ++ vs.drop (i + 1)))) (k + 2 + 3)) (k3 : Kept (fun j => E j ∨ (N ≤ j ∧ j < M) ∨ (w2.heap.size ≤ j ∧ j < wc.heap.size)) (wc.drewN m) w') => (show DropL E W w' P D T rt A (k + 5) pg ks vs key (.returned (.tuple #[.bool true, .bool (decide (ks.length - 1 < 15)), .int .i64 0])) from
      ⟨i, rfl, hi, hst, ⟨p3.less (fun _ hj => .inl hj), (show Box (wc.drewN m) T _ from hbx).of_block (k3.block T (.inl h.mem)), h.mem⟩, (k2.trans ((p2.less (fun _ hj => .inl hj)).kept (UK.belowN (Below.refl _ _) m))).trans (k3.mono (fun _ hj => .inl hj))⟩))
    clear H1 HH hcut hN hM hn1 hnM hgM p1 k1 h hl p2 hr hbx k2 hlv hst e1 e2 HI HI1 HI2 hP
    go_wp2_with fail
    refine HF.out.mono ?_
    rintro e w5 ⟨rfl, rfl⟩
    go_wp2_with fail
    refine (HS2.out 0).mono ?_
    rintro e w6 ⟨rfl, p3, k3⟩
    go_wp2
    go_ret3
    exact HB.out _ 0 p3 k3
end
end Go.Proofs.YthjnfclebeggaaaDoor
