/-
  A tree that is one leaf: Next.
  A tree that is one leaf: drop of a key.
  A tree that is one leaf: Put, Drop. A tree that is one leaf: its bytes behind a put and behind a drop. A tree that is one leaf: the three calls, bundled. A new tree over a new pool over a new disk.
-/
import Derived.Test.YtfljlcfmdcepnaaGreatDoorJTreeK
import Derived.OwnWalk
import Derived.Test.YtfljlcfmdcepnaaGreatDoorJTrA
namespace Go.Proofs.YtfljlcfmdcepnaaGreatDoor
open Go.RowKit
open UK (str BytesAt nth Only Row Box w32)
open Go.BigFrame
section
variable {E : Nat → Prop} {W W' : World} {P D T k pg N M nb kc vc ac : Nat} {A : AP} {x : Nd} {ka va aa : Option Addr}
theorem results_tmp4 {fn : Func} {t u v y : Tmp} (h : fn.results = #[.tmp t, .tmp u, .tmp v, .tmp y]) (tmps : Array Value) (P : Program) (w : World) :
    (results fn tmps).run P w = .ok (.tuple #[tmps.getD t undef, tmps.getD u undef, tmps.getD v undef, tmps.getD y undef]) w := by
  simp [results, h]
def NextAns (ks vs : List UInt64) (i : Nat) : Value :=
  match ks[i]?, vs[i]? with
  | some a, some b => .tuple #[.int .u64 a.toNat, .int .u64 b.toNat, .bool true, .int .i64 0]
  | _, _ => .tuple #[.int .u64 0, .int .u64 0, .bool false, .int .i64 0]
def NextL (E : Nat → Prop) (W w' : World) (P D T rt : Nat) (A : AP) (k : Nat) (ks vs : List UInt64) (key : UInt64) (e : Ending) : Prop :=
  ∃ i, Stands ks key i ∧ e = .returned (NextAns ks vs i) ∧ TreeAt E w' P D T rt A k ∧ Kept E W w'
set_option maxHeartbeats 1000000 in
set_option maxRecDepth 100000 in
theorem next_leaf {rt : Nat} {ks vs : List UInt64} (h : TreeAt E W P D T rt A k) (hk : k + 2 < 900000000) (hl : LeafIs A rt ks vs) (hn : ks.length ≤ 30) (key : UInt64) :
    Calls Tryz.prog 45 #[.pointer (some ⟨T, 0, none⟩), .int .u64 key.toNat] W fun e w' => NextL E W w' P D T rt A (k + 2) ks vs key e := by
  have HL := Lib.hid (load_leaf h.pz (by omega) h.box hl.has hl.head)
  have t1 : W.cell? ⟨T, 1, none⟩ = some (.int .i64 rt) := h.box.cell 1 _ rfl
  have HH := Lib.hid (And.intro h hl)
  clear h hl
  go_enter Tryz.func45, Tryz.ntmps45
  go_wp2_with fail
  go_loopw [8, 9, 19] (fun pv rv iv wr => pv = .int .i64 rt ∧ rv = .int .i64 0 ∧ iv = .int .i64 0 ∧ wr = W) (fun _ _ _ _ => 0)
  case atStart => exact ⟨rfl, rfl, rfl, rfl⟩
  case round =>
    obtain ⟨rfl, rfl, rfl, rfl⟩ := hrel
    go_wp2_with fail
    refine HL.out.mono ?_
    rintro e w1 ⟨N, M, nb, ka, va, kc, vc, rfl, hN, hM, ⟨hn1, hnM, hgM⟩, p1, k1⟩
    obtain ⟨h, hl⟩ := HH.out
    rw [hl.keys, hl.vals] at hn1
    have b0 : w1.cell? ⟨nb, 0, none⟩ = some (.bool true) := hn1.box.cell 0 _ rfl
    have b1 : w1.cell? ⟨nb, 1, none⟩ = some (.slice ka ks.length kc) := hn1.box.cell 1 _ rfl
    have b2 : w1.cell? ⟨nb, 2, none⟩ = some (.slice va vs.length vc) := hn1.box.cell 2 _ rfl
    have hS := search_any (hn1.k.win (S := fun _ => True) (fun _ _ => trivial)) hl.up (show ks.length ≤ 1000 by omega) key
    rw [u64s_length] at hS
    have HS := Lib.hid hS
    have H2 := Lib.hid (fun (i : Nat) (hst : Stands ks key i) (m : Nat) => (show NextL E wr (w1.drewN m) P D T rt A (k + 2) ks vs key (.returned (NextAns ks vs i)) from
      ⟨i, hst, rfl, ⟨(p1.less (fun _ hj => .inl hj)).next (UK.belowN (Below.refl _ _) m), (h.box.of_block (k1.block T h.mem)).of_block rfl, h.mem⟩, k1.trans ((p1.less (fun _ hj => .inl hj)).kept (UK.belowN (Below.refl _ _) m))⟩))
    have hlv := hl.len
    have HX := Lib.hid (And.intro hn1 hlv)
    clear HL hn1 hnM hgM p1 k1 hS hN hM h hl t1 HH hlv
    go_wp2_with fail
    refine HS.out.mono ?_
    rintro e w2 ⟨i, rfl, hst, rfl⟩
    obtain ⟨hn1, hlv⟩ := HX.out
    have hle := hst.le
    by_cases hi : i < ks.length
    · obtain ⟨x, hx⟩ : ∃ x, ks[i]? = some x := ⟨_, List.getElem?_eq_getElem hi⟩
      obtain ⟨y, hy⟩ : ∃ y, vs[i]? = some y := ⟨_, List.getElem?_eq_getElem (by omega)⟩
      have H3 := H2.out i hst
      unfold NextAns at H3
      rw [hx, hy] at H3
      have H4 := Lib.hid H3
      obtain ⟨ao, c, q, hc, hr⟩ := hn1.k.win (S := fun _ => True) (fun _ _ => trivial)
      obtain ⟨g, o, rfl, _, cx⟩ := hr _ _ (u64s_at _ _ _ hx)
      obtain ⟨ao2, c2, q2, hc2, hr2⟩ := hn1.v.win (S := fun _ => True) (fun _ _ => trivial)
      obtain ⟨g2, o2, rfl, _, cy⟩ := hr2 _ _ (u64s_at _ _ _ hy)
      injection q with q1 q3 q4
      injection q2 with q5 q6 q7
      subst q1 q5
      have hiv : i < vs.length := by omega
      have hii : (i : Int) < (ks.length : Int) := by omega
      clear hr hr2 hn1 H3 H2 hst HS hc hc2 hlv HX hx hy q3 q4 q6 q7
      go_wp2_with fail
      go_quiet (fail)
      go_wp2
      (try simp only [Exit.inBlock, Exit.then])
      refine bodyPost_ret (results_tmp4 rfl _ _ _) rfl ?_
      exact H4.out _
    · have H3 := H2.out i hst
      obtain rfl : i = ks.length := by omega
      unfold NextAns at H3
      rw [List.getElem?_eq_none (Nat.le_refl _)] at H3
      have H4 := Lib.hid H3
      clear hn1 H3 H2 hst HS hlv HX hi hle
      go_wp2
      (try simp only [Exit.inBlock, Exit.then])
      refine bodyPost_ret (results_tmp4 rfl _ _ _) rfl ?_
      exact H4.out 0
end
end Go.Proofs.YtfljlcfmdcepnaaGreatDoor
namespace Go.Proofs.YtfljlcfmdcepnaaGreatDoor
open Go.RowKit
open UK (str BytesAt nth Only Row Box w32)
open Go.BigFrame
section
variable {E : Nat → Prop} {W W' w2 wc : World} {P D T k k0 pg N M nb kc vc ac : Nat} {A : AP} {x : Nd} {ka va aa : Option Addr}
theorem putM_gen {wb w : World} {ks vs l m : List UInt64} {g c g2 c2 a b : Nat} (h : NodeO N W nb { leaf := true, keys := ks, vals := vs, kids := [] } ka va none kc vc 0)
    (m1 : Mid1 N W wb nb { leaf := true, keys := ks, vals := vs, kids := [] } ka va none kc vc 0 l g c) (r : Row w g2 c2 (u64s m)) (o : Only g2 wb w) (hg : slB va g2 ∨ wb.heap.size ≤ g2) (e1 : l.length = a) (e2 : m.length = b) :
    PutM N W ((w.setCell ⟨nb, 1, none⟩ (.slice (some ⟨g, 0, none⟩) a c)).setCell ⟨nb, 2, none⟩ (.slice (some ⟨g2, 0, none⟩) b c2)) nb ka va l m := by
  obtain ⟨d1, d2, _, _⟩ := m1.done h r o hg
  rw [e1, e2] at d1 d2
  refine ⟨_, _, _, _, d1, d2, fun j hj => ?_, fun j hj => ?_⟩
  · rw [slB_inj hj]; exact m1.own
  · rw [slB_inj hj]
    rcases hg with h1 | h1
    · exact .inl h1
    · exact .inr (Nat.le_trans m1.kept.size h1)
set_option maxRecDepth 100000 in
theorem poor_leaf {S : Nat → Prop} {W : World} {nb : Nat} (hn : NodeR S W nb x) (hl : x.leaf = true) :
    Calls Tryz.prog 114 #[.pointer (some ⟨nb, 0, none⟩)] W fun e w' => e = .returned (.bool (decide (x.keys.length < 15))) ∧ w' = W := by
  obtain ⟨kv, vv, av, b, hb, ⟨ao, c, rfl, _, _⟩, _, _⟩ := hn
  rw [u64s_length] at b
  rw [hl] at b
  have c0 : W.cell? ⟨nb, 0, none⟩ = some (.bool true) := b.cell 0 _ rfl
  have c1 : W.cell? ⟨nb, 1, none⟩ = some (.slice ao x.keys.length c) := b.cell 1 _ rfl
  have d1 : decide ((x.keys.length : Int) < 15) = decide (x.keys.length < 15) := decide_eq_decide.2 (by omega)
  clear b
  go_enter Tryz.func114, Tryz.ntmps114
  go_wp2
  go_ret
  first | exact ⟨rfl, rfl⟩ | exact ⟨by rw [← d1]; rfl, rfl⟩
def DropL (E : Nat → Prop) (W w' : World) (P D T root : Nat) (A : AP) (k pg : Nat) (ks vs : List UInt64) (key : UInt64) (e : Ending) : Prop :=
  ∃ i : Nat, e = .returned (.tuple #[.bool true, .bool (decide (ks.length - 1 < 15)), .int .i64 0]) ∧ i < ks.length ∧ Stands ks key i ∧ TreeAt E w' P D T root (A.wrote pg (encLeaf (A.c pg) (ks.take i ++ ks.drop (i + 1)) (vs.take i ++ vs.drop (i + 1)))) k ∧ Kept E W w'
set_option maxHeartbeats 8000000 in
set_option maxRecDepth 100000 in
theorem drop_leaf {rt : Nat} {ks vs : List UInt64} (h : TreeAt E W P D T rt A k) (hk : k + 5 < 900000000) (hl : LeafIs A pg ks vs) (hn : ks.length ≤ 30) (key : UInt64) (hin : key ∈ ks) (deep : Nat) (hd : deep ≤ 20) :
    Calls Tryz.prog 79 #[.pointer (some ⟨T, 0, none⟩), .int .i64 pg, .int .u64 key.toNat, .int .i64 deep] W fun e w' => DropL E W w' P D T rt A (k + 5) pg ks vs key e := by
  have HL := Lib.hid (load_leaf h.pz (by omega) h.box hl.has hl.head)
  have HH := Lib.hid (And.intro h hl)
  clear h hl
  go_enter Tryz.func79, Tryz.ntmps79
  go_wp2_with fail
  refine HL.out.mono ?_
  rintro e w1 ⟨N, M, nb, ka, va, kc, vc, rfl, hN, hM, ⟨hn1, hnM, hgM⟩, p1, k1⟩
  obtain ⟨h, hl⟩ := HH.out
  rw [hl.keys, hl.vals] at hn1
  have b0 : w1.cell? ⟨nb, 0, none⟩ = some (.bool true) := hn1.box.cell 0 _ rfl
  have b1 : w1.cell? ⟨nb, 1, none⟩ = some (.slice ka ks.length kc) := hn1.box.cell 1 _ rfl
  have b2 : w1.cell? ⟨nb, 2, none⟩ = some (.slice va vs.length vc) := hn1.box.cell 2 _ rfl
  have hS := search_any (hn1.k.win (S := fun _ => True) (fun _ _ => trivial)) hl.up (show ks.length ≤ 1000 by omega) key
  rw [u64s_length] at hS
  rw [decide_eq_true hin] at hS
  have HS := Lib.hid hS
  have H1 := Lib.hid (And.intro hN (And.intro hM (And.intro hn1 (And.intro hnM (And.intro hgM (And.intro p1 k1))))))
  clear HL hn1 hnM hgM p1 k1 hS hN hM
  go_wp2_with fail
  refine HS.out.mono ?_
  rintro e w2 ⟨i, rfl, hst, rfl⟩
  obtain ⟨hN, hM, hn1, hnM, hgM, p1, k1⟩ := H1.out
  have hlv := hl.len
  have hi : i < ks.length := by
    rcases Nat.lt_or_ge i ks.length with h1 | h1
    · exact h1
    · obtain rfl : i = ks.length := by have := hst.le; omega
      exact absurd hin hst.none
  have hNs : N ≤ w2.heap.size := by have := hn1.ge; omega
  obtain ⟨g, rfl, rk⟩ : ∃ g, ka = some ⟨g, 0, none⟩ ∧ Row w2 g kc (u64s ks) := by
    rcases hn1.k with hz | h1
    · have := congrArg List.length hz.2.1; rw [u64s_length] at this; exact absurd (show ks.length = 0 from this) (by omega)
    · exact h1
  obtain ⟨g2, rfl, rv⟩ : ∃ g, va = some ⟨g, 0, none⟩ ∧ Row w2 g vc (u64s vs) := by
    rcases hn1.v with hz | h1
    · have := congrArg List.length hz.2.1; rw [u64s_length] at this; exact absurd (show vs.length = 0 from this) (by omega)
    · exact h1
  have e1 : (ks.take i ++ ks.drop (i + 1)).length = ks.length - 1 := by simp; omega
  have e2 : (vs.take i ++ vs.drop (i + 1)).length = vs.length - 1 := by simp; omega
  have HI1 := Lib.hid (fun (wa : World) (ba : Below w2.heap.size w2 wa) => (show Calls Tryz.prog 99 #[.slice (some ⟨g, 0, none⟩) ks.length kc, .int .i64 i, .int .i64 ((i : Int) + 1)] wa fun e w' => e = .returned (.slice (some ⟨g, 0, none⟩) (ks.length - 1) kc) ∧ Mid1 N w2 w' nb { leaf := true, keys := ks, vals := vs, kids := [] } (some ⟨g, 0, none⟩) (some ⟨g2, 0, none⟩) none kc vc 0 (ks.take i ++ ks.drop (i + 1)) g kc ∧ w'.cell? ⟨nb, 1, none⟩ = some (.slice (some ⟨g, 0, none⟩) ks.length kc) ∧ w'.cell? ⟨nb, 2, none⟩ = some (.slice (some ⟨g2, 0, none⟩) vs.length vc) from
    (delete_any (rk.below ba rk.lt) (show ks.length ≤ 1000 by omega) hi).mono (fun e w' ⟨he, r, o⟩ =>
      have m := hn1.mid1 hNs ba r o (.inl rfl)
      ⟨he, m, m.box.cell 1 _ rfl, m.box.cell 2 _ rfl⟩)))
  have HI2 := Lib.hid (fun (wb : World) (m : Mid1 N w2 wb nb { leaf := true, keys := ks, vals := vs, kids := [] } (some ⟨g, 0, none⟩) (some ⟨g2, 0, none⟩) none kc vc 0 (ks.take i ++ ks.drop (i + 1)) g kc) => (show Calls Tryz.prog 99 #[.slice (some ⟨g2, 0, none⟩) vs.length vc, .int .i64 i, .int .i64 ((i : Int) + 1)] wb fun e w' => e = .returned (.slice (some ⟨g2, 0, none⟩) (vs.length - 1) vc) ∧ PutM N w2 ((w'.setCell ⟨nb, 1, none⟩ (.slice (some ⟨g, 0, none⟩) (ks.length - 1) kc)).setCell ⟨nb, 2, none⟩ (.slice (some ⟨g2, 0, none⟩) (vs.length - 1) vc)) nb (some ⟨g, 0, none⟩) (some ⟨g2, 0, none⟩) (ks.take i ++ ks.drop (i + 1)) (vs.take i ++ vs.drop (i + 1)) ∧ w'.cell? ⟨nb, 1, none⟩ = some (.slice (some ⟨g, 0, none⟩) ks.length kc) ∧ w'.cell? ⟨nb, 2, none⟩ = some (.slice (some ⟨g2, 0, none⟩) vs.length vc) ∧ w'.frozen? ⟨nb, 1, none⟩ = false ∧ w'.frozen? ⟨nb, 2, none⟩ = false from by
    obtain ⟨g', e', rv2⟩ : ∃ g', some (⟨g2, 0, none⟩ : Addr) = some ⟨g', 0, none⟩ ∧ Row wb g' vc (u64s vs) := by
      rcases m.v with hz | h1
      · have := congrArg List.length hz.2.1; rw [u64s_length] at this; exact absurd (show vs.length = 0 from this) (by omega)
      · exact h1
    injection e' with e'; injection e' with e'; subst e'
    refine (delete_any rv2 (show vs.length ≤ 1000 by omega) (show i < vs.length by omega)).mono (fun e w' ⟨he, r, o⟩ => ?_)
    have hd := (m.done hn1 r o (.inl rfl)).2.2.1
    exact ⟨he, putM_gen hn1 m r o (.inl rfl) e1 e2, hd.cell 1 _ rfl, hd.cell 2 _ rfl, hd.free 1, hd.free 2⟩))
  have HI := Lib.hid (And.intro hi (And.intro hlv (And.intro hst (And.intro e1 e2))))
  have f1 : IntKind.i64.wrap ((i : Int) + 1) = (i : Int) + 1 := IntWalk.i64_in _ (by omega)
  clear hn1 hgM p1 k1 hst HS hlv e1 e2 rk rv
  go_upto_region 10 with (fail)
  go_cut [] (fun wx => PutM N w2 wx nb (some ⟨g, 0, none⟩) (some ⟨g2, 0, none⟩) (ks.take i ++ ks.drop (i + 1)) (vs.take i ++ vs.drop (i + 1)))
  case first =>
    go_region_law
      (first
        | (have hm := m1; clear hm; go_simp; go_at_call 99; refine (HI2.out _ m1).mono ?_; rintro e w4 ⟨rfl, l2, s1, s2, q1, q2⟩)
        | ((fail_if_success (have hm := m1)); go_simp; go_at_call 99; refine (HI1.out _ ?_).mono ?_; (repeat (first | with_reducible exact Below.refl _ _ | with_reducible apply bel_drew)); rintro e w3 ⟨rfl, m1, t1, t2⟩))
    all_goals
      go_wp2_with fail
      go_meet
      case rel => exact l2
  case rest =>
    obtain ⟨hN, hM, hn1, hnM, hgM, p1, k1⟩ := H1.out
    obtain ⟨h, hl⟩ := HH.out
    obtain ⟨p2, hr, hbx, k2⟩ := putM_next h hN hn1 hnM hgM p1 k1 hcut
    obtain ⟨hi, hlv, hst, e1, e2⟩ := HI.out
    have hP := poor_leaf hr rfl
    rw [show (ks.take i ++ ks.drop (i + 1)).length = ks.length - 1 from e1] at hP
    have HF := Lib.hid hP
    have HS2 := Lib.hid (fun (m : Nat) => store_leaf (p2.next (UK.belowN (Below.refl _ _) m)) (by omega) (show Box (wc.drewN m) T _ from hbx) hl.has (show NodeR _ (wc.drewN m) nb _ from hr) rfl (show (ks.take i ++ ks.drop (i + 1)).length ≤ 30 by omega) (e2.trans (by rw [hlv]; exact e1.symm)))
    have HB := Lib.hid (fun (w' : World) (m : Nat) (p3 : PZ (fun j => E j ∨ (N ≤ j ∧ j < M) ∨ (w2.heap.size ≤ j ∧ j < wc.heap.size)) w' P D (A.wrote pg (encLeaf (A.c pg) (ks.take i ++ ks.drop (i + 1)) (vs.take i ++ vs.drop (i + 1)))) (k + 2 + 3)) (k3 : Kept (fun j => E j ∨ (N ≤ j ∧ j < M) ∨ (w2.heap.size ≤ j ∧ j < wc.heap.size)) (wc.drewN m) w') => (show DropL E W w' P D T rt A (k + 5) pg ks vs key (.returned (.tuple #[.bool true, .bool (decide (ks.length - 1 < 15)), .int .i64 0])) from
      ⟨i, rfl, hi, hst, ⟨p3.less (fun _ hj => .inl hj), (show Box (wc.drewN m) T _ from hbx).of_block (k3.block T (.inl h.mem)), h.mem⟩, (k2.trans ((p2.less (fun _ hj => .inl hj)).kept (UK.belowN (Below.refl _ _) m))).trans (k3.mono (fun _ hj => .inl hj))⟩))
    clear H1 HH hcut hN hM hn1 hnM hgM p1 k1 h hl p2 hr hbx k2 hlv hst e1 e2 HI HI1 HI2 hP
    go_wp2_with fail
    refine HF.out.mono ?_
    rintro e w5 ⟨rfl, rfl⟩
    go_wp2_with fail
    refine (HS2.out 0).mono ?_
    rintro e w6 ⟨rfl, p3, k3⟩
    go_wp2
    go_ret3
    exact HB.out _ 0 p3 k3
end
end Go.Proofs.YtfljlcfmdcepnaaGreatDoor
namespace Go.Proofs.YtfljlcfmdcepnaaGreatDoor
open Go.RowKit
open UK (str BytesAt nth Only Row Box w32)
open Go.BigFrame
section
variable {E : Nat → Prop} {W W' w2 wc : World} {P D T k : Nat} {A : AP}
set_option maxRecDepth 100000 in
theorem tree_put {rt : Nat} {ks vs : List UInt64} (h : TreeAt E W P D T rt A k) (hk : k + 5 < 900000000) (hl : LeafIs A rt ks vs) (hn : ks.length < 30) (key v : UInt64) (hno : key ∉ ks) :
    Calls Tryz.prog 30 #[.pointer (some ⟨T, 0, none⟩), .int .u64 key.toNat, .int .u64 v.toNat] W fun e w' => e = .returned (.int .i64 0) ∧ ∃ i, Stands ks key i ∧ TreeAt E w' P D T rt (A.wrote rt (encLeaf (A.c rt) (ks.take i ++ key :: ks.drop i) (vs.take i ++ v :: vs.drop i))) (k + 5) ∧ Kept E W w' := by
  have HP := Lib.hid (put_new h hk hl hn key v hno 0 (by omega))
  have t1 : W.cell? ⟨T, 1, none⟩ = some (.int .i64 rt) := h.box.cell 1 _ rfl
  clear h hl
  go_enter Tryz.func30, Tryz.ntmps30
  go_wp2_with fail
  refine HP.out.mono ?_
  rintro e w1 ⟨i, rfl, hst, ht, hkp⟩
  have HX := Lib.hid (And.intro hst (And.intro ht hkp))
  clear HP t1 hst ht hkp
  go_wp2
  go_ret
  exact ⟨rfl, i, HX.out⟩
set_option maxRecDepth 100000 in
theorem tree_drop {rt : Nat} {ks vs : List UInt64} (h : TreeAt E W P D T rt A k) (hk : k + 5 < 900000000) (hl : LeafIs A rt ks vs) (hn : ks.length ≤ 30) (key : UInt64) (hin : key ∈ ks) :
    Calls Tryz.prog 32 #[.pointer (some ⟨T, 0, none⟩), .int .u64 key.toNat] W fun e w' => e = .returned (.tuple #[.bool true, .int .i64 0]) ∧ ∃ i, i < ks.length ∧ Stands ks key i ∧ TreeAt E w' P D T rt (A.wrote rt (encLeaf (A.c rt) (ks.take i ++ ks.drop (i + 1)) (vs.take i ++ vs.drop (i + 1)))) (k + 5) ∧ Kept E W w' := by
  have HP := Lib.hid (drop_leaf h hk hl hn key hin 0 (by omega))
  have t1 : W.cell? ⟨T, 1, none⟩ = some (.int .i64 rt) := h.box.cell 1 _ rfl
  clear h hl
  go_enter Tryz.func32, Tryz.ntmps32
  go_wp2_with fail
  refine HP.out.mono ?_
  rintro e w1 ⟨i, rfl, hi, hst, ht, hkp⟩
  have HX := Lib.hid (And.intro hi (And.intro hst (And.intro ht hkp)))
  clear HP t1 hi hst ht hkp
  go_wp2
  go_ret2
  exact ⟨rfl, i, HX.out⟩
end
end Go.Proofs.YtfljlcfmdcepnaaGreatDoor
namespace Go.Proofs.YtfljlcfmdcepnaaGreatDoor
open Go.RowKit
open UK (str BytesAt nth Only Row Box w32)
theorem Stands.sorted {ks : List UInt64} {key : UInt64} {i : Nat} (h : Stands ks key i) (hs : Sorted ks) (hno : key ∉ ks) : Sorted (ks.take i ++ key :: ks.drop i) := by
  have hle := h.le
  have at' : ∀ (a : Nat) (x : UInt64), (ks.take i ++ key :: ks.drop i)[a]? = some x → (a < i ∧ ks[a]? = some x) ∨ (a = i ∧ x = key) ∨ (i < a ∧ ks[a - 1]? = some x) := fun a x hx => by
    rcases Nat.lt_trichotomy a i with h1 | h1 | h1
    · rw [List.getElem?_append_left (by rw [List.length_take]; omega), List.getElem?_take_of_lt h1] at hx
      exact .inl ⟨h1, hx⟩
    · subst h1
      rw [List.getElem?_append_right (by rw [List.length_take]; omega), List.length_take, show a - min a ks.length = 0 by omega] at hx
      exact .inr (.inl ⟨rfl, by simpa using hx.symm⟩)
    · rw [List.getElem?_append_right (by rw [List.length_take]; omega), List.length_take, show a - min i ks.length = (a - 1 - i) + 1 by omega, List.getElem?_cons_succ, List.getElem?_drop, show i + (a - 1 - i) = a - 1 by omega] at hx
      exact .inr (.inr ⟨h1, hx⟩)
  intro a b x y hab hx hy
  rcases at' a x hx with ⟨h1, e1⟩ | ⟨h1, e1⟩ | ⟨h1, e1⟩ <;> rcases at' b y hy with ⟨h2, e2⟩ | ⟨h2, e2⟩ | ⟨h2, e2⟩
  · exact hs a b x y hab e1 e2
  · subst e2; exact h.below a x h1 e1
  · exact hs a (b - 1) x y (by omega) e1 e2
  · omega
  · omega
  · subst e1
    have h3 := h.above (b - 1) y (by omega) e2
    rcases Nat.lt_or_ge x.toNat y.toNat with h4 | h4
    · exact h4
    · exact absurd (List.mem_of_getElem? e2) (by rw [UInt64.toNat_inj.1 (show y.toNat = x.toNat by omega)]; exact hno)
  · omega
  · omega
  · exact hs (a - 1) (b - 1) x y (by omega) e1 e2
theorem Sorted.drop_one {ks : List UInt64} (hs : Sorted ks) (i : Nat) (hi : i < ks.length) : Sorted (ks.take i ++ ks.drop (i + 1)) := by
  have at' : ∀ (a : Nat) (x : UInt64), (ks.take i ++ ks.drop (i + 1))[a]? = some x → (a < i ∧ ks[a]? = some x) ∨ (i ≤ a ∧ ks[a + 1]? = some x) := fun a x hx => by
    rcases Nat.lt_or_ge a i with h1 | h1
    · rw [List.getElem?_append_left (by rw [List.length_take]; omega), List.getElem?_take_of_lt h1] at hx
      exact .inl ⟨h1, hx⟩
    · rw [List.getElem?_append_right (by rw [List.length_take]; omega), List.length_take, List.getElem?_drop, show i + 1 + (a - min i ks.length) = a + 1 by omega] at hx
      exact .inr ⟨h1, hx⟩
  intro a b x y hab hx hy
  rcases at' a x hx with ⟨h1, e1⟩ | ⟨h1, e1⟩ <;> rcases at' b y hy with ⟨h2, e2⟩ | ⟨h2, e2⟩
  · exact hs a b x y hab e1 e2
  · exact hs a (b + 1) x y (by omega) e1 e2
  · omega
  · exact hs (a + 1) (b + 1) x y (by omega) e1 e2
end Go.Proofs.YtfljlcfmdcepnaaGreatDoor
namespace Go.Proofs.YtfljlcfmdcepnaaGreatDoor
open Go.RowKit
open UK (str BytesAt nth Only Row Box w32)
open Go.BigFrame
section
variable {E : Nat → Prop} {W W' w2 wc : World} {P D T k : Nat} {A : AP}
structure LT (E : Nat → Prop) (W : World) (P D T rt : Nat) (A : AP) (k : Nat) (ks vs : List UInt64) : Prop where
  at' : TreeAt E W P D T rt A k
  leaf : LeafIs A rt ks vs
  len : (A.c rt).length = 504
theorem wrote_len {A : AP} {rt : Nat} {ks vs : List UInt64} (hk : ks.length ≤ 30) (hv : vs.length = ks.length) (hy : (A.c rt).length = 504) : ((A.wrote rt (encLeaf (A.c rt) ks vs)).c rt).length = 504 := by
  rw [AP.wrote_c, if_pos rfl, encLeaf_length _ _ _ hk hv (by omega)]; exact hy
theorem lt_put {rt : Nat} {ks vs : List UInt64} (h : LT E W P D T rt A k ks vs) (hk : k + 5 < 900000000) (hn : ks.length < 30) (key v : UInt64) (hno : key ∉ ks) :
    Calls Tryz.prog 30 #[.pointer (some ⟨T, 0, none⟩), .int .u64 key.toNat, .int .u64 v.toNat] W fun e w' => e = .returned (.int .i64 0) ∧ ∃ i A', Stands ks key i ∧ LT E w' P D T rt A' (k + 5) (ks.take i ++ key :: ks.drop i) (vs.take i ++ v :: vs.drop i) ∧ Kept E W w' :=
  (tree_put h.at' hk h.leaf hn key v hno).mono (fun e w' ⟨he, i, hst, ht, hkp⟩ => by
    have hle := hst.le
    have hlv := h.leaf.len
    have e1 : (ks.take i ++ key :: ks.drop i).length ≤ 30 := by simp; omega
    have e2 : (vs.take i ++ v :: vs.drop i).length = (ks.take i ++ key :: ks.drop i).length := by simp; omega
    exact ⟨he, i, _, hst, ⟨ht, LeafIs.wrote h.leaf.has h.len e2 e1 (hst.sorted h.leaf.up hno), wrote_len e1 e2 h.len⟩, hkp⟩)
theorem lt_drop {rt : Nat} {ks vs : List UInt64} (h : LT E W P D T rt A k ks vs) (hk : k + 5 < 900000000) (hn : ks.length ≤ 30) (key : UInt64) (hin : key ∈ ks) :
    Calls Tryz.prog 32 #[.pointer (some ⟨T, 0, none⟩), .int .u64 key.toNat] W fun e w' => e = .returned (.tuple #[.bool true, .int .i64 0]) ∧ ∃ i A', i < ks.length ∧ Stands ks key i ∧ LT E w' P D T rt A' (k + 5) (ks.take i ++ ks.drop (i + 1)) (vs.take i ++ vs.drop (i + 1)) ∧ Kept E W w' :=
  (tree_drop h.at' hk h.leaf hn key hin).mono (fun e w' ⟨he, i, hi, hst, ht, hkp⟩ => by
    have hlv := h.leaf.len
    have e1 : (ks.take i ++ ks.drop (i + 1)).length ≤ 30 := by simp; omega
    have e2 : (vs.take i ++ vs.drop (i + 1)).length = (ks.take i ++ ks.drop (i + 1)).length := by simp; omega
    exact ⟨he, i, _, hi, hst, ⟨ht, LeafIs.wrote h.leaf.has h.len e2 e1 (h.leaf.up.drop_one i hi), wrote_len e1 e2 h.len⟩, hkp⟩)
theorem lt_next {rt : Nat} {ks vs : List UInt64} (h : LT E W P D T rt A k ks vs) (hk : k + 2 < 900000000) (hn : ks.length ≤ 30) (key : UInt64) :
    Calls Tryz.prog 45 #[.pointer (some ⟨T, 0, none⟩), .int .u64 key.toNat] W fun e w' => ∃ i, Stands ks key i ∧ e = .returned (NextAns ks vs i) ∧ LT E w' P D T rt A (k + 2) ks vs ∧ Kept E W w' :=
  (next_leaf h.at' hk h.leaf hn key).mono (fun _ _ ⟨i, hst, he, ht, hkp⟩ => ⟨i, hst, he, ⟨ht, h.leaf, h.len⟩, hkp⟩)
end
end Go.Proofs.YtfljlcfmdcepnaaGreatDoor
namespace Go.Proofs.YtfljlcfmdcepnaaGreatDoor
open Go.RowKit
open UK (str BytesAt nth Only Row Box w32)
open Go.BigFrame
section
variable {E : Nat → Prop} {W W' w2 wc : World} {P D T k : Nat} {A : AP}
theorem clean_new (n : Int) : Clean (newD n) 1 := by
  refine ⟨(Ok.new n).fit, (Ok.new n).so, newD_rl n, (newD_still n).wl, fun p h1 h2 => by omega, fun i hi => ?_⟩
  rw [(newD_still n).free] at hi
  exact absurd hi (Nat.not_lt_zero _)
def newA (pages : Int) : AP := { cnt := 1, most := clampD pages, free := [], c := fun p => lookL (newD pages).x p, op := none }
set_option maxRecDepth 100000 in
theorem made_new (W : World) (ht : TabAt W) (S : Nat → Prop) (hS : ∀ j, S j → j < W.heap.size) :
    Calls Tryz.prog 7 #[.int .i64 20, .int .i64 2] W fun e w' => ∃ P D T A N M, e = .returned (.tuple #[.pointer (some ⟨P, 0, none⟩), .pointer (some ⟨T, 0, none⟩)]) ∧ LT (fun j => S j ∨ (N ≤ j ∧ j < M)) w' P D T 1 A 3 [] [] ∧ W.heap.size ≤ N ∧ Kept S W w' := by
  have HD := Lib.hid (dd_new W 20 ht S hS)
  go_enter Tryz.func7, Tryz.ntmps7
  go_wp2_with fail
  refine HD.out.mono ?_
  rintro e w1 ⟨rfl, hd, hb⟩
  have HP := Lib.hid (pnew_any hd (Ok.new 20) (clean_new 20) 2 ⟨by omega, by omega⟩ 0)
  have k0 : Kept S W w1 := Kept.of_below hb hS
  have HK := Lib.hid k0
  clear HD hd hb k0
  go_wp2_with fail
  refine HP.out.mono ?_
  rintro e w2 ⟨P, FB, M, q, rfl, hps, hk2, hop⟩
  have st := newD_still 20
  have hpz : PZ S w2 P W.heap.size (newA 20) 0 := ⟨FB, M, 2, q, newD 20, hps, by omega, ⟨st.free, st.most, by rw [hop]; rfl⟩⟩
  have hnf : ¬ (newA 20).Full := by
    intro h
    have h1 : clampD 20 ≤ ((1 : Nat) : Int) := h.1
    have h2 : clampD 20 = 20 := rfl
    omega
  have HT := Lib.hid (tree_new hpz (by omega) hnf)
  have HK2 := Lib.hid (HK.out.trans hk2)
  clear HP HK hps hk2 hop st hpz hnf
  go_wp2_with fail
  refine HT.out.mono ?_
  rintro e w3 ⟨T, N, M', rfl, hbox, hN, hT1, hT2, hpz, hk3⟩
  have HX := Lib.hid (And.intro hbox (And.intro hN (And.intro hT1 (And.intro hT2 (And.intro hpz hk3)))))
  clear HT hbox hN hT1 hT2 hpz hk3
  go_wp2
  go_ret2
  obtain ⟨hbox, hN, hT1, hT2, hpz, hk3⟩ := HX.out
  have hh : (newA 20).take.Has 1 := ⟨by omega, by show 1 < 2; omega, by show 1 ∉ ([] : List Nat); simp, by show ((1 : Nat) : Int) ∉ ([] : List Int); simp⟩
  exact ⟨P, _, T, _, N, M', rfl, ⟨⟨hpz, hbox, .inr ⟨hT1, hT2⟩⟩, LeafIs.wrote hh (UK.zeros_length 504) rfl (by simp) (fun a b x y _ hx => by simp at hx), by
    rw [AP.wrote_c, if_pos (show (newA 20).next = 1 from rfl), encLeaf_length _ _ _ (by simp) rfl (by rw [UK.zeros_length]; omega)]; exact UK.zeros_length 504⟩, Nat.le_trans HK2.out.size hN, HK2.out.trans hk3⟩
end
end Go.Proofs.YtfljlcfmdcepnaaGreatDoor
