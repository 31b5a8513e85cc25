/-
  A tree that is one leaf: Next.
-/
import Derived.Test.YthjnfclebeggaaaDoorTreeJ
import Derived.OwnWalk
namespace Go.Proofs.YthjnfclebeggaaaDoor
open Go.RowKit
open UK (str BytesAt nth Only Row Box w32)
open Go.BigFrame
section
variable {E : Nat → Prop} {W W' : World} {P D T k pg N M nb kc vc ac : Nat} {A : AP} {x : Nd} {ka va aa : Option Addr}
theorem results_tmp4 {fn : Func} {t u v y : Tmp} (h : fn.results = #[.tmp t, .tmp u, .tmp v, .tmp y]) (tmps : Array Value) (P : Program) (w : World) :
    (results fn tmps).run P w = .ok (.tuple #[tmps.getD t undef, tmps.getD u undef, tmps.getD v undef, tmps.getD y undef]) w := by
  simp [results, h]
/-- what Next tells -/
def NextAns (ks vs : List UInt64) (i : Nat) : Value :=
  match ks[i]?, vs[i]? with
  | some a, some b => .tuple #[.int .u64 a.toNat, .int .u64 b.toNat, .bool true, .int .i64 0]
  | _, _ => .tuple #[.int .u64 0, .int .u64 0, .bool false, .int .i64 0]
/-- behind Next -/
def NextL (E : Nat → Prop) (W w' : World) (P D T rt : Nat) (A : AP) (k : Nat) (ks vs : List UInt64) (key : UInt64) (e : Ending) : Prop :=
  ∃ i, Stands ks key i ∧ e = .returned (NextAns ks vs i) ∧ TreeAt E w' P D T rt A k ∧ Kept E W w'
set_option maxHeartbeats 1000000 in
set_option maxRecDepth 100000 in
theorem next_leaf {rt : Nat} {ks vs : List UInt64} (h : TreeAt E W P D T rt A k) (hk : k + 2 < 900000000) (hl : LeafIs A rt ks vs) (hn : ks.length ≤ 30) (key : UInt64) :
    Calls Tryd.prog 27 #[.pointer (some ⟨T, 0, none⟩), .int .u64 key.toNat] W fun e w' => NextL E W w' P D T rt A (k + 2) ks vs key e := by
  have HL := Lib.hid (load_leaf h.pz (by omega) h.box hl.has hl.head)
  have t1 : W.cell? ⟨T, 1, none⟩ = some (.int .i64 rt) := h.box.cell 1 _ rfl
  have HH := Lib.hid (And.intro h hl)
  clear h hl
  go_enter Tryd.func27, Tryd.ntmps27
  go_wp2_with fail
  go_loopw [8, 9, 19] (fun pv rv iv wr => pv = .int .i64 rt ∧ rv = .int .i64 0 ∧ iv = .int .i64 0 ∧ wr = W) (fun _ _ _ _ => 0)
  case atStart => exact ⟨rfl, rfl, rfl, rfl⟩
  case round =>
    obtain ⟨rfl, rfl, rfl, rfl⟩ := hrel
    go_wp2_with fail
    refine HL.out.mono ?_
    rintro e w1 ⟨N, M, nb, ka, va, kc, vc, rfl, hN, hM, ⟨hn1, hnM, hgM⟩, p1, k1⟩
    obtain ⟨h, hl⟩ := HH.out
    rw [hl.keys, hl.vals] at hn1
    have b0 : w1.cell? ⟨nb, 0, none⟩ = some (.bool true) := hn1.box.cell 0 _ rfl
    have b1 : w1.cell? ⟨nb, 1, none⟩ = some (.slice ka ks.length kc) := hn1.box.cell 1 _ rfl
    have b2 : w1.cell? ⟨nb, 2, none⟩ = some (.slice va vs.length vc) := hn1.box.cell 2 _ rfl
    have hS := search_any (hn1.k.win (S := fun _ => True) (fun _ _ => trivial)) hl.up (show ks.length ≤ 1000 by omega) key
    rw [u64s_length] at hS
    have HS := Lib.hid hS
    have H2 := Lib.hid (fun (i : Nat) (hst : Stands ks key i) (m : Nat) => (show NextL E wr (w1.drewN m) P D T rt A (k + 2) ks vs key (.returned (NextAns ks vs i)) from
      ⟨i, hst, rfl, ⟨(p1.less (fun _ hj => .inl hj)).next (UK.belowN (Below.refl _ _) m), (h.box.of_block (k1.block T h.mem)).of_block rfl, h.mem⟩, k1.trans ((p1.less (fun _ hj => .inl hj)).kept (UK.belowN (Below.refl _ _) m))⟩))
    have hlv := hl.len
    have HX := Lib.hid (And.intro hn1 hlv)
    clear HL hn1 hnM hgM p1 k1 hS hN hM h hl t1 HH hlv
    go_wp2_with fail
    refine HS.out.mono ?_
    rintro e w2 ⟨i, rfl, hst, rfl⟩
    obtain ⟨hn1, hlv⟩ := HX.out
    have hle := hst.le
    by_cases hi : i < ks.length
    · obtain ⟨x, hx⟩ : ∃ x, ks[i]? = some x := ⟨_, List.getElem?_eq_getElem hi⟩
      obtain ⟨y, hy⟩ : ∃ y, vs[i]? = some y := ⟨_, List.getElem?_eq_getElem (by omega)⟩
      have H3 := H2.out i hst
      unfold NextAns at H3
      rw [hx, hy] at H3
      have H4 := Lib.hid H3
      obtain ⟨ao, c, q, hc, hr⟩ := hn1.k.win (S := fun _ => True) (fun _ _ => trivial)
      obtain ⟨g, o, rfl, _, cx⟩ := hr _ _ (u64s_at _ _ _ hx)
      obtain ⟨ao2, c2, q2, hc2, hr2⟩ := hn1.v.win (S := fun _ => True) (fun _ _ => trivial)
      obtain ⟨g2, o2, rfl, _, cy⟩ := hr2 _ _ (u64s_at _ _ _ hy)
      injection q with q1 q3 q4
      injection q2 with q5 q6 q7
      subst q1 q5
      have hiv : i < vs.length := by omega
      have hii : (i : Int) < (ks.length : Int) := by omega
      clear hr hr2 hn1 H3 H2 hst HS hc hc2 hlv HX hx hy q3 q4 q6 q7
      go_wp2_with fail
      go_quiet (fail)
      go_wp2
      (try simp only [Exit.inBlock, Exit.then])
      refine bodyPost_ret (results_tmp4 rfl _ _ _) rfl ?_
      exact H4.out _
    · have H3 := H2.out i hst
      obtain rfl : i = ks.length := by omega
      unfold NextAns at H3
      rw [List.getElem?_eq_none (Nat.le_refl _)] at H3
      have H4 := Lib.hid H3
      clear hn1 H3 H2 hst HS hlv HX hi hle
      go_wp2
      (try simp only [Exit.inBlock, Exit.then])
      refine bodyPost_ret (results_tmp4 rfl _ _ _) rfl ?_
      exact H4.out 0
end
end Go.Proofs.YthjnfclebeggaaaDoor
