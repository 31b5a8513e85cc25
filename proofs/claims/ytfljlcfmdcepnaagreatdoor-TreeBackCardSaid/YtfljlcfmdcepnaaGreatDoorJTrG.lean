/-
  A region that draws its order: whatever order is drawn, a relation between what is done, the frame and the world holds behind each operation.
  The tree's nodes: full, poor, kid; slices.Clone; lists appended.
  The tree: a node that is too full is two: the walk.
-/
import Derived.Test.YtfljlcfmdcepnaaGreatDoorJUKit
import Derived.RegionTactic
import Derived.Test.YtfljlcfmdcepnaaGreatDoorJTrE
import Derived.Deep.RegionHeld
namespace Go.Proofs.YtfljlcfmdcepnaaGreatDoor
section
variable {P : Program} {ops : Array Oper} {Q : Exit → Act → World → Prop} {md : Region.Mode}
end
end Go.Proofs.YtfljlcfmdcepnaaGreatDoor
namespace Go.Proofs.YtfljlcfmdcepnaaGreatDoor
open Go.RowKit
open UK (str BytesAt nth Only Row Box)
section
variable {S : Nat → Prop} {W W' : World} {nb : Nat} {x : Nd}
set_option maxRecDepth 100000 in
theorem full_any (hn : NodeR S W nb x) :
    Calls Tryz.prog 111 #[.pointer (some ⟨nb, 0, none⟩)] W fun e w' => e = .returned (.bool (fullN x)) ∧ w' = W := by
  obtain ⟨kv, vv, av, b, hb, ⟨ao, c, rfl, _, _⟩, _, ⟨bo, d, rfl, _, _⟩⟩ := hn
  rw [u64s_length, ints_length] at b
  have c1 : W.cell? ⟨nb, 1, none⟩ = some (.slice ao x.keys.length c) := b.cell 1 _ rfl
  have c3 : W.cell? ⟨nb, 3, none⟩ = some (.slice bo x.kids.length d) := b.cell 3 _ rfl
  have e1 : decide ((30 : Int) < (x.keys.length : Int)) = decide (30 < x.keys.length) := decide_eq_decide.2 (by omega)
  have e3 : decide ((40 : Int) < (x.kids.length : Int)) = decide (40 < x.kids.length) := decide_eq_decide.2 (by omega)
  have hf : fullN x = (decide ((30 : Int) < (x.keys.length : Int)) || decide ((40 : Int) < (x.kids.length : Int))) := by rw [e1, e3]; rfl
  rw [hf]
  clear b e1 e3 hf
  by_cases h1 : (30 : Int) < (x.keys.length : Int)
  · have d1 : decide ((30 : Int) < (x.keys.length : Int)) = true := decide_eq_true h1
    rw [d1]
    go_enter Tryz.func111, Tryz.ntmps111
    go_wp2
    go_ret
    exact ⟨rfl, rfl⟩
  · have d1 : decide ((30 : Int) < (x.keys.length : Int)) = false := decide_eq_false h1
    rw [d1, Bool.false_or]
    by_cases h3 : (40 : Int) < (x.kids.length : Int)
    · have d3 : decide ((40 : Int) < (x.kids.length : Int)) = true := decide_eq_true h3
      rw [d3]
      go_enter Tryz.func111, Tryz.ntmps111
      go_wp2
      go_ret
      exact ⟨rfl, rfl⟩
    · have d3 : decide ((40 : Int) < (x.kids.length : Int)) = false := decide_eq_false h3
      rw [d3]
      go_enter Tryz.func111, Tryz.ntmps111
      go_wp2
      go_ret
      exact ⟨rfl, rfl⟩
def poorN (x : Nd) : Bool := if x.leaf then decide (x.keys.length < 15) else decide (x.kids.length < 20)
set_option maxRecDepth 100000 in
theorem poor_any (hn : NodeR S W nb x) :
    Calls Tryz.prog 114 #[.pointer (some ⟨nb, 0, none⟩)] W fun e w' => e = .returned (.bool (poorN x)) ∧ w' = W := by
  cases hl : x.leaf with
  | true =>
    have := poor_leaf hn hl
    unfold poorN
    rw [hl]
    exact this
  | false =>
    obtain ⟨kv, vv, av, b, hb, _, _, ⟨ao, c, rfl, _, _⟩⟩ := hn
    rw [ints_length] at b
    rw [hl] at b
    have c0 : W.cell? ⟨nb, 0, none⟩ = some (.bool false) := b.cell 0 _ rfl
    have c1 : W.cell? ⟨nb, 3, none⟩ = some (.slice ao x.kids.length c) := b.cell 3 _ rfl
    have d1 : decide ((x.kids.length : Int) < 20) = decide (x.kids.length < 20) := decide_eq_decide.2 (by omega)
    have hp : poorN x = decide ((x.kids.length : Int) < 20) := by unfold poorN; rw [hl, d1]; rfl
    rw [hp]
    clear b d1 hp
    go_enter Tryz.func114, Tryz.ntmps114
    go_wp2
    go_ret
    exact ⟨rfl, rfl⟩
theorem Stands.kid {l : List UInt64} {k : UInt64} {i : Nat} (h : Stands l k i) (hs : Sorted l) : KidIx l k (if k ∈ l then i + 1 else i) := by
  have hle := h.le
  have hat : k ∈ l → ∃ hi : i < l.length, l[i] = k := fun hm => by
    obtain ⟨j, hj, e⟩ := List.getElem_of_mem hm
    have hj' : l[j]? = some k := by rw [List.getElem?_eq_getElem hj, e]
    have h1 : i ≤ j := by
      refine Nat.le_of_not_lt (fun hlt => ?_)
      have := h.below j k hlt hj'
      omega
    rcases Nat.lt_or_ge i j with h2 | h2
    · have hi : i < l.length := by omega
      have a := h.above i l[i] (Nat.le_refl _) (List.getElem?_eq_getElem hi)
      have b := hs i j l[i] k h2 (List.getElem?_eq_getElem hi) hj'
      omega
    · obtain rfl : i = j := by omega
      exact ⟨hj, e⟩
  split
  · rename_i hm
    obtain ⟨hi, e⟩ := hat hm
    refine ⟨by omega, fun κ hκ => ?_, fun κ hκ => ?_⟩
    · obtain ⟨j, hj, e2⟩ := List.getElem_of_mem hκ
      rw [List.length_take] at hj
      rw [List.getElem_take] at e2
      rcases Nat.lt_or_ge j i with h1 | h1
      · have := h.below j κ h1 (by rw [List.getElem?_eq_getElem (by omega), e2])
        omega
      · obtain rfl : j = i := by omega
        rw [← e2, e]
        exact Nat.le_refl _
    · obtain ⟨j, hj, e2⟩ := List.getElem_of_mem hκ
      rw [List.length_drop] at hj
      rw [List.getElem_drop] at e2
      have := hs i (i + 1 + j) k κ (by omega) (by rw [List.getElem?_eq_getElem hi, e]) (by rw [List.getElem?_eq_getElem (by omega), e2])
      exact this
  · rename_i hm
    refine ⟨hle, fun κ hκ => ?_, fun κ hκ => ?_⟩
    · obtain ⟨j, hj, e2⟩ := List.getElem_of_mem hκ
      rw [List.length_take] at hj
      rw [List.getElem_take] at e2
      have := h.below j κ (by omega) (by rw [List.getElem?_eq_getElem (by omega), e2])
      omega
    · obtain ⟨j, hj, e2⟩ := List.getElem_of_mem hκ
      rw [List.length_drop] at hj
      rw [List.getElem_drop] at e2
      have h1 := h.above (i + j) κ (by omega) (by rw [List.getElem?_eq_getElem (by omega), e2])
      have h2 : k.toNat ≠ κ.toNat := fun e => hm (by rw [UInt64.toNat_inj.1 e, ← e2]; exact List.getElem_mem _)
      omega
def KidR (W : World) (keys : List UInt64) (k : UInt64) (e : Ending) (w' : World) : Prop := ∃ i : Nat, e = .returned (.int .i64 (i : Int)) ∧ KidIx keys k i ∧ W = w'
set_option maxRecDepth 100000 in
theorem kid_any (hn : NodeR S W nb x) (hs : Sorted x.keys) (hl : x.keys.length ≤ 1000) (k : UInt64) :
    Calls Tryz.prog 94 #[.pointer (some ⟨nb, 0, none⟩), .int .u64 k.toNat] W (KidR W x.keys k) := by
  obtain ⟨kv, vv, av, b, hb, hk, _, _⟩ := hn
  obtain ⟨ao, c, rfl, h4, h5⟩ := id hk
  have c1 : W.cell? ⟨nb, 1, none⟩ = some (.slice ao (u64s x.keys).length c) := b.cell 1 _ rfl
  have HS := Lib.hid (search_any hk hs hl k)
  have HSO := Lib.hid hs
  clear b hk h5 hs
  go_enter Tryz.func94, Tryz.ntmps94
  go_wp2_with fail
  refine HS.out.mono ?_
  rintro e w1 ⟨i, rfl, hst, rfl⟩
  have hkx := hst.kid HSO.out
  have hle := hst.le
  by_cases hm : k ∈ x.keys
  · rw [if_pos hm] at hkx
    have HK := Lib.hid hkx
    have hd : decide (k ∈ x.keys) = true := decide_eq_true hm
    rw [hd]
    clear hkx hm hst hd HS
    go_wp2
    go_ret
    exact ⟨i + 1, by rfl, HK.out, rfl⟩
  · rw [if_neg hm] at hkx
    have HK := Lib.hid hkx
    have hd : decide (k ∈ x.keys) = false := decide_eq_false hm
    rw [hd]
    clear hkx hm hst hd HS
    go_wp2
    go_ret
    exact ⟨i, by rfl, HK.out, rfl⟩
theorem Win.src {P : Program} {t e' : TypeId} (hk : P.underlying t = some (.slice e')) {ao : Option Addr} {c : Nat} {vs : List Value} (h : Win S W (.slice ao vs.length c) vs) (h0 : 0 < vs.length) (h1 : ∀ u ∈ vs, u.oneCell' = true) : Src P 1 t (.slice ao vs.length c) vs.length vs W := by
  obtain ⟨ao', c', e, hc, hv⟩ := h
  injection e with e1 e2 e3
  subst e1 e3
  obtain ⟨g, o, rfl, _, _⟩ := hv 0 vs[0] (List.getElem?_eq_getElem h0)
  refine Src.ofSlice W hk ⟨g, o, none⟩ vs.length c vs (by rw [Nat.mul_one]) (fun j u hj => ?_) h1
  obtain ⟨g2, o2, e2, _, hcell⟩ := hv j u hj
  injection e2 with e2
  injection e2 with e3 e4
  subst e3 e4
  rw [UK.add_mk0]
  exact hcell
theorem u64s_one (l : List UInt64) : ∀ u ∈ u64s l, u.oneCell' = true := fun u hu => by
  unfold u64s at hu
  obtain ⟨v, _, rfl⟩ := List.mem_map.1 hu
  rfl
theorem ints_one (l : List Nat) : ∀ u ∈ ints l, u.oneCell' = true := fun u hu => by
  unfold ints at hu
  obtain ⟨v, _, rfl⟩ := List.mem_map.1 hu
  rfl
def CatR (W : World) (ao : Option Addr) (g' : Nat) (W' : World) : Prop := (ao = some ⟨g', 0, none⟩ ∧ Only g' W W') ∨ (g' = W.heap.size ∧ Below W.heap.size W W')
set_option maxRecDepth 100000 in
theorem cat_u64 {ao bo : Option Addr} {c d : Nat} {us vs : List UInt64} (h : NR W ao c (u64s us)) (hv : Win S W (.slice bo vs.length d) (u64s vs)) (h0 : 0 < vs.length) (hl : us.length + vs.length ≤ 100000) :
    ∃ g' c' W', (Builtin.append_ #[52, 52] 52 #[.slice ao us.length c, .slice bo vs.length d]).run Tryz.prog W = .ok (.slice (some ⟨g', 0, none⟩) (us.length + vs.length) c') W' ∧ Row W' g' c' (u64s (us ++ vs)) ∧ CatR W ao g' W' := by
  have hlu := u64s_length us
  have hlv := u64s_length vs
  rw [← hlv] at hv
  obtain ⟨g', c', W', e, r, o⟩ := UK.push_row (P := Tryz.prog) (t := 52) (tx := 52) (ty := 52) Tryz.underlying52 (i := Tryz.t23) rfl rfl rfl (show (8 : Nat) ≤ 16 by omega) rfl h (x := .slice bo (u64s vs).length d) (m := u64s vs) (by omega) (hv.src Tryz.underlying52 (by omega) (u64s_one vs)) (by omega)
  rw [List.length_append, hlu, hlv] at e
  exact ⟨g', c', W', e, by unfold u64s at *; rw [List.map_append]; exact r, o⟩
set_option maxRecDepth 100000 in
theorem cat_int {ao bo : Option Addr} {c d : Nat} {us vs : List Nat} (h : NR W ao c (ints us)) (hv : Win S W (.slice bo vs.length d) (ints vs)) (h0 : 0 < vs.length) (hl : us.length + vs.length ≤ 100000) :
    ∃ g' c' W', (Builtin.append_ #[82, 82] 82 #[.slice ao us.length c, .slice bo vs.length d]).run Tryz.prog W = .ok (.slice (some ⟨g', 0, none⟩) (us.length + vs.length) c') W' ∧ Row W' g' c' (ints (us ++ vs)) ∧ CatR W ao g' W' := by
  have hlu := ints_length us
  have hlv := ints_length vs
  rw [← hlv] at hv
  obtain ⟨g', c', W', e, r, o⟩ := UK.push_row (P := Tryz.prog) (t := 82) (tx := 82) (ty := 82) Tryz.underlying82 (i := Tryz.t3) rfl rfl rfl (show (8 : Nat) ≤ 16 by omega) rfl h (x := .slice bo (ints vs).length d) (m := ints vs) (by omega) (hv.src Tryz.underlying82 (by omega) (ints_one vs)) (by omega)
  rw [List.length_append, hlu, hlv] at e
  exact ⟨g', c', W', e, by unfold ints at *; rw [List.map_append]; exact r, o⟩
theorem Win.below {n : Nat} {v : Value} {vs : List Value} (h : Win S W v vs) (hb : Below n W W') (hS : ∀ g, S g → g < n) : Win S W' v vs := by
  obtain ⟨ao, c, e, hc, hv⟩ := h
  refine ⟨ao, c, e, hc, fun j u hj => ?_⟩
  obtain ⟨g, o, e2, hg, hcell⟩ := hv j u hj
  exact ⟨g, o, e2, hg, (hb.cell (p := ⟨g, o + j, none⟩) (hS g hg)).trans hcell⟩
def ClonedU (W : World) (l : List UInt64) (e : Ending) (w' : World) : Prop := ∃ g' c', e = .returned (.slice (some ⟨g', 0, none⟩) l.length c') ∧ Row w' g' c' (u64s l) ∧ W.heap.size ≤ g' ∧ Below W.heap.size W w'
def ClonedI (W : World) (l : List Nat) (e : Ending) (w' : World) : Prop := ∃ g' c', e = .returned (.slice (some ⟨g', 0, none⟩) l.length c') ∧ Row w' g' c' (ints l) ∧ W.heap.size ≤ g' ∧ Below W.heap.size W w'
theorem nr_empty (W : World) (T : TypeId) : NR (W.alloc (.cells #[] T)) (some ⟨W.heap.size, 0, none⟩) 0 [] := .inr ⟨W.heap.size, rfl, by simp, Nat.zero_le _, fun j hj => by simp at hj, fun j hj => by omega⟩
set_option maxRecDepth 100000 in
theorem clone_u64 {bo : Option Addr} {d : Nat} {vs : List UInt64} (hv : Win S W (.slice bo vs.length d) (u64s vs)) (hS : ∀ g, S g → g < W.heap.size) (h0 : 0 < vs.length) (hl : vs.length ≤ 1000) :
    Calls Tryz.prog 143 #[.slice bo vs.length d] W (ClonedU W vs) := by
  obtain ⟨ao', c', e, hc, hvv⟩ := id hv
  injection e with e1 e2 e3
  subst e1 e3
  have h1 : 0 < (u64s vs).length := by rw [u64s_length]; exact h0
  obtain ⟨g, o, rfl, _, _⟩ := hvv 0 (u64s vs)[0] (List.getElem?_eq_getElem h1)
  have hb : Below W.heap.size W (W.alloc (.cells #[] 23)) := (Below.refl _ _).alloc (Nat.le_refl _) _
  obtain ⟨g', c', W', hrun, hrow, hcat⟩ := cat_u64 (us := []) (nr_empty W 23) (hv.below hb hS) h0 (by simp; omega)
  rw [List.nil_append] at hrow
  simp only [List.length_nil, Nat.zero_add] at hrun
  have hnil : ∀ W l c, (binOp .eql 52 (.slice (some ⟨g, o, none⟩) l c) (.slice none 0 0)).run Tryz.prog W = .ok (.bool false) W := fun W l c => Lib.run_eql_slice_nil W _ _ _ _ _ _ _ Tryz.underlying52
  have HR := Lib.hid (And.intro hrow (And.intro hcat hb))
  clear hv hvv hrow hcat hb hc e2
  go_enter Tryz.func143, Tryz.ntmps143
  go_wp2_with (at_builtin; refine UK.wpList_append_run hrun rfl rfl rfl rfl rfl ?_)
  go_wp2
  go_ret
  obtain ⟨hrow, hcat, hb⟩ := HR.out
  refine ⟨g', c', rfl, hrow, ?_, ?_⟩
  · rcases hcat with ⟨h1, _⟩ | ⟨h1, _⟩
    · injection h1 with h1; injection h1 with h1; omega
    · rw [h1]; simp
  · rcases hcat with ⟨h1, ho⟩ | ⟨_, hb2⟩
    · injection h1 with h1; injection h1 with h1
      exact hb.trans (ho.below (by simp) (by omega))
    · exact hb.trans (hb2.mono (by simp))
set_option maxRecDepth 100000 in
theorem clone_int {bo : Option Addr} {d : Nat} {vs : List Nat} (hv : Win S W (.slice bo vs.length d) (ints vs)) (hS : ∀ g, S g → g < W.heap.size) (h0 : 0 < vs.length) (hl : vs.length ≤ 1000) :
    Calls Tryz.prog 144 #[.slice bo vs.length d] W (ClonedI W vs) := by
  obtain ⟨ao', c', e, hc, hvv⟩ := id hv
  injection e with e1 e2 e3
  subst e1 e3
  have h1 : 0 < (ints vs).length := by rw [ints_length]; exact h0
  obtain ⟨g, o, rfl, _, _⟩ := hvv 0 (ints vs)[0] (List.getElem?_eq_getElem h1)
  have hb : Below W.heap.size W (W.alloc (.cells #[] 3)) := (Below.refl _ _).alloc (Nat.le_refl _) _
  obtain ⟨g', c', W', hrun, hrow, hcat⟩ := cat_int (us := []) (nr_empty W 3) (hv.below hb hS) h0 (by simp; omega)
  rw [List.nil_append] at hrow
  simp only [List.length_nil, Nat.zero_add] at hrun
  have hnil : ∀ W l c, (binOp .eql 82 (.slice (some ⟨g, o, none⟩) l c) (.slice none 0 0)).run Tryz.prog W = .ok (.bool false) W := fun W l c => Lib.run_eql_slice_nil W _ _ _ _ _ _ _ Tryz.underlying82
  have HR := Lib.hid (And.intro hrow (And.intro hcat hb))
  clear hv hvv hrow hcat hb hc e2
  go_enter Tryz.func144, Tryz.ntmps144
  go_wp2_with (at_builtin; refine UK.wpList_append_run hrun rfl rfl rfl rfl rfl ?_)
  go_wp2
  go_ret
  obtain ⟨hrow, hcat, hb⟩ := HR.out
  refine ⟨g', c', rfl, hrow, ?_, ?_⟩
  · rcases hcat with ⟨h1, _⟩ | ⟨h1, _⟩
    · injection h1 with h1; injection h1 with h1; omega
    · rw [h1]; simp
  · rcases hcat with ⟨h1, ho⟩ | ⟨_, hb2⟩
    · injection h1 with h1; injection h1 with h1
      exact hb.trans (ho.below (by simp) (by omega))
    · exact hb.trans (hb2.mono (by simp))
end
end Go.Proofs.YtfljlcfmdcepnaaGreatDoor
namespace Go.Proofs.YtfljlcfmdcepnaaGreatDoor
open Go.RowKit
open UK (str BytesAt nth Only Row Box)
section
variable {S : Nat → Prop} {W W' : World} {nb : Nat} {x : Nd}
theorem hBd (W : World) : Below W.heap.size W W.drew := (Below.refl _ _).drew
theorem Win.shape {v : Value} {vs : List Value} (h : Win S W v vs) (h0 : 0 < vs.length) : ∃ g o c, v = .slice (some ⟨g, o, none⟩) vs.length c ∧ vs.length ≤ c ∧ S g := by
  obtain ⟨ao, c, rfl, hc, hv⟩ := h
  obtain ⟨g, o, rfl, hg, _⟩ := hv 0 vs[0] (List.getElem?_eq_getElem h0)
  exact ⟨g, o, c, rfl, hc, hg⟩
theorem Win.drop {g o n c : Nat} {vs : List Value} (h : Win S W (.slice (some ⟨g, o, none⟩) n c) vs) (i : Nat) (hi : i ≤ n) : Win S W (.slice (some ⟨g, o + i, none⟩) (n - i) (c - i)) (vs.drop i) := by
  obtain ⟨ao, c', e, hc, hv⟩ := h
  injection e with e1 e2 e3
  subst e1 e2 e3
  refine ⟨_, _, by rw [List.length_drop], by rw [List.length_drop]; omega, fun j u hj => ?_⟩
  rw [List.getElem?_drop] at hj
  obtain ⟨g', o', e, hg, hcell⟩ := hv _ u hj
  injection e with e
  injection e with e4 e5
  subst e4 e5
  exact ⟨g, o + i, rfl, hg, by rw [Nat.add_assoc]; exact hcell⟩
theorem Win.take {g o n c : Nat} {vs : List Value} (h : Win S W (.slice (some ⟨g, o, none⟩) n c) vs) (i : Nat) (hi : i ≤ n) : Win S W (.slice (some ⟨g, o, none⟩) i c) (vs.take i) := by
  obtain ⟨ao, c', e, hc, hv⟩ := h
  injection e with e1 e2 e3
  subst e1 e2 e3
  refine ⟨_, _, by rw [List.length_take, Nat.min_eq_left hi], by rw [List.length_take]; omega, fun j u hj => ?_⟩
  have hlt : j < i := by
    have := (List.getElem?_eq_some_iff.1 hj).1
    rw [List.length_take] at this
    omega
  rw [List.getElem?_take_of_lt hlt] at hj
  exact hv _ u hj
theorem Win.only {v : Value} {vs : List Value} (h : Win S W v vs) (ho : Only nb W W') (hS : ∀ g, S g → g < W.heap.size ∧ g ≠ nb) : Win S W' v vs := by
  obtain ⟨ao, c, e, hc, hv⟩ := h
  refine ⟨ao, c, e, hc, fun j u hj => ?_⟩
  obtain ⟨g, o, e2, hg, hcell⟩ := hv j u hj
  exact ⟨g, o, e2, hg, by
    unfold World.cell? at hcell ⊢
    dsimp only at hcell ⊢
    rw [ho.block g (hS g hg).1 (hS g hg).2]
    exact hcell⟩
theorem Win.mono {T : Nat → Prop} {v : Value} {vs : List Value} (h : Win S W v vs) (hs : ∀ g, S g → T g) : Win T W v vs := by
  obtain ⟨ao, c, e, hc, hv⟩ := h
  exact ⟨ao, c, e, hc, fun j u hj => by
    obtain ⟨g, o, e2, hg, hcell⟩ := hv j u hj
    exact ⟨g, o, e2, hs g hg, hcell⟩⟩
theorem u64s_drop (l : List UInt64) (i : Nat) : (u64s l).drop i = u64s (l.drop i) := by unfold u64s; rw [List.map_drop]
theorem u64s_take (l : List UInt64) (i : Nat) : (u64s l).take i = u64s (l.take i) := by unfold u64s; rw [List.map_take]
theorem ints_drop (l : List Nat) (i : Nat) : (ints l).drop i = ints (l.drop i) := by unfold ints; rw [List.map_drop]
theorem ints_take (l : List Nat) (i : Nat) : (ints l).take i = ints (l.take i) := by unfold ints; rw [List.map_take]
theorem winRow {g c : Nat} {vs : List Value} (h : Row W g c vs) (hg : S g) : Win S W (.slice (some ⟨g, 0, none⟩) vs.length c) vs :=
  ⟨_, c, rfl, h.le, fun j u hj => ⟨g, 0, rfl, hg, by rw [Nat.zero_add]; exact h.at' j u hj⟩⟩
theorem winNone : Win S W (.slice none 0 0) [] := ⟨none, 0, rfl, Nat.le_refl _, fun j u hj => by cases hj⟩
def NodeW (S : Nat → Prop) (W : World) (nb : Nat) (x : Nd) : Prop := ∃ kv vv av, Box W nb #[.bool x.leaf, kv, vv, av] ∧ Win S W kv (u64s x.keys) ∧ Win S W vv (u64s x.vals) ∧ Win S W av (ints x.kids)
def SplitR (S : Nat → Prop) (W : World) (nb : Nat) (x : Nd) (e : Ending) (w' : World) : Prop :=
  ∃ mb, e = .returned (.tuple #[.pointer (some ⟨mb, 0, none⟩), .int .u64 ((splitN x).2.2.toNat : Int)]) ∧ NodeW S w' nb (splitN x).1 ∧ NodeW (fun g => W.heap.size ≤ g ∧ g < w'.heap.size ∧ g ≠ mb) w' mb (splitN x).2.1 ∧ W.heap.size ≤ mb ∧ mb < w'.heap.size ∧ Only nb W w'
set_option maxHeartbeats 4000000 in
set_option maxRecDepth 100000 in
theorem split_leaf {keys vals : List UInt64} (hn : NodeW S W nb ⟨true, keys, vals, []⟩) (hS : ∀ g, S g → g < W.heap.size ∧ g ≠ nb) (hl : keys.length = 31) (hv : vals.length = 31) :
    Calls Tryz.prog 112 #[.pointer (some ⟨nb, 0, none⟩)] W (SplitR S W nb ⟨true, keys, vals, []⟩) := by
  obtain ⟨kv, vv, av, b, hk, hvv, ha⟩ := hn
  dsimp only at b hk hvv ha
  obtain ⟨g1, o1, d1, rfl, hd1, _⟩ := hk.shape (by rw [u64s_length]; omega)
  obtain ⟨g2, o2, d2, rfl, hd2, _⟩ := hvv.shape (by rw [u64s_length]; omega)
  rw [u64s_length, hl] at b hk hd1
  rw [u64s_length, hv] at b hvv hd2
  have b0 : W.cell? ⟨nb, 0, none⟩ = some (.bool true) := b.cell 0 _ rfl
  have b1 : W.cell? ⟨nb, 1, none⟩ = some (.slice (some ⟨g1, o1, none⟩) 31 d1) := b.cell 1 _ rfl
  have b2 : W.cell? ⟨nb, 2, none⟩ = some (.slice (some ⟨g2, o2, none⟩) 31 d2) := b.cell 2 _ rfl
  have hb := b
  have k2 : Win S W (.slice (some ⟨g1, o1 + 15, none⟩) (keys.drop 15).length (d1 - 15)) (u64s (keys.drop 15)) := by
    have := hk.drop 15 (by omega)
    rw [u64s_drop] at this
    rw [List.length_drop, hl]; exact this
  have v2 : Win S W (.slice (some ⟨g2, o2 + 15, none⟩) (vals.drop 15).length (d2 - 15)) (u64s (vals.drop 15)) := by
    have := hvv.drop 15 (by omega)
    rw [u64s_drop] at this
    rw [List.length_drop, hv]; exact this
  have k1 : Win S W (.slice (some ⟨g1, o1, none⟩) 15 d1) (u64s (keys.take 15)) := by
    have := hk.take 15 (by omega)
    rw [u64s_take] at this; exact this
  have v1 : Win S W (.slice (some ⟨g2, o2, none⟩) 15 d2) (u64s (vals.take 15)) := by
    have := hvv.take 15 (by omega)
    rw [u64s_take] at this; exact this
  have hlk : (keys.drop 15).length = 16 := by rw [List.length_drop, hl]
  have hlv : (vals.drop 15).length = 16 := by rw [List.length_drop, hv]
  have hSl : ∀ g, S g → g < W.heap.size := fun g hg => (hS g hg).1
  have hC := ((clone_u64 (W := W.drew) (k2.below (hBd W) hSl) hSl (by omega) (by omega)).mono (R' := fun e w' => ∃ ga ca, e = .returned (.slice (some ⟨ga, 0, none⟩) 16 ca) ∧ Box w' nb #[.bool true, .slice (some ⟨g1, o1, none⟩) 31 d1, .slice (some ⟨g2, o2, none⟩) 31 d2, av] ∧
    Calls Tryz.prog 143 #[.slice (some ⟨g2, o2 + 15, none⟩) 16 (d2 - 15)] w' (fun e w'' => ∃ gb cb, e = .returned (.slice (some ⟨gb, 0, none⟩) 16 cb) ∧ Box w'' nb #[.bool true, .slice (some ⟨g1, o1, none⟩) 31 d1, .slice (some ⟨g2, o2, none⟩) 31 d2, av] ∧
      Row w'' ga ca (u64s (keys.drop 15)) ∧ Row w'' gb cb (u64s (vals.drop 15)) ∧ W.heap.size ≤ ga ∧ W.heap.size ≤ gb ∧ ga ≠ gb ∧ Below W.heap.size W w'')) (fun e w' ⟨ga, ca, he, r1, hga, bl1⟩ => by
    have bl : Below W.heap.size W w' := (hBd W).trans bl1
    rw [hlk] at he
    refine ⟨ga, ca, he, hb.next bl, ?_⟩
    have hlt : ∀ g, S g → g < w'.heap.size := fun g hg => Nat.lt_of_lt_of_le (hSl g hg) bl.size
    have := clone_u64 (v2.below bl hSl) hlt (by omega) (by omega)
    rw [hlv] at this
    refine this.mono (fun e w'' ⟨gb, cb, he, r2, hgb, bl2⟩ => ?_)
    have bl3 : Below W.heap.size W w'' := bl.trans (bl2.mono bl.size)
    rw [hlv] at he
    have := r1.lt
    exact ⟨gb, cb, he, hb.next bl3, r1.of_block bl2.size (bl2.block _ r1.lt), r2, hga, by have := bl.size; omega, by omega, bl3⟩))
  rw [hlk] at hC
  have HC := Lib.hid hC
  have HK := Lib.hid (And.intro hb (And.intro k1 (And.intro v1 ha)))
  clear b hk hvv ha k1 k2 v1 v2 hlk hlv hb hC
  go_enter Tryz.func112, Tryz.ntmps112
  go_wp2_with fail
  go_region_held (fun w : World => w.cell? ⟨nb, 1, none⟩ = some (.slice (some ⟨g1, o1, none⟩) 31 d1) ∧ w.cell? ⟨nb, 2, none⟩ = some (.slice (some ⟨g2, o2, none⟩) 31 d2)) (first | exact ⟨b1, b2⟩ | exact ⟨m1, m2⟩ | exact ⟨n1, n2⟩ | exact ⟨q1, q2⟩) (first
    | (go_at_call 143; refine HC.out.mono ?_; rintro e w3 ⟨ga, ca, rfl, y1, y2⟩; have m1 := y1.cell 1 _ rfl; have m2 := y1.cell 2 _ rfl; replace y1 := Lib.hid y1; replace y2 := Lib.hid y2)
    | (go_at_call 143; refine y2.out.mono ?_; rintro e w4 ⟨gb, cb, rfl, z1, z2⟩; have n1 := z1.cell 1 _ rfl; have n2 := z1.cell 2 _ rfl; have q1 := (z1.alloc (.cells #[.bool true, .slice (some ⟨ga, 0, none⟩) 16 ca, .slice (some ⟨gb, 0, none⟩) 16 cb, .slice none 0 0] 141)).cell 1 _ rfl; have q2 := (z1.alloc (.cells #[.bool true, .slice (some ⟨ga, 0, none⟩) 16 ca, .slice (some ⟨gb, 0, none⟩) 16 cb, .slice none 0 0] 141)).cell 2 _ rfl; replace z1 := Lib.hid z1; replace z2 := Lib.hid z2))
  obtain ⟨r1, r2, hga, hgb, hgab, bl⟩ := z2.out
  have hbx := z1.out.alloc (.cells #[.bool true, .slice (some ⟨ga, 0, none⟩) 16 ca, .slice (some ⟨gb, 0, none⟩) 16 cb, .slice none 0 0] 141)
  have hmx : Box (w4.alloc (.cells #[.bool true, .slice (some ⟨ga, 0, none⟩) 16 ca, .slice (some ⟨gb, 0, none⟩) 16 cb, .slice none 0 0] 141)) w4.heap.size #[.bool true, .slice (some ⟨ga, 0, none⟩) 16 ca, .slice (some ⟨gb, 0, none⟩) 16 cb, .slice none 0 0] := box_at rfl
  have bl5 := bl.alloc bl.size (.cells #[.bool true, .slice (some ⟨ga, 0, none⟩) 16 ca, .slice (some ⟨gb, 0, none⟩) 16 cb, .slice none 0 0] 141)
  have bw : Below w4.heap.size w4 (w4.alloc (.cells #[.bool true, .slice (some ⟨ga, 0, none⟩) 16 ca, .slice (some ⟨gb, 0, none⟩) 16 cb, .slice none 0 0] 141)) := (Below.refl _ _).alloc (Nat.le_refl _) _
  have hgam : ga < w4.heap.size := r1.lt
  have hgbm : gb < w4.heap.size := r2.lt
  replace r1 := r1.of_block bw.size (bw.block _ r1.lt)
  replace r2 := r2.of_block bw.size (bw.block _ r2.lt)
  have hms : W.heap.size ≤ w4.heap.size := bl.size
  have hnm : nb < w4.heap.size := z1.out.lt
  generalize hmb : w4.heap.size = mb at hmx hms hnm hgam hgbm
  generalize hw5 : w4.alloc (.cells #[.bool true, .slice (some ⟨ga, 0, none⟩) 16 ca, .slice (some ⟨gb, 0, none⟩) 16 cb, .slice none 0 0] 141) = w5 at hbx hmx bl5 r1 r2
  clear y1 y2 z1 z2 m1 m2 n1 n2 HC b0 b1 b2 q1 q2 bw
  have q1 := hbx.cell 1 _ rfl
  have q2 := hbx.cell 2 _ rfl
  have f1 := hbx.free 1
  have f2 := hbx.free 2
  have hc1 : (15 : Int) ≤ (d1 : Int) := by omega
  have hc2 : (15 : Int) ≤ (d2 : Int) := by omega
  have H5 := Lib.hid (And.intro hbx (And.intro hmx (And.intro bl5 (And.intro r1 (And.intro r2 (And.intro hms hnm))))))
  clear hbx hmx bl5 r1 r2 hms hnm
  go_wp2_with fail
  go_region_law (fail)
  all_goals
    obtain ⟨hbx, hmx, bl5, r1, r2, hms, hnm⟩ := H5.out
    obtain ⟨hbo, k1, v1, ha⟩ := HK.out
    have o5 : Only nb W ((w5.setCell ⟨nb, 1, none⟩ (.slice (some ⟨g1, o1, none⟩) 15 d1)).setCell ⟨nb, 2, none⟩ (.slice (some ⟨g2, o2, none⟩) 15 d2)).drew := (((Only.of_below bl5).set 1 _).set 2 _).drew
    have o6 : Only nb w5 ((w5.setCell ⟨nb, 1, none⟩ (.slice (some ⟨g1, o1, none⟩) 15 d1)).setCell ⟨nb, 2, none⟩ (.slice (some ⟨g2, o2, none⟩) 15 d2)).drew := (((Only.refl nb w5).set 1 _).set 2 _).drew
    have hby : Box ((w5.setCell ⟨nb, 1, none⟩ (.slice (some ⟨g1, o1, none⟩) 15 d1)).setCell ⟨nb, 2, none⟩ (.slice (some ⟨g2, o2, none⟩) 15 d2)).drew nb #[.bool true, .slice (some ⟨g1, o1, none⟩) 15 d1, .slice (some ⟨g2, o2, none⟩) 15 d2, av] := (hbx.set 1 _).set 2 _
    have hmy := hmx.only o6 (by omega)
    have hgn : ga ≠ nb := by have := hbo.lt; omega
    have r1y := r1.only o6 hgn
    have r2y := r2.only o6 (by have := hbo.lt; omega)
    generalize ((w5.setCell ⟨nb, 1, none⟩ (.slice (some ⟨g1, o1, none⟩) 15 d1)).setCell ⟨nb, 2, none⟩ (.slice (some ⟨g2, o2, none⟩) 15 d2)).drew = w6 at o5 o6 hby hmy r1y r2y
    have m1 := hmy.cell 1 _ rfl
    have hkd : (u64s (keys.drop 15))[0]? = some (.int .u64 ((keys.getD 15 0).toNat : Int)) := by
      refine u64s_at _ 0 (keys.getD 15 0) ?_
      rw [List.getElem?_drop, Nat.add_zero, List.getD_eq_getElem?_getD, List.getElem?_eq_getElem (by omega)]
      rfl
    obtain ⟨q, hq⟩ : ∃ q : UInt64, q = keys.getD 15 0 := ⟨_, rfl⟩
    rw [← hq] at hkd
    have c0 := r1y.at' 0 _ hkd
    have hlk : (u64s (keys.drop 15)).length = 16 := by rw [u64s_length, List.length_drop, hl]
    have hlv : (u64s (vals.drop 15)).length = 16 := by rw [u64s_length, List.length_drop, hv]
    have hmlt := hmy.lt
    have fin : SplitR S W nb ⟨true, keys, vals, []⟩ (.returned (.tuple #[.pointer (some ⟨mb, 0, none⟩), .int .u64 (q.toNat : Int)])) w6.drew := by
      rw [hq]
      unfold SplitR
      rw [splitN_leaf (show keys.length / 2 = 15 by omega)]
      refine ⟨mb, rfl, ⟨_, _, _, hby, k1.only o5.drew hS, v1.only o5.drew hS, ha.only o5.drew hS⟩, ⟨_, _, _, hmy, ?_, ?_, winNone⟩, hms, hmlt, o5.drew⟩
      · have := winRow (S := fun g => W.heap.size ≤ g ∧ g < w6.drew.heap.size ∧ g ≠ mb) r1y ⟨hga, r1y.lt, by omega⟩
        rw [hlk] at this; exact this
      · have := winRow (S := fun g => W.heap.size ≤ g ∧ g < w6.drew.heap.size ∧ g ≠ mb) r2y ⟨hgb, r2y.lt, by omega⟩
        rw [hlv] at this; exact this
    have HF := Lib.hid fin
    clear hbx hmx bl5 r1 r2 hms hnm hbo k1 v1 ha o5 o6 hby hmy r1y r2y fin hkd hlk hlv H5 HK hmlt hgam hgbm hgn f1 f2 q1 q2 hga hgb hgab hS hSl hw5 hq hl hv
    go_wp2_with fail
    go_region_law (fail)
    all_goals
      go_wp2
      go_ret2
      exact HF.out
end
end Go.Proofs.YtfljlcfmdcepnaaGreatDoor
