/-
  append to a row of structs of two cells each.
  The document's list of texts in memory: Find, Without; which one of some.
  tabularlaw07: at.
-/
import Derived.Test.YtjfkdfffolkblaaGreatDoorUMem
import Derived.Test.YtjfkdfffolkblaaGreatDoorHeapX
namespace Go.Proofs.YtjfkdfffolkblaaGreatDoor
open Go.RowKit
namespace UK
/-- structs of two cells appended, whether there is room or not; the row may be nil -/
theorem push_two {P : Program} {t tx ty e : TypeId} {i : TypeInfo} {z : Value} (ht : P.underlying t = some (.slice e)) (hi : P.info? e = some i) (hz : i.zero = some z) (h1 : i.size = 2) (h16 : i.bytes ≤ 24) (hzs : z.cells.size = 2)
    {W : World} {ao : Option Addr} {c n k : Nat} {vs : List Value} (hn : vs.length = 2 * n) (h : (ao = none ∧ vs = [] ∧ c = 0) ∨ ∃ g, ao = some ⟨g, 0, none⟩ ∧ Row W g (2 * c) vs) {x : Value} {m : List Value} (hk : m.length = 2 * k) (hm0 : 0 < k) (hs : Src P 2 tx x k m W) (hlen : n + k ≤ 1000000000) :
    ∃ g' c' W', (Builtin.append_ #[t, tx] ty #[.slice ao n c, x]).run P W = .ok (.slice (some ⟨g', 0, none⟩) (n + k) c') W' ∧ Row W' g' (2 * c') (vs ++ m) ∧ ((ao = some ⟨g', 0, none⟩ ∧ Only g' W W') ∨ (g' = W.heap.size ∧ Below W.heap.size W W')) := by
  have hgrow : c < n + k → (Builtin.firstCells i.size n (.slice ao n c)).run P W.drew = .ok vs.toArray W.drew →
      ∃ g' c' W', (Builtin.append_ #[t, tx] ty #[.slice ao n c, x]).run P W = .ok (.slice (some ⟨g', 0, none⟩) (n + k) c') W' ∧ Row W' g' (2 * c') (vs ++ m) ∧ ((ao = some ⟨g', 0, none⟩ ∧ Only g' W W') ∨ (g' = W.heap.size ∧ Below W.heap.size W W')) := by
    intro hg hold
    have hfit : (n + k) * i.bytes ≤ 140737488355328 := Nat.le_trans (Nat.mul_le_mul hlen h16) (by decide)
    have hrun := run_append_grow_src (P := P) W t tx ty e i z ht hi hz ao n c vs hold x k m (by rw [h1]; exact hs) hg (by omega) (growslice_fits hg hfit)
    have hge := grownCap_ge W (n + k) c e
    have e1 := World.cell?_alloc_new W.drew ((vs ++ m).toArray ++ Builtin.zeroCells z.cells (grownCap W (n + k) c e - (n + k))) e
    have hvm : (vs ++ m).length = 2 * (n + k) := by rw [List.length_append]; omega
    refine ⟨W.heap.size, _, _, hrun, ⟨by simp, by omega, fun j hj => ?_, fun j hj => ⟨?_, World.frozen?_alloc_new W.drew _ _ j⟩⟩, .inr ⟨rfl, (Below.refl W.heap.size W).drew.alloc (Nat.le_refl _) _⟩⟩
    · refine Eq.trans (e1 j) ?_
      rw [Array.getElem?_append_left (by simp only [List.size_toArray]; exact hj), List.getElem?_toArray]
    · have hsz : ((vs ++ m).toArray ++ Builtin.zeroCells z.cells (grownCap W (n + k) c e - (n + k))).size = 2 * grownCap W (n + k) c e := by
        rw [Array.size_append, List.size_toArray, hvm, size_zeroCells, hzs]
        omega
      have e2 : (W.drew.alloc (.cells ((vs ++ m).toArray ++ Builtin.zeroCells z.cells (grownCap W (n + k) c e - (n + k))) e)).cell? ⟨W.heap.size, j, none⟩ = _ := e1 j
      rw [e2, Array.getElem?_eq_getElem (by rw [hsz]; exact hj)]
      rfl
  rcases h with ⟨rfl, rfl, rfl⟩ | ⟨g, rfl, h⟩
  · obtain rfl : n = 0 := by rw [List.length_nil] at hn; omega
    exact hgrow (by omega) (run_firstCells_none W.drew i.size 0 0 0)
  · have hle := h.le
    by_cases hf : n + k ≤ c
    · have hr := run_append_room_src (P := P) W t tx ty e i ht hi g 0 n c x k m (by rw [h1]; exact hs) hf
        (fun j hj => by rw [h1]; exact (h.there _ (by omega)).1) (fun j hj => by rw [h1]; exact (h.there _ (by omega)).2)
      rw [h1, Nat.zero_add, show n * 2 = vs.length by omega] at hr
      refine ⟨g, c, _, hr, h.setCells vs.length m (by omega) (vs ++ m) (by rw [List.length_append]; omega) (fun j hj => ?_) (fun j hj hc => ?_), .inl ⟨rfl, Only.setCells _ _ (Only.refl _ _)⟩⟩
      · rw [List.getElem?_append_right (by omega), Nat.add_sub_cancel_left]
      · rw [List.length_append] at hj
        exact ⟨by omega, by rw [List.getElem?_append_left (by omega)]⟩
    · exact hgrow (by omega) (run_firstCells_some W.drew i.size n ⟨g, 0, none⟩ n c vs (by rw [h1]; omega) (fun j v hj => by
        have hjl : j < vs.length := (List.getElem?_eq_some_iff.1 hj).1
        rw [add_mk0, Nat.zero_add]
        exact (h.holds j hjl).trans hj))
end UK
end Go.Proofs.YtjfkdfffolkblaaGreatDoor
namespace Go.Proofs.YtjfkdfffolkblaaGreatDoor
open Go.RowKit
open UK (str BytesAt nth Only Row Box w32)
open Go.BigFrame
def cellT (t : HT) : List Value := [.int .u64 (idOf t : Nat), .string (str t.s)]
def flatT (X : List HT) : List Value := X.flatMap cellT
theorem flatT_cons (t : HT) (X : List HT) : flatT (t :: X) = cellT t ++ flatT X := by unfold flatT; rw [List.flatMap_cons]
theorem flatT_append (X Y : List HT) : flatT (X ++ Y) = flatT X ++ flatT Y := by unfold flatT; rw [List.flatMap_append]
theorem flatT_length : ∀ X : List HT, (flatT X).length = 2 * X.length
  | [] => rfl
  | t :: X => by
    rw [flatT_cons, List.length_append, flatT_length X, List.length_cons]
    show 2 + _ = _
    omega
theorem flatT_get : ∀ (X : List HT) (j : Nat) (t : HT), X[j]? = some t → (flatT X)[j * 2]? = some (.int .u64 (idOf t : Nat)) ∧ (flatT X)[j * 2 + 1]? = some (.string (str t.s))
  | [], _, _, h => by cases h
  | u :: X, 0, t, h => by
    obtain rfl : u = t := by simpa using h
    exact ⟨rfl, rfl⟩
  | u :: X, j + 1, t, h => by
    have := flatT_get X j t (by simpa using h)
    rw [flatT_cons]
    have e1 : (cellT u ++ flatT X)[(j + 1) * 2]? = (flatT X)[j * 2]? := by
      rw [List.getElem?_append_right (by show 2 ≤ _; omega)]
      congr 1
      show (j + 1) * 2 - 2 = _
      omega
    have e2 : (cellT u ++ flatT X)[(j + 1) * 2 + 1]? = (flatT X)[j * 2 + 1]? := by
      rw [List.getElem?_append_right (by show 2 ≤ _; omega)]
      congr 1
      show (j + 1) * 2 + 1 - 2 = _
      omega
    rw [e1, e2]
    exact this
/-- a list of texts: none yet, or a row -/
def TX (W : World) (ao : Option Addr) (c : Nat) (X : List HT) : Prop := (ao = none ∧ X = [] ∧ c = 0) ∨ ∃ g, ao = some ⟨g, 0, none⟩ ∧ Row W g (2 * c) (flatT X)
section
variable {W W' : World} {ao : Option Addr} {c : Nat} {X : List HT}
theorem TX.le (h : TX W ao c X) : X.length ≤ c := by
  rcases h with ⟨_, rfl, rfl⟩ | ⟨g, _, r⟩
  · exact Nat.le_refl _
  · have := r.le
    rw [flatT_length] at this
    omega
theorem TX.of_block (h : TX W ao c X) (hs : W.heap.size ≤ W'.heap.size) (hb : ∀ b, slB ao b → W'.heap[b]? = W.heap[b]?) : TX W' ao c X := by
  rcases h with h | ⟨g, e, r⟩
  · exact .inl h
  · exact .inr ⟨g, e, r.of_block hs (hb g e)⟩
theorem TX.lt (h : TX W ao c X) {b : Nat} (hb : slB ao b) : b < W.heap.size := by
  rcases h with ⟨h, _⟩ | ⟨g, e, r⟩
  · rw [slB, h] at hb; cases hb
  · rw [slB, e] at hb
    have := Addr.mk.inj (Option.some.inj hb)
    rw [← this.1]; exact r.lt
theorem TX.next (h : TX W ao c X) (hb : Below W.heap.size W W') : TX W' ao c X := h.of_block hb.size (fun b hs => hb.block b (h.lt hs))
theorem TX.at_ (h : TX W ao c X) {j : Nat} {t : HT} (hj : X[j]? = some t) : ∃ g, ao = some ⟨g, 0, none⟩ ∧ W.cell? ⟨g, j * 2, none⟩ = some (.int .u64 (idOf t : Nat)) ∧ W.cell? ⟨g, j * 2 + 1, none⟩ = some (.string (str t.s)) := by
  rcases h with ⟨_, rfl, _⟩ | ⟨g, e, r⟩
  · cases hj
  · obtain ⟨h1, h2⟩ := flatT_get X j t hj
    exact ⟨g, e, r.at' _ _ h1, r.at' _ _ h2⟩
set_option maxHeartbeats 1000000 in
set_option maxRecDepth 100000 in
/-- a number that none has -/
theorem rfind_no {n : Nat} (h : TX W ao c X) (hn : ∀ t, t ∈ X → idOf t ≠ n) (hX : X.length ≤ 1000000) :
    Calls Tryz.prog 36 #[.slice ao X.length c, .int .u64 n] W fun e w' => e = .returned (.int .i64 (-1)) ∧ Below W.heap.size W w' := by
  have HT0 := Lib.hid h
  have HN := Lib.hid hn
  have hle := h.le
  clear h hn
  go_enter Tryz.func36, Tryz.ntmps36
  go_wp2_with fail
  go_loopw [9] (fun iv wr => ∃ j : Nat, iv = .int .i64 j ∧ j ≤ X.length ∧ Below W.heap.size W wr) (fun iv _ => X.length - (intOf iv).toNat)
  case atStart => exact ⟨0, rfl, Nat.zero_le _, Below.refl _ _⟩
  case round =>
    obtain ⟨j, rfl, hj, hb⟩ := hrel
    by_cases hlt : j < X.length
    · obtain ⟨t, htj⟩ : ∃ t, X[j]? = some t := ⟨_, List.getElem?_eq_getElem hlt⟩
      obtain ⟨g, rfl, c0, c1⟩ := (HT0.out.next hb).at_ htj
      have hne : idOf t ≠ n := HN.out t (List.mem_of_getElem? htj)
      have hnb : (((idOf t : Nat) : Int) == (n : Int)) = false := by simp; omega
      have hni : ¬ ((idOf t : Nat) : Int) = (n : Int) := by omega
      have hil : (j : Int) < (X.length : Int) := by omega
      have HB := Lib.hid hb
      clear hb hne htj
      generalize (idOf t : Nat) = ti at c0 hnb hni
      go_wp2
      go_roundw
      case rel => exact ⟨j + 1, by go_num, hlt, HB.out.alloc HB.out.size _⟩
      case measure => simp [intOf]; omega
    · obtain rfl : j = X.length := by omega
      have hil : ¬ ((X.length : Nat) : Int) < (X.length : Int) := by omega
      have HB := Lib.hid hb
      clear hb
      go_wp2
      go_ret
      exact ⟨rfl, HB.out⟩
set_option maxRecDepth 100000 in
/-- one text more in a list of one's own -/
theorem TX.push {t : HT} (h : TX W ao c X) (hX : X.length + 1 ≤ 1000000) {b : Nat} (hc : W.cell? ⟨b, 0, none⟩ = some (.int .u64 (idOf t : Nat)) ∧ W.cell? ⟨b, 1, none⟩ = some (.string (str t.s))) :
    ∃ g' c' W', (Builtin.append_ #[27, 27] 27 #[.slice ao X.length c, .slice (some ⟨b, 0, none⟩) 1 1]).run Tryz.prog W = .ok (.slice (some ⟨g', 0, none⟩) (X.length + 1) c') W' ∧ TX W' (some ⟨g', 0, none⟩) c' (X ++ [t]) ∧ ((ao = some ⟨g', 0, none⟩ ∧ Only g' W W') ∨ (g' = W.heap.size ∧ Below W.heap.size W W')) := by
  have hsrc : Src Tryz.prog 2 27 (.slice (some ⟨b, 0, none⟩) 1 1) 1 (cellT t) W := Src.ofSlice W Tryz.underlying27 ⟨b, 0, none⟩ 1 1 (cellT t) rfl (fun j u hj => by
    rw [UK.add_mk0, Nat.zero_add]
    have hj2 : j < 2 := (List.getElem?_eq_some_iff.1 hj).1
    rcases (show j = 0 ∨ j = 1 by omega) with rfl | rfl
    · rw [hc.1]; exact hj
    · rw [hc.2]; exact hj) (fun u hu => by
    rcases List.mem_cons.1 hu with rfl | hu
    · rfl
    · rw [List.mem_singleton.1 hu]; rfl)
  obtain ⟨g', c', W', e1, r, o⟩ := UK.push_two (P := Tryz.prog) (t := 27) (tx := 27) (ty := 27) Tryz.underlying27 (i := Tryz.t36) rfl rfl rfl (show (24 : Nat) ≤ 24 by omega) rfl (n := X.length) (vs := flatT X) (flatT_length X) (ao := ao) (c := c) (by
    rcases h with ⟨a, rfl, d⟩ | ⟨g, a, r⟩
    · exact .inl ⟨a, rfl, d⟩
    · exact .inr ⟨g, a, r⟩) (m := cellT t) (k := 1) rfl (by omega) hsrc (by omega)
  refine ⟨g', c', W', e1, .inr ⟨g', rfl, ?_⟩, o⟩
  rw [flatT_append]
  have : flatT [t] = cellT t := by unfold flatT; simp
  rw [this]
  exact r
def without (X : List HT) (n : Nat) : List HT := X.filter fun t => idOf t != n
theorem without_take {X : List HT} {n j : Nat} {t : HT} (h : X[j]? = some t) : without (X.take (j + 1)) n = without (X.take j) n ++ if idOf t != n then [t] else [] := by
  unfold without
  rw [List.take_add_one, h, List.filter_append]
  congr 1
  by_cases e : (idOf t != n) = true
  · rw [if_pos e]; simp [e]
  · rw [if_neg e]; simp [e]
set_option maxHeartbeats 2000000 in
set_option maxRecDepth 100000 in
theorem without_any {n : Nat} (h : TX W ao c X) (hX : X.length ≤ 100000) :
    Calls Tryz.prog 38 #[.slice ao X.length c, .int .u64 n] W fun e w' => ∃ ao' c', e = .returned (.slice ao' (without X n).length c') ∧ TX w' ao' c' (without X n) ∧ (∀ b, slB ao' b → W.heap.size ≤ b) ∧ Below W.heap.size W w' := by
  have HT0 := Lib.hid h
  have hle := h.le
  have hfl : ∀ j, (without (X.take j) n).length ≤ X.length := fun j => Nat.le_trans (List.length_filter_le _ _) (by rw [List.length_take]; omega)
  have HFL := Lib.hid hfl
  have a0 : Below W.heap.size W (W.alloc (.cells #[] 36)) := (Below.refl _ _).alloc (Nat.le_refl _) _
  have HST : Hid (∃ (ao' : Option Addr) (c' : Nat), (some ⟨W.heap.size, 0, none⟩ : Option Addr) = ao' ∧ c' = 0 ∧ TX (W.alloc (.cells #[] 36)) ao' c' [] ∧ (∀ b, slB ao' b → W.heap.size ≤ b)) :=
    ⟨_, 0, rfl, rfl, .inr ⟨W.heap.size, rfl, ⟨by simp, Nat.le_refl _, fun j hj => absurd hj (Nat.not_lt_zero _), fun j hj => absurd hj (Nat.not_lt_zero _)⟩⟩, fun b hb => by cases hb; exact Nat.le_refl _⟩
  have HA0 := Lib.hid a0
  clear h hfl a0
  go_enter Tryz.func38, Tryz.ntmps38
  go_wp2_with fail
  go_loopw [5, 11] (fun ov iv wr => ∃ (j : Nat) (ao' : Option Addr) (c' : Nat), iv = .int .i64 j ∧ j ≤ X.length ∧ ov = .slice ao' (without (X.take j) n).length c' ∧ TX wr ao' c' (without (X.take j) n) ∧ (∀ b, slB ao' b → W.heap.size ≤ b) ∧ Below W.heap.size W wr) (fun _ iv _ => X.length - (intOf iv).toNat)
  case atStart =>
    obtain ⟨ao', c', rfl, rfl, q1, q2⟩ := HST.out
    exact ⟨0, _, 0, rfl, Nat.zero_le _, rfl, q1, q2, HA0.out⟩
  case round =>
    clear HST HA0
    obtain ⟨j, ao', c', rfl, hj, rfl, q1, q2, q3⟩ := hrel
    by_cases hlt : j < X.length
    · obtain ⟨t, htj⟩ : ∃ t, X[j]? = some t := ⟨_, List.getElem?_eq_getElem hlt⟩
      obtain ⟨g, rfl, d0, d1⟩ := (HT0.out.next q3).at_ htj
      have hwt := without_take (n := n) htj
      have hfl := HFL.out j
      have hil : (j : Int) < (X.length : Int) := by omega
      by_cases hne : idOf t = n
      · rw [if_neg (by simp [hne])] at hwt
        rw [List.append_nil] at hwt
        have hnb : (((idOf t : Nat) : Int) != (n : Int)) = false := by simp; omega
        have hni : ((idOf t : Nat) : Int) = (n : Int) := by omega
        have HQ := Lib.hid (And.intro q1 (And.intro q2 (And.intro q3 hwt)))
        clear q1 q2 q3 hwt htj hne
        go_wp2
        go_roundw
        case rel =>
          obtain ⟨q1, q2, q3, hwt⟩ := HQ.out
          rw [← hwt] at q1
          exact ⟨j + 1, ao', c', by go_num, hlt, by rw [hwt], q1.next ((Below.refl _ _).alloc (Nat.le_refl _) _), q2, q3.alloc q3.size _⟩
        case measure => simp [intOf]; omega
      · rw [if_pos (by simp [hne])] at hwt
        have hnb : (((idOf t : Nat) : Int) != (n : Int)) = true := by simp; omega
        have hni : ¬ ((idOf t : Nat) : Int) = (n : Int) := by omega
        have a1 : Below wr.heap.size wr (wr.alloc (.cells #[.int .u64 (idOf t : Nat), .string (str t.s)] 36)) := (Below.refl _ _).alloc (Nat.le_refl _) _
        have hs1 : (wr.alloc (.cells #[.int .u64 (idOf t : Nat), .string (str t.s)] 36)).heap.size = wr.heap.size + 1 := by simp
        have a2 := a1.alloc (by omega) (.cells #[.int .u64 (idOf t : Nat), .string (str t.s)] 36)
        have hs2 : ((wr.alloc (.cells #[.int .u64 (idOf t : Nat), .string (str t.s)] 36)).alloc (.cells #[.int .u64 (idOf t : Nat), .string (str t.s)] 36)).heap.size = wr.heap.size + 2 := by simp
        have x2 := Box.new (wr.alloc (.cells #[.int .u64 (idOf t : Nat), .string (str t.s)] 36)) #[.int .u64 (idOf t : Nat), .string (str t.s)] 36
        rw [hs1] at x2
        obtain ⟨g', c2, W', e1, r1, o1⟩ := (q1.next a2).push (t := t) (by omega) (b := wr.heap.size + 1) ⟨x2.cell 0 _ rfl, x2.cell 1 _ rfl⟩
        have hg' : W.heap.size ≤ g' := by
          rcases o1 with ⟨a, _⟩ | ⟨a, _⟩
          · exact q2 g' a
          · rw [a, hs2]; have := q3.size; omega
        have hbl : Below W.heap.size W W' := by
          have b2 := q3.trans (a2.mono q3.size)
          rcases o1 with ⟨_, o⟩ | ⟨_, o⟩
          · exact b2.trans (o.below b2.size hg')
          · exact b2.trans (o.mono b2.size)
        have hln : (without (X.take j) n).length + 1 = (without (X.take (j + 1)) n).length := by rw [hwt, List.length_append]; rfl
        rw [← hwt] at r1
        have HQ := Lib.hid (And.intro r1 (And.intro hg' (And.intro hbl hln)))
        generalize hm0 : (without (X.take j) n).length = m0 at e1
        have HM0 := Lib.hid hm0
        clear hm0
        clear q1 q2 q3 hwt htj hne a1 a2 hs1 hs2 x2 r1 o1 hg' hbl hln hfl
        generalize (idOf t : Nat) = ti at *
        go_wp2_with (at_builtin; refine UK.wpList_append_run e1 rfl rfl rfl rfl rfl ?_)
        go_roundw
        case rel =>
          obtain ⟨r1, hg', hbl, hln⟩ := HQ.out
          exact ⟨j + 1, some ⟨g', 0, none⟩, c2, by go_num, hlt, by rw [← hln, HM0.out], r1, fun b hb => by cases hb; exact hg', hbl⟩
        case measure => simp [intOf]; omega
    · obtain rfl : j = X.length := by omega
      have hil : ¬ ((X.length : Nat) : Int) < (X.length : Int) := by omega
      rw [List.take_length] at q1
      have HQ := Lib.hid (And.intro q1 (And.intro q2 q3))
      have hln : (without (X.take X.length) n) = without X n := by rw [List.take_length]
      have HLN := Lib.hid hln
      clear q1 q2 q3 hln
      go_wp2
      go_ret
      exact ⟨ao', c', by first | rfl | (rw [HLN.out] <;> rfl), HQ.out⟩
end
end Go.Proofs.YtjfkdfffolkblaaGreatDoor
namespace Go.Proofs.YtjfkdfffolkblaaGreatDoor
open Go.RowKit
open UK (str BytesAt nth Only Row Box w32)
open Go.BigFrame
section
variable {W W' : World}
set_option maxRecDepth 100000 in
theorem hat_any (i : Int) (n : Nat) (hn : n ≤ 100000) :
    Calls Tryz.prog 34 #[.int .i64 i, .int .i64 n] W fun e w' => ∃ v : Int, e = .returned (.int .i64 v) ∧ w' = W ∧ (n = 0 → v = -1) ∧ (0 < n → ∃ j : Nat, v = j ∧ j < n) := by
  by_cases h0 : n = 0
  · subst h0
    go_enter Tryz.func34, Tryz.ntmps34
    go_wp2
    go_ret
    exact ⟨-1, rfl, rfl, fun _ => rfl, fun h => absurd h (Nat.lt_irrefl _)⟩
  · have h1 : ¬ (n : Int) = 0 := by omega
    have hb : ((n : Int) == 0) = false := by simp; omega
    have t1 : Int.tmod i n < n := Int.tmod_lt_of_pos _ (by omega)
    have t2 : -(n : Int) < Int.tmod i n := by
      have := Int.lt_tmod_of_pos i (show (0 : Int) < n by omega)
      exact this
    generalize hq : Int.tmod i n = q at t1 t2
    have hw : wrap64 q = q := by unfold wrap64; omega
    have hr : Int.tmod (q + n) n = (q + n) % n := Int.tmod_eq_emod_of_nonneg (by omega)
    have hr2 : 0 ≤ (q + n) % n := Int.emod_nonneg _ (by omega)
    have hr3 : (q + n) % n < n := Int.emod_lt_of_pos _ (by omega)
    generalize hz : (q + (n : Int)) % n = z at hr hr2 hr3
    have hw2 : wrap64 z = z := by unfold wrap64; omega
    go_enter Tryz.func34, Tryz.ntmps34
    go_wp2
    go_ret
    exact ⟨z, rfl, rfl, fun h => absurd h h0, fun _ => ⟨z.toNat, by omega, by omega⟩⟩
end
end Go.Proofs.YtjfkdfffolkblaaGreatDoor
