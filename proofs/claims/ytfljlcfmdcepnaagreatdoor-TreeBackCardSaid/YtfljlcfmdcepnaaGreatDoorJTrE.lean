/-
  slices.Insert, Delete over []int (printed by gentre.py).
-/
import Derived.Test.YtfljlcfmdcepnaaGreatDoorJTrD
import Derived.Shelf.Spec.SlicesInsert
namespace Go.Proofs.YtfljlcfmdcepnaaGreatDoor
open Go.RowKit Go.BigFrame
open UK (str BytesAt nth Only Row Box)
def LaidI (W w' : World) (ao : Option Addr) (l : List Nat) (e : Ending) : Prop :=
  ∃ g' c', e = .returned (.slice (some ⟨g', 0, none⟩) l.length c') ∧ Row w' g' c' (ints l) ∧ UK.Only g' W w' ∧ (slB ao g' ∨ W.heap.size ≤ g')
set_option maxHeartbeats 4000000 in
set_option maxRecDepth 100000 in
theorem insertI_end {W : World} {ao : Option Addr} {c vb : Nat} {l : List Nat} (h : NR W ao c (ints l)) (hl : l.length ≤ 1000) (v : Nat) (hv : Box W vb #[.int .i64 (v : Int)]) :
    Calls Tryz.prog 110 #[.slice ao l.length c, .int .i64 l.length, .slice (some ⟨vb, 0, none⟩) 1 1] W fun e w' => LaidI W w' ao (l ++ [v]) e := by
  have hlen := ints_length l
  obtain ⟨g', c', W', e, r, o⟩ := UK.push_row (P := Tryz.prog) (t := 82) (tx := 82) (ty := 82) Tryz.underlying82 (i := Tryz.t3) rfl rfl rfl (show (8 : Nat) ≤ 16 by omega) rfl h (x := .slice (some ⟨vb, 0, none⟩) 1 1) (m := [.int .i64 (v : Int)]) (by simp) (Src.ofSlice W Tryz.underlying82 ⟨vb, 0, none⟩ 1 1 _ rfl (fun j u hj => by
      have hj0 : j = 0 := by
        by_cases hc : j < 1
        · omega
        · rw [List.getElem?_eq_none (by simp; omega)] at hj; cases hj
      subst hj0
      rw [UK.add_mk0, Nat.zero_add, hv.cell 0 _ rfl]
      exact hj) (fun u hu => by
        obtain rfl := List.mem_singleton.1 hu
        rfl)) (by rw [hlen]; simp; omega)
  rw [List.length_append, hlen] at e
  have el : (ints l ++ [.int .i64 (v : Int)]) = ints (l ++ [v]) := by unfold ints; rw [List.map_append]; rfl
  rw [el] at r
  have HF : Hid (∃ g' c', (Value.slice (some ⟨g', 0, none⟩) (l.length + 1) c' = Value.slice (some ⟨g', 0, none⟩) (l.length + 1) c') ∧ True) := ⟨0, 0, rfl, trivial⟩
  have HR := Lib.hid (And.intro r o)
  replace e : (Builtin.append_ #[82, 82] 82 #[.slice ao l.length c, .slice (some ⟨vb, 0, none⟩) 1 1]).run Tryz.prog W = .ok (.slice (some ⟨g', 0, none⟩) (l.length + 1) c') W' := e
  clear r o hv el HF
  have fin : LaidI W W' ao (l ++ [v]) (.returned (.slice (some ⟨g', 0, none⟩) (l.length + 1) c')) := by
    refine ⟨g', c', by rw [List.length_append]; rfl, HR.out.1, ?_⟩
    rcases HR.out.2 with ⟨a, b⟩ | ⟨a, b⟩
    · exact ⟨b, .inl a⟩
    · exact ⟨Only.of_below b, .inr (by omega)⟩
  have HF := Lib.hid fin
  clear fin HR
  rcases h with ⟨rfl, hn, rfl⟩ | ⟨g, rfl, r⟩
  · have hl0 : l = [] := by
      have := congrArg List.length hn
      rw [hlen] at this
      exact List.length_eq_zero_iff.1 this
    subst hl0
    clear hn hlen
    go_enter Tryz.func110, Tryz.ntmps110
    go_wp2_with (at_builtin; refine UK.wpList_append_run e rfl rfl rfl rfl rfl ?_)
    go_ret
    exact HF.out
  · have hle := r.le
    rw [hlen] at hle
    clear r hlen
    go_enter Tryz.func110, Tryz.ntmps110
    go_wp2_with (at_builtin; refine UK.wpList_append_run e rfl rfl rfl rfl rfl ?_)
    all_goals
      go_ret
      exact HF.out
set_option maxHeartbeats 4000000 in
set_option maxRecDepth 100000 in
theorem insertI_shift {W : World} {g c vb i : Nat} {l : List Nat} (h : Row W g c (ints l)) (hl : l.length ≤ 1000) (hi : i < l.length) (hroom : l.length + 1 ≤ c) (v : Nat) (hv : Box W vb #[.int .i64 (v : Int)]) (hne : vb ≠ g) :
    Calls Tryz.prog 110 #[.slice (some ⟨g, 0, none⟩) l.length c, .int .i64 i, .slice (some ⟨vb, 0, none⟩) 1 1] W fun e w' => LaidI W w' (some ⟨g, 0, none⟩) (l.take i ++ v :: l.drop i) e := by
  have hlen := ints_length l
  obtain ⟨n, hn⟩ : ∃ n, n = l.length := ⟨_, rfl⟩
  obtain ⟨tB, kB, hsb, hkB⟩ := Row.shape h (by omega)
  obtain ⟨tA, kA, hsa, hfa, hfe⟩ : ∃ tA kA, W.shape? vb = some (tA, kA) ∧ W.frozen? ⟨vb, 0, none⟩ = false ∧ W.frozen? { block := vb, off := kA } = false := by
    obtain ⟨t, hb⟩ := hv
    exact ⟨t, 1, by unfold World.shape?; rw [hb]; rfl, by unfold World.frozen?; rw [hb]; rfl, by unfold World.frozen?; rw [hb]; rfl⟩
  have hov : ∀ lb cb, (callFunc 141 #[.slice (some ⟨vb, 0, none⟩) 1 1, .slice (some ⟨g, i + 1, none⟩) lb cb]).run Tryz.prog W = .ok (.value (.bool false)) W := fun lb cb => by
    rw [run_callFunc_extern Tryz.func141 (by kernel_rfl) (by kernel_rfl) (by kernel_rfl) (e := Extern.SlicesOverlaps.overlaps #[82, 82] #[4]) (by kernel_rfl),
      Lib.run_overlaps_apart W 82 4 3 Tryz.underlying82 1 (fun w => by kernel_rfl) ⟨vb, 0, none⟩ ⟨g, i + 1, none⟩ 1 1 lb cb hne tA tB kA kB hsa hsb hkB hfa hfe]
    rfl
  have hsz : (Tryz.prog.info? 3).map (·.size) = some 1 := by kernel_rfl
  have hcs : ∀ j u, (ints l)[j]? = some u → W.cell? ⟨g, j, none⟩ = some u := fun j u hj => h.at' j u hj
  have h1c : ∀ m : List Nat, ∀ u ∈ ints m, u.oneCell' = true := fun m u hu => by
    unfold ints at hu
    obtain ⟨x, _, rfl⟩ := List.mem_map.1 hu
    rfl
  have hdr : (ints l).drop i = ints (l.drop i) := by unfold ints; rw [List.map_drop]
  have hdl : (ints (l.drop i)).length = n - i := by rw [ints_length, List.length_drop, hn]
  have r1 : Row (W.drew.setCells g (i + 1) (ints (l.drop i))) g c (ints (l.take (i + 1) ++ l.drop i)) := (h.drewN 1).setCells (i + 1) (ints (l.drop i)) (by rw [hdl]; omega) _ (by rw [ints_length, List.length_append, List.length_take, List.length_drop]; omega)
    (fun j hj => by
      unfold ints
      rw [List.getElem?_map, List.getElem?_map, List.getElem?_append_right (by rw [List.length_take]; omega), List.length_take, show i + 1 + j - min (i + 1) l.length = j by omega])
    (fun j hj hh => by
      rw [ints_length, List.length_append, List.length_take, List.length_drop] at hj
      rw [hdl] at hh
      have hji : j < i + 1 := by omega
      refine ⟨by rw [hlen]; omega, ?_⟩
      unfold ints
      rw [List.getElem?_map, List.getElem?_map, List.getElem?_append_left (by rw [List.length_take]; omega), List.getElem?_take_of_lt hji])
  have o1 : Only g W (W.drew.setCells g (i + 1) (ints (l.drop i))) := UK.Only.setCells _ _ (Only.refl g W).drew
  have hcp1 : ∀ ty dc sc, (Builtin.copy_ #[82, 82] ty #[.slice (some ⟨g, i + 1, none⟩) (n - i) dc, .slice (some ⟨g, i, none⟩) (n + 1 - i) sc]).run Tryz.prog W.drew = .ok (goInt (ints (l.drop i)).length) (W.drew.setCells g (i + 1) (ints (l.drop i))) := fun ty dc sc =>
    run_copy_cells W.drew _ _ ty 3 g (i + 1) (n - i) dc ⟨g, i, none⟩ (n + 1 - i) sc (ints (l.drop i)) Tryz.underlying82 hsz (by rw [hdl]; simp only [Nat.min_def]; split <;> omega)
      (fun j u hj => by rw [UK.add_mk0]; exact hcs (i + j) u (by rw [← hdr, List.getElem?_drop] at hj; exact hj))
      (fun j hj => (h.there _ (by rw [hdl] at hj; omega)).1) (fun j hj => (h.there _ (by rw [hdl] at hj; omega)).2) (h1c _)
  generalize hW1 : W.drew.setCells g (i + 1) (ints (l.drop i)) = W1 at r1 o1 hcp1
  have hv1 := hv.only o1 hne
  have hcp2 : ∀ ty dc, (Builtin.copy_ #[82, 82] ty #[.slice (some ⟨g, i, none⟩) (n + 1 - i) dc, .slice (some ⟨vb, 0, none⟩) 1 1]).run Tryz.prog W1 = .ok (goInt [Value.int .i64 (v : Int)].length) (W1.setCells g i [Value.int .i64 (v : Int)]) := fun ty dc =>
    run_copy_cells W1 _ _ ty 3 g i (n + 1 - i) dc ⟨vb, 0, none⟩ 1 1 [Value.int .i64 (v : Int)] Tryz.underlying82 hsz (by simp only [Nat.min_def, List.length_singleton]; split <;> omega)
      (fun j u hj => by
        have hj0 : j = 0 := by
          by_cases hc : j < 1
          · omega
          · rw [List.getElem?_eq_none (by simp; omega)] at hj; cases hj
        subst hj0
        rw [UK.add_mk0, Nat.zero_add, hv1.cell 0 _ rfl]; exact hj)
      (fun j hj => (r1.there _ (by simp at hj; omega)).1) (fun j hj => (r1.there _ (by simp at hj; omega)).2) (fun u hu => by
        obtain rfl := List.mem_singleton.1 hu
        rfl)
  have r2 : Row (W1.setCells g i [Value.int .i64 (v : Int)]) g c (ints (l.take i ++ v :: l.drop i)) := r1.setCells i [Value.int .i64 (v : Int)] (by simp; omega) _ (by rw [ints_length, List.length_append, List.length_take, List.length_cons, List.length_drop]; omega)
    (fun j hj => by
      have hj0 : j = 0 := by simpa using hj
      subst hj0
      unfold ints
      rw [List.getElem?_map, List.getElem?_append_right (by rw [List.length_take]; omega), List.length_take, show i + 0 - min i l.length = 0 by omega]; rfl)
    (fun j hj hh => by
      rw [ints_length, List.length_append, List.length_take, List.length_cons, List.length_drop] at hj
      simp only [List.length_singleton] at hh
      refine ⟨by rw [ints_length, List.length_append, List.length_take, List.length_drop]; omega, ?_⟩
      unfold ints
      rw [List.getElem?_map, List.getElem?_map]
      congr 1
      rcases hh with hh | hh
      · rw [List.getElem?_append_left (by rw [List.length_take]; omega), List.getElem?_append_left (by rw [List.length_take]; omega), List.getElem?_take_of_lt hh, List.getElem?_take_of_lt (by omega)]
      · rw [List.getElem?_append_right (by rw [List.length_take]; omega), List.getElem?_append_right (by rw [List.length_take]; omega), List.length_take, List.length_take, show j - min i l.length = (j - (i + 1)) + 1 by omega, List.getElem?_cons_succ, show j - min (i + 1) l.length = j - (i + 1) by omega])
  have o2 : Only g W (W1.setCells g i [Value.int .i64 (v : Int)]) := UK.Only.setCells _ _ o1
  have fin : LaidI W (W1.setCells g i [Value.int .i64 (v : Int)]) (some ⟨g, 0, none⟩) (l.take i ++ v :: l.drop i) (.returned (.slice (some ⟨g, 0, none⟩) (n + 1) c)) :=
    ⟨g, c, by rw [List.length_append, List.length_take, List.length_cons, List.length_drop, show min i l.length + (l.length - i + 1) = n + 1 by omega], r2, o2, .inl rfl⟩
  have HF := Lib.hid fin
  have hz2 : ¬ ((i : Int) = (n : Int)) := by omega
  have hin : i ≤ n := by omega
  have hb3 : (i : Int) ≤ (n : Int) + 1 := by omega
  have hw1 : IntKind.i64.wrap ((i : Int) + 1) = (i : Int) + 1 := by rw [IntKind.wrap_i64]; omega
  have hw2 : IntKind.i64.wrap ((n : Int) + 1) = (n : Int) + 1 := by rw [IntKind.wrap_i64]; omega
  have hb1 : (0 : Int) ≤ (i : Int) + 1 := by omega
  have htn : ((i : Int) + 1).toNat = i + 1 := by omega
  have hb2 : ¬ (c = i + 1) := by omega
  have hb4 : ¬ (c = i) := by omega
  have hb5 : ((n : Int) + 1).toNat = n + 1 := by omega
  have hrm : ¬ ((c : Int) < (n : Int) + 1) := by omega
  rw [← hn] at hl hi hroom ⊢
  clear hn hW1 hlen
  clear fin r1 r2 o1 o2 hv hv1 h hcs h1c hdr hdl hsa hsb hfa hfe hsz
  have H2 := Lib.hid hcp2
  have H1 := Lib.hid hcp1
  clear hcp1 hcp2
  go_enter Tryz.func110, Tryz.ntmps110
  go_wp2_with (simp only [hov])
  go_region_law (refine step_copy_runI rfl _ _ 82 82 rfl (.slice (some ⟨g, i + 1, none⟩) (n - i) (c - (i + 1))) (.slice (some ⟨g, i, none⟩) (n + 1 - i) (c - i)) (by simp [Act.eval, Act.put]) (by simp [Act.eval, Act.put]) (H1.out 3 (c - (i + 1)) (c - i)) ?_)
  have hcp3 := H2.out 3 (c - i)
  go_wp2
  go_ret
  exact HF.out
set_option maxHeartbeats 4000000 in
set_option maxRecDepth 100000 in
theorem insertI_grow {W : World} {g c vb i : Nat} {l : List Nat} (h : Row W g c (ints l)) (hl : l.length ≤ 1000) (hi : i < l.length) (hroom : c < l.length + 1) (v : Nat) (hv : Box W vb #[.int .i64 (v : Int)]) :
    Calls Tryz.prog 110 #[.slice (some ⟨g, 0, none⟩) l.length c, .int .i64 i, .slice (some ⟨vb, 0, none⟩) 1 1] W fun e w' => LaidI W w' (some ⟨g, 0, none⟩) (l.take i ++ v :: l.drop i) e := by
  have hlen := ints_length l
  obtain ⟨n, hn⟩ : ∃ n, n = l.length := ⟨_, rfl⟩
  have hle := h.le
  rw [hlen] at hle
  have hsz : (Tryz.prog.info? 3).map (·.size) = some 1 := by kernel_rfl
  have h1c : ∀ m : List Nat, ∀ u ∈ ints m, u.oneCell' = true := fun m u hu => by
    unfold ints at hu
    obtain ⟨x, _, rfl⟩ := List.mem_map.1 hu
    rfl
  have hdr : (ints l).drop i = ints (l.drop i) := by unfold ints; rw [List.map_drop]
  have htk : (ints l).take i = ints (l.take i) := by unfold ints; rw [List.map_take]
  have hdl : (ints (l.drop i)).length = n - i := by rw [ints_length, List.length_drop, hn]
  have htl : (ints (l.take i)).length = i := by rw [ints_length, List.length_take]; omega
  have r0 := h.take i
  rw [htk] at r0
  obtain ⟨c', W1, e1, r1, b1⟩ := UK.grow_zeros (P := Tryz.prog) (t := 82) (tn := 3) (ty := 82) (k := .i64) (kn := .i64) (i := Tryz.t3) Tryz.underlying82 Tryz.underlying3 rfl rfl rfl (show (8 : Nat) ≤ 16 by omega) rfl r0 (n + 1 - i) (by omega) (by rw [htl]; omega) (by rw [htl]; omega)
  rw [htl, show i + (n + 1 - i) = n + 1 by omega, show ((n + 1 - i : Nat) : Int) = (n : Int) + 1 - (i : Int) by omega] at e1
  have hb01 : Below W.heap.size W W1 := b1
  have rl1 : (ints (l.take i) ++ List.replicate (n + 1 - i) (Value.int .i64 0)).length = n + 1 := by rw [List.length_append, htl, List.length_replicate]; omega
  have hc1 : n + 1 ≤ c' := by have := r1.le; omega
  have hv1 := hv.below hb01 hv.lt
  have hcp1 : ∀ ty dc, (Builtin.copy_ #[82, 82] ty #[.slice (some ⟨W.heap.size, i, none⟩) (n + 1 - i) dc, .slice (some ⟨vb, 0, none⟩) 1 1]).run Tryz.prog W1 = .ok (goInt [Value.int .i64 (v : Int)].length) (W1.setCells W.heap.size i [Value.int .i64 (v : Int)]) := fun ty dc =>
    run_copy_cells W1 _ _ ty 3 W.heap.size i (n + 1 - i) dc ⟨vb, 0, none⟩ 1 1 [Value.int .i64 (v : Int)] Tryz.underlying82 hsz (by simp only [Nat.min_def, List.length_singleton]; split <;> omega)
      (fun j u hj => by
        have hj0 : j = 0 := by
          by_cases hc : j < 1
          · omega
          · rw [List.getElem?_eq_none (by simp; omega)] at hj; cases hj
        subst hj0
        rw [UK.add_mk0, Nat.zero_add, hv1.cell 0 _ rfl]; exact hj)
      (fun j hj => (r1.there _ (by simp at hj; omega)).1) (fun j hj => (r1.there _ (by simp at hj; omega)).2) (fun u hu => by
        obtain rfl := List.mem_singleton.1 hu
        rfl)
  have r2 : Row (W1.setCells W.heap.size i [Value.int .i64 (v : Int)]) W.heap.size c' (ints (l.take i) ++ Value.int .i64 (v : Int) :: List.replicate (n - i) (Value.int .i64 0)) := r1.setCells i [Value.int .i64 (v : Int)] (by simp; omega) _ (by rw [List.length_append, htl, List.length_cons, List.length_replicate]; omega)
    (fun j hj => by
      have hj0 : j = 0 := by simpa using hj
      subst hj0
      rw [List.getElem?_append_right (by rw [htl]; omega), htl, show i + 0 - i = 0 by omega]; rfl)
    (fun j hj hh => by
      rw [List.length_append, htl, List.length_cons, List.length_replicate] at hj
      simp only [List.length_singleton] at hh
      refine ⟨by rw [rl1]; omega, ?_⟩
      rcases hh with hh | hh
      · rw [List.getElem?_append_left (by rw [htl]; omega), List.getElem?_append_left (by rw [htl]; omega)]
      · rw [List.getElem?_append_right (by rw [htl]; omega), List.getElem?_append_right (by rw [htl]; omega), htl, show j - i = (j - (i + 1)) + 1 by omega, List.getElem?_cons_succ, show n + 1 - i = (n - i) + 1 by omega, List.replicate_succ, List.getElem?_cons_succ])
  have b2 : Below W.heap.size W (W1.setCells W.heap.size i [Value.int .i64 (v : Int)]) := hb01.trans ((UK.Only.setCells _ _ (Only.refl W.heap.size W1)).below hb01.size (Nat.le_refl _))
  generalize hW2 : W1.setCells W.heap.size i [Value.int .i64 (v : Int)] = W2 at r2 b2 hcp1
  have h2 := h.below b2 h.lt
  have hcp2 : ∀ ty dc sc, (Builtin.copy_ #[82, 82] ty #[.slice (some ⟨W.heap.size, i + 1, none⟩) (n - i) dc, .slice (some ⟨g, i, none⟩) (n - i) sc]).run Tryz.prog W2.drew = .ok (goInt (ints (l.drop i)).length) (W2.drew.setCells W.heap.size (i + 1) (ints (l.drop i))) := fun ty dc sc =>
    run_copy_cells W2.drew _ _ ty 3 W.heap.size (i + 1) (n - i) dc ⟨g, i, none⟩ (n - i) sc (ints (l.drop i)) Tryz.underlying82 hsz (by rw [hdl]; simp only [Nat.min_def]; split <;> omega)
      (fun j u hj => by rw [UK.add_mk0]; exact h2.at' (i + j) u (by rw [← hdr, List.getElem?_drop] at hj; exact hj))
      (fun j hj => (r2.there _ (by rw [hdl] at hj; omega)).1) (fun j hj => (r2.there _ (by rw [hdl] at hj; omega)).2) (h1c _)
  have ef : ints (l.take i ++ v :: l.drop i) = ints (l.take i) ++ Value.int .i64 (v : Int) :: ints (l.drop i) := by unfold ints; rw [List.map_append, List.map_cons]
  have r3 : Row (W2.drew.setCells W.heap.size (i + 1) (ints (l.drop i))) W.heap.size c' (ints (l.take i ++ v :: l.drop i)) := by
    rw [ef]
    refine (r2.drewN 1).setCells (i + 1) (ints (l.drop i)) (by rw [hdl]; omega) _ (by rw [List.length_append, htl, List.length_cons, hdl]; omega) (fun j hj => ?_) (fun j hj hh => ?_)
    · rw [List.getElem?_append_right (by rw [htl]; omega), htl, show i + 1 + j - i = j + 1 by omega, List.getElem?_cons_succ]
    · rw [List.length_append, htl, List.length_cons, hdl] at hj
      rw [hdl] at hh
      have hji : j < i + 1 := by omega
      refine ⟨by rw [List.length_append, htl, List.length_cons, List.length_replicate]; omega, ?_⟩
      by_cases e : j = i
      · subst e
        rw [List.getElem?_append_right (by rw [htl]; omega), List.getElem?_append_right (by rw [htl]; omega), htl, Nat.sub_self]; rfl
      · rw [List.getElem?_append_left (by rw [htl]; omega), List.getElem?_append_left (by rw [htl]; omega)]
  have b3 : Below W.heap.size W (W2.drew.setCells W.heap.size (i + 1) (ints (l.drop i))) := b2.trans ((UK.Only.setCells _ _ (Only.refl W.heap.size W2).drew).below b2.size (Nat.le_refl _))
  have fin : LaidI W (W2.drew.setCells W.heap.size (i + 1) (ints (l.drop i))) (some ⟨g, 0, none⟩) (l.take i ++ v :: l.drop i) (.returned (.slice (some ⟨W.heap.size, 0, none⟩) (n + 1) c')) :=
    ⟨W.heap.size, c', by rw [List.length_append, List.length_take, List.length_cons, List.length_drop, show min i l.length + (l.length - i + 1) = n + 1 by omega], r3, Only.of_below b3, .inr (Nat.le_refl _)⟩
  have HF := Lib.hid fin
  have E1 := Lib.hid e1
  have H1 := Lib.hid hcp1
  have H2 := Lib.hid hcp2
  have hz2 : ¬ ((i : Int) = (n : Int)) := by omega
  have hin : i ≤ n := by omega
  have hb3 : (i : Int) ≤ (n : Int) + 1 := by omega
  have hw1 : IntKind.i64.wrap ((i : Int) + 1) = (i : Int) + 1 := by rw [IntKind.wrap_i64]; omega
  have hw2 : IntKind.i64.wrap ((n : Int) + 1) = (n : Int) + 1 := by rw [IntKind.wrap_i64]; omega
  have hw3 : IntKind.i64.wrap ((n : Int) + 1 - (i : Int)) = (n : Int) + 1 - (i : Int) := by rw [IntKind.wrap_i64]; omega
  have hb1 : (0 : Int) ≤ (i : Int) + 1 := by omega
  have htn : ((i : Int) + 1).toNat = i + 1 := by omega
  have hb2 : ¬ (c' = i + 1) := by omega
  have hb4 : ¬ (c = i) := by omega
  have hb5 : ¬ (c' = i) := by omega
  have hrm : (c : Int) < (n : Int) + 1 := by omega
  have hic : (i : Int) ≤ (c : Int) := by omega
  rw [← hn] at hl hi hroom hle ⊢
  clear fin r0 r1 r2 r3 b1 b2 b3 hb01 hv hv1 h h2 h1c hdr htk hdl htl hsz e1 hcp1 hcp2 hn hlen ef rl1 hW2
  go_enter Tryz.func110, Tryz.ntmps110
  have hcp3 := H1.out 3 (c' - i)
  go_wp2_with (at_builtin; refine UK.wpList_append_run E1.out rfl rfl rfl rfl rfl ?_)
  go_region_law (refine step_copy_runI rfl _ _ 82 82 rfl (.slice (some ⟨W.heap.size, i + 1, none⟩) (n - i) (c' - (i + 1))) (.slice (some ⟨g, i, none⟩) (n - i) (c - i)) (by simp [Act.eval, Act.put]) (by simp [Act.eval, Act.put]) (H2.out 3 (c' - (i + 1)) (c - i)) ?_)
  go_wp2
  go_ret
  exact HF.out
theorem insertI_any {W : World} {ao : Option Addr} {c vb i : Nat} {l : List Nat} (h : NR W ao c (ints l)) (hl : l.length ≤ 1000) (hi : i ≤ l.length) (v : Nat) (hv : Box W vb #[.int .i64 (v : Int)]) (hne : ¬ slB ao vb) :
    Calls Tryz.prog 110 #[.slice ao l.length c, .int .i64 i, .slice (some ⟨vb, 0, none⟩) 1 1] W fun e w' => LaidI W w' ao (l.take i ++ v :: l.drop i) e := by
  by_cases e : i = l.length
  · subst e
    rw [List.take_length, List.drop_length]
    exact insertI_end h hl v hv
  · rcases h with ⟨_, h0, _⟩ | ⟨g, rfl, r⟩
    · have := congrArg List.length h0
      rw [ints_length] at this
      have : l.length = 0 := this
      omega
    · by_cases hr : l.length + 1 ≤ c
      · exact insertI_shift r hl (by omega) hr v hv (fun e => hne (by rw [e]; rfl))
      · exact insertI_grow r hl (by omega) (by omega) v hv

set_option maxHeartbeats 4000000 in
set_option maxRecDepth 100000 in
theorem deleteI_any {W : World} {g c i : Nat} {l : List Nat} (h : Row W g c (ints l)) (hl : l.length ≤ 1000) (hi : i < l.length) :
    Calls Tryz.prog 146 #[.slice (some ⟨g, 0, none⟩) l.length c, .int .i64 i, .int .i64 ((i : Int) + 1)] W fun e w' => e = .returned (.slice (some ⟨g, 0, none⟩) (l.length - 1) c) ∧ Row w' g c (ints (l.take i ++ l.drop (i + 1))) ∧ Only g W w' := by
  have hlen := ints_length l
  have hle := h.le
  rw [hlen] at hle
  obtain ⟨n, hn⟩ : ∃ n, n = l.length := ⟨_, rfl⟩
  have hz2 : ¬ ((i : Int) = (i : Int) + 1) := by omega
  have hb2 : ¬ (c = i) := by omega
  have htn : ((i : Int) + 1).toNat = i + 1 := by omega
  have hb1 : (0 : Int) ≤ (i : Int) + 1 := by omega
  have hin : (i : Int) + 1 ≤ (n : Int) := by omega
  have hic : i ≤ c := by omega
  have hin3 : i + 1 ≤ n := by omega
  have hsz : (Tryz.prog.info? 3).map (·.size) = some 1 := by kernel_rfl
  have h1c : ∀ m : List Nat, ∀ u ∈ ints m, u.oneCell' = true := fun m u hu => by
    unfold ints at hu
    obtain ⟨x, _, rfl⟩ := List.mem_map.1 hu
    rfl
  have hdr : (ints l).drop (i + 1) = ints (l.drop (i + 1)) := by unfold ints; rw [List.map_drop]
  have hdl : (ints (l.drop (i + 1))).length = n - (i + 1) := by rw [ints_length, List.length_drop, hn]
  have h0 := h.drewN 1
  have happ : ∀ ao, (ao = (⟨g, i + 1, none⟩ : Addr) ∨ i + 1 = n) → ∀ sc, (Builtin.append_ #[82, 82] 82 #[.slice (some ⟨g, 0, none⟩) i c, .slice (some ao) (n - (i + 1)) sc]).run Tryz.prog W.drew = .ok (.slice (some ⟨g, 0, none⟩) (n - 1) c) (W.drew.setCells g i (ints (l.drop (i + 1)))) := fun ao hao sc => by
    have hs : Src Tryz.prog 1 82 (.slice (some ao) (n - (i + 1)) sc) (n - (i + 1)) (ints (l.drop (i + 1))) W.drew := Src.ofSlice W.drew Tryz.underlying82 ao (n - (i + 1)) sc _ (by rw [hdl, Nat.mul_one]) (fun j u hj => by
      rcases hao with rfl | e
      · rw [UK.add_mk0]
        exact h0.at' (i + 1 + j) u (by rw [← hdr, List.getElem?_drop] at hj; exact hj)
      · have : j < (ints (l.drop (i + 1))).length := (List.getElem?_eq_some_iff.1 hj).1
        rw [hdl] at this; omega) (h1c _)
    have hr := run_append_room_src (P := Tryz.prog) W.drew 82 82 82 3 Tryz.t3 Tryz.underlying82 rfl g 0 i c _ _ _ hs (by omega) (fun j hj => (h0.there _ (by rw [hdl] at hj; show 0 + i * 1 + j < c; omega)).1) (fun j hj => (h0.there _ (by rw [hdl] at hj; show 0 + i * 1 + j < c; omega)).2)
    rw [show i + (n - (i + 1)) = n - 1 by omega, show 0 + i * Tryz.t3.size = i by show 0 + i * 1 = i; omega] at hr
    exact hr
  have r1 : Row (W.drew.setCells g i (ints (l.drop (i + 1)))) g c (ints (l.take i ++ l.drop (i + 1)) ++ (ints l).drop (n - 1)) := h0.setCells i (ints (l.drop (i + 1))) (by rw [hdl]; omega) _ (by rw [List.length_append, ints_length, List.length_append, List.length_take, List.length_drop, List.length_drop, hlen]; omega)
    (fun j hj => by
      rw [hdl] at hj
      rw [List.getElem?_append_left (by rw [ints_length, List.length_append, List.length_take, List.length_drop]; omega)]
      unfold ints
      rw [List.getElem?_map, List.getElem?_map, List.getElem?_append_right (by rw [List.length_take]; omega), List.length_take, show i + j - min i l.length = j by omega])
    (fun j hj hh => by
      rw [List.length_append, ints_length, List.length_append, List.length_take, List.length_drop, List.length_drop, hlen] at hj
      rw [hdl] at hh
      refine ⟨by rw [hlen]; omega, ?_⟩
      rcases hh with hh | hh
      · rw [List.getElem?_append_left (by rw [ints_length, List.length_append, List.length_take, List.length_drop]; omega)]
        unfold ints
        rw [List.getElem?_map, List.getElem?_map, List.getElem?_append_left (by rw [List.length_take]; omega), List.getElem?_take_of_lt hh]
      · rw [List.getElem?_append_right (by rw [ints_length, List.length_append, List.length_take, List.length_drop]; omega), ints_length, List.length_append, List.length_take, List.length_drop, List.getElem?_drop]
        congr 1
        omega)
  have o1 : Only g W (W.drew.setCells g i (ints (l.drop (i + 1)))) := UK.Only.setCells _ _ (Only.refl g W).drew
  generalize hW1 : W.drew.setCells g i (ints (l.drop (i + 1))) = W1 at r1 o1 happ
  have hclr : (Builtin.clear_ #[82] 0 #[.slice (some ⟨g, n - 1, none⟩) 1 (c - (n - 1))]).run Tryz.prog W1 = .ok (.tuple #[]) (W1.setCells g (n - 1) (List.replicate 1 (Value.int .i64 0))) := Lib.run_clear_slice (P := Tryz.prog) W1 82 3 0 (.int .i64 0) Tryz.underlying82 (fun w => by kernel_rfl) rfl rfl g (n - 1) 1 (c - (n - 1)) (by omega) (fun j hj => (r1.there _ (by omega)).1) (fun j hj => (r1.there _ (by omega)).2)
  have fin : Row (W1.setCells g (n - 1) (List.replicate 1 (Value.int .i64 0))) g c (ints (l.take i ++ l.drop (i + 1))) ∧ Only g W (W1.setCells g (n - 1) (List.replicate 1 (Value.int .i64 0))) := by
    have hlf : (ints (l.take i ++ l.drop (i + 1))).length = n - 1 := by rw [ints_length, List.length_append, List.length_take, List.length_drop]; omega
    have rk : Row (W1.setCells g (n - 1) (List.replicate 1 (Value.int .i64 0))) g c (ints (l.take i ++ l.drop (i + 1)) ++ [Value.int .i64 0]) := r1.setCells (n - 1) (List.replicate 1 (Value.int .i64 0)) (by rw [List.length_replicate]; omega) _ (by rw [List.length_append, hlf]; simp; omega) (fun j hj => by
      have hj0 : j = 0 := by simpa using hj
      subst hj0
      rw [List.getElem?_append_right (by rw [hlf]; omega), hlf, show n - 1 + 0 - (n - 1) = 0 by omega]; rfl) (fun j hj hh => by
      rw [List.length_append, hlf] at hj
      simp only [List.length_replicate, List.length_singleton] at hj hh
      refine ⟨by rw [List.length_append, hlf]; omega, ?_⟩
      rw [List.getElem?_append_left (by rw [hlf]; omega), List.getElem?_append_left (by rw [hlf]; omega)])
    have rt := rk.take (n - 1)
    rw [List.take_append, List.take_of_length_le (by rw [hlf]; omega), hlf, Nat.sub_self, List.take_zero, List.append_nil] at rt
    exact ⟨rt, UK.Only.setCells _ _ o1⟩
  have HF := Lib.hid fin
  have HA := Lib.hid happ
  clear fin r1 o1 h0 hdr hdl h1c hsz happ h hW1
  rw [← hn] at hl hi hle ⊢
  clear hn hlen
  have hn1 : n - (n - 1) = 1 := by omega
  have hz3 : ((i : Int) == (i : Int) + 1) = false := beq_eq_false_iff_ne.2 hz2
  have hce2 : ¬ (c = n - 1) := by omega
  have hnn : ((n - 1 : Nat) : Int) ≤ (n : Int) := by omega
  by_cases hce : c = i + 1
  · obtain rfl : n = i + 1 := by omega
    subst hce
    have e1 : (Builtin.append_ #[82, 82] 82 #[.slice (some ⟨g, 0, none⟩) i (i + 1), .slice (some ⟨g, 0, none⟩) 0 0]).run Tryz.prog W.drew = .ok (.slice (some ⟨g, 0, none⟩) i (i + 1)) W1 := by
      have := HA.out ⟨g, 0, none⟩ (.inr rfl) 0
      rw [Nat.sub_self, Nat.add_sub_cancel] at this
      exact this
    rw [Nat.add_sub_cancel, Nat.add_sub_cancel_left] at hclr
    rw [Nat.add_sub_cancel] at HF ⊢
    have E1 := Lib.hid e1
    have hce3 : ¬ (i + 1 = i) := by omega
    clear HA e1 hn1 hce2 hnn hin hic hin3 hi hle hz2
    have hii : (i : Int) ≤ (i : Int) + 1 := by omega
    go_enter Tryz.func146, Tryz.ntmps146
    go_wp2_with fail
    go_region_law (refine UK.step_append_run E1.out rfl rfl rfl (by simp [Act.eval, Act.put]) (by simp [Act.eval, Act.put]) ?_)
    go_wp2
    go_ret
    exact ⟨rfl, HF.out⟩
  · go_enter Tryz.func146, Tryz.ntmps146
    go_wp2_with fail
    go_region_law (refine UK.step_append_run (HA.out ⟨g, i + 1, none⟩ (.inl rfl) (c - (i + 1))) rfl rfl rfl (by simp [Act.eval, Act.put]) (by simp [Act.eval, Act.put]) ?_)
    go_wp2
    go_ret
    exact ⟨rfl, HF.out⟩

end Go.Proofs.YtfljlcfmdcepnaaGreatDoor
