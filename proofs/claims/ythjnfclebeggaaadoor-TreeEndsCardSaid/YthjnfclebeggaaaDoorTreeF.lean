/-
  slices.Insert of one number.
-/
import Derived.Test.YthjnfclebeggaaaDoorTreeE
import Derived.Shelf.Spec.SlicesInsert
namespace Go.Proofs.YthjnfclebeggaaaDoor
open Go.RowKit
open UK (str BytesAt nth Only Row Box w32)
open Go.BigFrame
namespace UK
/-- append(x, make([]T, m)...) where there is no room -/
theorem grow_zeros {P : Program} {t tn ty e : TypeId} {i : TypeInfo} {z : Value} {k kn : IntKind} (ht : P.underlying t = some (.slice e)) (htn : P.underlying tn = some (.int kn)) (hi : P.info? e = some i) (hz : i.zero = some z) (hs1 : i.size = 1) (h16 : i.bytes ≤ 16) (hzc : z.cells = #[z])
    {W : World} {g c : Nat} {vs : List Value} (h : Row W g c vs) (n : Nat) (h0 : 0 < n) (hg : c < vs.length + n) (hlen : vs.length + n ≤ 1000000000) :
    ∃ c' W', (Builtin.append_ #[t, tn] ty #[.slice (some ⟨g, 0, none⟩) vs.length c, .int k n]).run P W = .ok (.slice (some ⟨W.heap.size, 0, none⟩) (vs.length + n) c') W' ∧ Row W' W.heap.size c' (vs ++ List.replicate n z) ∧ Below W.heap.size W W' := by
  have hn : n ≠ 0 := by omega
  have hw : IntKind.i64.wrap (n : Int) = n := by rw [IntKind.wrap_i64]; omega
  have h63' : ¬ (9223372036854775807 < ((vs.length : Int) + (n : Int))) := by omega
  have hb16 : n * i.bytes ≤ n * 16 := Nat.mul_le_mul_left n h16
  have h48i : ¬ (281474976710656 < (n : Int) * (i.bytes : Int)) := by
    rw [← Int.natCast_mul]; omega
  have hneg : ¬ ((n : Int) < 0) := by omega
  have hf : ¬ (vs.length + n ≤ c) := by omega
  have h48' : ¬ (281474976710656 < Builtin.nextslicecap (vs.length + n) c * i.bytes) := by
    have hfit : (vs.length + n) * i.bytes ≤ 140737488355328 := Nat.le_trans (Nat.mul_le_mul hlen h16) (by decide)
    have := growslice_fits (show c < vs.length + n by omega) hfit
    omega
  have hold : (Builtin.firstCells 1 vs.length (.slice (some ⟨g, 0, none⟩) vs.length c)).run P W.drew = .ok vs.toArray W.drew :=
    run_firstCells_some W.drew 1 vs.length ⟨g, 0, none⟩ vs.length c vs (by rw [Nat.mul_one]) (fun j v hj => by
      have hjl : j < vs.length := (List.getElem?_eq_some_iff.1 hj).1
      rw [add_mk0, Nat.zero_add]
      exact (h.holds j hjl).trans hj)
  have hge := grownCap_ge W (vs.length + n) c e
  have hrep : ∀ m, Builtin.zeroCells #[z] m = (List.replicate m z).toArray := fun m => by
    apply Array.ext'
    apply List.ext_getElem?
    intro j
    by_cases hj : j < m
    · simp [Builtin.zeroCells, hj, Nat.mod_one]
    · simp [Builtin.zeroCells, hj]
  have hcells : vs.toArray ++ ((List.replicate n z).toArray ++ (List.replicate (grownCap W (vs.length + n) c e - (vs.length + n)) z).toArray) = (vs ++ List.replicate (grownCap W (vs.length + n) c e - vs.length) z).toArray := by
    apply Array.ext'
    rw [Array.toList_append, Array.toList_append]
    simp only [List.replicate_append_replicate]
    rw [show n + (grownCap W (vs.length + n) c e - (vs.length + n)) = grownCap W (vs.length + n) c e - vs.length by omega]
  have hb := Box.new W.drew (vs ++ List.replicate (grownCap W (vs.length + n) c e - vs.length) z).toArray e
  refine ⟨grownCap W (vs.length + n) c e, W.drew.alloc (.cells (vs ++ List.replicate (grownCap W (vs.length + n) c e - vs.length) z).toArray e), ?_, ?_, (Below.refl W.heap.size W).drew.alloc (Nat.le_refl _) _⟩
  · rw [← hcells, ← hrep, ← hrep]
    unfold grownCap at *
    simp [Builtin.append_, run_underlying ht, run_underlying htn, sizeOf, typeInfo, zeroValue, hi, hz, hzc, hs1, asInt, asIntOf, hw, hn, hneg, h48i, hf, h63', h48', Question.forced, hold, newRow]
  · have hr := hb.row
    have hsz : (vs ++ List.replicate (grownCap W (vs.length + n) c e - vs.length) z).toArray.size = grownCap W (vs.length + n) c e := by
      rw [List.size_toArray, List.length_append, List.length_replicate]; omega
    rw [hsz] at hr
    have := hr.take (vs.length + n)
    have e1 : (vs ++ List.replicate (grownCap W (vs.length + n) c e - vs.length) z).toArray.toList.take (vs.length + n) = vs ++ List.replicate n z := by
      show (vs ++ List.replicate (grownCap W (vs.length + n) c e - vs.length) z).take (vs.length + n) = _
      rw [List.take_append, List.take_of_length_le (by omega), show vs.length + n - vs.length = n by omega, List.take_replicate, Nat.min_eq_left (by omega)]
    rw [e1] at this
    exact this
end UK
/-- what 'append' made, or wrote -/
def Laid1 (W w' : World) (ao : Option Addr) (l : List UInt64) (e : Ending) : Prop :=
  ∃ g' c', e = .returned (.slice (some ⟨g', 0, none⟩) l.length c') ∧ Row w' g' c' (u64s l) ∧ UK.Only g' W w' ∧ (slB ao g' ∨ W.heap.size ≤ g')
theorem Row.shape {W : World} {g c : Nat} {vs : List Value} (h : Row W g c vs) (hc : 0 < c) : ∃ t k, W.shape? g = some (t, k) ∧ k ≠ 0 := by
  have h0 := (h.there 0 hc).1
  unfold World.cell? at h0
  unfold World.shape?
  cases hg : W.heap[g]? with
  | none => simp only [hg] at h0; cases h0
  | some o =>
    simp only [hg] at h0
    cases o with
    | cells cs t fr =>
      refine ⟨t, cs.size, rfl, fun e => ?_⟩
      simp only at h0
      rw [Array.getElem?_eq_none (by omega)] at h0
      simp at h0
    | _ => simp at h0
set_option maxHeartbeats 4000000 in
set_option maxRecDepth 100000 in
theorem insert_end {W : World} {ao : Option Addr} {c vb : Nat} {l : List UInt64} (h : NR W ao c (u64s l)) (hl : l.length ≤ 1000) (v : UInt64) (hv : Box W vb #[.int .u64 (v.toNat : Int)]) :
    Calls Tryd.prog 119 #[.slice ao l.length c, .int .i64 l.length, .slice (some ⟨vb, 0, none⟩) 1 1] W fun e w' => Laid1 W w' ao (l ++ [v]) e := by
  have hlen := u64s_length l
  obtain ⟨g', c', W', e, r, o⟩ := UK.push_row (P := Tryd.prog) (t := 123) (tx := 123) (ty := 123) Tryd.underlying123 (i := Tryd.t42) rfl rfl rfl (show (8 : Nat) ≤ 16 by omega) rfl h (x := .slice (some ⟨vb, 0, none⟩) 1 1) (m := [.int .u64 (v.toNat : Int)]) (by simp) (Src.ofSlice W Tryd.underlying123 ⟨vb, 0, none⟩ 1 1 _ rfl (fun j u hj => by
      have hj0 : j = 0 := by
        by_cases hc : j < 1
        · omega
        · rw [List.getElem?_eq_none (by simp; omega)] at hj; cases hj
      subst hj0
      rw [UK.add_mk0, Nat.zero_add, hv.cell 0 _ rfl]
      exact hj) (fun u hu => by
        obtain rfl := List.mem_singleton.1 hu
        rfl)) (by rw [hlen]; simp; omega)
  rw [List.length_append, hlen] at e
  have el : (u64s l ++ [.int .u64 (v.toNat : Int)]) = u64s (l ++ [v]) := by unfold u64s; rw [List.map_append]; rfl
  rw [el] at r
  have HF : Hid (∃ g' c', (Value.slice (some ⟨g', 0, none⟩) (l.length + 1) c' = Value.slice (some ⟨g', 0, none⟩) (l.length + 1) c') ∧ True) := ⟨0, 0, rfl, trivial⟩
  have HR := Lib.hid (And.intro r o)
  replace e : (Builtin.append_ #[123, 123] 123 #[.slice ao l.length c, .slice (some ⟨vb, 0, none⟩) 1 1]).run Tryd.prog W = .ok (.slice (some ⟨g', 0, none⟩) (l.length + 1) c') W' := e
  clear r o hv el HF
  have fin : Laid1 W W' ao (l ++ [v]) (.returned (.slice (some ⟨g', 0, none⟩) (l.length + 1) c')) := by
    refine ⟨g', c', by rw [List.length_append]; rfl, HR.out.1, ?_⟩
    rcases HR.out.2 with ⟨a, b⟩ | ⟨a, b⟩
    · exact ⟨b, .inl a⟩
    · exact ⟨Only.of_below b, .inr (by omega)⟩
  have HF := Lib.hid fin
  clear fin HR
  rcases h with ⟨rfl, hn, rfl⟩ | ⟨g, rfl, r⟩
  · have hl0 : l = [] := by
      have := congrArg List.length hn
      rw [hlen] at this
      exact List.length_eq_zero_iff.1 this
    subst hl0
    clear hn hlen
    go_enter Tryd.func119, Tryd.ntmps119
    go_wp2_with (at_builtin; refine UK.wpList_append_run e rfl rfl rfl rfl rfl ?_)
    go_ret
    exact HF.out
  · have hle := r.le
    rw [hlen] at hle
    clear r hlen
    go_enter Tryd.func119, Tryd.ntmps119
    go_wp2_with (at_builtin; refine UK.wpList_append_run e rfl rfl rfl rfl rfl ?_)
    all_goals
      go_ret
      exact HF.out
set_option maxHeartbeats 4000000 in
set_option maxRecDepth 100000 in
/-- there is room: the numbers behind the place move on by one -/
theorem insert_shift {W : World} {g c vb i : Nat} {l : List UInt64} (h : Row W g c (u64s l)) (hl : l.length ≤ 1000) (hi : i < l.length) (hroom : l.length + 1 ≤ c) (v : UInt64) (hv : Box W vb #[.int .u64 (v.toNat : Int)]) (hne : vb ≠ g) :
    Calls Tryd.prog 119 #[.slice (some ⟨g, 0, none⟩) l.length c, .int .i64 i, .slice (some ⟨vb, 0, none⟩) 1 1] W fun e w' => Laid1 W w' (some ⟨g, 0, none⟩) (l.take i ++ v :: l.drop i) e := by
  have hlen := u64s_length l
  obtain ⟨n, hn⟩ : ∃ n, n = l.length := ⟨_, rfl⟩
  obtain ⟨tB, kB, hsb, hkB⟩ := Row.shape h (by omega)
  obtain ⟨tA, kA, hsa, hfa, hfe⟩ : ∃ tA kA, W.shape? vb = some (tA, kA) ∧ W.frozen? ⟨vb, 0, none⟩ = false ∧ W.frozen? { block := vb, off := kA } = false := by
    obtain ⟨t, hb⟩ := hv
    exact ⟨t, 1, by unfold World.shape?; rw [hb]; rfl, by unfold World.frozen?; rw [hb]; rfl, by unfold World.frozen?; rw [hb]; rfl⟩
  have hov : ∀ lb cb, (callFunc 137 #[.slice (some ⟨vb, 0, none⟩) 1 1, .slice (some ⟨g, i + 1, none⟩) lb cb]).run Tryd.prog W = .ok (.value (.bool false)) W := fun lb cb => by
    rw [run_callFunc_extern Tryd.func137 (by kernel_rfl) (by kernel_rfl) (by kernel_rfl) (e := Extern.SlicesOverlaps.overlaps #[123, 123] #[4]) (by kernel_rfl),
      Lib.run_overlaps_apart W 123 4 42 Tryd.underlying123 1 (fun w => by kernel_rfl) ⟨vb, 0, none⟩ ⟨g, i + 1, none⟩ 1 1 lb cb hne tA tB kA kB hsa hsb hkB hfa hfe]
    rfl
  have hsz : (Tryd.prog.info? 42).map (·.size) = some 1 := by kernel_rfl
  have hcs : ∀ j u, (u64s l)[j]? = some u → W.cell? ⟨g, j, none⟩ = some u := fun j u hj => h.at' j u hj
  have h1c : ∀ m : List UInt64, ∀ u ∈ u64s m, u.oneCell' = true := fun m u hu => by
    unfold u64s at hu
    obtain ⟨x, _, rfl⟩ := List.mem_map.1 hu
    rfl
  have hdr : (u64s l).drop i = u64s (l.drop i) := by unfold u64s; rw [List.map_drop]
  have hdl : (u64s (l.drop i)).length = n - i := by rw [u64s_length, List.length_drop, hn]
  have r1 : Row (W.drew.setCells g (i + 1) (u64s (l.drop i))) g c (u64s (l.take (i + 1) ++ l.drop i)) := (h.drewN 1).setCells (i + 1) (u64s (l.drop i)) (by rw [hdl]; omega) _ (by rw [u64s_length, List.length_append, List.length_take, List.length_drop]; omega)
    (fun j hj => by
      unfold u64s
      rw [List.getElem?_map, List.getElem?_map, List.getElem?_append_right (by rw [List.length_take]; omega), List.length_take, show i + 1 + j - min (i + 1) l.length = j by omega])
    (fun j hj hh => by
      rw [u64s_length, List.length_append, List.length_take, List.length_drop] at hj
      rw [hdl] at hh
      have hji : j < i + 1 := by omega
      refine ⟨by rw [hlen]; omega, ?_⟩
      unfold u64s
      rw [List.getElem?_map, List.getElem?_map, List.getElem?_append_left (by rw [List.length_take]; omega), List.getElem?_take_of_lt hji])
  have o1 : Only g W (W.drew.setCells g (i + 1) (u64s (l.drop i))) := UK.Only.setCells _ _ (Only.refl g W).drew
  have hcp1 : ∀ ty dc sc, (Builtin.copy_ #[123, 123] ty #[.slice (some ⟨g, i + 1, none⟩) (n - i) dc, .slice (some ⟨g, i, none⟩) (n + 1 - i) sc]).run Tryd.prog W.drew = .ok (goInt (u64s (l.drop i)).length) (W.drew.setCells g (i + 1) (u64s (l.drop i))) := fun ty dc sc =>
    run_copy_cells W.drew _ _ ty 42 g (i + 1) (n - i) dc ⟨g, i, none⟩ (n + 1 - i) sc (u64s (l.drop i)) Tryd.underlying123 hsz (by rw [hdl]; simp only [Nat.min_def]; split <;> omega)
      (fun j u hj => by rw [UK.add_mk0]; exact hcs (i + j) u (by rw [← hdr, List.getElem?_drop] at hj; exact hj))
      (fun j hj => (h.there _ (by rw [hdl] at hj; omega)).1) (fun j hj => (h.there _ (by rw [hdl] at hj; omega)).2) (h1c _)
  generalize hW1 : W.drew.setCells g (i + 1) (u64s (l.drop i)) = W1 at r1 o1 hcp1
  have hv1 := hv.only o1 hne
  have hcp2 : ∀ ty dc, (Builtin.copy_ #[123, 123] ty #[.slice (some ⟨g, i, none⟩) (n + 1 - i) dc, .slice (some ⟨vb, 0, none⟩) 1 1]).run Tryd.prog W1 = .ok (goInt [Value.int .u64 (v.toNat : Int)].length) (W1.setCells g i [Value.int .u64 (v.toNat : Int)]) := fun ty dc =>
    run_copy_cells W1 _ _ ty 42 g i (n + 1 - i) dc ⟨vb, 0, none⟩ 1 1 [Value.int .u64 (v.toNat : Int)] Tryd.underlying123 hsz (by simp only [Nat.min_def, List.length_singleton]; split <;> omega)
      (fun j u hj => by
        have hj0 : j = 0 := by
          by_cases hc : j < 1
          · omega
          · rw [List.getElem?_eq_none (by simp; omega)] at hj; cases hj
        subst hj0
        rw [UK.add_mk0, Nat.zero_add, hv1.cell 0 _ rfl]; exact hj)
      (fun j hj => (r1.there _ (by simp at hj; omega)).1) (fun j hj => (r1.there _ (by simp at hj; omega)).2) (fun u hu => by
        obtain rfl := List.mem_singleton.1 hu
        rfl)
  have r2 : Row (W1.setCells g i [Value.int .u64 (v.toNat : Int)]) g c (u64s (l.take i ++ v :: l.drop i)) := r1.setCells i [Value.int .u64 (v.toNat : Int)] (by simp; omega) _ (by rw [u64s_length, List.length_append, List.length_take, List.length_cons, List.length_drop]; omega)
    (fun j hj => by
      have hj0 : j = 0 := by simpa using hj
      subst hj0
      unfold u64s
      rw [List.getElem?_map, List.getElem?_append_right (by rw [List.length_take]; omega), List.length_take, show i + 0 - min i l.length = 0 by omega]; rfl)
    (fun j hj hh => by
      rw [u64s_length, List.length_append, List.length_take, List.length_cons, List.length_drop] at hj
      simp only [List.length_singleton] at hh
      refine ⟨by rw [u64s_length, List.length_append, List.length_take, List.length_drop]; omega, ?_⟩
      unfold u64s
      rw [List.getElem?_map, List.getElem?_map]
      congr 1
      rcases hh with hh | hh
      · rw [List.getElem?_append_left (by rw [List.length_take]; omega), List.getElem?_append_left (by rw [List.length_take]; omega), List.getElem?_take_of_lt hh, List.getElem?_take_of_lt (by omega)]
      · rw [List.getElem?_append_right (by rw [List.length_take]; omega), List.getElem?_append_right (by rw [List.length_take]; omega), List.length_take, List.length_take, show j - min i l.length = (j - (i + 1)) + 1 by omega, List.getElem?_cons_succ, show j - min (i + 1) l.length = j - (i + 1) by omega])
  have o2 : Only g W (W1.setCells g i [Value.int .u64 (v.toNat : Int)]) := UK.Only.setCells _ _ o1
  have fin : Laid1 W (W1.setCells g i [Value.int .u64 (v.toNat : Int)]) (some ⟨g, 0, none⟩) (l.take i ++ v :: l.drop i) (.returned (.slice (some ⟨g, 0, none⟩) (n + 1) c)) :=
    ⟨g, c, by rw [List.length_append, List.length_take, List.length_cons, List.length_drop, show min i l.length + (l.length - i + 1) = n + 1 by omega], r2, o2, .inl rfl⟩
  have HF := Lib.hid fin
  have hz2 : ¬ ((i : Int) = (n : Int)) := by omega
  have hin : i ≤ n := by omega
  have hb3 : (i : Int) ≤ (n : Int) + 1 := by omega
  have hw1 : IntKind.i64.wrap ((i : Int) + 1) = (i : Int) + 1 := by rw [IntKind.wrap_i64]; omega
  have hw2 : IntKind.i64.wrap ((n : Int) + 1) = (n : Int) + 1 := by rw [IntKind.wrap_i64]; omega
  have hb1 : (0 : Int) ≤ (i : Int) + 1 := by omega
  have htn : ((i : Int) + 1).toNat = i + 1 := by omega
  have hb2 : ¬ (c = i + 1) := by omega
  have hb4 : ¬ (c = i) := by omega
  have hb5 : ((n : Int) + 1).toNat = n + 1 := by omega
  have hrm : ¬ ((c : Int) < (n : Int) + 1) := by omega
  rw [← hn] at hl hi hroom ⊢
  clear hn hW1 hlen
  clear fin r1 r2 o1 o2 hv hv1 h hcs h1c hdr hdl hsa hsb hfa hfe hsz
  have H2 := Lib.hid hcp2
  have H1 := Lib.hid hcp1
  clear hcp1 hcp2
  go_enter Tryd.func119, Tryd.ntmps119
  go_wp2_with (simp only [hov])
  go_region_law (refine step_copy_runI rfl _ _ 123 123 rfl (.slice (some ⟨g, i + 1, none⟩) (n - i) (c - (i + 1))) (.slice (some ⟨g, i, none⟩) (n + 1 - i) (c - i)) (by simp [Act.eval, Act.put]) (by simp [Act.eval, Act.put]) (H1.out 3 (c - (i + 1)) (c - i)) ?_)
  have hcp3 := H2.out 3 (c - i)
  go_wp2
  go_ret
  exact HF.out
set_option maxHeartbeats 4000000 in
set_option maxRecDepth 100000 in
/-- there is no room -/
theorem insert_grow {W : World} {g c vb i : Nat} {l : List UInt64} (h : Row W g c (u64s l)) (hl : l.length ≤ 1000) (hi : i < l.length) (hroom : c < l.length + 1) (v : UInt64) (hv : Box W vb #[.int .u64 (v.toNat : Int)]) :
    Calls Tryd.prog 119 #[.slice (some ⟨g, 0, none⟩) l.length c, .int .i64 i, .slice (some ⟨vb, 0, none⟩) 1 1] W fun e w' => Laid1 W w' (some ⟨g, 0, none⟩) (l.take i ++ v :: l.drop i) e := by
  have hlen := u64s_length l
  obtain ⟨n, hn⟩ : ∃ n, n = l.length := ⟨_, rfl⟩
  have hle := h.le
  rw [hlen] at hle
  have hsz : (Tryd.prog.info? 42).map (·.size) = some 1 := by kernel_rfl
  have h1c : ∀ m : List UInt64, ∀ u ∈ u64s m, u.oneCell' = true := fun m u hu => by
    unfold u64s at hu
    obtain ⟨x, _, rfl⟩ := List.mem_map.1 hu
    rfl
  have hdr : (u64s l).drop i = u64s (l.drop i) := by unfold u64s; rw [List.map_drop]
  have htk : (u64s l).take i = u64s (l.take i) := by unfold u64s; rw [List.map_take]
  have hdl : (u64s (l.drop i)).length = n - i := by rw [u64s_length, List.length_drop, hn]
  have htl : (u64s (l.take i)).length = i := by rw [u64s_length, List.length_take]; omega
  have r0 := h.take i
  rw [htk] at r0
  obtain ⟨c', W1, e1, r1, b1⟩ := UK.grow_zeros (P := Tryd.prog) (t := 123) (tn := 3) (ty := 123) (k := .i64) (kn := .i64) (i := Tryd.t42) Tryd.underlying123 Tryd.underlying3 rfl rfl rfl (show (8 : Nat) ≤ 16 by omega) rfl r0 (n + 1 - i) (by omega) (by rw [htl]; omega) (by rw [htl]; omega)
  rw [htl, show i + (n + 1 - i) = n + 1 by omega, show ((n + 1 - i : Nat) : Int) = (n : Int) + 1 - (i : Int) by omega] at e1
  have hb01 : Below W.heap.size W W1 := b1
  have rl1 : (u64s (l.take i) ++ List.replicate (n + 1 - i) (Value.int .u64 0)).length = n + 1 := by rw [List.length_append, htl, List.length_replicate]; omega
  have hc1 : n + 1 ≤ c' := by have := r1.le; omega
  have hv1 := hv.below hb01 hv.lt
  have hcp1 : ∀ ty dc, (Builtin.copy_ #[123, 123] ty #[.slice (some ⟨W.heap.size, i, none⟩) (n + 1 - i) dc, .slice (some ⟨vb, 0, none⟩) 1 1]).run Tryd.prog W1 = .ok (goInt [Value.int .u64 (v.toNat : Int)].length) (W1.setCells W.heap.size i [Value.int .u64 (v.toNat : Int)]) := fun ty dc =>
    run_copy_cells W1 _ _ ty 42 W.heap.size i (n + 1 - i) dc ⟨vb, 0, none⟩ 1 1 [Value.int .u64 (v.toNat : Int)] Tryd.underlying123 hsz (by simp only [Nat.min_def, List.length_singleton]; split <;> omega)
      (fun j u hj => by
        have hj0 : j = 0 := by
          by_cases hc : j < 1
          · omega
          · rw [List.getElem?_eq_none (by simp; omega)] at hj; cases hj
        subst hj0
        rw [UK.add_mk0, Nat.zero_add, hv1.cell 0 _ rfl]; exact hj)
      (fun j hj => (r1.there _ (by simp at hj; omega)).1) (fun j hj => (r1.there _ (by simp at hj; omega)).2) (fun u hu => by
        obtain rfl := List.mem_singleton.1 hu
        rfl)
  have r2 : Row (W1.setCells W.heap.size i [Value.int .u64 (v.toNat : Int)]) W.heap.size c' (u64s (l.take i) ++ Value.int .u64 (v.toNat : Int) :: List.replicate (n - i) (Value.int .u64 0)) := r1.setCells i [Value.int .u64 (v.toNat : Int)] (by simp; omega) _ (by rw [List.length_append, htl, List.length_cons, List.length_replicate]; omega)
    (fun j hj => by
      have hj0 : j = 0 := by simpa using hj
      subst hj0
      rw [List.getElem?_append_right (by rw [htl]; omega), htl, show i + 0 - i = 0 by omega]; rfl)
    (fun j hj hh => by
      rw [List.length_append, htl, List.length_cons, List.length_replicate] at hj
      simp only [List.length_singleton] at hh
      refine ⟨by rw [rl1]; omega, ?_⟩
      rcases hh with hh | hh
      · rw [List.getElem?_append_left (by rw [htl]; omega), List.getElem?_append_left (by rw [htl]; omega)]
      · rw [List.getElem?_append_right (by rw [htl]; omega), List.getElem?_append_right (by rw [htl]; omega), htl, show j - i = (j - (i + 1)) + 1 by omega, List.getElem?_cons_succ, show n + 1 - i = (n - i) + 1 by omega, List.replicate_succ, List.getElem?_cons_succ])
  have b2 : Below W.heap.size W (W1.setCells W.heap.size i [Value.int .u64 (v.toNat : Int)]) := hb01.trans ((UK.Only.setCells _ _ (Only.refl W.heap.size W1)).below hb01.size (Nat.le_refl _))
  generalize hW2 : W1.setCells W.heap.size i [Value.int .u64 (v.toNat : Int)] = W2 at r2 b2 hcp1
  have h2 := h.below b2 h.lt
  have hcp2 : ∀ ty dc sc, (Builtin.copy_ #[123, 123] ty #[.slice (some ⟨W.heap.size, i + 1, none⟩) (n - i) dc, .slice (some ⟨g, i, none⟩) (n - i) sc]).run Tryd.prog W2.drew = .ok (goInt (u64s (l.drop i)).length) (W2.drew.setCells W.heap.size (i + 1) (u64s (l.drop i))) := fun ty dc sc =>
    run_copy_cells W2.drew _ _ ty 42 W.heap.size (i + 1) (n - i) dc ⟨g, i, none⟩ (n - i) sc (u64s (l.drop i)) Tryd.underlying123 hsz (by rw [hdl]; simp only [Nat.min_def]; split <;> omega)
      (fun j u hj => by rw [UK.add_mk0]; exact h2.at' (i + j) u (by rw [← hdr, List.getElem?_drop] at hj; exact hj))
      (fun j hj => (r2.there _ (by rw [hdl] at hj; omega)).1) (fun j hj => (r2.there _ (by rw [hdl] at hj; omega)).2) (h1c _)
  have ef : u64s (l.take i ++ v :: l.drop i) = u64s (l.take i) ++ Value.int .u64 (v.toNat : Int) :: u64s (l.drop i) := by unfold u64s; rw [List.map_append, List.map_cons]
  have r3 : Row (W2.drew.setCells W.heap.size (i + 1) (u64s (l.drop i))) W.heap.size c' (u64s (l.take i ++ v :: l.drop i)) := by
    rw [ef]
    refine (r2.drewN 1).setCells (i + 1) (u64s (l.drop i)) (by rw [hdl]; omega) _ (by rw [List.length_append, htl, List.length_cons, hdl]; omega) (fun j hj => ?_) (fun j hj hh => ?_)
    · rw [List.getElem?_append_right (by rw [htl]; omega), htl, show i + 1 + j - i = j + 1 by omega, List.getElem?_cons_succ]
    · rw [List.length_append, htl, List.length_cons, hdl] at hj
      rw [hdl] at hh
      have hji : j < i + 1 := by omega
      refine ⟨by rw [List.length_append, htl, List.length_cons, List.length_replicate]; omega, ?_⟩
      by_cases e : j = i
      · subst e
        rw [List.getElem?_append_right (by rw [htl]; omega), List.getElem?_append_right (by rw [htl]; omega), htl, Nat.sub_self]; rfl
      · rw [List.getElem?_append_left (by rw [htl]; omega), List.getElem?_append_left (by rw [htl]; omega)]
  have b3 : Below W.heap.size W (W2.drew.setCells W.heap.size (i + 1) (u64s (l.drop i))) := b2.trans ((UK.Only.setCells _ _ (Only.refl W.heap.size W2).drew).below b2.size (Nat.le_refl _))
  have fin : Laid1 W (W2.drew.setCells W.heap.size (i + 1) (u64s (l.drop i))) (some ⟨g, 0, none⟩) (l.take i ++ v :: l.drop i) (.returned (.slice (some ⟨W.heap.size, 0, none⟩) (n + 1) c')) :=
    ⟨W.heap.size, c', by rw [List.length_append, List.length_take, List.length_cons, List.length_drop, show min i l.length + (l.length - i + 1) = n + 1 by omega], r3, Only.of_below b3, .inr (Nat.le_refl _)⟩
  have HF := Lib.hid fin
  have E1 := Lib.hid e1
  have H1 := Lib.hid hcp1
  have H2 := Lib.hid hcp2
  have hz2 : ¬ ((i : Int) = (n : Int)) := by omega
  have hin : i ≤ n := by omega
  have hb3 : (i : Int) ≤ (n : Int) + 1 := by omega
  have hw1 : IntKind.i64.wrap ((i : Int) + 1) = (i : Int) + 1 := by rw [IntKind.wrap_i64]; omega
  have hw2 : IntKind.i64.wrap ((n : Int) + 1) = (n : Int) + 1 := by rw [IntKind.wrap_i64]; omega
  have hw3 : IntKind.i64.wrap ((n : Int) + 1 - (i : Int)) = (n : Int) + 1 - (i : Int) := by rw [IntKind.wrap_i64]; omega
  have hb1 : (0 : Int) ≤ (i : Int) + 1 := by omega
  have htn : ((i : Int) + 1).toNat = i + 1 := by omega
  have hb2 : ¬ (c' = i + 1) := by omega
  have hb4 : ¬ (c = i) := by omega
  have hb5 : ¬ (c' = i) := by omega
  have hrm : (c : Int) < (n : Int) + 1 := by omega
  have hic : (i : Int) ≤ (c : Int) := by omega
  rw [← hn] at hl hi hroom hle ⊢
  clear fin r0 r1 r2 r3 b1 b2 b3 hb01 hv hv1 h h2 h1c hdr htk hdl htl hsz e1 hcp1 hcp2 hn hlen ef rl1 hW2
  go_enter Tryd.func119, Tryd.ntmps119
  have hcp3 := H1.out 3 (c' - i)
  go_wp2_with (at_builtin; refine UK.wpList_append_run E1.out rfl rfl rfl rfl rfl ?_)
  go_region_law (refine step_copy_runI rfl _ _ 123 123 rfl (.slice (some ⟨W.heap.size, i + 1, none⟩) (n - i) (c' - (i + 1))) (.slice (some ⟨g, i, none⟩) (n - i) (c - i)) (by simp [Act.eval, Act.put]) (by simp [Act.eval, Act.put]) (H2.out 3 (c' - (i + 1)) (c - i)) ?_)
  go_wp2
  go_ret
  exact HF.out
/-- slices.Insert of one number -/
theorem insert_any {W : World} {ao : Option Addr} {c vb i : Nat} {l : List UInt64} (h : NR W ao c (u64s l)) (hl : l.length ≤ 1000) (hi : i ≤ l.length) (v : UInt64) (hv : Box W vb #[.int .u64 (v.toNat : Int)]) (hne : ¬ slB ao vb) :
    Calls Tryd.prog 119 #[.slice ao l.length c, .int .i64 i, .slice (some ⟨vb, 0, none⟩) 1 1] W fun e w' => Laid1 W w' ao (l.take i ++ v :: l.drop i) e := by
  by_cases e : i = l.length
  · subst e
    rw [List.take_length, List.drop_length]
    exact insert_end h hl v hv
  · rcases h with ⟨_, h0, _⟩ | ⟨g, rfl, r⟩
    · have := congrArg List.length h0
      rw [u64s_length] at this
      have : l.length = 0 := this
      omega
    · by_cases hr : l.length + 1 ≤ c
      · exact insert_shift r hl (by omega) hr v hv (fun e => hne (by rw [e]; rfl))
      · exact insert_grow r hl (by omega) (by omega) v hv
end Go.Proofs.YthjnfclebeggaaaDoor
