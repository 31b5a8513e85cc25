/-
  slices.Delete of one number.
-/
import Derived.Test.YthjnfclebeggaaaDoorTreeF
namespace Go.Proofs.YthjnfclebeggaaaDoor
open Go.RowKit
open UK (str BytesAt nth Only Row Box w32)
open Go.BigFrame
set_option maxHeartbeats 4000000 in
set_option maxRecDepth 100000 in
theorem delete_any {W : World} {g c i : Nat} {l : List UInt64} (h : Row W g c (u64s l)) (hl : l.length ≤ 1000) (hi : i < l.length) :
    Calls Tryd.prog 145 #[.slice (some ⟨g, 0, none⟩) l.length c, .int .i64 i, .int .i64 ((i : Int) + 1)] W fun e w' => e = .returned (.slice (some ⟨g, 0, none⟩) (l.length - 1) c) ∧ Row w' g c (u64s (l.take i ++ l.drop (i + 1))) ∧ Only g W w' := by
  have hlen := u64s_length l
  have hle := h.le
  rw [hlen] at hle
  obtain ⟨n, hn⟩ : ∃ n, n = l.length := ⟨_, rfl⟩
  have hz2 : ¬ ((i : Int) = (i : Int) + 1) := by omega
  have hb2 : ¬ (c = i) := by omega
  have htn : ((i : Int) + 1).toNat = i + 1 := by omega
  have hb1 : (0 : Int) ≤ (i : Int) + 1 := by omega
  have hin : (i : Int) + 1 ≤ (n : Int) := by omega
  have hic : i ≤ c := by omega
  have hin3 : i + 1 ≤ n := by omega
  have hsz : (Tryd.prog.info? 42).map (·.size) = some 1 := by kernel_rfl
  have h1c : ∀ m : List UInt64, ∀ u ∈ u64s m, u.oneCell' = true := fun m u hu => by
    unfold u64s at hu
    obtain ⟨x, _, rfl⟩ := List.mem_map.1 hu
    rfl
  have hdr : (u64s l).drop (i + 1) = u64s (l.drop (i + 1)) := by unfold u64s; rw [List.map_drop]
  have hdl : (u64s (l.drop (i + 1))).length = n - (i + 1) := by rw [u64s_length, List.length_drop, hn]
  have h0 := h.drewN 1
  have happ : ∀ ao, (ao = (⟨g, i + 1, none⟩ : Addr) ∨ i + 1 = n) → ∀ sc, (Builtin.append_ #[123, 123] 123 #[.slice (some ⟨g, 0, none⟩) i c, .slice (some ao) (n - (i + 1)) sc]).run Tryd.prog W.drew = .ok (.slice (some ⟨g, 0, none⟩) (n - 1) c) (W.drew.setCells g i (u64s (l.drop (i + 1)))) := fun ao hao sc => by
    have hs : Src Tryd.prog 1 123 (.slice (some ao) (n - (i + 1)) sc) (n - (i + 1)) (u64s (l.drop (i + 1))) W.drew := Src.ofSlice W.drew Tryd.underlying123 ao (n - (i + 1)) sc _ (by rw [hdl, Nat.mul_one]) (fun j u hj => by
      rcases hao with rfl | e
      · rw [UK.add_mk0]
        exact h0.at' (i + 1 + j) u (by rw [← hdr, List.getElem?_drop] at hj; exact hj)
      · have : j < (u64s (l.drop (i + 1))).length := (List.getElem?_eq_some_iff.1 hj).1
        rw [hdl] at this; omega) (h1c _)
    have hr := run_append_room_src (P := Tryd.prog) W.drew 123 123 123 42 Tryd.t42 Tryd.underlying123 rfl g 0 i c _ _ _ hs (by omega) (fun j hj => (h0.there _ (by rw [hdl] at hj; show 0 + i * 1 + j < c; omega)).1) (fun j hj => (h0.there _ (by rw [hdl] at hj; show 0 + i * 1 + j < c; omega)).2)
    rw [show i + (n - (i + 1)) = n - 1 by omega, show 0 + i * Tryd.t42.size = i by show 0 + i * 1 = i; omega] at hr
    exact hr
  have r1 : Row (W.drew.setCells g i (u64s (l.drop (i + 1)))) g c (u64s (l.take i ++ l.drop (i + 1)) ++ (u64s l).drop (n - 1)) := h0.setCells i (u64s (l.drop (i + 1))) (by rw [hdl]; omega) _ (by rw [List.length_append, u64s_length, List.length_append, List.length_take, List.length_drop, List.length_drop, hlen]; omega)
    (fun j hj => by
      rw [hdl] at hj
      rw [List.getElem?_append_left (by rw [u64s_length, List.length_append, List.length_take, List.length_drop]; omega)]
      unfold u64s
      rw [List.getElem?_map, List.getElem?_map, List.getElem?_append_right (by rw [List.length_take]; omega), List.length_take, show i + j - min i l.length = j by omega])
    (fun j hj hh => by
      rw [List.length_append, u64s_length, List.length_append, List.length_take, List.length_drop, List.length_drop, hlen] at hj
      rw [hdl] at hh
      refine ⟨by rw [hlen]; omega, ?_⟩
      rcases hh with hh | hh
      · rw [List.getElem?_append_left (by rw [u64s_length, List.length_append, List.length_take, List.length_drop]; omega)]
        unfold u64s
        rw [List.getElem?_map, List.getElem?_map, List.getElem?_append_left (by rw [List.length_take]; omega), List.getElem?_take_of_lt hh]
      · rw [List.getElem?_append_right (by rw [u64s_length, List.length_append, List.length_take, List.length_drop]; omega), u64s_length, List.length_append, List.length_take, List.length_drop, List.getElem?_drop]
        congr 1
        omega)
  have o1 : Only g W (W.drew.setCells g i (u64s (l.drop (i + 1)))) := UK.Only.setCells _ _ (Only.refl g W).drew
  generalize hW1 : W.drew.setCells g i (u64s (l.drop (i + 1))) = W1 at r1 o1 happ
  have hclr : (Builtin.clear_ #[123] 0 #[.slice (some ⟨g, n - 1, none⟩) 1 (c - (n - 1))]).run Tryd.prog W1 = .ok (.tuple #[]) (W1.setCells g (n - 1) (List.replicate 1 (Value.int .u64 0))) := Lib.run_clear_slice (P := Tryd.prog) W1 123 42 0 (.int .u64 0) Tryd.underlying123 (fun w => by kernel_rfl) rfl rfl g (n - 1) 1 (c - (n - 1)) (by omega) (fun j hj => (r1.there _ (by omega)).1) (fun j hj => (r1.there _ (by omega)).2)
  have fin : Row (W1.setCells g (n - 1) (List.replicate 1 (Value.int .u64 0))) g c (u64s (l.take i ++ l.drop (i + 1))) ∧ Only g W (W1.setCells g (n - 1) (List.replicate 1 (Value.int .u64 0))) := by
    have hlf : (u64s (l.take i ++ l.drop (i + 1))).length = n - 1 := by rw [u64s_length, List.length_append, List.length_take, List.length_drop]; omega
    have rk : Row (W1.setCells g (n - 1) (List.replicate 1 (Value.int .u64 0))) g c (u64s (l.take i ++ l.drop (i + 1)) ++ [Value.int .u64 0]) := r1.setCells (n - 1) (List.replicate 1 (Value.int .u64 0)) (by rw [List.length_replicate]; omega) _ (by rw [List.length_append, hlf]; simp; omega) (fun j hj => by
      have hj0 : j = 0 := by simpa using hj
      subst hj0
      rw [List.getElem?_append_right (by rw [hlf]; omega), hlf, show n - 1 + 0 - (n - 1) = 0 by omega]; rfl) (fun j hj hh => by
      rw [List.length_append, hlf] at hj
      simp only [List.length_replicate, List.length_singleton] at hj hh
      refine ⟨by rw [List.length_append, hlf]; omega, ?_⟩
      rw [List.getElem?_append_left (by rw [hlf]; omega), List.getElem?_append_left (by rw [hlf]; omega)])
    have rt := rk.take (n - 1)
    rw [List.take_append, List.take_of_length_le (by rw [hlf]; omega), hlf, Nat.sub_self, List.take_zero, List.append_nil] at rt
    exact ⟨rt, UK.Only.setCells _ _ o1⟩
  have HF := Lib.hid fin
  have HA := Lib.hid happ
  clear fin r1 o1 h0 hdr hdl h1c hsz happ h hW1
  rw [← hn] at hl hi hle ⊢
  clear hn hlen
  have hn1 : n - (n - 1) = 1 := by omega
  have hz3 : ((i : Int) == (i : Int) + 1) = false := beq_eq_false_iff_ne.2 hz2
  have hce2 : ¬ (c = n - 1) := by omega
  have hnn : ((n - 1 : Nat) : Int) ≤ (n : Int) := by omega
  by_cases hce : c = i + 1
  · obtain rfl : n = i + 1 := by omega
    subst hce
    have e1 : (Builtin.append_ #[123, 123] 123 #[.slice (some ⟨g, 0, none⟩) i (i + 1), .slice (some ⟨g, 0, none⟩) 0 0]).run Tryd.prog W.drew = .ok (.slice (some ⟨g, 0, none⟩) i (i + 1)) W1 := by
      have := HA.out ⟨g, 0, none⟩ (.inr rfl) 0
      rw [Nat.sub_self, Nat.add_sub_cancel] at this
      exact this
    rw [Nat.add_sub_cancel, Nat.add_sub_cancel_left] at hclr
    rw [Nat.add_sub_cancel] at HF ⊢
    have E1 := Lib.hid e1
    have hce3 : ¬ (i + 1 = i) := by omega
    clear HA e1 hn1 hce2 hnn hin hic hin3 hi hle hz2
    have hii : (i : Int) ≤ (i : Int) + 1 := by omega
    go_enter Tryd.func145, Tryd.ntmps145
    go_wp2_with fail
    go_region_law (refine UK.step_append_run E1.out rfl rfl rfl (by simp [Act.eval, Act.put]) (by simp [Act.eval, Act.put]) ?_)
    go_wp2
    go_ret
    exact ⟨rfl, HF.out⟩
  · go_enter Tryd.func145, Tryd.ntmps145
    go_wp2_with fail
    go_region_law (refine UK.step_append_run (HA.out ⟨g, i + 1, none⟩ (.inl rfl) (c - (i + 1))) rfl rfl rfl (by simp [Act.eval, Act.put]) (by simp [Act.eval, Act.put]) ?_)
    go_wp2
    go_ret
    exact ⟨rfl, HF.out⟩
end Go.Proofs.YthjnfclebeggaaaDoor
