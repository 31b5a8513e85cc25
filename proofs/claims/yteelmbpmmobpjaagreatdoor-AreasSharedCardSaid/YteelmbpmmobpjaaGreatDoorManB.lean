/-
  Layer areas: the mean, the median, the k-th number.
-/
import Derived.Test.YteelmbpmmobpjaaGreatDoorManA
namespace Go.Proofs.YteelmbpmmobpjaaGreatDoor
open Go.RowKit
open UK (str BytesAt nth Only Row Box)
def optV : Option Int → V
  | none => .fail 2
  | some n => .num n
theorem counted_opt {w : World} (o : Option Int) : Calls Tryz.prog 25 #[.int .i64 (o.getD 0), .bool o.isSome] w fun e w' => e = .returned (optV o).val ∧ w = w' := by
  cases o with
  | none => exact counted_any 0 false
  | some n => exact counted_any n true
def meanV (ds : List Int) : V := if ds.length = 0 then .fail 1 else match sumO ds 0 with
  | none => .fail 2
  | some s => optV (DE.divO s ((ds.length : Int) * 10000))
set_option maxHeartbeats 1000000 in
set_option maxRecDepth 100000 in
theorem mean_any {w : World} {t : Value} {ds : List Int} (h : DSl w t ds) (hl : ds.length ≤ 1000) (hg : ∀ d ∈ ds, DE.Good d) :
    Calls Tryz.prog 68 #[t] w fun e w' => e = .returned (meanV ds).val ∧ Below w.heap.size w w' := by
  have h1 := sum_any h (by omega) hg
  unfold SumR at h1
  have hV : meanV ds = if ds.length = 0 then .fail 1 else match sumO ds 0 with | none => .fail 2 | some s => optV (DE.divO s ((ds.length : Int) * 10000)) := rfl
  have hgs : ∀ s, sumO ds 0 = some s → DE.Good s := fun s hs => sumO_good _ _ _ (by unfold DE.Good; omega) hs
  obtain ⟨ao, c, rfl, _⟩ := h
  by_cases h0 : ds.length = 0
  · rw [if_pos h0] at hV
    rw [hV, h0]
    clear h1 hV hg hgs
    unfold V.val
    go_enter Tryz.func68, Tryz.ntmps68
    go_wp2
    go_ret
    exact ⟨rfl, Below.refl _ _⟩
  · rw [if_neg h0] at hV
    have hne2 : ((ds.length : Int) == 0) = false := by simpa using h0
    have hne : ¬ (ds.length : Int) = 0 := by omega
    cases hs : sumO ds 0 with
    | none =>
      rw [hs] at h1 hV
      rw [hV]
      have HS := Lib.hid h1
      clear h1 hV hg hgs hs
      dsimp only [Option.getD, Option.isSome] at HS
      unfold V.val
      go_enter Tryz.func68, Tryz.ntmps68
      go_wp2_with fail
      refine HS.out.mono ?_
      rintro e w1 ⟨rfl, rfl⟩
      go_wp2
      go_ret
      exact ⟨rfl, Below.refl _ _⟩
    | some s =>
      rw [hs] at h1 hV
      simp only at hV
      rw [hV]
      have HS := Lib.hid h1
      have hgd := hgs s hs
      have HI := Lib.hid (fun w => int_any (w := w) (ds.length : Int) (by omega) (by omega))
      have HD := Lib.hid (fun w => div_any (w := w) s ((ds.length : Int) * 10000) hgd (by unfold DE.Good; omega) (by omega) (by omega))
      have HC := Lib.hid (fun w => counted_opt (w := w) (DE.divO s ((ds.length : Int) * 10000)))
      clear h1 hV hg hgs hs hgd
      dsimp only [Option.getD, Option.isSome] at HS
      generalize DE.divO s ((ds.length : Int) * 10000) = o at *
      generalize (optV o).val = rv at *
      generalize o.getD 0 = on at *
      generalize o.isSome = ob at *
      go_enter Tryz.func68, Tryz.ntmps68
      go_wp2_with fail
      refine HS.out.mono ?_
      rintro e w1 ⟨rfl, rfl⟩
      go_wp2_with fail
      refine (HI.out _).mono ?_
      rintro e w1 ⟨rfl, rfl⟩
      go_wp2_with fail
      refine (HD.out _).mono ?_
      rintro e w1 ⟨rfl, b1⟩
      go_wp2_with fail
      refine (HC.out _).mono ?_
      rintro e w2 ⟨rfl, rfl⟩
      go_wp2
      go_ret
      exact ⟨rfl, b1⟩
theorem DSl.at_ {W : World} {ao : Option Addr} {n c : Nat} {ds : List Int} (h : DSl W (.slice ao n c) ds) : n = ds.length ∧ ∀ (j : Nat) d, ds[j]? = some d → ∃ g o, ao = some ⟨g, o, none⟩ ∧ g < W.heap.size ∧ W.cell? ⟨g, o + j, none⟩ = some (.int .i64 d) := by
  obtain ⟨a, c', e, h'⟩ := h
  simp only [Value.slice.injEq] at e
  obtain ⟨rfl, rfl, rfl⟩ := e
  exact ⟨rfl, h'⟩
theorem sorted_values {W : World} {ao : Option Addr} {c : Nat} {zs : List Int} (h : DSl W (.slice ao zs.length c) zs) (hz : zs.length ≤ 1000) :
    Calls Tryz.prog 59 #[.func (.func 85) #[] #[.pointer (some ⟨W.heap.size, 0, none⟩)]] (W.alloc (.cells #[.slice ao zs.length c] 69))
      fun e w' => ∃ (a1 : Option Addr) (c1 : Nat), e = .returned (.slice a1 zs.length c1) ∧ DSl w' (.slice a1 zs.length c1) (srt zs) ∧ zs.length ≤ c1 ∧ Below W.heap.size W w' := by
  have hb : Below W.heap.size W (W.alloc (.cells #[.slice ao zs.length c] 69)) := (Below.refl _ _).alloc (Nat.le_refl _) _
  have hx := Box.new W #[.slice ao zs.length c] 69
  obtain ⟨_, h'⟩ := h.at_
  refine (sorted_any (by omega) (by simp) (hx.cell 0 _ rfl) (fun j d hj => ?_)).mono ?_
  · obtain ⟨g, o, e, hg, hc⟩ := h' j d hj
    exact ⟨g, o, e, by simp; omega, (hb.cell (p := ⟨g, o + j, none⟩) hg).trans hc⟩
  · rintro e w' ⟨a1, c1, rfl, h1, h2, h3⟩
    exact ⟨a1, c1, rfl, h1, h2, hb.trans (h3.mono hb.size)⟩
set_option maxHeartbeats 1000000 in
set_option maxRecDepth 100000 in
theorem ranked_no {w : World} {nm t : Value} {ds : List Int} (h : DSl w t ds) (hl : ds.length ≤ 1000) (hnm : ∃ s, nm = .string s) (k : Int) (hk : k < 1 ∨ (ds.length : Int) < k) :
    Calls Tryz.prog 32 #[nm, t, .int .i64 k] w fun e w' => e = .returned (V.val (.fail 2)) ∧ Below w.heap.size w w' := by
  obtain ⟨ao, c, rfl, _⟩ := h
  obtain ⟨s, rfl⟩ := hnm
  unfold V.val
  rcases hk with hk | hk
  · go_enter Tryz.func32, Tryz.ntmps32
    go_wp2
    go_ret
    exact ⟨rfl, Below.refl _ _⟩
  · have hk1 : ¬ k < 1 := by omega
    go_enter Tryz.func32, Tryz.ntmps32
    go_wp2
    go_ret
    exact ⟨rfl, Below.refl _ _⟩
set_option maxHeartbeats 1000000 in
set_option maxRecDepth 100000 in
theorem ranked_small {w : World} {t : Value} {ds : List Int} (h : DSl w t ds) (hl : ds.length ≤ 1000) (k : Nat) (hk1 : 1 ≤ k) (hk2 : k ≤ ds.length) :
    Calls Tryz.prog 32 #[.string (str [83, 77, 65, 76, 76]), t, .int .i64 (k : Int)] w fun e w' => e = .returned (V.val (.num ((srt ds).getD (k - 1) 0))) ∧ Below w.heap.size w w' := by
  have hd := h
  obtain ⟨ao, c, rfl, _⟩ := h
  have HV := Lib.hid (values_fn (W := w) ao ds.length c)
  have HS := Lib.hid (sorted_values hd hl)
  have c1 : ¬ (k : Int) < 1 := by omega
  have c2 : ¬ (ds.length : Int) < (k : Int) := by omega
  have hkl : k - 1 < (srt ds).length := by rw [srt_length]; omega
  have hgd : (srt ds).getD (k - 1) 0 = (srt ds)[k - 1] := by rw [List.getD_eq_getElem?_getD, List.getElem?_eq_getElem hkl]; rfl
  have HG := Lib.hid (List.getElem?_eq_getElem hkl)
  rw [hgd]
  generalize (srt ds)[k - 1] = x at *
  clear hd hgd
  obtain ⟨kk, rfl⟩ : ∃ kk, k = kk + 1 := ⟨k - 1, by omega⟩
  simp only [Nat.add_sub_cancel] at HG hkl
  unfold V.val
  go_enter Tryz.func32, Tryz.ntmps32
  go_wp2_with fail
  refine HV.out.mono ?_
  rintro e w1 ⟨rfl, rfl⟩
  go_wp2_with fail
  refine HS.out.mono ?_
  rintro e w2 ⟨a1, c3, rfl, hds, hle, b2⟩
  obtain ⟨g, o, rfl, hgl, hcell⟩ := hds.at_.2 kk x HG.out
  have B2 := Lib.hid b2
  clear hds b2
  go_wp2_with fail
  go_ret
  exact ⟨rfl, B2.out⟩
set_option maxHeartbeats 1000000 in
set_option maxRecDepth 100000 in
theorem ranked_large {w : World} {t : Value} {ds : List Int} (h : DSl w t ds) (hl : ds.length ≤ 1000) (k : Nat) (hk1 : 1 ≤ k) (hk2 : k ≤ ds.length) :
    Calls Tryz.prog 32 #[.string (str [76, 65, 82, 71, 69]), t, .int .i64 (k : Int)] w fun e w' => e = .returned (V.val (.num ((srt ds).getD (ds.length - k) 0))) ∧ Below w.heap.size w w' := by
  have hd := h
  obtain ⟨ao, c, rfl, _⟩ := h
  have HV := Lib.hid (values_fn (W := w) ao ds.length c)
  have HS := Lib.hid (sorted_values hd hl)
  have c1 : ¬ (k : Int) < 1 := by omega
  have c2 : ¬ (ds.length : Int) < (k : Int) := by omega
  have hkl : ds.length - k < (srt ds).length := by rw [srt_length]; omega
  have hgd : (srt ds).getD (ds.length - k) 0 = (srt ds)[ds.length - k] := by rw [List.getD_eq_getElem?_getD, List.getElem?_eq_getElem hkl]; rfl
  have HG := Lib.hid (List.getElem?_eq_getElem hkl)
  rw [hgd]
  generalize (srt ds)[ds.length - k] = x at *
  clear hd hgd
  unfold V.val
  go_enter Tryz.func32, Tryz.ntmps32
  go_wp2_with fail
  refine HV.out.mono ?_
  rintro e w1 ⟨rfl, rfl⟩
  go_wp2_with fail
  refine HS.out.mono ?_
  rintro e w2 ⟨a1, c3, rfl, hds, hle, b2⟩
  obtain ⟨g, o, rfl, hgl, hcell⟩ := hds.at_.2 (ds.length - k) x HG.out
  rw [show ds.length - k = ds.length + 1 - k - 1 by omega] at hcell
  have B2 := Lib.hid b2
  clear hds b2
  go_wp2_with fail
  go_ret
  exact ⟨rfl, B2.out⟩
def medV (ds : List Int) : V := if ds.length = 0 then .fail 2 else if ds.length % 2 = 1 then .num ((srt ds).getD (ds.length / 2) 0) else meanV [(srt ds).getD (ds.length / 2 - 1) 0, (srt ds).getD (ds.length / 2) 0]
theorem srt_good {ds : List Int} (hg : ∀ d ∈ ds, DE.Good d) : ∀ d ∈ srt ds, DE.Good d := fun d hd => hg d ((List.mergeSort_perm _ _).mem_iff.1 hd)
set_option maxHeartbeats 1000000 in
set_option maxRecDepth 100000 in
theorem median_any {w : World} {t : Value} {ds : List Int} (h : DSl w t ds) (hl : ds.length ≤ 1000) (hg : ∀ d ∈ ds, DE.Good d) :
    Calls Tryz.prog 71 #[t] w fun e w' => e = .returned (medV ds).val ∧ Below w.heap.size w w' := by
  have hd := h
  obtain ⟨ao, c, rfl, _⟩ := h
  have HV := Lib.hid (values_fn (W := w) ao ds.length c)
  have HS := Lib.hid (sorted_values hd hl)
  have hm : medV ds = if ds.length = 0 then .fail 2 else if ds.length % 2 = 1 then .num ((srt ds).getD (ds.length / 2) 0) else meanV [(srt ds).getD (ds.length / 2 - 1) 0, (srt ds).getD (ds.length / 2) 0] := rfl
  by_cases h0 : ds.length = 0
  · rw [if_pos h0] at hm
    rw [hm, h0]
    clear hm hd hg HV HS
    unfold V.val
    go_enter Tryz.func71, Tryz.ntmps71
    go_wp2
    go_ret
    exact ⟨rfl, Below.refl _ _⟩
  · rw [if_neg h0] at hm
    have hne : ((ds.length : Int) == 0) = false := by simpa using h0
    have hhl : ds.length / 2 < (srt ds).length := by rw [srt_length]; omega
    have hgh : (srt ds).getD (ds.length / 2) 0 = (srt ds)[ds.length / 2] := by rw [List.getD_eq_getElem?_getD, List.getElem?_eq_getElem hhl]; rfl
    have HH := Lib.hid (List.getElem?_eq_getElem hhl)
    have hgx : DE.Good (srt ds)[ds.length / 2] := srt_good hg _ (List.getElem_mem hhl)
    by_cases hodd : ds.length % 2 = 1
    · rw [if_pos hodd, hgh] at hm
      rw [hm]
      generalize (srt ds)[ds.length / 2] = x at *
      clear hm hd hg hgh hgx
      unfold V.val
      go_enter Tryz.func71, Tryz.ntmps71
      go_wp2_with fail
      refine HV.out.mono ?_
      rintro e w1 ⟨rfl, rfl⟩
      go_wp2_with fail
      refine HS.out.mono ?_
      rintro e w2 ⟨a1, c3, rfl, hds, hle, b2⟩
      obtain ⟨g, o, rfl, hgl, hcell⟩ := hds.at_.2 _ x HH.out
      have B2 := Lib.hid b2
      clear hds b2
      go_wp2_with fail
      go_ret
      exact ⟨rfl, B2.out⟩
    · have hodd0 : ¬ (ds.length : Int) % 2 = 1 := by omega
      have hhl2 : ds.length / 2 - 1 < (srt ds).length := by rw [srt_length]; omega
      have hgh2 : (srt ds).getD (ds.length / 2 - 1) 0 = (srt ds)[ds.length / 2 - 1] := by rw [List.getD_eq_getElem?_getD, List.getElem?_eq_getElem hhl2]; rfl
      have HH2 := Lib.hid (List.getElem?_eq_getElem hhl2)
      have hgx2 : DE.Good (srt ds)[ds.length / 2 - 1] := srt_good hg _ (List.getElem_mem hhl2)
      rw [if_neg hodd, hgh, hgh2] at hm
      rw [hm]
      have HME := Lib.hid (fun (W : World) (t : Value) (ht : DSl W t [(srt ds)[ds.length / 2 - 1], (srt ds)[ds.length / 2]]) => mean_any ht (by simp) (fun d hd => by
        rcases List.mem_cons.1 hd with rfl | hd
        · exact hgx2
        · rw [List.mem_singleton.1 hd]; exact hgx))
      generalize (meanV [(srt ds)[ds.length / 2 - 1], (srt ds)[ds.length / 2]]).val = rv at *
      generalize (srt ds)[ds.length / 2] = x at *
      generalize (srt ds)[ds.length / 2 - 1] = y at *
      clear hm hd hg hgh hgx hgh2 hgx2
      go_enter Tryz.func71, Tryz.ntmps71
      go_wp2_with fail
      refine HV.out.mono ?_
      rintro e w1 ⟨rfl, rfl⟩
      go_wp2_with fail
      refine HS.out.mono ?_
      rintro e w2 ⟨a1, c3, rfl, hds, hle, b2⟩
      obtain ⟨g, o, rfl, hgl, hcell⟩ := hds.at_.2 _ x HH.out
      obtain ⟨g2, o2, he2, hgl2, hcell2⟩ := hds.at_.2 _ y HH2.out
      cases he2
      have B2 := Lib.hid b2
      clear hds b2
      go_wp2_with fail
      have hds2 : DSl w2 (.slice (some ⟨g, o + (ds.length / 2 - 1), none⟩) (ds.length / 2 + 1 - (ds.length / 2 - 1)) (c3 - (ds.length / 2 - 1))) [y, x] := by
        refine ⟨some ⟨g, o + (ds.length / 2 - 1), none⟩, c3 - (ds.length / 2 - 1), by congr 1; show _ = 2; omega, fun j d hj => ⟨g, o + (ds.length / 2 - 1), rfl, hgl, ?_⟩⟩
        match j, hj with
        | 0, hj => obtain rfl := Option.some.inj hj; exact hcell2
        | 1, hj =>
          obtain rfl := Option.some.inj hj
          rw [show o + (ds.length / 2 - 1) + 1 = o + ds.length / 2 by omega]
          exact hcell
        | _ + 2, hj => simp at hj
      refine (HME.out w2 _ hds2).mono ?_
      rintro e w3 ⟨rfl, b3⟩
      go_wp2
      go_ret
      exact ⟨rfl, B2.out.trans (b3.mono B2.out.size)⟩
end Go.Proofs.YteelmbpmmobpjaaGreatDoor
