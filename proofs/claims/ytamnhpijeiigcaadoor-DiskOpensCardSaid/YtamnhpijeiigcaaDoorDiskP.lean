/-
  The laws' Full and awake; disks whose flags tell the free pages.
-/
import Derived.Test.YtamnhpijeiigcaaDoorDiskO
namespace Go.Proofs.YtamnhpijeiigcaaDoor
open Go.RowKit
open UK (str BytesAt nth Only w32 Row)
open Go.BigFrame
/-- the flags tell the free pages, each of which is there once -/
structure Sound (d : Dk) (cnt : Nat) : Prop where
  mark : ∀ p, p < cnt → d.isf.getD p false = decide (p ∈ d.free)
  nodup : d.free.Nodup
theorem nodup_le : ∀ (n : Nat) (l : List Nat), l.Nodup → (∀ x, x ∈ l → x < n) → l.length ≤ n
  | 0, [], _, _ => Nat.le_refl _
  | 0, x :: _, _, h => absurd (h x (List.mem_cons_self ..)) (Nat.not_lt_zero _)
  | n + 1, l, hn, h => by
    by_cases hm : n ∈ l
    · have h1 := nodup_le n (l.erase n) (hn.erase n) (fun x hx => by
        have h2 := h x (List.mem_of_mem_erase hx)
        have h3 : x ≠ n := fun e => by subst e; exact hn.not_mem_erase hx
        omega)
      rw [List.length_erase_of_mem hm] at h1
      omega
    · have h1 := nodup_le n l hn (fun x hx => by
        have h2 := h x hx
        have h3 : x ≠ n := fun e => by subst e; exact hm hx
        omega)
      omega
section
variable {d : Dk} {cnt : Nat}
theorem Sound.has (s : Sound d cnt) (p : Nat) : hasD d cnt p = decide (1 ≤ p ∧ p < cnt ∧ p ∉ d.free) := by
  unfold hasD
  rw [Int.toNat_natCast]
  by_cases h : 1 ≤ p ∧ p < cnt
  · rw [decide_eq_true (show (1 : Int) ≤ (p : Int) ∧ (p : Int) < cnt by omega), Bool.true_and, s.mark p h.2]
    by_cases hm : p ∈ d.free <;> simp [hm, h.1, h.2]
  · rw [decide_eq_false (show ¬ ((1 : Int) ≤ (p : Int) ∧ (p : Int) < cnt) by omega), Bool.false_and]
    exact (decide_eq_false (fun h' => h ⟨h'.1, h'.2.1⟩)).symm
theorem Sound.hasI (s : Sound d cnt) (p : Int) : hasD d cnt p = decide (1 ≤ p ∧ p < cnt ∧ p.toNat ∉ d.free) := by
  by_cases h : 1 ≤ p
  · obtain ⟨k, rfl⟩ : ∃ k : Nat, p = k := ⟨p.toNat, by omega⟩
    rw [s.has k, Int.toNat_natCast]
    exact decide_eq_decide.2 ⟨fun ⟨a, b, c⟩ => ⟨by omega, by omega, c⟩, fun ⟨a, b, c⟩ => ⟨by omega, by omega, c⟩⟩
  · unfold hasD
    rw [decide_eq_false (fun h' => h h'.1), Bool.false_and]
    exact (decide_eq_false (fun h' => h h'.1)).symm
theorem Sound.less (s : Sound d cnt) (f : Fit d cnt) {p : Nat} (hp : p < cnt) (hm : p ∉ d.free) : d.free.length < cnt := by
  have := nodup_le cnt (d.free ++ [p]) (List.nodup_append.2 ⟨s.nodup, List.pairwise_singleton _ _, fun a ha b hb => by
    rw [List.mem_singleton.1 hb]
    intro e; subst e; exact hm ha⟩) (fun x hx => by
      rcases List.mem_append.1 hx with hx | hx
      · exact (f.free x hx).2
      · rw [List.mem_singleton.1 hx]; exact hp)
  rw [List.length_append] at this
  exact this
theorem Sound.of_same {d' : Dk} (s : Sound d cnt) (h1 : d'.free = d.free) (h2 : d'.isf = d.isf) : Sound d' cnt := ⟨by rw [h1, h2]; exact s.mark, by rw [h1]; exact s.nodup⟩
theorem getD_set (l : List Bool) (i j : Nat) (b : Bool) (hi : i < l.length) : (l.set i b).getD j false = if i = j then b else l.getD j false := by
  rw [List.getD_eq_getElem?_getD, List.getD_eq_getElem?_getD, List.getElem?_set]
  by_cases h : i = j
  · subst h; rw [if_pos rfl, if_pos rfl, if_pos hi]; rfl
  · rw [if_neg h, if_neg h]
theorem Sound.give (s : Sound d cnt) (f : Fit d cnt) {p : Nat} (hp : p < cnt) (hm : p ∉ d.free) : Sound (giveD d p) cnt := by
  refine ⟨fun q hq => ?_, List.nodup_append.2 ⟨s.nodup, List.pairwise_singleton _ _, fun a ha b hb => by
    rw [List.mem_singleton.1 hb]
    intro e; subst e; exact hm ha⟩⟩
  show (d.isf.set p true).getD q false = decide (q ∈ d.free ++ [p])
  rw [getD_set _ _ _ _ (by rw [f.flags]; exact hp)]
  by_cases h : p = q
  · subst h; simp
  · rw [if_neg h, s.mark q hq]
    simp [Ne.symm h]
theorem Sound.takeF (s : Sound d cnt) (f : Fit d cnt) {l : List Nat} {p : Nat} (hl : d.free = l ++ [p]) : Sound (takeF d l p) cnt := by
  have hn := s.nodup
  rw [hl] at hn
  have hn2 := List.nodup_append.1 hn
  have hp := f.free p (by rw [hl]; exact List.mem_append_right _ (List.mem_singleton.2 rfl))
  refine ⟨fun q hq => ?_, hn2.1⟩
  show (d.isf.set p false).getD q false = decide (q ∈ l)
  rw [getD_set _ _ _ _ (by rw [f.flags]; exact hp.2)]
  by_cases h : p = q
  · subst h
    rw [if_pos rfl]
    exact (decide_eq_false (fun hm => hn2.2.2 p hm p (List.mem_singleton.2 rfl) rfl)).symm
  · rw [if_neg h, s.mark q hq, hl]
    simp [Ne.symm h]
theorem Sound.takeN (s : Sound d cnt) (f : Fit d cnt) (hl : d.free = []) : Sound (takeN d cnt) (cnt + 1) := by
  refine ⟨fun q hq => ?_, s.nodup⟩
  show (d.isf ++ [false]).getD q false = decide (q ∈ d.free)
  rw [hl, List.getD_eq_getElem?_getD]
  by_cases h : q < cnt
  · rw [List.getElem?_append_left (by rw [f.flags]; exact h), ← List.getD_eq_getElem?_getD, s.mark q h, hl]
  · have e : q = d.isf.length := by rw [f.flags]; omega
    rw [e, List.getElem?_append_right (Nat.le_refl _), Nat.sub_self]
    simp
end
/-- a disk where nothing is armed -/
structure Still (d : Dk) (most : Int) (free : List Nat) (puts : Int) : Prop where
  most : d.most = most
  free : d.free = free
  wl : d.wl = -1
  puts : d.puts = puts
theorem failN_off : failN (-1) = -1 := rfl
theorem failN_still {n : Int} (h : n = -1) : failN n = -1 := by rw [h]; rfl
theorem newD_is (pages : Int) : newD pages = { bareD pages with wl := -1, puts := 1, x := UK.wr (bareD pages).x 0 (pageL 0 (headL (bareD pages) 1)) } := by
  unfold newD flushD
  rw [if_neg (show ¬ (bareD pages).wl = 0 by show ¬ (-1 : Int) = 0; omega)]
  rfl
theorem newD_rl (pages : Int) : (newD pages).rl = -1 := by rw [newD_is]; rfl
theorem newD_reads (pages : Int) : (newD pages).reads = 0 := by rw [newD_is]; rfl
theorem newD_still (pages : Int) : Still (newD pages) (clampD pages) [] 1 := by rw [newD_is]; exact ⟨rfl, rfl, rfl, rfl⟩
theorem newD_sound (pages : Int) : Sound (newD pages) 1 := by
  rw [newD_is]
  refine ⟨fun p hp => ?_, List.Pairwise.nil⟩
  obtain rfl : p = 0 := by omega
  rfl
section
variable {d : Dk} {most : Int} {free : List Nat} {puts : Int}
theorem Still.takeN (s : Still d most free puts) (cnt : Nat) : Still (takeN d cnt) most free (puts + 1) := ⟨s.most, s.free, failN_still s.wl, congrArg (· + 1) s.puts⟩
theorem Still.takeF (s : Still d most free puts) (l : List Nat) (p : Nat) : Still (takeF d l p) most l (puts + 1) := ⟨s.most, rfl, failN_still s.wl, congrArg (· + 1) s.puts⟩
theorem Still.give (s : Still d most free puts) (p : Nat) : Still (giveD d p) most (free ++ [p]) (puts + 1) := ⟨s.most, congrArg (· ++ [p]) s.free, failN_still s.wl, congrArg (· + 1) s.puts⟩
theorem Still.write (s : Still d most free puts) (p : Nat) (t : List UInt8) : Still (writeD d p t) most free (puts + 1) := ⟨s.most, s.free, failN_still s.wl, congrArg (· + 1) s.puts⟩
theorem Still.ne (s : Still d most free puts) : d.wl ≠ 0 := by rw [s.wl]; omega
end
/-- a text as long as a page's bytes are -/
def fullL (s : List UInt8) : List UInt8 := s.take 504 ++ UK.zeros (504 - (s.take 504).length)
theorem fullL_length (s : List UInt8) : (fullL s).length = 504 := by
  unfold fullL
  rw [List.length_append, UK.zeros_length, List.length_take]
  omega
theorem make_full (w : World) : (Instr.makeSlice 36 (.int .i64 504) (.int .i64 504)).run Tryd.prog w = .ok (.slice (some ⟨w.heap.size, 0, none⟩) 504 504) (w.alloc (.cells (UK.bcells (UK.zeros 504)) 5)) := by kernel_rfl
theorem full_any (s : List UInt8) (W : World) :
    Calls Tryd.prog 16 #[.string (str s)] W fun e w' => e = .returned (.string (str (fullL s))) ∧ Below W.heap.size W w' := by
  have hmk := make_full
  have hc := cut_any s 504 W (by omega)
  have HF : Hid (fullL s = s.take 504 ++ UK.zeros (504 - (s.take 504).length)) := rfl
  rw [show (504 : Int).toNat = 504 from rfl] at hc
  have hl : (s.take 504).length ≤ 504 := by rw [List.length_take]; omega
  generalize s.take 504 = t at hc HF hl
  have hN := bytes_new W (UK.zeros 504)
  have hcp := fun cc => UK.run_copy (P := Tryd.prog) (dT := 36) (sT := 9) (ty := 3) Tryd.underlying36 (fun w => by kernel_rfl) hN 0 504 cc t hl (by rw [UK.zeros_length]; omega)
  have h2 := hN.setCells t 0 (by rw [UK.zeros_length]; omega)
  have b2 : Below W.heap.size W ((W.alloc (.cells (UK.bcells (UK.zeros 504)) 5)).setCells W.heap.size 0 (UK.cellsOf t)) :=
    ((Below.refl _ _).alloc (Nat.le_refl _) _).trans ((Only.setCells (UK.cellsOf t) 0 (Only.refl W.heap.size _)).below (by simp) (Nat.le_refl _))
  have hcv := fun cc => UK.run_window (P := Tryd.prog) (src := 36) (dst := 9) Tryd.underlying36 Tryd.underlying5 Tryd.underlying9 h2 0 504 cc (by rw [UK.wr_length _ _ _ (by rw [UK.zeros_length]; omega), UK.zeros_length]; omega)
  have HX : Hid (((UK.wr (UK.zeros 504) 0 t).drop 0).take 504 = fullL s) := by
    show _ = _
    rw [HF.out, List.drop_zero, List.take_of_length_le (by rw [UK.wr_length _ _ _ (by rw [UK.zeros_length]; omega), UK.zeros_length]; omega)]
    unfold UK.wr UK.zeros
    rw [List.take_zero, List.nil_append, Nat.zero_add, List.drop_replicate]
  rw [HX.out] at hcv
  generalize hw2 : (W.alloc (.cells (UK.bcells (UK.zeros 504)) 5)).setCells W.heap.size 0 (UK.cellsOf t) = w2 at hcp b2 hcv
  clear hw2 h2 hN HX HF
  go_enter Tryd.func16, Tryd.ntmps16
  go_wp2_with fail
  refine hc.mono ?_
  rintro e w' ⟨rfl, rfl⟩
  go_wp2
  go_ret
  exact ⟨rfl, b2⟩
set_option maxRecDepth 100000 in
theorem awake_any (W : World) (ht : TabAt W) : Calls Tryd.prog 9 #[] W fun e w' => e = .returned (.bool true) ∧ Below W.heap.size W w' := by
  have hnew := dd_new W 3 ht (fun k => k < W.heap.size) (fun _ h => h)
  have st1 := newD_still 3
  have so1 := newD_sound 3
  rw [show clampD 3 = 3 from rfl] at st1
  generalize newD 3 = d1 at hnew st1 so1
  go_enter Tryd.func9, Tryd.ntmps9
  go_wp2_with fail
  refine hnew.mono ?_
  rintro e w1 ⟨rfl, h1, b1⟩
  have b1 := Kept.of_below (S := fun k => k < W.heap.size) b1 (fun _ h => h)
  generalize hD : W.heap.size = D at h1 b1 ⊢
  go_wp2_with fail
  refine (dd_take_new h1 (by rw [st1.puts]; omega) st1.free (by rw [st1.most]; omega) st1.ne).mono ?_
  rintro e w2 ⟨rfl, h2, b2⟩
  have st2 := st1.takeN 1
  have so2 := so1.takeN h1.fit st1.free
  generalize takeN d1 1 = d2 at h2 st2 so2
  go_wp2_with fail
  refine (dd_take_new h2 (by rw [st2.puts]; omega) st2.free (by rw [st2.most]; omega) st2.ne).mono ?_
  rintro e w3 ⟨rfl, h3, b3⟩
  have st3 := st2.takeN 2
  have so3 := so2.takeN h2.fit st2.free
  generalize takeN d2 2 = d3 at h3 st3 so3
  go_wp2_with fail
  refine (dd_take_full h3 (by rw [st3.most, st3.free]; rfl)).mono ?_
  rintro e w4 ⟨rfl, h4, b4⟩
  have hh : hasD d3 3 1 = true := by
    rw [show hasD d3 3 1 = hasD d3 3 ((1 : Nat) : Int) from rfl, so3.has 1, st3.free]; rfl
  go_wp2_with fail
  refine (dd_give_yes h4 (by rw [st3.puts]; omega) 1 hh (by rw [st3.free]; decide) st3.ne).mono ?_
  rintro e w5 ⟨rfl, h5, b5⟩
  have st5 := st3.give 1
  generalize giveD d3 1 = d5 at h5 st5
  go_wp2_with fail
  refine (dd_take_free h5 (by rw [st5.puts]; omega) [] 1 st5.free st5.ne).mono ?_
  rintro e w6 ⟨rfl, h6, b6⟩
  have st6 := st5.takeF [] 1
  generalize takeF d5 [] 1 = d6 at h6 st6
  have hr := dd_room h6
  rw [st6.most, st6.free] at hr
  go_wp2_with fail
  refine hr.mono ?_
  rintro e w7 ⟨rfl, q, rfl⟩
  go_wp2
  go_ret
  exact ⟨rfl, by rw [hD]; exact UK.belowN ((((((b1.trans b2).trans b3).trans b4).trans b5).trans b6).below (fun _ h => h)) q⟩
end Go.Proofs.YtamnhpijeiigcaaDoor
