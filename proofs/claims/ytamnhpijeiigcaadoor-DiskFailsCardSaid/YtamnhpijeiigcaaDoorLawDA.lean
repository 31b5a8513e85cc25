/-
  DiskFails, walked: it returns true.
-/
import Derived.Test.YtamnhpijeiigcaaDoorDiskQ
import Derived.BigRegion
namespace Go.Proofs.YtamnhpijeiigcaaDoor
open Go.RowKit
open UK (str BytesAt nth Only w32 Row)
open Go.BigFrame
/-- how many work yet, behind i of them -/
def cdn (n i : Nat) : Int := if i ≤ n then (n : Int) - i else -1
theorem cdn_fail (n i : Nat) : failN (cdn n i) = cdn n (i + 1) := by
  unfold failN cdn
  by_cases h : i ≤ n
  · rw [if_pos h]
    by_cases h2 : i + 1 ≤ n
    · rw [if_pos h2, if_neg (by omega), if_pos (by omega)]; omega
    · rw [if_neg h2, if_pos (by omega)]
  · rw [if_neg h, if_neg (by omega), if_neg (by omega), if_neg (by omega)]
theorem cdn_zero (n i : Nat) : cdn n i = 0 ↔ i = n := by
  unfold cdn
  split <;> omega
theorem cdn_start (n : Nat) : armN (n : Int) = cdn n 0 := by
  unfold armN cdn
  rw [if_pos (Nat.zero_le _)]; omega
/-- a disk of two pages whose second one has this text -/
structure Has1 (d : Dk) (last : List UInt8) (wl rl : Int) (i : Nat) : Prop where
  free : d.free = []
  so : Sound d 2
  wl : d.wl = wl
  rl : d.rl = rl
  puts : d.puts ≤ 10 + i
  reads : d.reads ≤ i
  look : lookL d.x 1 = last
  ok : readE d.x 1 = 0
namespace Has1
variable {d : Dk} {last : List UInt8} {wl rl : Int} {i : Nat}
theorem has (h : Has1 d last wl rl i) : hasD d 2 ((1 : Nat) : Int) = true := by
  rw [h.so.has 1, h.free]; rfl
theorem write (h : Has1 d last wl rl i) (f : Fit d 2) (t : List UInt8) (ht : t.length = 504) : Has1 (writeD d 1 t) t (failN wl) rl (i + 1) := by
  have := look_wr d.x 1 (by omega) t ht (by rw [f.len]; omega)
  exact ⟨h.free, h.so.of_same rfl rfl, congrArg failN h.wl, h.rl, (by have := h.puts; show d.puts + 1 ≤ _; omega), (by have := h.reads; show d.reads ≤ _; omega), this.1, this.2⟩
theorem writeF (h : Has1 d last wl rl i) : Has1 { d with wl := -1 } last (-1) rl (i + 1) :=
  ⟨h.free, h.so.of_same rfl rfl, rfl, h.rl, (by have := h.puts; show d.puts ≤ _; omega), (by have := h.reads; show d.reads ≤ _; omega), h.look, h.ok⟩
theorem read (h : Has1 d last wl rl i) : Has1 (readD d) last wl (failN rl) (i + 1) :=
  ⟨h.free, h.so.of_same rfl rfl, h.wl, congrArg failN h.rl, (by have := h.puts; show d.puts ≤ _; omega), (by have := h.reads; show d.reads + 1 ≤ _; omega), h.look, h.ok⟩
theorem readF (h : Has1 d last wl rl i) : Has1 { d with rl := -1 } last wl (-1) (i + 1) :=
  ⟨h.free, h.so.of_same rfl rfl, h.wl, rfl, (by have := h.puts; show d.puts ≤ _; omega), (by have := h.reads; show d.reads ≤ _; omega), h.look, h.ok⟩
theorem arms (h : Has1 d last wl rl i) (a b : Int) : Has1 { d with rl := a, wl := b } last b a i :=
  ⟨h.free, h.so.of_same rfl rfl, rfl, rfl, h.puts, h.reads, h.look, h.ok⟩
theorem more (h : Has1 d last wl rl i) {j : Nat} (hj : i ≤ j) : Has1 d last wl rl j :=
  ⟨h.free, h.so, h.wl, h.rl, (by have := h.puts; omega), (by have := h.reads; omega), h.look, h.ok⟩
end Has1
theorem wrap8 (a : UInt8) : IntKind.u8.wrap (IntKind.i64.wrap (a.toNat : Int)) = (a.toNat : Int) := by
  have h1 := a.toNat_lt
  have e1 : IntKind.i64.wrap (a.toNat : Int) = (a.toNat : Int) := by rw [IntKind.wrap_i64]; omega
  rw [e1]
  generalize a.toNat = k at h1
  show (k : Int) % 256 = k
  omega
theorem one_drawn (a : UInt8) (W : World) :
    (convert 36 9 (.slice (some ⟨W.heap.size, 0, none⟩) 1 1)).run Tryd.prog (W.alloc (.cells #[.int .u8 (IntKind.u8.wrap (IntKind.i64.wrap (a.toNat : Int)))] 5)).drew =
      .ok (.string (str [a])) (W.alloc (.cells #[.int .u8 (IntKind.u8.wrap (IntKind.i64.wrap (a.toNat : Int)))] 5)).drew := by
  rw [wrap8 a, show (W.alloc (.cells #[.int .u8 (a.toNat : Int)] 5)).drew = W.drew.alloc (.cells #[.int .u8 (a.toNat : Int)] 5) from rfl, show W.heap.size = W.drew.heap.size from rfl]
  exact run_one W.drew a
set_option maxHeartbeats 1000000 in
set_option maxRecDepth 100000 in
theorem da_any (n m : Nat) (hn : n ≤ 20) (hm : m ≤ 20) (s : List UInt8) (W : World) (ht : TabAt W) :
    Calls Tryd.prog 4 #[.int .i64 n, .int .i64 m, .string (str s)] W fun e w' => e = .returned (.bool true) ∧ Below W.heap.size W w' := by
  have hnew := dd_new W 4 ht (fun k => k < W.heap.size) (fun _ h => h)
  have st1 := newD_still 4
  have so1 := newD_sound 4
  have rl1 := newD_rl 4
  have re1 := newD_reads 4
  rw [show clampD 4 = 4 from rfl] at st1
  generalize newD 4 = d1 at hnew st1 so1 rl1 re1
  obtain ⟨D, HD⟩ : ∃ D, Hid (W.heap.size = D) := ⟨_, rfl⟩
  rw [HD.out] at hnew
  go_enter Tryd.func4, Tryd.ntmps4
  go_wp2_with fail
  refine hnew.mono ?_
  rintro e w1 ⟨rfl, h1, b1⟩
  clear hnew
  have st2 := st1.takeN 1
  have so2 := so1.takeN h1.fit st1.free
  go_wp2_with fail
  refine (dd_take_new h1 (by rw [st1.puts]; omega) st1.free (by rw [st1.most]; omega) st1.ne).mono ?_
  rintro e w2 ⟨rfl, h2, k2⟩
  have b2 := b1.trans (k2.below (fun _ h => h))
  have rl2 : (takeN d1 1).rl = -1 := rl1
  have re2 : (takeN d1 1).reads = 0 := re1
  generalize takeN d1 1 = d2 at h2 st2 so2 rl2 re2
  clear h1 st1 so1 rl1 re1 b1 k2
  replace h2 : DD (fun k => k < D) w2 D d2 2 := h2
  replace st2 : Still d2 4 [] 2 := st2
  replace so2 : Sound d2 2 := so2
  have hDs : D ≤ w2.heap.size := by rw [← HD.out]; exact b2.size
  have hfu := fun w => full_any [111, 108, 100] w
  have hol := fullL_length [111, 108, 100]
  generalize fullL [111, 108, 100] = old at hfu hol
  go_wp2_with fail
  refine (hfu _).mono ?_
  rintro e w3 ⟨rfl, b3⟩
  have h3 := h2.below b3
  have hh : hasD d2 2 ((1 : Nat) : Int) = true := by rw [so2.has 1, st2.free]; rfl
  have b3 := b2.trans (b3.mono hDs)
  go_wp2_with fail
  refine (dd_write_yes h3 (by rw [st2.puts]; omega) 1 hh st2.ne old hol).mono ?_
  rintro e w4 ⟨rfl, h4, k4⟩
  have b4 := b3.trans (k4.below (fun _ h => h))
  have hI : Has1 (writeD d2 1 old) old (-1) (-1) 0 := by
    have := look_wr d2.x 1 (by omega) old hol (by rw [h2.fit.len]; omega)
    exact ⟨st2.free, so2.of_same rfl rfl, failN_still st2.wl, rl2, (by show d2.puts + 1 ≤ _; rw [st2.puts]; omega), (by show d2.reads ≤ _; rw [re2]; omega), this.1, this.2⟩
  generalize writeD d2 1 old = d4 at h4 hI
  clear h2 h3 st2 so2 rl2 re2 b2 b3 k4
  go_wp2_with fail
  refine (dd_failRead h4 n (by omega)).mono ?_
  rintro e w5 ⟨rfl, h5, k5⟩
  go_wp2_with fail
  refine (dd_failWrite h5 m (by omega)).mono ?_
  rintro e w6 ⟨rfl, h6, k6⟩
  have b6 := b4.trans ((k5.trans k6).below (fun _ h => h))
  have hI6 := hI.arms (armN n) (armN m)
  rw [cdn_start, cdn_start] at hI6
  rw [cdn_start, cdn_start] at h6
  have hDs6 : D ≤ w6.heap.size := by rw [← HD.out]; exact b6.size
  clear h4 h5 k5 k6 b4 hI hDs
  go_wp2_with fail
  refine (hfu _).mono ?_
  rintro e w7 ⟨rfl, b7⟩
  have h7 := h6.below b7
  have b7 := b6.trans (b7.mono hDs6)
  clear h6 b6 hDs6 hfu
  go_wp2_with fail
  go_loopw [10, 11] (fun lv iv wr => ∃ (i : Nat) (d : Dk) (last : List UInt8), lv = .string (str last) ∧ iv = .int .i64 i ∧ i ≤ 25 ∧ DD (fun k => k < D) wr D d 2 ∧ Has1 d last (cdn m i) (cdn n i) (2 * i) ∧ Below D W wr) (fun _ v _ => 26 - (intOf v).toNat)
  case atStart => exact ⟨0, _, old, rfl, rfl, by omega, h7, hI6, b7⟩
  case round =>
    clear h7 hI6 b7
    obtain ⟨i, d, last, rfl, rfl, hi, hd, hI, hb⟩ := hrel
    have hDs : D ≤ wr.heap.size := by rw [← HD.out]; exact hb.size
    by_cases hlt : i < 25
    · have hcut := fun w => cut_any s 20 w (by omega)
      have hscl : (s.take (20 : Int).toNat).length ≤ 20 := by rw [List.length_take]; exact Nat.min_le_left _ _
      generalize s.take (20 : Int).toNat = sc at hcut hscl
      go_wp2_with fail
      obtain ⟨c8, HC⟩ : ∃ c8 : UInt8, 97 + (i : Int) = (c8.toNat : Int) := ⟨UInt8.ofNat (97 + i), by simp; omega⟩
      have hcv8 := one_drawn c8
      go_region_with (first
        | (go_at_call 19; refine (hcut _).mono ?_; rintro e w' ⟨rfl, rfl⟩)
        | (go_at_call 16; refine (full_any (sc ++ [c8]) _).mono ?_; rintro e w3 ⟨rfl, b3⟩))
      all_goals
        have hb3 := (((Below.refl wr.heap.size wr).alloc (Nat.le_refl _) _).drew).trans (b3.mono (by simp))
        have hd3 := hd.below hb3
        have b3D := hb.trans (hb3.mono hDs)
        have htl := fullL_length (sc ++ [c8])
        generalize fullL (sc ++ [c8]) = t at htl ⊢
        clear hb3 b3 hcv8 hcut HC hscl hd hb
        have hpu := hI.puts
        have hre := hI.reads
        have hhas := hI.has
        by_cases him : i = m
        · have hbm : ((i : Int) == (m : Int)) = true := by rw [him]; exact beq_self_eq_true _
          have hw0 : d.wl = 0 := by rw [hI.wl]; exact (cdn_zero m i).2 him
          have hI2 := hI.writeF
          rw [show (-1 : Int) = cdn m (i + 1) by rw [← cdn_fail, (cdn_zero m i).2 him]; rfl] at hI2
          clear him
          go_wp2_with fail
          refine (dd_write_fail hd3 1 hhas hw0 t htl).mono ?_
          rintro e w4 ⟨rfl, d4, k4⟩
          rw [show (-1 : Int) = cdn m (i + 1) by rw [← cdn_fail, ← hI.wl, hw0]; rfl] at d4
          have b4 := b3D.trans (k4.below (fun _ h => h))
          generalize { d with wl := cdn m (i + 1) } = d5 at hI2 d4
          clear hd3 k4 hw0 hhas hpu hre hI
          have hre := hI2.reads
          have hhas := hI2.has
          by_cases hin : i = n
          · have hbn : ((i : Int) == (n : Int)) = true := by rw [hin]; exact beq_self_eq_true _
            have hr0 : d5.rl = 0 := by rw [hI2.rl]; exact (cdn_zero n i).2 hin
            have hI3 := hI2.readF
            rw [show (-1 : Int) = cdn n (i + 1) by rw [← cdn_fail, (cdn_zero n i).2 hin]; rfl] at hI3
            clear hin
            go_wp2_with fail
            refine (dd_read_fail d4 1 hhas hr0).mono ?_
            rintro e w5 ⟨rfl, d6, k5⟩
            rw [show (-1 : Int) = cdn n (i + 1) by rw [← cdn_fail, ← hI2.rl, hr0]; rfl] at d6
            go_wp2
            go_roundw
            case rel => exact ⟨i + 1, _, last, rfl, by go_num, by omega, d6, hI3.more (by omega), b4.trans (k5.below (fun _ h => h))⟩
            case measure => simp [intOf]; omega
          · have hbn : ((i : Int) == (n : Int)) = false := beq_eq_false_iff_ne.2 (by omega)
            have hr0 : d5.rl ≠ 0 := by rw [hI2.rl]; exact fun h => hin ((cdn_zero n i).1 h)
            have hI3 := hI2.read
            rw [cdn_fail] at hI3
            have hT := dd_read_yes d4 (by omega) 1 hhas hr0
            rw [hI2.look, hI2.ok] at hT
            clear hin
            go_wp2_with fail
            refine hT.mono ?_
            rintro e w5 ⟨rfl, d6, k5⟩
            go_wp2
            go_roundw
            case rel => exact ⟨i + 1, _, last, rfl, by go_num, by omega, d6, hI3.more (by omega), b4.trans (k5.below (fun _ h => h))⟩
            case measure => simp [intOf]; omega
        · have hbm : ((i : Int) == (m : Int)) = false := beq_eq_false_iff_ne.2 (by omega)
          have hw0 : d.wl ≠ 0 := by rw [hI.wl]; exact fun h => him ((cdn_zero m i).1 h)
          have hI2 := hI.write hd3.fit t htl
          rw [cdn_fail] at hI2
          clear him
          go_wp2_with fail
          refine (dd_write_yes hd3 (by omega) 1 hhas hw0 t htl).mono ?_
          rintro e w4 ⟨rfl, d4, k4⟩
          have b4 := b3D.trans (k4.below (fun _ h => h))
          generalize writeD d 1 t = d5 at hI2 d4
          clear hd3 k4 hw0 hhas hpu hre hI
          have hre := hI2.reads
          have hhas := hI2.has
          by_cases hin : i = n
          · have hbn : ((i : Int) == (n : Int)) = true := by rw [hin]; exact beq_self_eq_true _
            have hr0 : d5.rl = 0 := by rw [hI2.rl]; exact (cdn_zero n i).2 hin
            have hI3 := hI2.readF
            rw [show (-1 : Int) = cdn n (i + 1) by rw [← cdn_fail, (cdn_zero n i).2 hin]; rfl] at hI3
            clear hin
            go_wp2_with fail
            refine (dd_read_fail d4 1 hhas hr0).mono ?_
            rintro e w5 ⟨rfl, d6, k5⟩
            rw [show (-1 : Int) = cdn n (i + 1) by rw [← cdn_fail, ← hI2.rl, hr0]; rfl] at d6
            go_wp2
            go_roundw
            case rel => exact ⟨i + 1, _, t, rfl, by go_num, by omega, d6, hI3.more (by omega), b4.trans (k5.below (fun _ h => h))⟩
            case measure => simp [intOf]; omega
          · have hbn : ((i : Int) == (n : Int)) = false := beq_eq_false_iff_ne.2 (by omega)
            have hr0 : d5.rl ≠ 0 := by rw [hI2.rl]; exact fun h => hin ((cdn_zero n i).1 h)
            have hI3 := hI2.read
            rw [cdn_fail] at hI3
            have hT := dd_read_yes d4 (by omega) 1 hhas hr0
            rw [hI2.look, hI2.ok] at hT
            clear hin
            go_wp2_with fail
            refine hT.mono ?_
            rintro e w5 ⟨rfl, d6, k5⟩
            go_wp2
            go_roundw
            case rel => exact ⟨i + 1, _, t, rfl, by go_num, by omega, d6, hI3.more (by omega), b4.trans (k5.below (fun _ h => h))⟩
            case measure => simp [intOf]; omega
    · obtain rfl : i = 25 := by omega
      go_wp2_with fail
      refine (awake_any wr hd.tab).mono ?_
      rintro e w3 ⟨rfl, b3⟩
      go_wp2
      go_ret
      exact ⟨rfl, by rw [HD.out]; exact hb.trans (b3.mono hDs)⟩
theorem da_walk (W : World) (ht : TabAt W) (n : Int) (_hn : (Lit.int .i64 n).wf = true) (m : Int) (_hm : (Lit.int .i64 m).wf = true) (s : ByteArray) :
    Calls Tryd.prog 4 #[.int .i64 n, .int .i64 m, .string s] W fun e w' => e = .returned (.bool true) ∧ Below W.heap.size W w' := by
  rw [UK.str_self s]
  generalize s.data.toList = l
  by_cases hg : 0 ≤ n ∧ n ≤ 20 ∧ 0 ≤ m ∧ m ≤ 20
  · obtain ⟨a, rfl⟩ : ∃ a : Nat, n = a := ⟨n.toNat, by omega⟩
    obtain ⟨b, rfl⟩ : ∃ b : Nat, m = b := ⟨m.toNat, by omega⟩
    exact da_any a b (by omega) (by omega) l W ht
  · have hg2 : n < 0 ∨ (0 ≤ n ∧ 20 < n) ∨ (0 ≤ n ∧ n ≤ 20 ∧ m < 0) ∨ (0 ≤ n ∧ n ≤ 20 ∧ 0 ≤ m ∧ 20 < m) := by omega
    clear hg
    rcases hg2 with h1 | ⟨h1, h2⟩ | ⟨h1, h2, h3⟩ | ⟨h1, h2, h3, h4⟩
    all_goals
      go_enter Tryd.func4, Tryd.ntmps4
      go_wp2_with fail
      all_goals
        refine (awake_any W ht).mono ?_
        rintro e w3 ⟨rfl, b3⟩
        go_wp2
        go_ret
        exact ⟨rfl, b3⟩
end Go.Proofs.YtamnhpijeiigcaaDoor
