/-
  DiskSpoilt, walked: it returns true.
-/
import Derived.Test.YtamnhpijeiigcaaDoorDiskQ
namespace Go.Proofs.YtamnhpijeiigcaaDoor
open Go.RowKit
open UK (str BytesAt nth Only w32 Row)
open Go.BigFrame
/-- a disk of three pages: the pages p and q have these bytes -/
structure Two (d : Dk) (p q : Nat) (g h : List UInt8) (n : Nat) : Prop where
  free : d.free = []
  so : Sound d 3
  wl : d.wl = -1
  rl : d.rl = -1
  puts : d.puts ≤ 10
  reads : d.reads ≤ n
  pg : pgOf d.x p = g
  qg : pgOf d.x q = h
namespace Two
variable {d : Dk} {p q n : Nat} {g h : List UInt8}
theorem has (t : Two d p q g h n) (k : Nat) (h1 : 1 ≤ k) (h2 : k < 3) : hasD d 3 (k : Int) = true := by
  rw [t.so.has k, t.free]; simp [h1, h2]
theorem swap (t : Two d p q g h n) : Two d q p h g n := ⟨t.free, t.so, t.wl, t.rl, t.puts, t.reads, t.qg, t.pg⟩
theorem read (t : Two d p q g h n) : Two (readD d) p q g h (n + 1) :=
  ⟨t.free, t.so.of_same rfl rfl, t.wl, failN_still t.rl, t.puts, (by have := t.reads; show d.reads + 1 ≤ _; omega), t.pg, t.qg⟩
theorem spoil (t : Two d p q g h n) (f : Fit d 3) (hpq : p ≠ q) (hp : p < 3) (hq : q < 3) (k : Nat) (hk : k < 512) (b : UInt8) : Two (spoilD d (512 * p + k) b) p q (g.set k (UK.xr8 (nth g k) b)) h n := by
  have hl := f.len
  have e1 := pgOf_set d.x p (512 * p + k) (UK.xr8 (nth d.x (512 * p + k)) b) (by omega) (by omega)
  have e2 := pgOf_set d.x q (512 * p + k) (UK.xr8 (nth d.x (512 * p + k)) b) (by omega) (by omega)
  rw [if_pos (by omega), show (512 * p + k) % 512 = k by omega, ← nth_pg d.x p k hk, t.pg] at e1
  rw [if_neg (by omega), t.qg] at e2
  rw [← nth_pg d.x p k hk, t.pg] at e2
  refine ⟨t.free, t.so.of_same rfl rfl, t.wl, t.rl, t.puts, t.reads, ?_, ?_⟩
  · show pgOf (d.x.set (512 * p + k) (UK.xr8 (nth d.x (512 * p + k)) b)) p = _
    rw [← nth_pg d.x p k hk, t.pg]; exact e1
  · show pgOf (d.x.set (512 * p + k) (UK.xr8 (nth d.x (512 * p + k)) b)) q = _
    rw [← nth_pg d.x p k hk, t.pg]; exact e2
theorem look (t : Two d p q g h n) : lookL d.x p = (if okP g p then g.drop 8 else []) ∧ readE d.x p = if okP g p then 0 else 8 := by
  unfold lookL readE
  rw [okB_pg, loadL_pg, t.pg]
  exact ⟨rfl, rfl⟩
end Two
theorem nz8 (b : UInt8) : ((b.toNat : Int) != 0) = (b != 0) := by
  by_cases h : b = 0
  · subst h; rfl
  · have h1 : (b != 0) = true := by simpa using h
    rw [h1, bne_iff_ne]
    intro h2
    exact h (UInt8.toNat_inj.1 (by simpa using h2))
/-- does a spoilt byte count? the law's own question -/
theorem hit_yes (at_ i p r : Nat) (hp : 512 * p + r = at_) (hr : r < 512) (h : hitB r i = true) :
    (at_ : Int) + i < (1 + (p : Int)) * 512 ∧ (decide ((at_ : Int) % 512 < 4) == decide (((at_ : Int) + i) % 512 < 4)) = true := by
  have h0 := hit_lt h
  unfold hitB at h
  rw [Bool.and_eq_true] at h
  rw [show decide ((at_ : Int) % 512 < 4) = decide (r < 4) from decide_eq_decide.2 (by omega), show decide (((at_ : Int) + i) % 512 < 4) = decide (r + i < 4) from decide_eq_decide.2 (by omega)]
  exact ⟨by omega, h.2⟩
theorem hit_no (at_ i p r : Nat) (hp : 512 * p + r = at_) (hr : r < 512) (h : hitB r i = false) :
    (1 + (p : Int)) * 512 ≤ (at_ : Int) + i ∨ ((at_ : Int) + i < (1 + (p : Int)) * 512 ∧ (decide ((at_ : Int) % 512 < 4) == decide (((at_ : Int) + i) % 512 < 4)) = false) := by
  unfold hitB at h
  by_cases h1 : r + i < 512
  · rw [decide_eq_true h1, Bool.true_and] at h
    rw [show decide ((at_ : Int) % 512 < 4) = decide (r < 4) from decide_eq_decide.2 (by omega), show decide (((at_ : Int) + i) % 512 < 4) = decide (r + i < 4) from decide_eq_decide.2 (by omega)]
    exact .inr ⟨by omega, h⟩
  · exact .inl (by omega)
set_option maxHeartbeats 1000000 in
set_option maxRecDepth 100000 in
theorem ds_any (pz r : Nat) (hpz : pz < 2) (hr : r < 512) (turn : UInt32) (s : List UInt8) (W : World) (ht : TabAt W) :
    Calls Tryd.prog 5 #[.string (str s), .int .i64 ((512 * pz + r : Nat) : Int), .int .u32 turn.toNat] W fun e w' => e = .returned (.bool true) ∧ Below W.heap.size W w' := by
  have hnew := dd_new W 4 ht (fun k => k < W.heap.size) (fun _ h => h)
  have st1 := newD_still 4
  have so1 := newD_sound 4
  have rl1 := newD_rl 4
  have re1 := newD_reads 4
  rw [show clampD 4 = 4 from rfl] at st1
  generalize newD 4 = d1 at hnew st1 so1 rl1 re1
  obtain ⟨D, HD⟩ : ∃ D, Hid (W.heap.size = D) := ⟨_, rfl⟩
  rw [HD.out] at hnew
  obtain ⟨at_, HA⟩ : ∃ a, Hid (512 * pz + r = a) := ⟨_, rfl⟩
  have hat : at_ < 1024 := by have := HA.out; omega
  rw [HA.out]
  go_enter Tryd.func5, Tryd.ntmps5
  go_wp2_with fail
  refine hnew.mono ?_
  rintro e w1 ⟨rfl, h1, b1⟩
  clear hnew
  go_wp2_with fail
  go_loopw [8] (fun v wr => ∃ (i : Nat) (d : Dk), v = .int .i64 i ∧ i ≤ 2 ∧ DD (fun k => k < D) wr D d (i + 1) ∧ Still d 4 [] (1 + i) ∧ Sound d (i + 1) ∧ d.rl = -1 ∧ d.reads = 0 ∧ Below D W wr) (fun v _ => 3 - (intOf v).toNat)
  case atStart => exact ⟨0, d1, rfl, by omega, h1, st1, so1, rl1, re1, b1⟩
  case round =>
    clear h1 st1 so1 rl1 re1 b1
    obtain ⟨i, d, rfl, hi, hd, st, so, rl, re, hb⟩ := hrel
    by_cases hlt : i < 2
    · have st2 := st.takeN (i + 1)
      have so2 := so.takeN hd.fit st.free
      have rl2 : (takeN d (i + 1)).rl = -1 := rl
      have re2 : (takeN d (i + 1)).reads = 0 := re
      go_wp2_with fail
      refine (dd_take_new hd (by rw [st.puts]; omega) st.free (by rw [st.most]; omega) st.ne).mono ?_
      rintro e w2 ⟨rfl, h2, k2⟩
      go_wp2
      go_roundw
      case rel => exact ⟨i + 1, _, by go_num, by omega, h2, by rw [show (1 : Int) + ((i + 1 : Nat) : Int) = 1 + (i : Int) + 1 by omega]; exact st2, so2, rl2, re2, hb.trans (k2.below (fun _ h => h))⟩
      case measure => simp [intOf]; omega
    · obtain rfl : i = 2 := by omega
      have hDs : D ≤ wr.heap.size := by rw [← HD.out]; exact hb.size
      go_wp2_with fail
      refine (full_any s _).mono ?_
      rintro e w3 ⟨rfl, b3⟩
      have htl := fullL_length s
      generalize fullL s = t at htl ⊢
      have hd3 : DD (fun k => k < D) w3 D d 3 := hd.below b3
      have so3 : Sound d 3 := so
      have b3 := hb.trans (b3.mono hDs)
      have hh1 : hasD d 3 ((1 : Nat) : Int) = true := by rw [so3.has 1, st.free]; rfl
      have stp := st.puts
      have st4 := st.write 1 t
      have so4 : Sound (writeD d 1 t) 3 := so3.of_same rfl rfl
      have hh2 : hasD (writeD d 1 t) 3 ((2 : Nat) : Int) = true := by rw [so4.has 2, st4.free]; rfl
      have hlen := hd3.fit.len
      have hpl := fun p => pageL_length p t (by omega)
      have q1 : pgOf (writeD (writeD d 1 t) 2 t).x 1 = pageL 1 t := by
        show pgOf (UK.wr (UK.wr d.x (512 * 1) (pageL 1 t)) (512 * 2) (pageL 2 t)) 1 = _
        have hw := UK.wr_length d.x (512 * 1) (pageL 1 t) (by rw [hpl]; omega)
        rw [pgOf_wr _ 2 1 _ (hpl 2) (by omega) (by omega), if_neg (by omega), pgOf_wr _ 1 1 _ (hpl 1) (by omega) (by omega), if_pos rfl]
      have q2 : pgOf (writeD (writeD d 1 t) 2 t).x 2 = pageL 2 t := by
        show pgOf (UK.wr (UK.wr d.x (512 * 1) (pageL 1 t)) (512 * 2) (pageL 2 t)) 2 = _
        have hw := UK.wr_length d.x (512 * 1) (pageL 1 t) (by rw [hpl]; omega)
        rw [pgOf_wr _ 2 2 _ (hpl 2) (by omega) (by omega), if_pos rfl]
      have T0 : Two (writeD (writeD d 1 t) 2 t) 1 2 (pageL 1 t) (pageL 2 t) 0 := ⟨st.free, so4.of_same rfl rfl, (st4.write 2 t).wl, rl, (by have := (st4.write 2 t).puts; omega), (by show d.reads ≤ 0; omega), q1, q2⟩
      have HS4 := Lib.hid st4.puts
      have HN4 := Lib.hid st4.ne
      go_wp2_with fail
      refine (dd_write_yes hd3 (by rw [stp]; omega) 1 hh1 st.ne t htl).mono ?_
      rintro e w4 ⟨rfl, d4, k4⟩
      go_wp2_with fail
      refine (dd_write_yes d4 (by rw [HS4.out]; omega) 2 hh2 HN4.out t htl).mono ?_
      rintro e w5 ⟨rfl, d5, k5⟩
      have b5 := b3.trans ((k4.trans k5).below (fun _ h => h))
      generalize writeD (writeD d 1 t) 2 t = d6 at d5 T0
      clear HS4 HN4 q1 q2 hlen hh2 hh1 so4 st4 stp so3 st so rl re hd hd3 d4 k4 k5 hb b3 hDs
      have T1 : Two d6 (pz + 1) (2 - pz) (pageL (pz + 1) t) (pageL (2 - pz) t) 0 := by
        rcases (show pz = 0 ∨ pz = 1 by omega) with rfl | rfl
        · exact T0
        · exact T0.swap
      clear T0
      have hq1 : (at_ : Int) / 512 = (pz : Int) := by have := HA.out; omega
      go_wp2_with fail
      go_loopw [13, 14] (fun ch iv wr => ∃ (i : Nat) (d : Dk), ch = .bool (chB r turn i) ∧ iv = .int .i64 i ∧ i ≤ 4 ∧ DD (fun k => k < D) wr D d 3 ∧ Two d (pz + 1) (2 - pz) (spo (pageL (pz + 1) t) r turn i) (pageL (2 - pz) t) 0 ∧ Below D W wr) (fun _ v _ => 5 - (intOf v).toNat)
      case atStart => exact ⟨0, d6, rfl, rfl, by omega, d5, T1, b5⟩
      case round =>
        clear d5 T1 b5
        obtain ⟨i, d, rfl, rfl, hi4, hd, T, hb⟩ := hrel
        by_cases hlt4 : i < 4
        · by_cases hh : hitB r i = true
          · have hlt5 := hit_lt hh
            obtain ⟨g1, g2⟩ := hit_yes at_ i pz r HA.out hr hh
            have T2 := T.spoil hd.fit (by omega) (by omega) (by omega) (r + i) hlt5 (UK.byteOf turn i)
            have HSP : Hid (spo (pageL (pz + 1) t) r turn (i + 1) = (spo (pageL (pz + 1) t) r turn i).set (r + i) (UK.xr8 (nth (spo (pageL (pz + 1) t) r turn i) (r + i)) (UK.byteOf turn i))) := by
              show _ = _
              rw [spo, if_pos hh]
            have HCH : Hid (chB r turn (i + 1) = (chB r turn i || UK.byteOf turn i != 0)) := by
              show _ = _
              rw [chB, hh, Bool.true_and]
            rw [← HSP.out] at T2
            have hT := dd_spoil_yes hd (512 * (pz + 1) + (r + i)) (by omega) (UK.byteOf turn i)
            rw [show ((512 * (pz + 1) + (r + i) : Nat) : Int) = 512 + (at_ : Int) + i by have := HA.out; omega] at hT
            generalize hdd : spoilD d (512 * (pz + 1) + (r + i)) (UK.byteOf turn i) = d2 at T2 hT
            clear hdd hh hlt5
            go_wp2_with fail
            refine hT.mono ?_
            rintro e w8 ⟨rfl, hd2, k8⟩
            obtain ⟨c0, HC0⟩ : ∃ c0, Hid (chB r turn i = c0) := ⟨_, rfl⟩
            rw [HC0.out] at HCH ⊢
            cases c0
            · go_wp2
              refine ⟨⟨i + 1, d2, by rw [HCH.out, nz8]; rfl, by go_num, by omega, hd2, T2, hb.trans (k8.below (fun _ h => h))⟩, ?_⟩
              simp [intOf]; omega
            · go_wp2
              refine ⟨⟨i + 1, d2, by rw [HCH.out]; rfl, by go_num, by omega, hd2, T2, hb.trans (k8.below (fun _ h => h))⟩, ?_⟩
              simp [intOf]; omega
          · have hh2 : hitB r i = false := by simpa using hh
            have HSP : Hid (spo (pageL (pz + 1) t) r turn (i + 1) = spo (pageL (pz + 1) t) r turn i) := by
              show _ = _
              rw [spo, if_neg hh]
            have HCH : Hid (chB r turn (i + 1) = chB r turn i) := by
              show _ = _
              rw [chB, hh2, Bool.false_and, Bool.or_false]
            have hno := hit_no at_ i pz r HA.out hr hh2
            clear hh hh2
            rcases hno with g1 | ⟨g1, g2⟩
            all_goals
              go_wp2
              refine ⟨⟨i + 1, d, by rw [HCH.out], by go_num, by omega, hd, by rw [HSP.out]; exact T, hb⟩, ?_⟩
              simp [intOf]; omega
        · obtain rfl : i = 4 := by omega
          have hDs : D ≤ wr.heap.size := by rw [← HD.out]; exact hb.size
          have hp1 := T.has (pz + 1) (by omega) (by omega)
          have hT2 := T.read
          have hp2 := hT2.has (2 - pz) (by omega) (by omega)
          have hl1 := T.look
          have hl2 := hT2.swap.look
          rw [okP_page _ (by omega) t, if_pos rfl, if_pos rfl, load_page _ t htl] at hl2
          have hre := T.reads
          have hre2 := hT2.reads
          have C1 := dd_read_yes hd (by omega) (pz + 1) hp1 (by rw [T.rl]; omega)
          have C2 := fun w (h : DD (fun k => k < D) w D (readD d) 3) => dd_read_yes h (by omega) (2 - pz) hp2 (by rw [hT2.rl]; omega)
          rw [hl1.1, hl1.2, show ((pz + 1 : Nat) : Int) = 1 + (pz : Int) by omega] at C1
          rw [hl2.1, hl2.2, show ((2 - pz : Nat) : Int) = 3 - (1 + (pz : Int)) by omega] at C2
          obtain ⟨c0, HC0⟩ : ∃ c0, Hid (chB r turn 4 = c0) := ⟨_, rfl⟩
          rw [HC0.out]
          clear hp1 hp2 hl1 hl2 hre hre2 T hT2
          cases c0
          · rw [spo_same (pageL (pz + 1) t) (pageL_length _ t (by omega)) r turn 4 HC0.out, okP_page _ (by omega) t, if_pos rfl, if_pos rfl, load_page _ t htl] at C1
            go_wp2_with fail
            refine C1.mono ?_
            rintro e w8 ⟨rfl, d8, k8⟩
            go_wp2_with fail
            refine (C2 _ d8).mono ?_
            rintro e w9 ⟨rfl, d9, k9⟩
            have b9 := hb.trans ((k8.trans k9).below (fun _ h => h))
            go_wp2_with fail
            refine (awake_any w9 d9.tab).mono ?_
            rintro e w10 ⟨rfl, b10⟩
            go_wp2
            go_ret
            exact ⟨by simp, by rw [HD.out]; exact b9.trans (b10.mono (by rw [← HD.out]; exact b9.size))⟩
          · rw [spo_bad (pz + 1) t htl r hr turn HC0.out] at C1
            go_wp2_with fail
            refine C1.mono ?_
            rintro e w8 ⟨rfl, d8, k8⟩
            go_wp2_with fail
            refine (C2 _ d8).mono ?_
            rintro e w9 ⟨rfl, d9, k9⟩
            have b9 := hb.trans ((k8.trans k9).below (fun _ h => h))
            go_wp2_with fail
            refine (awake_any w9 d9.tab).mono ?_
            rintro e w10 ⟨rfl, b10⟩
            go_wp2
            go_ret
            exact ⟨by simp, by rw [HD.out]; exact b9.trans (b10.mono (by rw [← HD.out]; exact b9.size))⟩
theorem ds_out (k : Int) (hk : k < 0 ∨ (0 ≤ k ∧ 1024 ≤ k)) (turn : UInt32) (s : List UInt8) (W : World) (ht : TabAt W) :
    Calls Tryd.prog 5 #[.string (str s), .int .i64 k, .int .u32 turn.toNat] W fun e w' => e = .returned (.bool true) ∧ Below W.heap.size W w' := by
  have hnew := dd_new W 4 ht (fun k => k < W.heap.size) (fun _ h => h)
  rcases hk with hk | ⟨hk0, hk⟩
  all_goals
    go_enter Tryd.func5, Tryd.ntmps5
    go_wp2_with fail
    refine hnew.mono ?_
    rintro e w1 ⟨rfl, h1, b1⟩
    go_wp2_with fail
    refine (awake_any w1 h1.tab).mono ?_
    rintro e w3 ⟨rfl, b3⟩
    go_wp2
    go_ret
    exact ⟨rfl, b1.trans (b3.mono b1.size)⟩
theorem ds_walk (W : World) (ht : TabAt W) (s : ByteArray) (n : Int) (_hn : (Lit.int .i64 n).wf = true) (m : Int) (hm : (Lit.int .u32 m).wf = true) :
    Calls Tryd.prog 5 #[.string s, .int .i64 n, .int .u32 m] W fun e w' => e = .returned (.bool true) ∧ Below W.heap.size W w' := by
  rw [UK.str_self s]
  generalize s.data.toList = l
  obtain ⟨u, rfl⟩ := u32_of_wf hm
  by_cases hg : 0 ≤ n ∧ n < 1024
  · have := ds_any (n.toNat / 512) (n.toNat % 512) (by omega) (by omega) u l W ht
    rw [show ((512 * (n.toNat / 512) + n.toNat % 512 : Nat) : Int) = n by omega] at this
    exact this
  · exact ds_out n (by omega) u l W ht
end Go.Proofs.YtamnhpijeiigcaaDoor
