/-
  heap.New; tabularlaw07: Made, Long.
-/
import Derived.Test.YtjfkdfffolkblaaGreatDoorHeapI
namespace Go.Proofs.YtjfkdfffolkblaaGreatDoor
open Go.RowKit
open UK (str BytesAt nth Only Row Box w32)
open SR (Recs rcd total)
open SL (hole add trim room live)
open Go.BigFrame
section
variable {E F : Nat → Prop} {W W' : World} {P D k fb db cap pg root H : Nat} {A B : AP} {s : List UInt8}
/-- a pool over a new disk -/
def hnewA (pages : Int) : AP := { cnt := 1, most := clampD pages, free := [], c := fun p => lookL (newD pages).x p, op := none }
theorem hnewA_has (pages : Int) (p : Nat) : ¬ (hnewA pages).Has p := fun h => by
  have h1 := h.1
  have h2 : p < 1 := h.2.1
  omega
theorem clampD_is (pages : Int) (h1 : 2 ≤ pages) (h2 : pages ≤ 60000) : clampD pages = pages := by
  unfold clampD
  omega
theorem hnewA_good (pages : Int) (h1 : 2 ≤ pages) (h2 : pages ≤ 60000) : (hnewA pages).Good :=
  ⟨Nat.le_refl _, by show ((1 : Nat) : Int) ≤ clampD pages; rw [clampD_is pages h1 h2]; omega, by show clampD pages ≤ _; rw [clampD_is pages h1 h2]; exact h2, List.nodup_nil, fun _ h => absurd h List.not_mem_nil, List.nodup_nil, fun _ h => absurd h List.not_mem_nil⟩
theorem hclean_new (n : Int) : Clean (newD n) 1 := by
  refine ⟨(Ok.new n).fit, (Ok.new n).so, newD_rl n, (newD_still n).wl, fun p h1 h2 => by omega, fun i hi => ?_⟩
  rw [(newD_still n).free] at hi
  exact absurd hi (Nat.not_lt_zero _)
set_option maxRecDepth 100000 in
theorem hnew_any (h : PZ E W P D A k) (hk : k + 2 < 900000000) (hf : ¬ A.Full) :
    Calls Tryz.prog 32 #[.pointer (some ⟨P, 0, none⟩)] W fun e w' => ∃ T, e = .returned (.tuple #[.pointer (some ⟨T, 0, none⟩), .int .i64 0]) ∧ Box w' T (hcells P A.next) ∧ W.heap.size ≤ T ∧ PZ (fun j => E j ∨ j = T) w' P D A.take (k + 2) ∧ Kept E W w' := by
  have HP := Lib.hid (pz_take h hk hf)
  clear h
  go_enter_defers Tryz.func32, Tryz.ntmps32
  go_wp2_with fail
  refine HP.out.mono ?_
  rintro e w1 ⟨fb, db, cap, rfl, p1, k1⟩
  have HG := Lib.hid (pf_page p1)
  have H1 := Lib.hid (And.intro p1 k1)
  clear HP p1 k1
  go_wp2_with fail
  refine HG.out.mono ?_
  rintro e w2 ⟨rfl, rfl⟩
  obtain ⟨p1, k1⟩ := H1.out
  have ba : Below w2.heap.size w2 (w2.alloc (.cells #[.pointer (some ⟨P, 0, none⟩), .int .i64 A.next] 83)) := (Below.refl _ _).alloc (Nat.le_refl _) _
  have sz : (w2.alloc (.cells #[.pointer (some ⟨P, 0, none⟩), .int .i64 A.next] 83)).heap.size = w2.heap.size + 1 := by simp
  have p3 := p1.wide ba (T := fun j => E j ∨ j = w2.heap.size) (fun j hj => by
    rcases hj with hj | hj
    · exact .inl hj
    · exact .inr (by omega))
  have k3 := k1.trans (p1.kept ba)
  have bx := Box.new w2 #[.pointer (some ⟨P, 0, none⟩), .int .i64 A.next] 83
  have HU := Lib.hid (pf_unpin_d .returning p3)
  have H3 := Lib.hid (And.intro k3 (And.intro bx k1.size))
  clear HG H1 p1 k1 ba p3 k3 bx sz
  go_wp2
  refine leaves_cons (f := 57) (args := #[.pointer (some ⟨fb, 0, none⟩)]) (by simp) (by simp [go_sem]) ?_
  refine HU.out.mono ?_
  rintro e u' w4 ⟨rfl, rfl, p4, k4⟩
  obtain ⟨k3, bx, hs⟩ := H3.out
  refine ⟨_, results_tmp2 rfl _ _ _, ?_⟩
  exact ⟨w2.heap.size, rfl, bx.of_block (k4.block _ (.inr rfl)), hs, p4, k3.trans (k4.mono (fun j hj => .inl hj))⟩
theorem zeros_word (o : Nat) (h : o + 4 ≤ 504) : wdAt (UK.zeros 504) o = w32 0 := by
  unfold wdAt
  have e : ((UK.zeros 504).drop o).take 4 = putL 0 := by
    unfold UK.zeros
    rw [List.drop_replicate, List.take_replicate, Nat.min_eq_left (by omega)]
    rfl
  rw [e, get_put]
  rfl
theorem empty_heap (pages : Int) (h1 : 2 ≤ pages) (h2 : pages ≤ 60000) : ¬ (hnewA pages).Full ∧ (hnewA pages).next = 1 ∧ HI (hnewA pages).take.pgs 1 0 [] (fun _ => []) [] ∧ (hnewA pages).take.Good ∧ (hnewA pages).take.op = none ∧ (hnewA pages).take.most = pages := by
  have hg := hnewA_good pages h1 h2
  have hf : ¬ (hnewA pages).Full := fun h => by
    have h3 : clampD pages ≤ ((1 : Nat) : Int) := h.1
    rw [clampD_is pages h1 h2] at h3
    omega
  have hn : (hnewA pages).next = 1 := rfl
  obtain ⟨t1, t2, _⟩ := hg.take hf
  have hc : (hnewA pages).take.c 1 = UK.zeros 504 := by show setC (hnewA pages).c (hnewA pages).next (UK.zeros 504) 1 = _; unfold setC; rw [if_pos hn]
  refine ⟨hf, hn, ⟨by simp [chs], fun p => ?_, ?_, ?_, ?_, .inl rfl, fun p hp => absurd hp List.not_mem_nil, fun p hp => absurd hp List.not_mem_nil, fun p hp => absurd hp List.not_mem_nil, fun p hp => absurd hp List.not_mem_nil, List.Pairwise.nil, fun p hp => absurd hp List.not_mem_nil⟩, t1, rfl, clampD_is pages h1 h2⟩
  · show (hnewA pages).take.Has p ↔ _
    rw [t2, hn]
    simp only [chs, List.flatMap_nil, List.append_nil, List.mem_singleton]
    exact ⟨fun h => h.elim (fun h => absurd h (hnewA_has pages p)) id, .inr⟩
  · show wdAt ((hnewA pages).take.c 1) 0 = _
    rw [hc]; exact zeros_word 0 (by decide)
  · show wdAt ((hnewA pages).take.c 1) 4 = _
    rw [hc]; exact zeros_word 4 (by decide)
  · show ((hnewA pages).take.c 1).length = 504
    rw [hc]; exact UK.zeros_length 504
set_option maxRecDepth 100000 in
theorem hmade_any (W : World) (ht : TabAt W) (S : Nat → Prop) (hS : ∀ j, S j → j < W.heap.size) (pages : Int) (h1 : 2 ≤ pages) (h2 : pages ≤ 60000) (n : Nat) (hn : 1 ≤ n ∧ n ≤ 1000) :
    Calls Tryz.prog 8 #[.int .i64 pages, .int .i64 n] W fun e w' => ∃ P D T A, e = .returned (.tuple #[.pointer (some ⟨P, 0, none⟩), .pointer (some ⟨T, 0, none⟩)]) ∧ HZ (fun j => S j ∨ j = T) w' P D T 2 A 1 0 [] (fun _ => []) [] ∧ A.op = none ∧ A.most = pages ∧ W.heap.size ≤ T ∧ Kept S W w' := by
  have HD := Lib.hid (dd_new W pages ht S hS)
  go_enter Tryz.func8, Tryz.ntmps8
  go_wp2_with fail
  refine HD.out.mono ?_
  rintro e w1 ⟨rfl, hd, hb⟩
  have HP := Lib.hid (pnew_any hd (Ok.new pages) (hclean_new pages) n hn 0)
  have k0 : Kept S W w1 := Kept.of_below hb hS
  have HK := Lib.hid k0
  clear HD hd hb k0
  go_wp2_with fail
  refine HP.out.mono ?_
  rintro e w2 ⟨P, FB, M, q, rfl, hps, hk2, hop⟩
  have st := newD_still pages
  have hpz : PZ S w2 P W.heap.size (hnewA pages) 0 := ⟨FB, M, n, q, newD pages, hps, hn.1, ⟨st.free, st.most, by rw [hop]; rfl⟩⟩
  obtain ⟨e1, e2, e3, e4, e5, e6⟩ := empty_heap pages h1 h2
  have HT := Lib.hid (hnew_any hpz (by omega) e1)
  have HK2 := Lib.hid (HK.out.trans hk2)
  have HE := Lib.hid (And.intro e3 (And.intro e4 (And.intro e5 e6)))
  clear HP HK hps hk2 hop st hpz e1 e3 e4 e5 e6
  rw [e2] at HT
  go_wp2_with fail
  refine HT.out.mono ?_
  rintro e w3 ⟨T, rfl, hbox, hT1, hpz, hk3⟩
  have HX := Lib.hid (And.intro hbox (And.intro hT1 (And.intro hpz hk3)))
  clear HT hbox hT1 hpz hk3
  go_wp2
  go_ret2
  obtain ⟨hbox, hT1, hpz, hk3⟩ := HX.out
  obtain ⟨e3, e4, e5, e6⟩ := HE.out
  exact ⟨P, _, T, _, rfl, ⟨hpz, e4, hbox, .inr rfl, e3, Nat.zero_le _⟩, e5, e6, Nat.le_trans HK2.out.size hT1, HK2.out.trans hk3⟩
/-! ## Long -/
def longGo (c : List UInt8) : Nat → List UInt8 → List UInt8
  | 0, t => t
  | m + 1, t => if c ≠ [] ∧ t.length + c.length ≤ 3000 then longGo c m (t ++ c) else t
/-- a text so often -/
def longL (s : List UInt8) (n : Int) : List UInt8 := longGo (s.take 100) (n - 1).toNat (s.take 100)
theorem longGo_len (c : List UInt8) : ∀ (m : Nat) (t : List UInt8), t.length ≤ 3000 → (longGo c m t).length ≤ 3000
  | 0, _, h => h
  | m + 1, t, h => by
    unfold longGo
    by_cases hc : c ≠ [] ∧ t.length + c.length ≤ 3000
    · rw [if_pos hc]
      exact longGo_len c m _ (by rw [List.length_append]; exact hc.2)
    · rw [if_neg hc]; exact h
theorem longL_len (s : List UInt8) (n : Int) : (longL s n).length ≤ 3000 := longGo_len _ _ _ (by rw [List.length_take]; omega)
theorem hcut_any (s : List UInt8) (n : Nat) (W : World) :
    Calls Tryz.prog 81 #[.string (str s), .int .i64 n] W fun e w' => e = .returned (.string (str (s.take n))) ∧ w' = W := by
  by_cases h : n < s.length
  · have i1 : (n : Int) < s.length := by omega
    have i2 : (n : Int) ≤ s.length := by omega
    go_enter Tryz.func81, Tryz.ntmps81
    go_wp2
    go_ret
    exact ⟨by first | rfl | simp, rfl⟩
  · have i1 : ¬ (n : Int) < s.length := by omega
    have e : Hid (s.take n = s) := List.take_of_length_le (by omega)
    go_enter Tryz.func81, Tryz.ntmps81
    go_wp2
    go_ret
    exact ⟨by rw [e.out] <;> rfl, rfl⟩
def lenOf (v : Value) : Nat := match v with
  | .string b => b.size
  | _ => 0
set_option maxHeartbeats 1000000 in
set_option maxRecDepth 100000 in
theorem hlong_any (s : List UInt8) (n : Int) (W : World) :
    Calls Tryz.prog 33 #[.string (str s), .int .i64 n] W fun e w' => e = .returned (.string (str (longL s n))) ∧ w' = W := by
  have HC := Lib.hid (hcut_any s 100 W)
  have hcl : (s.take 100).length ≤ 100 := by rw [List.length_take]; omega
  have HLG : Hid (longGo (s.take 100) (n - 1).toNat (s.take 100) = longL s n) := rfl
  generalize s.take 100 = c at HC hcl HLG
  generalize longL s n = fin at HLG ⊢
  go_enter Tryz.func33, Tryz.ntmps33
  go_wp2_with fail
  refine HC.out.mono ?_
  rintro e w1 ⟨rfl, rfl⟩
  clear HC
  go_wp2_with fail
  go_loopw [5, 6] (fun tv iv wr => ∃ (t : List UInt8) (i : Int), tv = .string (str t) ∧ iv = .int .i64 i ∧ t.length ≤ 3000 ∧ 1 ≤ i ∧ i ≤ 1 + t.length ∧ Hid (longGo c (n - i).toNat t = fin) ∧ wr = w1) (fun tv _ _ => 3001 - lenOf tv)
  case atStart => exact ⟨c, 1, rfl, rfl, by omega, by omega, by omega, HLG, rfl⟩
  case round =>
    obtain ⟨t, i, rfl, rfl, ht, hi1, hi2, hg, rfl⟩ := hrel
    by_cases hin : i < n
    · obtain ⟨m, hm⟩ : ∃ m, (n - i).toNat = m + 1 := ⟨(n - i).toNat - 1, by omega⟩
      have hm2 : (n - (i + 1)).toNat = m := by omega
      have hg' := hg.out
      rw [hm] at hg'
      unfold longGo at hg'
      clear hg
      by_cases hc : c = []
      · subst hc
        rw [if_neg (fun h => h.1 rfl)] at hg'
        have HG := Lib.hid hg'
        clear hg' hm hm2 HLG
        go_wp2
        go_ret
        exact ⟨by rw [HG.out] <;> rfl, rfl⟩
      · have hcp : 0 < c.length := List.length_pos_iff.2 hc
        have hie : c.isEmpty = false := by
          cases c with
          | nil => exact absurd rfl hc
          | cons a l => rfl
        by_cases hl : t.length + c.length ≤ 3000
        · rw [if_pos ⟨hc, hl⟩] at hg'
          have HG : Hid (longGo c (n - (i + 1)).toNat (t ++ c) = fin) := by rw [hm2]; exact hg'
          have hli : (t.length : Int) + c.length ≤ 3000 := by omega
          have hi3 : i ≤ 4000 := by omega
          have HX := Lib.hid (And.intro hl (And.intro hcp ht))
          clear hg' hm hm2 HLG
          go_wp2
          go_roundw
          case rel => exact ⟨t ++ c, i + 1, rfl, by go_num, by rw [List.length_append]; omega, by omega, by rw [List.length_append]; omega, HG, trivial⟩
          case measure =>
            simp [lenOf, UK.str_size]
            omega
        · rw [if_neg (fun h => hl h.2)] at hg'
          have HG := Lib.hid hg'
          have hli : ¬ (t.length : Int) + c.length ≤ 3000 := by omega
          clear hg' hm hm2 HLG
          go_wp2
          go_ret
          exact ⟨by rw [HG.out] <;> rfl, rfl⟩
    · have hg' := hg.out
      rw [show (n - i).toNat = 0 by omega] at hg'
      have HG : Hid (t = fin) := hg'
      clear hg hg' HLG
      go_wp2
      go_ret
      exact ⟨by rw [HG.out] <;> rfl, rfl⟩
end
end Go.Proofs.YtjfkdfffolkblaaGreatDoor
