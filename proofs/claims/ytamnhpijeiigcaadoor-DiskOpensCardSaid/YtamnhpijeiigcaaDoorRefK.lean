/-
  The document's Open, walked.
-/
import Derived.Test.YtamnhpijeiigcaaDoorRefJ
import Derived.Test.YtamnhpijeiigcaaDoorDiskT
import Derived.Test.YtamnhpijeiigcaaDoorDiskR
namespace Go.Proofs.YtamnhpijeiigcaaDoor
open Go.RowKit
open UK (str BytesAt nth Only w32 Row Box)
open Go.BigFrame
/-- behind the document's Open -/
def ROpened (W w' : World) (s : List UInt8) (pages : Int) (e : Ending) : Prop :=
  ((openR s pages).1 = 0 ∧ ∃ gp cp fo fc, e = .returned (.tuple #[rval gp (s.length / 512) cp fo (openD s pages).free.length fc (openD s pages), .int .i64 0]) ∧ RefAt W.heap.size w' gp cp fo fc (openD s pages) (s.length / 512) ∧ Below W.heap.size W w') ∨
  ((openR s pages).1 ≠ 0 ∧ e = .returned (.tuple #[.agg zero7, .int .i64 (openR s pages).1]) ∧ Below W.heap.size W w')
section
variable {W w w1 : World} {g np pc fc lc : Nat} {po fo lo : Option Addr} {s : List UInt8} {most pages : Int} {l fl : List Nat}
set_option maxRecDepth 100000 in
theorem ropen_no (s : List UInt8) (pages : Int) (hs : s.length ≤ 100000000) (hb : s.length / 512 < 1 ∨ s.length % 512 ≠ 0 ∨ clampD pages < (s.length / 512 : Nat)) (W : World) :
    Calls Tryd.prog 50 #[.string (str s), .int .i64 pages] W fun e w' => e = .returned (.tuple #[.agg zero7, .int .i64 3]) ∧ Below W.heap.size W w' := by
  obtain ⟨n, hn⟩ : ∃ n, s.length / 512 = n := ⟨_, rfl⟩
  have e1 : ((s.length : Nat) : Int) / 512 = (n : Int) := by omega
  rw [hn] at hb
  have hm := fun w => rmost_any pages w
  have b0 : Below W.heap.size W (W.alloc (.cells zero7 46)) := (Below.refl _ _).alloc (Nat.le_refl _) _
  have hx := Box.new W zero7 46
  by_cases h1 : n < 1
  · obtain rfl : n = 0 := by omega
    clear hb hn h1
    go_enter Tryd.func50, Tryd.ntmps50
    go_wp2_with fail
    refine bodyPost_ret (UK.box_ret2 rfl _ hx rfl disk_under rfl disk_size) rfl ?_
    exact ⟨rfl, b0⟩
  · by_cases h2 : s.length % 512 = 0
    · have h3 : clampD pages < n := by rcases hb with h | h | h <;> omega
      have h4 : ¬ (n : Int) < 1 := by omega
      have e2 : ((n : Int) * 512 != (s.length : Int)) = false := by rw [bne_eq_false_iff_eq]; omega
      have e3 : ((n : Int) * 512 == (s.length : Int)) = true := by rw [beq_iff_eq]; omega
      have hn6 : n ≤ 200000 := by omega
      clear hb hn h2 h1
      generalize clampD pages = m at hm h3
      go_enter Tryd.func50, Tryd.ntmps50
      go_wp2_with fail
      refine (hm _).mono ?_
      rintro e w' ⟨rfl, rfl⟩
      go_wp2_with fail
      refine bodyPost_ret (UK.box_ret2 rfl _ hx rfl disk_under rfl disk_size) rfl ?_
      exact ⟨rfl, b0⟩
    · have e2 : ((n : Int) * 512 != (s.length : Int)) = true := by rw [bne_iff_ne]; omega
      have e3 : ((n : Int) * 512 == (s.length : Int)) = false := by rw [beq_eq_false_iff_ne]; omega
      have h4 : ¬ (n : Int) < 1 := by omega
      have hn6 : n ≤ 200000 := by omega
      clear hb hn h1 h2
      go_enter Tryd.func50, Tryd.ntmps50
      go_wp2_with fail
      refine bodyPost_ret (UK.box_ret2 rfl _ hx rfl disk_under rfl disk_size) rfl ?_
      exact ⟨rfl, b0⟩
theorem RO.start (W : World) (s : List UInt8) (most : Int) : RO W ((W.alloc (.cells zero7 46)).alloc (.cells (ocells none 0 0 none 0 0 most) 46)) (W.heap.size + 1) none 0 0 none 0 s most [] [] none 0 := by
  have hb := Box.new (W.alloc (.cells zero7 46)) (ocells none 0 0 none 0 0 most) 46
  rw [show (W.alloc (.cells zero7 46)).heap.size = W.heap.size + 1 by simp] at hb
  exact ⟨(Box.new _ _ _).alloc _, hb, .inl ⟨rfl, rfl, rfl⟩, .inl ⟨rfl, rfl, rfl⟩, .inl ⟨rfl, rfl, rfl⟩, ((Below.refl _ _).alloc (Nat.le_refl _) _).alloc (by simp) _, by omega⟩
theorem RO.begin (h : RO W w g po np pc fo fc s most fl [] none 0) (t : TypeId) : RO W (w.alloc (.cells #[] t)) g po np pc fo fc s most fl [] (some ⟨w.heap.size, 0, none⟩) 0 := by
  have hb : Below w.heap.size w (w.alloc (.cells #[] t)) := (Below.refl _ _).alloc (Nat.le_refl _) _
  have h2 := h.next hb
  have hgl := h.box.lt
  have hgW := h.gW
  refine ⟨h2.res, h2.box, h2.pages, h2.free, .inr ⟨w.heap.size, rfl, UK.row_new w #[] t, by omega, by omega, fun e2 => ?_, fun e2 => ?_⟩, h2.bel, h2.gW⟩
  · rcases h.pages with ⟨a, _⟩ | ⟨G, e3, r3, _⟩
    · rw [a] at e2; cases e2
    · rw [e3] at e2
      have e4 : G = w.heap.size := congrArg Addr.block (Option.some.inj e2)
      have := r3.lt; omega
  · rcases h.free with ⟨a, _⟩ | ⟨G, e3, r3, _⟩
    · rw [a] at e2; cases e2
    · rw [e3] at e2
      have e4 : G = w.heap.size := congrArg Addr.block (Option.some.inj e2)
      have := r3.lt; omega
/-- the answer is stored -/
theorem RO.done (h : RO W w g po np pc fo fc s (clampD pages) fl l lo lc) (h1 : 1 ≤ s.length / 512) (hnp : np = s.length / 512) (hf : fl = (openD s pages).free) (h0 : (openR s pages).1 = 0) :
    ROpened W (UK.fill7 w W.heap.size (.slice po np pc) (.slice fo fl.length fc) (.int .i64 (clampD pages)) (.int .i64 (-1)) (.int .i64 (-1)) (.int .i64 0) (.int .i64 0)) s pages (.returned (.tuple #[.agg (ocells po np pc fo fl.length fc (clampD pages)), .int .i64 0])) := by
  subst hnp hf
  rcases h.pages with ⟨_, a, _⟩ | ⟨G, rfl, r, n1, n2⟩
  · omega
  · refine .inl ⟨h0, G, pc, fo, fc, rfl, RefAt.fill ⟨r, ?_, Nat.le_of_lt n2, fun F e => ?_⟩ (by omega) (fun F e => ?_) _ _ _ _ _ _ _, UK.Below.fill7 h.bel (Nat.le_refl _) _ _ _ _ _ _ _⟩
    · rcases h.free with ⟨a, b, _⟩ | ⟨F, e, r2, _⟩
      · exact .inl ⟨a, b⟩
      · exact .inr ⟨F, e, r2⟩
    · rcases h.free with ⟨a, b, _⟩ | ⟨F', e', r2, m1, m2, _⟩
      · rw [a] at e; cases e
      · rw [e'] at e
        obtain rfl : F' = F := congrArg Addr.block (Option.some.inj e)
        exact ⟨Nat.le_of_lt m2, r2.lt⟩
    · rcases h.free with ⟨a, b, _⟩ | ⟨F', e', r2, m1, m2, _⟩
      · rw [a] at e; cases e
      · rw [e'] at e
        obtain rfl : F' = F := congrArg Addr.block (Option.some.inj e)
        omega
/-- within the document's Open, ahead of the free pages -/
def RFound (W w : World) (g : Nat) (po : Option Addr) (pc : Nat) (s : List UInt8) (pages most : Int) (n : Nat) (lv pv iv : Value) : Prop :=
  ∃ (l : List Nat) (lo : Option Addr) (lc : Nat) (p : List UInt8), lv = .slice lo l.length lc ∧ pv = .string (str p) ∧ iv = .int .i64 l.length ∧ Hid (p.length = 4) ∧ RO W w g po n pc none 0 s most [] l lo lc ∧ OnWay n l ∧ Hid (openR s pages = chain s n (n + 1 - l.length) l p)
/-- within the document's Open, the free pages laid -/
def RLaid (W w : World) (g : Nat) (po : Option Addr) (pc : Nat) (s : List UInt8) (most : Int) (n : Nat) (l : List Nat) (lo : Option Addr) (lc : Nat) (iv : Value) : Prop :=
  ∃ (i : Int) (fo : Option Addr) (fc : Nat) (fl : List Nat), iv = .int .i64 i ∧ -1 ≤ i ∧ i < l.length ∧ Hid (fl = (l.drop (i + 1).toNat).reverse) ∧ RO W w g po n pc fo fc s most fl l lo lc
theorem ro_right (h : RO W w g po np pc fo fc s most fl l lo lc) (p : Nat) (q : Int) (hq : q = p) (hp : 512 * (p + 1) ≤ s.length) (hp6 : p ≤ 60000) :
    Calls Tryd.prog 60 #[.agg #[.string (str (pgOf s p))], .int .i64 q] w fun e w' => e = .returned (.bool (okB s p)) ∧ RO W w' g po np pc fo fc s most fl l lo lc := by
  subst hq
  refine (rright_any (pgOf s p) p hp6 (pgOf_length hp) w).mono ?_
  rintro e w' ⟨rfl, b⟩
  exact ⟨by rw [okB_pg], h.next b⟩
set_option maxHeartbeats 4000000 in
set_option maxRecDepth 100000 in
theorem ropen_any (s : List UInt8) (pages : Int) (W : World) (n : Nat) (hn : s.length = 512 * n) (h1 : 1 ≤ n) (h3 : (n : Int) ≤ clampD pages) :
    Calls Tryd.prog 50 #[.string (str s), .int .i64 pages] W fun e w' => ROpened W w' s pages e := by
  have hm := fun w => rmost_any pages w
  have hn60 : n ≤ 60000 := by have := clamp_cases pages; omega
  have hdiv : s.length / 512 = n := by omega
  have e1 : ((s.length : Nat) : Int) / 512 = (n : Int) := by omega
  have e2 : ((n : Int) * 512 != (s.length : Int)) = false := by rw [bne_eq_false_iff_eq]; omega
  have e3 : ((n : Int) * 512 == (s.length : Int)) = true := by rw [beq_iff_eq]; omega
  have h4 : ¬ (n : Int) < 1 := by omega
  have hsl : s.length ≤ 100000000 := by omega
  have h0 := RO.start W s (clampD pages)
  have HRD := Lib.hid (fun (w : World) (po : Option Addr) (pc : Nat) (fo : Option Addr) (fc : Nat) (fl l : List Nat) (lo : Option Addr) (lc : Nat) (h : RO W w (W.heap.size + 1) po n pc fo fc s (clampD pages) fl l lo lc) => h.done (pages := pages) (by omega) hdiv.symm)
  have HOR : Hid (openR s pages = if okB s 0 = false then (8, []) else if (loadL s 0).take 8 ≠ magicL ∨ ((loadL s 0).drop 8).take 4 ≠ putL (w32 n) then (3, []) else chain s n (n + 1) [] (((loadL s 0).drop 12).take 4)) := by
    show _ = _
    unfold openR
    rw [hdiv, if_neg (by omega)]
  have HOF : Hid (∀ l, openR s pages = (0, l) → (openD s pages).free = l.reverse) := fun l h => by unfold openD; rw [h]
  have HN := Lib.hid hn
  have HDIV := Lib.hid hdiv
  generalize clampD pages = m at hm h3 h0 HRD
  clear hdiv hn
  go_enter Tryd.func50, Tryd.ntmps50
  go_wp2_with fail
  refine (hm _).mono ?_
  rintro e w' ⟨rfl, rfl⟩
  go_wp2_with fail
  refine (hm _).mono ?_
  rintro e w' ⟨rfl, rfl⟩
  clear e2 e3 h4 hm
  go_wp2_with fail
  go_loopw [8] (fun iv wr => ∃ (i : Nat) (po : Option Addr) (pc : Nat), iv = .int .i64 i ∧ i ≤ n ∧ RO W wr (W.heap.size + 1) po i pc none 0 s m [] [] none 0) (fun iv _ => 60001 - (intOf iv).toNat)
  case atStart => exact ⟨0, none, 0, rfl, by omega, h0⟩
  case round =>
    clear h0
    obtain ⟨i, po, pc, rfl, hi, hl⟩ := hrel
    by_cases hin : i < n
    · obtain ⟨g', c', w2, e9, c0, f0, h9⟩ := (hl.next (Below.refl _ _).drew).push (by omega)
      have hpg : pgOf s i = (s.take (512 * i + 512)).drop (512 * i) := by unfold pgOf; rw [List.drop_take, Nat.add_sub_cancel_left]
      have d0 := hl.box.cell 0 _ rfl
      have d0' := (hl.next ((Below.refl _ _).alloc (Nat.le_refl _) (.cells #[.string (str (pgOf s i))] 73))).box.cell 0 _ rfl
      rw [hpg] at e9 d0'
      obtain ⟨a, HA⟩ : ∃ a, Hid (512 * i = a) := ⟨_, rfl⟩
      obtain ⟨b, HB⟩ : ∃ b, Hid (512 * i + 512 = b) := ⟨_, rfl⟩
      have e15 : (Builtin.append_ #[44, 44] 44 #[.slice po i pc, .slice (some ⟨wr.heap.size, 0, none⟩) 1 1]).run Tryd.prog (wr.alloc (.cells #[.string (str ((s.take (512 * i + 512)).drop (512 * i)))] 73)).drew = .ok (.slice (some ⟨g', 0, none⟩) (i + 1) c') w2 := e9
      have hw1 : IntKind.i64.wrap (512 * (i : Int)) = (a : Int) := by have := HA.out; rw [IntKind.wrap_i64]; omega
      have hw2 : IntKind.i64.wrap ((a : Int) + 512) = (b : Int) := by have := HA.out; have := HB.out; rw [IntKind.wrap_i64]; omega
      have hab : (a : Int) ≤ (b : Int) := by have := HA.out; have := HB.out; omega
      have hbs : (b : Int) ≤ (s.length : Int) := by have := HB.out; have := HN.out; omega
      rw [HB.out, HA.out] at e15 d0'
      clear e9 hpg
      go_wp2_with fail
      go_region_law (refine UK.step_append_run e15 rfl rfl rfl (by simp [Act.eval]) (by simp [Act.eval]) ?_)
      all_goals
        clear d0 d0' c0 f0 e15 hl HA HB hw1 hw2 hab hbs
        go_wp2
        go_roundw
        case rel => exact ⟨i + 1, _, _, by go_num, by omega, h9⟩
        case measure => simp [intOf]; omega
    · obtain rfl : n = i := by omega
      clear hin hi
      obtain ⟨G, rfl, cp0⟩ := hl.page 0 (by omega)
      have hs2 : 512 * (0 + 1) ≤ s.length := by have := HN.out; omega
      have HR := Lib.hid (ro_right hl 0 0 rfl hs2 (by omega))
      have hbox := hl.box.cell 0 _ rfl
      have hpl := pgOf_length hs2
      have HLD : Hid (loadL s 0 = (pgOf s 0).drop 8) := loadL_pg s 0
      have hpl1 : 512 ≤ (pgOf s 0).length := by omega
      have hpl2 : (pgOf s 0).length ≤ 512 := by omega
      clear hpl
      by_cases hok : okB s 0 = false
      · have HE : Hid (openR s pages = (8, [])) := by show _ = _; rw [HOR.out, if_pos hok]
        rw [hok] at HR
        clear HOR hok
        go_wp2_with fail
        refine HR.out.mono ?_
        rintro e w5 ⟨rfl, h5⟩
        obtain ⟨t0, t1, t2, t3, t4, t5, t6, tf⟩ := h5.res.cells7
        go_wp2_with fail
        refine bodyPost_ret (UK.box_ret2 rfl _ (h5.res.fill7 _ _ _ _ _ _ _) rfl disk_under rfl disk_size) rfl ?_
        exact .inr ⟨by rw [HE.out]; decide, by rw [HE.out] <;> rfl, UK.Below.fill7 h5.bel (Nat.le_refl _) _ _ _ _ _ _ _⟩
      · have hok2 : okB s 0 = true := by simpa using hok
        rw [if_neg hok, HLD.out] at HOR
        rw [hok2] at HR
        clear hok hok2 HLD
        obtain ⟨pg, HPG⟩ : ∃ pg, Hid (pgOf s 0 = pg) := ⟨_, rfl⟩
        rw [HPG.out] at HR HOR cp0 hpl1 hpl2
        go_wp2_with fail
        refine HR.out.mono ?_
        rintro e w5 ⟨rfl, h5⟩
        have hbox := h5.box.cell 0 _ rfl
        obtain ⟨G2, hG2, cp2⟩ := h5.page 0 (by omega)
        obtain rfl : G = G2 := congrArg Addr.block (Option.some.inj hG2)
        rw [HPG.out] at cp2
        clear HR cp0 hl
        obtain ⟨t0, t1, t2, t3, t4, t5, t6, tf⟩ := h5.res.cells7
        by_cases hm1 : (pg.drop 8).take 8 = magicL
        · have hhl : 504 ≤ (pg.drop 8).length := by rw [List.length_drop]; omega
          have hb1 : ((pg.drop 8).take 8 == [84, 65, 66, 85, 76, 65, 82, 49]) = true := beq_iff_eq.2 hm1
          obtain ⟨tn4, HT4⟩ : ∃ tn4, Hid (((pg.drop 8).take 12).drop 8 = tn4) := ⟨_, rfl⟩
          have ht4 : tn4.length = 4 := by rw [← HT4.out, List.length_drop, List.length_take]; omega
          have HOR2 : Hid (openR s pages = if wordN tn4 ≠ n then (3, []) else chain s n (n + 1) [] (((pg.drop 8).take 16).drop 12)) := by
            show _ = _
            rw [HOR.out, show ((pg.drop 8).take 16).drop 12 = ((pg.drop 8).drop 12).take 4 from by rw [List.drop_take], ← HT4.out]
            have e8 : ((pg.drop 8).take 12).drop 8 = ((pg.drop 8).drop 8).take 4 := by rw [List.drop_take]
            have hw := word_is (((pg.drop 8).take 12).drop 8) (by rw [HT4.out]; exact ht4) n hn60
            rw [e8] at hw ⊢
            by_cases hq : ((pg.drop 8).drop 8).take 4 = putL (w32 n)
            · have h5' : wordN (((pg.drop 8).drop 8).take 4) = n := by
                rw [beq_iff_eq.2 hq] at hw
                have := of_decide_eq_true hw.symm
                unfold wordN; omega
              rw [if_neg (by rintro (a | a); exact a hm1; exact a hq), if_neg (fun a => a h5')]
            · have h5' : wordN (((pg.drop 8).drop 8).take 4) ≠ n := fun a => by
                rw [beq_eq_false_iff_ne.2 hq] at hw
                have := of_decide_eq_false hw.symm
                unfold wordN at a; omega
              rw [if_pos (.inr hq), if_pos h5']
          have HNum := Lib.hid (fun w => number_any tn4 ht4 w)
          obtain ⟨q, HQ⟩ : ∃ q, Hid (wordN tn4 = q) := ⟨_, rfl⟩
          rw [HQ.out] at HNum HOR2
          clear HOR hm1 ht4
          by_cases hqn : q = n
          · obtain ⟨p0, HP0⟩ : ∃ p0, Hid (((pg.drop 8).take 16).drop 12 = p0) := ⟨_, rfl⟩
            have HE : Hid (openR s pages = chain s n (n + 1) [] p0) := by show _ = _; rw [HOR2.out, if_neg (by simpa using hqn), HP0.out]
            have HP1 : Hid (p0.length = 4) := by show _ = _; rw [← HP0.out, List.length_drop, List.length_take]; omega
            obtain rfl : n = q := hqn.symm
            clear hqn HOR2
            go_wp2_with fail
            rw [HT4.out]
            refine (HNum.out _).mono ?_
            rintro e w6 ⟨rfl, b6⟩
            have h6 := h5.next b6
            have h7 := h6.begin 3
            clear HNum h5 cp2 t0 t1 t2 t3 t4 t5 t6 tf
            go_wp2_with fail
            go_loopw [10, 11, 12] (fun lv pv iv wr => RFound W wr (W.heap.size + 1) (some ⟨G, 0, none⟩) pc s pages m n lv pv iv) (fun lv _ _ _ => n + 1 - slen lv)
            case atStart => exact ⟨[], _, 0, p0, rfl, by rw [HP0.out], rfl, HP1, h7, OnWay.nil n, HE⟩
            case round =>
              clear h7 h6
              obtain ⟨l, lo, lc, p, rfl, rfl, rfl, HP4, hl, how, HC⟩ := hrel
              have hfew := how.few h1
              obtain ⟨t0, t1, t2, t3, t4, t5, t6, tf⟩ := hl.res.cells7
              by_cases hpe : p = [255, 255, 255, 255]
              · have HC2 : Hid (openR s pages = (0, l)) := HC.out.trans (chain_end s n (n + 1) l p (by omega) hpe)
                have hb3 : (p == [255, 255, 255, 255]) = true := beq_iff_eq.2 hpe
                clear hpe HC
                go_wp2_with fail
                go_loopw [16] (fun iv wr => RLaid W wr (W.heap.size + 1) (some ⟨G, 0, none⟩) pc s m n l lo lc iv) (fun iv _ => (intOf iv + 1).toNat)
                case atStart => exact ⟨_, none, 0, [], rfl, by omega, by omega, by show [] = _; rw [show ((l.length : Int) - 1 + 1).toNat = l.length by omega, List.drop_length]; rfl, hl⟩
                case round =>
                  clear hl t0 t1 t2 t3 t4 t5 t6 tf
                  obtain ⟨i, fo', fc', fl, rfl, hi1, hi2, HF, h9⟩ := hrel
                  by_cases hi0 : 0 ≤ i
                  · obtain ⟨k, rfl⟩ : ∃ k : Nat, i = k := ⟨i.toNat, by omega⟩
                    have hkl : k < l.length := by omega
                    have hfl : fl.length ≤ 60000 := by rw [HF.out, List.length_reverse, List.length_drop]; omega
                    rcases h9.row with ⟨_, hl0, _⟩ | ⟨g2, rfl, r, n1⟩
                    · rw [hl0] at hkl; exact absurd hkl (Nat.not_lt_zero _)
                    · have ck := r.at' k _ (ints_at l k hkl)
                      have h10 := h9.next (Below.refl _ _).drew
                      obtain ⟨g', c', w14, e14, c2, f2, h14⟩ := h10.more (l.getD k 0) hfl
                      have HG : Hid (fl ++ [l.getD k 0] = (l.drop k).reverse) := by
                        show _ = _
                        rw [HF.out, show ((k : Int) + 1).toNat = k + 1 by omega, List.getD_eq_getElem?_getD, List.getElem?_eq_getElem hkl]
                        rw [List.drop_eq_getElem_cons hkl, List.reverse_cons]
                        rfl
                      have d2 := h9.box.cell 1 _ rfl
                      have d2' := (h9.next ((Below.refl _ _).alloc (Nat.le_refl _) (.cells #[.int .i64 ((l.getD k 0 : Nat) : Int)] 3))).box.cell 1 _ rfl
                      generalize l.getD k 0 = q at ck e14 h14 HG d2'
                      have e15 : (Builtin.append_ #[22, 22] 22 #[.slice fo' fl.length fc', .slice (some ⟨wr.heap.size, 0, none⟩) 1 1]).run Tryd.prog (wr.alloc (.cells #[.int .i64 (q : Int)] 3)).drew = .ok (.slice (some ⟨g', 0, none⟩) (fl.length + 1) c') w14 := e14
                      clear e14
                      go_wp2_with fail
                      go_region_law (refine UK.step_append_run e15 rfl rfl rfl (by simp [Act.eval]) (by simp [Act.eval]) ?_)
                      all_goals
                        clear d2 d2' ck c2 f2 e15 h10 h9 r n1
                        go_wp2
                        go_roundw
                        case rel => exact ⟨(k : Int) - 1, _, _, _, rfl, by omega, by omega, by show _ = _; rw [show ((k : Int) - 1 + 1).toNat = k by omega]; exact HG.out, h14⟩
                        case measure => simp [intOf]
                  · obtain rfl : i = -1 := by omega
                    have HF2 : Hid (fl = l.reverse) := by show _ = _; rw [HF.out]; rfl
                    have HFin := Lib.hid (HRD.out _ _ _ _ _ _ _ _ _ h9 (by rw [HF2.out, HOF.out l HC2.out]) (by rw [HC2.out]))
                    obtain ⟨t0, t1, t2, t3, t4, t5, t6, tf⟩ := h9.res.cells7
                    obtain ⟨u0, u1, u2, u3, u4, u5, u6, uf⟩ := h9.box.cells7
                    clear hi0 hi1 hi2
                    go_wp2_with fail
                    refine bodyPost_ret (UK.box_ret2 rfl _ (h9.res.fill7 _ _ _ _ _ _ _) rfl disk_under rfl disk_size) rfl ?_
                    exact HFin.out
              · have hb3 : (p == [255, 255, 255, 255]) = false := beq_eq_false_iff_ne.2 hpe
                have HPE : Hid (p ≠ putL (w32 4294967295)) := hpe
                have HNum := Lib.hid (fun w => number_any p HP4.out w)
                have hk32 := wordN_lt p
                obtain ⟨k, HK⟩ : ∃ k, Hid (wordN p = k) := ⟨_, rfl⟩
                rw [HK.out] at HNum hk32
                clear hpe
                go_wp2_with fail
                refine (HNum.out _).mono ?_
                rintro e w8 ⟨rfl, b8⟩
                have h8 := hl.next b8
                clear t0 t1 t2 t3 t4 t5 t6 tf b8 HNum hl
                obtain ⟨t0, t1, t2, t3, t4, t5, t6, tf⟩ := h8.res.cells7
                by_cases hbad : k < 1 ∨ n ≤ k
                · have HC2 : Hid (openR s pages = (3, [])) := HC.out.trans (chain_form s n (n + 1) l p (by omega) HPE.out (by rw [HK.out]; omega))
                  by_cases ha : k < 1
                  · go_wp2_with fail
                    refine bodyPost_ret (UK.box_ret2 rfl _ (h8.res.fill7 _ _ _ _ _ _ _) rfl disk_under rfl disk_size) rfl ?_
                    exact .inr ⟨by rw [HC2.out]; decide, by rw [HC2.out] <;> rfl, UK.Below.fill7 h8.bel (Nat.le_refl _) _ _ _ _ _ _ _⟩
                  · have hb : n ≤ k := by omega
                    go_wp2_with fail
                    refine bodyPost_ret (UK.box_ret2 rfl _ (h8.res.fill7 _ _ _ _ _ _ _) rfl disk_under rfl disk_size) rfl ?_
                    exact .inr ⟨by rw [HC2.out]; decide, by rw [HC2.out] <;> rfl, UK.Below.fill7 h8.bel (Nat.le_refl _) _ _ _ _ _ _ _⟩
                · have ha : 1 ≤ k := by omega
                  have hb : k < n := by omega
                  clear hbad
                  go_wp2_with fail
                  go_loopw [105] (fun ix wz => ∃ m2 : Nat, ix = .int .i64 m2 ∧ m2 ≤ l.length ∧ Hid (∀ j, j < m2 → l.getD j 0 ≠ k) ∧ wz = w8) (fun ix _ => 60001 - (intOf ix).toNat)
                  case atStart => exact ⟨0, rfl, Nat.zero_le _, fun j hj => absurd hj (Nat.not_lt_zero _), rfl⟩
                  case round =>
                    obtain ⟨m2, rfl, hm2, HJ, rfl⟩ := hrel
                    by_cases hml : m2 < l.length
                    · rcases h8.row with ⟨_, hl0, _⟩ | ⟨g2, rfl, r, _⟩
                      · rw [hl0] at hml; exact absurd hml (Nat.not_lt_zero _)
                      · have cm := r.at' m2 _ (ints_at l m2 hml)
                        by_cases hx2 : l.getD m2 0 = k
                        · have hkl : k ∈ l := by rw [← hx2]; rw [List.getD_eq_getElem?_getD, List.getElem?_eq_getElem hml]; exact List.getElem_mem _
                          have HC2 : Hid (openR s pages = (3, [])) := HC.out.trans (chain_form s n (n + 1) l p (by omega) HPE.out (by rw [HK.out]; exact .inr (.inr hkl)))
                          have hxx : (((l.getD m2 0 : Nat) : Int) == (k : Int)) = true := by rw [hx2]; exact beq_self_eq_true _
                          generalize l.getD m2 0 = xm at cm hxx
                          clear hx2 hkl
                          go_wp2_with fail
                          refine bodyPost_ret (UK.box_ret2 rfl _ (h8.res.fill7 _ _ _ _ _ _ _) rfl disk_under rfl disk_size) rfl ?_
                          exact .inr ⟨by rw [HC2.out]; decide, by rw [HC2.out] <;> rfl, UK.Below.fill7 h8.bel (Nat.le_refl _) _ _ _ _ _ _ _⟩
                        · have HJ2 : Hid (∀ j, j < m2 + 1 → l.getD j 0 ≠ k) := fun j hj => by
                            by_cases e : j = m2
                            · rw [e]; exact hx2
                            · exact HJ.out j (by omega)
                          have hxx : (((l.getD m2 0 : Nat) : Int) == (k : Int)) = false := beq_eq_false_iff_ne.2 (by omega)
                          generalize l.getD m2 0 = xm at cm hxx
                          clear hx2
                          go_wp2_with fail
                          go_roundw
                          case rel => exact ⟨m2 + 1, by go_num, by omega, HJ2, trivial⟩
                          case measure => simp [intOf]; omega
                    · have hkl : k ∉ l := fun hh => by
                        obtain ⟨j, hj, he⟩ := List.getElem_of_mem hh
                        apply HJ.out j (by omega)
                        rw [List.getD_eq_getElem?_getD, List.getElem?_eq_getElem hj]
                        exact he
                      have HOW := Lib.hid (how.snoc ha hb hkl)
                      have HKL := Lib.hid hkl
                      obtain ⟨G2, hG2, cpk⟩ := h8.page k hb
                      obtain rfl : G = G2 := congrArg Addr.block (Option.some.inj hG2)
                      have hbx := h8.box.cell 0 _ rfl
                      have hks : 512 * (k + 1) ≤ s.length := by have := HN.out; omega
                      have HR := Lib.hid (ro_right h8 k k rfl hks (by omega))
                      have hpl := pgOf_length hks
                      have hpl1 : 512 ≤ (pgOf s k).length := by omega
                      have hpl2 : (pgOf s k).length ≤ 512 := by omega
                      have HLK : Hid (((pgOf s k).take 12).drop 8 = linkL s k) := by show _ = _; rw [link_pg, List.drop_take]
                      clear hkl hpl HJ
                      by_cases hok : okB s k = false
                      · have HC2 : Hid (openR s pages = (8, [])) := HC.out.trans (chain_spoil s n (n + 1) l p (by omega) HPE.out (by rw [HK.out]; exact ha) (by rw [HK.out]; exact hb) (by rw [HK.out]; exact HKL.out) (by rw [HK.out]; exact hok))
                        rw [hok] at HR
                        clear hok
                        go_wp2_with fail
                        refine HR.out.mono ?_
                        rintro e w9 ⟨rfl, h9⟩
                        clear t0 t1 t2 t3 t4 t5 t6 tf
                        obtain ⟨t0, t1, t2, t3, t4, t5, t6, tf⟩ := h9.res.cells7
                        go_wp2_with fail
                        refine bodyPost_ret (UK.box_ret2 rfl _ (h9.res.fill7 _ _ _ _ _ _ _) rfl disk_under rfl disk_size) rfl ?_
                        exact .inr ⟨by rw [HC2.out]; decide, by rw [HC2.out] <;> rfl, UK.Below.fill7 h9.bel (Nat.le_refl _) _ _ _ _ _ _ _⟩
                      · have hok2 : okB s k = true := by simpa using hok
                        have HC2 : Hid (openR s pages = chain s n (n + 1 - (l ++ [k]).length) (l ++ [k]) (linkL s k)) := by
                          have := chain_step s n (n + 1) l p (by omega) HPE.out (by rw [HK.out]; exact ha) (by rw [HK.out]; exact hb) (by rw [HK.out]; exact HKL.out) (by rw [HK.out]; exact hok2)
                          rw [HK.out] at this
                          exact HC.out.trans this
                        rw [hok2] at HR
                        clear hok hok2
                        go_wp2_with fail
                        refine HR.out.mono ?_
                        rintro e w9 ⟨rfl, h9⟩
                        obtain ⟨g', c', w10, e10, h10⟩ := h9.found k (by omega)
                        obtain ⟨G3, hG3, cpk3⟩ := h10.page k hb
                        obtain rfl : G = G3 := congrArg Addr.block (Option.some.inj hG3)
                        have hbx3 := h10.box.cell 0 _ rfl
                        clear HR h9 h8 t0 t1 t2 t3 t4 t5 t6 tf hbx cpk
                        go_wp2_with (at_builtin; refine UK.wpList_append_run e10 rfl rfl rfl rfl rfl ?_)
                        go_roundw
                        case rel => exact ⟨l ++ [k], some ⟨g', 0, none⟩, c', linkL s k, by rw [List.length_append] <;> rfl, by rw [HLK.out], by rw [List.length_append] <;> rfl, by show (linkL s k).length = 4; rw [← HLK.out, List.length_drop, List.length_take]; omega, h10, HOW.out, HC2⟩
                        case measure => simp [slen]; omega
          · have HE : Hid (openR s pages = (3, [])) := by show _ = _; rw [HOR2.out, if_pos hqn]
            have hb2 : ((q : Int) == (n : Int)) = false := by rw [beq_eq_false_iff_ne]; omega
            clear HOR2 hqn
            go_wp2_with fail
            rw [HT4.out]
            refine (HNum.out _).mono ?_
            rintro e w6 ⟨rfl, b6⟩
            have h6 := h5.next b6
            clear t0 t1 t2 t3 t4 t5 t6 tf
            obtain ⟨t0, t1, t2, t3, t4, t5, t6, tf⟩ := h6.res.cells7
            go_wp2_with fail
            refine bodyPost_ret (UK.box_ret2 rfl _ (h6.res.fill7 _ _ _ _ _ _ _) rfl disk_under rfl disk_size) rfl ?_
            exact .inr ⟨by rw [HE.out]; decide, by rw [HE.out] <;> rfl, UK.Below.fill7 h6.bel (Nat.le_refl _) _ _ _ _ _ _ _⟩
        · have HE : Hid (openR s pages = (3, [])) := by show _ = _; rw [HOR.out, if_pos (.inl hm1)]
          have hb1 : ((pg.drop 8).take 8 == [84, 65, 66, 85, 76, 65, 82, 49]) = false := beq_eq_false_iff_ne.2 hm1
          clear HOR hm1
          go_wp2_with fail
          refine bodyPost_ret (UK.box_ret2 rfl _ (h5.res.fill7 _ _ _ _ _ _ _) rfl disk_under rfl disk_size) rfl ?_
          exact .inr ⟨by rw [HE.out]; decide, by rw [HE.out] <;> rfl, UK.Below.fill7 h5.bel (Nat.le_refl _) _ _ _ _ _ _ _⟩
end
end Go.Proofs.YtamnhpijeiigcaaDoor
