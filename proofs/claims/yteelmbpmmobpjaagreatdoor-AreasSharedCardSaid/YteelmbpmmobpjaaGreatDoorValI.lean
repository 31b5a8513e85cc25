/-
  Layer value: what is typed, where it is a number; layer areas: the rule that a value says.
-/
import Derived.Test.YteelmbpmmobpjaaGreatDoorValH
namespace Go.Proofs.YteelmbpmmobpjaaGreatDoor
open Go.RowKit
open UK (str BytesAt nth Only Row Box)
theorem input_num {w : World} (l : List UInt8) (n : Int) (hl : l.length ≤ 100000) (h39 : Lib.hasPrefix l [39] = false) (hp : DE.parseO (DE.trimN l) = some n) :
    Calls Tryz.prog 89 #[.string (str l)] w fun e w' => e = .returned (V.num n).val ∧ Below w.heap.size w w' := by
  have h1 := prefix_any (w := w) l [39]
  rw [h39] at h1
  have e1 : Lib.trimPrefix l [39] = l := by unfold Lib.trimPrefix; rw [if_neg (by rw [h39]; decide)]
  rw [e1] at h1
  have HX := Lib.hid h1
  have HT := Lib.hid (fun w => trim_any (w := w) l hl)
  have hl2 := DE.trimN_le l
  have h2 := fun w => parse_any (w := w) (DE.trimN l) (by omega)
  have e2 : DE.parseN (DE.trimN l) = n := by unfold DE.parseN; rw [hp]; rfl
  have e3 : DE.parseB (DE.trimN l) = true := by unfold DE.parseB; rw [hp]; rfl
  rw [e2, e3] at h2
  have HP := Lib.hid h2
  clear h1 e1 hl2 h2 e2 e3 hp h39
  generalize DE.trimN l = t at *
  unfold V.val
  go_enter Tryz.func89, Tryz.ntmps89
  go_wp2_with fail
  refine HX.out.mono ?_
  rintro e w1 ⟨rfl, rfl⟩
  go_wp2_with fail
  refine (HT.out _).mono ?_
  rintro e w1 ⟨rfl, b1⟩
  go_wp2_with fail
  refine (HP.out _).mono ?_
  rintro e w2 ⟨rfl, b2⟩
  go_wp2
  go_ret
  exact ⟨rfl, b1.trans (b2.mono b1.size)⟩
def signL : Nat → List UInt8
  | 0 => [60, 62]
  | 1 => [60, 61]
  | 2 => [62, 61]
  | 3 => [61]
  | 4 => [60]
  | _ => [62]
def signO : Nat → Int
  | 0 => 1
  | 1 => 3
  | 2 => 5
  | 3 => 0
  | 4 => 2
  | _ => 4
/-- the signs of rules lie in memory -/
structure EnvS (W : World) : Prop where
  env : Env W
  sg : ∃ b o c, W.cell? ⟨0, 0, none⟩ = some (.slice (some ⟨b, o, none⟩) 6 c) ∧ b < W.heap.size ∧ ∀ i, i < 6 → W.cell? ⟨b, o + i, none⟩ = some (.string (str (signL i)))
  lt : 0 < W.heap.size
theorem EnvS.next {W W' : World} (h : EnvS W) (hb : Below W.heap.size W W') : EnvS W' := by
  obtain ⟨b, o, c, h1, h2, h3⟩ := h.sg
  refine ⟨h.env.next hb, ⟨b, o, c, (cell_below hb h.lt).trans h1, Nat.lt_of_lt_of_le h2 hb.size, fun i hi => (cell_below hb h2).trans (h3 i hi)⟩, Nat.lt_of_lt_of_le h.lt hb.size⟩
theorem Box.fill2 {w : World} {g : Nat} {b0 b1 : Value} (h : Box w g #[b0, b1]) (a0 a1 : Value) : Box ((w.setCell ⟨g, 0, none⟩ a0).setCell ⟨g, 1, none⟩ a1) g #[a0, a1] := by
  have := (h.set 0 a0).set 1 a1
  exact this
theorem rule_size : (Tryz.prog.info? 114).map (·.size) = some 2 := by kernel_rfl
set_option maxRecDepth 100000 in
theorem made_other {w : World} (v : V) (hv : isText v = false) :
    Calls Tryz.prog 63 #[v.val] w fun e w' => e = .returned (.agg #[.int .i64 0, v.val]) ∧ Below w.heap.size w w' := by
  cases v with
  | text l => cases hv
  | _ =>
    unfold V.val
    go_enter Tryz.func63, Tryz.ntmps63
    go_wp2
    refine bodyPost_ret (UK.box_ret rfl _ (Box.new w _ 114) rfl Tryz.underlying114 rfl rule_size) rfl ?_
    exact ⟨rfl, (Below.refl _ _).alloc (Nat.le_refl _) _⟩
set_option maxHeartbeats 2000000 in
set_option maxRecDepth 100000 in
theorem made_text {w : World} (l rest : List UInt8) (n : Int) (k : Nat) (hk : k < 6) (hE : EnvS w) (hno : ∀ j, j < k → Lib.hasPrefix l (signL j) = false) (hyes : Lib.hasPrefix l (signL k) = true) (hrest : Lib.trimPrefix l (signL k) = rest)
    (hin : ∀ w, Calls Tryz.prog 89 #[.string (str rest)] w fun e w' => e = .returned (V.num n).val ∧ Below w.heap.size w w') :
    Calls Tryz.prog 63 #[(V.text l).val] w fun e w' => e = .returned (.agg #[.int .i64 (signO k), (V.num n).val]) ∧ Below w.heap.size w w' := by
  obtain ⟨b, o, c, h1, h2, h3⟩ := hE.sg
  have hlt := hE.lt
  have hb0 : Below w.heap.size w (w.alloc (.cells #[.int .i64 0, .nilIface] 114)) := (Below.refl _ _).alloc (Nat.le_refl _) _
  have h1' := (cell_below (o := 0) hb0 hlt).trans h1
  have H3 := Lib.hid h3
  have HN := Lib.hid hno
  have HY := Lib.hid (And.intro hyes hrest)
  have HI := Lib.hid hin
  have HP := Lib.hid (fun (w : World) p => prefix_any (w := w) l p)
  clear h1 h3 hno hyes hrest hin hb0
  unfold V.val
  go_enter Tryz.func63, Tryz.ntmps63
  go_wp2
  go_loopw [20] (fun iv wr => ∃ i : Nat, i ≤ k ∧ iv = .int .i64 i ∧ wr = w.alloc (.cells #[.int .i64 0, .nilIface] 114)) (fun iv _ => k - (intOf iv).toNat)
  case atStart => exact ⟨0, Nat.zero_le _, rfl, rfl⟩
  case round =>
    obtain ⟨i, hi, rfl, rfl⟩ := hrel
    have hi6 : (i : Int) < 6 := by omega
    have hb0 : Below w.heap.size w (w.alloc (.cells #[.int .i64 0, .nilIface] 114)) := (Below.refl _ _).alloc (Nat.le_refl _) _
    have hci := (cell_below (o := o + i) hb0 h2).trans (H3.out i (by omega))
    have HB0 := Lib.hid hb0
    clear hb0
    by_cases hik : i < k
    · have hp := HP.out (w.alloc (.cells #[.int .i64 0, .nilIface] 114)) (signL i)
      rw [HN.out i hik] at hp
      have HPX := Lib.hid hp
      clear hp
      go_wp2_with fail
      refine HPX.out.mono ?_
      rintro e w2 ⟨rfl, rfl⟩
      go_wp2
      go_roundw
      case rel => exact ⟨i + 1, by omega, by go_num, trivial⟩
      case measure => simp [intOf]; omega
    · obtain rfl : i = k := by omega
      have hp := HP.out (w.alloc (.cells #[.int .i64 0, .nilIface] 114)) (signL i)
      rw [HY.out.1, HY.out.2] at hp
      have HPX := Lib.hid hp
      have HKB : Hid (∀ w1, Below (w.heap.size + 1) (w.alloc (.cells #[.int .i64 0, .nilIface] 114)) w1 → Box w1 w.heap.size #[.int .i64 0, .nilIface] ∧ Below w.heap.size w w1) := fun w1 hb => by
        refine ⟨(Box.new w _ 114).next (by simpa using hb), HB0.out.trans (hb.mono (by omega))⟩
      clear hp h1'
      have h6 : i = 0 ∨ i = 1 ∨ i = 2 ∨ i = 3 ∨ i = 4 ∨ i = 5 := by omega
      clear hi hik hi6 hk
      dsimp only [V.val] at *
      have HKC : Hid (∀ w1, Below (w.heap.size + (1 + 1)) ((w.alloc (.cells #[.int .i64 0, .nilIface] 114)).alloc (.cells #[.int .i64 1, .int .i64 3, .int .i64 5, .int .i64 0, .int .i64 2, .int .i64 4] 3)).drew w1 → Below (w.heap.size + 1) (w.alloc (.cells #[.int .i64 0, .nilIface] 114)) w1 ∧ Box w1 (w.heap.size + 1) #[.int .i64 1, .int .i64 3, .int .i64 5, .int .i64 0, .int .i64 2, .int .i64 4]) := fun w1 hb => by
        refine ⟨(UK.belowN ((Below.refl _ _).alloc (by simp) _) 1).trans (hb.mono (by omega)), ?_⟩
        have hx := Box.new (w.alloc (.cells #[.int .i64 0, .nilIface] 114)) #[.int .i64 1, .int .i64 3, .int .i64 5, .int .i64 0, .int .i64 2, .int .i64 4] 3
        have e : (w.alloc (.cells #[.int .i64 0, .nilIface] 114)).heap.size = w.heap.size + 1 := by simp
        rw [e] at hx
        have hx2 : Box ((w.alloc (.cells #[.int .i64 0, .nilIface] 114)).alloc (.cells #[.int .i64 1, .int .i64 3, .int .i64 5, .int .i64 0, .int .i64 2, .int .i64 4] 3)).drew (w.heap.size + 1) #[.int .i64 1, .int .i64 3, .int .i64 5, .int .i64 0, .int .i64 2, .int .i64 4] := hx
        exact hx2.below hb (by omega)
      rcases h6 with rfl | rfl | rfl | rfl | rfl | rfl
      all_goals
        try simp only [Nat.add_zero] at hci
        go_wp2_with fail
        refine HPX.out.mono ?_
        rintro e w2 ⟨rfl, rfl⟩
        go_wp2
        go_region_with (first
          | (go_at_call 89; refine (HI.out _).mono ?_; rintro e w2 ⟨rfl, b2⟩; simp at b2; rw [Nat.add_assoc w.heap.size 1 1] at b2; obtain ⟨q1, q2⟩ := HKC.out w2 b2; obtain ⟨x1, x2⟩ := HKB.out w2 q1; have hlt2 := x1.lt; have y0 := x1.cell 0 _ rfl; have y1 := x1.cell 1 _ rfl; have z0 := x1.free 0; have z1 := x1.free 1; have s0 := q2.cell 0 _ rfl; have s1 := q2.cell 1 _ rfl; have s2 := q2.cell 2 _ rfl; have s3 := q2.cell 3 _ rfl; have s4 := q2.cell 4 _ rfl; have s5 := q2.cell 5 _ rfl; have HX1 := Lib.hid (And.intro x1 x2); clear x1 x2 q1 q2 b2)
          | (go_at_call 89; refine (HI.out _).mono ?_; rintro e w2 ⟨rfl, b2⟩; simp at b2; obtain ⟨x1, x2⟩ := HKB.out w2 ((UK.belowN (Below.refl _ _) 1).trans b2); have hlt2 := x1.lt; have y0 := x1.cell 0 _ rfl; have y1 := x1.cell 1 _ rfl; have z0 := x1.free 0; have z1 := x1.free 1; have HX1 := Lib.hid (And.intro x1 x2); clear x1 x2 b2))
        all_goals
          go_wp2
          first
            | (refine bodyPost_ret (UK.box_ret rfl _ (Box.fill2 HX1.out.1 _ _) rfl Tryz.underlying114 rfl rule_size) rfl ?_
               exact ⟨rfl, (HX1.out.2.setCell (Nat.le_refl _) _).setCell (Nat.le_refl _) _⟩)
            | (refine bodyPost_ret (UK.box_ret rfl _ ((Box.fill2 HX1.out.1 _ _).alloc _) rfl Tryz.underlying114 rfl rule_size) rfl ?_
               exact ⟨rfl, ((HX1.out.2.setCell (Nat.le_refl _) _).setCell (Nat.le_refl _) _).alloc (by have := HX1.out.2.size; simpa using this) _⟩)
end Go.Proofs.YteelmbpmmobpjaaGreatDoor
