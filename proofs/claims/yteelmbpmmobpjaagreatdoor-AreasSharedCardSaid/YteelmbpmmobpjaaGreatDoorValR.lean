/-
  Layer areas: awake.
-/
import Derived.Test.YteelmbpmmobpjaaGreatDoorValQ
namespace Go.Proofs.YteelmbpmmobpjaaGreatDoor
open Go.RowKit
open UK (str BytesAt nth Only Row Box)
theorem tellN_any (n : Int) (w : World) : Calls Tryz.prog 20 #[V.val (.num n)] w fun e w' => e = .returned (.agg #[.int .i64 1, .int .i64 n, .string (str [])]) ∧ Below w.heap.size w w' := tell_any (.num n)
theorem arSl_one {W : World} {g c : Nat} {o : Bool} {k : Int} {t : Value} {ps : List (Int × Int × List UInt8)} (h : Box W g #[.bool o, .int .i64 k, t]) (hp : PlSl W t ps) (hl : ps.length ≤ 1000) : ArSl W (.slice (some ⟨g, 0, none⟩) 1 c) [(o, k, ps)] := by
  refine ⟨⟨g, c, rfl, h.lt, fun i x hx => ?_⟩⟩
  have hi : i = 0 := by
    rcases Nat.lt_or_ge i 1 with hh | hh
    · omega
    · rw [List.getElem?_eq_none (by simpa using hh)] at hx; cases hx
  subst hi
  obtain rfl := Option.some.inj hx
  exact ⟨t, hp, by show ps.length ≤ _; omega, h.cell 0 _ rfl, h.cell 1 _ rfl, h.cell 2 _ rfl⟩
theorem arSl_two {W : World} {g c : Nat} {o o2 : Bool} {k k2 : Int} {t t2 : Value} {ps ps2 : List (Int × Int × List UInt8)} (h : Box W g #[.bool o, .int .i64 k, t, .bool o2, .int .i64 k2, t2]) (hp : PlSl W t ps) (hl : ps.length ≤ 1000) (hp2 : PlSl W t2 ps2) (hl2 : ps2.length ≤ 1000) : ArSl W (.slice (some ⟨g, 0, none⟩) 2 c) [(o, k, ps), (o2, k2, ps2)] := by
  refine ⟨⟨g, c, rfl, h.lt, fun i x hx => ?_⟩⟩
  have hi : i = 0 ∨ i = 1 := by
    rcases Nat.lt_or_ge i 2 with hh | hh
    · omega
    · rw [List.getElem?_eq_none (by simpa using hh)] at hx; cases hx
  rcases hi with rfl | rfl
  · obtain rfl := Option.some.inj hx
    exact ⟨t, hp, by show ps.length ≤ _; omega, h.cell 0 _ rfl, h.cell 1 _ rfl, h.cell 2 _ rfl⟩
  · obtain rfl := Option.some.inj hx
    exact ⟨t2, hp2, by show ps2.length ≤ _; omega, h.cell 3 _ rfl, h.cell 4 _ rfl, h.cell 5 _ rfl⟩
set_option maxHeartbeats 4000000 in
set_option maxRecDepth 100000 in
theorem awake_any {w : World} (hE : EnvS w) : Calls Tryz.prog 8 #[] w fun e w' => e = .returned (.bool true) ∧ Below w.heap.size w w' := by
  have HE := Lib.hid hE
  have h0 : ArSl (((w.alloc (.cells #[.int .i64 1, .int .i64 10000, .string (str []), .int .i64 2, .int .i64 0, .string (str [120]), .int .i64 0, .int .i64 0, .string (str []), .int .i64 1, .int .i64 30000, .string (str [])] 46)).alloc (.cells #[.bool false, .int .i64 1, .slice (some ⟨w.heap.size, 0, none⟩) 4 4] 24)).alloc (.cells #[.bool false, .int .i64 1, .slice (some ⟨w.heap.size, 0, none⟩) 4 4] 24)) (.slice (some ⟨w.heap.size + 1 + 1, 0, none⟩) 1 1) [(false, 1, aw4)] ∧ Below w.heap.size w (((w.alloc (.cells #[.int .i64 1, .int .i64 10000, .string (str []), .int .i64 2, .int .i64 0, .string (str [120]), .int .i64 0, .int .i64 0, .string (str []), .int .i64 1, .int .i64 30000, .string (str [])] 46)).alloc (.cells #[.bool false, .int .i64 1, .slice (some ⟨w.heap.size, 0, none⟩) 4 4] 24)).alloc (.cells #[.bool false, .int .i64 1, .slice (some ⟨w.heap.size, 0, none⟩) 4 4] 24)) ∧ Box (((w.alloc (.cells #[.int .i64 1, .int .i64 10000, .string (str []), .int .i64 2, .int .i64 0, .string (str [120]), .int .i64 0, .int .i64 0, .string (str []), .int .i64 1, .int .i64 30000, .string (str [])] 46)).alloc (.cells #[.bool false, .int .i64 1, .slice (some ⟨w.heap.size, 0, none⟩) 4 4] 24)).alloc (.cells #[.bool false, .int .i64 1, .slice (some ⟨w.heap.size, 0, none⟩) 4 4] 24)) (w.heap.size + 1) #[.bool false, .int .i64 1, .slice (some ⟨w.heap.size, 0, none⟩) 4 4] ∧ PlSl (((w.alloc (.cells #[.int .i64 1, .int .i64 10000, .string (str []), .int .i64 2, .int .i64 0, .string (str [120]), .int .i64 0, .int .i64 0, .string (str []), .int .i64 1, .int .i64 30000, .string (str [])] 46)).alloc (.cells #[.bool false, .int .i64 1, .slice (some ⟨w.heap.size, 0, none⟩) 4 4] 24)).alloc (.cells #[.bool false, .int .i64 1, .slice (some ⟨w.heap.size, 0, none⟩) 4 4] 24)) (.slice (some ⟨w.heap.size, 0, none⟩) 4 4) aw4 := by
    have b1 : Box (((w.alloc (.cells #[.int .i64 1, .int .i64 10000, .string (str []), .int .i64 2, .int .i64 0, .string (str [120]), .int .i64 0, .int .i64 0, .string (str []), .int .i64 1, .int .i64 30000, .string (str [])] 46)).alloc (.cells #[.bool false, .int .i64 1, .slice (some ⟨w.heap.size, 0, none⟩) 4 4] 24)).alloc (.cells #[.bool false, .int .i64 1, .slice (some ⟨w.heap.size, 0, none⟩) 4 4] 24)) w.heap.size (plFlat aw4).toArray := ((Box.new w (plFlat aw4).toArray 46).alloc (.cells #[.bool false, .int .i64 1, .slice (some ⟨w.heap.size, 0, none⟩) 4 4] 24)).alloc (.cells #[.bool false, .int .i64 1, .slice (some ⟨w.heap.size, 0, none⟩) 4 4] 24)
    have b2 := (Box.new (w.alloc (.cells #[.int .i64 1, .int .i64 10000, .string (str []), .int .i64 2, .int .i64 0, .string (str [120]), .int .i64 0, .int .i64 0, .string (str []), .int .i64 1, .int .i64 30000, .string (str [])] 46)) #[.bool false, .int .i64 1, .slice (some ⟨w.heap.size, 0, none⟩) 4 4] 24).alloc (.cells #[.bool false, .int .i64 1, .slice (some ⟨w.heap.size, 0, none⟩) 4 4] 24)
    have b3 := Box.new ((w.alloc (.cells #[.int .i64 1, .int .i64 10000, .string (str []), .int .i64 2, .int .i64 0, .string (str [120]), .int .i64 0, .int .i64 0, .string (str []), .int .i64 1, .int .i64 30000, .string (str [])] 46)).alloc (.cells #[.bool false, .int .i64 1, .slice (some ⟨w.heap.size, 0, none⟩) 4 4] 24)) #[.bool false, .int .i64 1, .slice (some ⟨w.heap.size, 0, none⟩) 4 4] 24
    simp only [World.size_alloc] at b2 b3
    have hp : PlSl (((w.alloc (.cells #[.int .i64 1, .int .i64 10000, .string (str []), .int .i64 2, .int .i64 0, .string (str [120]), .int .i64 0, .int .i64 0, .string (str []), .int .i64 1, .int .i64 30000, .string (str [])] 46)).alloc (.cells #[.bool false, .int .i64 1, .slice (some ⟨w.heap.size, 0, none⟩) 4 4] 24)).alloc (.cells #[.bool false, .int .i64 1, .slice (some ⟨w.heap.size, 0, none⟩) 4 4] 24)) (.slice (some ⟨w.heap.size, 0, none⟩) 4 4) aw4 := plSl_of (ps := aw4) b1
    exact ⟨arSl_one b3 hp (by show (4 : Nat) ≤ 1000; omega), (((Below.refl _ _).alloc (Nat.le_refl _) _).alloc (by simp) _).alloc (by simp; omega) _, b2, hp⟩
  have HAR := Lib.hid (args_any h0.1 (by simp) (hE.env.next h0.2.1))
  have H0 := Lib.hid h0
  clear h0 hE
  go_enter Tryz.func8, Tryz.ntmps8
  go_wp2_with fail
  generalize (((w.alloc (.cells #[.int .i64 1, .int .i64 10000, .string (str []), .int .i64 2, .int .i64 0, .string (str [120]), .int .i64 0, .int .i64 0, .string (str []), .int .i64 1, .int .i64 30000, .string (str [])] 46)).alloc (.cells #[.bool false, .int .i64 1, .slice (some ⟨w.heap.size, 0, none⟩) 4 4] 24)).alloc (.cells #[.bool false, .int .i64 1, .slice (some ⟨w.heap.size, 0, none⟩) 4 4] 24)) = W0 at *
  refine HAR.out.mono ?_
  rintro e w1 ⟨t, rfl, ht, b1⟩
  have e1 : [(false, (1 : Int), aw4)].map argOf3 = [awA] := by
    show [argOf false 1 aw4] = _
    rw [arg_aw4]; rfl
  rw [e1] at ht
  have HAV := Lib.hid (aw_average ht (Nat.le_refl _))
  have HB1 := Lib.hid (And.intro (H0.out.2.1.trans (b1.mono H0.out.2.1.size)) (And.intro (H0.out.2.2.1.next b1) (H0.out.2.2.2.next b1)))
  clear ht b1 HAR H0
  go_wp2_with fail
  refine HAV.out.mono ?_
  rintro e w2 ⟨rfl, b2⟩
  have HB2 := Lib.hid (And.intro (HB1.out.1.trans (b2.mono HB1.out.1.size)) (And.intro (HB1.out.2.1.next b2) (HB1.out.2.2.next b2)))
  have d0 := HB2.out.2.1.cell 0 _ rfl
  have d1 := HB2.out.2.1.cell 1 _ rfl
  have d2 := HB2.out.2.1.cell 2 _ rfl
  clear b2 HB1 HAV
  have h4 : ArSl ((w2.alloc (.cells #[.int .i64 2, .int .i64 0, .string (str [62, 49])] 46)).alloc (.cells #[.bool false, .int .i64 1, .slice (some ⟨w.heap.size, 0, none⟩) 4 4, .bool true, .int .i64 0, .slice (some ⟨w2.heap.size, 0, none⟩) 1 1] 24)) (.slice (some ⟨w2.heap.size + 1, 0, none⟩) 2 2) [(false, 1, aw4), (true, 0, aw1)] ∧ Below w2.heap.size w2 ((w2.alloc (.cells #[.int .i64 2, .int .i64 0, .string (str [62, 49])] 46)).alloc (.cells #[.bool false, .int .i64 1, .slice (some ⟨w.heap.size, 0, none⟩) 4 4, .bool true, .int .i64 0, .slice (some ⟨w2.heap.size, 0, none⟩) 1 1] 24)) := by
    have x1 : Box ((w2.alloc (.cells #[.int .i64 2, .int .i64 0, .string (str [62, 49])] 46)).alloc (.cells #[.bool false, .int .i64 1, .slice (some ⟨w.heap.size, 0, none⟩) 4 4, .bool true, .int .i64 0, .slice (some ⟨w2.heap.size, 0, none⟩) 1 1] 24)) w2.heap.size (plFlat aw1).toArray := (Box.new w2 (plFlat aw1).toArray 46).alloc (.cells #[.bool false, .int .i64 1, .slice (some ⟨w.heap.size, 0, none⟩) 4 4, .bool true, .int .i64 0, .slice (some ⟨w2.heap.size, 0, none⟩) 1 1] 24)
    have x2 := Box.new (w2.alloc (.cells #[.int .i64 2, .int .i64 0, .string (str [62, 49])] 46)) #[.bool false, .int .i64 1, .slice (some ⟨w.heap.size, 0, none⟩) 4 4, .bool true, .int .i64 0, .slice (some ⟨w2.heap.size, 0, none⟩) 1 1] 24
    simp only [World.size_alloc] at x2
    have hb : Below w2.heap.size w2 ((w2.alloc (.cells #[.int .i64 2, .int .i64 0, .string (str [62, 49])] 46)).alloc (.cells #[.bool false, .int .i64 1, .slice (some ⟨w.heap.size, 0, none⟩) 4 4, .bool true, .int .i64 0, .slice (some ⟨w2.heap.size, 0, none⟩) 1 1] 24)) := ((Below.refl _ _).alloc (Nat.le_refl _) _).alloc (by simp) _
    exact ⟨arSl_two x2 (HB2.out.2.2.next hb) (by show (4 : Nat) ≤ 1000; omega) (plSl_of (ps := aw1) x1) (by show (1 : Nat) ≤ 1000; omega), hb⟩
  have hE4 : EnvS ((w2.alloc (.cells #[.int .i64 2, .int .i64 0, .string (str [62, 49])] 46)).alloc (.cells #[.bool false, .int .i64 1, .slice (some ⟨w.heap.size, 0, none⟩) 4 4, .bool true, .int .i64 0, .slice (some ⟨w2.heap.size, 0, none⟩) 1 1] 24)) := (HE.out.next HB2.out.1).next h4.2
  have HAR := Lib.hid (args_any h4.1 (by simp) hE4.env)
  have H4 := Lib.hid (And.intro (HB2.out.1.trans (h4.2.mono HB2.out.1.size)) hE4)
  clear h4 hE4
  go_wp2_with fail
  generalize ((w2.alloc (.cells #[.int .i64 2, .int .i64 0, .string (str [62, 49])] 46)).alloc (.cells #[.bool false, .int .i64 1, .slice (some ⟨w.heap.size, 0, none⟩) 4 4, .bool true, .int .i64 0, .slice (some ⟨w2.heap.size, 0, none⟩) 1 1] 24)) = WX at *
  refine HAR.out.mono ?_
  rintro e w5 ⟨t5, rfl, ht5, b5⟩
  have e5 : [(false, (1 : Int), aw4), (true, 0, aw1)].map argOf3 = [awA, awB] := by
    show [argOf false 1 aw4, argOf true 0 aw1] = _
    rw [arg_aw4, arg_aw1]; rfl
  rw [e5] at ht5
  have HCI := Lib.hid (aw_countif ht5 (H4.out.2.next b5))
  have HB5 := Lib.hid (H4.out.1.trans (b5.mono H4.out.1.size))
  clear ht5 b5 HAR H4
  go_wp2_with fail
  refine HCI.out.mono ?_
  rintro e w6 ⟨rfl, b6⟩
  have HB6 := Lib.hid (HB5.out.trans (b6.mono HB5.out.size))
  clear b6 HB5 HCI
  have q1 : ∀ W, (binOp .eql 46 (.agg #[.int .i64 1, .int .i64 20000, .string (str [])]) (.agg #[.int .i64 1, .int .i64 20000, .string (str [])])).run Tryz.prog W = .ok (.bool true) W := fun W => (run_eq_plain W 1 20000 1 20000 (str []) (str [])).trans (by simp)
  have q2 : ∀ W, (binOp .eql 46 (.agg #[.int .i64 1, .int .i64 10000, .string (str [])]) (.agg #[.int .i64 1, .int .i64 10000, .string (str [])])).run Tryz.prog W = .ok (.bool true) W := fun W => (run_eq_plain W 1 10000 1 10000 (str []) (str [])).trans (by simp)
  have HT1 := Lib.hid (tellN_any 20000)
  have HT2 := Lib.hid (tellN_any 10000)
  generalize V.val (.num 20000) = v1 at *
  generalize V.val (.num 10000) = v2 at *
  go_wp2_with fail
  refine (HT1.out _).mono ?_
  rintro e w7 ⟨rfl, b7⟩
  go_wp2_with fail
  refine (HT2.out _).mono ?_
  rintro e w8 ⟨rfl, b8⟩
  go_wp2
  go_ret
  exact ⟨rfl, HB6.out.trans ((b7.trans (b8.mono b7.size)).mono HB6.out.size)⟩
end Go.Proofs.YteelmbpmmobpjaaGreatDoor
