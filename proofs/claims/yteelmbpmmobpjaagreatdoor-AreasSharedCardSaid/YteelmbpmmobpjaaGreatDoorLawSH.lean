/-
  The statement's law: AreasShared.
-/
import Derived.Test.YteelmbpmmobpjaaGreatDoorShaC
namespace Go.Proofs.YteelmbpmmobpjaaGreatDoor
open Go.RowKit
open UK (str BytesAt nth Only Row Box)
theorem ShR.start {w0 w : World} {A B : Ar} {va vb : Value} {x5 x6 x10 x11 x12 x13 : Value} (hb : Below w0.heap.size w0 w) : ShR w0 A B va vb (fun _ => false) x5 x6 x10 x11 x12 x13 0 0 0 0 0 0 w :=
  ⟨hb, nofun, nofun, nofun, nofun, nofun, nofun, nofun, nofun, nofun, nofun, nofun⟩
/-- each store behind the calls and the variables -/
def DepOk (D : Nat → Bool) : Prop := (D 6 = true → D 1 = true) ∧ (D 6 = true → D 4 = true) ∧ (D 7 = true → D 3 = true) ∧ (D 7 = true → D 5 = true)
theorem DepOk.step {D : Nat → Bool} (h : DepOk D) (i : Nat) (hi : i ≠ 6 ∧ i ≠ 7) : DepOk (fun j => j == i || D j) := by
  obtain ⟨h1, h2, h3, h4⟩ := h
  have e6 : ((6 : Nat) == i) = false := by simpa using Ne.symm hi.1
  have e7 : ((7 : Nat) == i) = false := by simpa using Ne.symm hi.2
  unfold DepOk
  simp only [e6, e7, Bool.false_or, Bool.or_eq_true]
  exact ⟨fun k => .inr (h1 k), fun k => .inr (h2 k), fun k => .inr (h3 k), fun k => .inr (h4 k)⟩
theorem DepOk.step6 {D : Nat → Bool} (h : DepOk D) (h1 : D 1 = true) (h4 : D 4 = true) : DepOk (fun j => j == 6 || D j) := by
  obtain ⟨_, _, q3, q4⟩ := h
  exact ⟨fun _ => by simp [h1], fun _ => by simp [h4], fun k => by simpa using q3 (by simpa using k), fun k => by simpa using q4 (by simpa using k)⟩
theorem DepOk.step7 {D : Nat → Bool} (h : DepOk D) (h1 : D 3 = true) (h4 : D 5 = true) : DepOk (fun j => j == 7 || D j) := by
  obtain ⟨q3, q4, _, _⟩ := h
  exact ⟨fun k => by simpa using q3 (by simpa using k), fun k => by simpa using q4 (by simpa using k), fun _ => by simp [h1], fun _ => by simp [h4]⟩
theorem no_of {a b : Bool} (h : a = true → b = true) (hb : b = false) : a = false := by cases a <;> simp_all
theorem argOf_pos (one : Bool) (cols : Int) (ps : List (Int × Int × List UInt8)) : 0 < (argOf one cols ps).vs.length := by
  unfold argOf
  cases one with
  | true => simp
  | false =>
    show 0 < (padL (colsN cols) (firstL ps)).length
    unfold padL
    rw [List.length_append, List.length_replicate]
    exact (steps_done (n := (firstL ps).length) (cols_le cols).1 (cols_le cols).2.1).1
theorem step_append_run3 {P : Program} {t tx ty : TypeId} {sv xv v' : Value} {w w' : World} (hr : (Builtin.append_ #[t, tx] ty #[sv, xv]).run P w = .ok v' w') {ops : Array Oper} {o : Oper} {a : Act} {tm : Array Value} {K : Act → World → Prop} {Q : Exit → Act → World → Prop} {E : Prop} {s x : Operand}
    (hg : o.guard = none) (hop : o.op = Op.call { callee := Callee.builtin Builtin.append, args := #[s, x], argTypes := #[t, tx] }) (hty : o.type = ty) (hs : a.eval s = sv) (hx : a.eval x = xv) (hK : K (a.put o.dst v') w') :
    if Region.wanted o (yielded ops tm) = true then Oper.wp P o a w K Q else E := by
  have hw : Region.wanted o (yielded ops tm) = true := by simp [Region.wanted, hg]
  rw [if_pos hw]
  subst hty
  unfold Oper.wp
  simp [execOp, hop, resolve, invoke, builtin, hs, hx, hr, Result.andThen]
  exact hK
set_option maxRecDepth 100000 in
theorem vals_cat {W : World} {g c gb cb : Nat} {us vs : List V} (h : Row W g c (vals us)) (hv : VSl W.heap.size W (.slice (some ⟨gb, 0, none⟩) vs.length cb) vs) (h0 : 0 < vs.length) (hl : us.length + vs.length ≤ 100000) :
    ∃ g' c' W', (Builtin.append_ #[25, 25] 25 #[.slice (some ⟨g, 0, none⟩) us.length c, .slice (some ⟨gb, 0, none⟩) vs.length cb]).run Tryz.prog W = .ok (.slice (some ⟨g', 0, none⟩) (us.length + vs.length) c') W' ∧ Row W' g' c' (vals (us ++ vs)) ∧ ((g' = g ∧ Only g' W W') ∨ (g' = W.heap.size ∧ Below W.heap.size W W')) := by
  obtain ⟨⟨g2, c2, hh, hlt, hc⟩, _⟩ := hv
  cases hh
  have hsrc : Src Tryz.prog 1 25 (.slice (some ⟨gb, 0, none⟩) vs.length cb) (vals vs).length (vals vs) W := by
    rw [vals_length]
    refine Src.ofSlice W Tryz.underlying25 ⟨gb, 0, none⟩ vs.length cb (vals vs) (by rw [vals_length, Nat.mul_one]) (fun j u hj => ?_) (fun u hu => ?_)
    · unfold vals at hj
      rw [List.getElem?_map] at hj
      obtain ⟨v, hv, rfl⟩ := Option.map_eq_some_iff.1 hj
      rw [UK.add_mk0, Nat.zero_add]
      exact hc j v hv
    · unfold vals at hu
      obtain ⟨v, _, rfl⟩ := List.mem_map.1 hu
      cases v <;> rfl
  obtain ⟨g', c', W', e, r, o⟩ := UK.push_row (P := Tryz.prog) (t := 25) (tx := 25) (ty := 25) Tryz.underlying25 (i := Tryz.t35) rfl rfl rfl (show (16 : Nat) ≤ 16 by omega) rfl (.inr ⟨g, rfl, h⟩) (by rw [vals_length]; exact h0) hsrc (by rw [vals_length, vals_length]; omega)
  rw [List.length_append, vals_length, vals_length] at e
  refine ⟨g', c', W', e, ?_, ?_⟩
  · unfold vals at r ⊢
    rw [List.map_append]
    exact r
  · rcases o with ⟨ho, o⟩ | o
    · exact .inl ⟨(congrArg Addr.block (Option.some.inj ho)).symm, o⟩
    · exact .inr o
def shInv (w0 : World) (A B : Ar) (va vb : Value) (a0 : Act) (D : Nat → Bool) (a : Act) (w : World) : Prop :=
  ∃ x5 x6 x10 x11 x12 x13 X Y ga ca gb cb, a = ((((((a0.put (some 5) x5).put (some 6) x6).put (some 10) x10).put (some 11) x11).put (some 12) x12).put (some 13) x13) ∧ DepOk D ∧ ShR w0 A B va vb D x5 x6 x10 x11 x12 x13 X Y ga ca gb cb w
set_option maxHeartbeats 4000000 in
set_option maxRecDepth 100000 in
theorem sh_any {w : World} (hE : EnvS w) (o1 o2 : Bool) (c1 c2 : Int) {s1 s2 : Value} {p1 p2 : List (Int × Int × List UInt8)} (hp1 : PlSl w s1 p1) (hp2 : PlSl w s2 p2) (hps1 : p1.length ≤ 9223372036854775807) (hps2 : p2.length ≤ 9223372036854775807) :
    Calls Tryz.prog 3 #[.agg #[.bool o1, .int .i64 c1, s1], .agg #[.bool o2, .int .i64 c2, s2]] w fun e w' => e = .returned (.bool true) ∧ Below w.heap.size w w' := by
  obtain ⟨ao1, sc1, hsl1, _⟩ := hp1.is
  obtain ⟨ao2, sc2, hsl2, _⟩ := hp2.is
  subst hsl1 hsl2
  have hb0 : Below w.heap.size w ((w.alloc (.cells #[.bool o1, .int .i64 c1, .slice ao1 p1.length sc1] 24)).alloc (.cells #[.bool o2, .int .i64 c2, .slice ao2 p2.length sc2] 24)) := ((Below.refl _ _).alloc (Nat.le_refl _) _).alloc (by simp) _
  have hx1 := (Box.new w #[.bool o1, .int .i64 c1, .slice ao1 p1.length sc1] 24).alloc (.cells #[.bool o2, .int .i64 c2, .slice ao2 p2.length sc2] 24)
  have hx2 := Box.new (w.alloc (.cells #[.bool o1, .int .i64 c1, .slice ao1 p1.length sc1] 24)) #[.bool o2, .int .i64 c2, .slice ao2 p2.length sc2] 24
  simp only [World.size_alloc] at hx2
  obtain ⟨w0, hw0⟩ : ∃ w0, w0 = ((w.alloc (.cells #[.bool o1, .int .i64 c1, .slice ao1 p1.length sc1] 24)).alloc (.cells #[.bool o2, .int .i64 c2, .slice ao2 p2.length sc2] 24)) := ⟨_, rfl⟩
  rw [← hw0] at hb0 hx1 hx2
  have HA1 := Lib.hid (fun (W : World) (hb : Below w0.heap.size w0 W) => arg_any (w := W) o1 c1 (hE.env.next (hb0.trans (hb.mono hb0.size))) (hp1.next (hb0.trans (hb.mono hb0.size))) hps1)
  have HA2 := Lib.hid (fun (W : World) (hb : Below w0.heap.size w0 W) => arg_any (w := W) o2 c2 (hE.env.next (hb0.trans (hb.mono hb0.size))) (hp2.next (hb0.trans (hb.mono hb0.size))) hps2)
  have HEV := Lib.hid (fun (W : World) (hb : Below w0.heap.size w0 W) => hE.next (hb0.trans (hb.mono hb0.size)))
  have hlen1 := argOf_len o1 c1 p1
  have hlen2 := argOf_len o2 c2 p2
  have HPOS := Lib.hid (And.intro (argOf_pos o1 c1 p1) (argOf_pos o2 c2 p2))
  have HOK := Lib.hid (And.intro (argOf_ok o1 c1 p1) (argOf_ok o2 c2 p2))
  obtain ⟨A, hA⟩ : ∃ A, argOf o1 c1 p1 = A := ⟨_, rfl⟩
  obtain ⟨B, hB⟩ : ∃ B, argOf o2 c2 p2 = B := ⟨_, rfl⟩
  rw [hA] at HA1 hlen1 HOK HPOS
  rw [hB] at HA2 hlen2 HOK HPOS
  have HB0 := Lib.hid hb0
  have HX := Lib.hid (And.intro hx1 hx2)
  have HW0 := Lib.hid hw0
  clear hE hb0 hx1 hx2 hp1 hp2 hA hB hps1 hps2
  unfold ArV at HA1 HA2
  go_enter Tryz.func3, Tryz.ntmps3
  go_wp2_with fail
  rw [← HW0.out]
  clear HW0 hw0
  have HAW := Lib.hid (fun (W : World) (he : EnvS W) => awake_any (w := W) he)
  refine wp_region_inv (shInv w0 A B (.agg #[.bool o1, .int .i64 c1, .slice ao1 p1.length sc1]) (.agg #[.bool o2, .int .i64 c2, .slice ao2 p2.length sc2])) (by kernel_rfl) (by kernel_rfl) ?h0 ?step ?fin
  case h0 => exact ⟨undef, undef, undef, undef, undef, undef, 0, 0, 0, 0, 0, 0, rfl, ⟨nofun, nofun, nofun, nofun⟩, ShR.start (UK.belowN (Below.refl _ _) 1)⟩
  case step =>
    intro D a wn i o ho hI hD hdep K hK
    have HK := Lib.hid hK
    clear hK
    have hi : i < 8 := (Array.getElem?_eq_some_iff.1 ho).1
    obtain ⟨x5, x6, x10, x11, x12, x13, X, Y, ga, ca, gb, cb, rfl, hDO, hS⟩ := hI
    simp only [Act.put, List.setIfInBounds_toArray, List.set_cons_zero, List.set_cons_succ]
    have hq1 := HX.out.1.next hS.bel
    have hq2 := HX.out.2.next hS.bel
    have k0 := hq1.cell 0 _ rfl
    have k1 := hq1.cell 1 _ rfl
    have k2 := hq1.cell 2 _ rfl
    have m0 := hq2.cell 0 _ rfl
    have m1 := hq2.cell 1 _ rfl
    have m2 := hq2.cell 2 _ rfl
    have HS := Lib.hid hS
    have HDO := Lib.hid hDO
    clear hS hq1 hq2
    rcases (show i = 0 ∨ i = 1 ∨ i = 2 ∨ i = 3 ∨ i = 4 ∨ i = 5 ∨ i = 6 ∨ i = 7 by omega) with rfl | rfl | rfl | rfl | rfl | rfl | rfl | rfl
    all_goals
      obtain rfl := Option.some.inj ho
      clear ho hi
    · clear hdep hDO
      go_simp
      exact HK.out _ _ ⟨_, _, _, _, _, _, _, _, _, _, _, _, rfl, HDO.out.step 0 (by decide), HS.out.step0⟩
    · have e := HS.out.d0 (hdep 0 (by decide))
      have HN := Lib.hid (no_of HDO.out.1 hD)
      clear hdep hDO hD
      subst e
      go_simp
      refine (HA1.out _ HS.out.bel).mono ?_
      rintro e w1 ⟨t, rfl, hv, bw, tb, tn, tk, rfl, hnew⟩
      obtain ⟨⟨g', c', hh, hgl, _⟩, _⟩ := id hv
      cases hh
      exact HK.out _ _ ⟨_, _, _, _, _, _, _, _, _, _, _, _, rfl, HDO.out.step 1 (by decide), HS.out.step1 HN.out bw _ _ hnew hv hgl⟩
    · clear hdep hDO
      go_simp
      exact HK.out _ _ ⟨_, _, _, _, _, _, _, _, _, _, _, _, rfl, HDO.out.step 2 (by decide), HS.out.step2⟩
    · have e := HS.out.d2 (hdep 2 (by decide))
      have HN := Lib.hid (no_of HDO.out.2.2.1 hD)
      clear hdep hDO hD
      subst e
      go_simp
      refine (HA2.out _ HS.out.bel).mono ?_
      rintro e w1 ⟨t, rfl, hv, bw, tb, tn, tk, rfl, hnew⟩
      obtain ⟨⟨g', c', hh, hgl, _⟩, _⟩ := id hv
      cases hh
      exact HK.out _ _ ⟨_, _, _, _, _, _, _, _, _, _, _, _, rfl, HDO.out.step 3 (by decide), HS.out.step3 HN.out bw _ _ hnew hv hgl⟩
    · have HN := Lib.hid (no_of HDO.out.2.1 hD)
      clear hdep hDO hD
      go_simp
      exact HK.out _ _ ⟨_, _, _, _, _, _, _, _, _, _, _, _, rfl, HDO.out.step 4 (by decide), HS.out.step4 HN.out⟩
    · have HN := Lib.hid (no_of HDO.out.2.2.2 hD)
      clear hdep hDO hD
      go_simp
      exact HK.out _ _ ⟨_, _, _, _, _, _, _, _, _, _, _, _, rfl, HDO.out.step 5 (by decide), HS.out.step5 HN.out⟩
    · have HD := Lib.hid (And.intro (hdep 1 (by decide)) (And.intro (hdep 4 (by decide)) (hdep 5 (by decide))))
      have HN := Lib.hid hD
      obtain ⟨e4, l4, b4⟩ := HS.out.d4 HD.out.2.1
      have e1 := (HS.out.d1 HD.out.1).1
      rw [hD, if_neg (by decide)] at b4
      have f0 := b4.free 0
      have f1 := b4.free 1
      have f2 := b4.free 2
      have f3 := b4.free 3
      have g0 := b4.cell 0 _ rfl
      have g1 := b4.cell 1 _ rfl
      have g2 := b4.cell 2 _ rfl
      have g3 := b4.cell 3 _ rfl
      clear hdep hDO hD l4 b4
      unfold arCs at e1
      subst e1 e4
      go_simp
      exact HK.out _ _ ⟨_, _, _, _, _, _, _, _, _, _, _, _, rfl, HDO.out.step6 HD.out.1 HD.out.2.1, HS.out.step6 HD.out.1 HD.out.2.1 HD.out.2.2 HN.out⟩
    · have HD := Lib.hid (And.intro (hdep 3 (by decide)) (And.intro (hdep 4 (by decide)) (hdep 5 (by decide))))
      have HN := Lib.hid hD
      obtain ⟨e4, l4, b4⟩ := HS.out.d5 HD.out.2.2
      have e1 := (HS.out.d3 HD.out.1).1
      rw [hD, if_neg (by decide)] at b4
      have f0 := b4.free 0
      have f1 := b4.free 1
      have f2 := b4.free 2
      have f3 := b4.free 3
      have g0 := b4.cell 0 _ rfl
      have g1 := b4.cell 1 _ rfl
      have g2 := b4.cell 2 _ rfl
      have g3 := b4.cell 3 _ rfl
      clear hdep hDO hD l4 b4
      unfold arCs at e1
      subst e1 e4
      go_simp
      exact HK.out _ _ ⟨_, _, _, _, _, _, _, _, _, _, _, _, rfl, HDO.out.step7 HD.out.1 HD.out.2.2, HS.out.step7 HD.out.1 HD.out.2.1 HD.out.2.2 HN.out⟩
  case fin =>
    intro D a w2 hI hall
    obtain ⟨x5, x6, x10, x11, x12, x13, X, Y, ga, ca, gb, cb, rfl, hDO, hS⟩ := hI
    simp only [Act.put, List.setIfInBounds_toArray, List.set_cons_zero, List.set_cons_succ]
    obtain ⟨e1, v1, l1, l1'⟩ := hS.d1 (hall 1 (by decide))
    obtain ⟨e3, v3, l3, l3'⟩ := hS.d3 (hall 3 (by decide))
    obtain ⟨e4, l4, b4⟩ := hS.d4 (hall 4 (by decide))
    obtain ⟨e5, l5, b5⟩ := hS.d5 (hall 5 (by decide))
    rw [hall 6 (by decide), if_pos rfl] at b4
    rw [hall 7 (by decide), if_pos rfl] at b5
    have hne := hS.n45 (hall 4 (by decide)) (hall 5 (by decide))
    have hbel := hS.bel
    clear hS hDO hall
    subst e4 e5
    clear e1 e3 l1 l1' l3 l3' HA1 HA2
    have c1 : w2.cell? ⟨X, 2, none⟩ = some (.bool A.area) := b4.cell 2 _ rfl
    have c2 : w2.cell? ⟨Y, 2, none⟩ = some (.bool B.area) := b5.cell 2 _ rfl
    cases hA : A.area with
    | false =>
      rw [hA] at c1
      clear hA
      have HA2 := Lib.hid (HAW.out _ (HEV.out _ hbel))
      have HBE := Lib.hid (HB0.out.trans (hbel.mono HB0.out.size))
      clear hbel b4 b5 v1 v3 hne l4 l5
      go_wp2_with fail
      refine HA2.out.mono ?_
      rintro e w3 ⟨rfl, b3⟩
      go_wp2
      go_ret
      exact ⟨rfl, HBE.out.trans (b3.mono HBE.out.size)⟩
    | true =>
    cases hB : B.area with
    | false =>
      rw [hA] at c1
      rw [hB] at c2
      clear hA hB
      have HA2 := Lib.hid (HAW.out _ (HEV.out _ hbel))
      have HBE := Lib.hid (HB0.out.trans (hbel.mono HB0.out.size))
      clear hbel b4 b5 v1 v3 hne l4 l5
      go_wp2_with fail
      refine HA2.out.mono ?_
      rintro e w3 ⟨rfl, b3⟩
      go_wp2
      go_ret
      exact ⟨rfl, HBE.out.trans (b3.mono HBE.out.size)⟩
    | true =>
      rw [hA] at c1
      rw [hB] at c2
      have HAR := Lib.hid (And.intro hA hB)
      have HL := Lib.hid (And.intro l4 (And.intro l5 (And.intro hne hbel)))
      have VA := Lib.hid v1
      have VB := Lib.hid v3
      have B4 := Lib.hid b4
      have B5 := Lib.hid b5
      have hpA : 0 < A.vs.length := HPOS.out.1
      have hpB : 0 < B.vs.length := HPOS.out.2
      clear hA hB hbel b4 b5 v1 v3 hne l4 l5
      go_upto_region 4 with (fail)
      clear c1 c2
      refine wp_region_inv (shQv w2 A B X Y ga ca gb cb) (by kernel_rfl) (by kernel_rfl) ?h0 ?step ?fin
      case h0 => exact ⟨undef, undef, undef, undef, undef, undef, undef, undef, undef, undef, undef, undef, undef, undef, undef, undef, 0, 0, 0, 0, 0, 0, by simp only [Act.put, List.setIfInBounds_toArray, List.set_cons_zero, List.set_cons_succ], ShQ.start (UK.belowN (Below.refl _ _) 1)⟩
      case step =>
        intro D a wn i o ho hI hD hdep K hK
        have HK := Lib.hid hK
        clear hK
        have hi : i < 17 := (Array.getElem?_eq_some_iff.1 ho).1
        obtain ⟨x23, x24, x25, x26, x27, x28, x29, x30, x31, x32, x33, x34, x35, x36, x37, x7, G, G1, c1, G2, c2, Z, rfl, hS⟩ := hI
        simp only [Act.put, List.setIfInBounds_toArray, List.set_cons_zero, List.set_cons_succ]
        have k3 : wn.cell? ⟨X, 3, none⟩ = some (.slice (some ⟨ga, 0, none⟩) A.vs.length ca) := (B4.out.next hS.bel).cell 3 _ rfl
        have m3 : wn.cell? ⟨Y, 3, none⟩ = some (.slice (some ⟨gb, 0, none⟩) B.vs.length cb) := (B5.out.next hS.bel).cell 3 _ rfl
        have HS := Lib.hid hS
        clear hS
        rcases (show i = 0 ∨ i = 1 ∨ i = 2 ∨ i = 3 ∨ i = 4 ∨ i = 5 ∨ i = 6 ∨ i = 7 ∨ i = 8 ∨ i = 9 ∨ i = 10 ∨ i = 11 ∨ i = 12 ∨ i = 13 ∨ i = 14 ∨ i = 15 ∨ i = 16 by omega) with rfl | rfl | rfl | rfl | rfl | rfl | rfl | rfl | rfl | rfl | rfl | rfl | rfl | rfl | rfl | rfl | rfl
        all_goals
          obtain rfl := Option.some.inj ho
          clear ho hi
        · clear hdep
          go_simp
          exact HK.out _ _ ⟨(.pointer (some ⟨X, 3, none⟩)), x24, x25, x26, x27, x28, x29, x30, x31, x32, x33, x34, x35, x36, x37, x7, G, G1, c1, G2, c2, Z, by simp only [Act.put, List.setIfInBounds_toArray, List.set_cons_zero, List.set_cons_succ], HS.out.step0⟩
        · have e := HS.out.e0 (hdep 0 (by decide))
          clear hdep hD
          subst e
          go_simp
          exact HK.out _ _ ⟨(.pointer (some ⟨X, 3, none⟩)), (.slice (some ⟨ga, 0, none⟩) A.vs.length ca), x25, x26, x27, x28, x29, x30, x31, x32, x33, x34, x35, x36, x37, x7, G, G1, c1, G2, c2, Z, by simp only [Act.put, List.setIfInBounds_toArray, List.set_cons_zero, List.set_cons_succ], HS.out.step1⟩
        · have e := HS.out.e1 (hdep 1 (by decide))
          clear hdep hD
          subst e
          go_simp
          exact HK.out _ _ ⟨x23, (.slice (some ⟨ga, 0, none⟩) A.vs.length ca), (.int .i64 (A.vs.length : Int)), x26, x27, x28, x29, x30, x31, x32, x33, x34, x35, x36, x37, x7, G, G1, c1, G2, c2, Z, by simp only [Act.put, List.setIfInBounds_toArray, List.set_cons_zero, List.set_cons_succ], HS.out.step2⟩
        · clear hdep
          go_simp
          exact HK.out _ _ ⟨x23, x24, x25, (.pointer (some ⟨Y, 3, none⟩)), x27, x28, x29, x30, x31, x32, x33, x34, x35, x36, x37, x7, G, G1, c1, G2, c2, Z, by simp only [Act.put, List.setIfInBounds_toArray, List.set_cons_zero, List.set_cons_succ], HS.out.step3⟩
        · have e := HS.out.e3 (hdep 3 (by decide))
          clear hdep hD
          subst e
          go_simp
          exact HK.out _ _ ⟨x23, x24, x25, (.pointer (some ⟨Y, 3, none⟩)), (.slice (some ⟨gb, 0, none⟩) B.vs.length cb), x28, x29, x30, x31, x32, x33, x34, x35, x36, x37, x7, G, G1, c1, G2, c2, Z, by simp only [Act.put, List.setIfInBounds_toArray, List.set_cons_zero, List.set_cons_succ], HS.out.step4⟩
        · have e := HS.out.e4 (hdep 4 (by decide))
          clear hdep hD
          subst e
          go_simp
          exact HK.out _ _ ⟨x23, x24, x25, x26, (.slice (some ⟨gb, 0, none⟩) B.vs.length cb), (.int .i64 (B.vs.length : Int)), x29, x30, x31, x32, x33, x34, x35, x36, x37, x7, G, G1, c1, G2, c2, Z, by simp only [Act.put, List.setIfInBounds_toArray, List.set_cons_zero, List.set_cons_succ], HS.out.step5⟩
        · have e2 := HS.out.e2 (hdep 2 (by decide))
          have e5 := HS.out.e5 (hdep 5 (by decide))
          clear hdep hD
          subst e2 e5
          have hw := IntWalk.i64_in ((A.vs.length : Int) + (B.vs.length : Int)) (by omega)
          go_simp
          exact HK.out _ _ ⟨x23, x24, (.int .i64 (A.vs.length : Int)), x26, x27, (.int .i64 (B.vs.length : Int)), (.int .i64 ((A.vs.length : Int) + (B.vs.length : Int))), x30, x31, x32, x33, x34, x35, x36, x37, x7, G, G1, c1, G2, c2, Z, by simp only [Act.put, List.setIfInBounds_toArray, List.set_cons_zero, List.set_cons_succ], HS.out.step6⟩
        · clear hdep hD
          go_simp
          exact HK.out _ _ ⟨x23, x24, x25, x26, x27, x28, x29, (.slice (some ⟨wn.heap.size, 0, none⟩) 0 0), x31, x32, x33, x34, x35, x36, x37, x7, wn.heap.size, G1, c1, G2, c2, Z, by simp only [Act.put, List.setIfInBounds_toArray, List.set_cons_zero, List.set_cons_succ], HS.out.step7⟩
        · clear hdep
          go_simp
          exact HK.out _ _ ⟨x23, x24, x25, x26, x27, x28, x29, x30, (.pointer (some ⟨X, 3, none⟩)), x32, x33, x34, x35, x36, x37, x7, G, G1, c1, G2, c2, Z, by simp only [Act.put, List.setIfInBounds_toArray, List.set_cons_zero, List.set_cons_succ], HS.out.step8⟩
        · have e := HS.out.e8 (hdep 8 (by decide))
          clear hdep hD
          subst e
          go_simp
          exact HK.out _ _ ⟨x23, x24, x25, x26, x27, x28, x29, x30, (.pointer (some ⟨X, 3, none⟩)), (.slice (some ⟨ga, 0, none⟩) A.vs.length ca), x33, x34, x35, x36, x37, x7, G, G1, c1, G2, c2, Z, by simp only [Act.put, List.setIfInBounds_toArray, List.set_cons_zero, List.set_cons_succ], HS.out.step9⟩
        · have h7 := hdep 7 (by decide)
          have e9 := HS.out.e9 (hdep 9 (by decide))
          have h13 : D 13 = false := no_of HS.out.p13 hD
          obtain ⟨e7, _, _, r7⟩ := HS.out.e7 h7
          obtain ⟨g', c', W', hrun, hrow, hg⟩ := vals_cat (us := []) (r7 hD) ((VA.out.below HS.out.bel).up HS.out.bel.size (Nat.le_refl _)) hpA (by simp; omega)
          rw [List.nil_append] at hrow
          simp only [List.length_nil, Nat.zero_add] at hrun
          subst e7 e9
          have HR := Lib.hid (And.intro h7 (And.intro h13 (And.intro hrow hg)))
          clear hdep hD h7 h13 r7 hrow hg
          dsimp only [List.getElem_toArray, List.getElem_cons_zero, List.getElem_cons_succ]
          refine step_append_run3 hrun rfl rfl rfl (by simp [Act.eval]) (by simp [Act.eval]) ?_
          simp only [Act.put, List.setIfInBounds_toArray, List.set_cons_zero, List.set_cons_succ]
          exact HK.out _ _ ⟨x23, x24, x25, x26, x27, x28, x29, (.slice (some ⟨G, 0, none⟩) 0 0), x31, (.slice (some ⟨ga, 0, none⟩) A.vs.length ca), (.slice (some ⟨g', 0, none⟩) A.vs.length c'), x34, x35, x36, x37, x7, G, g', c', G2, c2, Z, by simp only [Act.put, List.setIfInBounds_toArray, List.set_cons_zero, List.set_cons_succ], HS.out.step10 HR.out.1 HR.out.2.1 HR.out.2.2.1 HR.out.2.2.2⟩
        · clear hdep
          go_simp
          exact HK.out _ _ ⟨x23, x24, x25, x26, x27, x28, x29, x30, x31, x32, x33, (.pointer (some ⟨Y, 3, none⟩)), x35, x36, x37, x7, G, G1, c1, G2, c2, Z, by simp only [Act.put, List.setIfInBounds_toArray, List.set_cons_zero, List.set_cons_succ], HS.out.step11⟩
        · have e := HS.out.e11 (hdep 11 (by decide))
          clear hdep hD
          subst e
          go_simp
          exact HK.out _ _ ⟨x23, x24, x25, x26, x27, x28, x29, x30, x31, x32, x33, (.pointer (some ⟨Y, 3, none⟩)), (.slice (some ⟨gb, 0, none⟩) B.vs.length cb), x36, x37, x7, G, G1, c1, G2, c2, Z, by simp only [Act.put, List.setIfInBounds_toArray, List.set_cons_zero, List.set_cons_succ], HS.out.step12⟩
        · have h10 := hdep 10 (by decide)
          have e12 := HS.out.e12 (hdep 12 (by decide))
          have h14 : D 14 = false := no_of HS.out.p14 hD
          have h16 : D 16 = false := by
            cases h : D 16 with
            | false => rfl
            | true => rw [(HS.out.p16 h).2] at h14; cases h14
          obtain ⟨e10, _, _, r10⟩ := HS.out.e10 h10
          obtain ⟨g', c', W', hrun, hrow, hg⟩ := vals_cat (r10 hD) ((VB.out.below HS.out.bel).up HS.out.bel.size (Nat.le_refl _)) hpB (by omega)
          subst e10 e12
          have HR := Lib.hid (And.intro h10 (And.intro h14 (And.intro h16 (And.intro hrow hg))))
          clear hdep hD h10 h14 h16 r10 hrow hg
          dsimp only [List.getElem_toArray, List.getElem_cons_zero, List.getElem_cons_succ]
          refine step_append_run3 hrun rfl rfl rfl (by simp [Act.eval]) (by simp [Act.eval]) ?_
          simp only [Act.put, List.setIfInBounds_toArray, List.set_cons_zero, List.set_cons_succ]
          exact HK.out _ _ ⟨x23, x24, x25, x26, x27, x28, x29, x30, x31, x32, (.slice (some ⟨G1, 0, none⟩) A.vs.length c1), x34, (.slice (some ⟨gb, 0, none⟩) B.vs.length cb), (.slice (some ⟨g', 0, none⟩) (A.vs.length + B.vs.length) c'), x37, x7, G, G1, c1, g', c', Z, by simp only [Act.put, List.setIfInBounds_toArray, List.set_cons_zero, List.set_cons_succ], HS.out.step13 HR.out.1 HR.out.2.1 HR.out.2.2.1 HR.out.2.2.2.1 HR.out.2.2.2.2⟩
        · have e6 := HS.out.e6 (hdep 6 (by decide))
          have h13 := hdep 13 (by decide)
          have e13 := (HS.out.e13 h13).1
          have HR := Lib.hid h13
          clear hdep hD h13
          subst e6 e13
          go_simp
          exact HK.out _ _ ⟨x23, x24, x25, x26, x27, x28, (.int .i64 ((A.vs.length : Int) + (B.vs.length : Int))), x30, x31, x32, x33, x34, x35, (.slice (some ⟨G2, 0, none⟩) (A.vs.length + B.vs.length) c2), (.agg #[.int .i64 ((A.vs.length : Int) + (B.vs.length : Int)), .int .i64 1, .bool true, .slice (some ⟨G2, 0, none⟩) (A.vs.length + B.vs.length) c2]), x7, G, G1, c1, G2, c2, Z, by simp only [Act.put, List.setIfInBounds_toArray, List.set_cons_zero, List.set_cons_succ], HS.out.step14 HR.out⟩
        · have h16 : D 16 = false := by
            cases h : D 16 with
            | false => rfl
            | true => rw [(HS.out.p16 h).1] at hD; cases hD
          have HR := Lib.hid h16
          clear hdep hD h16
          go_simp
          exact HK.out _ _ ⟨x23, x24, x25, x26, x27, x28, x29, x30, x31, x32, x33, x34, x35, x36, x37, (.pointer (some ⟨wn.heap.size, 0, none⟩)), G, G1, c1, G2, c2, wn.heap.size, by simp only [Act.put, List.setIfInBounds_toArray, List.set_cons_zero, List.set_cons_succ], HS.out.step15 HR.out⟩
        · have h15 := hdep 15 (by decide)
          have h14 := hdep 14 (by decide)
          obtain ⟨e15, _, b4⟩ := HS.out.e15 h15
          have e14 := HS.out.e14 h14
          rw [hD, if_neg (by decide)] at b4
          have f0 := b4.free 0
          have f1 := b4.free 1
          have f2 := b4.free 2
          have f3 := b4.free 3
          have g0 := b4.cell 0 _ rfl
          have g1 := b4.cell 1 _ rfl
          have g2 := b4.cell 2 _ rfl
          have g3 := b4.cell 3 _ rfl
          have HR := Lib.hid (And.intro h15 (And.intro h14 hD))
          clear hdep hD h15 h14 b4
          unfold bothCs at e14
          subst e14 e15
          go_simp
          exact HK.out _ _ ⟨x23, x24, x25, x26, x27, x28, x29, x30, x31, x32, x33, x34, x35, x36, (.agg #[.int .i64 ((A.vs.length : Int) + (B.vs.length : Int)), .int .i64 1, .bool true, .slice (some ⟨G2, 0, none⟩) (A.vs.length + B.vs.length) c2]), (.pointer (some ⟨Z, 0, none⟩)), G, G1, c1, G2, c2, Z, by simp only [Act.put, List.setIfInBounds_toArray, List.set_cons_zero, List.set_cons_succ], HS.out.step16 HR.out.1 HR.out.2.1 HR.out.2.2⟩
      case fin =>
        intro D a w3 hI hall
        obtain ⟨x23, x24, x25, x26, x27, x28, x29, x30, x31, x32, x33, x34, x35, x36, x37, x7, G, G1, c1, G2, c2, Z, rfl, hS⟩ := hI
        simp only [Act.put, List.setIfInBounds_toArray, List.set_cons_zero, List.set_cons_succ]
        obtain ⟨e13, l13, r13⟩ := hS.e13 (hall 13 (by decide))
        obtain ⟨e15, l15, b15⟩ := hS.e15 (hall 15 (by decide))
        rw [hall 16 (by decide), if_pos rfl] at b15
        have hbel := hS.bel
        obtain ⟨l4, l5, hne, hb2⟩ := HL.out
        have hbw : Below w.heap.size w w2 := HB0.out.trans (hb2.mono HB0.out.size)
        have hvz : VSl w3.heap.size w3 (.slice (some ⟨G2, 0, none⟩) (A.vs.length + B.vs.length) c2) (A.vs ++ B.vs) := by
          refine ⟨⟨G2, c2, by rw [List.length_append], r13.lt, fun j v hj => ?_⟩, Nat.le_refl _⟩
          exact r13.at' j v.val (by unfold vals; rw [List.getElem?_map, hj]; rfl)
        have hst : ShL w A B X Y Z ga ca gb cb G2 c2 w3 := ⟨hbw.trans (hbel.mono hbw.size), B4.out.next hbel, B5.out.next hbel, b15, (VA.out.below hbel).up hbel.size (Nat.le_refl _), (VB.out.below hbel).up hbel.size (Nat.le_refl _), hvz, HEV.out _ (hb2.trans (hbel.mono hb2.size))⟩
        have HST := Lib.hid hst
        have HANS := Lib.hid (sh_ans HAR.out.1 HAR.out.2 hlen1 hlen2 HOK.out.1 HOK.out.2)
        subst e15
        clear hst hvz hbw hb2 hbel b15 l15 e13 l13 r13 hS hall l4 l5 hne VA VB B4 B5 HL HAR HEV HOK HPOS hpA hpB
        go_wp2_with fail
        go_loopw [40] (fun iv wr => ∃ i : Nat, i ≤ 9 ∧ iv = .int .i64 i ∧ ShL w A B X Y Z ga ca gb cb G2 c2 wr ∧ Box wr w3.heap.size (shNames.map fun l => Value.string (str l)).toArray) (fun iv _ => 9 - (intOf iv).toNat)
        case atStart =>
          refine ⟨0, Nat.zero_le _, rfl, HST.out.next ((Below.refl _ _).alloc (Nat.le_refl _) _), ?_⟩
          exact Box.new w3 _ 9
        case round =>
          obtain ⟨i, hi, rfl, hst, hbx⟩ := hrel
          have HS4 := Lib.hid (And.intro hst hbx)
          clear hst hbx HST
          by_cases hlt : i < 9
          · obtain ⟨nm, hnm⟩ : ∃ nm, shNames[i]? = some nm := ⟨shNames[i]'hlt, List.getElem?_eq_getElem hlt⟩
            obtain ⟨v, hv⟩ := HANS.out nm (List.mem_of_getElem? hnm)
            have HV := Lib.hid hv
            have hci : wr.cell? ⟨w3.heap.size, i, none⟩ = some (.string (str nm)) := HS4.out.2.cell i _ (by rw [List.getElem?_toArray, List.getElem?_map, hnm]; rfl)
            have hli : (i : Int) < 9 := by omega
            clear hv hnm HANS
            go_upto_region 8 with (fail)
            refine wp_region_inv (shPv wr A B nm v ga ca gb cb G2 c2) (by kernel_rfl) (by kernel_rfl) ?h0 ?step ?fin
            case h0 => exact ⟨u44, u45, u46, u47, u48, u49, u50, u51, u52, u53, u54, u55, 0, 0, by simp only [Act.put, List.setIfInBounds_toArray, List.set_cons_zero, List.set_cons_succ], ShP.start (UK.belowN (Below.refl _ _) 1)⟩
            case step =>
              intro D a wn i o ho hI hD hdep K hK
              have HK := Lib.hid hK
              clear hK
              have hi : i < 12 := (Array.getElem?_eq_some_iff.1 ho).1
              obtain ⟨x44, x45, x46, x47, x48, x49, x50, x51, x52, x53, x54, x55, P, Q, rfl, hS⟩ := hI
              simp only [Act.put, List.setIfInBounds_toArray, List.set_cons_zero, List.set_cons_succ]
              have hL := HS4.out.1.next hS.bel
              have k0 : wn.cell? ⟨X, 0, none⟩ = some (.int .i64 A.rows) := hL.bx.cell 0 _ rfl
              have k1 : wn.cell? ⟨X, 1, none⟩ = some (.int .i64 A.cols) := hL.bx.cell 1 _ rfl
              have k2 : wn.cell? ⟨X, 2, none⟩ = some (.bool A.area) := hL.bx.cell 2 _ rfl
              have k3 : wn.cell? ⟨X, 3, none⟩ = some (.slice (some ⟨ga, 0, none⟩) A.vs.length ca) := hL.bx.cell 3 _ rfl
              have m0 : wn.cell? ⟨Y, 0, none⟩ = some (.int .i64 B.rows) := hL.bY.cell 0 _ rfl
              have m1 : wn.cell? ⟨Y, 1, none⟩ = some (.int .i64 B.cols) := hL.bY.cell 1 _ rfl
              have m2 : wn.cell? ⟨Y, 2, none⟩ = some (.bool B.area) := hL.bY.cell 2 _ rfl
              have m3 : wn.cell? ⟨Y, 3, none⟩ = some (.slice (some ⟨gb, 0, none⟩) B.vs.length cb) := hL.bY.cell 3 _ rfl
              have n0 : wn.cell? ⟨Z, 0, none⟩ = some (.int .i64 ((A.vs.length : Int) + (B.vs.length : Int))) := hL.bz.cell 0 _ rfl
              have n1 : wn.cell? ⟨Z, 1, none⟩ = some (.int .i64 1) := hL.bz.cell 1 _ rfl
              have n2 : wn.cell? ⟨Z, 2, none⟩ = some (.bool true) := hL.bz.cell 2 _ rfl
              have n3 : wn.cell? ⟨Z, 3, none⟩ = some (.slice (some ⟨G2, 0, none⟩) (A.vs.length + B.vs.length) c2) := hL.bz.cell 3 _ rfl
              have HS := Lib.hid hS
              clear hS
              rcases (show i = 0 ∨ i = 1 ∨ i = 2 ∨ i = 3 ∨ i = 4 ∨ i = 5 ∨ i = 6 ∨ i = 7 ∨ i = 8 ∨ i = 9 ∨ i = 10 ∨ i = 11 by omega) with rfl | rfl | rfl | rfl | rfl | rfl | rfl | rfl | rfl | rfl | rfl | rfl
              all_goals
                obtain rfl := Option.some.inj ho
                clear ho hi
              · clear hdep hD
                go_simp
                exact HK.out _ _ ⟨(.string (str nm)), x45, x46, x47, x48, x49, x50, x51, x52, x53, x54, x55, P, Q, by simp only [Act.put, List.setIfInBounds_toArray, List.set_cons_zero, List.set_cons_succ], HS.out.step0⟩
              · clear hdep hD
                go_simp
                exact HK.out _ _ ⟨x44, (.agg (arCs A ga ca)), x46, x47, x48, x49, x50, x51, x52, x53, x54, x55, P, Q, by simp only [Act.put, List.setIfInBounds_toArray, List.set_cons_zero, List.set_cons_succ, arCs], HS.out.step1⟩
              · clear hdep hD
                go_simp
                exact HK.out _ _ ⟨x44, x45, (.agg (arCs B gb cb)), x47, x48, x49, x50, x51, x52, x53, x54, x55, P, Q, by simp only [Act.put, List.setIfInBounds_toArray, List.set_cons_zero, List.set_cons_succ, arCs], HS.out.step2⟩
              · have e1 := HS.out.e1 (hdep 1 (by decide))
                have e2 := HS.out.e2 (hdep 2 (by decide))
                clear hdep hD
                subst e1 e2
                unfold arCs
                go_simp
                exact HK.out _ _ ⟨x44, (.agg (arCs A ga ca)), (.agg (arCs B gb cb)), (.slice (some ⟨wn.heap.size, 0, none⟩) 2 2), x48, x49, x50, x51, x52, x53, x54, x55, wn.heap.size, Q, by simp only [Act.put, List.setIfInBounds_toArray, List.set_cons_zero, List.set_cons_succ, arCs], HS.out.step3⟩
              · have e1 := HS.out.e0 (hdep 0 (by decide))
                obtain ⟨e3, b3⟩ := HS.out.e3 (hdep 3 (by decide))
                have ha : ASl wn.heap.size wn (.slice (some ⟨P, 0, none⟩) 2 2) [A, B] := asl_two (c := 2) b3 hL.va hL.vb
                have HC := Lib.hid (HV.out wn _ _ (.inl rfl) ha)
                clear hdep hD b3 ha
                subst e1 e3
                go_simp
                refine HC.out.mono ?_
                rintro e w5 ⟨rfl, b5⟩
                exact HK.out _ _ ⟨(.string (str nm)), x45, x46, (.slice (some ⟨P, 0, none⟩) 2 2), v.val, x49, x50, x51, x52, x53, x54, x55, P, Q, by simp only [Act.put, List.setIfInBounds_toArray, List.set_cons_zero, List.set_cons_succ], HS.out.step4 b5⟩
              · have e1 := HS.out.e4 (hdep 4 (by decide))
                clear hdep hD
                subst e1
                have HC := Lib.hid (told_any (w := wn) v)
                go_simp
                refine HC.out.mono ?_
                rintro e w5 ⟨rfl, b5⟩
                exact HK.out _ _ ⟨x44, x45, x46, x47, v.val, (.agg (tellC v)), x50, x51, x52, x53, x54, x55, P, Q, by simp only [Act.put, List.setIfInBounds_toArray, List.set_cons_zero, List.set_cons_succ], HS.out.step5 b5⟩
              · clear hdep hD
                go_simp
                exact HK.out _ _ ⟨x44, x45, x46, x47, x48, x49, (.string (str nm)), x51, x52, x53, x54, x55, P, Q, by simp only [Act.put, List.setIfInBounds_toArray, List.set_cons_zero, List.set_cons_succ], HS.out.step6⟩
              · clear hdep hD
                go_simp
                exact HK.out _ _ ⟨x44, x45, x46, x47, x48, x49, x50, (.agg (bothCs A B G2 c2)), x52, x53, x54, x55, P, Q, by simp only [Act.put, List.setIfInBounds_toArray, List.set_cons_zero, List.set_cons_succ, bothCs], HS.out.step7⟩
              · have e1 := HS.out.e7 (hdep 7 (by decide))
                clear hdep hD
                subst e1
                unfold bothCs
                go_simp
                exact HK.out _ _ ⟨x44, x45, x46, x47, x48, x49, x50, (.agg (bothCs A B G2 c2)), (.slice (some ⟨wn.heap.size, 0, none⟩) 1 1), x53, x54, x55, P, wn.heap.size, by simp only [Act.put, List.setIfInBounds_toArray, List.set_cons_zero, List.set_cons_succ, bothCs], HS.out.step8⟩
              · have e1 := HS.out.e6 (hdep 6 (by decide))
                obtain ⟨e3, b3⟩ := HS.out.e8 (hdep 8 (by decide))
                have ha : ASl wn.heap.size wn (.slice (some ⟨Q, 0, none⟩) 1 1) [bothA A B] := asl_one (c := 1) (a := bothA A B) b3 hL.vz
                have HC := Lib.hid (HV.out wn _ _ (.inr rfl) ha)
                clear hdep hD b3 ha
                subst e1 e3
                go_simp
                refine HC.out.mono ?_
                rintro e w5 ⟨rfl, b5⟩
                exact HK.out _ _ ⟨x44, x45, x46, x47, x48, x49, (.string (str nm)), x51, (.slice (some ⟨Q, 0, none⟩) 1 1), v.val, x54, x55, P, Q, by simp only [Act.put, List.setIfInBounds_toArray, List.set_cons_zero, List.set_cons_succ], HS.out.step9 b5⟩
              · have e1 := HS.out.e9 (hdep 9 (by decide))
                clear hdep hD
                subst e1
                have HC := Lib.hid (told_any (w := wn) v)
                go_simp
                refine HC.out.mono ?_
                rintro e w5 ⟨rfl, b5⟩
                exact HK.out _ _ ⟨x44, x45, x46, x47, x48, x49, x50, x51, x52, v.val, (.agg (tellC v)), x55, P, Q, by simp only [Act.put, List.setIfInBounds_toArray, List.set_cons_zero, List.set_cons_succ], HS.out.step10 b5⟩
              · have e1 := HS.out.e5 (hdep 5 (by decide))
                have e2 := HS.out.e10 (hdep 10 (by decide))
                clear hdep hD
                subst e1 e2
                have hq := fun W => neq_told W v
                go_simp
                exact HK.out _ _ ⟨x44, x45, x46, x47, x48, (.agg (tellC v)), x50, x51, x52, x53, (.agg (tellC v)), (.bool false), P, Q, by simp only [Act.put, List.setIfInBounds_toArray, List.set_cons_zero, List.set_cons_succ], HS.out.step11⟩
            case fin =>
              intro D a w5 hI hall
              obtain ⟨x44, x45, x46, x47, x48, x49, x50, x51, x52, x53, x54, x55, P, Q, rfl, hS⟩ := hI
              simp only [Act.put, List.setIfInBounds_toArray, List.set_cons_zero, List.set_cons_succ]
              obtain rfl := hS.e11 (hall 11 (by decide))
              have HB5 := Lib.hid hS.bel
              clear hS hall
              go_wp2_with fail
              go_roundw
              case rel => exact ⟨i + 1, by omega, by go_num, HS4.out.1.next HB5.out, HS4.out.2.next HB5.out⟩
              case measure => simp [intOf]; omega
          · have hge : ¬ (i : Int) < 9 := by omega
            have HA2 := Lib.hid (HAW.out _ HS4.out.1.env)
            go_wp2_with fail
            refine HA2.out.mono ?_
            rintro e w5 ⟨rfl, b5⟩
            go_wp2
            go_ret
            exact ⟨rfl, HS4.out.1.bel.trans (b5.mono HS4.out.1.bel.size)⟩
end Go.Proofs.YteelmbpmmobpjaaGreatDoor
