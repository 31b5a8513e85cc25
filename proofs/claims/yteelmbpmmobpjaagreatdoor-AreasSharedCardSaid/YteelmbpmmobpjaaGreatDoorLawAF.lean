/-
  The statement's law: AreasFinds.
-/
import Derived.Test.YteelmbpmmobpjaaGreatDoorValS
import Derived.Deep.CutBlock
import Derived.Deep.DeepCutAuto
namespace Go.Proofs.YteelmbpmmobpjaaGreatDoor
open Go.RowKit
open UK (str BytesAt nth Only Row Box)
theorem asl_two {W : World} {g c : Nat} {a b : Ar} {ta tb : Value} (h : Box W g #[.int .i64 a.rows, .int .i64 a.cols, .bool a.area, ta, .int .i64 b.rows, .int .i64 b.cols, .bool b.area, tb]) (ha : VSl W.heap.size W ta a.vs) (hb : VSl W.heap.size W tb b.vs) : ASl W.heap.size W (.slice (some ⟨g, 0, none⟩) 2 c) [a, b] := by
  refine ⟨⟨g, c, rfl, h.lt, fun j x hx => ?_⟩, Nat.le_refl _⟩
  have hi : j = 0 ∨ j = 1 := by
    rcases Nat.lt_or_ge j 2 with hh | hh
    · omega
    · rw [List.getElem?_eq_none (by simpa using hh)] at hx; cases hx
  rcases hi with rfl | rfl
  · obtain rfl := Option.some.inj hx
    exact ⟨ta, ha, h.cell 0 _ rfl, h.cell 1 _ rfl, h.cell 2 _ rfl, h.cell 3 _ rfl⟩
  · obtain rfl := Option.some.inj hx
    exact ⟨tb, hb, h.cell 4 _ rfl, h.cell 5 _ rfl, h.cell 6 _ rfl, h.cell 7 _ rfl⟩
/-- the law's area, behind calls that make memory -/
structure FSt (w : World) (T : Nat) (a : Ar) (ta : Value) (wr : World) : Prop where
  bel : Below w.heap.size w wr
  box : Box wr T #[.int .i64 a.rows, .int .i64 a.cols, .bool a.area, ta]
  va : VSl wr.heap.size wr ta a.vs
  env : EnvS wr
theorem FSt.next {w wr W : World} {T : Nat} {a : Ar} {ta : Value} (h : FSt w T a ta wr) (hb : Below wr.heap.size wr W) : FSt w T a ta W :=
  ⟨h.bel.trans (hb.mono h.bel.size), h.box.next hb, (h.va.below hb).up hb.size (Nat.le_refl _), h.env.next hb⟩
theorem FSt.drew {w wr : World} {T : Nat} {a : Ar} {ta : Value} (h : FSt w T a ta wr) : FSt w T a ta wr.drew := h.next (UK.belowN (Below.refl _ _) 1)
theorem FSt.facts {w wr : World} {T : Nat} {a : Ar} {ta : Value} (h : FSt w T a ta wr) :
    wr.cell? ⟨T, 0, none⟩ = some (.int .i64 a.rows) ∧ wr.cell? ⟨T, 1, none⟩ = some (.int .i64 a.cols) ∧ wr.cell? ⟨T, 2, none⟩ = some (.bool a.area) ∧ wr.cell? ⟨T, 3, none⟩ = some ta ∧ T < wr.heap.size :=
  ⟨h.box.cell 0 _ rfl, h.box.cell 1 _ rfl, h.box.cell 2 _ rfl, h.box.cell 3 _ rfl, h.box.lt⟩
theorem argOf_len (one : Bool) (cols : Int) (ps : List (Int × Int × List UInt8)) : (argOf one cols ps).vs.length ≤ 30 := by
  unfold argOf
  cases one with
  | true => simp
  | false =>
    show (padL (colsN cols) (firstL ps)).length ≤ 30
    unfold padL
    rw [List.length_append, List.length_replicate]
    have := steps_le (n := (firstL ps).length) (cols_le cols).1 (cols_le cols).2.1
    have := firstL_len ps
    omega
def asArea (a : Ar) : Ar := ⟨a.rows, a.cols, true, a.vs⟩
theorem whereF_iff (p : V → Bool) (l : List V) (o : Nat) : (0 ≤ whereF p l o ↔ 0 < (l.filter p).length) := by
  induction l generalizing o with
  | nil => simp [whereF]
  | cons x r ih =>
    unfold whereF
    by_cases hx : p x = true
    · rw [if_pos hx, List.filter_cons_of_pos hx]
      simp
    · rw [if_neg hx, List.filter_cons_of_neg hx]
      exact ih (o + 1)
theorem whereF_at (p : V → Bool) (l : List V) (o : Nat) (h : 0 ≤ whereF p l o) : ∃ (j : Nat) (x : V), whereF p l o = ((o + j : Nat) : Int) ∧ l[j]? = some x ∧ p x = true := by
  induction l generalizing o with
  | nil => simp [whereF] at h
  | cons x r ih =>
    unfold whereF at h ⊢
    by_cases hx : p x = true
    · rw [if_pos hx]
      exact ⟨0, x, rfl, rfl, hx⟩
    · rw [if_neg hx] at h ⊢
      obtain ⟨j, y, h1, h2, h3⟩ := ih (o + 1) h
      exact ⟨j + 1, y, by rw [h1]; congr 1; omega, h2, h3⟩
theorem fits_eq {v x : V} (hv : isText v = false) (h : fitsV 0 v x = true) : x = v := by
  have h' : fits0 0 v x = true := h
  unfold fits0 at h'
  split at h'
  · rename_i hk
    cases v with
    | text l => cases hv
    | blank => cases x <;> first | rfl | (exfalso; simp [tellK] at hk; done)
    | num n =>
      cases x with
      | num m =>
        have h2 : (cmpI m n == 0) = true := h'
        unfold cmpI at h2
        split at h2
        · cases h2
        · split at h2
          · cases h2
          · have : m = n := by omega
            rw [this]
      | _ => exfalso; simp [tellK] at hk
    | bool b =>
      cases x with
      | bool c =>
        have h2 : (cmpB c b == 0) = true := h'
        cases b <;> cases c <;> first | rfl | cases h2
      | _ => exfalso; simp [tellK] at hk
    | fail k =>
      cases x with
      | fail m =>
        have h2 : ((0 : Int) == 0 && m == k) = true := h'
        have : m = k := by simpa using h2
        rw [this]
      | _ => exfalso; simp [tellK] at hk
  · cases h'
def matchV (v : V) (l : List V) : V := if 0 ≤ whereF (fitsV 0 v) l 0 then .num ((whereF (fitsV 0 v) l 0 + 1) * 10000) else .fail 5
theorem af_match {w : World} {T tb tn tk : Nat} {a : Ar} (v : V) (hl : a.vs.length ≤ 30) (hnt : ∀ x : V, bothText x v = false) {W : World} (hF : FSt w T (asArea a) (.slice (some ⟨tb, 0, none⟩) tn tk) W) {og oc : Nat} (hO : VSl W.heap.size W (.slice (some ⟨og, 0, none⟩) 1 oc) [v]) :
    Calls Tryz.prog 11 #[.string (str [77, 65, 84, 67, 72]), .slice (some ⟨W.heap.size, 0, none⟩) 2 2] (W.alloc (.cells #[.int .i64 1, .int .i64 1, .bool false, .slice (some ⟨og, 0, none⟩) 1 oc, .int .i64 a.rows, .int .i64 a.cols, .bool true, .slice (some ⟨tb, 0, none⟩) tn tk] 27))
      fun e w' => e = .returned (.tuple #[.int .i64 (GivenN (matchV v a.vs)), .bool (isNum (matchV v a.vs))]) ∧ FSt w T (asArea a) (.slice (some ⟨tb, 0, none⟩) tn tk) w' := by
  have hb : Below W.heap.size W (W.alloc (.cells #[.int .i64 1, .int .i64 1, .bool false, .slice (some ⟨og, 0, none⟩) 1 oc, .int .i64 a.rows, .int .i64 a.cols, .bool true, .slice (some ⟨tb, 0, none⟩) tn tk] 27)) := (Below.refl _ _).alloc (Nat.le_refl _) _
  have hx := Box.new W #[.int .i64 1, .int .i64 1, .bool false, .slice (some ⟨og, 0, none⟩) 1 oc, .int .i64 a.rows, .int .i64 a.cols, .bool true, .slice (some ⟨tb, 0, none⟩) tn tk] 27
  have h2 : ASl _ _ (.slice (some ⟨W.heap.size, 0, none⟩) 2 2) [⟨1, 1, false, [v]⟩, asArea a] := asl_two (c := 2) (a := ⟨1, 1, false, [v]⟩) (b := asArea a) hx ((hO.below hb).up hb.size (Nat.le_refl _)) ((hF.va.below hb).up hb.size (Nat.le_refl _))
  refine (number_of (call_match h2 (by show a.vs.length ≤ 1000; omega) (fun x _ => hnt x))).mono ?_
  rintro e w' ⟨rfl, b⟩
  exact ⟨rfl, (hF.next hb).next b⟩
theorem af_count {w : World} {T tb tn tk : Nat} {a : Ar} (v : V) (hl : a.vs.length ≤ 30) (hnt : ∀ x : V, bothText x v = false) (hv : isText v = false) {W : World} (hF : FSt w T (asArea a) (.slice (some ⟨tb, 0, none⟩) tn tk) W) {og oc : Nat} (hO : VSl W.heap.size W (.slice (some ⟨og, 0, none⟩) 1 oc) [v]) :
    Calls Tryz.prog 11 #[.string (str [67, 79, 85, 78, 84, 73, 70]), .slice (some ⟨W.heap.size, 0, none⟩) 2 2] (W.alloc (.cells #[.int .i64 a.rows, .int .i64 a.cols, .bool true, .slice (some ⟨tb, 0, none⟩) tn tk, .int .i64 1, .int .i64 1, .bool false, .slice (some ⟨og, 0, none⟩) 1 oc] 27))
      fun e w' => e = .returned (.tuple #[.int .i64 (((a.vs.filter (fitsV 0 v)).length : Int) * 10000), .bool true]) ∧ FSt w T (asArea a) (.slice (some ⟨tb, 0, none⟩) tn tk) w' := by
  have hb : Below W.heap.size W (W.alloc (.cells #[.int .i64 a.rows, .int .i64 a.cols, .bool true, .slice (some ⟨tb, 0, none⟩) tn tk, .int .i64 1, .int .i64 1, .bool false, .slice (some ⟨og, 0, none⟩) 1 oc] 27)) := (Below.refl _ _).alloc (Nat.le_refl _) _
  have hx := Box.new W #[.int .i64 a.rows, .int .i64 a.cols, .bool true, .slice (some ⟨tb, 0, none⟩) tn tk, .int .i64 1, .int .i64 1, .bool false, .slice (some ⟨og, 0, none⟩) 1 oc] 27
  have h2 : ASl _ _ (.slice (some ⟨W.heap.size, 0, none⟩) 2 2) [asArea a, ⟨1, 1, false, [v]⟩] := asl_two (c := 2) (a := asArea a) (b := ⟨1, 1, false, [v]⟩) hx ((hF.va.below hb).up hb.size (Nat.le_refl _)) ((hO.below hb).up hb.size (Nat.le_refl _))
  refine (number_of (call_countif h2 (by show a.vs.length ≤ 1000; omega) v 0 (.inl rfl) (fun W2 _ => made_other v hv) (fun x _ => hnt x))).mono ?_
  rintro e w' ⟨rfl, b⟩
  exact ⟨rfl, (hF.next hb).next b⟩
theorem af_index {w : World} {T tb tn tk : Nat} {a : Ar} (v : V) (k : Nat) (hl : a.vs.length ≤ 30) (hk1 : 1 ≤ k) (hk2 : k ≤ a.vs.length) (hv : a.vs[k - 1]? = some v) {W : World} (hF : FSt w T (asArea a) (.slice (some ⟨tb, 0, none⟩) tn tk) W) {og oc : Nat} (hO : VSl W.heap.size W (.slice (some ⟨og, 0, none⟩) 1 oc) [.num ((k : Int) * 10000)]) :
    Calls Tryz.prog 10 #[.string (str [73, 78, 68, 69, 88]), .slice (some ⟨W.heap.size, 0, none⟩) 2 2] (W.alloc (.cells #[.int .i64 a.rows, .int .i64 a.cols, .bool true, .slice (some ⟨tb, 0, none⟩) tn tk, .int .i64 1, .int .i64 1, .bool false, .slice (some ⟨og, 0, none⟩) 1 oc] 27))
      fun e w' => e = .returned v.val ∧ FSt w T (asArea a) (.slice (some ⟨tb, 0, none⟩) tn tk) w' := by
  have hb : Below W.heap.size W (W.alloc (.cells #[.int .i64 a.rows, .int .i64 a.cols, .bool true, .slice (some ⟨tb, 0, none⟩) tn tk, .int .i64 1, .int .i64 1, .bool false, .slice (some ⟨og, 0, none⟩) 1 oc] 27)) := (Below.refl _ _).alloc (Nat.le_refl _) _
  have hx := Box.new W #[.int .i64 a.rows, .int .i64 a.cols, .bool true, .slice (some ⟨tb, 0, none⟩) tn tk, .int .i64 1, .int .i64 1, .bool false, .slice (some ⟨og, 0, none⟩) 1 oc] 27
  have h2 : ASl _ _ (.slice (some ⟨W.heap.size, 0, none⟩) 2 2) [asArea a, ⟨1, 1, false, [.num ((k : Int) * 10000)]⟩] := asl_two (c := 2) (a := asArea a) (b := ⟨1, 1, false, [.num ((k : Int) * 10000)]⟩) hx ((hF.va.below hb).up hb.size (Nat.le_refl _)) ((hO.below hb).up hb.size (Nat.le_refl _))
  refine (call_index h2 (by show a.vs.length ≤ 1000; omega) hk1 hk2 v hv).mono ?_
  rintro e w' ⟨rfl, b⟩
  exact ⟨rfl, (hF.next hb).next b⟩
/-- behind MATCH -/
def CutM (w : World) (T : Nat) (a : Ar) (ta : Value) (v : V) (av bv : Value) (wx : World) : Prop := av = .int .i64 (GivenN (matchV v a.vs)) ∧ bv = .bool (isNum (matchV v a.vs)) ∧ FSt w T (asArea a) ta wx
/-- behind COUNTIF -/
def CutC (w : World) (T : Nat) (a : Ar) (ta : Value) (v : V) (av bv : Value) (wx : World) : Prop := av = .int .i64 (((a.vs.filter (fitsV 0 v)).length : Int) * 10000) ∧ bv = .bool true ∧ FSt w T (asArea a) ta wx
set_option maxHeartbeats 4000000 in
set_option maxRecDepth 100000 in
theorem af_any {w : World} (hE : EnvS w) (one : Bool) (cols : Int) {sl : Value} {ps : List (Int × Int × List UInt8)} (hp : PlSl w sl ps) (hps : ps.length ≤ 9223372036854775807) (pk pn : Int) (px : List UInt8) (hpx : px.length ≤ 9223372036854775807) :
    Calls Tryz.prog 5 #[.agg #[.bool one, .int .i64 cols, sl], .agg #[.int .i64 pk, .int .i64 pn, .string (str px)]] w fun e w' => e = .returned (.bool true) ∧ Below w.heap.size w w' := by
  obtain ⟨ao, sc, hsl, _⟩ := hp.is
  have hb0 : Below w.heap.size w ((w.alloc (.cells #[.bool one, .int .i64 cols, sl] 24)).alloc (.cells #[.int .i64 pk, .int .i64 pn, .string (str px)] 46)) := ((Below.refl _ _).alloc (Nat.le_refl _) _).alloc (by simp) _
  have HA := Lib.hid (arg_any (w := (w.alloc (.cells #[.bool one, .int .i64 cols, sl] 24)).alloc (.cells #[.int .i64 pk, .int .i64 pn, .string (str px)] 46)) one cols (hE.env.next hb0) (hp.next hb0) hps)
  have HE := Lib.hid (And.intro hE hb0)
  have hlen := argOf_len one cols ps
  subst hsl
  clear hE hb0 hp
  unfold ArV at HA
  have HO := Lib.hid (fun (W : World) (he : Env W) => of_all (w := W) pk pn px hpx he)
  generalize V.of pk pn px = v at *
  have HIT := Lib.hid (fun w => istext_any (w := w) v)
  obtain ⟨a, ha⟩ : ∃ a, argOf one cols ps = a := ⟨_, rfl⟩
  rw [ha] at HA hlen
  clear ha
  go_enter Tryz.func5, Tryz.ntmps5
  go_wp2_with fail
  refine HA.out.mono ?_
  rintro e w1 ⟨t, rfl, hv, b1, tb, tn, tk, rfl, hnew⟩
  have hpb : Box w1 (w.heap.size + 1) #[.int .i64 pk, .int .i64 pn, .string (str px)] := by
    have hx := Box.new (w.alloc (.cells #[.bool one, .int .i64 cols, .slice ao ps.length sc] 24)) #[.int .i64 pk, .int .i64 pn, .string (str px)] 46
    simp only [World.size_alloc] at hx
    exact hx.next b1
  have p0 := hpb.cell 0 _ rfl
  have p1 := hpb.cell 1 _ rfl
  have p2 := hpb.cell 2 _ rfl
  have hpl := hpb.lt
  have HB1 := Lib.hid (And.intro hv (And.intro b1 hpb))
  clear hv b1 hpb hnew
  have hf2 : FSt w w1.heap.size (asArea a) (.slice (some ⟨tb, 0, none⟩) tn tk) (w1.alloc (.cells #[.int .i64 a.rows, .int .i64 a.cols, .bool true, .slice (some ⟨tb, 0, none⟩) tn tk] 27)) := by
    obtain ⟨hv, b1, _⟩ := HB1.out
    have hb := HE.out.2.trans (b1.mono HE.out.2.size)
    have hb2 : Below w1.heap.size w1 (w1.alloc (.cells #[.int .i64 a.rows, .int .i64 a.cols, .bool true, .slice (some ⟨tb, 0, none⟩) tn tk] 27)) := (Below.refl _ _).alloc (Nat.le_refl _) _
    exact ⟨hb.trans (hb2.mono hb.size), Box.new _ _ _, (hv.below hb2).up hb2.size (Nat.le_refl _), (HE.out.1.next hb).next hb2⟩
  have HF2 := Lib.hid hf2
  have HO2 := Lib.hid (HO.out _ hf2.env.env)
  clear hf2 HO HA
  go_wp2_with fail
  refine HO2.out.mono ?_
  rintro e w3 ⟨rfl, b3⟩
  have HF3 := Lib.hid (HF2.out.next b3)
  clear HF2 HO2 b3 p0 p1 p2
  cases hit : isText v with
  | true =>
    rw [hit] at HIT
    have HAW := Lib.hid (awake_any (w := w3) HF3.out.env)
    clear hit
    generalize v.val = vv at *
    go_wp2_with fail
    refine (HIT.out _).mono ?_
    rintro e w4 ⟨rfl, rfl⟩
    go_wp2_with fail
    refine HAW.out.mono ?_
    rintro e w5 ⟨rfl, b5⟩
    go_wp2
    go_ret
    exact ⟨rfl, HF3.out.bel.trans (b5.mono HF3.out.bel.size)⟩
  | false =>
    rw [hit] at HIT
    have hnt : ∀ x : V, bothText x v = false := fun x => by cases x <;> cases v <;> first | rfl | cases hit
    have HNT := Lib.hid (And.intro hnt hit)
    clear hnt hit
    obtain ⟨f0, f1, f2, f3, fl⟩ := HF3.out.drew.facts
    have HON := Lib.hid (fun w => one_any (w := w) v)
    have HF3d := Lib.hid HF3.out.drew
    dsimp only [asArea] at f0 f1 f2 f3
    go_wp2_with fail
    refine (HIT.out _).mono ?_
    rintro e w4 ⟨rfl, rfl⟩
    have HMA := Lib.hid (fun (W : World) (hF : FSt w w1.heap.size (asArea a) (.slice (some ⟨tb, 0, none⟩) tn tk) W) (og oc : Nat) (hO : VSl W.heap.size W (.slice (some ⟨og, 0, none⟩) 1 oc) [v]) => af_match v hlen HNT.out.1 hF hO)
    have HCO := Lib.hid (fun (W : World) (hF : FSt w w1.heap.size (asArea a) (.slice (some ⟨tb, 0, none⟩) tn tk) W) (og oc : Nat) (hO : VSl W.heap.size W (.slice (some ⟨og, 0, none⟩) 1 oc) [v]) => af_count v hlen HNT.out.1 HNT.out.2 hF hO)
    go_upto_region 6 with (fail)
    go_cut [7, 8] (fun av bv wx => CutM w w1.heap.size a (.slice (some ⟨tb, 0, none⟩) tn tk) v av bv wx)
    case first =>
      go_region_with (first
        | (go_at_call 12; refine (HON.out _).mono ?_; rintro e w5 ⟨og, oc, rfl, hog, hov, b5⟩; have HF5 := Lib.hid (HF3d.out.next b5); have HOV := Lib.hid hov; obtain ⟨k0, k1, k2, k3, kl⟩ := HF5.out.facts; dsimp only [asArea] at k0 k1 k2 k3; unfold ArV; clear b5 hov)
        | (go_at_call 11; refine (HMA.out _ HF5.out og oc HOV.out).mono ?_; rintro e w6 ⟨rfl, hF6⟩; have HF6 := Lib.hid hF6; clear hF6))
      all_goals
        go_wp2_with fail
        go_meet
        case rel => exact ⟨rfl, rfl, HF6.out⟩
    case rest =>
      obtain ⟨rfl, rfl, hF6⟩ := hcut
      obtain ⟨g0, g1, g2, g3, gl⟩ := hF6.drew.facts
      have HF6 := Lib.hid hF6
      have HF6d := Lib.hid hF6.drew
      dsimp only [asArea] at g0 g1 g2 g3
      clear hF6 f0 f1 f2 f3 fl HF3d HMA
      go_upto_region 7 with (fail)
      go_cut [9, 10] (fun av bv wx => CutC w w1.heap.size a (.slice (some ⟨tb, 0, none⟩) tn tk) v av bv wx)
      case first =>
        go_region_with (first
          | (go_at_call 12; refine (HON.out _).mono ?_; rintro e w7 ⟨og, oc, rfl, hog, hov, b7⟩; have HF7 := Lib.hid (HF6d.out.next b7); have HOV := Lib.hid hov; obtain ⟨k0, k1, k2, k3, kl⟩ := HF7.out.facts; dsimp only [asArea] at k0 k1 k2 k3; unfold ArV; clear b7 hov)
          | (go_at_call 11; refine (HCO.out _ HF7.out og oc HOV.out).mono ?_; rintro e w8 ⟨rfl, hF8⟩; have HF8 := Lib.hid hF8; clear hF8))
        all_goals
          go_wp2_with fail
          go_meet
          case rel => exact ⟨rfl, rfl, HF8.out⟩
      case rest =>
        obtain ⟨rfl, rfl, hF8⟩ := hcut
        obtain ⟨j0, j1, j2, j3, jl⟩ := hF8.drew.facts
        have HF8 := Lib.hid hF8
        have HF8d := Lib.hid hF8.drew
        have HAW := Lib.hid (fun (W : World) (he : EnvS W) => awake_any (w := W) he)
        dsimp only [asArea] at j0 j1 j2 j3
        clear hF8 g0 g1 g2 g3 gl HF6 HF6d HCO
        have hiff := whereF_iff (fitsV 0 v) a.vs 0
        by_cases hk : 0 ≤ whereF (fitsV 0 v) a.vs 0
        · obtain ⟨j, x, h1, h2, h3⟩ := whereF_at (fitsV 0 v) a.vs 0 hk
          have hxv := fits_eq HNT.out.2 h3
          subst hxv
          have hc := hiff.1 hk
          have hjl : j < a.vs.length := (List.getElem?_eq_some_iff.1 h2).1
          obtain ⟨kk, hkk⟩ : ∃ kk, kk = j + 1 := ⟨_, rfl⟩
          obtain rfl : j = kk - 1 := by omega
          have hkk1 : 1 ≤ kk := by omega
          have hm : matchV x a.vs = .num ((kk : Int) * 10000) := by
            unfold matchV
            rw [if_pos hk, h1]
            congr 2
            omega
          have HIN := Lib.hid (fun (W : World) (hF : FSt w w1.heap.size (asArea a) (.slice (some ⟨tb, 0, none⟩) tn tk) W) (og oc : Nat) (hO : VSl W.heap.size W (.slice (some ⟨og, 0, none⟩) 1 oc) [.num ((kk : Int) * 10000)]) => af_index x kk hlen hkk1 (by omega) h2 hF hO)
          have HON1 : Hid (∀ w, Calls Tryz.prog 12 #[.iface 43 (.int .i64 ((kk : Int) * 10000))] w fun e w' => ∃ g c, e = .returned (ArV ⟨1, 1, false, [.num ((kk : Int) * 10000)]⟩ (.slice (some ⟨g, 0, none⟩) 1 c)) ∧ w.heap.size ≤ g ∧ VSl w'.heap.size w' (.slice (some ⟨g, 0, none⟩) 1 c) [.num ((kk : Int) * 10000)] ∧ Below w.heap.size w w') := fun w => one_any (w := w) (.num ((kk : Int) * 10000))
          have HTL := Lib.hid (fun w => told_any (w := w) x)
          have hcI : (0 : Int) < ((a.vs.filter (fitsV 0 x)).length : Int) * 10000 := by omega
          rw [hm]
          dsimp only [GivenN, isNum]
          have hq : ∀ W, (binOp .eql 32 (.agg (tellC x)) (.agg (tellC x))).run Tryz.prog W = .ok (.bool true) W := fun W => (run_eq_v15 W _ _ _ _ _ _).trans (by simp)
          unfold tellC at HTL hq
          generalize (a.vs.filter (fitsV 0 x)).length = cc at *
          clear hiff hk h1 h2 h3 hc hm hjl hkk HON
          go_upto_region 12 with (fail)
          go_cut [11] (fun gv wx => gv = x.val ∧ FSt w w1.heap.size (asArea a) (.slice (some ⟨tb, 0, none⟩) tn tk) wx)
          case first =>
            go_region_with (first
              | (go_at_call 12; refine (HON1.out _).mono ?_; rintro e w9 ⟨og, oc, rfl, hog, hov, b9⟩; have HF9 := Lib.hid (HF8d.out.next b9); have HOV := Lib.hid hov; obtain ⟨k0, k1, k2, k3, kl⟩ := HF9.out.facts; dsimp only [asArea] at k0 k1 k2 k3; unfold ArV; clear b9 hov)
              | (go_at_call 10; refine (HIN.out _ HF9.out og oc HOV.out).mono ?_; rintro e w10 ⟨rfl, hF10⟩; have HF10 := Lib.hid hF10; clear hF10))
            all_goals
              go_wp2_with fail
              go_meet
              case rel => exact ⟨rfl, HF10.out⟩
          case rest =>
            obtain ⟨rfl, hF10⟩ := hcut
            have HF10 := Lib.hid hF10
            clear hF10 j0 j1 j2 j3 jl HIN HON1
            generalize x.val = xv at *
            go_wp2_with fail
            refine (HAW.out _ HF10.out.env).mono ?_
            rintro e w11 ⟨rfl, b11⟩
            go_wp2_with fail
            refine (HTL.out _).mono ?_
            rintro e w12 ⟨rfl, b12⟩
            go_wp2_with fail
            refine (HTL.out _).mono ?_
            rintro e w13 ⟨rfl, b13⟩
            go_wp2
            go_ret
            have hb := HF10.out.bel
            have hb2 := b11.trans ((b12.trans (b13.mono b12.size)).mono b11.size)
            exact ⟨rfl, hb.trans (hb2.mono hb.size)⟩
        · have hc : (a.vs.filter (fitsV 0 v)).length = 0 := by omega
          have hm : matchV v a.vs = .fail 5 := by unfold matchV; rw [if_neg hk]
          rw [hm, hc]
          dsimp only [GivenN, isNum]
          have HA2 := Lib.hid (HAW.out _ HF8.out.env)
          clear hiff hk hc hm HAW
          generalize v.val = vv at *
          go_wp2_with fail
          refine HA2.out.mono ?_
          rintro e w9 ⟨rfl, b9⟩
          go_wp2
          go_ret
          exact ⟨rfl, HF8.out.bel.trans (b9.mono HF8.out.bel.size)⟩
end Go.Proofs.YteelmbpmmobpjaaGreatDoor
