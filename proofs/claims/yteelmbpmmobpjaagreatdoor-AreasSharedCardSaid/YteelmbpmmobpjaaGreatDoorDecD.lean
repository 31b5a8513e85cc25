/-
  Layer deci: Parse.
-/
import Derived.Test.YteelmbpmmobpjaaGreatDoorDecC
namespace Go.Proofs.YteelmbpmmobpjaaGreatDoor
open Go.RowKit
open UK (str BytesAt nth Only)
open DE (mostN goodB madeN fitsN headS tailS dotS numS badS digs bodyN)
set_option maxRecDepth 100000 in
theorem parse_bad {w : World} (s : List UInt8) (hs : s.length ≤ 100000) (hb : badS (Lib.trimPrefix s [45]) = true) :
    Calls Tryz.prog 61 #[.string (str s)] w fun e w' => e = .returned (.tuple #[.int .i64 0, .bool false]) ∧ Below w.heap.size w w' := by
  have HP := Lib.hid (prefix_any (w := w) s [45])
  have hl : (Lib.trimPrefix s [45]).length ≤ 100000 := by
    unfold Lib.trimPrefix; split
    · rw [List.length_drop]; omega
    · exact hs
  have HC := Lib.hid (cut_any (w := w) _ hl)
  have HB := Lib.hid hb
  clear hb
  unfold badS at HB
  generalize headS (Lib.trimPrefix s [45]) = a at HC HB
  generalize tailS (Lib.trimPrefix s [45]) = p at HC HB
  generalize dotS (Lib.trimPrefix s [45]) = d at HC HB
  rcases a with _ | ⟨a0, a⟩
  · go_enter Tryz.func61, Tryz.ntmps61
    go_wp2_with fail
    refine HP.out.mono ?_
    rintro e w' ⟨rfl, rfl⟩
    go_wp2_with fail
    refine HC.out.mono ?_
    rintro e w' ⟨rfl, hb⟩
    go_wp2
    go_ret2
    exact ⟨rfl, hb⟩
  · rcases p with _ | ⟨p0, p⟩
    · have hd : d = true := by have := HB.out; simpa using this
      subst hd
      go_enter Tryz.func61, Tryz.ntmps61
      go_wp2_with fail
      refine HP.out.mono ?_
      rintro e w' ⟨rfl, rfl⟩
      go_wp2_with fail
      refine HC.out.mono ?_
      rintro e w' ⟨rfl, hb⟩
      go_wp2
      go_ret2
      exact ⟨rfl, hb⟩
    · have hd : d = true ∧ 4 < (p0 :: p).length := by have := HB.out; simpa using this
      obtain ⟨hd, hp⟩ := hd
      subst hd
      have hp2 : (4 : Int) < (p.length : Int) + 1 := by simp only [List.length_cons] at hp; omega
      clear hp
      go_enter Tryz.func61, Tryz.ntmps61
      go_wp2_with fail
      refine HP.out.mono ?_
      rintro e w' ⟨rfl, rfl⟩
      go_wp2_with fail
      refine HC.out.mono ?_
      rintro e w' ⟨rfl, hb⟩
      go_wp2
      go_ret2
      exact ⟨rfl, hb⟩
/-- the loop over the digits: what has come to -/
def ParR (w : World) (m : Bool) (l : List UInt8) (e : Ending) (w' : World) : Prop :=
  (e = .returned (.tuple #[.int .i64 (match digs 0 l with | some n => if m then -(n : Int) else n | none => 0), .bool (digs 0 l).isSome])) ∧ Below w.heap.size w w'
theorem parR_none {w w' : World} {m : Bool} {l : List UInt8} (h : digs 0 l = none) (hb : Below w.heap.size w w') : ParR w m l (.returned (.tuple #[.int .i64 0, .bool false])) w' := by
  unfold ParR
  rw [h]
  exact ⟨rfl, hb⟩
theorem parR_some {w w' : World} {m : Bool} {l : List UInt8} {n : Nat} (h : digs 0 l = some n) (hb : Below w.heap.size w w') : ParR w m l (.returned (.tuple #[.int .i64 (if m = true then -(n : Int) else n), .bool true])) w' := by
  unfold ParR
  rw [h]
  exact ⟨rfl, hb⟩
theorem digs_some_step (l : List UInt8) (k n : Nat) (hk : k < l.length) (h : digs 0 (l.take k) = some n) (h1 : 48 ≤ (nth l k).toNat) (h2 : (nth l k).toNat ≤ 57) (h3 : n ≤ 99999999999999999) :
    digs 0 (l.take (k + 1)) = some (10 * n + ((nth l k).toNat - 48)) := by
  have e : l.take (k + 1) = l.take k ++ [nth l k] := by
    rw [List.take_succ_eq_append_getElem hk]
    congr 2
    simp [nth, List.getD, hk]
  rw [e, DE.digs_app, h]
  simp [digs, h1, h2, h3]
theorem digs_none_step (l : List UInt8) (k n : Nat) (hk : k < l.length) (h : digs 0 (l.take k) = some n) (hn : ¬ (48 ≤ (nth l k).toNat ∧ (nth l k).toNat ≤ 57 ∧ n ≤ 99999999999999999)) :
    digs 0 l = none := by
  have e : l = l.take k ++ (nth l k :: l.drop (k + 1)) := by
    have h0 := (List.take_append_drop k l).symm
    rw [List.drop_eq_getElem_cons hk] at h0
    have : nth l k = l[k] := by simp [nth, List.getD, hk]
    rw [this]
    exact h0
  rw [e, DE.digs_app, h]
  show digs n (nth l k :: _) = none
  unfold digs
  rw [if_neg hn]
set_option maxRecDepth 100000 in
set_option maxHeartbeats 1000000 in
theorem parse_run {w : World} (L s a p : List UInt8) (HLe : Hid (a ++ (p ++ List.drop p.length [48, 48, 48, 48]) = L)) (d m : Bool) (b : List UInt8) (ha : a.length ≤ 100000) (hpl : p.length ≤ 4) (ha0 : a ≠ []) (hd : d = true → p ≠ [])
    (HP : Hid (∀ w, Calls Tryz.prog 86 #[.string (str s), .string (str [45])] w fun e w' => e = .returned (.tuple #[.string (str b), .bool m]) ∧ w = w'))
    (HC : Hid (∀ w, Calls Tryz.prog 87 #[.string (str b), .string (str [46])] w fun e w' => e = .returned (.tuple #[.string (str a), .string (str p), .bool d]) ∧ Below w.heap.size w w')) :
    Calls Tryz.prog 61 #[.string (str s)] w (ParR w m L) := by
  have hp4 : (p.length : Int) ≤ 4 := by omega
  have hane1 : ¬ a = [] := ha0
  have hane2 : a.isEmpty = false := by cases a with
    | nil => exact absurd rfl ha0
    | cons x y => rfl
  have hpe : d = false ∨ (d = true ∧ p ≠ [] ∧ p.isEmpty = false) := by
    cases d
    · exact .inl rfl
    · cases p with
      | nil => exact absurd rfl (hd rfl)
      | cons p0 p' => exact .inr ⟨rfl, by simp, rfl⟩
  have n1 : ¬ 9223372036854775807 < a.length + p.length := by omega
  have n2 : ¬ 9223372036854775807 < a.length + p.length + (4 - p.length) := by omega
  go_enter Tryz.func61, Tryz.ntmps61
  go_wp2_with fail
  refine (HP.out _).mono ?_
  rintro e w' ⟨rfl, rfl⟩
  go_wp2_with fail
  refine (HC.out _).mono ?_
  rintro e w1 ⟨rfl, hb⟩
  obtain ⟨cap, o, hcap, hrun0, hby⟩ := UK.run_bytes (P := Tryz.prog) (src := 9) (dst := 135) Tryz.underlying9 Tryz.underlying135 Tryz.underlying5 w1 L
  have hrun : (convert 9 135 (.string (str (a ++ (p ++ List.drop p.length [48, 48, 48, 48]))))).run Tryz.prog w1 = .ok (.slice (some ⟨w1.heap.size, 0, none⟩) L.length cap) (w1.drew.alloc o) := by rw [HLe.out]; exact hrun0
  have hLl : L.length ≤ 100010 := by
    rw [← HLe.out]; simp only [List.length_append, List.length_drop, List.length_cons, List.length_nil]; omega
  clear hrun0
  have hbe0 : Below w.heap.size w (w1.drew.alloc o) := (UK.belowN hb 1).alloc hb.size _
  generalize w1.drew.alloc o = W2 at hrun hby hbe0
  have HD := Lib.hid hpe
  have HA := Lib.hid (And.intro hd ha0)
  have HB := Lib.hid (And.intro hby (And.intro hcap hbe0))
  clear hpe hd ha0 hby hcap hb hbe0
  rcases HD.out with rfl | ⟨rfl, hpn1, hpn2⟩
  all_goals
    go_wp2
    go_loop [9, 46] (fun nv iv => ∃ k n : Nat, k ≤ L.length ∧ iv = .int .i64 k ∧ nv = .int .u64 (n : Int) ∧ Hid (digs 0 (L.take k) = some n)) (fun _ iv => L.length - (intOf iv).toNat)
    case atStart => exact ⟨0, 0, Nat.zero_le _, rfl, rfl, rfl⟩
    case round =>
      obtain ⟨k, n, hk, rfl, rfl, HN⟩ := hrel
      have hby := HB.out.1
      have hbb := HB.out.2.2
      have hnm : n ≤ mostN := DE.digs_le _ _ _ (by unfold mostN; omega) HN.out
      by_cases hlt : k < L.length
      · have hc := hby.cell (i := k) (by simp only [List.length_append]; omega)
        have hnth : nth (L ++ List.replicate (cap - L.length) 0) k = nth L k := by
          simp only [nth, List.getD_eq_getElem?_getD]
          rw [List.getElem?_append_left hlt]
        rw [hnth] at hc
        have S1 := Lib.hid (digs_some_step L k n hlt HN.out)
        have S2 := Lib.hid (digs_none_step L k n hlt HN.out)
        have HBE := Lib.hid hbb
        clear hnth hby hbb
        generalize nth L k = c at hc S1 S2
        have hc8 := UK.u8_lt c
        have hlti : (k : Int) < (L.length : Int) := by omega
        unfold mostN at hnm
        by_cases q1 : c.toNat < 48
        · have q1' : (c.toNat : Int) < 48 := by omega
          go_wp2
          go_ret2
          exact parR_none (S2.out (by omega)) HBE.out
        · by_cases q2 : 57 < c.toNat
          · have q1' : 48 ≤ (c.toNat : Int) := by omega
            have q2' : 57 < (c.toNat : Int) := by omega
            go_wp2
            go_ret2
            exact parR_none (S2.out (by omega)) HBE.out
          · by_cases q3 : 99999999999999999 < n
            · have q1' : 48 ≤ (c.toNat : Int) := by omega
              have q2' : (c.toNat : Int) ≤ 57 := by omega
              have q3' : 99999999999999999 < (n : Int) := by omega
              go_wp2
              go_ret2
              exact parR_none (S2.out (by omega)) HBE.out
            · have q1' : 48 ≤ (c.toNat : Int) := by omega
              have q2' : (c.toNat : Int) ≤ 57 := by omega
              have q3' : (n : Int) ≤ 99999999999999999 := by omega
              have q0 : 0 ≤ (n : Int) := by omega
              have SS := Lib.hid (S1.out (by omega) (by omega) (by omega))
              go_wp2
              go_round
              case rel => exact ⟨k + 1, 10 * n + (c.toNat - 48), by omega, by go_num, by congr 1; omega, SS.out⟩
              case measure => simp [intOf]; omega
      · have hke : k = L.length := by omega
        have HM := Lib.hid (made_yes (w := W2) m n hnm)
        have HN2 : Hid (digs 0 L = some n) := by rw [hke, List.take_length] at HN; exact HN
        have hge : (L.length : Int) ≤ (k : Int) := by omega
        have HBE := Lib.hid hbb
        clear hby hbb hke
        cases m
        all_goals
          go_wp2_with fail
          refine HM.out.mono ?_
          rintro e w' ⟨rfl, rfl⟩
          go_wp2
          go_ret2
          exact parR_some HN2.out HBE.out
theorem DE.headS_le (l : List UInt8) : (headS l).length ≤ l.length := List.IsPrefix.length_le (List.takeWhile_prefix _)
theorem DE.pad_drop (p : List UInt8) (h : p.length ≤ 4) : List.drop p.length [48, 48, 48, 48] = DE.padS p := by
  unfold DE.padS
  have : ∀ n : Nat, n ≤ 4 → List.drop n ([48, 48, 48, 48] : List UInt8) = List.replicate (4 - n) 48 := by
    intro n hn
    match n, hn with
    | 0, _ => rfl
    | 1, _ => rfl
    | 2, _ => rfl
    | 3, _ => rfl
    | 4, _ => rfl
  exact this _ h
theorem DE.trimPrefix_le (s p : List UInt8) : (Lib.trimPrefix s p).length ≤ s.length := by
  unfold Lib.trimPrefix; split
  · rw [List.length_drop]; omega
  · exact Nat.le_refl _
theorem parse_any {w : World} (s : List UInt8) (hs : s.length ≤ 100000) :
    Calls Tryz.prog 61 #[.string (str s)] w fun e w' => e = .returned (.tuple #[.int .i64 (DE.parseN s), .bool (DE.parseB s)]) ∧ Below w.heap.size w w' := by
  cases hb : badS (Lib.trimPrefix s [45]) with
  | true =>
    refine (parse_bad s hs hb).mono ?_
    rintro e w' ⟨rfl, h⟩
    refine ⟨?_, h⟩
    have : bodyN (Lib.trimPrefix s [45]) = none := by unfold bodyN; rw [if_pos hb]
    unfold DE.parseN DE.parseB DE.parseO
    rw [this]
    rfl
  | false =>
    have hl := DE.trimPrefix_le s [45]
    have hb2 := hb
    unfold badS at hb2
    simp only [Bool.or_eq_false_iff, Bool.and_eq_false_imp, decide_eq_false_iff_not] at hb2
    have hpl : (tailS (Lib.trimPrefix s [45])).length ≤ 4 := by
      cases hd : dotS (Lib.trimPrefix s [45]) with
      | true => have := (hb2.2 hd).2; omega
      | false => rw [(DE.index_no _ hd).2.2]; simp
    refine (parse_run (numS (Lib.trimPrefix s [45])) s (headS (Lib.trimPrefix s [45])) (tailS (Lib.trimPrefix s [45])) ?_ (dotS (Lib.trimPrefix s [45])) (Lib.hasPrefix s [45]) (Lib.trimPrefix s [45]) ?_ hpl ?_ ?_ ?_ ?_).mono ?_
    · show _ = _
      rw [DE.pad_drop _ hpl]
      unfold numS
      rw [List.append_assoc]
    · exact Nat.le_trans (DE.headS_le _) (by omega)
    · intro h; rw [h] at hb2; simp at hb2
    · intro hd h; have := (hb2.2 hd).1; rw [h] at this; simp at this
    · exact Lib.hid (fun w => prefix_any s [45])
    · exact Lib.hid (fun w => cut_any _ (by omega))
    · rintro e w' ⟨rfl, h⟩
      refine ⟨?_, h⟩
      have : bodyN (Lib.trimPrefix s [45]) = digs 0 (numS (Lib.trimPrefix s [45])) := by unfold bodyN; rw [if_neg (by rw [hb]; decide)]
      unfold DE.parseN DE.parseB DE.parseO
      rw [this]
      cases digs 0 (numS (Lib.trimPrefix s [45])) <;> rfl
end Go.Proofs.YteelmbpmmobpjaaGreatDoor
