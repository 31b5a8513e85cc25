/-
  Layer areas: where a value stands first.
-/
import Derived.Test.YteelmbpmmobpjaaGreatDoorValG
namespace Go.Proofs.YteelmbpmmobpjaaGreatDoor
open Go.RowKit
open UK (str BytesAt nth Only Row Box)
/-- the first place at which a value stands; -1: there is none -/
def whereF (p : V → Bool) : List V → Nat → Int
  | [], _ => -1
  | x :: r, k => if p x then (k : Int) else whereF p r (k + 1)
theorem whereF_drop (p : V → Bool) (l : List V) (k : Nat) (h : ∀ j v, j < k → l[j]? = some v → p v = false) (hk : k ≤ l.length) : whereF p l 0 = whereF p (l.drop k) k := by
  have gen : ∀ (k : Nat) (l : List V) (o : Nat), (∀ j v, j < k → l[j]? = some v → p v = false) → k ≤ l.length → whereF p l o = whereF p (l.drop k) (o + k) := by
    intro k
    induction k with
    | zero => intro l o _ _; rfl
    | succ k ih =>
      intro l o h hk
      cases l with
      | nil => simp at hk
      | cons x r =>
        have h0 := h 0 x (by omega) rfl
        show (if p x = true then _ else _) = _
        rw [if_neg (by rw [h0]; decide), ih r (o + 1) (fun j v hj hv => h (j + 1) v (by omega) (by simpa using hv)) (by simpa using hk)]
        rw [show o + 1 + k = o + (k + 1) by omega]
        rfl
  have := gen k l 0 h hk
  rwa [Nat.zero_add] at this
theorem whereF_hit (p : V → Bool) (l : List V) (k : Nat) (v : V) (h : ∀ j v, j < k → l[j]? = some v → p v = false) (hv : l[k]? = some v) (hp : p v = true) : whereF p l 0 = (k : Int) := by
  obtain ⟨hk, he⟩ := List.getElem?_eq_some_iff.1 hv
  rw [whereF_drop p l k h (by omega), List.drop_eq_getElem_cons hk, he]
  show (if p v = true then _ else _) = _
  rw [if_pos hp]
theorem whereF_none (p : V → Bool) (l : List V) (h : ∀ j v, j < l.length → l[j]? = some v → p v = false) : whereF p l 0 = -1 := by
  rw [whereF_drop p l l.length h (Nat.le_refl _), List.drop_length]
  rfl
/-- none ahead of place k keeps the rule -/
structure NoneTo (p : V → Bool) (l : List V) (k : Nat) : Prop where
  no : ∀ j v, j < k → l[j]? = some v → p v = false
set_option maxHeartbeats 2000000 in
set_option maxRecDepth 100000 in
theorem indexfunc_any {n : Nat} {W : World} {t : Value} {vs : List V} (h : VSl n W t vs) (hl : vs.length ≤ 100000) (rv : V) (hnt : ∀ x ∈ vs, bothText x rv = false) :
    Calls Tryz.prog 65 #[t, .func (.func 64) #[.agg #[.int .i64 0, rv.val]] #[]] W fun e w' => e = .returned (.int .i64 (whereF (fitsV 0 rv) vs 0)) ∧ Below W.heap.size W w' := by
  obtain ⟨⟨g, c, rfl, hg, hc⟩, hle⟩ := h
  have HC := Lib.hid hc
  have HF := Lib.hid (fun (w : World) (x : V) (hx : x ∈ vs) => fits_any (w := w) 0 (.inl rfl) rv x (hnt x hx))
  have hgl : g < W.heap.size := by omega
  clear hc hnt
  go_enter Tryz.func65, Tryz.ntmps65
  go_wp2
  go_loopw [8] (fun iv wr => ∃ k : Nat, k ≤ vs.length ∧ iv = .int .i64 k ∧ NoneTo (fitsV 0 rv) vs k ∧ Below W.heap.size W wr) (fun iv _ => vs.length - (intOf iv).toNat)
  case atStart => exact ⟨0, Nat.zero_le _, rfl, ⟨fun j v hj => by omega⟩, Below.refl _ _⟩
  case round =>
    obtain ⟨k, hk, rfl, hno, hb⟩ := hrel
    have HN := Lib.hid hno
    have HB := Lib.hid hb
    by_cases hlt : k < vs.length
    · have hv : vs[k]? = some vs[k] := List.getElem?_eq_getElem hlt
      have hcv := (cell_below (o := k) hb hgl).trans (HC.out k _ hv)
      have hlti : (k : Int) < (vs.length : Int) := by omega
      have hf := HF.out wr _ (List.getElem_mem hlt)
      have HV := Lib.hid hv
      clear hno hb hv
      generalize vs[k] = x at *
      cases hr : fitsV 0 rv x with
      | true =>
        rw [hr] at hf
        have HFX := Lib.hid hf
        have HR := Lib.hid (whereF_hit (fitsV 0 rv) vs k x HN.out.no HV.out hr)
        clear hf hr
        go_wp2_with fail
        refine HFX.out.mono ?_
        rintro e w2 ⟨rfl, b2⟩
        go_wp2
        go_ret
        exact ⟨by rw [HR.out]; rfl, HB.out.trans (b2.mono HB.out.size)⟩
      | false =>
        rw [hr] at hf
        have HFX := Lib.hid hf
        have HR := Lib.hid hr
        clear hf hr
        go_wp2_with fail
        refine HFX.out.mono ?_
        rintro e w2 ⟨rfl, b2⟩
        go_wp2
        go_roundw
        case rel =>
          refine ⟨k + 1, by omega, by go_num, ⟨fun j v hj hv => ?_⟩, HB.out.trans (b2.mono HB.out.size)⟩
          rcases Nat.lt_or_ge j k with h | h
          · exact HN.out.no j v h hv
          · obtain rfl : j = k := by omega
            rw [HV.out] at hv
            obtain rfl := Option.some.inj hv
            exact HR.out
        case measure => simp [intOf]; omega
    · have hge : (vs.length : Int) ≤ (k : Int) := by omega
      have HR := Lib.hid (whereF_none (fitsV 0 rv) vs (fun j v hj hv => hno.no j v (by omega) hv))
      clear hno hb
      go_wp2
      go_ret
      exact ⟨by rw [HR.out]; rfl, HB.out⟩
theorem where_any {n : Nat} {W : World} {t : Value} {vs : List V} (h : VSl n W t vs) (hl : vs.length ≤ 100000) (rv : V) (hnt : ∀ x ∈ vs, bothText x rv = false) :
    Calls Tryz.prog 36 #[rv.val, t] W fun e w' => e = .returned (.int .i64 (whereF (fitsV 0 rv) vs 0)) ∧ Below W.heap.size W w' := by
  have HI := Lib.hid (indexfunc_any h hl rv hnt)
  obtain ⟨T, p, hrv⟩ := val_iface rv
  rw [hrv] at HI ⊢
  clear hrv
  go_enter Tryz.func36, Tryz.ntmps36
  go_wp2_with fail
  refine HI.out.mono ?_
  rintro e w1 ⟨rfl, b1⟩
  go_wp2
  go_ret
  exact ⟨rfl, b1⟩
end Go.Proofs.YteelmbpmmobpjaaGreatDoor
