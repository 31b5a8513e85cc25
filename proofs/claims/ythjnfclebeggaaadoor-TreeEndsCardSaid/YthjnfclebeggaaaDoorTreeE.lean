/-
  slices.BinarySearch, Insert, Delete over []uint64.
-/
import Derived.Test.YthjnfclebeggaaaDoorTreeD
namespace Go.Proofs.YthjnfclebeggaaaDoor
open Go.RowKit
open UK (str BytesAt nth Only Row Box w32)
open Go.BigFrame
/-- rising -/
def Sorted (l : List UInt64) : Prop := ∀ (a b : Nat) (x y : UInt64), a < b → l[a]? = some x → l[b]? = some y → x.toNat < y.toNat
/-- where a key stands, or would stand -/
structure Stands (l : List UInt64) (k : UInt64) (i : Nat) : Prop where
  le : i ≤ l.length
  below : ∀ (j : Nat) (x : UInt64), j < i → l[j]? = some x → x.toNat < k.toNat
  above : ∀ (j : Nat) (x : UInt64), i ≤ j → l[j]? = some x → k.toNat ≤ x.toNat
theorem less_any (a b : UInt64) (w : World) :
    Calls Tryd.prog 124 #[.int .u64 a.toNat, .int .u64 b.toNat] w fun e w' => e = .returned (.bool (decide (a.toNat < b.toNat))) ∧ w' = w := by
  go_enter Tryd.func124, Tryd.ntmps124
  go_wp2
  go_ret
  exact ⟨rfl, rfl⟩
theorem nan_any (a : UInt64) (w : World) :
    Calls Tryd.prog 125 #[.int .u64 a.toNat] w fun e w' => e = .returned (.bool false) ∧ w' = w := by
  go_enter Tryd.func125, Tryd.ntmps125
  go_wp2
  go_ret
  exact ⟨rfl, rfl⟩
theorem Stands.mem {l : List UInt64} {k x : UInt64} {i : Nat} (h : Stands l k i) (hs : Sorted l) (hx : l[i]? = some x) : (k ∈ l) ↔ x.toNat = k.toNat := by
  constructor
  · intro hm
    obtain ⟨j, hj, e⟩ := List.getElem_of_mem hm
    have hj' : l[j]? = some k := by rw [List.getElem?_eq_getElem hj, e]
    have h1 := h.above i x (Nat.le_refl _) hx
    by_cases hlt : j < i
    · have := h.below j k hlt hj'; omega
    · by_cases e2 : i = j
      · subst e2; rw [hx] at hj'; rw [Option.some.inj hj']
      · have := hs i j x k (by omega) hx hj'; omega
  · intro e
    rw [← UInt64.toNat_inj.1 e]; exact List.mem_of_getElem? hx
theorem Stands.none {l : List UInt64} {k : UInt64} (h : Stands l k l.length) : k ∉ l := fun hm => by
  obtain ⟨j, hj, e⟩ := List.getElem_of_mem hm
  have := h.below j k hj (by rw [List.getElem?_eq_getElem hj, e])
  omega
set_option maxHeartbeats 1000000 in
set_option maxRecDepth 100000 in
theorem search_any {W : World} {S : Nat → Prop} {v : Value} {l : List UInt64} (h : Win S W v (u64s l)) (hs : Sorted l) (hl : l.length ≤ 1000) (k : UInt64) :
    Calls Tryd.prog 73 #[v, .int .u64 k.toNat] W fun e w' => ∃ i : Nat, e = .returned (.tuple #[.int .i64 i, .bool (decide (k ∈ l))]) ∧ Stands l k i ∧ w' = W := by
  obtain ⟨ao, c, rfl, hc, hr⟩ := h
  rw [u64s_length] at hc ⊢
  have HS := Lib.hid hs
  clear hs
  go_enter Tryd.func73, Tryd.ntmps73
  go_wp2_with fail
  go_loopw [7, 8] (fun iv jv wr => ∃ i j : Nat, iv = .int .i64 i ∧ jv = .int .i64 j ∧ i ≤ j ∧ j ≤ l.length ∧ Hid (∀ (a : Nat) (x : UInt64), a < i → l[a]? = some x → x.toNat < k.toNat) ∧ Hid (∀ (a : Nat) (x : UInt64), j ≤ a → l[a]? = some x → k.toNat ≤ x.toNat) ∧ wr = W) (fun iv jv _ => (intOf jv).toNat - (intOf iv).toNat)
  case atStart => exact ⟨0, l.length, rfl, rfl, Nat.zero_le _, Nat.le_refl _, (fun a x h => absurd h (Nat.not_lt_zero _)), (fun a x h hx => by rw [List.getElem?_eq_none h] at hx; cases hx), rfl⟩
  case round =>
    obtain ⟨i, j, rfl, rfl, hij, hj, hb, ha, rfl⟩ := hrel
    by_cases hlt : i < j
    · obtain ⟨x, hx⟩ : ∃ x, l[(i + j) / 2]? = some x := ⟨_, List.getElem?_eq_getElem (by omega)⟩
      obtain ⟨g, o, rfl, _, cx⟩ := hr _ _ (u64s_at _ _ _ hx)
      have h1 : ((i : Int) + (j : Int)) / 2 = (((i + j) / 2 : Nat) : Int) := by omega
      have hmi : (i + j) / 2 < l.length := by omega
      have hm1 : i ≤ (i + j) / 2 := by omega
      have hm2 : (i + j) / 2 < j := by omega
      generalize hm : (i + j) / 2 = m at hx cx h1 hmi hm1 hm2
      clear hr
      by_cases hlx : x.toNat < k.toNat
      · have HX := Lib.hid (fun (a : Nat) (z : UInt64) (haz : a < m + 1) (hz : l[a]? = some z) => (show z.toNat < k.toNat by
          by_cases e : a = m
          · subst e; rw [hx] at hz; rw [← Option.some.inj hz]; exact hlx
          · have := HS.out a m z x (by omega) hz hx; omega))
        have HL := less_any x k wr
        rw [decide_eq_true hlx] at HL
        have HL2 := Lib.hid HL
        clear hx hm HL hlx hb
        go_wp2_with fail
        refine HL2.out.mono ?_
        rintro e w' ⟨rfl, rfl⟩
        clear HL2
        go_wp2
        go_roundw
        case rel => exact ⟨m + 1, j, by go_num, rfl, by omega, hj, HX.out, ha, trivial⟩
        case measure => simp [intOf]; omega
      · have HX := Lib.hid (fun (a : Nat) (z : UInt64) (haz : m ≤ a) (hz : l[a]? = some z) => (show k.toNat ≤ z.toNat by
          by_cases e : a = m
          · subst e; rw [hx] at hz; rw [← Option.some.inj hz]; omega
          · have := HS.out m a x z (by omega) hx hz; omega))
        have HL := less_any x k wr
        rw [decide_eq_false hlx] at HL
        have HL2 := Lib.hid HL
        clear hx hm HL hlx ha
        go_wp2_with fail
        refine HL2.out.mono ?_
        rintro e w' ⟨rfl, rfl⟩
        clear HL2
        go_wp2
        go_roundw
        case rel => exact ⟨i, m, rfl, rfl, by omega, by omega, hb, HX.out, trivial⟩
        case measure => simp [intOf]; omega
    · obtain rfl : i = j := by omega
      have hst : Stands l k i := ⟨hj, hb.out, ha.out⟩
      have HST := Lib.hid hst
      by_cases hil : i < l.length
      · obtain ⟨x, hx⟩ : ∃ x, l[i]? = some x := ⟨_, List.getElem?_eq_getElem hil⟩
        obtain ⟨g, o, rfl, _, cx⟩ := hr _ _ (u64s_at _ _ _ hx)
        have hmem := hst.mem HS.out hx
        have hd : decide ((i : Int) < (l.length : Int)) = true := decide_eq_true (by omega)
        have hil2 : (i : Int) < (l.length : Int) := by omega
        have hii : decide ((i : Int) < (i : Int)) = false := decide_eq_false (by omega)
        have hn := fun w => nan_any x w
        clear hr hx hst hb ha hij
        by_cases he : x.toNat = k.toNat
        · have hk : decide (k ∈ l) = true := decide_eq_true (hmem.2 he)
          have HK := Lib.hid hk
          have hbq : ((x.toNat : Int) == (k.toNat : Int)) = true := by rw [he]; exact beq_self_eq_true _
          clear hmem hk he
          go_wp2_with fail
          go_ret2
          exact ⟨i, by rw [HK.out] <;> rfl, HST.out, rfl⟩
        · have hk : decide (k ∈ l) = false := decide_eq_false (fun h => he (hmem.1 h))
          have HK := Lib.hid hk
          have hbq : ((x.toNat : Int) == (k.toNat : Int)) = false := beq_eq_false_iff_ne.2 (by omega)
          clear hmem hk he
          go_wp2_with fail
          refine (hn _).mono ?_
          rintro e w' ⟨rfl, rfl⟩
          go_wp2
          go_ret2
          exact ⟨i, by rw [HK.out] <;> rfl, HST.out, rfl⟩
      · obtain rfl : i = l.length := by omega
        have hd : decide ((l.length : Int) < (l.length : Int)) = false := decide_eq_false (by omega)
        have HK := Lib.hid (decide_eq_false hst.none)
        clear hst hb ha hr hij
        go_wp2_with fail
        go_ret2
        exact ⟨l.length, by rw [HK.out] <;> rfl, HST.out, rfl⟩
end Go.Proofs.YthjnfclebeggaaaDoor
