/-
  A tree's node in memory, and as a page's bytes: encode, decode.
-/
import Derived.Test.YthjnfclebeggaaaDoorTreeA
namespace Go.Proofs.YthjnfclebeggaaaDoor
open Go.RowKit
open UK (str BytesAt nth Only Row Box w32)
open Go.BigFrame
/-- a node of a tree -/
structure Nd where
  leaf : Bool
  keys : List UInt64
  vals : List UInt64
  kids : List Nat
def u64s (l : List UInt64) : List Value := l.map fun v => .int .u64 (v.toNat : Int)
theorem u64s_length (l : List UInt64) : (u64s l).length = l.length := List.length_map _
theorem u64s_at (l : List UInt64) (i : Nat) (v : UInt64) (h : l[i]? = some v) : (u64s l)[i]? = some (.int .u64 (v.toNat : Int)) := by unfold u64s; rw [List.getElem?_map, h]; rfl
/-- a slice that reads as these values, in blocks of S -/
def Win (S : Nat → Prop) (W : World) (v : Value) (vs : List Value) : Prop := ∃ ao c, v = .slice ao vs.length c ∧ vs.length ≤ c ∧ ∀ j u, vs[j]? = some u → ∃ g o, ao = some ⟨g, o, none⟩ ∧ S g ∧ W.cell? ⟨g, o + j, none⟩ = some u
/-- a node in memory, to be read -/
def NodeR (S : Nat → Prop) (W : World) (nb : Nat) (x : Nd) : Prop := ∃ kv vv av, Box W nb #[.bool x.leaf, kv, vv, av] ∧ S nb ∧ Win S W kv (u64s x.keys) ∧ Win S W vv (u64s x.vals) ∧ Win S W av (ints x.kids)
def b64 (v : UInt64) : List UInt8 := putL (UK.lo32 v) ++ putL (UK.hi32 v)
theorem b64_length (v : UInt64) : (b64 v).length = 8 := rfl
/-- a leaf's entries, as bytes -/
def leafB : List UInt64 → List UInt64 → List UInt8
  | k :: ks, v :: vs => b64 k ++ (b64 v ++ leafB ks vs)
  | _, _ => []
def encLeaf (y : List UInt8) (ks vs : List UInt64) : List UInt8 := UK.wr ((y.set 0 1).set 1 (UInt8.ofNat ks.length)) 4 (leafB ks vs)
theorem leafB_length : ∀ (ks vs : List UInt64), vs.length = ks.length → (leafB ks vs).length = 16 * ks.length
  | [], [], _ => rfl
  | k :: ks, v :: vs, h => by
    have := leafB_length ks vs (by simpa using h)
    show (b64 k ++ (b64 v ++ leafB ks vs)).length = _
    rw [List.length_append, List.length_append, b64_length, b64_length, this, List.length_cons]; omega
  | [], _ :: _, h => by cases h
  | _ :: _, [], h => by cases h
theorem leafB_snoc : ∀ (ks vs : List UInt64) (j : Nat) (k v : UInt64), ks[j]? = some k → vs[j]? = some v → leafB (ks.take (j + 1)) (vs.take (j + 1)) = leafB (ks.take j) (vs.take j) ++ (b64 k ++ b64 v)
  | a :: ks, b :: vs, 0, k, v, hk, hv => by
    obtain rfl : a = k := by simpa using hk
    obtain rfl : b = v := by simpa using hv
    show b64 a ++ (b64 b ++ leafB (ks.take 0) (vs.take 0)) = _
    rw [List.take_zero, List.take_zero]
    show b64 a ++ (b64 b ++ []) = [] ++ _
    rw [List.append_nil, List.nil_append]
  | a :: ks, b :: vs, j + 1, k, v, hk, hv => by
    have := leafB_snoc ks vs j k v (by simpa using hk) (by simpa using hv)
    show b64 a ++ (b64 b ++ leafB (ks.take (j + 1)) (vs.take (j + 1))) = b64 a ++ (b64 b ++ leafB (ks.take j) (vs.take j)) ++ _
    rw [this]; simp only [List.append_assoc]
  | [], _, _, _, _, hk, _ => by simp at hk
  | _ :: _, [], _, _, _, _, hv => by simp at hv
theorem UK.Only.cell {B : Nat} {a w : World} (h : Only B a w) {g i : Nat} {v : Value} (hc : a.cell? ⟨g, i, none⟩ = some v) (hn : g ≠ B) : w.cell? ⟨g, i, none⟩ = some v := by
  have hl : g < a.heap.size := by
    refine Nat.lt_of_not_le (fun hge => ?_)
    unfold World.cell? at hc
    rw [Array.getElem?_eq_none hge] at hc
    cases hc
  exact (World.cell?_of_block (a := ⟨g, i, none⟩) (h.block g hl hn)).trans hc
set_option maxHeartbeats 1000000 in
set_option maxRecDepth 100000 in
theorem encode_leaf {S : Nat → Prop} {W : World} {nb db cap : Nat} {y : List UInt8} {x : Nd} (h : NodeR S W nb x) (hl : x.leaf = true) (hn : x.keys.length ≤ 30) (hv : x.vals.length = x.keys.length) (hy : BytesAt W db y) (hyl : y.length = cap) (hc : 504 ≤ cap) (hS : ¬ S db) :
    Calls Tryd.prog 118 #[.slice (some ⟨db, 0, none⟩) 504 cap, .pointer (some ⟨nb, 0, none⟩)] W fun e w' => e = .returned (.tuple #[]) ∧ BytesAt w' db (encLeaf y x.keys x.vals) ∧ Only db W w' := by
  obtain ⟨kv, vv, av, hb, hnb, ⟨ka, kc, rfl, hkc, hk⟩, ⟨va, vc, rfl, hvc, hvv⟩, _⟩ := h
  rw [u64s_length, u64s_length, hl, hv] at hb
  rw [u64s_length] at hkc hvc
  rw [hv] at hvc
  have c0 : W.cell? ⟨nb, 0, none⟩ = some (.bool true) := hb.cell 0 _ rfl
  have c1 : W.cell? ⟨nb, 1, none⟩ = some (.slice ka x.keys.length kc) := hb.cell 1 _ rfl
  have c2 : W.cell? ⟨nb, 2, none⟩ = some (.slice va x.keys.length vc) := hb.cell 2 _ rfl
  have hne : nb ≠ db := fun e => hS (e ▸ hnb)
  have d0 := hy.cell (i := 0) (by omega)
  have d1 := hy.cell (i := 1) (by omega)
  have f0 := hy.free (i := 0) (by omega)
  have f1 := hy.free (i := 1) (by omega)
  have he : ((UInt8.ofNat x.keys.length).toNat : Int) = x.keys.length := by rw [UInt8.toNat_ofNat']; omega
  have h2 := (hy.set 0 1).set 1 (UInt8.ofNat x.keys.length)
  have o2 := ((Only.refl db W).set 0 (.int .u8 ((1 : UInt8).toNat : Int))).set 1 (.int .u8 ((UInt8.ofNat x.keys.length).toNat : Int))
  rw [he, show ((1 : UInt8).toNat : Int) = 1 from rfl] at h2 o2
  have H2 := Lib.hid (And.intro h2 o2)
  have HB := Lib.hid hb
  clear he h2 o2 hb
  go_enter Tryd.func118, Tryd.ntmps118
  go_wp2_with fail
  obtain ⟨hb2, ho2⟩ := H2.out
  have hy2 : ((y.set 0 1).set 1 (UInt8.ofNat x.keys.length)).length = cap := by rw [List.length_set, List.length_set]; exact hyl
  generalize hyy : (y.set 0 1).set 1 (UInt8.ofNat x.keys.length) = y2 at hb2 hy2
  have HYY := Lib.hid hyy
  clear hyy H2
  go_loopw [29] (fun ix wr => ∃ j : Nat, ix = .int .i64 j ∧ j ≤ x.keys.length ∧ BytesAt wr db (UK.wr y2 4 (leafB (x.keys.take j) (x.vals.take j))) ∧ Only db W wr) (fun ix _ => 31 - (intOf ix).toNat)
  case atStart => exact ⟨0, rfl, Nat.zero_le _, by rw [List.take_zero, List.take_zero]; show BytesAt _ _ (UK.wr y2 4 []); rw [UK.wr_nil]; exact hb2, ho2⟩
  case round =>
    clear hb2 ho2 hy c0 c1 d0 d1 f0 f1
    obtain ⟨j, rfl, hj, hb, ho⟩ := hrel
    by_cases hlt : j < x.keys.length
    · obtain ⟨kx, hkx⟩ : ∃ k, x.keys[j]? = some k := ⟨_, List.getElem?_eq_getElem hlt⟩
      obtain ⟨vx, hvx⟩ : ∃ v, x.vals[j]? = some v := ⟨_, List.getElem?_eq_getElem (by omega)⟩
      obtain ⟨g, o, rfl, hg, ck⟩ := hk j _ (u64s_at _ _ _ hkx)
      obtain ⟨g2, o2, rfl, hg2, cv⟩ := hvv j _ (u64s_at _ _ _ hvx)
      have hgd : g ≠ db := fun e => hS (e ▸ hg)
      have hg2d : g2 ≠ db := fun e => hS (e ▸ hg2)
      replace ck := ho.cell ck hgd
      have hlb : (leafB (x.keys.take j) (x.vals.take j)).length = 16 * j := by rw [leafB_length _ _ (by rw [List.length_take, List.length_take]; omega), List.length_take]; omega
      have hw1 : (UK.wr y2 4 (leafB (x.keys.take j) (x.vals.take j))).length = cap := by rw [UK.wr_length _ _ _ (by omega)]; exact hy2
      have ha1 := UK.wr_after y2 4 (leafB (x.keys.take j) (x.vals.take j)) (b64 kx) (by omega)
      rw [hlb] at ha1
      have ha2 := UK.wr_after y2 4 (leafB (x.keys.take j) (x.vals.take j) ++ b64 kx) (b64 vx) (by omega)
      rw [List.length_append, hlb, b64_length, show 4 + (16 * j + 8) = 12 + 16 * j by omega] at ha2
      have hw2 : (UK.wr y2 4 (leafB (x.keys.take j) (x.vals.take j) ++ b64 kx)).length = cap := by rw [UK.wr_length _ _ _ (by rw [List.length_append, hlb, b64_length]; omega)]; exact hy2
      have hsn := leafB_snoc x.keys x.vals j kx vx hkx hvx
      have P1 := put_u64 hb (4 + 16 * j) (504 - (4 + 16 * j)) (cap - (4 + 16 * j)) (by omega) (by omega) (by omega) (by omega) kx
      rw [show putL (UK.lo32 kx) ++ putL (UK.hi32 kx) = b64 kx from rfl, ha1] at P1
      have HP1 := Lib.hid P1
      have HX := Lib.hid (And.intro ha2 (And.intro hw2 (And.intro hsn (And.intro cv ho))))
      clear P1 ha1 ha2 hw1 hw2 hsn hlb hk hvv hkx hvx hb cv c2
      go_wp2_with fail
      refine HP1.out.mono ?_
      rintro e w1 ⟨rfl, b1, o1⟩
      obtain ⟨ha2, hw2, hsn, cv, ho⟩ := HX.out
      have o1' := ho.trans o1
      have cv1 := o1'.cell cv hg2d
      have c2 : w1.cell? ⟨nb, 2, none⟩ = some (.slice (some ⟨g2, o2, none⟩) x.keys.length vc) := o1'.cell (HB.out.cell 2 _ rfl) hne
      have P2 := put_u64 (b1.drew) (12 + 16 * j) (504 - (12 + 16 * j)) (cap - (12 + 16 * j)) (by omega) (by omega) (by omega) (by omega) vx
      rw [show putL (UK.lo32 vx) ++ putL (UK.hi32 vx) = b64 vx from rfl, ha2, List.append_assoc, ← hsn] at P2
      have HP2 := Lib.hid P2
      have HO1 := Lib.hid o1'
      clear HP1 HX P2 ha2 hw2 hsn cv ho b1 o1 o1' ck
      go_wp2_with fail
      have i1 : (j : Int) < (x.keys.length : Int) := by omega
      have i2 : (12 : Int) + 16 * j ≤ 504 := by omega
      have i3 : ¬ (cap = 12 + 16 * j) := by omega
      have i4 : (12 + 16 * (j : Int)).toNat = 12 + 16 * j := by omega
      have i5 : (0 : Int) ≤ 12 + 16 * (j : Int) := by omega
      have n1 : IntKind.i64.wrap (16 * (j : Int)) = 16 * (j : Int) := by rw [IntKind.wrap_i64]; omega
      have n2 : IntKind.i64.wrap (12 + 16 * (j : Int)) = 12 + 16 * (j : Int) := by rw [IntKind.wrap_i64]; omega
      go_still_tail 12, (by kernel_rfl)
      change wpList _ _ _ _ _ w1.drew
      go_wp2_with fail
      refine HP2.out.mono ?_
      rintro e w2 ⟨rfl, b2, o2'⟩
      have HF := Lib.hid (And.intro b2 (HO1.out.drew.trans o2'))
      clear HP2 HO1 b2 o2' c2 cv1
      go_wp2
      go_roundw
      case rel => exact ⟨j + 1, by go_num, by omega, HF.out.1, HF.out.2⟩
      case measure => simp [intOf]; omega
    · obtain rfl : j = x.keys.length := by omega
      rw [List.take_length, ← hv, List.take_length] at hb
      go_wp2
      refine bodyPost_ret (results_none rfl _ _ _) rfl ?_
      refine ⟨rfl, ?_, ho⟩
      unfold encLeaf
      rw [HYY.out]
      exact hb
end Go.Proofs.YthjnfclebeggaaaDoor
