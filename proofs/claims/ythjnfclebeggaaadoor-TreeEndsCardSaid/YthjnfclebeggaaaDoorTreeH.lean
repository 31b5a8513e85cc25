/-
  A tree that is one leaf: put.
-/
import Derived.Test.YthjnfclebeggaaaDoorTreeG
namespace Go.Proofs.YthjnfclebeggaaaDoor
open Go.RowKit
open UK (str BytesAt nth Only Row Box w32)
open Go.BigFrame
theorem g64_of {x : List UInt8} {o : Nat} {k : UInt64} {r : List UInt8} (h : x.drop o = b64 k ++ r) : g64 x o = k := by
  have h4 : x.drop (o + 4) = putL (UK.hi32 k) ++ r := by
    rw [← List.drop_drop, h]; rfl
  unfold g64
  rw [h, h4]
  show UK.mk64 (getL (putL (UK.lo32 k))) (getL (putL (UK.hi32 k))) = k
  rw [get_put, get_put, UK.mk64_parts]
theorem leafB_drop : ∀ (ks vs : List UInt64) (i : Nat) (k v : UInt64), ks[i]? = some k → vs[i]? = some v → ∃ r, (leafB ks vs).drop (16 * i) = b64 k ++ (b64 v ++ r)
  | a :: ks, b :: vs, 0, k, v, hk, hv => by
    obtain rfl : a = k := by simpa using hk
    obtain rfl : b = v := by simpa using hv
    exact ⟨leafB ks vs, rfl⟩
  | a :: ks, b :: vs, i + 1, k, v, hk, hv => by
    obtain ⟨r, hr⟩ := leafB_drop ks vs i k v (by simpa using hk) (by simpa using hv)
    refine ⟨r, ?_⟩
    show (b64 a ++ (b64 b ++ leafB ks vs)).drop (16 * (i + 1)) = _
    rw [show 16 * (i + 1) = 8 + (8 + 16 * i) by omega, ← List.drop_drop, ← List.drop_drop]
    exact hr
  | [], _, _, _, _, hk, _ => by simp at hk
  | _ :: _, [], _, _, _, _, hv => by simp at hv
theorem encLeaf_drop (y : List UInt8) (ks vs : List UInt64) (o : Nat) (hy : 504 ≤ y.length) (ho : o ≤ (leafB ks vs).length) : (encLeaf y ks vs).drop (4 + o) = (leafB ks vs).drop o ++ ((y.set 0 1).set 1 (UInt8.ofNat ks.length)).drop (4 + (leafB ks vs).length) := by
  unfold encLeaf UK.wr
  have h4 : (((y.set 0 1).set 1 (UInt8.ofNat ks.length)).take 4).length = 4 := by rw [List.length_take, List.length_set, List.length_set]; omega
  rw [List.drop_append, h4, List.drop_of_length_le (by rw [h4]; omega), List.nil_append, show 4 + o - 4 = o by omega, List.drop_append_of_le_length ho]
theorem keysL_enc (y : List UInt8) (ks vs : List UInt64) (hy : 504 ≤ y.length) (hv : vs.length = ks.length) : keysL (encLeaf y ks vs) ks.length = ks := by
  refine List.ext_getElem (by rw [keysL_length]) (fun i h1 h2 => ?_)
  have hk : ks[i]? = some ks[i] := List.getElem?_eq_getElem h2
  have hvv : vs[i]? = some (vs[i]'(by omega)) := List.getElem?_eq_getElem (by omega)
  obtain ⟨r, hr⟩ := leafB_drop ks vs i _ _ hk hvv
  have hl := leafB_length ks vs hv
  simp only [keysL, List.getElem_map, List.getElem_range]
  have := encLeaf_drop y ks vs (16 * i) hy (by omega)
  rw [hr, List.append_assoc] at this
  exact g64_of this
theorem valsL_enc (y : List UInt8) (ks vs : List UInt64) (hy : 504 ≤ y.length) (hv : vs.length = ks.length) : valsL (encLeaf y ks vs) ks.length = vs := by
  refine List.ext_getElem (by rw [valsL_length, hv]) (fun i h1 h2 => ?_)
  have hk : ks[i]? = some (ks[i]'(by omega)) := List.getElem?_eq_getElem (by omega)
  have hvv : vs[i]? = some vs[i] := List.getElem?_eq_getElem h2
  obtain ⟨r, hr⟩ := leafB_drop ks vs i _ _ hk hvv
  have hl := leafB_length ks vs hv
  simp only [valsL, List.getElem_map, List.getElem_range]
  have := encLeaf_drop y ks vs (16 * i) hy (by rw [valsL_length] at h1; omega)
  rw [hr] at this
  refine g64_of (r := r ++ ((y.set 0 1).set 1 (UInt8.ofNat ks.length)).drop (4 + (leafB ks vs).length)) ?_
  rw [show 12 + 16 * i = (4 + 16 * i) + 8 by omega, ← List.drop_drop, this]
  show ((b64 vs[i]) ++ r) ++ _ = _
  rw [List.append_assoc]
theorem encLeaf_head (y : List UInt8) (ks vs : List UInt64) (hy : 504 ≤ y.length) (hk : ks.length ≤ 30) : LeafY (encLeaf y ks vs) ks.length := by
  have h : ∀ i, i < 4 → nth (encLeaf y ks vs) i = nth ((y.set 0 1).set 1 (UInt8.ofNat ks.length)) i := fun i hi => by
    unfold encLeaf UK.wr nth
    rw [List.getD_eq_getElem?_getD, List.getD_eq_getElem?_getD, List.getElem?_append_left (by rw [List.length_take, List.length_set, List.length_set]; omega), List.getElem?_take_of_lt hi]
  refine ⟨?_, ?_, hk⟩
  · rw [h 0 (by omega)]
    unfold nth
    rw [List.getD_eq_getElem?_getD, List.getElem?_set_ne (by omega), List.getElem?_set_self (by omega)]; rfl
  · rw [h 1 (by omega)]
    unfold nth
    rw [List.getD_eq_getElem?_getD, List.getElem?_set_self (by rw [List.length_set]; omega)]
    show (UInt8.ofNat ks.length).toNat = _
    rw [UInt8.toNat_ofNat']; omega
/-- this page is a leaf with these keys and values -/
structure LeafIs (A : AP) (pg : Nat) (ks vs : List UInt64) : Prop where
  has : A.Has pg
  head : LeafY (A.c pg) ks.length
  keys : keysL (A.c pg) ks.length = ks
  vals : valsL (A.c pg) ks.length = vs
  up : Sorted ks
theorem LeafIs.len {A : AP} {pg : Nat} {ks vs : List UInt64} (h : LeafIs A pg ks vs) : vs.length = ks.length := by rw [← h.vals, valsL_length]
theorem AP.wrote_has {A : AP} {pg : Nat} {s : List UInt8} {p : Nat} : (A.wrote pg s).Has p ↔ A.Has p := by
  unfold AP.Has AP.wrote AP.put AP.keep AP.goneL
  cases ho : A.op with
  | none => simp
  | some o =>
    simp only [Option.map_some]
    split <;> rfl
theorem AP.wrote_c {A : AP} {pg : Nat} {s : List UInt8} {p : Nat} : (A.wrote pg s).c p = if pg = p then s else A.c p := rfl
theorem LeafIs.wrote {A : AP} {pg : Nat} {ks vs : List UInt64} {y : List UInt8} (hh : A.Has pg) (hy : y.length = 504) (hv : vs.length = ks.length) (hk : ks.length ≤ 30) (hs : Sorted ks) : LeafIs (A.wrote pg (encLeaf y ks vs)) pg ks vs := by
  have e : (A.wrote pg (encLeaf y ks vs)).c pg = encLeaf y ks vs := by rw [AP.wrote_c, if_pos rfl]
  refine ⟨AP.wrote_has.2 hh, ?_, ?_, ?_, hs⟩
  · rw [e]; exact encLeaf_head y ks vs (by omega) hk
  · rw [e]; exact keysL_enc y ks vs (by omega) hv
  · rw [e]; exact valsL_enc y ks vs (by omega) hv
end Go.Proofs.YthjnfclebeggaaaDoor
