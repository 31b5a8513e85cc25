/-
  slices.Delete of one number.
  A tree that is one leaf: put.
  A tree's node and a page's bytes (plain): any node.
-/
import Derived.Test.YtfljlcfmdcepnaaGreatDoorJTreeF
namespace Go.Proofs.YtfljlcfmdcepnaaGreatDoor
open Go.RowKit
open UK (str BytesAt nth Only Row Box w32)
open Go.BigFrame
set_option maxHeartbeats 4000000 in
set_option maxRecDepth 100000 in
theorem delete_any {W : World} {g c i : Nat} {l : List UInt64} (h : Row W g c (u64s l)) (hl : l.length ≤ 1000) (hi : i < l.length) :
    Calls Tryz.prog 99 #[.slice (some ⟨g, 0, none⟩) l.length c, .int .i64 i, .int .i64 ((i : Int) + 1)] W fun e w' => e = .returned (.slice (some ⟨g, 0, none⟩) (l.length - 1) c) ∧ Row w' g c (u64s (l.take i ++ l.drop (i + 1))) ∧ Only g W w' := by
  have hlen := u64s_length l
  have hle := h.le
  rw [hlen] at hle
  obtain ⟨n, hn⟩ : ∃ n, n = l.length := ⟨_, rfl⟩
  have hz2 : ¬ ((i : Int) = (i : Int) + 1) := by omega
  have hb2 : ¬ (c = i) := by omega
  have htn : ((i : Int) + 1).toNat = i + 1 := by omega
  have hb1 : (0 : Int) ≤ (i : Int) + 1 := by omega
  have hin : (i : Int) + 1 ≤ (n : Int) := by omega
  have hic : i ≤ c := by omega
  have hin3 : i + 1 ≤ n := by omega
  have hsz : (Tryz.prog.info? 23).map (·.size) = some 1 := by kernel_rfl
  have h1c : ∀ m : List UInt64, ∀ u ∈ u64s m, u.oneCell' = true := fun m u hu => by
    unfold u64s at hu
    obtain ⟨x, _, rfl⟩ := List.mem_map.1 hu
    rfl
  have hdr : (u64s l).drop (i + 1) = u64s (l.drop (i + 1)) := by unfold u64s; rw [List.map_drop]
  have hdl : (u64s (l.drop (i + 1))).length = n - (i + 1) := by rw [u64s_length, List.length_drop, hn]
  have h0 := h.drewN 1
  have happ : ∀ ao, (ao = (⟨g, i + 1, none⟩ : Addr) ∨ i + 1 = n) → ∀ sc, (Builtin.append_ #[52, 52] 52 #[.slice (some ⟨g, 0, none⟩) i c, .slice (some ao) (n - (i + 1)) sc]).run Tryz.prog W.drew = .ok (.slice (some ⟨g, 0, none⟩) (n - 1) c) (W.drew.setCells g i (u64s (l.drop (i + 1)))) := fun ao hao sc => by
    have hs : Src Tryz.prog 1 52 (.slice (some ao) (n - (i + 1)) sc) (n - (i + 1)) (u64s (l.drop (i + 1))) W.drew := Src.ofSlice W.drew Tryz.underlying52 ao (n - (i + 1)) sc _ (by rw [hdl, Nat.mul_one]) (fun j u hj => by
      rcases hao with rfl | e
      · rw [UK.add_mk0]
        exact h0.at' (i + 1 + j) u (by rw [← hdr, List.getElem?_drop] at hj; exact hj)
      · have : j < (u64s (l.drop (i + 1))).length := (List.getElem?_eq_some_iff.1 hj).1
        rw [hdl] at this; omega) (h1c _)
    have hr := run_append_room_src (P := Tryz.prog) W.drew 52 52 52 23 Tryz.t23 Tryz.underlying52 rfl g 0 i c _ _ _ hs (by omega) (fun j hj => (h0.there _ (by rw [hdl] at hj; show 0 + i * 1 + j < c; omega)).1) (fun j hj => (h0.there _ (by rw [hdl] at hj; show 0 + i * 1 + j < c; omega)).2)
    rw [show i + (n - (i + 1)) = n - 1 by omega, show 0 + i * Tryz.t23.size = i by show 0 + i * 1 = i; omega] at hr
    exact hr
  have r1 : Row (W.drew.setCells g i (u64s (l.drop (i + 1)))) g c (u64s (l.take i ++ l.drop (i + 1)) ++ (u64s l).drop (n - 1)) := h0.setCells i (u64s (l.drop (i + 1))) (by rw [hdl]; omega) _ (by rw [List.length_append, u64s_length, List.length_append, List.length_take, List.length_drop, List.length_drop, hlen]; omega)
    (fun j hj => by
      rw [hdl] at hj
      rw [List.getElem?_append_left (by rw [u64s_length, List.length_append, List.length_take, List.length_drop]; omega)]
      unfold u64s
      rw [List.getElem?_map, List.getElem?_map, List.getElem?_append_right (by rw [List.length_take]; omega), List.length_take, show i + j - min i l.length = j by omega])
    (fun j hj hh => by
      rw [List.length_append, u64s_length, List.length_append, List.length_take, List.length_drop, List.length_drop, hlen] at hj
      rw [hdl] at hh
      refine ⟨by rw [hlen]; omega, ?_⟩
      rcases hh with hh | hh
      · rw [List.getElem?_append_left (by rw [u64s_length, List.length_append, List.length_take, List.length_drop]; omega)]
        unfold u64s
        rw [List.getElem?_map, List.getElem?_map, List.getElem?_append_left (by rw [List.length_take]; omega), List.getElem?_take_of_lt hh]
      · rw [List.getElem?_append_right (by rw [u64s_length, List.length_append, List.length_take, List.length_drop]; omega), u64s_length, List.length_append, List.length_take, List.length_drop, List.getElem?_drop]
        congr 1
        omega)
  have o1 : Only g W (W.drew.setCells g i (u64s (l.drop (i + 1)))) := UK.Only.setCells _ _ (Only.refl g W).drew
  generalize hW1 : W.drew.setCells g i (u64s (l.drop (i + 1))) = W1 at r1 o1 happ
  have hclr : (Builtin.clear_ #[52] 0 #[.slice (some ⟨g, n - 1, none⟩) 1 (c - (n - 1))]).run Tryz.prog W1 = .ok (.tuple #[]) (W1.setCells g (n - 1) (List.replicate 1 (Value.int .u64 0))) := Lib.run_clear_slice (P := Tryz.prog) W1 52 23 0 (.int .u64 0) Tryz.underlying52 (fun w => by kernel_rfl) rfl rfl g (n - 1) 1 (c - (n - 1)) (by omega) (fun j hj => (r1.there _ (by omega)).1) (fun j hj => (r1.there _ (by omega)).2)
  have fin : Row (W1.setCells g (n - 1) (List.replicate 1 (Value.int .u64 0))) g c (u64s (l.take i ++ l.drop (i + 1))) ∧ Only g W (W1.setCells g (n - 1) (List.replicate 1 (Value.int .u64 0))) := by
    have hlf : (u64s (l.take i ++ l.drop (i + 1))).length = n - 1 := by rw [u64s_length, List.length_append, List.length_take, List.length_drop]; omega
    have rk : Row (W1.setCells g (n - 1) (List.replicate 1 (Value.int .u64 0))) g c (u64s (l.take i ++ l.drop (i + 1)) ++ [Value.int .u64 0]) := r1.setCells (n - 1) (List.replicate 1 (Value.int .u64 0)) (by rw [List.length_replicate]; omega) _ (by rw [List.length_append, hlf]; simp; omega) (fun j hj => by
      have hj0 : j = 0 := by simpa using hj
      subst hj0
      rw [List.getElem?_append_right (by rw [hlf]; omega), hlf, show n - 1 + 0 - (n - 1) = 0 by omega]; rfl) (fun j hj hh => by
      rw [List.length_append, hlf] at hj
      simp only [List.length_replicate, List.length_singleton] at hj hh
      refine ⟨by rw [List.length_append, hlf]; omega, ?_⟩
      rw [List.getElem?_append_left (by rw [hlf]; omega), List.getElem?_append_left (by rw [hlf]; omega)])
    have rt := rk.take (n - 1)
    rw [List.take_append, List.take_of_length_le (by rw [hlf]; omega), hlf, Nat.sub_self, List.take_zero, List.append_nil] at rt
    exact ⟨rt, UK.Only.setCells _ _ o1⟩
  have HF := Lib.hid fin
  have HA := Lib.hid happ
  clear fin r1 o1 h0 hdr hdl h1c hsz happ h hW1
  rw [← hn] at hl hi hle ⊢
  clear hn hlen
  have hn1 : n - (n - 1) = 1 := by omega
  have hz3 : ((i : Int) == (i : Int) + 1) = false := beq_eq_false_iff_ne.2 hz2
  have hce2 : ¬ (c = n - 1) := by omega
  have hnn : ((n - 1 : Nat) : Int) ≤ (n : Int) := by omega
  by_cases hce : c = i + 1
  · obtain rfl : n = i + 1 := by omega
    subst hce
    have e1 : (Builtin.append_ #[52, 52] 52 #[.slice (some ⟨g, 0, none⟩) i (i + 1), .slice (some ⟨g, 0, none⟩) 0 0]).run Tryz.prog W.drew = .ok (.slice (some ⟨g, 0, none⟩) i (i + 1)) W1 := by
      have := HA.out ⟨g, 0, none⟩ (.inr rfl) 0
      rw [Nat.sub_self, Nat.add_sub_cancel] at this
      exact this
    rw [Nat.add_sub_cancel, Nat.add_sub_cancel_left] at hclr
    rw [Nat.add_sub_cancel] at HF ⊢
    have E1 := Lib.hid e1
    have hce3 : ¬ (i + 1 = i) := by omega
    clear HA e1 hn1 hce2 hnn hin hic hin3 hi hle hz2
    have hii : (i : Int) ≤ (i : Int) + 1 := by omega
    go_enter Tryz.func99, Tryz.ntmps99
    go_wp2_with fail
    go_region_law (refine UK.step_append_run E1.out rfl rfl rfl (by simp [Act.eval, Act.put]) (by simp [Act.eval, Act.put]) ?_)
    go_wp2
    go_ret
    exact ⟨rfl, HF.out⟩
  · go_enter Tryz.func99, Tryz.ntmps99
    go_wp2_with fail
    go_region_law (refine UK.step_append_run (HA.out ⟨g, i + 1, none⟩ (.inl rfl) (c - (i + 1))) rfl rfl rfl (by simp [Act.eval, Act.put]) (by simp [Act.eval, Act.put]) ?_)
    go_wp2
    go_ret
    exact ⟨rfl, HF.out⟩
end Go.Proofs.YtfljlcfmdcepnaaGreatDoor
namespace Go.Proofs.YtfljlcfmdcepnaaGreatDoor
open Go.RowKit
open UK (str BytesAt nth Only Row Box w32)
open Go.BigFrame
theorem g64_of {x : List UInt8} {o : Nat} {k : UInt64} {r : List UInt8} (h : x.drop o = b64 k ++ r) : g64 x o = k := by
  have h4 : x.drop (o + 4) = putL (UK.hi32 k) ++ r := by
    rw [← List.drop_drop, h]; rfl
  unfold g64
  rw [h, h4]
  show UK.mk64 (getL (putL (UK.lo32 k))) (getL (putL (UK.hi32 k))) = k
  rw [get_put, get_put, UK.mk64_parts]
theorem leafB_drop : ∀ (ks vs : List UInt64) (i : Nat) (k v : UInt64), ks[i]? = some k → vs[i]? = some v → ∃ r, (leafB ks vs).drop (16 * i) = b64 k ++ (b64 v ++ r)
  | a :: ks, b :: vs, 0, k, v, hk, hv => by
    obtain rfl : a = k := by simpa using hk
    obtain rfl : b = v := by simpa using hv
    exact ⟨leafB ks vs, rfl⟩
  | a :: ks, b :: vs, i + 1, k, v, hk, hv => by
    obtain ⟨r, hr⟩ := leafB_drop ks vs i k v (by simpa using hk) (by simpa using hv)
    refine ⟨r, ?_⟩
    show (b64 a ++ (b64 b ++ leafB ks vs)).drop (16 * (i + 1)) = _
    rw [show 16 * (i + 1) = 8 + (8 + 16 * i) by omega, ← List.drop_drop, ← List.drop_drop]
    exact hr
  | [], _, _, _, _, hk, _ => by simp at hk
  | _ :: _, [], _, _, _, _, hv => by simp at hv
theorem encLeaf_drop (y : List UInt8) (ks vs : List UInt64) (o : Nat) (hy : 504 ≤ y.length) (ho : o ≤ (leafB ks vs).length) : (encLeaf y ks vs).drop (4 + o) = (leafB ks vs).drop o ++ ((y.set 0 1).set 1 (UInt8.ofNat ks.length)).drop (4 + (leafB ks vs).length) := by
  unfold encLeaf UK.wr
  have h4 : (((y.set 0 1).set 1 (UInt8.ofNat ks.length)).take 4).length = 4 := by rw [List.length_take, List.length_set, List.length_set]; omega
  rw [List.drop_append, h4, List.drop_of_length_le (by rw [h4]; omega), List.nil_append, show 4 + o - 4 = o by omega, List.drop_append_of_le_length ho]
theorem keysL_enc (y : List UInt8) (ks vs : List UInt64) (hy : 504 ≤ y.length) (hv : vs.length = ks.length) : keysL (encLeaf y ks vs) ks.length = ks := by
  refine List.ext_getElem (by rw [keysL_length]) (fun i h1 h2 => ?_)
  have hk : ks[i]? = some ks[i] := List.getElem?_eq_getElem h2
  have hvv : vs[i]? = some (vs[i]'(by omega)) := List.getElem?_eq_getElem (by omega)
  obtain ⟨r, hr⟩ := leafB_drop ks vs i _ _ hk hvv
  have hl := leafB_length ks vs hv
  simp only [keysL, List.getElem_map, List.getElem_range]
  have := encLeaf_drop y ks vs (16 * i) hy (by omega)
  rw [hr, List.append_assoc] at this
  exact g64_of this
theorem valsL_enc (y : List UInt8) (ks vs : List UInt64) (hy : 504 ≤ y.length) (hv : vs.length = ks.length) : valsL (encLeaf y ks vs) ks.length = vs := by
  refine List.ext_getElem (by rw [valsL_length, hv]) (fun i h1 h2 => ?_)
  have hk : ks[i]? = some (ks[i]'(by omega)) := List.getElem?_eq_getElem (by omega)
  have hvv : vs[i]? = some vs[i] := List.getElem?_eq_getElem h2
  obtain ⟨r, hr⟩ := leafB_drop ks vs i _ _ hk hvv
  have hl := leafB_length ks vs hv
  simp only [valsL, List.getElem_map, List.getElem_range]
  have := encLeaf_drop y ks vs (16 * i) hy (by rw [valsL_length] at h1; omega)
  rw [hr] at this
  refine g64_of (r := r ++ ((y.set 0 1).set 1 (UInt8.ofNat ks.length)).drop (4 + (leafB ks vs).length)) ?_
  rw [show 12 + 16 * i = (4 + 16 * i) + 8 by omega, ← List.drop_drop, this]
  show ((b64 vs[i]) ++ r) ++ _ = _
  rw [List.append_assoc]
theorem encLeaf_head (y : List UInt8) (ks vs : List UInt64) (hy : 504 ≤ y.length) (hk : ks.length ≤ 30) : LeafY (encLeaf y ks vs) ks.length := by
  have h : ∀ i, i < 4 → nth (encLeaf y ks vs) i = nth ((y.set 0 1).set 1 (UInt8.ofNat ks.length)) i := fun i hi => by
    unfold encLeaf UK.wr nth
    rw [List.getD_eq_getElem?_getD, List.getD_eq_getElem?_getD, List.getElem?_append_left (by rw [List.length_take, List.length_set, List.length_set]; omega), List.getElem?_take_of_lt hi]
  refine ⟨?_, ?_, hk⟩
  · rw [h 0 (by omega)]
    unfold nth
    rw [List.getD_eq_getElem?_getD, List.getElem?_set_ne (by omega), List.getElem?_set_self (by omega)]; rfl
  · rw [h 1 (by omega)]
    unfold nth
    rw [List.getD_eq_getElem?_getD, List.getElem?_set_self (by rw [List.length_set]; omega)]
    show (UInt8.ofNat ks.length).toNat = _
    rw [UInt8.toNat_ofNat']; omega
structure LeafIs (A : AP) (pg : Nat) (ks vs : List UInt64) : Prop where
  has : A.Has pg
  head : LeafY (A.c pg) ks.length
  keys : keysL (A.c pg) ks.length = ks
  vals : valsL (A.c pg) ks.length = vs
  up : Sorted ks
theorem LeafIs.len {A : AP} {pg : Nat} {ks vs : List UInt64} (h : LeafIs A pg ks vs) : vs.length = ks.length := by rw [← h.vals, valsL_length]
theorem LeafIs.wrote {A : AP} {pg : Nat} {ks vs : List UInt64} {y : List UInt8} (hh : A.Has pg) (hy : y.length = 504) (hv : vs.length = ks.length) (hk : ks.length ≤ 30) (hs : Sorted ks) : LeafIs (A.wrote pg (encLeaf y ks vs)) pg ks vs := by
  have e : (A.wrote pg (encLeaf y ks vs)).c pg = encLeaf y ks vs := by rw [AP.wrote_c, if_pos rfl]
  refine ⟨AP.wrote_has.2 hh, ?_, ?_, ?_, hs⟩
  · rw [e]; exact encLeaf_head y ks vs (by omega) hk
  · rw [e]; exact keysL_enc y ks vs (by omega) hv
  · rw [e]; exact valsL_enc y ks vs (by omega) hv
end Go.Proofs.YtfljlcfmdcepnaaGreatDoor
namespace Go.Proofs.YtfljlcfmdcepnaaGreatDoor
open Go.RowKit
open UK (str BytesAt nth Only)
def kidAt (y : List UInt8) (i : Nat) : Nat := (getL ((y.drop (4 + 4 * i)).take 4)).toNat
def kidsL (y : List UInt8) (n : Nat) : List Nat := (List.range n).map (kidAt y)
def midL (y : List UInt8) (n : Nat) : List UInt64 := (List.range n).map fun i => g64 y (164 + 8 * i)
def decN (y : List UInt8) : Option Nd :=
  if nth y 0 = 1 ∧ (nth y 1).toNat ≤ 30 then some ⟨true, keysL y (nth y 1).toNat, valsL y (nth y 1).toNat, []⟩
  else if nth y 0 = 2 ∧ 2 ≤ (nth y 1).toNat ∧ (nth y 1).toNat ≤ 40 then some ⟨false, midL y ((nth y 1).toNat - 1), [], kidsL y (nth y 1).toNat⟩
  else none
def kidsB (l : List Nat) : List UInt8 := l.flatMap fun k => putL (UInt32.ofNat k)
def midB (l : List UInt64) : List UInt8 := l.flatMap b64
def encInner (y : List UInt8) (keys : List UInt64) (kids : List Nat) : List UInt8 := UK.wr (UK.wr ((y.set 0 2).set 1 (UInt8.ofNat kids.length)) 4 (kidsB kids)) 164 (midB keys)
def encN (y : List UInt8) (x : Nd) : List UInt8 := if x.leaf then encLeaf y x.keys x.vals else encInner y x.keys x.kids
structure Fits (x : Nd) : Prop where
  leaf : x.leaf = true → x.keys.length ≤ 30 ∧ x.vals.length = x.keys.length ∧ x.kids = []
  inner : x.leaf = false → x.kids.length = x.keys.length + 1 ∧ 2 ≤ x.kids.length ∧ x.kids.length ≤ 40 ∧ x.vals = [] ∧ ∀ k ∈ x.kids, k < 4294967296
theorem chunk_drop {α : Type} (f : α → List UInt8) (m : Nat) (hf : ∀ a, (f a).length = m) : ∀ (l : List α) (i : Nat) (a : α), l[i]? = some a → ∃ r, (l.flatMap f).drop (m * i) = f a ++ r
  | [], _, _, h => by simp at h
  | b :: l, 0, a, h => by
    obtain rfl : b = a := by simpa using h
    exact ⟨l.flatMap f, by simp⟩
  | b :: l, i + 1, a, h => by
    obtain ⟨r, hr⟩ := chunk_drop f m hf l i a (by simpa using h)
    refine ⟨r, ?_⟩
    have e : m * (i + 1) = m + m * i := by rw [Nat.mul_add, Nat.mul_one, Nat.add_comm]
    rw [List.flatMap_cons, e, List.drop_append, hf, List.drop_of_length_le (by rw [hf]; omega), List.nil_append, show m + m * i - m = m * i by omega]
    exact hr
theorem chunk_length {α : Type} (f : α → List UInt8) (m : Nat) (hf : ∀ a, (f a).length = m) (l : List α) : (l.flatMap f).length = m * l.length := by
  induction l with
  | nil => simp
  | cons b l ih => rw [List.flatMap_cons, List.length_append, hf, ih, List.length_cons, Nat.mul_add, Nat.mul_one, Nat.add_comm]
theorem kidsB_length (l : List Nat) : (kidsB l).length = 4 * l.length := chunk_length _ 4 (fun _ => rfl) l
theorem midB_length (l : List UInt64) : (midB l).length = 8 * l.length := chunk_length _ 8 (fun _ => rfl) l
theorem wr_drop_in (x : List UInt8) (a o : Nat) (s : List UInt8) (ha : a ≤ x.length) (ho : o ≤ s.length) : (UK.wr x a s).drop (a + o) = s.drop o ++ x.drop (a + s.length) := by
  unfold UK.wr
  have h4 : (x.take a).length = a := by rw [List.length_take]; omega
  rw [List.drop_append, h4, List.drop_of_length_le (by rw [h4]; omega), List.nil_append, show a + o - a = o by omega, List.drop_append_of_le_length ho]
theorem wr_cut4 (x : List UInt8) (a i m : Nat) (s : List UInt8) (ha : a ≤ x.length) (hi : i + m ≤ a) : ((UK.wr x a s).drop i).take m = (x.drop i).take m := by
  unfold UK.wr
  have h4 : (x.take a).length = a := by rw [List.length_take]; omega
  rw [List.drop_append_of_le_length (by omega), List.take_append_of_le_length (by rw [List.length_drop]; omega), List.drop_take, List.take_take]
  congr 1
  omega
theorem nth_wr_lt (x : List UInt8) (a i : Nat) (s : List UInt8) (ha : a ≤ x.length) (hi : i < a) : nth (UK.wr x a s) i = nth x i := by
  unfold UK.wr nth
  rw [List.getD_eq_getElem?_getD, List.getD_eq_getElem?_getD, List.getElem?_append_left (by rw [List.length_take]; omega), List.getElem?_take_of_lt hi]
theorem encInner_length (y : List UInt8) (keys : List UInt64) (kids : List Nat) (hy : 504 ≤ y.length) (hk : kids.length ≤ 40) (hn : keys.length ≤ 42) : (encInner y keys kids).length = y.length := by
  have h1 : (UK.wr ((y.set 0 2).set 1 (UInt8.ofNat kids.length)) 4 (kidsB kids)).length = y.length := by
    rw [UK.wr_length _ _ _ (by rw [kidsB_length, List.length_set, List.length_set]; omega), List.length_set, List.length_set]
  unfold encInner
  rw [UK.wr_length _ _ _ (by rw [midB_length, h1]; omega), h1]
theorem inner_mid (y : List UInt8) (keys : List UInt64) (kids : List Nat) (hy : 504 ≤ y.length) (hk : kids.length ≤ 40) : midL (encInner y keys kids) keys.length = keys := by
  have h1 : (UK.wr ((y.set 0 2).set 1 (UInt8.ofNat kids.length)) 4 (kidsB kids)).length = y.length := by
    rw [UK.wr_length _ _ _ (by rw [kidsB_length, List.length_set, List.length_set]; omega), List.length_set, List.length_set]
  refine List.ext_getElem (by simp [midL]) (fun i h2 h3 => ?_)
  simp only [midL, List.getElem_map, List.getElem_range]
  obtain ⟨r, hr⟩ := chunk_drop b64 8 (fun _ => rfl) keys i keys[i] (List.getElem?_eq_getElem h3)
  have hd := wr_drop_in (UK.wr ((y.set 0 2).set 1 (UInt8.ofNat kids.length)) 4 (kidsB kids)) 164 (8 * i) (midB keys) (by rw [h1]; omega) (by rw [midB_length]; omega)
  have hr' : (midB keys).drop (8 * i) = b64 keys[i] ++ r := hr
  rw [hr', List.append_assoc] at hd
  exact g64_of hd
theorem inner_kids (y : List UInt8) (keys : List UInt64) (kids : List Nat) (hy : 504 ≤ y.length) (hk : kids.length ≤ 40) (hb : ∀ k ∈ kids, k < 4294967296) : kidsL (encInner y keys kids) kids.length = kids := by
  have h1 : (UK.wr ((y.set 0 2).set 1 (UInt8.ofNat kids.length)) 4 (kidsB kids)).length = y.length := by
    rw [UK.wr_length _ _ _ (by rw [kidsB_length, List.length_set, List.length_set]; omega), List.length_set, List.length_set]
  refine List.ext_getElem (by simp [kidsL]) (fun i h2 h3 => ?_)
  simp only [kidsL, List.getElem_map, List.getElem_range]
  unfold kidAt encInner
  rw [wr_cut4 _ 164 (4 + 4 * i) 4 _ (by rw [h1]; omega) (by omega)]
  obtain ⟨r, hr⟩ := chunk_drop (fun k => putL (UInt32.ofNat k)) 4 (fun _ => rfl) kids i kids[i] (List.getElem?_eq_getElem h3)
  have hd := wr_drop_in ((y.set 0 2).set 1 (UInt8.ofNat kids.length)) 4 (4 * i) (kidsB kids) (by rw [List.length_set, List.length_set]; omega) (by rw [kidsB_length]; omega)
  have hr' : (kidsB kids).drop (4 * i) = putL (UInt32.ofNat kids[i]) ++ r := hr
  rw [hr', List.append_assoc] at hd
  rw [hd, List.take_append_of_le_length (show 4 ≤ (putL (UInt32.ofNat kids[i])).length from Nat.le_refl 4), List.take_of_length_le (show (putL (UInt32.ofNat kids[i])).length ≤ 4 from Nat.le_refl 4), get_put]
  rw [UInt32.toNat_ofNat']
  exact Nat.mod_eq_of_lt (hb _ (List.getElem_mem h3))
theorem inner_head (y : List UInt8) (keys : List UInt64) (kids : List Nat) (hy : 504 ≤ y.length) (hk : kids.length ≤ 40) : nth (encInner y keys kids) 0 = 2 ∧ (nth (encInner y keys kids) 1).toNat = kids.length := by
  have h1 : (UK.wr ((y.set 0 2).set 1 (UInt8.ofNat kids.length)) 4 (kidsB kids)).length = y.length := by
    rw [UK.wr_length _ _ _ (by rw [kidsB_length, List.length_set, List.length_set]; omega), List.length_set, List.length_set]
  have h : ∀ i, i < 4 → nth (encInner y keys kids) i = nth ((y.set 0 2).set 1 (UInt8.ofNat kids.length)) i := fun i hi => by
    unfold encInner
    rw [nth_wr_lt _ _ _ _ (by rw [h1]; omega) (by omega), nth_wr_lt _ _ _ _ (by rw [List.length_set, List.length_set]; omega) hi]
  refine ⟨?_, ?_⟩
  · rw [h 0 (by omega)]
    unfold nth
    rw [List.getD_eq_getElem?_getD, List.getElem?_set_ne (by omega), List.getElem?_set_self (by omega)]; rfl
  · rw [h 1 (by omega)]
    unfold nth
    rw [List.getD_eq_getElem?_getD, List.getElem?_set_self (by rw [List.length_set]; omega)]
    show (UInt8.ofNat kids.length).toNat = _
    rw [UInt8.toNat_ofNat']; omega
theorem dec_enc (y : List UInt8) (x : Nd) (hy : 504 ≤ y.length) (hx : Fits x) : decN (encN y x) = some x := by
  obtain ⟨lf, keys, vals, kids⟩ := x
  cases lf with
  | true =>
    obtain ⟨h1, h2, h3⟩ := hx.leaf rfl
    dsimp only at h1 h2 h3
    obtain ⟨e1, e2, e3⟩ := encLeaf_head y keys vals hy h1
    show decN (encLeaf y keys vals) = _
    unfold decN
    rw [e1, e2, if_pos ⟨rfl, h1⟩, keysL_enc y keys vals hy h2, valsL_enc y keys vals hy h2, h3]
  | false =>
    obtain ⟨h1, h2, h3, h4, h5⟩ := hx.inner rfl
    dsimp only at h1 h2 h3 h4 h5
    obtain ⟨e1, e2⟩ := inner_head y keys kids hy h3
    show decN (encInner y keys kids) = _
    unfold decN
    rw [e1, e2, if_neg (by intro h; exact absurd h.1 (by decide)), if_pos ⟨rfl, h2, h3⟩, show kids.length - 1 = keys.length by omega, inner_mid y keys kids hy h3, inner_kids y keys kids hy h3 h5, h4]
theorem dec_fits {y : List UInt8} {x : Nd} (h : decN y = some x) : Fits x := by
  unfold decN at h
  split at h
  · rename_i h1
    obtain rfl := Option.some.inj h
    exact ⟨fun _ => ⟨by rw [keysL_length]; exact h1.2, by rw [keysL_length, valsL_length], rfl⟩, (fun h => by cases h)⟩
  · split at h
    · rename_i h1 h2
      obtain rfl := Option.some.inj h
      refine ⟨(fun h => by cases h), fun _ => ⟨?_, ?_, ?_, rfl, fun k hk => ?_⟩⟩
      · simp [kidsL, midL]; omega
      · simp [kidsL]; omega
      · simp [kidsL]; omega
      · simp only [kidsL, List.mem_map] at hk
        obtain ⟨i, _, rfl⟩ := hk
        unfold kidAt
        exact (getL _).toNat_lt
    · cases h
theorem enc_length (y : List UInt8) (x : Nd) (hy : 504 ≤ y.length) (hx : Fits x) : (encN y x).length = y.length := by
  unfold encN
  cases hl : x.leaf with
  | true =>
    obtain ⟨h1, h2, _⟩ := hx.leaf hl
    rw [if_pos rfl]
    exact encLeaf_length y _ _ h1 h2 hy
  | false =>
    obtain ⟨h1, h2, h3, _⟩ := hx.inner hl
    rw [if_neg (by decide)]
    exact encInner_length y _ _ hy h3 (by omega)
theorem encInner_take (y : List UInt8) (keys : List UInt64) (kids : List Nat) (hy : 504 ≤ y.length) (hk : kids.length ≤ 40) (hn : keys.length ≤ 42) : (encInner y keys kids).take 504 = encInner (y.take 504) keys kids := by
  have h1 : (UK.wr ((y.set 0 2).set 1 (UInt8.ofNat kids.length)) 4 (kidsB kids)).length = y.length := by
    rw [UK.wr_length _ _ _ (by rw [kidsB_length, List.length_set, List.length_set]; omega), List.length_set, List.length_set]
  unfold encInner
  rw [wr_take _ _ _ _ (by rw [midB_length]; omega) (by rw [h1]; omega), wr_take _ _ _ _ (by rw [kidsB_length]; omega) (by rw [List.length_set, List.length_set]; omega), List.take_set, List.take_set]
theorem enc_take (y : List UInt8) (x : Nd) (hy : 504 ≤ y.length) (hx : Fits x) : (encN y x).take 504 = encN (y.take 504) x := by
  unfold encN
  cases hl : x.leaf with
  | true =>
    obtain ⟨h1, h2, _⟩ := hx.leaf hl
    rw [if_pos rfl, if_pos rfl]
    exact encLeaf_take y _ _ h1 h2 hy
  | false =>
    obtain ⟨h1, h2, h3, _⟩ := hx.inner hl
    rw [if_neg (by decide), if_neg (by decide)]
    exact encInner_take y _ _ hy h3 (by omega)
theorem kidAt_take (y : List UInt8) (i : Nat) (h : 4 + 4 * i + 4 ≤ 504) : kidAt (y.take 504) i = kidAt y i := by
  unfold kidAt
  rw [List.drop_take, List.take_take, Nat.min_eq_left (by omega)]
theorem dec_take (y : List UInt8) : decN (y.take 504) = decN y := by
  have h0 := nth_take504 y 0 (by omega)
  have h1 := nth_take504 y 1 (by omega)
  unfold decN
  rw [h0, h1]
  split
  · rename_i h
    rw [keysL_take y _ h.2, valsL_take y _ h.2]
  · split
    · rename_i h
      have e1 : midL (y.take 504) ((nth y 1).toNat - 1) = midL y ((nth y 1).toNat - 1) := by
        unfold midL
        refine List.map_congr_left (fun i hi => ?_)
        have := List.mem_range.1 hi
        exact g64_take y _ (by omega)
      have e2 : kidsL (y.take 504) (nth y 1).toNat = kidsL y (nth y 1).toNat := by
        unfold kidsL
        refine List.map_congr_left (fun i hi => ?_)
        have := List.mem_range.1 hi
        exact kidAt_take y i (by omega)
      rw [e1, e2]
    · rfl
end Go.Proofs.YtfljlcfmdcepnaaGreatDoor
