/-
  The tree: a leaf is loaded, stored; a new one.
  slices.BinarySearch, Insert, Delete over []uint64.
  slices.Insert of one number.
-/
import Derived.Test.YtfljlcfmdcepnaaGreatDoorJTreeC
import Derived.Shelf.Spec.SlicesInsert
namespace Go.Proofs.YtfljlcfmdcepnaaGreatDoor
open Go.RowKit
open UK (str BytesAt nth Only Row Box w32)
open Go.BigFrame
def LeafY (y : List UInt8) (n : Nat) : Prop := nth y 0 = 1 ∧ (nth y 1).toNat = n ∧ n ≤ 30
def NodeM (N M : Nat) (W : World) (nb : Nat) (x : Nd) (ka va aa : Option Addr) (kc vc ac : Nat) : Prop := NodeO N W nb x ka va aa kc vc ac ∧ nb < M ∧ ∀ g, slB ka g ∨ slB va g ∨ slB aa g → g < M
section
variable {E : Nat → Prop} {W W' : World} {P D T k pg n : Nat} {root : Int} {A : AP}
theorem nth_take504 (y : List UInt8) (i : Nat) (h : i < 504) : nth (y.take 504) i = nth y i := by
  unfold nth; rw [List.getD_eq_getElem?_getD, List.getD_eq_getElem?_getD, List.getElem?_take_of_lt h]
theorem g64_take (y : List UInt8) (o : Nat) (h : o + 8 ≤ 504) : g64 (y.take 504) o = g64 y o := by
  unfold g64
  rw [List.drop_take, List.take_take, List.drop_take, List.take_take, Nat.min_eq_left (by omega), Nat.min_eq_left (by omega)]
theorem keysL_take (y : List UInt8) (n : Nat) (hn : n ≤ 30) : keysL (y.take 504) n = keysL y n := by
  unfold keysL
  refine List.map_congr_left (fun i hi => ?_)
  have := List.mem_range.1 hi
  exact g64_take y _ (by omega)
theorem valsL_take (y : List UInt8) (n : Nat) (hn : n ≤ 30) : valsL (y.take 504) n = valsL y n := by
  unfold valsL
  refine List.map_congr_left (fun i hi => ?_)
  have := List.mem_range.1 hi
  exact g64_take y _ (by omega)
def Loaded (E : Nat → Prop) (W w' : World) (P D : Nat) (A : AP) (k pg n : Nat) (e : Ending) : Prop :=
  ∃ N M nb ka va kc vc, e = .returned (.tuple #[.pointer (some ⟨nb, 0, none⟩), .int .i64 0]) ∧ W.heap.size ≤ N ∧ M ≤ w'.heap.size ∧ NodeM N M w' nb { leaf := true, keys := keysL (A.c pg) n, vals := valsL (A.c pg) n, kids := [] } ka va none kc vc 0 ∧ PZ (fun j => E j ∨ (N ≤ j ∧ j < M)) w' P D A k ∧ Kept E W w'
set_option maxRecDepth 100000 in
theorem load_leaf (h : PZ E W P D A k) (hk : k + 2 < 900000000) (hb : Box W T #[.pointer (some ⟨P, 0, none⟩), .int .i64 root]) (hp : A.Has pg) (hy : LeafY (A.c pg) n) :
    Calls Tryz.prog 76 #[.pointer (some ⟨T, 0, none⟩), .int .i64 pg] W fun e w' => Loaded E W w' P D A (k + 2) pg n e := by
  have c0 : W.cell? ⟨T, 0, none⟩ = some (.pointer (some ⟨P, 0, none⟩)) := hb.cell 0 _ rfl
  have HP := Lib.hid (pz_pin h hk pg hp)
  clear h hb
  go_enter_defers Tryz.func76, Tryz.ntmps76
  go_wp2_with fail
  refine HP.out.mono ?_
  rintro e w1 ⟨fb, db, cap, rfl, p1, k1⟩
  have HB := Lib.hid (pf_bytes p1)
  obtain ⟨y, y1, y2, y3, y4, y5⟩ := p1.bytes
  obtain ⟨h0, h1, h2⟩ := hy
  rw [← y3] at h0 h1
  rw [nth_take504 _ _ (by omega)] at h0 h1
  have hD := decode_leaf y1 y2 y4 h0 h1 h2
  have hky := keysL_take y n h2
  have hvy := valsL_take y n h2
  rw [y3] at hky hvy
  rw [← hky, ← hvy] at hD
  have HD := Lib.hid hD
  have H1 := Lib.hid (And.intro p1 k1)
  clear HP p1 k1 y1 y2 y3 y4 y5 h0 h1 hky hvy hD c0
  go_wp2_with fail
  refine HB.out.mono ?_
  rintro e w2 ⟨rfl, rfl⟩
  go_wp2_with fail
  refine HD.out.mono ?_
  rintro e w3 ⟨nb, ka, va, kc, vc, rfl, hn, hbl⟩
  obtain ⟨p1, k1⟩ := H1.out
  have hlt : ∀ g, slB ka g ∨ slB va g ∨ slB none g → g < w3.heap.size := fun g hg => by
    rcases hg with h | h | h
    · exact hn.k.lt h
    · exact hn.v.lt h
    · cases h
  have hnb := hn.box.lt
  have p3 := p1.wide hbl (T := fun j => E j ∨ (w2.heap.size ≤ j ∧ j < w3.heap.size)) (fun j hj => hj)
  have k3 := k1.trans (p1.kept hbl)
  have hs2 := k1.size
  have HU := Lib.hid (pf_unpin_d .returning p3)
  have HN := Lib.hid (And.intro hn (And.intro hlt (And.intro hnb (And.intro k3 hs2))))
  clear HB HD H1 p1 k1 hn hbl hlt hnb p3 k3 hs2
  go_wp2
  refine leaves_cons (f := 69) (args := #[.pointer (some ⟨fb, 0, none⟩)]) (by simp) (by simp [go_sem]) ?_
  refine HU.out.mono ?_
  rintro e u' w4 ⟨rfl, rfl, p4, k4⟩
  obtain ⟨hn, hlt, hnb, k3, hs2⟩ := HN.out
  refine ⟨_, results_tmp2 rfl _ _ _, ?_⟩
  refine ⟨w2.heap.size, w3.heap.size, nb, ka, va, kc, vc, rfl, hs2, k4.size, ⟨hn.of_block k4.size (fun g h1 h2 => k4.block g (.inr ⟨h1, h2⟩)), hnb, hlt⟩, p4, k3.trans (k4.mono (fun j hj => .inl hj))⟩
theorem Win.kept {v : Value} {vs : List Value} (h : Win E W v vs) (hk : Kept E W W') : Win E W' v vs := by
  obtain ⟨ao, c, a, b, d⟩ := h
  refine ⟨ao, c, a, b, fun j u hj => ?_⟩
  obtain ⟨g, o, e1, e2, e3⟩ := d j u hj
  exact ⟨g, o, e1, e2, (World.cell?_of_block (a := ⟨g, o + j, none⟩) (hk.block g e2)).trans e3⟩
theorem NodeR.kept {nb : Nat} {x : Nd} (h : NodeR E W nb x) (hk : Kept E W W') : NodeR E W' nb x := by
  obtain ⟨kv, vv, av, b, hb, h1, h2, h3⟩ := h
  exact ⟨kv, vv, av, b.of_block (hk.block nb hb), hb, h1.kept hk, h2.kept hk, h3.kept hk⟩
theorem wr_take (x : List UInt8) (a n : Nat) (s : List UInt8) (h : a + s.length ≤ n) (hn : n ≤ x.length) : (UK.wr x a s).take n = UK.wr (x.take n) a s := by
  unfold UK.wr
  rw [List.take_append, List.length_take, Nat.min_eq_left (by omega), List.take_of_length_le (by rw [List.length_take]; omega), List.take_append, List.take_of_length_le (l := s) (by omega), List.take_take, Nat.min_eq_left (by omega), List.drop_take, show n - a - s.length = n - (a + s.length) by omega]
theorem encLeaf_take (y : List UInt8) (ks vs : List UInt64) (hk : ks.length ≤ 30) (hv : vs.length = ks.length) (hy : 504 ≤ y.length) : (encLeaf y ks vs).take 504 = encLeaf (y.take 504) ks vs := by
  unfold encLeaf
  rw [wr_take _ _ _ _ (by rw [leafB_length _ _ hv]; omega) (by rw [List.length_set, List.length_set]; exact hy), List.take_set, List.take_set]
theorem encLeaf_length (y : List UInt8) (ks vs : List UInt64) (hk : ks.length ≤ 30) (hv : vs.length = ks.length) (hy : 504 ≤ y.length) : (encLeaf y ks vs).length = y.length := by
  unfold encLeaf
  rw [UK.wr_length _ _ _ (by rw [leafB_length _ _ hv, List.length_set, List.length_set]; omega), List.length_set, List.length_set]
set_option maxRecDepth 100000 in
theorem store_leaf {nb : Nat} {x : Nd} (h : PZ E W P D A k) (hk : k + 3 < 900000000) (hb : Box W T #[.pointer (some ⟨P, 0, none⟩), .int .i64 root]) (hp : A.Has pg) (hn : NodeR E W nb x) (hl : x.leaf = true) (hx : x.keys.length ≤ 30) (hv : x.vals.length = x.keys.length) :
    Calls Tryz.prog 78 #[.pointer (some ⟨T, 0, none⟩), .int .i64 pg, .pointer (some ⟨nb, 0, none⟩)] W fun e w' => e = .returned (.int .i64 0) ∧ PZ E w' P D (A.wrote pg (encLeaf (A.c pg) x.keys x.vals)) (k + 3) ∧ Kept E W w' := by
  have c0 : W.cell? ⟨T, 0, none⟩ = some (.pointer (some ⟨P, 0, none⟩)) := hb.cell 0 _ rfl
  have HP := Lib.hid (pz_pin h (by omega) pg hp)
  clear h hb
  go_enter_defers Tryz.func78, Tryz.ntmps78
  go_wp2_with fail
  refine HP.out.mono ?_
  rintro e w1 ⟨fb, db, cap, rfl, p1, k1⟩
  have HE := Lib.hid (pf_edit p1 (by omega))
  have HN1 := Lib.hid (And.intro (hn.kept k1) k1)
  clear HP p1 k1 c0 hn
  go_wp2_with fail
  refine HE.out.mono ?_
  rintro e w2 ⟨rfl, p2, k2⟩
  obtain ⟨hn1, k1⟩ := HN1.out
  have hn2 := hn1.kept k2
  obtain ⟨y, y1, y2, y3, y4, y5⟩ := p2.bytes
  have HX := Lib.hid (encode_leaf hn2 hl hx hv y1 y2 y4 y5)
  have hy3 : y.take 504 = A.c pg := y3
  have htk := encLeaf_take y x.keys x.vals hx hv (by omega)
  rw [hy3] at htk
  have hle := encLeaf_length y x.keys x.vals hx hv (by omega)
  have H2 := Lib.hid (And.intro p2 (And.intro (k1.trans k2) (And.intro htk (hle.trans y2))))
  clear HE HN1 hn1 hn2 k1 k2 p2 y1 y2 y3 y4 y5 hy3 htk hle
  go_wp2_with fail
  refine HX.out.mono ?_
  rintro e w3 ⟨rfl, b3, o3⟩
  obtain ⟨p2, k2, htk, hle⟩ := H2.out
  obtain ⟨p3, k3⟩ := p2.write o3 b3 hle
  rw [htk] at p3
  have HU := Lib.hid (pf_unpin_d .returning p3)
  have K3 := Lib.hid (k2.trans k3)
  clear HX H2 p2 k2 htk hle p3 k3 b3 o3
  go_wp2
  refine leaves_cons (f := 69) (args := #[.pointer (some ⟨fb, 0, none⟩)]) (by simp) (by simp [go_sem]) ?_
  refine HU.out.mono ?_
  rintro e u' w4 ⟨rfl, rfl, p4, k4⟩
  refine ⟨_, results_tmp rfl _ _ _, rfl, p4, K3.out.trans k4⟩
set_option maxRecDepth 100000 in
theorem tree_new (h : PZ E W P D A k) (hk : k + 3 < 900000000) (hf : ¬ A.Full) :
    Calls Tryz.prog 29 #[.pointer (some ⟨P, 0, none⟩)] W fun e w' => ∃ T N M, e = .returned (.tuple #[.pointer (some ⟨T, 0, none⟩), .int .i64 0]) ∧ Box w' T #[.pointer (some ⟨P, 0, none⟩), .int .i64 A.next] ∧ W.heap.size ≤ N ∧ N ≤ T ∧ T < M ∧ PZ (fun j => E j ∨ (N ≤ j ∧ j < M)) w' P D (A.take.wrote A.next (encLeaf (UK.zeros 504) [] [])) (k + 3) ∧ Kept E W w' := by
  have HP := Lib.hid (pz_take h (by omega) hf)
  clear h
  go_enter_defers Tryz.func29, Tryz.ntmps29
  go_wp2_with fail
  refine HP.out.mono ?_
  rintro e w1 ⟨fb, db, cap, rfl, p1, k1⟩
  have HG := Lib.hid (pf_page p1)
  have H1 := Lib.hid (And.intro p1 k1)
  clear HP p1 k1
  go_wp2_with fail
  refine HG.out.mono ?_
  rintro e w2 ⟨rfl, rfl⟩
  obtain ⟨p1, k1⟩ := H1.out
  have ba : Below w2.heap.size w2 (w2.alloc (.cells #[.pointer (some ⟨P, 0, none⟩), .int .i64 A.next] 111)) := (Below.refl _ _).alloc (Nat.le_refl _) _
  have sz : (w2.alloc (.cells #[.pointer (some ⟨P, 0, none⟩), .int .i64 A.next] 111)).heap.size = w2.heap.size + 1 := by simp
  have p3 := p1.wide ba (T := fun j => E j ∨ (w2.heap.size ≤ j ∧ j < w2.heap.size + 1)) (fun j hj => by rw [sz]; exact hj)
  have k3 := k1.trans (p1.kept ba)
  have bx := Box.new w2 #[.pointer (some ⟨P, 0, none⟩), .int .i64 A.next] 111
  have HE := Lib.hid (pf_edit p3 (by omega))
  have hs1 := k1.size
  have H3 := Lib.hid (And.intro k3 (And.intro bx hs1))
  clear HG H1 p1 k1 ba p3 k3 bx sz hs1
  go_wp2_with fail
  refine HE.out.mono ?_
  rintro e w4 ⟨rfl, p4, k4⟩
  obtain ⟨k3, bx, hs1⟩ := H3.out
  have b5 : Below w4.heap.size w4 (w4.alloc (.cells #[.bool true, .slice none 0 0, .slice none 0 0, .slice none 0 0] 141)) := (Below.refl _ _).alloc (Nat.le_refl _) _
  have p5 := p4.next b5
  obtain ⟨y, y1, y2, y3, y4, y5⟩ := p5.bytes
  have hdb : db < w4.heap.size := by
    obtain ⟨y', q1, _⟩ := p4.bytes
    exact q1.lt
  have hnr : NodeR (fun j => j = w4.heap.size) (w4.alloc (.cells #[.bool true, .slice none 0 0, .slice none 0 0, .slice none 0 0] 141)) w4.heap.size { leaf := true, keys := [], vals := [], kids := [] } :=
    ⟨.slice none 0 0, .slice none 0 0, .slice none 0 0, Box.new w4 _ _, rfl, ⟨none, 0, rfl, Nat.le_refl _, fun j u hj => by cases hj⟩, ⟨none, 0, rfl, Nat.le_refl _, fun j u hj => by cases hj⟩, ⟨none, 0, rfl, Nat.le_refl _, fun j u hj => by cases hj⟩⟩
  have HX := Lib.hid (encode_leaf hnr rfl (by decide) rfl y1 y2 y4 (by show ¬ db = w4.heap.size; omega))
  have hy3 : y.take 504 = UK.zeros 504 := y3.trans (by show setC A.c A.next (UK.zeros 504) A.next = _; unfold setC; rw [if_pos rfl])
  have htk := encLeaf_take y [] [] (by decide) rfl (by omega)
  rw [hy3] at htk
  have hle := encLeaf_length y [] [] (by decide) rfl (by omega)
  have hbx4 := bx.of_block (k4.block _ (.inr ⟨Nat.le_refl _, Nat.lt_succ_self _⟩))
  have H5 := Lib.hid (And.intro p5 (And.intro ((k3.trans (k4.mono (fun j hj => .inl hj))).trans ((p4.kept b5).mono (fun j hj => .inl hj))) (And.intro htk (And.intro (hle.trans y2) (And.intro (hbx4.next b5) hs1)))))
  clear HE H3 k3 bx p4 k4 b5 p5 y1 y2 y3 y4 y5 hnr hy3 htk hle hbx4 hs1 hdb
  go_wp2_with fail
  refine HX.out.mono ?_
  rintro e w6 ⟨rfl, b6, o6⟩
  obtain ⟨p5, k5, htk, hle, bx5, hs1⟩ := H5.out
  obtain ⟨p6, k6⟩ := p5.write o6 b6 hle
  rw [htk] at p6
  have HU := Lib.hid (pf_unpin_d .returning p6)
  have H6 := Lib.hid (And.intro (k5.trans (k6.mono (fun j hj => .inl hj))) (And.intro (bx5.of_block (k6.block _ (.inr ⟨Nat.le_refl _, Nat.lt_succ_self _⟩))) hs1))
  clear HX H5 p5 k5 htk hle bx5 p6 k6 b6 o6 hs1
  go_wp2
  refine leaves_cons (f := 69) (args := #[.pointer (some ⟨fb, 0, none⟩)]) (by simp) (by simp [go_sem]) ?_
  refine HU.out.mono ?_
  rintro e u' w7 ⟨rfl, rfl, p7, k7⟩
  obtain ⟨k6, bx6, hs1⟩ := H6.out
  refine ⟨_, results_tmp2 rfl _ _ _, ?_⟩
  exact ⟨w2.heap.size, w2.heap.size, w2.heap.size + 1, rfl, bx6.of_block (k7.block _ (.inr ⟨Nat.le_refl _, Nat.lt_succ_self _⟩)), hs1, Nat.le_refl _, Nat.lt_succ_self _, p7, k6.trans (k7.mono (fun j hj => .inl hj))⟩
end
end Go.Proofs.YtfljlcfmdcepnaaGreatDoor
namespace Go.Proofs.YtfljlcfmdcepnaaGreatDoor
open Go.RowKit
open UK (str BytesAt nth Only Row Box w32)
open Go.BigFrame
def Sorted (l : List UInt64) : Prop := ∀ (a b : Nat) (x y : UInt64), a < b → l[a]? = some x → l[b]? = some y → x.toNat < y.toNat
structure Stands (l : List UInt64) (k : UInt64) (i : Nat) : Prop where
  le : i ≤ l.length
  below : ∀ (j : Nat) (x : UInt64), j < i → l[j]? = some x → x.toNat < k.toNat
  above : ∀ (j : Nat) (x : UInt64), i ≤ j → l[j]? = some x → k.toNat ≤ x.toNat
theorem less_any (a b : UInt64) (w : World) :
    Calls Tryz.prog 126 #[.int .u64 a.toNat, .int .u64 b.toNat] w fun e w' => e = .returned (.bool (decide (a.toNat < b.toNat))) ∧ w' = w := by
  go_enter Tryz.func126, Tryz.ntmps126
  go_wp2
  go_ret
  exact ⟨rfl, rfl⟩
theorem nan_any (a : UInt64) (w : World) :
    Calls Tryz.prog 127 #[.int .u64 a.toNat] w fun e w' => e = .returned (.bool false) ∧ w' = w := by
  go_enter Tryz.func127, Tryz.ntmps127
  go_wp2
  go_ret
  exact ⟨rfl, rfl⟩
theorem Stands.mem {l : List UInt64} {k x : UInt64} {i : Nat} (h : Stands l k i) (hs : Sorted l) (hx : l[i]? = some x) : (k ∈ l) ↔ x.toNat = k.toNat := by
  constructor
  · intro hm
    obtain ⟨j, hj, e⟩ := List.getElem_of_mem hm
    have hj' : l[j]? = some k := by rw [List.getElem?_eq_getElem hj, e]
    have h1 := h.above i x (Nat.le_refl _) hx
    by_cases hlt : j < i
    · have := h.below j k hlt hj'; omega
    · by_cases e2 : i = j
      · subst e2; rw [hx] at hj'; rw [Option.some.inj hj']
      · have := hs i j x k (by omega) hx hj'; omega
  · intro e
    rw [← UInt64.toNat_inj.1 e]; exact List.mem_of_getElem? hx
theorem Stands.none {l : List UInt64} {k : UInt64} (h : Stands l k l.length) : k ∉ l := fun hm => by
  obtain ⟨j, hj, e⟩ := List.getElem_of_mem hm
  have := h.below j k hj (by rw [List.getElem?_eq_getElem hj, e])
  omega
set_option maxHeartbeats 1000000 in
set_option maxRecDepth 100000 in
theorem search_any {W : World} {S : Nat → Prop} {v : Value} {l : List UInt64} (h : Win S W v (u64s l)) (hs : Sorted l) (hl : l.length ≤ 1000) (k : UInt64) :
    Calls Tryz.prog 95 #[v, .int .u64 k.toNat] W fun e w' => ∃ i : Nat, e = .returned (.tuple #[.int .i64 i, .bool (decide (k ∈ l))]) ∧ Stands l k i ∧ w' = W := by
  obtain ⟨ao, c, rfl, hc, hr⟩ := h
  rw [u64s_length] at hc ⊢
  have HS := Lib.hid hs
  clear hs
  go_enter Tryz.func95, Tryz.ntmps95
  go_wp2_with fail
  go_loopw [7, 8] (fun iv jv wr => ∃ i j : Nat, iv = .int .i64 i ∧ jv = .int .i64 j ∧ i ≤ j ∧ j ≤ l.length ∧ Hid (∀ (a : Nat) (x : UInt64), a < i → l[a]? = some x → x.toNat < k.toNat) ∧ Hid (∀ (a : Nat) (x : UInt64), j ≤ a → l[a]? = some x → k.toNat ≤ x.toNat) ∧ wr = W) (fun iv jv _ => (intOf jv).toNat - (intOf iv).toNat)
  case atStart => exact ⟨0, l.length, rfl, rfl, Nat.zero_le _, Nat.le_refl _, (fun a x h => absurd h (Nat.not_lt_zero _)), (fun a x h hx => by rw [List.getElem?_eq_none h] at hx; cases hx), rfl⟩
  case round =>
    obtain ⟨i, j, rfl, rfl, hij, hj, hb, ha, rfl⟩ := hrel
    by_cases hlt : i < j
    · obtain ⟨x, hx⟩ : ∃ x, l[(i + j) / 2]? = some x := ⟨_, List.getElem?_eq_getElem (by omega)⟩
      obtain ⟨g, o, rfl, _, cx⟩ := hr _ _ (u64s_at _ _ _ hx)
      have h1 : ((i : Int) + (j : Int)) / 2 = (((i + j) / 2 : Nat) : Int) := by omega
      have hmi : (i + j) / 2 < l.length := by omega
      have hm1 : i ≤ (i + j) / 2 := by omega
      have hm2 : (i + j) / 2 < j := by omega
      generalize hm : (i + j) / 2 = m at hx cx h1 hmi hm1 hm2
      clear hr
      by_cases hlx : x.toNat < k.toNat
      · have HX := Lib.hid (fun (a : Nat) (z : UInt64) (haz : a < m + 1) (hz : l[a]? = some z) => (show z.toNat < k.toNat by
          by_cases e : a = m
          · subst e; rw [hx] at hz; rw [← Option.some.inj hz]; exact hlx
          · have := HS.out a m z x (by omega) hz hx; omega))
        have HL := less_any x k wr
        rw [decide_eq_true hlx] at HL
        have HL2 := Lib.hid HL
        clear hx hm HL hlx hb
        go_wp2_with fail
        refine HL2.out.mono ?_
        rintro e w' ⟨rfl, rfl⟩
        clear HL2
        go_wp2
        go_roundw
        case rel => exact ⟨m + 1, j, by go_num, rfl, by omega, hj, HX.out, ha, trivial⟩
        case measure => simp [intOf]; omega
      · have HX := Lib.hid (fun (a : Nat) (z : UInt64) (haz : m ≤ a) (hz : l[a]? = some z) => (show k.toNat ≤ z.toNat by
          by_cases e : a = m
          · subst e; rw [hx] at hz; rw [← Option.some.inj hz]; omega
          · have := HS.out m a x z (by omega) hx hz; omega))
        have HL := less_any x k wr
        rw [decide_eq_false hlx] at HL
        have HL2 := Lib.hid HL
        clear hx hm HL hlx ha
        go_wp2_with fail
        refine HL2.out.mono ?_
        rintro e w' ⟨rfl, rfl⟩
        clear HL2
        go_wp2
        go_roundw
        case rel => exact ⟨i, m, rfl, rfl, by omega, by omega, hb, HX.out, trivial⟩
        case measure => simp [intOf]; omega
    · obtain rfl : i = j := by omega
      have hst : Stands l k i := ⟨hj, hb.out, ha.out⟩
      have HST := Lib.hid hst
      by_cases hil : i < l.length
      · obtain ⟨x, hx⟩ : ∃ x, l[i]? = some x := ⟨_, List.getElem?_eq_getElem hil⟩
        obtain ⟨g, o, rfl, _, cx⟩ := hr _ _ (u64s_at _ _ _ hx)
        have hmem := hst.mem HS.out hx
        have hd : decide ((i : Int) < (l.length : Int)) = true := decide_eq_true (by omega)
        have hil2 : (i : Int) < (l.length : Int) := by omega
        have hii : decide ((i : Int) < (i : Int)) = false := decide_eq_false (by omega)
        have hn := fun w => nan_any x w
        clear hr hx hst hb ha hij
        by_cases he : x.toNat = k.toNat
        · have hk : decide (k ∈ l) = true := decide_eq_true (hmem.2 he)
          have HK := Lib.hid hk
          have hbq : ((x.toNat : Int) == (k.toNat : Int)) = true := by rw [he]; exact beq_self_eq_true _
          clear hmem hk he
          go_wp2_with fail
          go_ret2
          exact ⟨i, by rw [HK.out] <;> rfl, HST.out, rfl⟩
        · have hk : decide (k ∈ l) = false := decide_eq_false (fun h => he (hmem.1 h))
          have HK := Lib.hid hk
          have hbq : ((x.toNat : Int) == (k.toNat : Int)) = false := beq_eq_false_iff_ne.2 (by omega)
          clear hmem hk he
          go_wp2_with fail
          refine (hn _).mono ?_
          rintro e w' ⟨rfl, rfl⟩
          go_wp2
          go_ret2
          exact ⟨i, by rw [HK.out] <;> rfl, HST.out, rfl⟩
      · obtain rfl : i = l.length := by omega
        have hd : decide ((l.length : Int) < (l.length : Int)) = false := decide_eq_false (by omega)
        have HK := Lib.hid (decide_eq_false hst.none)
        clear hst hb ha hr hij
        go_wp2_with fail
        go_ret2
        exact ⟨l.length, by rw [HK.out] <;> rfl, HST.out, rfl⟩
end Go.Proofs.YtfljlcfmdcepnaaGreatDoor
namespace Go.Proofs.YtfljlcfmdcepnaaGreatDoor
open Go.RowKit
open UK (str BytesAt nth Only Row Box w32)
open Go.BigFrame
namespace UK
theorem grow_zeros {P : Program} {t tn ty e : TypeId} {i : TypeInfo} {z : Value} {k kn : IntKind} (ht : P.underlying t = some (.slice e)) (htn : P.underlying tn = some (.int kn)) (hi : P.info? e = some i) (hz : i.zero = some z) (hs1 : i.size = 1) (h16 : i.bytes ≤ 16) (hzc : z.cells = #[z])
    {W : World} {g c : Nat} {vs : List Value} (h : Row W g c vs) (n : Nat) (h0 : 0 < n) (hg : c < vs.length + n) (hlen : vs.length + n ≤ 1000000000) :
    ∃ c' W', (Builtin.append_ #[t, tn] ty #[.slice (some ⟨g, 0, none⟩) vs.length c, .int k n]).run P W = .ok (.slice (some ⟨W.heap.size, 0, none⟩) (vs.length + n) c') W' ∧ Row W' W.heap.size c' (vs ++ List.replicate n z) ∧ Below W.heap.size W W' := by
  have hn : n ≠ 0 := by omega
  have hw : IntKind.i64.wrap (n : Int) = n := by rw [IntKind.wrap_i64]; omega
  have h63' : ¬ (9223372036854775807 < ((vs.length : Int) + (n : Int))) := by omega
  have hb16 : n * i.bytes ≤ n * 16 := Nat.mul_le_mul_left n h16
  have h48i : ¬ (281474976710656 < (n : Int) * (i.bytes : Int)) := by
    rw [← Int.natCast_mul]; omega
  have hneg : ¬ ((n : Int) < 0) := by omega
  have hf : ¬ (vs.length + n ≤ c) := by omega
  have h48' : ¬ (281474976710656 < Builtin.nextslicecap (vs.length + n) c * i.bytes) := by
    have hfit : (vs.length + n) * i.bytes ≤ 140737488355328 := Nat.le_trans (Nat.mul_le_mul hlen h16) (by decide)
    have := growslice_fits (show c < vs.length + n by omega) hfit
    omega
  have hold : (Builtin.firstCells 1 vs.length (.slice (some ⟨g, 0, none⟩) vs.length c)).run P W.drew = .ok vs.toArray W.drew :=
    run_firstCells_some W.drew 1 vs.length ⟨g, 0, none⟩ vs.length c vs (by rw [Nat.mul_one]) (fun j v hj => by
      have hjl : j < vs.length := (List.getElem?_eq_some_iff.1 hj).1
      rw [add_mk0, Nat.zero_add]
      exact (h.holds j hjl).trans hj)
  have hge := grownCap_ge W (vs.length + n) c e
  have hrep : ∀ m, Builtin.zeroCells #[z] m = (List.replicate m z).toArray := fun m => by
    apply Array.ext'
    apply List.ext_getElem?
    intro j
    by_cases hj : j < m
    · simp [Builtin.zeroCells, hj, Nat.mod_one]
    · simp [Builtin.zeroCells, hj]
  have hcells : vs.toArray ++ ((List.replicate n z).toArray ++ (List.replicate (grownCap W (vs.length + n) c e - (vs.length + n)) z).toArray) = (vs ++ List.replicate (grownCap W (vs.length + n) c e - vs.length) z).toArray := by
    apply Array.ext'
    rw [Array.toList_append, Array.toList_append]
    simp only [List.replicate_append_replicate]
    rw [show n + (grownCap W (vs.length + n) c e - (vs.length + n)) = grownCap W (vs.length + n) c e - vs.length by omega]
  have hb := Box.new W.drew (vs ++ List.replicate (grownCap W (vs.length + n) c e - vs.length) z).toArray e
  refine ⟨grownCap W (vs.length + n) c e, W.drew.alloc (.cells (vs ++ List.replicate (grownCap W (vs.length + n) c e - vs.length) z).toArray e), ?_, ?_, (Below.refl W.heap.size W).drew.alloc (Nat.le_refl _) _⟩
  · rw [← hcells, ← hrep, ← hrep]
    unfold grownCap at *
    simp [Builtin.append_, run_underlying ht, run_underlying htn, sizeOf, typeInfo, zeroValue, hi, hz, hzc, hs1, asInt, asIntOf, hw, hn, hneg, h48i, hf, h63', h48', Question.forced, hold, newRow]
  · have hr := hb.row
    have hsz : (vs ++ List.replicate (grownCap W (vs.length + n) c e - vs.length) z).toArray.size = grownCap W (vs.length + n) c e := by
      rw [List.size_toArray, List.length_append, List.length_replicate]; omega
    rw [hsz] at hr
    have := hr.take (vs.length + n)
    have e1 : (vs ++ List.replicate (grownCap W (vs.length + n) c e - vs.length) z).toArray.toList.take (vs.length + n) = vs ++ List.replicate n z := by
      show (vs ++ List.replicate (grownCap W (vs.length + n) c e - vs.length) z).take (vs.length + n) = _
      rw [List.take_append, List.take_of_length_le (by omega), show vs.length + n - vs.length = n by omega, List.take_replicate, Nat.min_eq_left (by omega)]
    rw [e1] at this
    exact this
end UK
def Laid1 (W w' : World) (ao : Option Addr) (l : List UInt64) (e : Ending) : Prop :=
  ∃ g' c', e = .returned (.slice (some ⟨g', 0, none⟩) l.length c') ∧ Row w' g' c' (u64s l) ∧ UK.Only g' W w' ∧ (slB ao g' ∨ W.heap.size ≤ g')
theorem Row.shape {W : World} {g c : Nat} {vs : List Value} (h : Row W g c vs) (hc : 0 < c) : ∃ t k, W.shape? g = some (t, k) ∧ k ≠ 0 := by
  have h0 := (h.there 0 hc).1
  unfold World.cell? at h0
  unfold World.shape?
  cases hg : W.heap[g]? with
  | none => simp only [hg] at h0; cases h0
  | some o =>
    simp only [hg] at h0
    cases o with
    | cells cs t fr =>
      refine ⟨t, cs.size, rfl, fun e => ?_⟩
      simp only at h0
      rw [Array.getElem?_eq_none (by omega)] at h0
      simp at h0
    | _ => simp at h0
set_option maxHeartbeats 4000000 in
set_option maxRecDepth 100000 in
theorem insert_end {W : World} {ao : Option Addr} {c vb : Nat} {l : List UInt64} (h : NR W ao c (u64s l)) (hl : l.length ≤ 1000) (v : UInt64) (hv : Box W vb #[.int .u64 (v.toNat : Int)]) :
    Calls Tryz.prog 97 #[.slice ao l.length c, .int .i64 l.length, .slice (some ⟨vb, 0, none⟩) 1 1] W fun e w' => Laid1 W w' ao (l ++ [v]) e := by
  have hlen := u64s_length l
  obtain ⟨g', c', W', e, r, o⟩ := UK.push_row (P := Tryz.prog) (t := 52) (tx := 52) (ty := 52) Tryz.underlying52 (i := Tryz.t23) rfl rfl rfl (show (8 : Nat) ≤ 16 by omega) rfl h (x := .slice (some ⟨vb, 0, none⟩) 1 1) (m := [.int .u64 (v.toNat : Int)]) (by simp) (Src.ofSlice W Tryz.underlying52 ⟨vb, 0, none⟩ 1 1 _ rfl (fun j u hj => by
      have hj0 : j = 0 := by
        by_cases hc : j < 1
        · omega
        · rw [List.getElem?_eq_none (by simp; omega)] at hj; cases hj
      subst hj0
      rw [UK.add_mk0, Nat.zero_add, hv.cell 0 _ rfl]
      exact hj) (fun u hu => by
        obtain rfl := List.mem_singleton.1 hu
        rfl)) (by rw [hlen]; simp; omega)
  rw [List.length_append, hlen] at e
  have el : (u64s l ++ [.int .u64 (v.toNat : Int)]) = u64s (l ++ [v]) := by unfold u64s; rw [List.map_append]; rfl
  rw [el] at r
  have HF : Hid (∃ g' c', (Value.slice (some ⟨g', 0, none⟩) (l.length + 1) c' = Value.slice (some ⟨g', 0, none⟩) (l.length + 1) c') ∧ True) := ⟨0, 0, rfl, trivial⟩
  have HR := Lib.hid (And.intro r o)
  replace e : (Builtin.append_ #[52, 52] 52 #[.slice ao l.length c, .slice (some ⟨vb, 0, none⟩) 1 1]).run Tryz.prog W = .ok (.slice (some ⟨g', 0, none⟩) (l.length + 1) c') W' := e
  clear r o hv el HF
  have fin : Laid1 W W' ao (l ++ [v]) (.returned (.slice (some ⟨g', 0, none⟩) (l.length + 1) c')) := by
    refine ⟨g', c', by rw [List.length_append]; rfl, HR.out.1, ?_⟩
    rcases HR.out.2 with ⟨a, b⟩ | ⟨a, b⟩
    · exact ⟨b, .inl a⟩
    · exact ⟨Only.of_below b, .inr (by omega)⟩
  have HF := Lib.hid fin
  clear fin HR
  rcases h with ⟨rfl, hn, rfl⟩ | ⟨g, rfl, r⟩
  · have hl0 : l = [] := by
      have := congrArg List.length hn
      rw [hlen] at this
      exact List.length_eq_zero_iff.1 this
    subst hl0
    clear hn hlen
    go_enter Tryz.func97, Tryz.ntmps97
    go_wp2_with (at_builtin; refine UK.wpList_append_run e rfl rfl rfl rfl rfl ?_)
    go_ret
    exact HF.out
  · have hle := r.le
    rw [hlen] at hle
    clear r hlen
    go_enter Tryz.func97, Tryz.ntmps97
    go_wp2_with (at_builtin; refine UK.wpList_append_run e rfl rfl rfl rfl rfl ?_)
    all_goals
      go_ret
      exact HF.out
set_option maxHeartbeats 4000000 in
set_option maxRecDepth 100000 in
theorem insert_shift {W : World} {g c vb i : Nat} {l : List UInt64} (h : Row W g c (u64s l)) (hl : l.length ≤ 1000) (hi : i < l.length) (hroom : l.length + 1 ≤ c) (v : UInt64) (hv : Box W vb #[.int .u64 (v.toNat : Int)]) (hne : vb ≠ g) :
    Calls Tryz.prog 97 #[.slice (some ⟨g, 0, none⟩) l.length c, .int .i64 i, .slice (some ⟨vb, 0, none⟩) 1 1] W fun e w' => Laid1 W w' (some ⟨g, 0, none⟩) (l.take i ++ v :: l.drop i) e := by
  have hlen := u64s_length l
  obtain ⟨n, hn⟩ : ∃ n, n = l.length := ⟨_, rfl⟩
  obtain ⟨tB, kB, hsb, hkB⟩ := Row.shape h (by omega)
  obtain ⟨tA, kA, hsa, hfa, hfe⟩ : ∃ tA kA, W.shape? vb = some (tA, kA) ∧ W.frozen? ⟨vb, 0, none⟩ = false ∧ W.frozen? { block := vb, off := kA } = false := by
    obtain ⟨t, hb⟩ := hv
    exact ⟨t, 1, by unfold World.shape?; rw [hb]; rfl, by unfold World.frozen?; rw [hb]; rfl, by unfold World.frozen?; rw [hb]; rfl⟩
  have hov : ∀ lb cb, (callFunc 129 #[.slice (some ⟨vb, 0, none⟩) 1 1, .slice (some ⟨g, i + 1, none⟩) lb cb]).run Tryz.prog W = .ok (.value (.bool false)) W := fun lb cb => by
    rw [run_callFunc_extern Tryz.func129 (by kernel_rfl) (by kernel_rfl) (by kernel_rfl) (e := Extern.SlicesOverlaps.overlaps #[52, 52] #[4]) (by kernel_rfl),
      Lib.run_overlaps_apart W 52 4 23 Tryz.underlying52 1 (fun w => by kernel_rfl) ⟨vb, 0, none⟩ ⟨g, i + 1, none⟩ 1 1 lb cb hne tA tB kA kB hsa hsb hkB hfa hfe]
    rfl
  have hsz : (Tryz.prog.info? 23).map (·.size) = some 1 := by kernel_rfl
  have hcs : ∀ j u, (u64s l)[j]? = some u → W.cell? ⟨g, j, none⟩ = some u := fun j u hj => h.at' j u hj
  have h1c : ∀ m : List UInt64, ∀ u ∈ u64s m, u.oneCell' = true := fun m u hu => by
    unfold u64s at hu
    obtain ⟨x, _, rfl⟩ := List.mem_map.1 hu
    rfl
  have hdr : (u64s l).drop i = u64s (l.drop i) := by unfold u64s; rw [List.map_drop]
  have hdl : (u64s (l.drop i)).length = n - i := by rw [u64s_length, List.length_drop, hn]
  have r1 : Row (W.drew.setCells g (i + 1) (u64s (l.drop i))) g c (u64s (l.take (i + 1) ++ l.drop i)) := (h.drewN 1).setCells (i + 1) (u64s (l.drop i)) (by rw [hdl]; omega) _ (by rw [u64s_length, List.length_append, List.length_take, List.length_drop]; omega)
    (fun j hj => by
      unfold u64s
      rw [List.getElem?_map, List.getElem?_map, List.getElem?_append_right (by rw [List.length_take]; omega), List.length_take, show i + 1 + j - min (i + 1) l.length = j by omega])
    (fun j hj hh => by
      rw [u64s_length, List.length_append, List.length_take, List.length_drop] at hj
      rw [hdl] at hh
      have hji : j < i + 1 := by omega
      refine ⟨by rw [hlen]; omega, ?_⟩
      unfold u64s
      rw [List.getElem?_map, List.getElem?_map, List.getElem?_append_left (by rw [List.length_take]; omega), List.getElem?_take_of_lt hji])
  have o1 : Only g W (W.drew.setCells g (i + 1) (u64s (l.drop i))) := UK.Only.setCells _ _ (Only.refl g W).drew
  have hcp1 : ∀ ty dc sc, (Builtin.copy_ #[52, 52] ty #[.slice (some ⟨g, i + 1, none⟩) (n - i) dc, .slice (some ⟨g, i, none⟩) (n + 1 - i) sc]).run Tryz.prog W.drew = .ok (goInt (u64s (l.drop i)).length) (W.drew.setCells g (i + 1) (u64s (l.drop i))) := fun ty dc sc =>
    run_copy_cells W.drew _ _ ty 23 g (i + 1) (n - i) dc ⟨g, i, none⟩ (n + 1 - i) sc (u64s (l.drop i)) Tryz.underlying52 hsz (by rw [hdl]; simp only [Nat.min_def]; split <;> omega)
      (fun j u hj => by rw [UK.add_mk0]; exact hcs (i + j) u (by rw [← hdr, List.getElem?_drop] at hj; exact hj))
      (fun j hj => (h.there _ (by rw [hdl] at hj; omega)).1) (fun j hj => (h.there _ (by rw [hdl] at hj; omega)).2) (h1c _)
  generalize hW1 : W.drew.setCells g (i + 1) (u64s (l.drop i)) = W1 at r1 o1 hcp1
  have hv1 := hv.only o1 hne
  have hcp2 : ∀ ty dc, (Builtin.copy_ #[52, 52] ty #[.slice (some ⟨g, i, none⟩) (n + 1 - i) dc, .slice (some ⟨vb, 0, none⟩) 1 1]).run Tryz.prog W1 = .ok (goInt [Value.int .u64 (v.toNat : Int)].length) (W1.setCells g i [Value.int .u64 (v.toNat : Int)]) := fun ty dc =>
    run_copy_cells W1 _ _ ty 23 g i (n + 1 - i) dc ⟨vb, 0, none⟩ 1 1 [Value.int .u64 (v.toNat : Int)] Tryz.underlying52 hsz (by simp only [Nat.min_def, List.length_singleton]; split <;> omega)
      (fun j u hj => by
        have hj0 : j = 0 := by
          by_cases hc : j < 1
          · omega
          · rw [List.getElem?_eq_none (by simp; omega)] at hj; cases hj
        subst hj0
        rw [UK.add_mk0, Nat.zero_add, hv1.cell 0 _ rfl]; exact hj)
      (fun j hj => (r1.there _ (by simp at hj; omega)).1) (fun j hj => (r1.there _ (by simp at hj; omega)).2) (fun u hu => by
        obtain rfl := List.mem_singleton.1 hu
        rfl)
  have r2 : Row (W1.setCells g i [Value.int .u64 (v.toNat : Int)]) g c (u64s (l.take i ++ v :: l.drop i)) := r1.setCells i [Value.int .u64 (v.toNat : Int)] (by simp; omega) _ (by rw [u64s_length, List.length_append, List.length_take, List.length_cons, List.length_drop]; omega)
    (fun j hj => by
      have hj0 : j = 0 := by simpa using hj
      subst hj0
      unfold u64s
      rw [List.getElem?_map, List.getElem?_append_right (by rw [List.length_take]; omega), List.length_take, show i + 0 - min i l.length = 0 by omega]; rfl)
    (fun j hj hh => by
      rw [u64s_length, List.length_append, List.length_take, List.length_cons, List.length_drop] at hj
      simp only [List.length_singleton] at hh
      refine ⟨by rw [u64s_length, List.length_append, List.length_take, List.length_drop]; omega, ?_⟩
      unfold u64s
      rw [List.getElem?_map, List.getElem?_map]
      congr 1
      rcases hh with hh | hh
      · rw [List.getElem?_append_left (by rw [List.length_take]; omega), List.getElem?_append_left (by rw [List.length_take]; omega), List.getElem?_take_of_lt hh, List.getElem?_take_of_lt (by omega)]
      · rw [List.getElem?_append_right (by rw [List.length_take]; omega), List.getElem?_append_right (by rw [List.length_take]; omega), List.length_take, List.length_take, show j - min i l.length = (j - (i + 1)) + 1 by omega, List.getElem?_cons_succ, show j - min (i + 1) l.length = j - (i + 1) by omega])
  have o2 : Only g W (W1.setCells g i [Value.int .u64 (v.toNat : Int)]) := UK.Only.setCells _ _ o1
  have fin : Laid1 W (W1.setCells g i [Value.int .u64 (v.toNat : Int)]) (some ⟨g, 0, none⟩) (l.take i ++ v :: l.drop i) (.returned (.slice (some ⟨g, 0, none⟩) (n + 1) c)) :=
    ⟨g, c, by rw [List.length_append, List.length_take, List.length_cons, List.length_drop, show min i l.length + (l.length - i + 1) = n + 1 by omega], r2, o2, .inl rfl⟩
  have HF := Lib.hid fin
  have hz2 : ¬ ((i : Int) = (n : Int)) := by omega
  have hin : i ≤ n := by omega
  have hb3 : (i : Int) ≤ (n : Int) + 1 := by omega
  have hw1 : IntKind.i64.wrap ((i : Int) + 1) = (i : Int) + 1 := by rw [IntKind.wrap_i64]; omega
  have hw2 : IntKind.i64.wrap ((n : Int) + 1) = (n : Int) + 1 := by rw [IntKind.wrap_i64]; omega
  have hb1 : (0 : Int) ≤ (i : Int) + 1 := by omega
  have htn : ((i : Int) + 1).toNat = i + 1 := by omega
  have hb2 : ¬ (c = i + 1) := by omega
  have hb4 : ¬ (c = i) := by omega
  have hb5 : ((n : Int) + 1).toNat = n + 1 := by omega
  have hrm : ¬ ((c : Int) < (n : Int) + 1) := by omega
  rw [← hn] at hl hi hroom ⊢
  clear hn hW1 hlen
  clear fin r1 r2 o1 o2 hv hv1 h hcs h1c hdr hdl hsa hsb hfa hfe hsz
  have H2 := Lib.hid hcp2
  have H1 := Lib.hid hcp1
  clear hcp1 hcp2
  go_enter Tryz.func97, Tryz.ntmps97
  go_wp2_with (simp only [hov])
  go_region_law (refine step_copy_runI rfl _ _ 52 52 rfl (.slice (some ⟨g, i + 1, none⟩) (n - i) (c - (i + 1))) (.slice (some ⟨g, i, none⟩) (n + 1 - i) (c - i)) (by simp [Act.eval, Act.put]) (by simp [Act.eval, Act.put]) (H1.out 3 (c - (i + 1)) (c - i)) ?_)
  have hcp3 := H2.out 3 (c - i)
  go_wp2
  go_ret
  exact HF.out
set_option maxHeartbeats 4000000 in
set_option maxRecDepth 100000 in
theorem insert_grow {W : World} {g c vb i : Nat} {l : List UInt64} (h : Row W g c (u64s l)) (hl : l.length ≤ 1000) (hi : i < l.length) (hroom : c < l.length + 1) (v : UInt64) (hv : Box W vb #[.int .u64 (v.toNat : Int)]) :
    Calls Tryz.prog 97 #[.slice (some ⟨g, 0, none⟩) l.length c, .int .i64 i, .slice (some ⟨vb, 0, none⟩) 1 1] W fun e w' => Laid1 W w' (some ⟨g, 0, none⟩) (l.take i ++ v :: l.drop i) e := by
  have hlen := u64s_length l
  obtain ⟨n, hn⟩ : ∃ n, n = l.length := ⟨_, rfl⟩
  have hle := h.le
  rw [hlen] at hle
  have hsz : (Tryz.prog.info? 23).map (·.size) = some 1 := by kernel_rfl
  have h1c : ∀ m : List UInt64, ∀ u ∈ u64s m, u.oneCell' = true := fun m u hu => by
    unfold u64s at hu
    obtain ⟨x, _, rfl⟩ := List.mem_map.1 hu
    rfl
  have hdr : (u64s l).drop i = u64s (l.drop i) := by unfold u64s; rw [List.map_drop]
  have htk : (u64s l).take i = u64s (l.take i) := by unfold u64s; rw [List.map_take]
  have hdl : (u64s (l.drop i)).length = n - i := by rw [u64s_length, List.length_drop, hn]
  have htl : (u64s (l.take i)).length = i := by rw [u64s_length, List.length_take]; omega
  have r0 := h.take i
  rw [htk] at r0
  obtain ⟨c', W1, e1, r1, b1⟩ := UK.grow_zeros (P := Tryz.prog) (t := 52) (tn := 3) (ty := 52) (k := .i64) (kn := .i64) (i := Tryz.t23) Tryz.underlying52 Tryz.underlying3 rfl rfl rfl (show (8 : Nat) ≤ 16 by omega) rfl r0 (n + 1 - i) (by omega) (by rw [htl]; omega) (by rw [htl]; omega)
  rw [htl, show i + (n + 1 - i) = n + 1 by omega, show ((n + 1 - i : Nat) : Int) = (n : Int) + 1 - (i : Int) by omega] at e1
  have hb01 : Below W.heap.size W W1 := b1
  have rl1 : (u64s (l.take i) ++ List.replicate (n + 1 - i) (Value.int .u64 0)).length = n + 1 := by rw [List.length_append, htl, List.length_replicate]; omega
  have hc1 : n + 1 ≤ c' := by have := r1.le; omega
  have hv1 := hv.below hb01 hv.lt
  have hcp1 : ∀ ty dc, (Builtin.copy_ #[52, 52] ty #[.slice (some ⟨W.heap.size, i, none⟩) (n + 1 - i) dc, .slice (some ⟨vb, 0, none⟩) 1 1]).run Tryz.prog W1 = .ok (goInt [Value.int .u64 (v.toNat : Int)].length) (W1.setCells W.heap.size i [Value.int .u64 (v.toNat : Int)]) := fun ty dc =>
    run_copy_cells W1 _ _ ty 23 W.heap.size i (n + 1 - i) dc ⟨vb, 0, none⟩ 1 1 [Value.int .u64 (v.toNat : Int)] Tryz.underlying52 hsz (by simp only [Nat.min_def, List.length_singleton]; split <;> omega)
      (fun j u hj => by
        have hj0 : j = 0 := by
          by_cases hc : j < 1
          · omega
          · rw [List.getElem?_eq_none (by simp; omega)] at hj; cases hj
        subst hj0
        rw [UK.add_mk0, Nat.zero_add, hv1.cell 0 _ rfl]; exact hj)
      (fun j hj => (r1.there _ (by simp at hj; omega)).1) (fun j hj => (r1.there _ (by simp at hj; omega)).2) (fun u hu => by
        obtain rfl := List.mem_singleton.1 hu
        rfl)
  have r2 : Row (W1.setCells W.heap.size i [Value.int .u64 (v.toNat : Int)]) W.heap.size c' (u64s (l.take i) ++ Value.int .u64 (v.toNat : Int) :: List.replicate (n - i) (Value.int .u64 0)) := r1.setCells i [Value.int .u64 (v.toNat : Int)] (by simp; omega) _ (by rw [List.length_append, htl, List.length_cons, List.length_replicate]; omega)
    (fun j hj => by
      have hj0 : j = 0 := by simpa using hj
      subst hj0
      rw [List.getElem?_append_right (by rw [htl]; omega), htl, show i + 0 - i = 0 by omega]; rfl)
    (fun j hj hh => by
      rw [List.length_append, htl, List.length_cons, List.length_replicate] at hj
      simp only [List.length_singleton] at hh
      refine ⟨by rw [rl1]; omega, ?_⟩
      rcases hh with hh | hh
      · rw [List.getElem?_append_left (by rw [htl]; omega), List.getElem?_append_left (by rw [htl]; omega)]
      · rw [List.getElem?_append_right (by rw [htl]; omega), List.getElem?_append_right (by rw [htl]; omega), htl, show j - i = (j - (i + 1)) + 1 by omega, List.getElem?_cons_succ, show n + 1 - i = (n - i) + 1 by omega, List.replicate_succ, List.getElem?_cons_succ])
  have b2 : Below W.heap.size W (W1.setCells W.heap.size i [Value.int .u64 (v.toNat : Int)]) := hb01.trans ((UK.Only.setCells _ _ (Only.refl W.heap.size W1)).below hb01.size (Nat.le_refl _))
  generalize hW2 : W1.setCells W.heap.size i [Value.int .u64 (v.toNat : Int)] = W2 at r2 b2 hcp1
  have h2 := h.below b2 h.lt
  have hcp2 : ∀ ty dc sc, (Builtin.copy_ #[52, 52] ty #[.slice (some ⟨W.heap.size, i + 1, none⟩) (n - i) dc, .slice (some ⟨g, i, none⟩) (n - i) sc]).run Tryz.prog W2.drew = .ok (goInt (u64s (l.drop i)).length) (W2.drew.setCells W.heap.size (i + 1) (u64s (l.drop i))) := fun ty dc sc =>
    run_copy_cells W2.drew _ _ ty 23 W.heap.size (i + 1) (n - i) dc ⟨g, i, none⟩ (n - i) sc (u64s (l.drop i)) Tryz.underlying52 hsz (by rw [hdl]; simp only [Nat.min_def]; split <;> omega)
      (fun j u hj => by rw [UK.add_mk0]; exact h2.at' (i + j) u (by rw [← hdr, List.getElem?_drop] at hj; exact hj))
      (fun j hj => (r2.there _ (by rw [hdl] at hj; omega)).1) (fun j hj => (r2.there _ (by rw [hdl] at hj; omega)).2) (h1c _)
  have ef : u64s (l.take i ++ v :: l.drop i) = u64s (l.take i) ++ Value.int .u64 (v.toNat : Int) :: u64s (l.drop i) := by unfold u64s; rw [List.map_append, List.map_cons]
  have r3 : Row (W2.drew.setCells W.heap.size (i + 1) (u64s (l.drop i))) W.heap.size c' (u64s (l.take i ++ v :: l.drop i)) := by
    rw [ef]
    refine (r2.drewN 1).setCells (i + 1) (u64s (l.drop i)) (by rw [hdl]; omega) _ (by rw [List.length_append, htl, List.length_cons, hdl]; omega) (fun j hj => ?_) (fun j hj hh => ?_)
    · rw [List.getElem?_append_right (by rw [htl]; omega), htl, show i + 1 + j - i = j + 1 by omega, List.getElem?_cons_succ]
    · rw [List.length_append, htl, List.length_cons, hdl] at hj
      rw [hdl] at hh
      have hji : j < i + 1 := by omega
      refine ⟨by rw [List.length_append, htl, List.length_cons, List.length_replicate]; omega, ?_⟩
      by_cases e : j = i
      · subst e
        rw [List.getElem?_append_right (by rw [htl]; omega), List.getElem?_append_right (by rw [htl]; omega), htl, Nat.sub_self]; rfl
      · rw [List.getElem?_append_left (by rw [htl]; omega), List.getElem?_append_left (by rw [htl]; omega)]
  have b3 : Below W.heap.size W (W2.drew.setCells W.heap.size (i + 1) (u64s (l.drop i))) := b2.trans ((UK.Only.setCells _ _ (Only.refl W.heap.size W2).drew).below b2.size (Nat.le_refl _))
  have fin : Laid1 W (W2.drew.setCells W.heap.size (i + 1) (u64s (l.drop i))) (some ⟨g, 0, none⟩) (l.take i ++ v :: l.drop i) (.returned (.slice (some ⟨W.heap.size, 0, none⟩) (n + 1) c')) :=
    ⟨W.heap.size, c', by rw [List.length_append, List.length_take, List.length_cons, List.length_drop, show min i l.length + (l.length - i + 1) = n + 1 by omega], r3, Only.of_below b3, .inr (Nat.le_refl _)⟩
  have HF := Lib.hid fin
  have E1 := Lib.hid e1
  have H1 := Lib.hid hcp1
  have H2 := Lib.hid hcp2
  have hz2 : ¬ ((i : Int) = (n : Int)) := by omega
  have hin : i ≤ n := by omega
  have hb3 : (i : Int) ≤ (n : Int) + 1 := by omega
  have hw1 : IntKind.i64.wrap ((i : Int) + 1) = (i : Int) + 1 := by rw [IntKind.wrap_i64]; omega
  have hw2 : IntKind.i64.wrap ((n : Int) + 1) = (n : Int) + 1 := by rw [IntKind.wrap_i64]; omega
  have hw3 : IntKind.i64.wrap ((n : Int) + 1 - (i : Int)) = (n : Int) + 1 - (i : Int) := by rw [IntKind.wrap_i64]; omega
  have hb1 : (0 : Int) ≤ (i : Int) + 1 := by omega
  have htn : ((i : Int) + 1).toNat = i + 1 := by omega
  have hb2 : ¬ (c' = i + 1) := by omega
  have hb4 : ¬ (c = i) := by omega
  have hb5 : ¬ (c' = i) := by omega
  have hrm : (c : Int) < (n : Int) + 1 := by omega
  have hic : (i : Int) ≤ (c : Int) := by omega
  rw [← hn] at hl hi hroom hle ⊢
  clear fin r0 r1 r2 r3 b1 b2 b3 hb01 hv hv1 h h2 h1c hdr htk hdl htl hsz e1 hcp1 hcp2 hn hlen ef rl1 hW2
  go_enter Tryz.func97, Tryz.ntmps97
  have hcp3 := H1.out 3 (c' - i)
  go_wp2_with (at_builtin; refine UK.wpList_append_run E1.out rfl rfl rfl rfl rfl ?_)
  go_region_law (refine step_copy_runI rfl _ _ 52 52 rfl (.slice (some ⟨W.heap.size, i + 1, none⟩) (n - i) (c' - (i + 1))) (.slice (some ⟨g, i, none⟩) (n - i) (c - i)) (by simp [Act.eval, Act.put]) (by simp [Act.eval, Act.put]) (H2.out 3 (c' - (i + 1)) (c - i)) ?_)
  go_wp2
  go_ret
  exact HF.out
theorem insert_any {W : World} {ao : Option Addr} {c vb i : Nat} {l : List UInt64} (h : NR W ao c (u64s l)) (hl : l.length ≤ 1000) (hi : i ≤ l.length) (v : UInt64) (hv : Box W vb #[.int .u64 (v.toNat : Int)]) (hne : ¬ slB ao vb) :
    Calls Tryz.prog 97 #[.slice ao l.length c, .int .i64 i, .slice (some ⟨vb, 0, none⟩) 1 1] W fun e w' => Laid1 W w' ao (l.take i ++ v :: l.drop i) e := by
  by_cases e : i = l.length
  · subst e
    rw [List.take_length, List.drop_length]
    exact insert_end h hl v hv
  · rcases h with ⟨_, h0, _⟩ | ⟨g, rfl, r⟩
    · have := congrArg List.length h0
      rw [u64s_length] at this
      have : l.length = 0 := this
      omega
    · by_cases hr : l.length + 1 ≤ c
      · exact insert_shift r hl (by omega) hr v hv (fun e => hne (by rw [e]; rfl))
      · exact insert_grow r hl (by omega) (by omega) v hv
end Go.Proofs.YtfljlcfmdcepnaaGreatDoor
