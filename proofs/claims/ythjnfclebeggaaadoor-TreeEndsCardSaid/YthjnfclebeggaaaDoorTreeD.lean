/-
  The tree: a leaf is loaded, stored; a new one.
-/
import Derived.Test.YthjnfclebeggaaaDoorTreeC
namespace Go.Proofs.YthjnfclebeggaaaDoor
open Go.RowKit
open UK (str BytesAt nth Only Row Box w32)
open Go.BigFrame
/-- these bytes are a leaf's -/
def LeafY (y : List UInt8) (n : Nat) : Prop := nth y 0 = 1 ∧ (nth y 1).toNat = n ∧ n ≤ 30
/-- a node of one's own, between N and M -/
def NodeM (N M : Nat) (W : World) (nb : Nat) (x : Nd) (ka va aa : Option Addr) (kc vc ac : Nat) : Prop := NodeO N W nb x ka va aa kc vc ac ∧ nb < M ∧ ∀ g, slB ka g ∨ slB va g ∨ slB aa g → g < M
section
variable {E : Nat → Prop} {W W' : World} {P D T k pg n : Nat} {root : Int} {A : AP}
theorem nth_take504 (y : List UInt8) (i : Nat) (h : i < 504) : nth (y.take 504) i = nth y i := by
  unfold nth; rw [List.getD_eq_getElem?_getD, List.getD_eq_getElem?_getD, List.getElem?_take_of_lt h]
theorem g64_take (y : List UInt8) (o : Nat) (h : o + 8 ≤ 504) : g64 (y.take 504) o = g64 y o := by
  unfold g64
  rw [List.drop_take, List.take_take, List.drop_take, List.take_take, Nat.min_eq_left (by omega), Nat.min_eq_left (by omega)]
theorem keysL_take (y : List UInt8) (n : Nat) (hn : n ≤ 30) : keysL (y.take 504) n = keysL y n := by
  unfold keysL
  refine List.map_congr_left (fun i hi => ?_)
  have := List.mem_range.1 hi
  exact g64_take y _ (by omega)
theorem valsL_take (y : List UInt8) (n : Nat) (hn : n ≤ 30) : valsL (y.take 504) n = valsL y n := by
  unfold valsL
  refine List.map_congr_left (fun i hi => ?_)
  have := List.mem_range.1 hi
  exact g64_take y _ (by omega)
/-- a leaf that has been loaded -/
def Loaded (E : Nat → Prop) (W w' : World) (P D : Nat) (A : AP) (k pg n : Nat) (e : Ending) : Prop :=
  ∃ N M nb ka va kc vc, e = .returned (.tuple #[.pointer (some ⟨nb, 0, none⟩), .int .i64 0]) ∧ W.heap.size ≤ N ∧ M ≤ w'.heap.size ∧ NodeM N M w' nb { leaf := true, keys := keysL (A.c pg) n, vals := valsL (A.c pg) n, kids := [] } ka va none kc vc 0 ∧ PZ (fun j => E j ∨ (N ≤ j ∧ j < M)) w' P D A k ∧ Kept E W w'
set_option maxRecDepth 100000 in
theorem load_leaf (h : PZ E W P D A k) (hk : k + 2 < 900000000) (hb : Box W T #[.pointer (some ⟨P, 0, none⟩), .int .i64 root]) (hp : A.Has pg) (hy : LeafY (A.c pg) n) :
    Calls Tryd.prog 69 #[.pointer (some ⟨T, 0, none⟩), .int .i64 pg] W fun e w' => Loaded E W w' P D A (k + 2) pg n e := by
  have c0 : W.cell? ⟨T, 0, none⟩ = some (.pointer (some ⟨P, 0, none⟩)) := hb.cell 0 _ rfl
  have HP := Lib.hid (pz_pin h hk pg hp)
  clear h hb
  go_enter_defers Tryd.func69, Tryd.ntmps69
  go_wp2_with fail
  refine HP.out.mono ?_
  rintro e w1 ⟨fb, db, cap, rfl, p1, k1⟩
  have HB := Lib.hid (pf_bytes p1)
  obtain ⟨y, y1, y2, y3, y4, y5⟩ := p1.bytes
  obtain ⟨h0, h1, h2⟩ := hy
  rw [← y3] at h0 h1
  rw [nth_take504 _ _ (by omega)] at h0 h1
  have hD := decode_leaf y1 y2 y4 h0 h1 h2
  have hky := keysL_take y n h2
  have hvy := valsL_take y n h2
  rw [y3] at hky hvy
  rw [← hky, ← hvy] at hD
  have HD := Lib.hid hD
  have H1 := Lib.hid (And.intro p1 k1)
  clear HP p1 k1 y1 y2 y3 y4 y5 h0 h1 hky hvy hD c0
  go_wp2_with fail
  refine HB.out.mono ?_
  rintro e w2 ⟨rfl, rfl⟩
  go_wp2_with fail
  refine HD.out.mono ?_
  rintro e w3 ⟨nb, ka, va, kc, vc, rfl, hn, hbl⟩
  obtain ⟨p1, k1⟩ := H1.out
  have hlt : ∀ g, slB ka g ∨ slB va g ∨ slB none g → g < w3.heap.size := fun g hg => by
    rcases hg with h | h | h
    · exact hn.k.lt h
    · exact hn.v.lt h
    · cases h
  have hnb := hn.box.lt
  have p3 := p1.wide hbl (T := fun j => E j ∨ (w2.heap.size ≤ j ∧ j < w3.heap.size)) (fun j hj => hj)
  have k3 := k1.trans (p1.kept hbl)
  have hs2 := k1.size
  have HU := Lib.hid (pf_unpin_d .returning p3)
  have HN := Lib.hid (And.intro hn (And.intro hlt (And.intro hnb (And.intro k3 hs2))))
  clear HB HD H1 p1 k1 hn hbl hlt hnb p3 k3 hs2
  go_wp2
  refine leaves_cons (f := 33) (args := #[.pointer (some ⟨fb, 0, none⟩)]) (by simp) (by simp [go_sem]) ?_
  refine HU.out.mono ?_
  rintro e u' w4 ⟨rfl, rfl, p4, k4⟩
  obtain ⟨hn, hlt, hnb, k3, hs2⟩ := HN.out
  refine ⟨_, results_tmp2 rfl _ _ _, ?_⟩
  refine ⟨w2.heap.size, w3.heap.size, nb, ka, va, kc, vc, rfl, hs2, k4.size, ⟨hn.of_block k4.size (fun g h1 h2 => k4.block g (.inr ⟨h1, h2⟩)), hnb, hlt⟩, p4, k3.trans (k4.mono (fun j hj => .inl hj))⟩
theorem Win.kept {v : Value} {vs : List Value} (h : Win E W v vs) (hk : Kept E W W') : Win E W' v vs := by
  obtain ⟨ao, c, a, b, d⟩ := h
  refine ⟨ao, c, a, b, fun j u hj => ?_⟩
  obtain ⟨g, o, e1, e2, e3⟩ := d j u hj
  exact ⟨g, o, e1, e2, (World.cell?_of_block (a := ⟨g, o + j, none⟩) (hk.block g e2)).trans e3⟩
theorem NodeR.kept {nb : Nat} {x : Nd} (h : NodeR E W nb x) (hk : Kept E W W') : NodeR E W' nb x := by
  obtain ⟨kv, vv, av, b, hb, h1, h2, h3⟩ := h
  exact ⟨kv, vv, av, b.of_block (hk.block nb hb), hb, h1.kept hk, h2.kept hk, h3.kept hk⟩
theorem wr_take (x : List UInt8) (a n : Nat) (s : List UInt8) (h : a + s.length ≤ n) (hn : n ≤ x.length) : (UK.wr x a s).take n = UK.wr (x.take n) a s := by
  unfold UK.wr
  rw [List.take_append, List.length_take, Nat.min_eq_left (by omega), List.take_of_length_le (by rw [List.length_take]; omega), List.take_append, List.take_of_length_le (l := s) (by omega), List.take_take, Nat.min_eq_left (by omega), List.drop_take, show n - a - s.length = n - (a + s.length) by omega]
theorem encLeaf_take (y : List UInt8) (ks vs : List UInt64) (hk : ks.length ≤ 30) (hv : vs.length = ks.length) (hy : 504 ≤ y.length) : (encLeaf y ks vs).take 504 = encLeaf (y.take 504) ks vs := by
  unfold encLeaf
  rw [wr_take _ _ _ _ (by rw [leafB_length _ _ hv]; omega) (by rw [List.length_set, List.length_set]; exact hy), List.take_set, List.take_set]
theorem encLeaf_length (y : List UInt8) (ks vs : List UInt64) (hk : ks.length ≤ 30) (hv : vs.length = ks.length) (hy : 504 ≤ y.length) : (encLeaf y ks vs).length = y.length := by
  unfold encLeaf
  rw [UK.wr_length _ _ _ (by rw [leafB_length _ _ hv, List.length_set, List.length_set]; omega), List.length_set, List.length_set]
/-- a page that has been laid anew -/
def AP.wrote (A : AP) (pg : Nat) (s : List UInt8) : AP := (A.keep pg).put pg s
set_option maxRecDepth 100000 in
theorem store_leaf {nb : Nat} {x : Nd} (h : PZ E W P D A k) (hk : k + 3 < 900000000) (hb : Box W T #[.pointer (some ⟨P, 0, none⟩), .int .i64 root]) (hp : A.Has pg) (hn : NodeR E W nb x) (hl : x.leaf = true) (hx : x.keys.length ≤ 30) (hv : x.vals.length = x.keys.length) :
    Calls Tryd.prog 71 #[.pointer (some ⟨T, 0, none⟩), .int .i64 pg, .pointer (some ⟨nb, 0, none⟩)] W fun e w' => e = .returned (.int .i64 0) ∧ PZ E w' P D (A.wrote pg (encLeaf (A.c pg) x.keys x.vals)) (k + 3) ∧ Kept E W w' := by
  have c0 : W.cell? ⟨T, 0, none⟩ = some (.pointer (some ⟨P, 0, none⟩)) := hb.cell 0 _ rfl
  have HP := Lib.hid (pz_pin h (by omega) pg hp)
  clear h hb
  go_enter_defers Tryd.func71, Tryd.ntmps71
  go_wp2_with fail
  refine HP.out.mono ?_
  rintro e w1 ⟨fb, db, cap, rfl, p1, k1⟩
  have HE := Lib.hid (pf_edit p1 (by omega))
  have HN1 := Lib.hid (And.intro (hn.kept k1) k1)
  clear HP p1 k1 c0 hn
  go_wp2_with fail
  refine HE.out.mono ?_
  rintro e w2 ⟨rfl, p2, k2⟩
  obtain ⟨hn1, k1⟩ := HN1.out
  have hn2 := hn1.kept k2
  obtain ⟨y, y1, y2, y3, y4, y5⟩ := p2.bytes
  have HX := Lib.hid (encode_leaf hn2 hl hx hv y1 y2 y4 y5)
  have hy3 : y.take 504 = A.c pg := y3
  have htk := encLeaf_take y x.keys x.vals hx hv (by omega)
  rw [hy3] at htk
  have hle := encLeaf_length y x.keys x.vals hx hv (by omega)
  have H2 := Lib.hid (And.intro p2 (And.intro (k1.trans k2) (And.intro htk (hle.trans y2))))
  clear HE HN1 hn1 hn2 k1 k2 p2 y1 y2 y3 y4 y5 hy3 htk hle
  go_wp2_with fail
  refine HX.out.mono ?_
  rintro e w3 ⟨rfl, b3, o3⟩
  obtain ⟨p2, k2, htk, hle⟩ := H2.out
  obtain ⟨p3, k3⟩ := p2.write o3 b3 hle
  rw [htk] at p3
  have HU := Lib.hid (pf_unpin_d .returning p3)
  have K3 := Lib.hid (k2.trans k3)
  clear HX H2 p2 k2 htk hle p3 k3 b3 o3
  go_wp2
  refine leaves_cons (f := 33) (args := #[.pointer (some ⟨fb, 0, none⟩)]) (by simp) (by simp [go_sem]) ?_
  refine HU.out.mono ?_
  rintro e u' w4 ⟨rfl, rfl, p4, k4⟩
  refine ⟨_, results_tmp rfl _ _ _, rfl, p4, K3.out.trans k4⟩
set_option maxRecDepth 100000 in
/-- a new page is a leaf -/
theorem fresh_leaf {nb : Nat} {x : Nd} (h : PZ E W P D A k) (hk : k + 3 < 900000000) (hb : Box W T #[.pointer (some ⟨P, 0, none⟩), .int .i64 root]) (hf : ¬ A.Full) (hn : NodeR E W nb x) (hl : x.leaf = true) (hx : x.keys.length ≤ 30) (hv : x.vals.length = x.keys.length) :
    Calls Tryd.prog 70 #[.pointer (some ⟨T, 0, none⟩), .pointer (some ⟨nb, 0, none⟩)] W fun e w' => e = .returned (.tuple #[.int .i64 A.next, .int .i64 0]) ∧ PZ E w' P D (A.take.wrote A.next (encLeaf (UK.zeros 504) x.keys x.vals)) (k + 3) ∧ Kept E W w' := by
  have c0 : W.cell? ⟨T, 0, none⟩ = some (.pointer (some ⟨P, 0, none⟩)) := hb.cell 0 _ rfl
  have HP := Lib.hid (pz_take h (by omega) hf)
  clear h hb
  go_enter_defers Tryd.func70, Tryd.ntmps70
  go_wp2_with fail
  refine HP.out.mono ?_
  rintro e w1 ⟨fb, db, cap, rfl, p1, k1⟩
  have HE := Lib.hid (pf_edit p1 (by omega))
  have HN1 := Lib.hid (And.intro (hn.kept k1) k1)
  clear HP p1 k1 c0 hn
  go_wp2_with fail
  refine HE.out.mono ?_
  rintro e w2 ⟨rfl, p2, k2⟩
  obtain ⟨hn1, k1⟩ := HN1.out
  have hn2 := hn1.kept k2
  obtain ⟨y, y1, y2, y3, y4, y5⟩ := p2.bytes
  have HX := Lib.hid (encode_leaf hn2 hl hx hv y1 y2 y4 y5)
  have hy3 : y.take 504 = UK.zeros 504 := y3.trans (by show setC A.c A.next (UK.zeros 504) A.next = _; unfold setC; rw [if_pos rfl])
  have htk := encLeaf_take y x.keys x.vals hx hv (by omega)
  rw [hy3] at htk
  have hle := encLeaf_length y x.keys x.vals hx hv (by omega)
  have H2 := Lib.hid (And.intro p2 (And.intro (k1.trans k2) (And.intro htk (hle.trans y2))))
  clear HE HN1 hn1 hn2 k1 k2 p2 y1 y2 y3 y4 y5 hy3 htk hle
  go_wp2_with fail
  refine HX.out.mono ?_
  rintro e w3 ⟨rfl, b3, o3⟩
  obtain ⟨p2, k2, htk, hle⟩ := H2.out
  obtain ⟨p3, k3⟩ := p2.write o3 b3 hle
  rw [htk] at p3
  have HG := Lib.hid (pf_page p3)
  have HU := Lib.hid (pf_unpin_d .returning p3)
  have K3 := Lib.hid (k2.trans k3)
  clear HX H2 p2 k2 htk hle p3 k3 b3 o3
  go_wp2_with fail
  refine HG.out.mono ?_
  rintro e w4 ⟨rfl, rfl⟩
  go_wp2
  refine leaves_cons (f := 33) (args := #[.pointer (some ⟨fb, 0, none⟩)]) (by simp) (by simp [go_sem]) ?_
  refine HU.out.mono ?_
  rintro e u' w4 ⟨rfl, rfl, p4, k4⟩
  refine ⟨_, results_tmp2 rfl _ _ _, rfl, p4, K3.out.trans k4⟩
set_option maxRecDepth 100000 in
theorem tree_new (h : PZ E W P D A k) (hk : k + 3 < 900000000) (hf : ¬ A.Full) :
    Calls Tryd.prog 67 #[.pointer (some ⟨P, 0, none⟩)] W fun e w' => ∃ T N M, e = .returned (.tuple #[.pointer (some ⟨T, 0, none⟩), .int .i64 0]) ∧ Box w' T #[.pointer (some ⟨P, 0, none⟩), .int .i64 A.next] ∧ W.heap.size ≤ N ∧ N ≤ T ∧ T < M ∧ PZ (fun j => E j ∨ (N ≤ j ∧ j < M)) w' P D (A.take.wrote A.next (encLeaf (UK.zeros 504) [] [])) (k + 3) ∧ Kept E W w' := by
  have HP := Lib.hid (pz_take h (by omega) hf)
  clear h
  go_enter_defers Tryd.func67, Tryd.ntmps67
  go_wp2_with fail
  refine HP.out.mono ?_
  rintro e w1 ⟨fb, db, cap, rfl, p1, k1⟩
  have HG := Lib.hid (pf_page p1)
  have H1 := Lib.hid (And.intro p1 k1)
  clear HP p1 k1
  go_wp2_with fail
  refine HG.out.mono ?_
  rintro e w2 ⟨rfl, rfl⟩
  obtain ⟨p1, k1⟩ := H1.out
  have ba : Below w2.heap.size w2 (w2.alloc (.cells #[.pointer (some ⟨P, 0, none⟩), .int .i64 A.next] 117)) := (Below.refl _ _).alloc (Nat.le_refl _) _
  have sz : (w2.alloc (.cells #[.pointer (some ⟨P, 0, none⟩), .int .i64 A.next] 117)).heap.size = w2.heap.size + 1 := by simp
  have p3 := p1.wide ba (T := fun j => E j ∨ (w2.heap.size ≤ j ∧ j < w2.heap.size + 1)) (fun j hj => by rw [sz]; exact hj)
  have k3 := k1.trans (p1.kept ba)
  have bx := Box.new w2 #[.pointer (some ⟨P, 0, none⟩), .int .i64 A.next] 117
  have HE := Lib.hid (pf_edit p3 (by omega))
  have hs1 := k1.size
  have H3 := Lib.hid (And.intro k3 (And.intro bx hs1))
  clear HG H1 p1 k1 ba p3 k3 bx sz hs1
  go_wp2_with fail
  refine HE.out.mono ?_
  rintro e w4 ⟨rfl, p4, k4⟩
  obtain ⟨k3, bx, hs1⟩ := H3.out
  have b5 : Below w4.heap.size w4 (w4.alloc (.cells #[.bool true, .slice none 0 0, .slice none 0 0, .slice none 0 0] 125)) := (Below.refl _ _).alloc (Nat.le_refl _) _
  have p5 := p4.next b5
  obtain ⟨y, y1, y2, y3, y4, y5⟩ := p5.bytes
  have hdb : db < w4.heap.size := by
    obtain ⟨y', q1, _⟩ := p4.bytes
    exact q1.lt
  have hnr : NodeR (fun j => j = w4.heap.size) (w4.alloc (.cells #[.bool true, .slice none 0 0, .slice none 0 0, .slice none 0 0] 125)) w4.heap.size { leaf := true, keys := [], vals := [], kids := [] } :=
    ⟨.slice none 0 0, .slice none 0 0, .slice none 0 0, Box.new w4 _ _, rfl, ⟨none, 0, rfl, Nat.le_refl _, fun j u hj => by cases hj⟩, ⟨none, 0, rfl, Nat.le_refl _, fun j u hj => by cases hj⟩, ⟨none, 0, rfl, Nat.le_refl _, fun j u hj => by cases hj⟩⟩
  have HX := Lib.hid (encode_leaf hnr rfl (by decide) rfl y1 y2 y4 (by show ¬ db = w4.heap.size; omega))
  have hy3 : y.take 504 = UK.zeros 504 := y3.trans (by show setC A.c A.next (UK.zeros 504) A.next = _; unfold setC; rw [if_pos rfl])
  have htk := encLeaf_take y [] [] (by decide) rfl (by omega)
  rw [hy3] at htk
  have hle := encLeaf_length y [] [] (by decide) rfl (by omega)
  have hbx4 := bx.of_block (k4.block _ (.inr ⟨Nat.le_refl _, Nat.lt_succ_self _⟩))
  have H5 := Lib.hid (And.intro p5 (And.intro ((k3.trans (k4.mono (fun j hj => .inl hj))).trans ((p4.kept b5).mono (fun j hj => .inl hj))) (And.intro htk (And.intro (hle.trans y2) (And.intro (hbx4.next b5) hs1)))))
  clear HE H3 k3 bx p4 k4 b5 p5 y1 y2 y3 y4 y5 hnr hy3 htk hle hbx4 hs1 hdb
  go_wp2_with fail
  refine HX.out.mono ?_
  rintro e w6 ⟨rfl, b6, o6⟩
  obtain ⟨p5, k5, htk, hle, bx5, hs1⟩ := H5.out
  obtain ⟨p6, k6⟩ := p5.write o6 b6 hle
  rw [htk] at p6
  have HU := Lib.hid (pf_unpin_d .returning p6)
  have H6 := Lib.hid (And.intro (k5.trans (k6.mono (fun j hj => .inl hj))) (And.intro (bx5.of_block (k6.block _ (.inr ⟨Nat.le_refl _, Nat.lt_succ_self _⟩))) hs1))
  clear HX H5 p5 k5 htk hle bx5 p6 k6 b6 o6 hs1
  go_wp2
  refine leaves_cons (f := 33) (args := #[.pointer (some ⟨fb, 0, none⟩)]) (by simp) (by simp [go_sem]) ?_
  refine HU.out.mono ?_
  rintro e u' w7 ⟨rfl, rfl, p7, k7⟩
  obtain ⟨k6, bx6, hs1⟩ := H6.out
  refine ⟨_, results_tmp2 rfl _ _ _, ?_⟩
  exact ⟨w2.heap.size, w2.heap.size, w2.heap.size + 1, rfl, bx6.of_block (k7.block _ (.inr ⟨Nat.le_refl _, Nat.lt_succ_self _⟩)), hs1, Nat.le_refl _, Nat.lt_succ_self _, p7, k6.trans (k7.mono (fun j hj => .inl hj))⟩
end
end Go.Proofs.YthjnfclebeggaaaDoor
