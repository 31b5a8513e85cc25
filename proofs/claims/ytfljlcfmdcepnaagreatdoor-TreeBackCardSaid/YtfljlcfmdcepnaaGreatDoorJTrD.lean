/-
  A page above others: encode.
  A page above others: decode; any page.
  The tree: any page is loaded, stored; a new one.
-/
import Derived.Test.YtfljlcfmdcepnaaGreatDoorJTrA
import Derived.Test.YtfljlcfmdcepnaaGreatDoorJTreeN
import Derived.Test.YtfljlcfmdcepnaaGreatDoorJTrW
namespace Go.Proofs.YtfljlcfmdcepnaaGreatDoor
open Go.RowKit
open UK (str BytesAt nth Only)
theorem kidsB_snoc {l : List Nat} {j k : Nat} (h : l[j]? = some k) : kidsB (l.take (j + 1)) = kidsB (l.take j) ++ putL (UInt32.ofNat k) := by
  unfold kidsB
  rw [List.take_add_one, h]
  simp
theorem midB_snoc {l : List UInt64} {j : Nat} {k : UInt64} (h : l[j]? = some k) : midB (l.take (j + 1)) = midB (l.take j) ++ b64 k := by
  unfold midB
  rw [List.take_add_one, h]
  simp
theorem kids_is (l : List Nat) (i k : Nat) (h : l[i]? = some k) : (ints l)[i]? = some (.int .i64 (k : Int)) := by unfold ints; rw [List.getElem?_map, h]; rfl
set_option maxHeartbeats 1000000 in
set_option maxRecDepth 100000 in
theorem encode_inner {S : Nat → Prop} {W : World} {nb db cap : Nat} {y : List UInt8} {x : Nd} (h : NodeR S W nb x) (hl : x.leaf = false) (hk : x.kids.length ≤ 40) (hn : x.keys.length ≤ 42) (hkb : ∀ k ∈ x.kids, k < 4294967296) (hy : BytesAt W db y) (hyl : y.length = cap) (hc : 504 ≤ cap) (hS : ¬ S db) :
    Calls Tryz.prog 73 #[.slice (some ⟨db, 0, none⟩) 504 cap, .pointer (some ⟨nb, 0, none⟩)] W fun e w' => e = .returned (.tuple #[]) ∧ BytesAt w' db (encInner y x.keys x.kids) ∧ Only db W w' := by
  obtain ⟨kv, vv, av, hb, hnb, ⟨ka, kc, rfl, hkc, hkk⟩, _, ⟨aa, ac, rfl, hac, haa⟩⟩ := h
  rw [u64s_length, ints_length, hl] at hb
  rw [u64s_length] at hkc
  rw [ints_length] at hac
  have c0 : W.cell? ⟨nb, 0, none⟩ = some (.bool false) := hb.cell 0 _ rfl
  have c3 : W.cell? ⟨nb, 3, none⟩ = some (.slice aa x.kids.length ac) := hb.cell 3 _ rfl
  have hne : nb ≠ db := fun e => hS (e ▸ hnb)
  have d0 := hy.cell (i := 0) (by omega)
  have d1 := hy.cell (i := 1) (by omega)
  have f0 := hy.free (i := 0) (by omega)
  have f1 := hy.free (i := 1) (by omega)
  have he : ((UInt8.ofNat x.kids.length).toNat : Int) = x.kids.length := by rw [UInt8.toNat_ofNat']; omega
  have h2 := (hy.set 0 2).set 1 (UInt8.ofNat x.kids.length)
  have o2 := ((Only.refl db W).set 0 (.int .u8 ((2 : UInt8).toNat : Int))).set 1 (.int .u8 ((UInt8.ofNat x.kids.length).toNat : Int))
  rw [he, show ((2 : UInt8).toNat : Int) = 2 from rfl] at h2 o2
  have H2 := Lib.hid (And.intro h2 o2)
  have HB := Lib.hid hb
  have HKB := Lib.hid hkb
  clear he h2 o2 hb hkb
  go_enter Tryz.func73, Tryz.ntmps73
  go_wp2_with fail
  obtain ⟨hb2, ho2⟩ := H2.out
  have hy2 : ((y.set 0 2).set 1 (UInt8.ofNat x.kids.length)).length = cap := by rw [List.length_set, List.length_set]; exact hyl
  generalize hyy : (y.set 0 2).set 1 (UInt8.ofNat x.kids.length) = y2 at hb2 hy2
  have HYY := Lib.hid hyy
  clear hyy H2
  go_loopw [70] (fun ix wr => ∃ j : Nat, ix = .int .i64 j ∧ j ≤ x.kids.length ∧ BytesAt wr db (UK.wr y2 4 (kidsB (x.kids.take j))) ∧ Only db W wr) (fun ix _ => 50 - (intOf ix).toNat)
  case atStart => exact ⟨0, rfl, Nat.zero_le _, by rw [List.take_zero]; show BytesAt _ _ (UK.wr y2 4 []); rw [UK.wr_nil]; exact hb2, ho2⟩
  case round =>
    clear hb2 ho2 hy c0 c3 d0 d1 f0 f1
    obtain ⟨j, rfl, hj, hb, ho⟩ := hrel
    by_cases hlt : j < x.kids.length
    · obtain ⟨kx, hkx⟩ : ∃ k, x.kids[j]? = some k := ⟨_, List.getElem?_eq_getElem hlt⟩
      obtain ⟨g, o, rfl, hg, ck⟩ := haa j _ (kids_is _ _ _ hkx)
      have hgd : g ≠ db := fun e => hS (e ▸ hg)
      replace ck := ho.cell ck hgd
      have hlb : (kidsB (x.kids.take j)).length = 4 * j := by rw [kidsB_length, List.length_take]; omega
      have hw1 : (UK.wr y2 4 (kidsB (x.kids.take j))).length = cap := by rw [UK.wr_length _ _ _ (by omega)]; exact hy2
      have ha1 := UK.wr_after y2 4 (kidsB (x.kids.take j)) (putL (UInt32.ofNat kx)) (by omega)
      rw [hlb, ← kidsB_snoc hkx] at ha1
      have hk32 : kx < 4294967296 := HKB.out kx (List.mem_of_getElem? hkx)
      have hku : ((UInt32.ofNat kx).toNat : Int) = (kx : Int) := by rw [UInt32.toNat_ofNat']; omega
      have P1 := put_u32 hb (4 + 4 * j) (504 - (4 + 4 * j)) (cap - (4 + 4 * j)) (by omega) (by omega) (by omega) (UInt32.ofNat kx)
      rw [ha1, hku] at P1
      have HP1 := Lib.hid P1
      have HO := Lib.hid ho
      have hk0 : (0 : Int) ≤ (kx : Int) := by omega
      have hk1 : (kx : Int) < 4294967296 := by omega
      clear P1 ha1 hw1 hlb hkk haa hkx hb ho hku
      go_wp2_with fail
      refine HP1.out.mono ?_
      rintro e w1 ⟨rfl, b1, o1⟩
      have HF := Lib.hid (And.intro b1 (HO.out.trans o1))
      clear HP1 HO b1 o1 ck
      go_wp2
      go_roundw
      case rel => exact ⟨j + 1, by go_num, by omega, HF.out.1, HF.out.2⟩
      case measure => simp [intOf]; omega
    · obtain rfl : j = x.kids.length := by omega
      rw [List.take_length] at hb
      have hkl : (kidsB x.kids).length = 4 * x.kids.length := kidsB_length _
      have hy3 : (UK.wr y2 4 (kidsB x.kids)).length = cap := by rw [UK.wr_length _ _ _ (by omega)]; exact hy2
      have c1 : wr.cell? ⟨nb, 1, none⟩ = some (.slice ka x.keys.length kc) := ho.cell (HB.out.cell 1 _ rfl) hne
      generalize hz : UK.wr y2 4 (kidsB x.kids) = y3 at hb hy3
      have HZ := Lib.hid hz
      clear hz hkl
      go_wp2_with fail
      go_loopw [89] (fun ix wr' => ∃ j : Nat, ix = .int .i64 j ∧ j ≤ x.keys.length ∧ BytesAt wr' db (UK.wr y3 164 (midB (x.keys.take j))) ∧ Only db W wr') (fun ix _ => 50 - (intOf ix).toNat)
      case atStart => exact ⟨0, rfl, Nat.zero_le _, by rw [List.take_zero]; show BytesAt _ _ (UK.wr y3 164 []); rw [UK.wr_nil]; exact hb, ho⟩
      case round =>
        clear hb ho c1
        obtain ⟨j, rfl, hj2, hb, ho⟩ := hrel
        by_cases hlt2 : j < x.keys.length
        · obtain ⟨kx, hkx⟩ : ∃ k, x.keys[j]? = some k := ⟨_, List.getElem?_eq_getElem hlt2⟩
          obtain ⟨g, o, rfl, hg, ck⟩ := hkk j _ (u64s_at _ _ _ hkx)
          have hgd : g ≠ db := fun e => hS (e ▸ hg)
          replace ck := ho.cell ck hgd
          have hlb : (midB (x.keys.take j)).length = 8 * j := by rw [midB_length, List.length_take]; omega
          have hw1 : (UK.wr y3 164 (midB (x.keys.take j))).length = cap := by rw [UK.wr_length _ _ _ (by omega)]; exact hy3
          have ha1 := UK.wr_after y3 164 (midB (x.keys.take j)) (b64 kx) (by omega)
          rw [hlb, ← midB_snoc hkx] at ha1
          have P1 := put_u64 hb (164 + 8 * j) (504 - (164 + 8 * j)) (cap - (164 + 8 * j)) (by omega) (by omega) (by omega) (by omega) kx
          rw [show putL (UK.lo32 kx) ++ putL (UK.hi32 kx) = b64 kx from rfl, ha1] at P1
          have HP1 := Lib.hid P1
          have HO := Lib.hid ho
          clear P1 ha1 hw1 hlb hkk haa hkx hb ho
          go_wp2_with fail
          refine HP1.out.mono ?_
          rintro e w1 ⟨rfl, b1, o1⟩
          have HF := Lib.hid (And.intro b1 (HO.out.trans o1))
          clear HP1 HO b1 o1 ck
          go_wp2
          go_roundw
          case rel => exact ⟨j + 1, by go_num, by omega, HF.out.1, HF.out.2⟩
          case measure => simp [intOf]; omega
        · obtain rfl : j = x.keys.length := by omega
          rw [List.take_length] at hb
          go_wp2
          refine bodyPost_end (results_none rfl _ _ _) rfl ?_
          refine ⟨rfl, ?_, ho⟩
          unfold encInner
          rw [HYY.out, HZ.out]
          exact hb
theorem encode_any {S : Nat → Prop} {W : World} {nb db cap : Nat} {y : List UInt8} {x : Nd} (h : NodeR S W nb x) (hx : Fits x) (hy : BytesAt W db y) (hyl : y.length = cap) (hc : 504 ≤ cap) (hS : ¬ S db) :
    Calls Tryz.prog 73 #[.slice (some ⟨db, 0, none⟩) 504 cap, .pointer (some ⟨nb, 0, none⟩)] W fun e w' => e = .returned (.tuple #[]) ∧ BytesAt w' db (encN y x) ∧ Only db W w' := by
  unfold encN
  cases hl : x.leaf with
  | true =>
    obtain ⟨h1, h2, _⟩ := hx.leaf hl
    rw [if_pos rfl]
    exact encode_leaf h hl h1 h2 hy hyl hc hS
  | false =>
    obtain ⟨h1, h2, h3, _, h5⟩ := hx.inner hl
    rw [if_neg (by decide)]
    exact encode_inner h hl h3 (by omega) h5 hy hyl hc hS
end Go.Proofs.YtfljlcfmdcepnaaGreatDoor
namespace Go.Proofs.YtfljlcfmdcepnaaGreatDoor
open Go.RowKit
open UK (str BytesAt nth Only Row Box)
theorem kidsL_length (y : List UInt8) (n : Nat) : (kidsL y n).length = n := by simp [kidsL]
theorem midL_length (y : List UInt8) (n : Nat) : (midL y n).length = n := by simp [midL]
theorem kidsL_snoc (y : List UInt8) (n : Nat) : kidsL y (n + 1) = kidsL y n ++ [kidAt y n] := by simp [kidsL, List.range_succ]
theorem midL_snoc (y : List UInt8) (n : Nat) : midL y (n + 1) = midL y n ++ [g64 y (164 + 8 * n)] := by simp [midL, List.range_succ]
set_option maxRecDepth 100000 in
theorem push_int {W : World} {ao : Option Addr} {c : Nat} {l : List Nat} (h : NR W ao c (ints l)) (hl : l.length < 1000000) (v : Nat) :
    ∃ g' c' W', (Builtin.append_ #[82, 82] 82 #[.slice ao l.length c, .slice (some ⟨W.heap.size, 0, none⟩) 1 1]).run Tryz.prog (W.alloc (.cells #[.int .i64 (v : Int)] 3)) = .ok (.slice (some ⟨g', 0, none⟩) (l.length + 1) c') W' ∧ Row W' g' c' (ints (l ++ [v])) ∧ Only g' W W' ∧ (slB ao g' ∨ W.heap.size ≤ g') := by
  have hlen : (ints l).length = l.length := ints_length l
  obtain ⟨g', c', W', e, r, o, hg⟩ := UK.push_one (P := Tryz.prog) (t := 82) (ty := 82) Tryz.underlying82 (i := Tryz.t3) rfl rfl rfl (show (8 : Nat) ≤ 16 by omega) rfl h (.int .i64 (v : Int)) rfl (by rw [hlen]; omega)
  rw [hlen] at e
  exact ⟨g', c', W', e, by unfold ints at *; rw [List.map_append]; exact r, o, hg⟩
def Decoded (W w' : World) (x : Nd) (e : Ending) : Prop := ∃ nb ka va aa kc vc ac, e = .returned (.tuple #[.pointer (some ⟨nb, 0, none⟩), .int .i64 0]) ∧ NodeO W.heap.size w' nb x ka va aa kc vc ac ∧ Below W.heap.size W w'
set_option maxHeartbeats 1000000 in
set_option maxRecDepth 100000 in
theorem decode_inner {W : World} {db cap n : Nat} {y : List UInt8} (hy : BytesAt W db y) (hyl : y.length = cap) (hc : 504 ≤ cap) (h0 : nth y 0 = 2) (h1 : (nth y 1).toNat = n) (hn2 : 2 ≤ n) (hn : n ≤ 40) :
    Calls Tryz.prog 113 #[.slice (some ⟨db, 0, none⟩) 504 cap] W fun e w' => Decoded W w' ⟨false, midL y (n - 1), [], kidsL y n⟩ e := by
  have d0 := hy.cell (i := 0) (by omega)
  have d1 := hy.cell (i := 1) (by omega)
  rw [h0] at d0
  rw [show ((nth y 1).toNat : Int) = n by omega] at d1
  replace d0 : W.cell? ⟨db, 0, none⟩ = some (.int .u8 2) := d0
  have hdl : db < W.heap.size := hy.lt
  have hbx := Box.new W #[.bool false, .slice none 0 0, .slice none 0 0, .slice none 0 0] 141
  have hn0 : NodeO W.heap.size (W.alloc (.cells #[.bool false, .slice none 0 0, .slice none 0 0, .slice none 0 0] 141)) W.heap.size ⟨false, midL y 0, [], kidsL y 0⟩ none none none 0 0 0 :=
    ⟨hbx, NR.nil, NR.nil, NR.nil, Nat.le_refl _, fun g hg => (by rcases hg with h | h | h <;> cases h), fun g h => (by cases h), fun g h => (by cases h), fun g h => (by cases h)⟩
  have hb0 : Below W.heap.size W (W.alloc (.cells #[.bool false, .slice none 0 0, .slice none 0 0, .slice none 0 0] 141)) := (Below.refl _ _).alloc (Nat.le_refl _) _
  have hn40 : (n : Int) ≤ 40 := by omega
  have hn2' : (2 : Int) ≤ n := by omega
  have hn41 : decide ((n : Int) ≤ 40) = true := decide_eq_true hn40
  have hn42 : decide ((2 : Int) ≤ (n : Int)) = true := decide_eq_true hn2'
  clear hbx
  go_enter Tryz.func113, Tryz.ntmps113
  go_wp2_with fail
  go_loopw [77] (fun ix wr => ∃ (j : Nat) (aa : Option Addr) (ac : Nat), ix = .int .i64 j ∧ j ≤ n ∧ NodeO W.heap.size wr W.heap.size ⟨false, midL y 0, [], kidsL y j⟩ none none aa 0 0 ac ∧ Below W.heap.size W wr) (fun ix _ => 41 - (intOf ix).toNat)
  case atStart => exact ⟨0, none, 0, rfl, Nat.zero_le _, hn0, hb0⟩
  case round =>
    clear hn0 hb0 d0 d1
    obtain ⟨j, aa, ac, rfl, hj, hno, hbl⟩ := hrel
    by_cases hlt : j < n
    · have hyr := hy.below hbl hdl
      have hN := hbl.size
      have hc2 : ∀ w1, Box w1 W.heap.size #[.bool false, .slice none (midL y 0).length 0, .slice none 0 0, .slice aa (kidsL y j).length ac] → w1.cell? ⟨W.heap.size, 3, none⟩ = some (.slice aa j ac) := fun w1 hb => (hb.cell 3 _ rfl).trans (by rw [kidsL_length]; rfl)
      have c1 := hc2 _ hno.box
      have hka : ((kidAt y j : Nat) : Int) < 4294967296 := by have : kidAt y j < 4294967296 := (getL ((y.drop (4 + 4 * j)).take 4)).toNat_lt; omega
      have hka0 : (0 : Int) ≤ ((kidAt y j : Nat) : Int) := by omega
      have g1 : Calls Tryz.prog 43 #[.slice (some ⟨db, 4 + 4 * j, none⟩) (504 - (4 + 4 * j)) (cap - (4 + 4 * j))] wr.drew fun e w' => e = .returned (.int .u32 ((kidAt y j : Nat) : Int)) ∧ ∃ m, w' = wr.drew.drewN m := get_u32d (hyr.drew) (4 + 4 * j) (504 - (4 + 4 * j)) (cap - (4 + 4 * j)) (by omega) (by omega)
      have c1a : ∀ x o, ((wr.drewN x).alloc o).cell? ⟨W.heap.size, 3, none⟩ = some (.slice aa j ac) := fun x o => hc2 _ ((hno.box.of_block (W' := wr.drewN x) rfl).alloc o)
      have G1 := Lib.hid g1
      have hap : ∀ m, ∃ p : Nat × Nat × World, (Builtin.append_ #[82, 82] 82 #[.slice aa j ac, .slice (some ⟨wr.heap.size, 0, none⟩) 1 1]).run Tryz.prog ((wr.drewN m).alloc (.cells #[.int .i64 ((kidAt y j : Nat) : Int)] 3)) = .ok (.slice (some ⟨p.1, 0, none⟩) (j + 1) p.2.1) p.2.2 ∧ p.2.2.cell? ⟨W.heap.size, 3, none⟩ = some (.slice aa j ac) ∧ p.2.2.frozen? ⟨W.heap.size, 3, none⟩ = false ∧
          NodeO W.heap.size (p.2.2.setCell ⟨W.heap.size, 3, none⟩ (.slice (some ⟨p.1, 0, none⟩) (j + 1) p.2.1)) W.heap.size ⟨false, midL y 0, [], kidsL y (j + 1)⟩ none none (some ⟨p.1, 0, none⟩) 0 0 p.2.1 ∧ Below W.heap.size W (p.2.2.setCell ⟨W.heap.size, 3, none⟩ (.slice (some ⟨p.1, 0, none⟩) (j + 1) p.2.1)) := fun m => by
        have hno2 := hno.next (W' := wr.drewN m) (UK.belowN (Below.refl _ _) m)
        obtain ⟨g', c', w', e, r, o, hg⟩ := push_int hno2.a (by rw [kidsL_length]; omega) (kidAt y j)
        rw [kidsL_length] at e
        obtain ⟨q1, q2, q3⟩ := hno2.setA r o hg hN
        rw [← kidsL_snoc, kidsL_length] at q1 q2
        exact ⟨(g', c', w'), e, hc2 _ q3, q3.free 3, q1, (hbl.trans (UK.belowN (Below.refl _ _) m)).trans q2⟩
      obtain ⟨G, hG⟩ := Classical.skolem.1 hap
      have HG := Lib.hid hG
      have cG := fun m => (hG m).2.1
      have fG := fun m => (hG m).2.2.1
      clear hap hG g1 hc2
      have n1 : IntKind.i64.wrap (4 * (j : Int)) = 4 * (j : Int) := by rw [IntKind.wrap_i64]; omega
      have n2 : IntKind.i64.wrap (4 + 4 * (j : Int)) = 4 + 4 * (j : Int) := by rw [IntKind.wrap_i64]; omega
      have n3 : IntKind.i64.wrap ((kidAt y j : Nat) : Int) = ((kidAt y j : Nat) : Int) := by rw [IntKind.wrap_i64]; omega
      have i2 : (4 : Int) + 4 * j ≤ 504 := by omega
      have i3 : ¬ (cap = 4 + 4 * j) := by omega
      have i4 : (4 + 4 * (j : Int)).toNat = 4 + 4 * j := by omega
      have i5 : (0 : Int) ≤ 4 + 4 * (j : Int) := by omega
      go_wp2_with fail
      go_region_law (first | (refine UK.step_append_run (HG.out _).1 rfl rfl rfl (by simp [Act.eval]) (by simp [Act.eval]) ?_) | (go_simp; go_at_call 43; refine G1.out.mono ?_; rintro e w2 ⟨rfl, m, rfl⟩))
      all_goals
        go_wp2
        go_roundw
        case rel => exact ⟨j + 1, _, _, by go_num, by omega, (HG.out _).2.2.2.1, (HG.out _).2.2.2.2⟩
        case measure => simp [intOf]; omega
    · obtain rfl : j = n := by omega
      have hs1 : (0 : Int) ≤ (j : Int) - 1 := by omega
      go_wp2_with fail
      go_loopw [99] (fun ix wr' => ∃ (i : Nat) (ka : Option Addr) (kc : Nat), ix = .int .i64 i ∧ i ≤ j - 1 ∧ NodeO W.heap.size wr' W.heap.size ⟨false, midL y i, [], kidsL y j⟩ ka none aa kc 0 ac ∧ Below W.heap.size W wr') (fun ix _ => 41 - (intOf ix).toNat)
      case atStart => exact ⟨0, none, 0, rfl, Nat.zero_le _, hno, hbl⟩
      case round =>
        clear hno hbl
        obtain ⟨i, ka, kc, rfl, hi, hno, hbl⟩ := hrel
        by_cases hlt2 : i < j - 1
        · have hyr := hy.below hbl hdl
          have hN := hbl.size
          have hij : (i : Int) < (j : Int) - 1 := by omega
          have hc2 : ∀ w1, Box w1 W.heap.size #[.bool false, .slice ka (midL y i).length kc, .slice none 0 0, .slice aa (kidsL y j).length ac] → w1.cell? ⟨W.heap.size, 1, none⟩ = some (.slice ka i kc) := fun w1 hb => (hb.cell 1 _ rfl).trans (by rw [midL_length]; rfl)
          have c1 := hc2 _ hno.box
          have g1 : Calls Tryz.prog 139 #[.slice (some ⟨db, 164 + 8 * i, none⟩) (504 - (164 + 8 * i)) (cap - (164 + 8 * i))] wr.drew fun e w' => e = .returned (.int .u64 ((g64 y (164 + 8 * i)).toNat : Int)) ∧ ∃ m, w' = wr.drew.drewN m := get_u64 (hyr.drew) (164 + 8 * i) (504 - (164 + 8 * i)) (cap - (164 + 8 * i)) (by omega) (by omega) (by omega)
          have c1a : ∀ x o, ((wr.drewN x).alloc o).cell? ⟨W.heap.size, 1, none⟩ = some (.slice ka i kc) := fun x o => hc2 _ ((hno.box.of_block (W' := wr.drewN x) rfl).alloc o)
          have G1 := Lib.hid g1
          have hap : ∀ m, ∃ p : Nat × Nat × World, (Builtin.append_ #[52, 52] 52 #[.slice ka i kc, .slice (some ⟨wr.heap.size, 0, none⟩) 1 1]).run Tryz.prog ((wr.drewN m).alloc (.cells #[.int .u64 ((g64 y (164 + 8 * i)).toNat : Int)] 23)) = .ok (.slice (some ⟨p.1, 0, none⟩) (i + 1) p.2.1) p.2.2 ∧ p.2.2.cell? ⟨W.heap.size, 1, none⟩ = some (.slice ka i kc) ∧ p.2.2.frozen? ⟨W.heap.size, 1, none⟩ = false ∧
              NodeO W.heap.size (p.2.2.setCell ⟨W.heap.size, 1, none⟩ (.slice (some ⟨p.1, 0, none⟩) (i + 1) p.2.1)) W.heap.size ⟨false, midL y (i + 1), [], kidsL y j⟩ (some ⟨p.1, 0, none⟩) none aa p.2.1 0 ac ∧ Below W.heap.size W (p.2.2.setCell ⟨W.heap.size, 1, none⟩ (.slice (some ⟨p.1, 0, none⟩) (i + 1) p.2.1)) := fun m => by
            have hno2 := hno.next (W' := wr.drewN m) (UK.belowN (Below.refl _ _) m)
            obtain ⟨g', c', w', e, r, o, hg⟩ := push_u64 hno2.k (by rw [midL_length]; omega) (g64 y (164 + 8 * i))
            rw [midL_length] at e
            obtain ⟨q1, q2, q3⟩ := hno2.setK r o hg hN
            rw [← midL_snoc, midL_length] at q1 q2
            exact ⟨(g', c', w'), e, hc2 _ q3, q3.free 1, q1, (hbl.trans (UK.belowN (Below.refl _ _) m)).trans q2⟩
          obtain ⟨G, hG⟩ := Classical.skolem.1 hap
          have HG := Lib.hid hG
          have cG := fun m => (hG m).2.1
          have fG := fun m => (hG m).2.2.1
          clear hap hG g1 hc2
          have n1 : IntKind.i64.wrap (8 * (i : Int)) = 8 * (i : Int) := by rw [IntKind.wrap_i64]; omega
          have n2 : IntKind.i64.wrap (164 + 8 * (i : Int)) = 164 + 8 * (i : Int) := by rw [IntKind.wrap_i64]; omega
          have i2 : (164 : Int) + 8 * i ≤ 504 := by omega
          have i3 : ¬ (cap = 164 + 8 * i) := by omega
          have i4 : (164 + 8 * (i : Int)).toNat = 164 + 8 * i := by omega
          have i5 : (0 : Int) ≤ 164 + 8 * (i : Int) := by omega
          go_wp2_with fail
          go_region_law (first | (refine UK.step_append_run (HG.out _).1 rfl rfl rfl (by simp [Act.eval]) (by simp [Act.eval]) ?_) | (go_simp; go_at_call 139; refine G1.out.mono ?_; rintro e w2 ⟨rfl, m, rfl⟩))
          all_goals
            go_wp2
            go_roundw
            case rel => exact ⟨i + 1, _, _, by go_num, by omega, (HG.out _).2.2.2.1, (HG.out _).2.2.2.2⟩
            case measure => simp [intOf]; omega
        · obtain rfl : i = j - 1 := by omega
          have hij : ¬ (((j - 1 : Nat) : Int) < (j : Int) - 1) := by omega
          go_wp2
          go_ret2
          exact ⟨W.heap.size, ka, none, aa, kc, 0, ac, rfl, hno, hbl⟩
theorem decode_any {W : World} {db cap : Nat} {y : List UInt8} {x : Nd} (hy : BytesAt W db y) (hyl : y.length = cap) (hc : 504 ≤ cap) (hx : decN y = some x) :
    Calls Tryz.prog 113 #[.slice (some ⟨db, 0, none⟩) 504 cap] W fun e w' => Decoded W w' x e := by
  unfold decN at hx
  split at hx
  · rename_i h
    obtain rfl := Option.some.inj hx
    refine (decode_leaf hy hyl hc h.1 rfl h.2).mono ?_
    rintro e w' ⟨nb, ka, va, kc, vc, rfl, h1, h2⟩
    exact ⟨nb, ka, va, none, kc, vc, 0, rfl, h1, h2⟩
  · split at hx
    · rename_i h
      obtain rfl := Option.some.inj hx
      exact decode_inner hy hyl hc h.1 rfl h.2.1 h.2.2
    · cases hx
end Go.Proofs.YtfljlcfmdcepnaaGreatDoor
namespace Go.Proofs.YtfljlcfmdcepnaaGreatDoor
open Go.RowKit
open UK (str BytesAt nth Only Row Box)
section
variable {E : Nat → Prop} {W W' : World} {P D T k pg n : Nat} {root : Int} {A : AP} {x : Nd}
def LoadedX (E : Nat → Prop) (W w' : World) (P D : Nat) (A : AP) (k : Nat) (x : Nd) (e : Ending) : Prop :=
  ∃ N M nb ka va aa kc vc ac, e = .returned (.tuple #[.pointer (some ⟨nb, 0, none⟩), .int .i64 0]) ∧ W.heap.size ≤ N ∧ M ≤ w'.heap.size ∧ NodeM N M w' nb x ka va aa kc vc ac ∧ PZ (fun j => E j ∨ (N ≤ j ∧ j < M)) w' P D A k ∧ Kept E W w'
set_option maxRecDepth 100000 in
theorem load_any (h : PZ E W P D A k) (hk : k + 2 < 900000000) (hb : Box W T #[.pointer (some ⟨P, 0, none⟩), .int .i64 root]) (hp : A.Has pg) (hy : ndAt A pg = some x) :
    Calls Tryz.prog 76 #[.pointer (some ⟨T, 0, none⟩), .int .i64 pg] W fun e w' => LoadedX E W w' P D A (k + 2) x e := by
  have c0 : W.cell? ⟨T, 0, none⟩ = some (.pointer (some ⟨P, 0, none⟩)) := hb.cell 0 _ rfl
  have HP := Lib.hid (pz_pin h hk pg hp)
  clear h hb
  go_enter_defers Tryz.func76, Tryz.ntmps76
  go_wp2_with fail
  refine HP.out.mono ?_
  rintro e w1 ⟨fb, db, cap, rfl, p1, k1⟩
  have HB := Lib.hid (pf_bytes p1)
  obtain ⟨y, y1, y2, y3, y4, y5⟩ := p1.bytes
  have hy2 : decN y = some x := by
    rw [← dec_take, y3]; exact hy
  have hD := decode_any y1 y2 y4 hy2
  have HD := Lib.hid hD
  have H1 := Lib.hid (And.intro p1 k1)
  clear HP p1 k1 y1 y2 y3 y4 y5 hy2 hD c0
  go_wp2_with fail
  refine HB.out.mono ?_
  rintro e w2 ⟨rfl, rfl⟩
  go_wp2_with fail
  refine HD.out.mono ?_
  rintro e w3 ⟨nb, ka, va, aa, kc, vc, ac, rfl, hn, hbl⟩
  obtain ⟨p1, k1⟩ := H1.out
  have hlt : ∀ g, slB ka g ∨ slB va g ∨ slB aa g → g < w3.heap.size := fun g hg => by
    rcases hg with h | h | h
    · exact hn.k.lt h
    · exact hn.v.lt h
    · exact hn.a.lt h
  have hnb := hn.box.lt
  have p3 := p1.wide hbl (T := fun j => E j ∨ (w2.heap.size ≤ j ∧ j < w3.heap.size)) (fun j hj => hj)
  have k3 := k1.trans (p1.kept hbl)
  have hs2 := k1.size
  have HU := Lib.hid (pf_unpin_d .returning p3)
  have HN := Lib.hid (And.intro hn (And.intro hlt (And.intro hnb (And.intro k3 hs2))))
  clear HB HD H1 p1 k1 hn hbl hlt hnb p3 k3 hs2
  go_wp2
  refine leaves_cons (f := 69) (args := #[.pointer (some ⟨fb, 0, none⟩)]) (by simp) (by simp [go_sem]) ?_
  refine HU.out.mono ?_
  rintro e u' w4 ⟨rfl, rfl, p4, k4⟩
  obtain ⟨hn, hlt, hnb, k3, hs2⟩ := HN.out
  refine ⟨_, results_tmp2 rfl _ _ _, ?_⟩
  refine ⟨w2.heap.size, w3.heap.size, nb, ka, va, aa, kc, vc, ac, rfl, hs2, k4.size, ⟨hn.of_block k4.size (fun g h1 h2 => k4.block g (.inr ⟨h1, h2⟩)), hnb, hlt⟩, p4, k3.trans (k4.mono (fun j hj => .inl hj))⟩
set_option maxRecDepth 100000 in
theorem store_any {nb : Nat} {x : Nd} (h : PZ E W P D A k) (hk : k + 3 < 900000000) (hb : Box W T #[.pointer (some ⟨P, 0, none⟩), .int .i64 root]) (hp : A.Has pg) (hn : NodeR E W nb x) (hx : Fits x) :
    Calls Tryz.prog 78 #[.pointer (some ⟨T, 0, none⟩), .int .i64 pg, .pointer (some ⟨nb, 0, none⟩)] W fun e w' => e = .returned (.int .i64 0) ∧ PZ E w' P D (A.wrote pg (encN (A.c pg) x)) (k + 3) ∧ Kept E W w' := by
  have c0 : W.cell? ⟨T, 0, none⟩ = some (.pointer (some ⟨P, 0, none⟩)) := hb.cell 0 _ rfl
  have HP := Lib.hid (pz_pin h (by omega) pg hp)
  clear h hb
  go_enter_defers Tryz.func78, Tryz.ntmps78
  go_wp2_with fail
  refine HP.out.mono ?_
  rintro e w1 ⟨fb, db, cap, rfl, p1, k1⟩
  have HE := Lib.hid (pf_edit p1 (by omega))
  have HN1 := Lib.hid (And.intro (hn.kept k1) k1)
  clear HP p1 k1 c0 hn
  go_wp2_with fail
  refine HE.out.mono ?_
  rintro e w2 ⟨rfl, p2, k2⟩
  obtain ⟨hn1, k1⟩ := HN1.out
  have hn2 := hn1.kept k2
  obtain ⟨y, y1, y2, y3, y4, y5⟩ := p2.bytes
  have HX := Lib.hid (encode_any hn2 hx y1 y2 y4 y5)
  have hy3 : y.take 504 = A.c pg := y3
  have htk := enc_take y x (by omega) hx
  rw [hy3] at htk
  have hle := enc_length y x (by omega) hx
  have H2 := Lib.hid (And.intro p2 (And.intro (k1.trans k2) (And.intro htk (hle.trans y2))))
  clear HE HN1 hn1 hn2 k1 k2 p2 y1 y2 y3 y4 y5 hy3 htk hle
  go_wp2_with fail
  refine HX.out.mono ?_
  rintro e w3 ⟨rfl, b3, o3⟩
  obtain ⟨p2, k2, htk, hle⟩ := H2.out
  obtain ⟨p3, k3⟩ := p2.write o3 b3 hle
  rw [htk] at p3
  have HU := Lib.hid (pf_unpin_d .returning p3)
  have K3 := Lib.hid (k2.trans k3)
  clear HX H2 p2 k2 htk hle p3 k3 b3 o3
  go_wp2
  refine leaves_cons (f := 69) (args := #[.pointer (some ⟨fb, 0, none⟩)]) (by simp) (by simp [go_sem]) ?_
  refine HU.out.mono ?_
  rintro e u' w4 ⟨rfl, rfl, p4, k4⟩
  refine ⟨_, results_tmp rfl _ _ _, rfl, p4, K3.out.trans k4⟩
set_option maxRecDepth 100000 in
theorem fresh_any {nb : Nat} {x : Nd} (h : PZ E W P D A k) (hk : k + 3 < 900000000) (hb : Box W T #[.pointer (some ⟨P, 0, none⟩), .int .i64 root]) (hf : ¬ A.Full) (hn : NodeR E W nb x) (hx : Fits x) :
    Calls Tryz.prog 77 #[.pointer (some ⟨T, 0, none⟩), .pointer (some ⟨nb, 0, none⟩)] W fun e w' => e = .returned (.tuple #[.int .i64 A.next, .int .i64 0]) ∧ PZ E w' P D (A.take.wrote A.next (encN (UK.zeros 504) x)) (k + 3) ∧ Kept E W w' := by
  have c0 : W.cell? ⟨T, 0, none⟩ = some (.pointer (some ⟨P, 0, none⟩)) := hb.cell 0 _ rfl
  have HP := Lib.hid (pz_take h (by omega) hf)
  clear h hb
  go_enter_defers Tryz.func77, Tryz.ntmps77
  go_wp2_with fail
  refine HP.out.mono ?_
  rintro e w1 ⟨fb, db, cap, rfl, p1, k1⟩
  have HE := Lib.hid (pf_edit p1 (by omega))
  have HN1 := Lib.hid (And.intro (hn.kept k1) k1)
  clear HP p1 k1 c0 hn
  go_wp2_with fail
  refine HE.out.mono ?_
  rintro e w2 ⟨rfl, p2, k2⟩
  obtain ⟨hn1, k1⟩ := HN1.out
  have hn2 := hn1.kept k2
  obtain ⟨y, y1, y2, y3, y4, y5⟩ := p2.bytes
  have HX := Lib.hid (encode_any hn2 hx y1 y2 y4 y5)
  have hy3 : y.take 504 = UK.zeros 504 := y3.trans (by show setC A.c A.next (UK.zeros 504) A.next = _; unfold setC; rw [if_pos rfl])
  have htk := enc_take y x (by omega) hx
  rw [hy3] at htk
  have hle := enc_length y x (by omega) hx
  have H2 := Lib.hid (And.intro p2 (And.intro (k1.trans k2) (And.intro htk (hle.trans y2))))
  clear HE HN1 hn1 hn2 k1 k2 p2 y1 y2 y3 y4 y5 hy3 htk hle
  go_wp2_with fail
  refine HX.out.mono ?_
  rintro e w3 ⟨rfl, b3, o3⟩
  obtain ⟨p2, k2, htk, hle⟩ := H2.out
  obtain ⟨p3, k3⟩ := p2.write o3 b3 hle
  rw [htk] at p3
  have HG := Lib.hid (pf_page p3)
  have HU := Lib.hid (pf_unpin_d .returning p3)
  have K3 := Lib.hid (k2.trans k3)
  clear HX H2 p2 k2 htk hle p3 k3 b3 o3
  go_wp2_with fail
  refine HG.out.mono ?_
  rintro e w4 ⟨rfl, rfl⟩
  go_wp2
  refine leaves_cons (f := 69) (args := #[.pointer (some ⟨fb, 0, none⟩)]) (by simp) (by simp [go_sem]) ?_
  refine HU.out.mono ?_
  rintro e u' w4 ⟨rfl, rfl, p4, k4⟩
  refine ⟨_, results_tmp2 rfl _ _ _, rfl, p4, K3.out.trans k4⟩
set_option maxRecDepth 100000 in
theorem fresh_no {nb : Nat} (h : PZ E W P D A k) (hk : k + 3 < 900000000) (hb : Box W T #[.pointer (some ⟨P, 0, none⟩), .int .i64 root]) (hf : A.Full) :
    Calls Tryz.prog 77 #[.pointer (some ⟨T, 0, none⟩), .pointer (some ⟨nb, 0, none⟩)] W fun e w' => e = .returned (.tuple #[.int .i64 0, .int .i64 6]) ∧ PZ E w' P D A (k + 3) ∧ Kept E W w' := by
  have c0 : W.cell? ⟨T, 0, none⟩ = some (.pointer (some ⟨P, 0, none⟩)) := hb.cell 0 _ rfl
  have HP := Lib.hid (pz_take_no h (by omega) hf)
  clear h hb
  go_enter_defers Tryz.func77, Tryz.ntmps77
  go_wp2_with fail
  refine HP.out.mono ?_
  rintro e w1 ⟨rfl, p1, k1⟩
  have H1 := Lib.hid (And.intro (p1.up (m := k + 3) (by omega)) k1)
  clear p1 k1 HP c0
  go_wp2
  refine ⟨_, results_tmp2 rfl _ _ _, rfl, H1.out.1, H1.out.2⟩
end
end Go.Proofs.YtfljlcfmdcepnaaGreatDoor
