/-
  vint.PutU64, U64: a number of eight bytes.
  A tree's node in memory, and as a page's bytes: encode, decode.
  A tree's node of one's own in memory; decode.
-/
import Derived.Test.YtfljlcfmdcepnaaGreatDoorJPoolJ
import Derived.Deep.RegionLaw
import Derived.Deep.DeepCutAuto
namespace Go.Proofs.YtfljlcfmdcepnaaGreatDoor
open Go.RowKit
open UK (str BytesAt nth Only Row Box w32)
open Go.BigFrame
namespace UK
def lo32 (v : UInt64) : UInt32 := v.toUInt32
def hi32 (v : UInt64) : UInt32 := UInt32.ofNat (v.toNat / 4294967296)
def mk64 (a b : UInt32) : UInt64 := UInt64.ofNat (a.toNat + b.toNat * 4294967296)
@[go_sem] theorem lo32_is (v : UInt64) : (v.toNat : Int) % 4294967296 = ((lo32 v).toNat : Int) := by
  unfold lo32; rw [UInt64.toNat_toUInt32]; omega
theorem hi32_nat (v : UInt64) : (hi32 v).toNat = v.toNat / 4294967296 := by
  have := v.toNat_lt
  unfold hi32
  rw [UInt32.toNat_ofNat']
  omega
@[go_sem] theorem hi32_is (v : UInt64) : (v.toNat : Int) / 4294967296 = ((hi32 v).toNat : Int) := by
  rw [hi32_nat]; omega
theorem mk64_nat (a b : UInt32) : (mk64 a b).toNat = a.toNat + b.toNat * 4294967296 := by
  have := a.toNat_lt
  have := b.toNat_lt
  unfold mk64
  rw [UInt64.toNat_ofNat']
  omega
theorem mk64_parts (v : UInt64) : mk64 (lo32 v) (hi32 v) = v := by
  apply UInt64.toNat_inj.1
  rw [mk64_nat, hi32_nat]
  have : (lo32 v).toNat = v.toNat % 4294967296 := by unfold lo32; rw [UInt64.toNat_toUInt32]
  omega
theorem nat_or_high (a b : Nat) (ha : a < 4294967296) : a ||| b * 4294967296 = a + b * 4294967296 := by
  have h := Nat.two_pow_add_eq_or_of_lt (b := a) (i := 32) ha b
  rw [Nat.or_comm, show b * 4294967296 = 2 ^ 32 * b by rw [Nat.mul_comm], ← h, Nat.add_comm]
def up32 (b : UInt32) : UInt64 := UInt64.ofNat (b.toNat * 4294967296)
theorem up32_nat (b : UInt32) : (up32 b).toNat = b.toNat * 4294967296 := by
  have := b.toNat_lt
  unfold up32
  rw [UInt64.toNat_ofNat']
  omega
@[go_sem] theorem u32_mod64 (b : UInt32) : (b.toNat : Int) % 18446744073709551616 = (b.toNat : Int) := by have := b.toNat_lt; omega
@[go_sem] theorem up32_is (b : UInt32) : (b.toNat : Int) * 4294967296 % 18446744073709551616 = ((up32 b).toNat : Int) := by
  have := b.toNat_lt
  rw [up32_nat]; omega
@[go_sem] theorem or_u64 (a b : UInt32) : bits .or .u64 (a.toNat : Int) ((up32 b).toNat : Int) = ((mk64 a b).toNat : Int) := by
  have h1 := a.toNat_lt
  have h2 := b.toNat_lt
  rw [u64_or_nat _ _ (by omega) (up32 b).toNat_lt, up32_nat, mk64_nat, nat_or_high _ _ h1]
end UK
theorem put_u64 {W : World} {B : Nat} {x : List UInt8} (h : BytesAt W B x) (o n c : Nat) (hn : 8 ≤ n) (ho : o + n ≤ x.length) (hl : n ≤ 100000000) (hc : n ≤ c) (v : UInt64) :
    Calls Tryz.prog 108 #[.slice (some ⟨B, o, none⟩) n c, .int .u64 v.toNat] W fun e w' => e = .returned (.tuple #[]) ∧ BytesAt w' B (UK.wr x o (putL (UK.lo32 v) ++ putL (UK.hi32 v))) ∧ Only B W w' := by
  have H1 := Lib.hid (put_u32 h o n c (by omega) ho hl (UK.lo32 v))
  have hl1 : (UK.wr x o (putL (UK.lo32 v))).length = x.length := UK.wr_length _ _ _ (by show o + 4 ≤ _; omega)
  have hw2 : UK.wr (UK.wr x o (putL (UK.lo32 v))) (o + 4) (putL (UK.hi32 v)) = UK.wr x o (putL (UK.lo32 v) ++ putL (UK.hi32 v)) := UK.wr_after x o (putL (UK.lo32 v)) (putL (UK.hi32 v)) (by omega)
  have HL1 := Lib.hid (And.intro hl1 hw2)
  clear hl1 hw2
  go_enter Tryz.func108, Tryz.ntmps108
  go_wp2_with fail
  refine H1.out.mono ?_
  rintro e w1 ⟨rfl, h1, o1⟩
  have H2 := Lib.hid (put_u32 h1 (o + 4) (n - 4) (c - 4) (by omega) (by rw [HL1.out.1]; omega) (by omega) (UK.hi32 v))
  clear H1
  go_wp2_with fail
  refine H2.out.mono ?_
  rintro e w2 ⟨rfl, h2, o2⟩
  clear H2
  rw [HL1.out.2] at h2
  go_wp2
  go_end0
  exact ⟨rfl, h2, o1.trans o2⟩
theorem get_u32d {W : World} {B : Nat} {x : List UInt8} (h : BytesAt W B x) (o n c : Nat) (hn : 4 ≤ n) (ho : o + n ≤ x.length) :
    Calls Tryz.prog 43 #[.slice (some ⟨B, o, none⟩) n c] W fun e w' => e = .returned (.int .u32 (getL ((x.drop o).take 4)).toNat) ∧ ∃ m, w' = W.drewN m := by
  have c0 := h.cell (i := o) (by omega)
  have c1 := h.cell (i := o + 1) (by omega)
  have c2 := h.cell (i := o + 2) (by omega)
  have c3 := h.cell (i := o + 3) (by omega)
  have hg : Hid (getL ((x.drop o).take 4) = UK.or32 (UK.or32 (UK.or32 (UK.wide (nth x o)) (UK.shl (UK.wide (nth x (o + 1))) 1)) (UK.shl (UK.wide (nth x (o + 2))) 2)) (UK.shl (UK.wide (nth x (o + 3))) 3)) := by
    show _ = _
    unfold getL
    have e : ∀ j, j < 4 → nth ((x.drop o).take 4) j = nth x (o + j) := fun j hj => by
      simp only [nth, List.getD_eq_getElem?_getD]
      rw [List.getElem?_take_of_lt hj, List.getElem?_drop]
    rw [e 0 (by omega), e 1 (by omega), e 2 (by omega), e 3 (by omega), Nat.add_zero]
  go_enter Tryz.func43, Tryz.ntmps43
  go_wp2
  go_quiet (fail)
  go_wp2
  go_ret
  exact ⟨by rw [hg.out] <;> rfl, _, rfl⟩
set_option maxRecDepth 100000 in
theorem get_u64 {W : World} {B : Nat} {x : List UInt8} (h : BytesAt W B x) (o n c : Nat) (hn : 8 ≤ n) (ho : o + n ≤ x.length) (hc : n ≤ c) :
    Calls Tryz.prog 139 #[.slice (some ⟨B, o, none⟩) n c] W fun e w' => e = .returned (.int .u64 (UK.mk64 (getL ((x.drop o).take 4)) (getL ((x.drop (o + 4)).take 4))).toNat) ∧ ∃ m, w' = W.drewN m := by
  have g1 := fun x => get_u32d (h.drewN x) o n c (by omega) ho
  have g2 := fun x => get_u32d (h.drewN x) (o + 4) (n - 4) (c - 4) (by omega) (by omega)
  generalize getL ((x.drop o).take 4) = u at g1 ⊢
  generalize getL ((x.drop (o + 4)).take 4) = v at g2 ⊢
  have HE : Hid (bits BinOp.or IntKind.u64 (IntKind.u64.wrap u.toNat) (IntKind.u64.wrap (IntKind.u64.wrap v.toNat * 4294967296)) = ((UK.mk64 u v).toNat : Int)) := by
    show _ = _
    rw [IntKind.wrap_u64, IntKind.wrap_u64, IntKind.wrap_u64, UK.u32_mod64, UK.u32_mod64, UK.up32_is, UK.or_u64]
  go_enter Tryz.func139, Tryz.ntmps139
  go_wp2_with fail
  go_quiet (first | (go_at_call 43; with_reducible exact Calls.quiet_of (g1 _)) | (go_at_call 43; with_reducible exact Calls.quiet_of (g2 _)))
  go_wp2
  go_ret
  exact ⟨by rw [HE.out] <;> rfl, _, rfl⟩
end Go.Proofs.YtfljlcfmdcepnaaGreatDoor
namespace Go.Proofs.YtfljlcfmdcepnaaGreatDoor
open Go.RowKit
open UK (str BytesAt nth Only Row Box w32)
open Go.BigFrame
structure Nd where
  leaf : Bool
  keys : List UInt64
  vals : List UInt64
  kids : List Nat
def u64s (l : List UInt64) : List Value := l.map fun v => .int .u64 (v.toNat : Int)
theorem u64s_length (l : List UInt64) : (u64s l).length = l.length := List.length_map _
theorem u64s_at (l : List UInt64) (i : Nat) (v : UInt64) (h : l[i]? = some v) : (u64s l)[i]? = some (.int .u64 (v.toNat : Int)) := by unfold u64s; rw [List.getElem?_map, h]; rfl
def Win (S : Nat → Prop) (W : World) (v : Value) (vs : List Value) : Prop := ∃ ao c, v = .slice ao vs.length c ∧ vs.length ≤ c ∧ ∀ j u, vs[j]? = some u → ∃ g o, ao = some ⟨g, o, none⟩ ∧ S g ∧ W.cell? ⟨g, o + j, none⟩ = some u
def NodeR (S : Nat → Prop) (W : World) (nb : Nat) (x : Nd) : Prop := ∃ kv vv av, Box W nb #[.bool x.leaf, kv, vv, av] ∧ S nb ∧ Win S W kv (u64s x.keys) ∧ Win S W vv (u64s x.vals) ∧ Win S W av (ints x.kids)
def b64 (v : UInt64) : List UInt8 := putL (UK.lo32 v) ++ putL (UK.hi32 v)
theorem b64_length (v : UInt64) : (b64 v).length = 8 := rfl
def leafB : List UInt64 → List UInt64 → List UInt8
  | k :: ks, v :: vs => b64 k ++ (b64 v ++ leafB ks vs)
  | _, _ => []
def encLeaf (y : List UInt8) (ks vs : List UInt64) : List UInt8 := UK.wr ((y.set 0 1).set 1 (UInt8.ofNat ks.length)) 4 (leafB ks vs)
theorem leafB_length : ∀ (ks vs : List UInt64), vs.length = ks.length → (leafB ks vs).length = 16 * ks.length
  | [], [], _ => rfl
  | k :: ks, v :: vs, h => by
    have := leafB_length ks vs (by simpa using h)
    show (b64 k ++ (b64 v ++ leafB ks vs)).length = _
    rw [List.length_append, List.length_append, b64_length, b64_length, this, List.length_cons]; omega
  | [], _ :: _, h => by cases h
  | _ :: _, [], h => by cases h
theorem leafB_snoc : ∀ (ks vs : List UInt64) (j : Nat) (k v : UInt64), ks[j]? = some k → vs[j]? = some v → leafB (ks.take (j + 1)) (vs.take (j + 1)) = leafB (ks.take j) (vs.take j) ++ (b64 k ++ b64 v)
  | a :: ks, b :: vs, 0, k, v, hk, hv => by
    obtain rfl : a = k := by simpa using hk
    obtain rfl : b = v := by simpa using hv
    show b64 a ++ (b64 b ++ leafB (ks.take 0) (vs.take 0)) = _
    rw [List.take_zero, List.take_zero]
    show b64 a ++ (b64 b ++ []) = [] ++ _
    rw [List.append_nil, List.nil_append]
  | a :: ks, b :: vs, j + 1, k, v, hk, hv => by
    have := leafB_snoc ks vs j k v (by simpa using hk) (by simpa using hv)
    show b64 a ++ (b64 b ++ leafB (ks.take (j + 1)) (vs.take (j + 1))) = b64 a ++ (b64 b ++ leafB (ks.take j) (vs.take j)) ++ _
    rw [this]; simp only [List.append_assoc]
  | [], _, _, _, _, hk, _ => by simp at hk
  | _ :: _, [], _, _, _, _, hv => by simp at hv
theorem UK.Only.cell {B : Nat} {a w : World} (h : Only B a w) {g i : Nat} {v : Value} (hc : a.cell? ⟨g, i, none⟩ = some v) (hn : g ≠ B) : w.cell? ⟨g, i, none⟩ = some v := by
  have hl : g < a.heap.size := by
    refine Nat.lt_of_not_le (fun hge => ?_)
    unfold World.cell? at hc
    rw [Array.getElem?_eq_none hge] at hc
    cases hc
  exact (World.cell?_of_block (a := ⟨g, i, none⟩) (h.block g hl hn)).trans hc
set_option maxHeartbeats 1000000 in
set_option maxRecDepth 100000 in
theorem encode_leaf {S : Nat → Prop} {W : World} {nb db cap : Nat} {y : List UInt8} {x : Nd} (h : NodeR S W nb x) (hl : x.leaf = true) (hn : x.keys.length ≤ 30) (hv : x.vals.length = x.keys.length) (hy : BytesAt W db y) (hyl : y.length = cap) (hc : 504 ≤ cap) (hS : ¬ S db) :
    Calls Tryz.prog 73 #[.slice (some ⟨db, 0, none⟩) 504 cap, .pointer (some ⟨nb, 0, none⟩)] W fun e w' => e = .returned (.tuple #[]) ∧ BytesAt w' db (encLeaf y x.keys x.vals) ∧ Only db W w' := by
  obtain ⟨kv, vv, av, hb, hnb, ⟨ka, kc, rfl, hkc, hk⟩, ⟨va, vc, rfl, hvc, hvv⟩, _⟩ := h
  rw [u64s_length, u64s_length, hl, hv] at hb
  rw [u64s_length] at hkc hvc
  rw [hv] at hvc
  have c0 : W.cell? ⟨nb, 0, none⟩ = some (.bool true) := hb.cell 0 _ rfl
  have c1 : W.cell? ⟨nb, 1, none⟩ = some (.slice ka x.keys.length kc) := hb.cell 1 _ rfl
  have c2 : W.cell? ⟨nb, 2, none⟩ = some (.slice va x.keys.length vc) := hb.cell 2 _ rfl
  have hne : nb ≠ db := fun e => hS (e ▸ hnb)
  have d0 := hy.cell (i := 0) (by omega)
  have d1 := hy.cell (i := 1) (by omega)
  have f0 := hy.free (i := 0) (by omega)
  have f1 := hy.free (i := 1) (by omega)
  have he : ((UInt8.ofNat x.keys.length).toNat : Int) = x.keys.length := by rw [UInt8.toNat_ofNat']; omega
  have h2 := (hy.set 0 1).set 1 (UInt8.ofNat x.keys.length)
  have o2 := ((Only.refl db W).set 0 (.int .u8 ((1 : UInt8).toNat : Int))).set 1 (.int .u8 ((UInt8.ofNat x.keys.length).toNat : Int))
  rw [he, show ((1 : UInt8).toNat : Int) = 1 from rfl] at h2 o2
  have H2 := Lib.hid (And.intro h2 o2)
  have HB := Lib.hid hb
  clear he h2 o2 hb
  go_enter Tryz.func73, Tryz.ntmps73
  go_wp2_with fail
  obtain ⟨hb2, ho2⟩ := H2.out
  have hy2 : ((y.set 0 1).set 1 (UInt8.ofNat x.keys.length)).length = cap := by rw [List.length_set, List.length_set]; exact hyl
  generalize hyy : (y.set 0 1).set 1 (UInt8.ofNat x.keys.length) = y2 at hb2 hy2
  have HYY := Lib.hid hyy
  clear hyy H2
  go_loopw [29] (fun ix wr => ∃ j : Nat, ix = .int .i64 j ∧ j ≤ x.keys.length ∧ BytesAt wr db (UK.wr y2 4 (leafB (x.keys.take j) (x.vals.take j))) ∧ Only db W wr) (fun ix _ => 31 - (intOf ix).toNat)
  case atStart => exact ⟨0, rfl, Nat.zero_le _, by rw [List.take_zero, List.take_zero]; show BytesAt _ _ (UK.wr y2 4 []); rw [UK.wr_nil]; exact hb2, ho2⟩
  case round =>
    clear hb2 ho2 hy c0 c1 d0 d1 f0 f1
    obtain ⟨j, rfl, hj, hb, ho⟩ := hrel
    by_cases hlt : j < x.keys.length
    · obtain ⟨kx, hkx⟩ : ∃ k, x.keys[j]? = some k := ⟨_, List.getElem?_eq_getElem hlt⟩
      obtain ⟨vx, hvx⟩ : ∃ v, x.vals[j]? = some v := ⟨_, List.getElem?_eq_getElem (by omega)⟩
      obtain ⟨g, o, rfl, hg, ck⟩ := hk j _ (u64s_at _ _ _ hkx)
      obtain ⟨g2, o2, rfl, hg2, cv⟩ := hvv j _ (u64s_at _ _ _ hvx)
      have hgd : g ≠ db := fun e => hS (e ▸ hg)
      have hg2d : g2 ≠ db := fun e => hS (e ▸ hg2)
      replace ck := ho.cell ck hgd
      have hlb : (leafB (x.keys.take j) (x.vals.take j)).length = 16 * j := by rw [leafB_length _ _ (by rw [List.length_take, List.length_take]; omega), List.length_take]; omega
      have hw1 : (UK.wr y2 4 (leafB (x.keys.take j) (x.vals.take j))).length = cap := by rw [UK.wr_length _ _ _ (by omega)]; exact hy2
      have ha1 := UK.wr_after y2 4 (leafB (x.keys.take j) (x.vals.take j)) (b64 kx) (by omega)
      rw [hlb] at ha1
      have ha2 := UK.wr_after y2 4 (leafB (x.keys.take j) (x.vals.take j) ++ b64 kx) (b64 vx) (by omega)
      rw [List.length_append, hlb, b64_length, show 4 + (16 * j + 8) = 12 + 16 * j by omega] at ha2
      have hw2 : (UK.wr y2 4 (leafB (x.keys.take j) (x.vals.take j) ++ b64 kx)).length = cap := by rw [UK.wr_length _ _ _ (by rw [List.length_append, hlb, b64_length]; omega)]; exact hy2
      have hsn := leafB_snoc x.keys x.vals j kx vx hkx hvx
      have P1 := put_u64 hb (4 + 16 * j) (504 - (4 + 16 * j)) (cap - (4 + 16 * j)) (by omega) (by omega) (by omega) (by omega) kx
      rw [show putL (UK.lo32 kx) ++ putL (UK.hi32 kx) = b64 kx from rfl, ha1] at P1
      have HP1 := Lib.hid P1
      have HX := Lib.hid (And.intro ha2 (And.intro hw2 (And.intro hsn (And.intro cv ho))))
      clear P1 ha1 ha2 hw1 hw2 hsn hlb hk hvv hkx hvx hb cv c2
      go_wp2_with fail
      refine HP1.out.mono ?_
      rintro e w1 ⟨rfl, b1, o1⟩
      obtain ⟨ha2, hw2, hsn, cv, ho⟩ := HX.out
      have o1' := ho.trans o1
      have cv1 := o1'.cell cv hg2d
      have c2 : w1.cell? ⟨nb, 2, none⟩ = some (.slice (some ⟨g2, o2, none⟩) x.keys.length vc) := o1'.cell (HB.out.cell 2 _ rfl) hne
      have P2 := put_u64 (b1.drew) (12 + 16 * j) (504 - (12 + 16 * j)) (cap - (12 + 16 * j)) (by omega) (by omega) (by omega) (by omega) vx
      rw [show putL (UK.lo32 vx) ++ putL (UK.hi32 vx) = b64 vx from rfl, ha2, List.append_assoc, ← hsn] at P2
      have HP2 := Lib.hid P2
      have HO1 := Lib.hid o1'
      clear HP1 HX P2 ha2 hw2 hsn cv ho b1 o1 o1' ck
      go_wp2_with fail
      have i1 : (j : Int) < (x.keys.length : Int) := by omega
      have i2 : (12 : Int) + 16 * j ≤ 504 := by omega
      have i3 : ¬ (cap = 12 + 16 * j) := by omega
      have i4 : (12 + 16 * (j : Int)).toNat = 12 + 16 * j := by omega
      have i5 : (0 : Int) ≤ 12 + 16 * (j : Int) := by omega
      have n1 : IntKind.i64.wrap (16 * (j : Int)) = 16 * (j : Int) := by rw [IntKind.wrap_i64]; omega
      have n2 : IntKind.i64.wrap (12 + 16 * (j : Int)) = 12 + 16 * (j : Int) := by rw [IntKind.wrap_i64]; omega
      go_still_tail 12, (by kernel_rfl)
      change wpList _ _ _ _ _ w1.drew
      go_wp2_with fail
      refine HP2.out.mono ?_
      rintro e w2 ⟨rfl, b2, o2'⟩
      have HF := Lib.hid (And.intro b2 (HO1.out.drew.trans o2'))
      clear HP2 HO1 b2 o2' c2 cv1
      go_wp2
      go_roundw
      case rel => exact ⟨j + 1, by go_num, by omega, HF.out.1, HF.out.2⟩
      case measure => simp [intOf]; omega
    · obtain rfl : j = x.keys.length := by omega
      rw [List.take_length, ← hv, List.take_length] at hb
      go_wp2
      refine bodyPost_ret (results_none rfl _ _ _) rfl ?_
      refine ⟨rfl, ?_, ho⟩
      unfold encLeaf
      rw [HYY.out]
      exact hb
end Go.Proofs.YtfljlcfmdcepnaaGreatDoor
namespace Go.Proofs.YtfljlcfmdcepnaaGreatDoor
open Go.RowKit
open UK (str BytesAt nth Only Row Box w32)
open Go.BigFrame
def g64 (y : List UInt8) (o : Nat) : UInt64 := UK.mk64 (getL ((y.drop o).take 4)) (getL ((y.drop (o + 4)).take 4))
def keysL (y : List UInt8) (n : Nat) : List UInt64 := (List.range n).map fun i => g64 y (4 + 16 * i)
def valsL (y : List UInt8) (n : Nat) : List UInt64 := (List.range n).map fun i => g64 y (12 + 16 * i)
theorem keysL_length (y : List UInt8) (n : Nat) : (keysL y n).length = n := by simp [keysL]
theorem valsL_length (y : List UInt8) (n : Nat) : (valsL y n).length = n := by simp [valsL]
theorem keysL_snoc (y : List UInt8) (n : Nat) : keysL y (n + 1) = keysL y n ++ [g64 y (4 + 16 * n)] := by simp [keysL, List.range_succ]
theorem valsL_snoc (y : List UInt8) (n : Nat) : valsL y (n + 1) = valsL y n ++ [g64 y (12 + 16 * n)] := by simp [valsL, List.range_succ]
def NR (W : World) (ao : Option Addr) (c : Nat) (vs : List Value) : Prop := (ao = none ∧ vs = [] ∧ c = 0) ∨ ∃ g, ao = some ⟨g, 0, none⟩ ∧ Row W g c vs
structure NodeO (N : Nat) (W : World) (nb : Nat) (x : Nd) (ka va aa : Option Addr) (kc vc ac : Nat) : Prop where
  box : Box W nb #[.bool x.leaf, .slice ka x.keys.length kc, .slice va x.vals.length vc, .slice aa x.kids.length ac]
  k : NR W ka kc (u64s x.keys)
  v : NR W va vc (u64s x.vals)
  a : NR W aa ac (ints x.kids)
  ge : N ≤ nb
  new : ∀ g, slB ka g ∨ slB va g ∨ slB aa g → N ≤ g ∧ g ≠ nb
  kv : ∀ g, slB ka g → ¬ slB va g
  ka : ∀ g, slB ka g → ¬ slB aa g
  va : ∀ g, slB va g → ¬ slB aa g
section
variable {W W' : World} {N nb kc vc ac : Nat} {ka va aa : Option Addr} {x : Nd}
theorem NR.nil : NR W none 0 [] := .inl ⟨rfl, rfl, rfl⟩
theorem NR.lt {ao : Option Addr} {c : Nat} {vs : List Value} (h : NR W ao c vs) {g : Nat} (hg : slB ao g) : g < W.heap.size := by
  rcases h with ⟨h, _⟩ | ⟨b, h, r⟩
  · rw [slB, h] at hg; cases hg
  · rw [h] at hg; rw [slB_inj hg]; exact r.lt
theorem NR.of_block {ao : Option Addr} {c : Nat} {vs : List Value} (h : NR W ao c vs) (hs : W.heap.size ≤ W'.heap.size) (hb : ∀ g, slB ao g → W'.heap[g]? = W.heap[g]?) : NR W' ao c vs := by
  rcases h with h | ⟨b, h, r⟩
  · exact .inl h
  · exact .inr ⟨b, h, r.of_block hs (hb b h)⟩
theorem NR.only {ao : Option Addr} {c B : Nat} {vs : List Value} (h : NR W ao c vs) (ho : Only B W W') (hn : ¬ slB ao B) : NR W' ao c vs := h.of_block ho.size (fun g hg => ho.block g (h.lt hg) (fun e => hn (e ▸ hg)))
theorem NodeO.of_block (h : NodeO N W nb x ka va aa kc vc ac) (hs : W.heap.size ≤ W'.heap.size) (hb : ∀ g, N ≤ g → g < W.heap.size → W'.heap[g]? = W.heap[g]?) : NodeO N W' nb x ka va aa kc vc ac :=
  ⟨h.box.of_block (hb nb h.ge h.box.lt), h.k.of_block hs (fun g hg => hb g (h.new g (.inl hg)).1 (h.k.lt hg)), h.v.of_block hs (fun g hg => hb g (h.new g (.inr (.inl hg))).1 (h.v.lt hg)), h.a.of_block hs (fun g hg => hb g (h.new g (.inr (.inr hg))).1 (h.a.lt hg)), h.ge, h.new, h.kv, h.ka, h.va⟩
theorem NodeO.next (h : NodeO N W nb x ka va aa kc vc ac) (hb : Below W.heap.size W W') : NodeO N W' nb x ka va aa kc vc ac := h.of_block hb.size (fun g _ hg => hb.block g hg)
theorem NodeO.setK (h : NodeO N W nb x ka va aa kc vc ac) {g' c' : Nat} {w1 : World} {l : List UInt64} (r : Row w1 g' c' (u64s l)) (o : Only g' W w1) (hg : slB ka g' ∨ W.heap.size ≤ g') (hN : N ≤ W.heap.size) :
    NodeO N (w1.setCell ⟨nb, 1, none⟩ (.slice (some ⟨g', 0, none⟩) l.length c')) nb { x with keys := l } (some ⟨g', 0, none⟩) va aa c' vc ac ∧ Below N W (w1.setCell ⟨nb, 1, none⟩ (.slice (some ⟨g', 0, none⟩) l.length c')) ∧ Box w1 nb #[.bool x.leaf, .slice ka x.keys.length kc, .slice va x.vals.length vc, .slice aa x.kids.length ac] := by
  have hgn : N ≤ g' ∧ g' ≠ nb := by
    rcases hg with h1 | h1
    · exact h.new g' (.inl h1)
    · have := h.box.lt; omega
  have hx1 : ¬ slB va g' := by
    rcases hg with h1 | h1
    · exact h.kv g' h1
    · exact fun e => by have := h.v.lt e; omega
  have hx2 : ¬ slB aa g' := by
    rcases hg with h1 | h1
    · exact h.ka g' h1
    · exact fun e => by have := h.a.lt e; omega
  have hb1 := h.box.only o hgn.2.symm
  have o2 := (Only.refl nb w1).set 1 (.slice (some ⟨g', 0, none⟩) l.length c')
  have hb2 := hb1.set 1 (.slice (some ⟨g', 0, none⟩) l.length c')
  have ob : Below N W (w1.setCell ⟨nb, 1, none⟩ (.slice (some ⟨g', 0, none⟩) l.length c')) := (o.below hN hgn.1).trans (o2.below (Nat.le_trans hN o.size) h.ge)
  generalize w1.setCell ⟨nb, 1, none⟩ (.slice (some ⟨g', 0, none⟩) l.length c') = w2 at o2 hb2 ob ⊢
  refine ⟨⟨?_, .inr ⟨g', rfl, r.only o2 hgn.2⟩, (h.v.only o hx1).only o2 (fun e => (h.new nb (.inr (.inl e))).2 rfl), (h.a.only o hx2).only o2 (fun e => (h.new nb (.inr (.inr e))).2 rfl), h.ge, fun j hj => ?_, fun j hj e => hx1 (slB_inj hj ▸ e), fun j hj e => hx2 (slB_inj hj ▸ e), h.va⟩, ob, hb1⟩
  · simpa using hb2
  · rcases hj with hj | hj | hj
    · rw [slB_inj hj]; exact hgn
    · exact h.new j (.inr (.inl hj))
    · exact h.new j (.inr (.inr hj))
theorem NodeO.setV (h : NodeO N W nb x ka va aa kc vc ac) {g' c' : Nat} {w1 : World} {l : List UInt64} (r : Row w1 g' c' (u64s l)) (o : Only g' W w1) (hg : slB va g' ∨ W.heap.size ≤ g') (hN : N ≤ W.heap.size) :
    NodeO N (w1.setCell ⟨nb, 2, none⟩ (.slice (some ⟨g', 0, none⟩) l.length c')) nb { x with vals := l } ka (some ⟨g', 0, none⟩) aa kc c' ac ∧ Below N W (w1.setCell ⟨nb, 2, none⟩ (.slice (some ⟨g', 0, none⟩) l.length c')) ∧ Box w1 nb #[.bool x.leaf, .slice ka x.keys.length kc, .slice va x.vals.length vc, .slice aa x.kids.length ac] := by
  have hgn : N ≤ g' ∧ g' ≠ nb := by
    rcases hg with h1 | h1
    · exact h.new g' (.inr (.inl h1))
    · have := h.box.lt; omega
  have hx1 : ¬ slB ka g' := by
    rcases hg with h1 | h1
    · exact fun e => h.kv g' e h1
    · exact fun e => by have := h.k.lt e; omega
  have hx2 : ¬ slB aa g' := by
    rcases hg with h1 | h1
    · exact h.va g' h1
    · exact fun e => by have := h.a.lt e; omega
  have hb1 := h.box.only o hgn.2.symm
  have o2 := (Only.refl nb w1).set 2 (.slice (some ⟨g', 0, none⟩) l.length c')
  have hb2 := hb1.set 2 (.slice (some ⟨g', 0, none⟩) l.length c')
  have ob : Below N W (w1.setCell ⟨nb, 2, none⟩ (.slice (some ⟨g', 0, none⟩) l.length c')) := (o.below hN hgn.1).trans (o2.below (Nat.le_trans hN o.size) h.ge)
  generalize w1.setCell ⟨nb, 2, none⟩ (.slice (some ⟨g', 0, none⟩) l.length c') = w2 at o2 hb2 ob ⊢
  refine ⟨⟨?_, (h.k.only o hx1).only o2 (fun e => (h.new nb (.inl e)).2 rfl), .inr ⟨g', rfl, r.only o2 hgn.2⟩, (h.a.only o hx2).only o2 (fun e => (h.new nb (.inr (.inr e))).2 rfl), h.ge, fun j hj => ?_, fun j hj e => hx1 (slB_inj e ▸ hj), h.ka, fun j hj e => hx2 (slB_inj hj ▸ e)⟩, ob, hb1⟩
  · simpa using hb2
  · rcases hj with hj | hj | hj
    · exact h.new j (.inl hj)
    · rw [slB_inj hj]; exact hgn
    · exact h.new j (.inr (.inr hj))
theorem NodeO.setA (h : NodeO N W nb x ka va aa kc vc ac) {g' c' : Nat} {w1 : World} {l : List Nat} (r : Row w1 g' c' (ints l)) (o : Only g' W w1) (hg : slB aa g' ∨ W.heap.size ≤ g') (hN : N ≤ W.heap.size) :
    NodeO N (w1.setCell ⟨nb, 3, none⟩ (.slice (some ⟨g', 0, none⟩) l.length c')) nb { x with kids := l } ka va (some ⟨g', 0, none⟩) kc vc c' ∧ Below N W (w1.setCell ⟨nb, 3, none⟩ (.slice (some ⟨g', 0, none⟩) l.length c')) ∧ Box w1 nb #[.bool x.leaf, .slice ka x.keys.length kc, .slice va x.vals.length vc, .slice aa x.kids.length ac] := by
  have hgn : N ≤ g' ∧ g' ≠ nb := by
    rcases hg with h1 | h1
    · exact h.new g' (.inr (.inr h1))
    · have := h.box.lt; omega
  have hx1 : ¬ slB ka g' := by
    rcases hg with h1 | h1
    · exact fun e => h.ka g' e h1
    · exact fun e => by have := h.k.lt e; omega
  have hx2 : ¬ slB va g' := by
    rcases hg with h1 | h1
    · exact fun e => h.va g' e h1
    · exact fun e => by have := h.v.lt e; omega
  have hb1 := h.box.only o hgn.2.symm
  have o2 := (Only.refl nb w1).set 3 (.slice (some ⟨g', 0, none⟩) l.length c')
  have hb2 := hb1.set 3 (.slice (some ⟨g', 0, none⟩) l.length c')
  have ob : Below N W (w1.setCell ⟨nb, 3, none⟩ (.slice (some ⟨g', 0, none⟩) l.length c')) := (o.below hN hgn.1).trans (o2.below (Nat.le_trans hN o.size) h.ge)
  generalize w1.setCell ⟨nb, 3, none⟩ (.slice (some ⟨g', 0, none⟩) l.length c') = w2 at o2 hb2 ob ⊢
  refine ⟨⟨?_, (h.k.only o hx1).only o2 (fun e => (h.new nb (.inl e)).2 rfl), (h.v.only o hx2).only o2 (fun e => (h.new nb (.inr (.inl e))).2 rfl), .inr ⟨g', rfl, r.only o2 hgn.2⟩, h.ge, fun j hj => ?_, h.kv, fun j hj e => hx1 (slB_inj e ▸ hj), fun j hj e => hx2 (slB_inj e ▸ hj)⟩, ob, hb1⟩
  · simpa using hb2
  · rcases hj with hj | hj | hj
    · exact h.new j (.inl hj)
    · exact h.new j (.inr (.inl hj))
    · rw [slB_inj hj]; exact hgn
set_option maxRecDepth 100000 in
theorem push_u64 {ao : Option Addr} {c : Nat} {l : List UInt64} (h : NR W ao c (u64s l)) (hl : l.length < 1000000) (v : UInt64) :
    ∃ g' c' W', (Builtin.append_ #[52, 52] 52 #[.slice ao l.length c, .slice (some ⟨W.heap.size, 0, none⟩) 1 1]).run Tryz.prog (W.alloc (.cells #[.int .u64 (v.toNat : Int)] 23)) = .ok (.slice (some ⟨g', 0, none⟩) (l.length + 1) c') W' ∧ Row W' g' c' (u64s (l ++ [v])) ∧ Only g' W W' ∧ (slB ao g' ∨ W.heap.size ≤ g') := by
  have hlen : (u64s l).length = l.length := u64s_length l
  obtain ⟨g', c', W', e, r, o, hg⟩ := UK.push_one (P := Tryz.prog) (t := 52) (ty := 52) Tryz.underlying52 (i := Tryz.t23) rfl rfl rfl (show (8 : Nat) ≤ 16 by omega) rfl h (.int .u64 (v.toNat : Int)) rfl (by rw [hlen]; omega)
  rw [hlen] at e
  exact ⟨g', c', W', e, by unfold u64s at *; rw [List.map_append]; exact r, o, hg⟩
end
theorem UK.step_append_run {P : Program} {t tx ty : TypeId} {sv xv v' : Value} {w w' : World} (hr : (Builtin.append_ #[t, tx] ty #[sv, xv]).run P w = .ok v' w') {ops : Array Oper} {o : Oper} {a : Act} {K : Act → World → Prop} {Q : Exit → Act → World → Prop} {E : Prop} {s x : Operand}
    (hg : o.guard = none) (hop : o.op = Op.call { callee := Callee.builtin Builtin.append, args := #[s, x], argTypes := #[t, tx] }) (hty : o.type = ty) (hs : a.eval s = sv) (hx : a.eval x = xv) (hK : K (a.put o.dst v') w') :
    if Region.wanted o (yielded ops a.tmps) = true then Oper.wp P o a w K Q else E := by
  have hw : Region.wanted o (yielded ops a.tmps) = true := by simp [Region.wanted, hg]
  rw [if_pos hw]
  subst hty
  unfold Oper.wp
  simp [execOp, hop, resolve, invoke, builtin, hs, hx, hr, Result.andThen]
  exact hK
set_option maxHeartbeats 1000000 in
set_option maxRecDepth 100000 in
theorem decode_leaf {W : World} {db cap n : Nat} {y : List UInt8} (hy : BytesAt W db y) (hyl : y.length = cap) (hc : 504 ≤ cap) (h0 : nth y 0 = 1) (h1 : (nth y 1).toNat = n) (hn : n ≤ 30) :
    Calls Tryz.prog 113 #[.slice (some ⟨db, 0, none⟩) 504 cap] W fun e w' => ∃ nb ka va kc vc, e = .returned (.tuple #[.pointer (some ⟨nb, 0, none⟩), .int .i64 0]) ∧ NodeO W.heap.size w' nb { leaf := true, keys := keysL y n, vals := valsL y n, kids := [] } ka va none kc vc 0 ∧ Below W.heap.size W w' := by
  have d0 := hy.cell (i := 0) (by omega)
  have d1 := hy.cell (i := 1) (by omega)
  rw [h0] at d0
  rw [show ((nth y 1).toNat : Int) = n by omega] at d1
  replace d0 : W.cell? ⟨db, 0, none⟩ = some (.int .u8 1) := d0
  have hdl : db < W.heap.size := hy.lt
  have hbx := Box.new W #[.bool true, .slice none 0 0, .slice none 0 0, .slice none 0 0] 141
  have hn0 : NodeO W.heap.size (W.alloc (.cells #[.bool true, .slice none 0 0, .slice none 0 0, .slice none 0 0] 141)) W.heap.size { leaf := true, keys := keysL y 0, vals := valsL y 0, kids := [] } none none none 0 0 0 :=
    ⟨hbx, NR.nil, NR.nil, NR.nil, Nat.le_refl _, fun g hg => (by rcases hg with h | h | h <;> cases h), fun g h => (by cases h), fun g h => (by cases h), fun g h => (by cases h)⟩
  have hb0 : Below W.heap.size W (W.alloc (.cells #[.bool true, .slice none 0 0, .slice none 0 0, .slice none 0 0] 141)) := (Below.refl _ _).alloc (Nat.le_refl _) _
  have hn30 : (n : Int) ≤ 30 := by omega
  have hn31 : decide ((n : Int) ≤ 30) = true := decide_eq_true hn30
  clear hbx hn30
  go_enter Tryz.func113, Tryz.ntmps113
  go_wp2_with fail
  go_loopw [26] (fun ix wr => ∃ (j : Nat) (ka va : Option Addr) (kc vc : Nat), ix = .int .i64 j ∧ j ≤ n ∧ NodeO W.heap.size wr W.heap.size { leaf := true, keys := keysL y j, vals := valsL y j, kids := [] } ka va none kc vc 0 ∧ Below W.heap.size W wr) (fun ix _ => 31 - (intOf ix).toNat)
  case atStart => exact ⟨0, none, none, 0, 0, rfl, Nat.zero_le _, hn0, hb0⟩
  case round =>
    clear hn0 hb0 d0 d1
    obtain ⟨j, ka, va, kc, vc, rfl, hj, hno, hbl⟩ := hrel
    by_cases hlt : j < n
    · have hyr := hy.below hbl hdl
      have hN := hbl.size
      have c1 : wr.cell? ⟨W.heap.size, 1, none⟩ = some (.slice ka j kc) := by rw [hno.box.cell 1 _ rfl]; show some (Value.slice ka (keysL y j).length kc) = _; rw [keysL_length]
      have g1 : Calls Tryz.prog 139 #[.slice (some ⟨db, 4 + 16 * j, none⟩) (504 - (4 + 16 * j)) (cap - (4 + 16 * j))] wr.drew fun e w' => e = .returned (.int .u64 ((g64 y (4 + 16 * j)).toNat : Int)) ∧ ∃ m, w' = wr.drew.drewN m := get_u64 (hyr.drew) (4 + 16 * j) (504 - (4 + 16 * j)) (cap - (4 + 16 * j)) (by omega) (by omega) (by omega)
      have c1a : ∀ x o, ((wr.drewN x).alloc o).cell? ⟨W.heap.size, 1, none⟩ = some (.slice ka j kc) := fun x o => by rw [((hno.box.of_block (W' := wr.drewN x) rfl).alloc o).cell 1 _ rfl]; show some (Value.slice ka (keysL y j).length kc) = _; rw [keysL_length]
      have G1 := Lib.hid g1
      have hap : ∀ m, ∃ p : Nat × Nat × World, (Builtin.append_ #[52, 52] 52 #[.slice ka j kc, .slice (some ⟨wr.heap.size, 0, none⟩) 1 1]).run Tryz.prog ((wr.drewN m).alloc (.cells #[.int .u64 ((g64 y (4 + 16 * j)).toNat : Int)] 23)) = .ok (.slice (some ⟨p.1, 0, none⟩) (j + 1) p.2.1) p.2.2 ∧ p.2.2.cell? ⟨W.heap.size, 1, none⟩ = some (.slice ka j kc) ∧ p.2.2.frozen? ⟨W.heap.size, 1, none⟩ = false ∧
          NodeO W.heap.size (p.2.2.setCell ⟨W.heap.size, 1, none⟩ (.slice (some ⟨p.1, 0, none⟩) (j + 1) p.2.1)) W.heap.size { leaf := true, keys := keysL y (j + 1), vals := valsL y j, kids := [] } (some ⟨p.1, 0, none⟩) va none p.2.1 vc 0 ∧ Below W.heap.size W (p.2.2.setCell ⟨W.heap.size, 1, none⟩ (.slice (some ⟨p.1, 0, none⟩) (j + 1) p.2.1)) := fun m => by
        have hno2 := hno.next (W' := wr.drewN m) (UK.belowN (Below.refl _ _) m)
        obtain ⟨g', c', w', e, r, o, hg⟩ := push_u64 hno2.k (by rw [keysL_length]; omega) (g64 y (4 + 16 * j))
        rw [keysL_length] at e
        obtain ⟨q1, q2, q3⟩ := hno2.setK r o hg hN
        rw [← keysL_snoc, keysL_length] at q1 q2
        refine ⟨(g', c', w'), e, ?_, q3.free 1, q1, (hbl.trans (UK.belowN (Below.refl _ _) m)).trans q2⟩
        rw [q3.cell 1 _ rfl]; show some (Value.slice ka (keysL y j).length kc) = _; rw [keysL_length]
      obtain ⟨G, hG⟩ := Classical.skolem.1 hap
      have HG := Lib.hid hG
      have cG := fun m => (hG m).2.1
      have fG := fun m => (hG m).2.2.1
      clear hap hG g1
      have n1 : IntKind.i64.wrap (16 * (j : Int)) = 16 * (j : Int) := by rw [IntKind.wrap_i64]; omega
      have n2 : IntKind.i64.wrap (4 + 16 * (j : Int)) = 4 + 16 * (j : Int) := by rw [IntKind.wrap_i64]; omega
      have i2 : (4 : Int) + 16 * j ≤ 504 := by omega
      have i3 : ¬ (cap = 4 + 16 * j) := by omega
      have i4 : (4 + 16 * (j : Int)).toNat = 4 + 16 * j := by omega
      have i5 : (0 : Int) ≤ 4 + 16 * (j : Int) := by omega
      go_upto_region 7 with (fail)
      go_cut [] (fun wx => ∃ (ka' : Option Addr) (kc' : Nat), NodeO W.heap.size wx W.heap.size { leaf := true, keys := keysL y (j + 1), vals := valsL y j, kids := [] } ka' va none kc' vc 0 ∧ Below W.heap.size W wx)
      case first =>
        go_region_law (first | (refine UK.step_append_run (HG.out _).1 rfl rfl rfl (by simp [Act.eval]) (by simp [Act.eval]) ?_) | (go_simp; go_at_call 139; refine G1.out.mono ?_; rintro e w2 ⟨rfl, m, rfl⟩))
        all_goals
          go_wp2_with fail
          go_meet
          case rel => exact ⟨_, _, (HG.out _).2.2.2.1, (HG.out _).2.2.2.2⟩
      case rest =>
        clear G1 HG cG fG c1 c1a hno hbl hyr hN
        obtain ⟨ka', kc', hno, hbl⟩ := hcut
        have hyr := hy.below hbl hdl
        have hN := hbl.size
        have hc2 : ∀ w1, Box w1 W.heap.size #[.bool true, .slice ka' (keysL y (j + 1)).length kc', .slice va (valsL y j).length vc, .slice none 0 0] → w1.cell? ⟨W.heap.size, 2, none⟩ = some (.slice va j vc) := fun w1 hb => (hb.cell 2 _ rfl).trans (by rw [valsL_length]; rfl)
        have c2 := hc2 _ hno.box
        have c2a : ∀ x o, ((wc.drewN x).alloc o).cell? ⟨W.heap.size, 2, none⟩ = some (.slice va j vc) := fun x o => hc2 _ ((hno.box.of_block (W' := wc.drewN x) rfl).alloc o)
        have g1 : Calls Tryz.prog 139 #[.slice (some ⟨db, 12 + 16 * j, none⟩) (504 - (12 + 16 * j)) (cap - (12 + 16 * j))] wc.drew fun e w' => e = .returned (.int .u64 ((g64 y (12 + 16 * j)).toNat : Int)) ∧ ∃ m, w' = wc.drew.drewN m := get_u64 (hyr.drew) (12 + 16 * j) (504 - (12 + 16 * j)) (cap - (12 + 16 * j)) (by omega) (by omega) (by omega)
        have G1 := Lib.hid g1
        have hap : ∀ m, ∃ p : Nat × Nat × World, (Builtin.append_ #[52, 52] 52 #[.slice va j vc, .slice (some ⟨wc.heap.size, 0, none⟩) 1 1]).run Tryz.prog ((wc.drewN m).alloc (.cells #[.int .u64 ((g64 y (12 + 16 * j)).toNat : Int)] 23)) = .ok (.slice (some ⟨p.1, 0, none⟩) (j + 1) p.2.1) p.2.2 ∧ p.2.2.cell? ⟨W.heap.size, 2, none⟩ = some (.slice va j vc) ∧ p.2.2.frozen? ⟨W.heap.size, 2, none⟩ = false ∧
            NodeO W.heap.size (p.2.2.setCell ⟨W.heap.size, 2, none⟩ (.slice (some ⟨p.1, 0, none⟩) (j + 1) p.2.1)) W.heap.size { leaf := true, keys := keysL y (j + 1), vals := valsL y (j + 1), kids := [] } ka' (some ⟨p.1, 0, none⟩) none kc' p.2.1 0 ∧ Below W.heap.size W (p.2.2.setCell ⟨W.heap.size, 2, none⟩ (.slice (some ⟨p.1, 0, none⟩) (j + 1) p.2.1)) := fun m => by
          have hno2 := hno.next (W' := wc.drewN m) (UK.belowN (Below.refl _ _) m)
          obtain ⟨g', c', w', e, r, o, hg⟩ := push_u64 hno2.v (by rw [valsL_length]; omega) (g64 y (12 + 16 * j))
          rw [valsL_length] at e
          obtain ⟨q1, q2, q3⟩ := hno2.setV r o hg hN
          rw [← valsL_snoc, valsL_length] at q1 q2
          exact ⟨(g', c', w'), e, hc2 _ q3, q3.free 2, q1, (hbl.trans (UK.belowN (Below.refl _ _) m)).trans q2⟩
        obtain ⟨G, hG⟩ := Classical.skolem.1 hap
        have HG := Lib.hid hG
        have cG := fun m => (hG m).2.1
        have fG := fun m => (hG m).2.2.1
        clear hap hG g1 hc2 i2 i3 i4 i5 n2
        have n2 : IntKind.i64.wrap (12 + 16 * (j : Int)) = 12 + 16 * (j : Int) := by rw [IntKind.wrap_i64]; omega
        have i2 : (12 : Int) + 16 * j ≤ 504 := by omega
        have i3 : ¬ (cap = 12 + 16 * j) := by omega
        have i4 : (12 + 16 * (j : Int)).toNat = 12 + 16 * j := by omega
        have i5 : (0 : Int) ≤ 12 + 16 * (j : Int) := by omega
        go_wp2_with fail
        go_region_law (first | (refine UK.step_append_run (HG.out _).1 rfl rfl rfl (by simp [Act.eval]) (by simp [Act.eval]) ?_) | (go_simp; go_at_call 139; refine G1.out.mono ?_; rintro e w2 ⟨rfl, m, rfl⟩))
        all_goals
          go_wp2
          go_roundw
          case rel => exact ⟨j + 1, _, _, _, _, by go_num, by omega, (HG.out _).2.2.2.1, (HG.out _).2.2.2.2⟩
          case measure => simp [intOf]; omega
    · obtain rfl : j = n := by omega
      go_wp2
      go_ret2
      exact ⟨W.heap.size, ka, va, kc, vc, rfl, hno, hbl⟩
end Go.Proofs.YtfljlcfmdcepnaaGreatDoor
