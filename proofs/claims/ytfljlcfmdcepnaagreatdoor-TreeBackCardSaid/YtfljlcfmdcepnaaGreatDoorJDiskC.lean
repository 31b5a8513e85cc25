/-
  check.step, Add, Zeros, Sum, Put, Get: what they compute, by the table. check.Sum, Zeros, Seal, Open; the document's Turn, Add, Put; the laws' Cut: what they compute. The plain laws of the sum: the table's steps are the bits' steps; four bytes and their number; what differs in up to four bytes has another sum.
  vint.U32, PutU32; disk.word: what they compute. disk.look, next, fail: what they compute.
  A disk in the world; fail, next, Count, Free, Room, Has. disk: Count, Free, Room, Has, next: what they compute.
-/
import Derived.Test.YtfljlcfmdcepnaaGreatDoorJUKit
import Derived.Deep.QuietTactic
import Derived.BigQuiet
import Derived.Test.YtfljlcfmdcepnaaGreatDoorJUMap
namespace Go.Proofs.YtfljlcfmdcepnaaGreatDoor
open Go.RowKit
open UK (str)
def tab (i : UInt32) : UInt32 := #[0x00000000, 0x105ec76f, 0x20bd8ede, 0x30e349b1, 0x417b1dbc, 0x5125dad3, 0x61c69362, 0x7198540d, 0x82f63b78, 0x92a8fc17, 0xa24bb5a6, 0xb21572c9, 0xc38d26c4, 0xd3d3e1ab, 0xe330a81a, 0xf36e6f75].getD i.toNat 0
def half (c : UInt32) : UInt32 := UK.xr (UK.dv16 c) (tab (UK.an15 c))
def stepU (c : UInt32) (b : UInt8) : UInt32 := half (half (UK.xr c (UK.wide b)))
def runU (c : UInt32) (l : List UInt8) : UInt32 := l.foldl stepU c
def addU (c : UInt32) (l : List UInt8) : UInt32 := UK.nt (runU (UK.nt c) l)
def putL (c : UInt32) : List UInt8 := [UK.byteOf c 0, UK.byteOf c 1, UK.byteOf c 2, UK.byteOf c 3]
theorem runU_snoc (c : UInt32) (l : List UInt8) (k : Nat) (h : k < l.length) : runU c (l.take (k + 1)) = stepU (runU c (l.take k)) (UK.nth l k) := by
  rw [List.take_succ_eq_append_getElem h]; unfold runU; rw [List.foldl_append]; simp [UK.nth, List.getD, h]
def TabAt (w : World) : Prop := ∀ c : UInt32, w.cell? ⟨0, (UK.an15 c).toNat, none⟩ = some (.int .u32 ((tab (UK.an15 c)).toNat : Int))
theorem step_any (c : UInt32) (b : UInt8) (w : World) (ht : TabAt w) :
    Calls Tryz.prog 150 #[.int .u32 c.toNat, .int .u8 b.toNat] w fun e w' => e = .returned (.int .u32 (stepU c b).toNat) ∧ w = w' := by
  unfold TabAt at ht
  have h5 := UK.and15_lt
  go_enter Tryz.func150, Tryz.ntmps150
  go_wp2
  go_ret
  exact ⟨rfl, rfl⟩
theorem add_any (c : UInt32) (l : List UInt8) (w : World) (ht : TabAt w) (hs : l.length ≤ maxLen) :
    Calls Tryz.prog 124 #[.int .u32 c.toNat, .string (str l)] w fun e w' => e = .returned (.int .u32 (addU c l).toNat) ∧ w = w' := by
  unfold maxLen at hs
  go_enter Tryz.func124, Tryz.ntmps124
  go_wp2
  go_loop [5, 11] (fun x i => ∃ k : Nat, k ≤ l.length ∧ i = .int .i64 k ∧ x = .int .u32 (runU (UK.nt c) (l.take k)).toNat) (fun _ i => l.length - (intOf i).toNat)
  case atStart => exact ⟨0, Nat.zero_le _, rfl, rfl⟩
  case round =>
    obtain ⟨k, hk, rfl, rfl⟩ := hrel
    by_cases hlt : k < l.length
    · have HS := Lib.hid (runU_snoc (UK.nt c) l k hlt)
      go_wp2_with (go_at_call 150; refine (step_any _ _ _ ht).mono ?_; rintro e w' ⟨rfl, rfl⟩)
      go_round
      case rel => exact ⟨k + 1, by omega, by go_num, by rw [HS.out]⟩
      case measure => simp [intOf]; omega
    · go_wp2
      go_ret
      exact ⟨by rw [List.take_of_length_le (by omega)]; rfl, rfl⟩
theorem run_four (W : World) (a b c d : UInt8) :
    (convert 87 9 (.slice (some ⟨W.heap.size, 0, none⟩) 4 4)).run Tryz.prog (W.alloc (.cells #[.int .u8 a.toNat, .int .u8 b.toNat, .int .u8 c.toNat, .int .u8 d.toNat] 5)) =
      .ok (.string (str [a, b, c, d])) (W.alloc (.cells #[.int .u8 a.toNat, .int .u8 b.toNat, .int .u8 c.toNat, .int .u8 d.toNat] 5)) := by
  have h := run_convert_bytes_back (P := Tryz.prog) (W.alloc (.cells #[.int .u8 a.toNat, .int .u8 b.toNat, .int .u8 c.toNat, .int .u8 d.toNat] 5)) 87 9 5 ⟨W.heap.size, 0, none⟩ 4 [a, b, c, d] Tryz.underlying87 Tryz.underlying5 Tryz.underlying9
  refine h (fun j hj => ?_)
  have hj' : j < 4 := by simpa using hj
  match j, hj' with
  | 0, _ | 1, _ | 2, _ | 3, _ => simp [Addr.add, World.cell?, World.alloc, -World.alloc_eq]
theorem put_any (c : UInt32) (w : World) :
    Calls Tryz.prog 123 #[.int .u32 c.toNat] w fun e w' => e = .returned (.string (str (putL c))) ∧ Below w.heap.size w w' := by
  have hcv := run_four
  go_enter Tryz.func123, Tryz.ntmps123
  go_wp2
  go_ret
  exact ⟨rfl, (Below.refl _ _).alloc (Nat.le_refl _) _⟩
def getL (l : List UInt8) : UInt32 :=
  UK.or32 (UK.or32 (UK.or32 (UK.wide (UK.nth l 0)) (UK.shl (UK.wide (UK.nth l 1)) 1)) (UK.shl (UK.wide (UK.nth l 2)) 2)) (UK.shl (UK.wide (UK.nth l 3)) 3)
theorem get_four (l : List UInt8) (w : World) (h : l.length = 4) :
    Calls Tryz.prog 90 #[.string (str l)] w fun e w' => e = .returned (.tuple #[.int .u32 (getL l).toNat, .bool true]) ∧ ∃ n, w' = w.drewN n := by
  have h1 : (0 : Int) < l.length := by omega
  have h1 : (1 : Int) < l.length := by omega
  have h1 : (2 : Int) < l.length := by omega
  have h1 : (3 : Int) < l.length := by omega
  have h2 : ((l.length : Int) == 4) = true := by rw [h]; rfl
  clear h
  go_enter Tryz.func90, Tryz.ntmps90
  go_wp2
  go_quiet (fail)
  go_wp2
  go_ret2
  exact ⟨rfl, _, rfl⟩
end Go.Proofs.YtfljlcfmdcepnaaGreatDoor
namespace Go.Proofs.YtfljlcfmdcepnaaGreatDoor
open Go.RowKit
open UK (str)
theorem TabAt.lt {w : World} (h : TabAt w) : 0 < w.heap.size := by
  have h0 := h 0
  unfold World.cell? at h0
  by_cases hl : 0 < w.heap.size
  · exact hl
  · rw [Array.getElem?_eq_none (by omega)] at h0; cases h0
theorem TabAt.below {w w' : World} (h : TabAt w) (hb : Below w.heap.size w w') : TabAt w' := fun c => by
  rw [hb.cell (p := ⟨_, _, none⟩) h.lt]; exact h c
theorem TabAt.drewN {w : World} (h : TabAt w) (n : Nat) : TabAt (w.drewN n) := fun c => h c
theorem add_zero (l : List UInt8) (w : World) (ht : TabAt w) (hs : l.length ≤ maxLen) :
    Calls Tryz.prog 124 #[.int .u32 0, .string (str l)] w fun e w' => e = .returned (.int .u32 (addU 0 l).toNat) ∧ w = w' :=
  add_any 0 l w ht hs
theorem sum_any (l : List UInt8) (w : World) (ht : TabAt w) (hs : l.length ≤ maxLen) :
    Calls Tryz.prog 91 #[.string (str l)] w fun e w' => e = .returned (.int .u32 (addU 0 l).toNat) ∧ w = w' := by
  go_enter Tryz.func91, Tryz.ntmps91
  go_wp2_with (go_at_call 124; refine (add_zero _ _ ht hs).mono ?_; rintro e w' ⟨rfl, rfl⟩)
  go_ret
  exact ⟨rfl, rfl⟩
def openB (l : List UInt8) : Bool := decide (4 ≤ l.length ∧ getL (l.drop (l.length - 4)) = addU 0 (l.take (l.length - 4)))
def opened (l : List UInt8) : List UInt8 := if openB l then l.take (l.length - 4) else []
end Go.Proofs.YtfljlcfmdcepnaaGreatDoor
namespace Go.Proofs.YtfljlcfmdcepnaaGreatDoor
open UK (str)
open Go.RowKit
def b1 (x : UInt32) : UInt32 := (x >>> 1) ^^^ (if x.toNat % 2 = 1 then UK.poly else 0)
/-! ## four bytes and their number -/
theorem or_sum {a b : UInt32} (k : Nat) (hb : b.toNat % 2 ^ k = 0) (ha : a.toNat < 2 ^ k) : (UK.or32 a b).toNat = a.toNat + b.toNat := by
  rw [UK.or32, UInt32.toNat_or, Nat.or_comm, nat_join k _ _ hb ha]; omega
theorem wide_toNat (b : UInt8) : (UK.wide b).toNat = b.toNat := by simp [UK.wide]
theorem shl_toNat (b : UInt8) (i : Nat) (h : i < 4) : (UK.shl (UK.wide b) i).toNat = b.toNat * 256 ^ i := by
  have := b.toNat_lt
  match i, h with
  | 0, _ => simp [UK.shl, UK.wide]
  | 1, _ | 2, _ | 3, _ => simp [UK.shl, UK.wide]; omega
theorem getL_toNat (l : List UInt8) : (getL l).toNat = (UK.nth l 0).toNat + 256 * (UK.nth l 1).toNat + 65536 * (UK.nth l 2).toNat + 16777216 * (UK.nth l 3).toNat := by
  have h0 := (UK.nth l 0).toNat_lt
  have h1 := (UK.nth l 1).toNat_lt
  have h2 := (UK.nth l 2).toNat_lt
  have h3 := (UK.nth l 3).toNat_lt
  have e1 := shl_toNat (UK.nth l 1) 1 (by decide)
  have e2 := shl_toNat (UK.nth l 2) 2 (by decide)
  have e3 := shl_toNat (UK.nth l 3) 3 (by decide)
  have e0 := wide_toNat (UK.nth l 0)
  unfold getL
  have s1 := or_sum (a := UK.wide (UK.nth l 0)) (b := UK.shl (UK.wide (UK.nth l 1)) 1) 8 (by rw [e1]; omega) (by rw [e0]; omega)
  have s2 := or_sum (a := UK.or32 (UK.wide (UK.nth l 0)) (UK.shl (UK.wide (UK.nth l 1)) 1)) (b := UK.shl (UK.wide (UK.nth l 2)) 2) 16 (by rw [e2]; omega) (by rw [s1, e0, e1]; omega)
  have s3 := or_sum (a := UK.or32 (UK.or32 (UK.wide (UK.nth l 0)) (UK.shl (UK.wide (UK.nth l 1)) 1)) (UK.shl (UK.wide (UK.nth l 2)) 2)) (b := UK.shl (UK.wide (UK.nth l 3)) 3) 24 (by rw [e3]; omega) (by rw [s2, s1, e0, e1, e2]; omega)
  rw [s3, s2, s1, e0, e1, e2, e3]; omega
theorem byteOf_toNat (c : UInt32) (i : Nat) : (UK.byteOf c i).toNat = c.toNat / 256 ^ i % 256 := by simp [UK.byteOf]
theorem get_put (c : UInt32) : getL (putL c) = c := by
  apply UInt32.toNat_inj.1
  rw [getL_toNat]
  have hc := c.toNat_lt
  show (UK.byteOf c 0).toNat + 256 * (UK.byteOf c 1).toNat + 65536 * (UK.byteOf c 2).toNat + 16777216 * (UK.byteOf c 3).toNat = _
  simp only [byteOf_toNat]
  omega
/-! ## what differs has another sum -/
end Go.Proofs.YtfljlcfmdcepnaaGreatDoor
namespace Go.Proofs.YtfljlcfmdcepnaaGreatDoor
open Go.RowKit
open UK (str BytesAt nth Only wr)
open Go.BigFrame
namespace UK
theorem wr_snoc (x : List UInt8) (a : Nat) (s : List UInt8) (v : UInt8) (h : a + s.length < x.length) : (wr x a s).set (a + s.length) v = wr x a (s ++ [v]) := by
  unfold wr
  have h1 : (x.take a).length = a := by rw [List.length_take]; omega
  rw [List.set_append_right _ _ (by omega), h1, List.set_append_right _ _ (by omega), show a + s.length - a - s.length = 0 by omega]
  rw [List.drop_eq_getElem_cons h, List.set_cons_zero, List.append_assoc, List.length_append]
  rfl
theorem wr_head (x : List UInt8) (a : Nat) (s : List UInt8) (h : a ≤ x.length) : (wr x a s).take (a + s.length) = x.take a ++ s := by
  unfold wr
  have h1 : (x.take a).length = a := by rw [List.length_take]; omega
  rw [← List.append_assoc, List.take_left' (by rw [List.length_append, h1])]
theorem wr_tail (x : List UInt8) (a : Nat) (s : List UInt8) (k : Nat) (h : a ≤ x.length) : (wr x a s).drop (a + s.length + k) = x.drop (a + s.length + k) := by
  unfold wr
  have h1 : (x.take a).length = a := by rw [List.length_take]; omega
  rw [← List.append_assoc, List.drop_append, List.drop_eq_nil_of_le (by rw [List.length_append, h1]; omega), List.nil_append, List.length_append, h1, show a + s.length + k - (a + s.length) = k by omega, List.drop_drop]
theorem wr_after (x : List UInt8) (a : Nat) (s t : List UInt8) (h : a ≤ x.length) : wr (wr x a s) (a + s.length) t = wr x a (s ++ t) := by
  conv => lhs; unfold wr
  have e := wr_head x a s h
  have f := wr_tail x a s t.length h
  unfold wr at e f ⊢
  rw [e, f, List.length_append, List.append_assoc, List.append_assoc, Nat.add_assoc]
theorem wr_before (x : List UInt8) (a : Nat) (b t : List UInt8) (h : a + b.length ≤ x.length) : wr (wr x (a + b.length) t) a b = wr x a (b ++ t) := by
  unfold wr
  have h1 : (x.take (a + b.length)).length = a + b.length := by rw [List.length_take]; omega
  rw [List.take_append_of_le_length (by omega), List.take_take, Nat.min_eq_left (by omega), List.drop_append_of_le_length (by omega), List.drop_eq_nil_of_le (by omega), List.nil_append, List.length_append, List.append_assoc, Nat.add_assoc]
theorem wr_at (x : List UInt8) (a : Nat) (s : List UInt8) (h : a ≤ x.length) : ((wr x a s).drop a).take s.length = s := by
  unfold wr
  have h1 : (x.take a).length = a := by rw [List.length_take]; omega
  rw [List.drop_left' h1, List.take_left' rfl]
theorem wr_nil (x : List UInt8) (a : Nat) : wr x a [] = x := by simp [wr]
def w32 (p : Nat) : UInt32 := UInt32.ofNat p
theorem w32_is (p : Nat) : (p : Int) % 4294967296 = ((w32 p).toNat : Int) := by
  simp [w32]
theorem TabAt_only {B : Nat} {w w' : World} (h : TabAt w) (ho : Only B w w') (hB : 0 ≠ B) : TabAt w' := fun c => by
  have hl := h.lt
  rw [← h c]
  exact World.cell?_of_block (a := ⟨0, _, none⟩) (ho.block _ hl hB)
end UK
open UK (w32)
theorem putL_take (v : UInt32) (k : Nat) (h : k < 4) : (putL v).take (k + 1) = (putL v).take k ++ [UK.byteOf v k] := by
  match k, h with
  | 0, _ | 1, _ | 2, _ | 3, _ => rfl
theorem put_u32 {W : World} {B : Nat} {x : List UInt8} (h : BytesAt W B x) (o n c : Nat) (hn : 4 ≤ n) (ho : o + n ≤ x.length) (hl : n ≤ 100000000) (v : UInt32) :
    Calls Tryz.prog 93 #[.slice (some ⟨B, o, none⟩) n c, .int .u32 v.toNat] W fun e w' => e = .returned (.tuple #[]) ∧ BytesAt w' B (UK.wr x o (putL v)) ∧ Only B W w' := by
  have h4 : (putL v).length = 4 := rfl
  go_enter Tryz.func93, Tryz.ntmps93
  go_wp2_with fail
  go_loopw [5] (fun i wr_ => ∃ k : Nat, k ≤ 4 ∧ i = .int .i64 k ∧ BytesAt wr_ B (UK.wr x o ((putL v).take k)) ∧ Only B W wr_) (fun i _ => 4 - (intOf i).toNat)
  case atStart => exact ⟨0, Nat.zero_le _, rfl, by rw [List.take_zero, UK.wr_nil]; exact h, Only.refl _ _⟩
  case round =>
    obtain ⟨k, hk, rfl, hb, hw⟩ := hrel
    by_cases hlt : k < 4
    · have hkl : ((putL v).take k).length = k := by rw [List.length_take, h4]; omega
      have hwl : (UK.wr x o ((putL v).take k)).length = x.length := UK.wr_length _ _ _ (by rw [hkl]; omega)
      have hc := hb.cell (i := o + k) (by omega)
      have hf := hb.free (i := o + k) (by omega)
      have hset := hb.set (o + k) (UK.byteOf v k)
      have hs2 := UK.wr_snoc x o ((putL v).take k) (UK.byteOf v k) (by rw [hkl]; omega)
      rw [hkl] at hs2
      rw [hs2, ← putL_take v k hlt] at hset
      have hwo := hw.set (o + k) (.int .u8 ((UK.byteOf v k).toNat : Int))
      clear hs2 hwl hkl h4
      go_wp2
      go_roundw
      case rel => exact ⟨k + 1, by omega, by go_num, hset, hwo⟩
      case measure => simp [intOf]; omega
    · obtain rfl : k = 4 := by omega
      go_wp2
      go_end0
      exact ⟨rfl, hb, hw⟩
theorem get_u32 {W : World} {B : Nat} {x : List UInt8} (h : BytesAt W B x) (o n c : Nat) (hn : 4 ≤ n) (ho : o + n ≤ x.length) :
    Calls Tryz.prog 43 #[.slice (some ⟨B, o, none⟩) n c] W fun e w' => e = .returned (.int .u32 (getL ((x.drop o).take 4)).toNat) ∧ Below W.heap.size W w' := by
  have c0 := h.cell (i := o) (by omega)
  have c1 := h.cell (i := o + 1) (by omega)
  have c2 := h.cell (i := o + 2) (by omega)
  have c3 := h.cell (i := o + 3) (by omega)
  have hg : Hid (getL ((x.drop o).take 4) = UK.or32 (UK.or32 (UK.or32 (UK.wide (nth x o)) (UK.shl (UK.wide (nth x (o + 1))) 1)) (UK.shl (UK.wide (nth x (o + 2))) 2)) (UK.shl (UK.wide (nth x (o + 3))) 3)) := by
    show _ = _
    unfold getL
    have e : ∀ j, j < 4 → nth ((x.drop o).take 4) j = nth x (o + j) := fun j hj => by
      simp only [nth, List.getD_eq_getElem?_getD]
      rw [List.getElem?_take_of_lt hj, List.getElem?_drop]
    rw [e 0 (by omega), e 1 (by omega), e 2 (by omega), e 3 (by omega), Nat.add_zero]
  go_enter Tryz.func43, Tryz.ntmps43
  go_wp2
  go_quiet (fail)
  go_wp2
  go_ret
  exact ⟨by rw [hg.out] <;> rfl, UK.belowN (Below.refl _ _) _⟩
theorem word_any (v : UInt32) (w : World) :
    Calls Tryz.prog 42 #[.int .u32 v.toNat] w fun e w' => e = .returned (.string (str (putL v))) ∧ Below w.heap.size w w' := by
  go_enter Tryz.func42, Tryz.ntmps42
  go_wp2_with fail
  have hz : BytesAt (w.alloc (.cells #[.int .u8 0, .int .u8 0, .int .u8 0, .int .u8 0] 169)) w.heap.size (UK.zeros 4) := by
    refine ⟨169, (0, 0), ?_, fun i _ h => absurd h.2 (Nat.not_lt_zero _)⟩
    show (w.heap.push _)[w.heap.size]? = _
    rw [Array.getElem?_push_size]
    rfl
  have hz4 : (UK.zeros 4).length = 4 := UK.zeros_length 4
  refine (put_u32 hz 0 4 4 (by omega) (by omega) (by omega) v).mono ?_
  rintro e w2 ⟨rfl, hb, ho⟩
  have hw : UK.wr (UK.zeros 4) 0 (putL v) = putL v := rfl
  rw [hw] at hb
  have hcv := UK.run_window (P := Tryz.prog) (src := 87) (dst := 9) Tryz.underlying87 Tryz.underlying5 Tryz.underlying9 hb 0 4 4 (by show 0 + 4 ≤ 4; omega)
  have hw2 : ((putL v).drop 0).take 4 = putL v := rfl
  rw [hw2] at hcv
  go_wp2
  go_ret
  exact ⟨rfl, ((Below.refl _ _).alloc (Nat.le_refl _) _).trans (ho.below (by simp) (Nat.le_refl _))⟩
def restL (p : Nat) (s : List UInt8) : List UInt8 := putL (w32 p) ++ (s ++ UK.zeros (504 - s.length))
def pageL (p : Nat) (s : List UInt8) : List UInt8 := putL (addU 0 (restL p s)) ++ restL p s
set_option maxRecDepth 100000 in
theorem lay_any {W : World} {D B : Nat} {x : List UInt8} (h : BytesAt W B x) (n c p : Nat) (s : List UInt8) (hd : W.cell? ⟨D, 0, none⟩ = some (.slice (some ⟨B, 0, none⟩) n c)) (hn : n ≤ x.length) (hc : n ≤ c) (hn1 : n ≤ 100000000) (hp : 512 * (p + 1) ≤ n) (hs : s.length ≤ 504)
    (ht : TabAt W) (hB : 0 ≠ B) :
    Calls Tryz.prog 88 #[.pointer (some ⟨D, 0, none⟩), .int .i64 p, .string (str s)] W fun e w' => e = .returned (.tuple #[]) ∧ BytesAt w' B (UK.wr x (512 * p) (pageL p s)) ∧ Only B W w' := by
  have h32 := Lib.hid (show (p : Int) = ((w32 p).toNat : Int) by rw [← UK.w32_is p]; omega)
  have hq : (p + 1) * 512 - p * 512 = 512 := by omega
  go_enter Tryz.func88, Tryz.ntmps88
  go_wp2_with fail
  obtain ⟨o, HO⟩ : ∃ o, p * 512 = o := ⟨_, rfl⟩
  rw [HO]
  have hq2 : (p + 1) * 512 - o = 512 := by omega
  rw [hq2]
  have hP := put_u32 h (o + 4) 508 (c - o - 4) (by omega) (by omega) (by omega) (w32 p)
  rw [← h32.out] at hP
  refine hP.mono ?_
  rintro e w1 ⟨rfl, h1, o1⟩
  have hl1 : (UK.wr x (o + 4) (putL (w32 p))).length = x.length := UK.wr_length _ _ _ (by show o + 4 + 4 ≤ _; omega)
  have hcp := fun cc => UK.run_copy (P := Tryz.prog) (dT := 87) (sT := 9) (ty := 3) Tryz.underlying87 (fun w => by kernel_rfl) h1 (o + 8) 504 cc s hs (by omega)
  have h2 := h1.setCells s (o + 8) (by omega)
  have o2 := o1.trans (Only.setCells (UK.cellsOf s) (o + 8) (Only.refl B w1))
  have hl2 := UK.wr_length (UK.wr x (o + 4) (putL (w32 p))) (o + 8) s (by omega)
  rw [hl1] at hl2
  obtain ⟨w2, HW2⟩ : ∃ w2, w1.setCells B (o + 8) (UK.cellsOf s) = w2 := ⟨_, rfl⟩
  rw [HW2] at h2 o2
  rw [HW2] at hcp
  have hcl := fun cc => UK.run_clear (P := Tryz.prog) (t := 87) (ty := 0) Tryz.underlying87 (fun w => by kernel_rfl) h2 (o + (8 + s.length)) (512 - (8 + s.length)) cc (by omega)
  have hz := h2.setCells (UK.zeros (512 - (8 + s.length))) (o + (8 + s.length)) (by rw [UK.zeros_length]; omega)
  have o3 := o2.trans (Only.setCells (UK.cellsOf (UK.zeros (512 - (8 + s.length)))) (o + (8 + s.length)) (Only.refl B w2))
  have hl3 := UK.wr_length (UK.wr (UK.wr x (o + 4) (putL (w32 p))) (o + 8) s) (o + (8 + s.length)) (UK.zeros (512 - (8 + s.length))) (by rw [UK.zeros_length]; omega)
  rw [hl2] at hl3
  obtain ⟨w3, HW3⟩ : ∃ w3, w2.setCells B (o + (8 + s.length)) (UK.cellsOf (UK.zeros (512 - (8 + s.length)))) = w3 := ⟨_, rfl⟩
  rw [HW3] at hz o3
  rw [HW3] at hcl
  have hcl0 : s.length = 504 → ∀ cc, (Builtin.clear_ #[87] 0 #[.slice (some ⟨B, o, none⟩) (512 - (8 + s.length)) cc]).run Tryz.prog w2 = .ok (.tuple #[]) w3 := fun e cc => by
    have this := UK.run_clear (P := Tryz.prog) (t := 87) (ty := 0) Tryz.underlying87 (fun w => by kernel_rfl) h2 o (512 - (8 + s.length)) cc (by omega)
    rw [← HW3]
    have e0 : 512 - (8 + s.length) = 0 := by omega
    rw [e0] at this ⊢
    exact this
  clear HW2 HW3
  have HX : Hid (UK.wr (UK.wr (UK.wr x (o + 4) (putL (w32 p))) (o + 8) s) (o + (8 + s.length)) (UK.zeros (512 - (8 + s.length))) = UK.wr x (o + 4) (restL p s)) := by
    show _ = _
    have h4 : (putL (w32 p)).length = 4 := rfl
    have e1 := UK.wr_after x (o + 4) (putL (w32 p)) s (by omega)
    have e2 := UK.wr_after x (o + 4) (putL (w32 p) ++ s) (UK.zeros (512 - (8 + s.length))) (by omega)
    rw [h4, show o + 4 + 4 = o + 8 by omega] at e1
    rw [List.length_append, h4, show o + 4 + (4 + s.length) = o + (8 + s.length) by omega] at e2
    rw [e1, e2]
    unfold restL
    rw [List.append_assoc, show 512 - (8 + s.length) = 504 - s.length by omega]
  rw [HX.out] at hz hl3
  have hrl : (restL p s).length = 508 := by
    unfold restL
    rw [List.length_append, List.length_append, UK.zeros_length]
    show 4 + _ = _
    omega
  have HR : Hid (((UK.wr x (o + 4) (restL p s)).drop (o + 4)).take 508 = restL p s) := by
    have := UK.wr_at x (o + 4) (restL p s) (by omega)
    rwa [hrl] at this
  have hcv := fun cc => UK.run_window (P := Tryz.prog) (src := 87) (dst := 9) Tryz.underlying87 Tryz.underlying5 Tryz.underlying9 hz (o + 4) 508 cc (by omega)
  rw [HR.out] at hcv
  have HE : Hid (UK.wr (UK.wr x (o + 4) (restL p s)) o (putL (addU 0 (restL p s))) = UK.wr x (512 * p) (pageL p s)) := by
    show _ = _
    rw [show 512 * p = o by omega]
    exact UK.wr_before x o (putL (addU 0 (restL p s))) (restL p s) (by show o + 4 ≤ _; omega)
  have ht3 := UK.TabAt_only ht o3 hB
  clear h1 h2 o1 o2 hl1 hl2 hP h32 HX HR
  generalize restL p s = r at hz hl3 hrl hcv HE
  by_cases hcase : c - o = 8 + s.length
  · have hs4 : s.length = 504 := by omega
    have hcl1 := hcl0 hs4
    clear hcl hcl0 hs4
    go_wp2_with fail
    refine (sum_any r w3 ht3 (by rw [hrl]; decide)).mono ?_
    rintro e w' ⟨rfl, rfl⟩
    go_wp2_with fail
    refine (put_any (addU 0 r) w3).mono ?_
    rintro e w5 ⟨rfl, b5⟩
    have h5 := hz.below b5 hz.lt
    have hcp2 := fun cc => UK.run_copy (P := Tryz.prog) (dT := 87) (sT := 9) (ty := 3) Tryz.underlying87 (fun w => by kernel_rfl) h5 o 512 cc (putL (addU 0 r)) (by show 4 ≤ _; omega) (by show o + 4 ≤ _; omega)
    have h6 := h5.setCells (putL (addU 0 r)) o (by show o + 4 ≤ _; omega)
    have o6 := (o3.trans (Only.of_below b5)).trans (Only.setCells (UK.cellsOf (putL (addU 0 r))) o (Only.refl B w5))
    rw [HE.out] at h6
    generalize w5.setCells B o (UK.cellsOf (putL (addU 0 r))) = w6 at hcp2 h6 o6
    go_wp2
    go_end0
    exact ⟨rfl, h6, o6⟩
  · clear hcl0
    go_wp2_with fail
    refine (sum_any r w3 ht3 (by rw [hrl]; decide)).mono ?_
    rintro e w' ⟨rfl, rfl⟩
    go_wp2_with fail
    refine (put_any (addU 0 r) w3).mono ?_
    rintro e w5 ⟨rfl, b5⟩
    have h5 := hz.below b5 hz.lt
    have hcp2 := fun cc => UK.run_copy (P := Tryz.prog) (dT := 87) (sT := 9) (ty := 3) Tryz.underlying87 (fun w => by kernel_rfl) h5 o 512 cc (putL (addU 0 r)) (by show 4 ≤ _; omega) (by show o + 4 ≤ _; omega)
    have h6 := h5.setCells (putL (addU 0 r)) o (by show o + 4 ≤ _; omega)
    have o6 := (o3.trans (Only.of_below b5)).trans (Only.setCells (UK.cellsOf (putL (addU 0 r))) o (Only.refl B w5))
    rw [HE.out] at h6
    generalize w5.setCells B o (UK.cellsOf (putL (addU 0 r))) = w6 at hcp2 h6 o6
    go_wp2
    go_end0
    exact ⟨rfl, h6, o6⟩
end Go.Proofs.YtfljlcfmdcepnaaGreatDoor
namespace Go.Proofs.YtfljlcfmdcepnaaGreatDoor
open Go.RowKit
open UK (str BytesAt nth Only w32)
open Go.BigFrame
def okB (x : List UInt8) (p : Nat) : Bool := decide (getL ((x.drop (512 * p)).take 4) = addU 0 ((x.drop (512 * p + 4)).take 508)) && decide (((getL ((x.drop (512 * p + 4)).take 4)).toNat : Int) = p)
def loadL (x : List UInt8) (p : Nat) : List UInt8 := (x.drop (512 * p + 8)).take 504
def lookL (x : List UInt8) (p : Nat) : List UInt8 := if okB x p then loadL x p else []
theorem lookL_yes {x : List UInt8} {p : Nat} (h : okB x p = true) : lookL x p = loadL x p := by unfold lookL; rw [h]; rfl
theorem lookL_no {x : List UInt8} {p : Nat} (h : okB x p = false) : lookL x p = [] := by unfold lookL; rw [h]; rfl
set_option maxRecDepth 100000 in
theorem look_any {W : World} {D B : Nat} {x : List UInt8} (h : BytesAt W B x) (n c p : Nat) (hd : W.cell? ⟨D, 0, none⟩ = some (.slice (some ⟨B, 0, none⟩) n c)) (hn : n ≤ x.length) (hc : n ≤ c) (hn1 : n ≤ 100000000) (hp : 512 * (p + 1) ≤ n) (ht : TabAt W) :
    Calls Tryz.prog 40 #[.pointer (some ⟨D, 0, none⟩), .int .i64 p] W fun e w' => e = .returned (.tuple #[.string (str (lookL x p)), .bool (okB x p)]) ∧ Below W.heap.size W w' := by
  obtain ⟨o, HO⟩ : ∃ o, p * 512 = o := ⟨_, rfl⟩
  have hq2 : (p + 1) * 512 - o = 512 := by omega
  have hcv1 := fun cc => UK.run_window (P := Tryz.prog) (src := 87) (dst := 9) Tryz.underlying87 Tryz.underlying5 Tryz.underlying9 h o 4 cc (by omega)
  have hl4 : ((x.drop o).take 4).length = 4 := by rw [List.length_take, List.length_drop]; omega
  have hl5 : ((x.drop (o + 4)).take 508).length = 508 := by rw [List.length_take, List.length_drop]; omega
  have HK : Hid (okB x p = (decide (getL ((x.drop o).take 4) = addU 0 ((x.drop (o + 4)).take 508)) && decide (((getL ((x.drop (o + 4)).take 4)).toNat : Int) = p))) := by
    show _ = _
    unfold okB
    rw [show 512 * p = o by omega]
  have HL : Hid (loadL x p = (x.drop (o + 8)).take 504) := by
    show _ = _
    unfold loadL
    rw [show 512 * p = o by omega]
  have hu := fun w hb => get_u32 (W := w) (B := B) (x := x) hb (o + 4) 508 (c - o - 4) (by omega) (by omega)
  have hvv := fun (w : World) (hb : BytesAt w B x) => UK.run_window (P := Tryz.prog) (src := 87) (dst := 9) Tryz.underlying87 Tryz.underlying5 Tryz.underlying9 hb (o + 4) 508 (c - o - 4) (by omega)
  have hvw := fun (w : World) (hb : BytesAt w B x) => UK.run_window (P := Tryz.prog) (src := 87) (dst := 9) Tryz.underlying87 Tryz.underlying5 Tryz.underlying9 hb (o + 8) 504 (c - o - 8) (by omega)
  generalize (x.drop o).take 4 = a at hcv1 hl4 HK
  generalize (x.drop (o + 4)).take 508 = r at hvv hl5 HK
  generalize getL ((x.drop (o + 4)).take 4) = u at hu HK
  generalize (x.drop (o + 8)).take 504 = s at hvw HL
  go_enter Tryz.func40, Tryz.ntmps40
  go_wp2_with fail
  refine (get_four a W hl4).mono ?_
  rintro e w' ⟨rfl, k, rfl⟩
  have hv1 := hvv _ (h.drewN k)
  go_wp2_with fail
  refine (sum_any r _ (ht.drewN k) (by rw [hl5]; decide)).mono ?_
  rintro e w' ⟨rfl, rfl⟩
  have b1 := UK.belowN (Below.refl W.heap.size W) k
  have h1 := h.drewN k
  generalize W.drewN k = w1 at h1 b1 hv1 ⊢
  generalize getL a = ga at HK ⊢
  generalize addU 0 r = ar at HK ⊢
  by_cases hne : ga = ar
  · subst hne
    go_wp2_with fail
    refine (hu w1 h1).mono ?_
    rintro e w2 ⟨rfl, b2⟩
    have h2 := h1.below b2 h1.lt
    have hv2 := hvw _ h2
    have b3 := b1.trans (b2.mono b1.size)
    by_cases hp2 : (u.toNat : Int) = p
    · have HO2 : Hid (okB x p = true) := by show _ = _; rw [HK.out, decide_eq_true hp2]; simp
      have hp3 : ((u.toNat : Int) == p) = true := beq_iff_eq.2 hp2
      clear hp2 hv1
      go_wp2
      go_ret2
      exact ⟨by rw [lookL_yes HO2.out, HO2.out, HL.out] <;> rfl, b3⟩
    · have HO2 : Hid (okB x p = false) := by show _ = _; rw [HK.out, decide_eq_false hp2, Bool.and_false]
      have hp3 : ((u.toNat : Int) == p) = false := beq_eq_false_iff_ne.2 hp2
      clear hp2 hv1 hv2
      go_wp2
      go_ret2
      exact ⟨by rw [lookL_no HO2.out, HO2.out] <;> rfl, b3⟩
  · have HO2 : Hid (okB x p = false) := by show _ = _; rw [HK.out, decide_eq_false hne, Bool.false_and]
    have hp3 : (ga == ar) = false := beq_eq_false_iff_ne.2 hne
    have hnu := UK.ne_u32
    clear hne
    go_wp2
    go_ret2
    exact ⟨by rw [lookL_no HO2.out, HO2.out] <;> rfl, b1⟩
end Go.Proofs.YtfljlcfmdcepnaaGreatDoor
namespace Go.Proofs.YtfljlcfmdcepnaaGreatDoor
open Go.RowKit
open UK (str BytesAt nth Only w32 Row)
open Go.BigFrame
structure Dk where
  x : List UInt8
  most : Int
  free : List Nat
  isf : List Bool
  rl : Int
  wl : Int
  reads : Int
  puts : Int
def ints (l : List Nat) : List Value := l.map fun (n : Nat) => Value.int .i64 (n : Int)
def bools (l : List Bool) : List Value := l.map Value.bool
theorem ints_length (l : List Nat) : (ints l).length = l.length := by simp [ints]
theorem bools_length (l : List Bool) : (bools l).length = l.length := by simp [bools]
def Dk.vals (d : Dk) (B bc : Nat) (fo : Option Addr) (fc I ic : Nat) : List Value :=
  [.slice (some ⟨B, 0, none⟩) d.x.length bc, .int .i64 d.most, .slice fo d.free.length fc, .slice (some ⟨I, 0, none⟩) d.isf.length ic, .int .i64 d.rl, .int .i64 d.wl, .int .i64 d.reads, .int .i64 d.puts]
structure DiskAt (W : World) (own : Nat → Prop) (D B bc : Nat) (fo : Option Addr) (fc I ic : Nat) (y : List UInt8) (d : Dk) : Prop where
  cells : Row W D 8 (d.vals B bc fo fc I ic)
  bytes : BytesAt W B y
  ylen : y.length = bc
  le : d.x.length ≤ bc
  pre : y.take d.x.length = d.x
  freeAt : (fo = none ∧ d.free = [] ∧ fc = 0) ∨ ∃ F, fo = some ⟨F, 0, none⟩ ∧ Row W F fc (ints d.free) ∧ F ≠ D ∧ F ≠ B ∧ F ≠ I ∧ own F
  flags : Row W I ic (bools d.isf)
  DB : D ≠ B
  DI : D ≠ I
  BI : B ≠ I
  oD : own D
  oB : own B
  oI : own I
  tab : TabAt W
  notab : ¬ own 0
def Disk (W : World) (own : Nat → Prop) (D : Nat) (d : Dk) : Prop := ∃ B bc fo fc I ic y, DiskAt W own D B bc fo fc I ic y d
structure Moves (own own' : Nat → Prop) (W W' : World) : Prop where
  os : W'.os = W.os
  tape : W'.tape = W.tape
  output : W'.output = W.output
  size : W.heap.size ≤ W'.heap.size
  block : ∀ k, k < W.heap.size → ¬ own k → W'.heap[k]? = W.heap[k]?
  owns : ∀ k, own' k → own k ∨ W.heap.size ≤ k
namespace Moves
variable {o o' o'' : Nat → Prop} {A B C : World}
theorem trans (h : Moves o o' A B) (k : Moves o' o'' B C) : Moves o o'' A C :=
  ⟨k.os.trans h.os, k.tape.trans h.tape, k.output.trans h.output, Nat.le_trans h.size k.size,
    fun i hi hn => (k.block i (Nat.lt_of_lt_of_le hi h.size) (fun ho => by rcases h.owns i ho with h1 | h1; exact hn h1; omega)).trans (h.block i hi hn),
    fun i hi => by
      rcases k.owns i hi with h1 | h1
      · exact h.owns i h1
      · exact .inr (Nat.le_trans h.size h1)⟩
theorem of_below (h : Below A.heap.size A B) : Moves o o A B := ⟨h.os, h.tape, h.output, h.size, fun k hk _ => h.block k hk, fun _ h => .inl h⟩
theorem of_only {G : Nat} (h : Only G A B) (hG : o G) : Moves o o A B := ⟨h.os, h.tape, h.output, h.size, fun k hk hn => h.block k hk (fun e => hn (e ▸ hG)), fun _ h => .inl h⟩
theorem below (h : Moves o o' A B) {n : Nat} (hn : n ≤ A.heap.size) (ho : ∀ k, o k → n ≤ k) : Below n A B :=
  ⟨h.os, h.tape, h.output, h.size, fun k hk => h.block k (by omega) (fun hh => by have := ho k hh; omega)⟩
end Moves
def failN (n : Int) : Int := if n = 0 then -1 else if 0 < n then n - 1 else n
def failE (n : Int) : Int := if n = 0 then 7 else 0
theorem fail_any {W : World} {D : Nat} {vs : List Value} (h : Row W D 8 vs) (j : Nat) (n : Int) (hj : vs[j]? = some (.int .i64 n)) (hn : -1 ≤ n ∧ n ≤ 9223372036854775807) :
    Calls Tryz.prog 87 #[.pointer (some ⟨D, 0, none⟩), .pointer (some ⟨D, j, none⟩)] W fun e w' => e = .returned (.int .i64 (failE n)) ∧ Row w' D 8 (vs.set j (.int .i64 (failN n))) ∧ Only D W w' := by
  have hc := h.at' j _ hj
  have hl : j < vs.length := (List.getElem?_eq_some_iff.1 hj).1
  have hf := h.free j (by have := h.le; omega)
  have hs := h.set j (.int .i64 (failN n)) hl
  have ho := (Only.refl D W).set j (.int .i64 (failN n))
  have hn1 := hn.1
  have hn2 := hn.2
  clear hn
  by_cases h0 : n = 0
  · have HE : Hid (failE n = 7) := by show _ = _; unfold failE; rw [if_pos h0]
    have HN : Hid (failN n = -1) := by show _ = _; unfold failN; rw [if_pos h0]
    rw [HN.out] at hs ho
    rw [HE.out, HN.out]
    subst h0
    go_enter Tryz.func87, Tryz.ntmps87
    go_wp2
    go_ret
    exact ⟨rfl, hs, ho⟩
  · have hne : (n == 0) = false := beq_eq_false_iff_ne.2 h0
    have HE : Hid (failE n = 0) := by show _ = _; unfold failE; rw [if_neg h0]
    rw [HE.out]
    by_cases hp : 0 < n
    · have HN : Hid (failN n = n - 1) := by show _ = _; unfold failN; rw [if_neg h0, if_pos hp]
      rw [HN.out] at hs ho
      rw [HN.out]
      clear h0
      go_enter Tryz.func87, Tryz.ntmps87
      go_wp2
      go_ret
      exact ⟨rfl, hs, ho⟩
    · have HN : Hid (failN n = n) := by show _ = _; unfold failN; rw [if_neg h0, if_neg hp]
      have hset : vs.set j (.int .i64 n) = vs := by
        refine List.ext_getElem? (fun i => ?_)
        by_cases hi : i = j
        · subst hi; rw [List.getElem?_set_self hl, hj]
        · rw [List.getElem?_set_ne (by omega)]
      rw [HN.out, hset]
      clear h0
      go_enter Tryz.func87, Tryz.ntmps87
      go_wp2
      go_ret
      exact ⟨rfl, h, Only.refl _ _⟩
end Go.Proofs.YtfljlcfmdcepnaaGreatDoor
namespace Go.Proofs.YtfljlcfmdcepnaaGreatDoor
open Go.RowKit
open UK (str BytesAt nth Only w32 Row)
open Go.BigFrame
structure Fit (d : Dk) (cnt : Nat) : Prop where
  len : d.x.length = 512 * cnt
  flags : d.isf.length = cnt
  one : 1 ≤ cnt
  few : cnt ≤ 60000
  most : 2 ≤ d.most ∧ d.most ≤ 60000 ∧ (cnt : Int) ≤ d.most
  free : ∀ p, p ∈ d.free → 1 ≤ p ∧ p < cnt
  freeLe : d.free.length ≤ cnt
  rl : -1 ≤ d.rl ∧ d.rl ≤ 9223372036854775807
  wl : -1 ≤ d.wl ∧ d.wl ≤ 9223372036854775807
  reads : 0 ≤ d.reads ∧ d.reads < 1000000000
  puts : 0 ≤ d.puts ∧ d.puts < 1000000000
section
variable {W : World} {own : Nat → Prop} {D B bc fc I ic cnt : Nat} {fo : Option Addr} {y : List UInt8} {d : Dk}
theorem DiskAt.below {W' : World} (h : DiskAt W own D B bc fo fc I ic y d) (hb : Below W.heap.size W W') : DiskAt W' own D B bc fo fc I ic y d := by
  refine ⟨h.cells.below hb h.cells.lt, h.bytes.below hb h.bytes.lt, h.ylen, h.le, h.pre, ?_, h.flags.below hb h.flags.lt, h.DB, h.DI, h.BI, h.oD, h.oB, h.oI, h.tab.below hb, h.notab⟩
  rcases h.freeAt with h0 | ⟨F, e, hr, r⟩
  · exact .inl h0
  · exact .inr ⟨F, e, hr.below hb hr.lt, r⟩
theorem DiskAt.drewN (h : DiskAt W own D B bc fo fc I ic y d) (n : Nat) : DiskAt (W.drewN n) own D B bc fo fc I ic y d := h.below (UK.belowN (Below.refl _ _) n)
theorem count_any (h : DiskAt W own D B bc fo fc I ic y d) (f : Fit d cnt) :
    Calls Tryz.prog 67 #[.pointer (some ⟨D, 0, none⟩)] W fun e w' => e = .returned (.int .i64 cnt) ∧ w' = W := by
  have c0 := h.cells.at' 0 _ rfl
  rw [f.len] at c0
  have hfew := f.few
  go_enter Tryz.func67, Tryz.ntmps67
  go_wp2
  go_ret
  exact ⟨by simp, rfl⟩
theorem room_any (h : DiskAt W own D B bc fo fc I ic y d) (f : Fit d cnt) :
    Calls Tryz.prog 25 #[.pointer (some ⟨D, 0, none⟩)] W fun e w' => e = .returned (.int .i64 (d.most - cnt + d.free.length)) ∧ ∃ q, w' = W.drewN q := by
  have c1 := fun q => (h.drewN q).cells.at' 1 _ rfl
  have c2 := fun q => (h.drewN q).cells.at' 2 _ rfl
  have c1' := h.cells.at' 1 _ rfl
  have c2' := h.cells.at' 2 _ rfl
  have hfew := f.few
  have hm1 := f.most.1
  have hm2 := f.most.2.1
  have hm3 := f.most.2.2
  have hfl := f.freeLe
  go_enter Tryz.func25, Tryz.ntmps25
  go_wp2_with fail
  go_quiet (refine Calls.quiet_of_same (count_any (h.drewN _) f))
  go_wp2
  go_ret
  exact ⟨rfl, _, rfl⟩
def hasD (d : Dk) (cnt : Nat) (p : Int) : Bool := decide (1 ≤ p ∧ p < cnt) && !(d.isf.getD p.toNat false)
theorem bools_at (l : List Bool) (k : Nat) (h : k < l.length) : (bools l)[k]? = some (.bool (l.getD k false)) := by
  simp [bools, List.getElem?_eq_getElem h, List.getD_eq_getElem?_getD]
theorem ints_at (l : List Nat) (k : Nat) (h : k < l.length) : (ints l)[k]? = some (.int .i64 ((l.getD k 0 : Nat) : Int)) := by
  simp [ints, List.getElem?_eq_getElem h, List.getD_eq_getElem?_getD]
theorem hasd_any (h : DiskAt W own D B bc fo fc I ic y d) (f : Fit d cnt) (p : Int) :
    Calls Tryz.prog 102 #[.pointer (some ⟨D, 0, none⟩), .int .i64 p] W fun e w' => e = .returned (.bool (hasD d cnt p)) ∧ ∃ q, w' = W.drewN q := by
  by_cases h1 : 1 ≤ p
  · by_cases h2 : p < cnt
    · obtain ⟨k, rfl⟩ : ∃ k : Nat, p = k := ⟨p.toNat, by omega⟩
      have hk : k < d.isf.length := by rw [f.flags]; omega
      have c3 := h.cells.at' 3 _ rfl
      have ck := h.flags.at' k _ (bools_at d.isf k hk)
      have HH : Hid (hasD d cnt k = !(d.isf.getD k false)) := by show _ = _; unfold hasD; rw [decide_eq_true ⟨h1, h2⟩, Int.toNat_natCast, Bool.true_and]
      rw [HH.out]
      generalize d.isf.getD k false = b at ck
      have hfew := f.few
      go_enter Tryz.func102, Tryz.ntmps102
      go_wp2_with fail
      refine (count_any h f).mono ?_
      rintro e w' ⟨rfl, rfl⟩
      go_wp2
      go_ret
      exact ⟨rfl, 0, rfl⟩
    · have HH : Hid (hasD d cnt p = false) := by show _ = _; unfold hasD; rw [decide_eq_false (fun a => h2 a.2)]; rfl
      rw [HH.out]
      have h3 : (cnt : Int) ≤ p := by omega
      clear h2
      go_enter Tryz.func102, Tryz.ntmps102
      go_wp2_with fail
      refine (count_any h f).mono ?_
      rintro e w' ⟨rfl, rfl⟩
      go_wp2
      go_ret
      exact ⟨rfl, 0, rfl⟩
  · have HH : Hid (hasD d cnt p = false) := by show _ = _; unfold hasD; rw [decide_eq_false (fun a => h1 a.1)]; rfl
    rw [HH.out]
    have h3 : p < 1 := by omega
    clear h1
    go_enter Tryz.func102, Tryz.ntmps102
    go_wp2
    go_ret
    exact ⟨rfl, 0, rfl⟩
def nextL (d : Dk) (i : Nat) : List UInt8 := putL (if i = 0 then w32 4294967295 else w32 (d.free.getD (i - 1) 0))
theorem next_any (h : DiskAt W own D B bc fo fc I ic y d) (f : Fit d cnt) (i : Nat) (hi : i ≤ d.free.length) :
    Calls Tryz.prog 89 #[.pointer (some ⟨D, 0, none⟩), .int .i64 i] W fun e w' => e = .returned (.string (str (nextL d i))) ∧ Below W.heap.size W w' := by
  by_cases h0 : i = 0
  · subst h0
    have HN : Hid (nextL d 0 = putL (w32 4294967295)) := rfl
    have hw := fun w => word_any (w32 4294967295) w
    rw [show ((w32 4294967295).toNat : Int) = 4294967295 from rfl] at hw
    go_enter Tryz.func89, Tryz.ntmps89
    go_wp2_with fail
    refine (hw _).mono ?_
    rintro e w' ⟨rfl, b⟩
    go_wp2
    go_ret
    exact ⟨by rw [HN.out] <;> rfl, b⟩
  · obtain ⟨k, rfl⟩ : ∃ k, i = k + 1 := ⟨i - 1, by omega⟩
    have HN : Hid (nextL d (k + 1) = putL (w32 (d.free.getD k 0))) := by show _ = _; unfold nextL; rw [if_neg h0, Nat.add_sub_cancel]
    have c2 := h.cells.at' 2 _ rfl
    rcases h.freeAt with ⟨_, hf, _⟩ | ⟨F, rfl, hr, _⟩
    · rw [hf] at hi; simp at hi
    · have hk := hr.at' k _ (ints_at d.free k (by omega))
      have hfk := f.free (d.free.getD k 0) (by rw [List.getD_eq_getElem?_getD, List.getElem?_eq_getElem (by omega)]; exact List.getElem_mem _)
      have hfew := f.few
      obtain ⟨q, HQ⟩ : ∃ q, Hid (d.free.getD k 0 = q) := ⟨_, rfl⟩
      rw [HQ.out] at hk hfk HN
      have hw := fun w => word_any (w32 q) w
      rw [show ((w32 q).toNat : Int) = q by rw [← UK.w32_is q]; omega] at hw
      have hq1 := hfk.1
      have hq2 := hfk.2
      have hk6 : k < 60000 := by have := f.freeLe; omega
      have hk7 : k < d.free.length := by omega
      clear hfk h0
      go_enter Tryz.func89, Tryz.ntmps89
      go_wp2_with fail
      refine (hw _).mono ?_
      rintro e w' ⟨rfl, b⟩
      go_wp2
      go_ret
      exact ⟨by rw [HN.out] <;> rfl, b⟩
end
end Go.Proofs.YtfljlcfmdcepnaaGreatDoor
