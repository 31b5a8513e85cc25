/-
  check.step, Add, Zeros, Sum, Put, Get: what they compute, by the table.
  check.Sum, Zeros, Seal, Open; the document's Turn, Add, Put; the laws' Cut: what they compute.
  The plain laws of the sum: the table's steps are the bits' steps; four bytes and their number; what differs in up to four bytes has another sum.
-/
import Derived.Test.YtjfkdfffolkblaaDoorUKit
import Derived.Deep.QuietTactic
import Derived.BigQuiet
namespace Go.Proofs.YtjfkdfffolkblaaDoor
open Go.RowKit
open UK (str)
def tab (i : UInt32) : UInt32 := #[0x00000000, 0x105ec76f, 0x20bd8ede, 0x30e349b1, 0x417b1dbc, 0x5125dad3, 0x61c69362, 0x7198540d, 0x82f63b78, 0x92a8fc17, 0xa24bb5a6, 0xb21572c9, 0xc38d26c4, 0xd3d3e1ab, 0xe330a81a, 0xf36e6f75].getD i.toNat 0
def half (c : UInt32) : UInt32 := UK.xr (UK.dv16 c) (tab (UK.an15 c))
def stepU (c : UInt32) (b : UInt8) : UInt32 := half (half (UK.xr c (UK.wide b)))
def runU (c : UInt32) (l : List UInt8) : UInt32 := l.foldl stepU c
def addU (c : UInt32) (l : List UInt8) : UInt32 := UK.nt (runU (UK.nt c) l)
def putL (c : UInt32) : List UInt8 := [UK.byteOf c 0, UK.byteOf c 1, UK.byteOf c 2, UK.byteOf c 3]
theorem runU_snoc (c : UInt32) (l : List UInt8) (k : Nat) (h : k < l.length) : runU c (l.take (k + 1)) = stepU (runU c (l.take k)) (UK.nth l k) := by
  rw [List.take_succ_eq_append_getElem h]; unfold runU; rw [List.foldl_append]; simp [UK.nth, List.getD, h]
def TabAt (w : World) : Prop := ∀ c : UInt32, w.cell? ⟨0, (UK.an15 c).toNat, none⟩ = some (.int .u32 ((tab (UK.an15 c)).toNat : Int))
theorem step_any (c : UInt32) (b : UInt8) (w : World) (ht : TabAt w) :
    Calls Tryd.prog 160 #[.int .u32 c.toNat, .int .u8 b.toNat] w fun e w' => e = .returned (.int .u32 (stepU c b).toNat) ∧ w = w' := by
  unfold TabAt at ht
  have h5 := UK.and15_lt
  go_enter Tryd.func160, Tryd.ntmps160
  go_wp2
  go_ret
  exact ⟨rfl, rfl⟩
theorem add_any (c : UInt32) (l : List UInt8) (w : World) (ht : TabAt w) (hs : l.length ≤ maxLen) :
    Calls Tryd.prog 135 #[.int .u32 c.toNat, .string (str l)] w fun e w' => e = .returned (.int .u32 (addU c l).toNat) ∧ w = w' := by
  unfold maxLen at hs
  go_enter Tryd.func135, Tryd.ntmps135
  go_wp2
  go_loop [5, 11] (fun x i => ∃ k : Nat, k ≤ l.length ∧ i = .int .i64 k ∧ x = .int .u32 (runU (UK.nt c) (l.take k)).toNat) (fun _ i => l.length - (intOf i).toNat)
  case atStart => exact ⟨0, Nat.zero_le _, rfl, rfl⟩
  case round =>
    obtain ⟨k, hk, rfl, rfl⟩ := hrel
    by_cases hlt : k < l.length
    · have HS := Lib.hid (runU_snoc (UK.nt c) l k hlt)
      go_wp2_with (go_at_call 160; refine (step_any _ _ _ ht).mono ?_; rintro e w' ⟨rfl, rfl⟩)
      go_round
      case rel => exact ⟨k + 1, by omega, by go_num, by rw [HS.out]⟩
      case measure => simp [intOf]; omega
    · go_wp2
      go_ret
      exact ⟨by rw [List.take_of_length_le (by omega)]; rfl, rfl⟩
theorem run_four (W : World) (a b c d : UInt8) :
    (convert 77 9 (.slice (some ⟨W.heap.size, 0, none⟩) 4 4)).run Tryd.prog (W.alloc (.cells #[.int .u8 a.toNat, .int .u8 b.toNat, .int .u8 c.toNat, .int .u8 d.toNat] 5)) =
      .ok (.string (str [a, b, c, d])) (W.alloc (.cells #[.int .u8 a.toNat, .int .u8 b.toNat, .int .u8 c.toNat, .int .u8 d.toNat] 5)) := by
  have h := run_convert_bytes_back (P := Tryd.prog) (W.alloc (.cells #[.int .u8 a.toNat, .int .u8 b.toNat, .int .u8 c.toNat, .int .u8 d.toNat] 5)) 77 9 5 ⟨W.heap.size, 0, none⟩ 4 [a, b, c, d] Tryd.underlying77 Tryd.underlying5 Tryd.underlying9
  refine h (fun j hj => ?_)
  have hj' : j < 4 := by simpa using hj
  match j, hj' with
  | 0, _ | 1, _ | 2, _ | 3, _ => simp [Addr.add, World.cell?, World.alloc, -World.alloc_eq]
theorem step_zero (c : UInt32) (w : World) (ht : TabAt w) :
    Calls Tryd.prog 160 #[.int .u32 c.toNat, .int .u8 0] w fun e w' => e = .returned (.int .u32 (stepU c 0).toNat) ∧ w = w' := step_any c 0 w ht
theorem run_one (W : World) (a : UInt8) :
    (convert 77 9 (.slice (some ⟨W.heap.size, 0, none⟩) 1 1)).run Tryd.prog (W.alloc (.cells #[.int .u8 a.toNat] 5)) =
      .ok (.string (str [a])) (W.alloc (.cells #[.int .u8 a.toNat] 5)) := by
  have h := run_convert_bytes_back (P := Tryd.prog) (W.alloc (.cells #[.int .u8 a.toNat] 5)) 77 9 5 ⟨W.heap.size, 0, none⟩ 1 [a] Tryd.underlying77 Tryd.underlying5 Tryd.underlying9
  refine h (fun j hj => ?_)
  have hj' : j < 1 := by simpa using hj
  obtain rfl : j = 0 := by omega
  simp [Addr.add, World.cell?, World.alloc, -World.alloc_eq]
theorem put_any (c : UInt32) (w : World) :
    Calls Tryd.prog 130 #[.int .u32 c.toNat] w fun e w' => e = .returned (.string (str (putL c))) ∧ Below w.heap.size w w' := by
  have hcv := run_four
  go_enter Tryd.func130, Tryd.ntmps130
  go_wp2
  go_ret
  exact ⟨rfl, (Below.refl _ _).alloc (Nat.le_refl _) _⟩
/-- the number of four bytes -/
def getL (l : List UInt8) : UInt32 :=
  UK.or32 (UK.or32 (UK.or32 (UK.wide (UK.nth l 0)) (UK.shl (UK.wide (UK.nth l 1)) 1)) (UK.shl (UK.wide (UK.nth l 2)) 2)) (UK.shl (UK.wide (UK.nth l 3)) 3)
theorem get_four (l : List UInt8) (w : World) (h : l.length = 4) :
    Calls Tryd.prog 115 #[.string (str l)] w fun e w' => e = .returned (.tuple #[.int .u32 (getL l).toNat, .bool true]) ∧ ∃ n, w' = w.drewN n := by
  have h1 : (0 : Int) < l.length := by omega
  have h1 : (1 : Int) < l.length := by omega
  have h1 : (2 : Int) < l.length := by omega
  have h1 : (3 : Int) < l.length := by omega
  have h2 : ((l.length : Int) == 4) = true := by rw [h]; rfl
  clear h
  go_enter Tryd.func115, Tryd.ntmps115
  go_wp2
  go_quiet (fail)
  go_wp2
  go_ret2
  exact ⟨rfl, _, rfl⟩
theorem get_other (l : List UInt8) (w : World) (h : l.length ≠ 4) :
    Calls Tryd.prog 115 #[.string (str l)] w fun e w' => e = .returned (.tuple #[.int .u32 0, .bool false]) ∧ w = w' := by
  have h2 : ((l.length : Int) == 4) = false := by rw [beq_eq_false_iff_ne]; omega
  clear h
  go_enter Tryd.func115, Tryd.ntmps115
  go_wp2
  go_ret2
  exact ⟨rfl, rfl⟩
end Go.Proofs.YtjfkdfffolkblaaDoor
namespace Go.Proofs.YtjfkdfffolkblaaDoor
open Go.RowKit
open UK (str)
theorem TabAt.lt {w : World} (h : TabAt w) : 0 < w.heap.size := by
  have h0 := h 0
  unfold World.cell? at h0
  by_cases hl : 0 < w.heap.size
  · exact hl
  · rw [Array.getElem?_eq_none (by omega)] at h0; cases h0
theorem TabAt.below {w w' : World} (h : TabAt w) (hb : Below w.heap.size w w') : TabAt w' := fun c => by
  rw [hb.cell (p := ⟨_, _, none⟩) h.lt]; exact h c
theorem TabAt.drewN {w : World} (h : TabAt w) (n : Nat) : TabAt (w.drewN n) := fun c => h c
theorem belowN {B : Nat} {a w : World} (h : Below B a w) (n : Nat) : Below B a (w.drewN n) := ⟨h.os, h.tape, h.output, h.size, h.block⟩
theorem add_zero (l : List UInt8) (w : World) (ht : TabAt w) (hs : l.length ≤ maxLen) :
    Calls Tryd.prog 135 #[.int .u32 0, .string (str l)] w fun e w' => e = .returned (.int .u32 (addU 0 l).toNat) ∧ w = w' :=
  add_any 0 l w ht hs
theorem sum_any (l : List UInt8) (w : World) (ht : TabAt w) (hs : l.length ≤ maxLen) :
    Calls Tryd.prog 116 #[.string (str l)] w fun e w' => e = .returned (.int .u32 (addU 0 l).toNat) ∧ w = w' := by
  go_enter Tryd.func116, Tryd.ntmps116
  go_wp2_with (go_at_call 135; refine (add_zero _ _ ht hs).mono ?_; rintro e w' ⟨rfl, rfl⟩)
  go_ret
  exact ⟨rfl, rfl⟩
def openB (l : List UInt8) : Bool := decide (4 ≤ l.length ∧ getL (l.drop (l.length - 4)) = addU 0 (l.take (l.length - 4)))
def opened (l : List UInt8) : List UInt8 := if openB l then l.take (l.length - 4) else []
/-- one bit of ref.Turn -/
def turn1 (p : UInt32 × UInt8) : UInt32 × UInt8 := (if UK.odds p.1 (UK.wide p.2) then UK.xr (UK.hf p.1) UK.poly else UK.hf p.1, UK.hf8 p.2)
def turnN : Nat → UInt32 × UInt8 → UInt32 × UInt8
  | 0, p => p
  | n + 1, p => turn1 (turnN n p)
theorem turn1_yes (d : UInt32) (a : UInt8) (h : UK.odds d (UK.wide a) = true) : turn1 (d, a) = (UK.xr (UK.hf d) UK.poly, UK.hf8 a) := by unfold turn1; simp [h]
theorem turn1_no (d : UInt32) (a : UInt8) (h : UK.odds d (UK.wide a) = false) : turn1 (d, a) = (UK.hf d, UK.hf8 a) := by unfold turn1; simp [h]
/-- the document's sum, before it is turned -/
def rrunU (c : UInt32) (l : List UInt8) : UInt32 := l.foldl (fun c b => (turnN 8 (c, b)).1) c
def raddU (c : UInt32) (l : List UInt8) : UInt32 := UK.nt (rrunU (UK.nt c) l)
theorem rrunU_snoc (c : UInt32) (l : List UInt8) (k : Nat) (h : k < l.length) : rrunU c (l.take (k + 1)) = (turnN 8 (rrunU c (l.take k), UK.nth l k)).1 := by
  rw [List.take_succ_eq_append_getElem h]; unfold rrunU; rw [List.foldl_append]; simp [UK.nth, List.getD, h]
end Go.Proofs.YtjfkdfffolkblaaDoor
namespace Go.Proofs.YtjfkdfffolkblaaDoor
open UK (str)
open Go.RowKit
/-- one bit's step, on words -/
def b1 (x : UInt32) : UInt32 := (x >>> 1) ^^^ (if x.toNat % 2 = 1 then UK.poly else 0)
theorem par_xor (x y : UInt32) : (x ^^^ y).toNat % 2 = (x.toNat % 2 + y.toNat % 2) % 2 := by
  rw [UInt32.toNat_xor]
  have := @Nat.xor_mod_two_eq_one x.toNat y.toNat
  omega
theorem xor_self32 (a : UInt32) : a ^^^ a = 0 := UInt32.xor_self
theorem xor4 (a b c d : UInt32) : (a ^^^ b) ^^^ (c ^^^ d) = (a ^^^ c) ^^^ (b ^^^ d) := by
  simp only [UInt32.xor_assoc]; congr 1; rw [← UInt32.xor_assoc, UInt32.xor_comm b c, UInt32.xor_assoc]
theorem shr_xor (x y : UInt32) : (x ^^^ y) >>> 1 = (x >>> 1) ^^^ (y >>> 1) := by
  apply UInt32.toBitVec_inj.1
  simp [BitVec.ushiftRight_xor_distrib]
theorem b1_xor (x y : UInt32) : b1 (x ^^^ y) = b1 x ^^^ b1 y := by
  unfold b1
  rw [shr_xor, xor4, par_xor]
  congr 1
  have hx : x.toNat % 2 = 0 ∨ x.toNat % 2 = 1 := by omega
  have hy : y.toNat % 2 = 0 ∨ y.toNat % 2 = 1 := by omega
  rcases hx with hx | hx <;> rcases hy with hy | hy <;> simp [hx, hy]
def bN : Nat → UInt32 → UInt32
  | 0, x => x
  | n + 1, x => b1 (bN n x)
theorem bN_xor (n : Nat) (x y : UInt32) : bN n (x ^^^ y) = bN n x ^^^ bN n y := by
  induction n with
  | zero => rfl
  | succ n ih => show b1 _ = b1 _ ^^^ b1 _; rw [ih, b1_xor]
theorem bN_add (m n : Nat) (x : UInt32) : bN (m + n) x = bN m (bN n x) := by
  induction m with
  | zero => rw [Nat.zero_add]; rfl
  | succ m ih => rw [Nat.succ_add]; show b1 _ = b1 _; rw [ih]
theorem b1_even (x : UInt32) (h : x.toNat % 2 = 0) : b1 x = x >>> 1 := by
  unfold b1; simp [h]
theorem shr_toNat (x : UInt32) (k : Nat) (h : k < 32) : (x >>> UInt32.ofNat k).toNat = x.toNat / 2 ^ k := by
  rw [UInt32.toNat_shiftRight]
  simp [Nat.shiftRight_eq_div_pow, Nat.mod_eq_of_lt h, Nat.mod_eq_of_lt (show k < 4294967296 by omega)]
theorem bN4_up (x : UInt32) (h : x.toNat % 16 = 0) : (bN 4 x).toNat = x.toNat / 16 := by
  have e1 : (bN 1 x).toNat = x.toNat / 2 := by
    show (b1 x).toNat = _
    rw [b1_even _ (by omega)]; exact shr_toNat x 1 (by decide)
  have e2 : (bN 2 x).toNat = x.toNat / 4 := by
    show (b1 (bN 1 x)).toNat = _
    rw [b1_even _ (by rw [e1]; omega), show (bN 1 x >>> 1).toNat = (bN 1 x).toNat / 2 from shr_toNat _ 1 (by decide), e1]; omega
  have e3 : (bN 3 x).toNat = x.toNat / 8 := by
    show (b1 (bN 2 x)).toNat = _
    rw [b1_even _ (by rw [e2]; omega), show (bN 2 x >>> 1).toNat = (bN 2 x).toNat / 2 from shr_toNat _ 1 (by decide), e2]; omega
  show (b1 (bN 3 x)).toNat = _
  rw [b1_even _ (by rw [e3]; omega), show (bN 3 x >>> 1).toNat = (bN 3 x).toNat / 2 from shr_toNat _ 1 (by decide), e3]; omega
theorem tab_bits : ∀ i : Fin 16, tab (UInt32.ofNat i.val) = bN 4 (UInt32.ofNat i.val) := by decide +kernel
theorem half_bits (c : UInt32) : half c = bN 4 c := by
  have hlo : (c &&& 15).toNat < 16 := by rw [UInt32.toNat_and]; exact Nat.lt_of_le_of_lt Nat.and_le_right (by decide)
  have hlo' : (c &&& 15).toNat = c.toNat % 16 := by rw [UInt32.toNat_and]; exact Nat.and_two_pow_sub_one_eq_mod c.toNat 4
  have hc := c.toNat_lt
  -- the upper part
  have hup : ∃ u : UInt32, u.toNat = c.toNat / 16 * 16 := ⟨UInt32.ofNat (c.toNat / 16 * 16), by simp; omega⟩
  obtain ⟨u, hu⟩ := hup
  have hsplit : c = u ^^^ (c &&& 15) := by
    apply UInt32.toNat_inj.1
    rw [UInt32.toNat_xor, hu, hlo']
    have h1 : c.toNat / 16 * 16 ^^^ c.toNat % 16 = c.toNat / 16 * 16 + c.toNat % 16 := by
      have := Nat.shiftLeft_add_eq_or_of_lt (show c.toNat % 16 < 2 ^ 4 by omega) (c.toNat / 16)
      rw [Nat.shiftLeft_eq] at this
      rw [show (16 : Nat) = 2 ^ 4 by decide] at *
      rw [this]
      apply Nat.eq_of_testBit_eq
      intro i
      rw [Nat.testBit_xor, Nat.testBit_or]
      rw [Nat.testBit_mul_two_pow, Nat.testBit_mod_two_pow]
      by_cases hi : i < 4
      · have hn : ¬ 4 ≤ i := by omega
        simp only [hn, decide_false, Bool.false_and, Bool.false_or, Bool.false_xor]
      · simp only [hi, decide_false, Bool.false_and, Bool.or_false, Bool.xor_false]
    rw [h1]; omega
  conv => rhs; rw [hsplit]
  rw [bN_xor]
  unfold half UK.xr UK.dv16 UK.an15
  congr 1
  · apply UInt32.toNat_inj.1
    rw [bN4_up u (by rw [hu]; omega), hu, UInt32.toNat_div]
    simp
  · have := tab_bits ⟨(c &&& 15).toNat, hlo⟩
    simpa using this
theorem step_bits (c : UInt32) (b : UInt8) : stepU c b = bN 8 (c ^^^ b.toUInt32) := by
  unfold stepU UK.xr UK.wide
  rw [half_bits, half_bits, ← bN_add]
/-- the document's rounds keep 'sum xor byte' -/
theorem turn1_bits (d : UInt32) (a : UInt8) : (turn1 (d, a)).1 ^^^ (turn1 (d, a)).2.toUInt32 = b1 (d ^^^ a.toUInt32) := by
  have hp : (d ^^^ a.toUInt32).toNat % 2 = (d.toNat % 2 + a.toNat % 2) % 2 := by rw [par_xor]; simp
  have hw : (UK.wide a).toNat = a.toNat := by simp [UK.wide]
  have h2 : UK.hf d = d >>> 1 := by
    apply UInt32.toNat_inj.1
    rw [show (d >>> 1).toNat = d.toNat / 2 from shr_toNat d 1 (by decide)]; simp [UK.hf]
  have h3 : (UK.hf8 a).toUInt32 = a.toUInt32 >>> 1 := by
    apply UInt32.toNat_inj.1
    rw [show (a.toUInt32 >>> 1).toNat = a.toUInt32.toNat / 2 from shr_toNat _ 1 (by decide)]; simp [UK.hf8]
  have h4 : (turn1 (d, a)).2 = UK.hf8 a := rfl
  unfold b1
  rw [h4, h3, shr_xor, hp]
  cases ho : UK.odds d (UK.wide a)
  · rw [turn1_no _ _ ho, h2]
    have : d.toNat % 2 = a.toNat % 2 := by
      unfold UK.odds at ho; rw [hw] at ho; simpa using ho
    have e : (d.toNat % 2 + a.toNat % 2) % 2 = 0 := by omega
    simp [e]
  · rw [turn1_yes _ _ ho, h2]
    have : d.toNat % 2 ≠ a.toNat % 2 := by
      unfold UK.odds at ho; rw [hw] at ho; simpa using ho
    have e : (d.toNat % 2 + a.toNat % 2) % 2 = 1 := by omega
    simp only [e, if_true, UK.xr]
    rw [UInt32.xor_assoc, UInt32.xor_comm UK.poly, ← UInt32.xor_assoc]
theorem turnN_bits (n : Nat) (c : UInt32) (b : UInt8) : (turnN n (c, b)).1 ^^^ (turnN n (c, b)).2.toUInt32 = bN n (c ^^^ b.toUInt32) := by
  induction n with
  | zero => rfl
  | succ n ih =>
    show (turn1 (turnN n (c, b))).1 ^^^ (turn1 (turnN n (c, b))).2.toUInt32 = b1 _
    rw [← ih, ← turn1_bits]
theorem turnN_byte (n : Nat) (c : UInt32) (b : UInt8) : (turnN n (c, b)).2.toNat = b.toNat / 2 ^ n := by
  induction n with
  | zero => simp [turnN]
  | succ n ih =>
    show (UK.hf8 (turnN n (c, b)).2).toNat = _
    simp [UK.hf8, ih, Nat.pow_succ, Nat.div_div_eq_div_mul]
theorem turn_step (c : UInt32) (b : UInt8) : (turnN 8 (c, b)).1 = stepU c b := by
  have h := turnN_bits 8 c b
  have hz : (turnN 8 (c, b)).2.toUInt32 = 0 := by
    apply UInt32.toNat_inj.1
    have := turnN_byte 8 c b
    have hb := b.toNat_lt
    simp [this]; omega
  rw [hz, UInt32.xor_zero] at h
  rw [h, step_bits]
theorem rrun_run (c : UInt32) (l : List UInt8) : rrunU c l = runU c l := by
  unfold rrunU runU
  congr 1
  funext c b
  exact turn_step c b
theorem radd_add (c : UInt32) (l : List UInt8) : raddU c l = addU c l := by
  unfold raddU addU; rw [rrun_run]
/-! ## four bytes and their number -/
theorem or_sum {a b : UInt32} (k : Nat) (hb : b.toNat % 2 ^ k = 0) (ha : a.toNat < 2 ^ k) : (UK.or32 a b).toNat = a.toNat + b.toNat := by
  rw [UK.or32, UInt32.toNat_or, Nat.or_comm, nat_join k _ _ hb ha]; omega
theorem wide_toNat (b : UInt8) : (UK.wide b).toNat = b.toNat := by simp [UK.wide]
theorem shl_toNat (b : UInt8) (i : Nat) (h : i < 4) : (UK.shl (UK.wide b) i).toNat = b.toNat * 256 ^ i := by
  have := b.toNat_lt
  match i, h with
  | 0, _ => simp [UK.shl, UK.wide]
  | 1, _ | 2, _ | 3, _ => simp [UK.shl, UK.wide]; omega
theorem getL_toNat (l : List UInt8) : (getL l).toNat = (UK.nth l 0).toNat + 256 * (UK.nth l 1).toNat + 65536 * (UK.nth l 2).toNat + 16777216 * (UK.nth l 3).toNat := by
  have h0 := (UK.nth l 0).toNat_lt
  have h1 := (UK.nth l 1).toNat_lt
  have h2 := (UK.nth l 2).toNat_lt
  have h3 := (UK.nth l 3).toNat_lt
  have e1 := shl_toNat (UK.nth l 1) 1 (by decide)
  have e2 := shl_toNat (UK.nth l 2) 2 (by decide)
  have e3 := shl_toNat (UK.nth l 3) 3 (by decide)
  have e0 := wide_toNat (UK.nth l 0)
  unfold getL
  have s1 := or_sum (a := UK.wide (UK.nth l 0)) (b := UK.shl (UK.wide (UK.nth l 1)) 1) 8 (by rw [e1]; omega) (by rw [e0]; omega)
  have s2 := or_sum (a := UK.or32 (UK.wide (UK.nth l 0)) (UK.shl (UK.wide (UK.nth l 1)) 1)) (b := UK.shl (UK.wide (UK.nth l 2)) 2) 16 (by rw [e2]; omega) (by rw [s1, e0, e1]; omega)
  have s3 := or_sum (a := UK.or32 (UK.or32 (UK.wide (UK.nth l 0)) (UK.shl (UK.wide (UK.nth l 1)) 1)) (UK.shl (UK.wide (UK.nth l 2)) 2)) (b := UK.shl (UK.wide (UK.nth l 3)) 3) 24 (by rw [e3]; omega) (by rw [s2, s1, e0, e1, e2]; omega)
  rw [s3, s2, s1, e0, e1, e2, e3]; omega
theorem byteOf_toNat (c : UInt32) (i : Nat) : (UK.byteOf c i).toNat = c.toNat / 256 ^ i % 256 := by simp [UK.byteOf]
theorem get_put (c : UInt32) : getL (putL c) = c := by
  apply UInt32.toNat_inj.1
  rw [getL_toNat]
  have hc := c.toNat_lt
  show (UK.byteOf c 0).toNat + 256 * (UK.byteOf c 1).toNat + 65536 * (UK.byteOf c 2).toNat + 16777216 * (UK.byteOf c 3).toNat = _
  simp only [byteOf_toNat]
  omega
theorem put_get (l : List UInt8) (h : l.length = 4) : putL (getL l) = l := by
  match l, h with
  | [a, b, c, d], _ =>
    have ha := a.toNat_lt
    have hb := b.toNat_lt
    have hc := c.toNat_lt
    have hd := d.toNat_lt
    have hg := getL_toNat [a, b, c, d]
    simp only [UK.nth, List.getD_cons_zero, List.getD_cons_succ] at hg
    have e (i : Nat) (x : UInt8) (hx : (getL [a, b, c, d]).toNat / 256 ^ i % 256 = x.toNat) : UK.byteOf (getL [a, b, c, d]) i = x :=
      UInt8.toNat_inj.1 (by rw [byteOf_toNat, hx])
    unfold putL
    rw [e 0 a (by rw [hg]; omega), e 1 b (by rw [hg]; omega), e 2 c (by rw [hg]; omega), e 3 d (by rw [hg]; omega)]
/-! ## what differs has another sum -/
theorem b1_zero (z : UInt32) (h : b1 z = 0) : z = 0 := by
  unfold b1 at h
  have hs := shr_toNat z 1 (by decide)
  have hz := z.toNat_lt
  by_cases ho : z.toNat % 2 = 1
  · rw [if_pos ho] at h
    have h2 : z >>> 1 = UK.poly := by
      have := congrArg (· ^^^ UK.poly) h
      simpa [UInt32.xor_assoc] using this
    have h3 := congrArg UInt32.toNat h2
    rw [show (z >>> 1).toNat = z.toNat / 2 from hs] at h3
    have hp : UK.poly.toNat = 2197175160 := by decide
    omega
  · rw [if_neg ho, UInt32.xor_zero] at h
    have h3 := congrArg UInt32.toNat h
    rw [show (z >>> 1).toNat = z.toNat / 2 from hs] at h3
    apply UInt32.toNat_inj.1
    have : (0 : UInt32).toNat = 0 := by decide
    omega
theorem xor_eq_zero (x y : UInt32) (h : x ^^^ y = 0) : x = y := by
  have := congrArg (· ^^^ y) h
  simpa [UInt32.xor_assoc] using this
theorem bN_inj (n : Nat) (x y : UInt32) (h : bN n x = bN n y) : x = y := by
  induction n with
  | zero => exact h
  | succ n ih =>
    apply ih
    have h' : b1 (bN n x ^^^ bN n y) = 0 := by
      rw [b1_xor]
      have h2 : b1 (bN n x) = b1 (bN n y) := h
      rw [h2, UInt32.xor_self]
    exact xor_eq_zero _ _ (b1_zero _ h')
theorem bN_up (n : Nat) (x : UInt32) (h : x.toNat % 2 ^ n = 0) : (bN n x).toNat = x.toNat / 2 ^ n := by
  induction n with
  | zero => simp [bN]
  | succ n ih =>
    have h1 : x.toNat % 2 ^ n = 0 := by
      rw [Nat.pow_succ] at h
      exact Nat.mod_eq_zero_of_dvd (Nat.dvd_trans ⟨2, rfl⟩ (Nat.dvd_of_mod_eq_zero h))
    have h2 : x.toNat / 2 ^ n % 2 = 0 := by
      rw [Nat.pow_succ, Nat.mod_mul] at h
      have : 0 < 2 ^ n := Nat.two_pow_pos n
      have hz : 2 ^ n * (x.toNat / 2 ^ n % 2) = 0 := by omega
      rcases Nat.mul_eq_zero.1 hz with h' | h'
      · omega
      · exact h'
    show (b1 (bN n x)).toNat = _
    rw [b1_even _ (by rw [ih h1]; exact h2), show (bN n x >>> 1).toNat = (bN n x).toNat / 2 from shr_toNat _ 1 (by decide), ih h1, Nat.pow_succ, Nat.div_div_eq_div_mul]
def wordOf : List UInt8 → UInt32
  | [] => 0
  | b :: r => b.toUInt32 ^^^ UInt32.ofNat ((wordOf r).toNat * 256)
theorem low_up (b : UInt8) (y : Nat) : b.toNat ^^^ y * 256 = b.toNat + y * 256 := by
  have hb := b.toNat_lt
  have h := Nat.shiftLeft_add_eq_or_of_lt (show b.toNat < 2 ^ 8 by omega) y
  rw [Nat.shiftLeft_eq] at h
  have e : b.toNat ^^^ y * 2 ^ 8 = y * 2 ^ 8 ||| b.toNat := by
    apply Nat.eq_of_testBit_eq
    intro i
    rw [Nat.testBit_xor, Nat.testBit_or, Nat.testBit_mul_two_pow]
    by_cases hi : i < 8
    · have hn : ¬ 8 ≤ i := by omega
      simp only [hn, decide_false, Bool.false_and, Bool.false_or, Bool.xor_false]
    · have : b.toNat.testBit i = false := Nat.testBit_lt_two_pow (Nat.lt_of_lt_of_le hb (Nat.pow_le_pow_right (by decide) (by omega : 8 ≤ i)))
      simp only [this, Bool.false_xor, Bool.or_false]
  have h8 : (2 : Nat) ^ 8 = 256 := by decide
  rw [h8] at e h
  omega
theorem wordOf_toNat (b : UInt8) (r : List UInt8) (h : (wordOf r).toNat < 16777216) : (wordOf (b :: r)).toNat = b.toNat + (wordOf r).toNat * 256 := by
  show (b.toUInt32 ^^^ UInt32.ofNat ((wordOf r).toNat * 256)).toNat = _
  rw [UInt32.toNat_xor]
  have : (UInt32.ofNat ((wordOf r).toNat * 256)).toNat = (wordOf r).toNat * 256 := by simp; omega
  rw [this]
  simpa using low_up b (wordOf r).toNat
theorem wordOf_lt : ∀ (l : List UInt8), l.length ≤ 4 → (wordOf l).toNat < 256 ^ l.length
  | [], _ => by simp [wordOf]
  | b :: r, h => by
    have ih := wordOf_lt r (by simp at h; omega)
    have hr : r.length ≤ 3 := by simp at h; omega
    have hp : 256 ^ r.length ≤ 256 ^ 3 := Nat.pow_le_pow_right (by decide) hr
    rw [wordOf_toNat b r (by omega)]
    have hb := b.toNat_lt
    rw [List.length_cons, Nat.pow_succ]; omega
theorem wordOf_inj : ∀ (l m : List UInt8), l.length = m.length → l.length ≤ 4 → wordOf l = wordOf m → l = m
  | [], [], _, _, _ => rfl
  | a :: l, b :: m, hl, h4, h => by
    simp only [List.length_cons] at hl h4
    have h1 := wordOf_lt l (by omega)
    have h2 := wordOf_lt m (by omega)
    have hp : 256 ^ l.length ≤ 256 ^ 3 := Nat.pow_le_pow_right (by decide) (by omega)
    have hq : 256 ^ m.length ≤ 256 ^ 3 := Nat.pow_le_pow_right (by decide) (by omega)
    have h' := congrArg UInt32.toNat h
    rw [wordOf_toNat a l (by omega), wordOf_toNat b m (by omega)] at h'
    have ha := a.toNat_lt
    have hb := b.toNat_lt
    have e1 : a = b := UInt8.toNat_inj.1 (by omega)
    have e2 : wordOf l = wordOf m := UInt32.toNat_inj.1 (by omega)
    rw [e1, wordOf_inj l m (by omega) (by omega) e2]
theorem run_word : ∀ (l : List UInt8) (c : UInt32), l.length ≤ 4 → runU c l = bN (8 * l.length) (c ^^^ wordOf l)
  | [], c, _ => by simp [runU, wordOf, bN]
  | b :: r, c, h => by
    have hr : r.length ≤ 3 := by simp at h; omega
    show runU (stepU c b) r = _
    rw [run_word r _ (by omega), step_bits]
    have h1 := wordOf_lt r (by omega)
    have hp : 256 ^ r.length ≤ 256 ^ 3 := Nat.pow_le_pow_right (by decide) hr
    have hu : (UInt32.ofNat ((wordOf r).toNat * 256)).toNat = (wordOf r).toNat * 256 := by simp; omega
    have hw : bN 8 (UInt32.ofNat ((wordOf r).toNat * 256)) = wordOf r := by
      apply UInt32.toNat_inj.1
      rw [bN_up 8 _ (by rw [hu]; omega), hu]; omega
    have e : bN 8 (c ^^^ b.toUInt32) ^^^ wordOf r = bN 8 (c ^^^ wordOf (b :: r)) := by
      conv => lhs; rw [← hw]
      rw [← bN_xor]
      congr 1
      show _ = c ^^^ (b.toUInt32 ^^^ UInt32.ofNat ((wordOf r).toNat * 256))
      rw [UInt32.xor_assoc]
    rw [e, ← bN_add]
    congr 1
theorem runU_append (c : UInt32) (l m : List UInt8) : runU c (l ++ m) = runU (runU c l) m := by unfold runU; rw [List.foldl_append]
theorem nt_nt (a : UInt32) : UK.nt (UK.nt a) = a := by
  apply UInt32.toBitVec_inj.1
  show ~~~(~~~a.toBitVec) = a.toBitVec
  exact BitVec.not_not
theorem addU_append (c : UInt32) (l m : List UInt8) : addU (addU c l) m = addU c (l ++ m) := by
  unfold addU; rw [nt_nt, runU_append]
theorem run_inj_c (l : List UInt8) : ∀ (c d : UInt32), runU c l = runU d l → c = d := by
  induction l with
  | nil => intro c d h; exact h
  | cons b r ih =>
    intro c d h
    have h1 : stepU c b = stepU d b := ih _ _ h
    rw [step_bits, step_bits] at h1
    have h2 := bN_inj 8 _ _ h1
    have := congrArg (· ^^^ b.toUInt32) h2
    simpa [UInt32.xor_assoc] using this
theorem getL_word (l : List UInt8) (h : l.length = 4) : getL l = wordOf l := by
  match l, h with
  | [a, b, c, d], _ =>
    apply UInt32.toNat_inj.1
    rw [getL_toNat]
    have hd : (wordOf [d]).toNat = d.toNat + 0 * 256 := wordOf_toNat d [] (by decide)
    have h1 := a.toNat_lt
    have h2 := b.toNat_lt
    have h3 := c.toNat_lt
    have h4 := d.toNat_lt
    have hc := wordOf_toNat c [d] (by omega)
    have hb := wordOf_toNat b [c, d] (by omega)
    have ha := wordOf_toNat a [b, c, d] (by omega)
    rw [ha, hb, hc, hd]
    simp only [UK.nth, List.getD_cons_zero, List.getD_cons_succ]
    omega
/-- what is opened leaves one and the same word -/
theorem open_word (l : List UInt8) (h : openB l = true) : 4 ≤ l.length ∧ runU (UK.nt 0) l = bN 32 (UK.nt 0) := by
  unfold openB at h
  obtain ⟨h4, hg⟩ := of_decide_eq_true h
  refine ⟨h4, ?_⟩
  have hd : (l.drop (l.length - 4)).length = 4 := by rw [List.length_drop]; omega
  rw [getL_word _ hd] at hg
  conv => lhs; rw [← List.take_append_drop (l.length - 4) l]
  rw [runU_append, run_word _ _ (by omega), hd, hg]
  unfold addU
  congr 1
  have e : ∀ x : UInt32, x ^^^ UK.nt x = UK.nt 0 := fun x => by
    apply UInt32.toBitVec_inj.1
    show x.toBitVec ^^^ ~~~x.toBitVec = BitVec.allOnes 32
    rw [← BitVec.xor_allOnes, ← BitVec.xor_assoc, BitVec.xor_self, BitVec.zero_xor]
  exact e _
theorem open_seal (l : List UInt8) : openB (l ++ putL (addU 0 l)) = true ∧ opened (l ++ putL (addU 0 l)) = l := by
  have e : (l ++ putL (addU 0 l)).length - 4 = l.length := by simp [putL]
  have h : openB (l ++ putL (addU 0 l)) = true := by
    unfold openB
    rw [e, List.drop_left, List.take_left, get_put]
    simp [putL]
  refine ⟨h, ?_⟩
  unfold opened
  rw [h, e, List.take_left]
  rfl
/-- A SEALED TEXT IN WHICH UP TO FOUR BYTES, ONE BEHIND THE OTHER, ARE OTHERS ISN'T OPENED -/
theorem open_changed (p m m' q : List UInt8) (hm : m.length = m'.length) (h4 : m.length ≤ 4) (h : openB (p ++ (m ++ q)) = true) (h' : openB (p ++ (m' ++ q)) = true) : m = m' := by
  have h1 := (open_word _ h).2
  have h2 := (open_word _ h').2
  rw [runU_append, runU_append] at h1 h2
  have h3 := run_inj_c q _ _ (h1.trans h2.symm)
  rw [run_word m _ h4, run_word m' _ (by omega), ← hm] at h3
  have h5 := bN_inj _ _ _ h3
  have h6 : wordOf m = wordOf m' := by
    have := congrArg (runU (UK.nt 0) p ^^^ ·) h5
    simpa [← UInt32.xor_assoc] using this
  exact wordOf_inj _ _ hm h4 h6
theorem u32_of_wf {a : Int} (h : (Lit.int .u32 a).wf = true) : ∃ u : UInt32, a = (u.toNat : Int) := by
  simp [Lit.wf, IntKind.min, IntKind.max, IntKind.signed, IntKind.bits] at h
  exact ⟨UInt32.ofNat a.toNat, by simp; omega⟩
theorem i64_of_wf {a : Int} (h : (Lit.int .i64 a).wf = true) : -9223372036854775808 ≤ a ∧ a ≤ 9223372036854775807 := by
  simp [Lit.wf, IntKind.min, IntKind.max, IntKind.signed, IntKind.bits] at h
  omega
end Go.Proofs.YtjfkdfffolkblaaDoor
