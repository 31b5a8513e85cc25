/-
  vint.PutU64, U64: a number of eight bytes.
-/
import Derived.Test.YthjnfclebeggaaaDoorPoolI
namespace Go.Proofs.YthjnfclebeggaaaDoor
open Go.RowKit
open UK (str BytesAt nth Only Row Box w32)
open Go.BigFrame
namespace UK
def lo32 (v : UInt64) : UInt32 := v.toUInt32
def hi32 (v : UInt64) : UInt32 := UInt32.ofNat (v.toNat / 4294967296)
def mk64 (a b : UInt32) : UInt64 := UInt64.ofNat (a.toNat + b.toNat * 4294967296)
theorem u64_lt (v : UInt64) : (v.toNat : Int) < 18446744073709551616 := by have := v.toNat_lt; omega
@[go_sem] theorem lo32_is (v : UInt64) : (v.toNat : Int) % 4294967296 = ((lo32 v).toNat : Int) := by
  unfold lo32; rw [UInt64.toNat_toUInt32]; omega
theorem hi32_nat (v : UInt64) : (hi32 v).toNat = v.toNat / 4294967296 := by
  have := v.toNat_lt
  unfold hi32
  rw [UInt32.toNat_ofNat']
  omega
@[go_sem] theorem hi32_is (v : UInt64) : (v.toNat : Int) / 4294967296 = ((hi32 v).toNat : Int) := by
  rw [hi32_nat]; omega
theorem mk64_nat (a b : UInt32) : (mk64 a b).toNat = a.toNat + b.toNat * 4294967296 := by
  have := a.toNat_lt
  have := b.toNat_lt
  unfold mk64
  rw [UInt64.toNat_ofNat']
  omega
theorem mk64_parts (v : UInt64) : mk64 (lo32 v) (hi32 v) = v := by
  apply UInt64.toNat_inj.1
  rw [mk64_nat, hi32_nat]
  have : (lo32 v).toNat = v.toNat % 4294967296 := by unfold lo32; rw [UInt64.toNat_toUInt32]
  omega
theorem nat_or_high (a b : Nat) (ha : a < 4294967296) : a ||| b * 4294967296 = a + b * 4294967296 := by
  have h := Nat.two_pow_add_eq_or_of_lt (b := a) (i := 32) ha b
  rw [Nat.or_comm, show b * 4294967296 = 2 ^ 32 * b by rw [Nat.mul_comm], ← h, Nat.add_comm]
/-- the higher word of eight bytes -/
def up32 (b : UInt32) : UInt64 := UInt64.ofNat (b.toNat * 4294967296)
theorem up32_nat (b : UInt32) : (up32 b).toNat = b.toNat * 4294967296 := by
  have := b.toNat_lt
  unfold up32
  rw [UInt64.toNat_ofNat']
  omega
@[go_sem] theorem u32_mod64 (b : UInt32) : (b.toNat : Int) % 18446744073709551616 = (b.toNat : Int) := by have := b.toNat_lt; omega
@[go_sem] theorem up32_is (b : UInt32) : (b.toNat : Int) * 4294967296 % 18446744073709551616 = ((up32 b).toNat : Int) := by
  have := b.toNat_lt
  rw [up32_nat]; omega
@[go_sem] theorem or_u64 (a b : UInt32) : bits .or .u64 (a.toNat : Int) ((up32 b).toNat : Int) = ((mk64 a b).toNat : Int) := by
  have h1 := a.toNat_lt
  have h2 := b.toNat_lt
  rw [u64_or_nat _ _ (by omega) (up32 b).toNat_lt, up32_nat, mk64_nat, nat_or_high _ _ h1]
end UK
theorem put_u64 {W : World} {B : Nat} {x : List UInt8} (h : BytesAt W B x) (o n c : Nat) (hn : 8 ≤ n) (ho : o + n ≤ x.length) (hl : n ≤ 100000000) (hc : n ≤ c) (v : UInt64) :
    Calls Tryd.prog 136 #[.slice (some ⟨B, o, none⟩) n c, .int .u64 v.toNat] W fun e w' => e = .returned (.tuple #[]) ∧ BytesAt w' B (UK.wr x o (putL (UK.lo32 v) ++ putL (UK.hi32 v))) ∧ Only B W w' := by
  have H1 := Lib.hid (put_u32 h o n c (by omega) ho hl (UK.lo32 v))
  have hl1 : (UK.wr x o (putL (UK.lo32 v))).length = x.length := UK.wr_length _ _ _ (by show o + 4 ≤ _; omega)
  have hw2 : UK.wr (UK.wr x o (putL (UK.lo32 v))) (o + 4) (putL (UK.hi32 v)) = UK.wr x o (putL (UK.lo32 v) ++ putL (UK.hi32 v)) := UK.wr_after x o (putL (UK.lo32 v)) (putL (UK.hi32 v)) (by omega)
  have HL1 := Lib.hid (And.intro hl1 hw2)
  clear hl1 hw2
  go_enter Tryd.func136, Tryd.ntmps136
  go_wp2_with fail
  refine H1.out.mono ?_
  rintro e w1 ⟨rfl, h1, o1⟩
  have H2 := Lib.hid (put_u32 h1 (o + 4) (n - 4) (c - 4) (by omega) (by rw [HL1.out.1]; omega) (by omega) (UK.hi32 v))
  clear H1
  go_wp2_with fail
  refine H2.out.mono ?_
  rintro e w2 ⟨rfl, h2, o2⟩
  clear H2
  rw [HL1.out.2] at h2
  go_wp2
  go_end0
  exact ⟨rfl, h2, o1.trans o2⟩
theorem get_u32d {W : World} {B : Nat} {x : List UInt8} (h : BytesAt W B x) (o n c : Nat) (hn : 4 ≤ n) (ho : o + n ≤ x.length) :
    Calls Tryd.prog 92 #[.slice (some ⟨B, o, none⟩) n c] W fun e w' => e = .returned (.int .u32 (getL ((x.drop o).take 4)).toNat) ∧ ∃ m, w' = W.drewN m := by
  have c0 := h.cell (i := o) (by omega)
  have c1 := h.cell (i := o + 1) (by omega)
  have c2 := h.cell (i := o + 2) (by omega)
  have c3 := h.cell (i := o + 3) (by omega)
  have hg : Hid (getL ((x.drop o).take 4) = UK.or32 (UK.or32 (UK.or32 (UK.wide (nth x o)) (UK.shl (UK.wide (nth x (o + 1))) 1)) (UK.shl (UK.wide (nth x (o + 2))) 2)) (UK.shl (UK.wide (nth x (o + 3))) 3)) := by
    show _ = _
    unfold getL
    have e : ∀ j, j < 4 → nth ((x.drop o).take 4) j = nth x (o + j) := fun j hj => by
      simp only [nth, List.getD_eq_getElem?_getD]
      rw [List.getElem?_take_of_lt hj, List.getElem?_drop]
    rw [e 0 (by omega), e 1 (by omega), e 2 (by omega), e 3 (by omega), Nat.add_zero]
  go_enter Tryd.func92, Tryd.ntmps92
  go_wp2
  go_quiet (fail)
  go_wp2
  go_ret
  exact ⟨by rw [hg.out] <;> rfl, _, rfl⟩
set_option maxRecDepth 100000 in
theorem get_u64 {W : World} {B : Nat} {x : List UInt8} (h : BytesAt W B x) (o n c : Nat) (hn : 8 ≤ n) (ho : o + n ≤ x.length) (hc : n ≤ c) :
    Calls Tryd.prog 143 #[.slice (some ⟨B, o, none⟩) n c] W fun e w' => e = .returned (.int .u64 (UK.mk64 (getL ((x.drop o).take 4)) (getL ((x.drop (o + 4)).take 4))).toNat) ∧ ∃ m, w' = W.drewN m := by
  have g1 := fun x => get_u32d (h.drewN x) o n c (by omega) ho
  have g2 := fun x => get_u32d (h.drewN x) (o + 4) (n - 4) (c - 4) (by omega) (by omega)
  generalize getL ((x.drop o).take 4) = u at g1 ⊢
  generalize getL ((x.drop (o + 4)).take 4) = v at g2 ⊢
  have HE : Hid (bits BinOp.or IntKind.u64 (IntKind.u64.wrap u.toNat) (IntKind.u64.wrap (IntKind.u64.wrap v.toNat * 4294967296)) = ((UK.mk64 u v).toNat : Int)) := by
    show _ = _
    rw [IntKind.wrap_u64, IntKind.wrap_u64, IntKind.wrap_u64, UK.u32_mod64, UK.u32_mod64, UK.up32_is, UK.or_u64]
  go_enter Tryd.func143, Tryd.ntmps143
  go_wp2_with fail
  go_quiet (first | (go_at_call 92; with_reducible exact Calls.quiet_of (g1 _)) | (go_at_call 92; with_reducible exact Calls.quiet_of (g2 _)))
  go_wp2
  go_ret
  exact ⟨by rw [HE.out] <;> rfl, _, rfl⟩
end Go.Proofs.YthjnfclebeggaaaDoor
