/-
  Small rules on unsigned integers of fixed width and on strings, in the form in which a walk shows them. The operations stand behind names of their own, so that simp leaves them whole.
-/
import Derived.Test.YtfljlcfmdcepnaaGreatDoorRows
import Derived.WalkKit
import Derived.WalkSpells
import Derived.WalkLawsBesides
import Derived.Laws.IdiomStrings
import Derived.Outline
import Derived.Lib.Hide
import Derived.Deep.QuietTactic
import Derived.BigQuiet
namespace Go.Proofs.YtfljlcfmdcepnaaGreatDoor.UK
open Go.RowKit
def xr (a b : UInt32) : UInt32 := a ^^^ b
def or32 (a b : UInt32) : UInt32 := a ||| b
def nt (a : UInt32) : UInt32 := ~~~a
def an15 (a : UInt32) : UInt32 := a &&& 15
def dv16 (a : UInt32) : UInt32 := a / 16
def poly : UInt32 := 2197175160
def hf (a : UInt32) : UInt32 := a / 2
def hf8 (a : UInt8) : UInt8 := a / 2
def dv256 (a : UInt32) : UInt32 := a / 256
def odds (a b : UInt32) : Bool := a.toNat % 2 != b.toNat % 2
def xr8 (a b : UInt8) : UInt8 := a ^^^ b
def wide (b : UInt8) : UInt32 := b.toUInt32
def byteOf (c : UInt32) (i : Nat) : UInt8 := UInt8.ofNat (c.toNat / 256 ^ i)
def shl (b : UInt32) (i : Nat) : UInt32 := UInt32.ofNat (b.toNat * 256 ^ i)
@[go_sem] theorem shl1 (b : UInt32) : (b.toNat : Int) * 256 % 4294967296 = ((shl b 1).toNat : Int) := by simp [shl]
@[go_sem] theorem shl2 (b : UInt32) : (b.toNat : Int) * 65536 % 4294967296 = ((shl b 2).toNat : Int) := by simp [shl]
@[go_sem] theorem shl3 (b : UInt32) : (b.toNat : Int) * 16777216 % 4294967296 = ((shl b 3).toNat : Int) := by simp [shl]
@[go_sem] theorem hf_u32 (a : UInt32) : (a.toNat : Int) / 2 = ((hf a).toNat : Int) := by simp [hf]
@[go_sem] theorem hf_u8 (a : UInt8) : (a.toNat : Int) / 2 = ((hf8 a).toNat : Int) := by simp [hf8]
@[go_sem] theorem dv256_u32 (a : UInt32) : (a.toNat : Int) / 256 = ((dv256 a).toNat : Int) := by simp [dv256]
@[go_sem] theorem byteOf_dv (a : UInt32) : byteOf (dv256 a) 0 = byteOf a 1 := by simp [byteOf, dv256]
@[go_sem] theorem odds_u32 (a b : UInt32) : ((a.toNat : Int) % 2 != (b.toNat : Int) % 2) = odds a b := by
  have h : ((a.toNat : Int) % 2 = (b.toNat : Int) % 2) ↔ (a.toNat % 2 = b.toNat % 2) := by omega
  unfold odds bne
  congr 1
  rw [Bool.eq_iff_iff, beq_iff_eq, beq_iff_eq, h]
@[go_sem] theorem byte_shift (u : UInt32) (k : Nat) : (u.toNat : Int) / 2 ^ (8 * k) % 256 = ((byteOf u k).toNat : Int) := by
  rw [show (2 : Int) ^ (8 * k) = ((256 ^ k : Nat) : Int) by rw [Int.pow_mul]; norm_cast]
  simp [byteOf]
theorem ne_u32 (a b : UInt32) : ((a.toNat : Int) != (b.toNat : Int)) = !(a == b) := by
  unfold bne
  congr 1
  rw [Bool.eq_iff_iff, beq_iff_eq, beq_iff_eq]
  exact ⟨fun h => UInt32.toNat_inj.1 (by omega), fun h => by rw [h]⟩
@[go_sem] theorem u8_mod32 (b : UInt8) : (b.toNat : Int) % 4294967296 = ((wide b).toNat : Int) := by simp [wide]; have := b.toNat_lt; omega
@[go_sem] theorem u8_mod8 (b : UInt8) : (b.toNat : Int) % 256 = (b.toNat : Int) := by have := b.toNat_lt; omega
@[go_sem] theorem u32_mod32 (b : UInt32) : (b.toNat : Int) % 4294967296 = (b.toNat : Int) := by have := b.toNat_lt; omega
@[go_sem] theorem u32_mod8 (b : UInt32) : (b.toNat : Int) % 256 = ((byteOf b 0).toNat : Int) := by simp [byteOf]
@[go_sem] theorem u32_byte1 (b : UInt32) : (b.toNat : Int) / 256 % 256 = ((byteOf b 1).toNat : Int) := by simp [byteOf]
@[go_sem] theorem u32_byte2 (b : UInt32) : (b.toNat : Int) / 65536 % 256 = ((byteOf b 2).toNat : Int) := by simp [byteOf]
@[go_sem] theorem u32_byte3 (b : UInt32) : (b.toNat : Int) / 16777216 % 256 = ((byteOf b 3).toNat : Int) := by simp [byteOf]
@[go_sem] theorem xor_u32 (a b : UInt32) : bits .xor .u32 (a.toNat : Int) (b.toNat : Int) = ((xr a b).toNat : Int) := by
  rw [u32_xor_nat _ _ a.toNat_lt b.toNat_lt, xr, UInt32.toNat_xor]
@[go_sem] theorem xor_u8 (a b : UInt8) : bits .xor .u8 (a.toNat : Int) (b.toNat : Int) = ((xr8 a b).toNat : Int) := by
  rw [u8_xor_nat _ _ a.toNat_lt b.toNat_lt, xr8, UInt8.toNat_xor]
@[go_sem] theorem or_u32 (a b : UInt32) : bits .or .u32 (a.toNat : Int) (b.toNat : Int) = ((or32 a b).toNat : Int) := by
  rw [u32_or_nat _ _ a.toNat_lt b.toNat_lt, or32, UInt32.toNat_or]
@[go_sem] theorem not_u32 (a : UInt32) : bits .xor .u32 IntKind.u32.max (a.toNat : Int) = ((nt a).toNat : Int) := by
  have : IntKind.u32.max = (((4294967295 : UInt32).toNat : Nat) : Int) := by decide
  rw [this, u32_xor_nat _ _ (by decide) a.toNat_lt, ← UInt32.toNat_xor, nt]
  rw [show (4294967295 : UInt32) ^^^ a = ~~~a from by apply UInt32.toBitVec_inj.1; simp [← BitVec.allOnes_xor]]
@[go_sem] theorem not_sub (a : UInt32) : (4294967295 - (a.toNat : Int)) % 4294967296 = ((nt a).toNat : Int) := by
  have := a.toNat_lt
  rw [nt, UInt32.toNat_not]
  simp only [UInt32.size]
  omega
@[go_sem] theorem xor_poly (a : UInt32) : bits .xor .u32 (a.toNat : Int) 2197175160 = ((xr a poly).toNat : Int) := xor_u32 a poly
@[go_sem] theorem and15_u32 (a : UInt32) : bits .and .u32 (a.toNat : Int) 15 = ((an15 a).toNat : Int) := by
  rw [show (15 : Int) = ((15 : UInt32).toNat : Int) by decide]
  rw [u32_and_nat _ _ a.toNat_lt (by decide), an15, UInt32.toNat_and]
@[go_sem] theorem div16_u32 (a : UInt32) : (a.toNat : Int) / 16 = ((dv16 a).toNat : Int) := by
  simp [dv16]
theorem and15_lt (a : UInt32) : ((an15 a).toNat : Int) < 16 := by
  have : (an15 a).toNat ≤ 15 := by rw [an15, UInt32.toNat_and]; exact Nat.and_le_right
  omega
/-! ## strings as lists of bytes -/
def nth (l : List UInt8) (i : Nat) : UInt8 := l.getD i 0
def str (l : List UInt8) : ByteArray := ⟨l.toArray⟩
theorem str_self (s : ByteArray) : s = str s.data.toList := by simp [str]
@[go_sem] theorem str_size (l : List UInt8) : (str l).size = l.length := by simp [str, ByteArray.size]
@[go_sem] theorem str_extract (l : List UInt8) (a b : Nat) : (str l).extract a b = str ((l.take b).drop a) := by
  apply ByteArray.ext
  simp [str, ByteArray.data_extract, List.drop_take]
@[go_sem] theorem str_append (l m : List UInt8) : str l ++ str m = str (l ++ m) := by
  apply ByteArray.ext
  simp [str]
@[go_sem] theorem str_data (l : List UInt8) : (str l).data.toList = l := by simp [str]
@[go_sem] theorem str_toList (l : List UInt8) : (str l).toList = l := ByteArray.toList_mk l
@[go_sem] theorem str_get (l : List UInt8) (i : Nat) (h : i < (str l).size) : (str l)[i]'h = nth l i := by
  have h' : i < l.length := by simpa [str_size] using h
  show (str l).data[i] = _
  simp [str, nth, List.getD, h']
@[go_sem] theorem mk_str (l : List UInt8) : ByteArray.mk l.toArray = str l := rfl
/-! ## a region that draws its order, over a class of worlds -/
structure Kept (I : World → Prop) where
  w : World
  h : I w
theorem wp_region_kept {P : Program} {id : Nat} {Q : Exit → Act → World → Prop} {a : Act} {w : World} {l : List Oper} (I : World → Prop) (hm : P.follows .mixedOrders = true) (hB : Region.lexB .any l.toArray = true) (hI : I w.drew)
    (h : wpQuiet P l.toArray (fun w' => ∃ p : Kept I, w' = p.w) (fun a' => ∀ p : Kept I, Q .normal a' p.w) l a) : (Code.region id l.toArray true).wp P Q a w := by
  refine wp_region_quiet (C := fun w' => ∃ p : Kept I, w' = p.w) hm hB ⟨⟨_, hI⟩, rfl⟩ ?_
  have e : (fun a' => ∀ w', (∃ p : Kept I, w' = p.w) → Q .normal a' w') = (fun a' => ∀ p : Kept I, Q .normal a' p.w) := by
    funext a'
    exact propext ⟨fun h p => h _ ⟨p, rfl⟩, fun h w' ⟨p, hp⟩ => hp ▸ h p⟩
  rw [e]
  simpa using h
theorem kept_of {P : Program} {f : FuncId} {args : Array Value} {w : World} {I : World → Prop} {v : Value} {R : Ending → World → Prop} (h : Calls P f args w R) (hr : ∀ e w', R e w' → e = .returned v ∧ I w') :
    Calls P f args w fun e w'' => e = .returned v ∧ ∃ q : Kept I, w'' = q.w :=
  h.mono fun e w' hR => ⟨(hr e w' hR).1, ⟨_, (hr e w' hR).2⟩, rfl⟩
end Go.Proofs.YtfljlcfmdcepnaaGreatDoor.UK
