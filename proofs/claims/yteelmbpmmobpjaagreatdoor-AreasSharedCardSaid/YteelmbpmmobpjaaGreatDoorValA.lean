/-
  Layer value: the five kinds of values, as the model has them; what an assertion of each kind gives.
-/
import Derived.Test.YteelmbpmmobpjaaGreatDoorDecD
namespace Go.Proofs.YteelmbpmmobpjaaGreatDoor
open Go.RowKit
open UK (str BytesAt nth Only Row Box)
inductive V where
  | blank
  | num (n : Int)
  | text (l : List UInt8)
  | bool (b : Bool)
  | fail (k : Int)
namespace V
def val : V → Value
  | .blank => .iface 90 (.agg #[])
  | .num n => .iface 43 (.int .i64 n)
  | .text l => .iface 52 (.string (str l))
  | .bool b => .iface 67 (.bool b)
  | .fail k => .iface 61 (.int .i64 k)
/-- a value that there may be -/
def Ok : V → Prop
  | .blank => True
  | .num n => DE.Good n
  | .text l => l.length ≤ 2000
  | .bool _ => True
  | .fail k => 1 ≤ k ∧ k ≤ 7
end V

@[go_sem] theorem as_num_num (W : World) (n : Int) : (Instr.typeAssert (.iface 43 (.int .i64 n)) 35 43 true).run Tryz.prog W = .ok (.tuple #[(.int .i64 n), .bool true]) W := by kernel_rfl
@[go_sem] theorem as_num_text (W : World) (s : ByteArray) : (Instr.typeAssert (.iface 52 (.string s)) 35 43 true).run Tryz.prog W = .ok (.tuple #[.int .i64 0, .bool false]) W := by kernel_rfl
@[go_sem] theorem as_num_bool (W : World) (b : Bool) : (Instr.typeAssert (.iface 67 (.bool b)) 35 43 true).run Tryz.prog W = .ok (.tuple #[.int .i64 0, .bool false]) W := by kernel_rfl
@[go_sem] theorem as_num_fail (W : World) (n : Int) : (Instr.typeAssert (.iface 61 (.int .i64 n)) 35 43 true).run Tryz.prog W = .ok (.tuple #[.int .i64 0, .bool false]) W := by kernel_rfl
@[go_sem] theorem as_num_blank (W : World) : (Instr.typeAssert (.iface 90 (.agg #[])) 35 43 true).run Tryz.prog W = .ok (.tuple #[.int .i64 0, .bool false]) W := by kernel_rfl
@[go_sem] theorem as_text_num (W : World) (n : Int) : (Instr.typeAssert (.iface 43 (.int .i64 n)) 35 52 true).run Tryz.prog W = .ok (.tuple #[.string (str []), .bool false]) W := by kernel_rfl
@[go_sem] theorem as_text_text (W : World) (s : ByteArray) : (Instr.typeAssert (.iface 52 (.string s)) 35 52 true).run Tryz.prog W = .ok (.tuple #[(.string s), .bool true]) W := by kernel_rfl
@[go_sem] theorem as_text_bool (W : World) (b : Bool) : (Instr.typeAssert (.iface 67 (.bool b)) 35 52 true).run Tryz.prog W = .ok (.tuple #[.string (str []), .bool false]) W := by kernel_rfl
@[go_sem] theorem as_text_fail (W : World) (n : Int) : (Instr.typeAssert (.iface 61 (.int .i64 n)) 35 52 true).run Tryz.prog W = .ok (.tuple #[.string (str []), .bool false]) W := by kernel_rfl
@[go_sem] theorem as_text_blank (W : World) : (Instr.typeAssert (.iface 90 (.agg #[])) 35 52 true).run Tryz.prog W = .ok (.tuple #[.string (str []), .bool false]) W := by kernel_rfl
@[go_sem] theorem as_bool_num (W : World) (n : Int) : (Instr.typeAssert (.iface 43 (.int .i64 n)) 35 67 true).run Tryz.prog W = .ok (.tuple #[.bool false, .bool false]) W := by kernel_rfl
@[go_sem] theorem as_bool_text (W : World) (s : ByteArray) : (Instr.typeAssert (.iface 52 (.string s)) 35 67 true).run Tryz.prog W = .ok (.tuple #[.bool false, .bool false]) W := by kernel_rfl
@[go_sem] theorem as_bool_bool (W : World) (b : Bool) : (Instr.typeAssert (.iface 67 (.bool b)) 35 67 true).run Tryz.prog W = .ok (.tuple #[(.bool b), .bool true]) W := by kernel_rfl
@[go_sem] theorem as_bool_fail (W : World) (n : Int) : (Instr.typeAssert (.iface 61 (.int .i64 n)) 35 67 true).run Tryz.prog W = .ok (.tuple #[.bool false, .bool false]) W := by kernel_rfl
@[go_sem] theorem as_bool_blank (W : World) : (Instr.typeAssert (.iface 90 (.agg #[])) 35 67 true).run Tryz.prog W = .ok (.tuple #[.bool false, .bool false]) W := by kernel_rfl
@[go_sem] theorem as_fail_num (W : World) (n : Int) : (Instr.typeAssert (.iface 43 (.int .i64 n)) 35 61 true).run Tryz.prog W = .ok (.tuple #[.int .i64 0, .bool false]) W := by kernel_rfl
@[go_sem] theorem as_fail_text (W : World) (s : ByteArray) : (Instr.typeAssert (.iface 52 (.string s)) 35 61 true).run Tryz.prog W = .ok (.tuple #[.int .i64 0, .bool false]) W := by kernel_rfl
@[go_sem] theorem as_fail_bool (W : World) (b : Bool) : (Instr.typeAssert (.iface 67 (.bool b)) 35 61 true).run Tryz.prog W = .ok (.tuple #[.int .i64 0, .bool false]) W := by kernel_rfl
@[go_sem] theorem as_fail_fail (W : World) (n : Int) : (Instr.typeAssert (.iface 61 (.int .i64 n)) 35 61 true).run Tryz.prog W = .ok (.tuple #[(.int .i64 n), .bool true]) W := by kernel_rfl
@[go_sem] theorem as_fail_blank (W : World) : (Instr.typeAssert (.iface 90 (.agg #[])) 35 61 true).run Tryz.prog W = .ok (.tuple #[.int .i64 0, .bool false]) W := by kernel_rfl
@[go_sem] theorem as_blank_num (W : World) (n : Int) : (Instr.typeAssert (.iface 43 (.int .i64 n)) 35 90 true).run Tryz.prog W = .ok (.tuple #[.agg #[], .bool false]) W := by kernel_rfl
@[go_sem] theorem as_blank_text (W : World) (s : ByteArray) : (Instr.typeAssert (.iface 52 (.string s)) 35 90 true).run Tryz.prog W = .ok (.tuple #[.agg #[], .bool false]) W := by kernel_rfl
@[go_sem] theorem as_blank_bool (W : World) (b : Bool) : (Instr.typeAssert (.iface 67 (.bool b)) 35 90 true).run Tryz.prog W = .ok (.tuple #[.agg #[], .bool false]) W := by kernel_rfl
@[go_sem] theorem as_blank_fail (W : World) (n : Int) : (Instr.typeAssert (.iface 61 (.int .i64 n)) 35 90 true).run Tryz.prog W = .ok (.tuple #[.agg #[], .bool false]) W := by kernel_rfl
@[go_sem] theorem as_blank_blank (W : World) : (Instr.typeAssert (.iface 90 (.agg #[])) 35 90 true).run Tryz.prog W = .ok (.tuple #[(.agg #[]), .bool true]) W := by kernel_rfl
/-- an empty struct's pieces -/
def GivenN : V → Int
  | .num n => n
  | _ => 0
def isNum : V → Bool
  | .num _ => true
  | _ => false
def isText : V → Bool
  | .text _ => true
  | _ => false
def isBlank : V → Bool
  | .blank => true
  | _ => false
def failN : V → Int
  | .fail k => k
  | _ => 0
def isFail : V → Bool
  | .fail _ => true
  | _ => false
theorem istext_any {w : World} (v : V) : Calls Tryz.prog 14 #[v.val] w fun e w' => e = .returned (.bool (isText v)) ∧ w = w' := by
  cases v
  all_goals
    unfold V.val
    go_enter Tryz.func14, Tryz.ntmps14
    go_wp2
    go_ret
    exact ⟨rfl, rfl⟩
theorem given_any {w : World} (v : V) : Calls Tryz.prog 40 #[v.val] w fun e w' => e = .returned (.tuple #[.int .i64 (GivenN v), .bool (isNum v)]) ∧ w = w' := by
  cases v
  all_goals
    unfold V.val
    go_enter Tryz.func40, Tryz.ntmps40
    go_wp2
    go_ret2
    exact ⟨rfl, rfl⟩
theorem failed_any {w : World} (v : V) : Calls Tryz.prog 52 #[v.val] w fun e w' => e = .returned (.tuple #[.int .i64 (failN v), .bool (isFail v)]) ∧ w = w' := by
  cases v
  all_goals
    unfold V.val
    go_enter Tryz.func52, Tryz.ntmps52
    go_wp2
    go_ret2
    exact ⟨rfl, rfl⟩
theorem isblank_any {w : World} (v : V) : Calls Tryz.prog 50 #[v.val] w fun e w' => e = .returned (.bool (isBlank v)) ∧ Below w.heap.size w w' := by
  cases v
  all_goals
    unfold V.val
    go_enter Tryz.func50, Tryz.ntmps50
    go_wp2
    go_ret
    exact ⟨rfl, (Below.refl _ _).alloc (Nat.le_refl _) _⟩
theorem counted_any {w : World} (n : Int) (b : Bool) : Calls Tryz.prog 25 #[.int .i64 n, .bool b] w fun e w' => e = .returned (V.val (if b then .num n else .fail 2)) ∧ w = w' := by
  cases b
  all_goals
    go_enter Tryz.func25, Tryz.ntmps25
    go_wp2
    go_ret
    exact ⟨rfl, rfl⟩
/-- a value as a number, or why not -/
def numN : V → Int
  | .num n => n
  | .bool b => if b then 10000 else 0
  | .text l => DE.parseN (DE.trimN l)
  | _ => 0
def numF : V → Int
  | .text l => if DE.parseB (DE.trimN l) then 0 else 3
  | .fail k => k
  | _ => 0
theorem parseN_no {l : List UInt8} (h : DE.parseB l = false) : DE.parseN l = 0 := by
  unfold DE.parseB at h
  unfold DE.parseN
  cases hp : DE.parseO l with
  | none => rfl
  | some n => rw [hp] at h; cases h
theorem asnum_any {w : World} (v : V) (hv : v.Ok) : Calls Tryz.prog 33 #[v.val] w fun e w' => e = .returned (.tuple #[.int .i64 (numN v), .int .i64 (numF v)]) ∧ Below w.heap.size w w' := by
  cases v with
  | text l =>
    have hl : l.length ≤ 2000 := hv
    have HT := Lib.hid (trim_any (w := w) l (by omega))
    have hl2 := DE.trimN_le l
    have HP := Lib.hid (fun w => parse_any (w := w) (DE.trimN l) (by omega))
    have HN := Lib.hid (@parseN_no (DE.trimN l))
    show Calls _ _ _ _ fun e w' => e = .returned (.tuple #[.int .i64 (DE.parseN (DE.trimN l)), .int .i64 (if DE.parseB (DE.trimN l) then 0 else 3)]) ∧ _
    unfold V.val
    clear hl2 hv
    generalize DE.trimN l = t at HT HP HN
    cases hb : DE.parseB t with
    | true =>
      rw [hb] at HP
      go_enter Tryz.func33, Tryz.ntmps33
      go_wp2_with fail
      refine HT.out.mono ?_
      rintro e w1 ⟨rfl, b1⟩
      go_wp2_with fail
      refine (HP.out _).mono ?_
      rintro e w2 ⟨rfl, b2⟩
      go_wp2
      go_ret2
      exact ⟨rfl, b1.trans (b2.mono b1.size)⟩
    | false =>
      rw [hb] at HP
      rw [HN.out hb] at HP ⊢
      go_enter Tryz.func33, Tryz.ntmps33
      go_wp2_with fail
      refine HT.out.mono ?_
      rintro e w1 ⟨rfl, b1⟩
      go_wp2_with fail
      refine (HP.out _).mono ?_
      rintro e w2 ⟨rfl, b2⟩
      go_wp2
      go_ret2
      exact ⟨rfl, b1.trans (b2.mono b1.size)⟩
  | bool b =>
    cases b
    all_goals
      unfold V.val
      go_enter Tryz.func33, Tryz.ntmps33
      go_wp2
      go_ret2
      exact ⟨rfl, Below.refl _ _⟩
  | _ =>
    unfold V.val
    go_enter Tryz.func33, Tryz.ntmps33
    go_wp2
    go_ret2
    exact ⟨rfl, Below.refl _ _⟩
theorem numN_good (v : V) (hv : v.Ok) : DE.Good (numN v) := by
  cases v with
  | num n => exact hv
  | text l => exact DE.parseN_good _
  | bool b => cases b <;> simp [numN, DE.Good]
  | blank => simp [numN, DE.Good]
  | fail k => simp [numN, DE.Good]
end Go.Proofs.YteelmbpmmobpjaaGreatDoor
