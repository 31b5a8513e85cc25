/-
  token.Signs: how many signs a text has, and is it all signs?
-/
import Derived.Test.YteelmbpmmobpjaaGreatDoorDecC
import Derived.Laws.RangeAny
namespace Go.Proofs.YteelmbpmmobpjaaGreatDoor
open Go.RowKit
open UK (str BytesAt nth Only Row Box)
namespace SG
theorem width_pos (s : ByteArray) (pos : Nat) (h : pos < s.size) : 1 ≤ (Utf8.decode s pos).2 := by
  by_cases ha : (s[pos]'h).toNat < 128
  · rw [decode_ascii s pos h ha]
    exact Nat.le_refl _
  · exact (decode_high s pos h (by omega)).2
/-- a string's iterator, set to a place -/
def setIter (W : World) (B : Nat) (s : ByteArray) (pos : Nat) : World := { W with heap := W.heap.setIfInBounds B (.stringIter s pos) }
theorem setIter_at {W : World} {B : Nat} {s : ByteArray} {pos : Nat} (h : B < W.heap.size) : (setIter W B s pos).heap[B]? = some (.stringIter s pos) := by
  simp [setIter, h]
theorem setIter_size (W : World) (B : Nat) (s : ByteArray) (pos : Nat) : (setIter W B s pos).heap.size = W.heap.size := by simp [setIter]
theorem setIter_below {n : Nat} {w W : World} (h : Below n w W) {B : Nat} (hB : n ≤ B) (s : ByteArray) (pos : Nat) : Below n w (setIter W B s pos) :=
  ⟨h.os, h.tape, h.output, by rw [setIter_size]; exact h.size, fun k hk => by
    have : (setIter W B s pos).heap[k]? = W.heap[k]? := by
      simp only [setIter]
      rw [Array.getElem?_setIfInBounds_ne (by omega)]
    exact this.trans (h.block k hk)⟩
theorem run_next_str {P : Program} {W : World} {B : Nat} {s : ByteArray} {pos : Nat} (hW : W.heap[B]? = some (.stringIter s pos)) (h : pos < s.size) (ty : TypeId) :
    (Instr.next (.pointer (some ⟨B, 0, none⟩)) true ty).run P W = .ok (.tuple #[.bool true, .int .i64 pos, .int .i32 (Utf8.decode s pos).1]) (setIter W B s (pos + (Utf8.decode s pos).2)) := by
  simp [Instr.next, getObj, setObj, Sem.run_bind, Sem.run, Result.andThen, h, hW, goInt, setIter]
theorem run_next_stop {P : Program} {W : World} {B : Nat} {s : ByteArray} {pos : Nat} (hW : W.heap[B]? = some (.stringIter s pos)) (h : ¬ pos < s.size) (ty : TypeId) :
    (Instr.next (.pointer (some ⟨B, 0, none⟩)) true ty).run P W = .ok (.tuple #[.bool false]) W := by
  simp [Instr.next, getObj, setObj, Sem.run_bind, Sem.run, Result.andThen, h, hW]
/-- is what stands at a place no sign? -/
def bad (s : ByteArray) (pos : Nat) : Bool := (Utf8.decode s pos).1 == 65533 && (Lib.decodeGo (s.extract pos s.size)).2 == 1
/-- how many signs, from a place on; none: there is something that is no sign -/
def sigF (s : ByteArray) : Nat → Nat → Nat → Option Nat
  | 0, _, n => some n
  | f + 1, pos, n => if pos < s.size then (if bad s pos then none else sigF s f (pos + (Utf8.decode s pos).2) (n + 1)) else some n
def sig (s : ByteArray) : Option Nat := sigF s s.size 0 0
def sigN (l : List UInt8) : Int := (((sig (str l)).getD 0 : Nat) : Int)
def sigB (l : List UInt8) : Bool := (sig (str l)).isSome
theorem sigF_end (s : ByteArray) (f pos n : Nat) (h : ¬ pos < s.size) : sigF s f pos n = some n := by
  cases f with
  | zero => rfl
  | succ f => simp [sigF, h]
structure St (w : World) (s : ByteArray) (nv : Value) (wr : World) : Prop where
  is : ∃ pos f n : Nat, nv = .int .i64 n ∧ wr.heap[w.heap.size]? = some (.stringIter s pos) ∧ n ≤ pos ∧ sigF s f pos n = sig s ∧ s.size ≤ pos + f ∧ n + f ≤ s.size
  bel : Below w.heap.size w wr
def posOf (w wr : World) : Nat := match wr.heap[w.heap.size]? with | some (.stringIter _ p) => p | _ => 0
theorem posOf_of {w wr : World} {s : ByteArray} {pos : Nat} (h : wr.heap[w.heap.size]? = some (.stringIter s pos)) : posOf w wr = pos := by
  unfold posOf; rw [h]
end SG
open SG
theorem decode_any {w : World} (s : ByteArray) (hT : Lib.Utf8Tabs 1 2 w) :
    Calls Tryz.prog 74 #[.string s] w fun e w' => e = .returned (.tuple #[.int .i32 (Lib.decodeGo s).1, .int .i64 (Lib.decodeGo s).2]) ∧ Below w.heap.size w w' := Tryz.utf8_DecodeRuneInString s w hT
set_option maxHeartbeats 2000000 in
set_option maxRecDepth 100000 in
theorem signs_any {w : World} (l : List UInt8) (hl : l.length ≤ 100000) (hT : ∀ w', Below w.heap.size w w' → Lib.Utf8Tabs 1 2 w') :
    Calls Tryz.prog 41 #[.string (str l)] w fun e w' => e = .returned (.tuple #[.int .i64 (sigN l), .bool (sigB l)]) ∧ Below w.heap.size w w' := by
  have hsz : (str l).size ≤ 100000 := by rw [UK.str_size]; exact hl
  have HS : Hid ((sigN l = (((sig (str l)).getD 0 : Nat) : Int)) ∧ sigB l = (sig (str l)).isSome) := ⟨rfl, rfl⟩
  have HT := Lib.hid hT
  clear hT hl
  generalize str l = s at *
  generalize sigN l = rn at *
  generalize sigB l = rb at *
  go_enter Tryz.func41, Tryz.ntmps41
  go_wp2
  go_loopw [4] (fun nv wr => St w s nv wr) (fun _ wr => s.size - posOf w wr)
  case atStart =>
    refine ⟨⟨0, s.size, 0, rfl, ?_, Nat.le_refl _, rfl, by omega, by omega⟩, ?_⟩
    · show (w.heap.push _)[w.heap.size]? = _
      exact Array.getElem?_push_size
    · exact (Below.refl _ _).alloc (Nat.le_refl _) _
  case round =>
    obtain ⟨⟨pos, f, n, rfl, hit, hnp, hsg, hf, hnf⟩, hb⟩ := hrel
    have hpo := posOf_of hit
    by_cases hp : pos < s.size
    · have hwd := width_pos s pos hp
      have hnx := fun ty => run_next_str (P := Tryz.prog) hit hp ty
      have hlt := hb.size
      have hBl : w.heap.size < wr.heap.size := by
        rcases Nat.lt_or_ge w.heap.size wr.heap.size with h | h
        · exact h
        · rw [Array.getElem?_eq_none h] at hit; cases hit
      have hf0 : f ≠ 0 := by omega
      obtain ⟨f, rfl⟩ : ∃ f', f = f' + 1 := ⟨f - 1, by omega⟩
      have hb2 := setIter_below hb (Nat.le_refl _) s (pos + (Utf8.decode s pos).2)
      have hi2 := setIter_at (W := wr) (s := s) (pos := pos + (Utf8.decode s pos).2) hBl
      have hsg2 : sigF s (f + 1) pos n = if bad s pos then none else sigF s f (pos + (Utf8.decode s pos).2) (n + 1) := by
        show (if pos < s.size then _ else _) = _
        rw [if_pos hp]
      have hbad : bad s pos = ((Utf8.decode s pos).1 == 65533 && (Lib.decodeGo (s.extract pos s.size)).2 == 1) := rfl
      rw [hsg2] at hsg
      have HD := Lib.hid (decode_any (w := setIter wr w.heap.size s (pos + (Utf8.decode s pos).2)) (s.extract pos s.size) (HT.out _ hb2))
      have HI := Lib.hid (And.intro hi2 (And.intro hb2 hpo))
      have HG := Lib.hid (And.intro hsg hbad)
      have HW := Lib.hid hwd
      clear hwd hb2 hi2 hsg hsg2 hbad hit hf0 hb hpo
      generalize setIter wr w.heap.size s (pos + (Utf8.decode s pos).2) = W2 at *
      generalize (Utf8.decode s pos).2 = wd at *
      generalize (Utf8.decode s pos).1 = cc at *
      generalize Lib.decodeGo (s.extract pos s.size) = dg at *
      by_cases hc : cc = 65533
      · subst hc
        by_cases hd : dg.2 = 1
        · obtain ⟨d1, d2⟩ := dg
          obtain rfl : d2 = 1 := hd
          have HR : Hid (rn = 0 ∧ rb = false) := by
            obtain ⟨h1, h2⟩ := HS.out
            obtain ⟨g1, g2⟩ := HG.out
            rw [g2] at g1
            simp at g1
            rw [← g1] at h1 h2
            exact ⟨h1, h2⟩
          go_wp2_with fail
          refine HD.out.mono ?_
          rintro e w3 ⟨rfl, b3⟩
          go_wp2
          go_ret2
          exact ⟨by rw [HR.out.1, HR.out.2]; rfl, HI.out.2.1.trans (b3.mono HI.out.2.1.size)⟩
        · obtain ⟨d1, d2⟩ := dg
          have hd' : ¬ d2 = 1 := hd
          have hd2 : ((d2 : Int) == 1) = false := by simp; omega
          have HR : Hid (sigF s f (pos + wd) (n + 1) = sig s) := by
            obtain ⟨g1, g2⟩ := HG.out
            rw [g2] at g1
            have hdd : ((d1, d2).2 == 1) = false := by simpa using hd'
            rw [hdd, Bool.and_false, if_neg Bool.false_ne_true] at g1
            exact g1
          clear hd
          go_wp2_with fail
          refine HD.out.mono ?_
          rintro e w3 ⟨rfl, b3⟩
          go_wp2
          have h3 : w3.heap[w.heap.size]? = some (.stringIter s (pos + wd)) := by
            refine (b3.block _ ?_).trans HI.out.1
            rcases Nat.lt_or_ge w.heap.size W2.heap.size with h | h
            · exact h
            · have := HI.out.1
              rw [Array.getElem?_eq_none h] at this; cases this
          have hp3 := posOf_of h3
          have hwd := HW.out
          have hpo := HI.out.2.2
          go_roundw
          case rel => exact ⟨⟨pos + wd, f, n + 1, by go_num, h3, by omega, HR.out, by omega, by omega⟩, HI.out.2.1.trans (b3.mono HI.out.2.1.size)⟩
          case measure => rw [hp3, hpo]; omega
      · have hc2 : ((cc : Int) == 65533) = false := by simp; omega
        have HR : Hid (sigF s f (pos + wd) (n + 1) = sig s) := by
          obtain ⟨g1, g2⟩ := HG.out
          rw [g2] at g1
          have hcc : (cc == 65533) = false := by simpa using hc
          rw [hcc, Bool.false_and, if_neg Bool.false_ne_true] at g1
          exact g1
        go_wp2
        have hp3 := posOf_of HI.out.1
        have hwd := HW.out
        have hpo := HI.out.2.2
        go_roundw
        case rel => exact ⟨⟨pos + wd, f, n + 1, by go_num, HI.out.1, by omega, HR.out, by omega, by omega⟩, HI.out.2.1⟩
        case measure => rw [hp3, hpo]; omega
    · have hnx := fun ty => run_next_stop (P := Tryz.prog) hit hp ty
      have hs2 := sigF_end s f pos n hp
      have HR : Hid (rn = (n : Int) ∧ rb = true ∧ Below w.heap.size w wr) := by
        obtain ⟨h1, h2⟩ := HS.out
        rw [← hsg, hs2] at h1 h2
        exact ⟨h1, h2, hb⟩
      clear hsg hs2 hb hpo hit
      go_wp2
      go_ret2
      exact ⟨by rw [HR.out.1, HR.out.2.1]; rfl, HR.out.2.2⟩
end Go.Proofs.YteelmbpmmobpjaaGreatDoor
