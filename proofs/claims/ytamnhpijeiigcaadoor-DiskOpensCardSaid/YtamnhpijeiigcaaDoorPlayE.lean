/-
  The law's Does: its other ways.
-/
import Derived.Test.YtamnhpijeiigcaaDoorPlayC
namespace Go.Proofs.YtamnhpijeiigcaaDoor
open Go.RowKit
open UK (str BytesAt nth Only w32 Row Box)
open Go.BigFrame
section
variable {E : Nat → Prop} {N k : Nat} {W w w1 w2 : World} {gp cp fc cnt gp' cp' fc' cnt' : Nat} {fo fo' : Option Addr} {d d' : Dk} {ac : Array Value}
/-- within Does, disk and x alike, x's memory elsewhere than Does' own -/
structure LM (E : Nat → Prop) (N : Nat) (W w : World) (gp cp : Nat) (fo : Option Addr) (fc : Nat) (d : Dk) (cnt : Nat) (ac : Array Value) : Prop where
  ls : LS E N W w gp cp fo fc d cnt d cnt ac
  far : gp ≠ W.heap.size ∧ gp ≠ W.heap.size + 1 + 1
  farF : ∀ F, fo = some ⟨F, 0, none⟩ → F ≠ W.heap.size ∧ F ≠ W.heap.size + 1 + 1
theorem LM.next (h : LM E N W w gp cp fo fc d cnt ac) (hN : N ≤ W.heap.size) (hb : Below w.heap.size w w1) : LM E N W w1 gp cp fo fc d cnt ac := ⟨h.ls.next hN hb, h.far, h.farF⟩
theorem LS.toLM (h : LS E N W w gp cp fo fc d cnt d cnt ac) (hgp : gp < W.heap.size) (hfo : ∀ F, fo = some ⟨F, 0, none⟩ → F < W.heap.size) : LM E N W w gp cp fo fc d cnt ac :=
  ⟨h, ⟨by omega, by omega⟩, fun F e => by have := hfo F e; exact ⟨by omega, by omega⟩⟩
/-- the answer's struct is written -/
theorem LM.end_ (h : LM E N W w gp cp fo fc d cnt ac) (_hN : N < W.heap.size) (_htab : 0 < N) (c0 c1 c2 c3 c4 c5 c6 : Value) :
    Pair E N (UK.fill7 w (W.heap.size + 1 + 1) c0 c1 c2 c3 c4 c5 c6) gp cp fo fc d cnt ∧ Kept E W (UK.fill7 w (W.heap.size + 1 + 1) c0 c1 c2 c3 c4 c5 c6) := by
  have hs := h.ls.size
  have o2 := UK.Only.fill7 w (W.heap.size + 1 + 1) c0 c1 c2 c3 c4 c5 c6
  have h3 := h.ls.dd.push o2 (.inl (.inr ⟨by omega, by omega⟩)) (by have := o2.size; omega) (by omega)
  exact ⟨⟨h3.less (fun j hj => .inl (.inl hj)), h.ls.ref.fill h.far.2 (fun F e => (h.farF F e).2) _ _ _ _ _ _ _⟩, h.ls.kept.trans (Kept.of_only o2 (fun j hj => by have := h.ls.low j hj; exact ⟨by omega, by omega⟩))⟩
/-- one number of x -/
theorem LS.cellX (h : LS E N W w gp cp fo fc d cnt d' cnt ac) (_hN : N < W.heap.size) (_htab : 0 < N) (hgp : gp < W.heap.size) (hfo : ∀ F, fo = some ⟨F, 0, none⟩ → F < W.heap.size) (j : Nat) (v : Value)
    (hx : d'.x = d.x) (hf : d'.free = d.free) (hv : (rcells gp cnt cp fo d.free.length fc d).set! j v = rcells gp cnt cp fo d'.free.length fc d') : LM E N W (w.setCell ⟨W.heap.size, j, none⟩ v) gp cp fo fc d' cnt ac := by
  have hs := h.size
  have o2 := (Only.refl W.heap.size w).set j v
  have h3 := (h.dd.push o2 (.inl (.inr ⟨Nat.le_refl _, by omega⟩)) (by simp [World.setCell]; omega) (by omega)).less (T := keepL E gp fo W.heap.size) (fun i hi => .inl hi)
  have hx1 := h.x.set j v
  rw [hv] at hx1
  refine ⟨⟨hx1, h.act.far _ (by omega), h.ans.far _ (by omega), h3, ?_, h.kept.trans (Kept.of_only o2 (fun i hi => by have := h.low i hi; exact ⟨by omega, by omega⟩)), by simpa [World.setCell] using hs, h.low⟩, ⟨by omega, by omega⟩, fun F e => by have := hfo F e; exact ⟨by omega, by omega⟩⟩
  exact (h.ref.same hx hf).kept (by simp [World.setCell]) (Below.heap_setCell _ _ _ _ (by show gp ≠ W.heap.size; omega)) (fun F e => Below.heap_setCell _ _ _ _ (by have := hfo F e; show F ≠ W.heap.size; omega))
/-- x takes what the document's call tells -/
theorem LS.mid (h : LS E N W w1 gp cp fo fc d cnt d' cnt' ac) (_hN : N < W.heap.size) (_htab : 0 < N) (hgp : gp < W.heap.size) (hfo : ∀ F, fo = some ⟨F, 0, none⟩ → F < W.heap.size)
    (hw : RefAt N w2 gp' cp' fo' fc' d' cnt') (hb : Below w1.heap.size w1 w2) (hx : (gp' = gp ∨ w1.heap.size ≤ gp') ∧ ∀ F, fo' = some ⟨F, 0, none⟩ → fo = some ⟨F, 0, none⟩ ∨ w1.heap.size ≤ F) :
    LM E N W (UK.fill7 w2 W.heap.size (.slice (some ⟨gp', 0, none⟩) cnt' cp') (.slice fo' d'.free.length fc') (.int .i64 d'.most) (.int .i64 d'.rl) (.int .i64 d'.wl) (.int .i64 d'.reads) (.int .i64 d'.puts)) gp' cp' fo' fc' d' cnt' ac := by
  have hs := h.size
  have h1 : DD (keepL E gp' fo' W.heap.size) w2 N d' cnt' := h.dd.grow hb (fun j hj => by
    rcases hj with (hj | rfl | hj) | hj
    · exact .inl (.inl (.inl hj))
    · rcases hx.1 with e | e
      · exact .inl (.inl (.inr (.inl e)))
      · exact .inr ⟨e, hw.pages.lt⟩
    · rcases hx.2 j hj with e | e
      · exact .inl (.inl (.inr (.inr e)))
      · exact .inr ⟨e, (hw.lowF j hj).2⟩
    · exact .inl (.inr hj))
  have o1 := UK.Only.fill7 w2 W.heap.size (.slice (some ⟨gp', 0, none⟩) cnt' cp') (.slice fo' d'.free.length fc') (.int .i64 d'.most) (.int .i64 d'.rl) (.int .i64 d'.wl) (.int .i64 d'.reads) (.int .i64 d'.puts)
  have hs2 := hb.size
  have h2 := (h1.push o1 (.inl (.inr ⟨Nat.le_refl _, by omega⟩)) (by have := o1.size; omega) (by omega)).less (T := keepL E gp' fo' W.heap.size) (fun i hi => .inl hi)
  have g1 : gp' ≠ W.heap.size ∧ gp' ≠ W.heap.size + 1 + 1 := by
    rcases hx.1 with e | e
    · exact ⟨by omega, by omega⟩
    · exact ⟨by omega, by omega⟩
  have g2 : ∀ F, fo' = some ⟨F, 0, none⟩ → F ≠ W.heap.size ∧ F ≠ W.heap.size + 1 + 1 := fun F e => by
    rcases hx.2 F e with e2 | e2
    · have := hfo F e2; exact ⟨by omega, by omega⟩
    · exact ⟨by omega, by omega⟩
  have hx1 := h.x.next hb
  refine ⟨⟨hx1.fill7 _ _ _ _ _ _ _, (h.act.next hb).fill7_far (by omega) _ _ _ _ _ _ _, (h.ans.next hb).fill7_far (by omega) _ _ _ _ _ _ _, h2, hw.fill g1.1 (fun F e => (g2 F e).1) _ _ _ _ _ _ _, (h.kept.trans (Kept.of_below hb (fun j hj => by have := h.low j hj; omega))).trans (Kept.of_only o1 (fun j hj => by have := h.low j hj; exact ⟨by omega, by omega⟩)), by have := o1.size; omega, h.low⟩, g1, g2⟩
def sB (cnt : Nat) (n : Int) : Bool := decide (0 ≤ n ∧ n < 512 * (cnt : Int))
def sD (d : Dk) (cnt : Nat) (n : Int) (b : UInt8) : Dk := if 0 ≤ n ∧ n < 512 * (cnt : Int) then spoilD d n.toNat b else d
theorem dd_spoil_u {S : Nat → Prop} {D : Nat} (h : DD S W D d cnt) (n : Int) (b : UInt8) :
    Calls Tryd.prog 21 #[.pointer (some ⟨D, 0, none⟩), .int .i64 n, .int .u8 (b.toNat : Int)] W fun e w' => e = .returned (.bool (sB cnt n)) ∧ DD S w' D (sD d cnt n b) cnt ∧ Kept S W w' := by
  unfold sB sD
  by_cases hn : 0 ≤ n ∧ n < 512 * (cnt : Int)
  · rw [if_pos hn, decide_eq_true hn]
    obtain ⟨i, rfl⟩ : ∃ i : Nat, n = i := ⟨n.toNat, by omega⟩
    rw [Int.toNat_natCast]
    exact dd_spoil_yes h i (by omega) b
  · rw [if_neg hn, decide_eq_false hn]
    exact (dd_spoil_no h n (by omega) b).mono fun _ _ ⟨a, e⟩ => ⟨a, e ▸ h, e ▸ Kept.refl _ _⟩
theorem rspoil_u (h : RefAt N W gp cp fo fc d cnt) (hN : N ≤ W.heap.size) (f : Fit d cnt) (n : Int) (b : UInt8) :
    Calls Tryd.prog 44 #[rval gp cnt cp fo d.free.length fc d, .int .i64 n, .int .u8 (b.toNat : Int)] W fun e w' => Was N W w' gp fo (sD d cnt n b) cnt (fun v => .tuple #[v, .bool (sB cnt n)]) e := by
  unfold sB sD
  by_cases hn : 0 ≤ n ∧ n < 512 * (cnt : Int)
  · rw [if_pos hn, decide_eq_true hn]
    obtain ⟨i, rfl⟩ : ∃ i : Nat, n = i := ⟨n.toNat, by omega⟩
    rw [Int.toNat_natCast]
    exact rspoil_any h hN f i (by omega) b
  · rw [if_neg hn, decide_eq_false hn]
    exact rspoil_no h f n (by omega) b
theorem Ok.spoilU (h : Ok d cnt k) (n : Int) (b : UInt8) : Ok (sD d cnt n b) cnt (k + 1) := by
  unfold sD
  split
  · exact h.spoil _ b
  · exact h.more
end
end Go.Proofs.YtamnhpijeiigcaaDoor
