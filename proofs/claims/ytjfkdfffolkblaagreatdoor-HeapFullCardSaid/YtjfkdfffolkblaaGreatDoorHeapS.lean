/-
  heap.Set's closure: a short record is another one, in its place.
-/
import Derived.Test.YtjfkdfffolkblaaGreatDoorHeapQ
import Derived.Deep.RegionHeld
namespace Go.Proofs.YtjfkdfffolkblaaGreatDoor
open Go.RowKit
open UK (str BytesAt nth Only Row Box w32)
open SR (Recs rcd total)
open SL (hole add trim room live)
open Go.BigFrame
/-- is there room for another record in the old one's place? -/
def fitsB (l : List (List UInt8)) (i : Nat) (r : List UInt8) : Bool := decide (4 + 4 * l.length + total l + r.length ≤ 504 + (rcd l i).length)
theorem kept_cell {S : Nat → Prop} {a w : World} {c : Nat} {v : Value} (h : Kept S a w) (hc : S c) (f : a.cell? ⟨c, 0, none⟩ = some v) : w.cell? ⟨c, 0, none⟩ = some v := (World.cell?_of_block (a := ⟨c, 0, none⟩) (h.block c hc)).trans f
theorem far_cell {w : World} {c d : Nat} {v : Value} (hn : c ≠ d) (x : Value) (f : w.cell? ⟨c, 0, none⟩ = some v) : (w.setCell ⟨d, 0, none⟩ x).cell? ⟨c, 0, none⟩ = some v := (World.cell?_of_block (a := ⟨c, 0, none⟩) (Below.heap_setCell w _ x c hn)).trans f
section
variable {E F : Nat → Prop} {W W' : World} {P D k fb db cap pg root H c1 c2 c3 i : Nat} {A : AP} {s : List UInt8} {L : List (List UInt8)} {v3 : Value}
/-- what slot.Set leaves of the page -/
def SetPg (E : Nat → Prop) (w : World) (P D : Nat) (A : AP) (k fb db cap pg i : Nat) (L : List (List UInt8)) (r : List UInt8) : Prop :=
  (fitsB L i r = true ∧ ∃ z, Recs z (L.set i r) ∧ z.length = 504 ∧ PF E w P D (A.wrote pg z) k fb db cap pg true) ∨ (fitsB L i r = false ∧ PF E w P D (A.keep pg) k fb db cap pg true)
theorem setAt_any {r : List UInt8} (h : PF E W P D (A.keep pg) k fb db cap pg true) (hr : Recs (A.c pg) L) (hi : i < L.length) (hrc : rcd L i ≠ []) (hrn : r ≠ []) (h3 : E c3) (b3 : Box W c3 #[v3]) :
    Calls Tryz.prog 87 #[.slice (some ⟨db, 0, none⟩) 504 cap, .int .i64 i, .string (str r)] W fun e w' => e = .returned (.bool (fitsB L i r)) ∧ w'.cell? ⟨c3, 0, none⟩ = some v3 ∧ w'.frozen? ⟨c3, 0, none⟩ = false ∧ Box w' c3 #[v3] ∧ SetPg E w' P D A k fb db cap pg i L r ∧ Kept E W w' := by
  obtain ⟨y, y1, y2, y3, y4, y5⟩ := h.bytes
  have y3 : y.take 504 = A.c pg := y3
  have hne3 : c3 ≠ db := fun e => y5 (e ▸ h3)
  by_cases hf : 4 + 4 * L.length + total L + r.length ≤ 504 + (rcd L i).length
  · refine (SL.set_yes db y L cap (by omega) i r W y1 (hr.uncut (by omega) y3) hi hrc hrn hf).mono ?_
    rintro e w' ⟨he, ⟨z, z1, z2, z3⟩, o⟩
    obtain ⟨p, kk⟩ := h.write o z1 (z3.trans y2)
    have q3 := b3.only o hne3
    have hfb : fitsB L i r = true := decide_eq_true hf
    rw [hfb]
    exact ⟨he, q3.cell 0 _ rfl, q3.free 0, q3, .inl ⟨hfb, z.take 504, z2.cut, by rw [List.length_take]; omega, p⟩, kk⟩
  · refine (SL.set_big db y L cap i r W y1 (hr.uncut (by omega) y3) hi hrc hrn (by omega)).mono ?_
    rintro e w' ⟨he, bl⟩
    have q3 := b3.next bl
    have hfb : fitsB L i r = false := decide_eq_false hf
    rw [hfb]
    exact ⟨he, q3.cell 0 _ rfl, q3.free 0, q3, .inr ⟨hfb, h.next bl⟩, h.kept bl⟩
theorem SetPg.less {T : Nat → Prop} {r : List UInt8} {w : World} (h : SetPg E w P D A k fb db cap pg i L r) (hT : ∀ j, T j → E j) : SetPg T w P D A k fb db cap pg i L r := by
  rcases h with ⟨a, z, b, c, p⟩ | ⟨a, p⟩
  · exact .inl ⟨a, z, b, c, p.less hT⟩
  · exact .inr ⟨a, p.less hT⟩
theorem SetPg.one_ {c : Nat} {v : Value} {r : List UInt8} {w : World} (h : SetPg E w P D A k fb db cap pg i L r) (h2 : E c) (t2 : 0 ≠ c) (b2 : Box w c #[v]) (b : Value) :
    SetPg E (w.setCell ⟨c, 0, none⟩ b) P D A k fb db cap pg i L r ∧ Kept (fun j => E j ∧ j ≠ c) w (w.setCell ⟨c, 0, none⟩ b) ∧ Box (w.setCell ⟨c, 0, none⟩ b) c #[b] := by
  rcases h with ⟨a, z, x, y, p⟩ | ⟨a, p⟩
  · obtain ⟨q1, q2, q3⟩ := p.one_ h2 t2 b2 b
    exact ⟨.inl ⟨a, z, x, y, q1⟩, q2, q3⟩
  · obtain ⟨q1, q2, q3⟩ := p.one_ h2 t2 b2 b
    exact ⟨.inr ⟨a, q1⟩, q2, q3⟩
set_option maxHeartbeats 4000000 in
set_option maxRecDepth 100000 in
theorem set1_any (hs : s.length ≤ 300) (h : PF E W P D A k fb db cap pg false) (hk : k < 900000000) (hr : Recs (A.c pg) L) (hp : pg ≤ 60000) (hi2 : i < 256) (hi : i < L.length) (hrc : rcd L i ≠ []) (b1 : Box W c1 #[.int .u64 ((pg * 256 + i : Nat) : Int)]) (b2 : Box W c2 #[.string (str s)]) (b3 : Box W c3 #[v3]) (h1 : E c1) (h2 : E c2) (h3 : E c3) (t3 : 0 ≠ c3) (n13 : c1 ≠ c3) (n23 : c2 ≠ c3) :
    Calls Tryz.prog 86 #[.pointer (some ⟨fb, 0, none⟩), .pointer (some ⟨c1, 0, none⟩), .pointer (some ⟨c2, 0, none⟩), .pointer (some ⟨c3, 0, none⟩)] W fun e w' => e = .returned (.int .i64 0) ∧ SetPg E w' P D A (k + 1) fb db cap pg i L (0 :: s) ∧ Box w' c3 #[.bool (fitsB L i (0 :: s))] ∧ Kept (fun j => E j ∧ j ≠ c3) W w' := by
  have hlt := h.there
  have bd : Below W.heap.size W W.drew := (Below.refl _ _).drew
  have hand := and_255 pg i hp hi2
  have HWI : Hid (IntKind.i64.wrap (i : Int) = (i : Int)) := by show _ = _; rw [IntKind.wrap_i64]; omega
  generalize hn : pg * 256 + i = n at hand b1
  have p0 := h.next bd
  have k0 := h.kept bd
  -- the new bytes ahead of Edit
  have a1 : Below W.drew.heap.size W.drew (W.drew.alloc (.cells #[.int .u8 0] 5)) := (Below.refl _ _).alloc (Nat.le_refl _) _
  have p1 := p0.wide a1 (T := fun j => E j ∨ j = W.heap.size) (fun j hj => by
    rcases hj with hj | hj
    · exact .inl hj
    · exact .inr (by rw [hj]; simp))
  have y1 : BytesAt (W.drew.alloc (.cells #[.int .u8 0] 5)) W.heap.size [0] := new1 W.drew
  have hcv1 : ∀ w, BytesAt w W.heap.size [0] → (convert 92 9 (.slice (some ⟨W.heap.size, 0, none⟩) 1 1)).run Tryz.prog w = .ok (.string (str [0])) w := fun w hy => UK.run_window (P := Tryz.prog) (src := 92) (dst := 9) Tryz.underlying92 Tryz.underlying5 Tryz.underlying9 hy 0 1 1 (by decide)
  have hcv0 := hcv1 _ y1
  have d1 : W.drew.cell? ⟨c1, 0, none⟩ = some (.int .u64 (n : Int)) := b1.drew.cell 0 _ rfl
  have d2 : W.drew.cell? ⟨c2, 0, none⟩ = some (.string (str s)) := b2.drew.cell 0 _ rfl
  have d1a : (W.drew.alloc (.cells #[.int .u8 0] 5)).cell? ⟨c1, 0, none⟩ = some (.int .u64 (n : Int)) := (b1.drew.next a1).cell 0 _ rfl
  have d2a : (W.drew.alloc (.cells #[.int .u8 0] 5)).cell? ⟨c2, 0, none⟩ = some (.string (str s)) := (b2.drew.next a1).cell 0 _ rfl
  have hcv0' : (convert 92 9 (.slice (some ⟨W.heap.size, 0, none⟩) 1 1)).run Tryz.prog (W.alloc (.cells #[.int .u8 0] 5)).drew = .ok (.string (str [0])) (W.alloc (.cells #[.int .u8 0] 5)).drew := hcv0
  have d1b : (W.alloc (.cells #[.int .u8 0] 5)).drew.cell? ⟨c1, 0, none⟩ = some (.int .u64 (n : Int)) := d1a
  have d2b : (W.alloc (.cells #[.int .u8 0] 5)).drew.cell? ⟨c2, 0, none⟩ = some (.string (str s)) := d2a
  have HE1 := Lib.hid ((pf_edit p0 hk).mono (R' := fun e w' => e = .returned (.slice (some ⟨db, 0, none⟩) 504 cap) ∧ w'.cell? ⟨c1, 0, none⟩ = some (.int .u64 (n : Int)) ∧ w'.cell? ⟨c2, 0, none⟩ = some (.string (str s)) ∧ (w'.alloc (.cells #[.int .u8 0] 5)).cell? ⟨c1, 0, none⟩ = some (.int .u64 (n : Int)) ∧ (w'.alloc (.cells #[.int .u8 0] 5)).cell? ⟨c2, 0, none⟩ = some (.string (str s)) ∧ (convert 92 9 (.slice (some ⟨w'.heap.size, 0, none⟩) 1 1)).run Tryz.prog (w'.alloc (.cells #[.int .u8 0] 5)) = .ok (.string (str [0])) (w'.alloc (.cells #[.int .u8 0] 5)) ∧ PF E (w'.alloc (.cells #[.int .u8 0] 5)) P D (A.keep pg) (k + 1) fb db cap pg true ∧ Box (w'.alloc (.cells #[.int .u8 0] 5)) c3 #[v3] ∧ Kept E W (w'.alloc (.cells #[.int .u8 0] 5))) (fun _ w' ⟨a, b, c⟩ => by
    have q1 := b1.drew.of_block (c.block _ h1)
    have q2 := b2.drew.of_block (c.block _ h2)
    have al : Below w'.heap.size w' (w'.alloc (.cells #[.int .u8 0] 5)) := (Below.refl _ _).alloc (Nat.le_refl _) _
    exact ⟨a, q1.cell 0 _ rfl, q2.cell 0 _ rfl, (q1.next al).cell 0 _ rfl, (q2.next al).cell 0 _ rfl, UK.run_window (P := Tryz.prog) (src := 92) (dst := 9) Tryz.underlying92 Tryz.underlying5 Tryz.underlying9 (new1 w') 0 1 1 (by decide), b.next al, (b3.drew.of_block (c.block _ h3)).next al, (k0.trans c).trans (b.kept al)⟩))
  have HE2 := Lib.hid ((pf_edit p1 hk).mono (R' := fun e w' => e = .returned (.slice (some ⟨db, 0, none⟩) 504 cap) ∧ w'.cell? ⟨c1, 0, none⟩ = some (.int .u64 (n : Int)) ∧ w'.cell? ⟨c2, 0, none⟩ = some (.string (str s)) ∧ (convert 92 9 (.slice (some ⟨W.heap.size, 0, none⟩) 1 1)).run Tryz.prog w' = .ok (.string (str [0])) w' ∧ PF E w' P D (A.keep pg) (k + 1) fb db cap pg true ∧ Box w' c3 #[v3] ∧ Kept E W w') (fun _ w' ⟨a, b, c⟩ => by
    have q1 := (b1.drew.next a1).of_block (c.block _ (.inl h1))
    have q2 := (b2.drew.next a1).of_block (c.block _ (.inl h2))
    exact ⟨a, q1.cell 0 _ rfl, q2.cell 0 _ rfl, hcv1 w' (y1.of_block (c.block _ (.inr rfl))), b.less (fun j hj => .inl hj), (b3.drew.next a1).of_block (c.block _ (.inl h3)), (k0.trans (p0.kept a1)).trans (c.mono (fun j hj => .inl hj))⟩))
  have hsz : (str [0]).size + (str s).size ≤ 9223372036854775807 := by rw [UK.str_size, UK.str_size, List.length_singleton]; omega
  have hadd : ∀ w : World, (Op.stringOp .add (str [0]) (str s)).run Tryz.prog w = .ok (.string (str (0 :: s))) w := fun w => by
    have := run_string_add_sum (P := Tryz.prog) (w := w) (str [0]) (str s) hsz
    rw [UK.str_append] at this
    exact this
  have HRR := Lib.hid (And.intro hr (And.intro hi hrc))
  clear h p0 k0 p1 a1 y1 hcv1 b1 b2 b3 bd hr hi hrc hlt
  go_enter Tryz.func86, Tryz.ntmps86
  go_wp2_with fail
  go_region_held (fun w : World => w.cell? ⟨c1, 0, none⟩ = some (.int .u64 (n : Int)) ∧ w.cell? ⟨c2, 0, none⟩ = some (.string (str s))) (first | exact ⟨d1, d2⟩ | exact ⟨d1a, d2a⟩ | exact ⟨m1, m2⟩ | exact ⟨m3, m4⟩ | exact ⟨m8, m9⟩ | exact ⟨far_cell n13 _ m8, far_cell n23 _ m9⟩) (first
    | (go_at_call 47; refine HE1.out.mono ?_; rintro e w3 ⟨rfl, m1, m2, m3, m4, m5, p3, q3, k3⟩; replace p3 := Lib.hid p3; replace q3 := Lib.hid q3; replace k3 := Lib.hid k3)
    | (go_at_call 47; refine HE2.out.mono ?_; rintro e w3 ⟨rfl, m1, m2, m5, p3, q3, k3⟩; replace p3 := Lib.hid p3; replace q3 := Lib.hid q3; replace k3 := Lib.hid k3)
    | (go_at_call 87; (try rw [HWI.out]); refine (setAt_any p3.out HRR.out.1 HRR.out.2.1 HRR.out.2.2 (List.cons_ne_nil _ _) h3 q3.out).mono ?_; rintro e w4 ⟨rfl, m6, m7, q4, p4, k4⟩; have m8 := kept_cell k4 h1 (by first | exact m3 | exact m1); have m9 := kept_cell k4 h2 (by first | exact m4 | exact m2); replace p4 := Lib.hid p4; replace q4 := Lib.hid q4; replace k4 := Lib.hid k4))
  all_goals
    obtain ⟨z1, z2, z3⟩ := p4.out.one_ h3 t3 q4.out (.bool (fitsB L i (0 :: s)))
    have H5 := Lib.hid (And.intro z1 (And.intro z3 (((k3.out.trans k4.out).mono (T := fun j => E j ∧ j ≠ c3) (fun _ (hj : E _ ∧ _) => hj.1)).trans z2)))
    clear HE1 HE2 p3 q3 k3 p4 q4 k4 z1 z2 z3 m1 m2 m5 m6 m7 d1a d2a d1b d2b hcv0 hcv0'
    go_wp2
    go_ret
    exact ⟨rfl, H5.out⟩
end
end Go.Proofs.YtjfkdfffolkblaaGreatDoor
