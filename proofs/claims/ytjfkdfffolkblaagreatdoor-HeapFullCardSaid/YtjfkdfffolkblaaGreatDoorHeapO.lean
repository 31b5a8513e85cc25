/-
  heap.Get: a text is told.
  heap.Get: the walk.
  heap.Drop's closures.
-/
import Derived.Test.YtjfkdfffolkblaaGreatDoorHeapL
namespace Go.Proofs.YtjfkdfffolkblaaGreatDoor
open Go.RowKit
open UK (str BytesAt nth Only Row Box w32)
open SR (Recs rcd total)
open SL (hole add trim room live)
open Go.BigFrame
theorem cellsOf_append (l m : List UInt8) : UK.cellsOf (l ++ m) = UK.cellsOf l ++ UK.cellsOf m := List.map_append
theorem take_more (s : List UInt8) (j : Nat) : s.take (500 * j) ++ (s.drop (500 * j)).take 500 = s.take (500 * (j + 1)) := by
  rw [show 500 * (j + 1) = 500 * j + 500 by omega, List.take_add]
section
variable {E F : Nat → Prop} {W W' : World} {P D k fb db cap pg root H cb : Nat} {A : AP} {s : List UInt8} {ch : List Nat}
/-- bytes that are gathered: none yet, or a row of its own -/
def BR (W : World) (cb : Nat) (ao : Option Addr) (c : Nat) (l : List UInt8) : Prop := ((ao = none ∧ UK.cellsOf l = [] ∧ c = 0) ∨ ∃ g, ao = some ⟨g, 0, none⟩ ∧ Row W g c (UK.cellsOf l) ∧ cb < g)
/-- what Get's closure keeps -/
def JG (A : AP) (E : Nat → Prop) (cb : Nat) (s : List UInt8) (j : Nat) (S : Nat → Prop) (B : AP) (w : World) : Prop :=
  B = A ∧ ∃ ao c, (∀ b, S b ↔ E b ∨ b = cb ∨ slB ao b) ∧ Box w cb #[.slice ao (s.take (500 * j)).length c] ∧ BR w cb ao c (s.take (500 * j))
theorem BR.of_block {w w' : World} {ao : Option Addr} {c : Nat} {l : List UInt8} (h : BR w cb ao c l) (hs : w.heap.size ≤ w'.heap.size) (hb : ∀ b, slB ao b → w'.heap[b]? = w.heap[b]?) : BR w' cb ao c l := by
  rcases h with h | ⟨g, e, r, n⟩
  · exact .inl h
  · exact .inr ⟨g, e, r.of_block hs (hb g e), n⟩
set_option maxHeartbeats 1000000 in
set_option maxRecDepth 100000 in
theorem get1_doer (hE : ∀ b, E b → b < cb) (hcb : 0 < cb) (hs : s.length ≤ 400000) : Doer 106 #[.pointer (some ⟨cb, 0, none⟩)] (JG A E cb s) E P D s ch := by
  refine ⟨enters Tryz.func106 (by kernel_rfl) (by kernel_rfl), ?_, ?_, ?_⟩
  · rintro j S B w w' ⟨rfl, ao, c, h1, h2, h3⟩ hk
    exact ⟨rfl, ao, c, h1, h2.of_block (hk.block _ ((h1 _).2 (.inr (.inl rfl)))), h3.of_block hk.size (fun b hb => hk.block _ ((h1 _).2 (.inr (.inr hb))))⟩
  · rintro j S B w ⟨rfl, ao, c, h1, h2, h3⟩ b hb
    exact (h1 b).2 (.inl hb)
  · rintro T j S B kk w p hget hjs ⟨rfl, ao, c, h1, h2, h3⟩ hpz hT hkk hhas
    have hpl : 0 < ((s.drop (500 * j)).take 500).length := by rw [List.length_take, List.length_drop]; omega
    have htk := take_more s j
    generalize hpart : (s.drop (500 * j)).take 500 = part at hpl htk ⊢
    have hln : (s.take (500 * j)).length + part.length = (s.take (500 * (j + 1))).length := by rw [← htk, List.length_append]
    have hle : (s.take (500 * (j + 1))).length ≤ 400000 := by rw [List.length_take]; omega
    have hbc : byteCells (str part) = UK.cellsOf part := by unfold byteCells; rw [UK.str_data]; rfl
    have hsrc := Src.ofString (P := Tryz.prog) (w := w) Tryz.underlying9 (str part)
    rw [UK.str_size, hbc] at hsrc
    have hclen : (UK.cellsOf part).length = part.length := UK.cellsOf_length part
    rw [← hclen] at hsrc
    obtain ⟨g', c', w1, e1, r1, o1⟩ := UK.push_row (P := Tryz.prog) (t := 92) (tx := 9) (ty := 92) Tryz.underlying92 (i := Tryz.t5) rfl rfl rfl (show (1 : Nat) ≤ 16 by omega) rfl (vs := UK.cellsOf (s.take (500 * j))) (ao := ao) (c := c) (by
      rcases h3 with ⟨a, b, d⟩ | ⟨g, a, b, d⟩
      · exact .inl ⟨a, b, d⟩
      · exact .inr ⟨g, a, b⟩) (by omega) hsrc (by rw [UK.cellsOf_length, hclen]; omega)
    rw [UK.cellsOf_length, ← cellsOf_append, UK.cellsOf_length, htk] at e1
    rw [← cellsOf_append, htk] at r1
    have hcbS : S cb := (h1 cb).2 (.inr (.inl rfl))
    have hcbl : cb < w.heap.size := h2.lt
    have hg' : cb < g' := by
      rcases o1 with ⟨a, _⟩ | ⟨a, _⟩
      · rcases h3 with ⟨b, _⟩ | ⟨g, b, _, d⟩
        · rw [b] at a; cases a
        · rw [b] at a; cases a; exact d
      · omega
    have hgS : S g' ∨ w.heap.size ≤ g' := by
      rcases o1 with ⟨a, _⟩ | ⟨a, _⟩
      · exact .inl ((h1 g').2 (.inr (.inr a)))
      · exact .inr (by omega)
    have hk1 : ∀ b, b < w.heap.size → b ≠ g' → w1.heap[b]? = w.heap[b]? := fun b hb hn => by
      rcases o1 with ⟨_, o⟩ | ⟨_, o⟩
      · exact o.block b hb hn
      · exact o.block b hb
    have hsz : w.heap.size ≤ w1.heap.size ∧ g' < w1.heap.size := ⟨by
      rcases o1 with ⟨_, o⟩ | ⟨_, o⟩
      · exact o.size
      · exact o.size, r1.lt⟩
    have hlt := hpz.there
    have bc1 : Box w1 cb #[.slice ao (s.take (500 * j)).length c] := h2.of_block (hk1 cb hcbl (by omega))
    have pz1 : PZ (fun b => (E b ∨ b = cb ∨ b = g') ∨ T b) w1 P D B kk := by
      have hsub : ∀ b, (E b ∨ b = cb ∨ b = g') ∨ T b → (S b ∨ T b) ∨ (w.heap.size ≤ b ∧ b < w1.heap.size) := fun b hb => by
        rcases hb with (hb | rfl | rfl) | hb
        · exact .inl (.inl ((h1 b).2 (.inl hb)))
        · exact .inl (.inl hcbS)
        · rcases hgS with h | h
          · exact .inl (.inl h)
          · exact .inr ⟨h, hsz.2⟩
        · exact .inl (.inr hb)
      rcases o1 with ⟨a, o⟩ | ⟨a, o⟩
      · exact hpz.over (R := fun b => b = g') (fun b hb => .inl ((h1 b).2 (.inr (.inr (by rw [hb]; exact a))))) (by omega) o.size (fun b hb hn => o.block b hb hn) hsub
      · exact hpz.wide o hsub
    obtain ⟨z1, z2, z3⟩ := pz1.turn (.inl (.inr (.inl rfl))) (by omega) bc1 (.slice (some ⟨g', 0, none⟩) (s.take (500 * (j + 1))).length c')
    have r2 : Row (w1.setCell ⟨cb, 0, none⟩ (.slice (some ⟨g', 0, none⟩) (s.take (500 * (j + 1))).length c')) g' c' (UK.cellsOf (s.take (500 * (j + 1)))) := r1.only ((Only.refl cb w1).set 0 _) (by omega)
    have hTn : ∀ b, T b → ¬ (E b ∨ b = cb ∨ b = g') := fun b hb hh => by
      rcases hh with hh | rfl | rfl
      · exact hT b hb ((h1 b).2 (.inl hh))
      · exact hT b hb hcbS
      · rcases hgS with h | h
        · exact hT b hb h
        · have := hlt b (.inr hb); omega
    have o2 : Only cb w1 (w1.setCell ⟨cb, 0, none⟩ (.slice (some ⟨g', 0, none⟩) (s.take (500 * (j + 1))).length c')) := (Only.refl cb w1).set 0 _
    have hos : w1.os = w.os ∧ w1.tape = w.tape ∧ w1.output = w.output := by
      rcases o1 with ⟨_, o⟩ | ⟨_, o⟩
      · exact ⟨o.os, o.tape, o.output⟩
      · exact ⟨o.os, o.tape, o.output⟩
    have kF : Kept (fun b => E b ∨ T b) w (w1.setCell ⟨cb, 0, none⟩ (.slice (some ⟨g', 0, none⟩) (s.take (500 * (j + 1))).length c')) := by
      refine ⟨o2.os.trans hos.1, o2.tape.trans hos.2.1, o2.output.trans hos.2.2, Nat.le_trans hsz.1 o2.size, fun b hb => ?_⟩
      have hbl : b < w.heap.size := by
        rcases hb with hb | hb
        · exact hlt b (.inl ((h1 b).2 (.inl hb)))
        · exact hlt b (.inr hb)
      have hbn : b ≠ cb ∧ b ≠ g' := by
        rcases hb with hb | hb
        · have := hE b hb
          exact ⟨by omega, by omega⟩
        · exact ⟨fun e => hTn b hb (.inr (.inl e)), fun e => hTn b hb (.inr (.inr e))⟩
      exact (o2.block b (by omega) hbn.1).trans (hk1 b hbl hbn.2)
    have H5 : Hid (∃ (S' : Nat → Prop) (B' : AP), JG B E cb s (j + 1) S' B' (w1.setCell ⟨cb, 0, none⟩ (.slice (some ⟨g', 0, none⟩) (s.take (500 * (j + 1))).length c')) ∧ PZ (fun b => S' b ∨ T b) (w1.setCell ⟨cb, 0, none⟩ (.slice (some ⟨g', 0, none⟩) (s.take (500 * (j + 1))).length c')) P D B' (kk + 1) ∧ (∀ b, T b → ¬ S' b) ∧ (∀ q, q ∈ ch.drop (j + 1) → B'.Has q) ∧ B'.c = B.c ∧ Kept (fun b => E b ∨ T b) w (w1.setCell ⟨cb, 0, none⟩ (.slice (some ⟨g', 0, none⟩) (s.take (500 * (j + 1))).length c'))) :=
      ⟨fun b => E b ∨ b = cb ∨ b = g', B, ⟨rfl, _, c', fun b => by rw [show slB (some ⟨g', 0, none⟩) b ↔ b = g' from ⟨fun e => by cases e; rfl, fun e => by rw [e]; rfl⟩], z3, .inr ⟨g', rfl, r2, hg'⟩⟩, z1.up (by omega), hTn, fun q hq => hhas q (by
        rw [← List.drop_drop] at hq
        exact List.mem_of_mem_drop hq), rfl, kF⟩
    have c0 : w.cell? ⟨cb, 0, none⟩ = some (.slice ao (s.take (500 * j)).length c) := h2.cell 0 _ rfl
    have c1 : w1.cell? ⟨cb, 0, none⟩ = some (.slice ao (s.take (500 * j)).length c) := bc1.cell 0 _ rfl
    have f1 : w1.frozen? ⟨cb, 0, none⟩ = false := bc1.free 0
    generalize (s.take (500 * j)).length = n0 at e1 c0 c1
    generalize (s.take (500 * (j + 1))).length = n1 at e1 H5
    clear h1 h2 h3 hpz hT hhas hget hpart hsrc r1 o1 hk1 bc1 pz1 z1 z2 z3 r2 hTn o2 kF hgS hlt htk hln hle hbc hclen hpl
    show Calls Tryz.prog 106 #[.int .i64 p, .string (str part), .pointer (some ⟨cb, 0, none⟩)] w _
    go_enter Tryz.func106, Tryz.ntmps106
    go_wp2_with (at_builtin; refine UK.wpList_append_run e1 rfl rfl rfl rfl rfl ?_)
    go_ret
    exact ⟨rfl, H5.out⟩
end
end Go.Proofs.YtjfkdfffolkblaaGreatDoor
namespace Go.Proofs.YtjfkdfffolkblaaGreatDoor
open Go.RowKit
open UK (str BytesAt nth Only Row Box w32)
open SR (Recs rcd total)
open SL (hole add trim room live)
open Go.BigFrame
theorem row_string {src dst e : TypeId} (hs : Tryz.prog.underlying src = some (.slice e)) (he : Tryz.prog.underlying e = some (.int .u8)) (hd : Tryz.prog.underlying dst = some .string) {W : World} {g c : Nat} {l : List UInt8} (h : Row W g c (UK.cellsOf l)) :
    (convert src dst (.slice (some ⟨g, 0, none⟩) l.length c)).run Tryz.prog W = .ok (.string (str l)) W :=
  run_convert_bytes_back (P := Tryz.prog) W src dst e ⟨g, 0, none⟩ c l hs he hd (fun j hj => by
    rw [UK.add_mk0, Nat.zero_add, h.holds j (by rw [UK.cellsOf_length]; exact hj)]
    simp [UK.cellsOf, hj])
theorem ChainOf.covers {c : Nat → List UInt8} : ∀ {ch : List Nat} {s : List UInt8}, ChainOf c s ch → s.length ≤ 500 * ch.length
  | [], s, h => by rw [show s = [] from h]; exact Nat.zero_le _
  | p :: ps, s, ⟨_, _, _, h4⟩ => by
    have := h4.covers
    rw [List.length_drop] at this
    rw [List.length_cons]
    omega
section
variable {E F : Nat → Prop} {W W' : World} {P D k fb db cap pg root H cb : Nat} {A : AP} {rp : List Nat} {L : Nat → List (List UInt8)} {X : List HT} {t : HT}
theorem HZ.find (h : HZ E W P D H k A root pg rp L X) (ht : t ∈ X) (hk : k + 2 < 900000000) :
    Calls Tryz.prog 39 #[.pointer (some ⟨H, 0, none⟩), .int .u64 (idOf t : Nat)] W fun e w' => e = .returned (.tuple #[.string (str (recS t.s t.ch)), .int .i64 0]) ∧ PZ E w' P D A (k + 2) ∧ Kept E W w' := by
  obtain ⟨h1, h2, h3⟩ := h.hi.each t ht
  obtain ⟨h4, h5⟩ := h.hi.slot ht
  obtain ⟨r1, r2⟩ := h.hi.recs t.pg h1
  have hpg : A.Has t.pg := (h.hi.rp_has h1).1
  have hp6 : t.pg ≤ 60000 := by
    have := hpg.2.1
    have := h.pz.cnt_le
    omega
  refine (find_any h.pz hk h.box r1 r2 hpg hp6 (show t.i < 256 by omega)).mono ?_
  have hrc : rcd (L t.pg) t.i = recS t.s t.ch := h2
  rintro e w' (⟨a, he, q⟩ | ⟨a, _⟩)
  · rw [hrc] at he
    exact ⟨he, q⟩
  · rw [hrc] at a
    exact absurd a (recS_ne _ _)
theorem rec_short (s : List UInt8) (ch : List Nat) (h : s.length ≤ 300) : recS s ch = 0 :: s := by unfold recS; rw [if_pos h]
set_option maxHeartbeats 1000000 in
set_option maxRecDepth 100000 in
theorem get_any (h : HZ E W P D H k A root pg rp L X) (ht : t ∈ X) (hk : k + (t.s.length + 20) < 900000000) :
    Calls Tryz.prog 51 #[.pointer (some ⟨H, 0, none⟩), .int .u64 (idOf t : Nat)] W fun e w' => e = .returned (.tuple #[.string (str t.s), .int .i64 0]) ∧ PZ E w' P D A (k + (t.s.length + 20)) ∧ Kept E W w' := by
  have HF := Lib.hid (h.find ht (by omega))
  have HH := Lib.hid h
  have HT := Lib.hid ht
  have hl4 := (h.hi.each t ht).2.2
  generalize hid : (idOf t : Nat) = id_ at HF ⊢
  clear h ht hid
  by_cases hs : t.s.length ≤ 300
  · have hrec := rec_short t.s t.ch hs
    rw [hrec] at HF
    generalize hr : (0 : UInt8) :: t.s = rec at HF
    have hn0 : nth rec 0 = 0 := by rw [← hr]; rfl
    have hn0' : ((nth rec 0).toNat : Int) = 0 := by rw [hn0]; rfl
    have hl0 : (0 : Int) < rec.length := by rw [← hr, List.length_cons]; omega
    have hl1 : (1 : Int) ≤ rec.length := by omega
    have hdr : (rec.take rec.length).drop 1 = t.s := by rw [List.take_length, ← hr]; rfl
    clear hrec hr
    go_enter Tryz.func51, Tryz.ntmps51
    go_wp2_with fail
    refine HF.out.mono ?_
    rintro e w1 ⟨rfl, p1, k1⟩
    have H1 := Lib.hid (And.intro p1 k1)
    clear HF p1 k1
    go_wp2
    go_ret2
    refine ⟨?_, H1.out.1.up (by omega), H1.out.2⟩
    simp only [Ending.returned.injEq, Value.tuple.injEq]
    simp
    rw [← hdr, List.take_length, List.drop_one]
  · have hrec := rec_long t.s t.ch (by omega)
    have hn0 : nth (recS t.s t.ch) 0 = 1 := by rw [hrec]; rfl
    have hn0' : ((nth (recS t.s t.ch) 0).toNat : Int) = 1 := by rw [hn0]; rfl
    have hl9 : (recS t.s t.ch).length = 9 := by rw [hrec]; rfl
    have hl0 : (0 : Int) < (recS t.s t.ch).length := by omega
    have HS := Lib.hid hs
    clear hrec hs hl9
    go_enter Tryz.func51, Tryz.ntmps51
    go_wp2_with fail
    refine HF.out.mono ?_
    rintro e w1 ⟨rfl, p1, k1⟩
    have h := HH.out
    have ht := HT.out
    have hch : ChainOf A.c t.s t.ch := by
      have h1 : LongIs A.c t := h.hi.long t ht
      unfold LongIs at h1
      rw [if_neg HS.out] at h1
      exact h1
    have a1 : Below w1.heap.size w1 (w1.alloc (.cells #[.slice none 0 0] 92)) := (Below.refl _ _).alloc (Nat.le_refl _) _
    have hs1 : (w1.alloc (.cells #[.slice none 0 0] 92)).heap.size = w1.heap.size + 1 := by simp
    have x1 := Box.new w1 #[.slice none 0 0] 92
    have p2 := p1.wide a1 (T := fun b => E b ∨ b = w1.heap.size) (fun b hb => by
      rcases hb with hb | hb
      · exact .inl hb
      · exact .inr (by omega))
    have k2 := k1.trans (p1.kept a1)
    have hJ : JG A E w1.heap.size t.s 0 (fun b => E b ∨ b = w1.heap.size) A (w1.alloc (.cells #[.slice none 0 0] 92)) :=
      ⟨rfl, none, 0, fun b => ⟨fun hb => by
        rcases hb with hb | hb
        · exact .inl hb
        · exact .inr (.inl hb), fun hb => by
        rcases hb with hb | hb | hb
        · exact .inl hb
        · exact .inr hb
        · cases hb⟩, by rw [Nat.mul_zero, List.take_zero]; exact x1, .inl ⟨rfl, by rw [Nat.mul_zero, List.take_zero]; rfl, rfl⟩⟩
    have HW := Lib.hid (walk_any (get1_doer (A := A) (E := E) (P := P) (D := D) (s := t.s) (ch := t.ch) (fun b hb => p1.there b hb) p1.tab.lt hl4) p2 (by omega) (h.box.of_block (k2.block H h.mem)) h.mem hch (fun p hp => (h.hi.ch_has ht hp).1) (by have := HS.out; omega) hl4 hJ)
    have K2 := Lib.hid k2
    clear HF p1 k1 h ht hch a1 hs1 x1 p2 k2 hJ
    go_wp2_with fail
    refine HW.out.mono ?_
    rintro e w3 ⟨rfl, S, B, ⟨rfl, ao, c, hS, bx, br⟩, p3, k3⟩
    have hfew : (t.s.take (500 * t.ch.length)) = t.s := by
      have h1 : LongIs B.c t := HH.out.hi.long t HT.out
      unfold LongIs at h1
      rw [if_neg HS.out] at h1
      have := h1.covers
      exact List.take_of_length_le this
    rw [hfew] at bx br
    obtain ⟨g, rfl, r, _⟩ : ∃ g, ao = some ⟨g, 0, none⟩ ∧ Row w3 g c (UK.cellsOf t.s) ∧ w1.heap.size < g := by
      rcases br with ⟨_, a, _⟩ | ⟨g, a, b, d⟩
      · have h0 := congrArg List.length a
        rw [UK.cellsOf_length, List.length_nil] at h0
        have := HS.out
        omega
      · exact ⟨g, a, b, d⟩
    have c3 : w3.cell? ⟨w1.heap.size, 0, none⟩ = some (.slice (some ⟨g, 0, none⟩) t.s.length c) := bx.cell 0 _ rfl
    have hcv := row_string (src := 92) (dst := 9) Tryz.underlying92 Tryz.underlying5 Tryz.underlying9 r
    have H3 := Lib.hid (And.intro ((p3.less (T := E) (fun b hb => (hS b).2 (.inl hb))).up (show k + 2 + (t.s.length + 10) ≤ k + (t.s.length + 20) by omega)) (K2.out.trans k3))
    clear HW K2 hS bx br p3 k3 r hfew
    go_wp2
    go_ret2
    exact ⟨rfl, H3.out⟩
end
end Go.Proofs.YtjfkdfffolkblaaGreatDoor
namespace Go.Proofs.YtjfkdfffolkblaaGreatDoor
open Go.RowKit
open UK (str BytesAt nth Only Row Box w32)
open SR (Recs rcd total)
open SL (hole add trim room live)
open Go.BigFrame
section
variable {E F : Nat → Prop} {W W' : World} {P D k fb db cap pg root H hb c1 c2 i : Nat} {A : AP} {s : List UInt8} {ch : List Nat} {L : List (List UInt8)} {v2 : Value}
/-- what Drop's first closure keeps -/
def JD (A : AP) (E : Nat → Prop) (P root H hb : Nat) (ch : List Nat) (j : Nat) (S : Nat → Prop) (B : AP) (w : World) : Prop :=
  (∀ b, S b ↔ E b) ∧ A.Reach B ∧ B.c = A.c ∧ (∀ p, B.Has p ↔ A.Has p ∧ p ∉ ch.take j) ∧ Box w hb #[.pointer (some ⟨H, 0, none⟩)] ∧ Box w H (hcells P root)
set_option maxRecDepth 100000 in
theorem drop1_doer (hg : A.Good) (hnd : ch.Nodup) (h1 : E hb) (h2 : E H) : Doer 41 #[.pointer (some ⟨hb, 0, none⟩)] (JD A E P root H hb ch) E P D s ch := by
  refine ⟨enters Tryz.func41 (by kernel_rfl) (by kernel_rfl), ?_, ?_, ?_⟩
  · rintro j S B w w' ⟨a, b, c, d, e, f⟩ hk
    exact ⟨a, b, c, d, e.of_block (hk.block _ ((a _).2 h1)), f.of_block (hk.block _ ((a _).2 h2))⟩
  · rintro j S B w ⟨a, b, c, d, e, f⟩ q hq
    exact (a q).2 hq
  · rintro T j S B kk w p hget hjs ⟨a, b, c, d, e, f⟩ hpz hT hkk hhas
    have hdr : ch.drop j = p :: ch.drop (j + 1) := by
      obtain ⟨hl, he⟩ := List.getElem?_eq_some_iff.1 hget
      rw [List.drop_eq_getElem_cons hl, he]
    have hpB : B.Has p := hhas p (by rw [hdr]; exact List.mem_cons_self ..)
    have hgv := (b.good hg).give hpB
    have hndp : p ∉ ch.drop (j + 1) := by
      have h0 : (ch.drop j).Nodup := hnd.sublist (List.drop_sublist j ch)
      rw [hdr] at h0
      exact (List.nodup_cons.1 h0).1
    have htk : ch.take (j + 1) = ch.take j ++ [p] := by rw [List.take_add_one, hget]; rfl
    have HG := Lib.hid (pz_give hpz hkk p hpB)
    have c0 : w.cell? ⟨hb, 0, none⟩ = some (.pointer (some ⟨H, 0, none⟩)) := e.cell 0 _ rfl
    have c1 : w.cell? ⟨H, 0, none⟩ = some (.pointer (some ⟨P, 0, none⟩)) := f.cell 0 _ rfl
    have HX := Lib.hid (And.intro a (And.intro b (And.intro c (And.intro d (And.intro e (And.intro f hgv))))))
    clear hpz a b c d e f hgv
    show Calls Tryz.prog 41 #[.int .i64 p, .string (str ((s.drop (500 * j)).take 500)), .pointer (some ⟨hb, 0, none⟩)] w _
    go_enter Tryz.func41, Tryz.ntmps41
    go_wp2_with fail
    refine HG.out.mono ?_
    rintro e w1 ⟨rfl, p1, k1⟩
    have H1 := Lib.hid (And.intro p1 k1)
    clear HG p1 k1
    go_wp2
    go_ret
    obtain ⟨a, b, c, d, e, f, g1, g2, g3, g4⟩ := HX.out
    obtain ⟨p1, k1⟩ := H1.out
    refine ⟨rfl, S, B.give p, ⟨a, b.give hpB, (AP.give_c p).trans c, fun q => ?_, e.of_block (k1.block _ (.inl ((a _).2 h1))), f.of_block (k1.block _ (.inl ((a _).2 h2)))⟩, p1, hT, fun q hq => (g2 q).2 ⟨hhas q (by rw [hdr]; exact List.mem_cons_of_mem _ hq), fun e => hndp (e ▸ hq)⟩, AP.give_c p, k1.mono (fun q hq => by
      rcases hq with hq | hq
      · exact .inl ((a q).2 hq)
      · exact .inr hq)⟩
    rw [g2, d, htk, List.mem_append, List.mem_singleton]
    constructor
    · rintro ⟨⟨x, y⟩, z⟩
      exact ⟨x, fun hh => hh.elim y z⟩
    · rintro ⟨x, y⟩
      exact ⟨⟨x, fun hh => y (.inl hh)⟩, fun hh => y (.inr hh)⟩
theorem live_pos {l : List (List UInt8)} (h : LastOk l) (hn : l ≠ []) : 0 < live l := by
  rcases h with h | h
  · exact absurd h hn
  · have e := (List.dropLast_concat_getLast hn).symm
    have hl : 0 < l.length := List.length_pos_iff.2 hn
    rw [e, SL.live_append]
    have h2 : l.getLast hn ≠ [] := by
      rw [List.getLast_eq_getElem]
      unfold rcd at h
      rw [List.getD_eq_getElem?_getD, List.getElem?_eq_getElem (by omega)] at h
      exact h
    have : live [l.getLast hn] = 1 := by simp [SL.live, h2]
    omega
/-- slot.Drop on a frame's bytes -/
theorem dropAt_any (h : PF E W P D (A.keep pg) k fb db cap pg true) (hr : Recs (A.c pg) L) (hi : i < L.length) (hrc : rcd L i ≠ []) :
    Calls Tryz.prog 46 #[.slice (some ⟨db, 0, none⟩) 504 cap, .int .i64 i] W fun e w' => e = .returned (.bool true) ∧ (∃ z, Recs z (trim (L.set i [])) ∧ z.length = 504 ∧ PF E w' P D (A.wrote pg z) k fb db cap pg true) ∧ Kept E W w' := by
  obtain ⟨y, y1, y2, y3, y4, y5⟩ := h.bytes
  have y3 : y.take 504 = A.c pg := y3
  refine (SL.drop_yes db y L cap i W y1 (hr.uncut (by omega) y3) hi hrc).mono ?_
  rintro e w' ⟨he, ⟨z, z1, z2, z3⟩, o⟩
  obtain ⟨p, kk⟩ := h.write o z1 (z3.trans y2)
  exact ⟨he, ⟨z.take 504, z2.cut, by rw [List.length_take]; omega, p⟩, kk⟩
set_option maxHeartbeats 1000000 in
set_option maxRecDepth 100000 in
theorem drop2_any (h : PF E W P D A k fb db cap pg false) (hk : k < 900000000) (hr : Recs (A.c pg) L) (hp : pg ≤ 60000) (hi2 : i < 256) (hi : i < L.length) (hrc : rcd L i ≠ []) (b1 : Box W c1 #[.int .u64 ((pg * 256 + i : Nat) : Int)]) (b2 : Box W c2 #[v2]) (h1 : E c1) (h2 : E c2) (t2 : 0 ≠ c2) :
    Calls Tryz.prog 45 #[.pointer (some ⟨fb, 0, none⟩), .pointer (some ⟨c1, 0, none⟩), .pointer (some ⟨c2, 0, none⟩)] W fun e w' => e = .returned (.int .i64 0) ∧ (∃ z, Recs z (trim (L.set i [])) ∧ z.length = 504 ∧ PF E w' P D (A.wrote pg z) (k + 1) fb db cap pg true) ∧ Box w' c2 #[.int .i64 (live (trim (L.set i [])) : Nat)] ∧ Kept (fun j => E j ∧ j ≠ c2) W w' := by
  have bd : Below W.heap.size W W.drew := (Below.refl _ _).drew
  have hand := and_255 pg i hp hi2
  have HWI : Hid (IntKind.i64.wrap (i : Int) = (i : Int)) := by show _ = _; rw [IntKind.wrap_i64]; omega
  generalize hn : pg * 256 + i = n at hand b1
  have p0 := h.next bd
  have k0 := h.kept bd
  have d1 : W.drew.cell? ⟨c1, 0, none⟩ = some (.int .u64 (n : Int)) := b1.drew.cell 0 _ rfl
  have HE := Lib.hid ((pf_edit p0 hk).mono (R' := fun e w' => e = .returned (.slice (some ⟨db, 0, none⟩) 504 cap) ∧ w'.cell? ⟨c1, 0, none⟩ = some (.int .u64 (n : Int)) ∧ PF E w' P D (A.keep pg) (k + 1) fb db cap pg true ∧ Kept E W.drew w') (fun _ _ ⟨a, b, c⟩ => ⟨a, (b1.drew.of_block (c.block _ h1)).cell 0 _ rfl, b, c⟩))
  have HB := Lib.hid (And.intro b2.drew k0)
  have HR := Lib.hid (And.intro hr (And.intro hi hrc))
  clear h p0 k0 b1 b2 bd hr hrc
  go_enter Tryz.func45, Tryz.ntmps45
  go_wp2_with fail
  go_region_with (first
    | (go_at_call 47; refine HE.out.mono ?_; rintro e w3 ⟨rfl, d3, p3, k3⟩; replace p3 := Lib.hid p3; replace k3 := Lib.hid k3)
    | (go_at_call 46; rw [HWI.out]; refine (dropAt_any p3.out HR.out.1 HR.out.2.1 HR.out.2.2).mono ?_; rintro e w4 ⟨rfl, z4, k4⟩; replace z4 := Lib.hid z4; replace k4 := Lib.hid k4))
  all_goals
    obtain ⟨z, z1, z2, p4⟩ := z4.out
    have HBy := Lib.hid (pf_bytes p4)
    have HZ1 := Lib.hid (And.intro z1 (And.intro z2 p4))
    obtain ⟨b2, k0⟩ := HB.out
    have b24 := (b2.of_block (k3.out.block _ h2)).of_block (k4.out.block _ h2)
    have HB4 := Lib.hid (And.intro b24 ((k0.trans k3.out).trans k4.out))
    clear HE HB p3 k3 z4 k4 z1 z2 p4 b2 k0 b24 d1 d3
    go_wp2_with fail
    refine HBy.out.mono ?_
    rintro e w5 ⟨rfl, rfl⟩
    obtain ⟨z1, z2, p4⟩ := HZ1.out
    obtain ⟨y, y1, y2, y3, y4, y5⟩ := p4.bytes
    have y3' : y.take 504 = z := y3.trans (by rw [AP.wrote_c, if_pos rfl])
    have HLv := Lib.hid (SL.live_any db y _ cap w5 y1 (z1.uncut (by omega) y3'))
    clear HBy y1 y2 y3 y3' y5
    go_wp2_with fail
    refine HLv.out.mono ?_
    rintro e w6 ⟨rfl, bl⟩
    obtain ⟨b24, k4⟩ := HB4.out
    have b26 := b24.next bl
    obtain ⟨q1, q2, q3⟩ := (p4.next bl).one_ h2 t2 b26 (.int .i64 (live (trim (L.set i [])) : Nat))
    have c6 : w6.cell? ⟨c2, 0, none⟩ = some v2 := b26.cell 0 _ rfl
    have f6 : w6.frozen? ⟨c2, 0, none⟩ = false := b26.free 0
    have H6 := Lib.hid (And.intro q1 (And.intro q3 (((k4.trans (p4.kept bl)).mono (T := fun j => E j ∧ j ≠ c2) (fun _ (hj : E _ ∧ _) => hj.1)).trans q2)))
    clear HLv HB4 p4 b24 k4 b26 q1 q2 q3 bl
    go_wp2
    go_ret
    obtain ⟨z1, z2, _⟩ := HZ1.out
    exact ⟨rfl, ⟨z, z1, z2, H6.out.1⟩, H6.out.2.1, H6.out.2.2⟩
end
end Go.Proofs.YtjfkdfffolkblaaGreatDoor
