/-
  heap.Drop's closures.
-/
import Derived.Test.YtjfkdfffolkblaaDoorHeapN
namespace Go.Proofs.YtjfkdfffolkblaaDoor
open Go.RowKit
open UK (str BytesAt nth Only Row Box w32)
open SR (Recs rcd total)
open SL (hole add trim room live)
open Go.BigFrame
section
variable {E F : Nat → Prop} {W W' : World} {P D k fb db cap pg root H hb c1 c2 i : Nat} {A : AP} {s : List UInt8} {ch : List Nat} {L : List (List UInt8)} {v2 : Value}
/-- what Drop's first closure keeps -/
def JD (A : AP) (E : Nat → Prop) (P root H hb : Nat) (ch : List Nat) (j : Nat) (S : Nat → Prop) (B : AP) (w : World) : Prop :=
  (∀ b, S b ↔ E b) ∧ A.Reach B ∧ B.c = A.c ∧ (∀ p, B.Has p ↔ A.Has p ∧ p ∉ ch.take j) ∧ Box w hb #[.pointer (some ⟨H, 0, none⟩)] ∧ Box w H (hcells P root)
set_option maxRecDepth 100000 in
theorem drop1_doer (hg : A.Good) (hnd : ch.Nodup) (h1 : E hb) (h2 : E H) : Doer 75 #[.pointer (some ⟨hb, 0, none⟩)] (JD A E P root H hb ch) E P D s ch := by
  refine ⟨enters Tryd.func75 (by kernel_rfl) (by kernel_rfl), ?_, ?_, ?_⟩
  · rintro j S B w w' ⟨a, b, c, d, e, f⟩ hk
    exact ⟨a, b, c, d, e.of_block (hk.block _ ((a _).2 h1)), f.of_block (hk.block _ ((a _).2 h2))⟩
  · rintro j S B w ⟨a, b, c, d, e, f⟩ q hq
    exact (a q).2 hq
  · rintro T j S B kk w p hget hjs ⟨a, b, c, d, e, f⟩ hpz hT hkk hhas
    have hdr : ch.drop j = p :: ch.drop (j + 1) := by
      obtain ⟨hl, he⟩ := List.getElem?_eq_some_iff.1 hget
      rw [List.drop_eq_getElem_cons hl, he]
    have hpB : B.Has p := hhas p (by rw [hdr]; exact List.mem_cons_self ..)
    have hgv := (b.good hg).give hpB
    have hndp : p ∉ ch.drop (j + 1) := by
      have h0 : (ch.drop j).Nodup := hnd.sublist (List.drop_sublist j ch)
      rw [hdr] at h0
      exact (List.nodup_cons.1 h0).1
    have htk : ch.take (j + 1) = ch.take j ++ [p] := by rw [List.take_add_one, hget]; rfl
    have HG := Lib.hid (pz_give hpz hkk p hpB)
    have c0 : w.cell? ⟨hb, 0, none⟩ = some (.pointer (some ⟨H, 0, none⟩)) := e.cell 0 _ rfl
    have c1 : w.cell? ⟨H, 0, none⟩ = some (.pointer (some ⟨P, 0, none⟩)) := f.cell 0 _ rfl
    have HX := Lib.hid (And.intro a (And.intro b (And.intro c (And.intro d (And.intro e (And.intro f hgv))))))
    clear hpz a b c d e f hgv
    show Calls Tryd.prog 75 #[.int .i64 p, .string (str ((s.drop (500 * j)).take 500)), .pointer (some ⟨hb, 0, none⟩)] w _
    go_enter Tryd.func75, Tryd.ntmps75
    go_wp2_with fail
    refine HG.out.mono ?_
    rintro e w1 ⟨rfl, p1, k1⟩
    have H1 := Lib.hid (And.intro p1 k1)
    clear HG p1 k1
    go_wp2
    go_ret
    obtain ⟨a, b, c, d, e, f, g1, g2, g3, g4⟩ := HX.out
    obtain ⟨p1, k1⟩ := H1.out
    refine ⟨rfl, S, B.give p, ⟨a, b.give hpB, (AP.give_c p).trans c, fun q => ?_, e.of_block (k1.block _ (.inl ((a _).2 h1))), f.of_block (k1.block _ (.inl ((a _).2 h2)))⟩, p1, hT, fun q hq => (g2 q).2 ⟨hhas q (by rw [hdr]; exact List.mem_cons_of_mem _ hq), fun e => hndp (e ▸ hq)⟩, AP.give_c p, k1.mono (fun q hq => by
      rcases hq with hq | hq
      · exact .inl ((a q).2 hq)
      · exact .inr hq)⟩
    rw [g2, d, htk, List.mem_append, List.mem_singleton]
    constructor
    · rintro ⟨⟨x, y⟩, z⟩
      exact ⟨x, fun hh => hh.elim y z⟩
    · rintro ⟨x, y⟩
      exact ⟨⟨x, fun hh => y (.inl hh)⟩, fun hh => y (.inr hh)⟩
theorem live_pos {l : List (List UInt8)} (h : LastOk l) (hn : l ≠ []) : 0 < live l := by
  rcases h with h | h
  · exact absurd h hn
  · have e := (List.dropLast_concat_getLast hn).symm
    have hl : 0 < l.length := List.length_pos_iff.2 hn
    rw [e, SL.live_append]
    have h2 : l.getLast hn ≠ [] := by
      rw [List.getLast_eq_getElem]
      unfold rcd at h
      rw [List.getD_eq_getElem?_getD, List.getElem?_eq_getElem (by omega)] at h
      exact h
    have : live [l.getLast hn] = 1 := by simp [SL.live, h2]
    omega
/-- slot.Drop on a frame's bytes -/
theorem dropAt_any (h : PF E W P D (A.keep pg) k fb db cap pg true) (hr : Recs (A.c pg) L) (hi : i < L.length) (hrc : rcd L i ≠ []) :
    Calls Tryd.prog 77 #[.slice (some ⟨db, 0, none⟩) 504 cap, .int .i64 i] W fun e w' => e = .returned (.bool true) ∧ (∃ z, Recs z (trim (L.set i [])) ∧ z.length = 504 ∧ PF E w' P D (A.wrote pg z) k fb db cap pg true) ∧ Kept E W w' := by
  obtain ⟨y, y1, y2, y3, y4, y5⟩ := h.bytes
  have y3 : y.take 504 = A.c pg := y3
  refine (SL.drop_yes db y L cap i W y1 (hr.uncut (by omega) y3) hi hrc).mono ?_
  rintro e w' ⟨he, ⟨z, z1, z2, z3⟩, o⟩
  obtain ⟨p, kk⟩ := h.write o z1 (z3.trans y2)
  exact ⟨he, ⟨z.take 504, z2.cut, by rw [List.length_take]; omega, p⟩, kk⟩
set_option maxHeartbeats 1000000 in
set_option maxRecDepth 100000 in
theorem drop2_any (h : PF E W P D A k fb db cap pg false) (hk : k < 900000000) (hr : Recs (A.c pg) L) (hp : pg ≤ 60000) (hi2 : i < 256) (hi : i < L.length) (hrc : rcd L i ≠ []) (b1 : Box W c1 #[.int .u64 ((pg * 256 + i : Nat) : Int)]) (b2 : Box W c2 #[v2]) (h1 : E c1) (h2 : E c2) (t2 : 0 ≠ c2) :
    Calls Tryd.prog 76 #[.pointer (some ⟨fb, 0, none⟩), .pointer (some ⟨c1, 0, none⟩), .pointer (some ⟨c2, 0, none⟩)] W fun e w' => e = .returned (.int .i64 0) ∧ (∃ z, Recs z (trim (L.set i [])) ∧ z.length = 504 ∧ PF E w' P D (A.wrote pg z) (k + 1) fb db cap pg true) ∧ Box w' c2 #[.int .i64 (live (trim (L.set i [])) : Nat)] ∧ Kept (fun j => E j ∧ j ≠ c2) W w' := by
  have bd : Below W.heap.size W W.drew := (Below.refl _ _).drew
  have hand := and_255 pg i hp hi2
  have HWI : Hid (IntKind.i64.wrap (i : Int) = (i : Int)) := by show _ = _; rw [IntKind.wrap_i64]; omega
  generalize hn : pg * 256 + i = n at hand b1
  have p0 := h.next bd
  have k0 := h.kept bd
  have d1 : W.drew.cell? ⟨c1, 0, none⟩ = some (.int .u64 (n : Int)) := b1.drew.cell 0 _ rfl
  have HE := Lib.hid ((pf_edit p0 hk).mono (R' := fun e w' => e = .returned (.slice (some ⟨db, 0, none⟩) 504 cap) ∧ w'.cell? ⟨c1, 0, none⟩ = some (.int .u64 (n : Int)) ∧ PF E w' P D (A.keep pg) (k + 1) fb db cap pg true ∧ Kept E W.drew w') (fun _ _ ⟨a, b, c⟩ => ⟨a, (b1.drew.of_block (c.block _ h1)).cell 0 _ rfl, b, c⟩))
  have HB := Lib.hid (And.intro b2.drew k0)
  have HR := Lib.hid (And.intro hr (And.intro hi hrc))
  clear h p0 k0 b1 b2 bd hr hrc
  go_enter Tryd.func76, Tryd.ntmps76
  go_wp2_with fail
  go_region_with (first
    | (go_at_call 41; refine HE.out.mono ?_; rintro e w3 ⟨rfl, d3, p3, k3⟩; replace p3 := Lib.hid p3; replace k3 := Lib.hid k3)
    | (go_at_call 77; rw [HWI.out]; refine (dropAt_any p3.out HR.out.1 HR.out.2.1 HR.out.2.2).mono ?_; rintro e w4 ⟨rfl, z4, k4⟩; replace z4 := Lib.hid z4; replace k4 := Lib.hid k4))
  all_goals
    obtain ⟨z, z1, z2, p4⟩ := z4.out
    have HBy := Lib.hid (pf_bytes p4)
    have HZ1 := Lib.hid (And.intro z1 (And.intro z2 p4))
    obtain ⟨b2, k0⟩ := HB.out
    have b24 := (b2.of_block (k3.out.block _ h2)).of_block (k4.out.block _ h2)
    have HB4 := Lib.hid (And.intro b24 ((k0.trans k3.out).trans k4.out))
    clear HE HB p3 k3 z4 k4 z1 z2 p4 b2 k0 b24 d1 d3
    go_wp2_with fail
    refine HBy.out.mono ?_
    rintro e w5 ⟨rfl, rfl⟩
    obtain ⟨z1, z2, p4⟩ := HZ1.out
    obtain ⟨y, y1, y2, y3, y4, y5⟩ := p4.bytes
    have y3' : y.take 504 = z := y3.trans (by rw [AP.wrote_c, if_pos rfl])
    have HLv := Lib.hid (SL.live_any db y _ cap w5 y1 (z1.uncut (by omega) y3'))
    clear HBy y1 y2 y3 y3' y5
    go_wp2_with fail
    refine HLv.out.mono ?_
    rintro e w6 ⟨rfl, bl⟩
    obtain ⟨b24, k4⟩ := HB4.out
    have b26 := b24.next bl
    obtain ⟨q1, q2, q3⟩ := (p4.next bl).one_ h2 t2 b26 (.int .i64 (live (trim (L.set i [])) : Nat))
    have c6 : w6.cell? ⟨c2, 0, none⟩ = some v2 := b26.cell 0 _ rfl
    have f6 : w6.frozen? ⟨c2, 0, none⟩ = false := b26.free 0
    have H6 := Lib.hid (And.intro q1 (And.intro q3 (((k4.trans (p4.kept bl)).mono (T := fun j => E j ∧ j ≠ c2) (fun _ (hj : E _ ∧ _) => hj.1)).trans q2)))
    clear HLv HB4 p4 b24 k4 b26 q1 q2 q3 bl
    go_wp2
    go_ret
    obtain ⟨z1, z2, _⟩ := HZ1.out
    exact ⟨rfl, ⟨z, z1, z2, H6.out.1⟩, H6.out.2.1, H6.out.2.2⟩
end
end Go.Proofs.YtjfkdfffolkblaaDoor
