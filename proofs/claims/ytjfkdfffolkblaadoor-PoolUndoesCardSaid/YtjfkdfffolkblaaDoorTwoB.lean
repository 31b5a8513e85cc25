/-
  The law's alike: a call on two pools of which all is the same; no page is used behind it.
-/
import Derived.Test.YtjfkdfffolkblaaDoorTwoA
import Derived.Test.YtjfkdfffolkblaaDoorPoolE
import Derived.Test.YtjfkdfffolkblaaDoorActs5
namespace Go.Proofs.YtjfkdfffolkblaaDoor
open Go.RowKit
open UK (str BytesAt nth Only Row Box)
open Go.BigFrame
/-- two pools of which all is the same -/
def Twin (E : Nat → Prop) (W : World) (P D Q F : Nat) (A : AP) (k : Nat) : Prop := Pair2 E W (fun E W => PZ E W P D A k) (fun E W => PZ E W Q F A k)
/-- an act, as it is handed over -/
abbrev actV (a : Act1) : Value := .agg #[.int .i64 a.kd, .int .i64 a.pp, .int .i64 a.nn, .int .u8 (a.by_.toNat : Int)]
theorem actB (W : World) (o : Obj) : Below W.heap.size W (W.alloc o) := (Below.refl _ _).alloc (Nat.le_refl _) _
section
variable {E : Nat → Prop} {W W' : World} {P D Q F k : Nat} {A B : AP} {Z1 Z2 : (Nat → Prop) → World → Prop}
theorem Pair2.fst (h : Pair2 E W Z1 Z2) : ∃ S, (∀ j, E j → S j) ∧ Z1 S W := by
  obtain ⟨o1, o2, a, b, c, d, t1, t2, z1, z2⟩ := h
  exact ⟨_, fun j hj => ⟨(d j hj).1, (d j hj).2.2⟩, z1⟩
theorem Pair2.snd (h : Pair2 E W Z1 Z2) : ∃ S, (∀ j, E j → S j) ∧ Z2 S W := h.swap.fst
theorem Pair2.turns (h : Pair2 E W Z1 Z2) {Y1 Y2 : (Nat → Prop) → World → Prop} (h1 : ∀ S W, Z1 S W → Y1 S W) (h2 : ∀ S W, Z2 S W → Y2 S W) : Pair2 E W Y1 Y2 := by
  obtain ⟨o1, o2, a, b, c, d, t1, t2, z1, z2⟩ := h
  exact ⟨o1, o2, a, b, c, d, t1, t2, h1 _ _ z1, h2 _ _ z2⟩
theorem Twin.st1 (P D : Nat) (A : AP) (k : Nat) : Stands2 (fun E W => PZ E W P D A k) := stands_pz P D A k
theorem Twin.up {m : Nat} (h : Twin E W P D Q F A k) (hm : k ≤ m) : Twin E W P D Q F A m := h.turns (fun _ _ z => z.up hm) (fun _ _ z => z.up hm)
theorem Twin.wide (h : Twin E W P D Q F A k) (hb : Below W.heap.size W W') {T : Nat → Prop} (hT : ∀ j, T j → E j ∨ (W.heap.size ≤ j ∧ j < W'.heap.size)) : Twin T W' P D Q F A k := Pair2.next h (stands_pz P D A k) (stands_pz Q F A k) hb hT
theorem Twin.next (h : Twin E W P D Q F A k) (hb : Below W.heap.size W W') : Twin E W' P D Q F A k := h.wide hb (fun _ hj => .inl hj)
theorem Twin.less (h : Twin E W P D Q F A k) {T : Nat → Prop} (hT : ∀ j, T j → E j) : Twin T W P D Q F A k := h.wide (Below.refl _ _) (fun j hj => .inl (hT j hj))
theorem Twin.keptB (h : Twin E W P D Q F A k) (hb : Below W.heap.size W W') : Kept E W W' := Kept.of_below hb (Pair2.there h)
theorem Twin.pins (h : Twin E W P D Q F A k) : (Calls Tryd.prog 52 #[.pointer (some ⟨P, 0, none⟩)] W fun e w' => e = .returned (.int .i64 0) ∧ w' = W) ∧ (Calls Tryd.prog 52 #[.pointer (some ⟨Q, 0, none⟩)] W fun e w' => e = .returned (.int .i64 0) ∧ w' = W) := by
  obtain ⟨S, _, z⟩ := Pair2.fst h
  obtain ⟨T, _, y⟩ := Pair2.snd h
  exact ⟨pz_pinned z, pz_pinned y⟩
/-- behind alike -/
def AlikeR (E : Nat → Prop) (W w' : World) (P D Q F : Nat) (A : AP) (k : Nat) (e : Ending) : Prop :=
  ∃ A', e = .returned (.int .i64 0) ∧ A.Reach A' ∧ Twin E w' P D Q F A' (k + 1001) ∧ Kept E W w'
/-- a call on both, of which the same comes -/
theorem twin_two {f : FuncId} {vs : List Value} {e0 : Ending} {m : Nat} (h : Twin E W P D Q F A k)
    (hc : ∀ S w P D, PZ S w P D A k → Calls Tryd.prog f (#[.pointer (some ⟨P, 0, none⟩)] ++ vs.toArray) w fun e w' => e = e0 ∧ PZ S w' P D B m ∧ Kept S w w') :
    Calls Tryd.prog f (#[.pointer (some ⟨P, 0, none⟩)] ++ vs.toArray) W fun e w' => e = e0 ∧ Kept E W w' ∧
      Calls Tryd.prog f (#[.pointer (some ⟨Q, 0, none⟩)] ++ vs.toArray) w' fun e w2 => e = e0 ∧ Twin E w2 P D Q F B m ∧ Kept E w' w2 := by
  refine (Pair2.left (α := Unit) (R := fun _ e => e = e0) (Z := fun _ S w => PZ S w P D B m) h (stands_pz Q F A k) (fun _ => stands_pz P D B m) (fun S z => (hc S W P D z).mono fun e w' ⟨a, b, c⟩ => ⟨(), a, b, c⟩)).mono ?_
  rintro e w' ⟨_, he, h2, kk⟩
  refine ⟨he, kk, (Pair2.right (α := Unit) (R := fun _ e => e = e0) (Z := fun _ S w => PZ S w Q F B m) h2 (stands_pz P D B m) (fun _ => stands_pz Q F B m) (fun S z => (hc S w' Q F z).mono fun e w' ⟨a, b, c⟩ => ⟨(), a, b, c⟩)).mono ?_⟩
  rintro e2 w2 ⟨_, he2, h3, k2⟩
  exact ⟨he2, h3, k2⟩
/-- two pools that use a page, each -/
def Used (E : Nat → Prop) (W : World) (P D Q F : Nat) (A B : AP) (k m fb db cap gb eb dap pg : Nat) (dy dz : Bool) : Prop :=
  Pair2 E W (fun E W => PF E W P D A k fb db cap pg dy) (fun E W => PF E W Q F B m gb eb dap pg dz)
/-- a call on both, of which a page comes -/
theorem used_two {f : FuncId} {vs : List Value} {m pg : Nat} (h : Twin E W P D Q F A k)
    (hc : ∀ S w P D, PZ S w P D A k → Calls Tryd.prog f (#[.pointer (some ⟨P, 0, none⟩)] ++ vs.toArray) w fun e w' => ∃ fb db cap, e = .returned (.tuple #[.pointer (some ⟨fb, 0, none⟩), .int .i64 0]) ∧ PF S w' P D B m fb db cap pg false ∧ Kept S w w') :
    Calls Tryd.prog f (#[.pointer (some ⟨P, 0, none⟩)] ++ vs.toArray) W fun e w' => ∃ fb db cap, e = .returned (.tuple #[.pointer (some ⟨fb, 0, none⟩), .int .i64 0]) ∧ Kept E W w' ∧
      Calls Tryd.prog f (#[.pointer (some ⟨Q, 0, none⟩)] ++ vs.toArray) w' fun e w2 => ∃ gb eb dap, e = .returned (.tuple #[.pointer (some ⟨gb, 0, none⟩), .int .i64 0]) ∧ Used E w2 P D Q F B B m m fb db cap gb eb dap pg false false ∧ Kept E w' w2 := by
  refine (Pair2.left (α := Nat × Nat × Nat) (R := fun x e => e = .returned (.tuple #[.pointer (some ⟨x.1, 0, none⟩), .int .i64 0])) (Z := fun x S w => PF S w P D B m x.1 x.2.1 x.2.2 pg false) h (stands_pz Q F A k) (fun x => stands_pf P D B m _ _ _ _ _) (fun S z => (hc S W P D z).mono fun e w' ⟨fb, db, cap, a, b, c⟩ => ⟨(fb, db, cap), a, b, c⟩)).mono ?_
  rintro e w' ⟨⟨fb, db, cap⟩, he, h2, kk⟩
  refine ⟨fb, db, cap, he, kk, (Pair2.right (α := Nat × Nat × Nat) (R := fun x e => e = .returned (.tuple #[.pointer (some ⟨x.1, 0, none⟩), .int .i64 0])) (Z := fun x S w => PF S w Q F B m x.1 x.2.1 x.2.2 pg false) h2 (stands_pf P D B m _ _ _ _ _) (fun x => stands_pf Q F B m _ _ _ _ _) (fun S z => (hc S w' Q F z).mono fun e w' ⟨fb, db, cap, a, b, c⟩ => ⟨(fb, db, cap), a, b, c⟩)).mono ?_⟩
  rintro e2 w2 ⟨⟨gb, eb, dap⟩, he2, h3, k2⟩
  exact ⟨gb, eb, dap, he2, h3, k2⟩
section
variable {m fb db cap gb eb dap pg : Nat} {dy dz : Bool}
theorem Used.wide (h : Used E W P D Q F A B k m fb db cap gb eb dap pg dy dz) (hb : Below W.heap.size W W') {T : Nat → Prop} (hT : ∀ j, T j → E j ∨ (W.heap.size ≤ j ∧ j < W'.heap.size)) : Used T W' P D Q F A B k m fb db cap gb eb dap pg dy dz := Pair2.next h (stands_pf ..) (stands_pf ..) hb hT
theorem Used.swap (h : Used E W P D Q F A B k m fb db cap gb eb dap pg dy dz) : Used E W Q F P D B A m k gb eb dap fb db cap pg dz dy := Pair2.swap h
theorem Used.pages (h : Used E W P D Q F A B k m fb db cap gb eb dap pg dy dz) : (Calls Tryd.prog 42 #[.pointer (some ⟨fb, 0, none⟩)] W fun e w' => e = .returned (.int .i64 pg) ∧ w' = W) ∧ (Calls Tryd.prog 42 #[.pointer (some ⟨gb, 0, none⟩)] W fun e w' => e = .returned (.int .i64 pg) ∧ w' = W) := by
  obtain ⟨S, _, z⟩ := Pair2.fst h
  obtain ⟨T, _, y⟩ := Pair2.snd h
  exact ⟨pf_page z, pf_page y⟩
theorem Used.bytes (h : Used E W P D Q F A B k m fb db cap gb eb dap pg dy dz) : (Calls Tryd.prog 57 #[.pointer (some ⟨fb, 0, none⟩)] W fun e w' => e = .returned (.slice (some ⟨db, 0, none⟩) 504 cap) ∧ w' = W) ∧ ∃ y, BytesAt W db y ∧ y.length = cap ∧ y.take 504 = A.c pg ∧ 504 ≤ cap := by
  obtain ⟨S, _, z⟩ := Pair2.fst h
  obtain ⟨y, a, b, c, d, _⟩ := z.bytes
  exact ⟨pf_bytes z, y, a, b, c, d⟩
theorem Used.unpin (h : Used E W P D Q F A A k k fb db cap gb eb dap pg dy dz) :
    Calls Tryd.prog 44 #[.pointer (some ⟨fb, 0, none⟩)] W fun e w' => e = .returned (.tuple #[]) ∧ Kept E W w' ∧
      Calls Tryd.prog 44 #[.pointer (some ⟨gb, 0, none⟩)] w' fun e w2 => e = .returned (.tuple #[]) ∧ Twin E w2 P D Q F A k ∧ Kept E w' w2 := by
  refine (Pair2.left (α := Unit) (R := fun _ e => e = .returned (.tuple #[])) (Z := fun _ S w => PZ S w P D A k) h (stands_pf ..) (fun _ => stands_pz P D A k) (fun S z => (pf_unpin z).mono fun e w' ⟨a, b, c⟩ => ⟨(), a, b, c⟩)).mono ?_
  rintro e w' ⟨_, he, h2, kk⟩
  refine ⟨he, kk, (Pair2.right (α := Unit) (R := fun _ e => e = .returned (.tuple #[])) (Z := fun _ S w => PZ S w Q F A k) h2 (stands_pz P D A k) (fun _ => stands_pz Q F A k) (fun S z => (pf_unpin z).mono fun e w' ⟨a, b, c⟩ => ⟨(), a, b, c⟩)).mono ?_⟩
  rintro e2 w2 ⟨_, he2, h3, k2⟩
  exact ⟨he2, h3, k2⟩
/-- Edit's answer, and the act's cells behind it -/
theorem Used.edit (h : Used E W P D Q F A B k m fb db cap gb eb dap pg dy dz) (hk : k < 900000000) {i X : Nat} (hi : i < 504) (hX : E X) {x y z t : Value} (hb : Box W X #[x, y, z, t]) :
    Calls Tryd.prog 41 #[.pointer (some ⟨fb, 0, none⟩)] W fun e w' => ∃ u : UInt8, e = .returned (.slice (some ⟨db, 0, none⟩) 504 cap) ∧ w'.cell? ⟨X, 3, none⟩ = some t ∧ w'.cell? ⟨X, 2, none⟩ = some z ∧ w'.cell? ⟨db, i, none⟩ = some (.int .u8 (u.toNat : Int)) ∧ w'.frozen? ⟨db, i, none⟩ = false ∧
      Used E w' P D Q F (A.keep pg) B (k + 1) m fb db cap gb eb dap pg true dz ∧ Kept E W w' := by
  refine (Pair2.left (α := Unit) (R := fun _ e => e = .returned (.slice (some ⟨db, 0, none⟩) 504 cap)) (Z := fun _ S w => PF S w P D (A.keep pg) (k + 1) fb db cap pg true) h (stands_pf ..) (fun _ => stands_pf ..) (fun S z => (pf_edit z hk).mono fun e w' ⟨a, b, c⟩ => ⟨(), a, b, c⟩)).mono ?_
  rintro e w' ⟨_, he, h2, kk⟩
  have b2 := hb.of_block (kk.block X hX)
  obtain ⟨_, u, a, b, c, d⟩ := Used.bytes h2
  exact ⟨_, he, b2.cell 3 _ rfl, b2.cell 2 _ rfl, a.cell (by omega), a.free (by omega), h2, kk⟩
theorem Used.byte (h : Used E W P D Q F A B k m fb db cap gb eb dap pg true dz) (i : Nat) (v : UInt8) :
    Used E (W.setCell ⟨db, i, none⟩ (.int .u8 (v.toNat : Int))) P D Q F (A.put pg ((A.c pg).set i v)) B k m fb db cap gb eb dap pg true dz ∧ Kept E W (W.setCell ⟨db, i, none⟩ (.int .u8 (v.toNat : Int))) := by
  refine Pair2.turn (Z1 := fun E W => PF E W P D A k fb db cap pg true) h (stands_pf ..) (fun S _ z => ?_) (fun S T z hT => z.less hT)
  obtain ⟨y, a, b, c, d, _⟩ := z.bytes
  have := z.write (y := y.set i v) (W' := W.setCell ⟨db, i, none⟩ (.int .u8 (v.toNat : Int))) ((Only.refl db W).set i _) (a.set i v) (by rw [List.length_set]; exact b)
  rw [List.take_set, c] at this
  exact this
end
set_option maxRecDepth 100000 in
theorem alike_flush (h : Twin E W P D Q F A k) (hk : k + 1001 < 900000000) (a : Act1) (ha : a.kd = 9) :
    Calls Tryd.prog 16 #[.pointer (some ⟨P, 0, none⟩), .pointer (some ⟨Q, 0, none⟩), actV a] W fun e w' => AlikeR E W w' P D Q F A k e := by
  obtain ⟨kd, pp, nn, by_⟩ := a
  obtain rfl : kd = 9 := ha
  have HF := fun w (hw : Below W.heap.size W w) => Lib.hid (twin_two (f := 21) (vs := []) (B := A) (m := k + 1001) (h.next hw) (fun S w P D z => (pz_flush z hk).mono fun e w' ⟨a, b, c⟩ => ⟨a, b.pz, c⟩))
  have HB := fun w (hw : Below W.heap.size W w) => Lib.hid (h.keptB hw)
  clear h
  go_enter Tryd.func16, Tryd.ntmps16
  go_wp2_with fail
  refine (HF _ (actB W _)).out.mono ?_
  rintro e w2 ⟨rfl, k2, HG⟩
  have HK := Lib.hid ((HB _ (actB W _)).out.trans k2)
  replace HG := Lib.hid HG
  clear HF HB k2
  go_wp2_with fail
  refine HG.out.mono ?_
  rintro e w3 ⟨rfl, t3, k3⟩
  replace HK := Lib.hid (HK.out.trans k3)
  have HP := Lib.hid t3.pins
  have HS := Lib.hid (t3.up (show k + 1001 ≤ k + 1001 by omega))
  have HA := Lib.hid (AP.Reach.refl A)
  clear HG k3 t3
  go_wp2_with fail
  refine HP.out.1.mono ?_
  rintro e w' ⟨rfl, rfl⟩
  go_wp2_with fail
  refine HP.out.2.mono ?_
  rintro e w' ⟨rfl, rfl⟩
  go_wp2
  go_ret
  exact ⟨_, rfl, HA.out, HS.out, HK.out⟩
theorem Twin.boxed (h : Twin E W P D Q F A k) (a : Act1) : Twin (fun j => E j ∨ j = W.heap.size) (W.alloc (.cells #[.int .i64 a.kd, .int .i64 a.pp, .int .i64 a.nn, .int .u8 (a.by_.toNat : Int)] 45)) P D Q F A k ∧ Kept E W (W.alloc (.cells #[.int .i64 a.kd, .int .i64 a.pp, .int .i64 a.nn, .int .u8 (a.by_.toNat : Int)] 45)) ∧
    Box (W.alloc (.cells #[.int .i64 a.kd, .int .i64 a.pp, .int .i64 a.nn, .int .u8 (a.by_.toNat : Int)] 45)) W.heap.size #[.int .i64 a.kd, .int .i64 a.pp, .int .i64 a.nn, .int .u8 (a.by_.toNat : Int)] :=
  ⟨h.wide (actB W _) (fun j hj => hj.elim .inl (fun e => .inr ⟨by omega, by rw [World.size_alloc]; omega⟩)), h.keptB (actB W _), Box.new W _ _⟩
theorem give_two {S : Nat → Prop} {w : World} (h1 : Twin S w P D Q F A k) (hk : k + 1001 < 900000000) (pp : Int) (hpw : (Lit.int .i64 pp).wf = true) :
    ∃ B x, A.Reach B ∧ Calls Tryd.prog 58 #[.pointer (some ⟨P, 0, none⟩), .int .i64 pp] w fun e w' => e = .returned (.int .i64 x) ∧ Kept S w w' ∧
      Calls Tryd.prog 58 #[.pointer (some ⟨Q, 0, none⟩), .int .i64 pp] w' fun e w2 => e = .returned (.int .i64 x) ∧ Twin S w2 P D Q F B (k + 1) ∧ Kept S w' w2 := by
  by_cases hp : ∃ m : Nat, pp = m ∧ A.Has m
  · obtain ⟨m, rfl, hm⟩ := hp
    exact ⟨A.give m, 0, (AP.Reach.refl A).give hm, twin_two (f := 58) (vs := [.int .i64 m]) h1 (fun S w P D z => pz_give z (by omega) m hm)⟩
  · exact ⟨A, 4, AP.Reach.refl A, twin_two (f := 58) (vs := [.int .i64 pp]) h1 (fun S w P D z => (pz_give_no z pp hpw (fun m e hm => hp ⟨m, e, hm⟩)).mono fun e w' ⟨a, b, c⟩ => ⟨a, b.up (by omega), c⟩)⟩
set_option maxRecDepth 100000 in
theorem alike_give (h : Twin E W P D Q F A k) (hk : k + 1001 < 900000000) (a : Act1) (hpw : (Lit.int .i64 a.pp).wf = true) (ha : a.kd = 5) :
    Calls Tryd.prog 16 #[.pointer (some ⟨P, 0, none⟩), .pointer (some ⟨Q, 0, none⟩), actV a] W fun e w' => AlikeR E W w' P D Q F A k e := by
  obtain ⟨h1, hb, hx⟩ := h.boxed a
  obtain ⟨kd, pp, nn, by_⟩ := a
  obtain rfl : kd = 5 := ha
  replace hpw : (Lit.int .i64 pp).wf = true := hpw
  simp only [] at h1 hb hx
  obtain ⟨B, x, hr, hf⟩ := give_two h1 hk pp hpw
  have HF := Lib.hid hf
  have HA := Lib.hid hr
  have HB := Lib.hid hb
  have HX := Lib.hid hx
  clear h h1 hr hb hx hf
  go_enter Tryd.func16, Tryd.ntmps16
  go_wp2_with fail
  refine HF.out.mono ?_
  rintro e w2 ⟨rfl, k2, HG⟩
  have c1 : w2.cell? ⟨W.heap.size, 1, none⟩ = some (.int .i64 pp) := (HX.out.of_block (k2.block _ (.inr rfl))).cell 1 _ rfl
  have HK := Lib.hid (HB.out.trans (k2.mono (T := E) (fun j hj => .inl hj)))
  replace HG := Lib.hid HG
  clear HF HB HX k2
  go_wp2_with fail
  refine HG.out.mono ?_
  rintro e w3 ⟨rfl, t3, k3⟩
  replace HK := Lib.hid (HK.out.trans (k3.mono (fun j hj => .inl hj)))
  have HP := Lib.hid t3.pins
  have HS := Lib.hid ((t3.up (show k + 1 ≤ k + 1001 by omega)).less (T := E) (fun j hj => .inl hj))
  clear HG k3 t3 c1
  go_wp2_with fail
  refine HP.out.1.mono ?_
  rintro e w' ⟨rfl, rfl⟩
  go_wp2_with fail
  refine HP.out.2.mono ?_
  rintro e w' ⟨rfl, rfl⟩
  go_wp2
  go_ret
  exact ⟨_, rfl, HA.out, HS.out, HK.out⟩
set_option maxRecDepth 100000 in
theorem alike_take (h : Twin E W P D Q F A k) (hk : k + 1001 < 900000000) (a : Act1) (ha : a.kd = 4) :
    Calls Tryd.prog 16 #[.pointer (some ⟨P, 0, none⟩), .pointer (some ⟨Q, 0, none⟩), actV a] W fun e w' => AlikeR E W w' P D Q F A k e := by
  obtain ⟨kd, pp, nn, by_⟩ := a
  obtain rfl : kd = 4 := ha
  by_cases hf : A.Full
  · have HF := fun w (hw : Below W.heap.size W w) => Lib.hid (twin_two (f := 39) (vs := []) (h.next hw) (fun S w P D z => pz_take_no z (by omega) hf))
    have HB := fun w (hw : Below W.heap.size W w) => Lib.hid (h.keptB hw)
    clear h
    go_enter Tryd.func16, Tryd.ntmps16
    go_wp2_with fail
    refine (HF _ (actB W _)).out.mono ?_
    rintro e w2 ⟨rfl, k2, HG⟩
    have HK := Lib.hid ((HB _ (actB W _)).out.trans k2)
    replace HG := Lib.hid HG
    clear HF HB k2
    go_wp2_with fail
    refine HG.out.mono ?_
    rintro e w3 ⟨rfl, t3, k3⟩
    replace HK := Lib.hid (HK.out.trans k3)
    have HP := Lib.hid t3.pins
    have HS := Lib.hid (t3.up (show k + 2 ≤ k + 1001 by omega))
    have HA := Lib.hid (AP.Reach.refl A)
    clear HG k3 t3
    go_wp2_with fail
    refine HP.out.1.mono ?_
    rintro e w' ⟨rfl, rfl⟩
    go_wp2_with fail
    refine HP.out.2.mono ?_
    rintro e w' ⟨rfl, rfl⟩
    go_wp2
    go_ret
    exact ⟨_, rfl, HA.out, HS.out, HK.out⟩
  · have HF := fun w (hw : Below W.heap.size W w) => Lib.hid (used_two (f := 39) (vs := []) (h.next hw) (fun S w P D z => pz_take z (by omega) hf))
    have HB := fun w (hw : Below W.heap.size W w) => Lib.hid (h.keptB hw)
    have HA := Lib.hid ((AP.Reach.refl A).take hf)
    clear h
    go_enter Tryd.func16, Tryd.ntmps16
    go_wp2_with fail
    refine (HF _ (actB W _)).out.mono ?_
    rintro e w2 ⟨fb, db, cap, rfl, k2, HG⟩
    have HK := Lib.hid ((HB _ (actB W _)).out.trans k2)
    replace HG := Lib.hid HG
    clear HF HB k2
    go_wp2_with fail
    refine HG.out.mono ?_
    rintro e w3 ⟨gb, eb, dap, rfl, u3, k3⟩
    replace HK := Lib.hid (HK.out.trans k3)
    have HC := Lib.hid u3.pages
    have HU := Lib.hid u3.unpin
    clear HG k3 u3
    go_wp2_with fail
    refine HC.out.1.mono ?_
    rintro e w' ⟨rfl, rfl⟩
    go_wp2_with fail
    refine HC.out.2.mono ?_
    rintro e w' ⟨rfl, rfl⟩
    clear HC
    go_wp2_with fail
    refine HU.out.mono ?_
    rintro e w4 ⟨rfl, k4, HG⟩
    replace HK := Lib.hid (HK.out.trans k4)
    replace HG := Lib.hid HG
    clear HU k4
    go_wp2_with fail
    refine HG.out.mono ?_
    rintro e w5 ⟨rfl, t5, k5⟩
    replace HK := Lib.hid (HK.out.trans k5)
    have HP := Lib.hid t5.pins
    have HS := Lib.hid (t5.up (show k + 2 ≤ k + 1001 by omega))
    clear HG k5 t5
    go_wp2_with fail
    refine HP.out.1.mono ?_
    rintro e w' ⟨rfl, rfl⟩
    go_wp2_with fail
    refine HP.out.2.mono ?_
    rintro e w' ⟨rfl, rfl⟩
    go_wp2
    go_ret
    exact ⟨_, rfl, HA.out, HS.out, HK.out⟩
theorem alike_else (h : Twin E W P D Q F A k) (a : Act1) (ha : a.kd ≠ 1 ∧ a.kd ≠ 3 ∧ a.kd ≠ 4 ∧ a.kd ≠ 5 ∧ a.kd ≠ 9 ∧ (a.kd < 6 ∨ 8 < a.kd)) :
    Calls Tryd.prog 16 #[.pointer (some ⟨P, 0, none⟩), .pointer (some ⟨Q, 0, none⟩), actV a] W fun e w' => AlikeR E W w' P D Q F A k e := by
  obtain ⟨kd, pp, nn, by_⟩ := a
  have hw := actB W (.cells #[.int .i64 kd, .int .i64 pp, .int .i64 nn, .int .u8 (by_.toNat : Int)] 45)
  have HS := Lib.hid ((h.next hw).up (show k ≤ k + 1001 by omega))
  have HK := Lib.hid (h.keptB hw)
  have HP := Lib.hid (h.next hw).pins
  have HA := Lib.hid (AP.Reach.refl A)
  clear h hw
  obtain ⟨h1, h3, h4, h5, h9, h68⟩ := ha
  replace h1 : (kd == 1) = false := beq_eq_false_iff_ne.2 h1
  replace h3 : (kd == 3) = false := beq_eq_false_iff_ne.2 h3
  replace h4 : (kd == 4) = false := beq_eq_false_iff_ne.2 h4
  replace h5 : (kd == 5) = false := beq_eq_false_iff_ne.2 h5
  replace h9 : (kd == 9) = false := beq_eq_false_iff_ne.2 h9
  replace h68 : kd < 6 ∨ 8 < kd := h68
  have h6 : (kd == 6) = false := beq_eq_false_iff_ne.2 (by omega)
  have h7 : (kd == 7) = false := beq_eq_false_iff_ne.2 (by omega)
  have h8 : (kd == 8) = false := beq_eq_false_iff_ne.2 (by omega)
  clear h68
  go_enter Tryd.func16, Tryd.ntmps16
  go_wp2_with fail
  refine HP.out.1.mono ?_
  rintro e w' ⟨rfl, rfl⟩
  go_wp2_with fail
  refine HP.out.2.mono ?_
  rintro e w' ⟨rfl, rfl⟩
  go_wp2
  go_ret
  exact ⟨_, rfl, HA.out, HS.out, HK.out⟩
theorem Used.conv {m fb db cap gb eb dap pg : Nat} {dy dz : Bool} (h : Used E W P D Q F A B k m fb db cap gb eb dap pg dy dz) : (convert 77 9 (.slice (some ⟨db, 0, none⟩) 504 cap)).run Tryd.prog W = .ok (.string (str (A.c pg))) W := by
  obtain ⟨_, y, a, b, c, d⟩ := h.bytes
  have := UK.run_window (P := Tryd.prog) (src := 77) (dst := 9) Tryd.underlying77 Tryd.underlying5 Tryd.underlying9 a 0 504 cap (by omega)
  rw [List.drop_zero, c] at this
  exact this
end
end Go.Proofs.YtjfkdfffolkblaaDoor
