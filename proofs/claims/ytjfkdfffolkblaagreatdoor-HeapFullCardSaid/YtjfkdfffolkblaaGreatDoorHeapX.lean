/-
  How many pages a heap has; a number that isn't there is refused; the disk of a pool, and its room.
  tabularlaw07: awake.
  tabularlaw07: awake.
-/
import Derived.Test.YtjfkdfffolkblaaGreatDoorHeapT
import Derived.Test.YtjfkdfffolkblaaGreatDoorHeapU
namespace Go.Proofs.YtjfkdfffolkblaaGreatDoor
open Go.RowKit
open UK (str BytesAt nth Only Row Box w32)
open SR (Recs rcd total)
open SL (hole add trim room live)
open Go.BigFrame
theorem nodup_sub_le : ∀ (l m : List Nat), l.Nodup → (∀ x, x ∈ l → x ∈ m) → l.length ≤ m.length
  | [], m, _, _ => Nat.zero_le _
  | a :: l, m, h, hs => by
    obtain ⟨h1, h2⟩ := List.nodup_cons.1 h
    have ha := hs a (List.mem_cons_self ..)
    have := nodup_sub_le l (m.erase a) h2 (fun x hx => (List.mem_erase_of_ne (show x ≠ a from fun e => h1 (e ▸ hx))).2 (hs x (List.mem_cons_of_mem _ hx)))
    rw [List.length_erase_of_mem ha] at this
    have hm : 0 < m.length := List.length_pos_of_mem ha
    rw [List.length_cons]
    omega
theorem shut_moves : AP.Moves (fun B => B.op = none) := ⟨fun X p s h hp => by show (X.keep p).op = none; unfold AP.keep; rw [h]; rfl, fun X p h hp => by unfold AP.keep; rw [h]; rfl, fun X h hf => by show X.op.map _ = none; rw [h]; rfl, fun X p h hp => by unfold AP.give; rw [h]⟩
theorem most_moves (m : Int) : AP.Moves (fun B => B.most = m) := ⟨fun X p s h hp => h, fun X p h hp => h, fun X h hf => h, fun X p h hp => by
  unfold AP.give
  cases X.op <;> exact h⟩
theorem AP.Reach.shut {A B : AP} (h : A.Reach B) (e : A.op = none) : B.op = none := h _ shut_moves e
theorem AP.Reach.most {A B : AP} (h : A.Reach B) : B.most = A.most := h _ (most_moves A.most) rfl
/-- all pages are somebody's, or may come -/
theorem AP.Good.count {A : AP} (g : A.Good) (e : A.op = none) {l : List Nat} (hn : l.Nodup) (hl : ∀ p, A.Has p ↔ p ∈ l) : (A.rooms : Int) + l.length = A.most - 1 := by
  have hg0 : A.goneL = [] := by unfold AP.goneL; rw [e]
  have hh : ∀ p, A.Has p ↔ 1 ≤ p ∧ p < A.cnt ∧ p ∉ A.free := fun p => by
    unfold AP.Has
    rw [hg0]
    exact ⟨fun ⟨a, b, c, _⟩ => ⟨a, b, c⟩, fun ⟨a, b, c⟩ => ⟨a, b, c, List.not_mem_nil⟩⟩
  have h1 := nodup_sub_le (l ++ A.free) (List.range' 1 (A.cnt - 1)) (List.nodup_append.2 ⟨hn, g.nod, fun a ha b hb e => by
    subst e
    exact ((hh a).1 ((hl a).2 ha)).2.2 hb⟩) (fun x hx => by
    rw [List.mem_range'_1]
    rcases List.mem_append.1 hx with hx | hx
    · have := (hh x).1 ((hl x).2 hx); omega
    · have := g.free x hx; omega)
  have h2 := nodup_sub_le (List.range' 1 (A.cnt - 1)) (l ++ A.free) (List.nodup_range' ..) (fun x hx => by
    rw [List.mem_range'_1] at hx
    rw [List.mem_append]
    by_cases hf : x ∈ A.free
    · exact .inr hf
    · exact .inl ((hl x).1 ((hh x).2 ⟨by omega, by omega, hf⟩)))
  rw [List.length_append, List.length_range'] at h1 h2
  have := g.one
  have := g.most
  unfold AP.rooms
  omega
theorem HI.rp_le {A : Pg} {root pg : Nat} {rp : List Nat} {L : Nat → List (List UInt8)} {X : List HT} (h : HI A root pg rp L X) : rp.length ≤ X.length + 1 := by
  have hnd := (List.nodup_append.1 (List.nodup_cons.1 h.pages).2).1
  have := nodup_sub_le rp (pg :: X.map HT.pg) hnd (fun p hp => by
    by_cases e : p = pg
    · rw [e]; exact List.mem_cons_self ..
    · have hu := h.used p hp e
      rcases (h.recs p hp).2 with h0 | h0
      · exact absurd h0 hu
      · obtain ⟨t, a, b, _⟩ := h.at_ p hp _ h0
        exact List.mem_cons_of_mem _ (List.mem_map.2 ⟨t, a, b⟩))
  rw [List.length_cons, List.length_map] at this
  exact this
theorem HI.ch_le {A : Pg} {root pg : Nat} {rp : List Nat} {L : Nat → List (List UInt8)} {X : List HT} (h : HI A root pg rp L X) {m : Nat} (hm : ∀ t, t ∈ X → t.s.length ≤ 500 * m) : (chs X).length ≤ m * X.length := by
  have hl := h.long
  clear h
  induction X with
  | nil => exact Nat.zero_le _
  | cons t X ih =>
    have := ih (fun u hu => hm u (List.mem_cons_of_mem _ hu)) (fun u hu => hl u (List.mem_cons_of_mem _ hu))
    have h1 := hl t (List.mem_cons_self ..)
    have h2 := hm t (List.mem_cons_self ..)
    have h3 : t.ch.length ≤ m := by
      unfold LongIs at h1
      by_cases hs : t.s.length ≤ 300
      · rw [if_pos hs] at h1
        rw [h1]; exact Nat.zero_le _
      · rw [if_neg hs] at h1
        have := h1.few
        omega
    rw [chs_cons, List.length_append, List.length_cons, Nat.mul_add, Nat.mul_one]
    omega
/-- how many pages may come -/
theorem HI.rooms {A : AP} {root pg : Nat} {rp : List Nat} {L : Nat → List (List UInt8)} {X : List HT} (h : HI A.pgs root pg rp L X) (g : A.Good) (e : A.op = none) {m : Nat} (hm : ∀ t, t ∈ X → t.s.length ≤ 500 * m) : A.most ≤ (A.rooms : Int) + 3 + X.length + m * X.length := by
  have h1 := g.count e h.pages h.has
  have h2 := h.rp_le
  have h3 := h.ch_le hm
  rw [List.length_cons, List.length_append] at h1
  have h4 : (m * X.length : Nat) = (m : Int) * (X.length : Int) := by push_cast; rfl
  omega
section
variable {E F : Nat → Prop} {W W' : World} {P D k fb db cap pg root H : Nat} {A B : AP} {rp : List Nat} {L : Nat → List (List UInt8)} {X : List HT}
theorem pz_disk (h : PZ E W P D A k) :
    Calls Tryz.prog 13 #[.pointer (some ⟨P, 0, none⟩)] W fun e w' => e = .returned (.pointer (some ⟨D, 0, none⟩)) ∧ w' = W := by
  obtain ⟨FB, M, n, q, d, h1, r⟩ := h
  have c0 : W.cell? ⟨P, 0, none⟩ = some (.pointer (some ⟨D, 0, none⟩)) := h1.pd.pool.box.cell 0 _ rfl
  clear h1 r
  go_enter Tryz.func13, Tryz.ntmps13
  go_wp2
  go_ret
  exact ⟨rfl, rfl⟩
theorem pz_room (h : PZ E W P D A k) (g : A.Good) :
    Calls Tryz.prog 14 #[.pointer (some ⟨D, 0, none⟩)] W fun e w' => e = .returned (.int .i64 A.rooms) ∧ Below W.heap.size W w' := by
  obtain ⟨FB, M, n, q, d, h1, hn, his⟩ := h
  refine (dd_room h1.pd.dd).mono ?_
  rintro e w' ⟨he, q, rfl⟩
  refine ⟨?_, UK.belowN (Below.refl _ _) q⟩
  rw [he]
  have h2 := g.most
  have h3 : d.most - (A.cnt : Int) + (d.free.length : Int) = (A.rooms : Int) := by
    rw [his.most, his.free]
    unfold AP.rooms
    omega
  rw [h3]
set_option maxRecDepth 100000 in
/-- a number that isn't there -/
theorem hdrop_no {i q : Nat} (h : HZ E W P D H k A root pg rp L X) (hk : k + 2 < 900000000) (hp : q ∈ rp) (hi : i < 256) (hrc : rcd (L q) i = []) :
    Calls Tryz.prog 10 #[.pointer (some ⟨H, 0, none⟩), .int .u64 ((q * 256 + i : Nat) : Int)] W fun e w' => e = .returned (.int .i64 4) ∧ PZ E w' P D A (k + 2) ∧ Kept E W w' := by
  have hpgA : A.Has q := (h.hi.rp_has hp).1
  have hp6 : q ≤ 60000 := by
    have := hpgA.2.1
    have := h.pz.cnt_le
    omega
  generalize hn : q * 256 + i = n
  have a1 : Below W.heap.size W (W.alloc (.cells #[.pointer (some ⟨H, 0, none⟩)] 24)) := (Below.refl _ _).alloc (Nat.le_refl _) _
  have a2 := a1.alloc (by simp) (.cells #[.int .u64 (n : Int)] 34)
  have p2 := h.pz.next a2
  have k2 := h.pz.kept a2
  have hb2 := h.box.next a2
  have HF := Lib.hid (find_any p2 hk hb2 (h.hi.recs q hp).1 (h.hi.recs q hp).2 hpgA hp6 hi)
  rw [hn] at HF
  have K2 := Lib.hid k2
  have HR := Lib.hid hrc
  clear h hpgA a1 a2 p2 k2 hb2 hrc
  go_enter Tryz.func10, Tryz.ntmps10
  go_wp2_with fail
  refine HF.out.mono ?_
  rintro e w3 (⟨hbad, _⟩ | ⟨_, rfl, p3, k3⟩)
  · exact absurd HR.out hbad
  · have H3 := Lib.hid (And.intro p3 (K2.out.trans k3))
    clear HF K2 p3 k3
    go_wp2
    go_ret
    exact ⟨rfl, H3.out⟩
end
end Go.Proofs.YtjfkdfffolkblaaGreatDoor
namespace Go.Proofs.YtjfkdfffolkblaaGreatDoor
open Go.RowKit
open UK (str BytesAt nth Only Row Box w32)
open SR (Recs rcd total)
open SL (hole add trim room live)
open Go.BigFrame
section
variable {E F : Nat → Prop} {W W' : World} {P D k fb db cap pg root H : Nat} {A B : AP} {rp : List Nat} {L : Nat → List (List UInt8)} {X Y : List HT}
theorem HZ.step {m : Nat} (h : HZ E W P D H k A root pg rp L X) (p : PZ E W' P D A m) (kk : Kept E W W') : HZ E W' P D H m A root pg rp L X := ⟨p, h.good, h.box.of_block (kk.block H h.mem), h.mem, h.hi, h.few⟩
theorem HZ.perm (h : HZ E W P D H k A root pg rp L X) (hp : X.Perm Y) : HZ E W P D H k A root pg rp L Y := ⟨h.pz, h.good, h.box, h.mem, h.hi.perm hp, by rw [← hp.length_eq]; exact h.few⟩
set_option maxHeartbeats 1000000 in
set_option maxRecDepth 100000 in
theorem find_away {i : Nat} (h : PZ E W P D A k) (hb : Box W H (hcells P root)) (hn : ¬ A.Has pg) (hp1 : 1 ≤ pg) (hp : pg ≤ 60000) (hi : i < 256) :
    Calls Tryz.prog 39 #[.pointer (some ⟨H, 0, none⟩), .int .u64 ((pg * 256 + i : Nat) : Int)] W fun e w' => e = .returned (.tuple #[.string (str []), .int .i64 4]) ∧ PZ E w' P D A k ∧ Kept E W w' := by
  have hE0 := h.there
  have hdv : (((pg * 256 + i : Nat) : Int)) / 256 = (pg : Int) := by omega
  generalize hn2 : pg * 256 + i = n at hdv ⊢
  have HDV := Lib.hid hdv
  clear hdv
  have a1 : Below W.heap.size W (W.alloc (.cells #[.int .u64 (n : Int)] 34)) := (Below.refl _ _).alloc (Nat.le_refl _) _
  have hs1 : (W.alloc (.cells #[.int .u64 (n : Int)] 34)).heap.size = W.heap.size + 1 := by simp
  have x1 := Box.new W #[.int .u64 (n : Int)] 34
  generalize hwa : W.alloc (.cells #[.int .u64 (n : Int)] 34) = wa at a1 hs1 x1
  have a2 := a1.alloc (by omega) (.cells #[.string (str [])] 9)
  have hs2 : (wa.alloc (.cells #[.string (str [])] 9)).heap.size = W.heap.size + 2 := by simp [hs1]
  have x2 := Box.new wa #[.string (str [])] 9
  rw [hs1] at x2
  have x1' := x1.alloc (.cells #[.string (str [])] 9)
  generalize hwc : wa.alloc (.cells #[.string (str [])] 9) = wc at a2 hs2 x2 x1'
  have p2 := (h.wide a2 (T := fun j => E j ∨ j = W.heap.size ∨ j = W.heap.size + 1) (fun j hj => by
    rcases hj with hj | hj | hj
    · exact .inl hj
    · exact .inr (by omega)
    · exact .inr (by omega))).next (Below.refl _ _).drew
  have k2 : Kept E W wc.drew := h.kept a2.drew
  have HWC : Hid ((W.alloc (.cells #[.int .u64 (n : Int)] 34)).alloc (.cells #[.string (str [])] 9) = wc) := by
    show _ = _
    rw [hwa, hwc]
  have d0 : wc.drew.cell? ⟨H, 0, none⟩ = some (.pointer (some ⟨P, 0, none⟩)) := (hb.below a2 hb.lt).cell 0 _ rfl
  have d1 : wc.drew.cell? ⟨W.heap.size, 0, none⟩ = some (.int .u64 (n : Int)) := x1'.drew.cell 0 _ rfl
  have HW := Lib.hid (with_no (N := 88) (caps := #[.pointer (some ⟨W.heap.size, 0, none⟩), .pointer (some ⟨W.heap.size + 1, 0, none⟩)]) p2 (pg : Int) (fun m hm => by
    have : pg = m := by omega
    rw [← this]; exact hn))
  have HX := Lib.hid (And.intro k2 x2.drew)
  clear h hb x1 x1' x2 p2 k2 a1 a2 hs1 hs2 hwa hwc hE0
  go_enter Tryz.func39, Tryz.ntmps39
  go_wp2_with fail
  rw [HWC.out]
  have hdv := HDV.out
  go_still_tail 8, (by kernel_rfl)
  change wpList _ _ _ _ _ wc.drew
  go_wp2_with fail
  refine HW.out.mono ?_
  rintro e w3 ⟨rfl, p3, k3⟩
  have d2 : w3.cell? ⟨W.heap.size + 1, 0, none⟩ = some (.string (str [])) := (HX.out.2.of_block (k3.block _ (.inr (.inr rfl)))).cell 0 _ rfl
  have K3 := Lib.hid (And.intro (p3.less (T := E) (fun j hj => .inl hj)) (HX.out.1.trans (k3.mono (fun j hj => .inl hj))))
  clear HW HX p3 k3
  go_wp2
  go_ret2
  exact ⟨rfl, K3.out⟩
set_option maxRecDepth 100000 in
/-- a number whose page isn't there -/
theorem hdrop_away {i : Nat} (h : HZ E W P D H k A root pg rp L X) {q : Nat} (hn : ¬ A.Has q) (hp1 : 1 ≤ q) (hp : q ≤ 60000) (hi : i < 256) :
    Calls Tryz.prog 10 #[.pointer (some ⟨H, 0, none⟩), .int .u64 ((q * 256 + i : Nat) : Int)] W fun e w' => e = .returned (.int .i64 4) ∧ PZ E w' P D A k ∧ Kept E W w' := by
  generalize hnn : q * 256 + i = n
  have a1 : Below W.heap.size W (W.alloc (.cells #[.pointer (some ⟨H, 0, none⟩)] 24)) := (Below.refl _ _).alloc (Nat.le_refl _) _
  have a2 := a1.alloc (by simp) (.cells #[.int .u64 (n : Int)] 34)
  have p2 := h.pz.next a2
  have k2 := h.pz.kept a2
  have hb2 := h.box.next a2
  have HF := Lib.hid (find_away p2 hb2 hn hp1 hp hi)
  rw [hnn] at HF
  have K2 := Lib.hid k2
  clear h a1 a2 p2 k2 hb2
  go_enter Tryz.func10, Tryz.ntmps10
  go_wp2_with fail
  refine HF.out.mono ?_
  rintro e w3 ⟨rfl, p3, k3⟩
  have H3 := Lib.hid (And.intro p3 (K2.out.trans k3))
  clear HF K2 p3 k3
  go_wp2
  go_ret
  exact ⟨rfl, H3.out⟩
/-- a text that has gone isn't there -/
theorem hdrop_gone {t : HT} (h : HZ E W P D H k A root pg rp L []) (hk : k + 2 < 900000000) (hr : t.pg ≠ root) (hp1 : 1 ≤ t.pg) (hp : t.pg ≤ 60000) (hi : t.i < 256) :
    Calls Tryz.prog 10 #[.pointer (some ⟨H, 0, none⟩), .int .u64 (idOf t : Nat)] W fun e w' => e = .returned (.int .i64 4) ∧ PZ E w' P D A (k + 2) ∧ Kept E W w' := by
  by_cases hm : t.pg ∈ rp
  · by_cases hz : rcd (L t.pg) t.i = []
    · exact hdrop_no h hk hm hi hz
    · obtain ⟨u, a, _⟩ := h.hi.at_ t.pg hm t.i hz
      exact absurd a List.not_mem_nil
  · refine (hdrop_away (i := t.i) h (q := t.pg) (fun hh => ?_) hp1 hp hi).mono fun e w' ⟨a, b, c⟩ => ⟨a, b.up (by omega), c⟩
    have := (h.hi.has t.pg).1 hh
    simp only [chs, List.flatMap_nil, List.append_nil, List.mem_cons] at this
    exact this.elim hr hm
end
end Go.Proofs.YtjfkdfffolkblaaGreatDoor
namespace Go.Proofs.YtjfkdfffolkblaaGreatDoor
open Go.RowKit
open UK (str BytesAt nth Only Row Box w32)
open SR (Recs rcd total)
open SL (hole add trim room live)
open Go.BigFrame
section
variable {E F : Nat → Prop} {W W' : World} {P D k fb db cap pg root H : Nat} {A B : AP} {rp : List Nat} {L : Nat → List (List UInt8)} {X Y : List HT}
/-- a text's number is its own -/
theorem HZ.ids {t u : HT} (h : HZ E W P D H k A root pg rp L X) (ht : t ∈ X) (hu : u ∈ X) (e : idOf t = idOf u) : t.pg = u.pg ∧ t.i = u.i := by
  have h1 := h.hi.slot ht
  have h2 := h.hi.slot hu
  unfold idOf at e
  omega
theorem HZ.id_lt {t : HT} (h : HZ E W P D H k A root pg rp L X) (ht : t ∈ X) : t.pg ≠ root ∧ 1 ≤ t.pg ∧ t.pg ≤ 60000 ∧ t.i < 256 := by
  have h1 := h.hi.slot ht
  obtain ⟨h2, _, _⟩ := h.hi.each t ht
  have h3 : A.Has t.pg := (h.hi.rp_has h2).1
  have h4 := h.pz.cnt_le
  have h5 := h3.1
  have h6 := h3.2.1
  exact ⟨(h.hi.rp_has h2).2, h5, by omega, by omega⟩
set_option maxHeartbeats 4000000 in
set_option maxRecDepth 100000 in
theorem hawake_any (W : World) (ht : TabAt W) (S : Nat → Prop) (hS : ∀ j, S j → j < W.heap.size) :
    Calls Tryz.prog 12 #[] W fun e w' => e = .returned (.bool true) ∧ Kept S W w' := by
  have HM := Lib.hid (hmade_any W ht S hS 50 (by omega) (by omega) 2 (by omega))
  have HL0 := Lib.hid (longL_len [120] 2000)
  have HLG := Lib.hid (fun w => hlong_any [120] 2000 w)
  generalize longL [120] 2000 = l at HL0 HLG
  go_enter Tryz.func12, Tryz.ntmps12
  go_wp2_with fail
  refine HM.out.mono ?_
  rintro e w1 ⟨P, D, T, A, rfl, z1, s1, m1, _, k1⟩
  have H1 := Lib.hid (hput_any (s := [97]) z1 (by show 2 + (1 + 30) < _; omega) (by show 1 ≤ _; omega) (by show 0 < _; omega))
  have Z1 := Lib.hid (And.intro z1 (And.intro s1 (And.intro m1 k1)))
  clear HM z1 s1 m1 k1
  go_wp2_with fail
  refine H1.out.mono ?_
  rintro e w2 (⟨t1, A2, pg2, rp2, L2, rfl, hs1, z2, r2, k2⟩ | ⟨B, rfl, r2, q2, p2, k2⟩)
  rotate_left
  · exfalso
    obtain ⟨z1, s1, m1, _⟩ := Z1.out
    have := z1.hi.rooms z1.good s1 (m := 1) (fun t ht => absurd ht List.not_mem_nil)
    rw [m1] at this
    simp at this q2
    omega
  replace z2 := z2.up (show 2 + (([97] : List UInt8).length + 30) ≤ 40 from by decide)
  obtain ⟨z1, s1, m1, k1⟩ := Z1.out
  have s2 := r2.shut s1
  have m2 := r2.most.trans m1
  have K2 := Lib.hid (And.intro s2 (And.intro m2 (And.intro (k1.trans (k2.mono (fun j hj => .inl hj))) hs1)))
  have Z2 := Lib.hid z2
  clear H1 Z1 z1 s1 m1 k1 r2 k2 s2 m2 hs1
  go_wp2_with fail
  refine (HLG.out w2).mono ?_
  rintro e w' ⟨rfl, rfl⟩
  have H2 := Lib.hid (hput_any (s := l) Z2.out (by have := HL0.out; omega) (by have := HL0.out; omega) (by show 1 < _; omega))
  clear z2
  go_wp2_with fail
  refine H2.out.mono ?_
  rintro e w3 (⟨t2, A3, pg3, rp3, L3, rfl, hs2, z3, r3, k3⟩ | ⟨B, rfl, r3, q3, p3, k3⟩)
  rotate_left
  · exfalso
    obtain ⟨s2, m2, _, hs1⟩ := K2.out
    have := Z2.out.hi.rooms Z2.out.good s2 (m := 1) (fun t ht => by
      rw [List.mem_singleton.1 ht, hs1]
      show 1 ≤ _
      omega)
    rw [m2, show ([t1] : List HT).length = 1 from rfl] at this
    have := HL0.out
    omega
  replace z3 := z3.up (show 40 + (l.length + 30) ≤ 4000 from by have := HL0.out; omega)
  obtain ⟨s2, m2, k2, hs1⟩ := K2.out
  have g1 := get_any z3 (List.mem_cons_of_mem _ (List.mem_cons_self ..) : t1 ∈ [t2, t1]) (by rw [hs1]; decide)
  rw [hs1] at g1
  have G1 := Lib.hid g1
  have K3 := Lib.hid (And.intro (r3.shut s2) (And.intro (r3.most.trans m2) (And.intro (k2.trans (k3.mono (fun j hj => .inl hj))) (And.intro hs1 hs2))))
  have Z3 := Lib.hid z3
  clear H2 Z2 K2 s2 m2 k2 hs1 hs2 g1 r3 k3 z3
  go_wp2_with fail
  refine G1.out.mono ?_
  rintro e w4 ⟨rfl, p4, k4⟩
  have z4 := (Z3.out.step p4 k4).up (show 4000 + (([97] : List UInt8).length + 20) ≤ 4100 from by decide)
  obtain ⟨s3, m3, k3, hs1, hs2⟩ := K3.out
  have g2 := get_any z4 (List.mem_cons_self .. : t2 ∈ [t2, t1]) (by rw [hs2]; have := HL0.out; omega)
  rw [hs2] at g2
  have G2 := Lib.hid g2
  have K4 := Lib.hid (k3.trans (k4.mono (fun j hj => .inl hj)))
  have Z4 := Lib.hid z4
  clear G1 p4 k4 z4 s3 m3 k3 hs1 hs2 g2
  go_wp2_with fail
  refine G2.out.mono ?_
  rintro e w5 ⟨rfl, p5, k5⟩
  have z5 := (Z4.out.step p5 k5).up (show 4100 + (l.length + 20) ≤ 8000 from by have := HL0.out; omega)
  have K5 := Lib.hid (K4.out.trans (k5.mono (fun j hj => .inl hj)))
  have hlt := HL0.out
  have hc := hcount_any z5.pz (by omega) z5.box z5.hi.root_has
  rw [(z5.hi.words z5.good z5.few).2, show (([t2, t1] : List HT).length : Int) = 2 from rfl] at hc
  have HC := Lib.hid hc
  have Z5 := Lib.hid z5
  clear G2 K4 Z4 p5 k5 z5 hc
  go_wp2_with fail
  refine HC.out.mono ?_
  rintro e w6 ⟨rfl, p6, k6⟩
  have z6 := Z5.out.step p6 k6
  obtain ⟨s3, m3, k3, hs1, hs2⟩ := K3.out
  have K6 := Lib.hid (K5.out.trans (k6.mono (fun j hj => .inl hj)))
  have hne : ¬ idOf t1 = idOf t2 := fun e => by
    obtain ⟨a, b⟩ := z6.ids (List.mem_cons_of_mem _ (List.mem_cons_self ..)) (List.mem_cons_self ..) e
    exact (List.pairwise_cons.1 z6.hi.inj).1 t1 (List.mem_singleton.2 rfl) ⟨a.symm, b.symm⟩
  have hnb : (((idOf t1 : Nat) : Int) != ((idOf t2 : Nat) : Int)) = true := by simp; omega
  have hni : ¬ ((idOf t1 : Nat) : Int) = ((idOf t2 : Nat) : Int) := by omega
  have zd := z6.perm (List.Perm.swap t1 t2 [])
  have HD1 := Lib.hid (hdrop_any zd (by rw [hs1]; decide))
  have hidt := (z6.id_lt (List.mem_cons_self .. : t2 ∈ [t2, t1]))
  have HT2 := Lib.hid hidt
  have Z6 := Lib.hid (And.intro s3 m3)
  clear HC Z5 K5 p6 k6 z6 zd s3 m3 k3 hs1 hs2 hidt hne
  go_wp2_with fail
  refine (HLG.out _).mono ?_
  rintro e w7 ⟨rfl, hw7⟩
  subst hw7
  go_wp2_with fail
  refine HD1.out.mono ?_
  rintro e w8 ⟨A4, rp4, L4, rfl, z8, r8, k8⟩
  obtain ⟨s3, m3, k3, hs1, hs2⟩ := K3.out
  rw [hs1] at z8
  replace z8 := z8.up (show 8000 + 2 + (([97] : List UInt8).length + 40) ≤ 8100 from by decide)
  have HD2 := Lib.hid (hdrop_any z8 (by rw [hs2]; omega))
  have K8 := Lib.hid (And.intro (r8.shut s3) (And.intro (r8.most.trans m3) (And.intro (K6.out.trans (k8.mono (fun j hj => .inl hj))) hs2)))
  clear HD1 K3 K6 z8 r8 k8 s3 m3 k3 hs1 hs2
  go_wp2_with fail
  refine HD2.out.mono ?_
  rintro e w9 ⟨A5, rp5, L5, rfl, z9, r9, k9⟩
  obtain ⟨s4, m4, k4, hs2⟩ := K8.out
  rw [hs2] at z9
  replace z9 := z9.up (show 8100 + (l.length + 40) ≤ 16000 from by omega)
  have HD3 := Lib.hid (hdrop_gone (t := t2) z9 (by omega) HT2.out.1 HT2.out.2.1 HT2.out.2.2.1 HT2.out.2.2.2)
  have K9 := Lib.hid (And.intro (r9.shut s4) (And.intro (r9.most.trans m4) (k4.trans (k9.mono (fun j hj => .inl hj)))))
  have Z9 := Lib.hid z9
  clear HD2 K8 z9 r9 k9 s4 m4 k4 hs2
  go_wp2_with fail
  refine HD3.out.mono ?_
  rintro e w10 ⟨rfl, p10, k10⟩
  have z10 := Z9.out.step p10 k10
  have HDk := Lib.hid (pz_disk z10.pz)
  have HRm := Lib.hid (pz_room z10.pz z10.good)
  obtain ⟨s5, m5, k5⟩ := K9.out
  have hroom := z10.hi.rooms z10.good s5 (m := 1) (fun t ht => absurd ht List.not_mem_nil)
  rw [m5, show ([] : List HT).length = 0 from rfl] at hroom
  have hr47 : (47 : Int) ≤ A5.rooms := by omega
  have K10 := Lib.hid (And.intro (k5.trans (k10.mono (fun j hj => .inl hj))) z10)
  clear HD3 K9 Z9 p10 k10 z10 s5 m5 k5 hroom
  generalize A5.rooms = rr at HRm hr47
  go_wp2_with fail
  refine HDk.out.mono ?_
  rintro e w11 ⟨rfl, hw11⟩
  subst hw11
  go_wp2_with fail
  refine HRm.out.mono ?_
  rintro e w12 ⟨rfl, b12⟩
  have K12 := Lib.hid (K10.out.1.trans ((K10.out.2.pz.kept b12).mono (fun j hj => .inl hj)))
  clear HDk HRm K10 b12
  go_wp2
  go_ret
  exact ⟨rfl, K12.out⟩
end
end Go.Proofs.YtjfkdfffolkblaaGreatDoor
