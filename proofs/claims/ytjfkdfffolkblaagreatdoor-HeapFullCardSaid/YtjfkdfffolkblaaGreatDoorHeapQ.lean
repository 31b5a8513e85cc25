/-
  heap.Drop: a text goes.
-/
import Derived.Test.YtjfkdfffolkblaaGreatDoorHeapO
namespace Go.Proofs.YtjfkdfffolkblaaGreatDoor
open Go.RowKit
open UK (str BytesAt nth Only Row Box w32)
open SR (Recs rcd total)
open SL (hole add trim room live)
open Go.BigFrame
theorem LastOk.trim (l : List (List UInt8)) : LastOk (SL.trim l) := SL.trim_last l
section
variable {E F : Nat → Prop} {W W' : World} {P D k fb db cap pg root H : Nat} {A B C : AP} {rp : List Nat} {L : Nat → List (List UInt8)} {X : List HT} {t : HT}
/-- what Drop leaves -/
def DropR (E : Nat → Prop) (W W' : World) (P D H k : Nat) (A : AP) (root pg : Nat) (t : HT) (X : List HT) (e : Ending) : Prop :=
  ∃ B rp' L', e = .returned (.int .i64 0) ∧ HZ E W' P D H (k + (t.s.length + 40)) B root pg rp' L' X ∧ A.Reach B ∧ Kept E W W'
/-- a text goes; its page stays -/
theorem drop_stay (h : HI A.pgs root pg rp L (t :: X)) (hc : B.c = A.c) (hh : ∀ p, B.Has p ↔ A.Has p ∧ p ∉ t.ch) {z : List UInt8} (hz : Recs z (trim ((L t.pg).set t.i []))) (hs : t.pg ≠ pg → trim ((L t.pg).set t.i []) ≠ []) :
    HI ((B.wrote t.pg z).wrote root (rootB ((B.wrote t.pg z).c root) pg X.length)).pgs root pg rp (fun p => if p = t.pg then trim ((L t.pg).set t.i []) else L p) X := by
  obtain ⟨ht1, _, _⟩ := h.each t (List.mem_cons_self ..)
  have hpr : t.pg ≠ root := (h.rp_has ht1).2
  refine h.drop (B := ((B.wrote t.pg z).wrote root (rootB ((B.wrote t.pg z).c root) pg X.length)).pgs) (y := z) (fun p => ?_) hz hs ?_ ?_ (fun p _ h1 h2 => ?_)
  · show ((B.wrote t.pg z).wrote root _).Has p ↔ _
    rw [AP.wrote_has, AP.wrote_has]; exact hh p
  · show ((B.wrote t.pg z).wrote root _).c t.pg = z
    rw [AP.wrote_c, if_neg (Ne.symm hpr), AP.wrote_c, if_pos rfl]
  · show ((B.wrote t.pg z).wrote root _).c root = _
    rw [AP.wrote_c, if_pos rfl, AP.wrote_c, if_neg hpr, hc]; rfl
  · show ((B.wrote t.pg z).wrote root _).c p = A.c p
    rw [AP.wrote_c, if_neg (Ne.symm h2), AP.wrote_c, if_neg (Ne.symm h1), hc]
/-- .. and its page goes too -/
theorem drop_gone (h : HI A.pgs root pg rp L (t :: X)) (hc : B.c = A.c) (hh : ∀ p, B.Has p ↔ A.Has p ∧ p ∉ t.ch) (hg : B.Good) {z : List UInt8} (hn : t.pg ≠ pg) (he : trim ((L t.pg).set t.i []) = []) :
    HI (((B.wrote t.pg z).give t.pg).wrote root (rootB (((B.wrote t.pg z).give t.pg).c root) pg X.length)).pgs root pg (rp.erase t.pg) L X := by
  obtain ⟨ht1, _, _⟩ := h.each t (List.mem_cons_self ..)
  have hpr : t.pg ≠ root := (h.rp_has ht1).2
  have hBt : B.Has t.pg := (hh _).2 ⟨(h.rp_has ht1).1, fun hm => (h.ch_has (List.mem_cons_self ..) hm).2.2 ht1⟩
  obtain ⟨_, g2, _, _⟩ := (hg.wrote t.pg z).give (AP.wrote_has.2 hBt)
  refine h.dropPage (B := (((B.wrote t.pg z).give t.pg).wrote root (rootB (((B.wrote t.pg z).give t.pg).c root) pg X.length)).pgs) (fun p => ?_) hn he ?_ (fun p hp h2 => ?_)
  · show (((B.wrote t.pg z).give t.pg).wrote root _).Has p ↔ A.Has p ∧ p ∉ t.ch ∧ p ≠ t.pg
    rw [AP.wrote_has, g2, AP.wrote_has, hh, and_assoc]
  · show (((B.wrote t.pg z).give t.pg).wrote root _).c root = _
    rw [AP.wrote_c, if_pos rfl, AP.give_c, AP.wrote_c, if_neg hpr, hc]; rfl
  · have hp' : (((B.wrote t.pg z).give t.pg).wrote root (rootB (((B.wrote t.pg z).give t.pg).c root) pg X.length)).Has p := hp
    rw [AP.wrote_has, g2] at hp'
    show (((B.wrote t.pg z).give t.pg).wrote root _).c p = A.c p
    rw [AP.wrote_c, if_neg (Ne.symm h2), AP.give_c, AP.wrote_c, if_neg (Ne.symm hp'.2), hc]
set_option maxHeartbeats 2000000 in
set_option maxRecDepth 100000 in
theorem hdrop_any (h : HZ E W P D H k A root pg rp L (t :: X)) (hk : k + (t.s.length + 40) < 900000000) :
    Calls Tryz.prog 10 #[.pointer (some ⟨H, 0, none⟩), .int .u64 (idOf t : Nat)] W fun e w' => DropR E W w' P D H k A root pg t X e := by
  have ht := h.pz.tab.lt
  have hE0 := h.pz.there
  obtain ⟨hr1, hr2, hr3⟩ := h.hi.each t (List.mem_cons_self ..)
  have hpgA : A.Has t.pg := (h.hi.rp_has hr1).1
  have hp6 : t.pg ≤ 60000 := by
    have := hpgA.2.1
    have := h.pz.cnt_le
    omega
  have hi := h.hi.slot (List.mem_cons_self (a := t) (l := X))
  have a1 : Below W.heap.size W (W.alloc (.cells #[.pointer (some ⟨H, 0, none⟩)] 24)) := (Below.refl _ _).alloc (Nat.le_refl _) _
  have hs1 : (W.alloc (.cells #[.pointer (some ⟨H, 0, none⟩)] 24)).heap.size = W.heap.size + 1 := by simp
  have x1 := Box.new W #[.pointer (some ⟨H, 0, none⟩)] 24
  generalize hwa : W.alloc (.cells #[.pointer (some ⟨H, 0, none⟩)] 24) = wa at a1 hs1 x1
  have a2 := a1.alloc (by omega) (.cells #[.int .u64 ((idOf t : Nat) : Int)] 34)
  have hs2 : (wa.alloc (.cells #[.int .u64 ((idOf t : Nat) : Int)] 34)).heap.size = W.heap.size + 2 := by simp [hs1]
  have x2 := Box.new wa #[.int .u64 ((idOf t : Nat) : Int)] 34
  rw [hs1] at x2
  have x1' := x1.alloc (.cells #[.int .u64 ((idOf t : Nat) : Int)] 34)
  generalize hwc : wa.alloc (.cells #[.int .u64 ((idOf t : Nat) : Int)] 34) = wc at a2 hs2 x2 x1'
  have HWC : Hid ((W.alloc (.cells #[.pointer (some ⟨H, 0, none⟩)] 24)).alloc (.cells #[.int .u64 ((idOf t : Nat) : Int)] 34) = wc) := by
    show _ = _
    rw [hwa, hwc]
  have hz2 : HZ (fun j => E j ∨ j = W.heap.size ∨ j = W.heap.size + 1) wc P D H k A root pg rp L (t :: X) := ⟨h.pz.wide a2 (fun j hj => by
    rcases hj with hj | hj | hj
    · exact .inl hj
    · exact .inr (by omega)
    · exact .inr (by omega)), h.good, h.box.below a2 h.box.lt, .inl h.mem, h.hi, h.few⟩
  have k2 : Kept E W wc := h.pz.kept a2
  have HF := Lib.hid (hz2.find (List.mem_cons_self ..) (by omega))
  have HZ2 := Lib.hid (And.intro hz2 (And.intro k2 (And.intro x1' x2)))
  have HN := Lib.hid (And.intro hp6 (And.intro hi (And.intro hE0 ht)))
  have HDV : Hid (((idOf t : Nat) : Int) / 256 = (t.pg : Int)) := by show _ = _; unfold idOf; omega
  have HID : Hid ((idOf t : Nat) = t.pg * 256 + t.i) := rfl
  have HH := Lib.hid h
  clear h x1 x1' x2 a1 a2 hs1 hs2 hwa hwc hE0 ht hz2 k2 hr1 hr2 hpgA hp6 hi
  generalize (idOf t : Nat) = n at HWC HF HZ2 HDV HID ⊢
  have hlen : 300 < t.s.length → ChainOf A.c t.s t.ch := fun hs => by
    have h1 : LongIs A.c t := HH.out.hi.long t (List.mem_cons_self ..)
    unfold LongIs at h1
    rw [if_neg (by omega)] at h1
    exact h1
  have hshort : t.s.length ≤ 300 → t.ch = [] := fun hs => by
    have h1 : LongIs A.c t := HH.out.hi.long t (List.mem_cons_self ..)
    unfold LongIs at h1
    rw [if_pos hs] at h1
    exact h1
  have hXl : X.length ≤ 1000000 := by have := HH.out.few; rw [List.length_cons] at this; omega
  have HLS := Lib.hid (And.intro hlen hshort)
  clear hlen hshort
  by_cases hs : t.s.length ≤ 300
  · have hrec := rec_short t.s t.ch hs
    have hn0 : nth (recS t.s t.ch) 0 = 0 := by rw [hrec]; rfl
    have hn0' : ((nth (recS t.s t.ch) 0).toNat : Int) = 0 := by rw [hn0]; rfl
    have hl0 : (0 : Int) < (recS t.s t.ch).length := by rw [hrec, List.length_cons]; omega
    have HS := Lib.hid hs
    clear hrec hs
    generalize recS t.s t.ch = rec at HF hn0 hn0' hl0
    go_enter Tryz.func10, Tryz.ntmps10
    go_wp2_with fail
    rw [HWC.out]
    refine HF.out.mono ?_
    rintro e w4 ⟨rfl, p3, k3⟩
    obtain ⟨B, hb1, hb2, hb3, hb4⟩ : ∃ B : AP, PZ (fun j => E j ∨ j = W.heap.size ∨ j = W.heap.size + 1) w4 P D B (k + 2 + (t.s.length + 10)) ∧ A.Reach B ∧ B.c = A.c ∧ (∀ p, B.Has p ↔ A.Has p ∧ p ∉ t.ch) :=
      ⟨A, p3.up (by omega), AP.Reach.refl A, rfl, fun p => by rw [HLS.out.2 HS.out]; simp⟩
    have HM := Lib.hid (And.intro hb1 (And.intro hb2 (And.intro hb3 (And.intro hb4 k3))))
    clear hb1 hb2 hb3 hb4
    clear HF p3 k3 HS HLS
    obtain ⟨pb, rb, cb, hb, kb⟩ := HM.out
    obtain ⟨hz2, k2, x1, x2⟩ := HZ2.out
    have xb1 := x1.of_block (kb.block _ (.inr (.inl rfl)))
    have bH := hz2.box.of_block (kb.block _ hz2.mem)
    have e1 : w4.cell? ⟨W.heap.size, 0, none⟩ = some (.pointer (some ⟨H, 0, none⟩)) := xb1.cell 0 _ rfl
    have hrb := (hb root).2 ⟨hz2.hi.root_has, fun hm => (hz2.hi.ch_has (List.mem_cons_self ..) hm).2.1 rfl⟩
    obtain ⟨wd1, wd2⟩ := hz2.hi.words hz2.good hz2.few
    have hst := state_any pb (by omega) bH hrb
    rw [cb, wd1, wd2, show ((t :: X).length : Int) = (X.length : Int) + 1 from by rw [List.length_cons]; omega] at hst
    have HST := Lib.hid hst
    clear pb rb cb hb kb hz2 k2 x1 x2 xb1 bH hrb wd1 wd2 hst
    go_wp2_with fail
    refine HST.out.mono ?_
    rintro e w5 ⟨rfl, p5, k5⟩
    obtain ⟨pb, rb, cb, hb, kb⟩ := HM.out
    obtain ⟨hz2, k2, x1, x2⟩ := HZ2.out
    have kb5 := kb.trans k5
    have xb1 := x1.of_block (kb5.block _ (.inr (.inl rfl)))
    have xb2 := x2.of_block (kb5.block _ (.inr (.inr rfl)))
    have bH := hz2.box.of_block (kb5.block _ hz2.mem)
    have a5 : Below w5.heap.size w5 (w5.alloc (.cells #[.int .i64 0] 3)) := (Below.refl _ _).alloc (Nat.le_refl _) _
    have hs5 : (w5.alloc (.cells #[.int .i64 0] 3)).heap.size = w5.heap.size + 1 := by simp
    have x5 := Box.new w5 #[.int .i64 0] 3
    have e5 : (w5.alloc (.cells #[.int .i64 0] 3)).cell? ⟨W.heap.size, 0, none⟩ = some (.pointer (some ⟨H, 0, none⟩)) := (xb1.next a5).cell 0 _ rfl
    have e6 : (w5.alloc (.cells #[.int .i64 0] 3)).cell? ⟨H, 0, none⟩ = some (.pointer (some ⟨P, 0, none⟩)) := (bH.next a5).cell 0 _ rfl
    have e7 : w5.cell? ⟨W.heap.size + 1, 0, none⟩ = some (.int .u64 (n : Int)) := xb2.cell 0 _ rfl
    have p6 := p5.wide a5 (T := fun j => (E j ∨ j = W.heap.size ∨ j = W.heap.size + 1) ∨ j = w5.heap.size) (fun j hj => by
      rcases hj with hj | hj
      · exact .inl hj
      · exact .inr (by omega))
    have hdv := HDV.out
    obtain ⟨hp6, ⟨hi1, hi2⟩, hE0, ht0⟩ := HN.out
    have htr := hz2.hi.each t (List.mem_cons_self ..)
    have hpgA : A.Has t.pg := (hz2.hi.rp_has htr.1).1
    have hpB := (hb t.pg).2 ⟨hpgA, fun hm => (hz2.hi.ch_has (List.mem_cons_self ..) hm).2.2 htr.1⟩
    have hrB : Recs (B.c t.pg) (L t.pg) := by rw [cb]; exact (hz2.hi.recs t.pg htr.1).1
    have hrc : rcd (L t.pg) t.i ≠ [] := by rw [htr.2.1]; exact recOf_ne t
    have hidn := HID.out
    have HW := Lib.hid (with_any (N := 45) (caps := #[.pointer (some ⟨W.heap.size + 1, 0, none⟩), .pointer (some ⟨w5.heap.size, 0, none⟩)]) (F := fun j => E j ∨ j = W.heap.size ∨ j = W.heap.size + 1)
      (R := fun A' k' r w' => ∃ z, Recs z (trim ((L t.pg).set t.i [])) ∧ z.length = 504 ∧ A' = B.wrote t.pg z ∧ k' = k + 2 + (t.s.length + 10) + 2 + 3 ∧ r = 0 ∧ Box w' w5.heap.size #[.int .i64 (live (trim ((L t.pg).set t.i [])) : Nat)])
      (enters Tryz.func45 (by kernel_rfl) (by kernel_rfl)) p6 (by omega) hpB (fun j hj => .inl hj) (fun fb db cap w hpf hkk => by
        have y2 := (xb2.next a5).of_block (hkk.block _ (.inl (.inr (.inr rfl))))
        rw [hidn] at y2
        refine (drop2_any hpf (by omega) hrB hp6 (by omega) hi1 hrc y2 (x5.of_block (hkk.block _ (.inr rfl))) (.inl (.inr (.inr rfl))) (.inr rfl) (by have := kb5.size; have := k2.size; omega)).mono ?_
        rintro e w' ⟨he, ⟨z, z1, z2, q1⟩, q2, q3⟩
        exact ⟨0, _, _, true, he, q1, q3.mono (fun j hj => ⟨.inl hj, by
          have := p5.there j hj
          omega⟩), z, z1, z2, rfl, rfl, rfl, q2⟩))
    have H5 := Lib.hid (And.intro (k2.trans ((kb5.trans (p5.kept a5)).mono (fun j hj => .inl hj))) (And.intro (xb1.next a5) (And.intro (bH.next a5) hpB)))
    clear HST p5 k5 pb rb cb hb kb hz2 k2 x1 x2 kb5 xb1 xb2 bH a5 hs5 x5 p6 hE0 htr hpgA hpB hrB hrc hidn
    go_wp2_with fail
    refine HW.out.mono ?_
    rintro e w7 ⟨r, A', k', w6, rfl, ⟨z, z1, z2, rfl, rfl, rfl, bl⟩, p7, k7, k8⟩
    have d7 : w7.cell? ⟨w5.heap.size, 0, none⟩ = some (.int .i64 (live (trim ((L t.pg).set t.i [])) : Nat)) := (bl.of_block (k7.block _ (.inr rfl))).cell 0 _ rfl
    obtain ⟨kA, xb1, bH, hpB⟩ := H5.out
    have k8E := kA.trans (k8.mono (fun j hj => .inl hj))
    have e7h : w7.cell? ⟨W.heap.size, 0, none⟩ = some (.pointer (some ⟨H, 0, none⟩)) := (xb1.of_block (k8.block _ (.inr (.inl rfl)))).cell 0 _ rfl
    have bH7 := bH.of_block (k8.block _ (.inl HH.out.mem))
    have e7p : w7.cell? ⟨H, 0, none⟩ = some (.pointer (some ⟨P, 0, none⟩)) := bH7.cell 0 _ rfl
    have hrB := (HM.out.2.2.2.1 root).2 ⟨HH.out.hi.root_has, fun hm => (HH.out.hi.ch_has (List.mem_cons_self ..) hm).2.1 rfl⟩
    by_cases he : trim ((L t.pg).set t.i []) = []
    · have hl0 : live (trim ((L t.pg).set t.i [])) = 0 := by rw [he]; rfl
      rw [hl0] at d7
      replace d7 : w7.cell? ⟨w5.heap.size, 0, none⟩ = some (.int .i64 0) := d7
      by_cases hq : t.pg = pg
      · have hbq : ((t.pg : Int) != (pg : Int)) = false := by rw [hq]; simp
        have hqi : (t.pg : Int) = (pg : Int) := by rw [hq]
        have HS := Lib.hid (setState_any p7 (by omega) bH7 (AP.wrote_has.2 hrB) pg X.length)
        have K7 := Lib.hid k8E
        clear HW H5 p7 k7 k8 bl kA xb1 bH bH7 hrB k8E
        go_wp2_with fail
        refine HS.out.mono ?_
        rintro e w9 ⟨rfl, p9, k9⟩
        have H9 := Lib.hid (And.intro p9 k9)
        clear HS p9 k9
        go_wp2
        go_ret
        obtain ⟨pb, rb, cb, hb, kb⟩ := HM.out
        obtain ⟨p9, k9⟩ := H9.out
        have hrB := (hb root).2 ⟨HH.out.hi.root_has, fun hm => (HH.out.hi.ch_has (List.mem_cons_self ..) hm).2.1 rfl⟩
        have hrch := (rb.wrote hpB z).wrote (AP.wrote_has.2 hrB) (rootB ((B.wrote t.pg z).c root) pg X.length)
        have k9E := K7.out.trans (k9.mono (fun j hj => .inl (.inl hj)))
        exact ⟨_, rp, _, rfl, ⟨(p9.less (fun j hj => .inl (.inl hj))).up (by omega), hrch.good HH.out.good, HH.out.box.of_block (k9E.block H HH.out.mem), HH.out.mem, drop_stay HH.out.hi cb hb z1 (fun hn => absurd hq hn), by have := HH.out.few; rw [List.length_cons] at this; omega⟩, hrch, k9E⟩
      · have hbq : ((t.pg : Int) != (pg : Int)) = true := by simp; omega
        have hqi : ¬ (t.pg : Int) = (pg : Int) := by omega
        have HG := Lib.hid (pz_give p7 (by omega) t.pg (AP.wrote_has.2 hpB))
        have K7 := Lib.hid (And.intro k8E (And.intro bH7 (And.intro (xb1.of_block (k8.block _ (.inr (.inl rfl)))) hrB)))
        clear HW H5 p7 k7 k8 bl kA xb1 bH bH7 hrB k8E
        go_wp2_with fail
        refine HG.out.mono ?_
        rintro e w8 ⟨rfl, p8, k8⟩
        obtain ⟨k8E, bH7, xb7, hrB⟩ := K7.out
        obtain ⟨pb, rb, cb, hb, kb⟩ := HM.out
        obtain ⟨g1, g2, _, _⟩ := ((rb.good HH.out.good).wrote t.pg z).give (AP.wrote_has.2 hpB)
        have hpr : root ≠ t.pg := fun e => (HH.out.hi.rp_has (HH.out.hi.each t (List.mem_cons_self ..)).1).2 e.symm
        have hrG := (g2 root).2 ⟨AP.wrote_has.2 hrB, hpr⟩
        have bH8 := bH7.of_block (k8.block _ (.inl (.inl HH.out.mem)))
        have e8h : w8.cell? ⟨W.heap.size, 0, none⟩ = some (.pointer (some ⟨H, 0, none⟩)) := (xb7.of_block (k8.block _ (.inl (.inr (.inl rfl))))).cell 0 _ rfl
        have HS := Lib.hid (setState_any p8 (by omega) bH8 hrG pg X.length)
        have K8 := Lib.hid (k8E.trans (k8.mono (fun j hj => .inl (.inl hj))))
        clear HG K7 p8 k8 k8E bH7 xb7 hrB pb rb cb hb kb g1 g2 hpr hrG bH8
        go_wp2_with fail
        refine HS.out.mono ?_
        rintro e w9 ⟨rfl, p9, k9⟩
        have H9 := Lib.hid (And.intro p9 k9)
        clear HS p9 k9
        go_wp2
        go_ret
        obtain ⟨pb, rb, cb, hb, kb⟩ := HM.out
        obtain ⟨p9, k9⟩ := H9.out
        have hrB := (hb root).2 ⟨HH.out.hi.root_has, fun hm => (HH.out.hi.ch_has (List.mem_cons_self ..) hm).2.1 rfl⟩
        obtain ⟨g1, g2, _, _⟩ := ((rb.good HH.out.good).wrote t.pg z).give (AP.wrote_has.2 hpB)
        have hpr : root ≠ t.pg := fun e => (HH.out.hi.rp_has (HH.out.hi.each t (List.mem_cons_self ..)).1).2 e.symm
        have hrG := (g2 root).2 ⟨AP.wrote_has.2 hrB, hpr⟩
        have hrch := ((rb.wrote hpB z).give (AP.wrote_has.2 hpB)).wrote hrG (rootB (((B.wrote t.pg z).give t.pg).c root) pg X.length)
        have k9E := K8.out.trans (k9.mono (fun j hj => .inl (.inl hj)))
        exact ⟨_, rp.erase t.pg, _, rfl, ⟨(p9.less (fun j hj => .inl (.inl hj))).up (by omega), hrch.good HH.out.good, HH.out.box.of_block (k9E.block H HH.out.mem), HH.out.mem, drop_gone HH.out.hi cb hb (rb.good HH.out.good) hq he, by have := HH.out.few; rw [List.length_cons] at this; omega⟩, hrch, k9E⟩
    · have hl1 : 0 < live (trim ((L t.pg).set t.i [])) := live_pos (LastOk.trim _) he
      generalize live (trim ((L t.pg).set t.i [])) = lv at d7 hl1 bl
      have hbl : ((lv : Int) == 0) = false := by simp; omega
      have hli : ¬ (lv : Int) = 0 := by omega
      have HS := Lib.hid (setState_any p7 (by omega) bH7 (AP.wrote_has.2 hrB) pg X.length)
      have K7 := Lib.hid k8E
      clear HW H5 p7 k7 k8 bl kA xb1 bH bH7 hrB k8E
      go_wp2_with fail
      refine HS.out.mono ?_
      rintro e w9 ⟨rfl, p9, k9⟩
      have H9 := Lib.hid (And.intro p9 k9)
      clear HS p9 k9
      go_wp2
      go_ret
      obtain ⟨pb, rb, cb, hb, kb⟩ := HM.out
      obtain ⟨p9, k9⟩ := H9.out
      have hrB := (hb root).2 ⟨HH.out.hi.root_has, fun hm => (HH.out.hi.ch_has (List.mem_cons_self ..) hm).2.1 rfl⟩
      have hrch := (rb.wrote hpB z).wrote (AP.wrote_has.2 hrB) (rootB ((B.wrote t.pg z).c root) pg X.length)
      have k9E := K7.out.trans (k9.mono (fun j hj => .inl (.inl hj)))
      exact ⟨_, rp, _, rfl, ⟨(p9.less (fun j hj => .inl (.inl hj))).up (by omega), hrch.good HH.out.good, HH.out.box.of_block (k9E.block H HH.out.mem), HH.out.mem, drop_stay HH.out.hi cb hb z1 (fun _ => he), by have := HH.out.few; rw [List.length_cons] at this; omega⟩, hrch, k9E⟩
  · have hrec := rec_long t.s t.ch (by omega)
    have hn0 : nth (recS t.s t.ch) 0 = 1 := by rw [hrec]; rfl
    have hn0' : ((nth (recS t.s t.ch) 0).toNat : Int) = 1 := by rw [hn0]; rfl
    have hl0 : (0 : Int) < (recS t.s t.ch).length := by rw [hrec]; show (0 : Int) < ((9 : Nat) : Int); decide
    have HS := Lib.hid (show 300 < t.s.length by omega)
    clear hrec hs
    go_enter Tryz.func10, Tryz.ntmps10
    go_wp2_with fail
    rw [HWC.out]
    refine HF.out.mono ?_
    rintro e w3 ⟨rfl, p3, k3⟩
    obtain ⟨hz2, k2, x1, x2⟩ := HZ2.out
    have xb1 := x1.of_block (k3.block _ (.inr (.inl rfl)))
    have bH := hz2.box.of_block (k3.block _ hz2.mem)
    have e1 : w3.cell? ⟨W.heap.size, 0, none⟩ = some (.pointer (some ⟨H, 0, none⟩)) := xb1.cell 0 _ rfl
    have hnd : t.ch.Nodup := by
      have h0 := (List.nodup_append.1 (List.nodup_cons.1 hz2.hi.pages).2).2.1
      rw [chs_cons] at h0
      exact (List.nodup_append.1 h0).1
    have HW := Lib.hid (walk_any (drop1_doer (E := fun j => E j ∨ j = W.heap.size ∨ j = W.heap.size + 1) (H := H) (hb := W.heap.size) (P := P) (root := root) (D := D) (s := t.s) hz2.good hnd (.inr (.inl rfl)) hz2.mem) p3 (by omega) bH hz2.mem (HLS.out.1 HS.out) (fun p hp => (hz2.hi.ch_has (List.mem_cons_self ..) hp).1) HS.out hr3
      (show JD A (fun j => E j ∨ j = W.heap.size ∨ j = W.heap.size + 1) P root H W.heap.size t.ch 0 _ A w3 from ⟨fun b => Iff.rfl, AP.Reach.refl A, rfl, fun p => by simp, xb1, bH⟩))
    have K3 := Lib.hid k3
    clear HF p3 k3 hz2 k2 x1 x2 xb1 bH hnd HLS
    go_wp2_with fail
    refine HW.out.mono ?_
    rintro e w4 ⟨rfl, S, B, ⟨hS, r1, r2, r3, r4, r5⟩, p4, k4⟩
    rw [List.take_length] at r3
    have HM := Lib.hid (And.intro (p4.less (T := fun j => E j ∨ j = W.heap.size ∨ j = W.heap.size + 1) (fun b hb => (hS b).2 hb)) (And.intro r1 (And.intro r2 (And.intro r3 (K3.out.trans k4)))))
    clear HW K3 hS r1 r2 r3 r4 r5 p4 k4 HS e1
    obtain ⟨pb, rb, cb, hb, kb⟩ := HM.out
    obtain ⟨hz2, k2, x1, x2⟩ := HZ2.out
    have xb1 := x1.of_block (kb.block _ (.inr (.inl rfl)))
    have bH := hz2.box.of_block (kb.block _ hz2.mem)
    have e1 : w4.cell? ⟨W.heap.size, 0, none⟩ = some (.pointer (some ⟨H, 0, none⟩)) := xb1.cell 0 _ rfl
    have hrb := (hb root).2 ⟨hz2.hi.root_has, fun hm => (hz2.hi.ch_has (List.mem_cons_self ..) hm).2.1 rfl⟩
    obtain ⟨wd1, wd2⟩ := hz2.hi.words hz2.good hz2.few
    have hst := state_any pb (by omega) bH hrb
    rw [cb, wd1, wd2, show ((t :: X).length : Int) = (X.length : Int) + 1 from by rw [List.length_cons]; omega] at hst
    have HST := Lib.hid hst
    clear pb rb cb hb kb hz2 k2 x1 x2 xb1 bH hrb wd1 wd2 hst
    go_wp2_with fail
    refine HST.out.mono ?_
    rintro e w5 ⟨rfl, p5, k5⟩
    obtain ⟨pb, rb, cb, hb, kb⟩ := HM.out
    obtain ⟨hz2, k2, x1, x2⟩ := HZ2.out
    have kb5 := kb.trans k5
    have xb1 := x1.of_block (kb5.block _ (.inr (.inl rfl)))
    have xb2 := x2.of_block (kb5.block _ (.inr (.inr rfl)))
    have bH := hz2.box.of_block (kb5.block _ hz2.mem)
    have a5 : Below w5.heap.size w5 (w5.alloc (.cells #[.int .i64 0] 3)) := (Below.refl _ _).alloc (Nat.le_refl _) _
    have hs5 : (w5.alloc (.cells #[.int .i64 0] 3)).heap.size = w5.heap.size + 1 := by simp
    have x5 := Box.new w5 #[.int .i64 0] 3
    have e5 : (w5.alloc (.cells #[.int .i64 0] 3)).cell? ⟨W.heap.size, 0, none⟩ = some (.pointer (some ⟨H, 0, none⟩)) := (xb1.next a5).cell 0 _ rfl
    have e6 : (w5.alloc (.cells #[.int .i64 0] 3)).cell? ⟨H, 0, none⟩ = some (.pointer (some ⟨P, 0, none⟩)) := (bH.next a5).cell 0 _ rfl
    have e7 : w5.cell? ⟨W.heap.size + 1, 0, none⟩ = some (.int .u64 (n : Int)) := xb2.cell 0 _ rfl
    have p6 := p5.wide a5 (T := fun j => (E j ∨ j = W.heap.size ∨ j = W.heap.size + 1) ∨ j = w5.heap.size) (fun j hj => by
      rcases hj with hj | hj
      · exact .inl hj
      · exact .inr (by omega))
    have hdv := HDV.out
    obtain ⟨hp6, ⟨hi1, hi2⟩, hE0, ht0⟩ := HN.out
    have htr := hz2.hi.each t (List.mem_cons_self ..)
    have hpgA : A.Has t.pg := (hz2.hi.rp_has htr.1).1
    have hpB := (hb t.pg).2 ⟨hpgA, fun hm => (hz2.hi.ch_has (List.mem_cons_self ..) hm).2.2 htr.1⟩
    have hrB : Recs (B.c t.pg) (L t.pg) := by rw [cb]; exact (hz2.hi.recs t.pg htr.1).1
    have hrc : rcd (L t.pg) t.i ≠ [] := by rw [htr.2.1]; exact recOf_ne t
    have hidn := HID.out
    have HW := Lib.hid (with_any (N := 45) (caps := #[.pointer (some ⟨W.heap.size + 1, 0, none⟩), .pointer (some ⟨w5.heap.size, 0, none⟩)]) (F := fun j => E j ∨ j = W.heap.size ∨ j = W.heap.size + 1)
      (R := fun A' k' r w' => ∃ z, Recs z (trim ((L t.pg).set t.i [])) ∧ z.length = 504 ∧ A' = B.wrote t.pg z ∧ k' = k + 2 + (t.s.length + 10) + 2 + 3 ∧ r = 0 ∧ Box w' w5.heap.size #[.int .i64 (live (trim ((L t.pg).set t.i [])) : Nat)])
      (enters Tryz.func45 (by kernel_rfl) (by kernel_rfl)) p6 (by omega) hpB (fun j hj => .inl hj) (fun fb db cap w hpf hkk => by
        have y2 := (xb2.next a5).of_block (hkk.block _ (.inl (.inr (.inr rfl))))
        rw [hidn] at y2
        refine (drop2_any hpf (by omega) hrB hp6 (by omega) hi1 hrc y2 (x5.of_block (hkk.block _ (.inr rfl))) (.inl (.inr (.inr rfl))) (.inr rfl) (by have := kb5.size; have := k2.size; omega)).mono ?_
        rintro e w' ⟨he, ⟨z, z1, z2, q1⟩, q2, q3⟩
        exact ⟨0, _, _, true, he, q1, q3.mono (fun j hj => ⟨.inl hj, by
          have := p5.there j hj
          omega⟩), z, z1, z2, rfl, rfl, rfl, q2⟩))
    have H5 := Lib.hid (And.intro (k2.trans ((kb5.trans (p5.kept a5)).mono (fun j hj => .inl hj))) (And.intro (xb1.next a5) (And.intro (bH.next a5) hpB)))
    clear HST p5 k5 pb rb cb hb kb hz2 k2 x1 x2 kb5 xb1 xb2 bH a5 hs5 x5 p6 hE0 htr hpgA hpB hrB hrc hidn
    go_wp2_with fail
    refine HW.out.mono ?_
    rintro e w7 ⟨r, A', k', w6, rfl, ⟨z, z1, z2, rfl, rfl, rfl, bl⟩, p7, k7, k8⟩
    have d7 : w7.cell? ⟨w5.heap.size, 0, none⟩ = some (.int .i64 (live (trim ((L t.pg).set t.i [])) : Nat)) := (bl.of_block (k7.block _ (.inr rfl))).cell 0 _ rfl
    obtain ⟨kA, xb1, bH, hpB⟩ := H5.out
    have k8E := kA.trans (k8.mono (fun j hj => .inl hj))
    have e7h : w7.cell? ⟨W.heap.size, 0, none⟩ = some (.pointer (some ⟨H, 0, none⟩)) := (xb1.of_block (k8.block _ (.inr (.inl rfl)))).cell 0 _ rfl
    have bH7 := bH.of_block (k8.block _ (.inl HH.out.mem))
    have e7p : w7.cell? ⟨H, 0, none⟩ = some (.pointer (some ⟨P, 0, none⟩)) := bH7.cell 0 _ rfl
    have hrB := (HM.out.2.2.2.1 root).2 ⟨HH.out.hi.root_has, fun hm => (HH.out.hi.ch_has (List.mem_cons_self ..) hm).2.1 rfl⟩
    by_cases he : trim ((L t.pg).set t.i []) = []
    · have hl0 : live (trim ((L t.pg).set t.i [])) = 0 := by rw [he]; rfl
      rw [hl0] at d7
      replace d7 : w7.cell? ⟨w5.heap.size, 0, none⟩ = some (.int .i64 0) := d7
      by_cases hq : t.pg = pg
      · have hbq : ((t.pg : Int) != (pg : Int)) = false := by rw [hq]; simp
        have hqi : (t.pg : Int) = (pg : Int) := by rw [hq]
        have HS := Lib.hid (setState_any p7 (by omega) bH7 (AP.wrote_has.2 hrB) pg X.length)
        have K7 := Lib.hid k8E
        clear HW H5 p7 k7 k8 bl kA xb1 bH bH7 hrB k8E
        go_wp2_with fail
        refine HS.out.mono ?_
        rintro e w9 ⟨rfl, p9, k9⟩
        have H9 := Lib.hid (And.intro p9 k9)
        clear HS p9 k9
        go_wp2
        go_ret
        obtain ⟨pb, rb, cb, hb, kb⟩ := HM.out
        obtain ⟨p9, k9⟩ := H9.out
        have hrB := (hb root).2 ⟨HH.out.hi.root_has, fun hm => (HH.out.hi.ch_has (List.mem_cons_self ..) hm).2.1 rfl⟩
        have hrch := (rb.wrote hpB z).wrote (AP.wrote_has.2 hrB) (rootB ((B.wrote t.pg z).c root) pg X.length)
        have k9E := K7.out.trans (k9.mono (fun j hj => .inl (.inl hj)))
        exact ⟨_, rp, _, rfl, ⟨(p9.less (fun j hj => .inl (.inl hj))).up (by omega), hrch.good HH.out.good, HH.out.box.of_block (k9E.block H HH.out.mem), HH.out.mem, drop_stay HH.out.hi cb hb z1 (fun hn => absurd hq hn), by have := HH.out.few; rw [List.length_cons] at this; omega⟩, hrch, k9E⟩
      · have hbq : ((t.pg : Int) != (pg : Int)) = true := by simp; omega
        have hqi : ¬ (t.pg : Int) = (pg : Int) := by omega
        have HG := Lib.hid (pz_give p7 (by omega) t.pg (AP.wrote_has.2 hpB))
        have K7 := Lib.hid (And.intro k8E (And.intro bH7 (And.intro (xb1.of_block (k8.block _ (.inr (.inl rfl)))) hrB)))
        clear HW H5 p7 k7 k8 bl kA xb1 bH bH7 hrB k8E
        go_wp2_with fail
        refine HG.out.mono ?_
        rintro e w8 ⟨rfl, p8, k8⟩
        obtain ⟨k8E, bH7, xb7, hrB⟩ := K7.out
        obtain ⟨pb, rb, cb, hb, kb⟩ := HM.out
        obtain ⟨g1, g2, _, _⟩ := ((rb.good HH.out.good).wrote t.pg z).give (AP.wrote_has.2 hpB)
        have hpr : root ≠ t.pg := fun e => (HH.out.hi.rp_has (HH.out.hi.each t (List.mem_cons_self ..)).1).2 e.symm
        have hrG := (g2 root).2 ⟨AP.wrote_has.2 hrB, hpr⟩
        have bH8 := bH7.of_block (k8.block _ (.inl (.inl HH.out.mem)))
        have e8h : w8.cell? ⟨W.heap.size, 0, none⟩ = some (.pointer (some ⟨H, 0, none⟩)) := (xb7.of_block (k8.block _ (.inl (.inr (.inl rfl))))).cell 0 _ rfl
        have HS := Lib.hid (setState_any p8 (by omega) bH8 hrG pg X.length)
        have K8 := Lib.hid (k8E.trans (k8.mono (fun j hj => .inl (.inl hj))))
        clear HG K7 p8 k8 k8E bH7 xb7 hrB pb rb cb hb kb g1 g2 hpr hrG bH8
        go_wp2_with fail
        refine HS.out.mono ?_
        rintro e w9 ⟨rfl, p9, k9⟩
        have H9 := Lib.hid (And.intro p9 k9)
        clear HS p9 k9
        go_wp2
        go_ret
        obtain ⟨pb, rb, cb, hb, kb⟩ := HM.out
        obtain ⟨p9, k9⟩ := H9.out
        have hrB := (hb root).2 ⟨HH.out.hi.root_has, fun hm => (HH.out.hi.ch_has (List.mem_cons_self ..) hm).2.1 rfl⟩
        obtain ⟨g1, g2, _, _⟩ := ((rb.good HH.out.good).wrote t.pg z).give (AP.wrote_has.2 hpB)
        have hpr : root ≠ t.pg := fun e => (HH.out.hi.rp_has (HH.out.hi.each t (List.mem_cons_self ..)).1).2 e.symm
        have hrG := (g2 root).2 ⟨AP.wrote_has.2 hrB, hpr⟩
        have hrch := ((rb.wrote hpB z).give (AP.wrote_has.2 hpB)).wrote hrG (rootB (((B.wrote t.pg z).give t.pg).c root) pg X.length)
        have k9E := K8.out.trans (k9.mono (fun j hj => .inl (.inl hj)))
        exact ⟨_, rp.erase t.pg, _, rfl, ⟨(p9.less (fun j hj => .inl (.inl hj))).up (by omega), hrch.good HH.out.good, HH.out.box.of_block (k9E.block H HH.out.mem), HH.out.mem, drop_gone HH.out.hi cb hb (rb.good HH.out.good) hq he, by have := HH.out.few; rw [List.length_cons] at this; omega⟩, hrch, k9E⟩
    · have hl1 : 0 < live (trim ((L t.pg).set t.i [])) := live_pos (LastOk.trim _) he
      generalize live (trim ((L t.pg).set t.i [])) = lv at d7 hl1 bl
      have hbl : ((lv : Int) == 0) = false := by simp; omega
      have hli : ¬ (lv : Int) = 0 := by omega
      have HS := Lib.hid (setState_any p7 (by omega) bH7 (AP.wrote_has.2 hrB) pg X.length)
      have K7 := Lib.hid k8E
      clear HW H5 p7 k7 k8 bl kA xb1 bH bH7 hrB k8E
      go_wp2_with fail
      refine HS.out.mono ?_
      rintro e w9 ⟨rfl, p9, k9⟩
      have H9 := Lib.hid (And.intro p9 k9)
      clear HS p9 k9
      go_wp2
      go_ret
      obtain ⟨pb, rb, cb, hb, kb⟩ := HM.out
      obtain ⟨p9, k9⟩ := H9.out
      have hrB := (hb root).2 ⟨HH.out.hi.root_has, fun hm => (HH.out.hi.ch_has (List.mem_cons_self ..) hm).2.1 rfl⟩
      have hrch := (rb.wrote hpB z).wrote (AP.wrote_has.2 hrB) (rootB ((B.wrote t.pg z).c root) pg X.length)
      have k9E := K7.out.trans (k9.mono (fun j hj => .inl (.inl hj)))
      exact ⟨_, rp, _, rfl, ⟨(p9.less (fun j hj => .inl (.inl hj))).up (by omega), hrch.good HH.out.good, HH.out.box.of_block (k9E.block H HH.out.mem), HH.out.mem, drop_stay HH.out.hi cb hb z1 (fun _ => he), by have := HH.out.few; rw [List.length_cons] at this; omega⟩, hrch, k9E⟩
end
end Go.Proofs.YtjfkdfffolkblaaGreatDoor
