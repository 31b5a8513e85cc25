/-
  The tree: Clear.
  The tree: Walk, with what Shows does at each key.
-/
import Derived.Test.YtokgidhokcoadaaGreatDoorTsQ
import Derived.Test.YtokgidhokcoadaaGreatDoorTsU
namespace Go.Proofs.YtokgidhokcoadaaGreatDoor
open Go.RowKit
open UK (str BytesAt nth Only Row Box)
section
variable {E : Nat → Prop} {W W' : World} {P D T k rt : Nat} {A : AP} {l : List KV} {ps : List Nat}
set_option maxHeartbeats 4000000 in
set_option maxRecDepth 100000 in
theorem empty_node {pg deep : Nat} {x : Nd} (J : Nat → AP → Nat → Prop) (h : TreeAt E W P D T rt A k) (hk : k + 2 < 900000000) (hp : A.Has pg) (hy : ndAt A pg = some x) (hd : deep ≤ 20) (h0 : J 0 A (k + 2)) (hJ : ∀ j B kk, J j B kk → kk < 899999990)
    (hstep : ∀ (j c : Nat) (B : AP) (kk : Nat) (E1 : Nat → Prop) (w1 : World), x.kids[j]? = some c → J j B kk → TreeAt E1 w1 P D T rt B kk → Calls Tryz.prog 150 #[.pointer (some ⟨T, 0, none⟩), .int .i64 c, .int .i64 ((deep : Int) + 1)] w1 fun e w' => e = .returned (.int .i64 0) ∧ ∃ B' kk', kk' < 899999990 ∧ TreeAt E1 w' P D T rt B' kk' ∧ Kept E1 w1 w' ∧ B'.Has c ∧ J (j + 1) (B'.give c) (kk' + 1)) :
    Calls Tryz.prog 150 #[.pointer (some ⟨T, 0, none⟩), .int .i64 pg, .int .i64 deep] W fun e w' => e = .returned (.int .i64 0) ∧ ∃ B kk, J x.kids.length B kk ∧ TreeAt E w' P D T rt B kk ∧ Kept E W w' := by
  have hfit := dec_fits hy
  have hkl : x.kids.length ≤ 40 := by
    cases hl : x.leaf with
    | true => have := (hfit.leaf hl).2.2; rw [this]; simp
    | false => exact (hfit.inner hl).2.2.1
  have HL := Lib.hid (load_any h.pz hk h.box hp hy)
  have HS := Lib.hid (And.intro hstep (And.intro h0 hJ))
  have HH := Lib.hid h
  have hdn : ¬ (20 : Int) < (deep : Int) := by omega
  have hdw : IntKind.i64.wrap ((deep : Int) + 1) = (deep : Int) + 1 := by rw [IntKind.wrap_i64]; omega
  clear h hp hy hstep h0 hJ hfit hk
  go_enter Tryz.func150, Tryz.ntmps150
  go_wp2_with fail
  refine HL.out.mono ?_
  rintro e w1 ⟨N, M, nb, ka, va, aa, kc, vc, ac, rfl, hN, hM, ⟨hn1, hnM, hgM⟩, p1, k1⟩
  have h := HH.out
  have b3 : w1.cell? ⟨nb, 3, none⟩ = some (.slice aa x.kids.length ac) := hn1.box.cell 3 _ rfl
  have ht1 : TreeAt (fun j => E j ∨ N ≤ j ∧ j < M) w1 P D T rt A (k + 2) := ⟨p1, h.box.of_block (k1.block T h.mem), .inl h.mem⟩
  have HN := Lib.hid (And.intro hn1 (And.intro hgM k1))
  clear HL hnM p1 k1 hN hM hn1 hgM
  go_wp2_with fail
  go_loopw [33] (fun iv wr => ∃ (j : Nat) (B : AP) (kk : Nat), iv = .int .i64 j ∧ j ≤ x.kids.length ∧ J j B kk ∧ TreeAt (fun j => E j ∨ N ≤ j ∧ j < M) wr P D T rt B kk ∧ Kept (fun j => E j ∨ N ≤ j ∧ j < M) w1 wr) (fun iv _ => 41 - (intOf iv).toNat)
  case atStart => exact ⟨0, A, k + 2, rfl, Nat.zero_le _, HS.out.2.1, ht1, Kept.refl _ _⟩
  case round =>
    clear ht1 b3 h
    obtain ⟨j, B, kk, rfl, hj, hJj, htr, hkr⟩ := hrel
    have hjw : IntKind.i64.wrap ((j : Int) + 1) = (j : Int) + 1 := by rw [IntKind.wrap_i64]; omega
    have hjw2 : wrap64 ((j : Int) + 1) = (j : Int) + 1 := by unfold wrap64; omega
    by_cases hlt : j < x.kids.length
    · obtain ⟨c, hc⟩ : ∃ c, x.kids[j]? = some c := ⟨_, List.getElem?_eq_getElem hlt⟩
      obtain ⟨hn1, hgM, k1⟩ := HN.out
      have ha := hn1.a.win (S := fun g => N ≤ g ∧ g < M) (fun g hg => ⟨(hn1.new g (.inr (.inr hg))).1, hgM g (.inr (.inr hg))⟩)
      obtain ⟨ao, c', q, hcl, hr⟩ := ha
      obtain ⟨g, o, rfl, hg, cx⟩ := hr _ _ (kids_is _ _ _ hc)
      injection q with q5 q6 q7
      subst q5
      have cy : wr.cell? ⟨g, o + j, none⟩ = some (.int .i64 (c : Int)) := (World.cell?_of_block (a := ⟨g, o + j, none⟩) (hkr.block g (.inr hg))).trans cx
      have HC := Lib.hid (HS.out.1 j c B kk _ wr hc hJj htr)
      have hlti : (j : Int) < (x.kids.length : Int) := Int.ofNat_lt.2 hlt
      have HK := Lib.hid hkr
      clear hn1 hgM k1 hr cx hcl hg hc hJj htr hkr q6 q7 hlt
      go_wp2_with fail
      refine HC.out.mono ?_
      rintro e w2 ⟨rfl, B', kk', hkk', ht2, hk2, hBc, hJ2⟩
      have c0 : w2.cell? ⟨T, 0, none⟩ = some (.pointer (some ⟨P, 0, none⟩)) := ht2.box.cell 0 _ rfl
      have HG := Lib.hid (pz_give ht2.pz (by omega) c hBc)
      have H2 := Lib.hid (And.intro ht2 (And.intro hk2 hJ2))
      clear HC ht2 hk2 hBc hJ2 cy
      go_wp2_with fail
      refine HG.out.mono ?_
      rintro e w3 ⟨rfl, p3, k3⟩
      obtain ⟨ht2, hk2, hJ2⟩ := H2.out
      have HF := Lib.hid (show J (j + 1) (B'.give c) (kk' + 1) ∧ TreeAt (fun j => E j ∨ N ≤ j ∧ j < M) w3 P D T rt (B'.give c) (kk' + 1) ∧ Kept (fun j => E j ∨ N ≤ j ∧ j < M) w1 w3 from
        ⟨hJ2, ⟨p3, ht2.box.of_block (k3.block T ht2.mem), ht2.mem⟩, (HK.out.trans hk2).trans k3⟩)
      clear HG H2 HK p3 k3 ht2 hk2 hJ2 c0
      go_wp2
      go_roundw
      case rel => exact ⟨j + 1, B'.give c, kk' + 1, by go_num, by omega, HF.out⟩
      case measure => simp [intOf]; omega
    · obtain rfl : j = x.kids.length := by omega
      have hF : ∃ B kk, J x.kids.length B kk ∧ TreeAt E wr P D T rt B kk ∧ Kept E W wr :=
        ⟨B, kk, hJj, ⟨htr.pz.less (fun _ hj => .inl hj), htr.box, HH.out.mem⟩, HN.out.2.2.trans (hkr.mono (fun _ hj => .inl hj))⟩
      have HF := Lib.hid hF
      clear hF hJj htr hkr hlt HS HN
      go_wp2
      go_ret
      exact ⟨rfl, HF.out⟩
def EmptyJ (A : AP) (subs : List Sb) (k j : Nat) (B : AP) (kk : Nat) : Prop := ∃ gone, ChgD A B [] gone ∧ gone.Nodup ∧ (∀ p, p ∈ gone ↔ p ∈ flatP (subs.take j)) ∧ kk ≤ k + 2 + 6 * (flatP (subs.take j)).length
def EmptyR (E : Nat → Prop) (W w' : World) (P D T rt : Nat) (A : AP) (k : Nat) (t : Sb) (e : Ending) : Prop :=
  ∃ (B : AP) (gone : List Nat) (kk : Nat), e = .returned (.int .i64 0) ∧ ChgD A B [] gone ∧ gone.Nodup ∧ (∀ p, p ∈ gone ↔ p ∈ t.ps ∧ p ≠ t.pg) ∧ TreeAt E w' P D T rt B kk ∧ kk + 3 ≤ k + 6 * t.ps.length ∧ Kept E W w'
theorem take_flatP {subs : List Sb} {j : Nat} {u : Sb} (h : subs[j]? = some u) : flatP (subs.take (j + 1)) = flatP (subs.take j) ++ u.ps := by
  rw [List.take_add_one, h]
  simp [flatP]
theorem empty_any {P D T rt : Nat} : ∀ (d : Nat) {E : Nat → Prop} {W : World} {A : AP} {k : Nat} (t : Sb) (deep : Nat), TreeAt E W P D T rt A k → k + 6 * t.ps.length + 100 < 899999990 → At A d t → t.ps.Nodup → A.Good → (∀ p, A.Has p → (A.c p).length = 504) → deep + d ≤ 20 →
    Calls Tryz.prog 150 #[.pointer (some ⟨T, 0, none⟩), .int .i64 t.pg, .int .i64 deep] W fun e w' => EmptyR E W w' P D T rt A k t e
  | 0, E, W, A, k, t, deep, h, hk, hA, hnd, hg, hc, hd => by
    obtain ⟨ks, vs, h1, h2, h3, h4, h5⟩ := hA.tr
    refine (empty_node (fun _ B kk => B = A ∧ kk = k + 2) h (by omega) (hA.has _ hA.tr.mem) h1 (by omega) ⟨rfl, rfl⟩ (fun _ _ _ hj => by rw [hj.2]; omega) (fun j c B kk E1 w1 hcc => by simp at hcc)).mono ?_
    rintro e w' ⟨rfl, B, kk, ⟨rfl, rfl⟩, ht, hkp⟩
    exact ⟨B, [], k + 2, rfl, ChgD.refl hc [], List.nodup_nil, fun p => by rw [h5]; simp, ht, by rw [h5]; simp only [List.length_singleton]; omega, hkp⟩
  | d + 1, E, W, A, k, t, deep, h, hk, hA, hnd, hg, hc, hd => by
    obtain ⟨keys, subs, h1, h2, h3, h4⟩ := hA.tr
    have hnd' := hnd
    rw [h4] at hnd'
    have hnf := (List.nodup_cons.1 hnd').2
    have hpf := (List.nodup_cons.1 hnd').1
    have hlen : t.ps.length = 1 + (flatP subs).length := by rw [h4, List.length_cons]; omega
    have htl : ∀ j, (flatP (subs.take j)).length ≤ (flatP subs).length := fun j => by
      have : flatP subs = flatP (subs.take j) ++ flatP (subs.drop j) := by rw [← flatP_app, List.take_append_drop]
      rw [this, List.length_append]
      omega
    refine (empty_node (EmptyJ A subs k) h (by omega) (hA.has _ hA.tr.mem) h1 (by omega) ⟨[], ChgD.refl hc [], List.nodup_nil, fun p => by simp [flatP], by omega⟩ (fun j B kk ⟨gone, _, _, _, hkk⟩ => by have := htl j; omega) (fun j c B kk E1 w1 hcc hJ ht1 => ?_)).mono ?_
    · obtain ⟨gone, hch, hgn, hgm, hkk⟩ := hJ
      obtain ⟨u, hu, rfl⟩ := kids_at hcc
      have hum : u ∈ subs := List.mem_of_getElem? hu
      have huA := h2.all u hum
      have hcut := flatP_at hu
      have hnf2 := hnf
      rw [hcut] at hnf2
      have hdis := (List.nodup_append.1 hnf2).2.2
      have hun : u.ps.Nodup := (List.nodup_append.1 (List.nodup_append.1 hnf2).2.1).1
      have hup : ∀ p ∈ u.ps, A.Has p := fun p hp => hA.has p (by rw [h4]; exact List.mem_cons_of_mem _ (mem_flatP hum hp))
      have hug : ∀ p ∈ u.ps, p ∉ gone := fun p hp hpg => hdis p ((hgm p).1 hpg) p (by simp [hp]) rfl
      have hB : At B d u := by
        have hh : ∀ p ∈ u.ps, B.Has p := fun p hp => (hch.has p).2 ⟨hup p hp, hug p hp⟩
        exact ⟨(Tr.chgD huA.1 hch hh (fun p _ => by simp)).1, hh⟩
      have htk := htl (j + 1)
      rw [take_flatP hu, List.length_append] at htk
      have hgB := hch.good hg
      have hrec := empty_any d (E := E1) (W := w1) u (deep + 1) ht1 (by omega) hB hun hgB hch.clen (by omega)
      refine hrec.mono ?_
      rintro e w' ⟨B', gone2, kk', rfl, hch2, hgn2, hgm2, ht2, hkk2, hkp2⟩
      have hBu : B'.Has u.pg := (hch2.has _).2 ⟨hB.has _ hB.tr.mem, fun hm => ((hgm2 _).1 hm).2 rfl⟩
      have hch3 := ChgD.give (hch2.good hgB) hBu hch2.clen
      have hall := (hch.trans hch2 (fun p hp => by cases hp)).trans hch3 (fun p hp => by cases hp)
      refine ⟨rfl, B', kk', by omega, ht2, hkp2, hBu, gone ++ gone2 ++ [u.pg], hall, ?_, fun p => ?_, ?_⟩
      · rw [List.nodup_append, List.nodup_append]
        refine ⟨⟨hgn, hgn2, fun a ha b hb e => ?_⟩, List.pairwise_singleton _ _, fun a ha b hb e => ?_⟩
        · exact hug b ((hgm2 b).1 hb).1 (e ▸ ha)
        · rw [List.mem_singleton.1 hb] at e
          rcases List.mem_append.1 ha with ha | ha
          · exact hug u.pg hB.tr.mem (e ▸ ha)
          · exact ((hgm2 a).1 ha).2 e
      · rw [take_flatP hu, List.mem_append, List.mem_append, List.mem_append, hgm, hgm2, List.mem_singleton]
        constructor
        · rintro ((h | h) | h)
          · exact .inl h
          · exact .inr h.1
          · exact .inr (h ▸ hB.tr.mem)
        · rintro (h | h)
          · exact .inl (.inl h)
          · by_cases he : p = u.pg
            · exact .inr he
            · exact .inl (.inr ⟨h, he⟩)
      · rw [take_flatP hu, List.length_append]
        omega
    · rintro e w' ⟨rfl, B, kk, ⟨gone, hch, hgn, hgm, hkk⟩, ht, hkp⟩
      have hl2 : (subs.map Sb.pg).length = subs.length := List.length_map _
      dsimp only at hgm hkk
      rw [hl2, List.take_length] at hgm hkk
      refine ⟨B, gone, kk, rfl, hch, hgn, fun p => ?_, ht, by omega, hkp⟩
      rw [hgm, h4, List.mem_cons]
      constructor
      · exact fun hp => ⟨.inr hp, fun e => hpf (e ▸ hp)⟩
      · rintro ⟨h | h, hne⟩
        · exact absurd h hne
        · exact h
theorem clear_store {w1 : World} {kk : Nat} {B : AP} (h : TreeAt E w1 P D T rt B kk) (hkp : Kept E W w1) (hk : kk + 8 < 900000000) (hrt : B.Has rt) :
    w1.cell? ⟨T, 1, none⟩ = some (.int .i64 rt) ∧ Calls Tryz.prog 143 #[.pointer (some ⟨T, 0, none⟩), .int .i64 rt, .pointer (some ⟨w1.heap.size, 0, none⟩)] (w1.alloc (.cells #[.bool true, .slice none 0 0, .slice none 0 0, .slice none 0 0] 249)) fun e w' => e = .returned (.int .i64 0) ∧ TreeAt E w' P D T rt (B.wrote rt (encN (B.c rt) ⟨true, [], [], []⟩)) (kk + 3) ∧ Kept E W w' := by
  have hE := h.pz.there
  refine ⟨h.box.cell 1 _ rfl, ?_⟩
  have b1 := Box.new w1 #[.bool true, .slice none 0 0, .slice none 0 0, .slice none 0 0] 249
  have z1 : (w1.alloc (.cells #[.bool true, .slice none 0 0, .slice none 0 0, .slice none 0 0] 249)).heap.size = w1.heap.size + 1 := by simp
  have l1 : Below w1.heap.size w1 (w1.alloc (.cells #[.bool true, .slice none 0 0, .slice none 0 0, .slice none 0 0] 249)) := (Below.refl _ _).alloc (Nat.le_refl _) _
  generalize w1.alloc (.cells #[.bool true, .slice none 0 0, .slice none 0 0, .slice none 0 0] 249) = w2 at b1 z1 l1 ⊢
  have p2 : PZ (fun j => E j ∨ (w1.heap.size ≤ j ∧ j < w2.heap.size)) w2 P D B kk := h.pz.wide l1 (fun j hj => hj)
  have hr : NodeR (fun j => E j ∨ (w1.heap.size ≤ j ∧ j < w2.heap.size)) w2 w1.heap.size ⟨true, [], [], []⟩ :=
    ⟨_, _, _, b1, .inr ⟨Nat.le_refl _, by omega⟩, ⟨none, 0, rfl, Nat.le_refl _, fun j u hj => (by cases hj)⟩, ⟨none, 0, rfl, Nat.le_refl _, fun j u hj => (by cases hj)⟩, ⟨none, 0, rfl, Nat.le_refl _, fun j u hj => (by cases hj)⟩⟩
  have hfit : Fits ⟨true, [], [], []⟩ := ⟨fun _ => ⟨Nat.zero_le _, rfl, rfl⟩, (fun h => by cases h)⟩
  have k12 : Kept E w1 w2 := Kept.of_below l1 hE
  have hb2 := h.box.of_block (k12.block T h.mem)
  refine (store_any p2 (by omega) hb2 hrt hr hfit).mono ?_
  rintro e w3 ⟨rfl, p3, k3⟩
  exact ⟨rfl, ⟨p3.less (fun _ hj => .inl hj), hb2.of_block (k3.block T (.inl h.mem)), h.mem⟩, (hkp.trans k12).trans (k3.mono (fun _ hj => .inl hj))⟩
set_option maxRecDepth 100000 in
theorem tree_clear_any (h : TreeAt E W P D T rt A k) (hk : k + 400000 < 899999990) (ht : TI A rt l ps) (hg : A.Good) (hc : ∀ p, A.Has p → (A.c p).length = 504) :
    Calls Tryz.prog 65 #[.pointer (some ⟨T, 0, none⟩)] W fun e w' => e = .returned (.int .i64 0) ∧ ∃ B, GoneOk A B rt [] ps ∧ TreeAt E w' P D T rt B (k + 400000) ∧ Kept E W w' := by
  obtain ⟨d, s, hT, rfl, rfl, rfl⟩ := ht.ex
  have hdep := tr_depth hT ht.nod ht.has hg
  have hpl := pages_le ht.nod ht.has hg
  have t1 : W.cell? ⟨T, 1, none⟩ = some (.int .i64 s.pg) := h.box.cell 1 _ rfl
  have HE := Lib.hid (empty_any d s 0 h (by omega) ⟨hT, ht.has⟩ ht.nod hg hc (by omega))
  have HH := Lib.hid (And.intro hT (And.intro ht hc))
  clear h hT ht hg hc hdep
  go_enter Tryz.func65, Tryz.ntmps65
  go_wp2_with fail
  refine HE.out.mono ?_
  rintro e w1 ⟨B, gone, kk, rfl, hch, hgn, hgm, hta, hkk, hkp⟩
  obtain ⟨hT, ht, hc⟩ := HH.out
  have hrt : B.Has s.pg := (hch.has _).2 ⟨ht.has _ hT.mem, fun hm => ((hgm _).1 hm).2 rfl⟩
  obtain ⟨t11, hS⟩ := clear_store (W := W) hta hkp (by omega) hrt
  have HS := Lib.hid hS
  have hlr := hch.clen _ hrt
  have hfit : Fits ⟨true, [], [], []⟩ := ⟨fun _ => ⟨Nat.zero_le _, rfl, rfl⟩, (fun h => by cases h)⟩
  have c2 : ChgD B (B.wrote s.pg (encN (B.c s.pg) ⟨true, [], [], []⟩)) [s.pg] [] := ChgD.wrote hrt hch.clen (by rw [enc_length _ _ (by omega) hfit, hlr])
  have hall : ChgD A (B.wrote s.pg (encN (B.c s.pg) ⟨true, [], [], []⟩)) s.ps gone := by
    have := (hch.wider (ps2 := s.ps) (fun p hp => by cases hp)).trans c2 (fun p hp => by rw [List.mem_singleton.1 hp]; exact hT.mem)
    rw [List.append_nil] at this
    exact this
  have hnd : ndAt (B.wrote s.pg (encN (B.c s.pg) ⟨true, [], [], []⟩)) s.pg = some ⟨true, [], [], []⟩ := by rw [ndAt_wrote hlr hfit, if_pos rfl]
  have hG : GoneOk A (B.wrote s.pg (encN (B.c s.pg) ⟨true, [], [], []⟩)) s.pg [] s.ps :=
    ⟨gone, [s.pg], hall, ⟨⟨0, ⟨s.pg, [], [s.pg]⟩, ⟨[], [], hnd, rfl, fun a b x y _ hx => (by simp at hx), rfl, rfl⟩, rfl, rfl, rfl⟩, List.pairwise_singleton _ _, fun p hp => by rw [List.mem_singleton.1 hp]; exact AP.wrote_has.2 hrt⟩, fun p => by
      rw [List.mem_singleton, hgm]
      constructor
      · rintro rfl; exact ⟨hT.mem, fun h => h.2 rfl⟩
      · rintro ⟨h1, h2⟩
        rcases Decidable.em (p = s.pg) with h3 | h3
        · exact h3
        · exact absurd ⟨h1, h3⟩ h2, fun p hp => ((hgm p).1 hp).1, hgn⟩
  have HG := Lib.hid hG
  have hkf : kk + 3 ≤ k + 400000 := by omega
  clear HE HH hch hgn hgm hta hkk hkp hT ht hc hrt hS hlr hfit c2 hall hnd hG t1
  go_wp2_with fail
  refine HS.out.mono ?_
  rintro e w2 ⟨rfl, hta, hkp⟩
  have HF := Lib.hid (And.intro hta hkp)
  clear HS hta hkp
  go_wp2
  go_ret
  exact ⟨rfl, _, HG.out, ⟨HF.out.1.pz.up hkf, HF.out.1.box, HF.out.1.mem⟩, HF.out.2⟩
end
end Go.Proofs.YtokgidhokcoadaaGreatDoor
namespace Go.Proofs.YtokgidhokcoadaaGreatDoor
open Go.RowKit
open UK (str BytesAt nth Only Row Box)
abbrev rcells (P T : Nat) (ao : Option Addr) (n c : Nat) (bo : Option Addr) (m d : Nat) (op : Bool) : Array Value := #[.pointer (some ⟨P, 0, none⟩), .pointer (some ⟨T, 0, none⟩), .slice ao n c, .slice bo m d, .bool op]
section
variable {E : Nat → Prop} {W W' : World} {P D T k rt ob nbk rb c d m : Nat} {A : AP} {l : List KV} {ps : List Nat} {ao bo : Option Addr} {op : Bool}
set_option maxHeartbeats 1000000 in
set_option maxRecDepth 100000 in
theorem shows_do {i : Nat} {x : KV} (h1 : Box W ob #[.bool true]) (h2 : Box W nbk #[.int .i64 i]) (h3 : Box W rb (rcells P T ao l.length c bo m d op)) (hp : PrX W ao c l) (hx : l[i]? = some x) (hl : l.length ≤ 100000) (hne : ob ≠ nbk) :
    Calls Tryz.prog 67 #[.int .u64 x.1.toNat, .int .u64 x.2.toNat, .pointer (some ⟨ob, 0, none⟩), .pointer (some ⟨nbk, 0, none⟩), .pointer (some ⟨rb, 0, none⟩)] W fun e w' => e = .returned (.bool true) ∧ w' = (W.setCell ⟨ob, 0, none⟩ (.bool true)).setCell ⟨nbk, 0, none⟩ (.int .i64 ((i : Int) + 1)) := by
  obtain ⟨g, rfl, d0, d1⟩ := hp.at_ hx
  have hi : (i : Int) < (l.length : Int) := Int.ofNat_lt.2 (List.getElem?_eq_some_iff.1 hx).1
  have c1 : W.cell? ⟨ob, 0, none⟩ = some (.bool true) := h1.cell 0 _ rfl
  have c2 : W.cell? ⟨nbk, 0, none⟩ = some (.int .i64 i) := h2.cell 0 _ rfl
  have c3 : W.cell? ⟨rb, 2, none⟩ = some (.slice (some ⟨g, 0, none⟩) l.length c) := h3.cell 2 _ rfl
  have f1 := h1.free 0
  have f2 := h2.free 0
  have hw : IntKind.i64.wrap ((i : Int) + 1) = (i : Int) + 1 := by rw [IntKind.wrap_i64]; omega
  have hw2 : wrap64 ((i : Int) + 1) = (i : Int) + 1 := by unfold wrap64; omega
  clear h1 h2 h3 hp hx hl
  generalize x.1.toNat = x1 at *
  generalize x.2.toNat = x2 at *
  go_enter Tryz.func67, Tryz.ntmps67
  go_wp2_with fail
  go_ret
  exact ⟨rfl, rfl⟩
theorem nxt_at {l : List KV} {κ : UInt64} {i : Nat} (h1 : ∀ y ∈ l.take i, y.1.toNat < κ.toNat) (h2 : ∀ y ∈ l.drop i, κ.toNat ≤ y.1.toNat) : nxtL l κ = l[i]? := by
  have e : l = l.take i ++ l.drop i := (List.take_append_drop i l).symm
  have e2 : l[i]? = (l.drop i)[0]? := by rw [List.getElem?_drop, Nat.add_zero]
  rw [e2]
  conv => lhs; rw [e]
  rw [nxtL_below h1]
  cases hd : l.drop i with
  | nil => rfl
  | cons a r =>
    unfold nxtL
    rw [List.find?_cons_of_pos (by simpa using h2 a (by rw [hd]; simp))]
    rfl
theorem rise_split {l : List KV} (hr : Rise l) {i : Nat} {x : KV} (h : l[i]? = some x) : (∀ y ∈ l.take (i + 1), y.1.toNat ≤ x.1.toNat) ∧ (∀ y ∈ l.drop (i + 1), x.1.toNat < y.1.toNat) := by
  obtain ⟨hi, hx⟩ := List.getElem?_eq_some_iff.1 h
  refine ⟨fun y hy => ?_, fun y hy => ?_⟩
  · obtain ⟨j, hj, e⟩ := List.getElem_of_mem hy
    rw [List.length_take] at hj
    rw [List.getElem_take] at e
    rcases Nat.lt_or_ge j i with h1 | h1
    · have := List.pairwise_iff_getElem.1 hr j i (by omega) hi h1
      rw [e, hx] at this
      omega
    · obtain rfl : j = i := by omega
      rw [← e, hx]
      exact Nat.le_refl _
  · obtain ⟨j, hj, e⟩ := List.getElem_of_mem hy
    rw [List.length_drop] at hj
    rw [List.getElem_drop] at e
    have := List.pairwise_iff_getElem.1 hr i (i + 1 + j) hi (by omega) (by omega)
    rw [e, hx] at this
    exact this
structure WalkI (l : List KV) (i : Nat) (κ : UInt64) : Prop where
  le : i ≤ l.length
  lo : ∀ y ∈ l.take i, y.1.toNat < κ.toNat
  hi : ∀ y ∈ l.drop i, κ.toNat ≤ y.1.toNat
theorem WalkI.step {l : List KV} (hr : Rise l) {i : Nat} {κ : UInt64} {x : KV} (h : WalkI l i κ) (hx : l[i]? = some x) (hm : x.1.toNat ≠ 18446744073709551615) : WalkI l (i + 1) (x.1 + 1) ∧ (x.1 + 1).toNat = x.1.toNat + 1 ∧ κ.toNat ≤ x.1.toNat := by
  have hlt := x.1.toNat_lt
  have e : (x.1 + 1).toNat = x.1.toNat + 1 := by
    rw [UInt64.toNat_add, show (1 : UInt64).toNat = 1 from rfl]
    omega
  obtain ⟨h1, h2⟩ := rise_split hr hx
  have hi := (List.getElem?_eq_some_iff.1 hx).1
  refine ⟨⟨hi, fun y hy => by have := h1 y hy; omega, fun y hy => by have := h2 y hy; omega⟩, e, h.hi x (List.mem_iff_getElem?.2 ⟨0, by rw [List.getElem?_drop]; exact hx⟩)⟩
theorem WalkI.last {l : List KV} (hr : Rise l) {i : Nat} {x : KV} (hx : l[i]? = some x) (hm : x.1.toNat = 18446744073709551615) : i + 1 = l.length := by
  have hi := (List.getElem?_eq_some_iff.1 hx).1
  refine Nat.le_antisymm hi (Nat.le_of_not_lt (fun h => ?_))
  have := (rise_split hr hx).2 l[i + 1] (List.mem_iff_getElem?.2 ⟨0, by rw [List.getElem?_drop]; exact List.getElem?_eq_getElem h⟩)
  have := (l[i + 1]).1.toNat_lt
  omega
def WalkR (E : Nat → Prop) (W w : World) (P D T rt ob nbk K : Nat) (A : AP) (i : Nat) : Prop := TreeAt E w P D T rt A K ∧ Box w ob #[.bool true] ∧ Box w nbk #[.int .i64 i] ∧ Kept (fun j => E j ∧ j ≠ ob ∧ j ≠ nbk) W w
theorem WalkR.step {w w' : World} {K K' : Nat} {i : Nat} (h : WalkR E W w P D T rt ob nbk K A i) (ht : TreeAt E w' P D T rt A K') (kp : Kept E w w') (hob : E ob) (hnb : E nbk) (hne : ob ≠ nbk) (h1 : ob ≠ 0) (h2 : nbk ≠ 0) (hT1 : T ≠ ob) (hT2 : T ≠ nbk) :
    WalkR E W ((w'.setCell ⟨ob, 0, none⟩ (.bool true)).setCell ⟨nbk, 0, none⟩ (.int .i64 ((i : Int) + 1))) P D T rt ob nbk K' A (i + 1) ∧ Box w' ob #[.bool true] ∧ Box w' nbk #[.int .i64 i] := by
  obtain ⟨h3, h4, h5, h6⟩ := h
  have b1 := h4.of_block (kp.block ob hob)
  have b2 := h5.of_block (kp.block nbk hnb)
  have o1 : Only ob w' (w'.setCell ⟨ob, 0, none⟩ (.bool true)) := (Only.refl ob w').set 0 _
  have c1 : Box (w'.setCell ⟨ob, 0, none⟩ (.bool true)) ob #[.bool true] := b1.set 0 _
  generalize w'.setCell ⟨ob, 0, none⟩ (.bool true) = w2 at o1 c1 ⊢
  have o2 : Only nbk w2 (w2.setCell ⟨nbk, 0, none⟩ (.int .i64 ((i : Int) + 1))) := (Only.refl nbk w2).set 0 _
  have c2 : Box (w2.setCell ⟨nbk, 0, none⟩ (.int .i64 ((i : Int) + 1))) nbk #[.int .i64 ((i : Int) + 1)] := (b2.only o1 (Ne.symm hne)).set 0 _
  generalize w2.setCell ⟨nbk, 0, none⟩ (.int .i64 ((i : Int) + 1)) = w3 at o2 c2 ⊢
  have hth := ht.pz.there
  have p2 : PZ E w2 P D A K' := ht.pz.over (R := fun j => j = ob) (fun j hj => by rw [hj]; exact hob) (fun h => h1 h.symm) o1.size (fun j hj hr => o1.block j hj hr) (fun j hj => .inl hj)
  have p3 : PZ E w3 P D A K' := p2.over (R := fun j => j = nbk) (fun j hj => by rw [hj]; exact hnb) (fun h => h2 h.symm) o2.size (fun j hj hr => o2.block j hj hr) (fun j hj => .inl hj)
  have k3 : Kept (fun j => E j ∧ j ≠ ob ∧ j ≠ nbk) w' w3 := ⟨o2.os.trans o1.os, o2.tape.trans o1.tape, o2.output.trans o1.output, Nat.le_trans o1.size o2.size, fun j hj => (o2.block j (Nat.lt_of_lt_of_le (hth j hj.1) o1.size) hj.2.2).trans (o1.block j (hth j hj.1) hj.2.1)⟩
  exact ⟨⟨⟨p3, ht.box.of_block (k3.block T ⟨ht.mem, hT1, hT2⟩), ht.mem⟩, c1.only o2 hne, by simpa using c2, (h6.trans (kp.mono (fun _ hj => hj.1))).trans k3⟩, b1, b2⟩
set_option maxHeartbeats 4000000 in
set_option maxRecDepth 100000 in
theorem tree_walk_any (h : TreeAt E W P D T rt A k) (hl : l.length ≤ 2000) (hk : k + 400000 < 900000000) (ht : TI A rt l ps) (hg : A.Good) (h1 : Box W ob #[.bool true]) (h2 : Box W nbk #[.int .i64 0]) (h3 : Box W rb (rcells P T ao l.length c bo m d op)) (hp : PrX W ao c l)
    (hob : E ob) (hnb : E nbk) (hrb : E rb) (hao : ∀ b, slB ao b → E b ∧ b ≠ ob ∧ b ≠ nbk) (hne : ob ≠ nbk) (hro : rb ≠ ob) (hrn : rb ≠ nbk) (ht1 : ob ≠ 0) (ht2 : nbk ≠ 0) (hT1 : T ≠ ob) (hT2 : T ≠ nbk) :
    Calls Tryz.prog 66 #[.pointer (some ⟨T, 0, none⟩), .int .u64 0, .func (.func 67) #[] #[.pointer (some ⟨ob, 0, none⟩), .pointer (some ⟨nbk, 0, none⟩), .pointer (some ⟨rb, 0, none⟩)]] W fun e w' => e = .returned (.int .i64 0) ∧ WalkR E W w' P D T rt ob nbk (k + 300000) A l.length := by
  have hrise := ht.rise
  have hW0 : WalkR E W W P D T rt ob nbk (k + 100 * 0) A 0 := ⟨h, h1, h2, Kept.refl _ _⟩
  have HH := Lib.hid (And.intro hW0 (And.intro ht (And.intro hg (And.intro h3 (And.intro hp (And.intro hrise (And.intro hob (And.intro hnb (And.intro hrb hao)))))))))
  have HN := Lib.hid (And.intro hne (And.intro hro (And.intro hrn (And.intro ht1 (And.intro ht2 (And.intro hT1 hT2))))))
  clear h h1 h2 h3 hp hob hnb hrb hao hne hro hrn ht1 ht2 hT1 hT2 ht hg hrise hW0
  go_enter Tryz.func66, Tryz.ntmps66
  go_wp2_with fail
  go_loopw [7] (fun kv wr => ∃ (i : Nat) (κ : UInt64), kv = .int .u64 κ.toNat ∧ WalkI l i κ ∧ WalkR E W wr P D T rt ob nbk (k + 100 * i) A i) (fun kv _ => 18446744073709551616 - (intOf kv).toNat)
  case atStart => exact ⟨0, 0, rfl, ⟨Nat.zero_le _, fun y hy => (by simp at hy), fun y _ => Nat.zero_le _⟩, HH.out.1⟩
  case round =>
    obtain ⟨i, κ, rfl, hI, hR⟩ := hrel
    obtain ⟨_, ht, hg, h3, hp, hrise, hob, hnb, hrb, hao⟩ := HH.out
    obtain ⟨hne, hro, hrn, ht1, ht2, hT1, hT2⟩ := HN.out
    have hil := hI.le
    have hN := tree_next_any hR.1 (by omega) ht hg κ
    rw [nxt_at hI.lo hI.hi] at hN
    cases hx : l[i]? with
    | none =>
      rw [hx] at hN
      have hi : i = l.length := by
        refine Nat.le_antisymm hil (Nat.le_of_not_lt (fun h => ?_))
        rw [List.getElem?_eq_getElem h] at hx
        cases hx
      have HNx := Lib.hid hN
      have HF := Lib.hid (fun (w' : World) (hta : TreeAt E w' P D T rt A (k + 100 * i + 100)) (kp : Kept E wr w') => (show WalkR E W w' P D T rt ob nbk (k + 300000) A l.length from
        ⟨⟨hta.pz.up (by omega), hta.box, hta.mem⟩, hR.2.1.of_block (kp.block ob hob), by have := hR.2.2.1.of_block (kp.block nbk hnb); rw [hi] at this; exact this, hR.2.2.2.trans (kp.mono (fun _ hj => hj.1))⟩))
      clear hN hx hi hI hR ht hg h3 hp hrise hob hnb hrb hao hne hro hrn ht1 ht2 hT1 hT2 hil
      go_wp2_with fail
      refine HNx.out.mono ?_
      rintro e w1 ⟨rfl, hta, kp⟩
      have HG := Lib.hid (HF.out w1 hta kp)
      clear hta kp HF HNx
      unfold NxtAns
      go_wp2_with fail
      go_ret
      exact ⟨rfl, HG.out⟩
    | some x =>
      rw [hx] at hN
      have HNx := Lib.hid hN
      have HD := Lib.hid (fun (w' : World) (hta : TreeAt E w' P D T rt A (k + 100 * i + 100)) (kp : Kept E wr w') => (show (Calls Tryz.prog 67 #[.int .u64 x.1.toNat, .int .u64 x.2.toNat, .pointer (some ⟨ob, 0, none⟩), .pointer (some ⟨nbk, 0, none⟩), .pointer (some ⟨rb, 0, none⟩)] w' fun e w'' => e = .returned (.bool true) ∧ w'' = (w'.setCell ⟨ob, 0, none⟩ (.bool true)).setCell ⟨nbk, 0, none⟩ (.int .i64 ((i : Int) + 1))) ∧ WalkR E W ((w'.setCell ⟨ob, 0, none⟩ (.bool true)).setCell ⟨nbk, 0, none⟩ (.int .i64 ((i : Int) + 1))) P D T rt ob nbk (k + 100 * i + 100) A (i + 1) from by
        obtain ⟨s1, s2, s3⟩ := hR.step hta kp hob hnb hne ht1 ht2 hT1 hT2
        have kW : Kept (fun j => E j ∧ j ≠ ob ∧ j ≠ nbk) W w' := hR.2.2.2.trans (kp.mono (fun _ hj => hj.1))
        exact ⟨shows_do s2 s3 (h3.of_block (kW.block rb ⟨hrb, hro, hrn⟩)) (hp.of_block kW.size (fun b hb => kW.block b (hao b hb))) hx (by omega) hne, s1⟩))
      by_cases hm : x.1.toNat = 18446744073709551615
      · have hlast := WalkI.last hrise hx hm
        have HL := Lib.hid hlast
        have hmb : ((x.1.toNat : Int) == 18446744073709551615) = true := by rw [hm]; rfl
        have hkk : k + 100 * i + 100 ≤ k + 300000 := by omega
        clear hN hx hI hR ht hg h3 hp hrise hob hnb hrb hao hne hro hrn ht1 ht2 hT1 hT2 hil hlast hm
        go_wp2_with fail
        refine HNx.out.mono ?_
        rintro e w1 ⟨rfl, hta, kp⟩
        obtain ⟨hd, hw⟩ := HD.out w1 hta kp
        have HDo := Lib.hid hd
        have HG := Lib.hid hw
        clear hta kp HD HNx hd hw
        unfold NxtAns
        go_wp2_with fail
        refine HDo.out.mono ?_
        rintro e w2 ⟨rfl, rfl⟩
        go_wp2_with fail
        go_ret
        have hw := HG.out
        rw [HL.out] at hw
        exact ⟨rfl, ⟨hw.1.pz.up hkk, hw.1.box, hw.1.mem⟩, hw.2⟩
      · obtain ⟨s1, s2, s3⟩ := hI.step hrise hx hm
        have HL := Lib.hid (And.intro s1 (And.intro s2 s3))
        have hmi : ¬ (x.1.toNat : Int) = 18446744073709551615 := by omega
        have hmb : ((x.1.toNat : Int) == 18446744073709551615) = false := by simp; omega
        have hwr : IntKind.u64.wrap ((x.1.toNat : Int) + 1) = ((x.1 + 1).toNat : Int) := by rw [s2]; have := x.1.toNat_lt; exact IntWalk.u64_in _ ⟨by omega, by omega⟩
        have hmod : ((x.1.toNat : Int) + 1) % 18446744073709551616 = ((x.1 + 1).toNat : Int) := by rw [s2]; have := x.1.toNat_lt; omega
        have HMOD := Lib.hid hwr
        clear hmod hwr hN hx hI hR ht hg h3 hp hrise hob hnb hrb hao hne hro hrn ht1 ht2 hT1 hT2 hil hm s1 s2 s3
        go_wp2_with fail
        refine HNx.out.mono ?_
        rintro e w1 ⟨rfl, hta, kp⟩
        obtain ⟨hd, hw⟩ := HD.out w1 hta kp
        have HDo := Lib.hid hd
        have HG := Lib.hid hw
        clear hta kp HD HNx hd hw
        unfold NxtAns
        go_wp2_with fail
        refine HDo.out.mono ?_
        rintro e w2 ⟨rfl, rfl⟩
        go_wp2_with fail
        go_roundw
        case rel => exact ⟨i + 1, x.1 + 1, by rw [HMOD.out], HL.out.1, HG.out⟩
        case measure =>
          obtain ⟨m1, m2⟩ := HL.out.2
          have m3 := (x.1 + 1).toNat_lt
          have m4 : (intOf (.int .u64 ((x.1 + 1).toNat : Int))).toNat = (x.1 + 1).toNat := rfl
          have m5 : (intOf (.int .u64 (κ.toNat : Int))).toNat = κ.toNat := rfl
          rw [HMOD.out, m4, m5, m1]
          rw [m1] at m3
          generalize x.1.toNat = y at *
          generalize κ.toNat = z at *
          omega
end
end Go.Proofs.YtokgidhokcoadaaGreatDoor
