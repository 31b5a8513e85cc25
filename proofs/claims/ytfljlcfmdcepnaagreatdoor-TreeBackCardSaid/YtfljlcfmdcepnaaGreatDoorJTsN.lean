/-
  The tree: put at any depth; Put.
  The tree: drop at any depth; Drop.
-/
import Derived.Test.YtfljlcfmdcepnaaGreatDoorJTrO
import Derived.Test.YtfljlcfmdcepnaaGreatDoorJTsM
namespace Go.Proofs.YtfljlcfmdcepnaaGreatDoor
open Go.RowKit
open UK (str BytesAt nth Only Row Box)
theorem putd_any {P D T rt : Nat} (key v : UInt64) : ∀ (d : Nat) {E : Nat → Prop} {W : World} {A : AP} {k : Nat} (s : Sb) (deep : Nat), TreeAt E W P D T rt A k → k + 8 * d + 8 < 900000000 → Tr (ndAt A) d s → s.ps.Nodup → (∀ p ∈ s.ps, A.Has p) → A.Good → (∀ p, A.Has p → (A.c p).length = 504) → deep + d ≤ 20 →
    Calls Tryz.prog 75 #[.pointer (some ⟨T, 0, none⟩), .int .i64 s.pg, .int .u64 key.toNat, .int .u64 v.toNat, .int .i64 deep] W fun e w' => PutR E W w' P D T rt A (k + 8 * d + 8) s.pg d key v e
  | 0, E, W, A, k, s, deep, h, hk, hT, hnd, hh, hg, hc, hd => by
    obtain ⟨ks, vs, h1, h2, h3, h4, h5⟩ := hT
    have hp := hh s.pg (by rw [h5]; simp)
    have hl := (dec_fits h1).leaf rfl
    by_cases hm : key ∈ ks
    · exact put_found h (by omega) hp h1 h3 h2 hl.1 key v hm deep (by omega)
    · exact put_leaf h (by omega) hp h1 h3 key v hm deep (by omega)
  | d + 1, E, W, A, k, s, deep, h, hk, hT, hnd, hh, hg, hc, hd => by
    have hT' := id hT
    obtain ⟨keys, subs, h1, h2, h3, h4⟩ := hT
    have hf := (dec_fits h1).inner rfl
    dsimp only at hf
    obtain ⟨i, hki⟩ := kidIx_ex keys h2.up key
    have hlen := h2.len
    have hle := hki.le
    obtain ⟨t, ht⟩ : ∃ t, subs[i]? = some t := ⟨_, List.getElem?_eq_getElem (by omega)⟩
    have hcc : (subs.map Sb.pg)[i]? = some t.pg := by rw [List.getElem?_map, ht]; rfl
    obtain ⟨subs', t', hK, hpt, hmap, hTt, hFt⟩ := hT'.kid h1 hcc
    have e : k + 8 * (d + 1) + 8 = k + (8 * d + 8) + 8 := by omega
    rw [e]
    refine put_inner (K0 := 8 * d + 8) h (by omega) (hh _ hT'.mem) h1 h2.up (by omega) hf.1 key v deep (by omega) hki hcc (fun E1 w1 g1 => ?_) (fun B more κ er hps => put_hok hT' hnd hh hg hc h1 hcc hki hps)
    have hrec := putd_any key v d (E := E1) (W := w1) t' (deep + 1) g1 (by omega) hTt (hK.tn hnd) (fun p hp => hh p (hK.sub p hp)) hg hc (by omega)
    rw [hpt] at hrec
    rw [show k + 2 + (8 * d + 8) = k + 2 + 8 * d + 8 by omega]
    exact hrec
end Go.Proofs.YtfljlcfmdcepnaaGreatDoor
namespace Go.Proofs.YtfljlcfmdcepnaaGreatDoor
open Go.RowKit
open UK (str BytesAt nth Only Row Box)
theorem dropd_any {P D T rt : Nat} (key : UInt64) : ∀ (d : Nat) {E : Nat → Prop} {W : World} {A : AP} {k : Nat} (s : Sb) (deep : Nat), TreeAt E W P D T rt A k → k + 60 * d + 60 < 900000000 → Tr (ndAt A) d s → s.ps.Nodup → (∀ p ∈ s.ps, A.Has p) → A.Good → (∀ p, A.Has p → (A.c p).length = 504) → deep + d ≤ 20 →
    Calls Tryz.prog 79 #[.pointer (some ⟨T, 0, none⟩), .int .i64 s.pg, .int .u64 key.toNat, .int .i64 deep] W fun e w' => DropR E W w' P D T rt A (k + 60 * d + 60) s.pg d key e
  | 0, E, W, A, k, s, deep, h, hk, hT, hnd, hh, hg, hc, hd => by
    obtain ⟨ks, vs, h1, h2, h3, h4, h5⟩ := hT
    have hp := hh s.pg (by rw [h5]; simp)
    have hl := (dec_fits h1).leaf rfl
    by_cases hm : key ∈ ks
    · exact (drop_found h (by omega) hp h1 h3 hl.1 key hm deep (by omega)).mono (fun e w' ⟨B, was, poor, kk, he, hs, ht, hkk, hkp⟩ => ⟨B, was, poor, kk, he, hs, ht, by omega, hkp⟩)
    · exact (drop_none h (by omega) hp h1 h3 hl.1 key hm deep (by omega)).mono (fun e w' ⟨B, was, poor, kk, he, hs, ht, hkk, hkp⟩ => ⟨B, was, poor, kk, he, hs, ht, by omega, hkp⟩)
  | d + 1, E, W, A, k, s, deep, h, hk, hT, hnd, hh, hg, hc, hd => by
    have hT' := id hT
    obtain ⟨keys, subs, h1, h2, h3, h4⟩ := hT
    have hf := (dec_fits h1).inner rfl
    dsimp only at hf
    obtain ⟨i, hki⟩ := kidIx_ex keys h2.up key
    have hlen := h2.len
    have hle := hki.le
    obtain ⟨t, ht⟩ : ∃ t, subs[i]? = some t := ⟨_, List.getElem?_eq_getElem (by omega)⟩
    have hcc : (subs.map Sb.pg)[i]? = some t.pg := by rw [List.getElem?_map, ht]; rfl
    obtain ⟨subs', t', hK, hpt, hmap, hTt, hFt⟩ := hT'.kid h1 hcc
    have e : k + 60 * (d + 1) + 60 = k + (60 * d + 60) + 60 := by omega
    rw [e]
    refine drop_inner (K0 := 60 * d + 60) h (by omega) (hh _ hT'.mem) h1 h2.up (by omega) (by omega) hf.1 key deep (by omega) hki hcc (fun E1 w1 g1 => ?_) (fun B was hps => drop_pair hT' hnd hh hg hc h1 hki hcc hps)
    have hrec := dropd_any key d (E := E1) (W := w1) t' (deep + 1) g1 (by omega) hTt (hK.tn hnd) (fun p hp => hh p (hK.sub p hp)) hg hc (by omega)
    rw [hpt] at hrec
    rw [show k + 2 + (60 * d + 60) = k + 2 + 60 * d + 60 by omega]
    exact hrec
structure GoneOk (A B : AP) (rt : Nat) (l : List KV) (ps : List Nat) : Prop where
  ex : ∃ gone ps', ChgD A B ps gone ∧ TI B rt l ps' ∧ (∀ p, p ∈ ps' ↔ p ∈ ps ∧ p ∉ gone) ∧ (∀ p ∈ gone, p ∈ ps) ∧ gone.Nodup
theorem dropS_ok {k : UInt64} {d : Nat} {A B : AP} {was poor : Bool} {s : Sb} (h : DropS k d A s.pg B was poor) (hT : Tr (ndAt A) d s) (hnd : s.ps.Nodup) (hh : ∀ p ∈ s.ps, A.Has p) (hg : A.Good) (hc : ∀ p, A.Has p → (A.c p).length = 504) :
    GoneOk A B s.pg (delL s.l k) s.ps ∧ (was = true ↔ ∃ x ∈ s.l, x.1 = k) := by
  obtain ⟨gone, hO⟩ := drop_ok h s hT rfl hnd hh hg hc
  obtain ⟨d', t, h1, h2, h3, h4, h5, _⟩ := hO.tree
  refine ⟨⟨gone, t.ps, hO.chg, ⟨⟨d', t, h1, h2, h3, rfl⟩, h4, fun p hp => ?_⟩, h5, fun p hp => (hO.sub p hp).1, hO.nod⟩, hO.was⟩
  obtain ⟨a, b⟩ := (h5 p).1 hp
  exact (hO.chg.has p).2 ⟨hh p a, b⟩
section
variable {E : Nat → Prop} {W : World} {P D T k rt : Nat} {A : AP} {l : List KV} {ps : List Nat}
def hasL (l : List KV) (k : UInt64) : Bool := l.any fun x => x.1 == k
theorem hasL_iff {l : List KV} {k : UInt64} : hasL l k = true ↔ ∃ x ∈ l, x.1 = k := by simp [hasL]
def TDone (E : Nat → Prop) (W w' : World) (P D T rt : Nat) (A : AP) (K : Nat) (l : List KV) (ps : List Nat) (e : Ending) : Prop :=
  ∃ (B : AP) (er : Int) (kk : Nat), e = .returned (.int .i64 er) ∧ ((er = 0 ∧ PutOk A B rt l ps) ∨ (er = 6 ∧ A.Reach B ∧ A.rooms ≤ 20)) ∧ TreeAt E w' P D T rt B kk ∧ kk ≤ K ∧ Kept E W w'
set_option maxRecDepth 100000 in
theorem tree_drop_any (h : TreeAt E W P D T rt A k) (hk : k + 2000 < 900000000) (ht : TI A rt l ps) (hg : A.Good) (hc : ∀ p, A.Has p → (A.c p).length = 504) (key : UInt64) :
    Calls Tryz.prog 32 #[.pointer (some ⟨T, 0, none⟩), .int .u64 key.toNat] W fun e w' => e = .returned (.tuple #[.bool (hasL l key), .int .i64 0]) ∧ ∃ B, GoneOk A B rt (delL l key) ps ∧ TreeAt E w' P D T rt B (k + 2000) ∧ Kept E W w' := by
  obtain ⟨d, s, hT, rfl, rfl, rfl⟩ := ht.ex
  have hdep := tr_depth hT ht.nod ht.has hg
  have hP := dropd_any key d s 0 h (by omega) hT ht.nod ht.has hg hc (by omega)
  have HP := Lib.hid (hP.mono (R' := fun e w' => ∃ (B : AP) (was poor : Bool), e = .returned (.tuple #[.bool was, .bool poor, .int .i64 0]) ∧ was = hasL s.l key ∧ (GoneOk A B s.pg (delL s.l key) s.ps ∧ TreeAt E w' P D T s.pg B (k + 2000) ∧ Kept E W w')) (fun e w' ⟨B, was, poor, kk, he, hs, hta, hkk, hkp⟩ => (by
    obtain ⟨h1, h2⟩ := dropS_ok hs hT ht.nod ht.has hg hc
    refine ⟨B, was, poor, he, ?_, h1, ⟨hta.pz.up (by omega), hta.box, hta.mem⟩, hkp⟩
    rw [Bool.eq_iff_iff, h2, hasL_iff])))
  have t1 : W.cell? ⟨T, 1, none⟩ = some (.int .i64 s.pg) := h.box.cell 1 _ rfl
  clear h ht hP hT hg hc hdep hk
  go_enter Tryz.func32, Tryz.ntmps32
  go_wp2_with fail
  refine HP.out.mono ?_
  rintro e w1 ⟨B, was, poor, rfl, hw, hX⟩
  have HX := Lib.hid hX
  clear HP t1 hX
  subst hw
  obtain ⟨q, hq⟩ : ∃ q, hasL s.l key = q := ⟨_, rfl⟩
  rw [hq]
  have HQ := Lib.hid hq
  clear hq
  cases q with
  | false =>
    go_wp2
    go_ret2
    rw [HQ.out]
    exact ⟨rfl, B, HX.out⟩
  | true =>
    go_wp2
    go_ret2
    rw [HQ.out]
    exact ⟨rfl, B, HX.out⟩
theorem put_grow {w1 w2 w3 : World} {N M more kk : Nat} {B : AP} {κ : UInt64} {s0 : List UInt8} (hta : TreeAt E w1 P D T rt B kk) (hkp : Kept E W w1) (k2 : Kept E w1 w2) (p3 : PZ (fun j => E j ∨ N ≤ j ∧ j < M) w3 P D (B.take.wrote B.next s0) (kk + 2 + 3)) (k3 : Kept (fun j => E j ∨ N ≤ j ∧ j < M) w2 w3) (hg : B.Good) (hF : ¬ B.Full) (hrt : B.Has rt) (hmo : more < 4294967296) (hk : kk + 8 < 900000000) :
    w3.cell? ⟨T, 1, none⟩ = some (.int .i64 rt) ∧ Calls Tryz.prog 78 #[.pointer (some ⟨T, 0, none⟩), .int .i64 rt, .pointer (some ⟨w3.heap.size + 1 + 1, 0, none⟩)] (((w3.alloc (.cells #[.int .u64 (κ.toNat : Int)] 23)).alloc (.cells #[.int .i64 B.next, .int .i64 more] 3)).alloc (.cells #[.bool false, .slice (some ⟨w3.heap.size, 0, none⟩) 1 1, .slice none 0 0, .slice (some ⟨w3.heap.size + 1, 0, none⟩) 2 2] 141)) fun e w' => e = .returned (.int .i64 0) ∧ TreeAt E w' P D T rt ((B.take.wrote B.next s0).wrote rt (encN ((B.take.wrote B.next s0).c rt) ⟨false, [κ], [], [B.next, more]⟩)) (kk + 2 + 3 + 3) ∧ Kept E W w' := by
  have hE := hta.pz.there
  have hs2 := k2.size
  have hs3 := k3.size
  have k13 : Kept E w1 w3 := k2.trans (k3.mono (fun _ hj => .inl hj))
  have hb3 := hta.box.of_block (k13.block T hta.mem)
  refine ⟨hb3.cell 1 _ rfl, ?_⟩
  have b1 := Box.new w3 #[.int .u64 (κ.toNat : Int)] 23
  have z1 : (w3.alloc (.cells #[.int .u64 (κ.toNat : Int)] 23)).heap.size = w3.heap.size + 1 := by simp
  have l1 : Below w3.heap.size w3 (w3.alloc (.cells #[.int .u64 (κ.toNat : Int)] 23)) := (Below.refl _ _).alloc (Nat.le_refl _) _
  generalize w3.alloc (.cells #[.int .u64 (κ.toNat : Int)] 23) = w4 at b1 z1 l1 ⊢
  have b2 := Box.new w4 #[.int .i64 B.next, .int .i64 more] 3
  have z2 : (w4.alloc (.cells #[.int .i64 B.next, .int .i64 more] 3)).heap.size = w4.heap.size + 1 := by simp
  have l2 : Below w4.heap.size w4 (w4.alloc (.cells #[.int .i64 B.next, .int .i64 more] 3)) := (Below.refl _ _).alloc (Nat.le_refl _) _
  generalize w4.alloc (.cells #[.int .i64 B.next, .int .i64 more] 3) = w5 at b2 z2 l2 ⊢
  have b3 := Box.new w5 #[.bool false, .slice (some ⟨w3.heap.size, 0, none⟩) 1 1, .slice none 0 0, .slice (some ⟨w3.heap.size + 1, 0, none⟩) 2 2] 141
  have z3 : (w5.alloc (.cells #[.bool false, .slice (some ⟨w3.heap.size, 0, none⟩) 1 1, .slice none 0 0, .slice (some ⟨w3.heap.size + 1, 0, none⟩) 2 2] 141)).heap.size = w5.heap.size + 1 := by simp
  have l3 : Below w5.heap.size w5 (w5.alloc (.cells #[.bool false, .slice (some ⟨w3.heap.size, 0, none⟩) 1 1, .slice none 0 0, .slice (some ⟨w3.heap.size + 1, 0, none⟩) 2 2] 141)) := (Below.refl _ _).alloc (Nat.le_refl _) _
  generalize w5.alloc (.cells #[.bool false, .slice (some ⟨w3.heap.size, 0, none⟩) 1 1, .slice none 0 0, .slice (some ⟨w3.heap.size + 1, 0, none⟩) 2 2] 141) = w6 at b3 z3 l3 ⊢
  have b1' := (b1.next l2).next l3
  have b2' := b2.next l3
  have l13 : Below w3.heap.size w3 w6 := (l1.trans (l2.mono (by omega))).trans (l3.mono (by omega))
  rw [z1] at b2'
  rw [show w5.heap.size = w3.heap.size + 1 + 1 by omega] at b3
  have p6 : PZ (fun j => E j ∨ (w3.heap.size ≤ j ∧ j < w6.heap.size)) w6 P D (B.take.wrote B.next s0) (kk + 2 + 3) := p3.wide l13 (fun j hj => by
    rcases hj with h | h
    · exact .inl (.inl h)
    · exact .inr h)
  have hr : NodeR (fun j => E j ∨ (w3.heap.size ≤ j ∧ j < w6.heap.size)) w6 (w3.heap.size + 1 + 1) ⟨false, [κ], [], [B.next, more]⟩ := by
    refine ⟨_, _, _, b3, .inr ⟨by omega, by omega⟩, ⟨_, 1, rfl, Nat.le_refl _, fun j u hj => ⟨w3.heap.size, 0, rfl, .inr ⟨by omega, by omega⟩, ?_⟩⟩, ⟨none, 0, rfl, Nat.le_refl _, fun j u hj => (by cases hj)⟩, ⟨_, 2, rfl, Nat.le_refl _, fun j u hj => ⟨w3.heap.size + 1, 0, rfl, .inr ⟨by omega, by omega⟩, ?_⟩⟩⟩
    · match j, hj with
      | 0, h => exact (b1'.cell 0 _ rfl).trans h
      | j + 1, h => cases h
    · match j, hj with
      | 0, h => exact (b2'.cell 0 _ rfl).trans h
      | 1, h => exact (b2'.cell 1 _ rfl).trans h
      | j + 2, h => cases h
  have hnx := hg.next hF
  have hfit : Fits ⟨false, [κ], [], [B.next, more]⟩ := ⟨(fun h => by cases h), fun _ => ⟨rfl, by simp, by simp, rfl, fun q hq => by
    rcases List.mem_cons.1 hq with rfl | hq
    · omega
    · rw [List.mem_singleton.1 hq]; exact hmo⟩⟩
  have k36 : Kept E w3 w6 := Kept.of_below l13 (fun j hj => by have := hE j hj; omega)
  have hb6 := hb3.of_block (k36.block T hta.mem)
  have hrt6 : (B.take.wrote B.next s0).Has rt := AP.wrote_has.2 (((hg.take hF).2.1 rt).2 (.inl hrt))
  refine (store_any p6 (by omega) hb6 hrt6 hr hfit).mono ?_
  rintro e w7 ⟨rfl, p7, k7⟩
  exact ⟨rfl, ⟨p7.less (fun _ hj => .inl hj), hb6.of_block (k7.block T (.inl hta.mem)), hta.mem⟩, ((hkp.trans k13).trans k36).trans (k7.mono (fun _ hj => .inl hj))⟩
set_option maxRecDepth 100000 in
theorem tree_put_any (h : TreeAt E W P D T rt A k) (hk : k + 2000 < 900000000) (ht : TI A rt l ps) (hg : A.Good) (hc : ∀ p, A.Has p → (A.c p).length = 504) (key v : UInt64) :
    Calls Tryz.prog 30 #[.pointer (some ⟨T, 0, none⟩), .int .u64 key.toNat, .int .u64 v.toNat] W fun e w' => TDone E W w' P D T rt A (k + 2000) (insL l key v) ps e := by
  obtain ⟨d, s, hT, hpg, rfl, rfl⟩ := ht.ex
  have hdep := tr_depth hT ht.nod ht.has hg
  have hP := putd_any key v d s 0 h (by omega) hT ht.nod ht.has hg hc (by omega)
  rw [hpg] at hP
  have HP := Lib.hid hP
  have HH := Lib.hid (And.intro h (And.intro hT (And.intro hpg (And.intro ht (And.intro hg hc)))))
  have t1 : W.cell? ⟨T, 1, none⟩ = some (.int .i64 rt) := h.box.cell 1 _ rfl
  have HB := Lib.hid (fun (w' : World) (B : AP) (er : Int) (kk : Nat) (hs : PutT key v rt d A B er) (hta : TreeAt E w' P D T rt B kk) (hkk : kk ≤ k + 2000) (hkp : Kept E W w') => (show TDone E W w' P D T rt A (k + 2000) (insL s.l key v) s.ps (.returned (.int .i64 er)) from
    ⟨B, er, kk, rfl, putT_ok hs hT hpg ht hg hc, hta, hkk, hkp⟩))
  clear h ht hP hT hg hc hpg
  go_enter Tryz.func30, Tryz.ntmps30
  go_wp2_with fail
  refine HP.out.mono ?_
  rintro e w1 ⟨B, more, κ, er, kk, rfl, hps, hta, hkk, hkp⟩
  by_cases he : er = 0
  · by_cases hm : more = 0
    · subst he hm
      have HG := Lib.hid (HB.out w1 B 0 kk (.same hps) hta (by omega) hkp)
      clear HP HH HB t1 hps hta hkk hkp
      go_wp2
      go_ret
      exact HG.out
    · subst he
      obtain ⟨h, hT, hpg, ht, hg, hc⟩ := HH.out
      have hm0 : (more == 0) = false := beq_eq_false_iff_ne.2 hm
      have hm1 : ((more : Int) == 0) = false := beq_eq_false_iff_ne.2 (by omega)
      obtain ⟨new, hO⟩ := put_ok hps rfl s hT hpg ht.nod ht.has hg hc
      have hrt : B.Has rt := (hO.chg.has rt).2 (.inl (by rw [← hpg]; exact ht.has _ hT.mem))
      obtain ⟨_, _, _, _, _, _, _, _, _, _, ⟨x, hx, _⟩, _⟩ := hO.two hm
      rw [hpg] at hx
      have HL := Lib.hid (load_any hta.pz (by omega) hta.box hrt hx)
      have t11 : w1.cell? ⟨T, 1, none⟩ = some (.int .i64 rt) := hta.box.cell 1 _ rfl
      have H1 := Lib.hid (And.intro hta (And.intro hkp (And.intro hps (And.intro hx hrt))))
      have HF := Lib.hid (show κ = κ ∧ B.Good ∧ more < 4294967296 ∧ (∀ p, B.Has p → (B.c p).length = 504) from ⟨rfl, hO.chg.good hg, by have := (hO.two hm).1; omega, hO.chg.clen⟩)
      clear HP t1 hps hta hkp hO hrt hx h hT hpg ht hg hc HH
      go_wp2_with fail
      refine HL.out.mono ?_
      rintro e w2 ⟨N, M, nb, ka, va, aa, kc, vc, ac, rfl, hN, hM, hn1, p2, k2⟩
      obtain ⟨hta, hkp, hps, hx, hrt⟩ := H1.out
      have hr : NodeR (fun j => E j ∨ (N ≤ j ∧ j < M)) w2 nb x := hn1.wins.reads (fun g hg => .inr ⟨hg.1, hg.2.1⟩) (.inr ⟨hn1.1.ge, hn1.2.1⟩)
      have hb2 := hta.box.of_block (k2.block T hta.mem)
      by_cases hF : B.Full
      · have HN := Lib.hid (fresh_no (nb := nb) p2 (by omega) hb2 hF)
        have HG := Lib.hid (fun (w' : World) (p3 : PZ (fun j => E j ∨ N ≤ j ∧ j < M) w' P D B (kk + 2 + 3)) (k3 : Kept (fun j => E j ∨ N ≤ j ∧ j < M) w2 w') => HB.out w' B 6 (kk + 2 + 3) (.full hps hm hF) ⟨p3.less (fun _ hj => .inl hj), hb2.of_block (k3.block T (.inl hta.mem)), hta.mem⟩ (by omega) ((hkp.trans k2).trans (k3.mono (fun _ hj => .inl hj))))
        clear HL hN hM hn1 p2 k2 hta hkp hps hx hrt hr hb2 H1 HB HF t11
        go_wp2_with fail
        refine HN.out.mono ?_
        rintro e w3 ⟨rfl, p3, k3⟩
        have HQ := Lib.hid (HG.out w3 p3 k3)
        clear p3 k3 HG HN
        go_wp2
        go_ret
        exact HQ.out
      · have HN := Lib.hid (fresh_any p2 (by omega) hb2 hF hr (dec_fits hx))
        have HG := Lib.hid (fun (w3 : World) (p3 : PZ (fun j => E j ∨ N ≤ j ∧ j < M) w3 P D (B.take.wrote B.next (encN (UK.zeros 504) x)) (kk + 2 + 3)) (k3 : Kept (fun j => E j ∨ N ≤ j ∧ j < M) w2 w3) => put_grow (E := E) (N := N) (M := M) (P := P) (D := D) (T := T) (rt := rt) (κ := κ) (more := more) hta hkp k2 p3 k3 HF.out.2.1 hF hrt HF.out.2.2.1 (by omega))
        have HR := Lib.hid (fun (w' : World) kx h1 h2 h3 => HB.out w' ((B.take.wrote B.next (encN (UK.zeros 504) x)).wrote rt (encN ((B.take.wrote B.next (encN (UK.zeros 504) x)).c rt) ⟨false, [κ], [], [B.next, more]⟩)) 0 kx (.grow hps hm hF hx rfl) h1 h2 h3)
        have hkk2 : kk + 2 + 3 + 3 ≤ k + 2000 := by omega
        clear HL hN hM hn1 p2 k2 hta hkp hps hx hrt hr hb2 H1 HB HF t11
        go_wp2_with fail
        refine HN.out.mono ?_
        rintro e w3 ⟨rfl, p3, k3⟩
        obtain ⟨t13, hS⟩ := HG.out w3 p3 k3
        have HS := Lib.hid hS
        clear p3 k3 HG HN hS
        go_wp2_with fail
        refine HS.out.mono ?_
        rintro e w4 ⟨rfl, h1, h2⟩
        have HQ := Lib.hid (HR.out w4 _ h1 hkk2 h2)
        clear h1 h2 HS HR
        go_wp2
        go_ret
        exact HQ.out
  · have HG := Lib.hid (HB.out w1 B er kk (.bad hps he) hta (by omega) hkp)
    have he2 : (er == 0) = false := beq_eq_false_iff_ne.2 he
    clear HP HH HB t1 hps hta hkk hkp
    go_wp2
    go_ret
    exact HG.out
end
end Go.Proofs.YtfljlcfmdcepnaaGreatDoor
