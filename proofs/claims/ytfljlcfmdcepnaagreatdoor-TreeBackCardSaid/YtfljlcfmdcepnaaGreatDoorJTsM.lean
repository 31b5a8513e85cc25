/-
  The tree: lift; what is left to be done behind mend.
  The tree: drop at a leaf, drop at an inner node with what the call below does: the walk.
-/
import Derived.Test.YtfljlcfmdcepnaaGreatDoorJTsK
namespace Go.Proofs.YtfljlcfmdcepnaaGreatDoor
open Go.RowKit
open UK (str BytesAt nth Only Row Box)
section
variable {E : Nat → Prop} {W W' : World} {P D T rt k pg N nb kc vc ac : Nat} {A : AP} {ka va aa : Option Addr}
set_option maxRecDepth 100000 in
theorem lift_any {c : Nat} {x : Nd} (h : PZ E W P D A k) (hk : k + 6 < 900000000) (hb : Box W T #[.pointer (some ⟨P, 0, none⟩), .int .i64 rt]) (hT : E T) (hc : A.Has c) (hx : ndAt A c = some x) (hp : A.Has pg) :
    Calls Tryz.prog 116 #[.pointer (some ⟨T, 0, none⟩), .int .i64 pg, .int .i64 c] W fun e w' => e = .returned (.int .i64 0) ∧ PZ E w' P D ((A.wrote pg (encN (A.c pg) x)).give c) (k + 6) ∧ Kept E W w' := by
  have HL := Lib.hid (load_any h (by omega) hb hc hx)
  have HX := Lib.hid (And.intro hb (And.intro hT (And.intro hc (And.intro (dec_fits hx) hp))))
  clear h hb hT hc hx hp
  go_enter Tryz.func116, Tryz.ntmps116
  go_wp2_with fail
  refine HL.out.mono ?_
  rintro e w1 ⟨N, M, nb, ka, va, aa, kc, vc, ac, rfl, hN, hM, hn1, p1, k1⟩
  obtain ⟨hb, hT, hc, hf, hp⟩ := HX.out
  have hr : NodeR (fun j => E j ∨ (N ≤ j ∧ j < M)) w1 nb x := hn1.wins.reads (fun g hg => .inr ⟨hg.1, hg.2.1⟩) (.inr ⟨hn1.1.ge, hn1.2.1⟩)
  have HS := Lib.hid (store_any p1 (by omega) (hb.of_block (k1.block T hT)) hp hr hf)
  have HK := Lib.hid k1
  clear HL hN hM hn1 p1 k1 hb hT hc hf hp hr
  go_wp2_with fail
  refine HS.out.mono ?_
  rintro e w2 ⟨rfl, p2, k2⟩
  obtain ⟨hb, hT, hc, hf, hp⟩ := HX.out
  have k12 := HK.out.trans (k2.mono (fun _ hj => .inl hj))
  have c0 : w2.cell? ⟨T, 0, none⟩ = some (.pointer (some ⟨P, 0, none⟩)) := (hb.of_block (k12.block T hT)).cell 0 _ rfl
  have HG := Lib.hid (pz_give (p2.less (T := E) (fun _ hj => .inl hj)) (by omega) c (AP.wrote_has.2 hc))
  have HK2 := Lib.hid k12
  clear HS HK p2 k2 k12 hb hT hc hf hp HX
  go_wp2_with fail
  refine HG.out.mono ?_
  rintro e w3 ⟨rfl, p3, k3⟩
  have HF := Lib.hid (And.intro p3 (HK2.out.trans k3))
  clear HG p3 k3 HK2
  go_wp2
  go_ret
  exact ⟨rfl, HF.out⟩
def DropR (E : Nat → Prop) (W w' : World) (P D T rt : Nat) (A : AP) (K pg d : Nat) (key : UInt64) (e : Ending) : Prop :=
  ∃ (B : AP) (was poor : Bool) (kk : Nat), e = .returned (.tuple #[.bool was, .bool poor, .int .i64 0]) ∧ DropS key d A pg B was poor ∧ TreeAt E w' P D T rt B kk ∧ kk ≤ K ∧ Kept E W w'
theorem NodeR.kidsAt {S : Nat → Prop} {w : World} {x : Nd} (h : NodeR S w nb x) : ∃ ao c, w.cell? ⟨nb, 3, none⟩ = some (.slice ao x.kids.length c) ∧ x.kids.length ≤ c ∧ ∀ j q : Nat, x.kids[j]? = some q → ∃ g o, ao = some ⟨g, o, none⟩ ∧ w.cell? ⟨g, o + j, none⟩ = some (.int .i64 (q : Int)) := by
  obtain ⟨kv, vv, av, b, _, _, _, ⟨ao, c, rfl, hc, hv⟩⟩ := h
  rw [ints_length] at b hc
  refine ⟨ao, c, b.cell 3 _ rfl, hc, fun j q hj => ?_⟩
  obtain ⟨g, o, e, _, hcell⟩ := hv j _ (kids_is _ _ _ hj)
  exact ⟨g, o, e, hcell⟩
section
variable {w3 w4 : World} {M d K0 i c kk m ca cb : Nat} {B : AP} {keys : List UInt64} {kids : List Nat} {key κ : UInt64} {was : Bool} {xa xb : Nd} {R : Nat → Prop}
theorem drop_rest {C : AP} {x : Nd} (h : TreeAt E W P D T rt A k) (hk : k + K0 + 60 < 900000000) (hN : W.heap.size ≤ N) (hR : ∀ j, R j → N ≤ j ∧ j < M) (kE : Kept E W w3) (hkk : kk ≤ k + 2 + K0)
    (hM : MendR (fun j => E j ∨ N ≤ j ∧ j < M) w3 w4 P D T rt nb R C (kk + 20) x) (hpC : C.Has pg) (hx : Fits x) (hD : DropS key (d + 1) A pg (C.wrote pg (encN (C.c pg) x)) was (poorN x)) :
    Calls Tryz.prog 114 #[.pointer (some ⟨nb, 0, none⟩)] w4 (fun e w' => e = .returned (.bool (poorN x)) ∧ w' = w4) ∧
    Calls Tryz.prog 78 #[.pointer (some ⟨T, 0, none⟩), .int .i64 pg, .pointer (some ⟨nb, 0, none⟩)] w4 (fun e w' => e = .returned (.int .i64 0) ∧ DropR E W w' P D T rt A (k + K0 + 60) pg (d + 1) key (.returned (.tuple #[.bool was, .bool (poorN x), .int .i64 0]))) := by
  obtain ⟨L, H, k4, hL, p4, hk4, hr, hb, kM⟩ := hM
  refine ⟨poor_any hr, (store_any p4 (by omega) hb hpC hr hx).mono ?_⟩
  rintro e w5 ⟨rfl, p5, k5⟩
  have hE : ∀ j, E j → (fun j => (E j ∨ N ≤ j ∧ j < M) ∧ ¬ R j) j := fun j hj => ⟨.inl hj, fun hr => by have := (hR j hr).1; have := h.pz.there j hj; omega⟩
  exact ⟨rfl, _, was, _, k4 + 3, rfl, hD, ⟨p5.less (fun _ hj => .inl (.inl hj)), hb.of_block (k5.block T (.inl (.inl h.mem))), h.mem⟩, by omega, (kE.trans (kM.mono hE)).trans (k5.mono (fun _ hj => .inl (.inl hj)))⟩
theorem drop_lift {C : AP} {x y : Nd} (h : TreeAt E W P D T rt A k) (hk : k + K0 + 60 < 900000000) (hN : W.heap.size ≤ N) (hR : ∀ j, R j → N ≤ j ∧ j < M) (kE : Kept E W w3) (hkk : kk ≤ k + 2 + K0)
    (hM : MendR (fun j => E j ∨ N ≤ j ∧ j < M) w3 w4 P D T rt nb R C (kk + 20) x) (hpC : C.Has pg) (hcC : C.Has ca) (hy : ndAt C ca = some y) (hD : DropS key (d + 1) A pg ((C.wrote pg (encN (C.c pg) y)).give ca) was true) :
    Calls Tryz.prog 116 #[.pointer (some ⟨T, 0, none⟩), .int .i64 pg, .int .i64 ca] w4 (fun e w' => e = .returned (.int .i64 0) ∧ DropR E W w' P D T rt A (k + K0 + 60) pg (d + 1) key (.returned (.tuple #[.bool was, .bool true, .int .i64 0]))) := by
  obtain ⟨L, H, k4, hL, p4, hk4, hr, hb, kM⟩ := hM
  refine (lift_any p4 (by omega) hb (.inl (.inl h.mem)) hcC hy hpC).mono ?_
  rintro e w5 ⟨rfl, p5, k5⟩
  have hE : ∀ j, E j → (fun j => (E j ∨ N ≤ j ∧ j < M) ∧ ¬ R j) j := fun j hj => ⟨.inl hj, fun hr => by have := (hR j hr).1; have := h.pz.there j hj; omega⟩
  exact ⟨rfl, _, was, _, k4 + 6, rfl, hD, ⟨p5.less (fun _ hj => .inl (.inl hj)), hb.of_block (k5.block T (.inl (.inl h.mem))), h.mem⟩, by omega, (kE.trans (kM.mono hE)).trans (k5.mono (fun _ hj => .inl (.inl hj)))⟩
theorem drop_ways {x' y' : Nd} {κ' : UInt64} {one : Bool} (hy : ndAt A pg = some ⟨false, keys, [], kids⟩) (hki : KidIx keys key i) (hc : kids[i]? = some c) (hps : DropS key d A c B was true) (hm : m = pairN kids.length i) (ok : PairOk B pg keys kids m ca cb κ xa xb) (hev : evenN xa xb κ = (x', y', κ', one)) :
    (one = false → ((B.wrote ca (encN (B.c ca) x')).wrote cb (encN ((B.wrote ca (encN (B.c ca) x')).c cb) y')).Has pg ∧ Fits ⟨false, keys.set m κ', [], kids⟩ ∧
      DropS key (d + 1) A pg (((B.wrote ca (encN (B.c ca) x')).wrote cb (encN ((B.wrote ca (encN (B.c ca) x')).c cb) y')).wrote pg (encN (((B.wrote ca (encN (B.c ca) x')).wrote cb (encN ((B.wrote ca (encN (B.c ca) x')).c cb) y')).c pg) ⟨false, keys.set m κ', [], kids⟩)) was (poorN ⟨false, keys.set m κ', [], kids⟩)) ∧
    (one = true → ((B.wrote ca (encN (B.c ca) x')).give cb).Has pg ∧
      (kids.length ≠ 2 → Fits ⟨false, keys.take m ++ keys.drop (m + 1), [], kids.take (m + 1) ++ kids.drop (m + 2)⟩ ∧
        DropS key (d + 1) A pg (((B.wrote ca (encN (B.c ca) x')).give cb).wrote pg (encN (((B.wrote ca (encN (B.c ca) x')).give cb).c pg) ⟨false, keys.take m ++ keys.drop (m + 1), [], kids.take (m + 1) ++ kids.drop (m + 2)⟩)) was (poorN ⟨false, keys.take m ++ keys.drop (m + 1), [], kids.take (m + 1) ++ kids.drop (m + 2)⟩)) ∧
      (kids.length = 2 → ((B.wrote ca (encN (B.c ca) x')).give cb).Has ca ∧ ndAt ((B.wrote ca (encN (B.c ca) x')).give cb) ca = some x' ∧ kids.take (m + 1) ++ kids.drop (m + 2) = [ca] ∧
        DropS key (d + 1) A pg ((((B.wrote ca (encN (B.c ca) x')).give cb).wrote pg (encN (((B.wrote ca (encN (B.c ca) x')).give cb).c pg) x')).give ca) was true)) := by
  have hf0 := (dec_fits hy).inner rfl
  dsimp only at hf0
  obtain ⟨z1, z2, z3, _, z5⟩ := hf0
  have hm1 := (List.getElem?_eq_some_iff.1 ok.k).1
  have f1 := ok.f1
  rw [hev] at f1
  have hB1 : ∀ q, (B.wrote ca (encN (B.c ca) x')).Has q ↔ B.Has q := fun q => AP.wrote_has
  have hgv := ((ok.good.wrote ca (encN (B.c ca) x')).give ((hB1 cb).2 ok.hb)).2.1
  refine ⟨fun h1 => ?_, fun h1 => ⟨(hgv pg).2 ⟨(hB1 pg).2 ok.hp, ok.pb⟩, fun h2 => ?_, fun h2 => ?_⟩⟩
  · subst h1
    refine ⟨AP.wrote_has.2 ((hB1 pg).2 ok.hp), ⟨(fun h => by cases h), fun _ => ⟨by rw [List.length_set]; exact z1, z2, z3, rfl, z5⟩⟩, ?_⟩
    exact .even hy hki hc hps hm ok.ka ok.kb ok.k ok.na ok.nb hev rfl
  · subst h1
    have e1 : (kids.take (m + 1) ++ kids.drop (m + 2)).length = kids.length - 1 := by rw [List.length_append, List.length_take, List.length_drop]; omega
    have e2 : (keys.take m ++ keys.drop (m + 1)).length = keys.length - 1 := by rw [List.length_append, List.length_take, List.length_drop]; omega
    refine ⟨⟨(fun h => by cases h), fun _ => ⟨by dsimp only; omega, by dsimp only; omega, by dsimp only; omega, rfl, fun q hq => ?_⟩⟩, ?_⟩
    · rcases List.mem_append.1 hq with h | h
      · exact z5 q (List.mem_of_mem_take h)
      · exact z5 q (List.mem_of_mem_drop h)
    · have := DropS.join hy hki hc hps hm ok.ka ok.kb ok.k ok.na ok.nb hev rfl h2
      rw [← e1] at this
      exact this
  · subst h1
    have hm0 : m = 0 := by omega
    subst hm0
    refine ⟨(hgv ca).2 ⟨(hB1 ca).2 ok.ha, ok.ne⟩, ?_, ?_, DropS.lift hy hki hc hps hm ok.ka ok.kb ok.k ok.na ok.nb hev rfl h2⟩
    · rw [ndAt_give, ndAt_wrote (ok.clen _ ok.ha) f1, if_pos rfl]
    · have := ok.ka
      match kids, h2, this with
      | [p, q], _, h => simpa using h
end
end
end Go.Proofs.YtfljlcfmdcepnaaGreatDoor
namespace Go.Proofs.YtfljlcfmdcepnaaGreatDoor
open Go.RowKit
open UK (str BytesAt nth Only Row Box)
section
variable {E : Nat → Prop} {W W' : World} {P D T k pg : Nat} {A : AP}
theorem drop_found {rt : Nat} {ks vs : List UInt64} (h : TreeAt E W P D T rt A k) (hk : k + 5 < 900000000) (hp : A.Has pg) (hy : ndAt A pg = some ⟨true, ks, vs, []⟩) (hs : Sorted ks) (hl : ks.length ≤ 30) (key : UInt64) (hin : key ∈ ks) (deep : Nat) (hd : deep ≤ 20) :
    Calls Tryz.prog 79 #[.pointer (some ⟨T, 0, none⟩), .int .i64 pg, .int .u64 key.toNat, .int .i64 deep] W fun e w' => DropR E W w' P D T rt A (k + 5) pg 0 key e := by
  have hL := leafIs_of hp hy hs
  refine (drop_leaf h hk hL hl key hin deep hd).mono ?_
  rintro e w' ⟨i, rfl, hi, hst, ht, kp⟩
  have hf := hst.found hs hin
  refine ⟨_, true, _, k + 5, rfl, .leaf hy hf, ?_, Nat.le_refl _, kp⟩
  have e1 : encN (A.c pg) ⟨true, ks.take i ++ ks.drop (i + 1), vs.take i ++ vs.drop (i + 1), []⟩ = encLeaf (A.c pg) (ks.take i ++ ks.drop (i + 1)) (vs.take i ++ vs.drop (i + 1)) := by unfold encN; rw [if_pos rfl]
  rw [e1]
  exact ht
set_option maxHeartbeats 4000000 in
set_option maxRecDepth 100000 in
theorem drop_none {rt : Nat} {ks vs : List UInt64} (h : TreeAt E W P D T rt A k) (hk : k + 5 < 900000000) (hp : A.Has pg) (hy : ndAt A pg = some ⟨true, ks, vs, []⟩) (hs : Sorted ks) (hl : ks.length ≤ 30) (key : UInt64) (hno : key ∉ ks) (deep : Nat) (hd : deep ≤ 20) :
    Calls Tryz.prog 79 #[.pointer (some ⟨T, 0, none⟩), .int .i64 pg, .int .u64 key.toNat, .int .i64 deep] W fun e w' => DropR E W w' P D T rt A (k + 5) pg 0 key e := by
  have HL := Lib.hid (load_any h.pz (by omega) h.box hp hy)
  have HH := Lib.hid (And.intro h hy)
  have hdn : ¬ (20 : Int) < (deep : Int) := by omega
  clear h hp hy
  go_enter Tryz.func79, Tryz.ntmps79
  go_wp2_with fail
  refine HL.out.mono ?_
  rintro e w1 ⟨N, M, nb, ka, va, aa, kc, vc, ac, rfl, hN, hM, ⟨hn1, hnM, hgM⟩, p1, k1⟩
  have b0 : w1.cell? ⟨nb, 0, none⟩ = some (.bool true) := hn1.box.cell 0 _ rfl
  have b1 : w1.cell? ⟨nb, 1, none⟩ = some (.slice ka ks.length kc) := hn1.box.cell 1 _ rfl
  have hS := search_any (hn1.k.win (S := fun _ => True) (fun _ _ => trivial)) hs (show ks.length ≤ 1000 by omega) key
  rw [u64s_length, decide_eq_false hno] at hS
  have HS := Lib.hid hS
  have H1 := Lib.hid (And.intro p1 k1)
  clear HL hn1 hnM hgM p1 k1 hS hN hM
  go_wp2_with fail
  refine HS.out.mono ?_
  rintro e w2 ⟨i, rfl, hst, rfl⟩
  clear hst HS
  go_wp2
  go_ret3
  obtain ⟨h, hy⟩ := HH.out
  obtain ⟨p1, k1⟩ := H1.out
  exact ⟨A, false, false, k + 2, rfl, .none hy hno, ⟨p1.less (fun _ hj => .inl hj), h.box.of_block (k1.block T h.mem), h.mem⟩, by omega, k1⟩
set_option linter.unusedSimpArgs false in
set_option maxHeartbeats 8000000 in
set_option maxRecDepth 100000 in
theorem drop_inner {rt d K0 i c : Nat} {keys : List UInt64} {kids : List Nat} (h : TreeAt E W P D T rt A k) (hk : k + K0 + 60 < 900000000) (hp : A.Has pg) (hy : ndAt A pg = some ⟨false, keys, [], kids⟩) (hs : Sorted keys) (hl : keys.length ≤ 100) (hl1 : 1 ≤ keys.length) (hlk : kids.length = keys.length + 1) (key : UInt64) (deep : Nat) (hd : deep ≤ 20)
    (hki : KidIx keys key i) (hc : kids[i]? = some c)
    (hrec : ∀ (E1 : Nat → Prop) (w1 : World), TreeAt E1 w1 P D T rt A (k + 2) → Calls Tryz.prog 79 #[.pointer (some ⟨T, 0, none⟩), .int .i64 c, .int .u64 key.toNat, .int .i64 ((deep : Int) + 1)] w1 fun e w' => DropR E1 w1 w' P D T rt A (k + 2 + K0) c d key e)
    (hok : ∀ (B : AP) (was : Bool), DropS key d A c B was true → ∃ ca cb κ xa xb, PairOk B pg keys kids (pairN kids.length i) ca cb κ xa xb) :
    Calls Tryz.prog 79 #[.pointer (some ⟨T, 0, none⟩), .int .i64 pg, .int .u64 key.toNat, .int .i64 deep] W fun e w' => DropR E W w' P D T rt A (k + K0 + 60) pg (d + 1) key e := by
  have HL := Lib.hid (load_any h.pz (by omega) h.box hp hy)
  have HH := Lib.hid (And.intro h (And.intro hp (And.intro hy hlk)))
  have HO := Lib.hid hok
  have HR := Lib.hid hrec
  have hic : i < kids.length := (List.getElem?_eq_some_iff.1 hc).1
  have hii : (i : Int) < (kids.length : Int) := Int.ofNat_lt.2 hic
  have hdw : IntKind.i64.wrap ((deep : Int) + 1) = (deep : Int) + 1 := by rw [IntKind.wrap_i64]; omega
  have hdw2 : wrap64 ((deep : Int) + 1) = (deep : Int) + 1 := by unfold wrap64; omega
  have hdn : ¬ (20 : Int) < (deep : Int) := by omega
  clear h hp hy hlk hok hrec
  go_enter Tryz.func79, Tryz.ntmps79
  go_wp2_with fail
  refine HL.out.mono ?_
  rintro e w1 ⟨N, M, nb, ka, va, aa, kc, vc, ac, rfl, hN, hM, ⟨hn1, hnM, hgM⟩, p1, k1⟩
  obtain ⟨h, hp, hy, hlk⟩ := HH.out
  have hnr : NodeR (fun _ => True) w1 nb ⟨false, keys, [], kids⟩ := hn1.wins.1.reads (fun _ _ => trivial) trivial
  have HK := Lib.hid (kid_any hnr hs (show keys.length ≤ 1000 by omega) key)
  have b0 : w1.cell? ⟨nb, 0, none⟩ = some (.bool false) := hn1.box.cell 0 _ rfl
  have b3 : w1.cell? ⟨nb, 3, none⟩ = some (.slice aa kids.length ac) := hn1.box.cell 3 _ rfl
  obtain ⟨ga, rfl, ra⟩ : ∃ ga, aa = some ⟨ga, 0, none⟩ ∧ Row w1 ga ac (ints kids) := by
    rcases hn1.a with ⟨_, h2, _⟩ | ⟨g, h1, h2⟩
    · have := congrArg List.length h2
      rw [ints_length] at this
      exact absurd this (by show kids.length ≠ 0; omega)
    · exact ⟨g, h1, h2⟩
  have hcc : w1.cell? ⟨ga, i, none⟩ = some (.int .i64 (c : Int)) := ra.at' i _ (by unfold ints; rw [List.getElem?_map, hc]; rfl)
  have H1 := Lib.hid (And.intro hN (And.intro hM (And.intro hn1 (And.intro hnM (And.intro hgM (And.intro p1 k1))))))
  have HT := Lib.hid (HR.out _ w1 ⟨p1, h.box.of_block (k1.block T h.mem), .inl h.mem⟩)
  clear HL hn1 hnM hgM p1 k1 hN hM h hp hy hlk hnr HR ra
  go_wp2_with fail
  refine HK.out.mono ?_
  rintro e w2 ⟨i2, rfl, hki2, rfl⟩
  obtain rfl : i = i2 := (hki2.inj hki).symm
  go_wp2_with fail
  refine HT.out.mono ?_
  rintro e w3 ⟨B, was, poor, kk, rfl, hps, ht3, hkk, k3⟩
  obtain ⟨hN, hM, hn1, hnM, hgM, p1, k1⟩ := H1.out
  obtain ⟨h, hp, hy, hlk⟩ := HH.out
  have kE : Kept E W w3 := k1.trans (k3.mono (fun _ hj => .inl hj))
  cases poor with
  | false =>
    have hG : DropR E W w3 P D T rt A (k + K0 + 60) pg (d + 1) key (.returned (.tuple #[.bool was, .bool false, .int .i64 0])) :=
      ⟨B, was, false, kk, rfl, .rich hy hki hc hps, ⟨ht3.pz.less (fun _ hj => .inl hj), ht3.box, h.mem⟩, by omega, kE⟩
    have HG := Lib.hid hG
    clear H1 HH HO hN hM hn1 hnM hgM p1 k1 h hp hy hlk kE hG ht3 k3 hps hkk HT HK hki hki2 hs hl hl1 hc hcc b0 b3 hic hii
    go_wp2
    go_ret3
    exact HG.out
  | true =>
    obtain ⟨ca, cb, κ, xa, xb, ok⟩ := HO.out B was hps
    have hn3 : NodeO N w3 nb ⟨false, keys, [], kids⟩ ka va (some ⟨ga, 0, none⟩) kc vc ac := hn1.move hnM hgM k3.size (fun g h1 h2 => k3.block g (.inr ⟨h1, h2⟩))
    have hR : ∀ j, ndB ka va (some ⟨ga, 0, none⟩) nb j → N ≤ j ∧ j < M := fun j hj => by
      rcases hj with hj | hj | hj | rfl
      · exact ⟨(hn1.new j (.inl hj)).1, hgM j (.inl hj)⟩
      · exact ⟨(hn1.new j (.inr (.inl hj))).1, hgM j (.inr (.inl hj))⟩
      · exact ⟨(hn1.new j (.inr (.inr hj))).1, hgM j (.inr (.inr hj))⟩
      · exact ⟨hn1.ge, hnM⟩
    have hEn : ∀ j, E j → j < N := fun j hj => Nat.lt_of_lt_of_le (h.pz.there j hj) hN
    obtain ⟨⟨x', y', κ', one⟩, hev⟩ : ∃ x, evenN xa xb κ = x := ⟨_, rfl⟩
    obtain ⟨m, hm⟩ : ∃ m, m = pairN kids.length i := ⟨_, rfl⟩
    rw [← hm] at ok
    have hmend := mend_any (E := fun j => E j ∨ N ≤ j ∧ j < M) (k := kk) (i := i) (m := m) ht3.pz (by omega) ht3.box (.inl h.mem) hn3 (fun g hg => .inr (hR g hg)) (fun hT => by have := (hR _ hT).1; have := hEn T h.mem; omega) (fun hT => by have := (hR _ hT).1; have := h.pz.tab.lt; omega) ok rfl hlk hl1 hl (by omega) (by rw [← hlk]; exact hm)
    rw [hev] at hmend
    dsimp only at hmend
    have hways := drop_ways (d := d) (was := was) hy hki hc hps hm ok hev
    have HMe := Lib.hid hmend
    have hlf : Fits x' := by have := ok.f1; rw [hev] at this; exact this
    have HRest := Lib.hid (fun (w4 : World) (C : AP) (x : Nd) hM hpC hx hD => drop_rest (nb := nb) (pg := pg) (w3 := w3) (w4 := w4) (N := N) (M := M) (d := d) (K0 := K0) (kk := kk) (key := key) (was := was) (R := ndB ka va (some ⟨ga, 0, none⟩) nb) (C := C) (x := x) h hk hN hR kE hkk hM hpC hx hD)
    have HLift := Lib.hid (fun (w4 : World) (C : AP) (x y : Nd) hM hpC hcC hy hD => drop_lift (nb := nb) (pg := pg) (w3 := w3) (w4 := w4) (N := N) (M := M) (d := d) (K0 := K0) (kk := kk) (key := key) (was := was) (R := ndB ka va (some ⟨ga, 0, none⟩) nb) (C := C) (x := x) (y := y) (ca := ca) h hk hN hR kE hkk hM hpC hcC hy hD)
    have HW := Lib.hid hways
    have h2k : 2 ≤ kids.length := by omega
    have hmk : m + 1 < kids.length := by have := (List.getElem?_eq_some_iff.1 ok.kb).1; exact this
    have hHK := Lib.hid (And.intro h2k hmk)
    clear H1 HH HO hN hM hn1 hnM hgM p1 k1 h hp hy hlk kE ht3 k3 hps hkk HT HK hki hki2 hs hl hl1 hc hcc b0 b3 hic hii hmend hways hn3 hR hEn hev ok hm hlf hk h2k hmk hdw hdw2 hdn hd
    go_wp2_with fail
    refine HMe.out.mono ?_
    rintro e w4 ⟨rfl, hfl, htr⟩
    cases one with
    | false =>
      have hM := hfl rfl
      obtain ⟨hpC, hx, hD⟩ := HW.out.1 rfl
      obtain ⟨hP, hS⟩ := HRest.out w4 _ _ hM hpC hx hD
      obtain ⟨L, H, k4, _, _, _, hr, _, _⟩ := hM
      obtain ⟨ao, cp, ck, _, _⟩ := hr.kidsAt
      dsimp only at ck
      have hk1 : ((kids.length : Int) == 1) = false := beq_eq_false_iff_ne.2 (by have := hHK.out.1; omega)
      have HP := Lib.hid hP
      have HS := Lib.hid hS
      clear hP hS hpC hx hD hfl htr hr HRest HLift HW HMe hHK
      go_wp2_with fail
      refine HP.out.mono ?_
      rintro e w5 ⟨rfl, rfl⟩
      go_wp2_with fail
      refine HS.out.mono ?_
      rintro e w6 ⟨rfl, hG⟩
      have HG := Lib.hid hG
      clear hG HS HP ck hk1
      go_wp2
      go_ret3
      exact HG.out
    | true =>
      have hM := htr rfl
      obtain ⟨hpC, hne, heq⟩ := HW.out.2 rfl
      by_cases h2 : kids.length = 2
      · obtain ⟨hcC, hyC, hka, hD⟩ := heq h2
        have hLi := HLift.out w4 _ _ _ hM hpC hcC hyC hD
        obtain ⟨L, H, k4, _, _, _, hr, _, _⟩ := hM
        rw [hka] at hr
        obtain ⟨ao, cp, ck, _, hat⟩ := hr.kidsAt
        obtain ⟨g, o, rfl, c0⟩ := hat 0 ca rfl
        rw [Nat.add_zero] at c0
        replace ck : w4.cell? ⟨nb, 3, none⟩ = some (.slice (some ⟨g, o, none⟩) 1 cp) := ck
        have HLi := Lib.hid hLi
        clear hLi hcC hyC hka hD hpC hne heq hfl htr hr hat HRest HLift HW HMe hHK h2
        go_wp2_with fail
        refine HLi.out.mono ?_
        rintro e w6 ⟨rfl, hG⟩
        have HG := Lib.hid hG
        clear hG HLi ck c0
        go_wp2
        go_ret3
        exact HG.out
      · obtain ⟨hx, hD⟩ := hne h2
        obtain ⟨hP, hS⟩ := HRest.out w4 _ _ hM hpC hx hD
        obtain ⟨L, H, k4, _, _, _, hr, _, _⟩ := hM
        obtain ⟨ao, cp, ck, _, _⟩ := hr.kidsAt
        dsimp only at ck
        have hkl : (kids.take (m + 1) ++ kids.drop (m + 2)).length ≠ 1 := by rw [List.length_append, List.length_take, List.length_drop]; have := hHK.out.1; have := hHK.out.2; omega
        generalize (kids.take (m + 1) ++ kids.drop (m + 2)).length = kl at ck hkl
        have hk1 : ((kl : Int) == 1) = false := beq_eq_false_iff_ne.2 (by omega)
        have HP := Lib.hid hP
        have HS := Lib.hid hS
        clear hP hS hpC hx hD hfl htr hr HRest HLift HW HMe hHK hne heq h2 hkl
        go_wp2_with fail
        refine HP.out.mono ?_
        rintro e w5 ⟨rfl, rfl⟩
        go_wp2_with fail
        refine HS.out.mono ?_
        rintro e w6 ⟨rfl, hG⟩
        have HG := Lib.hid hG
        clear hG HS HP ck hk1
        go_wp2
        go_ret3
        exact HG.out
end
end Go.Proofs.YtfljlcfmdcepnaaGreatDoor
