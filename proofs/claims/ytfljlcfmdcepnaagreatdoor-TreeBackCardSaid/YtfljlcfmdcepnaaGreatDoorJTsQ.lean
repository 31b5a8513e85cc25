/-
  The tree: Get: the walk.
  The tree: Next: what is known at each round (plain), and the walk.
-/
import Derived.Test.YtfljlcfmdcepnaaGreatDoorJTsS
import Derived.Test.YtfljlcfmdcepnaaGreatDoorJTsN
namespace Go.Proofs.YtfljlcfmdcepnaaGreatDoor
open Go.RowKit
open UK (str BytesAt nth Only Row Box)
section
variable {E : Nat → Prop} {W W' : World} {P D T k rt : Nat} {A : AP} {l : List KV} {ps : List Nat}
def GetAns : Option KV → Value
  | some x => .tuple #[.int .u64 x.2.toNat, .bool true, .int .i64 0]
  | none => .tuple #[.int .u64 0, .bool false, .int .i64 0]
set_option maxHeartbeats 4000000 in
set_option maxRecDepth 100000 in
theorem tree_get_any (h : TreeAt E W P D T rt A k) (hk : k + 50 < 900000000) (ht : TI A rt l ps) (hg : A.Good) (key : UInt64) :
    Calls Tryz.prog 49 #[.pointer (some ⟨T, 0, none⟩), .int .u64 key.toNat] W fun e w' => e = .returned (GetAns (valL l key)) ∧ TreeAt E w' P D T rt A (k + 50) ∧ Kept E W w' := by
  obtain ⟨d, s, hT, rfl, rfl, rfl⟩ := ht.ex
  have hdep := tr_depth hT ht.nod ht.has hg
  have t1 : W.cell? ⟨T, 1, none⟩ = some (.int .i64 s.pg) := h.box.cell 1 _ rfl
  have HH := Lib.hid (And.intro h (And.intro hT ht))
  clear h hT ht
  go_enter Tryz.func49, Tryz.ntmps49
  go_wp2_with fail
  go_loopw [7, 16] (fun pv iv wr => ∃ (j dt : Nat) (t : Sb), pv = .int .i64 t.pg ∧ iv = .int .i64 j ∧ j + dt ≤ 16 ∧ At A dt t ∧ valL s.l key = valL t.l key ∧ PZ E wr P D A (k + 2 * j) ∧ Kept E W wr) (fun _ iv _ => 20 - (intOf iv).toNat)
  case atStart =>
    obtain ⟨h, hT, ht⟩ := HH.out
    exact ⟨0, d, s, rfl, rfl, by omega, ⟨hT, ht.has⟩, rfl, h.pz, Kept.refl _ _⟩
  case round =>
    clear t1
    obtain ⟨j, dt, t, rfl, rfl, hj, hAt, hv, hp, hkp⟩ := hrel
    obtain ⟨h, hT, ht⟩ := HH.out
    have hb := h.box.of_block (hkp.block T h.mem)
    have hj20 : (j : Int) < 20 := by omega
    have hjw : IntKind.i64.wrap ((j : Int) + 1) = (j : Int) + 1 := by rw [IntKind.wrap_i64]; omega
    have hjw2 : wrap64 ((j : Int) + 1) = (j : Int) + 1 := by unfold wrap64; omega
    have hpg := hAt.has _ hAt.tr.mem
    cases dt with
    | zero =>
      obtain ⟨ks, vs, h1, h2, h3, h4, h5⟩ := hAt.tr
      have hfit := (dec_fits h1).leaf rfl
      have HL := Lib.hid (load_any hp (by omega) hb hpg h1)
      have HX := Lib.hid (And.intro hv (And.intro h2 (And.intro h3 (And.intro h4 (And.intro hkp (And.intro hb (show ks.length ≤ 30 from hfit.1)))))))
      clear hAt hp hb hpg h1 h2 h3 h4 h5 hkp hv hfit h hT ht hdep
      go_wp2_with fail
      refine HL.out.mono ?_
      rintro e w1 ⟨N, M, nb, ka, va, aa, kc, vc, ac, rfl, hN, hM, ⟨hn1, hnM, hgM⟩, p1, k1⟩
      obtain ⟨hv, h2, h3, h4, hkp, hb, hl30⟩ := HX.out
      have b0 : w1.cell? ⟨nb, 0, none⟩ = some (.bool true) := hn1.box.cell 0 _ rfl
      have b1 : w1.cell? ⟨nb, 1, none⟩ = some (.slice ka ks.length kc) := hn1.box.cell 1 _ rfl
      have b2 : w1.cell? ⟨nb, 2, none⟩ = some (.slice va vs.length vc) := hn1.box.cell 2 _ rfl
      have hS := search_any (hn1.k.win (S := fun _ => True) (fun _ _ => trivial)) h3 (show ks.length ≤ 1000 by omega) key
      rw [u64s_length] at hS
      have hF : TreeAt E w1 P D T s.pg A (k + 50) ∧ Kept E W w1 := ⟨⟨(p1.less (fun _ hj => .inl hj)).up (by omega), hb.of_block (k1.block T HH.out.1.mem), HH.out.1.mem⟩, hkp.trans k1⟩
      have HF := Lib.hid hF
      have HVV := Lib.hid hn1.v
      have HV4 := Lib.hid (show valL s.l key = valL (ks.zip vs) key by rw [hv, h4])
      by_cases hm : key ∈ ks
      · rw [decide_eq_true hm] at hS
        have HS := Lib.hid hS
        have HM := Lib.hid (And.intro hm (And.intro h3 h2))
        clear HL HX hn1 hnM hgM p1 k1 hS hN hM hv h2 h3 h4 hkp hb hl30 hF hm
        go_wp2_with fail
        refine HS.out.mono ?_
        rintro e w2 ⟨i, rfl, hst, rfl⟩
        obtain ⟨hm, h3, h2⟩ := HM.out
        obtain ⟨v, hvi, hval⟩ := valL_zip h3 h2 (hst.found h3 hm)
        obtain ⟨ao2, c2, q2, hc2, hr2⟩ := HVV.out.win (S := fun _ => True) (fun _ _ => trivial)
        obtain ⟨g2, o2, rfl, _, cy⟩ := hr2 _ _ (u64s_at _ _ _ hvi)
        injection q2 with q5 q6 q7
        subst q5
        have hii : (i : Int) < (vs.length : Int) := Int.ofNat_lt.2 (List.getElem?_eq_some_iff.1 hvi).1
        have HVA := Lib.hid (HV4.out.trans hval)
        clear hval hvi hr2 hm h3 h2 hst HS HM q6 q7 hc2
        go_wp2_with fail
        go_ret3
        rw [HVA.out]
        exact ⟨rfl, HF.out⟩
      · rw [decide_eq_false hm] at hS
        have HS := Lib.hid hS
        have HM := Lib.hid (HV4.out.trans (valL_no (vs := vs) hm))
        clear HL HX hn1 hnM hgM p1 k1 hS hN hM hv h2 h3 h4 hkp hb hl30 hF hm
        go_wp2_with fail
        refine HS.out.mono ?_
        rintro e w2 ⟨i, rfl, hst, rfl⟩
        clear hst HS
        go_wp2
        go_ret3
        rw [HM.out]
        exact ⟨rfl, HF.out⟩
    | succ dt =>
      obtain ⟨keys, subs, h1, h2, h3, h4⟩ := hAt.tr
      have hfit := (dec_fits h1).inner rfl
      dsimp only at hfit
      obtain ⟨i, hki⟩ := kidIx_ex keys h2.up key
      have hlen := h2.len
      have hle := hki.le
      obtain ⟨u, hu⟩ : ∃ u, subs[i]? = some u := ⟨_, List.getElem?_eq_getElem (by omega)⟩
      have hcc : (subs.map Sb.pg)[i]? = some u.pg := by rw [List.getElem?_map, hu]; rfl
      have hK : KidAt A dt t keys subs i u := ⟨h1, h2, h3, h4, hu⟩
      have hkid := hAt.kid hK
      have hval := hK.val hki
      have HL := Lib.hid (load_any hp (by omega) hb hpg h1)
      have HX := Lib.hid (And.intro hkp (And.intro hkid.1 (And.intro (hv.trans hval) (And.intro h2.up (And.intro hki hcc)))))
      have hls : (subs.map Sb.pg).length = keys.length + 1 := hfit.1
      have hil : i < keys.length + 1 := by omega
      have hkl : keys.length ≤ 100 := by omega
      clear hAt hp hb hpg h1 h2 h3 h4 hkp hv hfit h hT ht hdep hK hkid hval hlen hu hcc hki hle
      go_wp2_with fail
      refine HL.out.mono ?_
      rintro e w1 ⟨N, M, nb, ka, va, aa, kc, vc, ac, rfl, hN, hM, ⟨hn1, hnM, hgM⟩, p1, k1⟩
      obtain ⟨hkp, hkid, hval, hup, hki, hcc⟩ := HX.out
      have bx := hn1.box
      dsimp only at bx
      rw [hls] at bx
      have b0 : w1.cell? ⟨nb, 0, none⟩ = some (.bool false) := bx.cell 0 _ rfl
      have b3 : w1.cell? ⟨nb, 3, none⟩ = some (.slice aa (keys.length + 1) ac) := bx.cell 3 _ rfl
      obtain ⟨ga, rfl, ra⟩ : ∃ ga, aa = some ⟨ga, 0, none⟩ ∧ Row w1 ga ac (ints (subs.map Sb.pg)) := by
        rcases hn1.a with ⟨_, h2, _⟩ | ⟨g, h1, h2⟩
        · have := congrArg List.length h2
          rw [ints_length] at this
          exact absurd this (by show (subs.map Sb.pg).length ≠ 0; omega)
        · exact ⟨g, h1, h2⟩
      have cc : w1.cell? ⟨ga, i, none⟩ = some (.int .i64 (u.pg : Int)) := ra.at' i _ (kids_is _ _ _ hcc)
      have hnr : ∀ q, NodeR (fun _ => True) (w1.drewN q) nb ⟨false, keys, [], subs.map Sb.pg⟩ := fun q => (hn1.next (UK.belowN (Below.refl _ _) q)).wins.1.reads (fun _ _ => trivial) trivial
      have hKd : ∀ q, Calls Tryz.prog 94 #[.pointer (some ⟨nb, 0, none⟩), .int .u64 key.toNat] (w1.drewN q) fun e w' => e = .returned (.int .i64 (i : Int)) ∧ w' = w1.drewN q := fun q => (kid_any (hnr q) hup (show keys.length ≤ 1000 by omega) key).mono (fun e w' ⟨i2, he, hk2, hw⟩ => ⟨by rw [he, hki.inj hk2], hw.symm⟩)
      have hii : (i : Int) < ((keys.length : Int) + 1) := by omega
      have HF := Lib.hid (fun (q : Nat) => (show At A dt u ∧ valL s.l key = valL u.l key ∧ PZ E (w1.drewN q) P D A (k + 2 * (j + 1)) ∧ Kept E W (w1.drewN q) from
        ⟨hkid, hval, ((p1.less (T := E) (fun _ hj => .inl hj)).next (UK.belowN (Below.refl _ _) q)).up (by omega), (hkp.trans k1).trans ((p1.less (T := E) (fun _ hj => .inl hj)).kept (UK.belowN (Below.refl _ _) q))⟩))
      clear HL HX hn1 hnM hgM p1 k1 hN hM hkp hkid hval hup hki hcc ra hnr bx hls
      go_wp2_with fail
      go_quiet (first | (go_at_call 94; with_reducible exact Calls.quiet_of_same (hKd _)))
      go_wp2
      go_roundw
      case rel => exact ⟨j + 1, dt, u, rfl, by go_num, by omega, HF.out _⟩
      case measure => simp [intOf]; omega
end
end Go.Proofs.YtfljlcfmdcepnaaGreatDoor
namespace Go.Proofs.YtfljlcfmdcepnaaGreatDoor
open Go.RowKit
open UK (str BytesAt nth Only Row Box)
def NxtI (A : AP) (d : Nat) (s : Sb) (k : UInt64) (j pg right : Nat) : Prop := ∃ dt t, t.pg = pg ∧ At A dt t ∧
  ((j + dt ≤ d ∧ ((right = 0 ∧ nxtL s.l k = nxtL t.l k) ∨ ∃ dr r, right = r.pg ∧ dr ≤ d ∧ At A dr r ∧ r.l ≠ [] ∧ (∀ x ∈ r.l, k.toNat ≤ x.1.toNat) ∧ nxtL s.l k = (nxtL t.l k).or (nxtL r.l k))) ∨
   (j + dt ≤ 2 * d + 1 ∧ nxtL s.l k = nxtL t.l k ∧ t.l ≠ [] ∧ ∀ x ∈ t.l, k.toNat ≤ x.1.toNat))
inductive NxtN (A : AP) (d : Nat) (s : Sb) (k : UInt64) (j pg right : Nat) : Prop
  | leaf (i : Nat) (ks vs : List UInt64) : ndAt A pg = some ⟨true, ks, vs, []⟩ → Sorted ks → vs.length = ks.length → Stands ks k i → (∀ a b, ks[i]? = some a → vs[i]? = some b → nxtL s.l k = some (a, b)) → (i = ks.length → right = 0 → nxtL s.l k = none) → (i = ks.length → right ≠ 0 → NxtI A d s k (j + 1) right 0) → NxtN A d s k j pg right
  | inner (i : Nat) (keys : List UInt64) (kids : List Nat) (u : Nat) : ndAt A pg = some ⟨false, keys, [], kids⟩ → Sorted keys → KidIx keys k i → kids[i]? = some u → (i + 1 = kids.length → NxtI A d s k (j + 1) u right) → (∀ v, kids[i + 1]? = some v → NxtI A d s k (j + 1) u v) → NxtN A d s k j pg right
theorem stands_ex : ∀ (ks : List UInt64), Sorted ks → ∀ k : UInt64, ∃ i, Stands ks k i
  | [], _, _ => ⟨0, Nat.le_refl _, fun _ _ h => absurd h (Nat.not_lt_zero _), fun j x _ h => by simp at h⟩
  | κ :: ks, hs, k => by
    by_cases h : κ.toNat < k.toNat
    · obtain ⟨i, hi⟩ := stands_ex ks (hs.drop 1) k
      refine ⟨i + 1, Nat.succ_le_succ hi.le, fun j x hj hx => ?_, fun j x hj hx => ?_⟩
      · cases j with
        | zero => obtain rfl : κ = x := by simpa using hx
                  exact h
        | succ j => exact hi.below j x (by omega) (by simpa using hx)
      · cases j with
        | zero => omega
        | succ j => exact hi.above j x (by omega) (by simpa using hx)
    · refine ⟨0, Nat.zero_le _, fun j x hj _ => absurd hj (Nat.not_lt_zero _), fun j x _ hx => ?_⟩
      cases j with
      | zero => obtain rfl : κ = x := by simpa using hx
                omega
      | succ j =>
        have := hs 0 (j + 1) κ x (by omega) rfl hx
        omega
theorem At.pos {A : AP} {d : Nat} {t : Sb} (h : At A d t) : t.pg ≠ 0 := by
  have := (h.has _ h.tr.mem).1
  omega
theorem NxtI.node {A : AP} {d : Nat} {s : Sb} {k : UInt64} {j pg right : Nat} (h : NxtI A d s k j pg right) : NxtN A d s k j pg right ∧ A.Has pg := by
  obtain ⟨dt, t, rfl, hAt, hor⟩ := h
  refine ⟨?_, hAt.has _ hAt.tr.mem⟩
  cases dt with
  | zero =>
    obtain ⟨ks, vs, h1, h2, h3, h4, h5⟩ := hAt.tr
    obtain ⟨i, hst⟩ := stands_ex ks h3 k
    have hz := nxtL_zip hst h2
    refine .leaf i ks vs h1 h3 h2 hst (fun a b ha hb => ?_) (fun hi h0 => ?_) (fun hi h0 => ?_)
    · rw [ha, hb] at hz
      rcases hor with ⟨_, ⟨_, e⟩ | ⟨dr, r, _, _, _, _, _, e⟩⟩ | ⟨_, e, _⟩
      · rw [e, h4]; exact hz
      · rw [e, h4, hz]; rfl
      · rw [e, h4]; exact hz
    · rw [List.getElem?_eq_none (by omega)] at hz
      rcases hor with ⟨_, ⟨_, e⟩ | ⟨dr, r, hr, _, ha, _, _, e⟩⟩ | ⟨_, e, ht0, hta⟩
      · rw [e, h4]; exact hz
      · exact absurd (hr ▸ h0) ha.pos
      · obtain ⟨x, hx⟩ := nxtL_some ht0 hta
        rw [h4] at hx
        have : some x = none := hx.symm.trans hz
        cases this
    · rw [List.getElem?_eq_none (by omega)] at hz
      rcases hor with ⟨hj, ⟨e0, e⟩ | ⟨dr, r, hr, hdr, ha, hr0, hra, e⟩⟩ | ⟨_, e, ht0, hta⟩
      · exact absurd e0 h0
      · refine ⟨dr, r, hr.symm, ha, .inr ⟨by omega, ?_, hr0, hra⟩⟩
        rw [e, h4, hz]
        rfl
      · obtain ⟨x, hx⟩ := nxtL_some ht0 hta
        rw [h4] at hx
        have : some x = none := hx.symm.trans hz
        cases this
  | succ dt =>
    obtain ⟨keys, subs, h1, h2, h3, h4⟩ := hAt.tr
    obtain ⟨i, hki⟩ := kidIx_ex keys h2.up k
    have hlen := h2.len
    have hle := hki.le
    obtain ⟨u, hu⟩ : ∃ u, subs[i]? = some u := ⟨_, List.getElem?_eq_getElem (by omega)⟩
    have hcc : (subs.map Sb.pg)[i]? = some u.pg := by rw [List.getElem?_map, hu]; rfl
    have hK : KidAt A dt t keys subs i u := ⟨h1, h2, h3, h4, hu⟩
    obtain ⟨hAu, hFu⟩ := hAt.kid hK
    have hu0 : u.l ≠ [] := fun h0 => by
      have := hAu.tr.many _ _ hFu
      rw [h0] at this
      simp at this
    have hsub : ∀ x ∈ u.l, x ∈ t.l := fun x hx => by rw [h3, flatL_at hu]; simp [hx]
    refine .inner i keys (subs.map Sb.pg) u.pg h1 h2.up hki hcc (fun hl => ?_) (fun v hv => ?_)
    · rw [List.length_map] at hl
      have hn := hK.last hki hl
      refine ⟨dt, u, rfl, hAu, ?_⟩
      rcases hor with ⟨hj, ⟨e0, e⟩ | ⟨dr, r, hr, hdr, ha, hr0, hra, e⟩⟩ | ⟨hj, e, ht0, hta⟩
      · exact .inl ⟨by omega, .inl ⟨e0, e.trans hn⟩⟩
      · exact .inl ⟨by omega, .inr ⟨dr, r, hr, hdr, ha, hr0, hra, by rw [e, hn]⟩⟩
      · exact .inr ⟨by omega, e.trans hn, hu0, fun x hx => hta x (hsub x hx)⟩
    · obtain ⟨w, hw, rfl⟩ := kids_at hv
      obtain ⟨hn, ⟨x, hx⟩, hw0, hwa⟩ := hK.right hki hw
      have hKw : KidAt A dt t keys subs (i + 1) w := ⟨h1, h2, h3, h4, hw⟩
      obtain ⟨hAw, _⟩ := hAt.kid hKw
      refine ⟨dt, u, rfl, hAu, ?_⟩
      have hor2 : ∀ o : Option KV, ((nxtL u.l k).or (nxtL w.l k)).or o = (nxtL u.l k).or (nxtL w.l k) := fun o => by
        rw [hx]
        cases nxtL u.l k <;> rfl
      rcases hor with ⟨hj, ⟨e0, e⟩ | ⟨dr, r, hr, hdr, ha, hr0, hra, e⟩⟩ | ⟨hj, e, ht0, hta⟩
      · exact .inl ⟨by omega, .inr ⟨dt, w, rfl, by omega, hAw, hw0, hwa, e.trans hn⟩⟩
      · exact .inl ⟨by omega, .inr ⟨dt, w, rfl, by omega, hAw, hw0, hwa, by rw [e, hn, hor2]⟩⟩
      · refine .inr ⟨by omega, ?_, hu0, fun x hx => hta x (hsub x hx)⟩
        obtain ⟨y, hy⟩ := nxtL_some hu0 (fun x hx => hta x (hsub x hx))
        rw [e, hn, hy]
        rfl
theorem NxtI.few {A : AP} {d : Nat} {s : Sb} {k : UInt64} {j pg right : Nat} (h : NxtI A d s k j pg right) (hd : d ≤ 16) : j ≤ 33 := by
  obtain ⟨dt, t, _, _, h | h⟩ := h <;> omega
def NxtAns : Option KV → Value
  | some x => .tuple #[.int .u64 x.1.toNat, .int .u64 x.2.toNat, .bool true, .int .i64 0]
  | none => .tuple #[.int .u64 0, .int .u64 0, .bool false, .int .i64 0]
section
variable {E : Nat → Prop} {W W' : World} {P D T k rt : Nat} {A : AP} {l : List KV} {ps : List Nat}
set_option maxHeartbeats 4000000 in
set_option maxRecDepth 100000 in
theorem tree_next_any (h : TreeAt E W P D T rt A k) (hk : k + 100 < 900000000) (ht : TI A rt l ps) (hg : A.Good) (key : UInt64) :
    Calls Tryz.prog 45 #[.pointer (some ⟨T, 0, none⟩), .int .u64 key.toNat] W fun e w' => e = .returned (NxtAns (nxtL l key)) ∧ TreeAt E w' P D T rt A (k + 100) ∧ Kept E W w' := by
  obtain ⟨d, s, hT, rfl, rfl, rfl⟩ := ht.ex
  have hdep := tr_depth hT ht.nod ht.has hg
  have t1 : W.cell? ⟨T, 1, none⟩ = some (.int .i64 s.pg) := h.box.cell 1 _ rfl
  have hst : NxtI A d s key 0 s.pg 0 := ⟨d, s, rfl, ⟨hT, ht.has⟩, .inl ⟨by omega, .inl ⟨rfl, rfl⟩⟩⟩
  have HH := Lib.hid (And.intro h (And.intro hst hdep))
  clear h hT ht hst hdep
  go_enter Tryz.func45, Tryz.ntmps45
  go_wp2_with fail
  go_loopw [8, 9, 19] (fun pv rv iv wr => ∃ (j pg right : Nat), pv = .int .i64 pg ∧ rv = .int .i64 right ∧ iv = .int .i64 j ∧ NxtI A d s key j pg right ∧ PZ E wr P D A (k + 2 * j) ∧ Kept E W wr) (fun _ _ iv _ => 40 - (intOf iv).toNat)
  case atStart => exact ⟨0, s.pg, 0, rfl, rfl, rfl, HH.out.2.1, HH.out.1.pz, Kept.refl _ _⟩
  case round =>
    clear t1
    obtain ⟨j, pg, right, rfl, rfl, rfl, hI, hp, hkp⟩ := hrel
    obtain ⟨h, _, hdep⟩ := HH.out
    have hj := hI.few hdep
    have hb := h.box.of_block (hkp.block T h.mem)
    have hj20 : (j : Int) < 40 := by omega
    have hjw : IntKind.i64.wrap ((j : Int) + 1) = (j : Int) + 1 := by rw [IntKind.wrap_i64]; omega
    have hjw2 : wrap64 ((j : Int) + 1) = (j : Int) + 1 := by unfold wrap64; omega
    have hkk : k + 2 * j + 2 < 900000000 := by omega
    obtain ⟨hN, hpg⟩ := hI.node
    cases hN with
    | leaf i ks vs h1 h3 h2 hst q1 q2 q3 =>
      have hfit := (dec_fits h1).leaf rfl
      have HL := Lib.hid (load_any hp hkk hb hpg h1)
      have HX := Lib.hid (And.intro h2 (And.intro h3 (And.intro hst (And.intro hkp (And.intro hb (show ks.length ≤ 30 from hfit.1))))))
      have HQ := Lib.hid (And.intro q1 (And.intro q2 q3))
      clear hI hp hb hpg h1 h2 h3 hkp hfit h hdep hst q1 q2 q3 hkk
      go_wp2_with fail
      refine HL.out.mono ?_
      rintro e w1 ⟨N, M, nb, ka, va, aa, kc, vc, ac, rfl, hN, hM, ⟨hn1, hnM, hgM⟩, p1, k1⟩
      obtain ⟨h2, h3, hst, hkp, hb, hl30⟩ := HX.out
      have b0 : w1.cell? ⟨nb, 0, none⟩ = some (.bool true) := hn1.box.cell 0 _ rfl
      have b1 : w1.cell? ⟨nb, 1, none⟩ = some (.slice ka ks.length kc) := hn1.box.cell 1 _ rfl
      have b2 : w1.cell? ⟨nb, 2, none⟩ = some (.slice va vs.length vc) := hn1.box.cell 2 _ rfl
      have hS := search_any (hn1.k.win (S := fun _ => True) (fun _ _ => trivial)) h3 (show ks.length ≤ 1000 by omega) key
      rw [u64s_length] at hS
      have HS := Lib.hid hS
      have HF := Lib.hid (fun (q : Nat) => (show PZ E (w1.drewN q) P D A (k + 2 * (j + 1)) ∧ Kept E W (w1.drewN q) from
        ⟨((p1.less (T := E) (fun _ hj => .inl hj)).next (UK.belowN (Below.refl _ _) q)).up (by omega), (hkp.trans k1).trans ((p1.less (T := E) (fun _ hj => .inl hj)).kept (UK.belowN (Below.refl _ _) q))⟩))
      have HG := Lib.hid (fun (q : Nat) => (show TreeAt E (w1.drewN q) P D T s.pg A (k + 100) ∧ Kept E W (w1.drewN q) from
        ⟨⟨(HF.out q).1.up (by omega), (hb.of_block (k1.block T HH.out.1.mem)).of_block rfl, HH.out.1.mem⟩, (HF.out q).2⟩))
      have HKV := Lib.hid (And.intro hn1.k hn1.v)
      have hle := hst.le
      clear HL hn1 hnM hgM p1 k1 hS hN hM h3 hkp hb hl30
      go_wp2_with fail
      refine HS.out.mono ?_
      rintro e w2 ⟨i2, rfl, hst2, rfl⟩
      have hii2 : i2 = i := by
        rcases Nat.lt_trichotomy i2 i with h5 | h5 | h5
        · have a := hst.below i2 _ h5 (List.getElem?_eq_getElem (by omega))
          have b := hst2.above i2 _ (Nat.le_refl _) (List.getElem?_eq_getElem (show i2 < ks.length by omega))
          omega
        · exact h5
        · have hl5 := hst2.le
          have a := hst2.below i _ h5 (List.getElem?_eq_getElem (show i < ks.length by omega))
          have b := hst.above i _ (Nat.le_refl _) (List.getElem?_eq_getElem (show i < ks.length by omega))
          omega
      subst hii2
      obtain ⟨q1, q2, q3⟩ := HQ.out
      by_cases hi : i2 < ks.length
      · obtain ⟨x, hx⟩ : ∃ x, ks[i2]? = some x := ⟨_, List.getElem?_eq_getElem hi⟩
        obtain ⟨y, hy⟩ : ∃ y, vs[i2]? = some y := ⟨_, List.getElem?_eq_getElem (by omega)⟩
        have HA := Lib.hid (q1 x y hx hy)
        obtain ⟨nk, nv⟩ := HKV.out
        obtain ⟨ao, c, q, hc, hr⟩ := nk.win (S := fun _ => True) (fun _ _ => trivial)
        obtain ⟨g, o, rfl, _, cx⟩ := hr _ _ (u64s_at _ _ _ hx)
        obtain ⟨ao2, c2, q2', hc2, hr2⟩ := nv.win (S := fun _ => True) (fun _ _ => trivial)
        obtain ⟨g2, o2, rfl, _, cy⟩ := hr2 _ _ (u64s_at _ _ _ hy)
        injection q with q5 q6 q7
        injection q2' with q8 q9 q10
        subst q5 q8
        have hiv : i2 < vs.length := by omega
        have hii : (i2 : Int) < (ks.length : Int) := by omega
        clear hr hr2 nk nv hst hst2 HS hc hc2 HX hx hy q6 q7 q9 q10 q1 q2 q3 HQ HKV h2 hle
        go_wp2_with fail
        go_quiet (fail)
        go_wp2
        (try simp only [Exit.inBlock, Exit.then])
        refine bodyPost_ret (results_tmp4 rfl _ _ _) rfl ?_
        rw [HA.out]
        exact ⟨rfl, HG.out _⟩
      · obtain rfl : i2 = ks.length := by omega
        by_cases hr0 : right = 0
        · subst hr0
          have HA := Lib.hid (q2 rfl rfl)
          clear hst hst2 HS HX q1 q2 q3 HQ HKV h2 hle hi
          go_wp2_with fail
          (try simp only [Exit.inBlock, Exit.then])
          refine bodyPost_ret (results_tmp4 rfl _ _ _) rfl ?_
          rw [HA.out]
          exact ⟨rfl, HG.out 0⟩
        · have HA := Lib.hid (q3 rfl hr0)
          have hr1 : ((right : Int) == 0) = false := beq_eq_false_iff_ne.2 (by omega)
          clear hst hst2 HS HX q1 q2 q3 HQ HKV h2 hle hi hr0
          go_wp2_with fail
          go_roundw
          case rel => exact ⟨j + 1, right, 0, rfl, rfl, by go_num, HA.out, HF.out 0⟩
          case measure => simp [intOf]; omega
    | inner i keys kids u h1 h3 hki hcc q1 q2 =>
      have hfit := (dec_fits h1).inner rfl
      dsimp only at hfit
      have hle := hki.le
      have HL := Lib.hid (load_any hp hkk hb hpg h1)
      have hls : kids.length = keys.length + 1 := hfit.1
      have hil : i < keys.length + 1 := by omega
      have hkl : keys.length ≤ 100 := by omega
      have HX := Lib.hid (And.intro hkp (And.intro h3 (And.intro hki (And.intro hcc (And.intro q1 (And.intro q2 hls))))))
      clear hI hp hb hpg h1 h3 hkp hfit h hdep hki hcc q1 q2 hkk hle
      go_wp2_with fail
      refine HL.out.mono ?_
      rintro e w1 ⟨N, M, nb, ka, va, aa, kc, vc, ac, rfl, hN, hM, ⟨hn1, hnM, hgM⟩, p1, k1⟩
      obtain ⟨hkp, hup, hki, hcc, q1, q2, hls2⟩ := HX.out
      have bx := hn1.box
      dsimp only at bx
      rw [hls] at bx
      have b0 : w1.cell? ⟨nb, 0, none⟩ = some (.bool false) := bx.cell 0 _ rfl
      have b3 : w1.cell? ⟨nb, 3, none⟩ = some (.slice aa (keys.length + 1) ac) := bx.cell 3 _ rfl
      obtain ⟨ga, rfl, ra⟩ : ∃ ga, aa = some ⟨ga, 0, none⟩ ∧ Row w1 ga ac (ints kids) := by
        rcases hn1.a with ⟨_, h2, _⟩ | ⟨g, h1, h2⟩
        · have := congrArg List.length h2
          rw [ints_length] at this
          exact absurd this (by show kids.length ≠ 0; omega)
        · exact ⟨g, h1, h2⟩
      have cc : w1.cell? ⟨ga, i, none⟩ = some (.int .i64 (u : Int)) := ra.at' i _ (kids_is _ _ _ hcc)
      have hnr : NodeR (fun _ => True) w1 nb ⟨false, keys, [], kids⟩ := hn1.wins.1.reads (fun _ _ => trivial) trivial
      have HK := Lib.hid ((kid_any hnr hup (show keys.length ≤ 1000 by omega) key).mono (R' := fun e w' => e = .returned (.int .i64 (i : Int)) ∧ w' = w1) (fun e w' ⟨i2, he, hk2, hw⟩ => ⟨by rw [he, hki.inj hk2], hw.symm⟩))
      have hii : (i : Int) < ((keys.length : Int) + 1) := by omega
      have i1 : IntKind.i64.wrap ((i : Int) + 1) = (i : Int) + 1 := by
        have : i ≤ 101 := by omega
        rw [IntKind.wrap_i64]; omega
      have HF := Lib.hid (show PZ E w1 P D A (k + 2 * (j + 1)) ∧ Kept E W w1 from ⟨(p1.less (T := E) (fun _ hj => .inl hj)).up (by omega), hkp.trans k1⟩)
      by_cases hlast : i = keys.length
      · have HA := Lib.hid (q1 (by omega))
        subst hlast
        clear HL HX hn1 hnM hgM p1 k1 hN hM hkp hup hki hcc ra hnr bx hls q1 q2 hls2
        go_wp2_with fail
        refine HK.out.mono ?_
        rintro e w2 ⟨rfl, rfl⟩
        go_wp2_with fail
        go_roundw
        case rel => exact ⟨j + 1, u, right, rfl, rfl, by go_num, HA.out, HF.out⟩
        case measure => simp [intOf]; omega
      · obtain ⟨v, hv⟩ : ∃ v, kids[i + 1]? = some v := ⟨_, List.getElem?_eq_getElem (by omega)⟩
        have HA := Lib.hid (q2 v hv)
        have cv : w1.cell? ⟨ga, i + 1, none⟩ = some (.int .i64 (v : Int)) := ra.at' (i + 1) _ (kids_is _ _ _ hv)
        have hii2 : (i : Int) + 1 < ((keys.length : Int) + 1) := by omega
        have hi2 : ((i : Int) + 1).toNat = i + 1 := by omega
        have hi3 : (0 : Int) ≤ (i : Int) + 1 := by omega
        clear HL HX hn1 hnM hgM p1 k1 hN hM hkp hup hki hcc ra hnr bx hls q1 q2 hls2 hv
        go_wp2_with fail
        refine HK.out.mono ?_
        rintro e w2 ⟨rfl, rfl⟩
        go_wp2_with fail
        go_roundw
        case rel => exact ⟨j + 1, u, v, rfl, rfl, by go_num, HA.out, HF.out⟩
        case measure => simp [intOf]; omega
end
end Go.Proofs.YtfljlcfmdcepnaaGreatDoor
