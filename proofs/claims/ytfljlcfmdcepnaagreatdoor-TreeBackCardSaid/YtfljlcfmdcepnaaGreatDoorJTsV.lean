/-
  The tree: Clear.
  The tree: Walk, with what Shows does at each key.
-/
import Derived.Test.YtfljlcfmdcepnaaGreatDoorJTsQ
import Derived.Test.YtfljlcfmdcepnaaGreatDoorJTsU
namespace Go.Proofs.YtfljlcfmdcepnaaGreatDoor
open Go.RowKit
open UK (str BytesAt nth Only Row Box)
section
variable {E : Nat → Prop} {W W' : World} {P D T k rt : Nat} {A : AP} {l : List KV} {ps : List Nat}
end
end Go.Proofs.YtfljlcfmdcepnaaGreatDoor
namespace Go.Proofs.YtfljlcfmdcepnaaGreatDoor
open Go.RowKit
open UK (str BytesAt nth Only Row Box)
abbrev rcells (P T : Nat) (ao : Option Addr) (n c : Nat) (bo : Option Addr) (m d : Nat) (op : Bool) : Array Value := #[.pointer (some ⟨P, 0, none⟩), .pointer (some ⟨T, 0, none⟩), .slice ao n c, .slice bo m d, .bool op]
section
variable {E : Nat → Prop} {W W' : World} {P D T k rt ob nbk rb c d m : Nat} {A : AP} {l : List KV} {ps : List Nat} {ao bo : Option Addr} {op : Bool}
set_option maxHeartbeats 1000000 in
set_option maxRecDepth 100000 in
theorem shows_do {i : Nat} {x : KV} (h1 : Box W ob #[.bool true]) (h2 : Box W nbk #[.int .i64 i]) (h3 : Box W rb (rcells P T ao l.length c bo m d op)) (hp : PrX W ao c l) (hx : l[i]? = some x) (hl : l.length ≤ 100000) (hne : ob ≠ nbk) :
    Calls Tryz.prog 47 #[.int .u64 x.1.toNat, .int .u64 x.2.toNat, .pointer (some ⟨ob, 0, none⟩), .pointer (some ⟨nbk, 0, none⟩), .pointer (some ⟨rb, 0, none⟩)] W fun e w' => e = .returned (.bool true) ∧ w' = (W.setCell ⟨ob, 0, none⟩ (.bool true)).setCell ⟨nbk, 0, none⟩ (.int .i64 ((i : Int) + 1)) := by
  obtain ⟨g, rfl, d0, d1⟩ := hp.at_ hx
  have hi : (i : Int) < (l.length : Int) := Int.ofNat_lt.2 (List.getElem?_eq_some_iff.1 hx).1
  have c1 : W.cell? ⟨ob, 0, none⟩ = some (.bool true) := h1.cell 0 _ rfl
  have c2 : W.cell? ⟨nbk, 0, none⟩ = some (.int .i64 i) := h2.cell 0 _ rfl
  have c3 : W.cell? ⟨rb, 2, none⟩ = some (.slice (some ⟨g, 0, none⟩) l.length c) := h3.cell 2 _ rfl
  have f1 := h1.free 0
  have f2 := h2.free 0
  have hw : IntKind.i64.wrap ((i : Int) + 1) = (i : Int) + 1 := by rw [IntKind.wrap_i64]; omega
  have hw2 : wrap64 ((i : Int) + 1) = (i : Int) + 1 := by unfold wrap64; omega
  clear h1 h2 h3 hp hx hl
  generalize x.1.toNat = x1 at *
  generalize x.2.toNat = x2 at *
  go_enter Tryz.func47, Tryz.ntmps47
  go_wp2_with fail
  go_ret
  exact ⟨rfl, rfl⟩
theorem nxt_at {l : List KV} {κ : UInt64} {i : Nat} (h1 : ∀ y ∈ l.take i, y.1.toNat < κ.toNat) (h2 : ∀ y ∈ l.drop i, κ.toNat ≤ y.1.toNat) : nxtL l κ = l[i]? := by
  have e : l = l.take i ++ l.drop i := (List.take_append_drop i l).symm
  have e2 : l[i]? = (l.drop i)[0]? := by rw [List.getElem?_drop, Nat.add_zero]
  rw [e2]
  conv => lhs; rw [e]
  rw [nxtL_below h1]
  cases hd : l.drop i with
  | nil => rfl
  | cons a r =>
    unfold nxtL
    rw [List.find?_cons_of_pos (by simpa using h2 a (by rw [hd]; simp))]
    rfl
theorem rise_split {l : List KV} (hr : Rise l) {i : Nat} {x : KV} (h : l[i]? = some x) : (∀ y ∈ l.take (i + 1), y.1.toNat ≤ x.1.toNat) ∧ (∀ y ∈ l.drop (i + 1), x.1.toNat < y.1.toNat) := by
  obtain ⟨hi, hx⟩ := List.getElem?_eq_some_iff.1 h
  refine ⟨fun y hy => ?_, fun y hy => ?_⟩
  · obtain ⟨j, hj, e⟩ := List.getElem_of_mem hy
    rw [List.length_take] at hj
    rw [List.getElem_take] at e
    rcases Nat.lt_or_ge j i with h1 | h1
    · have := List.pairwise_iff_getElem.1 hr j i (by omega) hi h1
      rw [e, hx] at this
      omega
    · obtain rfl : j = i := by omega
      rw [← e, hx]
      exact Nat.le_refl _
  · obtain ⟨j, hj, e⟩ := List.getElem_of_mem hy
    rw [List.length_drop] at hj
    rw [List.getElem_drop] at e
    have := List.pairwise_iff_getElem.1 hr i (i + 1 + j) hi (by omega) (by omega)
    rw [e, hx] at this
    exact this
structure WalkI (l : List KV) (i : Nat) (κ : UInt64) : Prop where
  le : i ≤ l.length
  lo : ∀ y ∈ l.take i, y.1.toNat < κ.toNat
  hi : ∀ y ∈ l.drop i, κ.toNat ≤ y.1.toNat
theorem WalkI.step {l : List KV} (hr : Rise l) {i : Nat} {κ : UInt64} {x : KV} (h : WalkI l i κ) (hx : l[i]? = some x) (hm : x.1.toNat ≠ 18446744073709551615) : WalkI l (i + 1) (x.1 + 1) ∧ (x.1 + 1).toNat = x.1.toNat + 1 ∧ κ.toNat ≤ x.1.toNat := by
  have hlt := x.1.toNat_lt
  have e : (x.1 + 1).toNat = x.1.toNat + 1 := by
    rw [UInt64.toNat_add, show (1 : UInt64).toNat = 1 from rfl]
    omega
  obtain ⟨h1, h2⟩ := rise_split hr hx
  have hi := (List.getElem?_eq_some_iff.1 hx).1
  refine ⟨⟨hi, fun y hy => by have := h1 y hy; omega, fun y hy => by have := h2 y hy; omega⟩, e, h.hi x (List.mem_iff_getElem?.2 ⟨0, by rw [List.getElem?_drop]; exact hx⟩)⟩
theorem WalkI.last {l : List KV} (hr : Rise l) {i : Nat} {x : KV} (hx : l[i]? = some x) (hm : x.1.toNat = 18446744073709551615) : i + 1 = l.length := by
  have hi := (List.getElem?_eq_some_iff.1 hx).1
  refine Nat.le_antisymm hi (Nat.le_of_not_lt (fun h => ?_))
  have := (rise_split hr hx).2 l[i + 1] (List.mem_iff_getElem?.2 ⟨0, by rw [List.getElem?_drop]; exact List.getElem?_eq_getElem h⟩)
  have := (l[i + 1]).1.toNat_lt
  omega
def WalkR (E : Nat → Prop) (W w : World) (P D T rt ob nbk K : Nat) (A : AP) (i : Nat) : Prop := TreeAt E w P D T rt A K ∧ Box w ob #[.bool true] ∧ Box w nbk #[.int .i64 i] ∧ Kept (fun j => E j ∧ j ≠ ob ∧ j ≠ nbk) W w
theorem WalkR.step {w w' : World} {K K' : Nat} {i : Nat} (h : WalkR E W w P D T rt ob nbk K A i) (ht : TreeAt E w' P D T rt A K') (kp : Kept E w w') (hob : E ob) (hnb : E nbk) (hne : ob ≠ nbk) (h1 : ob ≠ 0) (h2 : nbk ≠ 0) (hT1 : T ≠ ob) (hT2 : T ≠ nbk) :
    WalkR E W ((w'.setCell ⟨ob, 0, none⟩ (.bool true)).setCell ⟨nbk, 0, none⟩ (.int .i64 ((i : Int) + 1))) P D T rt ob nbk K' A (i + 1) ∧ Box w' ob #[.bool true] ∧ Box w' nbk #[.int .i64 i] := by
  obtain ⟨h3, h4, h5, h6⟩ := h
  have b1 := h4.of_block (kp.block ob hob)
  have b2 := h5.of_block (kp.block nbk hnb)
  have o1 : Only ob w' (w'.setCell ⟨ob, 0, none⟩ (.bool true)) := (Only.refl ob w').set 0 _
  have c1 : Box (w'.setCell ⟨ob, 0, none⟩ (.bool true)) ob #[.bool true] := b1.set 0 _
  generalize w'.setCell ⟨ob, 0, none⟩ (.bool true) = w2 at o1 c1 ⊢
  have o2 : Only nbk w2 (w2.setCell ⟨nbk, 0, none⟩ (.int .i64 ((i : Int) + 1))) := (Only.refl nbk w2).set 0 _
  have c2 : Box (w2.setCell ⟨nbk, 0, none⟩ (.int .i64 ((i : Int) + 1))) nbk #[.int .i64 ((i : Int) + 1)] := (b2.only o1 (Ne.symm hne)).set 0 _
  generalize w2.setCell ⟨nbk, 0, none⟩ (.int .i64 ((i : Int) + 1)) = w3 at o2 c2 ⊢
  have hth := ht.pz.there
  have p2 : PZ E w2 P D A K' := ht.pz.over (R := fun j => j = ob) (fun j hj => by rw [hj]; exact hob) (fun h => h1 h.symm) o1.size (fun j hj hr => o1.block j hj hr) (fun j hj => .inl hj)
  have p3 : PZ E w3 P D A K' := p2.over (R := fun j => j = nbk) (fun j hj => by rw [hj]; exact hnb) (fun h => h2 h.symm) o2.size (fun j hj hr => o2.block j hj hr) (fun j hj => .inl hj)
  have k3 : Kept (fun j => E j ∧ j ≠ ob ∧ j ≠ nbk) w' w3 := ⟨o2.os.trans o1.os, o2.tape.trans o1.tape, o2.output.trans o1.output, Nat.le_trans o1.size o2.size, fun j hj => (o2.block j (Nat.lt_of_lt_of_le (hth j hj.1) o1.size) hj.2.2).trans (o1.block j (hth j hj.1) hj.2.1)⟩
  exact ⟨⟨⟨p3, ht.box.of_block (k3.block T ⟨ht.mem, hT1, hT2⟩), ht.mem⟩, c1.only o2 hne, by simpa using c2, (h6.trans (kp.mono (fun _ hj => hj.1))).trans k3⟩, b1, b2⟩
set_option maxHeartbeats 4000000 in
set_option maxRecDepth 100000 in
theorem tree_walk_any (h : TreeAt E W P D T rt A k) (hl : l.length ≤ 2000) (hk : k + 400000 < 900000000) (ht : TI A rt l ps) (hg : A.Good) (h1 : Box W ob #[.bool true]) (h2 : Box W nbk #[.int .i64 0]) (h3 : Box W rb (rcells P T ao l.length c bo m d op)) (hp : PrX W ao c l)
    (hob : E ob) (hnb : E nbk) (hrb : E rb) (hao : ∀ b, slB ao b → E b ∧ b ≠ ob ∧ b ≠ nbk) (hne : ob ≠ nbk) (hro : rb ≠ ob) (hrn : rb ≠ nbk) (ht1 : ob ≠ 0) (ht2 : nbk ≠ 0) (hT1 : T ≠ ob) (hT2 : T ≠ nbk) :
    Calls Tryz.prog 46 #[.pointer (some ⟨T, 0, none⟩), .int .u64 0, .func (.func 47) #[] #[.pointer (some ⟨ob, 0, none⟩), .pointer (some ⟨nbk, 0, none⟩), .pointer (some ⟨rb, 0, none⟩)]] W fun e w' => e = .returned (.int .i64 0) ∧ WalkR E W w' P D T rt ob nbk (k + 300000) A l.length := by
  have hrise := ht.rise
  have hW0 : WalkR E W W P D T rt ob nbk (k + 100 * 0) A 0 := ⟨h, h1, h2, Kept.refl _ _⟩
  have HH := Lib.hid (And.intro hW0 (And.intro ht (And.intro hg (And.intro h3 (And.intro hp (And.intro hrise (And.intro hob (And.intro hnb (And.intro hrb hao)))))))))
  have HN := Lib.hid (And.intro hne (And.intro hro (And.intro hrn (And.intro ht1 (And.intro ht2 (And.intro hT1 hT2))))))
  clear h h1 h2 h3 hp hob hnb hrb hao hne hro hrn ht1 ht2 hT1 hT2 ht hg hrise hW0
  go_enter Tryz.func46, Tryz.ntmps46
  go_wp2_with fail
  go_loopw [7] (fun kv wr => ∃ (i : Nat) (κ : UInt64), kv = .int .u64 κ.toNat ∧ WalkI l i κ ∧ WalkR E W wr P D T rt ob nbk (k + 100 * i) A i) (fun kv _ => 18446744073709551616 - (intOf kv).toNat)
  case atStart => exact ⟨0, 0, rfl, ⟨Nat.zero_le _, fun y hy => (by simp at hy), fun y _ => Nat.zero_le _⟩, HH.out.1⟩
  case round =>
    obtain ⟨i, κ, rfl, hI, hR⟩ := hrel
    obtain ⟨_, ht, hg, h3, hp, hrise, hob, hnb, hrb, hao⟩ := HH.out
    obtain ⟨hne, hro, hrn, ht1, ht2, hT1, hT2⟩ := HN.out
    have hil := hI.le
    have hN := tree_next_any hR.1 (by omega) ht hg κ
    rw [nxt_at hI.lo hI.hi] at hN
    cases hx : l[i]? with
    | none =>
      rw [hx] at hN
      have hi : i = l.length := by
        refine Nat.le_antisymm hil (Nat.le_of_not_lt (fun h => ?_))
        rw [List.getElem?_eq_getElem h] at hx
        cases hx
      have HNx := Lib.hid hN
      have HF := Lib.hid (fun (w' : World) (hta : TreeAt E w' P D T rt A (k + 100 * i + 100)) (kp : Kept E wr w') => (show WalkR E W w' P D T rt ob nbk (k + 300000) A l.length from
        ⟨⟨hta.pz.up (by omega), hta.box, hta.mem⟩, hR.2.1.of_block (kp.block ob hob), by have := hR.2.2.1.of_block (kp.block nbk hnb); rw [hi] at this; exact this, hR.2.2.2.trans (kp.mono (fun _ hj => hj.1))⟩))
      clear hN hx hi hI hR ht hg h3 hp hrise hob hnb hrb hao hne hro hrn ht1 ht2 hT1 hT2 hil
      go_wp2_with fail
      refine HNx.out.mono ?_
      rintro e w1 ⟨rfl, hta, kp⟩
      have HG := Lib.hid (HF.out w1 hta kp)
      clear hta kp HF HNx
      unfold NxtAns
      go_wp2_with fail
      go_ret
      exact ⟨rfl, HG.out⟩
    | some x =>
      rw [hx] at hN
      have HNx := Lib.hid hN
      have HD := Lib.hid (fun (w' : World) (hta : TreeAt E w' P D T rt A (k + 100 * i + 100)) (kp : Kept E wr w') => (show (Calls Tryz.prog 47 #[.int .u64 x.1.toNat, .int .u64 x.2.toNat, .pointer (some ⟨ob, 0, none⟩), .pointer (some ⟨nbk, 0, none⟩), .pointer (some ⟨rb, 0, none⟩)] w' fun e w'' => e = .returned (.bool true) ∧ w'' = (w'.setCell ⟨ob, 0, none⟩ (.bool true)).setCell ⟨nbk, 0, none⟩ (.int .i64 ((i : Int) + 1))) ∧ WalkR E W ((w'.setCell ⟨ob, 0, none⟩ (.bool true)).setCell ⟨nbk, 0, none⟩ (.int .i64 ((i : Int) + 1))) P D T rt ob nbk (k + 100 * i + 100) A (i + 1) from by
        obtain ⟨s1, s2, s3⟩ := hR.step hta kp hob hnb hne ht1 ht2 hT1 hT2
        have kW : Kept (fun j => E j ∧ j ≠ ob ∧ j ≠ nbk) W w' := hR.2.2.2.trans (kp.mono (fun _ hj => hj.1))
        exact ⟨shows_do s2 s3 (h3.of_block (kW.block rb ⟨hrb, hro, hrn⟩)) (hp.of_block kW.size (fun b hb => kW.block b (hao b hb))) hx (by omega) hne, s1⟩))
      by_cases hm : x.1.toNat = 18446744073709551615
      · have hlast := WalkI.last hrise hx hm
        have HL := Lib.hid hlast
        have hmb : ((x.1.toNat : Int) == 18446744073709551615) = true := by rw [hm]; rfl
        have hkk : k + 100 * i + 100 ≤ k + 300000 := by omega
        clear hN hx hI hR ht hg h3 hp hrise hob hnb hrb hao hne hro hrn ht1 ht2 hT1 hT2 hil hlast hm
        go_wp2_with fail
        refine HNx.out.mono ?_
        rintro e w1 ⟨rfl, hta, kp⟩
        obtain ⟨hd, hw⟩ := HD.out w1 hta kp
        have HDo := Lib.hid hd
        have HG := Lib.hid hw
        clear hta kp HD HNx hd hw
        unfold NxtAns
        go_wp2_with fail
        refine HDo.out.mono ?_
        rintro e w2 ⟨rfl, rfl⟩
        go_wp2_with fail
        go_ret
        have hw := HG.out
        rw [HL.out] at hw
        exact ⟨rfl, ⟨hw.1.pz.up hkk, hw.1.box, hw.1.mem⟩, hw.2⟩
      · obtain ⟨s1, s2, s3⟩ := hI.step hrise hx hm
        have HL := Lib.hid (And.intro s1 (And.intro s2 s3))
        have hmi : ¬ (x.1.toNat : Int) = 18446744073709551615 := by omega
        have hmb : ((x.1.toNat : Int) == 18446744073709551615) = false := by simp; omega
        have hwr : IntKind.u64.wrap ((x.1.toNat : Int) + 1) = ((x.1 + 1).toNat : Int) := by rw [s2]; have := x.1.toNat_lt; exact IntWalk.u64_in _ ⟨by omega, by omega⟩
        have hmod : ((x.1.toNat : Int) + 1) % 18446744073709551616 = ((x.1 + 1).toNat : Int) := by rw [s2]; have := x.1.toNat_lt; omega
        have HMOD := Lib.hid hwr
        clear hmod hwr hN hx hI hR ht hg h3 hp hrise hob hnb hrb hao hne hro hrn ht1 ht2 hT1 hT2 hil hm s1 s2 s3
        go_wp2_with fail
        refine HNx.out.mono ?_
        rintro e w1 ⟨rfl, hta, kp⟩
        obtain ⟨hd, hw⟩ := HD.out w1 hta kp
        have HDo := Lib.hid hd
        have HG := Lib.hid hw
        clear hta kp HD HNx hd hw
        unfold NxtAns
        go_wp2_with fail
        refine HDo.out.mono ?_
        rintro e w2 ⟨rfl, rfl⟩
        go_wp2_with fail
        go_roundw
        case rel => exact ⟨i + 1, x.1 + 1, by rw [HMOD.out], HL.out.1, HG.out⟩
        case measure =>
          obtain ⟨m1, m2⟩ := HL.out.2
          have m3 := (x.1 + 1).toNat_lt
          have m4 : (intOf (.int .u64 ((x.1 + 1).toNat : Int))).toNat = (x.1 + 1).toNat := rfl
          have m5 : (intOf (.int .u64 (κ.toNat : Int))).toNat = κ.toNat := rfl
          rw [HMOD.out, m4, m5, m1]
          rw [m1] at m3
          generalize x.1.toNat = y at *
          generalize κ.toNat = z at *
          omega
end
end Go.Proofs.YtfljlcfmdcepnaaGreatDoor
