/-
  The statement's law: HeapGives.
-/
import Derived.Test.YtjfkdfffolkblaaGreatDoorGiveE
namespace Go.Proofs.YtjfkdfffolkblaaGreatDoor
open Go.RowKit
open UK (str BytesAt nth Only Row Box w32)
open SR (Recs rcd total)
open SL (hole add trim room live)
open Go.BigFrame
open A7 (ActsAt)
section
variable {E E0 : Nat → Prop} {W W' : World} {P D k pg root H c : Nat} {A : AP} {rp : List Nat} {L : Nat → List (List UInt8)} {X : List HT} {ao : Option Addr}
set_option maxHeartbeats 4000000 in
set_option maxRecDepth 100000 in
theorem hg_any (ao : Option Addr) (len cap : Nat) (W : World) (ht : TabAt W)
    (hv : Hid (len = 0 ∨ ∃ b off kd ii ni si, ao = some ⟨b, off, none⟩ ∧ ActsAt W b off len kd ii ni si ∧ b < W.heap.size)) :
    Calls Tryz.prog 3 #[.slice ao len cap] W fun e w' => e = .returned (.bool true) ∧ Kept (fun j => j < W.heap.size) W w' := by
  have HM := Lib.hid (hmade_any W ht (fun j => j < W.heap.size) (fun _ h => h) 500 (by omega) (by omega) 4 (by omega))
  have htl := ht.lt
  go_enter Tryz.func3, Tryz.ntmps3
  go_wp2_with fail
  refine HM.out.mono ?_
  rintro e w1 ⟨P, D, T, A, rfl, z1, s1, m1, hT, k1⟩
  have a1 : Below w1.heap.size w1 (w1.alloc (.cells (rcells P T none 0 0) 29)) := (Below.refl _ _).alloc (Nat.le_refl _) _
  have hs1 : (w1.alloc (.cells (rcells P T none 0 0) 29)).heap.size = w1.heap.size + 1 := by simp
  have x1 := Box.new w1 (rcells P T none 0 0) 29
  generalize hwa : w1.alloc (.cells (rcells P T none 0 0) 29) = w2 at a1 hs1 x1
  have HWA := Lib.hid hwa
  have HTW : Hid (T < w1.heap.size) := z1.box.lt
  have hzb := z1.box
  have G0 : HG W w2 P D T w1.heap.size 0 := by
    refine ⟨none, 0, A, 0, [], fun _ => [], [], 2, x1, ⟨z1.pz.wide a1 (fun j hj => ?_), z1.good, hzb.below a1 hzb.lt, .inl (.inr (.inl rfl)), z1.hi, z1.few⟩, .inl ⟨rfl, rfl, rfl⟩, s1, m1, Nat.le_refl _, fun t h => absurd h List.not_mem_nil, by omega, k1.trans ((z1.pz.kept a1).mono (fun j hj => .inl hj)), fun b hb => by cases hb⟩
    rcases hj with (hj | hj | hj) | hj
    · exact .inl (.inl hj)
    · exact .inl (.inr hj)
    · exact .inr (by omega)
    · exact absurd hj (by intro h; cases h)
  have HG0 := Lib.hid G0
  have hrb : W.heap.size ≤ w1.heap.size := k1.size
  clear HM z1 s1 m1 k1 a1 hs1 x1 hwa hzb G0
  go_wp2_with fail
  go_loopw [6] (fun iv wr => ∃ j : Nat, iv = .int .i64 j ∧ j ≤ 20 ∧ HG W wr P D T w1.heap.size j) (fun iv _ => 21 - (intOf iv).toNat)
  case atStart => exact ⟨0, rfl, by omega, by rw [HWA.out]; exact HG0.out⟩
  case round =>
    clear HG0 HWA
    obtain ⟨j, rfl, hj, ao', c, A5, pg, rp, L, X, k, hx, hz, htx, hop, hmost, hlen, htxs, hk, hkk, hfar⟩ := hrel
    by_cases hgo : j < len ∧ j < 20
    · obtain ⟨hlt, hj20⟩ := hgo
      rcases hv.out with h0 | ⟨b, off, kd, ii, ni, si, rfl, ha, hbW⟩
      · omega
      · have hcell : ∀ i v, W.cell? ⟨b, i, none⟩ = some v → wr.cell? ⟨b, i, none⟩ = some v := fun i v hc => (World.cell?_of_block (a := ⟨b, i, none⟩) (hkk.block b hbW)).trans hc
        have c0 := hcell _ _ (ha.c0 j hlt)
        have c1 := hcell _ _ (ha.c1 j hlt)
        have c2 := hcell _ _ (ha.c2 j hlt)
        have c3 := hcell _ _ (ha.c3 j hlt)
        have i1 : (j : Int) < (len : Int) := by omega
        have i2 : (j : Int) < 20 := by omega
        generalize kd j = kj at c0
        generalize ii j = ij at c1
        generalize ni j = nj at c2
        generalize si j = sj at c3
        by_cases hkd : kj = 1 ∨ kj = 2
        · have HDO := Lib.hid (does_law hx hz htx hop hmost hlen htxs hk hkk hfar hj20 kj ij nj sj hkd)
          have HDP := Lib.hid (does_late hx hz htx hop hmost hlen htxs hk hkk hfar hj20 kj ij nj sj hkd)
          have hTr : T ≠ w1.heap.size := by have := hT; have := HTW.out; omega
          have hrw : w1.heap.size < wr.heap.size := hx.lt
          have hTw : T < wr.heap.size := hz.box.lt
          have HNE : Hid (T ≠ w1.heap.size ∧ T ≠ wr.heap.size ∧ w1.heap.size ≠ wr.heap.size ∧ W.heap.size ≤ wr.heap.size) := ⟨hTr, by omega, by omega, hkk.size⟩
          have r0 : wr.cell? ⟨w1.heap.size, 0, none⟩ = some (.pointer (some ⟨P, 0, none⟩)) := hx.cell 0 _ rfl
          have r1 : wr.cell? ⟨w1.heap.size, 1, none⟩ = some (.pointer (some ⟨T, 0, none⟩)) := hx.cell 1 _ rfl
          have r2 : wr.cell? ⟨w1.heap.size, 2, none⟩ = some (.slice ao' X.length c) := hx.cell 2 _ rfl
          have r3 : wr.cell? ⟨w1.heap.size, 3, none⟩ = some (.slice none 0 0) := hx.cell 3 _ rfl
          have r4 : wr.cell? ⟨w1.heap.size, 4, none⟩ = some (.bool false) := hx.cell 4 _ rfl
          have hbr : b < wr.heap.size := Nat.lt_of_lt_of_le hbW hkk.size
          clear hx hz htx htxs hkk hcell ha hop hmost hfar hTr hTw
          rcases hkd with rfl | rfl
          all_goals
            go_upto_region 9 with (fail)
            go_cut [7, 8] (fun qv ov wx => ∃ q : Nat, qv = .pointer (some ⟨q, 0, none⟩) ∧ ov = .bool true ∧ wr.heap.size ≤ q ∧ ∃ ao2 c2 X2, Box wx q (rcells P T ao2 X2.length c2) ∧ GX W wx P D T w1.heap.size q (j + 1) ao2 c2 X2)
            case first =>
              go_region_with (first
                | (go_at_call 9; refine HDO.out.mono ?_; rintro e w3 ⟨ao2, c2, X2, rfl, zb, gx⟩; have zf := zb.free; have z0 : w3.cell? ⟨wr.heap.size, 0, none⟩ = some (.pointer none) := zb.cell 0 _ rfl; have z1 : w3.cell? ⟨wr.heap.size, 1, none⟩ = some (.pointer none) := zb.cell 1 _ rfl; have z2 : w3.cell? ⟨wr.heap.size, 2, none⟩ = some (.slice none 0 0) := zb.cell 2 _ rfl; have z3 : w3.cell? ⟨wr.heap.size, 3, none⟩ = some (.slice none 0 0) := zb.cell 3 _ rfl; have z4 : w3.cell? ⟨wr.heap.size, 4, none⟩ = some (.bool false) := zb.cell 4 _ rfl; replace zb := Lib.hid zb; replace gx := Lib.hid gx)
                | (go_at_call 9; refine HDP.out.mono ?_; rintro e w3 ⟨ao2, c2, X2, rfl, hs3, gx⟩; replace gx := Lib.hid gx))
              all_goals
                go_wp2_with fail
                go_meet
                case rel =>
                  obtain ⟨n1, n2, n3, n4⟩ := HNE.out
                  first
                    | exact ⟨_, rfl, rfl, Nat.le_refl _, ao2, c2, X2, zb.out.fill5 _ _ _ _ _, gx.out.fill (Only.fill5 _ _ _ _ _ _ _) n3 n2 n4 htl⟩
                    | exact ⟨_, rfl, rfl, hs3, ao2, c2, X2, Box.new _ _ _, gx.out _ _⟩
            case rest =>
              obtain ⟨q, rfl, rfl, hq, ao2, dd, X2, xb, gx⟩ := hcut
              have zf := xb.free
              have q0 : wc.cell? ⟨q, 0, none⟩ = some (.pointer (some ⟨P, 0, none⟩)) := xb.cell 0 _ rfl
              have q1 : wc.cell? ⟨q, 1, none⟩ = some (.pointer (some ⟨T, 0, none⟩)) := xb.cell 1 _ rfl
              have q2 : wc.cell? ⟨q, 2, none⟩ = some (.slice ao2 X2.length dd) := xb.cell 2 _ rfl
              have q3 : wc.cell? ⟨q, 3, none⟩ = some (.slice none 0 0) := xb.cell 3 _ rfl
              have q4 : wc.cell? ⟨q, 4, none⟩ = some (.bool false) := xb.cell 4 _ rfl
              have GXH := Lib.hid gx
              obtain ⟨ao0, n0, d0, rb0⟩ := gx.rbx
              have rf := rb0.free
              have s0 : wc.cell? ⟨w1.heap.size, 0, none⟩ = some (.pointer (some ⟨P, 0, none⟩)) := rb0.cell 0 _ rfl
              have s1 : wc.cell? ⟨w1.heap.size, 1, none⟩ = some (.pointer (some ⟨T, 0, none⟩)) := rb0.cell 1 _ rfl
              have s2 : wc.cell? ⟨w1.heap.size, 2, none⟩ = some (.slice ao0 n0 d0) := rb0.cell 2 _ rfl
              have s3 : wc.cell? ⟨w1.heap.size, 3, none⟩ = some (.slice none 0 0) := rb0.cell 3 _ rfl
              have s4 : wc.cell? ⟨w1.heap.size, 4, none⟩ = some (.bool false) := rb0.cell 4 _ rfl
              have HF5 := Lib.hid (rb0.fill5 (.pointer (some ⟨P, 0, none⟩)) (.pointer (some ⟨T, 0, none⟩)) (.slice ao2 X2.length dd) (.slice none 0 0) (.bool false))
              clear gx xb rb0 HDO HDP c0 c1 c2 c3 r0 r1 r2 r3 r4 hbr hrw
              go_wp2_with fail
              go_roundw
              case rel =>
                obtain ⟨n1, n2, n3, n4⟩ := HNE.out
                exact ⟨j + 1, by go_num, by omega, GXH.out.done (Only.fill5 _ _ _ _ _ _ _) HF5.out n1 hrb htl⟩
              case measure => simp [intOf]; omega
        · have n1 : ¬ kj = 1 := fun h => hkd (.inl h)
          have n2 : ¬ kj = 2 := fun h => hkd (.inr h)
          have b1 : (kj == 1) = false := by simp [n1]
          have b2 : (kj == 2) = false := by simp [n2]
          have HQ : Hid (HG W wr P D T w1.heap.size (j + 1)) := ⟨ao', c, A5, pg, rp, L, X, k, hx, hz, htx, hop, hmost, by omega, htxs, by omega, hkk, hfar⟩
          clear hx hz htx htxs hkk hkd c1 c2 c3 hcell ha
          go_wp2
          go_roundw
          case rel => exact ⟨j + 1, by go_num, by omega, HQ.out⟩
          case measure => simp [intOf]; omega
    · have HQ : Hid (HG W wr P D T w1.heap.size 20) := ⟨ao', c, A5, pg, rp, L, X, k, hx, hz, htx, hop, hmost, by omega, htxs, by omega, hkk, hfar⟩
      clear hx hz htx htxs hkk hop hmost hlen hk hfar
      have hng : ¬ (j : Int) < (len : Int) ∨ ((j : Int) < (len : Int) ∧ ¬ (j : Int) < 20) := by omega
      obtain ⟨ao2, c2, A2, pg2, rp2, L2, X2, k2, hx, hz, htx, hop, hmost, hlen, htxs, hk, hkk, hfar⟩ := HQ.out
      have r2 : wr.cell? ⟨w1.heap.size, 2, none⟩ = some (.slice ao2 X2.length c2) := hx.cell 2 _ rfl
      have HX2 := Lib.hid (And.intro htxs hlen)
      have HQ2 : Hid (∃ A rp L k, HZ (fun b => (b < W.heap.size ∨ b = T ∨ b = w1.heap.size) ∨ slB ao2 b) wr P D T k A 1 pg2 rp L (X2.drop 0) ∧ TX wr ao2 c2 X2 ∧ A.op = none ∧ A.most = 500 ∧ k ≤ 201000 + 4000 * 0 ∧ Kept (fun b => b < W.heap.size) W wr) := ⟨A2, rp2, L2, k2, hz, htx, hop, hmost, by omega, hkk⟩
      have hl20 : X2.length ≤ 20 := hlen
      clear hx hz htx hop hmost htxs hk hkk hfar HQ hlen
      rcases hng with i1 | ⟨i1, i2⟩
      all_goals
        go_wp2_with fail
        go_loopw [65] (fun iv wz => ∃ i : Nat, iv = .int .i64 i ∧ i ≤ X2.length ∧ ∃ A rp L k, HZ (fun b => (b < W.heap.size ∨ b = T ∨ b = w1.heap.size) ∨ slB ao2 b) wz P D T k A 1 pg2 rp L (X2.drop i) ∧ TX wz ao2 c2 X2 ∧ A.op = none ∧ A.most = 500 ∧ k ≤ 201000 + 4000 * i ∧ Kept (fun b => b < W.heap.size) W wz) (fun iv _ => 100 - (intOf iv).toNat)
        case atStart => exact ⟨0, rfl, Nat.zero_le _, HQ2.out⟩
        case round =>
          clear HQ2
          obtain ⟨i, rfl, hi, A3, rp3, L3, k3, hz, ht3, hop, hmost, hk3, hkk⟩ := hrel
          by_cases hlt : i < X2.length
          · obtain ⟨t, htj⟩ : ∃ t, X2[i]? = some t := ⟨_, List.getElem?_eq_getElem hlt⟩
            obtain ⟨g, rfl, c0, c1⟩ := ht3.at_ htj
            have hil : (i : Int) < (X2.length : Int) := by omega
            have hdr : X2.drop i = t :: X2.drop (i + 1) := by
              rw [List.drop_eq_getElem_cons hlt]
              congr 1
              exact Option.some.inj ((List.getElem?_eq_getElem hlt).symm.trans htj)
            rw [hdr] at hz
            have htl3 := HX2.out.1 t (List.mem_of_getElem? htj)
            have a1 : Below wr.heap.size wr (wr.alloc (.cells #[.int .u64 (idOf t : Nat), .string (str t.s)] 36)) := (Below.refl _ _).alloc (Nat.le_refl _) _
            have kk1 := hz.pz.kept a1
            have HD := Lib.hid (hdrop_any (hz.step (hz.pz.next a1) kk1) (by omega))
            have HK := Lib.hid (And.intro (ht3.next a1) (And.intro (hkk.trans (kk1.mono (fun b hb => .inl (.inl hb)))) (And.intro hop (And.intro hmost hk3))))
            clear hz ht3 hkk hdr a1 kk1 hop hmost hk3
            go_wp2_with fail
            refine HD.out.mono ?_
            rintro e w5 ⟨B, rp5, L5, rfl, z5, r5, k5⟩
            obtain ⟨t5, kk5, o5, m5, n5⟩ := HK.out
            have HR : Hid (∃ A rp L k, HZ (fun b => (b < W.heap.size ∨ b = T ∨ b = w1.heap.size) ∨ slB (some ⟨g, 0, none⟩) b) w5 P D T k A 1 pg2 rp L (X2.drop (i + 1)) ∧ TX w5 (some ⟨g, 0, none⟩) c2 X2 ∧ A.op = none ∧ A.most = 500 ∧ k ≤ 201000 + 4000 * (i + 1) ∧ Kept (fun b => b < W.heap.size) W w5) :=
              ⟨B, rp5, L5, _, z5, t5.of_block k5.size (fun b hb => k5.block b (.inr hb)), r5.shut o5, r5.most.trans m5, by omega, kk5.trans (k5.mono (fun b hb => .inl (.inl hb)))⟩
            clear HD HK z5 r5 k5 t5 kk5 c0 c1
            go_wp2_with fail
            go_roundw
            case rel => exact ⟨i + 1, by go_num, by omega, HR.out⟩
            case measure => simp [intOf]; omega
          · have hge : ¬ (i : Int) < (X2.length : Int) := by omega
            rw [List.drop_eq_nil_of_le (by omega)] at hz
            have hc := hcount_any hz.pz (by omega) hz.box hz.hi.root_has
            rw [(hz.hi.words hz.good hz.few).2, show ((([] : List HT).length : Nat) : Int) = 0 from rfl] at hc
            have HC := Lib.hid hc
            have HK := Lib.hid (And.intro hz (And.intro hkk (And.intro hop (And.intro hmost hk3))))
            clear hz ht3 hkk hop hmost hk3 hc
            go_wp2_with fail
            refine HC.out.mono ?_
            rintro e w6 ⟨rfl, p6, k6⟩
            obtain ⟨hz, hkk, hop, hmost, hk3⟩ := HK.out
            have z6 := hz.step p6 k6
            have HA := Lib.hid (hawake_any w6 p6.tab (fun b => b < w6.heap.size) (fun _ h => h))
            have H6 := Lib.hid (And.intro z6 (And.intro (hkk.trans (k6.mono (fun b hb => .inl (.inl hb)))) (And.intro hop hmost)))
            clear HC HK hz hkk hop hmost hk3 p6 k6 z6
            go_wp2_with fail
            refine HA.out.mono ?_
            rintro e w7 ⟨rfl, k7⟩
            obtain ⟨z6, k6, o6, m6⟩ := H6.out
            have b7 : Below w6.heap.size w6 w7 := ⟨k7.os, k7.tape, k7.output, k7.size, k7.block⟩
            have p7 := z6.pz.next b7
            have HDk := Lib.hid (pz_disk p7)
            have HRm := Lib.hid (pz_room p7 z6.good)
            have hroom := z6.hi.rooms z6.good o6 (m := 1) (fun t ht => absurd ht List.not_mem_nil)
            rw [m6, show ([] : List HT).length = 0 from rfl] at hroom
            have hr : (497 : Int) ≤ A3.rooms := by omega
            have H7 := Lib.hid (And.intro p7 (k6.trans (k7.mono (fun b hb => by have := k6.size; have := hb; omega))))
            clear HA H6 z6 k6 o6 m6 b7 p7 hroom k7
            generalize A3.rooms = rr at HRm hr
            go_wp2_with fail
            refine HDk.out.mono ?_
            rintro e w8 ⟨rfl, hw8⟩
            subst hw8
            go_wp2_with fail
            refine HRm.out.mono ?_
            rintro e w9 ⟨rfl, b9⟩
            have K9 := Lib.hid (H7.out.2.trans ((H7.out.1.kept b9).mono (fun b hb => .inl (.inl hb))))
            clear HDk HRm H7 b9
            go_wp2
            go_ret
            exact ⟨rfl, K9.out⟩
end
set_option maxRecDepth 100000 in
theorem hg_walk (W : World) (ht : TabAt W) {H : Type} {enc : TypeId × Value → H} {base : Nat} {d : DataW H} {p : List MemPlace} (v : Value) (hok : Value.okWide Tryz.prog W .any base 22 v) (h : DataW.Trod enc Tryz.prog W 0 (fun _ => true) true 22 v d p) :
    Calls Tryz.prog 3 #[v] W fun e w' => e = .returned (.bool true) ∧ Below W.heap.size W w' := by
  rcases A7.acts_open W v hok h with ⟨ao, cap, rfl⟩ | ⟨b, off, len, cap, kd, ii, ni, si, rfl, ha, hb, _⟩
  · exact (hg_any ao 0 cap W ht (Lib.hid (.inl rfl))).mono fun e w' ⟨a, k⟩ => ⟨a, k.os, k.tape, k.output, k.size, k.block⟩
  · exact (hg_any (some ⟨b, off, none⟩) len cap W ht (Lib.hid (.inr ⟨b, off, kd, ii, ni, si, rfl, ha, hb⟩))).mono fun e w' ⟨a, k⟩ => ⟨a, k.os, k.tape, k.output, k.size, k.block⟩
end Go.Proofs.YtjfkdfffolkblaaGreatDoor
