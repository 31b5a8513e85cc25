/-
  heap.walk: a long text's pages, one by one.
-/
import Derived.Test.YtjfkdfffolkblaaGreatDoorHeapK
import Derived.Deep.DeepCutAuto
namespace Go.Proofs.YtjfkdfffolkblaaGreatDoor
open Go.RowKit
open UK (str BytesAt nth Only Row Box w32)
open Go.BigFrame
theorem getL_rec (s : List UInt8) (ch : List Nat) (o : Nat) (v : UInt32) (rest : List UInt8) (e : (recS s ch).drop o = putL v ++ rest) (r : List UInt8) : wdAt (recS s ch ++ r) o = v ∧ o + 4 ≤ (recS s ch).length := by
  have hl : o + 4 ≤ (recS s ch).length := by
    have h1 := congrArg List.length e
    rw [List.length_drop, List.length_append, show (putL v).length = 4 from rfl] at h1
    omega
  refine ⟨?_, hl⟩
  unfold wdAt
  rw [List.drop_append_of_le_length (by omega), e, List.append_assoc, List.take_left' (show (putL v).length = 4 from rfl), get_put]
theorem rec_long (s : List UInt8) (ch : List Nat) (h : 300 < s.length) : recS s ch = 1 :: (putL (w32 s.length) ++ putL (w32 (ch.headD 0))) := by
  unfold recS
  rw [if_neg (by omega)]
theorem rec_words (s : List UInt8) (ch : List Nat) (h : 300 < s.length) (r : List UInt8) : wdAt (recS s ch ++ r) 1 = w32 s.length ∧ wdAt (recS s ch ++ r) 5 = w32 (ch.headD 0) ∧ (recS s ch).length = 9 := by
  have e := rec_long s ch h
  refine ⟨(getL_rec s ch 1 _ (putL (w32 (ch.headD 0))) (by rw [e]; rfl) r).1, (getL_rec s ch 5 _ [] (by rw [e]; rfl) r).1, by rw [e]; rfl⟩
theorem hget_d {W : World} {B : Nat} {x : List UInt8} (h : BytesAt W B x) (o n c : Nat) (hn : 4 ≤ n) (ho : o + n ≤ x.length) :
    Calls Tryz.prog 65 #[.slice (some ⟨B, o, none⟩) n c] W fun e w' => e = .returned (.int .u32 (getL ((x.drop o).take 4)).toNat) ∧ ∃ m, w' = W.drewN m := by
  have c0 := h.cell (i := o) (by omega)
  have c1 := h.cell (i := o + 1) (by omega)
  have c2 := h.cell (i := o + 2) (by omega)
  have c3 := h.cell (i := o + 3) (by omega)
  have hg : Hid (getL ((x.drop o).take 4) = UK.or32 (UK.or32 (UK.or32 (UK.wide (nth x o)) (UK.shl (UK.wide (nth x (o + 1))) 1)) (UK.shl (UK.wide (nth x (o + 2))) 2)) (UK.shl (UK.wide (nth x (o + 3))) 3)) := by
    show _ = _
    unfold getL
    have e : ∀ j, j < 4 → nth ((x.drop o).take 4) j = nth x (o + j) := fun j hj => by
      simp only [nth, List.getD_eq_getElem?_getD]
      rw [List.getElem?_take_of_lt hj, List.getElem?_drop]
    rw [e 0 (by omega), e 1 (by omega), e 2 (by omega), e 3 (by omega), Nat.add_zero]
  go_enter Tryz.func65, Tryz.ntmps65
  go_wp2
  go_quiet (fail)
  go_wp2
  go_ret
  exact ⟨by rw [hg.out] <;> rfl, _, rfl⟩
theorem hword_d {W : World} {B : Nat} {x : List UInt8} (h : BytesAt W B x) (o n c : Nat) (hn : 4 ≤ n) (ho : o + n ≤ x.length) :
    Calls Tryz.prog 91 #[.slice (some ⟨B, o, none⟩) n c] W fun e w' => e = .returned (.int .i64 (wdAt x o).toNat) ∧ ∃ m, w' = W.drewN m := by
  have HG := Lib.hid (hget_d h o n c hn ho)
  have hl := UK.u32_lt (getL ((x.drop o).take 4))
  have hw : IntKind.i64.wrap ((getL ((x.drop o).take 4)).toNat : Int) = ((getL ((x.drop o).take 4)).toNat : Int) := by rw [IntKind.wrap_i64]; omega
  unfold wdAt
  generalize getL ((x.drop o).take 4) = u at HG hl hw ⊢
  go_enter Tryz.func91, Tryz.ntmps91
  go_wp2_with fail
  refine HG.out.mono ?_
  rintro e w1 ⟨rfl, m, rfl⟩
  clear HG
  go_wp2
  go_ret
  exact ⟨by first | rfl | rw [hw] <;> rfl, m, rfl⟩
/-- worlds made of one in a few steps -/
theorem bw_drew {n : Nat} {a w : World} (h : Below n a w) : Below n a w.drew := h.drew
theorem bw_drewN {n : Nat} {a w : World} (h : Below n a w) (m : Nat) : Below n a (w.drewN m) := UK.belowN h m
theorem bw_alloc {n : Nat} {a w : World} (h : Below n a w) (hn : n ≤ w.heap.size) (o : Obj) : Below n a (w.alloc o) := h.alloc hn o
theorem bw_set {n : Nat} {a w : World} (h : Below n a w) {g : Nat} (hg : n ≤ g) (v : Value) : Below n a (w.setCell ⟨g, 0, none⟩ v) := h.setCell (p := ⟨g, 0, none⟩) hg v
theorem UK.Box.set1 {W : World} {g : Nat} {a : Value} (h : Box W g #[a]) (v : Value) : Box (W.setCell ⟨g, 0, none⟩ v) g #[v] := h.set 0 v
section
variable {E F : Nat → Prop} {W W' : World} {P D k fb db cap pg root H : Nat} {A : AP} {s : List UInt8} {ch : List Nat}
theorem PZ.cnt_le (h : PZ E W P D A k) : A.cnt ≤ 60000 := by
  obtain ⟨FB, M, n, q, d, h1, r⟩ := h
  exact h1.dok.fit.few
theorem ChainOf.dropN {c : Nat → List UInt8} : ∀ (j : Nat) {s : List UInt8} {ch : List Nat}, ChainOf c s ch → j ≤ ch.length → ChainOf c (s.drop (500 * j)) (ch.drop j)
  | 0, s, ch, h, _ => by rw [Nat.mul_zero, List.drop_zero, List.drop_zero]; exact h
  | j + 1, s, [], _, hj => absurd hj (Nat.not_succ_le_zero _)
  | j + 1, s, p :: ps, ⟨_, _, _, h4⟩, hj => by
    have := ChainOf.dropN j h4 (by simpa using hj)
    rw [List.drop_drop] at this
    rw [List.drop_succ_cons, show 500 * (j + 1) = 500 + 500 * j by omega]
    exact this
/-- a foreign cell turns -/
theorem PZ.turn {c2 : Nat} {v2 : Value} (h : PZ E W P D A k) (h2 : E c2) (t2 : 0 ≠ c2) (b2 : Box W c2 #[v2]) (b : Value) :
    PZ E (W.setCell ⟨c2, 0, none⟩ b) P D A k ∧ Kept (fun j => E j ∧ j ≠ c2) W (W.setCell ⟨c2, 0, none⟩ b) ∧ Box (W.setCell ⟨c2, 0, none⟩ b) c2 #[b] := by
  have o2 : Only c2 W (W.setCell ⟨c2, 0, none⟩ b) := (Only.refl c2 _).set 0 b
  refine ⟨h.over (R := fun j => j = c2) (fun j hj => by rw [hj]; exact h2) t2 o2.size (fun j hj hn => o2.block j hj hn) (fun _ hj => .inl hj), ⟨o2.os, o2.tape, o2.output, o2.size, fun j hj => o2.block j (h.there j hj.1) hj.2⟩, b2.set 0 b⟩
/-- what a walk's caller does with a page -/
structure Doer (N : Nat) (caps : Array Value) (J : Nat → (Nat → Prop) → AP → World → Prop) (F : Nat → Prop) (P D : Nat) (s : List UInt8) (ch : List Nat) : Prop where
  enter : ∀ args w, (callFunc N args).run Tryz.prog w = .ok (.enter N args) w
  still : ∀ j S B w w', J j S B w → Kept S w w' → J j S B w'
  less : ∀ j S B w, J j S B w → ∀ b, F b → S b
  does : ∀ (T : Nat → Prop) (j : Nat) (S : Nat → Prop) (B : AP) (kk : Nat) (w : World) (p : Nat), ch[j]? = some p → 500 * j < s.length → J j S B w → PZ (fun b => S b ∨ T b) w P D B kk → (∀ b, T b → ¬ S b) → kk + 1 < 900000000 → (∀ q, q ∈ ch.drop j → B.Has q) →
    Calls Tryz.prog N (#[.int .i64 p, .string (str ((s.drop (500 * j)).take 500))] ++ caps) w fun e w' => e = .returned (.int .i64 0) ∧ ∃ S' B', J (j + 1) S' B' w' ∧ PZ (fun b => S' b ∨ T b) w' P D B' (kk + 1) ∧ (∀ b, T b → ¬ S' b) ∧ (∀ q, q ∈ ch.drop (j + 1) → B'.Has q) ∧ B'.c = B.c ∧ Kept (fun b => F b ∨ T b) w w'
set_option maxHeartbeats 1000000 in
set_option maxRecDepth 100000 in
theorem walk_any {N : Nat} {caps : Array Value} {J : Nat → (Nat → Prop) → AP → World → Prop} (hd : Doer N caps J F P D s ch) (h : PZ E W P D A k) (hk : k + (s.length + 10) < 900000000) (hb : Box W H (hcells P root)) (hH : F H) (hch : ChainOf A.c s ch) (hhas : ∀ p, p ∈ ch → A.Has p) (hs1 : 300 < s.length) (hs2 : s.length ≤ 400000) (hJ : J 0 E A W) :
    Calls Tryz.prog 40 #[.pointer (some ⟨H, 0, none⟩), .string (str (recS s ch)), .func (.func N) #[] caps] W fun e w' => e = .returned (.int .i64 0) ∧ ∃ S B, J ch.length S B w' ∧ PZ S w' P D B (k + (s.length + 10)) ∧ Kept F W w' := by
  obtain ⟨_, _, hl9⟩ := rec_words s ch hs1 []
  have hi9 : ((recS s ch).length : Int) = 9 := by omega
  obtain ⟨cap, o, hcap, hrun, hby⟩ := UK.run_bytes (P := Tryz.prog) (src := 9) (dst := 92) Tryz.underlying9 Tryz.underlying92 Tryz.underlying5 W (recS s ch)
  rw [hl9] at hcap hrun hby
  obtain ⟨hw1, hw5, _⟩ := rec_words s ch hs1 (List.replicate (cap - 9) 0)
  have bo : Below W.heap.size W (W.drew.alloc o) := (Below.refl _ _).drew.alloc (Nat.le_refl _) o
  have hso : (W.drew.alloc o).heap.size = W.heap.size + 1 := by simp
  have HB := Lib.hid hb
  have HJ := Lib.hid hJ
  have HP := Lib.hid (h.next bo)
  have HK := Lib.hid (h.kept bo)
  generalize hwo : W.drew.alloc o = wo at hrun hby bo hso HP HK
  clear h hb hJ hwo
  go_enter Tryz.func40, Tryz.ntmps40
  go_upto_region 4 with (fail)
  generalize hhd : ch.headD 0 = hd0 at hw5
  have HHD := Lib.hid hhd
  have h60 : hd0 ≤ 4294967295 := by
    rw [← hhd]
    cases ch with
    | nil => exact Nat.zero_le _
    | cons a l =>
      have h1 := (hhas a (List.mem_cons_self ..)).2.1
      have h2 := HP.out.cnt_le
      show a ≤ _
      omega
  have e1 := w32_nat (n := s.length) (by omega)
  have e5 := w32_nat (n := hd0) (by omega)
  rw [← hw1] at e1
  rw [← hw5] at e5
  go_cut [8, 9] (fun nv pv wx => ∃ nb : Nat, nv = .pointer (some ⟨nb, 0, none⟩) ∧ pv = .int .i64 hd0 ∧ wo.heap.size ≤ nb ∧ Box wx nb #[.int .i64 s.length] ∧ Below wo.heap.size wo wx)
  case first =>
    have HW1 := Lib.hid (fun (w : World) (hb : Below wo.heap.size wo w) => hword_d (hby.below hb hby.lt) 1 8 (cap - 1) (by omega) (by rw [List.length_append, List.length_replicate, hl9]; omega))
    have HW5 := Lib.hid (fun (w : World) (hb : Below wo.heap.size wo w) => hword_d (hby.below hb hby.lt) 5 4 (cap - 5) (by omega) (by rw [List.length_append, List.length_replicate, hl9]; omega))
    rw [e1] at HW1
    rw [e5] at HW5
    have j1 : (1 : Int) ≤ cap := by omega
    have j2 : (5 : Int) ≤ cap := by omega
    have j3 : ¬ (cap = 1) := by omega
    have j4 : ¬ (cap = 5) := by omega
    clear hhd hch hhas hw1 hw5 e1 e5 hrun hd
    go_region_with (first
      | (go_at_call 91; refine (HW1.out _ (by (repeat (first | with_reducible exact Below.refl _ _ | with_reducible apply bw_drew | with_reducible apply bw_drewN | with_reducible apply bw_set | with_reducible apply bw_alloc | simp)))).mono ?_; rintro e w3 ⟨rfl, m1, rfl⟩)
      | (go_at_call 91; refine (HW5.out _ (by (repeat (first | with_reducible exact Below.refl _ _ | with_reducible apply bw_drew | with_reducible apply bw_drewN | with_reducible apply bw_set | with_reducible apply bw_alloc | simp)))).mono ?_; rintro e w3 ⟨rfl, m5, rfl⟩))
    all_goals
      go_wp2_with fail
      go_meet
      case rel =>
        refine ⟨W.heap.size + 1, rfl, rfl, by omega, ?_, ?_⟩
        · rw [← hso]
          first
            | exact Box.new _ _ _
            | exact ((Box.new wo _ _).drewN _).set1 _
            | exact ((Box.new (wo.drewN _) _ _).drewN _).set1 _
        · (try rw [← hso])
          (repeat (first | with_reducible exact Below.refl _ _ | with_reducible apply bw_drew | with_reducible apply bw_drewN | with_reducible apply bw_set | with_reducible apply bw_alloc | simp))
  case rest =>
    obtain ⟨nb, rfl, rfl, hnb, bxn, bl⟩ := hcut
    have hET := HP.out.there
    have htab := HP.out.tab.lt
    have hst : ∃ (S : Nat → Prop) (B : AP), J 0 S B wc ∧ ¬ S nb ∧ PZ (fun b => S b ∨ b = nb) wc P D B k ∧ B.c = A.c ∧ (∀ q, q ∈ ch → B.Has q) ∧ Kept F W wc := by
      have kk := HK.out.trans (HP.out.kept bl)
      exact ⟨E, A, hd.still _ _ _ _ _ HJ.out kk, fun hE => by have := hET nb hE; omega, HP.out.wide bl (fun j hj => by
        rcases hj with hj | rfl
        · exact .inl hj
        · exact .inr ⟨hnb, bxn.lt⟩), rfl, hhas, kk.mono (hd.less _ _ _ _ HJ.out)⟩
    have HST := Lib.hid hst
    have HCH := Lib.hid (fun j (hj : j ≤ ch.length) => hch.dropN j hj)
    have HFEW := Lib.hid hch.few
    have HBX := Lib.hid bxn
    clear hst hch hhas hby hrun hw1 hw5 e1 e5 bo bl HP HK HJ h60 bxn hET hhd
    have cn : wc.cell? ⟨nb, 0, none⟩ = some (.int .i64 s.length) := HBX.out.cell 0 _ rfl
    have i9 : ¬ (400000 : Int) < (s.length : Int) := by omega
    go_wp2_with fail
    go_loopw [9] (fun pv wr => ∃ (j : Nat) (S : Nat → Prop) (B : AP), pv = .int .i64 ((ch.drop j).headD 0 : Nat) ∧ j ≤ ch.length ∧ J j S B wr ∧ ¬ S nb ∧ PZ (fun b => S b ∨ b = nb) wr P D B (k + 4 * j) ∧ B.c = A.c ∧ (∀ q, q ∈ ch.drop j → B.Has q) ∧ Box wr nb #[.int .i64 (s.length - 500 * j : Nat)] ∧ Kept F W wr) (fun _ wr => (intOf ((wr.cell? ⟨nb, 0, none⟩).getD undef)).toNat)
    case atStart =>
      obtain ⟨S, B, q1, q2, q3, q4, q5, q6⟩ := HST.out
      exact ⟨0, S, B, by rw [List.drop_zero, HHD.out], Nat.zero_le _, q1, q2, q3, q4, q5, HBX.out, q6⟩
    case round =>
      clear HST HBX cn i9 HHD
      obtain ⟨j, S, B, rfl, hj, q1, q2, q3, q4, q5, q6, q7⟩ := hrel
      have c0 : wr.cell? ⟨H, 0, none⟩ = some (.pointer (some ⟨P, 0, none⟩)) := (HB.out.of_block (q7.block H hH)).cell 0 _ rfl
      have hcj := HCH.out j hj
      have hsl : (s.drop (500 * j)).length = s.length - 500 * j := List.length_drop
      by_cases hm : 0 < s.length - 500 * j
      · obtain ⟨p, ps, hdr⟩ : ∃ p ps, ch.drop j = p :: ps := by
          cases hdr : ch.drop j with
          | nil =>
            rw [hdr] at hcj
            have h0 : s.drop (500 * j) = [] := hcj
            rw [h0, List.length_nil] at hsl
            omega
          | cons p ps => exact ⟨p, ps, rfl⟩
        have hhp : (ch.drop j).headD 0 = p := by rw [hdr]; rfl
        rw [hhp]
        clear hhp
        rw [hdr] at hcj q5
        obtain ⟨_, hc1, hc2, _⟩ := hcj
        rw [hsl] at hc2
        have hjl : j < ch.length := by
          by_cases hc : j < ch.length
          · exact hc
          · rw [List.drop_eq_nil_of_le (by omega)] at hdr; cases hdr
        have hget : ch[j]? = some p := by
          have h0 : (ch.drop j)[0]? = some p := by rw [hdr]; rfl
          rw [List.getElem?_drop, Nat.add_zero] at h0
          exact h0
        have hdr1 : ch.drop (j + 1) = ps := by
          rw [← List.drop_drop, hdr]; rfl
        have hpB : B.Has p := q5 p (List.mem_cons_self ..)
        have hnx : (wdAt (B.c p) 0).toNat = ps.headD 0 := by
          rw [q4, hc1]
          refine w32_nat ?_
          cases ps with
          | nil => show 0 < _; omega
          | cons a l =>
            have h1 := (q5 a (List.mem_cons_of_mem _ (List.mem_cons_self ..))).2.1
            have h2 := q3.cnt_le
            show a < _
            omega
        rw [← q4] at hc2
        have hpl : ((s.drop (500 * j)).take 500).length = min 500 (s.length - 500 * j) := by rw [List.length_take, hsl]
        generalize hpart : (s.drop (500 * j)).take 500 = part at hc2 hpl
        have hm' : s.length - 500 * (j + 1) = s.length - 500 * j - part.length := by omega
        have hmlt : part.length ≤ s.length - 500 * j ∧ 0 < part.length ∧ s.length - 500 * j ≤ 400000 := by omega
        generalize hmm : s.length - 500 * j = m at q6 hm hc2 hpl hm' hmlt
        have cm : wr.cell? ⟨nb, 0, none⟩ = some (.int .i64 m) := q6.cell 0 _ rfl
        have hlt := q3.there
        have hnbl := q6.lt
        have ht := q3.tab.lt
        have a1 : Below wr.heap.size wr (wr.alloc (.cells #[.string (str [])] 9)) := (Below.refl _ _).alloc (Nat.le_refl _) _
        have hs1' : (wr.alloc (.cells #[.string (str [])] 9)).heap.size = wr.heap.size + 1 := by simp
        have x1 := Box.new wr #[.string (str [])] 9
        have a2 := a1.alloc (by omega) (.cells #[.int .i64 0] 3)
        have hs2' : ((wr.alloc (.cells #[.string (str [])] 9)).alloc (.cells #[.int .i64 0] 3)).heap.size = wr.heap.size + 2 := by simp
        have x2 := Box.new (wr.alloc (.cells #[.string (str [])] 9)) #[.int .i64 0] 3
        rw [hs1'] at x2
        have x1' := x1.alloc (.cells #[.int .i64 0] 3)
        have c0x : ((wr.alloc (.cells #[.string (str [])] 9)).alloc (.cells #[.int .i64 0] 3)).cell? ⟨H, 0, none⟩ = some (.pointer (some ⟨P, 0, none⟩)) := ((HB.out.of_block (q7.block H hH)).next a2).cell 0 _ rfl
        generalize hw2 : (wr.alloc (.cells #[.string (str [])] 9)).alloc (.cells #[.int .i64 0] 3) = w2 at a2 hs2' x2 x1'
        have HWW := Lib.hid hw2
        have p2 := q3.wide a2 (T := fun b => S b ∨ (b = nb ∨ b = wr.heap.size ∨ b = wr.heap.size + 1)) (fun b hb => by
          rcases hb with hb | hb | hb | hb
          · exact .inl (.inl hb)
          · exact .inl (.inr hb)
          · exact .inr (by omega)
          · exact .inr (by omega))
        have k2 : Kept (fun b => S b ∨ b = nb) wr w2 := q3.kept a2
        have HW := Lib.hid (with_any (N := 92) (caps := #[.pointer (some ⟨wr.heap.size + 1, 0, none⟩), .pointer (some ⟨nb, 0, none⟩), .pointer (some ⟨wr.heap.size, 0, none⟩)]) (F := fun b => S b ∨ b = nb)
          (R := fun A' k' r w' => A' = B ∧ k' = k + 4 * j + 2 ∧ r = 0 ∧ Box w' (wr.heap.size + 1) #[.int .i64 (ps.headD 0 : Nat)] ∧ Box w' wr.heap.size #[.string (str part)])
          (enters Tryz.func92 (by kernel_rfl) (by kernel_rfl)) p2 (by have := HFEW.out; omega) hpB (fun b hb => by
            rcases hb with hb | hb
            · exact .inl hb
            · exact .inr (.inl hb)) (fun fb db cap w hpf hkk => by
            refine (walk1_any hpf (x2.of_block (hkk.block _ (.inr (.inr (.inr rfl))))) ((q6.next a2).of_block (hkk.block _ (.inr (.inl rfl)))) (x1'.of_block (hkk.block _ (.inr (.inr (.inl rfl))))) (.inr (.inr (.inr rfl))) (.inr (.inr (.inl rfl))) (by omega) (by omega) (by omega) (by omega) (by omega)).mono ?_
            rintro e w' ⟨he, r1, r2, r3, r4⟩
            rw [hnx] at r2
            rw [hc2] at r3
            refine ⟨0, B, k + 4 * j + 2, false, he, r1, r4.mono (fun b hb => ⟨?_, ?_, ?_⟩), rfl, rfl, rfl, r2, r3⟩
            · rcases hb with hb | hb
              · exact .inl hb
              · exact .inr (.inl hb)
            · have := hlt b hb; omega
            · have := hlt b hb; omega))
        have eN := hd.enter
        have HQ := Lib.hid (And.intro q1 (And.intro q2 (And.intro q4 (And.intro q5 (And.intro q6 (And.intro q7 k2))))))
        have HT := Lib.hid (And.intro hlt hnbl)
        have HDR := Lib.hid hdr
        clear q1 q2 q3 q4 q5 q6 q7 p2 k2 a1 a2 x1 x1' x2 hs1' hs2' hc1 hc2 hnx hpB hdr hw2 hlt
        go_wp2_with fail
        rw [HWW.out]
        refine HW.out.mono ?_
        rintro e w3 ⟨r, A', k', w1', rfl, ⟨rfl, rfl, rfl, b1, b2⟩, p3, k3, k4⟩
        obtain ⟨q1, q2, q4, q5, q6, q7, k2⟩ := HQ.out
        obtain ⟨hlt, hnbl⟩ := HT.out
        have b13 := b1.of_block (k3.block _ (.inr (.inr (.inr rfl))))
        have b23 := b2.of_block (k3.block _ (.inr (.inr (.inl rfl))))
        have k24 := k2.trans k4
        have bn3 := q6.of_block (k24.block _ (.inr rfl))
        have q13 := hd.still _ _ _ _ _ q1 (k24.mono (fun b hb => .inl hb))
        have hdo := hd.does (fun b => b = nb ∨ b = wr.heap.size ∨ b = wr.heap.size + 1) j S A' (k + 4 * j + 2) w3 p hget (by omega) q13 p3 (fun b hb hS => by
          rcases hb with rfl | rfl | rfl
          · exact q2 hS
          · have := hlt _ (.inl hS); omega
          · have := hlt _ (.inl hS); omega) (by have := HFEW.out; omega) (fun q hq => by
          refine q5 q ?_
          have hh : ch.drop j = p :: ps := HDR.out
          rw [← hh]; exact hq)
        rw [hpart] at hdo
        have HDO := Lib.hid hdo
        have d10 : w3.cell? ⟨wr.heap.size, 0, none⟩ = some (.string (str part)) := b23.cell 0 _ rfl
        have HB3 := Lib.hid (And.intro b13 (And.intro b23 (And.intro bn3 (And.intro q7 (And.intro k24 (And.intro q4 (hd.less _ _ _ _ q1)))))))
        clear HQ HT HW p3 k3 k4 b1 b2 b13 b23 k24 bn3 q13 hdo q1 q2 q4 q5 q6 q7 k2 hlt hnbl
        go_wp2_with fail
        refine HDO.out.mono ?_
        rintro e w4 ⟨rfl, S', B', r1, r2, r3, r4, r5, r6⟩
        obtain ⟨b13, b23, bn3, q7, k24, q4, hFS⟩ := HB3.out
        have b14 := b13.of_block (r6.block _ (.inr (.inr (.inr rfl))))
        have b24 := b23.of_block (r6.block _ (.inr (.inr (.inl rfl))))
        have bn4 := bn3.of_block (r6.block _ (.inr (.inl rfl)))
        have n1 : nb ≠ wr.heap.size := by omega
        have n2 : nb ≠ wr.heap.size + 1 := by omega
        obtain ⟨z1, z2, z3⟩ := r2.turn (.inr (.inl rfl)) (by omega) bn4 (.int .i64 ((s.length - 500 * (j + 1) : Nat) : Int))
        have k4' : Kept (fun b => S' b) w4 (w4.setCell ⟨nb, 0, none⟩ (.int .i64 ((s.length - 500 * (j + 1) : Nat) : Int))) := z2.mono (fun b hb => ⟨.inl hb, fun e => r3 nb (.inl rfl) (e ▸ hb)⟩)
        have hFn : ∀ b, F b → b ≠ nb := fun b hb e => r3 nb (.inl rfl) (by
          have := hd.less _ _ _ _ r1 b hb
          rw [← e]; exact this)
        have kF : Kept F W (w4.setCell ⟨nb, 0, none⟩ (.int .i64 ((s.length - 500 * (j + 1) : Nat) : Int))) :=
          ((q7.trans (k24.mono (fun b hb => .inl (hFS b hb)))).trans (r6.mono (fun b hb => .inl hb))).trans (k4'.mono (fun b hb => hd.less _ _ _ _ r1 b hb))
        have H5 : Hid (∃ (S : Nat → Prop) (B : AP), J (j + 1) S B (w4.setCell ⟨nb, 0, none⟩ (.int .i64 ((s.length - 500 * (j + 1) : Nat) : Int))) ∧ ¬ S nb ∧ PZ (fun b => S b ∨ b = nb) (w4.setCell ⟨nb, 0, none⟩ (.int .i64 ((s.length - 500 * (j + 1) : Nat) : Int))) P D B (k + 4 * (j + 1)) ∧ B.c = A.c ∧ (∀ q, q ∈ ch.drop (j + 1) → B.Has q) ∧ Box (w4.setCell ⟨nb, 0, none⟩ (.int .i64 ((s.length - 500 * (j + 1) : Nat) : Int))) nb #[.int .i64 ((s.length - 500 * (j + 1) : Nat) : Int)] ∧ Kept F W (w4.setCell ⟨nb, 0, none⟩ (.int .i64 ((s.length - 500 * (j + 1) : Nat) : Int)))) :=
          ⟨S', B', hd.still _ _ _ _ _ r1 k4', r3 nb (.inl rfl), (z1.less (fun b hb => by
            rcases hb with hb | hb
            · exact .inl hb
            · exact .inr (.inl hb))).up (by omega), r5.trans q4, r4, z3, kF⟩
        have e4 : w4.cell? ⟨nb, 0, none⟩ = some (.int .i64 m) := bn4.cell 0 _ rfl
        have e5' : w4.cell? ⟨wr.heap.size, 0, none⟩ = some (.string (str part)) := b24.cell 0 _ rfl
        have e6 : w4.cell? ⟨wr.heap.size + 1, 0, none⟩ = some (.int .i64 (ps.headD 0 : Nat)) := b14.cell 0 _ rfl
        have f4 : w4.frozen? ⟨nb, 0, none⟩ = false := bn4.free 0
        have hsub : (m : Int) - (part.length : Int) = ((s.length - 500 * (j + 1) : Nat) : Int) := by omega
        have hcell : (w4.setCell ⟨nb, 0, none⟩ (.int .i64 ((s.length - 500 * (j + 1) : Nat) : Int))).cell? ⟨nb, 0, none⟩ = some (.int .i64 ((s.length - 500 * (j + 1) : Nat) : Int)) := z3.cell 0 _ rfl
        have HCL := Lib.hid hcell
        have hb1 : ((s.length - 500 * (j + 1) : Nat) : Int) < 400000 := by omega
        have hb2 : (part.length : Int) ≤ m := by omega
        have hb3 : (m : Int) ≤ 400000 := by omega
        have hb4 : s.length - 500 * (j + 1) < m := by omega
        generalize hm2 : s.length - 500 * (j + 1) = m2 at H5 hsub HCL hb1 hb4
        have HM2 := Lib.hid hm2
        clear hm2
        generalize hph : ps.headD 0 = ph at e6
        have HPH := Lib.hid hph
        clear HDO HB3 r1 r2 r3 r4 r5 r6 b13 b23 bn3 q7 k24 q4 hFS b14 b24 bn4 z1 z2 z3 k4' hFn kF hcell hm' hph d10 c0x eN hpl hmlt hm
        go_wp2
        go_roundw
        case rel =>
          obtain ⟨S5, B5, t1, t2, t3, t4, t5, t6, t7⟩ := H5.out
          exact ⟨j + 1, S5, B5, by rw [hdr1, HPH.out], hjl, t1, t2, t3, t4, t5, by rw [HM2.out]; exact t6, t7⟩
        case measure =>
          rw [HCL.out, cm]
          simp [intOf]
          omega
      · have hnil : ch.drop j = [] := by
          cases hdr : ch.drop j with
          | nil => rfl
          | cons p ps =>
            rw [hdr] at hcj
            exact absurd (List.length_eq_zero_iff.1 (by omega)) hcj.1
        have hje : j = ch.length := by
          have := congrArg List.length hnil
          rw [List.length_drop, List.length_nil] at this
          omega
        have h0 : s.length - 500 * j = 0 := by omega
        rw [h0] at q6
        have cm : wr.cell? ⟨nb, 0, none⟩ = some (.int .i64 0) := q6.cell 0 _ rfl
        have HQ := Lib.hid (And.intro q1 (And.intro (q3.less (T := S) (fun _ hb => .inl hb)) (And.intro q7 hje)))
        clear q1 q2 q3 q4 q5 q6 q7 hcj hnil
        go_wp2
        go_ret
        obtain ⟨q1, q3, q7, rfl⟩ := HQ.out
        exact ⟨rfl, S, B, q1, q3.up (by have := HFEW.out; omega), q7⟩
end
end Go.Proofs.YtjfkdfffolkblaaGreatDoor
