/-
  tabularlaw08.Does: keys are put.
  tabularlaw08.Does: keys are dropped.
-/
import Derived.Test.YtfljlcfmdcepnaaGreatDoorJTsW
namespace Go.Proofs.YtfljlcfmdcepnaaGreatDoor
open Go.RowKit
open UK (str BytesAt nth Only Row Box)
abbrev acells8 (kd nn : Int) (K V : UInt64) : Array Value := #[.int .i64 kd, .int .i64 nn, .int .u64 K.toNat, .int .u64 V.toNat]
abbrev zcells8 : Array Value := #[.pointer none, .pointer none, .slice none 0 0, .slice none 0 0, .bool false]
abbrev UK.fill5 (w : World) (g : Nat) (a0 a1 a2 a3 a4 : Value) : World :=
  (((((w.setCell ⟨g, 0, none⟩ a0).setCell ⟨g, 1, none⟩ a1).setCell ⟨g, 2, none⟩ a2).setCell ⟨g, 3, none⟩ a3).setCell ⟨g, 4, none⟩ a4)
theorem UK.Box.fill5 {w : World} {g : Nat} {b0 b1 b2 b3 b4 : Value} (h : Box w g #[b0, b1, b2, b3, b4]) (a0 a1 a2 a3 a4 : Value) : Box (UK.fill5 w g a0 a1 a2 a3 a4) g #[a0, a1, a2, a3, a4] := by
  have h5 := ((((h.set 0 a0).set 1 a1).set 2 a2).set 3 a3).set 4 a4
  have e : (((((#[b0, b1, b2, b3, b4] : Array Value).set! 0 a0).set! 1 a1).set! 2 a2).set! 3 a3).set! 4 a4 = #[a0, a1, a2, a3, a4] := by simp
  rw [e] at h5
  exact h5
theorem UK.Only.fill5 (w : World) (g : Nat) (a0 a1 a2 a3 a4 : Value) : Only g w (UK.fill5 w g a0 a1 a2 a3 a4) :=
  (((((Only.refl g w).set 0 a0).set 1 a1).set 2 a2).set 3 a3).set 4 a4
theorem run_under : Tryz.prog.underlying 30 = some (.struct (match Tryz.prog.underlying 30 with | some (.struct f) => f | _ => #[])) := by kernel_rfl
theorem run_size : (Tryz.prog.info? 30).map (·.size) = some 5 := by kernel_rfl
def rOwn (S : Nat → Prop) (T : Nat) (ao bo : Option Addr) (b : Nat) : Prop := S b ∨ b = T ∨ slB ao b ∨ slB bo b
structure RM (S : Nat → Prop) (w : World) (P D T : Nat) (ao : Option Addr) (c : Nat) (X : List KV) (bo : Option Addr) (d : Nat) (Y : List KV) (A : AP) (k : Nat) : Prop where
  tr : TreeAt (rOwn S T ao bo) w P D T 1 A k
  px : PrX w ao c X
  py : PrX w bo d Y
structure RB (S : Nat → Prop) (w : World) (rb P D T : Nat) (ao : Option Addr) (c : Nat) (X : List KV) (bo : Option Addr) (d : Nat) (Y : List KV) (op : Bool) (A : AP) (k : Nat) : Prop where
  rm : RM (fun b => S b ∨ (rb ≤ b ∧ b < rb + 3)) w P D T ao c X bo d Y A k
  box : Box w rb (rcells P T ao X.length c bo Y.length d op)
  act : ∃ kd nn K V, Box w (rb + 1) (acells8 kd nn K V)
  res : Box w (rb + 2) zcells8
  far : T < rb ∨ rb + 3 ≤ T
  fao : ∀ b, slB ao b → b < rb ∨ rb + 3 ≤ b
  fbo : ∀ b, slB bo b → b < rb ∨ rb + 3 ≤ b
  tab : 0 < rb
section
variable {S : Nat → Prop} {W W' : World} {P D T k c d : Nat} {A : AP} {X Y : List KV} {ps : List Nat} {ao bo : Option Addr} {op : Bool}
theorem RM.boxed (h : RM S W P D T ao c X bo d Y A k) (kd nn : Int) (K V : UInt64) :
    RB S (((W.alloc (.cells (rcells P T ao X.length c bo Y.length d op) 30)).alloc (.cells (acells8 kd nn K V) 32)).alloc (.cells zcells8 30)) W.heap.size P D T ao c X bo d Y op A k ∧
    Below W.heap.size W (((W.alloc (.cells (rcells P T ao X.length c bo Y.length d op) 30)).alloc (.cells (acells8 kd nn K V) 32)).alloc (.cells zcells8 30)) ∧
    Box (((W.alloc (.cells (rcells P T ao X.length c bo Y.length d op) 30)).alloc (.cells (acells8 kd nn K V) 32)).alloc (.cells zcells8 30)) (W.heap.size + 1) (acells8 kd nn K V) := by
  have hth := h.tr.pz.there
  have z1 : (W.alloc (.cells (rcells P T ao X.length c bo Y.length d op) 30)).heap.size = W.heap.size + 1 := by simp
  have x1 := Box.new W (rcells P T ao X.length c bo Y.length d op) 30
  have b1 : Below W.heap.size W (W.alloc (.cells (rcells P T ao X.length c bo Y.length d op) 30)) := (Below.refl _ _).alloc (Nat.le_refl _) _
  generalize W.alloc (.cells (rcells P T ao X.length c bo Y.length d op) 30) = w1 at z1 x1 b1 ⊢
  have z2 : (w1.alloc (.cells (acells8 kd nn K V) 32)).heap.size = w1.heap.size + 1 := by simp
  have x2 := Box.new w1 (acells8 kd nn K V) 32
  have x12 := x1.alloc (.cells (acells8 kd nn K V) 32)
  have b2 := b1.alloc b1.size (.cells (acells8 kd nn K V) 32)
  generalize w1.alloc (.cells (acells8 kd nn K V) 32) = w2 at z2 x2 x12 b2 ⊢
  have z3 : (w2.alloc (.cells zcells8 30)).heap.size = w2.heap.size + 1 := by simp
  have x3 := Box.new w2 zcells8 30
  have x13 := x12.alloc (.cells zcells8 30)
  have x23 := x2.alloc (.cells zcells8 30)
  have b3 := b2.alloc b2.size (.cells zcells8 30)
  generalize w2.alloc (.cells zcells8 30) = w3 at z3 x3 x13 x23 b3 ⊢
  rw [z1] at x23
  rw [show w2.heap.size = W.heap.size + 2 by omega] at x3
  have hT := hth T h.tr.mem
  refine ⟨⟨⟨⟨h.tr.pz.wide b3 (fun j hj => ?_), h.tr.box.next b3, .inr (.inl rfl)⟩, h.px.next b3, h.py.next b3⟩, x13, ⟨_, _, _, _, x23⟩, x3, .inl hT, fun b hb => .inl (hth b (.inr (.inr (.inl hb)))), fun b hb => .inl (hth b (.inr (.inr (.inr hb)))), h.tr.pz.tab.lt⟩, b3, x23⟩
  rcases hj with (hj | hj) | hj
  · exact .inl (.inl hj)
  · exact .inr ⟨hj.1, by omega⟩
  · exact .inl (.inr hj)
theorem RB.setX {w w' : World} {rb : Nat} (h : RB S w rb P D T ao c X bo d Y op A k) {ao' : Option Addr} {c' : Nat} {X' : List KV} (hm : Made8 w w' ao' c' X') (hr : rb + 3 ≤ w.heap.size) :
    RB S (w'.setCell ⟨rb, 2, none⟩ (.slice ao' X'.length c')) rb P D T ao' c' X' bo d Y op A k ∧ Only rb w' (w'.setCell ⟨rb, 2, none⟩ (.slice ao' X'.length c')) := by
  obtain ⟨hp, hao, hb⟩ := hm
  have o : Only rb w' (w'.setCell ⟨rb, 2, none⟩ (.slice ao' X'.length c')) := (Only.refl rb w').set 2 _
  have bx : Box (w'.setCell ⟨rb, 2, none⟩ (.slice ao' X'.length c')) rb (rcells P T ao' X'.length c' bo Y.length d op) := by
    have := (h.box.next hb).set 2 (.slice ao' X'.length c')
    simpa [rcells] using this
  generalize w'.setCell ⟨rb, 2, none⟩ (.slice ao' X'.length c') = w2 at o bx ⊢
  have hlt : rb < w'.heap.size := by have := hb.size; omega
  have p1 : PZ (rOwn (fun b => S b ∨ (rb ≤ b ∧ b < rb + 3)) T ao' bo) w' P D A k := h.rm.tr.pz.wide hb (fun j hj => by
    rcases hj with hj | hj | hj | hj
    · exact .inl (.inl hj)
    · exact .inl (.inr (.inl hj))
    · exact .inr ⟨hao j hj, hp.lt hj⟩
    · exact .inl (.inr (.inr (.inr hj))))
  have hne : rb ≠ 0 := Ne.symm (Nat.ne_of_lt h.tab)
  have p2 : PZ (rOwn (fun b => S b ∨ (rb ≤ b ∧ b < rb + 3)) T ao' bo) w2 P D A k := p1.over (R := fun j => j = rb) (fun j hj => by rw [hj]; exact .inl (.inr ⟨Nat.le_refl _, by omega⟩)) (fun he => hne he.symm) o.size (fun j hj hr => o.block j hj hr) (fun j hj => .inl hj)
  have hTr : T ≠ rb := by have := h.far; omega
  have hfa : ∀ b, slB ao' b → b ≠ rb := fun b hb2 => by have := hao b hb2; omega
  have hfb : ∀ b, slB bo b → b ≠ rb := fun b hb2 => by have := h.fbo b hb2; omega
  obtain ⟨kd, nn, K, V, ha⟩ := h.act
  exact ⟨⟨⟨⟨p2, (h.rm.tr.box.next hb).only o hTr, .inr (.inl rfl)⟩, hp.of_block o.size (fun b hb2 => o.block b (hp.lt hb2) (hfa b hb2)), (h.rm.py.next hb).of_block o.size (fun b hb2 => o.block b ((h.rm.py.next hb).lt hb2) (hfb b hb2))⟩, bx, ⟨kd, nn, K, V, (ha.next hb).only o (by omega)⟩, (h.res.next hb).only o (by omega), h.far, fun b hb2 => .inr (by have := hao b hb2; omega), h.fbo, h.tab⟩, o⟩
theorem RB.next {w w' : World} {rb k' : Nat} {B : AP} (h : RB S w rb P D T ao c X bo d Y op A k) (ht : TreeAt (rOwn (fun b => S b ∨ (rb ≤ b ∧ b < rb + 3)) T ao bo) w' P D T 1 B k') (kp : Kept (rOwn (fun b => S b ∨ (rb ≤ b ∧ b < rb + 3)) T ao bo) w w') :
    RB S w' rb P D T ao c X bo d Y op B k' := by
  obtain ⟨kd, nn, K, V, ha⟩ := h.act
  exact ⟨⟨ht, h.rm.px.of_block kp.size (fun b hb => kp.block b (.inr (.inr (.inl hb)))), h.rm.py.of_block kp.size (fun b hb => kp.block b (.inr (.inr (.inr hb))))⟩, h.box.of_block (kp.block rb (.inl (.inr ⟨Nat.le_refl _, by omega⟩))), ⟨kd, nn, K, V, ha.of_block (kp.block (rb + 1) (.inl (.inr ⟨by omega, by omega⟩)))⟩, h.res.of_block (kp.block (rb + 2) (.inl (.inr ⟨by omega, by omega⟩))), h.far, h.fao, h.fbo, h.tab⟩
def DoesR (S : Nat → Prop) (W w' : World) (P D K : Nat) (Q : AP → List KV → List KV → Bool → Prop) (e : Ending) : Prop :=
  ∃ (T : Nat) (ao : Option Addr) (c : Nat) (X : List KV) (bo : Option Addr) (d : Nat) (Y : List KV) (op : Bool) (A : AP) (k : Nat), e = .returned (.tuple #[.agg (rcells P T ao X.length c bo Y.length d op), .bool true]) ∧ RM S w' P D T ao c X bo d Y A k ∧ k ≤ K ∧ Kept S W w' ∧ Q A X Y op
theorem RB.done {w : World} {rb K : Nat} {Q : AP → List KV → List KV → Bool → Prop} (h : RB S w rb P D T ao c X bo d Y op A k) (hk : k ≤ K) (kp : Kept S W w) (hS : ∀ j, S j → j < rb) (hQ : Q A X Y op) :
    DoesR S W (UK.fill5 w (rb + 2) (.pointer (some ⟨P, 0, none⟩)) (.pointer (some ⟨T, 0, none⟩)) (.slice ao X.length c) (.slice bo Y.length d) (.bool op)) P D K Q (.returned (.tuple #[.agg (rcells P T ao X.length c bo Y.length d op), .bool true])) := by
  have o := UK.Only.fill5 w (rb + 2) (.pointer (some ⟨P, 0, none⟩)) (.pointer (some ⟨T, 0, none⟩)) (.slice ao X.length c) (.slice bo Y.length d) (.bool op)
  generalize UK.fill5 w (rb + 2) (.pointer (some ⟨P, 0, none⟩)) (.pointer (some ⟨T, 0, none⟩)) (.slice ao X.length c) (.slice bo Y.length d) (.bool op) = w2 at o ⊢
  have hne : rb + 2 ≠ 0 := by have := h.tab; omega
  have hth := h.rm.tr.pz.there
  have hlt := h.box.lt
  have p2 : PZ (rOwn S T ao bo) w2 P D A k := h.rm.tr.pz.over (R := fun j => j = rb + 2) (fun j hj => by rw [hj]; exact .inl (.inr ⟨by omega, by omega⟩)) (fun he => hne he.symm) o.size (fun j hj hr => o.block j hj hr) (fun j hj => by
    rcases hj with hj | hj
    · exact .inl (.inl (.inl hj))
    · exact .inl (.inr hj))
  have hTr : T ≠ rb + 2 := by have := h.far; omega
  refine ⟨T, ao, c, X, bo, d, Y, op, A, k, rfl, ⟨⟨p2, h.rm.tr.box.only o hTr, .inr (.inl rfl)⟩, h.rm.px.of_block o.size (fun b hb => o.block b (h.rm.px.lt hb) (by have := h.fao b hb; omega)), h.rm.py.of_block o.size (fun b hb => o.block b (h.rm.py.lt hb) (by have := h.fbo b hb; omega))⟩, hk, kp.trans ⟨o.os, o.tape, o.output, o.size, fun j hj => o.block j (by have := hS j hj; omega) (by have := hS j hj; omega)⟩, hQ⟩
def timesOf (nn : Int) : Nat := (min (max nn 1) 40).toNat
theorem timesOf_le (nn : Int) : timesOf nn ≤ 40 ∧ (timesOf nn : Int) = min (max nn 1) 40 := by unfold timesOf; omega
theorem u64_sum (K : UInt64) (i : Nat) (hi : i ≤ 40) : IntKind.u64.wrap ((K.toNat : Int) + (i : Int)) = ((K + UInt64.ofNat i).toNat : Int) := by
  have h : (K + UInt64.ofNat i).toNat = (K.toNat + i) % 18446744073709551616 := by
    rw [UInt64.toNat_add, UInt64.toNat_ofNat_of_lt' (by show i < 18446744073709551616; omega)]
  rw [h, IntKind.wrap_u64]
  omega
set_option maxHeartbeats 4000000 in
set_option maxRecDepth 100000 in
theorem does_put (h : RM S W P D T ao c X bo d Y A k) (hS : ∀ j, S j → j < W.heap.size) (hk : k + 100000 < 900000000) (nn : Int) (K V : UInt64) (J : Nat → AP → List KV → Prop) (h0 : J 0 A X)
    (hJ : ∀ i A X, J i A X → i < timesOf nn → ∃ ps, TI A 1 X ps ∧ A.Good ∧ (∀ p, A.Has p → (A.c p).length = 504) ∧ 20 < A.rooms ∧ X.length ≤ 2000 ∧ ∀ B, PutOk A B 1 (insL X (K + UInt64.ofNat i) (V + UInt64.ofNat i)) ps → J (i + 1) B (insL X (K + UInt64.ofNat i) (V + UInt64.ofNat i))) :
    Calls Tryz.prog 8 #[.agg (rcells P T ao X.length c bo Y.length d op), .agg (acells8 1 nn K V)] W fun e w' => DoesR S W w' P D (k + 100000) (fun A' X' Y' op' => J (timesOf nn) A' X' ∧ Y' = Y ∧ op' = op) e := by
  obtain ⟨hb, hbel, hact⟩ := h.boxed (op := op) 1 nn K V
  have a0 : (((W.alloc (.cells (rcells P T ao X.length c bo Y.length d op) 30)).alloc (.cells (acells8 1 nn K V) 32)).alloc (.cells zcells8 30)).cell? ⟨W.heap.size + 1, 0, none⟩ = some (.int .i64 1) := hact.cell 0 _ rfl
  have a1 : (((W.alloc (.cells (rcells P T ao X.length c bo Y.length d op) 30)).alloc (.cells (acells8 1 nn K V) 32)).alloc (.cells zcells8 30)).cell? ⟨W.heap.size + 1, 1, none⟩ = some (.int .i64 nn) := hact.cell 1 _ rfl
  obtain ⟨n, hn⟩ : ∃ n, n = timesOf nn := ⟨_, rfl⟩
  obtain ⟨hn40, hne⟩ := timesOf_le nn
  rw [← hn] at hJ hn40 hne ⊢
  have HE := Lib.hid hne
  have HB := Lib.hid (And.intro hb (And.intro hbel hact))
  have HJ := Lib.hid (And.intro h0 (And.intro hJ hS))
  generalize hW3 : ((W.alloc (.cells (rcells P T ao X.length c bo Y.length d op) 30)).alloc (.cells (acells8 1 nn K V) 32)).alloc (.cells zcells8 30) = w3 at HB a0 a1
  have HW3 := Lib.hid hW3
  rw [← hW3] at a0 a1
  clear h hb hbel hact h0 hJ hS hn hW3 hne
  go_enter Tryz.func8, Tryz.ntmps8
  go_upto_region 1 with (fail)
  go_cut [6] (fun nv wx => nv = .int .i64 (n : Int) ∧ wx = w3)
  case first =>
    go_wp2_with fail
    go_meet
    case rel => exact ⟨by rw [HE.out], HW3.out⟩
  case rest =>
  obtain ⟨rfl, rfl⟩ := hcut
  clear a0 a1
  have a0 : wc.cell? ⟨W.heap.size + 1, 0, none⟩ = some (.int .i64 1) := HB.out.2.2.cell 0 _ rfl
  have hkb := HB.out.2.1
  have HKK := Lib.hid (Kept.of_below hkb HJ.out.2.2)
  have hWlt : W.heap.size + 3 ≤ wc.heap.size := by have := HB.out.1.res.lt; omega
  have HWL := Lib.hid hWlt
  clear hkb hWlt HE HW3
  go_wp2_with fail
  go_loopw [7] (fun iv wr => ∃ (i : Nat) (A : AP) (X : List KV) (ao : Option Addr) (c k' : Nat), iv = .int .i64 i ∧ i ≤ n ∧ J i A X ∧ RB S wr W.heap.size P D T ao c X bo d Y op A k' ∧ k' ≤ k + 2000 * i ∧ Kept S W wr ∧ Box wr (W.heap.size + 1) (acells8 1 nn K V) ∧ wc.heap.size ≤ wr.heap.size) (fun iv _ => 41 - (intOf iv).toNat)
  case atStart => exact ⟨0, A, X, ao, c, k, rfl, Nat.zero_le _, HJ.out.1, HB.out.1, by omega, HKK.out, HB.out.2.2, Nat.le_refl _⟩
  case round =>
    clear a0
    obtain ⟨i, A, X, ao, c, k', rfl, hin, hJi, hrb, hkk, hkp, hact, hsz⟩ := hrel
    by_cases hlt : i < n
    · obtain ⟨ps, hti, hgood, hclen, hroom, hlen, hnext⟩ := HJ.out.2.1 i A X hJi hlt
      have hlti : (i : Int) < (n : Int) := Int.ofNat_lt.2 hlt
      have a2 : wr.cell? ⟨W.heap.size + 1, 2, none⟩ = some (.int .u64 K.toNat) := hact.cell 2 _ rfl
      have a3 : wr.cell? ⟨W.heap.size + 1, 3, none⟩ = some (.int .u64 V.toNat) := hact.cell 3 _ rfl
      have hi40 : i ≤ 40 := by omega
      have HS1 := Lib.hid (u64_sum K i hi40)
      have HS2 := Lib.hid (u64_sum V i hi40)
      have HR := Lib.hid (And.intro hrb (And.intro hkp (And.intro hact (And.intro hsz hkk))))
      have HT := Lib.hid (And.intro hti (And.intro hgood (And.intro hclen (And.intro hroom (And.intro hlen hnext)))))
      have hcv : IntKind.u64.wrap (i : Int) = (i : Int) := IntWalk.u64_in _ ⟨by omega, by omega⟩
      clear hrb hkp hact hsz hti hgood hclen hroom hlen hnext hJi hlt hin hkk
      go_upto_region 7 with (fail)
      go_cut [8, 9] (fun kv vv wx => kv = .int .u64 (IntKind.u64.wrap ((K.toNat : Int) + (i : Int))) ∧ vv = .int .u64 (IntKind.u64.wrap ((V.toNat : Int) + (i : Int))) ∧ ∃ q, wx = wr.drewN q)
      case first =>
        go_wp2_with fail
        go_quiet (fail)
        go_wp2_with fail
        go_meet
        case rel => exact ⟨by first | rfl | simp [IntKind.wrap_u64], by first | rfl | simp [IntKind.wrap_u64], _, rfl⟩
      case rest =>
      rename_i wq
      obtain ⟨rfl, rfl, q, rfl⟩ := hcut
      rw [HS1.out, HS2.out]
      obtain ⟨hrb, hkp, hact, hsz, hkk⟩ := HR.out
      obtain ⟨hti, hgood, hclen, hroom, hlen, hnext⟩ := HT.out
      have bq : Below wr.heap.size wr (wr.drewN q) := UK.belowN (Below.refl _ _) q
      have hth := hrb.rm.tr.pz.there
      have tq : TreeAt (rOwn (fun b => S b ∨ (W.heap.size ≤ b ∧ b < W.heap.size + 3)) T ao bo) (wr.drewN q) P D T 1 A k' := ⟨hrb.rm.tr.pz.next bq, hrb.rm.tr.box.next bq, hrb.rm.tr.mem⟩
      have hrq := hrb.next tq (Kept.of_below bq hth)
      have HP := Lib.hid (tree_put_any tq (by omega) hti hgood hclen (K + UInt64.ofNat i) (V + UInt64.ofNat i))
      have d1 : (wr.drewN q).cell? ⟨W.heap.size, 1, none⟩ = some (.pointer (some ⟨T, 0, none⟩)) := hrq.box.cell 1 _ rfl
      have H2 := Lib.hid (And.intro hrq (And.intro (hkp.trans (Kept.of_below bq (fun j hj => hth j (.inl (.inl hj))))) (And.intro (hact.next bq) hkk)))
      generalize hKi : K + UInt64.ofNat i = Ki at *
      generalize hVi : V + UInt64.ofNat i = Vi at *
      have HSZ := Lib.hid hsz
      have HTI := Lib.hid (And.intro hti (And.intro hroom (And.intro hlen hnext)))
      clear hrb hkp hact hsz hkk hti hgood hclen hroom hlen hnext bq hth tq hrq HR HT HS1 HS2 a2 a3 hKi hVi
      go_wp2_with fail
      refine HP.out.mono ?_
      rintro e w4 ⟨B, er, kk4, rfl, hor, t4, hkk4, kp4⟩
      obtain ⟨hti, hroom, hlen, hnext⟩ := HTI.out
      rcases hor with ⟨rfl, hput⟩ | ⟨_, _, hno⟩
      · obtain ⟨hrq, hkq, hactq, hkk⟩ := H2.out
        have hr4 := hrq.next t4 kp4
        have e2 : w4.cell? ⟨W.heap.size, 2, none⟩ = some (.slice ao X.length c) := hr4.box.cell 2 _ rfl
        have HRP := Lib.hid (rput_any Ki Vi hr4.rm.px hti.rise (by omega))
        have HN2 := Lib.hid (hnext B hput)
        have H4 := Lib.hid (And.intro hr4 (And.intro (hkq.trans (kp4.mono (fun j hj => .inl (.inl hj)))) (And.intro (hactq.of_block (kp4.block _ (.inl (.inr ⟨by omega, by omega⟩)))) (And.intro (Nat.le_trans HSZ.out kp4.size) (show kk4 ≤ k + 2000 * (i + 1) by omega)))))
        clear HP HTI hti hroom hlen hnext hput hrq hkq hactq hkk hr4 t4 kp4 H2 HSZ hkk4 d1
        go_wp2_with fail
        refine HRP.out.mono ?_
        rintro e w5 ⟨ao', c', rfl, hm⟩
        obtain ⟨hr4, hk4, ha4, hs4, hkk⟩ := H4.out
        have hwl := HWL.out
        have x5 := hr4.box.next hm.2.2
        have f5 := x5.free 2
        have e5 : w5.cell? ⟨W.heap.size, 2, none⟩ = some (.slice ao X.length c) := x5.cell 2 _ rfl
        obtain ⟨hr5, ho5⟩ := hr4.setX hm (by omega)
        have hlt4 := hr4.rm.tr.pz.there
        have h5 : Kept S W (w5.setCell ⟨W.heap.size, 2, none⟩ (.slice ao' (insL X Ki Vi).length c')) := (hk4.trans (Kept.of_below hm.2.2 (fun j hj => hlt4 j (.inl (.inl hj))))).trans ⟨ho5.os, ho5.tape, ho5.output, ho5.size, fun j hj => ho5.block j (Nat.lt_of_lt_of_le (hlt4 j (.inl (.inl hj))) hm.2.2.size) (by have := HJ.out.2.2 j hj; omega)⟩
        have HF := Lib.hid (And.intro hr5 (And.intro h5 (And.intro ((ha4.next hm.2.2).only ho5 (by omega)) (And.intro (show wc.heap.size ≤ (w5.setCell ⟨W.heap.size, 2, none⟩ (.slice ao' (insL X Ki Vi).length c')).heap.size from Nat.le_trans hs4 (Nat.le_trans hm.2.2.size ho5.size)) hkk))))
        clear HRP H4 hr4 hk4 ha4 hs4 hkk hwl x5 hr5 ho5 hlt4 h5 hm e2
        generalize hX2 : insL X Ki Vi = X2 at *
        have hiw : IntKind.i64.wrap ((i : Int) + 1) = (i : Int) + 1 := IntWalk.i64_in _ ⟨by omega, by omega⟩
        clear hX2
        go_wp2_with fail
        go_roundw
        case rel =>
          obtain ⟨m1, m2, m3, m4, m5⟩ := HF.out
          exact ⟨i + 1, B, X2, ao', c', kk4, by go_num, by omega, HN2.out, m1, m5, m2, m3, m4⟩
        case measure => simp [intOf]; omega
      · omega
    · obtain rfl : i = n := by omega
      have hlti : ¬ (i : Int) < (i : Int) := by omega
      have y1 := hrb.box
      have y3 := hrb.res
      have n0 : wr.cell? ⟨W.heap.size, 0, none⟩ = some (.pointer (some ⟨P, 0, none⟩)) := y1.cell 0 _ rfl
      have n1 : wr.cell? ⟨W.heap.size, 1, none⟩ = some (.pointer (some ⟨T, 0, none⟩)) := y1.cell 1 _ rfl
      have n2 : wr.cell? ⟨W.heap.size, 2, none⟩ = some (.slice ao X.length c) := y1.cell 2 _ rfl
      have n3 : wr.cell? ⟨W.heap.size, 3, none⟩ = some (.slice bo Y.length d) := y1.cell 3 _ rfl
      have n4 : wr.cell? ⟨W.heap.size, 4, none⟩ = some (.bool op) := y1.cell 4 _ rfl
      have m0 : wr.cell? ⟨W.heap.size + 2, 0, none⟩ = some (.pointer none) := y3.cell 0 _ rfl
      have m1 : wr.cell? ⟨W.heap.size + 2, 1, none⟩ = some (.pointer none) := y3.cell 1 _ rfl
      have m2 : wr.cell? ⟨W.heap.size + 2, 2, none⟩ = some (.slice none 0 0) := y3.cell 2 _ rfl
      have m3 : wr.cell? ⟨W.heap.size + 2, 3, none⟩ = some (.slice none 0 0) := y3.cell 3 _ rfl
      have m4 : wr.cell? ⟨W.heap.size + 2, 4, none⟩ = some (.bool false) := y3.cell 4 _ rfl
      have mf : ∀ j, wr.frozen? ⟨W.heap.size + 2, j, none⟩ = false := y3.free
      have HD := Lib.hid (hrb.done (Q := fun A' X' Y' op' => J i A' X' ∧ Y' = Y ∧ op' = op) (show k' ≤ k + 100000 by omega) hkp HJ.out.2.2 ⟨hJi, rfl, rfl⟩)
      have HY := Lib.hid y3
      clear hrb hkp hact hsz hJi y1 y3 hkk hlt
      go_wp2_with fail
      refine bodyPost_ret (UK.box_ret2 rfl _ (HY.out.fill5 _ _ _ _ _) rfl run_under rfl run_size) rfl ?_
      exact HD.out
end
end Go.Proofs.YtfljlcfmdcepnaaGreatDoor
namespace Go.Proofs.YtfljlcfmdcepnaaGreatDoor
open Go.RowKit
open UK (str BytesAt nth Only Row Box)
section
variable {S : Nat → Prop} {W W' : World} {P D T k c d : Nat} {A : AP} {X Y : List KV} {ps : List Nat} {ao bo : Option Addr} {op : Bool}
set_option maxHeartbeats 4000000 in
set_option maxRecDepth 100000 in
theorem does_drop (h : RM S W P D T ao c X bo d Y A k) (hS : ∀ j, S j → j < W.heap.size) (hk : k + 100000 < 900000000) (nn : Int) (K V : UInt64) (J : Nat → AP → List KV → Prop) (h0 : J 0 A X)
    (hJ : ∀ i A X, J i A X → i < timesOf nn → ∃ ps, TI A 1 X ps ∧ A.Good ∧ (∀ p, A.Has p → (A.c p).length = 504) ∧ X.length ≤ 2000 ∧ ∀ B, GoneOk A B 1 (delL X (K + UInt64.ofNat i)) ps → J (i + 1) B (delL X (K + UInt64.ofNat i))) :
    Calls Tryz.prog 8 #[.agg (rcells P T ao X.length c bo Y.length d op), .agg (acells8 2 nn K V)] W fun e w' => DoesR S W w' P D (k + 100000) (fun A' X' Y' op' => J (timesOf nn) A' X' ∧ Y' = Y ∧ op' = op) e := by
  obtain ⟨hb, hbel, hact⟩ := h.boxed (op := op) 2 nn K V
  have a0 : (((W.alloc (.cells (rcells P T ao X.length c bo Y.length d op) 30)).alloc (.cells (acells8 2 nn K V) 32)).alloc (.cells zcells8 30)).cell? ⟨W.heap.size + 1, 0, none⟩ = some (.int .i64 2) := hact.cell 0 _ rfl
  have a1 : (((W.alloc (.cells (rcells P T ao X.length c bo Y.length d op) 30)).alloc (.cells (acells8 2 nn K V) 32)).alloc (.cells zcells8 30)).cell? ⟨W.heap.size + 1, 1, none⟩ = some (.int .i64 nn) := hact.cell 1 _ rfl
  obtain ⟨n, hn⟩ : ∃ n, n = timesOf nn := ⟨_, rfl⟩
  obtain ⟨hn40, hne⟩ := timesOf_le nn
  rw [← hn] at hJ hn40 hne ⊢
  have HE := Lib.hid hne
  have HB := Lib.hid (And.intro hb (And.intro hbel hact))
  have HJ := Lib.hid (And.intro h0 (And.intro hJ hS))
  generalize hW3 : ((W.alloc (.cells (rcells P T ao X.length c bo Y.length d op) 30)).alloc (.cells (acells8 2 nn K V) 32)).alloc (.cells zcells8 30) = w3 at HB a0 a1
  have HW3 := Lib.hid hW3
  rw [← hW3] at a0 a1
  clear h hb hbel hact h0 hJ hS hn hW3 hne
  go_enter Tryz.func8, Tryz.ntmps8
  go_upto_region 1 with (fail)
  go_cut [6] (fun nv wx => nv = .int .i64 (n : Int) ∧ wx = w3)
  case first =>
    go_wp2_with fail
    go_meet
    case rel => exact ⟨by rw [HE.out], HW3.out⟩
  case rest =>
  obtain ⟨rfl, rfl⟩ := hcut
  clear a0 a1
  have a0 : wc.cell? ⟨W.heap.size + 1, 0, none⟩ = some (.int .i64 2) := HB.out.2.2.cell 0 _ rfl
  have hkb := HB.out.2.1
  have HKK := Lib.hid (Kept.of_below hkb HJ.out.2.2)
  have hWlt : W.heap.size + 3 ≤ wc.heap.size := by have := HB.out.1.res.lt; omega
  have HWL := Lib.hid hWlt
  clear hkb hWlt HE HW3
  go_wp2_with fail
  go_loopw [10] (fun iv wr => ∃ (i : Nat) (A : AP) (X : List KV) (ao : Option Addr) (c k' : Nat), iv = .int .i64 i ∧ i ≤ n ∧ J i A X ∧ RB S wr W.heap.size P D T ao c X bo d Y op A k' ∧ k' ≤ k + 2000 * i ∧ Kept S W wr ∧ Box wr (W.heap.size + 1) (acells8 2 nn K V) ∧ wc.heap.size ≤ wr.heap.size) (fun iv _ => 41 - (intOf iv).toNat)
  case atStart => exact ⟨0, A, X, ao, c, k, rfl, Nat.zero_le _, HJ.out.1, HB.out.1, by omega, HKK.out, HB.out.2.2, Nat.le_refl _⟩
  case round =>
    clear a0
    obtain ⟨i, A, X, ao, c, k', rfl, hin, hJi, hrb, hkk, hkp, hact, hsz⟩ := hrel
    by_cases hlt : i < n
    · obtain ⟨ps, hti, hgood, hclen, hlen, hnext⟩ := HJ.out.2.1 i A X hJi hlt
      have hlti : (i : Int) < (n : Int) := Int.ofNat_lt.2 hlt
      have a2 : wr.cell? ⟨W.heap.size + 1, 2, none⟩ = some (.int .u64 K.toNat) := hact.cell 2 _ rfl
      have hi40 : i ≤ 40 := by omega
      have hs1 := u64_sum K i hi40
      have hcv : IntKind.u64.wrap (i : Int) = (i : Int) := IntWalk.u64_in _ ⟨by omega, by omega⟩
      have hP := tree_drop_any hrb.rm.tr (by omega) hti hgood hclen (K + UInt64.ofNat i)
      rw [← hs1] at hP
      have d1 : wr.cell? ⟨W.heap.size, 1, none⟩ = some (.pointer (some ⟨T, 0, none⟩)) := hrb.box.cell 1 _ rfl
      have HP := Lib.hid hP
      have HS1 := Lib.hid hs1
      have H2 := Lib.hid (And.intro hrb (And.intro hkp (And.intro hact (And.intro hsz hkk))))
      have HTI := Lib.hid (And.intro hti (And.intro hlen hnext))
      clear hrb hkp hact hsz hkk hti hgood hclen hlen hnext hP hs1 hJi hin
      go_wp2_with fail
      refine HP.out.mono ?_
      rintro e w4 ⟨rfl, B, hgone, t4, kp4⟩
      obtain ⟨hti, hlen, hnext⟩ := HTI.out
      obtain ⟨hrq, hkq, hactq, hsz, hkk⟩ := H2.out
      have hr4 := hrq.next t4 kp4
      have e2 : w4.cell? ⟨W.heap.size, 2, none⟩ = some (.slice ao X.length c) := hr4.box.cell 2 _ rfl
      have ha4 := hactq.of_block (kp4.block _ (.inl (.inr ⟨by omega, by omega⟩)))
      have a4 : w4.cell? ⟨W.heap.size + 1, 2, none⟩ = some (.int .u64 K.toNat) := ha4.cell 2 _ rfl
      have hRP := rdrop_any (K + UInt64.ofNat i) hr4.rm.px (by omega)
      rw [← HS1.out] at hRP
      have HRP := Lib.hid hRP
      have HN2 := Lib.hid (hnext B hgone)
      have H4 := Lib.hid (And.intro hr4 (And.intro (hkq.trans (kp4.mono (fun j hj => .inl (.inl hj)))) (And.intro ha4 (And.intro (Nat.le_trans hsz kp4.size) (show k' + 2000 ≤ k + 2000 * (i + 1) by omega)))))
      generalize hasL X (K + UInt64.ofNat i) = hb at *
      generalize delL X (K + UInt64.ofNat i) = X2 at *
      clear HP HTI hti hlen hnext hgone hrq hkq hactq hkk hr4 t4 kp4 H2 hsz d1 ha4 hRP HS1
      go_wp2_with fail
      refine HRP.out.mono ?_
      rintro e w5 ⟨ao', c', rfl, hm⟩
      obtain ⟨hr4, hk4, ha4, hs4, hkk⟩ := H4.out
      have hwl := HWL.out
      have x5 := hr4.box.next hm.2.2
      have f5 := x5.free 2
      have e5 : w5.cell? ⟨W.heap.size, 2, none⟩ = some (.slice ao X.length c) := x5.cell 2 _ rfl
      obtain ⟨hr5, ho5⟩ := hr4.setX hm (by omega)
      have hlt4 := hr4.rm.tr.pz.there
      have h5 : Kept S W (w5.setCell ⟨W.heap.size, 2, none⟩ (.slice ao' X2.length c')) := (hk4.trans (Kept.of_below hm.2.2 (fun j hj => hlt4 j (.inl (.inl hj))))).trans ⟨ho5.os, ho5.tape, ho5.output, ho5.size, fun j hj => ho5.block j (Nat.lt_of_lt_of_le (hlt4 j (.inl (.inl hj))) hm.2.2.size) (by have := HJ.out.2.2 j hj; omega)⟩
      have HF := Lib.hid (And.intro hr5 (And.intro h5 (And.intro ((ha4.next hm.2.2).only ho5 (by omega)) (And.intro (show wc.heap.size ≤ (w5.setCell ⟨W.heap.size, 2, none⟩ (.slice ao' X2.length c')).heap.size from Nat.le_trans hs4 (Nat.le_trans hm.2.2.size ho5.size)) hkk))))
      clear HRP H4 hr4 hk4 ha4 hs4 hkk hwl x5 hr5 ho5 hlt4 h5 hm e2 a4
      have hiw : IntKind.i64.wrap ((i : Int) + 1) = (i : Int) + 1 := IntWalk.i64_in _ ⟨by omega, by omega⟩
      have hbb : (hb != hb) = false := by simp
      go_wp2_with fail
      go_roundw
      case rel =>
        obtain ⟨m1, m2, m3, m4, m5⟩ := HF.out
        exact ⟨i + 1, B, X2, ao', c', k' + 2000, by go_num, hlt, HN2.out, m1, m5, m2, m3, m4⟩
      case measure => simp [intOf]; omega
    · obtain rfl : i = n := by omega
      have hlti : ¬ (i : Int) < (i : Int) := by omega
      have y1 := hrb.box
      have y3 := hrb.res
      have n0 : wr.cell? ⟨W.heap.size, 0, none⟩ = some (.pointer (some ⟨P, 0, none⟩)) := y1.cell 0 _ rfl
      have n1 : wr.cell? ⟨W.heap.size, 1, none⟩ = some (.pointer (some ⟨T, 0, none⟩)) := y1.cell 1 _ rfl
      have n2 : wr.cell? ⟨W.heap.size, 2, none⟩ = some (.slice ao X.length c) := y1.cell 2 _ rfl
      have n3 : wr.cell? ⟨W.heap.size, 3, none⟩ = some (.slice bo Y.length d) := y1.cell 3 _ rfl
      have n4 : wr.cell? ⟨W.heap.size, 4, none⟩ = some (.bool op) := y1.cell 4 _ rfl
      have m0 : wr.cell? ⟨W.heap.size + 2, 0, none⟩ = some (.pointer none) := y3.cell 0 _ rfl
      have m1 : wr.cell? ⟨W.heap.size + 2, 1, none⟩ = some (.pointer none) := y3.cell 1 _ rfl
      have m2 : wr.cell? ⟨W.heap.size + 2, 2, none⟩ = some (.slice none 0 0) := y3.cell 2 _ rfl
      have m3 : wr.cell? ⟨W.heap.size + 2, 3, none⟩ = some (.slice none 0 0) := y3.cell 3 _ rfl
      have m4 : wr.cell? ⟨W.heap.size + 2, 4, none⟩ = some (.bool false) := y3.cell 4 _ rfl
      have mf : ∀ j, wr.frozen? ⟨W.heap.size + 2, j, none⟩ = false := y3.free
      have HD := Lib.hid (hrb.done (Q := fun A' X' Y' op' => J i A' X' ∧ Y' = Y ∧ op' = op) (show k' ≤ k + 100000 by omega) hkp HJ.out.2.2 ⟨hJi, rfl, rfl⟩)
      have HY := Lib.hid y3
      clear hrb hkp hact hsz hJi y1 y3 hkk hlt
      go_wp2_with fail
      refine bodyPost_ret (UK.box_ret2 rfl _ (HY.out.fill5 _ _ _ _ _) rfl run_under rfl run_size) rfl ?_
      exact HD.out
end
end Go.Proofs.YtfljlcfmdcepnaaGreatDoor
