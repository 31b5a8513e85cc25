/-
  heap.with: a page is pinned, handed on, unpinned.
  heap: word, setWord; a heap's root page: state, setState.
  A heap's root page: state, setState, Count.
-/
import Derived.Test.YtjfkdfffolkblaaGreatDoorHeapP
import Derived.Defers
import Derived.BigRegion
import Derived.StillTailTactics
namespace Go.Proofs.YtjfkdfffolkblaaGreatDoor
open Go.RowKit
open UK (str BytesAt nth Only Row Box w32)
open Go.BigFrame
/-- a function with a body is entered -/
theorem enters {f : FuncId} {fn : Func} (hf : Tryz.prog.funcs[f]? = some fn) (hname : (fn.name == "runtime.NumGoroutine") = false) (hb : fn.body.isSome = true) (args : Array Value) (w : World) : (callFunc f args).run Tryz.prog w = .ok (.enter f args) w := by
  have h1 : fn.name ≠ "runtime.NumGoroutine" := by simpa using hname
  obtain ⟨c, hc⟩ := Option.isSome_iff_exists.1 hb
  simp [callFunc, hf, h1, hc]
section
variable {E F : Nat → Prop} {W W' : World} {P D k fb db cap pg : Nat} {A : AP}
set_option maxRecDepth 100000 in
theorem with_any {N : Nat} {caps : Array Value} {R : AP → Nat → Int → World → Prop} (eN : ∀ args w, (callFunc N args).run Tryz.prog w = .ok (.enter N args) w) (h : PZ E W P D A k) (hk : k + 2 < 900000000) (hp : A.Has pg) (hFE : ∀ j, F j → E j)
    (hcl : ∀ (fb db cap : Nat) (w : World), PF E w P D A (k + 2) fb db cap pg false → Kept E W w → Calls Tryz.prog N (#[.pointer (some ⟨fb, 0, none⟩)] ++ caps) w fun e w' => ∃ (r : Int) (A' : AP) (k' : Nat) (dy : Bool), e = .returned (.int .i64 r) ∧ PF E w' P D A' k' fb db cap pg dy ∧ Kept F w w' ∧ R A' k' r w') :
    Calls Tryz.prog 44 #[.pointer (some ⟨P, 0, none⟩), .int .i64 pg, .func (.func N) #[] caps] W fun e w' => ∃ (r : Int) (A' : AP) (k' : Nat) (w1 : World), e = .returned (.int .i64 r) ∧ R A' k' r w1 ∧ PZ E w' P D A' k' ∧ Kept E w1 w' ∧ Kept F W w' := by
  have HP := Lib.hid (pz_pin h hk pg hp)
  clear h
  go_enter_defers Tryz.func44, Tryz.ntmps44
  go_wp2_with fail
  refine HP.out.mono ?_
  rintro e w1 ⟨fb, db, cap, rfl, p1, k1⟩
  have HC := Lib.hid (hcl fb db cap w1 p1 k1)
  have HK := Lib.hid (k1.mono hFE)
  clear HP p1 k1 hcl
  go_wp2_with fail
  refine HC.out.mono ?_
  rintro e w2 ⟨r, A', k', dy, rfl, p2, k2, hr⟩
  have HU := Lib.hid (pf_unpin_d .returning p2)
  have HX := Lib.hid (And.intro hr (HK.out.trans k2))
  clear HC HK p2 k2 hr
  go_wp2
  refine leaves_cons (f := 57) (args := #[.pointer (some ⟨fb, 0, none⟩)]) (by simp) (by simp [go_sem]) ?_
  refine HU.out.mono ?_
  rintro e u' w3 ⟨rfl, rfl, p3, k3⟩
  refine ⟨_, results_tmp rfl _ _ _, ?_⟩
  exact ⟨r, A', k', w2, rfl, HX.out.1, p3, k3, HX.out.2.trans (k3.mono hFE)⟩
theorem with_no {N : Nat} {caps : Array Value} (h : PZ E W P D A k) (p : Int) (hp : ∀ m : Nat, p = m → ¬ A.Has m) :
    Calls Tryz.prog 44 #[.pointer (some ⟨P, 0, none⟩), .int .i64 p, .func (.func N) #[] caps] W fun e w' => e = .returned (.int .i64 4) ∧ PZ E w' P D A k ∧ Kept E W w' := by
  have HP := Lib.hid (pz_pin_no h p hp)
  clear h
  go_enter_defers Tryz.func44, Tryz.ntmps44
  go_wp2_with fail
  refine HP.out.mono ?_
  rintro e w1 ⟨rfl, p1, k1⟩
  have HK := Lib.hid (And.intro p1 k1)
  clear HP p1 k1
  go_wp2
  exact ⟨_, results_tmp rfl _ _ _, rfl, HK.out⟩
end
end Go.Proofs.YtjfkdfffolkblaaGreatDoor
namespace Go.Proofs.YtjfkdfffolkblaaGreatDoor
open Go.RowKit
open UK (str BytesAt nth Only Row Box w32)
open Go.BigFrame
theorem UK.Box.drew {W : World} {g : Nat} {cs : Array Value} (h : Box W g cs) : Box W.drew g cs := h.of_block rfl
theorem UK.Box.drewN {W : World} {g : Nat} {cs : Array Value} (h : Box W g cs) (n : Nat) : Box (W.drewN n) g cs := h.of_block rfl
section
variable {E F : Nat → Prop} {W W' : World} {P D k fb db cap pg root H c1 c2 : Nat} {A : AP} {v1 v2 : Value}
theorem hword_any {B : Nat} {x : List UInt8} (h : BytesAt W B x) (o n c : Nat) (hn : 4 ≤ n) (ho : o + n ≤ x.length) :
    Calls Tryz.prog 91 #[.slice (some ⟨B, o, none⟩) n c] W fun e w' => e = .returned (.int .i64 (wdAt x o).toNat) ∧ Below W.heap.size W w' := by
  have HG := Lib.hid (get_u32 h o n c hn ho)
  have hl := UK.u32_lt (getL ((x.drop o).take 4))
  have hw : IntKind.i64.wrap ((getL ((x.drop o).take 4)).toNat : Int) = ((getL ((x.drop o).take 4)).toNat : Int) := by rw [IntKind.wrap_i64]; omega
  unfold wdAt
  generalize getL ((x.drop o).take 4) = u at HG hl hw ⊢
  go_enter Tryz.func91, Tryz.ntmps91
  go_wp2_with fail
  refine HG.out.mono ?_
  rintro e w1 ⟨rfl, hb⟩
  have HB := Lib.hid hb
  clear HG hb
  go_wp2
  go_ret
  exact ⟨by first | rfl | rw [hw] <;> rfl, HB.out⟩
theorem hsetWord_any {B : Nat} {x : List UInt8} (h : BytesAt W B x) (o n c : Nat) (hn : 4 ≤ n) (ho : o + n ≤ x.length) (hl : n ≤ 100000000) (v : Nat) :
    Calls Tryz.prog 105 #[.slice (some ⟨B, o, none⟩) n c, .int .i64 v] W fun e w' => e = .returned (.tuple #[]) ∧ BytesAt w' B (UK.wr x o (putL (w32 v))) ∧ Only B W w' := by
  have HG := Lib.hid (put_u32 h o n c hn ho hl (w32 v))
  have hw : IntKind.u32.wrap (v : Int) = ((w32 v).toNat : Int) := by rw [IntKind.wrap_u32, UK.w32_is]
  have hw2 := UK.w32_is v
  go_enter Tryz.func105, Tryz.ntmps105
  go_wp2_with fail
  refine HG.out.mono ?_
  rintro e w1 ⟨rfl, hb, ho⟩
  have HB := Lib.hid (And.intro hb ho)
  clear HG hb ho
  go_wp2
  go_end0
  exact ⟨rfl, HB.out⟩
theorem take_cut (y : List UInt8) (o n m : Nat) (h : o + n ≤ m) : ((y.take m).drop o).take n = (y.drop o).take n := by
  rw [List.drop_take, List.take_take, Nat.min_eq_left (by omega)]
theorem wdAt_take (y : List UInt8) (o m : Nat) (h : o + 4 ≤ m) : wdAt (y.take m) o = wdAt y o := by unfold wdAt; rw [take_cut y o 4 m h]
/-- two foreign cells turn -/
theorem PF.two {dy : Bool} (h : PF E W P D A k fb db cap pg dy) (h1 : E c1) (h2 : E c2) (t1 : 0 ≠ c1) (t2 : 0 ≠ c2) (a b : Value) : PF E ((W.setCell ⟨c1, 0, none⟩ a).setCell ⟨c2, 0, none⟩ b) P D A k fb db cap pg dy ∧ Kept (fun j => E j ∧ j ≠ c1 ∧ j ≠ c2) W ((W.setCell ⟨c1, 0, none⟩ a).setCell ⟨c2, 0, none⟩ b) := by
  have o1 : Only c1 W (W.setCell ⟨c1, 0, none⟩ a) := (Only.refl c1 W).set 0 a
  have o2 : Only c2 (W.setCell ⟨c1, 0, none⟩ a) ((W.setCell ⟨c1, 0, none⟩ a).setCell ⟨c2, 0, none⟩ b) := (Only.refl c2 _).set 0 b
  have hk : ∀ j, j < W.heap.size → ¬ (j = c1 ∨ j = c2) → ((W.setCell ⟨c1, 0, none⟩ a).setCell ⟨c2, 0, none⟩ b).heap[j]? = W.heap[j]? := fun j hj hn =>
    (o2.block j (Nat.lt_of_lt_of_le hj o1.size) (fun e => hn (.inr e))).trans (o1.block j hj (fun e => hn (.inl e)))
  refine ⟨h.over (R := fun j => j = c1 ∨ j = c2) (fun j hj => by rcases hj with rfl | rfl <;> assumption) (fun hj => by rcases hj with e | e; exact t1 e; exact t2 e) (Nat.le_trans o1.size o2.size) hk (fun _ hj => .inl hj), ?_⟩
  exact ⟨o2.os.trans o1.os, o2.tape.trans o1.tape, o2.output.trans o1.output, Nat.le_trans o1.size o2.size, fun j hj => hk j (h.there j hj.1) (fun hh => hh.elim hj.2.1 hj.2.2)⟩
set_option maxRecDepth 100000 in
theorem state1_any (h : PF E W P D A k fb db cap pg false) (b1 : Box W c1 #[v1]) (b2 : Box W c2 #[v2]) (h1 : E c1) (h2 : E c2) (hne : c1 ≠ c2) (t1 : 0 ≠ c1) (t2 : 0 ≠ c2) :
    Calls Tryz.prog 97 #[.pointer (some ⟨fb, 0, none⟩), .pointer (some ⟨c1, 0, none⟩), .pointer (some ⟨c2, 0, none⟩)] W fun e w' => e = .returned (.int .i64 0) ∧ PF E w' P D A k fb db cap pg false ∧ Box w' c1 #[.int .i64 (wdAt (A.c pg) 0).toNat] ∧ Box w' c2 #[.int .i64 (wdAt (A.c pg) 4).toNat] ∧ Kept (fun j => E j ∧ j ≠ c1 ∧ j ≠ c2) W w' := by
  have HB := Lib.hid (pf_bytes h)
  obtain ⟨y, y1, y2, y3, y4, y5⟩ := h.bytes
  have e0 : wdAt (A.c pg) 0 = wdAt y 0 := by rw [← y3]; exact wdAt_take y 0 504 (by decide)
  have e4 : wdAt (A.c pg) 4 = wdAt y 4 := by rw [← y3]; exact wdAt_take y 4 504 (by decide)
  rw [e0, e4]
  have HW0 := Lib.hid (hword_any y1 0 504 cap (by omega) (by omega))
  have H0 := Lib.hid (And.intro h (And.intro y1 (And.intro b1 b2)))
  have hcap := Lib.hid (And.intro y2 y4)
  clear h y1 b1 b2 e0 e4 y3 y5
  generalize hu0 : wdAt y 0 = u0 at HW0 ⊢
  generalize hu4 : wdAt y 4 = u4 at ⊢
  have HU4 := Lib.hid hu4
  clear hu0 hu4
  go_enter Tryz.func97, Tryz.ntmps97
  go_wp2_with fail
  refine HB.out.mono ?_
  rintro e w1 ⟨rfl, rfl⟩
  go_wp2_with fail
  refine HW0.out.mono ?_
  rintro e w2 ⟨rfl, hb2⟩
  obtain ⟨h, y1, b1, b2⟩ := H0.out
  have h' := h.next hb2
  have k2 := h.kept hb2
  have HB2 := Lib.hid (pf_bytes h')
  have HW4 := Lib.hid (hword_any (y1.below hb2 y1.lt) 4 500 (cap - 4) (by omega) (by have := hcap.out; omega))
  rw [HU4.out] at HW4
  have H2 := Lib.hid (And.intro h' (And.intro (b1.next hb2) (And.intro (b2.next hb2) k2)))
  have hi1 : (4 : Int) ≤ 504 := by omega
  have hi2 : (4 : Int) ≤ cap := by have := hcap.out; omega
  have hi3 : ¬ (cap = 4) := by have := hcap.out; omega
  clear HB HW0 H0 HU4 h y1 b1 b2 h' k2 hb2
  go_wp2_with fail
  refine HB2.out.mono ?_
  rintro e w3 ⟨rfl, rfl⟩
  go_wp2_with fail
  refine HW4.out.mono ?_
  rintro e w4 ⟨rfl, hb4⟩
  obtain ⟨h, b1, b2, k2⟩ := H2.out
  have h4 := h.next hb4
  have b14 := b1.next hb4
  have b24 := b2.next hb4
  have k4 := k2.trans (h.kept hb4)
  have d1 := b14.cell 0 _ rfl
  have d2 := b24.cell 0 _ rfl
  have f1 := b14.free 0
  have f2 := b24.free 0
  have HE := Lib.hid (h4.two h1 h2 t1 t2 (.int .i64 u0.toNat) (.int .i64 u4.toNat))
  have HC := Lib.hid (And.intro (((b14.set 0 (.int .i64 u0.toNat)).far (b := c2) (j := 0) (.int .i64 u4.toNat) hne)) (And.intro ((b24.far (b := c1) (j := 0) (.int .i64 u0.toNat) hne.symm).set 0 (.int .i64 u4.toNat)) k4))
  clear HB2 HW4 H2 h b1 b2 k2 hb4 h4 b14 b24 k4
  go_wp2
  go_ret
  obtain ⟨q1, q2⟩ := HE.out
  obtain ⟨q3, q4, q5⟩ := HC.out
  exact ⟨rfl, q1, q3, q4, (q5.mono (fun _ hj => hj.1)).trans q2⟩
end
end Go.Proofs.YtjfkdfffolkblaaGreatDoor
namespace Go.Proofs.YtjfkdfffolkblaaGreatDoor
open Go.RowKit
open UK (str BytesAt nth Only Row Box w32)
open Go.BigFrame
section
variable {E F : Nat → Prop} {W W' : World} {P D k fb db cap pg root H c1 c2 : Nat} {A : AP} {v1 v2 : Value}
abbrev hcells (P root : Nat) : Array Value := #[.pointer (some ⟨P, 0, none⟩), .int .i64 root]
set_option maxRecDepth 100000 in
theorem state_any (h : PZ E W P D A k) (hk : k + 2 < 900000000) (hb : Box W H (hcells P root)) (hr : A.Has root) :
    Calls Tryz.prog 43 #[.pointer (some ⟨H, 0, none⟩)] W fun e w' => e = .returned (.tuple #[.int .i64 (wdAt (A.c root) 0).toNat, .int .i64 (wdAt (A.c root) 4).toNat, .int .i64 0]) ∧ PZ E w' P D A (k + 2) ∧ Kept E W w' := by
  have c0 : W.cell? ⟨H, 0, none⟩ = some (.pointer (some ⟨P, 0, none⟩)) := hb.cell 0 _ rfl
  have c1 : W.cell? ⟨H, 1, none⟩ = some (.int .i64 root) := hb.cell 1 _ rfl
  have ht := h.tab.lt
  have a1 : Below W.heap.size W (W.alloc (.cells #[.int .i64 0] 3)) := (Below.refl _ _).alloc (Nat.le_refl _) _
  have hs1 : (W.alloc (.cells #[.int .i64 0] 3)).heap.size = W.heap.size + 1 := by simp
  have x1 := Box.new W #[.int .i64 0] 3
  have a2 := a1.alloc (by omega) (.cells #[.int .i64 0] 3)
  have hs2 : ((W.alloc (.cells #[.int .i64 0] 3)).alloc (.cells #[.int .i64 0] 3)).heap.size = W.heap.size + 2 := by simp
  have x2 := Box.new (W.alloc (.cells #[.int .i64 0] 3)) #[.int .i64 0] 3
  rw [hs1] at x2
  have x1' := x1.alloc (.cells #[.int .i64 0] 3)
  generalize hw2 : (W.alloc (.cells #[.int .i64 0] 3)).alloc (.cells #[.int .i64 0] 3) = w2 at a2 hs2 x2 x1'
  have p2 := (h.wide a2 (T := fun j => E j ∨ j = W.heap.size ∨ j = W.heap.size + 1) (fun j hj => by
    rcases hj with hj | hj | hj
    · exact .inl hj
    · exact .inr (by omega)
    · exact .inr (by omega))).next (Below.refl _ _).drew
  have k2 : Kept E W w2.drew := h.kept a2.drew
  have d0 : w2.drew.cell? ⟨H, 0, none⟩ = some (.pointer (some ⟨P, 0, none⟩)) := (hb.below a2 hb.lt).cell 0 _ rfl
  have d1 : w2.drew.cell? ⟨H, 1, none⟩ = some (.int .i64 root) := (hb.below a2 hb.lt).cell 1 _ rfl
  have HW := Lib.hid (with_any (N := 97) (caps := #[.pointer (some ⟨W.heap.size, 0, none⟩), .pointer (some ⟨W.heap.size + 1, 0, none⟩)]) (F := E)
    (R := fun A' k' r w' => A' = A ∧ k' = k + 2 ∧ r = 0 ∧ Box w' W.heap.size #[.int .i64 (wdAt (A.c root) 0).toNat] ∧ Box w' (W.heap.size + 1) #[.int .i64 (wdAt (A.c root) 4).toNat])
    (enters Tryz.func97 (by kernel_rfl) (by kernel_rfl)) p2 hk hr (fun j hj => .inl hj) (fun fb db cap w hp hkk => by
      refine (state1_any hp ((x1'.drew).of_block (hkk.block _ (.inr (.inl rfl)))) ((x2.drew).of_block (hkk.block _ (.inr (.inr rfl)))) (.inr (.inl rfl)) (.inr (.inr rfl)) (by omega) (by omega) (by omega)).mono ?_
      rintro e w' ⟨he, q1, q2, q3, q4⟩
      exact ⟨0, A, k + 2, false, he, q1, q4.mono (fun j hj => ⟨.inl hj, by have := h.there j hj; omega, by have := h.there j hj; omega⟩), rfl, rfl, rfl, q2, q3⟩))
  have HW2 := Lib.hid hw2
  have K2 := Lib.hid k2
  clear hw2 hs1 hs2 h hb x1 x2 x1' p2 k2 a1 a2 ht hr
  go_enter Tryz.func43, Tryz.ntmps43
  go_wp2_with fail
  rw [HW2.out]
  go_still_tail 9, (by kernel_rfl)
  change wpList _ _ _ _ _ w2.drew
  go_wp2_with fail
  refine HW.out.mono ?_
  rintro e w3 ⟨r, A', k', w1, rfl, ⟨rfl, rfl, rfl, y1, y2⟩, p3, k3, k4⟩
  have z1 := (y1.of_block (k3.block _ (.inr (.inl rfl)))).cell 0 _ rfl
  have z2 := (y2.of_block (k3.block _ (.inr (.inr rfl)))).cell 0 _ rfl
  have K3 := Lib.hid (And.intro (p3.less (T := E) (fun j hj => .inl hj)) (K2.out.trans k4))
  clear HW K2 y1 y2 p3 k3 k4
  go_wp2
  go_quiet (fail)
  go_wp2
  go_ret3
  obtain ⟨p3, k3⟩ := K3.out
  have bd : Below w3.heap.size w3 (w3.drewN nq) := UK.belowN (Below.refl _ _) nq
  exact ⟨rfl, p3.next bd, k3.trans (p3.kept bd)⟩
theorem hcount_any (h : PZ E W P D A k) (hk : k + 2 < 900000000) (hb : Box W H (hcells P root)) (hr : A.Has root) :
    Calls Tryz.prog 11 #[.pointer (some ⟨H, 0, none⟩)] W fun e w' => e = .returned (.tuple #[.int .i64 (wdAt (A.c root) 4).toNat, .int .i64 0]) ∧ PZ E w' P D A (k + 2) ∧ Kept E W w' := by
  have HS := Lib.hid (state_any h hk hb hr)
  clear h hb
  go_enter Tryz.func11, Tryz.ntmps11
  go_wp2_with fail
  refine HS.out.mono ?_
  rintro e w1 ⟨rfl, p1, k1⟩
  have HP := Lib.hid (And.intro p1 k1)
  clear HS p1 k1
  go_wp2
  go_ret2
  exact ⟨rfl, HP.out⟩
/-- f.Edit(), with what a store behind it wants -/
theorem edit_full {dy : Bool} (h : PF E W P D A k fb db cap pg dy) (hk : k < 900000000) :
    Calls Tryz.prog 47 #[.pointer (some ⟨fb, 0, none⟩)] W fun e w' => e = .returned (.slice (some ⟨db, 0, none⟩) 504 cap) ∧ PF E w' P D (A.keep pg) (k + 1) fb db cap pg true ∧ Kept E W w' ∧ ∃ y, BytesAt w' db y ∧ y.length = cap ∧ y.take 504 = A.c pg ∧ 504 ≤ cap ∧ ¬ E db :=
  (pf_edit h hk).mono fun _ _ ⟨he, p, kk⟩ => ⟨he, p, kk, p.bytes⟩
/-- a word of the page turns -/
theorem PF.word (h : PF E W P D (A.keep pg) k fb db cap pg true) (ho : Only db W W') {o : Nat} (hoo : o + 4 ≤ 504) {v : Nat} {y : List UInt8} (hyl : y.length = cap) (hc : 504 ≤ cap) (hyt : y.take 504 = A.c pg) (hy : BytesAt W' db (UK.wr y o (putL (w32 v)))) :
    PF E W' P D (A.wrote pg (UK.wr (A.c pg) o (putL (w32 v)))) k fb db cap pg true ∧ Kept E W W' := by
  have hl : (UK.wr y o (putL (w32 v))).length = cap := (UK.wr_length _ _ _ (by show o + 4 ≤ _; omega)).trans hyl
  have := h.write ho hy hl
  rw [show (UK.wr y o (putL (w32 v))).take 504 = UK.wr (A.c pg) o (putL (w32 v)) by rw [← hyt]; exact wr_cut y o 504 (putL (w32 v)) (by show o + 4 ≤ _; omega) (by omega)] at this
  exact this
set_option maxHeartbeats 1000000 in
set_option maxRecDepth 100000 in
theorem setState1_any {p n : Nat} (h : PF E W P D A k fb db cap pg false) (hk : k + 2 < 900000000) (b1 : Box W c1 #[.int .i64 p]) (b2 : Box W c2 #[.int .i64 n]) (h1 : E c1) (h2 : E c2) :
    Calls Tryz.prog 104 #[.pointer (some ⟨fb, 0, none⟩), .pointer (some ⟨c1, 0, none⟩), .pointer (some ⟨c2, 0, none⟩)] W fun e w' => e = .returned (.int .i64 0) ∧ PF E w' P D (A.wrote pg (rootB (A.c pg) p n)) (k + 2) fb db cap pg true ∧ Kept E W w' := by
  have bd : Below W.heap.size W W.drew := (Below.refl _ _).drew
  have hp0 := h.next bd
  have hk0 := h.kept bd
  have hlen := h.clen
  have d1 : W.drew.cell? ⟨c1, 0, none⟩ = some (.int .i64 p) := b1.drew.cell 0 _ rfl
  have HE := Lib.hid ((edit_full hp0 (by omega)).mono (R' := fun e w' => e = .returned (.slice (some ⟨db, 0, none⟩) 504 cap) ∧ w'.cell? ⟨c1, 0, none⟩ = some (.int .i64 p) ∧ (PF E w' P D (A.keep pg) (k + 1) fb db cap pg true ∧ Kept E W.drew w' ∧ ∃ y, BytesAt w' db y ∧ y.length = cap ∧ y.take 504 = A.c pg ∧ 504 ≤ cap ∧ ¬ E db)) (fun _ _ ⟨a, b, c, d⟩ => ⟨a, (b1.drew.of_block (c.block _ h1)).cell 0 _ rfl, b, c, d⟩))
  have HB := Lib.hid (And.intro b1.drew (And.intro b2.drew (And.intro hk0 hlen)))
  clear h b1 b2 hp0 hk0 hlen
  go_enter Tryz.func104, Tryz.ntmps104
  go_wp2_with fail
  go_region_with (first
    | (go_at_call 47; refine HE.out.mono ?_; rintro e w3 ⟨rfl, d3, p3, k3, y, y1, y2, y3, y4, y5⟩; replace p3 := Lib.hid p3; replace k3 := Lib.hid k3)
    | (go_at_call 105; refine (hsetWord_any y1 0 504 cap (by omega) (by omega) (by omega) p).mono ?_; rintro e w4 ⟨rfl, z1, o4⟩; replace z1 := Lib.hid z1; replace o4 := Lib.hid o4))
  all_goals
    obtain ⟨b1, b2, k0, hlen⟩ := HB.out
    obtain ⟨p4, k4⟩ := p3.out.word o4.out (o := 0) (by omega) y2 y4 y3 z1.out
    have bd4 : Below w4.heap.size w4 w4.drew := (Below.refl _ _).drew
    have b14 := (b1.of_block (k3.out.block _ h1)).of_block (k4.block _ h1)
    have b24 := ((b2.of_block (k3.out.block _ h2)).of_block (k4.block _ h2)).drew
    have p5 := p4.next bd4
    have k5 := ((k0.trans k3.out).trans k4).trans (p4.kept bd4)
    have e5 : w4.drew.cell? ⟨c2, 0, none⟩ = some (.int .i64 n) := b24.cell 0 _ rfl
    have HE2 := Lib.hid ((edit_full p5 (by omega)).mono (R' := fun e w' => e = .returned (.slice (some ⟨db, 0, none⟩) 504 cap) ∧ w'.cell? ⟨c2, 0, none⟩ = some (.int .i64 n) ∧ (PF E w' P D ((A.wrote pg (UK.wr (A.c pg) 0 (putL (w32 p)))).keep pg) (k + 2) fb db cap pg true ∧ Kept E w4.drew w' ∧ ∃ y, BytesAt w' db y ∧ y.length = cap ∧ y.take 504 = (A.wrote pg (UK.wr (A.c pg) 0 (putL (w32 p)))).c pg ∧ 504 ≤ cap ∧ ¬ E db)) (fun _ _ ⟨a, b, c, d⟩ => ⟨a, (b24.of_block (c.block _ h2)).cell 0 _ rfl, b, c, d⟩))
    have HB2 := Lib.hid (And.intro k5 hlen)
    have i1 : (4 : Int) ≤ 504 := by omega
    have i2 : (4 : Int) ≤ cap := by omega
    have i3 : ¬ (cap = 4) := by omega
    clear HE HB b1 b2 k0 hlen p4 k4 bd4 b14 b24 p5 k5 p3 k3 z1 o4 y1 y2 y3 y5 d1 d3 bd
    go_wp2_with fail
    go_region_with (first
      | (go_at_call 47; refine HE2.out.mono ?_; rintro e w6 ⟨rfl, d6, p6, k6, z, t1, t2, t3, t4, t5⟩; replace p6 := Lib.hid p6; replace k6 := Lib.hid k6)
      | (go_at_call 105; refine (hsetWord_any t1 4 500 (cap - 4) (by omega) (by omega) (by omega) n).mono ?_; rintro e w7 ⟨rfl, z7, o7⟩; replace z7 := Lib.hid z7; replace o7 := Lib.hid o7))
    all_goals
      obtain ⟨k5, hlen⟩ := HB2.out
      obtain ⟨p8, k8⟩ := p6.out.word o7.out (o := 4) (by omega) t2 t4 t3 z7.out
      rw [AP.wrote_wrote, AP.wrote_c, if_pos rfl] at p8
      have H8 := Lib.hid (And.intro p8 ((k5.trans k6.out).trans k8))
      clear HE2 HB2 k5 hlen p8 k8 p6 k6 z7 o7 t1 t2 t3 t5 d6
      go_wp2
      go_ret
      exact ⟨rfl, H8.out⟩
end
end Go.Proofs.YtjfkdfffolkblaaGreatDoor
