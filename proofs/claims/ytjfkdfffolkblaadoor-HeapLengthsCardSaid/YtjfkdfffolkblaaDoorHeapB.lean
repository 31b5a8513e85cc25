/-
  heap.with: a page is pinned, handed on, unpinned.
  heap: word, setWord; a heap's root page: state, setState.
-/
import Derived.Test.YtjfkdfffolkblaaDoorHeapP
import Derived.Defers
import Derived.BigRegion
import Derived.StillTailTactics
namespace Go.Proofs.YtjfkdfffolkblaaDoor
open Go.RowKit
open UK (str BytesAt nth Only Row Box w32)
open Go.BigFrame
/-- a function with a body is entered -/
theorem enters {f : FuncId} {fn : Func} (hf : Tryd.prog.funcs[f]? = some fn) (hname : (fn.name == "runtime.NumGoroutine") = false) (hb : fn.body.isSome = true) (args : Array Value) (w : World) : (callFunc f args).run Tryd.prog w = .ok (.enter f args) w := by
  have h1 : fn.name ≠ "runtime.NumGoroutine" := by simpa using hname
  obtain ⟨c, hc⟩ := Option.isSome_iff_exists.1 hb
  simp [callFunc, hf, h1, hc]
section
variable {E F : Nat → Prop} {W W' : World} {P D k fb db cap pg : Nat} {A : AP}
set_option maxRecDepth 100000 in
theorem with_any {N : Nat} {caps : Array Value} {R : AP → Nat → Int → World → Prop} (eN : ∀ args w, (callFunc N args).run Tryd.prog w = .ok (.enter N args) w) (h : PZ E W P D A k) (hk : k + 2 < 900000000) (hp : A.Has pg) (hFE : ∀ j, F j → E j)
    (hcl : ∀ (fb db cap : Nat) (w : World), PF E w P D A (k + 2) fb db cap pg false → Kept E W w → Calls Tryd.prog N (#[.pointer (some ⟨fb, 0, none⟩)] ++ caps) w fun e w' => ∃ (r : Int) (A' : AP) (k' : Nat) (dy : Bool), e = .returned (.int .i64 r) ∧ PF E w' P D A' k' fb db cap pg dy ∧ Kept F w w' ∧ R A' k' r w') :
    Calls Tryd.prog 49 #[.pointer (some ⟨P, 0, none⟩), .int .i64 pg, .func (.func N) #[] caps] W fun e w' => ∃ (r : Int) (A' : AP) (k' : Nat) (w1 : World), e = .returned (.int .i64 r) ∧ R A' k' r w1 ∧ PZ E w' P D A' k' ∧ Kept E w1 w' ∧ Kept F W w' := by
  have HP := Lib.hid (pz_pin h hk pg hp)
  clear h
  go_enter_defers Tryd.func49, Tryd.ntmps49
  go_wp2_with fail
  refine HP.out.mono ?_
  rintro e w1 ⟨fb, db, cap, rfl, p1, k1⟩
  have HC := Lib.hid (hcl fb db cap w1 p1 k1)
  have HK := Lib.hid (k1.mono hFE)
  clear HP p1 k1 hcl
  go_wp2_with fail
  refine HC.out.mono ?_
  rintro e w2 ⟨r, A', k', dy, rfl, p2, k2, hr⟩
  have HU := Lib.hid (pf_unpin_d .returning p2)
  have HX := Lib.hid (And.intro hr (HK.out.trans k2))
  clear HC HK p2 k2 hr
  go_wp2
  refine leaves_cons (f := 44) (args := #[.pointer (some ⟨fb, 0, none⟩)]) (by simp) (by simp [go_sem]) ?_
  refine HU.out.mono ?_
  rintro e u' w3 ⟨rfl, rfl, p3, k3⟩
  refine ⟨_, results_tmp rfl _ _ _, ?_⟩
  exact ⟨r, A', k', w2, rfl, HX.out.1, p3, k3, HX.out.2.trans (k3.mono hFE)⟩
theorem with_no {N : Nat} {caps : Array Value} (h : PZ E W P D A k) (p : Int) (hp : ∀ m : Nat, p = m → ¬ A.Has m) :
    Calls Tryd.prog 49 #[.pointer (some ⟨P, 0, none⟩), .int .i64 p, .func (.func N) #[] caps] W fun e w' => e = .returned (.int .i64 4) ∧ PZ E w' P D A k ∧ Kept E W w' := by
  have HP := Lib.hid (pz_pin_no h p hp)
  clear h
  go_enter_defers Tryd.func49, Tryd.ntmps49
  go_wp2_with fail
  refine HP.out.mono ?_
  rintro e w1 ⟨rfl, p1, k1⟩
  have HK := Lib.hid (And.intro p1 k1)
  clear HP p1 k1
  go_wp2
  exact ⟨_, results_tmp rfl _ _ _, rfl, HK.out⟩
end
end Go.Proofs.YtjfkdfffolkblaaDoor
namespace Go.Proofs.YtjfkdfffolkblaaDoor
open Go.RowKit
open UK (str BytesAt nth Only Row Box w32)
open Go.BigFrame
theorem UK.Box.drew {W : World} {g : Nat} {cs : Array Value} (h : Box W g cs) : Box W.drew g cs := h.of_block rfl
theorem UK.Box.drewN {W : World} {g : Nat} {cs : Array Value} (h : Box W g cs) (n : Nat) : Box (W.drewN n) g cs := h.of_block rfl
section
variable {E F : Nat → Prop} {W W' : World} {P D k fb db cap pg root H c1 c2 : Nat} {A : AP} {v1 v2 : Value}
theorem hword_any {B : Nat} {x : List UInt8} (h : BytesAt W B x) (o n c : Nat) (hn : 4 ≤ n) (ho : o + n ≤ x.length) :
    Calls Tryd.prog 82 #[.slice (some ⟨B, o, none⟩) n c] W fun e w' => e = .returned (.int .i64 (wdAt x o).toNat) ∧ Below W.heap.size W w' := by
  have HG := Lib.hid (get_u32 h o n c hn ho)
  have hl := UK.u32_lt (getL ((x.drop o).take 4))
  have hw : IntKind.i64.wrap ((getL ((x.drop o).take 4)).toNat : Int) = ((getL ((x.drop o).take 4)).toNat : Int) := by rw [IntKind.wrap_i64]; omega
  unfold wdAt
  generalize getL ((x.drop o).take 4) = u at HG hl hw ⊢
  go_enter Tryd.func82, Tryd.ntmps82
  go_wp2_with fail
  refine HG.out.mono ?_
  rintro e w1 ⟨rfl, hb⟩
  have HB := Lib.hid hb
  clear HG hb
  go_wp2
  go_ret
  exact ⟨by first | rfl | rw [hw] <;> rfl, HB.out⟩
theorem hsetWord_any {B : Nat} {x : List UInt8} (h : BytesAt W B x) (o n c : Nat) (hn : 4 ≤ n) (ho : o + n ≤ x.length) (hl : n ≤ 100000000) (v : Nat) :
    Calls Tryd.prog 80 #[.slice (some ⟨B, o, none⟩) n c, .int .i64 v] W fun e w' => e = .returned (.tuple #[]) ∧ BytesAt w' B (UK.wr x o (putL (w32 v))) ∧ Only B W w' := by
  have HG := Lib.hid (put_u32 h o n c hn ho hl (w32 v))
  have hw : IntKind.u32.wrap (v : Int) = ((w32 v).toNat : Int) := by rw [IntKind.wrap_u32, UK.w32_is]
  have hw2 := UK.w32_is v
  go_enter Tryd.func80, Tryd.ntmps80
  go_wp2_with fail
  refine HG.out.mono ?_
  rintro e w1 ⟨rfl, hb, ho⟩
  have HB := Lib.hid (And.intro hb ho)
  clear HG hb ho
  go_wp2
  go_end0
  exact ⟨rfl, HB.out⟩
theorem take_cut (y : List UInt8) (o n m : Nat) (h : o + n ≤ m) : ((y.take m).drop o).take n = (y.drop o).take n := by
  rw [List.drop_take, List.take_take, Nat.min_eq_left (by omega)]
theorem wdAt_take (y : List UInt8) (o m : Nat) (h : o + 4 ≤ m) : wdAt (y.take m) o = wdAt y o := by unfold wdAt; rw [take_cut y o 4 m h]
/-- two foreign cells turn -/
theorem PF.two {dy : Bool} (h : PF E W P D A k fb db cap pg dy) (h1 : E c1) (h2 : E c2) (t1 : 0 ≠ c1) (t2 : 0 ≠ c2) (a b : Value) : PF E ((W.setCell ⟨c1, 0, none⟩ a).setCell ⟨c2, 0, none⟩ b) P D A k fb db cap pg dy ∧ Kept (fun j => E j ∧ j ≠ c1 ∧ j ≠ c2) W ((W.setCell ⟨c1, 0, none⟩ a).setCell ⟨c2, 0, none⟩ b) := by
  have o1 : Only c1 W (W.setCell ⟨c1, 0, none⟩ a) := (Only.refl c1 W).set 0 a
  have o2 : Only c2 (W.setCell ⟨c1, 0, none⟩ a) ((W.setCell ⟨c1, 0, none⟩ a).setCell ⟨c2, 0, none⟩ b) := (Only.refl c2 _).set 0 b
  have hk : ∀ j, j < W.heap.size → ¬ (j = c1 ∨ j = c2) → ((W.setCell ⟨c1, 0, none⟩ a).setCell ⟨c2, 0, none⟩ b).heap[j]? = W.heap[j]? := fun j hj hn =>
    (o2.block j (Nat.lt_of_lt_of_le hj o1.size) (fun e => hn (.inr e))).trans (o1.block j hj (fun e => hn (.inl e)))
  refine ⟨h.over (R := fun j => j = c1 ∨ j = c2) (fun j hj => by rcases hj with rfl | rfl <;> assumption) (fun hj => by rcases hj with e | e; exact t1 e; exact t2 e) (Nat.le_trans o1.size o2.size) hk (fun _ hj => .inl hj), ?_⟩
  exact ⟨o2.os.trans o1.os, o2.tape.trans o1.tape, o2.output.trans o1.output, Nat.le_trans o1.size o2.size, fun j hj => hk j (h.there j hj.1) (fun hh => hh.elim hj.2.1 hj.2.2)⟩
set_option maxRecDepth 100000 in
theorem state1_any (h : PF E W P D A k fb db cap pg false) (b1 : Box W c1 #[v1]) (b2 : Box W c2 #[v2]) (h1 : E c1) (h2 : E c2) (hne : c1 ≠ c2) (t1 : 0 ≠ c1) (t2 : 0 ≠ c2) :
    Calls Tryd.prog 81 #[.pointer (some ⟨fb, 0, none⟩), .pointer (some ⟨c1, 0, none⟩), .pointer (some ⟨c2, 0, none⟩)] W fun e w' => e = .returned (.int .i64 0) ∧ PF E w' P D A k fb db cap pg false ∧ Box w' c1 #[.int .i64 (wdAt (A.c pg) 0).toNat] ∧ Box w' c2 #[.int .i64 (wdAt (A.c pg) 4).toNat] ∧ Kept (fun j => E j ∧ j ≠ c1 ∧ j ≠ c2) W w' := by
  have HB := Lib.hid (pf_bytes h)
  obtain ⟨y, y1, y2, y3, y4, y5⟩ := h.bytes
  have e0 : wdAt (A.c pg) 0 = wdAt y 0 := by rw [← y3]; exact wdAt_take y 0 504 (by decide)
  have e4 : wdAt (A.c pg) 4 = wdAt y 4 := by rw [← y3]; exact wdAt_take y 4 504 (by decide)
  rw [e0, e4]
  have HW0 := Lib.hid (hword_any y1 0 504 cap (by omega) (by omega))
  have H0 := Lib.hid (And.intro h (And.intro y1 (And.intro b1 b2)))
  have hcap := Lib.hid (And.intro y2 y4)
  clear h y1 b1 b2 e0 e4 y3 y5
  generalize hu0 : wdAt y 0 = u0 at HW0 ⊢
  generalize hu4 : wdAt y 4 = u4 at ⊢
  have HU4 := Lib.hid hu4
  clear hu0 hu4
  go_enter Tryd.func81, Tryd.ntmps81
  go_wp2_with fail
  refine HB.out.mono ?_
  rintro e w1 ⟨rfl, rfl⟩
  go_wp2_with fail
  refine HW0.out.mono ?_
  rintro e w2 ⟨rfl, hb2⟩
  obtain ⟨h, y1, b1, b2⟩ := H0.out
  have h' := h.next hb2
  have k2 := h.kept hb2
  have HB2 := Lib.hid (pf_bytes h')
  have HW4 := Lib.hid (hword_any (y1.below hb2 y1.lt) 4 500 (cap - 4) (by omega) (by have := hcap.out; omega))
  rw [HU4.out] at HW4
  have H2 := Lib.hid (And.intro h' (And.intro (b1.next hb2) (And.intro (b2.next hb2) k2)))
  have hi1 : (4 : Int) ≤ 504 := by omega
  have hi2 : (4 : Int) ≤ cap := by have := hcap.out; omega
  have hi3 : ¬ (cap = 4) := by have := hcap.out; omega
  clear HB HW0 H0 HU4 h y1 b1 b2 h' k2 hb2
  go_wp2_with fail
  refine HB2.out.mono ?_
  rintro e w3 ⟨rfl, rfl⟩
  go_wp2_with fail
  refine HW4.out.mono ?_
  rintro e w4 ⟨rfl, hb4⟩
  obtain ⟨h, b1, b2, k2⟩ := H2.out
  have h4 := h.next hb4
  have b14 := b1.next hb4
  have b24 := b2.next hb4
  have k4 := k2.trans (h.kept hb4)
  have d1 := b14.cell 0 _ rfl
  have d2 := b24.cell 0 _ rfl
  have f1 := b14.free 0
  have f2 := b24.free 0
  have HE := Lib.hid (h4.two h1 h2 t1 t2 (.int .i64 u0.toNat) (.int .i64 u4.toNat))
  have HC := Lib.hid (And.intro (((b14.set 0 (.int .i64 u0.toNat)).far (b := c2) (j := 0) (.int .i64 u4.toNat) hne)) (And.intro ((b24.far (b := c1) (j := 0) (.int .i64 u0.toNat) hne.symm).set 0 (.int .i64 u4.toNat)) k4))
  clear HB2 HW4 H2 h b1 b2 k2 hb4 h4 b14 b24 k4
  go_wp2
  go_ret
  obtain ⟨q1, q2⟩ := HE.out
  obtain ⟨q3, q4, q5⟩ := HC.out
  exact ⟨rfl, q1, q3, q4, (q5.mono (fun _ hj => hj.1)).trans q2⟩
end
end Go.Proofs.YtjfkdfffolkblaaDoor
