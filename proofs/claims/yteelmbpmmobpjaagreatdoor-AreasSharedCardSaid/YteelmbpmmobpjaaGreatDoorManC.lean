/-
  Layer areas: how many values there are (COUNT, COUNTA), of areas.
-/
import Derived.Test.YteelmbpmmobpjaaGreatDoorManB
import Derived.Test.YteelmbpmmobpjaaGreatDoorValM
namespace Go.Proofs.YteelmbpmmobpjaaGreatDoor
open Go.RowKit
open UK (str BytesAt nth Only Row Box)
theorem given_yes {w : World} {v : V} (h : isNum v = true) : Calls Tryz.prog 40 #[v.val] w fun e w' => e = .returned (.tuple #[.int .i64 (GivenN v), .bool true]) ∧ w = w' := by
  have := given_any (w := w) v
  rwa [h] at this
theorem isblank_at {w : World} {v : V} {b : Bool} (h : isBlank v = b) : Calls Tryz.prog 50 #[v.val] w fun e w' => e = .returned (.bool b) ∧ Below w.heap.size w w' := by
  have := isblank_any (w := w) v
  rwa [h] at this
/-- a function's word at one value, the count standing in block B, the function's name in block NB -/
def Cnt1 (s : ByteArray) (p : V → Bool) : Prop := ∀ (W : World) (NB B : Nat) (k : Nat) (v : V), Box W NB #[.string s] → Box W B #[.int .i64 (k : Int)] → NB ≠ B → k ≤ 1000000000 →
    Calls Tryz.prog 49 #[v.val, .bool true, .pointer (some ⟨NB, 0, none⟩), .pointer (some ⟨B, 0, none⟩)] W fun e w' => e = .returned (.int .i64 0) ∧ Box w' B #[.int .i64 ((k + if p v then 1 else 0 : Nat) : Int)] ∧ Only B W w' 
set_option maxHeartbeats 1000000 in
set_option maxRecDepth 100000 in
theorem cnt_count : Cnt1 (str [67, 79, 85, 78, 84]) isNum := by
  intro W NB B k v hN hB hne hk
  have c0 := hN.cell 0 _ rfl
  have c1 := hB.cell 0 _ rfl
  have f1 := hB.free 0
  have HB := Lib.hid hB
  clear hN hB
  cases h : isNum v with
  | true =>
    have HG := Lib.hid (fun w => given_yes (w := w) h)
    clear h
    generalize GivenN v = gn at *
    generalize v.val = vv at *
    go_enter Tryz.func49, Tryz.ntmps49
    go_wp2_with fail
    refine (HG.out _).mono ?_
    rintro e w1 ⟨rfl, rfl⟩
    go_wp2_with fail
    go_ret
    refine ⟨rfl, ?_, (Only.refl _ _).set 0 _⟩
    have := HB.out.set 0 (.int .i64 ((k : Int) + 1))
    exact this
  | false =>
    have HG := Lib.hid (fun w => given_no (w := w) h)
    clear h
    generalize v.val = vv at *
    go_enter Tryz.func49, Tryz.ntmps49
    go_wp2_with fail
    refine (HG.out _).mono ?_
    rintro e w1 ⟨rfl, rfl⟩
    go_wp2_with fail
    go_ret
    exact ⟨rfl, HB.out, Only.refl _ _⟩
set_option maxHeartbeats 1000000 in
set_option maxRecDepth 100000 in
theorem cnt_counta : Cnt1 (str [67, 79, 85, 78, 84, 65]) (fun v => !isBlank v) := by
  intro W NB B k v hN hB hne hk
  have c0 := hN.cell 0 _ rfl
  have HN := Lib.hid hN
  have HB := Lib.hid hB
  clear hN hB
  have HG := Lib.hid (fun w => given_any (w := w) v)
  generalize GivenN v = gn at *
  generalize isNum v = gb at *
  rcases Bool.eq_false_or_eq_true (isBlank v) with h | h
  · rw [show (k + if (fun v => !isBlank v) v = true then 1 else 0) = k from by simp [h]]
    have HI := Lib.hid (fun w => isblank_at (w := w) h)
    clear h
    generalize v.val = vv at *
    go_enter Tryz.func49, Tryz.ntmps49
    go_wp2_with fail
    refine (HG.out _).mono ?_
    rintro e w1 ⟨rfl, rfl⟩
    go_wp2_with fail
    all_goals
      refine (HI.out _).mono ?_
      rintro e w2 ⟨rfl, b2⟩
      have B2 := Lib.hid b2
      clear b2
      go_wp2_with fail
      go_ret
      exact ⟨rfl, HB.out.next B2.out, Only.of_below B2.out⟩
  · rw [show (k + if (fun v => !isBlank v) v = true then 1 else 0) = k + 1 from by simp [h]]
    have HI := Lib.hid (fun w => isblank_at (w := w) h)
    clear h
    generalize v.val = vv at *
    go_enter Tryz.func49, Tryz.ntmps49
    go_wp2_with fail
    refine (HG.out _).mono ?_
    rintro e w1 ⟨rfl, rfl⟩
    go_wp2_with fail
    all_goals
      refine (HI.out _).mono ?_
      rintro e w2 ⟨rfl, b2⟩
      have hb2 := HB.out.next b2
      have c1 := hb2.cell 0 _ rfl
      have f1 := hb2.free 0
      have B2 := Lib.hid (And.intro b2 hb2)
      clear b2 hb2
      go_wp2_with fail
      go_ret
      refine ⟨rfl, ?_, (Only.of_below B2.out.1).trans ((Only.refl _ _).set 0 _)⟩
      have := B2.out.2.set 0 (.int .i64 ((k : Int) + 1))
      exact this
/-- how many -/
def cntF (p : V → Bool) (l : List (V × Bool)) : Nat := (l.filter fun x => p x.1).length
theorem cntF_snoc (p : V → Bool) (l : List (V × Bool)) (x : V × Bool) : cntF p (l ++ [x]) = cntF p l + if p x.1 then 1 else 0 := by
  unfold cntF
  rw [List.filter_append, List.length_append]
  by_cases h : p x.1 = true <;> simp [h]
theorem cntF_le (p : V → Bool) (l : List (V × Bool)) : cntF p l ≤ l.length := List.length_filter_le _ _
structure CntI (NB B : Nat) (s : ByteArray) (p : V → Bool) (g : Nat) (pre : List (V × Bool)) (W : World) : Prop where
  nb : Box W NB #[.string s]
  b : Box W B #[.int .i64 ((cntF p pre : Nat) : Int)]
  g : g = B
theorem flat_len (l : List Ar) (h : ∀ a ∈ l, a.vs.length ≤ 1000) : (flat l).length ≤ 1000 * l.length := by
  induction l with
  | nil => simp [flat]
  | cons a l ih =>
    have h1 := ih (fun b hb => h b (by simp [hb]))
    have h2 := h a (by simp)
    have e : flat (a :: l) = flat1 a ++ flat l := by simp [flat]
    rw [e, List.length_append]
    have e2 : (flat1 a).length = a.vs.length := by simp [flat1]
    simp only [List.length_cons]
    omega
theorem firstF_zero (l : List (V × Bool)) : firstF (fun _ => 0) l = 0 := by
  induction l with
  | nil => rfl
  | cons x r ih => simp [firstF, ih]
theorem cnt_step {NB B : Nat} {s : ByteArray} {p : V → Bool} (h1 : Cnt1 s p) (l : List (V × Bool)) (hl : l.length ≤ 1000000) (ha : ∀ x ∈ l, x.2 = true) (hne : NB ≠ B) :
    StepAt 49 #[.pointer (some ⟨NB, 0, none⟩), .pointer (some ⟨B, 0, none⟩)] B (fun _ => 0) (CntI NB B s p) l := by
  rintro g pre ⟨v, area⟩ W1 ⟨m, hm⟩ hi
  obtain rfl : area = true := ha (v, area) (by rw [hm]; simp)
  have hpl : cntF p pre ≤ 1000000 := by
    have h2 : l.length = pre.length + (m.length + 1) := by rw [hm]; simp
    have := cntF_le p pre
    omega
  refine (h1 W1 NB B (cntF p pre) v hi.nb hi.b hne (by omega)).mono ?_
  rintro e w' ⟨rfl, hb, ho⟩
  refine ⟨rfl, g, .inl rfl, Two.of_only ho, fun _ => ⟨hi.nb.only ho hne, ?_, hi.g⟩, fun h => absurd rfl h⟩
  rw [cntF_snoc]
  exact hb
set_option maxHeartbeats 1000000 in
set_option maxRecDepth 100000 in
theorem counts_count {n : Nat} {W : World} {s : Value} {ars : List Ar} (hs : ASl n W s ars) (hl : ars.length ≤ 100) (hvl : ∀ a ∈ ars, a.vs.length ≤ 1000) (ha : ∀ a ∈ ars, a.area = true) (hn : n ≤ W.heap.size) :
    Calls Tryz.prog 22 #[.string (str [67, 79, 85, 78, 84]), s] W fun e W' => e = .returned (V.val (.num ((cntF isNum (flat ars) : Int) * 10000))) ∧ Below W.heap.size W W' := by
  have hfl : (flat ars).length ≤ 1000000 := by have := flat_len ars hvl; omega
  have hb0 : Below W.heap.size W ((W.alloc (.cells #[.string (str [67, 79, 85, 78, 84])] 9)).alloc (.cells #[.int .i64 0] 3)) := ((Below.refl _ _).alloc (Nat.le_refl _) _).alloc (by simp) _
  have hx0 := Box.new W #[.string (str [67, 79, 85, 78, 84])] 9
  have hx1 := Box.new (W.alloc (.cells #[.string (str [67, 79, 85, 78, 84])] 9)) #[.int .i64 0] 3
  simp only [World.size_alloc] at hx1
  have hA := all_any (n := n) (B := W.heap.size + 1) (g0 := W.heap.size + 1) (N := 49) (caps := #[.pointer (some ⟨W.heap.size, 0, none⟩), .pointer (some ⟨W.heap.size + 1, 0, none⟩)]) (W := (W.alloc (.cells #[.string (str [67, 79, 85, 78, 84])] 9)).alloc (.cells #[.int .i64 0] 3)) (fun _ => 0) (CntI W.heap.size (W.heap.size + 1) (str [67, 79, 85, 78, 84]) isNum)
    (enters_of Tryz.func49 (by kernel_rfl) rfl) (hs.below (hb0.mono hn)) (by omega) (fun a ha => by have := hvl a ha; omega) (by omega) (by omega)
    (fun g pre W1 W2 h hb => ⟨h.nb.next hb, h.b.next hb, h.g⟩) (fun g pre W1 h => ⟨by rw [h.g]; exact h.b.lt, h.b.lt, by rw [h.g]; omega⟩) (cnt_step cnt_count (flat ars) hfl (fun x hx => by
      simp only [flat, flat1, List.mem_flatMap, List.mem_map] at hx
      obtain ⟨a, h1, v, h2, rfl⟩ := hx
      exact ha a h1) (by omega))
    ⟨hx0.of_block (Below.heap_alloc _ _ _ (by simp)), hx1, rfl⟩
  rw [firstF_zero] at hA
  have HA := Lib.hid hA
  have HB := Lib.hid hb0
  have hc := cntF_le isNum (flat ars)
  have HI := Lib.hid (fun w => int_any (w := w) (cntF isNum (flat ars) : Int) (by omega) (by omega))
  have HC := Lib.hid (fun w => counted_any (w := w) ((cntF isNum (flat ars) : Int) * 10000) true)
  have HP := Lib.hid (show ∀ pre, pre = flat ars → cntF isNum pre = cntF isNum (flat ars) from fun _ h => by rw [h])
  generalize cntF isNum (flat ars) = kk at *
  clear hA hb0 hs hvl hl ha hfl hx0 hx1 hc
  go_enter Tryz.func22, Tryz.ntmps22
  go_wp2_with fail
  refine HA.out.mono ?_
  rintro e w1 ⟨rfl, ht, g, pre, hg, hi, hp⟩
  have hb1 : Below W.heap.size ((W.alloc (.cells #[.string (str [67, 79, 85, 78, 84])] 9)).alloc (.cells #[.int .i64 0] 3)) w1 := ht.below (by simp; omega) (by omega) (by omega)
  have hib := hi.b
  rw [HP.out pre (hp trivial)] at hib
  have c1 := hib.cell 0 _ rfl
  have HR := Lib.hid (HB.out.trans hb1)
  clear ht hg hi hp hib HA hb1 HB
  go_wp2_with fail
  refine (HI.out _).mono ?_
  rintro e w2 ⟨rfl, rfl⟩
  go_wp2_with fail
  refine (HC.out _).mono ?_
  rintro e w3 ⟨rfl, rfl⟩
  go_wp2
  go_ret
  exact ⟨rfl, HR.out⟩
set_option maxHeartbeats 1000000 in
set_option maxRecDepth 100000 in
theorem counts_counta {n : Nat} {W : World} {s : Value} {ars : List Ar} (hs : ASl n W s ars) (hl : ars.length ≤ 100) (hvl : ∀ a ∈ ars, a.vs.length ≤ 1000) (ha : ∀ a ∈ ars, a.area = true) (hn : n ≤ W.heap.size) :
    Calls Tryz.prog 22 #[.string (str [67, 79, 85, 78, 84, 65]), s] W fun e W' => e = .returned (V.val (.num ((cntF (fun v => !isBlank v) (flat ars) : Int) * 10000))) ∧ Below W.heap.size W W' := by
  have hfl : (flat ars).length ≤ 1000000 := by have := flat_len ars hvl; omega
  have hb0 : Below W.heap.size W ((W.alloc (.cells #[.string (str [67, 79, 85, 78, 84, 65])] 9)).alloc (.cells #[.int .i64 0] 3)) := ((Below.refl _ _).alloc (Nat.le_refl _) _).alloc (by simp) _
  have hx0 := Box.new W #[.string (str [67, 79, 85, 78, 84, 65])] 9
  have hx1 := Box.new (W.alloc (.cells #[.string (str [67, 79, 85, 78, 84, 65])] 9)) #[.int .i64 0] 3
  simp only [World.size_alloc] at hx1
  have hA := all_any (n := n) (B := W.heap.size + 1) (g0 := W.heap.size + 1) (N := 49) (caps := #[.pointer (some ⟨W.heap.size, 0, none⟩), .pointer (some ⟨W.heap.size + 1, 0, none⟩)]) (W := (W.alloc (.cells #[.string (str [67, 79, 85, 78, 84, 65])] 9)).alloc (.cells #[.int .i64 0] 3)) (fun _ => 0) (CntI W.heap.size (W.heap.size + 1) (str [67, 79, 85, 78, 84, 65]) (fun v => !isBlank v))
    (enters_of Tryz.func49 (by kernel_rfl) rfl) (hs.below (hb0.mono hn)) (by omega) (fun a ha => by have := hvl a ha; omega) (by omega) (by omega)
    (fun g pre W1 W2 h hb => ⟨h.nb.next hb, h.b.next hb, h.g⟩) (fun g pre W1 h => ⟨by rw [h.g]; exact h.b.lt, h.b.lt, by rw [h.g]; omega⟩) (cnt_step cnt_counta (flat ars) hfl (fun x hx => by
      simp only [flat, flat1, List.mem_flatMap, List.mem_map] at hx
      obtain ⟨a, h1, v, h2, rfl⟩ := hx
      exact ha a h1) (by omega))
    ⟨hx0.of_block (Below.heap_alloc _ _ _ (by simp)), hx1, rfl⟩
  rw [firstF_zero] at hA
  have HA := Lib.hid hA
  have HB := Lib.hid hb0
  have hc := cntF_le (fun v => !isBlank v) (flat ars)
  have HI := Lib.hid (fun w => int_any (w := w) (cntF (fun v => !isBlank v) (flat ars) : Int) (by omega) (by omega))
  have HC := Lib.hid (fun w => counted_any (w := w) ((cntF (fun v => !isBlank v) (flat ars) : Int) * 10000) true)
  have HP := Lib.hid (show ∀ pre, pre = flat ars → cntF (fun v => !isBlank v) pre = cntF (fun v => !isBlank v) (flat ars) from fun _ h => by rw [h])
  generalize cntF (fun v => !isBlank v) (flat ars) = kk at *
  clear hA hb0 hs hvl hl ha hfl hx0 hx1 hc
  go_enter Tryz.func22, Tryz.ntmps22
  go_wp2_with fail
  refine HA.out.mono ?_
  rintro e w1 ⟨rfl, ht, g, pre, hg, hi, hp⟩
  have hb1 : Below W.heap.size ((W.alloc (.cells #[.string (str [67, 79, 85, 78, 84, 65])] 9)).alloc (.cells #[.int .i64 0] 3)) w1 := ht.below (by simp; omega) (by omega) (by omega)
  have hib := hi.b
  rw [HP.out pre (hp trivial)] at hib
  have c1 := hib.cell 0 _ rfl
  have HR := Lib.hid (HB.out.trans hb1)
  clear ht hg hi hp hib HA hb1 HB
  go_wp2_with fail
  refine (HI.out _).mono ?_
  rintro e w2 ⟨rfl, rfl⟩
  go_wp2_with fail
  refine (HC.out _).mono ?_
  rintro e w3 ⟨rfl, rfl⟩
  go_wp2
  go_ret
  exact ⟨rfl, HR.out⟩
end Go.Proofs.YteelmbpmmobpjaaGreatDoor
