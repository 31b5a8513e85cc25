/-
  A region that draws its order: whatever order is drawn, a relation between what is done, the frame and the world holds behind each operation.
-/
import Derived.Test.YteelmbpmmobpjaaGreatDoorUKit
import Derived.RegionTactic
namespace Go.Proofs.YteelmbpmmobpjaaGreatDoor
section
variable {P : Program} {ops : Array Oper} {Q : Exit → Act → World → Prop} {md : Region.Mode}
/-- what an operation waits for -/
def depsOf (md : Region.Mode) (ops : Array Oper) (i : Nat) : List Nat := (((ops[i]?).map fun o => (o.after.toList.filter fun e => Region.binds md e).map (·.on))).getD []
/-- each waits for earlier ones only -/
def backOk (md : Region.Mode) (ops : Array Oper) : Bool := (List.range ops.size).all fun i => (depsOf md ops i).all fun j => decide (j < i)
def doneOf (L : Array Bool) : Nat → Bool := fun j => L.getD j false
theorem doneOf_set {L : Array Bool} {i : Nat} (hi : i < L.size) : doneOf (L.setIfInBounds i true) = fun j => j == i || doneOf L j := by
  funext j
  unfold doneOf
  by_cases hj : j = i
  · subst hj; simp [hi]
  · have : (j == i) = false := by simpa using hj
    rw [this, Bool.false_or]
    simp only [Array.getD_eq_getD_getElem?]
    rw [Array.getElem?_setIfInBounds_ne (Ne.symm hj)]
theorem ready_deps {L : Array Bool} (hL : L.size = ops.size) {i : Nat} (h : i ∈ Region.ready md ops L) : i < ops.size ∧ doneOf L i = false ∧ ∀ j ∈ depsOf md ops i, doneOf L j = true := by
  obtain ⟨h1, o, ho, ha⟩ := mem_ready.1 h
  have hi : i < ops.size := (Array.getElem?_eq_some_iff.1 ho).1
  refine ⟨hi, ?_, fun j hj => ?_⟩
  · unfold doneOf
    simp only [Array.getD_eq_getD_getElem?] at h1 ⊢
    rw [Array.getElem?_eq_getElem (by omega)] at h1 ⊢
    exact h1
  · unfold depsOf at hj
    rw [ho] at hj
    simp only [Option.map_some, Option.getD_some, List.mem_map, List.mem_filter] at hj
    obtain ⟨e, ⟨he, hb⟩, rfl⟩ := hj
    exact ha e (by simpa using he) hb
theorem all_done {L : Array Bool} (hL : L.size = ops.size) (hb : backOk md ops = true) (h : Region.ready md ops L = []) : ∀ i, i < ops.size → doneOf L i = true := by
  intro i
  induction i using Nat.strongRecOn with
  | _ i ih =>
    intro hi
    cases hd : doneOf L i with
    | true => rfl
    | false =>
      exfalso
      have hm : i ∈ Region.ready md ops L := by
        refine mem_ready.2 ⟨?_, ops[i], Array.getElem?_eq_getElem hi, fun e he hbi => ?_⟩
        · unfold doneOf at hd
          simp only [Array.getD_eq_getD_getElem?] at hd ⊢
          rw [Array.getElem?_eq_getElem (by omega)] at hd ⊢
          exact hd
        · have hj : e.on ∈ depsOf md ops i := by
            unfold depsOf
            rw [Array.getElem?_eq_getElem hi]
            simp only [Option.map_some, Option.getD_some, List.mem_map, List.mem_filter]
            exact ⟨e, ⟨by simpa using he, hbi⟩, rfl⟩
          have hlt : e.on < i := by
            unfold backOk at hb
            have := List.all_eq_true.1 (List.all_eq_true.1 hb i (List.mem_range.2 hi)) _ hj
            simpa using this
          exact ih e.on hlt (by omega)
      rw [h] at hm
      cases hm
def undone (L : Array Bool) : Nat := (L.toList.filter fun b => !b).length
theorem undone_set : ∀ (l : List Bool) (i : Nat), l[i]? = some false → ((l.set i true).filter fun b => !b).length + 1 = (l.filter fun b => !b).length
  | [], _, h => by cases h
  | b :: l, 0, h => by
    obtain rfl : b = false := by simpa using h
    simp
  | b :: l, i + 1, h => by
    have := undone_set l i (by simpa using h)
    rw [List.set_cons_succ, List.filter_cons, List.filter_cons]
    cases b <;> simp <;> omega
theorem wpAny_inv (Inv : (Nat → Bool) → Act → World → Prop) (hb : backOk md ops = true)
    (step : ∀ (D : Nat → Bool) (a : Act) (w : World) (i : Nat) (o : Oper), ops[i]? = some o → Inv D a w → D i = false → (∀ j ∈ depsOf md ops i, D j = true) →
      ∀ K : Act → World → Prop, (∀ a' w', Inv (fun j => j == i || D j) a' w' → K a' w') → if Region.wanted o (yielded ops a.tmps) = true then Oper.wp P o a w K Q else K (a.put o.dst undef) w)
    (fin : ∀ D a w, Inv D a w → (∀ i, i < ops.size → D i = true) → Q .normal a w) :
    ∀ (fuel : Nat) (L : Array Bool) (a : Act) (w : World), L.size = ops.size → undone L ≤ fuel → Inv (doneOf L) a w → wpAny P md ops Q fuel L a w
  | 0, L, a, w, hL, hu, hI => by
    have hr : Region.ready md ops L = [] := by
      cases hr : Region.ready md ops L with
      | nil => rfl
      | cons i r =>
        exfalso
        obtain ⟨h1, h2, _⟩ := ready_deps hL (show i ∈ Region.ready md ops L by rw [hr]; simp)
        have hx : L[i]? = some false := by
          unfold doneOf at h2
          simp only [Array.getD_eq_getD_getElem?] at h2
          rw [Array.getElem?_eq_getElem (by omega)] at h2 ⊢
          simpa using h2
        have := undone_set L.toList i (by simpa using hx)
        unfold undone at hu
        omega
    exact ⟨hr, fin _ _ _ hI (all_done hL hb hr)⟩
  | fuel + 1, L, a, w, hL, hu, hI => by
    refine ⟨fun hr => fin _ _ _ hI (all_done hL hb hr), fun i hi => ?_⟩
    obtain ⟨h1, h2, h3⟩ := ready_deps hL hi
    have hx : L[i]? = some false := by
      unfold doneOf at h2
      simp only [Array.getD_eq_getD_getElem?] at h2
      rw [Array.getElem?_eq_getElem (by omega)] at h2 ⊢
      simpa using h2
    have hu2 := undone_set L.toList i (by simpa using hx)
    refine wpOp_step (Array.getElem?_eq_getElem h1) (fun K hK => step _ a w i _ (Array.getElem?_eq_getElem h1) hI h2 h3 K (fun a' w' hI' => hK a' w' ?_))
    refine wpAny_inv Inv hb step fin fuel _ a' w' (by simpa using hL) ?_ (by rw [doneOf_set (by omega)]; exact hI')
    unfold undone at hu ⊢
    rw [Array.toList_setIfInBounds]
    omega
theorem wp_region_inv {id : Nat} {a : Act} {w : World} (Inv : Act → (Nat → Bool) → Act → World → Prop) (hm : P.follows .mixedOrders = true) (hb : backOk .any ops = true) (h0 : Inv a (fun _ => false) a w.drew)
    (step : ∀ (D : Nat → Bool) (b : Act) (w : World) (i : Nat) (o : Oper), ops[i]? = some o → Inv a D b w → D i = false → (∀ j ∈ depsOf .any ops i, D j = true) →
      ∀ K : Act → World → Prop, (∀ a' w', Inv a (fun j => j == i || D j) a' w' → K a' w') → if Region.wanted o (yielded ops b.tmps) = true then Oper.wp P o b w K Q else K (b.put o.dst undef) w)
    (fin : ∀ D b w, Inv a D b w → (∀ i, i < ops.size → D i = true) → Q .normal b w) : (Code.region id ops true).wp P Q a w := by
  refine wp_region_any hm (wpAny_inv (Inv a) hb step fin _ _ _ _ (by simp) ?_ ?_)
  · unfold undone
    refine Nat.le_trans (List.length_filter_le _ _) ?_
    simp
  · have e : doneOf (Array.replicate ops.size false) = fun _ => false := by
      funext j
      unfold doneOf
      simp only [Array.getD_eq_getD_getElem?, Array.getElem?_replicate]
      split <;> rfl
    rw [e]
    exact h0
end
end Go.Proofs.YteelmbpmmobpjaaGreatDoor
