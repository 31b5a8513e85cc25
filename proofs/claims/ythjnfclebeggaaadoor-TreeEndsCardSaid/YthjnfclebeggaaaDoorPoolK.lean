/-
  The hand finds a page that may go, where there is one.
-/
import Derived.Test.YthjnfclebeggaaaDoorPoolQ
namespace Go.Proofs.YthjnfclebeggaaaDoor
open Go.RowKit
/-- may this frame be used at once? -/
def ripe (o : Option Fr) : Prop := ∀ f, o = some f → ¬ 0 < f.pins ∧ f.used = false
/-- nobody uses it -/
def still_ (o : Option Fr) : Prop := ∀ f, o = some f → ¬ 0 < f.pins
theorem sweep_step (n : Nat) {l : List (Option Fr)} {h : Nat} (hh : h < l.length) :
    (sweep (n + 1) l h).1 ≠ none ∨ ∃ (f : Fr) (l' : List (Option Fr)), l[h]? = some (some f) ∧ sweep (n + 1) l h = sweep n l' ((h + 1) % l.length) ∧ ((0 < f.pins ∧ l' = l) ∨ (¬ 0 < f.pins ∧ f.used = true ∧ l' = l.set h (some { f with used := false }))) := by
  cases ho : l[h]? with
  | none => exact absurd ho (by rw [List.getElem?_eq_getElem hh]; exact fun h => by cases h)
  | some o =>
    cases o with
    | none => left; rw [sweep_none n ho]; exact fun h => by cases h
    | some f =>
      rw [sweep_some n ho]
      by_cases hp : 0 < f.pins
      · right
        exact ⟨f, l, rfl, by rw [if_pos hp], .inl ⟨hp, rfl⟩⟩
      · by_cases hu : f.used = true
        · right
          exact ⟨f, _, rfl, by rw [if_neg hp, if_pos hu], .inr ⟨hp, hu, rfl⟩⟩
        · left
          rw [if_neg hp, if_neg hu]; exact fun h => by cases h
theorem sweep_ripe : ∀ (j n : Nat) (l : List (Option Fr)) (h i : Nat), h < l.length → (h + j) % l.length = i → j < l.length → (∀ o, l[i]? = some o → ripe o) → j + 1 ≤ n → (sweep n l h).1 ≠ none
  | j, 0, _, _, _, _, _, _, _, hn => absurd hn (by omega)
  | j, n + 1, l, h, i, hh, hi, hj, hr, hn => by
    rcases sweep_step n hh with h1 | ⟨f, l', hf, he, hc⟩
    · exact h1
    · have hil : i < l.length := by rw [← hi]; exact Nat.mod_lt _ (by omega)
      by_cases e : h = i
      · subst e
        obtain ⟨r1, r2⟩ := hr _ hf f rfl
        rcases hc with ⟨hp, _⟩ | ⟨_, hu, _⟩
        · exact absurd hp r1
        · rw [r2] at hu; cases hu
      · have hj0 : j ≠ 0 := fun e0 => by
          subst e0
          rw [Nat.add_zero, Nat.mod_eq_of_lt hh] at hi
          exact e hi
        have hl' : l'.length = l.length := by
          rcases hc with ⟨_, rfl⟩ | ⟨_, _, rfl⟩
          · rfl
          · exact List.length_set
        rw [he]
        rw [← hl']
        refine sweep_ripe (j - 1) n l' ((h + 1) % l'.length) i (Nat.mod_lt _ (by omega)) ?_ (by omega) (fun o ho => ?_) (by omega)
        · rw [hl', ← hi, Nat.mod_add_mod]
          congr 1
          omega
        · rcases hc with ⟨_, rfl⟩ | ⟨_, _, rfl⟩
          · exact hr o ho
          · rw [get_set _ _ _ _ hh, if_neg e] at ho
            exact hr o ho
theorem sweep_still : ∀ (j n : Nat) (l : List (Option Fr)) (h i : Nat), h < l.length → (h + j) % l.length = i → j < l.length → (∀ o, l[i]? = some o → still_ o) → j + 1 + l.length ≤ n → (sweep n l h).1 ≠ none
  | j, 0, _, _, _, _, _, _, _, hn => absurd hn (by omega)
  | j, n + 1, l, h, i, hh, hi, hj, hr, hn => by
    rcases sweep_step n hh with h1 | ⟨f, l', hf, he, hc⟩
    · exact h1
    · have hil : i < l.length := by rw [← hi]; exact Nat.mod_lt _ (by omega)
      have hl' : l'.length = l.length := by
        rcases hc with ⟨_, rfl⟩ | ⟨_, _, rfl⟩
        · rfl
        · exact List.length_set
      by_cases e : h = i
      · subst e
        have r1 := hr _ hf f rfl
        rcases hc with ⟨hp, _⟩ | ⟨_, hu, rfl⟩
        · exact absurd hp r1
        · rw [he, ← hl']
          refine sweep_ripe (l.length - 1) n _ _ h (Nat.mod_lt _ (by omega)) ?_ (by omega) (fun o ho => ?_) (by omega)
          · rw [hl', Nat.mod_add_mod, show h + 1 + (l.length - 1) = h + l.length by omega, Nat.add_mod_right, Nat.mod_eq_of_lt hh]
          · rw [get_set _ _ _ _ hh, if_pos rfl] at ho
            intro g hg
            rw [← Option.some.inj ho] at hg
            rw [← Option.some.inj hg]
            exact ⟨r1, rfl⟩
      · have hj0 : j ≠ 0 := fun e0 => by
          subst e0
          rw [Nat.add_zero, Nat.mod_eq_of_lt hh] at hi
          exact e hi
        rw [he, ← hl']
        refine sweep_still (j - 1) n l' ((h + 1) % l'.length) i (Nat.mod_lt _ (by omega)) ?_ (by omega) (fun o ho => ?_) (by omega)
        · rw [hl', ← hi, Nat.mod_add_mod]
          congr 1
          omega
        · rcases hc with ⟨_, rfl⟩ | ⟨_, _, rfl⟩
          · exact hr o ho
          · rw [get_set _ _ _ _ hh, if_neg e] at ho
            exact hr o ho
/-- where a frame is nobody's, the hand finds one -/
theorem sweep_finds (l : List (Option Fr)) (h i : Nat) (hh : h < l.length) (hi : i < l.length) (hr : ∀ o, l[i]? = some o → still_ o) : (sweep (2 * l.length) l h).1 ≠ none := by
  refine sweep_still ((i + l.length - h) % l.length) (2 * l.length) l h i hh ?_ (Nat.mod_lt _ (by omega)) hr ?_
  · rw [Nat.add_mod_mod, show h + (i + l.length - h) = i + l.length by omega, Nat.add_mod_right, Nat.mod_eq_of_lt hi]
  · have := Nat.mod_lt (i + l.length - h) (show 0 < l.length by omega)
    omega
/-- the hand's way turns no frame but its mark -/
theorem sweep_marks : ∀ (n : Nat) (l : List (Option Fr)) (h : Nat), h < l.length → ∀ (i : Nat) (g : Fr), (sweep n l h).2.1[i]? = some (some g) → ∃ f : Fr, l[i]? = some (some f) ∧ (g = f ∨ g = { f with used := false })
  | 0, _, _, _, _, g, hg => ⟨g, hg, .inl rfl⟩
  | n + 1, l, h, hh, i, g, hg => by
    have ho : ∃ o, l[h]? = some o := ⟨_, List.getElem?_eq_getElem hh⟩
    obtain ⟨o, ho⟩ := ho
    cases o with
    | none => rw [sweep_none n ho] at hg; exact ⟨g, hg, .inl rfl⟩
    | some f =>
      rw [sweep_some n ho] at hg
      by_cases hp : 0 < f.pins
      · rw [if_pos hp] at hg
        exact sweep_marks n l _ (Nat.mod_lt _ (by omega)) i g hg
      · rw [if_neg hp] at hg
        by_cases hu : f.used = true
        · rw [if_pos hu] at hg
          obtain ⟨f2, h2, h3⟩ := sweep_marks n (l.set h (some { f with used := false })) _ (by rw [List.length_set]; exact Nat.mod_lt _ (by omega)) i g hg
          rw [get_set _ _ _ _ hh] at h2
          by_cases e : h = i
          · subst e
            rw [if_pos rfl] at h2
            have e2 := Option.some.inj (Option.some.inj h2)
            subst e2
            exact ⟨f, ho, .inr (by rcases h3 with rfl | rfl <;> rfl)⟩
          · rw [if_neg e] at h2; exact ⟨f2, h2, h3⟩
        · rw [if_neg hu] at hg; exact ⟨g, hg, .inl rfl⟩
theorem sweep_stays : ∀ (n : Nat) (l : List (Option Fr)) (h : Nat), h < l.length → ∀ (i : Nat) (f : Fr), l[i]? = some (some f) → ∃ g : Fr, (sweep n l h).2.1[i]? = some (some g) ∧ (g = f ∨ g = { f with used := false })
  | 0, _, _, _, _, f, hf => ⟨f, hf, .inl rfl⟩
  | n + 1, l, h, hh, i, f, hf => by
    have ho : ∃ o, l[h]? = some o := ⟨_, List.getElem?_eq_getElem hh⟩
    obtain ⟨o, ho⟩ := ho
    cases o with
    | none => rw [sweep_none n ho]; exact ⟨f, hf, .inl rfl⟩
    | some u =>
      rw [sweep_some n ho]
      by_cases hp : 0 < u.pins
      · rw [if_pos hp]
        exact sweep_stays n l _ (Nat.mod_lt _ (by omega)) i f hf
      · rw [if_neg hp]
        by_cases hu : u.used = true
        · rw [if_pos hu]
          by_cases e : h = i
          · subst e
            rw [ho] at hf
            have e2 := Option.some.inj (Option.some.inj hf)
            subst e2
            obtain ⟨g, h2, h3⟩ := sweep_stays n (l.set h (some { u with used := false })) ((h + 1) % l.length) (by rw [List.length_set]; exact Nat.mod_lt _ (by omega)) h { u with used := false } (by rw [get_set _ _ _ _ hh, if_pos rfl])
            exact ⟨g, h2, .inr (by rcases h3 with rfl | rfl <;> rfl)⟩
          · exact sweep_stays n (l.set h (some { u with used := false })) ((h + 1) % l.length) (by rw [List.length_set]; exact Nat.mod_lt _ (by omega)) i f (by rw [get_set _ _ _ _ hh, if_neg e]; exact hf)
        · rw [if_neg hu]; exact ⟨f, hf, .inl rfl⟩
end Go.Proofs.YthjnfclebeggaaaDoor
