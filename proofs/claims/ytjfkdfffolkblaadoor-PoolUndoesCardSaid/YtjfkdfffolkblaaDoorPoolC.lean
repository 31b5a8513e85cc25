/-
  The hand finds a page that may go, where there is one.
  A calm pool, in plain words: no fault, and what each page has.
-/
import Derived.Test.YtjfkdfffolkblaaDoorPoolQ
import Derived.Test.YtjfkdfffolkblaaDoorDiskX
import Derived.Test.YtjfkdfffolkblaaDoorDiskR
import Derived.Test.YtjfkdfffolkblaaDoorDiskF
namespace Go.Proofs.YtjfkdfffolkblaaDoor
open Go.RowKit
/-- may this frame be used at once? -/
def ripe (o : Option Fr) : Prop := ∀ f, o = some f → ¬ 0 < f.pins ∧ f.used = false
/-- nobody uses it -/
def still_ (o : Option Fr) : Prop := ∀ f, o = some f → ¬ 0 < f.pins
theorem sweep_step (n : Nat) {l : List (Option Fr)} {h : Nat} (hh : h < l.length) :
    (sweep (n + 1) l h).1 ≠ none ∨ ∃ (f : Fr) (l' : List (Option Fr)), l[h]? = some (some f) ∧ sweep (n + 1) l h = sweep n l' ((h + 1) % l.length) ∧ ((0 < f.pins ∧ l' = l) ∨ (¬ 0 < f.pins ∧ f.used = true ∧ l' = l.set h (some { f with used := false }))) := by
  cases ho : l[h]? with
  | none => exact absurd ho (by rw [List.getElem?_eq_getElem hh]; exact fun h => by cases h)
  | some o =>
    cases o with
    | none => left; rw [sweep_none n ho]; exact fun h => by cases h
    | some f =>
      rw [sweep_some n ho]
      by_cases hp : 0 < f.pins
      · right
        exact ⟨f, l, rfl, by rw [if_pos hp], .inl ⟨hp, rfl⟩⟩
      · by_cases hu : f.used = true
        · right
          exact ⟨f, _, rfl, by rw [if_neg hp, if_pos hu], .inr ⟨hp, hu, rfl⟩⟩
        · left
          rw [if_neg hp, if_neg hu]; exact fun h => by cases h
theorem sweep_ripe : ∀ (j n : Nat) (l : List (Option Fr)) (h i : Nat), h < l.length → (h + j) % l.length = i → j < l.length → (∀ o, l[i]? = some o → ripe o) → j + 1 ≤ n → (sweep n l h).1 ≠ none
  | j, 0, _, _, _, _, _, _, _, hn => absurd hn (by omega)
  | j, n + 1, l, h, i, hh, hi, hj, hr, hn => by
    rcases sweep_step n hh with h1 | ⟨f, l', hf, he, hc⟩
    · exact h1
    · have hil : i < l.length := by rw [← hi]; exact Nat.mod_lt _ (by omega)
      by_cases e : h = i
      · subst e
        obtain ⟨r1, r2⟩ := hr _ hf f rfl
        rcases hc with ⟨hp, _⟩ | ⟨_, hu, _⟩
        · exact absurd hp r1
        · rw [r2] at hu; cases hu
      · have hj0 : j ≠ 0 := fun e0 => by
          subst e0
          rw [Nat.add_zero, Nat.mod_eq_of_lt hh] at hi
          exact e hi
        have hl' : l'.length = l.length := by
          rcases hc with ⟨_, rfl⟩ | ⟨_, _, rfl⟩
          · rfl
          · exact List.length_set
        rw [he]
        rw [← hl']
        refine sweep_ripe (j - 1) n l' ((h + 1) % l'.length) i (Nat.mod_lt _ (by omega)) ?_ (by omega) (fun o ho => ?_) (by omega)
        · rw [hl', ← hi, Nat.mod_add_mod]
          congr 1
          omega
        · rcases hc with ⟨_, rfl⟩ | ⟨_, _, rfl⟩
          · exact hr o ho
          · rw [get_set _ _ _ _ hh, if_neg e] at ho
            exact hr o ho
theorem sweep_still : ∀ (j n : Nat) (l : List (Option Fr)) (h i : Nat), h < l.length → (h + j) % l.length = i → j < l.length → (∀ o, l[i]? = some o → still_ o) → j + 1 + l.length ≤ n → (sweep n l h).1 ≠ none
  | j, 0, _, _, _, _, _, _, _, hn => absurd hn (by omega)
  | j, n + 1, l, h, i, hh, hi, hj, hr, hn => by
    rcases sweep_step n hh with h1 | ⟨f, l', hf, he, hc⟩
    · exact h1
    · have hil : i < l.length := by rw [← hi]; exact Nat.mod_lt _ (by omega)
      have hl' : l'.length = l.length := by
        rcases hc with ⟨_, rfl⟩ | ⟨_, _, rfl⟩
        · rfl
        · exact List.length_set
      by_cases e : h = i
      · subst e
        have r1 := hr _ hf f rfl
        rcases hc with ⟨hp, _⟩ | ⟨_, hu, rfl⟩
        · exact absurd hp r1
        · rw [he, ← hl']
          refine sweep_ripe (l.length - 1) n _ _ h (Nat.mod_lt _ (by omega)) ?_ (by omega) (fun o ho => ?_) (by omega)
          · rw [hl', Nat.mod_add_mod, show h + 1 + (l.length - 1) = h + l.length by omega, Nat.add_mod_right, Nat.mod_eq_of_lt hh]
          · rw [get_set _ _ _ _ hh, if_pos rfl] at ho
            intro g hg
            rw [← Option.some.inj ho] at hg
            rw [← Option.some.inj hg]
            exact ⟨r1, rfl⟩
      · have hj0 : j ≠ 0 := fun e0 => by
          subst e0
          rw [Nat.add_zero, Nat.mod_eq_of_lt hh] at hi
          exact e hi
        rw [he, ← hl']
        refine sweep_still (j - 1) n l' ((h + 1) % l'.length) i (Nat.mod_lt _ (by omega)) ?_ (by omega) (fun o ho => ?_) (by omega)
        · rw [hl', ← hi, Nat.mod_add_mod]
          congr 1
          omega
        · rcases hc with ⟨_, rfl⟩ | ⟨_, _, rfl⟩
          · exact hr o ho
          · rw [get_set _ _ _ _ hh, if_neg e] at ho
            exact hr o ho
/-- where a frame is nobody's, the hand finds one -/
theorem sweep_finds (l : List (Option Fr)) (h i : Nat) (hh : h < l.length) (hi : i < l.length) (hr : ∀ o, l[i]? = some o → still_ o) : (sweep (2 * l.length) l h).1 ≠ none := by
  refine sweep_still ((i + l.length - h) % l.length) (2 * l.length) l h i hh ?_ (Nat.mod_lt _ (by omega)) hr ?_
  · rw [Nat.add_mod_mod, show h + (i + l.length - h) = i + l.length by omega, Nat.add_mod_right, Nat.mod_eq_of_lt hi]
  · have := Nat.mod_lt (i + l.length - h) (show 0 < l.length by omega)
    omega
/-- the hand's way turns no frame but its mark -/
theorem sweep_marks : ∀ (n : Nat) (l : List (Option Fr)) (h : Nat), h < l.length → ∀ (i : Nat) (g : Fr), (sweep n l h).2.1[i]? = some (some g) → ∃ f : Fr, l[i]? = some (some f) ∧ (g = f ∨ g = { f with used := false })
  | 0, _, _, _, _, g, hg => ⟨g, hg, .inl rfl⟩
  | n + 1, l, h, hh, i, g, hg => by
    have ho : ∃ o, l[h]? = some o := ⟨_, List.getElem?_eq_getElem hh⟩
    obtain ⟨o, ho⟩ := ho
    cases o with
    | none => rw [sweep_none n ho] at hg; exact ⟨g, hg, .inl rfl⟩
    | some f =>
      rw [sweep_some n ho] at hg
      by_cases hp : 0 < f.pins
      · rw [if_pos hp] at hg
        exact sweep_marks n l _ (Nat.mod_lt _ (by omega)) i g hg
      · rw [if_neg hp] at hg
        by_cases hu : f.used = true
        · rw [if_pos hu] at hg
          obtain ⟨f2, h2, h3⟩ := sweep_marks n (l.set h (some { f with used := false })) _ (by rw [List.length_set]; exact Nat.mod_lt _ (by omega)) i g hg
          rw [get_set _ _ _ _ hh] at h2
          by_cases e : h = i
          · subst e
            rw [if_pos rfl] at h2
            have e2 := Option.some.inj (Option.some.inj h2)
            subst e2
            exact ⟨f, ho, .inr (by rcases h3 with rfl | rfl <;> rfl)⟩
          · rw [if_neg e] at h2; exact ⟨f2, h2, h3⟩
        · rw [if_neg hu] at hg; exact ⟨g, hg, .inl rfl⟩
theorem sweep_stays : ∀ (n : Nat) (l : List (Option Fr)) (h : Nat), h < l.length → ∀ (i : Nat) (f : Fr), l[i]? = some (some f) → ∃ g : Fr, (sweep n l h).2.1[i]? = some (some g) ∧ (g = f ∨ g = { f with used := false })
  | 0, _, _, _, _, f, hf => ⟨f, hf, .inl rfl⟩
  | n + 1, l, h, hh, i, f, hf => by
    have ho : ∃ o, l[h]? = some o := ⟨_, List.getElem?_eq_getElem hh⟩
    obtain ⟨o, ho⟩ := ho
    cases o with
    | none => rw [sweep_none n ho]; exact ⟨f, hf, .inl rfl⟩
    | some u =>
      rw [sweep_some n ho]
      by_cases hp : 0 < u.pins
      · rw [if_pos hp]
        exact sweep_stays n l _ (Nat.mod_lt _ (by omega)) i f hf
      · rw [if_neg hp]
        by_cases hu : u.used = true
        · rw [if_pos hu]
          by_cases e : h = i
          · subst e
            rw [ho] at hf
            have e2 := Option.some.inj (Option.some.inj hf)
            subst e2
            obtain ⟨g, h2, h3⟩ := sweep_stays n (l.set h (some { u with used := false })) ((h + 1) % l.length) (by rw [List.length_set]; exact Nat.mod_lt _ (by omega)) h { u with used := false } (by rw [get_set _ _ _ _ hh, if_pos rfl])
            exact ⟨g, h2, .inr (by rcases h3 with rfl | rfl <;> rfl)⟩
          · exact sweep_stays n (l.set h (some { u with used := false })) ((h + 1) % l.length) (by rw [List.length_set]; exact Nat.mod_lt _ (by omega)) i f (by rw [get_set _ _ _ _ hh, if_neg e]; exact hf)
        · rw [if_neg hu]; exact ⟨f, hf, .inl rfl⟩
end Go.Proofs.YtjfkdfffolkblaaDoor
namespace Go.Proofs.YtjfkdfffolkblaaDoor
open Go.RowKit
/-- what each page has: at hand, or on the disk -/
structure Calm (q : Pl) (d : Dk) (cnt : Nat) (c : Nat → List UInt8) : Prop where
  clean : Clean d cnt
  at_ : ∀ (i : Nat) (f : Fr), q.frames[i]? = some (some f) → f.data = c f.page.toNat
  off : ∀ p, 1 ≤ p → p < cnt → p ∉ d.free → (∀ (i : Nat) (f : Fr), q.frames[i]? = some (some f) → f.page = (p : Nat) → f.dirty = false) → lookL d.x p = c p
section
variable {q : Pl} {d : Dk} {cnt : Nat} {c : Nat → List UInt8}
/-- a frame that wasn't changed goes -/
theorem Calm.forget (h : Calm q d cnt c) {i : Nat} {f : Fr} (hi : q.frames[i]? = some (some f)) (hd : f.dirty = false) (hand : Nat) (pins : Int) (op : Option Opn) : Calm { frames := q.frames.set i none, hand := hand, pins := pins, op := op } d cnt c := by
  have hl := (List.getElem?_eq_some_iff.1 hi).1
  refine ⟨h.clean, fun j g hj => ?_, fun p h1 h2 h3 h4 => h.off p h1 h2 h3 (fun j g hj hg => ?_)⟩
  · replace hj : (q.frames.set i none)[j]? = some (some g) := hj
    rw [get_set _ _ _ _ hl] at hj
    by_cases e : i = j
    · rw [if_pos e] at hj; cases hj
    · rw [if_neg e] at hj; exact h.at_ j g hj
  · by_cases e : i = j
    · subst e
      rw [hi] at hj
      rw [← Option.some.inj (Option.some.inj hj)]; exact hd
    · exact h4 j g (by show (q.frames.set i none)[j]? = _; rw [get_set _ _ _ _ hl, if_neg e]; exact hj) hg
/-- the hand has gone its way -/
theorem Calm.swept (h : Calm q d cnt c) (hh : q.hand < q.frames.length) (n : Nat) (hand : Nat) (pins : Int) (op : Option Opn) : Calm { frames := (sweep n q.frames q.hand).2.1, hand := hand, pins := pins, op := op } d cnt c := by
  refine ⟨h.clean, fun i g hg => ?_, fun p h1 h2 h3 h4 => h.off p h1 h2 h3 (fun i f hf hp => ?_)⟩
  · obtain ⟨f, hf, e⟩ := sweep_marks n q.frames q.hand hh i g hg
    have := h.at_ i f hf
    rcases e with rfl | rfl <;> exact this
  · obtain ⟨g, hg, e⟩ := sweep_stays n q.frames q.hand hh i f hf
    have := h4 i g hg (by rcases e with rfl | rfl <;> exact hp)
    rcases e with rfl | rfl <;> exact this
theorem look_write (hc : Clean d cnt) (p r : Nat) (hp : p < cnt) (hr : r < cnt) (s : List UInt8) (hs : s.length = 504) : lookL (writeD d p s).x r = if p = r then s else lookL d.x r := by
  have hx := hc.fit.len
  have h6 := hc.fit.few
  by_cases e : p = r
  · subst e
    rw [if_pos rfl]
    exact (look_wr d.x p (by omega) s hs (by omega)).1
  · rw [if_neg e]
    have e2 : pgOf (UK.wr d.x (512 * p) (pageL p s)) r = pgOf d.x r := by rw [pgOf_wr d.x p r _ (pageL_length p s (by omega)) (by omega) (by omega), if_neg e]
    show lookL (UK.wr d.x (512 * p) (pageL p s)) r = _
    unfold lookL
    rw [okB_pg, okB_pg, loadL_pg, loadL_pg, e2]
/-- a changed frame is written, and goes -/
theorem Calm.write (h : Calm q d cnt c) (h3 : d.puts + 1 < 1000000000) {i : Nat} {f : Fr} (hi : q.frames[i]? = some (some f)) {p : Nat} (hp : f.page = (p : Nat)) (hlt : p < cnt) (hfr : p ∉ d.free) (hlen : f.data.length = 504) (hand : Nat) (pins : Int) (op : Option Opn) : Calm { frames := q.frames.set i none, hand := hand, pins := pins, op := op } (writeD d p f.data) cnt c := by
  have hl := (List.getElem?_eq_some_iff.1 hi).1
  refine ⟨h.clean.write h3 p hlt hfr f.data (by omega), fun j g hj => ?_, fun r h1 h2 hr h4 => ?_⟩
  · replace hj : (q.frames.set i none)[j]? = some (some g) := hj
    rw [get_set _ _ _ _ hl] at hj
    by_cases e : i = j
    · rw [if_pos e] at hj; cases hj
    · rw [if_neg e] at hj; exact h.at_ j g hj
  · rw [look_write h.clean p r hlt h2 f.data hlen]
    by_cases e : p = r
    · subst e
      rw [if_pos rfl]
      have := h.at_ i f hi
      rw [hp, Int.toNat_natCast] at this
      exact this
    · rw [if_neg e]
      refine h.off r h1 h2 hr (fun j g hj hg => ?_)
      have hji : i ≠ j := fun e2 => by
        subst e2
        rw [hi] at hj
        have e3 := Option.some.inj (Option.some.inj hj)
        subst e3
        rw [hp] at hg
        exact e (by omega)
      exact h4 j g (by show (q.frames.set i none)[j]? = _; rw [get_set _ _ _ _ hl, if_neg hji]; exact hj) hg
/-- a page comes to hand -/
theorem Calm.lay (h : Calm q d cnt c) {i : Nat} (hi : q.frames[i]? = some none) {f : Fr} (hf : f.data = c f.page.toNat) (hand : Nat) (pins : Int) (op : Option Opn) : Calm { frames := q.frames.set i (some f), hand := hand, pins := pins, op := op } d cnt c := by
  have hl := (List.getElem?_eq_some_iff.1 hi).1
  refine ⟨h.clean, fun j g hj => ?_, fun p h1 h2 h3 h4 => h.off p h1 h2 h3 (fun j g hj hg => ?_)⟩
  · replace hj : (q.frames.set i (some f))[j]? = some (some g) := hj
    rw [get_set _ _ _ _ hl] at hj
    by_cases e : i = j
    · rw [if_pos e] at hj
      rw [← Option.some.inj (Option.some.inj hj)]; exact hf
    · rw [if_neg e] at hj; exact h.at_ j g hj
  · have e : i ≠ j := fun e => by subst e; rw [hi] at hj; cases hj
    exact h4 j g (by show (q.frames.set i (some f))[j]? = _; rw [get_set _ _ _ _ hl, if_neg e]; exact hj) hg
theorem page_nil (p : Nat) : pageL p [] = pageL p (UK.zeros 504) := by
  have e : restL p [] = restL p (UK.zeros 504) := by
    have h1 : ([] : List UInt8) ++ UK.zeros (504 - ([] : List UInt8).length) = UK.zeros 504 ++ UK.zeros (504 - (UK.zeros 504).length) := by
      rw [UK.zeros_length, Nat.sub_self, List.nil_append, List.length_nil, Nat.sub_zero]
      exact (List.append_nil _).symm
    unfold restL
    rw [h1]
  unfold pageL
  rw [e]
theorem look_takeF (hc : Clean d cnt) {l : List Nat} {p : Nat} (hl : d.free = l ++ [p]) (r : Nat) (hr : r < cnt) : lookL (takeF d l p).x r = if p = r then UK.zeros 504 else lookL d.x r := by
  have hp := hc.fit.free p (by rw [hl]; exact List.mem_append_right _ (List.mem_singleton.2 rfl))
  have e := look_write hc p r hp.2 hr (UK.zeros 504) (UK.zeros_length 504)
  show lookL (UK.wr d.x (512 * p) (pageL p [])) r = _
  rw [page_nil]
  exact e
/-- a page's new bytes -/
def setC (c : Nat → List UInt8) (p : Nat) (s : List UInt8) : Nat → List UInt8 := fun r => if p = r then s else c r
theorem Calm.nat (h : Calm q d cnt c) {f : Fr} (hh : hasD d cnt f.page = true) : ∃ p : Nat, f.page = p ∧ 1 ≤ p ∧ p < cnt ∧ p ∉ d.free := by
  rw [h.clean.so.hasI, decide_eq_true_eq] at hh
  exact ⟨f.page.toNat, by omega, by omega, by omega, hh.2.2⟩
theorem Calm.takeF (h : Calm q d cnt c) (h3 : d.puts + 1 < 1000000000) {l : List Nat} {p : Nat} (hl : d.free = l ++ [p]) (hh : ∀ (i : Nat) (f : Fr), q.frames[i]? = some (some f) → hasD d cnt f.page = true) : Calm q (takeF d l p) cnt (setC c p (UK.zeros 504)) := by
  have hpm : p ∈ d.free := by rw [hl]; exact List.mem_append_right _ (List.mem_singleton.2 rfl)
  refine ⟨h.clean.takeF h3 l p hl, fun i f hi => ?_, fun r h1 h2 hr h4 => ?_⟩
  · obtain ⟨a, ha, _, _, hf⟩ := h.nat (hh i f hi)
    have := h.at_ i f hi
    unfold setC
    rw [ha, Int.toNat_natCast] at this ⊢
    have hne : ¬ p = a := fun e => by subst e; exact hf hpm
    rw [if_neg hne]
    exact this
  · rw [look_takeF h.clean hl r h2]
    unfold setC
    by_cases e : p = r
    · rw [if_pos e, if_pos e]
    · rw [if_neg e, if_neg e]
      refine h.off r h1 h2 (fun hm => ?_) h4
      rw [hl] at hm
      rcases List.mem_append.1 hm with hm | hm
      · exact hr hm
      · exact e (List.mem_singleton.1 hm).symm
/-- bytes of one page laid, another one read -/
theorem look_other (hc : Clean d cnt) (p r : Nat) (hp : p < cnt) (hr : r < cnt) (s : List UInt8) (hs : s.length ≤ 504) (e : p ≠ r) : lookL (UK.wr d.x (512 * p) (pageL p s)) r = lookL d.x r := by
  have hx := hc.fit.len
  have e2 : pgOf (UK.wr d.x (512 * p) (pageL p s)) r = pgOf d.x r := by rw [pgOf_wr d.x p r _ (pageL_length p s hs) (by omega) (by omega), if_neg e]
  unfold lookL
  rw [okB_pg, okB_pg, loadL_pg, loadL_pg, e2]
theorem look_takeN (hc : Clean d cnt) (hm : cnt < 60000) (r : Nat) (hr : r < cnt + 1) : lookL (takeN d cnt).x r = if cnt = r then UK.zeros 504 else lookL d.x r := by
  have hx := hc.fit.len
  have hx2 : (d.x ++ UK.zeros 512).length = 512 * (cnt + 1) := by rw [List.length_append, UK.zeros_length]; omega
  show lookL (UK.wr (d.x ++ UK.zeros 512) (512 * cnt) (pageL cnt [])) r = _
  by_cases e : cnt = r
  · subst e
    rw [if_pos rfl, page_nil]
    exact (look_wr _ cnt (by omega) (UK.zeros 504) (UK.zeros_length 504) (by omega)).1
  · rw [if_neg e]
    have e2 : pgOf (UK.wr (d.x ++ UK.zeros 512) (512 * cnt) (pageL cnt [])) r = pgOf (d.x ++ UK.zeros 512) r := by rw [pgOf_wr _ cnt r _ (pageL_length cnt [] (by decide)) (by omega) (by omega), if_neg e]
    have e3 : pgOf (d.x ++ UK.zeros 512) r = pgOf d.x r := by
      unfold pgOf
      rw [List.drop_append_of_le_length (by omega), List.take_append_of_le_length (by rw [List.length_drop]; omega)]
    unfold lookL
    rw [okB_pg, okB_pg, loadL_pg, loadL_pg, e2, e3]
theorem Calm.takeN (h : Calm q d cnt c) (h3 : d.puts + 1 < 1000000000) (hl : d.free = []) (hm : (cnt : Int) < d.most) (hh : ∀ (i : Nat) (f : Fr), q.frames[i]? = some (some f) → hasD d cnt f.page = true) : Calm q (takeN d cnt) (cnt + 1) (setC c cnt (UK.zeros 504)) := by
  have hmo := h.clean.fit.most
  refine ⟨h.clean.takeN h3 hl hm, fun i f hi => ?_, fun r h1 h2 hr h4 => ?_⟩
  · obtain ⟨a, ha, _, hlt, hf⟩ := h.nat (hh i f hi)
    have := h.at_ i f hi
    unfold setC
    rw [ha, Int.toNat_natCast] at this ⊢
    rw [if_neg (by omega)]
    exact this
  · rw [look_takeN h.clean (by omega) r h2]
    unfold setC
    by_cases e : cnt = r
    · rw [if_pos e, if_pos e]
    · rw [if_neg e, if_neg e]
      exact h.off r h1 (by omega) (by rw [hl]; exact List.not_mem_nil) h4
/-- the same page, otherwise marked -/
theorem Calm.turn (h : Calm q d cnt c) {i : Nat} {f g : Fr} (hi : q.frames[i]? = some (some f)) (hp : g.page = f.page) (hda : g.data = f.data) (hd : f.dirty = true → g.dirty = true) (hand : Nat) (pins : Int) (op : Option Opn) : Calm { frames := q.frames.set i (some g), hand := hand, pins := pins, op := op } d cnt c := by
  have hl := (List.getElem?_eq_some_iff.1 hi).1
  refine ⟨h.clean, fun j u hj => ?_, fun p h1 h2 h3 h4 => h.off p h1 h2 h3 (fun j u hj hu => ?_)⟩
  · replace hj : (q.frames.set i (some g))[j]? = some (some u) := hj
    rw [get_set _ _ _ _ hl] at hj
    by_cases e : i = j
    · rw [if_pos e] at hj
      rw [← Option.some.inj (Option.some.inj hj), hda, hp]; exact h.at_ i f hi
    · rw [if_neg e] at hj; exact h.at_ j u hj
  · by_cases e : i = j
    · subst e
      rw [hi] at hj
      have e2 := Option.some.inj (Option.some.inj hj)
      subst e2
      have := h4 i g (by show (q.frames.set i (some g))[i]? = _; rw [get_set _ _ _ _ hl, if_pos rfl]) (hp.trans hu)
      cases hfd : f.dirty
      · rfl
      · rw [hd hfd] at this; cases this
    · exact h4 j u (by show (q.frames.set i (some g))[j]? = _; rw [get_set _ _ _ _ hl, if_neg e]; exact hj) hu
/-- other numbers, the same frames -/
theorem Calm.same (h : Calm q d cnt c) (hand : Nat) (pins : Int) (op : Option Opn) : Calm { frames := q.frames, hand := hand, pins := pins, op := op } d cnt c := ⟨h.clean, h.at_, h.off⟩
/-- a changed frame's bytes turn -/
theorem Calm.edit (h : Calm q d cnt c) {i : Nat} {f : Fr} (hi : q.frames[i]? = some (some f)) (hd : f.dirty = true) (hhas : ∀ (j : Nat) (g : Fr), q.frames[j]? = some (some g) → hasD d cnt g.page = true) (hinj : ∀ (j : Nat) (g : Fr), q.frames[j]? = some (some g) → g.page = f.page → i = j) (s : List UInt8) (hand : Nat) (pins : Int) (op : Option Opn) :
    Calm { frames := q.frames.set i (some { f with data := s }), hand := hand, pins := pins, op := op } d cnt (setC c f.page.toNat s) := by
  have hl := (List.getElem?_eq_some_iff.1 hi).1
  obtain ⟨p, hp, hp1, _, _⟩ := h.nat (hhas i f hi)
  refine ⟨h.clean, fun j u hj => ?_, fun r h1 h2 h3 h4 => ?_⟩
  · replace hj : (q.frames.set i (some { f with data := s }))[j]? = some (some u) := hj
    rw [get_set _ _ _ _ hl] at hj
    unfold setC
    by_cases e : i = j
    · rw [if_pos e] at hj
      rw [← Option.some.inj (Option.some.inj hj)]
      show s = if f.page.toNat = f.page.toNat then s else _
      rw [if_pos rfl]
    · rw [if_neg e] at hj
      obtain ⟨a, ha, _, _, _⟩ := h.nat (hhas j u hj)
      rw [if_neg (fun e2 => e (hinj j u hj (by omega)))]
      exact h.at_ j u hj
  · unfold setC
    by_cases e : f.page.toNat = r
    · have := h4 i { f with data := s } (by show (q.frames.set i _)[i]? = _; rw [get_set _ _ _ _ hl, if_pos rfl]) (by show f.page = _; omega)
      rw [show ({ f with data := s } : Fr).dirty = f.dirty from rfl, hd] at this
      cases this
    · rw [if_neg e]
      refine h.off r h1 h2 h3 (fun j u hj hu => ?_)
      by_cases e2 : i = j
      · subst e2
        rw [hi] at hj
        have e3 := Option.some.inj (Option.some.inj hj)
        subst e3
        omega
      · exact h4 j u (by show (q.frames.set i _)[j]? = _; rw [get_set _ _ _ _ hl, if_neg e2]; exact hj) hu
/-- a page is given back; its frame, if there is one, is emptied -/
theorem Calm.give (h : Calm q d cnt c) (h3 : d.puts + 1 < 1000000000) (p : Nat) (h1 : 1 ≤ p) (hp : p < cnt) (hf : p ∉ d.free) {l : List (Option Fr)} (hsub : ∀ (j : Nat) (g : Fr), l[j]? = some (some g) → q.frames[j]? = some (some g)) (hkeep : ∀ (j : Nat) (g : Fr), q.frames[j]? = some (some g) → g.page ≠ (p : Nat) → l[j]? = some (some g)) (hand : Nat) (pins : Int) (op : Option Opn) :
    Calm { frames := l, hand := hand, pins := pins, op := op } (giveD d p) cnt c := by
  refine ⟨h.clean.give h3 p h1 hp hf, fun j g hj => h.at_ j g (hsub j g hj), fun r hr1 hr2 hr3 h4 => ?_⟩
  have hr3 : r ∉ d.free ++ [p] := hr3
  have hne : p ≠ r := fun e => hr3 (by rw [e]; exact List.mem_append_right _ (List.mem_singleton.2 rfl))
  refine (look_other h.clean p r hp hr2 _ (by rw [nextL_length]; decide) hne).trans (h.off r hr1 hr2 (fun hm => hr3 (List.mem_append_left _ hm)) (fun j g hj hg => h4 j g (hkeep j g hj (by omega)) hg))
/-- a changed frame is written, and stays -/
theorem Calm.wrote (h : Calm q d cnt c) (h3 : d.puts + 1 < 1000000000) {i : Nat} {f : Fr} (hi : q.frames[i]? = some (some f)) {p : Nat} (hp : f.page = (p : Nat)) (hlt : p < cnt) (hfr : p ∉ d.free) (hlen : f.data.length = 504) (hand : Nat) (pins : Int) (op : Option Opn) : Calm { frames := q.frames.set i (some { f with dirty := false }), hand := hand, pins := pins, op := op } (writeD d p f.data) cnt c := by
  have hl := (List.getElem?_eq_some_iff.1 hi).1
  refine ⟨h.clean.write h3 p hlt hfr f.data (by omega), fun j g hj => ?_, fun r h1 h2 hr h4 => ?_⟩
  · replace hj : (q.frames.set i (some { f with dirty := false }))[j]? = some (some g) := hj
    rw [get_set _ _ _ _ hl] at hj
    by_cases e : i = j
    · rw [if_pos e] at hj
      rw [← Option.some.inj (Option.some.inj hj)]; exact h.at_ i f hi
    · rw [if_neg e] at hj; exact h.at_ j g hj
  · rw [look_write h.clean p r hlt h2 f.data hlen]
    by_cases e : p = r
    · subst e
      rw [if_pos rfl]
      have := h.at_ i f hi
      rw [hp, Int.toNat_natCast] at this
      exact this
    · rw [if_neg e]
      refine h.off r h1 h2 hr (fun j g hj hg => ?_)
      have hji : i ≠ j := fun e2 => by
        subst e2
        rw [hi] at hj
        have e3 := Option.some.inj (Option.some.inj hj)
        subst e3
        rw [hp] at hg
        exact e (by omega)
      exact h4 j g (by show (q.frames.set i _)[j]? = _; rw [get_set _ _ _ _ hl, if_neg hji]; exact hj) hg
theorem Calm.flush (h : Calm q d cnt c) (h3 : d.puts + 1 < 1000000000) : Calm q (flushD d cnt) cnt c := by
  obtain ⟨a, _, _, hf, _, _⟩ := h.clean.flush h3
  refine ⟨a, h.at_, fun r h1 h2 hr h4 => ?_⟩
  rw [hf] at hr
  have hwl : d.wl ≠ 0 := by rw [h.clean.wl]; decide
  have e : (flushD d cnt).x = UK.wr d.x (512 * 0) (pageL 0 (headL d cnt)) := by unfold flushD; rw [if_neg hwl]
  rw [e]
  exact (look_other h.clean 0 r (by omega) h2 _ (by rw [headL_length]; decide) (by omega)).trans (h.off r h1 h2 hr h4)
theorem Calm.read (h : Calm q d cnt c) (h3 : d.reads + 1 < 1000000000) : Calm q (readD d) cnt c :=
  ⟨h.clean.same (fit_read h.clean.fit h3) rfl rfl rfl (by show failN d.rl = -1; rw [h.clean.rl]; rfl) h.clean.wl, h.at_, h.off⟩
/-- where fewer pages are used than there are frames, one is nobody's -/
theorem pins_idle : ∀ (l : List (Option Fr)), (∀ (i : Nat) (f : Fr), l[i]? = some (some f) → 0 ≤ f.pins) → pinsF l < l.length → ∃ i, i < l.length ∧ ∀ o, l[i]? = some o → still_ o
  | [], _, h => absurd h (by decide)
  | none :: l, _, _ => ⟨0, by simp, fun o ho f hf => by
      rw [← Option.some.inj ho] at hf; cases hf⟩
  | some f :: l, hpos, h => by
    by_cases hp : 0 < f.pins
    · obtain ⟨i, hi, hs⟩ := pins_idle l (fun j g hj => hpos (j + 1) g hj) (by
        have : pinsF (some f :: l) = f.pins + pinsF l := rfl
        rw [this, List.length_cons] at h
        omega)
      exact ⟨i + 1, by rw [List.length_cons]; omega, fun o ho => hs o ho⟩
    · exact ⟨0, by simp, fun o ho g hg => by
        rw [← Option.some.inj ho] at hg
        rw [← Option.some.inj hg]; exact hp⟩
end
end Go.Proofs.YtjfkdfffolkblaaDoor
