/-
  What the wrappers of the areas' laws share: the listed variables' cells out of the row's list; the witness's world.
-/
import Derived.Test.YteelmbpmmobpjaaGreatDoorValI
import Derived.Lib.LaidU8T
import Derived.PinnedBridge
import Derived.Deep.Slices
import Derived.Test.YteelmbpmmobpjaaGreatDoorCards
import Derived.Test.YteelmbpmmobpjaaGreatDoorTie
import Derived.ProofKit
import Derived.OpenShut
import Derived.ChangeSame
import Derived.Deep.DeepHandedRow
import Derived.Lib.LaidTab
import Derived.LaidOnce
namespace Go.Proofs.YteelmbpmmobpjaaGreatDoor
open Go.ChangeShapes Go.WideShapes Go.ChangeAt Go.RowKit
open Go.ChangeMaps (open_string)
section
variable {H : Type} {enc : TypeId × Value → H} {P : Program}
theorem post_of_below {f : Func} {s : ChangeSpec} {apart fresh handsOn again : Bool} {W W' : World} {args : Array Value} {v : Value} {ds gs : List (DataW H)} {before pa pv : List MemPlace}
    (hW : DataW.Whole enc P f.params.toList s.vars apart W args.toList ds gs before)
    (hres : ∀ (b : Nat) (sp : Nat → Bool) (hd : Bool), DataW.TrodAll enc P W' b sp hd f.resultTypes.toList (v.resultList f.resultTypes.size) (s.fn H (ds ++ gs)).results [])
    (hargs : ∀ sp : Nat → Bool, (∀ p ∈ before, sp p.block = true) → DataW.TrodAll enc P W' 0 sp true f.params.toList args.toList (s.fn H (ds ++ gs)).args pa)
    (hvars : ∀ sp : Nat → Bool, (∀ p ∈ before, sp p.block = true) → DataW.TrodVars enc P W' sp s.vars (s.fn H (ds ++ gs)).vars pv)
    (hps : before = pa ++ pv) (hb : Below W.heap.size W W')
    (hok : ∀ (j : Nat) (t : TypeId) (r : Value), f.resultTypes[j]? = some t → (v.resultList f.resultTypes.size)[j]? = some r → Value.okWide P W' .any 0 t r) :
    s.post enc P f apart fresh handsOn again W args v W' := by
  have hlt : ∀ p ∈ before, p.block < W.heap.size := fun p hp => hW.lt p hp
  have hold : ∀ p ∈ before, (fun b => decide (b < W.heap.size)) p.block = true := fun p hp => by simpa using hlt p hp
  refine ⟨ds, gs, before, [], pa, pv, hW, hres _ _ _, hargs _ hold, hvars _ hold, World.keptBut_mono (fun p hp => ⟨hp, ?_⟩) (hb.frame (· ∈ before)), fun _ => ?_⟩
  · rw [hps, List.mem_append] at hp
    exact Or.inr hp
  · obtain ⟨_, _, _, _, _, hz, hn⟩ := hW
    refine ⟨hok, _, _, ([] ++ pa) ++ pv, ⟨[] ++ pa, pv, trodAll_append (hargs _ (fun _ _ => rfl)) (hres _ _ _), hvars _ (fun _ _ => rfl), rfl, ?_, ?_⟩, ?_⟩
    · intro b off hp
      have hin : MemPlace.cell b off ∈ before := by rw [hps]; simpa using hp
      rw [hb.frozen (hlt _ hin)]
      exact hz b off hin
    · intro ha
      have := hn ha
      rw [hps] at this
      simpa using this
    · intro p hp _
      rw [hps]
      simpa using hp
end
section
variable {H : Type} {enc : TypeId × Value → H} {P : Program} {w : World} {base : Nat} {sp : Nat → Bool} {held : Bool}
theorem wrap_string {r : Reach} {b0 : Nat} {t : TypeId} {v : Value} {d : DataW H} {ps : List MemPlace} (ht : P.underlying t = some .string) (hval : Value.okWide P w r b0 t v) (hd : DataW.Trod enc P w base sp held t v d ps) :
    ∃ s : ByteArray, v = .string s ∧ s.size ≤ maxLen := by
  obtain ⟨s, h, _, _, hs⟩ := open_string ht hval hd
  exact ⟨s, h, hs⟩
theorem wrap_int {r : Reach} {b0 : Nat} {t : TypeId} {k : IntKind} {v : Value} {d : DataW H} {ps : List MemPlace} (ht : P.underlying t = some (.int k)) (hval : Value.okWide P w r b0 t v) (hd : DataW.Trod enc P w base sp held t v d ps) :
    ∃ n, v = .int k n ∧ (Lit.int k n).wf = true := by
  obtain ⟨n, h, _, _, hw⟩ := open_int ht hval hd
  exact ⟨n, h, hw⟩
theorem wrap_bool {r : Reach} {b0 : Nat} {t : TypeId} {v : Value} {d : DataW H} {ps : List MemPlace} (ht : P.underlying t = some .bool) (hval : Value.okWide P w r b0 t v) (hd : DataW.Trod enc P w base sp held t v d ps) :
    ∃ b : Bool, v = .bool b := by
  obtain ⟨b, h, _, _⟩ := open_bool ht hval hd
  exact ⟨b, h⟩
end
theorem own : ownKnob Tryz.prog.godebug = none := by kernel_rfl
theorem laidOut : laidOutB Tryz.prog = true := by kernel_rfl
theorem acc_eq : (Rows.laid_unicode_utf8_acceptRanges : DataW Unit) = Lib.acceptData := by kernel_rfl
theorem first_eq : Rows.laid_unicode_utf8_first = Lib.firstData := Go.Pinned.utf8First_eq
theorem gSigns : Tryz.prog.globalNamed "tabular/areas.signs" = some 0 := by kernel_rfl
theorem gSignsType : (Tryz.prog.globals[0]?).map (·.type) = some 30 := by kernel_rfl
theorem cellsStr : Tryz.prog.cellsOf 9 = 1 := by kernel_rfl
theorem u8types : U8Types Tryz.prog Tryz.lays197_ren := { Tryz.lays197 with }
theorem u8extra : U8Extra Tryz.prog Tryz.lays197_ren := ⟨by kernel_rfl, by kernel_rfl, by kernel_rfl, by kernel_rfl, by kernel_rfl, by kernel_rfl, by kernel_rfl⟩
theorem signs_of {W : World} (h : Lib.VarReads Tryz.prog W "tabular/areas.signs" Rows.laid_tabular_areas_signs) :
    (∃ b o c, W.cell? ⟨0, 0, none⟩ = some (.slice (some ⟨b, o, none⟩) 6 c) ∧ b < W.heap.size ∧ ∀ i, i < 6 → W.cell? ⟨b, o + i, none⟩ = some (.string (UK.str (signL i)))) := by
  obtain ⟨g, t, cs, fuel, p, hg, hty, hvar, hd⟩ := h
  obtain rfl := Option.some.inj (gSigns.symm.trans hg)
  obtain rfl := Option.some.inj (gSignsType.symm.trans hty)
  rcases Go.Deep.open_slice1 Tryz.underlying30 cellsStr hd with ⟨_, hx⟩ | ⟨a, len, cap, m, n, V, D, Pl, hcs, hb, hl, hm, hmm, hx, hi⟩
  · cases (congrArg Prod.fst hx)
  · have hD : ([.lit (.string [60, 62]), .lit (.string [60, 61]), .lit (.string [62, 61]), .lit (.string [61]), .lit (.string [60]), .lit (.string [62])] : List (DataW Unit)) = (List.range len).map D := by
      have := congrArg Prod.fst hx
      simp only [Rows.laid_tabular_areas_signs, DataW.slice.injEq] at this
      exact this.1
    have hlen : len = 6 := by
      have := congrArg List.length hD
      simpa using this.symm
    subst hlen
    have hlm : 6 ≤ m := by rw [hmm]; split <;> omega
    have hs : ∀ i, i < 6 → W.cell? (a.add i) = some (.string (UK.str (signL i))) := fun i hi6 => by
      obtain ⟨h1, h2⟩ := hi i (by omega)
      obtain ⟨s, e1, e2, _⟩ := DataW.trod_string Tryz.underlying9 h2
      have e3 : D i = .lit (.string s.data.toList) := congrArg Prod.fst e2
      have e4 : V i = .string s := by simpa using e1
      have e5 : D i = .lit (.string (signL i)) := by
        have := congrArg (·[i]?) hD
        simp only [List.getElem?_map, List.getElem?_range hi6, Option.map_some] at this
        rcases (show i = 0 ∨ i = 1 ∨ i = 2 ∨ i = 3 ∨ i = 4 ∨ i = 5 by omega) with rfl | rfl | rfl | rfl | rfl | rfl <;> exact (Option.some.inj this).symm
      rw [e3] at e5
      simp only [DataW.lit.injEq, Lit.string.injEq] at e5
      rw [h1, e4, UK.str_self s, e5]
    have hv := World.var?_cell hg hvar 0
    have hc0 : cs[0]? = some (.slice (some a) 6 cap) := by
      rw [← Array.getElem?_toList, hcs]; rfl
    have hsp : a.spot = none := by
      have h0 := hs 0 (by omega)
      have e : a.add 0 = a := by simp [Addr.add]
      rw [e] at h0
      obtain ⟨b, o, sp⟩ := a
      exact Go.Proofs.cell_spot h0
    obtain ⟨b, o, sp⟩ := a
    simp only at hsp
    subst hsp
    simp only [UK.add_mk0] at hs
    exact ⟨b, o, cap, hv.trans hc0, block_lt_of_cell (hs 0 (by omega)), hs⟩
theorem envS_of_laid {W : World} (h : laidMet Tryz.prog [("unicode/utf8.acceptRanges", Rows.laid_unicode_utf8_acceptRanges), ("tabular/areas.signs", Rows.laid_tabular_areas_signs), ("unicode/utf8.first", Rows.laid_unicode_utf8_first)] W) : EnvS W := by
  have h1 := Lib.laidMet.reads h (n := "unicode/utf8.acceptRanges") (d := Rows.laid_unicode_utf8_acceptRanges) (by simp)
  have h2 := Lib.laidMet.reads h (n := "tabular/areas.signs") (d := Rows.laid_tabular_areas_signs) (by simp)
  have h3 := Lib.laidMet.reads h (n := "unicode/utf8.first") (d := Rows.laid_unicode_utf8_first) (by simp)
  rw [acc_eq] at h1
  rw [first_eq] at h3
  have ht : Lib.Utf8Tabs 1 2 W := utf8Tabs_of_readsT u8types u8extra h3 h1
  obtain ⟨b, o, c, s1, s2, s3⟩ := signs_of h2
  exact ⟨⟨ht, block_lt_of_cell (ht.1 0 (by omega)), block_lt_of_cell (ht.2 0 (by omega)).1⟩, ⟨b, o, c, s1, s2, s3⟩, block_lt_of_cell s1⟩
end Go.Proofs.YteelmbpmmobpjaaGreatDoor
