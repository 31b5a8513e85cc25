/-
  The tree: put of a key that a leaf has: the walk.
  The tree: an inner node whose keys and kids have been laid anew.
  The tree: put at an inner node whose keys and kids have been laid anew: what is left to be done.
-/
import Derived.Test.YtfljlcfmdcepnaaGreatDoorJTrK
import Derived.Test.YtfljlcfmdcepnaaGreatDoorJTsS
namespace Go.Proofs.YtfljlcfmdcepnaaGreatDoor
open Go.RowKit
open UK (str BytesAt nth Only Row Box)
section
variable {E : Nat → Prop} {W W' : World} {P D T k pg : Nat} {A : AP}
theorem Stands.found {l : List UInt64} {key : UInt64} {i : Nat} (h : Stands l key i) (hs : Sorted l) (hm : key ∈ l) : l[i]? = some key := by
  rcases Nat.lt_or_ge i l.length with hi | hi
  · have hx := List.getElem?_eq_getElem hi
    have := (h.mem hs hx).1 hm
    rw [hx, UInt64.toNat_inj.1 this]
  · have : i = l.length := Nat.le_antisymm h.le hi
    subst this
    exact absurd hm h.none
theorem u64s_set (l : List UInt64) (i : Nat) (v : UInt64) : (u64s l).set i (.int .u64 (v.toNat : Int)) = u64s (l.set i v) := by unfold u64s; rw [List.map_set]
set_option maxHeartbeats 4000000 in
set_option maxRecDepth 100000 in
theorem put_found {rt : Nat} {ks vs : List UInt64} (h : TreeAt E W P D T rt A k) (hk : k + 8 < 900000000) (hp : A.Has pg) (hy : ndAt A pg = some ⟨true, ks, vs, []⟩) (hs : Sorted ks) (hlv : vs.length = ks.length) (hl : ks.length ≤ 30) (key v : UInt64) (hm : key ∈ ks) (deep : Nat) (hd : deep ≤ 20) :
    Calls Tryz.prog 75 #[.pointer (some ⟨T, 0, none⟩), .int .i64 pg, .int .u64 key.toNat, .int .u64 v.toNat, .int .i64 deep] W fun e w' => PutR E W w' P D T rt A (k + 8) pg 0 key v e := by
  have HL := Lib.hid (load_any h.pz (by omega) h.box hp hy)
  have HH := Lib.hid (And.intro h (And.intro hp (And.intro hy hlv)))
  clear h hp hy hlv
  go_enter Tryz.func75, Tryz.ntmps75
  go_wp2_with fail
  refine HL.out.mono ?_
  rintro e w1 ⟨N, M, nb, ka, va, aa, kc, vc, ac, rfl, hN, hM, ⟨hn1, hnM, hgM⟩, p1, k1⟩
  obtain ⟨h, hp, hy, hlv⟩ := HH.out
  have b0 : w1.cell? ⟨nb, 0, none⟩ = some (.bool true) := hn1.box.cell 0 _ rfl
  have b1 : w1.cell? ⟨nb, 1, none⟩ = some (.slice ka ks.length kc) := hn1.box.cell 1 _ rfl
  have b2 : w1.cell? ⟨nb, 2, none⟩ = some (.slice va vs.length vc) := hn1.box.cell 2 _ rfl
  have hS := search_any (hn1.k.win (S := fun _ => True) (fun _ _ => trivial)) hs (show ks.length ≤ 1000 by omega) key
  rw [u64s_length, decide_eq_true hm] at hS
  have HS := Lib.hid hS
  have H1 := Lib.hid (And.intro hN (And.intro hM (And.intro hn1 (And.intro hnM (And.intro hgM (And.intro p1 k1))))))
  clear HL hn1 hnM hgM p1 k1 hS hN hM hlv h hp hy
  go_wp2_with fail
  refine HS.out.mono ?_
  rintro e w2 ⟨i, rfl, hst, rfl⟩
  obtain ⟨hN, hM, hn1, hnM, hgM, p1, k1⟩ := H1.out
  obtain ⟨h, hp, hy, hlv⟩ := HH.out
  have hf := hst.found hs hm
  have hi : i < vs.length := by rw [hlv]; exact (List.getElem?_eq_some_iff.1 hf).1
  obtain ⟨gv, rfl, rv⟩ : ∃ gv, va = some ⟨gv, 0, none⟩ ∧ Row w2 gv vc (u64s vs) := by
    rcases hn1.v with ⟨_, h2, _⟩ | ⟨g, h1, h2⟩
    · have := congrArg List.length h2
      rw [u64s_length] at this
      exact absurd this (by show vs.length ≠ 0; omega)
    · exact ⟨g, h1, h2⟩
  have hiu : i < (u64s vs).length := by rw [u64s_length]; exact hi
  have hc : w2.cell? ⟨gv, i, none⟩ = some ((u64s vs)[i]) := rv.at' i _ (List.getElem?_eq_getElem hiu)
  have hfz : w2.frozen? ⟨gv, i, none⟩ = false := rv.free i (Nat.lt_of_lt_of_le hiu rv.le)
  have hii : (i : Int) < (vs.length : Int) := Int.ofNat_lt.2 hi
  have hgvn := hn1.new gv (.inr (.inl rfl))
  have hgvM := hgM gv (.inr (.inl rfl))
  have hNn := hn1.ge
  have o3 : Only gv w2 (w2.setCell ⟨gv, i, none⟩ (.int .u64 (v.toNat : Int))) := (Only.refl gv w2).set i _
  have r3 := rv.set i (.int .u64 (v.toNat : Int)) hiu
  rw [u64s_set] at r3
  have p3 : PZ (fun j => E j ∨ N ≤ j ∧ j < M) (w2.setCell ⟨gv, i, none⟩ (.int .u64 (v.toNat : Int))) P D A (k + 2) := p1.over (R := fun j => j = gv) (T := fun j => E j ∨ N ≤ j ∧ j < M) (fun j hj => by rw [hj]; exact .inr ⟨hgvn.1, hgvM⟩) (fun he => Nat.lt_irrefl gv (Nat.lt_of_lt_of_le (Nat.lt_of_lt_of_le (he ▸ h.pz.tab.lt) hN) hgvn.1)) o3.size (fun j hj hr => o3.block j hj hr) (fun j hj => .inl hj)
  have hEn : ∀ j, E j → j < N := fun j hj => Nat.lt_of_lt_of_le (h.pz.there j hj) hN
  have kE : Kept E w2 (w2.setCell ⟨gv, i, none⟩ (.int .u64 (v.toNat : Int))) := ⟨o3.os, o3.tape, o3.output, o3.size, fun j hj => o3.block j (Nat.lt_of_lt_of_le (h.pz.there j hj) k1.size) (fun he => Nat.lt_irrefl gv (Nat.lt_of_lt_of_le (he ▸ hEn j hj) hgvn.1))⟩
  have bT := (h.box.of_block (k1.block T h.mem)).of_block (kE.block T h.mem)
  have hr : NodeR (fun j => E j ∨ N ≤ j ∧ j < M) (w2.setCell ⟨gv, i, none⟩ (.int .u64 (v.toNat : Int))) nb ⟨true, ks, vs.set i v, []⟩ := by
    refine ⟨.slice ka ks.length kc, .slice (some ⟨gv, 0, none⟩) vs.length vc, .slice aa 0 ac, hn1.box.only o3 hgvn.2.symm, .inr ⟨hn1.ge, hnM⟩, ?_, ?_, ?_⟩
    · have := (hn1.k.only o3 (fun e => hn1.kv gv e rfl)).win (S := fun j => E j ∨ N ≤ j ∧ j < M) (fun g hg => .inr ⟨(hn1.new g (.inl hg)).1, hgM g (.inl hg)⟩)
      rw [u64s_length] at this; exact this
    · have := winRow (S := fun j => E j ∨ N ≤ j ∧ j < M) r3 (.inr ⟨hgvn.1, hgvM⟩)
      rw [u64s_length, List.length_set] at this; exact this
    · have := (hn1.a.only o3 (fun e => hn1.va gv rfl e)).win (S := fun j => E j ∨ N ≤ j ∧ j < M) (fun g hg => .inr ⟨(hn1.new g (.inr (.inr hg))).1, hgM g (.inr (.inr hg))⟩)
      exact this
  have hfit : Fits ⟨true, ks, vs.set i v, []⟩ := ⟨fun _ => ⟨hl, by simpa using hlv, rfl⟩, fun h => by cases h⟩
  have HS2 := Lib.hid (store_any p3 (by omega) bT hp hr hfit)
  have HB := Lib.hid (fun (w' : World) (p4 : PZ (fun j => E j ∨ N ≤ j ∧ j < M) w' P D (A.wrote pg (encN (A.c pg) ⟨true, ks, vs.set i v, []⟩)) (k + 2 + 3)) (k4 : Kept (fun j => E j ∨ N ≤ j ∧ j < M) (w2.setCell ⟨gv, i, none⟩ (.int .u64 (v.toNat : Int))) w') => (show PutR E W w' P D T rt A (k + 8) pg 0 key v (.returned (.tuple #[.int .i64 0, .int .u64 0, .int .i64 0])) from
    ⟨_, 0, 0, 0, k + 2 + 3, rfl, .found hy hf, ⟨p4.less (fun _ hj => .inl hj), bT.of_block (k4.block T (.inl h.mem)), h.mem⟩, by omega, (k1.trans kE).trans (k4.mono (fun _ hj => .inl hj))⟩))
  clear H1 HS HH hN hM hn1 hnM hgM p1 k1 h hp hy hlv hst hf rv o3 r3 p3 hEn kE bT hr hfit hgvn hgvM hNn hs hm hl
  go_wp2_with fail
  refine HS2.out.mono ?_
  rintro e w6 ⟨rfl, p4, k4⟩
  have HG := Lib.hid (HB.out _ p4 k4)
  clear p4 k4
  go_wp2
  go_ret3
  exact HG.out
end
end Go.Proofs.YtfljlcfmdcepnaaGreatDoor
namespace Go.Proofs.YtfljlcfmdcepnaaGreatDoor
open Go.RowKit
open UK (str BytesAt nth Only Row Box)
section
variable {E : Nat → Prop} {W W' : World} {P D T k k0 pg N M nb kc vc ac : Nat} {A : AP} {x : Nd} {ka va aa : Option Addr}
theorem Mid1.doneI {l : List UInt64} {m : List Nat} {g c g2 c2 : Nat} {wb w : World} (h : Mid1 N W wb nb x ka va aa kc vc ac l g c) (hv0 : NodeO N W nb x ka va aa kc vc ac) (r : Row w g2 c2 (ints m)) (o : Only g2 wb w) (hg : slB aa g2 ∨ wb.heap.size ≤ g2) :
    NodeO N ((w.setCell ⟨nb, 1, none⟩ (.slice (some ⟨g, 0, none⟩) l.length c)).setCell ⟨nb, 3, none⟩ (.slice (some ⟨g2, 0, none⟩) m.length c2)) nb { x with keys := l, kids := m } (some ⟨g, 0, none⟩) va (some ⟨g2, 0, none⟩) c vc c2 ∧
    Kept (fun j => j < W.heap.size ∧ ¬ (slB ka j ∨ slB va j ∨ slB aa j ∨ j = nb)) W ((w.setCell ⟨nb, 1, none⟩ (.slice (some ⟨g, 0, none⟩) l.length c)).setCell ⟨nb, 3, none⟩ (.slice (some ⟨g2, 0, none⟩) m.length c2)) ∧
    Box w nb #[.bool x.leaf, .slice ka x.keys.length kc, .slice va x.vals.length vc, .slice aa x.kids.length ac] ∧ g2 ≠ nb := by
  have hgl := h.row.lt
  have hnl := h.box.lt
  have hks := h.kept.size
  have hWn := hv0.box.lt
  have hNg := hv0.ge
  have hne : N ≤ g2 ∧ g2 ≠ nb := by
    rcases hg with h1 | h1
    · exact hv0.new g2 (.inr (.inr h1))
    · exact ⟨by omega, by omega⟩
  have g12 : g2 ≠ g := by
    rcases hg with h1 | h1
    · exact fun e => h.ga (e ▸ h1)
    · omega
  have ga : ¬ slB va g2 := by
    rcases hg with h1 | h1
    · exact fun e => hv0.va g2 e h1
    · exact fun e => by have := h.v.lt e; omega
  have r1 := h.row.only o g12.symm
  have a1 := h.v.only o ga
  have b1 := h.box.only o hne.2.symm
  have o2 : Only nb w ((w.setCell ⟨nb, 1, none⟩ (.slice (some ⟨g, 0, none⟩) l.length c)).setCell ⟨nb, 3, none⟩ (.slice (some ⟨g2, 0, none⟩) m.length c2)) := ((Only.refl nb w).set 1 _).set 3 _
  have b2 := (b1.set 1 (.slice (some ⟨g, 0, none⟩) l.length c)).set 3 (.slice (some ⟨g2, 0, none⟩) m.length c2)
  generalize (w.setCell ⟨nb, 1, none⟩ (.slice (some ⟨g, 0, none⟩) l.length c)).setCell ⟨nb, 3, none⟩ (.slice (some ⟨g2, 0, none⟩) m.length c2) = w3 at o2 b2 ⊢
  refine ⟨⟨by simpa using b2, .inr ⟨g, rfl, r1.only o2 h.ne⟩, a1.only o2 (fun e => (hv0.new nb (.inr (.inl e))).2 rfl), .inr ⟨g2, rfl, r.only o2 hne.2⟩, hv0.ge, fun j hj => ?_, fun _ hj e => ?_, fun _ hj e => ?_, fun _ hj e => ?_⟩, ⟨(o2.os.trans o.os).trans h.kept.os, (o2.tape.trans o.tape).trans h.kept.tape, (o2.output.trans o.output).trans h.kept.output, Nat.le_trans (Nat.le_trans hks o.size) o2.size, fun j hj => ?_⟩, b1, hne.2⟩
  · rcases hj with hj | hj | hj
    · rw [slB_inj hj]; exact ⟨h.ge, h.ne⟩
    · exact hv0.new j (.inr (.inl hj))
    · rw [slB_inj hj]; exact hne
  · rw [slB_inj hj] at e; exact h.gv e
  · have e1 := slB_inj hj
    have e2 := slB_inj e
    exact g12 (by omega)
  · rw [slB_inj e] at hj; exact ga hj
  · have hjb : j < wb.heap.size := Nat.lt_of_lt_of_le hj.1 hks
    refine ((o2.block j (Nat.lt_of_lt_of_le hjb o.size) (fun e => hj.2 (.inr (.inr (.inr e))))).trans (o.block j hjb (fun e => ?_))).trans (h.kept.block j ⟨hj.1, fun hr => hj.2 (by
      rcases hr with hr | hr | hr
      · exact .inl hr
      · exact .inr (.inl hr)
      · exact .inr (.inr (.inr hr)))⟩)
    subst e
    rcases hg with h1 | h1
    · exact hj.2 (.inr (.inr (.inl h1)))
    · omega
def PutI (N : Nat) (W w : World) (nb : Nat) (ka va aa : Option Addr) (l : List UInt64) (m : List Nat) : Prop :=
  ∃ ka' aa' c vc' c2, NodeO N w nb { leaf := false, keys := l, vals := [], kids := m } ka' va aa' c vc' c2 ∧ Kept (fun j => j < W.heap.size ∧ ¬ (slB ka j ∨ slB va j ∨ slB aa j ∨ j = nb)) W w ∧ (∀ j, slB ka' j → slB ka j ∨ W.heap.size ≤ j) ∧ (∀ j, slB aa' j → slB aa j ∨ W.heap.size ≤ j)
theorem putI_of {wb w : World} {ks l : List UInt64} {cs m : List Nat} {g c g2 c2 a b : Nat} (h : NodeO N W nb { leaf := false, keys := ks, vals := [], kids := cs } ka va aa kc vc ac)
    (m1 : Mid1 N W wb nb { leaf := false, keys := ks, vals := [], kids := cs } ka va aa kc vc ac l g c) (r : Row w g2 c2 (ints m)) (o : Only g2 wb w) (hg : slB aa g2 ∨ wb.heap.size ≤ g2) (e1 : l.length = a) (e2 : m.length = b) :
    PutI N W ((w.setCell ⟨nb, 1, none⟩ (.slice (some ⟨g, 0, none⟩) a c)).setCell ⟨nb, 3, none⟩ (.slice (some ⟨g2, 0, none⟩) b c2)) nb ka va aa l m := by
  obtain ⟨d1, d2, _, _⟩ := m1.doneI h r o hg
  rw [e1, e2] at d1 d2
  refine ⟨_, _, _, _, _, d1, d2, fun j hj => ?_, fun j hj => ?_⟩
  · rw [slB_inj hj]; exact m1.own
  · rw [slB_inj hj]
    rcases hg with h1 | h1
    · exact .inl h1
    · exact .inr (Nat.le_trans m1.kept.size h1)
theorem putI_next {w2 wc : World} {rt : Nat} {ks l : List UInt64} {cs m : List Nat} {A0 : AP} (h : TreeAt E W P D T rt A0 k0) (hN : W.heap.size ≤ N) (hn1 : NodeO N w2 nb { leaf := false, keys := ks, vals := [], kids := cs } ka va aa kc vc ac) (hnM : nb < M) (hgM : ∀ g, slB ka g ∨ slB va g ∨ slB aa g → g < M)
    (p1 : PZ (fun j => E j ∨ N ≤ j ∧ j < M) w2 P D A k) (k1 : Kept E W w2) (hp : PutI N w2 wc nb ka va aa l m) :
    PZ (fun j => E j ∨ (N ≤ j ∧ j < M) ∨ (w2.heap.size ≤ j ∧ j < wc.heap.size)) wc P D A k ∧ NodeR (fun j => E j ∨ (N ≤ j ∧ j < M) ∨ (w2.heap.size ≤ j ∧ j < wc.heap.size)) wc nb { leaf := false, keys := l, vals := [], kids := m } ∧ Box wc T #[.pointer (some ⟨P, 0, none⟩), .int .i64 rt] ∧ Kept E W wc := by
  obtain ⟨ka', aa', c, vc', c2, hn2, k2, hoa, hob⟩ := hp
  have hR : ∀ j, slB ka j ∨ slB va j ∨ slB aa j ∨ j = nb → N ≤ j ∧ j < M := fun j hj => by
    rcases hj with hj | hj | hj | rfl
    · exact ⟨(hn1.new j (.inl hj)).1, hgM j (.inl hj)⟩
    · exact ⟨(hn1.new j (.inr (.inl hj))).1, hgM j (.inr (.inl hj))⟩
    · exact ⟨(hn1.new j (.inr (.inr hj))).1, hgM j (.inr (.inr hj))⟩
    · exact ⟨hn1.ge, hnM⟩
  have hE := h.pz.there
  have kE : Kept E w2 wc := k2.mono (fun j hj => ⟨Nat.lt_of_lt_of_le (hE j hj) k1.size, fun hr => by have := (hR j hr).1; have := hE j hj; omega⟩)
  refine ⟨p1.over (R := fun j => slB ka j ∨ slB va j ∨ slB aa j ∨ j = nb) (fun j hj => .inr (hR j hj)) (fun hr => by have := (hR _ hr).1; have := h.pz.tab.lt; omega) k2.size (fun j hj hr => k2.block j ⟨hj, hr⟩) (fun j hj => ?_), hn2.reads (.inr (.inl ⟨hn1.ge, hnM⟩)) (fun g hg => ?_), (h.box.of_block (k1.block T h.mem)).of_block (kE.block T h.mem), k1.trans kE⟩
  · rcases hj with hj | hj | hj
    · exact .inl (.inl hj)
    · exact .inl (.inr hj)
    · exact .inr hj
  · rcases hg with hg | hg | hg
    · rcases hoa g hg with h1 | h1
      · exact .inr (.inl (hR g (.inl h1)))
      · exact .inr (.inr ⟨h1, slB_lt hn2.k hg⟩)
    · exact .inr (.inl (hR g (.inr (.inl hg))))
    · rcases hob g hg with h1 | h1
      · exact .inr (.inl (hR g (.inr (.inr (.inl h1)))))
      · exact .inr (.inr ⟨h1, slB_lt hn2.a hg⟩)
end
end Go.Proofs.YtfljlcfmdcepnaaGreatDoor
namespace Go.Proofs.YtfljlcfmdcepnaaGreatDoor
open Go.RowKit
open UK (str BytesAt nth Only Row Box)
section
variable {E : Nat → Prop} {W W' : World} {P D T k pg : Nat} {A : AP}
theorem NodeO.move {N M nb kc vc ac : Nat} {x : Nd} {ka va aa : Option Addr} (h : NodeO N W nb x ka va aa kc vc ac) (hM : nb < M) (hg : ∀ g, slB ka g ∨ slB va g ∨ slB aa g → g < M) (hs : W.heap.size ≤ W'.heap.size) (hb : ∀ g, N ≤ g → g < M → W'.heap[g]? = W.heap[g]?) : NodeO N W' nb x ka va aa kc vc ac :=
  ⟨h.box.of_block (hb nb h.ge hM), h.k.of_block hs (fun g h1 => hb g (h.new g (.inl h1)).1 (hg g (.inl h1))), h.v.of_block hs (fun g h1 => hb g (h.new g (.inr (.inl h1))).1 (hg g (.inr (.inl h1)))), h.a.of_block hs (fun g h1 => hb g (h.new g (.inr (.inr h1))).1 (hg g (.inr (.inr h1)))), h.ge, h.new, h.kv, h.ka, h.va⟩
theorem KidIx.notLt {keys : List UInt64} {q : UInt64} {i j : Nat} (h : KidIx keys q i) (g : KidIx keys q j) : ¬ i < j := fun hij => by
  have hl : i < keys.length := Nat.lt_of_lt_of_le hij g.le
  have m1 : keys[i] ∈ keys.drop i := List.mem_iff_getElem?.2 ⟨0, by rw [List.getElem?_drop]; exact List.getElem?_eq_getElem hl⟩
  have m2 : keys[i] ∈ keys.take j := List.mem_iff_getElem?.2 ⟨i, by rw [List.getElem?_take_of_lt hij]; exact List.getElem?_eq_getElem hl⟩
  have a1 := h.above _ m1
  have a2 := g.below _ m2
  omega
theorem KidIx.inj {keys : List UInt64} {q : UInt64} {i j : Nat} (h : KidIx keys q i) (g : KidIx keys q j) : i = j := by
  have := h.notLt g
  have := g.notLt h
  omega
theorem put_rest {w3 wc : World} {rt d K0 i c N M nb kc vc ac more kk : Nat} {B : AP} {keys : List UInt64} {kids : List Nat} {ka va aa : Option Addr} {key v κ : UInt64} (h : TreeAt E W P D T rt A k) (hk : k + K0 + 8 < 900000000) (hy : ndAt A pg = some ⟨false, keys, [], kids⟩) (hki : KidIx keys key i) (hc : kids[i]? = some c)
    (hps : PutS key v d A c B more κ 0) (hm : more ≠ 0) (hpB : B.Has pg) (ok : NdOk ⟨false, keys.take i ++ κ :: keys.drop i, [], kids.take (i + 1) ++ more :: kids.drop (i + 1)⟩)
    (hN : W.heap.size ≤ N) (hn1 : NodeO N w3 nb ⟨false, keys, [], kids⟩ ka va aa kc vc ac) (hnM : nb < M) (hgM : ∀ g, slB ka g ∨ slB va g ∨ slB aa g → g < M) (p1 : PZ (fun j => E j ∨ N ≤ j ∧ j < M) w3 P D B kk) (hkk : kk ≤ k + 2 + K0) (k1 : Kept E W w3)
    (hcut : PutI N w3 wc nb ka va aa (keys.take i ++ κ :: keys.drop i) (kids.take (i + 1) ++ more :: kids.drop (i + 1))) :
    Calls Tryz.prog 111 #[.pointer (some ⟨nb, 0, none⟩)] wc (fun e w' => e = .returned (.bool (fullN ⟨false, keys.take i ++ κ :: keys.drop i, [], kids.take (i + 1) ++ more :: kids.drop (i + 1)⟩)) ∧ w' = wc) ∧
    (fullN ⟨false, keys.take i ++ κ :: keys.drop i, [], kids.take (i + 1) ++ more :: kids.drop (i + 1)⟩ = true → Calls Tryz.prog 112 #[.pointer (some ⟨nb, 0, none⟩)] wc fun e w5 => ∃ (mb : Nat) (κ2 : UInt64), e = .returned (.tuple #[.pointer (some ⟨mb, 0, none⟩), .int .u64 (κ2.toNat : Int)]) ∧
      Calls Tryz.prog 78 #[.pointer (some ⟨T, 0, none⟩), .int .i64 pg, .pointer (some ⟨nb, 0, none⟩)] w5 fun e w6 => e = .returned (.int .i64 0) ∧
        Calls Tryz.prog 77 #[.pointer (some ⟨T, 0, none⟩), .pointer (some ⟨mb, 0, none⟩)] w6 fun e w7 => ∃ (more2 : Nat) (er : Int), e = .returned (.tuple #[.int .i64 more2, .int .i64 er]) ∧ PutR E W w7 P D T rt A (k + K0 + 8) pg (d + 1) key v (.returned (.tuple #[.int .i64 more2, .int .u64 (κ2.toNat : Int), .int .i64 er]))) ∧
    (fullN ⟨false, keys.take i ++ κ :: keys.drop i, [], kids.take (i + 1) ++ more :: kids.drop (i + 1)⟩ = false → Calls Tryz.prog 78 #[.pointer (some ⟨T, 0, none⟩), .int .i64 pg, .pointer (some ⟨nb, 0, none⟩)] wc fun e w6 => e = .returned (.int .i64 0) ∧ PutR E W w6 P D T rt A (k + K0 + 8) pg (d + 1) key v (.returned (.tuple #[.int .i64 0, .int .u64 0, .int .i64 0]))) := by
  obtain ⟨p2, hr, hbx, k2⟩ := putI_next h hN hn1 hnM hgM p1 k1 hcut
  obtain ⟨ka', aa', cc, vc', c2, hn2, k2x, hoa, hob⟩ := hcut
  have hnE : ∀ j, (fun j => E j ∨ (N ≤ j ∧ j < M) ∨ (w3.heap.size ≤ j ∧ j < wc.heap.size)) j → j < wc.heap.size := p2.there
  have hEn : ∀ j, E j → j < N := fun j hj => Nat.lt_of_lt_of_le (h.pz.there j hj) hN
  have hTn : T ≠ nb := fun e => Nat.lt_irrefl nb (Nat.lt_of_lt_of_le (e ▸ hEn T h.mem) hn1.ge)
  have htab : nb ≠ 0 := fun e => Nat.lt_irrefl nb (Nat.lt_of_lt_of_le (Nat.lt_of_lt_of_le (e ▸ h.pz.tab.lt) hN) hn1.ge)
  obtain ⟨hw1, hw2⟩ := hn2.wins
  have hSE : ∀ g, (slB ka' g ∨ slB va g ∨ slB aa' g) → (fun j => E j ∨ (N ≤ j ∧ j < M) ∨ (w3.heap.size ≤ j ∧ j < wc.heap.size)) g := fun g hg => by
    rcases hg with hg | hg | hg
    · rcases hoa g hg with h1 | h1
      · exact .inr (.inl ⟨(hn1.new g (.inl h1)).1, hgM g (.inl h1)⟩)
      · exact .inr (.inr ⟨h1, hn2.k.lt hg⟩)
    · exact .inr (.inl ⟨(hn1.new g (.inr (.inl hg))).1, hgM g (.inr (.inl hg))⟩)
    · rcases hob g hg with h1 | h1
      · exact .inr (.inl ⟨(hn1.new g (.inr (.inr h1))).1, hgM g (.inr (.inr h1))⟩)
      · exact .inr (.inr ⟨h1, hn2.a.lt hg⟩)
  have hkE : ∀ j, E j → (E j ∨ (N ≤ j ∧ j < M) ∨ (w3.heap.size ≤ j ∧ j < wc.heap.size)) ∧ j ≠ nb := fun j hj => ⟨.inl hj, fun e => Nat.lt_irrefl nb (Nat.lt_of_lt_of_le (e ▸ hEn j hj) hn1.ge)⟩
  refine ⟨full_any hr, fun hf => ?_, fun hf => ?_⟩
  · refine (settle_split (E := fun j => E j ∨ (N ≤ j ∧ j < M) ∨ (w3.heap.size ≤ j ∧ j < wc.heap.size)) p2 (by omega) hbx (.inl h.mem) hTn hpB hw1 hSE (fun g hg => (hw2 g hg).2) hnE (.inr (.inl ⟨hn1.ge, hnM⟩)) htab ok hf).mono ?_
    rintro e w5 ⟨mb, rfl, h5⟩
    refine ⟨mb, _, rfl, h5.mono ?_⟩
    rintro e w6 ⟨rfl, h6⟩
    refine ⟨rfl, h6.mono ?_⟩
    rintro e w7 ⟨C, more2, er, rfl, st, p3, k3⟩
    exact ⟨more2, er, rfl, C, more2, _, er, kk + 6, rfl, .up hy hki hc hps hm st, ⟨p3.less (fun _ hj => .inl hj), hbx.of_block (k3.block T (hkE T h.mem)), h.mem⟩, by omega, k2.trans (k3.mono hkE)⟩
  · refine (store_any p2 (by omega) hbx hpB hr (ok.fits hf)).mono ?_
    rintro e w6 ⟨rfl, p3, k3⟩
    exact ⟨rfl, _, 0, 0, 0, kk + 3, rfl, .up hy hki hc hps hm (.one hf), ⟨p3.less (fun _ hj => .inl hj), hbx.of_block (k3.block T (.inl h.mem)), h.mem⟩, by omega, k2.trans (k3.mono (fun _ hj => .inl hj))⟩
end
end Go.Proofs.YtfljlcfmdcepnaaGreatDoor
