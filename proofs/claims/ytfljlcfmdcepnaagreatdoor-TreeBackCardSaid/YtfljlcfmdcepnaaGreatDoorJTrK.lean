/-
  The tree: split of any node that is too full.
  The tree: a node that is too full goes to two pages: what the calls of it do, one behind another.
  The tree: put of a new key into a leaf: the walk.
-/
import Derived.Test.YtfljlcfmdcepnaaGreatDoorJTrH
import Derived.Test.YtfljlcfmdcepnaaGreatDoorJTrW
import Derived.Test.YtfljlcfmdcepnaaGreatDoorJTreeK
import Derived.Test.YtfljlcfmdcepnaaGreatDoorJTreeN
import Derived.OwnWalk
namespace Go.Proofs.YtfljlcfmdcepnaaGreatDoor
open Go.RowKit
open UK (str BytesAt nth Only Row Box)
section
variable {S : Nat → Prop} {W W' : World} {nb N M : Nat} {x : Nd}
theorem split_any (hn : NodeW S W nb x) (hS : ∀ g, S g → g < W.heap.size ∧ g ≠ nb) (ok : NdOk x) (hf : fullN x = true) :
    Calls Tryz.prog 112 #[.pointer (some ⟨nb, 0, none⟩)] W (SplitR S W nb x) := by
  unfold fullN at hf
  simp only [Bool.or_eq_true, decide_eq_true_eq] at hf
  obtain ⟨lf, keys, vals, kids⟩ := x
  cases lf with
  | true =>
    obtain ⟨h1, h2, h3⟩ := ok.1 rfl
    dsimp only at h1 h2 h3 hf
    subst h2
    have h31 : keys.length = 31 := by simp at hf; omega
    exact split_leaf hn hS h31 (by omega)
  | false =>
    obtain ⟨h1, h2, h3, h4, _⟩ := ok.2 rfl
    dsimp only at h1 h2 h3 h4 hf
    subst h2
    have h31 : 31 ≤ keys.length := by omega
    exact split_inner hn hS rfl rfl h1 (by omega) rfl (by omega)
theorem NodeM.wins {ka va aa : Option Addr} {kc vc ac : Nat} (h : NodeM N M W nb x ka va aa kc vc ac) : NodeW (fun g => N ≤ g ∧ g < M ∧ g ≠ nb) W nb x := by
  obtain ⟨h1, h2, h3⟩ := h
  refine ⟨_, _, _, h1.box, ?_, ?_, ?_⟩
  · have := h1.k.win (S := fun g => N ≤ g ∧ g < M ∧ g ≠ nb) (fun g hg => ⟨(h1.new g (.inl hg)).1, h3 g (.inl hg), (h1.new g (.inl hg)).2⟩)
    rw [u64s_length] at this; exact this
  · have := h1.v.win (S := fun g => N ≤ g ∧ g < M ∧ g ≠ nb) (fun g hg => ⟨(h1.new g (.inr (.inl hg))).1, h3 g (.inr (.inl hg)), (h1.new g (.inr (.inl hg))).2⟩)
    rw [u64s_length] at this; exact this
  · have := h1.a.win (S := fun g => N ≤ g ∧ g < M ∧ g ≠ nb) (fun g hg => ⟨(h1.new g (.inr (.inr hg))).1, h3 g (.inr (.inr hg)), (h1.new g (.inr (.inr hg))).2⟩)
    rw [ints_length] at this; exact this
end
end Go.Proofs.YtfljlcfmdcepnaaGreatDoor
namespace Go.Proofs.YtfljlcfmdcepnaaGreatDoor
open Go.RowKit
open UK (str BytesAt nth Only Row Box)
section
variable {E S : Nat → Prop} {W W' : World} {P D T k pg nb N M : Nat} {root : Int} {A : AP} {x : Nd}
theorem NodeO.wins {ka va aa : Option Addr} {kc vc ac : Nat} (h : NodeO N W nb x ka va aa kc vc ac) : NodeW (fun g => slB ka g ∨ slB va g ∨ slB aa g) W nb x ∧ ∀ g, (slB ka g ∨ slB va g ∨ slB aa g) → g < W.heap.size ∧ g ≠ nb := by
  refine ⟨⟨_, _, _, h.box, ?_, ?_, ?_⟩, fun g hg => ⟨?_, (h.new g hg).2⟩⟩
  · have := h.k.win (S := fun g => slB ka g ∨ slB va g ∨ slB aa g) (fun g hg => .inl hg)
    rw [u64s_length] at this; exact this
  · have := h.v.win (S := fun g => slB ka g ∨ slB va g ∨ slB aa g) (fun g hg => .inr (.inl hg))
    rw [u64s_length] at this; exact this
  · have := h.a.win (S := fun g => slB ka g ∨ slB va g ∨ slB aa g) (fun g hg => .inr (.inr hg))
    rw [ints_length] at this; exact this
  · rcases hg with hg | hg | hg
    · exact h.k.lt hg
    · exact h.v.lt hg
    · exact h.a.lt hg
theorem NodeW.reads (h : NodeW S W nb x) (hs : ∀ g, S g → E g) (hnb : E nb) : NodeR E W nb x := by
  obtain ⟨kv, vv, av, b, h1, h2, h3⟩ := h
  exact ⟨kv, vv, av, b, hnb, h1.mono hs, h2.mono hs, h3.mono hs⟩
theorem NodeR.kept_ (h : NodeR E W nb x) (hk : Kept E W W') : NodeR E W' nb x := by
  obtain ⟨kv, vv, av, b, hnb, h1, h2, h3⟩ := h
  exact ⟨kv, vv, av, b.of_block (hk.block nb hnb), hnb, h1.kept hk, h2.kept hk, h3.kept hk⟩
theorem settle_split (p : PZ E W P D A k) (hk : k + 6 < 900000000) (hb : Box W T #[.pointer (some ⟨P, 0, none⟩), .int .i64 root]) (hT : E T) (hTn : T ≠ nb) (hp : A.Has pg) (hn : NodeW S W nb x) (hSE : ∀ g, S g → E g) (hSn : ∀ g, S g → g ≠ nb) (hE : ∀ g, E g → g < W.heap.size) (hnb : E nb) (htab : nb ≠ 0) (ok : NdOk x) (hf : fullN x = true) :
    Calls Tryz.prog 112 #[.pointer (some ⟨nb, 0, none⟩)] W fun e w5 => ∃ mb, e = .returned (.tuple #[.pointer (some ⟨mb, 0, none⟩), .int .u64 ((splitN x).2.2.toNat : Int)]) ∧
      Calls Tryz.prog 78 #[.pointer (some ⟨T, 0, none⟩), .int .i64 pg, .pointer (some ⟨nb, 0, none⟩)] w5 fun e w6 => e = .returned (.int .i64 0) ∧
        Calls Tryz.prog 77 #[.pointer (some ⟨T, 0, none⟩), .pointer (some ⟨mb, 0, none⟩)] w6 fun e w7 => ∃ (B : AP) (more : Nat) (er : Int), e = .returned (.tuple #[.int .i64 more, .int .i64 er]) ∧ Settle A pg x B more (splitN x).2.2 er ∧ PZ E w7 P D B (k + 6) ∧ Kept (fun j => E j ∧ j ≠ nb) W w7 := by
  obtain ⟨f1, f2, _⟩ := ok.split hf
  refine (split_any hn (fun g hg => ⟨hE g (hSE g hg), hSn g hg⟩) ok hf).mono ?_
  rintro e w5 ⟨mb, rfl, n1, n2, hmb, hml, o⟩
  refine ⟨mb, rfl, ?_⟩
  have p5 : PZ (fun j => E j ∨ (W.heap.size ≤ j ∧ j < w5.heap.size)) w5 P D A k := p.over (R := fun j => j = nb) (T := fun j => E j ∨ (W.heap.size ≤ j ∧ j < w5.heap.size)) (fun j hj => by rw [hj]; exact hnb) (fun h => htab h.symm) o.size (fun j hj hr => o.block j hj hr) (fun j hj => hj)
  have b5 := hb.only o hTn
  have k5 : Kept (fun j => E j ∧ j ≠ nb) W w5 := ⟨o.os, o.tape, o.output, o.size, fun j hj => o.block j (hE j hj.1) hj.2⟩
  have r1 := n1.reads (E := fun j => E j ∨ (W.heap.size ≤ j ∧ j < w5.heap.size)) (fun g hg => .inl (hSE g hg)) (.inl hnb)
  have r2 := n2.reads (E := fun j => E j ∨ (W.heap.size ≤ j ∧ j < w5.heap.size)) (fun g hg => .inr ⟨hg.1, hg.2.1⟩) (.inr ⟨hmb, hml⟩)
  refine (store_any p5 (by omega) b5 hp r1 f1).mono ?_
  rintro e w6 ⟨rfl, p6, k6⟩
  refine ⟨rfl, ?_⟩
  have b6 := b5.of_block (k6.block T (.inl hT))
  have r3 := r2.kept_ k6
  have k56 := k5.trans (k6.mono (T := fun j => E j ∧ j ≠ nb) (fun j hj => .inl hj.1))
  by_cases hF : A.Full
  · refine (fresh_no p6 (by omega) b6 hF).mono ?_
    rintro e w7 ⟨rfl, p7, k7⟩
    exact ⟨_, 0, 6, rfl, .none hf hF, p7.less (fun _ hj => .inl hj), k56.trans (k7.mono (fun j hj => .inl hj.1))⟩
  · refine (fresh_any p6 (by omega) b6 hF r3 f2).mono ?_
    rintro e w7 ⟨rfl, p7, k7⟩
    exact ⟨_, A.next, 0, rfl, .two hf hF, p7.less (fun _ hj => .inl hj), k56.trans (k7.mono (fun j hj => .inl hj.1))⟩
end
end Go.Proofs.YtfljlcfmdcepnaaGreatDoor
namespace Go.Proofs.YtfljlcfmdcepnaaGreatDoor
open Go.RowKit
open UK (str BytesAt nth Only Row Box w32)
open Go.BigFrame
section
variable {E : Nat → Prop} {W W' : World} {P D T k pg N M nb kc vc ac : Nat} {root : Int} {A : AP} {x : Nd} {ka va aa : Option Addr}
def PutR (E : Nat → Prop) (W w' : World) (P D T rt : Nat) (A : AP) (K pg d : Nat) (key v : UInt64) (e : Ending) : Prop :=
  ∃ (B : AP) (more : Nat) (κ : UInt64) (er : Int) (kk : Nat), e = .returned (.tuple #[.int .i64 more, .int .u64 (κ.toNat : Int), .int .i64 er]) ∧ PutS key v d A pg B more κ er ∧ TreeAt E w' P D T rt B kk ∧ kk ≤ K ∧ Kept E W w'
theorem leafIs_of {ks vs : List UInt64} (hp : A.Has pg) (hy : ndAt A pg = some ⟨true, ks, vs, []⟩) (hs : Sorted ks) : LeafIs A pg ks vs := by
  unfold ndAt decN at hy
  split at hy
  · next h =>
    injection hy with hy
    injection hy with _ h1 h2 _
    have hl : ks.length = (nth (A.c pg) 1).toNat := by rw [← h1, keysL_length]
    exact ⟨hp, ⟨h.1, hl.symm, by omega⟩, by rw [hl]; exact h1, by rw [hl]; exact h2, hs⟩
  · split at hy
    · injection hy with hy
      injection hy with h0
      cases h0
    · cases hy
set_option linter.unusedSimpArgs false in
set_option maxHeartbeats 8000000 in
set_option maxRecDepth 100000 in
theorem put_leaf {rt : Nat} {ks vs : List UInt64} (h : TreeAt E W P D T rt A k) (hk : k + 8 < 900000000) (hp : A.Has pg) (hy : ndAt A pg = some ⟨true, ks, vs, []⟩) (hs : Sorted ks) (key v : UInt64) (hno : key ∉ ks) (deep : Nat) (hd : deep ≤ 20) :
    Calls Tryz.prog 75 #[.pointer (some ⟨T, 0, none⟩), .int .i64 pg, .int .u64 key.toNat, .int .u64 v.toNat, .int .i64 deep] W fun e w' => PutR E W w' P D T rt A (k + 8) pg 0 key v e := by
  have hl := leafIs_of hp hy hs
  have hn : ks.length ≤ 30 := hl.head.2.2
  have HY := Lib.hid hy
  clear hy
  have HL := Lib.hid (load_leaf h.pz (by omega) h.box hl.has hl.head)
  have HH := Lib.hid (And.intro h hl)
  clear h hl
  go_enter Tryz.func75, Tryz.ntmps75
  go_wp2_with fail
  refine HL.out.mono ?_
  rintro e w1 ⟨N, M, nb, ka, va, kc, vc, rfl, hN, hM, ⟨hn1, hnM, hgM⟩, p1, k1⟩
  obtain ⟨h, hl⟩ := HH.out
  rw [hl.keys, hl.vals] at hn1
  have b0 : w1.cell? ⟨nb, 0, none⟩ = some (.bool true) := hn1.box.cell 0 _ rfl
  have b1 : w1.cell? ⟨nb, 1, none⟩ = some (.slice ka ks.length kc) := hn1.box.cell 1 _ rfl
  have b2 : w1.cell? ⟨nb, 2, none⟩ = some (.slice va vs.length vc) := hn1.box.cell 2 _ rfl
  have hS := search_any (hn1.k.win (S := fun _ => True) (fun _ _ => trivial)) hl.up (show ks.length ≤ 1000 by omega) key
  rw [u64s_length] at hS
  rw [decide_eq_false hno] at hS
  have HS := Lib.hid hS
  have H1 := Lib.hid (And.intro hN (And.intro hM (And.intro hn1 (And.intro hnM (And.intro hgM (And.intro p1 k1))))))
  clear HL hn1 hnM hgM p1 k1 hS hN hM
  go_wp2_with fail
  refine HS.out.mono ?_
  rintro e w2 ⟨i, rfl, hst, rfl⟩
  obtain ⟨hN, hM, hn1, hnM, hgM, p1, k1⟩ := H1.out
  have hlv := hl.len
  have hNs : N ≤ w2.heap.size := by have := hn1.ge; omega
  have HI1 := Lib.hid (fun (wa : World) (vb : Nat) (ba : Below w2.heap.size w2 wa) (hv : Box wa vb #[.int .u64 (key.toNat : Int)]) (hvb : w2.heap.size ≤ vb) => (show Calls Tryz.prog 97 #[.slice ka ks.length kc, .int .i64 i, .slice (some ⟨vb, 0, none⟩) 1 1] wa fun e w' => ∃ g c, e = .returned (.slice (some ⟨g, 0, none⟩) (ks.length + 1) c) ∧ Mid1 N w2 w' nb { leaf := true, keys := ks, vals := vs, kids := [] } ka va none kc vc 0 (ks.take i ++ key :: ks.drop i) g c ∧ (∀ vb' cs, w2.heap.size ≤ vb' → Box wa vb' cs → Box w' vb' cs) ∧ Box w' nb #[.bool true, .slice ka ks.length kc, .slice va vs.length vc, .slice none 0 0] from
    (insert_any (hn1.next ba).k (show ks.length ≤ 1000 by omega) hst.le key hv (fun e => by have := hn1.k.lt e; omega)).mono (fun e w' ⟨g', c', he, r, o, hg⟩ =>
      ⟨g', c', by rw [he]; simp only [List.length_append, List.length_take, List.length_cons, List.length_drop]; rw [show min i ks.length + (ks.length - i + 1) = ks.length + 1 by have := hst.le; omega], hn1.mid1 hNs ba r o hg, fun vb' cs hv' hb => hb.only o (fun e => by
        rcases hg with h1 | h1
        · have := hn1.k.lt h1; omega
        · have := hb.lt; omega), (hn1.mid1 hNs ba r o hg).box⟩)))
  have HI2 := Lib.hid (fun (wb : World) (vb : Nat) (mm : ∃ g c, Mid1 N w2 wb nb { leaf := true, keys := ks, vals := vs, kids := [] } ka va none kc vc 0 (ks.take i ++ key :: ks.drop i) g c) (hv : Box wb vb #[.int .u64 (v.toNat : Int)]) (hvb : w2.heap.size ≤ vb) => (show Calls Tryz.prog 97 #[.slice va vs.length vc, .int .i64 i, .slice (some ⟨vb, 0, none⟩) 1 1] wb fun e w' => ∃ g2 c2, e = .returned (.slice (some ⟨g2, 0, none⟩) (ks.length + 1) c2) ∧ (Row w' g2 c2 (u64s (vs.take i ++ v :: vs.drop i)) ∧ Only g2 wb w' ∧ (slB va g2 ∨ wb.heap.size ≤ g2)) ∧ w'.cell? ⟨nb, 1, none⟩ = some (.slice ka ks.length kc) ∧ w'.cell? ⟨nb, 2, none⟩ = some (.slice va vs.length vc) ∧ w'.frozen? ⟨nb, 1, none⟩ = false ∧ w'.frozen? ⟨nb, 2, none⟩ = false from
    let ⟨_, _, m⟩ := mm
    (insert_any m.v (show vs.length ≤ 1000 by omega) (show i ≤ vs.length by rw [hlv]; exact hst.le) v hv (fun e => by have := hn1.v.lt e; omega)).mono (fun e w' ⟨g', c', he, r, o, hg⟩ => by
      have hd := (m.done hn1 r o hg).2.2.1
      exact ⟨g', c', by rw [he]; simp only [List.length_append, List.length_take, List.length_cons, List.length_drop]; rw [show min i vs.length + (vs.length - i + 1) = ks.length + 1 by have := hst.le; omega], ⟨r, o, hg⟩, hd.cell 1 _ rfl, hd.cell 2 _ rfl, hd.free 1, hd.free 2⟩)))
  have hb2 : Box w2 nb #[.bool true, .slice ka ks.length kc, .slice va vs.length vc, .slice none 0 0] := hn1.box
  have hSO : ∀ w : World, Box w nb #[.bool true, .slice ka ks.length kc, .slice va vs.length vc, .slice none 0 0] → w.cell? ⟨nb, 1, none⟩ = some (.slice ka ks.length kc) ∧ w.cell? ⟨nb, 2, none⟩ = some (.slice va vs.length vc) := fun w hb => ⟨hb.cell 1 _ rfl, hb.cell 2 _ rfl⟩
  have HP := Lib.hid (fun (wb w' : World) (g c g2 c2 : Nat) (m : Mid1 N w2 wb nb { leaf := true, keys := ks, vals := vs, kids := [] } ka va none kc vc 0 (ks.take i ++ key :: ks.drop i) g c) (l2 : Row w' g2 c2 (u64s (vs.take i ++ v :: vs.drop i)) ∧ Only g2 wb w' ∧ (slB va g2 ∨ wb.heap.size ≤ g2)) => (show PutM N w2 ((w'.setCell ⟨nb, 1, none⟩ (.slice (some ⟨g, 0, none⟩) (ks.length + 1) c)).setCell ⟨nb, 2, none⟩ (.slice (some ⟨g2, 0, none⟩) (ks.length + 1) c2)) nb ka va (ks.take i ++ key :: ks.drop i) (vs.take i ++ v :: vs.drop i) from
    putM_of hn1 hst.le hlv m l2.1 l2.2.1 l2.2.2))
  have HI := Lib.hid (And.intro hst.le (And.intro hlv hst))
  clear hn1 hgM p1 k1 hst HS hlv
  go_upto_region 11 with (fail)
  go_cut [] (fun wx => PutM N w2 wx nb ka va (ks.take i ++ key :: ks.drop i) (vs.take i ++ v :: vs.drop i))
  case first =>
    refine wp_region_any (by kernel_rfl) ?_
    refine wpAny_take (i := 0) (v := ?v0) rfl (by kernel_rfl) (by kernel_rfl) (by kernel_rfl) (fun _ _ _ h => h) (Or.inl ⟨by rfl, ?hy0⟩) ?rest0
    case hy0 => (intro w; go_simp; try with_reducible rfl)
    try simp only [Act.put, List.setIfInBounds_toArray, List.set_cons_zero, List.set_cons_succ]
    refine wpAny_take (i := 1) (v := ?v1) rfl (by kernel_rfl) (by kernel_rfl) (by kernel_rfl) (fun _ _ _ h => h) (Or.inl ⟨by rfl, ?hy1⟩) ?rest1
    case hy1 => (intro w; go_simp; try with_reducible rfl)
    try simp only [Act.put, List.setIfInBounds_toArray, List.set_cons_zero, List.set_cons_succ]
    refine wpAny_take (i := 2) (v := ?v2) rfl (by kernel_rfl) (by kernel_rfl) (by kernel_rfl) (fun _ _ _ h => h) (Or.inl ⟨by rfl, ?hy2⟩) ?rest2
    case hy2 => (intro w; go_simp; try with_reducible rfl)
    try simp only [Act.put, List.setIfInBounds_toArray, List.set_cons_zero, List.set_cons_succ]
    refine wpAny_take (i := 3) (v := ?v3) rfl (by kernel_rfl) (by kernel_rfl) (by kernel_rfl) (fun _ _ _ h => h) (Or.inl ⟨by rfl, ?hy3⟩) ?rest3
    case hy3 => (intro w; go_simp; try with_reducible rfl)
    try simp only [Act.put, List.setIfInBounds_toArray, List.set_cons_zero, List.set_cons_succ]
    refine wpAny_take (i := 4) (v := ?v4) rfl (by kernel_rfl) (by kernel_rfl) (by kernel_rfl) (fun _ _ _ h => h) (Or.inl ⟨by rfl, ?hy4⟩) ?rest4
    case hy4 => (intro w; go_simp; try with_reducible rfl)
    try simp only [Act.put, List.setIfInBounds_toArray, List.set_cons_zero, List.set_cons_succ]
    refine wpAny_take (i := 6) (v := ?v6) rfl (by kernel_rfl) (by kernel_rfl) (by kernel_rfl) (fun _ _ _ h => h) (Or.inl ⟨by rfl, ?hy6⟩) ?rest6
    case hy6 => (intro w; go_simp; try with_reducible rfl)
    try simp only [Act.put, List.setIfInBounds_toArray, List.set_cons_zero, List.set_cons_succ]
    refine wpAny_take (i := 7) (v := ?v7) rfl (by kernel_rfl) (by kernel_rfl) (by kernel_rfl) (fun _ _ _ h => h) (Or.inl ⟨by rfl, ?hy7⟩) ?rest7
    case hy7 => (intro w; go_simp; try with_reducible rfl)
    try simp only [Act.put, List.setIfInBounds_toArray, List.set_cons_zero, List.set_cons_succ]
    refine wpAny_take (i := 10) (v := ?v10) rfl (by kernel_rfl) (by kernel_rfl) (by kernel_rfl) (fun _ _ _ h => h) (Or.inl ⟨by rfl, ?hy10⟩) ?rest10
    case hy10 => (intro w; go_simp; try with_reducible rfl)
    try simp only [Act.put, List.setIfInBounds_toArray, List.set_cons_zero, List.set_cons_succ]
    refine wpAny_take (i := 11) (v := ?v11) rfl (by kernel_rfl) (by kernel_rfl) (by kernel_rfl) (fun _ _ _ h => h) (Or.inl ⟨by rfl, ?hy11⟩) ?rest11
    case hy11 => (intro w; go_simp; try with_reducible rfl)
    try simp only [Act.put, List.setIfInBounds_toArray, List.set_cons_zero, List.set_cons_succ]
    refine wpAny_take (i := 12) (v := ?v12) rfl (by kernel_rfl) (by kernel_rfl) (by kernel_rfl) (fun _ _ _ h => h) (Or.inl ⟨by rfl, ?hy12⟩) ?rest12
    case hy12 => (intro w; go_simp; try with_reducible rfl)
    try simp only [Act.put, List.setIfInBounds_toArray, List.set_cons_zero, List.set_cons_succ]
    refine wpAny_take (i := 14) (v := ?v14) rfl (by kernel_rfl) (by kernel_rfl) (by kernel_rfl) (fun _ _ _ h => h) (Or.inl ⟨by rfl, ?hy14⟩) ?rest14
    case hy14 => (intro w; go_simp; try with_reducible rfl)
    try simp only [Act.put, List.setIfInBounds_toArray, List.set_cons_zero, List.set_cons_succ]
    refine wpAny_take (i := 15) (v := ?v15) rfl (by kernel_rfl) (by kernel_rfl) (by kernel_rfl) (fun _ _ _ h => h) (Or.inl ⟨by rfl, ?hy15⟩) ?rest15
    case hy15 => (intro w; go_simp; try with_reducible rfl)
    try simp only [Act.put, List.setIfInBounds_toArray, List.set_cons_zero, List.set_cons_succ]
    have hS0 : (fun w' : World => w'.cell? ⟨nb, 1, none⟩ = some (.slice ka ks.length kc) ∧ w'.cell? ⟨nb, 2, none⟩ = some (.slice va vs.length vc)) w2.drew := ⟨b1, b2⟩
    refine wpAny_of_late (S := fun w' => w'.cell? ⟨nb, 1, none⟩ = some (.slice ka ks.length kc) ∧ w'.cell? ⟨nb, 2, none⟩ = some (.slice va vs.length vc)) (late := fun j => decide (18 ≤ j)) _ _ _ _ ?_
    change wpLate _ _ _ _ _ _ _ _ _ w2.drew
    refine wpLate_take (i := 5) (v := ?v5) rfl (by kernel_rfl) (by kernel_rfl) (by kernel_rfl) (by kernel_rfl) (fun _ _ _ h => h) hS0 (by rfl) ?hy5 ?rest5
    case hy5 => (intro w hSw; (try dsimp only at hSw); go_simp; try with_reducible rfl)
    try simp only [Act.put, List.setIfInBounds_toArray, List.set_cons_zero, List.set_cons_succ]
    refine wpLate_take (i := 13) (v := ?v13) rfl (by kernel_rfl) (by kernel_rfl) (by kernel_rfl) (by kernel_rfl) (fun _ _ _ h => h) hS0 (by rfl) ?hy13 ?rest13
    case hy13 => (intro w hSw; (try dsimp only at hSw); go_simp; try with_reducible rfl)
    try simp only [Act.put, List.setIfInBounds_toArray, List.set_cons_zero, List.set_cons_succ]
    clear hS0
    refine wpLate_two (i := 8) (j := 16) (by kernel_rfl) rfl rfl (fun K hK => ?_) (fun K hK => ?_)
    · go_simp
      refine hK.out _ _ (fun _ => ?_) ?_
      · exact hSO _ (by (repeat (first | assumption | with_reducible apply boxd | with_reducible apply boxa)))
      clear hK K
      refine wpLate_two (i := 9) (j := 16) (by kernel_rfl) rfl rfl (fun K hK => ?_) (fun K hK => ?_)
      · go_simp
        refine (HI1.out _ _ ?_ ?_ ?_).mono ?_
        · (repeat (first | with_reducible exact Below.refl _ _ | with_reducible apply bel_alloc | with_reducible apply bel_drew))
        · (repeat (first | (focus ((with_reducible refine box_at ?_); simp; done)) | with_reducible apply boxd | with_reducible apply boxa))
        · (first | exact Nat.le_refl _ | simp)
        rintro e w3 ⟨g, c, rfl, m1, mb, hb3⟩
        (try dsimp only)
        refine hK.out _ _ (fun _ => ?_) ?_
        · exact hSO _ (by (repeat (first | assumption | with_reducible apply boxd | with_reducible apply boxa)))
        clear hK K
        refine wpLate_one (i := 16) (by kernel_rfl) rfl (fun K hK => ?_)
        go_simp
        refine hK.out _ _ (fun _ => ?_) ?_
        · exact hSO _ (by (repeat (first | assumption | with_reducible apply boxd | with_reducible apply boxa)))
        clear hK K
        refine wpLate_one (i := 17) (by kernel_rfl) rfl (fun K hK => ?_)
        go_simp
        refine (HI2.out _ _ ?_ ?_ ?_).mono ?_
        · exact ⟨_, _, Mid1.next m1 (by repeat (first | with_reducible exact Below.refl _ _ | with_reducible apply bel_alloc | with_reducible apply bel_drew))⟩
        · (repeat (first | (focus ((with_reducible refine box_at ?_); simp; done)) | with_reducible apply boxd | with_reducible apply boxa | (refine mb _ _ ?_ ?_; focus (simp; done))))
        · (first | (focus (simp; done)) | (focus (refine Nat.le_trans m1.kept.size ?_; simp; done)))
        rintro e w4 ⟨g2, c2, rfl, l2, s1, s2, q1, q2⟩
        (try dsimp only)
        refine hK.out _ _ (fun _ => ⟨s1, s2⟩) ?_
        clear hK K
        refine wpLate_one (i := 18) (by kernel_rfl) rfl (fun K hK => ?_)
        go_simp
        refine hK.out _ _ (fun h => absurd h (by decide)) ?_
        clear hK K
        refine wpLate_one (i := 19) (by kernel_rfl) rfl (fun K hK => ?_)
        go_simp
        refine hK.out _ _ (fun h => absurd h (by decide)) ?_
        clear hK K
        refine wpLate_one (i := 20) (by kernel_rfl) rfl (fun K hK => ?_)
        go_simp
        refine hK.out _ _ (fun h => absurd h (by decide)) ?_
        clear hK K
        refine wpLate_one (i := 21) (by kernel_rfl) rfl (fun K hK => ?_)
        go_simp
        refine hK.out _ _ (fun h => absurd h (by decide)) ?_
        clear hK K
        refine wpLate_one (i := 22) (by kernel_rfl) rfl (fun K hK => ?_)
        go_simp
        refine hK.out _ _ (fun h => absurd h (by decide)) ?_
        clear hK K
        refine wpLate_one (i := 23) (by kernel_rfl) rfl (fun K hK => ?_)
        go_simp
        refine hK.out _ _ (fun h => absurd h (by decide)) ?_
        clear hK K
        refine wpLate_done (by kernel_rfl) ?_ _
        go_wp2_with fail
        go_meet
        case rel => exact HP.out _ _ _ _ _ _ (Mid1.next m1 (by repeat (first | with_reducible exact Below.refl _ _ | with_reducible apply bel_alloc | with_reducible apply bel_drew))) l2
      · go_simp
        refine hK.out _ _ (fun _ => ?_) ?_
        · exact hSO _ (by (repeat (first | assumption | with_reducible apply boxd | with_reducible apply boxa)))
        clear hK K
        refine wpLate_one (i := 9) (by kernel_rfl) rfl (fun K hK => ?_)
        go_simp
        refine (HI1.out _ _ ?_ ?_ ?_).mono ?_
        · (repeat (first | with_reducible exact Below.refl _ _ | with_reducible apply bel_alloc | with_reducible apply bel_drew))
        · (repeat (first | (focus ((with_reducible refine box_at ?_); simp; done)) | with_reducible apply boxd | with_reducible apply boxa))
        · (first | exact Nat.le_refl _ | simp)
        rintro e w3 ⟨g, c, rfl, m1, mb, hb3⟩
        (try dsimp only)
        refine hK.out _ _ (fun _ => ?_) ?_
        · exact hSO _ (by (repeat (first | assumption | with_reducible apply boxd | with_reducible apply boxa)))
        clear hK K
        refine wpLate_one (i := 17) (by kernel_rfl) rfl (fun K hK => ?_)
        go_simp
        refine (HI2.out _ _ ?_ ?_ ?_).mono ?_
        · exact ⟨_, _, Mid1.next m1 (by repeat (first | with_reducible exact Below.refl _ _ | with_reducible apply bel_alloc | with_reducible apply bel_drew))⟩
        · (repeat (first | (focus ((with_reducible refine box_at ?_); simp; done)) | with_reducible apply boxd | with_reducible apply boxa | (refine mb _ _ ?_ ?_; focus (simp; done))))
        · (first | (focus (simp; done)) | (focus (refine Nat.le_trans m1.kept.size ?_; simp; done)))
        rintro e w4 ⟨g2, c2, rfl, l2, s1, s2, q1, q2⟩
        (try dsimp only)
        refine hK.out _ _ (fun _ => ⟨s1, s2⟩) ?_
        clear hK K
        refine wpLate_one (i := 18) (by kernel_rfl) rfl (fun K hK => ?_)
        go_simp
        refine hK.out _ _ (fun h => absurd h (by decide)) ?_
        clear hK K
        refine wpLate_one (i := 19) (by kernel_rfl) rfl (fun K hK => ?_)
        go_simp
        refine hK.out _ _ (fun h => absurd h (by decide)) ?_
        clear hK K
        refine wpLate_one (i := 20) (by kernel_rfl) rfl (fun K hK => ?_)
        go_simp
        refine hK.out _ _ (fun h => absurd h (by decide)) ?_
        clear hK K
        refine wpLate_one (i := 21) (by kernel_rfl) rfl (fun K hK => ?_)
        go_simp
        refine hK.out _ _ (fun h => absurd h (by decide)) ?_
        clear hK K
        refine wpLate_one (i := 22) (by kernel_rfl) rfl (fun K hK => ?_)
        go_simp
        refine hK.out _ _ (fun h => absurd h (by decide)) ?_
        clear hK K
        refine wpLate_one (i := 23) (by kernel_rfl) rfl (fun K hK => ?_)
        go_simp
        refine hK.out _ _ (fun h => absurd h (by decide)) ?_
        clear hK K
        refine wpLate_done (by kernel_rfl) ?_ _
        go_wp2_with fail
        go_meet
        case rel => exact HP.out _ _ _ _ _ _ (Mid1.next m1 (by repeat (first | with_reducible exact Below.refl _ _ | with_reducible apply bel_alloc | with_reducible apply bel_drew))) l2
    · go_simp
      refine hK.out _ _ (fun _ => ?_) ?_
      · exact hSO _ (by (repeat (first | assumption | with_reducible apply boxd | with_reducible apply boxa)))
      clear hK K
      refine wpLate_one (i := 8) (by kernel_rfl) rfl (fun K hK => ?_)
      go_simp
      refine hK.out _ _ (fun _ => ?_) ?_
      · exact hSO _ (by (repeat (first | assumption | with_reducible apply boxd | with_reducible apply boxa)))
      clear hK K
      refine wpLate_one (i := 9) (by kernel_rfl) rfl (fun K hK => ?_)
      go_simp
      refine (HI1.out _ _ ?_ ?_ ?_).mono ?_
      · (repeat (first | with_reducible exact Below.refl _ _ | with_reducible apply bel_alloc | with_reducible apply bel_drew))
      · (repeat (first | (focus ((with_reducible refine box_at ?_); simp; done)) | with_reducible apply boxd | with_reducible apply boxa))
      · (first | exact Nat.le_refl _ | simp)
      rintro e w3 ⟨g, c, rfl, m1, mb, hb3⟩
      (try dsimp only)
      refine hK.out _ _ (fun _ => ?_) ?_
      · exact hSO _ (by (repeat (first | assumption | with_reducible apply boxd | with_reducible apply boxa)))
      clear hK K
      refine wpLate_one (i := 17) (by kernel_rfl) rfl (fun K hK => ?_)
      go_simp
      refine (HI2.out _ _ ?_ ?_ ?_).mono ?_
      · exact ⟨_, _, Mid1.next m1 (by repeat (first | with_reducible exact Below.refl _ _ | with_reducible apply bel_alloc | with_reducible apply bel_drew))⟩
      · (repeat (first | (focus ((with_reducible refine box_at ?_); simp; done)) | with_reducible apply boxd | with_reducible apply boxa | (refine mb _ _ ?_ ?_; focus (simp; done))))
      · (first | (focus (simp; done)) | (focus (refine Nat.le_trans m1.kept.size ?_; simp; done)))
      rintro e w4 ⟨g2, c2, rfl, l2, s1, s2, q1, q2⟩
      (try dsimp only)
      refine hK.out _ _ (fun _ => ⟨s1, s2⟩) ?_
      clear hK K
      refine wpLate_one (i := 18) (by kernel_rfl) rfl (fun K hK => ?_)
      go_simp
      refine hK.out _ _ (fun h => absurd h (by decide)) ?_
      clear hK K
      refine wpLate_one (i := 19) (by kernel_rfl) rfl (fun K hK => ?_)
      go_simp
      refine hK.out _ _ (fun h => absurd h (by decide)) ?_
      clear hK K
      refine wpLate_one (i := 20) (by kernel_rfl) rfl (fun K hK => ?_)
      go_simp
      refine hK.out _ _ (fun h => absurd h (by decide)) ?_
      clear hK K
      refine wpLate_one (i := 21) (by kernel_rfl) rfl (fun K hK => ?_)
      go_simp
      refine hK.out _ _ (fun h => absurd h (by decide)) ?_
      clear hK K
      refine wpLate_one (i := 22) (by kernel_rfl) rfl (fun K hK => ?_)
      go_simp
      refine hK.out _ _ (fun h => absurd h (by decide)) ?_
      clear hK K
      refine wpLate_one (i := 23) (by kernel_rfl) rfl (fun K hK => ?_)
      go_simp
      refine hK.out _ _ (fun h => absurd h (by decide)) ?_
      clear hK K
      refine wpLate_done (by kernel_rfl) ?_ _
      go_wp2_with fail
      go_meet
      case rel => exact HP.out _ _ _ _ _ _ (Mid1.next m1 (by repeat (first | with_reducible exact Below.refl _ _ | with_reducible apply bel_alloc | with_reducible apply bel_drew))) l2
  case rest =>
    obtain ⟨hN, hM, hn1, hnM, hgM, p1, k1⟩ := H1.out
    obtain ⟨h, hl⟩ := HH.out
    obtain ⟨p2, hr, hbx, k2⟩ := putM_next h hN hn1 hnM hgM p1 k1 hcut
    obtain ⟨ka', va', c, c2, hn2, k2x, hoa, hob⟩ := hcut
    have hle := HI.out.1
    have hlv := HI.out.2.1
    have hst := HI.out.2.2
    have e1 : (ks.take i ++ key :: ks.drop i).length = ks.length + 1 := by simp; omega
    have e2 : (vs.take i ++ v :: vs.drop i).length = ks.length + 1 := by simp; omega
    have ok : NdOk ⟨true, ks.take i ++ key :: ks.drop i, vs.take i ++ v :: vs.drop i, []⟩ := ⟨fun _ => ⟨by rw [e1, e2], rfl, by rw [e1]; omega⟩, fun h => by cases h⟩
    have HF := Lib.hid (full_any hr)
    have hnE : ∀ j, (fun j => E j ∨ (N ≤ j ∧ j < M) ∨ (w2.heap.size ≤ j ∧ j < wc.heap.size)) j → j < wc.heap.size := p2.there
    have hEn : ∀ j, E j → j < N := fun j hj => Nat.lt_of_lt_of_le (h.pz.there j hj) hN
    have hTn : T ≠ nb := fun e => Nat.lt_irrefl nb (Nat.lt_of_lt_of_le (e ▸ hEn T h.mem) hn1.ge)
    have htab : nb ≠ 0 := fun e => Nat.lt_irrefl nb (Nat.lt_of_lt_of_le (Nat.lt_of_lt_of_le (e ▸ h.pz.tab.lt) hN) hn1.ge)
    obtain ⟨hw1, hw2⟩ := hn2.wins
    have hSE : ∀ g, (slB ka' g ∨ slB va' g ∨ slB none g) → (fun j => E j ∨ (N ≤ j ∧ j < M) ∨ (w2.heap.size ≤ j ∧ j < wc.heap.size)) g := fun g hg => by
      rcases hg with hg | hg | hg
      · rcases hoa g hg with h1 | h1
        · exact .inr (.inl ⟨(hn1.new g (.inl h1)).1, hgM g (.inl h1)⟩)
        · exact .inr (.inr ⟨h1, hn2.k.lt hg⟩)
      · rcases hob g hg with h1 | h1
        · exact .inr (.inl ⟨(hn1.new g (.inr (.inl h1))).1, hgM g (.inr (.inl h1))⟩)
        · exact .inr (.inr ⟨h1, hn2.v.lt hg⟩)
      · cases hg
    have hkE : ∀ j, E j → (E j ∨ (N ≤ j ∧ j < M) ∨ (w2.heap.size ≤ j ∧ j < wc.heap.size)) ∧ j ≠ nb := fun j hj => ⟨.inl hj, fun e => Nat.lt_irrefl nb (Nat.lt_of_lt_of_le (e ▸ hEn j hj) hn1.ge)⟩
    by_cases hf : fullN ⟨true, ks.take i ++ key :: ks.drop i, vs.take i ++ v :: vs.drop i, []⟩ = true
    · have HS2 := Lib.hid (settle_split (E := fun j => E j ∨ (N ≤ j ∧ j < M) ∨ (w2.heap.size ≤ j ∧ j < wc.heap.size)) p2 (by omega) hbx (.inl h.mem) hTn hl.has hw1 hSE (fun g hg => (hw2 g hg).2) hnE (.inr (.inl ⟨hn1.ge, hnM⟩)) htab ok hf)
      have HB := Lib.hid (fun (w' : World) (B : AP) (more : Nat) (er : Int) (st : Settle A pg ⟨true, ks.take i ++ key :: ks.drop i, vs.take i ++ v :: vs.drop i, []⟩ B more (splitN ⟨true, ks.take i ++ key :: ks.drop i, vs.take i ++ v :: vs.drop i, []⟩).2.2 er) (p3 : PZ (fun j => E j ∨ (N ≤ j ∧ j < M) ∨ (w2.heap.size ≤ j ∧ j < wc.heap.size)) w' P D B (k + 2 + 6)) (k3 : Kept (fun j => (E j ∨ (N ≤ j ∧ j < M) ∨ (w2.heap.size ≤ j ∧ j < wc.heap.size)) ∧ j ≠ nb) wc w') => (show PutR E W w' P D T rt A (k + 8) pg 0 key v (.returned (.tuple #[.int .i64 more, .int .u64 ((splitN ⟨true, ks.take i ++ key :: ks.drop i, vs.take i ++ v :: vs.drop i, []⟩).2.2.toNat : Int), .int .i64 er])) from
        ⟨B, more, _, er, k + 2 + 6, rfl, .leaf HY.out hst hno st, ⟨p3.less (fun _ hj => .inl hj), hbx.of_block (k3.block T (hkE T h.mem)), h.mem⟩, Nat.le_refl _, k2.trans (k3.mono hkE)⟩))
      generalize (splitN ⟨true, ks.take i ++ key :: ks.drop i, vs.take i ++ v :: vs.drop i, []⟩).2.2 = κ at HS2 HB
      clear H1 HH hN hM hn1 hnM hgM p1 k1 h hl p2 hr hbx k2 hle hlv hst e1 e2 HI HI1 HI2 HP hn2 k2x hoa hob ok hnE hEn hTn htab hw1 hw2 hSE hkE
      rw [hf] at HF
      go_wp2_with fail
      refine HF.out.mono ?_
      rintro e w5 ⟨rfl, rfl⟩
      go_wp2_with fail
      refine HS2.out.mono ?_
      rintro e w6 ⟨mb, rfl, hst2⟩
      replace hst2 := Lib.hid hst2
      go_wp2_with fail
      refine hst2.out.mono ?_
      rintro e w7 ⟨rfl, hfr⟩
      replace hfr := Lib.hid hfr
      go_wp2_with fail
      refine hfr.out.mono ?_
      rintro e w8 ⟨B, more, er, rfl, st, p3, k3⟩
      have HG := Lib.hid (HB.out _ B more er st p3 k3)
      clear st p3 k3
      go_wp2
      go_ret3
      exact HG.out
    · have hff : fullN ⟨true, ks.take i ++ key :: ks.drop i, vs.take i ++ v :: vs.drop i, []⟩ = false := by simpa using hf
      have HS2 := Lib.hid (store_any p2 (by omega) hbx hl.has hr (ok.fits hff))
      have HB := Lib.hid (fun (w' : World) (p3 : PZ (fun j => E j ∨ (N ≤ j ∧ j < M) ∨ (w2.heap.size ≤ j ∧ j < wc.heap.size)) w' P D (A.wrote pg (encN (A.c pg) ⟨true, ks.take i ++ key :: ks.drop i, vs.take i ++ v :: vs.drop i, []⟩)) (k + 2 + 3)) (k3 : Kept (fun j => E j ∨ (N ≤ j ∧ j < M) ∨ (w2.heap.size ≤ j ∧ j < wc.heap.size)) wc w') => (show PutR E W w' P D T rt A (k + 8) pg 0 key v (.returned (.tuple #[.int .i64 0, .int .u64 0, .int .i64 0])) from
        ⟨_, 0, 0, 0, k + 2 + 3, rfl, .leaf HY.out hst hno (.one hff), ⟨p3.less (fun _ hj => .inl hj), hbx.of_block (k3.block T (.inl h.mem)), h.mem⟩, by omega, k2.trans (k3.mono (fun _ hj => .inl hj))⟩))
      clear H1 HH hN hM hn1 hnM hgM p1 k1 h hl p2 hr hbx k2 hle hlv hst e1 e2 HI HI1 HI2 HP hn2 k2x hoa hob ok hnE hEn hTn htab hw1 hw2 hSE hkE hf
      rw [hff] at HF
      go_wp2_with fail
      refine HF.out.mono ?_
      rintro e w5 ⟨rfl, rfl⟩
      go_wp2_with fail
      refine HS2.out.mono ?_
      rintro e w6 ⟨rfl, p3, k3⟩
      have HG := Lib.hid (HB.out _ p3 k3)
      clear p3 k3
      go_wp2
      go_ret3
      exact HG.out
end
end Go.Proofs.YtfljlcfmdcepnaaGreatDoor
