/-
  A pool that is flushed; its disk's bytes, opened; a pool over that.
-/
import Derived.Test.YtjfkdfffolkblaaGreatDoorPoolJ
import Derived.Test.YtjfkdfffolkblaaGreatDoorDiskT
namespace Go.Proofs.YtjfkdfffolkblaaGreatDoor
open Go.RowKit
open UK (str BytesAt nth Only Row Box)
open Go.BigFrame
section
variable {W : World} {own : Nat → Prop} {D B bc fc I ic cnt : Nat} {fo : Option Addr} {y : List UInt8} {d : Dk}
theorem dbytes_any (h : DiskAt W own D B bc fo fc I ic y d) :
    Calls Tryz.prog 21 #[.pointer (some ⟨D, 0, none⟩)] W fun e w' => e = .returned (.string (str d.x)) ∧ w' = W := by
  have c0 := h.cells.at' 0 _ rfl
  have hcv := UK.run_window (P := Tryz.prog) (src := 92) (dst := 9) Tryz.underlying92 Tryz.underlying5 Tryz.underlying9 h.bytes 0 d.x.length bc (by have := h.le; have := h.ylen; omega)
  rw [List.drop_zero, h.pre] at hcv
  go_enter Tryz.func21, Tryz.ntmps21
  go_wp2
  go_ret
  exact ⟨rfl, rfl⟩
/-- a flushed disk's bytes, opened -/
theorem open_flushed (h : Clean d cnt) (h3 : d.puts + 1 < 1000000000) (pages : Int) (hm : d.most = clampD pages) :
    ∃ x, openD (flushD d cnt).x pages = x ∧ x.x = (flushD d cnt).x ∧ x.free = d.free ∧ x.most = d.most ∧ Ok x cnt 0 ∧ Clean x cnt ∧ (openR (flushD d cnt).x pages).1 = 0 := by
  have hop := open_clean h h3 pages hm
  obtain ⟨hc, h0, _, hf, hi, hmo⟩ := h.flush h3
  have hlen := hc.fit.len
  have hone := h.fit.one
  have hmost := h.fit.most
  have hdiv : (flushD d cnt).x.length / 512 = cnt := by omega
  have e1 : openD (flushD d cnt).x pages = { x := (flushD d cnt).x, most := clampD pages, free := d.free, isf := flagsL cnt d.free.reverse, rl := -1, wl := -1, reads := 0, puts := 0 } := by
    unfold openD
    rw [hop, hdiv, List.reverse_reverse]
  have hfl : flagsL cnt d.free.reverse = d.isf := by
    refine List.ext_getElem (by rw [flagsL_length, h.fit.flags]) (fun i h1 h2 => ?_)
    have hic : i < cnt := by rwa [flagsL_length] at h1
    have a := flagsL_get cnt d.free.reverse i hic
    have b := h.so.mark i hic
    rw [List.getD_eq_getElem?_getD, List.getElem?_eq_getElem h1] at a
    rw [List.getD_eq_getElem?_getD, List.getElem?_eq_getElem h2] at b
    refine a.trans (Eq.trans ?_ b.symm)
    exact decide_eq_decide.2 List.mem_reverse
  have ho := openR_onway (flushD d cnt).x pages
  rw [hop, hdiv] at ho
  have hfit := fit_open (flushD d cnt).x pages d.free.reverse (by omega) (by omega) (by omega) (by rw [hdiv]; exact ho) d.free (by rw [List.length_reverse]; exact Nat.le_refl _) (fun p hh => List.mem_reverse.2 hh)
  rw [hdiv] at hfit
  rw [e1, hfl]
  rw [hfl] at hfit
  exact ⟨_, rfl, rfl, rfl, hm.symm, ⟨hfit, ⟨h.so.mark, h.so.nodup⟩, by show (0 : Int) ≤ _; omega, by show (0 : Int) ≤ _; omega⟩, hc.same hfit rfl hf.symm hi.symm rfl rfl, by rw [hop]⟩
end
section
variable {E : Nat → Prop} {W W' : World} {P D k : Nat} {A : AP}
/-- behind Flush: all that pages have is on the disk -/
def PZF (E : Nat → Prop) (W : World) (P D : Nat) (A : AP) (k : Nat) : Prop :=
  ∃ FB M n q d0, PS E W P D FB M n 0 q (flushD d0 A.cnt) A.cnt k A.c ∧ 1 ≤ n ∧ Is A q (flushD d0 A.cnt) ∧ Clean d0 A.cnt ∧ d0.puts + 1 < 1000000000 ∧ d0.free = A.free ∧ d0.most = A.most ∧ ∀ p, 1 ≤ p → p < A.cnt → p ∉ A.free → lookL (flushD d0 A.cnt).x p = A.c p
theorem PZF.pz (h : PZF E W P D A k) : PZ E W P D A k := by
  obtain ⟨FB, M, n, q, d0, h1, h2, h3, _⟩ := h
  exact ⟨FB, M, n, q, _, h1, h2, h3⟩
theorem PZF.next (h : PZF E W P D A k) (hb : Below W.heap.size W W') : PZF E W' P D A k := by
  obtain ⟨FB, M, n, q, d0, h1, r⟩ := h
  exact ⟨FB, M, n, q, d0, h1.wide hb (fun _ hj => .inl hj), r⟩
theorem pz_flush (h : PZ E W P D A k) (hk : k + 1001 < 900000000) :
    Calls Tryz.prog 19 #[.pointer (some ⟨P, 0, none⟩)] W fun e w' => e = .returned (.int .i64 0) ∧ PZF E w' P D A (k + 1001) ∧ Kept E W w' := by
  obtain ⟨FB, M, n, q, d, h1, hn, his⟩ := h
  have hn1000 : n ≤ 1000 := by rw [← h1.len]; exact h1.ok.few
  refine (pflush_any h1 (by omega)).mono ?_
  rintro e w' ⟨q', d0, rfl, s, kk, hop, hc, hp, hfr, hmo, hl⟩
  obtain ⟨_, _, _, f1, _, f3⟩ := hc.flush hp
  exact ⟨rfl, ⟨FB, M, n, q', d0, s.up (by omega), hn, ⟨by rw [f1, hfr, his.free], by rw [f3, hmo, his.most], by rw [hop]; exact his.op⟩, hc, hp, hfr.trans his.free, hmo.trans his.most, fun p a b c => hl p a b (by rw [his.free]; exact c)⟩, kk⟩
/-- a disk opened, with all that pages have -/
def DiskZ (W w' : World) (X : Nat) (A : AP) : Prop :=
  ∃ d, DD (fun j => j < W.heap.size) w' X d A.cnt ∧ Ok d A.cnt 0 ∧ Clean d A.cnt ∧ d.free = A.free ∧ d.most = A.most ∧ ∀ p, 1 ≤ p → p < A.cnt → p ∉ A.free → lookL d.x p = A.c p
theorem fz_bytes (h : PZF E W P D A k) (pages : Int) (hm : A.most = clampD pages) :
    ∃ x, Calls Tryz.prog 21 #[.pointer (some ⟨D, 0, none⟩)] W (fun e w' => e = .returned (.string (str x)) ∧ w' = W) ∧
      ∀ w, TabAt w → Calls Tryz.prog 20 #[.string (str x), .int .i64 pages] w fun e w' => ∃ X, e = .returned (.tuple #[.pointer (some ⟨X, 0, none⟩), .int .i64 0]) ∧ DiskZ w w' X A ∧ Below w.heap.size w w' := by
  obtain ⟨FB, M, n, q, d0, h1, hn, his, hc, hp, hfr, hmo, hl⟩ := h
  have hdd := h1.pd.dd
  obtain ⟨x, ex, ex1, ex2, ex3, ex4, ex5, ex6⟩ := open_flushed hc hp pages (hmo.trans hm)
  refine ⟨(flushD d0 A.cnt).x, hdd.look_ (fun _ _ _ _ _ _ _ _ hd => dbytes_any hd), fun w ht => ?_⟩
  obtain ⟨hcf, _, _, _, _, _⟩ := hc.flush hp
  have hmm := hc.fit.most
  have hlen := hcf.fit.len
  refine (open_any _ pages w ht A.cnt hlen hc.fit.one (by rw [← hm, ← hmo]; omega)).mono ?_
  rintro e w' (⟨_, own, X, rfl, hx, hown, hb⟩ | ⟨hne, _⟩)
  · refine ⟨X, rfl, ⟨x, ⟨⟨own, fun j hj hlt => ?_, by rw [ex] at hx; exact hx⟩, ex4.fit, fun j hj => Nat.lt_of_lt_of_le hj hb.size⟩, ex4, ex5, ex2.trans hfr, ex3.trans hmo, fun p a b c => by rw [ex1]; exact hl p a b c⟩, hb⟩
    have := (hown j hj).1
    have : j < w.heap.size := hlt
    omega
  · exact absurd ex6 hne
theorem DiskZ.next {w w1 w2 : World} {X : Nat} (h : DiskZ w w1 X A) (hb : Below w1.heap.size w1 w2) : DiskZ w w2 X A := by
  obtain ⟨d, hd, r⟩ := h
  exact ⟨d, hd.grow hb (fun j hj => .inl hj), r⟩
theorem DiskZ.tab {w w1 : World} {X : Nat} (h : DiskZ w w1 X A) : TabAt w1 := by
  obtain ⟨d, hd, r⟩ := h
  exact hd.tab
/-- the same pool anew: what pages have is the same -/
structure Anew (A B : AP) : Prop where
  cnt : B.cnt = A.cnt
  free : B.free = A.free
  most : B.most = A.most
  op : B.op = none
  c : ∀ p, 1 ≤ p → p < A.cnt → p ∉ A.free → B.c p = A.c p
theorem Anew.has {B : AP} (h : Anew A B) (ho : A.op = none) (p : Nat) : B.Has p ↔ A.Has p := by
  unfold AP.Has AP.goneL
  rw [h.cnt, h.free, h.op, ho]
theorem Anew.same {B : AP} (h : Anew A B) {p : Nat} (hp : A.Has p) : B.c p = A.c p := h.c p hp.1 hp.2.1 hp.2.2.1
theorem Anew.good {B : AP} (h : Anew A B) (g : A.Good) : B.Good := by
  have hg : B.goneL = [] := by unfold AP.goneL; rw [h.op]
  refine ⟨by rw [h.cnt]; exact g.one, by rw [h.cnt, h.most]; exact g.most, by rw [h.most]; exact g.few, by rw [h.free]; exact g.nod, ?_, by rw [hg]; exact List.nodup_nil, fun x hx => by rw [hg] at hx; cases hx⟩
  rw [h.free, h.cnt]
  exact g.free
theorem pz_new {w : World} {X : Nat} (h : DiskZ w W X A) (n : Nat) (hn : 1 ≤ n ∧ n ≤ 1000) (hand : Int) :
    Calls Tryz.prog 22 #[.pointer (some ⟨X, 0, none⟩), .int .i64 n, .int .i64 hand] W fun e w' => ∃ P2 B, e = .returned (.pointer (some ⟨P2, 0, none⟩)) ∧ PZ (fun j => j < w.heap.size) w' P2 X B 0 ∧ Anew A B ∧ Kept (fun j => j < w.heap.size) W w' := by
  obtain ⟨d, hd, ok, cl, hf, hm, hl⟩ := h
  refine (pnew_any hd ok cl n hn hand).mono ?_
  rintro e w' ⟨P2, FB, M, q, rfl, s, kk, hop⟩
  exact ⟨P2, { cnt := A.cnt, most := A.most, free := A.free, c := fun p => lookL d.x p, op := none }, rfl, ⟨FB, M, n, q, d, s, hn.1, ⟨hf, hm, by rw [hop]; rfl⟩⟩, ⟨rfl, rfl, rfl, rfl, hl⟩, kk⟩
theorem pz_pinned (h : PZ E W P D A k) :
    Calls Tryz.prog 59 #[.pointer (some ⟨P, 0, none⟩)] W fun e w' => e = .returned (.int .i64 0) ∧ w' = W := by
  obtain ⟨FB, M, n, q, d, h1, hn, his⟩ := h
  have := pinned_any h1.pd.pool
  rw [h1.pins] at this
  exact this
end
end Go.Proofs.YtjfkdfffolkblaaGreatDoor
