/-
  A disk of one's own, behind each call.
-/
import Derived.Test.YtjfkdfffolkblaaDoorDiskK
namespace Go.Proofs.YtjfkdfffolkblaaDoor
open Go.RowKit
open UK (str BytesAt nth Only w32 Row)
open Go.BigFrame
/-- what lies in S hasn't turned -/
structure Kept (S : Nat → Prop) (W W' : World) : Prop where
  os : W'.os = W.os
  tape : W'.tape = W.tape
  output : W'.output = W.output
  size : W.heap.size ≤ W'.heap.size
  block : ∀ k, S k → W'.heap[k]? = W.heap[k]?
namespace Kept
variable {S T : Nat → Prop} {A B C : World}
theorem refl (S : Nat → Prop) (A : World) : Kept S A A := ⟨rfl, rfl, rfl, Nat.le_refl _, fun _ _ => rfl⟩
theorem trans (h : Kept S A B) (k : Kept S B C) : Kept S A C := ⟨k.os.trans h.os, k.tape.trans h.tape, k.output.trans h.output, Nat.le_trans h.size k.size, fun i hi => (k.block i hi).trans (h.block i hi)⟩
theorem mono (h : Kept S A B) (hS : ∀ k, T k → S k) : Kept T A B := ⟨h.os, h.tape, h.output, h.size, fun i hi => h.block i (hS i hi)⟩
theorem of_below {n : Nat} (h : Below n A B) (hS : ∀ k, S k → k < n) : Kept S A B := ⟨h.os, h.tape, h.output, h.size, fun i hi => h.block i (hS i hi)⟩
theorem of_only {g : Nat} (h : Only g A B) (hS : ∀ k, S k → k < A.heap.size ∧ k ≠ g) : Kept S A B := ⟨h.os, h.tape, h.output, h.size, fun i hi => h.block i (hS i hi).1 (hS i hi).2⟩
theorem below {n : Nat} (h : Kept S A B) (hS : ∀ k, k < n → S k) : Below n A B := ⟨h.os, h.tape, h.output, h.size, fun i hi => h.block i (hS i hi)⟩
theorem row {g c : Nat} {vs : List Value} (h : Kept S A B) (r : Row A g c vs) (hg : S g) : Row B g c vs := r.of_block h.size (h.block g hg)
end Kept
/-- a disk none of whose blocks lies in S -/
def DD (S : Nat → Prop) (W : World) (D : Nat) (d : Dk) (cnt : Nat) : Prop := (∃ own, (∀ k, own k → ¬ S k) ∧ Disk W own D d) ∧ Fit d cnt ∧ ∀ k, S k → k < W.heap.size
section
variable {S : Nat → Prop} {W W' : World} {D cnt : Nat} {d : Dk}
theorem DD.fit (h : DD S W D d cnt) : Fit d cnt := h.2.1
theorem DD.there (h : DD S W D d cnt) : ∀ k, S k → k < W.heap.size := h.2.2
theorem DD.lt (h : DD S W D d cnt) : D < W.heap.size := by
  obtain ⟨⟨own, ho, B, bc, fo, fc, I, ic, y, h⟩, f⟩ := h
  exact h.cells.lt
theorem DD.tab (h : DD S W D d cnt) : TabAt W := by
  obtain ⟨⟨own, ho, B, bc, fo, fc, I, ic, y, h⟩, f⟩ := h
  exact h.tab
theorem DD.noS (h : DD S W D d cnt) : ¬ S D := by
  obtain ⟨⟨own, ho, B, bc, fo, fc, I, ic, y, h⟩, f⟩ := h
  exact ho D h.oD
/-- by what a call does to a disk, what it does to a disk of one's own -/
theorem DD.do_ {f : Nat} {args : Array Value} {r : Value} {d' : Dk} {cnt' : Nat} (h : DD S W D d cnt)
    (hc : ∀ own B bc fo fc I ic y, DiskAt W own D B bc fo fc I ic y d → Calls Tryd.prog f args W fun e w' => e = .returned r ∧ ∃ own', Disk w' own' D d' ∧ Moves own own' W w') (hf : Fit d cnt → Fit d' cnt') :
    Calls Tryd.prog f args W fun e w' => e = .returned r ∧ DD S w' D d' cnt' ∧ Kept S W w' := by
  obtain ⟨⟨own, ho, B, bc, fo, fc, I, ic, y, hd⟩, ft, hS⟩ := h
  refine (hc own B bc fo fc I ic y hd).mono ?_
  rintro e w' ⟨rfl, own', hd', m⟩
  exact ⟨rfl, ⟨⟨own', fun k hk hs => by
    rcases m.owns k hk with h1 | h1
    · exact ho k h1 hs
    · have := hS k hs; omega, hd'⟩, hf ft, fun k hk => Nat.lt_of_lt_of_le (hS k hk) m.size⟩, ⟨m.os, m.tape, m.output, m.size, fun k hk => m.block k (hS k hk) (fun h => ho k h hk)⟩⟩
theorem DD.same_ {f : Nat} {args : Array Value} {r : Value} {d' : Dk} {cnt' : Nat} (h : DD S W D d cnt)
    (hc : ∀ own B bc fo fc I ic y, DiskAt W own D B bc fo fc I ic y d → Calls Tryd.prog f args W fun e w' => e = .returned r ∧ Disk w' own D d' ∧ Moves own own W w') (hf : Fit d cnt → Fit d' cnt') :
    Calls Tryd.prog f args W fun e w' => e = .returned r ∧ DD S w' D d' cnt' ∧ Kept S W w' :=
  h.do_ (fun own B bc fo fc I ic y hd => (hc own B bc fo fc I ic y hd).mono fun _ _ ⟨a, b, c⟩ => ⟨a, own, b, c⟩) hf
theorem DD.look_ {f : Nat} {args : Array Value} {r : Value} (h : DD S W D d cnt)
    (hc : ∀ own B bc fo fc I ic y, DiskAt W own D B bc fo fc I ic y d → Calls Tryd.prog f args W fun e w' => e = .returned r ∧ w' = W) :
    Calls Tryd.prog f args W fun e w' => e = .returned r ∧ w' = W := by
  obtain ⟨⟨own, ho, B, bc, fo, fc, I, ic, y, hd⟩, ft⟩ := h
  exact hc own B bc fo fc I ic y hd
theorem DD.below (h : DD S W D d cnt) (hb : Below W.heap.size W W') : DD S W' D d cnt := by
  obtain ⟨⟨own, ho, B, bc, fo, fc, I, ic, y, hd⟩, ft, hS⟩ := h
  exact ⟨⟨own, ho, B, bc, fo, fc, I, ic, y, hd.below hb⟩, ft, fun k hk => Nat.lt_of_lt_of_le (hS k hk) hb.size⟩
theorem DD.drewN (h : DD S W D d cnt) (q : Nat) : DD S (W.drewN q) D d cnt := h.below (UK.belowN (Below.refl _ _) q)
theorem DD.less {T : Nat → Prop} (h : DD S W D d cnt) (hT : ∀ k, T k → S k) : DD T W D d cnt := by
  obtain ⟨⟨own, ho, hd⟩, ft, hS⟩ := h
  exact ⟨⟨own, fun k hk ht => ho k hk (hT k ht), hd⟩, ft, fun k hk => hS k (hT k hk)⟩
/-- one block turns, that isn't the disk's -/
theorem DiskAt.only {own : Nat → Prop} {B bc fc I ic : Nat} {fo : Option Addr} {y : List UInt8} {g : Nat} (h : DiskAt W own D B bc fo fc I ic y d) (ho : Only g W W') (hg : ¬ own g) (hn : 0 ≠ g) : DiskAt W' own D B bc fo fc I ic y d := by
  have e : ∀ k, own k → k ≠ g := fun k hk he => hg (he ▸ hk)
  refine ⟨h.cells.only ho (e _ h.oD), ho.bytes h.bytes (e _ h.oB), h.ylen, h.le, h.pre, ?_, h.flags.only ho (e _ h.oI), h.DB, h.DI, h.BI, h.oD, h.oB, h.oI, UK.TabAt_only h.tab ho hn, h.notab⟩
  rcases h.freeAt with h0 | ⟨F, e1, r, n1, n2, n3, n4⟩
  · exact .inl h0
  · exact .inr ⟨F, e1, r.only ho (e _ n4), n1, n2, n3, n4⟩
/-- own just what there is -/
theorem DiskAt.tight {own : Nat → Prop} {B bc fc I ic : Nat} {fo : Option Addr} {y : List UInt8} (h : DiskAt W own D B bc fo fc I ic y d) : DiskAt W (fun k => own k ∧ k < W.heap.size) D B bc fo fc I ic y d := by
  refine ⟨h.cells, h.bytes, h.ylen, h.le, h.pre, ?_, h.flags, h.DB, h.DI, h.BI, ⟨h.oD, h.cells.lt⟩, ⟨h.oB, h.bytes.lt⟩, ⟨h.oI, h.flags.lt⟩, h.tab, fun hh => h.notab hh.1⟩
  rcases h.freeAt with h0 | ⟨F, e1, r, n1, n2, n3, n4⟩
  · exact .inl h0
  · exact .inr ⟨F, e1, r, n1, n2, n3, n4, r.lt⟩
/-- a block that is in S turns, or a new one -/
theorem DD.push {g : Nat} (h : DD S W D d cnt) (ho : Only g W W') (hg : S g ∨ W.heap.size ≤ g) (hlt : g < W'.heap.size) (hn : 0 ≠ g) : DD (also S g) W' D d cnt := by
  obtain ⟨⟨own, hown, B, bc, fo, fc, I, ic, y, hd⟩, ft, hS⟩ := h
  have hng : ¬ (own g ∧ g < W.heap.size) := fun hh => by
    rcases hg with hg | hg
    · exact hown g hh.1 hg
    · omega
  refine ⟨⟨fun k => own k ∧ k < W.heap.size, fun k hk hs => ?_, B, bc, fo, fc, I, ic, y, hd.tight.only ho hng hn⟩, ft, fun k hk => ?_⟩
  · rcases hs with hs | rfl
    · exact hown k hk.1 hs
    · exact hng hk
  · rcases hk with hk | rfl
    · exact Nat.lt_of_lt_of_le (hS k hk) ho.size
    · exact hlt
theorem wr_page (x : List UInt8) (p : Nat) (s : List UInt8) (hs : s.length ≤ 504) (h : 512 * (p + 1) ≤ x.length) : (UK.wr x (512 * p) (pageL p s)).length = x.length :=
  UK.wr_length _ _ _ (by rw [pageL_length p s hs]; omega)
theorem puts_more (f : Fit d cnt) (h3 : d.puts + 1 < 1000000000) : 0 ≤ d.puts + 1 ∧ d.puts + 1 < 1000000000 := by have := f.puts; omega
theorem reads_more (f : Fit d cnt) (h3 : d.reads + 1 < 1000000000) : 0 ≤ d.reads + 1 ∧ d.reads + 1 < 1000000000 := by have := f.reads; omega
theorem fit_write (f : Fit d cnt) (h3 : d.puts + 1 < 1000000000) (p : Nat) (hp : p < cnt) (s : List UInt8) (hs : s.length ≤ 504) : Fit (writeD d p s) cnt :=
  ⟨(wr_page d.x p s hs (by rw [f.len]; omega)).trans f.len, f.flags, f.one, f.few, f.most, f.free, f.freeLe, f.rl, failN_wf _ f.wl, f.reads, puts_more f h3⟩
theorem fit_flush (f : Fit d cnt) (h3 : d.puts + 1 < 1000000000) : Fit (flushD d cnt) cnt := by
  unfold flushD
  split
  · exact ⟨f.len, f.flags, f.one, f.few, f.most, f.free, f.freeLe, f.rl, (by show (-1 : Int) ≤ -1 ∧ (-1 : Int) ≤ _; omega), f.reads, f.puts⟩
  · have := wr_page d.x 0 (headL d cnt) (by rw [headL_length]; decide) (by rw [f.len]; have := f.one; omega)
    exact ⟨this.trans f.len, f.flags, f.one, f.few, f.most, f.free, f.freeLe, f.rl, failN_wf _ f.wl, f.reads, puts_more f h3⟩
theorem fit_rl (f : Fit d cnt) (k : Int) (hk : -1 ≤ k ∧ k ≤ 9223372036854775807) : Fit { d with rl := k } cnt := ⟨f.len, f.flags, f.one, f.few, f.most, f.free, f.freeLe, hk, f.wl, f.reads, f.puts⟩
theorem fit_wl (f : Fit d cnt) (k : Int) (hk : -1 ≤ k ∧ k ≤ 9223372036854775807) : Fit { d with wl := k } cnt := ⟨f.len, f.flags, f.one, f.few, f.most, f.free, f.freeLe, f.rl, hk, f.reads, f.puts⟩
theorem fit_read (f : Fit d cnt) (h3 : d.reads + 1 < 1000000000) : Fit { d with rl := failN d.rl, reads := d.reads + 1 } cnt := ⟨f.len, f.flags, f.one, f.few, f.most, f.free, f.freeLe, failN_wf _ f.rl, f.wl, reads_more f h3, f.puts⟩
theorem fit_spoil (f : Fit d cnt) (k : Nat) (b : UInt8) : Fit (spoilD d k b) cnt := ⟨by show (d.x.set _ _).length = _; rw [List.length_set]; exact f.len, f.flags, f.one, f.few, f.most, f.free, f.freeLe, f.rl, f.wl, f.reads, f.puts⟩
theorem fit_give (f : Fit d cnt) (h3 : d.puts + 1 < 1000000000) (p : Nat) (h1 : 1 ≤ p) (hp : p < cnt) (hl : d.free.length < cnt) : Fit (giveD d p) cnt :=
  ⟨(wr_page d.x p (nextL d d.free.length) (by rw [nextL_length]; decide) (by rw [f.len]; omega)).trans f.len, by show (d.isf.set p true).length = cnt; rw [List.length_set]; exact f.flags, f.one, f.few, f.most, fun k hk => by
      rcases List.mem_append.1 hk with hk | hk
      · exact f.free k hk
      · rw [List.mem_singleton.1 hk]; exact ⟨h1, hp⟩, by show (d.free ++ [p]).length ≤ cnt; rw [List.length_append]; exact hl, f.rl, failN_wf _ f.wl, f.reads, puts_more f h3⟩
theorem fit_takeF (f : Fit d cnt) (h3 : d.puts + 1 < 1000000000) (l : List Nat) (p : Nat) (hl : d.free = l ++ [p]) : Fit (takeF d l p) cnt := by
  have hp := f.free p (by rw [hl]; exact List.mem_append_right _ (List.mem_singleton.2 rfl))
  have hll : l.length + 1 ≤ cnt := by have := f.freeLe; rw [hl, List.length_append] at this; exact this
  exact ⟨(wr_page d.x p [] (by decide) (by rw [f.len]; omega)).trans f.len, by show (d.isf.set p false).length = cnt; rw [List.length_set]; exact f.flags, f.one, f.few, f.most, fun k hk => f.free k (by rw [hl]; exact List.mem_append_left _ hk), by show l.length ≤ cnt; omega, f.rl, failN_wf _ f.wl, f.reads, puts_more f h3⟩
theorem fit_takeN (f : Fit d cnt) (h3 : d.puts + 1 < 1000000000) (hl : d.free = []) (hm : (cnt : Int) < d.most) : Fit (takeN d cnt) (cnt + 1) := by
  have hx : (d.x ++ UK.zeros 512).length = 512 * (cnt + 1) := by rw [List.length_append, UK.zeros_length, f.len]; omega
  refine ⟨(wr_page _ cnt [] (by decide) (by rw [hx]; omega)).trans hx, by show (d.isf ++ [false]).length = _; rw [List.length_append, f.flags]; rfl, by omega, ?_, ⟨f.most.1, f.most.2.1, by show ((cnt + 1 : Nat) : Int) ≤ d.most; omega⟩, fun k hk => ?_, ?_, f.rl, failN_wf _ f.wl, f.reads, puts_more f h3⟩
  · have := f.most.2.1; omega
  · have hk' : k ∈ d.free := hk
    rw [hl] at hk'; cases hk'
  · show d.free.length ≤ _
    rw [hl]; exact Nat.zero_le _
theorem armN_wf (k : Int) (h : k ≤ 9223372036854775807) : -1 ≤ armN k ∧ armN k ≤ 9223372036854775807 := by unfold armN; omega
/- the calls -/
theorem dd_new (W : World) (pages : Int) (ht : TabAt W) (S : Nat → Prop) (hS : ∀ k, S k → k < W.heap.size) :
    Calls Tryd.prog 14 #[.int .i64 pages] W fun e w' => e = .returned (.pointer (some ⟨W.heap.size, 0, none⟩)) ∧ DD S w' W.heap.size (newD pages) 1 ∧ Below W.heap.size W w' :=
  (new_any W pages ht).mono fun _ _ ⟨a, b, c⟩ => ⟨a, ⟨⟨_, fun k hk hs => by have := hS k hs; omega, b⟩, fit_flush (fit_bare pages) (by show (0 : Int) + 1 < _; omega), fun k hk => Nat.lt_of_lt_of_le (hS k hk) c.size⟩, c⟩
theorem dd_take_full (h : DD S W D d cnt) (hr : d.most - cnt + d.free.length = 0) :
    Calls Tryd.prog 86 #[.pointer (some ⟨D, 0, none⟩)] W fun e w' => e = .returned (.tuple #[.int .i64 0, .int .i64 6]) ∧ DD S w' D d cnt ∧ Kept S W w' :=
  h.same_ (fun _ _ _ _ _ _ _ _ hd => take_full hd h.fit hr) id
theorem dd_take_fail (h : DD S W D d cnt) (hr : 0 < d.most - cnt + d.free.length) (h0 : d.wl = 0) :
    Calls Tryd.prog 86 #[.pointer (some ⟨D, 0, none⟩)] W fun e w' => e = .returned (.tuple #[.int .i64 0, .int .i64 7]) ∧ DD S w' D { d with wl := -1 } cnt ∧ Kept S W w' :=
  h.same_ (fun _ _ _ _ _ _ _ _ hd => take_fail hd h.fit hr h0) (fun f => fit_wl f (-1) (by omega))
theorem dd_take_free (h : DD S W D d cnt) (h3 : d.puts + 1 < 1000000000) (l : List Nat) (p : Nat) (hl : d.free = l ++ [p]) (h0 : d.wl ≠ 0) :
    Calls Tryd.prog 86 #[.pointer (some ⟨D, 0, none⟩)] W fun e w' => e = .returned (.tuple #[.int .i64 p, .int .i64 0]) ∧ DD S w' D (takeF d l p) cnt ∧ Kept S W w' :=
  h.same_ (fun _ _ _ _ _ _ _ _ hd => take_free hd h.fit h3 l p hl h0) (fun f => fit_takeF f h3 l p hl)
theorem dd_take_new (h : DD S W D d cnt) (h3 : d.puts + 1 < 1000000000) (hl : d.free = []) (hm : (cnt : Int) < d.most) (h0 : d.wl ≠ 0) :
    Calls Tryd.prog 86 #[.pointer (some ⟨D, 0, none⟩)] W fun e w' => e = .returned (.tuple #[.int .i64 cnt, .int .i64 0]) ∧ DD S w' D (takeN d cnt) (cnt + 1) ∧ Kept S W w' :=
  h.do_ (fun _ _ _ _ _ _ _ _ hd => take_new hd h.fit h3 hl hm h0) (fun f => fit_takeN f h3 hl hm)
theorem dd_give_no (h : DD S W D d cnt) (p : Int) (hh : hasD d cnt p = false) :
    Calls Tryd.prog 108 #[.pointer (some ⟨D, 0, none⟩), .int .i64 p] W fun e w' => e = .returned (.int .i64 4) ∧ DD S w' D d cnt ∧ Kept S W w' :=
  h.same_ (fun _ _ _ _ _ _ _ _ hd => give_no hd h.fit p hh) id
theorem dd_give_fail (h : DD S W D d cnt) (p : Int) (hh : hasD d cnt p = true) (h0 : d.wl = 0) :
    Calls Tryd.prog 108 #[.pointer (some ⟨D, 0, none⟩), .int .i64 p] W fun e w' => e = .returned (.int .i64 7) ∧ DD S w' D { d with wl := -1 } cnt ∧ Kept S W w' :=
  h.same_ (fun _ _ _ _ _ _ _ _ hd => give_fail hd h.fit p hh h0) (fun f => fit_wl f (-1) (by omega))
theorem has_lt {p : Nat} (hh : hasD d cnt p = true) : 1 ≤ p ∧ p < cnt ∧ d.isf.getD p false = false := by
  unfold hasD at hh
  rw [Bool.and_eq_true, decide_eq_true_eq, Bool.not_eq_true', Int.toNat_natCast] at hh
  exact ⟨by omega, by omega, hh.2⟩
theorem dd_give_yes (h : DD S W D d cnt) (h3 : d.puts + 1 < 1000000000) (p : Nat) (hh : hasD d cnt p = true) (hl : d.free.length < cnt) (h0 : d.wl ≠ 0) :
    Calls Tryd.prog 108 #[.pointer (some ⟨D, 0, none⟩), .int .i64 p] W fun e w' => e = .returned (.int .i64 0) ∧ DD S w' D (giveD d p) cnt ∧ Kept S W w' :=
  h.do_ (fun _ _ _ _ _ _ _ _ hd => give_yes hd h.fit h3 p (has_lt hh).2.1 hh h0) (fun f => fit_give f h3 p (has_lt hh).1 (has_lt hh).2.1 hl)
theorem dd_read_no (h : DD S W D d cnt) (p : Int) (hh : hasD d cnt p = false) :
    Calls Tryd.prog 24 #[.pointer (some ⟨D, 0, none⟩), .int .i64 p] W fun e w' => e = .returned (.tuple #[.string (str []), .int .i64 4]) ∧ DD S w' D d cnt ∧ Kept S W w' :=
  h.same_ (fun _ _ _ _ _ _ _ _ hd => read_no hd h.fit p hh) id
theorem dd_read_fail (h : DD S W D d cnt) (p : Int) (hh : hasD d cnt p = true) (h0 : d.rl = 0) :
    Calls Tryd.prog 24 #[.pointer (some ⟨D, 0, none⟩), .int .i64 p] W fun e w' => e = .returned (.tuple #[.string (str []), .int .i64 7]) ∧ DD S w' D { d with rl := -1 } cnt ∧ Kept S W w' :=
  h.same_ (fun _ _ _ _ _ _ _ _ hd => read_fail hd h.fit p hh h0) (fun f => fit_rl f (-1) (by omega))
/-- behind a page read -/
def readD (d : Dk) : Dk := { d with rl := failN d.rl, reads := d.reads + 1 }
theorem dd_read_yes (h : DD S W D d cnt) (h3 : d.reads + 1 < 1000000000) (p : Nat) (hh : hasD d cnt p = true) (h0 : d.rl ≠ 0) :
    Calls Tryd.prog 24 #[.pointer (some ⟨D, 0, none⟩), .int .i64 p] W fun e w' => e = .returned (.tuple #[.string (str (lookL d.x p)), .int .i64 (readE d.x p)]) ∧ DD S w' D (readD d) cnt ∧ Kept S W w' :=
  h.same_ (fun _ _ _ _ _ _ _ _ hd => read_yes hd h.fit p (has_lt hh).2.1 hh h0) (fun f => fit_read f h3)
theorem dd_write_no (h : DD S W D d cnt) (p : Int) (hh : hasD d cnt p = false) (s : List UInt8) :
    Calls Tryd.prog 114 #[.pointer (some ⟨D, 0, none⟩), .int .i64 p, .string (str s)] W fun e w' => e = .returned (.int .i64 4) ∧ DD S w' D d cnt ∧ Kept S W w' :=
  h.same_ (fun _ _ _ _ _ _ _ _ hd => write_no hd h.fit p hh s) id
theorem dd_write_arg (h : DD S W D d cnt) (p : Int) (hh : hasD d cnt p = true) (s : List UInt8) (hs : s.length ≠ 504) :
    Calls Tryd.prog 114 #[.pointer (some ⟨D, 0, none⟩), .int .i64 p, .string (str s)] W fun e w' => e = .returned (.int .i64 1) ∧ DD S w' D d cnt ∧ Kept S W w' :=
  h.same_ (fun _ _ _ _ _ _ _ _ hd => write_arg hd h.fit p hh s hs) id
theorem dd_write_fail (h : DD S W D d cnt) (p : Int) (hh : hasD d cnt p = true) (h0 : d.wl = 0) (s : List UInt8) (hs : s.length = 504) :
    Calls Tryd.prog 114 #[.pointer (some ⟨D, 0, none⟩), .int .i64 p, .string (str s)] W fun e w' => e = .returned (.int .i64 7) ∧ DD S w' D { d with wl := -1 } cnt ∧ Kept S W w' :=
  h.same_ (fun _ _ _ _ _ _ _ _ hd => write_fail hd h.fit p hh h0 s hs) (fun f => fit_wl f (-1) (by omega))
theorem dd_write_yes (h : DD S W D d cnt) (h3 : d.puts + 1 < 1000000000) (p : Nat) (hh : hasD d cnt p = true) (h0 : d.wl ≠ 0) (s : List UInt8) (hs : s.length = 504) :
    Calls Tryd.prog 114 #[.pointer (some ⟨D, 0, none⟩), .int .i64 p, .string (str s)] W fun e w' => e = .returned (.int .i64 0) ∧ DD S w' D (writeD d p s) cnt ∧ Kept S W w' :=
  h.same_ (fun _ _ _ _ _ _ _ _ hd => write_yes hd h.fit h3 p (has_lt hh).2.1 hh h0 s hs) (fun f => fit_write f h3 p (has_lt hh).2.1 s (by omega))
theorem dd_flush (h : DD S W D d cnt) (h3 : d.puts + 1 < 1000000000) :
    Calls Tryd.prog 54 #[.pointer (some ⟨D, 0, none⟩)] W fun e w' => e = .returned (.int .i64 (failE d.wl)) ∧ DD S w' D (flushD d cnt) cnt ∧ Kept S W w' :=
  h.same_ (fun _ _ _ _ _ _ _ _ hd => flush_any hd h.fit h3) (fun f => fit_flush f h3)
theorem dd_count (h : DD S W D d cnt) :
    Calls Tryd.prog 23 #[.pointer (some ⟨D, 0, none⟩)] W fun e w' => e = .returned (.int .i64 cnt) ∧ w' = W := h.look_ (fun _ _ _ _ _ _ _ _ hd => count_any hd h.fit)
theorem dd_room (h : DD S W D d cnt) :
    Calls Tryd.prog 22 #[.pointer (some ⟨D, 0, none⟩)] W fun e w' => e = .returned (.int .i64 (d.most - cnt + d.free.length)) ∧ ∃ q, w' = W.drewN q := by
  have f := h.fit
  obtain ⟨⟨own, ho, B, bc, fo, fc, I, ic, y, hd⟩, ft⟩ := h
  exact room_any hd f
theorem dd_has (h : DD S W D d cnt) (p : Int) :
    Calls Tryd.prog 64 #[.pointer (some ⟨D, 0, none⟩), .int .i64 p] W fun e w' => e = .returned (.bool (hasD d cnt p)) ∧ ∃ q, w' = W.drewN q := by
  have f := h.fit
  obtain ⟨⟨own, ho, B, bc, fo, fc, I, ic, y, hd⟩, ft⟩ := h
  exact hasd_any hd f p
end
end Go.Proofs.YtjfkdfffolkblaaDoor
