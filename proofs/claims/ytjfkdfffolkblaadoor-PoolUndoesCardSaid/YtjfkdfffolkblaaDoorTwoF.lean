/-
  What a flushed pool's disk has: Read, Room, Count.
-/
import Derived.Test.YtjfkdfffolkblaaDoorTwoB
import Derived.Test.YtjfkdfffolkblaaDoorDiskX
namespace Go.Proofs.YtjfkdfffolkblaaDoor
open Go.RowKit
open UK (str BytesAt nth Only Row Box)
open Go.BigFrame
section
variable {E : Nat → Prop} {W W' : World} {P D k : Nat} {A B : AP}
theorem PZ.len504 (h : PZ E W P D A k) {p : Nat} (hp : A.Has p) : (A.c p).length = 504 := by
  obtain ⟨FB, M, n, q, d, h1, hn, his⟩ := h
  by_cases hx : ∃ (i : Nat) (f : Fr), q.frames[i]? = some (some f) ∧ f.page = (p : Nat)
  · obtain ⟨i, f, hi, hf⟩ := hx
    have e := h1.calm.at_ i f hi
    rw [hf, Int.toNat_natCast] at e
    rw [← e]
    exact (h1.pd.pool.each i f hi).len
  · have e := h1.calm.off p hp.1 hp.2.1 (by rw [his.free]; exact hp.2.2.1) (fun i f hi hf => absurd ⟨i, f, hi, hf⟩ hx)
    rw [← e]
    have hok := h1.calm.clean.ok p hp.1 hp.2.1
    have hl := h1.calm.clean.fit.len
    have hlt := hp.2.1
    unfold lookL
    rw [if_pos hok, loadL_pg, List.length_drop, pgOf_length (by omega)]
theorem disk_room (h : PZ E W P D A k) (g : A.Good) :
    Calls Tryd.prog 22 #[.pointer (some ⟨D, 0, none⟩)] W fun e w' => e = .returned (.int .i64 A.rooms) ∧ Below W.heap.size W w' := by
  obtain ⟨FB, M, n, q, d, h1, hn, his⟩ := h
  refine (dd_room h1.pd.dd).mono ?_
  rintro e w' ⟨he, q, rfl⟩
  refine ⟨?_, UK.belowN (Below.refl _ _) q⟩
  rw [he]
  have h2 := g.most
  have h3 : d.most - (A.cnt : Int) + (d.free.length : Int) = (A.rooms : Int) := by
    rw [his.most, his.free]
    unfold AP.rooms
    omega
  rw [h3]
theorem disk_count (h : PZ E W P D A k) :
    Calls Tryd.prog 23 #[.pointer (some ⟨D, 0, none⟩)] W fun e w' => e = .returned (.int .i64 A.cnt) ∧ w' = W := by
  obtain ⟨FB, M, n, q, d, h1, hn, his⟩ := h
  exact dd_count h1.pd.dd
/-- a pool that is shut, and all that its pages have is on the disk -/
def PZR (E : Nat → Prop) (W : World) (P D : Nat) (A : AP) (k : Nat) : Prop :=
  ∃ FB M n q d, PS E W P D FB M n 0 q d A.cnt k A.c ∧ 1 ≤ n ∧ Is A q d ∧ A.op = none ∧ ∀ p, A.Has p → lookL d.x p = A.c p
theorem PZF.on (h : PZF E W P D A k) (ho : A.op = none) : PZR E W P D A k := by
  obtain ⟨FB, M, n, q, d0, h1, h2, h3, _, _, _, _, h8⟩ := h
  exact ⟨FB, M, n, q, _, h1, h2, h3, ho, fun p hp => h8 p hp.1 hp.2.1 hp.2.2.1⟩
theorem PZR.pz (h : PZR E W P D A k) : PZ E W P D A k := by
  obtain ⟨FB, M, n, q, d, h1, h2, h3, _⟩ := h
  exact ⟨FB, M, n, q, d, h1, h2, h3⟩
theorem stands_pzr (P D : Nat) (A : AP) (k : Nat) : Stands2 (fun E W => PZR E W P D A k) :=
  ⟨fun _ _ _ _ _ h a b c d e => by
    obtain ⟨FB, M, n, q, d', h1, r⟩ := h
    exact ⟨FB, M, n, q, d', h1.over a b c d e, r⟩, fun _ _ h => h.pz.tab.lt⟩
theorem stands_pzf (P D : Nat) (A : AP) (k : Nat) : Stands2 (fun E W => PZF E W P D A k) :=
  ⟨fun _ _ _ _ _ h a b c d e => by
    obtain ⟨FB, M, n, q, d', h1, r⟩ := h
    exact ⟨FB, M, n, q, d', h1.over a b c d e, r⟩, fun _ _ h => h.pz.tab.lt⟩
/-- what Read tells -/
def toldS (A : AP) (p : Nat) [Decidable (A.Has p)] : List UInt8 := if A.Has p then A.c p else []
def toldE (A : AP) (p : Nat) [Decidable (A.Has p)] : Int := if A.Has p then 0 else 4
open Classical in
theorem pzr_read (h : PZR E W P D A k) (hk : k < 900000000) (p : Nat) :
    Calls Tryd.prog 24 #[.pointer (some ⟨D, 0, none⟩), .int .i64 p] W fun e w' => e = .returned (.tuple #[.string (str (toldS A p)), .int .i64 (toldE A p)]) ∧ PZR E w' P D A (k + 1) ∧ Kept E W w' := by
  obtain ⟨FB, M, n, q, d, h1, hn, his, hop, hl⟩ := h
  have hhas := his.has h1.calm rfl (p : Int)
  have hg : (p : Int) ∉ goneL q.op := by
    have := his.op
    rw [hop] at this
    cases hq : q.op with
    | none => exact List.not_mem_nil
    | some x => rw [hq] at this; cases this
  have hiff : A.Has p ↔ hasD d A.cnt p = true := ⟨fun hh => (hhas.1 ⟨p, rfl, hh⟩).1, fun hh => by
    obtain ⟨m, e, hm⟩ := hhas.2 ⟨hh, hg⟩
    rw [Int.ofNat.inj e]; exact hm⟩
  have hr := h1.dok.reads
  refine (dd_read_u h1.pd.dd h1.dok hk p).mono ?_
  rintro e w' ⟨rfl, d2, k2⟩
  have hrl := h1.calm.clean.rl
  have o2 := h1.dok.read hk p
  unfold rreadS rreadE
  unfold rreadD at d2 o2
  unfold toldS toldE
  by_cases hh : A.Has p
  · have h3 := hiff.1 hh
    have n0 : ¬ hasD d A.cnt p = false := by rw [h3]; decide
    have n1 : ¬ d.rl = 0 := by rw [hrl]; decide
    rw [if_neg n0, if_neg n1] at d2 o2
    rw [if_neg n0, if_neg n1, if_neg n0, if_neg n1, if_pos hh, if_pos hh, Int.toNat_natCast, hl p hh]
    have hok := h1.calm.clean.ok p hh.1 hh.2.1
    refine ⟨by unfold readE; rw [hok]; rfl, ⟨FB, M, n, q, readD d, ⟨h1.pd.disk d2 k2, h1.ok, o2, h1.held, h1.pins, h1.len, h1.calm.read (by omega), fun o ho => by have := h1.lim o ho; omega⟩, hn, ⟨his.free, his.most, his.op⟩, hop, hl⟩, k2.mono (fun j hj => .inl hj)⟩
  · have h3 : hasD d A.cnt p = false := by
      cases hx : hasD d A.cnt p with
      | false => rfl
      | true => exact absurd (hiff.2 hx) hh
    rw [if_pos h3] at d2 o2
    rw [if_pos h3, if_pos h3, if_neg hh, if_neg hh]
    refine ⟨rfl, ⟨FB, M, n, q, d, ⟨h1.pd.disk d2 k2, h1.ok, o2, h1.held, h1.pins, h1.len, h1.calm, fun o ho => by have := h1.lim o ho; omega⟩, hn, his, hop, hl⟩, k2.mono (fun j hj => .inl hj)⟩
end
end Go.Proofs.YtjfkdfffolkblaaDoor
