/-
  A pool that is flushed; how often pages are used.
-/
import Derived.Test.YtjfkdfffolkblaaDoorPoolJ
namespace Go.Proofs.YtjfkdfffolkblaaDoor
open Go.RowKit
open UK (str BytesAt nth Only Row Box)
open Go.BigFrame
section
variable {E : Nat → Prop} {W W' : World} {P D k : Nat} {A : AP}
/-- behind Flush: all that pages have is on the disk -/
def PZF (E : Nat → Prop) (W : World) (P D : Nat) (A : AP) (k : Nat) : Prop :=
  ∃ FB M n q d0, PS E W P D FB M n 0 q (flushD d0 A.cnt) A.cnt k A.c ∧ 1 ≤ n ∧ Is A q (flushD d0 A.cnt) ∧ Clean d0 A.cnt ∧ d0.puts + 1 < 1000000000 ∧ d0.free = A.free ∧ d0.most = A.most ∧ ∀ p, 1 ≤ p → p < A.cnt → p ∉ A.free → lookL (flushD d0 A.cnt).x p = A.c p
theorem PZF.pz (h : PZF E W P D A k) : PZ E W P D A k := by
  obtain ⟨FB, M, n, q, d0, h1, h2, h3, _⟩ := h
  exact ⟨FB, M, n, q, _, h1, h2, h3⟩
theorem PZF.next (h : PZF E W P D A k) (hb : Below W.heap.size W W') : PZF E W' P D A k := by
  obtain ⟨FB, M, n, q, d0, h1, r⟩ := h
  exact ⟨FB, M, n, q, d0, h1.wide hb (fun _ hj => .inl hj), r⟩
theorem pz_flush (h : PZ E W P D A k) (hk : k + 1001 < 900000000) :
    Calls Tryd.prog 21 #[.pointer (some ⟨P, 0, none⟩)] W fun e w' => e = .returned (.int .i64 0) ∧ PZF E w' P D A (k + 1001) ∧ Kept E W w' := by
  obtain ⟨FB, M, n, q, d, h1, hn, his⟩ := h
  have hn1000 : n ≤ 1000 := by rw [← h1.len]; exact h1.ok.few
  refine (pflush_any h1 (by omega)).mono ?_
  rintro e w' ⟨q', d0, rfl, s, kk, hop, hc, hp, hfr, hmo, hl⟩
  obtain ⟨_, _, _, f1, _, f3⟩ := hc.flush hp
  exact ⟨rfl, ⟨FB, M, n, q', d0, s.up (by omega), hn, ⟨by rw [f1, hfr, his.free], by rw [f3, hmo, his.most], by rw [hop]; exact his.op⟩, hc, hp, hfr.trans his.free, hmo.trans his.most, fun p a b c => hl p a b (by rw [his.free]; exact c)⟩, kk⟩
theorem pz_pinned (h : PZ E W P D A k) :
    Calls Tryd.prog 52 #[.pointer (some ⟨P, 0, none⟩)] W fun e w' => e = .returned (.int .i64 0) ∧ w' = W := by
  obtain ⟨FB, M, n, q, d, h1, hn, his⟩ := h
  have := pinned_any h1.pd.pool
  rw [h1.pins] at this
  exact this
end
end Go.Proofs.YtjfkdfffolkblaaDoor
