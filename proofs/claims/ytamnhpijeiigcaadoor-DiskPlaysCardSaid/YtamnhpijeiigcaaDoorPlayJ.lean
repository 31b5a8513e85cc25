/-
  DiskPlays, walked, whatever it is handed.
-/
import Derived.Test.YtamnhpijeiigcaaDoorPlayI
namespace Go.Proofs.YtamnhpijeiigcaaDoor
open Go.RowKit
open UK (str BytesAt nth Only w32 Row Box)
open Go.BigFrame
set_option maxHeartbeats 400000 in
theorem dp_out (n : Int) (hn : 30 < n) (v : Value) (W : World) (ht : TabAt W) :
    Calls Tryd.prog 6 #[.int .i64 n, v] W fun e w' => e = .returned (.bool true) ∧ Below W.heap.size W w' := by
  have haw := awake_any W ht
  go_enter Tryd.func6, Tryd.ntmps6
  go_wp2_with fail
  refine haw.mono ?_
  rintro e w' ⟨rfl, hb⟩
  go_wp2
  go_ret
  exact ⟨rfl, hb⟩
set_option maxRecDepth 100000 in
theorem dp_walk (W : World) (ht : TabAt W) {H : Type} {enc : TypeId × Value → H} {base : Nat} {d : DataW H} {p : List MemPlace} (n : Int) (_hn : (Lit.int .i64 n).wf = true) (v : Value) (hok : Value.okWide Tryd.prog W .any base 43 v) (h : DataW.Trod enc Tryd.prog W 0 (fun _ => true) true 43 v d p) :
    Calls Tryd.prog 6 #[.int .i64 n, v] W fun e w' => e = .returned (.bool true) ∧ Below W.heap.size W w' := by
  by_cases hn : n ≤ 30
  · obtain ⟨ao, len, cap, rfl, hv⟩ := acts_open W v hok h
    exact dp_any n hn ao len cap W ht (Lib.hid hv)
  · exact dp_out n (by omega) v W ht
end Go.Proofs.YtamnhpijeiigcaaDoor
