/-
  The document's disk: ReadPage.
-/
import Derived.Test.YtamnhpijeiigcaaDoorRefD
namespace Go.Proofs.YtamnhpijeiigcaaDoor
open Go.RowKit
open UK (str BytesAt nth Only w32 Row Box)
open Go.BigFrame
section
variable {N : Nat} {W W' w : World} {gp cp fc cnt : Nat} {fo : Option Addr} {d d' : Dk}
/-- ReadPage -/
def rreadE (d : Dk) (cnt : Nat) (p : Int) : Int := if hasD d cnt p = false then 4 else if d.rl = 0 then 7 else readE d.x p.toNat
def rreadS (d : Dk) (cnt : Nat) (p : Int) : List UInt8 := if hasD d cnt p = false then [] else if d.rl = 0 then [] else lookL d.x p.toNat
def rreadD (d : Dk) (cnt : Nat) (p : Int) : Dk := if hasD d cnt p = false then d else if d.rl = 0 then { d with rl := -1 } else readD d
set_option maxHeartbeats 1000000 in
set_option maxRecDepth 100000 in
theorem rreadpage_any (h : RefAt N W gp cp fo fc d cnt) (so : Sound d cnt) (f : Fit d cnt) (hq : d.reads + 1 < 1000000000) (p : Int) :
    Calls Tryd.prog 40 #[rval gp cnt cp fo d.free.length fc d, .int .i64 p] W fun e w' => Was N W w' gp fo (rreadD d cnt p) cnt (fun v => .tuple #[v, .string (str (rreadS d cnt p)), .int .i64 (rreadE d cnt p)]) e := by
  obtain ⟨V, HV, hd⟩ := RS.begin h
  have hq1 := f.reads.1
  by_cases hh : hasD d cnt p = false
  · have HE : Hid (rreadE d cnt p = 4) := by show _ = _; unfold rreadE; rw [if_pos hh]
    have HS : Hid (rreadS d cnt p = []) := by show _ = _; unfold rreadS; rw [if_pos hh]
    have HD : Hid (rreadD d cnt p = d) := by show _ = _; unfold rreadD; rw [if_pos hh]
    rw [HE.out, HD.out, HS.out]
    have HT := Lib.hid (rs_taken hd so f p)
    rw [hh] at HT
    unfold rval
    go_enter Tryd.func40, Tryd.ntmps40
    go_wp2_with fail
    rw [← HV.out]
    refine HT.out.mono ?_
    rintro e w1 ⟨rfl, hd⟩
    obtain ⟨u0, u1, u2, u3, u4, u5, u6, uf⟩ := hd.box.cells7
    obtain ⟨t0, t1, t2, t3, t4, t5, t6, tf⟩ := hd.ans.cells7
    go_wp2
    refine bodyPost_ret (UK.box_ret3 rfl _ (hd.ans.fill7 _ _ _ _ _ _ _) rfl disk_under rfl disk_size) rfl ?_
    exact ⟨gp, cp, fo, fc, ⟨.inl rfl, fun F e => .inl e⟩, rfl, hd.done _ _ _ _ _ _ _⟩
  · have hh1 : hasD d cnt p = true := by simpa using hh
    obtain ⟨k, rfl⟩ : ∃ k : Nat, p = k := ⟨p.toNat, by unfold hasD at hh1; rw [Bool.and_eq_true, decide_eq_true_eq] at hh1; omega⟩
    have hp := has_lt hh1
    have hfew := f.few
    have HT := Lib.hid (rs_taken hd so f k)
    rw [hh1] at HT
    have hF := fun w => rfails_any d.rl f.rl w
    by_cases hz : d.rl = 0
    · have HE : Hid (rreadE d cnt k = 7) := by show _ = _; unfold rreadE; rw [if_neg hh, if_pos hz]
      have HS : Hid (rreadS d cnt k = []) := by show _ = _; unfold rreadS; rw [if_neg hh, if_pos hz]
      have HD : Hid (rreadD d cnt k = { d with rl := -1 }) := by show _ = _; unfold rreadD; rw [if_neg hh, if_pos hz]
      rw [HE.out, HD.out, HS.out]
      rw [show failN d.rl = -1 by unfold failN; rw [if_pos hz], beq_iff_eq.2 hz] at hF
      clear hh hh1 HE HD HS hz
      unfold rval
      go_enter Tryd.func40, Tryd.ntmps40
      go_wp2_with fail
      rw [← HV.out]
      refine HT.out.mono ?_
      rintro e w1 ⟨rfl, hd⟩
      obtain ⟨u0, u1, u2, u3, u4, u5, u6, uf⟩ := hd.box.cells7
      obtain ⟨t0, t1, t2, t3, t4, t5, t6, tf⟩ := hd.ans.cells7
      have hd3 := hd.setRl (-1)
      go_wp2_with fail
      refine (hF _).mono ?_
      rintro e w2 ⟨rfl, rfl⟩
      go_wp2
      refine bodyPost_ret (UK.box_ret3 rfl _ (hd3.ans.fill7 _ _ _ _ _ _ _) rfl disk_under rfl disk_size) rfl ?_
      exact ⟨gp, cp, fo, fc, ⟨.inl rfl, fun F e => .inl e⟩, rfl, hd3.done _ _ _ _ _ _ _⟩
    · have HE : Hid (rreadE d cnt k = readE d.x k) := by show _ = _; unfold rreadE; rw [if_neg hh, if_neg hz]; rfl
      have HS : Hid (rreadS d cnt k = lookL d.x k) := by show _ = _; unfold rreadS; rw [if_neg hh, if_neg hz]; rfl
      have HD : Hid (rreadD d cnt k = readD d) := by show _ = _; unfold rreadD; rw [if_neg hh, if_neg hz]
      rw [HE.out, HD.out, HS.out]
      rw [beq_eq_false_iff_ne.2 hz] at hF
      have hk2 := hp.2.1
      have hgl := pgOf_length (x := d.x) (p := k) (by rw [f.len]; omega)
      have hok := okB_pg d.x k
      have hlo := loadL_pg d.x k
      clear hh hh1 HE HD HS hz
      unfold rval
      go_enter Tryd.func40, Tryd.ntmps40
      go_wp2_with fail
      rw [← HV.out]
      refine HT.out.mono ?_
      rintro e w1 ⟨rfl, hd⟩
      obtain ⟨u0, u1, u2, u3, u4, u5, u6, uf⟩ := hd.box.cells7
      obtain ⟨t0, t1, t2, t3, t4, t5, t6, tf⟩ := hd.ans.cells7
      have hd3 := (hd.setRl (failN d.rl)).setReads (d.reads + 1)
      have cp1 := hd3.ref.page k hk2
      have hkc : k < cp := by have := hd3.ref.pages.le; rw [texts_length, pagesOf_length] at this; omega
      have HR := Lib.hid (rs_right hd3 (pgOf d.x k) k (by omega) hgl)
      generalize hok2 : okP (pgOf d.x k) k = b at hok HR
      go_wp2_with fail
      refine (hF _).mono ?_
      rintro e w2 ⟨rfl, rfl⟩
      go_wp2_with fail
      refine HR.out.mono ?_
      rintro e w3 ⟨rfl, hd4⟩
      obtain ⟨u0, u1, u2, u3, u4, u5, u6, uf⟩ := hd4.box.cells7
      obtain ⟨t0, t1, t2, t3, t4, t5, t6, tf⟩ := hd4.ans.cells7
      have cp2 : w3.cell? ⟨gp, k, none⟩ = some (.string (str (pgOf d.x k))) := hd4.ref.page k hk2
      cases b
      · have H1 : Hid (readE d.x k = 8) := by show _ = _; unfold readE; rw [hok]; rfl
        have H2 : Hid (lookL d.x k = []) := lookL_no hok
        go_wp2
        refine bodyPost_ret (UK.box_ret3 rfl _ (hd4.ans.fill7 _ _ _ _ _ _ _) rfl disk_under rfl disk_size) rfl ?_
        exact ⟨gp, cp, fo, fc, ⟨.inl rfl, fun F e => .inl e⟩, by rw [H1.out, H2.out] <;> rfl, hd4.done _ _ _ _ _ _ _⟩
      · have H1 : Hid (readE d.x k = 0) := by show _ = _; unfold readE; rw [hok]; rfl
        have H2 : Hid (lookL d.x k = ((pgOf d.x k).take 512).drop 8) := by show _ = _; rw [lookL_yes hok, hlo, List.take_of_length_le (i := 512) (by omega)]
        go_wp2_with fail
        have hd5 := hd4.drew
        obtain ⟨u0', u1', u2', u3', u4', u5', u6', uf'⟩ := hd5.box.cells7
        obtain ⟨t0', t1', t2', t3', t4', t5', t6', tf'⟩ := hd5.ans.cells7
        have cp2' : w3.drew.cell? ⟨gp, k, none⟩ = some (.string (str (pgOf d.x k))) := hd5.ref.page k hk2
        have hne : gp ≠ W.heap.size + 1 := by have := hd4.oldP; omega
        have hne2 : W.heap.size + 1 ≠ gp := fun e => hne e.symm
        go_region
        go_wp2
        refine bodyPost_ret (UK.box_ret3 rfl _ (UK.Box.drew (hd4.ans.fill7 _ _ _ _ _ _ _)) rfl disk_under rfl disk_size) rfl ?_
        exact ⟨gp, cp, fo, fc, ⟨.inl rfl, fun F e => .inl e⟩, by rw [H1.out, H2.out] <;> rfl, hd4.doneD _ _ _ _ _ _ _⟩
end
end Go.Proofs.YtamnhpijeiigcaaDoor
