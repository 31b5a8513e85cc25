/-
  Clean disks behind calls; two disks that are alike.
-/
import Derived.Test.YtamnhpijeiigcaaDoorDiskV
import Derived.Test.YtamnhpijeiigcaaDoorPlayA
namespace Go.Proofs.YtamnhpijeiigcaaDoor
open Go.RowKit
open UK (str BytesAt nth Only w32 Row)
open Go.BigFrame
section
variable {d x : Dk} {cnt k : Nat}
theorem Clean.wlne (h : Clean d cnt) : d.wl ≠ 0 := by rw [h.wl]; decide
theorem Clean.take_u (h : Clean d cnt) (o : Ok d cnt k) (hk : k < 1000) : Clean (tD d cnt) (tC d cnt) ∧ (tD d cnt).most = d.most := by
  have hp := o.puts
  have h3 : d.puts + 1 < 1000000000 := by omega
  rcases take_split d cnt with ⟨_, _, _, _, e, c⟩ | ⟨_, hz, _⟩ | ⟨hm, _, hf, _, _, e, c⟩ | ⟨_, l, p, hl, _, _, e, c⟩
  · rw [e, c]; exact ⟨h, rfl⟩
  · exact absurd hz h.wlne
  · rw [e, c]; exact ⟨h.takeN h3 hf hm, rfl⟩
  · rw [e, c]; exact ⟨h.takeF h3 l p hl, rfl⟩
theorem Clean.give_u (h : Clean d cnt) (o : Ok d cnt k) (hk : k < 1000) (p : Int) : Clean (rgiveD d cnt p) cnt ∧ (rgiveD d cnt p).most = d.most := by
  have hp := o.puts
  unfold rgiveD
  by_cases hh : hasD d cnt p = false
  · rw [if_pos hh]; exact ⟨h, rfl⟩
  · rw [if_neg hh, if_neg h.wlne]
    obtain ⟨q, rfl, hq⟩ := has_nat hh
    have hf := o.free hq
    exact ⟨h.give (by omega) q (has_lt hq).1 hf.1 hf.2.1, rfl⟩
theorem Clean.write_u (h : Clean d cnt) (o : Ok d cnt k) (hk : k < 1000) (p : Int) (s : List UInt8) : Clean (rwriteD d cnt p s) cnt ∧ (rwriteD d cnt p s).most = d.most := by
  have hp := o.puts
  unfold rwriteD
  by_cases hh : hasD d cnt p = false
  · rw [if_pos hh]; exact ⟨h, rfl⟩
  · rw [if_neg hh]
    by_cases hs : s.length ≠ 504
    · rw [if_pos hs]; exact ⟨h, rfl⟩
    · rw [if_neg hs, if_neg h.wlne]
      obtain ⟨q, rfl, hq⟩ := has_nat hh
      have hf := o.free hq
      exact ⟨h.write (by omega) q hf.1 hf.2.1 s (by omega), rfl⟩
theorem Clean.new (n : Int) : Clean (newD n) 1 := by
  refine ⟨(Ok.new n).fit, (Ok.new n).so, newD_rl n, (newD_still n).wl, fun p h1 h2 => by omega, fun i hi => ?_⟩
  rw [(newD_still n).free] at hi
  exact absurd hi (Nat.not_lt_zero _)
/-- alike, but for how much was read and written -/
structure Like (d x : Dk) : Prop where
  bytes : x.x = d.x
  free : x.free = d.free
  isf : x.isf = d.isf
  most : x.most = d.most
  rl : d.rl = -1
  wl : d.wl = -1
  rl' : x.rl = -1
  wl' : x.wl = -1
theorem Like.read (h : Like d x) (cnt : Nat) (p : Int) : rreadS x cnt p = rreadS d cnt p ∧ rreadE x cnt p = rreadE d cnt p ∧ Like (rreadD d cnt p) (rreadD x cnt p) := by
  have hh : hasD x cnt p = hasD d cnt p := by unfold hasD; rw [h.isf]
  have z1 : d.rl ≠ 0 := by rw [h.rl]; decide
  have z2 : x.rl ≠ 0 := by rw [h.rl']; decide
  refine ⟨?_, ?_, ?_⟩
  · unfold rreadS; rw [hh, if_neg z1, if_neg z2, h.bytes]
  · unfold rreadE; rw [hh, if_neg z1, if_neg z2, h.bytes]
  · unfold rreadD
    rw [hh, if_neg z1, if_neg z2]
    split
    · exact h
    · exact ⟨h.bytes, h.free, h.isf, h.most, by show failN d.rl = -1; rw [h.rl]; rfl, h.wl, by show failN x.rl = -1; rw [h.rl']; rfl, h.wl'⟩
theorem Like.take (h : Like d x) (cnt : Nat) : tP x cnt = tP d cnt ∧ tE x cnt = tE d cnt ∧ tC x cnt = tC d cnt ∧ Like (tD d cnt) (tD x cnt) := by
  have z1 : d.wl ≠ 0 := by rw [h.wl]; decide
  have z2 : x.wl ≠ 0 := by rw [h.wl']; decide
  refine ⟨?_, ?_, ?_, ?_⟩
  · unfold tP; rw [h.most, h.free, if_neg z1, if_neg z2]
  · unfold tE; rw [h.most, h.free, if_neg z1, if_neg z2]
  · unfold tC; rw [h.most, h.free, if_neg z1, if_neg z2]
  · unfold tD
    rw [h.most, h.free, if_neg z1, if_neg z2]
    split
    · exact h
    · split
      · exact ⟨by show UK.wr (x.x ++ _) _ _ = UK.wr (d.x ++ _) _ _; rw [h.bytes], h.free, by show x.isf ++ _ = d.isf ++ _; rw [h.isf], h.most, h.rl, failN_m1 h.wl, h.rl', failN_m1 h.wl'⟩
      · exact ⟨by show UK.wr x.x _ _ = UK.wr d.x _ _; rw [h.bytes], rfl, by show x.isf.set _ _ = d.isf.set _ _; rw [h.isf], h.most, h.rl, failN_m1 h.wl, h.rl', failN_m1 h.wl'⟩
/-- a flushed disk and its bytes, opened -/
theorem open_like (h : Clean d cnt) (o : Ok d cnt k) (hk : k < 1000) (pages : Int) (hm : d.most = clampD pages) : Like (flushD d cnt) (openD (flushD d cnt).x pages) ∧ Ok (openD (flushD d cnt).x pages) cnt 0 ∧ (openR (flushD d cnt).x pages).1 = 0 := by
  have hp := o.puts
  have h3 : d.puts + 1 < 1000000000 := by omega
  have hop := open_clean h h3 pages hm
  obtain ⟨hc, h0, _, hf, hi, hmo⟩ := h.flush h3
  have hlen := hc.fit.len
  have hone := h.fit.one
  have hmost := h.fit.most
  have hdiv : (flushD d cnt).x.length / 512 = cnt := by omega
  have e1 : openD (flushD d cnt).x pages = { x := (flushD d cnt).x, most := clampD pages, free := d.free, isf := flagsL cnt d.free.reverse, rl := -1, wl := -1, reads := 0, puts := 0 } := by
    unfold openD
    rw [hop, hdiv, List.reverse_reverse]
  have hfl : flagsL cnt d.free.reverse = d.isf := by
    refine List.ext_getElem (by rw [flagsL_length, h.fit.flags]) (fun i h1 h2 => ?_)
    have hic : i < cnt := by rwa [flagsL_length] at h1
    have a := flagsL_get cnt d.free.reverse i hic
    have b := h.so.mark i hic
    rw [List.getD_eq_getElem?_getD, List.getElem?_eq_getElem h1] at a
    rw [List.getD_eq_getElem?_getD, List.getElem?_eq_getElem h2] at b
    refine a.trans (Eq.trans ?_ b.symm)
    exact decide_eq_decide.2 List.mem_reverse
  have ho := openR_onway (flushD d cnt).x pages
  rw [hop, hdiv] at ho
  have hfit := fit_open (flushD d cnt).x pages d.free.reverse (by omega) (by omega) (by omega) (by rw [hdiv]; exact ho) d.free (by rw [List.length_reverse]; exact Nat.le_refl _) (fun p hh => List.mem_reverse.2 hh)
  rw [hdiv] at hfit
  rw [e1, hfl]
  rw [hfl] at hfit
  refine ⟨⟨rfl, hf.symm, hi.symm, by show clampD pages = _; rw [hmo, hm], hc.rl, hc.wl, rfl, rfl⟩, ⟨hfit, ⟨h.so.mark, h.so.nodup⟩, by show (0 : Int) ≤ _; omega, by show (0 : Int) ≤ _; omega⟩, by rw [hop]⟩
end
section
variable {E : Nat → Prop} {W : World} {D X cnt k m : Nat} {d x : Dk}
theorem two_read (h : Two E W D d cnt X x cnt) (o : Ok d cnt k) (hk : k < 1000) (p : Int) :
    Calls Tryd.prog 20 #[.pointer (some ⟨D, 0, none⟩), .int .i64 p] W fun e w' => e = .returned (.tuple #[.string (str (rreadS d cnt p)), .int .i64 (rreadE d cnt p)]) ∧ Two E w' D (rreadD d cnt p) cnt X x cnt ∧ Kept E W w' :=
  h.left fun _ hd => dd_read_u hd o hk p
theorem two_take (h : Two E W D d cnt X x cnt) (o : Ok d cnt k) (hk : k < 1000) :
    Calls Tryd.prog 11 #[.pointer (some ⟨D, 0, none⟩)] W fun e w' => e = .returned (.tuple #[.int .i64 (tP d cnt), .int .i64 (tE d cnt)]) ∧ Two E w' D (tD d cnt) (tC d cnt) X x cnt ∧ Kept E W w' :=
  h.left fun _ hd => dd_take_u hd o hk
end
end Go.Proofs.YtamnhpijeiigcaaDoor
