/- The steepest step told, aspects, curvatures and cells of the program, where all is valid. -/
import Derived.Test.YtmldijckjenbcaaGreatDoorSteep
import Derived.Test.YtmldijckjenbcaaGreatDoorTerr
import Derived.Test.YtmldijckjenbcaaGreatDoorWithin
import Derived.Deep.RegionHeld3
import Derived.BigQuiet
namespace Go.Proofs.YtmldijckjenbcaaGreatDoor
open Go.RowKit

theorem steep_lt {g : Grid} {c : Nat} {s : Stp} {f : Bool} (h : steepT g c = (s, f)) : (f = true ∧ s ∈ nextT g c 8) ∨ (f = false ∧ s = ⟨0, 0, 0⟩) ∨ f = false := by
  rcases steep_spec g c with ⟨h1, _⟩ | ⟨h1, h2, _⟩
  · rw [h] at h1; exact .inr (.inr h1)
  · rw [h] at h1 h2; exact .inl ⟨h1, h2⟩
theorem orNotFoundT_any (n : Int) (b : Bool) (q k : Int) (hv : (b = true ∧ q = n ∧ k = 0) ∨ (b = false ∧ q = 0 ∧ k = 3)) (w : World) : Calls Tryz.prog 37 #[.int .i64 n, .bool b] w (RetS (.tuple #[.int .i64 q, .int .i64 k]) w) := by
  rcases hv with ⟨rfl, rfl, rfl⟩ | ⟨rfl, rfl, rfl⟩
  · go_enter Tryz.func37, Tryz.ntmps37
    go_wp2
    go_ret2
    exact ⟨rfl, rfl⟩
  · go_enter Tryz.func37, Tryz.ntmps37
    go_wp2
    go_ret2
    exact ⟨rfl, rfl⟩
set_option maxRecDepth 100000 in
set_option maxHeartbeats 1000000 in
theorem steepestOf_ok (g : GridR) (c : Nat) (s : Stp) (f : Bool) (q1 q2 q3 : Int) (w : World) (hgi : g.In w) (hgb : gridB g.val = true) (hc : c < g.heightsN) (hst : steepT g.val c = (s, f)) (hv : (f = true ∧ q1 = s.slope ∧ q2 = s.cell ∧ q3 = 0) ∨ (f = false ∧ q1 = 0 ∧ q2 = 0 ∧ q3 = 3)) :
    Calls Tryz.prog 12 #[.agg #[.int .i64 g.rows, .int .i64 g.columns, .int .i64 g.size, .slice g.heightsA g.heightsN g.heightsC], .int .i64 c] w (Ret (.tuple #[.int .i64 q1, .int .i64 q2, .int .i64 q3]) w) := by
  have HST := Lib.hid hst
  have HV := Lib.hid hv
  have hB : Below w.heap.size w (w.alloc (.cells #[.int .i64 g.rows, .int .i64 g.columns, .int .i64 g.size, .slice g.heightsA g.heightsN g.heightsC] 26)) := (Below.refl _ _).alloc (Nat.le_refl _) _
  have HO0 : Hid (BoxD w.heap.size g (w.alloc (.cells #[.int .i64 g.rows, .int .i64 g.columns, .int .i64 g.size, .slice g.heightsA g.heightsN g.heightsC] 26))) := ⟨Own.new w 26 #[.int .i64 g.rows, .int .i64 g.columns, .int .i64 g.size, .slice g.heightsA g.heightsN g.heightsC], hgi.below hB⟩
  have HB0 := Lib.hid hB
  have HGl : Hid (g.val.heights.length = g.heightsN) := hgi.1.len
  have HGB := Lib.hid hgb
  have HCC : Hid (cellC g.val [(c : Int)] = 0) := by
    rw [Hid]; unfold cellC
    rw [if_neg (by rw [HGB.out]; simp), if_neg (by rw [HGl.out]; simp [inB]; omega)]
  have hgn := hgi.1.le
  clear hst hv
  clear hgi hB hgb
  go_enter Tryz.func12, Tryz.ntmps12
  go_wp2_with fail
  obtain ⟨w0, hw0⟩ : ∃ w0, (w.alloc (.cells #[.int .i64 g.rows, .int .i64 g.columns, .int .i64 g.size, .slice g.heightsA g.heightsN g.heightsC] 26)).alloc (.cells #[.int .i64 c] 2) = w0 := ⟨_, rfl⟩
  have hBq : Below (w.alloc (.cells #[.int .i64 g.rows, .int .i64 g.columns, .int .i64 g.size, .slice g.heightsA g.heightsN g.heightsC] 26)).heap.size (w.alloc (.cells #[.int .i64 g.rows, .int .i64 g.columns, .int .i64 g.size, .slice g.heightsA g.heightsN g.heightsC] 26)) w0 := by rw [← hw0]; exact (Below.refl _ _).alloc (Nat.le_refl _) _
  have hcs : SliceOf w0 1 i64cells (some ⟨w.heap.size + 1, 0, none⟩) 1 [(c : Int)] := by
    have h := sliceOf_new (w.alloc (.cells #[.int .i64 g.rows, .int .i64 g.columns, .int .i64 g.size, .slice g.heightsA g.heightsN g.heightsC] 26)) 2 [(c : Int)] (by simp)
    rw [show (w.alloc (.cells #[.int .i64 g.rows, .int .i64 g.columns, .int .i64 g.size, .slice g.heightsA g.heightsN g.heightsC] 26)).heap.size = w.heap.size + 1 by simp] at h
    rw [← hw0]
    exact h
  rw [hw0]
  have HO1 := Lib.hid (HO0.out.grow hBq)
  have HB1 := Lib.hid (HB0.out.trans (hBq.mono HB0.out.size))
  clear hBq hw0
  refine (gridCode_any g _ 1 1 [(c : Int)] _ HO1.out.gi hcs).mono ?_
  rintro e w1 ⟨rfl, hb1⟩
  rw [HCC.out]
  have HO := Lib.hid (HO1.out.grow hb1)
  have HB := Lib.hid (HB1.out.trans (hb1.mono HB1.out.size))
  clear hb1 hcs
  obtain ⟨y0, y1, y2, y3, ly⟩ := HO.out.cells
  go_wp2_with fail
  clear y0 y1 y2 y3 ly
  refine (steepest_any g c w1 HO.out.gi HGB.out hc).mono ?_
  rintro e w2 ⟨rfl, hb2⟩
  rw [HST.out]
  obtain ⟨w3, hw3⟩ : ∃ w3, w2.alloc (.cells #[.int .i64 s.cell, .int .i64 s.dir, .int .i64 s.slope] 56) = w3 := ⟨_, rfl⟩
  obtain ⟨Z, hZ⟩ : ∃ Z, w2.heap.size = Z := ⟨_, rfl⟩
  have HZ3 : Hid (Own w3 Z 56 #[.int .i64 s.cell, .int .i64 s.dir, .int .i64 s.slope]) := by rw [Hid, ← hw3, ← hZ]; exact Own.new _ _ _
  have HB3 : Hid (Below w.heap.size w w3) := by rw [Hid, ← hw3]; have h := HB.out.trans (hb2.mono HB.out.size); exact h.alloc h.size _
  have HW3 := Lib.hid hw3
  have HZZ := Lib.hid hZ
  clear hb2 hw3 hZ
  have z0 := HZ3.out.cell 0
  have z2 := HZ3.out.cell 2
  simp at z0 z2
  have lz := HZ3.out.lt
  rcases HV.out with ⟨rfl, rfl, rfl, rfl⟩ | ⟨rfl, rfl, rfl, rfl⟩
  · go_wp2_with fail
    rw [HW3.out, HZZ.out]
    have hsub := fun (v : Sub w3) b o (h : b < w3.heap.size) => v.cell b o h
    refine wp_region_sub (by kernel_rfl) (by kernel_rfl) ?_
    repeat (go_big_quiet_step (fail))
    refine wpQuiet_nil ?_
    intro wg hg
    have HBG := Lib.hid (HB3.out.trans (hg.mono HB3.out.size))
    clear hsub hg z0 z2 lz
    go_wp2
    go_ret3
    exact Ret.mk rfl HBG.out
  · go_wp2
    try rw [HW3.out]
    go_ret3
    exact Ret.mk rfl HB3.out
set_option maxRecDepth 100000 in
set_option maxHeartbeats 1000000 in
theorem aspectOf_ok (g : GridR) (c : Nat) (s : Stp) (f : Bool) (q k : Int) (w : World) (hgi : g.In w) (hgb : gridB g.val = true) (hc : c < g.heightsN) (hst : steepT g.val c = (s, f)) (hv : (f = true ∧ q = s.dir ∧ k = 0) ∨ (f = false ∧ q = 0 ∧ k = 3)) :
    Calls Tryz.prog 13 #[.agg #[.int .i64 g.rows, .int .i64 g.columns, .int .i64 g.size, .slice g.heightsA g.heightsN g.heightsC], .int .i64 c] w (Ret (.tuple #[.int .i64 q, .int .i64 k]) w) := by
  have HST := Lib.hid hst
  have HV := Lib.hid hv
  have hB : Below w.heap.size w (w.alloc (.cells #[.int .i64 g.rows, .int .i64 g.columns, .int .i64 g.size, .slice g.heightsA g.heightsN g.heightsC] 26)) := (Below.refl _ _).alloc (Nat.le_refl _) _
  have HO0 : Hid (BoxD w.heap.size g (w.alloc (.cells #[.int .i64 g.rows, .int .i64 g.columns, .int .i64 g.size, .slice g.heightsA g.heightsN g.heightsC] 26))) := ⟨Own.new w 26 #[.int .i64 g.rows, .int .i64 g.columns, .int .i64 g.size, .slice g.heightsA g.heightsN g.heightsC], hgi.below hB⟩
  have HB0 := Lib.hid hB
  have HGl : Hid (g.val.heights.length = g.heightsN) := hgi.1.len
  have HGB := Lib.hid hgb
  have HCC : Hid (cellC g.val [(c : Int)] = 0) := by
    rw [Hid]; unfold cellC
    rw [if_neg (by rw [HGB.out]; simp), if_neg (by rw [HGl.out]; simp [inB]; omega)]
  have hgn := hgi.1.le
  clear hst hv
  clear hgi hB hgb
  go_enter Tryz.func13, Tryz.ntmps13
  go_wp2_with fail
  obtain ⟨w0, hw0⟩ : ∃ w0, (w.alloc (.cells #[.int .i64 g.rows, .int .i64 g.columns, .int .i64 g.size, .slice g.heightsA g.heightsN g.heightsC] 26)).alloc (.cells #[.int .i64 c] 2) = w0 := ⟨_, rfl⟩
  have hBq : Below (w.alloc (.cells #[.int .i64 g.rows, .int .i64 g.columns, .int .i64 g.size, .slice g.heightsA g.heightsN g.heightsC] 26)).heap.size (w.alloc (.cells #[.int .i64 g.rows, .int .i64 g.columns, .int .i64 g.size, .slice g.heightsA g.heightsN g.heightsC] 26)) w0 := by rw [← hw0]; exact (Below.refl _ _).alloc (Nat.le_refl _) _
  have hcs : SliceOf w0 1 i64cells (some ⟨w.heap.size + 1, 0, none⟩) 1 [(c : Int)] := by
    have h := sliceOf_new (w.alloc (.cells #[.int .i64 g.rows, .int .i64 g.columns, .int .i64 g.size, .slice g.heightsA g.heightsN g.heightsC] 26)) 2 [(c : Int)] (by simp)
    rw [show (w.alloc (.cells #[.int .i64 g.rows, .int .i64 g.columns, .int .i64 g.size, .slice g.heightsA g.heightsN g.heightsC] 26)).heap.size = w.heap.size + 1 by simp] at h
    rw [← hw0]
    exact h
  rw [hw0]
  have HO1 := Lib.hid (HO0.out.grow hBq)
  have HB1 := Lib.hid (HB0.out.trans (hBq.mono HB0.out.size))
  clear hBq hw0
  refine (gridCode_any g _ 1 1 [(c : Int)] _ HO1.out.gi hcs).mono ?_
  rintro e w1 ⟨rfl, hb1⟩
  rw [HCC.out]
  have HO := Lib.hid (HO1.out.grow hb1)
  have HB := Lib.hid (HB1.out.trans (hb1.mono HB1.out.size))
  clear hb1 hcs
  obtain ⟨y0, y1, y2, y3, ly⟩ := HO.out.cells
  go_wp2_with fail
  clear y0 y1 y2 y3 ly
  refine (steepest_any g c w1 HO.out.gi HGB.out hc).mono ?_
  rintro e w2 ⟨rfl, hb2⟩
  rw [HST.out]
  obtain ⟨w3, hw3⟩ : ∃ w3, w2.alloc (.cells #[.int .i64 s.cell, .int .i64 s.dir, .int .i64 s.slope] 56) = w3 := ⟨_, rfl⟩
  obtain ⟨Z, hZ⟩ : ∃ Z, w2.heap.size = Z := ⟨_, rfl⟩
  have HZ3 : Hid (Own w3 Z 56 #[.int .i64 s.cell, .int .i64 s.dir, .int .i64 s.slope]) := by rw [Hid, ← hw3, ← hZ]; exact Own.new _ _ _
  have HB3 : Hid (Below w.heap.size w w3) := by rw [Hid, ← hw3]; have h := HB.out.trans (hb2.mono HB.out.size); exact h.alloc h.size _
  have HW3 := Lib.hid hw3
  have HZZ := Lib.hid hZ
  clear hb2 hw3 hZ
  have z1 := HZ3.out.cell 1
  simp at z1
  have lz := HZ3.out.lt
  go_wp2_with fail
  rw [HW3.out, HZZ.out]
  go_wp2_with (go_at_call 37; refine (orNotFoundT_any s.dir f q k HV.out w3).mono ?_; rintro e w' ⟨rfl, rfl⟩)
  go_ret2
  exact Ret.ii rfl rfl HB3.out
set_option maxRecDepth 100000 in
set_option maxHeartbeats 1000000 in
theorem curvatureAt_ok (g : GridR) (c : Nat) (w : World) (hgi : g.In w) (hgb : gridB g.val = true) (hc : c < g.heightsN) :
    Calls Tryz.prog 15 #[.agg #[.int .i64 g.rows, .int .i64 g.columns, .int .i64 g.size, .slice g.heightsA g.heightsN g.heightsC], .int .i64 c] w (Ret (.tuple #[.int .i64 (bendT g.val c), .int .i64 0]) w) := by
  obtain ⟨ga, go, hgA, _⟩ := hts_at hgi hgb (show 0 < g.heightsN by omega)
  have HGA := Lib.hid hgA
  have hB : Below w.heap.size w (w.alloc (.cells #[.int .i64 g.rows, .int .i64 g.columns, .int .i64 g.size, .slice g.heightsA g.heightsN g.heightsC] 26)) := (Below.refl _ _).alloc (Nat.le_refl _) _
  have HO0 : Hid (BoxD w.heap.size g (w.alloc (.cells #[.int .i64 g.rows, .int .i64 g.columns, .int .i64 g.size, .slice g.heightsA g.heightsN g.heightsC] 26))) := ⟨Own.new w 26 #[.int .i64 g.rows, .int .i64 g.columns, .int .i64 g.size, .slice g.heightsA g.heightsN g.heightsC], hgi.below hB⟩
  have HB0 := Lib.hid hB
  have HGl : Hid (g.val.heights.length = g.heightsN) := hgi.1.len
  have HGB := Lib.hid hgb
  have HCC : Hid (cellC g.val [(c : Int)] = 0) := by
    rw [Hid]; unfold cellC
    rw [if_neg (by rw [HGB.out]; simp), if_neg (by rw [HGl.out]; simp [inB]; omega)]
  have hgn := hgi.1.le
  clear hgA
  clear hgi hB hgb
  go_enter Tryz.func15, Tryz.ntmps15
  go_wp2_with fail
  obtain ⟨w0, hw0⟩ : ∃ w0, (w.alloc (.cells #[.int .i64 g.rows, .int .i64 g.columns, .int .i64 g.size, .slice g.heightsA g.heightsN g.heightsC] 26)).alloc (.cells #[.int .i64 c] 2) = w0 := ⟨_, rfl⟩
  have hBq : Below (w.alloc (.cells #[.int .i64 g.rows, .int .i64 g.columns, .int .i64 g.size, .slice g.heightsA g.heightsN g.heightsC] 26)).heap.size (w.alloc (.cells #[.int .i64 g.rows, .int .i64 g.columns, .int .i64 g.size, .slice g.heightsA g.heightsN g.heightsC] 26)) w0 := by rw [← hw0]; exact (Below.refl _ _).alloc (Nat.le_refl _) _
  have hcs : SliceOf w0 1 i64cells (some ⟨w.heap.size + 1, 0, none⟩) 1 [(c : Int)] := by
    have h := sliceOf_new (w.alloc (.cells #[.int .i64 g.rows, .int .i64 g.columns, .int .i64 g.size, .slice g.heightsA g.heightsN g.heightsC] 26)) 2 [(c : Int)] (by simp)
    rw [show (w.alloc (.cells #[.int .i64 g.rows, .int .i64 g.columns, .int .i64 g.size, .slice g.heightsA g.heightsN g.heightsC] 26)).heap.size = w.heap.size + 1 by simp] at h
    rw [← hw0]
    exact h
  rw [hw0]
  have HO1 := Lib.hid (HO0.out.grow hBq)
  have HB1 := Lib.hid (HB0.out.trans (hBq.mono HB0.out.size))
  clear hBq hw0
  refine (gridCode_any g _ 1 1 [(c : Int)] _ HO1.out.gi hcs).mono ?_
  rintro e w1 ⟨rfl, hb1⟩
  rw [HCC.out]
  have HO := Lib.hid (HO1.out.grow hb1)
  have HB := Lib.hid (HB1.out.trans (hb1.mono HB1.out.size))
  clear hb1 hcs
  obtain ⟨y0, y1, y2, y3, ly⟩ := HO.out.cells
  have HC : Hid (c < g.val.heights.length) := by rw [Hid, HGl.out]; exact hc
  go_wp2_with fail
  clear y0 y1 y2 y3 ly
  refine (next_any g c w1 HO.out.gi HGB.out hc).mono ?_
  rintro e w2 ⟨v, rfl, hown, hb2⟩
  obtain ⟨L, hL⟩ : ∃ L, nextT g.val c 8 = L := ⟨_, rfl⟩
  have HL := Lib.hid hL
  rw [hL] at hown
  obtain ⟨A, cc, rfl, _, _, hsl⟩ := hown.slice Stp.cells_len
  obtain ⟨n, hn⟩ : ∃ n, L.length = n := ⟨_, rfl⟩
  have HLN := Lib.hid hn
  have hn8 : n ≤ 8 := by rw [← hn, ← hL]; exact nextT_len _ _ _
  rw [hn] at hsl ⊢
  have HSL := Lib.hid hsl
  have HO2 := Lib.hid (HO.out.grow hb2)
  have HB2 := Lib.hid (HB.out.trans (hb2.mono HB.out.size))
  clear hown hb2 hL hn hsl
  go_wp2
  go_loopg [21, 7] n (fun gk i s wr => ∃ (k : Nat) (q : Int), k ≤ n ∧ gk = n - k ∧ i = .int .i64 k ∧ s = .int .i64 q ∧ ((L.take k).map fun x => ht g.val x.cell - ht g.val c).sum = q ∧ Below w2.heap.size w2 wr)
  case atStart => exact ⟨0, 0, Nat.zero_le _, rfl, rfl, rfl, rfl, Below.refl _ _⟩
  case round =>
    obtain ⟨k, q, hk, hgk, rfl, rfl, hq, hbb⟩ := hrel
    have Hgk := Lib.hid hgk
    have HQ := Lib.hid hq
    have HBB := Lib.hid hbb
    clear hgk hq hbb
    by_cases hlt : k < n
    · obtain ⟨b1, o1, z, rfl, hb1, hzk, x0, x1, x2⟩ := stp_at (HSL.out.below HBB.out) hlt
      have HZK := Lib.hid hzk
      obtain ⟨d, hd⟩ := stepOf HGB.out HC.out (x := z) (by rw [HL.out]; exact List.mem_of_getElem? hzk)
      have hdN : d < g.heightsN := by rw [← HGl.out]; exact hd.lt
      have hq1 := bend_le HGB.out HC.out k
      have hq2 := bend_le HGB.out HC.out (k + 1)
      have hqs : ((L.take (k + 1)).map fun x => ht g.val x.cell - ht g.val c).sum = q + (ht g.val z.cell - ht g.val c) := by
        rw [take_snocT hzk, List.map_append, List.sum_append, HQ.out]; simp
      rw [HL.out, HQ.out] at hq1
      rw [HL.out, hqs] at hq2
      have HQS := Lib.hid hqs
      have hd5 := ht_bd HGB.out hd.lt
      have hc5 := ht_bd HGB.out HC.out
      obtain ⟨zc, zd, zs⟩ := z
      have hzc : zc = (d : Int) := hd.cell
      subst hzc
      simp only at x0 x1 x2 hq2 HQS
      obtain ⟨p, hp⟩ : ∃ p, ht g.val d = p := ⟨_, rfl⟩
      obtain ⟨r, hr⟩ : ∃ r, ht g.val c = r := ⟨_, rfl⟩
      have HP := Lib.hid hp
      have HR := Lib.hid hr
      rw [hp] at hd5
      rw [hr] at hc5
      rw [hp, hr] at hq2
      have hw1 : IntKind.i64.wrap (p - r) = p - r := IntWalk.i64_in _ (by omega)
      have hw2 : IntKind.i64.wrap (q + (p - r)) = q + (p - r) := IntWalk.i64_in _ (by omega)
      obtain ⟨w3, hw3⟩ : ∃ w3, wr.alloc (.cells #[.int .i64 d, .int .i64 zd, .int .i64 zs] 56) = w3 := ⟨_, rfl⟩
      obtain ⟨Z, hZ⟩ : ∃ Z, wr.heap.size = Z := ⟨_, rfl⟩
      have HZ3 : Hid (Own w3 Z 56 #[.int .i64 d, .int .i64 zd, .int .i64 zs]) := by rw [Hid, ← hw3, ← hZ]; exact Own.new _ _ _
      have HB3 : Hid (Below w2.heap.size w2 w3) := by rw [Hid, ← hw3]; exact HBB.out.alloc HBB.out.size _
      have HO3 := Lib.hid (HO2.out.grow HB3.out)
      have HW3 := Lib.hid hw3
      have HZZ := Lib.hid hZ
      have hgi3 := HO3.out.gi
      obtain ⟨e1, e2⟩ := ht_cell hgi3 HGB.out HGA.out hdN
      obtain ⟨e3, _⟩ := ht_cell hgi3 HGB.out HGA.out hc
      rw [hp] at e1
      rw [hr] at e3
      have E1 := Lib.hid e1
      have E3 := Lib.hid e3
      clear hzk hp hr hw3 hZ hgi3 e1 e3 hd hq1 hq2 hqs hd5 hc5
      go_wp2_with fail
      rw [HW3.out, HZZ.out]
      clear x0 x1 x2
      have e1 := E1.out
      have e3 := E3.out
      have z0 := HZ3.out.cell 0
      simp at z0
      have lz := HZ3.out.lt
      obtain ⟨y0, y1, y2, y3, ly⟩ := HO3.out.cells
      rw [HGA.out] at y3
      have hsub := fun (v : Sub w3) b o (h : b < w3.heap.size) => v.cell b o h
      refine wp_region_sub (by kernel_rfl) (by kernel_rfl) ?_
      repeat (go_big_quiet_step (fail))
      refine wpQuiet_nil ?_
      intro wg hg
      have HBG := Lib.hid (HB3.out.trans (hg.mono HB3.out.size))
      clear hsub hg y0 y1 y2 y3 ly z0 lz e1 e2 e3
      go_wp2
      go_roundg (n - (k + 1))
      case measure => have := Hgk.out; omega
      case rel => exact ⟨k + 1, q + (p - r), by omega, rfl, by go_num, rfl, by rw [HQS.out, HP.out, HR.out], HBG.out⟩
    · have hkn : k = n := by omega
      have HFIN : Hid (bendT g.val c = q) := by
        have h := HQ.out
        rw [List.take_of_length_le (by rw [HLN.out]; omega), ← HL.out] at h
        exact h
      go_wp2
      go_ret2
      exact Ret.ii HFIN.out.symm rfl (HB2.out.trans (HBB.out.mono HB2.out.size))
set_option maxRecDepth 100000 in
set_option maxHeartbeats 1000000 in
theorem cellAt_ok (g : GridR) (r cl : Int) (w : World) (hgi : g.In w) (hgb : gridB g.val = true) (hr : 0 ≤ r ∧ r ≤ g.rows - 1) (hcl : 0 ≤ cl ∧ cl ≤ g.columns - 1) :
    Calls Tryz.prog 16 #[.agg #[.int .i64 g.rows, .int .i64 g.columns, .int .i64 g.size, .slice g.heightsA g.heightsN g.heightsC], .int .i64 r, .int .i64 cl] w (Ret (.tuple #[.int .i64 (r * g.columns + cl), .int .i64 0]) w) := by
  have hB : Below w.heap.size w (w.alloc (.cells #[.int .i64 g.rows, .int .i64 g.columns, .int .i64 g.size, .slice g.heightsA g.heightsN g.heightsC] 26)) := (Below.refl _ _).alloc (Nat.le_refl _) _
  have HO0 : Hid (BoxD w.heap.size g (w.alloc (.cells #[.int .i64 g.rows, .int .i64 g.columns, .int .i64 g.size, .slice g.heightsA g.heightsN g.heightsC] 26))) := ⟨Own.new w 26 #[.int .i64 g.rows, .int .i64 g.columns, .int .i64 g.size, .slice g.heightsA g.heightsN g.heightsC], hgi.below hB⟩
  have HB0 := Lib.hid hB
  have HGB := Lib.hid hgb
  obtain ⟨p1, p2, _, _, _⟩ := gridB_parts hgb
  have q1 : 1 ≤ g.rows ∧ g.rows ≤ 8 := p1
  have q2 : 1 ≤ g.columns ∧ g.columns ≤ 8 := p2
  have e1 : 0 ≤ r * g.columns := Int.mul_nonneg hr.1 (by omega)
  have e2 : r * g.columns ≤ 7 * 8 := Int.le_trans (Int.mul_le_mul_of_nonneg_right (show r ≤ 7 by omega) (by omega)) (Int.mul_le_mul_of_nonneg_left q2.2 (by decide))
  have hw1 : IntKind.i64.wrap (r * g.columns) = r * g.columns := IntWalk.i64_in _ (by omega)
  have hw2 : IntKind.i64.wrap (r * g.columns + cl) = r * g.columns + cl := IntWalk.i64_in _ (by omega)
  have hi1 : inB r 0 (g.rows - 1) = true := inB_iff.2 hr
  have hi2 : inB cl 0 (g.columns - 1) = true := inB_iff.2 hcl
  have HI1 := Lib.hid hi1
  have HI2 := Lib.hid hi2
  clear hgi hB hgb p1 p2 hi1 hi2
  obtain ⟨y0, y1, y2, y3, ly⟩ := HO0.out.cells
  go_enter Tryz.func16, Tryz.ntmps16
  go_wp2_with fail
  clear y0 y1 y2 y3 ly
  refine (validGrid_any g _ HO0.out.gi).mono ?_
  rintro e w1 ⟨rfl, hb1⟩
  rw [HGB.out]
  have HO := Lib.hid (HO0.out.grow hb1)
  have HB := Lib.hid (HB0.out.trans (hb1.mono HB0.out.size))
  clear hb1
  obtain ⟨y0, y1, y2, y3, ly⟩ := HO.out.cells
  go_wp2_with fail
  refine (within_any r 0 (g.rows - 1) w1).mono ?_
  rintro e w' ⟨rfl, rfl⟩
  rw [HI1.out]
  go_wp2_with fail
  refine (within_any cl 0 (g.columns - 1) w1).mono ?_
  rintro e w' ⟨rfl, rfl⟩
  rw [HI2.out]
  go_wp2
  go_ret2
  exact Ret.ii rfl rfl HB.out
def aspN : Nat → ByteArray
  | 0 => ⟨#[78]⟩ | 1 => ⟨#[78, 69]⟩ | 2 => ⟨#[69]⟩ | 3 => ⟨#[83, 69]⟩ | 4 => ⟨#[83]⟩ | 5 => ⟨#[83, 87]⟩ | 6 => ⟨#[87]⟩ | _ => ⟨#[78, 87]⟩
theorem asp_0 (w : World) : (Instr.index 67 (.agg #[.string ⟨#[78]⟩, .string ⟨#[78, 69]⟩, .string ⟨#[69]⟩, .string ⟨#[83, 69]⟩, .string ⟨#[83]⟩, .string ⟨#[83, 87]⟩, .string ⟨#[87]⟩, .string ⟨#[78, 87]⟩]) (.int .i64 ((0 : Nat) : Int))).run Tryz.prog w = .ok (.string (aspN 0)) w := by kernel_rfl
theorem asp_1 (w : World) : (Instr.index 67 (.agg #[.string ⟨#[78]⟩, .string ⟨#[78, 69]⟩, .string ⟨#[69]⟩, .string ⟨#[83, 69]⟩, .string ⟨#[83]⟩, .string ⟨#[83, 87]⟩, .string ⟨#[87]⟩, .string ⟨#[78, 87]⟩]) (.int .i64 ((1 : Nat) : Int))).run Tryz.prog w = .ok (.string (aspN 1)) w := by kernel_rfl
theorem asp_2 (w : World) : (Instr.index 67 (.agg #[.string ⟨#[78]⟩, .string ⟨#[78, 69]⟩, .string ⟨#[69]⟩, .string ⟨#[83, 69]⟩, .string ⟨#[83]⟩, .string ⟨#[83, 87]⟩, .string ⟨#[87]⟩, .string ⟨#[78, 87]⟩]) (.int .i64 ((2 : Nat) : Int))).run Tryz.prog w = .ok (.string (aspN 2)) w := by kernel_rfl
theorem asp_3 (w : World) : (Instr.index 67 (.agg #[.string ⟨#[78]⟩, .string ⟨#[78, 69]⟩, .string ⟨#[69]⟩, .string ⟨#[83, 69]⟩, .string ⟨#[83]⟩, .string ⟨#[83, 87]⟩, .string ⟨#[87]⟩, .string ⟨#[78, 87]⟩]) (.int .i64 ((3 : Nat) : Int))).run Tryz.prog w = .ok (.string (aspN 3)) w := by kernel_rfl
theorem asp_4 (w : World) : (Instr.index 67 (.agg #[.string ⟨#[78]⟩, .string ⟨#[78, 69]⟩, .string ⟨#[69]⟩, .string ⟨#[83, 69]⟩, .string ⟨#[83]⟩, .string ⟨#[83, 87]⟩, .string ⟨#[87]⟩, .string ⟨#[78, 87]⟩]) (.int .i64 ((4 : Nat) : Int))).run Tryz.prog w = .ok (.string (aspN 4)) w := by kernel_rfl
theorem asp_5 (w : World) : (Instr.index 67 (.agg #[.string ⟨#[78]⟩, .string ⟨#[78, 69]⟩, .string ⟨#[69]⟩, .string ⟨#[83, 69]⟩, .string ⟨#[83]⟩, .string ⟨#[83, 87]⟩, .string ⟨#[87]⟩, .string ⟨#[78, 87]⟩]) (.int .i64 ((5 : Nat) : Int))).run Tryz.prog w = .ok (.string (aspN 5)) w := by kernel_rfl
theorem asp_6 (w : World) : (Instr.index 67 (.agg #[.string ⟨#[78]⟩, .string ⟨#[78, 69]⟩, .string ⟨#[69]⟩, .string ⟨#[83, 69]⟩, .string ⟨#[83]⟩, .string ⟨#[83, 87]⟩, .string ⟨#[87]⟩, .string ⟨#[78, 87]⟩]) (.int .i64 ((6 : Nat) : Int))).run Tryz.prog w = .ok (.string (aspN 6)) w := by kernel_rfl
theorem asp_7 (w : World) : (Instr.index 67 (.agg #[.string ⟨#[78]⟩, .string ⟨#[78, 69]⟩, .string ⟨#[69]⟩, .string ⟨#[83, 69]⟩, .string ⟨#[83]⟩, .string ⟨#[83, 87]⟩, .string ⟨#[87]⟩, .string ⟨#[78, 87]⟩]) (.int .i64 ((7 : Nat) : Int))).run Tryz.prog w = .ok (.string (aspN 7)) w := by kernel_rfl
theorem asp_at (k : Nat) (hk : k < 8) (w : World) : (Instr.index 67 (.agg #[.string ⟨#[78]⟩, .string ⟨#[78, 69]⟩, .string ⟨#[69]⟩, .string ⟨#[83, 69]⟩, .string ⟨#[83]⟩, .string ⟨#[83, 87]⟩, .string ⟨#[87]⟩, .string ⟨#[78, 87]⟩]) (.int .i64 k)).run Tryz.prog w = .ok (.string (aspN k)) w := by
  have h8 : k = 0 ∨ k = 1 ∨ k = 2 ∨ k = 3 ∨ k = 4 ∨ k = 5 ∨ k = 6 ∨ k = 7 := by omega
  rcases h8 with rfl | rfl | rfl | rfl | rfl | rfl | rfl | rfl
  · exact asp_0 w
  · exact asp_1 w
  · exact asp_2 w
  · exact asp_3 w
  · exact asp_4 w
  · exact asp_5 w
  · exact asp_6 w
  · exact asp_7 w
set_option maxRecDepth 100000 in
set_option maxHeartbeats 1000000 in
theorem aspectName_ok (k : Nat) (hk : k < 8) (w : World) : Calls Tryz.prog 19 #[.int .i64 k] w (RetS (.string (aspN k)) w) := by
  have hi : inB (k : Int) 0 7 = true := inB_iff.2 ⟨by omega, by omega⟩
  have HI := Lib.hid hi
  clear hi
  have hidx := asp_at k hk
  go_enter Tryz.func19, Tryz.ntmps19
  go_wp2_with fail
  refine (within_any (k : Int) 0 7 w).mono ?_
  rintro e w' ⟨rfl, rfl⟩
  rw [HI.out]
  go_wp2
  go_ret
  exact ⟨rfl, rfl⟩

end Go.Proofs.YtmldijckjenbcaaGreatDoor
