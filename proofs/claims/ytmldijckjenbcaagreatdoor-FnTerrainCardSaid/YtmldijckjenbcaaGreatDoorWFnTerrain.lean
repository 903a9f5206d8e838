/- The walk of the law FnTerrain: it returns true. -/
import Derived.Test.YtmldijckjenbcaaGreatDoorR8Grid
import Derived.Test.YtmldijckjenbcaaGreatDoorR8
import Derived.Test.YtmldijckjenbcaaGreatDoorNear
import Derived.Test.YtmldijckjenbcaaGreatDoorTerrQ
import Derived.Test.YtmldijckjenbcaaGreatDoorTerr3
import Derived.Test.YtmldijckjenbcaaGreatDoorTerr2
import Derived.Test.YtmldijckjenbcaaGreatDoorTerr
import Derived.Test.YtmldijckjenbcaaGreatDoorGridRd
import Derived.Test.YtmldijckjenbcaaGreatDoorR8Same
import Derived.Test.YtmldijckjenbcaaGreatDoorBoxK
import Derived.Deep.RegionHeld3
import Derived.BigQuiet
namespace Go.Proofs.YtmldijckjenbcaaGreatDoor
open Go.RowKit

theorem last_at {ys : List Int} {d : Int} {m : Nat} (h : ys.getLast? = some d) (hl : ys.length = m + 1) : ys[m]? = some d := by
  rw [List.getLast?_eq_getElem?, hl] at h
  exact h
theorem asp_ne : ∀ k, k < 8 → ((aspN k).toList == (⟨#[]⟩ : ByteArray).toList) = false := by decide +kernel
theorem asp_ne2 : ∀ k, k < 8 → ((aspN k).toList == []) = false := by decide +kernel
set_option maxRecDepth 100000 in
set_option maxHeartbeats 4000000 in
theorem walk_FnTerrain (A0 : Option Addr) (n0 c0 : Nat) (x0 : List Int) (A1 : Option Addr) (n1 c1 : Nat) (x1 : List Int) (w : World) (s0 : SliceOf w 1 u8cells A0 n0 x0) (g0 : ∀ x ∈ x0, 0 ≤ x ∧ x ≤ 255) (s1 : SliceOf w 1 u8cells A1 n1 x1) (_g1 : ∀ x ∈ x1, 0 ≤ x ∧ x ≤ 255) (ht : LibAt w.heap.size w) :
    Calls Tryz.prog 3 #[.slice A0 n0 c0, .slice A1 n1 c1] w (Ret (.bool true) w) := by
  have S0 := Lib.hid s0
  have G0 := Lib.hid g0
  have HLB := Lib.hid ht
  have hn0 := s0.le
  have hn1 := s1.le
  clear s0 s1 g0 ht
  cases hlong : (decide (1048576 < n0) || decide (1048576 < n1))
  rotate_left
  · go_enter Tryz.func3, Tryz.ntmps3
    go_wp2_with (go_at_call 4; refine (r8Long_any A0 A1 n0 c0 n1 c1 _ hn0 hn1).mono ?_; rintro e w' ⟨rfl, rfl⟩; rw [hlong])
    go_ret
    exact Ret.b rfl (Below.refl _ _)
  go_enter Tryz.func3, Tryz.ntmps3
  go_wp2_with fail
  refine (r8Long_any A0 A1 n0 c0 n1 c1 _ hn0 hn1).mono ?_
  rintro e w' ⟨rfl, rfl⟩
  rw [hlong]
  clear hlong
  go_wp2_with fail
  refine (r8Grid_any A0 n0 c0 x0 w S0.out G0.out).mono ?_
  rintro e w1 ⟨g, rfl, hgi, hgb, hb1, _⟩
  obtain ⟨X, hX⟩ : ∃ X, w1.heap.size = X := ⟨_, rfl⟩
  obtain ⟨wb, hwb⟩ : ∃ wb, w1.alloc (.cells #[.int .i64 g.rows, .int .i64 g.columns, .int .i64 g.size, .slice g.heightsA g.heightsN g.heightsC] 26) = wb := ⟨_, rfl⟩
  have hbb : Below w1.heap.size w1 wb := by rw [← hwb]; exact (Below.refl _ _).alloc (Nat.le_refl _) _
  have HBX : Hid (BoxD X g wb) := ⟨by rw [← hwb, ← hX]; exact Own.new _ _ _, hgi.below hbb⟩
  have HBW : Hid (Below w.heap.size w wb) := hb1.trans (hbb.mono hb1.size)
  have HLB1 := Lib.hid (HLB.out.grow HBW.out)
  have HGB := Lib.hid hgb
  have hglen : g.val.heights.length = g.heightsN := hgi.1.len
  have hn64 : 1 ≤ g.heightsN ∧ g.heightsN ≤ 64 := by
    have h := gridB_parts hgb
    have h2 := (mul_i64 h.1 h.2.1).2
    have h3 := h.2.2.2.1
    rw [hglen] at h3
    omega
  obtain ⟨hn1', hn64'⟩ := hn64
  have HGL := Lib.hid hglen
  obtain ⟨ga, go, hgA, _⟩ := hts_at hgi hgb (show 0 < g.heightsN by omega)
  have HGA := Lib.hid hgA
  obtain ⟨y0, y1, y2, y3, ly⟩ := HBX.out.cells
  clear hb1 hbb hgi hgb hglen hgA
  go_wp2_with fail
  try rw [hwb]
  clear hwb hX y0 y1 y2 y3 ly
  refine (implGridText_ok g wb HBX.out.gi HGB.out HLB1.out.tab).mono ?_
  rintro e w2 ⟨rfl, hb2⟩
  have HX2 := Lib.hid (HBX.out.grow hb2)
  have HB2 := Lib.hid (HBW.out.trans (hb2.mono HBW.out.size))
  have HLB2 := Lib.hid (HLB1.out.grow hb2)
  clear hb2
  go_wp2_with fail
  refine (implReadGrid_ok g.val w2 HGB.out HLB2.out).mono ?_
  rintro e w3 ⟨p, rfl, hpv, hpi, hb3⟩
  obtain ⟨pr, pc, ps, qA, pN, qC, ph⟩ := p
  have hp1 : pr = g.rows := congrArg Grid.rows hpv
  have hp2 : pc = g.columns := congrArg Grid.columns hpv
  have hp3 : ps = g.size := congrArg Grid.size hpv
  have hp4 : ph = g.heights := congrArg Grid.heights hpv
  have hp5 : pN = g.heightsN := by
    have h := hpi.1.len
    rw [hp4] at h
    exact h.symm.trans HGL.out
  subst hp1 hp2 hp3 hp4 hp5
  have hq := hpi.1
  obtain ⟨Y, hY⟩ : ∃ Y, w3.heap.size = Y := ⟨_, rfl⟩
  obtain ⟨w4, hw4⟩ : ∃ w4, w3.alloc (.cells #[.int .i64 g.rows, .int .i64 g.columns, .int .i64 g.size, .slice qA g.heightsN qC] 26) = w4 := ⟨_, rfl⟩
  have hb4 : Below w3.heap.size w3 w4 := by rw [← hw4]; exact (Below.refl _ _).alloc (Nat.le_refl _) _
  have HY4 : Hid (Own w4 Y 26 #[.int .i64 g.rows, .int .i64 g.columns, .int .i64 g.size, .slice qA g.heightsN qC]) := by rw [Hid, ← hw4, ← hY]; exact Own.new _ _ _
  have HQ4 := Lib.hid (hq.below hb4)
  have HX4 := Lib.hid ((HX2.out.grow hb3).grow hb4)
  have HB4 : Hid (Below w.heap.size w w4) := (HB2.out.trans (hb3.mono HB2.out.size)).trans (hb4.mono (Nat.le_trans HB2.out.size hb3.size))
  obtain ⟨y0, y1, y2, y3, ly⟩ := HX4.out.cells
  clear hpv hpi hb3 hb4 hq
  go_wp2_with fail
  try rw [hw4]
  clear hw4 hY y0 y1 y2 y3 ly
  refine (pits_ok g w4 HX4.out.gi HGB.out hn64').mono ?_
  rintro e w5 ⟨v, rfl, hown, hb5⟩
  obtain ⟨PT, hPT⟩ : ∃ PT, whereT (pitB g.val) g.heightsN = PT := ⟨_, rfl⟩
  have HPT := Lib.hid hPT
  have hpl0 : 0 < PT.length := by rw [← hPT, ← HGL.out]; exact pits_some HGB.out
  rw [hPT] at hown
  obtain ⟨PA, pc, rfl, _, _, hpsl⟩ := hown.slice i64cells_len
  obtain ⟨pl, hpl⟩ : ∃ pl, PT.length = pl := ⟨_, rfl⟩
  rw [hpl] at hpsl hpl0 ⊢
  have HP5 := Lib.hid hpsl
  have HX5 := Lib.hid (HX4.out.grow hb5)
  have HY5 := Lib.hid (HY4.out.below' hb5)
  have HQ5 := Lib.hid (HQ4.out.below hb5)
  have HB5 := Lib.hid (HB4.out.trans (hb5.mono HB4.out.size))
  obtain ⟨y0, y1, y2, y3, ly⟩ := HX5.out.cells
  clear hown hb5 hPT hpl hpsl
  go_wp2_with fail
  clear y0 y1 y2 y3 ly
  refine (peaks_ok g w5 HX5.out.gi HGB.out hn64').mono ?_
  rintro e w6 ⟨v, rfl, hown, hb6⟩
  obtain ⟨KT, hKT⟩ : ∃ KT, whereT (peakB g.val) g.heightsN = KT := ⟨_, rfl⟩
  have HKT := Lib.hid hKT
  have hkl0 : 0 < KT.length := by rw [← hKT, ← HGL.out]; exact peaks_some HGB.out
  rw [hKT] at hown
  obtain ⟨KA, kc, rfl, _, _, hksl⟩ := hown.slice i64cells_len
  obtain ⟨kl, hkl⟩ : ∃ kl, KT.length = kl := ⟨_, rfl⟩
  rw [hkl] at hksl hkl0 ⊢
  have HK6 := Lib.hid hksl
  have HP6 := Lib.hid (HP5.out.below hb6)
  have HX6 := Lib.hid (HX5.out.grow hb6)
  have HY6 := Lib.hid (HY5.out.below' hb6)
  have HQ6 := Lib.hid (HQ5.out.below hb6)
  have HB6 := Lib.hid (HB5.out.trans (hb6.mono HB5.out.size))
  obtain ⟨y0, y1, y2, y3, ly⟩ := HX6.out.cells
  have z0 : w6.cell? ⟨Y, 0, none⟩ = some (.int .i64 g.rows) := HY6.out.cell 0
  have z1 : w6.cell? ⟨Y, 1, none⟩ = some (.int .i64 g.columns) := HY6.out.cell 1
  have z2 : w6.cell? ⟨Y, 2, none⟩ = some (.int .i64 g.size) := HY6.out.cell 2
  have z3 : w6.cell? ⟨Y, 3, none⟩ = some (.slice qA g.heightsN qC) := HY6.out.cell 3
  have lz := HY6.out.lt
  have e1 : (g.rows != g.rows) = false := by simp
  have e2 : (g.columns != g.columns) = false := by simp
  have e3 : (g.size != g.size) = false := by simp
  have e4 : ((pl : Int) == 0) = false := by rw [beq_eq_false_iff_ne]; omega
  have e5 : ((kl : Int) == 0) = false := by rw [beq_eq_false_iff_ne]; omega
  have hple := HP6.out.le
  have hkle := HK6.out.le
  clear hown hb6 hKT hkl hksl
  go_wp2_with fail
  clear y0 y1 y2 y3 ly z0 z1 z2 z3 lz
  refine (r8Same_any qA g.heightsA g.heightsN qC g.heightsC g.heights w6 HQ6.out HX6.out.gi.1).mono ?_
  rintro e w7 ⟨rfl, hb7⟩
  have HK7 := Lib.hid (HK6.out.below hb7)
  have HP7 := Lib.hid (HP6.out.below hb7)
  have HX7 := Lib.hid (HX6.out.grow hb7)
  have HB7 := Lib.hid (HB6.out.trans (hb7.mono HB6.out.size))
  clear hb7
  go_wp2
  clear e1 e2 e3 e4 e5 hpl0 hkl0
  go_loopg [12, 13] g.heightsN (fun gk s12 s13 wr => ∃ (c : Nat) (q : Int), c ≤ g.heightsN ∧ gk = g.heightsN - c ∧ s12 = .int .i64 q ∧ s13 = .int .i64 c ∧ sumR c (bendT g.val) = q ∧ -40000 * (c : Int) ≤ q ∧ q ≤ 40000 * (c : Int) ∧ Below w7.heap.size w7 wr)
  case atStart => exact ⟨0, 0, Nat.zero_le _, rfl, rfl, rfl, rfl, by omega, by omega, Below.refl _ _⟩
  case round =>
    obtain ⟨c, q, hcn, hgk, rfl, rfl, hq, hq0, hq1, hb⟩ := hrel
    have Hgk := Lib.hid hgk
    have HQ := Lib.hid hq
    have HBB := Lib.hid hb
    have HXr := Lib.hid (HX7.out.grow hb)
    have HPr := Lib.hid (HP7.out.below hb)
    have HKr := Lib.hid (HK7.out.below hb)
    have HBr := Lib.hid (HB7.out.trans (hb.mono HB7.out.size))
    obtain ⟨y0, y1, y2, y3, ly⟩ := HXr.out.cells
    clear hgk hq hb
    by_cases hlt : c < g.heightsN
    rotate_left
    · have hcN : c = g.heightsN := by omega
      subst hcN
      have hz : q = 0 := by rw [← HQ.out, ← HGL.out]; exact bend_zero HGB.out
      subst hz
      go_wp2
      go_ret
      exact Ret.b rfl HBr.out
    have hcl : c < g.val.heights.length := by rw [HGL.out]; exact hlt
    have HCL := Lib.hid hcl
    go_wp2_with fail
    clear y0 y1 y2 y3 ly
    refine (implNeighboursOf_any g (c : Int) _ HXr.out.gi).mono ?_
    rintro e w8 ⟨v, rfl, hown, hb8⟩
    rw [near_zero HGB.out hcl]
    obtain ⟨NL, hNL⟩ : ∃ NL, nearA g.val (c : Int) = NL := ⟨_, rfl⟩
    have HNL := Lib.hid hNL
    rw [hNL] at hown
    obtain ⟨NA, nc, rfl, _, _, hnsl⟩ := hown.slice i64cells_len
    obtain ⟨nl, hnl⟩ : ∃ nl, NL.length = nl := ⟨_, rfl⟩
    have HNLL := Lib.hid hnl
    rw [hnl] at hnsl ⊢
    have HN8 := Lib.hid hnsl
    have hnle := hnsl.le
    have HX8 := Lib.hid (HXr.out.grow hb8)
    have HB8 : Hid (Below w7.heap.size w7 w8) := HBB.out.trans (hb8.mono HBB.out.size)
    clear hown hb8 hNL hnl hnsl hcl
    obtain ⟨s, hs⟩ : ∃ s, (steepT g.val c).1 = s := ⟨_, rfl⟩
    obtain ⟨f, hf⟩ : ∃ f, (steepT g.val c).2 = f := ⟨_, rfl⟩
    have HST : Hid (steepT g.val c = (s, f)) := by rw [Hid, ← hs, ← hf]
    clear hs hf
    obtain ⟨q1, q2, q3, hv⟩ : ∃ q1 q2 q3 : Int, (f = true ∧ q1 = s.slope ∧ q2 = s.cell ∧ q3 = 0) ∨ (f = false ∧ q1 = 0 ∧ q2 = 0 ∧ q3 = 3) := by
      cases f
      · exact ⟨0, 0, 3, .inr ⟨rfl, rfl, rfl, rfl⟩⟩
      · exact ⟨_, _, 0, .inl ⟨rfl, rfl, rfl, rfl⟩⟩
    have HV := Lib.hid hv
    obtain ⟨q4, hv2⟩ : ∃ q4 : Int, (f = true ∧ q4 = s.dir ∧ q3 = 0) ∨ (f = false ∧ q4 = 0 ∧ q3 = 3) := by
      rcases hv with ⟨h1, _, _, h2⟩ | ⟨h1, _, _, h2⟩
      · exact ⟨_, .inl ⟨h1, rfl, h2⟩⟩
      · exact ⟨0, .inr ⟨h1, rfl, h2⟩⟩
    have HV2 := Lib.hid hv2
    clear hv hv2
    obtain ⟨y0, y1, y2, y3, ly⟩ := HX8.out.cells
    go_wp2_with fail
    clear y0 y1 y2 y3 ly
    refine (steepestOf_ok g c s f q1 q2 q3 w8 HX8.out.gi HGB.out hlt HST.out HV.out).mono ?_
    rintro e w9 ⟨rfl, hb9⟩
    have HX9 := Lib.hid (HX8.out.grow hb9)
    have HN9 := Lib.hid (HN8.out.below hb9)
    have HB9 : Hid (Below w7.heap.size w7 w9) := HB8.out.trans (hb9.mono HB8.out.size)
    obtain ⟨y0, y1, y2, y3, ly⟩ := HX9.out.cells
    clear hb9
    go_wp2_with fail
    clear y0 y1 y2 y3 ly
    refine (aspectOf_ok g c s f q4 q3 w9 HX9.out.gi HGB.out hlt HST.out HV2.out).mono ?_
    rintro e w10 ⟨rfl, hb10⟩
    have HX10 := Lib.hid (HX9.out.grow hb10)
    have HN10 := Lib.hid (HN9.out.below hb10)
    have HB10 : Hid (Below w7.heap.size w7 w10) := HB9.out.trans (hb10.mono HB9.out.size)
    obtain ⟨y0, y1, y2, y3, ly⟩ := HX10.out.cells
    clear hb10
    go_wp2_with fail
    clear y0 y1 y2 y3 ly
    refine (descentOf_ok g c w10 HX10.out.gi HGB.out hlt).mono ?_
    rintro e w11 ⟨v, ys, d, rfl, hwt, hds, hown, hb11⟩
    have HWT := Lib.hid hwt
    have HDS := Lib.hid hds
    obtain ⟨YA, yc, rfl, _, _, hysl⟩ := hown.slice i64cells_len
    obtain ⟨ym, hym⟩ : ∃ ym, ys.length = ym + 1 := ⟨ys.length - 1, by have := (List.getElem?_eq_some_iff.1 hwt.head).1; omega⟩
    have HYM := Lib.hid hym
    rw [hym] at hysl ⊢
    obtain ⟨ya, yo, _, rfl, _, _, _⟩ := ints_at hysl (show 0 < ym + 1 by omega)
    have hyle := hysl.le
    have HW11 := Lib.hid hysl
    have HX11 := Lib.hid (HX10.out.grow hb11)
    have HN11 := Lib.hid (HN10.out.below hb11)
    have HB11 : Hid (Below w7.heap.size w7 w11) := HB10.out.trans (hb11.mono HB10.out.size)
    obtain ⟨y0, y1, y2, y3, ly⟩ := HX11.out.cells
    clear hwt hds hown hb11 hym hysl
    go_wp2_with fail
    clear y0 y1 y2 y3 ly
    refine (curvatureAt_ok g c w11 HX11.out.gi HGB.out hlt).mono ?_
    rintro e w12 ⟨rfl, hb12⟩
    obtain ⟨bd, hbd⟩ : ∃ bd, bendT g.val c = bd := ⟨_, rfl⟩
    have hbdb := bend_bd HGB.out HCL.out
    rw [hbd] at hbdb ⊢
    have HBDB := Lib.hid hbdb
    have HQN : Hid (sumR (c + 1) (bendT g.val) = q + bd) := by rw [Hid, sumR_succ, HQ.out, hbd]
    have HX12 := Lib.hid (HX11.out.grow hb12)
    have HN12 := Lib.hid (HN11.out.below hb12)
    have HW12 := Lib.hid (HW11.out.below hb12)
    have HB12 : Hid (Below w7.heap.size w7 w12) := HB11.out.trans (hb12.mono HB11.out.size)
    clear hb12 hbd hbdb
    obtain ⟨r1, r2, r3, r4, r5⟩ := row_col HGB.out HCL.out
    obtain ⟨R0, hR0⟩ : ∃ R0, (c : Int).tdiv g.columns = R0 := ⟨_, rfl⟩
    obtain ⟨C0, hC0⟩ : ∃ C0, (c : Int).tmod g.columns = C0 := ⟨_, rfl⟩
    have r1' : (c : Int).tdiv g.columns = R0 := hR0
    have r3' : (c : Int).tmod g.columns = C0 := hC0
    rw [show g.val.columns = g.columns from rfl] at r1 r2 r3 r4 r5
    rw [hR0] at r1 r2 r5
    rw [hC0] at r3 r4 r5
    obtain ⟨p1, p2, _, _, _⟩ := gridB_parts HGB.out
    have hcol : 1 ≤ g.columns ∧ g.columns ≤ 8 := p2
    have hrow : g.rows ≤ 8 := p1.2
    have r2' : R0 ≤ g.rows - 1 := r2
    have hcellat : ∀ v : Sub w12, Calls Tryz.prog 16 #[.agg #[.int .i64 g.rows, .int .i64 g.columns, .int .i64 g.size, .slice g.heightsA g.heightsN g.heightsC], .int .i64 R0, .int .i64 C0] v.val (Ret (.tuple #[.int .i64 c, .int .i64 0]) v.val) := fun v => by
      have h := cellAt_ok g R0 C0 v.val (HX12.out.gi.below v.below) HGB.out ⟨r1, r2'⟩ ⟨r3, r4⟩
      rw [r5] at h
      exact h
    have HCA := Lib.hid hcellat
    have hwR : IntKind.i64.wrap R0 = R0 := IntWalk.i64_in _ (by omega)
    have hwC : IntKind.i64.wrap C0 = C0 := IntWalk.i64_in _ (by omega)
    have hcol0 : ¬ g.columns = 0 := by omega
    have hcol1 : (g.columns == 0) = false := by rw [beq_eq_false_iff_ne]; omega
    clear p1 p2 hcellat r1' r3' r2' r1 r2 r3 r4 r5 hrow hcol
    obtain ⟨y0, y1, y2, y3, ly⟩ := HX12.out.cells
    go_wp2_with fail
    have hsub := fun (v : Sub w12) b o (h : b < w12.heap.size) => v.cell b o h
    refine wp_region_sub (by kernel_rfl) (by kernel_rfl) ?_
    repeat (go_big_quiet_step (exact Calls.sub_of (HCA.out _)))
    refine wpQuiet_nil ?_
    intro wg hg
    have HXg := Lib.hid (HX12.out.grow hg)
    have HNg := Lib.hid (HN12.out.below hg)
    have HWg := Lib.hid (HW12.out.below hg)
    have HBg : Hid (Below w7.heap.size w7 wg) := HB12.out.trans (hg.mono HB12.out.size)
    clear hsub hg y0 y1 y2 y3 ly hR0 hC0 hwR hwC hcol0 hcol1 HCA
    obtain ⟨a0, ha0, ca0, la⟩ := intsD HWg.out (k := 0) (by omega)
    rw [HWT.out.head] at ha0
    injection ha0 with ha0
    subst ha0
    obtain ⟨al, hal, cal, _⟩ := intsD HWg.out (k := ym) (by omega)
    rw [last_at HWT.out.last HYM.out] at hal
    injection hal with hal
    subst hal
    simp only [Nat.add_zero] at ca0
    have HPD : Hid (hasQ PT (d : Int) = true) := by
      rw [Hid, ← HPT.out, where_has (by rw [← HGL.out]; exact HWT.out.lt), pit_steep, HDS.out]; rfl
    have HPC : Hid (hasQ PT (c : Int) = (q3 != 0)) := by
      rw [Hid, ← HPT.out, where_has hlt, pit_steep, HST.out]
      rcases HV.out with ⟨h1, _, _, h2⟩ | ⟨h1, _, _, h2⟩ <;> rw [h1, h2] <;> rfl
    have hym1 : IntKind.i64.wrap ((ym : Int) + 1 - 1) = (ym : Int) := by rw [Int.add_sub_cancel]; exact IntWalk.i64_in _ (by omega)
    have hym2 : IntKind.i64.wrap (ym : Int) = (ym : Int) := IntWalk.i64_in _ (by omega)
    have e1 : (q3 != q3) = false := by simp
    have e2 : ((c : Int) != (c : Int)) = false := by simp
    have e3 : ((ym : Int) + 1 == 0) = false := by rw [beq_eq_false_iff_ne]; omega
    have e4 : ((q3 != 0) != (q3 != 0)) = false := by simp
    have e5 : (ym : Int) < (ym : Int) + 1 := by omega
    go_wp2_with fail
    refine (r8Has_any PA pl pc PT (d : Int) wg (HP7.out.below HBg.out)).mono ?_
    rintro e w' ⟨rfl, rfl⟩
    rw [HPD.out]
    go_wp2_with fail
    refine (r8Has_any PA pl pc PT (c : Int) wg (HP7.out.below HBg.out)).mono ?_
    rintro e w' ⟨rfl, rfl⟩
    rw [HPC.out]
    clear ca0 cal la
    have hbq := HBDB.out
    have hqb : IntKind.i64.wrap (q + bd) = q + bd := IntWalk.i64_in _ (by omega)
    have HQB : Hid (-40000 * ((c + 1 : Nat) : Int) ≤ q + bd ∧ q + bd ≤ 40000 * ((c + 1 : Nat) : Int)) := by rw [Hid]; omega
    clear hbq
    go_wp2
    clear e1 e2 e3 e4 e5 hym1 hym2 hqb
    go_loopg [27, 28] nl (fun gk s27 s28 wr => ∃ (j : Nat) (b : Bool), j ≤ nl ∧ gk = nl - j ∧ s27 = .bool b ∧ s28 = .int .i64 j ∧ topL g.val c (NL.take j) = b ∧ Below wg.heap.size wg wr)
    case atStart => exact ⟨0, true, Nat.zero_le _, rfl, rfl, rfl, rfl, Below.refl _ _⟩
    case round =>
      obtain ⟨j, b, hj, hgj, rfl, rfl, hb, hbx⟩ := hrel
      have Hgj := Lib.hid hgj
      have HBv := Lib.hid hb
      have HBX := Lib.hid hbx
      have HXx := Lib.hid (HXg.out.grow hbx)
      have HNx := Lib.hid (HNg.out.below hbx)
      have HB7x : Hid (Below w7.heap.size w7 wr) := HBg.out.trans (hbx.mono HBg.out.size)
      clear hgj hb hbx
      by_cases hjl : j < nl
      · as_aux_lemma =>
        obtain ⟨na, no, y, rfl, lna, hy, nc0⟩ := ints_at HNx.out hjl
        obtain ⟨e, x, z, sl, rfl, hne⟩ := near_at HGB.out HCL.out (y := y) (by rw [HNL.out]; exact List.mem_of_getElem? hy)
        have HTN : Hid (topL g.val c (NL.take (j + 1)) = (b && decide (0 ≤ sl))) := by
          rw [Hid, List.take_succ_eq_append_getElem (List.getElem?_eq_some_iff.1 hy).1, (List.getElem?_eq_some_iff.1 hy).2, topL_snoc, HBv.out, hne.top]
        have HNE := Lib.hid hne
        have heN : e < g.heightsN := by rw [← HGL.out]; exact hne.lt
        obtain ⟨bk, hbk⟩ : ∃ bk, z.slope = bk := ⟨_, rfl⟩
        have hc1 : ∀ v : Sub wr, Calls Tryz.prog 18 #[.agg #[.int .i64 g.rows, .int .i64 g.columns, .int .i64 g.size, .slice g.heightsA g.heightsN g.heightsC], .int .i64 c, .int .i64 e] v.val (Ret (.tuple #[.int .i64 sl, .int .i64 0]) v.val) := fun v => by
          have h := slopeTo_ok g c e x v.val (HXx.out.gi.below v.below) HGB.out hlt heN HNE.out.there
          rw [HNE.out.slope] at h
          exact h
        have HC1 := Lib.hid hc1
        have hneg : IntKind.i64.wrap (-bk) = sl := by rw [← hbk, HNE.out.neg, Int.neg_neg]; exact IntWalk.i64_in _ (by have := HNE.out.bd; omega)
        have HNEG := Lib.hid hneg
        have HBK := Lib.hid hbk
        have HNC := Lib.hid nc0
        clear hne hy hbk hc1 hneg
        have hjle : j ≤ 9223372036854775807 := by omega
        obtain ⟨y0, y1, y2, y3, ly⟩ := HXx.out.cells
        go_wp2_with fail
        have hsub := fun (v : Sub wr) b o (h : b < wr.heap.size) => v.cell b o h
        refine wp_region_sub (by kernel_rfl) (by kernel_rfl) ?_
        repeat (go_big_quiet_step (exact Calls.sub_of (HC1.out _)))
        refine wpQuiet_nil ?_
        intro wa ha
        have HXa := Lib.hid (HXx.out.grow ha)
        have HNCa : Hid (wa.cell? ⟨na, no + j, none⟩ = some (.int .i64 e)) := (ha.cell (p := ⟨na, no + j, none⟩) lna).trans HNC.out
        have HLNa : Hid (na < wa.heap.size) := Nat.lt_of_lt_of_le lna ha.size
        have HBXa : Hid (Below wg.heap.size wg wa) := HBX.out.trans (ha.mono HBX.out.size)
        clear hsub ha y0 y1 y2 y3 ly nc0 lna HC1
        have hc2 : ∀ v : Sub wa, Calls Tryz.prog 18 #[.agg #[.int .i64 g.rows, .int .i64 g.columns, .int .i64 g.size, .slice g.heightsA g.heightsN g.heightsC], .int .i64 e, .int .i64 c] v.val (Ret (.tuple #[.int .i64 bk, .int .i64 0]) v.val) := fun v => by
          have h := slopeTo_ok g e c z v.val (HXa.out.gi.below v.below) HGB.out heN hlt HNE.out.back
          rw [HBK.out] at h
          exact h
        have HC2 := Lib.hid hc2
        clear hc2
        have nc0 := HNCa.out
        have lna := HLNa.out
        obtain ⟨y0, y1, y2, y3, ly⟩ := HXa.out.cells
        go_wp2_with fail
        have hsub := fun (v : Sub wa) b o (h : b < wa.heap.size) => v.cell b o h
        refine wp_region_sub (by kernel_rfl) (by kernel_rfl) ?_
        repeat (go_big_quiet_step (exact Calls.sub_of (HC2.out _)))
        refine wpQuiet_nil ?_
        intro wc hc
        have HXc := Lib.hid (HXa.out.grow hc)
        have HNCc : Hid (wc.cell? ⟨na, no + j, none⟩ = some (.int .i64 e)) := (hc.cell (p := ⟨na, no + j, none⟩) lna).trans HNCa.out
        have HLNc : Hid (na < wc.heap.size) := Nat.lt_of_lt_of_le lna hc.size
        have HBXc : Hid (Below wg.heap.size wg wc) := HBXa.out.trans (hc.mono HBXa.out.size)
        clear hsub hc y0 y1 y2 y3 ly nc0 lna HC2
        have nc0 := HNCc.out
        have lna := HLNc.out
        obtain ⟨y0, y1, y2, y3, ly⟩ := HXc.out.cells
        have hneg := HNEG.out
        have f1 : (sl != sl) = false := by simp
        have f2 : ¬ (e : Int) < 0 := by omega
        have f3 : ¬ (g.heightsN : Int) ≤ (e : Int) := by omega
        have f4 : decide ((e : Int) < 0) = false := decide_eq_false f2
        have f5 : decide ((g.heightsN : Int) ≤ (e : Int)) = false := decide_eq_false f3
        go_wp2_with fail
        have hsub := fun (v : Sub wc) b o (h : b < wc.heap.size) => v.cell b o h
        refine wp_region_sub (by kernel_rfl) (by kernel_rfl) ?_
        repeat (go_big_quiet_step (fail))
        refine wpQuiet_nil ?_
        intro wd hd
        have nd0 := (hd.cell (p := ⟨na, no + j, none⟩) lna).trans nc0
        have lnd : na < wd.heap.size := Nat.lt_of_lt_of_le lna hd.size
        have HBXd : Hid (Below wg.heap.size wg wd) := HBXc.out.trans (hd.mono HBXc.out.size)
        clear hsub hd y0 y1 y2 y3 ly nc0 lna hneg f1 f2 f3 f4 f5
        rcases HV.out with ⟨h1, h2, h3, h4⟩ | ⟨h1, h2, h3, h4⟩
        · subst h1 h4
          have hst := near_steep HGB.out HCL.out HNE.out HST.out
          have k1 : sl ≤ q1 := by rw [h2]; exact hst.1
          have k2 : q2 = (e : Int) → sl = q1 := fun he => by rw [h2]; exact hst.2 (by rw [← h3]; exact he)
          have K2 := Lib.hid k2
          clear hst k2 h2 h3
          have k3 : decide (q1 < sl) = false := decide_eq_false (by omega)
          by_cases hto : (e : Int) = q2
          · have k4 : ((e : Int) == q2) = true := by simp [hto]
            have k5 : sl = q1 := K2.out hto.symm
            have k6 : (sl != q1) = false := by simp [k5]
            clear hto k5 k1
            cases b
            · go_wp2
              go_roundg (nl - (j + 1))
              case measure => have := Hgj.out; omega
              case rel => exact ⟨j + 1, false, by omega, rfl, rfl, by go_num, by rw [HTN.out]; rfl, HBXd.out⟩
            · go_wp2
              go_roundg (nl - (j + 1))
              case measure => have := Hgj.out; omega
              case rel => exact ⟨j + 1, decide (0 ≤ sl), by omega, rfl, rfl, by go_num, by rw [HTN.out]; rfl, HBXd.out⟩
          · have k4 : ((e : Int) == q2) = false := by rw [beq_eq_false_iff_ne]; exact hto
            clear hto k1
            cases b
            · go_wp2
              go_roundg (nl - (j + 1))
              case measure => have := Hgj.out; omega
              case rel => exact ⟨j + 1, false, by omega, rfl, rfl, by go_num, by rw [HTN.out]; rfl, HBXd.out⟩
            · go_wp2
              go_roundg (nl - (j + 1))
              case measure => have := Hgj.out; omega
              case rel => exact ⟨j + 1, decide (0 ≤ sl), by omega, rfl, rfl, by go_num, by rw [HTN.out]; rfl, HBXd.out⟩
        · subst h1 h4
          have k1 : sl ≤ 0 := near_flat HNE.out HST.out
          have k3 : decide (0 < sl) = false := decide_eq_false (by omega)
          clear h2 h3
          cases b
          · go_wp2
            go_roundg (nl - (j + 1))
            case measure => have := Hgj.out; omega
            case rel => exact ⟨j + 1, false, by omega, rfl, rfl, by go_num, by rw [HTN.out]; rfl, HBXd.out⟩
          · go_wp2
            go_roundg (nl - (j + 1))
            case measure => have := Hgj.out; omega
            case rel => exact ⟨j + 1, decide (0 ≤ sl), by omega, rfl, rfl, by go_num, by rw [HTN.out]; rfl, HBXd.out⟩
      have hjn : j = nl := by omega
      have HTB : Hid (b = peakB g.val c) := by
        have h := HBv.out
        rw [List.take_of_length_le (by rw [HNLL.out]; omega), ← HNL.out, top_peak HGB.out HCL.out] at h
        exact h.symm
      have HKC : Hid (hasQ KT (c : Int) = b) := by rw [Hid, ← HKT.out, where_has hlt, HTB.out]
      have hjm : ¬ ((j : Int) < (nl : Int)) := by omega
      have hbb : (b != b) = false := by simp
      clear hjn
      go_wp2_with fail
      refine (r8Has_any KA kl kc KT (c : Int) wr (HK7.out.below HB7x.out)).mono ?_
      rintro e w' ⟨rfl, rfl⟩
      rw [HKC.out]
      have HNx2 := Lib.hid HNx.out
      rcases HV.out with ⟨h1, h2, h3, h4⟩ | ⟨h1, h2, h3, h4⟩
      · as_aux_lemma =>
        subst h1 h4
        obtain ⟨e, ka, hse, heN, hsd, hka, hqn, _, _⟩ := steep_in HGB.out HCL.out HST.out
        have h5 : q2 = (e : Int) := h3.trans hse
        have h6 : q4 = (ka : Int) := by
          rcases HV2.out with ⟨_, h, _⟩ | ⟨h, _⟩
          · exact h.trans hsd
          · cases h
        subst h5 h6
        rw [HNL.out] at hqn
        have HQN2 := Lib.hid hqn
        have hasp := asp_ne ka hka
        have hasp2 := asp_ne2 ka hka
        obtain ⟨AN, hAN⟩ : ∃ AN, aspN ka = AN := ⟨_, rfl⟩
        rw [hAN] at hasp hasp2
        have HAN := Lib.hid hAN
        clear h2 h3 hse hsd hqn hAN
        go_wp2_with fail
        refine (r8Has_any NA nl nc NL (e : Int) wr HNx.out).mono ?_
        rintro e w' ⟨rfl, rfl⟩
        rw [HQN2.out]
        go_wp2_with fail
        refine (aspectName_ok ka hka wr).mono ?_
        rintro e w' ⟨rfl, rfl⟩
        rw [HAN.out]
        go_wp2
        clear hjm hbb
        go_loopg [33] ym (fun gk s33 wq => ∃ k : Nat, 1 ≤ k ∧ k ≤ ym + 1 ∧ gk = ym + 1 - k ∧ s33 = .int .i64 k ∧ Below wr.heap.size wr wq)
        case atStart => exact ⟨1, Nat.le_refl _, by omega, rfl, rfl, Below.refl _ _⟩
        case round =>
          obtain ⟨k, hk1, hk, hgk, rfl, hbq⟩ := hrel
          have Hgk3 := Lib.hid hgk
          have HQ3 := Lib.hid hbq
          have HXq := Lib.hid (HXx.out.grow hbq)
          clear hgk hbq
          obtain ⟨km, rfl⟩ : ∃ km, k = km + 1 := ⟨k - 1, by omega⟩
          by_cases hkl : km + 1 < ym + 1
          · have hkl2 : km < ym + 1 := by omega
            obtain ⟨ya1, hya1, yc1, lya⟩ := intsD ((HWg.out.below HBX.out).below HQ3.out) hkl2
            obtain ⟨yb1, hyb1, yd1, _⟩ := intsD ((HWg.out.below HBX.out).below HQ3.out) hkl
            obtain ⟨ia, rfl, hia⟩ := HWT.out.in_ ya1 (List.mem_of_getElem? hya1)
            obtain ⟨ib, rfl, hib⟩ := HWT.out.in_ yb1 (List.mem_of_getElem? hyb1)
            have hdown := HWT.out.down km _ _ hya1 hyb1
            rw [HGL.out] at hia hib
            obtain ⟨e1, e2⟩ := ht_cell HXq.out.gi HGB.out HGA.out hia
            obtain ⟨e3, _⟩ := ht_cell HXq.out.gi HGB.out HGA.out hib
            obtain ⟨pa, hpa⟩ : ∃ pa, ht g.val ia = pa := ⟨_, rfl⟩
            obtain ⟨pb, hpb⟩ : ∃ pb, ht g.val ib = pb := ⟨_, rfl⟩
            rw [hpa] at e1 hdown
            rw [hpb] at e3 hdown
            have hkw : IntKind.i64.wrap ((km : Int) + 1 - 1) = (km : Int) := by rw [Int.add_sub_cancel]; exact IntWalk.i64_in _ (by omega)
            have hkv : IntKind.i64.wrap (km : Int) = (km : Int) := IntWalk.i64_in _ (by omega)
            have f1 : ¬ (ia : Int) < 0 := by omega
            have f2 : ¬ (ib : Int) < 0 := by omega
            have f3 : ¬ (g.heightsN : Int) ≤ (ia : Int) := by omega
            have f4 : ¬ (g.heightsN : Int) ≤ (ib : Int) := by omega
            have f5 : ¬ pa ≤ pb := by omega
            have f11 : decide (g.heightsN ≤ ia) = false := decide_eq_false (by omega)
            have f12 : decide (g.heightsN ≤ ib) = false := decide_eq_false (by omega)
            have f9 : decide ((ia : Int) < 0) = false := decide_eq_false f1
            have f10 : decide ((ib : Int) < 0) = false := decide_eq_false f2
            have f6 : decide (pa ≤ pb) = false := decide_eq_false f5
            have f7 : decide ((g.heightsN : Int) ≤ (ia : Int)) = false := decide_eq_false f3
            have f8 : decide ((g.heightsN : Int) ≤ (ib : Int)) = false := decide_eq_false f4
            obtain ⟨y0, y1, y2, y3, ly⟩ := HXq.out.cells
            rw [HGA.out] at y3
            clear hya1 hyb1 hpa hpb hdown
            go_wp2_with fail
            have hsub := fun (v : Sub wr) b o (h : b < wr.heap.size) => v.cell b o h
            refine wp_region_sub (by kernel_rfl) (by kernel_rfl) ?_
            repeat (go_big_quiet_step (fail))
            refine wpQuiet_nil ?_
            intro wz hz
            have HBZ := Lib.hid (HQ3.out.trans (hz.mono HQ3.out.size))
            clear hsub hz e1 e2 e3 yc1 yd1 lya y0 y1 y2 y3 ly f1 f2 f3 f4 f5 f6 f7 f8 f9 f10 f11 f12 hkw hkv
            go_wp2
            go_roundg (ym + 1 - (km + 1 + 1))
            case measure => have := Hgk3.out; omega
            case rel => exact ⟨km + 1 + 1, by omega, by omega, rfl, by go_num, HBZ.out⟩
          · have hkn : ¬ ((km : Int) + 1 < (ym : Int) + 1) := by omega
            go_wp2
            go_roundg (g.heightsN - (c + 1))
            case measure => have := Hgk.out; omega
            case rel => exact ⟨c + 1, q + bd, by omega, rfl, rfl, by go_num, HQN.out, HQB.out.1, HQB.out.2, HB7x.out.trans (HQ3.out.mono HB7x.out.size)⟩
      · as_aux_lemma =>
        subst h1 h4
        clear h2 h3
        go_wp2
        clear hjm hbb
        go_loopg [33] ym (fun gk s33 wq => ∃ k : Nat, 1 ≤ k ∧ k ≤ ym + 1 ∧ gk = ym + 1 - k ∧ s33 = .int .i64 k ∧ Below wr.heap.size wr wq)
        case atStart => exact ⟨1, Nat.le_refl _, by omega, rfl, rfl, Below.refl _ _⟩
        case round =>
          obtain ⟨k, hk1, hk, hgk, rfl, hbq⟩ := hrel
          have Hgk3 := Lib.hid hgk
          have HQ3 := Lib.hid hbq
          have HXq := Lib.hid (HXx.out.grow hbq)
          clear hgk hbq
          obtain ⟨km, rfl⟩ : ∃ km, k = km + 1 := ⟨k - 1, by omega⟩
          by_cases hkl : km + 1 < ym + 1
          · have hkl2 : km < ym + 1 := by omega
            obtain ⟨ya1, hya1, yc1, lya⟩ := intsD ((HWg.out.below HBX.out).below HQ3.out) hkl2
            obtain ⟨yb1, hyb1, yd1, _⟩ := intsD ((HWg.out.below HBX.out).below HQ3.out) hkl
            obtain ⟨ia, rfl, hia⟩ := HWT.out.in_ ya1 (List.mem_of_getElem? hya1)
            obtain ⟨ib, rfl, hib⟩ := HWT.out.in_ yb1 (List.mem_of_getElem? hyb1)
            have hdown := HWT.out.down km _ _ hya1 hyb1
            rw [HGL.out] at hia hib
            obtain ⟨e1, e2⟩ := ht_cell HXq.out.gi HGB.out HGA.out hia
            obtain ⟨e3, _⟩ := ht_cell HXq.out.gi HGB.out HGA.out hib
            obtain ⟨pa, hpa⟩ : ∃ pa, ht g.val ia = pa := ⟨_, rfl⟩
            obtain ⟨pb, hpb⟩ : ∃ pb, ht g.val ib = pb := ⟨_, rfl⟩
            rw [hpa] at e1 hdown
            rw [hpb] at e3 hdown
            have hkw : IntKind.i64.wrap ((km : Int) + 1 - 1) = (km : Int) := by rw [Int.add_sub_cancel]; exact IntWalk.i64_in _ (by omega)
            have hkv : IntKind.i64.wrap (km : Int) = (km : Int) := IntWalk.i64_in _ (by omega)
            have f1 : ¬ (ia : Int) < 0 := by omega
            have f2 : ¬ (ib : Int) < 0 := by omega
            have f3 : ¬ (g.heightsN : Int) ≤ (ia : Int) := by omega
            have f4 : ¬ (g.heightsN : Int) ≤ (ib : Int) := by omega
            have f5 : ¬ pa ≤ pb := by omega
            have f11 : decide (g.heightsN ≤ ia) = false := decide_eq_false (by omega)
            have f12 : decide (g.heightsN ≤ ib) = false := decide_eq_false (by omega)
            have f9 : decide ((ia : Int) < 0) = false := decide_eq_false f1
            have f10 : decide ((ib : Int) < 0) = false := decide_eq_false f2
            have f6 : decide (pa ≤ pb) = false := decide_eq_false f5
            have f7 : decide ((g.heightsN : Int) ≤ (ia : Int)) = false := decide_eq_false f3
            have f8 : decide ((g.heightsN : Int) ≤ (ib : Int)) = false := decide_eq_false f4
            obtain ⟨y0, y1, y2, y3, ly⟩ := HXq.out.cells
            rw [HGA.out] at y3
            clear hya1 hyb1 hpa hpb hdown
            go_wp2_with fail
            have hsub := fun (v : Sub wr) b o (h : b < wr.heap.size) => v.cell b o h
            refine wp_region_sub (by kernel_rfl) (by kernel_rfl) ?_
            repeat (go_big_quiet_step (fail))
            refine wpQuiet_nil ?_
            intro wz hz
            have HBZ := Lib.hid (HQ3.out.trans (hz.mono HQ3.out.size))
            clear hsub hz e1 e2 e3 yc1 yd1 lya y0 y1 y2 y3 ly f1 f2 f3 f4 f5 f6 f7 f8 f9 f10 f11 f12 hkw hkv
            go_wp2
            go_roundg (ym + 1 - (km + 1 + 1))
            case measure => have := Hgk3.out; omega
            case rel => exact ⟨km + 1 + 1, by omega, by omega, rfl, by go_num, HBZ.out⟩
          · have hkn : ¬ ((km : Int) + 1 < (ym : Int) + 1) := by omega
            go_wp2
            go_roundg (g.heightsN - (c + 1))
            case measure => have := Hgk.out; omega
            case rel => exact ⟨c + 1, q + bd, by omega, rfl, rfl, by go_num, HQN.out, HQB.out.1, HQB.out.2, HB7x.out.trans (HQ3.out.mono HB7x.out.size)⟩

end Go.Proofs.YtmldijckjenbcaaGreatDoor
