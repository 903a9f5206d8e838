/- The program's step of the masses (impl.Grid.route). UNDER WAY. -/
import Derived.Test.YtphapakhoibamaaGreatDoorBase
import Derived.Test.YtphapakhoibamaaGreatDoorMem
import Derived.Test.YtphapakhoibamaaGreatDoorTInt64
import Derived.Test.YtphapakhoibamaaGreatDoorWithin
import Derived.Test.YtphapakhoibamaaGreatDoorTGrid
import Derived.Test.YtphapakhoibamaaGreatDoorGrids
import Derived.Test.YtphapakhoibamaaGreatDoorWays
import Derived.Test.YtphapakhoibamaaGreatDoorSpecGo
import Derived.Test.YtphapakhoibamaaGreatDoorPush2
import Derived.Test.YtphapakhoibamaaGreatDoorSpecWays
import Derived.Test.YtphapakhoibamaaGreatDoorRunCode
import Derived.Test.YtphapakhoibamaaGreatDoorRunP
import Derived.Test.YtphapakhoibamaaGreatDoorRunQ
import Derived.Test.YtphapakhoibamaaGreatDoorArr
import Derived.Test.YtphapakhoibamaaGreatDoorRunL
import Derived.Test.YtphapakhoibamaaGreatDoorSpecStep
namespace Go.Proofs.YtphapakhoibamaaGreatDoor
open Go.RowKit

theorem Stp.at_ {w : World} {A : Option Addr} {n : Nat} {xs : List Stp} (h : SliceOf w 3 Stp.cells A n xs) {k : Nat} (hk : k < n) :
    ∃ b off x, A = some ⟨b, off, none⟩ ∧ b < w.heap.size ∧ xs[k]? = some x ∧ w.cell? ⟨b, off + k * 3, none⟩ = some (.int .i64 x.cell) ∧ w.cell? ⟨b, off + k * 3 + 1, none⟩ = some (.int .i64 x.dir) ∧ w.cell? ⟨b, off + k * 3 + 2, none⟩ = some (.int .i64 x.slope) := by
  obtain ⟨b, off, x, hA, hb, hx, hc⟩ := h.at_ hk
  exact ⟨b, off, x, hA, hb, hx, hc 0 _ rfl, hc 1 _ rfl, hc 2 _ rfl⟩
/-- What is known of a step to a neighbour. -/
theorem nextT_ok {g : Grid} {c : Nat} {x : Stp} (hgb : gridB g = true) (hc : c < g.heights.length) (h : x ∈ nextT g c 8) : ∃ d j : Nat, x.dir = d ∧ x.cell = j ∧ j < g.heights.length ∧ x.slope ≤ 5000000001 ∧ d < 8 := by
  unfold nextT at h
  obtain ⟨d, hd, rfl⟩ := List.mem_map.1 h
  rw [List.mem_filter, List.mem_range] at hd
  obtain ⟨j, hj, hjl, _, _, _⟩ := goC_in hgb hd.2
  exact ⟨d, j, rfl, hj, hjl, slC_le hgb hc hd.2, hd.1⟩
theorem filter_take_yes {α : Type} {p : α → Bool} {l : List α} {k : Nat} {x : α} (h : l[k]? = some x) (hp : p x = true) : (l.take (k + 1)).filter p = (l.take k).filter p ++ [x] := by
  rw [take_snoc h, List.filter_append]; simp [hp]
theorem filter_take_no {α : Type} {p : α → Bool} {l : List α} {k : Nat} {x : α} (h : l[k]? = some x) (hp : p x = false) : (l.take (k + 1)).filter p = (l.take k).filter p := by
  rw [take_snoc h, List.filter_append]; simp [hp]
theorem allOf_snoc (l : List Stp) (x : Stp) : allOf (l ++ [x]) = allOf l + x.slope := by
  unfold allOf; rw [List.map_append, List.sum_append]; simp
theorem set3_heap (w : World) (bb : Nat) (u v x : Value) (k : Nat) (h : k ≠ bb) : (((w.setCell ⟨bb, 0, none⟩ u).setCell ⟨bb, 1, none⟩ v).setCell ⟨bb, 2, none⟩ x).heap[k]? = w.heap[k]? :=
  (Below.heap_setCell _ ⟨bb, 2, none⟩ x k h).trans ((Below.heap_setCell _ ⟨bb, 1, none⟩ v k h).trans (Below.heap_setCell _ ⟨bb, 0, none⟩ u k h))
theorem Own.stp {w : World} {bb : Nat} {T : TypeId} (bx : Stp) (a b c : Int) (h : Own w bb T bx.cells.toArray) : Own (((w.setCell ⟨bb, 0, none⟩ (.int .i64 a)).setCell ⟨bb, 1, none⟩ (.int .i64 b)).setCell ⟨bb, 2, none⟩ (.int .i64 c)) bb T (Stp.cells ⟨a, b, c⟩).toArray := by
  have := ((h.put 0 (.int .i64 a)).put 1 (.int .i64 b)).put 2 (.int .i64 c)
  simpa [Stp.cells] using this
set_option maxRecDepth 100000 in
set_option maxHeartbeats 1000000 in
theorem route_any (g : GridR) (B : Option Addr) (n d : Nat) (ms : List Int) (fr : Int) (w : World) (hgi : g.In w) (hgb : gridB g.val = true) (hr : SliceOf w 1 i64cells B n ms) (hl : n = g.heightsN) (hfr : 1 ≤ fr) (hm0 : ∀ x ∈ ms, 0 ≤ x) (hms : ms.sum ≤ 64000000) :
    Calls Tryz.prog 64 #[.agg #[.int .i64 g.rows, .int .i64 g.columns, .int .i64 g.size, .slice g.heightsA g.heightsN g.heightsC], .slice B n d, .int .i64 fr] w (RetLL 2 1 1 i64cells i64cells (stepT g.val fr ms n).1 (stepT g.val fr ms n).2 w) := by
  have hn64 : n ≤ 64 := by
    have h := gridB_parts hgb
    have h2 := (mul_i64 h.1 h.2.1).2.2
    have h3 := h.2.2.2.1
    rw [show g.val.heights.length = g.heightsN from hgi.1.len] at h3
    omega
  have hmk := make_n (P := Tryz.prog) (t := 24) (n := n) Tryz.underlying24 infoI64 (by omega) (by omega)
  have hnN : n ≤ 9223372036854775807 := by omega
  have hB0 : Below w.heap.size w (w.alloc (.cells #[.int .i64 g.rows, .int .i64 g.columns, .int .i64 g.size, .slice g.heightsA g.heightsN g.heightsC] 26)) := (Below.refl _ _).alloc (Nat.le_refl _) _
  have HO0 := Lib.hid (Own.new w 26 #[.int .i64 g.rows, .int .i64 g.columns, .int .i64 g.size, .slice g.heightsA g.heightsN g.heightsC])
  have HB0 := Lib.hid hB0
  have HI := Lib.hid hgi
  have HGB := Lib.hid hgb
  have HR := Lib.hid hr
  have HL := Lib.hid hr.len
  have HM := Lib.hid hm0
  have HS := Lib.hid hms
  have Hl := Lib.hid hl
  clear hgi hgb hr hm0 hms hl hB0
  go_enter Tryz.func64, Tryz.ntmps64
  go_wp2
  obtain ⟨w0, hw0⟩ : ∃ w0, w.alloc (.cells #[.int .i64 g.rows, .int .i64 g.columns, .int .i64 g.size, .slice g.heightsA g.heightsN g.heightsC] 26) = w0 := ⟨_, rfl⟩
  have hws : w.heap.size < w0.heap.size := by rw [← hw0]; simp
  rw [hw0] at HB0 HO0 ⊢
  clear hw0
  have HM1 : Hid (IntsAt ((w0.alloc (.cells (madeCells #[.int .i64 0] n) 2)).alloc (.cells (madeCells #[.int .i64 0] n) 2)).drew w0.heap.size (List.replicate n 0)) := (intsAt_made w0 n).alloc _
  have HM2 : Hid (IntsAt ((w0.alloc (.cells (madeCells #[.int .i64 0] n) 2)).alloc (.cells (madeCells #[.int .i64 0] n) 2)).drew (w0.heap.size + 1) (List.replicate n 0)) := by
    have := intsAt_made (w0.alloc (.cells (madeCells #[.int .i64 0] n) 2)) n
    rw [show (w0.alloc (.cells (madeCells #[.int .i64 0] n) 2)).heap.size = w0.heap.size + 1 by simp] at this
    exact this
  go_cut [8, 9] from 20 to 25 (fun p q wx => ∃ a b : Nat, p = .slice (some ⟨a, 0, none⟩) n n ∧ q = .slice (some ⟨b, 0, none⟩) n n ∧ a ≠ b ∧ w0.heap.size ≤ a ∧ w0.heap.size ≤ b ∧ Below w0.heap.size w0 wx ∧ IntsAt wx a (List.replicate n 0) ∧ IntsAt wx b (List.replicate n 0))
  case first =>
    go_region_with (fail)
    all_goals (go_wp2_with fail; go_meet)
    all_goals (refine ⟨_, _, rfl, rfl, by omega, by omega, by omega, ?_, ?_, ?_⟩)
    all_goals (first | exact HM1.out | exact HM2.out | (repeat (first | exact Below.refl _ _ | (with_reducible refine Below.drew ?_) | (with_reducible refine Below.alloc ?_ (by first | exact Nat.le_refl _ | simp) _))))
  case rest =>
    obtain ⟨a, b, rfl, rfl, hab, ha0, hb0, hB, hma, hmb⟩ := hcut
    clear HM1 HM2 hmk
    have HOc := Lib.hid (HO0.out.below' hB)
    have HBc := Lib.hid (HB0.out.trans (hB.mono (by omega)))
    have HMa := Lib.hid hma
    have HMb := Lib.hid hmb
    clear hma hmb hB
    go_wp2
    go_loopg [28] n (fun gk i wr => ∃ (k : Nat) (mv st : List Int), k ≤ n ∧ gk = n - k ∧ i = .int .i64 k ∧ stepT g.val fr ms k = (mv, st) ∧ Below w.heap.size w wr ∧ Own wr w.heap.size 26 #[.int .i64 g.rows, .int .i64 g.columns, .int .i64 g.size, .slice g.heightsA g.heightsN g.heightsC] ∧ IntsAt wr a mv ∧ IntsAt wr b st)
    case atStart =>
      exact ⟨0, List.replicate n 0, List.replicate n 0, Nat.zero_le _, rfl, rfl, by unfold stepT; simp [HL.out], HBc.out, HOc.out, HMa.out, HMb.out⟩
    case round =>
      obtain ⟨k, mv, st, hk, hgk, rfl, hst, hb, hbox, hmv, hsv⟩ := hrel
      have Hgk := Lib.hid hgk
      have Hst := Lib.hid hst
      have Hmv := Lib.hid hmv
      have Hsv := Lib.hid hsv
      have Hbox := Lib.hid hbox
      clear hgk hst hmv hsv
      by_cases hlt : k < n
      · obtain ⟨b1, o1, m, rfl, hb1w, hmk, m0w⟩ := ints_at HR.out hlt
        have hb1 : b1 < wr.heap.size := Nat.lt_of_lt_of_le hb1w hb.size
        have m0 := (hb.cell (p := ⟨b1, o1 + k, none⟩) hb1w).trans m0w
        clear m0w
        have HMk := Lib.hid hmk
        have hmn := HM.out m (List.mem_of_getElem? hmk)
        have HT : Hid (stepT g.val fr ms (k + 1) = stepC g.val fr m k (mv, st)) := by
          rw [Hid, stepT_succ, Hst.out, List.getD_eq_getElem?_getD, hmk]; rfl
        clear hmk
        have y0 := hbox.cell 0
        have y1 := hbox.cell 1
        have y2 := hbox.cell 2
        have y3 := hbox.cell 3
        clear hbox
        go_wp2_with fail
        refine (next_any g k _ (HI.out.below hb) HGB.out (by rw [← Hl.out]; exact hlt)).mono ?_
        rintro e w1 ⟨v, rfl, hv, hb1'⟩
        clear y0 y1 y2 y3
        obtain ⟨NL, hNL⟩ : ∃ NL, nextT g.val k 8 = NL := ⟨_, rfl⟩
        rw [hNL] at hv
        obtain ⟨AN, cN, rfl, _, _, hsn⟩ := hv.slice Stp.cells_len
        obtain ⟨p, hp⟩ : ∃ p, NL.length = p := ⟨_, rfl⟩
        simp only [hp] at hv hsn ⊢
        have hp8 : p ≤ 8 := by rw [← hp, ← hNL]; exact nextT_len _ _ _
        have HSN := Lib.hid hsn
        have HNL := Lib.hid hNL
        have HP := Lib.hid hp
        have HB1 := Lib.hid hb1'
        have hbw := hb.trans (hb1'.mono hb.size)
        have HBW := Lib.hid hbw
        have Hmv1 := Lib.hid (Hmv.out.below' hb1')
        have Hsv1 := Lib.hid (Hsv.out.below' hb1')
        have Hbox1 := Lib.hid (Hbox.out.below' hb1')
        have HNO : Hid (∀ x ∈ NL, ∃ d j : Nat, x.dir = d ∧ x.cell = j ∧ j < n ∧ x.slope ≤ 5000000001 ∧ d < 8) := fun x hx => by
          rw [← hNL] at hx
          have := nextT_ok HGB.out (by rw [show g.val.heights.length = g.heightsN from HI.out.1.len, ← Hl.out]; exact hlt) hx
          rwa [show g.val.heights.length = g.heightsN from HI.out.1.len, ← Hl.out] at this
        clear hv hsn hNL hp hb1'
        go_wp2
        go_loopg [37, 12, 13] p (fun gk i v t wr => ∃ (j : Nat) (u : Value) (q : Int), j ≤ p ∧ gk = p - j ∧ i = .int .i64 j ∧ u = v ∧ t = .int .i64 q ∧ allOf ((NL.take j).filter (wayB g.val fr k)) = q ∧ 0 ≤ q ∧ q ≤ 5000000001 * j ∧ Below w1.heap.size w1 wr ∧ OwnsL wr w1.heap.size 114 3 Stp.cells u ((NL.take j).filter (wayB g.val fr k)))
        case atStart => exact ⟨0, _, 0, Nat.zero_le _, rfl, rfl, rfl, rfl, rfl, by omega, by omega, Below.refl _ _, OwnsL.nil_ _ _ _ _ _⟩
        case round =>
          obtain ⟨j, u, q, hj, hgj, rfl, rfl, rfl, hq, hq0, hq1, hbj, hown⟩ := hrel
          have HGJ := Lib.hid hgj
          have HQ := Lib.hid hq
          have HOWN := Lib.hid hown
          have HBJ := Lib.hid hbj
          have HBWJ := Lib.hid (HBW.out.trans (hbj.mono HBW.out.size))
          clear hgj hq hown
          by_cases hjp : j < p
          · obtain ⟨bs, os, y, rfl, hbs, hyk, c0, c1, c2⟩ := Stp.at_ (HSN.out.below hbj) hjp
            obtain ⟨dd, jc, hyd, hyc, hjc, hysl, _⟩ := HNO.out y (List.mem_of_getElem? hyk)
            rw [hyd] at c1
            rw [hyc] at c0
            obtain ⟨sl, hsl⟩ : ∃ sl, y.slope = sl := ⟨_, rfl⟩
            rw [hsl] at c2 hysl
            have hkN : k < g.heightsN := by rw [← Hl.out]; exact hlt
            have hjN : jc < g.heightsN := by rw [← Hl.out]; exact hjc
            obtain ⟨b3, o3, hA, hb3, hc3, hh0, hh1⟩ := hts_at (HI.out.below HBWJ.out) HGB.out hkN
            obtain ⟨b4, o4, hA', hb4, hc4, hh2, hh3⟩ := hts_at (HI.out.below HBWJ.out) HGB.out hjN
            rw [hA] at hA'
            injection hA' with e
            injection e with e1 e2 _
            subst e1 e2
            obtain ⟨H1, hH1⟩ : ∃ H1, ht g.val k = H1 := ⟨_, rfl⟩
            obtain ⟨H2, hH2⟩ : ∃ H2, ht g.val jc = H2 := ⟨_, rfl⟩
            rw [hH1] at hc3 hh0 hh1
            rw [hH2] at hc4 hh2 hh3
            have HH1 := Lib.hid hH1
            have HH2 := Lib.hid hH2
            have HY := Lib.hid hyk
            have HC := Lib.hid hyc
            have HYD := Lib.hid hyd
            have HSL := Lib.hid hsl
            have hHA := Lib.hid hA
            have HBx := Lib.hid (Hbox1.out.below' hbj)
            clear hA hH1 hH2 hyk hyc hyd hsl
            go_wp2_with fail
            obtain ⟨wa, hwa⟩ : ∃ wa, wr.alloc (.cells #[.int .i64 jc, .int .i64 dd, .int .i64 sl] 114) = wa := ⟨_, rfl⟩
            have hBa : Below wr.heap.size wr wa := by rw [← hwa]; exact (Below.refl _ _).alloc (Nat.le_refl _) _
            have hOy : Own wa wr.heap.size 114 #[.int .i64 jc, .int .i64 dd, .int .i64 sl] := by rw [← hwa]; exact Own.new _ _ _
            rw [hwa]
            clear hwa c0 c1 c2
            have HOY := Lib.hid hOy
            have hOb := HBx.out.below' hBa
            have hbl := hOb.lt
            have hyl := hOy.lt
            have z0 : wa.cell? ⟨wr.heap.size, 0, none⟩ = some (.int .i64 jc) := hOy.cell 0
            have z2 : wa.cell? ⟨wr.heap.size, 2, none⟩ = some (.int .i64 sl) := hOy.cell 2
            have y3 : wa.cell? ⟨w.heap.size, 3, none⟩ = some (.slice (some ⟨b3, o3, none⟩) g.heightsN g.heightsC) := by rw [← hHA.out]; exact hOb.cell 3
            have h3a := (hBa.cell (p := ⟨b3, o3 + k, none⟩) hb3).trans hc3
            have h4a := (hBa.cell (p := ⟨b3, o3 + jc, none⟩) hb3).trans hc4
            have hba3 : b3 < wa.heap.size := Nat.lt_of_lt_of_le hb3 hBa.size
            have hsub := fun (g : Sub wa) b o (h : b < wa.heap.size) => g.cell b o h
            clear hOy hOb hc3 hc4
            by_cases hlow : H2 < H1
            · by_cases hfs : fr ≤ sl
              · have HYES : Hid (wayB g.val fr k y = true) := by
                  rw [Hid]; unfold wayB; rw [HC.out, HH1.out, HH2.out, HSL.out]; simp [hlow, hfs]
                refine wp_region_sub (by kernel_rfl) (by kernel_rfl) ?_
                repeat (go_big_quiet_step (fail))
                refine wpQuiet_nil ?_
                intro wg hg
                have HOG := Lib.hid ((HOWN.out.below' hBa).below' hg)
                have HBG := Lib.hid (HBJ.out.trans ((hBa.trans (hg.mono hBa.size)).mono HBJ.out.size))
                have HOYG := Lib.hid (HOY.out.below' hg)
                have x0 : wg.cell? ⟨wr.heap.size, 0, none⟩ = some (.int .i64 jc) := HOYG.out.cell 0
                have x1 : wg.cell? ⟨wr.heap.size, 1, none⟩ = some (.int .i64 dd) := HOYG.out.cell 1
                have x2 : wg.cell? ⟨wr.heap.size, 2, none⟩ = some (.int .i64 sl) := HOYG.out.cell 2
                have HLF : Hid (((NL.take j).filter (wayB g.val fr k)).length ≤ 8) := by
                  rw [Hid]
                  have h1 := List.length_filter_le (wayB g.val fr k) (NL.take j)
                  have h2 : (NL.take j).length ≤ j := List.length_take_le _ _
                  omega
                have HBS : Hid (w1.heap.size ≤ wg.heap.size) := HBG.out.size
                clear hsub z0 z2 y3 h3a h4a
                go_wp2_with (at_builtin; refine wpList_push2 (by rfl) (.tmp 59) (.tmp 61) 111 (by rfl) w1.heap.size 114 3 Tryz.underlying111 infoStp (by rfl) (by decide) Stp.cells Stp.cells_len Stp.cells_one _ u _ ⟨jc, dd, sl⟩ (by rfl) (by rfl) HOG.out (by rfl) (by have := HLF.out; omega) (by decide) HBS.out ?_)
                intro u' w' hown' hb' hkp _
                have x2' : w'.cell? ⟨wr.heap.size, 2, none⟩ = some (.int .i64 sl) := (World.cell?_of_block (a := ⟨wr.heap.size, 2, none⟩) (hkp wr.heap.size HOYG.out.lt (fun e => by have := (HOWN.out.lt wr.heap.size e.symm).2; omega))).trans x2
                have HEY : Hid (y = ⟨jc, dd, sl⟩) := by rw [Hid, ← HC.out, ← HYD.out, ← HSL.out]
                have HOW' : Hid (OwnsL w' w1.heap.size 114 3 Stp.cells u' ((NL.take (j + 1)).filter (wayB g.val fr k))) := by
                  rw [Hid, filter_take_yes HY.out HYES.out, HEY.out]; exact hown'
                have HB' := Lib.hid (HBG.out.trans (hb'))
                have HQ' : Hid (allOf ((NL.take (j + 1)).filter (wayB g.val fr k)) = q + sl) := by
                  rw [Hid, filter_take_yes HY.out HYES.out, allOf_snoc, HQ.out, HSL.out]
                clear hown' hkp x0 x1 x2
                go_wp2
                go_roundg (p - (j + 1))
                case measure => have := HGJ.out; omega
                case rel => exact ⟨j + 1, u', q + sl, by omega, rfl, by go_num, rfl, by first | rfl | go_num, HQ'.out, by omega, by omega, HB'.out, HOW'.out⟩
              · have hd : decide (fr ≤ sl) = false := decide_eq_false hfs
                have HNO2 : Hid (wayB g.val fr k y = false) := by
                  rw [Hid]; unfold wayB; rw [HC.out, HH1.out, HH2.out, HSL.out]; simp [hfs]
                refine wp_region_sub (by kernel_rfl) (by kernel_rfl) ?_
                repeat (go_big_quiet_step (fail))
                refine wpQuiet_nil ?_
                intro wg hg
                have HOG := Lib.hid ((HOWN.out.below' hBa).below' hg)
                have HBG := Lib.hid (HBJ.out.trans ((hBa.trans (hg.mono hBa.size)).mono HBJ.out.size))
                clear hsub
                go_wp2
                go_roundg (p - (j + 1))
                case measure => have := HGJ.out; omega
                case rel => exact ⟨j + 1, u, q, by omega, rfl, by go_num, rfl, rfl, by rw [filter_take_no HY.out HNO2.out]; exact HQ.out, hq0, by omega, HBG.out, by rw [filter_take_no HY.out HNO2.out]; exact HOG.out⟩
            · have hd : decide (H2 < H1) = false := decide_eq_false hlow
              have HNO2 : Hid (wayB g.val fr k y = false) := by
                rw [Hid]; unfold wayB; rw [HC.out, HH1.out, HH2.out, HSL.out]; simp [hlow]
              refine wp_region_sub (by kernel_rfl) (by kernel_rfl) ?_
              repeat (go_big_quiet_step (fail))
              refine wpQuiet_nil ?_
              intro wg hg
              have HOG := Lib.hid ((HOWN.out.below' hBa).below' hg)
              have HBG := Lib.hid (HBJ.out.trans ((hBa.trans (hg.mono hBa.size)).mono HBJ.out.size))
              clear hsub
              go_wp2
              go_roundg (p - (j + 1))
              case measure => have := HGJ.out; omega
              case rel => exact ⟨j + 1, u, q, by omega, rfl, by go_num, rfl, rfl, by rw [filter_take_no HY.out HNO2.out]; exact HQ.out, hq0, by omega, HBG.out, by rw [filter_take_no HY.out HNO2.out]; exact HOG.out⟩
          · have hjp2 : j = p := by omega
            subst hjp2
            have hW0 : (NL.take j).filter (wayB g.val fr k) = waysT g.val fr k 8 := by
              rw [List.take_of_length_le (by rw [HP.out]; exact Nat.le_refl _), ← HNL.out]; rfl
            obtain ⟨W, hW⟩ : ∃ W, waysT g.val fr k 8 = W := ⟨_, rfl⟩
            have hown := HOWN.out
            have hq2 := HQ.out
            rw [hW0, hW] at hown hq2
            clear hW0
            obtain ⟨AW, cW, rfl, _, _, hsW⟩ := hown.slice Stp.cells_len
            obtain ⟨pw, hpw⟩ : ∃ pw, W.length = pw := ⟨_, rfl⟩
            simp only [hpw] at hown hsW ⊢
            have Hmv2 := Lib.hid (Hmv1.out.below' hbj)
            have Hsv2 := Lib.hid (Hsv1.out.below' hbj)
            have Hbox2 := Lib.hid (Hbox1.out.below' hbj)
            have hok := stepT_ok (g := g.val) (fr := fr) (ms := ms) HGB.out (by rw [HL.out, Hl.out]; exact HI.out.1.len.symm) hfr HM.out k (by rw [HL.out]; omega)
            rw [Hst.out] at hok
            have hsumb : mv.sum + m ≤ 64000000 ∧ st.sum + m ≤ 64000000 := by
              have h3 := hok.sum
              have h5 : (ms.take (k + 1)).sum = (ms.take k).sum + m := takesum_step HMk.out
              have h2 : (ms.take (k + 1)).sum + (ms.drop (k + 1)).sum = ms.sum := by rw [← List.sum_append, List.take_append_drop]
              have := sum_nonneg (ms.drop (k + 1)) (fun x hx => HM.out x (List.mem_of_mem_drop hx))
              have h6 := sum_nonneg st hok.n2
              have h7 := sum_nonneg mv hok.n1
              have := HS.out
              simp only at h3
              omega
            have hm0 : 0 ≤ m := hmn
            have hmle : m ≤ 64000000 := by have := sum_nonneg mv hok.n1; have := hsumb.1; omega
            have HN1 : Hid (∀ x ∈ mv, 0 ≤ x) := hok.n1
            have HN2 : Hid (∀ x ∈ st, 0 ≤ x) := hok.n2
            have HSB := Lib.hid hsumb
            have HLM : Hid (mv.length = n) := by rw [Hid, show mv.length = ms.length from hok.l1, HL.out]
            have HLS : Hid (st.length = n) := by rw [Hid, show st.length = ms.length from hok.l2, HL.out]
            have HOW := Lib.hid hown
            have HSW := Lib.hid hsW
            have HQW := Lib.hid hq2
            have HPW := Lib.hid hpw
            have hbB : b ≠ w.heap.size := by omega
            have haB : a ≠ w.heap.size := by omega
            clear hok hsumb hown hsW hq2 hpw
            cases W with
            | nil =>
              have hp0 : pw = 0 := HPW.out.symm
              subst hp0
              have HE : Hid (stepC g.val fr m k (mv, st) = (mv, addAt st k m)) := by rw [Hid]; unfold stepC; rw [hW]
              obtain ⟨s, hs⟩ : ∃ s, st[k]? = some s := ⟨_, List.getElem?_eq_getElem (by rw [HLS.out]; exact hlt)⟩
              have hs0 := HN2.out s (List.mem_of_getElem? hs)
              have hs1 : s ≤ 64000000 := by have := le_sum st HN2.out s (List.mem_of_getElem? hs); have := HSB.out.2; omega
              have s0 : wr.cell? ⟨b, k, none⟩ = some (.int .i64 s) := Hsv2.out.cell hs
              have df := Hsv2.out.frozen
              have HA := Lib.hid (addAt_set (d := m) hs)
              clear hs hW
              go_wp2
              go_roundg (n - (k + 1))
              case measure => have := Hgk.out; omega
              case rel => exact ⟨k + 1, mv, addAt st k m, by omega, rfl, by go_num, by rw [HT.out, HE.out], HBWJ.out.setCell (by simp; omega) _, Hbox2.out.far hbB.symm _, Hmv2.out.other hab _ _, by rw [HA.out]; exact Hsv2.out.set _ _⟩
            | cons x0 W0 =>
              obtain ⟨W, hWW⟩ : ∃ W, x0 :: W0 = W := ⟨_, rfl⟩
              have HX0 : Hid (W[0]? = some x0) := by rw [Hid, ← hWW]; rfl
              have HNE : Hid (W ≠ []) := by rw [Hid, ← hWW]; simp
              rw [hWW] at hW HOW HSW HQW HPW
              have HE : Hid (stepC g.val fr m k (mv, st) = (addAt (sharesOf m (allOf W) mv W) (bestOf x0 W).cell.toNat (leftOf m (allOf W) W), st)) := by
                rw [Hid]; unfold stepC; rw [hW, ← hWW]
              have hp1 : 1 ≤ pw := by rw [← HPW.out, ← hWW]; simp
              have hp8 : pw ≤ 8 := by rw [← HPW.out, ← hW]; exact waysT_len _ _ _ _
              have HWO : Hid (∀ x ∈ W, ∃ d j, WayOk g.val x d j ∧ inC g.val k d = true ∧ goC g.val k d = j) := fun x hx => by
                rw [← hW] at hx
                exact waysT_ok HGB.out (by rw [show g.val.heights.length = g.heightsN from HI.out.1.len, ← Hl.out]; exact hlt) hfr hx
              have HS1 : Hid (∀ x ∈ W, 1 ≤ x.slope) := fun x hx => by obtain ⟨_, _, h, _⟩ := HWO.out x hx; exact h.s1
              have halp := allOf_pos HS1.out HNE.out
              rw [HQW.out] at halp
              have HCL : Hid (∀ x ∈ W, x.cell.toNat < mv.length) := fun x hx => by
                obtain ⟨_, _, h, _⟩ := HWO.out x hx
                have := h.lt
                rw [h.cell, HLM.out]; rw [show g.val.heights.length = g.heightsN from HI.out.1.len, ← Hl.out] at this; simpa using this
              have HMID := fun i => Lib.hid (mid_ok hm0 HS1.out HNE.out HCL.out HN1.out HSB.out.1 HQW.out i)
              clear hW hWW
              obtain ⟨bs, os, y0, rfl, hbs, hyk, c0, c1, c2⟩ := Stp.at_ HSW.out (show 0 < pw by omega)
              rw [HX0.out] at hyk
              injection hyk with hyk
              subst hyk
              simp only [Nat.zero_mul, Nat.add_zero] at c0 c1 c2
              have hd3 : decide ((pw : Int) = 0) = false := decide_eq_false (by omega)
              have hd4 : ((pw : Int) == 0) = false := by simp; omega
              go_wp2
              obtain ⟨wa, hwa⟩ : ∃ wa, wr.alloc (.cells #[.int .i64 x0.cell, .int .i64 x0.dir, .int .i64 x0.slope] 114) = wa := ⟨_, rfl⟩
              obtain ⟨bb, hbb⟩ : ∃ bb, wr.heap.size = bb := ⟨_, rfl⟩
              have hBa : Below wr.heap.size wr wa := by rw [← hwa]; exact (Below.refl _ _).alloc (Nat.le_refl _) _
              have hOx : Own wa wr.heap.size 114 x0.cells.toArray := by rw [← hwa]; exact Own.new _ _ _
              have HBa := Lib.hid (HBWJ.out.trans (hBa.mono HBWJ.out.size))
              have Hmv3 := Lib.hid (Hmv2.out.below' hBa)
              have Hsv3 := Lib.hid (Hsv2.out.below' hBa)
              have Hbox3 := Lib.hid (Hbox2.out.below' hBa)
              have HOW3 := Lib.hid (HOW.out.below' hBa)
              have hab2 : a < bb := by rw [← hbb]; exact Hmv2.out.lt
              have hbb2 : b < bb := by rw [← hbb]; exact Hsv2.out.lt
              have hwb2 : w.heap.size < bb := by rw [← hbb]; exact Hbox2.out.lt
              have HLT : Hid (∀ kk, (Value.slice (some ⟨bs, os, none⟩) pw cW).ownBlock = some kk → w1.heap.size ≤ kk ∧ kk < bb) := by rw [Hid, ← hbb]; exact HOW.out.lt
              have HA1 : Hid (a < w1.heap.size) := Hmv1.out.lt
              rw [hwa, hbb]
              rw [hbb] at hOx
              have HOX := Lib.hid hOx
              clear hwa hBa hOx c0 c1 c2 hbb
              go_loopg [84, 17] pw (fun gk i l wr => ∃ (j : Nat) (L : Int) (mx : List Int) (bx : Stp), j ≤ pw ∧ gk = pw - j ∧ i = .int .i64 j ∧ l = .int .i64 L ∧ bestOf x0 (W.take j) = bx ∧ leftOf m q (W.take j) = L ∧ sharesOf m q mv (W.take j) = mx ∧ Below w.heap.size w wr ∧ Own wr w.heap.size 26 #[.int .i64 g.rows, .int .i64 g.columns, .int .i64 g.size, .slice g.heightsA g.heightsN g.heightsC] ∧ IntsAt wr a mx ∧ IntsAt wr b st ∧ OwnsL wr w1.heap.size 114 3 Stp.cells (.slice (some ⟨bs, os, none⟩) pw cW) W ∧ Own wr bb 114 bx.cells.toArray)
              case atStart => exact ⟨0, m, mv, x0, Nat.zero_le _, rfl, rfl, rfl, rfl, by simp [leftOf], rfl, HBa.out, Hbox3.out, Hmv3.out, Hsv3.out, HOW3.out, HOX.out⟩
              case round =>
                obtain ⟨i1, L, mx, bx, hi1, hgi, rfl, rfl, hbx, hL, hmx, hbr, hboxr, hmvr, hsvr, howr, hxr⟩ := hrel
                have HGI := Lib.hid hgi
                have HBX := Lib.hid hbx
                have HLL := Lib.hid hL
                have HMX := Lib.hid hmx
                have HBR := Lib.hid hbr
                have HBOXR := Lib.hid hboxr
                have HMVR := Lib.hid hmvr
                have HSVR := Lib.hid hsvr
                have HOWR := Lib.hid howr
                have HXR := Lib.hid hxr
                have hmid := (HMID i1).out
                rw [hL, hmx] at hmid
                obtain ⟨hmxl, hmxb, hL0, hL1⟩ := hmid
                have HMXL := Lib.hid hmxl
                have HMXB := Lib.hid hmxb
                clear hgi hbx hL hmx hboxr hmvr hsvr hmxl hmxb
                by_cases hip : i1 < pw
                · obtain ⟨bs', os', y, hA2, hbs', hyk, c0, c1, c2⟩ := Stp.at_ (howr.sl Stp.cells_len) hip
                  injection hA2 with e
                  injection e with e1 e2 _
                  subst e1 e2
                  obtain ⟨dd, jc, hway, _, _⟩ := HWO.out y (List.mem_of_getElem? hyk)
                  have hjc : jc < n := by have := hway.lt; rw [show g.val.heights.length = g.heightsN from HI.out.1.len, ← Hl.out] at this; exact this
                  rw [hway.cell] at c0
                  rw [hway.dir] at c1
                  have hs1 := hway.s1
                  have hs2 := hway.s2
                  have HC := Lib.hid hway.cell
                  have HD := Lib.hid hway.dir
                  have HYK := Lib.hid hyk
                  obtain ⟨sl, hsl⟩ : ∃ sl, y.slope = sl := ⟨_, rfl⟩
                  rw [hsl] at c2 hs1 hs2
                  have HSL := Lib.hid hsl
                  obtain ⟨bsl, hbsl⟩ : ∃ z, bx.slope = z := ⟨_, rfl⟩
                  have HBSL := Lib.hid hbsl
                  have q2 : wr.cell? ⟨bb, 2, none⟩ = some (.int .i64 bsl) := by rw [← hbsl]; exact hxr.cell 2
                  have q0 : wr.cell? ⟨bb, 0, none⟩ = some (.int .i64 bx.cell) := hxr.cell 0
                  have q1 : wr.cell? ⟨bb, 1, none⟩ = some (.int .i64 bx.dir) := hxr.cell 1
                  have hbbr : bb < wr.heap.size := hxr.lt
                  have dfx := hxr.frozen
                  clear howr hxr hway hyk hsl hbsl
                  by_cases hgt : bsl < sl
                  · go_wp2_with fail
                    obtain ⟨w5, hw5⟩ : ∃ w5, (((wr.setCell ⟨bb, 0, none⟩ (.int .i64 jc)).setCell ⟨bb, 1, none⟩ (.int .i64 dd)).setCell ⟨bb, 2, none⟩ (.int .i64 sl)).alloc (.cells #[.int .i64 jc, .int .i64 dd, .int .i64 sl] 114) = w5 := ⟨_, rfl⟩
                    obtain ⟨nb, hnb⟩ : ∃ nb, wr.heap.size = nb := ⟨_, rfl⟩
                    have HNB := Lib.hid hnb
                    have hsz5 : w5.heap.size = wr.heap.size + 1 := by rw [← hw5]; simp
                    have hk5 : ∀ k, k < wr.heap.size → k ≠ bb → w5.heap[k]? = wr.heap[k]? := fun k h1 h2 => by rw [← hw5]; exact (Below.heap_alloc _ _ k (by simpa using h1)).trans (set3_heap _ _ _ _ _ k h2)
                    have hX5 : Own w5 bb 114 (Stp.cells ⟨jc, dd, sl⟩).toArray := by rw [← hw5]; exact (Own.stp bx jc dd sl HXR.out).alloc _
                    have hY5 : Own w5 nb 114 (Stp.cells ⟨jc, dd, sl⟩).toArray := by
                      rw [← hw5, ← hnb]
                      have := Own.new (((wr.setCell ⟨bb, 0, none⟩ (.int .i64 jc)).setCell ⟨bb, 1, none⟩ (.int .i64 dd)).setCell ⟨bb, 2, none⟩ (.int .i64 sl)) 114 (Stp.cells ⟨jc, dd, sl⟩).toArray
                      rw [show (((wr.setCell ⟨bb, 0, none⟩ (.int .i64 jc)).setCell ⟨bb, 1, none⟩ (.int .i64 dd)).setCell ⟨bb, 2, none⟩ (.int .i64 sl)).heap.size = wr.heap.size by simp] at this
                      exact this
                    have hB5 : Below w.heap.size w w5 := by
                      rw [← hw5]
                      exact (((HBR.out.setCell (Nat.le_of_lt hwb2) _).setCell (Nat.le_of_lt hwb2) _).setCell (Nat.le_of_lt hwb2) _).alloc (by simpa using HBR.out.size) _
                    rw [hw5, hnb]
                    clear hw5
                    have hM5 : IntsAt w5 a mx := (hk5 a HMVR.out.lt (Nat.ne_of_lt hab2)).trans HMVR.out
                    have hS5 : IntsAt w5 b st := (hk5 b HSVR.out.lt (Nat.ne_of_lt hbb2)).trans HSVR.out
                    have hO5 : Own w5 w.heap.size 26 #[.int .i64 g.rows, .int .i64 g.columns, .int .i64 g.size, .slice g.heightsA g.heightsN g.heightsC] := (hk5 _ HBOXR.out.lt (Nat.ne_of_lt hwb2)).trans HBOXR.out
                    have hW5 := HOWR.out.kept (fun kk hkk => hk5 kk (HOWR.out.lt kk hkk).2 (Nat.ne_of_lt (HLT.out kk hkk).2))
                    have HX5 := Lib.hid hX5
                    have HY5 := Lib.hid hY5
                    have HB5 := Lib.hid hB5
                    have HM5 := Lib.hid hM5
                    have HS5 := Lib.hid hS5
                    have HO5 := Lib.hid hO5
                    have HW5 := Lib.hid hW5
                    obtain ⟨s, hs⟩ : ∃ s, mx[jc]? = some s := ⟨_, List.getElem?_eq_getElem (by rw [HMXL.out, HLM.out]; exact hjc)⟩
                    have hsb := HMXB.out s (List.mem_of_getElem? hs)
                    have HSJ := Lib.hid hs
                    have s5 : w5.cell? ⟨a, jc, none⟩ = some (.int .i64 s) := hM5.cell hs
                    have z0 : w5.cell? ⟨nb, 0, none⟩ = some (.int .i64 jc) := hY5.cell 0
                    have z2 : w5.cell? ⟨nb, 2, none⟩ = some (.int .i64 sl) := hY5.cell 2
                    have ha5 : a < w5.heap.size := hM5.lt
                    have hn5 : nb < w5.heap.size := hY5.lt
                    have hane : a ≠ nb := by have := HMVR.out.lt; omega
                    have hbnb : bb ≠ nb := by have := HXR.out.lt; omega
                    have hshare := share_one hm0 HS1.out (List.mem_of_getElem? HYK.out)
                    rw [HQW.out] at hshare
                    obtain ⟨S, hS⟩ : ∃ S, shareOf m q y = S := ⟨_, rfl⟩
                    rw [hS] at hshare
                    have HSS := Lib.hid hS
                    have hSc : (m * sl).tdiv q = S := by rw [← hS]; unfold shareOf; rw [HSL.out]
                    have hprod := prod_ok hm0 hmle hs1 hs2
                    obtain ⟨hP0, hP1, hP2⟩ := hprod
                    have hwS : IntKind.i64.wrap S = S := IntWalk.i64_in _ (by omega)
                    have hal0 : q ≠ 0 := by omega
                    have HBX' : Hid (bestOf x0 (W.take (i1 + 1)) = ⟨jc, dd, sl⟩) := by
                      rw [Hid, take_snoc HYK.out, bestOf_snoc, HBX.out, HBSL.out, HSL.out]
                      rw [if_pos hgt, ← HC.out, ← HD.out, ← HSL.out]
                    have HL' : Hid (leftOf m q (W.take (i1 + 1)) = L - S) := by rw [Hid, take_snoc HYK.out, leftOf_snoc, HLL.out, HSS.out]
                    have HM' : Hid (sharesOf m q mv (W.take (i1 + 1)) = addAt mx jc S) := by rw [Hid, take_snoc HYK.out, sharesOf_snoc, HMX.out, HSS.out, HC.out]; rfl
                    have hsub := fun (g : Sub w5) b o (h : b < w5.heap.size) => g.cell b o h
                    clear hk5 hX5 hY5 hB5 hM5 hS5 hO5 hW5 hs hS hnb hsz5 q0 q1 q2 dfx c0 c1 c2
                    refine wp_region_sub_tail 13 (by kernel_rfl) (by kernel_rfl) ?_
                    simp only [List.take_succ_cons, List.take_zero, List.drop_succ_cons, List.drop_zero]
                    repeat (go_big_quiet_step (fail))
                    refine wpQuiet_nil ?_
                    intro wg hg
                    have HMG := Lib.hid (HM5.out.below' hg)
                    have sg : wg.cell? ⟨a, jc, none⟩ = some (.int .i64 s) := HMG.out.cell HSJ.out
                    have dg := HMG.out.frozen
                    have zg : wg.cell? ⟨nb, 2, none⟩ = some (.int .i64 sl) := (hg.cell (p := ⟨nb, 2, none⟩) hn5).trans z2
                    have HFX : Hid (Own wg bb 114 (Stp.cells ⟨jc, dd, sl⟩).toArray) := HX5.out.below' hg
                    have HFS := Lib.hid (HS5.out.below' hg)
                    have HFO := Lib.hid (HO5.out.below' hg)
                    have HFW := Lib.hid (HW5.out.below' hg)
                    have HFB := Lib.hid (HB5.out.trans (hg.mono HB5.out.size))
                    have HSET : Hid (IntsAt (wg.setCell ⟨a, jc, none⟩ (.int .i64 (s + S))) a (addAt mx jc S)) := by rw [Hid, addAt_set HSJ.out]; exact HMG.out.set _ _
                    clear hsub s5 z0 z2
                    have zs : (wg.setCell ⟨a, jc, none⟩ (.int .i64 (s + S))).cell? ⟨nb, 2, none⟩ = some (.int .i64 sl) := (World.cell?_of_block (a := ⟨nb, 2, none⟩) (Below.heap_setCell wg ⟨a, jc, none⟩ (.int .i64 (s + S)) nb (Ne.symm hane))).trans zg
                    go_wp2
                    go_roundg (pw - (i1 + 1))
                    case measure => have := HGI.out; omega
                    case rel => exact ⟨i1 + 1, L - S, addAt mx jc S, ⟨jc, dd, sl⟩, by omega, rfl, by go_num, rfl, HBX'.out, HL'.out, HM'.out, HFB.out.setCell (by simp; omega) _, HFO.out.far (fun e => haB e.symm) _, HSET.out, HFS.out.other (Ne.symm hab) _ _, HFW.out.kept (fun kk hkk => Below.heap_setCell _ _ _ _ (fun e => by have := (HLT.out kk hkk).1; have := HA1.out; simp at e; omega)), HFX.out.far (fun e => by simp at e; omega) _⟩
                  · have hd : decide (bsl < sl) = false := decide_eq_false hgt
                    go_wp2_with fail
                    obtain ⟨w5, hw5⟩ : ∃ w5, wr.alloc (.cells #[.int .i64 jc, .int .i64 dd, .int .i64 sl] 114) = w5 := ⟨_, rfl⟩
                    obtain ⟨nb, hnb⟩ : ∃ nb, wr.heap.size = nb := ⟨_, rfl⟩
                    have HNB := Lib.hid hnb
                    have hsz5 : w5.heap.size = wr.heap.size + 1 := by rw [← hw5]; simp
                    have hk5 : ∀ k, k < wr.heap.size → k ≠ bb → w5.heap[k]? = wr.heap[k]? := fun k h1 h2 => by rw [← hw5]; exact Below.heap_alloc _ _ k h1
                    have hX5 : Own w5 bb 114 (Stp.cells bx).toArray := by rw [← hw5]; exact HXR.out.alloc _
                    have hY5 : Own w5 nb 114 (Stp.cells ⟨jc, dd, sl⟩).toArray := by
                      rw [← hw5, ← hnb]
                      exact Own.new _ _ _
                    have hB5 : Below w.heap.size w w5 := by
                      rw [← hw5]
                      exact HBR.out.alloc HBR.out.size _
                    rw [hw5, hnb]
                    clear hw5
                    have hM5 : IntsAt w5 a mx := (hk5 a HMVR.out.lt (Nat.ne_of_lt hab2)).trans HMVR.out
                    have hS5 : IntsAt w5 b st := (hk5 b HSVR.out.lt (Nat.ne_of_lt hbb2)).trans HSVR.out
                    have hO5 : Own w5 w.heap.size 26 #[.int .i64 g.rows, .int .i64 g.columns, .int .i64 g.size, .slice g.heightsA g.heightsN g.heightsC] := (hk5 _ HBOXR.out.lt (Nat.ne_of_lt hwb2)).trans HBOXR.out
                    have hW5 := HOWR.out.kept (fun kk hkk => hk5 kk (HOWR.out.lt kk hkk).2 (Nat.ne_of_lt (HLT.out kk hkk).2))
                    have HX5 := Lib.hid hX5
                    have HY5 := Lib.hid hY5
                    have HB5 := Lib.hid hB5
                    have HM5 := Lib.hid hM5
                    have HS5 := Lib.hid hS5
                    have HO5 := Lib.hid hO5
                    have HW5 := Lib.hid hW5
                    obtain ⟨s, hs⟩ : ∃ s, mx[jc]? = some s := ⟨_, List.getElem?_eq_getElem (by rw [HMXL.out, HLM.out]; exact hjc)⟩
                    have hsb := HMXB.out s (List.mem_of_getElem? hs)
                    have HSJ := Lib.hid hs
                    have s5 : w5.cell? ⟨a, jc, none⟩ = some (.int .i64 s) := hM5.cell hs
                    have z0 : w5.cell? ⟨nb, 0, none⟩ = some (.int .i64 jc) := hY5.cell 0
                    have z2 : w5.cell? ⟨nb, 2, none⟩ = some (.int .i64 sl) := hY5.cell 2
                    have ha5 : a < w5.heap.size := hM5.lt
                    have hn5 : nb < w5.heap.size := hY5.lt
                    have hane : a ≠ nb := by have := HMVR.out.lt; omega
                    have hbnb : bb ≠ nb := by have := HXR.out.lt; omega
                    have hshare := share_one hm0 HS1.out (List.mem_of_getElem? HYK.out)
                    rw [HQW.out] at hshare
                    obtain ⟨S, hS⟩ : ∃ S, shareOf m q y = S := ⟨_, rfl⟩
                    rw [hS] at hshare
                    have HSS := Lib.hid hS
                    have hSc : (m * sl).tdiv q = S := by rw [← hS]; unfold shareOf; rw [HSL.out]
                    have hprod := prod_ok hm0 hmle hs1 hs2
                    obtain ⟨hP0, hP1, hP2⟩ := hprod
                    have hwS : IntKind.i64.wrap S = S := IntWalk.i64_in _ (by omega)
                    have hal0 : q ≠ 0 := by omega
                    have HBX' : Hid (bestOf x0 (W.take (i1 + 1)) = bx) := by
                      rw [Hid, take_snoc HYK.out, bestOf_snoc, HBX.out, HBSL.out, HSL.out]
                      rw [if_neg (by omega)]
                    have HL' : Hid (leftOf m q (W.take (i1 + 1)) = L - S) := by rw [Hid, take_snoc HYK.out, leftOf_snoc, HLL.out, HSS.out]
                    have HM' : Hid (sharesOf m q mv (W.take (i1 + 1)) = addAt mx jc S) := by rw [Hid, take_snoc HYK.out, sharesOf_snoc, HMX.out, HSS.out, HC.out]; rfl
                    have hsub := fun (g : Sub w5) b o (h : b < w5.heap.size) => g.cell b o h
                    clear hk5 hX5 hY5 hB5 hM5 hS5 hO5 hW5 hs hS hnb hsz5 q0 q1 q2 dfx c0 c1 c2
                    refine wp_region_sub_tail 13 (by kernel_rfl) (by kernel_rfl) ?_
                    simp only [List.take_succ_cons, List.take_zero, List.drop_succ_cons, List.drop_zero]
                    repeat (go_big_quiet_step (fail))
                    refine wpQuiet_nil ?_
                    intro wg hg
                    have HMG := Lib.hid (HM5.out.below' hg)
                    have sg : wg.cell? ⟨a, jc, none⟩ = some (.int .i64 s) := HMG.out.cell HSJ.out
                    have dg := HMG.out.frozen
                    have zg : wg.cell? ⟨nb, 2, none⟩ = some (.int .i64 sl) := (hg.cell (p := ⟨nb, 2, none⟩) hn5).trans z2
                    have HFX : Hid (Own wg bb 114 (Stp.cells bx).toArray) := HX5.out.below' hg
                    have HFS := Lib.hid (HS5.out.below' hg)
                    have HFO := Lib.hid (HO5.out.below' hg)
                    have HFW := Lib.hid (HW5.out.below' hg)
                    have HFB := Lib.hid (HB5.out.trans (hg.mono HB5.out.size))
                    have HSET : Hid (IntsAt (wg.setCell ⟨a, jc, none⟩ (.int .i64 (s + S))) a (addAt mx jc S)) := by rw [Hid, addAt_set HSJ.out]; exact HMG.out.set _ _
                    clear hsub s5 z0 z2
                    have zs : (wg.setCell ⟨a, jc, none⟩ (.int .i64 (s + S))).cell? ⟨nb, 2, none⟩ = some (.int .i64 sl) := (World.cell?_of_block (a := ⟨nb, 2, none⟩) (Below.heap_setCell wg ⟨a, jc, none⟩ (.int .i64 (s + S)) nb (Ne.symm hane))).trans zg
                    go_wp2
                    go_roundg (pw - (i1 + 1))
                    case measure => have := HGI.out; omega
                    case rel => exact ⟨i1 + 1, L - S, addAt mx jc S, bx, by omega, rfl, by go_num, rfl, HBX'.out, HL'.out, HM'.out, HFB.out.setCell (by simp; omega) _, HFO.out.far (fun e => haB e.symm) _, HSET.out, HFS.out.other (Ne.symm hab) _ _, HFW.out.kept (fun kk hkk => Below.heap_setCell _ _ _ _ (fun e => by have := (HLT.out kk hkk).1; have := HA1.out; simp at e; omega)), HFX.out.far (fun e => by simp at e; omega) _⟩
                · have hip2 : i1 = pw := by omega
                  subst hip2
                  have HTK : Hid (W.take i1 = W) := List.take_of_length_le (by rw [HPW.out]; exact Nat.le_refl _)
                  have hbm : bx ∈ W := by
                    rw [← HBX.out, HTK.out]
                    rcases bestOf_mem W x0 with h | h
                    · rw [h]; exact List.mem_of_getElem? HX0.out
                    · exact h
                  obtain ⟨dd, jc, hway, _, _⟩ := HWO.out bx hbm
                  have hjc : jc < n := by have := hway.lt; rw [show g.val.heights.length = g.heightsN from HI.out.1.len, ← Hl.out] at this; exact this
                  have HCJ : Hid (bx.cell.toNat = jc) := by rw [Hid, hway.cell]; rfl
                  have q0 : wr.cell? ⟨bb, 0, none⟩ = some (.int .i64 jc) := by rw [← hway.cell]; exact hxr.cell 0
                  obtain ⟨s, hs⟩ : ∃ s, mx[jc]? = some s := ⟨_, List.getElem?_eq_getElem (by rw [HMXL.out, HLM.out]; exact hjc)⟩
                  have hsb := HMXB.out s (List.mem_of_getElem? hs)
                  have HSJ := Lib.hid hs
                  have s0 : wr.cell? ⟨a, jc, none⟩ = some (.int .i64 s) := HMVR.out.cell hs
                  have df := HMVR.out.frozen
                  have HFIN : Hid (stepC g.val fr m k (mv, st) = (addAt mx jc L, st)) := by
                    rw [Hid, HE.out, HQW.out]
                    have h1 := HBX.out
                    have h2 := HLL.out
                    have h3 := HMX.out
                    rw [HTK.out] at h1 h2 h3
                    rw [h1, h2, h3, HCJ.out]
                  clear hway hxr howr hs hbm
                  go_wp2
                  go_roundg (n - (k + 1))
                  case measure => have := Hgk.out; omega
                  case rel => exact ⟨k + 1, addAt mx jc L, st, by omega, rfl, by go_num, by rw [HT.out, HFIN.out], HBR.out.setCell (by simp; omega) _, HBOXR.out.far (fun e => haB e.symm) _, by rw [addAt_set HSJ.out]; exact HMVR.out.set _ _, HSVR.out.other (Ne.symm hab) _ _⟩
      · have hkn : k = n := by omega
        subst hkn
        have hls := stepT_len g.val fr ms k
        have HE := Lib.hid Hst.out
        go_wp2
        go_ret2
        exact ⟨_, _, rfl, by rw [HE.out]; exact Hmv.out.owns (by have := hls.1; rw [HE.out] at this; simpa [HL.out] using this) (by omega) (by omega), by rw [HE.out]; exact Hsv.out.owns (by have := hls.2; rw [HE.out] at this; simpa [HL.out] using this) (by omega) (by omega), hb⟩

end Go.Proofs.YtphapakhoibamaaGreatDoor
