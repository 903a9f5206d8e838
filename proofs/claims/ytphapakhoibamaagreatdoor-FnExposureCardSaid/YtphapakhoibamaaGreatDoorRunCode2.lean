/- routeCode of the program. -/
import Derived.Test.YtphapakhoibamaaGreatDoorBase
import Derived.Test.YtphapakhoibamaaGreatDoorMem
import Derived.Test.YtphapakhoibamaaGreatDoorTInt64
import Derived.Test.YtphapakhoibamaaGreatDoorWithin
import Derived.Test.YtphapakhoibamaaGreatDoorTGrid
import Derived.Test.YtphapakhoibamaaGreatDoorGrids
import Derived.Test.YtphapakhoibamaaGreatDoorRunCode
namespace Go.Proofs.YtphapakhoibamaaGreatDoor
open Go.RowKit

theorem frictionOk_any (fr : Int) (w : World) : Calls Tryz.prog 62 #[.int .i64 fr] w (RetS (.bool (inB fr 1 5000)) w) := by
  go_enter Tryz.func62, Tryz.ntmps62
  go_wp2_with (go_at_call 65; refine (within_any _ _ _ _).mono ?_; rintro e w' ⟨rfl, rfl⟩)
  go_ret
  exact RetS.b rfl
theorem cellC_ok {g : Grid} {cs : List Int} (h : gridB g = true) : cellC g cs = if (cs.all fun y => inB y 0 ((g.heights.length : Int) - 1)) = false then 2 else 0 := by unfold cellC; rw [if_neg (by rw [h]; simp)]
set_option maxHeartbeats 1000000 in
theorem routeCode_any (g : GridR) (B : Option Addr) (m d : Nat) (ms : List Int) (fr : Int) (C : Option Addr) (n c : Nat) (cs : List Int) (w : World) (hgi : g.In w) (hr : SliceOf w 1 i64cells B m ms) (hc : SliceOf w 1 i64cells C n cs) :
    Calls Tryz.prog 37 #[.agg #[.int .i64 g.rows, .int .i64 g.columns, .int .i64 g.size, .slice g.heightsA g.heightsN g.heightsC], .slice B m d, .int .i64 fr, .slice C n c] w (Ret (.int .i64 (runCx g.val ms fr cs)) w) := by
  have hB : Below w.heap.size w (w.alloc (.cells #[.int .i64 g.rows, .int .i64 g.columns, .int .i64 g.size, .slice g.heightsA g.heightsN g.heightsC] 26)) := (Below.refl _ _).alloc (Nat.le_refl _) _
  have HO := Lib.hid (Own.new w 26 #[.int .i64 g.rows, .int .i64 g.columns, .int .i64 g.size, .slice g.heightsA g.heightsN g.heightsC])
  have HB := Lib.hid hB
  have HI := Lib.hid (hgi.below hB)
  have HR := Lib.hid (hr.below hB)
  have HC := Lib.hid (hc.below hB)
  clear hgi hB hr hc
  go_enter Tryz.func37, Tryz.ntmps37
  go_wp2_with fail
  refine (validGrid_any g _ HI.out).mono ?_
  rintro e w1 ⟨rfl, hb1⟩
  have hbz := HB.out.trans (hb1.mono HB.out.size)
  cases hgb : gridB g.val
  · have HF : Hid (runCx g.val ms fr cs = 1) := by rw [Hid]; unfold runCx; rw [if_pos hgb]
    go_wp2
    go_ret
    exact Ret.i HF.out.symm hbz
  have HGB := Lib.hid hgb
  cases hfr : inB fr 1 5000
  · have HF : Hid (runCx g.val ms fr cs = 2) := by rw [Hid]; unfold runCx; rw [if_neg (by rw [hgb]; simp), if_pos (by rw [hfr, Bool.false_and])]
    go_wp2_with (go_at_call 62; refine (frictionOk_any _ _).mono ?_; rintro e w' ⟨rfl, rfl⟩)
    go_ret
    exact Ret.i HF.out.symm hbz
  have y0 : w1.cell? ⟨w.heap.size, 0, none⟩ = some (.int .i64 g.rows) := (hb1.cell (p := ⟨w.heap.size, 0, none⟩) (by simp)).trans (HO.out.cell 0)
  have y1 : w1.cell? ⟨w.heap.size, 1, none⟩ = some (.int .i64 g.columns) := (hb1.cell (p := ⟨w.heap.size, 1, none⟩) (by simp)).trans (HO.out.cell 1)
  have y2 : w1.cell? ⟨w.heap.size, 2, none⟩ = some (.int .i64 g.size) := (hb1.cell (p := ⟨w.heap.size, 2, none⟩) (by simp)).trans (HO.out.cell 2)
  have y3 : w1.cell? ⟨w.heap.size, 3, none⟩ = some (.slice g.heightsA g.heightsN g.heightsC) := (hb1.cell (p := ⟨w.heap.size, 3, none⟩) (by simp)).trans (HO.out.cell 3)
  go_wp2_with (go_at_call 62; refine (frictionOk_any _ _).mono ?_; rintro e w' ⟨rfl, rfl⟩)
  refine (gridCode_any g _ _ _ cs _ (HI.out.below hb1) (HC.out.below hb1)).mono ?_
  rintro e w2 ⟨rfl, hb2⟩
  have hbz2 := hbz.trans (hb2.mono hbz.size)
  have hb12 := hb1.trans (hb2.mono hb1.size)
  clear y0 y1 y2 y3
  rw [cellC_ok hgb]
  cases hcs : cs.all fun y => inB y 0 ((g.val.heights.length : Int) - 1)
  · have HF : Hid (runCx g.val ms fr cs = 2) := by rw [Hid]; unfold runCx; rw [if_neg (by rw [hgb]; simp), if_pos (by rw [hcs, Bool.and_false])]
    rw [if_pos rfl]
    go_wp2
    go_ret
    exact Ret.i HF.out.symm hbz2
  rw [if_neg (by simp)]
  have y0 : w2.cell? ⟨w.heap.size, 0, none⟩ = some (.int .i64 g.rows) := (hb12.cell (p := ⟨w.heap.size, 0, none⟩) (by simp)).trans (HO.out.cell 0)
  have y1 : w2.cell? ⟨w.heap.size, 1, none⟩ = some (.int .i64 g.columns) := (hb12.cell (p := ⟨w.heap.size, 1, none⟩) (by simp)).trans (HO.out.cell 1)
  have y2 : w2.cell? ⟨w.heap.size, 2, none⟩ = some (.int .i64 g.size) := (hb12.cell (p := ⟨w.heap.size, 2, none⟩) (by simp)).trans (HO.out.cell 2)
  have y3 : w2.cell? ⟨w.heap.size, 3, none⟩ = some (.slice g.heightsA g.heightsN g.heightsC) := (hb12.cell (p := ⟨w.heap.size, 3, none⟩) (by simp)).trans (HO.out.cell 3)
  go_wp2_with fail
  refine (hasMasses_any g _ _ _ ms _ (HI.out.below hb12) (HR.out.below hb12)).mono ?_
  rintro e w3 ⟨rfl, hb3⟩
  have hbz3 := hbz2.trans (hb3.mono hbz2.size)
  cases hms : massB g.val ms
  · have HF : Hid (runCx g.val ms fr cs = 7) := by rw [Hid]; unfold runCx; rw [if_neg (by rw [hgb]; simp), if_neg (by rw [hfr, hcs]; simp), if_pos hms]
    go_wp2
    go_ret
    exact Ret.i HF.out.symm hbz3
  · have HF : Hid (runCx g.val ms fr cs = 0) := by rw [Hid]; unfold runCx; rw [if_neg (by rw [hgb]; simp), if_neg (by rw [hfr, hcs]; simp), if_neg (by rw [hms]; simp)]
    go_wp2
    go_ret
    exact Ret.i HF.out.symm hbz3

end Go.Proofs.YtphapakhoibamaaGreatDoor
