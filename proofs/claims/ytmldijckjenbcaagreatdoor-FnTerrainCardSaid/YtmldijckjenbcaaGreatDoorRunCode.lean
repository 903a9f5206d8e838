/- What RunMass and its kin answer before they run: both sides. -/
import Derived.Test.YtmldijckjenbcaaGreatDoorBase
import Derived.Test.YtmldijckjenbcaaGreatDoorMem
import Derived.Test.YtmldijckjenbcaaGreatDoorTInt64
import Derived.Test.YtmldijckjenbcaaGreatDoorWithin
import Derived.Test.YtmldijckjenbcaaGreatDoorTGrid
import Derived.Test.YtmldijckjenbcaaGreatDoorGrids
namespace Go.Proofs.YtmldijckjenbcaaGreatDoor
open Go.RowKit

def massB (g : Grid) (ms : List Int) : Bool := decide (ms.length = g.heights.length) && ms.all fun y => inB y 0 1000000
def runC (g : Grid) (ms : List Int) (fr : Int) : Int := if gridB g = false then 1 else if inB fr 1 5000 = false then 2 else if massB g ms = false then 7 else 0
theorem takesum_step {xs : List Int} {k : Nat} {x : Int} (h : xs[k]? = some x) : (xs.take (k + 1)).sum = (xs.take k).sum + x := by
  rw [List.take_succ_eq_append_getElem (List.getElem?_eq_some_iff.1 h).1, (List.getElem?_eq_some_iff.1 h).2]; simp
def runCx (g : Grid) (ms : List Int) (fr : Int) (cs : List Int) : Int := if gridB g = false then 1 else if (inB fr 1 5000 && cs.all fun y => inB y 0 ((g.heights.length : Int) - 1)) = false then 2 else if massB g ms = false then 7 else 0
theorem runCx_nil (g : Grid) (ms : List Int) (fr : Int) : runCx g ms fr [] = runC g ms fr := by unfold runCx runC; simp
def cellC (g : Grid) (cs : List Int) : Int := if gridB g = false then 1 else if (cs.all fun y => inB y 0 ((g.heights.length : Int) - 1)) = false then 2 else 0
set_option maxHeartbeats 1000000 in
theorem gridCode_any (g : GridR) (B : Option Addr) (m d : Nat) (cs : List Int) (w : World) (hgi : g.In w) (hr : SliceOf w 1 i64cells B m cs) :
    Calls Tryz.prog 34 #[.agg #[.int .i64 g.rows, .int .i64 g.columns, .int .i64 g.size, .slice g.heightsA g.heightsN g.heightsC], .slice B m d] w (Ret (.int .i64 (cellC g.val cs)) w) := by
  have HGl := Lib.hid hgi.1.len
  have hgn := hgi.1.le
  have hB : Below w.heap.size w (w.alloc (.cells #[.int .i64 g.rows, .int .i64 g.columns, .int .i64 g.size, .slice g.heightsA g.heightsN g.heightsC] 26)) := (Below.refl _ _).alloc (Nat.le_refl _) _
  have HO := Lib.hid (Own.new w 26 #[.int .i64 g.rows, .int .i64 g.columns, .int .i64 g.size, .slice g.heightsA g.heightsN g.heightsC])
  have HB := Lib.hid hB
  have HI := Lib.hid (hgi.below hB)
  have HR := Lib.hid (hr.below hB)
  clear hgi hB hr
  go_enter Tryz.func34, Tryz.ntmps34
  go_wp2_with fail
  refine (validGrid_any g _ HI.out).mono ?_
  rintro e w1 ⟨rfl, hb1⟩
  have hbz := HB.out.trans (hb1.mono HB.out.size)
  cases hgb : gridB g.val
  · have HF : Hid (cellC g.val cs = 1) := by rw [Hid]; unfold cellC; rw [if_pos hgb]
    go_wp2
    go_ret
    exact Ret.i HF.out.symm hbz
  have y3 : w1.cell? ⟨w.heap.size, 3, none⟩ = some (.slice g.heightsA g.heightsN g.heightsC) := (hb1.cell (p := ⟨w.heap.size, 3, none⟩) (by simp)).trans (HO.out.cell 3)
  go_wp2_with fail
  refine (allWithin_any 0 ((g.heightsN : Int) - 1) _ _ _ cs _ (HR.out.below hb1)).mono ?_
  rintro e w2 ⟨rfl, hb2⟩
  have hbz2 := hbz.trans (hb2.mono hbz.size)
  cases hcs : cs.all fun y => inB y 0 ((g.heightsN : Int) - 1)
  · have HF : Hid (cellC g.val cs = 2) := by rw [Hid]; unfold cellC; rw [if_neg (by rw [hgb]; simp), if_pos (by rw [show g.val.heights.length = g.heightsN from HGl.out]; exact hcs)]
    go_wp2
    go_ret
    exact Ret.i HF.out.symm hbz2
  · have HF : Hid (cellC g.val cs = 0) := by rw [Hid]; unfold cellC; rw [if_neg (by rw [hgb]; simp), if_neg (by rw [show g.val.heights.length = g.heightsN from HGl.out, hcs]; simp)]
    go_wp2
    go_ret
    exact Ret.i HF.out.symm hbz2

end Go.Proofs.YtmldijckjenbcaaGreatDoor
