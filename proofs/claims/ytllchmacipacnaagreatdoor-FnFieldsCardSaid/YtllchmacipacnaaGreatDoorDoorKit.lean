/- What the listed tables of the library give the walks. -/
import Derived.Test.YtllchmacipacnaaGreatDoorRows
import Derived.Test.YtllchmacipacnaaGreatDoorDec
import Derived.Lib.LaidTab
import Derived.LaidMore
import Derived.LaidLaws
import Derived.Stop.LaidErr
import Derived.MakeChecks
namespace Go.Proofs.YtllchmacipacnaaGreatDoor
open Go.RowKit

/-- The table of powers, where it heads the list. -/
theorem tab_of_head {W : World} {rest : List (String × DataW Unit)} (h : laidMet Tryz.prog (("internal/strconv.uint64pow10", Rows.laid_internal_strconv_uint64pow10) :: rest) W) : TabAt W.heap.size W :=
  Lib.tabBelow_of_tabIs (Lib.tabIs_of_head (k := .u64) (zs := Lib.pow10Tab) (g := 3) (t := 134) (e := 76) (n := 20) (by kernel_rfl) (by kernel_rfl) (by kernel_rfl) (by kernel_rfl) (by kernel_rfl) (by kernel_rfl) h)
/-- The table of powers, third of the list. -/
theorem tab_of_laid {W : World} {a b : String × DataW Unit} {rest : List (String × DataW Unit)} (hp : ((a :: b :: ("internal/strconv.uint64pow10", Rows.laid_internal_strconv_uint64pow10) :: rest).all fun x => x.2.handleName?.isNone) = true)
    (h : laidMetH Tryz.prog (a :: b :: ("internal/strconv.uint64pow10", Rows.laid_internal_strconv_uint64pow10) :: rest) W) : TabAt W.heap.size W := by
  rw [MakeChecks.laidMetH_plain _ _ _ hp] at h
  exact tab_of_head (laidMet.tail (laidMet.tail h))

end Go.Proofs.YtllchmacipacnaaGreatDoor
