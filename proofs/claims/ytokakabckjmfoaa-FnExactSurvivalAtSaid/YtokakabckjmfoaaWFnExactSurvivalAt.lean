/- The walk of the law FnExactSurvivalAt: it returns true. -/
import Derived.Test.YtokakabckjmfoaaSurv
namespace Go.Proofs.Ytokakabckjmfoaa
open Go.RowKit

set_option maxHeartbeats 2000000 in
theorem walk_FnExactSurvivalAt (a0 : Int) (w : World) (_g0 : I64 a0) : Calls Try.prog 5 #[.int .i64 a0] w (Ret (.bool true) w) := by
  go_enter Try.func5, Try.ntmps5
  go_wp2_with fail
  refine (specSurvivalAt_any _ _).mono ?_
  rintro e w1 ⟨rfl, b1⟩
  have t1 : Below w.heap.size w w1 := (Below.refl w.heap.size w).trans (b1.mono (Below.refl w.heap.size w).size)
  go_wp2_with fail
  refine (implSurvivalAt_any _ _).mono ?_
  rintro e w2 ⟨rfl, b2⟩
  have t2 : Below w.heap.size w w2 := t1.trans (b2.mono t1.size)
  go_wp2
  go_ret
  exact Ret.b rfl t2

end Go.Proofs.Ytokakabckjmfoaa
