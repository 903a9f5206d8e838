/- Small functions of the laws that draw: r8Long, r8Has, r8Wide. -/
import Derived.Test.YtamgodeiakflbaaDoorBase
import Derived.Test.YtamgodeiakflbaaDoorMem
import Derived.Test.YtamgodeiakflbaaDoorTInt64
import Derived.Test.YtamgodeiakflbaaDoorSrc
namespace Go.Proofs.YtamgodeiakflbaaDoor
open Go.RowKit

def hasQ (xs : List Int) (y : Int) : Bool := xs.any fun x => decide (x = y)
theorem hasQ_iff {xs : List Int} {y : Int} : hasQ xs y = true ↔ y ∈ xs := by unfold hasQ; simp
set_option maxHeartbeats 1000000 in
theorem r8Long_any (A B : Option Addr) (n c m d : Nat) (w : World) (hn : n ≤ 9223372036854775807) (hm : m ≤ 9223372036854775807) :
    Calls Tryd.prog 4 #[.slice A n c, .slice B m d] w (RetS (.bool (decide (1048576 < n) || decide (1048576 < m))) w) := by
  go_enter Tryd.func4, Tryd.ntmps4
  by_cases h1 : 1048576 < n
  · have HD : Hid ((decide (1048576 < n) || decide (1048576 < m)) = true) := by rw [Hid]; simp [h1]
    go_wp2
    go_ret
    exact RetS.b (by first | rfl | exact HD.out.symm | (rw [HD.out]; exact decide_eq_true (by omega)) | (rw [HD.out]; exact decide_eq_false (by omega)))
  · have hd : decide ((1048576 : Int) < (n : Int)) = false := decide_eq_false (by omega)
    by_cases h2 : 1048576 < m
    · have HD : Hid ((decide (1048576 < n) || decide (1048576 < m)) = true) := by rw [Hid]; simp [h2]
      go_wp2
      go_ret
      exact RetS.b (by first | rfl | exact HD.out.symm | (rw [HD.out]; exact decide_eq_true (by omega)) | (rw [HD.out]; exact decide_eq_false (by omega)))
    · have hd2 : decide ((1048576 : Int) < (m : Int)) = false := decide_eq_false (by omega)
      have HD : Hid ((decide (1048576 < n) || decide (1048576 < m)) = false) := by rw [Hid]; simp [h1, h2]
      go_wp2
      go_ret
      exact RetS.b (by first | rfl | exact HD.out.symm | (rw [HD.out]; exact decide_eq_true (by omega)) | (rw [HD.out]; exact decide_eq_false (by omega)))

end Go.Proofs.YtamgodeiakflbaaDoor
