/- Small functions of numbers, of the program and of the reference, each by what it returns. -/
import Derived.Test.YtokakabckjmfoaaProg
import Derived.Test.YtokakabckjmfoaaKit
namespace Go.Proofs.Ytokakabckjmfoaa
open Go.RowKit

/-- lo to hi, both let in. -/
def inB (n lo hi : Int) : Bool := decide (lo ≤ n) && decide (n ≤ hi)
theorem inB_iff {n lo hi : Int} : inB n lo hi = true ↔ lo ≤ n ∧ n ≤ hi := by simp [inB]
theorem inB_no {n lo hi : Int} : inB n lo hi = false ↔ ¬ (lo ≤ n ∧ n ≤ hi) := by rw [← inB_iff, Bool.not_eq_true]

set_option maxHeartbeats 400000 in
theorem within_any (n lo hi : Int) (w : World) :
    Calls Try.prog 63 #[.int .i64 n, .int .i64 lo, .int .i64 hi] w (RetS (.bool (inB n lo hi)) w) := by
  go_enter Try.func63, Try.ntmps63
  go_wp2
  all_goals (go_ret; refine RetS.b ?_)
  all_goals (simp [inB, *] <;> omega)

set_option maxHeartbeats 400000 in
theorem l00In_any (n lo hi : Int) (w : World) :
    Calls Try.prog 60 #[.int .i64 n, .int .i64 lo, .int .i64 hi] w (RetS (.bool (inB n lo hi)) w) := by
  go_enter Try.func60, Try.ntmps60
  go_wp2
  all_goals (go_ret; refine RetS.b ?_)
  all_goals (simp [inB, *] <;> omega)

set_option maxHeartbeats 400000 in
theorem l00Min_any (a b : Int) (w : World) :
    Calls Try.prog 120 #[.int .i64 a, .int .i64 b] w (RetS (.int .i64 (min a b)) w) := by
  go_enter Try.func120, Try.ntmps120
  go_wp2
  all_goals (go_ret; refine RetS.i ?_)
  all_goals omega

set_option maxHeartbeats 400000 in
theorem l00Max_any (a b : Int) (w : World) :
    Calls Try.prog 119 #[.int .i64 a, .int .i64 b] w (RetS (.int .i64 (max a b)) w) := by
  go_enter Try.func119, Try.ntmps119
  go_wp2
  all_goals (go_ret; refine RetS.i ?_)
  all_goals omega

set_option maxHeartbeats 400000 in
theorem levelOk_any (n : Int) (w : World) :
    Calls Try.prog 64 #[.int .i64 n] w (RetS (.bool (inB n 1 5)) w) := by
  go_enter Try.func64, Try.ntmps64
  go_wp2_with (go_at_call 63; refine (within_any _ _ _ _).mono ?_; rintro e w' ⟨rfl, rfl⟩)
  go_ret
  exact RetS.b rfl

set_option maxHeartbeats 400000 in
theorem l17Is_any (n : Int) (w : World) :
    Calls Try.prog 61 #[.int .i64 n] w (RetS (.bool (inB n 1 5)) w) := by
  go_enter Try.func61, Try.ntmps61
  go_wp2_with (go_at_call 60; refine (l00In_any _ _ _ _).mono ?_; rintro e w' ⟨rfl, rfl⟩)
  go_ret
  exact RetS.b rfl

set_option maxHeartbeats 400000 in
theorem divUp_any (a b : Int) (w : World) (h0 : 0 ≤ a) (h1 : a ≤ 1000000000000) (h2 : 1 ≤ b) (h3 : b ≤ 1000000000000) :
    Calls Try.prog 105 #[.int .i64 a, .int .i64 b] w (RetS (.int .i64 ((a + b - 1) / b)) w) := by
  go_enter Try.func105, Try.ntmps105
  go_wp2
  go_ret
  exact RetS.i rfl

end Go.Proofs.Ytokakabckjmfoaa
