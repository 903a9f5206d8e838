/- NeededGuides: what the program's and the reference's return. -/
import Derived.Test.YtokakabckjmfoaaBase
namespace Go.Proofs.Ytokakabckjmfoaa
open Go.RowKit

def guidesF (p l : Int) : Int := if l = 1 then 0 else if l = 2 then (p + 11) / 12 else if l = 3 then (p + 7) / 8 else if l = 4 then (p + 3) / 4 else p

set_option maxHeartbeats 400000 in
theorem l24Guides_any (p l : Int) (w : World) (h0 : 1 ≤ p) (h1 : p ≤ 30) :
    Calls Try.prog 62 #[.int .i64 p, .int .i64 l] w (RetS (.int .i64 (guidesF p l)) w) := by
  go_enter Try.func62, Try.ntmps62
  go_wp2
  all_goals (go_ret; refine RetS.i ?_)
  all_goals (simp_all [guidesF])

set_option maxHeartbeats 400000 in
theorem neededGuides_any (p l : Int) (w : World) (h0 : 1 ≤ p) (h1 : p ≤ 30) :
    Calls Try.prog 65 #[.int .i64 p, .int .i64 l] w (RetS (.int .i64 (guidesF p l)) w) := by
  go_enter Try.func65, Try.ntmps65
  go_wp2_with (go_at_call 105; refine (divUp_any _ _ _ (by omega) (by omega) (by omega) (by omega)).mono ?_; rintro e w' ⟨rfl, rfl⟩)
  all_goals (go_ret; refine RetS.i ?_)
  all_goals (simp_all [guidesF])
  all_goals omega

set_option maxHeartbeats 400000 in
theorem specNeededGuides_any (p l : Int) (w : World) :
    Calls Try.prog 15 #[.int .i64 p, .int .i64 l] w (RetS (.tuple #[.int .i64 (if inB p 1 30 = true ∧ inB l 1 5 = true then guidesF p l else 0), .int .i64 (if inB p 1 30 = true ∧ inB l 1 5 = true then 0 else 2)]) w) := by
  go_enter Try.func15, Try.ntmps15
  cases hp : inB p 1 30 <;> cases hl : inB l 1 5
  all_goals go_wp2_with (first | (go_at_call 60; refine (l00In_any _ _ _ _).mono ?_; rintro e w' ⟨rfl, rfl⟩) | (go_at_call 61; refine (l17Is_any _ _).mono ?_; rintro e w' ⟨rfl, rfl⟩) | (go_at_call 62; refine (l24Guides_any _ _ _ (inB_iff.1 hp).1 (inB_iff.1 hp).2).mono ?_; rintro e w' ⟨rfl, rfl⟩))
  all_goals (go_ret2; refine RetS.ii ?_ ?_)
  all_goals simp_all

set_option maxHeartbeats 400000 in
theorem implNeededGuides_any (p l : Int) (w : World) :
    Calls Try.prog 16 #[.int .i64 p, .int .i64 l] w (RetS (.tuple #[.int .i64 (if inB p 1 30 = true ∧ inB l 1 5 = true then guidesF p l else 0), .int .i64 (if inB p 1 30 = true ∧ inB l 1 5 = true then 0 else 2)]) w) := by
  go_enter Try.func16, Try.ntmps16
  cases hp : inB p 1 30 <;> cases hl : inB l 1 5
  all_goals go_wp2_with (first | (go_at_call 63; refine (within_any _ _ _ _).mono ?_; rintro e w' ⟨rfl, rfl⟩) | (go_at_call 64; refine (levelOk_any _ _).mono ?_; rintro e w' ⟨rfl, rfl⟩) | (go_at_call 65; refine (neededGuides_any _ _ _ (inB_iff.1 hp).1 (inB_iff.1 hp).2).mono ?_; rintro e w' ⟨rfl, rfl⟩))
  all_goals (go_ret2; refine RetS.ii ?_ ?_)
  all_goals simp_all

set_option maxHeartbeats 400000 in
theorem walk_FnExactNeededGuides (p l : Int) (w : World) (_g0 : I64 p) (_g1 : I64 l) :
    Calls Try.prog 3 #[.int .i64 p, .int .i64 l] w (Ret (.bool true) w) := by
  go_enter Try.func3, Try.ntmps3
  go_wp2_with (first | (go_at_call 15; refine (specNeededGuides_any _ _ _).mono ?_; rintro e w' ⟨rfl, rfl⟩) | (go_at_call 16; refine (implNeededGuides_any _ _ _).mono ?_; rintro e w' ⟨rfl, rfl⟩))
  all_goals (go_ret; exact Ret.b (by simp_all) (Below.refl _ _))

end Go.Proofs.Ytokakabckjmfoaa
