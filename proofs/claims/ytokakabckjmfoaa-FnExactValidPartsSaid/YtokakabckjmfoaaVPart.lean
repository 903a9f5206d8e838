/- When one Part, and a list of them, is valid: the program's and the reference's functions return one Boolean. -/
import Derived.Test.YtokakabckjmfoaaBase
import Derived.Test.YtokakabckjmfoaaTPart
namespace Go.Proofs.Ytokakabckjmfoaa
open Go.RowKit

def Part.oneB (x : Part) : Bool := inB x.length 1 2000 && inB x.width 1 500 && inB x.depth 0 500 && inB x.density 1 1000
theorem Part.oneB_iff (x : Part) : x.oneB = true ↔ inB x.length 1 2000 = true ∧ inB x.width 1 500 = true ∧ inB x.depth 0 500 = true ∧ inB x.density 1 1000 = true := by simp [Part.oneB, and_assoc]

set_option maxHeartbeats 1000000 in
theorem implPartvalid_any (x : Part) (w : World)  :
    Calls Try.prog 89 #[.agg #[.int .i64 x.length, .int .i64 x.width, .int .i64 x.depth, .int .i64 x.density]] w (Ret (.bool x.oneB) w) := by
  rcases cases4 (inB x.length 1 2000) (inB x.width 1 500) (inB x.depth 0 500) (inB x.density 1 1000) with h0 | ⟨h0, h1⟩ | ⟨h0, h1, h2⟩ | ⟨h0, h1, h2, h3⟩ | ⟨h0, h1, h2, h3⟩
  · skip
    go_enter Try.func89, Try.ntmps89
    go_wp2_with ((go_at_call 63; refine (within_any _ _ _ _).mono ?_; rintro e w' ⟨rfl, rfl⟩))
    all_goals (go_ret; exact Ret.b (by simp [Part.oneB, *]) (by repeat (first | assumption | exact Below.refl _ _ | refine Below.alloc ?_ (by simp <;> omega) _)))
  · have ⟨_, _⟩ := inB_iff.1 h0
    go_enter Try.func89, Try.ntmps89
    go_wp2_with ((go_at_call 63; refine (within_any _ _ _ _).mono ?_; rintro e w' ⟨rfl, rfl⟩))
    all_goals (go_ret; exact Ret.b (by simp [Part.oneB, *]) (by repeat (first | assumption | exact Below.refl _ _ | refine Below.alloc ?_ (by simp <;> omega) _)))
  · have ⟨_, _⟩ := inB_iff.1 h0
    have ⟨_, _⟩ := inB_iff.1 h1
    go_enter Try.func89, Try.ntmps89
    go_wp2_with ((go_at_call 63; refine (within_any _ _ _ _).mono ?_; rintro e w' ⟨rfl, rfl⟩))
    all_goals (go_ret; exact Ret.b (by simp [Part.oneB, *]) (by repeat (first | assumption | exact Below.refl _ _ | refine Below.alloc ?_ (by simp <;> omega) _)))
  · have ⟨_, _⟩ := inB_iff.1 h0
    have ⟨_, _⟩ := inB_iff.1 h1
    have ⟨_, _⟩ := inB_iff.1 h2
    go_enter Try.func89, Try.ntmps89
    go_wp2_with ((go_at_call 63; refine (within_any _ _ _ _).mono ?_; rintro e w' ⟨rfl, rfl⟩))
    all_goals (go_ret; exact Ret.b (by simp [Part.oneB, *]) (by repeat (first | assumption | exact Below.refl _ _ | refine Below.alloc ?_ (by simp <;> omega) _)))
  · have ⟨_, _⟩ := inB_iff.1 h0
    have ⟨_, _⟩ := inB_iff.1 h1
    have ⟨_, _⟩ := inB_iff.1 h2
    have ⟨_, _⟩ := inB_iff.1 h3
    go_enter Try.func89, Try.ntmps89
    go_wp2_with ((go_at_call 63; refine (within_any _ _ _ _).mono ?_; rintro e w' ⟨rfl, rfl⟩))
    all_goals (go_ret; exact Ret.b (by simp [Part.oneB, *]) (by repeat (first | assumption | exact Below.refl _ _ | refine Below.alloc ?_ (by simp <;> omega) _)))

set_option maxHeartbeats 1000000 in
theorem specPartOne_any (x : Part) (b off : Nat) (w : World) (_hb : b < w.heap.size) (x0 : w.cell? ⟨b, off, none⟩ = some (.int .i64 x.length)) (x1 : w.cell? ⟨b, off + 1, none⟩ = some (.int .i64 x.width)) (x2 : w.cell? ⟨b, off + 2, none⟩ = some (.int .i64 x.depth)) (x3 : w.cell? ⟨b, off + 3, none⟩ = some (.int .i64 x.density)) :
    Calls Try.prog 116 #[.pointer (some ⟨b, off, none⟩)] w (Ret (.bool x.oneB) w) := by
  rcases cases4 (inB x.length 1 2000) (inB x.width 1 500) (inB x.depth 0 500) (inB x.density 1 1000) with h0 | ⟨h0, h1⟩ | ⟨h0, h1, h2⟩ | ⟨h0, h1, h2, h3⟩ | ⟨h0, h1, h2, h3⟩
  · skip
    go_enter Try.func116, Try.ntmps116
    go_wp2_with ((go_at_call 60; refine (l00In_any _ _ _ _).mono ?_; rintro e w' ⟨rfl, rfl⟩))
    all_goals (go_ret; exact Ret.b (by simp [Part.oneB, *]) (by repeat (first | assumption | exact Below.refl _ _ | refine Below.alloc ?_ (by simp <;> omega) _)))
  · have ⟨_, _⟩ := inB_iff.1 h0
    go_enter Try.func116, Try.ntmps116
    go_wp2_with ((go_at_call 60; refine (l00In_any _ _ _ _).mono ?_; rintro e w' ⟨rfl, rfl⟩))
    all_goals (go_ret; exact Ret.b (by simp [Part.oneB, *]) (by repeat (first | assumption | exact Below.refl _ _ | refine Below.alloc ?_ (by simp <;> omega) _)))
  · have ⟨_, _⟩ := inB_iff.1 h0
    have ⟨_, _⟩ := inB_iff.1 h1
    go_enter Try.func116, Try.ntmps116
    go_wp2_with ((go_at_call 60; refine (l00In_any _ _ _ _).mono ?_; rintro e w' ⟨rfl, rfl⟩))
    all_goals (go_ret; exact Ret.b (by simp [Part.oneB, *]) (by repeat (first | assumption | exact Below.refl _ _ | refine Below.alloc ?_ (by simp <;> omega) _)))
  · have ⟨_, _⟩ := inB_iff.1 h0
    have ⟨_, _⟩ := inB_iff.1 h1
    have ⟨_, _⟩ := inB_iff.1 h2
    go_enter Try.func116, Try.ntmps116
    go_wp2_with (first | (go_at_call 60; refine (l00In_any _ _ _ _).mono ?_; rintro e w' ⟨rfl, rfl⟩) | (go_at_call 129; refine (l02Density_any _ _).mono ?_; rintro e w' ⟨rfl, rfl⟩))
    all_goals (go_ret; exact Ret.b (by simp [Part.oneB, *]) (by repeat (first | assumption | exact Below.refl _ _ | refine Below.alloc ?_ (by simp <;> omega) _)))
  · have ⟨_, _⟩ := inB_iff.1 h0
    have ⟨_, _⟩ := inB_iff.1 h1
    have ⟨_, _⟩ := inB_iff.1 h2
    have ⟨_, _⟩ := inB_iff.1 h3
    go_enter Try.func116, Try.ntmps116
    go_wp2_with (first | (go_at_call 60; refine (l00In_any _ _ _ _).mono ?_; rintro e w' ⟨rfl, rfl⟩) | (go_at_call 129; refine (l02Density_any _ _).mono ?_; rintro e w' ⟨rfl, rfl⟩))
    all_goals (go_ret; exact Ret.b (by simp [Part.oneB, *]) (by repeat (first | assumption | exact Below.refl _ _ | refine Below.alloc ?_ (by simp <;> omega) _)))

end Go.Proofs.Ytokakabckjmfoaa
