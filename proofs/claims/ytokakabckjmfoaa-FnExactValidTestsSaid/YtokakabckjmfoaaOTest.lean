/- When one Test is valid, and its class: the program's methods and the reference's functions return the same. -/
import Derived.Test.YtokakabckjmfoaaBase
import Derived.Test.YtokakabckjmfoaaTTest
namespace Go.Proofs.Ytokakabckjmfoaa
open Go.RowKit

def Test.oneB (x : Test) : Bool := inB x.quality 1 3 && inB x.depth 1 300 && inB x.hour 0 100000 && (if x.kind = 3 then inB x.score 1 7 else (decide (x.kind = 1) || decide (x.kind = 2)) && inB x.score 0 31)

set_option maxHeartbeats 2000000 in
theorem implTestvalid_any (x : Test) (w : World) :
    Calls Try.prog 93 #[.agg #[.int .i64 x.kind, .int .i64 x.score, .int .i64 x.quality, .int .i64 x.depth, .int .i64 x.hour]] w (Ret (.bool x.oneB) w) := by
  go_enter Try.func93, Try.ntmps93
  go_wp2_with (first | (go_at_call 63; refine (within_any _ _ _ _).mono ?_; rintro e w' ⟨rfl, rfl⟩) | (go_at_call 115; refine (hourOk_any _ _).mono ?_; rintro e w' ⟨rfl, rfl⟩))
  all_goals (go_ret; refine Ret.b ?_ ((Below.refl _ _).alloc (Nat.le_refl _) _))
  all_goals (simp_all [Test.oneB])

set_option maxHeartbeats 2000000 in
theorem specTestOne_any (x : Test) (b off : Nat) (w : World) (_hb : b < w.heap.size) (x0 : w.cell? ⟨b, off, none⟩ = some (.int .i64 x.kind)) (x1 : w.cell? ⟨b, off + 1, none⟩ = some (.int .i64 x.score)) (x2 : w.cell? ⟨b, off + 2, none⟩ = some (.int .i64 x.quality)) (x3 : w.cell? ⟨b, off + 3, none⟩ = some (.int .i64 x.depth)) (x4 : w.cell? ⟨b, off + 4, none⟩ = some (.int .i64 x.hour)) :
    Calls Try.prog 91 #[.pointer (some ⟨b, off, none⟩)] w (Ret (.bool x.oneB) w) := by
  go_enter Try.func91, Try.ntmps91
  go_wp2_with (first | (go_at_call 60; refine (l00In_any _ _ _ _).mono ?_; rintro e w' ⟨rfl, rfl⟩) | (go_at_call 118; refine (l04Hour_any _ _).mono ?_; rintro e w' ⟨rfl, rfl⟩))
  all_goals (go_ret; refine Ret.b ?_ (Below.refl _ _))
  all_goals (simp_all [Test.oneB])

def lim1 (k : Int) : Int := if k = 2 then 13 else if k = 3 then 2 else 10
def lim2 (k : Int) : Int := if k = 2 then 22 else if k = 3 then 4 else 20
def lim3 (k : Int) : Int := if k = 3 then 6 else 30
def classF (kind score quality : Int) : Int := max (1 + ((if lim1 kind < score then 1 else 0) + (if lim2 kind < score then 1 else 0) + (if lim3 kind < score then 1 else 0)) + quality - 2) 1 |> min 4

theorem score_cases (a b c s : Int) : s ≤ a ∨ a < s ∧ s ≤ b ∨ b < s ∧ s ≤ c ∨ c < s := by omega

theorem classF_of {kind score quality : Int} {a b c : Int} (h1 : lim1 kind = a) (h2 : lim2 kind = b) (h3 : lim3 kind = c) : classF kind score quality = min 4 (max (1 + ((if a < score then 1 else 0) + (if b < score then 1 else 0) + (if c < score then 1 else 0)) + quality - 2) 1) := by
  subst h1 h2 h3; rfl

set_option maxRecDepth 100000 in
set_option maxHeartbeats 4000000 in
theorem class1_any (score quality depth hour : Int) (w : World) (hq1 : 1 ≤ quality) (hq3 : quality ≤ 3) :
    Calls Try.prog 94 #[.agg #[.int .i64 1, .int .i64 score, .int .i64 quality, .int .i64 depth, .int .i64 hour]] w (Ret (.int .i64 (classF 1 score quality)) w) := by
  have HC := Lib.hid (classF_of (kind := 1) (score := score) (quality := quality) (a := 10) (b := 20) (c := 30) rfl rfl rfl)
  have ia : ∀ w, (Instr.index 140 (.agg #[.int .i64 0, .int .i64 0, .int .i64 0, .int .i64 10, .int .i64 20, .int .i64 30, .int .i64 13, .int .i64 22, .int .i64 30, .int .i64 2, .int .i64 4, .int .i64 6]) (.int .i64 1)).run Try.prog w = .ok (.agg #[.int .i64 10, .int .i64 20, .int .i64 30]) w := fun _ => by kernel_rfl
  have i0 : ∀ w, (Instr.index 139 (.agg #[.int .i64 10, .int .i64 20, .int .i64 30]) (.int .i64 0)).run Try.prog w = .ok (.int .i64 10) w := fun _ => by kernel_rfl
  have i1 : ∀ w, (Instr.index 139 (.agg #[.int .i64 10, .int .i64 20, .int .i64 30]) (.int .i64 1)).run Try.prog w = .ok (.int .i64 20) w := fun _ => by kernel_rfl
  have i2 : ∀ w, (Instr.index 139 (.agg #[.int .i64 10, .int .i64 20, .int .i64 30]) (.int .i64 2)).run Try.prog w = .ok (.int .i64 30) w := fun _ => by kernel_rfl
  rcases score_cases 10 20 30 score with h | ⟨h, h'⟩ | ⟨h, h'⟩ | h
  all_goals
    go_enter Try.func94, Try.ntmps94
    go_wp2
    refine wp_loop_rounds 4 ?_
    iterate 4
      rw [rounds_succ]
      go_wp2
    all_goals
      go_ret
      refine Ret.i ?_ (by repeat (first | exact Below.refl _ _ | refine Below.alloc ?_ (by simp <;> omega) _))
      rw [HC.out]
      (repeat' split) <;> omega

set_option maxRecDepth 100000 in
set_option maxHeartbeats 4000000 in
theorem class2_any (score quality depth hour : Int) (w : World) (hq1 : 1 ≤ quality) (hq3 : quality ≤ 3) :
    Calls Try.prog 94 #[.agg #[.int .i64 2, .int .i64 score, .int .i64 quality, .int .i64 depth, .int .i64 hour]] w (Ret (.int .i64 (classF 2 score quality)) w) := by
  have HC := Lib.hid (classF_of (kind := 2) (score := score) (quality := quality) (a := 13) (b := 22) (c := 30) rfl rfl rfl)
  have ia : ∀ w, (Instr.index 140 (.agg #[.int .i64 0, .int .i64 0, .int .i64 0, .int .i64 10, .int .i64 20, .int .i64 30, .int .i64 13, .int .i64 22, .int .i64 30, .int .i64 2, .int .i64 4, .int .i64 6]) (.int .i64 2)).run Try.prog w = .ok (.agg #[.int .i64 13, .int .i64 22, .int .i64 30]) w := fun _ => by kernel_rfl
  have i0 : ∀ w, (Instr.index 139 (.agg #[.int .i64 13, .int .i64 22, .int .i64 30]) (.int .i64 0)).run Try.prog w = .ok (.int .i64 13) w := fun _ => by kernel_rfl
  have i1 : ∀ w, (Instr.index 139 (.agg #[.int .i64 13, .int .i64 22, .int .i64 30]) (.int .i64 1)).run Try.prog w = .ok (.int .i64 22) w := fun _ => by kernel_rfl
  have i2 : ∀ w, (Instr.index 139 (.agg #[.int .i64 13, .int .i64 22, .int .i64 30]) (.int .i64 2)).run Try.prog w = .ok (.int .i64 30) w := fun _ => by kernel_rfl
  rcases score_cases 13 22 30 score with h | ⟨h, h'⟩ | ⟨h, h'⟩ | h
  all_goals
    go_enter Try.func94, Try.ntmps94
    go_wp2
    refine wp_loop_rounds 4 ?_
    iterate 4
      rw [rounds_succ]
      go_wp2
    all_goals
      go_ret
      refine Ret.i ?_ (by repeat (first | exact Below.refl _ _ | refine Below.alloc ?_ (by simp <;> omega) _))
      rw [HC.out]
      (repeat' split) <;> omega

set_option maxRecDepth 100000 in
set_option maxHeartbeats 4000000 in
theorem class3_any (score quality depth hour : Int) (w : World) (hq1 : 1 ≤ quality) (hq3 : quality ≤ 3) :
    Calls Try.prog 94 #[.agg #[.int .i64 3, .int .i64 score, .int .i64 quality, .int .i64 depth, .int .i64 hour]] w (Ret (.int .i64 (classF 3 score quality)) w) := by
  have HC := Lib.hid (classF_of (kind := 3) (score := score) (quality := quality) (a := 2) (b := 4) (c := 6) rfl rfl rfl)
  have ia : ∀ w, (Instr.index 140 (.agg #[.int .i64 0, .int .i64 0, .int .i64 0, .int .i64 10, .int .i64 20, .int .i64 30, .int .i64 13, .int .i64 22, .int .i64 30, .int .i64 2, .int .i64 4, .int .i64 6]) (.int .i64 3)).run Try.prog w = .ok (.agg #[.int .i64 2, .int .i64 4, .int .i64 6]) w := fun _ => by kernel_rfl
  have i0 : ∀ w, (Instr.index 139 (.agg #[.int .i64 2, .int .i64 4, .int .i64 6]) (.int .i64 0)).run Try.prog w = .ok (.int .i64 2) w := fun _ => by kernel_rfl
  have i1 : ∀ w, (Instr.index 139 (.agg #[.int .i64 2, .int .i64 4, .int .i64 6]) (.int .i64 1)).run Try.prog w = .ok (.int .i64 4) w := fun _ => by kernel_rfl
  have i2 : ∀ w, (Instr.index 139 (.agg #[.int .i64 2, .int .i64 4, .int .i64 6]) (.int .i64 2)).run Try.prog w = .ok (.int .i64 6) w := fun _ => by kernel_rfl
  rcases score_cases 2 4 6 score with h | ⟨h, h'⟩ | ⟨h, h'⟩ | h
  all_goals
    go_enter Try.func94, Try.ntmps94
    go_wp2
    refine wp_loop_rounds 4 ?_
    iterate 4
      rw [rounds_succ]
      go_wp2
    all_goals
      go_ret
      refine Ret.i ?_ (by repeat (first | exact Below.refl _ _ | refine Below.alloc ?_ (by simp <;> omega) _))
      rw [HC.out]
      (repeat' split) <;> omega

theorem class_any (kind score quality depth hour : Int) (w : World) (hk : kind = 1 ∨ kind = 2 ∨ kind = 3) (hq1 : 1 ≤ quality) (hq3 : quality ≤ 3) :
    Calls Try.prog 94 #[.agg #[.int .i64 kind, .int .i64 score, .int .i64 quality, .int .i64 depth, .int .i64 hour]] w (Ret (.int .i64 (classF kind score quality)) w) := by
  rcases hk with rfl | rfl | rfl
  · exact class1_any _ _ _ _ _ hq1 hq3
  · exact class2_any _ _ _ _ _ hq1 hq3
  · exact class3_any _ _ _ _ _ hq1 hq3

def lims (k : Int) : List Int := [lim1 k, lim2 k, lim3 k]

set_option maxHeartbeats 4000000 in
theorem l08Class_any (kind score quality : Int) (b off : Nat) (w : World) (hb : b < w.heap.size) (x0 : w.cell? ⟨b, off, none⟩ = some (.int .i64 kind)) (x1 : w.cell? ⟨b, off + 1, none⟩ = some (.int .i64 score)) (x2 : w.cell? ⟨b, off + 2, none⟩ = some (.int .i64 quality)) (hk : kind = 1 ∨ kind = 2 ∨ kind = 3) (hq1 : 1 ≤ quality) (hq3 : quality ≤ 3) :
    Calls Try.prog 92 #[.pointer (some ⟨b, off, none⟩)] w (Ret (.int .i64 (classF kind score quality)) w) := by
  have hb1 : b < w.heap.size + 1 := by omega
  have hb2 : b < w.heap.size + 2 := by omega
  rcases hk with rfl | rfl | rfl
  · have HC := Lib.hid (classF_of (kind := 1) (score := score) (quality := quality) (a := 10) (b := 20) (c := 30) rfl rfl rfl)
    rcases score_cases 10 20 30 score with h | ⟨h, h'⟩ | ⟨h, h'⟩ | h
    all_goals
      go_enter Try.func92, Try.ntmps92
      go_wp2
      refine wp_loop_rounds 4 ?_
      iterate 4
        rw [rounds_succ]
        go_wp2
        try go_quiet (fail)
        go_wp2
      all_goals
        go_ret
        refine Ret.i ?_ (by repeat (first | exact Below.refl _ _ | refine below_drewN ?_ _ | refine Below.alloc ?_ (by simp <;> omega) _))
        rw [HC.out]
        (repeat' split) <;> omega
  · have HC := Lib.hid (classF_of (kind := 2) (score := score) (quality := quality) (a := 13) (b := 22) (c := 30) rfl rfl rfl)
    rcases score_cases 13 22 30 score with h | ⟨h, h'⟩ | ⟨h, h'⟩ | h
    all_goals
      go_enter Try.func92, Try.ntmps92
      go_wp2
      refine wp_loop_rounds 4 ?_
      iterate 4
        rw [rounds_succ]
        go_wp2
        try go_quiet (fail)
        go_wp2
      all_goals
        go_ret
        refine Ret.i ?_ (by repeat (first | exact Below.refl _ _ | refine below_drewN ?_ _ | refine Below.alloc ?_ (by simp <;> omega) _))
        rw [HC.out]
        (repeat' split) <;> omega
  · have HC := Lib.hid (classF_of (kind := 3) (score := score) (quality := quality) (a := 2) (b := 4) (c := 6) rfl rfl rfl)
    rcases score_cases 2 4 6 score with h | ⟨h, h'⟩ | ⟨h, h'⟩ | h
    all_goals
      go_enter Try.func92, Try.ntmps92
      go_wp2
      refine wp_loop_rounds 4 ?_
      iterate 4
        rw [rounds_succ]
        go_wp2
        try go_quiet (fail)
        go_wp2
      all_goals
        go_ret
        refine Ret.i ?_ (by repeat (first | exact Below.refl _ _ | refine below_drewN ?_ _ | refine Below.alloc ?_ (by simp <;> omega) _))
        rw [HC.out]
        (repeat' split) <;> omega

end Go.Proofs.Ytokakabckjmfoaa
