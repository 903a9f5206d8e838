/- When legs are valid for a number of points: the program's and the reference's functions return one Boolean. -/
import Derived.Test.YtgianbcplnciiaaDoorBase
import Derived.Test.YtgianbcplnciiaaDoorCmp
import Derived.Test.YtgianbcplnciiaaDoorTLeg
namespace Go.Proofs.YtgianbcplnciiaaDoor
open Go.RowKit

def Leg.oneB (p : Int) (x : Leg) : Bool := inB x.to_ 0 (p - 1) && inB x.from_ 0 (x.to_ - 1) && inB x.minutes 1 600 && inB x.exposure 0 1000
def Leg.oneW (p : Int) (x : Leg) : Bool := inB x.from_ 0 (wrap64 (p - 1)) && inB x.to_ (wrap64 (x.from_ + 1)) (wrap64 (p - 1)) && inB x.minutes 1 600 && inB x.exposure 0 1000
def Leg.rel (p x : Leg) : Bool := decide (p.from_ < x.from_) || (p.from_ == x.from_) && decide (p.to_ < x.to_)
def legsOk (p : Int) (xs : List Leg) : Bool := inB p 1 12 && validL 24 (Leg.oneB p) Leg.rel xs

theorem Leg.oneW_eq {p : Int} (hp : inB p 1 12 = true) : Leg.oneW p = Leg.oneB p := by
  funext x
  have ⟨h1, h2⟩ := inB_iff.1 hp
  have e1 : wrap64 (p - 1) = p - 1 := IntWalk.wrap64_in _ ⟨by omega, by omega⟩
  unfold Leg.oneW Leg.oneB
  rw [e1]
  by_cases hf : 0 ≤ x.from_ ∧ x.from_ ≤ p - 1
  · have e2 : wrap64 (x.from_ + 1) = x.from_ + 1 := IntWalk.wrap64_in _ ⟨by omega, by omega⟩
    rw [e2]
    congr 2
    rw [Bool.eq_iff_iff]
    simp only [inB, Bool.and_eq_true, decide_eq_true_eq]
    omega
  · have e3 : inB x.from_ 0 (p - 1) = false := by rw [inB_no]; exact hf
    have e4 : (inB x.to_ 0 (p - 1) && inB x.from_ 0 (x.to_ - 1)) = false := by
      rw [← Bool.not_eq_true]
      simp only [inB, Bool.and_eq_true, decide_eq_true_eq]
      omega
    rw [e3, e4, Bool.false_and]
theorem legsOk_eq (p : Int) (xs : List Leg) : (inB p 1 12 && validL 24 (Leg.oneW p) Leg.rel xs) = legsOk p xs := by
  unfold legsOk
  cases h : inB p 1 12 with
  | false => rw [Bool.false_and, Bool.false_and]
  | true => rw [Leg.oneW_eq h]

set_option maxHeartbeats 2000000 in
theorem l23One_any (x : Leg) (b off : Nat) (p : Int) (w : World) (hb : b < w.heap.size) (x0 : w.cell? ⟨b, off, none⟩ = some (.int .i64 x.from_)) (x1 : w.cell? ⟨b, off + 1, none⟩ = some (.int .i64 x.to_)) (x2 : w.cell? ⟨b, off + 2, none⟩ = some (.int .i64 x.minutes)) (x3 : w.cell? ⟨b, off + 3, none⟩ = some (.int .i64 x.exposure)) :
    Calls Tryd.prog 22 #[.pointer (some ⟨b, off, none⟩), .int .i64 p] w (Ret (.bool (x.oneW p)) w) := by
  have hsub := fun (g : Sub w) b o (h : b < w.heap.size) => g.cell b o h
  have HW : Hid (x.oneW p = (inB x.from_ 0 (wrap64 (p - 1)) && inB x.to_ (wrap64 (x.from_ + 1)) (wrap64 (p - 1)) && inB x.minutes 1 600 && inB x.exposure 0 1000)) := rfl
  rcases cases4 (inB x.from_ 0 (wrap64 (p - 1))) (inB x.to_ (wrap64 (x.from_ + 1)) (wrap64 (p - 1))) (inB x.minutes 1 600) (inB x.exposure 0 1000) with h0 | ⟨h0, h1⟩ | ⟨h0, h1, h2⟩ | ⟨h0, h1, h2, h3⟩ | ⟨h0, h1, h2, h3⟩
  all_goals
    go_enter Tryd.func22, Tryd.ntmps22
    go_wp2_with fail
    refine wp_region_sub (by kernel_rfl) (by kernel_rfl) ?_
    repeat (go_big_quiet_step (first | exact Calls.sub_of_same_eq (l00In_any _ _ _ _) (congrArg Value.bool h0) | exact Calls.sub_of_same_eq (l00In_any _ _ _ _) (congrArg Value.bool h1) | exact Calls.sub_of_same_eq (l00In_any _ _ _ _) (congrArg Value.bool h2) | exact Calls.sub_of_same_eq (l00In_any _ _ _ _) (congrArg Value.bool h3)))
    refine wpQuiet_nil ?_
    intro wg hg
    go_wp2
    go_ret
    exact Ret.b (by rw [HW.out]; simp [*]) hg

theorem Leg.rel_cases (p x : Leg) : (p.rel x = false ∧ decide (x.from_ < p.from_) = true ∧ (p.from_ == x.from_) = false) ∨ (p.rel x = true ∧ decide (x.from_ < p.from_) = false ∧ (p.from_ == x.from_) = false) ∨ (p.rel x = false ∧ decide (x.from_ < p.from_) = false ∧ (p.from_ == x.from_) = true ∧ decide (x.to_ ≤ p.to_) = true) ∨ (p.rel x = true ∧ decide (x.from_ < p.from_) = false ∧ (p.from_ == x.from_) = true ∧ decide (x.to_ ≤ p.to_) = false) := by
  simp only [Leg.rel, Bool.or_eq_false_iff, Bool.or_eq_true, Bool.and_eq_false_iff, Bool.and_eq_true, decide_eq_false_iff_not, decide_eq_true_eq, beq_eq_false_iff_ne, beq_iff_eq, ne_eq]
  omega


set_option maxHeartbeats 1000000 in
theorem fits_any (x : Leg) (p : Int) (w : World) (hp1 : 1 ≤ p) (hp2 : p ≤ 12) :
    Calls Tryd.prog 24 #[.agg #[.int .i64 x.from_, .int .i64 x.to_, .int .i64 x.minutes, .int .i64 x.exposure], .int .i64 p] w (Ret (.bool (x.oneB p)) w) := by
  rcases cases4 (inB x.to_ 0 (p - 1)) (inB x.from_ 0 (x.to_ - 1)) (inB x.minutes 1 600) (inB x.exposure 0 1000) with h0 | ⟨h0, h1⟩ | ⟨h0, h1, h2⟩ | ⟨h0, h1, h2, h3⟩ | ⟨h0, h1, h2, h3⟩
  · go_enter Tryd.func24, Tryd.ntmps24
    go_wp2_with (go_at_call 45; refine (within_any _ _ _ _).mono ?_; rintro e w' ⟨rfl, rfl⟩)
    go_ret
    exact Ret.b (by simp [Leg.oneB, *]) ((Below.refl _ _).alloc (Nat.le_refl _) _)
  all_goals
    have ⟨_, _⟩ := inB_iff.1 h0
    go_enter Tryd.func24, Tryd.ntmps24
    go_wp2_with (go_at_call 45; refine (within_any _ _ _ _).mono ?_; rintro e w' ⟨rfl, rfl⟩)
    go_ret
    exact Ret.b (by simp [Leg.oneB, *]) ((Below.refl _ _).alloc (Nat.le_refl _) _)

theorem legs_cmp (p x : Leg) : (0 ≤ orF [cmpI p.from_ x.from_, cmpI p.to_ x.to_]) ↔ p.rel x = false := by
  simp only [Leg.rel, Bool.or_eq_false_iff, Bool.and_eq_false_iff, decide_eq_false_iff_not, beq_eq_false_iff_ne, ne_eq, orF, cmpI]
  (repeat' split) <;> omega


end Go.Proofs.YtgianbcplnciiaaDoor
