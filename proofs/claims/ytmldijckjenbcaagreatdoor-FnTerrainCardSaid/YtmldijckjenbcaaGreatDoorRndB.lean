/- A bound on the rounded quotient. -/
import Derived.Test.YtmldijckjenbcaaGreatDoorBase
namespace Go.Proofs.YtmldijckjenbcaaGreatDoor
open Go.RowKit

theorem rndDiv_le {a b : Int} (ha : 0 ≤ a) (hb : 1 ≤ b) : 0 ≤ rndDiv a b ∧ rndDiv a b ≤ a + 1 := by
  unfold rndDiv
  rw [if_neg (by omega)]
  unfold rnd
  rw [if_pos ha]
  have h1 : 0 ≤ (2 * a + b) / (2 * b) := Int.ediv_nonneg (by omega) (by omega)
  have h2 : (2 * a + b) / (2 * b) ≤ a + 1 := by
    have : (2 * a + b) / (2 * b) < a + 2 := Int.ediv_lt_of_lt_mul (by omega) (by
      have h3 : a * 1 ≤ a * (2 * b) := Int.mul_le_mul_of_nonneg_left (by omega) ha
      have h4 : (a + 2) * (2 * b) = a * (2 * b) + 2 * (2 * b) := Int.add_mul _ _ _
      have h5 : a * 2 ≤ a * (2 * b) := Int.mul_le_mul_of_nonneg_left (by omega) ha
      omega)
    omega
  exact ⟨h1, h2⟩

end Go.Proofs.YtmldijckjenbcaaGreatDoor
