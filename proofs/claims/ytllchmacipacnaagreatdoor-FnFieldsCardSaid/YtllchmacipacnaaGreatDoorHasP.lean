/- Whether a list has a number, in plain Lean. -/
import Derived.Test.YtllchmacipacnaaGreatDoorBase
namespace Go.Proofs.YtllchmacipacnaaGreatDoor
open Go.RowKit

def hasB (re : List Int) (y : Int) : Bool := re.any fun z => decide (y = z)
theorem hasB_iff {re : List Int} {y : Int} : hasB re y = true ↔ y ∈ re := by
  unfold hasB
  rw [List.any_eq_true]
  constructor
  · rintro ⟨z, hz, h⟩
    rw [decide_eq_true_eq] at h
    rw [h]; exact hz
  · intro h; exact ⟨y, h, by simp⟩
theorem findI_any {α : Type} (p : α → Bool) (xs : List α) : decide (0 ≤ findI p xs) = xs.any p := by
  rw [Bool.eq_iff_iff, decide_eq_true_eq, List.any_eq_true]
  constructor
  · intro h
    rcases findI_cases (p := p) (xs := xs) with ⟨k, x, hx, hp, _, he⟩ | ⟨h', he⟩
    · exact ⟨x, List.mem_of_getElem? hx, hp⟩
    · omega
  · rintro ⟨x, hx, hp⟩
    rcases findI_cases (p := p) (xs := xs) with ⟨k, _, _, _, _, he⟩ | ⟨h', he⟩
    · omega
    · obtain ⟨k, hk⟩ := List.mem_iff_getElem?.1 hx
      rw [h' (k + 1) k x (by omega) hk] at hp; cases hp
theorem any_hit {α : Type} {p : α → Bool} {xs : List α} {k : Nat} {y : α} (hk : xs[k]? = some y) (h : p y = true) : xs.any p = true := List.any_eq_true.2 ⟨y, List.mem_of_getElem? hk, h⟩
theorem any_none {α : Type} {p : α → Bool} {xs : List α} {n : Nat} (hn : xs.length ≤ n) (h : NoneTo p xs n) : xs.any p = false := by
  rw [List.any_eq_false]
  intro y hy
  obtain ⟨k, hk⟩ := List.mem_iff_getElem?.1 hy
  rw [h k y (Nat.lt_of_lt_of_le (List.getElem?_eq_some_iff.1 hk).1 hn) hk]; simp


end Go.Proofs.YtllchmacipacnaaGreatDoor
