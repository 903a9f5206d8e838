/- Turns given to people, in plain Lean: when a question is one, and who may be given the next turn. -/
import Derived.Test.YtjidibohbbdboaaDoorTRow
import Derived.Test.YtjidibohbbdboaaDoorHasP
import Derived.Test.YtjidibohbbdboaaDoorCells
namespace Go.Proofs.YtjidibohbbdboaaDoor
open Go.RowKit

def absOk (turns : Int) (x : Row) : Bool := cellsB 0 (turns - 1) x.list
/-- The code of a question for turns. -/
def turnsC (people turns gap : Int) (ab : List Row) : Int :=
  if (inB people 1 8 && (inB turns 0 12 && inB gap 1 12)) = false then 2 else if (ab.length : Int) ≠ people then 7 else if ab.all (absOk turns) = false then 7 else 0
theorem turnsC_range {people turns gap : Int} {ab : List Row} (h : (inB people 1 8 && (inB turns 0 12 && inB gap 1 12)) = false) : turnsC people turns gap ab = 2 := by
  unfold turnsC; rw [if_pos h]
theorem turnsC_len {people turns gap : Int} {ab : List Row} (h : (inB people 1 8 && (inB turns 0 12 && inB gap 1 12)) = true) (hl : (ab.length : Int) ≠ people) : turnsC people turns gap ab = 7 := by
  unfold turnsC; rw [if_neg (by rw [h]; simp), if_pos hl]
theorem turnsC_row {people turns gap : Int} {ab : List Row} (h : (inB people 1 8 && (inB turns 0 12 && inB gap 1 12)) = true) (hl : (ab.length : Int) = people) : turnsC people turns gap ab = if ab.all (absOk turns) = false then 7 else 0 := by
  unfold turnsC; rw [if_neg (by rw [h]; simp), if_neg (by simpa using hl)]
/-- A question that may be answered: with letters for its numbers. -/
structure TurnsOk (n m g : Nat) (ab : List Row) : Prop where
  n1 : 1 ≤ n
  n8 : n ≤ 8
  m12 : m ≤ 12
  g1 : 1 ≤ g
  g12 : g ≤ 12
  len : ab.length = n
  row : ∀ x ∈ ab, absOk (m : Int) x = true
theorem turnsC_zero {people turns gap : Int} {ab : List Row} (h : turnsC people turns gap ab = 0) : ∃ n m g : Nat, people = n ∧ turns = m ∧ gap = g ∧ TurnsOk n m g ab := by
  unfold turnsC at h
  split at h
  · cases h
  · rename_i h1
    split at h
    · cases h
    · rename_i h2
      split at h
      · cases h
      · rename_i h3
        simp only [Bool.not_eq_false, Bool.and_eq_true, inB_iff] at h1
        simp only [Decidable.not_not] at h2
        simp only [Bool.not_eq_false, List.all_eq_true] at h3
        obtain ⟨⟨a1, a2⟩, ⟨b1, b2⟩, c1, c2⟩ := h1
        obtain ⟨n, rfl⟩ := Int.eq_ofNat_of_zero_le (show 0 ≤ people by omega)
        obtain ⟨m, rfl⟩ := Int.eq_ofNat_of_zero_le (show 0 ≤ turns by omega)
        obtain ⟨g, rfl⟩ := Int.eq_ofNat_of_zero_le (show 0 ≤ gap by omega)
        exact ⟨n, m, g, rfl, rfl, rfl, by omega, by omega, by omega, by omega, by omega, by omega, h3⟩
/-- Where the turns begin that are too near to the next one. -/
def recLo (g : Nat) (len : Nat) : Nat := len + 1 - g
def absAt (ab : List Row) (p : Nat) : List Int := (ab.getD p ⟨[]⟩).list
/-- May the next turn be given to a person? -/
def mayB (g : Nat) (ab : List Row) (given : List Int) (p : Nat) : Bool := !hasB (given.drop (recLo g given.length)) (p : Int) && !hasB (absAt ab p) (given.length : Int)
/-- As the reference asks: whether he is away first, then from the first near turn on. -/
theorem mayB_away {g : Nat} {ab : List Row} {given : List Int} {p : Nat} (h : hasB (absAt ab p) (given.length : Int) = true) : mayB g ab given p = false := by
  unfold mayB; rw [h]; simp
theorem mayB_here {g : Nat} {ab : List Row} {given : List Int} {p : Nat} (h : hasB (absAt ab p) (given.length : Int) = false) : mayB g ab given p = !hasB (given.drop (recLo g given.length)) (p : Int) := by
  unfold mayB; rw [h]; simp
theorem hasB_drop_hit {xs : List Int} {lo k : Nat} {y : Int} (hk : xs[k]? = some y) (hl : lo ≤ k) : hasB (xs.drop lo) y = true := by
  rw [hasB_iff]
  have : (xs.drop lo)[k - lo]? = some y := by rw [List.getElem?_drop, show lo + (k - lo) = k by omega]; exact hk
  exact List.mem_of_getElem? this
theorem hasB_drop_none {xs : List Int} {lo : Nat} {y : Int} (h : ∀ k x, lo ≤ k → xs[k]? = some x → x ≠ y) : hasB (xs.drop lo) y = false := by
  rw [Bool.eq_false_iff]
  intro hh
  rw [hasB_iff] at hh
  obtain ⟨j, hj⟩ := List.mem_iff_getElem?.1 hh
  rw [List.getElem?_drop] at hj
  exact h (lo + j) y (Nat.le_add_right _ _) hj rfl

end Go.Proofs.YtjidibohbbdboaaDoor
