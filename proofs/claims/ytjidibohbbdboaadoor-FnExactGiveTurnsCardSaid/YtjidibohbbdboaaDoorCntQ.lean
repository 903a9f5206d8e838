/- What CountTurns and GiveTurns answer, in plain Lean. -/
import Derived.Test.YtjidibohbbdboaaDoorFairQ
import Derived.Test.YtjidibohbbdboaaDoorCountP
namespace Go.Proofs.YtjidibohbbdboaaDoor
open Go.RowKit

theorem cntC_cases (people turns gap : Int) (ab : List Row) : turnsC people turns gap ab = 2 ∨ turnsC people turns gap ab = 7 ∨ turnsC people turns gap ab = 0 := by
  unfold turnsC; split
  · exact .inl rfl
  · split
    · exact .inr (.inl rfl)
    · split
      · exact .inr (.inl rfl)
      · exact .inr (.inr rfl)
/-- In how many ways the turns can be given. -/
def waysI (people turns gap : Int) (ab : List Row) : Nat := waysN people.toNat gap.toNat ab turns.toNat []
def cntI (people turns gap : Int) (ab : List Row) : Int := if turnsC people turns gap ab = 0 then ((min (waysI people turns gap ab) 20000 : Nat) : Int) else 0
def giveC (people turns gap : Int) (ab : List Row) : Int := if turnsC people turns gap ab = 0 then (if waysI people turns gap ab = 0 then 3 else 0) else turnsC people turns gap ab
def giveR (people turns gap : Int) (ab : List Row) : List Int := if giveC people turns gap ab = 0 then (firstW people.toNat gap.toNat ab turns.toNat []).getD [] else []
theorem waysI_nat (p m g : Nat) (ab : List Row) : waysI p m g ab = waysN p g ab m [] := rfl
theorem cntI_zero {p m g : Nat} {ab : List Row} (h : turnsC p m g ab = 0) : cntI p m g ab = ((min (waysN p g ab m []) 20000 : Nat) : Int) := by unfold cntI; rw [if_pos h]; rfl
theorem cntI_no {people turns gap : Int} {ab : List Row} (h : turnsC people turns gap ab ≠ 0) : cntI people turns gap ab = 0 := by unfold cntI; rw [if_neg h]
theorem giveC_no {people turns gap : Int} {ab : List Row} (h : turnsC people turns gap ab ≠ 0) : giveC people turns gap ab = turnsC people turns gap ab ∧ giveR people turns gap ab = [] := by
  have h1 : giveC people turns gap ab = turnsC people turns gap ab := by unfold giveC; rw [if_neg h]
  exact ⟨h1, by unfold giveR; rw [h1, if_neg h]⟩
theorem giveC_none {p m g : Nat} {ab : List Row} (h : turnsC p m g ab = 0) (hw : waysN p g ab m [] = 0) : giveC p m g ab = 3 ∧ giveR p m g ab = [] := by
  have h1 : giveC p m g ab = 3 := by unfold giveC; rw [if_pos h, waysI_nat, if_pos hw]
  exact ⟨h1, by unfold giveR; rw [h1]; rfl⟩
theorem giveC_yes {p m g : Nat} {ab : List Row} (h : turnsC p m g ab = 0) (hw : waysN p g ab m [] ≠ 0) : giveC p m g ab = 0 ∧ giveR p m g ab = (firstW p g ab m []).getD [] := by
  have h1 : giveC p m g ab = 0 := by unfold giveC; rw [if_pos h, waysI_nat, if_neg hw]
  exact ⟨h1, by unfold giveR; rw [h1]; rfl⟩
theorem firstW_len {n g : Nat} {ab : List Row} : ∀ (f : Nat) (given l : List Int), firstW n g ab f given = some l → l.length = given.length + f
  | 0, given, l, h => by injection h with h; rw [h]; rfl
  | f + 1, given, l, h => by
    unfold firstW at h
    obtain ⟨p, _, hp⟩ := List.exists_of_findSome?_eq_some h
    split at hp
    · have := firstW_len f _ l hp
      simp at this; omega
    · cases hp
theorem giveR_len (people turns gap : Int) (ab : List Row) : (giveR people turns gap ab).length ≤ 1048576 ∧ (giveC people turns gap ab = 0 → (giveR people turns gap ab).length ≤ turns.toNat) := by
  have h1 : giveC people turns gap ab = 0 → turnsC people turns gap ab = 0 := fun h => by
    unfold giveC at h
    split at h
    · rename_i h2; exact h2
    · exact h
  have h2 : (giveR people turns gap ab).length ≤ turns.toNat := by
    unfold giveR
    split
    · cases hF : firstW people.toNat gap.toNat ab turns.toNat [] with
      | none => simp
      | some l => have := firstW_len _ _ l hF; simp at this ⊢; omega
    · simp
  by_cases h : giveC people turns gap ab = 0
  · obtain ⟨p, m, g, _, rfl, _, hok⟩ := turnsC_zero (h1 h)
    have h3 := hok.m12
    exact ⟨by simp at h2; omega, fun _ => h2⟩
  · have : giveR people turns gap ab = [] := by unfold giveR; rw [if_neg h]
    rw [this]; exact ⟨by simp, fun _ => by simp⟩
theorem RetLT.no2 {T : TypeId} {L : List Int} {C c : Int} {w w' : World} (h : c = C) (hL : L = []) (hb : Below w.heap.size w w') : RetLT T 1 i64cells L [.int .i64 C] w (.returned (.tuple #[.slice none 0 0, .int .i64 c])) w' :=
  ⟨_, by rw [h], by rw [hL]; exact OwnsL.nil_ _ _ _ _ _, hb⟩
theorem RetLT.yes2 {T : TypeId} {L : List Int} {C c : Int} {w w' : World} {v : Value} {base : Nat} (h : c = C) (ho : OwnsL w' base T 1 i64cells v L) (hbase : w.heap.size ≤ base) (hb : Below w.heap.size w w') : RetLT T 1 i64cells L [.int .i64 C] w (.returned (.tuple #[v, .int .i64 c])) w' :=
  ⟨_, by rw [h], ho.rebase hbase, hb⟩

end Go.Proofs.YtjidibohbbdboaaDoor
