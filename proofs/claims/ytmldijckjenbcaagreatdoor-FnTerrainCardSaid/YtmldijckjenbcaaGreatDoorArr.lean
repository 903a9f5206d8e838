/- A block of int64 known whole as a list: what is read of it, what a store makes of it. -/
import Derived.Test.YtmldijckjenbcaaGreatDoorBase
import Derived.Test.YtmldijckjenbcaaGreatDoorMem
import Derived.Test.YtmldijckjenbcaaGreatDoorTInt64
import Derived.Test.YtmldijckjenbcaaGreatDoorRunP
namespace Go.Proofs.YtmldijckjenbcaaGreatDoor
open Go.RowKit

def IntsAt (w : World) (g : Nat) (xs : List Int) : Prop := Own w g 2 (xs.map (Value.int .i64)).toArray
section
variable {w w' : World} {g : Nat} {xs : List Int}
theorem IntsAt.cell (h : IntsAt w g xs) {i : Nat} {x : Int} (hx : xs[i]? = some x) : w.cell? ⟨g, i, none⟩ = some (.int .i64 x) := by
  refine (Own.cell h i).trans ?_
  simp [hx]
theorem IntsAt.lt (h : IntsAt w g xs) : g < w.heap.size := Own.lt h
theorem IntsAt.frozen (h : IntsAt w g xs) (i : Nat) : w.frozen? ⟨g, i, none⟩ = false := Own.frozen h i
theorem IntsAt.below' (h : IntsAt w g xs) (hb : Below w.heap.size w w') : IntsAt w' g xs := Own.below' h hb
theorem IntsAt.set (h : IntsAt w g xs) (i : Nat) (x : Int) : IntsAt (w.setCell ⟨g, i, none⟩ (.int .i64 x)) g (xs.set i x) := by
  have := Own.put h i (.int .i64 x)
  unfold IntsAt
  rw [List.map_set]
  simpa using this
theorem IntsAt.other (h : IntsAt w g xs) {b : Nat} (hb : g ≠ b) (o : Nat) (u : Value) : IntsAt (w.setCell ⟨b, o, none⟩ u) g xs := (Below.heap_setCell w ⟨b, o, none⟩ u g hb).trans h
theorem addAt_set {l : List Int} {i : Nat} {d x : Int} (h : l[i]? = some x) : addAt l i d = l.set i (x + d) := by
  unfold addAt
  apply List.ext_getElem?
  intro k
  rw [List.getElem?_modify, List.getElem?_set]
  by_cases e : i = k
  · subst e
    rw [h]
    simp [(List.getElem?_eq_some_iff.1 h).1]
  · simp [e]
end
theorem IntsAt.owns {w : World} {g base n : Nat} {xs : List Int} (h : IntsAt w g xs) (hl : xs.length = n) (hn : n ≤ 1048576) (hb : base ≤ g) : OwnsL w base 2 1 i64cells (.slice (some ⟨g, 0, none⟩) n n) xs := by
  refine Own.ownsL h i64cells_len hb hl (by simp [hl]) hn ?_
  intro i y j v hi hy hv
  obtain rfl : j = 0 := by
    have := (List.getElem?_eq_some_iff.1 hv).1; rw [i64cells_len] at this; omega
  simp [i64cells] at hv
  subst hv
  simp [hy]

end Go.Proofs.YtmldijckjenbcaaGreatDoor
