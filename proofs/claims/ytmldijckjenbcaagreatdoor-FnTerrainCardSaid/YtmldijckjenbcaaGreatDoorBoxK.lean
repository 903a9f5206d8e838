/- Boxes that hold a grid, and numbers of a slice whose address is known. -/
import Derived.Test.YtmldijckjenbcaaGreatDoorBase
import Derived.Test.YtmldijckjenbcaaGreatDoorMem
import Derived.Test.YtmldijckjenbcaaGreatDoorTInt64
import Derived.Test.YtmldijckjenbcaaGreatDoorTGrid
import Derived.Test.YtmldijckjenbcaaGreatDoorGrids
import Derived.Test.YtmldijckjenbcaaGreatDoorWithin
namespace Go.Proofs.YtmldijckjenbcaaGreatDoor
open Go.RowKit

theorem intsD {w : World} {b o n : Nat} {xs : List Int} (h : SliceOf w 1 i64cells (some ⟨b, o, none⟩) n xs) {k : Nat} (hk : k < n) : ∃ x, xs[k]? = some x ∧ w.cell? ⟨b, o + k, none⟩ = some (.int .i64 x) ∧ b < w.heap.size := by
  obtain ⟨b', o', x, hA, hb, hx, hc⟩ := ints_at h hk
  injection hA with hA
  injection hA with e1 e2 _
  subst e1 e2
  exact ⟨x, hx, hc, hb⟩
structure BoxD (X : Nat) (g : GridR) (w : World) : Prop where
  own : Own w X 26 #[.int .i64 g.rows, .int .i64 g.columns, .int .i64 g.size, .slice g.heightsA g.heightsN g.heightsC]
  gi : g.In w
theorem BoxD.grow {X : Nat} {g : GridR} {w w' : World} (h : BoxD X g w) (hb : Below w.heap.size w w') : BoxD X g w' := ⟨h.own.below' hb, h.gi.below hb⟩
theorem BoxD.cells {X : Nat} {g : GridR} {w : World} (h : BoxD X g w) : w.cell? ⟨X, 0, none⟩ = some (.int .i64 g.rows) ∧ w.cell? ⟨X, 1, none⟩ = some (.int .i64 g.columns) ∧ w.cell? ⟨X, 2, none⟩ = some (.int .i64 g.size) ∧ w.cell? ⟨X, 3, none⟩ = some (.slice g.heightsA g.heightsN g.heightsC) ∧ X < w.heap.size :=
  ⟨h.own.cell 0, h.own.cell 1, h.own.cell 2, h.own.cell 3, h.own.lt⟩
theorem BoxD.ht {X : Nat} {g : GridR} {w : World} (h : BoxD X g w) {a o : Nat} (hA : g.heightsA = some ⟨a, o, none⟩) {k : Nat} (hk : k < g.heightsN) : ∃ y, g.heights[k]? = some y ∧ w.cell? ⟨a, o + k, none⟩ = some (.int .i64 y) ∧ a < w.heap.size := by
  have h1 := h.gi.1
  rw [hA] at h1
  exact intsD h1 hk

end Go.Proofs.YtmldijckjenbcaaGreatDoor
