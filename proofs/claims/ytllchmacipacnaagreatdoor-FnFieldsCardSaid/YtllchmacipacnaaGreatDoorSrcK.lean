/- What becomes of the source of draws where the world grows, or another block is written. -/
import Derived.Test.YtllchmacipacnaaGreatDoorBase
import Derived.Test.YtllchmacipacnaaGreatDoorMem
import Derived.Test.YtllchmacipacnaaGreatDoorTInt64
import Derived.Test.YtllchmacipacnaaGreatDoorSrc
namespace Go.Proofs.YtllchmacipacnaaGreatDoor
open Go.RowKit

theorem SrcAt.grow {A : Option Addr} {n c : Nat} {ds : List Int} {bs k : Nat} {w0 w w' : World} (h : SrcAt A n c ds bs k w0 w) (hb : Below w.heap.size w w') : SrcAt A n c ds bs k w0 w' := by
  obtain ⟨s, ho⟩ := h.own
  exact ⟨h.sl, h.by_, h.below.trans (hb.mono h.below.size), h.base, s, ho.below' hb⟩
theorem SrcAt.lt {A : Option Addr} {n c : Nat} {ds : List Int} {bs k : Nat} {w0 w : World} (h : SrcAt A n c ds bs k w0 w) : bs < w.heap.size := by
  obtain ⟨s, ho⟩ := h.own
  exact ho.lt
theorem SrcAt.drew {A : Option Addr} {n c : Nat} {ds : List Int} {bs k : Nat} {w0 w : World} (h : SrcAt A n c ds bs k w0 w) : SrcAt A n c ds bs k w0 w.drew := by
  obtain ⟨s, ho⟩ := h.own
  exact ⟨h.sl, h.by_, Below.drew h.below, h.base, s, ho.drew⟩
theorem Own.span {w w' : World} {g lo hi : Nat} {t : TypeId} {cs : Array Value} (h : Own w g t cs) (hs : Span lo hi w w') (hb : g < lo ∨ hi ≤ g) : Own w' g t cs := (hs.block g h.lt hb).trans h
theorem SrcAt.put {A : Option Addr} {n c : Nat} {ds : List Int} {bs k : Nat} {w0 w : World} (h : SrcAt A n c ds bs k w0 w) {p : Addr} (hp : bs ≠ p.block) (h0 : w0.heap.size ≤ p.block) (u : Value) : SrcAt A n c ds bs k w0 (w.setCell p u) := by
  obtain ⟨s, ho⟩ := h.own
  exact ⟨h.sl, h.by_, h.below.setCell h0 u, h.base, s, ho.far hp u⟩
section
variable {H : Type} {enc : TypeId × Value → H} {P : Program} {w : World} {spare : Nat → Bool} {held : Bool}
theorem trod_u8 {t : TypeId} {n : Nat} {cs : List Value} {y : DataW H × List MemPlace} (ht : P.underlying t = some (.int .u8)) (h : DataW.trod enc P w 0 spare held n t cs = some y) : ∃ x : Int, u8cells x = cs ∧ (0 ≤ x ∧ x ≤ 255) := by
  obtain ⟨x, rfl, _, hw⟩ := DataW.trod_int ht h
  exact ⟨x, rfl, bounds_u8 hw⟩
end

end Go.Proofs.YtllchmacipacnaaGreatDoor
