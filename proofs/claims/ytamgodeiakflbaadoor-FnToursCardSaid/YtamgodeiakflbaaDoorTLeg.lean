/- The struct type Leg of the laws: how it lies in memory, how an argument of it is opened, and what the laws' own helpers of it return. -/
import Derived.Test.YtamgodeiakflbaaDoorProg
import Derived.Test.YtamgodeiakflbaaDoorKit
import Derived.Test.YtamgodeiakflbaaDoorMem
namespace Go.Proofs.YtamgodeiakflbaaDoor
open Go.RowKit

structure Leg where
  from_ : Int
  to_ : Int
  minutes : Int
  exposure : Int

def Leg.cells (x : Leg) : List Value := [.int .i64 x.from_, .int .i64 x.to_, .int .i64 x.minutes, .int .i64 x.exposure]
theorem Leg.cells_len (x : Leg) : x.cells.length = 4 := rfl
theorem Leg.cells_one (x : Leg) : ∀ u ∈ x.cells, u.oneCell' = true := by intro u hu; simp [Leg.cells] at hu; rcases hu with rfl | rfl | rfl | rfl <;> rfl
instance : Inhabited Leg := ⟨⟨0, 0, 0, 0⟩⟩
def Leg.Good (x : Leg) : Prop := I64 x.from_ ∧ I64 x.to_ ∧ I64 x.minutes ∧ I64 x.exposure
def Leg.eqB (x y : Leg) : Bool := decide (x.from_ = y.from_) && decide (x.to_ = y.to_) && decide (x.minutes = y.minutes) && decide (x.exposure = y.exposure)
theorem Leg.eqB_self (x : Leg) : x.eqB x = true := by simp [Leg.eqB]
theorem Leg.eqB_iff (x y : Leg) : x.eqB y = true ↔ x = y := by cases x; cases y; simp [Leg.eqB, and_assoc]
theorem Leg.eqB_no (x y : Leg) (h : x.eqB y = false) : x ≠ y := fun e => by rw [(Leg.eqB_iff x y).2 e] at h; cases h

section
variable {H : Type} {enc : TypeId × Value → H} {w : World} {spare : Nat → Bool} {held : Bool}
end

theorem Leg.at_ {w : World} {A : Option Addr} {n : Nat} {xs : List Leg} (h : SliceOf w 4 Leg.cells A n xs) {k : Nat} (hk : k < n) :
    ∃ b off x, A = some ⟨b, off, none⟩ ∧ b < w.heap.size ∧ xs[k]? = some x ∧ w.cell? ⟨b, off + k * 4, none⟩ = some (.int .i64 x.from_) ∧ w.cell? ⟨b, off + k * 4 + 1, none⟩ = some (.int .i64 x.to_) ∧ w.cell? ⟨b, off + k * 4 + 2, none⟩ = some (.int .i64 x.minutes) ∧ w.cell? ⟨b, off + k * 4 + 3, none⟩ = some (.int .i64 x.exposure) := by
  obtain ⟨b, off, x, hA, hb, hx, hc⟩ := h.at_ hk
  exact ⟨b, off, x, hA, hb, hx, hc 0 _ rfl, hc 1 _ rfl, hc 2 _ rfl, hc 3 _ rfl⟩








end Go.Proofs.YtamgodeiakflbaaDoor
