/- The struct type Layer of the program: how a slice of layers lies in memory. -/
import Derived.Test.YtmfghgoboibjdaaKit
import Derived.Test.YtmfghgoboibjdaaMem
namespace Go.Proofs.Ytmfghgoboibjdaa
open Go.RowKit

structure Layer where
  form : Int
  ice : Int
  water : Int
  density : Int
  degrees : Int
  hardness : Int
  age : Int
def Layer.cells (x : Layer) : List Value := [.int .i64 x.form, .int .i64 x.ice, .int .i64 x.water, .int .i64 x.density, .int .i64 x.degrees, .int .i64 x.hardness, .int .i64 x.age]
theorem Layer.cells_len (x : Layer) : x.cells.length = 7 := rfl
theorem Layer.cells_one (x : Layer) : ∀ u ∈ x.cells, u.oneCell' = true := by intro u hu; simp [Layer.cells] at hu; rcases hu with rfl | rfl | rfl | rfl | rfl | rfl | rfl <;> rfl
instance : Inhabited Layer := ⟨⟨0, 0, 0, 0, 0, 0, 0⟩⟩
theorem Layer.at_ {w : World} {A : Option Addr} {n : Nat} {xs : List Layer} (h : SliceOf w 7 Layer.cells A n xs) {k : Nat} (hk : k < n) :
    ∃ b off x, A = some ⟨b, off, none⟩ ∧ b < w.heap.size ∧ xs[k]? = some x ∧ w.cell? ⟨b, off + k * 7, none⟩ = some (.int .i64 x.form) ∧ w.cell? ⟨b, off + k * 7 + 1, none⟩ = some (.int .i64 x.ice) ∧ w.cell? ⟨b, off + k * 7 + 2, none⟩ = some (.int .i64 x.water) ∧ w.cell? ⟨b, off + k * 7 + 3, none⟩ = some (.int .i64 x.density) ∧ w.cell? ⟨b, off + k * 7 + 4, none⟩ = some (.int .i64 x.degrees) ∧ w.cell? ⟨b, off + k * 7 + 5, none⟩ = some (.int .i64 x.hardness) ∧ w.cell? ⟨b, off + k * 7 + 6, none⟩ = some (.int .i64 x.age) := by
  obtain ⟨b, off, x, hA, hb, hx, hc⟩ := h.at_ hk
  exact ⟨b, off, x, hA, hb, hx, hc 0 _ rfl, hc 1 _ rfl, hc 2 _ rfl, hc 3 _ rfl, hc 4 _ rfl, hc 5 _ rfl, hc 6 _ rfl⟩
/-- The rest of a slice of layers, from a place on. -/
theorem SliceOf.drop {w : World} {n b o : Nat} {xs : List Layer} (h : SliceOf w 7 Layer.cells (some ⟨b, o, none⟩) n xs) {k : Nat} (hk : k ≤ n) : SliceOf w 7 Layer.cells (some ⟨b, o + k * 7, none⟩) (n - k) (xs.drop k) :=
  ⟨by rw [List.length_drop, h.len], by have := h.le; omega, fun hn => by
    obtain ⟨b', o', hA, hlt, hc⟩ := h.base_ (by omega)
    injection hA with hA
    injection hA with h1 h2
    subst h1; subst h2
    refine ⟨_, _, rfl, hlt, fun i x j v hx hv => ?_⟩
    rw [List.getElem?_drop] at hx
    have := hc (k + i) x j v hx hv
    rwa [Nat.add_mul, ← Nat.add_assoc] at this⟩

end Go.Proofs.Ytmfghgoboibjdaa
