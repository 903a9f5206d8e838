/- Lists of cells: rising lists within bounds, on both sides (the part of Grids that knows no grid). -/
import Derived.Test.YtllchmacipacnaaGreatDoorBase
import Derived.Test.YtllchmacipacnaaGreatDoorMem
import Derived.Test.YtllchmacipacnaaGreatDoorTInt64
import Derived.Test.YtllchmacipacnaaGreatDoorWithin
namespace Go.Proofs.YtllchmacipacnaaGreatDoor
open Go.RowKit

theorem all_none {α : Type} {p : α → Bool} {xs : List α} {n : Nat} (hn : xs.length ≤ n) (h : NoneTo (fun y => !p y) xs n) : xs.all p = true := by
  rw [List.all_eq_true]
  intro y hy
  obtain ⟨k, hk⟩ := List.mem_iff_getElem?.1 hy
  have := h k y (Nat.lt_of_lt_of_le (List.getElem?_eq_some_iff.1 hk).1 hn) hk
  simpa using this
theorem all_hit {α : Type} {p : α → Bool} {xs : List α} {k : Nat} {y : α} (hk : xs[k]? = some y) (h : p y = false) : xs.all p = false := by
  rw [List.all_eq_false]; exact ⟨y, List.mem_of_getElem? hk, by simp [h]⟩
theorem goodFrom_one {α : Type} {one : α → Bool} {rel : α → α → Bool} {xs : List α} {k : Nat} {x : α} (hx : xs[k]? = some x) (h : one x = false) : goodFrom one rel none xs = false := by
  have := validL_one (M := xs.length) (rel := rel) hx h; simpa [validL] using this
theorem goodFrom_rel {α : Type} {one : α → Bool} {rel : α → α → Bool} {xs : List α} {k : Nat} {p x : α} (hk : 0 < k) (hp : xs[k - 1]? = some p) (hx : xs[k]? = some x) (h : rel p x = false) : goodFrom one rel none xs = false := by
  have := validL_rel (M := xs.length) (one := one) hk hp hx h; simpa [validL] using this
theorem goodFrom_all {α : Type} {one : α → Bool} {rel : α → α → Bool} {xs : List α} {n : Nat} (hn : xs.length ≤ n) (h : GoodTo one rel xs n) : goodFrom one rel none xs = true := by
  have := validL_all (M := xs.length) hn h; simpa [validL] using this
def risesRel (p x : Int) : Bool := decide (p < x)
/-- Strictly rising. -/
def risesB (xs : List Int) : Bool := goodFrom (fun _ => true) risesRel none xs
/-- Strictly rising, and all within two bounds. -/
def cellsB (lo hi : Int) (xs : List Int) : Bool := goodFrom (fun y => inB y lo hi) risesRel none xs
theorem cellsB_eq (lo hi : Int) (xs : List Int) : cellsB lo hi xs = (risesB xs && xs.all fun y => inB y lo hi) := by
  rw [Bool.eq_iff_iff, Bool.and_eq_true, List.all_eq_true]
  unfold cellsB risesB
  rw [goodFrom_iff, goodFrom_iff]
  constructor
  · intro h
    refine ⟨fun n k x hk hx => ⟨rfl, (h n k x hk hx).2⟩, fun y hy => ?_⟩
    obtain ⟨k, hk⟩ := List.mem_iff_getElem?.1 hy
    exact (h (k + 1) k y (by omega) hk).1
  · rintro ⟨h1, h2⟩ n k x hk hx
    exact ⟨h2 x (List.mem_of_getElem? hx), (h1 n k x hk hx).2⟩


end Go.Proofs.YtllchmacipacnaaGreatDoor
