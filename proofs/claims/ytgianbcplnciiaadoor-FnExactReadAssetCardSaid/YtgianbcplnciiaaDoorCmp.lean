/- The library's cmp.Compare and cmp.Or at numbers: what they return. -/
import Derived.Test.YtgianbcplnciiaaDoorBase
namespace Go.Proofs.YtgianbcplnciiaaDoor
open Go.RowKit

def cmpI (a b : Int) : Int := if a < b then -1 else if b < a then 1 else 0
def orF : List Int → Int
  | [] => 0
  | x :: xs => if x = 0 then orF xs else x
theorem orF_hit : ∀ (xs : List Int) (k : Nat) (x : Int), (∀ (j : Nat) (y : Int), j < k → xs[j]? = some y → y = 0) → xs[k]? = some x → x ≠ 0 → orF xs = x
  | [], k, x, _, h, _ => by simp at h
  | y :: xs, 0, x, _, h, hx => by
    simp only [List.getElem?_cons_zero, Option.some.injEq] at h
    subst h; rw [orF, if_neg hx]
  | y :: xs, k + 1, x, hall, h, hx => by
    rw [orF, if_pos (hall 0 y (by omega) rfl)]
    exact orF_hit xs k x (fun j z hj hz => hall (j + 1) z (by omega) (by simpa using hz)) (by simpa using h) hx
theorem orF_none : ∀ (xs : List Int), (∀ (j : Nat) (y : Int), j < xs.length → xs[j]? = some y → y = 0) → orF xs = 0
  | [], _ => rfl
  | y :: xs, hall => by
    rw [orF, if_pos (hall 0 y (by simp) rfl)]
    exact orF_none xs (fun j z hj hz => hall (j + 1) z (by simp; omega) (by simpa using hz))


end Go.Proofs.YtgianbcplnciiaaDoor
