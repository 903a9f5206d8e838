/- Slices of int64 in the laws: copied, compared, overwritten with a count, and read back. -/
import Derived.Test.YtllchmacipacnaaGreatDoorBase
import Derived.Test.YtllchmacipacnaaGreatDoorMem
namespace Go.Proofs.YtllchmacipacnaaGreatDoor
open Go.RowKit

def Int64.eqSB (xs ys : List Int) : Bool := decide (xs = ys)
theorem Int64.eqSB_self (xs : List Int) : Int64.eqSB xs xs = true := by simp [Int64.eqSB]
theorem i64cells_len (x : Int) : (i64cells x).length = 1 := rfl
theorem i64cells_one (x : Int) : ∀ u ∈ i64cells x, u.oneCell' = true := by intro u hu; simp [i64cells] at hu; subst hu; rfl
theorem infoI64 : (Tryz.prog.info? 2).map (fun i => (i.zero, i.size, i.bytes)) = some (some (.int .i64 0), 1, 8) := by kernel_rfl
theorem putAll_one (cs : Array Value) (k : Nat) (x : Int) : putAll cs (k * 1) (i64cells x) = cs.setIfInBounds k (.int .i64 x) := by simp [putAll, i64cells]




/-- The numbers k, k + 1, .. -/
def countL (k : Int) : Nat → List Int
  | 0 => []
  | n + 1 => countL k n ++ [k + n]
theorem countL_len (k : Int) : ∀ n, (countL k n).length = n
  | 0 => rfl
  | n + 1 => by simp [countL, countL_len k n]
theorem countL_at (k : Int) : ∀ (n i : Nat), i < n → (countL k n)[i]? = some (k + i)
  | 0, i, h => absurd h (by omega)
  | n + 1, i, h => by
    rw [countL]
    by_cases e : i < n
    · rw [List.getElem?_append_left (by rw [countL_len]; exact e)]; exact countL_at k n i e
    · have : i = n := by omega
      subst this
      rw [List.getElem?_append_right (by rw [countL_len]; omega), countL_len]
      simp




end Go.Proofs.YtllchmacipacnaaGreatDoor
