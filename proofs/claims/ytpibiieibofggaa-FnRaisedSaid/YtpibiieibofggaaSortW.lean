/- The sort at a slice of one's own. -/
import Derived.Test.YtpibiieibofggaaBase
import Derived.Test.YtpibiieibofggaaMem
import Derived.Test.YtpibiieibofggaaTInt64
import Derived.Test.YtpibiieibofggaaOwn2
import Derived.Test.YtpibiieibofggaaSortL
import Derived.Sort.OwnSortedInts
import Derived.Shelf.SortG.SortNone
namespace Go.Proofs.Ytpibiieibofggaa
open Go.RowKit

open Go.Sort
theorem rowI_of {w : World} {base g n cap : Nat} {T : TypeId} {xs : List Int} (h : OwnsL w base T 1 i64cells (.slice (some ⟨g, 0, none⟩) n cap) xs) :
    ∃ cur, base ≤ g ∧ w.heap[g]? = some (.cells cur T (0, 0)) ∧ xs.length ≤ cap ∧ cap ≤ maxLen ∧ cur.size = cap * 1 ∧ cur.toList.take xs.length = xs.map (Value.int .i64) ∧ xs.length = n := by
  have hl := (h.sl i64cells_len).len
  rcases h.2 with ⟨h2, _⟩ | ⟨g', cap', cur, hv, hg, hh, hc, hm, hsz, htk⟩
  · cases h2
  · injection hv with e1 e2 e3
    injection e1 with e1
    injection e1 with e1 _ _
    subst e1 e3
    rw [flat_i64, Nat.mul_one] at htk
    exact ⟨cur, hg, hh, hc, hm, hsz, htk, hl⟩
theorem Below.grownI {w w' : World} {base g : Nat} (h : w.grownBy w' (some g)) (hw : base ≤ w.heap.size) (hb : base ≤ g) : Below base w w' :=
  (Below.refl base w).grown h hw (fun k hk => by injection hk with hk; omega)
theorem sort_own {w : World} {base g n cap : Nat} {xs : List Int} (h : OwnsL w base 2 1 i64cells (.slice (some ⟨g, 0, none⟩) n cap) xs) (hn : n ≤ 1048576) :
    Calls Try.prog 59 #[.slice (some ⟨g, 0, none⟩) n cap] w (fun e w' => e = .returned (.tuple #[]) ∧ OwnsL w' base 2 1 i64cells (.slice (some ⟨g, 0, none⟩) n cap) (xs.mergeSort fun x y => decide (x ≤ y)) ∧ w.grownBy w' (some g)) := by
  obtain ⟨cur, hg, hh, hc, hm, hsz, htk, rfl⟩ := rowI_of h
  refine (AnyG.slices_Sort_int Try.sortI g 0 cap xs w (holds_of_blockI hh htk) (Own.lt hh) (by omega)).mono ?_
  rintro e w' ⟨rfl, k, os, rfl⟩
  have hs := ownsRow_sortedI (n := k) (os := os) (ss := xs) (ts := xs.mergeSort fun x y => decide (x ≤ y)) (by simp) hg hh hc hm hsz
  refine ⟨rfl, ?_, grownBy_sortedI _⟩
  unfold OwnsL
  rw [flat_i64, List.length_mergeSort]
  exact hs
theorem sort_nil (p : Option Addr) (c : Nat) (w : World) :
    Calls Try.prog 59 #[.slice p 0 c] w (RetS (.tuple #[]) w) :=
  (AnyG.slices_Sort_int_none Try.sortI p c w).mono (fun _ _ h => ⟨h.1, h.2.symm⟩)

end Go.Proofs.Ytpibiieibofggaa
