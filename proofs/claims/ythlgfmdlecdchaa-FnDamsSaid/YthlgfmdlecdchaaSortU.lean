/- The sort, and dropping doubles, at a slice of one's own. -/
import Derived.Test.YthlgfmdlecdchaaBase
import Derived.Test.YthlgfmdlecdchaaMem
import Derived.Test.YthlgfmdlecdchaaTInt64
import Derived.Test.YthlgfmdlecdchaaArr2
import Derived.Test.YthlgfmdlecdchaaSortL
import Derived.Sort.OwnSortedInts
namespace Go.Proofs.Ythlgfmdlecdchaa
open Go.RowKit

open Go.Sort
theorem rowI_of {w : World} {base g n cap : Nat} {T : TypeId} {xs : List Int} (h : OwnsL w base T 1 i64cells (.slice (some ⟨g, 0, none⟩) n cap) xs) :
    ∃ cur, base ≤ g ∧ w.heap[g]? = some (.cells cur T (0, 0)) ∧ xs.length ≤ cap ∧ cap ≤ maxLen ∧ cur.size = cap * 1 ∧ cur.toList.take xs.length = xs.map (Value.int .i64) ∧ xs.length = n := by
  have hl := (h.sl i64cells_len).len
  rcases h.2 with ⟨h2, _⟩ | ⟨g', cap', cur, hv, hg, hh, hc, hm, hsz, htk⟩
  · cases h2
  · injection hv with e1 e2 e3
    injection e1 with e1
    injection e1 with e1 _ _
    subst e1 e3
    rw [flat_i64, Nat.mul_one] at htk
    exact ⟨cur, hg, hh, hc, hm, hsz, htk, hl⟩
theorem Below.grownI {w w' : World} {base g : Nat} (h : w.grownBy w' (some g)) (hw : base ≤ w.heap.size) (hb : base ≤ g) : Below base w w' :=
  (Below.refl base w).grown h hw (fun k hk => by injection hk with hk; omega)
theorem compact_le (zs : List Int) : (Lib.compact zs).length ≤ zs.length := by
  unfold Lib.compact Lib.compactUpTo
  rw [List.length_map]
  exact Nat.le_trans (List.length_filter_le _ _) (by simp)
theorem sort_own {w : World} {base g n cap : Nat} {xs : List Int} (h : OwnsL w base 2 1 i64cells (.slice (some ⟨g, 0, none⟩) n cap) xs) (hn : n ≤ 1048576) :
    Calls Try.prog 43 #[.slice (some ⟨g, 0, none⟩) n cap] w (fun e w' => e = .returned (.tuple #[]) ∧ OwnsL w' base 2 1 i64cells (.slice (some ⟨g, 0, none⟩) n cap) (xs.mergeSort fun x y => decide (x ≤ y)) ∧ w.grownBy w' (some g)) := by
  obtain ⟨cur, hg, hh, hc, hm, hsz, htk, rfl⟩ := rowI_of h
  refine (AnyG.slices_Sort_int Try.sortI g 0 cap xs w (holds_of_blockI hh htk) (Own.lt hh) (by omega)).mono ?_
  rintro e w' ⟨rfl, k, os, rfl⟩
  have hs := ownsRow_sortedI (n := k) (os := os) (ss := xs) (ts := xs.mergeSort fun x y => decide (x ≤ y)) (by simp) hg hh hc hm hsz
  refine ⟨rfl, ?_, grownBy_sortedI _⟩
  unfold OwnsL
  rw [flat_i64, List.length_mergeSort]
  exact hs
theorem compact_own {w : World} {base g n cap : Nat} {xs : List Int} (h : OwnsL w base 2 1 i64cells (.slice (some ⟨g, 0, none⟩) n cap) xs) (hn : n ≤ 1048576) :
    Calls Try.prog 44 #[.slice (some ⟨g, 0, none⟩) n cap] w (fun e w' => e = .returned (.slice (some ⟨g, 0, none⟩) (Lib.compact xs).length cap) ∧ SliceOf w' 1 i64cells (some ⟨g, 0, none⟩) (Lib.compact xs).length (Lib.compact xs) ∧ w.grownBy w' (some g)) := by
  obtain ⟨cur, hg, hh, hc, hm, hsz, htk, rfl⟩ := rowI_of h
  refine (AnyG.slices_Compact_int Try.compactI g 0 cap xs w (holds_of_blockI hh htk) (by omega) hc).mono ?_
  rintro e w' ⟨rfl, q, rfl⟩
  have hle := compact_le xs
  obtain ⟨ts, hts⟩ : ∃ ts, Lib.compact xs ++ List.replicate (xs.length - (Lib.compact xs).length) 0 = ts := ⟨_, rfl⟩
  have htl : ts.length = xs.length := by rw [← hts]; simp; omega
  rw [hts]
  have hs := ownsRow_sortedI (n := q) (os := #[]) (ss := xs) (ts := ts) htl hg hh hc hm hsz
  rw [grow_empty] at hs
  have hgr := grownBy_sortedI (w := w) (g := g) (n := q) (os := #[]) ts.toArray
  rw [grow_empty] at hgr
  have ho : OwnsL (putRow (Value.int .i64) (Sort.ahead w q) g 0 ts.toArray) base 2 1 i64cells (.slice (some ⟨g, 0, none⟩) xs.length cap) ts := by
    unfold OwnsL
    rw [flat_i64, htl]
    exact hs
  have hsl := ho.sl i64cells_len
  refine ⟨rfl, ⟨rfl, by omega, fun hpos => ?_⟩, hgr⟩
  obtain ⟨b, off, hA, hb, hcells⟩ := hsl.2.2 (by omega)
  refine ⟨b, off, hA, hb, fun i x j v hx hv => hcells i x j v ?_ hv⟩
  rw [← hts, List.getElem?_append_left (List.getElem?_eq_some_iff.1 hx).1]
  exact hx

end Go.Proofs.Ythlgfmdlecdchaa
