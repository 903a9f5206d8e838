/- A grid with a cell raised, and the best cell to raise, in plain Lean. -/
import Derived.Test.YthlgfmdlecdchaaRunE
import Derived.Test.YthlgfmdlecdchaaTAsset
import Derived.Test.YthlgfmdlecdchaaAssets
import Derived.Test.YthlgfmdlecdchaaHits
import Derived.Test.YthlgfmdlecdchaaExposed
namespace Go.Proofs.Ythlgfmdlecdchaa
open Go.RowKit

def raiseG (g : Grid) (c : Nat) (b : Int) : Grid := { g with heights := g.heights.set c (g.heights.getD c 0 + b) }
/-- The worth that is left exposed where cell c is raised. -/
def damW (g : Grid) (xs : List Asset) (ms : List Int) (fr b : Int) (c : Nat) : Int := worthT (reachL (raiseG g c b) ms fr) xs xs.length
def damOk (g : Grid) (ms : List Int) (b : Int) (c : Nat) : Bool := decide (ms.getD c 0 ≤ 0) && decide (g.heights.getD c 0 + b ≤ 5000)
def damT (g : Grid) (xs : List Asset) (ms : List Int) (fr b : Int) : Nat → Int × Int
  | 0 => (-1, 0)
  | c + 1 => if damOk g ms b c = true then (if (damT g xs ms fr b c).1 < 0 ∨ damW g xs ms fr b c < (damT g xs ms fr b c).2 then ((c : Int), damW g xs ms fr b c) else damT g xs ms fr b c) else damT g xs ms fr b c
def damC (g : Grid) (xs : List Asset) (ms : List Int) (fr b : Int) : Int := if assetsB g xs = false then 1 else if inB b 0 100 = false then 2 else runC g ms fr
def damB (g : Grid) (xs : List Asset) (ms : List Int) (fr b : Int) : Int × Int := damT g xs ms fr b ms.length
def damK (g : Grid) (xs : List Asset) (ms : List Int) (fr b : Int) : Int := if damC g xs ms fr b = 0 then if (damB g xs ms fr b).1 < 0 then 3 else 0 else damC g xs ms fr b
def damA (g : Grid) (xs : List Asset) (ms : List Int) (fr b : Int) : Int := if damC g xs ms fr b = 0 then if (damB g xs ms fr b).1 < 0 then 0 else (damB g xs ms fr b).1 else 0
def damV (g : Grid) (xs : List Asset) (ms : List Int) (fr b : Int) : Int := if damC g xs ms fr b = 0 then if (damB g xs ms fr b).1 < 0 then 0 else (damB g xs ms fr b).2 else 0
theorem damC_zero {g : Grid} {xs : List Asset} {ms : List Int} {fr b : Int} (h : damC g xs ms fr b = 0) : assetsB g xs = true ∧ (0 ≤ b ∧ b ≤ 100) ∧ RunOk g ms fr ∧ runC g ms fr = 0 := by
  unfold damC at h
  cases h1 : assetsB g xs
  · rw [if_pos h1] at h; cases h
  · rw [if_neg (by rw [h1]; simp)] at h
    cases h2 : inB b 0 100
    · rw [if_pos h2] at h; cases h
    · rw [if_neg (by rw [h2]; simp)] at h
      exact ⟨rfl, inB_iff.1 h2, runC_zero h, h⟩
theorem heights_bd {g : Grid} (h : gridB g = true) {c : Nat} {y : Int} (hc : g.heights[c]? = some y) : 0 ≤ y ∧ y ≤ 5000 := by
  rw [gridB_iff] at h
  exact inB_iff.1 (List.all_eq_true.1 h.2.2.2.2 y (List.mem_of_getElem? hc))
theorem raise_ok {g : Grid} {ms : List Int} {fr b : Int} {c : Nat} {y : Int} (h : RunOk g ms fr) (hb : 0 ≤ b) (hy : g.heights[c]? = some y) (hm : y + b ≤ 5000) : RunOk (raiseG g c b) ms fr := by
  have hg := h.grid
  have hy0 := heights_bd hg hy
  rw [gridB_iff] at hg
  refine ⟨?_, h.f1, h.f2, by rw [h.len]; simp [raiseG], h.pos, h.sum⟩
  rw [gridB_iff]
  refine ⟨hg.1, hg.2.1, hg.2.2.1, by simpa [raiseG] using hg.2.2.2.1, List.all_eq_true.2 (fun z hz => ?_)⟩
  unfold raiseG at hz
  simp only at hz
  rcases List.mem_or_eq_of_mem_set hz with h' | h'
  · exact List.all_eq_true.1 hg.2.2.2.2 z h'
  · rw [h', List.getD_eq_getElem?_getD, hy]
    exact inB_iff.2 ⟨by simp only [Option.getD_some]; omega, by simp only [Option.getD_some]; omega⟩
theorem worths {g : Grid} {xs : List Asset} (h : assetsB g xs = true) : (∀ x ∈ xs, 0 ≤ x.worth ∧ x.worth ≤ 1000000) ∧ xs.length ≤ 12 := by
  refine ⟨fun x hx => ?_, ?_⟩
  · obtain ⟨k, hk⟩ := List.mem_iff_getElem?.1 hx
    have hf := assetsB_fits h hk
    unfold Asset.fitsB at hf
    simp only [Bool.and_eq_true] at hf
    exact inB_iff.1 hf.2
  · unfold assetsB Asset.validB at h
    rw [Bool.and_eq_true] at h
    exact (validL_spec.1 h.2).1
theorem damT_no {g : Grid} {xs : List Asset} {ms : List Int} {fr b : Int} {c : Nat} (h : damOk g ms b c = false) : damT g xs ms fr b (c + 1) = damT g xs ms fr b c := by
  rw [damT, h]; rfl
theorem damT_yes {g : Grid} {xs : List Asset} {ms : List Int} {fr b : Int} {c : Nat} (h : damOk g ms b c = true) (h2 : (damT g xs ms fr b c).1 < 0 ∨ damW g xs ms fr b c < (damT g xs ms fr b c).2) : damT g xs ms fr b (c + 1) = ((c : Int), damW g xs ms fr b c) := by
  rw [damT, if_pos h, if_pos h2]
theorem damT_worse {g : Grid} {xs : List Asset} {ms : List Int} {fr b : Int} {c : Nat} (h : damOk g ms b c = true) (h2 : ¬ ((damT g xs ms fr b c).1 < 0 ∨ damW g xs ms fr b c < (damT g xs ms fr b c).2)) : damT g xs ms fr b (c + 1) = damT g xs ms fr b c := by
  rw [damT, if_pos h, if_neg h2]
theorem damOk_of {g : Grid} {ms : List Int} {b : Int} {c : Nat} {m y : Int} (hm : ms[c]? = some m) (hy : g.heights[c]? = some y) : damOk g ms b c = (decide (m ≤ 0) && decide (y + b ≤ 5000)) := by
  unfold damOk
  rw [List.getD_eq_getElem?_getD, List.getD_eq_getElem?_getD, hm, hy]
  rfl
theorem dam_no {g : Grid} {xs : List Asset} {ms : List Int} {fr b : Int} (h : damC g xs ms fr b ≠ 0) : damK g xs ms fr b = damC g xs ms fr b ∧ damA g xs ms fr b = 0 ∧ damV g xs ms fr b = 0 := by
  unfold damK damA damV; rw [if_neg h, if_neg h, if_neg h]; exact ⟨rfl, rfl, rfl⟩

end Go.Proofs.Ythlgfmdlecdchaa
