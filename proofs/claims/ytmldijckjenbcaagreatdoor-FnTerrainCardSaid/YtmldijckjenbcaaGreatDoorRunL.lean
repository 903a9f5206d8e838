/- The plain law of handing on a cell's mass way by way. -/
import Derived.Test.YtmldijckjenbcaaGreatDoorBase
import Derived.Test.YtmldijckjenbcaaGreatDoorMem
import Derived.Test.YtmldijckjenbcaaGreatDoorTInt64
import Derived.Test.YtmldijckjenbcaaGreatDoorWays
import Derived.Test.YtmldijckjenbcaaGreatDoorSpecGo
import Derived.Test.YtmldijckjenbcaaGreatDoorSpecWays
import Derived.Test.YtmldijckjenbcaaGreatDoorRunP
import Derived.Test.YtmldijckjenbcaaGreatDoorRunQ
import Derived.Test.YtmldijckjenbcaaGreatDoorArr
import Derived.Test.YtmldijckjenbcaaGreatDoorRndB
namespace Go.Proofs.YtmldijckjenbcaaGreatDoor
open Go.RowKit

theorem bestOf_snoc (b : Stp) (l : List Stp) (y : Stp) : bestOf b (l ++ [y]) = if (bestOf b l).slope < y.slope then y else bestOf b l := by
  unfold bestOf; rw [List.foldl_append]; rfl
theorem sharesOf_snoc (m all : Int) (mv : List Int) (l : List Stp) (y : Stp) : sharesOf m all mv (l ++ [y]) = addAt (sharesOf m all mv l) y.cell.toNat (shareOf m all y) := by
  unfold sharesOf; rw [List.foldl_append]; rfl
theorem leftOf_snoc (m all : Int) (l : List Stp) (y : Stp) : leftOf m all (l ++ [y]) = leftOf m all l - shareOf m all y := by
  unfold leftOf; simp only [List.map_append, List.sum_append, List.map_cons, List.map_nil, List.sum_cons, List.sum_nil]; omega
theorem take_snoc {α : Type} {l : List α} {k : Nat} {x : α} (h : l[k]? = some x) : l.take (k + 1) = l.take k ++ [x] := by
  rw [List.take_succ_eq_append_getElem (List.getElem?_eq_some_iff.1 h).1, (List.getElem?_eq_some_iff.1 h).2]
theorem allOf_take_le {W : List Stp} (h : ∀ x ∈ W, 1 ≤ x.slope) (i : Nat) : allOf (W.take i) ≤ allOf W := by
  have e : allOf W = allOf (W.take i) + allOf (W.drop i) := by
    unfold allOf; rw [← List.sum_append, ← List.map_append, List.take_append_drop]
  have : 0 ≤ allOf (W.drop i) := by
    unfold allOf
    refine sum_nonneg _ fun x hx => ?_
    obtain ⟨y, hy, rfl⟩ := List.mem_map.1 hx
    have := h y (List.mem_of_mem_drop hy)
    omega
  omega
/-- What has been handed on by then is no more than all of it. -/
theorem shares_take {m : Int} {W : List Stp} (hm : 0 ≤ m) (h : ∀ x ∈ W, 1 ≤ x.slope) (hne : W ≠ []) (i : Nat) : 0 ≤ ((W.take i).map (shareOf m (allOf W))).sum ∧ ((W.take i).map (shareOf m (allOf W))).sum ≤ m := by
  have hp := allOf_pos h hne
  have h1 := shares_le hm hp (W.take i) (fun x hx => by have := h x (List.mem_of_mem_take hx); omega)
  refine ⟨h1.1, ?_⟩
  have h2 : m * allOf (W.take i) ≤ m * allOf W := Int.mul_le_mul_of_nonneg_left (allOf_take_le h i) hm
  exact Int.le_of_mul_le_mul_right (Int.le_trans h1.2 h2) hp
theorem share_one {m : Int} {W : List Stp} {x : Stp} (hm : 0 ≤ m) (h : ∀ x ∈ W, 1 ≤ x.slope) (hx : x ∈ W) : 0 ≤ shareOf m (allOf W) x ∧ shareOf m (allOf W) x ≤ m := by
  have hp := allOf_pos h (List.ne_nil_of_mem hx)
  have h1 := share_le hm hp (x := x) (by have := h x hx; omega)
  refine ⟨h1.1, ?_⟩
  have hle : x.slope ≤ allOf W := by
    unfold allOf
    exact le_sum _ (fun y hy => by obtain ⟨z, hz, rfl⟩ := List.mem_map.1 hy; have := h z hz; omega) _ (List.mem_map.2 ⟨x, hx, rfl⟩)
  have h2 : m * x.slope ≤ m * allOf W := Int.mul_le_mul_of_nonneg_left hle hm
  exact Int.le_of_mul_le_mul_right (Int.le_trans h1.2 h2) hp
theorem best_at {W : List Stp} {x y : Stp} {i q : Nat} (hq : W[q]? = some (bestOf x (W.take i))) (hy : W[i]? = some y) : W[if (bestOf x (W.take i)).slope < y.slope then i else q]? = some (bestOf x (W.take (i + 1))) := by
  rw [take_snoc hy, bestOf_snoc]
  split
  · exact hy
  · exact hq
theorem slC_le {g : Grid} {c k : Nat} (hgb : gridB g = true) (hc : c < g.heights.length) (hin : inC g c k = true) : slC g c k ≤ 5000000001 := by
  obtain ⟨j, hj, hjl, _, _, _⟩ := goC_in hgb hin
  have hp := gridB_parts hgb
  have hb : ∀ i : Nat, i < g.heights.length → 0 ≤ ht g i ∧ ht g i ≤ 5000 := fun i hi => by
    have e : ht g i = g.heights[i] := by unfold ht; simp [List.getD_eq_getElem?_getD, List.getElem?_eq_getElem hi]
    rw [e]; exact hp.2.2.2.2 _ (List.getElem_mem hi)
  have h1 := hb c hc
  have h2 := hb j hjl
  unfold slC
  rw [hj]
  have key : ∀ a b : Int, a ≤ 5000000000 → 1 ≤ b → rndDiv a b ≤ 5000000001 := by
    intro a b ha hb
    rcases Int.lt_or_le a 0 with hn | hn
    · unfold rndDiv
      rw [if_neg (by omega)]
      unfold rnd
      rw [if_neg (by omega)]
      have h0 : 0 ≤ (b - 2 * a) / (2 * b) := Int.ediv_nonneg (by omega) (by omega)
      generalize (b - 2 * a) / (2 * b) = z at h0 ⊢
      omega
    · have := (rndDiv_le hn hb).2; omega
  split
  · exact key _ _ (by omega) (by omega)
  · exact key _ _ (by omega) (by omega)
/-- What is known of a way down. -/
structure WayOk (g : Grid) (x : Stp) (d j : Nat) : Prop where
  d8 : d < 8
  dir : x.dir = d
  cell : x.cell = j
  lt : j < g.heights.length
  s1 : 1 ≤ x.slope
  s2 : x.slope ≤ 5000000001
theorem waysT_ok {g : Grid} {fr : Int} {c : Nat} {x : Stp} (hgb : gridB g = true) (hc : c < g.heights.length) (hfr : 1 ≤ fr) (h : x ∈ waysT g fr c 8) : ∃ d j, WayOk g x d j ∧ inC g c d = true ∧ goC g c d = j := by
  obtain ⟨d, hd, hin, rfl, h1, h2⟩ := waysT_spec h
  obtain ⟨j, hj, hjl, _, _, _⟩ := goC_in hgb hin
  exact ⟨d, j, ⟨hd, rfl, hj, hjl, by simp only at h2 ⊢; omega, slC_le hgb hc hin⟩, hin, hj⟩
/-- The masses in the middle of a cell's ways. -/
theorem mid_ok {m al : Int} {W : List Stp} {mv : List Int} (hm : 0 ≤ m) (h : ∀ x ∈ W, 1 ≤ x.slope) (hne : W ≠ []) (hc : ∀ x ∈ W, x.cell.toNat < mv.length) (hn : ∀ x ∈ mv, 0 ≤ x) (hs : mv.sum + m ≤ 64000000) (hal : allOf W = al) (j : Nat) :
    (sharesOf m al mv (W.take j)).length = mv.length ∧ (∀ x ∈ sharesOf m al mv (W.take j), 0 ≤ x ∧ x ≤ 64000000) ∧ 0 ≤ leftOf m al (W.take j) ∧ leftOf m al (W.take j) ≤ m := by
  subst hal
  have hp := allOf_pos h hne
  have h1 := shares_take hm h hne j
  have h2 := sharesOf_nonneg (m := m) (all := allOf W) hm hp (W.take j) mv (fun x hx => by have := h x (List.mem_of_mem_take hx); omega) hn
  have h3 := sharesOf_sum m (allOf W) (W.take j) mv (fun x hx => hc x (List.mem_of_mem_take hx))
  refine ⟨sharesOf_len _ _ _ _, fun x hx => ⟨h2 x hx, ?_⟩, ?_, ?_⟩
  · have := le_sum _ h2 x hx; omega
  · unfold leftOf; omega
  · unfold leftOf; omega
theorem prod_ok {m s : Int} (hm0 : 0 ≤ m) (hm : m ≤ 64000000) (hs0 : 1 ≤ s) (hs : s ≤ 5000000001) : 0 ≤ m * s ∧ m * s ≤ 320000000064000000 ∧ IntKind.i64.wrap (m * s) = m * s := by
  have h1 : 0 ≤ m * s := Int.mul_nonneg hm0 (by omega)
  have h2 : m * s ≤ 64000000 * s := Int.mul_le_mul_of_nonneg_right hm (by omega)
  exact ⟨h1, by omega, IntWalk.i64_in _ (by omega)⟩
theorem IntsAt.span {w w' : World} {g lo hi : Nat} {xs : List Int} (h : IntsAt w g xs) (hs : Span lo hi w w') (hb : g < lo ∨ hi ≤ g) : IntsAt w' g xs := (hs.block g h.lt hb).trans h

end Go.Proofs.YtmldijckjenbcaaGreatDoor
