/- The text of a grid, and what it is read as, where the grid is valid. -/
import Derived.Test.YtmldijckjenbcaaGreatDoorGrids
import Derived.Test.YtmldijckjenbcaaGreatDoorRunCode
import Derived.Test.YtmldijckjenbcaaGreatDoorBoxK
import Derived.Test.YtmldijckjenbcaaGreatDoorWays
import Derived.Test.YtmldijckjenbcaaGreatDoorMText
import Derived.Deep.RegionHeld3
import Derived.BigQuiet
namespace Go.Proofs.YtmldijckjenbcaaGreatDoor
open Go.RowKit

theorem below_step {a x y : World} (k : Below x.heap.size x y) (h : Below a.heap.size a x) : Below a.heap.size a y := h.trans (k.mono h.size)
def gridText (g : Grid) : ByteArray := (textList [g.rows, g.columns, g.size] ++ ⟨#[58]⟩) ++ textList g.heights
set_option maxRecDepth 100000 in
set_option maxHeartbeats 4000000 in
theorem implGridText_ok (g : GridR) (w : World) (hgi : g.In w) (hgb : gridB g.val = true) (ht : TabAt w.heap.size w) : Calls Tryz.prog 7 #[.agg #[.int .i64 g.rows, .int .i64 g.columns, .int .i64 g.size, .slice g.heightsA g.heightsN g.heightsC]] w (Ret (.string (gridText g.val)) w) := by
  have hB : Below w.heap.size w (w.alloc (.cells #[.int .i64 g.rows, .int .i64 g.columns, .int .i64 g.size, .slice g.heightsA g.heightsN g.heightsC] 26)) := (Below.refl _ _).alloc (Nat.le_refl _) _
  have HO0 : Hid (BoxD w.heap.size g (w.alloc (.cells #[.int .i64 g.rows, .int .i64 g.columns, .int .i64 g.size, .slice g.heightsA g.heightsN g.heightsC] 26))) := ⟨Own.new w 26 #[.int .i64 g.rows, .int .i64 g.columns, .int .i64 g.size, .slice g.heightsA g.heightsN g.heightsC], hgi.below hB⟩
  have HB0 := Lib.hid hB
  have HT0 := Lib.hid (ht.grow hB)
  have HGB := Lib.hid hgb
  clear hgi hB hgb ht
  obtain ⟨y0, y1, y2, y3, ly⟩ := HO0.out.cells
  go_enter Tryz.func7, Tryz.ntmps7
  go_wp2_with fail
  clear y0 y1 y2 y3 ly
  refine (validGrid_any g _ HO0.out.gi).mono ?_
  rintro e w1 ⟨rfl, hb1⟩
  rw [HGB.out]
  have HO := Lib.hid (HO0.out.grow hb1)
  have HB := Lib.hid (HB0.out.trans (hb1.mono HB0.out.size))
  have HT := Lib.hid (HT0.out.grow hb1)
  clear hb1
  obtain ⟨y0, y1, y2, y3, ly⟩ := HO.out.cells
  go_wp2_with fail
  clear y0 y1 y2 y3 ly
  have HG1 := Lib.hid HO.out.gi.1
  have hn64 : g.heightsN ≤ 64 := by
    have h := gridB_parts HGB.out
    have h2 := (mul_i64 h.1 h.2.1).2
    have h3 := h.2.2.2.1
    rw [show g.val.heights.length = g.heightsN from HO.out.gi.1.len] at h3
    omega
  have HN64 := Lib.hid hn64
  have HBD1 : Hid (∀ y, y ∈ [g.rows, g.columns, g.size] → -1000000000000 ≤ y ∧ y ≤ 1000000000000) := fun y hy => by
    obtain ⟨p1, p2, p3, _, _⟩ := gridB_parts HGB.out
    have q1 : 1 ≤ g.rows ∧ g.rows ≤ 8 := p1
    have q2 : 1 ≤ g.columns ∧ g.columns ≤ 8 := p2
    have q3 : 1 ≤ g.size ∧ g.size ≤ 100 := p3
    simp at hy
    rcases hy with rfl | rfl | rfl <;> omega
  have HBD2 : Hid (∀ y, y ∈ g.heights → -1000000000000 ≤ y ∧ y ≤ 1000000000000) := fun y hy => by
    have := (gridB_parts HGB.out).2.2.2.2 y hy
    omega
  have hz1 : (textList [g.rows, g.columns, g.size]).size ≤ 100 := by
    have h := textList_size (xs := [g.rows, g.columns, g.size]) (fun y hy => by have := HBD1.out y hy; unfold I64; omega)
    simp only [List.length_cons, List.length_nil] at h
    omega
  have hz2 : (textList g.heights).size ≤ 1500 := by
    have h := textList_size (xs := g.heights) (fun y hy => by have := HBD2.out y hy; unfold I64; omega)
    rw [show g.heights.length = g.heightsN from HO.out.gi.1.len] at h
    omega
  obtain ⟨T1, hT1⟩ : ∃ T, textList [g.rows, g.columns, g.size] = T := ⟨_, rfl⟩
  obtain ⟨T2, hT2⟩ : ∃ T, textList g.heights = T := ⟨_, rfl⟩
  rw [hT1] at hz1
  rw [hT2] at hz2
  have HTX : Hid (gridText g.val = (T1 ++ ⟨#[58]⟩) ++ T2) := by rw [Hid, ← hT1, ← hT2]; rfl
  have hC1 : ∀ (W : World) (b : Nat), SliceOf W 1 i64cells (some ⟨b, 0, none⟩) 3 [g.rows, g.columns, g.size] → Below w1.heap.size w1 W → Calls Tryz.prog 26 #[.slice (some ⟨b, 0, none⟩) 3 3] W (Ret (.string T1) W) := fun W b h hb => by
    rw [← hT1]
    exact implListText_any _ 3 3 [g.rows, g.columns, g.size] W h (by omega) HBD1.out (HT.out.grow hb)
  have hC2 : ∀ (W : World), Below w1.heap.size w1 W → Calls Tryz.prog 26 #[.slice g.heightsA g.heightsN g.heightsC] W (Ret (.string T2) W) := fun W hb => by
    rw [← hT2]
    exact implListText_any _ _ _ g.heights W (HG1.out.below hb) HN64.out HBD2.out (HT.out.grow hb)
  have hN1 : ∀ (W U : World), (U = w1 ∨ U = w1.drew) → Below (U.alloc (.cells #[.int .i64 g.rows, .int .i64 g.columns, .int .i64 g.size] 2)).heap.size (U.alloc (.cells #[.int .i64 g.rows, .int .i64 g.columns, .int .i64 g.size] 2)) W → SliceOf W 1 i64cells (some ⟨w1.heap.size, 0, none⟩) 3 [g.rows, g.columns, g.size] := fun W U hU hb => by
    have h := (sliceOf_new U 2 [g.rows, g.columns, g.size] (by simp)).below hb
    rw [show U.heap.size = w1.heap.size by rcases hU with rfl | rfl <;> simp] at h
    exact h
  have HC1 := Lib.hid hC1
  have HC2 := Lib.hid hC2
  have HN1 := Lib.hid hN1
  have hs1 : ¬ 9223372036854775807 < T1.size + 1 := by omega
  have hs2 : ¬ 9223372036854775807 < T1.size + 1 + T2.size := by omega
  clear hn64 hT1 hT2 hC1 hC2 hN1 hz1 hz2
  obtain ⟨y0, y1, y2, y3, ly⟩ := HO.out.cells
  have HS : ∀ w', Below w1.heap.size w1 w' → w'.cell? ⟨w.heap.size, 0, none⟩ = some (.int .i64 g.rows) ∧ w'.cell? ⟨w.heap.size, 1, none⟩ = some (.int .i64 g.columns) ∧ w'.cell? ⟨w.heap.size, 2, none⟩ = some (.int .i64 g.size) ∧ w'.cell? ⟨w.heap.size, 3, none⟩ = some (.slice g.heightsA g.heightsN g.heightsC) ∧ Below w1.heap.size w1 w' := fun w' h => by
    obtain ⟨q0, q1, q2, q3, _⟩ := (HO.out.grow h).cells
    exact ⟨q0, q1, q2, q3, h⟩
  have HSH := Lib.hid HS
  clear HS
  go_region_held3 (fun w' => w'.cell? ⟨w.heap.size, 0, none⟩ = some (.int .i64 g.rows) ∧ w'.cell? ⟨w.heap.size, 1, none⟩ = some (.int .i64 g.columns) ∧ w'.cell? ⟨w.heap.size, 2, none⟩ = some (.int .i64 g.size) ∧ w'.cell? ⟨w.heap.size, 3, none⟩ = some (.slice g.heightsA g.heightsN g.heightsC) ∧ Below w1.heap.size w1 w') (first | exact HSH.out _ (by (first | (with_reducible exact (And.right (And.right (And.right (And.right (by assumption)))))) | repeat (first | (with_reducible exact Below.refl _ _) | (with_reducible refine Below.drew ?_) | (with_reducible refine Below.alloc ?_ (by simp) _) | (with_reducible refine below_step (by assumption) ?_))))) (first | (go_at_call 26; (with_reducible refine Calls.mono (HC2.out _ (by (first | (with_reducible exact (And.right (And.right (And.right (And.right (by assumption)))))) | repeat (first | (with_reducible exact Below.refl _ _) | (with_reducible refine Below.drew ?_) | (with_reducible refine Below.alloc ?_ (by simp) _) | (with_reducible refine below_step (by assumption) ?_))))) ?_); rintro e wq ⟨rfl, hbq⟩) | (go_at_call 26; (with_reducible refine Calls.mono (HC1.out _ _ (by first | exact HN1.out _ w1 (.inl rfl) (by (first | (with_reducible exact (And.right (And.right (And.right (And.right (by assumption)))))) | repeat (first | (with_reducible exact Below.refl _ _) | (with_reducible refine Below.drew ?_) | (with_reducible refine Below.alloc ?_ (by simp) _) | (with_reducible refine below_step (by assumption) ?_)))) | exact HN1.out _ w1.drew (.inr rfl) (by (first | (with_reducible exact (And.right (And.right (And.right (And.right (by assumption)))))) | repeat (first | (with_reducible exact Below.refl _ _) | (with_reducible refine Below.drew ?_) | (with_reducible refine Below.alloc ?_ (by simp) _) | (with_reducible refine below_step (by assumption) ?_))))) (by (first | (with_reducible exact (And.right (And.right (And.right (And.right (by assumption)))))) | repeat (first | (with_reducible exact Below.refl _ _) | (with_reducible refine Below.drew ?_) | (with_reducible refine Below.alloc ?_ (by simp) _) | (with_reducible refine below_step (by assumption) ?_))))) ?_); rintro e wq ⟨rfl, hbq⟩))
  all_goals (go_wp2; go_ret; exact Ret.mk (congrArg Value.string HTX.out.symm) (HB.out.trans ((by (first | (with_reducible exact (And.right (And.right (And.right (And.right (by assumption)))))) | repeat (first | (with_reducible exact Below.refl _ _) | (with_reducible refine Below.drew ?_) | (with_reducible refine Below.alloc ?_ (by simp) _) | (with_reducible refine below_step (by assumption) ?_))) : Below w1.heap.size w1 wq).mono HB.out.size)))

end Go.Proofs.YtmldijckjenbcaaGreatDoor
