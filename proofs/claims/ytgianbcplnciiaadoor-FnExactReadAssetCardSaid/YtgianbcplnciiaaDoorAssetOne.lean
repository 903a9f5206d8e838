/- When one asset is valid: both sides (for a seat without grids). -/
import Derived.Test.YtgianbcplnciiaaDoorBase
import Derived.Test.YtgianbcplnciiaaDoorMem
import Derived.Test.YtgianbcplnciiaaDoorTInt64
import Derived.Test.YtgianbcplnciiaaDoorWithin
import Derived.Test.YtgianbcplnciiaaDoorTAsset
import Derived.Test.YtgianbcplnciiaaDoorCells
namespace Go.Proofs.YtgianbcplnciiaaDoor
open Go.RowKit

def Asset.fitsB (cells : Int) (x : Asset) : Bool := isNameB x.id && decide (0 < x.spots.length) && cellsB 0 (cells - 1) x.spots && inB x.worth 0 1000000
theorem fitsB_parts {c : Int} {x : Asset} (h : x.fitsB c = true) : 0 < x.spots.length ∧ risesB x.spots = true ∧ (∀ y ∈ x.spots, 0 ≤ y ∧ y ≤ c - 1) ∧ 0 ≤ x.worth ∧ x.worth ≤ 1000000 := by
  simp only [Asset.fitsB, cellsB_eq, Bool.and_eq_true, decide_eq_true_eq, List.all_eq_true, inB_iff] at h
  exact ⟨h.1.1.2, h.1.2.1, h.1.2.2, h.2⟩

set_option maxHeartbeats 1000000 in
theorem assetFits_any (x : AssetR) (cells : Int) (w : World) (hin : x.In w) (hs : x.id.size ≤ 9223372036854775807) (hc0 : 0 ≤ cells) (hc1 : cells ≤ 9223372036854775807) :
    Calls Tryd.prog 30 #[.agg #[.string x.id, .slice x.spotsA x.spotsN x.spotsC, .int .i64 x.worth], .int .i64 cells] w (Ret (.bool (Asset.fitsB cells x.val)) w) := by
  have HL := Lib.hid hin.1.len
  have HI := Lib.hid hin
  have hB : Below w.heap.size w (w.alloc (.cells #[.string x.id, .slice x.spotsA x.spotsN x.spotsC, .int .i64 x.worth] 33)) := (Below.refl _ _).alloc (Nat.le_refl _) _
  have hsz : (w.alloc (.cells #[.string x.id, .slice x.spotsA x.spotsN x.spotsC, .int .i64 x.worth] 33)).heap.size = w.heap.size + 1 := by simp
  have Hsz := Lib.hid hsz
  have HO := Lib.hid (Own.new w 33 #[.string x.id, .slice x.spotsA x.spotsN x.spotsC, .int .i64 x.worth])
  clear hin hsz
  rcases cases5 (isNameB x.id) (decide (0 < x.spotsN)) (risesB x.spots) (x.spots.all (fun y => inB y 0 (cells - 1))) (inB x.worth 0 1000000) with h0 | ⟨h0, h1⟩ | ⟨h0, h1, h2⟩ | ⟨h0, h1, h2, h3⟩ | ⟨h0, h1, h2, h3, h4⟩ | ⟨h0, h1, h2, h3, h4⟩
  · have HF : Hid (Asset.fitsB cells x.val = false) := by
      rw [Hid]; simp [Asset.fitsB, cellsB_eq, AssetR.val, HL.out, h0]
    go_enter Tryd.func30, Tryd.ntmps30
    go_wp2_with (first | (go_at_call 45; refine (within_any _ _ _ _).mono ?_; rintro e w' ⟨rfl, rfl⟩) | (go_at_call 50; refine (IsName_any _ _ hs).mono ?_; rintro e w' ⟨rfl, rfl⟩) | (go_at_call 51; refine (increasing_any _ _ _ x.spots _ (HI.out.1.below hB)).mono ?_; rintro e w1 ⟨rfl, hb1⟩; have y1 : w1.cell? ⟨w.heap.size, 1, none⟩ = some (.slice x.spotsA x.spotsN x.spotsC) := (hb1.cell (p := ⟨w.heap.size, 1, none⟩) (by simp)).trans (HO.out.cell 1); have y2 : w1.cell? ⟨w.heap.size, 2, none⟩ = some (.int .i64 x.worth) := (hb1.cell (p := ⟨w.heap.size, 2, none⟩) (by simp)).trans (HO.out.cell 2); have Y2 := Lib.hid y2; have hlw1 : w.heap.size < w1.heap.size := Nat.lt_of_lt_of_le (by simp) hb1.size) | (go_at_call 52; refine (allWithin_any 0 (cells - 1) _ _ _ x.spots _ ((HI.out.1.below hB).below (hb1.mono (Nat.le_refl _)))).mono ?_; rintro e w2 ⟨rfl, hb2⟩; have z2 : w2.cell? ⟨w.heap.size, 2, none⟩ = some (.int .i64 x.worth) := (hb2.cell (p := ⟨w.heap.size, 2, none⟩) hlw1).trans Y2.out))
    all_goals (go_ret; exact Ret.b HF.out.symm (by first | exact hB | exact hB.trans (hb1.mono hB.size) | exact hB.trans ((hb1.trans (hb2.mono hb1.size)).mono hB.size)))
  · have HF : Hid (Asset.fitsB cells x.val = false) := by
      rw [Hid]; simp [Asset.fitsB, cellsB_eq, AssetR.val, HL.out, h0, h1]
    go_enter Tryd.func30, Tryd.ntmps30
    go_wp2_with (first | (go_at_call 45; refine (within_any _ _ _ _).mono ?_; rintro e w' ⟨rfl, rfl⟩) | (go_at_call 50; refine (IsName_any _ _ hs).mono ?_; rintro e w' ⟨rfl, rfl⟩) | (go_at_call 51; refine (increasing_any _ _ _ x.spots _ (HI.out.1.below hB)).mono ?_; rintro e w1 ⟨rfl, hb1⟩; have y1 : w1.cell? ⟨w.heap.size, 1, none⟩ = some (.slice x.spotsA x.spotsN x.spotsC) := (hb1.cell (p := ⟨w.heap.size, 1, none⟩) (by simp)).trans (HO.out.cell 1); have y2 : w1.cell? ⟨w.heap.size, 2, none⟩ = some (.int .i64 x.worth) := (hb1.cell (p := ⟨w.heap.size, 2, none⟩) (by simp)).trans (HO.out.cell 2); have Y2 := Lib.hid y2; have hlw1 : w.heap.size < w1.heap.size := Nat.lt_of_lt_of_le (by simp) hb1.size) | (go_at_call 52; refine (allWithin_any 0 (cells - 1) _ _ _ x.spots _ ((HI.out.1.below hB).below (hb1.mono (Nat.le_refl _)))).mono ?_; rintro e w2 ⟨rfl, hb2⟩; have z2 : w2.cell? ⟨w.heap.size, 2, none⟩ = some (.int .i64 x.worth) := (hb2.cell (p := ⟨w.heap.size, 2, none⟩) hlw1).trans Y2.out))
    all_goals (go_ret; exact Ret.b HF.out.symm (by first | exact hB | exact hB.trans (hb1.mono hB.size) | exact hB.trans ((hb1.trans (hb2.mono hb1.size)).mono hB.size)))
  · have HF : Hid (Asset.fitsB cells x.val = false) := by
      rw [Hid]; simp [Asset.fitsB, cellsB_eq, AssetR.val, HL.out, h0, h1, h2]
    go_enter Tryd.func30, Tryd.ntmps30
    go_wp2_with (first | (go_at_call 45; refine (within_any _ _ _ _).mono ?_; rintro e w' ⟨rfl, rfl⟩) | (go_at_call 50; refine (IsName_any _ _ hs).mono ?_; rintro e w' ⟨rfl, rfl⟩) | (go_at_call 51; refine (increasing_any _ _ _ x.spots _ (HI.out.1.below hB)).mono ?_; rintro e w1 ⟨rfl, hb1⟩; have y1 : w1.cell? ⟨w.heap.size, 1, none⟩ = some (.slice x.spotsA x.spotsN x.spotsC) := (hb1.cell (p := ⟨w.heap.size, 1, none⟩) (by simp)).trans (HO.out.cell 1); have y2 : w1.cell? ⟨w.heap.size, 2, none⟩ = some (.int .i64 x.worth) := (hb1.cell (p := ⟨w.heap.size, 2, none⟩) (by simp)).trans (HO.out.cell 2); have Y2 := Lib.hid y2; have hlw1 : w.heap.size < w1.heap.size := Nat.lt_of_lt_of_le (by simp) hb1.size) | (go_at_call 52; refine (allWithin_any 0 (cells - 1) _ _ _ x.spots _ ((HI.out.1.below hB).below (hb1.mono (Nat.le_refl _)))).mono ?_; rintro e w2 ⟨rfl, hb2⟩; have z2 : w2.cell? ⟨w.heap.size, 2, none⟩ = some (.int .i64 x.worth) := (hb2.cell (p := ⟨w.heap.size, 2, none⟩) hlw1).trans Y2.out))
    all_goals (go_ret; exact Ret.b HF.out.symm (by first | exact hB | exact hB.trans (hb1.mono hB.size) | exact hB.trans ((hb1.trans (hb2.mono hb1.size)).mono hB.size)))
  · have HF : Hid (Asset.fitsB cells x.val = false) := by
      rw [Hid]; simp [Asset.fitsB, cellsB_eq, AssetR.val, HL.out, h0, h1, h2, h3]
    go_enter Tryd.func30, Tryd.ntmps30
    go_wp2_with (first | (go_at_call 45; refine (within_any _ _ _ _).mono ?_; rintro e w' ⟨rfl, rfl⟩) | (go_at_call 50; refine (IsName_any _ _ hs).mono ?_; rintro e w' ⟨rfl, rfl⟩) | (go_at_call 51; refine (increasing_any _ _ _ x.spots _ (HI.out.1.below hB)).mono ?_; rintro e w1 ⟨rfl, hb1⟩; have y1 : w1.cell? ⟨w.heap.size, 1, none⟩ = some (.slice x.spotsA x.spotsN x.spotsC) := (hb1.cell (p := ⟨w.heap.size, 1, none⟩) (by simp)).trans (HO.out.cell 1); have y2 : w1.cell? ⟨w.heap.size, 2, none⟩ = some (.int .i64 x.worth) := (hb1.cell (p := ⟨w.heap.size, 2, none⟩) (by simp)).trans (HO.out.cell 2); have Y2 := Lib.hid y2; have hlw1 : w.heap.size < w1.heap.size := Nat.lt_of_lt_of_le (by simp) hb1.size) | (go_at_call 52; refine (allWithin_any 0 (cells - 1) _ _ _ x.spots _ ((HI.out.1.below hB).below (hb1.mono (Nat.le_refl _)))).mono ?_; rintro e w2 ⟨rfl, hb2⟩; have z2 : w2.cell? ⟨w.heap.size, 2, none⟩ = some (.int .i64 x.worth) := (hb2.cell (p := ⟨w.heap.size, 2, none⟩) hlw1).trans Y2.out))
    all_goals (go_ret; exact Ret.b HF.out.symm (by first | exact hB | exact hB.trans (hb1.mono hB.size) | exact hB.trans ((hb1.trans (hb2.mono hb1.size)).mono hB.size)))
  · have HF : Hid (Asset.fitsB cells x.val = false) := by
      rw [Hid]; simp [Asset.fitsB, cellsB_eq, AssetR.val, HL.out, h0, h1, h2, h3, h4]
    go_enter Tryd.func30, Tryd.ntmps30
    go_wp2_with (first | (go_at_call 45; refine (within_any _ _ _ _).mono ?_; rintro e w' ⟨rfl, rfl⟩) | (go_at_call 50; refine (IsName_any _ _ hs).mono ?_; rintro e w' ⟨rfl, rfl⟩) | (go_at_call 51; refine (increasing_any _ _ _ x.spots _ (HI.out.1.below hB)).mono ?_; rintro e w1 ⟨rfl, hb1⟩; have y1 : w1.cell? ⟨w.heap.size, 1, none⟩ = some (.slice x.spotsA x.spotsN x.spotsC) := (hb1.cell (p := ⟨w.heap.size, 1, none⟩) (by simp)).trans (HO.out.cell 1); have y2 : w1.cell? ⟨w.heap.size, 2, none⟩ = some (.int .i64 x.worth) := (hb1.cell (p := ⟨w.heap.size, 2, none⟩) (by simp)).trans (HO.out.cell 2); have Y2 := Lib.hid y2; have hlw1 : w.heap.size < w1.heap.size := Nat.lt_of_lt_of_le (by simp) hb1.size) | (go_at_call 52; refine (allWithin_any 0 (cells - 1) _ _ _ x.spots _ ((HI.out.1.below hB).below (hb1.mono (Nat.le_refl _)))).mono ?_; rintro e w2 ⟨rfl, hb2⟩; have z2 : w2.cell? ⟨w.heap.size, 2, none⟩ = some (.int .i64 x.worth) := (hb2.cell (p := ⟨w.heap.size, 2, none⟩) hlw1).trans Y2.out))
    all_goals (go_ret; exact Ret.b HF.out.symm (by first | exact hB | exact hB.trans (hb1.mono hB.size) | exact hB.trans ((hb1.trans (hb2.mono hb1.size)).mono hB.size)))
  · have HF : Hid (Asset.fitsB cells x.val = true) := by
      rw [Hid]; simp [Asset.fitsB, cellsB_eq, AssetR.val, HL.out, h0, h1, h2, h3, h4]
    go_enter Tryd.func30, Tryd.ntmps30
    go_wp2_with (first | (go_at_call 45; refine (within_any _ _ _ _).mono ?_; rintro e w' ⟨rfl, rfl⟩) | (go_at_call 50; refine (IsName_any _ _ hs).mono ?_; rintro e w' ⟨rfl, rfl⟩) | (go_at_call 51; refine (increasing_any _ _ _ x.spots _ (HI.out.1.below hB)).mono ?_; rintro e w1 ⟨rfl, hb1⟩; have y1 : w1.cell? ⟨w.heap.size, 1, none⟩ = some (.slice x.spotsA x.spotsN x.spotsC) := (hb1.cell (p := ⟨w.heap.size, 1, none⟩) (by simp)).trans (HO.out.cell 1); have y2 : w1.cell? ⟨w.heap.size, 2, none⟩ = some (.int .i64 x.worth) := (hb1.cell (p := ⟨w.heap.size, 2, none⟩) (by simp)).trans (HO.out.cell 2); have Y2 := Lib.hid y2; have hlw1 : w.heap.size < w1.heap.size := Nat.lt_of_lt_of_le (by simp) hb1.size) | (go_at_call 52; refine (allWithin_any 0 (cells - 1) _ _ _ x.spots _ ((HI.out.1.below hB).below (hb1.mono (Nat.le_refl _)))).mono ?_; rintro e w2 ⟨rfl, hb2⟩; have z2 : w2.cell? ⟨w.heap.size, 2, none⟩ = some (.int .i64 x.worth) := (hb2.cell (p := ⟨w.heap.size, 2, none⟩) hlw1).trans Y2.out))
    all_goals (go_ret; exact Ret.b HF.out.symm (by first | exact hB | exact hB.trans (hb1.mono hB.size) | exact hB.trans ((hb1.trans (hb2.mono hb1.size)).mono hB.size)))
set_option maxHeartbeats 1000000 in
theorem l15One_any (x : AssetR) (cells : Int) (b off : Nat) (w : World) (hin : x.In w) (hs : x.id.size ≤ 9223372036854775807) (hc0 : 0 ≤ cells) (hc1 : cells ≤ 9223372036854775807) (x0 : w.cell? ⟨b, off, none⟩ = some (.string x.id)) (x1 : w.cell? ⟨b, off + 1, none⟩ = some (.slice x.spotsA x.spotsN x.spotsC)) (x2 : w.cell? ⟨b, off + 2, none⟩ = some (.int .i64 x.worth)) (hbb : b < w.heap.size) :
    Calls Tryd.prog 27 #[.pointer (some ⟨b, off, none⟩), .int .i64 cells] w (Ret (.bool (Asset.fitsB cells x.val)) w) := by
  have HL := Lib.hid hin.1.len
  have HI := Lib.hid hin
  have X2 := Lib.hid x2
  clear hin
  rcases cases4 (isNameB x.id) (decide (0 < x.spotsN)) (cellsB 0 (cells - 1) x.spots) (inB x.worth 0 1000000) with h0 | ⟨h0, h1⟩ | ⟨h0, h1, h2⟩ | ⟨h0, h1, h2, h3⟩ | ⟨h0, h1, h2, h3⟩
  · have HF : Hid (Asset.fitsB cells x.val = false) := by
      rw [Hid]; simp [Asset.fitsB, AssetR.val, HL.out, h0]
    go_enter Tryd.func27, Tryd.ntmps27
    go_wp2_with (first | (go_at_call 43; refine (l00In_any _ _ _ _).mono ?_; rintro e w' ⟨rfl, rfl⟩) | (go_at_call 47; refine (l01Name_any _ _ hs).mono ?_; rintro e w' ⟨rfl, rfl⟩) | (go_at_call 48; refine (l00Rises_any 0 (cells - 1) _ _ _ x.spots _ HI.out.1).mono ?_; rintro e w1 ⟨rfl, hb1⟩; have y2 : w1.cell? ⟨b, off + 2, none⟩ = _ := (hb1.cell hbb).trans X2.out))
    all_goals (go_ret; exact Ret.b HF.out.symm (by first | exact Below.refl _ _ | exact hb1))
  · have HF : Hid (Asset.fitsB cells x.val = false) := by
      rw [Hid]; simp [Asset.fitsB, AssetR.val, HL.out, h0, h1]
    go_enter Tryd.func27, Tryd.ntmps27
    go_wp2_with (first | (go_at_call 43; refine (l00In_any _ _ _ _).mono ?_; rintro e w' ⟨rfl, rfl⟩) | (go_at_call 47; refine (l01Name_any _ _ hs).mono ?_; rintro e w' ⟨rfl, rfl⟩) | (go_at_call 48; refine (l00Rises_any 0 (cells - 1) _ _ _ x.spots _ HI.out.1).mono ?_; rintro e w1 ⟨rfl, hb1⟩; have y2 : w1.cell? ⟨b, off + 2, none⟩ = _ := (hb1.cell hbb).trans X2.out))
    all_goals (go_ret; exact Ret.b HF.out.symm (by first | exact Below.refl _ _ | exact hb1))
  · have HF : Hid (Asset.fitsB cells x.val = false) := by
      rw [Hid]; simp [Asset.fitsB, AssetR.val, HL.out, h0, h1, h2]
    go_enter Tryd.func27, Tryd.ntmps27
    go_wp2_with (first | (go_at_call 43; refine (l00In_any _ _ _ _).mono ?_; rintro e w' ⟨rfl, rfl⟩) | (go_at_call 47; refine (l01Name_any _ _ hs).mono ?_; rintro e w' ⟨rfl, rfl⟩) | (go_at_call 48; refine (l00Rises_any 0 (cells - 1) _ _ _ x.spots _ HI.out.1).mono ?_; rintro e w1 ⟨rfl, hb1⟩; have y2 : w1.cell? ⟨b, off + 2, none⟩ = _ := (hb1.cell hbb).trans X2.out))
    all_goals (go_ret; exact Ret.b HF.out.symm (by first | exact Below.refl _ _ | exact hb1))
  · have HF : Hid (Asset.fitsB cells x.val = false) := by
      rw [Hid]; simp [Asset.fitsB, AssetR.val, HL.out, h0, h1, h2, h3]
    go_enter Tryd.func27, Tryd.ntmps27
    go_wp2_with (first | (go_at_call 43; refine (l00In_any _ _ _ _).mono ?_; rintro e w' ⟨rfl, rfl⟩) | (go_at_call 47; refine (l01Name_any _ _ hs).mono ?_; rintro e w' ⟨rfl, rfl⟩) | (go_at_call 48; refine (l00Rises_any 0 (cells - 1) _ _ _ x.spots _ HI.out.1).mono ?_; rintro e w1 ⟨rfl, hb1⟩; have y2 : w1.cell? ⟨b, off + 2, none⟩ = _ := (hb1.cell hbb).trans X2.out))
    all_goals (go_ret; exact Ret.b HF.out.symm (by first | exact Below.refl _ _ | exact hb1))
  · have HF : Hid (Asset.fitsB cells x.val = true) := by
      rw [Hid]; simp [Asset.fitsB, AssetR.val, HL.out, h0, h1, h2, h3]
    go_enter Tryd.func27, Tryd.ntmps27
    go_wp2_with (first | (go_at_call 43; refine (l00In_any _ _ _ _).mono ?_; rintro e w' ⟨rfl, rfl⟩) | (go_at_call 47; refine (l01Name_any _ _ hs).mono ?_; rintro e w' ⟨rfl, rfl⟩) | (go_at_call 48; refine (l00Rises_any 0 (cells - 1) _ _ _ x.spots _ HI.out.1).mono ?_; rintro e w1 ⟨rfl, hb1⟩; have y2 : w1.cell? ⟨b, off + 2, none⟩ = _ := (hb1.cell hbb).trans X2.out))
    all_goals (go_ret; exact Ret.b HF.out.symm (by first | exact Below.refl _ _ | exact hb1))
end Go.Proofs.YtgianbcplnciiaaDoor
