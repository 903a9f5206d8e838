/- When one asset, and a list of them over a terrain, is valid: both sides. -/
import Derived.Test.YtphapakhoibamaaGreatDoorBase
import Derived.Test.YtphapakhoibamaaGreatDoorMem
import Derived.Test.YtphapakhoibamaaGreatDoorTInt64
import Derived.Test.YtphapakhoibamaaGreatDoorWithin
import Derived.Test.YtphapakhoibamaaGreatDoorTGrid
import Derived.Test.YtphapakhoibamaaGreatDoorTAsset
import Derived.Test.YtphapakhoibamaaGreatDoorGrids
namespace Go.Proofs.YtphapakhoibamaaGreatDoor
open Go.RowKit

def Asset.fitsB (cells : Int) (x : Asset) : Bool := isNameB x.id && decide (0 < x.spots.length) && cellsB 0 (cells - 1) x.spots && inB x.worth 0 1000000
def Asset.rel (p x : Asset) : Bool := Go.Op.bytesLess p.id.toList x.id.toList
def Asset.validB (cells : Int) (xs : List Asset) : Bool := validL 12 (Asset.fitsB cells) Asset.rel xs
def assetsB (g : Grid) (xs : List Asset) : Bool := gridB g && Asset.validB g.heights.length xs
theorem assetsB_grid {g : Grid} {xs : List Asset} (h : assetsB g xs = true) : gridB g = true := by unfold assetsB at h; rw [Bool.and_eq_true] at h; exact h.1
theorem assetsB_fits {g : Grid} {xs : List Asset} (h : assetsB g xs = true) {k : Nat} {x : Asset} (hx : xs[k]? = some x) : Asset.fitsB g.heights.length x = true := by
  unfold assetsB at h; rw [Bool.and_eq_true] at h; exact validL_good h.2 hx
theorem assetsB_len {g : Grid} {xs : List Asset} (h : assetsB g xs = true) : xs.length ≤ 12 := by
  unfold assetsB at h; rw [Bool.and_eq_true] at h; exact (validL_spec.1 h.2).1
theorem fitsB_parts {c : Int} {x : Asset} (h : x.fitsB c = true) : 0 < x.spots.length ∧ risesB x.spots = true ∧ (∀ y ∈ x.spots, 0 ≤ y ∧ y ≤ c - 1) ∧ 0 ≤ x.worth ∧ x.worth ≤ 1000000 := by
  simp only [Asset.fitsB, cellsB_eq, Bool.and_eq_true, decide_eq_true_eq, List.all_eq_true, inB_iff] at h
  exact ⟨h.1.1.2, h.1.2.1, h.1.2.2, h.2⟩

set_option maxHeartbeats 1000000 in
theorem fits_any (x : AssetR) (cells : Int) (w : World) (hin : x.In w) (hs : x.id.size ≤ 9223372036854775807) (hc0 : 0 ≤ cells) (hc1 : cells ≤ 9223372036854775807) :
    Calls Tryz.prog 40 #[.agg #[.string x.id, .slice x.spotsA x.spotsN x.spotsC, .int .i64 x.worth], .int .i64 cells] w (Ret (.bool (Asset.fitsB cells x.val)) w) := by
  have HL := Lib.hid hin.1.len
  have HI := Lib.hid hin
  have hB : Below w.heap.size w (w.alloc (.cells #[.string x.id, .slice x.spotsA x.spotsN x.spotsC, .int .i64 x.worth] 45)) := (Below.refl _ _).alloc (Nat.le_refl _) _
  have hsz : (w.alloc (.cells #[.string x.id, .slice x.spotsA x.spotsN x.spotsC, .int .i64 x.worth] 45)).heap.size = w.heap.size + 1 := by simp
  have Hsz := Lib.hid hsz
  have HO := Lib.hid (Own.new w 45 #[.string x.id, .slice x.spotsA x.spotsN x.spotsC, .int .i64 x.worth])
  clear hin hsz
  rcases cases5 (isNameB x.id) (decide (0 < x.spotsN)) (risesB x.spots) (x.spots.all (fun y => inB y 0 (cells - 1))) (inB x.worth 0 1000000) with h0 | ⟨h0, h1⟩ | ⟨h0, h1, h2⟩ | ⟨h0, h1, h2, h3⟩ | ⟨h0, h1, h2, h3, h4⟩ | ⟨h0, h1, h2, h3, h4⟩
  · have HF : Hid (Asset.fitsB cells x.val = false) := by
      rw [Hid]; simp [Asset.fitsB, cellsB_eq, AssetR.val, HL.out, h0]
    go_enter Tryz.func40, Tryz.ntmps40
    go_wp2_with (first | (go_at_call 65; refine (within_any _ _ _ _).mono ?_; rintro e w' ⟨rfl, rfl⟩) | (go_at_call 66; refine (IsName_any _ _ hs).mono ?_; rintro e w' ⟨rfl, rfl⟩) | (go_at_call 67; refine (increasing_any _ _ _ x.spots _ (HI.out.1.below hB)).mono ?_; rintro e w1 ⟨rfl, hb1⟩; have y1 : w1.cell? ⟨w.heap.size, 1, none⟩ = some (.slice x.spotsA x.spotsN x.spotsC) := (hb1.cell (p := ⟨w.heap.size, 1, none⟩) (by simp)).trans (HO.out.cell 1); have y2 : w1.cell? ⟨w.heap.size, 2, none⟩ = some (.int .i64 x.worth) := (hb1.cell (p := ⟨w.heap.size, 2, none⟩) (by simp)).trans (HO.out.cell 2); have Y2 := Lib.hid y2; have hlw1 : w.heap.size < w1.heap.size := Nat.lt_of_lt_of_le (by simp) hb1.size) | (go_at_call 61; refine (allWithin_any 0 (cells - 1) _ _ _ x.spots _ ((HI.out.1.below hB).below (hb1.mono (Nat.le_refl _)))).mono ?_; rintro e w2 ⟨rfl, hb2⟩; have z2 : w2.cell? ⟨w.heap.size, 2, none⟩ = some (.int .i64 x.worth) := (hb2.cell (p := ⟨w.heap.size, 2, none⟩) hlw1).trans Y2.out))
    all_goals (go_ret; exact Ret.b HF.out.symm (by first | exact hB | exact hB.trans (hb1.mono hB.size) | exact hB.trans ((hb1.trans (hb2.mono hb1.size)).mono hB.size)))
  · have HF : Hid (Asset.fitsB cells x.val = false) := by
      rw [Hid]; simp [Asset.fitsB, cellsB_eq, AssetR.val, HL.out, h0, h1]
    go_enter Tryz.func40, Tryz.ntmps40
    go_wp2_with (first | (go_at_call 65; refine (within_any _ _ _ _).mono ?_; rintro e w' ⟨rfl, rfl⟩) | (go_at_call 66; refine (IsName_any _ _ hs).mono ?_; rintro e w' ⟨rfl, rfl⟩) | (go_at_call 67; refine (increasing_any _ _ _ x.spots _ (HI.out.1.below hB)).mono ?_; rintro e w1 ⟨rfl, hb1⟩; have y1 : w1.cell? ⟨w.heap.size, 1, none⟩ = some (.slice x.spotsA x.spotsN x.spotsC) := (hb1.cell (p := ⟨w.heap.size, 1, none⟩) (by simp)).trans (HO.out.cell 1); have y2 : w1.cell? ⟨w.heap.size, 2, none⟩ = some (.int .i64 x.worth) := (hb1.cell (p := ⟨w.heap.size, 2, none⟩) (by simp)).trans (HO.out.cell 2); have Y2 := Lib.hid y2; have hlw1 : w.heap.size < w1.heap.size := Nat.lt_of_lt_of_le (by simp) hb1.size) | (go_at_call 61; refine (allWithin_any 0 (cells - 1) _ _ _ x.spots _ ((HI.out.1.below hB).below (hb1.mono (Nat.le_refl _)))).mono ?_; rintro e w2 ⟨rfl, hb2⟩; have z2 : w2.cell? ⟨w.heap.size, 2, none⟩ = some (.int .i64 x.worth) := (hb2.cell (p := ⟨w.heap.size, 2, none⟩) hlw1).trans Y2.out))
    all_goals (go_ret; exact Ret.b HF.out.symm (by first | exact hB | exact hB.trans (hb1.mono hB.size) | exact hB.trans ((hb1.trans (hb2.mono hb1.size)).mono hB.size)))
  · have HF : Hid (Asset.fitsB cells x.val = false) := by
      rw [Hid]; simp [Asset.fitsB, cellsB_eq, AssetR.val, HL.out, h0, h1, h2]
    go_enter Tryz.func40, Tryz.ntmps40
    go_wp2_with (first | (go_at_call 65; refine (within_any _ _ _ _).mono ?_; rintro e w' ⟨rfl, rfl⟩) | (go_at_call 66; refine (IsName_any _ _ hs).mono ?_; rintro e w' ⟨rfl, rfl⟩) | (go_at_call 67; refine (increasing_any _ _ _ x.spots _ (HI.out.1.below hB)).mono ?_; rintro e w1 ⟨rfl, hb1⟩; have y1 : w1.cell? ⟨w.heap.size, 1, none⟩ = some (.slice x.spotsA x.spotsN x.spotsC) := (hb1.cell (p := ⟨w.heap.size, 1, none⟩) (by simp)).trans (HO.out.cell 1); have y2 : w1.cell? ⟨w.heap.size, 2, none⟩ = some (.int .i64 x.worth) := (hb1.cell (p := ⟨w.heap.size, 2, none⟩) (by simp)).trans (HO.out.cell 2); have Y2 := Lib.hid y2; have hlw1 : w.heap.size < w1.heap.size := Nat.lt_of_lt_of_le (by simp) hb1.size) | (go_at_call 61; refine (allWithin_any 0 (cells - 1) _ _ _ x.spots _ ((HI.out.1.below hB).below (hb1.mono (Nat.le_refl _)))).mono ?_; rintro e w2 ⟨rfl, hb2⟩; have z2 : w2.cell? ⟨w.heap.size, 2, none⟩ = some (.int .i64 x.worth) := (hb2.cell (p := ⟨w.heap.size, 2, none⟩) hlw1).trans Y2.out))
    all_goals (go_ret; exact Ret.b HF.out.symm (by first | exact hB | exact hB.trans (hb1.mono hB.size) | exact hB.trans ((hb1.trans (hb2.mono hb1.size)).mono hB.size)))
  · have HF : Hid (Asset.fitsB cells x.val = false) := by
      rw [Hid]; simp [Asset.fitsB, cellsB_eq, AssetR.val, HL.out, h0, h1, h2, h3]
    go_enter Tryz.func40, Tryz.ntmps40
    go_wp2_with (first | (go_at_call 65; refine (within_any _ _ _ _).mono ?_; rintro e w' ⟨rfl, rfl⟩) | (go_at_call 66; refine (IsName_any _ _ hs).mono ?_; rintro e w' ⟨rfl, rfl⟩) | (go_at_call 67; refine (increasing_any _ _ _ x.spots _ (HI.out.1.below hB)).mono ?_; rintro e w1 ⟨rfl, hb1⟩; have y1 : w1.cell? ⟨w.heap.size, 1, none⟩ = some (.slice x.spotsA x.spotsN x.spotsC) := (hb1.cell (p := ⟨w.heap.size, 1, none⟩) (by simp)).trans (HO.out.cell 1); have y2 : w1.cell? ⟨w.heap.size, 2, none⟩ = some (.int .i64 x.worth) := (hb1.cell (p := ⟨w.heap.size, 2, none⟩) (by simp)).trans (HO.out.cell 2); have Y2 := Lib.hid y2; have hlw1 : w.heap.size < w1.heap.size := Nat.lt_of_lt_of_le (by simp) hb1.size) | (go_at_call 61; refine (allWithin_any 0 (cells - 1) _ _ _ x.spots _ ((HI.out.1.below hB).below (hb1.mono (Nat.le_refl _)))).mono ?_; rintro e w2 ⟨rfl, hb2⟩; have z2 : w2.cell? ⟨w.heap.size, 2, none⟩ = some (.int .i64 x.worth) := (hb2.cell (p := ⟨w.heap.size, 2, none⟩) hlw1).trans Y2.out))
    all_goals (go_ret; exact Ret.b HF.out.symm (by first | exact hB | exact hB.trans (hb1.mono hB.size) | exact hB.trans ((hb1.trans (hb2.mono hb1.size)).mono hB.size)))
  · have HF : Hid (Asset.fitsB cells x.val = false) := by
      rw [Hid]; simp [Asset.fitsB, cellsB_eq, AssetR.val, HL.out, h0, h1, h2, h3, h4]
    go_enter Tryz.func40, Tryz.ntmps40
    go_wp2_with (first | (go_at_call 65; refine (within_any _ _ _ _).mono ?_; rintro e w' ⟨rfl, rfl⟩) | (go_at_call 66; refine (IsName_any _ _ hs).mono ?_; rintro e w' ⟨rfl, rfl⟩) | (go_at_call 67; refine (increasing_any _ _ _ x.spots _ (HI.out.1.below hB)).mono ?_; rintro e w1 ⟨rfl, hb1⟩; have y1 : w1.cell? ⟨w.heap.size, 1, none⟩ = some (.slice x.spotsA x.spotsN x.spotsC) := (hb1.cell (p := ⟨w.heap.size, 1, none⟩) (by simp)).trans (HO.out.cell 1); have y2 : w1.cell? ⟨w.heap.size, 2, none⟩ = some (.int .i64 x.worth) := (hb1.cell (p := ⟨w.heap.size, 2, none⟩) (by simp)).trans (HO.out.cell 2); have Y2 := Lib.hid y2; have hlw1 : w.heap.size < w1.heap.size := Nat.lt_of_lt_of_le (by simp) hb1.size) | (go_at_call 61; refine (allWithin_any 0 (cells - 1) _ _ _ x.spots _ ((HI.out.1.below hB).below (hb1.mono (Nat.le_refl _)))).mono ?_; rintro e w2 ⟨rfl, hb2⟩; have z2 : w2.cell? ⟨w.heap.size, 2, none⟩ = some (.int .i64 x.worth) := (hb2.cell (p := ⟨w.heap.size, 2, none⟩) hlw1).trans Y2.out))
    all_goals (go_ret; exact Ret.b HF.out.symm (by first | exact hB | exact hB.trans (hb1.mono hB.size) | exact hB.trans ((hb1.trans (hb2.mono hb1.size)).mono hB.size)))
  · have HF : Hid (Asset.fitsB cells x.val = true) := by
      rw [Hid]; simp [Asset.fitsB, cellsB_eq, AssetR.val, HL.out, h0, h1, h2, h3, h4]
    go_enter Tryz.func40, Tryz.ntmps40
    go_wp2_with (first | (go_at_call 65; refine (within_any _ _ _ _).mono ?_; rintro e w' ⟨rfl, rfl⟩) | (go_at_call 66; refine (IsName_any _ _ hs).mono ?_; rintro e w' ⟨rfl, rfl⟩) | (go_at_call 67; refine (increasing_any _ _ _ x.spots _ (HI.out.1.below hB)).mono ?_; rintro e w1 ⟨rfl, hb1⟩; have y1 : w1.cell? ⟨w.heap.size, 1, none⟩ = some (.slice x.spotsA x.spotsN x.spotsC) := (hb1.cell (p := ⟨w.heap.size, 1, none⟩) (by simp)).trans (HO.out.cell 1); have y2 : w1.cell? ⟨w.heap.size, 2, none⟩ = some (.int .i64 x.worth) := (hb1.cell (p := ⟨w.heap.size, 2, none⟩) (by simp)).trans (HO.out.cell 2); have Y2 := Lib.hid y2; have hlw1 : w.heap.size < w1.heap.size := Nat.lt_of_lt_of_le (by simp) hb1.size) | (go_at_call 61; refine (allWithin_any 0 (cells - 1) _ _ _ x.spots _ ((HI.out.1.below hB).below (hb1.mono (Nat.le_refl _)))).mono ?_; rintro e w2 ⟨rfl, hb2⟩; have z2 : w2.cell? ⟨w.heap.size, 2, none⟩ = some (.int .i64 x.worth) := (hb2.cell (p := ⟨w.heap.size, 2, none⟩) hlw1).trans Y2.out))
    all_goals (go_ret; exact Ret.b HF.out.symm (by first | exact hB | exact hB.trans (hb1.mono hB.size) | exact hB.trans ((hb1.trans (hb2.mono hb1.size)).mono hB.size)))
set_option maxHeartbeats 1000000 in
theorem implValidAssets_any (g : GridR) (A : Option Addr) (n c : Nat) (xs : List Asset) (w : World) (hgi : g.In w) (hx : Asset.Sl w A n xs) (hg : ∀ x ∈ xs, x.Good) :
    Calls Tryz.prog 16 #[.agg #[.int .i64 g.rows, .int .i64 g.columns, .int .i64 g.size, .slice g.heightsA g.heightsN g.heightsC], .slice A n c] w (Ret (.bool (assetsB g.val xs)) w) := by
  have hn := hx.le
  have hl := hx.len
  have Hl := Lib.hid hl
  have HGl := Lib.hid hgi.1.len
  have hgn := hgi.1.le
  have hB : Below w.heap.size w (w.alloc (.cells #[.int .i64 g.rows, .int .i64 g.columns, .int .i64 g.size, .slice g.heightsA g.heightsN g.heightsC] 26)) := (Below.refl _ _).alloc (Nat.le_refl _) _
  have hgi' := Lib.hid (hgi.below hB)
  have hown := Own.new w 26 #[.int .i64 g.rows, .int .i64 g.columns, .int .i64 g.size, .slice g.heightsA g.heightsN g.heightsC]
  have HO := Lib.hid hown
  have HB := Lib.hid hB
  clear hl hgi hown hB
  cases hgb : gridB g.val
  · have HF : Hid (assetsB g.val xs = false) := by rw [Hid]; unfold assetsB; rw [hgb, Bool.false_and]
    go_enter Tryz.func16, Tryz.ntmps16
    go_wp2_with fail
    refine (validGrid_any g _ hgi'.out).mono ?_
    rintro e wv ⟨rfl, hbv⟩
    go_wp2
    go_ret
    exact Ret.b HF.out.symm (HB.out.trans (hbv.mono HB.out.size))
  · by_cases hM : 12 < n
    · have HF : Hid (assetsB g.val xs = false) := by rw [Hid]; unfold assetsB Asset.validB; rw [validL_len (by rw [Hl.out]; exact hM), Bool.and_false]
      go_enter Tryz.func16, Tryz.ntmps16
      go_wp2_with fail
      refine (validGrid_any g _ hgi'.out).mono ?_
      rintro e wv ⟨rfl, hbv⟩
      go_wp2
      go_ret
      exact Ret.b HF.out.symm (HB.out.trans (hbv.mono HB.out.size))
    · have HF : Hid (assetsB g.val xs = Asset.validB (g.heightsN : Int) xs) := by rw [Hid]; unfold assetsB; rw [hgb, Bool.true_and, show g.val.heights.length = g.heightsN from HGl.out]
      go_enter Tryz.func16, Tryz.ntmps16
      go_wp2_with fail
      refine (validGrid_any g _ hgi'.out).mono ?_
      rintro e wv ⟨rfl, hbv⟩
      rw [hgb]
      have Hb0 := Lib.hid (HB.out.trans (hbv.mono HB.out.size))
      have G3 : Hid (wv.cell? ⟨w.heap.size, 3, none⟩ = some (.slice g.heightsA g.heightsN g.heightsC)) := (hbv.cell (p := ⟨w.heap.size, 3, none⟩) (by simp)).trans (HO.out.cell 3)
      have hbg0 : w.heap.size < wv.heap.size := Nat.lt_of_lt_of_le (by simp) hbv.size
      have hx1 := hx.below Hb0.out
      clear hx
      have hx := hx1
      clear hx1
      have hc0 : 0 ≤ (g.heightsN : Int) := by omega
      have hc1 : (g.heightsN : Int) ≤ 9223372036854775807 := by omega
      have HG := HF
      clear hgi' hbv
      go_wp2
      go_loopg [17] n (fun gk i wr => ∃ k : Nat, k ≤ n ∧ gk = n - k ∧ i = .int .i64 k ∧ Below wv.heap.size wv wr ∧ GoodTo (Asset.fitsB (g.heightsN : Int)) Asset.rel xs k)
      case atStart => exact ⟨0, Nat.zero_le _, rfl, rfl, Below.refl _ _, GoodTo.zero⟩
      case round =>
        obtain ⟨k, hk, hgk, rfl, hb, hall⟩ := hrel
        have Hall := Lib.hid hall
        have Hgk := Lib.hid hgk
        clear hall hgk
        by_cases hlt : k < n
        · have hx' := hx.below hb
          obtain ⟨b1, o1, x, rfl, hb1, hxk, hix, x0, x1, x2⟩ := hx'.at_ hlt
          have hs : x.id.size ≤ 9223372036854775807 := by
            have := (hg x.val (List.mem_of_getElem? hxk)).2.1; simp [maxLen, AssetR.val] at this; omega
          have Hx := Lib.hid hxk
          clear hxk
          have hr1 : w.heap.size < wr.heap.size := Nat.lt_of_lt_of_le hbg0 hb.size
          have hr2 : w.heap.size < wr.heap.size + 1 := Nat.lt_succ_of_lt hr1
          have gh : wr.cell? ⟨w.heap.size, 3, none⟩ = _ := (hb.cell hbg0).trans G3.out
          have hixa : ∀ o, x.In (wr.alloc o) := fun o => hix.below ((Below.refl _ _).alloc (Nat.le_refl _) o)
          have hsub := fun (o : Obj) (g : Sub (wr.alloc o)) b o' (h : b < (wr.alloc o).heap.size) => g.cell b o' h
          have hlt1 : b1 < wr.heap.size + 1 := by omega
          cases h1 : Asset.fitsB (g.heightsN : Int) x.val
          · go_wp2_with fail
            refine wp_region_sub (by kernel_rfl) (by kernel_rfl) ?_
            repeat (go_big_quiet_step (exact Calls.sub_of_eq (fits_any x (g.heightsN : Int) _ ((hixa _).below (Sub.below _)) hs hc0 hc1) (congrArg Value.bool h1)))
            refine wpQuiet_nil ?_
            intro wg hg
            have hbg := (hb.alloc hb.size _).trans (hg.mono (Nat.le_trans hb.size (by simp)))
            clear hsub x0 x1 x2 gh hlt1 hr1 hr2
            go_wp2
            go_ret
            exact Ret.b (HG.out.trans (validL_one Hx.out h1)).symm (Hb0.out.trans (hbg.mono Hb0.out.size))
          · by_cases hk0 : k = 0
            · have hd : decide (0 < k) = false := decide_eq_false (by omega)
              have Hk0 := Lib.hid hk0
              clear hk0
              go_wp2_with fail
              refine wp_region_sub (by kernel_rfl) (by kernel_rfl) ?_
              repeat (go_big_quiet_step (exact Calls.sub_of_eq (fits_any x (g.heightsN : Int) _ ((hixa _).below (Sub.below _)) hs hc0 hc1) (congrArg Value.bool h1)))
              refine wpQuiet_nil ?_
              intro wg hg
              have hbg := (hb.alloc hb.size _).trans (hg.mono (Nat.le_trans hb.size (by simp)))
              clear hsub x0 x1 x2 gh hlt1 hr1 hr2
              go_wp2
              go_roundg (n - (k + 1))
              case measure => have := Hgk.out; omega
              case rel => exact ⟨k + 1, by omega, rfl, by go_num, hbg, Hall.out.step Hx.out h1 (fun p h => absurd h (by have := Hk0.out; omega))⟩
            · have hd : decide (0 < k) = true := decide_eq_true (by omega)
              have hlt' : k - 1 < n := by omega
              obtain ⟨b2, o2, p, he, hb2, hpk, hip, p0, p1, p2⟩ := hx'.at_ hlt'
              injection he with he
              injection he with he1 he2 _
              subst he1 he2
              have Hp := Lib.hid hpk
              clear hpk hip
              cases hr : Asset.rel p.val x.val
              · have hr1' := bytesLess_leq x.id.toList p.id.toList
                have hr2' : Go.Op.bytesLess p.id.toList x.id.toList = false := hr
                rw [hr2'] at hr1'
                have Hr := Lib.hid hr
                clear hr hx hx'
                go_wp2_with fail
                refine wp_region_sub (by kernel_rfl) (by kernel_rfl) ?_
                repeat (go_big_quiet_step (exact Calls.sub_of_eq (fits_any x (g.heightsN : Int) _ ((hixa _).below (Sub.below _)) hs hc0 hc1) (congrArg Value.bool h1)))
                refine wpQuiet_nil ?_
                intro wg hg
                have hbg := (hb.alloc hb.size _).trans (hg.mono (Nat.le_trans hb.size (by simp)))
                clear hsub x0 x1 x2 gh hlt1 hr1 hr2 p0 p1 p2
                go_wp2
                go_ret
                exact Ret.b (HG.out.trans (validL_rel (by omega) Hp.out Hx.out Hr.out)).symm (Hb0.out.trans (hbg.mono Hb0.out.size))
              · have hr1' := bytesLess_leq x.id.toList p.id.toList
                have hr2' : Go.Op.bytesLess p.id.toList x.id.toList = true := hr
                rw [hr2'] at hr1'
                have Hr := Lib.hid hr
                clear hr hx hx'
                go_wp2_with fail
                refine wp_region_sub (by kernel_rfl) (by kernel_rfl) ?_
                repeat (go_big_quiet_step (exact Calls.sub_of_eq (fits_any x (g.heightsN : Int) _ ((hixa _).below (Sub.below _)) hs hc0 hc1) (congrArg Value.bool h1)))
                refine wpQuiet_nil ?_
                intro wg hg
                have hbg := (hb.alloc hb.size _).trans (hg.mono (Nat.le_trans hb.size (by simp)))
                clear hsub x0 x1 x2 gh hlt1 hr1 hr2 p0 p1 p2
                go_wp2
                go_roundg (n - (k + 1))
                case measure => have := Hgk.out; omega
                case rel => exact ⟨k + 1, by omega, rfl, by go_num, hbg, Hall.out.step Hx.out h1 (fun q _ hq => by rw [Hp.out] at hq; cases hq; exact Hr.out)⟩
        · have hkn : k = n := by omega
          subst hkn
          go_wp2
          go_ret
          exact Ret.b (HG.out.trans ((validL_all (by rw [Hl.out]; exact Nat.le_refl _) Hall.out).trans (by rw [Hl.out]; simp <;> omega))).symm (Hb0.out.trans (hb.mono Hb0.out.size))

end Go.Proofs.YtphapakhoibamaaGreatDoor
