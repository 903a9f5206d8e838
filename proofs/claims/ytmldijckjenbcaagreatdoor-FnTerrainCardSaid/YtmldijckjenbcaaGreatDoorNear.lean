/- NeighboursOf on both sides. -/
import Derived.Test.YtmldijckjenbcaaGreatDoorBase
import Derived.Test.YtmldijckjenbcaaGreatDoorMem
import Derived.Test.YtmldijckjenbcaaGreatDoorTInt64
import Derived.Test.YtmldijckjenbcaaGreatDoorWithin
import Derived.Test.YtmldijckjenbcaaGreatDoorTGrid
import Derived.Test.YtmldijckjenbcaaGreatDoorGrids
import Derived.Test.YtmldijckjenbcaaGreatDoorWays
import Derived.Test.YtmldijckjenbcaaGreatDoorSpecGo
import Derived.Test.YtmldijckjenbcaaGreatDoorPush2
import Derived.Test.YtmldijckjenbcaaGreatDoorArr2
import Derived.Test.YtmldijckjenbcaaGreatDoorRunL
import Derived.Test.YtmldijckjenbcaaGreatDoorRunCode
import Derived.Test.YtmldijckjenbcaaGreatDoorNearP
import Derived.Test.YtmldijckjenbcaaGreatDoorSortU6
namespace Go.Proofs.YtmldijckjenbcaaGreatDoor
open Go.RowKit

theorem nearT_in {g : Grid} {c k : Nat} (h : inC g c k = true) : nearT g c (k + 1) = putT (goC g c k) (nearT g c k) := by
  show (if inC g c k then putT (goC g c k) (nearT g c k) else nearT g c k) = _
  rw [h]; rfl
theorem nearT_out {g : Grid} {c k : Nat} (h : inC g c k = false) : nearT g c (k + 1) = nearT g c k := by
  show (if inC g c k then putT (goC g c k) (nearT g c k) else nearT g c k) = _
  rw [h]; rfl
def nearC (g : Grid) (cell : Int) : Int := if gridB g = false then 1 else if inB cell 0 ((g.heights.length : Int) - 1) = false then 2 else 0
def nearA (g : Grid) (cell : Int) : List Int := if nearC g cell = 0 then nearT g cell.toNat 8 else []
theorem nearA_len (g : Grid) (cell : Int) : (nearA g cell).length ≤ 1048576 := by
  unfold nearA
  split
  · have := nearT_len g cell.toNat (k := 8) (Nat.le_refl _); omega
  · simp
theorem nearC_zero {g : Grid} {cell : Int} (h : nearC g cell = 0) : gridB g = true ∧ ∃ c : Nat, cell = c ∧ c < g.heights.length := by
  unfold nearC at h
  cases h1 : gridB g <;> cases h2 : inB cell 0 ((g.heights.length : Int) - 1) <;> simp [h1, h2] at h
  have := inB_iff.1 h2
  exact ⟨rfl, cell.toNat, by omega, by omega⟩
theorem nearA_zero {g : Grid} {cell : Int} (h : nearC g cell = 0) : nearA g cell = ((nextT g cell.toNat 8).map Stp.cell).mergeSort fun x y => decide (x ≤ y) := by
  unfold nearA
  rw [if_pos h, near_sort]; rfl
theorem nearC_cell (g : Grid) (cell : Int) : cellC g [cell] = nearC g cell := by
  unfold cellC nearC
  simp
theorem map_take_snoc {NL : List Stp} {j : Nat} {y : Stp} (h : NL[j]? = some y) : (NL.map Stp.cell).take (j + 1) = (NL.map Stp.cell).take j ++ [y.cell] := by
  rw [take_snoc]
  rw [List.getElem?_map, h]; rfl
theorem stp_at6 {w : World} {A : Option Addr} {n : Nat} {xs : List Stp} (h : SliceOf w 3 Stp.cells A n xs) {k : Nat} (hk : k < n) :
    ∃ b off x, A = some ⟨b, off, none⟩ ∧ b < w.heap.size ∧ xs[k]? = some x ∧ w.cell? ⟨b, off + k * 3, none⟩ = some (.int .i64 x.cell) ∧ w.cell? ⟨b, off + k * 3 + 1, none⟩ = some (.int .i64 x.dir) ∧ w.cell? ⟨b, off + k * 3 + 2, none⟩ = some (.int .i64 x.slope) := by
  obtain ⟨b, off, x, hA, hb, hx, hc⟩ := h.at_ hk
  exact ⟨b, off, x, hA, hb, hx, hc 0 _ rfl, hc 1 _ rfl, hc 2 _ rfl⟩
set_option maxRecDepth 100000 in
set_option maxHeartbeats 1000000 in
theorem implNeighboursOf_any (g : GridR) (cell : Int) (w : World) (hgi : g.In w) :
    Calls Tryz.prog 11 #[.agg #[.int .i64 g.rows, .int .i64 g.columns, .int .i64 g.size, .slice g.heightsA g.heightsN g.heightsC], .int .i64 cell] w (RetLT 2 1 i64cells (nearA g.val cell) [.int .i64 (nearC g.val cell)] w) := by
  have hB : Below w.heap.size w (w.alloc (.cells #[.int .i64 g.rows, .int .i64 g.columns, .int .i64 g.size, .slice g.heightsA g.heightsN g.heightsC] 26)) := (Below.refl _ _).alloc (Nat.le_refl _) _
  have HO0 := Lib.hid (Own.new w 26 #[.int .i64 g.rows, .int .i64 g.columns, .int .i64 g.size, .slice g.heightsA g.heightsN g.heightsC])
  have HB0 := Lib.hid hB
  have HI0 := Lib.hid (hgi.below hB)
  have HGl : Hid (g.val.heights.length = g.heightsN) := hgi.1.len
  clear hgi hB
  go_enter Tryz.func11, Tryz.ntmps11
  go_wp2_with fail
  obtain ⟨w0, hw0⟩ : ∃ w0, (w.alloc (.cells #[.int .i64 g.rows, .int .i64 g.columns, .int .i64 g.size, .slice g.heightsA g.heightsN g.heightsC] 26)).alloc (.cells #[.int .i64 cell] 2) = w0 := ⟨_, rfl⟩
  have hBq : Below (w.alloc (.cells #[.int .i64 g.rows, .int .i64 g.columns, .int .i64 g.size, .slice g.heightsA g.heightsN g.heightsC] 26)).heap.size (w.alloc (.cells #[.int .i64 g.rows, .int .i64 g.columns, .int .i64 g.size, .slice g.heightsA g.heightsN g.heightsC] 26)) w0 := by rw [← hw0]; exact (Below.refl _ _).alloc (Nat.le_refl _) _
  have hcs : SliceOf w0 1 i64cells (some ⟨w.heap.size + 1, 0, none⟩) 1 [cell] := by
    have h := sliceOf_new (w.alloc (.cells #[.int .i64 g.rows, .int .i64 g.columns, .int .i64 g.size, .slice g.heightsA g.heightsN g.heightsC] 26)) 2 [cell] (by simp)
    rw [show (w.alloc (.cells #[.int .i64 g.rows, .int .i64 g.columns, .int .i64 g.size, .slice g.heightsA g.heightsN g.heightsC] 26)).heap.size = w.heap.size + 1 by simp] at h
    rw [← hw0]
    exact h
  rw [hw0]
  have HO1 := Lib.hid (HO0.out.below' hBq)
  have HB1 := Lib.hid (HB0.out.trans (hBq.mono HB0.out.size))
  have HI1 := Lib.hid (HI0.out.below hBq)
  clear hBq hw0
  refine (gridCode_any g _ 1 1 [cell] _ HI1.out hcs).mono ?_
  rintro e w1 ⟨rfl, hb1⟩
  have HO := Lib.hid (HO1.out.below' hb1)
  have HB := Lib.hid (HB1.out.trans (hb1.mono HB1.out.size))
  have HI := Lib.hid (HI1.out.below hb1)
  clear hb1 hcs
  rw [nearC_cell]
  by_cases hc : nearC g.val cell = 0
  · have HC := Lib.hid hc
    have hne : (nearC g.val cell != 0) = false := by simp [hc]
    have HZ := Lib.hid (nearA_zero hc)
    obtain ⟨hgb, c, rfl, hcn⟩ := nearC_zero hc
    have HGB := Lib.hid hgb
    rw [HGl.out] at hcn
    clear hc hgb
    have y0 : w1.cell? ⟨w.heap.size, 0, none⟩ = some (.int .i64 g.rows) := HO.out.cell 0
    have y1 : w1.cell? ⟨w.heap.size, 1, none⟩ = some (.int .i64 g.columns) := HO.out.cell 1
    have y2 : w1.cell? ⟨w.heap.size, 2, none⟩ = some (.int .i64 g.size) := HO.out.cell 2
    have y3 : w1.cell? ⟨w.heap.size, 3, none⟩ = some (.slice g.heightsA g.heightsN g.heightsC) := HO.out.cell 3
    go_wp2_with fail
    refine (next_any g c _ HI.out HGB.out hcn).mono ?_
    rintro e w3 ⟨u, rfl, hv, hb3⟩
    clear y0 y1 y2 y3
    obtain ⟨NL, hNL⟩ : ∃ NL, nextT g.val c 8 = NL := ⟨_, rfl⟩
    rw [hNL] at hv
    obtain ⟨AN, cN, rfl, _, _, hsn⟩ := hv.slice Stp.cells_len
    obtain ⟨p, hp⟩ : ∃ p, NL.length = p := ⟨_, rfl⟩
    simp only [hp] at hv hsn ⊢
    have hp8 : p ≤ 8 := by rw [← hp, ← hNL]; exact nextT_len _ _ _
    have HSN := Lib.hid hsn
    have HZ2 : Hid (nearA g.val c = (NL.map Stp.cell).mergeSort fun x y => decide (x ≤ y)) := by rw [Hid, HZ.out, Int.toNat_natCast, hNL]
    have HP := Lib.hid hp
    have HB3 := Lib.hid (HB.out.trans (hb3.mono HB.out.size))
    clear hv hsn hNL hp hb3 HZ
    go_wp2
    go_loopg [21, 7] p (fun gk i u wr => ∃ (j : Nat) (v : Value), j ≤ p ∧ gk = p - j ∧ i = .int .i64 j ∧ v = u ∧ Below w3.heap.size w3 wr ∧ OwnsL wr w3.heap.size 2 1 i64cells v ((NL.map Stp.cell).take j))
    case atStart => exact ⟨0, _, Nat.zero_le _, rfl, rfl, rfl, Below.refl _ _, OwnsL.nil_ _ _ _ _ _⟩
    case round =>
      obtain ⟨j, v, hj, hgj, rfl, rfl, hbj, hown⟩ := hrel
      have HGJ := Lib.hid hgj
      have HOJ := Lib.hid hown
      have HBJ := Lib.hid hbj
      clear hgj hown
      by_cases hjp : j < p
      · obtain ⟨bs, os, y, rfl, hbs, hyk, c0, c1, c2⟩ := stp_at6 (HSN.out.below hbj) hjp
        have HT := Lib.hid (map_take_snoc hyk)
        have HLC : Hid (((NL.map Stp.cell).take j).length ≤ 8) := by
          have h2 : ((NL.map Stp.cell).take j).length ≤ j := List.length_take_le _ _
          rw [Hid]; omega
        have hB4 : Below wr.heap.size wr (wr.alloc (.cells #[.int .i64 y.cell, .int .i64 y.dir, .int .i64 y.slope] 56)) := (Below.refl _ _).alloc (Nat.le_refl _) _
        have HO4 := Lib.hid (HOJ.out.below' hB4)
        have HB4 := Lib.hid (HBJ.out.trans (hB4.mono HBJ.out.size))
        have HS4 : Hid (w3.heap.size ≤ (wr.alloc (.cells #[.int .i64 y.cell, .int .i64 y.dir, .int .i64 y.slope] 56)).heap.size) := HB4.out.size
        clear hyk hB4
        go_wp2_with (at_builtin; refine wpList_push2 (by rfl) (.tmp 25) (.tmp 28) 24 (by rfl) w3.heap.size 2 1 Tryz.underlying24 infoI64 (by rfl) (by decide) i64cells i64cells_len i64cells_one _ v _ y.cell (by rfl) (by rfl) HO4.out (by first | rfl | simp [go_sem]) (by have := HLC.out; omega) (by decide) HS4.out ?_)
        intro v' w' hown' hb' hkp hob
        have HWN : Hid (OwnsL w' w3.heap.size 2 1 i64cells v' ((NL.map Stp.cell).take (j + 1))) := by rw [Hid, HT.out]; exact hown'
        have HBN := Lib.hid (HB4.out.trans hb')
        clear hown' hb' hkp hob
        go_wp2
        go_roundg (p - (j + 1))
        case measure => have := HGJ.out; omega
        case rel => exact ⟨j + 1, v', by omega, rfl, by go_num, rfl, HBN.out, HWN.out⟩
      · have hjp2 : j = p := by omega
        subst hjp2
        have HNX : Hid (OwnsL wr w3.heap.size 2 1 i64cells v (NL.map Stp.cell)) := by
          have h := HOJ.out
          rw [List.take_of_length_le (by rw [List.length_map, HP.out]; exact Nat.le_refl _)] at h
          exact h
        have HBK := Lib.hid (HB3.out.trans (HBJ.out.mono HB3.out.size))
        obtain ⟨fs, hfs⟩ : ∃ fs, NL.map Stp.cell = fs := ⟨_, rfl⟩
        have hl : fs.length ≤ 8 := by rw [← hfs, List.length_map, HP.out]; exact hp8
        rw [hfs] at HNX HZ2
        by_cases hne0 : fs = []
        · subst hne0
          obtain ⟨A0, c0, rfl, _, _, _⟩ := HNX.out.slice i64cells_len
          have HNX0 := HNX
          go_wp2_with fail
          refine (sort_nil _ _ _).mono ?_
          rintro e w4 ⟨rfl, rfl⟩
          go_wp2
          go_ret2
          exact ⟨_, by rw [HC.out]; rfl, by rw [HZ2.out, List.mergeSort_nil]; exact HNX0.out.rebase HB3.out.size, HBK.out⟩
        · obtain ⟨q, cap, rfl, hq, hql⟩ := HNX.out.block hne0
          obtain ⟨m, hm⟩ : ∃ m, fs.length = m := ⟨_, rfl⟩
          have hown := HNX.out
          rw [hm] at hown hl
          simp only [hm]
          have HOWN := Lib.hid hown
          clear hown hne0 hfs hm
          go_wp2_with fail
          refine (sort_own HOWN.out (by omega)).mono ?_
          rintro e w4 ⟨rfl, ho4, hg4⟩
          have HB4 := Lib.hid (HB3.out.trans ((HBJ.out.trans (Below.grownI hg4 HBJ.out.size hq)).mono HB3.out.size))
          have HO4 := Lib.hid (ho4.rebase HB3.out.size)
          clear ho4 hg4
          go_wp2
          go_ret2
          exact ⟨_, by rw [HC.out]; rfl, by rw [HZ2.out]; exact HO4.out, HB4.out⟩
  · have hne : (nearC g.val cell != 0) = true := by simp [hc]
    have HA : Hid (nearA g.val cell = []) := by rw [Hid]; unfold nearA; rw [if_neg hc]
    clear hc
    go_wp2
    go_ret2
    exact ⟨_, rfl, by rw [HA.out]; exact OwnsL.nil_ _ _ _ _ _, HB.out⟩

end Go.Proofs.YtmldijckjenbcaaGreatDoor
