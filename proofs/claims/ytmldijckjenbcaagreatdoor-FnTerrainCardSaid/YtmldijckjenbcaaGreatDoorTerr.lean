/- Slopes, the steepest step, aspects and curvatures of the program, where the grid and the cells are valid. -/
import Derived.Test.YtmldijckjenbcaaGreatDoorTerrP
import Derived.Test.YtmldijckjenbcaaGreatDoorBoxK
import Derived.Test.YtmldijckjenbcaaGreatDoorRunCode
import Derived.Deep.RegionHeld3
import Derived.BigQuiet
namespace Go.Proofs.YtmldijckjenbcaaGreatDoor
open Go.RowKit

theorem stp_at {w : World} {A : Option Addr} {n : Nat} {xs : List Stp} (h : SliceOf w 3 Stp.cells A n xs) {k : Nat} (hk : k < n) :
    ∃ b off x, A = some ⟨b, off, none⟩ ∧ b < w.heap.size ∧ xs[k]? = some x ∧ w.cell? ⟨b, off + k * 3, none⟩ = some (.int .i64 x.cell) ∧ w.cell? ⟨b, off + k * 3 + 1, none⟩ = some (.int .i64 x.dir) ∧ w.cell? ⟨b, off + k * 3 + 2, none⟩ = some (.int .i64 x.slope) := by
  obtain ⟨b, off, x, hA, hb, hx, hc⟩ := h.at_ hk
  exact ⟨b, off, x, hA, hb, hx, hc 0 _ rfl, hc 1 _ rfl, hc 2 _ rfl⟩
theorem stp3_heap (w : World) (bb : Nat) (u v x : Value) (k : Nat) (h : k ≠ bb) : (((w.setCell ⟨bb, 0, none⟩ u).setCell ⟨bb, 1, none⟩ v).setCell ⟨bb, 2, none⟩ x).heap[k]? = w.heap[k]? :=
  (Below.heap_setCell _ ⟨bb, 2, none⟩ x k h).trans ((Below.heap_setCell _ ⟨bb, 1, none⟩ v k h).trans (Below.heap_setCell _ ⟨bb, 0, none⟩ u k h))
theorem Own.stp3 {w : World} {bb : Nat} {T : TypeId} (bx : Stp) (a b c : Int) (h : Own w bb T bx.cells.toArray) : Own (((w.setCell ⟨bb, 0, none⟩ (.int .i64 a)).setCell ⟨bb, 1, none⟩ (.int .i64 b)).setCell ⟨bb, 2, none⟩ (.int .i64 c)) bb T (Stp.cells ⟨a, b, c⟩).toArray := by
  simpa [Stp.cells] using (((h.put 0 (.int .i64 a)).put 1 (.int .i64 b)).put 2 (.int .i64 c))
theorem find_at {α : Type} {p : α → Bool} : ∀ {L : List α} {k : Nat} {y : α}, (∀ (j : Nat) (z : α), j < k → L[j]? = some z → p z = false) → L[k]? = some y → p y = true → L.find? p = some y
  | [], k, y, _, hy, _ => by simp at hy
  | a :: L, 0, y, _, hy, hp => by
    simp at hy
    subst hy
    rw [List.find?_cons, hp]
  | a :: L, k + 1, y, h, hy, hp => by
    have h0 := h 0 a (by omega) rfl
    rw [List.find?_cons, h0]
    exact find_at (fun j z hj hz => h (j + 1) z (by omega) hz) hy hp
theorem find_no {α : Type} {p : α → Bool} {L : List α} {n : Nat} (hn : L.length ≤ n) (h : ∀ (j : Nat) (z : α), j < n → L[j]? = some z → p z = false) : L.find? p = none := by
  rw [List.find?_eq_none]
  intro z hz
  obtain ⟨j, hj⟩ := List.mem_iff_getElem?.1 hz
  have := (List.getElem?_eq_some_iff.1 hj).1
  rw [h j z (by omega) hj]; simp
set_option maxRecDepth 100000 in
set_option maxHeartbeats 1000000 in
theorem slopeTo_ok (g : GridR) (a b : Nat) (x : Stp) (w : World) (hgi : g.In w) (hgb : gridB g.val = true) (ha : a < g.heightsN) (hb : b < g.heightsN) (hx : (nextT g.val a 8).find? (toF b) = some x) :
    Calls Tryz.prog 18 #[.agg #[.int .i64 g.rows, .int .i64 g.columns, .int .i64 g.size, .slice g.heightsA g.heightsN g.heightsC], .int .i64 a, .int .i64 b] w (Ret (.tuple #[.int .i64 x.slope, .int .i64 0]) w) := by
  have HX := Lib.hid hx
  have hB : Below w.heap.size w (w.alloc (.cells #[.int .i64 g.rows, .int .i64 g.columns, .int .i64 g.size, .slice g.heightsA g.heightsN g.heightsC] 26)) := (Below.refl _ _).alloc (Nat.le_refl _) _
  have HO0 : Hid (BoxD w.heap.size g (w.alloc (.cells #[.int .i64 g.rows, .int .i64 g.columns, .int .i64 g.size, .slice g.heightsA g.heightsN g.heightsC] 26))) := ⟨Own.new w 26 #[.int .i64 g.rows, .int .i64 g.columns, .int .i64 g.size, .slice g.heightsA g.heightsN g.heightsC], hgi.below hB⟩
  have HB0 := Lib.hid hB
  have HGl : Hid (g.val.heights.length = g.heightsN) := hgi.1.len
  have HGB := Lib.hid hgb
  have HCC : Hid (cellC g.val [(a : Int), (b : Int)] = 0) := by
    rw [Hid]; unfold cellC
    rw [if_neg (by rw [HGB.out]; simp), if_neg (by rw [HGl.out]; simp [inB]; omega)]
  have hgn := hgi.1.le
  clear hx
  clear hgi hB hgb
  go_enter Tryz.func18, Tryz.ntmps18
  go_wp2_with fail
  obtain ⟨w0, hw0⟩ : ∃ w0, (w.alloc (.cells #[.int .i64 g.rows, .int .i64 g.columns, .int .i64 g.size, .slice g.heightsA g.heightsN g.heightsC] 26)).alloc (.cells #[.int .i64 a, .int .i64 b] 2) = w0 := ⟨_, rfl⟩
  have hBq : Below (w.alloc (.cells #[.int .i64 g.rows, .int .i64 g.columns, .int .i64 g.size, .slice g.heightsA g.heightsN g.heightsC] 26)).heap.size (w.alloc (.cells #[.int .i64 g.rows, .int .i64 g.columns, .int .i64 g.size, .slice g.heightsA g.heightsN g.heightsC] 26)) w0 := by rw [← hw0]; exact (Below.refl _ _).alloc (Nat.le_refl _) _
  have hcs : SliceOf w0 1 i64cells (some ⟨w.heap.size + 1, 0, none⟩) 2 [(a : Int), (b : Int)] := by
    have h := sliceOf_new (w.alloc (.cells #[.int .i64 g.rows, .int .i64 g.columns, .int .i64 g.size, .slice g.heightsA g.heightsN g.heightsC] 26)) 2 [(a : Int), (b : Int)] (by simp)
    rw [show (w.alloc (.cells #[.int .i64 g.rows, .int .i64 g.columns, .int .i64 g.size, .slice g.heightsA g.heightsN g.heightsC] 26)).heap.size = w.heap.size + 1 by simp] at h
    rw [← hw0]
    exact h
  rw [hw0]
  have HO1 := Lib.hid (HO0.out.grow hBq)
  have HB1 := Lib.hid (HB0.out.trans (hBq.mono HB0.out.size))
  clear hBq hw0
  refine (gridCode_any g _ 2 2 [(a : Int), (b : Int)] _ HO1.out.gi hcs).mono ?_
  rintro e w1 ⟨rfl, hb1⟩
  rw [HCC.out]
  have HO := Lib.hid (HO1.out.grow hb1)
  have HB := Lib.hid (HB1.out.trans (hb1.mono HB1.out.size))
  clear hb1 hcs
  obtain ⟨y0, y1, y2, y3, ly⟩ := HO.out.cells
  go_wp2_with fail
  clear y0 y1 y2 y3 ly
  refine (next_any g a w1 HO.out.gi HGB.out ha).mono ?_
  rintro e w2 ⟨v, rfl, hown, hb2⟩
  obtain ⟨L, hL⟩ : ∃ L, nextT g.val a 8 = L := ⟨_, rfl⟩
  have HX2 : Hid (L.find? (toF b) = some x) := by rw [Hid, ← hL]; exact HX.out
  rw [hL] at hown
  obtain ⟨A, c, rfl, _, _, hsl⟩ := hown.slice Stp.cells_len
  obtain ⟨n, hn⟩ : ∃ n, L.length = n := ⟨_, rfl⟩
  have HLN := Lib.hid hn
  rw [hn] at hsl ⊢
  have HSL := Lib.hid hsl
  have hnl := hsl.le
  have HB2 := Lib.hid (HB.out.trans (hb2.mono HB.out.size))
  clear hown hb2 hL hn hsl
  go_wp2
  go_loopg [23] n (fun gk i wr => ∃ k : Nat, k ≤ n ∧ gk = n - k ∧ i = .int .i64 k ∧ (∀ (j : Nat) (z : Stp), j < k → L[j]? = some z → toF b z = false) ∧ Below w2.heap.size w2 wr)
  case atStart => exact ⟨0, Nat.zero_le _, rfl, rfl, fun j z hj => absurd hj (by omega), Below.refl _ _⟩
  case round =>
    obtain ⟨k, hk, hgk, rfl, hall, hbb⟩ := hrel
    have Hgk := Lib.hid hgk
    have HALL := Lib.hid hall
    have HBB := Lib.hid hbb
    clear hgk hall hbb
    by_cases hlt : k < n
    · obtain ⟨b1, o1, z, rfl, hb1, hzk, x0, x1, x2⟩ := stp_at (HSL.out.below HBB.out) hlt
      have HZK := Lib.hid hzk
      obtain ⟨w3, hw3⟩ : ∃ w3, wr.alloc (.cells #[.int .i64 z.cell, .int .i64 z.dir, .int .i64 z.slope] 56) = w3 := ⟨_, rfl⟩
      obtain ⟨Z, hZ⟩ : ∃ Z, wr.heap.size = Z := ⟨_, rfl⟩
      have HZ3 : Hid (Own w3 Z 56 #[.int .i64 z.cell, .int .i64 z.dir, .int .i64 z.slope]) := by rw [Hid, ← hw3, ← hZ]; exact Own.new _ _ _
      have HBr : Hid (Below w2.heap.size w2 w3) := by rw [Hid, ← hw3]; exact HBB.out.alloc HBB.out.size _
      have z0 := HZ3.out.cell 0
      have z2 := HZ3.out.cell 2
      simp at z0 z2
      have lz := HZ3.out.lt
      clear hzk
      by_cases hh : z.cell = (b : Int)
      · have hq : (z.cell == (b : Int)) = true := by simp [hh]
        have HP : Hid (toF b z = true) := decide_eq_true hh
        have HE : Hid (z = x) := by
          have h := find_at HALL.out HZK.out HP.out
          rw [HX2.out] at h
          injection h with h
          exact h.symm
        clear hh
        go_wp2
        try rw [hw3, hZ]
        go_ret2
        exact Ret.ii (by rw [HE.out]) rfl (HB2.out.trans (HBr.out.mono HB2.out.size))
      · have hq : (z.cell == (b : Int)) = false := by rw [beq_eq_false_iff_ne]; exact hh
        have HP : Hid (toF b z = false) := decide_eq_false hh
        clear hh
        go_wp2
        go_roundg (n - (k + 1))
        case measure => have := Hgk.out; omega
        case rel => exact ⟨k + 1, by omega, rfl, by go_num, fun j y hj hy => by
          by_cases e : j = k
          · subst e; rw [HZK.out] at hy; injection hy with hy; rw [← hy]; exact HP.out
          · exact HALL.out j y (by omega) hy, by first | exact HBr.out | (rw [hw3]; exact HBr.out)⟩
    · exact absurd (find_no (n := k) (by rw [HLN.out]; omega) HALL.out) (by rw [HX2.out]; simp)

end Go.Proofs.YtmldijckjenbcaaGreatDoor
