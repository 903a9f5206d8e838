/- ExposedWorth and ExposedAssets of the program and of the reference. -/
import Derived.Test.YtphapakhoibamaaGreatDoorBase
import Derived.Test.YtphapakhoibamaaGreatDoorMem
import Derived.Test.YtphapakhoibamaaGreatDoorTInt64
import Derived.Test.YtphapakhoibamaaGreatDoorWithin
import Derived.Test.YtphapakhoibamaaGreatDoorTGrid
import Derived.Test.YtphapakhoibamaaGreatDoorTAsset
import Derived.Test.YtphapakhoibamaaGreatDoorGrids
import Derived.Test.YtphapakhoibamaaGreatDoorAssets
import Derived.Test.YtphapakhoibamaaGreatDoorHits
namespace Go.Proofs.YtphapakhoibamaaGreatDoor
open Go.RowKit

def cellsG (g : Grid) (re : List Int) : Bool := cellsB 0 ((g.heights.length : Int) - 1) re
def exposeC (g : Grid) (xs : List Asset) (re : List Int) : Int := if assetsB g xs = false then 1 else if cellsG g re = false then 7 else 0
def exposedT (re : List Int) (xs : List Asset) (k : Nat) : List Int := ((List.range k).filter fun i => (xs[i]?).any (hitB re)).map Int.ofNat
def worthAt (xs : List Asset) (i : Int) : Int := match xs[i.toNat]? with | some x => x.worth | none => 0
def worthT (re : List Int) (xs : List Asset) (k : Nat) : Int := ((exposedT re xs k).map (worthAt xs)).sum
section
variable {re : List Int} {xs : List Asset} {k : Nat} {x : Asset}
theorem exposedT_hit (hx : xs[k]? = some x) (h : hitB re x = true) : exposedT re xs (k + 1) = exposedT re xs k ++ [(k : Int)] := by
  unfold exposedT; rw [List.range_succ, List.filter_append, List.map_append]; simp [hx, h]
theorem exposedT_no (hx : xs[k]? = some x) (h : hitB re x = false) : exposedT re xs (k + 1) = exposedT re xs k := by
  unfold exposedT; rw [List.range_succ, List.filter_append, List.map_append]; simp [hx, h]
theorem exposedT_len (re : List Int) (xs : List Asset) (k : Nat) : (exposedT re xs k).length ≤ k := by
  unfold exposedT; rw [List.length_map]; exact Nat.le_trans (List.length_filter_le _ _) (by simp)
theorem exposedT_mem {i : Int} (h : i ∈ exposedT re xs k) : ∃ (j : Nat) (x : Asset), i = j ∧ j < k ∧ xs[j]? = some x := by
  unfold exposedT at h
  obtain ⟨j, hj, rfl⟩ := List.mem_map.1 h
  rw [List.mem_filter, List.mem_range] at hj
  obtain ⟨h1, h2⟩ := hj
  cases hx : xs[j]? with
  | none => rw [hx] at h2; cases h2
  | some x => exact ⟨j, x, rfl, h1, hx⟩
theorem worthT_hit (hx : xs[k]? = some x) (h : hitB re x = true) : worthT re xs (k + 1) = worthT re xs k + x.worth := by
  unfold worthT; rw [exposedT_hit hx h]; simp [worthAt, hx]
theorem worthT_no (hx : xs[k]? = some x) (h : hitB re x = false) : worthT re xs (k + 1) = worthT re xs k := by
  unfold worthT; rw [exposedT_no hx h]
theorem mapsum_step {f : Int → Int} {L : List Int} {i : Int} (h : L[k]? = some i) : ((L.take (k + 1)).map f).sum = ((L.take k).map f).sum + f i := by
  rw [List.take_succ_eq_append_getElem (List.getElem?_eq_some_iff.1 h).1, (List.getElem?_eq_some_iff.1 h).2]; simp
end
theorem exposeC_zero {g : Grid} {xs : List Asset} {re : List Int} (h : exposeC g xs re = 0) : assetsB g xs = true := by
  unfold exposeC at h
  cases hv : assetsB g xs
  · rw [if_pos hv] at h; cases h
  · rfl
theorem assetsB_worth {g : Grid} {xs : List Asset} (h : assetsB g xs = true) : ∀ x ∈ xs, 0 ≤ x.worth ∧ x.worth ≤ 1000000 := by
  intro x hx
  obtain ⟨k, hk⟩ := List.mem_iff_getElem?.1 hx
  exact (fitsB_parts (assetsB_fits h hk)).2.2.2

set_option maxHeartbeats 1000000 in
theorem hasCells_any (g : GridR) (B : Option Addr) (m d : Nat) (re : List Int) (w : World) (hgi : g.In w) (hr : SliceOf w 1 i64cells B m re) :
    Calls Tryz.prog 57 #[.agg #[.int .i64 g.rows, .int .i64 g.columns, .int .i64 g.size, .slice g.heightsA g.heightsN g.heightsC], .slice B m d] w (Ret (.bool (cellsG g.val re)) w) := by
  have HGl := Lib.hid hgi.1.len
  have hgn := hgi.1.le
  have hB : Below w.heap.size w (w.alloc (.cells #[.int .i64 g.rows, .int .i64 g.columns, .int .i64 g.size, .slice g.heightsA g.heightsN g.heightsC] 26)) := (Below.refl _ _).alloc (Nat.le_refl _) _
  have HO := Lib.hid (Own.new w 26 #[.int .i64 g.rows, .int .i64 g.columns, .int .i64 g.size, .slice g.heightsA g.heightsN g.heightsC])
  have HB := Lib.hid hB
  have hr' := hr.below hB
  clear hgi hB hr
  have HE : Hid (cellsG g.val re = (risesB re && re.all fun y => inB y 0 ((g.heightsN : Int) - 1))) := by
    rw [Hid]; unfold cellsG; rw [cellsB_eq, show g.val.heights.length = g.heightsN from HGl.out]
  go_enter Tryz.func57, Tryz.ntmps57
  go_wp2_with fail
  refine (increasing_any _ _ _ re _ hr').mono ?_
  rintro e w1 ⟨rfl, hb1⟩
  have y3 : w1.cell? ⟨w.heap.size, 3, none⟩ = some (.slice g.heightsA g.heightsN g.heightsC) := (hb1.cell (p := ⟨w.heap.size, 3, none⟩) (by simp)).trans (HO.out.cell 3)
  cases hc : risesB re
  · have HF : Hid (cellsG g.val re = false) := by rw [Hid, HE.out, hc]; rfl
    go_wp2
    go_ret
    exact Ret.b HF.out.symm (HB.out.trans (hb1.mono HB.out.size))
  · have HF : Hid (cellsG g.val re = re.all fun y => inB y 0 ((g.heightsN : Int) - 1)) := by rw [Hid, HE.out, hc]; rfl
    go_wp2_with fail
    refine (allWithin_any 0 ((g.heightsN : Int) - 1) _ _ _ re _ (hr'.below hb1)).mono ?_
    rintro e w2 ⟨rfl, hb2⟩
    go_wp2
    go_ret
    exact Ret.b HF.out.symm (HB.out.trans ((hb1.trans (hb2.mono hb1.size)).mono HB.out.size))
set_option maxHeartbeats 1000000 in
theorem assetsCode_any (g : GridR) (A : Option Addr) (n c : Nat) (xs : List Asset) (B : Option Addr) (m d : Nat) (re : List Int) (w : World) (hgi : g.In w) (hx : Asset.Sl w A n xs) (hg : ∀ x ∈ xs, x.Good) (hr : SliceOf w 1 i64cells B m re) :
    Calls Tryz.prog 29 #[.agg #[.int .i64 g.rows, .int .i64 g.columns, .int .i64 g.size, .slice g.heightsA g.heightsN g.heightsC], .slice A n c, .slice B m d] w (Ret (.int .i64 (exposeC g.val xs re)) w) := by
  have hB : Below w.heap.size w (w.alloc (.cells #[.int .i64 g.rows, .int .i64 g.columns, .int .i64 g.size, .slice g.heightsA g.heightsN g.heightsC] 26)) := (Below.refl _ _).alloc (Nat.le_refl _) _
  have HO := Lib.hid (Own.new w 26 #[.int .i64 g.rows, .int .i64 g.columns, .int .i64 g.size, .slice g.heightsA g.heightsN g.heightsC])
  have HB := Lib.hid hB
  have HI := Lib.hid (hgi.below hB)
  have hr' := hr.below hB
  have hx' := hx.below hB
  clear hgi hB hr hx
  go_enter Tryz.func29, Tryz.ntmps29
  go_wp2_with fail
  refine (implValidAssets_any g _ _ _ xs _ HI.out hx' hg).mono ?_
  rintro e w1 ⟨rfl, hb1⟩
  cases hv : assetsB g.val xs
  · have HF : Hid (exposeC g.val xs re = 1) := by rw [Hid]; unfold exposeC; rw [if_pos hv]
    go_wp2
    go_ret
    exact Ret.i HF.out.symm (HB.out.trans (hb1.mono HB.out.size))
  · have y0 : w1.cell? ⟨w.heap.size, 0, none⟩ = some (.int .i64 g.rows) := (hb1.cell (p := ⟨w.heap.size, 0, none⟩) (by simp)).trans (HO.out.cell 0)
    have y1 : w1.cell? ⟨w.heap.size, 1, none⟩ = some (.int .i64 g.columns) := (hb1.cell (p := ⟨w.heap.size, 1, none⟩) (by simp)).trans (HO.out.cell 1)
    have y2 : w1.cell? ⟨w.heap.size, 2, none⟩ = some (.int .i64 g.size) := (hb1.cell (p := ⟨w.heap.size, 2, none⟩) (by simp)).trans (HO.out.cell 2)
    have y3 : w1.cell? ⟨w.heap.size, 3, none⟩ = some (.slice g.heightsA g.heightsN g.heightsC) := (hb1.cell (p := ⟨w.heap.size, 3, none⟩) (by simp)).trans (HO.out.cell 3)
    go_wp2_with fail
    refine (hasCells_any g _ _ _ re _ (HI.out.below hb1) (hr'.below hb1)).mono ?_
    rintro e w2 ⟨rfl, hb2⟩
    clear y0 y1 y2 y3
    cases hc : cellsG g.val re
    · have HF : Hid (exposeC g.val xs re = 7) := by rw [Hid]; unfold exposeC; rw [if_neg (by rw [hv]; simp), if_pos hc]
      go_wp2
      go_ret
      exact Ret.i HF.out.symm (HB.out.trans ((hb1.trans (hb2.mono hb1.size)).mono HB.out.size))
    · have HF : Hid (exposeC g.val xs re = 0) := by rw [Hid]; unfold exposeC; rw [if_neg (by rw [hv]; simp), if_neg (by rw [hc]; simp)]
      go_wp2
      go_ret
      exact Ret.i HF.out.symm (HB.out.trans ((hb1.trans (hb2.mono hb1.size)).mono HB.out.size))
set_option maxHeartbeats 1000000 in
theorem worthOf_any (A : Option Addr) (n c : Nat) (xs : List Asset) (B : Option Addr) (m d : Nat) (re : List Int) (w : World) (hx : Asset.Sl w A n xs) (hr : SliceOf w 1 i64cells B m re) (hw : ∀ x ∈ xs, 0 ≤ x.worth ∧ x.worth ≤ 1000000) (hn12 : n ≤ 12) :
    Calls Tryz.prog 31 #[.slice A n c, .slice B m d] w (Ret (.int .i64 (worthT re xs n)) w) := by
  have HR := Lib.hid hr
  clear hr
  go_enter Tryz.func31, Tryz.ntmps31
  go_wp2
  go_loopg [5, 10] n (fun gk s i wr => ∃ (k : Nat) (q : Int), k ≤ n ∧ gk = n - k ∧ i = .int .i64 k ∧ s = .int .i64 q ∧ q = worthT re xs k ∧ 0 ≤ q ∧ q ≤ 1000000 * k ∧ Below w.heap.size w wr)
  case atStart => exact ⟨0, 0, Nat.zero_le _, rfl, rfl, rfl, rfl, by omega, by omega, Below.refl _ _⟩
  case round =>
    obtain ⟨k, q, hk, hgk, rfl, rfl, hq, hq0, hq1, hb⟩ := hrel
    have Hq := Lib.hid hq
    have Hgk := Lib.hid hgk
    clear hq hgk
    by_cases hlt : k < n
    · obtain ⟨b1, o1, x, rfl, hb1, hxk, hix, x0, x1, x2⟩ := (hx.below hb).at_ hlt
      have hbnd := hw x.val (List.mem_of_getElem? hxk)
      have Hx := Lib.hid hxk
      obtain ⟨hbnd0, hbnd1⟩ : 0 ≤ x.worth ∧ x.worth ≤ 1000000 := hbnd
      have hB1 : Below wr.heap.size wr (wr.alloc (.cells #[.string x.id, .slice x.spotsA x.spotsN x.spotsC, .int .i64 x.worth] 45)) := (Below.refl _ _).alloc (Nat.le_refl _) _
      have HO := Lib.hid (Own.new wr 45 #[.string x.id, .slice x.spotsA x.spotsN x.spotsC, .int .i64 x.worth])
      have HB1 := Lib.hid hB1
      have HI := Lib.hid (hix.below hB1)
      clear hxk hB1 hix
      cases hh : hitB re x.val
      · have HH := Lib.hid hh
        go_wp2_with fail
        refine (exposed_any x _ _ _ re _ HI.out ((HR.out.below hb).below HB1.out)).mono ?_
        rintro e w2 ⟨rfl, hb2⟩
        rw [HH.out]
        have hbw := hb.trans ((HB1.out.trans (hb2.mono HB1.out.size)).mono hb.size)
        clear x0 x1 x2
        go_wp2
        go_roundg (n - (k + 1))
        case measure => have := Hgk.out; omega
        case rel => exact ⟨k + 1, q, by omega, rfl, by go_num, rfl, by rw [worthT_no Hx.out HH.out, Hq.out], by omega, by omega, hbw⟩
      · have HH := Lib.hid hh
        go_wp2_with fail
        refine (exposed_any x _ _ _ re _ HI.out ((HR.out.below hb).below HB1.out)).mono ?_
        rintro e w2 ⟨rfl, hb2⟩
        rw [HH.out]
        have hbw := hb.trans ((HB1.out.trans (hb2.mono HB1.out.size)).mono hb.size)
        have y2 : w2.cell? ⟨wr.heap.size, 2, none⟩ = some (.int .i64 x.worth) := (hb2.cell (p := ⟨wr.heap.size, 2, none⟩) (by simp)).trans (HO.out.cell 2)
        clear x0 x1 x2
        go_wp2
        go_roundg (n - (k + 1))
        case measure => have := Hgk.out; omega
        case rel => exact ⟨k + 1, q + x.worth, by omega, rfl, by go_num, by first | rfl | go_num, by rw [worthT_hit Hx.out HH.out, Hq.out]; rfl, by omega, by omega, hbw⟩
    · have hkn : k = n := by omega
      subst hkn
      go_wp2
      go_ret
      exact Ret.i Hq.out hb

end Go.Proofs.YtphapakhoibamaaGreatDoor
