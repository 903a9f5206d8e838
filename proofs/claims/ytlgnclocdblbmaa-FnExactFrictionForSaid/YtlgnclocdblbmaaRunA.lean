/- RunMass on both sides. -/
import Derived.Test.YtlgnclocdblbmaaBase
import Derived.Test.YtlgnclocdblbmaaMem
import Derived.Test.YtlgnclocdblbmaaTInt64
import Derived.Test.YtlgnclocdblbmaaWithin
import Derived.Test.YtlgnclocdblbmaaTGrid
import Derived.Test.YtlgnclocdblbmaaGrids
import Derived.Test.YtlgnclocdblbmaaWays
import Derived.Test.YtlgnclocdblbmaaSpecGo
import Derived.Test.YtlgnclocdblbmaaPush2
import Derived.Test.YtlgnclocdblbmaaSpecWays
import Derived.Test.YtlgnclocdblbmaaRunCode
import Derived.Test.YtlgnclocdblbmaaRunCode2
import Derived.Test.YtlgnclocdblbmaaRunP
import Derived.Test.YtlgnclocdblbmaaRunQ
import Derived.Test.YtlgnclocdblbmaaArr
import Derived.Test.YtlgnclocdblbmaaRunL
import Derived.Test.YtlgnclocdblbmaaSpecStep
import Derived.Test.YtlgnclocdblbmaaImplRoute
import Derived.Test.YtlgnclocdblbmaaArr2
import Derived.Test.YtlgnclocdblbmaaSpecRun
import Derived.Test.YtlgnclocdblbmaaImplRun
namespace Go.Proofs.Ytlgnclocdblbmaa
open Go.RowKit

theorem sum_le_mul {m : Int} : ∀ (l : List Int), (∀ x ∈ l, x ≤ m) → l.sum ≤ m * l.length
  | [], _ => by simp
  | x :: l, h => by
    have h1 := sum_le_mul l (fun y hy => h y (by simp [hy]))
    have h2 := h x (by simp)
    rw [List.sum_cons, List.length_cons, Int.natCast_add, Int.mul_add]
    omega
/-- What a run may count on. -/
structure RunOk (g : Grid) (ms : List Int) (fr : Int) : Prop where
  grid : gridB g = true
  f1 : 1 ≤ fr
  f2 : fr ≤ 5000
  len : ms.length = g.heights.length
  pos : ∀ x ∈ ms, 0 ≤ x
  sum : ms.sum ≤ 64000000
theorem massB_parts {g : Grid} {ms : List Int} (hg : gridB g = true) (h : massB g ms = true) : ms.length = g.heights.length ∧ (∀ x ∈ ms, 0 ≤ x ∧ x ≤ 1000000) ∧ ms.sum ≤ 64000000 := by
  unfold massB at h
  rw [Bool.and_eq_true, decide_eq_true_eq, List.all_eq_true] at h
  have hb : ∀ x ∈ ms, 0 ≤ x ∧ x ≤ 1000000 := fun x hx => inB_iff.1 (h.2 x hx)
  have hp := gridB_parts hg
  have hm := (mul_i64 hp.1 hp.2.1).2.2
  have hs := sum_le_mul ms (fun x hx => (hb x hx).2)
  have hl : (ms.length : Int) ≤ 64 := by rw [h.1, hp.2.2.2.1]; exact hm
  refine ⟨h.1, hb, ?_⟩
  omega
theorem runC_zero {g : Grid} {ms : List Int} {fr : Int} (h : runC g ms fr = 0) : RunOk g ms fr := by
  unfold runC at h
  cases h1 : gridB g <;> cases h2 : inB fr 1 5000 <;> cases h3 : massB g ms <;> simp [h1, h2, h3] at h
  have hf := inB_iff.1 h2
  have hm := massB_parts h1 h3
  exact ⟨h1, hf.1, hf.2, hm.1, fun x hx => (hm.2.1 x hx).1, hm.2.2⟩
def massR (g : Grid) (ms : List Int) (fr : Int) : List Int := if runC g ms fr = 0 then (stT g fr ms (runN g fr ms)).settled else []
def massN (g : Grid) (ms : List Int) (fr : Int) : Int := if runC g ms fr = 0 then (runN g fr ms : Int) else 0
theorem massR_len (g : Grid) (ms : List Int) (fr : Int) : (massR g ms fr).length ≤ 1048576 := by
  unfold massR
  by_cases h : runC g ms fr = 0
  · rw [if_pos h]
    have hk := runC_zero h
    rw [(stT_ok (fr := fr) hk.grid hk.len hk.f1 hk.pos _).l2, hk.len]
    have hp := gridB_parts hk.grid
    have hm := (mul_i64 hp.1 hp.2.1).2.2
    have := hp.2.2.2.1
    omega
  · rw [if_neg h]; simp
set_option maxHeartbeats 1000000 in
theorem specRunMass_any (g : GridR) (B : Option Addr) (n d : Nat) (ms : List Int) (fr : Int) (w : World) (hgi : g.In w) (hr : SliceOf w 1 i64cells B n ms) :
    Calls Try.prog 31 #[.agg #[.int .i64 g.rows, .int .i64 g.columns, .int .i64 g.size, .slice g.heightsA g.heightsN g.heightsC], .slice B n d, .int .i64 fr] w (RetLT 2 1 i64cells (massR g.val ms fr) [.int .i64 (massN g.val ms fr), .int .i64 (runC g.val ms fr)] w) := by
  have hB : Below w.heap.size w (w.alloc (.cells #[.int .i64 g.rows, .int .i64 g.columns, .int .i64 g.size, .slice g.heightsA g.heightsN g.heightsC] 29)) := (Below.refl _ _).alloc (Nat.le_refl _) _
  have HO := Lib.hid (Own.new w 29 #[.int .i64 g.rows, .int .i64 g.columns, .int .i64 g.size, .slice g.heightsA g.heightsN g.heightsC])
  have HB := Lib.hid hB
  have HI := Lib.hid (hgi.below hB)
  have HR := Lib.hid (hr.below hB)
  have HLn := Lib.hid hr.len
  have HGl : Hid (g.val.heights.length = g.heightsN) := hgi.1.len
  clear hgi hB hr
  by_cases hc : runC g.val ms fr = 0
  · have HC := Lib.hid hc
    have hne : (runC g.val ms fr != 0) = false := by simp [hc]
    have HK := Lib.hid (runC_zero hc)
    have HR1 : Hid (massR g.val ms fr = (stT g.val fr ms (runN g.val fr ms)).settled) := by rw [Hid]; unfold massR; rw [if_pos hc]
    have HR2 : Hid (massN g.val ms fr = (runN g.val fr ms : Int)) := by rw [Hid]; unfold massN; rw [if_pos hc]
    clear hc
    go_enter Try.func31, Try.ntmps31
    go_wp2_with fail
    refine (l13Ask_any g w.heap.size 0 _ _ _  ms fr _ HI.out HR.out (by simp) (HO.out.cell 0) (HO.out.cell 1) (HO.out.cell 2) (HO.out.cell 3)).mono ?_
    rintro e w1 ⟨rfl, hb1⟩
    have hO1 := Lib.hid (HO.out.below' hb1)
    have hI1 := Lib.hid (HI.out.below hb1)
    have hR1 := Lib.hid (HR.out.below hb1)
    have hB1 := Lib.hid (HB.out.trans (hb1.mono HB.out.size))
    clear hb1
    go_wp2_with fail
    refine (l13Run_any g w.heap.size 0 _ n d ms fr _ hI1.out HK.out.grid hR1.out (by rw [← HLn.out, HK.out.len, HGl.out]) HK.out.f1 HK.out.pos HK.out.sum hO1.out.lt (hO1.out.cell 0) (hO1.out.cell 1) (hO1.out.cell 2) (hO1.out.cell 3)).mono ?_
    rintro e w2 ⟨u, v, rfl, hu, hv, hb2⟩
    have HU := Lib.hid hu
    have HB2 := Lib.hid (hB1.out.trans (hb2.mono hB1.out.size))
    have HLE := Lib.hid hB1.out.size
    clear hu hv hb2
    go_wp2
    go_ret3
    exact ⟨_, by rw [HR2.out, HC.out]; rfl, by rw [HR1.out]; exact HU.out.rebase HLE.out, HB2.out⟩
  · have HC := Lib.hid hc
    have hne : (runC g.val ms fr != 0) = true := by simp [hc]
    have HR1 : Hid (massR g.val ms fr = []) := by rw [Hid]; unfold massR; rw [if_neg hc]
    have HR2 : Hid (massN g.val ms fr = 0) := by rw [Hid]; unfold massN; rw [if_neg hc]
    clear hc
    go_enter Try.func31, Try.ntmps31
    go_wp2_with fail
    refine (l13Ask_any g w.heap.size 0 _ _ _ ms fr _ HI.out HR.out (by simp) (HO.out.cell 0) (HO.out.cell 1) (HO.out.cell 2) (HO.out.cell 3)).mono ?_
    rintro e w1 ⟨rfl, hb1⟩
    have hB1 := Lib.hid (HB.out.trans (hb1.mono HB.out.size))
    clear hb1
    go_wp2
    go_ret3
    exact ⟨_, by rw [HR2.out]; rfl, by rw [HR1.out]; exact OwnsL.nil_ _ _ _ _ _, hB1.out⟩
set_option maxHeartbeats 1000000 in
theorem implRunMass_any (g : GridR) (B : Option Addr) (n d : Nat) (ms : List Int) (fr : Int) (w : World) (hgi : g.In w) (hr : SliceOf w 1 i64cells B n ms) :
    Calls Try.prog 32 #[.agg #[.int .i64 g.rows, .int .i64 g.columns, .int .i64 g.size, .slice g.heightsA g.heightsN g.heightsC], .slice B n d, .int .i64 fr] w (RetLT 2 1 i64cells (massR g.val ms fr) [.int .i64 (massN g.val ms fr), .int .i64 (runC g.val ms fr)] w) := by
  have hB : Below w.heap.size w (w.alloc (.cells #[.int .i64 g.rows, .int .i64 g.columns, .int .i64 g.size, .slice g.heightsA g.heightsN g.heightsC] 29)) := (Below.refl _ _).alloc (Nat.le_refl _) _
  have HO := Lib.hid (Own.new w 29 #[.int .i64 g.rows, .int .i64 g.columns, .int .i64 g.size, .slice g.heightsA g.heightsN g.heightsC])
  have HB := Lib.hid hB
  have HI := Lib.hid (hgi.below hB)
  have HR := Lib.hid (hr.below hB)
  have HLn := Lib.hid hr.len
  have HGl : Hid (g.val.heights.length = g.heightsN) := hgi.1.len
  clear hgi hB hr
  by_cases hc : runC g.val ms fr = 0
  · have HC := Lib.hid hc
    have hne : (runC g.val ms fr != 0) = false := by simp [hc]
    have HK := Lib.hid (runC_zero hc)
    have HR1 : Hid (massR g.val ms fr = (stT g.val fr ms (runN g.val fr ms)).settled) := by rw [Hid]; unfold massR; rw [if_pos hc]
    have HR2 : Hid (massN g.val ms fr = (runN g.val fr ms : Int)) := by rw [Hid]; unfold massN; rw [if_pos hc]
    clear hc
    go_enter Try.func32, Try.ntmps32
    go_wp2_with fail
    refine (routeCode_any g _ _ _ ms fr _ _ _ [] _ HI.out HR.out SliceOf.nil_).mono ?_
    rintro e w1 ⟨rfl, hb1⟩
    rw [runCx_nil]
    have hO1 := Lib.hid (HO.out.below' hb1)
    have hI1 := Lib.hid (HI.out.below hb1)
    have hR1 := Lib.hid (HR.out.below hb1)
    have hB1 := Lib.hid (HB.out.trans (hb1.mono HB.out.size))
    have y0 : w1.cell? ⟨w.heap.size, 0, none⟩ = some (.int .i64 g.rows) := hO1.out.cell 0
    have y1 : w1.cell? ⟨w.heap.size, 1, none⟩ = some (.int .i64 g.columns) := hO1.out.cell 1
    have y2 : w1.cell? ⟨w.heap.size, 2, none⟩ = some (.int .i64 g.size) := hO1.out.cell 2
    have y3 : w1.cell? ⟨w.heap.size, 3, none⟩ = some (.slice g.heightsA g.heightsN g.heightsC) := hO1.out.cell 3
    clear hb1
    go_wp2_with fail
    refine (run_any g _ n d ms fr _ hI1.out HK.out.grid hR1.out (by rw [← HLn.out, HK.out.len, HGl.out]) HK.out.f1 HK.out.pos HK.out.sum).mono ?_
    rintro e w2 ⟨u, v, rfl, hu, hv, hb2⟩
    obtain ⟨S, hS⟩ : ∃ S, (stT g.val fr ms (runN g.val fr ms)).settled = S := ⟨_, rfl⟩
    obtain ⟨T, hT⟩ : ∃ T, (stT g.val fr ms (runN g.val fr ms)).times = T := ⟨_, rfl⟩
    rw [hS] at hu HR1
    rw [hT] at hv
    clear hS hT
    obtain ⟨AU, cU, rfl, _, _, _⟩ := hu.slice i64cells_len
    obtain ⟨AV, cV, rfl, _, _, _⟩ := hv.slice i64cells_len
    have HU := Lib.hid hu
    have HB2 := Lib.hid (hB1.out.trans (hb2.mono hB1.out.size))
    have HLE := Lib.hid hB1.out.size
    clear hu hv hb2 y0 y1 y2 y3
    go_wp2_with fail
    obtain ⟨wa, hwa⟩ : ∃ wa, w2.alloc (.cells #[.slice AU S.length cU, .int .i64 (runN g.val fr ms), .slice AV T.length cV] 83) = wa := ⟨_, rfl⟩
    have hBa : Below w2.heap.size w2 wa := by rw [← hwa]; exact (Below.refl _ _).alloc (Nat.le_refl _) _
    have hOa : Own wa w2.heap.size 83 #[.slice AU S.length cU, .int .i64 (runN g.val fr ms), .slice AV T.length cV] := by rw [← hwa]; exact Own.new _ _ _
    rw [hwa]
    clear hwa
    have HUA := Lib.hid (HU.out.below' hBa)
    have HBA := Lib.hid (HB2.out.trans (hBa.mono HB2.out.size))
    have x0 : wa.cell? ⟨w2.heap.size, 0, none⟩ = some (.slice AU S.length cU) := hOa.cell 0
    have x1 : wa.cell? ⟨w2.heap.size, 1, none⟩ = some (.int .i64 (runN g.val fr ms)) := hOa.cell 1
    have hlt := hOa.lt
    have hsub := fun (g : Sub wa) b o (h : b < wa.heap.size) => g.cell b o h
    clear hOa hBa
    refine wp_region_sub (by kernel_rfl) (by kernel_rfl) ?_
    repeat (go_big_quiet_step (fail))
    refine wpQuiet_nil ?_
    intro wg hg
    have HUG := Lib.hid (HUA.out.below' hg)
    have HBG := Lib.hid (HBA.out.trans (hg.mono HBA.out.size))
    clear hsub x0 x1 hlt hg
    go_wp2
    go_ret3
    exact ⟨_, by rw [HR2.out, HC.out]; rfl, by rw [HR1.out]; exact HUG.out.rebase HLE.out, HBG.out⟩
  · have HC := Lib.hid hc
    have hne : (runC g.val ms fr != 0) = true := by simp [hc]
    have HR1 : Hid (massR g.val ms fr = []) := by rw [Hid]; unfold massR; rw [if_neg hc]
    have HR2 : Hid (massN g.val ms fr = 0) := by rw [Hid]; unfold massN; rw [if_neg hc]
    clear hc
    go_enter Try.func32, Try.ntmps32
    go_wp2_with fail
    refine (routeCode_any g _ _ _ ms fr _ _ _ [] _ HI.out HR.out SliceOf.nil_).mono ?_
    rintro e w1 ⟨rfl, hb1⟩
    rw [runCx_nil]
    have hB1 := Lib.hid (HB.out.trans (hb1.mono HB.out.size))
    clear hb1
    go_wp2
    go_ret3
    exact ⟨_, by rw [HR2.out]; rfl, by rw [HR1.out]; exact OwnsL.nil_ _ _ _ _ _, hB1.out⟩

end Go.Proofs.Ytlgnclocdblbmaa
