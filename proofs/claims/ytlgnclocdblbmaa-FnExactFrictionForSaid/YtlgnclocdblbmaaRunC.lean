/- ReachedBy on both sides. -/
import Derived.Test.YtlgnclocdblbmaaRunB
namespace Go.Proofs.Ytlgnclocdblbmaa
open Go.RowKit

theorem RunOk.n {g : GridR} {w : World} {ms : List Int} {fr : Int} {B : Option Addr} {n : Nat} (hk : RunOk g.val ms fr) (hgi : g.In w) (hr : SliceOf w 1 i64cells B n ms) : n = g.heightsN := by
  rw [← hr.len, hk.len]; exact hgi.1.len
set_option maxHeartbeats 1000000 in
theorem specReachedBy_any (g : GridR) (B : Option Addr) (n d : Nat) (ms : List Int) (fr : Int) (w : World) (hgi : g.In w) (hr : SliceOf w 1 i64cells B n ms) :
    Calls Try.prog 33 #[.agg #[.int .i64 g.rows, .int .i64 g.columns, .int .i64 g.size, .slice g.heightsA g.heightsN g.heightsC], .slice B n d, .int .i64 fr] w (RetLT 2 1 i64cells (reachA g.val ms fr) [.int .i64 (runC g.val ms fr)] w) := by
  have hB : Below w.heap.size w (w.alloc (.cells #[.int .i64 g.rows, .int .i64 g.columns, .int .i64 g.size, .slice g.heightsA g.heightsN g.heightsC] 29)) := (Below.refl _ _).alloc (Nat.le_refl _) _
  have HO := Lib.hid (Own.new w 29 #[.int .i64 g.rows, .int .i64 g.columns, .int .i64 g.size, .slice g.heightsA g.heightsN g.heightsC])
  have HB := Lib.hid hB
  have HI := Lib.hid (hgi.below hB)
  have HR := Lib.hid (hr.below hB)
  have HLn := Lib.hid hr.len
  clear hgi hB hr
  by_cases hc : runC g.val ms fr = 0
  · have HC := Lib.hid hc
    have hne : (runC g.val ms fr != 0) = false := by simp [hc]
    have HK := Lib.hid (runC_zero hc)
    have HR1 : Hid (reachA g.val ms fr = reachL g.val ms fr) := by rw [Hid]; unfold reachA; rw [if_pos hc]
    clear hc
    go_enter Try.func33, Try.ntmps33
    go_wp2_with fail
    refine (l13Ask_any g w.heap.size 0 _ _ _ ms fr _ HI.out HR.out (by simp) (HO.out.cell 0) (HO.out.cell 1) (HO.out.cell 2) (HO.out.cell 3)).mono ?_
    rintro e w1 ⟨rfl, hb1⟩
    have hO1 := Lib.hid (HO.out.below' hb1)
    have hI1 := Lib.hid (HI.out.below hb1)
    have hR1 := Lib.hid (HR.out.below hb1)
    have hB1 := Lib.hid (HB.out.trans (hb1.mono HB.out.size))
    clear hb1
    go_wp2_with fail
    refine (l13Reached_any g w.heap.size 0 _ n d ms fr _ hI1.out HK.out hR1.out hO1.out.lt (hO1.out.cell 0) (hO1.out.cell 1) (hO1.out.cell 2) (hO1.out.cell 3)).mono ?_
    rintro e w2 ⟨v, rfl, hv, hb2⟩
    have HV := Lib.hid hv
    have HB2 := Lib.hid (hB1.out.trans (hb2.mono hB1.out.size))
    have HLE := Lib.hid hB1.out.size
    clear hv hb2
    go_wp2
    go_ret2
    exact ⟨_, by rw [HC.out]; rfl, by rw [HR1.out]; exact HV.out.rebase HLE.out, HB2.out⟩
  · have HC := Lib.hid hc
    have hne : (runC g.val ms fr != 0) = true := by simp [hc]
    have HR1 : Hid (reachA g.val ms fr = []) := by rw [Hid]; unfold reachA; rw [if_neg hc]
    clear hc
    go_enter Try.func33, Try.ntmps33
    go_wp2_with fail
    refine (l13Ask_any g w.heap.size 0 _ _ _ ms fr _ HI.out HR.out (by simp) (HO.out.cell 0) (HO.out.cell 1) (HO.out.cell 2) (HO.out.cell 3)).mono ?_
    rintro e w1 ⟨rfl, hb1⟩
    have hB1 := Lib.hid (HB.out.trans (hb1.mono HB.out.size))
    clear hb1
    go_wp2
    go_ret2
    exact ⟨_, rfl, by rw [HR1.out]; exact OwnsL.nil_ _ _ _ _ _, hB1.out⟩
set_option maxHeartbeats 1000000 in
theorem implReachedBy_any (g : GridR) (B : Option Addr) (n d : Nat) (ms : List Int) (fr : Int) (w : World) (hgi : g.In w) (hr : SliceOf w 1 i64cells B n ms) :
    Calls Try.prog 34 #[.agg #[.int .i64 g.rows, .int .i64 g.columns, .int .i64 g.size, .slice g.heightsA g.heightsN g.heightsC], .slice B n d, .int .i64 fr] w (RetLT 2 1 i64cells (reachA g.val ms fr) [.int .i64 (runC g.val ms fr)] w) := by
  have hB : Below w.heap.size w (w.alloc (.cells #[.int .i64 g.rows, .int .i64 g.columns, .int .i64 g.size, .slice g.heightsA g.heightsN g.heightsC] 29)) := (Below.refl _ _).alloc (Nat.le_refl _) _
  have HO := Lib.hid (Own.new w 29 #[.int .i64 g.rows, .int .i64 g.columns, .int .i64 g.size, .slice g.heightsA g.heightsN g.heightsC])
  have HB := Lib.hid hB
  have HI := Lib.hid (hgi.below hB)
  have HR := Lib.hid (hr.below hB)
  have HLn := Lib.hid hr.len
  clear hgi hB hr
  by_cases hc : runC g.val ms fr = 0
  · have HC := Lib.hid hc
    have hne : (runC g.val ms fr != 0) = false := by simp [hc]
    have HK := Lib.hid (runC_zero hc)
    have HR1 : Hid (reachA g.val ms fr = reachL g.val ms fr) := by rw [Hid]; unfold reachA; rw [if_pos hc]
    clear hc
    go_enter Try.func34, Try.ntmps34
    go_wp2_with fail
    refine (routeCode_any g _ _ _ ms fr _ _ _ [] _ HI.out HR.out SliceOf.nil_).mono ?_
    rintro e w1 ⟨rfl, hb1⟩
    rw [runCx_nil]
    have hO1 := Lib.hid (HO.out.below' hb1)
    have hI1 := Lib.hid (HI.out.below hb1)
    have hR1 := Lib.hid (HR.out.below hb1)
    have hB1 := Lib.hid (HB.out.trans (hb1.mono HB.out.size))
    have y0 : w1.cell? ⟨w.heap.size, 0, none⟩ = some (.int .i64 g.rows) := hO1.out.cell 0
    have y1 : w1.cell? ⟨w.heap.size, 1, none⟩ = some (.int .i64 g.columns) := hO1.out.cell 1
    have y2 : w1.cell? ⟨w.heap.size, 2, none⟩ = some (.int .i64 g.size) := hO1.out.cell 2
    have y3 : w1.cell? ⟨w.heap.size, 3, none⟩ = some (.slice g.heightsA g.heightsN g.heightsC) := hO1.out.cell 3
    clear hb1
    go_wp2_with fail
    refine (run_any g _ n d ms fr _ hI1.out HK.out.grid hR1.out (HK.out.n hI1.out hR1.out) HK.out.f1 HK.out.pos HK.out.sum).mono ?_
    rintro e w2 ⟨u, v, rfl, hu, hv, hb2⟩
    obtain ⟨S, hS⟩ : ∃ S, (stT g.val fr ms (runN g.val fr ms)).settled = S := ⟨_, rfl⟩
    obtain ⟨T, hT⟩ : ∃ T, (stT g.val fr ms (runN g.val fr ms)).times = T := ⟨_, rfl⟩
    have hTl : T.length = n := by rw [← hT, times_len HK.out, HLn.out]
    have HE : Hid (reachL g.val ms fr = reachT T n) := by rw [Hid]; unfold reachL; rw [hT, HLn.out]
    rw [hS] at hu
    rw [hT] at hv
    obtain ⟨AU, cU, rfl, _, _, _⟩ := hu.slice i64cells_len
    obtain ⟨AV, cV, rfl, _, _, hsv⟩ := hv.slice i64cells_len
    rw [hTl] at hsv ⊢
    have HSV := Lib.hid hsv
    have HB2 := Lib.hid (hB1.out.trans (hb2.mono hB1.out.size))
    have HN64 : Hid (n ≤ 64) := by rw [Hid, ← HLn.out]; exact (runOk_n64 HK.out).2
    clear hu hv hb2 y0 y1 y2 y3 hS hT hTl hsv
    go_wp2_with fail
    refine (reached_any AU S.length cU _ AV n cV T _ HSV.out HN64.out).mono ?_
    rintro e w3 ⟨v, rfl, hv, hb3⟩
    have HV := Lib.hid hv
    have HB3 := Lib.hid (HB2.out.trans (hb3.mono HB2.out.size))
    have HLE := Lib.hid HB2.out.size
    clear hv hb3
    go_wp2
    go_ret2
    exact ⟨_, by rw [HC.out]; rfl, by rw [HR1.out, HE.out]; exact HV.out.rebase HLE.out, HB3.out⟩
  · have HC := Lib.hid hc
    have hne : (runC g.val ms fr != 0) = true := by simp [hc]
    have HR1 : Hid (reachA g.val ms fr = []) := by rw [Hid]; unfold reachA; rw [if_neg hc]
    clear hc
    go_enter Try.func34, Try.ntmps34
    go_wp2_with fail
    refine (routeCode_any g _ _ _ ms fr _ _ _ [] _ HI.out HR.out SliceOf.nil_).mono ?_
    rintro e w1 ⟨rfl, hb1⟩
    rw [runCx_nil]
    have hB1 := Lib.hid (HB.out.trans (hb1.mono HB.out.size))
    clear hb1
    go_wp2
    go_ret2
    exact ⟨_, rfl, by rw [HR1.out]; exact OwnsL.nil_ _ _ _ _ _, hB1.out⟩

end Go.Proofs.Ytlgnclocdblbmaa
