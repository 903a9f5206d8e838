/- ReachedBy on both sides. -/
import Derived.Test.YthlgfmdlecdchaaRunB
namespace Go.Proofs.Ythlgfmdlecdchaa
open Go.RowKit

theorem RunOk.n {g : GridR} {w : World} {ms : List Int} {fr : Int} {B : Option Addr} {n : Nat} (hk : RunOk g.val ms fr) (hgi : g.In w) (hr : SliceOf w 1 i64cells B n ms) : n = g.heightsN := by
  rw [← hr.len, hk.len]; exact hgi.1.len
set_option maxHeartbeats 1000000 in
theorem specReachedBy_any (g : GridR) (B : Option Addr) (n d : Nat) (ms : List Int) (fr : Int) (w : World) (hgi : g.In w) (hr : SliceOf w 1 i64cells B n ms) :
    Calls Try.prog 10 #[.agg #[.int .i64 g.rows, .int .i64 g.columns, .int .i64 g.size, .slice g.heightsA g.heightsN g.heightsC], .slice B n d, .int .i64 fr] w (RetLT 2 1 i64cells (reachA g.val ms fr) [.int .i64 (runC g.val ms fr)] w) := by
  have hB : Below w.heap.size w (w.alloc (.cells #[.int .i64 g.rows, .int .i64 g.columns, .int .i64 g.size, .slice g.heightsA g.heightsN g.heightsC] 26)) := (Below.refl _ _).alloc (Nat.le_refl _) _
  have HO := Lib.hid (Own.new w 26 #[.int .i64 g.rows, .int .i64 g.columns, .int .i64 g.size, .slice g.heightsA g.heightsN g.heightsC])
  have HB := Lib.hid hB
  have HI := Lib.hid (hgi.below hB)
  have HR := Lib.hid (hr.below hB)
  have HLn := Lib.hid hr.len
  clear hgi hB hr
  by_cases hc : runC g.val ms fr = 0
  · have HC := Lib.hid hc
    have hne : (runC g.val ms fr != 0) = false := by simp [hc]
    have HK := Lib.hid (runC_zero hc)
    have HR1 : Hid (reachA g.val ms fr = reachL g.val ms fr) := by rw [Hid]; unfold reachA; rw [if_pos hc]
    clear hc
    go_enter Try.func10, Try.ntmps10
    go_wp2_with fail
    refine (l13Ask_any g w.heap.size 0 _ _ _ ms fr _ HI.out HR.out (by simp) (HO.out.cell 0) (HO.out.cell 1) (HO.out.cell 2) (HO.out.cell 3)).mono ?_
    rintro e w1 ⟨rfl, hb1⟩
    have hO1 := Lib.hid (HO.out.below' hb1)
    have hI1 := Lib.hid (HI.out.below hb1)
    have hR1 := Lib.hid (HR.out.below hb1)
    have hB1 := Lib.hid (HB.out.trans (hb1.mono HB.out.size))
    clear hb1
    go_wp2_with fail
    refine (l13Reached_any g w.heap.size 0 _ n d ms fr _ hI1.out HK.out hR1.out hO1.out.lt (hO1.out.cell 0) (hO1.out.cell 1) (hO1.out.cell 2) (hO1.out.cell 3)).mono ?_
    rintro e w2 ⟨v, rfl, hv, hb2⟩
    have HV := Lib.hid hv
    have HB2 := Lib.hid (hB1.out.trans (hb2.mono hB1.out.size))
    have HLE := Lib.hid hB1.out.size
    clear hv hb2
    go_wp2
    go_ret2
    exact ⟨_, by rw [HC.out]; rfl, by rw [HR1.out]; exact HV.out.rebase HLE.out, HB2.out⟩
  · have HC := Lib.hid hc
    have hne : (runC g.val ms fr != 0) = true := by simp [hc]
    have HR1 : Hid (reachA g.val ms fr = []) := by rw [Hid]; unfold reachA; rw [if_neg hc]
    clear hc
    go_enter Try.func10, Try.ntmps10
    go_wp2_with fail
    refine (l13Ask_any g w.heap.size 0 _ _ _ ms fr _ HI.out HR.out (by simp) (HO.out.cell 0) (HO.out.cell 1) (HO.out.cell 2) (HO.out.cell 3)).mono ?_
    rintro e w1 ⟨rfl, hb1⟩
    have hB1 := Lib.hid (HB.out.trans (hb1.mono HB.out.size))
    clear hb1
    go_wp2
    go_ret2
    exact ⟨_, rfl, by rw [HR1.out]; exact OwnsL.nil_ _ _ _ _ _, hB1.out⟩

end Go.Proofs.Ythlgfmdlecdchaa
