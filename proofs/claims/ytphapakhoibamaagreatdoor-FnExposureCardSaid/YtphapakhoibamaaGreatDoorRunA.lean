/- RunMass on both sides. -/
import Derived.Test.YtphapakhoibamaaGreatDoorBase
import Derived.Test.YtphapakhoibamaaGreatDoorMem
import Derived.Test.YtphapakhoibamaaGreatDoorTInt64
import Derived.Test.YtphapakhoibamaaGreatDoorWithin
import Derived.Test.YtphapakhoibamaaGreatDoorTGrid
import Derived.Test.YtphapakhoibamaaGreatDoorGrids
import Derived.Test.YtphapakhoibamaaGreatDoorWays
import Derived.Test.YtphapakhoibamaaGreatDoorSpecGo
import Derived.Test.YtphapakhoibamaaGreatDoorPush2
import Derived.Test.YtphapakhoibamaaGreatDoorSpecWays
import Derived.Test.YtphapakhoibamaaGreatDoorRunCode
import Derived.Test.YtphapakhoibamaaGreatDoorRunCode2
import Derived.Test.YtphapakhoibamaaGreatDoorRunP
import Derived.Test.YtphapakhoibamaaGreatDoorRunQ
import Derived.Test.YtphapakhoibamaaGreatDoorArr
import Derived.Test.YtphapakhoibamaaGreatDoorRunL
import Derived.Test.YtphapakhoibamaaGreatDoorSpecStep
import Derived.Test.YtphapakhoibamaaGreatDoorImplRoute
import Derived.Test.YtphapakhoibamaaGreatDoorArr2
import Derived.Test.YtphapakhoibamaaGreatDoorSpecRun
import Derived.Test.YtphapakhoibamaaGreatDoorImplRun
namespace Go.Proofs.YtphapakhoibamaaGreatDoor
open Go.RowKit

theorem sum_le_mul {m : Int} : ∀ (l : List Int), (∀ x ∈ l, x ≤ m) → l.sum ≤ m * l.length
  | [], _ => by simp
  | x :: l, h => by
    have h1 := sum_le_mul l (fun y hy => h y (by simp [hy]))
    have h2 := h x (by simp)
    rw [List.sum_cons, List.length_cons, Int.natCast_add, Int.mul_add]
    omega
/-- What a run may count on. -/
structure RunOk (g : Grid) (ms : List Int) (fr : Int) : Prop where
  grid : gridB g = true
  f1 : 1 ≤ fr
  f2 : fr ≤ 5000
  len : ms.length = g.heights.length
  pos : ∀ x ∈ ms, 0 ≤ x
  sum : ms.sum ≤ 64000000
theorem massB_parts {g : Grid} {ms : List Int} (hg : gridB g = true) (h : massB g ms = true) : ms.length = g.heights.length ∧ (∀ x ∈ ms, 0 ≤ x ∧ x ≤ 1000000) ∧ ms.sum ≤ 64000000 := by
  unfold massB at h
  rw [Bool.and_eq_true, decide_eq_true_eq, List.all_eq_true] at h
  have hb : ∀ x ∈ ms, 0 ≤ x ∧ x ≤ 1000000 := fun x hx => inB_iff.1 (h.2 x hx)
  have hp := gridB_parts hg
  have hm := (mul_i64 hp.1 hp.2.1).2.2
  have hs := sum_le_mul ms (fun x hx => (hb x hx).2)
  have hl : (ms.length : Int) ≤ 64 := by rw [h.1, hp.2.2.2.1]; exact hm
  refine ⟨h.1, hb, ?_⟩
  omega
theorem runC_zero {g : Grid} {ms : List Int} {fr : Int} (h : runC g ms fr = 0) : RunOk g ms fr := by
  unfold runC at h
  cases h1 : gridB g <;> cases h2 : inB fr 1 5000 <;> cases h3 : massB g ms <;> simp [h1, h2, h3] at h
  have hf := inB_iff.1 h2
  have hm := massB_parts h1 h3
  exact ⟨h1, hf.1, hf.2, hm.1, fun x hx => (hm.2.1 x hx).1, hm.2.2⟩
def massR (g : Grid) (ms : List Int) (fr : Int) : List Int := if runC g ms fr = 0 then (stT g fr ms (runN g fr ms)).settled else []
def massN (g : Grid) (ms : List Int) (fr : Int) : Int := if runC g ms fr = 0 then (runN g fr ms : Int) else 0
theorem massR_len (g : Grid) (ms : List Int) (fr : Int) : (massR g ms fr).length ≤ 1048576 := by
  unfold massR
  by_cases h : runC g ms fr = 0
  · rw [if_pos h]
    have hk := runC_zero h
    rw [(stT_ok (fr := fr) hk.grid hk.len hk.f1 hk.pos _).l2, hk.len]
    have hp := gridB_parts hk.grid
    have hm := (mul_i64 hp.1 hp.2.1).2.2
    have := hp.2.2.2.1
    omega
  · rw [if_neg h]; simp
set_option maxHeartbeats 1000000 in
theorem specRunMass_any (g : GridR) (B : Option Addr) (n d : Nat) (ms : List Int) (fr : Int) (w : World) (hgi : g.In w) (hr : SliceOf w 1 i64cells B n ms) :
    Calls Tryz.prog 10 #[.agg #[.int .i64 g.rows, .int .i64 g.columns, .int .i64 g.size, .slice g.heightsA g.heightsN g.heightsC], .slice B n d, .int .i64 fr] w (RetLT 2 1 i64cells (massR g.val ms fr) [.int .i64 (massN g.val ms fr), .int .i64 (runC g.val ms fr)] w) := by
  have hB : Below w.heap.size w (w.alloc (.cells #[.int .i64 g.rows, .int .i64 g.columns, .int .i64 g.size, .slice g.heightsA g.heightsN g.heightsC] 26)) := (Below.refl _ _).alloc (Nat.le_refl _) _
  have HO := Lib.hid (Own.new w 26 #[.int .i64 g.rows, .int .i64 g.columns, .int .i64 g.size, .slice g.heightsA g.heightsN g.heightsC])
  have HB := Lib.hid hB
  have HI := Lib.hid (hgi.below hB)
  have HR := Lib.hid (hr.below hB)
  have HLn := Lib.hid hr.len
  have HGl : Hid (g.val.heights.length = g.heightsN) := hgi.1.len
  clear hgi hB hr
  by_cases hc : runC g.val ms fr = 0
  · have HC := Lib.hid hc
    have hne : (runC g.val ms fr != 0) = false := by simp [hc]
    have HK := Lib.hid (runC_zero hc)
    have HR1 : Hid (massR g.val ms fr = (stT g.val fr ms (runN g.val fr ms)).settled) := by rw [Hid]; unfold massR; rw [if_pos hc]
    have HR2 : Hid (massN g.val ms fr = (runN g.val fr ms : Int)) := by rw [Hid]; unfold massN; rw [if_pos hc]
    clear hc
    go_enter Tryz.func10, Tryz.ntmps10
    go_wp2_with fail
    refine (l13Ask_any g w.heap.size 0 _ _ _  ms fr _ HI.out HR.out (by simp) (HO.out.cell 0) (HO.out.cell 1) (HO.out.cell 2) (HO.out.cell 3)).mono ?_
    rintro e w1 ⟨rfl, hb1⟩
    have hO1 := Lib.hid (HO.out.below' hb1)
    have hI1 := Lib.hid (HI.out.below hb1)
    have hR1 := Lib.hid (HR.out.below hb1)
    have hB1 := Lib.hid (HB.out.trans (hb1.mono HB.out.size))
    clear hb1
    go_wp2_with fail
    refine (l13Run_any g w.heap.size 0 _ n d ms fr _ hI1.out HK.out.grid hR1.out (by rw [← HLn.out, HK.out.len, HGl.out]) HK.out.f1 HK.out.pos HK.out.sum hO1.out.lt (hO1.out.cell 0) (hO1.out.cell 1) (hO1.out.cell 2) (hO1.out.cell 3)).mono ?_
    rintro e w2 ⟨u, v, rfl, hu, hv, hb2⟩
    have HU := Lib.hid hu
    have HB2 := Lib.hid (hB1.out.trans (hb2.mono hB1.out.size))
    have HLE := Lib.hid hB1.out.size
    clear hu hv hb2
    go_wp2
    go_ret3
    exact ⟨_, by rw [HR2.out, HC.out]; rfl, by rw [HR1.out]; exact HU.out.rebase HLE.out, HB2.out⟩
  · have HC := Lib.hid hc
    have hne : (runC g.val ms fr != 0) = true := by simp [hc]
    have HR1 : Hid (massR g.val ms fr = []) := by rw [Hid]; unfold massR; rw [if_neg hc]
    have HR2 : Hid (massN g.val ms fr = 0) := by rw [Hid]; unfold massN; rw [if_neg hc]
    clear hc
    go_enter Tryz.func10, Tryz.ntmps10
    go_wp2_with fail
    refine (l13Ask_any g w.heap.size 0 _ _ _ ms fr _ HI.out HR.out (by simp) (HO.out.cell 0) (HO.out.cell 1) (HO.out.cell 2) (HO.out.cell 3)).mono ?_
    rintro e w1 ⟨rfl, hb1⟩
    have hB1 := Lib.hid (HB.out.trans (hb1.mono HB.out.size))
    clear hb1
    go_wp2
    go_ret3
    exact ⟨_, by rw [HR2.out]; rfl, by rw [HR1.out]; exact OwnsL.nil_ _ _ _ _ _, hB1.out⟩

end Go.Proofs.YtphapakhoibamaaGreatDoor
