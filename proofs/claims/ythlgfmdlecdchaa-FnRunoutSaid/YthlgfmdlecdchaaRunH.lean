/- ArrivalOf of the program. -/
import Derived.Test.YthlgfmdlecdchaaRunE
import Derived.Test.YthlgfmdlecdchaaRunF
namespace Go.Proofs.Ythlgfmdlecdchaa
open Go.RowKit

def arivT (g : Grid) (ms : List Int) (fr cell : Int) : Int := (stT g fr ms (runN g fr ms)).times.getD cell.toNat 0
def arivA (g : Grid) (ms : List Int) (fr cell : Int) : Int := if runCx g ms fr [cell] = 0 then if 0 ≤ arivT g ms fr cell then arivT g ms fr cell else 0 else 0
def arivK (g : Grid) (ms : List Int) (fr cell : Int) : Int := if runCx g ms fr [cell] = 0 then if 0 ≤ arivT g ms fr cell then 0 else 3 else runCx g ms fr [cell]
theorem runCx_cell {g : Grid} {ms : List Int} {fr cell : Int} (h : runCx g ms fr [cell] = 0) : RunOk g ms fr ∧ ∃ c : Nat, cell = c ∧ c < ms.length := by
  unfold runCx at h
  cases h1 : gridB g <;> cases h2 : inB fr 1 5000 <;> cases h3 : ([cell].all fun y => inB y 0 ((g.heights.length : Int) - 1)) <;> cases h4 : massB g ms <;> simp [h1, h2, h3, h4] at h
  have hm := massB_parts h1 h4
  have hc := inB_iff.1 (List.all_eq_true.1 h3 cell (by simp))
  have hf := inB_iff.1 h2
  exact ⟨⟨h1, by omega, by omega, hm.1, fun x hx => (hm.2.1 x hx).1, hm.2.2⟩, cell.toNat, by omega, by rw [hm.1]; omega⟩
set_option maxHeartbeats 1000000 in
theorem implArrivalOf_any (g : GridR) (B : Option Addr) (n d : Nat) (ms : List Int) (fr cell : Int) (w : World) (hgi : g.In w) (hr : SliceOf w 1 i64cells B n ms) :
    Calls Try.prog 13 #[.agg #[.int .i64 g.rows, .int .i64 g.columns, .int .i64 g.size, .slice g.heightsA g.heightsN g.heightsC], .slice B n d, .int .i64 fr, .int .i64 cell] w (Ret (.tuple #[.int .i64 (arivA g.val ms fr cell), .int .i64 (arivK g.val ms fr cell)]) w) := by
  have hB : Below w.heap.size w (w.alloc (.cells #[.int .i64 g.rows, .int .i64 g.columns, .int .i64 g.size, .slice g.heightsA g.heightsN g.heightsC] 26)) := (Below.refl _ _).alloc (Nat.le_refl _) _
  have HO0 := Lib.hid (Own.new w 26 #[.int .i64 g.rows, .int .i64 g.columns, .int .i64 g.size, .slice g.heightsA g.heightsN g.heightsC])
  have HB0 := Lib.hid hB
  have HI0 := Lib.hid (hgi.below hB)
  have HR0 := Lib.hid (hr.below hB)
  have HLn := Lib.hid hr.len
  have hnle := hr.le
  clear hgi hB hr
  go_enter Try.func13, Try.ntmps13
  go_wp2_with fail
  obtain ⟨w0, hw0⟩ : ∃ w0, (w.alloc (.cells #[.int .i64 g.rows, .int .i64 g.columns, .int .i64 g.size, .slice g.heightsA g.heightsN g.heightsC] 26)).alloc (.cells #[.int .i64 cell] 2) = w0 := ⟨_, rfl⟩
  have hBq : Below (w.alloc (.cells #[.int .i64 g.rows, .int .i64 g.columns, .int .i64 g.size, .slice g.heightsA g.heightsN g.heightsC] 26)).heap.size (w.alloc (.cells #[.int .i64 g.rows, .int .i64 g.columns, .int .i64 g.size, .slice g.heightsA g.heightsN g.heightsC] 26)) w0 := by rw [← hw0]; exact (Below.refl _ _).alloc (Nat.le_refl _) _
  have hcs : SliceOf w0 1 i64cells (some ⟨w.heap.size + 1, 0, none⟩) 1 [cell] := by
    have h := sliceOf_new (w.alloc (.cells #[.int .i64 g.rows, .int .i64 g.columns, .int .i64 g.size, .slice g.heightsA g.heightsN g.heightsC] 26)) 2 [cell] (by simp)
    rw [show (w.alloc (.cells #[.int .i64 g.rows, .int .i64 g.columns, .int .i64 g.size, .slice g.heightsA g.heightsN g.heightsC] 26)).heap.size = w.heap.size + 1 by simp] at h
    rw [← hw0]
    exact h
  rw [hw0]
  have HO1 := Lib.hid (HO0.out.below' hBq)
  have HB1 := Lib.hid (HB0.out.trans (hBq.mono HB0.out.size))
  have HI1 := Lib.hid (HI0.out.below hBq)
  have HR1 := Lib.hid (HR0.out.below hBq)
  clear hBq hw0
  refine (routeCode_any g B n d ms fr _ 1 1 [cell] _ HI1.out HR1.out hcs).mono ?_
  rintro e w1 ⟨rfl, hb1⟩
  have HO := Lib.hid (HO1.out.below' hb1)
  have HB := Lib.hid (HB1.out.trans (hb1.mono HB1.out.size))
  have HI := Lib.hid (HI1.out.below hb1)
  have HR := Lib.hid (HR1.out.below hb1)
  clear hb1 hcs
  by_cases hc : runCx g.val ms fr [cell] = 0
  · have HC := Lib.hid hc
    have hne : (runCx g.val ms fr [cell] != 0) = false := by simp [hc]
    obtain ⟨hk0, c, rfl, hcn⟩ := runCx_cell hc
    have HK := Lib.hid hk0
    rw [HLn.out] at hcn
    clear hk0 hc
    have y0 : w1.cell? ⟨w.heap.size, 0, none⟩ = some (.int .i64 g.rows) := HO.out.cell 0
    have y1 : w1.cell? ⟨w.heap.size, 1, none⟩ = some (.int .i64 g.columns) := HO.out.cell 1
    have y2 : w1.cell? ⟨w.heap.size, 2, none⟩ = some (.int .i64 g.size) := HO.out.cell 2
    have y3 : w1.cell? ⟨w.heap.size, 3, none⟩ = some (.slice g.heightsA g.heightsN g.heightsC) := HO.out.cell 3
    go_wp2_with fail
    refine (HK.out.call HI.out HR.out).mono ?_
    rintro e w6 ⟨AU, mu, cu, sN, AV, cv, ts, rfl, hsv, hts, hb6⟩
    have hfd : ∀ w : World, (Instr.field 63 (.agg #[.slice AU mu cu, .int .i64 sN, .slice AV n cv]) 2).run Try.prog w = .ok (.slice AV n cv) w := fun _ => by kernel_rfl
    obtain ⟨bV, oV, t, hAV, hbV, htc, t0⟩ := ints_at hsv hcn
    subst hAV
    have HT : Hid (arivT g.val ms fr c = t) := by
      rw [Hid]; unfold arivT; rw [← hts, List.getD_eq_getElem?_getD, Int.toNat_natCast, htc]; rfl
    have HB6 := Lib.hid (HB.out.trans (hb6.mono HB.out.size))
    clear hsv hts htc hb6 y0 y1 y2 y3
    by_cases htp : 0 ≤ t
    · have HA : Hid (arivA g.val ms fr c = t) := by rw [Hid]; unfold arivA; rw [if_pos HC.out, HT.out, if_pos htp]
      have HKV : Hid (arivK g.val ms fr c = 0) := by rw [Hid]; unfold arivK; rw [if_pos HC.out, HT.out, if_pos htp]
      go_wp2_with (go_at_call 40; refine (orNotFound_any _ _ _).mono ?_; rintro e w' ⟨rfl, rfl⟩)
      go_ret2
      exact Ret.ii HA.out.symm HKV.out.symm HB6.out
    · have hd : decide (0 ≤ t) = false := decide_eq_false htp
      have HA : Hid (arivA g.val ms fr c = 0) := by rw [Hid]; unfold arivA; rw [if_pos HC.out, HT.out, if_neg htp]
      have HKV : Hid (arivK g.val ms fr c = 3) := by rw [Hid]; unfold arivK; rw [if_pos HC.out, HT.out, if_neg htp]
      go_wp2_with (go_at_call 40; refine (orNotFound_any _ _ _).mono ?_; rintro e w' ⟨rfl, rfl⟩)
      go_ret2
      exact Ret.ii HA.out.symm HKV.out.symm HB6.out
  · have hne : (runCx g.val ms fr [cell] != 0) = true := by simp [hc]
    have HA : Hid (arivA g.val ms fr cell = 0) := by rw [Hid]; unfold arivA; rw [if_neg hc]
    have HKV : Hid (arivK g.val ms fr cell = runCx g.val ms fr [cell]) := by rw [Hid]; unfold arivK; rw [if_neg hc]
    clear hc
    go_wp2
    go_ret2
    exact Ret.ii HA.out.symm HKV.out.symm HB.out

end Go.Proofs.Ythlgfmdlecdchaa
