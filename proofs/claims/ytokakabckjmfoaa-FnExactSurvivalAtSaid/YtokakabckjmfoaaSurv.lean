/- SurvivalAt of the program and of the reference return the same chance and code. -/
import Derived.Test.YtokakabckjmfoaaBase
namespace Go.Proofs.Ytokakabckjmfoaa
open Go.RowKit

/-- The chance at a minute: on a line between two times of the table. -/
def survF (m : Int) : Int :=
  if 180 ≤ m then 30 else
  if 130 ≤ m then 100 + rndDiv (-70 * (m - 130)) 50 else
  if 90 ≤ m then 240 + rndDiv (-140 * (m - 90)) 40 else
  if 60 ≤ m then 280 + rndDiv (-40 * (m - 60)) 30 else
  if 35 ≤ m then 320 + rndDiv (-40 * (m - 35)) 25 else
  if 15 ≤ m then 900 + rndDiv (-580 * (m - 15)) 20 else
  if 10 ≤ m then 930 + rndDiv (-30 * (m - 10)) 5 else
  1000 + rndDiv (-70 * m) 10

theorem surv_1 {m : Int} (h : 10 ≤ m ∧ m < 15) : survF m = 930 + rndDiv (-30 * (m - 10)) 5 := by
  unfold survF
  rw [if_neg (by omega), if_neg (by omega), if_neg (by omega), if_neg (by omega), if_neg (by omega), if_neg (by omega), if_pos h.1]
theorem surv_2 {m : Int} (h : 15 ≤ m ∧ m < 35) : survF m = 900 + rndDiv (-580 * (m - 15)) 20 := by
  unfold survF
  rw [if_neg (by omega), if_neg (by omega), if_neg (by omega), if_neg (by omega), if_neg (by omega), if_pos h.1]
theorem surv_3 {m : Int} (h : 35 ≤ m ∧ m < 60) : survF m = 320 + rndDiv (-40 * (m - 35)) 25 := by
  unfold survF
  rw [if_neg (by omega), if_neg (by omega), if_neg (by omega), if_neg (by omega), if_pos h.1]
theorem surv_4 {m : Int} (h : 60 ≤ m ∧ m < 90) : survF m = 280 + rndDiv (-40 * (m - 60)) 30 := by
  unfold survF
  rw [if_neg (by omega), if_neg (by omega), if_neg (by omega), if_pos h.1]
theorem surv_5 {m : Int} (h : 90 ≤ m ∧ m < 130) : survF m = 240 + rndDiv (-140 * (m - 90)) 40 := by
  unfold survF
  rw [if_neg (by omega), if_neg (by omega), if_pos h.1]
theorem surv_6 {m : Int} (h : 130 ≤ m ∧ m < 180) : survF m = 100 + rndDiv (-70 * (m - 130)) 50 := by
  unfold survF
  rw [if_neg (by omega), if_pos h.1]
theorem surv_0 {m : Int} (h : 0 ≤ m ∧ m < 10) : survF m = 1000 + rndDiv (-70 * m) 10 := by
  unfold survF
  rw [if_neg (by omega), if_neg (by omega), if_neg (by omega), if_neg (by omega), if_neg (by omega), if_neg (by omega), if_neg (by omega)]
theorem surv_blend_0 {m : Int} (h : 0 ≤ m ∧ m < 10) : blendF 0 1000 10 930 m = survF m := by
  rw [surv_0 h]
  unfold blendF
  by_cases e : m = 0
  · subst e
    rw [if_pos (.inl (by omega))]
    decide
  · rw [if_neg (by omega), if_neg (by omega)]
    simp
theorem surv_blend_1 {m : Int} (h : 10 ≤ m ∧ m < 15) : blendF 10 930 15 900 m = survF m := by
  rw [surv_1 h]
  unfold blendF
  by_cases e : m = 10
  · subst e
    rw [if_pos (.inl (by omega))]
    decide
  · rw [if_neg (by omega), if_neg (by omega)]
    simp
theorem surv_blend_2 {m : Int} (h : 15 ≤ m ∧ m < 35) : blendF 15 900 35 320 m = survF m := by
  rw [surv_2 h]
  unfold blendF
  by_cases e : m = 15
  · subst e
    rw [if_pos (.inl (by omega))]
    decide
  · rw [if_neg (by omega), if_neg (by omega)]
    simp
theorem surv_blend_3 {m : Int} (h : 35 ≤ m ∧ m < 60) : blendF 35 320 60 280 m = survF m := by
  rw [surv_3 h]
  unfold blendF
  by_cases e : m = 35
  · subst e
    rw [if_pos (.inl (by omega))]
    decide
  · rw [if_neg (by omega), if_neg (by omega)]
    simp
theorem surv_blend_4 {m : Int} (h : 60 ≤ m ∧ m < 90) : blendF 60 280 90 240 m = survF m := by
  rw [surv_4 h]
  unfold blendF
  by_cases e : m = 60
  · subst e
    rw [if_pos (.inl (by omega))]
    decide
  · rw [if_neg (by omega), if_neg (by omega)]
    simp
theorem surv_blend_5 {m : Int} (h : 90 ≤ m ∧ m < 130) : blendF 90 240 130 100 m = survF m := by
  rw [surv_5 h]
  unfold blendF
  by_cases e : m = 90
  · subst e
    rw [if_pos (.inl (by omega))]
    decide
  · rw [if_neg (by omega), if_neg (by omega)]
    simp
theorem surv_blend_6 {m : Int} (h : 130 ≤ m ∧ m < 180) : blendF 130 100 180 30 m = survF m := by
  rw [surv_6 h]
  unfold blendF
  by_cases e : m = 130
  · subst e
    rw [if_pos (.inl (by omega))]
    decide
  · rw [if_neg (by omega), if_neg (by omega)]
    simp
theorem surv_blend_7 {m : Int} (h : 180 ≤ m) : blendF 130 100 180 30 m = survF m := by
  unfold survF blendF
  rw [if_pos h, if_neg (by omega), if_pos h]

theorem time_cases (m : Int) (h0 : 0 ≤ m) : (0 ≤ m ∧ m < 10) ∨ (10 ≤ m ∧ m < 15) ∨ (15 ≤ m ∧ m < 35) ∨ (35 ≤ m ∧ m < 60) ∨ (60 ≤ m ∧ m < 90) ∨ (90 ≤ m ∧ m < 130) ∨ (130 ≤ m ∧ m < 180) ∨ 180 ≤ m := by omega

set_option maxHeartbeats 400000 in
theorem l25Times_any (w : World) : Calls Try.prog 108 #[] w (RetP (fun v w' => v = .slice (some ⟨w.heap.size, 0, none⟩) 8 8 ∧ Own w' w.heap.size 2 #[.int .i64 0, .int .i64 10, .int .i64 15, .int .i64 35, .int .i64 60, .int .i64 90, .int .i64 130, .int .i64 180]) w) := by
  go_enter Try.func108, Try.ntmps108
  go_wp2
  go_ret
  exact RetP.mk ⟨rfl, Own.new _ _ _⟩ ((Below.refl _ _).alloc (Nat.le_refl _) _)
set_option maxHeartbeats 400000 in
theorem l25Chances_any (w : World) : Calls Try.prog 109 #[] w (RetP (fun v w' => v = .slice (some ⟨w.heap.size, 0, none⟩) 8 8 ∧ Own w' w.heap.size 2 #[.int .i64 1000, .int .i64 930, .int .i64 900, .int .i64 320, .int .i64 280, .int .i64 240, .int .i64 100, .int .i64 30]) w) := by
  go_enter Try.func109, Try.ntmps109
  go_wp2
  go_ret
  exact RetP.mk ⟨rfl, Own.new _ _ _⟩ ((Below.refl _ _).alloc (Nat.le_refl _) _)

set_option maxHeartbeats 4000000 in
theorem l25Survival_any (m : Int) (w : World) (h0 : 0 ≤ m) (h1 : m ≤ 1000) : Calls Try.prog 69 #[.int .i64 m] w (Ret (.int .i64 (survF m)) w) := by
  go_enter Try.func69, Try.ntmps69
  go_wp2_with fail
  refine (l25Times_any _).mono ?_
  rintro e w1 ⟨v, rfl, ⟨rfl, o1⟩, b1⟩
  have s1 := o1.lt
  go_wp2_with fail
  refine (l25Chances_any _).mono ?_
  rintro e w2 ⟨v, rfl, ⟨rfl, o2⟩, b2⟩
  have o3 := o1.below' b2
  have b3 := b1.trans (b2.mono b1.size)
  have t0 : w2.cell? ⟨w.heap.size, 0, none⟩ = some (.int .i64 0) := o3.cell 0
  have t1 : w2.cell? ⟨w.heap.size, 1, none⟩ = some (.int .i64 10) := o3.cell 1
  have t2 : w2.cell? ⟨w.heap.size, 2, none⟩ = some (.int .i64 15) := o3.cell 2
  have t3 : w2.cell? ⟨w.heap.size, 3, none⟩ = some (.int .i64 35) := o3.cell 3
  have t4 : w2.cell? ⟨w.heap.size, 4, none⟩ = some (.int .i64 60) := o3.cell 4
  have t5 : w2.cell? ⟨w.heap.size, 5, none⟩ = some (.int .i64 90) := o3.cell 5
  have t6 : w2.cell? ⟨w.heap.size, 6, none⟩ = some (.int .i64 130) := o3.cell 6
  have t7 : w2.cell? ⟨w.heap.size, 7, none⟩ = some (.int .i64 180) := o3.cell 7
  have c0 : w2.cell? ⟨w1.heap.size, 0, none⟩ = some (.int .i64 1000) := o2.cell 0
  have c1 : w2.cell? ⟨w1.heap.size, 1, none⟩ = some (.int .i64 930) := o2.cell 1
  have c2 : w2.cell? ⟨w1.heap.size, 2, none⟩ = some (.int .i64 900) := o2.cell 2
  have c3 : w2.cell? ⟨w1.heap.size, 3, none⟩ = some (.int .i64 320) := o2.cell 3
  have c4 : w2.cell? ⟨w1.heap.size, 4, none⟩ = some (.int .i64 280) := o2.cell 4
  have c5 : w2.cell? ⟨w1.heap.size, 5, none⟩ = some (.int .i64 240) := o2.cell 5
  have c6 : w2.cell? ⟨w1.heap.size, 6, none⟩ = some (.int .i64 100) := o2.cell 6
  have c7 : w2.cell? ⟨w1.heap.size, 7, none⟩ = some (.int .i64 30) := o2.cell 7
  have l1 : w.heap.size < w2.heap.size := o3.lt
  have l2 : w1.heap.size < w2.heap.size := o2.lt
  have hsub := fun (g : Sub w2) b o (h : b < w2.heap.size) => g.cell b o h
  clear o1 o2 o3 s1 b1 b2
  rcases time_cases m h0 with h | h | h | h | h | h | h | h
  · have hq := rnd_bounds (a := -70 * m) (b := 10) (by omega) 1000000 (by omega) (by omega)
    have hr : rndDiv (-70 * m) 10 = rnd (-70 * m) 10 := by unfold rndDiv; rw [if_neg (by omega)]
    rw [← hr] at hq
    have ⟨_, _⟩ := hq
    clear hq hr
    go_wp2
    refine wp_loop_rounds 1 ?_
    iterate 1
      rw [rounds_succ]
      go_wp2
    refine wp_region_sub (by kernel_rfl) (by kernel_rfl) ?_
    repeat (go_big_quiet_step (exact Calls.sub_of_same (l01Div_any _ _ _ (by omega) (by omega) (by omega) (by omega) (by omega))))
    refine wpQuiet_nil ?_
    intro wg hg
    go_wp2
    go_ret
    exact Ret.i (surv_0 h).symm (b3.trans (hg.mono b3.size))
  · have hq := rnd_bounds (a := -30 * (m - 10)) (b := 5) (by omega) 1000000 (by omega) (by omega)
    have hr : rndDiv (-30 * (m - 10)) 5 = rnd (-30 * (m - 10)) 5 := by unfold rndDiv; rw [if_neg (by omega)]
    rw [← hr] at hq
    have ⟨_, _⟩ := hq
    clear hq hr
    go_wp2
    refine wp_loop_rounds 2 ?_
    iterate 2
      rw [rounds_succ]
      go_wp2
    refine wp_region_sub (by kernel_rfl) (by kernel_rfl) ?_
    repeat (go_big_quiet_step (exact Calls.sub_of_same (l01Div_any _ _ _ (by omega) (by omega) (by omega) (by omega) (by omega))))
    refine wpQuiet_nil ?_
    intro wg hg
    go_wp2
    go_ret
    exact Ret.i (surv_1 h).symm (b3.trans (hg.mono b3.size))
  · have hq := rnd_bounds (a := -580 * (m - 15)) (b := 20) (by omega) 1000000 (by omega) (by omega)
    have hr : rndDiv (-580 * (m - 15)) 20 = rnd (-580 * (m - 15)) 20 := by unfold rndDiv; rw [if_neg (by omega)]
    rw [← hr] at hq
    have ⟨_, _⟩ := hq
    clear hq hr
    go_wp2
    refine wp_loop_rounds 3 ?_
    iterate 3
      rw [rounds_succ]
      go_wp2
    refine wp_region_sub (by kernel_rfl) (by kernel_rfl) ?_
    repeat (go_big_quiet_step (exact Calls.sub_of_same (l01Div_any _ _ _ (by omega) (by omega) (by omega) (by omega) (by omega))))
    refine wpQuiet_nil ?_
    intro wg hg
    go_wp2
    go_ret
    exact Ret.i (surv_2 h).symm (b3.trans (hg.mono b3.size))
  · have hq := rnd_bounds (a := -40 * (m - 35)) (b := 25) (by omega) 1000000 (by omega) (by omega)
    have hr : rndDiv (-40 * (m - 35)) 25 = rnd (-40 * (m - 35)) 25 := by unfold rndDiv; rw [if_neg (by omega)]
    rw [← hr] at hq
    have ⟨_, _⟩ := hq
    clear hq hr
    go_wp2
    refine wp_loop_rounds 4 ?_
    iterate 4
      rw [rounds_succ]
      go_wp2
    refine wp_region_sub (by kernel_rfl) (by kernel_rfl) ?_
    repeat (go_big_quiet_step (exact Calls.sub_of_same (l01Div_any _ _ _ (by omega) (by omega) (by omega) (by omega) (by omega))))
    refine wpQuiet_nil ?_
    intro wg hg
    go_wp2
    go_ret
    exact Ret.i (surv_3 h).symm (b3.trans (hg.mono b3.size))
  · have hq := rnd_bounds (a := -40 * (m - 60)) (b := 30) (by omega) 1000000 (by omega) (by omega)
    have hr : rndDiv (-40 * (m - 60)) 30 = rnd (-40 * (m - 60)) 30 := by unfold rndDiv; rw [if_neg (by omega)]
    rw [← hr] at hq
    have ⟨_, _⟩ := hq
    clear hq hr
    go_wp2
    refine wp_loop_rounds 5 ?_
    iterate 5
      rw [rounds_succ]
      go_wp2
    refine wp_region_sub (by kernel_rfl) (by kernel_rfl) ?_
    repeat (go_big_quiet_step (exact Calls.sub_of_same (l01Div_any _ _ _ (by omega) (by omega) (by omega) (by omega) (by omega))))
    refine wpQuiet_nil ?_
    intro wg hg
    go_wp2
    go_ret
    exact Ret.i (surv_4 h).symm (b3.trans (hg.mono b3.size))
  · have hq := rnd_bounds (a := -140 * (m - 90)) (b := 40) (by omega) 1000000 (by omega) (by omega)
    have hr : rndDiv (-140 * (m - 90)) 40 = rnd (-140 * (m - 90)) 40 := by unfold rndDiv; rw [if_neg (by omega)]
    rw [← hr] at hq
    have ⟨_, _⟩ := hq
    clear hq hr
    go_wp2
    refine wp_loop_rounds 6 ?_
    iterate 6
      rw [rounds_succ]
      go_wp2
    refine wp_region_sub (by kernel_rfl) (by kernel_rfl) ?_
    repeat (go_big_quiet_step (exact Calls.sub_of_same (l01Div_any _ _ _ (by omega) (by omega) (by omega) (by omega) (by omega))))
    refine wpQuiet_nil ?_
    intro wg hg
    go_wp2
    go_ret
    exact Ret.i (surv_5 h).symm (b3.trans (hg.mono b3.size))
  · have hq := rnd_bounds (a := -70 * (m - 130)) (b := 50) (by omega) 1000000 (by omega) (by omega)
    have hr : rndDiv (-70 * (m - 130)) 50 = rnd (-70 * (m - 130)) 50 := by unfold rndDiv; rw [if_neg (by omega)]
    rw [← hr] at hq
    have ⟨_, _⟩ := hq
    clear hq hr
    go_wp2
    refine wp_loop_rounds 7 ?_
    iterate 7
      rw [rounds_succ]
      go_wp2
    refine wp_region_sub (by kernel_rfl) (by kernel_rfl) ?_
    repeat (go_big_quiet_step (exact Calls.sub_of_same (l01Div_any _ _ _ (by omega) (by omega) (by omega) (by omega) (by omega))))
    refine wpQuiet_nil ?_
    intro wg hg
    go_wp2
    go_ret
    exact Ret.i (surv_6 h).symm (b3.trans (hg.mono b3.size))
  · go_wp2
    go_ret
    exact Ret.i (by unfold survF; rw [if_pos h]) b3

def survA (m : Int) : Int := if inB m 0 1000 = true then survF m else 0
def survB (m : Int) : Int := if inB m 0 1000 = true then 0 else 2

set_option maxHeartbeats 4000000 in
theorem survivalAt_any (m : Int) (w : World) (h0 : 0 ≤ m) (h1 : m ≤ 1000) : Calls Try.prog 71 #[.int .i64 m] w (Ret (.int .i64 (survF m)) w) := by
  have hsub := fun (o : Obj) (g : Sub (w.alloc o)) b o' (h : b < (w.alloc o).heap.size) => g.cell b o' h
  rcases time_cases m h0 with h | h | h | h | h | h | h | h
  · have HE := Lib.hid (surv_blend_0 h)
    go_enter Try.func71, Try.ntmps71
    go_wp2
    refine wp_loop_rounds 1 ?_
    iterate 1
      rw [rounds_succ]
      go_wp2
    refine wp_region_sub (by kernel_rfl) (by kernel_rfl) ?_
    repeat (go_big_quiet_step (exact Calls.sub_of_eq (blend_any 0 1000 10 930 m _ (by omega) (by omega) (by omega) (by omega) (by omega) (by omega)) (congrArg (Value.int .i64) HE.out)))
    refine wpQuiet_nil ?_
    intro wg hg
    go_wp2
    go_ret
    exact Ret.i rfl (((Below.refl _ _).alloc (Nat.le_refl _) _).trans (hg.mono (by simp)))
  · have HE := Lib.hid (surv_blend_1 h)
    go_enter Try.func71, Try.ntmps71
    go_wp2
    refine wp_loop_rounds 2 ?_
    iterate 2
      rw [rounds_succ]
      go_wp2
    refine wp_region_sub (by kernel_rfl) (by kernel_rfl) ?_
    repeat (go_big_quiet_step (exact Calls.sub_of_eq (blend_any 10 930 15 900 m _ (by omega) (by omega) (by omega) (by omega) (by omega) (by omega)) (congrArg (Value.int .i64) HE.out)))
    refine wpQuiet_nil ?_
    intro wg hg
    go_wp2
    go_ret
    exact Ret.i rfl (((Below.refl _ _).alloc (Nat.le_refl _) _).trans (hg.mono (by simp)))
  · have HE := Lib.hid (surv_blend_2 h)
    go_enter Try.func71, Try.ntmps71
    go_wp2
    refine wp_loop_rounds 3 ?_
    iterate 3
      rw [rounds_succ]
      go_wp2
    refine wp_region_sub (by kernel_rfl) (by kernel_rfl) ?_
    repeat (go_big_quiet_step (exact Calls.sub_of_eq (blend_any 15 900 35 320 m _ (by omega) (by omega) (by omega) (by omega) (by omega) (by omega)) (congrArg (Value.int .i64) HE.out)))
    refine wpQuiet_nil ?_
    intro wg hg
    go_wp2
    go_ret
    exact Ret.i rfl (((Below.refl _ _).alloc (Nat.le_refl _) _).trans (hg.mono (by simp)))
  · have HE := Lib.hid (surv_blend_3 h)
    go_enter Try.func71, Try.ntmps71
    go_wp2
    refine wp_loop_rounds 4 ?_
    iterate 4
      rw [rounds_succ]
      go_wp2
    refine wp_region_sub (by kernel_rfl) (by kernel_rfl) ?_
    repeat (go_big_quiet_step (exact Calls.sub_of_eq (blend_any 35 320 60 280 m _ (by omega) (by omega) (by omega) (by omega) (by omega) (by omega)) (congrArg (Value.int .i64) HE.out)))
    refine wpQuiet_nil ?_
    intro wg hg
    go_wp2
    go_ret
    exact Ret.i rfl (((Below.refl _ _).alloc (Nat.le_refl _) _).trans (hg.mono (by simp)))
  · have HE := Lib.hid (surv_blend_4 h)
    go_enter Try.func71, Try.ntmps71
    go_wp2
    refine wp_loop_rounds 5 ?_
    iterate 5
      rw [rounds_succ]
      go_wp2
    refine wp_region_sub (by kernel_rfl) (by kernel_rfl) ?_
    repeat (go_big_quiet_step (exact Calls.sub_of_eq (blend_any 60 280 90 240 m _ (by omega) (by omega) (by omega) (by omega) (by omega) (by omega)) (congrArg (Value.int .i64) HE.out)))
    refine wpQuiet_nil ?_
    intro wg hg
    go_wp2
    go_ret
    exact Ret.i rfl (((Below.refl _ _).alloc (Nat.le_refl _) _).trans (hg.mono (by simp)))
  · have HE := Lib.hid (surv_blend_5 h)
    go_enter Try.func71, Try.ntmps71
    go_wp2
    refine wp_loop_rounds 6 ?_
    iterate 6
      rw [rounds_succ]
      go_wp2
    refine wp_region_sub (by kernel_rfl) (by kernel_rfl) ?_
    repeat (go_big_quiet_step (exact Calls.sub_of_eq (blend_any 90 240 130 100 m _ (by omega) (by omega) (by omega) (by omega) (by omega) (by omega)) (congrArg (Value.int .i64) HE.out)))
    refine wpQuiet_nil ?_
    intro wg hg
    go_wp2
    go_ret
    exact Ret.i rfl (((Below.refl _ _).alloc (Nat.le_refl _) _).trans (hg.mono (by simp)))
  · have HE := Lib.hid (surv_blend_6 h)
    go_enter Try.func71, Try.ntmps71
    go_wp2
    refine wp_loop_rounds 7 ?_
    iterate 7
      rw [rounds_succ]
      go_wp2
    refine wp_region_sub (by kernel_rfl) (by kernel_rfl) ?_
    repeat (go_big_quiet_step (exact Calls.sub_of_eq (blend_any 130 100 180 30 m _ (by omega) (by omega) (by omega) (by omega) (by omega) (by omega)) (congrArg (Value.int .i64) HE.out)))
    refine wpQuiet_nil ?_
    intro wg hg
    go_wp2
    go_ret
    exact Ret.i rfl (((Below.refl _ _).alloc (Nat.le_refl _) _).trans (hg.mono (by simp)))
  · have HE := Lib.hid (surv_blend_7 h)
    go_enter Try.func71, Try.ntmps71
    go_wp2
    refine wp_loop_rounds 7 ?_
    iterate 7
      rw [rounds_succ]
      go_wp2
    refine wp_region_sub (by kernel_rfl) (by kernel_rfl) ?_
    repeat (go_big_quiet_step (exact Calls.sub_of_eq (blend_any 130 100 180 30 m _ (by omega) (by omega) (by omega) (by omega) (by omega) (by omega)) (congrArg (Value.int .i64) HE.out)))
    refine wpQuiet_nil ?_
    intro wg hg
    go_wp2
    go_ret
    exact Ret.i rfl (((Below.refl _ _).alloc (Nat.le_refl _) _).trans (hg.mono (by simp)))

set_option maxHeartbeats 1000000 in
theorem implSurvivalAt_any (m : Int) (w : World) : Calls Try.prog 22 #[.int .i64 m] w (Ret (.tuple #[.int .i64 (survA m), .int .i64 (survB m)]) w) := by
  cases hv : inB m 0 1000
  · have HV := Lib.hid hv
    go_enter Try.func22, Try.ntmps22
    go_wp2_with (go_at_call 70; refine (lateOk_any _ _).mono ?_; rintro e w' ⟨rfl, rfl⟩)
    go_ret2
    exact Ret.ii (by simp [survA, HV.out]) (by simp [survB, HV.out]) (Below.refl _ _)
  · have HV := Lib.hid hv
    have ⟨h0, h1⟩ := inB_iff.1 hv
    go_enter Try.func22, Try.ntmps22
    go_wp2_with (first | (go_at_call 70; refine (lateOk_any _ _).mono ?_; rintro e w' ⟨rfl, rfl⟩) | (go_at_call 71; refine (survivalAt_any _ _ h0 h1).mono ?_; rintro e w' ⟨rfl, hb⟩))
    go_ret2
    exact Ret.ii (by simp [survA, HV.out]) (by simp [survB, HV.out]) (by assumption)

set_option maxHeartbeats 1000000 in
theorem specSurvivalAt_any (m : Int) (w : World) : Calls Try.prog 21 #[.int .i64 m] w (Ret (.tuple #[.int .i64 (survA m), .int .i64 (survB m)]) w) := by
  cases hv : inB m 0 1000
  · have HV := Lib.hid hv
    go_enter Try.func21, Try.ntmps21
    go_wp2_with (go_at_call 68; refine (l25Late_any _ _).mono ?_; rintro e w' ⟨rfl, rfl⟩)
    go_ret2
    exact Ret.ii (by simp [survA, HV.out]) (by simp [survB, HV.out]) (Below.refl _ _)
  · have HV := Lib.hid hv
    have ⟨h0, h1⟩ := inB_iff.1 hv
    go_enter Try.func21, Try.ntmps21
    go_wp2_with (first | (go_at_call 68; refine (l25Late_any _ _).mono ?_; rintro e w' ⟨rfl, rfl⟩) | (go_at_call 69; refine (l25Survival_any _ _ h0 h1).mono ?_; rintro e w' ⟨rfl, hb⟩))
    go_ret2
    exact Ret.ii (by simp [survA, HV.out]) (by simp [survB, HV.out]) (by assumption)

end Go.Proofs.Ytokakabckjmfoaa
