/- FellTrees of the program and of the reference. -/
import Derived.Test.YtlfnkgfkimanaaaStands
namespace Go.Proofs.Ytlfnkgfkimanaaa
open Go.RowKit

def fellF (x : Stand) (t : Int) : Stand := ⟨x.id, x.trees - t, x.height, if 0 < x.trees then x.cover - rndDiv (x.cover * t) x.trees else x.cover, x.gap⟩
def Stand.agg (x : Stand) : Value := .agg #[.string x.id, .int .i64 x.trees, .int .i64 x.height, .int .i64 x.cover, .int .i64 x.gap]
def Stand.zero : Stand := ⟨ByteArray.empty, 0, 0, 0, 0⟩
def fellS (x : Stand) (t : Int) : Stand := if x.oneB = true ∧ inB t 0 2000 = true ∧ t ≤ x.trees then fellF x t else Stand.zero
def fellB (x : Stand) (t : Int) : Int := if x.oneB = true then (if inB t 0 2000 = true then (if t ≤ x.trees then 0 else 6) else 2) else 1
theorem rndDiv_zero {b : Int} (hb : 0 < b) : rndDiv 0 b = 0 := by
  unfold rndDiv; rw [if_neg (by omega), rnd_nonneg (by omega) hb]; simp; omega

set_option maxHeartbeats 1000000 in
theorem implFelled_any (x : Stand) (t : Int) (w : World) (h : x.oneB = true) (h0 : 0 ≤ t) (h1 : t ≤ x.trees) :
    Calls Try.prog 102 #[.agg #[.string x.id, .int .i64 x.trees, .int .i64 x.height, .int .i64 x.cover, .int .i64 x.gap], .int .i64 t] w (Ret (fellF x t).agg w) := by
  have hf := Stand.facts h
  have ⟨_, _⟩ := hf.1
  have ⟨_, _⟩ := hf.2.2.1
  clear hf h
  have ho := (Own.new w 41 #[.string x.id, .int .i64 x.trees, .int .i64 x.height, .int .i64 x.cover, .int .i64 x.gap]).alloc (.cells #[.string ByteArray.empty, .int .i64 0, .int .i64 0, .int .i64 0, .int .i64 0] 41)
  have hr : Own ((w.alloc (.cells #[.string x.id, .int .i64 x.trees, .int .i64 x.height, .int .i64 x.cover, .int .i64 x.gap] 41)).alloc (.cells #[.string ByteArray.empty, .int .i64 0, .int .i64 0, .int .i64 0, .int .i64 0] 41)) (w.heap.size + 1) 41 #[.string ByteArray.empty, .int .i64 0, .int .i64 0, .int .i64 0, .int .i64 0] := by
    have := Own.new (w.alloc (.cells #[.string x.id, .int .i64 x.trees, .int .i64 x.height, .int .i64 x.cover, .int .i64 x.gap] 41)) 41 #[.string ByteArray.empty, .int .i64 0, .int .i64 0, .int .i64 0, .int .i64 0]
    simpa using this
  have hB : Below w.heap.size w ((w.alloc (.cells #[.string x.id, .int .i64 x.trees, .int .i64 x.height, .int .i64 x.cover, .int .i64 x.gap] 41)).alloc (.cells #[.string ByteArray.empty, .int .i64 0, .int .i64 0, .int .i64 0, .int .i64 0] 41)) := ((Below.refl _ _).alloc (Nat.le_refl _) _).alloc (by simp) _
  have hlt := ho.lt
  by_cases hp : 0 < x.trees
  · have hm0 : 0 ≤ x.cover * t := Int.mul_nonneg (by omega) h0
    have hm1 : x.cover * t ≤ 2000000 := by
      have a := Int.mul_le_mul_of_nonneg_right (show x.cover ≤ 1000 by omega) h0
      omega
    have hq := rndDiv_bounds (a := x.cover * t) (b := x.trees) hp 2000000 (by omega) (by omega)
    have HF : Hid (fellF x t = ⟨x.id, x.trees - t, x.height, x.cover - rndDiv (x.cover * t) x.trees, x.gap⟩) := by unfold Hid fellF; rw [if_pos hp]
    have hsub := fun (o o' : Obj) (g : Sub ((w.alloc o).alloc o')) b oo (h : b < ((w.alloc o).alloc o').heap.size) => g.cell b oo h
    go_enter Try.func102, Try.ntmps102
    go_wp2_with fail
    refine wp_region_sub_tail 11 (by kernel_rfl) (by kernel_rfl) ?_
    simp only [List.take_succ_cons, List.take_zero, List.drop_succ_cons, List.drop_zero]
    repeat (go_big_quiet_step (exact Calls.sub_of (divRound_any _ _ _ (by omega) (by omega) (by omega) (by omega) (by omega))))
    refine wpQuiet_nil ?_
    intro wg hg
    clear hsub
    have ho1 := ho.below' hg
    have hr1 := hr.below' hg
    have hBg := hB.trans (hg.mono hB.size)
    have c0 : wg.cell? ⟨w.heap.size, 0, none⟩ = some (.string x.id) := ho1.cell 0
    have c1 : wg.cell? ⟨w.heap.size, 1, none⟩ = some (.int .i64 x.trees) := ho1.cell 1
    have c2 : wg.cell? ⟨w.heap.size, 2, none⟩ = some (.int .i64 x.height) := ho1.cell 2
    have c3 : wg.cell? ⟨w.heap.size, 3, none⟩ = some (.int .i64 x.cover) := ho1.cell 3
    have c4 : wg.cell? ⟨w.heap.size, 4, none⟩ = some (.int .i64 x.gap) := ho1.cell 4
    have d0 : wg.cell? ⟨w.heap.size + 1, 0, none⟩ = some (.string ByteArray.empty) := hr1.cell 0
    have d1 : wg.cell? ⟨w.heap.size + 1, 1, none⟩ = some (.int .i64 0) := hr1.cell 1
    have d2 : wg.cell? ⟨w.heap.size + 1, 2, none⟩ = some (.int .i64 0) := hr1.cell 2
    have d3 : wg.cell? ⟨w.heap.size + 1, 3, none⟩ = some (.int .i64 0) := hr1.cell 3
    have d4 : wg.cell? ⟨w.heap.size + 1, 4, none⟩ = some (.int .i64 0) := hr1.cell 4
    have f0 : ∀ o, wg.frozen? ⟨w.heap.size, o, none⟩ = false := ho1.frozen
    have f1 : ∀ o, wg.frozen? ⟨w.heap.size + 1, o, none⟩ = false := hr1.frozen
    go_wp2
    refine bodyPost_ret (v := .agg #[.string x.id, .int .i64 (x.trees - t), .int .i64 x.height, .int .i64 (x.cover - rndDiv (x.cover * t) x.trees), .int .i64 x.gap]) (by simp [results, Try.results102, go_sem, d0, d1, d2, d3, d4]) rfl (Ret.mk (by rw [HF.out]; rfl) ?_)
    repeat (first | (with_reducible exact hBg) | (with_reducible refine Below.setCell ?_ (by simp) _))
  · have HF : Hid (fellF x t = ⟨x.id, x.trees - t, x.height, x.cover, x.gap⟩) := by unfold Hid fellF; rw [if_neg hp]
    go_enter Try.func102, Try.ntmps102
    go_wp2
    refine bodyPost_ret (v := .agg #[.string x.id, .int .i64 (x.trees - t), .int .i64 x.height, .int .i64 x.cover, .int .i64 x.gap]) (by simp [results, Try.results102, go_sem]) rfl (Ret.mk (by rw [HF.out]; rfl) ?_)
    repeat (first | (with_reducible exact Below.refl _ _) | (with_reducible refine Below.setCell ?_ (by simp) _) | (with_reducible refine Below.alloc ?_ (by simp) _))

set_option maxHeartbeats 1000000 in
theorem specFelled_any (x : Stand) (t : Int) (w : World) (h : x.oneB = true) (h0 : 0 ≤ t) (h1 : t ≤ x.trees) :
    Calls Try.prog 101 #[.agg #[.string x.id, .int .i64 x.trees, .int .i64 x.height, .int .i64 x.cover, .int .i64 x.gap], .int .i64 t] w (Ret (fellF x t).agg w) := by
  have hf := Stand.facts h
  have ⟨_, _⟩ := hf.1
  have ⟨_, _⟩ := hf.2.2.1
  clear hf h
  have ho := (Own.new w 41 #[.string x.id, .int .i64 x.trees, .int .i64 x.height, .int .i64 x.cover, .int .i64 x.gap]).alloc (.cells #[.string ByteArray.empty, .int .i64 0, .int .i64 0, .int .i64 0, .int .i64 0] 41)
  have hr : Own ((w.alloc (.cells #[.string x.id, .int .i64 x.trees, .int .i64 x.height, .int .i64 x.cover, .int .i64 x.gap] 41)).alloc (.cells #[.string ByteArray.empty, .int .i64 0, .int .i64 0, .int .i64 0, .int .i64 0] 41)) (w.heap.size + 1) 41 #[.string ByteArray.empty, .int .i64 0, .int .i64 0, .int .i64 0, .int .i64 0] := by
    have := Own.new (w.alloc (.cells #[.string x.id, .int .i64 x.trees, .int .i64 x.height, .int .i64 x.cover, .int .i64 x.gap] 41)) 41 #[.string ByteArray.empty, .int .i64 0, .int .i64 0, .int .i64 0, .int .i64 0]
    simpa using this
  have hB : Below w.heap.size w ((w.alloc (.cells #[.string x.id, .int .i64 x.trees, .int .i64 x.height, .int .i64 x.cover, .int .i64 x.gap] 41)).alloc (.cells #[.string ByteArray.empty, .int .i64 0, .int .i64 0, .int .i64 0, .int .i64 0] 41)) := ((Below.refl _ _).alloc (Nat.le_refl _) _).alloc (by simp) _
  have hlt := ho.lt
  by_cases hp : 0 < t
  · have hm0 : 0 ≤ x.cover * t := Int.mul_nonneg (by omega) h0
    have hm1 : x.cover * t ≤ 2000000 := by
      have a := Int.mul_le_mul_of_nonneg_right (show x.cover ≤ 1000 by omega) h0
      omega
    have hq := rndDiv_bounds (a := x.cover * t) (b := x.trees) (by omega) 2000000 (by omega) (by omega)
    have HF : Hid (fellF x t = ⟨x.id, x.trees - t, x.height, x.cover - rndDiv (x.cover * t) x.trees, x.gap⟩) := by unfold Hid fellF; rw [if_pos (by omega)]
    have hsub := fun (o o' : Obj) (g : Sub ((w.alloc o).alloc o')) b oo (h : b < ((w.alloc o).alloc o').heap.size) => g.cell b oo h
    go_enter Try.func101, Try.ntmps101
    go_wp2_with fail
    refine wp_region_sub_tail 11 (by kernel_rfl) (by kernel_rfl) ?_
    simp only [List.take_succ_cons, List.take_zero, List.drop_succ_cons, List.drop_zero]
    repeat (go_big_quiet_step (exact Calls.sub_of_same (l01Div_any _ _ _ (by omega) (by omega) (by omega) (by omega) (by omega))))
    refine wpQuiet_nil ?_
    intro wg hg
    clear hsub
    have ho1 := ho.below' hg
    have hr1 := hr.below' hg
    have hBg := hB.trans (hg.mono hB.size)
    have c0 : wg.cell? ⟨w.heap.size, 0, none⟩ = some (.string x.id) := ho1.cell 0
    have c1 : wg.cell? ⟨w.heap.size, 1, none⟩ = some (.int .i64 x.trees) := ho1.cell 1
    have c2 : wg.cell? ⟨w.heap.size, 2, none⟩ = some (.int .i64 x.height) := ho1.cell 2
    have c3 : wg.cell? ⟨w.heap.size, 3, none⟩ = some (.int .i64 x.cover) := ho1.cell 3
    have c4 : wg.cell? ⟨w.heap.size, 4, none⟩ = some (.int .i64 x.gap) := ho1.cell 4
    have d0 : wg.cell? ⟨w.heap.size + 1, 0, none⟩ = some (.string ByteArray.empty) := hr1.cell 0
    have d1 : wg.cell? ⟨w.heap.size + 1, 1, none⟩ = some (.int .i64 0) := hr1.cell 1
    have d2 : wg.cell? ⟨w.heap.size + 1, 2, none⟩ = some (.int .i64 0) := hr1.cell 2
    have d3 : wg.cell? ⟨w.heap.size + 1, 3, none⟩ = some (.int .i64 0) := hr1.cell 3
    have d4 : wg.cell? ⟨w.heap.size + 1, 4, none⟩ = some (.int .i64 0) := hr1.cell 4
    have f0 : ∀ o, wg.frozen? ⟨w.heap.size, o, none⟩ = false := ho1.frozen
    have f1 : ∀ o, wg.frozen? ⟨w.heap.size + 1, o, none⟩ = false := hr1.frozen
    go_wp2
    refine bodyPost_ret (v := .agg #[.string x.id, .int .i64 (x.trees - t), .int .i64 x.height, .int .i64 (x.cover - rndDiv (x.cover * t) x.trees), .int .i64 x.gap]) (by simp [results, Try.results101, go_sem, d0, d1, d2, d3, d4]) rfl (Ret.mk (by rw [HF.out]; rfl) ?_)
    repeat (first | (with_reducible exact hBg) | (with_reducible refine Below.setCell ?_ (by simp) _))
  · have HF : Hid (fellF x t = ⟨x.id, x.trees, x.height, x.cover, x.gap⟩) := by
      unfold Hid fellF
      have e : t = 0 := by omega
      subst e
      split
      · rw [Int.mul_zero, rndDiv_zero (by assumption)]; simp
      · simp
    go_enter Try.func101, Try.ntmps101
    go_wp2
    refine bodyPost_ret (v := .agg #[.string x.id, .int .i64 x.trees, .int .i64 x.height, .int .i64 x.cover, .int .i64 x.gap]) (by simp [results, Try.results101, go_sem]) rfl (Ret.mk (by rw [HF.out]; rfl) ?_)
    repeat (first | (with_reducible exact Below.refl _ _) | (with_reducible refine Below.setCell ?_ (by simp) _) | (with_reducible refine Below.alloc ?_ (by simp) _))

set_option maxHeartbeats 1000000 in
theorem implFellTrees_any (x : Stand) (t : Int) (w : World) (hs : x.id.size ≤ 9223372036854775807) :
    Calls Try.prog 57 #[.agg #[.string x.id, .int .i64 x.trees, .int .i64 x.height, .int .i64 x.cover, .int .i64 x.gap], .int .i64 t] w (Ret (.tuple #[(fellS x t).agg, .int .i64 (fellB x t)]) w) := by
  have ho := (Own.new w 41 #[.string x.id, .int .i64 x.trees, .int .i64 x.height, .int .i64 x.cover, .int .i64 x.gap]).alloc (.cells #[.string ByteArray.empty, .int .i64 0, .int .i64 0, .int .i64 0, .int .i64 0] 41)
  have hr : Own ((w.alloc (.cells #[.string x.id, .int .i64 x.trees, .int .i64 x.height, .int .i64 x.cover, .int .i64 x.gap] 41)).alloc (.cells #[.string ByteArray.empty, .int .i64 0, .int .i64 0, .int .i64 0, .int .i64 0] 41)) (w.heap.size + 1) 41 #[.string ByteArray.empty, .int .i64 0, .int .i64 0, .int .i64 0, .int .i64 0] := by
    have := Own.new (w.alloc (.cells #[.string x.id, .int .i64 x.trees, .int .i64 x.height, .int .i64 x.cover, .int .i64 x.gap] 41)) 41 #[.string ByteArray.empty, .int .i64 0, .int .i64 0, .int .i64 0, .int .i64 0]
    simpa using this
  have hB : Below w.heap.size w ((w.alloc (.cells #[.string x.id, .int .i64 x.trees, .int .i64 x.height, .int .i64 x.cover, .int .i64 x.gap] 41)).alloc (.cells #[.string ByteArray.empty, .int .i64 0, .int .i64 0, .int .i64 0, .int .i64 0] 41)) := ((Below.refl _ _).alloc (Nat.le_refl _) _).alloc (by simp) _
  rcases cases3 x.oneB (inB t 0 2000) (decide (t ≤ x.trees)) with h | ⟨h, h'⟩ | ⟨h, h', h2⟩ | ⟨h, h', h2⟩
  all_goals have HV := Lib.hid h
  all_goals
    go_enter Try.func57, Try.ntmps57
    go_wp2_with fail
    refine (implStandvalid_any x _ hs).mono ?_
    rintro e w1 ⟨rfl, hb⟩
    have ho1 := ho.below' hb
    have hr1 := hr.below' hb
    have hBg := hB.trans (hb.mono hB.size)
    have c0 : w1.cell? ⟨w.heap.size, 0, none⟩ = some (.string x.id) := ho1.cell 0
    have c1 : w1.cell? ⟨w.heap.size, 1, none⟩ = some (.int .i64 x.trees) := ho1.cell 1
    have c2 : w1.cell? ⟨w.heap.size, 2, none⟩ = some (.int .i64 x.height) := ho1.cell 2
    have c3 : w1.cell? ⟨w.heap.size, 3, none⟩ = some (.int .i64 x.cover) := ho1.cell 3
    have c4 : w1.cell? ⟨w.heap.size, 4, none⟩ = some (.int .i64 x.gap) := ho1.cell 4
    have d0 : w1.cell? ⟨w.heap.size + 1, 0, none⟩ = some (.string ByteArray.empty) := hr1.cell 0
    have d1 : w1.cell? ⟨w.heap.size + 1, 1, none⟩ = some (.int .i64 0) := hr1.cell 1
    have d2 : w1.cell? ⟨w.heap.size + 1, 2, none⟩ = some (.int .i64 0) := hr1.cell 2
    have d3 : w1.cell? ⟨w.heap.size + 1, 3, none⟩ = some (.int .i64 0) := hr1.cell 3
    have d4 : w1.cell? ⟨w.heap.size + 1, 4, none⟩ = some (.int .i64 0) := hr1.cell 4
    have f1 : ∀ o, w1.frozen? ⟨w.heap.size + 1, o, none⟩ = false := hr1.frozen
  · go_wp2
    refine bodyPost_ret (v := .tuple #[.agg #[.string ByteArray.empty, .int .i64 0, .int .i64 0, .int .i64 0, .int .i64 0], .int .i64 1]) (by simp [results, Try.results57, go_sem, d0, d1, d2, d3, d4]; rfl) rfl (Ret.mk (by simp [fellS, fellB, HV.out]; rfl) ?_)
    repeat (first | (with_reducible exact hBg) | (with_reducible refine Below.setCell ?_ (by simp) _))
  · have HR := Lib.hid h'
    go_wp2_with (go_at_call 79; refine (within_any _ _ _ _).mono ?_; rintro e w' ⟨rfl, rfl⟩)
    refine bodyPost_ret (v := .tuple #[.agg #[.string ByteArray.empty, .int .i64 0, .int .i64 0, .int .i64 0, .int .i64 0], .int .i64 2]) (by simp [results, Try.results57, go_sem, d0, d1, d2, d3, d4]; rfl) rfl (Ret.mk (by simp [fellS, fellB, HV.out, HR.out]; rfl) ?_)
    repeat (first | (with_reducible exact hBg) | (with_reducible refine Below.setCell ?_ (by simp) _))
  · have HR := Lib.hid h'
    have h3 := of_decide_eq_false h2
    have H3 := Lib.hid h3
    go_wp2_with (go_at_call 79; refine (within_any _ _ _ _).mono ?_; rintro e w' ⟨rfl, rfl⟩)
    refine bodyPost_ret (v := .tuple #[.agg #[.string ByteArray.empty, .int .i64 0, .int .i64 0, .int .i64 0, .int .i64 0], .int .i64 6]) (by simp [results, Try.results57, go_sem, d0, d1, d2, d3, d4]; rfl) rfl (Ret.mk (by unfold fellS fellB; rw [HV.out, HR.out, if_neg (fun h => absurd h.2.2 (by have := H3.out; omega)), if_pos rfl, if_pos rfl, if_neg (by have := H3.out; omega)]; rfl) ?_)
    repeat (first | (with_reducible exact hBg) | (with_reducible refine Below.setCell ?_ (by simp) _))
  · have HR := Lib.hid h'
    have h3 := of_decide_eq_true h2
    have H3 := Lib.hid h3
    have ⟨g1, _⟩ := inB_iff.1 h'
    go_wp2_with (go_at_call 79; refine (within_any _ _ _ _).mono ?_; rintro e w' ⟨rfl, rfl⟩)
    refine (implFelled_any x t _ HV.out g1 h3).mono ?_
    rintro e w2 ⟨rfl, hb2⟩
    have hr2 := hr1.below' hb2
    have hB2 := hBg.trans (hb2.mono hBg.size)
    obtain ⟨y, hy⟩ : ∃ y, fellF x t = y := ⟨_, rfl⟩
    rw [hy]
    have HY := Lib.hid hy
    clear hy c0 c1 c2 c3 c4 d0 d1 d2 d3 d4 f1
    have d0 : w2.cell? ⟨w.heap.size + 1, 0, none⟩ = some (.string ByteArray.empty) := hr2.cell 0
    have d1 : w2.cell? ⟨w.heap.size + 1, 1, none⟩ = some (.int .i64 0) := hr2.cell 1
    have d2 : w2.cell? ⟨w.heap.size + 1, 2, none⟩ = some (.int .i64 0) := hr2.cell 2
    have d3 : w2.cell? ⟨w.heap.size + 1, 3, none⟩ = some (.int .i64 0) := hr2.cell 3
    have d4 : w2.cell? ⟨w.heap.size + 1, 4, none⟩ = some (.int .i64 0) := hr2.cell 4
    have f1 : ∀ o, w2.frozen? ⟨w.heap.size + 1, o, none⟩ = false := hr2.frozen
    unfold Stand.agg
    go_wp2
    refine bodyPost_ret (v := .tuple #[.agg #[.string y.id, .int .i64 y.trees, .int .i64 y.height, .int .i64 y.cover, .int .i64 y.gap], .int .i64 0]) (by simp [results, Try.results57, go_sem, d0, d1, d2, d3, d4]) rfl (Ret.mk (by simp [fellS, fellB, HV.out, HR.out, H3.out, HY.out, Stand.agg]) ?_)
    repeat (first | (with_reducible exact hB2) | (with_reducible refine Below.setCell ?_ (by simp) _))

set_option maxHeartbeats 1000000 in
theorem specFellTrees_any (x : Stand) (t : Int) (w : World) (hs : x.id.size ≤ 9223372036854775807) :
    Calls Try.prog 56 #[.agg #[.string x.id, .int .i64 x.trees, .int .i64 x.height, .int .i64 x.cover, .int .i64 x.gap], .int .i64 t] w (Ret (.tuple #[(fellS x t).agg, .int .i64 (fellB x t)]) w) := by
  have ho := (Own.new w 41 #[.string x.id, .int .i64 x.trees, .int .i64 x.height, .int .i64 x.cover, .int .i64 x.gap]).alloc (.cells #[.string ByteArray.empty, .int .i64 0, .int .i64 0, .int .i64 0, .int .i64 0] 41)
  have hr : Own ((w.alloc (.cells #[.string x.id, .int .i64 x.trees, .int .i64 x.height, .int .i64 x.cover, .int .i64 x.gap] 41)).alloc (.cells #[.string ByteArray.empty, .int .i64 0, .int .i64 0, .int .i64 0, .int .i64 0] 41)) (w.heap.size + 1) 41 #[.string ByteArray.empty, .int .i64 0, .int .i64 0, .int .i64 0, .int .i64 0] := by
    have := Own.new (w.alloc (.cells #[.string x.id, .int .i64 x.trees, .int .i64 x.height, .int .i64 x.cover, .int .i64 x.gap] 41)) 41 #[.string ByteArray.empty, .int .i64 0, .int .i64 0, .int .i64 0, .int .i64 0]
    simpa using this
  have hB : Below w.heap.size w ((w.alloc (.cells #[.string x.id, .int .i64 x.trees, .int .i64 x.height, .int .i64 x.cover, .int .i64 x.gap] 41)).alloc (.cells #[.string ByteArray.empty, .int .i64 0, .int .i64 0, .int .i64 0, .int .i64 0] 41)) := ((Below.refl _ _).alloc (Nat.le_refl _) _).alloc (by simp) _
  rcases cases3 x.oneB (inB t 0 2000) (decide (t ≤ x.trees)) with h | ⟨h, h'⟩ | ⟨h, h', h2⟩ | ⟨h, h', h2⟩
  all_goals have HV := Lib.hid h
  all_goals
    go_enter Try.func56, Try.ntmps56
    go_wp2_with fail
    refine (specStandOne_any x _ _ _ ho.lt hs (ho.cell 0) (ho.cell 1) (ho.cell 2) (ho.cell 3) (ho.cell 4)).mono ?_
    rintro e w1 ⟨rfl, hb⟩
    have ho1 := ho.below' hb
    have hr1 := hr.below' hb
    have hBg := hB.trans (hb.mono hB.size)
    have c0 : w1.cell? ⟨w.heap.size, 0, none⟩ = some (.string x.id) := ho1.cell 0
    have c1 : w1.cell? ⟨w.heap.size, 1, none⟩ = some (.int .i64 x.trees) := ho1.cell 1
    have c2 : w1.cell? ⟨w.heap.size, 2, none⟩ = some (.int .i64 x.height) := ho1.cell 2
    have c3 : w1.cell? ⟨w.heap.size, 3, none⟩ = some (.int .i64 x.cover) := ho1.cell 3
    have c4 : w1.cell? ⟨w.heap.size, 4, none⟩ = some (.int .i64 x.gap) := ho1.cell 4
    have d0 : w1.cell? ⟨w.heap.size + 1, 0, none⟩ = some (.string ByteArray.empty) := hr1.cell 0
    have d1 : w1.cell? ⟨w.heap.size + 1, 1, none⟩ = some (.int .i64 0) := hr1.cell 1
    have d2 : w1.cell? ⟨w.heap.size + 1, 2, none⟩ = some (.int .i64 0) := hr1.cell 2
    have d3 : w1.cell? ⟨w.heap.size + 1, 3, none⟩ = some (.int .i64 0) := hr1.cell 3
    have d4 : w1.cell? ⟨w.heap.size + 1, 4, none⟩ = some (.int .i64 0) := hr1.cell 4
    have f1 : ∀ o, w1.frozen? ⟨w.heap.size + 1, o, none⟩ = false := hr1.frozen
  · go_wp2
    refine bodyPost_ret (v := .tuple #[.agg #[.string ByteArray.empty, .int .i64 0, .int .i64 0, .int .i64 0, .int .i64 0], .int .i64 1]) (by simp [results, Try.results56, go_sem, d0, d1, d2, d3, d4]; rfl) rfl (Ret.mk (by simp [fellS, fellB, HV.out]; rfl) ?_)
    repeat (first | (with_reducible exact hBg) | (with_reducible refine Below.setCell ?_ (by simp) _))
  · have HR := Lib.hid h'
    go_wp2_with (go_at_call 100; refine (l00In_any _ _ _ _).mono ?_; rintro e w' ⟨rfl, rfl⟩)
    refine bodyPost_ret (v := .tuple #[.agg #[.string ByteArray.empty, .int .i64 0, .int .i64 0, .int .i64 0, .int .i64 0], .int .i64 2]) (by simp [results, Try.results56, go_sem, d0, d1, d2, d3, d4]; rfl) rfl (Ret.mk (by simp [fellS, fellB, HV.out, HR.out]; rfl) ?_)
    repeat (first | (with_reducible exact hBg) | (with_reducible refine Below.setCell ?_ (by simp) _))
  · have HR := Lib.hid h'
    have h3 := of_decide_eq_false h2
    have H3 := Lib.hid h3
    go_wp2_with (go_at_call 100; refine (l00In_any _ _ _ _).mono ?_; rintro e w' ⟨rfl, rfl⟩)
    refine bodyPost_ret (v := .tuple #[.agg #[.string ByteArray.empty, .int .i64 0, .int .i64 0, .int .i64 0, .int .i64 0], .int .i64 6]) (by simp [results, Try.results56, go_sem, d0, d1, d2, d3, d4]; rfl) rfl (Ret.mk (by unfold fellS fellB; rw [HV.out, HR.out, if_neg (fun h => absurd h.2.2 (by have := H3.out; omega)), if_pos rfl, if_pos rfl, if_neg (by have := H3.out; omega)]; rfl) ?_)
    repeat (first | (with_reducible exact hBg) | (with_reducible refine Below.setCell ?_ (by simp) _))
  · have HR := Lib.hid h'
    have h3 := of_decide_eq_true h2
    have H3 := Lib.hid h3
    have ⟨g1, _⟩ := inB_iff.1 h'
    go_wp2_with (go_at_call 100; refine (l00In_any _ _ _ _).mono ?_; rintro e w' ⟨rfl, rfl⟩)
    refine (specFelled_any x t _ HV.out g1 h3).mono ?_
    rintro e w2 ⟨rfl, hb2⟩
    have hr2 := hr1.below' hb2
    have hB2 := hBg.trans (hb2.mono hBg.size)
    obtain ⟨y, hy⟩ : ∃ y, fellF x t = y := ⟨_, rfl⟩
    rw [hy]
    have HY := Lib.hid hy
    clear hy c0 c1 c2 c3 c4 d0 d1 d2 d3 d4 f1
    have d0 : w2.cell? ⟨w.heap.size + 1, 0, none⟩ = some (.string ByteArray.empty) := hr2.cell 0
    have d1 : w2.cell? ⟨w.heap.size + 1, 1, none⟩ = some (.int .i64 0) := hr2.cell 1
    have d2 : w2.cell? ⟨w.heap.size + 1, 2, none⟩ = some (.int .i64 0) := hr2.cell 2
    have d3 : w2.cell? ⟨w.heap.size + 1, 3, none⟩ = some (.int .i64 0) := hr2.cell 3
    have d4 : w2.cell? ⟨w.heap.size + 1, 4, none⟩ = some (.int .i64 0) := hr2.cell 4
    have f1 : ∀ o, w2.frozen? ⟨w.heap.size + 1, o, none⟩ = false := hr2.frozen
    unfold Stand.agg
    go_wp2
    refine bodyPost_ret (v := .tuple #[.agg #[.string y.id, .int .i64 y.trees, .int .i64 y.height, .int .i64 y.cover, .int .i64 y.gap], .int .i64 0]) (by simp [results, Try.results56, go_sem, d0, d1, d2, d3, d4]) rfl (Ret.mk (by simp [fellS, fellB, HV.out, HR.out, H3.out, HY.out, Stand.agg]) ?_)
    repeat (first | (with_reducible exact hB2) | (with_reducible refine Below.setCell ?_ (by simp) _))

end Go.Proofs.Ytlfnkgfkimanaaa
