/- StepGate of the program and of the reference. -/
import Derived.Test.YtlfnkgfkimanaaaOGate
namespace Go.Proofs.Ytlfnkgfkimanaaa
open Go.RowKit

def stepF (x : Gate) (h : Int) : Gate :=
  if x.shuts = false then ⟨x.id, x.shut, x.open_, x.hold, decide (x.shut ≤ h), x.calm⟩
  else if x.open_ ≤ h then ⟨x.id, x.shut, x.open_, x.hold, x.shuts, 0⟩
  else if x.hold ≤ x.calm + 1 then ⟨x.id, x.shut, x.open_, x.hold, false, 0⟩
  else ⟨x.id, x.shut, x.open_, x.hold, x.shuts, x.calm + 1⟩
def Gate.agg (x : Gate) : Value := .agg #[.string x.id, .int .i64 x.shut, .int .i64 x.open_, .int .i64 x.hold, .bool x.shuts, .int .i64 x.calm]
def Gate.zero : Gate := ⟨ByteArray.empty, 0, 0, 0, false, 0⟩
def stepS (x : Gate) (h : Int) : Gate := if x.oneB = true ∧ inB h 0 1000 = true then stepF x h else Gate.zero
def stepB (x : Gate) (h : Int) : Int := if x.oneB = true then (if inB h 0 1000 = true then 0 else 2) else 1

set_option maxHeartbeats 1000000 in
theorem implStep_any (x : Gate) (h : Int) (w : World) (hv : x.oneB = true) :
    Calls Try.prog 98 #[.agg #[.string x.id, .int .i64 x.shut, .int .i64 x.open_, .int .i64 x.hold, .bool x.shuts, .int .i64 x.calm], .int .i64 h] w (Ret (stepF x h).agg w) := by
  have hf := Gate.oneB_facts hv
  have ⟨_, _⟩ := hf.2.2.2.1
  have ⟨_, _⟩ := hf.2.2.2.2.1
  clear hf hv
  cases hs : x.shuts
  · have HS : Hid (stepF x h = ⟨x.id, x.shut, x.open_, x.hold, decide (x.shut ≤ h), x.calm⟩) := by unfold Hid stepF; rw [if_pos hs]
    go_enter Try.func98, Try.ntmps98
    go_wp2
    refine bodyPost_ret (v := .agg #[.string x.id, .int .i64 x.shut, .int .i64 x.open_, .int .i64 x.hold, .bool (decide (x.shut ≤ h)), .int .i64 x.calm]) (by simp [results, Try.results98, go_sem]) rfl (Ret.mk (by rw [HS.out]; rfl) ?_)
    repeat (first | (with_reducible exact Below.refl _ _) | (with_reducible refine Below.setCell ?_ (by simp) _) | (with_reducible refine Below.alloc ?_ (by simp) _))
  · by_cases h1 : x.open_ ≤ h
    · have HS : Hid (stepF x h = ⟨x.id, x.shut, x.open_, x.hold, true, 0⟩) := by unfold Hid stepF; rw [if_neg (by rw [hs]; simp), if_pos h1, hs]
      go_enter Try.func98, Try.ntmps98
      go_wp2
      refine bodyPost_ret (v := .agg #[.string x.id, .int .i64 x.shut, .int .i64 x.open_, .int .i64 x.hold, .bool true, .int .i64 0]) (by simp [results, Try.results98, go_sem]) rfl (Ret.mk (by rw [HS.out]; rfl) ?_)
      repeat (first | (with_reducible exact Below.refl _ _) | (with_reducible refine Below.setCell ?_ (by simp) _) | (with_reducible refine Below.alloc ?_ (by simp) _))
    · by_cases h2 : x.calm + 1 = x.hold
      · have HS : Hid (stepF x h = ⟨x.id, x.shut, x.open_, x.hold, false, 0⟩) := by unfold Hid stepF; rw [if_neg (by rw [hs]; simp), if_neg h1, if_pos (by omega)]
        have h2' : (x.calm + 1 == x.hold) = true := by simp [h2]
        have H2 := Lib.hid h2
        clear h2
        go_enter Try.func98, Try.ntmps98
        go_wp2
        refine bodyPost_ret (v := .agg #[.string x.id, .int .i64 x.shut, .int .i64 x.open_, .int .i64 x.hold, .bool false, .int .i64 0]) (by simp [results, Try.results98, go_sem]) rfl (Ret.mk (by rw [HS.out]; rfl) ?_)
        repeat (first | (with_reducible exact Below.refl _ _) | (with_reducible refine Below.setCell ?_ (by simp) _) | (with_reducible refine Below.alloc ?_ (by simp) _))
      · have HS : Hid (stepF x h = ⟨x.id, x.shut, x.open_, x.hold, true, x.calm + 1⟩) := by unfold Hid stepF; rw [if_neg (by rw [hs]; simp), if_neg h1, if_neg (by omega), hs]
        have h2' : (x.calm + 1 == x.hold) = false := by simp [h2]
        go_enter Try.func98, Try.ntmps98
        go_wp2
        refine bodyPost_ret (v := .agg #[.string x.id, .int .i64 x.shut, .int .i64 x.open_, .int .i64 x.hold, .bool true, .int .i64 (x.calm + 1)]) (by simp [results, Try.results98, go_sem]) rfl (Ret.mk (by rw [HS.out]; rfl) ?_)
        repeat (first | (with_reducible exact Below.refl _ _) | (with_reducible refine Below.setCell ?_ (by simp) _) | (with_reducible refine Below.alloc ?_ (by simp) _))

set_option maxHeartbeats 1000000 in
theorem specStep_any (x : Gate) (h : Int) (w : World) (hv : x.oneB = true) :
    Calls Try.prog 95 #[.agg #[.string x.id, .int .i64 x.shut, .int .i64 x.open_, .int .i64 x.hold, .bool x.shuts, .int .i64 x.calm], .int .i64 h] w (Ret (stepF x h).agg w) := by
  have hf := Gate.oneB_facts hv
  have ⟨_, _⟩ := hf.2.2.2.1
  have ⟨_, _⟩ := hf.2.2.2.2.1
  clear hf hv
  cases hs : x.shuts
  · have HS : Hid (stepF x h = ⟨x.id, x.shut, x.open_, x.hold, decide (x.shut ≤ h), x.calm⟩) := by unfold Hid stepF; rw [if_pos hs]
    go_enter Try.func95, Try.ntmps95
    go_wp2
    refine bodyPost_ret (v := .agg #[.string x.id, .int .i64 x.shut, .int .i64 x.open_, .int .i64 x.hold, .bool (decide (x.shut ≤ h)), .int .i64 x.calm]) (by simp [results, Try.results95, go_sem]) rfl (Ret.mk (by rw [HS.out]; rfl) ?_)
    repeat (first | (with_reducible exact Below.refl _ _) | (with_reducible refine Below.setCell ?_ (by simp) _) | (with_reducible refine Below.alloc ?_ (by simp) _))
  · by_cases h1 : x.open_ ≤ h
    · have HS : Hid (stepF x h = ⟨x.id, x.shut, x.open_, x.hold, true, 0⟩) := by unfold Hid stepF; rw [if_neg (by rw [hs]; simp), if_pos h1, hs]
      go_enter Try.func95, Try.ntmps95
      go_wp2
      refine bodyPost_ret (v := .agg #[.string x.id, .int .i64 x.shut, .int .i64 x.open_, .int .i64 x.hold, .bool true, .int .i64 0]) (by simp [results, Try.results95, go_sem]) rfl (Ret.mk (by rw [HS.out]; rfl) ?_)
      repeat (first | (with_reducible exact Below.refl _ _) | (with_reducible refine Below.setCell ?_ (by simp) _) | (with_reducible refine Below.alloc ?_ (by simp) _))
    · by_cases h2 : x.calm + 1 = x.hold
      · have HS : Hid (stepF x h = ⟨x.id, x.shut, x.open_, x.hold, false, 0⟩) := by unfold Hid stepF; rw [if_neg (by rw [hs]; simp), if_neg h1, if_pos (by omega)]
        have h2' : x.hold ≤ x.calm + 1 := by omega
        have H2 := Lib.hid h2
        clear h2
        go_enter Try.func95, Try.ntmps95
        go_wp2
        refine bodyPost_ret (v := .agg #[.string x.id, .int .i64 x.shut, .int .i64 x.open_, .int .i64 x.hold, .bool false, .int .i64 0]) (by simp [results, Try.results95, go_sem]) rfl (Ret.mk (by rw [HS.out]; rfl) ?_)
        repeat (first | (with_reducible exact Below.refl _ _) | (with_reducible refine Below.setCell ?_ (by simp) _) | (with_reducible refine Below.alloc ?_ (by simp) _))
      · have HS : Hid (stepF x h = ⟨x.id, x.shut, x.open_, x.hold, true, x.calm + 1⟩) := by unfold Hid stepF; rw [if_neg (by rw [hs]; simp), if_neg h1, if_neg (by omega), hs]
        have h2' : decide (x.hold ≤ x.calm + 1) = false := decide_eq_false (by omega)
        go_enter Try.func95, Try.ntmps95
        go_wp2
        refine bodyPost_ret (v := .agg #[.string x.id, .int .i64 x.shut, .int .i64 x.open_, .int .i64 x.hold, .bool true, .int .i64 (x.calm + 1)]) (by simp [results, Try.results95, go_sem]) rfl (Ret.mk (by rw [HS.out]; rfl) ?_)
        repeat (first | (with_reducible exact Below.refl _ _) | (with_reducible refine Below.setCell ?_ (by simp) _) | (with_reducible refine Below.alloc ?_ (by simp) _))

theorem hazardOk_any (n : Int) (w : World) : Calls Try.prog 97 #[.int .i64 n] w (RetS (.bool (inB n 0 1000)) w) := by
  go_enter Try.func97, Try.ntmps97
  go_wp2_with (go_at_call 79; refine (within_any _ _ _ _).mono ?_; rintro e w' ⟨rfl, rfl⟩)
  go_ret
  exact RetS.b rfl
theorem l21Hazard_any (n : Int) (w : World) : Calls Try.prog 94 #[.int .i64 n] w (RetS (.bool (inB n 0 1000)) w) := by
  go_enter Try.func94, Try.ntmps94
  go_wp2_with (go_at_call 100; refine (l00In_any _ _ _ _).mono ?_; rintro e w' ⟨rfl, rfl⟩)
  go_ret
  exact RetS.b rfl

set_option maxHeartbeats 1000000 in
theorem implStepGate_any (x : Gate) (h : Int) (w : World) (hs : x.id.size ≤ 9223372036854775807) :
    Calls Try.prog 47 #[.agg #[.string x.id, .int .i64 x.shut, .int .i64 x.open_, .int .i64 x.hold, .bool x.shuts, .int .i64 x.calm], .int .i64 h] w (Ret (.tuple #[(stepS x h).agg, .int .i64 (stepB x h)]) w) := by
  have ho := (Own.new w 68 #[.string x.id, .int .i64 x.shut, .int .i64 x.open_, .int .i64 x.hold, .bool x.shuts, .int .i64 x.calm]).alloc (.cells #[.string ByteArray.empty, .int .i64 0, .int .i64 0, .int .i64 0, .bool false, .int .i64 0] 68)
  have hr : Own ((w.alloc (.cells #[.string x.id, .int .i64 x.shut, .int .i64 x.open_, .int .i64 x.hold, .bool x.shuts, .int .i64 x.calm] 68)).alloc (.cells #[.string ByteArray.empty, .int .i64 0, .int .i64 0, .int .i64 0, .bool false, .int .i64 0] 68)) (w.heap.size + 1) 68 #[.string ByteArray.empty, .int .i64 0, .int .i64 0, .int .i64 0, .bool false, .int .i64 0] := by
    have := Own.new (w.alloc (.cells #[.string x.id, .int .i64 x.shut, .int .i64 x.open_, .int .i64 x.hold, .bool x.shuts, .int .i64 x.calm] 68)) 68 #[.string ByteArray.empty, .int .i64 0, .int .i64 0, .int .i64 0, .bool false, .int .i64 0]
    simpa using this
  have hB : Below w.heap.size w ((w.alloc (.cells #[.string x.id, .int .i64 x.shut, .int .i64 x.open_, .int .i64 x.hold, .bool x.shuts, .int .i64 x.calm] 68)).alloc (.cells #[.string ByteArray.empty, .int .i64 0, .int .i64 0, .int .i64 0, .bool false, .int .i64 0] 68)) := ((Below.refl _ _).alloc (Nat.le_refl _) _).alloc (by simp) _
  rcases cases2 x.oneB (inB h 0 1000) with h1 | ⟨h1, h2⟩ | ⟨h1, h2⟩
  all_goals have HV := Lib.hid h1
  all_goals
    go_enter Try.func47, Try.ntmps47
    go_wp2_with fail
    refine (implGatevalid_any x _ hs).mono ?_
    rintro e w1 ⟨rfl, hb⟩
    have ho1 := ho.below' hb
    have hr1 := hr.below' hb
    have hBg := hB.trans (hb.mono hB.size)
    have c0 : w1.cell? ⟨w.heap.size, 0, none⟩ = some (.string x.id) := ho1.cell 0
    have c1 : w1.cell? ⟨w.heap.size, 1, none⟩ = some (.int .i64 x.shut) := ho1.cell 1
    have c2 : w1.cell? ⟨w.heap.size, 2, none⟩ = some (.int .i64 x.open_) := ho1.cell 2
    have c3 : w1.cell? ⟨w.heap.size, 3, none⟩ = some (.int .i64 x.hold) := ho1.cell 3
    have c4 : w1.cell? ⟨w.heap.size, 4, none⟩ = some (.bool x.shuts) := ho1.cell 4
    have c5 : w1.cell? ⟨w.heap.size, 5, none⟩ = some (.int .i64 x.calm) := ho1.cell 5
    have d0 : w1.cell? ⟨w.heap.size + 1, 0, none⟩ = some (.string ByteArray.empty) := hr1.cell 0
    have d1 : w1.cell? ⟨w.heap.size + 1, 1, none⟩ = some (.int .i64 0) := hr1.cell 1
    have d2 : w1.cell? ⟨w.heap.size + 1, 2, none⟩ = some (.int .i64 0) := hr1.cell 2
    have d3 : w1.cell? ⟨w.heap.size + 1, 3, none⟩ = some (.int .i64 0) := hr1.cell 3
    have d4 : w1.cell? ⟨w.heap.size + 1, 4, none⟩ = some (.bool false) := hr1.cell 4
    have d5 : w1.cell? ⟨w.heap.size + 1, 5, none⟩ = some (.int .i64 0) := hr1.cell 5
    have f1 : ∀ o, w1.frozen? ⟨w.heap.size + 1, o, none⟩ = false := hr1.frozen
  · go_wp2
    refine bodyPost_ret (v := .tuple #[.agg #[.string ByteArray.empty, .int .i64 0, .int .i64 0, .int .i64 0, .bool false, .int .i64 0], .int .i64 1]) (by simp [results, Try.results47, go_sem, d0, d1, d2, d3, d4, d5]; rfl) rfl (Ret.mk (by simp [stepS, stepB, HV.out]; rfl) ?_)
    repeat (first | (with_reducible exact hBg) | (with_reducible refine Below.setCell ?_ (by simp) _))
  · have HR := Lib.hid h2
    go_wp2_with (go_at_call 97; refine (hazardOk_any _ _).mono ?_; rintro e w' ⟨rfl, rfl⟩)
    refine bodyPost_ret (v := .tuple #[.agg #[.string ByteArray.empty, .int .i64 0, .int .i64 0, .int .i64 0, .bool false, .int .i64 0], .int .i64 2]) (by simp [results, Try.results47, go_sem, d0, d1, d2, d3, d4, d5]; rfl) rfl (Ret.mk (by simp [stepS, stepB, HV.out, HR.out]; rfl) ?_)
    repeat (first | (with_reducible exact hBg) | (with_reducible refine Below.setCell ?_ (by simp) _))
  · have HR := Lib.hid h2
    go_wp2_with (go_at_call 97; refine (hazardOk_any _ _).mono ?_; rintro e w' ⟨rfl, rfl⟩)
    refine (implStep_any x h _ HV.out).mono ?_
    rintro e w2 ⟨rfl, hb2⟩
    have hr2 := hr1.below' hb2
    have hB2 := hBg.trans (hb2.mono hBg.size)
    obtain ⟨y, hy⟩ : ∃ y, stepF x h = y := ⟨_, rfl⟩
    rw [hy]
    have HY := Lib.hid hy
    clear hy c0 c1 c2 c3 c4 c5 d0 d1 d2 d3 d4 d5 f1
    have d0 : w2.cell? ⟨w.heap.size + 1, 0, none⟩ = some (.string ByteArray.empty) := hr2.cell 0
    have d1 : w2.cell? ⟨w.heap.size + 1, 1, none⟩ = some (.int .i64 0) := hr2.cell 1
    have d2 : w2.cell? ⟨w.heap.size + 1, 2, none⟩ = some (.int .i64 0) := hr2.cell 2
    have d3 : w2.cell? ⟨w.heap.size + 1, 3, none⟩ = some (.int .i64 0) := hr2.cell 3
    have d4 : w2.cell? ⟨w.heap.size + 1, 4, none⟩ = some (.bool false) := hr2.cell 4
    have d5 : w2.cell? ⟨w.heap.size + 1, 5, none⟩ = some (.int .i64 0) := hr2.cell 5
    have f1 : ∀ o, w2.frozen? ⟨w.heap.size + 1, o, none⟩ = false := hr2.frozen
    unfold Gate.agg
    go_wp2
    refine bodyPost_ret (v := .tuple #[.agg #[.string y.id, .int .i64 y.shut, .int .i64 y.open_, .int .i64 y.hold, .bool y.shuts, .int .i64 y.calm], .int .i64 0]) (by simp [results, Try.results47, go_sem, d0, d1, d2, d3, d4, d5]) rfl (Ret.mk (by simp [stepS, stepB, HV.out, HR.out, HY.out, Gate.agg]) ?_)
    repeat (first | (with_reducible exact hB2) | (with_reducible refine Below.setCell ?_ (by simp) _))

set_option maxHeartbeats 1000000 in
theorem specStepGate_any (x : Gate) (h : Int) (w : World) (hs : x.id.size ≤ 9223372036854775807) :
    Calls Try.prog 45 #[.agg #[.string x.id, .int .i64 x.shut, .int .i64 x.open_, .int .i64 x.hold, .bool x.shuts, .int .i64 x.calm], .int .i64 h] w (Ret (.tuple #[(stepS x h).agg, .int .i64 (stepB x h)]) w) := by
  have ho := (Own.new w 68 #[.string x.id, .int .i64 x.shut, .int .i64 x.open_, .int .i64 x.hold, .bool x.shuts, .int .i64 x.calm]).alloc (.cells #[.string ByteArray.empty, .int .i64 0, .int .i64 0, .int .i64 0, .bool false, .int .i64 0] 68)
  have hr : Own ((w.alloc (.cells #[.string x.id, .int .i64 x.shut, .int .i64 x.open_, .int .i64 x.hold, .bool x.shuts, .int .i64 x.calm] 68)).alloc (.cells #[.string ByteArray.empty, .int .i64 0, .int .i64 0, .int .i64 0, .bool false, .int .i64 0] 68)) (w.heap.size + 1) 68 #[.string ByteArray.empty, .int .i64 0, .int .i64 0, .int .i64 0, .bool false, .int .i64 0] := by
    have := Own.new (w.alloc (.cells #[.string x.id, .int .i64 x.shut, .int .i64 x.open_, .int .i64 x.hold, .bool x.shuts, .int .i64 x.calm] 68)) 68 #[.string ByteArray.empty, .int .i64 0, .int .i64 0, .int .i64 0, .bool false, .int .i64 0]
    simpa using this
  have hB : Below w.heap.size w ((w.alloc (.cells #[.string x.id, .int .i64 x.shut, .int .i64 x.open_, .int .i64 x.hold, .bool x.shuts, .int .i64 x.calm] 68)).alloc (.cells #[.string ByteArray.empty, .int .i64 0, .int .i64 0, .int .i64 0, .bool false, .int .i64 0] 68)) := ((Below.refl _ _).alloc (Nat.le_refl _) _).alloc (by simp) _
  rcases cases2 x.oneB (inB h 0 1000) with h1 | ⟨h1, h2⟩ | ⟨h1, h2⟩
  all_goals have HV := Lib.hid h1
  all_goals
    go_enter Try.func45, Try.ntmps45
    go_wp2_with fail
    refine (specGateOne_any x _ _ _ ho.lt hs (ho.cell 0) (ho.cell 1) (ho.cell 2) (ho.cell 3) (ho.cell 4) (ho.cell 5)).mono ?_
    rintro e w1 ⟨rfl, hb⟩
    have ho1 := ho.below' hb
    have hr1 := hr.below' hb
    have hBg := hB.trans (hb.mono hB.size)
    have c0 : w1.cell? ⟨w.heap.size, 0, none⟩ = some (.string x.id) := ho1.cell 0
    have c1 : w1.cell? ⟨w.heap.size, 1, none⟩ = some (.int .i64 x.shut) := ho1.cell 1
    have c2 : w1.cell? ⟨w.heap.size, 2, none⟩ = some (.int .i64 x.open_) := ho1.cell 2
    have c3 : w1.cell? ⟨w.heap.size, 3, none⟩ = some (.int .i64 x.hold) := ho1.cell 3
    have c4 : w1.cell? ⟨w.heap.size, 4, none⟩ = some (.bool x.shuts) := ho1.cell 4
    have c5 : w1.cell? ⟨w.heap.size, 5, none⟩ = some (.int .i64 x.calm) := ho1.cell 5
    have d0 : w1.cell? ⟨w.heap.size + 1, 0, none⟩ = some (.string ByteArray.empty) := hr1.cell 0
    have d1 : w1.cell? ⟨w.heap.size + 1, 1, none⟩ = some (.int .i64 0) := hr1.cell 1
    have d2 : w1.cell? ⟨w.heap.size + 1, 2, none⟩ = some (.int .i64 0) := hr1.cell 2
    have d3 : w1.cell? ⟨w.heap.size + 1, 3, none⟩ = some (.int .i64 0) := hr1.cell 3
    have d4 : w1.cell? ⟨w.heap.size + 1, 4, none⟩ = some (.bool false) := hr1.cell 4
    have d5 : w1.cell? ⟨w.heap.size + 1, 5, none⟩ = some (.int .i64 0) := hr1.cell 5
    have f1 : ∀ o, w1.frozen? ⟨w.heap.size + 1, o, none⟩ = false := hr1.frozen
  · go_wp2
    refine bodyPost_ret (v := .tuple #[.agg #[.string ByteArray.empty, .int .i64 0, .int .i64 0, .int .i64 0, .bool false, .int .i64 0], .int .i64 1]) (by simp [results, Try.results45, go_sem, d0, d1, d2, d3, d4, d5]; rfl) rfl (Ret.mk (by simp [stepS, stepB, HV.out]; rfl) ?_)
    repeat (first | (with_reducible exact hBg) | (with_reducible refine Below.setCell ?_ (by simp) _))
  · have HR := Lib.hid h2
    go_wp2_with (go_at_call 94; refine (l21Hazard_any _ _).mono ?_; rintro e w' ⟨rfl, rfl⟩)
    refine bodyPost_ret (v := .tuple #[.agg #[.string ByteArray.empty, .int .i64 0, .int .i64 0, .int .i64 0, .bool false, .int .i64 0], .int .i64 2]) (by simp [results, Try.results45, go_sem, d0, d1, d2, d3, d4, d5]; rfl) rfl (Ret.mk (by simp [stepS, stepB, HV.out, HR.out]; rfl) ?_)
    repeat (first | (with_reducible exact hBg) | (with_reducible refine Below.setCell ?_ (by simp) _))
  · have HR := Lib.hid h2
    go_wp2_with (go_at_call 94; refine (l21Hazard_any _ _).mono ?_; rintro e w' ⟨rfl, rfl⟩)
    refine (specStep_any x h _ HV.out).mono ?_
    rintro e w2 ⟨rfl, hb2⟩
    have hr2 := hr1.below' hb2
    have hB2 := hBg.trans (hb2.mono hBg.size)
    obtain ⟨y, hy⟩ : ∃ y, stepF x h = y := ⟨_, rfl⟩
    rw [hy]
    have HY := Lib.hid hy
    clear hy c0 c1 c2 c3 c4 c5 d0 d1 d2 d3 d4 d5 f1
    have d0 : w2.cell? ⟨w.heap.size + 1, 0, none⟩ = some (.string ByteArray.empty) := hr2.cell 0
    have d1 : w2.cell? ⟨w.heap.size + 1, 1, none⟩ = some (.int .i64 0) := hr2.cell 1
    have d2 : w2.cell? ⟨w.heap.size + 1, 2, none⟩ = some (.int .i64 0) := hr2.cell 2
    have d3 : w2.cell? ⟨w.heap.size + 1, 3, none⟩ = some (.int .i64 0) := hr2.cell 3
    have d4 : w2.cell? ⟨w.heap.size + 1, 4, none⟩ = some (.bool false) := hr2.cell 4
    have d5 : w2.cell? ⟨w.heap.size + 1, 5, none⟩ = some (.int .i64 0) := hr2.cell 5
    have f1 : ∀ o, w2.frozen? ⟨w.heap.size + 1, o, none⟩ = false := hr2.frozen
    unfold Gate.agg
    go_wp2
    refine bodyPost_ret (v := .tuple #[.agg #[.string y.id, .int .i64 y.shut, .int .i64 y.open_, .int .i64 y.hold, .bool y.shuts, .int .i64 y.calm], .int .i64 0]) (by simp [results, Try.results45, go_sem, d0, d1, d2, d3, d4, d5]) rfl (Ret.mk (by simp [stepS, stepB, HV.out, HR.out, HY.out, Gate.agg]) ?_)
    repeat (first | (with_reducible exact hB2) | (with_reducible refine Below.setCell ?_ (by simp) _))

end Go.Proofs.Ytlfnkgfkimanaaa
