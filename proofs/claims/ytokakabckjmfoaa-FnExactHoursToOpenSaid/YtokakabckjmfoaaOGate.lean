/- When one Gate is valid, and the hours to its opening: the program's and the reference's functions return the same. -/
import Derived.Test.YtokakabckjmfoaaBase
import Derived.Test.YtokakabckjmfoaaTGate
namespace Go.Proofs.Ytokakabckjmfoaa
open Go.RowKit

def Gate.oneB (x : Gate) : Bool := isNameB x.id && inB x.shut 1 1000 && inB x.open_ 0 x.shut && inB x.hold 1 48 && inB x.calm 0 (x.hold - 1) && (x.shuts || x.calm == 0)
def hoursA (x : Gate) : Int := if x.oneB = true ∧ x.shuts = true then x.hold - x.calm else 0
def hoursB (x : Gate) : Int := if x.oneB = true then 0 else 1
theorem Gate.oneB_facts {x : Gate} (h : x.oneB = true) : isNameB x.id = true ∧ (1 ≤ x.shut ∧ x.shut ≤ 1000) ∧ (0 ≤ x.open_ ∧ x.open_ ≤ x.shut) ∧ (1 ≤ x.hold ∧ x.hold ≤ 48) ∧ (0 ≤ x.calm ∧ x.calm ≤ x.hold - 1) ∧ (x.shuts = true ∨ x.calm = 0) := by
  unfold Gate.oneB at h
  simp only [Bool.and_eq_true, Bool.or_eq_true, inB_iff, beq_iff_eq] at h
  exact ⟨h.1.1.1.1.1, h.1.1.1.1.2, h.1.1.1.2, h.1.1.2, h.1.2, h.2⟩

set_option maxHeartbeats 2000000 in
theorem implGatevalid_any (x : Gate) (w : World) (hs : x.id.size ≤ 9223372036854775807) : Calls Try.prog 67 #[.agg #[.string x.id, .int .i64 x.shut, .int .i64 x.open_, .int .i64 x.hold, .bool x.shuts, .int .i64 x.calm]] w (Ret (.bool x.oneB) w) := by
  rcases cases5 (isNameB x.id) (inB x.shut 1 1000) (inB x.open_ 0 x.shut) (inB x.hold 1 48) (inB x.calm 0 (x.hold - 1)) with h0 | ⟨h0, h1⟩ | ⟨h0, h1, h2⟩ | ⟨h0, h1, h2, h3⟩ | ⟨h0, h1, h2, h3, h4⟩ | ⟨h0, h1, h2, h3, h4⟩
  · skip
    go_enter Try.func67, Try.ntmps67
    go_wp2_with (first | (go_at_call 107; refine (IsName_any _ _ hs).mono ?_; rintro e w' ⟨rfl, rfl⟩) | (go_at_call 63; refine (within_any _ _ _ _).mono ?_; rintro e w' ⟨rfl, rfl⟩))
    all_goals (go_ret; exact Ret.b (by simp_all [Gate.oneB]) ((Below.refl _ _).alloc (Nat.le_refl _) _))
  · skip
    go_enter Try.func67, Try.ntmps67
    go_wp2_with (first | (go_at_call 107; refine (IsName_any _ _ hs).mono ?_; rintro e w' ⟨rfl, rfl⟩) | (go_at_call 63; refine (within_any _ _ _ _).mono ?_; rintro e w' ⟨rfl, rfl⟩))
    all_goals (go_ret; exact Ret.b (by simp_all [Gate.oneB]) ((Below.refl _ _).alloc (Nat.le_refl _) _))
  · skip
    have ⟨_, _⟩ := inB_iff.1 h1
    go_enter Try.func67, Try.ntmps67
    go_wp2_with (first | (go_at_call 107; refine (IsName_any _ _ hs).mono ?_; rintro e w' ⟨rfl, rfl⟩) | (go_at_call 63; refine (within_any _ _ _ _).mono ?_; rintro e w' ⟨rfl, rfl⟩))
    all_goals (go_ret; exact Ret.b (by simp_all [Gate.oneB]) ((Below.refl _ _).alloc (Nat.le_refl _) _))
  · skip
    have ⟨_, _⟩ := inB_iff.1 h1
    have ⟨_, _⟩ := inB_iff.1 h2
    go_enter Try.func67, Try.ntmps67
    go_wp2_with (first | (go_at_call 107; refine (IsName_any _ _ hs).mono ?_; rintro e w' ⟨rfl, rfl⟩) | (go_at_call 63; refine (within_any _ _ _ _).mono ?_; rintro e w' ⟨rfl, rfl⟩))
    all_goals (go_ret; exact Ret.b (by simp_all [Gate.oneB]) ((Below.refl _ _).alloc (Nat.le_refl _) _))
  · skip
    have ⟨_, _⟩ := inB_iff.1 h1
    have ⟨_, _⟩ := inB_iff.1 h2
    have ⟨_, _⟩ := inB_iff.1 h3
    go_enter Try.func67, Try.ntmps67
    go_wp2_with (first | (go_at_call 107; refine (IsName_any _ _ hs).mono ?_; rintro e w' ⟨rfl, rfl⟩) | (go_at_call 63; refine (within_any _ _ _ _).mono ?_; rintro e w' ⟨rfl, rfl⟩))
    all_goals (go_ret; exact Ret.b (by simp_all [Gate.oneB]) ((Below.refl _ _).alloc (Nat.le_refl _) _))
  · skip
    have ⟨_, _⟩ := inB_iff.1 h1
    have ⟨_, _⟩ := inB_iff.1 h2
    have ⟨_, _⟩ := inB_iff.1 h3
    have ⟨_, _⟩ := inB_iff.1 h4
    go_enter Try.func67, Try.ntmps67
    go_wp2_with (first | (go_at_call 107; refine (IsName_any _ _ hs).mono ?_; rintro e w' ⟨rfl, rfl⟩) | (go_at_call 63; refine (within_any _ _ _ _).mono ?_; rintro e w' ⟨rfl, rfl⟩))
    all_goals (go_ret; exact Ret.b (by simp_all [Gate.oneB]) ((Below.refl _ _).alloc (Nat.le_refl _) _))

set_option maxHeartbeats 4000000 in
theorem specGateOne_any (x : Gate) (b off : Nat) (w : World) (hb : b < w.heap.size) (hs : x.id.size ≤ 9223372036854775807) (x0 : w.cell? ⟨b, off, none⟩ = some (.string x.id)) (x1 : w.cell? ⟨b, off + 1, none⟩ = some (.int .i64 x.shut)) (x2 : w.cell? ⟨b, off + 2, none⟩ = some (.int .i64 x.open_)) (x3 : w.cell? ⟨b, off + 3, none⟩ = some (.int .i64 x.hold)) (x4 : w.cell? ⟨b, off + 4, none⟩ = some (.bool x.shuts)) (x5 : w.cell? ⟨b, off + 5, none⟩ = some (.int .i64 x.calm)) :
    Calls Try.prog 66 #[.pointer (some ⟨b, off, none⟩)] w (Ret (.bool x.oneB) w) := by
  have hsub := fun (g : Sub w) b o (h : b < w.heap.size) => g.cell b o h
  rcases cases5 (isNameB x.id) (inB x.shut 1 1000) (inB x.open_ 0 x.shut) (inB x.hold 1 48) (inB x.calm 0 (x.hold - 1)) with h0 | ⟨h0, h1⟩ | ⟨h0, h1, h2⟩ | ⟨h0, h1, h2, h3⟩ | ⟨h0, h1, h2, h3, h4⟩ | ⟨h0, h1, h2, h3, h4⟩
  · skip
    go_enter Try.func66, Try.ntmps66
    go_wp2_with fail
    refine wp_region_sub (by kernel_rfl) (by kernel_rfl) ?_
    repeat (go_big_quiet_step (exact Calls.sub_of_same_eq (l01Name_any _ _ hs) (congrArg Value.bool h0)))
    refine wpQuiet_nil ?_
    intro wg hg
    have hcg := fun b o (h : b < w.heap.size) => hg.cell (p := ⟨b, o, none⟩) h
    go_wp2
    all_goals (go_ret; exact Ret.b (by simp_all [Gate.oneB]) hg)
  · skip
    go_enter Try.func66, Try.ntmps66
    go_wp2_with fail
    refine wp_region_sub (by kernel_rfl) (by kernel_rfl) ?_
    repeat (go_big_quiet_step (first | exact Calls.sub_of_same_eq (l01Name_any _ _ hs) (congrArg Value.bool h0) | exact Calls.sub_of_same_eq (l00In_any _ _ _ _) (congrArg Value.bool h1)))
    refine wpQuiet_nil ?_
    intro wg hg
    have hcg := fun b o (h : b < w.heap.size) => hg.cell (p := ⟨b, o, none⟩) h
    go_wp2
    all_goals (go_ret; exact Ret.b (by simp_all [Gate.oneB]) hg)
  · skip
    have ⟨_, _⟩ := inB_iff.1 h1
    go_enter Try.func66, Try.ntmps66
    go_wp2_with fail
    refine wp_region_sub (by kernel_rfl) (by kernel_rfl) ?_
    repeat (go_big_quiet_step (first | exact Calls.sub_of_same_eq (l01Name_any _ _ hs) (congrArg Value.bool h0) | exact Calls.sub_of_same_eq (l00In_any _ _ _ _) (congrArg Value.bool h1) | exact Calls.sub_of_same_eq (l00In_any _ _ _ _) (congrArg Value.bool h2)))
    refine wpQuiet_nil ?_
    intro wg hg
    have hcg := fun b o (h : b < w.heap.size) => hg.cell (p := ⟨b, o, none⟩) h
    go_wp2
    all_goals (go_ret; exact Ret.b (by simp_all [Gate.oneB]) hg)
  · skip
    have ⟨_, _⟩ := inB_iff.1 h1
    have ⟨_, _⟩ := inB_iff.1 h2
    go_enter Try.func66, Try.ntmps66
    go_wp2_with fail
    refine wp_region_sub (by kernel_rfl) (by kernel_rfl) ?_
    repeat (go_big_quiet_step (first | exact Calls.sub_of_same_eq (l01Name_any _ _ hs) (congrArg Value.bool h0) | exact Calls.sub_of_same_eq (l00In_any _ _ _ _) (congrArg Value.bool h1) | exact Calls.sub_of_same_eq (l00In_any _ _ _ _) (congrArg Value.bool h2) | exact Calls.sub_of_same_eq (l00In_any _ _ _ _) (congrArg Value.bool h3)))
    refine wpQuiet_nil ?_
    intro wg hg
    have hcg := fun b o (h : b < w.heap.size) => hg.cell (p := ⟨b, o, none⟩) h
    go_wp2
    all_goals (go_ret; exact Ret.b (by simp_all [Gate.oneB]) hg)
  · skip
    have ⟨_, _⟩ := inB_iff.1 h1
    have ⟨_, _⟩ := inB_iff.1 h2
    have ⟨_, _⟩ := inB_iff.1 h3
    go_enter Try.func66, Try.ntmps66
    go_wp2_with fail
    refine wp_region_sub (by kernel_rfl) (by kernel_rfl) ?_
    repeat (go_big_quiet_step (first | exact Calls.sub_of_same_eq (l01Name_any _ _ hs) (congrArg Value.bool h0) | exact Calls.sub_of_same_eq (l00In_any _ _ _ _) (congrArg Value.bool h1) | exact Calls.sub_of_same_eq (l00In_any _ _ _ _) (congrArg Value.bool h2) | exact Calls.sub_of_same_eq (l00In_any _ _ _ _) (congrArg Value.bool h3) | exact Calls.sub_of_same_eq (l00In_any _ _ _ _) (congrArg Value.bool h4)))
    refine wpQuiet_nil ?_
    intro wg hg
    have hcg := fun b o (h : b < w.heap.size) => hg.cell (p := ⟨b, o, none⟩) h
    go_wp2
    all_goals (go_ret; exact Ret.b (by simp_all [Gate.oneB]) hg)
  · skip
    have ⟨_, _⟩ := inB_iff.1 h1
    have ⟨_, _⟩ := inB_iff.1 h2
    have ⟨_, _⟩ := inB_iff.1 h3
    have ⟨_, _⟩ := inB_iff.1 h4
    go_enter Try.func66, Try.ntmps66
    go_wp2_with fail
    refine wp_region_sub (by kernel_rfl) (by kernel_rfl) ?_
    repeat (go_big_quiet_step (first | exact Calls.sub_of_same_eq (l01Name_any _ _ hs) (congrArg Value.bool h0) | exact Calls.sub_of_same_eq (l00In_any _ _ _ _) (congrArg Value.bool h1) | exact Calls.sub_of_same_eq (l00In_any _ _ _ _) (congrArg Value.bool h2) | exact Calls.sub_of_same_eq (l00In_any _ _ _ _) (congrArg Value.bool h3) | exact Calls.sub_of_same_eq (l00In_any _ _ _ _) (congrArg Value.bool h4)))
    refine wpQuiet_nil ?_
    intro wg hg
    have hcg := fun b o (h : b < w.heap.size) => hg.cell (p := ⟨b, o, none⟩) h
    go_wp2
    all_goals (go_ret; exact Ret.b (by simp_all [Gate.oneB]) hg)

set_option maxHeartbeats 2000000 in
theorem implHoursToOpen_any (x : Gate) (w : World) (hs : x.id.size ≤ 9223372036854775807) : Calls Try.prog 20 #[.agg #[.string x.id, .int .i64 x.shut, .int .i64 x.open_, .int .i64 x.hold, .bool x.shuts, .int .i64 x.calm]] w (Ret (.tuple #[.int .i64 (hoursA x), .int .i64 (hoursB x)]) w) := by
  have ho := Own.new w 29 #[.string x.id, .int .i64 x.shut, .int .i64 x.open_, .int .i64 x.hold, .bool x.shuts, .int .i64 x.calm]
  cases hv : x.oneB
  · have HV := Lib.hid hv
    go_enter Try.func20, Try.ntmps20
    go_wp2_with fail
    refine (implGatevalid_any x _ hs).mono ?_
    rintro e w1 ⟨rfl, hb⟩
    go_wp2
    go_ret2
    exact Ret.ii (by simp [hoursA, HV.out]) (by simp [hoursB, HV.out]) (((Below.refl _ _).alloc (Nat.le_refl _) _).trans (hb.mono (by simp)))
  · have HV := Lib.hid hv
    have hf := Gate.oneB_facts hv
    have ⟨_, _⟩ := hf.2.2.2.1
    have ⟨_, _⟩ := hf.2.2.2.2.1
    clear hf
    go_enter Try.func20, Try.ntmps20
    go_wp2_with fail
    refine (implGatevalid_any x _ hs).mono ?_
    rintro e w1 ⟨rfl, hb⟩
    have ho1 := ho.below' hb
    have c3 : w1.cell? ⟨w.heap.size, 3, none⟩ = some (.int .i64 x.hold) := ho1.cell 3
    have c4 : w1.cell? ⟨w.heap.size, 4, none⟩ = some (.bool x.shuts) := ho1.cell 4
    have c5 : w1.cell? ⟨w.heap.size, 5, none⟩ = some (.int .i64 x.calm) := ho1.cell 5
    go_wp2
    all_goals (go_ret2; exact Ret.ii (by simp_all [hoursA, HV.out]) (by simp [hoursB, HV.out]) (((Below.refl _ _).alloc (Nat.le_refl _) _).trans (hb.mono (by simp))))

set_option maxHeartbeats 2000000 in
theorem specHoursToOpen_any (x : Gate) (w : World) (hs : x.id.size ≤ 9223372036854775807) : Calls Try.prog 18 #[.agg #[.string x.id, .int .i64 x.shut, .int .i64 x.open_, .int .i64 x.hold, .bool x.shuts, .int .i64 x.calm]] w (Ret (.tuple #[.int .i64 (hoursA x), .int .i64 (hoursB x)]) w) := by
  have ho := Own.new w 29 #[.string x.id, .int .i64 x.shut, .int .i64 x.open_, .int .i64 x.hold, .bool x.shuts, .int .i64 x.calm]
  cases hv : x.oneB
  · have HV := Lib.hid hv
    go_enter Try.func18, Try.ntmps18
    go_wp2_with fail
    refine (specGateOne_any x _ _ _ ho.lt hs (ho.cell 0) (ho.cell 1) (ho.cell 2) (ho.cell 3) (ho.cell 4) (ho.cell 5)).mono ?_
    rintro e w1 ⟨rfl, hb⟩
    go_wp2
    go_ret2
    exact Ret.ii (by simp [hoursA, HV.out]) (by simp [hoursB, HV.out]) (((Below.refl _ _).alloc (Nat.le_refl _) _).trans (hb.mono (by simp)))
  · have HV := Lib.hid hv
    have hf := Gate.oneB_facts hv
    have ⟨_, _⟩ := hf.2.2.2.1
    have ⟨_, _⟩ := hf.2.2.2.2.1
    clear hf
    go_enter Try.func18, Try.ntmps18
    go_wp2_with fail
    refine (specGateOne_any x _ _ _ ho.lt hs (ho.cell 0) (ho.cell 1) (ho.cell 2) (ho.cell 3) (ho.cell 4) (ho.cell 5)).mono ?_
    rintro e w1 ⟨rfl, hb⟩
    have ho1 := ho.below' hb
    have c3 : w1.cell? ⟨w.heap.size, 3, none⟩ = some (.int .i64 x.hold) := ho1.cell 3
    have c4 : w1.cell? ⟨w.heap.size, 4, none⟩ = some (.bool x.shuts) := ho1.cell 4
    have c5 : w1.cell? ⟨w.heap.size, 5, none⟩ = some (.int .i64 x.calm) := ho1.cell 5
    go_wp2
    all_goals (go_ret2; exact Ret.ii (by simp_all [hoursA, HV.out]) (by simp [hoursB, HV.out]) (((Below.refl _ _).alloc (Nat.le_refl _) _).trans (hb.mono (by simp))))

end Go.Proofs.Ytokakabckjmfoaa
