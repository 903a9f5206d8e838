/- When one Gate is valid, and the hours to its opening: the program's and the reference's functions return the same. -/
import Derived.Test.YtlfnkgfkimanaaaBase
import Derived.Test.YtlfnkgfkimanaaaTGate
namespace Go.Proofs.Ytlfnkgfkimanaaa
open Go.RowKit

def Gate.oneB (x : Gate) : Bool := isNameB x.id && inB x.shut 1 1000 && inB x.open_ 0 x.shut && inB x.hold 1 48 && inB x.calm 0 (x.hold - 1) && (x.shuts || x.calm == 0)
def hoursA (x : Gate) : Int := if x.oneB = true ∧ x.shuts = true then x.hold - x.calm else 0
def hoursB (x : Gate) : Int := if x.oneB = true then 0 else 1
theorem Gate.oneB_facts {x : Gate} (h : x.oneB = true) : isNameB x.id = true ∧ (1 ≤ x.shut ∧ x.shut ≤ 1000) ∧ (0 ≤ x.open_ ∧ x.open_ ≤ x.shut) ∧ (1 ≤ x.hold ∧ x.hold ≤ 48) ∧ (0 ≤ x.calm ∧ x.calm ≤ x.hold - 1) ∧ (x.shuts = true ∨ x.calm = 0) := by
  unfold Gate.oneB at h
  simp only [Bool.and_eq_true, Bool.or_eq_true, inB_iff, beq_iff_eq] at h
  exact ⟨h.1.1.1.1.1, h.1.1.1.1.2, h.1.1.1.2, h.1.1.2, h.1.2, h.2⟩

set_option maxHeartbeats 2000000 in
theorem implGatevalid_any (x : Gate) (w : World) (hs : x.id.size ≤ 9223372036854775807) : Calls Try.prog 96 #[.agg #[.string x.id, .int .i64 x.shut, .int .i64 x.open_, .int .i64 x.hold, .bool x.shuts, .int .i64 x.calm]] w (Ret (.bool x.oneB) w) := by
  rcases cases5 (isNameB x.id) (inB x.shut 1 1000) (inB x.open_ 0 x.shut) (inB x.hold 1 48) (inB x.calm 0 (x.hold - 1)) with h0 | ⟨h0, h1⟩ | ⟨h0, h1, h2⟩ | ⟨h0, h1, h2, h3⟩ | ⟨h0, h1, h2, h3, h4⟩ | ⟨h0, h1, h2, h3, h4⟩
  · skip
    go_enter Try.func96, Try.ntmps96
    go_wp2_with (first | (go_at_call 111; refine (IsName_any _ _ hs).mono ?_; rintro e w' ⟨rfl, rfl⟩) | (go_at_call 79; refine (within_any _ _ _ _).mono ?_; rintro e w' ⟨rfl, rfl⟩))
    all_goals (go_ret; exact Ret.b (by simp_all [Gate.oneB]) ((Below.refl _ _).alloc (Nat.le_refl _) _))
  · skip
    go_enter Try.func96, Try.ntmps96
    go_wp2_with (first | (go_at_call 111; refine (IsName_any _ _ hs).mono ?_; rintro e w' ⟨rfl, rfl⟩) | (go_at_call 79; refine (within_any _ _ _ _).mono ?_; rintro e w' ⟨rfl, rfl⟩))
    all_goals (go_ret; exact Ret.b (by simp_all [Gate.oneB]) ((Below.refl _ _).alloc (Nat.le_refl _) _))
  · skip
    have ⟨_, _⟩ := inB_iff.1 h1
    go_enter Try.func96, Try.ntmps96
    go_wp2_with (first | (go_at_call 111; refine (IsName_any _ _ hs).mono ?_; rintro e w' ⟨rfl, rfl⟩) | (go_at_call 79; refine (within_any _ _ _ _).mono ?_; rintro e w' ⟨rfl, rfl⟩))
    all_goals (go_ret; exact Ret.b (by simp_all [Gate.oneB]) ((Below.refl _ _).alloc (Nat.le_refl _) _))
  · skip
    have ⟨_, _⟩ := inB_iff.1 h1
    have ⟨_, _⟩ := inB_iff.1 h2
    go_enter Try.func96, Try.ntmps96
    go_wp2_with (first | (go_at_call 111; refine (IsName_any _ _ hs).mono ?_; rintro e w' ⟨rfl, rfl⟩) | (go_at_call 79; refine (within_any _ _ _ _).mono ?_; rintro e w' ⟨rfl, rfl⟩))
    all_goals (go_ret; exact Ret.b (by simp_all [Gate.oneB]) ((Below.refl _ _).alloc (Nat.le_refl _) _))
  · skip
    have ⟨_, _⟩ := inB_iff.1 h1
    have ⟨_, _⟩ := inB_iff.1 h2
    have ⟨_, _⟩ := inB_iff.1 h3
    go_enter Try.func96, Try.ntmps96
    go_wp2_with (first | (go_at_call 111; refine (IsName_any _ _ hs).mono ?_; rintro e w' ⟨rfl, rfl⟩) | (go_at_call 79; refine (within_any _ _ _ _).mono ?_; rintro e w' ⟨rfl, rfl⟩))
    all_goals (go_ret; exact Ret.b (by simp_all [Gate.oneB]) ((Below.refl _ _).alloc (Nat.le_refl _) _))
  · skip
    have ⟨_, _⟩ := inB_iff.1 h1
    have ⟨_, _⟩ := inB_iff.1 h2
    have ⟨_, _⟩ := inB_iff.1 h3
    have ⟨_, _⟩ := inB_iff.1 h4
    go_enter Try.func96, Try.ntmps96
    go_wp2_with (first | (go_at_call 111; refine (IsName_any _ _ hs).mono ?_; rintro e w' ⟨rfl, rfl⟩) | (go_at_call 79; refine (within_any _ _ _ _).mono ?_; rintro e w' ⟨rfl, rfl⟩))
    all_goals (go_ret; exact Ret.b (by simp_all [Gate.oneB]) ((Below.refl _ _).alloc (Nat.le_refl _) _))

set_option maxHeartbeats 4000000 in
theorem specGateOne_any (x : Gate) (b off : Nat) (w : World) (hb : b < w.heap.size) (hs : x.id.size ≤ 9223372036854775807) (x0 : w.cell? ⟨b, off, none⟩ = some (.string x.id)) (x1 : w.cell? ⟨b, off + 1, none⟩ = some (.int .i64 x.shut)) (x2 : w.cell? ⟨b, off + 2, none⟩ = some (.int .i64 x.open_)) (x3 : w.cell? ⟨b, off + 3, none⟩ = some (.int .i64 x.hold)) (x4 : w.cell? ⟨b, off + 4, none⟩ = some (.bool x.shuts)) (x5 : w.cell? ⟨b, off + 5, none⟩ = some (.int .i64 x.calm)) :
    Calls Try.prog 93 #[.pointer (some ⟨b, off, none⟩)] w (Ret (.bool x.oneB) w) := by
  have hsub := fun (g : Sub w) b o (h : b < w.heap.size) => g.cell b o h
  rcases cases5 (isNameB x.id) (inB x.shut 1 1000) (inB x.open_ 0 x.shut) (inB x.hold 1 48) (inB x.calm 0 (x.hold - 1)) with h0 | ⟨h0, h1⟩ | ⟨h0, h1, h2⟩ | ⟨h0, h1, h2, h3⟩ | ⟨h0, h1, h2, h3, h4⟩ | ⟨h0, h1, h2, h3, h4⟩
  · skip
    go_enter Try.func93, Try.ntmps93
    go_wp2_with fail
    refine wp_region_sub (by kernel_rfl) (by kernel_rfl) ?_
    repeat (go_big_quiet_step (exact Calls.sub_of_same_eq (l01Name_any _ _ hs) (congrArg Value.bool h0)))
    refine wpQuiet_nil ?_
    intro wg hg
    have hcg := fun b o (h : b < w.heap.size) => hg.cell (p := ⟨b, o, none⟩) h
    go_wp2
    all_goals (go_ret; exact Ret.b (by simp_all [Gate.oneB]) hg)
  · skip
    go_enter Try.func93, Try.ntmps93
    go_wp2_with fail
    refine wp_region_sub (by kernel_rfl) (by kernel_rfl) ?_
    repeat (go_big_quiet_step (first | exact Calls.sub_of_same_eq (l01Name_any _ _ hs) (congrArg Value.bool h0) | exact Calls.sub_of_same_eq (l00In_any _ _ _ _) (congrArg Value.bool h1)))
    refine wpQuiet_nil ?_
    intro wg hg
    have hcg := fun b o (h : b < w.heap.size) => hg.cell (p := ⟨b, o, none⟩) h
    go_wp2
    all_goals (go_ret; exact Ret.b (by simp_all [Gate.oneB]) hg)
  · skip
    have ⟨_, _⟩ := inB_iff.1 h1
    go_enter Try.func93, Try.ntmps93
    go_wp2_with fail
    refine wp_region_sub (by kernel_rfl) (by kernel_rfl) ?_
    repeat (go_big_quiet_step (first | exact Calls.sub_of_same_eq (l01Name_any _ _ hs) (congrArg Value.bool h0) | exact Calls.sub_of_same_eq (l00In_any _ _ _ _) (congrArg Value.bool h1) | exact Calls.sub_of_same_eq (l00In_any _ _ _ _) (congrArg Value.bool h2)))
    refine wpQuiet_nil ?_
    intro wg hg
    have hcg := fun b o (h : b < w.heap.size) => hg.cell (p := ⟨b, o, none⟩) h
    go_wp2
    all_goals (go_ret; exact Ret.b (by simp_all [Gate.oneB]) hg)
  · skip
    have ⟨_, _⟩ := inB_iff.1 h1
    have ⟨_, _⟩ := inB_iff.1 h2
    go_enter Try.func93, Try.ntmps93
    go_wp2_with fail
    refine wp_region_sub (by kernel_rfl) (by kernel_rfl) ?_
    repeat (go_big_quiet_step (first | exact Calls.sub_of_same_eq (l01Name_any _ _ hs) (congrArg Value.bool h0) | exact Calls.sub_of_same_eq (l00In_any _ _ _ _) (congrArg Value.bool h1) | exact Calls.sub_of_same_eq (l00In_any _ _ _ _) (congrArg Value.bool h2) | exact Calls.sub_of_same_eq (l00In_any _ _ _ _) (congrArg Value.bool h3)))
    refine wpQuiet_nil ?_
    intro wg hg
    have hcg := fun b o (h : b < w.heap.size) => hg.cell (p := ⟨b, o, none⟩) h
    go_wp2
    all_goals (go_ret; exact Ret.b (by simp_all [Gate.oneB]) hg)
  · skip
    have ⟨_, _⟩ := inB_iff.1 h1
    have ⟨_, _⟩ := inB_iff.1 h2
    have ⟨_, _⟩ := inB_iff.1 h3
    go_enter Try.func93, Try.ntmps93
    go_wp2_with fail
    refine wp_region_sub (by kernel_rfl) (by kernel_rfl) ?_
    repeat (go_big_quiet_step (first | exact Calls.sub_of_same_eq (l01Name_any _ _ hs) (congrArg Value.bool h0) | exact Calls.sub_of_same_eq (l00In_any _ _ _ _) (congrArg Value.bool h1) | exact Calls.sub_of_same_eq (l00In_any _ _ _ _) (congrArg Value.bool h2) | exact Calls.sub_of_same_eq (l00In_any _ _ _ _) (congrArg Value.bool h3) | exact Calls.sub_of_same_eq (l00In_any _ _ _ _) (congrArg Value.bool h4)))
    refine wpQuiet_nil ?_
    intro wg hg
    have hcg := fun b o (h : b < w.heap.size) => hg.cell (p := ⟨b, o, none⟩) h
    go_wp2
    all_goals (go_ret; exact Ret.b (by simp_all [Gate.oneB]) hg)
  · skip
    have ⟨_, _⟩ := inB_iff.1 h1
    have ⟨_, _⟩ := inB_iff.1 h2
    have ⟨_, _⟩ := inB_iff.1 h3
    have ⟨_, _⟩ := inB_iff.1 h4
    go_enter Try.func93, Try.ntmps93
    go_wp2_with fail
    refine wp_region_sub (by kernel_rfl) (by kernel_rfl) ?_
    repeat (go_big_quiet_step (first | exact Calls.sub_of_same_eq (l01Name_any _ _ hs) (congrArg Value.bool h0) | exact Calls.sub_of_same_eq (l00In_any _ _ _ _) (congrArg Value.bool h1) | exact Calls.sub_of_same_eq (l00In_any _ _ _ _) (congrArg Value.bool h2) | exact Calls.sub_of_same_eq (l00In_any _ _ _ _) (congrArg Value.bool h3) | exact Calls.sub_of_same_eq (l00In_any _ _ _ _) (congrArg Value.bool h4)))
    refine wpQuiet_nil ?_
    intro wg hg
    have hcg := fun b o (h : b < w.heap.size) => hg.cell (p := ⟨b, o, none⟩) h
    go_wp2
    all_goals (go_ret; exact Ret.b (by simp_all [Gate.oneB]) hg)



end Go.Proofs.Ytlfnkgfkimanaaa
