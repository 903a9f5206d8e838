/- When one Shot, and a list of them, is valid: the program's and the reference's functions return one Boolean. -/
import Derived.Test.YtlfnkgfkimanaaaBase
import Derived.Test.YtlfnkgfkimanaaaTShot
namespace Go.Proofs.Ytlfnkgfkimanaaa
open Go.RowKit

def Shot.oneB (x : Shot) : Bool := isNameB x.id && inB x.from_ 0 1440 && inB x.until_ 0 1440 && inB x.minutes 1 240 && decide (x.from_ + x.minutes ≤ x.until_) && inB x.gain 0 1000
def Shot.oneI (x : Shot) : Bool := isNameB x.id && inB x.from_ 0 1440 && inB x.until_ 0 1440 && inB x.minutes 1 (min (x.until_ - x.from_) 240) && inB x.gain 0 1000
theorem Shot.oneI_eq (x : Shot) : x.oneI = x.oneB := by
  unfold Shot.oneB Shot.oneI
  rw [Bool.eq_iff_iff]
  simp only [Bool.and_eq_true, inB_iff, decide_eq_true_eq]
  constructor
  · rintro ⟨⟨⟨⟨a, b⟩, c⟩, d⟩, e⟩
    refine ⟨⟨⟨⟨⟨a, b⟩, c⟩, ?_⟩, ?_⟩, e⟩ <;> omega
  · rintro ⟨⟨⟨⟨⟨a, b⟩, c⟩, d⟩, f⟩, e⟩
    refine ⟨⟨⟨⟨a, b⟩, c⟩, ?_⟩, e⟩
    omega
theorem Shot.oneB_iff (x : Shot) : x.oneB = true ↔ isNameB x.id = true ∧ inB x.from_ 0 1440 = true ∧ inB x.until_ 0 1440 = true ∧ inB x.minutes 1 240 = true ∧ decide (x.from_ + x.minutes ≤ x.until_) = true ∧ inB x.gain 0 1000 = true := by simp [Shot.oneB, and_assoc]

set_option maxHeartbeats 1000000 in
theorem implShotvalid_any (x : Shot) (w : World)  (hs : x.id.size ≤ 9223372036854775807) :
    Calls Try.prog 84 #[.agg #[.string x.id, .int .i64 x.from_, .int .i64 x.until_, .int .i64 x.minutes, .int .i64 x.gain]] w (Ret (.bool x.oneB) w) := by
  obtain ⟨m, hm⟩ : ∃ m, min (x.until_ - x.from_) 240 = m := ⟨_, rfl⟩
  rcases cases5 (isNameB x.id) (inB x.from_ 0 1440) (inB x.until_ 0 1440) (inB x.minutes 1 m) (inB x.gain 0 1000) with h0 | ⟨h0, h1⟩ | ⟨h0, h1, h2⟩ | ⟨h0, h1, h2, h3⟩ | ⟨h0, h1, h2, h3, h4⟩ | ⟨h0, h1, h2, h3, h4⟩
  · skip
    go_enter Try.func84, Try.ntmps84
    go_wp2_with ((go_at_call 111; refine (IsName_any _ _ hs).mono ?_; rintro e w' ⟨rfl, rfl⟩))
    all_goals (go_ret; first | (have e : m = 240 := (by omega); subst e; first | exact Ret.b (by rw [← Shot.oneI_eq]; simp [Shot.oneI, *]) (by repeat (first | assumption | exact Below.refl _ _ | refine Below.alloc ?_ (by simp <;> omega) _)) | exact absurd (h3.symm.trans (by assumption)) Bool.false_ne_true | exact absurd (h3.symm.trans (by assumption)) Bool.true_ne_false) | (have e : m = x.until_ - x.from_ := (by omega); subst e; first | exact Ret.b (by rw [← Shot.oneI_eq]; simp [Shot.oneI, *]) (by repeat (first | assumption | exact Below.refl _ _ | refine Below.alloc ?_ (by simp <;> omega) _)) | exact absurd (h3.symm.trans (by assumption)) Bool.false_ne_true | exact absurd (h3.symm.trans (by assumption)) Bool.true_ne_false) | (exact Ret.b (by rw [← Shot.oneI_eq]; simp [Shot.oneI, *]) (by repeat (first | assumption | exact Below.refl _ _ | refine Below.alloc ?_ (by simp <;> omega) _))))
  · skip
    go_enter Try.func84, Try.ntmps84
    go_wp2_with (first | (go_at_call 111; refine (IsName_any _ _ hs).mono ?_; rintro e w' ⟨rfl, rfl⟩) | (go_at_call 79; refine (within_any _ _ _ _).mono ?_; rintro e w' ⟨rfl, rfl⟩))
    all_goals (go_ret; first | (have e : m = 240 := (by omega); subst e; first | exact Ret.b (by rw [← Shot.oneI_eq]; simp [Shot.oneI, *]) (by repeat (first | assumption | exact Below.refl _ _ | refine Below.alloc ?_ (by simp <;> omega) _)) | exact absurd (h3.symm.trans (by assumption)) Bool.false_ne_true | exact absurd (h3.symm.trans (by assumption)) Bool.true_ne_false) | (have e : m = x.until_ - x.from_ := (by omega); subst e; first | exact Ret.b (by rw [← Shot.oneI_eq]; simp [Shot.oneI, *]) (by repeat (first | assumption | exact Below.refl _ _ | refine Below.alloc ?_ (by simp <;> omega) _)) | exact absurd (h3.symm.trans (by assumption)) Bool.false_ne_true | exact absurd (h3.symm.trans (by assumption)) Bool.true_ne_false) | (exact Ret.b (by rw [← Shot.oneI_eq]; simp [Shot.oneI, *]) (by repeat (first | assumption | exact Below.refl _ _ | refine Below.alloc ?_ (by simp <;> omega) _))))
  · have ⟨_, _⟩ := inB_iff.1 h1
    go_enter Try.func84, Try.ntmps84
    go_wp2_with (first | (go_at_call 111; refine (IsName_any _ _ hs).mono ?_; rintro e w' ⟨rfl, rfl⟩) | (go_at_call 79; refine (within_any _ _ _ _).mono ?_; rintro e w' ⟨rfl, rfl⟩))
    all_goals (go_ret; first | (have e : m = 240 := (by omega); subst e; first | exact Ret.b (by rw [← Shot.oneI_eq]; simp [Shot.oneI, *]) (by repeat (first | assumption | exact Below.refl _ _ | refine Below.alloc ?_ (by simp <;> omega) _)) | exact absurd (h3.symm.trans (by assumption)) Bool.false_ne_true | exact absurd (h3.symm.trans (by assumption)) Bool.true_ne_false) | (have e : m = x.until_ - x.from_ := (by omega); subst e; first | exact Ret.b (by rw [← Shot.oneI_eq]; simp [Shot.oneI, *]) (by repeat (first | assumption | exact Below.refl _ _ | refine Below.alloc ?_ (by simp <;> omega) _)) | exact absurd (h3.symm.trans (by assumption)) Bool.false_ne_true | exact absurd (h3.symm.trans (by assumption)) Bool.true_ne_false) | (exact Ret.b (by rw [← Shot.oneI_eq]; simp [Shot.oneI, *]) (by repeat (first | assumption | exact Below.refl _ _ | refine Below.alloc ?_ (by simp <;> omega) _))))
  · have ⟨_, _⟩ := inB_iff.1 h1
    have ⟨_, _⟩ := inB_iff.1 h2
    go_enter Try.func84, Try.ntmps84
    go_wp2_with (first | (go_at_call 111; refine (IsName_any _ _ hs).mono ?_; rintro e w' ⟨rfl, rfl⟩) | (go_at_call 79; refine (within_any _ _ _ _).mono ?_; rintro e w' ⟨rfl, rfl⟩))
    all_goals (go_ret; first | (have e : m = 240 := (by omega); subst e; first | exact Ret.b (by rw [← Shot.oneI_eq]; simp [Shot.oneI, *]) (by repeat (first | assumption | exact Below.refl _ _ | refine Below.alloc ?_ (by simp <;> omega) _)) | exact absurd (h3.symm.trans (by assumption)) Bool.false_ne_true | exact absurd (h3.symm.trans (by assumption)) Bool.true_ne_false) | (have e : m = x.until_ - x.from_ := (by omega); subst e; first | exact Ret.b (by rw [← Shot.oneI_eq]; simp [Shot.oneI, *]) (by repeat (first | assumption | exact Below.refl _ _ | refine Below.alloc ?_ (by simp <;> omega) _)) | exact absurd (h3.symm.trans (by assumption)) Bool.false_ne_true | exact absurd (h3.symm.trans (by assumption)) Bool.true_ne_false) | (exact Ret.b (by rw [← Shot.oneI_eq]; simp [Shot.oneI, *]) (by repeat (first | assumption | exact Below.refl _ _ | refine Below.alloc ?_ (by simp <;> omega) _))))
  · have ⟨_, _⟩ := inB_iff.1 h1
    have ⟨_, _⟩ := inB_iff.1 h2
    have ⟨_, _⟩ := inB_iff.1 h3
    go_enter Try.func84, Try.ntmps84
    go_wp2_with (first | (go_at_call 111; refine (IsName_any _ _ hs).mono ?_; rintro e w' ⟨rfl, rfl⟩) | (go_at_call 79; refine (within_any _ _ _ _).mono ?_; rintro e w' ⟨rfl, rfl⟩))
    all_goals (go_ret; first | (have e : m = 240 := (by omega); subst e; first | exact Ret.b (by rw [← Shot.oneI_eq]; simp [Shot.oneI, *]) (by repeat (first | assumption | exact Below.refl _ _ | refine Below.alloc ?_ (by simp <;> omega) _)) | exact absurd (h3.symm.trans (by assumption)) Bool.false_ne_true | exact absurd (h3.symm.trans (by assumption)) Bool.true_ne_false) | (have e : m = x.until_ - x.from_ := (by omega); subst e; first | exact Ret.b (by rw [← Shot.oneI_eq]; simp [Shot.oneI, *]) (by repeat (first | assumption | exact Below.refl _ _ | refine Below.alloc ?_ (by simp <;> omega) _)) | exact absurd (h3.symm.trans (by assumption)) Bool.false_ne_true | exact absurd (h3.symm.trans (by assumption)) Bool.true_ne_false) | (exact Ret.b (by rw [← Shot.oneI_eq]; simp [Shot.oneI, *]) (by repeat (first | assumption | exact Below.refl _ _ | refine Below.alloc ?_ (by simp <;> omega) _))))
  · have ⟨_, _⟩ := inB_iff.1 h1
    have ⟨_, _⟩ := inB_iff.1 h2
    have ⟨_, _⟩ := inB_iff.1 h3
    have ⟨_, _⟩ := inB_iff.1 h4
    go_enter Try.func84, Try.ntmps84
    go_wp2_with (first | (go_at_call 111; refine (IsName_any _ _ hs).mono ?_; rintro e w' ⟨rfl, rfl⟩) | (go_at_call 79; refine (within_any _ _ _ _).mono ?_; rintro e w' ⟨rfl, rfl⟩))
    all_goals (go_ret; first | (have e : m = 240 := (by omega); subst e; first | exact Ret.b (by rw [← Shot.oneI_eq]; simp [Shot.oneI, *]) (by repeat (first | assumption | exact Below.refl _ _ | refine Below.alloc ?_ (by simp <;> omega) _)) | exact absurd (h3.symm.trans (by assumption)) Bool.false_ne_true | exact absurd (h3.symm.trans (by assumption)) Bool.true_ne_false) | (have e : m = x.until_ - x.from_ := (by omega); subst e; first | exact Ret.b (by rw [← Shot.oneI_eq]; simp [Shot.oneI, *]) (by repeat (first | assumption | exact Below.refl _ _ | refine Below.alloc ?_ (by simp <;> omega) _)) | exact absurd (h3.symm.trans (by assumption)) Bool.false_ne_true | exact absurd (h3.symm.trans (by assumption)) Bool.true_ne_false) | (exact Ret.b (by rw [← Shot.oneI_eq]; simp [Shot.oneI, *]) (by repeat (first | assumption | exact Below.refl _ _ | refine Below.alloc ?_ (by simp <;> omega) _))))

set_option maxHeartbeats 1000000 in
theorem specShotOne_any (x : Shot) (b off : Nat) (w : World) (hb : b < w.heap.size) (hs : x.id.size ≤ 9223372036854775807) (x0 : w.cell? ⟨b, off, none⟩ = some (.string x.id)) (x1 : w.cell? ⟨b, off + 1, none⟩ = some (.int .i64 x.from_)) (x2 : w.cell? ⟨b, off + 2, none⟩ = some (.int .i64 x.until_)) (x3 : w.cell? ⟨b, off + 3, none⟩ = some (.int .i64 x.minutes)) (x4 : w.cell? ⟨b, off + 4, none⟩ = some (.int .i64 x.gain)) :
    Calls Try.prog 113 #[.pointer (some ⟨b, off, none⟩)] w (Ret (.bool x.oneB) w) := by
  rcases cases6 (isNameB x.id) (inB x.from_ 0 1440) (inB x.until_ 0 1440) (inB x.minutes 1 240) (decide (x.from_ + x.minutes ≤ x.until_)) (inB x.gain 0 1000) with h0 | ⟨h0, h1⟩ | ⟨h0, h1, h2⟩ | ⟨h0, h1, h2, h3⟩ | ⟨h0, h1, h2, h3, h4⟩ | ⟨h0, h1, h2, h3, h4, h5⟩ | ⟨h0, h1, h2, h3, h4, h5⟩
  · skip
    have hsub := fun (g : Sub w) b o (h : b < w.heap.size) => g.cell b o h
    go_enter Try.func113, Try.ntmps113
    go_wp2_with fail
    refine wp_region_sub (by kernel_rfl) (by kernel_rfl) ?_
    repeat (go_big_quiet_step (exact Calls.sub_of_same_eq (l01Name_any _ _ hs) (congrArg Value.bool h0)))
    refine wpQuiet_nil ?_
    intro wg hg
    clear hsub
    go_wp2
    all_goals (go_ret; refine Ret.b (by simp [Shot.oneB, *]) ?_)
    all_goals (first | exact hg | exact ((Below.refl _ _).alloc (Nat.le_refl _) _).trans (hg.mono (by simp)))
  · skip
    have hsub := fun (g : Sub w) b o (h : b < w.heap.size) => g.cell b o h
    go_enter Try.func113, Try.ntmps113
    go_wp2_with fail
    refine wp_region_sub (by kernel_rfl) (by kernel_rfl) ?_
    repeat (go_big_quiet_step (first | exact Calls.sub_of_same_eq (l01Name_any _ _ hs) (congrArg Value.bool h0) | exact Calls.sub_of_same_eq (l00In_any _ _ _ _) (congrArg Value.bool h1)))
    refine wpQuiet_nil ?_
    intro wg hg
    clear hsub
    go_wp2
    all_goals (go_ret; refine Ret.b (by simp [Shot.oneB, *]) ?_)
    all_goals (first | exact hg | exact ((Below.refl _ _).alloc (Nat.le_refl _) _).trans (hg.mono (by simp)))
  · have ⟨_, _⟩ := inB_iff.1 h1
    have hsub := fun (g : Sub w) b o (h : b < w.heap.size) => g.cell b o h
    go_enter Try.func113, Try.ntmps113
    go_wp2_with fail
    refine wp_region_sub (by kernel_rfl) (by kernel_rfl) ?_
    repeat (go_big_quiet_step (first | exact Calls.sub_of_same_eq (l01Name_any _ _ hs) (congrArg Value.bool h0) | exact Calls.sub_of_same_eq (l00In_any _ _ _ _) (congrArg Value.bool h1) | exact Calls.sub_of_same_eq (l00In_any _ _ _ _) (congrArg Value.bool h2)))
    refine wpQuiet_nil ?_
    intro wg hg
    clear hsub
    go_wp2
    all_goals (go_ret; refine Ret.b (by simp [Shot.oneB, *]) ?_)
    all_goals (first | exact hg | exact ((Below.refl _ _).alloc (Nat.le_refl _) _).trans (hg.mono (by simp)))
  · have ⟨_, _⟩ := inB_iff.1 h1
    have ⟨_, _⟩ := inB_iff.1 h2
    have hsub := fun (g : Sub w) b o (h : b < w.heap.size) => g.cell b o h
    go_enter Try.func113, Try.ntmps113
    go_wp2_with fail
    refine wp_region_sub (by kernel_rfl) (by kernel_rfl) ?_
    repeat (go_big_quiet_step (first | exact Calls.sub_of_same_eq (l01Name_any _ _ hs) (congrArg Value.bool h0) | exact Calls.sub_of_same_eq (l00In_any _ _ _ _) (congrArg Value.bool h1) | exact Calls.sub_of_same_eq (l00In_any _ _ _ _) (congrArg Value.bool h2) | exact Calls.sub_of_same_eq (l00In_any _ _ _ _) (congrArg Value.bool h3)))
    refine wpQuiet_nil ?_
    intro wg hg
    clear hsub
    go_wp2
    all_goals (go_ret; refine Ret.b (by simp [Shot.oneB, *]) ?_)
    all_goals (first | exact hg | exact ((Below.refl _ _).alloc (Nat.le_refl _) _).trans (hg.mono (by simp)))
  · have ⟨_, _⟩ := inB_iff.1 h1
    have ⟨_, _⟩ := inB_iff.1 h2
    have ⟨_, _⟩ := inB_iff.1 h3
    have hsub := fun (g : Sub w) b o (h : b < w.heap.size) => g.cell b o h
    go_enter Try.func113, Try.ntmps113
    go_wp2_with fail
    refine wp_region_sub (by kernel_rfl) (by kernel_rfl) ?_
    repeat (go_big_quiet_step (first | exact Calls.sub_of_same_eq (l01Name_any _ _ hs) (congrArg Value.bool h0) | exact Calls.sub_of_same_eq (l00In_any _ _ _ _) (congrArg Value.bool h1) | exact Calls.sub_of_same_eq (l00In_any _ _ _ _) (congrArg Value.bool h2) | exact Calls.sub_of_same_eq (l00In_any _ _ _ _) (congrArg Value.bool h3)))
    refine wpQuiet_nil ?_
    intro wg hg
    clear hsub
    go_wp2
    all_goals (go_ret; refine Ret.b (by simp [Shot.oneB, *]) ?_)
    all_goals (first | exact hg | exact ((Below.refl _ _).alloc (Nat.le_refl _) _).trans (hg.mono (by simp)))
  · have ⟨_, _⟩ := inB_iff.1 h1
    have ⟨_, _⟩ := inB_iff.1 h2
    have ⟨_, _⟩ := inB_iff.1 h3
    have hsub := fun (g : Sub w) b o (h : b < w.heap.size) => g.cell b o h
    go_enter Try.func113, Try.ntmps113
    go_wp2_with fail
    refine wp_region_sub (by kernel_rfl) (by kernel_rfl) ?_
    repeat (go_big_quiet_step (first | exact Calls.sub_of_same_eq (l01Name_any _ _ hs) (congrArg Value.bool h0) | exact Calls.sub_of_same_eq (l00In_any _ _ _ _) (congrArg Value.bool h1) | exact Calls.sub_of_same_eq (l00In_any _ _ _ _) (congrArg Value.bool h2) | exact Calls.sub_of_same_eq (l00In_any _ _ _ _) (congrArg Value.bool h3) | exact Calls.sub_of_same_eq (l00In_any _ _ _ _) (congrArg Value.bool h5)))
    refine wpQuiet_nil ?_
    intro wg hg
    clear hsub
    go_wp2
    all_goals (go_ret; refine Ret.b (by simp [Shot.oneB, *]) ?_)
    all_goals (first | exact hg | exact ((Below.refl _ _).alloc (Nat.le_refl _) _).trans (hg.mono (by simp)))
  · have ⟨_, _⟩ := inB_iff.1 h1
    have ⟨_, _⟩ := inB_iff.1 h2
    have ⟨_, _⟩ := inB_iff.1 h3
    have ⟨_, _⟩ := inB_iff.1 h5
    have hsub := fun (g : Sub w) b o (h : b < w.heap.size) => g.cell b o h
    go_enter Try.func113, Try.ntmps113
    go_wp2_with fail
    refine wp_region_sub (by kernel_rfl) (by kernel_rfl) ?_
    repeat (go_big_quiet_step (first | exact Calls.sub_of_same_eq (l01Name_any _ _ hs) (congrArg Value.bool h0) | exact Calls.sub_of_same_eq (l00In_any _ _ _ _) (congrArg Value.bool h1) | exact Calls.sub_of_same_eq (l00In_any _ _ _ _) (congrArg Value.bool h2) | exact Calls.sub_of_same_eq (l00In_any _ _ _ _) (congrArg Value.bool h3) | exact Calls.sub_of_same_eq (l00In_any _ _ _ _) (congrArg Value.bool h5)))
    refine wpQuiet_nil ?_
    intro wg hg
    clear hsub
    go_wp2
    all_goals (go_ret; refine Ret.b (by simp [Shot.oneB, *]) ?_)
    all_goals (first | exact hg | exact ((Below.refl _ _).alloc (Nat.le_refl _) _).trans (hg.mono (by simp)))

def Shot.rel (p x : Shot) : Bool := Go.Op.bytesLess p.id.toList x.id.toList
def Shot.validB (xs : List Shot) : Bool := validL 8 Shot.oneB Shot.rel xs

set_option maxHeartbeats 2000000 in
theorem specShotValid_any (A : Option Addr) (n c : Nat) (xs : List Shot) (w : World) (hx : SliceOf w 5 Shot.cells A n xs) (hg : ∀ x ∈ xs, x.Good) :
    Calls Try.prog 82 #[.slice A n c] w (Ret (.bool (Shot.validB xs)) w) := by
  have hn := hx.le
  have hl := hx.len
  have Hl := Lib.hid hl
  clear hl
  go_enter Try.func82, Try.ntmps82
  go_wp2
  go_loopg [3] n (fun gk i wr => ∃ k : Nat, k ≤ n ∧ gk = n - k ∧ i = .int .i64 k ∧ Below w.heap.size w wr ∧ GoodTo Shot.oneB Shot.rel xs k)
  case atStart => exact ⟨0, Nat.zero_le _, rfl, rfl, Below.refl _ _, GoodTo.zero⟩
  case round =>
    obtain ⟨k, hk, hgk, rfl, hb, hall⟩ := hrel
    skip
    skip
    have Hall := Lib.hid hall
    have Hgk := Lib.hid hgk
    clear hall hgk
    by_cases hlt : k < n
    · have hx' := hx.below hb
      obtain ⟨b1, o1, x, rfl, hb1, hxk, x0, x1, x2, x3, x4⟩ := Shot.at_ hx' hlt
      have hs : x.id.size ≤ 9223372036854775807 := by
        have := (hg x (List.mem_of_getElem? hxk)).2.2.2.2; simp [maxLen] at this; omega
      have Hx := Lib.hid hxk
      skip
      clear hxk
      have hsub := fun (g : Sub wr) b o (h : b < wr.heap.size) => g.cell b o h
      cases h1 : x.oneB
      · go_wp2_with fail
        refine wp_region_sub (by kernel_rfl) (by kernel_rfl) ?_
        repeat (go_big_quiet_step (exact Calls.sub_of_eq (specShotOne_any x _ _ _ (Nat.lt_of_lt_of_le hb1 (Sub.below _).size) hs ((Sub.cell _ _ _ hb1).trans x0) ((Sub.cell _ _ _ hb1).trans x1) ((Sub.cell _ _ _ hb1).trans x2) ((Sub.cell _ _ _ hb1).trans x3) ((Sub.cell _ _ _ hb1).trans x4)) (congrArg Value.bool h1)))
        refine wpQuiet_nil ?_
        intro wg hg
        have hbg := hb.trans (hg.mono hb.size)
        clear hsub x0 x1 x2 x3 x4
        go_wp2
        go_ret
        exact Ret.b (validL_one Hx.out h1).symm hbg
      · by_cases hk0 : k = 0
        · have hd : decide (0 < k) = false := decide_eq_false (by omega)
          have Hk0 := Lib.hid hk0
          clear hk0
          go_wp2_with fail
          refine wp_region_sub (by kernel_rfl) (by kernel_rfl) ?_
          repeat (go_big_quiet_step (exact Calls.sub_of_eq (specShotOne_any x _ _ _ (Nat.lt_of_lt_of_le hb1 (Sub.below _).size) hs ((Sub.cell _ _ _ hb1).trans x0) ((Sub.cell _ _ _ hb1).trans x1) ((Sub.cell _ _ _ hb1).trans x2) ((Sub.cell _ _ _ hb1).trans x3) ((Sub.cell _ _ _ hb1).trans x4)) (congrArg Value.bool h1)))
          refine wpQuiet_nil ?_
          intro wg hg
          have hbg := hb.trans (hg.mono hb.size)
          clear hsub x0 x1 x2 x3 x4
          go_wp2
          go_roundg (n - (k + 1))
          case measure => have := Hgk.out; omega
          case rel => exact ⟨k + 1, by omega, rfl, by go_num, hbg, Hall.out.step Hx.out h1 (fun p h => absurd h (by have := Hk0.out; omega))⟩
        · have hd : decide (0 < k) = true := decide_eq_true (by omega)
          have hlt' : k - 1 < n := by omega
          obtain ⟨b2, o2, p, he, hb2, hpk, p0, p1, p2, p3, p4⟩ := Shot.at_ hx' hlt'
          injection he with he
          injection he with he1 he2 _
          subst he1 he2
          have Hp := Lib.hid hpk
          clear hpk
          cases hr : Shot.rel p x
          · have hr1 := bytesLess_leq x.id.toList p.id.toList
            have hr2 : Go.Op.bytesLess p.id.toList x.id.toList = false := hr
            rw [hr2] at hr1
            have Hr := Lib.hid hr
            clear hr hx hx'
            go_wp2_with fail
            refine wp_region_sub (by kernel_rfl) (by kernel_rfl) ?_
            repeat (go_big_quiet_step (exact Calls.sub_of_eq (specShotOne_any x _ _ _ (Nat.lt_of_lt_of_le hb1 (Sub.below _).size) hs ((Sub.cell _ _ _ hb1).trans x0) ((Sub.cell _ _ _ hb1).trans x1) ((Sub.cell _ _ _ hb1).trans x2) ((Sub.cell _ _ _ hb1).trans x3) ((Sub.cell _ _ _ hb1).trans x4)) (congrArg Value.bool h1)))
            refine wpQuiet_nil ?_
            intro wg hg
            have hbg := hb.trans (hg.mono hb.size)
            clear hsub x0 x1 x2 x3 x4 p0 p1 p2 p3 p4
            go_wp2
            go_ret
            exact Ret.b (validL_rel (by omega) Hp.out Hx.out Hr.out).symm hbg
          · have hr1 := bytesLess_leq x.id.toList p.id.toList
            have hr2 : Go.Op.bytesLess p.id.toList x.id.toList = true := hr
            rw [hr2] at hr1
            have Hr := Lib.hid hr
            clear hr hx hx'
            go_wp2_with fail
            refine wp_region_sub (by kernel_rfl) (by kernel_rfl) ?_
            repeat (go_big_quiet_step (exact Calls.sub_of_eq (specShotOne_any x _ _ _ (Nat.lt_of_lt_of_le hb1 (Sub.below _).size) hs ((Sub.cell _ _ _ hb1).trans x0) ((Sub.cell _ _ _ hb1).trans x1) ((Sub.cell _ _ _ hb1).trans x2) ((Sub.cell _ _ _ hb1).trans x3) ((Sub.cell _ _ _ hb1).trans x4)) (congrArg Value.bool h1)))
            refine wpQuiet_nil ?_
            intro wg hg
            have hbg := hb.trans (hg.mono hb.size)
            clear hsub x0 x1 x2 x3 x4 p0 p1 p2 p3 p4
            go_wp2
            go_roundg (n - (k + 1))
            case measure => have := Hgk.out; omega
            case rel => exact ⟨k + 1, by omega, rfl, by go_num, hbg, Hall.out.step Hx.out h1 (fun q _ hq => by rw [Hp.out] at hq; cases hq; exact Hr.out)⟩
    · have hkn : k = n := by omega
      subst hkn
      go_wp2
      go_ret
      exact Ret.b ((validL_all (by rw [Hl.out]; exact Nat.le_refl _) Hall.out).trans (by rw [Hl.out]; simp <;> omega)).symm hb

set_option maxHeartbeats 2000000 in
theorem implShotValid_any (A : Option Addr) (n c : Nat) (xs : List Shot) (w : World) (hx : SliceOf w 5 Shot.cells A n xs) (hg : ∀ x ∈ xs, x.Good) :
    Calls Try.prog 32 #[.slice A n c] w (Ret (.bool (Shot.validB xs)) w) := by
  have hn := hx.le
  have hl := hx.len
  have Hl := Lib.hid hl
  clear hl
  by_cases hM : 8 < n
  · go_enter Try.func32, Try.ntmps32
    go_wp2
    go_ret
    exact Ret.b (validL_len (by rw [Hl.out]; exact hM)).symm (Below.refl _ _)
  go_enter Try.func32, Try.ntmps32
  go_wp2
  go_loopg [10] n (fun gk i wr => ∃ k : Nat, k ≤ n ∧ gk = n - k ∧ i = .int .i64 k ∧ Below w.heap.size w wr ∧ GoodTo Shot.oneB Shot.rel xs k)
  case atStart => exact ⟨0, Nat.zero_le _, rfl, rfl, Below.refl _ _, GoodTo.zero⟩
  case round =>
    obtain ⟨k, hk, hgk, rfl, hb, hall⟩ := hrel
    skip
    skip
    have Hall := Lib.hid hall
    have Hgk := Lib.hid hgk
    clear hall hgk
    by_cases hlt : k < n
    · have hx' := hx.below hb
      obtain ⟨b1, o1, x, rfl, hb1, hxk, x0, x1, x2, x3, x4⟩ := Shot.at_ hx' hlt
      have hs : x.id.size ≤ 9223372036854775807 := by
        have := (hg x (List.mem_of_getElem? hxk)).2.2.2.2; simp [maxLen] at this; omega
      have Hx := Lib.hid hxk
      skip
      clear hxk
      have hsub := fun (o : Obj) (g : Sub (wr.alloc o)) b o' (h : b < (wr.alloc o).heap.size) => g.cell b o' h
      have hlt1 : b1 < wr.heap.size + 1 := by omega
      cases h1 : x.oneB
      · go_wp2_with fail
        refine wp_region_sub (by kernel_rfl) (by kernel_rfl) ?_
        repeat (go_big_quiet_step (exact Calls.sub_of_eq (implShotvalid_any x _ hs) (congrArg Value.bool h1)))
        refine wpQuiet_nil ?_
        intro wg hg
        have hbg := (hb.alloc hb.size _).trans (hg.mono (Nat.le_trans hb.size (by simp)))
        clear hsub x0 x1 x2 x3 x4 hlt1
        go_wp2
        go_ret
        exact Ret.b (validL_one Hx.out h1).symm hbg
      · by_cases hk0 : k = 0
        · have hd : decide (0 < k) = false := decide_eq_false (by omega)
          have Hk0 := Lib.hid hk0
          clear hk0
          go_wp2_with fail
          refine wp_region_sub (by kernel_rfl) (by kernel_rfl) ?_
          repeat (go_big_quiet_step (exact Calls.sub_of_eq (implShotvalid_any x _ hs) (congrArg Value.bool h1)))
          refine wpQuiet_nil ?_
          intro wg hg
          have hbg := (hb.alloc hb.size _).trans (hg.mono (Nat.le_trans hb.size (by simp)))
          clear hsub x0 x1 x2 x3 x4 hlt1
          go_wp2
          go_roundg (n - (k + 1))
          case measure => have := Hgk.out; omega
          case rel => exact ⟨k + 1, by omega, rfl, by go_num, hbg, Hall.out.step Hx.out h1 (fun p h => absurd h (by have := Hk0.out; omega))⟩
        · have hd : decide (0 < k) = true := decide_eq_true (by omega)
          have hlt' : k - 1 < n := by omega
          obtain ⟨b2, o2, p, he, hb2, hpk, p0, p1, p2, p3, p4⟩ := Shot.at_ hx' hlt'
          injection he with he
          injection he with he1 he2 _
          subst he1 he2
          have Hp := Lib.hid hpk
          clear hpk
          cases hr : Shot.rel p x
          · have hr1 := bytesLess_leq x.id.toList p.id.toList
            have hr2 : Go.Op.bytesLess p.id.toList x.id.toList = false := hr
            rw [hr2] at hr1
            have Hr := Lib.hid hr
            clear hr hx hx'
            go_wp2_with fail
            refine wp_region_sub (by kernel_rfl) (by kernel_rfl) ?_
            repeat (go_big_quiet_step (exact Calls.sub_of_eq (implShotvalid_any x _ hs) (congrArg Value.bool h1)))
            refine wpQuiet_nil ?_
            intro wg hg
            have hbg := (hb.alloc hb.size _).trans (hg.mono (Nat.le_trans hb.size (by simp)))
            clear hsub x0 x1 x2 x3 x4 hlt1 p0 p1 p2 p3 p4
            go_wp2
            go_ret
            exact Ret.b (validL_rel (by omega) Hp.out Hx.out Hr.out).symm hbg
          · have hr1 := bytesLess_leq x.id.toList p.id.toList
            have hr2 : Go.Op.bytesLess p.id.toList x.id.toList = true := hr
            rw [hr2] at hr1
            have Hr := Lib.hid hr
            clear hr hx hx'
            go_wp2_with fail
            refine wp_region_sub (by kernel_rfl) (by kernel_rfl) ?_
            repeat (go_big_quiet_step (exact Calls.sub_of_eq (implShotvalid_any x _ hs) (congrArg Value.bool h1)))
            refine wpQuiet_nil ?_
            intro wg hg
            have hbg := (hb.alloc hb.size _).trans (hg.mono (Nat.le_trans hb.size (by simp)))
            clear hsub x0 x1 x2 x3 x4 hlt1 p0 p1 p2 p3 p4
            go_wp2
            go_roundg (n - (k + 1))
            case measure => have := Hgk.out; omega
            case rel => exact ⟨k + 1, by omega, rfl, by go_num, hbg, Hall.out.step Hx.out h1 (fun q _ hq => by rw [Hp.out] at hq; cases hq; exact Hr.out)⟩
    · have hkn : k = n := by omega
      subst hkn
      go_wp2
      go_ret
      exact Ret.b ((validL_all (by rw [Hl.out]; exact Nat.le_refl _) Hall.out).trans (by rw [Hl.out]; simp <;> omega)).symm hb

set_option maxHeartbeats 400000 in
theorem specShotValidW_any (A : Option Addr) (n c : Nat) (xs : List Shot) (w : World) (hx : SliceOf w 5 Shot.cells A n xs) (hg : ∀ x ∈ xs, x.Good) : Calls Try.prog 30 #[.slice A n c] w (Ret (.bool (Shot.validB xs)) w) := by
  go_enter Try.func30, Try.ntmps30
  go_wp2_with fail
  refine (specShotValid_any _ _ _ xs _ hx hg).mono ?_
  rintro e w' ⟨rfl, hb⟩
  go_wp2
  go_ret
  exact Ret.b rfl hb

end Go.Proofs.Ytlfnkgfkimanaaa
