/- When one Verified, and a list of them, is valid: the program's and the reference's functions return one Boolean. -/
import Derived.Test.YtlfnkgfkimanaaaBase
import Derived.Test.YtlfnkgfkimanaaaTVerified
namespace Go.Proofs.Ytlfnkgfkimanaaa
open Go.RowKit

def Verified.oneB (x : Verified) : Bool := inB x.day 0 36524 && inB x.told 1 5 && inB x.seen 1 5
theorem Verified.oneB_iff (x : Verified) : x.oneB = true ↔ inB x.day 0 36524 = true ∧ inB x.told 1 5 = true ∧ inB x.seen 1 5 = true := by simp [Verified.oneB, and_assoc]

set_option maxHeartbeats 1000000 in
theorem implVerifiedvalid_any (x : Verified) (w : World)  :
    Calls Try.prog 115 #[.agg #[.int .i64 x.day, .int .i64 x.told, .int .i64 x.seen]] w (Ret (.bool x.oneB) w) := by
  rcases cases3 (inB x.day 0 36524) (inB x.told 1 5) (inB x.seen 1 5) with h0 | ⟨h0, h1⟩ | ⟨h0, h1, h2⟩ | ⟨h0, h1, h2⟩
  · skip
    go_enter Try.func115, Try.ntmps115
    go_wp2_with ((go_at_call 122; refine (dayValid_any _ _).mono ?_; rintro e w' ⟨rfl, rfl⟩))
    all_goals (go_ret; exact Ret.b (by simp [Verified.oneB, *]) (by repeat (first | assumption | exact Below.refl _ _ | refine Below.alloc ?_ (by simp <;> omega) _)))
  · have ⟨_, _⟩ := inB_iff.1 h0
    go_enter Try.func115, Try.ntmps115
    go_wp2_with (first | (go_at_call 122; refine (dayValid_any _ _).mono ?_; rintro e w' ⟨rfl, rfl⟩) | (go_at_call 123; refine (levelOk_any _ _).mono ?_; rintro e w' ⟨rfl, rfl⟩))
    all_goals (go_ret; exact Ret.b (by simp [Verified.oneB, *]) (by repeat (first | assumption | exact Below.refl _ _ | refine Below.alloc ?_ (by simp <;> omega) _)))
  · have ⟨_, _⟩ := inB_iff.1 h0
    have ⟨_, _⟩ := inB_iff.1 h1
    go_enter Try.func115, Try.ntmps115
    go_wp2_with (first | (go_at_call 122; refine (dayValid_any _ _).mono ?_; rintro e w' ⟨rfl, rfl⟩) | (go_at_call 123; refine (levelOk_any _ _).mono ?_; rintro e w' ⟨rfl, rfl⟩))
    all_goals (go_ret; exact Ret.b (by simp [Verified.oneB, *]) (by repeat (first | assumption | exact Below.refl _ _ | refine Below.alloc ?_ (by simp <;> omega) _)))
  · have ⟨_, _⟩ := inB_iff.1 h0
    have ⟨_, _⟩ := inB_iff.1 h1
    have ⟨_, _⟩ := inB_iff.1 h2
    go_enter Try.func115, Try.ntmps115
    go_wp2_with (first | (go_at_call 122; refine (dayValid_any _ _).mono ?_; rintro e w' ⟨rfl, rfl⟩) | (go_at_call 123; refine (levelOk_any _ _).mono ?_; rintro e w' ⟨rfl, rfl⟩))
    all_goals (go_ret; exact Ret.b (by simp [Verified.oneB, *]) (by repeat (first | assumption | exact Below.refl _ _ | refine Below.alloc ?_ (by simp <;> omega) _)))

set_option maxHeartbeats 1000000 in
theorem specVerifiedOne_any (x : Verified) (b off : Nat) (w : World) (_hb : b < w.heap.size) (x0 : w.cell? ⟨b, off, none⟩ = some (.int .i64 x.day)) (x1 : w.cell? ⟨b, off + 1, none⟩ = some (.int .i64 x.told)) (x2 : w.cell? ⟨b, off + 2, none⟩ = some (.int .i64 x.seen)) :
    Calls Try.prog 114 #[.pointer (some ⟨b, off, none⟩)] w (Ret (.bool x.oneB) w) := by
  rcases cases3 (inB x.day 0 36524) (inB x.told 1 5) (inB x.seen 1 5) with h0 | ⟨h0, h1⟩ | ⟨h0, h1, h2⟩ | ⟨h0, h1, h2⟩
  · skip
    go_enter Try.func114, Try.ntmps114
    go_wp2_with ((go_at_call 120; refine (l02Day_any _ _).mono ?_; rintro e w' ⟨rfl, rfl⟩))
    all_goals (go_ret; exact Ret.b (by simp [Verified.oneB, *]) (by repeat (first | assumption | exact Below.refl _ _ | refine Below.alloc ?_ (by simp <;> omega) _)))
  · have ⟨_, _⟩ := inB_iff.1 h0
    go_enter Try.func114, Try.ntmps114
    go_wp2_with (first | (go_at_call 120; refine (l02Day_any _ _).mono ?_; rintro e w' ⟨rfl, rfl⟩) | (go_at_call 121; refine (l17Is_any _ _).mono ?_; rintro e w' ⟨rfl, rfl⟩))
    all_goals (go_ret; exact Ret.b (by simp [Verified.oneB, *]) (by repeat (first | assumption | exact Below.refl _ _ | refine Below.alloc ?_ (by simp <;> omega) _)))
  · have ⟨_, _⟩ := inB_iff.1 h0
    have ⟨_, _⟩ := inB_iff.1 h1
    go_enter Try.func114, Try.ntmps114
    go_wp2_with (first | (go_at_call 120; refine (l02Day_any _ _).mono ?_; rintro e w' ⟨rfl, rfl⟩) | (go_at_call 121; refine (l17Is_any _ _).mono ?_; rintro e w' ⟨rfl, rfl⟩))
    all_goals (go_ret; exact Ret.b (by simp [Verified.oneB, *]) (by repeat (first | assumption | exact Below.refl _ _ | refine Below.alloc ?_ (by simp <;> omega) _)))
  · have ⟨_, _⟩ := inB_iff.1 h0
    have ⟨_, _⟩ := inB_iff.1 h1
    have ⟨_, _⟩ := inB_iff.1 h2
    go_enter Try.func114, Try.ntmps114
    go_wp2_with (first | (go_at_call 120; refine (l02Day_any _ _).mono ?_; rintro e w' ⟨rfl, rfl⟩) | (go_at_call 121; refine (l17Is_any _ _).mono ?_; rintro e w' ⟨rfl, rfl⟩))
    all_goals (go_ret; exact Ret.b (by simp [Verified.oneB, *]) (by repeat (first | assumption | exact Below.refl _ _ | refine Below.alloc ?_ (by simp <;> omega) _)))

def Verified.rel (p x : Verified) : Bool := decide (p.day < x.day)
def Verified.validB (xs : List Verified) : Bool := validL 64 Verified.oneB Verified.rel xs

set_option maxHeartbeats 2000000 in
theorem specVerifiedValid_any (A : Option Addr) (n c : Nat) (xs : List Verified) (w : World) (hx : SliceOf w 3 Verified.cells A n xs) :
    Calls Try.prog 87 #[.slice A n c] w (Ret (.bool (Verified.validB xs)) w) := by
  have hn := hx.le
  have hl := hx.len
  have Hl := Lib.hid hl
  clear hl
  go_enter Try.func87, Try.ntmps87
  go_wp2
  go_loopg [3] n (fun gk i wr => ∃ k : Nat, k ≤ n ∧ gk = n - k ∧ i = .int .i64 k ∧ Below w.heap.size w wr ∧ GoodTo Verified.oneB Verified.rel xs k)
  case atStart => exact ⟨0, Nat.zero_le _, rfl, rfl, Below.refl _ _, GoodTo.zero⟩
  case round =>
    obtain ⟨k, hk, hgk, rfl, hb, hall⟩ := hrel
    skip
    skip
    have Hall := Lib.hid hall
    have Hgk := Lib.hid hgk
    clear hall hgk
    by_cases hlt : k < n
    · have hx' := hx.below hb
      obtain ⟨b1, o1, x, rfl, hb1, hxk, x0, x1, x2⟩ := Verified.at_ hx' hlt
      have Hx := Lib.hid hxk
      skip
      clear hxk
      have hsub := fun (g : Sub wr) b o (h : b < wr.heap.size) => g.cell b o h
      cases h1 : x.oneB
      · go_wp2_with fail
        refine wp_region_sub (by kernel_rfl) (by kernel_rfl) ?_
        repeat (go_big_quiet_step (exact Calls.sub_of_eq (specVerifiedOne_any x _ _ _ (Nat.lt_of_lt_of_le hb1 (Sub.below _).size) ((Sub.cell _ _ _ hb1).trans x0) ((Sub.cell _ _ _ hb1).trans x1) ((Sub.cell _ _ _ hb1).trans x2)) (congrArg Value.bool h1)))
        refine wpQuiet_nil ?_
        intro wg hg
        have hbg := hb.trans (hg.mono hb.size)
        clear hsub x0 x1 x2
        go_wp2
        go_ret
        exact Ret.b (validL_one Hx.out h1).symm hbg
      · by_cases hk0 : k = 0
        · have hd : decide (0 < k) = false := decide_eq_false (by omega)
          have Hk0 := Lib.hid hk0
          clear hk0
          go_wp2_with fail
          refine wp_region_sub (by kernel_rfl) (by kernel_rfl) ?_
          repeat (go_big_quiet_step (exact Calls.sub_of_eq (specVerifiedOne_any x _ _ _ (Nat.lt_of_lt_of_le hb1 (Sub.below _).size) ((Sub.cell _ _ _ hb1).trans x0) ((Sub.cell _ _ _ hb1).trans x1) ((Sub.cell _ _ _ hb1).trans x2)) (congrArg Value.bool h1)))
          refine wpQuiet_nil ?_
          intro wg hg
          have hbg := hb.trans (hg.mono hb.size)
          clear hsub x0 x1 x2
          go_wp2
          go_roundg (n - (k + 1))
          case measure => have := Hgk.out; omega
          case rel => exact ⟨k + 1, by omega, rfl, by go_num, hbg, Hall.out.step Hx.out h1 (fun p h => absurd h (by have := Hk0.out; omega))⟩
        · have hd : decide (0 < k) = true := decide_eq_true (by omega)
          have hlt' : k - 1 < n := by omega
          obtain ⟨b2, o2, p, he, hb2, hpk, p0, p1, p2⟩ := Verified.at_ hx' hlt'
          injection he with he
          injection he with he1 he2 _
          subst he1 he2
          have Hp := Lib.hid hpk
          clear hpk
          cases hr : Verified.rel p x
          · have hr' : ¬ (p.day < x.day) := by simpa [Verified.rel] using hr
            have Hr := Lib.hid hr
            clear hr hx hx'
            go_wp2_with fail
            refine wp_region_sub (by kernel_rfl) (by kernel_rfl) ?_
            repeat (go_big_quiet_step (exact Calls.sub_of_eq (specVerifiedOne_any x _ _ _ (Nat.lt_of_lt_of_le hb1 (Sub.below _).size) ((Sub.cell _ _ _ hb1).trans x0) ((Sub.cell _ _ _ hb1).trans x1) ((Sub.cell _ _ _ hb1).trans x2)) (congrArg Value.bool h1)))
            refine wpQuiet_nil ?_
            intro wg hg
            have hbg := hb.trans (hg.mono hb.size)
            clear hsub x0 x1 x2 p0 p1 p2
            go_wp2
            go_ret
            exact Ret.b (validL_rel (by omega) Hp.out Hx.out Hr.out).symm hbg
          · have hr' : (p.day < x.day) := by simpa [Verified.rel] using hr
            have Hr := Lib.hid hr
            clear hr hx hx'
            go_wp2_with fail
            refine wp_region_sub (by kernel_rfl) (by kernel_rfl) ?_
            repeat (go_big_quiet_step (exact Calls.sub_of_eq (specVerifiedOne_any x _ _ _ (Nat.lt_of_lt_of_le hb1 (Sub.below _).size) ((Sub.cell _ _ _ hb1).trans x0) ((Sub.cell _ _ _ hb1).trans x1) ((Sub.cell _ _ _ hb1).trans x2)) (congrArg Value.bool h1)))
            refine wpQuiet_nil ?_
            intro wg hg
            have hbg := hb.trans (hg.mono hb.size)
            clear hsub x0 x1 x2 p0 p1 p2
            go_wp2
            go_roundg (n - (k + 1))
            case measure => have := Hgk.out; omega
            case rel => exact ⟨k + 1, by omega, rfl, by go_num, hbg, Hall.out.step Hx.out h1 (fun q _ hq => by rw [Hp.out] at hq; cases hq; exact Hr.out)⟩
    · have hkn : k = n := by omega
      subst hkn
      go_wp2
      go_ret
      exact Ret.b ((validL_all (by rw [Hl.out]; exact Nat.le_refl _) Hall.out).trans (by rw [Hl.out]; simp <;> omega)).symm hb

set_option maxHeartbeats 2000000 in
theorem implVerifiedValid_any (A : Option Addr) (n c : Nat) (xs : List Verified) (w : World) (hx : SliceOf w 3 Verified.cells A n xs) :
    Calls Try.prog 90 #[.slice A n c] w (Ret (.bool (Verified.validB xs)) w) := by
  have hn := hx.le
  have hl := hx.len
  have Hl := Lib.hid hl
  clear hl
  by_cases hM : 64 < n
  · go_enter Try.func90, Try.ntmps90
    go_wp2
    go_ret
    exact Ret.b (validL_len (by rw [Hl.out]; exact hM)).symm (Below.refl _ _)
  go_enter Try.func90, Try.ntmps90
  go_wp2
  go_loopg [10] n (fun gk i wr => ∃ k : Nat, k ≤ n ∧ gk = n - k ∧ i = .int .i64 k ∧ Below w.heap.size w wr ∧ GoodTo Verified.oneB Verified.rel xs k)
  case atStart => exact ⟨0, Nat.zero_le _, rfl, rfl, Below.refl _ _, GoodTo.zero⟩
  case round =>
    obtain ⟨k, hk, hgk, rfl, hb, hall⟩ := hrel
    skip
    skip
    have Hall := Lib.hid hall
    have Hgk := Lib.hid hgk
    clear hall hgk
    by_cases hlt : k < n
    · have hx' := hx.below hb
      obtain ⟨b1, o1, x, rfl, hb1, hxk, x0, x1, x2⟩ := Verified.at_ hx' hlt
      have Hx := Lib.hid hxk
      skip
      clear hxk
      have hsub := fun (o : Obj) (g : Sub (wr.alloc o)) b o' (h : b < (wr.alloc o).heap.size) => g.cell b o' h
      have hlt1 : b1 < wr.heap.size + 1 := by omega
      cases h1 : x.oneB
      · go_wp2_with fail
        refine wp_region_sub (by kernel_rfl) (by kernel_rfl) ?_
        repeat (go_big_quiet_step (exact Calls.sub_of_eq (implVerifiedvalid_any x _) (congrArg Value.bool h1)))
        refine wpQuiet_nil ?_
        intro wg hg
        have hbg := (hb.alloc hb.size _).trans (hg.mono (Nat.le_trans hb.size (by simp)))
        clear hsub x0 x1 x2 hlt1
        go_wp2
        go_ret
        exact Ret.b (validL_one Hx.out h1).symm hbg
      · by_cases hk0 : k = 0
        · have hd : decide (0 < k) = false := decide_eq_false (by omega)
          have Hk0 := Lib.hid hk0
          clear hk0
          go_wp2_with fail
          refine wp_region_sub (by kernel_rfl) (by kernel_rfl) ?_
          repeat (go_big_quiet_step (exact Calls.sub_of_eq (implVerifiedvalid_any x _) (congrArg Value.bool h1)))
          refine wpQuiet_nil ?_
          intro wg hg
          have hbg := (hb.alloc hb.size _).trans (hg.mono (Nat.le_trans hb.size (by simp)))
          clear hsub x0 x1 x2 hlt1
          go_wp2
          go_roundg (n - (k + 1))
          case measure => have := Hgk.out; omega
          case rel => exact ⟨k + 1, by omega, rfl, by go_num, hbg, Hall.out.step Hx.out h1 (fun p h => absurd h (by have := Hk0.out; omega))⟩
        · have hd : decide (0 < k) = true := decide_eq_true (by omega)
          have hlt' : k - 1 < n := by omega
          obtain ⟨b2, o2, p, he, hb2, hpk, p0, p1, p2⟩ := Verified.at_ hx' hlt'
          injection he with he
          injection he with he1 he2 _
          subst he1 he2
          have Hp := Lib.hid hpk
          clear hpk
          cases hr : Verified.rel p x
          · have hr' : ¬ (p.day < x.day) := by simpa [Verified.rel] using hr
            have Hr := Lib.hid hr
            clear hr hx hx'
            go_wp2_with fail
            refine wp_region_sub (by kernel_rfl) (by kernel_rfl) ?_
            repeat (go_big_quiet_step (exact Calls.sub_of_eq (implVerifiedvalid_any x _) (congrArg Value.bool h1)))
            refine wpQuiet_nil ?_
            intro wg hg
            have hbg := (hb.alloc hb.size _).trans (hg.mono (Nat.le_trans hb.size (by simp)))
            clear hsub x0 x1 x2 hlt1 p0 p1 p2
            go_wp2
            go_ret
            exact Ret.b (validL_rel (by omega) Hp.out Hx.out Hr.out).symm hbg
          · have hr' : (p.day < x.day) := by simpa [Verified.rel] using hr
            have Hr := Lib.hid hr
            clear hr hx hx'
            go_wp2_with fail
            refine wp_region_sub (by kernel_rfl) (by kernel_rfl) ?_
            repeat (go_big_quiet_step (exact Calls.sub_of_eq (implVerifiedvalid_any x _) (congrArg Value.bool h1)))
            refine wpQuiet_nil ?_
            intro wg hg
            have hbg := (hb.alloc hb.size _).trans (hg.mono (Nat.le_trans hb.size (by simp)))
            clear hsub x0 x1 x2 hlt1 p0 p1 p2
            go_wp2
            go_roundg (n - (k + 1))
            case measure => have := Hgk.out; omega
            case rel => exact ⟨k + 1, by omega, rfl, by go_num, hbg, Hall.out.step Hx.out h1 (fun q _ hq => by rw [Hp.out] at hq; cases hq; exact Hr.out)⟩
    · have hkn : k = n := by omega
      subst hkn
      go_wp2
      go_ret
      exact Ret.b ((validL_all (by rw [Hl.out]; exact Nat.le_refl _) Hall.out).trans (by rw [Hl.out]; simp <;> omega)).symm hb


end Go.Proofs.Ytlfnkgfkimanaaa
