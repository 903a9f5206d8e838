/- When one Observed, and a list of them, is valid: the program's and the reference's functions return one Boolean. -/
import Derived.Test.YtlfnkgfkimanaaaBase
import Derived.Test.YtlfnkgfkimanaaaTObserved
namespace Go.Proofs.Ytlfnkgfkimanaaa
open Go.RowKit

def Observed.oneB (x : Observed) : Bool := inB x.hour 0 100000 && inB x.snow 0 2000 && inB x.degrees (-5000) 5000 && inB x.wind 0 10000
theorem Observed.oneB_iff (x : Observed) : x.oneB = true ↔ inB x.hour 0 100000 = true ∧ inB x.snow 0 2000 = true ∧ inB x.degrees (-5000) 5000 = true ∧ inB x.wind 0 10000 = true := by simp [Observed.oneB, and_assoc]

set_option maxHeartbeats 1000000 in
theorem implObservedvalid_any (x : Observed) (w : World)  :
    Calls Try.prog 109 #[.agg #[.int .i64 x.hour, .int .i64 x.snow, .int .i64 x.degrees, .int .i64 x.wind]] w (Ret (.bool x.oneB) w) := by
  rcases cases4 (inB x.hour 0 100000) (inB x.snow 0 2000) (inB x.degrees (-5000) 5000) (inB x.wind 0 10000) with h0 | ⟨h0, h1⟩ | ⟨h0, h1, h2⟩ | ⟨h0, h1, h2, h3⟩ | ⟨h0, h1, h2, h3⟩
  · skip
    go_enter Try.func109, Try.ntmps109
    go_wp2_with ((go_at_call 68; refine (hourOk_any _ _).mono ?_; rintro e w' ⟨rfl, rfl⟩))
    all_goals (go_ret; exact Ret.b (by simp [Observed.oneB, *]) (by repeat (first | assumption | exact Below.refl _ _ | refine Below.alloc ?_ (by simp <;> omega) _)))
  · have ⟨_, _⟩ := inB_iff.1 h0
    go_enter Try.func109, Try.ntmps109
    go_wp2_with (first | (go_at_call 68; refine (hourOk_any _ _).mono ?_; rintro e w' ⟨rfl, rfl⟩) | (go_at_call 79; refine (within_any _ _ _ _).mono ?_; rintro e w' ⟨rfl, rfl⟩))
    all_goals (go_ret; exact Ret.b (by simp [Observed.oneB, *]) (by repeat (first | assumption | exact Below.refl _ _ | refine Below.alloc ?_ (by simp <;> omega) _)))
  · have ⟨_, _⟩ := inB_iff.1 h0
    have ⟨_, _⟩ := inB_iff.1 h1
    go_enter Try.func109, Try.ntmps109
    go_wp2_with (first | (go_at_call 68; refine (hourOk_any _ _).mono ?_; rintro e w' ⟨rfl, rfl⟩) | (go_at_call 79; refine (within_any _ _ _ _).mono ?_; rintro e w' ⟨rfl, rfl⟩))
    all_goals (go_ret; exact Ret.b (by simp [Observed.oneB, *]) (by repeat (first | assumption | exact Below.refl _ _ | refine Below.alloc ?_ (by simp <;> omega) _)))
  · have ⟨_, _⟩ := inB_iff.1 h0
    have ⟨_, _⟩ := inB_iff.1 h1
    have ⟨_, _⟩ := inB_iff.1 h2
    go_enter Try.func109, Try.ntmps109
    go_wp2_with (first | (go_at_call 68; refine (hourOk_any _ _).mono ?_; rintro e w' ⟨rfl, rfl⟩) | (go_at_call 79; refine (within_any _ _ _ _).mono ?_; rintro e w' ⟨rfl, rfl⟩))
    all_goals (go_ret; exact Ret.b (by simp [Observed.oneB, *]) (by repeat (first | assumption | exact Below.refl _ _ | refine Below.alloc ?_ (by simp <;> omega) _)))
  · have ⟨_, _⟩ := inB_iff.1 h0
    have ⟨_, _⟩ := inB_iff.1 h1
    have ⟨_, _⟩ := inB_iff.1 h2
    have ⟨_, _⟩ := inB_iff.1 h3
    go_enter Try.func109, Try.ntmps109
    go_wp2_with (first | (go_at_call 68; refine (hourOk_any _ _).mono ?_; rintro e w' ⟨rfl, rfl⟩) | (go_at_call 79; refine (within_any _ _ _ _).mono ?_; rintro e w' ⟨rfl, rfl⟩))
    all_goals (go_ret; exact Ret.b (by simp [Observed.oneB, *]) (by repeat (first | assumption | exact Below.refl _ _ | refine Below.alloc ?_ (by simp <;> omega) _)))

set_option maxHeartbeats 1000000 in
theorem specObservedOne_any (x : Observed) (b off : Nat) (w : World) (_hb : b < w.heap.size) (x0 : w.cell? ⟨b, off, none⟩ = some (.int .i64 x.hour)) (x1 : w.cell? ⟨b, off + 1, none⟩ = some (.int .i64 x.snow)) (x2 : w.cell? ⟨b, off + 2, none⟩ = some (.int .i64 x.degrees)) (x3 : w.cell? ⟨b, off + 3, none⟩ = some (.int .i64 x.wind)) :
    Calls Try.prog 108 #[.pointer (some ⟨b, off, none⟩)] w (Ret (.bool x.oneB) w) := by
  rcases cases4 (inB x.hour 0 100000) (inB x.snow 0 2000) (inB x.degrees (-5000) 5000) (inB x.wind 0 10000) with h0 | ⟨h0, h1⟩ | ⟨h0, h1, h2⟩ | ⟨h0, h1, h2, h3⟩ | ⟨h0, h1, h2, h3⟩
  · skip
    go_enter Try.func108, Try.ntmps108
    go_wp2_with ((go_at_call 64; refine (l04Hour_any _ _).mono ?_; rintro e w' ⟨rfl, rfl⟩))
    all_goals (go_ret; exact Ret.b (by simp [Observed.oneB, *]) (by repeat (first | assumption | exact Below.refl _ _ | refine Below.alloc ?_ (by simp <;> omega) _)))
  · have ⟨_, _⟩ := inB_iff.1 h0
    go_enter Try.func108, Try.ntmps108
    go_wp2_with (first | (go_at_call 64; refine (l04Hour_any _ _).mono ?_; rintro e w' ⟨rfl, rfl⟩) | (go_at_call 100; refine (l00In_any _ _ _ _).mono ?_; rintro e w' ⟨rfl, rfl⟩))
    all_goals (go_ret; exact Ret.b (by simp [Observed.oneB, *]) (by repeat (first | assumption | exact Below.refl _ _ | refine Below.alloc ?_ (by simp <;> omega) _)))
  · have ⟨_, _⟩ := inB_iff.1 h0
    have ⟨_, _⟩ := inB_iff.1 h1
    go_enter Try.func108, Try.ntmps108
    go_wp2_with (first | (go_at_call 64; refine (l04Hour_any _ _).mono ?_; rintro e w' ⟨rfl, rfl⟩) | (go_at_call 100; refine (l00In_any _ _ _ _).mono ?_; rintro e w' ⟨rfl, rfl⟩))
    all_goals (go_ret; exact Ret.b (by simp [Observed.oneB, *]) (by repeat (first | assumption | exact Below.refl _ _ | refine Below.alloc ?_ (by simp <;> omega) _)))
  · have ⟨_, _⟩ := inB_iff.1 h0
    have ⟨_, _⟩ := inB_iff.1 h1
    have ⟨_, _⟩ := inB_iff.1 h2
    go_enter Try.func108, Try.ntmps108
    go_wp2_with (first | (go_at_call 64; refine (l04Hour_any _ _).mono ?_; rintro e w' ⟨rfl, rfl⟩) | (go_at_call 100; refine (l00In_any _ _ _ _).mono ?_; rintro e w' ⟨rfl, rfl⟩))
    all_goals (go_ret; exact Ret.b (by simp [Observed.oneB, *]) (by repeat (first | assumption | exact Below.refl _ _ | refine Below.alloc ?_ (by simp <;> omega) _)))
  · have ⟨_, _⟩ := inB_iff.1 h0
    have ⟨_, _⟩ := inB_iff.1 h1
    have ⟨_, _⟩ := inB_iff.1 h2
    have ⟨_, _⟩ := inB_iff.1 h3
    go_enter Try.func108, Try.ntmps108
    go_wp2_with (first | (go_at_call 64; refine (l04Hour_any _ _).mono ?_; rintro e w' ⟨rfl, rfl⟩) | (go_at_call 100; refine (l00In_any _ _ _ _).mono ?_; rintro e w' ⟨rfl, rfl⟩))
    all_goals (go_ret; exact Ret.b (by simp [Observed.oneB, *]) (by repeat (first | assumption | exact Below.refl _ _ | refine Below.alloc ?_ (by simp <;> omega) _)))

def Observed.rel (p x : Observed) : Bool := decide (p.hour < x.hour)
def Observed.validB (xs : List Observed) : Bool := validL 48 Observed.oneB Observed.rel xs

set_option maxHeartbeats 2000000 in
theorem specObservedValid_any (A : Option Addr) (n c : Nat) (xs : List Observed) (w : World) (hx : SliceOf w 4 Observed.cells A n xs) :
    Calls Try.prog 63 #[.slice A n c] w (Ret (.bool (Observed.validB xs)) w) := by
  have hn := hx.le
  have hl := hx.len
  have Hl := Lib.hid hl
  clear hl
  go_enter Try.func63, Try.ntmps63
  go_wp2
  go_loopg [3] n (fun gk i wr => ∃ k : Nat, k ≤ n ∧ gk = n - k ∧ i = .int .i64 k ∧ Below w.heap.size w wr ∧ GoodTo Observed.oneB Observed.rel xs k)
  case atStart => exact ⟨0, Nat.zero_le _, rfl, rfl, Below.refl _ _, GoodTo.zero⟩
  case round =>
    obtain ⟨k, hk, hgk, rfl, hb, hall⟩ := hrel
    have Hall := Lib.hid hall
    have Hgk := Lib.hid hgk
    clear hall hgk
    by_cases hlt : k < n
    · have hx' := hx.below hb
      obtain ⟨b1, o1, x, rfl, hb1, hxk, x0, x1, x2, x3⟩ := Observed.at_ hx' hlt
      have Hx := Lib.hid hxk
      clear hxk
      have hsub := fun (g : Sub wr) b o (h : b < wr.heap.size) => g.cell b o h
      cases h1 : x.oneB
      · go_wp2_with fail
        refine wp_region_sub (by kernel_rfl) (by kernel_rfl) ?_
        repeat (go_big_quiet_step (exact Calls.sub_of_eq (specObservedOne_any x _ _ _ (Nat.lt_of_lt_of_le hb1 (Sub.below _).size) ((Sub.cell _ _ _ hb1).trans x0) ((Sub.cell _ _ _ hb1).trans x1) ((Sub.cell _ _ _ hb1).trans x2) ((Sub.cell _ _ _ hb1).trans x3)) (congrArg Value.bool h1)))
        refine wpQuiet_nil ?_
        intro wg hg
        have hbg := hb.trans (hg.mono hb.size)
        clear hsub x0 x1 x2 x3
        go_wp2
        go_ret
        exact Ret.b (validL_one Hx.out h1).symm hbg
      · by_cases hk0 : k = 0
        · have hd : decide (0 < k) = false := decide_eq_false (by omega)
          have Hk0 := Lib.hid hk0
          clear hk0
          go_wp2_with fail
          refine wp_region_sub (by kernel_rfl) (by kernel_rfl) ?_
          repeat (go_big_quiet_step (exact Calls.sub_of_eq (specObservedOne_any x _ _ _ (Nat.lt_of_lt_of_le hb1 (Sub.below _).size) ((Sub.cell _ _ _ hb1).trans x0) ((Sub.cell _ _ _ hb1).trans x1) ((Sub.cell _ _ _ hb1).trans x2) ((Sub.cell _ _ _ hb1).trans x3)) (congrArg Value.bool h1)))
          refine wpQuiet_nil ?_
          intro wg hg
          have hbg := hb.trans (hg.mono hb.size)
          clear hsub x0 x1 x2 x3
          go_wp2
          go_roundg (n - (k + 1))
          case measure => have := Hgk.out; omega
          case rel => exact ⟨k + 1, by omega, rfl, by go_num, hbg, Hall.out.step Hx.out h1 (fun p h => absurd h (by have := Hk0.out; omega))⟩
        · have hd : decide (0 < k) = true := decide_eq_true (by omega)
          have hlt' : k - 1 < n := by omega
          obtain ⟨b2, o2, p, he, hb2, hpk, p0, p1, p2, p3⟩ := Observed.at_ hx' hlt'
          injection he with he
          injection he with he1 he2 _
          subst he1 he2
          have Hp := Lib.hid hpk
          clear hpk
          cases hr : Observed.rel p x
          · have hr' : ¬ (p.hour < x.hour) := by simpa [Observed.rel] using hr
            have Hr := Lib.hid hr
            clear hr hx hx'
            go_wp2_with fail
            refine wp_region_sub (by kernel_rfl) (by kernel_rfl) ?_
            repeat (go_big_quiet_step (exact Calls.sub_of_eq (specObservedOne_any x _ _ _ (Nat.lt_of_lt_of_le hb1 (Sub.below _).size) ((Sub.cell _ _ _ hb1).trans x0) ((Sub.cell _ _ _ hb1).trans x1) ((Sub.cell _ _ _ hb1).trans x2) ((Sub.cell _ _ _ hb1).trans x3)) (congrArg Value.bool h1)))
            refine wpQuiet_nil ?_
            intro wg hg
            have hbg := hb.trans (hg.mono hb.size)
            clear hsub x0 x1 x2 x3 p0 p1 p2 p3
            go_wp2
            go_ret
            exact Ret.b (validL_rel (by omega) Hp.out Hx.out Hr.out).symm hbg
          · have hr' : (p.hour < x.hour) := by simpa [Observed.rel] using hr
            have Hr := Lib.hid hr
            clear hr hx hx'
            go_wp2_with fail
            refine wp_region_sub (by kernel_rfl) (by kernel_rfl) ?_
            repeat (go_big_quiet_step (exact Calls.sub_of_eq (specObservedOne_any x _ _ _ (Nat.lt_of_lt_of_le hb1 (Sub.below _).size) ((Sub.cell _ _ _ hb1).trans x0) ((Sub.cell _ _ _ hb1).trans x1) ((Sub.cell _ _ _ hb1).trans x2) ((Sub.cell _ _ _ hb1).trans x3)) (congrArg Value.bool h1)))
            refine wpQuiet_nil ?_
            intro wg hg
            have hbg := hb.trans (hg.mono hb.size)
            clear hsub x0 x1 x2 x3 p0 p1 p2 p3
            go_wp2
            go_roundg (n - (k + 1))
            case measure => have := Hgk.out; omega
            case rel => exact ⟨k + 1, by omega, rfl, by go_num, hbg, Hall.out.step Hx.out h1 (fun q _ hq => by rw [Hp.out] at hq; cases hq; exact Hr.out)⟩
    · have hkn : k = n := by omega
      subst hkn
      go_wp2
      go_ret
      exact Ret.b ((validL_all (by rw [Hl.out]; exact Nat.le_refl _) Hall.out).trans (by rw [Hl.out]; simp <;> omega)).symm hb

set_option maxHeartbeats 2000000 in
theorem implObservedValid_any (A : Option Addr) (n c : Nat) (xs : List Observed) (w : World) (hx : SliceOf w 4 Observed.cells A n xs) :
    Calls Try.prog 67 #[.slice A n c] w (Ret (.bool (Observed.validB xs)) w) := by
  have hn := hx.le
  have hl := hx.len
  have Hl := Lib.hid hl
  clear hl
  by_cases hM : 48 < n
  · go_enter Try.func67, Try.ntmps67
    go_wp2
    go_ret
    exact Ret.b (validL_len (by rw [Hl.out]; exact hM)).symm (Below.refl _ _)
  go_enter Try.func67, Try.ntmps67
  go_wp2
  go_loopg [10] n (fun gk i wr => ∃ k : Nat, k ≤ n ∧ gk = n - k ∧ i = .int .i64 k ∧ Below w.heap.size w wr ∧ GoodTo Observed.oneB Observed.rel xs k)
  case atStart => exact ⟨0, Nat.zero_le _, rfl, rfl, Below.refl _ _, GoodTo.zero⟩
  case round =>
    obtain ⟨k, hk, hgk, rfl, hb, hall⟩ := hrel
    have Hall := Lib.hid hall
    have Hgk := Lib.hid hgk
    clear hall hgk
    by_cases hlt : k < n
    · have hx' := hx.below hb
      obtain ⟨b1, o1, x, rfl, hb1, hxk, x0, x1, x2, x3⟩ := Observed.at_ hx' hlt
      have Hx := Lib.hid hxk
      clear hxk
      have hsub := fun (o : Obj) (g : Sub (wr.alloc o)) b o' (h : b < (wr.alloc o).heap.size) => g.cell b o' h
      have hlt1 : b1 < wr.heap.size + 1 := by omega
      cases h1 : x.oneB
      · go_wp2_with fail
        refine wp_region_sub (by kernel_rfl) (by kernel_rfl) ?_
        repeat (go_big_quiet_step (exact Calls.sub_of_eq (implObservedvalid_any x _) (congrArg Value.bool h1)))
        refine wpQuiet_nil ?_
        intro wg hg
        have hbg := (hb.alloc hb.size _).trans (hg.mono (Nat.le_trans hb.size (by simp)))
        clear hsub x0 x1 x2 x3 hlt1
        go_wp2
        go_ret
        exact Ret.b (validL_one Hx.out h1).symm hbg
      · by_cases hk0 : k = 0
        · have hd : decide (0 < k) = false := decide_eq_false (by omega)
          have Hk0 := Lib.hid hk0
          clear hk0
          go_wp2_with fail
          refine wp_region_sub (by kernel_rfl) (by kernel_rfl) ?_
          repeat (go_big_quiet_step (exact Calls.sub_of_eq (implObservedvalid_any x _) (congrArg Value.bool h1)))
          refine wpQuiet_nil ?_
          intro wg hg
          have hbg := (hb.alloc hb.size _).trans (hg.mono (Nat.le_trans hb.size (by simp)))
          clear hsub x0 x1 x2 x3 hlt1
          go_wp2
          go_roundg (n - (k + 1))
          case measure => have := Hgk.out; omega
          case rel => exact ⟨k + 1, by omega, rfl, by go_num, hbg, Hall.out.step Hx.out h1 (fun p h => absurd h (by have := Hk0.out; omega))⟩
        · have hd : decide (0 < k) = true := decide_eq_true (by omega)
          have hlt' : k - 1 < n := by omega
          obtain ⟨b2, o2, p, he, hb2, hpk, p0, p1, p2, p3⟩ := Observed.at_ hx' hlt'
          injection he with he
          injection he with he1 he2 _
          subst he1 he2
          have Hp := Lib.hid hpk
          clear hpk
          cases hr : Observed.rel p x
          · have hr' : ¬ (p.hour < x.hour) := by simpa [Observed.rel] using hr
            have Hr := Lib.hid hr
            clear hr hx hx'
            go_wp2_with fail
            refine wp_region_sub (by kernel_rfl) (by kernel_rfl) ?_
            repeat (go_big_quiet_step (exact Calls.sub_of_eq (implObservedvalid_any x _) (congrArg Value.bool h1)))
            refine wpQuiet_nil ?_
            intro wg hg
            have hbg := (hb.alloc hb.size _).trans (hg.mono (Nat.le_trans hb.size (by simp)))
            clear hsub x0 x1 x2 x3 hlt1 p0 p1 p2 p3
            go_wp2
            go_ret
            exact Ret.b (validL_rel (by omega) Hp.out Hx.out Hr.out).symm hbg
          · have hr' : (p.hour < x.hour) := by simpa [Observed.rel] using hr
            have Hr := Lib.hid hr
            clear hr hx hx'
            go_wp2_with fail
            refine wp_region_sub (by kernel_rfl) (by kernel_rfl) ?_
            repeat (go_big_quiet_step (exact Calls.sub_of_eq (implObservedvalid_any x _) (congrArg Value.bool h1)))
            refine wpQuiet_nil ?_
            intro wg hg
            have hbg := (hb.alloc hb.size _).trans (hg.mono (Nat.le_trans hb.size (by simp)))
            clear hsub x0 x1 x2 x3 hlt1 p0 p1 p2 p3
            go_wp2
            go_roundg (n - (k + 1))
            case measure => have := Hgk.out; omega
            case rel => exact ⟨k + 1, by omega, rfl, by go_num, hbg, Hall.out.step Hx.out h1 (fun q _ hq => by rw [Hp.out] at hq; cases hq; exact Hr.out)⟩
    · have hkn : k = n := by omega
      subst hkn
      go_wp2
      go_ret
      exact Ret.b ((validL_all (by rw [Hl.out]; exact Nat.le_refl _) Hall.out).trans (by rw [Hl.out]; simp <;> omega)).symm hb


end Go.Proofs.Ytlfnkgfkimanaaa
