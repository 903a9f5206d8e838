/- When one Stand, and a list of them, is valid: the program's and the reference's functions return one Boolean. -/
import Derived.Test.YtlfnkgfkimanaaaBase
import Derived.Test.YtlfnkgfkimanaaaTStand
namespace Go.Proofs.Ytlfnkgfkimanaaa
open Go.RowKit

def Stand.oneB (x : Stand) : Bool := isNameB x.id && inB x.trees 0 2000 && inB x.height 0 5000 && inB x.cover 0 1000 && inB x.gap 0 100
theorem Stand.oneB_iff (x : Stand) : x.oneB = true ↔ isNameB x.id = true ∧ inB x.trees 0 2000 = true ∧ inB x.height 0 5000 = true ∧ inB x.cover 0 1000 = true ∧ inB x.gap 0 100 = true := by simp [Stand.oneB, and_assoc]

set_option maxHeartbeats 1000000 in
theorem implStandvalid_any (x : Stand) (w : World)  (hs : x.id.size ≤ 9223372036854775807) :
    Calls Try.prog 78 #[.agg #[.string x.id, .int .i64 x.trees, .int .i64 x.height, .int .i64 x.cover, .int .i64 x.gap]] w (Ret (.bool x.oneB) w) := by
  rcases cases5 (isNameB x.id) (inB x.trees 0 2000) (inB x.height 0 5000) (inB x.cover 0 1000) (inB x.gap 0 100) with h0 | ⟨h0, h1⟩ | ⟨h0, h1, h2⟩ | ⟨h0, h1, h2, h3⟩ | ⟨h0, h1, h2, h3, h4⟩ | ⟨h0, h1, h2, h3, h4⟩
  · skip
    go_enter Try.func78, Try.ntmps78
    go_wp2_with ((go_at_call 111; refine (IsName_any _ _ hs).mono ?_; rintro e w' ⟨rfl, rfl⟩))
    all_goals (go_ret; exact Ret.b (by simp [Stand.oneB, *]) (by repeat (first | assumption | exact Below.refl _ _ | refine Below.alloc ?_ (by simp <;> omega) _)))
  · skip
    go_enter Try.func78, Try.ntmps78
    go_wp2_with (first | (go_at_call 111; refine (IsName_any _ _ hs).mono ?_; rintro e w' ⟨rfl, rfl⟩) | (go_at_call 79; refine (within_any _ _ _ _).mono ?_; rintro e w' ⟨rfl, rfl⟩))
    all_goals (go_ret; exact Ret.b (by simp [Stand.oneB, *]) (by repeat (first | assumption | exact Below.refl _ _ | refine Below.alloc ?_ (by simp <;> omega) _)))
  · have ⟨_, _⟩ := inB_iff.1 h1
    go_enter Try.func78, Try.ntmps78
    go_wp2_with (first | (go_at_call 111; refine (IsName_any _ _ hs).mono ?_; rintro e w' ⟨rfl, rfl⟩) | (go_at_call 79; refine (within_any _ _ _ _).mono ?_; rintro e w' ⟨rfl, rfl⟩))
    all_goals (go_ret; exact Ret.b (by simp [Stand.oneB, *]) (by repeat (first | assumption | exact Below.refl _ _ | refine Below.alloc ?_ (by simp <;> omega) _)))
  · have ⟨_, _⟩ := inB_iff.1 h1
    have ⟨_, _⟩ := inB_iff.1 h2
    go_enter Try.func78, Try.ntmps78
    go_wp2_with (first | (go_at_call 111; refine (IsName_any _ _ hs).mono ?_; rintro e w' ⟨rfl, rfl⟩) | (go_at_call 79; refine (within_any _ _ _ _).mono ?_; rintro e w' ⟨rfl, rfl⟩))
    all_goals (go_ret; exact Ret.b (by simp [Stand.oneB, *]) (by repeat (first | assumption | exact Below.refl _ _ | refine Below.alloc ?_ (by simp <;> omega) _)))
  · have ⟨_, _⟩ := inB_iff.1 h1
    have ⟨_, _⟩ := inB_iff.1 h2
    have ⟨_, _⟩ := inB_iff.1 h3
    go_enter Try.func78, Try.ntmps78
    go_wp2_with (first | (go_at_call 111; refine (IsName_any _ _ hs).mono ?_; rintro e w' ⟨rfl, rfl⟩) | (go_at_call 79; refine (within_any _ _ _ _).mono ?_; rintro e w' ⟨rfl, rfl⟩))
    all_goals (go_ret; exact Ret.b (by simp [Stand.oneB, *]) (by repeat (first | assumption | exact Below.refl _ _ | refine Below.alloc ?_ (by simp <;> omega) _)))
  · have ⟨_, _⟩ := inB_iff.1 h1
    have ⟨_, _⟩ := inB_iff.1 h2
    have ⟨_, _⟩ := inB_iff.1 h3
    have ⟨_, _⟩ := inB_iff.1 h4
    go_enter Try.func78, Try.ntmps78
    go_wp2_with (first | (go_at_call 111; refine (IsName_any _ _ hs).mono ?_; rintro e w' ⟨rfl, rfl⟩) | (go_at_call 79; refine (within_any _ _ _ _).mono ?_; rintro e w' ⟨rfl, rfl⟩))
    all_goals (go_ret; exact Ret.b (by simp [Stand.oneB, *]) (by repeat (first | assumption | exact Below.refl _ _ | refine Below.alloc ?_ (by simp <;> omega) _)))

set_option maxHeartbeats 1000000 in
theorem specStandOne_any (x : Stand) (b off : Nat) (w : World) (_hb : b < w.heap.size) (hs : x.id.size ≤ 9223372036854775807) (x0 : w.cell? ⟨b, off, none⟩ = some (.string x.id)) (x1 : w.cell? ⟨b, off + 1, none⟩ = some (.int .i64 x.trees)) (x2 : w.cell? ⟨b, off + 2, none⟩ = some (.int .i64 x.height)) (x3 : w.cell? ⟨b, off + 3, none⟩ = some (.int .i64 x.cover)) (x4 : w.cell? ⟨b, off + 4, none⟩ = some (.int .i64 x.gap)) :
    Calls Try.prog 75 #[.pointer (some ⟨b, off, none⟩)] w (Ret (.bool x.oneB) w) := by
  rcases cases5 (isNameB x.id) (inB x.trees 0 2000) (inB x.height 0 5000) (inB x.cover 0 1000) (inB x.gap 0 100) with h0 | ⟨h0, h1⟩ | ⟨h0, h1, h2⟩ | ⟨h0, h1, h2, h3⟩ | ⟨h0, h1, h2, h3, h4⟩ | ⟨h0, h1, h2, h3, h4⟩
  · skip
    go_enter Try.func75, Try.ntmps75
    go_wp2_with ((go_at_call 112; refine (l01Name_any _ _ hs).mono ?_; rintro e w' ⟨rfl, rfl⟩))
    all_goals (go_ret; exact Ret.b (by simp [Stand.oneB, *]) (by repeat (first | assumption | exact Below.refl _ _ | refine Below.alloc ?_ (by simp <;> omega) _)))
  · skip
    go_enter Try.func75, Try.ntmps75
    go_wp2_with (first | (go_at_call 112; refine (l01Name_any _ _ hs).mono ?_; rintro e w' ⟨rfl, rfl⟩) | (go_at_call 100; refine (l00In_any _ _ _ _).mono ?_; rintro e w' ⟨rfl, rfl⟩))
    all_goals (go_ret; exact Ret.b (by simp [Stand.oneB, *]) (by repeat (first | assumption | exact Below.refl _ _ | refine Below.alloc ?_ (by simp <;> omega) _)))
  · have ⟨_, _⟩ := inB_iff.1 h1
    go_enter Try.func75, Try.ntmps75
    go_wp2_with (first | (go_at_call 112; refine (l01Name_any _ _ hs).mono ?_; rintro e w' ⟨rfl, rfl⟩) | (go_at_call 100; refine (l00In_any _ _ _ _).mono ?_; rintro e w' ⟨rfl, rfl⟩))
    all_goals (go_ret; exact Ret.b (by simp [Stand.oneB, *]) (by repeat (first | assumption | exact Below.refl _ _ | refine Below.alloc ?_ (by simp <;> omega) _)))
  · have ⟨_, _⟩ := inB_iff.1 h1
    have ⟨_, _⟩ := inB_iff.1 h2
    go_enter Try.func75, Try.ntmps75
    go_wp2_with (first | (go_at_call 112; refine (l01Name_any _ _ hs).mono ?_; rintro e w' ⟨rfl, rfl⟩) | (go_at_call 100; refine (l00In_any _ _ _ _).mono ?_; rintro e w' ⟨rfl, rfl⟩))
    all_goals (go_ret; exact Ret.b (by simp [Stand.oneB, *]) (by repeat (first | assumption | exact Below.refl _ _ | refine Below.alloc ?_ (by simp <;> omega) _)))
  · have ⟨_, _⟩ := inB_iff.1 h1
    have ⟨_, _⟩ := inB_iff.1 h2
    have ⟨_, _⟩ := inB_iff.1 h3
    go_enter Try.func75, Try.ntmps75
    go_wp2_with (first | (go_at_call 112; refine (l01Name_any _ _ hs).mono ?_; rintro e w' ⟨rfl, rfl⟩) | (go_at_call 100; refine (l00In_any _ _ _ _).mono ?_; rintro e w' ⟨rfl, rfl⟩))
    all_goals (go_ret; exact Ret.b (by simp [Stand.oneB, *]) (by repeat (first | assumption | exact Below.refl _ _ | refine Below.alloc ?_ (by simp <;> omega) _)))
  · have ⟨_, _⟩ := inB_iff.1 h1
    have ⟨_, _⟩ := inB_iff.1 h2
    have ⟨_, _⟩ := inB_iff.1 h3
    have ⟨_, _⟩ := inB_iff.1 h4
    go_enter Try.func75, Try.ntmps75
    go_wp2_with (first | (go_at_call 112; refine (l01Name_any _ _ hs).mono ?_; rintro e w' ⟨rfl, rfl⟩) | (go_at_call 100; refine (l00In_any _ _ _ _).mono ?_; rintro e w' ⟨rfl, rfl⟩))
    all_goals (go_ret; exact Ret.b (by simp [Stand.oneB, *]) (by repeat (first | assumption | exact Below.refl _ _ | refine Below.alloc ?_ (by simp <;> omega) _)))

def Stand.rel (p x : Stand) : Bool := Go.Op.bytesLess p.id.toList x.id.toList
def Stand.validB (xs : List Stand) : Bool := validL 16 Stand.oneB Stand.rel xs

set_option maxHeartbeats 2000000 in
theorem specStandValid_any (A : Option Addr) (n c : Nat) (xs : List Stand) (w : World) (hx : SliceOf w 5 Stand.cells A n xs) (hg : ∀ x ∈ xs, x.Good) :
    Calls Try.prog 86 #[.slice A n c] w (Ret (.bool (Stand.validB xs)) w) := by
  have hn := hx.le
  have hl := hx.len
  have Hl := Lib.hid hl
  clear hl
  go_enter Try.func86, Try.ntmps86
  go_wp2
  go_loopg [3] n (fun gk i wr => ∃ k : Nat, k ≤ n ∧ gk = n - k ∧ i = .int .i64 k ∧ Below w.heap.size w wr ∧ GoodTo Stand.oneB Stand.rel xs k)
  case atStart => exact ⟨0, Nat.zero_le _, rfl, rfl, Below.refl _ _, GoodTo.zero⟩
  case round =>
    obtain ⟨k, hk, hgk, rfl, hb, hall⟩ := hrel
    have Hall := Lib.hid hall
    have Hgk := Lib.hid hgk
    clear hall hgk
    by_cases hlt : k < n
    · have hx' := hx.below hb
      obtain ⟨b1, o1, x, rfl, hb1, hxk, x0, x1, x2, x3, x4⟩ := Stand.at_ hx' hlt
      have hs : x.id.size ≤ 9223372036854775807 := by
        have := (hg x (List.mem_of_getElem? hxk)).2.2.2.2; simp [maxLen] at this; omega
      have Hx := Lib.hid hxk
      clear hxk
      have hsub := fun (g : Sub wr) b o (h : b < wr.heap.size) => g.cell b o h
      cases h1 : x.oneB
      · go_wp2_with fail
        refine wp_region_sub (by kernel_rfl) (by kernel_rfl) ?_
        repeat (go_big_quiet_step (exact Calls.sub_of_eq (specStandOne_any x _ _ _ (Nat.lt_of_lt_of_le hb1 (Sub.below _).size) hs ((Sub.cell _ _ _ hb1).trans x0) ((Sub.cell _ _ _ hb1).trans x1) ((Sub.cell _ _ _ hb1).trans x2) ((Sub.cell _ _ _ hb1).trans x3) ((Sub.cell _ _ _ hb1).trans x4)) (congrArg Value.bool h1)))
        refine wpQuiet_nil ?_
        intro wg hg
        have hbg := hb.trans (hg.mono hb.size)
        clear hsub x0 x1 x2 x3 x4
        go_wp2
        go_ret
        exact Ret.b (validL_one Hx.out h1).symm hbg
      · by_cases hk0 : k = 0
        · have hd : decide (0 < k) = false := decide_eq_false (by omega)
          have Hk0 := Lib.hid hk0
          clear hk0
          go_wp2_with fail
          refine wp_region_sub (by kernel_rfl) (by kernel_rfl) ?_
          repeat (go_big_quiet_step (exact Calls.sub_of_eq (specStandOne_any x _ _ _ (Nat.lt_of_lt_of_le hb1 (Sub.below _).size) hs ((Sub.cell _ _ _ hb1).trans x0) ((Sub.cell _ _ _ hb1).trans x1) ((Sub.cell _ _ _ hb1).trans x2) ((Sub.cell _ _ _ hb1).trans x3) ((Sub.cell _ _ _ hb1).trans x4)) (congrArg Value.bool h1)))
          refine wpQuiet_nil ?_
          intro wg hg
          have hbg := hb.trans (hg.mono hb.size)
          clear hsub x0 x1 x2 x3 x4
          go_wp2
          go_roundg (n - (k + 1))
          case measure => have := Hgk.out; omega
          case rel => exact ⟨k + 1, by omega, rfl, by go_num, hbg, Hall.out.step Hx.out h1 (fun p h => absurd h (by have := Hk0.out; omega))⟩
        · have hd : decide (0 < k) = true := decide_eq_true (by omega)
          have hlt' : k - 1 < n := by omega
          obtain ⟨b2, o2, p, he, hb2, hpk, p0, p1, p2, p3, p4⟩ := Stand.at_ hx' hlt'
          injection he with he
          injection he with he1 he2 _
          subst he1 he2
          have Hp := Lib.hid hpk
          clear hpk
          cases hr : Stand.rel p x
          · have hr1 := bytesLess_leq x.id.toList p.id.toList
            have hr2 : Go.Op.bytesLess p.id.toList x.id.toList = false := hr
            rw [hr2] at hr1
            have Hr := Lib.hid hr
            clear hr hx hx'
            go_wp2_with fail
            refine wp_region_sub (by kernel_rfl) (by kernel_rfl) ?_
            repeat (go_big_quiet_step (exact Calls.sub_of_eq (specStandOne_any x _ _ _ (Nat.lt_of_lt_of_le hb1 (Sub.below _).size) hs ((Sub.cell _ _ _ hb1).trans x0) ((Sub.cell _ _ _ hb1).trans x1) ((Sub.cell _ _ _ hb1).trans x2) ((Sub.cell _ _ _ hb1).trans x3) ((Sub.cell _ _ _ hb1).trans x4)) (congrArg Value.bool h1)))
            refine wpQuiet_nil ?_
            intro wg hg
            have hbg := hb.trans (hg.mono hb.size)
            clear hsub x0 x1 x2 x3 x4 p0 p1 p2 p3 p4
            go_wp2
            go_ret
            exact Ret.b (validL_rel (by omega) Hp.out Hx.out Hr.out).symm hbg
          · have hr1 := bytesLess_leq x.id.toList p.id.toList
            have hr2 : Go.Op.bytesLess p.id.toList x.id.toList = true := hr
            rw [hr2] at hr1
            have Hr := Lib.hid hr
            clear hr hx hx'
            go_wp2_with fail
            refine wp_region_sub (by kernel_rfl) (by kernel_rfl) ?_
            repeat (go_big_quiet_step (exact Calls.sub_of_eq (specStandOne_any x _ _ _ (Nat.lt_of_lt_of_le hb1 (Sub.below _).size) hs ((Sub.cell _ _ _ hb1).trans x0) ((Sub.cell _ _ _ hb1).trans x1) ((Sub.cell _ _ _ hb1).trans x2) ((Sub.cell _ _ _ hb1).trans x3) ((Sub.cell _ _ _ hb1).trans x4)) (congrArg Value.bool h1)))
            refine wpQuiet_nil ?_
            intro wg hg
            have hbg := hb.trans (hg.mono hb.size)
            clear hsub x0 x1 x2 x3 x4 p0 p1 p2 p3 p4
            go_wp2
            go_roundg (n - (k + 1))
            case measure => have := Hgk.out; omega
            case rel => exact ⟨k + 1, by omega, rfl, by go_num, hbg, Hall.out.step Hx.out h1 (fun q _ hq => by rw [Hp.out] at hq; cases hq; exact Hr.out)⟩
    · have hkn : k = n := by omega
      subst hkn
      go_wp2
      go_ret
      exact Ret.b ((validL_all (by rw [Hl.out]; exact Nat.le_refl _) Hall.out).trans (by rw [Hl.out]; simp <;> omega)).symm hb

set_option maxHeartbeats 2000000 in
theorem implStandValid_any (A : Option Addr) (n c : Nat) (xs : List Stand) (w : World) (hx : SliceOf w 5 Stand.cells A n xs) (hg : ∀ x ∈ xs, x.Good) :
    Calls Try.prog 37 #[.slice A n c] w (Ret (.bool (Stand.validB xs)) w) := by
  have hn := hx.le
  have hl := hx.len
  have Hl := Lib.hid hl
  clear hl
  by_cases hM : 16 < n
  · go_enter Try.func37, Try.ntmps37
    go_wp2
    go_ret
    exact Ret.b (validL_len (by rw [Hl.out]; exact hM)).symm (Below.refl _ _)
  go_enter Try.func37, Try.ntmps37
  go_wp2
  go_loopg [10] n (fun gk i wr => ∃ k : Nat, k ≤ n ∧ gk = n - k ∧ i = .int .i64 k ∧ Below w.heap.size w wr ∧ GoodTo Stand.oneB Stand.rel xs k)
  case atStart => exact ⟨0, Nat.zero_le _, rfl, rfl, Below.refl _ _, GoodTo.zero⟩
  case round =>
    obtain ⟨k, hk, hgk, rfl, hb, hall⟩ := hrel
    have Hall := Lib.hid hall
    have Hgk := Lib.hid hgk
    clear hall hgk
    by_cases hlt : k < n
    · have hx' := hx.below hb
      obtain ⟨b1, o1, x, rfl, hb1, hxk, x0, x1, x2, x3, x4⟩ := Stand.at_ hx' hlt
      have hs : x.id.size ≤ 9223372036854775807 := by
        have := (hg x (List.mem_of_getElem? hxk)).2.2.2.2; simp [maxLen] at this; omega
      have Hx := Lib.hid hxk
      clear hxk
      have hsub := fun (o : Obj) (g : Sub (wr.alloc o)) b o' (h : b < (wr.alloc o).heap.size) => g.cell b o' h
      have hlt1 : b1 < wr.heap.size + 1 := by omega
      cases h1 : x.oneB
      · go_wp2_with fail
        refine wp_region_sub (by kernel_rfl) (by kernel_rfl) ?_
        repeat (go_big_quiet_step (exact Calls.sub_of_eq (implStandvalid_any x _ hs) (congrArg Value.bool h1)))
        refine wpQuiet_nil ?_
        intro wg hg
        have hbg := (hb.alloc hb.size _).trans (hg.mono (Nat.le_trans hb.size (by simp)))
        clear hsub x0 x1 x2 x3 x4 hlt1
        go_wp2
        go_ret
        exact Ret.b (validL_one Hx.out h1).symm hbg
      · by_cases hk0 : k = 0
        · have hd : decide (0 < k) = false := decide_eq_false (by omega)
          have Hk0 := Lib.hid hk0
          clear hk0
          go_wp2_with fail
          refine wp_region_sub (by kernel_rfl) (by kernel_rfl) ?_
          repeat (go_big_quiet_step (exact Calls.sub_of_eq (implStandvalid_any x _ hs) (congrArg Value.bool h1)))
          refine wpQuiet_nil ?_
          intro wg hg
          have hbg := (hb.alloc hb.size _).trans (hg.mono (Nat.le_trans hb.size (by simp)))
          clear hsub x0 x1 x2 x3 x4 hlt1
          go_wp2
          go_roundg (n - (k + 1))
          case measure => have := Hgk.out; omega
          case rel => exact ⟨k + 1, by omega, rfl, by go_num, hbg, Hall.out.step Hx.out h1 (fun p h => absurd h (by have := Hk0.out; omega))⟩
        · have hd : decide (0 < k) = true := decide_eq_true (by omega)
          have hlt' : k - 1 < n := by omega
          obtain ⟨b2, o2, p, he, hb2, hpk, p0, p1, p2, p3, p4⟩ := Stand.at_ hx' hlt'
          injection he with he
          injection he with he1 he2 _
          subst he1 he2
          have Hp := Lib.hid hpk
          clear hpk
          cases hr : Stand.rel p x
          · have hr1 := bytesLess_leq x.id.toList p.id.toList
            have hr2 : Go.Op.bytesLess p.id.toList x.id.toList = false := hr
            rw [hr2] at hr1
            have Hr := Lib.hid hr
            clear hr hx hx'
            go_wp2_with fail
            refine wp_region_sub (by kernel_rfl) (by kernel_rfl) ?_
            repeat (go_big_quiet_step (exact Calls.sub_of_eq (implStandvalid_any x _ hs) (congrArg Value.bool h1)))
            refine wpQuiet_nil ?_
            intro wg hg
            have hbg := (hb.alloc hb.size _).trans (hg.mono (Nat.le_trans hb.size (by simp)))
            clear hsub x0 x1 x2 x3 x4 hlt1 p0 p1 p2 p3 p4
            go_wp2
            go_ret
            exact Ret.b (validL_rel (by omega) Hp.out Hx.out Hr.out).symm hbg
          · have hr1 := bytesLess_leq x.id.toList p.id.toList
            have hr2 : Go.Op.bytesLess p.id.toList x.id.toList = true := hr
            rw [hr2] at hr1
            have Hr := Lib.hid hr
            clear hr hx hx'
            go_wp2_with fail
            refine wp_region_sub (by kernel_rfl) (by kernel_rfl) ?_
            repeat (go_big_quiet_step (exact Calls.sub_of_eq (implStandvalid_any x _ hs) (congrArg Value.bool h1)))
            refine wpQuiet_nil ?_
            intro wg hg
            have hbg := (hb.alloc hb.size _).trans (hg.mono (Nat.le_trans hb.size (by simp)))
            clear hsub x0 x1 x2 x3 x4 hlt1 p0 p1 p2 p3 p4
            go_wp2
            go_roundg (n - (k + 1))
            case measure => have := Hgk.out; omega
            case rel => exact ⟨k + 1, by omega, rfl, by go_num, hbg, Hall.out.step Hx.out h1 (fun q _ hq => by rw [Hp.out] at hq; cases hq; exact Hr.out)⟩
    · have hkn : k = n := by omega
      subst hkn
      go_wp2
      go_ret
      exact Ret.b ((validL_all (by rw [Hl.out]; exact Nat.le_refl _) Hall.out).trans (by rw [Hl.out]; simp <;> omega)).symm hb

set_option maxHeartbeats 400000 in
theorem specStandValidW_any (A : Option Addr) (n c : Nat) (xs : List Stand) (w : World) (hx : SliceOf w 5 Stand.cells A n xs) (hg : ∀ x ∈ xs, x.Good) : Calls Try.prog 35 #[.slice A n c] w (Ret (.bool (Stand.validB xs)) w) := by
  go_enter Try.func35, Try.ntmps35
  go_wp2_with fail
  refine (specStandValid_any _ _ _ xs _ hx hg).mono ?_
  rintro e w' ⟨rfl, hb⟩
  go_wp2
  go_ret
  exact Ret.b rfl hb

end Go.Proofs.Ytlfnkgfkimanaaa
