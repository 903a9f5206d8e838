/- When one Setting, and a list of them, is valid: the program's and the reference's functions return one Boolean. -/
import Derived.Test.YtokakabckjmfoaaBase
import Derived.Test.YtokakabckjmfoaaTSetting
namespace Go.Proofs.Ytokakabckjmfoaa
open Go.RowKit

def Setting.oneB (x : Setting) : Bool := isNameB x.name && inB x.value 0 1000
theorem Setting.oneB_iff (x : Setting) : x.oneB = true ↔ isNameB x.name = true ∧ inB x.value 0 1000 = true := by simp [Setting.oneB]

set_option maxHeartbeats 1000000 in
theorem implSettingvalid_any (x : Setting) (w : World)  (hs : x.name.size ≤ 9223372036854775807) :
    Calls Try.prog 98 #[.agg #[.string x.name, .int .i64 x.value]] w (Ret (.bool x.oneB) w) := by
  rcases cases2 (isNameB x.name) (inB x.value 0 1000) with h0 | ⟨h0, h1⟩ | ⟨h0, h1⟩
  · skip
    go_enter Try.func98, Try.ntmps98
    go_wp2_with ((go_at_call 107; refine (IsName_any _ _ hs).mono ?_; rintro e w' ⟨rfl, rfl⟩))
    all_goals (go_ret; exact Ret.b (by simp [Setting.oneB, *]) (by repeat (first | assumption | exact Below.refl _ _ | refine Below.alloc ?_ (by simp <;> omega) _)))
  · skip
    go_enter Try.func98, Try.ntmps98
    go_wp2_with (first | (go_at_call 107; refine (IsName_any _ _ hs).mono ?_; rintro e w' ⟨rfl, rfl⟩) | (go_at_call 63; refine (within_any _ _ _ _).mono ?_; rintro e w' ⟨rfl, rfl⟩))
    all_goals (go_ret; exact Ret.b (by simp [Setting.oneB, *]) (by repeat (first | assumption | exact Below.refl _ _ | refine Below.alloc ?_ (by simp <;> omega) _)))
  · have ⟨_, _⟩ := inB_iff.1 h1
    go_enter Try.func98, Try.ntmps98
    go_wp2_with (first | (go_at_call 107; refine (IsName_any _ _ hs).mono ?_; rintro e w' ⟨rfl, rfl⟩) | (go_at_call 63; refine (within_any _ _ _ _).mono ?_; rintro e w' ⟨rfl, rfl⟩))
    all_goals (go_ret; exact Ret.b (by simp [Setting.oneB, *]) (by repeat (first | assumption | exact Below.refl _ _ | refine Below.alloc ?_ (by simp <;> omega) _)))

set_option maxHeartbeats 1000000 in
theorem specSettingOne_any (x : Setting) (b off : Nat) (w : World) (_hb : b < w.heap.size) (hs : x.name.size ≤ 9223372036854775807) (x0 : w.cell? ⟨b, off, none⟩ = some (.string x.name)) (x1 : w.cell? ⟨b, off + 1, none⟩ = some (.int .i64 x.value)) :
    Calls Try.prog 121 #[.pointer (some ⟨b, off, none⟩)] w (Ret (.bool x.oneB) w) := by
  rcases cases2 (isNameB x.name) (inB x.value 0 1000) with h0 | ⟨h0, h1⟩ | ⟨h0, h1⟩
  · skip
    go_enter Try.func121, Try.ntmps121
    go_wp2_with ((go_at_call 106; refine (l01Name_any _ _ hs).mono ?_; rintro e w' ⟨rfl, rfl⟩))
    all_goals (go_ret; exact Ret.b (by simp [Setting.oneB, *]) (by repeat (first | assumption | exact Below.refl _ _ | refine Below.alloc ?_ (by simp <;> omega) _)))
  · skip
    go_enter Try.func121, Try.ntmps121
    go_wp2_with (first | (go_at_call 106; refine (l01Name_any _ _ hs).mono ?_; rintro e w' ⟨rfl, rfl⟩) | (go_at_call 60; refine (l00In_any _ _ _ _).mono ?_; rintro e w' ⟨rfl, rfl⟩))
    all_goals (go_ret; exact Ret.b (by simp [Setting.oneB, *]) (by repeat (first | assumption | exact Below.refl _ _ | refine Below.alloc ?_ (by simp <;> omega) _)))
  · have ⟨_, _⟩ := inB_iff.1 h1
    go_enter Try.func121, Try.ntmps121
    go_wp2_with (first | (go_at_call 106; refine (l01Name_any _ _ hs).mono ?_; rintro e w' ⟨rfl, rfl⟩) | (go_at_call 60; refine (l00In_any _ _ _ _).mono ?_; rintro e w' ⟨rfl, rfl⟩))
    all_goals (go_ret; exact Ret.b (by simp [Setting.oneB, *]) (by repeat (first | assumption | exact Below.refl _ _ | refine Below.alloc ?_ (by simp <;> omega) _)))

def Setting.rel (p x : Setting) : Bool := Go.Op.bytesLess p.name.toList x.name.toList
def Setting.validB (xs : List Setting) : Bool := validL 24 Setting.oneB Setting.rel xs

set_option maxHeartbeats 2000000 in
theorem specSettingValid_any (A : Option Addr) (n c : Nat) (xs : List Setting) (w : World) (hx : SliceOf w 2 Setting.cells A n xs) (hg : ∀ x ∈ xs, x.Good) :
    Calls Try.prog 97 #[.slice A n c] w (Ret (.bool (Setting.validB xs)) w) := by
  have hn := hx.le
  have hl := hx.len
  have Hl := Lib.hid hl
  clear hl
  go_enter Try.func97, Try.ntmps97
  go_wp2
  go_loopg [3] n (fun gk i wr => ∃ k : Nat, k ≤ n ∧ gk = n - k ∧ i = .int .i64 k ∧ Below w.heap.size w wr ∧ GoodTo Setting.oneB Setting.rel xs k)
  case atStart => exact ⟨0, Nat.zero_le _, rfl, rfl, Below.refl _ _, GoodTo.zero⟩
  case round =>
    obtain ⟨k, hk, hgk, rfl, hb, hall⟩ := hrel
    have Hall := Lib.hid hall
    have Hgk := Lib.hid hgk
    clear hall hgk
    by_cases hlt : k < n
    · have hx' := hx.below hb
      obtain ⟨b1, o1, x, rfl, hb1, hxk, x0, x1⟩ := Setting.at_ hx' hlt
      have hs : x.name.size ≤ 9223372036854775807 := by
        have := (hg x (List.mem_of_getElem? hxk)).2; simp [maxLen] at this; omega
      have Hx := Lib.hid hxk
      clear hxk
      have hsub := fun (g : Sub wr) b o (h : b < wr.heap.size) => g.cell b o h
      cases h1 : x.oneB
      · go_wp2_with fail
        refine wp_region_sub (by kernel_rfl) (by kernel_rfl) ?_
        repeat (go_big_quiet_step (exact Calls.sub_of_eq (specSettingOne_any x _ _ _ (Nat.lt_of_lt_of_le hb1 (Sub.below _).size) hs ((Sub.cell _ _ _ hb1).trans x0) ((Sub.cell _ _ _ hb1).trans x1)) (congrArg Value.bool h1)))
        refine wpQuiet_nil ?_
        intro wg hg
        have hbg := hb.trans (hg.mono hb.size)
        clear hsub x0 x1
        go_wp2
        go_ret
        exact Ret.b (validL_one Hx.out h1).symm hbg
      · by_cases hk0 : k = 0
        · have hd : decide (0 < k) = false := decide_eq_false (by omega)
          have Hk0 := Lib.hid hk0
          clear hk0
          go_wp2_with fail
          refine wp_region_sub (by kernel_rfl) (by kernel_rfl) ?_
          repeat (go_big_quiet_step (exact Calls.sub_of_eq (specSettingOne_any x _ _ _ (Nat.lt_of_lt_of_le hb1 (Sub.below _).size) hs ((Sub.cell _ _ _ hb1).trans x0) ((Sub.cell _ _ _ hb1).trans x1)) (congrArg Value.bool h1)))
          refine wpQuiet_nil ?_
          intro wg hg
          have hbg := hb.trans (hg.mono hb.size)
          clear hsub x0 x1
          go_wp2
          go_roundg (n - (k + 1))
          case measure => have := Hgk.out; omega
          case rel => exact ⟨k + 1, by omega, rfl, by go_num, hbg, Hall.out.step Hx.out h1 (fun p h => absurd h (by have := Hk0.out; omega))⟩
        · have hd : decide (0 < k) = true := decide_eq_true (by omega)
          have hlt' : k - 1 < n := by omega
          obtain ⟨b2, o2, p, he, hb2, hpk, p0, p1⟩ := Setting.at_ hx' hlt'
          injection he with he
          injection he with he1 he2 _
          subst he1 he2
          have Hp := Lib.hid hpk
          clear hpk
          cases hr : Setting.rel p x
          · have hr1 := bytesLess_leq x.name.toList p.name.toList
            have hr2 : Go.Op.bytesLess p.name.toList x.name.toList = false := hr
            rw [hr2] at hr1
            have Hr := Lib.hid hr
            clear hr hx hx'
            go_wp2_with fail
            refine wp_region_sub (by kernel_rfl) (by kernel_rfl) ?_
            repeat (go_big_quiet_step (exact Calls.sub_of_eq (specSettingOne_any x _ _ _ (Nat.lt_of_lt_of_le hb1 (Sub.below _).size) hs ((Sub.cell _ _ _ hb1).trans x0) ((Sub.cell _ _ _ hb1).trans x1)) (congrArg Value.bool h1)))
            refine wpQuiet_nil ?_
            intro wg hg
            have hbg := hb.trans (hg.mono hb.size)
            clear hsub x0 x1 p0 p1
            go_wp2
            go_ret
            exact Ret.b (validL_rel (by omega) Hp.out Hx.out Hr.out).symm hbg
          · have hr1 := bytesLess_leq x.name.toList p.name.toList
            have hr2 : Go.Op.bytesLess p.name.toList x.name.toList = true := hr
            rw [hr2] at hr1
            have Hr := Lib.hid hr
            clear hr hx hx'
            go_wp2_with fail
            refine wp_region_sub (by kernel_rfl) (by kernel_rfl) ?_
            repeat (go_big_quiet_step (exact Calls.sub_of_eq (specSettingOne_any x _ _ _ (Nat.lt_of_lt_of_le hb1 (Sub.below _).size) hs ((Sub.cell _ _ _ hb1).trans x0) ((Sub.cell _ _ _ hb1).trans x1)) (congrArg Value.bool h1)))
            refine wpQuiet_nil ?_
            intro wg hg
            have hbg := hb.trans (hg.mono hb.size)
            clear hsub x0 x1 p0 p1
            go_wp2
            go_roundg (n - (k + 1))
            case measure => have := Hgk.out; omega
            case rel => exact ⟨k + 1, by omega, rfl, by go_num, hbg, Hall.out.step Hx.out h1 (fun q _ hq => by rw [Hp.out] at hq; cases hq; exact Hr.out)⟩
    · have hkn : k = n := by omega
      subst hkn
      go_wp2
      go_ret
      exact Ret.b ((validL_all (by rw [Hl.out]; exact Nat.le_refl _) Hall.out).trans (by rw [Hl.out]; simp <;> omega)).symm hb

set_option maxHeartbeats 2000000 in
theorem implSettingValid_any (A : Option Addr) (n c : Nat) (xs : List Setting) (w : World) (hx : SliceOf w 2 Setting.cells A n xs) (hg : ∀ x ∈ xs, x.Good) :
    Calls Try.prog 52 #[.slice A n c] w (Ret (.bool (Setting.validB xs)) w) := by
  have hn := hx.le
  have hl := hx.len
  have Hl := Lib.hid hl
  clear hl
  by_cases hM : 24 < n
  · go_enter Try.func52, Try.ntmps52
    go_wp2
    go_ret
    exact Ret.b (validL_len (by rw [Hl.out]; exact hM)).symm (Below.refl _ _)
  go_enter Try.func52, Try.ntmps52
  go_wp2
  go_loopg [10] n (fun gk i wr => ∃ k : Nat, k ≤ n ∧ gk = n - k ∧ i = .int .i64 k ∧ Below w.heap.size w wr ∧ GoodTo Setting.oneB Setting.rel xs k)
  case atStart => exact ⟨0, Nat.zero_le _, rfl, rfl, Below.refl _ _, GoodTo.zero⟩
  case round =>
    obtain ⟨k, hk, hgk, rfl, hb, hall⟩ := hrel
    have Hall := Lib.hid hall
    have Hgk := Lib.hid hgk
    clear hall hgk
    by_cases hlt : k < n
    · have hx' := hx.below hb
      obtain ⟨b1, o1, x, rfl, hb1, hxk, x0, x1⟩ := Setting.at_ hx' hlt
      have hs : x.name.size ≤ 9223372036854775807 := by
        have := (hg x (List.mem_of_getElem? hxk)).2; simp [maxLen] at this; omega
      have Hx := Lib.hid hxk
      clear hxk
      have hsub := fun (o : Obj) (g : Sub (wr.alloc o)) b o' (h : b < (wr.alloc o).heap.size) => g.cell b o' h
      have hlt1 : b1 < wr.heap.size + 1 := by omega
      cases h1 : x.oneB
      · go_wp2_with fail
        refine wp_region_sub (by kernel_rfl) (by kernel_rfl) ?_
        repeat (go_big_quiet_step (exact Calls.sub_of_eq (implSettingvalid_any x _ hs) (congrArg Value.bool h1)))
        refine wpQuiet_nil ?_
        intro wg hg
        have hbg := (hb.alloc hb.size _).trans (hg.mono (Nat.le_trans hb.size (by simp)))
        clear hsub x0 x1 hlt1
        go_wp2
        go_ret
        exact Ret.b (validL_one Hx.out h1).symm hbg
      · by_cases hk0 : k = 0
        · have hd : decide (0 < k) = false := decide_eq_false (by omega)
          have Hk0 := Lib.hid hk0
          clear hk0
          go_wp2_with fail
          refine wp_region_sub (by kernel_rfl) (by kernel_rfl) ?_
          repeat (go_big_quiet_step (exact Calls.sub_of_eq (implSettingvalid_any x _ hs) (congrArg Value.bool h1)))
          refine wpQuiet_nil ?_
          intro wg hg
          have hbg := (hb.alloc hb.size _).trans (hg.mono (Nat.le_trans hb.size (by simp)))
          clear hsub x0 x1 hlt1
          go_wp2
          go_roundg (n - (k + 1))
          case measure => have := Hgk.out; omega
          case rel => exact ⟨k + 1, by omega, rfl, by go_num, hbg, Hall.out.step Hx.out h1 (fun p h => absurd h (by have := Hk0.out; omega))⟩
        · have hd : decide (0 < k) = true := decide_eq_true (by omega)
          have hlt' : k - 1 < n := by omega
          obtain ⟨b2, o2, p, he, hb2, hpk, p0, p1⟩ := Setting.at_ hx' hlt'
          injection he with he
          injection he with he1 he2 _
          subst he1 he2
          have Hp := Lib.hid hpk
          clear hpk
          cases hr : Setting.rel p x
          · have hr1 := bytesLess_leq x.name.toList p.name.toList
            have hr2 : Go.Op.bytesLess p.name.toList x.name.toList = false := hr
            rw [hr2] at hr1
            have Hr := Lib.hid hr
            clear hr hx hx'
            go_wp2_with fail
            refine wp_region_sub (by kernel_rfl) (by kernel_rfl) ?_
            repeat (go_big_quiet_step (exact Calls.sub_of_eq (implSettingvalid_any x _ hs) (congrArg Value.bool h1)))
            refine wpQuiet_nil ?_
            intro wg hg
            have hbg := (hb.alloc hb.size _).trans (hg.mono (Nat.le_trans hb.size (by simp)))
            clear hsub x0 x1 hlt1 p0 p1
            go_wp2
            go_ret
            exact Ret.b (validL_rel (by omega) Hp.out Hx.out Hr.out).symm hbg
          · have hr1 := bytesLess_leq x.name.toList p.name.toList
            have hr2 : Go.Op.bytesLess p.name.toList x.name.toList = true := hr
            rw [hr2] at hr1
            have Hr := Lib.hid hr
            clear hr hx hx'
            go_wp2_with fail
            refine wp_region_sub (by kernel_rfl) (by kernel_rfl) ?_
            repeat (go_big_quiet_step (exact Calls.sub_of_eq (implSettingvalid_any x _ hs) (congrArg Value.bool h1)))
            refine wpQuiet_nil ?_
            intro wg hg
            have hbg := (hb.alloc hb.size _).trans (hg.mono (Nat.le_trans hb.size (by simp)))
            clear hsub x0 x1 hlt1 p0 p1
            go_wp2
            go_roundg (n - (k + 1))
            case measure => have := Hgk.out; omega
            case rel => exact ⟨k + 1, by omega, rfl, by go_num, hbg, Hall.out.step Hx.out h1 (fun q _ hq => by rw [Hp.out] at hq; cases hq; exact Hr.out)⟩
    · have hkn : k = n := by omega
      subst hkn
      go_wp2
      go_ret
      exact Ret.b ((validL_all (by rw [Hl.out]; exact Nat.le_refl _) Hall.out).trans (by rw [Hl.out]; simp <;> omega)).symm hb

set_option maxHeartbeats 400000 in
theorem specSettingValidW_any (A : Option Addr) (n c : Nat) (xs : List Setting) (w : World) (hx : SliceOf w 2 Setting.cells A n xs) (hg : ∀ x ∈ xs, x.Good) : Calls Try.prog 51 #[.slice A n c] w (Ret (.bool (Setting.validB xs)) w) := by
  go_enter Try.func51, Try.ntmps51
  go_wp2_with fail
  refine (specSettingValid_any _ _ _ xs _ hx hg).mono ?_
  rintro e w' ⟨rfl, hb⟩
  go_wp2
  go_ret
  exact Ret.b rfl hb

end Go.Proofs.Ytokakabckjmfoaa
