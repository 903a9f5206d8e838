/- When one Gate, and a list of them, is valid: the program's and the reference's functions return one Boolean. -/
import Derived.Test.YtlfnkgfkimanaaaBase
import Derived.Test.YtlfnkgfkimanaaaTGate
import Derived.Test.YtlfnkgfkimanaaaOGate
namespace Go.Proofs.Ytlfnkgfkimanaaa
open Go.RowKit

def Gate.rel (p x : Gate) : Bool := Go.Op.bytesLess p.id.toList x.id.toList
def Gate.validB (xs : List Gate) : Bool := validL 8 Gate.oneB Gate.rel xs

set_option maxHeartbeats 2000000 in
theorem specGateValid_any (A : Option Addr) (n c : Nat) (xs : List Gate) (w : World) (hx : SliceOf w 6 Gate.cells A n xs) (hg : ∀ x ∈ xs, x.Good) :
    Calls Try.prog 99 #[.slice A n c] w (Ret (.bool (Gate.validB xs)) w) := by
  have hn := hx.le
  have hl := hx.len
  have Hl := Lib.hid hl
  clear hl
  go_enter Try.func99, Try.ntmps99
  go_wp2
  go_loopg [3] n (fun gk i wr => ∃ k : Nat, k ≤ n ∧ gk = n - k ∧ i = .int .i64 k ∧ Below w.heap.size w wr ∧ GoodTo Gate.oneB Gate.rel xs k)
  case atStart => exact ⟨0, Nat.zero_le _, rfl, rfl, Below.refl _ _, GoodTo.zero⟩
  case round =>
    obtain ⟨k, hk, hgk, rfl, hb, hall⟩ := hrel
    skip
    skip
    have Hall := Lib.hid hall
    have Hgk := Lib.hid hgk
    clear hall hgk
    by_cases hlt : k < n
    · have hx' := hx.below hb
      obtain ⟨b1, o1, x, rfl, hb1, hxk, x0, x1, x2, x3, x4, x5⟩ := Gate.at_ hx' hlt
      have hs : x.id.size ≤ 9223372036854775807 := by
        have := (hg x (List.mem_of_getElem? hxk)).2.2.2.2; simp [maxLen] at this; omega
      have Hx := Lib.hid hxk
      skip
      clear hxk
      have hsub := fun (g : Sub wr) b o (h : b < wr.heap.size) => g.cell b o h
      cases h1 : x.oneB
      · go_wp2_with fail
        refine wp_region_sub (by kernel_rfl) (by kernel_rfl) ?_
        repeat (go_big_quiet_step (exact Calls.sub_of_eq (specGateOne_any x _ _ _ (Nat.lt_of_lt_of_le hb1 (Sub.below _).size) hs ((Sub.cell _ _ _ hb1).trans x0) ((Sub.cell _ _ _ hb1).trans x1) ((Sub.cell _ _ _ hb1).trans x2) ((Sub.cell _ _ _ hb1).trans x3) ((Sub.cell _ _ _ hb1).trans x4) ((Sub.cell _ _ _ hb1).trans x5)) (congrArg Value.bool h1)))
        refine wpQuiet_nil ?_
        intro wg hg
        have hbg := hb.trans (hg.mono hb.size)
        clear hsub x0 x1 x2 x3 x4 x5
        go_wp2
        go_ret
        exact Ret.b (validL_one Hx.out h1).symm hbg
      · by_cases hk0 : k = 0
        · have hd : decide (0 < k) = false := decide_eq_false (by omega)
          have Hk0 := Lib.hid hk0
          clear hk0
          go_wp2_with fail
          refine wp_region_sub (by kernel_rfl) (by kernel_rfl) ?_
          repeat (go_big_quiet_step (exact Calls.sub_of_eq (specGateOne_any x _ _ _ (Nat.lt_of_lt_of_le hb1 (Sub.below _).size) hs ((Sub.cell _ _ _ hb1).trans x0) ((Sub.cell _ _ _ hb1).trans x1) ((Sub.cell _ _ _ hb1).trans x2) ((Sub.cell _ _ _ hb1).trans x3) ((Sub.cell _ _ _ hb1).trans x4) ((Sub.cell _ _ _ hb1).trans x5)) (congrArg Value.bool h1)))
          refine wpQuiet_nil ?_
          intro wg hg
          have hbg := hb.trans (hg.mono hb.size)
          clear hsub x0 x1 x2 x3 x4 x5
          go_wp2
          go_roundg (n - (k + 1))
          case measure => have := Hgk.out; omega
          case rel => exact ⟨k + 1, by omega, rfl, by go_num, hbg, Hall.out.step Hx.out h1 (fun p h => absurd h (by have := Hk0.out; omega))⟩
        · have hd : decide (0 < k) = true := decide_eq_true (by omega)
          have hlt' : k - 1 < n := by omega
          obtain ⟨b2, o2, p, he, hb2, hpk, p0, p1, p2, p3, p4, p5⟩ := Gate.at_ hx' hlt'
          injection he with he
          injection he with he1 he2 _
          subst he1 he2
          have Hp := Lib.hid hpk
          clear hpk
          cases hr : Gate.rel p x
          · have hr1 := bytesLess_leq x.id.toList p.id.toList
            have hr2 : Go.Op.bytesLess p.id.toList x.id.toList = false := hr
            rw [hr2] at hr1
            have Hr := Lib.hid hr
            clear hr hx hx'
            go_wp2_with fail
            refine wp_region_sub (by kernel_rfl) (by kernel_rfl) ?_
            repeat (go_big_quiet_step (exact Calls.sub_of_eq (specGateOne_any x _ _ _ (Nat.lt_of_lt_of_le hb1 (Sub.below _).size) hs ((Sub.cell _ _ _ hb1).trans x0) ((Sub.cell _ _ _ hb1).trans x1) ((Sub.cell _ _ _ hb1).trans x2) ((Sub.cell _ _ _ hb1).trans x3) ((Sub.cell _ _ _ hb1).trans x4) ((Sub.cell _ _ _ hb1).trans x5)) (congrArg Value.bool h1)))
            refine wpQuiet_nil ?_
            intro wg hg
            have hbg := hb.trans (hg.mono hb.size)
            clear hsub x0 x1 x2 x3 x4 x5 p0 p1 p2 p3 p4 p5
            go_wp2
            go_ret
            exact Ret.b (validL_rel (by omega) Hp.out Hx.out Hr.out).symm hbg
          · have hr1 := bytesLess_leq x.id.toList p.id.toList
            have hr2 : Go.Op.bytesLess p.id.toList x.id.toList = true := hr
            rw [hr2] at hr1
            have Hr := Lib.hid hr
            clear hr hx hx'
            go_wp2_with fail
            refine wp_region_sub (by kernel_rfl) (by kernel_rfl) ?_
            repeat (go_big_quiet_step (exact Calls.sub_of_eq (specGateOne_any x _ _ _ (Nat.lt_of_lt_of_le hb1 (Sub.below _).size) hs ((Sub.cell _ _ _ hb1).trans x0) ((Sub.cell _ _ _ hb1).trans x1) ((Sub.cell _ _ _ hb1).trans x2) ((Sub.cell _ _ _ hb1).trans x3) ((Sub.cell _ _ _ hb1).trans x4) ((Sub.cell _ _ _ hb1).trans x5)) (congrArg Value.bool h1)))
            refine wpQuiet_nil ?_
            intro wg hg
            have hbg := hb.trans (hg.mono hb.size)
            clear hsub x0 x1 x2 x3 x4 x5 p0 p1 p2 p3 p4 p5
            go_wp2
            go_roundg (n - (k + 1))
            case measure => have := Hgk.out; omega
            case rel => exact ⟨k + 1, by omega, rfl, by go_num, hbg, Hall.out.step Hx.out h1 (fun q _ hq => by rw [Hp.out] at hq; cases hq; exact Hr.out)⟩
    · have hkn : k = n := by omega
      subst hkn
      go_wp2
      go_ret
      exact Ret.b ((validL_all (by rw [Hl.out]; exact Nat.le_refl _) Hall.out).trans (by rw [Hl.out]; simp <;> omega)).symm hb

set_option maxHeartbeats 2000000 in
theorem implGateValid_any (A : Option Addr) (n c : Nat) (xs : List Gate) (w : World) (hx : SliceOf w 6 Gate.cells A n xs) (hg : ∀ x ∈ xs, x.Good) :
    Calls Try.prog 52 #[.slice A n c] w (Ret (.bool (Gate.validB xs)) w) := by
  have hn := hx.le
  have hl := hx.len
  have Hl := Lib.hid hl
  clear hl
  by_cases hM : 8 < n
  · go_enter Try.func52, Try.ntmps52
    go_wp2
    go_ret
    exact Ret.b (validL_len (by rw [Hl.out]; exact hM)).symm (Below.refl _ _)
  go_enter Try.func52, Try.ntmps52
  go_wp2
  go_loopg [10] n (fun gk i wr => ∃ k : Nat, k ≤ n ∧ gk = n - k ∧ i = .int .i64 k ∧ Below w.heap.size w wr ∧ GoodTo Gate.oneB Gate.rel xs k)
  case atStart => exact ⟨0, Nat.zero_le _, rfl, rfl, Below.refl _ _, GoodTo.zero⟩
  case round =>
    obtain ⟨k, hk, hgk, rfl, hb, hall⟩ := hrel
    skip
    skip
    have Hall := Lib.hid hall
    have Hgk := Lib.hid hgk
    clear hall hgk
    by_cases hlt : k < n
    · have hx' := hx.below hb
      obtain ⟨b1, o1, x, rfl, hb1, hxk, x0, x1, x2, x3, x4, x5⟩ := Gate.at_ hx' hlt
      have hs : x.id.size ≤ 9223372036854775807 := by
        have := (hg x (List.mem_of_getElem? hxk)).2.2.2.2; simp [maxLen] at this; omega
      have Hx := Lib.hid hxk
      skip
      clear hxk
      have hsub := fun (o : Obj) (g : Sub (wr.alloc o)) b o' (h : b < (wr.alloc o).heap.size) => g.cell b o' h
      have hlt1 : b1 < wr.heap.size + 1 := by omega
      cases h1 : x.oneB
      · go_wp2_with fail
        refine wp_region_sub (by kernel_rfl) (by kernel_rfl) ?_
        repeat (go_big_quiet_step (exact Calls.sub_of_eq (implGatevalid_any x _ hs) (congrArg Value.bool h1)))
        refine wpQuiet_nil ?_
        intro wg hg
        have hbg := (hb.alloc hb.size _).trans (hg.mono (Nat.le_trans hb.size (by simp)))
        clear hsub x0 x1 x2 x3 x4 x5 hlt1
        go_wp2
        go_ret
        exact Ret.b (validL_one Hx.out h1).symm hbg
      · by_cases hk0 : k = 0
        · have hd : decide (0 < k) = false := decide_eq_false (by omega)
          have Hk0 := Lib.hid hk0
          clear hk0
          go_wp2_with fail
          refine wp_region_sub (by kernel_rfl) (by kernel_rfl) ?_
          repeat (go_big_quiet_step (exact Calls.sub_of_eq (implGatevalid_any x _ hs) (congrArg Value.bool h1)))
          refine wpQuiet_nil ?_
          intro wg hg
          have hbg := (hb.alloc hb.size _).trans (hg.mono (Nat.le_trans hb.size (by simp)))
          clear hsub x0 x1 x2 x3 x4 x5 hlt1
          go_wp2
          go_roundg (n - (k + 1))
          case measure => have := Hgk.out; omega
          case rel => exact ⟨k + 1, by omega, rfl, by go_num, hbg, Hall.out.step Hx.out h1 (fun p h => absurd h (by have := Hk0.out; omega))⟩
        · have hd : decide (0 < k) = true := decide_eq_true (by omega)
          have hlt' : k - 1 < n := by omega
          obtain ⟨b2, o2, p, he, hb2, hpk, p0, p1, p2, p3, p4, p5⟩ := Gate.at_ hx' hlt'
          injection he with he
          injection he with he1 he2 _
          subst he1 he2
          have Hp := Lib.hid hpk
          clear hpk
          cases hr : Gate.rel p x
          · have hr1 := bytesLess_leq x.id.toList p.id.toList
            have hr2 : Go.Op.bytesLess p.id.toList x.id.toList = false := hr
            rw [hr2] at hr1
            have Hr := Lib.hid hr
            clear hr hx hx'
            go_wp2_with fail
            refine wp_region_sub (by kernel_rfl) (by kernel_rfl) ?_
            repeat (go_big_quiet_step (exact Calls.sub_of_eq (implGatevalid_any x _ hs) (congrArg Value.bool h1)))
            refine wpQuiet_nil ?_
            intro wg hg
            have hbg := (hb.alloc hb.size _).trans (hg.mono (Nat.le_trans hb.size (by simp)))
            clear hsub x0 x1 x2 x3 x4 x5 hlt1 p0 p1 p2 p3 p4 p5
            go_wp2
            go_ret
            exact Ret.b (validL_rel (by omega) Hp.out Hx.out Hr.out).symm hbg
          · have hr1 := bytesLess_leq x.id.toList p.id.toList
            have hr2 : Go.Op.bytesLess p.id.toList x.id.toList = true := hr
            rw [hr2] at hr1
            have Hr := Lib.hid hr
            clear hr hx hx'
            go_wp2_with fail
            refine wp_region_sub (by kernel_rfl) (by kernel_rfl) ?_
            repeat (go_big_quiet_step (exact Calls.sub_of_eq (implGatevalid_any x _ hs) (congrArg Value.bool h1)))
            refine wpQuiet_nil ?_
            intro wg hg
            have hbg := (hb.alloc hb.size _).trans (hg.mono (Nat.le_trans hb.size (by simp)))
            clear hsub x0 x1 x2 x3 x4 x5 hlt1 p0 p1 p2 p3 p4 p5
            go_wp2
            go_roundg (n - (k + 1))
            case measure => have := Hgk.out; omega
            case rel => exact ⟨k + 1, by omega, rfl, by go_num, hbg, Hall.out.step Hx.out h1 (fun q _ hq => by rw [Hp.out] at hq; cases hq; exact Hr.out)⟩
    · have hkn : k = n := by omega
      subst hkn
      go_wp2
      go_ret
      exact Ret.b ((validL_all (by rw [Hl.out]; exact Nat.le_refl _) Hall.out).trans (by rw [Hl.out]; simp <;> omega)).symm hb

set_option maxHeartbeats 400000 in
theorem specGateValidW_any (A : Option Addr) (n c : Nat) (xs : List Gate) (w : World) (hx : SliceOf w 6 Gate.cells A n xs) (hg : ∀ x ∈ xs, x.Good) : Calls Try.prog 50 #[.slice A n c] w (Ret (.bool (Gate.validB xs)) w) := by
  go_enter Try.func50, Try.ntmps50
  go_wp2_with fail
  refine (specGateValid_any _ _ _ xs _ hx hg).mono ?_
  rintro e w' ⟨rfl, hb⟩
  go_wp2
  go_ret
  exact Ret.b rfl hb

end Go.Proofs.Ytlfnkgfkimanaaa
