/- The library's Index, Contains and Clone at []int64, and the reference's look for a number and its copy. -/
import Derived.Test.YtjidibohbbdboaaDoorBase
import Derived.Test.YtjidibohbbdboaaDoorMem
import Derived.Test.YtjidibohbbdboaaDoorTInt64
import Derived.Test.YtjidibohbbdboaaDoorHasP
import Derived.Test.YtjidibohbbdboaaDoorOwn2
import Derived.Maps.AppendAt
namespace Go.Proofs.YtjidibohbbdboaaDoor
open Go.RowKit

set_option maxHeartbeats 1000000 in
theorem indexI_any (v : Int) (A : Option Addr) (n c : Nat) (xs : List Int) (w : World) (hx : SliceOf w 1 i64cells A n xs) :
    Calls Tryd.prog 46 #[.slice A n c, .int .i64 v] w (RetS (.int .i64 (findI (fun z => decide (v = z)) xs)) w) := by
  have hn := hx.le
  have HL := Lib.hid hx.len
  go_enter Tryd.func46, Tryd.ntmps46
  go_wp2
  go_loopg [8] n (fun gk i wr => ∃ k : Nat, k ≤ n ∧ gk = n - k ∧ i = .int .i64 k ∧ w = wr ∧ NoneTo (fun z => decide (v = z)) xs k)
  case atStart => exact ⟨0, Nat.zero_le _, rfl, rfl, rfl, NoneTo.zero⟩
  case round =>
    obtain ⟨k, hk, hgk, rfl, rfl, hall⟩ := hrel
    have Hall := Lib.hid hall
    have Hgk := Lib.hid hgk
    clear hall hgk
    by_cases hlt : k < n
    · obtain ⟨b1', o1, x, rfl, hb1, hxk, x0⟩ := ints_at hx hlt
      have Hx := Lib.hid hxk
      clear hxk
      by_cases hc : v = x
      · have HC := Lib.hid hc
        have hd : decide (v = x) = true := decide_eq_true hc
        have hd2 : (v == x) = true := by simp [hc]
        clear hc
        go_wp2
        go_ret
        exact RetS.i (findI_hit Hall.out Hx.out (by simp [HC.out])).symm
      · have HC := Lib.hid hc
        have hd : decide (v = x) = false := decide_eq_false hc
        have hd2 : (v == x) = false := by simp [hc]
        clear hc
        go_wp2
        go_roundg (n - (k + 1))
        case measure => have := Hgk.out; omega
        case rel => exact ⟨k + 1, by omega, rfl, by go_num, rfl, Hall.out.step Hx.out (by simp [HC.out])⟩
    · go_wp2
      go_ret
      exact RetS.i (findI_none (n := k) (by rw [HL.out]; omega) Hall.out).symm
set_option maxHeartbeats 1000000 in
theorem containsI_any (v : Int) (A : Option Addr) (n c : Nat) (xs : List Int) (w : World) (hx : SliceOf w 1 i64cells A n xs) :
    Calls Tryd.prog 39 #[.slice A n c, .int .i64 v] w (RetS (.bool (hasB xs v)) w) := by
  have HF := Lib.hid (findI_any (fun z => decide (v = z)) xs)
  go_enter Tryd.func39, Tryd.ntmps39
  go_wp2_with fail
  refine (indexI_any v _ _ _ xs _ hx).mono ?_
  rintro e w' ⟨rfl, rfl⟩
  go_wp2
  go_ret
  exact RetS.b HF.out
set_option maxHeartbeats 1000000 in
theorem l00Has_any (v : Int) (A : Option Addr) (n c : Nat) (xs : List Int) (w : World) (hx : SliceOf w 1 i64cells A n xs) :
    Calls Tryd.prog 41 #[.slice A n c, .int .i64 v] w (RetS (.bool (hasB xs v)) w) := by
  have hn := hx.le
  have HL := Lib.hid hx.len
  go_enter Tryd.func41, Tryd.ntmps41
  go_wp2
  go_loopg [5] n (fun gk i wr => ∃ k : Nat, k ≤ n ∧ gk = n - k ∧ i = .int .i64 k ∧ w = wr ∧ NoneTo (fun z => decide (v = z)) xs k)
  case atStart => exact ⟨0, Nat.zero_le _, rfl, rfl, rfl, NoneTo.zero⟩
  case round =>
    obtain ⟨k, hk, hgk, rfl, rfl, hall⟩ := hrel
    have Hall := Lib.hid hall
    have Hgk := Lib.hid hgk
    clear hall hgk
    by_cases hlt : k < n
    · obtain ⟨b1', o1, x, rfl, hb1, hxk, x0⟩ := ints_at hx hlt
      have Hx := Lib.hid hxk
      clear hxk
      by_cases hc : x = v
      · have HC := Lib.hid hc
        have hd : decide (x = v) = true := decide_eq_true hc
        have hd2 : (x == v) = true := by simp [hc]
        clear hc
        go_wp2
        go_ret
        exact RetS.b (any_hit Hx.out (by simp [HC.out])).symm
      · have HC := Lib.hid hc
        have hd : decide (x = v) = false := decide_eq_false hc
        have hd2 : (x == v) = false := by simp [hc]
        clear hc
        go_wp2
        go_roundg (n - (k + 1))
        case measure => have := Hgk.out; omega
        case rel => exact ⟨k + 1, by omega, rfl, by go_num, rfl, Hall.out.step Hx.out (decide_eq_false fun h => HC.out h.symm)⟩
    · go_wp2
      go_ret
      exact RetS.b (any_none (n := k) (by rw [HL.out]; omega) Hall.out).symm
set_option maxHeartbeats 1000000 in
theorem cloneI_any (b o n c : Nat) (xs : List Int) (w : World) (hx : SliceOf w 1 i64cells (some ⟨b, o, none⟩) n xs) (hn : n ≤ 1048576) :
    Calls Tryd.prog 25 #[.slice (some ⟨b, o, none⟩) n c] w (RetL 2 1 i64cells xs w) := by
  have hB : Below w.heap.size w (w.alloc (.cells #[] 2)) := (Below.refl _ _).alloc (Nat.le_refl _) _
  have hO := OwnsL.made w w.heap.size 2 1 i64cells (Nat.le_refl _)
  have q22 : ∀ (w : World) (a : Option Addr) (n c n' c' : Nat), (binOp .eql 29 (.slice a n c) (.slice none n' c')).run Tryd.prog w = .ok (.bool a.isNone) w := fun w a n c n' c' => Lib.run_eql_slice_nil w _ _ a n c n' c' Tryd.underlying29
  have HX := Lib.hid (hx.below hB)
  have HO := Lib.hid hO
  have HB := Lib.hid hB
  clear hx hB hO
  go_enter Tryd.func25, Tryd.ntmps25
  go_wp2_with (at_builtin; refine wpList_pushL (by rfl) _ _ 29 (by rfl) w.heap.size 2 Tryd.underlying29 infoI64 (by rfl) _ [] xs b o n c (by rfl) HO.out (by rfl) HX.out (by simp; omega) (by decide) HB.out.size ?_)
  intro v' w' hown hb _ _
  have HW := Lib.hid hown
  have HBW := Lib.hid (HB.out.trans hb)
  clear hown hb
  go_wp2
  go_ret
  exact RetP.mk (by simpa using HW.out) HBW.out

end Go.Proofs.YtjidibohbbdboaaDoor
