/- Small functions of the laws that draw: r8Long, r8Has, r8Wide. -/
import Derived.Test.YtmldijckjenbcaaGreatDoorBase
import Derived.Test.YtmldijckjenbcaaGreatDoorMem
import Derived.Test.YtmldijckjenbcaaGreatDoorTInt64
import Derived.Test.YtmldijckjenbcaaGreatDoorSrc
namespace Go.Proofs.YtmldijckjenbcaaGreatDoor
open Go.RowKit

def hasQ (xs : List Int) (y : Int) : Bool := xs.any fun x => decide (x = y)
theorem hasQ_iff {xs : List Int} {y : Int} : hasQ xs y = true ↔ y ∈ xs := by unfold hasQ; simp
set_option maxHeartbeats 1000000 in
theorem r8Long_any (A B : Option Addr) (n c m d : Nat) (w : World) (hn : n ≤ 9223372036854775807) (hm : m ≤ 9223372036854775807) :
    Calls Tryz.prog 4 #[.slice A n c, .slice B m d] w (RetS (.bool (decide (1048576 < n) || decide (1048576 < m))) w) := by
  go_enter Tryz.func4, Tryz.ntmps4
  by_cases h1 : 1048576 < n
  · have HD : Hid ((decide (1048576 < n) || decide (1048576 < m)) = true) := by rw [Hid]; simp [h1]
    go_wp2
    go_ret
    exact RetS.b (by first | rfl | exact HD.out.symm | (rw [HD.out]; exact decide_eq_true (by omega)) | (rw [HD.out]; exact decide_eq_false (by omega)))
  · have hd : decide ((1048576 : Int) < (n : Int)) = false := decide_eq_false (by omega)
    by_cases h2 : 1048576 < m
    · have HD : Hid ((decide (1048576 < n) || decide (1048576 < m)) = true) := by rw [Hid]; simp [h2]
      go_wp2
      go_ret
      exact RetS.b (by first | rfl | exact HD.out.symm | (rw [HD.out]; exact decide_eq_true (by omega)) | (rw [HD.out]; exact decide_eq_false (by omega)))
    · have hd2 : decide ((1048576 : Int) < (m : Int)) = false := decide_eq_false (by omega)
      have HD : Hid ((decide (1048576 < n) || decide (1048576 < m)) = false) := by rw [Hid]; simp [h1, h2]
      go_wp2
      go_ret
      exact RetS.b (by first | rfl | exact HD.out.symm | (rw [HD.out]; exact decide_eq_true (by omega)) | (rw [HD.out]; exact decide_eq_false (by omega)))
set_option maxHeartbeats 1000000 in
theorem r8Has_any (A : Option Addr) (n c : Nat) (xs : List Int) (y : Int) (w : World) (hx : SliceOf w 1 i64cells A n xs) :
    Calls Tryz.prog 17 #[.slice A n c, .int .i64 y] w (RetS (.bool (hasQ xs y)) w) := by
  have hn := hx.le
  have HL := Lib.hid hx.len
  go_enter Tryz.func17, Tryz.ntmps17
  go_wp2
  go_loopg [5] n (fun gk i wr => ∃ k : Nat, k ≤ n ∧ gk = n - k ∧ i = .int .i64 k ∧ w = wr ∧ NoneTo (fun x => decide (x = y)) xs k)
  case atStart => exact ⟨0, Nat.zero_le _, rfl, rfl, rfl, NoneTo.zero⟩
  case round =>
    obtain ⟨k, hk, hgk, rfl, rfl, hall⟩ := hrel
    have Hall := Lib.hid hall
    have Hgk := Lib.hid hgk
    clear hall hgk
    by_cases hlt : k < n
    · obtain ⟨b2, o2, x, rfl, hb2, hxk, z0⟩ := ints_at hx hlt
      have Hx := Lib.hid hxk
      clear hxk
      by_cases he : x = y
      · have hd : (x == y) = true := by simp [he]
        have HF : Hid (hasQ xs y = true) := by rw [Hid, hasQ_iff, ← he]; exact List.mem_of_getElem? Hx.out
        clear he
        go_wp2
        go_ret
        exact RetS.b HF.out.symm
      · have hd : (x == y) = false := by simp [he]
        have HD : Hid (decide (x = y) = false) := decide_eq_false he
        clear he
        go_wp2
        go_roundg (n - (k + 1))
        case measure => have := Hgk.out; omega
        case rel => exact ⟨k + 1, by omega, rfl, by go_num, rfl, Hall.out.step Hx.out HD.out⟩
    · have HF : Hid (hasQ xs y = false) := by
        rw [Hid]; unfold hasQ
        rw [List.any_eq_false]
        intro z hz
        obtain ⟨j, hj⟩ := List.mem_iff_getElem?.1 hz
        have := Hall.out j z (by have := (List.getElem?_eq_some_iff.1 hj).1; rw [HL.out] at this; omega) hj
        simp only at this
        rw [this]; simp
      go_wp2
      go_ret
      exact RetS.b HF.out.symm

end Go.Proofs.YtmldijckjenbcaaGreatDoor
