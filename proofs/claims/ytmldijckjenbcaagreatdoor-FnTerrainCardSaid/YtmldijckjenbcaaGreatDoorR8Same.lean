/- The law's comparison of two lists of numbers that are equal. -/
import Derived.Test.YtmldijckjenbcaaGreatDoorBase
import Derived.Test.YtmldijckjenbcaaGreatDoorMem
import Derived.Test.YtmldijckjenbcaaGreatDoorTInt64
import Derived.Deep.RegionHeld3
namespace Go.Proofs.YtmldijckjenbcaaGreatDoor
open Go.RowKit

set_option maxHeartbeats 1000000 in
theorem r8Same_any (A B : Option Addr) (n c d : Nat) (xs : List Int) (w : World) (hx : SliceOf w 1 i64cells A n xs) (hy : SliceOf w 1 i64cells B n xs) :
    Calls Tryz.prog 10 #[.slice A n c, .slice B n d] w (Ret (.bool true) w) := by
  have hn := hx.le
  have hne : ((n : Int) != (n : Int)) = false := by simp
  go_enter Tryz.func10, Tryz.ntmps10
  go_wp2
  clear hne
  go_loopg [5] n (fun gk i wr => ∃ k : Nat, k ≤ n ∧ gk = n - k ∧ i = .int .i64 k ∧ Below w.heap.size w wr)
  case atStart => exact ⟨0, Nat.zero_le _, rfl, rfl, Below.refl _ _⟩
  case round =>
    obtain ⟨k, hk, hgk, rfl, hb⟩ := hrel
    have Hgk := Lib.hid hgk
    clear hgk
    by_cases hlt : k < n
    · obtain ⟨b1, o1, x, rfl, hb1, hxk, x0⟩ := ints_at (hx.below hb) hlt
      obtain ⟨b2, o2, y, rfl, hb2, hyk, y0⟩ := ints_at (hy.below hb) hlt
      rw [hxk] at hyk
      injection hyk with hyk
      subst hyk
      have hne : (x != x) = false := by simp
      clear hxk
      have hsub := fun (g : Sub wr) b o (h : b < wr.heap.size) => g.cell b o h
      go_wp2_with fail
      refine wp_region_sub (by kernel_rfl) (by kernel_rfl) ?_
      repeat (go_big_quiet_step (fail))
      refine wpQuiet_nil ?_
      intro wg hg
      have hbg := hb.trans (hg.mono hb.size)
      clear hsub x0 y0
      go_wp2
      go_roundg (n - (k + 1))
      case measure => have := Hgk.out; omega
      case rel => exact ⟨k + 1, by omega, rfl, by go_num, hbg⟩
    · go_wp2
      go_ret
      exact Ret.b rfl hb

end Go.Proofs.YtmldijckjenbcaaGreatDoor
