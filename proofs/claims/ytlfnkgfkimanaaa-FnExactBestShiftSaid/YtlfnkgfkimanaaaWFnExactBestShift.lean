/- The walk of the law FnExactBestShift: it returns true. -/
import Derived.Test.YtlfnkgfkimanaaaShift
namespace Go.Proofs.Ytlfnkgfkimanaaa
open Go.RowKit

set_option maxHeartbeats 2000000 in
theorem walk_FnExactBestShift (A0 : Option Addr) (n0 c0 : Nat) (x0 : List Verified) (w : World) (s0 : SliceOf w 3 Verified.cells A0 n0 x0) (_g0 : ∀ x ∈ x0, x.Good) : Calls Try.prog 14 #[.slice A0 n0 c0] w (Ret (.bool true) w) := by
  have e0 := Verified.eqSB_self x0
  have ln0 := s0.le
  go_enter Try.func14, Try.ntmps14
  go_wp2_with fail
  refine (szVerifiedS_any _ _ _ _ _ ln0 (by omega) (by omega)).mono ?_
  rintro e w1 ⟨v, rfl, ⟨r1, rfl, q1⟩, b1⟩
  have t1 : Below w.heap.size w w1 := (Below.refl w.heap.size w).trans (b1.mono (Below.refl w.heap.size w).size)
  have s0_1 := s0.below b1
  by_cases z1 : r1 < 0
  · go_wp2
    go_ret
    exact Ret.b rfl t1
  have l1 : n0 ≤ 1048576 := by omega
  go_wp2_with fail
  refine (toVerifiedS_any _ _ _ _ _ s0_1 l1).mono ?_
  rintro e w2 ⟨v, rfl, ⟨B2, rfl, u2⟩, b2⟩
  have t2 : Below w.heap.size w w2 := t1.trans (b2.mono t1.size)
  have s0_2 := s0_1.below b2
  go_wp2_with fail
  refine (specBestShift_any _ _ _ x0 _ u2).mono ?_
  rintro e w3 ⟨rfl, b3⟩
  have t3 : Below w.heap.size w w3 := t2.trans (b3.mono t2.size)
  have s0_3 := s0_2.below b3
  have u2_3 := u2.below b3
  go_wp2_with fail
  refine (toVerifiedS_any _ _ _ _ _ s0_3 l1).mono ?_
  rintro e w4 ⟨v, rfl, ⟨B4, rfl, u4⟩, b4⟩
  have t4 : Below w.heap.size w w4 := t3.trans (b4.mono t3.size)
  have s0_4 := s0_3.below b4
  go_wp2_with fail
  refine (implBestShift_any _ _ _ x0 _ u4).mono ?_
  rintro e w5 ⟨rfl, b5⟩
  have t5 : Below w.heap.size w w5 := t4.trans (b5.mono t4.size)
  have s0_5 := s0_4.below b5
  have u4_5 := u4.below b5
  go_wp2_with fail
  refine (toVerifiedS_any _ _ _ _ _ s0_5 l1).mono ?_
  rintro e w6 ⟨v, rfl, ⟨B6, rfl, u6⟩, b6⟩
  have t6 : Below w.heap.size w w6 := t5.trans (b6.mono t5.size)
  have s0_6 := s0_5.below b6
  have u4_6 := u4_5.below b6
  go_wp2_with fail
  refine (eqVerifiedS_any _ _ _ _ _ _ _ _ _ u4_6 u6).mono ?_
  rintro e w7 ⟨rfl, b7⟩
  have t7 : Below w.heap.size w w7 := t6.trans (b7.mono t6.size)
  have s0_7 := s0_6.below b7
  have u4_7 := u4_6.below b7
  have u6_7 := u6.below b7
  go_wp2
  go_ret
  exact Ret.b rfl t7

end Go.Proofs.Ytlfnkgfkimanaaa
