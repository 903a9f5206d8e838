/- The walk of the law FnExactSameState: it returns true. -/
import Derived.Test.YtokakabckjmfoaaSame
namespace Go.Proofs.Ytokakabckjmfoaa
open Go.RowKit

set_option maxHeartbeats 2000000 in
theorem walk_FnExactSameState (A0 : Option Addr) (n0 c0 : Nat) (x0 : List Setting) (A1 : Option Addr) (n1 c1 : Nat) (x1 : List Setting) (w : World) (s0 : SliceOf w 2 Setting.cells A0 n0 x0) (g0 : ∀ x ∈ x0, x.Good) (s1 : SliceOf w 2 Setting.cells A1 n1 x1) (g1 : ∀ x ∈ x1, x.Good) : Calls Try.prog 6 #[.slice A0 n0 c0, .slice A1 n1 c1] w (Ret (.bool true) w) := by
  have e0 := Setting.eqSB_self x0
  have ln0 := s0.le
  have e1 := Setting.eqSB_self x1
  have ln1 := s1.le
  go_enter Try.func6, Try.ntmps6
  go_wp2_with fail
  refine (szSettingS_any _ _ _ x0 _ _ s0 g0 (by omega) (by omega)).mono ?_
  rintro e w1 ⟨v, rfl, ⟨r1, rfl, q1⟩, b1⟩
  have t1 : Below w.heap.size w w1 := (Below.refl w.heap.size w).trans (b1.mono (Below.refl w.heap.size w).size)
  have s0_1 := s0.below b1
  have s1_1 := s1.below b1
  by_cases z1 : r1 < 0
  · go_wp2
    go_ret
    exact Ret.b rfl t1
  have l1 : n0 ≤ 1048576 := by omega
  go_wp2_with fail
  refine (szSettingS_any _ _ _ x1 _ _ s1_1 g1 (by omega) (by omega)).mono ?_
  rintro e w2 ⟨v, rfl, ⟨r2, rfl, q2⟩, b2⟩
  have t2 : Below w.heap.size w w2 := t1.trans (b2.mono t1.size)
  have s0_2 := s0_1.below b2
  have s1_2 := s1_1.below b2
  by_cases z2 : r2 < 0
  · go_wp2
    go_ret
    exact Ret.b rfl t2
  have l2 : n1 ≤ 1048576 := by omega
  go_wp2_with fail
  refine (toSettingS_any _ _ _ _ _ s0_2 l1).mono ?_
  rintro e w3 ⟨v, rfl, ⟨B3, rfl, u3⟩, b3⟩
  have t3 : Below w.heap.size w w3 := t2.trans (b3.mono t2.size)
  have s0_3 := s0_2.below b3
  have s1_3 := s1_2.below b3
  go_wp2_with fail
  refine (toSettingS_any _ _ _ _ _ s1_3 l2).mono ?_
  rintro e w4 ⟨v, rfl, ⟨B4, rfl, u4⟩, b4⟩
  have t4 : Below w.heap.size w w4 := t3.trans (b4.mono t3.size)
  have s0_4 := s0_3.below b4
  have s1_4 := s1_3.below b4
  have u3_4 := u3.below b4
  go_wp2_with fail
  refine (specSameState_any _ _ _ _ _ _ x0 x1 _ u3_4 u4).mono ?_
  rintro e w5 ⟨rfl, b5⟩
  have t5 : Below w.heap.size w w5 := t4.trans (b5.mono t4.size)
  have s0_5 := s0_4.below b5
  have s1_5 := s1_4.below b5
  have u3_5 := u3_4.below b5
  have u4_5 := u4.below b5
  go_wp2_with fail
  refine (toSettingS_any _ _ _ _ _ s0_5 l1).mono ?_
  rintro e w6 ⟨v, rfl, ⟨B6, rfl, u6⟩, b6⟩
  have t6 : Below w.heap.size w w6 := t5.trans (b6.mono t5.size)
  have s0_6 := s0_5.below b6
  have s1_6 := s1_5.below b6
  go_wp2_with fail
  refine (toSettingS_any _ _ _ _ _ s1_6 l2).mono ?_
  rintro e w7 ⟨v, rfl, ⟨B7, rfl, u7⟩, b7⟩
  have t7 : Below w.heap.size w w7 := t6.trans (b7.mono t6.size)
  have s0_7 := s0_6.below b7
  have s1_7 := s1_6.below b7
  have u6_7 := u6.below b7
  go_wp2_with fail
  refine (implSameState_any _ _ _ _ _ _ x0 x1 _ u6_7 u7).mono ?_
  rintro e w8 ⟨rfl, b8⟩
  have t8 : Below w.heap.size w w8 := t7.trans (b8.mono t7.size)
  have s0_8 := s0_7.below b8
  have s1_8 := s1_7.below b8
  have u6_8 := u6_7.below b8
  have u7_8 := u7.below b8
  go_wp2_with fail
  refine (toSettingS_any _ _ _ _ _ s0_8 l1).mono ?_
  rintro e w9 ⟨v, rfl, ⟨B9, rfl, u9⟩, b9⟩
  have t9 : Below w.heap.size w w9 := t8.trans (b9.mono t8.size)
  have s0_9 := s0_8.below b9
  have s1_9 := s1_8.below b9
  have u6_9 := u6_8.below b9
  have u7_9 := u7_8.below b9
  go_wp2_with fail
  refine (eqSettingS_any _ _ _ _ _ _ _ _ _ u6_9 u9).mono ?_
  rintro e w10 ⟨rfl, b10⟩
  have t10 : Below w.heap.size w w10 := t9.trans (b10.mono t9.size)
  have s0_10 := s0_9.below b10
  have s1_10 := s1_9.below b10
  have u6_10 := u6_9.below b10
  have u7_10 := u7_9.below b10
  have u9_10 := u9.below b10
  go_wp2_with fail
  refine (toSettingS_any _ _ _ _ _ s1_10 l2).mono ?_
  rintro e w11 ⟨v, rfl, ⟨B11, rfl, u11⟩, b11⟩
  have t11 : Below w.heap.size w w11 := t10.trans (b11.mono t10.size)
  have s0_11 := s0_10.below b11
  have s1_11 := s1_10.below b11
  have u6_11 := u6_10.below b11
  have u7_11 := u7_10.below b11
  go_wp2_with fail
  refine (eqSettingS_any _ _ _ _ _ _ _ _ _ u7_11 u11).mono ?_
  rintro e w12 ⟨rfl, b12⟩
  have t12 : Below w.heap.size w w12 := t11.trans (b12.mono t11.size)
  have s0_12 := s0_11.below b12
  have s1_12 := s1_11.below b12
  have u6_12 := u6_11.below b12
  have u7_12 := u7_11.below b12
  have u11_12 := u11.below b12
  go_wp2
  go_ret
  exact Ret.b rfl t12

end Go.Proofs.Ytokakabckjmfoaa
