/- The walk of the law FnExactValidLegs: it returns true. -/
import Derived.Test.YtokakabckjmfoaaLegs
namespace Go.Proofs.Ytokakabckjmfoaa
open Go.RowKit

set_option maxHeartbeats 2000000 in
theorem walk_FnExactValidLegs (a0 : Int) (A1 : Option Addr) (n1 c1 : Nat) (x1 : List Leg) (w : World) (_g0 : I64 a0) (s1 : SliceOf w 4 Leg.cells A1 n1 x1) (_g1 : ∀ x ∈ x1, x.Good) : Calls Try.prog 14 #[.int .i64 a0, .slice A1 n1 c1] w (Ret (.bool true) w) := by
  have e1 := Leg.eqSB_self x1
  have ln1 := s1.le
  go_enter Try.func14, Try.ntmps14
  go_wp2_with fail
  refine (szLegS_any _ _ _ _ _ ln1 (by omega) (by omega)).mono ?_
  rintro e w1 ⟨v, rfl, ⟨r1, rfl, q1⟩, b1⟩
  have t1 : Below w.heap.size w w1 := (Below.refl w.heap.size w).trans (b1.mono (Below.refl w.heap.size w).size)
  have s1_1 := s1.below b1
  by_cases z1 : r1 < 0
  · go_wp2
    go_ret
    exact Ret.b rfl t1
  have l1 : n1 ≤ 1048576 := by omega
  go_wp2_with fail
  refine (toLegS_any _ _ _ _ _ s1_1 l1).mono ?_
  rintro e w2 ⟨v, rfl, ⟨B2, rfl, u2⟩, b2⟩
  have t2 : Below w.heap.size w w2 := t1.trans (b2.mono t1.size)
  have s1_2 := s1_1.below b2
  go_wp2_with fail
  refine (specValidLegs_any _ _ _ _ x1 _ u2).mono ?_
  rintro e w3 ⟨rfl, b3⟩
  have t3 : Below w.heap.size w w3 := t2.trans (b3.mono t2.size)
  have s1_3 := s1_2.below b3
  have u2_3 := u2.below b3
  go_wp2_with fail
  refine (toLegS_any _ _ _ _ _ s1_3 l1).mono ?_
  rintro e w4 ⟨v, rfl, ⟨B4, rfl, u4⟩, b4⟩
  have t4 : Below w.heap.size w w4 := t3.trans (b4.mono t3.size)
  have s1_4 := s1_3.below b4
  go_wp2_with fail
  refine (implValidLegs_any _ _ _ _ x1 _ u4).mono ?_
  rintro e w5 ⟨rfl, b5⟩
  have t5 : Below w.heap.size w w5 := t4.trans (b5.mono t4.size)
  have s1_5 := s1_4.below b5
  have u4_5 := u4.below b5
  go_wp2_with fail
  refine (toLegS_any _ _ _ _ _ s1_5 l1).mono ?_
  rintro e w6 ⟨v, rfl, ⟨B6, rfl, u6⟩, b6⟩
  have t6 : Below w.heap.size w w6 := t5.trans (b6.mono t5.size)
  have s1_6 := s1_5.below b6
  have u4_6 := u4_5.below b6
  go_wp2_with fail
  refine (eqLegS_any _ _ _ _ _ _ _ _ _ u4_6 u6).mono ?_
  rintro e w7 ⟨rfl, b7⟩
  have t7 : Below w.heap.size w w7 := t6.trans (b7.mono t6.size)
  have s1_7 := s1_6.below b7
  have u4_7 := u4_6.below b7
  have u6_7 := u6.below b7
  go_wp2
  go_ret
  exact Ret.b rfl t7

end Go.Proofs.Ytokakabckjmfoaa
