/- The walk of the law FnExactWorstLeg: it returns true. -/
import Derived.Test.YtoociholchamhaaWorst
import Derived.Test.YtoociholchamhaaTInt64
namespace Go.Proofs.Ytoociholchamhaa
open Go.RowKit

set_option maxRecDepth 100000 in
set_option maxHeartbeats 2000000 in
theorem walk_FnExactWorstLeg (a0 : Int) (A1 : Option Addr) (n1 c1 : Nat) (x1 : List Leg) (A2 : Option Addr) (n2 c2 : Nat) (x2 : List Int) (w : World) (_g0 : I64 a0) (s1 : SliceOf w 4 Leg.cells A1 n1 x1) (_g1 : ∀ x ∈ x1, x.Good) (s2 : SliceOf w 1 i64cells A2 n2 x2) (_g2 : ∀ x ∈ x2, I64 x) : Calls Try.prog 5 #[.int .i64 a0, .slice A1 n1 c1, .slice A2 n2 c2] w (Ret (.bool true) w) := by
  have e1 := Leg.eqSB_self x1
  have ln1 := s1.le
  have hl1 := Lib.hid s1.len
  have e2 := Int64.eqSB_self x2
  have ln2 := s2.le
  have hl2 := Lib.hid s2.len
  by_cases L2 : 1048576 < n2
  · go_enter Try.func5, Try.ntmps5
    go_wp2
    go_ret
    exact Ret.b rfl (Below.refl _ _)
  go_enter Try.func5, Try.ntmps5
  go_wp2_with fail
  refine (szLegS_any _ _ _ _ _ ln1 (by omega) (by omega)).mono ?_
  rintro e w1 ⟨v, rfl, ⟨r1, rfl, q1⟩, b1⟩
  have t1 : Below w.heap.size w w1 := (Below.refl w.heap.size w).trans (b1.mono (Below.refl w.heap.size w).size)
  have z1 : Hid (w.heap.size ≤ w1.heap.size) := b1.size
  by_cases y1 : r1 < 0
  · go_wp2
    go_ret
    exact Ret.b rfl t1
  have l1 : n1 ≤ 1048576 := by omega
  go_wp2_with fail
  refine (toLegS_own _ _ _ _ _ (s1.below t1) l1).mono ?_
  rintro e w2 ⟨v2, rfl, o2, b2⟩
  have t2 : Below w.heap.size w w2 := t1.trans (b2.mono t1.size)
  have z2 : Hid (w1.heap.size ≤ w2.heap.size) := b2.size
  have lo2 := Lib.hid o2.lt
  obtain ⟨A_2, c_2, rfl, hc2, hm2, u2⟩ := o2.slice Leg.cells_len
  clear u2
  go_wp2_with fail
  refine (toInt64S_any _ _ _ _ _ (s2.below t2) (by omega)).mono ?_
  rintro e w3 ⟨v3, rfl, o3, b3⟩
  have t3 : Below w.heap.size w w3 := t2.trans (b3.mono t2.size)
  have z3 : Hid (w2.heap.size ≤ w3.heap.size) := b3.size
  have o2_3 := o2.below' b3
  have lo3 := Lib.hid o3.lt
  obtain ⟨A_3, c_3, rfl, hc3, hm3, u3⟩ := o3.slice i64cells_len
  clear u3
  go_wp2_with fail
  refine (specWorstLeg_any _ _ _ _ x1 _ _ _ x2 _ (o2_3.sl Leg.cells_len) (o3.sl i64cells_len) hc3).mono ?_
  rintro e w4 ⟨rfl, b4⟩
  have t4 : Below w.heap.size w w4 := t3.trans (b4.mono t3.size)
  have z4 : Hid (w3.heap.size ≤ w4.heap.size) := b4.size
  have o2_4 := o2_3.below' b4
  have o3_4 := o3.below' b4
  go_wp2_with fail
  refine (toLegS_own _ _ _ _ _ (s1.below t4) l1).mono ?_
  rintro e w5 ⟨v5, rfl, o5, b5⟩
  have t5 : Below w.heap.size w w5 := t4.trans (b5.mono t4.size)
  have z5 : Hid (w4.heap.size ≤ w5.heap.size) := b5.size
  have lo5 := Lib.hid o5.lt
  obtain ⟨A_5, c_5, rfl, hc5, hm5, u5⟩ := o5.slice Leg.cells_len
  clear u5
  go_wp2_with fail
  refine (toInt64S_any _ _ _ _ _ (s2.below t5) (by omega)).mono ?_
  rintro e w6 ⟨v6, rfl, o6, b6⟩
  have t6 : Below w.heap.size w w6 := t5.trans (b6.mono t5.size)
  have z6 : Hid (w5.heap.size ≤ w6.heap.size) := b6.size
  have o5_6 := o5.below' b6
  have lo6 := Lib.hid o6.lt
  obtain ⟨A_6, c_6, rfl, hc6, hm6, u6⟩ := o6.slice i64cells_len
  clear u6
  go_wp2_with fail
  refine (implWorstLeg_any _ _ _ _ x1 _ _ _ x2 _ (o5_6.sl Leg.cells_len) (o6.sl i64cells_len)).mono ?_
  rintro e w7 ⟨rfl, b7⟩
  have t7 : Below w.heap.size w w7 := t6.trans (b7.mono t6.size)
  have z7 : Hid (w6.heap.size ≤ w7.heap.size) := b7.size
  have o5_7 := o5_6.below' b7
  have o6_7 := o6.below' b7
  go_wp2_with fail
  refine (toLegS_own _ _ _ _ _ (s1.below t7) l1).mono ?_
  rintro e w8 ⟨v8, rfl, o8, b8⟩
  have t8 : Below w.heap.size w w8 := t7.trans (b8.mono t7.size)
  have z8 : Hid (w7.heap.size ≤ w8.heap.size) := b8.size
  have o5_8 := o5_7.below' b8
  have o6_8 := o6_7.below' b8
  have lo8 := Lib.hid o8.lt
  obtain ⟨A_8, c_8, rfl, hc8, hm8, u8⟩ := o8.slice Leg.cells_len
  clear u8
  go_wp2_with fail
  refine (eqLegS_any _ _ _ _ _ _ _ _ _ (o5_8.sl Leg.cells_len) (o8.sl Leg.cells_len)).mono ?_
  rintro e w9 ⟨rfl, b9⟩
  have t9 : Below w.heap.size w w9 := t8.trans (b9.mono t8.size)
  have z9 : Hid (w8.heap.size ≤ w9.heap.size) := b9.size
  have o5_9 := o5_8.below' b9
  have o6_9 := o6_8.below' b9
  have o8_9 := o8.below' b9
  go_wp2_with fail
  refine (toInt64S_any _ _ _ _ _ (s2.below t9) (by omega)).mono ?_
  rintro e w10 ⟨v10, rfl, o10, b10⟩
  have t10 : Below w.heap.size w w10 := t9.trans (b10.mono t9.size)
  have z10 : Hid (w9.heap.size ≤ w10.heap.size) := b10.size
  have o5_10 := o5_9.below' b10
  have o6_10 := o6_9.below' b10
  have lo10 := Lib.hid o10.lt
  obtain ⟨A_10, c_10, rfl, hc10, hm10, u10⟩ := o10.slice i64cells_len
  clear u10
  go_wp2_with fail
  refine (eqInt64S_any _ _ _ _ _ _ _ _ _ (o6_10.sl i64cells_len) (o10.sl i64cells_len)).mono ?_
  rintro e w11 ⟨rfl, b11⟩
  have t11 : Below w.heap.size w w11 := t10.trans (b11.mono t10.size)
  have z11 : Hid (w10.heap.size ≤ w11.heap.size) := b11.size
  have o5_11 := o5_10.below' b11
  have o6_11 := o6_10.below' b11
  have o10_11 := o10.below' b11
  go_wp2
  go_ret
  exact Ret.b rfl t11

end Go.Proofs.Ytoociholchamhaa
