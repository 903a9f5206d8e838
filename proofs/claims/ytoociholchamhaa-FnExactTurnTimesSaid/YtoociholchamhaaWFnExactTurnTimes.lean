/- The walk of the law FnExactTurnTimes: it returns true. -/
import Derived.Test.YtoociholchamhaaTurns
namespace Go.Proofs.Ytoociholchamhaa
open Go.RowKit

set_option maxRecDepth 100000 in
set_option maxHeartbeats 2000000 in
theorem walk_FnExactTurnTimes (a0 : Int) (A1 : Option Addr) (n1 c1 : Nat) (x1 : List Leg) (A2 : Option Addr) (n2 c2 : Nat) (x2 : List Int) (a3 : Int) (w : World) (_g0 : I64 a0) (s1 : SliceOf w 4 Leg.cells A1 n1 x1) (_g1 : ∀ x ∈ x1, x.Good) (s2 : SliceOf w 1 i64cells A2 n2 x2) (_g2 : ∀ x ∈ x2, I64 x) (_g3 : I64 a3) : Calls Try.prog 7 #[.int .i64 a0, .slice A1 n1 c1, .slice A2 n2 c2, .int .i64 a3] w (Ret (.bool true) w) := by
  have e1 := Leg.eqSB_self x1
  have ln1 := s1.le
  have hl1 := Lib.hid s1.len
  have e2 := Int64.eqSB_self x2
  have ln2 := s2.le
  have hl2 := Lib.hid s2.len
  by_cases L2 : 1048576 < n2
  · go_enter Try.func7, Try.ntmps7
    go_wp2
    go_ret
    exact Ret.b rfl (Below.refl _ _)
  go_enter Try.func7, Try.ntmps7
  go_wp2_with fail
  refine (szLegS_any _ _ _ _ _ ln1 (by omega) (by omega)).mono ?_
  rintro e w1 ⟨v, rfl, ⟨r1, rfl, q1⟩, b1⟩
  have t1 : Below w.heap.size w w1 := (Below.refl w.heap.size w).trans (b1.mono (Below.refl w.heap.size w).size)
  have z1 : Hid (w.heap.size ≤ w1.heap.size) := b1.size
  by_cases y1 : r1 < 0
  · go_wp2
    go_ret
    exact Ret.b rfl t1
  have l1 : n1 ≤ 1048576 := by omega
  go_wp2_with fail
  refine (toLegS_own _ _ _ _ _ (s1.below t1) l1).mono ?_
  rintro e w2 ⟨v2, rfl, o2, b2⟩
  have t2 : Below w.heap.size w w2 := t1.trans (b2.mono t1.size)
  have z2 : Hid (w1.heap.size ≤ w2.heap.size) := b2.size
  have lo2 := Lib.hid o2.lt
  obtain ⟨A_2, c_2, rfl, hc2, hm2, u2⟩ := o2.slice Leg.cells_len
  clear u2
  go_wp2_with fail
  refine (toInt64S_any _ _ _ _ _ (s2.below t2) (by omega)).mono ?_
  rintro e w3 ⟨v3, rfl, o3, b3⟩
  have t3 : Below w.heap.size w w3 := t2.trans (b3.mono t2.size)
  have z3 : Hid (w2.heap.size ≤ w3.heap.size) := b3.size
  have o2_3 := o2.below' b3
  have lo3 := Lib.hid o3.lt
  obtain ⟨A_3, c_3, rfl, hc3, hm3, u3⟩ := o3.slice i64cells_len
  clear u3
  go_wp2_with fail
  refine (specTurnTimes_any _ _ _ _ _ x1 _ _ _ x2 _ (o2_3.sl Leg.cells_len) (o3.sl i64cells_len) hc3 (by simpa [maxLen] using hm3)).mono ?_
  rintro e w4 ⟨v4, rfl, o4, b4⟩
  have t4 : Below w.heap.size w w4 := t3.trans (b4.mono t3.size)
  have z4 : Hid (w3.heap.size ≤ w4.heap.size) := b4.size
  have o2_4 := o2_3.below' b4
  have o3_4 := o3.below' b4
  have lo4 := Lib.hid o4.lt
  go_wp2_with fail
  refine (toLegS_own _ _ _ _ _ (s1.below t4) l1).mono ?_
  rintro e w5 ⟨v5, rfl, o5, b5⟩
  have t5 : Below w.heap.size w w5 := t4.trans (b5.mono t4.size)
  have z5 : Hid (w4.heap.size ≤ w5.heap.size) := b5.size
  have o4_5 := o4.below' b5
  have lo5 := Lib.hid o5.lt
  obtain ⟨A_5, c_5, rfl, hc5, hm5, u5⟩ := o5.slice Leg.cells_len
  clear u5
  go_wp2_with fail
  refine (toInt64S_any _ _ _ _ _ (s2.below t5) (by omega)).mono ?_
  rintro e w6 ⟨v6, rfl, o6, b6⟩
  have t6 : Below w.heap.size w w6 := t5.trans (b6.mono t5.size)
  have z6 : Hid (w5.heap.size ≤ w6.heap.size) := b6.size
  have o4_6 := o4_5.below' b6
  have o5_6 := o5.below' b6
  have lo6 := Lib.hid o6.lt
  obtain ⟨A_6, c_6, rfl, hc6, hm6, u6⟩ := o6.slice i64cells_len
  clear u6
  go_wp2_with fail
  refine (implTurnTimes_any _ _ _ _ _ x1 _ _ _ x2 _ (o5_6.sl Leg.cells_len) (o6.sl i64cells_len)).mono ?_
  rintro e w7 ⟨v7, rfl, o7, b7⟩
  have t7 : Below w.heap.size w w7 := t6.trans (b7.mono t6.size)
  have z7 : Hid (w6.heap.size ≤ w7.heap.size) := b7.size
  have o4_7 := o4_6.below' b7
  have o5_7 := o5_6.below' b7
  have o6_7 := o6.below' b7
  have lo7 := Lib.hid o7.lt
  have HL7 : Hid ((turnR a0 x1 x2 a3).length ≤ 1048576) := turnR_len _ _ _ _
  go_wp2_with fail
  refine (eqInt64S_own o7 o4_7).mono ?_
  rintro e w8 ⟨rfl, b8⟩
  have t8 : Below w.heap.size w w8 := t7.trans (b8.mono t7.size)
  have z8 : Hid (w7.heap.size ≤ w8.heap.size) := b8.size
  have o4_8 := o4_7.below' b8
  have o5_8 := o5_7.below' b8
  have o6_8 := o6_7.below' b8
  have o7_8 := o7.below' b8
  rw [Int64.eqSB_self]
  go_wp2_with fail
  refine (toLegS_own _ _ _ _ _ (s1.below t8) l1).mono ?_
  rintro e w9 ⟨v9, rfl, o9, b9⟩
  have t9 : Below w.heap.size w w9 := t8.trans (b9.mono t8.size)
  have z9 : Hid (w8.heap.size ≤ w9.heap.size) := b9.size
  have o4_9 := o4_8.below' b9
  have o5_9 := o5_8.below' b9
  have o6_9 := o6_8.below' b9
  have o7_9 := o7_8.below' b9
  have lo9 := Lib.hid o9.lt
  obtain ⟨A_9, c_9, rfl, hc9, hm9, u9⟩ := o9.slice Leg.cells_len
  clear u9
  go_wp2_with fail
  refine (eqLegS_any _ _ _ _ _ _ _ _ _ (o5_9.sl Leg.cells_len) (o9.sl Leg.cells_len)).mono ?_
  rintro e w10 ⟨rfl, b10⟩
  have t10 : Below w.heap.size w w10 := t9.trans (b10.mono t9.size)
  have z10 : Hid (w9.heap.size ≤ w10.heap.size) := b10.size
  have o4_10 := o4_9.below' b10
  have o5_10 := o5_9.below' b10
  have o6_10 := o6_9.below' b10
  have o7_10 := o7_9.below' b10
  have o9_10 := o9.below' b10
  go_wp2_with fail
  refine (toInt64S_any _ _ _ _ _ (s2.below t10) (by omega)).mono ?_
  rintro e w11 ⟨v11, rfl, o11, b11⟩
  have t11 : Below w.heap.size w w11 := t10.trans (b11.mono t10.size)
  have z11 : Hid (w10.heap.size ≤ w11.heap.size) := b11.size
  have o4_11 := o4_10.below' b11
  have o5_11 := o5_10.below' b11
  have o6_11 := o6_10.below' b11
  have o7_11 := o7_10.below' b11
  have lo11 := Lib.hid o11.lt
  obtain ⟨A_11, c_11, rfl, hc11, hm11, u11⟩ := o11.slice i64cells_len
  clear u11
  go_wp2_with fail
  refine (eqInt64S_any _ _ _ _ _ _ _ _ _ (o6_11.sl i64cells_len) (o11.sl i64cells_len)).mono ?_
  rintro e w12 ⟨rfl, b12⟩
  have t12 : Below w.heap.size w w12 := t11.trans (b12.mono t11.size)
  have z12 : Hid (w11.heap.size ≤ w12.heap.size) := b12.size
  have o4_12 := o4_11.below' b12
  have o5_12 := o5_11.below' b12
  have o6_12 := o6_11.below' b12
  have o7_12 := o7_11.below' b12
  have o11_12 := o11.below' b12
  go_wp2_with fail
  refine (markLegS_any _ _ x1 _ _ o5_12 (by omega) (by omega) (by rw [hl1.out]; exact l1)).mono ?_
  rintro e w13 ⟨k13, rfl, _, _, mk13⟩
  have sp13 : Span w4.heap.size w5.heap.size w12 w13 := mk13.span (fun k hk => lo5.out k hk)
  have z13 : Hid (w12.heap.size ≤ w13.heap.size) := sp13.size
  have t13 : Below w.heap.size w w13 := Below.span t12 sp13 t12.size t4.size
  have o4_13 := o4_12.span sp13 (fun k hk => by have h := lo4.out k hk;  omega)
  have o6_13 := o6_12.span sp13 (fun k hk => by have h := lo6.out k hk;  omega)
  have o7_13 := o7_12.span sp13 (fun k hk => by have h := lo7.out k hk; have := z6.out; omega)
  clear mk13
  go_wp2_with fail
  refine (markInt64S_any _ _ x2 _ _ o6_13 (by omega) (by omega) (by rw [hl2.out]; exact (by omega))).mono ?_
  rintro e w14 ⟨rfl, om14, mk14⟩
  have hlx14 : x2.length = n2 := hl2.out
  have Hlx14 := Lib.hid hlx14
  clear om14
  have sp14 : Span w5.heap.size w6.heap.size w13 w14 := mk14.span (fun k hk => lo6.out k hk)
  have z14 : Hid (w13.heap.size ≤ w14.heap.size) := sp14.size
  have t14 : Below w.heap.size w w14 := Below.span t13 sp14 t13.size t5.size
  have o4_14 := o4_13.span sp14 (fun k hk => by have h := lo4.out k hk; have := z5.out; omega)
  have o7_14 := o7_13.span sp14 (fun k hk => by have h := lo7.out k hk;  omega)
  clear mk14
  try clear hlx14
  go_wp2_with fail
  refine (eqInt64S_own o7_14 o4_14).mono ?_
  rintro e w15 ⟨rfl, b15⟩
  have t15 : Below w.heap.size w w15 := t14.trans (b15.mono t14.size)
  have z15 : Hid (w14.heap.size ≤ w15.heap.size) := b15.size
  have o4_15 := o4_14.below' b15
  have o7_15 := o7_14.below' b15
  rw [Int64.eqSB_self]
  go_wp2_with fail
  refine (markInt64S_any _ _ _ _ _ o7_15 (by omega) (by omega) HL7.out).mono ?_
  rintro e w16 ⟨rfl, om16, mk16⟩
  have sp16 : Span w6.heap.size w7.heap.size w15 w16 := mk16.span (fun k hk => lo7.out k hk)
  have z16 : Hid (w15.heap.size ≤ w16.heap.size) := sp16.size
  have t16 : Below w.heap.size w w16 := Below.span t15 sp16 t15.size t6.size
  have o4_16 := o4_15.span sp16 (fun k hk => by have h := lo4.out k hk; have := z5.out; have := z6.out; omega)
  clear mk16
  go_wp2_with fail
  refine (heldInt64S_any _ _ _ _ _ om16 (by omega) (by omega) HL7.out).mono ?_
  rintro e w' ⟨rfl, rfl⟩
  go_wp2_with fail
  refine (toLegS_own _ _ _ _ _ (s1.below t16) l1).mono ?_
  rintro e w17 ⟨v17, rfl, o17, b17⟩
  have t17 : Below w.heap.size w w17 := t16.trans (b17.mono t16.size)
  have z17 : Hid (w16.heap.size ≤ w17.heap.size) := b17.size
  have o4_17 := o4_16.below' b17
  have om16_17 := om16.below' b17
  have lo17 := Lib.hid o17.lt
  obtain ⟨A_17, c_17, rfl, hc17, hm17, u17⟩ := o17.slice Leg.cells_len
  clear u17
  go_wp2_with fail
  refine (toInt64S_any _ _ _ _ _ (s2.below t17) (by omega)).mono ?_
  rintro e w18 ⟨v18, rfl, o18, b18⟩
  have t18 : Below w.heap.size w w18 := t17.trans (b18.mono t17.size)
  have z18 : Hid (w17.heap.size ≤ w18.heap.size) := b18.size
  have o4_18 := o4_17.below' b18
  have om16_18 := om16_17.below' b18
  have o17_18 := o17.below' b18
  have lo18 := Lib.hid o18.lt
  obtain ⟨A_18, c_18, rfl, hc18, hm18, u18⟩ := o18.slice i64cells_len
  clear u18
  go_wp2_with fail
  refine (implTurnTimes_any _ _ _ _ _ x1 _ _ _ x2 _ (o17_18.sl Leg.cells_len) (o18.sl i64cells_len)).mono ?_
  rintro e w19 ⟨v19, rfl, o19, b19⟩
  have t19 : Below w.heap.size w w19 := t18.trans (b19.mono t18.size)
  have z19 : Hid (w18.heap.size ≤ w19.heap.size) := b19.size
  have o4_19 := o4_18.below' b19
  have om16_19 := om16_18.below' b19
  have o17_19 := o17_18.below' b19
  have o18_19 := o18.below' b19
  have lo19 := Lib.hid o19.lt
  go_wp2_with fail
  refine (eqInt64S_own o19 o4_19).mono ?_
  rintro e w20 ⟨rfl, b20⟩
  have t20 : Below w.heap.size w w20 := t19.trans (b20.mono t19.size)
  have z20 : Hid (w19.heap.size ≤ w20.heap.size) := b20.size
  have o4_20 := o4_19.below' b20
  have om16_20 := om16_19.below' b20
  have o19_20 := o19.below' b20
  rw [Int64.eqSB_self]
  go_wp2_with fail
  refine (heldInt64S_any _ _ _ _ _ om16_20 (by omega) (by omega) HL7.out).mono ?_
  rintro e w' ⟨rfl, rfl⟩
  go_wp2
  go_ret
  exact Ret.b rfl t20

end Go.Proofs.Ytoociholchamhaa
