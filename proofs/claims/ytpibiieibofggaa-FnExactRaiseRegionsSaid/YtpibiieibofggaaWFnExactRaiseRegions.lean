/- The walk of the law FnExactRaiseRegions: it returns true. -/
import Derived.Test.YtpibiieibofggaaRaiY
import Derived.Test.YtpibiieibofggaaMarkRegion
namespace Go.Proofs.Ytpibiieibofggaa
open Go.RowKit

set_option maxRecDepth 100000 in
set_option maxHeartbeats 1000000 in
theorem walk_FnExactRaiseRegions (A0 : Option Addr) (n0 c0 : Nat) (p0 : List RegionR) (a1 : Int) (a2 : Int) (w : World) (s0 : SliceOf w 3 RegionR.cells A0 n0 p0) (g0 : ∀ x ∈ p0, x.In w ∧ x.val.Good) (_g1 : I64 a1) (_g2 : I64 a2) : Calls Try.prog 4 #[.slice A0 n0 c0, .int .i64 a1, .int .i64 a2] w (Ret (.bool true) w) := by
  obtain ⟨x0, hx0⟩ : ∃ x, p0.map RegionR.val = x := ⟨_, rfl⟩
  have e0 := Region.eqSB_self x0
  have ln0 := s0.le
  have hl0 := Lib.hid s0.len
  have S0 : Region.Sl w A0 n0 x0 := ⟨p0, s0, fun p hp => (g0 p hp).1, hx0.symm⟩
  have Hx0 := Lib.hid hx0
  clear hx0
  have G0 := Lib.hid g0
  have GG0 : Hid (∀ x ∈ x0, x.Good) := fun x hx => by
    rw [← Hx0.out] at hx
    obtain ⟨p, hp, rfl⟩ := List.mem_map.1 hx
    exact (G0.out p hp).2
  clear g0
  go_enter Try.func4, Try.ntmps4
  go_wp2_with fail
  refine (szRegionS_any _ _ _ p0 _ _ (s0.below (Below.refl w.heap.size w)) (fun p hp => (G0.out p hp).1.below (Below.refl w.heap.size w)) (fun p hp => (G0.out p hp).2) (by omega) (by omega)).mono ?_
  rintro e w1 ⟨v, rfl, ⟨r1, rfl, q1⟩, b1⟩
  have t1 : Below w.heap.size w w1 := (Below.refl w.heap.size w).trans (b1.mono (Below.refl w.heap.size w).size)
  have z1 : Hid (w.heap.size ≤ w1.heap.size) := b1.size
  have Q1 := Lib.hid q1
  have r1c : r1 < 0 ∨ 0 ≤ r1 ∧ r1 ≤ 1048576 ∧ (n0 : Int) ≤ 1048576 := by rcases q1 with h | h <;> omega
  clear q1
  by_cases y1 : r1 < 0
  · go_wp2
    go_ret
    exact Ret.b rfl t1
  have l1 : n0 ≤ 1048576 := by omega
  have inn0 : Hid (∀ x ∈ x0, x.near.length ≤ 1048576) := fun x hx => by
    rw [← Hx0.out] at hx
    obtain ⟨p, hp, rfl⟩ := List.mem_map.1 hx
    have h := (Q1.out.resolve_left y1).2.2.2 p hp
    rw [← (G0.out p hp).1.1.len] at h
    exact h
  go_wp2_with fail
  refine (toRegionS_any _ _ _ x0 _ (S0.below t1) l1 inn0.out).mono ?_
  rintro e w2 ⟨v2, rfl, o2, b2⟩
  have t2 : Below w.heap.size w w2 := t1.trans (b2.mono t1.size)
  have z2 : Hid (w1.heap.size ≤ w2.heap.size) := b2.size
  obtain ⟨A_2, c_2, rfl, hc2, hm2, u2⟩ := o2.slice
  clear u2
  go_wp2_with fail
  refine (specRaiseRegions_any a1 a2 _ _ _ x0 _ o2.sl GG0.out).mono ?_
  rintro e w3 ⟨v3, rfl, o3, b3⟩
  have t3 : Below w.heap.size w w3 := t2.trans (b3.mono t2.size)
  have z3 : Hid (w2.heap.size ≤ w3.heap.size) := b3.size
  have o2_3 := o2.below' b3
  have lo3 := Lib.hid o3.lt
  go_wp2_with fail
  refine (toRegionS_any _ _ _ x0 _ (S0.below t3) l1 inn0.out).mono ?_
  rintro e w4 ⟨v4, rfl, o4, b4⟩
  have t4 : Below w.heap.size w w4 := t3.trans (b4.mono t3.size)
  have z4 : Hid (w3.heap.size ≤ w4.heap.size) := b4.size
  have o3_4 := o3.below' b4
  obtain ⟨A_4, c_4, rfl, hc4, hm4, u4⟩ := o4.slice
  clear u4
  have o4 := o4.bound
  go_wp2_with fail
  refine (implRaiseRegions_any a1 a2 _ _ _ x0 _ o4.sl GG0.out).mono ?_
  rintro e w5 ⟨v5, rfl, o5, b5⟩
  have t5 : Below w.heap.size w w5 := t4.trans (b5.mono t4.size)
  have z5 : Hid (w4.heap.size ≤ w5.heap.size) := b5.size
  have o3_5 := o3_4.below' b5
  have o4_5 := o4.below' b5
  have lo5 := Lib.hid o5.lt
  have HL5 : Hid ((raiR x0 a1 a2).length ≤ 1048576) := raiR_len _ _ _
  go_wp2_with fail
  refine (eqInt64S_own o5 o3_5).mono ?_
  rintro e w6 ⟨rfl, b6⟩
  have t6 : Below w.heap.size w w6 := t5.trans (b6.mono t5.size)
  have z6 : Hid (w5.heap.size ≤ w6.heap.size) := b6.size
  have o3_6 := o3_5.below' b6
  have o4_6 := o4_5.below' b6
  have o5_6 := o5.below' b6
  rw [Int64.eqSB_self]
  go_wp2_with fail
  refine (toRegionS_any _ _ _ x0 _ (S0.below t6) l1 inn0.out).mono ?_
  rintro e w7 ⟨v7, rfl, o7, b7⟩
  have t7 : Below w.heap.size w w7 := t6.trans (b7.mono t6.size)
  have z7 : Hid (w6.heap.size ≤ w7.heap.size) := b7.size
  have o3_7 := o3_6.below' b7
  have o4_7 := o4_6.below' b7
  have o5_7 := o5_6.below' b7
  obtain ⟨A_7, c_7, rfl, hc7, hm7, u7⟩ := o7.slice
  clear u7
  go_wp2_with fail
  refine (eqRegionS_any _ _ _ _ _ _ _ _ _ o4_7.sl o7.sl).mono ?_
  rintro e w8 ⟨rfl, b8⟩
  have t8 : Below w.heap.size w w8 := t7.trans (b8.mono t7.size)
  have z8 : Hid (w7.heap.size ≤ w8.heap.size) := b8.size
  have o3_8 := o3_7.below' b8
  have o4_8 := o4_7.below' b8
  have o5_8 := o5_7.below' b8
  have o7_8 := o7.below' b8
  go_wp2_with fail
  refine (markRegionS_any _ _ _ _ _ x0 _ _ o4_8 (by omega) (by omega) (by rw [S0.len]; exact l1) inn0.out).mono ?_
  rintro e w9 ⟨k9, rfl, ⟨ka9, kb9⟩, mk9⟩
  rw [S0.len] at kb9
  have sp9 : Span w3.heap.size w4.heap.size w8 w9 := mk9
  have z9 : Hid (w8.heap.size ≤ w9.heap.size) := sp9.size
  have t9 : Below w.heap.size w w9 := Below.span t8 sp9 t8.size t3.size
  have o3_9 := o3_8.span sp9 (fun k hk => by have h := lo3.out k hk;  omega)
  have o5_9 := o5_8.span sp9 (fun k hk => by have h := lo5.out k hk;  omega)
  clear mk9
  go_wp2_with fail
  refine (eqInt64S_own o5_9 o3_9).mono ?_
  rintro e w10 ⟨rfl, b10⟩
  have t10 : Below w.heap.size w w10 := t9.trans (b10.mono t9.size)
  have z10 : Hid (w9.heap.size ≤ w10.heap.size) := b10.size
  have o3_10 := o3_9.below' b10
  have o5_10 := o5_9.below' b10
  rw [Int64.eqSB_self]
  go_wp2_with fail
  refine (markInt64S_any _ _ _ _ _ o5_10 (by omega) (by omega) HL5.out).mono ?_
  rintro e w11 ⟨rfl, om11, mk11⟩
  have sp11 : Span w4.heap.size w5.heap.size w10 w11 := mk11.span (fun k hk => lo5.out k hk)
  have z11 : Hid (w10.heap.size ≤ w11.heap.size) := sp11.size
  have t11 : Below w.heap.size w w11 := Below.span t10 sp11 t10.size t4.size
  have o3_11 := o3_10.span sp11 (fun k hk => by have h := lo3.out k hk; have := z4.out; omega)
  clear mk11
  go_wp2_with fail
  refine (heldInt64S_any _ _ _ _ _ om11 (by omega) (by omega) HL5.out).mono ?_
  rintro e w' ⟨rfl, rfl⟩
  go_wp2_with fail
  refine (toRegionS_any _ _ _ x0 _ (S0.below t11) l1 inn0.out).mono ?_
  rintro e w12 ⟨v12, rfl, o12, b12⟩
  have t12 : Below w.heap.size w w12 := t11.trans (b12.mono t11.size)
  have z12 : Hid (w11.heap.size ≤ w12.heap.size) := b12.size
  have o3_12 := o3_11.below' b12
  have om11_12 := om11.below' b12
  obtain ⟨A_12, c_12, rfl, hc12, hm12, u12⟩ := o12.slice
  clear u12
  go_wp2_with fail
  refine (implRaiseRegions_any a1 a2 _ _ _ x0 _ o12.sl GG0.out).mono ?_
  rintro e w13 ⟨v13, rfl, o13, b13⟩
  have t13 : Below w.heap.size w w13 := t12.trans (b13.mono t12.size)
  have z13 : Hid (w12.heap.size ≤ w13.heap.size) := b13.size
  have o3_13 := o3_12.below' b13
  have om11_13 := om11_12.below' b13
  have o12_13 := o12.below' b13
  have lo13 := Lib.hid o13.lt
  go_wp2_with fail
  refine (eqInt64S_own o13 o3_13).mono ?_
  rintro e w14 ⟨rfl, b14⟩
  have t14 : Below w.heap.size w w14 := t13.trans (b14.mono t13.size)
  have z14 : Hid (w13.heap.size ≤ w14.heap.size) := b14.size
  have o3_14 := o3_13.below' b14
  have om11_14 := om11_13.below' b14
  have o13_14 := o13.below' b14
  rw [Int64.eqSB_self]
  go_wp2_with fail
  refine (heldInt64S_any _ _ _ _ _ om11_14 (by omega) (by omega) HL5.out).mono ?_
  rintro e w' ⟨rfl, rfl⟩
  go_wp2
  go_ret
  exact Ret.b rfl t14

end Go.Proofs.Ytpibiieibofggaa
