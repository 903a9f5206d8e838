/- The walk of the law FnExactSameHistory: it returns true. -/
import Derived.Test.YtoociholchamhaaHist
namespace Go.Proofs.Ytoociholchamhaa
open Go.RowKit

set_option maxRecDepth 100000 in
set_option maxHeartbeats 1000000 in
theorem walk_FnExactSameHistory (A0 : Option Addr) (n0 c0 : Nat) (p0 : List VersionR) (A1 : Option Addr) (n1 c1 : Nat) (p1 : List VersionR) (w : World) (s0 : SliceOf w 4 VersionR.cells A0 n0 p0) (g0 : ∀ x ∈ p0, x.In w ∧ x.val.Good) (s1 : SliceOf w 4 VersionR.cells A1 n1 p1) (g1 : ∀ x ∈ p1, x.In w ∧ x.val.Good) : Calls Try.prog 11 #[.slice A0 n0 c0, .slice A1 n1 c1] w (Ret (.bool true) w) := by
  obtain ⟨x0, hx0⟩ : ∃ x, p0.map VersionR.val = x := ⟨_, rfl⟩
  have e0 := Version.eqSB_self x0
  have ln0 := s0.le
  have hl0 := Lib.hid s0.len
  have S0 : Version.Sl w A0 n0 x0 := ⟨p0, s0, fun p hp => (g0 p hp).1, hx0.symm⟩
  have Hx0 := Lib.hid hx0
  clear hx0
  have G0 := Lib.hid g0
  clear g0
  obtain ⟨x1, hx1⟩ : ∃ x, p1.map VersionR.val = x := ⟨_, rfl⟩
  have e1 := Version.eqSB_self x1
  have ln1 := s1.le
  have hl1 := Lib.hid s1.len
  have S1 : Version.Sl w A1 n1 x1 := ⟨p1, s1, fun p hp => (g1 p hp).1, hx1.symm⟩
  have Hx1 := Lib.hid hx1
  clear hx1
  have G1 := Lib.hid g1
  clear g1
  go_enter Try.func11, Try.ntmps11
  go_wp2_with fail
  refine (szVersionS_any _ _ _ p0 _ _ (s0.below (Below.refl w.heap.size w)) (fun p hp => (G0.out p hp).1.below (Below.refl w.heap.size w)) (fun p hp => (G0.out p hp).2) (by omega) (by omega)).mono ?_
  rintro e w1 ⟨v, rfl, ⟨r1, rfl, q1⟩, b1⟩
  have t1 : Below w.heap.size w w1 := (Below.refl w.heap.size w).trans (b1.mono (Below.refl w.heap.size w).size)
  have z1 : Hid (w.heap.size ≤ w1.heap.size) := b1.size
  have Q1 := Lib.hid q1
  have r1c : r1 < 0 ∨ 0 ≤ r1 ∧ r1 ≤ 1048576 ∧ (n0 : Int) ≤ 1048576 := by rcases q1 with h | h <;> omega
  clear q1
  by_cases y1 : r1 < 0
  · go_wp2
    go_ret
    exact Ret.b rfl t1
  have l1 : n0 ≤ 1048576 := by omega
  have inn0 : Hid (∀ x ∈ x0, x.state.length ≤ 1048576) := fun x hx => by
    rw [← Hx0.out] at hx
    obtain ⟨p, hp, rfl⟩ := List.mem_map.1 hx
    have h := (Q1.out.resolve_left y1).2.2.2 p hp
    rw [← (G0.out p hp).1.1.len] at h
    exact h
  go_wp2_with fail
  refine (szVersionS_any _ _ _ p1 _ _ (s1.below t1) (fun p hp => (G1.out p hp).1.below t1) (fun p hp => (G1.out p hp).2) (by omega) (by omega)).mono ?_
  rintro e w2 ⟨v, rfl, ⟨r2, rfl, q2⟩, b2⟩
  have t2 : Below w.heap.size w w2 := t1.trans (b2.mono t1.size)
  have z2 : Hid (w1.heap.size ≤ w2.heap.size) := b2.size
  have Q2 := Lib.hid q2
  have r2c : r2 < 0 ∨ 0 ≤ r2 ∧ r2 ≤ r1 ∧ (n1 : Int) ≤ 1048576 := by rcases q2 with h | h <;> omega
  clear q2
  by_cases y2 : r2 < 0
  · go_wp2
    go_ret
    exact Ret.b rfl t2
  have l2 : n1 ≤ 1048576 := by omega
  have inn1 : Hid (∀ x ∈ x1, x.state.length ≤ 1048576) := fun x hx => by
    rw [← Hx1.out] at hx
    obtain ⟨p, hp, rfl⟩ := List.mem_map.1 hx
    have h := (Q2.out.resolve_left y2).2.2.2 p hp
    rw [← (G1.out p hp).1.1.len] at h
    exact h
  go_wp2_with fail
  refine (toVersionS_any _ _ _ x0 _ (S0.below t2) l1 inn0.out).mono ?_
  rintro e w3 ⟨v3, rfl, o3, b3⟩
  have t3 : Below w.heap.size w w3 := t2.trans (b3.mono t2.size)
  have z3 : Hid (w2.heap.size ≤ w3.heap.size) := b3.size
  obtain ⟨A_3, c_3, rfl, hc3, hm3, u3⟩ := o3.slice
  clear u3
  go_wp2_with fail
  refine (toVersionS_any _ _ _ x1 _ (S1.below t3) l2 inn1.out).mono ?_
  rintro e w4 ⟨v4, rfl, o4, b4⟩
  have t4 : Below w.heap.size w w4 := t3.trans (b4.mono t3.size)
  have z4 : Hid (w3.heap.size ≤ w4.heap.size) := b4.size
  have o3_4 := o3.below' b4
  obtain ⟨A_4, c_4, rfl, hc4, hm4, u4⟩ := o4.slice
  clear u4
  go_wp2_with fail
  refine (specSameHistory_any _ _ _ _ _ _ x0 x1 _ o3_4.sl o4.sl).mono ?_
  rintro e w5 ⟨rfl, b5⟩
  have t5 : Below w.heap.size w w5 := t4.trans (b5.mono t4.size)
  have z5 : Hid (w4.heap.size ≤ w5.heap.size) := b5.size
  have o3_5 := o3_4.below' b5
  have o4_5 := o4.below' b5
  go_wp2_with fail
  refine (toVersionS_any _ _ _ x0 _ (S0.below t5) l1 inn0.out).mono ?_
  rintro e w6 ⟨v6, rfl, o6, b6⟩
  have t6 : Below w.heap.size w w6 := t5.trans (b6.mono t5.size)
  have z6 : Hid (w5.heap.size ≤ w6.heap.size) := b6.size
  obtain ⟨A_6, c_6, rfl, hc6, hm6, u6⟩ := o6.slice
  clear u6
  go_wp2_with fail
  refine (toVersionS_any _ _ _ x1 _ (S1.below t6) l2 inn1.out).mono ?_
  rintro e w7 ⟨v7, rfl, o7, b7⟩
  have t7 : Below w.heap.size w w7 := t6.trans (b7.mono t6.size)
  have z7 : Hid (w6.heap.size ≤ w7.heap.size) := b7.size
  have o6_7 := o6.below' b7
  obtain ⟨A_7, c_7, rfl, hc7, hm7, u7⟩ := o7.slice
  clear u7
  go_wp2_with fail
  refine (implSameHistory_any _ _ _ _ _ _ x0 x1 _ o6_7.sl o7.sl).mono ?_
  rintro e w8 ⟨rfl, b8⟩
  have t8 : Below w.heap.size w w8 := t7.trans (b8.mono t7.size)
  have z8 : Hid (w7.heap.size ≤ w8.heap.size) := b8.size
  have o6_8 := o6_7.below' b8
  have o7_8 := o7.below' b8
  go_wp2_with fail
  refine (toVersionS_any _ _ _ x0 _ (S0.below t8) l1 inn0.out).mono ?_
  rintro e w9 ⟨v9, rfl, o9, b9⟩
  have t9 : Below w.heap.size w w9 := t8.trans (b9.mono t8.size)
  have z9 : Hid (w8.heap.size ≤ w9.heap.size) := b9.size
  have o6_9 := o6_8.below' b9
  have o7_9 := o7_8.below' b9
  obtain ⟨A_9, c_9, rfl, hc9, hm9, u9⟩ := o9.slice
  clear u9
  go_wp2_with fail
  refine (eqVersionS_any _ _ _ _ _ _ _ _ _ o6_9.sl o9.sl).mono ?_
  rintro e w10 ⟨rfl, b10⟩
  have t10 : Below w.heap.size w w10 := t9.trans (b10.mono t9.size)
  have z10 : Hid (w9.heap.size ≤ w10.heap.size) := b10.size
  have o6_10 := o6_9.below' b10
  have o7_10 := o7_9.below' b10
  have o9_10 := o9.below' b10
  go_wp2_with fail
  refine (toVersionS_any _ _ _ x1 _ (S1.below t10) l2 inn1.out).mono ?_
  rintro e w11 ⟨v11, rfl, o11, b11⟩
  have t11 : Below w.heap.size w w11 := t10.trans (b11.mono t10.size)
  have z11 : Hid (w10.heap.size ≤ w11.heap.size) := b11.size
  have o6_11 := o6_10.below' b11
  have o7_11 := o7_10.below' b11
  obtain ⟨A_11, c_11, rfl, hc11, hm11, u11⟩ := o11.slice
  clear u11
  go_wp2_with fail
  refine (eqVersionS_any _ _ _ _ _ _ _ _ _ o7_11.sl o11.sl).mono ?_
  rintro e w12 ⟨rfl, b12⟩
  have t12 : Below w.heap.size w w12 := t11.trans (b12.mono t11.size)
  have z12 : Hid (w11.heap.size ≤ w12.heap.size) := b12.size
  have o6_12 := o6_11.below' b12
  have o7_12 := o7_11.below' b12
  have o11_12 := o11.below' b12
  go_wp2
  go_ret
  exact Ret.b rfl t12

end Go.Proofs.Ytoociholchamhaa
