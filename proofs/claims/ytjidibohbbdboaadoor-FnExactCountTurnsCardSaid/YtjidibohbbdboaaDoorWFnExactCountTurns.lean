/- The walk of the law FnExactCountTurns: it returns true. -/
import Derived.Test.YtjidibohbbdboaaDoorCntS
import Derived.Test.YtjidibohbbdboaaDoorCntJ
import Derived.Test.YtjidibohbbdboaaDoorTRow
namespace Go.Proofs.YtjidibohbbdboaaDoor
open Go.RowKit

set_option maxRecDepth 100000 in
set_option maxHeartbeats 1000000 in
theorem walk_FnExactCountTurns (a0 : Int) (a1 : Int) (a2 : Int) (A3 : Option Addr) (n3 c3 : Nat) (p3 : List RowR) (w : World) (_g0 : I64 a0) (_g1 : I64 a1) (_g2 : I64 a2) (s3 : SliceOf w 1 RowR.cells A3 n3 p3) (g3 : ∀ x ∈ p3, x.In w ∧ x.val.Good) (htb : TabAt w.heap.size w) : Calls Tryd.prog 3 #[.int .i64 a0, .int .i64 a1, .int .i64 a2, .slice A3 n3 c3] w (Ret (.bool true) w) := by
  have HTB := Lib.hid htb
  clear htb
  obtain ⟨x3, hx3⟩ : ∃ x, p3.map RowR.val = x := ⟨_, rfl⟩
  have e3 := Row.eqSB_self x3
  have ln3 := s3.le
  have hl3 := Lib.hid s3.len
  have S3 : Row.Sl w A3 n3 x3 := ⟨p3, s3, fun p hp => (g3 p hp).1, hx3.symm⟩
  have Hx3 := Lib.hid hx3
  clear hx3
  have G3 := Lib.hid g3
  have GG3 : Hid (∀ x ∈ x3, x.Good) := fun x hx => by
    rw [← Hx3.out] at hx
    obtain ⟨p, hp, rfl⟩ := List.mem_map.1 hx
    exact (G3.out p hp).2
  clear g3
  go_enter Tryd.func3, Tryd.ntmps3
  go_wp2_with fail
  refine (szRowS_any _ _ _ p3 _ _ (s3.below (Below.refl w.heap.size w)) (fun p hp => (G3.out p hp).1.below (Below.refl w.heap.size w)) (fun p hp => (G3.out p hp).2) (by omega) (by omega)).mono ?_
  rintro e w1 ⟨v, rfl, ⟨r1, rfl, q1⟩, b1⟩
  have t1 : Below w.heap.size w w1 := (Below.refl w.heap.size w).trans (b1.mono (Below.refl w.heap.size w).size)
  have z1 : Hid (w.heap.size ≤ w1.heap.size) := b1.size
  have Q1 := Lib.hid q1
  have r1c : r1 < 0 ∨ 0 ≤ r1 ∧ r1 ≤ 1048576 ∧ (n3 : Int) ≤ 1048576 := by rcases q1 with h | h <;> omega
  clear q1
  by_cases y1 : r1 < 0
  · go_wp2
    go_ret
    exact Ret.b rfl t1
  have l1 : n3 ≤ 1048576 := by omega
  have inn3 : Hid (∀ x ∈ x3, x.list.length ≤ 1048576) := fun x hx => by
    rw [← Hx3.out] at hx
    obtain ⟨p, hp, rfl⟩ := List.mem_map.1 hx
    have h := (Q1.out.resolve_left y1).2.2.2 p hp
    rw [← (G3.out p hp).1.1.len] at h
    exact h
  go_wp2_with fail
  refine (toRowS_any _ _ _ x3 _ (S3.below t1) l1 inn3.out).mono ?_
  rintro e w2 ⟨v2, rfl, o2, b2⟩
  have t2 : Below w.heap.size w w2 := t1.trans (b2.mono t1.size)
  have z2 : Hid (w1.heap.size ≤ w2.heap.size) := b2.size
  obtain ⟨A_2, c_2, rfl, hc2, hm2, u2⟩ := o2.slice
  clear u2
  go_wp2_with fail
  refine (specCountTurns_any a0 a1 a2 _ _ _ x3 _ o2.sl).mono ?_
  rintro e w3 ⟨rfl, b3⟩
  have t3 : Below w.heap.size w w3 := t2.trans (b3.mono t2.size)
  have z3 : Hid (w2.heap.size ≤ w3.heap.size) := b3.size
  have o2_3 := o2.below' b3
  go_wp2_with fail
  refine (toRowS_any _ _ _ x3 _ (S3.below t3) l1 inn3.out).mono ?_
  rintro e w4 ⟨v4, rfl, o4, b4⟩
  have t4 : Below w.heap.size w w4 := t3.trans (b4.mono t3.size)
  have z4 : Hid (w3.heap.size ≤ w4.heap.size) := b4.size
  obtain ⟨A_4, c_4, rfl, hc4, hm4, u4⟩ := o4.slice
  clear u4
  go_wp2_with fail
  refine (implCountTurns_any a0 a1 a2 _ _ _ x3 _ o4.sl (HTB.out.grow t4)).mono ?_
  rintro e w5 ⟨rfl, b5⟩
  have t5 : Below w.heap.size w w5 := t4.trans (b5.mono t4.size)
  have z5 : Hid (w4.heap.size ≤ w5.heap.size) := b5.size
  have o4_5 := o4.below' b5
  go_wp2_with fail
  refine (toRowS_any _ _ _ x3 _ (S3.below t5) l1 inn3.out).mono ?_
  rintro e w6 ⟨v6, rfl, o6, b6⟩
  have t6 : Below w.heap.size w w6 := t5.trans (b6.mono t5.size)
  have z6 : Hid (w5.heap.size ≤ w6.heap.size) := b6.size
  have o4_6 := o4_5.below' b6
  obtain ⟨A_6, c_6, rfl, hc6, hm6, u6⟩ := o6.slice
  clear u6
  go_wp2_with fail
  refine (eqRowS_any _ _ _ _ _ _ _ _ _ o4_6.sl o6.sl).mono ?_
  rintro e w7 ⟨rfl, b7⟩
  have t7 : Below w.heap.size w w7 := t6.trans (b7.mono t6.size)
  have z7 : Hid (w6.heap.size ≤ w7.heap.size) := b7.size
  have o4_7 := o4_6.below' b7
  have o6_7 := o6.below' b7
  go_wp2
  go_ret
  exact Ret.b rfl t7

end Go.Proofs.YtjidibohbbdboaaDoor
